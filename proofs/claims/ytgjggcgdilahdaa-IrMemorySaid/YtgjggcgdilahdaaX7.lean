/- Executor, second make: operations that read memory. -/
import Derived.Test.YtgjggcgdilahdaaX6
import Derived.Laws.Append
import Derived.Laws.AppendOwn
import Derived.Lib.AppendStr
import Derived.ChangeKeysEq
set_option linter.unusedVariables false
set_option linter.unusedSimpArgs false
set_option linter.constructorNameAsVariable false
set_option linter.unusedVariables false
set_option linter.unusedSimpArgs false
namespace Go.Xe
open Go.RowKit

/- What a cell holds, by its kind. -/
noncomputable abbrev SV.cB (v : SV) (K : Bool → Prop) : Prop := match v with | .bool b => K b | _ => False
noncomputable abbrev SV.cI (k : IntKind) (v : SV) (K : Int → Prop) : Prop := match v with | .int j n => req (decide (j = k)) (K n) | _ => False
noncomputable abbrev SV.cS (v : SV) (K : List Nat → Prop) : Prop := match v with | .str s => K s | _ => False
noncomputable abbrev SV.cP (v : SV) (K : PV → Prop) : Prop := match v with | .ptr p => K p | _ => False
noncomputable abbrev SV.cL (v : SV) (K : LV → Prop) : Prop := match v with | .sl p => K p | _ => False
noncomputable abbrev SV.cM (v : SV) (K : MV → Prop) : Prop := match v with | .map p => K p | _ => False
noncomputable abbrev SV.cF (v : SV) (K : FV → Prop) : Prop := match v with | .fn p => K p | _ => False
/-- A cell of the kind that z is of. -/
noncomputable abbrev tkK (z v : SV) (K : SV → Prop) : Prop := match z with
  | .bool _ => v.cB fun b => K (.bool b)
  | .int k _ => v.cI k fun n => K (.int k n)
  | .str _ => v.cS fun s => K (.str s)
  | .ptr _ => v.cP fun p => K (.ptr p)
  | .sl _ => v.cL fun p => K (.sl p)
  | .map _ => v.cM fun p => K (.map p)
  | .fn _ => v.cF fun p => K (.fn p)
theorem tkK_some {z v K} (h : tkK z v K) : K v := by
  unfold tkK at h
  cases z <;> simp only [SV.cB, SV.cI, SV.cS, SV.cP, SV.cL, SV.cM, SV.cF] at h <;> split at h <;> first | exact h | exact h.elim | (obtain ⟨h1, h2⟩ := req_and h; have := of_decide_eq_true h1; subst this; exact h2)
theorem tkK_self {z v K K'} (h : tkK z v K) (h' : K' v) : tkK z v K' := by
  unfold tkK at h ⊢
  cases z <;> cases v <;> simp only [SV.cB, SV.cI, SV.cS, SV.cP, SV.cL, SV.cM, SV.cF] at h ⊢ <;> first | exact h' | exact h.elim | (obtain ⟨h1, h2⟩ := req_and h; have h3 := of_decide_eq_true h1; subst h3; rw [h1]; exact h')
noncomputable abbrev uncK (l : List SV) (K : SV → List SV → Prop) : Prop := List.rec (motive := fun _ => Prop) False (fun v r _ => K v r) l
theorem uncK_some {l K} (h : uncK l K) : ∃ v r, l = v :: r ∧ K v r := by cases l; exact h.elim; exact ⟨_, _, rfl, h⟩
/-- The first cells, of the kinds that zs are of. -/
noncomputable abbrev takeK (zs l : List SV) (K : List SV → Prop) : Prop :=
  List.rec (motive := fun _ => List SV → (List SV → Prop) → Prop) (fun _ K => K []) (fun z _ ih l K => uncK l fun v r => tkK z v fun v => ih r fun vs => K (v :: vs)) zs l K
theorem takeK_some : ∀ {zs l K}, takeK zs l K → K (l.take zs.length) ∧ zs.length ≤ l.length
  | [], l, K, h => ⟨by simpa using h, by simp⟩
  | z :: zs, l, K, h => by
    obtain ⟨v, r, rfl, h3⟩ := uncK_some h
    have h4 := tkK_some h3
    obtain ⟨h1, h2⟩ := takeK_some (zs := zs) (l := r) (K := fun vs => K (v :: vs)) h4
    exact ⟨by simpa using h1, by simpa using h2⟩

/-- A block's cells from one on. -/
def St.at (S : St) (b : Bk) (o : Nat) (K : List SV → Prop) : Prop := match S.get b with
  | some (.cells l _) => K (l.drop o)
  | some (.wide n z t) => req (Nat.blt o n) (K [widVal z t o])
  | _ => False

/-- What an address holds. -/
noncomputable abbrev loadK (P : Program) (S : St) (t : TypeId) (x : SV) (K : AV → Prop) : Prop :=
  match x with
  | .ptr p => (match isAggA P t with
    | some true => optK (sizeA P t) fun n => optK (zeroA P t) fun z => (match z with
      | .agg zs => req (Nat.beq zs.length n) (PV.cs p fun b o => S.at b o fun l => takeK zs l fun vs => K (.one (.agg vs)))
      | _ => False)
    | some false => optK (zeroA P t) fun z => (match z with
      | .s z => PV.cs p fun b o => S.at b o fun l => uncK l fun v _ => tkK z v fun v => K (.one (.s v))
      | _ => False)
    | none => False)
  | _ => False

theorem Sim.wide {base ρ g next w} (h : Sim base ρ g next w) {b : Bk} {n : Nat} {z : SV} {t : HM SV} (hb : g b = some (.wide n z t)) {r sh m : Nat} (hρ : ρ b = some (r, sh, m)) {o : Nat} (ho : o < n) :
    ∃ v, SR ρ (widVal z t o) v ∧ w.cell? ⟨r, sh + o, none⟩ = some v := by
  obtain ⟨r', sh', m', h1, h2⟩ := h.obj _ _ hb
  rw [hρ] at h1; cases h1
  obtain ⟨vs, ty, hobj, rfl, hl, rfl, hv⟩ := h2.thawed
  obtain ⟨fz, hobj⟩ := thaw_cells hobj
  have hlt : o < vs.length := by omega
  refine ⟨vs[o], hv o _ (by simp [hlt]), ?_⟩
  simp only [World.cell?, hobj]
  simp [hlt]

/-- A run that only reads. -/
def Reads (base : Nat) (P : Program) (ρ : Ren) (S : St) (K : AV → Prop) (s : Sem Value) : Prop :=
  ∃ v, K v ∧ ∀ next w, Sim base ρ S.get next w → ∃ cv, VR ρ v cv ∧ s.run P w = .ok cv w

theorem loadK_run {P S t x K} (h : loadK P S t x K) {ρ : Ren} {cx} (hx : SR ρ x cx) (base : Nat) : Reads base P ρ S K (Instr.loadAt t cx) := by
  unfold loadK at h
  split at h
  · rename_i p
    split at h
    · rename_i ha
      have hr := isAggA_run ha
      obtain ⟨n, hn, h⟩ := optK_some h
      obtain ⟨z, hz, h⟩ := optK_some h
      split at h
      · rename_i zs
        obtain ⟨hb, h⟩ := req_and h
        have hlen := Nat.eq_of_beq_eq_true hb
        obtain ⟨b, o, rfl, hq⟩ := PV.cs_mk h; have h := hq; clear hq
        obtain ⟨r, sh, m, h1, rfl⟩ := hx
        obtain ⟨h2, h3⟩ := sizeA_run hn
        unfold St.at at h
        split at h
        · rename_i l op hg
          obtain ⟨h, hle⟩ := takeK_some h
          rw [hlen] at h hle
          refine ⟨_, h, fun next w hw => ?_⟩
          obtain ⟨vs, h4, h5⟩ := hw.readCells hg h1 o n (by simp at hle; omega) P
          exact ⟨_, ⟨vs, rfl, h4⟩, by simp [Instr.loadAt, Instr.sureAddr, loadVar, hr, h3, h5]⟩
        · rename_i n' z' t' hg
          obtain ⟨ho, h⟩ := req_and h
          rw [blt_iff] at ho
          obtain ⟨h, hle⟩ := takeK_some h
          rw [hlen] at h hle
          have hn1 : n = 1 := by simp at hle; omega
          subst hn1
          refine ⟨_, h, fun next w hw => ?_⟩
          obtain ⟨v, h4, h5⟩ := hw.wide hg h1 ho
          have hl := run_loadCells_list (P := P) w ⟨r, sh + o, none⟩ [v] (fun j u hj => by
            cases j with
            | zero => simp at hj; subst hj; simpa [add_at] using h5
            | succ j => simp at hj)
          exact ⟨_, ⟨[v], rfl, .cons h4 .nil⟩, by simp at hl; simp [Instr.loadAt, Instr.sureAddr, loadVar, hr, h3, hl]⟩
        · exact h.elim
      · exact h.elim
    · rename_i ha
      have hr := isAggA_run ha
      obtain ⟨z, hz, h⟩ := optK_some h
      split at h
      · rename_i z
        obtain ⟨b, o, rfl, hq⟩ := PV.cs_mk h; have h := hq; clear hq
        obtain ⟨r, sh, m, h1, rfl⟩ := hx
        unfold St.at at h
        split at h
        · rename_i l op hg
          obtain ⟨v, rs, hl, h⟩ := uncK_some h
          have h := tkK_some h
          refine ⟨_, h, fun next w hw => ?_⟩
          have h4 : l[o]? = some v := by have := congrArg (fun x => x[0]?) hl; simpa using this
          obtain ⟨vs, h5, h6, _⟩ := hw.read hg h1
          obtain ⟨cv, h7, h8⟩ := h5.get h4
          exact ⟨cv, h8, by simp [Instr.loadAt, Instr.sureAddr, loadVar, hr, h6 _ _ h7]⟩
        · rename_i n' z' t' hg
          obtain ⟨ho, h⟩ := req_and h
          rw [blt_iff] at ho
          obtain ⟨v, rs, hl, h⟩ := uncK_some h
          cases hl
          have h := tkK_some h
          refine ⟨_, h, fun next w hw => ?_⟩
          obtain ⟨v, h4, h5⟩ := hw.wide hg h1 ho
          exact ⟨v, h4, by simp [Instr.loadAt, Instr.sureAddr, loadVar, hr, h5]⟩
        · exact h.elim
      · exact h.elim
    · exact h.elim
  · exact h.elim

/-- A map's entries. -/
def St.mp (S : St) (m : MV) (K : List (V1 × V1 × Nat) → Prop) : Prop := match m with
  | .nil => K []
  | .mk b => match S.get b with
    | some (.map es _) => K es
    | _ => False

noncomputable abbrev v1S (v : V1) (K : SV → Prop) : Prop := match v with | .s x => K x | .agg _ => False
theorem v1S_some {v K} (h : v1S v K) : ∃ x, v = .s x ∧ K x := by
  unfold v1S at h; split at h
  · exact ⟨_, rfl, h⟩
  · exact h.elim
theorem cS_some {v K} (h : SV.cS v K) : ∃ b, v = .str b ∧ K b := by
  unfold SV.cS at h; split at h
  · exact ⟨_, rfl, h⟩
  · exact h.elim
theorem cL_some {v K} (h : SV.cL v K) : ∃ b, v = .sl b ∧ K b := by
  unfold SV.cL at h; split at h
  · exact ⟨_, rfl, h⟩
  · exact h.elim
theorem cM_some {v K} (h : SV.cM v K) : ∃ b, v = .map b ∧ K b := by
  unfold SV.cM at h; split at h
  · exact ⟨_, rfl, h⟩
  · exact h.elim
noncomputable abbrev lenK (P : Program) (S : St) (t : TypeId) (x : V1) (K : AV → Prop) : Prop :=
  match P.underlying t with
  | some .string => v1S x fun y => SV.cS y fun s => K (.one (.s (.int .i64 (Int.ofNat s.length))))
  | some (.slice _) => v1S x fun y => SV.cL y fun s => K (.one (.s (.int .i64 (Int.ofNat s.len))))
  | some (.array n _) => K (.one (.s (.int .i64 (Int.ofNat n))))
  | some (.map _ _) => v1S x fun y => SV.cM y fun m => S.mp m fun es => K (.one (.s (.int .i64 (Int.ofNat es.length))))
  | _ => False
theorem lenK_run {P S t x K} (h : lenK P S t x K) {ρ : Ren} {cx} (hx : VR1 ρ x cx) (base : Nat) (ty : TypeId) : Reads base P ρ S K (Builtin.len_ #[t] ty #[cx]) := by
  unfold lenK at h
  split at h
  · rename_i hu
    obtain ⟨y, rfl, h⟩ := v1S_some h
    obtain ⟨s, rfl, h⟩ := cS_some h
    obtain ⟨u, rfl, hs⟩ := hx
    exact ⟨_, h, fun next w hw => ⟨_, rfl, by simp [Builtin.len_, underlying, hu, goInt, strOf_size hs]⟩⟩
  · rename_i hu
    obtain ⟨y, rfl, h⟩ := v1S_some h
    obtain ⟨s, rfl, h⟩ := cL_some h
    cases s with
    | nil => cases hx; exact ⟨_, h, fun next w hw => ⟨_, rfl, by simp [Builtin.len_, underlying, hu, goInt, LV.len]⟩⟩
    | mk b o n c => obtain ⟨_, _, _, _, _, _, rfl, _⟩ := hx; exact ⟨_, h, fun next w hw => ⟨_, rfl, by simp [Builtin.len_, underlying, hu, goInt, LV.len]⟩⟩
  · rename_i hu; exact ⟨_, h, fun next w hw => ⟨_, rfl, by simp [Builtin.len_, underlying, hu, goInt]⟩⟩
  · rename_i hu
    obtain ⟨y, rfl, h⟩ := v1S_some h
    obtain ⟨m, rfl, hq⟩ := cM_some h
    clear h
    have h := hq
    clear hq
    unfold St.mp at h
    split at h
    · cases hx; exact ⟨_, h, fun next w hw => ⟨_, rfl, by simp [Builtin.len_, underlying, hu, goInt]⟩⟩
    · rename_i b
      split at h
      · rename_i es ck hb
        refine ⟨_, h, fun next w hw => ?_⟩
        obtain ⟨r, sh, m, h1, rfl⟩ := hx
        obtain ⟨r', sh', m', h2, xs, h3, h4⟩ := hw.objM hb
        rw [h1] at h2; cases h2
        refine ⟨_, rfl, ?_⟩
        have hl := h4.length
        simp [Builtin.len_, underlying, hu, goInt, getObj, Sem.run, h3, hl]
      · exact h.elim
  · exact h.elim

noncomputable abbrev capK (P : Program) (t : TypeId) (x : V1) (K : AV → Prop) : Prop :=
  match P.underlying t, x with
  | some (.slice _), .s (.sl s) => LV.rec (motive := fun _ => Prop) (K (.one (.s (.int .i64 0)))) (fun _ _ _ c => Sum.rec (motive := fun _ => Prop) (fun c => K (.one (.s (.int .i64 (Int.ofNat c))))) (fun _ => False) c) s
  | _, _ => False
theorem capK_run {P t x K} (h : capK P t x K) {ρ : Ren} {cx} (hx : VR1 ρ x cx) (ty : TypeId) : Snd P ρ K (Builtin.cap_ #[t] ty #[cx]) := by
  unfold capK at h
  split at h
  · rename_i s hu
    cases s with
    | nil => cases hx; exact ⟨_, _, h, rfl, fun w => by simp [Builtin.cap_, underlying, hu, goInt]⟩
    | mk b o n c =>
      obtain ⟨_, _, _, cc, _, _, rfl, _, _, hc, _⟩ := hx
      cases c with
      | inl c => obtain rfl := hc c rfl; exact ⟨_, _, h, rfl, fun w => by simp [Builtin.cap_, underlying, hu, goInt]⟩
      | inr c => exact h.elim
  · exact h.elim

/-- A text out of a row of bytes. -/
def bytesOfL : List SV → Option (List Nat)
  | [] => some []
  | .int .u8 (.ofNat n) :: l => cond (Nat.blt n 256) (match bytesOfL l with | some m => some (n :: m) | none => none) none
  | _ => none

theorem bytes_fold {P : Program} {ρ : Ren} : ∀ {l m}, bytesOfL l = some m → ∀ {vs : List Value}, All2 (SR ρ) l vs → ∀ (acc : ByteArray) (l0 : List Nat), strOf l0 acc → ∀ (w : World),
    ∃ s, strOf (l0 ++ m) s ∧ (forIn vs acc (fun (c : Value) (s : ByteArray) => (match c with
      | .int .u8 n => (do pure (ForInStep.yield (s.push (UInt8.ofNat n.toNat))) : Sem (ForInStep ByteArray))
      | _ => (do
        stuck "bytesToString: byte expected"
        pure (ForInStep.yield s))))).run P w = .ok s w
  | [], m, h, vs, hv, acc, l0, h0, w => by
    cases hv; cases h
    exact ⟨acc, by simpa using h0, by simp⟩
  | a :: l, m, h, vs, hv, acc, l0, h0, w => by
    cases hv with
    | cons ha ht =>
      rename_i b bs
      unfold bytesOfL at h
      split at h
      · rename_i hh; cases hh
      · rename_i n l' hh
        cases hh
        cases hn : Nat.blt n 256 with
        | false => rw [hn] at h; cases h
        | true =>
          rw [hn] at h
          simp only [cond_true] at h
          split at h
          · rename_i m' hm
            cases h; cases ha
            rw [blt_iff] at hn
            obtain ⟨s, h1, h2⟩ := bytes_fold hm ht (acc.push (UInt8.ofNat n)) (l0 ++ [n]) (by
              unfold strOf at *
              simp [h0, ByteArray.push, UInt8.toNat_ofNat, Nat.mod_eq_of_lt hn]) w
            refine ⟨s, by simpa using h1, ?_⟩
            simp only [List.forIn_cons, Sem.run_bind, Sem.run_pure, Result.andThen_ok, Int.ofNat_eq_natCast, Int.toNat_natCast]
            exact h2
          · cases h
      · cases h

/-- A text out of a slice of bytes. -/
def St.text (S : St) (x : LV) (K : List Nat → Prop) : Prop := match x with
  | .nil => K []
  | .mk b o n _ => match S.get b with
    | some (.cells l _) => req (Nat.ble (o + n) l.length) (optK (bytesOfL ((l.drop o).take n)) K)
    | _ => False
noncomputable abbrev bytesK (P : Program) (S : St) (src dst : TypeId) (x : SV) (K : AV → Prop) : Prop :=
  match P.underlying src, P.underlying dst with
  | some (.slice e), some .string => (match P.underlying e, x with
    | some (.int .u8), .sl s => S.text s fun m => K (.one (.s (.str m)))
    | _, _ => False)
  | _, _ => False
theorem loadCells_none {P : Program} {w : World} (a : Addr) : (loadCells a 0).run P w = .ok #[] w := by
  have := run_loadCells_list (P := P) w a [] (fun j v hj => by simp at hj)
  simpa using this
theorem bytesK_run {P src dst S x K} (h : bytesK P S src dst x K) {ρ : Ren} {cx} (hx : SR ρ x cx) (base : Nat) : Reads base P ρ S K (convert src dst cx) := by
  unfold bytesK at h
  split at h
  · rename_i e hu hv
    split at h
    · rename_i s he
      unfold St.text at h
      split at h
      · cases hx
        exact ⟨_, h, fun next w hw => ⟨.string .empty, ⟨_, rfl, rfl⟩, by simp [convert, underlying, hu, hv, he, Conv.bytesToString]⟩⟩
      · rename_i b o n c
        split at h
        · rename_i l op hb
          obtain ⟨hc, h⟩ := req_and h
          obtain ⟨m, h1, h⟩ := optK_some h
          refine ⟨_, h, fun next w hw => ?_⟩
          obtain ⟨r, sh, M, cc, o', h2, rfl, ho, hnc, _⟩ := hx
          have hrow : ∃ vs : List Value, All2 (SR ρ) ((l.drop o).take n) vs ∧ (loadCells ⟨r, o', none⟩ n).run P w = .ok vs.toArray w := by
            by_cases h0 : cc = 0
            · have : n = 0 := by omega
              subst this
              exact ⟨[], by simp; exact .nil, loadCells_none _⟩
            · rw [ho h0]; exact hw.readCells hb h2 o n (Nat.le_of_ble_eq_true hc) P
          obtain ⟨vs, h4, h5⟩ := hrow
          obtain ⟨s, h6, h7⟩ := bytes_fold (P := P) h1 h4 .empty [] rfl w
          refine ⟨.string s, ⟨s, rfl, by simpa using h6⟩, ?_⟩
          simp only [convert, underlying, Sem.run_bind, run_program, Result.andThen_ok, hu, hv, he, Sem.run_pure, Conv.bytesToString, h5]
          rw [← Array.forIn_toList]
          simp only [List.toList_toArray]
          exact (congrArg (fun r : Result ByteArray => r.andThen fun a w' => Result.ok (Value.string a) w') h7)
        · exact h.elim
    · exact h.elim
  · exact h.elim
end Go.Xe
