/- Executor, second make: new memory, stores. -/
import Derived.Test.YtgjggcgdilahdaaX8
set_option linter.unusedVariables false
set_option linter.unusedSimpArgs false
set_option linter.constructorNameAsVariable false
set_option linter.unusedVariables false
set_option linter.unusedSimpArgs false
namespace Go.Xe
open Go.RowKit

/-- A run that makes one block. -/
def Makes (base : Nat) (P : Program) (ρ : Ren) (ao : AO) (v : Bk → SV) (s : Sem Value) : Prop :=
  ∀ g next w, Sim base ρ g next w → ∃ cv o m, s.run P w = .ok cv (w.alloc o) ∧ OR ρ ao 0 m (some o) ∧
    ∀ b ρ', Le ρ ρ' → ρ' b = some (w.heap.size, 0, m) → SR ρ' (v b) cv
/-- A run that turns memory, from S on. -/
def Turn (base : Nat) (P : Program) (ρ : Ren) (S : St) (w : World) (K : AV → St → Prop) (s : Sem Value) : Prop :=
  ∃ v S' cv ρ' w', K v S' ∧ s.run P w = .ok cv w' ∧ VR ρ' v cv ∧ Next base ρ S.get S.next w S'.get S'.next ρ' w'
theorem Makes.turn {base P ρ ao v s} (h : Makes base P ρ ao v s) {S : St} {w} (hw : Sim base ρ S.get S.next w) {K : AV → St → Prop} (hK : K (.one (.s (v (.new S.next)))) (S.add ao)) : Turn base P ρ S w K s := by
  obtain ⟨cv, o, m, h1, h2, h3⟩ := h _ _ w hw
  obtain ⟨ρ', h4, h5⟩ := hw.new h2
  exact ⟨_, _, cv, ρ', _, hK, h1, h3 _ ρ' h5.le h4, h5⟩

def rep (z : List SV) : Nat → List SV
  | 0 => []
  | n + 1 => z ++ rep z n
theorem rep_length (z : List SV) : ∀ n, (rep z n).length = n * z.length
  | 0 => by simp [rep]
  | n + 1 => by simp [rep, rep_length z n, Nat.succ_mul]; omega
theorem rep_get (z : List SV) : ∀ (n i : Nat), i < n * z.length → (rep z n)[i]? = z[i % z.length]?
  | 0, i, h => by omega
  | n + 1, i, h => by
    simp only [rep]
    by_cases hi : i < z.length
    · rw [List.getElem?_append_left hi, Nat.mod_eq_of_lt hi]
    · have h' : (n + 1) * z.length = n * z.length + z.length := Nat.succ_mul n _
      rw [List.getElem?_append_right (by omega), rep_get z n (i - z.length) (by omega)]
      congr 1
      exact (Nat.mod_eq_sub_mod (by omega)).symm

theorem rep_rel {ρ : Ren} {z : List SV} {zs : List Value} (h : All2 (SR ρ) z zs) (n : Nat) (hz : z ≠ []) : All2 (SR ρ) (rep z n) ((Array.range (n * z.length)).map (zs.toArray[· % zs.toArray.size]!)).toList := by
  have hl := h.length
  apply All2.of_get
  · simp [rep_length]
  · intro i a b ha hb
    have hi : i < n * z.length := by have := (List.getElem?_eq_some_iff.1 ha).1; rwa [rep_length] at this
    have hzl : 0 < z.length := by cases z; exact absurd rfl hz; simp
    rw [rep_get z n i hi] at ha
    obtain ⟨c, h1, h2⟩ := h.get ha
    simp only [Array.toList_map, Array.toList_range, List.getElem?_map, List.getElem?_range hi, Option.map_some, Option.some.injEq] at hb
    subst hb
    have hm : i % zs.toArray.size < zs.toArray.size := Nat.mod_lt _ (by simp; omega)
    rw [getElem!_pos zs.toArray _ hm]
    have e : i % z.length = i % zs.toArray.size := by simp [hl]
    rw [e] at h1
    simp only [List.getElem_toArray]
    rw [List.getElem?_eq_getElem (by simpa using hm)] at h1
    rw [Option.some.inj h1]; exact h2

noncomputable abbrev allocK (P : Program) (S : St) (t : TypeId) (K : AV → St → Prop) : Prop := optK (zeroA P t) fun z => K (.one (.s (.ptr (.mk (.new S.next) 0)))) (S.add (.cells z.cells (.ty t)))
theorem cells_OR {ρ : Ren} {l : List SV} {vs : List Value} (h : All2 (SR ρ) l vs) (t : TypeId) : OR ρ (.cells l .sh) 0 l.length (some (.cells vs.toArray t (0, 0))) :=
  ⟨[], vs, [], t, by simp, rfl, h, by simp [h.length], fun _ => rfl, fun _ e => by rcases e with e | e <;> cases e⟩
theorem cells_ORt {ρ : Ren} {l : List SV} {vs : List Value} (h : All2 (SR ρ) l vs) (t : TypeId) : OR ρ (.cells l (.ty t)) 0 l.length (some (.cells vs.toArray t (0, 0))) :=
  ⟨[], vs, [], t, by simp, rfl, h, by simp [h.length], fun _ => rfl, fun _ e => by rcases e with e | e <;> cases e; exact ⟨rfl, rfl⟩⟩
theorem allocK_run {P S t K} (h : allocK P S t K) {base ρ w} (hw : Sim base ρ S.get S.next w) : Turn base P ρ S w K (Instr.alloc t true (.tuple #[])) := by
  obtain ⟨z, h1, hK⟩ := optK_some h
  refine Makes.turn (v := fun b => .ptr (.mk b 0)) ?_ hw hK
  intro g next w hw
  obtain ⟨cz, h2, h3⟩ := zeroA_run h1 ρ
  obtain ⟨vs, h4, h5⟩ := h2.cells
  refine ⟨.pointer (some ⟨w.heap.size, 0, none⟩), .cells cz.cells t, _, ?_, by rw [h4]; exact cells_ORt h5 t, fun b ρ' hl hb => ⟨_, _, _, hb, rfl⟩⟩
  simp [Instr.alloc, h3, newVar, newRow]

noncomputable abbrev boxK (S : St) (t : TypeId) (x : V1) (K : AV → St → Prop) : Prop := K (.one (.s (.ptr (.mk (.new S.next) 0)))) (S.add (.cells x.cells (.ty t)))
theorem boxK_run {P : Program} {S x K} {t : TypeId} (h : boxK S t x K) {ρ : Ren} {cx} (hx : VR1 ρ x cx) {base w} (hw : Sim base ρ S.get S.next w) : Turn base P ρ S w K (Instr.box t cx) := by
  refine Makes.turn (v := fun b => .ptr (.mk b 0)) ?_ hw h
  intro g next w hw
  obtain ⟨vs, h4, h5⟩ := hx.cells
  refine ⟨.pointer (some ⟨w.heap.size, 0, none⟩), .cells cx.cells t, _, ?_, by rw [h4]; exact cells_ORt h5 t, fun b ρ' hl hb => ⟨_, _, _, hb, rfl⟩⟩
  simp [Instr.box, newVar, newRow]

noncomputable abbrev buildSliceK (P : Program) (S : St) (t : TypeId) (len : Nat) (ps : List (Nat × V1)) (K : AV → St → Prop) : Prop :=
  match P.underlying t with
  | some (.slice e) => optK (sizeA P e) fun z => optK (zeroA P e) fun zv => req (Nat.beq zv.cells.length z && Nat.blt (len * z) 16777217)
        (optK (fillA (fun i => some (i * z, z)) (rep zv.cells len) ps) fun l => K (.one (.s (.sl (.mk (.new S.next) 0 len (.inl len))))) (S.add (.cells l .sh)))
  | _ => False
theorem buildSliceK_run {P S t len ps K} (h : buildSliceK P S t len ps K) {ρ : Ren} {cps : Array (Nat × Value)} (hp : All2 (fun (a : Nat × V1) (b : Nat × Value) => a.1 = b.1 ∧ VR1 ρ a.2 b.2) ps cps.toList) {base w} (hw : Sim base ρ S.get S.next w) :
    Turn base P ρ S w K (Instr.buildSlice t len cps) := by
  unfold buildSliceK at h
  split at h
  · rename_i e hu
    obtain ⟨z, hz, h⟩ := optK_some h
    obtain ⟨zv, hzv, h⟩ := optK_some h
    obtain ⟨hc, h⟩ := req_and h
    obtain ⟨l, h1, hK⟩ := optK_some h
    simp only [Bool.and_eq_true, Nat.beq_eq, blt_iff] at hc
    refine Makes.turn (v := fun b => .sl (.mk b 0 len (.inl len))) ?_ hw hK
    intro g next w hw
    obtain ⟨cz, h2, h3⟩ := zeroA_run hzv ρ
    obtain ⟨zs, h4, h5⟩ := h2.cells
    obtain ⟨hz0, hzr⟩ := sizeA_run hz
    have hne : zv.cells ≠ [] := fun e => hz0 (by rw [← hc.1, e]; rfl)
    have hrep := rep_rel h5 len hne
    rw [hc.1] at hrep
    obtain ⟨ws, h6, h7⟩ := fillA_run h1 hrep hp
    refine ⟨.slice (some ⟨w.heap.size, 0, none⟩) len len, .cells ws.toArray e, _, ?_, cells_OR h6 e, fun b ρ' hl hb => ⟨_, _, _, len, 0, hb, by simp, by simp, Nat.le_refl _, by simp, by simp⟩⟩
    have hbig : ¬ (len * z > 2 ^ 24) := by omega
    by_cases h0 : len * z = 0
    · have er : Array.range 0 = #[] := rfl
      rw [h0, er] at h7
      simp [Instr.buildSlice, underlying, hu, hzr, h0, newRow, er]
      simp at h7
      rw [h7]; simp
    · simp only [Instr.buildSlice, underlying, Sem.run_bind, run_program, Result.andThen_ok, hu, Sem.run_pure, hzr, hbig, if_false, Sem.run_ite, h0, h3, h4, h7, newRow, Array.toArray_toList]
      simp
  · exact h.elim

noncomputable abbrev makeMapK (S : St) (K : AV → St → Prop) : Prop := K (.one (.s (.map (.mk (.new S.next))))) (S.add (.map [] 0))
theorem makeMapK_run {P : Program} {S K} (h : makeMapK S K) {ρ : Ren} (t : TypeId) {base w} (hw : Sim base ρ S.get S.next w) : Turn base P ρ S w K (Instr.makeMap t none) := by
  refine Makes.turn (v := fun b => .map (.mk b)) ?_ hw h
  intro g next w hw
  exact ⟨.map (some w.heap.size), .map #[] 0, 0, by simp [Instr.makeMap], ⟨[], by simp, .nil⟩, fun b ρ' hl hb => ⟨_, _, _, hb, rfl⟩⟩

theorem wrap_int (n : Int) (h0 : 0 ≤ n) (h : n ≤ 9000000000000000000) : IntKind.i64.wrap n = n := by
  have h1 : IntKind.i64.min ≤ 0 := by decide
  have h2 : (9000000000000000000 : Int) ≤ IntKind.i64.max := by decide
  exact wrap_id .i64 _ (by omega) (by omega)
/-- A new row of so many zeros. -/
def rowAO (z : List SV) (c : Nat) : AO := match z with
  | [v] => cond (Nat.blt 5000 c) (.wide c v .e) (.cells (rep [v] c) .sh)
  | z => .cells (rep z c) .sh
noncomputable abbrev makeSliceK (P : Program) (S : St) (t : TypeId) (l c : SV) (K : AV → St → Prop) : Prop :=
  match P.underlying t, l, c with
  | some (.slice e), .int .i64 l, .int .i64 c => optK (sizeA P e) fun z => optK (zeroA P e) fun zv => optK (P.info? e) fun i =>
      req (Nat.beq zv.cells.length z && Nat.ble i.bytes 100000) (req (ile 0 l && (ile l c && ile c 2000000))
        (K (.one (.s (.sl (.mk (.new S.next) 0 l.toNat (.inl c.toNat))))) (S.add (rowAO zv.cells c.toNat))))
  | _, _, _ => False
theorem rowAO_OR {ρ : Ren} {z : List SV} {c : Nat} {vs : List Value} (h : All2 (SR ρ) (rep z c) vs) (t : TypeId) (hz : z ≠ []) : OR ρ (rowAO z c) 0 (c * z.length) (some (.cells vs.toArray t (0, 0))) := by
  have hl := rep_length z c
  unfold rowAO
  split
  · rename_i v
    cases hb : Nat.blt 5000 c with
    | false => simp only [cond_false]; have := cells_OR h t; rwa [hl] at this
    | true =>
      simp only [cond_true]
      have hvl := h.length
      rw [hl] at hvl
      refine ⟨vs, t, rfl, rfl, by simp at hvl; omega, by simp, fun i x hi => ?_⟩
      have hlt : i < vs.length := (List.getElem?_eq_some_iff.1 hi).1
      have e : widVal v .e i = v := by unfold widVal; rw [HM.get_e]
      rw [e]
      have h1 : (rep [v] c)[i]? = some v := by rw [rep_get _ _ _ (by simp at hvl ⊢; omega)]; simp [Nat.mod_one]
      obtain ⟨y, h2, h3⟩ := h.get h1
      rw [hi] at h2; cases h2; exact h3
  · have := cells_OR h t; rwa [hl] at this
theorem makeSliceK_run {P S t l c K} (h : makeSliceK P S t l c K) {ρ : Ren} {cl cc} (hl : SR ρ l cl) (hc : SR ρ c cc) {base w} (hw : Sim base ρ S.get S.next w) : Turn base P ρ S w K (Instr.makeSlice t cl cc) := by
  unfold makeSliceK at h
  split at h
  · rename_i e l c hu
    obtain ⟨z, hz, h⟩ := optK_some h
    obtain ⟨zv, hzv, h⟩ := optK_some h
    obtain ⟨i, hi, h⟩ := optK_some h
    obtain ⟨hk, h⟩ := req_and h
    obtain ⟨hk2, hK⟩ := req_and h
    cases hl; cases hc
    simp only [Bool.and_eq_true, Nat.beq_eq, ile_eq, decide_eq_true_eq] at hk hk2
    obtain ⟨k0, k1, k2⟩ := hk2
    have k3 := Nat.le_of_ble_eq_true hk.2
    obtain ⟨l, rfl⟩ := Int.eq_ofNat_of_zero_le k0
    obtain ⟨c, rfl⟩ := Int.eq_ofNat_of_zero_le (show 0 ≤ c by omega)
    simp only [Int.toNat_natCast] at hK
    refine Makes.turn (v := fun b => .sl (.mk b 0 l (.inl c))) ?_ hw hK
    intro g next w hw
    obtain ⟨cz, h2, h3⟩ := zeroA_run hzv ρ
    obtain ⟨zs, h4, h5⟩ := h2.cells
    obtain ⟨hz0, hzr⟩ := sizeA_run hz
    have hne : zv.cells ≠ [] := fun e => hz0 (by rw [← hk.1, e]; rfl)
    have hrep := rep_rel h5 c hne
    rw [hk.1] at hrep
    have hmul : i.bytes * c ≤ 100000 * 2000000 := Nat.mul_le_mul k3 (by omega)
    have w1 := wrap_int (l : Int) (by omega) (by omega)
    have w2 := wrap_int (c : Int) (by omega) (by omega)
    refine ⟨.slice (some ⟨w.heap.size, 0, none⟩) l c, .cells (((Array.range (c * z)).map (zs.toArray[· % zs.toArray.size]!))) e, c * z, ?_, by have := rowAO_OR hrep e hne; rw [hk.1, Array.toArray_toList] at this; exact this, fun b ρ' hl hb => ⟨_, _, _, c, 0, hb, by simp, by simp, by omega, by simp, by simp⟩⟩
    have t1 : ¬ ((c : Int) < 0) := by omega
    have t2 : ¬ ((l : Int) < 0) := by omega
    have t3 : ¬ ((l : Int) > (c : Int)) := by omega
    have t4 : ¬ ((i.bytes : Int) * (c : Int) > 2 ^ 48) := by
      have : ((i.bytes * c : Nat) : Int) ≤ 200000000000 := by omega
      rw [Int.natCast_mul] at this; omega
    simp only [Instr.makeSlice, underlying, Sem.run_bind, run_program, Result.andThen_ok, hu, Sem.run_pure, asInt, asIntOf, typeInfo, hi, w1, w2, t1, t2, t3, t4, decide_false, Bool.or_self, Bool.false_eq_true, if_false, run_askRoom, hzr, Int.toNat_natCast]
    by_cases h0 : c * z = 0
    · have er : Array.range 0 = #[] := rfl
      simp [h0, newRow, er]
    · simp [h0, h3, h4, newRow]
  · exact h.elim

noncomputable def setL (t : HM SV) (o : Nat) : List SV → HM SV
  | [] => t
  | v :: r => setL (t.set o (some v)) (o + 1) r
theorem setL_get : ∀ (new : List SV) (t : HM SV) (o i : Nat), (setL t o new).get i = if o ≤ i ∧ i < o + new.length then new[i - o]? else t.get i
  | [], t, o, i => by
    have : ¬ (o ≤ i ∧ i < o + ([] : List SV).length) := by simp only [List.length_nil]; omega
    rw [if_neg this]; rfl
  | v :: r, t, o, i => by
    show (setL (t.set o (some v)) (o + 1) r).get i = _
    rw [setL_get r, HM.get_set]
    by_cases h1 : i = o
    · subst h1
      have e1 : ¬ (i + 1 ≤ i ∧ i < i + 1 + r.length) := by omega
      have e2 : i ≤ i ∧ i < i + (v :: r).length := by simp
      rw [if_neg e1, if_pos rfl, if_pos e2]; simp
    · by_cases h2 : o ≤ i ∧ i < o + (v :: r).length
      · have e1 : o + 1 ≤ i ∧ i < o + 1 + r.length := by simp at h2; omega
        rw [if_pos e1, if_pos h2, show i - o = (i - (o + 1)) + 1 by omega]; simp
      · have e1 : ¬ (o + 1 ≤ i ∧ i < o + 1 + r.length) := by simp at h2; omega
        rw [if_neg e1, if_neg h1, if_neg h2]
/-- A block's cells are written from one on. -/
def St.wr (S : St) (b : Bk) (o : Nat) (new : List SV) (K : St → Prop) : Prop := match b with
  | .inp _ => False
  | .new k => match S.H.get k with
    | some (.cells l op) => req (Nat.ble (o + new.length) l.length) (K (S.put k (some (.cells (l.take o ++ (new ++ l.drop (o + new.length))) op))))
    | some (.wide n z t) => req (Nat.ble (o + new.length) n) (K (S.put k (some (.wide n z (setL t o new)))))
    | _ => False

theorem St.wr_run {S : St} {b o new K} (h : S.wr b o new K) {base ρ w} (hw : Sim base ρ S.get S.next w) {r sh m : Nat} (hρ : ρ b = some (r, sh, m)) {vs : List Value} (hv : All2 (SR ρ) new vs) (P : Program) :
    ∃ S' w', K S' ∧ (storeCells ⟨r, sh + o, none⟩ vs).run P w = .ok () w' ∧ Next base ρ S.get S.next w S'.get S'.next ρ w' := by
  unfold St.wr at h
  split at h
  · exact h.elim
  · rename_i k
    split at h
    · rename_i l op hb
      obtain ⟨hc, h⟩ := req_and h
      obtain ⟨w', h4, h5⟩ := hw.write (b := k) hb (Nat.le_of_ble_eq_true hc) hρ hv P
      exact ⟨_, w', h, h4, h5⟩
    · rename_i n z t hb
      obtain ⟨ho, h⟩ := req_and h
      have ho := Nat.le_of_ble_eq_true ho
      obtain ⟨r', sh', m', h1, h2⟩ := hw.obj (.new k) _ hb
      rw [hρ] at h1; cases h1
      obtain ⟨us, ty, hob, rfl, hl, rfl, hu⟩ := h2
      have hlv := hv.length
      have hrun := run_storeCells_at (P := P) r (0 + o) ty vs 0 _ w hob (by simp; omega) hv.oneCell
      refine ⟨_, _, h, hrun, hw.put (b := k) hb hρ (by simp) (fun j hj => setRow_other _ _ _ _ hj) ⟨rfl, rfl, rfl⟩ ?_⟩
      rw [setRow_heap _ _ _ _ _ _ hob]
      refine ⟨us.take o ++ (vs ++ us.drop (o + vs.length)), ty, ?_, rfl, by simp; omega, rfl, fun i y hi => ?_⟩
      · simp
      · unfold widVal
        rw [setL_get]
        by_cases e : o ≤ i ∧ i < o + new.length
        · rw [if_pos e]
          rw [List.getElem?_append_right (by simp <;> omega), List.getElem?_append_left (by simp <;> omega)] at hi
          simp [Nat.min_eq_left (show o ≤ us.length by omega)] at hi
          obtain ⟨a, h3, h4⟩ := hv.get_r hi
          rw [h3]; exact h4
        · rw [if_neg e]
          have : us[i]? = some y := by
            by_cases hlt : i < o
            · rw [List.getElem?_append_left (by simp <;> omega), List.getElem?_take_of_lt hlt] at hi; exact hi
            · rw [List.getElem?_append_right (by simp <;> omega), List.getElem?_append_right (by simp <;> omega)] at hi
              simp [Nat.min_eq_left (show o ≤ us.length by omega)] at hi
              rw [show o + vs.length + (i - o - vs.length) = i by omega] at hi
              exact hi
          exact hu i y this
    · exact h.elim

noncomputable abbrev storeK (P : Program) (S : St) (t : TypeId) (x : SV) (v : V1) (K : AV → St → Prop) : Prop :=
  match x with
  | .ptr p => optK (P.info? t) fun i => req (Nat.beq v.cells.length i.size) (PV.cs p fun b o => S.wr b o v.cells fun S' => K (.tup []) S')
  | _ => False
theorem storeK_run {P S t x v K} (h : storeK P S t x v K) {ρ : Ren} {cx cv} (hx : SR ρ x cx) (hv : VR1 ρ v cv) {base w} (hw : Sim base ρ S.get S.next w) :
    ∃ S' w', K (.tup []) S' ∧ (Instr.storeAt t cx cv).run P w = .ok () w' ∧ Next base ρ S.get S.next w S'.get S'.next ρ w' := by
  unfold storeK at h
  split at h
  · obtain ⟨i, hi, h⟩ := optK_some h
    obtain ⟨hc, h⟩ := req_and h
    obtain ⟨b, o, rfl, hq⟩ := PV.cs_mk h
    obtain ⟨r, sh, m, h1, rfl⟩ := hx
    obtain ⟨vs, h2, h3⟩ := hv.cells
    obtain ⟨S', w', h4, h5, h6⟩ := St.wr_run hq hw h1 h3 P
    have hsz : cv.cells.size = i.size := by rw [h2]; have := h3.length; have := Nat.eq_of_beq_eq_true hc; simp; omega
    refine ⟨S', w', h4, ?_, h6⟩
    simp [Instr.storeAt, Instr.sureAddr, storeVar, sizeOf, typeInfo, hi, hsz]
    rw [h2]; exact h5
  · exact h.elim
end Go.Xe
