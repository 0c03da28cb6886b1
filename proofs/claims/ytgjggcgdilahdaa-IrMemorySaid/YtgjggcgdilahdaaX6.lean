/- Executor, second make: slicing; the operations that touch no memory, under one name. -/
import Derived.Test.YtgjggcgdilahdaaX5
set_option linter.unusedVariables false
set_option linter.unusedSimpArgs false
set_option linter.constructorNameAsVariable false
set_option linter.unusedVariables false
set_option linter.unusedSimpArgs false
namespace Go.Xe
open Go.RowKit

/-- Slicing a text, a slice. -/
noncomputable abbrev sliceK (P : Program) (t : TypeId) (x : SV) (lo hi mx : Option Int) (K : AV → Prop) : Prop :=
  match P.underlying t, x with
  | some .string, .str s => (match mx with
    | some _ => False
    | none => req (bnds s.length s.length lo hi none) (K (.one (.s (.str ((s.drop (oInt lo 0).toNat).take ((oInt hi (Int.ofNat s.length)).toNat - (oInt lo 0).toNat)))))))
  | some (.slice e), .sl s => optK (sizeA P e) fun z => LV.rec (motive := fun _ => Prop)
      (req (bnds 0 0 lo hi mx) (K (.one (.s (.sl .nil)))))
      (fun b o n c => Sum.rec (motive := fun _ => Prop)
        (fun c => req (bnds n c lo hi mx) (K (.one (.s (.sl (.mk b (o + (oInt lo 0).toNat * z) ((oInt hi (Int.ofNat n)).toNat - (oInt lo 0).toNat) (.inl ((oInt mx (Int.ofNat c)).toNat - (oInt lo 0).toNat))))))))
        (fun z' => req (Nat.beq z z') (req (bnds n n lo hi mx) (Option.rec (motive := fun _ => Prop)
          (K (.one (.s (.sl (.mk b (o + (oInt lo 0).toNat * z) ((oInt hi (Int.ofNat n)).toNat - (oInt lo 0).toNat) (.inr z))))))
          (fun m => K (.one (.s (.sl (.mk b (o + (oInt lo 0).toNat * z) ((oInt hi (Int.ofNat n)).toNat - (oInt lo 0).toNat) (.inl (m.toNat - (oInt lo 0).toNat))))))) mx))) c) s
  | _, _ => False

theorem strOf_extract {l s} (h : strOf l s) (a b : Nat) : strOf ((l.drop a).take (b - a)) (s.extract a b) := by
  unfold strOf at *
  rw [← h]
  simp [List.map_take, List.map_drop, ByteArray.data_extract]

theorem sliceK_run {P t x lo hi mx K} (h : sliceK P t x lo hi mx K) {ρ cx} (hx : SR ρ x cx) {vl vh vm : Option Value} (h1 : BR lo vl) (h2 : BR hi vh) (h3 : BR mx vm) :
    Snd P ρ K (Instr.sliceAt t cx vl vh vm) := by
  unfold sliceK at h
  split at h
  · rename_i s hu
    split at h
    · exact h.elim
    · obtain ⟨hb, h⟩ := req_and h
      obtain ⟨u, rfl, hs⟩ := hx
      have hsz := strOf_size hs
      obtain ⟨e0, e1, e2, e3, hr⟩ := bnds_run hb (Nat.le_refl _) (Nat.le_refl _) h1 h2 h3 false P
      cases vm with
      | some _ => exact h3.elim
      | none =>
        refine ⟨_, .string (u.extract (oInt lo 0).toNat (oInt hi (Int.ofNat s.length)).toNat), h, ⟨_, rfl, strOf_extract hs _ _⟩, fun w => ?_⟩
        have := hr w
        simp [Instr.sliceAt, Instr.slice, underlying, hu, hsz, this]
  · rename_i e s hu
    obtain ⟨z, hz, h⟩ := optK_some h
    obtain ⟨hz0, hzr⟩ := sizeA_run hz
    cases s with
    | nil =>
      obtain ⟨hb, h⟩ := req_and h
      cases hx
      obtain ⟨e0, e1, e2, e3, hr⟩ := bnds_run hb (Nat.le_refl _) (Nat.le_refl _) h1 h2 h3 true P
      refine ⟨_, .slice none 0 0, h, rfl, fun w => ?_⟩
      have hrw := hr w
      have e3' : oInt mx (Int.ofNat 0) ≤ 0 := e3
      have a1 : (oInt mx (Int.ofNat 0)).toNat = 0 := by omega
      have a2 : (oInt hi (Int.ofNat 0)).toNat = 0 := by omega
      have a3 : (oInt lo 0).toNat = 0 := by omega
      rw [a1, a2, a3] at hrw
      simp [Instr.sliceAt, Instr.slice, underlying, hu, hrw, hzr]
    | mk b o n c =>
      obtain ⟨r, sh, M, cc, o', g1, rfl, g0, g2, g3, g4⟩ := hx
      cases c with
      | inl c =>
        obtain rfl := g3 c rfl
        obtain ⟨hb, h⟩ := req_and h
        obtain ⟨e0, e1, e2, e3, hr⟩ := bnds_run hb g2 (Nat.le_refl _) h1 h2 h3 true P
        refine ⟨_, _, h, ⟨r, sh, M, (oInt mx (Int.ofNat cc)).toNat - (oInt lo 0).toNat, if (oInt mx (Int.ofNat cc)).toNat = (oInt lo 0).toNat then o' else o' + (oInt lo 0).toNat * z, g1, rfl, ?_, by omega, by simp, by simp⟩, fun w => ?_⟩
        · intro hne
          rw [if_neg (by omega), g0 (by omega), Nat.add_assoc]
        · by_cases hq : (oInt mx (Int.ofNat cc)).toNat = (oInt lo 0).toNat
          · have hrw := hr w
            simp only [Instr.sliceAt, Instr.slice, underlying, Sem.run_bind, run_program, Result.andThen_ok, hu, Sem.run_pure, hrw, hzr]
            rw [if_pos hq, if_pos hq]
          · have hrw := hr w
            simp only [Instr.sliceAt, Instr.slice, underlying, Sem.run_bind, run_program, Result.andThen_ok, hu, Sem.run_pure, hrw, hzr]
            rw [if_neg hq, if_neg hq]; simp [add_at]
      | inr z' =>
        obtain ⟨hzz, h5⟩ := req_and h
        clear h
        obtain rfl := Nat.eq_of_beq_eq_true hzz
        obtain ⟨hb, h⟩ := req_and h5
        have g5 := g4 z rfl
        obtain ⟨e0, e1, e2, e3, hr⟩ := bnds_run hb (Nat.le_refl _) g2 h1 h2 h3 true P
        have hrw := hr
        cases mx with
        | some m =>
          replace e2 : oInt hi (Int.ofNat n) ≤ m := e2
          replace e3 : m ≤ (n : Int) := e3
          replace hrw : ∀ w, _ = Result.ok ((oInt lo 0).toNat, (oInt hi (Int.ofNat n)).toNat, m.toNat) w := hrw
          refine ⟨_, _, h, ⟨r, sh, M, m.toNat - (oInt lo 0).toNat, if m.toNat = (oInt lo 0).toNat then o' else o' + (oInt lo 0).toNat * z, g1, rfl, ?_, by omega, by simp, by simp⟩, fun w => ?_⟩
          · intro hne
            rw [if_neg (by omega), g0 (by omega), Nat.add_assoc]
          · have hrw := hrw w
            by_cases hq : m.toNat = (oInt lo 0).toNat
            · simp only [Instr.sliceAt, Instr.slice, underlying, Sem.run_bind, run_program, Result.andThen_ok, hu, Sem.run_pure, hrw, hzr]
              rw [if_pos hq, if_pos hq]
            · simp only [Instr.sliceAt, Instr.slice, underlying, Sem.run_bind, run_program, Result.andThen_ok, hu, Sem.run_pure, hrw, hzr]
              rw [if_neg hq, if_neg hq]; simp [add_at]
        | none =>
          replace e2 : oInt hi (Int.ofNat n) ≤ (n : Int) := e2
          replace hrw : ∀ w, _ = Result.ok ((oInt lo 0).toNat, (oInt hi (Int.ofNat n)).toNat, ((cc : Nat) : Int).toNat) w := hrw
          have hle : (oInt lo 0).toNat ≤ cc := by omega
          have hmul : (oInt lo 0).toNat * z + (cc - (oInt lo 0).toNat) * z = cc * z := by rw [← Nat.add_mul]; congr 1; omega
          refine ⟨_, _, h, ⟨r, sh, M, cc - (oInt lo 0).toNat, if cc = (oInt lo 0).toNat then o' else o' + (oInt lo 0).toNat * z, g1, rfl, ?_, by omega, by simp, by rintro e' he; cases he; omega⟩, fun w => ?_⟩
          · intro hne
            rw [if_neg (by omega), g0 (by omega), Nat.add_assoc]
          · have hrw := hrw w
            by_cases hq : cc = (oInt lo 0).toNat
            · simp only [Instr.sliceAt, Instr.slice, underlying, Sem.run_bind, run_program, Result.andThen_ok, hu, Sem.run_pure, hrw, hzr, Int.toNat_natCast]
              rw [if_pos hq, if_pos hq]
            · simp only [Instr.sliceAt, Instr.slice, underlying, Sem.run_bind, run_program, Result.andThen_ok, hu, Sem.run_pure, hrw, hzr, Int.toNat_natCast]
              rw [if_neg hq, if_neg hq]; simp [add_at]
  · exact h.elim

def evList (e : Ev) : List Operand → List AV
  | [] => []
  | x :: l => e x :: evList e l
theorem evList_ok {ρ e c} (he : EvR ρ e c) : ∀ {l}, All2 (VR ρ) (evList e l) (l.map c)
  | [] => .nil
  | x :: l => .cons (he x) (evList_ok he)

/-- Pointers, as a function value bears them. -/
noncomputable abbrev ptrsK (e : Ev) (l : List Operand) (K : List (Bk × Nat) → Prop) : Prop := List.rec (motive := fun _ => (List (Bk × Nat) → Prop) → Prop) (fun K => K [])
  (fun x _ ih K => scK (e x) fun v => match v with | .ptr p => PV.cs p fun b o => ih fun m => K ((b, o) :: m) | _ => False) l K
theorem ptrsK_ok {ρ e c} (he : EvR ρ e c) : ∀ {l K}, ptrsK e l K → ∃ m, K m ∧ All2 (PtrR ρ) m (l.map c)
  | [], K, h => ⟨[], h, .nil⟩
  | x :: l, K, h => by
    obtain ⟨v, h1, h⟩ := scK_some h
    split at h
    · obtain ⟨b, o, rfl, hq⟩ := PV.cs_mk h; have h := hq; clear hq
      obtain ⟨m, h2, h3⟩ := ptrsK_ok he h
      exact ⟨_, h2, .cons (he.sc h1) h3⟩
    · exact h.elim

def imax (a b : Int) : Int := cond (ilt a b) b a
def imin (a b : Int) : Int := cond (ilt b a) b a

/-- Operations that touch no memory. -/
noncomputable abbrev pureK (P : Program) (e : Ev) (o : Op) (K : AV → Prop) : Prop :=
  match o with
  | .move x => K (e x)
  | .assign x => K (e x)
  | .pick c a b => scK (e c) fun v => match v with | .bool t => Bool.rec (motive := fun _ => Prop) (K (e b)) (K (e a)) t | _ => False
  | .binOp op t x y _ => oneK (e x) fun a => oneK (e y) fun b => binK P op t a b K
  | .unOp op _ x => scK (e x) fun a => unK op a K
  | .convert s d x => scK (e x) fun a => convK P s d a K
  | .fieldAddr s x f => scK (e x) fun a => fieldAddrK P s a f K
  | .indexAddr t x i => scK (e x) fun a => scK (e i) fun b => indexAddrK P t a b K
  | .index t x i => oneK (e x) fun a => scK (e i) fun b => indexK P t a b K
  | .field t x f => oneK (e x) fun a => fieldK P t a f K
  | .extract x i => extractK (e x) i K
  | .build t ps => optK (evParts e ps.toList) fun m => optK (buildA P t m) fun v => K (.one v)
  | .slice t x lo hi mx => scK (e x) fun a => bndK e lo fun l => bndK e hi fun h => bndK e mx fun m => sliceK P t a l h m K
  | .nilCheck x => scK (e x) fun v => (match v with
    | .ptr p => PV.cs p fun b o => K (.one (.s (.ptr (.mk b o))))
    | .fn f => FV.cs f fun g a c => (match g with | .func k => K (.one (.s (.fn (.mk (.func k) a c)))) | _ => False)
    | _ => False)
  | .makeFunc f a c => ptrsK e a.toList fun x => ptrsK e c.toList fun y => K (.one (.s (.fn (.mk f x y))))
  | .call ⟨.builtin .max, args, _⟩ => (match args.toList with
    | [x, y] => scK (e x) fun a => scK (e y) fun b => (match a, b with | .int k a, .int _ b => K (.one (.s (.int k (imax a b)))) | _, _ => False)
    | _ => False)
  | .call ⟨.builtin .min, args, _⟩ => (match args.toList with
    | [x, y] => scK (e x) fun a => scK (e y) fun b => (match a, b with | .int k a, .int _ b => K (.one (.s (.int k (imin a b)))) | _, _ => False)
    | _ => False)
  | _ => False

theorem pureK_run {P e} {o : Oper} {K} (h : pureK P e o.op K) {ρ c} (he : EvR ρ e c) : ∃ v cv, K v ∧ VR ρ v cv ∧ ∀ w, (execOp c o).run P w = .ok (.value cv) w := by
  have lift : ∀ {s : Sem Value}, Snd P ρ K s → execOp c o = (do pure (.value (← s))) → ∃ v cv, K v ∧ VR ρ v cv ∧ ∀ w, (execOp c o).run P w = .ok (.value cv) w := by
    rintro s ⟨v, cv, h0, h1, h2⟩ he
    exact ⟨v, cv, h0, h1, fun w => by rw [he]; simp [h2]⟩
  obtain ⟨dst, op, ty, pos, aft, gd⟩ := o
  simp only at h
  unfold pureK at h
  split at h
  · rename_i x; exact ⟨_, _, h, he x, fun w => by simp [execOp]⟩
  · rename_i x; exact ⟨_, _, h, he x, fun w => by simp [execOp]⟩
  · rename_i c' a b
    obtain ⟨v, hc, h⟩ := scK_some h
    split at h
    · rename_i t
      have := he.sc hc
      simp only [SR] at this
      cases t with
      | true => exact ⟨_, _, h, he a, fun w => by simp [execOp, this, asBool]⟩
      | false => exact ⟨_, _, h, he b, fun w => by simp [execOp, this, asBool]⟩
    · exact h.elim
  · rename_i op' t x y yt
    obtain ⟨a, ha, h⟩ := oneK_some h
    obtain ⟨b, hb, h⟩ := oneK_some h
    exact lift (binK_run h (he.one ha) (he.one hb) x y) rfl
  · rename_i op' t x
    obtain ⟨a, ha, h⟩ := scK_some h
    exact lift (unK_run h (he.sc ha)) rfl
  · rename_i s d x
    obtain ⟨a, ha, h⟩ := scK_some h
    exact lift (convK_run h (he.sc ha)) rfl
  · rename_i s x f
    obtain ⟨a, ha, h⟩ := scK_some h
    exact lift (fieldAddrK_run h (he.sc ha)) rfl
  · rename_i t x i
    obtain ⟨a, ha, h⟩ := scK_some h
    obtain ⟨b, hb, h⟩ := scK_some h
    exact lift (indexAddrK_run h (he.sc ha) (he.sc hb)) rfl
  · rename_i t x i
    obtain ⟨a, ha, h⟩ := oneK_some h
    obtain ⟨b, hb, h⟩ := scK_some h
    exact lift (indexK_run h (he.one ha) (he.sc hb)) rfl
  · rename_i t x f
    obtain ⟨a, ha, h⟩ := oneK_some h
    exact lift (fieldK_run h (he.one ha)) rfl
  · rename_i x i
    exact lift (extractK_run h (he x)) rfl
  · rename_i t ps
    obtain ⟨m, hm, h⟩ := optK_some h
    obtain ⟨v, hv, h⟩ := optK_some h
    obtain ⟨cv, h1, h2⟩ := buildA_run hv (cps := ps.map fun (i, x) => (i, c x)) (by rw [Array.toList_map]; exact evParts_ok he hm)
    exact lift ⟨_, cv, h, h1, h2⟩ rfl
  · rename_i t x lo hi mx
    obtain ⟨a, ha, h⟩ := scK_some h
    obtain ⟨l, h, hl⟩ := bndK_ok he h
    obtain ⟨hh, h, hhi⟩ := bndK_ok he h
    obtain ⟨m, h, hm⟩ := bndK_ok he h
    exact lift (sliceK_run h (he.sc ha) hl hhi hm) rfl
  · rename_i x
    obtain ⟨v, hb, h⟩ := scK_some h
    split at h
    · obtain ⟨b, o, rfl, hq⟩ := PV.cs_mk h; have h := hq; clear hq
      obtain ⟨r, sh, m, h1, h2⟩ := he.sc hb
      exact ⟨_, _, h, ⟨r, sh, m, h1, rfl⟩, fun w => by simp [execOp, h2]⟩
    · obtain ⟨g, a, cc, e1, h7⟩ := FV.cs_mk h
      clear h
      subst e1
      split at h7
      · obtain ⟨xs, ys, h1, h2, h3⟩ := he.sc hb
        exact ⟨_, _, h7, ⟨xs, ys, rfl, h2, h3⟩, fun w => by simp [execOp, h1]⟩
      · exact h7.elim
    · exact h.elim
  · rename_i f a cc
    obtain ⟨x, h, h1⟩ := ptrsK_ok he h
    obtain ⟨y, h, h2⟩ := ptrsK_ok he h
    refine ⟨_, .func f (a.toList.map c).toArray (cc.toList.map c).toArray, h, ⟨_, _, rfl, h1, h2⟩, fun w => ?_⟩
    have e1 : (a.toList.map c).toArray = a.map c := by apply Array.ext'; simp
    have e2 : (cc.toList.map c).toArray = cc.map c := by apply Array.ext'; simp
    rw [e1, e2]
    simp [execOp, Instr.makeFunc]
  · rename_i args ts
    split at h
    · rename_i x y hl
      obtain ⟨a, ha, h⟩ := scK_some h
      obtain ⟨b, hb, h⟩ := scK_some h
      split at h
      · have g1 := he.sc ha; have g2 := he.sc hb
        simp only [SR] at g1 g2
        obtain rfl : args = #[x, y] := by apply Array.ext'; simpa using hl
        refine ⟨_, _, h, rfl, fun w => ?_⟩
        simp only [imax, ilt_eq]
        simp [execOp, resolve, invoke, builtin, Builtin.max_, Builtin.max2, g1, g2]
      · exact h.elim
    · exact h.elim
  · rename_i args ts
    split at h
    · rename_i x y hl
      obtain ⟨a, ha, h⟩ := scK_some h
      obtain ⟨b, hb, h⟩ := scK_some h
      split at h
      · have g1 := he.sc ha; have g2 := he.sc hb
        simp only [SR] at g1 g2
        obtain rfl : args = #[x, y] := by apply Array.ext'; simpa using hl
        refine ⟨_, _, h, rfl, fun w => ?_⟩
        simp only [imin, ilt_eq]
        simp [execOp, resolve, invoke, builtin, Builtin.min_, Builtin.min2, g1, g2]
      · exact h.elim
    · exact h.elim
  · exact h.elim
end Go.Xe
