/- Executor, second make: rows of operations whose order is drawn. -/
import Derived.Test.YtgjggcgdilahdaaX15
set_option linter.unusedVariables false
set_option linter.unusedSimpArgs false
set_option linter.constructorNameAsVariable false
set_option linter.unusedVariables false
set_option linter.unusedSimpArgs false
namespace Go.Xe
open Go.RowKit

theorem madeK_run {P e} {o : Oper} {K} (h : madeK P e o.op K) {ρ c} (he : EvR ρ e c) (base : Nat) : ∃ mk, K mk ∧ ∃ s, execOp c o = (do pure (.value (← s))) ∧ Makes base P ρ mk.ao mk.v s := by
  obtain ⟨dst, op, ty, pos, aft, gd⟩ := o
  unfold madeK at h
  simp only at h
  split at h
  · rename_i t
    obtain ⟨z, h1, hK⟩ := optK_some h
    refine ⟨_, hK, _, rfl, ?_⟩
    intro g next w hw
    obtain ⟨cz, h2, h3⟩ := zeroA_run h1 ρ
    obtain ⟨vs, h4, h5⟩ := h2.cells
    refine ⟨.pointer (some ⟨w.heap.size, 0, none⟩), .cells cz.cells t, _, ?_, by rw [h4]; exact cells_ORt h5 t, fun b ρ' hl hb => ⟨_, _, _, hb, rfl⟩⟩
    simp [Instr.alloc, h3, newVar, newRow]
  · rename_i t x
    obtain ⟨a, ha, hK⟩ := oneK_some h
    refine ⟨_, hK, _, rfl, ?_⟩
    intro g next w hw
    obtain ⟨vs, h4, h5⟩ := (he.one ha).cells
    refine ⟨.pointer (some ⟨w.heap.size, 0, none⟩), .cells (c x).cells t, _, ?_, by rw [h4]; exact cells_ORt h5 t, fun b ρ' hl hb => ⟨_, _, _, hb, rfl⟩⟩
    simp [Instr.box, newVar, newRow]
  · rename_i t len ps
    obtain ⟨m, hm, h⟩ := optK_some h
    split at h
    · rename_i e' hu
      obtain ⟨z, hz, h⟩ := optK_some h
      obtain ⟨zv, hzv, h⟩ := optK_some h
      obtain ⟨hc, h⟩ := req_and h
      obtain ⟨l, h1, hK⟩ := optK_some h
      simp only [Bool.and_eq_true, Nat.beq_eq, blt_iff] at hc
      refine ⟨_, hK, _, rfl, ?_⟩
      have hp : All2 (fun (a : Nat × V1) (b : Nat × Value) => a.1 = b.1 ∧ VR1 ρ a.2 b.2) m (ps.map fun (i, x) => (i, c x)).toList := by rw [Array.toList_map]; exact evParts_ok he hm
      intro g next w hw
      obtain ⟨cz, h2, h3⟩ := zeroA_run hzv ρ
      obtain ⟨zs, h4, h5⟩ := h2.cells
      obtain ⟨hz0, hzr⟩ := sizeA_run hz
      have hne : zv.cells ≠ [] := fun e => hz0 (by rw [← hc.1, e]; rfl)
      have hrep := rep_rel h5 len hne
      rw [hc.1] at hrep
      obtain ⟨ws, h6, h7⟩ := fillA_run h1 hrep hp
      refine ⟨.slice (some ⟨w.heap.size, 0, none⟩) len len, .cells ws.toArray e', _, ?_, cells_OR h6 e', fun b ρ' hl hb => ⟨_, _, _, len, 0, hb, by simp, by simp, Nat.le_refl _, by simp, by simp⟩⟩
      have hbig : ¬ (len * z > 2 ^ 24) := by omega
      by_cases h0 : len * z = 0
      · have er : Array.range 0 = #[] := rfl
        rw [h0, er] at h7
        simp [Instr.buildSlice, underlying, hu, hzr, h0, newRow, er]
        simp at h7
        rw [h7]; simp
      · simp only [Instr.buildSlice, underlying, Sem.run_bind, run_program, Result.andThen_ok, hu, Sem.run_pure, hzr, hbig, if_false, Sem.run_ite, h0, h3, h4, h7, newRow, Array.toArray_toList]
        simp
    · exact h.elim
  · rename_i t
    refine ⟨_, h, _, rfl, ?_⟩
    intro g next w hw
    exact ⟨.map (some w.heap.size), .map #[] 0, 0, by simp [Instr.makeMap], ⟨[], by simp, .nil⟩, fun b ρ' hl hb => ⟨_, _, _, hb, rfl⟩⟩
  · rename_i t l c'
    obtain ⟨vl, hvl, h⟩ := scK_some h
    obtain ⟨vc, hvc, h⟩ := scK_some h
    have hl := he.sc hvl
    have hc := he.sc hvc
    split at h
    · have hu := ‹P.underlying _ = some (TypeDesc.slice _)›
      rename_i _ _ el l0 c0 _ _
      generalize hcl : c l = cl at hl
      generalize hcc : c c' = cc at hc
      have h' := h
      clear h
      obtain ⟨z, hz, h⟩ := optK_some h'
      obtain ⟨zv, hzv, h⟩ := optK_some h
      obtain ⟨i, hi, h⟩ := optK_some h
      obtain ⟨hk, h⟩ := req_and h
      obtain ⟨hk2, hK⟩ := req_and h
      cases hl; cases hc
      simp only [Bool.and_eq_true, Nat.beq_eq, ile_eq, decide_eq_true_eq] at hk hk2
      obtain ⟨k0, k1, k2⟩ := hk2
      have k3 := Nat.le_of_ble_eq_true hk.2
      refine ⟨_, hK, _, rfl, ?_⟩
      rw [hcl, hcc]
      obtain ⟨l1, hl1⟩ := Int.eq_ofNat_of_zero_le k0
      obtain ⟨c1, hc1⟩ := Int.eq_ofNat_of_zero_le (show 0 ≤ _ from Int.le_trans k0 k1)
      rw [hl1, hc1]
      rw [hl1, hc1] at k1
      rw [hc1] at k2
      simp only [Int.toNat_natCast]
      intro g next w hw
      obtain ⟨cz, h2, h3⟩ := zeroA_run hzv ρ
      obtain ⟨zs, h4, h5⟩ := h2.cells
      obtain ⟨hz0, hzr⟩ := sizeA_run hz
      have hne : zv.cells ≠ [] := fun e => hz0 (by rw [← hk.1, e]; rfl)
      have hrep := rep_rel h5 c1 hne
      rw [hk.1] at hrep
      have hmul : i.bytes * c1 ≤ 100000 * 2000000 := Nat.mul_le_mul k3 (by omega)
      have w1 := wrap_int (l1 : Int) (by omega) (by omega)
      have w2 := wrap_int (c1 : Int) (by omega) (by omega)
      refine ⟨.slice (some ⟨w.heap.size, 0, none⟩) l1 c1, .cells (((Array.range (c1 * z)).map (zs.toArray[· % zs.toArray.size]!))) _, c1 * z, ?_, by have := rowAO_OR hrep el hne; rw [hk.1, Array.toArray_toList] at this; exact this, fun b ρ' hl hb => ⟨_, _, _, c1, 0, hb, by simp, by simp, by omega, by simp, by simp⟩⟩
      have t1 : ¬ ((c1 : Int) < 0) := by omega
      have t2 : ¬ ((l1 : Int) < 0) := by omega
      have t3 : ¬ ((l1 : Int) > (c1 : Int)) := by omega
      have t4 : ¬ ((i.bytes : Int) * (c1 : Int) > 2 ^ 48) := by
        have : ((i.bytes * c1 : Nat) : Int) ≤ 200000000000 := by omega
        rw [Int.natCast_mul] at this; omega
      simp only [Instr.makeSlice, underlying, Sem.run_bind, run_program, Result.andThen_ok, hu, Sem.run_pure, asInt, asIntOf, typeInfo, hi, w1, w2, t1, t2, t3, t4, decide_false, Bool.or_self, Bool.false_eq_true, if_false, run_askRoom, hzr, Int.toNat_natCast]
      by_cases h0 : c1 * z = 0
      · have er : Array.range 0 = #[] := rfl
        simp [h0, newRow, er]
      · simp [h0, h3, h4, newRow]
    · exact h.elim
  · exact h.elim

/-- The slots that an operation reads. -/
def slotsOf (o : Oper) : List Nat := o.op.operands.toList.filterMap fun | .tmp t => some t | _ => none
def memN (t : Nat) : List Nat → Bool
  | [] => false
  | x :: l => cond (Nat.beq x t) true (memN t l)
theorem memN_iff {t : Nat} : ∀ {l : List Nat}, memN t l = true ↔ t ∈ l
  | [] => by simp [memN]
  | x :: l => by
    simp only [memN, beq_eq, List.mem_cons]
    by_cases h : x = t
    · subst h; simp
    · have h' : t ≠ x := fun e => h e.symm
      simp [h, h', memN_iff (l := l)]
noncomputable abbrev maskE (l : List Nat) (e : Nat → AV) : Nat → AV := fun t => match memN t l with | true => e t | false => .any
noncomputable abbrev envM (G : Nat → Bool) (g : Nat → AV) (o : Oper) : Ev := evO G (maskE (slotsOf o) g)
theorem maskE_congr {l : List Nat} {e e' : Nat → AV} (h : ∀ t ∈ l, e t = e' t) : maskE l e = maskE l e' := by
  funext t
  unfold maskE
  cases hm : memN t l with
  | false => rfl
  | true => exact h t (memN_iff.1 hm)

inductive Cl where
  | p | r | a | w
  deriving DecidableEq
def cls (P : Program) (o : Op) : Cl := match o with
  | .load .. | .lookup .. | .entry .. => .r
  | .convert s _ _ => (match P.underlying s with | some (.slice _) => .r | _ => .p)
  | .call ⟨.builtin .len, _, _⟩ => .r
  | .call ⟨.builtin .max, _, _⟩ => .p
  | .call ⟨.builtin .min, _, _⟩ => .p
  | .alloc .. | .box .. | .buildSlice .. | .makeMap .. | .makeSlice .. => .a
  | .store .. | .mapUpdate .. | .insert .. | .range .. | .next .. | .call .. => .w
  | _ => .p

/- Blocks that are made, and not yet in the memory: their operation, their number, what they hold. -/
abbrev Pen := Nat × Nat × AO
noncomputable abbrev matH (H : HM AO) (l : List Pen) : HM AO := List.rec (motive := fun _ => HM AO) H (fun p _ ih => ih.set p.2.1 (some p.2.2)) l
noncomputable abbrev mat (M : St) (N : Nat) (l : List Pen) : St := ⟨M.inp, matH M.H l, N⟩
def penG (l : List Pen) (b : Bk) : Option AO := match b with
  | .inp _ => none
  | .new k => (l.find? fun p => p.2.1 == k).map (·.2.2)
def orG (e g : Mem) : Mem := fun b => match e b with | some ao => some ao | none => g b
theorem matH_get (H : HM AO) (k : Nat) : ∀ (l : List Pen), (matH H l).get k = (match (l.find? fun p => p.2.1 == k).map (·.2.2) with | some ao => some ao | none => H.get k)
  | [] => rfl
  | p :: l => by
    show ((matH H l).set p.2.1 (some p.2.2)).get k = _
    rw [HM.get_set, matH_get H k l]
    by_cases h : k = p.2.1
    · subst h; simp
    · have h' : (p.2.1 == k) = false := by simpa using fun e => h e.symm
      rw [if_neg h, List.find?_cons_of_neg (by simp [h'])]
theorem mat_get (M : St) (N : Nat) (l : List Pen) : (mat M N l).get = orG (penG l) M.get := by
  funext b
  cases b with
  | inp r => rfl
  | new k => exact matH_get M.H k l

/- Sameness, to be reckoned. -/
def bkEq : Bk → Bk → Bool
  | .inp a, .inp b => Nat.beq a b
  | .new a, .new b => Nat.beq a b
  | _, _ => false
def pvEq : PV → PV → Bool
  | .nil, .nil => true
  | .mk b o, .mk c q => bkEq b c && Nat.beq o q
  | _, _ => false
def cpEq : Nat ⊕ Nat → Nat ⊕ Nat → Bool
  | .inl a, .inl b => Nat.beq a b
  | .inr a, .inr b => Nat.beq a b
  | _, _ => false
def lvEq : LV → LV → Bool
  | .nil, .nil => true
  | .mk b o n c, .mk b' o' n' c' => bkEq b b' && (Nat.beq o o' && (Nat.beq n n' && cpEq c c'))
  | _, _ => false
def mvEq : MV → MV → Bool
  | .nil, .nil => true
  | .mk b, .mk c => bkEq b c
  | _, _ => false
def fvEq : FV → FV → Bool
  | .nil, .nil => true
  | _, _ => false
def sameSV : SV → SV → Bool
  | .bool a, .bool b => a == b
  | .int j a, .int k b => decide (j = k) && ieq a b
  | .str a, .str b => leq a b
  | .ptr p, .ptr q => pvEq p q
  | .sl p, .sl q => lvEq p q
  | .map p, .map q => mvEq p q
  | .fn p, .fn q => fvEq p q
  | _, _ => false
def sameSL : List SV → List SV → Bool
  | [], [] => true
  | a :: l, b :: m => sameSV a b && sameSL l m
  | _, _ => false
def sameV1 : V1 → V1 → Bool
  | .s a, .s b => sameSV a b
  | .agg l, .agg m => sameSL l m
  | _, _ => false
def sameVL : List V1 → List V1 → Bool
  | [], [] => true
  | a :: l, b :: m => sameV1 a b && sameVL l m
  | _, _ => false
def sameAV : AV → AV → Bool
  | .one a, .one b => sameV1 a b
  | .tup l, .tup m => sameVL l m
  | _, _ => false
theorem bkEq_eq {a b : Bk} (h : bkEq a b = true) : a = b := by
  unfold bkEq at h; split at h <;> first | (rw [Nat.eq_of_beq_eq_true h]) | cases h
theorem pvEq_eq {a b : PV} (h : pvEq a b = true) : a = b := by
  unfold pvEq at h; split at h
  · rfl
  · simp only [Bool.and_eq_true] at h; rw [bkEq_eq h.1, Nat.eq_of_beq_eq_true h.2]
  · cases h
theorem cpEq_eq {a b : Nat ⊕ Nat} (h : cpEq a b = true) : a = b := by
  unfold cpEq at h; split at h <;> first | (rw [Nat.eq_of_beq_eq_true h]) | cases h
theorem lvEq_eq {a b : LV} (h : lvEq a b = true) : a = b := by
  unfold lvEq at h; split at h
  · rfl
  · simp only [Bool.and_eq_true] at h; rw [bkEq_eq h.1, Nat.eq_of_beq_eq_true h.2.1, Nat.eq_of_beq_eq_true h.2.2.1, cpEq_eq h.2.2.2]
  · cases h
theorem mvEq_eq {a b : MV} (h : mvEq a b = true) : a = b := by
  unfold mvEq at h; split at h
  · rfl
  · rw [bkEq_eq h]
  · cases h
theorem fvEq_eq {a b : FV} (h : fvEq a b = true) : a = b := by
  unfold fvEq at h; split at h
  · rfl
  · cases h
theorem sameSV_eq {a b : SV} (h : sameSV a b = true) : a = b := by
  unfold sameSV at h; split at h
  · rw [eq_of_beq h]
  · simp only [Bool.and_eq_true, decide_eq_true_eq, ieq_eq] at h; rw [h.1, eq_of_beq h.2]
  · rw [leq_eq] at h; rw [of_decide_eq_true h]
  · rw [pvEq_eq h]
  · rw [lvEq_eq h]
  · rw [mvEq_eq h]
  · rw [fvEq_eq h]
  · cases h
theorem sameSL_eq : ∀ {a b : List SV}, sameSL a b = true → a = b
  | [], [], _ => rfl
  | a :: l, b :: m, h => by simp only [sameSL, Bool.and_eq_true] at h; rw [sameSV_eq h.1, sameSL_eq h.2]
  | [], _ :: _, h => by simp [sameSL] at h
  | _ :: _, [], h => by simp [sameSL] at h
theorem sameV1_eq {a b : V1} (h : sameV1 a b = true) : a = b := by
  unfold sameV1 at h; split at h
  · rw [sameSV_eq h]
  · rw [sameSL_eq h]
  · cases h
theorem sameVL_eq : ∀ {a b : List V1}, sameVL a b = true → a = b
  | [], [], _ => rfl
  | a :: l, b :: m, h => by simp only [sameVL, Bool.and_eq_true] at h; rw [sameV1_eq h.1, sameVL_eq h.2]
  | [], _ :: _, h => by simp [sameVL] at h
  | _ :: _, [], h => by simp [sameVL] at h
theorem sameAV_eq {a b : AV} (h : sameAV a b = true) : a = b := by
  unfold sameAV at h; split at h
  · rw [sameV1_eq h]
  · rw [sameVL_eq h]
  · cases h

/-- What was read is read again, in the memory behind a step that turned it (but by those that stand ahead of the step). -/
noncomputable abbrev rechk (P : Program) (G : Nat → Bool) (ops : Array Oper) (g : Nat → AV) (S' : St) (ex rs : List Nat) (K : Prop) : Prop :=
  List.rec (motive := fun _ => Prop) K (fun i _ ih => match memN i ex with
    | true => ih
    | false => (match ops[i]? with
      | some o => readK P S' (envM G g o) o.type o.op fun v => (match o.dst with
        | some d => req (sameAV v (g d)) ih
        | none => ih)
      | none => False)) rs
theorem rechk_some {P G ops g S' ex K} : ∀ {rs : List Nat}, rechk P G ops g S' ex rs K → K ∧ ∀ i ∈ rs, memN i ex = false → ∀ o, ops[i]? = some o → ∃ v, (∀ d, o.dst = some d → g d = v) ∧ readK P S' (envM G g o) o.type o.op fun x => x = v
  | [], h => ⟨h, by simp⟩
  | i :: rs, h => by
    have h' : (match memN i ex with
      | true => rechk P G ops g S' ex rs K
      | false => (match ops[i]? with
        | some o => readK P S' (envM G g o) o.type o.op fun v => (match o.dst with
          | some d => req (sameAV v (g d)) (rechk P G ops g S' ex rs K)
          | none => rechk P G ops g S' ex rs K)
        | none => False)) := h
    cases hm : memN i ex with
    | true =>
      rw [hm] at h'
      obtain ⟨h1, h2⟩ := rechk_some (rs := rs) h'
      refine ⟨h1, fun j hj hjm => ?_⟩
      rcases List.mem_cons.1 hj with rfl | hj
      · rw [hm] at hjm; cases hjm
      · exact h2 j hj hjm
    | false =>
      rw [hm] at h'
      dsimp only at h'
      cases ho : ops[i]? with
      | none => rw [ho] at h'; exact h'.elim
      | some o =>
        rw [ho] at h'
        dsimp only at h'
        obtain ⟨v, h1, h2⟩ := det_read _ _ _ _ _ _ h'
        have h3 : rechk P G ops g S' ex rs K ∧ ∀ d, o.dst = some d → g d = v := by
          cases hd : o.dst with
          | none => rw [hd] at h1; exact ⟨h1, by simp⟩
          | some d =>
            rw [hd] at h1
            obtain ⟨h4, h5⟩ := req_and h1
            exact ⟨h5, fun d' e => by cases e; exact (sameAV_eq h4).symm⟩
        obtain ⟨h4, h5⟩ := rechk_some (rs := rs) h3.1
        refine ⟨h4, fun j hj hjm o' ho' => ?_⟩
        rcases List.mem_cons.1 hj with rfl | hj
        · rw [ho] at ho'; cases ho'; exact ⟨v, h3.2, h2⟩
        · exact h5 j hj hjm o' ho'

abbrev Plan := List (Nat × List Nat)
noncomputable abbrev drK (P : Program) (G : Nat → Bool) (D : Disp) (ops : Array Oper) (K : Tr AV → St → Prop) (plan : Plan) (E : Tr AV) (M : St) (N : Nat) (pend : List Pen) (rs : List Nat) : Prop :=
  List.rec (motive := fun _ => Tr AV → St → Nat → List Pen → List Nat → Prop) (fun E M N pend _ => K E (mat M N pend))
    (fun s _ ih E M N pend rs => match ops[s.1]? with
      | none => False
      | some o => wantK ops E o
        (fun E => match cls P o.op with
          | .p => pureK P (envM G (gE E) o) o.op fun v => ih (putE E o.dst v) M N pend rs
          | .r => readK P M (envM G (gE E) o) o.type o.op fun v => ih (putE E o.dst v) M N pend (s.1 :: rs)
          | .a => madeK P (envM G (gE E) o) o.op fun mk => ih (putE E o.dst (.one (.s (mk.v (.new N))))) M (Nat.succ N) ((s.1, N, mk.ao) :: pend) rs
          | .w => stepK P D (mat M N (pend.filter fun p => memN p.1 s.2)) (envM G (gE E) o) o fun v S' =>
              rechk P G ops (gE E) S' s.2 rs (ih (putE E o.dst v) S' S'.next (pend.filter fun p => !memN p.1 s.2) rs))
        (fun E => ih (putE E o.dst (.tup [])) M N pend rs)) plan E M N pend rs
end Go.Xe
