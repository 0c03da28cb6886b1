/- Executor: steps over a memory of which some blocks are told (newest first), without fuel. -/
import Derived.Test.YtgjggcgdilahdaaX27
import Derived.Test.YtgjggcgdilahdaaX24
import Derived.Test.YtgjggcgdilahdaaXLet
set_option linter.unusedVariables false
set_option linter.unusedSimpArgs false
set_option linter.constructorNameAsVariable false
set_option linter.unusedVariables false
set_option linter.unusedSimpArgs false
namespace Go.Xe
open Go.RowKit
/-- Some blocks below n, newest first. -/
inductive Kn (H : HM AO) : Nat → List (Nat × AO) → Prop
  | nil {n} : Kn H n []
  | cons {n b ao M} : b < n → H.get b = some ao → Kn H b M → Kn H n ((b, ao) :: M)
theorem Kn.up {H n M} (h : Kn H n M) {m : Nat} (hm : n ≤ m) : Kn H m M := by
  cases h with
  | nil => exact .nil
  | cons h1 h2 h3 => exact .cons (by omega) h2 h3
theorem Kn.uncons {H n b ao M} (h : Kn H n ((b, ao) :: M)) : b < n ∧ H.get b = some ao ∧ Kn H b M := by cases h with | cons h1 h2 h3 => exact ⟨h1, h2, h3⟩
theorem Kn.tail {H n p M} (h : Kn H n (p :: M)) : Kn H n M := by
  obtain ⟨b, ao⟩ := p
  exact h.uncons.2.2.up (by have := h.uncons.1; omega)
theorem Kn.keep {H H' : HM AO} : ∀ {M n}, Kn H n M → (∀ b, b < n → H'.get b = H.get b) → Kn H' n M
  | [], _, _, _ => .nil
  | (b, ao) :: M, n, h, hk => by
    obtain ⟨h1, h2, h3⟩ := h.uncons
    exact .cons h1 (by rw [hk b h1]; exact h2) (h3.keep fun c hc => hk c (by omega))
theorem Kn.mem {H} : ∀ {M n}, Kn H n M → ∀ {b ao}, (b, ao) ∈ M → b < n ∧ H.get b = some ao
  | [], _, _, _, _, h => by simp at h
  | (b, ao) :: M, n, h, c, a, hm => by
    obtain ⟨h1, h2, h3⟩ := h.uncons
    rcases List.mem_cons.1 hm with e | hm
    · cases e; exact ⟨h1, h2⟩
    · have := h3.mem hm; exact ⟨by omega, this.2⟩
theorem Kn.sub {H} {M M' : List (Nat × AO)} (s : M'.Sublist M) : ∀ {n}, Kn H n M → Kn H n M' := by
  induction s with
  | slnil => exact fun h => h
  | cons a s ih => exact fun h => ih h.tail
  | cons_cons a s ih =>
    intro n h
    obtain ⟨b, ao⟩ := a
    obtain ⟨h1, h2, h3⟩ := h.uncons
    exact .cons h1 h2 (ih h3)
/-- A told block is another one. -/
def setM (M : List (Nat × AO)) (b : Nat) (ao : AO) : List (Nat × AO) := M.map fun p => if p.1 = b then (b, ao) else p
theorem setM_low {H : HM AO} : ∀ {M : List (Nat × AO)} {n}, Kn H n M → ∀ {b}, n ≤ b → ∀ ao, setM M b ao = M
  | [], _, _, _, _, _ => rfl
  | (c, a) :: M, n, h, b, hb, ao => by
    obtain ⟨h1, h2, h3⟩ := h.uncons
    unfold setM
    rw [List.map_cons, if_neg (by show ¬ c = b; omega)]
    congr 1
    exact setM_low h3 (by omega) ao
theorem Kn.set {H} : ∀ {M n}, Kn H n M → ∀ (b : Nat) (ao : AO), Kn (H.set b (some ao)) n (setM M b ao)
  | [], _, _, _, _ => .nil
  | (c, a) :: M, n, h, b, ao => by
    obtain ⟨h1, h2, h3⟩ := h.uncons
    unfold setM
    rw [List.map_cons]
    by_cases e : c = b
    · subst e
      rw [if_pos rfl]
      refine .cons h1 (by rw [HM.get_set, if_pos rfl]) ?_
      have : List.map (fun p => if p.1 = c then (c, ao) else p) M = M := setM_low h3 (Nat.le_refl _) ao
      rw [this]
      exact h3.keep fun d hd => by rw [HM.get_set, if_neg (by omega)]
    · rw [if_neg e]
      exact .cons h1 (by rw [HM.get_set, if_neg e]; exact h2) (h3.set b ao)
theorem Kn.new {H n M} (h : Kn H n M) (ao : AO) : Kn (H.set n (some ao)) (n + 1) ((n, ao) :: M) :=
  .cons (Nat.lt_succ_self _) (by rw [HM.get_set, if_pos rfl]) (h.keep fun b hb => by rw [HM.get_set, if_neg (by omega)])
theorem Kn.add {i : Nat → Option AO} {H n M} (h : Kn H n M) {ao : AO} {P : St → Prop} (k : ∀ H', Kn H' (n + 1) ((n, ao) :: M) → P ⟨i, H', n + 1⟩) : P (St.add ⟨i, H, n⟩ ao) := k _ (h.new ao)
theorem Kn.letS {i : Nat → Option AO} {H n M} (h : Kn H n M) {ao : AO} {P : St → Prop} (k : ∀ H', Kn H' (n + 1) ((n, ao) :: M) → P ⟨i, H', n + 1⟩) : letK (St.add ⟨i, H, n⟩ ao) P := k _ (h.new ao)
theorem uncK_e {l a r} {K : SV → List SV → Prop} (e : l = a :: r) (h : K a r) : uncK l K := by subst e; exact h
theorem cI_e {k v n} {K : Int → Prop} (e : v = .int k n) (h : K n) : SV.cI k v K := by subst e; exact cI_i h
theorem cB_e {v n} {K : Bool → Prop} (e : v = .bool n) (h : K n) : SV.cB v K := by subst e; exact h
theorem cL_e {v n} {K : LV → Prop} (e : v = .sl n) (h : K n) : SV.cL v K := by subst e; exact h
theorem uncV_e {v a r} {K : V1 → List V1 → Prop} (e : v = a :: r) (h : K a r) : uncV v K := by subst e; exact h
theorem scK_e {v x} {K : SV → Prop} (e : v = .one (.s x)) (h : K x) : scK v K := by subst e; exact h
theorem avT_e {v x} {K : List V1 → Prop} (e : v = .tup x) (h : K x) : avT v K := by subst e; exact h
theorem v1S_e {v x} {K : SV → Prop} (e : v = .s x) (h : K x) : v1S v K := by subst e; exact h
theorem pvcs_e {v b o} {K : Bk → Nat → Prop} (e : v = .mk b o) (h : K b o) : PV.cs v K := by subst e; exact h
theorem lvcs_e {v b o n c} {K : Bk → Nat → Nat → Nat ⊕ Nat → Prop} (e : v = .mk b o n c) (h : K b o n c) : LV.cs v K := by subst e; exact h
theorem req_rng {k m : Nat} {K : Prop} (h : k < m) (hk : K) : req (Bool.and (ile 0 (k : Int)) (ilt (k : Int) (Int.ofNat m))) K := by
  refine req_i ?_ hk
  rw [ile_eq, ilt_eq, decide_eq_true (Int.natCast_nonneg k), show decide ((k : Int) < Int.ofNat m) = true from decide_eq_true (Int.ofNat_lt.2 h)]; rfl
theorem endL_e {α : Type} {l : List α} {K : Prop} (e : l = []) (h : K) : endL l K := by subst e; exact h
variable {i : Nat → Option AO}
theorem Kn.atG {H n} {b o : Nat} {c op} {K : List SV → Prop} (h : H.get b = some (.cells c op)) (k : K (c.drop o)) : St.at ⟨i, H, n⟩ (.new b) o K := by
  unfold St.at; rw [show (St.mk i H n).get (.new b) = some (.cells c op) from h]; exact k
theorem Kn.wrG {H n M} (hk : Kn H n M) {b o : Nat} {c op new} {K : St → Prop} (h : H.get b = some (.cells c op)) (hle : Nat.ble (o + new.length) c.length = true)
    (k : ∀ H', Kn H' n (setM M b (.cells (c.take o ++ (new ++ c.drop (o + new.length))) op)) → K ⟨i, H', n⟩) : St.wr ⟨i, H, n⟩ (.new b) o new K := by
  unfold St.wr
  dsimp only
  rw [h]
  dsimp only
  rw [hle]
  exact k _ (hk.set b _)
theorem setM_ne {M : List (Nat × AO)} {b : Nat} {ao : AO} {c : Nat} {a : AO} (h : c ≠ b) : setM ((c, a) :: M) b ao = (c, a) :: setM M b ao := by
  unfold setM; rw [List.map_cons, if_neg h]
theorem Kn.setM_head {H : HM AO} {n b a M} (h : Kn H n ((b, a) :: M)) (ao : AO) : setM ((b, a) :: M) b ao = (b, ao) :: M := by
  have : setM ((b, a) :: M) b ao = (b, ao) :: setM M b ao := by unfold setM; rw [List.map_cons, if_pos rfl]
  rw [this, setM_low h.uncons.2.2 (Nat.le_refl _)]
theorem Kn.head_ne {H : HM AO} {n c a M b ao} (h : Kn H n ((c, a) :: M)) (hm : (b, ao) ∈ M) : c ≠ b := by
  have := (h.uncons.2.2.mem hm).1; omega
theorem Kn.g0 {H n  b ao M} (hk : Kn H n ((b, ao) :: M)) : H.get b = some ao := (hk.mem (by simp)).2
theorem Kn.at0 {H n  b o c op M} {K : List SV → Prop} (hk : Kn H n ((b, .cells c op) :: M)) (k : K (c.drop o)) : St.at ⟨i, H, n⟩ (.new b) o K := Kn.atG hk.g0 k
theorem Kn.s0 {H n  b ao M} (hk : Kn H n ((b, ao) :: M)) (ao' : AO) : setM ((b, ao) :: M) b ao' = (b, ao') :: M := by
  exact hk.setM_head ao'
theorem Kn.wr0 {H n  b o c op new M} {K : St → Prop} (hk : Kn H n ((b, .cells c op) :: M)) (hle : Nat.ble (o + new.length) c.length = true) (k : ∀ H', Kn H' n ((b, .cells (c.take o ++ (new ++ c.drop (o + new.length))) op) :: M) → K ⟨i, H', n⟩) : St.wr ⟨i, H, n⟩ (.new b) o new K :=
  hk.wrG hk.g0 hle fun H' h => k H' (by rw [hk.s0] at h; exact h)
theorem Kn.g1 {H n p0 b ao M} (hk : Kn H n (p0 :: (b, ao) :: M)) : H.get b = some ao := (hk.mem (by simp)).2
theorem Kn.s1 {H n p0 b ao M} (hk : Kn H n (p0 :: (b, ao) :: M)) (ao' : AO) : setM (p0 :: (b, ao) :: M) b ao' = p0 :: (b, ao') :: M := by
  obtain ⟨c, a⟩ := p0
  rw [setM_ne (hk.head_ne (b := b) (ao := ao) (by simp)), hk.tail.s0 ao']
theorem Kn.wr1 {H n p0 b o c op new M} {K : St → Prop} (hk : Kn H n (p0 :: (b, .cells c op) :: M)) (hle : Nat.ble (o + new.length) c.length = true) (k : ∀ H', Kn H' n (p0 :: (b, .cells (c.take o ++ (new ++ c.drop (o + new.length))) op) :: M) → K ⟨i, H', n⟩) : St.wr ⟨i, H, n⟩ (.new b) o new K :=
  hk.wrG hk.g1 hle fun H' h => k H' (by rw [hk.s1] at h; exact h)
theorem Kn.g2 {H n p0 p1 b ao M} (hk : Kn H n (p0 :: p1 :: (b, ao) :: M)) : H.get b = some ao := (hk.mem (by simp)).2
theorem Kn.s2 {H n p0 p1 b ao M} (hk : Kn H n (p0 :: p1 :: (b, ao) :: M)) (ao' : AO) : setM (p0 :: p1 :: (b, ao) :: M) b ao' = p0 :: p1 :: (b, ao') :: M := by
  obtain ⟨c, a⟩ := p0
  rw [setM_ne (hk.head_ne (b := b) (ao := ao) (by simp)), hk.tail.s1 ao']
theorem Kn.g3 {H n p0 p1 p2 b ao M} (hk : Kn H n (p0 :: p1 :: p2 :: (b, ao) :: M)) : H.get b = some ao := (hk.mem (by simp)).2
theorem Kn.g4 {H n p0 p1 p2 p3 b ao M} (hk : Kn H n (p0 :: p1 :: p2 :: p3 :: (b, ao) :: M)) : H.get b = some ao := (hk.mem (by simp)).2
theorem Kn.g5 {H n p0 p1 p2 p3 p4 b ao M} (hk : Kn H n (p0 :: p1 :: p2 :: p3 :: p4 :: (b, ao) :: M)) : H.get b = some ao := (hk.mem (by simp)).2
theorem Kn.g6 {H n p0 p1 p2 p3 p4 p5 b ao M} (hk : Kn H n (p0 :: p1 :: p2 :: p3 :: p4 :: p5 :: (b, ao) :: M)) : H.get b = some ao := (hk.mem (by simp)).2
theorem Kn.g7 {H n p0 p1 p2 p3 p4 p5 p6 b ao M} (hk : Kn H n (p0 :: p1 :: p2 :: p3 :: p4 :: p5 :: p6 :: (b, ao) :: M)) : H.get b = some ao := (hk.mem (by simp)).2
theorem Kn.g8 {H n p0 p1 p2 p3 p4 p5 p6 p7 b ao M} (hk : Kn H n (p0 :: p1 :: p2 :: p3 :: p4 :: p5 :: p6 :: p7 :: (b, ao) :: M)) : H.get b = some ao := (hk.mem (by simp)).2
/- The semantic tables: functions and pieces are what they come to. -/
theorem DS_ok (P : Program) (G : Nat → Bool) : DOK P G (CallOK P G) := fun _ _ _ _ h => h
def JS (P : Program) (G : Nat → Bool) (fn : Func) (T : Nat → List Item × List Nat) : Disp := fun p vals S K => (∀ t ∈ (T p).2, t < 4096) ∧ Runs P G fn (T p).1 (envOf (T p).2 vals) S K
theorem JS_ok (P : Program) (G : Nat → Bool) (fn : Func) (T : Nat → List Item × List Nat) : JOK P G fn T (JS P G fn T) := fun _ _ _ _ h => h
theorem CallOK.e {P G f args S K} (h : CallE P G f args S K) : CallOK P G f args S K := .inl h
theorem iw64 {n : Int} (h0 : -9223372036854775808 ≤ n) (h1 : n ≤ 9223372036854775807) : iwrap .i64 n = n := by rw [iwrap_eq]; exact wrap_id .i64 _ h0 h1
end Go.Xe
