/- Syn: the arguments of SynTypes and SynDeep cut down to cases. -/
import Derived.Test.YtjifjbdlenmciaaGreatDoorXSyR
set_option linter.unusedVariables false
set_option linter.unusedSimpArgs false
set_option linter.constructorNameAsVariable false
set_option linter.unusedVariables false
set_option linter.unusedSimpArgs false
namespace Go.Xe
open Go.RowKit
set_option maxRecDepth 100000
theorem J5_4z (D : Disp) (k : Nat) (x0 x1 : Int) (s5 s6 : List Nat) (x7 : Int) (S : St) (K : AV → St → Prop) : J5 D (k + 1) 4 [nmS x0, nmS x1, .one (.s (.str s5)), .one (.s (.str s6)), nmS x7] S K = F5_4 D (J5 D k) x0 x1 s5 s6 x7 S K := by rfl
theorem J5_10z (D : Disp) (k : Nat) (x0 x1 : Int) (s5 s6 : List Nat) (x7 : Int) (S : St) (K : AV → St → Prop) : J5 D (k + 1) 10 [nmS x0, nmS x1, .one (.s (.str s5)), .one (.s (.str s6)), nmS x7] S K = F5_10 D (J5 D k) x0 x1 s5 s6 x7 S K := by rfl
theorem deep_j {D : Disp} {x1 r : Int} (h : D 11 [nmS x1, nmS 3] = D 11 [nmS r, nmS 3]) : ∀ (k : Nat) (x0 : Int) (s5 s6 : List Nat) (x7 : Int),
    J5 D k 4 [nmS x0, nmS x1, .one (.s (.str s5)), .one (.s (.str s6)), nmS x7] = J5 D k 4 [nmS x0, nmS r, .one (.s (.str s5)), .one (.s (.str s6)), nmS x7] ∧
    J5 D k 10 [nmS x0, nmS x1, .one (.s (.str s5)), .one (.s (.str s6)), nmS x7] = J5 D k 10 [nmS x0, nmS r, .one (.s (.str s5)), .one (.s (.str s6)), nmS x7]
  | 0, x0, s5, s6, x7 => ⟨rfl, rfl⟩
  | k + 1, x0, s5, s6, x7 => by
    have ih := deep_j h k
    constructor
    · funext S K
      rw [J5_4z, J5_4z]
      unfold F5_4
      rw [h]
      unfold F5_q7 F5_q6
      have e : ∀ a b, J5 D k 10 [AV.one (V1.s (SV.int .i64 x0)), AV.one (V1.s (SV.int .i64 x1)), .one (.s (.str a)), .one (.s (.str b)), AV.one (V1.s (SV.int .i64 x7))] = J5 D k 10 [AV.one (V1.s (SV.int .i64 x0)), AV.one (V1.s (SV.int .i64 r)), .one (.s (.str a)), .one (.s (.str b)), AV.one (V1.s (SV.int .i64 x7))] := fun a b => (ih x0 a b x7).2
      simp only [e]
    · funext S K
      rw [J5_10z, J5_10z]
      unfold F5_10
      exact congrFun (congrFun (ih x0 s5 s6 _).1 S) K
theorem deep_red {D : Disp} {k : Nat} {x0 x1 q r : Int} (h0 : D 11 [nmS x0, nmS 60] = D 11 [nmS q, nmS 60]) (h : D 11 [nmS x1, nmS 3] = D 11 [nmS r, nmS 3]) (S : St) (K : AV → St → Prop) : F5_0 D (J5 D k) x0 x1 S K = F5_0 D (J5 D k) q r S K := by
  unfold F5_0
  rw [h0]
  have e : ∀ a b x y, J5 D k 4 [AV.one (V1.s (SV.int .i64 y)), AV.one (V1.s (SV.int .i64 x1)), .one (.s (.str a)), .one (.s (.str b)), AV.one (V1.s (SV.int .i64 x))] = J5 D k 4 [AV.one (V1.s (SV.int .i64 y)), AV.one (V1.s (SV.int .i64 r)), .one (.s (.str a)), .one (.s (.str b)), AV.one (V1.s (SV.int .i64 x))] := fun a b x y => (deep_j h k y a b x).1
  simp only [e]
theorem deep_law (h : ∀ (k : Nat) (mx : Int) (cp : Nat → Nat) (r s : Int), 0 ≤ r → r < 60 → 0 ≤ s → s < 3 → A5_0 (SynE mx cp (k+4000)) (J5 (SynE mx cp (k+4000)) (k+4000)) [nmS r, nmS s] (SynS mx cp) isTrue = fine mx cp) : SynLaw 5 := by
  intro mx cp x0 x1
  have ha := lowS_rng x0 (y := 60) (by decide) (by decide)
  have hb := lowS_rng x1 (y := 3) (by decide) (by decide)
  have red := deep_red (D := SynE mx cp (0 + 4000)) (k := 0 + 4000) (low_step mx cp 3999 x0 (y := 60) (by decide) (by decide)) (low_step mx cp 3999 x1 (y := 3) (by decide) (by decide)) (SynS mx cp) isTrue
  refine E5_ok (SynE_ok mx cp (0 + 4000)) (0 + 4000) ?_
  show F5_0 (SynE mx cp (0 + 4000)) (J5 (SynE mx cp (0 + 4000)) (0 + 4000)) x0 x1 (SynS mx cp) isTrue
  rw [red]
  have hc := h 0 mx cp _ _ ha.1 ha.2 hb.1 hb.2
  show A5_0 (SynE mx cp (0+4000)) (J5 (SynE mx cp (0+4000)) (0+4000)) [nmS (lowS x0 60), nmS (lowS x1 3)] (SynS mx cp) isTrue
  rw [hc]; exact fineI mx cp
theorem J6_6z (D : Disp) (k : Nat) (x1 x2 : Int) (s10 s11 : List Nat) (x12 : Int) (S : St) (K : AV → St → Prop) : J6 D (k + 1) 6 [nmS x1, nmS x2, .one (.s (.str s10)), .one (.s (.str s11)), nmS x12] S K = F6_6 D (J6 D k) x1 x2 s10 s11 x12 S K := by rfl
theorem types_j {D : Disp} {x1 x2 r s : Int} (h : D 11 [nmS x1, nmS 4] = D 11 [nmS r, nmS 4]) (h2 : D 11 [nmS x2, nmS 9] = D 11 [nmS s, nmS 9]) : ∀ (k : Nat) (s10 s11 : List Nat) (x12 : Int),
    J6 D k 6 [nmS x1, nmS x2, .one (.s (.str s10)), .one (.s (.str s11)), nmS x12] = J6 D k 6 [nmS r, nmS s, .one (.s (.str s10)), .one (.s (.str s11)), nmS x12]
  | 0, s10, s11, x12 => rfl
  | k + 1, s10, s11, x12 => by
    have ih := types_j h h2 k
    funext S K
    rw [J6_6z, J6_6z]
    unfold F6_6
    rw [h]
    unfold F6_q20 F6_q33
    rw [h2]
    have e : ∀ a b y, J6 D k 6 [AV.one (V1.s (SV.int .i64 x1)), AV.one (V1.s (SV.int .i64 x2)), .one (.s (.str a)), .one (.s (.str b)), AV.one (V1.s (SV.int .i64 y))] = J6 D k 6 [AV.one (V1.s (SV.int .i64 r)), AV.one (V1.s (SV.int .i64 s)), .one (.s (.str a)), .one (.s (.str b)), AV.one (V1.s (SV.int .i64 y))] := fun a b y => ih a b y
    simp only [e]
theorem types_red {D : Disp} {k : Nat} {x0 x1 x2 q r s : Int} (h0 : D 11 [nmS x0, nmS 11] = D 11 [nmS q, nmS 11]) (h : D 11 [nmS x1, nmS 4] = D 11 [nmS r, nmS 4]) (h2 : D 11 [nmS x2, nmS 9] = D 11 [nmS s, nmS 9]) (S : St) (K : AV → St → Prop) : F6_0 D (J6 D k) x0 x1 x2 S K = F6_0 D (J6 D k) q r s S K := by
  unfold F6_0 F6_q19
  dsimp only
  unfold F6_q18
  dsimp only
  rw [h0]
  unfold F6_q17
  have e : ∀ a b y, J6 D k 6 [AV.one (V1.s (SV.int .i64 x1)), AV.one (V1.s (SV.int .i64 x2)), .one (.s (.str a)), .one (.s (.str b)), AV.one (V1.s (SV.int .i64 y))] = J6 D k 6 [AV.one (V1.s (SV.int .i64 r)), AV.one (V1.s (SV.int .i64 s)), .one (.s (.str a)), .one (.s (.str b)), AV.one (V1.s (SV.int .i64 y))] := fun a b y => types_j h h2 k a b y
  simp only [e]
theorem types_law (h : ∀ (k : Nat) (mx : Int) (cp : Nat → Nat) (q r s : Int), 0 ≤ q → q < 11 → 0 ≤ r → r < 4 → 0 ≤ s → s < 9 → A6_0 (SynE mx cp (k+4000)) (J6 (SynE mx cp (k+4000)) (k+4000)) [nmS q, nmS r, nmS s] (SynS mx cp) isTrue = fine mx cp) : SynLaw3 6 := by
  intro mx cp x0 x1 x2
  have ha := lowS_rng x0 (y := 11) (by decide) (by decide)
  have hb := lowS_rng x1 (y := 4) (by decide) (by decide)
  have hd := lowS_rng x2 (y := 9) (by decide) (by decide)
  have red := types_red (D := SynE mx cp (0 + 4000)) (k := 0 + 4000) (low_step mx cp 3999 x0 (y := 11) (by decide) (by decide)) (low_step mx cp 3999 x1 (y := 4) (by decide) (by decide)) (low_step mx cp 3999 x2 (y := 9) (by decide) (by decide)) (SynS mx cp) isTrue
  refine E6_ok (SynE_ok mx cp (0 + 4000)) (0 + 4000) ?_
  show F6_0 (SynE mx cp (0 + 4000)) (J6 (SynE mx cp (0 + 4000)) (0 + 4000)) x0 x1 x2 (SynS mx cp) isTrue
  rw [red]
  have hc := h 0 mx cp _ _ _ ha.1 ha.2 hb.1 hb.2 hd.1 hd.2
  show A6_0 (SynE mx cp (0+4000)) (J6 (SynE mx cp (0+4000)) (0+4000)) [nmS (lowS x0 11), nmS (lowS x1 4), nmS (lowS x2 9)] (SynS mx cp) isTrue
  rw [hc]; exact fineI mx cp
end Go.Xe
