/- GraphRings: the table of functions, awake, and what Low does. -/
import Derived.Test.YtdnakjagbhhmmaaXF
import Derived.Test.YtdnakjagbhhmmaaXRis
import Derived.Test.YtdnakjagbhhmmaaX24
set_option linter.unusedVariables false
set_option linter.unusedSimpArgs false
namespace Go.Xe
open Go.RowKit
set_option maxRecDepth 100000
noncomputable def GraphB : Disp := Disp.add 18 risK Disp.no
theorem GraphB_ok : DOK GraphP GraphG GraphB := DOK.add (fun args S K h => rising_ok h) DOK.no
theorem graph_awake_run (k : Nat) : A12_0 (GraphD GraphB (k+2000)) (J12 (GraphD GraphB (k+2000)) (k+2000)) [] S0 (fun v _ => v = .one (.s (.bool true))) = ((.one (.s (.bool true)) : AV) = .one (.s (.bool true))) := by kernel_rfl
theorem graph_awake_of {D : Disp} (hD : DOK GraphP GraphG D) {k : Nat} {K : AV → St → Prop} {p : Prop} (hp : p) (h : A12_0 D (J12 D k) [] S0 K = p) : CallOK GraphP GraphG 12 [] S0 K := by
  rw [← h] at hp
  exact E12_ok hD k hp
theorem graph_awake : CallOK GraphP GraphG 12 [] S0 (fun v _ => v = .one (.s (.bool true))) :=
  graph_awake_of (GraphD_ok GraphB_ok (0 + 2000)) (k := 0 + 2000) rfl (graph_awake_run 0)
noncomputable def GraphE (k : Nat) : Disp := Disp.add 12 (fun args S K => endL args (K (.one (.s (.bool true))) S)) (GraphD GraphB k)
theorem GraphE_ok (k : Nat) : DOK GraphP GraphG (GraphE k) :=
  DOK.add (fun args S K h => by
    obtain ⟨rfl, hk⟩ := endL_some h
    refine CallOK.alone rfl graph_awake ?_
    rintro v S' rfl
    exact ⟨rfl, hk⟩) (GraphD_ok GraphB_ok k)
abbrev nmG (x : Int) : AV := .one (.s (.int .i64 x))
def lowZ (x n : Int) : Int := iwrap .i64 (Int.tmod (iwrap .u64 x) (iwrap .u64 n))
theorem GraphE_5 (k : Nat) (args : List AV) (S : St) (K : AV → St → Prop) : GraphE k 5 args S K = GraphD GraphB k 5 args S K := rfl
theorem u64_nn (x : Int) : 0 ≤ iwrap .u64 x := by
  rw [iwrap_eq]; simp [IntKind.wrap, IntKind.bits, IntKind.signed, IntKind.min, IntKind.max]; omega
theorem lowZ_rng (x : Int) {y : Int} (hy : 0 < y) (hy2 : y ≤ 1000000) : 0 ≤ lowZ x y ∧ lowZ x y < y := by
  have e1 : iwrap .u64 y = y := by rw [iwrap_eq]; exact wrap_id .u64 y (show (0:Int) ≤ y by omega) (show y ≤ 18446744073709551615 by omega)
  have p1 := u64_nn x
  unfold lowZ
  rw [e1]
  have h1 : 0 ≤ (iwrap .u64 x).tmod y := Int.tmod_nonneg y p1
  have h2 : (iwrap .u64 x).tmod y < y := Int.tmod_lt_of_pos _ hy
  rw [iwrap_eq, wrap_id .i64 _ (show (-9223372036854775808:Int) ≤ _ by omega) (show _ ≤ (9223372036854775807:Int) by omega)]
  exact ⟨h1, h2⟩
theorem low_eq (k : Nat) {x y : Int} (hy : 0 < y) (hy2 : y ≤ 1000000) {S : St} {K : AV → St → Prop} : GraphE (k + 1) 5 [nmG x, nmG y] S K = K (nmG (lowZ x y)) S := by
  rw [GraphE_5, GraphD_5]
  unfold F5_0
  have e1 : iwrap .u64 y = y := by rw [iwrap_eq]; exact wrap_id .u64 y (show (0:Int) ≤ y by omega) (show y ≤ 18446744073709551615 by omega)
  have hne : y ≠ 0 := by omega
  have e2 : Bool.not (ieq (iwrap .u64 y) 0) = true := by rw [e1, ieq_eq]; simp [hne]
  dsimp only
  rw [e2]
  rfl
theorem rings_red {D J : Disp} {x0 x1 r s : Int} {S : St} {K : AV → St → Prop} (h1 : ∀ K : AV → St → Prop, D 5 [nmG x0, nmG 12] S K = K (nmG r) S) (h2 : ∀ K : AV → St → Prop, D 5 [nmG r, nmG 12] S K = K (nmG r) S)
    (h3 : ∀ K : AV → St → Prop, D 5 [nmG x1, nmG (iwrap .i64 (1 + r))] S K = K (nmG s) S) (h4 : ∀ K : AV → St → Prop, D 5 [nmG s, nmG (iwrap .i64 (1 + r))] S K = K (nmG s) S) :
    F3_0 D J x0 x1 S K = F3_0 D J r s S K := by
  unfold F3_0
  rw [h1, h2]
  show D 5 [nmG x1, nmG (iwrap .i64 (1 + r))] S _ = D 5 [nmG s, nmG (iwrap .i64 (1 + r))] S _
  rw [h3, h4]
end Go.Xe
