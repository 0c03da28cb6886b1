/- GraphRings: all cases. -/
import Derived.Test.YtdnakjagbhhmmaaXGr1
import Derived.Test.YtdnakjagbhhmmaaXGr2
import Derived.Test.YtdnakjagbhhmmaaXGr3
import Derived.Test.YtdnakjagbhhmmaaXGr4
set_option linter.unusedVariables false
namespace Go.Xe
open Go.RowKit
set_option maxRecDepth 100000
abbrev ringsOK (k : Nat) (r s : Int) : Prop := A3_0 (GraphE (k+2000)) (J3 (GraphE (k+2000)) (k+2000)) [nmG r, nmG s] S0 (fun v _ => v = .one (.s (.bool true))) = ((.one (.s (.bool true)) : AV) = .one (.s (.bool true)))
theorem rings_all (k : Nat) {r s : Int} (hr : 0 ≤ r) (hr2 : r < 12) (hs : 0 ≤ s) (hs2 : s ≤ r) : ringsOK k r s := by
  rcases (by omega : r = 0 ∨ r = 1 ∨ r = 2 ∨ r = 3 ∨ r = 4 ∨ r = 5 ∨ r = 6 ∨ r = 7 ∨ r = 8 ∨ r = 9 ∨ r = 10 ∨ r = 11) with rfl | rfl | rfl | rfl | rfl | rfl | rfl | rfl | rfl | rfl | rfl | rfl
  · rcases (by omega : s = 0) with rfl
    · exact gr_0_0 k
  · rcases (by omega : s = 0 ∨ s = 1) with rfl | rfl
    · exact gr_1_0 k
    · exact gr_1_1 k
  · rcases (by omega : s = 0 ∨ s = 1 ∨ s = 2) with rfl | rfl | rfl
    · exact gr_2_0 k
    · exact gr_2_1 k
    · exact gr_2_2 k
  · rcases (by omega : s = 0 ∨ s = 1 ∨ s = 2 ∨ s = 3) with rfl | rfl | rfl | rfl
    · exact gr_3_0 k
    · exact gr_3_1 k
    · exact gr_3_2 k
    · exact gr_3_3 k
  · rcases (by omega : s = 0 ∨ s = 1 ∨ s = 2 ∨ s = 3 ∨ s = 4) with rfl | rfl | rfl | rfl | rfl
    · exact gr_4_0 k
    · exact gr_4_1 k
    · exact gr_4_2 k
    · exact gr_4_3 k
    · exact gr_4_4 k
  · rcases (by omega : s = 0 ∨ s = 1 ∨ s = 2 ∨ s = 3 ∨ s = 4 ∨ s = 5) with rfl | rfl | rfl | rfl | rfl | rfl
    · exact gr_5_0 k
    · exact gr_5_1 k
    · exact gr_5_2 k
    · exact gr_5_3 k
    · exact gr_5_4 k
    · exact gr_5_5 k
  · rcases (by omega : s = 0 ∨ s = 1 ∨ s = 2 ∨ s = 3 ∨ s = 4 ∨ s = 5 ∨ s = 6) with rfl | rfl | rfl | rfl | rfl | rfl | rfl
    · exact gr_6_0 k
    · exact gr_6_1 k
    · exact gr_6_2 k
    · exact gr_6_3 k
    · exact gr_6_4 k
    · exact gr_6_5 k
    · exact gr_6_6 k
  · rcases (by omega : s = 0 ∨ s = 1 ∨ s = 2 ∨ s = 3 ∨ s = 4 ∨ s = 5 ∨ s = 6 ∨ s = 7) with rfl | rfl | rfl | rfl | rfl | rfl | rfl | rfl
    · exact gr_7_0 k
    · exact gr_7_1 k
    · exact gr_7_2 k
    · exact gr_7_3 k
    · exact gr_7_4 k
    · exact gr_7_5 k
    · exact gr_7_6 k
    · exact gr_7_7 k
  · rcases (by omega : s = 0 ∨ s = 1 ∨ s = 2 ∨ s = 3 ∨ s = 4 ∨ s = 5 ∨ s = 6 ∨ s = 7 ∨ s = 8) with rfl | rfl | rfl | rfl | rfl | rfl | rfl | rfl | rfl
    · exact gr_8_0 k
    · exact gr_8_1 k
    · exact gr_8_2 k
    · exact gr_8_3 k
    · exact gr_8_4 k
    · exact gr_8_5 k
    · exact gr_8_6 k
    · exact gr_8_7 k
    · exact gr_8_8 k
  · rcases (by omega : s = 0 ∨ s = 1 ∨ s = 2 ∨ s = 3 ∨ s = 4 ∨ s = 5 ∨ s = 6 ∨ s = 7 ∨ s = 8 ∨ s = 9) with rfl | rfl | rfl | rfl | rfl | rfl | rfl | rfl | rfl | rfl
    · exact gr_9_0 k
    · exact gr_9_1 k
    · exact gr_9_2 k
    · exact gr_9_3 k
    · exact gr_9_4 k
    · exact gr_9_5 k
    · exact gr_9_6 k
    · exact gr_9_7 k
    · exact gr_9_8 k
    · exact gr_9_9 k
  · rcases (by omega : s = 0 ∨ s = 1 ∨ s = 2 ∨ s = 3 ∨ s = 4 ∨ s = 5 ∨ s = 6 ∨ s = 7 ∨ s = 8 ∨ s = 9 ∨ s = 10) with rfl | rfl | rfl | rfl | rfl | rfl | rfl | rfl | rfl | rfl | rfl
    · exact gr_10_0 k
    · exact gr_10_1 k
    · exact gr_10_2 k
    · exact gr_10_3 k
    · exact gr_10_4 k
    · exact gr_10_5 k
    · exact gr_10_6 k
    · exact gr_10_7 k
    · exact gr_10_8 k
    · exact gr_10_9 k
    · exact gr_10_10 k
  · rcases (by omega : s = 0 ∨ s = 1 ∨ s = 2 ∨ s = 3 ∨ s = 4 ∨ s = 5 ∨ s = 6 ∨ s = 7 ∨ s = 8 ∨ s = 9 ∨ s = 10 ∨ s = 11) with rfl | rfl | rfl | rfl | rfl | rfl | rfl | rfl | rfl | rfl | rfl | rfl
    · exact gr_11_0 k
    · exact gr_11_1 k
    · exact gr_11_2 k
    · exact gr_11_3 k
    · exact gr_11_4 k
    · exact gr_11_5 k
    · exact gr_11_6 k
    · exact gr_11_7 k
    · exact gr_11_8 k
    · exact gr_11_9 k
    · exact gr_11_10 k
    · exact gr_11_11 k
theorem rings_law (x0 x1 : Int) : CallOK GraphP GraphG 3 [nmG x0, nmG x1] S0 (fun v _ => v = .one (.s (.bool true))) := by
  have ha := lowZ_rng x0 (y := 12) (by decide) (by decide)
  generalize hr : lowZ x0 12 = r at ha
  have e1 : iwrap .i64 (1 + r) = 1 + r := by rw [iwrap_eq]; exact wrap_id .i64 _ (show (-9223372036854775808:Int) ≤ _ by omega) (show _ ≤ (9223372036854775807:Int) by omega)
  have hb := lowZ_rng x1 (y := 1 + r) (by omega) (by omega)
  generalize hs : lowZ x1 (1 + r) = s at hb
  have h2 : ∀ n : Int, 0 ≤ n → ∀ y, n < y → y ≤ 1000000 → lowZ n y = n := by
    intro n hn y hy hy2
    unfold lowZ
    rw [iwrap_eq, iwrap_eq, iwrap_eq, wrap_id .u64 n (show (0:Int) ≤ n by omega) (show n ≤ 18446744073709551615 by omega), wrap_id .u64 y (show (0:Int) ≤ y by omega) (show y ≤ 18446744073709551615 by omega), Int.tmod_eq_of_lt hn hy]
    exact wrap_id .i64 _ (show (-9223372036854775808:Int) ≤ _ by omega) (show _ ≤ (9223372036854775807:Int) by omega)
  have red := rings_red (D := GraphE (0 + 2000)) (J := J3 (GraphE (0 + 2000)) (0 + 2000)) (x0 := x0) (x1 := x1) (r := r) (s := s) (S := S0) (K := fun v _ => v = .one (.s (.bool true)))
    (fun K => by rw [show 0 + 2000 = 1999 + 1 from rfl, low_eq 1999 (by decide) (by decide), hr])
    (fun K => by rw [show 0 + 2000 = 1999 + 1 from rfl, low_eq 1999 (by decide) (by decide), h2 r ha.1 12 ha.2 (by decide)])
    (fun K => by rw [show 0 + 2000 = 1999 + 1 from rfl, e1, low_eq 1999 (by omega) (by omega), hs])
    (fun K => by rw [show 0 + 2000 = 1999 + 1 from rfl, e1, low_eq 1999 (by omega) (by omega), h2 s hb.1 (1 + r) hb.2 (by omega)])
  have hc := rings_all 0 ha.1 ha.2 hb.1 (by omega : s ≤ r)
  refine E3_ok (GraphE_ok (0 + 2000)) (0 + 2000) ?_
  have e : A3_0 (GraphE (0+2000)) (J3 (GraphE (0+2000)) (0+2000)) [nmG x0, nmG x1] S0 (fun v _ => v = .one (.s (.bool true))) = F3_0 (GraphE (0+2000)) (J3 (GraphE (0+2000)) (0+2000)) x0 x1 S0 (fun v _ => v = .one (.s (.bool true))) := rfl
  have e2 : A3_0 (GraphE (0+2000)) (J3 (GraphE (0+2000)) (0+2000)) [nmG r, nmG s] S0 (fun v _ => v = .one (.s (.bool true))) = F3_0 (GraphE (0+2000)) (J3 (GraphE (0+2000)) (0+2000)) r s S0 (fun v _ => v = .one (.s (.bool true))) := rfl
  rw [e, red, ← e2, hc]
theorem rings_walk (x0 x1 : Int) (W : World) :
    Calls GraphP 3 #[.int .i64 x0, .int .i64 x1] W fun e W' => e = .returned (.bool true) ∧ Below W.heap.size W W' := by
  refine (rings_law x0 x1).runs W (vs := [.int .i64 x0, .int .i64 x1]) (.cons rfl (.cons rfl .nil)) ?_
  rintro v S' cv ρ' W' rfl hv hbel
  have e : cv = .bool true := hv
  exact ⟨by rw [e], hbel⟩
end Go.Xe
