import Derived.Test.YticjocbgadgjpaaMovS
import Derived.Test.YticjocbgadgjpaaAwake
namespace Go.Xe
open Go.RowKit
set_option maxRecDepth 100000
theorem awake_of {D : Disp} (hD : DOK MemP MemG D) {k : Nat} {K : AV → St → Prop} {p : Prop} (hp : p) (h : A6_0 D (J6 D k) [] S0 K = p) : CallOK MemP MemG 6 [] S0 K := by
  rw [← h] at hp
  exact E6_ok hD k hp
theorem awake_call : CallOK MemP MemG 6 [] S0 (fun v _ => v = .one (.s (.bool true))) :=
  awake_of (MemD_ok (0 + 200)) (k := 0 + 200) rfl (awake_run 0)
theorem MemE_ok (k : Nat) : DOK MemP MemG (MemE k) :=
  DOK.add (fun args S K h => by
    obtain ⟨rfl, hk⟩ := endL_some h
    refine CallOK.alone rfl awake_call ?_
    rintro v S' rfl
    exact ⟨rfl, hk⟩) (MemD_ok k)
theorem moves_walk (x0 x1 b : Int) (hb : -9223372036854775808 ≤ b) (hb2 : b ≤ 9223372036854775807) (W : World) :
    Calls MemP 4 #[.int .i64 x0, .int .i64 x1, .int .i64 b] W fun e W' => e = .returned (.bool true) ∧ Below W.heap.size W W' := by
  have h := E4_ok (MemE_ok (0 + 5)) (0 + 5) (law 0 x0 x1 b hb hb2)
  refine h.runs W (vs := [.int .i64 x0, .int .i64 x1, .int .i64 b]) (.cons rfl (.cons rfl (.cons rfl .nil))) ?_
  rintro v S' cv ρ' W' rfl hv hbel
  have e : cv = .bool true := hv
  exact ⟨by rw [e], hbel⟩
end Go.Xe
