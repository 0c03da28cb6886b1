/- Syn: from a law to the calls of the program. -/
import Derived.Test.YtjifjbdlenmciaaGreatDoorXSyG
set_option linter.unusedVariables false
set_option linter.unusedSimpArgs false
set_option linter.constructorNameAsVariable false
set_option linter.unusedVariables false
namespace Go.Xe
open Go.RowKit
theorem syn_walk {f : Nat} (law : SynLaw f) (x0 x1 : Int) (W : World) (hL : laidMetH SynP Go.Proofs.YtjifjbdlenmciaaGreatDoor.Rows.synBindsRow.laid W) (hS : W.ShapedOpen SynP) :
    Calls SynP f #[.int .i64 x0, .int .i64 x1] W fun e W' => e = .returned (.bool true) ∧ Below W.heap.size W W' := by
  obtain ⟨mx, cp, q, G⟩ := gw_of hL hS
  refine (law mx cp x0 x1).runsI (q := q) W G.glob G.mem (vs := [.int .i64 x0, .int .i64 x1]) (.cons rfl (.cons rfl .nil)) ?_
  rintro v S' cv ρ' W' rfl hv hbel
  have e : cv = .bool true := hv
  exact ⟨by rw [e], hbel⟩
abbrev SynLaw3 (f : Nat) : Prop := ∀ (mx : Int) (cp : Nat → Nat) (x0 x1 x2 : Int), CallE SynP SynG f [nmS x0, nmS x1, nmS x2] (SynS mx cp) isTrue
theorem syn_walk3 {f : Nat} (law : SynLaw3 f) (x0 x1 x2 : Int) (W : World) (hL : laidMetH SynP Go.Proofs.YtjifjbdlenmciaaGreatDoor.Rows.synBindsRow.laid W) (hS : W.ShapedOpen SynP) :
    Calls SynP f #[.int .i64 x0, .int .i64 x1, .int .i64 x2] W fun e W' => e = .returned (.bool true) ∧ Below W.heap.size W W' := by
  obtain ⟨mx, cp, q, G⟩ := gw_of hL hS
  refine (law mx cp x0 x1 x2).runsI (q := q) W G.glob G.mem (vs := [.int .i64 x0, .int .i64 x1, .int .i64 x2]) (.cons rfl (.cons rfl (.cons rfl .nil))) ?_
  rintro v S' cv ρ' W' rfl hv hbel
  have e : cv = .bool true := hv
  exact ⟨by rw [e], hbel⟩
end Go.Xe
