/- A part of the proof: C8. -/
import Derived.Test.YticjocbgadgjpaaC7
set_option linter.unusedVariables false
set_option linter.unusedSimpArgs false
set_option linter.constructorNameAsVariable false
set_option linter.unusedVariables false
set_option maxRecDepth 100000
namespace Go.Xe
open Go.RowKit
theorem cells_walk (x0 : Int) {i : Nat → Option AO} {q : Nat → Option (Nat × Nat × Nat)} {l1 : LV} {xs : List Int} {v : Value} (hl : InsL i l1 xs) (hv : SR (ρI q) (.sl l1) v) (W : World) (hq : ∀ g, Nat.blt g 1000 = true → ∃ mm, q g = some (g, 0, mm))
    (hm : ∀ r ao, i r = some ao → ∃ x sh mm, q r = some (x, sh, mm) ∧ OR (ρI q) ao sh mm ((W.heap[x]?).map thaw)) :
    Calls MemP 3 #[.int .i64 x0, v] W fun e W' => e = .returned (.bool true) ∧ Below W.heap.size W W' := by
  refine (cells_law awake_any hl (x0 := x0)).runsI W hq hm (vs := [.int .i64 x0, v]) (.cons rfl (.cons hv .nil)) ?_
  rintro v S' cv ρ' W' rfl hv hbel
  have e : cv = .bool true := hv
  exact ⟨by rw [e], hbel⟩
end Go.Xe
