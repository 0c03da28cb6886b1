/- A part of the proof: I4. -/
import Derived.Test.YtgjggcgdilahdaaI3
set_option linter.unusedVariables false
set_option linter.unusedSimpArgs false
set_option linter.constructorNameAsVariable false
set_option linter.unusedVariables false
set_option maxRecDepth 100000
namespace Go.Xe
open Go.RowKit
variable {i : Nat → Option AO}
theorem iwrap_u64 (x : Int) : iwrap .u64 x = x % 18446744073709551616 := by rw [iwrap_eq]; simp [IntKind.wrap, IntKind.bits, IntKind.signed]
theorem wrapU_eq (x : Int) : wrapU x = iwrap .i64 x := by
  have h : shrI .u64 (shlI .u64 (iwrap .u64 x) 0) 0 = iwrap .u64 x := by
    unfold shrI shlI
    have h1 : (2 ^ (Nat.min (0 : Int).toNat IntKind.u64.bits) : Nat) = 1 := by decide
    rw [h1, ← iwrap_eq, iwrap_u64, iwrap_u64]
    have h2 : ((1 : Nat) : Int) = 1 := rfl
    rw [h2, Int.fdiv_one, Int.mul_one]
    omega
  unfold wrapU
  rw [h, iwrap_u64, iwrap_eq, iwrap_eq]
  simp only [IntKind.wrap, IntKind.bits, IntKind.signed]
  simp <;> omega
theorem wrapU_id {x : Int} (h0 : -9223372036854775808 ≤ x) (h1 : x ≤ 9223372036854775807) : wrapU x = x := by rw [wrapU_eq]; exact iw64 h0 h1
theorem wrapU_w (x : Int) : wrapU (iwrap .i64 x) = iwrap .i64 x := by
  have := (show -9223372036854775808 ≤ iwrap .i64 x ∧ iwrap .i64 x ≤ 9223372036854775807 from by
    rw [iwrap_eq]; simp only [IntKind.wrap, IntKind.bits, IntKind.signed]; simp; omega)
  exact wrapU_id this.1 this.2
def In64 (x : Int) : Prop := -9223372036854775808 ≤ x ∧ x ≤ 9223372036854775807
end Go.Xe
