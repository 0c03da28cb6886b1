/- All bits turned; the eight widths. -/
import Derived.Test.YthkcdmkimnockaaDoorPWordx15
import Derived.Test.YthkcdmkimnockaaDoorWordDiv
open Go Go.RowKit Go.Proofs.YthkcdmkimnockaaDoorW.PrintMore Go.Proofs.YthkcdmkimnockaaDoorW.PrintWords
open Go.Proofs.YthkcdmkimnockaaDoor.WordMath
namespace Go.Proofs.YthkcdmkimnockaaDoor.PWord
theorem i64_wrap_bv (b : BitVec 64) : IntKind.i64.wrap (b.toNat : Int) = b.toInt := by
  rw [i64w]
  unfold wrap64
  rw [BitVec.toInt_eq_toNat_cond]
  have := b.isLt
  split <;> omega
theorem xor_self0 (x : Int) : Go.bits .xor .i64 x x = 0 := by
  show IntKind.i64.wrap ((BitVec.ofInt 64 x ^^^ BitVec.ofInt 64 x).toNat : Int) = 0
  rw [BitVec.xor_self, i64_wrap_bv]
  rfl
theorem not_i64 (x : Int) (hx : I64 x) : Go.bits .xor .i64 (-1) x = -1 - x := by
  show IntKind.i64.wrap ((BitVec.ofInt 64 (-1) ^^^ BitVec.ofInt 64 x).toNat : Int) = _
  have h1 : BitVec.ofInt 64 (-1) = BitVec.allOnes 64 := by decide
  rw [h1, BitVec.allOnes_xor, BitVec.toNat_not, BitVec.toNat_ofInt, i64w]
  unfold wrap64
  unfold I64 at hx
  omega
theorem invert_word (b : Int) (s : Bool) (x : Int) (hx : I64 x) : word_Invert.f b s x = some (if b = 32 ∨ b = 64 then wv b s (-1 - x) else 0) := by
  unfold word_Invert.f
  rw [may_word, wrap_word, not_i64 x hx]
  unfold mayb
  by_cases h8 : b = 8
  · subst h8; simp
  by_cases h16 : b = 16
  · subst h16; simp
  by_cases h32 : b = 32
  · subst h32; simp
  by_cases h64 : b = 64
  · subst h64; simp
  simp [h8, h16, h32, h64]
theorem ws8_at (i : Int) (h0 : 0 ≤ i) (h8 : i < 8) : ∃ b s, rd_T26 ws8 i = ⟨b, s⟩ ∧ (b = 8 ∨ b = 16 ∨ b = 32 ∨ b = 64) := by
  have : i = 0 ∨ i = 1 ∨ i = 2 ∨ i = 3 ∨ i = 4 ∨ i = 5 ∨ i = 6 ∨ i = 7 := by omega
  rcases this with rfl | rfl | rfl | rfl | rfl | rfl | rfl | rfl
  · exact ⟨8, true, rfl, by decide⟩
  · exact ⟨8, false, rfl, by decide⟩
  · exact ⟨16, true, rfl, by decide⟩
  · exact ⟨16, false, rfl, by decide⟩
  · exact ⟨32, true, rfl, by decide⟩
  · exact ⟨32, false, rfl, by decide⟩
  · exact ⟨64, true, rfl, by decide⟩
  · exact ⟨64, false, rfl, by decide⟩
theorem wv_wv (b c : Int) (s t : Bool) (n : Int) (hb : b = 8 ∨ b = 16 ∨ b = 32 ∨ b = 64) (hc : c = 8 ∨ c = 16 ∨ c = 32 ∨ c = 64) (h : b ≥ c) : wv c t (wv b s n) = wv c t n := by
  rcases hb with rfl | rfl | rfl | rfl <;> rcases hc with rfl | rfl | rfl | rfl <;> first | (exfalso; omega) | (cases s <;> cases t <;> simp [wv, wrap64] <;> omega)
end Go.Proofs.YthkcdmkimnockaaDoor.PWord
