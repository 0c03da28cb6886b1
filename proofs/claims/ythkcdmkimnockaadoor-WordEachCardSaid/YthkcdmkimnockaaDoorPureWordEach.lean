/- The plain statement of the law WordEach. -/
import Derived.Test.YthkcdmkimnockaaDoorPWordx11
import Derived.Test.YthkcdmkimnockaaDoorWordRef
open Go Go.RowKit Go.Proofs.YthkcdmkimnockaaDoorW.PrintMore Go.Proofs.YthkcdmkimnockaaDoorW.PrintWords
open Go.Proofs.YthkcdmkimnockaaDoor.WordMath
namespace Go.Proofs.YthkcdmkimnockaaDoor.PWord
theorem each_l1 (a c x y i : Int) (h0 : 0 ≤ i) (h8 : i < 8) (m d : Nat) : ∀ j : Int, j = 21 - d → 0 ≤ j →
    spokeshavelaw1_WordEach.l1 (m + 10 + d + 1) a c ws8 i x y j = spokeshavelaw1_WordEach.l0 (m + 10 + d - d) a c ws8 (wrap64 (i + 1)) := by
  induction d with
  | zero =>
    intro j hj _
    simp only [spokeshavelaw1_WordEach.l1]
    rw [if_neg (by omega)]
    rfl
  | succ d ih =>
    intro j hj hj0
    rw [show m + 10 + (d + 1) + 1 = (m + 10 + d + 1) + 1 from rfl, spokeshavelaw1_WordEach.l1, if_pos (by omega), if_pos h0, if_pos (show i < (ws8.length : Int) from h8)]
    rw [show m + 10 + d + 1 = (m + d + 2) + 9 by omega, bin_ref, show (m + d + 2) + 9 = (m + d + 3) + 8 by omega, bin_word]
    simp only [Option.bind_some, if_true, bne_self_eq_false, Bool.false_eq_true, if_false]
    have e : wrap64 (j + 1) = j + 1 := by unfold wrap64; omega
    rw [e, show (m + d + 3) + 8 = m + 10 + d + 1 by omega, ih (j + 1) (by omega) (by omega)]
    congr 1
    omega
theorem wv_idem (b : Int) (s : Bool) (n : Int) : wv b s (wv b s n) = wv b s n := by
  unfold wv
  repeat' split
  all_goals first | omega | (unfold wrap64; omega)
theorem ws8_may (i : Int) (h0 : 0 ≤ i) (h8 : i < 8) : mayb (rd_T26 ws8 i).f0 = true := by
  have : i = 0 ∨ i = 1 ∨ i = 2 ∨ i = 3 ∨ i = 4 ∨ i = 5 ∨ i = 6 ∨ i = 7 := by omega
  rcases this with rfl | rfl | rfl | rfl | rfl | rfl | rfl | rfl <;> rfl
theorem each_l0 (a c : Int) (d : Nat) : ∀ (m : Nat) (i : Int), i = 8 - d → 0 ≤ i → spokeshavelaw1_WordEach.l0 (m + 10 + 24 * d) a c ws8 i = some true := by
  induction d with
  | zero =>
    intro m i hi _
    rw [show m + 10 + 24 * 0 = (m + 9) + 1 by omega]
    simp only [spokeshavelaw1_WordEach.l0]
    rw [if_neg (by omega), show m + 9 = (m + 1) + 8 from rfl, awake_true]
    rfl
  | succ d ih =>
    intro m i hi h0
    have h8 : i < 8 := by omega
    rw [show m + 10 + 24 * (d + 1) = ((m + 24 * d) + 10 + 21 + 1 + 1) + 1 by omega]
    simp only [spokeshavelaw1_WordEach.l0]
    rw [if_pos h8, if_pos h0, if_pos (show i < (ws8.length : Int) from h8)]
    simp only [wrap_ref, wrap_word, is_word, Option.bind_some, ws8_may i h0 h8, wv_idem, Bool.true_and, beq_self_eq_true, if_true, bne_self_eq_false]
    simp only [spokeshavelaw1_WordEach.j1, Bool.false_eq_true, if_false]
    rw [each_l1 a c _ _ i h0 h8 (m + 24 * d) 21 0 (by omega) (by omega)]
    have e : wrap64 (i + 1) = i + 1 := by unfold wrap64; omega
    rw [e, show m + 24 * d + 10 + 21 - 21 = m + 10 + 24 * d by omega]
    exact ih m (i + 1) (by omega) (by omega)
theorem pureWordEach : spokeshavelaw1_WordEach.Pure := by
  intro a c _ _
  refine ⟨197 + 5, ?_⟩
  unfold spokeshavelaw1_WordEach.f
  rw [widths_eq, Option.bind_some]
  have h := each_l0 a c 8 0 0 (by omega) (by omega)
  have e : 0 + 10 + 24 * 8 = 197 + 5 := rfl
  rw [e] at h
  exact h
end Go.Proofs.YthkcdmkimnockaaDoor.PWord
namespace Go.Proofs.YthkcdmkimnockaaDoor.Pure
theorem WordEach : PWord.spokeshavelaw1_WordEach.Pure := PWord.pureWordEach
end Go.Proofs.YthkcdmkimnockaaDoor.Pure
