/- The plain statement of the law WordOrders. -/
import Derived.Test.YthkcdmkimnockaaDoorPWordx17
import Derived.Test.YthkcdmkimnockaaDoorWordSpec
open Go Go.RowKit Go.Proofs.YthkcdmkimnockaaDoorW.PrintMore Go.Proofs.YthkcdmkimnockaaDoorW.PrintWords
open Go.Proofs.YthkcdmkimnockaaDoor.WordMath
namespace Go.Proofs.YthkcdmkimnockaaDoor.PWord
theorem order_core (k : Nat) (b : Int) (hb : b = 32 ∨ b = 64) (s : Bool) (x y : Int) (hx : I64 x) (hy : I64 y) :
    ((word_Wrap.f b s x).bind fun t366 => ((word_Wrap.f b s y).bind fun t367 => ((word_Binary.f (k + 10) b s 16 t366 t367).bind fun bt368 => ((word_Binary.f (k + 10) b s 16 t367 t366).bind fun bt370 => ((word_Binary.f (k + 10) b s 14 t366 t367).bind fun bt372 => ((word_Binary.f (k + 10) b s 17 t366 t367).bind fun bt374 => ((word_Binary.f (k + 10) b s 15 t366 t367).bind fun bt376 => ((word_Plain.f (k + 10) 16 x y).bind fun bt378 => ((word_Plain.f (k + 10) 18 x y).bind fun bt380 => ((word_Plain.f (k + 10) 17 y x).bind fun bt382 => ((word_Plain.f (k + 10) 19 y x).bind fun bt384 => (if bt368.2 = true then (if bt370.2 = true then (if bt372.2 = true then (if bt374.2 = true then (if bt376.2 = true then (if (wrap64 ((wrap64 (bt368.1 + bt370.1)) + bt372.1)) = 1 then (if bt374.1 = (wrap64 (bt368.1 + bt372.1)) then (if bt376.1 = (wrap64 (1 - bt372.1)) then (if ((bt378.1 == 1) == (decide (x < y))) = true then (if ((bt380.1 == 1) == (decide ((IntKind.u64.wrap (x)) < (IntKind.u64.wrap (y))))) = true then (if (wrap64 (bt378.1 + bt382.1)) = 1 then (if (wrap64 (bt380.1 + bt384.1)) = 1 then ((spokeshavelaw1_awake.f (k + 10)).bind fun t386 => (some t386)) else (none)) else (none)) else (none)) else (none)) else (none)) else (none)) else (none)) else (none)) else (none)) else (none)) else (none)) else (none)))))))))))))
      = some true := by
  rw [wrap_word, wrap_word]
  simp only [Option.bind_some, plain_word]
  rw [show k + 10 = (k + 2) + 8 from rfl, awake_true]
  simp only [bin_word, Option.bind_some]
  have rx := wv_range b s x
  have ry := wv_range b s y
  have e16 : ∀ u v, Bin b s 16 u v = (tr (lessB s (wv b s u) (wv b s v)), true) := fun u v => by unfold Bin; rw [if_pos hb]; rfl
  have e14 : ∀ u v, Bin b s 14 u v = (tr (wv b s u == wv b s v), true) := fun u v => by unfold Bin; rw [if_pos hb]; rfl
  have e15 : ∀ u v, Bin b s 15 u v = (tr (wv b s u != wv b s v), true) := fun u v => by unfold Bin; rw [if_pos hb]; rfl
  have e17 : ∀ u v, Bin b s 17 u v = (tr (!lessB s (wv b s v) (wv b s u)), true) := fun u v => by unfold Bin; rw [if_pos hb]; rfl
  have idm : ∀ n, wv b s (wv b s n) = wv b s n := fun n => by
    rcases hb with rfl | rfl
    · cases s
      · rw [wv_32u, wv_32u]; omega
      · rw [wv_32s, wv_32s]; omega
    · rw [wv_64, wv_64]; unfold wrap64; omega
  simp only [e16, e14, e15, e17, idm, if_true]
  have q16 : PlB 16 x y = (tr (decide (x < y)), true) := by
    unfold PlB Bin
    simp [wv_64, lessB]
    have e1 : wrap64 x = x := by unfold wrap64; omega
    have e2 : wrap64 y = y := by unfold wrap64; omega
    rw [e1, e2]
  have q17 : PlB 17 y x = (tr (!decide (x < y)), true) := by
    unfold PlB Bin
    have e1 : wrap64 x = x := by unfold wrap64; omega
    have e2 : wrap64 y = y := by unfold wrap64; omega
    simp [wv_64, lessB, e1, e2]
  have q18 : PlB 18 x y = (tr (decide (uv x < uv y)), true) := by
    unfold PlB Bin
    have e1 : wrap64 x = x := by unfold wrap64; omega
    have e2 : wrap64 y = y := by unfold wrap64; omega
    simp [wv_64, lessB, e1, e2]
  have q19 : PlB 19 y x = (tr (!decide (uv x < uv y)), true) := by
    unfold PlB Bin
    have e1 : wrap64 x = x := by unfold wrap64; omega
    have e2 : wrap64 y = y := by unfold wrap64; omega
    simp [wv_64, lessB, e1, e2]
  rw [q16, q17, q18, q19, u64w, u64w]
  generalize wv b s x = a at *
  generalize wv b s y = c at *
  have hl : (lessB s a c = true ∧ lessB s c a = false ∧ a ≠ c) ∨ (lessB s a c = false ∧ lessB s c a = true ∧ a ≠ c) ∨ (lessB s a c = false ∧ lessB s c a = false ∧ a = c) := by
    unfold lessB uv
    cases s
    · simp only [Bool.false_eq_true, if_false, decide_eq_true_eq, decide_eq_false_iff_not]
      omega
    · simp only [if_true, decide_eq_true_eq, decide_eq_false_iff_not]
      omega
  have hu : uv x = x % 18446744073709551616 ∧ uv y = y % 18446744073709551616 := ⟨rfl, rfl⟩
  rw [← hu.1, ← hu.2]
  generalize decide (x < y) = p
  generalize decide (uv x < uv y) = q
  rcases hl with ⟨h1, h2, h3⟩ | ⟨h1, h2, h3⟩ | ⟨h1, h2, h3⟩
  · rw [h1, h2, beq_eq_false_iff_ne.mpr h3, bne_iff_ne.mpr h3]
    cases p <;> cases q <;> simp [tr, wrap64]
  · rw [h1, h2, beq_eq_false_iff_ne.mpr h3, bne_iff_ne.mpr h3]
    cases p <;> cases q <;> simp [tr, wrap64]
  · rw [h1, h2, beq_iff_eq.mpr h3, bne_eq_false_iff_eq.mpr h3]
    cases p <;> cases q <;> simp [tr, wrap64]
theorem pureWordOrders : spokeshavelaw1_WordOrders.Pure := by
  intro w x y _ hx hy
  refine ⟨0 + 10, ?_⟩
  have hb := width_of w
  unfold spokeshavelaw1_WordOrders.f
  generalize wrap64 (32 + wrap64 (32 * Go.bits .and .i64 w 1)) = b at *
  by_cases h2 : Go.bits .and .i64 w 2 = 2
  · rw [if_pos h2]
    exact order_core 0 b hb true x y (i64_wf x hx) (i64_wf y hy)
  · rw [if_neg h2]
    exact order_core 0 b hb false x y (i64_wf x hx) (i64_wf y hy)
end Go.Proofs.YthkcdmkimnockaaDoor.PWord
namespace Go.Proofs.YthkcdmkimnockaaDoor.Pure
theorem WordOrders : PWord.spokeshavelaw1_WordOrders.Pure := PWord.pureWordOrders
end Go.Proofs.YthkcdmkimnockaaDoor.Pure
