/- The plain statement of the law WordWide. -/
import Derived.Test.YthkcdmkimnockaaDoorPWordx12
import Derived.Test.YthkcdmkimnockaaDoorWordDiv
open Go Go.RowKit Go.Proofs.YthkcdmkimnockaaDoorW.PrintMore Go.Proofs.YthkcdmkimnockaaDoorW.PrintWords
open Go.Proofs.YthkcdmkimnockaaDoor.WordMath
namespace Go.Proofs.YthkcdmkimnockaaDoor.PWord
theorem wide_bin (a c : Int) (ha : -2147483648 ≤ a ∧ a ≤ 2147483647) (hc : -2147483648 ≤ c ∧ c ≤ 2147483647) :
    Bin 32 true 1 a c = ar 32 true (a + c) ∧ Bin 32 true 2 a c = ar 32 true (a - c) ∧ Bin 32 true 3 a c = ar 32 true (a * c) ∧
    Bin 32 false 1 (a % 4294967296) (c % 4294967296) = ((a % 4294967296 + c % 4294967296) % 4294967296, true) ∧
    Bin 32 false 2 (a % 4294967296) (c % 4294967296) = ((a % 4294967296 - c % 4294967296) % 4294967296, true) ∧
    Bin 32 false 3 (a % 4294967296) (c % 4294967296) = (((a % 4294967296) * (c % 4294967296)) % 4294967296, true) := by
  have e1 : wv 32 true a = a := by rw [wv_32s]; omega
  have e2 : wv 32 true c = c := by rw [wv_32s]; omega
  have e3 : ∀ n : Int, wv 32 false (n % 4294967296) = n % 4294967296 := fun n => by rw [wv_32u]; omega
  unfold Bin
  refine ⟨?_, ?_, ?_, ?_, ?_, ?_⟩
  · rw [if_pos (.inl rfl), if_neg (by decide), if_neg (by decide), if_pos rfl, e1, e2]
  · rw [if_pos (.inl rfl), if_neg (by decide), if_neg (by decide), if_neg (by decide), if_pos rfl, e1, e2]
  · rw [if_pos (.inl rfl), if_neg (by decide), if_neg (by decide), if_neg (by decide), if_neg (by decide), if_pos rfl, e1, e2]
  · rw [if_pos (.inl rfl), if_neg (by decide), if_neg (by decide), if_pos rfl, e3, e3]; unfold ar; rw [if_neg (by decide), wv_32u]
  · rw [if_pos (.inl rfl), if_neg (by decide), if_neg (by decide), if_neg (by decide), if_pos rfl, e3, e3]; unfold ar; rw [if_neg (by decide), wv_32u]
  · rw [if_pos (.inl rfl), if_neg (by decide), if_neg (by decide), if_neg (by decide), if_neg (by decide), if_pos rfl, e3, e3]; unfold ar; rw [if_neg (by decide), wv_32u]
theorem wide_step (k : Nat) (m sub x y : Int) (r : Option Bool) (_hm : I64 m) (h1 : Bin 32 true sub x y = ar 32 true m) (u x' y' : Int) (hu : 0 ≤ u ∧ u < 4294967296) (h2 : Bin 32 false sub x' y' = (u, true)) :
    ((word_Binary.f (k + 8) 32 true sub x y).bind fun bt246 => ((word_Binary.f (k + 8) 32 false sub x' y').bind fun bt248 =>
      (if (bt246.2 != (m == (wrap64 (wrap32 m)))) = true then (none) else (if bt246.2 = true then (if bt246.1 = m then (if bt248.2 = true then (if bt248.1 = (wrap64 u) then r else (none)) else (none)) else (none)) else (if bt248.2 = true then (if bt248.1 = (wrap64 u) then r else (none)) else (none)))))) = r := by
  rw [bin_word, bin_word, h1, h2]
  have e : wrap64 u = u := by unfold wrap64; omega
  simp only [Option.bind_some, e, if_true]
  have ew : wrap64 (wrap32 m) = wv 32 true m := by
    rw [wv_32s]
    unfold wrap32 wrap64
    omega
  rw [ew]
  unfold ar
  rw [if_pos rfl]
  by_cases h : wv 32 true m = m
  · rw [if_pos h, h]
    simp
  · rw [if_neg h, beq_eq_false_iff_ne.mpr (Ne.symm h)]
    simp
theorem pureWordWide : spokeshavelaw1_WordWide.Pure := by
  intro a c ha0 hc0
  have ha := bounds_i32 ha0
  have hc := bounds_i32 hc0
  refine ⟨9 + 1 + 1 + 1 + 1, ?_⟩
  unfold spokeshavelaw1_WordWide.f
  have ea : wrap64 a = a := by unfold wrap64; omega
  have ec : wrap64 c = c := by unfold wrap64; omega
  have hp : -4611686016279904256 ≤ a * c ∧ a * c ≤ 4611686018427387904 := by
    have h1 : (a * c).natAbs ≤ 2147483648 * 2147483648 := by rw [Int.natAbs_mul]; exact Nat.mul_le_mul (by omega) (by omega)
    have h2 : ¬ (a * c ≤ -4611686018427387904 ∧ a ≠ -2147483648 ∧ c ≠ -2147483648) := fun h => by
      have h3 : (a * c).natAbs ≤ 2147483647 * 2147483647 := by rw [Int.natAbs_mul]; exact Nat.mul_le_mul (by omega) (by omega)
      omega
    refine ⟨?_, by omega⟩
    by_cases e1 : a = -2147483648
    · subst e1; omega
    by_cases e2 : c = -2147483648
    · subst e2; omega
    have h3 : (a * c).natAbs ≤ 2147483647 * 2147483647 := by rw [Int.natAbs_mul]; exact Nat.mul_le_mul (by omega) (by omega)
    omega
  obtain ⟨w1, w2, w3, w4, w5, w6⟩ := wide_bin a c ha hc
  rw [ea, ec]
  have f1 : wrap64 (a + c) = a + c := by unfold wrap64; omega
  have f2 : wrap64 (a - c) = a - c := by unfold wrap64; omega
  have f3 : wrap64 (a * c) = a * c := by unfold wrap64; omega
  rw [f1, f2, f3]
  have u4 : 0 ≤ (a % 4294967296 + c % 4294967296) % 4294967296 ∧ (a % 4294967296 + c % 4294967296) % 4294967296 < 4294967296 := by omega
  have u5 : 0 ≤ (a % 4294967296 - c % 4294967296) % 4294967296 ∧ (a % 4294967296 - c % 4294967296) % 4294967296 < 4294967296 := by omega
  have u6 : 0 ≤ (a % 4294967296 * (c % 4294967296)) % 4294967296 ∧ (a % 4294967296 * (c % 4294967296)) % 4294967296 < 4294967296 := by omega
  have m1 : I64 (a + c) := by unfold I64; omega
  have m2 : I64 (a - c) := by unfold I64; omega
  have m3 : I64 (a * c) := by unfold I64; omega
  generalize (a % 4294967296 + c % 4294967296) % 4294967296 = p4 at *
  generalize (a % 4294967296 - c % 4294967296) % 4294967296 = p5 at *
  generalize (a % 4294967296 * (c % 4294967296)) % 4294967296 = p6 at *
  have hl1 : (([a + c, a - c, a * c] : List Int).length : Int) = 3 := rfl
  have hl2 : (([p4, p5, p6] : List Int).length : Int) = 3 := rfl
  have k0 : wrap64 (1 + 0) = 1 := by unfold wrap64; omega
  have k1 : wrap64 (1 + 1) = 2 := by unfold wrap64; omega
  have k2 : wrap64 (1 + 2) = 3 := by unfold wrap64; omega
  have k3 : wrap64 (0 + 1) = 1 := by unfold wrap64; omega
  have k4 : wrap64 (2 + 1) = 3 := by unfold wrap64; omega
  rw [spokeshavelaw1_WordWide.l0, if_pos (by decide), ea, ec, k0]
  simp only [if_pos (show (0 : Int) ≤ 0 by decide), hl1, hl2, if_pos (show (0 : Int) < 3 by decide), show rd [a + c, a - c, a * c] 0 = a + c from rfl, show rd [p4, p5, p6] 0 = p4 from rfl]
  rw [show 9 + 1 + 1 + 1 = 4 + 8 from rfl, wide_step 4 (a + c) 1 a c _ m1 w1 p4 _ _ u4 w4]
  rw [k3, show 4 + 8 = 11 + 1 from rfl, spokeshavelaw1_WordWide.l0, if_pos (by decide), ea, ec, k1]
  simp only [if_pos (show (0 : Int) ≤ 1 by decide), hl1, hl2, if_pos (show (1 : Int) < 3 by decide), show rd [a + c, a - c, a * c] 1 = a - c from rfl, show rd [p4, p5, p6] 1 = p5 from rfl]
  rw [show 11 = 3 + 8 from rfl, wide_step 3 (a - c) 2 a c _ m2 w2 p5 _ _ u5 w5]
  rw [show 3 + 8 = 10 + 1 from rfl, spokeshavelaw1_WordWide.l0, if_pos (by decide), ea, ec, k2]
  simp only [if_pos (show (0 : Int) ≤ 2 by decide), hl1, hl2, if_pos (show (2 : Int) < 3 by decide), show rd [a + c, a - c, a * c] 2 = a * c from rfl, show rd [p4, p5, p6] 2 = p6 from rfl]
  rw [show 10 = 2 + 8 from rfl, wide_step 2 (a * c) 3 a c _ m3 w3 p6 _ _ u6 w6]
  rw [k4, show 2 + 8 = 9 + 1 from rfl, spokeshavelaw1_WordWide.l0, if_neg (by decide), ea, ec, show 9 = 1 + 8 from rfl, bin_word, bin_word, awake_true]
  have ia : In 32 true a := in_of 32 (.inl rfl) true a (by unfold I64; omega) (fun _ _ => ha) (fun _ h => by cases h)
  have ic : In 32 true c := in_of 32 (.inl rfl) true c (by unfold I64; omega) (fun _ _ => hc) (fun _ h => by cases h)
  have e4 : Bin 32 true 4 a c = (if c = 0 then (0, false) else ar 32 true (a.tdiv c)) := by
    unfold Bin
    rw [if_pos (.inl rfl), if_neg (by decide), if_neg (by decide), if_neg (by decide), if_neg (by decide), if_neg (by decide), if_pos (.inl rfl), ia.own, ic.own, if_pos (rfl : true = true)]
  have e5 : Bin 32 true 5 a c = (if c = 0 then (0, false) else if c = -1 ∧ a = least 32 then (0, false) else (a.tmod c, true)) := by
    unfold Bin
    rw [if_pos (.inl rfl), if_neg (by decide), if_neg (by decide), if_neg (by decide), if_neg (by decide), if_neg (by decide), if_neg (by decide), if_pos (.inl rfl), ia.own, ic.own, if_pos (rfl : true = true)]
  have hl32 : least 32 = -2147483648 := by simp [least]
  rw [hl32] at e5
  obtain ⟨ok, q, r, d4, d5, hok⟩ := div_mod 32 (.inl rfl) true a c ia ic
  rw [d4, d5]
  simp only [Option.bind_some, beq_self_eq_true, if_true]
  by_cases h0 : c = 0
  · have : ok = false := by rw [e5, if_pos h0] at d5; exact (Prod.mk.inj d5).2.symm
    subst this
    simp [h0]
  · by_cases hm : a = -2147483648 ∧ c = -1
    · have : ok = false := by rw [e5, if_neg h0, if_pos ⟨hm.2, hm.1⟩] at d5; exact (Prod.mk.inj d5).2.symm
      subst this
      rw [if_neg (by decide), if_neg h0, if_pos hm.1, beq_iff_eq.mpr hm.2]
      rfl
    · have : ok = true ∧ r = a.tmod c := by rw [e5, if_neg h0, if_neg (fun h => hm ⟨h.2, h.1⟩)] at d5; exact ⟨(Prod.mk.inj d5).2.symm, (Prod.mk.inj d5).1.symm⟩
      obtain ⟨rfl, rfl⟩ := this
      have hq : q = a.tdiv c := by
        rw [e4, if_neg h0] at d4
        unfold ar at d4
        rw [if_pos rfl] at d4
        split at d4
        · exact (Prod.mk.inj d4).1.symm
        · have := (Prod.mk.inj d4).2
          cases this
      have hback : wrap64 (wrap64 (q * c) + a.tmod c) = a := by
        have hq2 := Int.tmod_add_mul_tdiv a c
        rw [hq, Int.mul_comm]
        unfold wrap64
        omega
      rw [if_pos hback, if_neg h0]
      simp only [if_true]
      by_cases h1 : a = -2147483648
      · have : (c == -1) = false := beq_eq_false_iff_ne.mpr fun h => hm ⟨h1, h⟩
        rw [if_pos h1, this]
        first | done | rfl
      · rw [if_neg h1]
        first | done | rfl
end Go.Proofs.YthkcdmkimnockaaDoor.PWord
namespace Go.Proofs.YthkcdmkimnockaaDoor.Pure
theorem WordWide : PWord.spokeshavelaw1_WordWide.Pure := PWord.pureWordWide
end Go.Proofs.YthkcdmkimnockaaDoor.Pure
