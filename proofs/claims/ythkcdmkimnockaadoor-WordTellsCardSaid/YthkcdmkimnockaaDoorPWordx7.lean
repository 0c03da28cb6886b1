-- PRINTED by print.py (a twelfth state) out of the translation. Not trusted: Lean checks it.
import Derived.Test.YthkcdmkimnockaaDoorPWordx0
namespace Go.Proofs.YthkcdmkimnockaaDoor.PWord
open Go.RowKit Go.Proofs.YthkcdmkimnockaaDoorW.PrintWords Go.Proofs.YthkcdmkimnockaaDoorW.PrintLast Go.Proofs.YthkcdmkimnockaaDoorW.PrintMore
attribute [local go_sem] max2_int min2_int max_two min_two max_three min_three max_four min_four   -- for this text's walks alone
set_option linter.unusedVariables false
set_option linter.unusedSimpArgs false

/-! ### spokeshaveref1_over: function 38 -/
def spokeshaveref1_over.f (a0 : Int) (a1 : Int) (a2 : Int) : Option (Bool) := if a0 = 1 then (if a1 > 0 then (if a2 > 0 then (if (wrap64 (a1 + a2)) < 0 then (some true) else (if a1 < 0 then (if a2 < 0 then (some (decide ((wrap64 (a1 + a2)) ≥ 0))) else (some false)) else (some false))) else (if a1 < 0 then (if a2 < 0 then (some (decide ((wrap64 (a1 + a2)) ≥ 0))) else (some false)) else (some false))) else (if a1 < 0 then (if a2 < 0 then (some (decide ((wrap64 (a1 + a2)) ≥ 0))) else (some false)) else (some false))) else (if a0 = 2 then (if a1 ≥ 0 then (if a2 < 0 then (if (wrap64 (a1 - a2)) < 0 then (some true) else (if a1 < 0 then (if a2 > 0 then (some (decide ((wrap64 (a1 - a2)) ≥ 0))) else (some false)) else (some false))) else (if a1 < 0 then (if a2 > 0 then (some (decide ((wrap64 (a1 - a2)) ≥ 0))) else (some false)) else (some false))) else (if a1 < 0 then (if a2 > 0 then (some (decide ((wrap64 (a1 - a2)) ≥ 0))) else (some false)) else (some false))) else (if a0 = 3 then (if a1 = 0 then (some false) else (if a2 = 0 then (some false) else (if (wrap64 (Int.tdiv (wrap64 (a1 * a2)) a2)) = a1 then (if a1 = (-1) then (if a2 = (-9223372036854775808) then (some true) else (if a2 = (-1) then (some (a1 == (-9223372036854775808))) else (some false))) else (if a2 = (-1) then (some (a1 == (-9223372036854775808))) else (some false))) else (some true)))) else (some false)))
set_option maxHeartbeats 8000000 in
set_option maxRecDepth 100000 in
theorem spokeshaveref1_over.calls (a0 : Int) (a1 : Int) (a2 : Int) (r : Bool) (w : World) (h : spokeshaveref1_over.f a0 a1 a2 = some r) :
  Calls Tryd.prog 38 #[.int .i64 a0, .int .i64 a1, .int .i64 a2] w fun e w' => e = .returned (.bool r) ∧ Drawn0 w w' := by
 have H : (if a0 = 1 then (if a1 > 0 then (if a2 > 0 then (if (wrap64 (a1 + a2)) < 0 then (some true) else (if a1 < 0 then (if a2 < 0 then (some (decide ((wrap64 (a1 + a2)) ≥ 0))) else (some false)) else (some false))) else (if a1 < 0 then (if a2 < 0 then (some (decide ((wrap64 (a1 + a2)) ≥ 0))) else (some false)) else (some false))) else (if a1 < 0 then (if a2 < 0 then (some (decide ((wrap64 (a1 + a2)) ≥ 0))) else (some false)) else (some false))) else (if a0 = 2 then (if a1 ≥ 0 then (if a2 < 0 then (if (wrap64 (a1 - a2)) < 0 then (some true) else (if a1 < 0 then (if a2 > 0 then (some (decide ((wrap64 (a1 - a2)) ≥ 0))) else (some false)) else (some false))) else (if a1 < 0 then (if a2 > 0 then (some (decide ((wrap64 (a1 - a2)) ≥ 0))) else (some false)) else (some false))) else (if a1 < 0 then (if a2 > 0 then (some (decide ((wrap64 (a1 - a2)) ≥ 0))) else (some false)) else (some false))) else (if a0 = 3 then (if a1 = 0 then (some false) else (if a2 = 0 then (some false) else (if (wrap64 (Int.tdiv (wrap64 (a1 * a2)) a2)) = a1 then (if a1 = (-1) then (if a2 = (-9223372036854775808) then (some true) else (if a2 = (-1) then (some (a1 == (-9223372036854775808))) else (some false))) else (if a2 = (-1) then (some (a1 == (-9223372036854775808))) else (some false))) else (some true)))) else (some false)))) = some r := h
 clear h
 by_cases c4 : a0 = 1
 ·
  rw [if_pos c4] at H
  have c4b0 : (a0 == 1) = true := beq_iff_eq.mpr c4
  have c4b1 : (a0 != 1) = false := bne_eq_false_iff_eq.mpr c4
  clear c4
  by_cases c5 : a1 > 0
  ·
   rw [if_pos c5] at H
   have c5b0 : decide (0 < a1) = true := decide_eq_true c5
   clear c5
   by_cases c6 : a2 > 0
   ·
    rw [if_pos c6] at H
    have c6b0 : decide (0 < a2) = true := decide_eq_true c6
    clear c6
    by_cases c7 : (wrap64 (a1 + a2)) < 0
    ·
     rw [if_pos c7] at H
     have c7b0 : decide ((wrap64 (a1 + a2)) < 0) = true := decide_eq_true c7
     clear c7
     obtain rfl := Option.some.inj H
     go_enter Tryd.func38, Tryd.ntmps38
     go_wp2
     go_ret
     exact ⟨by first | rfl | (simp; done) | (simp [*]; done), by repeat (first | exact Drawn0.refl _ | apply Drawn0.step)⟩
    ·
     rw [if_neg c7] at H
     have c7b0 : decide ((wrap64 (a1 + a2)) < 0) = false := decide_eq_false c7
     clear c7
     by_cases c8 : a1 < 0
     ·
      rw [if_pos c8] at H
      have c8b0 : decide (a1 < 0) = true := decide_eq_true c8
      clear c8
      by_cases c9 : a2 < 0
      ·
       rw [if_pos c9] at H
       have c9b0 : decide (a2 < 0) = true := decide_eq_true c9
       clear c9
       obtain rfl := Option.some.inj H
       go_enter Tryd.func38, Tryd.ntmps38
       go_wp2
       go_ret
       exact ⟨by first | rfl | (simp; done) | (simp [*]; done), by repeat (first | exact Drawn0.refl _ | apply Drawn0.step)⟩
      ·
       rw [if_neg c9] at H
       have c9b0 : decide (a2 < 0) = false := decide_eq_false c9
       clear c9
       obtain rfl := Option.some.inj H
       go_enter Tryd.func38, Tryd.ntmps38
       go_wp2
       go_ret
       exact ⟨by first | rfl | (simp; done) | (simp [*]; done), by repeat (first | exact Drawn0.refl _ | apply Drawn0.step)⟩
     ·
      rw [if_neg c8] at H
      have c8b0 : decide (a1 < 0) = false := decide_eq_false c8
      clear c8
      obtain rfl := Option.some.inj H
      go_enter Tryd.func38, Tryd.ntmps38
      go_wp2
      go_ret
      exact ⟨by first | rfl | (simp; done) | (simp [*]; done), by repeat (first | exact Drawn0.refl _ | apply Drawn0.step)⟩
   ·
    rw [if_neg c6] at H
    have c6b0 : decide (0 < a2) = false := decide_eq_false c6
    clear c6
    by_cases c10 : a1 < 0
    ·
     rw [if_pos c10] at H
     have c10b0 : decide (a1 < 0) = true := decide_eq_true c10
     clear c10
     by_cases c11 : a2 < 0
     ·
      rw [if_pos c11] at H
      have c11b0 : decide (a2 < 0) = true := decide_eq_true c11
      clear c11
      obtain rfl := Option.some.inj H
      go_enter Tryd.func38, Tryd.ntmps38
      go_wp2
      go_ret
      exact ⟨by first | rfl | (simp; done) | (simp [*]; done), by repeat (first | exact Drawn0.refl _ | apply Drawn0.step)⟩
     ·
      rw [if_neg c11] at H
      have c11b0 : decide (a2 < 0) = false := decide_eq_false c11
      clear c11
      obtain rfl := Option.some.inj H
      go_enter Tryd.func38, Tryd.ntmps38
      go_wp2
      go_ret
      exact ⟨by first | rfl | (simp; done) | (simp [*]; done), by repeat (first | exact Drawn0.refl _ | apply Drawn0.step)⟩
    ·
     rw [if_neg c10] at H
     have c10b0 : decide (a1 < 0) = false := decide_eq_false c10
     clear c10
     obtain rfl := Option.some.inj H
     go_enter Tryd.func38, Tryd.ntmps38
     go_wp2
     go_ret
     exact ⟨by first | rfl | (simp; done) | (simp [*]; done), by repeat (first | exact Drawn0.refl _ | apply Drawn0.step)⟩
  ·
   rw [if_neg c5] at H
   have c5b0 : decide (0 < a1) = false := decide_eq_false c5
   clear c5
   by_cases c12 : a1 < 0
   ·
    rw [if_pos c12] at H
    have c12b0 : decide (a1 < 0) = true := decide_eq_true c12
    clear c12
    by_cases c13 : a2 < 0
    ·
     rw [if_pos c13] at H
     have c13b0 : decide (a2 < 0) = true := decide_eq_true c13
     clear c13
     obtain rfl := Option.some.inj H
     go_enter Tryd.func38, Tryd.ntmps38
     go_wp2
     go_ret
     exact ⟨by first | rfl | (simp; done) | (simp [*]; done), by repeat (first | exact Drawn0.refl _ | apply Drawn0.step)⟩
    ·
     rw [if_neg c13] at H
     have c13b0 : decide (a2 < 0) = false := decide_eq_false c13
     clear c13
     obtain rfl := Option.some.inj H
     go_enter Tryd.func38, Tryd.ntmps38
     go_wp2
     go_ret
     exact ⟨by first | rfl | (simp; done) | (simp [*]; done), by repeat (first | exact Drawn0.refl _ | apply Drawn0.step)⟩
   ·
    rw [if_neg c12] at H
    have c12b0 : decide (a1 < 0) = false := decide_eq_false c12
    clear c12
    obtain rfl := Option.some.inj H
    go_enter Tryd.func38, Tryd.ntmps38
    go_wp2
    go_ret
    exact ⟨by first | rfl | (simp; done) | (simp [*]; done), by repeat (first | exact Drawn0.refl _ | apply Drawn0.step)⟩
 ·
  rw [if_neg c4] at H
  have c4b0 : (a0 == 1) = false := beq_eq_false_iff_ne.mpr c4
  have c4b1 : (a0 != 1) = true := bne_iff_ne.mpr c4
  by_cases c14 : a0 = 2
  ·
   rw [if_pos c14] at H
   have c14b0 : (a0 == 2) = true := beq_iff_eq.mpr c14
   have c14b1 : (a0 != 2) = false := bne_eq_false_iff_eq.mpr c14
   clear c14
   by_cases c15 : a1 ≥ 0
   ·
    rw [if_pos c15] at H
    have c15b0 : decide (0 ≤ a1) = true := decide_eq_true c15
    clear c15
    by_cases c16 : a2 < 0
    ·
     rw [if_pos c16] at H
     have c16b0 : decide (a2 < 0) = true := decide_eq_true c16
     clear c16
     by_cases c17 : (wrap64 (a1 - a2)) < 0
     ·
      rw [if_pos c17] at H
      have c17b0 : decide ((wrap64 (a1 - a2)) < 0) = true := decide_eq_true c17
      clear c17
      obtain rfl := Option.some.inj H
      go_enter Tryd.func38, Tryd.ntmps38
      go_wp2
      go_ret
      exact ⟨by first | rfl | (simp; done) | (simp [*]; done), by repeat (first | exact Drawn0.refl _ | apply Drawn0.step)⟩
     ·
      rw [if_neg c17] at H
      have c17b0 : decide ((wrap64 (a1 - a2)) < 0) = false := decide_eq_false c17
      clear c17
      by_cases c18 : a1 < 0
      ·
       rw [if_pos c18] at H
       have c18b0 : decide (a1 < 0) = true := decide_eq_true c18
       clear c18
       by_cases c19 : a2 > 0
       ·
        rw [if_pos c19] at H
        have c19b0 : decide (0 < a2) = true := decide_eq_true c19
        clear c19
        obtain rfl := Option.some.inj H
        go_enter Tryd.func38, Tryd.ntmps38
        go_wp2
        go_ret
        exact ⟨by first | rfl | (simp; done) | (simp [*]; done), by repeat (first | exact Drawn0.refl _ | apply Drawn0.step)⟩
       ·
        rw [if_neg c19] at H
        have c19b0 : decide (0 < a2) = false := decide_eq_false c19
        clear c19
        obtain rfl := Option.some.inj H
        go_enter Tryd.func38, Tryd.ntmps38
        go_wp2
        go_ret
        exact ⟨by first | rfl | (simp; done) | (simp [*]; done), by repeat (first | exact Drawn0.refl _ | apply Drawn0.step)⟩
      ·
       rw [if_neg c18] at H
       have c18b0 : decide (a1 < 0) = false := decide_eq_false c18
       clear c18
       obtain rfl := Option.some.inj H
       go_enter Tryd.func38, Tryd.ntmps38
       go_wp2
       go_ret
       exact ⟨by first | rfl | (simp; done) | (simp [*]; done), by repeat (first | exact Drawn0.refl _ | apply Drawn0.step)⟩
    ·
     rw [if_neg c16] at H
     have c16b0 : decide (a2 < 0) = false := decide_eq_false c16
     clear c16
     by_cases c20 : a1 < 0
     ·
      rw [if_pos c20] at H
      have c20b0 : decide (a1 < 0) = true := decide_eq_true c20
      clear c20
      by_cases c21 : a2 > 0
      ·
       rw [if_pos c21] at H
       have c21b0 : decide (0 < a2) = true := decide_eq_true c21
       clear c21
       obtain rfl := Option.some.inj H
       go_enter Tryd.func38, Tryd.ntmps38
       go_wp2
       go_ret
       exact ⟨by first | rfl | (simp; done) | (simp [*]; done), by repeat (first | exact Drawn0.refl _ | apply Drawn0.step)⟩
      ·
       rw [if_neg c21] at H
       have c21b0 : decide (0 < a2) = false := decide_eq_false c21
       clear c21
       obtain rfl := Option.some.inj H
       go_enter Tryd.func38, Tryd.ntmps38
       go_wp2
       go_ret
       exact ⟨by first | rfl | (simp; done) | (simp [*]; done), by repeat (first | exact Drawn0.refl _ | apply Drawn0.step)⟩
     ·
      rw [if_neg c20] at H
      have c20b0 : decide (a1 < 0) = false := decide_eq_false c20
      clear c20
      obtain rfl := Option.some.inj H
      go_enter Tryd.func38, Tryd.ntmps38
      go_wp2
      go_ret
      exact ⟨by first | rfl | (simp; done) | (simp [*]; done), by repeat (first | exact Drawn0.refl _ | apply Drawn0.step)⟩
   ·
    rw [if_neg c15] at H
    have c15b0 : decide (0 ≤ a1) = false := decide_eq_false c15
    clear c15
    by_cases c22 : a1 < 0
    ·
     rw [if_pos c22] at H
     have c22b0 : decide (a1 < 0) = true := decide_eq_true c22
     clear c22
     by_cases c23 : a2 > 0
     ·
      rw [if_pos c23] at H
      have c23b0 : decide (0 < a2) = true := decide_eq_true c23
      clear c23
      obtain rfl := Option.some.inj H
      go_enter Tryd.func38, Tryd.ntmps38
      go_wp2
      go_ret
      exact ⟨by first | rfl | (simp; done) | (simp [*]; done), by repeat (first | exact Drawn0.refl _ | apply Drawn0.step)⟩
     ·
      rw [if_neg c23] at H
      have c23b0 : decide (0 < a2) = false := decide_eq_false c23
      clear c23
      obtain rfl := Option.some.inj H
      go_enter Tryd.func38, Tryd.ntmps38
      go_wp2
      go_ret
      exact ⟨by first | rfl | (simp; done) | (simp [*]; done), by repeat (first | exact Drawn0.refl _ | apply Drawn0.step)⟩
    ·
     rw [if_neg c22] at H
     have c22b0 : decide (a1 < 0) = false := decide_eq_false c22
     clear c22
     obtain rfl := Option.some.inj H
     go_enter Tryd.func38, Tryd.ntmps38
     go_wp2
     go_ret
     exact ⟨by first | rfl | (simp; done) | (simp [*]; done), by repeat (first | exact Drawn0.refl _ | apply Drawn0.step)⟩
  ·
   rw [if_neg c14] at H
   have c14b0 : (a0 == 2) = false := beq_eq_false_iff_ne.mpr c14
   have c14b1 : (a0 != 2) = true := bne_iff_ne.mpr c14
   by_cases c24 : a0 = 3
   ·
    rw [if_pos c24] at H
    have c24b0 : (a0 == 3) = true := beq_iff_eq.mpr c24
    have c24b1 : (a0 != 3) = false := bne_eq_false_iff_eq.mpr c24
    clear c24
    by_cases c25 : a1 = 0
    ·
     rw [if_pos c25] at H
     have c25b0 : (a1 == 0) = true := beq_iff_eq.mpr c25
     have c25b1 : (a1 != 0) = false := bne_eq_false_iff_eq.mpr c25
     clear c25
     obtain rfl := Option.some.inj H
     go_enter Tryd.func38, Tryd.ntmps38
     go_wp2
     go_ret
     exact ⟨by first | rfl | (simp; done) | (simp [*]; done), by repeat (first | exact Drawn0.refl _ | apply Drawn0.step)⟩
    ·
     rw [if_neg c25] at H
     have c25b0 : (a1 == 0) = false := beq_eq_false_iff_ne.mpr c25
     have c25b1 : (a1 != 0) = true := bne_iff_ne.mpr c25
     by_cases c26 : a2 = 0
     ·
      rw [if_pos c26] at H
      have c26b0 : (a2 == 0) = true := beq_iff_eq.mpr c26
      have c26b1 : (a2 != 0) = false := bne_eq_false_iff_eq.mpr c26
      clear c26
      obtain rfl := Option.some.inj H
      go_enter Tryd.func38, Tryd.ntmps38
      go_wp2
      go_ret
      exact ⟨by first | rfl | (simp; done) | (simp [*]; done), by repeat (first | exact Drawn0.refl _ | apply Drawn0.step)⟩
     ·
      rw [if_neg c26] at H
      have c26b0 : (a2 == 0) = false := beq_eq_false_iff_ne.mpr c26
      have c26b1 : (a2 != 0) = true := bne_iff_ne.mpr c26
      by_cases c27 : (wrap64 (Int.tdiv (wrap64 (a1 * a2)) a2)) = a1
      ·
       rw [if_pos c27] at H
       have c27b0 : ((wrap64 (Int.tdiv (wrap64 (a1 * a2)) a2)) == a1) = true := beq_iff_eq.mpr c27
       have c27b1 : ((wrap64 (Int.tdiv (wrap64 (a1 * a2)) a2)) != a1) = false := bne_eq_false_iff_eq.mpr c27
       clear c27
       by_cases c28 : a1 = (-1)
       ·
        rw [if_pos c28] at H
        have c28b0 : (a1 == (-1)) = true := beq_iff_eq.mpr c28
        have c28b1 : (a1 != (-1)) = false := bne_eq_false_iff_eq.mpr c28
        clear c28
        by_cases c29 : a2 = (-9223372036854775808)
        ·
         rw [if_pos c29] at H
         have c29b0 : (a2 == (-9223372036854775808)) = true := beq_iff_eq.mpr c29
         have c29b1 : (a2 != (-9223372036854775808)) = false := bne_eq_false_iff_eq.mpr c29
         clear c29
         obtain rfl := Option.some.inj H
         go_enter Tryd.func38, Tryd.ntmps38
         go_wp2
         go_ret
         exact ⟨by first | rfl | (simp; done) | (simp [*]; done), by repeat (first | exact Drawn0.refl _ | apply Drawn0.step)⟩
        ·
         rw [if_neg c29] at H
         have c29b0 : (a2 == (-9223372036854775808)) = false := beq_eq_false_iff_ne.mpr c29
         have c29b1 : (a2 != (-9223372036854775808)) = true := bne_iff_ne.mpr c29
         by_cases c30 : a2 = (-1)
         ·
          rw [if_pos c30] at H
          have c30b0 : (a2 == (-1)) = true := beq_iff_eq.mpr c30
          have c30b1 : (a2 != (-1)) = false := bne_eq_false_iff_eq.mpr c30
          clear c30
          obtain rfl := Option.some.inj H
          go_enter Tryd.func38, Tryd.ntmps38
          go_wp2
          go_ret
          exact ⟨by first | rfl | (simp; done) | (simp [*]; done), by repeat (first | exact Drawn0.refl _ | apply Drawn0.step)⟩
         ·
          rw [if_neg c30] at H
          have c30b0 : (a2 == (-1)) = false := beq_eq_false_iff_ne.mpr c30
          have c30b1 : (a2 != (-1)) = true := bne_iff_ne.mpr c30
          obtain rfl := Option.some.inj H
          go_enter Tryd.func38, Tryd.ntmps38
          go_wp2
          go_ret
          exact ⟨by first | rfl | (simp; done) | (simp [*]; done), by repeat (first | exact Drawn0.refl _ | apply Drawn0.step)⟩
       ·
        rw [if_neg c28] at H
        have c28b0 : (a1 == (-1)) = false := beq_eq_false_iff_ne.mpr c28
        have c28b1 : (a1 != (-1)) = true := bne_iff_ne.mpr c28
        by_cases c31 : a2 = (-1)
        ·
         rw [if_pos c31] at H
         have c31b0 : (a2 == (-1)) = true := beq_iff_eq.mpr c31
         have c31b1 : (a2 != (-1)) = false := bne_eq_false_iff_eq.mpr c31
         clear c31
         obtain rfl := Option.some.inj H
         go_enter Tryd.func38, Tryd.ntmps38
         go_wp2
         go_ret
         exact ⟨by first | rfl | (simp; done) | (simp [*]; done), by repeat (first | exact Drawn0.refl _ | apply Drawn0.step)⟩
        ·
         rw [if_neg c31] at H
         have c31b0 : (a2 == (-1)) = false := beq_eq_false_iff_ne.mpr c31
         have c31b1 : (a2 != (-1)) = true := bne_iff_ne.mpr c31
         obtain rfl := Option.some.inj H
         go_enter Tryd.func38, Tryd.ntmps38
         go_wp2
         go_ret
         exact ⟨by first | rfl | (simp; done) | (simp [*]; done), by repeat (first | exact Drawn0.refl _ | apply Drawn0.step)⟩
      ·
       rw [if_neg c27] at H
       have c27b0 : ((wrap64 (Int.tdiv (wrap64 (a1 * a2)) a2)) == a1) = false := beq_eq_false_iff_ne.mpr c27
       have c27b1 : ((wrap64 (Int.tdiv (wrap64 (a1 * a2)) a2)) != a1) = true := bne_iff_ne.mpr c27
       obtain rfl := Option.some.inj H
       go_enter Tryd.func38, Tryd.ntmps38
       go_wp2
       go_ret
       exact ⟨by first | rfl | (simp; done) | (simp [*]; done), by repeat (first | exact Drawn0.refl _ | apply Drawn0.step)⟩
   ·
    rw [if_neg c24] at H
    have c24b0 : (a0 == 3) = false := beq_eq_false_iff_ne.mpr c24
    have c24b1 : (a0 != 3) = true := bne_iff_ne.mpr c24
    obtain rfl := Option.some.inj H
    go_enter Tryd.func38, Tryd.ntmps38
    go_wp2
    go_ret
    exact ⟨by first | rfl | (simp; done) | (simp [*]; done), by repeat (first | exact Drawn0.refl _ | apply Drawn0.step)⟩

end Go.Proofs.YthkcdmkimnockaaDoor.PWord
