-- PRINTED by print.py (a twelfth state) out of the translation. Not trusted: Lean checks it.
import Derived.Test.YthkcdmkimnockaaDoorPWordx0
import Derived.Test.YthkcdmkimnockaaDoorPWordx2
namespace Go.Proofs.YthkcdmkimnockaaDoor.PWord
open Go.RowKit Go.Proofs.YthkcdmkimnockaaDoorW.PrintWords Go.Proofs.YthkcdmkimnockaaDoorW.PrintLast Go.Proofs.YthkcdmkimnockaaDoorW.PrintMore
attribute [local go_sem] max2_int min2_int max_two min_two max_three min_three max_four min_four   -- for this text's walks alone
set_option linter.unusedVariables false
set_option linter.unusedSimpArgs false

/-! ### spokeshaveref1_truth: function 39 -/
def spokeshaveref1_truth.f (a0 : Bool) : Option (Int) := if a0 = true then (some 1) else (some 0)
set_option maxHeartbeats 8000000 in
set_option maxRecDepth 100000 in
theorem spokeshaveref1_truth.calls (a0 : Bool) (r : Int) (w : World) (h : spokeshaveref1_truth.f a0 = some r) :
  Calls Tryd.prog 39 #[.bool a0] w fun e w' => e = .returned (.int .i64 r) ∧ Drawn0 w w' := by
 have H : (if a0 = true then (some 1) else (some 0)) = some r := h
 clear h
 by_cases c2 : a0 = true
 ·
  subst c2
  have H1 : (some 1) = some r := by rw [if_pos rfl] at H; exact H
  clear H
  have H := H1
  clear H1
  obtain rfl := Option.some.inj H
  go_enter Tryd.func39, Tryd.ntmps39
  go_wp2
  go_ret
  exact ⟨by first | rfl | (simp; done) | (simp [*]; done), by repeat (first | exact Drawn0.refl _ | apply Drawn0.step)⟩
 ·
  replace c2 := Bool.eq_false_iff.mpr c2
  subst c2
  have H1 : (some 0) = some r := by rw [if_neg (show ¬ (false = true) by decide)] at H; exact H
  clear H
  have H := H1
  clear H1
  obtain rfl := Option.some.inj H
  go_enter Tryd.func39, Tryd.ntmps39
  go_wp2
  go_ret
  exact ⟨by first | rfl | (simp; done) | (simp [*]; done), by repeat (first | exact Drawn0.refl _ | apply Drawn0.step)⟩

/-! ### spokeshaveref1_Plain: function 22 -/
def spokeshaveref1_Plain.j0 : Nat → Int → Int → Int → Int → Int → Int → Bool → Option (Int × Bool)
 | 0, _, _, _, _, _, _, _ => none
 | k + 1, x0, x1, x2, x8, x9, x10, x11 => if x0 = 1 then (some (wrap64 (x1 + x2), true)) else (if x0 = 2 then (some (wrap64 (x1 - x2), true)) else (if x0 = 3 then (some (wrap64 (x1 * x2), true)) else (if x0 = 4 then (if x2 = 0 then (some (0, false)) else (if x11 = true then (some (0, false)) else (some (wrap64 (Int.tdiv x1 x2), true)))) else (if x0 = 5 then (if x2 = 0 then (some (0, false)) else (if x11 = true then (some (0, false)) else (some (Int.tmod x1 x2, true)))) else (if x0 = 6 then (if x2 = 0 then (some (0, false)) else (if x9 = 0 then (none) else (some (wrap64 (IntKind.u64.wrap (Int.tdiv x8 x9)), true)))) else (if x0 = 7 then (if x2 = 0 then (some (0, false)) else (if x9 = 0 then (none) else (some (wrap64 (Int.tmod x8 x9), true)))) else (if x0 = 8 then (some (Go.bits .and .i64 x1 x2, true)) else (if x0 = 9 then (some (Go.bits .or .i64 x1 x2, true)) else (if x0 = 10 then (some (Go.bits .xor .i64 x1 x2, true)) else (if x0 = 11 then (if 0 ≤ x10 then (some (shl .i64 x1 x10, true)) else (none)) else (if x0 = 12 then (if 0 ≤ x10 then (some (wrap64 (shr .u64 x8 x10), true)) else (none)) else (if x0 = 13 then (if 0 ≤ x10 then (some (shr .i64 x1 x10, true)) else (none)) else (if x0 = 14 then ((spokeshaveref1_truth.f (x1 == x2)).bind fun t162 => (some (t162, true))) else (if x0 = 15 then ((spokeshaveref1_truth.f (x1 != x2)).bind fun t163 => (some (t163, true))) else (if x0 = 16 then ((spokeshaveref1_truth.f (decide (x1 < x2))).bind fun t164 => (some (t164, true))) else (if x0 = 17 then ((spokeshaveref1_truth.f (decide (x1 ≤ x2))).bind fun t165 => (some (t165, true))) else (if x0 = 18 then ((spokeshaveref1_truth.f (decide (x8 < x9))).bind fun t166 => (some (t166, true))) else (if x0 = 19 then ((spokeshaveref1_truth.f (decide (x8 ≤ x9))).bind fun t167 => (some (t167, true))) else (some (0, false))))))))))))))))))))
def spokeshaveref1_Plain.f (k : Nat) (a0 : Int) (a1 : Int) (a2 : Int) : Option (Int × Bool) := if a1 = (-9223372036854775808) then (spokeshaveref1_Plain.j0 k a0 a1 a2 (IntKind.u64.wrap (a1)) (IntKind.u64.wrap (a2)) (Int.tmod (IntKind.u64.wrap (a2)) 64) (a2 == (-1))) else (spokeshaveref1_Plain.j0 k a0 a1 a2 (IntKind.u64.wrap (a1)) (IntKind.u64.wrap (a2)) (Int.tmod (IntKind.u64.wrap (a2)) 64) false)
theorem spokeshaveref1_Plain.mono_l : ∀ k, (∀ y0 y1 y2 y3 y4 y5 y6, LeO (spokeshaveref1_Plain.j0 k y0 y1 y2 y3 y4 y5 y6) (spokeshaveref1_Plain.j0 (k + 1) y0 y1 y2 y3 y4 y5 y6))
 | 0 => fun _ _ _ _ _ _ _ r h => by simp [spokeshaveref1_Plain.j0] at h
 | k + 1 => by
  have ih0 := spokeshaveref1_Plain.mono_l k
  ·
   intro y0 y1 y2 y3 y4 y5 y6
   unfold spokeshaveref1_Plain.j0
   repeat' first
   | (with_reducible exact ih0 _ _ _ _ _ _ _)
   | (with_reducible exact LeO.refl _)
   | (with_reducible exact LeO.none _)
   | (with_reducible refine LeO.ite ?_ ?_)
   | (with_reducible refine LeO.bind ?_ (fun _ => ?_))
   | exact ih0 _ _ _ _ _ _ _
   | exact LeO.none _
   | refine LeO.ite ?_ ?_
   | refine LeO.bind ?_ (fun _ => ?_)
theorem spokeshaveref1_Plain.mono : ∀ a0 a1 a2 k, LeO (spokeshaveref1_Plain.f k a0 a1 a2) (spokeshaveref1_Plain.f (k + 1) a0 a1 a2) := by
 intro a0 a1 a2 k
 have ih0 := spokeshaveref1_Plain.mono_l k
 unfold spokeshaveref1_Plain.f
 repeat' first
   | (with_reducible exact ih0 _ _ _ _ _ _ _)
   | (with_reducible exact LeO.refl _)
   | (with_reducible exact LeO.none _)
   | (with_reducible refine LeO.ite ?_ ?_)
   | (with_reducible refine LeO.bind ?_ (fun _ => ?_))
   | exact ih0 _ _ _ _ _ _ _
   | exact LeO.none _
   | refine LeO.ite ?_ ?_
   | refine LeO.bind ?_ (fun _ => ?_)
set_option maxHeartbeats 8000000 in
set_option maxRecDepth 100000 in
theorem spokeshaveref1_Plain.calls (k : Nat) (a0 : Int) (a1 : Int) (a2 : Int) (r1 : Int) (r2 : Bool) (w : World) (h : spokeshaveref1_Plain.f k a0 a1 a2 = some (r1, r2)) :
  Calls Tryd.prog 22 #[.int .i64 a0, .int .i64 a1, .int .i64 a2] w fun e w' => e = .returned (.tuple #[.int .i64 r1, .bool r2]) ∧ Drawn0 w w' := by
 have H : (if a1 = (-9223372036854775808) then (spokeshaveref1_Plain.j0 k a0 a1 a2 (IntKind.u64.wrap (a1)) (IntKind.u64.wrap (a2)) (Int.tmod (IntKind.u64.wrap (a2)) 64) (a2 == (-1))) else (spokeshaveref1_Plain.j0 k a0 a1 a2 (IntKind.u64.wrap (a1)) (IntKind.u64.wrap (a2)) (Int.tmod (IntKind.u64.wrap (a2)) 64) false)) = some (r1, r2) := h
 clear h
 have HC4 := Aside0.mk H
 clear H
 go_enter Tryd.func22, Tryd.ntmps22
 go_upto_region 3 with (fail)
 go_cut [11] (fun v11 wc => ∃ (kq : Nat) (x11_3 : Bool), v11 = .bool x11_3 ∧ Aside0 (spokeshaveref1_Plain.j0 kq a0 a1 a2 (IntKind.u64.wrap (a1)) (IntKind.u64.wrap (a2)) (Int.tmod (IntKind.u64.wrap (a2)) 64) x11_3 = some (r1, r2)) ∧ Aside0 (kq ≤ k) ∧ Drawn0 w wc)
 case first =>
  have H := HC4.out
  clear HC4
  by_cases c5 : a1 = (-9223372036854775808)
  ·
   rw [if_pos c5] at H
   have c5b0 : (a1 == (-9223372036854775808)) = true := beq_iff_eq.mpr c5
   have c5b1 : (a1 != (-9223372036854775808)) = false := bne_eq_false_iff_eq.mpr c5
   clear c5
   (first | rw [c5b0] | (simp only [i64_w, i32_w]; rw [c5b0]) | skip)
   have H' := Aside0.mk H
   clear H
   go_wp2
   go_meet
   case rel => exact ⟨_, ((a2 == (-1))), (by first | rfl | (simp; done) | (simp [*]; done)), H', ⟨by first | omega | exact Nat.le_refl _⟩, by repeat (first | exact Drawn0.refl _ | apply Drawn0.step)⟩
  ·
   rw [if_neg c5] at H
   have c5b0 : (a1 == (-9223372036854775808)) = false := beq_eq_false_iff_ne.mpr c5
   have c5b1 : (a1 != (-9223372036854775808)) = true := bne_iff_ne.mpr c5
   (first | rw [c5b0] | (simp only [i64_w, i32_w]; rw [c5b0]) | skip)
   have H' := Aside0.mk H
   clear H
   go_wp2
   go_meet
   case rel => exact ⟨_, (false), (by first | rfl | (simp; done) | (simp [*]; done)), H', ⟨by first | omega | exact Nat.le_refl _⟩, by repeat (first | exact Drawn0.refl _ | apply Drawn0.step)⟩
 case rest =>
  clear HC4
  try clear c2
  try clear p2
  try clear c5
  try clear c5b0
  try clear c5b1
  obtain ⟨kq, x11_3, rfl, HA, HJ3, ⟨mc3, rfl⟩⟩ := hcut
  cases kq with
  | zero => exact absurd HA.out (by simp [spokeshaveref1_Plain.j0])
  | succ kj3 =>
   have H := HA.out
   clear HA
   simp only [spokeshaveref1_Plain.j0] at H
   by_cases c6 : a0 = 1
   ·
    rw [if_pos c6] at H
    have c6b0 : (a0 == 1) = true := beq_iff_eq.mpr c6
    have c6b1 : (a0 != 1) = false := bne_eq_false_iff_eq.mpr c6
    clear c6
    simp only [Option.some.injEq, Prod.mk.injEq] at H
    obtain ⟨rfl, rfl⟩ := H
    go_wp2
    go_ret2
    exact ⟨by first | rfl | (simp; done) | (simp [*]; done), by repeat (first | exact Drawn0.refl _ | apply Drawn0.step)⟩
   ·
    rw [if_neg c6] at H
    have c6b0 : (a0 == 1) = false := beq_eq_false_iff_ne.mpr c6
    have c6b1 : (a0 != 1) = true := bne_iff_ne.mpr c6
    by_cases c7 : a0 = 2
    ·
     rw [if_pos c7] at H
     have c7b0 : (a0 == 2) = true := beq_iff_eq.mpr c7
     have c7b1 : (a0 != 2) = false := bne_eq_false_iff_eq.mpr c7
     clear c7
     simp only [Option.some.injEq, Prod.mk.injEq] at H
     obtain ⟨rfl, rfl⟩ := H
     go_wp2
     go_ret2
     exact ⟨by first | rfl | (simp; done) | (simp [*]; done), by repeat (first | exact Drawn0.refl _ | apply Drawn0.step)⟩
    ·
     rw [if_neg c7] at H
     have c7b0 : (a0 == 2) = false := beq_eq_false_iff_ne.mpr c7
     have c7b1 : (a0 != 2) = true := bne_iff_ne.mpr c7
     by_cases c8 : a0 = 3
     ·
      rw [if_pos c8] at H
      have c8b0 : (a0 == 3) = true := beq_iff_eq.mpr c8
      have c8b1 : (a0 != 3) = false := bne_eq_false_iff_eq.mpr c8
      clear c8
      simp only [Option.some.injEq, Prod.mk.injEq] at H
      obtain ⟨rfl, rfl⟩ := H
      go_wp2
      go_ret2
      exact ⟨by first | rfl | (simp; done) | (simp [*]; done), by repeat (first | exact Drawn0.refl _ | apply Drawn0.step)⟩
     ·
      rw [if_neg c8] at H
      have c8b0 : (a0 == 3) = false := beq_eq_false_iff_ne.mpr c8
      have c8b1 : (a0 != 3) = true := bne_iff_ne.mpr c8
      by_cases c9 : a0 = 4
      ·
       rw [if_pos c9] at H
       have c9b0 : (a0 == 4) = true := beq_iff_eq.mpr c9
       have c9b1 : (a0 != 4) = false := bne_eq_false_iff_eq.mpr c9
       clear c9
       by_cases c10 : a2 = 0
       ·
        rw [if_pos c10] at H
        have c10b0 : (a2 == 0) = true := beq_iff_eq.mpr c10
        have c10b1 : (a2 != 0) = false := bne_eq_false_iff_eq.mpr c10
        clear c10
        simp only [Option.some.injEq, Prod.mk.injEq] at H
        obtain ⟨rfl, rfl⟩ := H
        go_wp2
        go_ret2
        exact ⟨by first | rfl | (simp; done) | (simp [*]; done), by repeat (first | exact Drawn0.refl _ | apply Drawn0.step)⟩
       ·
        rw [if_neg c10] at H
        have c10b0 : (a2 == 0) = false := beq_eq_false_iff_ne.mpr c10
        have c10b1 : (a2 != 0) = true := bne_iff_ne.mpr c10
        by_cases c11 : x11_3 = true
        ·
         subst c11
         have H1 : (some (0, false)) = some (r1, r2) := by rw [if_pos rfl] at H; exact H
         clear H
         have H := H1
         clear H1
         simp only [Option.some.injEq, Prod.mk.injEq] at H
         obtain ⟨rfl, rfl⟩ := H
         go_wp2
         go_ret2
         exact ⟨by first | rfl | (simp; done) | (simp [*]; done), by repeat (first | exact Drawn0.refl _ | apply Drawn0.step)⟩
        ·
         replace c11 := Bool.eq_false_iff.mpr c11
         subst c11
         have H1 : (some (wrap64 (Int.tdiv a1 a2), true)) = some (r1, r2) := by rw [if_neg (show ¬ (false = true) by decide)] at H; exact H
         clear H
         have H := H1
         clear H1
         simp only [Option.some.injEq, Prod.mk.injEq] at H
         obtain ⟨rfl, rfl⟩ := H
         go_wp2
         go_ret2
         exact ⟨by first | rfl | (simp; done) | (simp [*]; done), by repeat (first | exact Drawn0.refl _ | apply Drawn0.step)⟩
      ·
       rw [if_neg c9] at H
       have c9b0 : (a0 == 4) = false := beq_eq_false_iff_ne.mpr c9
       have c9b1 : (a0 != 4) = true := bne_iff_ne.mpr c9
       by_cases c12 : a0 = 5
       ·
        rw [if_pos c12] at H
        have c12b0 : (a0 == 5) = true := beq_iff_eq.mpr c12
        have c12b1 : (a0 != 5) = false := bne_eq_false_iff_eq.mpr c12
        clear c12
        by_cases c13 : a2 = 0
        ·
         rw [if_pos c13] at H
         have c13b0 : (a2 == 0) = true := beq_iff_eq.mpr c13
         have c13b1 : (a2 != 0) = false := bne_eq_false_iff_eq.mpr c13
         clear c13
         simp only [Option.some.injEq, Prod.mk.injEq] at H
         obtain ⟨rfl, rfl⟩ := H
         go_wp2
         go_ret2
         exact ⟨by first | rfl | (simp; done) | (simp [*]; done), by repeat (first | exact Drawn0.refl _ | apply Drawn0.step)⟩
        ·
         rw [if_neg c13] at H
         have c13b0 : (a2 == 0) = false := beq_eq_false_iff_ne.mpr c13
         have c13b1 : (a2 != 0) = true := bne_iff_ne.mpr c13
         by_cases c14 : x11_3 = true
         ·
          subst c14
          have H1 : (some (0, false)) = some (r1, r2) := by rw [if_pos rfl] at H; exact H
          clear H
          have H := H1
          clear H1
          simp only [Option.some.injEq, Prod.mk.injEq] at H
          obtain ⟨rfl, rfl⟩ := H
          go_wp2
          go_ret2
          exact ⟨by first | rfl | (simp; done) | (simp [*]; done), by repeat (first | exact Drawn0.refl _ | apply Drawn0.step)⟩
         ·
          replace c14 := Bool.eq_false_iff.mpr c14
          subst c14
          have H1 : (some (Int.tmod a1 a2, true)) = some (r1, r2) := by rw [if_neg (show ¬ (false = true) by decide)] at H; exact H
          clear H
          have H := H1
          clear H1
          simp only [Option.some.injEq, Prod.mk.injEq] at H
          obtain ⟨rfl, rfl⟩ := H
          go_wp2
          go_ret2
          exact ⟨by first | rfl | (simp; done) | (simp [*]; done), by repeat (first | exact Drawn0.refl _ | apply Drawn0.step)⟩
       ·
        rw [if_neg c12] at H
        have c12b0 : (a0 == 5) = false := beq_eq_false_iff_ne.mpr c12
        have c12b1 : (a0 != 5) = true := bne_iff_ne.mpr c12
        by_cases c15 : a0 = 6
        ·
         rw [if_pos c15] at H
         have c15b0 : (a0 == 6) = true := beq_iff_eq.mpr c15
         have c15b1 : (a0 != 6) = false := bne_eq_false_iff_eq.mpr c15
         clear c15
         by_cases c16 : a2 = 0
         ·
          rw [if_pos c16] at H
          have c16b0 : (a2 == 0) = true := beq_iff_eq.mpr c16
          have c16b1 : (a2 != 0) = false := bne_eq_false_iff_eq.mpr c16
          clear c16
          simp only [Option.some.injEq, Prod.mk.injEq] at H
          obtain ⟨rfl, rfl⟩ := H
          go_wp2
          go_ret2
          exact ⟨by first | rfl | (simp; done) | (simp [*]; done), by repeat (first | exact Drawn0.refl _ | apply Drawn0.step)⟩
         ·
          rw [if_neg c16] at H
          have c16b0 : (a2 == 0) = false := beq_eq_false_iff_ne.mpr c16
          have c16b1 : (a2 != 0) = true := bne_iff_ne.mpr c16
          by_cases c17 : (IntKind.u64.wrap (a2)) = 0
          ·
           rw [if_pos c17] at H
           exact absurd H (by simp)
          ·
           rw [if_neg c17] at H
           have c17b0 : ((IntKind.u64.wrap (a2)) == 0) = false := beq_eq_false_iff_ne.mpr c17
           have c17b1 : ((IntKind.u64.wrap (a2)) != 0) = true := bne_iff_ne.mpr c17
           simp only [Option.some.injEq, Prod.mk.injEq] at H
           obtain ⟨rfl, rfl⟩ := H
           go_wp2
           go_ret2
           exact ⟨by first | rfl | (simp; done) | (simp [*]; done), by repeat (first | exact Drawn0.refl _ | apply Drawn0.step)⟩
        ·
         rw [if_neg c15] at H
         have c15b0 : (a0 == 6) = false := beq_eq_false_iff_ne.mpr c15
         have c15b1 : (a0 != 6) = true := bne_iff_ne.mpr c15
         by_cases c18 : a0 = 7
         ·
          rw [if_pos c18] at H
          have c18b0 : (a0 == 7) = true := beq_iff_eq.mpr c18
          have c18b1 : (a0 != 7) = false := bne_eq_false_iff_eq.mpr c18
          clear c18
          by_cases c19 : a2 = 0
          ·
           rw [if_pos c19] at H
           have c19b0 : (a2 == 0) = true := beq_iff_eq.mpr c19
           have c19b1 : (a2 != 0) = false := bne_eq_false_iff_eq.mpr c19
           clear c19
           simp only [Option.some.injEq, Prod.mk.injEq] at H
           obtain ⟨rfl, rfl⟩ := H
           go_wp2
           go_ret2
           exact ⟨by first | rfl | (simp; done) | (simp [*]; done), by repeat (first | exact Drawn0.refl _ | apply Drawn0.step)⟩
          ·
           rw [if_neg c19] at H
           have c19b0 : (a2 == 0) = false := beq_eq_false_iff_ne.mpr c19
           have c19b1 : (a2 != 0) = true := bne_iff_ne.mpr c19
           by_cases c20 : (IntKind.u64.wrap (a2)) = 0
           ·
            rw [if_pos c20] at H
            exact absurd H (by simp)
           ·
            rw [if_neg c20] at H
            have c20b0 : ((IntKind.u64.wrap (a2)) == 0) = false := beq_eq_false_iff_ne.mpr c20
            have c20b1 : ((IntKind.u64.wrap (a2)) != 0) = true := bne_iff_ne.mpr c20
            simp only [Option.some.injEq, Prod.mk.injEq] at H
            obtain ⟨rfl, rfl⟩ := H
            go_wp2
            go_ret2
            exact ⟨by first | rfl | (simp; done) | (simp [*]; done), by repeat (first | exact Drawn0.refl _ | apply Drawn0.step)⟩
         ·
          rw [if_neg c18] at H
          have c18b0 : (a0 == 7) = false := beq_eq_false_iff_ne.mpr c18
          have c18b1 : (a0 != 7) = true := bne_iff_ne.mpr c18
          by_cases c21 : a0 = 8
          ·
           rw [if_pos c21] at H
           have c21b0 : (a0 == 8) = true := beq_iff_eq.mpr c21
           have c21b1 : (a0 != 8) = false := bne_eq_false_iff_eq.mpr c21
           clear c21
           simp only [Option.some.injEq, Prod.mk.injEq] at H
           obtain ⟨rfl, rfl⟩ := H
           go_wp2
           go_ret2
           exact ⟨by first | rfl | (simp; done) | (simp [*]; done), by repeat (first | exact Drawn0.refl _ | apply Drawn0.step)⟩
          ·
           rw [if_neg c21] at H
           have c21b0 : (a0 == 8) = false := beq_eq_false_iff_ne.mpr c21
           have c21b1 : (a0 != 8) = true := bne_iff_ne.mpr c21
           by_cases c22 : a0 = 9
           ·
            rw [if_pos c22] at H
            have c22b0 : (a0 == 9) = true := beq_iff_eq.mpr c22
            have c22b1 : (a0 != 9) = false := bne_eq_false_iff_eq.mpr c22
            clear c22
            simp only [Option.some.injEq, Prod.mk.injEq] at H
            obtain ⟨rfl, rfl⟩ := H
            go_wp2
            go_ret2
            exact ⟨by first | rfl | (simp; done) | (simp [*]; done), by repeat (first | exact Drawn0.refl _ | apply Drawn0.step)⟩
           ·
            rw [if_neg c22] at H
            have c22b0 : (a0 == 9) = false := beq_eq_false_iff_ne.mpr c22
            have c22b1 : (a0 != 9) = true := bne_iff_ne.mpr c22
            by_cases c23 : a0 = 10
            ·
             rw [if_pos c23] at H
             have c23b0 : (a0 == 10) = true := beq_iff_eq.mpr c23
             have c23b1 : (a0 != 10) = false := bne_eq_false_iff_eq.mpr c23
             clear c23
             simp only [Option.some.injEq, Prod.mk.injEq] at H
             obtain ⟨rfl, rfl⟩ := H
             go_wp2
             go_ret2
             exact ⟨by first | rfl | (simp; done) | (simp [*]; done), by repeat (first | exact Drawn0.refl _ | apply Drawn0.step)⟩
            ·
             rw [if_neg c23] at H
             have c23b0 : (a0 == 10) = false := beq_eq_false_iff_ne.mpr c23
             have c23b1 : (a0 != 10) = true := bne_iff_ne.mpr c23
             by_cases c24 : a0 = 11
             ·
              rw [if_pos c24] at H
              have c24b0 : (a0 == 11) = true := beq_iff_eq.mpr c24
              have c24b1 : (a0 != 11) = false := bne_eq_false_iff_eq.mpr c24
              clear c24
              obtain ⟨ji25, hji25⟩ : ∃ j_ : Int, (Int.tmod (IntKind.u64.wrap (a2)) 64) = j_ := ⟨_, rfl⟩
              replace H : (if 0 ≤ (ji25) then (some (shl .i64 a1 (ji25), true)) else (none)) = some (r1, r2) := by first | (rw [hji25] at H; exact H) | (simp only [hji25] at H ⊢; exact H)
              by_cases c26 : 0 ≤ (ji25)
              case neg => rw [if_neg c26] at H; exact absurd H (by simp)
              rw [if_pos c26] at H
              have c26b0 := eq_true c26
              have c26b1 : decide (0 ≤ (ji25)) = true := decide_eq_true c26
              clear c26
              obtain ⟨ji27, hji27⟩ : ∃ j_ : Int, (shl .i64 a1 (ji25)) = j_ := ⟨_, rfl⟩
              replace H : (some (ji27, true)) = some (r1, r2) := by first | (rw [hji27] at H; exact H) | (simp only [hji27] at H ⊢; exact H)
              have hji27_ : (IntKind.i64.wrap (a1 * 2 ^ min (ji25).toNat 64)) = ji27 := hji27
              have hji27z : (ji25) ≤ 64 → (IntKind.i64.wrap (a1 * 2 ^ (ji25).toNat)) = ji27 := shl_small hji27
              have hji27y : (wrap64 (a1 * 2 ^ min (ji25).toNat 64)) = ji27 := (i64_w _).symm.trans hji27_
              have hji27x : (ji25) ≤ 64 → (wrap64 (a1 * 2 ^ (ji25).toNat)) = ji27 := fun h_ => (i64_w _).symm.trans (hji27z h_)
              simp only [Option.some.injEq, Prod.mk.injEq] at H
              obtain ⟨rfl, rfl⟩ := H
              go_wp2
              go_ret2
              exact ⟨by first | rfl | (simp; done) | (simp only [← hji25, ← hji27] <;> (first | rfl | simp)) | (simp [*]; done), by repeat (first | exact Drawn0.refl _ | apply Drawn0.step)⟩
             ·
              rw [if_neg c24] at H
              have c24b0 : (a0 == 11) = false := beq_eq_false_iff_ne.mpr c24
              have c24b1 : (a0 != 11) = true := bne_iff_ne.mpr c24
              by_cases c28 : a0 = 12
              ·
               rw [if_pos c28] at H
               have c28b0 : (a0 == 12) = true := beq_iff_eq.mpr c28
               have c28b1 : (a0 != 12) = false := bne_eq_false_iff_eq.mpr c28
               clear c28
               obtain ⟨ji29, hji29⟩ : ∃ j_ : Int, (Int.tmod (IntKind.u64.wrap (a2)) 64) = j_ := ⟨_, rfl⟩
               replace H : (if 0 ≤ (ji29) then (some (wrap64 (shr .u64 (IntKind.u64.wrap (a1)) (ji29)), true)) else (none)) = some (r1, r2) := by first | (rw [hji29] at H; exact H) | (simp only [hji29] at H ⊢; exact H)
               by_cases c30 : 0 ≤ (ji29)
               case neg => rw [if_neg c30] at H; exact absurd H (by simp)
               rw [if_pos c30] at H
               have c30b0 := eq_true c30
               have c30b1 : decide (0 ≤ (ji29)) = true := decide_eq_true c30
               clear c30
               obtain ⟨ji31, hji31⟩ : ∃ j_ : Int, (shr .u64 (IntKind.u64.wrap (a1)) (ji29)) = j_ := ⟨_, rfl⟩
               replace H : (some (wrap64 (ji31), true)) = some (r1, r2) := by first | (rw [hji31] at H; exact H) | (simp only [hji31] at H ⊢; exact H)
               have hji31_ : ((IntKind.u64.wrap (a1)) / 2 ^ min (ji29).toNat 64) = ji31 := hji31
               have hji31z : (ji29) ≤ 64 → ((IntKind.u64.wrap (a1)) / 2 ^ (ji29).toNat) = ji31 := shr_small hji31
               simp only [Option.some.injEq, Prod.mk.injEq] at H
               obtain ⟨rfl, rfl⟩ := H
               go_wp2
               go_ret2
               exact ⟨by first | rfl | (simp; done) | (simp only [← hji29, ← hji31] <;> (first | rfl | simp)) | (simp [*]; done), by repeat (first | exact Drawn0.refl _ | apply Drawn0.step)⟩
              ·
               rw [if_neg c28] at H
               have c28b0 : (a0 == 12) = false := beq_eq_false_iff_ne.mpr c28
               have c28b1 : (a0 != 12) = true := bne_iff_ne.mpr c28
               by_cases c32 : a0 = 13
               ·
                rw [if_pos c32] at H
                have c32b0 : (a0 == 13) = true := beq_iff_eq.mpr c32
                have c32b1 : (a0 != 13) = false := bne_eq_false_iff_eq.mpr c32
                clear c32
                obtain ⟨ji33, hji33⟩ : ∃ j_ : Int, (Int.tmod (IntKind.u64.wrap (a2)) 64) = j_ := ⟨_, rfl⟩
                replace H : (if 0 ≤ (ji33) then (some (shr .i64 a1 (ji33), true)) else (none)) = some (r1, r2) := by first | (rw [hji33] at H; exact H) | (simp only [hji33] at H ⊢; exact H)
                by_cases c34 : 0 ≤ (ji33)
                case neg => rw [if_neg c34] at H; exact absurd H (by simp)
                rw [if_pos c34] at H
                have c34b0 := eq_true c34
                have c34b1 : decide (0 ≤ (ji33)) = true := decide_eq_true c34
                clear c34
                obtain ⟨ji35, hji35⟩ : ∃ j_ : Int, (shr .i64 a1 (ji33)) = j_ := ⟨_, rfl⟩
                replace H : (some (ji35, true)) = some (r1, r2) := by first | (rw [hji35] at H; exact H) | (simp only [hji35] at H ⊢; exact H)
                have hji35_ : (a1 / 2 ^ min (ji33).toNat 64) = ji35 := hji35
                have hji35z : (ji33) ≤ 64 → (a1 / 2 ^ (ji33).toNat) = ji35 := shr_small hji35
                simp only [Option.some.injEq, Prod.mk.injEq] at H
                obtain ⟨rfl, rfl⟩ := H
                go_wp2
                go_ret2
                exact ⟨by first | rfl | (simp; done) | (simp only [← hji33, ← hji35] <;> (first | rfl | simp)) | (simp [*]; done), by repeat (first | exact Drawn0.refl _ | apply Drawn0.step)⟩
               ·
                rw [if_neg c32] at H
                have c32b0 : (a0 == 13) = false := beq_eq_false_iff_ne.mpr c32
                have c32b1 : (a0 != 13) = true := bne_iff_ne.mpr c32
                by_cases c36 : a0 = 14
                ·
                 rw [if_pos c36] at H
                 have c36b0 : (a0 == 14) = true := beq_iff_eq.mpr c36
                 have c36b1 : (a0 != 14) = false := bne_eq_false_iff_eq.mpr c36
                 clear c36
                 replace H := Option.bind_eq_some_iff.mp H
                 obtain ⟨t162, A370, H⟩ := H
                 replace H : (some (t162, true)) = some (r1, r2) := H
                 have A37 := Aside0.mk A370
                 clear A370
                 simp only [Option.some.injEq, Prod.mk.injEq] at H
                 obtain ⟨rfl, rfl⟩ := H
                 go_wp2_with (first | ((with_reducible refine gate_callee (f := 39) rfl ?_); refine goesL_ (some 112) rfl rfl Tryd.func39 (by kernel_rfl) rfl #[.bool (a1 == a2)] rfl (by (try simp only [List.map_toArray, List.map_cons, List.map_nil]); first | done | rfl | (simp only [List.length_drop, List.length_take]; rfl)) ?_; (with_reducible refine (spokeshaveref1_truth.calls (a1 == a2) t162 _ A37.out).mono ?_); rintro e w' ⟨rfl, ⟨nd, rfl⟩⟩; refine ⟨_, rfl, ?_⟩))
                 go_ret2
                 exact ⟨by first | rfl | (simp; done) | (simp [*]; done), by repeat (first | exact Drawn0.refl _ | apply Drawn0.step)⟩
                ·
                 rw [if_neg c36] at H
                 have c36b0 : (a0 == 14) = false := beq_eq_false_iff_ne.mpr c36
                 have c36b1 : (a0 != 14) = true := bne_iff_ne.mpr c36
                 by_cases c38 : a0 = 15
                 ·
                  rw [if_pos c38] at H
                  have c38b0 : (a0 == 15) = true := beq_iff_eq.mpr c38
                  have c38b1 : (a0 != 15) = false := bne_eq_false_iff_eq.mpr c38
                  clear c38
                  replace H := Option.bind_eq_some_iff.mp H
                  obtain ⟨t163, A390, H⟩ := H
                  replace H : (some (t163, true)) = some (r1, r2) := H
                  have A39 := Aside0.mk A390
                  clear A390
                  simp only [Option.some.injEq, Prod.mk.injEq] at H
                  obtain ⟨rfl, rfl⟩ := H
                  go_wp2_with (first | ((with_reducible refine gate_callee (f := 39) rfl ?_); refine goesL_ (some 118) rfl rfl Tryd.func39 (by kernel_rfl) rfl #[.bool (a1 != a2)] rfl (by (try simp only [List.map_toArray, List.map_cons, List.map_nil]); first | done | rfl | (simp only [List.length_drop, List.length_take]; rfl)) ?_; (with_reducible refine (spokeshaveref1_truth.calls (a1 != a2) t163 _ A39.out).mono ?_); rintro e w' ⟨rfl, ⟨nd, rfl⟩⟩; refine ⟨_, rfl, ?_⟩))
                  go_ret2
                  exact ⟨by first | rfl | (simp; done) | (simp [*]; done), by repeat (first | exact Drawn0.refl _ | apply Drawn0.step)⟩
                 ·
                  rw [if_neg c38] at H
                  have c38b0 : (a0 == 15) = false := beq_eq_false_iff_ne.mpr c38
                  have c38b1 : (a0 != 15) = true := bne_iff_ne.mpr c38
                  by_cases c40 : a0 = 16
                  ·
                   rw [if_pos c40] at H
                   have c40b0 : (a0 == 16) = true := beq_iff_eq.mpr c40
                   have c40b1 : (a0 != 16) = false := bne_eq_false_iff_eq.mpr c40
                   clear c40
                   replace H := Option.bind_eq_some_iff.mp H
                   obtain ⟨t164, A410, H⟩ := H
                   replace H : (some (t164, true)) = some (r1, r2) := H
                   have A41 := Aside0.mk A410
                   clear A410
                   simp only [Option.some.injEq, Prod.mk.injEq] at H
                   obtain ⟨rfl, rfl⟩ := H
                   go_wp2_with (first | ((with_reducible refine gate_callee (f := 39) rfl ?_); refine goesL_ (some 124) rfl rfl Tryd.func39 (by kernel_rfl) rfl #[.bool (decide (a1 < a2))] rfl (by (try simp only [List.map_toArray, List.map_cons, List.map_nil]); first | done | rfl | (simp only [List.length_drop, List.length_take]; rfl)) ?_; (with_reducible refine (spokeshaveref1_truth.calls (decide (a1 < a2)) t164 _ A41.out).mono ?_); rintro e w' ⟨rfl, ⟨nd, rfl⟩⟩; refine ⟨_, rfl, ?_⟩))
                   go_ret2
                   exact ⟨by first | rfl | (simp; done) | (simp [*]; done), by repeat (first | exact Drawn0.refl _ | apply Drawn0.step)⟩
                  ·
                   rw [if_neg c40] at H
                   have c40b0 : (a0 == 16) = false := beq_eq_false_iff_ne.mpr c40
                   have c40b1 : (a0 != 16) = true := bne_iff_ne.mpr c40
                   by_cases c42 : a0 = 17
                   ·
                    rw [if_pos c42] at H
                    have c42b0 : (a0 == 17) = true := beq_iff_eq.mpr c42
                    have c42b1 : (a0 != 17) = false := bne_eq_false_iff_eq.mpr c42
                    clear c42
                    replace H := Option.bind_eq_some_iff.mp H
                    obtain ⟨t165, A430, H⟩ := H
                    replace H : (some (t165, true)) = some (r1, r2) := H
                    have A43 := Aside0.mk A430
                    clear A430
                    simp only [Option.some.injEq, Prod.mk.injEq] at H
                    obtain ⟨rfl, rfl⟩ := H
                    go_wp2_with (first | ((with_reducible refine gate_callee (f := 39) rfl ?_); refine goesL_ (some 130) rfl rfl Tryd.func39 (by kernel_rfl) rfl #[.bool (decide (a1 ≤ a2))] rfl (by (try simp only [List.map_toArray, List.map_cons, List.map_nil]); first | done | rfl | (simp only [List.length_drop, List.length_take]; rfl)) ?_; (with_reducible refine (spokeshaveref1_truth.calls (decide (a1 ≤ a2)) t165 _ A43.out).mono ?_); rintro e w' ⟨rfl, ⟨nd, rfl⟩⟩; refine ⟨_, rfl, ?_⟩))
                    go_ret2
                    exact ⟨by first | rfl | (simp; done) | (simp [*]; done), by repeat (first | exact Drawn0.refl _ | apply Drawn0.step)⟩
                   ·
                    rw [if_neg c42] at H
                    have c42b0 : (a0 == 17) = false := beq_eq_false_iff_ne.mpr c42
                    have c42b1 : (a0 != 17) = true := bne_iff_ne.mpr c42
                    by_cases c44 : a0 = 18
                    ·
                     rw [if_pos c44] at H
                     have c44b0 : (a0 == 18) = true := beq_iff_eq.mpr c44
                     have c44b1 : (a0 != 18) = false := bne_eq_false_iff_eq.mpr c44
                     clear c44
                     replace H := Option.bind_eq_some_iff.mp H
                     obtain ⟨t166, A450, H⟩ := H
                     replace H : (some (t166, true)) = some (r1, r2) := H
                     have A45 := Aside0.mk A450
                     clear A450
                     simp only [Option.some.injEq, Prod.mk.injEq] at H
                     obtain ⟨rfl, rfl⟩ := H
                     go_wp2_with (first | ((with_reducible refine gate_callee (f := 39) rfl ?_); refine goesL_ (some 136) rfl rfl Tryd.func39 (by kernel_rfl) rfl #[.bool (decide ((IntKind.u64.wrap (a1)) < (IntKind.u64.wrap (a2))))] rfl (by (try simp only [List.map_toArray, List.map_cons, List.map_nil]); first | done | rfl | (simp only [List.length_drop, List.length_take]; rfl)) ?_; (with_reducible refine (spokeshaveref1_truth.calls (decide ((IntKind.u64.wrap (a1)) < (IntKind.u64.wrap (a2)))) t166 _ A45.out).mono ?_); rintro e w' ⟨rfl, ⟨nd, rfl⟩⟩; refine ⟨_, rfl, ?_⟩))
                     go_ret2
                     exact ⟨by first | rfl | (simp; done) | (simp [*]; done), by repeat (first | exact Drawn0.refl _ | apply Drawn0.step)⟩
                    ·
                     rw [if_neg c44] at H
                     have c44b0 : (a0 == 18) = false := beq_eq_false_iff_ne.mpr c44
                     have c44b1 : (a0 != 18) = true := bne_iff_ne.mpr c44
                     by_cases c46 : a0 = 19
                     ·
                      rw [if_pos c46] at H
                      have c46b0 : (a0 == 19) = true := beq_iff_eq.mpr c46
                      have c46b1 : (a0 != 19) = false := bne_eq_false_iff_eq.mpr c46
                      clear c46
                      replace H := Option.bind_eq_some_iff.mp H
                      obtain ⟨t167, A470, H⟩ := H
                      replace H : (some (t167, true)) = some (r1, r2) := H
                      have A47 := Aside0.mk A470
                      clear A470
                      simp only [Option.some.injEq, Prod.mk.injEq] at H
                      obtain ⟨rfl, rfl⟩ := H
                      go_wp2_with (first | ((with_reducible refine gate_callee (f := 39) rfl ?_); refine goesL_ (some 142) rfl rfl Tryd.func39 (by kernel_rfl) rfl #[.bool (decide ((IntKind.u64.wrap (a1)) ≤ (IntKind.u64.wrap (a2))))] rfl (by (try simp only [List.map_toArray, List.map_cons, List.map_nil]); first | done | rfl | (simp only [List.length_drop, List.length_take]; rfl)) ?_; (with_reducible refine (spokeshaveref1_truth.calls (decide ((IntKind.u64.wrap (a1)) ≤ (IntKind.u64.wrap (a2)))) t167 _ A47.out).mono ?_); rintro e w' ⟨rfl, ⟨nd, rfl⟩⟩; refine ⟨_, rfl, ?_⟩))
                      go_ret2
                      exact ⟨by first | rfl | (simp; done) | (simp [*]; done), by repeat (first | exact Drawn0.refl _ | apply Drawn0.step)⟩
                     ·
                      rw [if_neg c46] at H
                      have c46b0 : (a0 == 19) = false := beq_eq_false_iff_ne.mpr c46
                      have c46b1 : (a0 != 19) = true := bne_iff_ne.mpr c46
                      simp only [Option.some.injEq, Prod.mk.injEq] at H
                      obtain ⟨rfl, rfl⟩ := H
                      go_wp2
                      go_ret2
                      exact ⟨by first | rfl | (simp; done) | (simp [*]; done), by repeat (first | exact Drawn0.refl _ | apply Drawn0.step)⟩

/-! ### spokeshaveref1_shift: function 37 -/
def spokeshaveref1_shift.j0 : Nat → Bool → Int → Int → Bool → Int → Bool → Option (Int × Bool)
 | 0, _, _, _, _, _, _ => none
 | k + 1, x1, x2, x3, x18, x169000, x169001 => if x18 = true then (some (0, false)) else (if x1 = true then (if 0 ≤ (IntKind.u64.wrap (x3)) then ((spokeshaveref1_Wrap.f x169000 x169001 (shl .i64 x2 (IntKind.u64.wrap (x3)))).bind fun t169 => (if x169001 = true then (if x2 < 0 then (some (0, false)) else (if t169 < 0 then (some (0, false)) else (if (shr .i64 t169 (IntKind.u64.wrap (x3))) = x2 then (some (t169, true)) else (some (0, false))))) else (some (t169, true)))) else (none)) else (if x169001 = true then (if 0 ≤ (IntKind.u64.wrap (x3)) then (some (shr .i64 x2 (IntKind.u64.wrap (x3)), true)) else (none)) else (if 0 ≤ (IntKind.u64.wrap (x3)) then (some (wrap64 (shr .u64 (IntKind.u64.wrap (x2)) (IntKind.u64.wrap (x3))), true)) else (none))))
def spokeshaveref1_shift.f (k : Nat) (a0_0 : Int) (a0_1 : Bool) (a1 : Bool) (a2 : Int) (a3 : Int) : Option (Int × Bool) := if a3 < 0 then (spokeshaveref1_shift.j0 k a1 a2 a3 true a0_0 a0_1) else (spokeshaveref1_shift.j0 k a1 a2 a3 (decide (a3 ≥ a0_0)) a0_0 a0_1)
theorem spokeshaveref1_shift.mono_l : ∀ k, (∀ y0 y1 y2 y3 y4 y5, LeO (spokeshaveref1_shift.j0 k y0 y1 y2 y3 y4 y5) (spokeshaveref1_shift.j0 (k + 1) y0 y1 y2 y3 y4 y5))
 | 0 => fun _ _ _ _ _ _ r h => by simp [spokeshaveref1_shift.j0] at h
 | k + 1 => by
  have ih0 := spokeshaveref1_shift.mono_l k
  ·
   intro y0 y1 y2 y3 y4 y5
   unfold spokeshaveref1_shift.j0
   repeat' first
   | (with_reducible exact ih0 _ _ _ _ _ _)
   | (with_reducible exact LeO.refl _)
   | (with_reducible exact LeO.none _)
   | (with_reducible refine LeO.ite ?_ ?_)
   | (with_reducible refine LeO.bind ?_ (fun _ => ?_))
   | exact ih0 _ _ _ _ _ _
   | exact LeO.none _
   | refine LeO.ite ?_ ?_
   | refine LeO.bind ?_ (fun _ => ?_)
theorem spokeshaveref1_shift.mono : ∀ a0 a1 a2 a3 a4 k, LeO (spokeshaveref1_shift.f k a0 a1 a2 a3 a4) (spokeshaveref1_shift.f (k + 1) a0 a1 a2 a3 a4) := by
 intro a0 a1 a2 a3 a4 k
 have ih0 := spokeshaveref1_shift.mono_l k
 unfold spokeshaveref1_shift.f
 repeat' first
   | (with_reducible exact ih0 _ _ _ _ _ _)
   | (with_reducible exact LeO.refl _)
   | (with_reducible exact LeO.none _)
   | (with_reducible refine LeO.ite ?_ ?_)
   | (with_reducible refine LeO.bind ?_ (fun _ => ?_))
   | exact ih0 _ _ _ _ _ _
   | exact LeO.none _
   | refine LeO.ite ?_ ?_
   | refine LeO.bind ?_ (fun _ => ?_)
set_option maxHeartbeats 8000000 in
set_option maxRecDepth 100000 in
theorem spokeshaveref1_shift.calls (k : Nat) (a0_0 : Int) (a0_1 : Bool) (a1 : Bool) (a2 : Int) (a3 : Int) (r1 : Int) (r2 : Bool) (w : World) (h : spokeshaveref1_shift.f k a0_0 a0_1 a1 a2 a3 = some (r1, r2)) :
  Calls Tryd.prog 37 #[.agg #[.int .i64 a0_0, .bool a0_1], .bool a1, .int .i64 a2, .int .i64 a3] w fun e w' => e = .returned (.tuple #[.int .i64 r1, .bool r2]) ∧ Below w.heap.size w w' := by
 have hu26 := Tryd.underlying26
 have HB := Aside0.mk (Below.refl w.heap.size w)
 have H : (if a3 < 0 then (spokeshaveref1_shift.j0 k a1 a2 a3 true a0_0 a0_1) else (spokeshaveref1_shift.j0 k a1 a2 a3 (decide (a3 ≥ a0_0)) a0_0 a0_1)) = some (r1, r2) := h
 clear h
 have HC5 := Aside0.mk H
 clear H
 go_enter Tryd.func37, Tryd.ntmps37
 go_upto_region 1 with (first | ((with_reducible refine gate_dst (N := 4) rfl ?_); refine box_event ?hg (N := 4) ?hd (cs := #[.int .i64 a0_0, .bool a0_1]) (t := 26) ?hr ?_; (case hd => rfl); (case hg => rfl); (case hr => first | (go_simp; done) | (go_simp; rfl)); intro gb168 hg w6 hbox hb; have n0_ := Aside0.mk (below_step (by repeat (first | (with_reducible first | exact HB.out | apply below_alloc | apply pw_below_drewN | apply below_drew1) | exact HB.out)) hb); have n1_ := Aside0.mk (hbox); have n2_ := Aside0.mk ((by rw [hg]; exact (below_size (by repeat (first | (with_reducible first | exact HB.out | apply below_alloc | apply pw_below_drewN | apply below_drew1) | exact HB.out))) : w.heap.size ≤ gb168)); have n3_ := Aside0.mk ((by rw [hg]; exact (below_size (by repeat (first | (with_reducible first | exact HB.out | apply below_alloc | apply pw_below_drewN | apply below_drew1) | exact HB.out))) : w.heap.size ≤ gb168)); clear HB; have HB := n0_; have BK168 := n1_; have GW168 := n2_; have GE168 := n3_; clear n0_ n1_ n2_ n3_; clear hb hbox hg))
 (try simp only [Act.put, List.setIfInBounds_toArray, List.set_cons_zero, List.set_cons_succ])
 go_cut [18] (fun v18 wc => ∃ (kq : Nat) (x18_4 : Bool), v18 = .bool x18_4 ∧ Aside0 (spokeshaveref1_shift.j0 kq a1 a2 a3 x18_4 a0_0 a0_1 = some (r1, r2)) ∧ Aside0 (kq ≤ k) ∧ Aside0 (wc.heap[gb168]? = some (.cells #[.int .i64 a0_0, .bool a0_1] 26 (0, 0))) ∧ Aside0 (Below w.heap.size w wc))
 case first =>
  have H := HC5.out
  clear HC5
  by_cases c7 : a3 < 0
  ·
   rw [if_pos c7] at H
   have c7b0 : decide (a3 < 0) = true := decide_eq_true c7
   clear c7
   (first | rw [c7b0] | (simp only [i64_w, i32_w]; rw [c7b0]) | skip)
   have H' := Aside0.mk H
   clear H
   go_wp2
   go_meet
   case rel => exact ⟨_, (true), (by first | rfl | (simp; done) | (simp [*]; done)), H', ⟨by first | omega | exact Nat.le_refl _⟩, ⟨by (with_reducible repeat (first | refine blk_drewN ?_ _ | refine blk_drew ?_ | refine blk_alloc ?_ _)); exact BK168.out⟩, ⟨by repeat (first | (with_reducible first | exact HB.out | apply below_alloc | apply pw_below_drewN | apply below_drew1 | refine below_set ?_ GE168.out) | exact HB.out)⟩⟩
  ·
   rw [if_neg c7] at H
   have c7b0 : decide (a3 < 0) = false := decide_eq_false c7
   clear c7
   (first | rw [c7b0] | (simp only [i64_w, i32_w]; rw [c7b0]) | skip)
   have H' := Aside0.mk H
   clear H
   have hcz8_0 : w6.cell? ⟨gb168, 0, none⟩ = some (.int .i64 a0_0) := (blk_cell BK168.out 0).trans rfl
   have hcz8_1 : w6.cell? ⟨gb168, 1, none⟩ = some (.bool a0_1) := (blk_cell BK168.out 1).trans rfl
   have hfz8_0 := blk_frozen BK168.out 0
   have hfz8_1 := blk_frozen BK168.out 1
   go_wp2
   go_meet
   case rel => exact ⟨_, (decide (a3 ≥ a0_0)), (by first | rfl | (simp; done) | (simp [*]; done)), H', ⟨by first | omega | exact Nat.le_refl _⟩, ⟨by (with_reducible repeat (first | refine blk_drewN ?_ _ | refine blk_drew ?_ | refine blk_alloc ?_ _)); exact BK168.out⟩, ⟨by repeat (first | (with_reducible first | exact HB.out | apply below_alloc | apply pw_below_drewN | apply below_drew1 | refine below_set ?_ GE168.out) | exact HB.out)⟩⟩
 case rest =>
  clear HC5
  try clear p2
  try clear c3
  try clear c7
  try clear c7b0
  try clear hcz8_0
  try clear hcz8_1
  try clear hfz8_0
  try clear hfz8_1
  obtain ⟨kq, x18_4, rfl, HA, HJ4, BK168, HB⟩ := hcut
  cases kq with
  | zero => exact absurd HA.out (by simp [spokeshaveref1_shift.j0])
  | succ kj4 =>
   have H := HA.out
   clear HA
   simp only [spokeshaveref1_shift.j0] at H
   by_cases c9 : x18_4 = true
   ·
    subst c9
    have H1 : (some (0, false)) = some (r1, r2) := by rw [if_pos rfl] at H; exact H
    clear H
    have H := H1
    clear H1
    simp only [Option.some.injEq, Prod.mk.injEq] at H
    obtain ⟨rfl, rfl⟩ := H
    go_wp2
    go_ret2
    exact ⟨by first | rfl | (simp [errW_none, errW_some] <;> rfl) | (simp [*, errW_none, errW_some] <;> rfl), by repeat (first | (with_reducible first | exact HB.out | apply below_alloc | apply pw_below_drewN | apply below_drew1 | refine below_set ?_ GE168.out) | exact HB.out)⟩
   ·
    replace c9 := Bool.eq_false_iff.mpr c9
    subst c9
    have H1 : (if a1 = true then (if 0 ≤ (IntKind.u64.wrap (a3)) then ((spokeshaveref1_Wrap.f a0_0 a0_1 (shl .i64 a2 (IntKind.u64.wrap (a3)))).bind fun t169 => (if a0_1 = true then (if a2 < 0 then (some (0, false)) else (if t169 < 0 then (some (0, false)) else (if (shr .i64 t169 (IntKind.u64.wrap (a3))) = a2 then (some (t169, true)) else (some (0, false))))) else (some (t169, true)))) else (none)) else (if a0_1 = true then (if 0 ≤ (IntKind.u64.wrap (a3)) then (some (shr .i64 a2 (IntKind.u64.wrap (a3)), true)) else (none)) else (if 0 ≤ (IntKind.u64.wrap (a3)) then (some (wrap64 (shr .u64 (IntKind.u64.wrap (a2)) (IntKind.u64.wrap (a3))), true)) else (none)))) = some (r1, r2) := by rw [if_neg (show ¬ (false = true) by decide)] at H; exact H
    clear H
    have H := H1
    clear H1
    by_cases c10 : a1 = true
    ·
     subst c10
     have H1 : (if 0 ≤ (IntKind.u64.wrap (a3)) then ((spokeshaveref1_Wrap.f a0_0 a0_1 (shl .i64 a2 (IntKind.u64.wrap (a3)))).bind fun t169 => (if a0_1 = true then (if a2 < 0 then (some (0, false)) else (if t169 < 0 then (some (0, false)) else (if (shr .i64 t169 (IntKind.u64.wrap (a3))) = a2 then (some (t169, true)) else (some (0, false))))) else (some (t169, true)))) else (none)) = some (r1, r2) := by rw [if_pos rfl] at H; exact H
     clear H
     have H := H1
     clear H1
     obtain ⟨ji11, hji11⟩ : ∃ j_ : Int, (IntKind.u64.wrap (a3)) = j_ := ⟨_, rfl⟩
     replace H : (if 0 ≤ (ji11) then ((spokeshaveref1_Wrap.f a0_0 a0_1 (shl .i64 a2 (ji11))).bind fun t169 => (if a0_1 = true then (if a2 < 0 then (some (0, false)) else (if t169 < 0 then (some (0, false)) else (if (shr .i64 t169 (ji11)) = a2 then (some (t169, true)) else (some (0, false))))) else (some (t169, true)))) else (none)) = some (r1, r2) := by first | (rw [hji11] at H; exact H) | (simp only [hji11] at H ⊢; exact H)
     by_cases c12 : 0 ≤ (ji11)
     case neg => rw [if_neg c12] at H; exact absurd H (by simp)
     rw [if_pos c12] at H
     have c12b0 := eq_true c12
     have c12b1 : decide (0 ≤ (ji11)) = true := decide_eq_true c12
     clear c12
     obtain ⟨ji13, hji13⟩ : ∃ j_ : Int, (shl .i64 a2 (ji11)) = j_ := ⟨_, rfl⟩
     replace H : ((spokeshaveref1_Wrap.f a0_0 a0_1 (ji13)).bind fun t169 => (if a0_1 = true then (if a2 < 0 then (some (0, false)) else (if t169 < 0 then (some (0, false)) else (if (shr .i64 t169 (ji11)) = a2 then (some (t169, true)) else (some (0, false))))) else (some (t169, true)))) = some (r1, r2) := by first | (rw [hji13] at H; exact H) | (simp only [hji13] at H ⊢; exact H)
     have hji13_ : (IntKind.i64.wrap (a2 * 2 ^ min (ji11).toNat 64)) = ji13 := hji13
     have hji13z : (ji11) ≤ 64 → (IntKind.i64.wrap (a2 * 2 ^ (ji11).toNat)) = ji13 := shl_small hji13
     have hji13y : (wrap64 (a2 * 2 ^ min (ji11).toNat 64)) = ji13 := (i64_w _).symm.trans hji13_
     have hji13x : (ji11) ≤ 64 → (wrap64 (a2 * 2 ^ (ji11).toNat)) = ji13 := fun h_ => (i64_w _).symm.trans (hji13z h_)
     replace H := Option.bind_eq_some_iff.mp H
     obtain ⟨t169, A140, H⟩ := H
     replace H : (if a0_1 = true then (if a2 < 0 then (some (0, false)) else (if t169 < 0 then (some (0, false)) else (if (shr .i64 t169 (ji11)) = a2 then (some (t169, true)) else (some (0, false))))) else (some (t169, true))) = some (r1, r2) := H
     have A14 := Aside0.mk A140
     clear A140
     by_cases c15 : a0_1 = true
     ·
      subst c15
      have H1 : (if a2 < 0 then (some (0, false)) else (if t169 < 0 then (some (0, false)) else (if (shr .i64 t169 (ji11)) = a2 then (some (t169, true)) else (some (0, false))))) = some (r1, r2) := by rw [if_pos rfl] at H; exact H
      clear H
      have H := H1
      clear H1
      by_cases c16 : a2 < 0
      ·
       rw [if_pos c16] at H
       have c16b0 : decide (a2 < 0) = true := decide_eq_true c16
       clear c16
       simp only [Option.some.injEq, Prod.mk.injEq] at H
       obtain ⟨rfl, rfl⟩ := H
       have hcz17_0 : wc.cell? ⟨gb168, 0, none⟩ = some (.int .i64 a0_0) := (blk_cell BK168.out 0).trans rfl
       have hcz17_1 : wc.cell? ⟨gb168, 1, none⟩ = some (.bool true) := (blk_cell BK168.out 1).trans rfl
       have hfz17_0 := blk_frozen BK168.out 0
       have hfz17_1 := blk_frozen BK168.out 1
       go_wp2_with (first | ((with_reducible refine gate_callee (f := 11) rfl ?_); refine goesL_ (some 38) rfl rfl Tryd.func11 (by kernel_rfl) rfl #[.agg #[.int .i64 a0_0, .bool true], .int .i64 ji13] rfl (by (try simp only [List.map_toArray, List.map_cons, List.map_nil]); first | done | (simp only [hji13]; rfl) | rfl | (simp only [List.length_drop, List.length_take]; rfl)) ?_; (with_reducible refine (spokeshaveref1_Wrap.calls a0_0 true ji13 t169 _ A14.out).mono ?_); rintro e w18 ⟨rfl, hb⟩; refine ⟨_, rfl, ?_⟩; have n0_ := Aside0.mk (blk_below (g := gb168) (o := .cells #[.int .i64 a0_0, .bool true] 26 (0, 0)) (by (with_reducible repeat (first | refine blk_drewN ?_ _ | refine blk_drew ?_ | refine blk_alloc ?_ _)); exact BK168.out) hb); have n1_ := Aside0.mk (below_step (by repeat (first | (with_reducible first | exact HB.out | apply below_alloc | apply pw_below_drewN | apply below_drew1 | refine below_set ?_ GE168.out) | exact HB.out)) hb); clear BK168; clear HB; have BK168 := n0_; have HB := n1_; clear n0_ n1_; (try clear hb); (try clear hb2); (try clear hk); (try clear hi); have hcz19_0 : w18.cell? ⟨gb168, 0, none⟩ = some (.int .i64 a0_0) := (blk_cell BK168.out 0).trans rfl; have hcz19_1 : w18.cell? ⟨gb168, 1, none⟩ = some (.bool true) := (blk_cell BK168.out 1).trans rfl; have hfz19_0 := blk_frozen BK168.out 0; have hfz19_1 := blk_frozen BK168.out 1))
       go_ret2
       exact ⟨by first | rfl | (simp [errW_none, errW_some] <;> rfl) | (simp only [← hji11, ← hji13]; first | rfl | (simp [errW_none, errW_some] <;> rfl)) | (simp [*, errW_none, errW_some] <;> rfl), by repeat (first | (with_reducible first | exact HB.out | apply below_alloc | apply pw_below_drewN | apply below_drew1 | refine below_set ?_ GE168.out) | exact HB.out)⟩
      ·
       rw [if_neg c16] at H
       have c16b0 : decide (a2 < 0) = false := decide_eq_false c16
       clear c16
       by_cases c20 : t169 < 0
       ·
        rw [if_pos c20] at H
        have c20b0 : decide (t169 < 0) = true := decide_eq_true c20
        clear c20
        simp only [Option.some.injEq, Prod.mk.injEq] at H
        obtain ⟨rfl, rfl⟩ := H
        have hcz21_0 : wc.cell? ⟨gb168, 0, none⟩ = some (.int .i64 a0_0) := (blk_cell BK168.out 0).trans rfl
        have hcz21_1 : wc.cell? ⟨gb168, 1, none⟩ = some (.bool true) := (blk_cell BK168.out 1).trans rfl
        have hfz21_0 := blk_frozen BK168.out 0
        have hfz21_1 := blk_frozen BK168.out 1
        go_wp2_with (first | ((with_reducible refine gate_callee (f := 11) rfl ?_); refine goesL_ (some 38) rfl rfl Tryd.func11 (by kernel_rfl) rfl #[.agg #[.int .i64 a0_0, .bool true], .int .i64 ji13] rfl (by (try simp only [List.map_toArray, List.map_cons, List.map_nil]); first | done | (simp only [hji13]; rfl) | rfl | (simp only [List.length_drop, List.length_take]; rfl)) ?_; (with_reducible refine (spokeshaveref1_Wrap.calls a0_0 true ji13 t169 _ A14.out).mono ?_); rintro e w22 ⟨rfl, hb⟩; refine ⟨_, rfl, ?_⟩; have n0_ := Aside0.mk (blk_below (g := gb168) (o := .cells #[.int .i64 a0_0, .bool true] 26 (0, 0)) (by (with_reducible repeat (first | refine blk_drewN ?_ _ | refine blk_drew ?_ | refine blk_alloc ?_ _)); exact BK168.out) hb); have n1_ := Aside0.mk (below_step (by repeat (first | (with_reducible first | exact HB.out | apply below_alloc | apply pw_below_drewN | apply below_drew1 | refine below_set ?_ GE168.out) | exact HB.out)) hb); clear BK168; clear HB; have BK168 := n0_; have HB := n1_; clear n0_ n1_; (try clear hb); (try clear hb2); (try clear hk); (try clear hi); have hcz23_0 : w22.cell? ⟨gb168, 0, none⟩ = some (.int .i64 a0_0) := (blk_cell BK168.out 0).trans rfl; have hcz23_1 : w22.cell? ⟨gb168, 1, none⟩ = some (.bool true) := (blk_cell BK168.out 1).trans rfl; have hfz23_0 := blk_frozen BK168.out 0; have hfz23_1 := blk_frozen BK168.out 1))
        go_ret2
        exact ⟨by first | rfl | (simp [errW_none, errW_some] <;> rfl) | (simp only [← hji11, ← hji13]; first | rfl | (simp [errW_none, errW_some] <;> rfl)) | (simp [*, errW_none, errW_some] <;> rfl), by repeat (first | (with_reducible first | exact HB.out | apply below_alloc | apply pw_below_drewN | apply below_drew1 | refine below_set ?_ GE168.out) | exact HB.out)⟩
       ·
        rw [if_neg c20] at H
        have c20b0 : decide (t169 < 0) = false := decide_eq_false c20
        clear c20
        have c24b0 := eq_true (of_decide_eq_true (by first | (with_reducible assumption) | assumption) : 0 ≤ (ji11))
        obtain ⟨ji25, hji25⟩ : ∃ j_ : Int, (shr .i64 t169 (ji11)) = j_ := ⟨_, rfl⟩
        replace H : (if (ji25) = a2 then (some (t169, true)) else (some (0, false))) = some (r1, r2) := by first | (rw [hji25] at H; exact H) | (simp only [hji25] at H ⊢; exact H)
        (try rw [hji25] at A14)
        have hji25_ : (t169 / 2 ^ min (ji11).toNat 64) = ji25 := hji25
        have hji25z : (ji11) ≤ 64 → (t169 / 2 ^ (ji11).toNat) = ji25 := shr_small hji25
        by_cases c26 : (ji25) = a2
        ·
         rw [if_pos c26] at H
         have c26b0 : ((ji25) == a2) = true := beq_iff_eq.mpr c26
         have c26b1 : ((ji25) != a2) = false := bne_eq_false_iff_eq.mpr c26
         clear c26
         simp only [Option.some.injEq, Prod.mk.injEq] at H
         obtain ⟨rfl, rfl⟩ := H
         have hcz27_0 : wc.cell? ⟨gb168, 0, none⟩ = some (.int .i64 a0_0) := (blk_cell BK168.out 0).trans rfl
         have hcz27_1 : wc.cell? ⟨gb168, 1, none⟩ = some (.bool true) := (blk_cell BK168.out 1).trans rfl
         have hfz27_0 := blk_frozen BK168.out 0
         have hfz27_1 := blk_frozen BK168.out 1
         go_wp2_with (first | ((with_reducible refine gate_callee (f := 11) rfl ?_); refine goesL_ (some 38) rfl rfl Tryd.func11 (by kernel_rfl) rfl #[.agg #[.int .i64 a0_0, .bool true], .int .i64 ji13] rfl (by (try simp only [List.map_toArray, List.map_cons, List.map_nil]); first | done | (simp only [hji13]; rfl) | rfl | (simp only [List.length_drop, List.length_take]; rfl)) ?_; (with_reducible refine (spokeshaveref1_Wrap.calls a0_0 true ji13 t169 _ A14.out).mono ?_); rintro e w28 ⟨rfl, hb⟩; refine ⟨_, rfl, ?_⟩; have n0_ := Aside0.mk (blk_below (g := gb168) (o := .cells #[.int .i64 a0_0, .bool true] 26 (0, 0)) (by (with_reducible repeat (first | refine blk_drewN ?_ _ | refine blk_drew ?_ | refine blk_alloc ?_ _)); exact BK168.out) hb); have n1_ := Aside0.mk (below_step (by repeat (first | (with_reducible first | exact HB.out | apply below_alloc | apply pw_below_drewN | apply below_drew1 | refine below_set ?_ GE168.out) | exact HB.out)) hb); clear BK168; clear HB; have BK168 := n0_; have HB := n1_; clear n0_ n1_; (try clear hb); (try clear hb2); (try clear hk); (try clear hi); have hcz29_0 : w28.cell? ⟨gb168, 0, none⟩ = some (.int .i64 a0_0) := (blk_cell BK168.out 0).trans rfl; have hcz29_1 : w28.cell? ⟨gb168, 1, none⟩ = some (.bool true) := (blk_cell BK168.out 1).trans rfl; have hfz29_0 := blk_frozen BK168.out 0; have hfz29_1 := blk_frozen BK168.out 1))
         go_ret2
         exact ⟨by first | rfl | (simp [errW_none, errW_some] <;> rfl) | (simp only [← hji11, ← hji13, ← hji25]; first | rfl | (simp [errW_none, errW_some] <;> rfl)) | (simp [*, errW_none, errW_some] <;> rfl), by repeat (first | (with_reducible first | exact HB.out | apply below_alloc | apply pw_below_drewN | apply below_drew1 | refine below_set ?_ GE168.out) | exact HB.out)⟩
        ·
         rw [if_neg c26] at H
         have c26b0 : ((ji25) == a2) = false := beq_eq_false_iff_ne.mpr c26
         have c26b1 : ((ji25) != a2) = true := bne_iff_ne.mpr c26
         simp only [Option.some.injEq, Prod.mk.injEq] at H
         obtain ⟨rfl, rfl⟩ := H
         have hcz30_0 : wc.cell? ⟨gb168, 0, none⟩ = some (.int .i64 a0_0) := (blk_cell BK168.out 0).trans rfl
         have hcz30_1 : wc.cell? ⟨gb168, 1, none⟩ = some (.bool true) := (blk_cell BK168.out 1).trans rfl
         have hfz30_0 := blk_frozen BK168.out 0
         have hfz30_1 := blk_frozen BK168.out 1
         go_wp2_with (first | ((with_reducible refine gate_callee (f := 11) rfl ?_); refine goesL_ (some 38) rfl rfl Tryd.func11 (by kernel_rfl) rfl #[.agg #[.int .i64 a0_0, .bool true], .int .i64 ji13] rfl (by (try simp only [List.map_toArray, List.map_cons, List.map_nil]); first | done | (simp only [hji13]; rfl) | rfl | (simp only [List.length_drop, List.length_take]; rfl)) ?_; (with_reducible refine (spokeshaveref1_Wrap.calls a0_0 true ji13 t169 _ A14.out).mono ?_); rintro e w31 ⟨rfl, hb⟩; refine ⟨_, rfl, ?_⟩; have n0_ := Aside0.mk (blk_below (g := gb168) (o := .cells #[.int .i64 a0_0, .bool true] 26 (0, 0)) (by (with_reducible repeat (first | refine blk_drewN ?_ _ | refine blk_drew ?_ | refine blk_alloc ?_ _)); exact BK168.out) hb); have n1_ := Aside0.mk (below_step (by repeat (first | (with_reducible first | exact HB.out | apply below_alloc | apply pw_below_drewN | apply below_drew1 | refine below_set ?_ GE168.out) | exact HB.out)) hb); clear BK168; clear HB; have BK168 := n0_; have HB := n1_; clear n0_ n1_; (try clear hb); (try clear hb2); (try clear hk); (try clear hi); have hcz32_0 : w31.cell? ⟨gb168, 0, none⟩ = some (.int .i64 a0_0) := (blk_cell BK168.out 0).trans rfl; have hcz32_1 : w31.cell? ⟨gb168, 1, none⟩ = some (.bool true) := (blk_cell BK168.out 1).trans rfl; have hfz32_0 := blk_frozen BK168.out 0; have hfz32_1 := blk_frozen BK168.out 1))
         go_ret2
         exact ⟨by first | rfl | (simp [errW_none, errW_some] <;> rfl) | (simp only [← hji11, ← hji13, ← hji25]; first | rfl | (simp [errW_none, errW_some] <;> rfl)) | (simp [*, errW_none, errW_some] <;> rfl), by repeat (first | (with_reducible first | exact HB.out | apply below_alloc | apply pw_below_drewN | apply below_drew1 | refine below_set ?_ GE168.out) | exact HB.out)⟩
     ·
      replace c15 := Bool.eq_false_iff.mpr c15
      subst c15
      have H1 : (some (t169, true)) = some (r1, r2) := by rw [if_neg (show ¬ (false = true) by decide)] at H; exact H
      clear H
      have H := H1
      clear H1
      simp only [Option.some.injEq, Prod.mk.injEq] at H
      obtain ⟨rfl, rfl⟩ := H
      have hcz33_0 : wc.cell? ⟨gb168, 0, none⟩ = some (.int .i64 a0_0) := (blk_cell BK168.out 0).trans rfl
      have hcz33_1 : wc.cell? ⟨gb168, 1, none⟩ = some (.bool false) := (blk_cell BK168.out 1).trans rfl
      have hfz33_0 := blk_frozen BK168.out 0
      have hfz33_1 := blk_frozen BK168.out 1
      go_wp2_with (first | ((with_reducible refine gate_callee (f := 11) rfl ?_); refine goesL_ (some 38) rfl rfl Tryd.func11 (by kernel_rfl) rfl #[.agg #[.int .i64 a0_0, .bool false], .int .i64 ji13] rfl (by (try simp only [List.map_toArray, List.map_cons, List.map_nil]); first | done | (simp only [hji13]; rfl) | rfl | (simp only [List.length_drop, List.length_take]; rfl)) ?_; (with_reducible refine (spokeshaveref1_Wrap.calls a0_0 false ji13 t169 _ A14.out).mono ?_); rintro e w34 ⟨rfl, hb⟩; refine ⟨_, rfl, ?_⟩; have n0_ := Aside0.mk (blk_below (g := gb168) (o := .cells #[.int .i64 a0_0, .bool false] 26 (0, 0)) (by (with_reducible repeat (first | refine blk_drewN ?_ _ | refine blk_drew ?_ | refine blk_alloc ?_ _)); exact BK168.out) hb); have n1_ := Aside0.mk (below_step (by repeat (first | (with_reducible first | exact HB.out | apply below_alloc | apply pw_below_drewN | apply below_drew1 | refine below_set ?_ GE168.out) | exact HB.out)) hb); clear BK168; clear HB; have BK168 := n0_; have HB := n1_; clear n0_ n1_; (try clear hb); (try clear hb2); (try clear hk); (try clear hi); have hcz35_0 : w34.cell? ⟨gb168, 0, none⟩ = some (.int .i64 a0_0) := (blk_cell BK168.out 0).trans rfl; have hcz35_1 : w34.cell? ⟨gb168, 1, none⟩ = some (.bool false) := (blk_cell BK168.out 1).trans rfl; have hfz35_0 := blk_frozen BK168.out 0; have hfz35_1 := blk_frozen BK168.out 1))
      go_ret2
      exact ⟨by first | rfl | (simp [errW_none, errW_some] <;> rfl) | (simp only [← hji11, ← hji13]; first | rfl | (simp [errW_none, errW_some] <;> rfl)) | (simp [*, errW_none, errW_some] <;> rfl), by repeat (first | (with_reducible first | exact HB.out | apply below_alloc | apply pw_below_drewN | apply below_drew1 | refine below_set ?_ GE168.out) | exact HB.out)⟩
    ·
     replace c10 := Bool.eq_false_iff.mpr c10
     subst c10
     have H1 : (if a0_1 = true then (if 0 ≤ (IntKind.u64.wrap (a3)) then (some (shr .i64 a2 (IntKind.u64.wrap (a3)), true)) else (none)) else (if 0 ≤ (IntKind.u64.wrap (a3)) then (some (wrap64 (shr .u64 (IntKind.u64.wrap (a2)) (IntKind.u64.wrap (a3))), true)) else (none))) = some (r1, r2) := by rw [if_neg (show ¬ (false = true) by decide)] at H; exact H
     clear H
     have H := H1
     clear H1
     by_cases c36 : a0_1 = true
     ·
      subst c36
      have H1 : (if 0 ≤ (IntKind.u64.wrap (a3)) then (some (shr .i64 a2 (IntKind.u64.wrap (a3)), true)) else (none)) = some (r1, r2) := by rw [if_pos rfl] at H; exact H
      clear H
      have H := H1
      clear H1
      obtain ⟨ji37, hji37⟩ : ∃ j_ : Int, (IntKind.u64.wrap (a3)) = j_ := ⟨_, rfl⟩
      replace H : (if 0 ≤ (ji37) then (some (shr .i64 a2 (ji37), true)) else (none)) = some (r1, r2) := by first | (rw [hji37] at H; exact H) | (simp only [hji37] at H ⊢; exact H)
      by_cases c38 : 0 ≤ (ji37)
      case neg => rw [if_neg c38] at H; exact absurd H (by simp)
      rw [if_pos c38] at H
      have c38b0 := eq_true c38
      have c38b1 : decide (0 ≤ (ji37)) = true := decide_eq_true c38
      clear c38
      obtain ⟨ji39, hji39⟩ : ∃ j_ : Int, (shr .i64 a2 (ji37)) = j_ := ⟨_, rfl⟩
      replace H : (some (ji39, true)) = some (r1, r2) := by first | (rw [hji39] at H; exact H) | (simp only [hji39] at H ⊢; exact H)
      have hji39_ : (a2 / 2 ^ min (ji37).toNat 64) = ji39 := hji39
      have hji39z : (ji37) ≤ 64 → (a2 / 2 ^ (ji37).toNat) = ji39 := shr_small hji39
      simp only [Option.some.injEq, Prod.mk.injEq] at H
      obtain ⟨rfl, rfl⟩ := H
      have hcz40_0 : wc.cell? ⟨gb168, 0, none⟩ = some (.int .i64 a0_0) := (blk_cell BK168.out 0).trans rfl
      have hcz40_1 : wc.cell? ⟨gb168, 1, none⟩ = some (.bool true) := (blk_cell BK168.out 1).trans rfl
      have hfz40_0 := blk_frozen BK168.out 0
      have hfz40_1 := blk_frozen BK168.out 1
      go_wp2
      go_ret2
      exact ⟨by first | rfl | (simp [errW_none, errW_some] <;> rfl) | (simp only [← hji37, ← hji39]; first | rfl | (simp [errW_none, errW_some] <;> rfl)) | (simp [*, errW_none, errW_some] <;> rfl), by repeat (first | (with_reducible first | exact HB.out | apply below_alloc | apply pw_below_drewN | apply below_drew1 | refine below_set ?_ GE168.out) | exact HB.out)⟩
     ·
      replace c36 := Bool.eq_false_iff.mpr c36
      subst c36
      have H1 : (if 0 ≤ (IntKind.u64.wrap (a3)) then (some (wrap64 (shr .u64 (IntKind.u64.wrap (a2)) (IntKind.u64.wrap (a3))), true)) else (none)) = some (r1, r2) := by rw [if_neg (show ¬ (false = true) by decide)] at H; exact H
      clear H
      have H := H1
      clear H1
      obtain ⟨ji41, hji41⟩ : ∃ j_ : Int, (IntKind.u64.wrap (a3)) = j_ := ⟨_, rfl⟩
      replace H : (if 0 ≤ (ji41) then (some (wrap64 (shr .u64 (IntKind.u64.wrap (a2)) (ji41)), true)) else (none)) = some (r1, r2) := by first | (rw [hji41] at H; exact H) | (simp only [hji41] at H ⊢; exact H)
      by_cases c42 : 0 ≤ (ji41)
      case neg => rw [if_neg c42] at H; exact absurd H (by simp)
      rw [if_pos c42] at H
      have c42b0 := eq_true c42
      have c42b1 : decide (0 ≤ (ji41)) = true := decide_eq_true c42
      clear c42
      obtain ⟨ji43, hji43⟩ : ∃ j_ : Int, (shr .u64 (IntKind.u64.wrap (a2)) (ji41)) = j_ := ⟨_, rfl⟩
      replace H : (some (wrap64 (ji43), true)) = some (r1, r2) := by first | (rw [hji43] at H; exact H) | (simp only [hji43] at H ⊢; exact H)
      have hji43_ : ((IntKind.u64.wrap (a2)) / 2 ^ min (ji41).toNat 64) = ji43 := hji43
      have hji43z : (ji41) ≤ 64 → ((IntKind.u64.wrap (a2)) / 2 ^ (ji41).toNat) = ji43 := shr_small hji43
      simp only [Option.some.injEq, Prod.mk.injEq] at H
      obtain ⟨rfl, rfl⟩ := H
      have hcz44_0 : wc.cell? ⟨gb168, 0, none⟩ = some (.int .i64 a0_0) := (blk_cell BK168.out 0).trans rfl
      have hcz44_1 : wc.cell? ⟨gb168, 1, none⟩ = some (.bool false) := (blk_cell BK168.out 1).trans rfl
      have hfz44_0 := blk_frozen BK168.out 0
      have hfz44_1 := blk_frozen BK168.out 1
      go_wp2
      go_ret2
      exact ⟨by first | rfl | (simp [errW_none, errW_some] <;> rfl) | (simp only [← hji41, ← hji43]; first | rfl | (simp [errW_none, errW_some] <;> rfl)) | (simp [*, errW_none, errW_some] <;> rfl), by repeat (first | (with_reducible first | exact HB.out | apply below_alloc | apply pw_below_drewN | apply below_drew1 | refine below_set ?_ GE168.out) | exact HB.out)⟩

end Go.Proofs.YthkcdmkimnockaaDoor.PWord
