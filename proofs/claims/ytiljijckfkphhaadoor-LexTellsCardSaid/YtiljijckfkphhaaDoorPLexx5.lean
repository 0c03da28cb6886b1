-- PRINTED by print.py (a twelfth state) out of the translation. Not trusted: Lean checks it.
import Derived.Test.YtiljijckfkphhaaDoorPLexx0
import Derived.Test.YtiljijckfkphhaaDoorPLexx4
namespace Go.Proofs.YtiljijckfkphhaaDoor.PLex
open Go.RowKit Go.Proofs.YtiljijckfkphhaaDoorW.PrintWords Go.Proofs.YtiljijckfkphhaaDoorW.PrintLast Go.Proofs.YtiljijckfkphhaaDoorW.PrintMore
attribute [local go_sem] max2_int min2_int max_two min_two max_three min_three max_four min_four   -- for this text's walks alone
set_option linter.unusedVariables false
set_option linter.unusedSimpArgs false

/-! ### spokeshaveref2_gap: function 19 -/
mutual
def spokeshaveref2_gap.l0 : Nat → ByteArray → Int → Option (Int × Bool)
 | 0, _, _ => none
 | k + 1, x0, x1 => if x1 < (x0.size : Int) then (if 0 ≤ x1 then (if (bt x0 x1) = 32 then (spokeshaveref2_gap.j1 k x0 x1 true) else (if (bt x0 x1) = 9 then (spokeshaveref2_gap.j1 k x0 x1 true) else (if (bt x0 x1) = 10 then (spokeshaveref2_gap.j1 k x0 x1 true) else (spokeshaveref2_gap.j1 k x0 x1 ((bt x0 x1) == 13))))) else (none)) else (some (x1, true))
def spokeshaveref2_gap.j1 : Nat → ByteArray → Int → Bool → Option (Int × Bool)
 | 0, _, _, _ => none
 | k + 1, x0, x1, x12 => if x12 = true then (spokeshaveref2_gap.l0 k x0 (wrap64 (x1 + 1))) else (if 0 ≤ x1 then (if x1 < (x0.size : Int) then (if (bt x0 x1) = 47 then ((spokeshaveref2_at.f x0 (wrap64 (x1 + 1))).bind fun t149 => (spokeshaveref2_gap.j2 k x0 x1 (t149 == 47))) else (spokeshaveref2_gap.j2 k x0 x1 false)) else (none)) else (none))
def spokeshaveref2_gap.j2 : Nat → ByteArray → Int → Bool → Option (Int × Bool)
 | 0, _, _, _ => none
 | k + 1, x0, x1, x37 => if x37 = true then (spokeshaveref2_gap.l1 k x0 x1) else (if 0 ≤ x1 then (if x1 < (x0.size : Int) then (if (bt x0 x1) = 47 then ((spokeshaveref2_at.f x0 (wrap64 (x1 + 1))).bind fun t150 => (spokeshaveref2_gap.j4 k x0 x1 (t150 == 42))) else (spokeshaveref2_gap.j4 k x0 x1 false)) else (none)) else (none))
def spokeshaveref2_gap.l1 : Nat → ByteArray → Int → Option (Int × Bool)
 | 0, _, _ => none
 | k + 1, x0, x1 => if x1 < (x0.size : Int) then (if 0 ≤ x1 then (if (bt x0 x1) = 10 then (spokeshaveref2_gap.l0 k x0 x1) else (if (bt x0 x1) = 13 then (spokeshaveref2_gap.l0 k x0 x1) else (spokeshaveref2_gap.l1 k x0 (wrap64 (x1 + 1))))) else (none)) else (spokeshaveref2_gap.l0 k x0 x1)
def spokeshaveref2_gap.j4 : Nat → ByteArray → Int → Bool → Option (Int × Bool)
 | 0, _, _, _ => none
 | k + 1, x0, x1, x67 => if x67 = true then (spokeshaveref2_gap.l2 k x0 x1 (wrap64 (x1 + 2))) else (some (x1, true))
def spokeshaveref2_gap.l2 : Nat → ByteArray → Int → Int → Option (Int × Bool)
 | 0, _, _, _ => none
 | k + 1, x0, x1, x6 => if (wrap64 (x6 + 1)) < (x0.size : Int) then (if 0 ≤ x6 then (if x6 < (x0.size : Int) then (if (bt x0 x6) = 42 then (if 0 ≤ (wrap64 (x6 + 1)) then (if (bt x0 (wrap64 (x6 + 1))) = 47 then (if (wrap64 (x6 + 1)) ≥ (x0.size : Int) then (some (x1, false)) else (spokeshaveref2_gap.l0 k x0 (wrap64 (x6 + 2)))) else (spokeshaveref2_gap.l2 k x0 x1 (wrap64 (x6 + 1)))) else (none)) else (spokeshaveref2_gap.l2 k x0 x1 (wrap64 (x6 + 1)))) else (none)) else (none)) else (if (wrap64 (x6 + 1)) ≥ (x0.size : Int) then (some (x1, false)) else (spokeshaveref2_gap.l0 k x0 (wrap64 (x6 + 2))))
end
def spokeshaveref2_gap.f (k : Nat) (a0 : ByteArray) (a1 : Int) : Option (Int × Bool) := spokeshaveref2_gap.l0 k a0 a1
theorem spokeshaveref2_gap.mono_l : ∀ k, (∀ y0 y1, LeO (spokeshaveref2_gap.l0 k y0 y1) (spokeshaveref2_gap.l0 (k + 1) y0 y1)) ∧ (∀ y0 y1 y2, LeO (spokeshaveref2_gap.j1 k y0 y1 y2) (spokeshaveref2_gap.j1 (k + 1) y0 y1 y2)) ∧ (∀ y0 y1 y2, LeO (spokeshaveref2_gap.j2 k y0 y1 y2) (spokeshaveref2_gap.j2 (k + 1) y0 y1 y2)) ∧ (∀ y0 y1, LeO (spokeshaveref2_gap.l1 k y0 y1) (spokeshaveref2_gap.l1 (k + 1) y0 y1)) ∧ (∀ y0 y1 y2, LeO (spokeshaveref2_gap.j4 k y0 y1 y2) (spokeshaveref2_gap.j4 (k + 1) y0 y1 y2)) ∧ (∀ y0 y1 y2, LeO (spokeshaveref2_gap.l2 k y0 y1 y2) (spokeshaveref2_gap.l2 (k + 1) y0 y1 y2))
 | 0 => ⟨fun _ _ r h => by simp [spokeshaveref2_gap.l0] at h, fun _ _ _ r h => by simp [spokeshaveref2_gap.j1] at h, fun _ _ _ r h => by simp [spokeshaveref2_gap.j2] at h, fun _ _ r h => by simp [spokeshaveref2_gap.l1] at h, fun _ _ _ r h => by simp [spokeshaveref2_gap.j4] at h, fun _ _ _ r h => by simp [spokeshaveref2_gap.l2] at h⟩
 | k + 1 => by
  obtain ⟨ih0, ih1, ih2, ih3, ih4, ih5⟩ := spokeshaveref2_gap.mono_l k
  refine ⟨?_, ?_, ?_, ?_, ?_, ?_⟩
  ·
   intro y0 y1
   unfold spokeshaveref2_gap.l0
   repeat' first
   | (with_reducible exact ih0 _ _)
   | (with_reducible exact ih1 _ _ _)
   | (with_reducible exact ih2 _ _ _)
   | (with_reducible exact ih3 _ _)
   | (with_reducible exact ih4 _ _ _)
   | (with_reducible exact ih5 _ _ _)
   | (with_reducible exact LeO.refl _)
   | (with_reducible exact LeO.none _)
   | (with_reducible refine LeO.ite ?_ ?_)
   | (with_reducible refine LeO.bind ?_ (fun _ => ?_))
   | exact ih0 _ _
   | exact ih1 _ _ _
   | exact ih2 _ _ _
   | exact ih3 _ _
   | exact ih4 _ _ _
   | exact ih5 _ _ _
   | exact LeO.none _
   | refine LeO.ite ?_ ?_
   | refine LeO.bind ?_ (fun _ => ?_)
  ·
   intro y0 y1 y2
   unfold spokeshaveref2_gap.j1
   repeat' first
   | (with_reducible exact ih0 _ _)
   | (with_reducible exact ih1 _ _ _)
   | (with_reducible exact ih2 _ _ _)
   | (with_reducible exact ih3 _ _)
   | (with_reducible exact ih4 _ _ _)
   | (with_reducible exact ih5 _ _ _)
   | (with_reducible exact LeO.refl _)
   | (with_reducible exact LeO.none _)
   | (with_reducible refine LeO.ite ?_ ?_)
   | (with_reducible refine LeO.bind ?_ (fun _ => ?_))
   | exact ih0 _ _
   | exact ih1 _ _ _
   | exact ih2 _ _ _
   | exact ih3 _ _
   | exact ih4 _ _ _
   | exact ih5 _ _ _
   | exact LeO.none _
   | refine LeO.ite ?_ ?_
   | refine LeO.bind ?_ (fun _ => ?_)
  ·
   intro y0 y1 y2
   unfold spokeshaveref2_gap.j2
   repeat' first
   | (with_reducible exact ih0 _ _)
   | (with_reducible exact ih1 _ _ _)
   | (with_reducible exact ih2 _ _ _)
   | (with_reducible exact ih3 _ _)
   | (with_reducible exact ih4 _ _ _)
   | (with_reducible exact ih5 _ _ _)
   | (with_reducible exact LeO.refl _)
   | (with_reducible exact LeO.none _)
   | (with_reducible refine LeO.ite ?_ ?_)
   | (with_reducible refine LeO.bind ?_ (fun _ => ?_))
   | exact ih0 _ _
   | exact ih1 _ _ _
   | exact ih2 _ _ _
   | exact ih3 _ _
   | exact ih4 _ _ _
   | exact ih5 _ _ _
   | exact LeO.none _
   | refine LeO.ite ?_ ?_
   | refine LeO.bind ?_ (fun _ => ?_)
  ·
   intro y0 y1
   unfold spokeshaveref2_gap.l1
   repeat' first
   | (with_reducible exact ih0 _ _)
   | (with_reducible exact ih1 _ _ _)
   | (with_reducible exact ih2 _ _ _)
   | (with_reducible exact ih3 _ _)
   | (with_reducible exact ih4 _ _ _)
   | (with_reducible exact ih5 _ _ _)
   | (with_reducible exact LeO.refl _)
   | (with_reducible exact LeO.none _)
   | (with_reducible refine LeO.ite ?_ ?_)
   | (with_reducible refine LeO.bind ?_ (fun _ => ?_))
   | exact ih0 _ _
   | exact ih1 _ _ _
   | exact ih2 _ _ _
   | exact ih3 _ _
   | exact ih4 _ _ _
   | exact ih5 _ _ _
   | exact LeO.none _
   | refine LeO.ite ?_ ?_
   | refine LeO.bind ?_ (fun _ => ?_)
  ·
   intro y0 y1 y2
   unfold spokeshaveref2_gap.j4
   repeat' first
   | (with_reducible exact ih0 _ _)
   | (with_reducible exact ih1 _ _ _)
   | (with_reducible exact ih2 _ _ _)
   | (with_reducible exact ih3 _ _)
   | (with_reducible exact ih4 _ _ _)
   | (with_reducible exact ih5 _ _ _)
   | (with_reducible exact LeO.refl _)
   | (with_reducible exact LeO.none _)
   | (with_reducible refine LeO.ite ?_ ?_)
   | (with_reducible refine LeO.bind ?_ (fun _ => ?_))
   | exact ih0 _ _
   | exact ih1 _ _ _
   | exact ih2 _ _ _
   | exact ih3 _ _
   | exact ih4 _ _ _
   | exact ih5 _ _ _
   | exact LeO.none _
   | refine LeO.ite ?_ ?_
   | refine LeO.bind ?_ (fun _ => ?_)
  ·
   intro y0 y1 y2
   unfold spokeshaveref2_gap.l2
   repeat' first
   | (with_reducible exact ih0 _ _)
   | (with_reducible exact ih1 _ _ _)
   | (with_reducible exact ih2 _ _ _)
   | (with_reducible exact ih3 _ _)
   | (with_reducible exact ih4 _ _ _)
   | (with_reducible exact ih5 _ _ _)
   | (with_reducible exact LeO.refl _)
   | (with_reducible exact LeO.none _)
   | (with_reducible refine LeO.ite ?_ ?_)
   | (with_reducible refine LeO.bind ?_ (fun _ => ?_))
   | exact ih0 _ _
   | exact ih1 _ _ _
   | exact ih2 _ _ _
   | exact ih3 _ _
   | exact ih4 _ _ _
   | exact ih5 _ _ _
   | exact LeO.none _
   | refine LeO.ite ?_ ?_
   | refine LeO.bind ?_ (fun _ => ?_)
theorem spokeshaveref2_gap.mono : ∀ a0 a1 k, LeO (spokeshaveref2_gap.f k a0 a1) (spokeshaveref2_gap.f (k + 1) a0 a1) := by
 intro a0 a1 k
 obtain ⟨ih0, ih1, ih2, ih3, ih4, ih5⟩ := spokeshaveref2_gap.mono_l k
 unfold spokeshaveref2_gap.f
 repeat' first
   | (with_reducible exact ih0 _ _)
   | (with_reducible exact ih1 _ _ _)
   | (with_reducible exact ih2 _ _ _)
   | (with_reducible exact ih3 _ _)
   | (with_reducible exact ih4 _ _ _)
   | (with_reducible exact ih5 _ _ _)
   | (with_reducible exact LeO.refl _)
   | (with_reducible exact LeO.none _)
   | (with_reducible refine LeO.ite ?_ ?_)
   | (with_reducible refine LeO.bind ?_ (fun _ => ?_))
   | exact ih0 _ _
   | exact ih1 _ _ _
   | exact ih2 _ _ _
   | exact ih3 _ _
   | exact ih4 _ _ _
   | exact ih5 _ _ _
   | exact LeO.none _
   | refine LeO.ite ?_ ?_
   | refine LeO.bind ?_ (fun _ => ?_)
set_option maxHeartbeats 8000000 in
set_option maxRecDepth 100000 in
theorem spokeshaveref2_gap.calls (k : Nat) (a0 : ByteArray) (a1 : Int) (r1 : Int) (r2 : Bool) (w : World) (h : spokeshaveref2_gap.f k a0 a1 = some (r1, r2)) :
  Calls Tryd.prog 19 #[.string a0, .int .i64 a1] w fun e w' => e = .returned (.tuple #[.int .i64 r1, .bool r2]) ∧ Drawn0 w w' := by
 have H : (spokeshaveref2_gap.l0 k a0 a1) = some (r1, r2) := h
 clear h
 have H' := Aside0.mk H
 clear H
 go_enter Tryd.func19, Tryd.ntmps19
 go_wp2
 go_loopg [1] k (fun kq v1 w' => ∃ (x1_1 : Int), v1 = .int .i64 x1_1 ∧ Aside0 (spokeshaveref2_gap.l0 kq a0 x1_1 = some (r1, r2)) ∧ Aside0 (kq ≤ k) ∧ Drawn0 w w')
 case atStart => exact ⟨(a1), (by first | rfl | (simp; done) | (simp [*]; done)), H', ⟨Nat.le_refl _⟩, by repeat (first | exact Drawn0.refl _ | apply Drawn0.step)⟩
 case round =>
  clear H'
  try clear c1
  try clear p2
  obtain ⟨x1_1, rfl, HA, HK1, ⟨m1, rfl⟩⟩ := hrel
  cases gk with
  | zero => exact absurd HA.out (by simp [spokeshaveref2_gap.l0])
  | succ k1 =>
   have H := HA.out
   clear HA
   simp only [spokeshaveref2_gap.l0] at H
   by_cases c3 : x1_1 < (a0.size : Int)
   ·
    rw [if_pos c3] at H
    have c3b0 : decide (x1_1 < (a0.size : Int)) = true := decide_eq_true c3
    clear c3
    have HC4 := Aside0.mk H
    clear H
    go_upto_region 3 with (fail)
    go_cut [12] (fun v12 wc => ∃ (kq : Nat) (x12_3 : Bool), v12 = .bool x12_3 ∧ Aside0 (spokeshaveref2_gap.j1 kq a0 x1_1 x12_3 = some (r1, r2)) ∧ Aside0 (kq ≤ k1) ∧ Drawn0 w wc)
    case first =>
     have H := HC4.out
     clear HC4
     by_cases c5 : 0 ≤ x1_1
     case neg => rw [if_neg c5] at H; exact absurd H (by simp)
     rw [if_pos c5] at H
     have c5b0 : decide (0 ≤ x1_1) = true := decide_eq_true c5
     clear c5
     (first | rw [c5b0] | (simp only [i64_w, i32_w]; rw [c5b0]) | skip)
     by_cases c7 : (bt a0 x1_1) = 32
     ·
      rw [if_pos c7] at H
      have c7b0 : ((bt a0 x1_1) == 32) = true := beq_iff_eq.mpr c7
      have c7b1 : ((bt a0 x1_1) != 32) = false := bne_eq_false_iff_eq.mpr c7
      clear c7
      have H' := Aside0.mk H
      clear H
      have p6 : 0 ≤ (x1_1 : Int) := of_decide_eq_true (by first | (with_reducible assumption) | assumption)
      have q6 : x1_1 < (a0.size : Int) := of_decide_eq_true (by first | (with_reducible assumption) | assumption)
      have hx6 := bt_at a0 x1_1
      replace p6 := eq_true p6
      replace q6 := eq_true q6
      go_wp2
      go_meet
      case rel => exact ⟨_, (true), (by first | rfl | (simp; done) | (simp [*]; done)), H', ⟨by have := HK1.out; first | omega | exact Nat.le_refl _⟩, by repeat (first | exact Drawn0.refl _ | apply Drawn0.step)⟩
     ·
      rw [if_neg c7] at H
      have c7b0 : ((bt a0 x1_1) == 32) = false := beq_eq_false_iff_ne.mpr c7
      have c7b1 : ((bt a0 x1_1) != 32) = true := bne_iff_ne.mpr c7
      by_cases c9 : (bt a0 x1_1) = 9
      ·
       rw [if_pos c9] at H
       have c9b0 : ((bt a0 x1_1) == 9) = true := beq_iff_eq.mpr c9
       have c9b1 : ((bt a0 x1_1) != 9) = false := bne_eq_false_iff_eq.mpr c9
       clear c9
       have H' := Aside0.mk H
       clear H
       have p6 : 0 ≤ (x1_1 : Int) := of_decide_eq_true (by first | (with_reducible assumption) | assumption)
       have q6 : x1_1 < (a0.size : Int) := of_decide_eq_true (by first | (with_reducible assumption) | assumption)
       have hx6 := bt_at a0 x1_1
       replace p6 := eq_true p6
       replace q6 := eq_true q6
       have p8 : 0 ≤ (x1_1 : Int) := of_decide_eq_true (by first | (with_reducible assumption) | assumption)
       have q8 : x1_1 < (a0.size : Int) := of_decide_eq_true (by first | (with_reducible assumption) | assumption)
       have hx8 := bt_at a0 x1_1
       replace p8 := eq_true p8
       replace q8 := eq_true q8
       go_wp2
       go_meet
       case rel => exact ⟨_, (true), (by first | rfl | (simp; done) | (simp [*]; done)), H', ⟨by have := HK1.out; first | omega | exact Nat.le_refl _⟩, by repeat (first | exact Drawn0.refl _ | apply Drawn0.step)⟩
      ·
       rw [if_neg c9] at H
       have c9b0 : ((bt a0 x1_1) == 9) = false := beq_eq_false_iff_ne.mpr c9
       have c9b1 : ((bt a0 x1_1) != 9) = true := bne_iff_ne.mpr c9
       by_cases c11 : (bt a0 x1_1) = 10
       ·
        rw [if_pos c11] at H
        have c11b0 : ((bt a0 x1_1) == 10) = true := beq_iff_eq.mpr c11
        have c11b1 : ((bt a0 x1_1) != 10) = false := bne_eq_false_iff_eq.mpr c11
        clear c11
        have H' := Aside0.mk H
        clear H
        have p6 : 0 ≤ (x1_1 : Int) := of_decide_eq_true (by first | (with_reducible assumption) | assumption)
        have q6 : x1_1 < (a0.size : Int) := of_decide_eq_true (by first | (with_reducible assumption) | assumption)
        have hx6 := bt_at a0 x1_1
        replace p6 := eq_true p6
        replace q6 := eq_true q6
        have p8 : 0 ≤ (x1_1 : Int) := of_decide_eq_true (by first | (with_reducible assumption) | assumption)
        have q8 : x1_1 < (a0.size : Int) := of_decide_eq_true (by first | (with_reducible assumption) | assumption)
        have hx8 := bt_at a0 x1_1
        replace p8 := eq_true p8
        replace q8 := eq_true q8
        have p10 : 0 ≤ (x1_1 : Int) := of_decide_eq_true (by first | (with_reducible assumption) | assumption)
        have q10 : x1_1 < (a0.size : Int) := of_decide_eq_true (by first | (with_reducible assumption) | assumption)
        have hx10 := bt_at a0 x1_1
        replace p10 := eq_true p10
        replace q10 := eq_true q10
        go_wp2
        go_meet
        case rel => exact ⟨_, (true), (by first | rfl | (simp; done) | (simp [*]; done)), H', ⟨by have := HK1.out; first | omega | exact Nat.le_refl _⟩, by repeat (first | exact Drawn0.refl _ | apply Drawn0.step)⟩
       ·
        rw [if_neg c11] at H
        have c11b0 : ((bt a0 x1_1) == 10) = false := beq_eq_false_iff_ne.mpr c11
        have c11b1 : ((bt a0 x1_1) != 10) = true := bne_iff_ne.mpr c11
        have H' := Aside0.mk H
        clear H
        have p6 : 0 ≤ (x1_1 : Int) := of_decide_eq_true (by first | (with_reducible assumption) | assumption)
        have q6 : x1_1 < (a0.size : Int) := of_decide_eq_true (by first | (with_reducible assumption) | assumption)
        have hx6 := bt_at a0 x1_1
        replace p6 := eq_true p6
        replace q6 := eq_true q6
        have p8 : 0 ≤ (x1_1 : Int) := of_decide_eq_true (by first | (with_reducible assumption) | assumption)
        have q8 : x1_1 < (a0.size : Int) := of_decide_eq_true (by first | (with_reducible assumption) | assumption)
        have hx8 := bt_at a0 x1_1
        replace p8 := eq_true p8
        replace q8 := eq_true q8
        have p10 : 0 ≤ (x1_1 : Int) := of_decide_eq_true (by first | (with_reducible assumption) | assumption)
        have q10 : x1_1 < (a0.size : Int) := of_decide_eq_true (by first | (with_reducible assumption) | assumption)
        have hx10 := bt_at a0 x1_1
        replace p10 := eq_true p10
        replace q10 := eq_true q10
        have p12 : 0 ≤ (x1_1 : Int) := of_decide_eq_true (by first | (with_reducible assumption) | assumption)
        have q12 : x1_1 < (a0.size : Int) := of_decide_eq_true (by first | (with_reducible assumption) | assumption)
        have hx12 := bt_at a0 x1_1
        replace p12 := eq_true p12
        replace q12 := eq_true q12
        go_wp2
        go_meet
        case rel => exact ⟨_, (((bt a0 x1_1) == 13)), (by first | rfl | (simp; done) | (simp [*]; done)), H', ⟨by have := HK1.out; first | omega | exact Nat.le_refl _⟩, by repeat (first | exact Drawn0.refl _ | apply Drawn0.step)⟩
    case rest =>
     clear HC4
     try clear c1
     try clear p1
     try clear q1
     try clear hx1
     try clear p2
     try clear c3
     try clear c3b0
     try clear c5
     try clear c5b0
     try clear p6
     try clear q6
     try clear hx6
     try clear c7
     try clear c7b0
     try clear c7b1
     try clear p8
     try clear q8
     try clear hx8
     try clear c9
     try clear c9b0
     try clear c9b1
     try clear p10
     try clear q10
     try clear hx10
     try clear c11
     try clear c11b0
     try clear c11b1
     try clear p12
     try clear q12
     try clear hx12
     try clear p10
     try clear p12
     try clear p2
     try clear p6
     try clear p8
     try clear q10
     try clear q12
     try clear q6
     try clear q8
     obtain ⟨kq, x12_3, rfl, HA, HJ3, ⟨mc3, rfl⟩⟩ := hcut
     cases kq with
     | zero => exact absurd HA.out (by simp [spokeshaveref2_gap.j1])
     | succ kj3 =>
      have H := HA.out
      clear HA
      simp only [spokeshaveref2_gap.j1] at H
      by_cases c13 : x12_3 = true
      ·
       subst c13
       have H1 : (spokeshaveref2_gap.l0 kj3 a0 (wrap64 (x1_1 + 1))) = some (r1, r2) := by rw [if_pos rfl] at H; exact H
       clear H
       have H := H1
       clear H1
       have H' := Aside0.mk H
       clear H
       go_wp2
       go_roundg kj3
       case measure => have := HK1.out; have := HJ3.out; omega
       case rel => exact ⟨(wrap64 (x1_1 + 1)), (by first | rfl | (simp; done) | (simp [*]; done)), H', ⟨by have := HK1.out; have := HJ3.out; omega⟩, by repeat (first | exact Drawn0.refl _ | apply Drawn0.step)⟩
      ·
       replace c13 := Bool.eq_false_iff.mpr c13
       subst c13
       have H1 : (if 0 ≤ x1_1 then (if x1_1 < (a0.size : Int) then (if (bt a0 x1_1) = 47 then ((spokeshaveref2_at.f a0 (wrap64 (x1_1 + 1))).bind fun t149 => (spokeshaveref2_gap.j2 kj3 a0 x1_1 (t149 == 47))) else (spokeshaveref2_gap.j2 kj3 a0 x1_1 false)) else (none)) else (none)) = some (r1, r2) := by rw [if_neg (show ¬ (false = true) by decide)] at H; exact H
       clear H
       have H := H1
       clear H1
       have HC14 := Aside0.mk H
       clear H
       go_upto_region 5 with (fail)
       go_cut [37] (fun v37 wc => ∃ (kq : Nat) (x37_13 : Bool), v37 = .bool x37_13 ∧ Aside0 (spokeshaveref2_gap.j2 kq a0 x1_1 x37_13 = some (r1, r2)) ∧ Aside0 (kq ≤ kj3) ∧ Drawn0 w wc)
       case first =>
        have H := HC14.out
        clear HC14
        by_cases c15 : 0 ≤ x1_1
        case neg => rw [if_neg c15] at H; exact absurd H (by simp)
        rw [if_pos c15] at H
        have c15b0 : decide (0 ≤ x1_1) = true := decide_eq_true c15
        clear c15
        (first | rw [c15b0] | (simp only [i64_w, i32_w]; rw [c15b0]) | skip)
        by_cases c16 : x1_1 < (a0.size : Int)
        case neg => rw [if_neg c16] at H; exact absurd H (by simp)
        rw [if_pos c16] at H
        have c16b0 : decide (x1_1 < (a0.size : Int)) = true := decide_eq_true c16
        clear c16
        by_cases c18 : (bt a0 x1_1) = 47
        ·
         rw [if_pos c18] at H
         have c18b0 : ((bt a0 x1_1) == 47) = true := beq_iff_eq.mpr c18
         have c18b1 : ((bt a0 x1_1) != 47) = false := bne_eq_false_iff_eq.mpr c18
         clear c18
         replace H := Option.bind_eq_some_iff.mp H
         obtain ⟨t149, A190, H⟩ := H
         replace H : (spokeshaveref2_gap.j2 kj3 a0 x1_1 (t149 == 47)) = some (r1, r2) := H
         have A19 := Aside0.mk A190
         clear A190
         have H' := Aside0.mk H
         clear H
         have p17 : 0 ≤ (x1_1 : Int) := of_decide_eq_true (by first | (with_reducible assumption) | assumption)
         have q17 : x1_1 < (a0.size : Int) := of_decide_eq_true (by first | (with_reducible assumption) | assumption)
         have hx17 := bt_at a0 x1_1
         replace p17 := eq_true p17
         replace q17 := eq_true q17
         go_wp2_with (first | (go_at_call 32; (with_reducible refine (spokeshaveref2_at.calls a0 (wrap64 (x1_1 + 1)) t149 _ A19.out).mono ?_); rintro e w' ⟨rfl, ⟨nd, rfl⟩⟩))
         go_meet
         case rel => exact ⟨_, ((t149 == 47)), (by first | rfl | (simp; done) | (simp [*]; done)), H', ⟨by have := HK1.out; have := HJ3.out; first | omega | exact Nat.le_refl _⟩, by repeat (first | exact Drawn0.refl _ | apply Drawn0.step)⟩
        ·
         rw [if_neg c18] at H
         have c18b0 : ((bt a0 x1_1) == 47) = false := beq_eq_false_iff_ne.mpr c18
         have c18b1 : ((bt a0 x1_1) != 47) = true := bne_iff_ne.mpr c18
         have H' := Aside0.mk H
         clear H
         have p17 : 0 ≤ (x1_1 : Int) := of_decide_eq_true (by first | (with_reducible assumption) | assumption)
         have q17 : x1_1 < (a0.size : Int) := of_decide_eq_true (by first | (with_reducible assumption) | assumption)
         have hx17 := bt_at a0 x1_1
         replace p17 := eq_true p17
         replace q17 := eq_true q17
         go_wp2
         go_meet
         case rel => exact ⟨_, (false), (by first | rfl | (simp; done) | (simp [*]; done)), H', ⟨by have := HK1.out; have := HJ3.out; first | omega | exact Nat.le_refl _⟩, by repeat (first | exact Drawn0.refl _ | apply Drawn0.step)⟩
       case rest =>
        clear HC14
        try clear c1
        try clear p1
        try clear q1
        try clear hx1
        try clear p2
        try clear c3
        try clear c3b0
        try clear c5
        try clear c5b0
        try clear p6
        try clear q6
        try clear hx6
        try clear c7
        try clear c7b0
        try clear c7b1
        try clear p8
        try clear q8
        try clear hx8
        try clear c9
        try clear c9b0
        try clear c9b1
        try clear p10
        try clear q10
        try clear hx10
        try clear c11
        try clear c11b0
        try clear c11b1
        try clear p12
        try clear q12
        try clear hx12
        try clear c13
        try clear c15
        try clear c15b0
        try clear c16
        try clear c16b0
        try clear p17
        try clear q17
        try clear hx17
        try clear c18
        try clear c18b0
        try clear c18b1
        try clear c19
        try clear p1
        try clear p10
        try clear p12
        try clear p17
        try clear p2
        try clear p6
        try clear p8
        try clear q1
        try clear q10
        try clear q12
        try clear q17
        try clear q6
        try clear q8
        obtain ⟨kq, x37_13, rfl, HA, HJ13, ⟨mc13, rfl⟩⟩ := hcut
        cases kq with
        | zero => exact absurd HA.out (by simp [spokeshaveref2_gap.j2])
        | succ kj13 =>
         have H := HA.out
         clear HA
         simp only [spokeshaveref2_gap.j2] at H
         by_cases c20 : x37_13 = true
         ·
          subst c20
          have H1 : (spokeshaveref2_gap.l1 kj13 a0 x1_1) = some (r1, r2) := by rw [if_pos rfl] at H; exact H
          clear H
          have H := H1
          clear H1
          have H' := Aside0.mk H
          clear H
          go_wp2
          go_loopg [1] kj13 (fun kq v1 w' => ∃ (x1_4 : Int), v1 = .int .i64 x1_4 ∧ Aside0 (spokeshaveref2_gap.l1 kq a0 x1_4 = some (r1, r2)) ∧ Aside0 (kq ≤ kj13) ∧ Drawn0 w w')
          case atStart => exact ⟨(x1_1), (by first | rfl | (simp; done) | (simp [*]; done)), H', ⟨Nat.le_refl _⟩, by repeat (first | exact Drawn0.refl _ | apply Drawn0.step)⟩
          case round =>
           clear H'
           try clear c1
           try clear p1
           try clear q1
           try clear hx1
           try clear c2
           try clear p2
           try clear c3
           try clear c3b0
           try clear c5
           try clear c5b0
           try clear p6
           try clear q6
           try clear hx6
           try clear c7
           try clear c7b0
           try clear c7b1
           try clear p8
           try clear q8
           try clear hx8
           try clear c9
           try clear c9b0
           try clear c9b1
           try clear p10
           try clear q10
           try clear hx10
           try clear c11
           try clear c11b0
           try clear c11b1
           try clear p12
           try clear q12
           try clear hx12
           try clear c13
           try clear c15
           try clear c15b0
           try clear c16
           try clear c16b0
           try clear p17
           try clear q17
           try clear hx17
           try clear c18
           try clear c18b0
           try clear c18b1
           try clear c19
           try clear c20
           try clear p1
           try clear p10
           try clear p12
           try clear p17
           try clear p2
           try clear p6
           try clear p8
           try clear q1
           try clear q10
           try clear q12
           try clear q17
           try clear q6
           try clear q8
           obtain ⟨x1_4, rfl, HA, HK4, ⟨m4, rfl⟩⟩ := hrel
           cases gk with
           | zero => exact absurd HA.out (by simp [spokeshaveref2_gap.l1])
           | succ k4 =>
            have H := HA.out
            clear HA
            simp only [spokeshaveref2_gap.l1] at H
            by_cases c21 : x1_4 < (a0.size : Int)
            ·
             rw [if_pos c21] at H
             have c21b0 : decide (x1_4 < (a0.size : Int)) = true := decide_eq_true c21
             clear c21
             by_cases c22 : 0 ≤ x1_4
             case neg => rw [if_neg c22] at H; exact absurd H (by simp)
             rw [if_pos c22] at H
             have c22b0 : decide (0 ≤ x1_4) = true := decide_eq_true c22
             clear c22
             by_cases c24 : (bt a0 x1_4) = 10
             ·
              rw [if_pos c24] at H
              have c24b0 : ((bt a0 x1_4) == 10) = true := beq_iff_eq.mpr c24
              have c24b1 : ((bt a0 x1_4) != 10) = false := bne_eq_false_iff_eq.mpr c24
              clear c24
              have H' := Aside0.mk H
              clear H
              have p23 : 0 ≤ (x1_4 : Int) := of_decide_eq_true (by first | (with_reducible assumption) | assumption)
              have q23 : x1_4 < (a0.size : Int) := of_decide_eq_true (by first | (with_reducible assumption) | assumption)
              have hx23 := bt_at a0 x1_4
              replace p23 := eq_true p23
              replace q23 := eq_true q23
              go_wp2
              go_roundg k4
              case measure => have := HK1.out; have := HJ3.out; have := HJ13.out; have := HK4.out; omega
              case rel => exact ⟨(x1_4), (by first | rfl | (simp; done) | (simp [*]; done)), H', ⟨by have := HK1.out; have := HJ3.out; have := HJ13.out; have := HK4.out; omega⟩, by repeat (first | exact Drawn0.refl _ | apply Drawn0.step)⟩
             ·
              rw [if_neg c24] at H
              have c24b0 : ((bt a0 x1_4) == 10) = false := beq_eq_false_iff_ne.mpr c24
              have c24b1 : ((bt a0 x1_4) != 10) = true := bne_iff_ne.mpr c24
              by_cases c26 : (bt a0 x1_4) = 13
              ·
               rw [if_pos c26] at H
               have c26b0 : ((bt a0 x1_4) == 13) = true := beq_iff_eq.mpr c26
               have c26b1 : ((bt a0 x1_4) != 13) = false := bne_eq_false_iff_eq.mpr c26
               clear c26
               have H' := Aside0.mk H
               clear H
               have p23 : 0 ≤ (x1_4 : Int) := of_decide_eq_true (by first | (with_reducible assumption) | assumption)
               have q23 : x1_4 < (a0.size : Int) := of_decide_eq_true (by first | (with_reducible assumption) | assumption)
               have hx23 := bt_at a0 x1_4
               replace p23 := eq_true p23
               replace q23 := eq_true q23
               have p25 : 0 ≤ (x1_4 : Int) := of_decide_eq_true (by first | (with_reducible assumption) | assumption)
               have q25 : x1_4 < (a0.size : Int) := of_decide_eq_true (by first | (with_reducible assumption) | assumption)
               have hx25 := bt_at a0 x1_4
               replace p25 := eq_true p25
               replace q25 := eq_true q25
               go_wp2
               go_roundg k4
               case measure => have := HK1.out; have := HJ3.out; have := HJ13.out; have := HK4.out; omega
               case rel => exact ⟨(x1_4), (by first | rfl | (simp; done) | (simp [*]; done)), H', ⟨by have := HK1.out; have := HJ3.out; have := HJ13.out; have := HK4.out; omega⟩, by repeat (first | exact Drawn0.refl _ | apply Drawn0.step)⟩
              ·
               rw [if_neg c26] at H
               have c26b0 : ((bt a0 x1_4) == 13) = false := beq_eq_false_iff_ne.mpr c26
               have c26b1 : ((bt a0 x1_4) != 13) = true := bne_iff_ne.mpr c26
               have H' := Aside0.mk H
               clear H
               have p23 : 0 ≤ (x1_4 : Int) := of_decide_eq_true (by first | (with_reducible assumption) | assumption)
               have q23 : x1_4 < (a0.size : Int) := of_decide_eq_true (by first | (with_reducible assumption) | assumption)
               have hx23 := bt_at a0 x1_4
               replace p23 := eq_true p23
               replace q23 := eq_true q23
               have p25 : 0 ≤ (x1_4 : Int) := of_decide_eq_true (by first | (with_reducible assumption) | assumption)
               have q25 : x1_4 < (a0.size : Int) := of_decide_eq_true (by first | (with_reducible assumption) | assumption)
               have hx25 := bt_at a0 x1_4
               replace p25 := eq_true p25
               replace q25 := eq_true q25
               go_wp2
               go_roundg k4
               case measure => have := HK1.out; have := HJ3.out; have := HJ13.out; have := HK4.out; omega
               case rel => exact ⟨(wrap64 (x1_4 + 1)), (by first | rfl | (simp; done) | (simp [*]; done)), H', ⟨by have := HK1.out; have := HJ3.out; have := HJ13.out; have := HK4.out; omega⟩, by repeat (first | exact Drawn0.refl _ | apply Drawn0.step)⟩
            ·
             rw [if_neg c21] at H
             have c21b0 : decide (x1_4 < (a0.size : Int)) = false := decide_eq_false c21
             clear c21
             have H' := Aside0.mk H
             clear H
             go_wp2
             go_roundg k4
             case measure => have := HK1.out; have := HJ3.out; have := HJ13.out; have := HK4.out; omega
             case rel => exact ⟨(x1_4), (by first | rfl | (simp; done) | (simp [*]; done)), H', ⟨by have := HK1.out; have := HJ3.out; have := HJ13.out; have := HK4.out; omega⟩, by repeat (first | exact Drawn0.refl _ | apply Drawn0.step)⟩
         ·
          replace c20 := Bool.eq_false_iff.mpr c20
          subst c20
          have H1 : (if 0 ≤ x1_1 then (if x1_1 < (a0.size : Int) then (if (bt a0 x1_1) = 47 then ((spokeshaveref2_at.f a0 (wrap64 (x1_1 + 1))).bind fun t150 => (spokeshaveref2_gap.j4 kj13 a0 x1_1 (t150 == 42))) else (spokeshaveref2_gap.j4 kj13 a0 x1_1 false)) else (none)) else (none)) = some (r1, r2) := by rw [if_neg (show ¬ (false = true) by decide)] at H; exact H
          clear H
          have H := H1
          clear H1
          have HC27 := Aside0.mk H
          clear H
          go_upto_region 8 with (fail)
          go_cut [67] (fun v67 wc => ∃ (kq : Nat) (x67_26 : Bool), v67 = .bool x67_26 ∧ Aside0 (spokeshaveref2_gap.j4 kq a0 x1_1 x67_26 = some (r1, r2)) ∧ Aside0 (kq ≤ kj13) ∧ Drawn0 w wc)
          case first =>
           have H := HC27.out
           clear HC27
           by_cases c28 : 0 ≤ x1_1
           case neg => rw [if_neg c28] at H; exact absurd H (by simp)
           rw [if_pos c28] at H
           have c28b0 : decide (0 ≤ x1_1) = true := decide_eq_true c28
           clear c28
           (first | rw [c28b0] | (simp only [i64_w, i32_w]; rw [c28b0]) | skip)
           by_cases c29 : x1_1 < (a0.size : Int)
           case neg => rw [if_neg c29] at H; exact absurd H (by simp)
           rw [if_pos c29] at H
           have c29b0 : decide (x1_1 < (a0.size : Int)) = true := decide_eq_true c29
           clear c29
           by_cases c31 : (bt a0 x1_1) = 47
           ·
            rw [if_pos c31] at H
            have c31b0 : ((bt a0 x1_1) == 47) = true := beq_iff_eq.mpr c31
            have c31b1 : ((bt a0 x1_1) != 47) = false := bne_eq_false_iff_eq.mpr c31
            clear c31
            replace H := Option.bind_eq_some_iff.mp H
            obtain ⟨t150, A320, H⟩ := H
            replace H : (spokeshaveref2_gap.j4 kj13 a0 x1_1 (t150 == 42)) = some (r1, r2) := H
            have A32 := Aside0.mk A320
            clear A320
            have H' := Aside0.mk H
            clear H
            have p30 : 0 ≤ (x1_1 : Int) := of_decide_eq_true (by first | (with_reducible assumption) | assumption)
            have q30 : x1_1 < (a0.size : Int) := of_decide_eq_true (by first | (with_reducible assumption) | assumption)
            have hx30 := bt_at a0 x1_1
            replace p30 := eq_true p30
            replace q30 := eq_true q30
            go_wp2_with (first | (go_at_call 32; (with_reducible refine (spokeshaveref2_at.calls a0 (wrap64 (x1_1 + 1)) t150 _ A32.out).mono ?_); rintro e w' ⟨rfl, ⟨nd, rfl⟩⟩))
            go_meet
            case rel => exact ⟨_, ((t150 == 42)), (by first | rfl | (simp; done) | (simp [*]; done)), H', ⟨by have := HK1.out; have := HJ3.out; have := HJ13.out; first | omega | exact Nat.le_refl _⟩, by repeat (first | exact Drawn0.refl _ | apply Drawn0.step)⟩
           ·
            rw [if_neg c31] at H
            have c31b0 : ((bt a0 x1_1) == 47) = false := beq_eq_false_iff_ne.mpr c31
            have c31b1 : ((bt a0 x1_1) != 47) = true := bne_iff_ne.mpr c31
            have H' := Aside0.mk H
            clear H
            have p30 : 0 ≤ (x1_1 : Int) := of_decide_eq_true (by first | (with_reducible assumption) | assumption)
            have q30 : x1_1 < (a0.size : Int) := of_decide_eq_true (by first | (with_reducible assumption) | assumption)
            have hx30 := bt_at a0 x1_1
            replace p30 := eq_true p30
            replace q30 := eq_true q30
            go_wp2
            go_meet
            case rel => exact ⟨_, (false), (by first | rfl | (simp; done) | (simp [*]; done)), H', ⟨by have := HK1.out; have := HJ3.out; have := HJ13.out; first | omega | exact Nat.le_refl _⟩, by repeat (first | exact Drawn0.refl _ | apply Drawn0.step)⟩
          case rest =>
           clear HC27
           try clear c1
           try clear p1
           try clear q1
           try clear hx1
           try clear c2
           try clear p2
           try clear q2
           try clear hx2
           try clear c3
           try clear c3b0
           try clear p3
           try clear q3
           try clear hx3
           try clear c5
           try clear c5b0
           try clear p6
           try clear q6
           try clear hx6
           try clear c7
           try clear c7b0
           try clear c7b1
           try clear p8
           try clear q8
           try clear hx8
           try clear c9
           try clear c9b0
           try clear c9b1
           try clear p10
           try clear q10
           try clear hx10
           try clear c11
           try clear c11b0
           try clear c11b1
           try clear p12
           try clear q12
           try clear hx12
           try clear c13
           try clear c15
           try clear c15b0
           try clear c16
           try clear c16b0
           try clear p17
           try clear q17
           try clear hx17
           try clear c18
           try clear c18b0
           try clear c18b1
           try clear c19
           try clear c20
           try clear c21
           try clear c21b0
           try clear c22
           try clear c22b0
           try clear p23
           try clear q23
           try clear hx23
           try clear c24
           try clear c24b0
           try clear c24b1
           try clear p25
           try clear q25
           try clear hx25
           try clear c26
           try clear c26b0
           try clear c26b1
           try clear c28
           try clear c28b0
           try clear c29
           try clear c29b0
           try clear p30
           try clear q30
           try clear hx30
           try clear c31
           try clear c31b0
           try clear c31b1
           try clear p1
           try clear p10
           try clear p12
           try clear p17
           try clear p2
           try clear p23
           try clear p25
           try clear p30
           try clear p6
           try clear p8
           try clear q1
           try clear q10
           try clear q12
           try clear q17
           try clear q23
           try clear q25
           try clear q30
           try clear q6
           try clear q8
           obtain ⟨kq, x67_26, rfl, HA, HJ26, ⟨mc26, rfl⟩⟩ := hcut
           cases kq with
           | zero => exact absurd HA.out (by simp [spokeshaveref2_gap.j4])
           | succ kj26 =>
            have H := HA.out
            clear HA
            simp only [spokeshaveref2_gap.j4] at H
            by_cases c33 : x67_26 = true
            ·
             subst c33
             have H1 : (spokeshaveref2_gap.l2 kj26 a0 x1_1 (wrap64 (x1_1 + 2))) = some (r1, r2) := by rw [if_pos rfl] at H; exact H
             clear H
             have H := H1
             clear H1
             have H' := Aside0.mk H
             clear H
             go_wp2
             go_loopg [6] kj26 (fun kq v6 w' => ∃ (x6_5 : Int), v6 = .int .i64 x6_5 ∧ Aside0 (spokeshaveref2_gap.l2 kq a0 x1_1 x6_5 = some (r1, r2)) ∧ Aside0 (kq ≤ kj26) ∧ Drawn0 w w')
             case atStart => exact ⟨(wrap64 (x1_1 + 2)), (by first | rfl | (simp; done) | (simp [*]; done)), H', ⟨Nat.le_refl _⟩, by repeat (first | exact Drawn0.refl _ | apply Drawn0.step)⟩
             case round =>
              clear H'
              try clear c1
              try clear p1
              try clear q1
              try clear hx1
              try clear c2
              try clear p2
              try clear q2
              try clear hx2
              try clear c3
              try clear c3b0
              try clear p3
              try clear q3
              try clear hx3
              try clear c5
              try clear c5b0
              try clear p6
              try clear q6
              try clear hx6
              try clear c7
              try clear c7b0
              try clear c7b1
              try clear p8
              try clear q8
              try clear hx8
              try clear c9
              try clear c9b0
              try clear c9b1
              try clear p10
              try clear q10
              try clear hx10
              try clear c11
              try clear c11b0
              try clear c11b1
              try clear p12
              try clear q12
              try clear hx12
              try clear c13
              try clear c15
              try clear c15b0
              try clear c16
              try clear c16b0
              try clear p17
              try clear q17
              try clear hx17
              try clear c18
              try clear c18b0
              try clear c18b1
              try clear c19
              try clear c20
              try clear c21
              try clear c21b0
              try clear c22
              try clear c22b0
              try clear p23
              try clear q23
              try clear hx23
              try clear c24
              try clear c24b0
              try clear c24b1
              try clear p25
              try clear q25
              try clear hx25
              try clear c26
              try clear c26b0
              try clear c26b1
              try clear c28
              try clear c28b0
              try clear c29
              try clear c29b0
              try clear p30
              try clear q30
              try clear hx30
              try clear c31
              try clear c31b0
              try clear c31b1
              try clear c33
              try clear p1
              try clear p10
              try clear p12
              try clear p17
              try clear p2
              try clear p23
              try clear p25
              try clear p3
              try clear p30
              try clear p6
              try clear p8
              try clear q1
              try clear q10
              try clear q12
              try clear q17
              try clear q2
              try clear q23
              try clear q25
              try clear q3
              try clear q30
              try clear q6
              try clear q8
              obtain ⟨x6_5, rfl, HA, HK5, ⟨m5, rfl⟩⟩ := hrel
              cases gk with
              | zero => exact absurd HA.out (by simp [spokeshaveref2_gap.l2])
              | succ k5 =>
               have H := HA.out
               clear HA
               simp only [spokeshaveref2_gap.l2] at H
               by_cases c34 : (wrap64 (x6_5 + 1)) < (a0.size : Int)
               ·
                rw [if_pos c34] at H
                have c34b0 : decide ((wrap64 (x6_5 + 1)) < (a0.size : Int)) = true := decide_eq_true c34
                clear c34
                by_cases c35 : 0 ≤ x6_5
                case neg => rw [if_neg c35] at H; exact absurd H (by simp)
                rw [if_pos c35] at H
                have c35b0 : decide (0 ≤ x6_5) = true := decide_eq_true c35
                clear c35
                by_cases c36 : x6_5 < (a0.size : Int)
                case neg => rw [if_neg c36] at H; exact absurd H (by simp)
                rw [if_pos c36] at H
                have c36b0 : decide (x6_5 < (a0.size : Int)) = true := decide_eq_true c36
                clear c36
                by_cases c38 : (bt a0 x6_5) = 42
                ·
                 rw [if_pos c38] at H
                 have c38b0 : ((bt a0 x6_5) == 42) = true := beq_iff_eq.mpr c38
                 have c38b1 : ((bt a0 x6_5) != 42) = false := bne_eq_false_iff_eq.mpr c38
                 clear c38
                 obtain ⟨ji39, hji39⟩ : ∃ j_ : Int, (wrap64 (x6_5 + 1)) = j_ := ⟨_, rfl⟩
                 replace H : (if 0 ≤ (ji39) then (if (bt a0 (ji39)) = 47 then (if (ji39) ≥ (a0.size : Int) then (some (x1_1, false)) else (spokeshaveref2_gap.l0 k5 a0 (wrap64 (x6_5 + 2)))) else (spokeshaveref2_gap.l2 k5 a0 x1_1 ji39)) else (none)) = some (r1, r2) := by first | (rw [hji39] at H; exact H) | (simp only [hji39] at H ⊢; exact H)
                 (try rw [hji39] at c34b0)
                 have hji39w : (IntKind.i64.wrap (x6_5 + 1)) = ji39 := (i64_w _).trans hji39
                 by_cases c40 : 0 ≤ (ji39)
                 case neg => rw [if_neg c40] at H; exact absurd H (by simp)
                 rw [if_pos c40] at H
                 have c40b0 : decide (0 ≤ (ji39)) = true := decide_eq_true c40
                 clear c40
                 by_cases c42 : (bt a0 (ji39)) = 47
                 ·
                  rw [if_pos c42] at H
                  have c42b0 : ((bt a0 (ji39)) == 47) = true := beq_iff_eq.mpr c42
                  have c42b1 : ((bt a0 (ji39)) != 47) = false := bne_eq_false_iff_eq.mpr c42
                  clear c42
                  by_cases c43 : (ji39) ≥ (a0.size : Int)
                  ·
                   rw [if_pos c43] at H
                   have c43b0 : decide ((a0.size : Int) ≤ (ji39)) = true := decide_eq_true c43
                   clear c43
                   simp only [Option.some.injEq, Prod.mk.injEq] at H
                   obtain ⟨rfl, rfl⟩ := H
                   have p37 : 0 ≤ (x6_5 : Int) := of_decide_eq_true (by first | (with_reducible assumption) | assumption)
                   have q37 : x6_5 < (a0.size : Int) := of_decide_eq_true (by first | (with_reducible assumption) | assumption)
                   have hx37 := bt_at a0 x6_5
                   replace p37 := eq_true p37
                   replace q37 := eq_true q37
                   have p41 : 0 ≤ ((ji39) : Int) := of_decide_eq_true (by first | (with_reducible assumption) | assumption)
                   have q41 : (ji39) < (a0.size : Int) := of_decide_eq_true (by first | (with_reducible assumption) | assumption)
                   have hx41 := bt_at a0 (ji39)
                   replace p41 := eq_true p41
                   replace q41 := eq_true q41
                   go_wp2
                   go_ret2
                   exact ⟨by first | rfl | (simp; done) | (simp only [← hji39] <;> (first | rfl | simp)) | (simp [*]; done), by repeat (first | exact Drawn0.refl _ | apply Drawn0.step)⟩
                  ·
                   rw [if_neg c43] at H
                   have c43b0 : decide ((a0.size : Int) ≤ (ji39)) = false := decide_eq_false c43
                   clear c43
                   have H' := Aside0.mk H
                   clear H
                   have p37 : 0 ≤ (x6_5 : Int) := of_decide_eq_true (by first | (with_reducible assumption) | assumption)
                   have q37 : x6_5 < (a0.size : Int) := of_decide_eq_true (by first | (with_reducible assumption) | assumption)
                   have hx37 := bt_at a0 x6_5
                   replace p37 := eq_true p37
                   replace q37 := eq_true q37
                   have p41 : 0 ≤ ((ji39) : Int) := of_decide_eq_true (by first | (with_reducible assumption) | assumption)
                   have q41 : (ji39) < (a0.size : Int) := of_decide_eq_true (by first | (with_reducible assumption) | assumption)
                   have hx41 := bt_at a0 (ji39)
                   replace p41 := eq_true p41
                   replace q41 := eq_true q41
                   go_wp2
                   go_roundg k5
                   case measure => have := HK1.out; have := HJ3.out; have := HJ13.out; have := HJ26.out; have := HK5.out; omega
                   case rel => exact ⟨(wrap64 (x6_5 + 2)), (by first | rfl | (simp; done) | (simp [*]; done)), H', ⟨by have := HK1.out; have := HJ3.out; have := HJ13.out; have := HJ26.out; have := HK5.out; omega⟩, by repeat (first | exact Drawn0.refl _ | apply Drawn0.step)⟩
                 ·
                  rw [if_neg c42] at H
                  have c42b0 : ((bt a0 (ji39)) == 47) = false := beq_eq_false_iff_ne.mpr c42
                  have c42b1 : ((bt a0 (ji39)) != 47) = true := bne_iff_ne.mpr c42
                  have H' := Aside0.mk H
                  clear H
                  have p37 : 0 ≤ (x6_5 : Int) := of_decide_eq_true (by first | (with_reducible assumption) | assumption)
                  have q37 : x6_5 < (a0.size : Int) := of_decide_eq_true (by first | (with_reducible assumption) | assumption)
                  have hx37 := bt_at a0 x6_5
                  replace p37 := eq_true p37
                  replace q37 := eq_true q37
                  have p41 : 0 ≤ ((ji39) : Int) := of_decide_eq_true (by first | (with_reducible assumption) | assumption)
                  have q41 : (ji39) < (a0.size : Int) := of_decide_eq_true (by first | (with_reducible assumption) | assumption)
                  have hx41 := bt_at a0 (ji39)
                  replace p41 := eq_true p41
                  replace q41 := eq_true q41
                  go_wp2
                  go_roundg k5
                  case measure => have := HK1.out; have := HJ3.out; have := HJ13.out; have := HJ26.out; have := HK5.out; omega
                  case rel => exact ⟨(ji39), (by first | rfl | (simp; done) | (simp only [← hji39] <;> (first | rfl | simp)) | (simp [*]; done)), H', ⟨by have := HK1.out; have := HJ3.out; have := HJ13.out; have := HJ26.out; have := HK5.out; omega⟩, by repeat (first | exact Drawn0.refl _ | apply Drawn0.step)⟩
                ·
                 rw [if_neg c38] at H
                 have c38b0 : ((bt a0 x6_5) == 42) = false := beq_eq_false_iff_ne.mpr c38
                 have c38b1 : ((bt a0 x6_5) != 42) = true := bne_iff_ne.mpr c38
                 have H' := Aside0.mk H
                 clear H
                 have p37 : 0 ≤ (x6_5 : Int) := of_decide_eq_true (by first | (with_reducible assumption) | assumption)
                 have q37 : x6_5 < (a0.size : Int) := of_decide_eq_true (by first | (with_reducible assumption) | assumption)
                 have hx37 := bt_at a0 x6_5
                 replace p37 := eq_true p37
                 replace q37 := eq_true q37
                 go_wp2
                 go_roundg k5
                 case measure => have := HK1.out; have := HJ3.out; have := HJ13.out; have := HJ26.out; have := HK5.out; omega
                 case rel => exact ⟨(wrap64 (x6_5 + 1)), (by first | rfl | (simp; done) | (simp [*]; done)), H', ⟨by have := HK1.out; have := HJ3.out; have := HJ13.out; have := HJ26.out; have := HK5.out; omega⟩, by repeat (first | exact Drawn0.refl _ | apply Drawn0.step)⟩
               ·
                rw [if_neg c34] at H
                have c34b0 : decide ((wrap64 (x6_5 + 1)) < (a0.size : Int)) = false := decide_eq_false c34
                clear c34
                by_cases c44 : (wrap64 (x6_5 + 1)) ≥ (a0.size : Int)
                ·
                 rw [if_pos c44] at H
                 have c44b0 : decide ((a0.size : Int) ≤ (wrap64 (x6_5 + 1))) = true := decide_eq_true c44
                 clear c44
                 simp only [Option.some.injEq, Prod.mk.injEq] at H
                 obtain ⟨rfl, rfl⟩ := H
                 go_wp2
                 go_ret2
                 exact ⟨by first | rfl | (simp; done) | (simp [*]; done), by repeat (first | exact Drawn0.refl _ | apply Drawn0.step)⟩
                ·
                 rw [if_neg c44] at H
                 have c44b0 : decide ((a0.size : Int) ≤ (wrap64 (x6_5 + 1))) = false := decide_eq_false c44
                 clear c44
                 have H' := Aside0.mk H
                 clear H
                 go_wp2
                 go_roundg k5
                 case measure => have := HK1.out; have := HJ3.out; have := HJ13.out; have := HJ26.out; have := HK5.out; omega
                 case rel => exact ⟨(wrap64 (x6_5 + 2)), (by first | rfl | (simp; done) | (simp [*]; done)), H', ⟨by have := HK1.out; have := HJ3.out; have := HJ13.out; have := HJ26.out; have := HK5.out; omega⟩, by repeat (first | exact Drawn0.refl _ | apply Drawn0.step)⟩
            ·
             replace c33 := Bool.eq_false_iff.mpr c33
             subst c33
             have H1 : (some (x1_1, true)) = some (r1, r2) := by rw [if_neg (show ¬ (false = true) by decide)] at H; exact H
             clear H
             have H := H1
             clear H1
             simp only [Option.some.injEq, Prod.mk.injEq] at H
             obtain ⟨rfl, rfl⟩ := H
             go_wp2
             go_ret2
             exact ⟨by first | rfl | (simp; done) | (simp [*]; done), by repeat (first | exact Drawn0.refl _ | apply Drawn0.step)⟩
   ·
    rw [if_neg c3] at H
    have c3b0 : decide (x1_1 < (a0.size : Int)) = false := decide_eq_false c3
    clear c3
    simp only [Option.some.injEq, Prod.mk.injEq] at H
    obtain ⟨rfl, rfl⟩ := H
    go_wp2
    go_ret2
    exact ⟨by first | rfl | (simp; done) | (simp [*]; done), by repeat (first | exact Drawn0.refl _ | apply Drawn0.step)⟩

end Go.Proofs.YtiljijckfkphhaaDoor.PLex
