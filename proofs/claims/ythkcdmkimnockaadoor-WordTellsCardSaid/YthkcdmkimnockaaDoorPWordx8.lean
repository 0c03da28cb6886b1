-- PRINTED by print.py (a twelfth state) out of the translation. Not trusted: Lean checks it.
import Derived.Test.YthkcdmkimnockaaDoorPWordx0
import Derived.Test.YthkcdmkimnockaaDoorPWordx2
import Derived.Test.YthkcdmkimnockaaDoorPWordx6
import Derived.Test.YthkcdmkimnockaaDoorPWordx7
namespace Go.Proofs.YthkcdmkimnockaaDoor.PWord
open Go.RowKit Go.Proofs.YthkcdmkimnockaaDoorW.PrintWords Go.Proofs.YthkcdmkimnockaaDoorW.PrintLast Go.Proofs.YthkcdmkimnockaaDoorW.PrintMore
attribute [local go_sem] max2_int min2_int max_two min_two max_three min_three max_four min_four   -- for this text's walks alone
set_option linter.unusedVariables false
set_option linter.unusedSimpArgs false

/-! ### spokeshaveref1_Binary: function 15 -/
mutual
def spokeshaveref1_Binary.j0 : Nat → Int → Int → Int → Bool → Int → Bool → Option (Int × Bool)
 | 0, _, _, _, _, _, _ => none
 | k + 1, x1, x2, x3, x27, x171000, x171001 => if x27 = true then (some (0, false)) else ((spokeshaveref1_Wrap.f x171000 x171001 x2).bind fun t171 => (if x1 = 11 then (spokeshaveref1_Binary.j1 k x1 t171 x3 true x171000 x171001) else (if x1 = 12 then (spokeshaveref1_Binary.j1 k x1 t171 x3 true x171000 x171001) else (spokeshaveref1_Binary.j1 k x1 t171 x3 (x1 == 13) x171000 x171001))))
def spokeshaveref1_Binary.j1 : Nat → Int → Int → Int → Bool → Int → Bool → Option (Int × Bool)
 | 0, _, _, _, _, _, _ => none
 | k + 1, x1, x2, x3, x40, x171000, x171001 => if x40 = true then ((spokeshaveref1_shift.f k x171000 x171001 (x1 == 11) x2 x3).bind fun bt172 => (some (bt172.1, bt172.2))) else ((spokeshaveref1_Wrap.f x171000 x171001 x3).bind fun t174 => (if x1 = 4 then (spokeshaveref1_Binary.j2 k x1 x2 t174 x1 (x1 == 4) x171000 x171001) else (spokeshaveref1_Binary.j2 k x1 x2 t174 x1 (x1 == 6) x171000 x171001)))
def spokeshaveref1_Binary.j6 : Nat → Int → Int → Int → Int → Bool → Option (Int × Bool)
 | 0, _, _, _, _, _ => none
 | k + 1, x1, x2, x3, x171000, x171001 => if x171001 = true then ((spokeshaveref1_over.f x1 x2 x3).bind fun t175 => (if t175 = true then (spokeshaveref1_Binary.j7 k x1 x2 x3 true x171000 x171001) else (if x1 = 5 then (if x3 = (-1) then ((spokeshaveref1_Wrap.f x171000 x171001 (wrap64 (-x2))).bind fun t176 => (if t176 = x2 then (spokeshaveref1_Binary.j7 k x1 x2 x3 (x2 != 0) x171000 x171001) else (spokeshaveref1_Binary.j7 k x1 x2 x3 false x171000 x171001))) else (spokeshaveref1_Binary.j7 k x1 x2 x3 false x171000 x171001)) else (spokeshaveref1_Binary.j7 k x1 x2 x3 false x171000 x171001)))) else (if x1 = 5 then (if x3 = (-1) then ((spokeshaveref1_Wrap.f x171000 x171001 (wrap64 (-x2))).bind fun t177 => (if t177 = x2 then (spokeshaveref1_Binary.j7 k x1 x2 x3 (x2 != 0) x171000 x171001) else (spokeshaveref1_Binary.j7 k x1 x2 x3 false x171000 x171001))) else (spokeshaveref1_Binary.j7 k x1 x2 x3 false x171000 x171001)) else (spokeshaveref1_Binary.j7 k x1 x2 x3 false x171000 x171001))
def spokeshaveref1_Binary.j7 : Nat → Int → Int → Int → Bool → Int → Bool → Option (Int × Bool)
 | 0, _, _, _, _, _, _ => none
 | k + 1, x1, x2, x3, x104, x171000, x171001 => if x104 = true then (some (0, false)) else ((spokeshaveref1_Plain.f k x1 x2 x3).bind fun bt178 => (if bt178.2 = true then (if x171001 = true then ((spokeshaveref1_Wrap.f x171000 x171001 bt178.1).bind fun t180 => (if t180 = bt178.1 then ((spokeshaveref1_Wrap.f x171000 x171001 bt178.1).bind fun t181 => (some (t181, true))) else (some (0, false)))) else ((spokeshaveref1_Wrap.f x171000 x171001 bt178.1).bind fun t182 => (some (t182, true)))) else (some (0, false))))
def spokeshaveref1_Binary.j2 : Nat → Int → Int → Int → Int → Bool → Int → Bool → Option (Int × Bool)
 | 0, _, _, _, _, _, _, _ => none
 | k + 1, x1, x2, x3, x52, x53, x171000, x171001 => if x53 = true then (if x171001 = true then (spokeshaveref1_Binary.j6 k 4 x2 x3 x171000 x171001) else (spokeshaveref1_Binary.j6 k 6 x2 x3 x171000 x171001)) else (if x52 = 5 then (spokeshaveref1_Binary.j3 k x1 x2 x3 x52 (x52 == 5) x171000 x171001) else (spokeshaveref1_Binary.j3 k x1 x2 x3 x52 (x52 == 7) x171000 x171001))
def spokeshaveref1_Binary.j3 : Nat → Int → Int → Int → Int → Bool → Int → Bool → Option (Int × Bool)
 | 0, _, _, _, _, _, _, _ => none
 | k + 1, x1, x2, x3, x52, x59, x171000, x171001 => if x59 = true then (if x171001 = true then (spokeshaveref1_Binary.j6 k 5 x2 x3 x171000 x171001) else (spokeshaveref1_Binary.j6 k 7 x2 x3 x171000 x171001)) else (if x52 = 16 then (spokeshaveref1_Binary.j4 k x1 x2 x3 x52 (x52 == 16) x171000 x171001) else (spokeshaveref1_Binary.j4 k x1 x2 x3 x52 (x52 == 18) x171000 x171001))
def spokeshaveref1_Binary.j4 : Nat → Int → Int → Int → Int → Bool → Int → Bool → Option (Int × Bool)
 | 0, _, _, _, _, _, _, _ => none
 | k + 1, x1, x2, x3, x52, x65, x171000, x171001 => if x65 = true then (if x171001 = true then (spokeshaveref1_Binary.j6 k 16 x2 x3 x171000 x171001) else (spokeshaveref1_Binary.j6 k 18 x2 x3 x171000 x171001)) else (if x52 = 17 then (spokeshaveref1_Binary.j5 k x1 x2 x3 (x52 == 17) x171000 x171001) else (spokeshaveref1_Binary.j5 k x1 x2 x3 (x52 == 19) x171000 x171001))
def spokeshaveref1_Binary.j5 : Nat → Int → Int → Int → Bool → Int → Bool → Option (Int × Bool)
 | 0, _, _, _, _, _, _ => none
 | k + 1, x1, x2, x3, x71, x171000, x171001 => if x71 = true then (if x171001 = true then (spokeshaveref1_Binary.j6 k 17 x2 x3 x171000 x171001) else (spokeshaveref1_Binary.j6 k 19 x2 x3 x171000 x171001)) else (spokeshaveref1_Binary.j6 k x1 x2 x3 x171000 x171001)
end
def spokeshaveref1_Binary.f (k : Nat) (a0_0 : Int) (a0_1 : Bool) (a1 : Int) (a2 : Int) (a3 : Int) : Option (Int × Bool) := if a0_0 = 32 then (if a1 < 1 then (spokeshaveref1_Binary.j0 k a1 a2 a3 true a0_0 a0_1) else (spokeshaveref1_Binary.j0 k a1 a2 a3 (decide (a1 ≥ 20)) a0_0 a0_1)) else (if a0_0 = 64 then (if a1 < 1 then (spokeshaveref1_Binary.j0 k a1 a2 a3 true a0_0 a0_1) else (spokeshaveref1_Binary.j0 k a1 a2 a3 (decide (a1 ≥ 20)) a0_0 a0_1)) else (spokeshaveref1_Binary.j0 k a1 a2 a3 true a0_0 a0_1))
theorem spokeshaveref1_Binary.mono_l : ∀ k, (∀ y0 y1 y2 y3 y4 y5, LeO (spokeshaveref1_Binary.j0 k y0 y1 y2 y3 y4 y5) (spokeshaveref1_Binary.j0 (k + 1) y0 y1 y2 y3 y4 y5)) ∧ (∀ y0 y1 y2 y3 y4 y5, LeO (spokeshaveref1_Binary.j1 k y0 y1 y2 y3 y4 y5) (spokeshaveref1_Binary.j1 (k + 1) y0 y1 y2 y3 y4 y5)) ∧ (∀ y0 y1 y2 y3 y4, LeO (spokeshaveref1_Binary.j6 k y0 y1 y2 y3 y4) (spokeshaveref1_Binary.j6 (k + 1) y0 y1 y2 y3 y4)) ∧ (∀ y0 y1 y2 y3 y4 y5, LeO (spokeshaveref1_Binary.j7 k y0 y1 y2 y3 y4 y5) (spokeshaveref1_Binary.j7 (k + 1) y0 y1 y2 y3 y4 y5)) ∧ (∀ y0 y1 y2 y3 y4 y5 y6, LeO (spokeshaveref1_Binary.j2 k y0 y1 y2 y3 y4 y5 y6) (spokeshaveref1_Binary.j2 (k + 1) y0 y1 y2 y3 y4 y5 y6)) ∧ (∀ y0 y1 y2 y3 y4 y5 y6, LeO (spokeshaveref1_Binary.j3 k y0 y1 y2 y3 y4 y5 y6) (spokeshaveref1_Binary.j3 (k + 1) y0 y1 y2 y3 y4 y5 y6)) ∧ (∀ y0 y1 y2 y3 y4 y5 y6, LeO (spokeshaveref1_Binary.j4 k y0 y1 y2 y3 y4 y5 y6) (spokeshaveref1_Binary.j4 (k + 1) y0 y1 y2 y3 y4 y5 y6)) ∧ (∀ y0 y1 y2 y3 y4 y5, LeO (spokeshaveref1_Binary.j5 k y0 y1 y2 y3 y4 y5) (spokeshaveref1_Binary.j5 (k + 1) y0 y1 y2 y3 y4 y5))
 | 0 => ⟨fun _ _ _ _ _ _ r h => by simp [spokeshaveref1_Binary.j0] at h, fun _ _ _ _ _ _ r h => by simp [spokeshaveref1_Binary.j1] at h, fun _ _ _ _ _ r h => by simp [spokeshaveref1_Binary.j6] at h, fun _ _ _ _ _ _ r h => by simp [spokeshaveref1_Binary.j7] at h, fun _ _ _ _ _ _ _ r h => by simp [spokeshaveref1_Binary.j2] at h, fun _ _ _ _ _ _ _ r h => by simp [spokeshaveref1_Binary.j3] at h, fun _ _ _ _ _ _ _ r h => by simp [spokeshaveref1_Binary.j4] at h, fun _ _ _ _ _ _ r h => by simp [spokeshaveref1_Binary.j5] at h⟩
 | k + 1 => by
  obtain ⟨ih0, ih1, ih2, ih3, ih4, ih5, ih6, ih7⟩ := spokeshaveref1_Binary.mono_l k
  refine ⟨?_, ?_, ?_, ?_, ?_, ?_, ?_, ?_⟩
  ·
   intro y0 y1 y2 y3 y4 y5
   unfold spokeshaveref1_Binary.j0
   repeat' first
   | (with_reducible exact ih0 _ _ _ _ _ _)
   | (with_reducible exact ih1 _ _ _ _ _ _)
   | (with_reducible exact ih2 _ _ _ _ _)
   | (with_reducible exact ih3 _ _ _ _ _ _)
   | (with_reducible exact ih4 _ _ _ _ _ _ _)
   | (with_reducible exact ih5 _ _ _ _ _ _ _)
   | (with_reducible exact ih6 _ _ _ _ _ _ _)
   | (with_reducible exact ih7 _ _ _ _ _ _)
   | (with_reducible exact spokeshaveref1_Plain.mono _ _ _ _)
   | (with_reducible exact spokeshaveref1_shift.mono _ _ _ _ _ _)
   | (with_reducible exact LeO.refl _)
   | (with_reducible exact LeO.none _)
   | (with_reducible refine LeO.ite ?_ ?_)
   | (with_reducible refine LeO.bind ?_ (fun _ => ?_))
   | exact ih0 _ _ _ _ _ _
   | exact ih1 _ _ _ _ _ _
   | exact ih2 _ _ _ _ _
   | exact ih3 _ _ _ _ _ _
   | exact ih4 _ _ _ _ _ _ _
   | exact ih5 _ _ _ _ _ _ _
   | exact ih6 _ _ _ _ _ _ _
   | exact ih7 _ _ _ _ _ _
   | exact spokeshaveref1_Plain.mono _ _ _ _
   | exact spokeshaveref1_shift.mono _ _ _ _ _ _
   | exact LeO.none _
   | refine LeO.ite ?_ ?_
   | refine LeO.bind ?_ (fun _ => ?_)
  ·
   intro y0 y1 y2 y3 y4 y5
   unfold spokeshaveref1_Binary.j1
   repeat' first
   | (with_reducible exact ih0 _ _ _ _ _ _)
   | (with_reducible exact ih1 _ _ _ _ _ _)
   | (with_reducible exact ih2 _ _ _ _ _)
   | (with_reducible exact ih3 _ _ _ _ _ _)
   | (with_reducible exact ih4 _ _ _ _ _ _ _)
   | (with_reducible exact ih5 _ _ _ _ _ _ _)
   | (with_reducible exact ih6 _ _ _ _ _ _ _)
   | (with_reducible exact ih7 _ _ _ _ _ _)
   | (with_reducible exact spokeshaveref1_Plain.mono _ _ _ _)
   | (with_reducible exact spokeshaveref1_shift.mono _ _ _ _ _ _)
   | (with_reducible exact LeO.refl _)
   | (with_reducible exact LeO.none _)
   | (with_reducible refine LeO.ite ?_ ?_)
   | (with_reducible refine LeO.bind ?_ (fun _ => ?_))
   | exact ih0 _ _ _ _ _ _
   | exact ih1 _ _ _ _ _ _
   | exact ih2 _ _ _ _ _
   | exact ih3 _ _ _ _ _ _
   | exact ih4 _ _ _ _ _ _ _
   | exact ih5 _ _ _ _ _ _ _
   | exact ih6 _ _ _ _ _ _ _
   | exact ih7 _ _ _ _ _ _
   | exact spokeshaveref1_Plain.mono _ _ _ _
   | exact spokeshaveref1_shift.mono _ _ _ _ _ _
   | exact LeO.none _
   | refine LeO.ite ?_ ?_
   | refine LeO.bind ?_ (fun _ => ?_)
  ·
   intro y0 y1 y2 y3 y4
   unfold spokeshaveref1_Binary.j6
   repeat' first
   | (with_reducible exact ih0 _ _ _ _ _ _)
   | (with_reducible exact ih1 _ _ _ _ _ _)
   | (with_reducible exact ih2 _ _ _ _ _)
   | (with_reducible exact ih3 _ _ _ _ _ _)
   | (with_reducible exact ih4 _ _ _ _ _ _ _)
   | (with_reducible exact ih5 _ _ _ _ _ _ _)
   | (with_reducible exact ih6 _ _ _ _ _ _ _)
   | (with_reducible exact ih7 _ _ _ _ _ _)
   | (with_reducible exact spokeshaveref1_Plain.mono _ _ _ _)
   | (with_reducible exact spokeshaveref1_shift.mono _ _ _ _ _ _)
   | (with_reducible exact LeO.refl _)
   | (with_reducible exact LeO.none _)
   | (with_reducible refine LeO.ite ?_ ?_)
   | (with_reducible refine LeO.bind ?_ (fun _ => ?_))
   | exact ih0 _ _ _ _ _ _
   | exact ih1 _ _ _ _ _ _
   | exact ih2 _ _ _ _ _
   | exact ih3 _ _ _ _ _ _
   | exact ih4 _ _ _ _ _ _ _
   | exact ih5 _ _ _ _ _ _ _
   | exact ih6 _ _ _ _ _ _ _
   | exact ih7 _ _ _ _ _ _
   | exact spokeshaveref1_Plain.mono _ _ _ _
   | exact spokeshaveref1_shift.mono _ _ _ _ _ _
   | exact LeO.none _
   | refine LeO.ite ?_ ?_
   | refine LeO.bind ?_ (fun _ => ?_)
  ·
   intro y0 y1 y2 y3 y4 y5
   unfold spokeshaveref1_Binary.j7
   repeat' first
   | (with_reducible exact ih0 _ _ _ _ _ _)
   | (with_reducible exact ih1 _ _ _ _ _ _)
   | (with_reducible exact ih2 _ _ _ _ _)
   | (with_reducible exact ih3 _ _ _ _ _ _)
   | (with_reducible exact ih4 _ _ _ _ _ _ _)
   | (with_reducible exact ih5 _ _ _ _ _ _ _)
   | (with_reducible exact ih6 _ _ _ _ _ _ _)
   | (with_reducible exact ih7 _ _ _ _ _ _)
   | (with_reducible exact spokeshaveref1_Plain.mono _ _ _ _)
   | (with_reducible exact spokeshaveref1_shift.mono _ _ _ _ _ _)
   | (with_reducible exact LeO.refl _)
   | (with_reducible exact LeO.none _)
   | (with_reducible refine LeO.ite ?_ ?_)
   | (with_reducible refine LeO.bind ?_ (fun _ => ?_))
   | exact ih0 _ _ _ _ _ _
   | exact ih1 _ _ _ _ _ _
   | exact ih2 _ _ _ _ _
   | exact ih3 _ _ _ _ _ _
   | exact ih4 _ _ _ _ _ _ _
   | exact ih5 _ _ _ _ _ _ _
   | exact ih6 _ _ _ _ _ _ _
   | exact ih7 _ _ _ _ _ _
   | exact spokeshaveref1_Plain.mono _ _ _ _
   | exact spokeshaveref1_shift.mono _ _ _ _ _ _
   | exact LeO.none _
   | refine LeO.ite ?_ ?_
   | refine LeO.bind ?_ (fun _ => ?_)
  ·
   intro y0 y1 y2 y3 y4 y5 y6
   unfold spokeshaveref1_Binary.j2
   repeat' first
   | (with_reducible exact ih0 _ _ _ _ _ _)
   | (with_reducible exact ih1 _ _ _ _ _ _)
   | (with_reducible exact ih2 _ _ _ _ _)
   | (with_reducible exact ih3 _ _ _ _ _ _)
   | (with_reducible exact ih4 _ _ _ _ _ _ _)
   | (with_reducible exact ih5 _ _ _ _ _ _ _)
   | (with_reducible exact ih6 _ _ _ _ _ _ _)
   | (with_reducible exact ih7 _ _ _ _ _ _)
   | (with_reducible exact spokeshaveref1_Plain.mono _ _ _ _)
   | (with_reducible exact spokeshaveref1_shift.mono _ _ _ _ _ _)
   | (with_reducible exact LeO.refl _)
   | (with_reducible exact LeO.none _)
   | (with_reducible refine LeO.ite ?_ ?_)
   | (with_reducible refine LeO.bind ?_ (fun _ => ?_))
   | exact ih0 _ _ _ _ _ _
   | exact ih1 _ _ _ _ _ _
   | exact ih2 _ _ _ _ _
   | exact ih3 _ _ _ _ _ _
   | exact ih4 _ _ _ _ _ _ _
   | exact ih5 _ _ _ _ _ _ _
   | exact ih6 _ _ _ _ _ _ _
   | exact ih7 _ _ _ _ _ _
   | exact spokeshaveref1_Plain.mono _ _ _ _
   | exact spokeshaveref1_shift.mono _ _ _ _ _ _
   | exact LeO.none _
   | refine LeO.ite ?_ ?_
   | refine LeO.bind ?_ (fun _ => ?_)
  ·
   intro y0 y1 y2 y3 y4 y5 y6
   unfold spokeshaveref1_Binary.j3
   repeat' first
   | (with_reducible exact ih0 _ _ _ _ _ _)
   | (with_reducible exact ih1 _ _ _ _ _ _)
   | (with_reducible exact ih2 _ _ _ _ _)
   | (with_reducible exact ih3 _ _ _ _ _ _)
   | (with_reducible exact ih4 _ _ _ _ _ _ _)
   | (with_reducible exact ih5 _ _ _ _ _ _ _)
   | (with_reducible exact ih6 _ _ _ _ _ _ _)
   | (with_reducible exact ih7 _ _ _ _ _ _)
   | (with_reducible exact spokeshaveref1_Plain.mono _ _ _ _)
   | (with_reducible exact spokeshaveref1_shift.mono _ _ _ _ _ _)
   | (with_reducible exact LeO.refl _)
   | (with_reducible exact LeO.none _)
   | (with_reducible refine LeO.ite ?_ ?_)
   | (with_reducible refine LeO.bind ?_ (fun _ => ?_))
   | exact ih0 _ _ _ _ _ _
   | exact ih1 _ _ _ _ _ _
   | exact ih2 _ _ _ _ _
   | exact ih3 _ _ _ _ _ _
   | exact ih4 _ _ _ _ _ _ _
   | exact ih5 _ _ _ _ _ _ _
   | exact ih6 _ _ _ _ _ _ _
   | exact ih7 _ _ _ _ _ _
   | exact spokeshaveref1_Plain.mono _ _ _ _
   | exact spokeshaveref1_shift.mono _ _ _ _ _ _
   | exact LeO.none _
   | refine LeO.ite ?_ ?_
   | refine LeO.bind ?_ (fun _ => ?_)
  ·
   intro y0 y1 y2 y3 y4 y5 y6
   unfold spokeshaveref1_Binary.j4
   repeat' first
   | (with_reducible exact ih0 _ _ _ _ _ _)
   | (with_reducible exact ih1 _ _ _ _ _ _)
   | (with_reducible exact ih2 _ _ _ _ _)
   | (with_reducible exact ih3 _ _ _ _ _ _)
   | (with_reducible exact ih4 _ _ _ _ _ _ _)
   | (with_reducible exact ih5 _ _ _ _ _ _ _)
   | (with_reducible exact ih6 _ _ _ _ _ _ _)
   | (with_reducible exact ih7 _ _ _ _ _ _)
   | (with_reducible exact spokeshaveref1_Plain.mono _ _ _ _)
   | (with_reducible exact spokeshaveref1_shift.mono _ _ _ _ _ _)
   | (with_reducible exact LeO.refl _)
   | (with_reducible exact LeO.none _)
   | (with_reducible refine LeO.ite ?_ ?_)
   | (with_reducible refine LeO.bind ?_ (fun _ => ?_))
   | exact ih0 _ _ _ _ _ _
   | exact ih1 _ _ _ _ _ _
   | exact ih2 _ _ _ _ _
   | exact ih3 _ _ _ _ _ _
   | exact ih4 _ _ _ _ _ _ _
   | exact ih5 _ _ _ _ _ _ _
   | exact ih6 _ _ _ _ _ _ _
   | exact ih7 _ _ _ _ _ _
   | exact spokeshaveref1_Plain.mono _ _ _ _
   | exact spokeshaveref1_shift.mono _ _ _ _ _ _
   | exact LeO.none _
   | refine LeO.ite ?_ ?_
   | refine LeO.bind ?_ (fun _ => ?_)
  ·
   intro y0 y1 y2 y3 y4 y5
   unfold spokeshaveref1_Binary.j5
   repeat' first
   | (with_reducible exact ih0 _ _ _ _ _ _)
   | (with_reducible exact ih1 _ _ _ _ _ _)
   | (with_reducible exact ih2 _ _ _ _ _)
   | (with_reducible exact ih3 _ _ _ _ _ _)
   | (with_reducible exact ih4 _ _ _ _ _ _ _)
   | (with_reducible exact ih5 _ _ _ _ _ _ _)
   | (with_reducible exact ih6 _ _ _ _ _ _ _)
   | (with_reducible exact ih7 _ _ _ _ _ _)
   | (with_reducible exact spokeshaveref1_Plain.mono _ _ _ _)
   | (with_reducible exact spokeshaveref1_shift.mono _ _ _ _ _ _)
   | (with_reducible exact LeO.refl _)
   | (with_reducible exact LeO.none _)
   | (with_reducible refine LeO.ite ?_ ?_)
   | (with_reducible refine LeO.bind ?_ (fun _ => ?_))
   | exact ih0 _ _ _ _ _ _
   | exact ih1 _ _ _ _ _ _
   | exact ih2 _ _ _ _ _
   | exact ih3 _ _ _ _ _ _
   | exact ih4 _ _ _ _ _ _ _
   | exact ih5 _ _ _ _ _ _ _
   | exact ih6 _ _ _ _ _ _ _
   | exact ih7 _ _ _ _ _ _
   | exact spokeshaveref1_Plain.mono _ _ _ _
   | exact spokeshaveref1_shift.mono _ _ _ _ _ _
   | exact LeO.none _
   | refine LeO.ite ?_ ?_
   | refine LeO.bind ?_ (fun _ => ?_)
theorem spokeshaveref1_Binary.mono : ∀ a0 a1 a2 a3 a4 k, LeO (spokeshaveref1_Binary.f k a0 a1 a2 a3 a4) (spokeshaveref1_Binary.f (k + 1) a0 a1 a2 a3 a4) := by
 intro a0 a1 a2 a3 a4 k
 obtain ⟨ih0, ih1, ih2, ih3, ih4, ih5, ih6, ih7⟩ := spokeshaveref1_Binary.mono_l k
 unfold spokeshaveref1_Binary.f
 repeat' first
   | (with_reducible exact ih0 _ _ _ _ _ _)
   | (with_reducible exact ih1 _ _ _ _ _ _)
   | (with_reducible exact ih2 _ _ _ _ _)
   | (with_reducible exact ih3 _ _ _ _ _ _)
   | (with_reducible exact ih4 _ _ _ _ _ _ _)
   | (with_reducible exact ih5 _ _ _ _ _ _ _)
   | (with_reducible exact ih6 _ _ _ _ _ _ _)
   | (with_reducible exact ih7 _ _ _ _ _ _)
   | (with_reducible exact spokeshaveref1_Plain.mono _ _ _ _)
   | (with_reducible exact spokeshaveref1_shift.mono _ _ _ _ _ _)
   | (with_reducible exact LeO.refl _)
   | (with_reducible exact LeO.none _)
   | (with_reducible refine LeO.ite ?_ ?_)
   | (with_reducible refine LeO.bind ?_ (fun _ => ?_))
   | exact ih0 _ _ _ _ _ _
   | exact ih1 _ _ _ _ _ _
   | exact ih2 _ _ _ _ _
   | exact ih3 _ _ _ _ _ _
   | exact ih4 _ _ _ _ _ _ _
   | exact ih5 _ _ _ _ _ _ _
   | exact ih6 _ _ _ _ _ _ _
   | exact ih7 _ _ _ _ _ _
   | exact spokeshaveref1_Plain.mono _ _ _ _
   | exact spokeshaveref1_shift.mono _ _ _ _ _ _
   | exact LeO.none _
   | refine LeO.ite ?_ ?_
   | refine LeO.bind ?_ (fun _ => ?_)
set_option maxHeartbeats 8000000 in
set_option maxRecDepth 100000 in
theorem spokeshaveref1_Binary.calls (k : Nat) (a0_0 : Int) (a0_1 : Bool) (a1 : Int) (a2 : Int) (a3 : Int) (r1 : Int) (r2 : Bool) (w : World) (h : spokeshaveref1_Binary.f k a0_0 a0_1 a1 a2 a3 = some (r1, r2)) :
  Calls Tryd.prog 15 #[.agg #[.int .i64 a0_0, .bool a0_1], .int .i64 a1, .int .i64 a2, .int .i64 a3] w fun e w' => e = .returned (.tuple #[.int .i64 r1, .bool r2]) ∧ Below w.heap.size w w' := by
 have hu26 := Tryd.underlying26
 have HB := Aside0.mk (Below.refl w.heap.size w)
 have H : (if a0_0 = 32 then (if a1 < 1 then (spokeshaveref1_Binary.j0 k a1 a2 a3 true a0_0 a0_1) else (spokeshaveref1_Binary.j0 k a1 a2 a3 (decide (a1 ≥ 20)) a0_0 a0_1)) else (if a0_0 = 64 then (if a1 < 1 then (spokeshaveref1_Binary.j0 k a1 a2 a3 true a0_0 a0_1) else (spokeshaveref1_Binary.j0 k a1 a2 a3 (decide (a1 ≥ 20)) a0_0 a0_1)) else (spokeshaveref1_Binary.j0 k a1 a2 a3 true a0_0 a0_1))) = some (r1, r2) := h
 clear h
 have HC5 := Aside0.mk H
 clear H
 go_enter Tryd.func15, Tryd.ntmps15
 go_upto_region 1 with (first | ((with_reducible refine gate_dst (N := 4) rfl ?_); refine box_event ?hg (N := 4) ?hd (cs := #[.int .i64 a0_0, .bool a0_1]) (t := 26) ?hr ?_; (case hd => rfl); (case hg => rfl); (case hr => first | (go_simp; done) | (go_simp; rfl)); intro gb170 hg w6 hbox hb; have n0_ := Aside0.mk (below_step (by repeat (first | (with_reducible first | exact HB.out | apply below_alloc | apply pw_below_drewN | apply below_drew1) | exact HB.out)) hb); have n1_ := Aside0.mk (hbox); have n2_ := Aside0.mk ((by rw [hg]; exact (below_size (by repeat (first | (with_reducible first | exact HB.out | apply below_alloc | apply pw_below_drewN | apply below_drew1) | exact HB.out))) : w.heap.size ≤ gb170)); have n3_ := Aside0.mk ((by rw [hg]; exact (below_size (by repeat (first | (with_reducible first | exact HB.out | apply below_alloc | apply pw_below_drewN | apply below_drew1) | exact HB.out))) : w.heap.size ≤ gb170)); clear HB; have HB := n0_; have BK170 := n1_; have GW170 := n2_; have GE170 := n3_; clear n0_ n1_ n2_ n3_; clear hb hbox hg))
 (try simp only [Act.put, List.setIfInBounds_toArray, List.set_cons_zero, List.set_cons_succ])
 go_cut [27] (fun v27 wc => ∃ (kq : Nat) (x27_4 : Bool), v27 = .bool x27_4 ∧ Aside0 (spokeshaveref1_Binary.j0 kq a1 a2 a3 x27_4 a0_0 a0_1 = some (r1, r2)) ∧ Aside0 (kq ≤ k) ∧ Aside0 (wc.heap[gb170]? = some (.cells #[.int .i64 a0_0, .bool a0_1] 26 (0, 0))) ∧ Aside0 (Below w.heap.size w wc))
 case first =>
  have H := HC5.out
  clear HC5
  by_cases c7 : a0_0 = 32
  ·
   rw [if_pos c7] at H
   have c7b0 : (a0_0 == 32) = true := beq_iff_eq.mpr c7
   have c7b1 : (a0_0 != 32) = false := bne_eq_false_iff_eq.mpr c7
   clear c7
   (first | rw [c7b0] | (simp only [i64_w, i32_w]; rw [c7b0]) | skip)
   by_cases c8 : a1 < 1
   ·
    rw [if_pos c8] at H
    have c8b0 : decide (a1 < 1) = true := decide_eq_true c8
    clear c8
    have H' := Aside0.mk H
    clear H
    have hcz9_0 : w6.cell? ⟨gb170, 0, none⟩ = some (.int .i64 a0_0) := (blk_cell BK170.out 0).trans rfl
    have hcz9_1 : w6.cell? ⟨gb170, 1, none⟩ = some (.bool a0_1) := (blk_cell BK170.out 1).trans rfl
    have hfz9_0 := blk_frozen BK170.out 0
    have hfz9_1 := blk_frozen BK170.out 1
    go_wp2
    go_meet
    case rel => exact ⟨_, (true), (by first | rfl | (simp; done) | (simp [*]; done)), H', ⟨by first | omega | exact Nat.le_refl _⟩, ⟨by (with_reducible repeat (first | refine blk_drewN ?_ _ | refine blk_drew ?_ | refine blk_alloc ?_ _)); exact BK170.out⟩, ⟨by repeat (first | (with_reducible first | exact HB.out | apply below_alloc | apply pw_below_drewN | apply below_drew1 | refine below_set ?_ GE170.out) | exact HB.out)⟩⟩
   ·
    rw [if_neg c8] at H
    have c8b0 : decide (a1 < 1) = false := decide_eq_false c8
    clear c8
    have H' := Aside0.mk H
    clear H
    have hcz10_0 : w6.cell? ⟨gb170, 0, none⟩ = some (.int .i64 a0_0) := (blk_cell BK170.out 0).trans rfl
    have hcz10_1 : w6.cell? ⟨gb170, 1, none⟩ = some (.bool a0_1) := (blk_cell BK170.out 1).trans rfl
    have hfz10_0 := blk_frozen BK170.out 0
    have hfz10_1 := blk_frozen BK170.out 1
    go_wp2
    go_meet
    case rel => exact ⟨_, (decide (a1 ≥ 20)), (by first | rfl | (simp; done) | (simp [*]; done)), H', ⟨by first | omega | exact Nat.le_refl _⟩, ⟨by (with_reducible repeat (first | refine blk_drewN ?_ _ | refine blk_drew ?_ | refine blk_alloc ?_ _)); exact BK170.out⟩, ⟨by repeat (first | (with_reducible first | exact HB.out | apply below_alloc | apply pw_below_drewN | apply below_drew1 | refine below_set ?_ GE170.out) | exact HB.out)⟩⟩
  ·
   rw [if_neg c7] at H
   have c7b0 : (a0_0 == 32) = false := beq_eq_false_iff_ne.mpr c7
   have c7b1 : (a0_0 != 32) = true := bne_iff_ne.mpr c7
   (first | rw [c7b0] | (simp only [i64_w, i32_w]; rw [c7b0]) | skip)
   by_cases c11 : a0_0 = 64
   ·
    rw [if_pos c11] at H
    have c11b0 : (a0_0 == 64) = true := beq_iff_eq.mpr c11
    have c11b1 : (a0_0 != 64) = false := bne_eq_false_iff_eq.mpr c11
    clear c11
    by_cases c12 : a1 < 1
    ·
     rw [if_pos c12] at H
     have c12b0 : decide (a1 < 1) = true := decide_eq_true c12
     clear c12
     have H' := Aside0.mk H
     clear H
     have hcz13_0 : w6.cell? ⟨gb170, 0, none⟩ = some (.int .i64 a0_0) := (blk_cell BK170.out 0).trans rfl
     have hcz13_1 : w6.cell? ⟨gb170, 1, none⟩ = some (.bool a0_1) := (blk_cell BK170.out 1).trans rfl
     have hfz13_0 := blk_frozen BK170.out 0
     have hfz13_1 := blk_frozen BK170.out 1
     go_wp2
     go_meet
     case rel => exact ⟨_, (true), (by first | rfl | (simp; done) | (simp [*]; done)), H', ⟨by first | omega | exact Nat.le_refl _⟩, ⟨by (with_reducible repeat (first | refine blk_drewN ?_ _ | refine blk_drew ?_ | refine blk_alloc ?_ _)); exact BK170.out⟩, ⟨by repeat (first | (with_reducible first | exact HB.out | apply below_alloc | apply pw_below_drewN | apply below_drew1 | refine below_set ?_ GE170.out) | exact HB.out)⟩⟩
    ·
     rw [if_neg c12] at H
     have c12b0 : decide (a1 < 1) = false := decide_eq_false c12
     clear c12
     have H' := Aside0.mk H
     clear H
     have hcz14_0 : w6.cell? ⟨gb170, 0, none⟩ = some (.int .i64 a0_0) := (blk_cell BK170.out 0).trans rfl
     have hcz14_1 : w6.cell? ⟨gb170, 1, none⟩ = some (.bool a0_1) := (blk_cell BK170.out 1).trans rfl
     have hfz14_0 := blk_frozen BK170.out 0
     have hfz14_1 := blk_frozen BK170.out 1
     go_wp2
     go_meet
     case rel => exact ⟨_, (decide (a1 ≥ 20)), (by first | rfl | (simp; done) | (simp [*]; done)), H', ⟨by first | omega | exact Nat.le_refl _⟩, ⟨by (with_reducible repeat (first | refine blk_drewN ?_ _ | refine blk_drew ?_ | refine blk_alloc ?_ _)); exact BK170.out⟩, ⟨by repeat (first | (with_reducible first | exact HB.out | apply below_alloc | apply pw_below_drewN | apply below_drew1 | refine below_set ?_ GE170.out) | exact HB.out)⟩⟩
   ·
    rw [if_neg c11] at H
    have c11b0 : (a0_0 == 64) = false := beq_eq_false_iff_ne.mpr c11
    have c11b1 : (a0_0 != 64) = true := bne_iff_ne.mpr c11
    have H' := Aside0.mk H
    clear H
    have hcz15_0 : w6.cell? ⟨gb170, 0, none⟩ = some (.int .i64 a0_0) := (blk_cell BK170.out 0).trans rfl
    have hcz15_1 : w6.cell? ⟨gb170, 1, none⟩ = some (.bool a0_1) := (blk_cell BK170.out 1).trans rfl
    have hfz15_0 := blk_frozen BK170.out 0
    have hfz15_1 := blk_frozen BK170.out 1
    go_wp2
    go_meet
    case rel => exact ⟨_, (true), (by first | rfl | (simp; done) | (simp [*]; done)), H', ⟨by first | omega | exact Nat.le_refl _⟩, ⟨by (with_reducible repeat (first | refine blk_drewN ?_ _ | refine blk_drew ?_ | refine blk_alloc ?_ _)); exact BK170.out⟩, ⟨by repeat (first | (with_reducible first | exact HB.out | apply below_alloc | apply pw_below_drewN | apply below_drew1 | refine below_set ?_ GE170.out) | exact HB.out)⟩⟩
 case rest =>
  clear HC5
  try clear c1
  try clear p2
  try clear c7
  try clear c7b0
  try clear c7b1
  try clear c8
  try clear c8b0
  try clear c11
  try clear c11b0
  try clear c11b1
  try clear c12
  try clear c12b0
  try clear c15
  try clear hcz10_0
  try clear hcz10_1
  try clear hcz13_0
  try clear hcz13_1
  try clear hcz14_0
  try clear hcz14_1
  try clear hcz15_0
  try clear hcz15_1
  try clear hcz9_0
  try clear hcz9_1
  try clear hfz10_0
  try clear hfz10_1
  try clear hfz13_0
  try clear hfz13_1
  try clear hfz14_0
  try clear hfz14_1
  try clear hfz15_0
  try clear hfz15_1
  try clear hfz9_0
  try clear hfz9_1
  obtain ⟨kq, x27_4, rfl, HA, HJ4, BK170, HB⟩ := hcut
  cases kq with
  | zero => exact absurd HA.out (by simp [spokeshaveref1_Binary.j0])
  | succ kj4 =>
   have H := HA.out
   clear HA
   simp only [spokeshaveref1_Binary.j0] at H
   by_cases c16 : x27_4 = true
   ·
    subst c16
    have H1 : (some (0, false)) = some (r1, r2) := by rw [if_pos rfl] at H; exact H
    clear H
    have H := H1
    clear H1
    simp only [Option.some.injEq, Prod.mk.injEq] at H
    obtain ⟨rfl, rfl⟩ := H
    go_wp2
    go_ret2
    exact ⟨by first | rfl | (simp [errW_none, errW_some] <;> rfl) | (simp [*, errW_none, errW_some] <;> rfl), by repeat (first | (with_reducible first | exact HB.out | apply below_alloc | apply pw_below_drewN | apply below_drew1 | refine below_set ?_ GE170.out) | exact HB.out)⟩
   ·
    replace c16 := Bool.eq_false_iff.mpr c16
    subst c16
    have H1 : ((spokeshaveref1_Wrap.f a0_0 a0_1 a2).bind fun t171 => (if a1 = 11 then (spokeshaveref1_Binary.j1 kj4 a1 t171 a3 true a0_0 a0_1) else (if a1 = 12 then (spokeshaveref1_Binary.j1 kj4 a1 t171 a3 true a0_0 a0_1) else (spokeshaveref1_Binary.j1 kj4 a1 t171 a3 (a1 == 13) a0_0 a0_1)))) = some (r1, r2) := by rw [if_neg (show ¬ (false = true) by decide)] at H; exact H
    clear H
    have H := H1
    clear H1
    replace H := Option.bind_eq_some_iff.mp H
    obtain ⟨t171, A170, H⟩ := H
    replace H : (if a1 = 11 then (spokeshaveref1_Binary.j1 kj4 a1 t171 a3 true a0_0 a0_1) else (if a1 = 12 then (spokeshaveref1_Binary.j1 kj4 a1 t171 a3 true a0_0 a0_1) else (spokeshaveref1_Binary.j1 kj4 a1 t171 a3 (a1 == 13) a0_0 a0_1))) = some (r1, r2) := H
    have A17 := Aside0.mk A170
    clear A170
    have HC18 := Aside0.mk H
    clear H
    have hcz19_0 : wc.cell? ⟨gb170, 0, none⟩ = some (.int .i64 a0_0) := (blk_cell BK170.out 0).trans rfl
    have hcz19_1 : wc.cell? ⟨gb170, 1, none⟩ = some (.bool a0_1) := (blk_cell BK170.out 1).trans rfl
    have hfz19_0 := blk_frozen BK170.out 0
    have hfz19_1 := blk_frozen BK170.out 1
    go_upto_region 4 with (first | ((with_reducible refine gate_callee (f := 11) rfl ?_); refine goesL_ (some 30) rfl rfl Tryd.func11 (by kernel_rfl) rfl #[.agg #[.int .i64 a0_0, .bool a0_1], .int .i64 a2] rfl (by (try simp only [List.map_toArray, List.map_cons, List.map_nil]); first | done | rfl | (simp only [List.length_drop, List.length_take]; rfl)) ?_; (with_reducible refine (spokeshaveref1_Wrap.calls a0_0 a0_1 a2 t171 _ A17.out).mono ?_); rintro e w20 ⟨rfl, hb⟩; refine ⟨_, rfl, ?_⟩; have n0_ := Aside0.mk (blk_below (g := gb170) (o := .cells #[.int .i64 a0_0, .bool a0_1] 26 (0, 0)) (by (with_reducible repeat (first | refine blk_drewN ?_ _ | refine blk_drew ?_ | refine blk_alloc ?_ _)); exact BK170.out) hb); have n1_ := Aside0.mk (below_step (by repeat (first | (with_reducible first | exact HB.out | apply below_alloc | apply pw_below_drewN | apply below_drew1 | refine below_set ?_ GE170.out) | exact HB.out)) hb); clear BK170; clear HB; have BK170 := n0_; have HB := n1_; clear n0_ n1_; (try clear hb); (try clear hb2); (try clear hk); (try clear hi)))
    (try simp only [Act.put, List.setIfInBounds_toArray, List.set_cons_zero, List.set_cons_succ])
    go_cut [40] (fun v40 wc => ∃ (kq : Nat) (x40_17 : Bool), v40 = .bool x40_17 ∧ Aside0 (spokeshaveref1_Binary.j1 kq a1 t171 a3 x40_17 a0_0 a0_1 = some (r1, r2)) ∧ Aside0 (kq ≤ kj4) ∧ Aside0 (wc.heap[gb170]? = some (.cells #[.int .i64 a0_0, .bool a0_1] 26 (0, 0))) ∧ Aside0 (Below w.heap.size w wc))
    case first =>
     have H := HC18.out
     clear HC18
     by_cases c21 : a1 = 11
     ·
      rw [if_pos c21] at H
      have c21b0 : (a1 == 11) = true := beq_iff_eq.mpr c21
      have c21b1 : (a1 != 11) = false := bne_eq_false_iff_eq.mpr c21
      clear c21
      (first | rw [c21b0] | (simp only [i64_w, i32_w]; rw [c21b0]) | skip)
      have H' := Aside0.mk H
      clear H
      go_wp2
      go_meet
      case rel => exact ⟨_, (true), (by first | rfl | (simp; done) | (simp [*]; done)), H', ⟨by have := HJ4.out; first | omega | exact Nat.le_refl _⟩, ⟨by (with_reducible repeat (first | refine blk_drewN ?_ _ | refine blk_drew ?_ | refine blk_alloc ?_ _)); exact BK170.out⟩, ⟨by repeat (first | (with_reducible first | exact HB.out | apply below_alloc | apply pw_below_drewN | apply below_drew1 | refine below_set ?_ GE170.out) | exact HB.out)⟩⟩
     ·
      rw [if_neg c21] at H
      have c21b0 : (a1 == 11) = false := beq_eq_false_iff_ne.mpr c21
      have c21b1 : (a1 != 11) = true := bne_iff_ne.mpr c21
      (first | rw [c21b0] | (simp only [i64_w, i32_w]; rw [c21b0]) | skip)
      by_cases c22 : a1 = 12
      ·
       rw [if_pos c22] at H
       have c22b0 : (a1 == 12) = true := beq_iff_eq.mpr c22
       have c22b1 : (a1 != 12) = false := bne_eq_false_iff_eq.mpr c22
       clear c22
       have H' := Aside0.mk H
       clear H
       go_wp2
       go_meet
       case rel => exact ⟨_, (true), (by first | rfl | (simp; done) | (simp [*]; done)), H', ⟨by have := HJ4.out; first | omega | exact Nat.le_refl _⟩, ⟨by (with_reducible repeat (first | refine blk_drewN ?_ _ | refine blk_drew ?_ | refine blk_alloc ?_ _)); exact BK170.out⟩, ⟨by repeat (first | (with_reducible first | exact HB.out | apply below_alloc | apply pw_below_drewN | apply below_drew1 | refine below_set ?_ GE170.out) | exact HB.out)⟩⟩
      ·
       rw [if_neg c22] at H
       have c22b0 : (a1 == 12) = false := beq_eq_false_iff_ne.mpr c22
       have c22b1 : (a1 != 12) = true := bne_iff_ne.mpr c22
       have H' := Aside0.mk H
       clear H
       go_wp2
       go_meet
       case rel => exact ⟨_, ((a1 == 13)), (by first | rfl | (simp; done) | (simp [*]; done)), H', ⟨by have := HJ4.out; first | omega | exact Nat.le_refl _⟩, ⟨by (with_reducible repeat (first | refine blk_drewN ?_ _ | refine blk_drew ?_ | refine blk_alloc ?_ _)); exact BK170.out⟩, ⟨by repeat (first | (with_reducible first | exact HB.out | apply below_alloc | apply pw_below_drewN | apply below_drew1 | refine below_set ?_ GE170.out) | exact HB.out)⟩⟩
    case rest =>
     clear HC18
     try clear c1
     try clear c2
     try clear p2
     try clear c7
     try clear c7b0
     try clear c7b1
     try clear c8
     try clear c8b0
     try clear c11
     try clear c11b0
     try clear c11b1
     try clear c12
     try clear c12b0
     try clear c15
     try clear c16
     try clear c21
     try clear c21b0
     try clear c21b1
     try clear c22
     try clear c22b0
     try clear c22b1
     try clear hcz10_0
     try clear hcz10_1
     try clear hcz13_0
     try clear hcz13_1
     try clear hcz14_0
     try clear hcz14_1
     try clear hcz15_0
     try clear hcz15_1
     try clear hcz19_0
     try clear hcz19_1
     try clear hcz9_0
     try clear hcz9_1
     try clear hfz10_0
     try clear hfz10_1
     try clear hfz13_0
     try clear hfz13_1
     try clear hfz14_0
     try clear hfz14_1
     try clear hfz15_0
     try clear hfz15_1
     try clear hfz19_0
     try clear hfz19_1
     try clear hfz9_0
     try clear hfz9_1
     try clear p2
     obtain ⟨kq, x40_17, rfl, HA, HJ17, BK170, HB⟩ := hcut
     cases kq with
     | zero => exact absurd HA.out (by simp [spokeshaveref1_Binary.j1])
     | succ kj17 =>
      have H := HA.out
      clear HA
      simp only [spokeshaveref1_Binary.j1] at H
      by_cases c23 : x40_17 = true
      ·
       subst c23
       have H1 : ((spokeshaveref1_shift.f kj17 a0_0 a0_1 (a1 == 11) t171 a3).bind fun bt172 => (some (bt172.1, bt172.2))) = some (r1, r2) := by rw [if_pos rfl] at H; exact H
       clear H
       have H := H1
       clear H1
       replace H := Option.bind_eq_some_iff.mp H
       obtain ⟨⟨t172, t173⟩, A240, H⟩ := H
       replace H : (some (t172, t173)) = some (r1, r2) := H
       have A24 := Aside0.mk A240
       clear A240
       simp only [Option.some.injEq, Prod.mk.injEq] at H
       obtain ⟨rfl, rfl⟩ := H
       have hcz25_0 : wc.cell? ⟨gb170, 0, none⟩ = some (.int .i64 a0_0) := (blk_cell BK170.out 0).trans rfl
       have hcz25_1 : wc.cell? ⟨gb170, 1, none⟩ = some (.bool a0_1) := (blk_cell BK170.out 1).trans rfl
       have hfz25_0 := blk_frozen BK170.out 0
       have hfz25_1 := blk_frozen BK170.out 1
       go_wp2_with (first | ((with_reducible refine gate_callee (f := 37) rfl ?_); refine goesL_ (some 46) rfl rfl Tryd.func37 (by kernel_rfl) rfl #[.agg #[.int .i64 a0_0, .bool a0_1], .bool (a1 == 11), .int .i64 t171, .int .i64 a3] rfl (by (try simp only [List.map_toArray, List.map_cons, List.map_nil]); first | done | rfl | (simp only [List.length_drop, List.length_take]; rfl)) ?_; (with_reducible refine (spokeshaveref1_shift.calls kj17 a0_0 a0_1 (a1 == 11) t171 a3 t172 t173 _ A24.out).mono ?_); rintro e w26 ⟨rfl, hb⟩; refine ⟨_, rfl, ?_⟩; have n0_ := Aside0.mk (blk_below (g := gb170) (o := .cells #[.int .i64 a0_0, .bool a0_1] 26 (0, 0)) (by (with_reducible repeat (first | refine blk_drewN ?_ _ | refine blk_drew ?_ | refine blk_alloc ?_ _)); exact BK170.out) hb); have n1_ := Aside0.mk (below_step (by repeat (first | (with_reducible first | exact HB.out | apply below_alloc | apply pw_below_drewN | apply below_drew1 | refine below_set ?_ GE170.out) | exact HB.out)) hb); clear BK170; clear HB; have BK170 := n0_; have HB := n1_; clear n0_ n1_; (try clear hb); (try clear hb2); (try clear hk); (try clear hi)))
       go_ret2
       exact ⟨by first | rfl | (simp [errW_none, errW_some] <;> rfl) | (simp [*, errW_none, errW_some] <;> rfl), by repeat (first | (with_reducible first | exact HB.out | apply below_alloc | apply pw_below_drewN | apply below_drew1 | refine below_set ?_ GE170.out) | exact HB.out)⟩
      ·
       replace c23 := Bool.eq_false_iff.mpr c23
       subst c23
       have H1 : ((spokeshaveref1_Wrap.f a0_0 a0_1 a3).bind fun t174 => (if a1 = 4 then (spokeshaveref1_Binary.j2 kj17 a1 t171 t174 a1 (a1 == 4) a0_0 a0_1) else (spokeshaveref1_Binary.j2 kj17 a1 t171 t174 a1 (a1 == 6) a0_0 a0_1))) = some (r1, r2) := by rw [if_neg (show ¬ (false = true) by decide)] at H; exact H
       clear H
       have H := H1
       clear H1
       replace H := Option.bind_eq_some_iff.mp H
       obtain ⟨t174, A270, H⟩ := H
       replace H : (if a1 = 4 then (spokeshaveref1_Binary.j2 kj17 a1 t171 t174 a1 (a1 == 4) a0_0 a0_1) else (spokeshaveref1_Binary.j2 kj17 a1 t171 t174 a1 (a1 == 6) a0_0 a0_1)) = some (r1, r2) := H
       have A27 := Aside0.mk A270
       clear A270
       have HC28 := Aside0.mk H
       clear H
       have hcz29_0 : wc.cell? ⟨gb170, 0, none⟩ = some (.int .i64 a0_0) := (blk_cell BK170.out 0).trans rfl
       have hcz29_1 : wc.cell? ⟨gb170, 1, none⟩ = some (.bool a0_1) := (blk_cell BK170.out 1).trans rfl
       have hfz29_0 := blk_frozen BK170.out 0
       have hfz29_1 := blk_frozen BK170.out 1
       go_upto_block 0 with (first | ((with_reducible refine gate_callee (f := 11) rfl ?_); refine goesL_ (some 51) rfl rfl Tryd.func11 (by kernel_rfl) rfl #[.agg #[.int .i64 a0_0, .bool a0_1], .int .i64 a3] rfl (by (try simp only [List.map_toArray, List.map_cons, List.map_nil]); first | done | rfl | (simp only [List.length_drop, List.length_take]; rfl)) ?_; (with_reducible refine (spokeshaveref1_Wrap.calls a0_0 a0_1 a3 t174 _ A27.out).mono ?_); rintro e w30 ⟨rfl, hb⟩; refine ⟨_, rfl, ?_⟩; have n0_ := Aside0.mk (blk_below (g := gb170) (o := .cells #[.int .i64 a0_0, .bool a0_1] 26 (0, 0)) (by (with_reducible repeat (first | refine blk_drewN ?_ _ | refine blk_drew ?_ | refine blk_alloc ?_ _)); exact BK170.out) hb); have n1_ := Aside0.mk (below_step (by repeat (first | (with_reducible first | exact HB.out | apply below_alloc | apply pw_below_drewN | apply below_drew1 | refine below_set ?_ GE170.out) | exact HB.out)) hb); clear BK170; clear HB; have BK170 := n0_; have HB := n1_; clear n0_ n1_; (try clear hb); (try clear hb2); (try clear hk); (try clear hi)))
       (try simp only [Act.put, List.setIfInBounds_toArray, List.set_cons_zero, List.set_cons_succ])
       go_cut [1] (fun v1 wc => ∃ (kq : Nat) (x1_27 : Int), v1 = .int .i64 x1_27 ∧ Aside0 (spokeshaveref1_Binary.j6 kq x1_27 t171 t174 a0_0 a0_1 = some (r1, r2)) ∧ Aside0 (kq ≤ kj17) ∧ Aside0 (wc.heap[gb170]? = some (.cells #[.int .i64 a0_0, .bool a0_1] 26 (0, 0))) ∧ Aside0 (Below w.heap.size w wc))
       case first =>
        have H := HC28.out
        clear HC28
        have HC31 := Aside0.mk H
        clear H
        go_upto_if 53 with (fail)
        go_cut [53] (fun v53 wc => ∃ (kq : Nat) (x53_30 : Bool), v53 = .bool x53_30 ∧ Aside0 (spokeshaveref1_Binary.j2 kq a1 t171 t174 a1 x53_30 a0_0 a0_1 = some (r1, r2)) ∧ Aside0 (kq ≤ kj17) ∧ Aside0 (wc.heap[gb170]? = some (.cells #[.int .i64 a0_0, .bool a0_1] 26 (0, 0))) ∧ Aside0 (Below w.heap.size w wc))
        case first =>
         have H := HC31.out
         clear HC31
         by_cases c32 : a1 = 4
         ·
          rw [if_pos c32] at H
          have c32b0 : (a1 == 4) = true := beq_iff_eq.mpr c32
          have c32b1 : (a1 != 4) = false := bne_eq_false_iff_eq.mpr c32
          clear c32
          (first | rw [c32b0] | (simp only [i64_w, i32_w]; rw [c32b0]) | skip)
          have H' := Aside0.mk H
          clear H
          go_wp2
          go_meet
          case rel => exact ⟨_, ((a1 == 4)), (by first | rfl | (simp; done) | (simp [*]; done)), H', ⟨by have := HJ4.out; have := HJ17.out; first | omega | exact Nat.le_refl _⟩, ⟨by (with_reducible repeat (first | refine blk_drewN ?_ _ | refine blk_drew ?_ | refine blk_alloc ?_ _)); exact BK170.out⟩, ⟨by repeat (first | (with_reducible first | exact HB.out | apply below_alloc | apply pw_below_drewN | apply below_drew1 | refine below_set ?_ GE170.out) | exact HB.out)⟩⟩
         ·
          rw [if_neg c32] at H
          have c32b0 : (a1 == 4) = false := beq_eq_false_iff_ne.mpr c32
          have c32b1 : (a1 != 4) = true := bne_iff_ne.mpr c32
          (first | rw [c32b0] | (simp only [i64_w, i32_w]; rw [c32b0]) | skip)
          have H' := Aside0.mk H
          clear H
          go_wp2
          go_meet
          case rel => exact ⟨_, ((a1 == 6)), (by first | rfl | (simp; done) | (simp [*]; done)), H', ⟨by have := HJ4.out; have := HJ17.out; first | omega | exact Nat.le_refl _⟩, ⟨by (with_reducible repeat (first | refine blk_drewN ?_ _ | refine blk_drew ?_ | refine blk_alloc ?_ _)); exact BK170.out⟩, ⟨by repeat (first | (with_reducible first | exact HB.out | apply below_alloc | apply pw_below_drewN | apply below_drew1 | refine below_set ?_ GE170.out) | exact HB.out)⟩⟩
        case rest =>
         clear HC31
         try clear c1
         try clear c2
         try clear p2
         try clear c3
         try clear c7
         try clear c7b0
         try clear c7b1
         try clear c8
         try clear c8b0
         try clear c11
         try clear c11b0
         try clear c11b1
         try clear c12
         try clear c12b0
         try clear c15
         try clear c16
         try clear c21
         try clear c21b0
         try clear c21b1
         try clear c22
         try clear c22b0
         try clear c22b1
         try clear c23
         try clear c32
         try clear c32b0
         try clear c32b1
         try clear hcz10_0
         try clear hcz10_1
         try clear hcz13_0
         try clear hcz13_1
         try clear hcz14_0
         try clear hcz14_1
         try clear hcz15_0
         try clear hcz15_1
         try clear hcz19_0
         try clear hcz19_1
         try clear hcz25_0
         try clear hcz25_1
         try clear hcz29_0
         try clear hcz29_1
         try clear hcz9_0
         try clear hcz9_1
         try clear hfz10_0
         try clear hfz10_1
         try clear hfz13_0
         try clear hfz13_1
         try clear hfz14_0
         try clear hfz14_1
         try clear hfz15_0
         try clear hfz15_1
         try clear hfz19_0
         try clear hfz19_1
         try clear hfz25_0
         try clear hfz25_1
         try clear hfz29_0
         try clear hfz29_1
         try clear hfz9_0
         try clear hfz9_1
         try clear p2
         obtain ⟨kq, x53_30, rfl, HA, HJ30, BK170, HB⟩ := hcut
         cases kq with
         | zero => exact absurd HA.out (by simp [spokeshaveref1_Binary.j2])
         | succ kj30 =>
          have H := HA.out
          clear HA
          simp only [spokeshaveref1_Binary.j2] at H
          by_cases c33 : x53_30 = true
          ·
           subst c33
           have H1 : (if a0_1 = true then (spokeshaveref1_Binary.j6 kj30 4 t171 t174 a0_0 a0_1) else (spokeshaveref1_Binary.j6 kj30 6 t171 t174 a0_0 a0_1)) = some (r1, r2) := by rw [if_pos rfl] at H; exact H
           clear H
           have H := H1
           clear H1
           by_cases c34 : a0_1 = true
           ·
            subst c34
            have H1 : (spokeshaveref1_Binary.j6 kj30 4 t171 t174 a0_0 true) = some (r1, r2) := by rw [if_pos rfl] at H; exact H
            clear H
            have H := H1
            clear H1
            have H' := Aside0.mk H
            clear H
            have hcz35_0 : wc.cell? ⟨gb170, 0, none⟩ = some (.int .i64 a0_0) := (blk_cell BK170.out 0).trans rfl
            have hcz35_1 : wc.cell? ⟨gb170, 1, none⟩ = some (.bool true) := (blk_cell BK170.out 1).trans rfl
            have hfz35_0 := blk_frozen BK170.out 0
            have hfz35_1 := blk_frozen BK170.out 1
            go_wp2
            go_meet
            case rel => exact ⟨_, (4), (by first | rfl | (simp; done) | (simp [*]; done)), H', ⟨by have := HJ4.out; have := HJ17.out; have := HJ30.out; first | omega | exact Nat.le_refl _⟩, ⟨by (with_reducible repeat (first | refine blk_drewN ?_ _ | refine blk_drew ?_ | refine blk_alloc ?_ _)); exact BK170.out⟩, ⟨by repeat (first | (with_reducible first | exact HB.out | apply below_alloc | apply pw_below_drewN | apply below_drew1 | refine below_set ?_ GE170.out) | exact HB.out)⟩⟩
           ·
            replace c34 := Bool.eq_false_iff.mpr c34
            subst c34
            have H1 : (spokeshaveref1_Binary.j6 kj30 6 t171 t174 a0_0 false) = some (r1, r2) := by rw [if_neg (show ¬ (false = true) by decide)] at H; exact H
            clear H
            have H := H1
            clear H1
            have H' := Aside0.mk H
            clear H
            have hcz36_0 : wc.cell? ⟨gb170, 0, none⟩ = some (.int .i64 a0_0) := (blk_cell BK170.out 0).trans rfl
            have hcz36_1 : wc.cell? ⟨gb170, 1, none⟩ = some (.bool false) := (blk_cell BK170.out 1).trans rfl
            have hfz36_0 := blk_frozen BK170.out 0
            have hfz36_1 := blk_frozen BK170.out 1
            go_wp2
            go_meet
            case rel => exact ⟨_, (6), (by first | rfl | (simp; done) | (simp [*]; done)), H', ⟨by have := HJ4.out; have := HJ17.out; have := HJ30.out; first | omega | exact Nat.le_refl _⟩, ⟨by (with_reducible repeat (first | refine blk_drewN ?_ _ | refine blk_drew ?_ | refine blk_alloc ?_ _)); exact BK170.out⟩, ⟨by repeat (first | (with_reducible first | exact HB.out | apply below_alloc | apply pw_below_drewN | apply below_drew1 | refine below_set ?_ GE170.out) | exact HB.out)⟩⟩
          ·
           replace c33 := Bool.eq_false_iff.mpr c33
           subst c33
           have H1 : (if a1 = 5 then (spokeshaveref1_Binary.j3 kj30 a1 t171 t174 a1 (a1 == 5) a0_0 a0_1) else (spokeshaveref1_Binary.j3 kj30 a1 t171 t174 a1 (a1 == 7) a0_0 a0_1)) = some (r1, r2) := by rw [if_neg (show ¬ (false = true) by decide)] at H; exact H
           clear H
           have H := H1
           clear H1
           have HC37 := Aside0.mk H
           clear H
           go_upto_if 59 with (fail)
           go_cut [59] (fun v59 wc => ∃ (kq : Nat) (x59_36 : Bool), v59 = .bool x59_36 ∧ Aside0 (spokeshaveref1_Binary.j3 kq a1 t171 t174 a1 x59_36 a0_0 a0_1 = some (r1, r2)) ∧ Aside0 (kq ≤ kj30) ∧ Aside0 (wc.heap[gb170]? = some (.cells #[.int .i64 a0_0, .bool a0_1] 26 (0, 0))) ∧ Aside0 (Below w.heap.size w wc))
           case first =>
            have H := HC37.out
            clear HC37
            by_cases c38 : a1 = 5
            ·
             rw [if_pos c38] at H
             have c38b0 : (a1 == 5) = true := beq_iff_eq.mpr c38
             have c38b1 : (a1 != 5) = false := bne_eq_false_iff_eq.mpr c38
             clear c38
             (first | rw [c38b0] | (simp only [i64_w, i32_w]; rw [c38b0]) | skip)
             have H' := Aside0.mk H
             clear H
             go_wp2
             go_meet
             case rel => exact ⟨_, ((a1 == 5)), (by first | rfl | (simp; done) | (simp [*]; done)), H', ⟨by have := HJ4.out; have := HJ17.out; have := HJ30.out; first | omega | exact Nat.le_refl _⟩, ⟨by (with_reducible repeat (first | refine blk_drewN ?_ _ | refine blk_drew ?_ | refine blk_alloc ?_ _)); exact BK170.out⟩, ⟨by repeat (first | (with_reducible first | exact HB.out | apply below_alloc | apply pw_below_drewN | apply below_drew1 | refine below_set ?_ GE170.out) | exact HB.out)⟩⟩
            ·
             rw [if_neg c38] at H
             have c38b0 : (a1 == 5) = false := beq_eq_false_iff_ne.mpr c38
             have c38b1 : (a1 != 5) = true := bne_iff_ne.mpr c38
             (first | rw [c38b0] | (simp only [i64_w, i32_w]; rw [c38b0]) | skip)
             have H' := Aside0.mk H
             clear H
             go_wp2
             go_meet
             case rel => exact ⟨_, ((a1 == 7)), (by first | rfl | (simp; done) | (simp [*]; done)), H', ⟨by have := HJ4.out; have := HJ17.out; have := HJ30.out; first | omega | exact Nat.le_refl _⟩, ⟨by (with_reducible repeat (first | refine blk_drewN ?_ _ | refine blk_drew ?_ | refine blk_alloc ?_ _)); exact BK170.out⟩, ⟨by repeat (first | (with_reducible first | exact HB.out | apply below_alloc | apply pw_below_drewN | apply below_drew1 | refine below_set ?_ GE170.out) | exact HB.out)⟩⟩
           case rest =>
            clear HC37
            try clear c1
            try clear c2
            try clear p2
            try clear c3
            try clear c7
            try clear c7b0
            try clear c7b1
            try clear c8
            try clear c8b0
            try clear c11
            try clear c11b0
            try clear c11b1
            try clear c12
            try clear c12b0
            try clear c15
            try clear c16
            try clear c21
            try clear c21b0
            try clear c21b1
            try clear c22
            try clear c22b0
            try clear c22b1
            try clear c23
            try clear c32
            try clear c32b0
            try clear c32b1
            try clear c33
            try clear c34
            try clear c37
            try clear c38
            try clear c38b0
            try clear c38b1
            try clear hcz10_0
            try clear hcz10_1
            try clear hcz13_0
            try clear hcz13_1
            try clear hcz14_0
            try clear hcz14_1
            try clear hcz15_0
            try clear hcz15_1
            try clear hcz19_0
            try clear hcz19_1
            try clear hcz25_0
            try clear hcz25_1
            try clear hcz29_0
            try clear hcz29_1
            try clear hcz35_0
            try clear hcz35_1
            try clear hcz36_0
            try clear hcz36_1
            try clear hcz9_0
            try clear hcz9_1
            try clear hfz10_0
            try clear hfz10_1
            try clear hfz13_0
            try clear hfz13_1
            try clear hfz14_0
            try clear hfz14_1
            try clear hfz15_0
            try clear hfz15_1
            try clear hfz19_0
            try clear hfz19_1
            try clear hfz25_0
            try clear hfz25_1
            try clear hfz29_0
            try clear hfz29_1
            try clear hfz35_0
            try clear hfz35_1
            try clear hfz36_0
            try clear hfz36_1
            try clear hfz9_0
            try clear hfz9_1
            try clear p2
            obtain ⟨kq, x59_36, rfl, HA, HJ36, BK170, HB⟩ := hcut
            cases kq with
            | zero => exact absurd HA.out (by simp [spokeshaveref1_Binary.j3])
            | succ kj36 =>
             have H := HA.out
             clear HA
             simp only [spokeshaveref1_Binary.j3] at H
             by_cases c39 : x59_36 = true
             ·
              subst c39
              have H1 : (if a0_1 = true then (spokeshaveref1_Binary.j6 kj36 5 t171 t174 a0_0 a0_1) else (spokeshaveref1_Binary.j6 kj36 7 t171 t174 a0_0 a0_1)) = some (r1, r2) := by rw [if_pos rfl] at H; exact H
              clear H
              have H := H1
              clear H1
              by_cases c40 : a0_1 = true
              ·
               subst c40
               have H1 : (spokeshaveref1_Binary.j6 kj36 5 t171 t174 a0_0 true) = some (r1, r2) := by rw [if_pos rfl] at H; exact H
               clear H
               have H := H1
               clear H1
               have H' := Aside0.mk H
               clear H
               have hcz41_0 : wc.cell? ⟨gb170, 0, none⟩ = some (.int .i64 a0_0) := (blk_cell BK170.out 0).trans rfl
               have hcz41_1 : wc.cell? ⟨gb170, 1, none⟩ = some (.bool true) := (blk_cell BK170.out 1).trans rfl
               have hfz41_0 := blk_frozen BK170.out 0
               have hfz41_1 := blk_frozen BK170.out 1
               go_wp2
               go_meet
               case rel => exact ⟨_, (5), (by first | rfl | (simp; done) | (simp [*]; done)), H', ⟨by have := HJ4.out; have := HJ17.out; have := HJ30.out; have := HJ36.out; first | omega | exact Nat.le_refl _⟩, ⟨by (with_reducible repeat (first | refine blk_drewN ?_ _ | refine blk_drew ?_ | refine blk_alloc ?_ _)); exact BK170.out⟩, ⟨by repeat (first | (with_reducible first | exact HB.out | apply below_alloc | apply pw_below_drewN | apply below_drew1 | refine below_set ?_ GE170.out) | exact HB.out)⟩⟩
              ·
               replace c40 := Bool.eq_false_iff.mpr c40
               subst c40
               have H1 : (spokeshaveref1_Binary.j6 kj36 7 t171 t174 a0_0 false) = some (r1, r2) := by rw [if_neg (show ¬ (false = true) by decide)] at H; exact H
               clear H
               have H := H1
               clear H1
               have H' := Aside0.mk H
               clear H
               have hcz42_0 : wc.cell? ⟨gb170, 0, none⟩ = some (.int .i64 a0_0) := (blk_cell BK170.out 0).trans rfl
               have hcz42_1 : wc.cell? ⟨gb170, 1, none⟩ = some (.bool false) := (blk_cell BK170.out 1).trans rfl
               have hfz42_0 := blk_frozen BK170.out 0
               have hfz42_1 := blk_frozen BK170.out 1
               go_wp2
               go_meet
               case rel => exact ⟨_, (7), (by first | rfl | (simp; done) | (simp [*]; done)), H', ⟨by have := HJ4.out; have := HJ17.out; have := HJ30.out; have := HJ36.out; first | omega | exact Nat.le_refl _⟩, ⟨by (with_reducible repeat (first | refine blk_drewN ?_ _ | refine blk_drew ?_ | refine blk_alloc ?_ _)); exact BK170.out⟩, ⟨by repeat (first | (with_reducible first | exact HB.out | apply below_alloc | apply pw_below_drewN | apply below_drew1 | refine below_set ?_ GE170.out) | exact HB.out)⟩⟩
             ·
              replace c39 := Bool.eq_false_iff.mpr c39
              subst c39
              have H1 : (if a1 = 16 then (spokeshaveref1_Binary.j4 kj36 a1 t171 t174 a1 (a1 == 16) a0_0 a0_1) else (spokeshaveref1_Binary.j4 kj36 a1 t171 t174 a1 (a1 == 18) a0_0 a0_1)) = some (r1, r2) := by rw [if_neg (show ¬ (false = true) by decide)] at H; exact H
              clear H
              have H := H1
              clear H1
              have HC43 := Aside0.mk H
              clear H
              go_upto_if 65 with (fail)
              go_cut [65] (fun v65 wc => ∃ (kq : Nat) (x65_42 : Bool), v65 = .bool x65_42 ∧ Aside0 (spokeshaveref1_Binary.j4 kq a1 t171 t174 a1 x65_42 a0_0 a0_1 = some (r1, r2)) ∧ Aside0 (kq ≤ kj36) ∧ Aside0 (wc.heap[gb170]? = some (.cells #[.int .i64 a0_0, .bool a0_1] 26 (0, 0))) ∧ Aside0 (Below w.heap.size w wc))
              case first =>
               have H := HC43.out
               clear HC43
               by_cases c44 : a1 = 16
               ·
                rw [if_pos c44] at H
                have c44b0 : (a1 == 16) = true := beq_iff_eq.mpr c44
                have c44b1 : (a1 != 16) = false := bne_eq_false_iff_eq.mpr c44
                clear c44
                (first | rw [c44b0] | (simp only [i64_w, i32_w]; rw [c44b0]) | skip)
                have H' := Aside0.mk H
                clear H
                go_wp2
                go_meet
                case rel => exact ⟨_, ((a1 == 16)), (by first | rfl | (simp; done) | (simp [*]; done)), H', ⟨by have := HJ4.out; have := HJ17.out; have := HJ30.out; have := HJ36.out; first | omega | exact Nat.le_refl _⟩, ⟨by (with_reducible repeat (first | refine blk_drewN ?_ _ | refine blk_drew ?_ | refine blk_alloc ?_ _)); exact BK170.out⟩, ⟨by repeat (first | (with_reducible first | exact HB.out | apply below_alloc | apply pw_below_drewN | apply below_drew1 | refine below_set ?_ GE170.out) | exact HB.out)⟩⟩
               ·
                rw [if_neg c44] at H
                have c44b0 : (a1 == 16) = false := beq_eq_false_iff_ne.mpr c44
                have c44b1 : (a1 != 16) = true := bne_iff_ne.mpr c44
                (first | rw [c44b0] | (simp only [i64_w, i32_w]; rw [c44b0]) | skip)
                have H' := Aside0.mk H
                clear H
                go_wp2
                go_meet
                case rel => exact ⟨_, ((a1 == 18)), (by first | rfl | (simp; done) | (simp [*]; done)), H', ⟨by have := HJ4.out; have := HJ17.out; have := HJ30.out; have := HJ36.out; first | omega | exact Nat.le_refl _⟩, ⟨by (with_reducible repeat (first | refine blk_drewN ?_ _ | refine blk_drew ?_ | refine blk_alloc ?_ _)); exact BK170.out⟩, ⟨by repeat (first | (with_reducible first | exact HB.out | apply below_alloc | apply pw_below_drewN | apply below_drew1 | refine below_set ?_ GE170.out) | exact HB.out)⟩⟩
              case rest =>
               clear HC43
               try clear c1
               try clear c2
               try clear p2
               try clear c3
               try clear c4
               try clear c7
               try clear c7b0
               try clear c7b1
               try clear c8
               try clear c8b0
               try clear c11
               try clear c11b0
               try clear c11b1
               try clear c12
               try clear c12b0
               try clear c15
               try clear c16
               try clear c21
               try clear c21b0
               try clear c21b1
               try clear c22
               try clear c22b0
               try clear c22b1
               try clear c23
               try clear c32
               try clear c32b0
               try clear c32b1
               try clear c33
               try clear c34
               try clear c37
               try clear c38
               try clear c38b0
               try clear c38b1
               try clear c39
               try clear c40
               try clear c44
               try clear c44b0
               try clear c44b1
               try clear hcz10_0
               try clear hcz10_1
               try clear hcz13_0
               try clear hcz13_1
               try clear hcz14_0
               try clear hcz14_1
               try clear hcz15_0
               try clear hcz15_1
               try clear hcz19_0
               try clear hcz19_1
               try clear hcz25_0
               try clear hcz25_1
               try clear hcz29_0
               try clear hcz29_1
               try clear hcz35_0
               try clear hcz35_1
               try clear hcz36_0
               try clear hcz36_1
               try clear hcz41_0
               try clear hcz41_1
               try clear hcz42_0
               try clear hcz42_1
               try clear hcz9_0
               try clear hcz9_1
               try clear hfz10_0
               try clear hfz10_1
               try clear hfz13_0
               try clear hfz13_1
               try clear hfz14_0
               try clear hfz14_1
               try clear hfz15_0
               try clear hfz15_1
               try clear hfz19_0
               try clear hfz19_1
               try clear hfz25_0
               try clear hfz25_1
               try clear hfz29_0
               try clear hfz29_1
               try clear hfz35_0
               try clear hfz35_1
               try clear hfz36_0
               try clear hfz36_1
               try clear hfz41_0
               try clear hfz41_1
               try clear hfz42_0
               try clear hfz42_1
               try clear hfz9_0
               try clear hfz9_1
               try clear p2
               obtain ⟨kq, x65_42, rfl, HA, HJ42, BK170, HB⟩ := hcut
               cases kq with
               | zero => exact absurd HA.out (by simp [spokeshaveref1_Binary.j4])
               | succ kj42 =>
                have H := HA.out
                clear HA
                simp only [spokeshaveref1_Binary.j4] at H
                by_cases c45 : x65_42 = true
                ·
                 subst c45
                 have H1 : (if a0_1 = true then (spokeshaveref1_Binary.j6 kj42 16 t171 t174 a0_0 a0_1) else (spokeshaveref1_Binary.j6 kj42 18 t171 t174 a0_0 a0_1)) = some (r1, r2) := by rw [if_pos rfl] at H; exact H
                 clear H
                 have H := H1
                 clear H1
                 by_cases c46 : a0_1 = true
                 ·
                  subst c46
                  have H1 : (spokeshaveref1_Binary.j6 kj42 16 t171 t174 a0_0 true) = some (r1, r2) := by rw [if_pos rfl] at H; exact H
                  clear H
                  have H := H1
                  clear H1
                  have H' := Aside0.mk H
                  clear H
                  have hcz47_0 : wc.cell? ⟨gb170, 0, none⟩ = some (.int .i64 a0_0) := (blk_cell BK170.out 0).trans rfl
                  have hcz47_1 : wc.cell? ⟨gb170, 1, none⟩ = some (.bool true) := (blk_cell BK170.out 1).trans rfl
                  have hfz47_0 := blk_frozen BK170.out 0
                  have hfz47_1 := blk_frozen BK170.out 1
                  go_wp2
                  go_meet
                  case rel => exact ⟨_, (16), (by first | rfl | (simp; done) | (simp [*]; done)), H', ⟨by have := HJ4.out; have := HJ17.out; have := HJ30.out; have := HJ36.out; have := HJ42.out; first | omega | exact Nat.le_refl _⟩, ⟨by (with_reducible repeat (first | refine blk_drewN ?_ _ | refine blk_drew ?_ | refine blk_alloc ?_ _)); exact BK170.out⟩, ⟨by repeat (first | (with_reducible first | exact HB.out | apply below_alloc | apply pw_below_drewN | apply below_drew1 | refine below_set ?_ GE170.out) | exact HB.out)⟩⟩
                 ·
                  replace c46 := Bool.eq_false_iff.mpr c46
                  subst c46
                  have H1 : (spokeshaveref1_Binary.j6 kj42 18 t171 t174 a0_0 false) = some (r1, r2) := by rw [if_neg (show ¬ (false = true) by decide)] at H; exact H
                  clear H
                  have H := H1
                  clear H1
                  have H' := Aside0.mk H
                  clear H
                  have hcz48_0 : wc.cell? ⟨gb170, 0, none⟩ = some (.int .i64 a0_0) := (blk_cell BK170.out 0).trans rfl
                  have hcz48_1 : wc.cell? ⟨gb170, 1, none⟩ = some (.bool false) := (blk_cell BK170.out 1).trans rfl
                  have hfz48_0 := blk_frozen BK170.out 0
                  have hfz48_1 := blk_frozen BK170.out 1
                  go_wp2
                  go_meet
                  case rel => exact ⟨_, (18), (by first | rfl | (simp; done) | (simp [*]; done)), H', ⟨by have := HJ4.out; have := HJ17.out; have := HJ30.out; have := HJ36.out; have := HJ42.out; first | omega | exact Nat.le_refl _⟩, ⟨by (with_reducible repeat (first | refine blk_drewN ?_ _ | refine blk_drew ?_ | refine blk_alloc ?_ _)); exact BK170.out⟩, ⟨by repeat (first | (with_reducible first | exact HB.out | apply below_alloc | apply pw_below_drewN | apply below_drew1 | refine below_set ?_ GE170.out) | exact HB.out)⟩⟩
                ·
                 replace c45 := Bool.eq_false_iff.mpr c45
                 subst c45
                 have H1 : (if a1 = 17 then (spokeshaveref1_Binary.j5 kj42 a1 t171 t174 (a1 == 17) a0_0 a0_1) else (spokeshaveref1_Binary.j5 kj42 a1 t171 t174 (a1 == 19) a0_0 a0_1)) = some (r1, r2) := by rw [if_neg (show ¬ (false = true) by decide)] at H; exact H
                 clear H
                 have H := H1
                 clear H1
                 have HC49 := Aside0.mk H
                 clear H
                 go_upto_if 71 with (fail)
                 go_cut [71] (fun v71 wc => ∃ (kq : Nat) (x71_48 : Bool), v71 = .bool x71_48 ∧ Aside0 (spokeshaveref1_Binary.j5 kq a1 t171 t174 x71_48 a0_0 a0_1 = some (r1, r2)) ∧ Aside0 (kq ≤ kj42) ∧ Aside0 (wc.heap[gb170]? = some (.cells #[.int .i64 a0_0, .bool a0_1] 26 (0, 0))) ∧ Aside0 (Below w.heap.size w wc))
                 case first =>
                  have H := HC49.out
                  clear HC49
                  by_cases c50 : a1 = 17
                  ·
                   rw [if_pos c50] at H
                   have c50b0 : (a1 == 17) = true := beq_iff_eq.mpr c50
                   have c50b1 : (a1 != 17) = false := bne_eq_false_iff_eq.mpr c50
                   clear c50
                   (first | rw [c50b0] | (simp only [i64_w, i32_w]; rw [c50b0]) | skip)
                   have H' := Aside0.mk H
                   clear H
                   go_wp2
                   go_meet
                   case rel => exact ⟨_, ((a1 == 17)), (by first | rfl | (simp; done) | (simp [*]; done)), H', ⟨by have := HJ4.out; have := HJ17.out; have := HJ30.out; have := HJ36.out; have := HJ42.out; first | omega | exact Nat.le_refl _⟩, ⟨by (with_reducible repeat (first | refine blk_drewN ?_ _ | refine blk_drew ?_ | refine blk_alloc ?_ _)); exact BK170.out⟩, ⟨by repeat (first | (with_reducible first | exact HB.out | apply below_alloc | apply pw_below_drewN | apply below_drew1 | refine below_set ?_ GE170.out) | exact HB.out)⟩⟩
                  ·
                   rw [if_neg c50] at H
                   have c50b0 : (a1 == 17) = false := beq_eq_false_iff_ne.mpr c50
                   have c50b1 : (a1 != 17) = true := bne_iff_ne.mpr c50
                   (first | rw [c50b0] | (simp only [i64_w, i32_w]; rw [c50b0]) | skip)
                   have H' := Aside0.mk H
                   clear H
                   go_wp2
                   go_meet
                   case rel => exact ⟨_, ((a1 == 19)), (by first | rfl | (simp; done) | (simp [*]; done)), H', ⟨by have := HJ4.out; have := HJ17.out; have := HJ30.out; have := HJ36.out; have := HJ42.out; first | omega | exact Nat.le_refl _⟩, ⟨by (with_reducible repeat (first | refine blk_drewN ?_ _ | refine blk_drew ?_ | refine blk_alloc ?_ _)); exact BK170.out⟩, ⟨by repeat (first | (with_reducible first | exact HB.out | apply below_alloc | apply pw_below_drewN | apply below_drew1 | refine below_set ?_ GE170.out) | exact HB.out)⟩⟩
                 case rest =>
                  clear HC49
                  try clear c1
                  try clear c2
                  try clear p2
                  try clear c3
                  try clear c4
                  try clear c5
                  try clear c7
                  try clear c7b0
                  try clear c7b1
                  try clear c8
                  try clear c8b0
                  try clear c11
                  try clear c11b0
                  try clear c11b1
                  try clear c12
                  try clear c12b0
                  try clear c15
                  try clear c16
                  try clear c21
                  try clear c21b0
                  try clear c21b1
                  try clear c22
                  try clear c22b0
                  try clear c22b1
                  try clear c23
                  try clear c32
                  try clear c32b0
                  try clear c32b1
                  try clear c33
                  try clear c34
                  try clear c37
                  try clear c38
                  try clear c38b0
                  try clear c38b1
                  try clear c39
                  try clear c40
                  try clear c44
                  try clear c44b0
                  try clear c44b1
                  try clear c45
                  try clear c46
                  try clear c50
                  try clear c50b0
                  try clear c50b1
                  try clear hcz10_0
                  try clear hcz10_1
                  try clear hcz13_0
                  try clear hcz13_1
                  try clear hcz14_0
                  try clear hcz14_1
                  try clear hcz15_0
                  try clear hcz15_1
                  try clear hcz19_0
                  try clear hcz19_1
                  try clear hcz25_0
                  try clear hcz25_1
                  try clear hcz29_0
                  try clear hcz29_1
                  try clear hcz35_0
                  try clear hcz35_1
                  try clear hcz36_0
                  try clear hcz36_1
                  try clear hcz41_0
                  try clear hcz41_1
                  try clear hcz42_0
                  try clear hcz42_1
                  try clear hcz47_0
                  try clear hcz47_1
                  try clear hcz48_0
                  try clear hcz48_1
                  try clear hcz9_0
                  try clear hcz9_1
                  try clear hfz10_0
                  try clear hfz10_1
                  try clear hfz13_0
                  try clear hfz13_1
                  try clear hfz14_0
                  try clear hfz14_1
                  try clear hfz15_0
                  try clear hfz15_1
                  try clear hfz19_0
                  try clear hfz19_1
                  try clear hfz25_0
                  try clear hfz25_1
                  try clear hfz29_0
                  try clear hfz29_1
                  try clear hfz35_0
                  try clear hfz35_1
                  try clear hfz36_0
                  try clear hfz36_1
                  try clear hfz41_0
                  try clear hfz41_1
                  try clear hfz42_0
                  try clear hfz42_1
                  try clear hfz47_0
                  try clear hfz47_1
                  try clear hfz48_0
                  try clear hfz48_1
                  try clear hfz9_0
                  try clear hfz9_1
                  try clear p2
                  obtain ⟨kq, x71_48, rfl, HA, HJ48, BK170, HB⟩ := hcut
                  cases kq with
                  | zero => exact absurd HA.out (by simp [spokeshaveref1_Binary.j5])
                  | succ kj48 =>
                   have H := HA.out
                   clear HA
                   simp only [spokeshaveref1_Binary.j5] at H
                   by_cases c51 : x71_48 = true
                   ·
                    subst c51
                    have H1 : (if a0_1 = true then (spokeshaveref1_Binary.j6 kj48 17 t171 t174 a0_0 a0_1) else (spokeshaveref1_Binary.j6 kj48 19 t171 t174 a0_0 a0_1)) = some (r1, r2) := by rw [if_pos rfl] at H; exact H
                    clear H
                    have H := H1
                    clear H1
                    by_cases c52 : a0_1 = true
                    ·
                     subst c52
                     have H1 : (spokeshaveref1_Binary.j6 kj48 17 t171 t174 a0_0 true) = some (r1, r2) := by rw [if_pos rfl] at H; exact H
                     clear H
                     have H := H1
                     clear H1
                     have H' := Aside0.mk H
                     clear H
                     have hcz53_0 : wc.cell? ⟨gb170, 0, none⟩ = some (.int .i64 a0_0) := (blk_cell BK170.out 0).trans rfl
                     have hcz53_1 : wc.cell? ⟨gb170, 1, none⟩ = some (.bool true) := (blk_cell BK170.out 1).trans rfl
                     have hfz53_0 := blk_frozen BK170.out 0
                     have hfz53_1 := blk_frozen BK170.out 1
                     go_wp2
                     go_meet
                     case rel => exact ⟨_, (17), (by first | rfl | (simp; done) | (simp [*]; done)), H', ⟨by have := HJ4.out; have := HJ17.out; have := HJ30.out; have := HJ36.out; have := HJ42.out; have := HJ48.out; first | omega | exact Nat.le_refl _⟩, ⟨by (with_reducible repeat (first | refine blk_drewN ?_ _ | refine blk_drew ?_ | refine blk_alloc ?_ _)); exact BK170.out⟩, ⟨by repeat (first | (with_reducible first | exact HB.out | apply below_alloc | apply pw_below_drewN | apply below_drew1 | refine below_set ?_ GE170.out) | exact HB.out)⟩⟩
                    ·
                     replace c52 := Bool.eq_false_iff.mpr c52
                     subst c52
                     have H1 : (spokeshaveref1_Binary.j6 kj48 19 t171 t174 a0_0 false) = some (r1, r2) := by rw [if_neg (show ¬ (false = true) by decide)] at H; exact H
                     clear H
                     have H := H1
                     clear H1
                     have H' := Aside0.mk H
                     clear H
                     have hcz54_0 : wc.cell? ⟨gb170, 0, none⟩ = some (.int .i64 a0_0) := (blk_cell BK170.out 0).trans rfl
                     have hcz54_1 : wc.cell? ⟨gb170, 1, none⟩ = some (.bool false) := (blk_cell BK170.out 1).trans rfl
                     have hfz54_0 := blk_frozen BK170.out 0
                     have hfz54_1 := blk_frozen BK170.out 1
                     go_wp2
                     go_meet
                     case rel => exact ⟨_, (19), (by first | rfl | (simp; done) | (simp [*]; done)), H', ⟨by have := HJ4.out; have := HJ17.out; have := HJ30.out; have := HJ36.out; have := HJ42.out; have := HJ48.out; first | omega | exact Nat.le_refl _⟩, ⟨by (with_reducible repeat (first | refine blk_drewN ?_ _ | refine blk_drew ?_ | refine blk_alloc ?_ _)); exact BK170.out⟩, ⟨by repeat (first | (with_reducible first | exact HB.out | apply below_alloc | apply pw_below_drewN | apply below_drew1 | refine below_set ?_ GE170.out) | exact HB.out)⟩⟩
                   ·
                    replace c51 := Bool.eq_false_iff.mpr c51
                    subst c51
                    have H1 : (spokeshaveref1_Binary.j6 kj48 a1 t171 t174 a0_0 a0_1) = some (r1, r2) := by rw [if_neg (show ¬ (false = true) by decide)] at H; exact H
                    clear H
                    have H := H1
                    clear H1
                    have H' := Aside0.mk H
                    clear H
                    go_wp2
                    go_meet
                    case rel => exact ⟨_, (a1), (by first | rfl | (simp; done) | (simp [*]; done)), H', ⟨by have := HJ4.out; have := HJ17.out; have := HJ30.out; have := HJ36.out; have := HJ42.out; have := HJ48.out; first | omega | exact Nat.le_refl _⟩, ⟨by (with_reducible repeat (first | refine blk_drewN ?_ _ | refine blk_drew ?_ | refine blk_alloc ?_ _)); exact BK170.out⟩, ⟨by repeat (first | (with_reducible first | exact HB.out | apply below_alloc | apply pw_below_drewN | apply below_drew1 | refine below_set ?_ GE170.out) | exact HB.out)⟩⟩
       case rest =>
        clear HC28
        try clear c1
        try clear c2
        try clear p2
        try clear c3
        try clear c4
        try clear c5
        try clear c7
        try clear c7b0
        try clear c7b1
        try clear c8
        try clear c8b0
        try clear c11
        try clear c11b0
        try clear c11b1
        try clear c12
        try clear c12b0
        try clear c15
        try clear c16
        try clear c21
        try clear c21b0
        try clear c21b1
        try clear c22
        try clear c22b0
        try clear c22b1
        try clear c23
        try clear c32
        try clear c32b0
        try clear c32b1
        try clear c33
        try clear c34
        try clear c37
        try clear c38
        try clear c38b0
        try clear c38b1
        try clear c39
        try clear c40
        try clear c44
        try clear c44b0
        try clear c44b1
        try clear c45
        try clear c46
        try clear c50
        try clear c50b0
        try clear c50b1
        try clear c51
        try clear c52
        try clear hcz10_0
        try clear hcz10_1
        try clear hcz13_0
        try clear hcz13_1
        try clear hcz14_0
        try clear hcz14_1
        try clear hcz15_0
        try clear hcz15_1
        try clear hcz19_0
        try clear hcz19_1
        try clear hcz25_0
        try clear hcz25_1
        try clear hcz29_0
        try clear hcz29_1
        try clear hcz35_0
        try clear hcz35_1
        try clear hcz36_0
        try clear hcz36_1
        try clear hcz41_0
        try clear hcz41_1
        try clear hcz42_0
        try clear hcz42_1
        try clear hcz47_0
        try clear hcz47_1
        try clear hcz48_0
        try clear hcz48_1
        try clear hcz53_0
        try clear hcz53_1
        try clear hcz54_0
        try clear hcz54_1
        try clear hcz9_0
        try clear hcz9_1
        try clear hfz10_0
        try clear hfz10_1
        try clear hfz13_0
        try clear hfz13_1
        try clear hfz14_0
        try clear hfz14_1
        try clear hfz15_0
        try clear hfz15_1
        try clear hfz19_0
        try clear hfz19_1
        try clear hfz25_0
        try clear hfz25_1
        try clear hfz29_0
        try clear hfz29_1
        try clear hfz35_0
        try clear hfz35_1
        try clear hfz36_0
        try clear hfz36_1
        try clear hfz41_0
        try clear hfz41_1
        try clear hfz42_0
        try clear hfz42_1
        try clear hfz47_0
        try clear hfz47_1
        try clear hfz48_0
        try clear hfz48_1
        try clear hfz53_0
        try clear hfz53_1
        try clear hfz54_0
        try clear hfz54_1
        try clear hfz9_0
        try clear hfz9_1
        try clear p2
        obtain ⟨kq, x1_27, rfl, HA, HJ27, BK170, HB⟩ := hcut
        cases kq with
        | zero => exact absurd HA.out (by simp [spokeshaveref1_Binary.j6])
        | succ kj27 =>
         have H := HA.out
         clear HA
         simp only [spokeshaveref1_Binary.j6] at H
         have HC55 := Aside0.mk H
         clear H
         go_upto_region 28 with (fail)
         go_cut [104] (fun v104 wc => ∃ (kq : Nat) (x104_54 : Bool), v104 = .bool x104_54 ∧ Aside0 (spokeshaveref1_Binary.j7 kq x1_27 t171 t174 x104_54 a0_0 a0_1 = some (r1, r2)) ∧ Aside0 (kq ≤ kj27) ∧ Aside0 (wc.heap[gb170]? = some (.cells #[.int .i64 a0_0, .bool a0_1] 26 (0, 0))) ∧ Aside0 (Below w.heap.size w wc))
         case first =>
          have H := HC55.out
          clear HC55
          by_cases c56 : a0_1 = true
          ·
           subst c56
           have H1 : ((spokeshaveref1_over.f x1_27 t171 t174).bind fun t175 => (if t175 = true then (spokeshaveref1_Binary.j7 kj27 x1_27 t171 t174 true a0_0 true) else (if x1_27 = 5 then (if t174 = (-1) then ((spokeshaveref1_Wrap.f a0_0 true (wrap64 (-t171))).bind fun t176 => (if t176 = t171 then (spokeshaveref1_Binary.j7 kj27 x1_27 t171 t174 (t171 != 0) a0_0 true) else (spokeshaveref1_Binary.j7 kj27 x1_27 t171 t174 false a0_0 true))) else (spokeshaveref1_Binary.j7 kj27 x1_27 t171 t174 false a0_0 true)) else (spokeshaveref1_Binary.j7 kj27 x1_27 t171 t174 false a0_0 true)))) = some (r1, r2) := by rw [if_pos rfl] at H; exact H
           clear H
           have H := H1
           clear H1
           replace H := Option.bind_eq_some_iff.mp H
           obtain ⟨t175, A570, H⟩ := H
           replace H : (if t175 = true then (spokeshaveref1_Binary.j7 kj27 x1_27 t171 t174 true a0_0 true) else (if x1_27 = 5 then (if t174 = (-1) then ((spokeshaveref1_Wrap.f a0_0 true (wrap64 (-t171))).bind fun t176 => (if t176 = t171 then (spokeshaveref1_Binary.j7 kj27 x1_27 t171 t174 (t171 != 0) a0_0 true) else (spokeshaveref1_Binary.j7 kj27 x1_27 t171 t174 false a0_0 true))) else (spokeshaveref1_Binary.j7 kj27 x1_27 t171 t174 false a0_0 true)) else (spokeshaveref1_Binary.j7 kj27 x1_27 t171 t174 false a0_0 true))) = some (r1, r2) := H
           have A57 := Aside0.mk A570
           clear A570
           by_cases c58 : t175 = true
           ·
            subst c58
            have H1 : (spokeshaveref1_Binary.j7 kj27 x1_27 t171 t174 true a0_0 true) = some (r1, r2) := by rw [if_pos rfl] at H; exact H
            clear H
            have H := H1
            clear H1
            have H' := Aside0.mk H
            clear H
            have hcz59_0 : wc.cell? ⟨gb170, 0, none⟩ = some (.int .i64 a0_0) := (blk_cell BK170.out 0).trans rfl
            have hcz59_1 : wc.cell? ⟨gb170, 1, none⟩ = some (.bool true) := (blk_cell BK170.out 1).trans rfl
            have hfz59_0 := blk_frozen BK170.out 0
            have hfz59_1 := blk_frozen BK170.out 1
            go_wp2_with (first | (go_at_call 38; (with_reducible refine (spokeshaveref1_over.calls x1_27 t171 t174 true _ A57.out).mono ?_); rintro e w' ⟨rfl, ⟨nd, rfl⟩⟩))
            go_meet
            case rel => exact ⟨_, (true), (by first | rfl | (simp; done) | (simp [*]; done)), H', ⟨by have := HJ4.out; have := HJ17.out; have := HJ27.out; first | omega | exact Nat.le_refl _⟩, ⟨by (with_reducible repeat (first | refine blk_drewN ?_ _ | refine blk_drew ?_ | refine blk_alloc ?_ _)); exact BK170.out⟩, ⟨by repeat (first | (with_reducible first | exact HB.out | apply below_alloc | apply pw_below_drewN | apply below_drew1 | refine below_set ?_ GE170.out) | exact HB.out)⟩⟩
           ·
            replace c58 := Bool.eq_false_iff.mpr c58
            subst c58
            have H1 : (if x1_27 = 5 then (if t174 = (-1) then ((spokeshaveref1_Wrap.f a0_0 true (wrap64 (-t171))).bind fun t176 => (if t176 = t171 then (spokeshaveref1_Binary.j7 kj27 x1_27 t171 t174 (t171 != 0) a0_0 true) else (spokeshaveref1_Binary.j7 kj27 x1_27 t171 t174 false a0_0 true))) else (spokeshaveref1_Binary.j7 kj27 x1_27 t171 t174 false a0_0 true)) else (spokeshaveref1_Binary.j7 kj27 x1_27 t171 t174 false a0_0 true)) = some (r1, r2) := by rw [if_neg (show ¬ (false = true) by decide)] at H; exact H
            clear H
            have H := H1
            clear H1
            by_cases c60 : x1_27 = 5
            ·
             rw [if_pos c60] at H
             have c60b0 : (x1_27 == 5) = true := beq_iff_eq.mpr c60
             have c60b1 : (x1_27 != 5) = false := bne_eq_false_iff_eq.mpr c60
             clear c60
             (first | rw [c60b0] | (simp only [i64_w, i32_w]; rw [c60b0]) | skip)
             by_cases c61 : t174 = (-1)
             ·
              rw [if_pos c61] at H
              have c61b0 : (t174 == (-1)) = true := beq_iff_eq.mpr c61
              have c61b1 : (t174 != (-1)) = false := bne_eq_false_iff_eq.mpr c61
              clear c61
              replace H := Option.bind_eq_some_iff.mp H
              obtain ⟨t176, A620, H⟩ := H
              replace H : (if t176 = t171 then (spokeshaveref1_Binary.j7 kj27 x1_27 t171 t174 (t171 != 0) a0_0 true) else (spokeshaveref1_Binary.j7 kj27 x1_27 t171 t174 false a0_0 true)) = some (r1, r2) := H
              have A62 := Aside0.mk A620
              clear A620
              by_cases c63 : t176 = t171
              ·
               rw [if_pos c63] at H
               have c63b0 : (t176 == t171) = true := beq_iff_eq.mpr c63
               have c63b1 : (t176 != t171) = false := bne_eq_false_iff_eq.mpr c63
               clear c63
               have H' := Aside0.mk H
               clear H
               have hcz64_0 : wc.cell? ⟨gb170, 0, none⟩ = some (.int .i64 a0_0) := (blk_cell BK170.out 0).trans rfl
               have hcz64_1 : wc.cell? ⟨gb170, 1, none⟩ = some (.bool true) := (blk_cell BK170.out 1).trans rfl
               have hfz64_0 := blk_frozen BK170.out 0
               have hfz64_1 := blk_frozen BK170.out 1
               go_wp2_with (first | (go_at_call 38; (with_reducible refine (spokeshaveref1_over.calls x1_27 t171 t174 false _ A57.out).mono ?_); rintro e w' ⟨rfl, ⟨nd, rfl⟩⟩) | (go_at_call 11; (with_reducible refine (spokeshaveref1_Wrap.calls a0_0 true (wrap64 (-t171)) t176 _ A62.out).mono ?_); rintro e w65 ⟨rfl, hb⟩; have n0_ := Aside0.mk (blk_below (g := gb170) (o := .cells #[.int .i64 a0_0, .bool true] 26 (0, 0)) (by (with_reducible repeat (first | refine blk_drewN ?_ _ | refine blk_drew ?_ | refine blk_alloc ?_ _)); exact BK170.out) hb); have n1_ := Aside0.mk (below_step (by repeat (first | (with_reducible first | exact HB.out | apply below_alloc | apply pw_below_drewN | apply below_drew1 | refine below_set ?_ GE170.out) | exact HB.out)) hb); clear BK170; clear HB; have BK170 := n0_; have HB := n1_; clear n0_ n1_; (try clear hb); (try clear hb2); (try clear hk); (try clear hi)))
               go_meet
               case rel => exact ⟨_, ((t171 != 0)), (by first | rfl | (simp; done) | (simp [*]; done)), H', ⟨by have := HJ4.out; have := HJ17.out; have := HJ27.out; first | omega | exact Nat.le_refl _⟩, ⟨by (with_reducible repeat (first | refine blk_drewN ?_ _ | refine blk_drew ?_ | refine blk_alloc ?_ _)); exact BK170.out⟩, ⟨by repeat (first | (with_reducible first | exact HB.out | apply below_alloc | apply pw_below_drewN | apply below_drew1 | refine below_set ?_ GE170.out) | exact HB.out)⟩⟩
              ·
               rw [if_neg c63] at H
               have c63b0 : (t176 == t171) = false := beq_eq_false_iff_ne.mpr c63
               have c63b1 : (t176 != t171) = true := bne_iff_ne.mpr c63
               have H' := Aside0.mk H
               clear H
               have hcz66_0 : wc.cell? ⟨gb170, 0, none⟩ = some (.int .i64 a0_0) := (blk_cell BK170.out 0).trans rfl
               have hcz66_1 : wc.cell? ⟨gb170, 1, none⟩ = some (.bool true) := (blk_cell BK170.out 1).trans rfl
               have hfz66_0 := blk_frozen BK170.out 0
               have hfz66_1 := blk_frozen BK170.out 1
               go_wp2_with (first | (go_at_call 38; (with_reducible refine (spokeshaveref1_over.calls x1_27 t171 t174 false _ A57.out).mono ?_); rintro e w' ⟨rfl, ⟨nd, rfl⟩⟩) | (go_at_call 11; (with_reducible refine (spokeshaveref1_Wrap.calls a0_0 true (wrap64 (-t171)) t176 _ A62.out).mono ?_); rintro e w67 ⟨rfl, hb⟩; have n0_ := Aside0.mk (blk_below (g := gb170) (o := .cells #[.int .i64 a0_0, .bool true] 26 (0, 0)) (by (with_reducible repeat (first | refine blk_drewN ?_ _ | refine blk_drew ?_ | refine blk_alloc ?_ _)); exact BK170.out) hb); have n1_ := Aside0.mk (below_step (by repeat (first | (with_reducible first | exact HB.out | apply below_alloc | apply pw_below_drewN | apply below_drew1 | refine below_set ?_ GE170.out) | exact HB.out)) hb); clear BK170; clear HB; have BK170 := n0_; have HB := n1_; clear n0_ n1_; (try clear hb); (try clear hb2); (try clear hk); (try clear hi)))
               go_meet
               case rel => exact ⟨_, (false), (by first | rfl | (simp; done) | (simp [*]; done)), H', ⟨by have := HJ4.out; have := HJ17.out; have := HJ27.out; first | omega | exact Nat.le_refl _⟩, ⟨by (with_reducible repeat (first | refine blk_drewN ?_ _ | refine blk_drew ?_ | refine blk_alloc ?_ _)); exact BK170.out⟩, ⟨by repeat (first | (with_reducible first | exact HB.out | apply below_alloc | apply pw_below_drewN | apply below_drew1 | refine below_set ?_ GE170.out) | exact HB.out)⟩⟩
             ·
              rw [if_neg c61] at H
              have c61b0 : (t174 == (-1)) = false := beq_eq_false_iff_ne.mpr c61
              have c61b1 : (t174 != (-1)) = true := bne_iff_ne.mpr c61
              have H' := Aside0.mk H
              clear H
              have hcz68_0 : wc.cell? ⟨gb170, 0, none⟩ = some (.int .i64 a0_0) := (blk_cell BK170.out 0).trans rfl
              have hcz68_1 : wc.cell? ⟨gb170, 1, none⟩ = some (.bool true) := (blk_cell BK170.out 1).trans rfl
              have hfz68_0 := blk_frozen BK170.out 0
              have hfz68_1 := blk_frozen BK170.out 1
              go_wp2_with (first | (go_at_call 38; (with_reducible refine (spokeshaveref1_over.calls x1_27 t171 t174 false _ A57.out).mono ?_); rintro e w' ⟨rfl, ⟨nd, rfl⟩⟩))
              go_meet
              case rel => exact ⟨_, (false), (by first | rfl | (simp; done) | (simp [*]; done)), H', ⟨by have := HJ4.out; have := HJ17.out; have := HJ27.out; first | omega | exact Nat.le_refl _⟩, ⟨by (with_reducible repeat (first | refine blk_drewN ?_ _ | refine blk_drew ?_ | refine blk_alloc ?_ _)); exact BK170.out⟩, ⟨by repeat (first | (with_reducible first | exact HB.out | apply below_alloc | apply pw_below_drewN | apply below_drew1 | refine below_set ?_ GE170.out) | exact HB.out)⟩⟩
            ·
             rw [if_neg c60] at H
             have c60b0 : (x1_27 == 5) = false := beq_eq_false_iff_ne.mpr c60
             have c60b1 : (x1_27 != 5) = true := bne_iff_ne.mpr c60
             (first | rw [c60b0] | (simp only [i64_w, i32_w]; rw [c60b0]) | skip)
             have H' := Aside0.mk H
             clear H
             have hcz69_0 : wc.cell? ⟨gb170, 0, none⟩ = some (.int .i64 a0_0) := (blk_cell BK170.out 0).trans rfl
             have hcz69_1 : wc.cell? ⟨gb170, 1, none⟩ = some (.bool true) := (blk_cell BK170.out 1).trans rfl
             have hfz69_0 := blk_frozen BK170.out 0
             have hfz69_1 := blk_frozen BK170.out 1
             go_wp2_with (first | (go_at_call 38; (with_reducible refine (spokeshaveref1_over.calls x1_27 t171 t174 false _ A57.out).mono ?_); rintro e w' ⟨rfl, ⟨nd, rfl⟩⟩))
             go_meet
             case rel => exact ⟨_, (false), (by first | rfl | (simp; done) | (simp [*]; done)), H', ⟨by have := HJ4.out; have := HJ17.out; have := HJ27.out; first | omega | exact Nat.le_refl _⟩, ⟨by (with_reducible repeat (first | refine blk_drewN ?_ _ | refine blk_drew ?_ | refine blk_alloc ?_ _)); exact BK170.out⟩, ⟨by repeat (first | (with_reducible first | exact HB.out | apply below_alloc | apply pw_below_drewN | apply below_drew1 | refine below_set ?_ GE170.out) | exact HB.out)⟩⟩
          ·
           replace c56 := Bool.eq_false_iff.mpr c56
           subst c56
           have H1 : (if x1_27 = 5 then (if t174 = (-1) then ((spokeshaveref1_Wrap.f a0_0 false (wrap64 (-t171))).bind fun t177 => (if t177 = t171 then (spokeshaveref1_Binary.j7 kj27 x1_27 t171 t174 (t171 != 0) a0_0 false) else (spokeshaveref1_Binary.j7 kj27 x1_27 t171 t174 false a0_0 false))) else (spokeshaveref1_Binary.j7 kj27 x1_27 t171 t174 false a0_0 false)) else (spokeshaveref1_Binary.j7 kj27 x1_27 t171 t174 false a0_0 false)) = some (r1, r2) := by rw [if_neg (show ¬ (false = true) by decide)] at H; exact H
           clear H
           have H := H1
           clear H1
           by_cases c70 : x1_27 = 5
           ·
            rw [if_pos c70] at H
            have c70b0 : (x1_27 == 5) = true := beq_iff_eq.mpr c70
            have c70b1 : (x1_27 != 5) = false := bne_eq_false_iff_eq.mpr c70
            clear c70
            by_cases c71 : t174 = (-1)
            ·
             rw [if_pos c71] at H
             have c71b0 : (t174 == (-1)) = true := beq_iff_eq.mpr c71
             have c71b1 : (t174 != (-1)) = false := bne_eq_false_iff_eq.mpr c71
             clear c71
             replace H := Option.bind_eq_some_iff.mp H
             obtain ⟨t177, A720, H⟩ := H
             replace H : (if t177 = t171 then (spokeshaveref1_Binary.j7 kj27 x1_27 t171 t174 (t171 != 0) a0_0 false) else (spokeshaveref1_Binary.j7 kj27 x1_27 t171 t174 false a0_0 false)) = some (r1, r2) := H
             have A72 := Aside0.mk A720
             clear A720
             by_cases c73 : t177 = t171
             ·
              rw [if_pos c73] at H
              have c73b0 : (t177 == t171) = true := beq_iff_eq.mpr c73
              have c73b1 : (t177 != t171) = false := bne_eq_false_iff_eq.mpr c73
              clear c73
              have H' := Aside0.mk H
              clear H
              have hcz74_0 : wc.cell? ⟨gb170, 0, none⟩ = some (.int .i64 a0_0) := (blk_cell BK170.out 0).trans rfl
              have hcz74_1 : wc.cell? ⟨gb170, 1, none⟩ = some (.bool false) := (blk_cell BK170.out 1).trans rfl
              have hfz74_0 := blk_frozen BK170.out 0
              have hfz74_1 := blk_frozen BK170.out 1
              go_wp2_with (first | (go_at_call 11; (with_reducible refine (spokeshaveref1_Wrap.calls a0_0 false (wrap64 (-t171)) t177 _ A72.out).mono ?_); rintro e w75 ⟨rfl, hb⟩; have n0_ := Aside0.mk (blk_below (g := gb170) (o := .cells #[.int .i64 a0_0, .bool false] 26 (0, 0)) (by (with_reducible repeat (first | refine blk_drewN ?_ _ | refine blk_drew ?_ | refine blk_alloc ?_ _)); exact BK170.out) hb); have n1_ := Aside0.mk (below_step (by repeat (first | (with_reducible first | exact HB.out | apply below_alloc | apply pw_below_drewN | apply below_drew1 | refine below_set ?_ GE170.out) | exact HB.out)) hb); clear BK170; clear HB; have BK170 := n0_; have HB := n1_; clear n0_ n1_; (try clear hb); (try clear hb2); (try clear hk); (try clear hi)))
              go_meet
              case rel => exact ⟨_, ((t171 != 0)), (by first | rfl | (simp; done) | (simp [*]; done)), H', ⟨by have := HJ4.out; have := HJ17.out; have := HJ27.out; first | omega | exact Nat.le_refl _⟩, ⟨by (with_reducible repeat (first | refine blk_drewN ?_ _ | refine blk_drew ?_ | refine blk_alloc ?_ _)); exact BK170.out⟩, ⟨by repeat (first | (with_reducible first | exact HB.out | apply below_alloc | apply pw_below_drewN | apply below_drew1 | refine below_set ?_ GE170.out) | exact HB.out)⟩⟩
             ·
              rw [if_neg c73] at H
              have c73b0 : (t177 == t171) = false := beq_eq_false_iff_ne.mpr c73
              have c73b1 : (t177 != t171) = true := bne_iff_ne.mpr c73
              have H' := Aside0.mk H
              clear H
              have hcz76_0 : wc.cell? ⟨gb170, 0, none⟩ = some (.int .i64 a0_0) := (blk_cell BK170.out 0).trans rfl
              have hcz76_1 : wc.cell? ⟨gb170, 1, none⟩ = some (.bool false) := (blk_cell BK170.out 1).trans rfl
              have hfz76_0 := blk_frozen BK170.out 0
              have hfz76_1 := blk_frozen BK170.out 1
              go_wp2_with (first | (go_at_call 11; (with_reducible refine (spokeshaveref1_Wrap.calls a0_0 false (wrap64 (-t171)) t177 _ A72.out).mono ?_); rintro e w77 ⟨rfl, hb⟩; have n0_ := Aside0.mk (blk_below (g := gb170) (o := .cells #[.int .i64 a0_0, .bool false] 26 (0, 0)) (by (with_reducible repeat (first | refine blk_drewN ?_ _ | refine blk_drew ?_ | refine blk_alloc ?_ _)); exact BK170.out) hb); have n1_ := Aside0.mk (below_step (by repeat (first | (with_reducible first | exact HB.out | apply below_alloc | apply pw_below_drewN | apply below_drew1 | refine below_set ?_ GE170.out) | exact HB.out)) hb); clear BK170; clear HB; have BK170 := n0_; have HB := n1_; clear n0_ n1_; (try clear hb); (try clear hb2); (try clear hk); (try clear hi)))
              go_meet
              case rel => exact ⟨_, (false), (by first | rfl | (simp; done) | (simp [*]; done)), H', ⟨by have := HJ4.out; have := HJ17.out; have := HJ27.out; first | omega | exact Nat.le_refl _⟩, ⟨by (with_reducible repeat (first | refine blk_drewN ?_ _ | refine blk_drew ?_ | refine blk_alloc ?_ _)); exact BK170.out⟩, ⟨by repeat (first | (with_reducible first | exact HB.out | apply below_alloc | apply pw_below_drewN | apply below_drew1 | refine below_set ?_ GE170.out) | exact HB.out)⟩⟩
            ·
             rw [if_neg c71] at H
             have c71b0 : (t174 == (-1)) = false := beq_eq_false_iff_ne.mpr c71
             have c71b1 : (t174 != (-1)) = true := bne_iff_ne.mpr c71
             have H' := Aside0.mk H
             clear H
             have hcz78_0 : wc.cell? ⟨gb170, 0, none⟩ = some (.int .i64 a0_0) := (blk_cell BK170.out 0).trans rfl
             have hcz78_1 : wc.cell? ⟨gb170, 1, none⟩ = some (.bool false) := (blk_cell BK170.out 1).trans rfl
             have hfz78_0 := blk_frozen BK170.out 0
             have hfz78_1 := blk_frozen BK170.out 1
             go_wp2
             go_meet
             case rel => exact ⟨_, (false), (by first | rfl | (simp; done) | (simp [*]; done)), H', ⟨by have := HJ4.out; have := HJ17.out; have := HJ27.out; first | omega | exact Nat.le_refl _⟩, ⟨by (with_reducible repeat (first | refine blk_drewN ?_ _ | refine blk_drew ?_ | refine blk_alloc ?_ _)); exact BK170.out⟩, ⟨by repeat (first | (with_reducible first | exact HB.out | apply below_alloc | apply pw_below_drewN | apply below_drew1 | refine below_set ?_ GE170.out) | exact HB.out)⟩⟩
           ·
            rw [if_neg c70] at H
            have c70b0 : (x1_27 == 5) = false := beq_eq_false_iff_ne.mpr c70
            have c70b1 : (x1_27 != 5) = true := bne_iff_ne.mpr c70
            have H' := Aside0.mk H
            clear H
            have hcz79_0 : wc.cell? ⟨gb170, 0, none⟩ = some (.int .i64 a0_0) := (blk_cell BK170.out 0).trans rfl
            have hcz79_1 : wc.cell? ⟨gb170, 1, none⟩ = some (.bool false) := (blk_cell BK170.out 1).trans rfl
            have hfz79_0 := blk_frozen BK170.out 0
            have hfz79_1 := blk_frozen BK170.out 1
            go_wp2
            go_meet
            case rel => exact ⟨_, (false), (by first | rfl | (simp; done) | (simp [*]; done)), H', ⟨by have := HJ4.out; have := HJ17.out; have := HJ27.out; first | omega | exact Nat.le_refl _⟩, ⟨by (with_reducible repeat (first | refine blk_drewN ?_ _ | refine blk_drew ?_ | refine blk_alloc ?_ _)); exact BK170.out⟩, ⟨by repeat (first | (with_reducible first | exact HB.out | apply below_alloc | apply pw_below_drewN | apply below_drew1 | refine below_set ?_ GE170.out) | exact HB.out)⟩⟩
         case rest =>
          clear HC55
          try clear c1
          try clear c2
          try clear p2
          try clear c3
          try clear c4
          try clear c5
          try clear c6
          try clear p6
          try clear c7
          try clear c7b0
          try clear c7b1
          try clear c8
          try clear c8b0
          try clear c11
          try clear c11b0
          try clear c11b1
          try clear c12
          try clear c12b0
          try clear c15
          try clear c16
          try clear c21
          try clear c21b0
          try clear c21b1
          try clear c22
          try clear c22b0
          try clear c22b1
          try clear c23
          try clear c32
          try clear c32b0
          try clear c32b1
          try clear c33
          try clear c34
          try clear c37
          try clear c38
          try clear c38b0
          try clear c38b1
          try clear c39
          try clear c40
          try clear c44
          try clear c44b0
          try clear c44b1
          try clear c45
          try clear c46
          try clear c50
          try clear c50b0
          try clear c50b1
          try clear c51
          try clear c52
          try clear c56
          try clear c58
          try clear c60
          try clear c60b0
          try clear c60b1
          try clear c61
          try clear c61b0
          try clear c61b1
          try clear c63
          try clear c63b0
          try clear c63b1
          try clear p64
          try clear c70
          try clear c70b0
          try clear c70b1
          try clear c71
          try clear c71b0
          try clear c71b1
          try clear c73
          try clear c73b0
          try clear c73b1
          try clear hcz10_0
          try clear hcz10_1
          try clear hcz13_0
          try clear hcz13_1
          try clear hcz14_0
          try clear hcz14_1
          try clear hcz15_0
          try clear hcz15_1
          try clear hcz19_0
          try clear hcz19_1
          try clear hcz25_0
          try clear hcz25_1
          try clear hcz29_0
          try clear hcz29_1
          try clear hcz35_0
          try clear hcz35_1
          try clear hcz36_0
          try clear hcz36_1
          try clear hcz41_0
          try clear hcz41_1
          try clear hcz42_0
          try clear hcz42_1
          try clear hcz47_0
          try clear hcz47_1
          try clear hcz48_0
          try clear hcz48_1
          try clear hcz53_0
          try clear hcz53_1
          try clear hcz54_0
          try clear hcz54_1
          try clear hcz59_0
          try clear hcz59_1
          try clear hcz64_0
          try clear hcz64_1
          try clear hcz66_0
          try clear hcz66_1
          try clear hcz68_0
          try clear hcz68_1
          try clear hcz69_0
          try clear hcz69_1
          try clear hcz74_0
          try clear hcz74_1
          try clear hcz76_0
          try clear hcz76_1
          try clear hcz78_0
          try clear hcz78_1
          try clear hcz79_0
          try clear hcz79_1
          try clear hcz9_0
          try clear hcz9_1
          try clear hfz10_0
          try clear hfz10_1
          try clear hfz13_0
          try clear hfz13_1
          try clear hfz14_0
          try clear hfz14_1
          try clear hfz15_0
          try clear hfz15_1
          try clear hfz19_0
          try clear hfz19_1
          try clear hfz25_0
          try clear hfz25_1
          try clear hfz29_0
          try clear hfz29_1
          try clear hfz35_0
          try clear hfz35_1
          try clear hfz36_0
          try clear hfz36_1
          try clear hfz41_0
          try clear hfz41_1
          try clear hfz42_0
          try clear hfz42_1
          try clear hfz47_0
          try clear hfz47_1
          try clear hfz48_0
          try clear hfz48_1
          try clear hfz53_0
          try clear hfz53_1
          try clear hfz54_0
          try clear hfz54_1
          try clear hfz59_0
          try clear hfz59_1
          try clear hfz64_0
          try clear hfz64_1
          try clear hfz66_0
          try clear hfz66_1
          try clear hfz68_0
          try clear hfz68_1
          try clear hfz69_0
          try clear hfz69_1
          try clear hfz74_0
          try clear hfz74_1
          try clear hfz76_0
          try clear hfz76_1
          try clear hfz78_0
          try clear hfz78_1
          try clear hfz79_0
          try clear hfz79_1
          try clear hfz9_0
          try clear hfz9_1
          try clear p2
          obtain ⟨kq, x104_54, rfl, HA, HJ54, BK170, HB⟩ := hcut
          cases kq with
          | zero => exact absurd HA.out (by simp [spokeshaveref1_Binary.j7])
          | succ kj54 =>
           have H := HA.out
           clear HA
           simp only [spokeshaveref1_Binary.j7] at H
           by_cases c80 : x104_54 = true
           ·
            subst c80
            have H1 : (some (0, false)) = some (r1, r2) := by rw [if_pos rfl] at H; exact H
            clear H
            have H := H1
            clear H1
            simp only [Option.some.injEq, Prod.mk.injEq] at H
            obtain ⟨rfl, rfl⟩ := H
            go_wp2
            go_ret2
            exact ⟨by first | rfl | (simp [errW_none, errW_some] <;> rfl) | (simp [*, errW_none, errW_some] <;> rfl), by repeat (first | (with_reducible first | exact HB.out | apply below_alloc | apply pw_below_drewN | apply below_drew1 | refine below_set ?_ GE170.out) | exact HB.out)⟩
           ·
            replace c80 := Bool.eq_false_iff.mpr c80
            subst c80
            have H1 : ((spokeshaveref1_Plain.f kj54 x1_27 t171 t174).bind fun bt178 => (if bt178.2 = true then (if a0_1 = true then ((spokeshaveref1_Wrap.f a0_0 a0_1 bt178.1).bind fun t180 => (if t180 = bt178.1 then ((spokeshaveref1_Wrap.f a0_0 a0_1 bt178.1).bind fun t181 => (some (t181, true))) else (some (0, false)))) else ((spokeshaveref1_Wrap.f a0_0 a0_1 bt178.1).bind fun t182 => (some (t182, true)))) else (some (0, false)))) = some (r1, r2) := by rw [if_neg (show ¬ (false = true) by decide)] at H; exact H
            clear H
            have H := H1
            clear H1
            replace H := Option.bind_eq_some_iff.mp H
            obtain ⟨⟨t178, t179⟩, A810, H⟩ := H
            replace H : (if t179 = true then (if a0_1 = true then ((spokeshaveref1_Wrap.f a0_0 a0_1 t178).bind fun t180 => (if t180 = t178 then ((spokeshaveref1_Wrap.f a0_0 a0_1 t178).bind fun t181 => (some (t181, true))) else (some (0, false)))) else ((spokeshaveref1_Wrap.f a0_0 a0_1 t178).bind fun t182 => (some (t182, true)))) else (some (0, false))) = some (r1, r2) := H
            have A81 := Aside0.mk A810
            clear A810
            by_cases c82 : t179 = true
            ·
             subst c82
             have H1 : (if a0_1 = true then ((spokeshaveref1_Wrap.f a0_0 a0_1 t178).bind fun t180 => (if t180 = t178 then ((spokeshaveref1_Wrap.f a0_0 a0_1 t178).bind fun t181 => (some (t181, true))) else (some (0, false)))) else ((spokeshaveref1_Wrap.f a0_0 a0_1 t178).bind fun t182 => (some (t182, true)))) = some (r1, r2) := by rw [if_pos rfl] at H; exact H
             clear H
             have H := H1
             clear H1
             by_cases c83 : a0_1 = true
             ·
              subst c83
              have H1 : ((spokeshaveref1_Wrap.f a0_0 true t178).bind fun t180 => (if t180 = t178 then ((spokeshaveref1_Wrap.f a0_0 true t178).bind fun t181 => (some (t181, true))) else (some (0, false)))) = some (r1, r2) := by rw [if_pos rfl] at H; exact H
              clear H
              have H := H1
              clear H1
              replace H := Option.bind_eq_some_iff.mp H
              obtain ⟨t180, A840, H⟩ := H
              replace H : (if t180 = t178 then ((spokeshaveref1_Wrap.f a0_0 true t178).bind fun t181 => (some (t181, true))) else (some (0, false))) = some (r1, r2) := H
              have A84 := Aside0.mk A840
              clear A840
              by_cases c85 : t180 = t178
              ·
               rw [if_pos c85] at H
               have c85b0 : (t180 == t178) = true := beq_iff_eq.mpr c85
               have c85b1 : (t180 != t178) = false := bne_eq_false_iff_eq.mpr c85
               clear c85
               replace H := Option.bind_eq_some_iff.mp H
               obtain ⟨t181, A860, H⟩ := H
               replace H : (some (t181, true)) = some (r1, r2) := H
               have A86 := Aside0.mk A860
               clear A860
               simp only [Option.some.injEq, Prod.mk.injEq] at H
               obtain ⟨rfl, rfl⟩ := H
               go_wp2_with (first | ((with_reducible refine gate_callee (f := 22) rfl ?_); refine goesL_ (some 109) rfl rfl Tryd.func22 (by kernel_rfl) rfl #[.int .i64 x1_27, .int .i64 t171, .int .i64 t174] rfl (by (try simp only [List.map_toArray, List.map_cons, List.map_nil]); first | done | rfl | (simp only [List.length_drop, List.length_take]; rfl)) ?_; (with_reducible refine (spokeshaveref1_Plain.calls kj54 x1_27 t171 t174 t178 true _ A81.out).mono ?_); rintro e w' ⟨rfl, ⟨nd, rfl⟩⟩; refine ⟨_, rfl, ?_⟩; have hcz87_0 : wc.cell? ⟨gb170, 0, none⟩ = some (.int .i64 a0_0) := (blk_cell BK170.out 0).trans rfl; have hcz87_1 : wc.cell? ⟨gb170, 1, none⟩ = some (.bool true) := (blk_cell BK170.out 1).trans rfl; have hfz87_0 := blk_frozen BK170.out 0; have hfz87_1 := blk_frozen BK170.out 1) | (go_at_call 11; (with_reducible refine (spokeshaveref1_Wrap.calls a0_0 true t178 t180 _ A84.out).mono ?_); rintro e w88 ⟨rfl, hb⟩; have n0_ := Aside0.mk (blk_below (g := gb170) (o := .cells #[.int .i64 a0_0, .bool true] 26 (0, 0)) (by (with_reducible repeat (first | refine blk_drewN ?_ _ | refine blk_drew ?_ | refine blk_alloc ?_ _)); exact BK170.out) hb); have n1_ := Aside0.mk (below_step (by repeat (first | (with_reducible first | exact HB.out | apply below_alloc | apply pw_below_drewN | apply below_drew1 | refine below_set ?_ GE170.out) | exact HB.out)) hb); clear BK170; clear HB; have BK170 := n0_; have HB := n1_; clear n0_ n1_; (try clear hb); (try clear hb2); (try clear hk); (try clear hi); have hcz89_0 : w88.cell? ⟨gb170, 0, none⟩ = some (.int .i64 a0_0) := (blk_cell BK170.out 0).trans rfl; have hcz89_1 : w88.cell? ⟨gb170, 1, none⟩ = some (.bool true) := (blk_cell BK170.out 1).trans rfl; have hfz89_0 := blk_frozen BK170.out 0; have hfz89_1 := blk_frozen BK170.out 1) | ((with_reducible refine gate_callee (f := 11) rfl ?_); refine goesL_ (some 127) rfl rfl Tryd.func11 (by kernel_rfl) rfl #[.agg #[.int .i64 a0_0, .bool true], .int .i64 t178] rfl (by (try simp only [List.map_toArray, List.map_cons, List.map_nil]); first | done | rfl | (simp only [List.length_drop, List.length_take]; rfl)) ?_; (with_reducible refine (spokeshaveref1_Wrap.calls a0_0 true t178 t181 _ A86.out).mono ?_); rintro e w90 ⟨rfl, hb⟩; refine ⟨_, rfl, ?_⟩; have n0_ := Aside0.mk (blk_below (g := gb170) (o := .cells #[.int .i64 a0_0, .bool true] 26 (0, 0)) (by (with_reducible repeat (first | refine blk_drewN ?_ _ | refine blk_drew ?_ | refine blk_alloc ?_ _)); exact BK170.out) hb); have n1_ := Aside0.mk (below_step (by repeat (first | (with_reducible first | exact HB.out | apply below_alloc | apply pw_below_drewN | apply below_drew1 | refine below_set ?_ GE170.out) | exact HB.out)) hb); clear BK170; clear HB; have BK170 := n0_; have HB := n1_; clear n0_ n1_; (try clear hb); (try clear hb2); (try clear hk); (try clear hi)))
               go_ret2
               exact ⟨by first | rfl | (simp [errW_none, errW_some] <;> rfl) | (simp [*, errW_none, errW_some] <;> rfl), by repeat (first | (with_reducible first | exact HB.out | apply below_alloc | apply pw_below_drewN | apply below_drew1 | refine below_set ?_ GE170.out) | exact HB.out)⟩
              ·
               rw [if_neg c85] at H
               have c85b0 : (t180 == t178) = false := beq_eq_false_iff_ne.mpr c85
               have c85b1 : (t180 != t178) = true := bne_iff_ne.mpr c85
               simp only [Option.some.injEq, Prod.mk.injEq] at H
               obtain ⟨rfl, rfl⟩ := H
               go_wp2_with (first | ((with_reducible refine gate_callee (f := 22) rfl ?_); refine goesL_ (some 109) rfl rfl Tryd.func22 (by kernel_rfl) rfl #[.int .i64 x1_27, .int .i64 t171, .int .i64 t174] rfl (by (try simp only [List.map_toArray, List.map_cons, List.map_nil]); first | done | rfl | (simp only [List.length_drop, List.length_take]; rfl)) ?_; (with_reducible refine (spokeshaveref1_Plain.calls kj54 x1_27 t171 t174 t178 true _ A81.out).mono ?_); rintro e w' ⟨rfl, ⟨nd, rfl⟩⟩; refine ⟨_, rfl, ?_⟩; have hcz91_0 : wc.cell? ⟨gb170, 0, none⟩ = some (.int .i64 a0_0) := (blk_cell BK170.out 0).trans rfl; have hcz91_1 : wc.cell? ⟨gb170, 1, none⟩ = some (.bool true) := (blk_cell BK170.out 1).trans rfl; have hfz91_0 := blk_frozen BK170.out 0; have hfz91_1 := blk_frozen BK170.out 1) | (go_at_call 11; (with_reducible refine (spokeshaveref1_Wrap.calls a0_0 true t178 t180 _ A84.out).mono ?_); rintro e w92 ⟨rfl, hb⟩; have n0_ := Aside0.mk (blk_below (g := gb170) (o := .cells #[.int .i64 a0_0, .bool true] 26 (0, 0)) (by (with_reducible repeat (first | refine blk_drewN ?_ _ | refine blk_drew ?_ | refine blk_alloc ?_ _)); exact BK170.out) hb); have n1_ := Aside0.mk (below_step (by repeat (first | (with_reducible first | exact HB.out | apply below_alloc | apply pw_below_drewN | apply below_drew1 | refine below_set ?_ GE170.out) | exact HB.out)) hb); clear BK170; clear HB; have BK170 := n0_; have HB := n1_; clear n0_ n1_; (try clear hb); (try clear hb2); (try clear hk); (try clear hi)))
               go_ret2
               exact ⟨by first | rfl | (simp [errW_none, errW_some] <;> rfl) | (simp [*, errW_none, errW_some] <;> rfl), by repeat (first | (with_reducible first | exact HB.out | apply below_alloc | apply pw_below_drewN | apply below_drew1 | refine below_set ?_ GE170.out) | exact HB.out)⟩
             ·
              replace c83 := Bool.eq_false_iff.mpr c83
              subst c83
              have H1 : ((spokeshaveref1_Wrap.f a0_0 false t178).bind fun t182 => (some (t182, true))) = some (r1, r2) := by rw [if_neg (show ¬ (false = true) by decide)] at H; exact H
              clear H
              have H := H1
              clear H1
              replace H := Option.bind_eq_some_iff.mp H
              obtain ⟨t182, A930, H⟩ := H
              replace H : (some (t182, true)) = some (r1, r2) := H
              have A93 := Aside0.mk A930
              clear A930
              simp only [Option.some.injEq, Prod.mk.injEq] at H
              obtain ⟨rfl, rfl⟩ := H
              go_wp2_with (first | ((with_reducible refine gate_callee (f := 22) rfl ?_); refine goesL_ (some 109) rfl rfl Tryd.func22 (by kernel_rfl) rfl #[.int .i64 x1_27, .int .i64 t171, .int .i64 t174] rfl (by (try simp only [List.map_toArray, List.map_cons, List.map_nil]); first | done | rfl | (simp only [List.length_drop, List.length_take]; rfl)) ?_; (with_reducible refine (spokeshaveref1_Plain.calls kj54 x1_27 t171 t174 t178 true _ A81.out).mono ?_); rintro e w' ⟨rfl, ⟨nd, rfl⟩⟩; refine ⟨_, rfl, ?_⟩; have hcz94_0 : wc.cell? ⟨gb170, 0, none⟩ = some (.int .i64 a0_0) := (blk_cell BK170.out 0).trans rfl; have hcz94_1 : wc.cell? ⟨gb170, 1, none⟩ = some (.bool false) := (blk_cell BK170.out 1).trans rfl; have hfz94_0 := blk_frozen BK170.out 0; have hfz94_1 := blk_frozen BK170.out 1) | ((with_reducible refine gate_callee (f := 11) rfl ?_); refine goesL_ (some 127) rfl rfl Tryd.func11 (by kernel_rfl) rfl #[.agg #[.int .i64 a0_0, .bool false], .int .i64 t178] rfl (by (try simp only [List.map_toArray, List.map_cons, List.map_nil]); first | done | rfl | (simp only [List.length_drop, List.length_take]; rfl)) ?_; (with_reducible refine (spokeshaveref1_Wrap.calls a0_0 false t178 t182 _ A93.out).mono ?_); rintro e w95 ⟨rfl, hb⟩; refine ⟨_, rfl, ?_⟩; have n0_ := Aside0.mk (blk_below (g := gb170) (o := .cells #[.int .i64 a0_0, .bool false] 26 (0, 0)) (by (with_reducible repeat (first | refine blk_drewN ?_ _ | refine blk_drew ?_ | refine blk_alloc ?_ _)); exact BK170.out) hb); have n1_ := Aside0.mk (below_step (by repeat (first | (with_reducible first | exact HB.out | apply below_alloc | apply pw_below_drewN | apply below_drew1 | refine below_set ?_ GE170.out) | exact HB.out)) hb); clear BK170; clear HB; have BK170 := n0_; have HB := n1_; clear n0_ n1_; (try clear hb); (try clear hb2); (try clear hk); (try clear hi)))
              go_ret2
              exact ⟨by first | rfl | (simp [errW_none, errW_some] <;> rfl) | (simp [*, errW_none, errW_some] <;> rfl), by repeat (first | (with_reducible first | exact HB.out | apply below_alloc | apply pw_below_drewN | apply below_drew1 | refine below_set ?_ GE170.out) | exact HB.out)⟩
            ·
             replace c82 := Bool.eq_false_iff.mpr c82
             subst c82
             have H1 : (some (0, false)) = some (r1, r2) := by rw [if_neg (show ¬ (false = true) by decide)] at H; exact H
             clear H
             have H := H1
             clear H1
             simp only [Option.some.injEq, Prod.mk.injEq] at H
             obtain ⟨rfl, rfl⟩ := H
             go_wp2_with (first | ((with_reducible refine gate_callee (f := 22) rfl ?_); refine goesL_ (some 109) rfl rfl Tryd.func22 (by kernel_rfl) rfl #[.int .i64 x1_27, .int .i64 t171, .int .i64 t174] rfl (by (try simp only [List.map_toArray, List.map_cons, List.map_nil]); first | done | rfl | (simp only [List.length_drop, List.length_take]; rfl)) ?_; (with_reducible refine (spokeshaveref1_Plain.calls kj54 x1_27 t171 t174 t178 false _ A81.out).mono ?_); rintro e w' ⟨rfl, ⟨nd, rfl⟩⟩; refine ⟨_, rfl, ?_⟩))
             go_ret2
             exact ⟨by first | rfl | (simp [errW_none, errW_some] <;> rfl) | (simp [*, errW_none, errW_some] <;> rfl), by repeat (first | (with_reducible first | exact HB.out | apply below_alloc | apply pw_below_drewN | apply below_drew1 | refine below_set ?_ GE170.out) | exact HB.out)⟩

end Go.Proofs.YthkcdmkimnockaaDoor.PWord
