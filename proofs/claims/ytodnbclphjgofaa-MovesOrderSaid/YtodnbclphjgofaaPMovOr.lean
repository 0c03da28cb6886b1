-- PRINTED by print.py (a twelfth state) out of the translation. Not trusted: Lean checks it.
import Derived.Test.YtodnbclphjgofaaMovWalk
import Derived.Test.YtodnbclphjgofaaPMovAw
import Derived.Test.YtodnbclphjgofaaPMovx0
import Derived.Test.YtodnbclphjgofaaPMovx1
import Derived.Test.YtodnbclphjgofaaPMovx2
import Derived.Test.YtodnbclphjgofaaPMovx3
import Derived.Test.YtodnbclphjgofaaPMovOrEq
namespace Go.Proofs.Ytodnbclphjgofaa.PMov
open Go.RowKit Go.Proofs.YtodnbclphjgofaaW.PrintWords Go.Proofs.YtodnbclphjgofaaW.PrintLast Go.Proofs.YtodnbclphjgofaaW.PrintMore
attribute [local go_sem] max2_int min2_int max_two min_two max_three min_three max_four min_four   -- for this text's walks alone
set_option linter.unusedVariables false
set_option linter.unusedSimpArgs false

attribute [local go_sem high] eqA32
/-! ### spokeshavelaw21_MovesOrder: function 3 -/
mutual
def spokeshavelaw21_MovesOrder.j0 : Nat → List (S32) → Int → List (S32) → List (S32) → Bool → List (S36) → Bool → Option (Bool)
 | 0, _, _, _, _, _, _, _ => none
 | k + 1, x0, x1, x5, x6, x7, x8, x46 => if x46 = true then (none) else (spokeshavelaw21_MovesOrder.l0 k x0 x1 x5 x6 x7 x8 0)
def spokeshavelaw21_MovesOrder.l0 : Nat → List (S32) → Int → List (S32) → List (S32) → Bool → List (S36) → Int → Option (Bool)
 | 0, _, _, _, _, _, _, _ => none
 | k + 1, x0, x1, x5, x6, x7, x8, x10 => if x10 < (x0.length : Int) then (if 0 ≤ x10 then (if x10 < (x5.length : Int) then (if (!(((rd_T32 x5 x10).f0) == ((rd_T32 x0 x10).f0)) || (!(((rd_T32 x5 x10).f1) == ((rd_T32 x0 x10).f1)))) = true then (none) else (spokeshavelaw21_MovesOrder.l0 k x0 x1 x5 x6 x7 x8 (wrap64 (x10 + 1)))) else (none)) else (none)) else (if x7 = true then (if (x6.length : Int) > 200 then (spokeshavelaw21_MovesOrder.j2 k x1 x6 x8 true) else ((spokeshaveref21_Least.f k x8).bind fun t118 => (spokeshavelaw21_MovesOrder.j2 k x1 x6 x8 (decide ((x6.length : Int) > t118))))) else (if (x6.length : Int) = 0 then ((spokeshavelaw21_awake.f k).bind fun t117 => (some t117)) else (none)))
def spokeshavelaw21_MovesOrder.j2 : Nat → Int → List (S32) → List (S36) → Bool → Option (Bool)
 | 0, _, _, _, _ => none
 | k + 1, x1, x6, x8, x79 => if x79 = true then (none) else (spokeshavelaw21_MovesOrder.l1 k x1 x6 x8 0)
def spokeshavelaw21_MovesOrder.l1 : Nat → Int → List (S32) → List (S36) → Int → Option (Bool)
 | 0, _, _, _, _ => none
 | k + 1, x1, x6, x8, x11 => if x11 < (x6.length : Int) then (if 0 ≤ x11 then (if ((rd_T32 x6 x11).f0) = ((rd_T32 x6 x11).f1) then (none) else (spokeshavelaw21_MovesOrder.l1 k x1 x6 x8 (wrap64 (x11 + 1)))) else (none)) else ((spokeshavelaw21_of.f k x6).bind fun t121 => ((spokeshaveref21_Done.f k t121).bind fun t124 => (spokeshavelaw21_MovesOrder.l2 k x1 x8 t124 0)))
def spokeshavelaw21_MovesOrder.l2 : Nat → Int → List (S36) → List (S36) → Int → Option (Bool)
 | 0, _, _, _, _ => none
 | k + 1, x1, x8, x12, x13 => if x13 < (x8.length : Int) then (if 0 ≤ x13 then ((spokeshaveref21_Has.f k x12 ((rd_T36 x8 x13).f0)).bind fun t128 => (if t128 = ((rd_T36 x8 x13).f1) then (spokeshavelaw21_MovesOrder.l2 k x1 x8 x12 (wrap64 (x13 + 1))) else (none))) else (none)) else (spokeshavelaw21_MovesOrder.l3 k x1 x8 x12 0)
def spokeshavelaw21_MovesOrder.l3 : Nat → Int → List (S36) → List (S36) → Int → Option (Bool)
 | 0, _, _, _, _ => none
 | k + 1, x1, x8, x12, x14 => if x14 < (x12.length : Int) then (if 0 ≤ x14 then (if ((rd_T36 x12 x14).f0) = x1 then (spokeshavelaw21_MovesOrder.j6 k x1 x8 x12 x14 true) else (spokeshavelaw21_MovesOrder.j6 k x1 x8 x12 x14 (((rd_T36 x12 x14).f1) == ((rd_T36 x12 x14).f0)))) else (none)) else ((spokeshavelaw21_awake.f k).bind fun t130 => (some t130))
def spokeshavelaw21_MovesOrder.j6 : Nat → Int → List (S36) → List (S36) → Int → Bool → Option (Bool)
 | 0, _, _, _, _, _ => none
 | k + 1, x1, x8, x12, x14, x15 => spokeshavelaw21_MovesOrder.l4 k x1 x8 x12 x14 x15 0
def spokeshavelaw21_MovesOrder.l4 : Nat → Int → List (S36) → List (S36) → Int → Bool → Int → Option (Bool)
 | 0, _, _, _, _, _, _ => none
 | k + 1, x1, x8, x12, x14, x15, x16 => if x16 < (x8.length : Int) then (if x15 = true then (spokeshavelaw21_MovesOrder.l4 k x1 x8 x12 x14 true (wrap64 (x16 + 1))) else (if 0 ≤ x16 then (if 0 ≤ x14 then (if x14 < (x12.length : Int) then (spokeshavelaw21_MovesOrder.l4 k x1 x8 x12 x14 (((rd_T36 x8 x16).f0) == ((rd_T36 x12 x14).f0)) (wrap64 (x16 + 1))) else (none)) else (none)) else (none))) else (if x15 = true then (spokeshavelaw21_MovesOrder.l3 k x1 x8 x12 (wrap64 (x14 + 1))) else (none))
end
def spokeshavelaw21_MovesOrder.f (k : Nat) (l0 : List (S32)) (a1 : Int) : Option (Bool) := if (l0.length : Int) > 80 then ((spokeshavelaw21_awake.f k).bind fun t101 => (some t101)) else (if ([] : List (S32)).length + l0.length < 8796093022208 then ((some (([] : List (S32)) ++ l0 : List (S32))).bind fun y102 => ((Mov.moves_Order.f k y102 a1).bind fun bt105 => ((spokeshavelaw21_of.f k l0).bind fun t109 => ((spokeshaveref21_May.f k t109).bind fun t112 => ((Mov.moves_May.f k l0).bind fun t113 => (if (t113 != t112) = true then (spokeshavelaw21_MovesOrder.j0 k l0 a1 y102 bt105.1 bt105.2 t109 true) else (if t112 = true then ((spokeshaveref21_Free.f k t109 a1).bind fun t114 => (spokeshavelaw21_MovesOrder.j0 k l0 a1 y102 bt105.1 bt105.2 t109 (bt105.2 != t114))) else (spokeshavelaw21_MovesOrder.j0 k l0 a1 y102 bt105.1 bt105.2 t109 (bt105.2 != false))))))))) else (none))
theorem spokeshavelaw21_MovesOrder.mono_l : ∀ k, (∀ y0 y1 y2 y3 y4 y5 y6, LeO (spokeshavelaw21_MovesOrder.j0 k y0 y1 y2 y3 y4 y5 y6) (spokeshavelaw21_MovesOrder.j0 (k + 1) y0 y1 y2 y3 y4 y5 y6)) ∧ (∀ y0 y1 y2 y3 y4 y5 y6, LeO (spokeshavelaw21_MovesOrder.l0 k y0 y1 y2 y3 y4 y5 y6) (spokeshavelaw21_MovesOrder.l0 (k + 1) y0 y1 y2 y3 y4 y5 y6)) ∧ (∀ y0 y1 y2 y3, LeO (spokeshavelaw21_MovesOrder.j2 k y0 y1 y2 y3) (spokeshavelaw21_MovesOrder.j2 (k + 1) y0 y1 y2 y3)) ∧ (∀ y0 y1 y2 y3, LeO (spokeshavelaw21_MovesOrder.l1 k y0 y1 y2 y3) (spokeshavelaw21_MovesOrder.l1 (k + 1) y0 y1 y2 y3)) ∧ (∀ y0 y1 y2 y3, LeO (spokeshavelaw21_MovesOrder.l2 k y0 y1 y2 y3) (spokeshavelaw21_MovesOrder.l2 (k + 1) y0 y1 y2 y3)) ∧ (∀ y0 y1 y2 y3, LeO (spokeshavelaw21_MovesOrder.l3 k y0 y1 y2 y3) (spokeshavelaw21_MovesOrder.l3 (k + 1) y0 y1 y2 y3)) ∧ (∀ y0 y1 y2 y3 y4, LeO (spokeshavelaw21_MovesOrder.j6 k y0 y1 y2 y3 y4) (spokeshavelaw21_MovesOrder.j6 (k + 1) y0 y1 y2 y3 y4)) ∧ (∀ y0 y1 y2 y3 y4 y5, LeO (spokeshavelaw21_MovesOrder.l4 k y0 y1 y2 y3 y4 y5) (spokeshavelaw21_MovesOrder.l4 (k + 1) y0 y1 y2 y3 y4 y5))
 | 0 => ⟨fun _ _ _ _ _ _ _ r h => by simp [spokeshavelaw21_MovesOrder.j0] at h, fun _ _ _ _ _ _ _ r h => by simp [spokeshavelaw21_MovesOrder.l0] at h, fun _ _ _ _ r h => by simp [spokeshavelaw21_MovesOrder.j2] at h, fun _ _ _ _ r h => by simp [spokeshavelaw21_MovesOrder.l1] at h, fun _ _ _ _ r h => by simp [spokeshavelaw21_MovesOrder.l2] at h, fun _ _ _ _ r h => by simp [spokeshavelaw21_MovesOrder.l3] at h, fun _ _ _ _ _ r h => by simp [spokeshavelaw21_MovesOrder.j6] at h, fun _ _ _ _ _ _ r h => by simp [spokeshavelaw21_MovesOrder.l4] at h⟩
 | k + 1 => by
  obtain ⟨ih0, ih1, ih2, ih3, ih4, ih5, ih6, ih7⟩ := spokeshavelaw21_MovesOrder.mono_l k
  refine ⟨?_, ?_, ?_, ?_, ?_, ?_, ?_, ?_⟩
  ·
   intro y0 y1 y2 y3 y4 y5 y6
   unfold spokeshavelaw21_MovesOrder.j0
   repeat' first
   | (with_reducible exact ih0 _ _ _ _ _ _ _)
   | (with_reducible exact ih1 _ _ _ _ _ _ _)
   | (with_reducible exact ih2 _ _ _ _)
   | (with_reducible exact ih3 _ _ _ _)
   | (with_reducible exact ih4 _ _ _ _)
   | (with_reducible exact ih5 _ _ _ _)
   | (with_reducible exact ih6 _ _ _ _ _)
   | (with_reducible exact ih7 _ _ _ _ _ _)
   | (with_reducible exact Mov.moves_May.mono _ _)
   | (with_reducible exact Mov.moves_Order.mono _ _ _)
   | (with_reducible exact spokeshavelaw21_awake.mono _)
   | (with_reducible exact spokeshavelaw21_of.mono _ _)
   | (with_reducible exact spokeshaveref21_Done.mono _ _)
   | (with_reducible exact spokeshaveref21_Free.mono _ _ _)
   | (with_reducible exact spokeshaveref21_Has.mono _ _ _)
   | (with_reducible exact spokeshaveref21_Least.mono _ _)
   | (with_reducible exact spokeshaveref21_May.mono _ _)
   | (with_reducible exact LeO.refl _)
   | (with_reducible exact LeO.none _)
   | (with_reducible refine LeO.ite ?_ ?_)
   | (with_reducible refine LeO.bind ?_ (fun _ => ?_))
   | exact ih0 _ _ _ _ _ _ _
   | exact ih1 _ _ _ _ _ _ _
   | exact ih2 _ _ _ _
   | exact ih3 _ _ _ _
   | exact ih4 _ _ _ _
   | exact ih5 _ _ _ _
   | exact ih6 _ _ _ _ _
   | exact ih7 _ _ _ _ _ _
   | exact Mov.moves_May.mono _ _
   | exact Mov.moves_Order.mono _ _ _
   | exact spokeshavelaw21_awake.mono _
   | exact spokeshavelaw21_of.mono _ _
   | exact spokeshaveref21_Done.mono _ _
   | exact spokeshaveref21_Free.mono _ _ _
   | exact spokeshaveref21_Has.mono _ _ _
   | exact spokeshaveref21_Least.mono _ _
   | exact spokeshaveref21_May.mono _ _
   | exact LeO.none _
   | refine LeO.ite ?_ ?_
   | refine LeO.bind ?_ (fun _ => ?_)
  ·
   intro y0 y1 y2 y3 y4 y5 y6
   unfold spokeshavelaw21_MovesOrder.l0
   repeat' first
   | (with_reducible exact ih0 _ _ _ _ _ _ _)
   | (with_reducible exact ih1 _ _ _ _ _ _ _)
   | (with_reducible exact ih2 _ _ _ _)
   | (with_reducible exact ih3 _ _ _ _)
   | (with_reducible exact ih4 _ _ _ _)
   | (with_reducible exact ih5 _ _ _ _)
   | (with_reducible exact ih6 _ _ _ _ _)
   | (with_reducible exact ih7 _ _ _ _ _ _)
   | (with_reducible exact Mov.moves_May.mono _ _)
   | (with_reducible exact Mov.moves_Order.mono _ _ _)
   | (with_reducible exact spokeshavelaw21_awake.mono _)
   | (with_reducible exact spokeshavelaw21_of.mono _ _)
   | (with_reducible exact spokeshaveref21_Done.mono _ _)
   | (with_reducible exact spokeshaveref21_Free.mono _ _ _)
   | (with_reducible exact spokeshaveref21_Has.mono _ _ _)
   | (with_reducible exact spokeshaveref21_Least.mono _ _)
   | (with_reducible exact spokeshaveref21_May.mono _ _)
   | (with_reducible exact LeO.refl _)
   | (with_reducible exact LeO.none _)
   | (with_reducible refine LeO.ite ?_ ?_)
   | (with_reducible refine LeO.bind ?_ (fun _ => ?_))
   | exact ih0 _ _ _ _ _ _ _
   | exact ih1 _ _ _ _ _ _ _
   | exact ih2 _ _ _ _
   | exact ih3 _ _ _ _
   | exact ih4 _ _ _ _
   | exact ih5 _ _ _ _
   | exact ih6 _ _ _ _ _
   | exact ih7 _ _ _ _ _ _
   | exact Mov.moves_May.mono _ _
   | exact Mov.moves_Order.mono _ _ _
   | exact spokeshavelaw21_awake.mono _
   | exact spokeshavelaw21_of.mono _ _
   | exact spokeshaveref21_Done.mono _ _
   | exact spokeshaveref21_Free.mono _ _ _
   | exact spokeshaveref21_Has.mono _ _ _
   | exact spokeshaveref21_Least.mono _ _
   | exact spokeshaveref21_May.mono _ _
   | exact LeO.none _
   | refine LeO.ite ?_ ?_
   | refine LeO.bind ?_ (fun _ => ?_)
  ·
   intro y0 y1 y2 y3
   unfold spokeshavelaw21_MovesOrder.j2
   repeat' first
   | (with_reducible exact ih0 _ _ _ _ _ _ _)
   | (with_reducible exact ih1 _ _ _ _ _ _ _)
   | (with_reducible exact ih2 _ _ _ _)
   | (with_reducible exact ih3 _ _ _ _)
   | (with_reducible exact ih4 _ _ _ _)
   | (with_reducible exact ih5 _ _ _ _)
   | (with_reducible exact ih6 _ _ _ _ _)
   | (with_reducible exact ih7 _ _ _ _ _ _)
   | (with_reducible exact Mov.moves_May.mono _ _)
   | (with_reducible exact Mov.moves_Order.mono _ _ _)
   | (with_reducible exact spokeshavelaw21_awake.mono _)
   | (with_reducible exact spokeshavelaw21_of.mono _ _)
   | (with_reducible exact spokeshaveref21_Done.mono _ _)
   | (with_reducible exact spokeshaveref21_Free.mono _ _ _)
   | (with_reducible exact spokeshaveref21_Has.mono _ _ _)
   | (with_reducible exact spokeshaveref21_Least.mono _ _)
   | (with_reducible exact spokeshaveref21_May.mono _ _)
   | (with_reducible exact LeO.refl _)
   | (with_reducible exact LeO.none _)
   | (with_reducible refine LeO.ite ?_ ?_)
   | (with_reducible refine LeO.bind ?_ (fun _ => ?_))
   | exact ih0 _ _ _ _ _ _ _
   | exact ih1 _ _ _ _ _ _ _
   | exact ih2 _ _ _ _
   | exact ih3 _ _ _ _
   | exact ih4 _ _ _ _
   | exact ih5 _ _ _ _
   | exact ih6 _ _ _ _ _
   | exact ih7 _ _ _ _ _ _
   | exact Mov.moves_May.mono _ _
   | exact Mov.moves_Order.mono _ _ _
   | exact spokeshavelaw21_awake.mono _
   | exact spokeshavelaw21_of.mono _ _
   | exact spokeshaveref21_Done.mono _ _
   | exact spokeshaveref21_Free.mono _ _ _
   | exact spokeshaveref21_Has.mono _ _ _
   | exact spokeshaveref21_Least.mono _ _
   | exact spokeshaveref21_May.mono _ _
   | exact LeO.none _
   | refine LeO.ite ?_ ?_
   | refine LeO.bind ?_ (fun _ => ?_)
  ·
   intro y0 y1 y2 y3
   unfold spokeshavelaw21_MovesOrder.l1
   repeat' first
   | (with_reducible exact ih0 _ _ _ _ _ _ _)
   | (with_reducible exact ih1 _ _ _ _ _ _ _)
   | (with_reducible exact ih2 _ _ _ _)
   | (with_reducible exact ih3 _ _ _ _)
   | (with_reducible exact ih4 _ _ _ _)
   | (with_reducible exact ih5 _ _ _ _)
   | (with_reducible exact ih6 _ _ _ _ _)
   | (with_reducible exact ih7 _ _ _ _ _ _)
   | (with_reducible exact Mov.moves_May.mono _ _)
   | (with_reducible exact Mov.moves_Order.mono _ _ _)
   | (with_reducible exact spokeshavelaw21_awake.mono _)
   | (with_reducible exact spokeshavelaw21_of.mono _ _)
   | (with_reducible exact spokeshaveref21_Done.mono _ _)
   | (with_reducible exact spokeshaveref21_Free.mono _ _ _)
   | (with_reducible exact spokeshaveref21_Has.mono _ _ _)
   | (with_reducible exact spokeshaveref21_Least.mono _ _)
   | (with_reducible exact spokeshaveref21_May.mono _ _)
   | (with_reducible exact LeO.refl _)
   | (with_reducible exact LeO.none _)
   | (with_reducible refine LeO.ite ?_ ?_)
   | (with_reducible refine LeO.bind ?_ (fun _ => ?_))
   | exact ih0 _ _ _ _ _ _ _
   | exact ih1 _ _ _ _ _ _ _
   | exact ih2 _ _ _ _
   | exact ih3 _ _ _ _
   | exact ih4 _ _ _ _
   | exact ih5 _ _ _ _
   | exact ih6 _ _ _ _ _
   | exact ih7 _ _ _ _ _ _
   | exact Mov.moves_May.mono _ _
   | exact Mov.moves_Order.mono _ _ _
   | exact spokeshavelaw21_awake.mono _
   | exact spokeshavelaw21_of.mono _ _
   | exact spokeshaveref21_Done.mono _ _
   | exact spokeshaveref21_Free.mono _ _ _
   | exact spokeshaveref21_Has.mono _ _ _
   | exact spokeshaveref21_Least.mono _ _
   | exact spokeshaveref21_May.mono _ _
   | exact LeO.none _
   | refine LeO.ite ?_ ?_
   | refine LeO.bind ?_ (fun _ => ?_)
  ·
   intro y0 y1 y2 y3
   unfold spokeshavelaw21_MovesOrder.l2
   repeat' first
   | (with_reducible exact ih0 _ _ _ _ _ _ _)
   | (with_reducible exact ih1 _ _ _ _ _ _ _)
   | (with_reducible exact ih2 _ _ _ _)
   | (with_reducible exact ih3 _ _ _ _)
   | (with_reducible exact ih4 _ _ _ _)
   | (with_reducible exact ih5 _ _ _ _)
   | (with_reducible exact ih6 _ _ _ _ _)
   | (with_reducible exact ih7 _ _ _ _ _ _)
   | (with_reducible exact Mov.moves_May.mono _ _)
   | (with_reducible exact Mov.moves_Order.mono _ _ _)
   | (with_reducible exact spokeshavelaw21_awake.mono _)
   | (with_reducible exact spokeshavelaw21_of.mono _ _)
   | (with_reducible exact spokeshaveref21_Done.mono _ _)
   | (with_reducible exact spokeshaveref21_Free.mono _ _ _)
   | (with_reducible exact spokeshaveref21_Has.mono _ _ _)
   | (with_reducible exact spokeshaveref21_Least.mono _ _)
   | (with_reducible exact spokeshaveref21_May.mono _ _)
   | (with_reducible exact LeO.refl _)
   | (with_reducible exact LeO.none _)
   | (with_reducible refine LeO.ite ?_ ?_)
   | (with_reducible refine LeO.bind ?_ (fun _ => ?_))
   | exact ih0 _ _ _ _ _ _ _
   | exact ih1 _ _ _ _ _ _ _
   | exact ih2 _ _ _ _
   | exact ih3 _ _ _ _
   | exact ih4 _ _ _ _
   | exact ih5 _ _ _ _
   | exact ih6 _ _ _ _ _
   | exact ih7 _ _ _ _ _ _
   | exact Mov.moves_May.mono _ _
   | exact Mov.moves_Order.mono _ _ _
   | exact spokeshavelaw21_awake.mono _
   | exact spokeshavelaw21_of.mono _ _
   | exact spokeshaveref21_Done.mono _ _
   | exact spokeshaveref21_Free.mono _ _ _
   | exact spokeshaveref21_Has.mono _ _ _
   | exact spokeshaveref21_Least.mono _ _
   | exact spokeshaveref21_May.mono _ _
   | exact LeO.none _
   | refine LeO.ite ?_ ?_
   | refine LeO.bind ?_ (fun _ => ?_)
  ·
   intro y0 y1 y2 y3
   unfold spokeshavelaw21_MovesOrder.l3
   repeat' first
   | (with_reducible exact ih0 _ _ _ _ _ _ _)
   | (with_reducible exact ih1 _ _ _ _ _ _ _)
   | (with_reducible exact ih2 _ _ _ _)
   | (with_reducible exact ih3 _ _ _ _)
   | (with_reducible exact ih4 _ _ _ _)
   | (with_reducible exact ih5 _ _ _ _)
   | (with_reducible exact ih6 _ _ _ _ _)
   | (with_reducible exact ih7 _ _ _ _ _ _)
   | (with_reducible exact Mov.moves_May.mono _ _)
   | (with_reducible exact Mov.moves_Order.mono _ _ _)
   | (with_reducible exact spokeshavelaw21_awake.mono _)
   | (with_reducible exact spokeshavelaw21_of.mono _ _)
   | (with_reducible exact spokeshaveref21_Done.mono _ _)
   | (with_reducible exact spokeshaveref21_Free.mono _ _ _)
   | (with_reducible exact spokeshaveref21_Has.mono _ _ _)
   | (with_reducible exact spokeshaveref21_Least.mono _ _)
   | (with_reducible exact spokeshaveref21_May.mono _ _)
   | (with_reducible exact LeO.refl _)
   | (with_reducible exact LeO.none _)
   | (with_reducible refine LeO.ite ?_ ?_)
   | (with_reducible refine LeO.bind ?_ (fun _ => ?_))
   | exact ih0 _ _ _ _ _ _ _
   | exact ih1 _ _ _ _ _ _ _
   | exact ih2 _ _ _ _
   | exact ih3 _ _ _ _
   | exact ih4 _ _ _ _
   | exact ih5 _ _ _ _
   | exact ih6 _ _ _ _ _
   | exact ih7 _ _ _ _ _ _
   | exact Mov.moves_May.mono _ _
   | exact Mov.moves_Order.mono _ _ _
   | exact spokeshavelaw21_awake.mono _
   | exact spokeshavelaw21_of.mono _ _
   | exact spokeshaveref21_Done.mono _ _
   | exact spokeshaveref21_Free.mono _ _ _
   | exact spokeshaveref21_Has.mono _ _ _
   | exact spokeshaveref21_Least.mono _ _
   | exact spokeshaveref21_May.mono _ _
   | exact LeO.none _
   | refine LeO.ite ?_ ?_
   | refine LeO.bind ?_ (fun _ => ?_)
  ·
   intro y0 y1 y2 y3 y4
   unfold spokeshavelaw21_MovesOrder.j6
   repeat' first
   | (with_reducible exact ih0 _ _ _ _ _ _ _)
   | (with_reducible exact ih1 _ _ _ _ _ _ _)
   | (with_reducible exact ih2 _ _ _ _)
   | (with_reducible exact ih3 _ _ _ _)
   | (with_reducible exact ih4 _ _ _ _)
   | (with_reducible exact ih5 _ _ _ _)
   | (with_reducible exact ih6 _ _ _ _ _)
   | (with_reducible exact ih7 _ _ _ _ _ _)
   | (with_reducible exact Mov.moves_May.mono _ _)
   | (with_reducible exact Mov.moves_Order.mono _ _ _)
   | (with_reducible exact spokeshavelaw21_awake.mono _)
   | (with_reducible exact spokeshavelaw21_of.mono _ _)
   | (with_reducible exact spokeshaveref21_Done.mono _ _)
   | (with_reducible exact spokeshaveref21_Free.mono _ _ _)
   | (with_reducible exact spokeshaveref21_Has.mono _ _ _)
   | (with_reducible exact spokeshaveref21_Least.mono _ _)
   | (with_reducible exact spokeshaveref21_May.mono _ _)
   | (with_reducible exact LeO.refl _)
   | (with_reducible exact LeO.none _)
   | (with_reducible refine LeO.ite ?_ ?_)
   | (with_reducible refine LeO.bind ?_ (fun _ => ?_))
   | exact ih0 _ _ _ _ _ _ _
   | exact ih1 _ _ _ _ _ _ _
   | exact ih2 _ _ _ _
   | exact ih3 _ _ _ _
   | exact ih4 _ _ _ _
   | exact ih5 _ _ _ _
   | exact ih6 _ _ _ _ _
   | exact ih7 _ _ _ _ _ _
   | exact Mov.moves_May.mono _ _
   | exact Mov.moves_Order.mono _ _ _
   | exact spokeshavelaw21_awake.mono _
   | exact spokeshavelaw21_of.mono _ _
   | exact spokeshaveref21_Done.mono _ _
   | exact spokeshaveref21_Free.mono _ _ _
   | exact spokeshaveref21_Has.mono _ _ _
   | exact spokeshaveref21_Least.mono _ _
   | exact spokeshaveref21_May.mono _ _
   | exact LeO.none _
   | refine LeO.ite ?_ ?_
   | refine LeO.bind ?_ (fun _ => ?_)
  ·
   intro y0 y1 y2 y3 y4 y5
   unfold spokeshavelaw21_MovesOrder.l4
   repeat' first
   | (with_reducible exact ih0 _ _ _ _ _ _ _)
   | (with_reducible exact ih1 _ _ _ _ _ _ _)
   | (with_reducible exact ih2 _ _ _ _)
   | (with_reducible exact ih3 _ _ _ _)
   | (with_reducible exact ih4 _ _ _ _)
   | (with_reducible exact ih5 _ _ _ _)
   | (with_reducible exact ih6 _ _ _ _ _)
   | (with_reducible exact ih7 _ _ _ _ _ _)
   | (with_reducible exact Mov.moves_May.mono _ _)
   | (with_reducible exact Mov.moves_Order.mono _ _ _)
   | (with_reducible exact spokeshavelaw21_awake.mono _)
   | (with_reducible exact spokeshavelaw21_of.mono _ _)
   | (with_reducible exact spokeshaveref21_Done.mono _ _)
   | (with_reducible exact spokeshaveref21_Free.mono _ _ _)
   | (with_reducible exact spokeshaveref21_Has.mono _ _ _)
   | (with_reducible exact spokeshaveref21_Least.mono _ _)
   | (with_reducible exact spokeshaveref21_May.mono _ _)
   | (with_reducible exact LeO.refl _)
   | (with_reducible exact LeO.none _)
   | (with_reducible refine LeO.ite ?_ ?_)
   | (with_reducible refine LeO.bind ?_ (fun _ => ?_))
   | exact ih0 _ _ _ _ _ _ _
   | exact ih1 _ _ _ _ _ _ _
   | exact ih2 _ _ _ _
   | exact ih3 _ _ _ _
   | exact ih4 _ _ _ _
   | exact ih5 _ _ _ _
   | exact ih6 _ _ _ _ _
   | exact ih7 _ _ _ _ _ _
   | exact Mov.moves_May.mono _ _
   | exact Mov.moves_Order.mono _ _ _
   | exact spokeshavelaw21_awake.mono _
   | exact spokeshavelaw21_of.mono _ _
   | exact spokeshaveref21_Done.mono _ _
   | exact spokeshaveref21_Free.mono _ _ _
   | exact spokeshaveref21_Has.mono _ _ _
   | exact spokeshaveref21_Least.mono _ _
   | exact spokeshaveref21_May.mono _ _
   | exact LeO.none _
   | refine LeO.ite ?_ ?_
   | refine LeO.bind ?_ (fun _ => ?_)
theorem spokeshavelaw21_MovesOrder.mono : ∀ a0 a1 k, LeO (spokeshavelaw21_MovesOrder.f k a0 a1) (spokeshavelaw21_MovesOrder.f (k + 1) a0 a1) := by
 intro a0 a1 k
 obtain ⟨ih0, ih1, ih2, ih3, ih4, ih5, ih6, ih7⟩ := spokeshavelaw21_MovesOrder.mono_l k
 unfold spokeshavelaw21_MovesOrder.f
 repeat' first
   | (with_reducible exact ih0 _ _ _ _ _ _ _)
   | (with_reducible exact ih1 _ _ _ _ _ _ _)
   | (with_reducible exact ih2 _ _ _ _)
   | (with_reducible exact ih3 _ _ _ _)
   | (with_reducible exact ih4 _ _ _ _)
   | (with_reducible exact ih5 _ _ _ _)
   | (with_reducible exact ih6 _ _ _ _ _)
   | (with_reducible exact ih7 _ _ _ _ _ _)
   | (with_reducible exact Mov.moves_May.mono _ _)
   | (with_reducible exact Mov.moves_Order.mono _ _ _)
   | (with_reducible exact spokeshavelaw21_awake.mono _)
   | (with_reducible exact spokeshavelaw21_of.mono _ _)
   | (with_reducible exact spokeshaveref21_Done.mono _ _)
   | (with_reducible exact spokeshaveref21_Free.mono _ _ _)
   | (with_reducible exact spokeshaveref21_Has.mono _ _ _)
   | (with_reducible exact spokeshaveref21_Least.mono _ _)
   | (with_reducible exact spokeshaveref21_May.mono _ _)
   | (with_reducible exact LeO.refl _)
   | (with_reducible exact LeO.none _)
   | (with_reducible refine LeO.ite ?_ ?_)
   | (with_reducible refine LeO.bind ?_ (fun _ => ?_))
   | exact ih0 _ _ _ _ _ _ _
   | exact ih1 _ _ _ _ _ _ _
   | exact ih2 _ _ _ _
   | exact ih3 _ _ _ _
   | exact ih4 _ _ _ _
   | exact ih5 _ _ _ _
   | exact ih6 _ _ _ _ _
   | exact ih7 _ _ _ _ _ _
   | exact Mov.moves_May.mono _ _
   | exact Mov.moves_Order.mono _ _ _
   | exact spokeshavelaw21_awake.mono _
   | exact spokeshavelaw21_of.mono _ _
   | exact spokeshaveref21_Done.mono _ _
   | exact spokeshaveref21_Free.mono _ _ _
   | exact spokeshaveref21_Has.mono _ _ _
   | exact spokeshaveref21_Least.mono _ _
   | exact spokeshaveref21_May.mono _ _
   | exact LeO.none _
   | refine LeO.ite ?_ ?_
   | refine LeO.bind ?_ (fun _ => ?_)
set_option maxHeartbeats 8000000 in
set_option maxRecDepth 100000 in
theorem spokeshavelaw21_MovesOrder.calls (k : Nat) (A0 : Option Addr) (c0 : Nat) (l0 : List (S32)) (a1 : Int) (r : Bool) (w : World) (hr0 : Kd.C k32 w A0 l0.length l0) (hc0 : l0.length ≤ c0) (h : spokeshavelaw21_MovesOrder.f k l0 a1 = some r) :
  Calls Try.prog 3 #[.slice A0 l0.length c0, .int .i64 a1] w fun e w' => e = .returned (.bool r) ∧ Below w.heap.size w w' := by
 have hu32 := Try.underlying32
 have HR0 := Aside0.mk hr0
 have HC0 := Aside0.mk hc0
 clear hr0 hc0
 have HB := Aside0.mk (Below.refl w.heap.size w)
 have H : (if (l0.length : Int) > 80 then ((spokeshavelaw21_awake.f k).bind fun t101 => (some t101)) else (if ([] : List (S32)).length + l0.length < 8796093022208 then ((some (([] : List (S32)) ++ l0 : List (S32))).bind fun y102 => ((Mov.moves_Order.f k y102 a1).bind fun bt105 => ((spokeshavelaw21_of.f k l0).bind fun t109 => ((spokeshaveref21_May.f k t109).bind fun t112 => ((Mov.moves_May.f k l0).bind fun t113 => (if (t113 != t112) = true then (spokeshavelaw21_MovesOrder.j0 k l0 a1 y102 bt105.1 bt105.2 t109 true) else (if t112 = true then ((spokeshaveref21_Free.f k t109 a1).bind fun t114 => (spokeshavelaw21_MovesOrder.j0 k l0 a1 y102 bt105.1 bt105.2 t109 (bt105.2 != t114))) else (spokeshavelaw21_MovesOrder.j0 k l0 a1 y102 bt105.1 bt105.2 t109 (bt105.2 != false))))))))) else (none))) = some r := h
 clear h
 by_cases c3 : (l0.length : Int) > 80
 ·
  rw [if_pos c3] at H
  have c3b0 : decide (80 < (l0.length : Int)) = true := decide_eq_true c3
  have c3b1 : decide (80 < l0.length) = true := decide_eq_true (by omega)
  clear c3
  replace H := Option.bind_eq_some_iff.mp H
  obtain ⟨t101, A40, H⟩ := H
  replace H : (some t101) = some r := H
  have A4 := Aside0.mk A40
  clear A40
  obtain rfl := Option.some.inj H
  go_enter Try.func3, Try.ntmps3
  go_wp2_with (first | (go_at_call 6; (with_reducible refine (spokeshavelaw21_awake.calls k  t101 _ A4.out).mono ?_); rintro e w5 ⟨rfl, hb⟩; have n0_ := Aside0.mk (below_step (by repeat (first | (with_reducible first | exact HB.out | apply below_alloc | apply pw_below_drewN | apply below_drew1) | exact HB.out)) hb); clear HB; have HB := n0_; clear n0_; (try clear hb); (try clear hb2); (try clear hk); (try clear hi)))
  repeat (go_quiet (first | (go_at_call 6; (with_reducible refine (spokeshavelaw21_awake.calls k  t101 _ A4.out).mono ?_); rintro e w5 ⟨rfl, hb⟩; have n0_ := Aside0.mk (below_step (by repeat (first | (with_reducible first | exact HB.out | apply below_alloc | apply pw_below_drewN | apply below_drew1) | exact HB.out)) hb); clear HB; have HB := n0_; clear n0_; (try clear hb); (try clear hb2); (try clear hk); (try clear hi))); try go_wp2_with (first | (go_at_call 6; (with_reducible refine (spokeshavelaw21_awake.calls k  t101 _ A4.out).mono ?_); rintro e w5 ⟨rfl, hb⟩; have n0_ := Aside0.mk (below_step (by repeat (first | (with_reducible first | exact HB.out | apply below_alloc | apply pw_below_drewN | apply below_drew1) | exact HB.out)) hb); clear HB; have HB := n0_; clear n0_; (try clear hb); (try clear hb2); (try clear hk); (try clear hi))))
  go_ret
  exact ⟨by first | rfl | (simp [errW_none, errW_some] <;> rfl) | (simp [*, errW_none, errW_some] <;> rfl), by repeat (first | (with_reducible first | exact HB.out | apply below_alloc | apply pw_below_drewN | apply below_drew1) | exact HB.out)⟩
 ·
  rw [if_neg c3] at H
  have c3b0 : decide (80 < (l0.length : Int)) = false := decide_eq_false c3
  have c3b1 : decide (80 < l0.length) = false := decide_eq_false (by omega)
  clear c3
  by_cases c6 : ([] : List (S32)).length + l0.length < 8796093022208
  case neg => rw [if_neg c6] at H; exact absurd H (by simp)
  rw [if_pos c6] at H
  have LMc6 := Aside0.mk c6
  clear c6
  obtain ⟨y102, hy102⟩ : ∃ y_ : List (S32), y_ = (([] : List (S32)) ++ l0) := ⟨_, rfl⟩
  replace H : ((Mov.moves_Order.f k y102 a1).bind fun bt105 => ((spokeshavelaw21_of.f k l0).bind fun t109 => ((spokeshaveref21_May.f k t109).bind fun t112 => ((Mov.moves_May.f k l0).bind fun t113 => (if (t113 != t112) = true then (spokeshavelaw21_MovesOrder.j0 k l0 a1 y102 bt105.1 bt105.2 t109 true) else (if t112 = true then ((spokeshaveref21_Free.f k t109 a1).bind fun t114 => (spokeshavelaw21_MovesOrder.j0 k l0 a1 y102 bt105.1 bt105.2 t109 (bt105.2 != t114))) else (spokeshavelaw21_MovesOrder.j0 k l0 a1 y102 bt105.1 bt105.2 t109 (bt105.2 != false)))))))) = some r := by first | (rw [hy102]; with_reducible exact H) | (have H2_ := (Option.bind_some _ _).symm.trans H; rw [hy102]; with_reducible exact H2_) | (have H2_ := (Option.bind_some _ _).symm.trans H; with_reducible exact H2_) | with_reducible exact H | (rw [hy102]; exact H) | exact H
  have Ny102 := Aside0.mk hy102
  clear hy102
  replace H := Option.bind_eq_some_iff.mp H
  obtain ⟨⟨t105, t106⟩, A70, H⟩ := H
  replace H : ((spokeshavelaw21_of.f k l0).bind fun t109 => ((spokeshaveref21_May.f k t109).bind fun t112 => ((Mov.moves_May.f k l0).bind fun t113 => (if (t113 != t112) = true then (spokeshavelaw21_MovesOrder.j0 k l0 a1 y102 t105 t106 t109 true) else (if t112 = true then ((spokeshaveref21_Free.f k t109 a1).bind fun t114 => (spokeshavelaw21_MovesOrder.j0 k l0 a1 y102 t105 t106 t109 (t106 != t114))) else (spokeshavelaw21_MovesOrder.j0 k l0 a1 y102 t105 t106 t109 (t106 != false))))))) = some r := H
  have A7 := Aside0.mk A70
  clear A70
  replace H := Option.bind_eq_some_iff.mp H
  obtain ⟨t109, A80, H⟩ := H
  replace H : ((spokeshaveref21_May.f k t109).bind fun t112 => ((Mov.moves_May.f k l0).bind fun t113 => (if (t113 != t112) = true then (spokeshavelaw21_MovesOrder.j0 k l0 a1 y102 t105 t106 t109 true) else (if t112 = true then ((spokeshaveref21_Free.f k t109 a1).bind fun t114 => (spokeshavelaw21_MovesOrder.j0 k l0 a1 y102 t105 t106 t109 (t106 != t114))) else (spokeshavelaw21_MovesOrder.j0 k l0 a1 y102 t105 t106 t109 (t106 != false)))))) = some r := H
  have A8 := Aside0.mk A80
  clear A80
  replace H := Option.bind_eq_some_iff.mp H
  obtain ⟨t112, A90, H⟩ := H
  replace H : ((Mov.moves_May.f k l0).bind fun t113 => (if (t113 != t112) = true then (spokeshavelaw21_MovesOrder.j0 k l0 a1 y102 t105 t106 t109 true) else (if t112 = true then ((spokeshaveref21_Free.f k t109 a1).bind fun t114 => (spokeshavelaw21_MovesOrder.j0 k l0 a1 y102 t105 t106 t109 (t106 != t114))) else (spokeshavelaw21_MovesOrder.j0 k l0 a1 y102 t105 t106 t109 (t106 != false))))) = some r := H
  have A9 := Aside0.mk A90
  clear A90
  have HC10 := Aside0.mk H
  clear H
  go_enter Try.func3, Try.ntmps3
  go_upto_region 7 with (first | ((with_reducible refine gate_builtin (b := .append) (xs := #[.const (.slice none 0 0), .tmp 21]) rfl ?_); (try (refine gate_guard (by rfl) ?_; dsimp only)); at_builtin; refine Kd.R_append_rows k32 (w0 := w) w.heap.size rfl (.const (.slice none 0 0)) (.tmp 21) 22 32 (.agg #[(.int .i64 0), (.int .i64 0)]) 16 rfl Try.underlying22 info32 rfl (by decide) (by omega) (.slice none 0 0) ([] : List (S32)) l0 _ _ _ (fun _ => True) (fun _ => False) rfl rfl ?aO ?aR (fun _ _ h => h) (fun _ h => h.elim) ?aF ?aB ?aS ?aL ?_; (case aR => repeat (first | exact HR0.out | (with_reducible refine Kd.C_alloc ?_ _) | (with_reducible refine Kd.C_drewN ?_ _) | (with_reducible refine Kd.C_drew ?_))); (case aB => exact (by repeat (first | (with_reducible first | exact HB.out | apply below_alloc | apply pw_below_drewN | apply below_drew1) | exact HB.out))); (case aF => exact (fun _ _ => trivial)); (case aO => exact ((Kd.R_nil _ _ _ _ (fun _ => True)))); (case aS => exact (below_size (by repeat (first | (with_reducible first | exact HB.out | apply below_alloc | apply pw_below_drewN | apply below_drew1) | exact HB.out)))); (case aL => have := LMc6.out; omega); intro v103 w11 ho hb hg hat; rw [← Ny102.out] at ho; have n0_ := Aside0.mk (hb); have n1_ := Aside0.mk (ho); clear HB; have HB := n0_; have HO104 := n1_; clear n0_ n1_; clear ho hb hg hat; obtain ⟨Ao12, co12, eo12⟩ := Kd.R_slice HO104.out; subst eo12) | (go_at_call 7; (with_reducible refine (Mov.moves_Order.calls k _ _ y102 a1 t105 t106 _ ?side1 ?side2 A7.out).mono ?_); (case side1 => repeat (first | exact (Kd.R_reads' HO104.out).2.2 | (with_reducible refine Kd.C_alloc ?_ _) | (with_reducible refine Kd.C_drewN ?_ _) | (with_reducible refine Kd.C_drew ?_))); (case side2 => exact (Kd.R_reads' HO104.out).2.1); rintro e w13 ⟨v107, rfl, ho0, hb⟩; have n0_ := Aside0.mk (Kd.R_elder' (by (with_reducible repeat (first | apply Kd.R_alloc | apply Kd.R_drewN | apply Kd.R_drew)); exact HO104.out) (Kd.R_base ho0) hb); have n1_ := Aside0.mk (Kd.R_lower (Kd.R_new' ho0 (Kd.R_lt (by (with_reducible repeat (first | apply Kd.R_alloc | apply Kd.R_drewN | apply Kd.R_drew)); exact HO104.out))) (below_size (by repeat (first | (with_reducible first | exact HB.out | apply below_alloc | apply pw_below_drewN | apply below_drew1) | exact HB.out)))); have n2_ := Aside0.mk (below_step (by repeat (first | (with_reducible first | exact HB.out | apply below_alloc | apply pw_below_drewN | apply below_drew1) | exact HB.out)) hb); clear HO104; clear HB; have HO104 := n0_; have HO108 := n1_; have HB := n2_; clear n0_ n1_ n2_; (try clear hb); (try clear hb2); (try clear hk); (try clear hi); (try clear ho0); obtain ⟨Ao14, co14, eo14⟩ := Kd.R_slice HO108.out; subst eo14) | (go_at_call 8; (with_reducible refine (spokeshavelaw21_of.calls k _ _ l0 t109 _ ?side1 ?side2 A8.out).mono ?_); (case side1 => repeat (first | exact (Kd.C_below HR0.out HB.out) | (with_reducible refine Kd.C_alloc ?_ _) | (with_reducible refine Kd.C_drewN ?_ _) | (with_reducible refine Kd.C_drew ?_))); (case side2 => exact HC0.out); rintro e w15 ⟨v110, rfl, ho0, hb⟩; have n0_ := Aside0.mk (Kd.R_below (by (with_reducible repeat (first | apply Kd.R_alloc | apply Kd.R_drewN | apply Kd.R_drew)); exact HO104.out) hb); have n1_ := Aside0.mk (Kd.R_below (by (with_reducible repeat (first | apply Kd.R_alloc | apply Kd.R_drewN | apply Kd.R_drew)); exact HO108.out) hb); have n2_ := Aside0.mk (Kd.R_lower ho0 (below_size (by repeat (first | (with_reducible first | exact HB.out | apply below_alloc | apply pw_below_drewN | apply below_drew1) | exact HB.out)))); have n3_ := Aside0.mk (below_step (by repeat (first | (with_reducible first | exact HB.out | apply below_alloc | apply pw_below_drewN | apply below_drew1) | exact HB.out)) hb); clear HO104; clear HO108; clear HB; have HO104 := n0_; have HO108 := n1_; have HO111 := n2_; have HB := n3_; clear n0_ n1_ n2_ n3_; (try clear hb); (try clear hb2); (try clear hk); (try clear hi); (try clear ho0); obtain ⟨Ao16, co16, eo16⟩ := Kd.R_slice HO111.out; subst eo16) | (go_at_call 9; (with_reducible refine (spokeshaveref21_May.calls k _ _ t109 t112 _ ?side1 ?side2 A9.out).mono ?_); (case side1 => repeat (first | exact (Kd.R_reads' HO111.out).2.2 | (with_reducible refine Kd.C_alloc ?_ _) | (with_reducible refine Kd.C_drewN ?_ _) | (with_reducible refine Kd.C_drew ?_))); (case side2 => exact (Kd.R_reads' HO111.out).2.1); rintro e w' ⟨rfl, ⟨nd, rfl⟩⟩; (try first | exact ⟨rfl, _, World.drewN_drewN _ _ _⟩ | exact ⟨rfl, _, Eq.trans (World.drewN_drewN _ _ _) (congrArg (World.drewN _) (Nat.add_assoc _ _ _))⟩)))
  repeat (go_quiet (first | ((with_reducible refine gate_builtin (b := .append) (xs := #[.const (.slice none 0 0), .tmp 21]) rfl ?_); (try (refine gate_guard (by rfl) ?_; dsimp only)); at_builtin; refine Kd.R_append_rows k32 (w0 := w) w.heap.size rfl (.const (.slice none 0 0)) (.tmp 21) 22 32 (.agg #[(.int .i64 0), (.int .i64 0)]) 16 rfl Try.underlying22 info32 rfl (by decide) (by omega) (.slice none 0 0) ([] : List (S32)) l0 _ _ _ (fun _ => True) (fun _ => False) rfl rfl ?aO ?aR (fun _ _ h => h) (fun _ h => h.elim) ?aF ?aB ?aS ?aL ?_; (case aR => repeat (first | exact HR0.out | (with_reducible refine Kd.C_alloc ?_ _) | (with_reducible refine Kd.C_drewN ?_ _) | (with_reducible refine Kd.C_drew ?_))); (case aB => exact (by repeat (first | (with_reducible first | exact HB.out | apply below_alloc | apply pw_below_drewN | apply below_drew1) | exact HB.out))); (case aF => exact (fun _ _ => trivial)); (case aO => exact ((Kd.R_nil _ _ _ _ (fun _ => True)))); (case aS => exact (below_size (by repeat (first | (with_reducible first | exact HB.out | apply below_alloc | apply pw_below_drewN | apply below_drew1) | exact HB.out)))); (case aL => have := LMc6.out; omega); intro v103 w11 ho hb hg hat; rw [← Ny102.out] at ho; have n0_ := Aside0.mk (hb); have n1_ := Aside0.mk (ho); clear HB; have HB := n0_; have HO104 := n1_; clear n0_ n1_; clear ho hb hg hat; obtain ⟨Ao12, co12, eo12⟩ := Kd.R_slice HO104.out; subst eo12) | (go_at_call 7; (with_reducible refine (Mov.moves_Order.calls k _ _ y102 a1 t105 t106 _ ?side1 ?side2 A7.out).mono ?_); (case side1 => repeat (first | exact (Kd.R_reads' HO104.out).2.2 | (with_reducible refine Kd.C_alloc ?_ _) | (with_reducible refine Kd.C_drewN ?_ _) | (with_reducible refine Kd.C_drew ?_))); (case side2 => exact (Kd.R_reads' HO104.out).2.1); rintro e w13 ⟨v107, rfl, ho0, hb⟩; have n0_ := Aside0.mk (Kd.R_elder' (by (with_reducible repeat (first | apply Kd.R_alloc | apply Kd.R_drewN | apply Kd.R_drew)); exact HO104.out) (Kd.R_base ho0) hb); have n1_ := Aside0.mk (Kd.R_lower (Kd.R_new' ho0 (Kd.R_lt (by (with_reducible repeat (first | apply Kd.R_alloc | apply Kd.R_drewN | apply Kd.R_drew)); exact HO104.out))) (below_size (by repeat (first | (with_reducible first | exact HB.out | apply below_alloc | apply pw_below_drewN | apply below_drew1) | exact HB.out)))); have n2_ := Aside0.mk (below_step (by repeat (first | (with_reducible first | exact HB.out | apply below_alloc | apply pw_below_drewN | apply below_drew1) | exact HB.out)) hb); clear HO104; clear HB; have HO104 := n0_; have HO108 := n1_; have HB := n2_; clear n0_ n1_ n2_; (try clear hb); (try clear hb2); (try clear hk); (try clear hi); (try clear ho0); obtain ⟨Ao14, co14, eo14⟩ := Kd.R_slice HO108.out; subst eo14) | (go_at_call 8; (with_reducible refine (spokeshavelaw21_of.calls k _ _ l0 t109 _ ?side1 ?side2 A8.out).mono ?_); (case side1 => repeat (first | exact (Kd.C_below HR0.out HB.out) | (with_reducible refine Kd.C_alloc ?_ _) | (with_reducible refine Kd.C_drewN ?_ _) | (with_reducible refine Kd.C_drew ?_))); (case side2 => exact HC0.out); rintro e w15 ⟨v110, rfl, ho0, hb⟩; have n0_ := Aside0.mk (Kd.R_below (by (with_reducible repeat (first | apply Kd.R_alloc | apply Kd.R_drewN | apply Kd.R_drew)); exact HO104.out) hb); have n1_ := Aside0.mk (Kd.R_below (by (with_reducible repeat (first | apply Kd.R_alloc | apply Kd.R_drewN | apply Kd.R_drew)); exact HO108.out) hb); have n2_ := Aside0.mk (Kd.R_lower ho0 (below_size (by repeat (first | (with_reducible first | exact HB.out | apply below_alloc | apply pw_below_drewN | apply below_drew1) | exact HB.out)))); have n3_ := Aside0.mk (below_step (by repeat (first | (with_reducible first | exact HB.out | apply below_alloc | apply pw_below_drewN | apply below_drew1) | exact HB.out)) hb); clear HO104; clear HO108; clear HB; have HO104 := n0_; have HO108 := n1_; have HO111 := n2_; have HB := n3_; clear n0_ n1_ n2_ n3_; (try clear hb); (try clear hb2); (try clear hk); (try clear hi); (try clear ho0); obtain ⟨Ao16, co16, eo16⟩ := Kd.R_slice HO111.out; subst eo16) | (go_at_call 9; (with_reducible refine (spokeshaveref21_May.calls k _ _ t109 t112 _ ?side1 ?side2 A9.out).mono ?_); (case side1 => repeat (first | exact (Kd.R_reads' HO111.out).2.2 | (with_reducible refine Kd.C_alloc ?_ _) | (with_reducible refine Kd.C_drewN ?_ _) | (with_reducible refine Kd.C_drew ?_))); (case side2 => exact (Kd.R_reads' HO111.out).2.1); rintro e w' ⟨rfl, ⟨nd, rfl⟩⟩; (try first | exact ⟨rfl, _, World.drewN_drewN _ _ _⟩ | exact ⟨rfl, _, Eq.trans (World.drewN_drewN _ _ _) (congrArg (World.drewN _) (Nat.add_assoc _ _ _))⟩))); go_upto_region 7 with (first | ((with_reducible refine gate_builtin (b := .append) (xs := #[.const (.slice none 0 0), .tmp 21]) rfl ?_); (try (refine gate_guard (by rfl) ?_; dsimp only)); at_builtin; refine Kd.R_append_rows k32 (w0 := w) w.heap.size rfl (.const (.slice none 0 0)) (.tmp 21) 22 32 (.agg #[(.int .i64 0), (.int .i64 0)]) 16 rfl Try.underlying22 info32 rfl (by decide) (by omega) (.slice none 0 0) ([] : List (S32)) l0 _ _ _ (fun _ => True) (fun _ => False) rfl rfl ?aO ?aR (fun _ _ h => h) (fun _ h => h.elim) ?aF ?aB ?aS ?aL ?_; (case aR => repeat (first | exact HR0.out | (with_reducible refine Kd.C_alloc ?_ _) | (with_reducible refine Kd.C_drewN ?_ _) | (with_reducible refine Kd.C_drew ?_))); (case aB => exact (by repeat (first | (with_reducible first | exact HB.out | apply below_alloc | apply pw_below_drewN | apply below_drew1) | exact HB.out))); (case aF => exact (fun _ _ => trivial)); (case aO => exact ((Kd.R_nil _ _ _ _ (fun _ => True)))); (case aS => exact (below_size (by repeat (first | (with_reducible first | exact HB.out | apply below_alloc | apply pw_below_drewN | apply below_drew1) | exact HB.out)))); (case aL => have := LMc6.out; omega); intro v103 w11 ho hb hg hat; rw [← Ny102.out] at ho; have n0_ := Aside0.mk (hb); have n1_ := Aside0.mk (ho); clear HB; have HB := n0_; have HO104 := n1_; clear n0_ n1_; clear ho hb hg hat; obtain ⟨Ao12, co12, eo12⟩ := Kd.R_slice HO104.out; subst eo12) | (go_at_call 7; (with_reducible refine (Mov.moves_Order.calls k _ _ y102 a1 t105 t106 _ ?side1 ?side2 A7.out).mono ?_); (case side1 => repeat (first | exact (Kd.R_reads' HO104.out).2.2 | (with_reducible refine Kd.C_alloc ?_ _) | (with_reducible refine Kd.C_drewN ?_ _) | (with_reducible refine Kd.C_drew ?_))); (case side2 => exact (Kd.R_reads' HO104.out).2.1); rintro e w13 ⟨v107, rfl, ho0, hb⟩; have n0_ := Aside0.mk (Kd.R_elder' (by (with_reducible repeat (first | apply Kd.R_alloc | apply Kd.R_drewN | apply Kd.R_drew)); exact HO104.out) (Kd.R_base ho0) hb); have n1_ := Aside0.mk (Kd.R_lower (Kd.R_new' ho0 (Kd.R_lt (by (with_reducible repeat (first | apply Kd.R_alloc | apply Kd.R_drewN | apply Kd.R_drew)); exact HO104.out))) (below_size (by repeat (first | (with_reducible first | exact HB.out | apply below_alloc | apply pw_below_drewN | apply below_drew1) | exact HB.out)))); have n2_ := Aside0.mk (below_step (by repeat (first | (with_reducible first | exact HB.out | apply below_alloc | apply pw_below_drewN | apply below_drew1) | exact HB.out)) hb); clear HO104; clear HB; have HO104 := n0_; have HO108 := n1_; have HB := n2_; clear n0_ n1_ n2_; (try clear hb); (try clear hb2); (try clear hk); (try clear hi); (try clear ho0); obtain ⟨Ao14, co14, eo14⟩ := Kd.R_slice HO108.out; subst eo14) | (go_at_call 8; (with_reducible refine (spokeshavelaw21_of.calls k _ _ l0 t109 _ ?side1 ?side2 A8.out).mono ?_); (case side1 => repeat (first | exact (Kd.C_below HR0.out HB.out) | (with_reducible refine Kd.C_alloc ?_ _) | (with_reducible refine Kd.C_drewN ?_ _) | (with_reducible refine Kd.C_drew ?_))); (case side2 => exact HC0.out); rintro e w15 ⟨v110, rfl, ho0, hb⟩; have n0_ := Aside0.mk (Kd.R_below (by (with_reducible repeat (first | apply Kd.R_alloc | apply Kd.R_drewN | apply Kd.R_drew)); exact HO104.out) hb); have n1_ := Aside0.mk (Kd.R_below (by (with_reducible repeat (first | apply Kd.R_alloc | apply Kd.R_drewN | apply Kd.R_drew)); exact HO108.out) hb); have n2_ := Aside0.mk (Kd.R_lower ho0 (below_size (by repeat (first | (with_reducible first | exact HB.out | apply below_alloc | apply pw_below_drewN | apply below_drew1) | exact HB.out)))); have n3_ := Aside0.mk (below_step (by repeat (first | (with_reducible first | exact HB.out | apply below_alloc | apply pw_below_drewN | apply below_drew1) | exact HB.out)) hb); clear HO104; clear HO108; clear HB; have HO104 := n0_; have HO108 := n1_; have HO111 := n2_; have HB := n3_; clear n0_ n1_ n2_ n3_; (try clear hb); (try clear hb2); (try clear hk); (try clear hi); (try clear ho0); obtain ⟨Ao16, co16, eo16⟩ := Kd.R_slice HO111.out; subst eo16) | (go_at_call 9; (with_reducible refine (spokeshaveref21_May.calls k _ _ t109 t112 _ ?side1 ?side2 A9.out).mono ?_); (case side1 => repeat (first | exact (Kd.R_reads' HO111.out).2.2 | (with_reducible refine Kd.C_alloc ?_ _) | (with_reducible refine Kd.C_drewN ?_ _) | (with_reducible refine Kd.C_drew ?_))); (case side2 => exact (Kd.R_reads' HO111.out).2.1); rintro e w' ⟨rfl, ⟨nd, rfl⟩⟩; (try first | exact ⟨rfl, _, World.drewN_drewN _ _ _⟩ | exact ⟨rfl, _, Eq.trans (World.drewN_drewN _ _ _) (congrArg (World.drewN _) (Nat.add_assoc _ _ _))⟩))))
  (try simp only [Act.put, List.setIfInBounds_toArray, List.set_cons_zero, List.set_cons_succ])
  go_cut [46] (fun v46 wc => ∃ (kq : Nat) (x46_9 : Bool), v46 = .bool x46_9 ∧ Aside0 (spokeshavelaw21_MovesOrder.j0 kq l0 a1 y102 t105 t106 t109 x46_9 = some r) ∧ Aside0 (kq ≤ k) ∧ Aside0 (Kd.R k32 32 wc w.heap.size (fun k_ => some k_ ≠ ((.slice Ao14 t105.length co14) : Value).ownBlock) (.slice Ao12 y102.length co12) y102) ∧ Aside0 (Kd.R k32 32 wc w.heap.size (fun k_ => some k_ ≠ ((.slice Ao12 y102.length co12) : Value).ownBlock) (.slice Ao14 t105.length co14) t105) ∧ Aside0 (Kd.R k36 36 wc w.heap.size (fun _ => True) (.slice Ao16 t109.length co16) t109) ∧ Aside0 (Below w.heap.size w wc))
  case first =>
   have H := HC10.out
   clear HC10
   replace H := Option.bind_eq_some_iff.mp H
   obtain ⟨t113, A170, H⟩ := H
   replace H : (if (t113 != t112) = true then (spokeshavelaw21_MovesOrder.j0 k l0 a1 y102 t105 t106 t109 true) else (if t112 = true then ((spokeshaveref21_Free.f k t109 a1).bind fun t114 => (spokeshavelaw21_MovesOrder.j0 k l0 a1 y102 t105 t106 t109 (t106 != t114))) else (spokeshavelaw21_MovesOrder.j0 k l0 a1 y102 t105 t106 t109 (t106 != false)))) = some r := H
   have A17 := Aside0.mk A170
   clear A170
   by_cases c18 : (t113 != t112) = true
   ·
    rw [if_pos c18] at H
    have c18b0 : (t113 != t112) = true := c18
    (try (have c18b1 : decide (t113 = t112) = false := by first | exact c18 | exact absurd c18 (by decide) | decide | (simp; done) | simpa using c18))
    (try (have c18b2 : (t113 == t112) = false := by first | exact c18 | exact absurd c18 (by decide) | decide | (simp; done) | simpa using c18))
    (try (have c18b3 : ¬ (t113 = t112) := by first | exact c18 | exact absurd c18 (by decide) | decide | (simp; done) | simpa using c18))
    clear c18
    (first | rw [c18b0] | (simp only [i64_w, i32_w]; rw [c18b0]) | skip)
    have H' := Aside0.mk H
    clear H
    go_wp2_with (first | (go_at_call 10; (with_reducible refine (Mov.moves_May.calls k _ _ l0 t113 _ ?side1 ?side2 A17.out).mono ?_); (case side1 => repeat (first | exact (Kd.C_below HR0.out HB.out) | (with_reducible refine Kd.C_alloc ?_ _) | (with_reducible refine Kd.C_drewN ?_ _) | (with_reducible refine Kd.C_drew ?_))); (case side2 => exact HC0.out); rintro e w19 ⟨rfl, hb⟩; have n0_ := Aside0.mk (Kd.R_below (by (with_reducible repeat (first | apply Kd.R_alloc | apply Kd.R_drewN | apply Kd.R_drew)); exact HO104.out) hb); have n1_ := Aside0.mk (Kd.R_below (by (with_reducible repeat (first | apply Kd.R_alloc | apply Kd.R_drewN | apply Kd.R_drew)); exact HO108.out) hb); have n2_ := Aside0.mk (Kd.R_below (by (with_reducible repeat (first | apply Kd.R_alloc | apply Kd.R_drewN | apply Kd.R_drew)); exact HO111.out) hb); have n3_ := Aside0.mk (below_step (by repeat (first | (with_reducible first | exact HB.out | apply below_alloc | apply pw_below_drewN | apply below_drew1) | exact HB.out)) hb); clear HO104; clear HO108; clear HO111; clear HB; have HO104 := n0_; have HO108 := n1_; have HO111 := n2_; have HB := n3_; clear n0_ n1_ n2_ n3_; (try clear hb); (try clear hb2); (try clear hk); (try clear hi)))
    repeat (go_quiet (first | (go_at_call 10; (with_reducible refine (Mov.moves_May.calls k _ _ l0 t113 _ ?side1 ?side2 A17.out).mono ?_); (case side1 => repeat (first | exact (Kd.C_below HR0.out HB.out) | (with_reducible refine Kd.C_alloc ?_ _) | (with_reducible refine Kd.C_drewN ?_ _) | (with_reducible refine Kd.C_drew ?_))); (case side2 => exact HC0.out); rintro e w19 ⟨rfl, hb⟩; have n0_ := Aside0.mk (Kd.R_below (by (with_reducible repeat (first | apply Kd.R_alloc | apply Kd.R_drewN | apply Kd.R_drew)); exact HO104.out) hb); have n1_ := Aside0.mk (Kd.R_below (by (with_reducible repeat (first | apply Kd.R_alloc | apply Kd.R_drewN | apply Kd.R_drew)); exact HO108.out) hb); have n2_ := Aside0.mk (Kd.R_below (by (with_reducible repeat (first | apply Kd.R_alloc | apply Kd.R_drewN | apply Kd.R_drew)); exact HO111.out) hb); have n3_ := Aside0.mk (below_step (by repeat (first | (with_reducible first | exact HB.out | apply below_alloc | apply pw_below_drewN | apply below_drew1) | exact HB.out)) hb); clear HO104; clear HO108; clear HO111; clear HB; have HO104 := n0_; have HO108 := n1_; have HO111 := n2_; have HB := n3_; clear n0_ n1_ n2_ n3_; (try clear hb); (try clear hb2); (try clear hk); (try clear hi))); try go_wp2_with (first | (go_at_call 10; (with_reducible refine (Mov.moves_May.calls k _ _ l0 t113 _ ?side1 ?side2 A17.out).mono ?_); (case side1 => repeat (first | exact (Kd.C_below HR0.out HB.out) | (with_reducible refine Kd.C_alloc ?_ _) | (with_reducible refine Kd.C_drewN ?_ _) | (with_reducible refine Kd.C_drew ?_))); (case side2 => exact HC0.out); rintro e w19 ⟨rfl, hb⟩; have n0_ := Aside0.mk (Kd.R_below (by (with_reducible repeat (first | apply Kd.R_alloc | apply Kd.R_drewN | apply Kd.R_drew)); exact HO104.out) hb); have n1_ := Aside0.mk (Kd.R_below (by (with_reducible repeat (first | apply Kd.R_alloc | apply Kd.R_drewN | apply Kd.R_drew)); exact HO108.out) hb); have n2_ := Aside0.mk (Kd.R_below (by (with_reducible repeat (first | apply Kd.R_alloc | apply Kd.R_drewN | apply Kd.R_drew)); exact HO111.out) hb); have n3_ := Aside0.mk (below_step (by repeat (first | (with_reducible first | exact HB.out | apply below_alloc | apply pw_below_drewN | apply below_drew1) | exact HB.out)) hb); clear HO104; clear HO108; clear HO111; clear HB; have HO104 := n0_; have HO108 := n1_; have HO111 := n2_; have HB := n3_; clear n0_ n1_ n2_ n3_; (try clear hb); (try clear hb2); (try clear hk); (try clear hi))))
    go_meet
    case rel => exact ⟨_, (true), (by first | rfl | (simp; done) | (simp [*]; done)), H', ⟨by first | omega | exact Nat.le_refl _⟩, ⟨by (with_reducible repeat (first | apply Kd.R_alloc | apply Kd.R_drewN | apply Kd.R_drew)); exact Kd.R_mono HO104.out (fun _ hk => hk.2)⟩, ⟨by (with_reducible repeat (first | apply Kd.R_alloc | apply Kd.R_drewN | apply Kd.R_drew)); exact Kd.R_mono HO108.out (fun _ hk => hk.2)⟩, ⟨by (with_reducible repeat (first | apply Kd.R_alloc | apply Kd.R_drewN | apply Kd.R_drew)); exact HO111.out⟩, ⟨by repeat (first | (with_reducible first | exact HB.out | apply below_alloc | apply pw_below_drewN | apply below_drew1) | exact HB.out)⟩⟩
   ·
    rw [if_neg c18] at H
    have c18b0 : (t113 != t112) = false := by first | exact c18 | exact absurd c18 (by decide) | decide | (simp; done) | simpa using c18
    (try (have c18b1 : decide (t113 = t112) = true := by first | exact c18 | exact absurd c18 (by decide) | decide | (simp; done) | simpa using c18))
    (try (have c18b2 : (t113 == t112) = true := by first | exact c18 | exact absurd c18 (by decide) | decide | (simp; done) | simpa using c18))
    clear c18
    (first | rw [c18b0] | (simp only [i64_w, i32_w]; rw [c18b0]) | skip)
    by_cases c20 : t112 = true
    ·
     subst c20
     have H1 : ((spokeshaveref21_Free.f k t109 a1).bind fun t114 => (spokeshavelaw21_MovesOrder.j0 k l0 a1 y102 t105 t106 t109 (t106 != t114))) = some r := by rw [if_pos rfl] at H; exact H
     clear H
     have H := H1
     clear H1
     replace H := Option.bind_eq_some_iff.mp H
     obtain ⟨t114, A210, H⟩ := H
     replace H : (spokeshavelaw21_MovesOrder.j0 k l0 a1 y102 t105 t106 t109 (t106 != t114)) = some r := H
     have A21 := Aside0.mk A210
     clear A210
     have H' := Aside0.mk H
     clear H
     go_wp2_with (first | (go_at_call 10; (with_reducible refine (Mov.moves_May.calls k _ _ l0 t113 _ ?side1 ?side2 A17.out).mono ?_); (case side1 => repeat (first | exact (Kd.C_below HR0.out HB.out) | (with_reducible refine Kd.C_alloc ?_ _) | (with_reducible refine Kd.C_drewN ?_ _) | (with_reducible refine Kd.C_drew ?_))); (case side2 => exact HC0.out); rintro e w22 ⟨rfl, hb⟩; have n0_ := Aside0.mk (Kd.R_below (by (with_reducible repeat (first | apply Kd.R_alloc | apply Kd.R_drewN | apply Kd.R_drew)); exact HO104.out) hb); have n1_ := Aside0.mk (Kd.R_below (by (with_reducible repeat (first | apply Kd.R_alloc | apply Kd.R_drewN | apply Kd.R_drew)); exact HO108.out) hb); have n2_ := Aside0.mk (Kd.R_below (by (with_reducible repeat (first | apply Kd.R_alloc | apply Kd.R_drewN | apply Kd.R_drew)); exact HO111.out) hb); have n3_ := Aside0.mk (below_step (by repeat (first | (with_reducible first | exact HB.out | apply below_alloc | apply pw_below_drewN | apply below_drew1) | exact HB.out)) hb); clear HO104; clear HO108; clear HO111; clear HB; have HO104 := n0_; have HO108 := n1_; have HO111 := n2_; have HB := n3_; clear n0_ n1_ n2_ n3_; (try clear hb); (try clear hb2); (try clear hk); (try clear hi)) | (go_at_call 11; (with_reducible refine (spokeshaveref21_Free.calls k _ _ t109 a1 t114 _ ?side1 ?side2 A21.out).mono ?_); (case side1 => repeat (first | exact (Kd.R_reads' HO111.out).2.2 | (with_reducible refine Kd.C_alloc ?_ _) | (with_reducible refine Kd.C_drewN ?_ _) | (with_reducible refine Kd.C_drew ?_))); (case side2 => exact (Kd.R_reads' HO111.out).2.1); rintro e w' ⟨rfl, ⟨nd, rfl⟩⟩; (try first | exact ⟨rfl, _, World.drewN_drewN _ _ _⟩ | exact ⟨rfl, _, Eq.trans (World.drewN_drewN _ _ _) (congrArg (World.drewN _) (Nat.add_assoc _ _ _))⟩)))
     repeat (go_quiet (first | (go_at_call 10; (with_reducible refine (Mov.moves_May.calls k _ _ l0 t113 _ ?side1 ?side2 A17.out).mono ?_); (case side1 => repeat (first | exact (Kd.C_below HR0.out HB.out) | (with_reducible refine Kd.C_alloc ?_ _) | (with_reducible refine Kd.C_drewN ?_ _) | (with_reducible refine Kd.C_drew ?_))); (case side2 => exact HC0.out); rintro e w22 ⟨rfl, hb⟩; have n0_ := Aside0.mk (Kd.R_below (by (with_reducible repeat (first | apply Kd.R_alloc | apply Kd.R_drewN | apply Kd.R_drew)); exact HO104.out) hb); have n1_ := Aside0.mk (Kd.R_below (by (with_reducible repeat (first | apply Kd.R_alloc | apply Kd.R_drewN | apply Kd.R_drew)); exact HO108.out) hb); have n2_ := Aside0.mk (Kd.R_below (by (with_reducible repeat (first | apply Kd.R_alloc | apply Kd.R_drewN | apply Kd.R_drew)); exact HO111.out) hb); have n3_ := Aside0.mk (below_step (by repeat (first | (with_reducible first | exact HB.out | apply below_alloc | apply pw_below_drewN | apply below_drew1) | exact HB.out)) hb); clear HO104; clear HO108; clear HO111; clear HB; have HO104 := n0_; have HO108 := n1_; have HO111 := n2_; have HB := n3_; clear n0_ n1_ n2_ n3_; (try clear hb); (try clear hb2); (try clear hk); (try clear hi)) | (go_at_call 11; (with_reducible refine (spokeshaveref21_Free.calls k _ _ t109 a1 t114 _ ?side1 ?side2 A21.out).mono ?_); (case side1 => repeat (first | exact (Kd.R_reads' HO111.out).2.2 | (with_reducible refine Kd.C_alloc ?_ _) | (with_reducible refine Kd.C_drewN ?_ _) | (with_reducible refine Kd.C_drew ?_))); (case side2 => exact (Kd.R_reads' HO111.out).2.1); rintro e w' ⟨rfl, ⟨nd, rfl⟩⟩; (try first | exact ⟨rfl, _, World.drewN_drewN _ _ _⟩ | exact ⟨rfl, _, Eq.trans (World.drewN_drewN _ _ _) (congrArg (World.drewN _) (Nat.add_assoc _ _ _))⟩))); try go_wp2_with (first | (go_at_call 10; (with_reducible refine (Mov.moves_May.calls k _ _ l0 t113 _ ?side1 ?side2 A17.out).mono ?_); (case side1 => repeat (first | exact (Kd.C_below HR0.out HB.out) | (with_reducible refine Kd.C_alloc ?_ _) | (with_reducible refine Kd.C_drewN ?_ _) | (with_reducible refine Kd.C_drew ?_))); (case side2 => exact HC0.out); rintro e w22 ⟨rfl, hb⟩; have n0_ := Aside0.mk (Kd.R_below (by (with_reducible repeat (first | apply Kd.R_alloc | apply Kd.R_drewN | apply Kd.R_drew)); exact HO104.out) hb); have n1_ := Aside0.mk (Kd.R_below (by (with_reducible repeat (first | apply Kd.R_alloc | apply Kd.R_drewN | apply Kd.R_drew)); exact HO108.out) hb); have n2_ := Aside0.mk (Kd.R_below (by (with_reducible repeat (first | apply Kd.R_alloc | apply Kd.R_drewN | apply Kd.R_drew)); exact HO111.out) hb); have n3_ := Aside0.mk (below_step (by repeat (first | (with_reducible first | exact HB.out | apply below_alloc | apply pw_below_drewN | apply below_drew1) | exact HB.out)) hb); clear HO104; clear HO108; clear HO111; clear HB; have HO104 := n0_; have HO108 := n1_; have HO111 := n2_; have HB := n3_; clear n0_ n1_ n2_ n3_; (try clear hb); (try clear hb2); (try clear hk); (try clear hi)) | (go_at_call 11; (with_reducible refine (spokeshaveref21_Free.calls k _ _ t109 a1 t114 _ ?side1 ?side2 A21.out).mono ?_); (case side1 => repeat (first | exact (Kd.R_reads' HO111.out).2.2 | (with_reducible refine Kd.C_alloc ?_ _) | (with_reducible refine Kd.C_drewN ?_ _) | (with_reducible refine Kd.C_drew ?_))); (case side2 => exact (Kd.R_reads' HO111.out).2.1); rintro e w' ⟨rfl, ⟨nd, rfl⟩⟩; (try first | exact ⟨rfl, _, World.drewN_drewN _ _ _⟩ | exact ⟨rfl, _, Eq.trans (World.drewN_drewN _ _ _) (congrArg (World.drewN _) (Nat.add_assoc _ _ _))⟩))))
     go_meet
     case rel => exact ⟨_, ((t106 != t114)), (by first | rfl | (simp; done) | (simp [*]; done)), H', ⟨by first | omega | exact Nat.le_refl _⟩, ⟨by (with_reducible repeat (first | apply Kd.R_alloc | apply Kd.R_drewN | apply Kd.R_drew)); exact Kd.R_mono HO104.out (fun _ hk => hk.2)⟩, ⟨by (with_reducible repeat (first | apply Kd.R_alloc | apply Kd.R_drewN | apply Kd.R_drew)); exact Kd.R_mono HO108.out (fun _ hk => hk.2)⟩, ⟨by (with_reducible repeat (first | apply Kd.R_alloc | apply Kd.R_drewN | apply Kd.R_drew)); exact HO111.out⟩, ⟨by repeat (first | (with_reducible first | exact HB.out | apply below_alloc | apply pw_below_drewN | apply below_drew1) | exact HB.out)⟩⟩
    ·
     replace c20 := Bool.eq_false_iff.mpr c20
     subst c20
     have H1 : (spokeshavelaw21_MovesOrder.j0 k l0 a1 y102 t105 t106 t109 (t106 != false)) = some r := by rw [if_neg (show ¬ (false = true) by decide)] at H; exact H
     clear H
     have H := H1
     clear H1
     have H' := Aside0.mk H
     clear H
     go_wp2_with (first | (go_at_call 10; (with_reducible refine (Mov.moves_May.calls k _ _ l0 t113 _ ?side1 ?side2 A17.out).mono ?_); (case side1 => repeat (first | exact (Kd.C_below HR0.out HB.out) | (with_reducible refine Kd.C_alloc ?_ _) | (with_reducible refine Kd.C_drewN ?_ _) | (with_reducible refine Kd.C_drew ?_))); (case side2 => exact HC0.out); rintro e w23 ⟨rfl, hb⟩; have n0_ := Aside0.mk (Kd.R_below (by (with_reducible repeat (first | apply Kd.R_alloc | apply Kd.R_drewN | apply Kd.R_drew)); exact HO104.out) hb); have n1_ := Aside0.mk (Kd.R_below (by (with_reducible repeat (first | apply Kd.R_alloc | apply Kd.R_drewN | apply Kd.R_drew)); exact HO108.out) hb); have n2_ := Aside0.mk (Kd.R_below (by (with_reducible repeat (first | apply Kd.R_alloc | apply Kd.R_drewN | apply Kd.R_drew)); exact HO111.out) hb); have n3_ := Aside0.mk (below_step (by repeat (first | (with_reducible first | exact HB.out | apply below_alloc | apply pw_below_drewN | apply below_drew1) | exact HB.out)) hb); clear HO104; clear HO108; clear HO111; clear HB; have HO104 := n0_; have HO108 := n1_; have HO111 := n2_; have HB := n3_; clear n0_ n1_ n2_ n3_; (try clear hb); (try clear hb2); (try clear hk); (try clear hi)))
     repeat (go_quiet (first | (go_at_call 10; (with_reducible refine (Mov.moves_May.calls k _ _ l0 t113 _ ?side1 ?side2 A17.out).mono ?_); (case side1 => repeat (first | exact (Kd.C_below HR0.out HB.out) | (with_reducible refine Kd.C_alloc ?_ _) | (with_reducible refine Kd.C_drewN ?_ _) | (with_reducible refine Kd.C_drew ?_))); (case side2 => exact HC0.out); rintro e w23 ⟨rfl, hb⟩; have n0_ := Aside0.mk (Kd.R_below (by (with_reducible repeat (first | apply Kd.R_alloc | apply Kd.R_drewN | apply Kd.R_drew)); exact HO104.out) hb); have n1_ := Aside0.mk (Kd.R_below (by (with_reducible repeat (first | apply Kd.R_alloc | apply Kd.R_drewN | apply Kd.R_drew)); exact HO108.out) hb); have n2_ := Aside0.mk (Kd.R_below (by (with_reducible repeat (first | apply Kd.R_alloc | apply Kd.R_drewN | apply Kd.R_drew)); exact HO111.out) hb); have n3_ := Aside0.mk (below_step (by repeat (first | (with_reducible first | exact HB.out | apply below_alloc | apply pw_below_drewN | apply below_drew1) | exact HB.out)) hb); clear HO104; clear HO108; clear HO111; clear HB; have HO104 := n0_; have HO108 := n1_; have HO111 := n2_; have HB := n3_; clear n0_ n1_ n2_ n3_; (try clear hb); (try clear hb2); (try clear hk); (try clear hi))); try go_wp2_with (first | (go_at_call 10; (with_reducible refine (Mov.moves_May.calls k _ _ l0 t113 _ ?side1 ?side2 A17.out).mono ?_); (case side1 => repeat (first | exact (Kd.C_below HR0.out HB.out) | (with_reducible refine Kd.C_alloc ?_ _) | (with_reducible refine Kd.C_drewN ?_ _) | (with_reducible refine Kd.C_drew ?_))); (case side2 => exact HC0.out); rintro e w23 ⟨rfl, hb⟩; have n0_ := Aside0.mk (Kd.R_below (by (with_reducible repeat (first | apply Kd.R_alloc | apply Kd.R_drewN | apply Kd.R_drew)); exact HO104.out) hb); have n1_ := Aside0.mk (Kd.R_below (by (with_reducible repeat (first | apply Kd.R_alloc | apply Kd.R_drewN | apply Kd.R_drew)); exact HO108.out) hb); have n2_ := Aside0.mk (Kd.R_below (by (with_reducible repeat (first | apply Kd.R_alloc | apply Kd.R_drewN | apply Kd.R_drew)); exact HO111.out) hb); have n3_ := Aside0.mk (below_step (by repeat (first | (with_reducible first | exact HB.out | apply below_alloc | apply pw_below_drewN | apply below_drew1) | exact HB.out)) hb); clear HO104; clear HO108; clear HO111; clear HB; have HO104 := n0_; have HO108 := n1_; have HO111 := n2_; have HB := n3_; clear n0_ n1_ n2_ n3_; (try clear hb); (try clear hb2); (try clear hk); (try clear hi))))
     go_meet
     case rel => exact ⟨_, ((t106 != false)), (by first | rfl | (simp; done) | (simp [*]; done)), H', ⟨by first | omega | exact Nat.le_refl _⟩, ⟨by (with_reducible repeat (first | apply Kd.R_alloc | apply Kd.R_drewN | apply Kd.R_drew)); exact Kd.R_mono HO104.out (fun _ hk => hk.2)⟩, ⟨by (with_reducible repeat (first | apply Kd.R_alloc | apply Kd.R_drewN | apply Kd.R_drew)); exact Kd.R_mono HO108.out (fun _ hk => hk.2)⟩, ⟨by (with_reducible repeat (first | apply Kd.R_alloc | apply Kd.R_drewN | apply Kd.R_drew)); exact HO111.out⟩, ⟨by repeat (first | (with_reducible first | exact HB.out | apply below_alloc | apply pw_below_drewN | apply below_drew1) | exact HB.out)⟩⟩
  case rest =>
   clear HC10
   try clear c1
   try clear c2
   try clear p2
   try clear c3
   try clear c3b0
   try clear c3b1
   try clear c6
   try clear c18
   try clear c18b0
   try clear c18b1
   try clear c18b2
   try clear c20
   obtain ⟨kq, x46_9, rfl, HA, HJ9, HO_5, HO_6, HO_8, HB⟩ := hcut
   cases kq with
   | zero => exact absurd HA.out (by simp [spokeshavelaw21_MovesOrder.j0])
   | succ kj9 =>
    have H := HA.out
    clear HA
    simp only [spokeshavelaw21_MovesOrder.j0] at H
    by_cases c24 : x46_9 = true
    ·
     subst c24
     have H1 : (none) = some r := by rw [if_pos rfl] at H; exact H
     clear H
     have H := H1
     clear H1
     exact absurd H (by simp)
    ·
     replace c24 := Bool.eq_false_iff.mpr c24
     subst c24
     have H1 : (spokeshavelaw21_MovesOrder.l0 kj9 l0 a1 y102 t105 t106 t109 0) = some r := by rw [if_neg (show ¬ (false = true) by decide)] at H; exact H
     clear H
     have H := H1
     clear H1
     have H' := Aside0.mk H
     clear H
     go_wp2
     repeat (go_quiet (fail); try go_wp2)
     go_loopg [10] kj9 (fun kq v10 w' => ∃ (x10_2 : Int), v10 = .int .i64 x10_2 ∧ Aside0 (spokeshavelaw21_MovesOrder.l0 kq l0 a1 y102 t105 t106 t109 x10_2 = some r) ∧ Aside0 (kq ≤ kj9) ∧ Aside0 (Kd.R k32 32 w' w.heap.size (fun k_ => some k_ ≠ ((.slice Ao14 t105.length co14) : Value).ownBlock) (.slice Ao12 y102.length co12) y102) ∧ Aside0 (Kd.R k32 32 w' w.heap.size (fun k_ => some k_ ≠ ((.slice Ao12 y102.length co12) : Value).ownBlock) (.slice Ao14 t105.length co14) t105) ∧ Aside0 (Kd.R k36 36 w' w.heap.size (fun _ => True) (.slice Ao16 t109.length co16) t109) ∧ Aside0 (Below w.heap.size w w'))
     case atStart => exact ⟨(0), (by first | rfl | (simp; done) | (simp [*]; done)), H', ⟨Nat.le_refl _⟩, ⟨by (with_reducible repeat (first | apply Kd.R_alloc | apply Kd.R_drewN | apply Kd.R_drew)); exact HO_5.out⟩, ⟨by (with_reducible repeat (first | apply Kd.R_alloc | apply Kd.R_drewN | apply Kd.R_drew)); exact HO_6.out⟩, ⟨by (with_reducible repeat (first | apply Kd.R_alloc | apply Kd.R_drewN | apply Kd.R_drew)); exact HO_8.out⟩, ⟨by repeat (first | (with_reducible first | exact HB.out | apply below_alloc | apply pw_below_drewN | apply below_drew1) | exact HB.out)⟩⟩
     case round =>
      clear H'
      try clear c1
      try clear c2
      try clear p2
      try clear c3
      try clear c3b0
      try clear c3b1
      try clear c6
      try clear c18
      try clear c18b0
      try clear c18b1
      try clear c18b2
      try clear c20
      try clear c24
      try clear p2
      obtain ⟨x10_2, rfl, HA, HK2, HO_5, HO_6, HO_8, HB⟩ := hrel
      cases gk with
      | zero => exact absurd HA.out (by simp [spokeshavelaw21_MovesOrder.l0])
      | succ k2 =>
       have H := HA.out
       clear HA
       simp only [spokeshavelaw21_MovesOrder.l0] at H
       by_cases c25 : x10_2 < (l0.length : Int)
       ·
        rw [if_pos c25] at H
        have c25b0 : decide (x10_2 < (l0.length : Int)) = true := decide_eq_true c25
        clear c25
        by_cases c26 : 0 ≤ x10_2
        case neg => rw [if_neg c26] at H; exact absurd H (by simp)
        rw [if_pos c26] at H
        have c26b0 : decide (0 ≤ x10_2) = true := decide_eq_true c26
        clear c26
        by_cases c27 : x10_2 < (y102.length : Int)
        case neg => rw [if_neg c27] at H; exact absurd H (by simp)
        rw [if_pos c27] at H
        have c27b0 : decide (x10_2 < (y102.length : Int)) = true := decide_eq_true c27
        clear c27
        by_cases c28 : (!(((rd_T32 y102 x10_2).f0) == ((rd_T32 l0 x10_2).f0)) || (!(((rd_T32 y102 x10_2).f1) == ((rd_T32 l0 x10_2).f1)))) = true
        ·
         rw [if_pos c28] at H
         exact absurd H (by simp)
        ·
         rw [if_neg c28] at H
         have c28b0 : (!(((rd_T32 y102 x10_2).f0) == ((rd_T32 l0 x10_2).f0)) || (!(((rd_T32 y102 x10_2).f1) == ((rd_T32 l0 x10_2).f1)))) = false := by first | exact c28 | exact absurd c28 (by decide) | decide | (simp; done) | simpa using c28
         clear c28
         have H' := Aside0.mk H
         clear H
         have p115 : 0 ≤ (x10_2 : Int) := of_decide_eq_true (by first | (with_reducible assumption) | assumption)
         have q115 : x10_2 < (y102.length : Int) := of_decide_eq_true (by first | (with_reducible assumption) | assumption)
         obtain ⟨ad115, e115, hx115_0, hx115_1⟩ := at_T32 (Kd.R_reads' HO_5.out).2.2 x10_2 p115 q115
         cases e115
         replace p115 := eq_true p115
         replace q115 := eq_true q115
         have p116 : 0 ≤ (x10_2 : Int) := of_decide_eq_true (by first | (with_reducible assumption) | assumption)
         have q116 : x10_2 < (l0.length : Int) := of_decide_eq_true (by first | (with_reducible assumption) | assumption)
         obtain ⟨ad116, e116, hx116_0, hx116_1⟩ := at_T32 HR0.out x10_2 p116 q116
         cases e116
         replace hx116_0 := (HB.out.cell (World.block_lt_of_cell? w _ hx116_0)).trans hx116_0
         replace hx116_1 := (HB.out.cell (World.block_lt_of_cell? w _ hx116_1)).trans hx116_1
         replace p116 := eq_true p116
         replace q116 := eq_true q116
         go_wp2
         repeat (go_quiet (fail); try go_wp2)
         go_roundg k2
         case measure => have := HJ9.out; have := HK2.out; omega
         case rel => exact ⟨(wrap64 (x10_2 + 1)), (by first | rfl | (simp; done) | (simp [*]; done)), H', ⟨by have := HJ9.out; have := HK2.out; omega⟩, ⟨by (with_reducible repeat (first | apply Kd.R_alloc | apply Kd.R_drewN | apply Kd.R_drew)); exact HO_5.out⟩, ⟨by (with_reducible repeat (first | apply Kd.R_alloc | apply Kd.R_drewN | apply Kd.R_drew)); exact HO_6.out⟩, ⟨by (with_reducible repeat (first | apply Kd.R_alloc | apply Kd.R_drewN | apply Kd.R_drew)); exact HO_8.out⟩, ⟨by repeat (first | (with_reducible first | exact HB.out | apply below_alloc | apply pw_below_drewN | apply below_drew1) | exact HB.out)⟩⟩
       ·
        rw [if_neg c25] at H
        have c25b0 : decide (x10_2 < (l0.length : Int)) = false := decide_eq_false c25
        clear c25
        by_cases c29 : t106 = true
        ·
         subst c29
         have H1 : (if (t105.length : Int) > 200 then (spokeshavelaw21_MovesOrder.j2 k2 a1 t105 t109 true) else ((spokeshaveref21_Least.f k2 t109).bind fun t118 => (spokeshavelaw21_MovesOrder.j2 k2 a1 t105 t109 (decide ((t105.length : Int) > t118))))) = some r := by rw [if_pos rfl] at H; exact H
         clear H
         have H := H1
         clear H1
         have HC30 := Aside0.mk H
         clear H
         go_upto_region 16 with (fail)
         repeat (go_quiet (fail); go_upto_region 16 with (fail))
         go_cut [79] (fun v79 wc => ∃ (kq : Nat) (x79_29 : Bool), v79 = .bool x79_29 ∧ Aside0 (spokeshavelaw21_MovesOrder.j2 kq a1 t105 t109 x79_29 = some r) ∧ Aside0 (kq ≤ k2) ∧ Aside0 (Kd.R k32 32 wc w.heap.size (fun _ => True) (.slice Ao14 t105.length co14) t105) ∧ Aside0 (Kd.R k36 36 wc w.heap.size (fun _ => True) (.slice Ao16 t109.length co16) t109) ∧ Aside0 (Below w.heap.size w wc))
         case first =>
          have H := HC30.out
          clear HC30
          by_cases c31 : (t105.length : Int) > 200
          ·
           rw [if_pos c31] at H
           have c31b0 : decide (200 < (t105.length : Int)) = true := decide_eq_true c31
           have c31b1 : decide (200 < t105.length) = true := decide_eq_true (by omega)
           clear c31
           (first | rw [c31b0] | (simp only [i64_w, i32_w]; rw [c31b0]) | skip)
           have H' := Aside0.mk H
           clear H
           go_wp2
           repeat (go_quiet (fail); try go_wp2)
           go_meet
           case rel => exact ⟨_, (true), (by first | rfl | (simp; done) | (simp [*]; done)), H', ⟨by have := HJ9.out; have := HK2.out; first | omega | exact Nat.le_refl _⟩, ⟨by (with_reducible repeat (first | apply Kd.R_alloc | apply Kd.R_drewN | apply Kd.R_drew)); exact Kd.R_mono HO_6.out (fun _ hk => trivial)⟩, ⟨by (with_reducible repeat (first | apply Kd.R_alloc | apply Kd.R_drewN | apply Kd.R_drew)); exact HO_8.out⟩, ⟨by repeat (first | (with_reducible first | exact HB.out | apply below_alloc | apply pw_below_drewN | apply below_drew1) | exact HB.out)⟩⟩
          ·
           rw [if_neg c31] at H
           have c31b0 : decide (200 < (t105.length : Int)) = false := decide_eq_false c31
           have c31b1 : decide (200 < t105.length) = false := decide_eq_false (by omega)
           clear c31
           (first | rw [c31b0] | (simp only [i64_w, i32_w]; rw [c31b0]) | skip)
           replace H := Option.bind_eq_some_iff.mp H
           obtain ⟨t118, A320, H⟩ := H
           replace H : (spokeshavelaw21_MovesOrder.j2 k2 a1 t105 t109 (decide ((t105.length : Int) > t118))) = some r := H
           have A32 := Aside0.mk A320
           clear A320
           have H' := Aside0.mk H
           clear H
           go_wp2_with (first | (go_at_call 12; (with_reducible refine (spokeshaveref21_Least.calls k2 _ _ t109 t118 _ ?side1 ?side2 A32.out).mono ?_); (case side1 => repeat (first | exact (Kd.R_reads' HO_8.out).2.2 | (with_reducible refine Kd.C_alloc ?_ _) | (with_reducible refine Kd.C_drewN ?_ _) | (with_reducible refine Kd.C_drew ?_))); (case side2 => exact (Kd.R_reads' HO_8.out).2.1); rintro e w33 ⟨rfl, hb⟩; have n0_ := Aside0.mk (Kd.R_below (by (with_reducible repeat (first | apply Kd.R_alloc | apply Kd.R_drewN | apply Kd.R_drew)); exact HO_5.out) hb); have n1_ := Aside0.mk (Kd.R_below (by (with_reducible repeat (first | apply Kd.R_alloc | apply Kd.R_drewN | apply Kd.R_drew)); exact HO_6.out) hb); have n2_ := Aside0.mk (Kd.R_below (by (with_reducible repeat (first | apply Kd.R_alloc | apply Kd.R_drewN | apply Kd.R_drew)); exact HO_8.out) hb); have n3_ := Aside0.mk (below_step (by repeat (first | (with_reducible first | exact HB.out | apply below_alloc | apply pw_below_drewN | apply below_drew1) | exact HB.out)) hb); clear HO_5; clear HO_6; clear HO_8; clear HB; have HO_5 := n0_; have HO_6 := n1_; have HO_8 := n2_; have HB := n3_; clear n0_ n1_ n2_ n3_; (try clear hb); (try clear hb2); (try clear hk); (try clear hi)))
           repeat (go_quiet (first | (go_at_call 12; (with_reducible refine (spokeshaveref21_Least.calls k2 _ _ t109 t118 _ ?side1 ?side2 A32.out).mono ?_); (case side1 => repeat (first | exact (Kd.R_reads' HO_8.out).2.2 | (with_reducible refine Kd.C_alloc ?_ _) | (with_reducible refine Kd.C_drewN ?_ _) | (with_reducible refine Kd.C_drew ?_))); (case side2 => exact (Kd.R_reads' HO_8.out).2.1); rintro e w33 ⟨rfl, hb⟩; have n0_ := Aside0.mk (Kd.R_below (by (with_reducible repeat (first | apply Kd.R_alloc | apply Kd.R_drewN | apply Kd.R_drew)); exact HO_5.out) hb); have n1_ := Aside0.mk (Kd.R_below (by (with_reducible repeat (first | apply Kd.R_alloc | apply Kd.R_drewN | apply Kd.R_drew)); exact HO_6.out) hb); have n2_ := Aside0.mk (Kd.R_below (by (with_reducible repeat (first | apply Kd.R_alloc | apply Kd.R_drewN | apply Kd.R_drew)); exact HO_8.out) hb); have n3_ := Aside0.mk (below_step (by repeat (first | (with_reducible first | exact HB.out | apply below_alloc | apply pw_below_drewN | apply below_drew1) | exact HB.out)) hb); clear HO_5; clear HO_6; clear HO_8; clear HB; have HO_5 := n0_; have HO_6 := n1_; have HO_8 := n2_; have HB := n3_; clear n0_ n1_ n2_ n3_; (try clear hb); (try clear hb2); (try clear hk); (try clear hi))); try go_wp2_with (first | (go_at_call 12; (with_reducible refine (spokeshaveref21_Least.calls k2 _ _ t109 t118 _ ?side1 ?side2 A32.out).mono ?_); (case side1 => repeat (first | exact (Kd.R_reads' HO_8.out).2.2 | (with_reducible refine Kd.C_alloc ?_ _) | (with_reducible refine Kd.C_drewN ?_ _) | (with_reducible refine Kd.C_drew ?_))); (case side2 => exact (Kd.R_reads' HO_8.out).2.1); rintro e w33 ⟨rfl, hb⟩; have n0_ := Aside0.mk (Kd.R_below (by (with_reducible repeat (first | apply Kd.R_alloc | apply Kd.R_drewN | apply Kd.R_drew)); exact HO_5.out) hb); have n1_ := Aside0.mk (Kd.R_below (by (with_reducible repeat (first | apply Kd.R_alloc | apply Kd.R_drewN | apply Kd.R_drew)); exact HO_6.out) hb); have n2_ := Aside0.mk (Kd.R_below (by (with_reducible repeat (first | apply Kd.R_alloc | apply Kd.R_drewN | apply Kd.R_drew)); exact HO_8.out) hb); have n3_ := Aside0.mk (below_step (by repeat (first | (with_reducible first | exact HB.out | apply below_alloc | apply pw_below_drewN | apply below_drew1) | exact HB.out)) hb); clear HO_5; clear HO_6; clear HO_8; clear HB; have HO_5 := n0_; have HO_6 := n1_; have HO_8 := n2_; have HB := n3_; clear n0_ n1_ n2_ n3_; (try clear hb); (try clear hb2); (try clear hk); (try clear hi))))
           go_meet
           case rel => exact ⟨_, (decide ((t105.length : Int) > t118)), (by first | rfl | (simp; done) | (simp [*]; done)), H', ⟨by have := HJ9.out; have := HK2.out; first | omega | exact Nat.le_refl _⟩, ⟨by (with_reducible repeat (first | apply Kd.R_alloc | apply Kd.R_drewN | apply Kd.R_drew)); exact Kd.R_mono HO_6.out (fun _ hk => trivial)⟩, ⟨by (with_reducible repeat (first | apply Kd.R_alloc | apply Kd.R_drewN | apply Kd.R_drew)); exact HO_8.out⟩, ⟨by repeat (first | (with_reducible first | exact HB.out | apply below_alloc | apply pw_below_drewN | apply below_drew1) | exact HB.out)⟩⟩
         case rest =>
          clear HC30
          try clear c1
          try clear p1
          try clear q1
          try clear hx1
          try clear c2
          try clear p2
          try clear c3
          try clear c3b0
          try clear c3b1
          try clear c6
          try clear p6
          try clear p11
          try clear q11
          try clear hx11
          try clear c18
          try clear c18b0
          try clear c18b1
          try clear c18b2
          try clear c20
          try clear c24
          try clear c25
          try clear c25b0
          try clear c26
          try clear c26b0
          try clear c27
          try clear c27b0
          try clear c28
          try clear c28b0
          try clear c29
          try clear c31
          try clear c31b0
          try clear c31b1
          try clear hx115_0
          try clear hx115_1
          try clear hx116_0
          try clear hx116_1
          try clear p115
          try clear p116
          try clear p2
          try clear q115
          try clear q116
          obtain ⟨kq, x79_29, rfl, HA, HJ29, HO_6, HO_8, HB⟩ := hcut
          cases kq with
          | zero => exact absurd HA.out (by simp [spokeshavelaw21_MovesOrder.j2])
          | succ kj29 =>
           have H := HA.out
           clear HA
           simp only [spokeshavelaw21_MovesOrder.j2] at H
           by_cases c34 : x79_29 = true
           ·
            subst c34
            have H1 : (none) = some r := by rw [if_pos rfl] at H; exact H
            clear H
            have H := H1
            clear H1
            exact absurd H (by simp)
           ·
            replace c34 := Bool.eq_false_iff.mpr c34
            subst c34
            have H1 : (spokeshavelaw21_MovesOrder.l1 kj29 a1 t105 t109 0) = some r := by rw [if_neg (show ¬ (false = true) by decide)] at H; exact H
            clear H
            have H := H1
            clear H1
            have H' := Aside0.mk H
            clear H
            go_wp2
            repeat (go_quiet (fail); try go_wp2)
            go_loopg [11] kj29 (fun kq v11 w' => ∃ (x11_4 : Int), v11 = .int .i64 x11_4 ∧ Aside0 (spokeshavelaw21_MovesOrder.l1 kq a1 t105 t109 x11_4 = some r) ∧ Aside0 (kq ≤ kj29) ∧ Aside0 (Kd.R k32 32 w' w.heap.size (fun _ => True) (.slice Ao14 t105.length co14) t105) ∧ Aside0 (Kd.R k36 36 w' w.heap.size (fun _ => True) (.slice Ao16 t109.length co16) t109) ∧ Aside0 (Below w.heap.size w w'))
            case atStart => exact ⟨(0), (by first | rfl | (simp; done) | (simp [*]; done)), H', ⟨Nat.le_refl _⟩, ⟨by (with_reducible repeat (first | apply Kd.R_alloc | apply Kd.R_drewN | apply Kd.R_drew)); exact HO_6.out⟩, ⟨by (with_reducible repeat (first | apply Kd.R_alloc | apply Kd.R_drewN | apply Kd.R_drew)); exact HO_8.out⟩, ⟨by repeat (first | (with_reducible first | exact HB.out | apply below_alloc | apply pw_below_drewN | apply below_drew1) | exact HB.out)⟩⟩
            case round =>
             clear H'
             try clear c1
             try clear p1
             try clear q1
             try clear hx1
             try clear c2
             try clear p2
             try clear c3
             try clear c3b0
             try clear c3b1
             try clear c6
             try clear p6
             try clear p11
             try clear q11
             try clear hx11
             try clear c18
             try clear c18b0
             try clear c18b1
             try clear c18b2
             try clear c20
             try clear c24
             try clear c25
             try clear c25b0
             try clear c26
             try clear c26b0
             try clear c27
             try clear c27b0
             try clear c28
             try clear c28b0
             try clear c29
             try clear c31
             try clear c31b0
             try clear c31b1
             try clear c34
             try clear hx115_0
             try clear hx115_1
             try clear hx116_0
             try clear hx116_1
             try clear p1
             try clear p11
             try clear p115
             try clear p116
             try clear p2
             try clear p6
             try clear q1
             try clear q11
             try clear q115
             try clear q116
             obtain ⟨x11_4, rfl, HA, HK4, HO_6, HO_8, HB⟩ := hrel
             cases gk with
             | zero => exact absurd HA.out (by simp [spokeshavelaw21_MovesOrder.l1])
             | succ k4 =>
              have H := HA.out
              clear HA
              simp only [spokeshavelaw21_MovesOrder.l1] at H
              by_cases c35 : x11_4 < (t105.length : Int)
              ·
               rw [if_pos c35] at H
               have c35b0 : decide (x11_4 < (t105.length : Int)) = true := decide_eq_true c35
               clear c35
               by_cases c36 : 0 ≤ x11_4
               case neg => rw [if_neg c36] at H; exact absurd H (by simp)
               rw [if_pos c36] at H
               have c36b0 : decide (0 ≤ x11_4) = true := decide_eq_true c36
               clear c36
               by_cases c37 : ((rd_T32 t105 x11_4).f0) = ((rd_T32 t105 x11_4).f1)
               ·
                rw [if_pos c37] at H
                exact absurd H (by simp)
               ·
                rw [if_neg c37] at H
                have c37b0 : (((rd_T32 t105 x11_4).f0) == ((rd_T32 t105 x11_4).f1)) = false := beq_eq_false_iff_ne.mpr c37
                have c37b1 : (((rd_T32 t105 x11_4).f0) != ((rd_T32 t105 x11_4).f1)) = true := bne_iff_ne.mpr c37
                have H' := Aside0.mk H
                clear H
                have p119 : 0 ≤ (x11_4 : Int) := of_decide_eq_true (by first | (with_reducible assumption) | assumption)
                have q119 : x11_4 < (t105.length : Int) := of_decide_eq_true (by first | (with_reducible assumption) | assumption)
                obtain ⟨ad119, e119, hx119_0, hx119_1⟩ := at_T32 (Kd.R_reads' HO_6.out).2.2 x11_4 p119 q119
                cases e119
                replace p119 := eq_true p119
                replace q119 := eq_true q119
                have p120 : 0 ≤ (x11_4 : Int) := of_decide_eq_true (by first | (with_reducible assumption) | assumption)
                have q120 : x11_4 < (t105.length : Int) := of_decide_eq_true (by first | (with_reducible assumption) | assumption)
                obtain ⟨ad120, e120, hx120_0, hx120_1⟩ := at_T32 (Kd.R_reads' HO_6.out).2.2 x11_4 p120 q120
                obtain rfl : ad119 = ad120 := (by injection e120)
                replace p120 := eq_true p120
                replace q120 := eq_true q120
                go_wp2
                repeat (go_quiet (fail); try go_wp2)
                go_roundg k4
                case measure => have := HJ9.out; have := HK2.out; have := HJ29.out; have := HK4.out; omega
                case rel => exact ⟨(wrap64 (x11_4 + 1)), (by first | rfl | (simp; done) | (simp [*]; done)), H', ⟨by have := HJ9.out; have := HK2.out; have := HJ29.out; have := HK4.out; omega⟩, ⟨by (with_reducible repeat (first | apply Kd.R_alloc | apply Kd.R_drewN | apply Kd.R_drew)); exact HO_6.out⟩, ⟨by (with_reducible repeat (first | apply Kd.R_alloc | apply Kd.R_drewN | apply Kd.R_drew)); exact HO_8.out⟩, ⟨by repeat (first | (with_reducible first | exact HB.out | apply below_alloc | apply pw_below_drewN | apply below_drew1) | exact HB.out)⟩⟩
              ·
               rw [if_neg c35] at H
               have c35b0 : decide (x11_4 < (t105.length : Int)) = false := decide_eq_false c35
               clear c35
               replace H := Option.bind_eq_some_iff.mp H
               obtain ⟨t121, A380, H⟩ := H
               replace H : ((spokeshaveref21_Done.f k4 t121).bind fun t124 => (spokeshavelaw21_MovesOrder.l2 k4 a1 t109 t124 0)) = some r := H
               have A38 := Aside0.mk A380
               clear A380
               replace H := Option.bind_eq_some_iff.mp H
               obtain ⟨t124, A390, H⟩ := H
               replace H : (spokeshavelaw21_MovesOrder.l2 k4 a1 t109 t124 0) = some r := H
               have A39 := Aside0.mk A390
               clear A390
               have H' := Aside0.mk H
               clear H
               go_wp2_with (first | (go_at_call 8; (with_reducible refine (spokeshavelaw21_of.calls k4 _ _ t105 t121 _ ?side1 ?side2 A38.out).mono ?_); (case side1 => repeat (first | exact (Kd.R_reads' HO_6.out).2.2 | (with_reducible refine Kd.C_alloc ?_ _) | (with_reducible refine Kd.C_drewN ?_ _) | (with_reducible refine Kd.C_drew ?_))); (case side2 => exact (Kd.R_reads' HO_6.out).2.1); rintro e w40 ⟨v122, rfl, ho0, hb⟩; have n0_ := Aside0.mk (Kd.R_below (by (with_reducible repeat (first | apply Kd.R_alloc | apply Kd.R_drewN | apply Kd.R_drew)); exact HO_6.out) hb); have n1_ := Aside0.mk (Kd.R_elder' (by (with_reducible repeat (first | apply Kd.R_alloc | apply Kd.R_drewN | apply Kd.R_drew)); exact HO_8.out) (Kd.R_base ho0) hb); have n2_ := Aside0.mk (Kd.R_lower (Kd.R_new' ho0 (Kd.R_lt (by (with_reducible repeat (first | apply Kd.R_alloc | apply Kd.R_drewN | apply Kd.R_drew)); exact HO_8.out))) (below_size (by repeat (first | (with_reducible first | exact HB.out | apply below_alloc | apply pw_below_drewN | apply below_drew1) | exact HB.out)))); have n3_ := Aside0.mk (below_step (by repeat (first | (with_reducible first | exact HB.out | apply below_alloc | apply pw_below_drewN | apply below_drew1) | exact HB.out)) hb); clear HO_6; clear HO_8; clear HB; have HO_6 := n0_; have HO_8 := n1_; have HO123 := n2_; have HB := n3_; clear n0_ n1_ n2_ n3_; (try clear hb); (try clear hb2); (try clear hk); (try clear hi); (try clear ho0); obtain ⟨Ao41, co41, eo41⟩ := Kd.R_slice HO123.out; subst eo41) | (go_at_call 13; (with_reducible refine (spokeshaveref21_Done.calls k4 _ _ t121 t124 _ ?side1 ?side2 A39.out).mono ?_); (case side1 => repeat (first | exact (Kd.R_reads' HO123.out).2.2 | (with_reducible refine Kd.C_alloc ?_ _) | (with_reducible refine Kd.C_drewN ?_ _) | (with_reducible refine Kd.C_drew ?_))); (case side2 => exact (Kd.R_reads' HO123.out).2.1); rintro e w42 ⟨v125, rfl, ho0, hb⟩; have n0_ := Aside0.mk (Kd.R_below (by (with_reducible repeat (first | apply Kd.R_alloc | apply Kd.R_drewN | apply Kd.R_drew)); exact HO_6.out) hb); have n1_ := Aside0.mk (Kd.R_elder' (by (with_reducible repeat (first | apply Kd.R_alloc | apply Kd.R_drewN | apply Kd.R_drew)); exact HO_8.out) (Kd.R_base ho0) hb); have n2_ := Aside0.mk (Kd.R_elder' (by (with_reducible repeat (first | apply Kd.R_alloc | apply Kd.R_drewN | apply Kd.R_drew)); exact HO123.out) (Kd.R_base ho0) hb); have n3_ := Aside0.mk (Kd.R_lower (Kd.R_new' (Kd.R_new' ho0 (Kd.R_lt (by (with_reducible repeat (first | apply Kd.R_alloc | apply Kd.R_drewN | apply Kd.R_drew)); exact HO_8.out))) (Kd.R_lt (by (with_reducible repeat (first | apply Kd.R_alloc | apply Kd.R_drewN | apply Kd.R_drew)); exact HO123.out))) (below_size (by repeat (first | (with_reducible first | exact HB.out | apply below_alloc | apply pw_below_drewN | apply below_drew1) | exact HB.out)))); have n4_ := Aside0.mk (below_step (by repeat (first | (with_reducible first | exact HB.out | apply below_alloc | apply pw_below_drewN | apply below_drew1) | exact HB.out)) hb); clear HO_6; clear HO_8; clear HO123; clear HB; have HO_6 := n0_; have HO_8 := n1_; have HO123 := n2_; have HO126 := n3_; have HB := n4_; clear n0_ n1_ n2_ n3_ n4_; (try clear hb); (try clear hb2); (try clear hk); (try clear hi); (try clear ho0); obtain ⟨Ao43, co43, eo43⟩ := Kd.R_slice HO126.out; subst eo43))
               repeat (go_quiet (first | (go_at_call 8; (with_reducible refine (spokeshavelaw21_of.calls k4 _ _ t105 t121 _ ?side1 ?side2 A38.out).mono ?_); (case side1 => repeat (first | exact (Kd.R_reads' HO_6.out).2.2 | (with_reducible refine Kd.C_alloc ?_ _) | (with_reducible refine Kd.C_drewN ?_ _) | (with_reducible refine Kd.C_drew ?_))); (case side2 => exact (Kd.R_reads' HO_6.out).2.1); rintro e w40 ⟨v122, rfl, ho0, hb⟩; have n0_ := Aside0.mk (Kd.R_below (by (with_reducible repeat (first | apply Kd.R_alloc | apply Kd.R_drewN | apply Kd.R_drew)); exact HO_6.out) hb); have n1_ := Aside0.mk (Kd.R_elder' (by (with_reducible repeat (first | apply Kd.R_alloc | apply Kd.R_drewN | apply Kd.R_drew)); exact HO_8.out) (Kd.R_base ho0) hb); have n2_ := Aside0.mk (Kd.R_lower (Kd.R_new' ho0 (Kd.R_lt (by (with_reducible repeat (first | apply Kd.R_alloc | apply Kd.R_drewN | apply Kd.R_drew)); exact HO_8.out))) (below_size (by repeat (first | (with_reducible first | exact HB.out | apply below_alloc | apply pw_below_drewN | apply below_drew1) | exact HB.out)))); have n3_ := Aside0.mk (below_step (by repeat (first | (with_reducible first | exact HB.out | apply below_alloc | apply pw_below_drewN | apply below_drew1) | exact HB.out)) hb); clear HO_6; clear HO_8; clear HB; have HO_6 := n0_; have HO_8 := n1_; have HO123 := n2_; have HB := n3_; clear n0_ n1_ n2_ n3_; (try clear hb); (try clear hb2); (try clear hk); (try clear hi); (try clear ho0); obtain ⟨Ao41, co41, eo41⟩ := Kd.R_slice HO123.out; subst eo41) | (go_at_call 13; (with_reducible refine (spokeshaveref21_Done.calls k4 _ _ t121 t124 _ ?side1 ?side2 A39.out).mono ?_); (case side1 => repeat (first | exact (Kd.R_reads' HO123.out).2.2 | (with_reducible refine Kd.C_alloc ?_ _) | (with_reducible refine Kd.C_drewN ?_ _) | (with_reducible refine Kd.C_drew ?_))); (case side2 => exact (Kd.R_reads' HO123.out).2.1); rintro e w42 ⟨v125, rfl, ho0, hb⟩; have n0_ := Aside0.mk (Kd.R_below (by (with_reducible repeat (first | apply Kd.R_alloc | apply Kd.R_drewN | apply Kd.R_drew)); exact HO_6.out) hb); have n1_ := Aside0.mk (Kd.R_elder' (by (with_reducible repeat (first | apply Kd.R_alloc | apply Kd.R_drewN | apply Kd.R_drew)); exact HO_8.out) (Kd.R_base ho0) hb); have n2_ := Aside0.mk (Kd.R_elder' (by (with_reducible repeat (first | apply Kd.R_alloc | apply Kd.R_drewN | apply Kd.R_drew)); exact HO123.out) (Kd.R_base ho0) hb); have n3_ := Aside0.mk (Kd.R_lower (Kd.R_new' (Kd.R_new' ho0 (Kd.R_lt (by (with_reducible repeat (first | apply Kd.R_alloc | apply Kd.R_drewN | apply Kd.R_drew)); exact HO_8.out))) (Kd.R_lt (by (with_reducible repeat (first | apply Kd.R_alloc | apply Kd.R_drewN | apply Kd.R_drew)); exact HO123.out))) (below_size (by repeat (first | (with_reducible first | exact HB.out | apply below_alloc | apply pw_below_drewN | apply below_drew1) | exact HB.out)))); have n4_ := Aside0.mk (below_step (by repeat (first | (with_reducible first | exact HB.out | apply below_alloc | apply pw_below_drewN | apply below_drew1) | exact HB.out)) hb); clear HO_6; clear HO_8; clear HO123; clear HB; have HO_6 := n0_; have HO_8 := n1_; have HO123 := n2_; have HO126 := n3_; have HB := n4_; clear n0_ n1_ n2_ n3_ n4_; (try clear hb); (try clear hb2); (try clear hk); (try clear hi); (try clear ho0); obtain ⟨Ao43, co43, eo43⟩ := Kd.R_slice HO126.out; subst eo43)); try go_wp2_with (first | (go_at_call 8; (with_reducible refine (spokeshavelaw21_of.calls k4 _ _ t105 t121 _ ?side1 ?side2 A38.out).mono ?_); (case side1 => repeat (first | exact (Kd.R_reads' HO_6.out).2.2 | (with_reducible refine Kd.C_alloc ?_ _) | (with_reducible refine Kd.C_drewN ?_ _) | (with_reducible refine Kd.C_drew ?_))); (case side2 => exact (Kd.R_reads' HO_6.out).2.1); rintro e w40 ⟨v122, rfl, ho0, hb⟩; have n0_ := Aside0.mk (Kd.R_below (by (with_reducible repeat (first | apply Kd.R_alloc | apply Kd.R_drewN | apply Kd.R_drew)); exact HO_6.out) hb); have n1_ := Aside0.mk (Kd.R_elder' (by (with_reducible repeat (first | apply Kd.R_alloc | apply Kd.R_drewN | apply Kd.R_drew)); exact HO_8.out) (Kd.R_base ho0) hb); have n2_ := Aside0.mk (Kd.R_lower (Kd.R_new' ho0 (Kd.R_lt (by (with_reducible repeat (first | apply Kd.R_alloc | apply Kd.R_drewN | apply Kd.R_drew)); exact HO_8.out))) (below_size (by repeat (first | (with_reducible first | exact HB.out | apply below_alloc | apply pw_below_drewN | apply below_drew1) | exact HB.out)))); have n3_ := Aside0.mk (below_step (by repeat (first | (with_reducible first | exact HB.out | apply below_alloc | apply pw_below_drewN | apply below_drew1) | exact HB.out)) hb); clear HO_6; clear HO_8; clear HB; have HO_6 := n0_; have HO_8 := n1_; have HO123 := n2_; have HB := n3_; clear n0_ n1_ n2_ n3_; (try clear hb); (try clear hb2); (try clear hk); (try clear hi); (try clear ho0); obtain ⟨Ao41, co41, eo41⟩ := Kd.R_slice HO123.out; subst eo41) | (go_at_call 13; (with_reducible refine (spokeshaveref21_Done.calls k4 _ _ t121 t124 _ ?side1 ?side2 A39.out).mono ?_); (case side1 => repeat (first | exact (Kd.R_reads' HO123.out).2.2 | (with_reducible refine Kd.C_alloc ?_ _) | (with_reducible refine Kd.C_drewN ?_ _) | (with_reducible refine Kd.C_drew ?_))); (case side2 => exact (Kd.R_reads' HO123.out).2.1); rintro e w42 ⟨v125, rfl, ho0, hb⟩; have n0_ := Aside0.mk (Kd.R_below (by (with_reducible repeat (first | apply Kd.R_alloc | apply Kd.R_drewN | apply Kd.R_drew)); exact HO_6.out) hb); have n1_ := Aside0.mk (Kd.R_elder' (by (with_reducible repeat (first | apply Kd.R_alloc | apply Kd.R_drewN | apply Kd.R_drew)); exact HO_8.out) (Kd.R_base ho0) hb); have n2_ := Aside0.mk (Kd.R_elder' (by (with_reducible repeat (first | apply Kd.R_alloc | apply Kd.R_drewN | apply Kd.R_drew)); exact HO123.out) (Kd.R_base ho0) hb); have n3_ := Aside0.mk (Kd.R_lower (Kd.R_new' (Kd.R_new' ho0 (Kd.R_lt (by (with_reducible repeat (first | apply Kd.R_alloc | apply Kd.R_drewN | apply Kd.R_drew)); exact HO_8.out))) (Kd.R_lt (by (with_reducible repeat (first | apply Kd.R_alloc | apply Kd.R_drewN | apply Kd.R_drew)); exact HO123.out))) (below_size (by repeat (first | (with_reducible first | exact HB.out | apply below_alloc | apply pw_below_drewN | apply below_drew1) | exact HB.out)))); have n4_ := Aside0.mk (below_step (by repeat (first | (with_reducible first | exact HB.out | apply below_alloc | apply pw_below_drewN | apply below_drew1) | exact HB.out)) hb); clear HO_6; clear HO_8; clear HO123; clear HB; have HO_6 := n0_; have HO_8 := n1_; have HO123 := n2_; have HO126 := n3_; have HB := n4_; clear n0_ n1_ n2_ n3_ n4_; (try clear hb); (try clear hb2); (try clear hk); (try clear hi); (try clear ho0); obtain ⟨Ao43, co43, eo43⟩ := Kd.R_slice HO126.out; subst eo43)))
               go_loopg [13] k4 (fun kq v13 w' => ∃ (x13_5 : Int), v13 = .int .i64 x13_5 ∧ Aside0 (spokeshavelaw21_MovesOrder.l2 kq a1 t109 t124 x13_5 = some r) ∧ Aside0 (kq ≤ k4) ∧ Aside0 (Kd.R k36 36 w' w.heap.size (fun k_ => some k_ ≠ ((.slice Ao43 t124.length co43) : Value).ownBlock) (.slice Ao16 t109.length co16) t109) ∧ Aside0 (Kd.R k36 36 w' w.heap.size (fun k_ => some k_ ≠ ((.slice Ao16 t109.length co16) : Value).ownBlock) (.slice Ao43 t124.length co43) t124) ∧ Aside0 (Below w.heap.size w w'))
               case atStart => exact ⟨(0), (by first | rfl | (simp; done) | (simp [*]; done)), H', ⟨Nat.le_refl _⟩, ⟨by (with_reducible repeat (first | apply Kd.R_alloc | apply Kd.R_drewN | apply Kd.R_drew)); exact Kd.R_mono HO_8.out (fun _ hk => hk.2)⟩, ⟨by (with_reducible repeat (first | apply Kd.R_alloc | apply Kd.R_drewN | apply Kd.R_drew)); exact Kd.R_mono HO126.out (fun _ hk => hk.1.2)⟩, ⟨by repeat (first | (with_reducible first | exact HB.out | apply below_alloc | apply pw_below_drewN | apply below_drew1) | exact HB.out)⟩⟩
               case round =>
                clear H'
                try clear c1
                try clear p1
                try clear q1
                try clear hx1
                try clear c2
                try clear p2
                try clear c3
                try clear c3b0
                try clear c3b1
                try clear c6
                try clear p6
                try clear p11
                try clear q11
                try clear hx11
                try clear p12
                try clear q12
                try clear hx12
                try clear c18
                try clear c18b0
                try clear c18b1
                try clear c18b2
                try clear c20
                try clear c24
                try clear c25
                try clear c25b0
                try clear c26
                try clear c26b0
                try clear c27
                try clear c27b0
                try clear c28
                try clear c28b0
                try clear c29
                try clear c31
                try clear c31b0
                try clear c31b1
                try clear c34
                try clear c35
                try clear c35b0
                try clear c36
                try clear c36b0
                try clear c37
                try clear c37b0
                try clear c37b1
                try clear hx115_0
                try clear hx115_1
                try clear hx116_0
                try clear hx116_1
                try clear hx119_0
                try clear hx119_1
                try clear hx120_0
                try clear hx120_1
                try clear p1
                try clear p11
                try clear p115
                try clear p116
                try clear p119
                try clear p120
                try clear p2
                try clear p6
                try clear q1
                try clear q11
                try clear q115
                try clear q116
                try clear q119
                try clear q120
                obtain ⟨x13_5, rfl, HA, HK5, HO_8, HO_12, HB⟩ := hrel
                cases gk with
                | zero => exact absurd HA.out (by simp [spokeshavelaw21_MovesOrder.l2])
                | succ k5 =>
                 have H := HA.out
                 clear HA
                 simp only [spokeshavelaw21_MovesOrder.l2] at H
                 by_cases c44 : x13_5 < (t109.length : Int)
                 ·
                  rw [if_pos c44] at H
                  have c44b0 : decide (x13_5 < (t109.length : Int)) = true := decide_eq_true c44
                  clear c44
                  by_cases c45 : 0 ≤ x13_5
                  case neg => rw [if_neg c45] at H; exact absurd H (by simp)
                  rw [if_pos c45] at H
                  have c45b0 : decide (0 ≤ x13_5) = true := decide_eq_true c45
                  clear c45
                  replace H := Option.bind_eq_some_iff.mp H
                  obtain ⟨t128, A460, H⟩ := H
                  replace H : (if t128 = ((rd_T36 t109 x13_5).f1) then (spokeshavelaw21_MovesOrder.l2 k5 a1 t109 t124 (wrap64 (x13_5 + 1))) else (none)) = some r := H
                  have A46 := Aside0.mk A460
                  clear A460
                  by_cases c47 : t128 = ((rd_T36 t109 x13_5).f1)
                  case neg => rw [if_neg c47] at H; exact absurd H (by simp)
                  rw [if_pos c47] at H
                  have c47b0 : (t128 == ((rd_T36 t109 x13_5).f1)) = true := beq_iff_eq.mpr c47
                  have c47b1 : (t128 != ((rd_T36 t109 x13_5).f1)) = false := bne_eq_false_iff_eq.mpr c47
                  clear c47
                  have H' := Aside0.mk H
                  clear H
                  have p127 : 0 ≤ (x13_5 : Int) := of_decide_eq_true (by first | (with_reducible assumption) | assumption)
                  have q127 : x13_5 < (t109.length : Int) := of_decide_eq_true (by first | (with_reducible assumption) | assumption)
                  obtain ⟨ad127, e127, hx127_0, hx127_1⟩ := at_T36 (Kd.R_reads' HO_8.out).2.2 x13_5 p127 q127
                  cases e127
                  replace p127 := eq_true p127
                  replace q127 := eq_true q127
                  go_wp2_with (first | (go_at_call 14; (with_reducible refine (spokeshaveref21_Has.calls k5 _ _ t124 ((rd_T36 t109 x13_5).f0) t128 _ ?side1 ?side2 A46.out).mono ?_); (case side1 => repeat (first | exact (Kd.R_reads' HO_12.out).2.2 | (with_reducible refine Kd.C_alloc ?_ _) | (with_reducible refine Kd.C_drewN ?_ _) | (with_reducible refine Kd.C_drew ?_))); (case side2 => exact (Kd.R_reads' HO_12.out).2.1); rintro e w' ⟨rfl, ⟨nd, rfl⟩⟩; (try first | exact ⟨rfl, _, World.drewN_drewN _ _ _⟩ | exact ⟨rfl, _, Eq.trans (World.drewN_drewN _ _ _) (congrArg (World.drewN _) (Nat.add_assoc _ _ _))⟩); have p129 : 0 ≤ (x13_5 : Int) := of_decide_eq_true (by first | (with_reducible assumption) | assumption); have q129 : x13_5 < (t109.length : Int) := of_decide_eq_true (by first | (with_reducible assumption) | assumption); obtain ⟨ad129, e129, hx129_0, hx129_1⟩ := at_T36 (Kd.R_reads' HO_8.out).2.2 x13_5 p129 q129; obtain rfl : ad127 = ad129 := (by injection e129); replace p129 := eq_true p129; replace q129 := eq_true q129))
                  repeat (go_quiet (first | (go_at_call 14; (with_reducible refine (spokeshaveref21_Has.calls k5 _ _ t124 ((rd_T36 t109 x13_5).f0) t128 _ ?side1 ?side2 A46.out).mono ?_); (case side1 => repeat (first | exact (Kd.R_reads' HO_12.out).2.2 | (with_reducible refine Kd.C_alloc ?_ _) | (with_reducible refine Kd.C_drewN ?_ _) | (with_reducible refine Kd.C_drew ?_))); (case side2 => exact (Kd.R_reads' HO_12.out).2.1); rintro e w' ⟨rfl, ⟨nd, rfl⟩⟩; (try first | exact ⟨rfl, _, World.drewN_drewN _ _ _⟩ | exact ⟨rfl, _, Eq.trans (World.drewN_drewN _ _ _) (congrArg (World.drewN _) (Nat.add_assoc _ _ _))⟩); have p129 : 0 ≤ (x13_5 : Int) := of_decide_eq_true (by first | (with_reducible assumption) | assumption); have q129 : x13_5 < (t109.length : Int) := of_decide_eq_true (by first | (with_reducible assumption) | assumption); obtain ⟨ad129, e129, hx129_0, hx129_1⟩ := at_T36 (Kd.R_reads' HO_8.out).2.2 x13_5 p129 q129; obtain rfl : ad127 = ad129 := (by injection e129); replace p129 := eq_true p129; replace q129 := eq_true q129)); try go_wp2_with (first | (go_at_call 14; (with_reducible refine (spokeshaveref21_Has.calls k5 _ _ t124 ((rd_T36 t109 x13_5).f0) t128 _ ?side1 ?side2 A46.out).mono ?_); (case side1 => repeat (first | exact (Kd.R_reads' HO_12.out).2.2 | (with_reducible refine Kd.C_alloc ?_ _) | (with_reducible refine Kd.C_drewN ?_ _) | (with_reducible refine Kd.C_drew ?_))); (case side2 => exact (Kd.R_reads' HO_12.out).2.1); rintro e w' ⟨rfl, ⟨nd, rfl⟩⟩; (try first | exact ⟨rfl, _, World.drewN_drewN _ _ _⟩ | exact ⟨rfl, _, Eq.trans (World.drewN_drewN _ _ _) (congrArg (World.drewN _) (Nat.add_assoc _ _ _))⟩); have p129 : 0 ≤ (x13_5 : Int) := of_decide_eq_true (by first | (with_reducible assumption) | assumption); have q129 : x13_5 < (t109.length : Int) := of_decide_eq_true (by first | (with_reducible assumption) | assumption); obtain ⟨ad129, e129, hx129_0, hx129_1⟩ := at_T36 (Kd.R_reads' HO_8.out).2.2 x13_5 p129 q129; obtain rfl : ad127 = ad129 := (by injection e129); replace p129 := eq_true p129; replace q129 := eq_true q129)))
                  go_roundg k5
                  case measure => have := HJ9.out; have := HK2.out; have := HJ29.out; have := HK4.out; have := HK5.out; omega
                  case rel => exact ⟨(wrap64 (x13_5 + 1)), (by first | rfl | (simp; done) | (simp [*]; done)), H', ⟨by have := HJ9.out; have := HK2.out; have := HJ29.out; have := HK4.out; have := HK5.out; omega⟩, ⟨by (with_reducible repeat (first | apply Kd.R_alloc | apply Kd.R_drewN | apply Kd.R_drew)); exact HO_8.out⟩, ⟨by (with_reducible repeat (first | apply Kd.R_alloc | apply Kd.R_drewN | apply Kd.R_drew)); exact HO_12.out⟩, ⟨by repeat (first | (with_reducible first | exact HB.out | apply below_alloc | apply pw_below_drewN | apply below_drew1) | exact HB.out)⟩⟩
                 ·
                  rw [if_neg c44] at H
                  have c44b0 : decide (x13_5 < (t109.length : Int)) = false := decide_eq_false c44
                  clear c44
                  have H' := Aside0.mk H
                  clear H
                  go_wp2
                  repeat (go_quiet (fail); try go_wp2)
                  go_loopg [14] k5 (fun kq v14 w' => ∃ (x14_6 : Int), v14 = .int .i64 x14_6 ∧ Aside0 (spokeshavelaw21_MovesOrder.l3 kq a1 t109 t124 x14_6 = some r) ∧ Aside0 (kq ≤ k5) ∧ Aside0 (Kd.R k36 36 w' w.heap.size (fun k_ => some k_ ≠ ((.slice Ao43 t124.length co43) : Value).ownBlock) (.slice Ao16 t109.length co16) t109) ∧ Aside0 (Kd.R k36 36 w' w.heap.size (fun k_ => some k_ ≠ ((.slice Ao16 t109.length co16) : Value).ownBlock) (.slice Ao43 t124.length co43) t124) ∧ Aside0 (Below w.heap.size w w'))
                  case atStart => exact ⟨(0), (by first | rfl | (simp; done) | (simp [*]; done)), H', ⟨Nat.le_refl _⟩, ⟨by (with_reducible repeat (first | apply Kd.R_alloc | apply Kd.R_drewN | apply Kd.R_drew)); exact HO_8.out⟩, ⟨by (with_reducible repeat (first | apply Kd.R_alloc | apply Kd.R_drewN | apply Kd.R_drew)); exact HO_12.out⟩, ⟨by repeat (first | (with_reducible first | exact HB.out | apply below_alloc | apply pw_below_drewN | apply below_drew1) | exact HB.out)⟩⟩
                  case round =>
                   clear H'
                   try clear c1
                   try clear p1
                   try clear q1
                   try clear hx1
                   try clear c2
                   try clear p2
                   try clear c3
                   try clear c3b0
                   try clear c3b1
                   try clear c4
                   try clear c6
                   try clear p6
                   try clear p11
                   try clear q11
                   try clear hx11
                   try clear p12
                   try clear q12
                   try clear hx12
                   try clear c18
                   try clear c18b0
                   try clear c18b1
                   try clear c18b2
                   try clear c20
                   try clear c24
                   try clear c25
                   try clear c25b0
                   try clear c26
                   try clear c26b0
                   try clear c27
                   try clear c27b0
                   try clear c28
                   try clear c28b0
                   try clear c29
                   try clear c31
                   try clear c31b0
                   try clear c31b1
                   try clear c34
                   try clear c35
                   try clear c35b0
                   try clear c36
                   try clear c36b0
                   try clear c37
                   try clear c37b0
                   try clear c37b1
                   try clear c44
                   try clear c44b0
                   try clear c45
                   try clear c45b0
                   try clear c47
                   try clear c47b0
                   try clear c47b1
                   try clear hx115_0
                   try clear hx115_1
                   try clear hx116_0
                   try clear hx116_1
                   try clear hx119_0
                   try clear hx119_1
                   try clear hx120_0
                   try clear hx120_1
                   try clear hx127_0
                   try clear hx127_1
                   try clear hx129_0
                   try clear hx129_1
                   try clear p1
                   try clear p11
                   try clear p115
                   try clear p116
                   try clear p119
                   try clear p12
                   try clear p120
                   try clear p127
                   try clear p129
                   try clear p2
                   try clear p6
                   try clear q1
                   try clear q11
                   try clear q115
                   try clear q116
                   try clear q119
                   try clear q12
                   try clear q120
                   try clear q127
                   try clear q129
                   obtain ⟨x14_6, rfl, HA, HK6, HO_8, HO_12, HB⟩ := hrel
                   cases gk with
                   | zero => exact absurd HA.out (by simp [spokeshavelaw21_MovesOrder.l3])
                   | succ k6 =>
                    have H := HA.out
                    clear HA
                    simp only [spokeshavelaw21_MovesOrder.l3] at H
                    by_cases c48 : x14_6 < (t124.length : Int)
                    ·
                     rw [if_pos c48] at H
                     have c48b0 : decide (x14_6 < (t124.length : Int)) = true := decide_eq_true c48
                     clear c48
                     have HC49 := Aside0.mk H
                     clear H
                     go_upto_region 32 with (fail)
                     repeat (go_quiet (fail); go_upto_region 32 with (fail))
                     go_cut [15] (fun v15 wc => ∃ (kq : Nat) (x15_48 : Bool), v15 = .bool x15_48 ∧ Aside0 (spokeshavelaw21_MovesOrder.j6 kq a1 t109 t124 x14_6 x15_48 = some r) ∧ Aside0 (kq ≤ k6) ∧ Aside0 (Kd.R k36 36 wc w.heap.size (fun k_ => some k_ ≠ ((.slice Ao43 t124.length co43) : Value).ownBlock) (.slice Ao16 t109.length co16) t109) ∧ Aside0 (Kd.R k36 36 wc w.heap.size (fun k_ => some k_ ≠ ((.slice Ao16 t109.length co16) : Value).ownBlock) (.slice Ao43 t124.length co43) t124) ∧ Aside0 (Below w.heap.size w wc))
                     case first =>
                      have H := HC49.out
                      clear HC49
                      by_cases c50 : 0 ≤ x14_6
                      case neg => rw [if_neg c50] at H; exact absurd H (by simp)
                      rw [if_pos c50] at H
                      have c50b0 : decide (0 ≤ x14_6) = true := decide_eq_true c50
                      clear c50
                      (first | rw [c50b0] | (simp only [i64_w, i32_w]; rw [c50b0]) | skip)
                      by_cases c51 : ((rd_T36 t124 x14_6).f0) = a1
                      ·
                       rw [if_pos c51] at H
                       have c51b0 : (((rd_T36 t124 x14_6).f0) == a1) = true := beq_iff_eq.mpr c51
                       have c51b1 : (((rd_T36 t124 x14_6).f0) != a1) = false := bne_eq_false_iff_eq.mpr c51
                       clear c51
                       have H' := Aside0.mk H
                       clear H
                       have p131 : 0 ≤ (x14_6 : Int) := of_decide_eq_true (by first | (with_reducible assumption) | assumption)
                       have q131 : x14_6 < (t124.length : Int) := of_decide_eq_true (by first | (with_reducible assumption) | assumption)
                       obtain ⟨ad131, e131, hx131_0, hx131_1⟩ := at_T36 (Kd.R_reads' HO_12.out).2.2 x14_6 p131 q131
                       cases e131
                       replace p131 := eq_true p131
                       replace q131 := eq_true q131
                       go_wp2
                       repeat (go_quiet (fail); try go_wp2)
                       go_meet
                       case rel => exact ⟨_, (true), (by first | rfl | (simp; done) | (simp [*]; done)), H', ⟨by have := HJ9.out; have := HK2.out; have := HJ29.out; have := HK4.out; have := HK5.out; have := HK6.out; first | omega | exact Nat.le_refl _⟩, ⟨by (with_reducible repeat (first | apply Kd.R_alloc | apply Kd.R_drewN | apply Kd.R_drew)); exact HO_8.out⟩, ⟨by (with_reducible repeat (first | apply Kd.R_alloc | apply Kd.R_drewN | apply Kd.R_drew)); exact HO_12.out⟩, ⟨by repeat (first | (with_reducible first | exact HB.out | apply below_alloc | apply pw_below_drewN | apply below_drew1) | exact HB.out)⟩⟩
                      ·
                       rw [if_neg c51] at H
                       have c51b0 : (((rd_T36 t124 x14_6).f0) == a1) = false := beq_eq_false_iff_ne.mpr c51
                       have c51b1 : (((rd_T36 t124 x14_6).f0) != a1) = true := bne_iff_ne.mpr c51
                       have H' := Aside0.mk H
                       clear H
                       have p131 : 0 ≤ (x14_6 : Int) := of_decide_eq_true (by first | (with_reducible assumption) | assumption)
                       have q131 : x14_6 < (t124.length : Int) := of_decide_eq_true (by first | (with_reducible assumption) | assumption)
                       obtain ⟨ad131, e131, hx131_0, hx131_1⟩ := at_T36 (Kd.R_reads' HO_12.out).2.2 x14_6 p131 q131
                       cases e131
                       replace p131 := eq_true p131
                       replace q131 := eq_true q131
                       have p132 : 0 ≤ (x14_6 : Int) := of_decide_eq_true (by first | (with_reducible assumption) | assumption)
                       have q132 : x14_6 < (t124.length : Int) := of_decide_eq_true (by first | (with_reducible assumption) | assumption)
                       obtain ⟨ad132, e132, hx132_0, hx132_1⟩ := at_T36 (Kd.R_reads' HO_12.out).2.2 x14_6 p132 q132
                       obtain rfl : ad131 = ad132 := (by injection e132)
                       replace p132 := eq_true p132
                       replace q132 := eq_true q132
                       have p133 : 0 ≤ (x14_6 : Int) := of_decide_eq_true (by first | (with_reducible assumption) | assumption)
                       have q133 : x14_6 < (t124.length : Int) := of_decide_eq_true (by first | (with_reducible assumption) | assumption)
                       obtain ⟨ad133, e133, hx133_0, hx133_1⟩ := at_T36 (Kd.R_reads' HO_12.out).2.2 x14_6 p133 q133
                       obtain rfl : ad131 = ad133 := (by injection e133)
                       replace p133 := eq_true p133
                       replace q133 := eq_true q133
                       go_wp2
                       repeat (go_quiet (fail); try go_wp2)
                       go_meet
                       case rel => exact ⟨_, ((((rd_T36 t124 x14_6).f1) == ((rd_T36 t124 x14_6).f0))), (by first | rfl | (simp; done) | (simp [*]; done)), H', ⟨by have := HJ9.out; have := HK2.out; have := HJ29.out; have := HK4.out; have := HK5.out; have := HK6.out; first | omega | exact Nat.le_refl _⟩, ⟨by (with_reducible repeat (first | apply Kd.R_alloc | apply Kd.R_drewN | apply Kd.R_drew)); exact HO_8.out⟩, ⟨by (with_reducible repeat (first | apply Kd.R_alloc | apply Kd.R_drewN | apply Kd.R_drew)); exact HO_12.out⟩, ⟨by repeat (first | (with_reducible first | exact HB.out | apply below_alloc | apply pw_below_drewN | apply below_drew1) | exact HB.out)⟩⟩
                     case rest =>
                      clear HC49
                      try clear c1
                      try clear p1
                      try clear q1
                      try clear hx1
                      try clear c2
                      try clear p2
                      try clear c3
                      try clear c3b0
                      try clear c3b1
                      try clear c4
                      try clear c5
                      try clear c6
                      try clear p6
                      try clear p11
                      try clear q11
                      try clear hx11
                      try clear p12
                      try clear q12
                      try clear hx12
                      try clear p13
                      try clear q13
                      try clear hx13
                      try clear c18
                      try clear c18b0
                      try clear c18b1
                      try clear c18b2
                      try clear c20
                      try clear c24
                      try clear c25
                      try clear c25b0
                      try clear c26
                      try clear c26b0
                      try clear c27
                      try clear c27b0
                      try clear c28
                      try clear c28b0
                      try clear c29
                      try clear c31
                      try clear c31b0
                      try clear c31b1
                      try clear c34
                      try clear c35
                      try clear c35b0
                      try clear c36
                      try clear c36b0
                      try clear c37
                      try clear c37b0
                      try clear c37b1
                      try clear c44
                      try clear c44b0
                      try clear c45
                      try clear c45b0
                      try clear c47
                      try clear c47b0
                      try clear c47b1
                      try clear c48
                      try clear c48b0
                      try clear c50
                      try clear c50b0
                      try clear c51
                      try clear c51b0
                      try clear c51b1
                      try clear hx115_0
                      try clear hx115_1
                      try clear hx116_0
                      try clear hx116_1
                      try clear hx119_0
                      try clear hx119_1
                      try clear hx120_0
                      try clear hx120_1
                      try clear hx127_0
                      try clear hx127_1
                      try clear hx129_0
                      try clear hx129_1
                      try clear hx131_0
                      try clear hx131_1
                      try clear hx132_0
                      try clear hx132_1
                      try clear hx133_0
                      try clear hx133_1
                      try clear p1
                      try clear p11
                      try clear p115
                      try clear p116
                      try clear p119
                      try clear p12
                      try clear p120
                      try clear p127
                      try clear p129
                      try clear p131
                      try clear p132
                      try clear p133
                      try clear p2
                      try clear p6
                      try clear q1
                      try clear q11
                      try clear q115
                      try clear q116
                      try clear q119
                      try clear q12
                      try clear q120
                      try clear q127
                      try clear q129
                      try clear q131
                      try clear q132
                      try clear q133
                      obtain ⟨kq, x15_48, rfl, HA, HJ48, HO_8, HO_12, HB⟩ := hcut
                      cases kq with
                      | zero => exact absurd HA.out (by simp [spokeshavelaw21_MovesOrder.j6])
                      | succ kj48 =>
                       have H := HA.out
                       clear HA
                       simp only [spokeshavelaw21_MovesOrder.j6] at H
                       have H' := Aside0.mk H
                       clear H
                       go_wp2
                       repeat (go_quiet (fail); try go_wp2)
                       go_loopg [15, 16] kj48 (fun kq v15 v16 w' => ∃ (x15_8 : Bool) (x16_8 : Int), v15 = .bool x15_8 ∧ v16 = .int .i64 x16_8 ∧ Aside0 (spokeshavelaw21_MovesOrder.l4 kq a1 t109 t124 x14_6 x15_8 x16_8 = some r) ∧ Aside0 (kq ≤ kj48) ∧ Aside0 (Kd.R k36 36 w' w.heap.size (fun k_ => some k_ ≠ ((.slice Ao43 t124.length co43) : Value).ownBlock) (.slice Ao16 t109.length co16) t109) ∧ Aside0 (Kd.R k36 36 w' w.heap.size (fun k_ => some k_ ≠ ((.slice Ao16 t109.length co16) : Value).ownBlock) (.slice Ao43 t124.length co43) t124) ∧ Aside0 (Below w.heap.size w w'))
                       case atStart => exact ⟨(x15_48), (0), (by first | rfl | (simp; done) | (simp [*]; done)), (by first | rfl | (simp; done) | (simp [*]; done)), H', ⟨Nat.le_refl _⟩, ⟨by (with_reducible repeat (first | apply Kd.R_alloc | apply Kd.R_drewN | apply Kd.R_drew)); exact HO_8.out⟩, ⟨by (with_reducible repeat (first | apply Kd.R_alloc | apply Kd.R_drewN | apply Kd.R_drew)); exact HO_12.out⟩, ⟨by repeat (first | (with_reducible first | exact HB.out | apply below_alloc | apply pw_below_drewN | apply below_drew1) | exact HB.out)⟩⟩
                       case round =>
                        clear H'
                        try clear c1
                        try clear p1
                        try clear q1
                        try clear hx1
                        try clear c2
                        try clear p2
                        try clear c3
                        try clear c3b0
                        try clear c3b1
                        try clear c4
                        try clear c5
                        try clear c6
                        try clear p6
                        try clear p11
                        try clear q11
                        try clear hx11
                        try clear p12
                        try clear q12
                        try clear hx12
                        try clear p13
                        try clear q13
                        try clear hx13
                        try clear c18
                        try clear c18b0
                        try clear c18b1
                        try clear c18b2
                        try clear c20
                        try clear c24
                        try clear c25
                        try clear c25b0
                        try clear c26
                        try clear c26b0
                        try clear c27
                        try clear c27b0
                        try clear c28
                        try clear c28b0
                        try clear c29
                        try clear c31
                        try clear c31b0
                        try clear c31b1
                        try clear c34
                        try clear c35
                        try clear c35b0
                        try clear c36
                        try clear c36b0
                        try clear c37
                        try clear c37b0
                        try clear c37b1
                        try clear c44
                        try clear c44b0
                        try clear c45
                        try clear c45b0
                        try clear c47
                        try clear c47b0
                        try clear c47b1
                        try clear c48
                        try clear c48b0
                        try clear c50
                        try clear c50b0
                        try clear c51
                        try clear c51b0
                        try clear c51b1
                        try clear hx115_0
                        try clear hx115_1
                        try clear hx116_0
                        try clear hx116_1
                        try clear hx119_0
                        try clear hx119_1
                        try clear hx120_0
                        try clear hx120_1
                        try clear hx127_0
                        try clear hx127_1
                        try clear hx129_0
                        try clear hx129_1
                        try clear hx131_0
                        try clear hx131_1
                        try clear hx132_0
                        try clear hx132_1
                        try clear hx133_0
                        try clear hx133_1
                        try clear p1
                        try clear p11
                        try clear p115
                        try clear p116
                        try clear p119
                        try clear p12
                        try clear p120
                        try clear p127
                        try clear p129
                        try clear p13
                        try clear p131
                        try clear p132
                        try clear p133
                        try clear p2
                        try clear p6
                        try clear q1
                        try clear q11
                        try clear q115
                        try clear q116
                        try clear q119
                        try clear q12
                        try clear q120
                        try clear q127
                        try clear q129
                        try clear q13
                        try clear q131
                        try clear q132
                        try clear q133
                        obtain ⟨x15_8, x16_8, rfl, rfl, HA, HK8, HO_8, HO_12, HB⟩ := hrel
                        cases gk with
                        | zero => exact absurd HA.out (by simp [spokeshavelaw21_MovesOrder.l4])
                        | succ k8 =>
                         have H := HA.out
                         clear HA
                         simp only [spokeshavelaw21_MovesOrder.l4] at H
                         by_cases c52 : x16_8 < (t109.length : Int)
                         ·
                          rw [if_pos c52] at H
                          have c52b0 : decide (x16_8 < (t109.length : Int)) = true := decide_eq_true c52
                          clear c52
                          by_cases c53 : x15_8 = true
                          ·
                           subst c53
                           have H1 : (spokeshavelaw21_MovesOrder.l4 k8 a1 t109 t124 x14_6 true (wrap64 (x16_8 + 1))) = some r := by rw [if_pos rfl] at H; exact H
                           clear H
                           have H := H1
                           clear H1
                           have H' := Aside0.mk H
                           clear H
                           go_wp2
                           repeat (go_quiet (fail); try go_wp2)
                           go_roundg k8
                           case measure => have := HJ9.out; have := HK2.out; have := HJ29.out; have := HK4.out; have := HK5.out; have := HK6.out; have := HJ48.out; have := HK8.out; omega
                           case rel => exact ⟨(true), (wrap64 (x16_8 + 1)), (by first | rfl | (simp; done) | (simp [*]; done)), (by first | rfl | (simp; done) | (simp [*]; done)), H', ⟨by have := HJ9.out; have := HK2.out; have := HJ29.out; have := HK4.out; have := HK5.out; have := HK6.out; have := HJ48.out; have := HK8.out; omega⟩, ⟨by (with_reducible repeat (first | apply Kd.R_alloc | apply Kd.R_drewN | apply Kd.R_drew)); exact HO_8.out⟩, ⟨by (with_reducible repeat (first | apply Kd.R_alloc | apply Kd.R_drewN | apply Kd.R_drew)); exact HO_12.out⟩, ⟨by repeat (first | (with_reducible first | exact HB.out | apply below_alloc | apply pw_below_drewN | apply below_drew1) | exact HB.out)⟩⟩
                          ·
                           replace c53 := Bool.eq_false_iff.mpr c53
                           subst c53
                           have H1 : (if 0 ≤ x16_8 then (if 0 ≤ x14_6 then (if x14_6 < (t124.length : Int) then (spokeshavelaw21_MovesOrder.l4 k8 a1 t109 t124 x14_6 (((rd_T36 t109 x16_8).f0) == ((rd_T36 t124 x14_6).f0)) (wrap64 (x16_8 + 1))) else (none)) else (none)) else (none)) = some r := by rw [if_neg (show ¬ (false = true) by decide)] at H; exact H
                           clear H
                           have H := H1
                           clear H1
                           by_cases c54 : 0 ≤ x16_8
                           case neg => rw [if_neg c54] at H; exact absurd H (by simp)
                           rw [if_pos c54] at H
                           have c54b0 : decide (0 ≤ x16_8) = true := decide_eq_true c54
                           clear c54
                           by_cases c55 : 0 ≤ x14_6
                           case neg => rw [if_neg c55] at H; exact absurd H (by simp)
                           rw [if_pos c55] at H
                           have c55b0 : decide (0 ≤ x14_6) = true := decide_eq_true c55
                           clear c55
                           by_cases c56 : x14_6 < (t124.length : Int)
                           case neg => rw [if_neg c56] at H; exact absurd H (by simp)
                           rw [if_pos c56] at H
                           have c56b0 : decide (x14_6 < (t124.length : Int)) = true := decide_eq_true c56
                           clear c56
                           have H' := Aside0.mk H
                           clear H
                           have p134 : 0 ≤ (x16_8 : Int) := of_decide_eq_true (by first | (with_reducible assumption) | assumption)
                           have q134 : x16_8 < (t109.length : Int) := of_decide_eq_true (by first | (with_reducible assumption) | assumption)
                           obtain ⟨ad134, e134, hx134_0, hx134_1⟩ := at_T36 (Kd.R_reads' HO_8.out).2.2 x16_8 p134 q134
                           cases e134
                           replace p134 := eq_true p134
                           replace q134 := eq_true q134
                           have p135 : 0 ≤ (x14_6 : Int) := of_decide_eq_true (by first | (with_reducible assumption) | assumption)
                           have q135 : x14_6 < (t124.length : Int) := of_decide_eq_true (by first | (with_reducible assumption) | assumption)
                           obtain ⟨ad135, e135, hx135_0, hx135_1⟩ := at_T36 (Kd.R_reads' HO_12.out).2.2 x14_6 p135 q135
                           cases e135
                           replace p135 := eq_true p135
                           replace q135 := eq_true q135
                           go_wp2
                           repeat (go_quiet (fail); try go_wp2)
                           go_roundg k8
                           case measure => have := HJ9.out; have := HK2.out; have := HJ29.out; have := HK4.out; have := HK5.out; have := HK6.out; have := HJ48.out; have := HK8.out; omega
                           case rel => exact ⟨((((rd_T36 t109 x16_8).f0) == ((rd_T36 t124 x14_6).f0))), (wrap64 (x16_8 + 1)), (by first | rfl | (simp; done) | (simp [*]; done)), (by first | rfl | (simp; done) | (simp [*]; done)), H', ⟨by have := HJ9.out; have := HK2.out; have := HJ29.out; have := HK4.out; have := HK5.out; have := HK6.out; have := HJ48.out; have := HK8.out; omega⟩, ⟨by (with_reducible repeat (first | apply Kd.R_alloc | apply Kd.R_drewN | apply Kd.R_drew)); exact HO_8.out⟩, ⟨by (with_reducible repeat (first | apply Kd.R_alloc | apply Kd.R_drewN | apply Kd.R_drew)); exact HO_12.out⟩, ⟨by repeat (first | (with_reducible first | exact HB.out | apply below_alloc | apply pw_below_drewN | apply below_drew1) | exact HB.out)⟩⟩
                         ·
                          rw [if_neg c52] at H
                          have c52b0 : decide (x16_8 < (t109.length : Int)) = false := decide_eq_false c52
                          clear c52
                          by_cases c57 : x15_8 = true
                          ·
                           subst c57
                           have H1 : (spokeshavelaw21_MovesOrder.l3 k8 a1 t109 t124 (wrap64 (x14_6 + 1))) = some r := by rw [if_pos rfl] at H; exact H
                           clear H
                           have H := H1
                           clear H1
                           have H' := Aside0.mk H
                           clear H
                           go_wp2
                           repeat (go_quiet (fail); try go_wp2)
                           go_roundg k8
                           case measure => have := HJ9.out; have := HK2.out; have := HJ29.out; have := HK4.out; have := HK5.out; have := HK6.out; have := HJ48.out; have := HK8.out; omega
                           case rel => exact ⟨(wrap64 (x14_6 + 1)), (by first | rfl | (simp; done) | (simp [*]; done)), H', ⟨by have := HJ9.out; have := HK2.out; have := HJ29.out; have := HK4.out; have := HK5.out; have := HK6.out; have := HJ48.out; have := HK8.out; omega⟩, ⟨by (with_reducible repeat (first | apply Kd.R_alloc | apply Kd.R_drewN | apply Kd.R_drew)); exact HO_8.out⟩, ⟨by (with_reducible repeat (first | apply Kd.R_alloc | apply Kd.R_drewN | apply Kd.R_drew)); exact HO_12.out⟩, ⟨by repeat (first | (with_reducible first | exact HB.out | apply below_alloc | apply pw_below_drewN | apply below_drew1) | exact HB.out)⟩⟩
                          ·
                           replace c57 := Bool.eq_false_iff.mpr c57
                           subst c57
                           have H1 : (none) = some r := by rw [if_neg (show ¬ (false = true) by decide)] at H; exact H
                           clear H
                           have H := H1
                           clear H1
                           exact absurd H (by simp)
                    ·
                     rw [if_neg c48] at H
                     have c48b0 : decide (x14_6 < (t124.length : Int)) = false := decide_eq_false c48
                     clear c48
                     replace H := Option.bind_eq_some_iff.mp H
                     obtain ⟨t130, A580, H⟩ := H
                     replace H : (some t130) = some r := H
                     have A58 := Aside0.mk A580
                     clear A580
                     obtain rfl := Option.some.inj H
                     go_wp2_with (first | (go_at_call 6; (with_reducible refine (spokeshavelaw21_awake.calls k6  t130 _ A58.out).mono ?_); rintro e w59 ⟨rfl, hb⟩; have n0_ := Aside0.mk (Kd.R_below (by (with_reducible repeat (first | apply Kd.R_alloc | apply Kd.R_drewN | apply Kd.R_drew)); exact HO_8.out) hb); have n1_ := Aside0.mk (Kd.R_below (by (with_reducible repeat (first | apply Kd.R_alloc | apply Kd.R_drewN | apply Kd.R_drew)); exact HO_12.out) hb); have n2_ := Aside0.mk (below_step (by repeat (first | (with_reducible first | exact HB.out | apply below_alloc | apply pw_below_drewN | apply below_drew1) | exact HB.out)) hb); clear HO_8; clear HO_12; clear HB; have HO_8 := n0_; have HO_12 := n1_; have HB := n2_; clear n0_ n1_ n2_; (try clear hb); (try clear hb2); (try clear hk); (try clear hi)))
                     repeat (go_quiet (first | (go_at_call 6; (with_reducible refine (spokeshavelaw21_awake.calls k6  t130 _ A58.out).mono ?_); rintro e w59 ⟨rfl, hb⟩; have n0_ := Aside0.mk (Kd.R_below (by (with_reducible repeat (first | apply Kd.R_alloc | apply Kd.R_drewN | apply Kd.R_drew)); exact HO_8.out) hb); have n1_ := Aside0.mk (Kd.R_below (by (with_reducible repeat (first | apply Kd.R_alloc | apply Kd.R_drewN | apply Kd.R_drew)); exact HO_12.out) hb); have n2_ := Aside0.mk (below_step (by repeat (first | (with_reducible first | exact HB.out | apply below_alloc | apply pw_below_drewN | apply below_drew1) | exact HB.out)) hb); clear HO_8; clear HO_12; clear HB; have HO_8 := n0_; have HO_12 := n1_; have HB := n2_; clear n0_ n1_ n2_; (try clear hb); (try clear hb2); (try clear hk); (try clear hi))); try go_wp2_with (first | (go_at_call 6; (with_reducible refine (spokeshavelaw21_awake.calls k6  t130 _ A58.out).mono ?_); rintro e w59 ⟨rfl, hb⟩; have n0_ := Aside0.mk (Kd.R_below (by (with_reducible repeat (first | apply Kd.R_alloc | apply Kd.R_drewN | apply Kd.R_drew)); exact HO_8.out) hb); have n1_ := Aside0.mk (Kd.R_below (by (with_reducible repeat (first | apply Kd.R_alloc | apply Kd.R_drewN | apply Kd.R_drew)); exact HO_12.out) hb); have n2_ := Aside0.mk (below_step (by repeat (first | (with_reducible first | exact HB.out | apply below_alloc | apply pw_below_drewN | apply below_drew1) | exact HB.out)) hb); clear HO_8; clear HO_12; clear HB; have HO_8 := n0_; have HO_12 := n1_; have HB := n2_; clear n0_ n1_ n2_; (try clear hb); (try clear hb2); (try clear hk); (try clear hi))))
                     go_ret
                     exact ⟨by first | rfl | (simp [errW_none, errW_some] <;> rfl) | (simp [*, errW_none, errW_some] <;> rfl), by repeat (first | (with_reducible first | exact HB.out | apply below_alloc | apply pw_below_drewN | apply below_drew1) | exact HB.out)⟩
        ·
         replace c29 := Bool.eq_false_iff.mpr c29
         subst c29
         have H1 : (if (t105.length : Int) = 0 then ((spokeshavelaw21_awake.f k2).bind fun t117 => (some t117)) else (none)) = some r := by rw [if_neg (show ¬ (false = true) by decide)] at H; exact H
         clear H
         have H := H1
         clear H1
         by_cases c60 : (t105.length : Int) = 0
         case neg => rw [if_neg c60] at H; exact absurd H (by simp)
         rw [if_pos c60] at H
         have c60b0 : ((t105.length : Int) == 0) = true := beq_iff_eq.mpr c60
         have c60b1 : ((t105.length : Int) != 0) = false := bne_eq_false_iff_eq.mpr c60
         clear c60
         replace H := Option.bind_eq_some_iff.mp H
         obtain ⟨t117, A610, H⟩ := H
         replace H : (some t117) = some r := H
         have A61 := Aside0.mk A610
         clear A610
         obtain rfl := Option.some.inj H
         go_wp2_with (first | (go_at_call 6; (with_reducible refine (spokeshavelaw21_awake.calls k2  t117 _ A61.out).mono ?_); rintro e w62 ⟨rfl, hb⟩; have n0_ := Aside0.mk (Kd.R_below (by (with_reducible repeat (first | apply Kd.R_alloc | apply Kd.R_drewN | apply Kd.R_drew)); exact HO_5.out) hb); have n1_ := Aside0.mk (Kd.R_below (by (with_reducible repeat (first | apply Kd.R_alloc | apply Kd.R_drewN | apply Kd.R_drew)); exact HO_6.out) hb); have n2_ := Aside0.mk (Kd.R_below (by (with_reducible repeat (first | apply Kd.R_alloc | apply Kd.R_drewN | apply Kd.R_drew)); exact HO_8.out) hb); have n3_ := Aside0.mk (below_step (by repeat (first | (with_reducible first | exact HB.out | apply below_alloc | apply pw_below_drewN | apply below_drew1) | exact HB.out)) hb); clear HO_5; clear HO_6; clear HO_8; clear HB; have HO_5 := n0_; have HO_6 := n1_; have HO_8 := n2_; have HB := n3_; clear n0_ n1_ n2_ n3_; (try clear hb); (try clear hb2); (try clear hk); (try clear hi)))
         repeat (go_quiet (first | (go_at_call 6; (with_reducible refine (spokeshavelaw21_awake.calls k2  t117 _ A61.out).mono ?_); rintro e w62 ⟨rfl, hb⟩; have n0_ := Aside0.mk (Kd.R_below (by (with_reducible repeat (first | apply Kd.R_alloc | apply Kd.R_drewN | apply Kd.R_drew)); exact HO_5.out) hb); have n1_ := Aside0.mk (Kd.R_below (by (with_reducible repeat (first | apply Kd.R_alloc | apply Kd.R_drewN | apply Kd.R_drew)); exact HO_6.out) hb); have n2_ := Aside0.mk (Kd.R_below (by (with_reducible repeat (first | apply Kd.R_alloc | apply Kd.R_drewN | apply Kd.R_drew)); exact HO_8.out) hb); have n3_ := Aside0.mk (below_step (by repeat (first | (with_reducible first | exact HB.out | apply below_alloc | apply pw_below_drewN | apply below_drew1) | exact HB.out)) hb); clear HO_5; clear HO_6; clear HO_8; clear HB; have HO_5 := n0_; have HO_6 := n1_; have HO_8 := n2_; have HB := n3_; clear n0_ n1_ n2_ n3_; (try clear hb); (try clear hb2); (try clear hk); (try clear hi))); try go_wp2_with (first | (go_at_call 6; (with_reducible refine (spokeshavelaw21_awake.calls k2  t117 _ A61.out).mono ?_); rintro e w62 ⟨rfl, hb⟩; have n0_ := Aside0.mk (Kd.R_below (by (with_reducible repeat (first | apply Kd.R_alloc | apply Kd.R_drewN | apply Kd.R_drew)); exact HO_5.out) hb); have n1_ := Aside0.mk (Kd.R_below (by (with_reducible repeat (first | apply Kd.R_alloc | apply Kd.R_drewN | apply Kd.R_drew)); exact HO_6.out) hb); have n2_ := Aside0.mk (Kd.R_below (by (with_reducible repeat (first | apply Kd.R_alloc | apply Kd.R_drewN | apply Kd.R_drew)); exact HO_8.out) hb); have n3_ := Aside0.mk (below_step (by repeat (first | (with_reducible first | exact HB.out | apply below_alloc | apply pw_below_drewN | apply below_drew1) | exact HB.out)) hb); clear HO_5; clear HO_6; clear HO_8; clear HB; have HO_5 := n0_; have HO_6 := n1_; have HO_8 := n2_; have HB := n3_; clear n0_ n1_ n2_ n3_; (try clear hb); (try clear hb2); (try clear hk); (try clear hi))))
         go_ret
         exact ⟨by first | rfl | (simp [errW_none, errW_some] <;> rfl) | (simp [*, errW_none, errW_some] <;> rfl), by repeat (first | (with_reducible first | exact HB.out | apply below_alloc | apply pw_below_drewN | apply below_drew1) | exact HB.out)⟩

end Go.Proofs.Ytodnbclphjgofaa.PMov
