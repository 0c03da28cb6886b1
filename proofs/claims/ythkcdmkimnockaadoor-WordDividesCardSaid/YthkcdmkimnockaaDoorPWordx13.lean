-- PRINTED by print.py (a twelfth state) out of the translation. Not trusted: Lean checks it.
import Derived.Test.YthkcdmkimnockaaDoorPWordx0
import Derived.Test.YthkcdmkimnockaaDoorPWordx2
import Derived.Test.YthkcdmkimnockaaDoorPWordx5
import Derived.Test.YthkcdmkimnockaaDoorPWordx10
import Derived.Test.YthkcdmkimnockaaDoorPWordx12
namespace Go.Proofs.YthkcdmkimnockaaDoor.PWord
open Go.RowKit Go.Proofs.YthkcdmkimnockaaDoorW.PrintWords Go.Proofs.YthkcdmkimnockaaDoorW.PrintLast Go.Proofs.YthkcdmkimnockaaDoorW.PrintMore
attribute [local go_sem] max2_int min2_int max_two min_two max_three min_three max_four min_four   -- for this text's walks alone
set_option linter.unusedVariables false
set_option linter.unusedSimpArgs false

/-! ### spokeshavelaw1_WordDivides: function 6 -/
mutual
def spokeshavelaw1_WordDivides.j0 : Nat → Int → Int → Int → Int → Bool → Int → Bool → Int → Bool → Option (Bool)
  | 0, _, _, _, _, _, _, _, _, _ => none
  | k + 1, x1, x2, x3, x10, x11, x12, x58, x281000, x281001 => if x58 = true then (none) else (if x11 = true then ((word_Wrap.f x281000 x281001 (wrap64 ((wrap64 (x10 * x2)) + x12))).bind fun t287 => ((word_Binary.f k x281000 x281001 16 x12 x2).bind fun bt288 => (if t287 = x1 then (if x281001 = true then (if x12 = 0 then (spokeshavelaw1_WordDivides.j1 k x1 x3 x281000 x281001) else (if ((decide (x12 < 0)) != (decide (x1 < 0))) = true then (none) else (spokeshavelaw1_WordDivides.j1 k x1 x3 x281000 x281001))) else (if bt288.2 = true then (if bt288.1 = 1 then (spokeshavelaw1_WordDivides.j1 k x1 x3 x281000 x281001) else (none)) else (none))) else (none)))) else (spokeshavelaw1_WordDivides.j1 k x1 x3 x281000 x281001))
def spokeshavelaw1_WordDivides.j1 : Nat → Int → Int → Int → Bool → Option (Bool)
  | 0, _, _, _, _ => none
  | k + 1, x1, x3, x281000, x281001 => (spokeshavelaw0_Low.f x3 x281000).bind fun t290 => ((word_Binary.f k x281000 x281001 11 x1 t290).bind fun bt291 => ((word_Binary.f k x281000 x281001 12 bt291.1 t290).bind fun bt293 => (if bt291.2 = true then (if bt293.2 = true then (if x281001 = true then (if bt293.1 = x1 then ((spokeshavelaw1_awake.f k).bind fun t295 => (some t295)) else (none)) else ((spokeshavelaw1_awake.f k).bind fun t296 => (some t296))) else (if x281001 = true then ((spokeshavelaw1_awake.f k).bind fun t297 => (some t297)) else ((spokeshavelaw1_awake.f k).bind fun t298 => (some t298)))) else (if x281001 = true then (if x1 < 0 then ((spokeshavelaw1_awake.f k).bind fun t299 => (some t299)) else (if t290 > 0 then ((spokeshavelaw1_awake.f k).bind fun t300 => (some t300)) else (none))) else ((spokeshavelaw1_awake.f k).bind fun t301 => (some t301))))))
def spokeshavelaw1_WordDivides.j2 : Nat → Int → Int → Int → Int → Bool → Int → Bool → Int → Bool → Option (Bool)
  | 0, _, _, _, _, _, _, _, _, _ => none
  | k + 1, x1, x2, x3, x10, x11, x12, x58, x303000, x303001 => if x58 = true then (none) else (if x11 = true then ((word_Wrap.f x303000 x303001 (wrap64 ((wrap64 (x10 * x2)) + x12))).bind fun t309 => ((word_Binary.f k x303000 x303001 16 x12 x2).bind fun bt310 => (if t309 = x1 then (if x303001 = true then (if x12 = 0 then (spokeshavelaw1_WordDivides.j3 k x1 x3 x303000 x303001) else (if ((decide (x12 < 0)) != (decide (x1 < 0))) = true then (none) else (spokeshavelaw1_WordDivides.j3 k x1 x3 x303000 x303001))) else (if bt310.2 = true then (if bt310.1 = 1 then (spokeshavelaw1_WordDivides.j3 k x1 x3 x303000 x303001) else (none)) else (none))) else (none)))) else (spokeshavelaw1_WordDivides.j3 k x1 x3 x303000 x303001))
def spokeshavelaw1_WordDivides.j3 : Nat → Int → Int → Int → Bool → Option (Bool)
  | 0, _, _, _, _ => none
  | k + 1, x1, x3, x303000, x303001 => (spokeshavelaw0_Low.f x3 x303000).bind fun t312 => ((word_Binary.f k x303000 x303001 11 x1 t312).bind fun bt313 => ((word_Binary.f k x303000 x303001 12 bt313.1 t312).bind fun bt315 => (if bt313.2 = true then (if bt315.2 = true then (if x303001 = true then (if bt315.1 = x1 then ((spokeshavelaw1_awake.f k).bind fun t317 => (some t317)) else (none)) else ((spokeshavelaw1_awake.f k).bind fun t318 => (some t318))) else (if x303001 = true then ((spokeshavelaw1_awake.f k).bind fun t319 => (some t319)) else ((spokeshavelaw1_awake.f k).bind fun t320 => (some t320)))) else (if x303001 = true then (if x1 < 0 then ((spokeshavelaw1_awake.f k).bind fun t321 => (some t321)) else (if t312 > 0 then ((spokeshavelaw1_awake.f k).bind fun t322 => (some t322)) else (none))) else ((spokeshavelaw1_awake.f k).bind fun t323 => (some t323))))))
end
def spokeshavelaw1_WordDivides.f (k : Nat) (a0 : Int) (a1 : Int) (a2 : Int) (a3 : Int) : Option (Bool) := if (Go.bits .and .i64 a0 2) = 2 then ((word_Wrap.f (wrap64 (32 + (wrap64 (32 * (Go.bits .and .i64 a0 1))))) true a1).bind fun t281 => ((word_Wrap.f (wrap64 (32 + (wrap64 (32 * (Go.bits .and .i64 a0 1))))) true a2).bind fun t282 => ((word_Binary.f k (wrap64 (32 + (wrap64 (32 * (Go.bits .and .i64 a0 1))))) true 4 t281 t282).bind fun bt283 => ((word_Binary.f k (wrap64 (32 + (wrap64 (32 * (Go.bits .and .i64 a0 1))))) true 5 t281 t282).bind fun bt285 => (if (bt283.2 != bt285.2) = true then (spokeshavelaw1_WordDivides.j0 k t281 t282 a3 bt283.1 bt283.2 bt285.1 true (wrap64 (32 + (wrap64 (32 * (Go.bits .and .i64 a0 1))))) true) else (if bt283.2 = true then (spokeshavelaw1_WordDivides.j0 k t281 t282 a3 bt283.1 bt283.2 bt285.1 (t282 == 0) (wrap64 (32 + (wrap64 (32 * (Go.bits .and .i64 a0 1))))) true) else (spokeshavelaw1_WordDivides.j0 k t281 t282 a3 bt283.1 bt283.2 bt285.1 false (wrap64 (32 + (wrap64 (32 * (Go.bits .and .i64 a0 1))))) true))))))) else ((word_Wrap.f (wrap64 (32 + (wrap64 (32 * (Go.bits .and .i64 a0 1))))) false a1).bind fun t303 => ((word_Wrap.f (wrap64 (32 + (wrap64 (32 * (Go.bits .and .i64 a0 1))))) false a2).bind fun t304 => ((word_Binary.f k (wrap64 (32 + (wrap64 (32 * (Go.bits .and .i64 a0 1))))) false 4 t303 t304).bind fun bt305 => ((word_Binary.f k (wrap64 (32 + (wrap64 (32 * (Go.bits .and .i64 a0 1))))) false 5 t303 t304).bind fun bt307 => (if (bt305.2 != bt307.2) = true then (spokeshavelaw1_WordDivides.j2 k t303 t304 a3 bt305.1 bt305.2 bt307.1 true (wrap64 (32 + (wrap64 (32 * (Go.bits .and .i64 a0 1))))) false) else (if bt305.2 = true then (spokeshavelaw1_WordDivides.j2 k t303 t304 a3 bt305.1 bt305.2 bt307.1 (t304 == 0) (wrap64 (32 + (wrap64 (32 * (Go.bits .and .i64 a0 1))))) false) else (spokeshavelaw1_WordDivides.j2 k t303 t304 a3 bt305.1 bt305.2 bt307.1 false (wrap64 (32 + (wrap64 (32 * (Go.bits .and .i64 a0 1))))) false)))))))
theorem spokeshavelaw1_WordDivides.mono_l : ∀ k, (∀ y0 y1 y2 y3 y4 y5 y6 y7 y8, LeO (spokeshavelaw1_WordDivides.j0 k y0 y1 y2 y3 y4 y5 y6 y7 y8) (spokeshavelaw1_WordDivides.j0 (k + 1) y0 y1 y2 y3 y4 y5 y6 y7 y8)) ∧ (∀ y0 y1 y2 y3, LeO (spokeshavelaw1_WordDivides.j1 k y0 y1 y2 y3) (spokeshavelaw1_WordDivides.j1 (k + 1) y0 y1 y2 y3)) ∧ (∀ y0 y1 y2 y3 y4 y5 y6 y7 y8, LeO (spokeshavelaw1_WordDivides.j2 k y0 y1 y2 y3 y4 y5 y6 y7 y8) (spokeshavelaw1_WordDivides.j2 (k + 1) y0 y1 y2 y3 y4 y5 y6 y7 y8)) ∧ (∀ y0 y1 y2 y3, LeO (spokeshavelaw1_WordDivides.j3 k y0 y1 y2 y3) (spokeshavelaw1_WordDivides.j3 (k + 1) y0 y1 y2 y3))
  | 0 => ⟨fun _ _ _ _ _ _ _ _ _ r h => by simp [spokeshavelaw1_WordDivides.j0] at h, fun _ _ _ _ r h => by simp [spokeshavelaw1_WordDivides.j1] at h, fun _ _ _ _ _ _ _ _ _ r h => by simp [spokeshavelaw1_WordDivides.j2] at h, fun _ _ _ _ r h => by simp [spokeshavelaw1_WordDivides.j3] at h⟩
  | k + 1 => by
    obtain ⟨ih0, ih1, ih2, ih3⟩ := spokeshavelaw1_WordDivides.mono_l k
    refine ⟨?_, ?_, ?_, ?_⟩
    · intro y0 y1 y2 y3 y4 y5 y6 y7 y8
      unfold spokeshavelaw1_WordDivides.j0
      repeat' first
      | (with_reducible exact ih0 _ _ _ _ _ _ _ _ _)
      | (with_reducible exact ih1 _ _ _ _)
      | (with_reducible exact ih2 _ _ _ _ _ _ _ _ _)
      | (with_reducible exact ih3 _ _ _ _)
      | (with_reducible exact spokeshavelaw1_awake.mono _)
      | (with_reducible exact word_Binary.mono _ _ _ _ _ _)
      | (with_reducible exact LeO.refl _)
      | (with_reducible exact LeO.none _)
      | (with_reducible refine LeO.ite ?_ ?_)
      | (with_reducible refine LeO.bind ?_ (fun _ => ?_))
      | exact ih0 _ _ _ _ _ _ _ _ _
      | exact ih1 _ _ _ _
      | exact ih2 _ _ _ _ _ _ _ _ _
      | exact ih3 _ _ _ _
      | exact spokeshavelaw1_awake.mono _
      | exact word_Binary.mono _ _ _ _ _ _
      | exact LeO.none _
      | refine LeO.ite ?_ ?_
      | refine LeO.bind ?_ (fun _ => ?_)
    · intro y0 y1 y2 y3
      unfold spokeshavelaw1_WordDivides.j1
      repeat' first
      | (with_reducible exact ih0 _ _ _ _ _ _ _ _ _)
      | (with_reducible exact ih1 _ _ _ _)
      | (with_reducible exact ih2 _ _ _ _ _ _ _ _ _)
      | (with_reducible exact ih3 _ _ _ _)
      | (with_reducible exact spokeshavelaw1_awake.mono _)
      | (with_reducible exact word_Binary.mono _ _ _ _ _ _)
      | (with_reducible exact LeO.refl _)
      | (with_reducible exact LeO.none _)
      | (with_reducible refine LeO.ite ?_ ?_)
      | (with_reducible refine LeO.bind ?_ (fun _ => ?_))
      | exact ih0 _ _ _ _ _ _ _ _ _
      | exact ih1 _ _ _ _
      | exact ih2 _ _ _ _ _ _ _ _ _
      | exact ih3 _ _ _ _
      | exact spokeshavelaw1_awake.mono _
      | exact word_Binary.mono _ _ _ _ _ _
      | exact LeO.none _
      | refine LeO.ite ?_ ?_
      | refine LeO.bind ?_ (fun _ => ?_)
    · intro y0 y1 y2 y3 y4 y5 y6 y7 y8
      unfold spokeshavelaw1_WordDivides.j2
      repeat' first
      | (with_reducible exact ih0 _ _ _ _ _ _ _ _ _)
      | (with_reducible exact ih1 _ _ _ _)
      | (with_reducible exact ih2 _ _ _ _ _ _ _ _ _)
      | (with_reducible exact ih3 _ _ _ _)
      | (with_reducible exact spokeshavelaw1_awake.mono _)
      | (with_reducible exact word_Binary.mono _ _ _ _ _ _)
      | (with_reducible exact LeO.refl _)
      | (with_reducible exact LeO.none _)
      | (with_reducible refine LeO.ite ?_ ?_)
      | (with_reducible refine LeO.bind ?_ (fun _ => ?_))
      | exact ih0 _ _ _ _ _ _ _ _ _
      | exact ih1 _ _ _ _
      | exact ih2 _ _ _ _ _ _ _ _ _
      | exact ih3 _ _ _ _
      | exact spokeshavelaw1_awake.mono _
      | exact word_Binary.mono _ _ _ _ _ _
      | exact LeO.none _
      | refine LeO.ite ?_ ?_
      | refine LeO.bind ?_ (fun _ => ?_)
    · intro y0 y1 y2 y3
      unfold spokeshavelaw1_WordDivides.j3
      repeat' first
      | (with_reducible exact ih0 _ _ _ _ _ _ _ _ _)
      | (with_reducible exact ih1 _ _ _ _)
      | (with_reducible exact ih2 _ _ _ _ _ _ _ _ _)
      | (with_reducible exact ih3 _ _ _ _)
      | (with_reducible exact spokeshavelaw1_awake.mono _)
      | (with_reducible exact word_Binary.mono _ _ _ _ _ _)
      | (with_reducible exact LeO.refl _)
      | (with_reducible exact LeO.none _)
      | (with_reducible refine LeO.ite ?_ ?_)
      | (with_reducible refine LeO.bind ?_ (fun _ => ?_))
      | exact ih0 _ _ _ _ _ _ _ _ _
      | exact ih1 _ _ _ _
      | exact ih2 _ _ _ _ _ _ _ _ _
      | exact ih3 _ _ _ _
      | exact spokeshavelaw1_awake.mono _
      | exact word_Binary.mono _ _ _ _ _ _
      | exact LeO.none _
      | refine LeO.ite ?_ ?_
      | refine LeO.bind ?_ (fun _ => ?_)
theorem spokeshavelaw1_WordDivides.mono : ∀ a0 a1 a2 a3 k, LeO (spokeshavelaw1_WordDivides.f k a0 a1 a2 a3) (spokeshavelaw1_WordDivides.f (k + 1) a0 a1 a2 a3) := by
  intro a0 a1 a2 a3 k
  obtain ⟨ih0, ih1, ih2, ih3⟩ := spokeshavelaw1_WordDivides.mono_l k
  unfold spokeshavelaw1_WordDivides.f
  repeat' first
      | (with_reducible exact ih0 _ _ _ _ _ _ _ _ _)
      | (with_reducible exact ih1 _ _ _ _)
      | (with_reducible exact ih2 _ _ _ _ _ _ _ _ _)
      | (with_reducible exact ih3 _ _ _ _)
      | (with_reducible exact spokeshavelaw1_awake.mono _)
      | (with_reducible exact word_Binary.mono _ _ _ _ _ _)
      | (with_reducible exact LeO.refl _)
      | (with_reducible exact LeO.none _)
      | (with_reducible refine LeO.ite ?_ ?_)
      | (with_reducible refine LeO.bind ?_ (fun _ => ?_))
      | exact ih0 _ _ _ _ _ _ _ _ _
      | exact ih1 _ _ _ _
      | exact ih2 _ _ _ _ _ _ _ _ _
      | exact ih3 _ _ _ _
      | exact spokeshavelaw1_awake.mono _
      | exact word_Binary.mono _ _ _ _ _ _
      | exact LeO.none _
      | refine LeO.ite ?_ ?_
      | refine LeO.bind ?_ (fun _ => ?_)
def spokeshavelaw1_WordDivides.T2 : Bool × List (List Nat × List Nat) := (true, [([], []), ([], []), ([0, 1], [0, 1]), ([], []), ([], []), ([3, 4, 2], [3, 4]), ([2, 5, 0, 1, 2], [1, 2]), ([5, 6, 0, 1, 2, 3, 4, 5, 6], [4, 5])])
def spokeshavelaw1_WordDivides.B2 : List Nat := [0, 0, 3, 0, 0, 31, 63, 127]
theorem spokeshavelaw1_WordDivides.tab2 : rtab .any (opsOf Tryd.f6 2) = spokeshavelaw1_WordDivides.T2 := by kernel_rfl
theorem spokeshavelaw1_WordDivides.bits2 : waitsOk spokeshavelaw1_WordDivides.T2.2 spokeshavelaw1_WordDivides.B2 = true := by kernel_rfl
set_option maxHeartbeats 8000000 in
set_option maxRecDepth 100000 in
theorem spokeshavelaw1_WordDivides.calls (k : Nat) (a0 : Int) (a1 : Int) (a2 : Int) (a3 : Int) (r : Bool) (w : World) (h : spokeshavelaw1_WordDivides.f k a0 a1 a2 a3 = some r) :
    Calls Tryd.prog 6 #[.int .i64 a0, .int .i64 a1, .int .i64 a2, .int .i64 a3] w fun e w' => e = .returned (.bool r) ∧ Below w.heap.size w w' := by
  have hu26 := Tryd.underlying26
  have HB := Aside0.mk (Below.refl w.heap.size w)
  have H : (if (Go.bits .and .i64 a0 2) = 2 then ((word_Wrap.f (wrap64 (32 + (wrap64 (32 * (Go.bits .and .i64 a0 1))))) true a1).bind fun t281 => ((word_Wrap.f (wrap64 (32 + (wrap64 (32 * (Go.bits .and .i64 a0 1))))) true a2).bind fun t282 => ((word_Binary.f k (wrap64 (32 + (wrap64 (32 * (Go.bits .and .i64 a0 1))))) true 4 t281 t282).bind fun bt283 => ((word_Binary.f k (wrap64 (32 + (wrap64 (32 * (Go.bits .and .i64 a0 1))))) true 5 t281 t282).bind fun bt285 => (if (bt283.2 != bt285.2) = true then (spokeshavelaw1_WordDivides.j0 k t281 t282 a3 bt283.1 bt283.2 bt285.1 true (wrap64 (32 + (wrap64 (32 * (Go.bits .and .i64 a0 1))))) true) else (if bt283.2 = true then (spokeshavelaw1_WordDivides.j0 k t281 t282 a3 bt283.1 bt283.2 bt285.1 (t282 == 0) (wrap64 (32 + (wrap64 (32 * (Go.bits .and .i64 a0 1))))) true) else (spokeshavelaw1_WordDivides.j0 k t281 t282 a3 bt283.1 bt283.2 bt285.1 false (wrap64 (32 + (wrap64 (32 * (Go.bits .and .i64 a0 1))))) true))))))) else ((word_Wrap.f (wrap64 (32 + (wrap64 (32 * (Go.bits .and .i64 a0 1))))) false a1).bind fun t303 => ((word_Wrap.f (wrap64 (32 + (wrap64 (32 * (Go.bits .and .i64 a0 1))))) false a2).bind fun t304 => ((word_Binary.f k (wrap64 (32 + (wrap64 (32 * (Go.bits .and .i64 a0 1))))) false 4 t303 t304).bind fun bt305 => ((word_Binary.f k (wrap64 (32 + (wrap64 (32 * (Go.bits .and .i64 a0 1))))) false 5 t303 t304).bind fun bt307 => (if (bt305.2 != bt307.2) = true then (spokeshavelaw1_WordDivides.j2 k t303 t304 a3 bt305.1 bt305.2 bt307.1 true (wrap64 (32 + (wrap64 (32 * (Go.bits .and .i64 a0 1))))) false) else (if bt305.2 = true then (spokeshavelaw1_WordDivides.j2 k t303 t304 a3 bt305.1 bt305.2 bt307.1 (t304 == 0) (wrap64 (32 + (wrap64 (32 * (Go.bits .and .i64 a0 1))))) false) else (spokeshavelaw1_WordDivides.j2 k t303 t304 a3 bt305.1 bt305.2 bt307.1 false (wrap64 (32 + (wrap64 (32 * (Go.bits .and .i64 a0 1))))) false)))))))) = some r := h
  clear h
  by_cases c5 : (Go.bits .and .i64 a0 2) = 2
  · rw [if_pos c5] at H
    have c5b0 : ((Go.bits .and .i64 a0 2) == 2) = true := beq_iff_eq.mpr c5
    have c5b1 : ((Go.bits .and .i64 a0 2) != 2) = false := bne_eq_false_iff_eq.mpr c5
    clear c5
    replace H := Option.bind_eq_some_iff.mp H
    obtain ⟨t281, A60, H⟩ := H
    replace H : ((word_Wrap.f (wrap64 (32 + (wrap64 (32 * (Go.bits .and .i64 a0 1))))) true a2).bind fun t282 => ((word_Binary.f k (wrap64 (32 + (wrap64 (32 * (Go.bits .and .i64 a0 1))))) true 4 t281 t282).bind fun bt283 => ((word_Binary.f k (wrap64 (32 + (wrap64 (32 * (Go.bits .and .i64 a0 1))))) true 5 t281 t282).bind fun bt285 => (if (bt283.2 != bt285.2) = true then (spokeshavelaw1_WordDivides.j0 k t281 t282 a3 bt283.1 bt283.2 bt285.1 true (wrap64 (32 + (wrap64 (32 * (Go.bits .and .i64 a0 1))))) true) else (if bt283.2 = true then (spokeshavelaw1_WordDivides.j0 k t281 t282 a3 bt283.1 bt283.2 bt285.1 (t282 == 0) (wrap64 (32 + (wrap64 (32 * (Go.bits .and .i64 a0 1))))) true) else (spokeshavelaw1_WordDivides.j0 k t281 t282 a3 bt283.1 bt283.2 bt285.1 false (wrap64 (32 + (wrap64 (32 * (Go.bits .and .i64 a0 1))))) true)))))) = some r := H
    have A6 := Aside0.mk A60
    clear A60
    replace H := Option.bind_eq_some_iff.mp H
    obtain ⟨t282, A70, H⟩ := H
    replace H : ((word_Binary.f k (wrap64 (32 + (wrap64 (32 * (Go.bits .and .i64 a0 1))))) true 4 t281 t282).bind fun bt283 => ((word_Binary.f k (wrap64 (32 + (wrap64 (32 * (Go.bits .and .i64 a0 1))))) true 5 t281 t282).bind fun bt285 => (if (bt283.2 != bt285.2) = true then (spokeshavelaw1_WordDivides.j0 k t281 t282 a3 bt283.1 bt283.2 bt285.1 true (wrap64 (32 + (wrap64 (32 * (Go.bits .and .i64 a0 1))))) true) else (if bt283.2 = true then (spokeshavelaw1_WordDivides.j0 k t281 t282 a3 bt283.1 bt283.2 bt285.1 (t282 == 0) (wrap64 (32 + (wrap64 (32 * (Go.bits .and .i64 a0 1))))) true) else (spokeshavelaw1_WordDivides.j0 k t281 t282 a3 bt283.1 bt283.2 bt285.1 false (wrap64 (32 + (wrap64 (32 * (Go.bits .and .i64 a0 1))))) true))))) = some r := H
    have A7 := Aside0.mk A70
    clear A70
    replace H := Option.bind_eq_some_iff.mp H
    obtain ⟨⟨t283, t284⟩, A80, H⟩ := H
    replace H : ((word_Binary.f k (wrap64 (32 + (wrap64 (32 * (Go.bits .and .i64 a0 1))))) true 5 t281 t282).bind fun bt285 => (if (t284 != bt285.2) = true then (spokeshavelaw1_WordDivides.j0 k t281 t282 a3 t283 t284 bt285.1 true (wrap64 (32 + (wrap64 (32 * (Go.bits .and .i64 a0 1))))) true) else (if t284 = true then (spokeshavelaw1_WordDivides.j0 k t281 t282 a3 t283 t284 bt285.1 (t282 == 0) (wrap64 (32 + (wrap64 (32 * (Go.bits .and .i64 a0 1))))) true) else (spokeshavelaw1_WordDivides.j0 k t281 t282 a3 t283 t284 bt285.1 false (wrap64 (32 + (wrap64 (32 * (Go.bits .and .i64 a0 1))))) true)))) = some r := H
    have A8 := Aside0.mk A80
    clear A80
    replace H := Option.bind_eq_some_iff.mp H
    obtain ⟨⟨t285, t286⟩, A90, H⟩ := H
    replace H : (if (t284 != t286) = true then (spokeshavelaw1_WordDivides.j0 k t281 t282 a3 t283 t284 t285 true (wrap64 (32 + (wrap64 (32 * (Go.bits .and .i64 a0 1))))) true) else (if t284 = true then (spokeshavelaw1_WordDivides.j0 k t281 t282 a3 t283 t284 t285 (t282 == 0) (wrap64 (32 + (wrap64 (32 * (Go.bits .and .i64 a0 1))))) true) else (spokeshavelaw1_WordDivides.j0 k t281 t282 a3 t283 t284 t285 false (wrap64 (32 + (wrap64 (32 * (Go.bits .and .i64 a0 1))))) true))) = some r := H
    have A9 := Aside0.mk A90
    clear A90
    have HC10 := Aside0.mk H
    clear H
    go_enter Tryd.func6, Tryd.ntmps6
    try go_wp2_with (first | ((with_reducible refine gate_dst (N := 9) rfl ?_); refine box_event ?hg (N := 9) ?hd (cs := #[.int .i64 0, .bool false]) (t := 26) ?hr ?_; (case hd => rfl); (case hg => rfl); (case hr => first | (go_simp; done) | (go_simp; rfl)); intro gb280 hg w11 hbox hb; have n0_ := Aside0.mk (below_step (by repeat (first | (with_reducible first | exact HB.out | apply below_alloc | apply pw_below_drewN | apply below_drew1) | exact HB.out)) hb); have n1_ := Aside0.mk (hbox); have n2_ := Aside0.mk ((by rw [hg]; exact (below_size (by repeat (first | (with_reducible first | exact HB.out | apply below_alloc | apply pw_below_drewN | apply below_drew1) | exact HB.out))) : w.heap.size ≤ gb280)); have n3_ := Aside0.mk ((by rw [hg]; exact (below_size (by repeat (first | (with_reducible first | exact HB.out | apply below_alloc | apply pw_below_drewN | apply below_drew1) | exact HB.out))) : w.heap.size ≤ gb280)); clear HB; have HB := n0_; have BK280 := n1_; have GW280 := n2_; have GE280 := n3_; clear n0_ n1_ n2_ n3_; clear hb hbox hg; have hcz12_0 : w11.cell? ⟨gb280, 0, none⟩ = some (.int .i64 0) := (blk_cell BK280.out 0).trans rfl; have hcz12_1 : w11.cell? ⟨gb280, 1, none⟩ = some (.bool false) := (blk_cell BK280.out 1).trans rfl; have hfz12_0 := blk_frozen BK280.out 0; have hfz12_1 := blk_frozen BK280.out 1))
    have n0_ : Aside0 (((w11.setCell ⟨gb280, 0, none⟩ (.int .i64 (wrap64 (32 + (wrap64 (32 * (Go.bits .and .i64 a0 1))))))).setCell ⟨gb280, 1, none⟩ (.bool true)).heap[gb280]? = some (.cells #[.int .i64 (wrap64 (32 + (wrap64 (32 * (Go.bits .and .i64 a0 1))))), .bool true] 26 (0, 0))) := ⟨by (with_reducible repeat (first | refine blk_drewN ?_ _ | refine blk_drew ?_ | refine blk_alloc ?_ _)); refine blk_put (cs := #[.int .i64 (wrap64 (32 + (wrap64 (32 * (Go.bits .and .i64 a0 1))))), .bool false]) ?_ 1 _ rfl; (with_reducible repeat (first | refine blk_drewN ?_ _ | refine blk_drew ?_ | refine blk_alloc ?_ _)); refine blk_put (cs := #[.int .i64 0, .bool false]) ?_ 0 _ rfl; (with_reducible repeat (first | refine blk_drewN ?_ _ | refine blk_drew ?_ | refine blk_alloc ?_ _)); exact BK280.out⟩
    have n1_ : Aside0 (Below w.heap.size w ((w11.setCell ⟨gb280, 0, none⟩ (.int .i64 (wrap64 (32 + (wrap64 (32 * (Go.bits .and .i64 a0 1))))))).setCell ⟨gb280, 1, none⟩ (.bool true))) := ⟨by repeat (first | (with_reducible first | exact HB.out | apply below_alloc | apply pw_below_drewN | apply below_drew1 | refine below_set ?_ GE280.out) | exact HB.out)⟩
    (try clear BK280)
    (try clear HB)
    generalize ((w11.setCell ⟨gb280, 0, none⟩ (.int .i64 (wrap64 (32 + (wrap64 (32 * (Go.bits .and .i64 a0 1))))))).setCell ⟨gb280, 1, none⟩ (.bool true)) = w13 at n0_ n1_ ⊢
    have BK280 := n0_
    have HB := n1_
    clear n0_ n1_
    have n0_ := Aside0.mk (blk_drew BK280.out)
    have n1_ := Aside0.mk (below_drew1 HB.out)
    clear BK280
    clear HB
    have BK280 := n0_
    have HB := n1_
    clear n0_ n1_
    refine start_ (n := 8) (S := fun w' => w'.cell? ⟨gb280, 0, none⟩ = some (.int .i64 (wrap64 (32 + (wrap64 (32 * (Go.bits .and .i64 a0 1)))))) ∧ w'.cell? ⟨gb280, 1, none⟩ = some (.bool true)) (ds := []) #[false, false, false, false, false, false, false, false] (by kernel_rfl) rfl rfl ⟨(blk_cell BK280.out 0).trans rfl, (blk_cell BK280.out 1).trans rfl⟩ (fun hHeld => ?_); refine with_tabW spokeshavelaw1_WordDivides.tab2 spokeshavelaw1_WordDivides.bits2 (fun HT_ HW_ => ?_)
    generalize w13.drew = w14 at BK280 HB hHeld ⊢
    refine pure_ (i := 1) (N := some 30) (v := ?_) (a' := ?_) #[false, true, false, false, false, false, false, false] rfl rfl (any_of HT_.out (by kernel_rfl)) (fun _ _ _ h => h) (Or.inl ⟨by rfl, ?_⟩) ?_ ?_
    rotate_left
    · intro w'
      go_simp
      with_reducible rfl
    rotate_left
    · simp only [Act.put, List.setIfInBounds_toArray, List.set_cons_zero, List.set_cons_succ, i64_w, i32_w]
      rfl
    refine pure_ (i := 4) (N := some 33) (v := ?_) (a' := ?_) #[false, true, false, false, true, false, false, false] rfl rfl (any_of HT_.out (by kernel_rfl)) (fun _ _ _ h => h) (Or.inl ⟨by rfl, ?_⟩) ?_ ?_
    rotate_left
    · intro w'
      go_simp
      with_reducible rfl
    rotate_left
    · simp only [Act.put, List.setIfInBounds_toArray, List.set_cons_zero, List.set_cons_succ, i64_w, i32_w]
      rfl
    refine take_ (i := 0) (N := some 29) (v := ?_) (a' := ?_) #[true, true, false, false, true, false, false, false] rfl rfl (take_ofW HT_.out HW_.out (by kernel_rfl)) (fun _ _ _ h => h) (Or.inl ⟨by rfl, ?_⟩) hHeld ?_ ?_
    rotate_left
    · rintro w' ⟨s0, s1⟩
      go_simp
      with_reducible rfl
    rotate_left
    · simp only [Act.put, List.setIfInBounds_toArray, List.set_cons_zero, List.set_cons_succ, i64_w, i32_w]
      rfl
    refine take_ (i := 3) (N := some 32) (v := ?_) (a' := ?_) #[true, true, false, true, true, false, false, false] rfl rfl (take_ofW HT_.out HW_.out (by kernel_rfl)) (fun _ _ _ h => h) (Or.inl ⟨by rfl, ?_⟩) hHeld ?_ ?_
    rotate_left
    · rintro w' ⟨s0, s1⟩
      go_simp
      with_reducible rfl
    rotate_left
    · simp only [Act.put, List.setIfInBounds_toArray, List.set_cons_zero, List.set_cons_succ, i64_w, i32_w]
      rfl
    refine one_ (i := 2) (N := some 31) #[true, true, true, true, true, false, false, false] rfl rfl (one_of HT_.out (by kernel_rfl)) (by decide) (fun K hK => ?_)
    refine goes_ Tryd.func13 (by kernel_rfl) rfl #[.agg #[.int .i64 (wrap64 (32 + (wrap64 (32 * (Go.bits .and .i64 a0 1))))), .bool true], .int .i64 a1] (by rfl) rfl rfl (by (try simp only [List.map_toArray, List.map_cons, List.map_nil]); first | done | rfl | (simp only [List.length_drop, List.length_take]; rfl)) ?_
    with_reducible refine (word_Wrap.calls (wrap64 (32 + (wrap64 (32 * (Go.bits .and .i64 a0 1))))) true a1 t281 _ A6.out).mono ?_
    rintro e w15 ⟨rfl, hb⟩
    refine ⟨_, rfl, ?_⟩
    have n0_ := Aside0.mk (blk_below (g := gb280) (o := .cells #[.int .i64 (wrap64 (32 + (wrap64 (32 * (Go.bits .and .i64 a0 1))))), .bool true] 26 (0, 0)) (by (with_reducible repeat (first | refine blk_drewN ?_ _ | refine blk_drew ?_ | refine blk_alloc ?_ _)); exact BK280.out) hb)
    have n1_ := Aside0.mk (below_step (by repeat (first | (with_reducible first | exact HB.out | apply below_alloc | apply pw_below_drewN | apply below_drew1 | refine below_set ?_ GE280.out) | exact HB.out)) hb)
    clear BK280
    clear HB
    have BK280 := n0_
    have HB := n1_
    clear n0_ n1_
    (try clear hb)
    (try clear hb2)
    (try clear hk)
    (try clear hi)
    refine hK.out _ _ ⟨(blk_cell BK280.out 0).trans rfl, (blk_cell BK280.out 1).trans rfl⟩ (fun hHeld => ?_)
    clear hK K
    refine norm_ (a' := ?_) ?_ ?_
    rotate_left
    · show Act.put _ (some 31) _ = _
      simp only [Act.put, List.setIfInBounds_toArray, List.set_cons_zero, List.set_cons_succ, i64_w, i32_w]
      rfl
    refine one_ (i := 5) (N := some 34) #[true, true, true, true, true, true, false, false] rfl rfl (one_of HT_.out (by kernel_rfl)) (by decide) (fun K hK => ?_)
    refine goes_ Tryd.func13 (by kernel_rfl) rfl #[.agg #[.int .i64 (wrap64 (32 + (wrap64 (32 * (Go.bits .and .i64 a0 1))))), .bool true], .int .i64 a2] (by rfl) rfl rfl (by (try simp only [List.map_toArray, List.map_cons, List.map_nil]); first | done | rfl | (simp only [List.length_drop, List.length_take]; rfl)) ?_
    with_reducible refine (word_Wrap.calls (wrap64 (32 + (wrap64 (32 * (Go.bits .and .i64 a0 1))))) true a2 t282 _ A7.out).mono ?_
    rintro e w16 ⟨rfl, hb⟩
    refine ⟨_, rfl, ?_⟩
    have n0_ := Aside0.mk (blk_below (g := gb280) (o := .cells #[.int .i64 (wrap64 (32 + (wrap64 (32 * (Go.bits .and .i64 a0 1))))), .bool true] 26 (0, 0)) (by (with_reducible repeat (first | refine blk_drewN ?_ _ | refine blk_drew ?_ | refine blk_alloc ?_ _)); exact BK280.out) hb)
    have n1_ := Aside0.mk (below_step (by repeat (first | (with_reducible first | exact HB.out | apply below_alloc | apply pw_below_drewN | apply below_drew1 | refine below_set ?_ GE280.out) | exact HB.out)) hb)
    clear BK280
    clear HB
    have BK280 := n0_
    have HB := n1_
    clear n0_ n1_
    (try clear hb)
    (try clear hb2)
    (try clear hk)
    (try clear hi)
    refine hK.out _ _ ⟨(blk_cell BK280.out 0).trans rfl, (blk_cell BK280.out 1).trans rfl⟩ (fun hHeld => ?_)
    clear hK K
    refine norm_ (a' := ?_) ?_ ?_
    rotate_left
    · show Act.put _ (some 34) _ = _
      simp only [Act.put, List.setIfInBounds_toArray, List.set_cons_zero, List.set_cons_succ, i64_w, i32_w]
      rfl
    refine pure_ (i := 6) (N := some 1) (v := ?_) (a' := ?_) #[true, true, true, true, true, true, true, false] rfl rfl (any_of HT_.out (by kernel_rfl)) (fun _ _ _ h => h) (Or.inl ⟨by rfl, ?_⟩) ?_ ?_
    rotate_left
    · intro w'
      go_simp
      with_reducible rfl
    rotate_left
    · simp only [Act.put, List.setIfInBounds_toArray, List.set_cons_zero, List.set_cons_succ, i64_w, i32_w]
      rfl
    refine pure_ (i := 7) (N := some 2) (v := ?_) (a' := ?_) #[true, true, true, true, true, true, true, true] rfl rfl (any_of HT_.out (by kernel_rfl)) (fun _ _ _ h => h) (Or.inl ⟨by rfl, ?_⟩) ?_ ?_
    rotate_left
    · intro w'
      go_simp
      with_reducible rfl
    rotate_left
    · simp only [Act.put, List.setIfInBounds_toArray, List.set_cons_zero, List.set_cons_succ, i64_w, i32_w]
      rfl
    refine done_ (done_of HT_.out (by kernel_rfl)) ?_
    have hcz17_0 : w16.cell? ⟨gb280, 0, none⟩ = some (.int .i64 (wrap64 (32 + (wrap64 (32 * (Go.bits .and .i64 a0 1)))))) := (blk_cell BK280.out 0).trans rfl
    have hcz17_1 : w16.cell? ⟨gb280, 1, none⟩ = some (.bool true) := (blk_cell BK280.out 1).trans rfl
    have hfz17_0 := blk_frozen BK280.out 0
    have hfz17_1 := blk_frozen BK280.out 1
    go_upto_region 5 with (first | ((with_reducible refine gate_callee (f := 14) rfl ?_); refine goesL_ (some 39) rfl rfl Tryd.func14 (by kernel_rfl) rfl #[.agg #[.int .i64 (wrap64 (32 + (wrap64 (32 * (Go.bits .and .i64 a0 1))))), .bool true], .int .i64 4, .int .i64 t281, .int .i64 t282] rfl (by (try simp only [List.map_toArray, List.map_cons, List.map_nil]); first | done | rfl | (simp only [List.length_drop, List.length_take]; rfl)) ?_; (with_reducible refine (word_Binary.calls k (wrap64 (32 + (wrap64 (32 * (Go.bits .and .i64 a0 1))))) true 4 t281 t282 t283 t284 _ A8.out).mono ?_); rintro e w18 ⟨rfl, hb⟩; refine ⟨_, rfl, ?_⟩; have n0_ := Aside0.mk (blk_below (g := gb280) (o := .cells #[.int .i64 (wrap64 (32 + (wrap64 (32 * (Go.bits .and .i64 a0 1))))), .bool true] 26 (0, 0)) (by (with_reducible repeat (first | refine blk_drewN ?_ _ | refine blk_drew ?_ | refine blk_alloc ?_ _)); exact BK280.out) hb); have n1_ := Aside0.mk (below_step (by repeat (first | (with_reducible first | exact HB.out | apply below_alloc | apply pw_below_drewN | apply below_drew1 | refine below_set ?_ GE280.out) | exact HB.out)) hb); clear BK280; clear HB; have BK280 := n0_; have HB := n1_; clear n0_ n1_; (try clear hb); (try clear hb2); (try clear hk); (try clear hi); have hcz19_0 : w18.cell? ⟨gb280, 0, none⟩ = some (.int .i64 (wrap64 (32 + (wrap64 (32 * (Go.bits .and .i64 a0 1)))))) := (blk_cell BK280.out 0).trans rfl; have hcz19_1 : w18.cell? ⟨gb280, 1, none⟩ = some (.bool true) := (blk_cell BK280.out 1).trans rfl; have hfz19_0 := blk_frozen BK280.out 0; have hfz19_1 := blk_frozen BK280.out 1) | ((with_reducible refine gate_callee (f := 14) rfl ?_); refine goesL_ (some 46) rfl rfl Tryd.func14 (by kernel_rfl) rfl #[.agg #[.int .i64 (wrap64 (32 + (wrap64 (32 * (Go.bits .and .i64 a0 1))))), .bool true], .int .i64 5, .int .i64 t281, .int .i64 t282] rfl (by (try simp only [List.map_toArray, List.map_cons, List.map_nil]); first | done | rfl | (simp only [List.length_drop, List.length_take]; rfl)) ?_; (with_reducible refine (word_Binary.calls k (wrap64 (32 + (wrap64 (32 * (Go.bits .and .i64 a0 1))))) true 5 t281 t282 t285 t286 _ A9.out).mono ?_); rintro e w20 ⟨rfl, hb⟩; refine ⟨_, rfl, ?_⟩; have n0_ := Aside0.mk (blk_below (g := gb280) (o := .cells #[.int .i64 (wrap64 (32 + (wrap64 (32 * (Go.bits .and .i64 a0 1))))), .bool true] 26 (0, 0)) (by (with_reducible repeat (first | refine blk_drewN ?_ _ | refine blk_drew ?_ | refine blk_alloc ?_ _)); exact BK280.out) hb); have n1_ := Aside0.mk (below_step (by repeat (first | (with_reducible first | exact HB.out | apply below_alloc | apply pw_below_drewN | apply below_drew1 | refine below_set ?_ GE280.out) | exact HB.out)) hb); clear BK280; clear HB; have BK280 := n0_; have HB := n1_; clear n0_ n1_; (try clear hb); (try clear hb2); (try clear hk); (try clear hi)))
    (try simp only [Act.put, List.setIfInBounds_toArray, List.set_cons_zero, List.set_cons_succ])
    go_cut [58] (fun v58 wc => ∃ (kq : Nat) (x58_9 : Bool), v58 = .bool x58_9 ∧ Aside0 (spokeshavelaw1_WordDivides.j0 kq t281 t282 a3 t283 t284 t285 x58_9 (wrap64 (32 + (wrap64 (32 * (Go.bits .and .i64 a0 1))))) true = some r) ∧ Aside0 (kq ≤ k) ∧ Aside0 (wc.heap[gb280]? = some (.cells #[.int .i64 (wrap64 (32 + (wrap64 (32 * (Go.bits .and .i64 a0 1))))), .bool true] 26 (0, 0))) ∧ Aside0 (Below w.heap.size w wc))
    case first =>
      have H := HC10.out
      clear HC10
      by_cases c21 : (t284 != t286) = true
      · rw [if_pos c21] at H
        have c21b0 : (t284 != t286) = true := c21
        (try (have c21b1 : decide (t284 = t286) = false := by first | exact c21 | exact absurd c21 (by decide) | decide | (simp; done) | simpa using c21))
        (try (have c21b2 : (t284 == t286) = false := by first | exact c21 | exact absurd c21 (by decide) | decide | (simp; done) | simpa using c21))
        (try (have c21b3 : ¬ (t284 = t286) := by first | exact c21 | exact absurd c21 (by decide) | decide | (simp; done) | simpa using c21))
        clear c21
        (first | rw [c21b0] | (simp only [i64_w, i32_w]; rw [c21b0]) | skip)
        have H' := Aside0.mk H
        clear H
        go_wp2
        go_meet
        case rel => exact ⟨_, (true), (by first | rfl | (simp; done) | (simp [*]; done)), H', ⟨by first | omega | exact Nat.le_refl _⟩, ⟨by (with_reducible repeat (first | refine blk_drewN ?_ _ | refine blk_drew ?_ | refine blk_alloc ?_ _)); exact BK280.out⟩, ⟨by repeat (first | (with_reducible first | exact HB.out | apply below_alloc | apply pw_below_drewN | apply below_drew1 | refine below_set ?_ GE280.out) | exact HB.out)⟩⟩
      · rw [if_neg c21] at H
        have c21b0 : (t284 != t286) = false := by first | exact c21 | exact absurd c21 (by decide) | decide | (simp; done) | simpa using c21
        (try (have c21b1 : decide (t284 = t286) = true := by first | exact c21 | exact absurd c21 (by decide) | decide | (simp; done) | simpa using c21))
        (try (have c21b2 : (t284 == t286) = true := by first | exact c21 | exact absurd c21 (by decide) | decide | (simp; done) | simpa using c21))
        clear c21
        (first | rw [c21b0] | (simp only [i64_w, i32_w]; rw [c21b0]) | skip)
        by_cases c22 : t284 = true
        · subst c22
          have H1 : (spokeshavelaw1_WordDivides.j0 k t281 t282 a3 t283 true t285 (t282 == 0) (wrap64 (32 + (wrap64 (32 * (Go.bits .and .i64 a0 1))))) true) = some r := by rw [if_pos rfl] at H; exact H
          clear H
          have H := H1
          clear H1
          have H' := Aside0.mk H
          clear H
          go_wp2
          go_meet
          case rel => exact ⟨_, ((t282 == 0)), (by first | rfl | (simp; done) | (simp [*]; done)), H', ⟨by first | omega | exact Nat.le_refl _⟩, ⟨by (with_reducible repeat (first | refine blk_drewN ?_ _ | refine blk_drew ?_ | refine blk_alloc ?_ _)); exact BK280.out⟩, ⟨by repeat (first | (with_reducible first | exact HB.out | apply below_alloc | apply pw_below_drewN | apply below_drew1 | refine below_set ?_ GE280.out) | exact HB.out)⟩⟩
        · replace c22 := Bool.eq_false_iff.mpr c22
          subst c22
          have H1 : (spokeshavelaw1_WordDivides.j0 k t281 t282 a3 t283 false t285 false (wrap64 (32 + (wrap64 (32 * (Go.bits .and .i64 a0 1))))) true) = some r := by rw [if_neg (show ¬ (false = true) by decide)] at H; exact H
          clear H
          have H := H1
          clear H1
          have H' := Aside0.mk H
          clear H
          go_wp2
          go_meet
          case rel => exact ⟨_, (false), (by first | rfl | (simp; done) | (simp [*]; done)), H', ⟨by first | omega | exact Nat.le_refl _⟩, ⟨by (with_reducible repeat (first | refine blk_drewN ?_ _ | refine blk_drew ?_ | refine blk_alloc ?_ _)); exact BK280.out⟩, ⟨by repeat (first | (with_reducible first | exact HB.out | apply below_alloc | apply pw_below_drewN | apply below_drew1 | refine below_set ?_ GE280.out) | exact HB.out)⟩⟩
    case rest =>
      clear HC10
      try clear c1
      try clear c2
      try clear p2
      try clear c5
      try clear c5b0
      try clear c5b1
      try clear c6
      try clear p6
      try clear c13
      try clear c14
      try clear c21
      try clear c21b0
      try clear c21b1
      try clear c21b2
      try clear c22
      try clear hcz12_0
      try clear hcz12_1
      try clear hcz17_0
      try clear hcz17_1
      try clear hcz19_0
      try clear hcz19_1
      try clear hfz12_0
      try clear hfz12_1
      try clear hfz17_0
      try clear hfz17_1
      try clear hfz19_0
      try clear hfz19_1
      obtain ⟨kq, x58_9, rfl, HA, HJ9, BK280, HB⟩ := hcut
      cases kq with
      | zero => exact absurd HA.out (by simp [spokeshavelaw1_WordDivides.j0])
      | succ kj9 =>
        have H := HA.out
        clear HA
        simp only [spokeshavelaw1_WordDivides.j0] at H
        by_cases c23 : x58_9 = true
        · subst c23
          have H1 : (none) = some r := by rw [if_pos rfl] at H; exact H
          clear H
          have H := H1
          clear H1
          exact absurd H (by simp)
        · replace c23 := Bool.eq_false_iff.mpr c23
          subst c23
          have H1 : (if t284 = true then ((word_Wrap.f (wrap64 (32 + (wrap64 (32 * (Go.bits .and .i64 a0 1))))) true (wrap64 ((wrap64 (t283 * t282)) + t285))).bind fun t287 => ((word_Binary.f kj9 (wrap64 (32 + (wrap64 (32 * (Go.bits .and .i64 a0 1))))) true 16 t285 t282).bind fun bt288 => (if t287 = t281 then (if true = true then (if t285 = 0 then (spokeshavelaw1_WordDivides.j1 kj9 t281 a3 (wrap64 (32 + (wrap64 (32 * (Go.bits .and .i64 a0 1))))) true) else (if ((decide (t285 < 0)) != (decide (t281 < 0))) = true then (none) else (spokeshavelaw1_WordDivides.j1 kj9 t281 a3 (wrap64 (32 + (wrap64 (32 * (Go.bits .and .i64 a0 1))))) true))) else (if bt288.2 = true then (if bt288.1 = 1 then (spokeshavelaw1_WordDivides.j1 kj9 t281 a3 (wrap64 (32 + (wrap64 (32 * (Go.bits .and .i64 a0 1))))) true) else (none)) else (none))) else (none)))) else (spokeshavelaw1_WordDivides.j1 kj9 t281 a3 (wrap64 (32 + (wrap64 (32 * (Go.bits .and .i64 a0 1))))) true)) = some r := by rw [if_neg (show ¬ (false = true) by decide)] at H; exact H
          clear H
          have H := H1
          clear H1
          have HC24 := Aside0.mk H
          clear H
          go_upto_if 59 with (fail)
          go_cut [] (fun wc => ∃ (kq : Nat), Aside0 (spokeshavelaw1_WordDivides.j1 kq t281 a3 (wrap64 (32 + (wrap64 (32 * (Go.bits .and .i64 a0 1))))) true = some r) ∧ Aside0 (kq ≤ kj9) ∧ Aside0 (wc.heap[gb280]? = some (.cells #[.int .i64 (wrap64 (32 + (wrap64 (32 * (Go.bits .and .i64 a0 1))))), .bool true] 26 (0, 0))) ∧ Aside0 (Below w.heap.size w wc))
          case first =>
            have H := HC24.out
            clear HC24
            by_cases c25 : t284 = true
            · subst c25
              have H1 : ((word_Wrap.f (wrap64 (32 + (wrap64 (32 * (Go.bits .and .i64 a0 1))))) true (wrap64 ((wrap64 (t283 * t282)) + t285))).bind fun t287 => ((word_Binary.f kj9 (wrap64 (32 + (wrap64 (32 * (Go.bits .and .i64 a0 1))))) true 16 t285 t282).bind fun bt288 => (if t287 = t281 then (if true = true then (if t285 = 0 then (spokeshavelaw1_WordDivides.j1 kj9 t281 a3 (wrap64 (32 + (wrap64 (32 * (Go.bits .and .i64 a0 1))))) true) else (if ((decide (t285 < 0)) != (decide (t281 < 0))) = true then (none) else (spokeshavelaw1_WordDivides.j1 kj9 t281 a3 (wrap64 (32 + (wrap64 (32 * (Go.bits .and .i64 a0 1))))) true))) else (if bt288.2 = true then (if bt288.1 = 1 then (spokeshavelaw1_WordDivides.j1 kj9 t281 a3 (wrap64 (32 + (wrap64 (32 * (Go.bits .and .i64 a0 1))))) true) else (none)) else (none))) else (none)))) = some r := by rw [if_pos rfl] at H; exact H
              clear H
              have H := H1
              clear H1
              replace H := Option.bind_eq_some_iff.mp H
              obtain ⟨t287, A260, H⟩ := H
              replace H : ((word_Binary.f kj9 (wrap64 (32 + (wrap64 (32 * (Go.bits .and .i64 a0 1))))) true 16 t285 t282).bind fun bt288 => (if t287 = t281 then (if true = true then (if t285 = 0 then (spokeshavelaw1_WordDivides.j1 kj9 t281 a3 (wrap64 (32 + (wrap64 (32 * (Go.bits .and .i64 a0 1))))) true) else (if ((decide (t285 < 0)) != (decide (t281 < 0))) = true then (none) else (spokeshavelaw1_WordDivides.j1 kj9 t281 a3 (wrap64 (32 + (wrap64 (32 * (Go.bits .and .i64 a0 1))))) true))) else (if bt288.2 = true then (if bt288.1 = 1 then (spokeshavelaw1_WordDivides.j1 kj9 t281 a3 (wrap64 (32 + (wrap64 (32 * (Go.bits .and .i64 a0 1))))) true) else (none)) else (none))) else (none))) = some r := H
              have A26 := Aside0.mk A260
              clear A260
              replace H := Option.bind_eq_some_iff.mp H
              obtain ⟨⟨t288, t289⟩, A270, H⟩ := H
              replace H : (if t287 = t281 then (if true = true then (if t285 = 0 then (spokeshavelaw1_WordDivides.j1 kj9 t281 a3 (wrap64 (32 + (wrap64 (32 * (Go.bits .and .i64 a0 1))))) true) else (if ((decide (t285 < 0)) != (decide (t281 < 0))) = true then (none) else (spokeshavelaw1_WordDivides.j1 kj9 t281 a3 (wrap64 (32 + (wrap64 (32 * (Go.bits .and .i64 a0 1))))) true))) else (if t289 = true then (if t288 = 1 then (spokeshavelaw1_WordDivides.j1 kj9 t281 a3 (wrap64 (32 + (wrap64 (32 * (Go.bits .and .i64 a0 1))))) true) else (none)) else (none))) else (none)) = some r := H
              have A27 := Aside0.mk A270
              clear A270
              by_cases c28 : t287 = t281
              · rw [if_pos c28] at H
                have c28b0 : (t287 == t281) = true := beq_iff_eq.mpr c28
                have c28b1 : (t287 != t281) = false := bne_eq_false_iff_eq.mpr c28
                clear c28
                (first | rw [c28b0] | (simp only [i64_w, i32_w]; rw [c28b0]) | skip)
                replace H : (if t285 = 0 then (spokeshavelaw1_WordDivides.j1 kj9 t281 a3 (wrap64 (32 + (wrap64 (32 * (Go.bits .and .i64 a0 1))))) true) else (if ((decide (t285 < 0)) != (decide (t281 < 0))) = true then (none) else (spokeshavelaw1_WordDivides.j1 kj9 t281 a3 (wrap64 (32 + (wrap64 (32 * (Go.bits .and .i64 a0 1))))) true))) = some r := by rw [if_pos rfl] at H; exact H
                by_cases c29 : t285 = 0
                · rw [if_pos c29] at H
                  have c29b0 : (t285 == 0) = true := beq_iff_eq.mpr c29
                  have c29b1 : (t285 != 0) = false := bne_eq_false_iff_eq.mpr c29
                  clear c29
                  have H' := Aside0.mk H
                  clear H
                  have hcz30_0 : wc.cell? ⟨gb280, 0, none⟩ = some (.int .i64 (wrap64 (32 + (wrap64 (32 * (Go.bits .and .i64 a0 1)))))) := (blk_cell BK280.out 0).trans rfl
                  have hcz30_1 : wc.cell? ⟨gb280, 1, none⟩ = some (.bool true) := (blk_cell BK280.out 1).trans rfl
                  have hfz30_0 := blk_frozen BK280.out 0
                  have hfz30_1 := blk_frozen BK280.out 1
                  go_wp2_with (first | ((with_reducible refine gate_callee (f := 13) rfl ?_); refine goesL_ (some 66) rfl rfl Tryd.func13 (by kernel_rfl) rfl #[.agg #[.int .i64 (wrap64 (32 + (wrap64 (32 * (Go.bits .and .i64 a0 1))))), .bool true], .int .i64 (wrap64 ((wrap64 (t283 * t282)) + t285))] rfl (by (try simp only [List.map_toArray, List.map_cons, List.map_nil]); first | done | rfl | (simp only [List.length_drop, List.length_take]; rfl)) ?_; (with_reducible refine (word_Wrap.calls (wrap64 (32 + (wrap64 (32 * (Go.bits .and .i64 a0 1))))) true (wrap64 ((wrap64 (t283 * t282)) + t285)) t287 _ A26.out).mono ?_); rintro e w31 ⟨rfl, hb⟩; refine ⟨_, rfl, ?_⟩; have n0_ := Aside0.mk (blk_below (g := gb280) (o := .cells #[.int .i64 (wrap64 (32 + (wrap64 (32 * (Go.bits .and .i64 a0 1))))), .bool true] 26 (0, 0)) (by (with_reducible repeat (first | refine blk_drewN ?_ _ | refine blk_drew ?_ | refine blk_alloc ?_ _)); exact BK280.out) hb); have n1_ := Aside0.mk (below_step (by repeat (first | (with_reducible first | exact HB.out | apply below_alloc | apply pw_below_drewN | apply below_drew1 | refine below_set ?_ GE280.out) | exact HB.out)) hb); clear BK280; clear HB; have BK280 := n0_; have HB := n1_; clear n0_ n1_; (try clear hb); (try clear hb2); (try clear hk); (try clear hi); have hcz32_0 : w31.cell? ⟨gb280, 0, none⟩ = some (.int .i64 (wrap64 (32 + (wrap64 (32 * (Go.bits .and .i64 a0 1)))))) := (blk_cell BK280.out 0).trans rfl; have hcz32_1 : w31.cell? ⟨gb280, 1, none⟩ = some (.bool true) := (blk_cell BK280.out 1).trans rfl; have hfz32_0 := blk_frozen BK280.out 0; have hfz32_1 := blk_frozen BK280.out 1) | ((with_reducible refine gate_callee (f := 14) rfl ?_); refine goesL_ (some 71) rfl rfl Tryd.func14 (by kernel_rfl) rfl #[.agg #[.int .i64 (wrap64 (32 + (wrap64 (32 * (Go.bits .and .i64 a0 1))))), .bool true], .int .i64 16, .int .i64 t285, .int .i64 t282] rfl (by (try simp only [List.map_toArray, List.map_cons, List.map_nil]); first | done | rfl | (simp only [List.length_drop, List.length_take]; rfl)) ?_; (with_reducible refine (word_Binary.calls kj9 (wrap64 (32 + (wrap64 (32 * (Go.bits .and .i64 a0 1))))) true 16 t285 t282 t288 t289 _ A27.out).mono ?_); rintro e w33 ⟨rfl, hb⟩; refine ⟨_, rfl, ?_⟩; have n0_ := Aside0.mk (blk_below (g := gb280) (o := .cells #[.int .i64 (wrap64 (32 + (wrap64 (32 * (Go.bits .and .i64 a0 1))))), .bool true] 26 (0, 0)) (by (with_reducible repeat (first | refine blk_drewN ?_ _ | refine blk_drew ?_ | refine blk_alloc ?_ _)); exact BK280.out) hb); have n1_ := Aside0.mk (below_step (by repeat (first | (with_reducible first | exact HB.out | apply below_alloc | apply pw_below_drewN | apply below_drew1 | refine below_set ?_ GE280.out) | exact HB.out)) hb); clear BK280; clear HB; have BK280 := n0_; have HB := n1_; clear n0_ n1_; (try clear hb); (try clear hb2); (try clear hk); (try clear hi); have hcz34_0 : w33.cell? ⟨gb280, 0, none⟩ = some (.int .i64 (wrap64 (32 + (wrap64 (32 * (Go.bits .and .i64 a0 1)))))) := (blk_cell BK280.out 0).trans rfl; have hcz34_1 : w33.cell? ⟨gb280, 1, none⟩ = some (.bool true) := (blk_cell BK280.out 1).trans rfl; have hfz34_0 := blk_frozen BK280.out 0; have hfz34_1 := blk_frozen BK280.out 1))
                  go_meet
                  case rel => exact ⟨_, H', ⟨by have := HJ9.out; first | omega | exact Nat.le_refl _⟩, ⟨by (with_reducible repeat (first | refine blk_drewN ?_ _ | refine blk_drew ?_ | refine blk_alloc ?_ _)); exact BK280.out⟩, ⟨by repeat (first | (with_reducible first | exact HB.out | apply below_alloc | apply pw_below_drewN | apply below_drew1 | refine below_set ?_ GE280.out) | exact HB.out)⟩⟩
                · rw [if_neg c29] at H
                  have c29b0 : (t285 == 0) = false := beq_eq_false_iff_ne.mpr c29
                  have c29b1 : (t285 != 0) = true := bne_iff_ne.mpr c29
                  by_cases c35 : ((decide (t285 < 0)) != (decide (t281 < 0))) = true
                  · rw [if_pos c35] at H
                    exact absurd H (by simp)
                  · rw [if_neg c35] at H
                    have c35b0 : ((decide (t285 < 0)) != (decide (t281 < 0))) = false := by first | exact c35 | exact absurd c35 (by decide) | decide | (simp; done) | simpa using c35
                    (try (have c35b1 : decide ((decide (t285 < 0)) = (decide (t281 < 0))) = true := by first | exact c35 | exact absurd c35 (by decide) | decide | (simp; done) | simpa using c35))
                    (try (have c35b2 : ((decide (t285 < 0)) == (decide (t281 < 0))) = true := by first | exact c35 | exact absurd c35 (by decide) | decide | (simp; done) | simpa using c35))
                    clear c35
                    have H' := Aside0.mk H
                    clear H
                    have hcz36_0 : wc.cell? ⟨gb280, 0, none⟩ = some (.int .i64 (wrap64 (32 + (wrap64 (32 * (Go.bits .and .i64 a0 1)))))) := (blk_cell BK280.out 0).trans rfl
                    have hcz36_1 : wc.cell? ⟨gb280, 1, none⟩ = some (.bool true) := (blk_cell BK280.out 1).trans rfl
                    have hfz36_0 := blk_frozen BK280.out 0
                    have hfz36_1 := blk_frozen BK280.out 1
                    go_wp2_with (first | ((with_reducible refine gate_callee (f := 13) rfl ?_); refine goesL_ (some 66) rfl rfl Tryd.func13 (by kernel_rfl) rfl #[.agg #[.int .i64 (wrap64 (32 + (wrap64 (32 * (Go.bits .and .i64 a0 1))))), .bool true], .int .i64 (wrap64 ((wrap64 (t283 * t282)) + t285))] rfl (by (try simp only [List.map_toArray, List.map_cons, List.map_nil]); first | done | rfl | (simp only [List.length_drop, List.length_take]; rfl)) ?_; (with_reducible refine (word_Wrap.calls (wrap64 (32 + (wrap64 (32 * (Go.bits .and .i64 a0 1))))) true (wrap64 ((wrap64 (t283 * t282)) + t285)) t287 _ A26.out).mono ?_); rintro e w37 ⟨rfl, hb⟩; refine ⟨_, rfl, ?_⟩; have n0_ := Aside0.mk (blk_below (g := gb280) (o := .cells #[.int .i64 (wrap64 (32 + (wrap64 (32 * (Go.bits .and .i64 a0 1))))), .bool true] 26 (0, 0)) (by (with_reducible repeat (first | refine blk_drewN ?_ _ | refine blk_drew ?_ | refine blk_alloc ?_ _)); exact BK280.out) hb); have n1_ := Aside0.mk (below_step (by repeat (first | (with_reducible first | exact HB.out | apply below_alloc | apply pw_below_drewN | apply below_drew1 | refine below_set ?_ GE280.out) | exact HB.out)) hb); clear BK280; clear HB; have BK280 := n0_; have HB := n1_; clear n0_ n1_; (try clear hb); (try clear hb2); (try clear hk); (try clear hi); have hcz38_0 : w37.cell? ⟨gb280, 0, none⟩ = some (.int .i64 (wrap64 (32 + (wrap64 (32 * (Go.bits .and .i64 a0 1)))))) := (blk_cell BK280.out 0).trans rfl; have hcz38_1 : w37.cell? ⟨gb280, 1, none⟩ = some (.bool true) := (blk_cell BK280.out 1).trans rfl; have hfz38_0 := blk_frozen BK280.out 0; have hfz38_1 := blk_frozen BK280.out 1) | ((with_reducible refine gate_callee (f := 14) rfl ?_); refine goesL_ (some 71) rfl rfl Tryd.func14 (by kernel_rfl) rfl #[.agg #[.int .i64 (wrap64 (32 + (wrap64 (32 * (Go.bits .and .i64 a0 1))))), .bool true], .int .i64 16, .int .i64 t285, .int .i64 t282] rfl (by (try simp only [List.map_toArray, List.map_cons, List.map_nil]); first | done | rfl | (simp only [List.length_drop, List.length_take]; rfl)) ?_; (with_reducible refine (word_Binary.calls kj9 (wrap64 (32 + (wrap64 (32 * (Go.bits .and .i64 a0 1))))) true 16 t285 t282 t288 t289 _ A27.out).mono ?_); rintro e w39 ⟨rfl, hb⟩; refine ⟨_, rfl, ?_⟩; have n0_ := Aside0.mk (blk_below (g := gb280) (o := .cells #[.int .i64 (wrap64 (32 + (wrap64 (32 * (Go.bits .and .i64 a0 1))))), .bool true] 26 (0, 0)) (by (with_reducible repeat (first | refine blk_drewN ?_ _ | refine blk_drew ?_ | refine blk_alloc ?_ _)); exact BK280.out) hb); have n1_ := Aside0.mk (below_step (by repeat (first | (with_reducible first | exact HB.out | apply below_alloc | apply pw_below_drewN | apply below_drew1 | refine below_set ?_ GE280.out) | exact HB.out)) hb); clear BK280; clear HB; have BK280 := n0_; have HB := n1_; clear n0_ n1_; (try clear hb); (try clear hb2); (try clear hk); (try clear hi); have hcz40_0 : w39.cell? ⟨gb280, 0, none⟩ = some (.int .i64 (wrap64 (32 + (wrap64 (32 * (Go.bits .and .i64 a0 1)))))) := (blk_cell BK280.out 0).trans rfl; have hcz40_1 : w39.cell? ⟨gb280, 1, none⟩ = some (.bool true) := (blk_cell BK280.out 1).trans rfl; have hfz40_0 := blk_frozen BK280.out 0; have hfz40_1 := blk_frozen BK280.out 1))
                    go_meet
                    case rel => exact ⟨_, H', ⟨by have := HJ9.out; first | omega | exact Nat.le_refl _⟩, ⟨by (with_reducible repeat (first | refine blk_drewN ?_ _ | refine blk_drew ?_ | refine blk_alloc ?_ _)); exact BK280.out⟩, ⟨by repeat (first | (with_reducible first | exact HB.out | apply below_alloc | apply pw_below_drewN | apply below_drew1 | refine below_set ?_ GE280.out) | exact HB.out)⟩⟩
              · rw [if_neg c28] at H
                exact absurd H (by simp)
            · replace c25 := Bool.eq_false_iff.mpr c25
              subst c25
              have H1 : (spokeshavelaw1_WordDivides.j1 kj9 t281 a3 (wrap64 (32 + (wrap64 (32 * (Go.bits .and .i64 a0 1))))) true) = some r := by rw [if_neg (show ¬ (false = true) by decide)] at H; exact H
              clear H
              have H := H1
              clear H1
              have H' := Aside0.mk H
              clear H
              go_wp2
              go_meet
              case rel => exact ⟨_, H', ⟨by have := HJ9.out; first | omega | exact Nat.le_refl _⟩, ⟨by (with_reducible repeat (first | refine blk_drewN ?_ _ | refine blk_drew ?_ | refine blk_alloc ?_ _)); exact BK280.out⟩, ⟨by repeat (first | (with_reducible first | exact HB.out | apply below_alloc | apply pw_below_drewN | apply below_drew1 | refine below_set ?_ GE280.out) | exact HB.out)⟩⟩
          case rest =>
            clear HC24
            try clear c1
            try clear c2
            try clear p2
            try clear c3
            try clear c5
            try clear c5b0
            try clear c5b1
            try clear c6
            try clear p6
            try clear c13
            try clear c14
            try clear c21
            try clear c21b0
            try clear c21b1
            try clear c21b2
            try clear c22
            try clear c23
            try clear c25
            try clear c28
            try clear c28b0
            try clear c28b1
            try clear c29
            try clear c29b0
            try clear c29b1
            try clear c35
            try clear c35b0
            try clear c35b1
            try clear c35b2
            try clear hcz12_0
            try clear hcz12_1
            try clear hcz17_0
            try clear hcz17_1
            try clear hcz19_0
            try clear hcz19_1
            try clear hcz30_0
            try clear hcz30_1
            try clear hcz32_0
            try clear hcz32_1
            try clear hcz34_0
            try clear hcz34_1
            try clear hcz36_0
            try clear hcz36_1
            try clear hcz38_0
            try clear hcz38_1
            try clear hcz40_0
            try clear hcz40_1
            try clear hfz12_0
            try clear hfz12_1
            try clear hfz17_0
            try clear hfz17_1
            try clear hfz19_0
            try clear hfz19_1
            try clear hfz30_0
            try clear hfz30_1
            try clear hfz32_0
            try clear hfz32_1
            try clear hfz34_0
            try clear hfz34_1
            try clear hfz36_0
            try clear hfz36_1
            try clear hfz38_0
            try clear hfz38_1
            try clear hfz40_0
            try clear hfz40_1
            try clear p2
            try clear p6
            obtain ⟨kq, HA, HJ23, BK280, HB⟩ := hcut
            cases kq with
            | zero => exact absurd HA.out (by simp [spokeshavelaw1_WordDivides.j1])
            | succ kj23 =>
              have H := HA.out
              clear HA
              simp only [spokeshavelaw1_WordDivides.j1] at H
              replace H := Option.bind_eq_some_iff.mp H
              obtain ⟨t290, A410, H⟩ := H
              replace H : ((word_Binary.f kj23 (wrap64 (32 + (wrap64 (32 * (Go.bits .and .i64 a0 1))))) true 11 t281 t290).bind fun bt291 => ((word_Binary.f kj23 (wrap64 (32 + (wrap64 (32 * (Go.bits .and .i64 a0 1))))) true 12 bt291.1 t290).bind fun bt293 => (if bt291.2 = true then (if bt293.2 = true then (if true = true then (if bt293.1 = t281 then ((spokeshavelaw1_awake.f kj23).bind fun t295 => (some t295)) else (none)) else ((spokeshavelaw1_awake.f kj23).bind fun t296 => (some t296))) else (if true = true then ((spokeshavelaw1_awake.f kj23).bind fun t297 => (some t297)) else ((spokeshavelaw1_awake.f kj23).bind fun t298 => (some t298)))) else (if true = true then (if t281 < 0 then ((spokeshavelaw1_awake.f kj23).bind fun t299 => (some t299)) else (if t290 > 0 then ((spokeshavelaw1_awake.f kj23).bind fun t300 => (some t300)) else (none))) else ((spokeshavelaw1_awake.f kj23).bind fun t301 => (some t301)))))) = some r := H
              have A41 := Aside0.mk A410
              clear A410
              replace H := Option.bind_eq_some_iff.mp H
              obtain ⟨⟨t291, t292⟩, A420, H⟩ := H
              replace H : ((word_Binary.f kj23 (wrap64 (32 + (wrap64 (32 * (Go.bits .and .i64 a0 1))))) true 12 t291 t290).bind fun bt293 => (if t292 = true then (if bt293.2 = true then (if true = true then (if bt293.1 = t281 then ((spokeshavelaw1_awake.f kj23).bind fun t295 => (some t295)) else (none)) else ((spokeshavelaw1_awake.f kj23).bind fun t296 => (some t296))) else (if true = true then ((spokeshavelaw1_awake.f kj23).bind fun t297 => (some t297)) else ((spokeshavelaw1_awake.f kj23).bind fun t298 => (some t298)))) else (if true = true then (if t281 < 0 then ((spokeshavelaw1_awake.f kj23).bind fun t299 => (some t299)) else (if t290 > 0 then ((spokeshavelaw1_awake.f kj23).bind fun t300 => (some t300)) else (none))) else ((spokeshavelaw1_awake.f kj23).bind fun t301 => (some t301))))) = some r := H
              have A42 := Aside0.mk A420
              clear A420
              replace H := Option.bind_eq_some_iff.mp H
              obtain ⟨⟨t293, t294⟩, A430, H⟩ := H
              replace H : (if t292 = true then (if t294 = true then (if true = true then (if t293 = t281 then ((spokeshavelaw1_awake.f kj23).bind fun t295 => (some t295)) else (none)) else ((spokeshavelaw1_awake.f kj23).bind fun t296 => (some t296))) else (if true = true then ((spokeshavelaw1_awake.f kj23).bind fun t297 => (some t297)) else ((spokeshavelaw1_awake.f kj23).bind fun t298 => (some t298)))) else (if true = true then (if t281 < 0 then ((spokeshavelaw1_awake.f kj23).bind fun t299 => (some t299)) else (if t290 > 0 then ((spokeshavelaw1_awake.f kj23).bind fun t300 => (some t300)) else (none))) else ((spokeshavelaw1_awake.f kj23).bind fun t301 => (some t301)))) = some r := H
              have A43 := Aside0.mk A430
              clear A430
              by_cases c44 : t292 = true
              · subst c44
                have H1 : (if t294 = true then (if true = true then (if t293 = t281 then ((spokeshavelaw1_awake.f kj23).bind fun t295 => (some t295)) else (none)) else ((spokeshavelaw1_awake.f kj23).bind fun t296 => (some t296))) else (if true = true then ((spokeshavelaw1_awake.f kj23).bind fun t297 => (some t297)) else ((spokeshavelaw1_awake.f kj23).bind fun t298 => (some t298)))) = some r := by rw [if_pos rfl] at H; exact H
                clear H
                have H := H1
                clear H1
                by_cases c45 : t294 = true
                · subst c45
                  have H1 : (if true = true then (if t293 = t281 then ((spokeshavelaw1_awake.f kj23).bind fun t295 => (some t295)) else (none)) else ((spokeshavelaw1_awake.f kj23).bind fun t296 => (some t296))) = some r := by rw [if_pos rfl] at H; exact H
                  clear H
                  have H := H1
                  clear H1
                  replace H : (if t293 = t281 then ((spokeshavelaw1_awake.f kj23).bind fun t295 => (some t295)) else (none)) = some r := by rw [if_pos rfl] at H; exact H
                  by_cases c46 : t293 = t281
                  · rw [if_pos c46] at H
                    have c46b0 : (t293 == t281) = true := beq_iff_eq.mpr c46
                    have c46b1 : (t293 != t281) = false := bne_eq_false_iff_eq.mpr c46
                    clear c46
                    replace H := Option.bind_eq_some_iff.mp H
                    obtain ⟨t295, A470, H⟩ := H
                    replace H : (some t295) = some r := H
                    have A47 := Aside0.mk A470
                    clear A470
                    obtain rfl := Option.some.inj H
                    have hcz48_0 : wc.cell? ⟨gb280, 0, none⟩ = some (.int .i64 (wrap64 (32 + (wrap64 (32 * (Go.bits .and .i64 a0 1)))))) := (blk_cell BK280.out 0).trans rfl
                    have hcz48_1 : wc.cell? ⟨gb280, 1, none⟩ = some (.bool true) := (blk_cell BK280.out 1).trans rfl
                    have hfz48_0 := blk_frozen BK280.out 0
                    have hfz48_1 := blk_frozen BK280.out 1
                    go_wp2_with (first | ((with_reducible refine gate_callee (f := 17) rfl ?_); refine goesL_ (some 108) rfl rfl Tryd.func17 (by kernel_rfl) rfl #[.int .i64 a3, .int .i64 (wrap64 (32 + (wrap64 (32 * (Go.bits .and .i64 a0 1)))))] rfl (by (try simp only [List.map_toArray, List.map_cons, List.map_nil]); first | done | rfl | (simp only [List.length_drop, List.length_take]; rfl)) ?_; (with_reducible refine (spokeshavelaw0_Low.calls a3 (wrap64 (32 + (wrap64 (32 * (Go.bits .and .i64 a0 1))))) t290 _ A41.out).mono ?_); rintro e w' ⟨rfl, ⟨nd, rfl⟩⟩; refine ⟨_, rfl, ?_⟩) | ((with_reducible refine gate_callee (f := 14) rfl ?_); refine goesL_ (some 113) rfl rfl Tryd.func14 (by kernel_rfl) rfl #[.agg #[.int .i64 (wrap64 (32 + (wrap64 (32 * (Go.bits .and .i64 a0 1))))), .bool true], .int .i64 11, .int .i64 t281, .int .i64 t290] rfl (by (try simp only [List.map_toArray, List.map_cons, List.map_nil]); first | done | rfl | (simp only [List.length_drop, List.length_take]; rfl)) ?_; (with_reducible refine (word_Binary.calls kj23 (wrap64 (32 + (wrap64 (32 * (Go.bits .and .i64 a0 1))))) true 11 t281 t290 t291 true _ A42.out).mono ?_); rintro e w49 ⟨rfl, hb⟩; refine ⟨_, rfl, ?_⟩; have n0_ := Aside0.mk (blk_below (g := gb280) (o := .cells #[.int .i64 (wrap64 (32 + (wrap64 (32 * (Go.bits .and .i64 a0 1))))), .bool true] 26 (0, 0)) (by (with_reducible repeat (first | refine blk_drewN ?_ _ | refine blk_drew ?_ | refine blk_alloc ?_ _)); exact BK280.out) hb); have n1_ := Aside0.mk (below_step (by repeat (first | (with_reducible first | exact HB.out | apply below_alloc | apply pw_below_drewN | apply below_drew1 | refine below_set ?_ GE280.out) | exact HB.out)) hb); clear BK280; clear HB; have BK280 := n0_; have HB := n1_; clear n0_ n1_; (try clear hb); (try clear hb2); (try clear hk); (try clear hi); have hcz50_0 : w49.cell? ⟨gb280, 0, none⟩ = some (.int .i64 (wrap64 (32 + (wrap64 (32 * (Go.bits .and .i64 a0 1)))))) := (blk_cell BK280.out 0).trans rfl; have hcz50_1 : w49.cell? ⟨gb280, 1, none⟩ = some (.bool true) := (blk_cell BK280.out 1).trans rfl; have hfz50_0 := blk_frozen BK280.out 0; have hfz50_1 := blk_frozen BK280.out 1) | ((with_reducible refine gate_callee (f := 14) rfl ?_); refine goesL_ (some 120) rfl rfl Tryd.func14 (by kernel_rfl) rfl #[.agg #[.int .i64 (wrap64 (32 + (wrap64 (32 * (Go.bits .and .i64 a0 1))))), .bool true], .int .i64 12, .int .i64 t291, .int .i64 t290] rfl (by (try simp only [List.map_toArray, List.map_cons, List.map_nil]); first | done | rfl | (simp only [List.length_drop, List.length_take]; rfl)) ?_; (with_reducible refine (word_Binary.calls kj23 (wrap64 (32 + (wrap64 (32 * (Go.bits .and .i64 a0 1))))) true 12 t291 t290 t293 true _ A43.out).mono ?_); rintro e w51 ⟨rfl, hb⟩; refine ⟨_, rfl, ?_⟩; have n0_ := Aside0.mk (blk_below (g := gb280) (o := .cells #[.int .i64 (wrap64 (32 + (wrap64 (32 * (Go.bits .and .i64 a0 1))))), .bool true] 26 (0, 0)) (by (with_reducible repeat (first | refine blk_drewN ?_ _ | refine blk_drew ?_ | refine blk_alloc ?_ _)); exact BK280.out) hb); have n1_ := Aside0.mk (below_step (by repeat (first | (with_reducible first | exact HB.out | apply below_alloc | apply pw_below_drewN | apply below_drew1 | refine below_set ?_ GE280.out) | exact HB.out)) hb); clear BK280; clear HB; have BK280 := n0_; have HB := n1_; clear n0_ n1_; (try clear hb); (try clear hb2); (try clear hk); (try clear hi); have hcz52_0 : w51.cell? ⟨gb280, 0, none⟩ = some (.int .i64 (wrap64 (32 + (wrap64 (32 * (Go.bits .and .i64 a0 1)))))) := (blk_cell BK280.out 0).trans rfl; have hcz52_1 : w51.cell? ⟨gb280, 1, none⟩ = some (.bool true) := (blk_cell BK280.out 1).trans rfl; have hfz52_0 := blk_frozen BK280.out 0; have hfz52_1 := blk_frozen BK280.out 1) | (go_at_call 16; (with_reducible refine (spokeshavelaw1_awake.calls kj23  t295 _ A47.out).mono ?_); rintro e w53 ⟨rfl, hb⟩; have n0_ := Aside0.mk (blk_below (g := gb280) (o := .cells #[.int .i64 (wrap64 (32 + (wrap64 (32 * (Go.bits .and .i64 a0 1))))), .bool true] 26 (0, 0)) (by (with_reducible repeat (first | refine blk_drewN ?_ _ | refine blk_drew ?_ | refine blk_alloc ?_ _)); exact BK280.out) hb); have n1_ := Aside0.mk (below_step (by repeat (first | (with_reducible first | exact HB.out | apply below_alloc | apply pw_below_drewN | apply below_drew1 | refine below_set ?_ GE280.out) | exact HB.out)) hb); clear BK280; clear HB; have BK280 := n0_; have HB := n1_; clear n0_ n1_; (try clear hb); (try clear hb2); (try clear hk); (try clear hi)))
                    go_ret
                    exact ⟨by first | rfl | (simp [errW_none, errW_some] <;> rfl) | (simp [*, errW_none, errW_some] <;> rfl), by repeat (first | (with_reducible first | exact HB.out | apply below_alloc | apply pw_below_drewN | apply below_drew1 | refine below_set ?_ GE280.out) | exact HB.out)⟩
                  · rw [if_neg c46] at H
                    exact absurd H (by simp)
                · replace c45 := Bool.eq_false_iff.mpr c45
                  subst c45
                  have H1 : (if true = true then ((spokeshavelaw1_awake.f kj23).bind fun t297 => (some t297)) else ((spokeshavelaw1_awake.f kj23).bind fun t298 => (some t298))) = some r := by rw [if_neg (show ¬ (false = true) by decide)] at H; exact H
                  clear H
                  have H := H1
                  clear H1
                  replace H : ((spokeshavelaw1_awake.f kj23).bind fun t297 => (some t297)) = some r := by rw [if_pos rfl] at H; exact H
                  replace H := Option.bind_eq_some_iff.mp H
                  obtain ⟨t297, A540, H⟩ := H
                  replace H : (some t297) = some r := H
                  have A54 := Aside0.mk A540
                  clear A540
                  obtain rfl := Option.some.inj H
                  have hcz55_0 : wc.cell? ⟨gb280, 0, none⟩ = some (.int .i64 (wrap64 (32 + (wrap64 (32 * (Go.bits .and .i64 a0 1)))))) := (blk_cell BK280.out 0).trans rfl
                  have hcz55_1 : wc.cell? ⟨gb280, 1, none⟩ = some (.bool true) := (blk_cell BK280.out 1).trans rfl
                  have hfz55_0 := blk_frozen BK280.out 0
                  have hfz55_1 := blk_frozen BK280.out 1
                  go_wp2_with (first | ((with_reducible refine gate_callee (f := 17) rfl ?_); refine goesL_ (some 108) rfl rfl Tryd.func17 (by kernel_rfl) rfl #[.int .i64 a3, .int .i64 (wrap64 (32 + (wrap64 (32 * (Go.bits .and .i64 a0 1)))))] rfl (by (try simp only [List.map_toArray, List.map_cons, List.map_nil]); first | done | rfl | (simp only [List.length_drop, List.length_take]; rfl)) ?_; (with_reducible refine (spokeshavelaw0_Low.calls a3 (wrap64 (32 + (wrap64 (32 * (Go.bits .and .i64 a0 1))))) t290 _ A41.out).mono ?_); rintro e w' ⟨rfl, ⟨nd, rfl⟩⟩; refine ⟨_, rfl, ?_⟩) | ((with_reducible refine gate_callee (f := 14) rfl ?_); refine goesL_ (some 113) rfl rfl Tryd.func14 (by kernel_rfl) rfl #[.agg #[.int .i64 (wrap64 (32 + (wrap64 (32 * (Go.bits .and .i64 a0 1))))), .bool true], .int .i64 11, .int .i64 t281, .int .i64 t290] rfl (by (try simp only [List.map_toArray, List.map_cons, List.map_nil]); first | done | rfl | (simp only [List.length_drop, List.length_take]; rfl)) ?_; (with_reducible refine (word_Binary.calls kj23 (wrap64 (32 + (wrap64 (32 * (Go.bits .and .i64 a0 1))))) true 11 t281 t290 t291 true _ A42.out).mono ?_); rintro e w56 ⟨rfl, hb⟩; refine ⟨_, rfl, ?_⟩; have n0_ := Aside0.mk (blk_below (g := gb280) (o := .cells #[.int .i64 (wrap64 (32 + (wrap64 (32 * (Go.bits .and .i64 a0 1))))), .bool true] 26 (0, 0)) (by (with_reducible repeat (first | refine blk_drewN ?_ _ | refine blk_drew ?_ | refine blk_alloc ?_ _)); exact BK280.out) hb); have n1_ := Aside0.mk (below_step (by repeat (first | (with_reducible first | exact HB.out | apply below_alloc | apply pw_below_drewN | apply below_drew1 | refine below_set ?_ GE280.out) | exact HB.out)) hb); clear BK280; clear HB; have BK280 := n0_; have HB := n1_; clear n0_ n1_; (try clear hb); (try clear hb2); (try clear hk); (try clear hi); have hcz57_0 : w56.cell? ⟨gb280, 0, none⟩ = some (.int .i64 (wrap64 (32 + (wrap64 (32 * (Go.bits .and .i64 a0 1)))))) := (blk_cell BK280.out 0).trans rfl; have hcz57_1 : w56.cell? ⟨gb280, 1, none⟩ = some (.bool true) := (blk_cell BK280.out 1).trans rfl; have hfz57_0 := blk_frozen BK280.out 0; have hfz57_1 := blk_frozen BK280.out 1) | ((with_reducible refine gate_callee (f := 14) rfl ?_); refine goesL_ (some 120) rfl rfl Tryd.func14 (by kernel_rfl) rfl #[.agg #[.int .i64 (wrap64 (32 + (wrap64 (32 * (Go.bits .and .i64 a0 1))))), .bool true], .int .i64 12, .int .i64 t291, .int .i64 t290] rfl (by (try simp only [List.map_toArray, List.map_cons, List.map_nil]); first | done | rfl | (simp only [List.length_drop, List.length_take]; rfl)) ?_; (with_reducible refine (word_Binary.calls kj23 (wrap64 (32 + (wrap64 (32 * (Go.bits .and .i64 a0 1))))) true 12 t291 t290 t293 false _ A43.out).mono ?_); rintro e w58 ⟨rfl, hb⟩; refine ⟨_, rfl, ?_⟩; have n0_ := Aside0.mk (blk_below (g := gb280) (o := .cells #[.int .i64 (wrap64 (32 + (wrap64 (32 * (Go.bits .and .i64 a0 1))))), .bool true] 26 (0, 0)) (by (with_reducible repeat (first | refine blk_drewN ?_ _ | refine blk_drew ?_ | refine blk_alloc ?_ _)); exact BK280.out) hb); have n1_ := Aside0.mk (below_step (by repeat (first | (with_reducible first | exact HB.out | apply below_alloc | apply pw_below_drewN | apply below_drew1 | refine below_set ?_ GE280.out) | exact HB.out)) hb); clear BK280; clear HB; have BK280 := n0_; have HB := n1_; clear n0_ n1_; (try clear hb); (try clear hb2); (try clear hk); (try clear hi); have hcz59_0 : w58.cell? ⟨gb280, 0, none⟩ = some (.int .i64 (wrap64 (32 + (wrap64 (32 * (Go.bits .and .i64 a0 1)))))) := (blk_cell BK280.out 0).trans rfl; have hcz59_1 : w58.cell? ⟨gb280, 1, none⟩ = some (.bool true) := (blk_cell BK280.out 1).trans rfl; have hfz59_0 := blk_frozen BK280.out 0; have hfz59_1 := blk_frozen BK280.out 1) | (go_at_call 16; (with_reducible refine (spokeshavelaw1_awake.calls kj23  t297 _ A54.out).mono ?_); rintro e w60 ⟨rfl, hb⟩; have n0_ := Aside0.mk (blk_below (g := gb280) (o := .cells #[.int .i64 (wrap64 (32 + (wrap64 (32 * (Go.bits .and .i64 a0 1))))), .bool true] 26 (0, 0)) (by (with_reducible repeat (first | refine blk_drewN ?_ _ | refine blk_drew ?_ | refine blk_alloc ?_ _)); exact BK280.out) hb); have n1_ := Aside0.mk (below_step (by repeat (first | (with_reducible first | exact HB.out | apply below_alloc | apply pw_below_drewN | apply below_drew1 | refine below_set ?_ GE280.out) | exact HB.out)) hb); clear BK280; clear HB; have BK280 := n0_; have HB := n1_; clear n0_ n1_; (try clear hb); (try clear hb2); (try clear hk); (try clear hi)))
                  go_ret
                  exact ⟨by first | rfl | (simp [errW_none, errW_some] <;> rfl) | (simp [*, errW_none, errW_some] <;> rfl), by repeat (first | (with_reducible first | exact HB.out | apply below_alloc | apply pw_below_drewN | apply below_drew1 | refine below_set ?_ GE280.out) | exact HB.out)⟩
              · replace c44 := Bool.eq_false_iff.mpr c44
                subst c44
                have H1 : (if true = true then (if t281 < 0 then ((spokeshavelaw1_awake.f kj23).bind fun t299 => (some t299)) else (if t290 > 0 then ((spokeshavelaw1_awake.f kj23).bind fun t300 => (some t300)) else (none))) else ((spokeshavelaw1_awake.f kj23).bind fun t301 => (some t301))) = some r := by rw [if_neg (show ¬ (false = true) by decide)] at H; exact H
                clear H
                have H := H1
                clear H1
                replace H : (if t281 < 0 then ((spokeshavelaw1_awake.f kj23).bind fun t299 => (some t299)) else (if t290 > 0 then ((spokeshavelaw1_awake.f kj23).bind fun t300 => (some t300)) else (none))) = some r := by rw [if_pos rfl] at H; exact H
                by_cases c61 : t281 < 0
                · rw [if_pos c61] at H
                  have c61b0 : decide (t281 < 0) = true := decide_eq_true c61
                  clear c61
                  replace H := Option.bind_eq_some_iff.mp H
                  obtain ⟨t299, A620, H⟩ := H
                  replace H : (some t299) = some r := H
                  have A62 := Aside0.mk A620
                  clear A620
                  obtain rfl := Option.some.inj H
                  have hcz63_0 : wc.cell? ⟨gb280, 0, none⟩ = some (.int .i64 (wrap64 (32 + (wrap64 (32 * (Go.bits .and .i64 a0 1)))))) := (blk_cell BK280.out 0).trans rfl
                  have hcz63_1 : wc.cell? ⟨gb280, 1, none⟩ = some (.bool true) := (blk_cell BK280.out 1).trans rfl
                  have hfz63_0 := blk_frozen BK280.out 0
                  have hfz63_1 := blk_frozen BK280.out 1
                  go_wp2_with (first | ((with_reducible refine gate_callee (f := 17) rfl ?_); refine goesL_ (some 108) rfl rfl Tryd.func17 (by kernel_rfl) rfl #[.int .i64 a3, .int .i64 (wrap64 (32 + (wrap64 (32 * (Go.bits .and .i64 a0 1)))))] rfl (by (try simp only [List.map_toArray, List.map_cons, List.map_nil]); first | done | rfl | (simp only [List.length_drop, List.length_take]; rfl)) ?_; (with_reducible refine (spokeshavelaw0_Low.calls a3 (wrap64 (32 + (wrap64 (32 * (Go.bits .and .i64 a0 1))))) t290 _ A41.out).mono ?_); rintro e w' ⟨rfl, ⟨nd, rfl⟩⟩; refine ⟨_, rfl, ?_⟩) | ((with_reducible refine gate_callee (f := 14) rfl ?_); refine goesL_ (some 113) rfl rfl Tryd.func14 (by kernel_rfl) rfl #[.agg #[.int .i64 (wrap64 (32 + (wrap64 (32 * (Go.bits .and .i64 a0 1))))), .bool true], .int .i64 11, .int .i64 t281, .int .i64 t290] rfl (by (try simp only [List.map_toArray, List.map_cons, List.map_nil]); first | done | rfl | (simp only [List.length_drop, List.length_take]; rfl)) ?_; (with_reducible refine (word_Binary.calls kj23 (wrap64 (32 + (wrap64 (32 * (Go.bits .and .i64 a0 1))))) true 11 t281 t290 t291 false _ A42.out).mono ?_); rintro e w64 ⟨rfl, hb⟩; refine ⟨_, rfl, ?_⟩; have n0_ := Aside0.mk (blk_below (g := gb280) (o := .cells #[.int .i64 (wrap64 (32 + (wrap64 (32 * (Go.bits .and .i64 a0 1))))), .bool true] 26 (0, 0)) (by (with_reducible repeat (first | refine blk_drewN ?_ _ | refine blk_drew ?_ | refine blk_alloc ?_ _)); exact BK280.out) hb); have n1_ := Aside0.mk (below_step (by repeat (first | (with_reducible first | exact HB.out | apply below_alloc | apply pw_below_drewN | apply below_drew1 | refine below_set ?_ GE280.out) | exact HB.out)) hb); clear BK280; clear HB; have BK280 := n0_; have HB := n1_; clear n0_ n1_; (try clear hb); (try clear hb2); (try clear hk); (try clear hi); have hcz65_0 : w64.cell? ⟨gb280, 0, none⟩ = some (.int .i64 (wrap64 (32 + (wrap64 (32 * (Go.bits .and .i64 a0 1)))))) := (blk_cell BK280.out 0).trans rfl; have hcz65_1 : w64.cell? ⟨gb280, 1, none⟩ = some (.bool true) := (blk_cell BK280.out 1).trans rfl; have hfz65_0 := blk_frozen BK280.out 0; have hfz65_1 := blk_frozen BK280.out 1) | ((with_reducible refine gate_callee (f := 14) rfl ?_); refine goesL_ (some 120) rfl rfl Tryd.func14 (by kernel_rfl) rfl #[.agg #[.int .i64 (wrap64 (32 + (wrap64 (32 * (Go.bits .and .i64 a0 1))))), .bool true], .int .i64 12, .int .i64 t291, .int .i64 t290] rfl (by (try simp only [List.map_toArray, List.map_cons, List.map_nil]); first | done | rfl | (simp only [List.length_drop, List.length_take]; rfl)) ?_; (with_reducible refine (word_Binary.calls kj23 (wrap64 (32 + (wrap64 (32 * (Go.bits .and .i64 a0 1))))) true 12 t291 t290 t293 t294 _ A43.out).mono ?_); rintro e w66 ⟨rfl, hb⟩; refine ⟨_, rfl, ?_⟩; have n0_ := Aside0.mk (blk_below (g := gb280) (o := .cells #[.int .i64 (wrap64 (32 + (wrap64 (32 * (Go.bits .and .i64 a0 1))))), .bool true] 26 (0, 0)) (by (with_reducible repeat (first | refine blk_drewN ?_ _ | refine blk_drew ?_ | refine blk_alloc ?_ _)); exact BK280.out) hb); have n1_ := Aside0.mk (below_step (by repeat (first | (with_reducible first | exact HB.out | apply below_alloc | apply pw_below_drewN | apply below_drew1 | refine below_set ?_ GE280.out) | exact HB.out)) hb); clear BK280; clear HB; have BK280 := n0_; have HB := n1_; clear n0_ n1_; (try clear hb); (try clear hb2); (try clear hk); (try clear hi); have hcz67_0 : w66.cell? ⟨gb280, 0, none⟩ = some (.int .i64 (wrap64 (32 + (wrap64 (32 * (Go.bits .and .i64 a0 1)))))) := (blk_cell BK280.out 0).trans rfl; have hcz67_1 : w66.cell? ⟨gb280, 1, none⟩ = some (.bool true) := (blk_cell BK280.out 1).trans rfl; have hfz67_0 := blk_frozen BK280.out 0; have hfz67_1 := blk_frozen BK280.out 1) | (go_at_call 16; (with_reducible refine (spokeshavelaw1_awake.calls kj23  t299 _ A62.out).mono ?_); rintro e w68 ⟨rfl, hb⟩; have n0_ := Aside0.mk (blk_below (g := gb280) (o := .cells #[.int .i64 (wrap64 (32 + (wrap64 (32 * (Go.bits .and .i64 a0 1))))), .bool true] 26 (0, 0)) (by (with_reducible repeat (first | refine blk_drewN ?_ _ | refine blk_drew ?_ | refine blk_alloc ?_ _)); exact BK280.out) hb); have n1_ := Aside0.mk (below_step (by repeat (first | (with_reducible first | exact HB.out | apply below_alloc | apply pw_below_drewN | apply below_drew1 | refine below_set ?_ GE280.out) | exact HB.out)) hb); clear BK280; clear HB; have BK280 := n0_; have HB := n1_; clear n0_ n1_; (try clear hb); (try clear hb2); (try clear hk); (try clear hi)))
                  go_ret
                  exact ⟨by first | rfl | (simp [errW_none, errW_some] <;> rfl) | (simp [*, errW_none, errW_some] <;> rfl), by repeat (first | (with_reducible first | exact HB.out | apply below_alloc | apply pw_below_drewN | apply below_drew1 | refine below_set ?_ GE280.out) | exact HB.out)⟩
                · rw [if_neg c61] at H
                  have c61b0 : decide (t281 < 0) = false := decide_eq_false c61
                  clear c61
                  by_cases c69 : t290 > 0
                  · rw [if_pos c69] at H
                    have c69b0 : decide (0 < t290) = true := decide_eq_true c69
                    clear c69
                    replace H := Option.bind_eq_some_iff.mp H
                    obtain ⟨t300, A700, H⟩ := H
                    replace H : (some t300) = some r := H
                    have A70 := Aside0.mk A700
                    clear A700
                    obtain rfl := Option.some.inj H
                    have hcz71_0 : wc.cell? ⟨gb280, 0, none⟩ = some (.int .i64 (wrap64 (32 + (wrap64 (32 * (Go.bits .and .i64 a0 1)))))) := (blk_cell BK280.out 0).trans rfl
                    have hcz71_1 : wc.cell? ⟨gb280, 1, none⟩ = some (.bool true) := (blk_cell BK280.out 1).trans rfl
                    have hfz71_0 := blk_frozen BK280.out 0
                    have hfz71_1 := blk_frozen BK280.out 1
                    go_wp2_with (first | ((with_reducible refine gate_callee (f := 17) rfl ?_); refine goesL_ (some 108) rfl rfl Tryd.func17 (by kernel_rfl) rfl #[.int .i64 a3, .int .i64 (wrap64 (32 + (wrap64 (32 * (Go.bits .and .i64 a0 1)))))] rfl (by (try simp only [List.map_toArray, List.map_cons, List.map_nil]); first | done | rfl | (simp only [List.length_drop, List.length_take]; rfl)) ?_; (with_reducible refine (spokeshavelaw0_Low.calls a3 (wrap64 (32 + (wrap64 (32 * (Go.bits .and .i64 a0 1))))) t290 _ A41.out).mono ?_); rintro e w' ⟨rfl, ⟨nd, rfl⟩⟩; refine ⟨_, rfl, ?_⟩) | ((with_reducible refine gate_callee (f := 14) rfl ?_); refine goesL_ (some 113) rfl rfl Tryd.func14 (by kernel_rfl) rfl #[.agg #[.int .i64 (wrap64 (32 + (wrap64 (32 * (Go.bits .and .i64 a0 1))))), .bool true], .int .i64 11, .int .i64 t281, .int .i64 t290] rfl (by (try simp only [List.map_toArray, List.map_cons, List.map_nil]); first | done | rfl | (simp only [List.length_drop, List.length_take]; rfl)) ?_; (with_reducible refine (word_Binary.calls kj23 (wrap64 (32 + (wrap64 (32 * (Go.bits .and .i64 a0 1))))) true 11 t281 t290 t291 false _ A42.out).mono ?_); rintro e w72 ⟨rfl, hb⟩; refine ⟨_, rfl, ?_⟩; have n0_ := Aside0.mk (blk_below (g := gb280) (o := .cells #[.int .i64 (wrap64 (32 + (wrap64 (32 * (Go.bits .and .i64 a0 1))))), .bool true] 26 (0, 0)) (by (with_reducible repeat (first | refine blk_drewN ?_ _ | refine blk_drew ?_ | refine blk_alloc ?_ _)); exact BK280.out) hb); have n1_ := Aside0.mk (below_step (by repeat (first | (with_reducible first | exact HB.out | apply below_alloc | apply pw_below_drewN | apply below_drew1 | refine below_set ?_ GE280.out) | exact HB.out)) hb); clear BK280; clear HB; have BK280 := n0_; have HB := n1_; clear n0_ n1_; (try clear hb); (try clear hb2); (try clear hk); (try clear hi); have hcz73_0 : w72.cell? ⟨gb280, 0, none⟩ = some (.int .i64 (wrap64 (32 + (wrap64 (32 * (Go.bits .and .i64 a0 1)))))) := (blk_cell BK280.out 0).trans rfl; have hcz73_1 : w72.cell? ⟨gb280, 1, none⟩ = some (.bool true) := (blk_cell BK280.out 1).trans rfl; have hfz73_0 := blk_frozen BK280.out 0; have hfz73_1 := blk_frozen BK280.out 1) | ((with_reducible refine gate_callee (f := 14) rfl ?_); refine goesL_ (some 120) rfl rfl Tryd.func14 (by kernel_rfl) rfl #[.agg #[.int .i64 (wrap64 (32 + (wrap64 (32 * (Go.bits .and .i64 a0 1))))), .bool true], .int .i64 12, .int .i64 t291, .int .i64 t290] rfl (by (try simp only [List.map_toArray, List.map_cons, List.map_nil]); first | done | rfl | (simp only [List.length_drop, List.length_take]; rfl)) ?_; (with_reducible refine (word_Binary.calls kj23 (wrap64 (32 + (wrap64 (32 * (Go.bits .and .i64 a0 1))))) true 12 t291 t290 t293 t294 _ A43.out).mono ?_); rintro e w74 ⟨rfl, hb⟩; refine ⟨_, rfl, ?_⟩; have n0_ := Aside0.mk (blk_below (g := gb280) (o := .cells #[.int .i64 (wrap64 (32 + (wrap64 (32 * (Go.bits .and .i64 a0 1))))), .bool true] 26 (0, 0)) (by (with_reducible repeat (first | refine blk_drewN ?_ _ | refine blk_drew ?_ | refine blk_alloc ?_ _)); exact BK280.out) hb); have n1_ := Aside0.mk (below_step (by repeat (first | (with_reducible first | exact HB.out | apply below_alloc | apply pw_below_drewN | apply below_drew1 | refine below_set ?_ GE280.out) | exact HB.out)) hb); clear BK280; clear HB; have BK280 := n0_; have HB := n1_; clear n0_ n1_; (try clear hb); (try clear hb2); (try clear hk); (try clear hi); have hcz75_0 : w74.cell? ⟨gb280, 0, none⟩ = some (.int .i64 (wrap64 (32 + (wrap64 (32 * (Go.bits .and .i64 a0 1)))))) := (blk_cell BK280.out 0).trans rfl; have hcz75_1 : w74.cell? ⟨gb280, 1, none⟩ = some (.bool true) := (blk_cell BK280.out 1).trans rfl; have hfz75_0 := blk_frozen BK280.out 0; have hfz75_1 := blk_frozen BK280.out 1) | (go_at_call 16; (with_reducible refine (spokeshavelaw1_awake.calls kj23  t300 _ A70.out).mono ?_); rintro e w76 ⟨rfl, hb⟩; have n0_ := Aside0.mk (blk_below (g := gb280) (o := .cells #[.int .i64 (wrap64 (32 + (wrap64 (32 * (Go.bits .and .i64 a0 1))))), .bool true] 26 (0, 0)) (by (with_reducible repeat (first | refine blk_drewN ?_ _ | refine blk_drew ?_ | refine blk_alloc ?_ _)); exact BK280.out) hb); have n1_ := Aside0.mk (below_step (by repeat (first | (with_reducible first | exact HB.out | apply below_alloc | apply pw_below_drewN | apply below_drew1 | refine below_set ?_ GE280.out) | exact HB.out)) hb); clear BK280; clear HB; have BK280 := n0_; have HB := n1_; clear n0_ n1_; (try clear hb); (try clear hb2); (try clear hk); (try clear hi)))
                    go_ret
                    exact ⟨by first | rfl | (simp [errW_none, errW_some] <;> rfl) | (simp [*, errW_none, errW_some] <;> rfl), by repeat (first | (with_reducible first | exact HB.out | apply below_alloc | apply pw_below_drewN | apply below_drew1 | refine below_set ?_ GE280.out) | exact HB.out)⟩
                  · rw [if_neg c69] at H
                    exact absurd H (by simp)
  · rw [if_neg c5] at H
    have c5b0 : ((Go.bits .and .i64 a0 2) == 2) = false := beq_eq_false_iff_ne.mpr c5
    have c5b1 : ((Go.bits .and .i64 a0 2) != 2) = true := bne_iff_ne.mpr c5
    replace H := Option.bind_eq_some_iff.mp H
    obtain ⟨t303, A770, H⟩ := H
    replace H : ((word_Wrap.f (wrap64 (32 + (wrap64 (32 * (Go.bits .and .i64 a0 1))))) false a2).bind fun t304 => ((word_Binary.f k (wrap64 (32 + (wrap64 (32 * (Go.bits .and .i64 a0 1))))) false 4 t303 t304).bind fun bt305 => ((word_Binary.f k (wrap64 (32 + (wrap64 (32 * (Go.bits .and .i64 a0 1))))) false 5 t303 t304).bind fun bt307 => (if (bt305.2 != bt307.2) = true then (spokeshavelaw1_WordDivides.j2 k t303 t304 a3 bt305.1 bt305.2 bt307.1 true (wrap64 (32 + (wrap64 (32 * (Go.bits .and .i64 a0 1))))) false) else (if bt305.2 = true then (spokeshavelaw1_WordDivides.j2 k t303 t304 a3 bt305.1 bt305.2 bt307.1 (t304 == 0) (wrap64 (32 + (wrap64 (32 * (Go.bits .and .i64 a0 1))))) false) else (spokeshavelaw1_WordDivides.j2 k t303 t304 a3 bt305.1 bt305.2 bt307.1 false (wrap64 (32 + (wrap64 (32 * (Go.bits .and .i64 a0 1))))) false)))))) = some r := H
    have A77 := Aside0.mk A770
    clear A770
    replace H := Option.bind_eq_some_iff.mp H
    obtain ⟨t304, A780, H⟩ := H
    replace H : ((word_Binary.f k (wrap64 (32 + (wrap64 (32 * (Go.bits .and .i64 a0 1))))) false 4 t303 t304).bind fun bt305 => ((word_Binary.f k (wrap64 (32 + (wrap64 (32 * (Go.bits .and .i64 a0 1))))) false 5 t303 t304).bind fun bt307 => (if (bt305.2 != bt307.2) = true then (spokeshavelaw1_WordDivides.j2 k t303 t304 a3 bt305.1 bt305.2 bt307.1 true (wrap64 (32 + (wrap64 (32 * (Go.bits .and .i64 a0 1))))) false) else (if bt305.2 = true then (spokeshavelaw1_WordDivides.j2 k t303 t304 a3 bt305.1 bt305.2 bt307.1 (t304 == 0) (wrap64 (32 + (wrap64 (32 * (Go.bits .and .i64 a0 1))))) false) else (spokeshavelaw1_WordDivides.j2 k t303 t304 a3 bt305.1 bt305.2 bt307.1 false (wrap64 (32 + (wrap64 (32 * (Go.bits .and .i64 a0 1))))) false))))) = some r := H
    have A78 := Aside0.mk A780
    clear A780
    replace H := Option.bind_eq_some_iff.mp H
    obtain ⟨⟨t305, t306⟩, A790, H⟩ := H
    replace H : ((word_Binary.f k (wrap64 (32 + (wrap64 (32 * (Go.bits .and .i64 a0 1))))) false 5 t303 t304).bind fun bt307 => (if (t306 != bt307.2) = true then (spokeshavelaw1_WordDivides.j2 k t303 t304 a3 t305 t306 bt307.1 true (wrap64 (32 + (wrap64 (32 * (Go.bits .and .i64 a0 1))))) false) else (if t306 = true then (spokeshavelaw1_WordDivides.j2 k t303 t304 a3 t305 t306 bt307.1 (t304 == 0) (wrap64 (32 + (wrap64 (32 * (Go.bits .and .i64 a0 1))))) false) else (spokeshavelaw1_WordDivides.j2 k t303 t304 a3 t305 t306 bt307.1 false (wrap64 (32 + (wrap64 (32 * (Go.bits .and .i64 a0 1))))) false)))) = some r := H
    have A79 := Aside0.mk A790
    clear A790
    replace H := Option.bind_eq_some_iff.mp H
    obtain ⟨⟨t307, t308⟩, A800, H⟩ := H
    replace H : (if (t306 != t308) = true then (spokeshavelaw1_WordDivides.j2 k t303 t304 a3 t305 t306 t307 true (wrap64 (32 + (wrap64 (32 * (Go.bits .and .i64 a0 1))))) false) else (if t306 = true then (spokeshavelaw1_WordDivides.j2 k t303 t304 a3 t305 t306 t307 (t304 == 0) (wrap64 (32 + (wrap64 (32 * (Go.bits .and .i64 a0 1))))) false) else (spokeshavelaw1_WordDivides.j2 k t303 t304 a3 t305 t306 t307 false (wrap64 (32 + (wrap64 (32 * (Go.bits .and .i64 a0 1))))) false))) = some r := H
    have A80 := Aside0.mk A800
    clear A800
    have HC81 := Aside0.mk H
    clear H
    go_enter Tryd.func6, Tryd.ntmps6
    try go_wp2_with (first | ((with_reducible refine gate_dst (N := 9) rfl ?_); refine box_event ?hg (N := 9) ?hd (cs := #[.int .i64 0, .bool false]) (t := 26) ?hr ?_; (case hd => rfl); (case hg => rfl); (case hr => first | (go_simp; done) | (go_simp; rfl)); intro gb302 hg w82 hbox hb; have n0_ := Aside0.mk (below_step (by repeat (first | (with_reducible first | exact HB.out | apply below_alloc | apply pw_below_drewN | apply below_drew1) | exact HB.out)) hb); have n1_ := Aside0.mk (hbox); have n2_ := Aside0.mk ((by rw [hg]; exact (below_size (by repeat (first | (with_reducible first | exact HB.out | apply below_alloc | apply pw_below_drewN | apply below_drew1) | exact HB.out))) : w.heap.size ≤ gb302)); have n3_ := Aside0.mk ((by rw [hg]; exact (below_size (by repeat (first | (with_reducible first | exact HB.out | apply below_alloc | apply pw_below_drewN | apply below_drew1) | exact HB.out))) : w.heap.size ≤ gb302)); clear HB; have HB := n0_; have BK302 := n1_; have GW302 := n2_; have GE302 := n3_; clear n0_ n1_ n2_ n3_; clear hb hbox hg; have hcz83_0 : w82.cell? ⟨gb302, 0, none⟩ = some (.int .i64 0) := (blk_cell BK302.out 0).trans rfl; have hcz83_1 : w82.cell? ⟨gb302, 1, none⟩ = some (.bool false) := (blk_cell BK302.out 1).trans rfl; have hfz83_0 := blk_frozen BK302.out 0; have hfz83_1 := blk_frozen BK302.out 1))
    have n0_ : Aside0 (((w82.setCell ⟨gb302, 0, none⟩ (.int .i64 (wrap64 (32 + (wrap64 (32 * (Go.bits .and .i64 a0 1))))))).setCell ⟨gb302, 1, none⟩ (.bool false)).heap[gb302]? = some (.cells #[.int .i64 (wrap64 (32 + (wrap64 (32 * (Go.bits .and .i64 a0 1))))), .bool false] 26 (0, 0))) := ⟨by (with_reducible repeat (first | refine blk_drewN ?_ _ | refine blk_drew ?_ | refine blk_alloc ?_ _)); refine blk_put (cs := #[.int .i64 (wrap64 (32 + (wrap64 (32 * (Go.bits .and .i64 a0 1))))), .bool false]) ?_ 1 _ rfl; (with_reducible repeat (first | refine blk_drewN ?_ _ | refine blk_drew ?_ | refine blk_alloc ?_ _)); refine blk_put (cs := #[.int .i64 0, .bool false]) ?_ 0 _ rfl; (with_reducible repeat (first | refine blk_drewN ?_ _ | refine blk_drew ?_ | refine blk_alloc ?_ _)); exact BK302.out⟩
    have n1_ : Aside0 (Below w.heap.size w ((w82.setCell ⟨gb302, 0, none⟩ (.int .i64 (wrap64 (32 + (wrap64 (32 * (Go.bits .and .i64 a0 1))))))).setCell ⟨gb302, 1, none⟩ (.bool false))) := ⟨by repeat (first | (with_reducible first | exact HB.out | apply below_alloc | apply pw_below_drewN | apply below_drew1 | refine below_set ?_ GE302.out) | exact HB.out)⟩
    (try clear BK302)
    (try clear HB)
    generalize ((w82.setCell ⟨gb302, 0, none⟩ (.int .i64 (wrap64 (32 + (wrap64 (32 * (Go.bits .and .i64 a0 1))))))).setCell ⟨gb302, 1, none⟩ (.bool false)) = w84 at n0_ n1_ ⊢
    have BK302 := n0_
    have HB := n1_
    clear n0_ n1_
    have n0_ := Aside0.mk (blk_drew BK302.out)
    have n1_ := Aside0.mk (below_drew1 HB.out)
    clear BK302
    clear HB
    have BK302 := n0_
    have HB := n1_
    clear n0_ n1_
    refine start_ (n := 8) (S := fun w' => w'.cell? ⟨gb302, 0, none⟩ = some (.int .i64 (wrap64 (32 + (wrap64 (32 * (Go.bits .and .i64 a0 1)))))) ∧ w'.cell? ⟨gb302, 1, none⟩ = some (.bool false)) (ds := []) #[false, false, false, false, false, false, false, false] (by kernel_rfl) rfl rfl ⟨(blk_cell BK302.out 0).trans rfl, (blk_cell BK302.out 1).trans rfl⟩ (fun hHeld => ?_); refine with_tabW spokeshavelaw1_WordDivides.tab2 spokeshavelaw1_WordDivides.bits2 (fun HT_ HW_ => ?_)
    generalize w84.drew = w85 at BK302 HB hHeld ⊢
    refine pure_ (i := 1) (N := some 30) (v := ?_) (a' := ?_) #[false, true, false, false, false, false, false, false] rfl rfl (any_of HT_.out (by kernel_rfl)) (fun _ _ _ h => h) (Or.inl ⟨by rfl, ?_⟩) ?_ ?_
    rotate_left
    · intro w'
      go_simp
      with_reducible rfl
    rotate_left
    · simp only [Act.put, List.setIfInBounds_toArray, List.set_cons_zero, List.set_cons_succ, i64_w, i32_w]
      rfl
    refine pure_ (i := 4) (N := some 33) (v := ?_) (a' := ?_) #[false, true, false, false, true, false, false, false] rfl rfl (any_of HT_.out (by kernel_rfl)) (fun _ _ _ h => h) (Or.inl ⟨by rfl, ?_⟩) ?_ ?_
    rotate_left
    · intro w'
      go_simp
      with_reducible rfl
    rotate_left
    · simp only [Act.put, List.setIfInBounds_toArray, List.set_cons_zero, List.set_cons_succ, i64_w, i32_w]
      rfl
    refine take_ (i := 0) (N := some 29) (v := ?_) (a' := ?_) #[true, true, false, false, true, false, false, false] rfl rfl (take_ofW HT_.out HW_.out (by kernel_rfl)) (fun _ _ _ h => h) (Or.inl ⟨by rfl, ?_⟩) hHeld ?_ ?_
    rotate_left
    · rintro w' ⟨s0, s1⟩
      go_simp
      with_reducible rfl
    rotate_left
    · simp only [Act.put, List.setIfInBounds_toArray, List.set_cons_zero, List.set_cons_succ, i64_w, i32_w]
      rfl
    refine take_ (i := 3) (N := some 32) (v := ?_) (a' := ?_) #[true, true, false, true, true, false, false, false] rfl rfl (take_ofW HT_.out HW_.out (by kernel_rfl)) (fun _ _ _ h => h) (Or.inl ⟨by rfl, ?_⟩) hHeld ?_ ?_
    rotate_left
    · rintro w' ⟨s0, s1⟩
      go_simp
      with_reducible rfl
    rotate_left
    · simp only [Act.put, List.setIfInBounds_toArray, List.set_cons_zero, List.set_cons_succ, i64_w, i32_w]
      rfl
    refine one_ (i := 2) (N := some 31) #[true, true, true, true, true, false, false, false] rfl rfl (one_of HT_.out (by kernel_rfl)) (by decide) (fun K hK => ?_)
    refine goes_ Tryd.func13 (by kernel_rfl) rfl #[.agg #[.int .i64 (wrap64 (32 + (wrap64 (32 * (Go.bits .and .i64 a0 1))))), .bool false], .int .i64 a1] (by rfl) rfl rfl (by (try simp only [List.map_toArray, List.map_cons, List.map_nil]); first | done | rfl | (simp only [List.length_drop, List.length_take]; rfl)) ?_
    with_reducible refine (word_Wrap.calls (wrap64 (32 + (wrap64 (32 * (Go.bits .and .i64 a0 1))))) false a1 t303 _ A77.out).mono ?_
    rintro e w86 ⟨rfl, hb⟩
    refine ⟨_, rfl, ?_⟩
    have n0_ := Aside0.mk (blk_below (g := gb302) (o := .cells #[.int .i64 (wrap64 (32 + (wrap64 (32 * (Go.bits .and .i64 a0 1))))), .bool false] 26 (0, 0)) (by (with_reducible repeat (first | refine blk_drewN ?_ _ | refine blk_drew ?_ | refine blk_alloc ?_ _)); exact BK302.out) hb)
    have n1_ := Aside0.mk (below_step (by repeat (first | (with_reducible first | exact HB.out | apply below_alloc | apply pw_below_drewN | apply below_drew1 | refine below_set ?_ GE302.out) | exact HB.out)) hb)
    clear BK302
    clear HB
    have BK302 := n0_
    have HB := n1_
    clear n0_ n1_
    (try clear hb)
    (try clear hb2)
    (try clear hk)
    (try clear hi)
    refine hK.out _ _ ⟨(blk_cell BK302.out 0).trans rfl, (blk_cell BK302.out 1).trans rfl⟩ (fun hHeld => ?_)
    clear hK K
    refine norm_ (a' := ?_) ?_ ?_
    rotate_left
    · show Act.put _ (some 31) _ = _
      simp only [Act.put, List.setIfInBounds_toArray, List.set_cons_zero, List.set_cons_succ, i64_w, i32_w]
      rfl
    refine one_ (i := 5) (N := some 34) #[true, true, true, true, true, true, false, false] rfl rfl (one_of HT_.out (by kernel_rfl)) (by decide) (fun K hK => ?_)
    refine goes_ Tryd.func13 (by kernel_rfl) rfl #[.agg #[.int .i64 (wrap64 (32 + (wrap64 (32 * (Go.bits .and .i64 a0 1))))), .bool false], .int .i64 a2] (by rfl) rfl rfl (by (try simp only [List.map_toArray, List.map_cons, List.map_nil]); first | done | rfl | (simp only [List.length_drop, List.length_take]; rfl)) ?_
    with_reducible refine (word_Wrap.calls (wrap64 (32 + (wrap64 (32 * (Go.bits .and .i64 a0 1))))) false a2 t304 _ A78.out).mono ?_
    rintro e w87 ⟨rfl, hb⟩
    refine ⟨_, rfl, ?_⟩
    have n0_ := Aside0.mk (blk_below (g := gb302) (o := .cells #[.int .i64 (wrap64 (32 + (wrap64 (32 * (Go.bits .and .i64 a0 1))))), .bool false] 26 (0, 0)) (by (with_reducible repeat (first | refine blk_drewN ?_ _ | refine blk_drew ?_ | refine blk_alloc ?_ _)); exact BK302.out) hb)
    have n1_ := Aside0.mk (below_step (by repeat (first | (with_reducible first | exact HB.out | apply below_alloc | apply pw_below_drewN | apply below_drew1 | refine below_set ?_ GE302.out) | exact HB.out)) hb)
    clear BK302
    clear HB
    have BK302 := n0_
    have HB := n1_
    clear n0_ n1_
    (try clear hb)
    (try clear hb2)
    (try clear hk)
    (try clear hi)
    refine hK.out _ _ ⟨(blk_cell BK302.out 0).trans rfl, (blk_cell BK302.out 1).trans rfl⟩ (fun hHeld => ?_)
    clear hK K
    refine norm_ (a' := ?_) ?_ ?_
    rotate_left
    · show Act.put _ (some 34) _ = _
      simp only [Act.put, List.setIfInBounds_toArray, List.set_cons_zero, List.set_cons_succ, i64_w, i32_w]
      rfl
    refine pure_ (i := 6) (N := some 1) (v := ?_) (a' := ?_) #[true, true, true, true, true, true, true, false] rfl rfl (any_of HT_.out (by kernel_rfl)) (fun _ _ _ h => h) (Or.inl ⟨by rfl, ?_⟩) ?_ ?_
    rotate_left
    · intro w'
      go_simp
      with_reducible rfl
    rotate_left
    · simp only [Act.put, List.setIfInBounds_toArray, List.set_cons_zero, List.set_cons_succ, i64_w, i32_w]
      rfl
    refine pure_ (i := 7) (N := some 2) (v := ?_) (a' := ?_) #[true, true, true, true, true, true, true, true] rfl rfl (any_of HT_.out (by kernel_rfl)) (fun _ _ _ h => h) (Or.inl ⟨by rfl, ?_⟩) ?_ ?_
    rotate_left
    · intro w'
      go_simp
      with_reducible rfl
    rotate_left
    · simp only [Act.put, List.setIfInBounds_toArray, List.set_cons_zero, List.set_cons_succ, i64_w, i32_w]
      rfl
    refine done_ (done_of HT_.out (by kernel_rfl)) ?_
    have hcz88_0 : w87.cell? ⟨gb302, 0, none⟩ = some (.int .i64 (wrap64 (32 + (wrap64 (32 * (Go.bits .and .i64 a0 1)))))) := (blk_cell BK302.out 0).trans rfl
    have hcz88_1 : w87.cell? ⟨gb302, 1, none⟩ = some (.bool false) := (blk_cell BK302.out 1).trans rfl
    have hfz88_0 := blk_frozen BK302.out 0
    have hfz88_1 := blk_frozen BK302.out 1
    go_upto_region 5 with (first | ((with_reducible refine gate_callee (f := 14) rfl ?_); refine goesL_ (some 39) rfl rfl Tryd.func14 (by kernel_rfl) rfl #[.agg #[.int .i64 (wrap64 (32 + (wrap64 (32 * (Go.bits .and .i64 a0 1))))), .bool false], .int .i64 4, .int .i64 t303, .int .i64 t304] rfl (by (try simp only [List.map_toArray, List.map_cons, List.map_nil]); first | done | rfl | (simp only [List.length_drop, List.length_take]; rfl)) ?_; (with_reducible refine (word_Binary.calls k (wrap64 (32 + (wrap64 (32 * (Go.bits .and .i64 a0 1))))) false 4 t303 t304 t305 t306 _ A79.out).mono ?_); rintro e w89 ⟨rfl, hb⟩; refine ⟨_, rfl, ?_⟩; have n0_ := Aside0.mk (blk_below (g := gb302) (o := .cells #[.int .i64 (wrap64 (32 + (wrap64 (32 * (Go.bits .and .i64 a0 1))))), .bool false] 26 (0, 0)) (by (with_reducible repeat (first | refine blk_drewN ?_ _ | refine blk_drew ?_ | refine blk_alloc ?_ _)); exact BK302.out) hb); have n1_ := Aside0.mk (below_step (by repeat (first | (with_reducible first | exact HB.out | apply below_alloc | apply pw_below_drewN | apply below_drew1 | refine below_set ?_ GE302.out) | exact HB.out)) hb); clear BK302; clear HB; have BK302 := n0_; have HB := n1_; clear n0_ n1_; (try clear hb); (try clear hb2); (try clear hk); (try clear hi); have hcz90_0 : w89.cell? ⟨gb302, 0, none⟩ = some (.int .i64 (wrap64 (32 + (wrap64 (32 * (Go.bits .and .i64 a0 1)))))) := (blk_cell BK302.out 0).trans rfl; have hcz90_1 : w89.cell? ⟨gb302, 1, none⟩ = some (.bool false) := (blk_cell BK302.out 1).trans rfl; have hfz90_0 := blk_frozen BK302.out 0; have hfz90_1 := blk_frozen BK302.out 1) | ((with_reducible refine gate_callee (f := 14) rfl ?_); refine goesL_ (some 46) rfl rfl Tryd.func14 (by kernel_rfl) rfl #[.agg #[.int .i64 (wrap64 (32 + (wrap64 (32 * (Go.bits .and .i64 a0 1))))), .bool false], .int .i64 5, .int .i64 t303, .int .i64 t304] rfl (by (try simp only [List.map_toArray, List.map_cons, List.map_nil]); first | done | rfl | (simp only [List.length_drop, List.length_take]; rfl)) ?_; (with_reducible refine (word_Binary.calls k (wrap64 (32 + (wrap64 (32 * (Go.bits .and .i64 a0 1))))) false 5 t303 t304 t307 t308 _ A80.out).mono ?_); rintro e w91 ⟨rfl, hb⟩; refine ⟨_, rfl, ?_⟩; have n0_ := Aside0.mk (blk_below (g := gb302) (o := .cells #[.int .i64 (wrap64 (32 + (wrap64 (32 * (Go.bits .and .i64 a0 1))))), .bool false] 26 (0, 0)) (by (with_reducible repeat (first | refine blk_drewN ?_ _ | refine blk_drew ?_ | refine blk_alloc ?_ _)); exact BK302.out) hb); have n1_ := Aside0.mk (below_step (by repeat (first | (with_reducible first | exact HB.out | apply below_alloc | apply pw_below_drewN | apply below_drew1 | refine below_set ?_ GE302.out) | exact HB.out)) hb); clear BK302; clear HB; have BK302 := n0_; have HB := n1_; clear n0_ n1_; (try clear hb); (try clear hb2); (try clear hk); (try clear hi)))
    (try simp only [Act.put, List.setIfInBounds_toArray, List.set_cons_zero, List.set_cons_succ])
    go_cut [58] (fun v58 wc => ∃ (kq : Nat) (x58_80 : Bool), v58 = .bool x58_80 ∧ Aside0 (spokeshavelaw1_WordDivides.j2 kq t303 t304 a3 t305 t306 t307 x58_80 (wrap64 (32 + (wrap64 (32 * (Go.bits .and .i64 a0 1))))) false = some r) ∧ Aside0 (kq ≤ k) ∧ Aside0 (wc.heap[gb302]? = some (.cells #[.int .i64 (wrap64 (32 + (wrap64 (32 * (Go.bits .and .i64 a0 1))))), .bool false] 26 (0, 0))) ∧ Aside0 (Below w.heap.size w wc))
    case first =>
      have H := HC81.out
      clear HC81
      by_cases c92 : (t306 != t308) = true
      · rw [if_pos c92] at H
        have c92b0 : (t306 != t308) = true := c92
        (try (have c92b1 : decide (t306 = t308) = false := by first | exact c92 | exact absurd c92 (by decide) | decide | (simp; done) | simpa using c92))
        (try (have c92b2 : (t306 == t308) = false := by first | exact c92 | exact absurd c92 (by decide) | decide | (simp; done) | simpa using c92))
        (try (have c92b3 : ¬ (t306 = t308) := by first | exact c92 | exact absurd c92 (by decide) | decide | (simp; done) | simpa using c92))
        clear c92
        (first | rw [c92b0] | (simp only [i64_w, i32_w]; rw [c92b0]) | skip)
        have H' := Aside0.mk H
        clear H
        go_wp2
        go_meet
        case rel => exact ⟨_, (true), (by first | rfl | (simp; done) | (simp [*]; done)), H', ⟨by first | omega | exact Nat.le_refl _⟩, ⟨by (with_reducible repeat (first | refine blk_drewN ?_ _ | refine blk_drew ?_ | refine blk_alloc ?_ _)); exact BK302.out⟩, ⟨by repeat (first | (with_reducible first | exact HB.out | apply below_alloc | apply pw_below_drewN | apply below_drew1 | refine below_set ?_ GE302.out) | exact HB.out)⟩⟩
      · rw [if_neg c92] at H
        have c92b0 : (t306 != t308) = false := by first | exact c92 | exact absurd c92 (by decide) | decide | (simp; done) | simpa using c92
        (try (have c92b1 : decide (t306 = t308) = true := by first | exact c92 | exact absurd c92 (by decide) | decide | (simp; done) | simpa using c92))
        (try (have c92b2 : (t306 == t308) = true := by first | exact c92 | exact absurd c92 (by decide) | decide | (simp; done) | simpa using c92))
        clear c92
        (first | rw [c92b0] | (simp only [i64_w, i32_w]; rw [c92b0]) | skip)
        by_cases c93 : t306 = true
        · subst c93
          have H1 : (spokeshavelaw1_WordDivides.j2 k t303 t304 a3 t305 true t307 (t304 == 0) (wrap64 (32 + (wrap64 (32 * (Go.bits .and .i64 a0 1))))) false) = some r := by rw [if_pos rfl] at H; exact H
          clear H
          have H := H1
          clear H1
          have H' := Aside0.mk H
          clear H
          go_wp2
          go_meet
          case rel => exact ⟨_, ((t304 == 0)), (by first | rfl | (simp; done) | (simp [*]; done)), H', ⟨by first | omega | exact Nat.le_refl _⟩, ⟨by (with_reducible repeat (first | refine blk_drewN ?_ _ | refine blk_drew ?_ | refine blk_alloc ?_ _)); exact BK302.out⟩, ⟨by repeat (first | (with_reducible first | exact HB.out | apply below_alloc | apply pw_below_drewN | apply below_drew1 | refine below_set ?_ GE302.out) | exact HB.out)⟩⟩
        · replace c93 := Bool.eq_false_iff.mpr c93
          subst c93
          have H1 : (spokeshavelaw1_WordDivides.j2 k t303 t304 a3 t305 false t307 false (wrap64 (32 + (wrap64 (32 * (Go.bits .and .i64 a0 1))))) false) = some r := by rw [if_neg (show ¬ (false = true) by decide)] at H; exact H
          clear H
          have H := H1
          clear H1
          have H' := Aside0.mk H
          clear H
          go_wp2
          go_meet
          case rel => exact ⟨_, (false), (by first | rfl | (simp; done) | (simp [*]; done)), H', ⟨by first | omega | exact Nat.le_refl _⟩, ⟨by (with_reducible repeat (first | refine blk_drewN ?_ _ | refine blk_drew ?_ | refine blk_alloc ?_ _)); exact BK302.out⟩, ⟨by repeat (first | (with_reducible first | exact HB.out | apply below_alloc | apply pw_below_drewN | apply below_drew1 | refine below_set ?_ GE302.out) | exact HB.out)⟩⟩
    case rest =>
      clear HC81
      try clear c1
      try clear c2
      try clear p2
      try clear c3
      try clear c4
      try clear c5
      try clear c5b0
      try clear c5b1
      try clear c6
      try clear p6
      try clear c9
      try clear c13
      try clear c14
      try clear c17
      try clear c21
      try clear c21b0
      try clear c21b1
      try clear c21b2
      try clear c22
      try clear c23
      try clear c25
      try clear c28
      try clear c28b0
      try clear c28b1
      try clear c29
      try clear c29b0
      try clear c29b1
      try clear c35
      try clear c35b0
      try clear c35b1
      try clear c35b2
      try clear c44
      try clear c45
      try clear c46
      try clear c46b0
      try clear c46b1
      try clear c61
      try clear c61b0
      try clear p64
      try clear c69
      try clear c69b0
      try clear c92
      try clear c92b0
      try clear c92b1
      try clear c92b2
      try clear c93
      try clear hcz12_0
      try clear hcz12_1
      try clear hcz17_0
      try clear hcz17_1
      try clear hcz19_0
      try clear hcz19_1
      try clear hcz30_0
      try clear hcz30_1
      try clear hcz32_0
      try clear hcz32_1
      try clear hcz34_0
      try clear hcz34_1
      try clear hcz36_0
      try clear hcz36_1
      try clear hcz38_0
      try clear hcz38_1
      try clear hcz40_0
      try clear hcz40_1
      try clear hcz48_0
      try clear hcz48_1
      try clear hcz50_0
      try clear hcz50_1
      try clear hcz52_0
      try clear hcz52_1
      try clear hcz55_0
      try clear hcz55_1
      try clear hcz57_0
      try clear hcz57_1
      try clear hcz59_0
      try clear hcz59_1
      try clear hcz63_0
      try clear hcz63_1
      try clear hcz65_0
      try clear hcz65_1
      try clear hcz67_0
      try clear hcz67_1
      try clear hcz71_0
      try clear hcz71_1
      try clear hcz73_0
      try clear hcz73_1
      try clear hcz75_0
      try clear hcz75_1
      try clear hcz83_0
      try clear hcz83_1
      try clear hcz88_0
      try clear hcz88_1
      try clear hcz90_0
      try clear hcz90_1
      try clear hfz12_0
      try clear hfz12_1
      try clear hfz17_0
      try clear hfz17_1
      try clear hfz19_0
      try clear hfz19_1
      try clear hfz30_0
      try clear hfz30_1
      try clear hfz32_0
      try clear hfz32_1
      try clear hfz34_0
      try clear hfz34_1
      try clear hfz36_0
      try clear hfz36_1
      try clear hfz38_0
      try clear hfz38_1
      try clear hfz40_0
      try clear hfz40_1
      try clear hfz48_0
      try clear hfz48_1
      try clear hfz50_0
      try clear hfz50_1
      try clear hfz52_0
      try clear hfz52_1
      try clear hfz55_0
      try clear hfz55_1
      try clear hfz57_0
      try clear hfz57_1
      try clear hfz59_0
      try clear hfz59_1
      try clear hfz63_0
      try clear hfz63_1
      try clear hfz65_0
      try clear hfz65_1
      try clear hfz67_0
      try clear hfz67_1
      try clear hfz71_0
      try clear hfz71_1
      try clear hfz73_0
      try clear hfz73_1
      try clear hfz75_0
      try clear hfz75_1
      try clear hfz83_0
      try clear hfz83_1
      try clear hfz88_0
      try clear hfz88_1
      try clear hfz90_0
      try clear hfz90_1
      try clear p2
      try clear p6
      obtain ⟨kq, x58_80, rfl, HA, HJ80, BK302, HB⟩ := hcut
      cases kq with
      | zero => exact absurd HA.out (by simp [spokeshavelaw1_WordDivides.j2])
      | succ kj80 =>
        have H := HA.out
        clear HA
        simp only [spokeshavelaw1_WordDivides.j2] at H
        by_cases c94 : x58_80 = true
        · subst c94
          have H1 : (none) = some r := by rw [if_pos rfl] at H; exact H
          clear H
          have H := H1
          clear H1
          exact absurd H (by simp)
        · replace c94 := Bool.eq_false_iff.mpr c94
          subst c94
          have H1 : (if t306 = true then ((word_Wrap.f (wrap64 (32 + (wrap64 (32 * (Go.bits .and .i64 a0 1))))) false (wrap64 ((wrap64 (t305 * t304)) + t307))).bind fun t309 => ((word_Binary.f kj80 (wrap64 (32 + (wrap64 (32 * (Go.bits .and .i64 a0 1))))) false 16 t307 t304).bind fun bt310 => (if t309 = t303 then (if false = true then (if t307 = 0 then (spokeshavelaw1_WordDivides.j3 kj80 t303 a3 (wrap64 (32 + (wrap64 (32 * (Go.bits .and .i64 a0 1))))) false) else (if ((decide (t307 < 0)) != (decide (t303 < 0))) = true then (none) else (spokeshavelaw1_WordDivides.j3 kj80 t303 a3 (wrap64 (32 + (wrap64 (32 * (Go.bits .and .i64 a0 1))))) false))) else (if bt310.2 = true then (if bt310.1 = 1 then (spokeshavelaw1_WordDivides.j3 kj80 t303 a3 (wrap64 (32 + (wrap64 (32 * (Go.bits .and .i64 a0 1))))) false) else (none)) else (none))) else (none)))) else (spokeshavelaw1_WordDivides.j3 kj80 t303 a3 (wrap64 (32 + (wrap64 (32 * (Go.bits .and .i64 a0 1))))) false)) = some r := by rw [if_neg (show ¬ (false = true) by decide)] at H; exact H
          clear H
          have H := H1
          clear H1
          have HC95 := Aside0.mk H
          clear H
          go_upto_if 59 with (fail)
          go_cut [] (fun wc => ∃ (kq : Nat), Aside0 (spokeshavelaw1_WordDivides.j3 kq t303 a3 (wrap64 (32 + (wrap64 (32 * (Go.bits .and .i64 a0 1))))) false = some r) ∧ Aside0 (kq ≤ kj80) ∧ Aside0 (wc.heap[gb302]? = some (.cells #[.int .i64 (wrap64 (32 + (wrap64 (32 * (Go.bits .and .i64 a0 1))))), .bool false] 26 (0, 0))) ∧ Aside0 (Below w.heap.size w wc))
          case first =>
            have H := HC95.out
            clear HC95
            by_cases c96 : t306 = true
            · subst c96
              have H1 : ((word_Wrap.f (wrap64 (32 + (wrap64 (32 * (Go.bits .and .i64 a0 1))))) false (wrap64 ((wrap64 (t305 * t304)) + t307))).bind fun t309 => ((word_Binary.f kj80 (wrap64 (32 + (wrap64 (32 * (Go.bits .and .i64 a0 1))))) false 16 t307 t304).bind fun bt310 => (if t309 = t303 then (if false = true then (if t307 = 0 then (spokeshavelaw1_WordDivides.j3 kj80 t303 a3 (wrap64 (32 + (wrap64 (32 * (Go.bits .and .i64 a0 1))))) false) else (if ((decide (t307 < 0)) != (decide (t303 < 0))) = true then (none) else (spokeshavelaw1_WordDivides.j3 kj80 t303 a3 (wrap64 (32 + (wrap64 (32 * (Go.bits .and .i64 a0 1))))) false))) else (if bt310.2 = true then (if bt310.1 = 1 then (spokeshavelaw1_WordDivides.j3 kj80 t303 a3 (wrap64 (32 + (wrap64 (32 * (Go.bits .and .i64 a0 1))))) false) else (none)) else (none))) else (none)))) = some r := by rw [if_pos rfl] at H; exact H
              clear H
              have H := H1
              clear H1
              replace H := Option.bind_eq_some_iff.mp H
              obtain ⟨t309, A970, H⟩ := H
              replace H : ((word_Binary.f kj80 (wrap64 (32 + (wrap64 (32 * (Go.bits .and .i64 a0 1))))) false 16 t307 t304).bind fun bt310 => (if t309 = t303 then (if false = true then (if t307 = 0 then (spokeshavelaw1_WordDivides.j3 kj80 t303 a3 (wrap64 (32 + (wrap64 (32 * (Go.bits .and .i64 a0 1))))) false) else (if ((decide (t307 < 0)) != (decide (t303 < 0))) = true then (none) else (spokeshavelaw1_WordDivides.j3 kj80 t303 a3 (wrap64 (32 + (wrap64 (32 * (Go.bits .and .i64 a0 1))))) false))) else (if bt310.2 = true then (if bt310.1 = 1 then (spokeshavelaw1_WordDivides.j3 kj80 t303 a3 (wrap64 (32 + (wrap64 (32 * (Go.bits .and .i64 a0 1))))) false) else (none)) else (none))) else (none))) = some r := H
              have A97 := Aside0.mk A970
              clear A970
              replace H := Option.bind_eq_some_iff.mp H
              obtain ⟨⟨t310, t311⟩, A980, H⟩ := H
              replace H : (if t309 = t303 then (if false = true then (if t307 = 0 then (spokeshavelaw1_WordDivides.j3 kj80 t303 a3 (wrap64 (32 + (wrap64 (32 * (Go.bits .and .i64 a0 1))))) false) else (if ((decide (t307 < 0)) != (decide (t303 < 0))) = true then (none) else (spokeshavelaw1_WordDivides.j3 kj80 t303 a3 (wrap64 (32 + (wrap64 (32 * (Go.bits .and .i64 a0 1))))) false))) else (if t311 = true then (if t310 = 1 then (spokeshavelaw1_WordDivides.j3 kj80 t303 a3 (wrap64 (32 + (wrap64 (32 * (Go.bits .and .i64 a0 1))))) false) else (none)) else (none))) else (none)) = some r := H
              have A98 := Aside0.mk A980
              clear A980
              by_cases c99 : t309 = t303
              · rw [if_pos c99] at H
                have c99b0 : (t309 == t303) = true := beq_iff_eq.mpr c99
                have c99b1 : (t309 != t303) = false := bne_eq_false_iff_eq.mpr c99
                clear c99
                (first | rw [c99b0] | (simp only [i64_w, i32_w]; rw [c99b0]) | skip)
                replace H : (if t311 = true then (if t310 = 1 then (spokeshavelaw1_WordDivides.j3 kj80 t303 a3 (wrap64 (32 + (wrap64 (32 * (Go.bits .and .i64 a0 1))))) false) else (none)) else (none)) = some r := by rw [if_neg (show ¬ (false = true) by decide)] at H; exact H
                by_cases c100 : t311 = true
                · subst c100
                  have H1 : (if t310 = 1 then (spokeshavelaw1_WordDivides.j3 kj80 t303 a3 (wrap64 (32 + (wrap64 (32 * (Go.bits .and .i64 a0 1))))) false) else (none)) = some r := by rw [if_pos rfl] at H; exact H
                  clear H
                  have H := H1
                  clear H1
                  by_cases c101 : t310 = 1
                  · rw [if_pos c101] at H
                    have c101b0 : (t310 == 1) = true := beq_iff_eq.mpr c101
                    have c101b1 : (t310 != 1) = false := bne_eq_false_iff_eq.mpr c101
                    clear c101
                    have H' := Aside0.mk H
                    clear H
                    have hcz102_0 : wc.cell? ⟨gb302, 0, none⟩ = some (.int .i64 (wrap64 (32 + (wrap64 (32 * (Go.bits .and .i64 a0 1)))))) := (blk_cell BK302.out 0).trans rfl
                    have hcz102_1 : wc.cell? ⟨gb302, 1, none⟩ = some (.bool false) := (blk_cell BK302.out 1).trans rfl
                    have hfz102_0 := blk_frozen BK302.out 0
                    have hfz102_1 := blk_frozen BK302.out 1
                    go_wp2_with (first | ((with_reducible refine gate_callee (f := 13) rfl ?_); refine goesL_ (some 66) rfl rfl Tryd.func13 (by kernel_rfl) rfl #[.agg #[.int .i64 (wrap64 (32 + (wrap64 (32 * (Go.bits .and .i64 a0 1))))), .bool false], .int .i64 (wrap64 ((wrap64 (t305 * t304)) + t307))] rfl (by (try simp only [List.map_toArray, List.map_cons, List.map_nil]); first | done | rfl | (simp only [List.length_drop, List.length_take]; rfl)) ?_; (with_reducible refine (word_Wrap.calls (wrap64 (32 + (wrap64 (32 * (Go.bits .and .i64 a0 1))))) false (wrap64 ((wrap64 (t305 * t304)) + t307)) t309 _ A97.out).mono ?_); rintro e w103 ⟨rfl, hb⟩; refine ⟨_, rfl, ?_⟩; have n0_ := Aside0.mk (blk_below (g := gb302) (o := .cells #[.int .i64 (wrap64 (32 + (wrap64 (32 * (Go.bits .and .i64 a0 1))))), .bool false] 26 (0, 0)) (by (with_reducible repeat (first | refine blk_drewN ?_ _ | refine blk_drew ?_ | refine blk_alloc ?_ _)); exact BK302.out) hb); have n1_ := Aside0.mk (below_step (by repeat (first | (with_reducible first | exact HB.out | apply below_alloc | apply pw_below_drewN | apply below_drew1 | refine below_set ?_ GE302.out) | exact HB.out)) hb); clear BK302; clear HB; have BK302 := n0_; have HB := n1_; clear n0_ n1_; (try clear hb); (try clear hb2); (try clear hk); (try clear hi); have hcz104_0 : w103.cell? ⟨gb302, 0, none⟩ = some (.int .i64 (wrap64 (32 + (wrap64 (32 * (Go.bits .and .i64 a0 1)))))) := (blk_cell BK302.out 0).trans rfl; have hcz104_1 : w103.cell? ⟨gb302, 1, none⟩ = some (.bool false) := (blk_cell BK302.out 1).trans rfl; have hfz104_0 := blk_frozen BK302.out 0; have hfz104_1 := blk_frozen BK302.out 1) | ((with_reducible refine gate_callee (f := 14) rfl ?_); refine goesL_ (some 71) rfl rfl Tryd.func14 (by kernel_rfl) rfl #[.agg #[.int .i64 (wrap64 (32 + (wrap64 (32 * (Go.bits .and .i64 a0 1))))), .bool false], .int .i64 16, .int .i64 t307, .int .i64 t304] rfl (by (try simp only [List.map_toArray, List.map_cons, List.map_nil]); first | done | rfl | (simp only [List.length_drop, List.length_take]; rfl)) ?_; (with_reducible refine (word_Binary.calls kj80 (wrap64 (32 + (wrap64 (32 * (Go.bits .and .i64 a0 1))))) false 16 t307 t304 t310 true _ A98.out).mono ?_); rintro e w105 ⟨rfl, hb⟩; refine ⟨_, rfl, ?_⟩; have n0_ := Aside0.mk (blk_below (g := gb302) (o := .cells #[.int .i64 (wrap64 (32 + (wrap64 (32 * (Go.bits .and .i64 a0 1))))), .bool false] 26 (0, 0)) (by (with_reducible repeat (first | refine blk_drewN ?_ _ | refine blk_drew ?_ | refine blk_alloc ?_ _)); exact BK302.out) hb); have n1_ := Aside0.mk (below_step (by repeat (first | (with_reducible first | exact HB.out | apply below_alloc | apply pw_below_drewN | apply below_drew1 | refine below_set ?_ GE302.out) | exact HB.out)) hb); clear BK302; clear HB; have BK302 := n0_; have HB := n1_; clear n0_ n1_; (try clear hb); (try clear hb2); (try clear hk); (try clear hi); have hcz106_0 : w105.cell? ⟨gb302, 0, none⟩ = some (.int .i64 (wrap64 (32 + (wrap64 (32 * (Go.bits .and .i64 a0 1)))))) := (blk_cell BK302.out 0).trans rfl; have hcz106_1 : w105.cell? ⟨gb302, 1, none⟩ = some (.bool false) := (blk_cell BK302.out 1).trans rfl; have hfz106_0 := blk_frozen BK302.out 0; have hfz106_1 := blk_frozen BK302.out 1))
                    go_meet
                    case rel => exact ⟨_, H', ⟨by have := HJ80.out; first | omega | exact Nat.le_refl _⟩, ⟨by (with_reducible repeat (first | refine blk_drewN ?_ _ | refine blk_drew ?_ | refine blk_alloc ?_ _)); exact BK302.out⟩, ⟨by repeat (first | (with_reducible first | exact HB.out | apply below_alloc | apply pw_below_drewN | apply below_drew1 | refine below_set ?_ GE302.out) | exact HB.out)⟩⟩
                  · rw [if_neg c101] at H
                    exact absurd H (by simp)
                · replace c100 := Bool.eq_false_iff.mpr c100
                  subst c100
                  have H1 : (none) = some r := by rw [if_neg (show ¬ (false = true) by decide)] at H; exact H
                  clear H
                  have H := H1
                  clear H1
                  exact absurd H (by simp)
              · rw [if_neg c99] at H
                exact absurd H (by simp)
            · replace c96 := Bool.eq_false_iff.mpr c96
              subst c96
              have H1 : (spokeshavelaw1_WordDivides.j3 kj80 t303 a3 (wrap64 (32 + (wrap64 (32 * (Go.bits .and .i64 a0 1))))) false) = some r := by rw [if_neg (show ¬ (false = true) by decide)] at H; exact H
              clear H
              have H := H1
              clear H1
              have H' := Aside0.mk H
              clear H
              go_wp2
              go_meet
              case rel => exact ⟨_, H', ⟨by have := HJ80.out; first | omega | exact Nat.le_refl _⟩, ⟨by (with_reducible repeat (first | refine blk_drewN ?_ _ | refine blk_drew ?_ | refine blk_alloc ?_ _)); exact BK302.out⟩, ⟨by repeat (first | (with_reducible first | exact HB.out | apply below_alloc | apply pw_below_drewN | apply below_drew1 | refine below_set ?_ GE302.out) | exact HB.out)⟩⟩
          case rest =>
            clear HC95
            try clear c1
            try clear c2
            try clear p2
            try clear c3
            try clear c4
            try clear c5
            try clear c5b0
            try clear c5b1
            try clear c6
            try clear p6
            try clear c9
            try clear c10
            try clear c13
            try clear c14
            try clear c17
            try clear c21
            try clear c21b0
            try clear c21b1
            try clear c21b2
            try clear c22
            try clear c23
            try clear c25
            try clear c28
            try clear c28b0
            try clear c28b1
            try clear c29
            try clear c29b0
            try clear c29b1
            try clear c35
            try clear c35b0
            try clear c35b1
            try clear c35b2
            try clear c44
            try clear c45
            try clear c46
            try clear c46b0
            try clear c46b1
            try clear c61
            try clear c61b0
            try clear p64
            try clear c69
            try clear c69b0
            try clear c92
            try clear c92b0
            try clear c92b1
            try clear c92b2
            try clear c93
            try clear c94
            try clear c96
            try clear c99
            try clear c99b0
            try clear c99b1
            try clear c100
            try clear c101
            try clear c101b0
            try clear c101b1
            try clear hcz102_0
            try clear hcz102_1
            try clear hcz104_0
            try clear hcz104_1
            try clear hcz106_0
            try clear hcz106_1
            try clear hcz12_0
            try clear hcz12_1
            try clear hcz17_0
            try clear hcz17_1
            try clear hcz19_0
            try clear hcz19_1
            try clear hcz30_0
            try clear hcz30_1
            try clear hcz32_0
            try clear hcz32_1
            try clear hcz34_0
            try clear hcz34_1
            try clear hcz36_0
            try clear hcz36_1
            try clear hcz38_0
            try clear hcz38_1
            try clear hcz40_0
            try clear hcz40_1
            try clear hcz48_0
            try clear hcz48_1
            try clear hcz50_0
            try clear hcz50_1
            try clear hcz52_0
            try clear hcz52_1
            try clear hcz55_0
            try clear hcz55_1
            try clear hcz57_0
            try clear hcz57_1
            try clear hcz59_0
            try clear hcz59_1
            try clear hcz63_0
            try clear hcz63_1
            try clear hcz65_0
            try clear hcz65_1
            try clear hcz67_0
            try clear hcz67_1
            try clear hcz71_0
            try clear hcz71_1
            try clear hcz73_0
            try clear hcz73_1
            try clear hcz75_0
            try clear hcz75_1
            try clear hcz83_0
            try clear hcz83_1
            try clear hcz88_0
            try clear hcz88_1
            try clear hcz90_0
            try clear hcz90_1
            try clear hfz102_0
            try clear hfz102_1
            try clear hfz104_0
            try clear hfz104_1
            try clear hfz106_0
            try clear hfz106_1
            try clear hfz12_0
            try clear hfz12_1
            try clear hfz17_0
            try clear hfz17_1
            try clear hfz19_0
            try clear hfz19_1
            try clear hfz30_0
            try clear hfz30_1
            try clear hfz32_0
            try clear hfz32_1
            try clear hfz34_0
            try clear hfz34_1
            try clear hfz36_0
            try clear hfz36_1
            try clear hfz38_0
            try clear hfz38_1
            try clear hfz40_0
            try clear hfz40_1
            try clear hfz48_0
            try clear hfz48_1
            try clear hfz50_0
            try clear hfz50_1
            try clear hfz52_0
            try clear hfz52_1
            try clear hfz55_0
            try clear hfz55_1
            try clear hfz57_0
            try clear hfz57_1
            try clear hfz59_0
            try clear hfz59_1
            try clear hfz63_0
            try clear hfz63_1
            try clear hfz65_0
            try clear hfz65_1
            try clear hfz67_0
            try clear hfz67_1
            try clear hfz71_0
            try clear hfz71_1
            try clear hfz73_0
            try clear hfz73_1
            try clear hfz75_0
            try clear hfz75_1
            try clear hfz83_0
            try clear hfz83_1
            try clear hfz88_0
            try clear hfz88_1
            try clear hfz90_0
            try clear hfz90_1
            try clear p2
            try clear p6
            try clear p64
            obtain ⟨kq, HA, HJ94, BK302, HB⟩ := hcut
            cases kq with
            | zero => exact absurd HA.out (by simp [spokeshavelaw1_WordDivides.j3])
            | succ kj94 =>
              have H := HA.out
              clear HA
              simp only [spokeshavelaw1_WordDivides.j3] at H
              replace H := Option.bind_eq_some_iff.mp H
              obtain ⟨t312, A1070, H⟩ := H
              replace H : ((word_Binary.f kj94 (wrap64 (32 + (wrap64 (32 * (Go.bits .and .i64 a0 1))))) false 11 t303 t312).bind fun bt313 => ((word_Binary.f kj94 (wrap64 (32 + (wrap64 (32 * (Go.bits .and .i64 a0 1))))) false 12 bt313.1 t312).bind fun bt315 => (if bt313.2 = true then (if bt315.2 = true then (if false = true then (if bt315.1 = t303 then ((spokeshavelaw1_awake.f kj94).bind fun t317 => (some t317)) else (none)) else ((spokeshavelaw1_awake.f kj94).bind fun t318 => (some t318))) else (if false = true then ((spokeshavelaw1_awake.f kj94).bind fun t319 => (some t319)) else ((spokeshavelaw1_awake.f kj94).bind fun t320 => (some t320)))) else (if false = true then (if t303 < 0 then ((spokeshavelaw1_awake.f kj94).bind fun t321 => (some t321)) else (if t312 > 0 then ((spokeshavelaw1_awake.f kj94).bind fun t322 => (some t322)) else (none))) else ((spokeshavelaw1_awake.f kj94).bind fun t323 => (some t323)))))) = some r := H
              have A107 := Aside0.mk A1070
              clear A1070
              replace H := Option.bind_eq_some_iff.mp H
              obtain ⟨⟨t313, t314⟩, A1080, H⟩ := H
              replace H : ((word_Binary.f kj94 (wrap64 (32 + (wrap64 (32 * (Go.bits .and .i64 a0 1))))) false 12 t313 t312).bind fun bt315 => (if t314 = true then (if bt315.2 = true then (if false = true then (if bt315.1 = t303 then ((spokeshavelaw1_awake.f kj94).bind fun t317 => (some t317)) else (none)) else ((spokeshavelaw1_awake.f kj94).bind fun t318 => (some t318))) else (if false = true then ((spokeshavelaw1_awake.f kj94).bind fun t319 => (some t319)) else ((spokeshavelaw1_awake.f kj94).bind fun t320 => (some t320)))) else (if false = true then (if t303 < 0 then ((spokeshavelaw1_awake.f kj94).bind fun t321 => (some t321)) else (if t312 > 0 then ((spokeshavelaw1_awake.f kj94).bind fun t322 => (some t322)) else (none))) else ((spokeshavelaw1_awake.f kj94).bind fun t323 => (some t323))))) = some r := H
              have A108 := Aside0.mk A1080
              clear A1080
              replace H := Option.bind_eq_some_iff.mp H
              obtain ⟨⟨t315, t316⟩, A1090, H⟩ := H
              replace H : (if t314 = true then (if t316 = true then (if false = true then (if t315 = t303 then ((spokeshavelaw1_awake.f kj94).bind fun t317 => (some t317)) else (none)) else ((spokeshavelaw1_awake.f kj94).bind fun t318 => (some t318))) else (if false = true then ((spokeshavelaw1_awake.f kj94).bind fun t319 => (some t319)) else ((spokeshavelaw1_awake.f kj94).bind fun t320 => (some t320)))) else (if false = true then (if t303 < 0 then ((spokeshavelaw1_awake.f kj94).bind fun t321 => (some t321)) else (if t312 > 0 then ((spokeshavelaw1_awake.f kj94).bind fun t322 => (some t322)) else (none))) else ((spokeshavelaw1_awake.f kj94).bind fun t323 => (some t323)))) = some r := H
              have A109 := Aside0.mk A1090
              clear A1090
              by_cases c110 : t314 = true
              · subst c110
                have H1 : (if t316 = true then (if false = true then (if t315 = t303 then ((spokeshavelaw1_awake.f kj94).bind fun t317 => (some t317)) else (none)) else ((spokeshavelaw1_awake.f kj94).bind fun t318 => (some t318))) else (if false = true then ((spokeshavelaw1_awake.f kj94).bind fun t319 => (some t319)) else ((spokeshavelaw1_awake.f kj94).bind fun t320 => (some t320)))) = some r := by rw [if_pos rfl] at H; exact H
                clear H
                have H := H1
                clear H1
                by_cases c111 : t316 = true
                · subst c111
                  have H1 : (if false = true then (if t315 = t303 then ((spokeshavelaw1_awake.f kj94).bind fun t317 => (some t317)) else (none)) else ((spokeshavelaw1_awake.f kj94).bind fun t318 => (some t318))) = some r := by rw [if_pos rfl] at H; exact H
                  clear H
                  have H := H1
                  clear H1
                  replace H : ((spokeshavelaw1_awake.f kj94).bind fun t318 => (some t318)) = some r := by rw [if_neg (show ¬ (false = true) by decide)] at H; exact H
                  replace H := Option.bind_eq_some_iff.mp H
                  obtain ⟨t318, A1120, H⟩ := H
                  replace H : (some t318) = some r := H
                  have A112 := Aside0.mk A1120
                  clear A1120
                  obtain rfl := Option.some.inj H
                  have hcz113_0 : wc.cell? ⟨gb302, 0, none⟩ = some (.int .i64 (wrap64 (32 + (wrap64 (32 * (Go.bits .and .i64 a0 1)))))) := (blk_cell BK302.out 0).trans rfl
                  have hcz113_1 : wc.cell? ⟨gb302, 1, none⟩ = some (.bool false) := (blk_cell BK302.out 1).trans rfl
                  have hfz113_0 := blk_frozen BK302.out 0
                  have hfz113_1 := blk_frozen BK302.out 1
                  go_wp2_with (first | ((with_reducible refine gate_callee (f := 17) rfl ?_); refine goesL_ (some 108) rfl rfl Tryd.func17 (by kernel_rfl) rfl #[.int .i64 a3, .int .i64 (wrap64 (32 + (wrap64 (32 * (Go.bits .and .i64 a0 1)))))] rfl (by (try simp only [List.map_toArray, List.map_cons, List.map_nil]); first | done | rfl | (simp only [List.length_drop, List.length_take]; rfl)) ?_; (with_reducible refine (spokeshavelaw0_Low.calls a3 (wrap64 (32 + (wrap64 (32 * (Go.bits .and .i64 a0 1))))) t312 _ A107.out).mono ?_); rintro e w' ⟨rfl, ⟨nd, rfl⟩⟩; refine ⟨_, rfl, ?_⟩) | ((with_reducible refine gate_callee (f := 14) rfl ?_); refine goesL_ (some 113) rfl rfl Tryd.func14 (by kernel_rfl) rfl #[.agg #[.int .i64 (wrap64 (32 + (wrap64 (32 * (Go.bits .and .i64 a0 1))))), .bool false], .int .i64 11, .int .i64 t303, .int .i64 t312] rfl (by (try simp only [List.map_toArray, List.map_cons, List.map_nil]); first | done | rfl | (simp only [List.length_drop, List.length_take]; rfl)) ?_; (with_reducible refine (word_Binary.calls kj94 (wrap64 (32 + (wrap64 (32 * (Go.bits .and .i64 a0 1))))) false 11 t303 t312 t313 true _ A108.out).mono ?_); rintro e w114 ⟨rfl, hb⟩; refine ⟨_, rfl, ?_⟩; have n0_ := Aside0.mk (blk_below (g := gb302) (o := .cells #[.int .i64 (wrap64 (32 + (wrap64 (32 * (Go.bits .and .i64 a0 1))))), .bool false] 26 (0, 0)) (by (with_reducible repeat (first | refine blk_drewN ?_ _ | refine blk_drew ?_ | refine blk_alloc ?_ _)); exact BK302.out) hb); have n1_ := Aside0.mk (below_step (by repeat (first | (with_reducible first | exact HB.out | apply below_alloc | apply pw_below_drewN | apply below_drew1 | refine below_set ?_ GE302.out) | exact HB.out)) hb); clear BK302; clear HB; have BK302 := n0_; have HB := n1_; clear n0_ n1_; (try clear hb); (try clear hb2); (try clear hk); (try clear hi); have hcz115_0 : w114.cell? ⟨gb302, 0, none⟩ = some (.int .i64 (wrap64 (32 + (wrap64 (32 * (Go.bits .and .i64 a0 1)))))) := (blk_cell BK302.out 0).trans rfl; have hcz115_1 : w114.cell? ⟨gb302, 1, none⟩ = some (.bool false) := (blk_cell BK302.out 1).trans rfl; have hfz115_0 := blk_frozen BK302.out 0; have hfz115_1 := blk_frozen BK302.out 1) | ((with_reducible refine gate_callee (f := 14) rfl ?_); refine goesL_ (some 120) rfl rfl Tryd.func14 (by kernel_rfl) rfl #[.agg #[.int .i64 (wrap64 (32 + (wrap64 (32 * (Go.bits .and .i64 a0 1))))), .bool false], .int .i64 12, .int .i64 t313, .int .i64 t312] rfl (by (try simp only [List.map_toArray, List.map_cons, List.map_nil]); first | done | rfl | (simp only [List.length_drop, List.length_take]; rfl)) ?_; (with_reducible refine (word_Binary.calls kj94 (wrap64 (32 + (wrap64 (32 * (Go.bits .and .i64 a0 1))))) false 12 t313 t312 t315 true _ A109.out).mono ?_); rintro e w116 ⟨rfl, hb⟩; refine ⟨_, rfl, ?_⟩; have n0_ := Aside0.mk (blk_below (g := gb302) (o := .cells #[.int .i64 (wrap64 (32 + (wrap64 (32 * (Go.bits .and .i64 a0 1))))), .bool false] 26 (0, 0)) (by (with_reducible repeat (first | refine blk_drewN ?_ _ | refine blk_drew ?_ | refine blk_alloc ?_ _)); exact BK302.out) hb); have n1_ := Aside0.mk (below_step (by repeat (first | (with_reducible first | exact HB.out | apply below_alloc | apply pw_below_drewN | apply below_drew1 | refine below_set ?_ GE302.out) | exact HB.out)) hb); clear BK302; clear HB; have BK302 := n0_; have HB := n1_; clear n0_ n1_; (try clear hb); (try clear hb2); (try clear hk); (try clear hi); have hcz117_0 : w116.cell? ⟨gb302, 0, none⟩ = some (.int .i64 (wrap64 (32 + (wrap64 (32 * (Go.bits .and .i64 a0 1)))))) := (blk_cell BK302.out 0).trans rfl; have hcz117_1 : w116.cell? ⟨gb302, 1, none⟩ = some (.bool false) := (blk_cell BK302.out 1).trans rfl; have hfz117_0 := blk_frozen BK302.out 0; have hfz117_1 := blk_frozen BK302.out 1) | (go_at_call 16; (with_reducible refine (spokeshavelaw1_awake.calls kj94  t318 _ A112.out).mono ?_); rintro e w118 ⟨rfl, hb⟩; have n0_ := Aside0.mk (blk_below (g := gb302) (o := .cells #[.int .i64 (wrap64 (32 + (wrap64 (32 * (Go.bits .and .i64 a0 1))))), .bool false] 26 (0, 0)) (by (with_reducible repeat (first | refine blk_drewN ?_ _ | refine blk_drew ?_ | refine blk_alloc ?_ _)); exact BK302.out) hb); have n1_ := Aside0.mk (below_step (by repeat (first | (with_reducible first | exact HB.out | apply below_alloc | apply pw_below_drewN | apply below_drew1 | refine below_set ?_ GE302.out) | exact HB.out)) hb); clear BK302; clear HB; have BK302 := n0_; have HB := n1_; clear n0_ n1_; (try clear hb); (try clear hb2); (try clear hk); (try clear hi)))
                  go_ret
                  exact ⟨by first | rfl | (simp [errW_none, errW_some] <;> rfl) | (simp [*, errW_none, errW_some] <;> rfl), by repeat (first | (with_reducible first | exact HB.out | apply below_alloc | apply pw_below_drewN | apply below_drew1 | refine below_set ?_ GE302.out) | exact HB.out)⟩
                · replace c111 := Bool.eq_false_iff.mpr c111
                  subst c111
                  have H1 : (if false = true then ((spokeshavelaw1_awake.f kj94).bind fun t319 => (some t319)) else ((spokeshavelaw1_awake.f kj94).bind fun t320 => (some t320))) = some r := by rw [if_neg (show ¬ (false = true) by decide)] at H; exact H
                  clear H
                  have H := H1
                  clear H1
                  replace H : ((spokeshavelaw1_awake.f kj94).bind fun t320 => (some t320)) = some r := by rw [if_neg (show ¬ (false = true) by decide)] at H; exact H
                  replace H := Option.bind_eq_some_iff.mp H
                  obtain ⟨t320, A1190, H⟩ := H
                  replace H : (some t320) = some r := H
                  have A119 := Aside0.mk A1190
                  clear A1190
                  obtain rfl := Option.some.inj H
                  have hcz120_0 : wc.cell? ⟨gb302, 0, none⟩ = some (.int .i64 (wrap64 (32 + (wrap64 (32 * (Go.bits .and .i64 a0 1)))))) := (blk_cell BK302.out 0).trans rfl
                  have hcz120_1 : wc.cell? ⟨gb302, 1, none⟩ = some (.bool false) := (blk_cell BK302.out 1).trans rfl
                  have hfz120_0 := blk_frozen BK302.out 0
                  have hfz120_1 := blk_frozen BK302.out 1
                  go_wp2_with (first | ((with_reducible refine gate_callee (f := 17) rfl ?_); refine goesL_ (some 108) rfl rfl Tryd.func17 (by kernel_rfl) rfl #[.int .i64 a3, .int .i64 (wrap64 (32 + (wrap64 (32 * (Go.bits .and .i64 a0 1)))))] rfl (by (try simp only [List.map_toArray, List.map_cons, List.map_nil]); first | done | rfl | (simp only [List.length_drop, List.length_take]; rfl)) ?_; (with_reducible refine (spokeshavelaw0_Low.calls a3 (wrap64 (32 + (wrap64 (32 * (Go.bits .and .i64 a0 1))))) t312 _ A107.out).mono ?_); rintro e w' ⟨rfl, ⟨nd, rfl⟩⟩; refine ⟨_, rfl, ?_⟩) | ((with_reducible refine gate_callee (f := 14) rfl ?_); refine goesL_ (some 113) rfl rfl Tryd.func14 (by kernel_rfl) rfl #[.agg #[.int .i64 (wrap64 (32 + (wrap64 (32 * (Go.bits .and .i64 a0 1))))), .bool false], .int .i64 11, .int .i64 t303, .int .i64 t312] rfl (by (try simp only [List.map_toArray, List.map_cons, List.map_nil]); first | done | rfl | (simp only [List.length_drop, List.length_take]; rfl)) ?_; (with_reducible refine (word_Binary.calls kj94 (wrap64 (32 + (wrap64 (32 * (Go.bits .and .i64 a0 1))))) false 11 t303 t312 t313 true _ A108.out).mono ?_); rintro e w121 ⟨rfl, hb⟩; refine ⟨_, rfl, ?_⟩; have n0_ := Aside0.mk (blk_below (g := gb302) (o := .cells #[.int .i64 (wrap64 (32 + (wrap64 (32 * (Go.bits .and .i64 a0 1))))), .bool false] 26 (0, 0)) (by (with_reducible repeat (first | refine blk_drewN ?_ _ | refine blk_drew ?_ | refine blk_alloc ?_ _)); exact BK302.out) hb); have n1_ := Aside0.mk (below_step (by repeat (first | (with_reducible first | exact HB.out | apply below_alloc | apply pw_below_drewN | apply below_drew1 | refine below_set ?_ GE302.out) | exact HB.out)) hb); clear BK302; clear HB; have BK302 := n0_; have HB := n1_; clear n0_ n1_; (try clear hb); (try clear hb2); (try clear hk); (try clear hi); have hcz122_0 : w121.cell? ⟨gb302, 0, none⟩ = some (.int .i64 (wrap64 (32 + (wrap64 (32 * (Go.bits .and .i64 a0 1)))))) := (blk_cell BK302.out 0).trans rfl; have hcz122_1 : w121.cell? ⟨gb302, 1, none⟩ = some (.bool false) := (blk_cell BK302.out 1).trans rfl; have hfz122_0 := blk_frozen BK302.out 0; have hfz122_1 := blk_frozen BK302.out 1) | ((with_reducible refine gate_callee (f := 14) rfl ?_); refine goesL_ (some 120) rfl rfl Tryd.func14 (by kernel_rfl) rfl #[.agg #[.int .i64 (wrap64 (32 + (wrap64 (32 * (Go.bits .and .i64 a0 1))))), .bool false], .int .i64 12, .int .i64 t313, .int .i64 t312] rfl (by (try simp only [List.map_toArray, List.map_cons, List.map_nil]); first | done | rfl | (simp only [List.length_drop, List.length_take]; rfl)) ?_; (with_reducible refine (word_Binary.calls kj94 (wrap64 (32 + (wrap64 (32 * (Go.bits .and .i64 a0 1))))) false 12 t313 t312 t315 false _ A109.out).mono ?_); rintro e w123 ⟨rfl, hb⟩; refine ⟨_, rfl, ?_⟩; have n0_ := Aside0.mk (blk_below (g := gb302) (o := .cells #[.int .i64 (wrap64 (32 + (wrap64 (32 * (Go.bits .and .i64 a0 1))))), .bool false] 26 (0, 0)) (by (with_reducible repeat (first | refine blk_drewN ?_ _ | refine blk_drew ?_ | refine blk_alloc ?_ _)); exact BK302.out) hb); have n1_ := Aside0.mk (below_step (by repeat (first | (with_reducible first | exact HB.out | apply below_alloc | apply pw_below_drewN | apply below_drew1 | refine below_set ?_ GE302.out) | exact HB.out)) hb); clear BK302; clear HB; have BK302 := n0_; have HB := n1_; clear n0_ n1_; (try clear hb); (try clear hb2); (try clear hk); (try clear hi); have hcz124_0 : w123.cell? ⟨gb302, 0, none⟩ = some (.int .i64 (wrap64 (32 + (wrap64 (32 * (Go.bits .and .i64 a0 1)))))) := (blk_cell BK302.out 0).trans rfl; have hcz124_1 : w123.cell? ⟨gb302, 1, none⟩ = some (.bool false) := (blk_cell BK302.out 1).trans rfl; have hfz124_0 := blk_frozen BK302.out 0; have hfz124_1 := blk_frozen BK302.out 1) | (go_at_call 16; (with_reducible refine (spokeshavelaw1_awake.calls kj94  t320 _ A119.out).mono ?_); rintro e w125 ⟨rfl, hb⟩; have n0_ := Aside0.mk (blk_below (g := gb302) (o := .cells #[.int .i64 (wrap64 (32 + (wrap64 (32 * (Go.bits .and .i64 a0 1))))), .bool false] 26 (0, 0)) (by (with_reducible repeat (first | refine blk_drewN ?_ _ | refine blk_drew ?_ | refine blk_alloc ?_ _)); exact BK302.out) hb); have n1_ := Aside0.mk (below_step (by repeat (first | (with_reducible first | exact HB.out | apply below_alloc | apply pw_below_drewN | apply below_drew1 | refine below_set ?_ GE302.out) | exact HB.out)) hb); clear BK302; clear HB; have BK302 := n0_; have HB := n1_; clear n0_ n1_; (try clear hb); (try clear hb2); (try clear hk); (try clear hi)))
                  go_ret
                  exact ⟨by first | rfl | (simp [errW_none, errW_some] <;> rfl) | (simp [*, errW_none, errW_some] <;> rfl), by repeat (first | (with_reducible first | exact HB.out | apply below_alloc | apply pw_below_drewN | apply below_drew1 | refine below_set ?_ GE302.out) | exact HB.out)⟩
              · replace c110 := Bool.eq_false_iff.mpr c110
                subst c110
                have H1 : (if false = true then (if t303 < 0 then ((spokeshavelaw1_awake.f kj94).bind fun t321 => (some t321)) else (if t312 > 0 then ((spokeshavelaw1_awake.f kj94).bind fun t322 => (some t322)) else (none))) else ((spokeshavelaw1_awake.f kj94).bind fun t323 => (some t323))) = some r := by rw [if_neg (show ¬ (false = true) by decide)] at H; exact H
                clear H
                have H := H1
                clear H1
                replace H : ((spokeshavelaw1_awake.f kj94).bind fun t323 => (some t323)) = some r := by rw [if_neg (show ¬ (false = true) by decide)] at H; exact H
                replace H := Option.bind_eq_some_iff.mp H
                obtain ⟨t323, A1260, H⟩ := H
                replace H : (some t323) = some r := H
                have A126 := Aside0.mk A1260
                clear A1260
                obtain rfl := Option.some.inj H
                have hcz127_0 : wc.cell? ⟨gb302, 0, none⟩ = some (.int .i64 (wrap64 (32 + (wrap64 (32 * (Go.bits .and .i64 a0 1)))))) := (blk_cell BK302.out 0).trans rfl
                have hcz127_1 : wc.cell? ⟨gb302, 1, none⟩ = some (.bool false) := (blk_cell BK302.out 1).trans rfl
                have hfz127_0 := blk_frozen BK302.out 0
                have hfz127_1 := blk_frozen BK302.out 1
                go_wp2_with (first | ((with_reducible refine gate_callee (f := 17) rfl ?_); refine goesL_ (some 108) rfl rfl Tryd.func17 (by kernel_rfl) rfl #[.int .i64 a3, .int .i64 (wrap64 (32 + (wrap64 (32 * (Go.bits .and .i64 a0 1)))))] rfl (by (try simp only [List.map_toArray, List.map_cons, List.map_nil]); first | done | rfl | (simp only [List.length_drop, List.length_take]; rfl)) ?_; (with_reducible refine (spokeshavelaw0_Low.calls a3 (wrap64 (32 + (wrap64 (32 * (Go.bits .and .i64 a0 1))))) t312 _ A107.out).mono ?_); rintro e w' ⟨rfl, ⟨nd, rfl⟩⟩; refine ⟨_, rfl, ?_⟩) | ((with_reducible refine gate_callee (f := 14) rfl ?_); refine goesL_ (some 113) rfl rfl Tryd.func14 (by kernel_rfl) rfl #[.agg #[.int .i64 (wrap64 (32 + (wrap64 (32 * (Go.bits .and .i64 a0 1))))), .bool false], .int .i64 11, .int .i64 t303, .int .i64 t312] rfl (by (try simp only [List.map_toArray, List.map_cons, List.map_nil]); first | done | rfl | (simp only [List.length_drop, List.length_take]; rfl)) ?_; (with_reducible refine (word_Binary.calls kj94 (wrap64 (32 + (wrap64 (32 * (Go.bits .and .i64 a0 1))))) false 11 t303 t312 t313 false _ A108.out).mono ?_); rintro e w128 ⟨rfl, hb⟩; refine ⟨_, rfl, ?_⟩; have n0_ := Aside0.mk (blk_below (g := gb302) (o := .cells #[.int .i64 (wrap64 (32 + (wrap64 (32 * (Go.bits .and .i64 a0 1))))), .bool false] 26 (0, 0)) (by (with_reducible repeat (first | refine blk_drewN ?_ _ | refine blk_drew ?_ | refine blk_alloc ?_ _)); exact BK302.out) hb); have n1_ := Aside0.mk (below_step (by repeat (first | (with_reducible first | exact HB.out | apply below_alloc | apply pw_below_drewN | apply below_drew1 | refine below_set ?_ GE302.out) | exact HB.out)) hb); clear BK302; clear HB; have BK302 := n0_; have HB := n1_; clear n0_ n1_; (try clear hb); (try clear hb2); (try clear hk); (try clear hi); have hcz129_0 : w128.cell? ⟨gb302, 0, none⟩ = some (.int .i64 (wrap64 (32 + (wrap64 (32 * (Go.bits .and .i64 a0 1)))))) := (blk_cell BK302.out 0).trans rfl; have hcz129_1 : w128.cell? ⟨gb302, 1, none⟩ = some (.bool false) := (blk_cell BK302.out 1).trans rfl; have hfz129_0 := blk_frozen BK302.out 0; have hfz129_1 := blk_frozen BK302.out 1) | ((with_reducible refine gate_callee (f := 14) rfl ?_); refine goesL_ (some 120) rfl rfl Tryd.func14 (by kernel_rfl) rfl #[.agg #[.int .i64 (wrap64 (32 + (wrap64 (32 * (Go.bits .and .i64 a0 1))))), .bool false], .int .i64 12, .int .i64 t313, .int .i64 t312] rfl (by (try simp only [List.map_toArray, List.map_cons, List.map_nil]); first | done | rfl | (simp only [List.length_drop, List.length_take]; rfl)) ?_; (with_reducible refine (word_Binary.calls kj94 (wrap64 (32 + (wrap64 (32 * (Go.bits .and .i64 a0 1))))) false 12 t313 t312 t315 t316 _ A109.out).mono ?_); rintro e w130 ⟨rfl, hb⟩; refine ⟨_, rfl, ?_⟩; have n0_ := Aside0.mk (blk_below (g := gb302) (o := .cells #[.int .i64 (wrap64 (32 + (wrap64 (32 * (Go.bits .and .i64 a0 1))))), .bool false] 26 (0, 0)) (by (with_reducible repeat (first | refine blk_drewN ?_ _ | refine blk_drew ?_ | refine blk_alloc ?_ _)); exact BK302.out) hb); have n1_ := Aside0.mk (below_step (by repeat (first | (with_reducible first | exact HB.out | apply below_alloc | apply pw_below_drewN | apply below_drew1 | refine below_set ?_ GE302.out) | exact HB.out)) hb); clear BK302; clear HB; have BK302 := n0_; have HB := n1_; clear n0_ n1_; (try clear hb); (try clear hb2); (try clear hk); (try clear hi); have hcz131_0 : w130.cell? ⟨gb302, 0, none⟩ = some (.int .i64 (wrap64 (32 + (wrap64 (32 * (Go.bits .and .i64 a0 1)))))) := (blk_cell BK302.out 0).trans rfl; have hcz131_1 : w130.cell? ⟨gb302, 1, none⟩ = some (.bool false) := (blk_cell BK302.out 1).trans rfl; have hfz131_0 := blk_frozen BK302.out 0; have hfz131_1 := blk_frozen BK302.out 1) | (go_at_call 16; (with_reducible refine (spokeshavelaw1_awake.calls kj94  t323 _ A126.out).mono ?_); rintro e w132 ⟨rfl, hb⟩; have n0_ := Aside0.mk (blk_below (g := gb302) (o := .cells #[.int .i64 (wrap64 (32 + (wrap64 (32 * (Go.bits .and .i64 a0 1))))), .bool false] 26 (0, 0)) (by (with_reducible repeat (first | refine blk_drewN ?_ _ | refine blk_drew ?_ | refine blk_alloc ?_ _)); exact BK302.out) hb); have n1_ := Aside0.mk (below_step (by repeat (first | (with_reducible first | exact HB.out | apply below_alloc | apply pw_below_drewN | apply below_drew1 | refine below_set ?_ GE302.out) | exact HB.out)) hb); clear BK302; clear HB; have BK302 := n0_; have HB := n1_; clear n0_ n1_; (try clear hb); (try clear hb2); (try clear hk); (try clear hi)))
                go_ret
                exact ⟨by first | rfl | (simp [errW_none, errW_some] <;> rfl) | (simp [*, errW_none, errW_some] <;> rfl), by repeat (first | (with_reducible first | exact HB.out | apply below_alloc | apply pw_below_drewN | apply below_drew1 | refine below_set ?_ GE302.out) | exact HB.out)⟩

/-- THE ONE PURE STATEMENT of spokeshavelaw1_WordDivides: yours. -/
def spokeshavelaw1_WordDivides.Pure : Prop := ∀ (a0 : Int) (a1 : Int) (a2 : Int) (a3 : Int), (Lit.int .i64 a0).wf = true → (Lit.int .i64 a1).wf = true → (Lit.int .i64 a2).wf = true → (Lit.int .i64 a3).wf = true → ∃ k, spokeshavelaw1_WordDivides.f k a0 a1 a2 a3 = some true
theorem spokeshavelaw1_WordDivides.walk (P : spokeshavelaw1_WordDivides.Pure) (a0 : Int) (a1 : Int) (a2 : Int) (a3 : Int) (w : World) (w0 : (Lit.int .i64 a0).wf = true) (w1 : (Lit.int .i64 a1).wf = true) (w2 : (Lit.int .i64 a2).wf = true) (w3 : (Lit.int .i64 a3).wf = true) :
    Calls Tryd.prog 6 #[.int .i64 a0, .int .i64 a1, .int .i64 a2, .int .i64 a3] w fun e w' => e = .returned (.bool true) ∧ Below w.heap.size w w' := by
  obtain ⟨k, h⟩ := P a0 a1 a2 a3 w0 w1 w2 w3
  refine (spokeshavelaw1_WordDivides.calls k a0 a1 a2 a3 true w h).mono ?_
  rintro e w' ⟨rfl, hd⟩
  exact ⟨rfl, hd⟩

end Go.Proofs.YthkcdmkimnockaaDoor.PWord
