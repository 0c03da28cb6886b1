-- PRINTED by print.py (a twelfth state) out of the translation. Not trusted: Lean checks it.
import Derived.Test.YthkcdmkimnockaaDoorPWordAw
import Derived.Test.YthkcdmkimnockaaDoorPWordx0
import Derived.Test.YthkcdmkimnockaaDoorPWordx1
import Derived.Test.YthkcdmkimnockaaDoorPWordx13
import Derived.Test.YthkcdmkimnockaaDoorPWordx2
import Derived.Test.YthkcdmkimnockaaDoorPWordx9
namespace Go.Proofs.YthkcdmkimnockaaDoor.PWord
open Go.RowKit Go.Proofs.YthkcdmkimnockaaDoorW.PrintWords Go.Proofs.YthkcdmkimnockaaDoorW.PrintLast Go.Proofs.YthkcdmkimnockaaDoorW.PrintMore
attribute [local go_sem] max2_int min2_int max_two min_two max_three min_three max_four min_four   -- for this text's walks alone
set_option linter.unusedVariables false
set_option linter.unusedSimpArgs false

attribute [local go_sem high] eqA26
/-! ### spokeshavelaw1_WordUsualA: function 5 -/
def spokeshavelaw1_WordUsualA.f (k : Nat) (a0 : Int) (a1 : Int) (a2 : Int) : Option (Bool) := (spokeshavelaw1_widths.f k).bind fun t101 => ((spokeshavelaw0_Low.f a0 8).bind fun t104 => (if 0 ≤ t104 then (if t104 < (t101.length : Int) then ((spokeshavelaw0_Low.f a1 8).bind fun t106 => (if 0 ≤ t106 then (if t106 < (t101.length : Int) then ((word_Usual.f k ((rd_T26 t101 t104).f0) ((rd_T26 t101 t104).f1) ((rd_T26 t101 t106).f0) ((rd_T26 t101 t106).f1)).bind fun bt110 => ((word_Wrap.f ((rd_T26 t101 t104).f0) ((rd_T26 t101 t104).f1) a2).bind fun t113 => ((word_May.f bt110.1 bt110.2).bind fun t114 => (if t114 = true then (if bt110.1 ≥ 32 then ((word_Usual.f k ((rd_T26 t101 t106).f0) ((rd_T26 t101 t106).f1) ((rd_T26 t101 t104).f0) ((rd_T26 t101 t104).f1)).bind fun bt115 => (if (bt110.1 == bt115.1 && (bt110.2 == bt115.2)) = true then ((word_Usual.f k bt110.1 bt110.2 bt110.1 bt110.2).bind fun bt117 => (if (bt117.1 == bt110.1 && (bt117.2 == bt110.2)) = true then ((word_Usual.f k bt110.1 bt110.2 ((rd_T26 t101 t104).f0) ((rd_T26 t101 t104).f1)).bind fun bt119 => (if (bt119.1 == bt110.1 && (bt119.2 == bt110.2)) = true then (if bt110.1 ≥ ((rd_T26 t101 t104).f0) then (if bt110.2 = true then ((word_Is.f bt110.1 bt110.2 t113).bind fun t121 => (if t121 = true then ((spokeshavelaw1_awakeB.f k).bind fun t122 => (some t122)) else (none))) else (if t113 < 0 then (if (rd_T26 t101 t104).f1 = true then ((spokeshavelaw1_awakeB.f k).bind fun t123 => (none)) else ((word_Is.f bt110.1 bt110.2 t113).bind fun t124 => (if t124 = true then ((spokeshavelaw1_awakeB.f k).bind fun t125 => (none)) else (none)))) else ((word_Is.f bt110.1 bt110.2 t113).bind fun t126 => (if t126 = true then ((spokeshavelaw1_awakeB.f k).bind fun t127 => (none)) else (none))))) else (none)) else (none))) else (none))) else (none))) else (none)) else (none))))) else (none)) else (none))) else (none)) else (none)))
theorem spokeshavelaw1_WordUsualA.mono : ∀ a0 a1 a2 k, LeO (spokeshavelaw1_WordUsualA.f k a0 a1 a2) (spokeshavelaw1_WordUsualA.f (k + 1) a0 a1 a2) := by
 intro a0 a1 a2 k
 unfold spokeshavelaw1_WordUsualA.f
 repeat' first
   | (with_reducible exact spokeshavelaw1_awakeB.mono _)
   | (with_reducible exact spokeshavelaw1_widths.mono _)
   | (with_reducible exact word_Usual.mono _ _ _ _ _)
   | (with_reducible exact LeO.refl _)
   | (with_reducible exact LeO.none _)
   | (with_reducible refine LeO.ite ?_ ?_)
   | (with_reducible refine LeO.bind ?_ (fun _ => ?_))
   | exact spokeshavelaw1_awakeB.mono _
   | exact spokeshavelaw1_widths.mono _
   | exact word_Usual.mono _ _ _ _ _
   | exact LeO.none _
   | refine LeO.ite ?_ ?_
   | refine LeO.bind ?_ (fun _ => ?_)
def spokeshavelaw1_WordUsualA.T2 : Bool × List (List Nat × List Nat) := (true, [([], []), ([], []), ([1], [1]), ([0, 2], [0, 2]), ([3], [3]), ([], []), ([], []), ([6, 2], [6]), ([5, 7], [5, 7]), ([8], [8]), ([], []), ([], []), ([10, 4, 7, 0, 1, 2, 3, 4, 10, 11], [4, 10]), ([11, 9, 12, 0, 1, 2, 3, 4, 5, 6, 7, 8, 9, 10, 11, 12], [9, 11])])
def spokeshavelaw1_WordUsualA.B2 : List Nat := [0, 0, 2, 7, 15, 0, 0, 70, 230, 486, 0, 0, 3295, 8191]
theorem spokeshavelaw1_WordUsualA.tab2 : rtab .any (opsOf Tryd.f5 2) = spokeshavelaw1_WordUsualA.T2 := by kernel_rfl
theorem spokeshavelaw1_WordUsualA.bits2 : waitsOk spokeshavelaw1_WordUsualA.T2.2 spokeshavelaw1_WordUsualA.B2 = true := by kernel_rfl
def spokeshavelaw1_WordUsualA.T5 : Bool × List (List Nat × List Nat) := (true, [([], []), ([0], [0]), ([1, 1], [1]), ([2], [2]), ([3, 2], [2, 3]), ([4, 2], [2, 4]), ([2, 5], [2, 5]), ([6, 2], [6]), ([7], [7]), ([7], [7]), ([7], [7]), ([9, 10, 7, 7], [7, 9, 10]), ([8, 11, 7], [7, 8, 11]), ([7, 12], [7, 12]), ([13, 11], [13]), ([14], [14]), ([14], [14]), ([15, 16, 14, 14], [14, 15, 16]), ([14], [14]), ([17, 18, 14], [14, 17, 18]), ([14, 19], [14, 19]), ([20, 17], [20]), ([21], [21]), ([21], [21]), ([22, 23, 21, 21], [21, 22, 23]), ([21], [21]), ([24, 25, 21], [21, 24, 25]), ([21, 26], [21, 26]), ([27, 24], [27]), ([28], [28]), ([29, 28], [28, 29]), ([28], [28]), ([31, 28], [28, 31]), ([30, 32, 28], [28, 30, 32]), ([28, 33], [28, 33]), ([34, 28], [34]), ([35], [35]), ([36, 35], [35, 36]), ([37, 35], [35, 37]), ([38, 35, 35], [35, 38]), ([39], [39]), ([40, 39], [39, 40]), ([39, 41, 35], [35, 39, 41]), ([42, 39, 35], [35, 42]), ([43], [43]), ([44, 43], [43, 44]), ([43, 45, 35], [35, 43, 45]), ([46, 43, 35], [35, 46]), ([47], [47]), ([47], [47]), ([48, 49, 47, 47], [47, 48, 49]), ([47, 50, 35], [35, 47, 50]), ([35, 51], [35, 51]), ([52, 50], [52]), ([53, 53], [53]), ([53, 54], [53, 54]), ([55, 54, 0, 1, 2, 3, 4, 5, 6, 7, 8, 9, 10, 11, 12, 13, 14, 15, 16, 17, 18, 19, 20, 21, 22, 23, 24, 25, 26, 27, 28, 29, 30, 31, 32, 33, 34, 35, 36, 37, 38, 39, 40, 41, 42, 43, 44, 45, 46, 47, 48, 49, 50, 51, 52, 53, 54, 55], [55])])
def spokeshavelaw1_WordUsualA.B5 : List Nat := [0, 1, 3, 7, 15, 31, 63, 127, 255, 255, 255, 1791, 4095, 8191, 16383, 32767, 32767, 131071, 32767, 524287, 1048575, 2097151, 4194303, 4194303, 16777215, 4194303, 67108863, 134217727, 268435455, 536870911, 1073741823, 536870911, 2684354559, 8589934591, 17179869183, 34359738367, 68719476735, 137438953471, 274877906943, 549755813887, 1099511627775, 2199023255551, 4398046511103, 8796093022207, 17592186044415, 35184372088831, 70368744177663, 140737488355327, 281474976710655, 281474976710655, 1125899906842623, 2251799813685247, 4503599627370495, 9007199254740991, 18014398509481983, 36028797018963967, 72057594037927935]
theorem spokeshavelaw1_WordUsualA.tab5 : rtab .any (opsOf Tryd.f5 5) = spokeshavelaw1_WordUsualA.T5 := by kernel_rfl
theorem spokeshavelaw1_WordUsualA.bits5 : waitsOk spokeshavelaw1_WordUsualA.T5.2 spokeshavelaw1_WordUsualA.B5 = true := by kernel_rfl
set_option maxHeartbeats 8000000 in
set_option maxRecDepth 100000 in
theorem spokeshavelaw1_WordUsualA.calls (k : Nat) (a0 : Int) (a1 : Int) (a2 : Int) (r : Bool) (w : World) (h : spokeshavelaw1_WordUsualA.f k a0 a1 a2 = some r) :
  Calls Tryd.prog 5 #[.int .i64 a0, .int .i64 a1, .int .i64 a2] w fun e w' => e = .returned (.bool r) ∧ Below w.heap.size w w' := by
 have hu26 := Tryd.underlying26
 have HB := Aside0.mk (Below.refl w.heap.size w)
 have H : ((spokeshavelaw1_widths.f k).bind fun t101 => ((spokeshavelaw0_Low.f a0 8).bind fun t104 => (if 0 ≤ t104 then (if t104 < (t101.length : Int) then ((spokeshavelaw0_Low.f a1 8).bind fun t106 => (if 0 ≤ t106 then (if t106 < (t101.length : Int) then ((word_Usual.f k ((rd_T26 t101 t104).f0) ((rd_T26 t101 t104).f1) ((rd_T26 t101 t106).f0) ((rd_T26 t101 t106).f1)).bind fun bt110 => ((word_Wrap.f ((rd_T26 t101 t104).f0) ((rd_T26 t101 t104).f1) a2).bind fun t113 => ((word_May.f bt110.1 bt110.2).bind fun t114 => (if t114 = true then (if bt110.1 ≥ 32 then ((word_Usual.f k ((rd_T26 t101 t106).f0) ((rd_T26 t101 t106).f1) ((rd_T26 t101 t104).f0) ((rd_T26 t101 t104).f1)).bind fun bt115 => (if (bt110.1 == bt115.1 && (bt110.2 == bt115.2)) = true then ((word_Usual.f k bt110.1 bt110.2 bt110.1 bt110.2).bind fun bt117 => (if (bt117.1 == bt110.1 && (bt117.2 == bt110.2)) = true then ((word_Usual.f k bt110.1 bt110.2 ((rd_T26 t101 t104).f0) ((rd_T26 t101 t104).f1)).bind fun bt119 => (if (bt119.1 == bt110.1 && (bt119.2 == bt110.2)) = true then (if bt110.1 ≥ ((rd_T26 t101 t104).f0) then (if bt110.2 = true then ((word_Is.f bt110.1 bt110.2 t113).bind fun t121 => (if t121 = true then ((spokeshavelaw1_awakeB.f k).bind fun t122 => (some t122)) else (none))) else (if t113 < 0 then (if (rd_T26 t101 t104).f1 = true then ((spokeshavelaw1_awakeB.f k).bind fun t123 => (none)) else ((word_Is.f bt110.1 bt110.2 t113).bind fun t124 => (if t124 = true then ((spokeshavelaw1_awakeB.f k).bind fun t125 => (none)) else (none)))) else ((word_Is.f bt110.1 bt110.2 t113).bind fun t126 => (if t126 = true then ((spokeshavelaw1_awakeB.f k).bind fun t127 => (none)) else (none))))) else (none)) else (none))) else (none))) else (none))) else (none)) else (none))))) else (none)) else (none))) else (none)) else (none)))) = some r := h
 clear h
 replace H := Option.bind_eq_some_iff.mp H
 obtain ⟨t101, A40, H⟩ := H
 replace H : ((spokeshavelaw0_Low.f a0 8).bind fun t104 => (if 0 ≤ t104 then (if t104 < (t101.length : Int) then ((spokeshavelaw0_Low.f a1 8).bind fun t106 => (if 0 ≤ t106 then (if t106 < (t101.length : Int) then ((word_Usual.f k ((rd_T26 t101 t104).f0) ((rd_T26 t101 t104).f1) ((rd_T26 t101 t106).f0) ((rd_T26 t101 t106).f1)).bind fun bt110 => ((word_Wrap.f ((rd_T26 t101 t104).f0) ((rd_T26 t101 t104).f1) a2).bind fun t113 => ((word_May.f bt110.1 bt110.2).bind fun t114 => (if t114 = true then (if bt110.1 ≥ 32 then ((word_Usual.f k ((rd_T26 t101 t106).f0) ((rd_T26 t101 t106).f1) ((rd_T26 t101 t104).f0) ((rd_T26 t101 t104).f1)).bind fun bt115 => (if (bt110.1 == bt115.1 && (bt110.2 == bt115.2)) = true then ((word_Usual.f k bt110.1 bt110.2 bt110.1 bt110.2).bind fun bt117 => (if (bt117.1 == bt110.1 && (bt117.2 == bt110.2)) = true then ((word_Usual.f k bt110.1 bt110.2 ((rd_T26 t101 t104).f0) ((rd_T26 t101 t104).f1)).bind fun bt119 => (if (bt119.1 == bt110.1 && (bt119.2 == bt110.2)) = true then (if bt110.1 ≥ ((rd_T26 t101 t104).f0) then (if bt110.2 = true then ((word_Is.f bt110.1 bt110.2 t113).bind fun t121 => (if t121 = true then ((spokeshavelaw1_awakeB.f k).bind fun t122 => (some t122)) else (none))) else (if t113 < 0 then (if (rd_T26 t101 t104).f1 = true then ((spokeshavelaw1_awakeB.f k).bind fun t123 => (none)) else ((word_Is.f bt110.1 bt110.2 t113).bind fun t124 => (if t124 = true then ((spokeshavelaw1_awakeB.f k).bind fun t125 => (none)) else (none)))) else ((word_Is.f bt110.1 bt110.2 t113).bind fun t126 => (if t126 = true then ((spokeshavelaw1_awakeB.f k).bind fun t127 => (none)) else (none))))) else (none)) else (none))) else (none))) else (none))) else (none)) else (none))))) else (none)) else (none))) else (none)) else (none))) = some r := H
 have A4 := Aside0.mk A40
 clear A40
 replace H := Option.bind_eq_some_iff.mp H
 obtain ⟨t104, A50, H⟩ := H
 replace H : (if 0 ≤ t104 then (if t104 < (t101.length : Int) then ((spokeshavelaw0_Low.f a1 8).bind fun t106 => (if 0 ≤ t106 then (if t106 < (t101.length : Int) then ((word_Usual.f k ((rd_T26 t101 t104).f0) ((rd_T26 t101 t104).f1) ((rd_T26 t101 t106).f0) ((rd_T26 t101 t106).f1)).bind fun bt110 => ((word_Wrap.f ((rd_T26 t101 t104).f0) ((rd_T26 t101 t104).f1) a2).bind fun t113 => ((word_May.f bt110.1 bt110.2).bind fun t114 => (if t114 = true then (if bt110.1 ≥ 32 then ((word_Usual.f k ((rd_T26 t101 t106).f0) ((rd_T26 t101 t106).f1) ((rd_T26 t101 t104).f0) ((rd_T26 t101 t104).f1)).bind fun bt115 => (if (bt110.1 == bt115.1 && (bt110.2 == bt115.2)) = true then ((word_Usual.f k bt110.1 bt110.2 bt110.1 bt110.2).bind fun bt117 => (if (bt117.1 == bt110.1 && (bt117.2 == bt110.2)) = true then ((word_Usual.f k bt110.1 bt110.2 ((rd_T26 t101 t104).f0) ((rd_T26 t101 t104).f1)).bind fun bt119 => (if (bt119.1 == bt110.1 && (bt119.2 == bt110.2)) = true then (if bt110.1 ≥ ((rd_T26 t101 t104).f0) then (if bt110.2 = true then ((word_Is.f bt110.1 bt110.2 t113).bind fun t121 => (if t121 = true then ((spokeshavelaw1_awakeB.f k).bind fun t122 => (some t122)) else (none))) else (if t113 < 0 then (if (rd_T26 t101 t104).f1 = true then ((spokeshavelaw1_awakeB.f k).bind fun t123 => (none)) else ((word_Is.f bt110.1 bt110.2 t113).bind fun t124 => (if t124 = true then ((spokeshavelaw1_awakeB.f k).bind fun t125 => (none)) else (none)))) else ((word_Is.f bt110.1 bt110.2 t113).bind fun t126 => (if t126 = true then ((spokeshavelaw1_awakeB.f k).bind fun t127 => (none)) else (none))))) else (none)) else (none))) else (none))) else (none))) else (none)) else (none))))) else (none)) else (none))) else (none)) else (none)) = some r := H
 have A5 := Aside0.mk A50
 clear A50
 by_cases c6 : 0 ≤ t104
 case neg => rw [if_neg c6] at H; exact absurd H (by simp)
 rw [if_pos c6] at H
 have c6b0 : decide (0 ≤ t104) = true := decide_eq_true c6
 clear c6
 by_cases c7 : t104 < (t101.length : Int)
 case neg => rw [if_neg c7] at H; exact absurd H (by simp)
 rw [if_pos c7] at H
 have c7b0 : decide (t104 < (t101.length : Int)) = true := decide_eq_true c7
 clear c7
 replace H := Option.bind_eq_some_iff.mp H
 obtain ⟨t106, A80, H⟩ := H
 replace H : (if 0 ≤ t106 then (if t106 < (t101.length : Int) then ((word_Usual.f k ((rd_T26 t101 t104).f0) ((rd_T26 t101 t104).f1) ((rd_T26 t101 t106).f0) ((rd_T26 t101 t106).f1)).bind fun bt110 => ((word_Wrap.f ((rd_T26 t101 t104).f0) ((rd_T26 t101 t104).f1) a2).bind fun t113 => ((word_May.f bt110.1 bt110.2).bind fun t114 => (if t114 = true then (if bt110.1 ≥ 32 then ((word_Usual.f k ((rd_T26 t101 t106).f0) ((rd_T26 t101 t106).f1) ((rd_T26 t101 t104).f0) ((rd_T26 t101 t104).f1)).bind fun bt115 => (if (bt110.1 == bt115.1 && (bt110.2 == bt115.2)) = true then ((word_Usual.f k bt110.1 bt110.2 bt110.1 bt110.2).bind fun bt117 => (if (bt117.1 == bt110.1 && (bt117.2 == bt110.2)) = true then ((word_Usual.f k bt110.1 bt110.2 ((rd_T26 t101 t104).f0) ((rd_T26 t101 t104).f1)).bind fun bt119 => (if (bt119.1 == bt110.1 && (bt119.2 == bt110.2)) = true then (if bt110.1 ≥ ((rd_T26 t101 t104).f0) then (if bt110.2 = true then ((word_Is.f bt110.1 bt110.2 t113).bind fun t121 => (if t121 = true then ((spokeshavelaw1_awakeB.f k).bind fun t122 => (some t122)) else (none))) else (if t113 < 0 then (if (rd_T26 t101 t104).f1 = true then ((spokeshavelaw1_awakeB.f k).bind fun t123 => (none)) else ((word_Is.f bt110.1 bt110.2 t113).bind fun t124 => (if t124 = true then ((spokeshavelaw1_awakeB.f k).bind fun t125 => (none)) else (none)))) else ((word_Is.f bt110.1 bt110.2 t113).bind fun t126 => (if t126 = true then ((spokeshavelaw1_awakeB.f k).bind fun t127 => (none)) else (none))))) else (none)) else (none))) else (none))) else (none))) else (none)) else (none))))) else (none)) else (none)) = some r := H
 have A8 := Aside0.mk A80
 clear A80
 by_cases c9 : 0 ≤ t106
 case neg => rw [if_neg c9] at H; exact absurd H (by simp)
 rw [if_pos c9] at H
 have c9b0 : decide (0 ≤ t106) = true := decide_eq_true c9
 clear c9
 by_cases c10 : t106 < (t101.length : Int)
 case neg => rw [if_neg c10] at H; exact absurd H (by simp)
 rw [if_pos c10] at H
 have c10b0 : decide (t106 < (t101.length : Int)) = true := decide_eq_true c10
 clear c10
 replace H := Option.bind_eq_some_iff.mp H
 obtain ⟨⟨t110, t111⟩, A110, H⟩ := H
 replace H : ((word_Wrap.f ((rd_T26 t101 t104).f0) ((rd_T26 t101 t104).f1) a2).bind fun t113 => ((word_May.f t110 t111).bind fun t114 => (if t114 = true then (if t110 ≥ 32 then ((word_Usual.f k ((rd_T26 t101 t106).f0) ((rd_T26 t101 t106).f1) ((rd_T26 t101 t104).f0) ((rd_T26 t101 t104).f1)).bind fun bt115 => (if (t110 == bt115.1 && (t111 == bt115.2)) = true then ((word_Usual.f k t110 t111 t110 t111).bind fun bt117 => (if (bt117.1 == t110 && (bt117.2 == t111)) = true then ((word_Usual.f k t110 t111 ((rd_T26 t101 t104).f0) ((rd_T26 t101 t104).f1)).bind fun bt119 => (if (bt119.1 == t110 && (bt119.2 == t111)) = true then (if t110 ≥ ((rd_T26 t101 t104).f0) then (if t111 = true then ((word_Is.f t110 t111 t113).bind fun t121 => (if t121 = true then ((spokeshavelaw1_awakeB.f k).bind fun t122 => (some t122)) else (none))) else (if t113 < 0 then (if (rd_T26 t101 t104).f1 = true then ((spokeshavelaw1_awakeB.f k).bind fun t123 => (none)) else ((word_Is.f t110 t111 t113).bind fun t124 => (if t124 = true then ((spokeshavelaw1_awakeB.f k).bind fun t125 => (none)) else (none)))) else ((word_Is.f t110 t111 t113).bind fun t126 => (if t126 = true then ((spokeshavelaw1_awakeB.f k).bind fun t127 => (none)) else (none))))) else (none)) else (none))) else (none))) else (none))) else (none)) else (none)))) = some r := H
 have A11 := Aside0.mk A110
 clear A110
 replace H := Option.bind_eq_some_iff.mp H
 obtain ⟨t113, A120, H⟩ := H
 replace H : ((word_May.f t110 t111).bind fun t114 => (if t114 = true then (if t110 ≥ 32 then ((word_Usual.f k ((rd_T26 t101 t106).f0) ((rd_T26 t101 t106).f1) ((rd_T26 t101 t104).f0) ((rd_T26 t101 t104).f1)).bind fun bt115 => (if (t110 == bt115.1 && (t111 == bt115.2)) = true then ((word_Usual.f k t110 t111 t110 t111).bind fun bt117 => (if (bt117.1 == t110 && (bt117.2 == t111)) = true then ((word_Usual.f k t110 t111 ((rd_T26 t101 t104).f0) ((rd_T26 t101 t104).f1)).bind fun bt119 => (if (bt119.1 == t110 && (bt119.2 == t111)) = true then (if t110 ≥ ((rd_T26 t101 t104).f0) then (if t111 = true then ((word_Is.f t110 t111 t113).bind fun t121 => (if t121 = true then ((spokeshavelaw1_awakeB.f k).bind fun t122 => (some t122)) else (none))) else (if t113 < 0 then (if (rd_T26 t101 t104).f1 = true then ((spokeshavelaw1_awakeB.f k).bind fun t123 => (none)) else ((word_Is.f t110 t111 t113).bind fun t124 => (if t124 = true then ((spokeshavelaw1_awakeB.f k).bind fun t125 => (none)) else (none)))) else ((word_Is.f t110 t111 t113).bind fun t126 => (if t126 = true then ((spokeshavelaw1_awakeB.f k).bind fun t127 => (none)) else (none))))) else (none)) else (none))) else (none))) else (none))) else (none)) else (none))) = some r := H
 have A12 := Aside0.mk A120
 clear A120
 replace H := Option.bind_eq_some_iff.mp H
 obtain ⟨t114, A130, H⟩ := H
 replace H : (if t114 = true then (if t110 ≥ 32 then ((word_Usual.f k ((rd_T26 t101 t106).f0) ((rd_T26 t101 t106).f1) ((rd_T26 t101 t104).f0) ((rd_T26 t101 t104).f1)).bind fun bt115 => (if (t110 == bt115.1 && (t111 == bt115.2)) = true then ((word_Usual.f k t110 t111 t110 t111).bind fun bt117 => (if (bt117.1 == t110 && (bt117.2 == t111)) = true then ((word_Usual.f k t110 t111 ((rd_T26 t101 t104).f0) ((rd_T26 t101 t104).f1)).bind fun bt119 => (if (bt119.1 == t110 && (bt119.2 == t111)) = true then (if t110 ≥ ((rd_T26 t101 t104).f0) then (if t111 = true then ((word_Is.f t110 t111 t113).bind fun t121 => (if t121 = true then ((spokeshavelaw1_awakeB.f k).bind fun t122 => (some t122)) else (none))) else (if t113 < 0 then (if (rd_T26 t101 t104).f1 = true then ((spokeshavelaw1_awakeB.f k).bind fun t123 => (none)) else ((word_Is.f t110 t111 t113).bind fun t124 => (if t124 = true then ((spokeshavelaw1_awakeB.f k).bind fun t125 => (none)) else (none)))) else ((word_Is.f t110 t111 t113).bind fun t126 => (if t126 = true then ((spokeshavelaw1_awakeB.f k).bind fun t127 => (none)) else (none))))) else (none)) else (none))) else (none))) else (none))) else (none)) else (none)) = some r := H
 have A13 := Aside0.mk A130
 clear A130
 by_cases c14 : t114 = true
 ·
  subst c14
  have H1 : (if t110 ≥ 32 then ((word_Usual.f k ((rd_T26 t101 t106).f0) ((rd_T26 t101 t106).f1) ((rd_T26 t101 t104).f0) ((rd_T26 t101 t104).f1)).bind fun bt115 => (if (t110 == bt115.1 && (t111 == bt115.2)) = true then ((word_Usual.f k t110 t111 t110 t111).bind fun bt117 => (if (bt117.1 == t110 && (bt117.2 == t111)) = true then ((word_Usual.f k t110 t111 ((rd_T26 t101 t104).f0) ((rd_T26 t101 t104).f1)).bind fun bt119 => (if (bt119.1 == t110 && (bt119.2 == t111)) = true then (if t110 ≥ ((rd_T26 t101 t104).f0) then (if t111 = true then ((word_Is.f t110 t111 t113).bind fun t121 => (if t121 = true then ((spokeshavelaw1_awakeB.f k).bind fun t122 => (some t122)) else (none))) else (if t113 < 0 then (if (rd_T26 t101 t104).f1 = true then ((spokeshavelaw1_awakeB.f k).bind fun t123 => (none)) else ((word_Is.f t110 t111 t113).bind fun t124 => (if t124 = true then ((spokeshavelaw1_awakeB.f k).bind fun t125 => (none)) else (none)))) else ((word_Is.f t110 t111 t113).bind fun t126 => (if t126 = true then ((spokeshavelaw1_awakeB.f k).bind fun t127 => (none)) else (none))))) else (none)) else (none))) else (none))) else (none))) else (none)) = some r := by rw [if_pos rfl] at H; exact H
  clear H
  have H := H1
  clear H1
  by_cases c15 : t110 ≥ 32
  case neg => rw [if_neg c15] at H; exact absurd H (by simp)
  rw [if_pos c15] at H
  have c15b0 : decide (32 ≤ t110) = true := decide_eq_true c15
  clear c15
  replace H := Option.bind_eq_some_iff.mp H
  obtain ⟨⟨t115, t116⟩, A160, H⟩ := H
  replace H : (if (t110 == t115 && (t111 == t116)) = true then ((word_Usual.f k t110 t111 t110 t111).bind fun bt117 => (if (bt117.1 == t110 && (bt117.2 == t111)) = true then ((word_Usual.f k t110 t111 ((rd_T26 t101 t104).f0) ((rd_T26 t101 t104).f1)).bind fun bt119 => (if (bt119.1 == t110 && (bt119.2 == t111)) = true then (if t110 ≥ ((rd_T26 t101 t104).f0) then (if t111 = true then ((word_Is.f t110 t111 t113).bind fun t121 => (if t121 = true then ((spokeshavelaw1_awakeB.f k).bind fun t122 => (some t122)) else (none))) else (if t113 < 0 then (if (rd_T26 t101 t104).f1 = true then ((spokeshavelaw1_awakeB.f k).bind fun t123 => (none)) else ((word_Is.f t110 t111 t113).bind fun t124 => (if t124 = true then ((spokeshavelaw1_awakeB.f k).bind fun t125 => (none)) else (none)))) else ((word_Is.f t110 t111 t113).bind fun t126 => (if t126 = true then ((spokeshavelaw1_awakeB.f k).bind fun t127 => (none)) else (none))))) else (none)) else (none))) else (none))) else (none)) = some r := H
  have A16 := Aside0.mk A160
  clear A160
  by_cases c17 : (t110 == t115 && (t111 == t116)) = true
  case neg => rw [if_neg c17] at H; exact absurd H (by simp)
  rw [if_pos c17] at H
  have c17b0 : (t110 == t115 && (t111 == t116)) = true := c17
  (try (have c17b1 : decide (t110 = t115 && (t111 == t116)) = true := by first | exact c17 | exact absurd c17 (by decide) | decide | (simp; done) | simpa using c17))
  (try (have c17b2 : (t110 == t115 && (t111 == t116)) = true := by first | exact c17 | exact absurd c17 (by decide) | decide | (simp; done) | simpa using c17))
  clear c17
  replace H := Option.bind_eq_some_iff.mp H
  obtain ⟨⟨t117, t118⟩, A180, H⟩ := H
  replace H : (if (t117 == t110 && (t118 == t111)) = true then ((word_Usual.f k t110 t111 ((rd_T26 t101 t104).f0) ((rd_T26 t101 t104).f1)).bind fun bt119 => (if (bt119.1 == t110 && (bt119.2 == t111)) = true then (if t110 ≥ ((rd_T26 t101 t104).f0) then (if t111 = true then ((word_Is.f t110 t111 t113).bind fun t121 => (if t121 = true then ((spokeshavelaw1_awakeB.f k).bind fun t122 => (some t122)) else (none))) else (if t113 < 0 then (if (rd_T26 t101 t104).f1 = true then ((spokeshavelaw1_awakeB.f k).bind fun t123 => (none)) else ((word_Is.f t110 t111 t113).bind fun t124 => (if t124 = true then ((spokeshavelaw1_awakeB.f k).bind fun t125 => (none)) else (none)))) else ((word_Is.f t110 t111 t113).bind fun t126 => (if t126 = true then ((spokeshavelaw1_awakeB.f k).bind fun t127 => (none)) else (none))))) else (none)) else (none))) else (none)) = some r := H
  have A18 := Aside0.mk A180
  clear A180
  by_cases c19 : (t117 == t110 && (t118 == t111)) = true
  case neg => rw [if_neg c19] at H; exact absurd H (by simp)
  rw [if_pos c19] at H
  have c19b0 : (t117 == t110 && (t118 == t111)) = true := c19
  (try (have c19b1 : decide (t117 = t110 && (t118 == t111)) = true := by first | exact c19 | exact absurd c19 (by decide) | decide | (simp; done) | simpa using c19))
  (try (have c19b2 : (t117 == t110 && (t118 == t111)) = true := by first | exact c19 | exact absurd c19 (by decide) | decide | (simp; done) | simpa using c19))
  clear c19
  replace H := Option.bind_eq_some_iff.mp H
  obtain ⟨⟨t119, t120⟩, A200, H⟩ := H
  replace H : (if (t119 == t110 && (t120 == t111)) = true then (if t110 ≥ ((rd_T26 t101 t104).f0) then (if t111 = true then ((word_Is.f t110 t111 t113).bind fun t121 => (if t121 = true then ((spokeshavelaw1_awakeB.f k).bind fun t122 => (some t122)) else (none))) else (if t113 < 0 then (if (rd_T26 t101 t104).f1 = true then ((spokeshavelaw1_awakeB.f k).bind fun t123 => (none)) else ((word_Is.f t110 t111 t113).bind fun t124 => (if t124 = true then ((spokeshavelaw1_awakeB.f k).bind fun t125 => (none)) else (none)))) else ((word_Is.f t110 t111 t113).bind fun t126 => (if t126 = true then ((spokeshavelaw1_awakeB.f k).bind fun t127 => (none)) else (none))))) else (none)) else (none)) = some r := H
  have A20 := Aside0.mk A200
  clear A200
  by_cases c21 : (t119 == t110 && (t120 == t111)) = true
  case neg => rw [if_neg c21] at H; exact absurd H (by simp)
  rw [if_pos c21] at H
  have c21b0 : (t119 == t110 && (t120 == t111)) = true := c21
  (try (have c21b1 : decide (t119 = t110 && (t120 == t111)) = true := by first | exact c21 | exact absurd c21 (by decide) | decide | (simp; done) | simpa using c21))
  (try (have c21b2 : (t119 == t110 && (t120 == t111)) = true := by first | exact c21 | exact absurd c21 (by decide) | decide | (simp; done) | simpa using c21))
  clear c21
  by_cases c22 : t110 ≥ ((rd_T26 t101 t104).f0)
  case neg => rw [if_neg c22] at H; exact absurd H (by simp)
  rw [if_pos c22] at H
  have c22b0 : decide (((rd_T26 t101 t104).f0) ≤ t110) = true := decide_eq_true c22
  clear c22
  by_cases c23 : t111 = true
  ·
   subst c23
   (try simp only [Bool.true_beq, beq_true, Bool.false_beq, beq_false] at c17b0)
   (try simp only [Bool.true_beq, beq_true, Bool.false_beq, beq_false] at c19b0)
   (try simp only [Bool.true_beq, beq_true, Bool.false_beq, beq_false] at c21b0)
   have H1 : ((word_Is.f t110 true t113).bind fun t121 => (if t121 = true then ((spokeshavelaw1_awakeB.f k).bind fun t122 => (some t122)) else (none))) = some r := by rw [if_pos rfl] at H; exact H
   clear H
   have H := H1
   clear H1
   replace H := Option.bind_eq_some_iff.mp H
   obtain ⟨t121, A240, H⟩ := H
   replace H : (if t121 = true then ((spokeshavelaw1_awakeB.f k).bind fun t122 => (some t122)) else (none)) = some r := H
   have A24 := Aside0.mk A240
   clear A240
   by_cases c25 : t121 = true
   ·
    subst c25
    (try simp only [Bool.true_beq, beq_true, Bool.false_beq, beq_false] at c17b0)
    (try simp only [Bool.true_beq, beq_true, Bool.false_beq, beq_false] at c19b0)
    (try simp only [Bool.true_beq, beq_true, Bool.false_beq, beq_false] at c21b0)
    have H1 : ((spokeshavelaw1_awakeB.f k).bind fun t122 => (some t122)) = some r := by rw [if_pos rfl] at H; exact H
    clear H
    have H := H1
    clear H1
    replace H := Option.bind_eq_some_iff.mp H
    obtain ⟨t122, A260, H⟩ := H
    replace H : (some t122) = some r := H
    have A26 := Aside0.mk A260
    clear A260
    obtain rfl := Option.some.inj H
    go_enter Tryd.func5, Tryd.ntmps5
    try go_wp2_with (first | ((with_reducible refine gate_callee (f := 10) rfl ?_); refine goesL_ (some 12) rfl rfl Tryd.func10 (by kernel_rfl) rfl #[] rfl (by (try simp only [List.map_toArray, List.map_cons, List.map_nil]); first | done | rfl | (simp only [List.length_drop, List.length_take]; rfl)) ?_; (with_reducible refine (spokeshavelaw1_widths.calls k  t101 _ A4.out).mono ?_); rintro e w27 ⟨v102, rfl, ho0, hb⟩; refine ⟨_, rfl, ?_⟩; have n0_ := Aside0.mk (Kd.R_lower ho0 (below_size (by repeat (first | (with_reducible first | exact HB.out | apply below_alloc | apply pw_below_drewN | apply below_drew1) | exact HB.out)))); have n1_ := Aside0.mk (below_step (by repeat (first | (with_reducible first | exact HB.out | apply below_alloc | apply pw_below_drewN | apply below_drew1) | exact HB.out)) hb); clear HB; have HO103 := n0_; have HB := n1_; clear n0_ n1_; (try clear hb); (try clear hb2); (try clear hk); (try clear hi); (try clear ho0); obtain ⟨Ao28, co28, eo28⟩ := Kd.R_slice HO103.out; subst eo28))
    have n0_ := Aside0.mk (Kd.R_drew HO103.out)
    have n1_ := Aside0.mk (below_drew1 HB.out)
    clear HO103
    clear HB
    have HO103 := n0_
    have HB := n1_
    clear n0_ n1_
    have p105 : 0 ≤ (t104 : Int) := of_decide_eq_true (by first | (with_reducible assumption) | assumption)
    have q105 : t104 < (t101.length : Int) := of_decide_eq_true (by first | (with_reducible assumption) | assumption)
    obtain ⟨ad105, e105, hx105_0, hx105_1⟩ := at_T26 (Kd.R_reads' HO103.out).2.2 t104 p105 q105
    cases e105
    replace p105 := eq_true p105
    replace q105 := eq_true q105
    have p107 : 0 ≤ (t106 : Int) := of_decide_eq_true (by first | (with_reducible assumption) | assumption)
    have q107 : t106 < (t101.length : Int) := of_decide_eq_true (by first | (with_reducible assumption) | assumption)
    obtain ⟨ad107, e107, hx107_0, hx107_1⟩ := at_T26 (Kd.R_reads' HO103.out).2.2 t106 p107 q107
    obtain rfl : ad105 = ad107 := (by injection e107)
    replace p107 := eq_true p107
    replace q107 := eq_true q107
    refine start_ (n := 14) (S := fun w' => w'.cell? (ad105.add ((t104).toNat * 2)) = some (.int .i64 ((rd_T26 t101 t104).f0)) ∧ w'.cell? ⟨(ad105.add ((t104).toNat * 2)).block, (ad105.add ((t104).toNat * 2)).off + 1, none⟩ = some (.bool ((rd_T26 t101 t104).f1)) ∧ w'.cell? (ad105.add ((t106).toNat * 2)) = some (.int .i64 ((rd_T26 t101 t106).f0)) ∧ w'.cell? ⟨(ad105.add ((t106).toNat * 2)).block, (ad105.add ((t106).toNat * 2)).off + 1, none⟩ = some (.bool ((rd_T26 t101 t106).f1))) (ds := []) #[false,false,false,false,false,false,false,false,false,false,false,false,false,false] (by kernel_rfl) rfl rfl ⟨hx105_0, hx105_1, hx107_0, hx107_1⟩ (fun hHeld => ?_); refine with_tabW spokeshavelaw1_WordUsualA.tab2 spokeshavelaw1_WordUsualA.bits2 (fun HT_ HW_ => ?_)
    generalize w27.drew = w29 at HO103 HB hx105_0 hx105_1 hx107_0 hx107_1 hHeld ⊢
    refine pure_ (i := 0) (N := some 13) (v := ?_) (a' := ?_) #[true,false,false,false,false,false,false,false,false,false,false,false,false,false] rfl rfl (any_of HT_.out (by kernel_rfl)) (fun _ _ _ h => h) (Or.inl ⟨by rfl, ?_⟩) ?_ ?_
    rotate_left
    ·
     intro w'
     go_simp
     with_reducible rfl
    rotate_left
    ·
     simp only [Act.put, List.setIfInBounds_toArray, List.set_cons_zero, List.set_cons_succ, i64_w, i32_w]
     rfl
    refine pure_ (i := 1) (N := some 14) (v := ?_) (a' := ?_) #[true,true,false,false,false,false,false,false,false,false,false,false,false,false] rfl rfl (any_of HT_.out (by kernel_rfl)) (fun _ _ _ h => h) (Or.inl ⟨by rfl, ?_⟩) ?_ ?_
    rotate_left
    ·
     intro w'
     go_simp
     with_reducible rfl
    rotate_left
    ·
     simp only [Act.put, List.setIfInBounds_toArray, List.set_cons_zero, List.set_cons_succ, i64_w, i32_w]
     rfl
    refine pure_ (i := 5) (N := some 18) (v := ?_) (a' := ?_) #[true,true,false,false,false,true,false,false,false,false,false,false,false,false] rfl rfl (any_of HT_.out (by kernel_rfl)) (fun _ _ _ h => h) (Or.inl ⟨by rfl, ?_⟩) ?_ ?_
    rotate_left
    ·
     intro w'
     go_simp
     with_reducible rfl
    rotate_left
    ·
     simp only [Act.put, List.setIfInBounds_toArray, List.set_cons_zero, List.set_cons_succ, i64_w, i32_w]
     rfl
    refine pure_ (i := 6) (N := some 19) (v := ?_) (a' := ?_) #[true,true,false,false,false,true,true,false,false,false,false,false,false,false] rfl rfl (any_of HT_.out (by kernel_rfl)) (fun _ _ _ h => h) (Or.inl ⟨by rfl, ?_⟩) ?_ ?_
    rotate_left
    ·
     intro w'
     go_simp
     with_reducible rfl
    rotate_left
    ·
     simp only [Act.put, List.setIfInBounds_toArray, List.set_cons_zero, List.set_cons_succ, i64_w, i32_w]
     rfl
    refine join_ (σ := Nat × Nat) 2 #[true,true,true,true,true,true,true,true,true,true,true,true,false,false] (fun s_ => [(15, .int .i64 t104), (20, .int .i64 t106), (8, .pointer (some ⟨s_.1, 0, none⟩)), (9, .pointer (some ⟨s_.2, 0, none⟩)), (16, .pointer (some (ad105.add ((t104).toNat * 2)))), (17, .agg #[.int .i64 ((rd_T26 t101 t104).f0), .bool ((rd_T26 t101 t104).f1)]), (21, .pointer (some (ad105.add ((t106).toNat * 2)))), (22, .agg #[.int .i64 ((rd_T26 t101 t106).f0), .bool ((rd_T26 t101 t106).f1)])]) (fun s_ w' => (w'.cell? (ad105.add ((t104).toNat * 2)) = some (.int .i64 ((rd_T26 t101 t104).f0)) ∧ w'.cell? ⟨(ad105.add ((t104).toNat * 2)).block, (ad105.add ((t104).toNat * 2)).off + 1, none⟩ = some (.bool ((rd_T26 t101 t104).f1)) ∧ w'.cell? (ad105.add ((t106).toNat * 2)) = some (.int .i64 ((rd_T26 t101 t106).f0)) ∧ w'.cell? ⟨(ad105.add ((t106).toNat * 2)).block, (ad105.add ((t106).toNat * 2)).off + 1, none⟩ = some (.bool ((rd_T26 t101 t106).f1))) ∧ (Kd.R k26 26 w' w.heap.size (fun k_ => k_ ≠ s_.1 ∧ k_ ≠ s_.2) (.slice (some ad105) t101.length co28) t101) ∧ (w'.heap[s_.1]? = some (.cells #[.int .i64 0, .bool false] 26 (0, 0))) ∧ (w'.heap[s_.2]? = some (.cells #[.int .i64 0, .bool false] 26 (0, 0))) ∧ (w.heap.size ≤ s_.1) ∧ (w.heap.size ≤ s_.1) ∧ (s_.2 ≠ s_.1) ∧ (s_.1 ≠ s_.2) ∧ (w.heap.size ≤ s_.2) ∧ (w.heap.size ≤ s_.2) ∧ (Below w.heap.size w w')) ?_ ?_
    rotate_left
    ·
     intro hJ2_7_10_11
     refine join_ (σ := Nat) 3 #[true,true,true,true,true,true,true,true,true,true,true,false,false,false] (fun s_ => [(15, .int .i64 t104), (20, .int .i64 t106), (8, .pointer (some ⟨s_, 0, none⟩)), (16, .pointer (some (ad105.add ((t104).toNat * 2)))), (17, .agg #[.int .i64 ((rd_T26 t101 t104).f0), .bool ((rd_T26 t101 t104).f1)]), (21, .pointer (some (ad105.add ((t106).toNat * 2)))), (22, .agg #[.int .i64 ((rd_T26 t101 t106).f0), .bool ((rd_T26 t101 t106).f1)])]) (fun s_ w' => (w'.cell? (ad105.add ((t104).toNat * 2)) = some (.int .i64 ((rd_T26 t101 t104).f0)) ∧ w'.cell? ⟨(ad105.add ((t104).toNat * 2)).block, (ad105.add ((t104).toNat * 2)).off + 1, none⟩ = some (.bool ((rd_T26 t101 t104).f1)) ∧ w'.cell? (ad105.add ((t106).toNat * 2)) = some (.int .i64 ((rd_T26 t101 t106).f0)) ∧ w'.cell? ⟨(ad105.add ((t106).toNat * 2)).block, (ad105.add ((t106).toNat * 2)).off + 1, none⟩ = some (.bool ((rd_T26 t101 t106).f1))) ∧ (Kd.R k26 26 w' w.heap.size (fun k_ => k_ ≠ s_) (.slice (some ad105) t101.length co28) t101) ∧ (w'.heap[s_]? = some (.cells #[.int .i64 0, .bool false] 26 (0, 0))) ∧ (w.heap.size ≤ s_) ∧ (w.heap.size ≤ s_) ∧ (Below w.heap.size w w')) ?_ ?_
     rotate_left
     ·
      intro hJ2_7_10
      refine join_ (σ := Nat) 3 #[true,true,true,true,true,true,true,true,true,true,false,true,false,false] (fun s_ => [(15, .int .i64 t104), (20, .int .i64 t106), (9, .pointer (some ⟨s_, 0, none⟩)), (16, .pointer (some (ad105.add ((t104).toNat * 2)))), (17, .agg #[.int .i64 ((rd_T26 t101 t104).f0), .bool ((rd_T26 t101 t104).f1)]), (21, .pointer (some (ad105.add ((t106).toNat * 2)))), (22, .agg #[.int .i64 ((rd_T26 t101 t106).f0), .bool ((rd_T26 t101 t106).f1)])]) (fun s_ w' => (w'.cell? (ad105.add ((t104).toNat * 2)) = some (.int .i64 ((rd_T26 t101 t104).f0)) ∧ w'.cell? ⟨(ad105.add ((t104).toNat * 2)).block, (ad105.add ((t104).toNat * 2)).off + 1, none⟩ = some (.bool ((rd_T26 t101 t104).f1)) ∧ w'.cell? (ad105.add ((t106).toNat * 2)) = some (.int .i64 ((rd_T26 t101 t106).f0)) ∧ w'.cell? ⟨(ad105.add ((t106).toNat * 2)).block, (ad105.add ((t106).toNat * 2)).off + 1, none⟩ = some (.bool ((rd_T26 t101 t106).f1))) ∧ (Kd.R k26 26 w' w.heap.size (fun k_ => k_ ≠ s_) (.slice (some ad105) t101.length co28) t101) ∧ (w'.heap[s_]? = some (.cells #[.int .i64 0, .bool false] 26 (0, 0))) ∧ (w.heap.size ≤ s_) ∧ (w.heap.size ≤ s_) ∧ (Below w.heap.size w w')) ?_ ?_
      rotate_left
      ·
       intro hJ2_7_11
       refine join_ (σ := Nat × Nat) 5 #[true,true,true,true,true,true,true,false,false,false,true,true,false,false] (fun s_ => [(15, .int .i64 t104), (8, .pointer (some ⟨s_.1, 0, none⟩)), (9, .pointer (some ⟨s_.2, 0, none⟩)), (16, .pointer (some (ad105.add ((t104).toNat * 2)))), (17, .agg #[.int .i64 ((rd_T26 t101 t104).f0), .bool ((rd_T26 t101 t104).f1)])]) (fun s_ w' => (w'.cell? (ad105.add ((t104).toNat * 2)) = some (.int .i64 ((rd_T26 t101 t104).f0)) ∧ w'.cell? ⟨(ad105.add ((t104).toNat * 2)).block, (ad105.add ((t104).toNat * 2)).off + 1, none⟩ = some (.bool ((rd_T26 t101 t104).f1)) ∧ w'.cell? (ad105.add ((t106).toNat * 2)) = some (.int .i64 ((rd_T26 t101 t106).f0)) ∧ w'.cell? ⟨(ad105.add ((t106).toNat * 2)).block, (ad105.add ((t106).toNat * 2)).off + 1, none⟩ = some (.bool ((rd_T26 t101 t106).f1))) ∧ (Kd.R k26 26 w' w.heap.size (fun k_ => k_ ≠ s_.1 ∧ k_ ≠ s_.2) (.slice (some ad105) t101.length co28) t101) ∧ (w'.heap[s_.1]? = some (.cells #[.int .i64 0, .bool false] 26 (0, 0))) ∧ (w'.heap[s_.2]? = some (.cells #[.int .i64 0, .bool false] 26 (0, 0))) ∧ (w.heap.size ≤ s_.1) ∧ (w.heap.size ≤ s_.1) ∧ (s_.2 ≠ s_.1) ∧ (s_.1 ≠ s_.2) ∧ (w.heap.size ≤ s_.2) ∧ (w.heap.size ≤ s_.2) ∧ (Below w.heap.size w w')) ?_ ?_
       rotate_left
       ·
        intro hJ2_10_11
        refine join_ (σ := Unit) 4 #[true,true,true,true,true,true,true,true,true,true,false,false,false,false] (fun s_ => [(15, .int .i64 t104), (20, .int .i64 t106), (16, .pointer (some (ad105.add ((t104).toNat * 2)))), (17, .agg #[.int .i64 ((rd_T26 t101 t104).f0), .bool ((rd_T26 t101 t104).f1)]), (21, .pointer (some (ad105.add ((t106).toNat * 2)))), (22, .agg #[.int .i64 ((rd_T26 t101 t106).f0), .bool ((rd_T26 t101 t106).f1)])]) (fun s_ w' => (w'.cell? (ad105.add ((t104).toNat * 2)) = some (.int .i64 ((rd_T26 t101 t104).f0)) ∧ w'.cell? ⟨(ad105.add ((t104).toNat * 2)).block, (ad105.add ((t104).toNat * 2)).off + 1, none⟩ = some (.bool ((rd_T26 t101 t104).f1)) ∧ w'.cell? (ad105.add ((t106).toNat * 2)) = some (.int .i64 ((rd_T26 t101 t106).f0)) ∧ w'.cell? ⟨(ad105.add ((t106).toNat * 2)).block, (ad105.add ((t106).toNat * 2)).off + 1, none⟩ = some (.bool ((rd_T26 t101 t106).f1))) ∧ (Kd.R k26 26 w' w.heap.size (fun _ => True) (.slice (some ad105) t101.length co28) t101) ∧ (Below w.heap.size w w')) ?_ ?_
        rotate_left
        ·
         intro hJ2_7
         refine join_ (σ := Nat) 6 #[true,true,true,true,true,true,true,false,false,false,true,false,false,false] (fun s_ => [(15, .int .i64 t104), (8, .pointer (some ⟨s_, 0, none⟩)), (16, .pointer (some (ad105.add ((t104).toNat * 2)))), (17, .agg #[.int .i64 ((rd_T26 t101 t104).f0), .bool ((rd_T26 t101 t104).f1)])]) (fun s_ w' => (w'.cell? (ad105.add ((t104).toNat * 2)) = some (.int .i64 ((rd_T26 t101 t104).f0)) ∧ w'.cell? ⟨(ad105.add ((t104).toNat * 2)).block, (ad105.add ((t104).toNat * 2)).off + 1, none⟩ = some (.bool ((rd_T26 t101 t104).f1)) ∧ w'.cell? (ad105.add ((t106).toNat * 2)) = some (.int .i64 ((rd_T26 t101 t106).f0)) ∧ w'.cell? ⟨(ad105.add ((t106).toNat * 2)).block, (ad105.add ((t106).toNat * 2)).off + 1, none⟩ = some (.bool ((rd_T26 t101 t106).f1))) ∧ (Kd.R k26 26 w' w.heap.size (fun k_ => k_ ≠ s_) (.slice (some ad105) t101.length co28) t101) ∧ (w'.heap[s_]? = some (.cells #[.int .i64 0, .bool false] 26 (0, 0))) ∧ (w.heap.size ≤ s_) ∧ (w.heap.size ≤ s_) ∧ (Below w.heap.size w w')) ?_ ?_
         rotate_left
         ·
          intro hJ2_10
          refine join_ (σ := Nat) 6 #[true,true,true,true,true,true,true,false,false,false,false,true,false,false] (fun s_ => [(15, .int .i64 t104), (9, .pointer (some ⟨s_, 0, none⟩)), (16, .pointer (some (ad105.add ((t104).toNat * 2)))), (17, .agg #[.int .i64 ((rd_T26 t101 t104).f0), .bool ((rd_T26 t101 t104).f1)])]) (fun s_ w' => (w'.cell? (ad105.add ((t104).toNat * 2)) = some (.int .i64 ((rd_T26 t101 t104).f0)) ∧ w'.cell? ⟨(ad105.add ((t104).toNat * 2)).block, (ad105.add ((t104).toNat * 2)).off + 1, none⟩ = some (.bool ((rd_T26 t101 t104).f1)) ∧ w'.cell? (ad105.add ((t106).toNat * 2)) = some (.int .i64 ((rd_T26 t101 t106).f0)) ∧ w'.cell? ⟨(ad105.add ((t106).toNat * 2)).block, (ad105.add ((t106).toNat * 2)).off + 1, none⟩ = some (.bool ((rd_T26 t101 t106).f1))) ∧ (Kd.R k26 26 w' w.heap.size (fun k_ => k_ ≠ s_) (.slice (some ad105) t101.length co28) t101) ∧ (w'.heap[s_]? = some (.cells #[.int .i64 0, .bool false] 26 (0, 0))) ∧ (w.heap.size ≤ s_) ∧ (w.heap.size ≤ s_) ∧ (Below w.heap.size w w')) ?_ ?_
          rotate_left
          ·
           intro hJ2_11
           refine join_ (σ := Nat × Nat) 8 #[true,true,false,false,false,true,true,false,false,false,true,true,false,false] (fun s_ => [(8, .pointer (some ⟨s_.1, 0, none⟩)), (9, .pointer (some ⟨s_.2, 0, none⟩))]) (fun s_ w' => (w'.cell? (ad105.add ((t104).toNat * 2)) = some (.int .i64 ((rd_T26 t101 t104).f0)) ∧ w'.cell? ⟨(ad105.add ((t104).toNat * 2)).block, (ad105.add ((t104).toNat * 2)).off + 1, none⟩ = some (.bool ((rd_T26 t101 t104).f1)) ∧ w'.cell? (ad105.add ((t106).toNat * 2)) = some (.int .i64 ((rd_T26 t101 t106).f0)) ∧ w'.cell? ⟨(ad105.add ((t106).toNat * 2)).block, (ad105.add ((t106).toNat * 2)).off + 1, none⟩ = some (.bool ((rd_T26 t101 t106).f1))) ∧ (Kd.R k26 26 w' w.heap.size (fun k_ => k_ ≠ s_.1 ∧ k_ ≠ s_.2) (.slice (some ad105) t101.length co28) t101) ∧ (w'.heap[s_.1]? = some (.cells #[.int .i64 0, .bool false] 26 (0, 0))) ∧ (w'.heap[s_.2]? = some (.cells #[.int .i64 0, .bool false] 26 (0, 0))) ∧ (w.heap.size ≤ s_.1) ∧ (w.heap.size ≤ s_.1) ∧ (s_.2 ≠ s_.1) ∧ (s_.1 ≠ s_.2) ∧ (w.heap.size ≤ s_.2) ∧ (w.heap.size ≤ s_.2) ∧ (Below w.heap.size w w')) ?_ ?_
           rotate_left
           ·
            intro hJ10_11
            refine join_ (σ := Unit) 7 #[true,true,true,true,true,true,true,false,false,false,false,false,false,false] (fun s_ => [(15, .int .i64 t104), (16, .pointer (some (ad105.add ((t104).toNat * 2)))), (17, .agg #[.int .i64 ((rd_T26 t101 t104).f0), .bool ((rd_T26 t101 t104).f1)])]) (fun s_ w' => (w'.cell? (ad105.add ((t104).toNat * 2)) = some (.int .i64 ((rd_T26 t101 t104).f0)) ∧ w'.cell? ⟨(ad105.add ((t104).toNat * 2)).block, (ad105.add ((t104).toNat * 2)).off + 1, none⟩ = some (.bool ((rd_T26 t101 t104).f1)) ∧ w'.cell? (ad105.add ((t106).toNat * 2)) = some (.int .i64 ((rd_T26 t101 t106).f0)) ∧ w'.cell? ⟨(ad105.add ((t106).toNat * 2)).block, (ad105.add ((t106).toNat * 2)).off + 1, none⟩ = some (.bool ((rd_T26 t101 t106).f1))) ∧ (Kd.R k26 26 w' w.heap.size (fun _ => True) (.slice (some ad105) t101.length co28) t101) ∧ (Below w.heap.size w w')) ?_ ?_
            rotate_left
            ·
             intro hJ2
             refine join_ (σ := Nat) 9 #[true,true,false,false,false,true,true,false,false,false,true,false,false,false] (fun s_ => [(8, .pointer (some ⟨s_, 0, none⟩))]) (fun s_ w' => (w'.cell? (ad105.add ((t104).toNat * 2)) = some (.int .i64 ((rd_T26 t101 t104).f0)) ∧ w'.cell? ⟨(ad105.add ((t104).toNat * 2)).block, (ad105.add ((t104).toNat * 2)).off + 1, none⟩ = some (.bool ((rd_T26 t101 t104).f1)) ∧ w'.cell? (ad105.add ((t106).toNat * 2)) = some (.int .i64 ((rd_T26 t101 t106).f0)) ∧ w'.cell? ⟨(ad105.add ((t106).toNat * 2)).block, (ad105.add ((t106).toNat * 2)).off + 1, none⟩ = some (.bool ((rd_T26 t101 t106).f1))) ∧ (Kd.R k26 26 w' w.heap.size (fun k_ => k_ ≠ s_) (.slice (some ad105) t101.length co28) t101) ∧ (w'.heap[s_]? = some (.cells #[.int .i64 0, .bool false] 26 (0, 0))) ∧ (w.heap.size ≤ s_) ∧ (w.heap.size ≤ s_) ∧ (Below w.heap.size w w')) ?_ ?_
             rotate_left
             ·
              intro hJ10
              refine join_ (σ := Nat) 9 #[true,true,false,false,false,true,true,false,false,false,false,true,false,false] (fun s_ => [(9, .pointer (some ⟨s_, 0, none⟩))]) (fun s_ w' => (w'.cell? (ad105.add ((t104).toNat * 2)) = some (.int .i64 ((rd_T26 t101 t104).f0)) ∧ w'.cell? ⟨(ad105.add ((t104).toNat * 2)).block, (ad105.add ((t104).toNat * 2)).off + 1, none⟩ = some (.bool ((rd_T26 t101 t104).f1)) ∧ w'.cell? (ad105.add ((t106).toNat * 2)) = some (.int .i64 ((rd_T26 t101 t106).f0)) ∧ w'.cell? ⟨(ad105.add ((t106).toNat * 2)).block, (ad105.add ((t106).toNat * 2)).off + 1, none⟩ = some (.bool ((rd_T26 t101 t106).f1))) ∧ (Kd.R k26 26 w' w.heap.size (fun k_ => k_ ≠ s_) (.slice (some ad105) t101.length co28) t101) ∧ (w'.heap[s_]? = some (.cells #[.int .i64 0, .bool false] 26 (0, 0))) ∧ (w.heap.size ≤ s_) ∧ (w.heap.size ≤ s_) ∧ (Below w.heap.size w w')) ?_ ?_
              rotate_left
              ·
               intro hJ11
               refine three_ (i := 2) (j := 10) (k := 11) (Ni := some 15) (Nj := some 8) (Nk := some 9) #[true,true,true,false,false,true,true,false,false,false,false,false,false,false] #[true,true,false,false,false,true,true,false,false,false,true,false,false,false] #[true,true,false,false,false,true,true,false,false,false,false,true,false,false] rfl rfl rfl rfl rfl rfl (three_of HT_.out (by kernel_rfl)) (by decide) (by decide) (by decide) (fun K hK => ?_) (fun K hK => ?_) (fun K hK => ?_)
               ·
                skip
                refine goes_ Tryd.func17 (by kernel_rfl) rfl #[.int .i64 a0, .int .i64 8] (by rfl) rfl rfl (by (try simp only [List.map_toArray, List.map_cons, List.map_nil]); first | done | rfl | (simp only [List.length_drop, List.length_take]; rfl)) ?_
                with_reducible refine (spokeshavelaw0_Low.calls a0 8 t104 _ A5.out).mono ?_
                rintro e w' ⟨rfl, ⟨nd, rfl⟩⟩
                refine ⟨_, rfl, ?_⟩
                refine hK.out _ _ ⟨hHeld.1, hHeld.2.1, hHeld.2.2.1, hHeld.2.2.2⟩ (fun hHeld => ?_)
                clear hK K
                refine norm_ (a' := ?_) ?_ ?_
                rotate_left
                ·
                 show Act.put _ (some 15) _ = _
                 simp only [Act.put, List.setIfInBounds_toArray, List.set_cons_zero, List.set_cons_succ, i64_w, i32_w]
                 rfl
                refine pure_ (i := 3) (N := some 16) (v := ?_) (a' := ?_) #[true,true,true,true,false,true,true,false,false,false,false,false,false,false] rfl rfl (any_of HT_.out (by kernel_rfl)) (fun _ _ _ h => h) (Or.inl ⟨by rfl, ?_⟩) ?_ ?_
                rotate_left
                ·
                 intro w'
                 go_simp
                 with_reducible rfl
                rotate_left
                ·
                 simp only [Act.put, List.setIfInBounds_toArray, List.set_cons_zero, List.set_cons_succ, i64_w, i32_w]
                 rfl
                refine take_ (i := 4) (N := some 17) (v := ?_) (a' := ?_) #[true,true,true,true,true,true,true,false,false,false,false,false,false,false] rfl rfl (take_ofW HT_.out HW_.out (by kernel_rfl)) (fun _ _ _ h => h) (Or.inl ⟨by rfl, ?_⟩) hHeld ?_ ?_
                rotate_left
                ·
                 rintro w' ⟨s0, s1, s2, s3⟩
                 go_simp
                 with_reducible rfl
                rotate_left
                ·
                 simp only [Act.put, List.setIfInBounds_toArray, List.set_cons_zero, List.set_cons_succ, i64_w, i32_w]
                 rfl
                exact norm_ (by first | (simp only [putAll, Act.put, List.setIfInBounds_toArray, List.set_cons_zero, List.set_cons_succ]; done) | (simp only [putAll, Act.put, List.setIfInBounds_toArray, List.set_cons_zero, List.set_cons_succ]; rfl)) (hJ2 () _ ⟨hHeld, (by (with_reducible repeat (first | apply Kd.R_alloc | apply Kd.R_drewN | apply Kd.R_drew)); exact HO103.out), (by repeat (first | (with_reducible first | exact HB.out | apply below_alloc | apply pw_below_drewN | apply below_drew1) | exact HB.out))⟩)
               ·
                skip
                refine box_step ?hg (N := 8) ?hd (cs := #[.int .i64 0, .bool false]) (t := 26) ?hr ?_; (case hd => rfl); (case hg => rfl); (case hr => first | (go_simp; done) | (go_simp; rfl))
                intro gb108 hg w30 hbox hb
                have HS0_ := (hb.cell (World.block_lt_of_cell? _ _ (hHeld.1))).trans (hHeld.1)
                have HS1_ := (hb.cell (World.block_lt_of_cell? _ _ (hHeld.2.1))).trans (hHeld.2.1)
                have HS2_ := (hb.cell (World.block_lt_of_cell? _ _ (hHeld.2.2.1))).trans (hHeld.2.2.1)
                have HS3_ := (hb.cell (World.block_lt_of_cell? _ _ (hHeld.2.2.2))).trans (hHeld.2.2.2)
                have n0_ := Aside0.mk (Kd.R_below (Kd.R_elderB (by (with_reducible repeat (first | apply Kd.R_alloc | apply Kd.R_drewN | apply Kd.R_drew)); exact HO103.out) gb108 (Nat.le_of_eq hg.symm)) hb)
                have n1_ := Aside0.mk (below_step (by repeat (first | (with_reducible first | exact HB.out | apply below_alloc | apply pw_below_drewN | apply below_drew1) | exact HB.out)) hb)
                have n2_ := Aside0.mk (hbox)
                have n3_ := Aside0.mk ((by rw [hg]; exact (below_size (by repeat (first | (with_reducible first | exact HB.out | apply below_alloc | apply pw_below_drewN | apply below_drew1) | exact HB.out))) : w.heap.size ≤ gb108))
                have n4_ := Aside0.mk ((by rw [hg]; exact (below_size (by repeat (first | (with_reducible first | exact HB.out | apply below_alloc | apply pw_below_drewN | apply below_drew1) | exact HB.out))) : w.heap.size ≤ gb108))
                clear HO103
                clear HB
                have HO103 := n0_
                have HB := n1_
                have BK108 := n2_
                have GW108 := n3_
                have GE108 := n4_
                clear n0_ n1_ n2_ n3_ n4_
                clear hb hbox hg
                refine hK.out _ _ ⟨HS0_, HS1_, HS2_, HS3_⟩ (fun hHeld => ?_)
                clear hK K
                refine norm_ (a' := ?_) ?_ ?_
                rotate_left
                ·
                 show Act.put _ (some 8) _ = _
                 simp only [Act.put, List.setIfInBounds_toArray, List.set_cons_zero, List.set_cons_succ, i64_w, i32_w]
                 rfl
                exact norm_ (by first | (simp only [putAll, Act.put, List.setIfInBounds_toArray, List.set_cons_zero, List.set_cons_succ]; done) | (simp only [putAll, Act.put, List.setIfInBounds_toArray, List.set_cons_zero, List.set_cons_succ]; rfl)) (hJ10 (gb108) _ ⟨hHeld, (by (with_reducible repeat (first | apply Kd.R_alloc | apply Kd.R_drewN | apply Kd.R_drew)); exact Kd.R_mono HO103.out (fun _ hk => hk.2)), (by (with_reducible repeat (first | refine blk_drewN ?_ _ | refine blk_drew ?_ | refine blk_alloc ?_ _)); exact BK108.out), GW108.out, GE108.out, (by repeat (first | (with_reducible first | exact HB.out | apply below_alloc | apply pw_below_drewN | apply below_drew1 | refine below_set ?_ GE108.out) | exact HB.out))⟩)
               ·
                skip
                refine box_step ?hg (N := 9) ?hd (cs := #[.int .i64 0, .bool false]) (t := 26) ?hr ?_; (case hd => rfl); (case hg => rfl); (case hr => first | (go_simp; done) | (go_simp; rfl))
                intro gb109 hg w30 hbox hb
                have HS0_ := (hb.cell (World.block_lt_of_cell? _ _ (hHeld.1))).trans (hHeld.1)
                have HS1_ := (hb.cell (World.block_lt_of_cell? _ _ (hHeld.2.1))).trans (hHeld.2.1)
                have HS2_ := (hb.cell (World.block_lt_of_cell? _ _ (hHeld.2.2.1))).trans (hHeld.2.2.1)
                have HS3_ := (hb.cell (World.block_lt_of_cell? _ _ (hHeld.2.2.2))).trans (hHeld.2.2.2)
                have n0_ := Aside0.mk (Kd.R_below (Kd.R_elderB (by (with_reducible repeat (first | apply Kd.R_alloc | apply Kd.R_drewN | apply Kd.R_drew)); exact HO103.out) gb109 (Nat.le_of_eq hg.symm)) hb)
                have n1_ := Aside0.mk (below_step (by repeat (first | (with_reducible first | exact HB.out | apply below_alloc | apply pw_below_drewN | apply below_drew1) | exact HB.out)) hb)
                have n2_ := Aside0.mk (hbox)
                have n3_ := Aside0.mk ((by rw [hg]; exact (below_size (by repeat (first | (with_reducible first | exact HB.out | apply below_alloc | apply pw_below_drewN | apply below_drew1) | exact HB.out))) : w.heap.size ≤ gb109))
                have n4_ := Aside0.mk ((by rw [hg]; exact (below_size (by repeat (first | (with_reducible first | exact HB.out | apply below_alloc | apply pw_below_drewN | apply below_drew1) | exact HB.out))) : w.heap.size ≤ gb109))
                clear HO103
                clear HB
                have HO103 := n0_
                have HB := n1_
                have BK109 := n2_
                have GW109 := n3_
                have GE109 := n4_
                clear n0_ n1_ n2_ n3_ n4_
                clear hb hbox hg
                refine hK.out _ _ ⟨HS0_, HS1_, HS2_, HS3_⟩ (fun hHeld => ?_)
                clear hK K
                refine norm_ (a' := ?_) ?_ ?_
                rotate_left
                ·
                 show Act.put _ (some 9) _ = _
                 simp only [Act.put, List.setIfInBounds_toArray, List.set_cons_zero, List.set_cons_succ, i64_w, i32_w]
                 rfl
                exact norm_ (by first | (simp only [putAll, Act.put, List.setIfInBounds_toArray, List.set_cons_zero, List.set_cons_succ]; done) | (simp only [putAll, Act.put, List.setIfInBounds_toArray, List.set_cons_zero, List.set_cons_succ]; rfl)) (hJ11 (gb109) _ ⟨hHeld, (by (with_reducible repeat (first | apply Kd.R_alloc | apply Kd.R_drewN | apply Kd.R_drew)); exact Kd.R_mono HO103.out (fun _ hk => hk.2)), (by (with_reducible repeat (first | refine blk_drewN ?_ _ | refine blk_drew ?_ | refine blk_alloc ?_ _)); exact BK109.out), GW109.out, GE109.out, (by repeat (first | (with_reducible first | exact HB.out | apply below_alloc | apply pw_below_drewN | apply below_drew1 | refine below_set ?_ GE109.out) | exact HB.out))⟩)
              ·
               skip
               rintro gb109 w31 ⟨hS_, h0_, h1_, h2_, h3_, h4_⟩
               have n0_ : Aside0 (Kd.R k26 26 w31 w.heap.size (fun k_ => k_ ≠ gb109) (.slice (some ad105) t101.length co28) t101) := ⟨h0_⟩
               have n1_ : Aside0 (w31.heap[gb109]? = some (.cells #[.int .i64 0, .bool false] 26 (0, 0))) := ⟨h1_⟩
               have n2_ : Aside0 (w.heap.size ≤ gb109) := ⟨h2_⟩
               have n3_ : Aside0 (w.heap.size ≤ gb109) := ⟨h3_⟩
               have n4_ : Aside0 (Below w.heap.size w w31) := ⟨h4_⟩
               clear HO103
               clear HB
               clear h0_ h1_ h2_ h3_ h4_
               have HO103 := n0_
               have BK109 := n1_
               have GW109 := n2_
               have GE109 := n3_
               have HB := n4_
               clear n0_ n1_ n2_ n3_ n4_
               have hHeld : w31.cell? (ad105.add ((t104).toNat * 2)) = some (.int .i64 ((rd_T26 t101 t104).f0)) ∧ w31.cell? ⟨(ad105.add ((t104).toNat * 2)).block, (ad105.add ((t104).toNat * 2)).off + 1, none⟩ = some (.bool ((rd_T26 t101 t104).f1)) ∧ w31.cell? (ad105.add ((t106).toNat * 2)) = some (.int .i64 ((rd_T26 t101 t106).f0)) ∧ w31.cell? ⟨(ad105.add ((t106).toNat * 2)).block, (ad105.add ((t106).toNat * 2)).off + 1, none⟩ = some (.bool ((rd_T26 t101 t106).f1)) := hS_
               refine norm_ (a' := ?_) ?_ ?_
               rotate_left
               ·
                simp only [putAll, Act.put, List.setIfInBounds_toArray, List.set_cons_zero, List.set_cons_succ]
                rfl
               refine two_ (i := 2) (j := 10) (Ni := some 15) (Nj := some 8) #[true,true,true,false,false,true,true,false,false,false,false,true,false,false] #[true,true,false,false,false,true,true,false,false,false,true,true,false,false] rfl rfl rfl rfl (two_of HT_.out (by kernel_rfl)) (by decide) (by decide) (fun K hK => ?_) (fun K hK => ?_)
               ·
                skip
                refine goes_ Tryd.func17 (by kernel_rfl) rfl #[.int .i64 a0, .int .i64 8] (by rfl) rfl rfl (by (try simp only [List.map_toArray, List.map_cons, List.map_nil]); first | done | rfl | (simp only [List.length_drop, List.length_take]; rfl)) ?_
                with_reducible refine (spokeshavelaw0_Low.calls a0 8 t104 _ A5.out).mono ?_
                rintro e w' ⟨rfl, ⟨nd, rfl⟩⟩
                refine ⟨_, rfl, ?_⟩
                refine hK.out _ _ ⟨hHeld.1, hHeld.2.1, hHeld.2.2.1, hHeld.2.2.2⟩ (fun hHeld => ?_)
                clear hK K
                refine norm_ (a' := ?_) ?_ ?_
                rotate_left
                ·
                 show Act.put _ (some 15) _ = _
                 simp only [Act.put, List.setIfInBounds_toArray, List.set_cons_zero, List.set_cons_succ, i64_w, i32_w]
                 rfl
                refine pure_ (i := 3) (N := some 16) (v := ?_) (a' := ?_) #[true,true,true,true,false,true,true,false,false,false,false,true,false,false] rfl rfl (any_of HT_.out (by kernel_rfl)) (fun _ _ _ h => h) (Or.inl ⟨by rfl, ?_⟩) ?_ ?_
                rotate_left
                ·
                 intro w'
                 go_simp
                 with_reducible rfl
                rotate_left
                ·
                 simp only [Act.put, List.setIfInBounds_toArray, List.set_cons_zero, List.set_cons_succ, i64_w, i32_w]
                 rfl
                refine take_ (i := 4) (N := some 17) (v := ?_) (a' := ?_) #[true,true,true,true,true,true,true,false,false,false,false,true,false,false] rfl rfl (take_ofW HT_.out HW_.out (by kernel_rfl)) (fun _ _ _ h => h) (Or.inl ⟨by rfl, ?_⟩) hHeld ?_ ?_
                rotate_left
                ·
                 rintro w' ⟨s0, s1, s2, s3⟩
                 go_simp
                 with_reducible rfl
                rotate_left
                ·
                 simp only [Act.put, List.setIfInBounds_toArray, List.set_cons_zero, List.set_cons_succ, i64_w, i32_w]
                 rfl
                exact norm_ (by first | (simp only [putAll, Act.put, List.setIfInBounds_toArray, List.set_cons_zero, List.set_cons_succ]; done) | (simp only [putAll, Act.put, List.setIfInBounds_toArray, List.set_cons_zero, List.set_cons_succ]; rfl)) (hJ2_11 (gb109) _ ⟨hHeld, (by (with_reducible repeat (first | apply Kd.R_alloc | apply Kd.R_drewN | apply Kd.R_drew)); exact HO103.out), (by (with_reducible repeat (first | refine blk_drewN ?_ _ | refine blk_drew ?_ | refine blk_alloc ?_ _)); exact BK109.out), GW109.out, GE109.out, (by repeat (first | (with_reducible first | exact HB.out | apply below_alloc | apply pw_below_drewN | apply below_drew1 | refine below_set ?_ GE109.out) | exact HB.out))⟩)
               ·
                skip
                refine box_step ?hg (N := 8) ?hd (cs := #[.int .i64 0, .bool false]) (t := 26) ?hr ?_; (case hd => rfl); (case hg => rfl); (case hr => first | (go_simp; done) | (go_simp; rfl))
                intro gb108 hg w32 hbox hb
                have HS0_ := (hb.cell (World.block_lt_of_cell? _ _ (hHeld.1))).trans (hHeld.1)
                have HS1_ := (hb.cell (World.block_lt_of_cell? _ _ (hHeld.2.1))).trans (hHeld.2.1)
                have HS2_ := (hb.cell (World.block_lt_of_cell? _ _ (hHeld.2.2.1))).trans (hHeld.2.2.1)
                have HS3_ := (hb.cell (World.block_lt_of_cell? _ _ (hHeld.2.2.2))).trans (hHeld.2.2.2)
                have n0_ := Aside0.mk (Kd.R_below (Kd.R_elderB (by (with_reducible repeat (first | apply Kd.R_alloc | apply Kd.R_drewN | apply Kd.R_drew)); exact HO103.out) gb108 (Nat.le_of_eq hg.symm)) hb)
                have n1_ := Aside0.mk (blk_below (g := gb109) (o := .cells #[.int .i64 0, .bool false] 26 (0, 0)) (by (with_reducible repeat (first | refine blk_drewN ?_ _ | refine blk_drew ?_ | refine blk_alloc ?_ _)); exact BK109.out) hb)
                have n2_ := Aside0.mk (below_step (by repeat (first | (with_reducible first | exact HB.out | apply below_alloc | apply pw_below_drewN | apply below_drew1 | refine below_set ?_ GE109.out) | exact HB.out)) hb)
                have n3_ := Aside0.mk (hbox)
                have n4_ := Aside0.mk ((by rw [hg]; exact (below_size (by repeat (first | (with_reducible first | exact HB.out | apply below_alloc | apply pw_below_drewN | apply below_drew1 | refine below_set ?_ GE109.out) | exact HB.out))) : w.heap.size ≤ gb108))
                have n5_ := Aside0.mk ((by rw [hg]; exact (below_size (by repeat (first | (with_reducible first | exact HB.out | apply below_alloc | apply pw_below_drewN | apply below_drew1 | refine below_set ?_ GE109.out) | exact HB.out))) : w.heap.size ≤ gb108))
                have n6_ := Aside0.mk ((by rw [hg]; exact Nat.ne_of_lt (blk_lt (g := gb109) (o := .cells #[.int .i64 0, .bool false] 26 (0, 0)) (by (with_reducible repeat (first | refine blk_drewN ?_ _ | refine blk_drew ?_ | refine blk_alloc ?_ _)); exact BK109.out)) : gb109 ≠ gb108))
                have n7_ := Aside0.mk ((by rw [hg]; exact Nat.ne_of_gt (blk_lt (g := gb109) (o := .cells #[.int .i64 0, .bool false] 26 (0, 0)) (by (with_reducible repeat (first | refine blk_drewN ?_ _ | refine blk_drew ?_ | refine blk_alloc ?_ _)); exact BK109.out)) : gb108 ≠ gb109))
                clear HO103
                clear BK109
                clear HB
                have HO103 := n0_
                have BK109 := n1_
                have HB := n2_
                have BK108 := n3_
                have GW108 := n4_
                have GE108 := n5_
                have NB109_108 := n6_
                have NB108_109 := n7_
                clear n0_ n1_ n2_ n3_ n4_ n5_ n6_ n7_
                clear hb hbox hg
                refine hK.out _ _ ⟨HS0_, HS1_, HS2_, HS3_⟩ (fun hHeld => ?_)
                clear hK K
                refine norm_ (a' := ?_) ?_ ?_
                rotate_left
                ·
                 show Act.put _ (some 8) _ = _
                 simp only [Act.put, List.setIfInBounds_toArray, List.set_cons_zero, List.set_cons_succ, i64_w, i32_w]
                 rfl
                exact norm_ (by first | (simp only [putAll, Act.put, List.setIfInBounds_toArray, List.set_cons_zero, List.set_cons_succ]; done) | (simp only [putAll, Act.put, List.setIfInBounds_toArray, List.set_cons_zero, List.set_cons_succ]; rfl)) (hJ10_11 (gb108, gb109) _ ⟨hHeld, (by (with_reducible repeat (first | apply Kd.R_alloc | apply Kd.R_drewN | apply Kd.R_drew)); exact Kd.R_mono HO103.out (fun _ hk => ⟨hk.2, hk.1⟩)), (by (with_reducible repeat (first | refine blk_drewN ?_ _ | refine blk_drew ?_ | refine blk_alloc ?_ _)); exact BK108.out), (by (with_reducible repeat (first | refine blk_drewN ?_ _ | refine blk_drew ?_ | refine blk_alloc ?_ _)); exact BK109.out), GW108.out, GE108.out, NB109_108.out, NB108_109.out, GW109.out, GE109.out, (by repeat (first | (with_reducible first | exact HB.out | apply below_alloc | apply pw_below_drewN | apply below_drew1 | refine below_set ?_ GE109.out | refine below_set ?_ GE108.out) | exact HB.out))⟩)
             ·
              skip
              rintro gb108 w31 ⟨hS_, h0_, h1_, h2_, h3_, h4_⟩
              have n0_ : Aside0 (Kd.R k26 26 w31 w.heap.size (fun k_ => k_ ≠ gb108) (.slice (some ad105) t101.length co28) t101) := ⟨h0_⟩
              have n1_ : Aside0 (w31.heap[gb108]? = some (.cells #[.int .i64 0, .bool false] 26 (0, 0))) := ⟨h1_⟩
              have n2_ : Aside0 (w.heap.size ≤ gb108) := ⟨h2_⟩
              have n3_ : Aside0 (w.heap.size ≤ gb108) := ⟨h3_⟩
              have n4_ : Aside0 (Below w.heap.size w w31) := ⟨h4_⟩
              clear HO103
              clear HB
              clear h0_ h1_ h2_ h3_ h4_
              have HO103 := n0_
              have BK108 := n1_
              have GW108 := n2_
              have GE108 := n3_
              have HB := n4_
              clear n0_ n1_ n2_ n3_ n4_
              have hHeld : w31.cell? (ad105.add ((t104).toNat * 2)) = some (.int .i64 ((rd_T26 t101 t104).f0)) ∧ w31.cell? ⟨(ad105.add ((t104).toNat * 2)).block, (ad105.add ((t104).toNat * 2)).off + 1, none⟩ = some (.bool ((rd_T26 t101 t104).f1)) ∧ w31.cell? (ad105.add ((t106).toNat * 2)) = some (.int .i64 ((rd_T26 t101 t106).f0)) ∧ w31.cell? ⟨(ad105.add ((t106).toNat * 2)).block, (ad105.add ((t106).toNat * 2)).off + 1, none⟩ = some (.bool ((rd_T26 t101 t106).f1)) := hS_
              refine norm_ (a' := ?_) ?_ ?_
              rotate_left
              ·
               simp only [putAll, Act.put, List.setIfInBounds_toArray, List.set_cons_zero, List.set_cons_succ]
               rfl
              refine two_ (i := 2) (j := 11) (Ni := some 15) (Nj := some 9) #[true,true,true,false,false,true,true,false,false,false,true,false,false,false] #[true,true,false,false,false,true,true,false,false,false,true,true,false,false] rfl rfl rfl rfl (two_of HT_.out (by kernel_rfl)) (by decide) (by decide) (fun K hK => ?_) (fun K hK => ?_)
              ·
               skip
               refine goes_ Tryd.func17 (by kernel_rfl) rfl #[.int .i64 a0, .int .i64 8] (by rfl) rfl rfl (by (try simp only [List.map_toArray, List.map_cons, List.map_nil]); first | done | rfl | (simp only [List.length_drop, List.length_take]; rfl)) ?_
               with_reducible refine (spokeshavelaw0_Low.calls a0 8 t104 _ A5.out).mono ?_
               rintro e w' ⟨rfl, ⟨nd, rfl⟩⟩
               refine ⟨_, rfl, ?_⟩
               refine hK.out _ _ ⟨hHeld.1, hHeld.2.1, hHeld.2.2.1, hHeld.2.2.2⟩ (fun hHeld => ?_)
               clear hK K
               refine norm_ (a' := ?_) ?_ ?_
               rotate_left
               ·
                show Act.put _ (some 15) _ = _
                simp only [Act.put, List.setIfInBounds_toArray, List.set_cons_zero, List.set_cons_succ, i64_w, i32_w]
                rfl
               refine pure_ (i := 3) (N := some 16) (v := ?_) (a' := ?_) #[true,true,true,true,false,true,true,false,false,false,true,false,false,false] rfl rfl (any_of HT_.out (by kernel_rfl)) (fun _ _ _ h => h) (Or.inl ⟨by rfl, ?_⟩) ?_ ?_
               rotate_left
               ·
                intro w'
                go_simp
                with_reducible rfl
               rotate_left
               ·
                simp only [Act.put, List.setIfInBounds_toArray, List.set_cons_zero, List.set_cons_succ, i64_w, i32_w]
                rfl
               refine take_ (i := 4) (N := some 17) (v := ?_) (a' := ?_) #[true,true,true,true,true,true,true,false,false,false,true,false,false,false] rfl rfl (take_ofW HT_.out HW_.out (by kernel_rfl)) (fun _ _ _ h => h) (Or.inl ⟨by rfl, ?_⟩) hHeld ?_ ?_
               rotate_left
               ·
                rintro w' ⟨s0, s1, s2, s3⟩
                go_simp
                with_reducible rfl
               rotate_left
               ·
                simp only [Act.put, List.setIfInBounds_toArray, List.set_cons_zero, List.set_cons_succ, i64_w, i32_w]
                rfl
               exact norm_ (by first | (simp only [putAll, Act.put, List.setIfInBounds_toArray, List.set_cons_zero, List.set_cons_succ]; done) | (simp only [putAll, Act.put, List.setIfInBounds_toArray, List.set_cons_zero, List.set_cons_succ]; rfl)) (hJ2_10 (gb108) _ ⟨hHeld, (by (with_reducible repeat (first | apply Kd.R_alloc | apply Kd.R_drewN | apply Kd.R_drew)); exact HO103.out), (by (with_reducible repeat (first | refine blk_drewN ?_ _ | refine blk_drew ?_ | refine blk_alloc ?_ _)); exact BK108.out), GW108.out, GE108.out, (by repeat (first | (with_reducible first | exact HB.out | apply below_alloc | apply pw_below_drewN | apply below_drew1 | refine below_set ?_ GE108.out) | exact HB.out))⟩)
              ·
               skip
               refine box_step ?hg (N := 9) ?hd (cs := #[.int .i64 0, .bool false]) (t := 26) ?hr ?_; (case hd => rfl); (case hg => rfl); (case hr => first | (go_simp; done) | (go_simp; rfl))
               intro gb109 hg w32 hbox hb
               have HS0_ := (hb.cell (World.block_lt_of_cell? _ _ (hHeld.1))).trans (hHeld.1)
               have HS1_ := (hb.cell (World.block_lt_of_cell? _ _ (hHeld.2.1))).trans (hHeld.2.1)
               have HS2_ := (hb.cell (World.block_lt_of_cell? _ _ (hHeld.2.2.1))).trans (hHeld.2.2.1)
               have HS3_ := (hb.cell (World.block_lt_of_cell? _ _ (hHeld.2.2.2))).trans (hHeld.2.2.2)
               have n0_ := Aside0.mk (Kd.R_below (Kd.R_elderB (by (with_reducible repeat (first | apply Kd.R_alloc | apply Kd.R_drewN | apply Kd.R_drew)); exact HO103.out) gb109 (Nat.le_of_eq hg.symm)) hb)
               have n1_ := Aside0.mk (blk_below (g := gb108) (o := .cells #[.int .i64 0, .bool false] 26 (0, 0)) (by (with_reducible repeat (first | refine blk_drewN ?_ _ | refine blk_drew ?_ | refine blk_alloc ?_ _)); exact BK108.out) hb)
               have n2_ := Aside0.mk (below_step (by repeat (first | (with_reducible first | exact HB.out | apply below_alloc | apply pw_below_drewN | apply below_drew1 | refine below_set ?_ GE108.out) | exact HB.out)) hb)
               have n3_ := Aside0.mk (hbox)
               have n4_ := Aside0.mk ((by rw [hg]; exact (below_size (by repeat (first | (with_reducible first | exact HB.out | apply below_alloc | apply pw_below_drewN | apply below_drew1 | refine below_set ?_ GE108.out) | exact HB.out))) : w.heap.size ≤ gb109))
               have n5_ := Aside0.mk ((by rw [hg]; exact (below_size (by repeat (first | (with_reducible first | exact HB.out | apply below_alloc | apply pw_below_drewN | apply below_drew1 | refine below_set ?_ GE108.out) | exact HB.out))) : w.heap.size ≤ gb109))
               have n6_ := Aside0.mk ((by rw [hg]; exact Nat.ne_of_lt (blk_lt (g := gb108) (o := .cells #[.int .i64 0, .bool false] 26 (0, 0)) (by (with_reducible repeat (first | refine blk_drewN ?_ _ | refine blk_drew ?_ | refine blk_alloc ?_ _)); exact BK108.out)) : gb108 ≠ gb109))
               have n7_ := Aside0.mk ((by rw [hg]; exact Nat.ne_of_gt (blk_lt (g := gb108) (o := .cells #[.int .i64 0, .bool false] 26 (0, 0)) (by (with_reducible repeat (first | refine blk_drewN ?_ _ | refine blk_drew ?_ | refine blk_alloc ?_ _)); exact BK108.out)) : gb109 ≠ gb108))
               clear HO103
               clear BK108
               clear HB
               have HO103 := n0_
               have BK108 := n1_
               have HB := n2_
               have BK109 := n3_
               have GW109 := n4_
               have GE109 := n5_
               have NB108_109 := n6_
               have NB109_108 := n7_
               clear n0_ n1_ n2_ n3_ n4_ n5_ n6_ n7_
               clear hb hbox hg
               refine hK.out _ _ ⟨HS0_, HS1_, HS2_, HS3_⟩ (fun hHeld => ?_)
               clear hK K
               refine norm_ (a' := ?_) ?_ ?_
               rotate_left
               ·
                show Act.put _ (some 9) _ = _
                simp only [Act.put, List.setIfInBounds_toArray, List.set_cons_zero, List.set_cons_succ, i64_w, i32_w]
                rfl
               exact norm_ (by first | (simp only [putAll, Act.put, List.setIfInBounds_toArray, List.set_cons_zero, List.set_cons_succ]; done) | (simp only [putAll, Act.put, List.setIfInBounds_toArray, List.set_cons_zero, List.set_cons_succ]; rfl)) (hJ10_11 (gb108, gb109) _ ⟨hHeld, (by (with_reducible repeat (first | apply Kd.R_alloc | apply Kd.R_drewN | apply Kd.R_drew)); exact HO103.out), (by (with_reducible repeat (first | refine blk_drewN ?_ _ | refine blk_drew ?_ | refine blk_alloc ?_ _)); exact BK108.out), (by (with_reducible repeat (first | refine blk_drewN ?_ _ | refine blk_drew ?_ | refine blk_alloc ?_ _)); exact BK109.out), GW108.out, GE108.out, NB109_108.out, NB108_109.out, GW109.out, GE109.out, (by repeat (first | (with_reducible first | exact HB.out | apply below_alloc | apply pw_below_drewN | apply below_drew1 | refine below_set ?_ GE108.out | refine below_set ?_ GE109.out) | exact HB.out))⟩)
            ·
             skip
             rintro _ w30 ⟨hS_, h0_, h1_⟩
             have n0_ : Aside0 (Kd.R k26 26 w30 w.heap.size (fun _ => True) (.slice (some ad105) t101.length co28) t101) := ⟨h0_⟩
             have n1_ : Aside0 (Below w.heap.size w w30) := ⟨h1_⟩
             clear HO103
             clear HB
             clear h0_ h1_
             have HO103 := n0_
             have HB := n1_
             clear n0_ n1_
             have hHeld : w30.cell? (ad105.add ((t104).toNat * 2)) = some (.int .i64 ((rd_T26 t101 t104).f0)) ∧ w30.cell? ⟨(ad105.add ((t104).toNat * 2)).block, (ad105.add ((t104).toNat * 2)).off + 1, none⟩ = some (.bool ((rd_T26 t101 t104).f1)) ∧ w30.cell? (ad105.add ((t106).toNat * 2)) = some (.int .i64 ((rd_T26 t101 t106).f0)) ∧ w30.cell? ⟨(ad105.add ((t106).toNat * 2)).block, (ad105.add ((t106).toNat * 2)).off + 1, none⟩ = some (.bool ((rd_T26 t101 t106).f1)) := hS_
             refine norm_ (a' := ?_) ?_ ?_
             rotate_left
             ·
              simp only [putAll, Act.put, List.setIfInBounds_toArray, List.set_cons_zero, List.set_cons_succ]
              rfl
             refine three_ (i := 7) (j := 10) (k := 11) (Ni := some 20) (Nj := some 8) (Nk := some 9) #[true,true,true,true,true,true,true,true,false,false,false,false,false,false] #[true,true,true,true,true,true,true,false,false,false,true,false,false,false] #[true,true,true,true,true,true,true,false,false,false,false,true,false,false] rfl rfl rfl rfl rfl rfl (three_of HT_.out (by kernel_rfl)) (by decide) (by decide) (by decide) (fun K hK => ?_) (fun K hK => ?_) (fun K hK => ?_)
             ·
              skip
              refine goes_ Tryd.func17 (by kernel_rfl) rfl #[.int .i64 a1, .int .i64 8] (by rfl) rfl rfl (by (try simp only [List.map_toArray, List.map_cons, List.map_nil]); first | done | rfl | (simp only [List.length_drop, List.length_take]; rfl)) ?_
              with_reducible refine (spokeshavelaw0_Low.calls a1 8 t106 _ A8.out).mono ?_
              rintro e w' ⟨rfl, ⟨nd, rfl⟩⟩
              refine ⟨_, rfl, ?_⟩
              refine hK.out _ _ ⟨hHeld.1, hHeld.2.1, hHeld.2.2.1, hHeld.2.2.2⟩ (fun hHeld => ?_)
              clear hK K
              refine norm_ (a' := ?_) ?_ ?_
              rotate_left
              ·
               show Act.put _ (some 20) _ = _
               simp only [Act.put, List.setIfInBounds_toArray, List.set_cons_zero, List.set_cons_succ, i64_w, i32_w]
               rfl
              refine pure_ (i := 8) (N := some 21) (v := ?_) (a' := ?_) #[true,true,true,true,true,true,true,true,true,false,false,false,false,false] rfl rfl (any_of HT_.out (by kernel_rfl)) (fun _ _ _ h => h) (Or.inl ⟨by rfl, ?_⟩) ?_ ?_
              rotate_left
              ·
               intro w'
               go_simp
               with_reducible rfl
              rotate_left
              ·
               simp only [Act.put, List.setIfInBounds_toArray, List.set_cons_zero, List.set_cons_succ, i64_w, i32_w]
               rfl
              refine take_ (i := 9) (N := some 22) (v := ?_) (a' := ?_) #[true,true,true,true,true,true,true,true,true,true,false,false,false,false] rfl rfl (take_ofW HT_.out HW_.out (by kernel_rfl)) (fun _ _ _ h => h) (Or.inl ⟨by rfl, ?_⟩) hHeld ?_ ?_
              rotate_left
              ·
               rintro w' ⟨s0, s1, s2, s3⟩
               go_simp
               with_reducible rfl
              rotate_left
              ·
               simp only [Act.put, List.setIfInBounds_toArray, List.set_cons_zero, List.set_cons_succ, i64_w, i32_w]
               rfl
              exact norm_ (by first | (simp only [putAll, Act.put, List.setIfInBounds_toArray, List.set_cons_zero, List.set_cons_succ]; done) | (simp only [putAll, Act.put, List.setIfInBounds_toArray, List.set_cons_zero, List.set_cons_succ]; rfl)) (hJ2_7 () _ ⟨hHeld, (by (with_reducible repeat (first | apply Kd.R_alloc | apply Kd.R_drewN | apply Kd.R_drew)); exact HO103.out), (by repeat (first | (with_reducible first | exact HB.out | apply below_alloc | apply pw_below_drewN | apply below_drew1) | exact HB.out))⟩)
             ·
              skip
              refine box_step ?hg (N := 8) ?hd (cs := #[.int .i64 0, .bool false]) (t := 26) ?hr ?_; (case hd => rfl); (case hg => rfl); (case hr => first | (go_simp; done) | (go_simp; rfl))
              intro gb108 hg w31 hbox hb
              have HS0_ := (hb.cell (World.block_lt_of_cell? _ _ (hHeld.1))).trans (hHeld.1)
              have HS1_ := (hb.cell (World.block_lt_of_cell? _ _ (hHeld.2.1))).trans (hHeld.2.1)
              have HS2_ := (hb.cell (World.block_lt_of_cell? _ _ (hHeld.2.2.1))).trans (hHeld.2.2.1)
              have HS3_ := (hb.cell (World.block_lt_of_cell? _ _ (hHeld.2.2.2))).trans (hHeld.2.2.2)
              have n0_ := Aside0.mk (Kd.R_below (Kd.R_elderB (by (with_reducible repeat (first | apply Kd.R_alloc | apply Kd.R_drewN | apply Kd.R_drew)); exact HO103.out) gb108 (Nat.le_of_eq hg.symm)) hb)
              have n1_ := Aside0.mk (below_step (by repeat (first | (with_reducible first | exact HB.out | apply below_alloc | apply pw_below_drewN | apply below_drew1) | exact HB.out)) hb)
              have n2_ := Aside0.mk (hbox)
              have n3_ := Aside0.mk ((by rw [hg]; exact (below_size (by repeat (first | (with_reducible first | exact HB.out | apply below_alloc | apply pw_below_drewN | apply below_drew1) | exact HB.out))) : w.heap.size ≤ gb108))
              have n4_ := Aside0.mk ((by rw [hg]; exact (below_size (by repeat (first | (with_reducible first | exact HB.out | apply below_alloc | apply pw_below_drewN | apply below_drew1) | exact HB.out))) : w.heap.size ≤ gb108))
              clear HO103
              clear HB
              have HO103 := n0_
              have HB := n1_
              have BK108 := n2_
              have GW108 := n3_
              have GE108 := n4_
              clear n0_ n1_ n2_ n3_ n4_
              clear hb hbox hg
              refine hK.out _ _ ⟨HS0_, HS1_, HS2_, HS3_⟩ (fun hHeld => ?_)
              clear hK K
              refine norm_ (a' := ?_) ?_ ?_
              rotate_left
              ·
               show Act.put _ (some 8) _ = _
               simp only [Act.put, List.setIfInBounds_toArray, List.set_cons_zero, List.set_cons_succ, i64_w, i32_w]
               rfl
              exact norm_ (by first | (simp only [putAll, Act.put, List.setIfInBounds_toArray, List.set_cons_zero, List.set_cons_succ]; done) | (simp only [putAll, Act.put, List.setIfInBounds_toArray, List.set_cons_zero, List.set_cons_succ]; rfl)) (hJ2_10 (gb108) _ ⟨hHeld, (by (with_reducible repeat (first | apply Kd.R_alloc | apply Kd.R_drewN | apply Kd.R_drew)); exact Kd.R_mono HO103.out (fun _ hk => hk.2)), (by (with_reducible repeat (first | refine blk_drewN ?_ _ | refine blk_drew ?_ | refine blk_alloc ?_ _)); exact BK108.out), GW108.out, GE108.out, (by repeat (first | (with_reducible first | exact HB.out | apply below_alloc | apply pw_below_drewN | apply below_drew1 | refine below_set ?_ GE108.out) | exact HB.out))⟩)
             ·
              skip
              refine box_step ?hg (N := 9) ?hd (cs := #[.int .i64 0, .bool false]) (t := 26) ?hr ?_; (case hd => rfl); (case hg => rfl); (case hr => first | (go_simp; done) | (go_simp; rfl))
              intro gb109 hg w31 hbox hb
              have HS0_ := (hb.cell (World.block_lt_of_cell? _ _ (hHeld.1))).trans (hHeld.1)
              have HS1_ := (hb.cell (World.block_lt_of_cell? _ _ (hHeld.2.1))).trans (hHeld.2.1)
              have HS2_ := (hb.cell (World.block_lt_of_cell? _ _ (hHeld.2.2.1))).trans (hHeld.2.2.1)
              have HS3_ := (hb.cell (World.block_lt_of_cell? _ _ (hHeld.2.2.2))).trans (hHeld.2.2.2)
              have n0_ := Aside0.mk (Kd.R_below (Kd.R_elderB (by (with_reducible repeat (first | apply Kd.R_alloc | apply Kd.R_drewN | apply Kd.R_drew)); exact HO103.out) gb109 (Nat.le_of_eq hg.symm)) hb)
              have n1_ := Aside0.mk (below_step (by repeat (first | (with_reducible first | exact HB.out | apply below_alloc | apply pw_below_drewN | apply below_drew1) | exact HB.out)) hb)
              have n2_ := Aside0.mk (hbox)
              have n3_ := Aside0.mk ((by rw [hg]; exact (below_size (by repeat (first | (with_reducible first | exact HB.out | apply below_alloc | apply pw_below_drewN | apply below_drew1) | exact HB.out))) : w.heap.size ≤ gb109))
              have n4_ := Aside0.mk ((by rw [hg]; exact (below_size (by repeat (first | (with_reducible first | exact HB.out | apply below_alloc | apply pw_below_drewN | apply below_drew1) | exact HB.out))) : w.heap.size ≤ gb109))
              clear HO103
              clear HB
              have HO103 := n0_
              have HB := n1_
              have BK109 := n2_
              have GW109 := n3_
              have GE109 := n4_
              clear n0_ n1_ n2_ n3_ n4_
              clear hb hbox hg
              refine hK.out _ _ ⟨HS0_, HS1_, HS2_, HS3_⟩ (fun hHeld => ?_)
              clear hK K
              refine norm_ (a' := ?_) ?_ ?_
              rotate_left
              ·
               show Act.put _ (some 9) _ = _
               simp only [Act.put, List.setIfInBounds_toArray, List.set_cons_zero, List.set_cons_succ, i64_w, i32_w]
               rfl
              exact norm_ (by first | (simp only [putAll, Act.put, List.setIfInBounds_toArray, List.set_cons_zero, List.set_cons_succ]; done) | (simp only [putAll, Act.put, List.setIfInBounds_toArray, List.set_cons_zero, List.set_cons_succ]; rfl)) (hJ2_11 (gb109) _ ⟨hHeld, (by (with_reducible repeat (first | apply Kd.R_alloc | apply Kd.R_drewN | apply Kd.R_drew)); exact Kd.R_mono HO103.out (fun _ hk => hk.2)), (by (with_reducible repeat (first | refine blk_drewN ?_ _ | refine blk_drew ?_ | refine blk_alloc ?_ _)); exact BK109.out), GW109.out, GE109.out, (by repeat (first | (with_reducible first | exact HB.out | apply below_alloc | apply pw_below_drewN | apply below_drew1 | refine below_set ?_ GE109.out) | exact HB.out))⟩)
           ·
            skip
            rintro ⟨gb108, gb109⟩ w32 ⟨hS_, h0_, h1_, h2_, h3_, h4_, h5_, h6_, h7_, h8_, h9_⟩
            have n0_ : Aside0 (Kd.R k26 26 w32 w.heap.size (fun k_ => k_ ≠ gb108 ∧ k_ ≠ gb109) (.slice (some ad105) t101.length co28) t101) := ⟨h0_⟩
            have n1_ : Aside0 (w32.heap[gb108]? = some (.cells #[.int .i64 0, .bool false] 26 (0, 0))) := ⟨h1_⟩
            have n2_ : Aside0 (w32.heap[gb109]? = some (.cells #[.int .i64 0, .bool false] 26 (0, 0))) := ⟨h2_⟩
            have n3_ : Aside0 (w.heap.size ≤ gb108) := ⟨h3_⟩
            have n4_ : Aside0 (w.heap.size ≤ gb108) := ⟨h4_⟩
            have n5_ : Aside0 (gb109 ≠ gb108) := ⟨h5_⟩
            have n6_ : Aside0 (gb108 ≠ gb109) := ⟨h6_⟩
            have n7_ : Aside0 (w.heap.size ≤ gb109) := ⟨h7_⟩
            have n8_ : Aside0 (w.heap.size ≤ gb109) := ⟨h8_⟩
            have n9_ : Aside0 (Below w.heap.size w w32) := ⟨h9_⟩
            clear HO103
            clear HB
            clear h0_ h1_ h2_ h3_ h4_ h5_ h6_ h7_ h8_ h9_
            have HO103 := n0_
            have BK108 := n1_
            have BK109 := n2_
            have GW108 := n3_
            have GE108 := n4_
            have NB109_108 := n5_
            have NB108_109 := n6_
            have GW109 := n7_
            have GE109 := n8_
            have HB := n9_
            clear n0_ n1_ n2_ n3_ n4_ n5_ n6_ n7_ n8_ n9_
            have hHeld : w32.cell? (ad105.add ((t104).toNat * 2)) = some (.int .i64 ((rd_T26 t101 t104).f0)) ∧ w32.cell? ⟨(ad105.add ((t104).toNat * 2)).block, (ad105.add ((t104).toNat * 2)).off + 1, none⟩ = some (.bool ((rd_T26 t101 t104).f1)) ∧ w32.cell? (ad105.add ((t106).toNat * 2)) = some (.int .i64 ((rd_T26 t101 t106).f0)) ∧ w32.cell? ⟨(ad105.add ((t106).toNat * 2)).block, (ad105.add ((t106).toNat * 2)).off + 1, none⟩ = some (.bool ((rd_T26 t101 t106).f1)) := hS_
            refine norm_ (a' := ?_) ?_ ?_
            rotate_left
            ·
             simp only [putAll, Act.put, List.setIfInBounds_toArray, List.set_cons_zero, List.set_cons_succ]
             rfl
            refine one_ (i := 2) (N := some 15) #[true,true,true,false,false,true,true,false,false,false,true,true,false,false] rfl rfl (one_of HT_.out (by kernel_rfl)) (by decide) (fun K hK => ?_)
            refine goes_ Tryd.func17 (by kernel_rfl) rfl #[.int .i64 a0, .int .i64 8] (by rfl) rfl rfl (by (try simp only [List.map_toArray, List.map_cons, List.map_nil]); first | done | rfl | (simp only [List.length_drop, List.length_take]; rfl)) ?_
            with_reducible refine (spokeshavelaw0_Low.calls a0 8 t104 _ A5.out).mono ?_
            rintro e w' ⟨rfl, ⟨nd, rfl⟩⟩
            refine ⟨_, rfl, ?_⟩
            refine hK.out _ _ ⟨hHeld.1, hHeld.2.1, hHeld.2.2.1, hHeld.2.2.2⟩ (fun hHeld => ?_)
            clear hK K
            refine norm_ (a' := ?_) ?_ ?_
            rotate_left
            ·
             show Act.put _ (some 15) _ = _
             simp only [Act.put, List.setIfInBounds_toArray, List.set_cons_zero, List.set_cons_succ, i64_w, i32_w]
             rfl
            refine pure_ (i := 3) (N := some 16) (v := ?_) (a' := ?_) #[true,true,true,true,false,true,true,false,false,false,true,true,false,false] rfl rfl (any_of HT_.out (by kernel_rfl)) (fun _ _ _ h => h) (Or.inl ⟨by rfl, ?_⟩) ?_ ?_
            rotate_left
            ·
             intro w'
             go_simp
             with_reducible rfl
            rotate_left
            ·
             simp only [Act.put, List.setIfInBounds_toArray, List.set_cons_zero, List.set_cons_succ, i64_w, i32_w]
             rfl
            refine take_ (i := 4) (N := some 17) (v := ?_) (a' := ?_) #[true,true,true,true,true,true,true,false,false,false,true,true,false,false] rfl rfl (take_ofW HT_.out HW_.out (by kernel_rfl)) (fun _ _ _ h => h) (Or.inl ⟨by rfl, ?_⟩) hHeld ?_ ?_
            rotate_left
            ·
             rintro w' ⟨s0, s1, s2, s3⟩
             go_simp
             with_reducible rfl
            rotate_left
            ·
             simp only [Act.put, List.setIfInBounds_toArray, List.set_cons_zero, List.set_cons_succ, i64_w, i32_w]
             rfl
            exact norm_ (by first | (simp only [putAll, Act.put, List.setIfInBounds_toArray, List.set_cons_zero, List.set_cons_succ]; done) | (simp only [putAll, Act.put, List.setIfInBounds_toArray, List.set_cons_zero, List.set_cons_succ]; rfl)) (hJ2_10_11 (gb108, gb109) _ ⟨hHeld, (by (with_reducible repeat (first | apply Kd.R_alloc | apply Kd.R_drewN | apply Kd.R_drew)); exact HO103.out), (by (with_reducible repeat (first | refine blk_drewN ?_ _ | refine blk_drew ?_ | refine blk_alloc ?_ _)); exact BK108.out), (by (with_reducible repeat (first | refine blk_drewN ?_ _ | refine blk_drew ?_ | refine blk_alloc ?_ _)); exact BK109.out), GW108.out, GE108.out, NB109_108.out, NB108_109.out, GW109.out, GE109.out, (by repeat (first | (with_reducible first | exact HB.out | apply below_alloc | apply pw_below_drewN | apply below_drew1 | refine below_set ?_ GE108.out | refine below_set ?_ GE109.out) | exact HB.out))⟩)
          ·
           skip
           rintro gb109 w31 ⟨hS_, h0_, h1_, h2_, h3_, h4_⟩
           have n0_ : Aside0 (Kd.R k26 26 w31 w.heap.size (fun k_ => k_ ≠ gb109) (.slice (some ad105) t101.length co28) t101) := ⟨h0_⟩
           have n1_ : Aside0 (w31.heap[gb109]? = some (.cells #[.int .i64 0, .bool false] 26 (0, 0))) := ⟨h1_⟩
           have n2_ : Aside0 (w.heap.size ≤ gb109) := ⟨h2_⟩
           have n3_ : Aside0 (w.heap.size ≤ gb109) := ⟨h3_⟩
           have n4_ : Aside0 (Below w.heap.size w w31) := ⟨h4_⟩
           clear HO103
           clear HB
           clear h0_ h1_ h2_ h3_ h4_
           have HO103 := n0_
           have BK109 := n1_
           have GW109 := n2_
           have GE109 := n3_
           have HB := n4_
           clear n0_ n1_ n2_ n3_ n4_
           have hHeld : w31.cell? (ad105.add ((t104).toNat * 2)) = some (.int .i64 ((rd_T26 t101 t104).f0)) ∧ w31.cell? ⟨(ad105.add ((t104).toNat * 2)).block, (ad105.add ((t104).toNat * 2)).off + 1, none⟩ = some (.bool ((rd_T26 t101 t104).f1)) ∧ w31.cell? (ad105.add ((t106).toNat * 2)) = some (.int .i64 ((rd_T26 t101 t106).f0)) ∧ w31.cell? ⟨(ad105.add ((t106).toNat * 2)).block, (ad105.add ((t106).toNat * 2)).off + 1, none⟩ = some (.bool ((rd_T26 t101 t106).f1)) := hS_
           refine norm_ (a' := ?_) ?_ ?_
           rotate_left
           ·
            simp only [putAll, Act.put, List.setIfInBounds_toArray, List.set_cons_zero, List.set_cons_succ]
            rfl
           refine two_ (i := 7) (j := 10) (Ni := some 20) (Nj := some 8) #[true,true,true,true,true,true,true,true,false,false,false,true,false,false] #[true,true,true,true,true,true,true,false,false,false,true,true,false,false] rfl rfl rfl rfl (two_of HT_.out (by kernel_rfl)) (by decide) (by decide) (fun K hK => ?_) (fun K hK => ?_)
           ·
            skip
            refine goes_ Tryd.func17 (by kernel_rfl) rfl #[.int .i64 a1, .int .i64 8] (by rfl) rfl rfl (by (try simp only [List.map_toArray, List.map_cons, List.map_nil]); first | done | rfl | (simp only [List.length_drop, List.length_take]; rfl)) ?_
            with_reducible refine (spokeshavelaw0_Low.calls a1 8 t106 _ A8.out).mono ?_
            rintro e w' ⟨rfl, ⟨nd, rfl⟩⟩
            refine ⟨_, rfl, ?_⟩
            refine hK.out _ _ ⟨hHeld.1, hHeld.2.1, hHeld.2.2.1, hHeld.2.2.2⟩ (fun hHeld => ?_)
            clear hK K
            refine norm_ (a' := ?_) ?_ ?_
            rotate_left
            ·
             show Act.put _ (some 20) _ = _
             simp only [Act.put, List.setIfInBounds_toArray, List.set_cons_zero, List.set_cons_succ, i64_w, i32_w]
             rfl
            refine pure_ (i := 8) (N := some 21) (v := ?_) (a' := ?_) #[true,true,true,true,true,true,true,true,true,false,false,true,false,false] rfl rfl (any_of HT_.out (by kernel_rfl)) (fun _ _ _ h => h) (Or.inl ⟨by rfl, ?_⟩) ?_ ?_
            rotate_left
            ·
             intro w'
             go_simp
             with_reducible rfl
            rotate_left
            ·
             simp only [Act.put, List.setIfInBounds_toArray, List.set_cons_zero, List.set_cons_succ, i64_w, i32_w]
             rfl
            refine take_ (i := 9) (N := some 22) (v := ?_) (a' := ?_) #[true,true,true,true,true,true,true,true,true,true,false,true,false,false] rfl rfl (take_ofW HT_.out HW_.out (by kernel_rfl)) (fun _ _ _ h => h) (Or.inl ⟨by rfl, ?_⟩) hHeld ?_ ?_
            rotate_left
            ·
             rintro w' ⟨s0, s1, s2, s3⟩
             go_simp
             with_reducible rfl
            rotate_left
            ·
             simp only [Act.put, List.setIfInBounds_toArray, List.set_cons_zero, List.set_cons_succ, i64_w, i32_w]
             rfl
            exact norm_ (by first | (simp only [putAll, Act.put, List.setIfInBounds_toArray, List.set_cons_zero, List.set_cons_succ]; done) | (simp only [putAll, Act.put, List.setIfInBounds_toArray, List.set_cons_zero, List.set_cons_succ]; rfl)) (hJ2_7_11 (gb109) _ ⟨hHeld, (by (with_reducible repeat (first | apply Kd.R_alloc | apply Kd.R_drewN | apply Kd.R_drew)); exact HO103.out), (by (with_reducible repeat (first | refine blk_drewN ?_ _ | refine blk_drew ?_ | refine blk_alloc ?_ _)); exact BK109.out), GW109.out, GE109.out, (by repeat (first | (with_reducible first | exact HB.out | apply below_alloc | apply pw_below_drewN | apply below_drew1 | refine below_set ?_ GE109.out) | exact HB.out))⟩)
           ·
            skip
            refine box_step ?hg (N := 8) ?hd (cs := #[.int .i64 0, .bool false]) (t := 26) ?hr ?_; (case hd => rfl); (case hg => rfl); (case hr => first | (go_simp; done) | (go_simp; rfl))
            intro gb108 hg w32 hbox hb
            have HS0_ := (hb.cell (World.block_lt_of_cell? _ _ (hHeld.1))).trans (hHeld.1)
            have HS1_ := (hb.cell (World.block_lt_of_cell? _ _ (hHeld.2.1))).trans (hHeld.2.1)
            have HS2_ := (hb.cell (World.block_lt_of_cell? _ _ (hHeld.2.2.1))).trans (hHeld.2.2.1)
            have HS3_ := (hb.cell (World.block_lt_of_cell? _ _ (hHeld.2.2.2))).trans (hHeld.2.2.2)
            have n0_ := Aside0.mk (Kd.R_below (Kd.R_elderB (by (with_reducible repeat (first | apply Kd.R_alloc | apply Kd.R_drewN | apply Kd.R_drew)); exact HO103.out) gb108 (Nat.le_of_eq hg.symm)) hb)
            have n1_ := Aside0.mk (blk_below (g := gb109) (o := .cells #[.int .i64 0, .bool false] 26 (0, 0)) (by (with_reducible repeat (first | refine blk_drewN ?_ _ | refine blk_drew ?_ | refine blk_alloc ?_ _)); exact BK109.out) hb)
            have n2_ := Aside0.mk (below_step (by repeat (first | (with_reducible first | exact HB.out | apply below_alloc | apply pw_below_drewN | apply below_drew1 | refine below_set ?_ GE109.out) | exact HB.out)) hb)
            have n3_ := Aside0.mk (hbox)
            have n4_ := Aside0.mk ((by rw [hg]; exact (below_size (by repeat (first | (with_reducible first | exact HB.out | apply below_alloc | apply pw_below_drewN | apply below_drew1 | refine below_set ?_ GE109.out) | exact HB.out))) : w.heap.size ≤ gb108))
            have n5_ := Aside0.mk ((by rw [hg]; exact (below_size (by repeat (first | (with_reducible first | exact HB.out | apply below_alloc | apply pw_below_drewN | apply below_drew1 | refine below_set ?_ GE109.out) | exact HB.out))) : w.heap.size ≤ gb108))
            have n6_ := Aside0.mk ((by rw [hg]; exact Nat.ne_of_lt (blk_lt (g := gb109) (o := .cells #[.int .i64 0, .bool false] 26 (0, 0)) (by (with_reducible repeat (first | refine blk_drewN ?_ _ | refine blk_drew ?_ | refine blk_alloc ?_ _)); exact BK109.out)) : gb109 ≠ gb108))
            have n7_ := Aside0.mk ((by rw [hg]; exact Nat.ne_of_gt (blk_lt (g := gb109) (o := .cells #[.int .i64 0, .bool false] 26 (0, 0)) (by (with_reducible repeat (first | refine blk_drewN ?_ _ | refine blk_drew ?_ | refine blk_alloc ?_ _)); exact BK109.out)) : gb108 ≠ gb109))
            clear HO103
            clear BK109
            clear HB
            have HO103 := n0_
            have BK109 := n1_
            have HB := n2_
            have BK108 := n3_
            have GW108 := n4_
            have GE108 := n5_
            have NB109_108 := n6_
            have NB108_109 := n7_
            clear n0_ n1_ n2_ n3_ n4_ n5_ n6_ n7_
            clear hb hbox hg
            refine hK.out _ _ ⟨HS0_, HS1_, HS2_, HS3_⟩ (fun hHeld => ?_)
            clear hK K
            refine norm_ (a' := ?_) ?_ ?_
            rotate_left
            ·
             show Act.put _ (some 8) _ = _
             simp only [Act.put, List.setIfInBounds_toArray, List.set_cons_zero, List.set_cons_succ, i64_w, i32_w]
             rfl
            exact norm_ (by first | (simp only [putAll, Act.put, List.setIfInBounds_toArray, List.set_cons_zero, List.set_cons_succ]; done) | (simp only [putAll, Act.put, List.setIfInBounds_toArray, List.set_cons_zero, List.set_cons_succ]; rfl)) (hJ2_10_11 (gb108, gb109) _ ⟨hHeld, (by (with_reducible repeat (first | apply Kd.R_alloc | apply Kd.R_drewN | apply Kd.R_drew)); exact Kd.R_mono HO103.out (fun _ hk => ⟨hk.2, hk.1⟩)), (by (with_reducible repeat (first | refine blk_drewN ?_ _ | refine blk_drew ?_ | refine blk_alloc ?_ _)); exact BK108.out), (by (with_reducible repeat (first | refine blk_drewN ?_ _ | refine blk_drew ?_ | refine blk_alloc ?_ _)); exact BK109.out), GW108.out, GE108.out, NB109_108.out, NB108_109.out, GW109.out, GE109.out, (by repeat (first | (with_reducible first | exact HB.out | apply below_alloc | apply pw_below_drewN | apply below_drew1 | refine below_set ?_ GE109.out | refine below_set ?_ GE108.out) | exact HB.out))⟩)
         ·
          skip
          rintro gb108 w31 ⟨hS_, h0_, h1_, h2_, h3_, h4_⟩
          have n0_ : Aside0 (Kd.R k26 26 w31 w.heap.size (fun k_ => k_ ≠ gb108) (.slice (some ad105) t101.length co28) t101) := ⟨h0_⟩
          have n1_ : Aside0 (w31.heap[gb108]? = some (.cells #[.int .i64 0, .bool false] 26 (0, 0))) := ⟨h1_⟩
          have n2_ : Aside0 (w.heap.size ≤ gb108) := ⟨h2_⟩
          have n3_ : Aside0 (w.heap.size ≤ gb108) := ⟨h3_⟩
          have n4_ : Aside0 (Below w.heap.size w w31) := ⟨h4_⟩
          clear HO103
          clear HB
          clear h0_ h1_ h2_ h3_ h4_
          have HO103 := n0_
          have BK108 := n1_
          have GW108 := n2_
          have GE108 := n3_
          have HB := n4_
          clear n0_ n1_ n2_ n3_ n4_
          have hHeld : w31.cell? (ad105.add ((t104).toNat * 2)) = some (.int .i64 ((rd_T26 t101 t104).f0)) ∧ w31.cell? ⟨(ad105.add ((t104).toNat * 2)).block, (ad105.add ((t104).toNat * 2)).off + 1, none⟩ = some (.bool ((rd_T26 t101 t104).f1)) ∧ w31.cell? (ad105.add ((t106).toNat * 2)) = some (.int .i64 ((rd_T26 t101 t106).f0)) ∧ w31.cell? ⟨(ad105.add ((t106).toNat * 2)).block, (ad105.add ((t106).toNat * 2)).off + 1, none⟩ = some (.bool ((rd_T26 t101 t106).f1)) := hS_
          refine norm_ (a' := ?_) ?_ ?_
          rotate_left
          ·
           simp only [putAll, Act.put, List.setIfInBounds_toArray, List.set_cons_zero, List.set_cons_succ]
           rfl
          refine two_ (i := 7) (j := 11) (Ni := some 20) (Nj := some 9) #[true,true,true,true,true,true,true,true,false,false,true,false,false,false] #[true,true,true,true,true,true,true,false,false,false,true,true,false,false] rfl rfl rfl rfl (two_of HT_.out (by kernel_rfl)) (by decide) (by decide) (fun K hK => ?_) (fun K hK => ?_)
          ·
           skip
           refine goes_ Tryd.func17 (by kernel_rfl) rfl #[.int .i64 a1, .int .i64 8] (by rfl) rfl rfl (by (try simp only [List.map_toArray, List.map_cons, List.map_nil]); first | done | rfl | (simp only [List.length_drop, List.length_take]; rfl)) ?_
           with_reducible refine (spokeshavelaw0_Low.calls a1 8 t106 _ A8.out).mono ?_
           rintro e w' ⟨rfl, ⟨nd, rfl⟩⟩
           refine ⟨_, rfl, ?_⟩
           refine hK.out _ _ ⟨hHeld.1, hHeld.2.1, hHeld.2.2.1, hHeld.2.2.2⟩ (fun hHeld => ?_)
           clear hK K
           refine norm_ (a' := ?_) ?_ ?_
           rotate_left
           ·
            show Act.put _ (some 20) _ = _
            simp only [Act.put, List.setIfInBounds_toArray, List.set_cons_zero, List.set_cons_succ, i64_w, i32_w]
            rfl
           refine pure_ (i := 8) (N := some 21) (v := ?_) (a' := ?_) #[true,true,true,true,true,true,true,true,true,false,true,false,false,false] rfl rfl (any_of HT_.out (by kernel_rfl)) (fun _ _ _ h => h) (Or.inl ⟨by rfl, ?_⟩) ?_ ?_
           rotate_left
           ·
            intro w'
            go_simp
            with_reducible rfl
           rotate_left
           ·
            simp only [Act.put, List.setIfInBounds_toArray, List.set_cons_zero, List.set_cons_succ, i64_w, i32_w]
            rfl
           refine take_ (i := 9) (N := some 22) (v := ?_) (a' := ?_) #[true,true,true,true,true,true,true,true,true,true,true,false,false,false] rfl rfl (take_ofW HT_.out HW_.out (by kernel_rfl)) (fun _ _ _ h => h) (Or.inl ⟨by rfl, ?_⟩) hHeld ?_ ?_
           rotate_left
           ·
            rintro w' ⟨s0, s1, s2, s3⟩
            go_simp
            with_reducible rfl
           rotate_left
           ·
            simp only [Act.put, List.setIfInBounds_toArray, List.set_cons_zero, List.set_cons_succ, i64_w, i32_w]
            rfl
           exact norm_ (by first | (simp only [putAll, Act.put, List.setIfInBounds_toArray, List.set_cons_zero, List.set_cons_succ]; done) | (simp only [putAll, Act.put, List.setIfInBounds_toArray, List.set_cons_zero, List.set_cons_succ]; rfl)) (hJ2_7_10 (gb108) _ ⟨hHeld, (by (with_reducible repeat (first | apply Kd.R_alloc | apply Kd.R_drewN | apply Kd.R_drew)); exact HO103.out), (by (with_reducible repeat (first | refine blk_drewN ?_ _ | refine blk_drew ?_ | refine blk_alloc ?_ _)); exact BK108.out), GW108.out, GE108.out, (by repeat (first | (with_reducible first | exact HB.out | apply below_alloc | apply pw_below_drewN | apply below_drew1 | refine below_set ?_ GE108.out) | exact HB.out))⟩)
          ·
           skip
           refine box_step ?hg (N := 9) ?hd (cs := #[.int .i64 0, .bool false]) (t := 26) ?hr ?_; (case hd => rfl); (case hg => rfl); (case hr => first | (go_simp; done) | (go_simp; rfl))
           intro gb109 hg w32 hbox hb
           have HS0_ := (hb.cell (World.block_lt_of_cell? _ _ (hHeld.1))).trans (hHeld.1)
           have HS1_ := (hb.cell (World.block_lt_of_cell? _ _ (hHeld.2.1))).trans (hHeld.2.1)
           have HS2_ := (hb.cell (World.block_lt_of_cell? _ _ (hHeld.2.2.1))).trans (hHeld.2.2.1)
           have HS3_ := (hb.cell (World.block_lt_of_cell? _ _ (hHeld.2.2.2))).trans (hHeld.2.2.2)
           have n0_ := Aside0.mk (Kd.R_below (Kd.R_elderB (by (with_reducible repeat (first | apply Kd.R_alloc | apply Kd.R_drewN | apply Kd.R_drew)); exact HO103.out) gb109 (Nat.le_of_eq hg.symm)) hb)
           have n1_ := Aside0.mk (blk_below (g := gb108) (o := .cells #[.int .i64 0, .bool false] 26 (0, 0)) (by (with_reducible repeat (first | refine blk_drewN ?_ _ | refine blk_drew ?_ | refine blk_alloc ?_ _)); exact BK108.out) hb)
           have n2_ := Aside0.mk (below_step (by repeat (first | (with_reducible first | exact HB.out | apply below_alloc | apply pw_below_drewN | apply below_drew1 | refine below_set ?_ GE108.out) | exact HB.out)) hb)
           have n3_ := Aside0.mk (hbox)
           have n4_ := Aside0.mk ((by rw [hg]; exact (below_size (by repeat (first | (with_reducible first | exact HB.out | apply below_alloc | apply pw_below_drewN | apply below_drew1 | refine below_set ?_ GE108.out) | exact HB.out))) : w.heap.size ≤ gb109))
           have n5_ := Aside0.mk ((by rw [hg]; exact (below_size (by repeat (first | (with_reducible first | exact HB.out | apply below_alloc | apply pw_below_drewN | apply below_drew1 | refine below_set ?_ GE108.out) | exact HB.out))) : w.heap.size ≤ gb109))
           have n6_ := Aside0.mk ((by rw [hg]; exact Nat.ne_of_lt (blk_lt (g := gb108) (o := .cells #[.int .i64 0, .bool false] 26 (0, 0)) (by (with_reducible repeat (first | refine blk_drewN ?_ _ | refine blk_drew ?_ | refine blk_alloc ?_ _)); exact BK108.out)) : gb108 ≠ gb109))
           have n7_ := Aside0.mk ((by rw [hg]; exact Nat.ne_of_gt (blk_lt (g := gb108) (o := .cells #[.int .i64 0, .bool false] 26 (0, 0)) (by (with_reducible repeat (first | refine blk_drewN ?_ _ | refine blk_drew ?_ | refine blk_alloc ?_ _)); exact BK108.out)) : gb109 ≠ gb108))
           clear HO103
           clear BK108
           clear HB
           have HO103 := n0_
           have BK108 := n1_
           have HB := n2_
           have BK109 := n3_
           have GW109 := n4_
           have GE109 := n5_
           have NB108_109 := n6_
           have NB109_108 := n7_
           clear n0_ n1_ n2_ n3_ n4_ n5_ n6_ n7_
           clear hb hbox hg
           refine hK.out _ _ ⟨HS0_, HS1_, HS2_, HS3_⟩ (fun hHeld => ?_)
           clear hK K
           refine norm_ (a' := ?_) ?_ ?_
           rotate_left
           ·
            show Act.put _ (some 9) _ = _
            simp only [Act.put, List.setIfInBounds_toArray, List.set_cons_zero, List.set_cons_succ, i64_w, i32_w]
            rfl
           exact norm_ (by first | (simp only [putAll, Act.put, List.setIfInBounds_toArray, List.set_cons_zero, List.set_cons_succ]; done) | (simp only [putAll, Act.put, List.setIfInBounds_toArray, List.set_cons_zero, List.set_cons_succ]; rfl)) (hJ2_10_11 (gb108, gb109) _ ⟨hHeld, (by (with_reducible repeat (first | apply Kd.R_alloc | apply Kd.R_drewN | apply Kd.R_drew)); exact HO103.out), (by (with_reducible repeat (first | refine blk_drewN ?_ _ | refine blk_drew ?_ | refine blk_alloc ?_ _)); exact BK108.out), (by (with_reducible repeat (first | refine blk_drewN ?_ _ | refine blk_drew ?_ | refine blk_alloc ?_ _)); exact BK109.out), GW108.out, GE108.out, NB109_108.out, NB108_109.out, GW109.out, GE109.out, (by repeat (first | (with_reducible first | exact HB.out | apply below_alloc | apply pw_below_drewN | apply below_drew1 | refine below_set ?_ GE108.out | refine below_set ?_ GE109.out) | exact HB.out))⟩)
        ·
         skip
         rintro _ w30 ⟨hS_, h0_, h1_⟩
         have n0_ : Aside0 (Kd.R k26 26 w30 w.heap.size (fun _ => True) (.slice (some ad105) t101.length co28) t101) := ⟨h0_⟩
         have n1_ : Aside0 (Below w.heap.size w w30) := ⟨h1_⟩
         clear HO103
         clear HB
         clear h0_ h1_
         have HO103 := n0_
         have HB := n1_
         clear n0_ n1_
         have hHeld : w30.cell? (ad105.add ((t104).toNat * 2)) = some (.int .i64 ((rd_T26 t101 t104).f0)) ∧ w30.cell? ⟨(ad105.add ((t104).toNat * 2)).block, (ad105.add ((t104).toNat * 2)).off + 1, none⟩ = some (.bool ((rd_T26 t101 t104).f1)) ∧ w30.cell? (ad105.add ((t106).toNat * 2)) = some (.int .i64 ((rd_T26 t101 t106).f0)) ∧ w30.cell? ⟨(ad105.add ((t106).toNat * 2)).block, (ad105.add ((t106).toNat * 2)).off + 1, none⟩ = some (.bool ((rd_T26 t101 t106).f1)) := hS_
         refine norm_ (a' := ?_) ?_ ?_
         rotate_left
         ·
          simp only [putAll, Act.put, List.setIfInBounds_toArray, List.set_cons_zero, List.set_cons_succ]
          rfl
         refine two_ (i := 10) (j := 11) (Ni := some 8) (Nj := some 9) #[true,true,true,true,true,true,true,true,true,true,true,false,false,false] #[true,true,true,true,true,true,true,true,true,true,false,true,false,false] rfl rfl rfl rfl (two_of HT_.out (by kernel_rfl)) (by decide) (by decide) (fun K hK => ?_) (fun K hK => ?_)
         ·
          skip
          refine box_step ?hg (N := 8) ?hd (cs := #[.int .i64 0, .bool false]) (t := 26) ?hr ?_; (case hd => rfl); (case hg => rfl); (case hr => first | (go_simp; done) | (go_simp; rfl))
          intro gb108 hg w31 hbox hb
          have HS0_ := (hb.cell (World.block_lt_of_cell? _ _ (hHeld.1))).trans (hHeld.1)
          have HS1_ := (hb.cell (World.block_lt_of_cell? _ _ (hHeld.2.1))).trans (hHeld.2.1)
          have HS2_ := (hb.cell (World.block_lt_of_cell? _ _ (hHeld.2.2.1))).trans (hHeld.2.2.1)
          have HS3_ := (hb.cell (World.block_lt_of_cell? _ _ (hHeld.2.2.2))).trans (hHeld.2.2.2)
          have n0_ := Aside0.mk (Kd.R_below (Kd.R_elderB (by (with_reducible repeat (first | apply Kd.R_alloc | apply Kd.R_drewN | apply Kd.R_drew)); exact HO103.out) gb108 (Nat.le_of_eq hg.symm)) hb)
          have n1_ := Aside0.mk (below_step (by repeat (first | (with_reducible first | exact HB.out | apply below_alloc | apply pw_below_drewN | apply below_drew1) | exact HB.out)) hb)
          have n2_ := Aside0.mk (hbox)
          have n3_ := Aside0.mk ((by rw [hg]; exact (below_size (by repeat (first | (with_reducible first | exact HB.out | apply below_alloc | apply pw_below_drewN | apply below_drew1) | exact HB.out))) : w.heap.size ≤ gb108))
          have n4_ := Aside0.mk ((by rw [hg]; exact (below_size (by repeat (first | (with_reducible first | exact HB.out | apply below_alloc | apply pw_below_drewN | apply below_drew1) | exact HB.out))) : w.heap.size ≤ gb108))
          clear HO103
          clear HB
          have HO103 := n0_
          have HB := n1_
          have BK108 := n2_
          have GW108 := n3_
          have GE108 := n4_
          clear n0_ n1_ n2_ n3_ n4_
          clear hb hbox hg
          refine hK.out _ _ ⟨HS0_, HS1_, HS2_, HS3_⟩ (fun hHeld => ?_)
          clear hK K
          refine norm_ (a' := ?_) ?_ ?_
          rotate_left
          ·
           show Act.put _ (some 8) _ = _
           simp only [Act.put, List.setIfInBounds_toArray, List.set_cons_zero, List.set_cons_succ, i64_w, i32_w]
           rfl
          exact norm_ (by first | (simp only [putAll, Act.put, List.setIfInBounds_toArray, List.set_cons_zero, List.set_cons_succ]; done) | (simp only [putAll, Act.put, List.setIfInBounds_toArray, List.set_cons_zero, List.set_cons_succ]; rfl)) (hJ2_7_10 (gb108) _ ⟨hHeld, (by (with_reducible repeat (first | apply Kd.R_alloc | apply Kd.R_drewN | apply Kd.R_drew)); exact Kd.R_mono HO103.out (fun _ hk => hk.2)), (by (with_reducible repeat (first | refine blk_drewN ?_ _ | refine blk_drew ?_ | refine blk_alloc ?_ _)); exact BK108.out), GW108.out, GE108.out, (by repeat (first | (with_reducible first | exact HB.out | apply below_alloc | apply pw_below_drewN | apply below_drew1 | refine below_set ?_ GE108.out) | exact HB.out))⟩)
         ·
          skip
          refine box_step ?hg (N := 9) ?hd (cs := #[.int .i64 0, .bool false]) (t := 26) ?hr ?_; (case hd => rfl); (case hg => rfl); (case hr => first | (go_simp; done) | (go_simp; rfl))
          intro gb109 hg w31 hbox hb
          have HS0_ := (hb.cell (World.block_lt_of_cell? _ _ (hHeld.1))).trans (hHeld.1)
          have HS1_ := (hb.cell (World.block_lt_of_cell? _ _ (hHeld.2.1))).trans (hHeld.2.1)
          have HS2_ := (hb.cell (World.block_lt_of_cell? _ _ (hHeld.2.2.1))).trans (hHeld.2.2.1)
          have HS3_ := (hb.cell (World.block_lt_of_cell? _ _ (hHeld.2.2.2))).trans (hHeld.2.2.2)
          have n0_ := Aside0.mk (Kd.R_below (Kd.R_elderB (by (with_reducible repeat (first | apply Kd.R_alloc | apply Kd.R_drewN | apply Kd.R_drew)); exact HO103.out) gb109 (Nat.le_of_eq hg.symm)) hb)
          have n1_ := Aside0.mk (below_step (by repeat (first | (with_reducible first | exact HB.out | apply below_alloc | apply pw_below_drewN | apply below_drew1) | exact HB.out)) hb)
          have n2_ := Aside0.mk (hbox)
          have n3_ := Aside0.mk ((by rw [hg]; exact (below_size (by repeat (first | (with_reducible first | exact HB.out | apply below_alloc | apply pw_below_drewN | apply below_drew1) | exact HB.out))) : w.heap.size ≤ gb109))
          have n4_ := Aside0.mk ((by rw [hg]; exact (below_size (by repeat (first | (with_reducible first | exact HB.out | apply below_alloc | apply pw_below_drewN | apply below_drew1) | exact HB.out))) : w.heap.size ≤ gb109))
          clear HO103
          clear HB
          have HO103 := n0_
          have HB := n1_
          have BK109 := n2_
          have GW109 := n3_
          have GE109 := n4_
          clear n0_ n1_ n2_ n3_ n4_
          clear hb hbox hg
          refine hK.out _ _ ⟨HS0_, HS1_, HS2_, HS3_⟩ (fun hHeld => ?_)
          clear hK K
          refine norm_ (a' := ?_) ?_ ?_
          rotate_left
          ·
           show Act.put _ (some 9) _ = _
           simp only [Act.put, List.setIfInBounds_toArray, List.set_cons_zero, List.set_cons_succ, i64_w, i32_w]
           rfl
          exact norm_ (by first | (simp only [putAll, Act.put, List.setIfInBounds_toArray, List.set_cons_zero, List.set_cons_succ]; done) | (simp only [putAll, Act.put, List.setIfInBounds_toArray, List.set_cons_zero, List.set_cons_succ]; rfl)) (hJ2_7_11 (gb109) _ ⟨hHeld, (by (with_reducible repeat (first | apply Kd.R_alloc | apply Kd.R_drewN | apply Kd.R_drew)); exact Kd.R_mono HO103.out (fun _ hk => hk.2)), (by (with_reducible repeat (first | refine blk_drewN ?_ _ | refine blk_drew ?_ | refine blk_alloc ?_ _)); exact BK109.out), GW109.out, GE109.out, (by repeat (first | (with_reducible first | exact HB.out | apply below_alloc | apply pw_below_drewN | apply below_drew1 | refine below_set ?_ GE109.out) | exact HB.out))⟩)
       ·
        skip
        rintro ⟨gb108, gb109⟩ w32 ⟨hS_, h0_, h1_, h2_, h3_, h4_, h5_, h6_, h7_, h8_, h9_⟩
        have n0_ : Aside0 (Kd.R k26 26 w32 w.heap.size (fun k_ => k_ ≠ gb108 ∧ k_ ≠ gb109) (.slice (some ad105) t101.length co28) t101) := ⟨h0_⟩
        have n1_ : Aside0 (w32.heap[gb108]? = some (.cells #[.int .i64 0, .bool false] 26 (0, 0))) := ⟨h1_⟩
        have n2_ : Aside0 (w32.heap[gb109]? = some (.cells #[.int .i64 0, .bool false] 26 (0, 0))) := ⟨h2_⟩
        have n3_ : Aside0 (w.heap.size ≤ gb108) := ⟨h3_⟩
        have n4_ : Aside0 (w.heap.size ≤ gb108) := ⟨h4_⟩
        have n5_ : Aside0 (gb109 ≠ gb108) := ⟨h5_⟩
        have n6_ : Aside0 (gb108 ≠ gb109) := ⟨h6_⟩
        have n7_ : Aside0 (w.heap.size ≤ gb109) := ⟨h7_⟩
        have n8_ : Aside0 (w.heap.size ≤ gb109) := ⟨h8_⟩
        have n9_ : Aside0 (Below w.heap.size w w32) := ⟨h9_⟩
        clear HO103
        clear HB
        clear h0_ h1_ h2_ h3_ h4_ h5_ h6_ h7_ h8_ h9_
        have HO103 := n0_
        have BK108 := n1_
        have BK109 := n2_
        have GW108 := n3_
        have GE108 := n4_
        have NB109_108 := n5_
        have NB108_109 := n6_
        have GW109 := n7_
        have GE109 := n8_
        have HB := n9_
        clear n0_ n1_ n2_ n3_ n4_ n5_ n6_ n7_ n8_ n9_
        have hHeld : w32.cell? (ad105.add ((t104).toNat * 2)) = some (.int .i64 ((rd_T26 t101 t104).f0)) ∧ w32.cell? ⟨(ad105.add ((t104).toNat * 2)).block, (ad105.add ((t104).toNat * 2)).off + 1, none⟩ = some (.bool ((rd_T26 t101 t104).f1)) ∧ w32.cell? (ad105.add ((t106).toNat * 2)) = some (.int .i64 ((rd_T26 t101 t106).f0)) ∧ w32.cell? ⟨(ad105.add ((t106).toNat * 2)).block, (ad105.add ((t106).toNat * 2)).off + 1, none⟩ = some (.bool ((rd_T26 t101 t106).f1)) := hS_
        refine norm_ (a' := ?_) ?_ ?_
        rotate_left
        ·
         simp only [putAll, Act.put, List.setIfInBounds_toArray, List.set_cons_zero, List.set_cons_succ]
         rfl
        refine one_ (i := 7) (N := some 20) #[true,true,true,true,true,true,true,true,false,false,true,true,false,false] rfl rfl (one_of HT_.out (by kernel_rfl)) (by decide) (fun K hK => ?_)
        refine goes_ Tryd.func17 (by kernel_rfl) rfl #[.int .i64 a1, .int .i64 8] (by rfl) rfl rfl (by (try simp only [List.map_toArray, List.map_cons, List.map_nil]); first | done | rfl | (simp only [List.length_drop, List.length_take]; rfl)) ?_
        with_reducible refine (spokeshavelaw0_Low.calls a1 8 t106 _ A8.out).mono ?_
        rintro e w' ⟨rfl, ⟨nd, rfl⟩⟩
        refine ⟨_, rfl, ?_⟩
        refine hK.out _ _ ⟨hHeld.1, hHeld.2.1, hHeld.2.2.1, hHeld.2.2.2⟩ (fun hHeld => ?_)
        clear hK K
        refine norm_ (a' := ?_) ?_ ?_
        rotate_left
        ·
         show Act.put _ (some 20) _ = _
         simp only [Act.put, List.setIfInBounds_toArray, List.set_cons_zero, List.set_cons_succ, i64_w, i32_w]
         rfl
        refine pure_ (i := 8) (N := some 21) (v := ?_) (a' := ?_) #[true,true,true,true,true,true,true,true,true,false,true,true,false,false] rfl rfl (any_of HT_.out (by kernel_rfl)) (fun _ _ _ h => h) (Or.inl ⟨by rfl, ?_⟩) ?_ ?_
        rotate_left
        ·
         intro w'
         go_simp
         with_reducible rfl
        rotate_left
        ·
         simp only [Act.put, List.setIfInBounds_toArray, List.set_cons_zero, List.set_cons_succ, i64_w, i32_w]
         rfl
        refine take_ (i := 9) (N := some 22) (v := ?_) (a' := ?_) #[true,true,true,true,true,true,true,true,true,true,true,true,false,false] rfl rfl (take_ofW HT_.out HW_.out (by kernel_rfl)) (fun _ _ _ h => h) (Or.inl ⟨by rfl, ?_⟩) hHeld ?_ ?_
        rotate_left
        ·
         rintro w' ⟨s0, s1, s2, s3⟩
         go_simp
         with_reducible rfl
        rotate_left
        ·
         simp only [Act.put, List.setIfInBounds_toArray, List.set_cons_zero, List.set_cons_succ, i64_w, i32_w]
         rfl
        exact norm_ (by first | (simp only [putAll, Act.put, List.setIfInBounds_toArray, List.set_cons_zero, List.set_cons_succ]; done) | (simp only [putAll, Act.put, List.setIfInBounds_toArray, List.set_cons_zero, List.set_cons_succ]; rfl)) (hJ2_7_10_11 (gb108, gb109) _ ⟨hHeld, (by (with_reducible repeat (first | apply Kd.R_alloc | apply Kd.R_drewN | apply Kd.R_drew)); exact HO103.out), (by (with_reducible repeat (first | refine blk_drewN ?_ _ | refine blk_drew ?_ | refine blk_alloc ?_ _)); exact BK108.out), (by (with_reducible repeat (first | refine blk_drewN ?_ _ | refine blk_drew ?_ | refine blk_alloc ?_ _)); exact BK109.out), GW108.out, GE108.out, NB109_108.out, NB108_109.out, GW109.out, GE109.out, (by repeat (first | (with_reducible first | exact HB.out | apply below_alloc | apply pw_below_drewN | apply below_drew1 | refine below_set ?_ GE108.out | refine below_set ?_ GE109.out) | exact HB.out))⟩)
      ·
       skip
       rintro gb109 w31 ⟨hS_, h0_, h1_, h2_, h3_, h4_⟩
       have n0_ : Aside0 (Kd.R k26 26 w31 w.heap.size (fun k_ => k_ ≠ gb109) (.slice (some ad105) t101.length co28) t101) := ⟨h0_⟩
       have n1_ : Aside0 (w31.heap[gb109]? = some (.cells #[.int .i64 0, .bool false] 26 (0, 0))) := ⟨h1_⟩
       have n2_ : Aside0 (w.heap.size ≤ gb109) := ⟨h2_⟩
       have n3_ : Aside0 (w.heap.size ≤ gb109) := ⟨h3_⟩
       have n4_ : Aside0 (Below w.heap.size w w31) := ⟨h4_⟩
       clear HO103
       clear HB
       clear h0_ h1_ h2_ h3_ h4_
       have HO103 := n0_
       have BK109 := n1_
       have GW109 := n2_
       have GE109 := n3_
       have HB := n4_
       clear n0_ n1_ n2_ n3_ n4_
       have hHeld : w31.cell? (ad105.add ((t104).toNat * 2)) = some (.int .i64 ((rd_T26 t101 t104).f0)) ∧ w31.cell? ⟨(ad105.add ((t104).toNat * 2)).block, (ad105.add ((t104).toNat * 2)).off + 1, none⟩ = some (.bool ((rd_T26 t101 t104).f1)) ∧ w31.cell? (ad105.add ((t106).toNat * 2)) = some (.int .i64 ((rd_T26 t101 t106).f0)) ∧ w31.cell? ⟨(ad105.add ((t106).toNat * 2)).block, (ad105.add ((t106).toNat * 2)).off + 1, none⟩ = some (.bool ((rd_T26 t101 t106).f1)) := hS_
       refine norm_ (a' := ?_) ?_ ?_
       rotate_left
       ·
        simp only [putAll, Act.put, List.setIfInBounds_toArray, List.set_cons_zero, List.set_cons_succ]
        rfl
       refine one_ (i := 10) (N := some 8) #[true,true,true,true,true,true,true,true,true,true,true,true,false,false] rfl rfl (one_of HT_.out (by kernel_rfl)) (by decide) (fun K hK => ?_)
       refine box_step ?hg (N := 8) ?hd (cs := #[.int .i64 0, .bool false]) (t := 26) ?hr ?_; (case hd => rfl); (case hg => rfl); (case hr => first | (go_simp; done) | (go_simp; rfl))
       intro gb108 hg w32 hbox hb
       have HS0_ := (hb.cell (World.block_lt_of_cell? _ _ (hHeld.1))).trans (hHeld.1)
       have HS1_ := (hb.cell (World.block_lt_of_cell? _ _ (hHeld.2.1))).trans (hHeld.2.1)
       have HS2_ := (hb.cell (World.block_lt_of_cell? _ _ (hHeld.2.2.1))).trans (hHeld.2.2.1)
       have HS3_ := (hb.cell (World.block_lt_of_cell? _ _ (hHeld.2.2.2))).trans (hHeld.2.2.2)
       have n0_ := Aside0.mk (Kd.R_below (Kd.R_elderB (by (with_reducible repeat (first | apply Kd.R_alloc | apply Kd.R_drewN | apply Kd.R_drew)); exact HO103.out) gb108 (Nat.le_of_eq hg.symm)) hb)
       have n1_ := Aside0.mk (blk_below (g := gb109) (o := .cells #[.int .i64 0, .bool false] 26 (0, 0)) (by (with_reducible repeat (first | refine blk_drewN ?_ _ | refine blk_drew ?_ | refine blk_alloc ?_ _)); exact BK109.out) hb)
       have n2_ := Aside0.mk (below_step (by repeat (first | (with_reducible first | exact HB.out | apply below_alloc | apply pw_below_drewN | apply below_drew1 | refine below_set ?_ GE109.out) | exact HB.out)) hb)
       have n3_ := Aside0.mk (hbox)
       have n4_ := Aside0.mk ((by rw [hg]; exact (below_size (by repeat (first | (with_reducible first | exact HB.out | apply below_alloc | apply pw_below_drewN | apply below_drew1 | refine below_set ?_ GE109.out) | exact HB.out))) : w.heap.size ≤ gb108))
       have n5_ := Aside0.mk ((by rw [hg]; exact (below_size (by repeat (first | (with_reducible first | exact HB.out | apply below_alloc | apply pw_below_drewN | apply below_drew1 | refine below_set ?_ GE109.out) | exact HB.out))) : w.heap.size ≤ gb108))
       have n6_ := Aside0.mk ((by rw [hg]; exact Nat.ne_of_lt (blk_lt (g := gb109) (o := .cells #[.int .i64 0, .bool false] 26 (0, 0)) (by (with_reducible repeat (first | refine blk_drewN ?_ _ | refine blk_drew ?_ | refine blk_alloc ?_ _)); exact BK109.out)) : gb109 ≠ gb108))
       have n7_ := Aside0.mk ((by rw [hg]; exact Nat.ne_of_gt (blk_lt (g := gb109) (o := .cells #[.int .i64 0, .bool false] 26 (0, 0)) (by (with_reducible repeat (first | refine blk_drewN ?_ _ | refine blk_drew ?_ | refine blk_alloc ?_ _)); exact BK109.out)) : gb108 ≠ gb109))
       clear HO103
       clear BK109
       clear HB
       have HO103 := n0_
       have BK109 := n1_
       have HB := n2_
       have BK108 := n3_
       have GW108 := n4_
       have GE108 := n5_
       have NB109_108 := n6_
       have NB108_109 := n7_
       clear n0_ n1_ n2_ n3_ n4_ n5_ n6_ n7_
       clear hb hbox hg
       refine hK.out _ _ ⟨HS0_, HS1_, HS2_, HS3_⟩ (fun hHeld => ?_)
       clear hK K
       refine norm_ (a' := ?_) ?_ ?_
       rotate_left
       ·
        show Act.put _ (some 8) _ = _
        simp only [Act.put, List.setIfInBounds_toArray, List.set_cons_zero, List.set_cons_succ, i64_w, i32_w]
        rfl
       exact norm_ (by first | (simp only [putAll, Act.put, List.setIfInBounds_toArray, List.set_cons_zero, List.set_cons_succ]; done) | (simp only [putAll, Act.put, List.setIfInBounds_toArray, List.set_cons_zero, List.set_cons_succ]; rfl)) (hJ2_7_10_11 (gb108, gb109) _ ⟨hHeld, (by (with_reducible repeat (first | apply Kd.R_alloc | apply Kd.R_drewN | apply Kd.R_drew)); exact Kd.R_mono HO103.out (fun _ hk => ⟨hk.2, hk.1⟩)), (by (with_reducible repeat (first | refine blk_drewN ?_ _ | refine blk_drew ?_ | refine blk_alloc ?_ _)); exact BK108.out), (by (with_reducible repeat (first | refine blk_drewN ?_ _ | refine blk_drew ?_ | refine blk_alloc ?_ _)); exact BK109.out), GW108.out, GE108.out, NB109_108.out, NB108_109.out, GW109.out, GE109.out, (by repeat (first | (with_reducible first | exact HB.out | apply below_alloc | apply pw_below_drewN | apply below_drew1 | refine below_set ?_ GE109.out | refine below_set ?_ GE108.out) | exact HB.out))⟩)
     ·
      skip
      rintro gb108 w31 ⟨hS_, h0_, h1_, h2_, h3_, h4_⟩
      have n0_ : Aside0 (Kd.R k26 26 w31 w.heap.size (fun k_ => k_ ≠ gb108) (.slice (some ad105) t101.length co28) t101) := ⟨h0_⟩
      have n1_ : Aside0 (w31.heap[gb108]? = some (.cells #[.int .i64 0, .bool false] 26 (0, 0))) := ⟨h1_⟩
      have n2_ : Aside0 (w.heap.size ≤ gb108) := ⟨h2_⟩
      have n3_ : Aside0 (w.heap.size ≤ gb108) := ⟨h3_⟩
      have n4_ : Aside0 (Below w.heap.size w w31) := ⟨h4_⟩
      clear HO103
      clear HB
      clear h0_ h1_ h2_ h3_ h4_
      have HO103 := n0_
      have BK108 := n1_
      have GW108 := n2_
      have GE108 := n3_
      have HB := n4_
      clear n0_ n1_ n2_ n3_ n4_
      have hHeld : w31.cell? (ad105.add ((t104).toNat * 2)) = some (.int .i64 ((rd_T26 t101 t104).f0)) ∧ w31.cell? ⟨(ad105.add ((t104).toNat * 2)).block, (ad105.add ((t104).toNat * 2)).off + 1, none⟩ = some (.bool ((rd_T26 t101 t104).f1)) ∧ w31.cell? (ad105.add ((t106).toNat * 2)) = some (.int .i64 ((rd_T26 t101 t106).f0)) ∧ w31.cell? ⟨(ad105.add ((t106).toNat * 2)).block, (ad105.add ((t106).toNat * 2)).off + 1, none⟩ = some (.bool ((rd_T26 t101 t106).f1)) := hS_
      refine norm_ (a' := ?_) ?_ ?_
      rotate_left
      ·
       simp only [putAll, Act.put, List.setIfInBounds_toArray, List.set_cons_zero, List.set_cons_succ]
       rfl
      refine one_ (i := 11) (N := some 9) #[true,true,true,true,true,true,true,true,true,true,true,true,false,false] rfl rfl (one_of HT_.out (by kernel_rfl)) (by decide) (fun K hK => ?_)
      refine box_step ?hg (N := 9) ?hd (cs := #[.int .i64 0, .bool false]) (t := 26) ?hr ?_; (case hd => rfl); (case hg => rfl); (case hr => first | (go_simp; done) | (go_simp; rfl))
      intro gb109 hg w32 hbox hb
      have HS0_ := (hb.cell (World.block_lt_of_cell? _ _ (hHeld.1))).trans (hHeld.1)
      have HS1_ := (hb.cell (World.block_lt_of_cell? _ _ (hHeld.2.1))).trans (hHeld.2.1)
      have HS2_ := (hb.cell (World.block_lt_of_cell? _ _ (hHeld.2.2.1))).trans (hHeld.2.2.1)
      have HS3_ := (hb.cell (World.block_lt_of_cell? _ _ (hHeld.2.2.2))).trans (hHeld.2.2.2)
      have n0_ := Aside0.mk (Kd.R_below (Kd.R_elderB (by (with_reducible repeat (first | apply Kd.R_alloc | apply Kd.R_drewN | apply Kd.R_drew)); exact HO103.out) gb109 (Nat.le_of_eq hg.symm)) hb)
      have n1_ := Aside0.mk (blk_below (g := gb108) (o := .cells #[.int .i64 0, .bool false] 26 (0, 0)) (by (with_reducible repeat (first | refine blk_drewN ?_ _ | refine blk_drew ?_ | refine blk_alloc ?_ _)); exact BK108.out) hb)
      have n2_ := Aside0.mk (below_step (by repeat (first | (with_reducible first | exact HB.out | apply below_alloc | apply pw_below_drewN | apply below_drew1 | refine below_set ?_ GE108.out) | exact HB.out)) hb)
      have n3_ := Aside0.mk (hbox)
      have n4_ := Aside0.mk ((by rw [hg]; exact (below_size (by repeat (first | (with_reducible first | exact HB.out | apply below_alloc | apply pw_below_drewN | apply below_drew1 | refine below_set ?_ GE108.out) | exact HB.out))) : w.heap.size ≤ gb109))
      have n5_ := Aside0.mk ((by rw [hg]; exact (below_size (by repeat (first | (with_reducible first | exact HB.out | apply below_alloc | apply pw_below_drewN | apply below_drew1 | refine below_set ?_ GE108.out) | exact HB.out))) : w.heap.size ≤ gb109))
      have n6_ := Aside0.mk ((by rw [hg]; exact Nat.ne_of_lt (blk_lt (g := gb108) (o := .cells #[.int .i64 0, .bool false] 26 (0, 0)) (by (with_reducible repeat (first | refine blk_drewN ?_ _ | refine blk_drew ?_ | refine blk_alloc ?_ _)); exact BK108.out)) : gb108 ≠ gb109))
      have n7_ := Aside0.mk ((by rw [hg]; exact Nat.ne_of_gt (blk_lt (g := gb108) (o := .cells #[.int .i64 0, .bool false] 26 (0, 0)) (by (with_reducible repeat (first | refine blk_drewN ?_ _ | refine blk_drew ?_ | refine blk_alloc ?_ _)); exact BK108.out)) : gb109 ≠ gb108))
      clear HO103
      clear BK108
      clear HB
      have HO103 := n0_
      have BK108 := n1_
      have HB := n2_
      have BK109 := n3_
      have GW109 := n4_
      have GE109 := n5_
      have NB108_109 := n6_
      have NB109_108 := n7_
      clear n0_ n1_ n2_ n3_ n4_ n5_ n6_ n7_
      clear hb hbox hg
      refine hK.out _ _ ⟨HS0_, HS1_, HS2_, HS3_⟩ (fun hHeld => ?_)
      clear hK K
      refine norm_ (a' := ?_) ?_ ?_
      rotate_left
      ·
       show Act.put _ (some 9) _ = _
       simp only [Act.put, List.setIfInBounds_toArray, List.set_cons_zero, List.set_cons_succ, i64_w, i32_w]
       rfl
      exact norm_ (by first | (simp only [putAll, Act.put, List.setIfInBounds_toArray, List.set_cons_zero, List.set_cons_succ]; done) | (simp only [putAll, Act.put, List.setIfInBounds_toArray, List.set_cons_zero, List.set_cons_succ]; rfl)) (hJ2_7_10_11 (gb108, gb109) _ ⟨hHeld, (by (with_reducible repeat (first | apply Kd.R_alloc | apply Kd.R_drewN | apply Kd.R_drew)); exact HO103.out), (by (with_reducible repeat (first | refine blk_drewN ?_ _ | refine blk_drew ?_ | refine blk_alloc ?_ _)); exact BK108.out), (by (with_reducible repeat (first | refine blk_drewN ?_ _ | refine blk_drew ?_ | refine blk_alloc ?_ _)); exact BK109.out), GW108.out, GE108.out, NB109_108.out, NB108_109.out, GW109.out, GE109.out, (by repeat (first | (with_reducible first | exact HB.out | apply below_alloc | apply pw_below_drewN | apply below_drew1 | refine below_set ?_ GE108.out | refine below_set ?_ GE109.out) | exact HB.out))⟩)
    rintro ⟨gb108, gb109⟩ w32 ⟨hS_, h0_, h1_, h2_, h3_, h4_, h5_, h6_, h7_, h8_, h9_⟩
    have n0_ : Aside0 (Kd.R k26 26 w32 w.heap.size (fun k_ => k_ ≠ gb108 ∧ k_ ≠ gb109) (.slice (some ad105) t101.length co28) t101) := ⟨h0_⟩
    have n1_ : Aside0 (w32.heap[gb108]? = some (.cells #[.int .i64 0, .bool false] 26 (0, 0))) := ⟨h1_⟩
    have n2_ : Aside0 (w32.heap[gb109]? = some (.cells #[.int .i64 0, .bool false] 26 (0, 0))) := ⟨h2_⟩
    have n3_ : Aside0 (w.heap.size ≤ gb108) := ⟨h3_⟩
    have n4_ : Aside0 (w.heap.size ≤ gb108) := ⟨h4_⟩
    have n5_ : Aside0 (gb109 ≠ gb108) := ⟨h5_⟩
    have n6_ : Aside0 (gb108 ≠ gb109) := ⟨h6_⟩
    have n7_ : Aside0 (w.heap.size ≤ gb109) := ⟨h7_⟩
    have n8_ : Aside0 (w.heap.size ≤ gb109) := ⟨h8_⟩
    have n9_ : Aside0 (Below w.heap.size w w32) := ⟨h9_⟩
    clear HO103
    clear HB
    clear h0_ h1_ h2_ h3_ h4_ h5_ h6_ h7_ h8_ h9_
    have HO103 := n0_
    have BK108 := n1_
    have BK109 := n2_
    have GW108 := n3_
    have GE108 := n4_
    have NB109_108 := n5_
    have NB108_109 := n6_
    have GW109 := n7_
    have GE109 := n8_
    have HB := n9_
    clear n0_ n1_ n2_ n3_ n4_ n5_ n6_ n7_ n8_ n9_
    have hHeld : w32.cell? (ad105.add ((t104).toNat * 2)) = some (.int .i64 ((rd_T26 t101 t104).f0)) ∧ w32.cell? ⟨(ad105.add ((t104).toNat * 2)).block, (ad105.add ((t104).toNat * 2)).off + 1, none⟩ = some (.bool ((rd_T26 t101 t104).f1)) ∧ w32.cell? (ad105.add ((t106).toNat * 2)) = some (.int .i64 ((rd_T26 t101 t106).f0)) ∧ w32.cell? ⟨(ad105.add ((t106).toNat * 2)).block, (ad105.add ((t106).toNat * 2)).off + 1, none⟩ = some (.bool ((rd_T26 t101 t106).f1)) := hS_
    refine norm_ (a' := ?_) ?_ ?_
    rotate_left
    ·
     simp only [putAll, Act.put, List.setIfInBounds_toArray, List.set_cons_zero, List.set_cons_succ]
     rfl
    refine one_ (i := 12) (N := none) #[true,true,true,true,true,true,true,true,true,true,true,true,true,false] rfl rfl (one_of HT_.out (by kernel_rfl)) (by decide) (fun K hK => ?_)
    have hs33 : w32.cell? ⟨gb108, 0, none⟩ = some (.int .i64 0) := (blk_cell BK108.out 0).trans rfl
    have hfs33 := blk_frozen BK108.out 0
    have hns33_1 := NB109_108.out
    have hms33_1 := NB108_109.out
    have hs34 : w32.cell? ⟨gb108, 1, none⟩ = some (.bool false) := (blk_cell BK108.out 1).trans rfl
    have hfs34 := blk_frozen BK108.out 1
    have hns34_1 := NB109_108.out
    have hms34_1 := NB108_109.out
    refine skip_ (w1 := ?_) (by rfl) rfl ?_ ?_
    rotate_left
    ·
     go_simp
     rfl
    refine hK.out _ _ ⟨((cell_far (p := ⟨gb108, _, none⟩) (by first | exact Kd.own_blk (Kd.R_away HO103.out (fun _ hk => hk.1)) | (rw [add_block]; exact Kd.own_blk (Kd.R_away HO103.out (fun _ hk => hk.1))) | (show (Addr.add _ _).block ≠ _; rw [add_block]; exact Kd.own_blk (Kd.R_away HO103.out (fun _ hk => hk.1))) | (dsimp only; exact Kd.own_blk (Kd.R_away HO103.out (fun _ hk => hk.1)))) _).trans (((cell_far (p := ⟨gb108, _, none⟩) (by first | exact Kd.own_blk (Kd.R_away HO103.out (fun _ hk => hk.1)) | (rw [add_block]; exact Kd.own_blk (Kd.R_away HO103.out (fun _ hk => hk.1))) | (show (Addr.add _ _).block ≠ _; rw [add_block]; exact Kd.own_blk (Kd.R_away HO103.out (fun _ hk => hk.1))) | (dsimp only; exact Kd.own_blk (Kd.R_away HO103.out (fun _ hk => hk.1)))) _).trans (hHeld.1)))), ((cell_far (p := ⟨gb108, _, none⟩) (by first | exact Kd.own_blk (Kd.R_away HO103.out (fun _ hk => hk.1)) | (rw [add_block]; exact Kd.own_blk (Kd.R_away HO103.out (fun _ hk => hk.1))) | (show (Addr.add _ _).block ≠ _; rw [add_block]; exact Kd.own_blk (Kd.R_away HO103.out (fun _ hk => hk.1))) | (dsimp only; exact Kd.own_blk (Kd.R_away HO103.out (fun _ hk => hk.1)))) _).trans (((cell_far (p := ⟨gb108, _, none⟩) (by first | exact Kd.own_blk (Kd.R_away HO103.out (fun _ hk => hk.1)) | (rw [add_block]; exact Kd.own_blk (Kd.R_away HO103.out (fun _ hk => hk.1))) | (show (Addr.add _ _).block ≠ _; rw [add_block]; exact Kd.own_blk (Kd.R_away HO103.out (fun _ hk => hk.1))) | (dsimp only; exact Kd.own_blk (Kd.R_away HO103.out (fun _ hk => hk.1)))) _).trans (hHeld.2.1)))), ((cell_far (p := ⟨gb108, _, none⟩) (by first | exact Kd.own_blk (Kd.R_away HO103.out (fun _ hk => hk.1)) | (rw [add_block]; exact Kd.own_blk (Kd.R_away HO103.out (fun _ hk => hk.1))) | (show (Addr.add _ _).block ≠ _; rw [add_block]; exact Kd.own_blk (Kd.R_away HO103.out (fun _ hk => hk.1))) | (dsimp only; exact Kd.own_blk (Kd.R_away HO103.out (fun _ hk => hk.1)))) _).trans (((cell_far (p := ⟨gb108, _, none⟩) (by first | exact Kd.own_blk (Kd.R_away HO103.out (fun _ hk => hk.1)) | (rw [add_block]; exact Kd.own_blk (Kd.R_away HO103.out (fun _ hk => hk.1))) | (show (Addr.add _ _).block ≠ _; rw [add_block]; exact Kd.own_blk (Kd.R_away HO103.out (fun _ hk => hk.1))) | (dsimp only; exact Kd.own_blk (Kd.R_away HO103.out (fun _ hk => hk.1)))) _).trans (hHeld.2.2.1)))), ((cell_far (p := ⟨gb108, _, none⟩) (by first | exact Kd.own_blk (Kd.R_away HO103.out (fun _ hk => hk.1)) | (rw [add_block]; exact Kd.own_blk (Kd.R_away HO103.out (fun _ hk => hk.1))) | (show (Addr.add _ _).block ≠ _; rw [add_block]; exact Kd.own_blk (Kd.R_away HO103.out (fun _ hk => hk.1))) | (dsimp only; exact Kd.own_blk (Kd.R_away HO103.out (fun _ hk => hk.1)))) _).trans (((cell_far (p := ⟨gb108, _, none⟩) (by first | exact Kd.own_blk (Kd.R_away HO103.out (fun _ hk => hk.1)) | (rw [add_block]; exact Kd.own_blk (Kd.R_away HO103.out (fun _ hk => hk.1))) | (show (Addr.add _ _).block ≠ _; rw [add_block]; exact Kd.own_blk (Kd.R_away HO103.out (fun _ hk => hk.1))) | (dsimp only; exact Kd.own_blk (Kd.R_away HO103.out (fun _ hk => hk.1)))) _).trans (hHeld.2.2.2))))⟩ (fun hHeld => ?_)
    clear hK K
    refine one_ (i := 13) (N := none) #[true,true,true,true,true,true,true,true,true,true,true,true,true,true] rfl rfl (one_of HT_.out (by kernel_rfl)) (by decide) (fun K hK => ?_)
    have hs35 : w32.cell? ⟨gb109, 0, none⟩ = some (.int .i64 0) := (blk_cell BK109.out 0).trans rfl
    have hfs35 := blk_frozen BK109.out 0
    have hns35_0 := NB108_109.out
    have hms35_0 := NB109_108.out
    have hs36 : w32.cell? ⟨gb109, 1, none⟩ = some (.bool false) := (blk_cell BK109.out 1).trans rfl
    have hfs36 := blk_frozen BK109.out 1
    have hns36_0 := NB108_109.out
    have hms36_0 := NB109_108.out
    refine skip_ (w1 := ?_) (by rfl) rfl ?_ ?_
    rotate_left
    ·
     go_simp
     rfl
    refine hK.out _ _ ⟨((cell_far (p := ⟨gb109, _, none⟩) (by first | exact Kd.own_blk (Kd.R_away HO103.out (fun _ hk => hk.2)) | (rw [add_block]; exact Kd.own_blk (Kd.R_away HO103.out (fun _ hk => hk.2))) | (show (Addr.add _ _).block ≠ _; rw [add_block]; exact Kd.own_blk (Kd.R_away HO103.out (fun _ hk => hk.2))) | (dsimp only; exact Kd.own_blk (Kd.R_away HO103.out (fun _ hk => hk.2)))) _).trans (((cell_far (p := ⟨gb109, _, none⟩) (by first | exact Kd.own_blk (Kd.R_away HO103.out (fun _ hk => hk.2)) | (rw [add_block]; exact Kd.own_blk (Kd.R_away HO103.out (fun _ hk => hk.2))) | (show (Addr.add _ _).block ≠ _; rw [add_block]; exact Kd.own_blk (Kd.R_away HO103.out (fun _ hk => hk.2))) | (dsimp only; exact Kd.own_blk (Kd.R_away HO103.out (fun _ hk => hk.2)))) _).trans (hHeld.1)))), ((cell_far (p := ⟨gb109, _, none⟩) (by first | exact Kd.own_blk (Kd.R_away HO103.out (fun _ hk => hk.2)) | (rw [add_block]; exact Kd.own_blk (Kd.R_away HO103.out (fun _ hk => hk.2))) | (show (Addr.add _ _).block ≠ _; rw [add_block]; exact Kd.own_blk (Kd.R_away HO103.out (fun _ hk => hk.2))) | (dsimp only; exact Kd.own_blk (Kd.R_away HO103.out (fun _ hk => hk.2)))) _).trans (((cell_far (p := ⟨gb109, _, none⟩) (by first | exact Kd.own_blk (Kd.R_away HO103.out (fun _ hk => hk.2)) | (rw [add_block]; exact Kd.own_blk (Kd.R_away HO103.out (fun _ hk => hk.2))) | (show (Addr.add _ _).block ≠ _; rw [add_block]; exact Kd.own_blk (Kd.R_away HO103.out (fun _ hk => hk.2))) | (dsimp only; exact Kd.own_blk (Kd.R_away HO103.out (fun _ hk => hk.2)))) _).trans (hHeld.2.1)))), ((cell_far (p := ⟨gb109, _, none⟩) (by first | exact Kd.own_blk (Kd.R_away HO103.out (fun _ hk => hk.2)) | (rw [add_block]; exact Kd.own_blk (Kd.R_away HO103.out (fun _ hk => hk.2))) | (show (Addr.add _ _).block ≠ _; rw [add_block]; exact Kd.own_blk (Kd.R_away HO103.out (fun _ hk => hk.2))) | (dsimp only; exact Kd.own_blk (Kd.R_away HO103.out (fun _ hk => hk.2)))) _).trans (((cell_far (p := ⟨gb109, _, none⟩) (by first | exact Kd.own_blk (Kd.R_away HO103.out (fun _ hk => hk.2)) | (rw [add_block]; exact Kd.own_blk (Kd.R_away HO103.out (fun _ hk => hk.2))) | (show (Addr.add _ _).block ≠ _; rw [add_block]; exact Kd.own_blk (Kd.R_away HO103.out (fun _ hk => hk.2))) | (dsimp only; exact Kd.own_blk (Kd.R_away HO103.out (fun _ hk => hk.2)))) _).trans (hHeld.2.2.1)))), ((cell_far (p := ⟨gb109, _, none⟩) (by first | exact Kd.own_blk (Kd.R_away HO103.out (fun _ hk => hk.2)) | (rw [add_block]; exact Kd.own_blk (Kd.R_away HO103.out (fun _ hk => hk.2))) | (show (Addr.add _ _).block ≠ _; rw [add_block]; exact Kd.own_blk (Kd.R_away HO103.out (fun _ hk => hk.2))) | (dsimp only; exact Kd.own_blk (Kd.R_away HO103.out (fun _ hk => hk.2)))) _).trans (((cell_far (p := ⟨gb109, _, none⟩) (by first | exact Kd.own_blk (Kd.R_away HO103.out (fun _ hk => hk.2)) | (rw [add_block]; exact Kd.own_blk (Kd.R_away HO103.out (fun _ hk => hk.2))) | (show (Addr.add _ _).block ≠ _; rw [add_block]; exact Kd.own_blk (Kd.R_away HO103.out (fun _ hk => hk.2))) | (dsimp only; exact Kd.own_blk (Kd.R_away HO103.out (fun _ hk => hk.2)))) _).trans (hHeld.2.2.2))))⟩ (fun hHeld => ?_)
    clear hK K
    refine done_ (done_of HT_.out (by kernel_rfl)) ?_
    have hnb37 := NB108_109.out
    have hnc37 := NB109_108.out
    have hcz38_0 : w32.cell? ⟨gb108, 0, none⟩ = some (.int .i64 0) := (blk_cell BK108.out 0).trans rfl
    have hcz38_1 : w32.cell? ⟨gb108, 1, none⟩ = some (.bool false) := (blk_cell BK108.out 1).trans rfl
    have hfz38_0 := blk_frozen BK108.out 0
    have hfz38_1 := blk_frozen BK108.out 1
    have hcz39_0 : w32.cell? ⟨gb109, 0, none⟩ = some (.int .i64 0) := (blk_cell BK109.out 0).trans rfl
    have hcz39_1 : w32.cell? ⟨gb109, 1, none⟩ = some (.bool false) := (blk_cell BK109.out 1).trans rfl
    have hfz39_0 := blk_frozen BK109.out 0
    have hfz39_1 := blk_frozen BK109.out 1
    try go_wp2_with (first | ((with_reducible refine gate_callee (f := 18) rfl ?_); refine goesL_ (some 25) rfl rfl Tryd.func18 (by kernel_rfl) rfl #[.agg #[.int .i64 ((rd_T26 t101 t104).f0), .bool ((rd_T26 t101 t104).f1)], .agg #[.int .i64 ((rd_T26 t101 t106).f0), .bool ((rd_T26 t101 t106).f1)]] rfl (by (try simp only [List.map_toArray, List.map_cons, List.map_nil]); first | done | rfl | (simp only [List.length_drop, List.length_take]; rfl)) ?_; (with_reducible refine (word_Usual.calls k ((rd_T26 t101 t104).f0) ((rd_T26 t101 t104).f1) ((rd_T26 t101 t106).f0) ((rd_T26 t101 t106).f1) t110 true _ A11.out).mono ?_); rintro e w40 ⟨rfl, hb⟩; refine ⟨_, rfl, ?_⟩; have n0_ := Aside0.mk (Kd.R_below (by (with_reducible repeat (first | apply Kd.R_alloc | apply Kd.R_drewN | apply Kd.R_drew)); exact (Kd.R_mono (Kd.R_mono (Kd.R_far (p := ⟨gb109, 1, none⟩) (Kd.R_far (p := ⟨gb109, 0, none⟩) (Kd.R_far (p := ⟨gb108, 1, none⟩) (Kd.R_far (p := ⟨gb108, 0, none⟩) (Kd.R_mono (Kd.R_mono HO103.out (fun k_ hk => (⟨hk, hk.1⟩ : _ ∧ k_ ≠ gb108))) (fun k_ hk => (⟨hk, hk.1.2⟩ : _ ∧ k_ ≠ gb109))) (fun _ hk => hk.1.2) (.int .i64 ((rd_T26 t101 t104).f0))) (fun _ hk => hk.1.2) (.bool ((rd_T26 t101 t104).f1))) (fun _ hk => hk.2) (.int .i64 ((rd_T26 t101 t106).f0))) (fun _ hk => hk.2) (.bool ((rd_T26 t101 t106).f1))) (fun _ h_ => h_.1)) (fun _ h_ => h_.1))) hb); have n1_ := Aside0.mk (blk_below (g := gb108) (o := .cells #[.int .i64 ((rd_T26 t101 t104).f0), .bool ((rd_T26 t101 t104).f1)] 26 (0, 0)) (by (with_reducible repeat (first | refine blk_drewN ?_ _ | refine blk_drew ?_ | refine blk_alloc ?_ _)); refine blk_far ?_ NB108_109.out _; (with_reducible repeat (first | refine blk_drewN ?_ _ | refine blk_drew ?_ | refine blk_alloc ?_ _)); refine blk_far ?_ NB108_109.out _; (with_reducible repeat (first | refine blk_drewN ?_ _ | refine blk_drew ?_ | refine blk_alloc ?_ _)); refine blk_put (cs := #[.int .i64 ((rd_T26 t101 t104).f0), .bool false]) ?_ 1 _ rfl; (with_reducible repeat (first | refine blk_drewN ?_ _ | refine blk_drew ?_ | refine blk_alloc ?_ _)); refine blk_put (cs := #[.int .i64 0, .bool false]) ?_ 0 _ rfl; (with_reducible repeat (first | refine blk_drewN ?_ _ | refine blk_drew ?_ | refine blk_alloc ?_ _)); exact BK108.out) hb); have n2_ := Aside0.mk (blk_below (g := gb109) (o := .cells #[.int .i64 ((rd_T26 t101 t106).f0), .bool ((rd_T26 t101 t106).f1)] 26 (0, 0)) (by (with_reducible repeat (first | refine blk_drewN ?_ _ | refine blk_drew ?_ | refine blk_alloc ?_ _)); refine blk_put (cs := #[.int .i64 ((rd_T26 t101 t106).f0), .bool false]) ?_ 1 _ rfl; (with_reducible repeat (first | refine blk_drewN ?_ _ | refine blk_drew ?_ | refine blk_alloc ?_ _)); refine blk_put (cs := #[.int .i64 0, .bool false]) ?_ 0 _ rfl; (with_reducible repeat (first | refine blk_drewN ?_ _ | refine blk_drew ?_ | refine blk_alloc ?_ _)); refine blk_far ?_ NB109_108.out _; (with_reducible repeat (first | refine blk_drewN ?_ _ | refine blk_drew ?_ | refine blk_alloc ?_ _)); refine blk_far ?_ NB109_108.out _; (with_reducible repeat (first | refine blk_drewN ?_ _ | refine blk_drew ?_ | refine blk_alloc ?_ _)); exact BK109.out) hb); have n3_ := Aside0.mk (below_step (by repeat (first | (with_reducible first | exact HB.out | apply below_alloc | apply pw_below_drewN | apply below_drew1 | refine below_set ?_ GE108.out | refine below_set ?_ GE109.out) | exact HB.out)) hb); clear HO103; clear BK108; clear BK109; clear HB; have HO103 := n0_; have BK108 := n1_; have BK109 := n2_; have HB := n3_; clear n0_ n1_ n2_ n3_; (try clear hb); (try clear hb2); (try clear hk); (try clear hi)) | ((with_reducible refine gate_dst (N := 10) rfl ?_); refine box_event ?hg (N := 10) ?hd (cs := #[.int .i64 0, .bool false]) (t := 26) ?hr ?_; (case hd => rfl); (case hg => rfl); (case hr => first | (go_simp; done) | (go_simp; rfl)); intro gb112 hg w41 hbox hb; have n0_ := Aside0.mk (Kd.R_below (Kd.R_elderB (by (with_reducible repeat (first | apply Kd.R_alloc | apply Kd.R_drewN | apply Kd.R_drew)); exact HO103.out) gb112 (Nat.le_of_eq hg.symm)) hb); have n1_ := Aside0.mk (blk_below (g := gb108) (o := .cells #[.int .i64 ((rd_T26 t101 t104).f0), .bool ((rd_T26 t101 t104).f1)] 26 (0, 0)) (by (with_reducible repeat (first | refine blk_drewN ?_ _ | refine blk_drew ?_ | refine blk_alloc ?_ _)); exact BK108.out) hb); have n2_ := Aside0.mk (blk_below (g := gb109) (o := .cells #[.int .i64 ((rd_T26 t101 t106).f0), .bool ((rd_T26 t101 t106).f1)] 26 (0, 0)) (by (with_reducible repeat (first | refine blk_drewN ?_ _ | refine blk_drew ?_ | refine blk_alloc ?_ _)); exact BK109.out) hb); have n3_ := Aside0.mk (below_step (by repeat (first | (with_reducible first | exact HB.out | apply below_alloc | apply pw_below_drewN | apply below_drew1 | refine below_set ?_ GE108.out | refine below_set ?_ GE109.out) | exact HB.out)) hb); have n4_ := Aside0.mk (hbox); have n5_ := Aside0.mk ((by rw [hg]; exact (below_size (by repeat (first | (with_reducible first | exact HB.out | apply below_alloc | apply pw_below_drewN | apply below_drew1 | refine below_set ?_ GE108.out | refine below_set ?_ GE109.out) | exact HB.out))) : w.heap.size ≤ gb112)); have n6_ := Aside0.mk ((by rw [hg]; exact (below_size (by repeat (first | (with_reducible first | exact HB.out | apply below_alloc | apply pw_below_drewN | apply below_drew1 | refine below_set ?_ GE108.out | refine below_set ?_ GE109.out) | exact HB.out))) : w.heap.size ≤ gb112)); have n7_ := Aside0.mk ((by rw [hg]; exact Nat.ne_of_lt (blk_lt (g := gb108) (o := .cells #[.int .i64 ((rd_T26 t101 t104).f0), .bool ((rd_T26 t101 t104).f1)] 26 (0, 0)) (by (with_reducible repeat (first | refine blk_drewN ?_ _ | refine blk_drew ?_ | refine blk_alloc ?_ _)); exact BK108.out)) : gb108 ≠ gb112)); have n8_ := Aside0.mk ((by rw [hg]; exact Nat.ne_of_gt (blk_lt (g := gb108) (o := .cells #[.int .i64 ((rd_T26 t101 t104).f0), .bool ((rd_T26 t101 t104).f1)] 26 (0, 0)) (by (with_reducible repeat (first | refine blk_drewN ?_ _ | refine blk_drew ?_ | refine blk_alloc ?_ _)); exact BK108.out)) : gb112 ≠ gb108)); have n9_ := Aside0.mk ((by rw [hg]; exact Nat.ne_of_lt (blk_lt (g := gb109) (o := .cells #[.int .i64 ((rd_T26 t101 t106).f0), .bool ((rd_T26 t101 t106).f1)] 26 (0, 0)) (by (with_reducible repeat (first | refine blk_drewN ?_ _ | refine blk_drew ?_ | refine blk_alloc ?_ _)); exact BK109.out)) : gb109 ≠ gb112)); have n10_ := Aside0.mk ((by rw [hg]; exact Nat.ne_of_gt (blk_lt (g := gb109) (o := .cells #[.int .i64 ((rd_T26 t101 t106).f0), .bool ((rd_T26 t101 t106).f1)] 26 (0, 0)) (by (with_reducible repeat (first | refine blk_drewN ?_ _ | refine blk_drew ?_ | refine blk_alloc ?_ _)); exact BK109.out)) : gb112 ≠ gb109)); clear HO103; clear BK108; clear BK109; clear HB; have HO103 := n0_; have BK108 := n1_; have BK109 := n2_; have HB := n3_; have BK112 := n4_; have GW112 := n5_; have GE112 := n6_; have NB108_112 := n7_; have NB112_108 := n8_; have NB109_112 := n9_; have NB112_109 := n10_; clear n0_ n1_ n2_ n3_ n4_ n5_ n6_ n7_ n8_ n9_ n10_; clear hb hbox hg; have hnb42 := NB112_108.out; have hnc42 := NB108_112.out; have hnb43 := NB112_109.out; have hnc43 := NB109_112.out; have hcz44_0 : w41.cell? ⟨gb112, 0, none⟩ = some (.int .i64 0) := (blk_cell BK112.out 0).trans rfl; have hcz44_1 : w41.cell? ⟨gb112, 1, none⟩ = some (.bool false) := (blk_cell BK112.out 1).trans rfl; have hfz44_0 := blk_frozen BK112.out 0; have hfz44_1 := blk_frozen BK112.out 1; have hcz45_0 : w41.cell? ⟨gb108, 0, none⟩ = some (.int .i64 ((rd_T26 t101 t104).f0)) := (blk_cell BK108.out 0).trans rfl; have hcz45_1 : w41.cell? ⟨gb108, 1, none⟩ = some (.bool ((rd_T26 t101 t104).f1)) := (blk_cell BK108.out 1).trans rfl; have hfz45_0 := blk_frozen BK108.out 0; have hfz45_1 := blk_frozen BK108.out 1) | ((with_reducible refine gate_callee (f := 13) rfl ?_); refine goesL_ (some 28) rfl rfl Tryd.func13 (by kernel_rfl) rfl #[.agg #[.int .i64 ((rd_T26 t101 t104).f0), .bool ((rd_T26 t101 t104).f1)], .int .i64 a2] rfl (by (try simp only [List.map_toArray, List.map_cons, List.map_nil]); first | done | rfl | (simp only [List.length_drop, List.length_take]; rfl)) ?_; (with_reducible refine (word_Wrap.calls ((rd_T26 t101 t104).f0) ((rd_T26 t101 t104).f1) a2 t113 _ A12.out).mono ?_); rintro e w46 ⟨rfl, hb⟩; refine ⟨_, rfl, ?_⟩; have n0_ := Aside0.mk (Kd.R_below (by (with_reducible repeat (first | apply Kd.R_alloc | apply Kd.R_drewN | apply Kd.R_drew)); exact (Kd.R_mono (Kd.R_far (p := ⟨gb112, 1, none⟩) (Kd.R_far (p := ⟨gb112, 0, none⟩) (Kd.R_mono HO103.out (fun k_ hk => (⟨hk, hk.2⟩ : _ ∧ k_ ≠ gb112))) (fun _ hk => hk.2) (.int .i64 t110)) (fun _ hk => hk.2) (.bool true)) (fun _ h_ => h_.1))) hb); have n1_ := Aside0.mk (blk_below (g := gb108) (o := .cells #[.int .i64 ((rd_T26 t101 t104).f0), .bool ((rd_T26 t101 t104).f1)] 26 (0, 0)) (by (with_reducible repeat (first | refine blk_drewN ?_ _ | refine blk_drew ?_ | refine blk_alloc ?_ _)); refine blk_far ?_ NB108_112.out _; (with_reducible repeat (first | refine blk_drewN ?_ _ | refine blk_drew ?_ | refine blk_alloc ?_ _)); refine blk_far ?_ NB108_112.out _; (with_reducible repeat (first | refine blk_drewN ?_ _ | refine blk_drew ?_ | refine blk_alloc ?_ _)); exact BK108.out) hb); have n2_ := Aside0.mk (blk_below (g := gb109) (o := .cells #[.int .i64 ((rd_T26 t101 t106).f0), .bool ((rd_T26 t101 t106).f1)] 26 (0, 0)) (by (with_reducible repeat (first | refine blk_drewN ?_ _ | refine blk_drew ?_ | refine blk_alloc ?_ _)); refine blk_far ?_ NB109_112.out _; (with_reducible repeat (first | refine blk_drewN ?_ _ | refine blk_drew ?_ | refine blk_alloc ?_ _)); refine blk_far ?_ NB109_112.out _; (with_reducible repeat (first | refine blk_drewN ?_ _ | refine blk_drew ?_ | refine blk_alloc ?_ _)); exact BK109.out) hb); have n3_ := Aside0.mk (blk_below (g := gb112) (o := .cells #[.int .i64 t110, .bool true] 26 (0, 0)) (by (with_reducible repeat (first | refine blk_drewN ?_ _ | refine blk_drew ?_ | refine blk_alloc ?_ _)); refine blk_put (cs := #[.int .i64 t110, .bool false]) ?_ 1 _ rfl; (with_reducible repeat (first | refine blk_drewN ?_ _ | refine blk_drew ?_ | refine blk_alloc ?_ _)); refine blk_put (cs := #[.int .i64 0, .bool false]) ?_ 0 _ rfl; (with_reducible repeat (first | refine blk_drewN ?_ _ | refine blk_drew ?_ | refine blk_alloc ?_ _)); exact BK112.out) hb); have n4_ := Aside0.mk (below_step (by repeat (first | (with_reducible first | exact HB.out | apply below_alloc | apply pw_below_drewN | apply below_drew1 | refine below_set ?_ GE108.out | refine below_set ?_ GE109.out | refine below_set ?_ GE112.out) | exact HB.out)) hb); clear HO103; clear BK108; clear BK109; clear BK112; clear HB; have HO103 := n0_; have BK108 := n1_; have BK109 := n2_; have BK112 := n3_; have HB := n4_; clear n0_ n1_ n2_ n3_ n4_; (try clear hb); (try clear hb2); (try clear hk); (try clear hi)))
    have n0_ := Aside0.mk (Kd.R_drew HO103.out)
    have n1_ := Aside0.mk (blk_drew BK108.out)
    have n2_ := Aside0.mk (blk_drew BK109.out)
    have n3_ := Aside0.mk (blk_drew BK112.out)
    have n4_ := Aside0.mk (below_drew1 HB.out)
    clear HO103
    clear BK108
    clear BK109
    clear BK112
    clear HB
    have HO103 := n0_
    have BK108 := n1_
    have BK109 := n2_
    have BK112 := n3_
    have HB := n4_
    clear n0_ n1_ n2_ n3_ n4_
    refine start_ (n := 57) (S := fun w' => w'.cell? ⟨gb112, 0, none⟩ = some (.int .i64 t110) ∧ w'.cell? ⟨gb112, 1, none⟩ = some (.bool true) ∧ w'.cell? ⟨gb109, 0, none⟩ = some (.int .i64 ((rd_T26 t101 t106).f0)) ∧ w'.cell? ⟨gb109, 1, none⟩ = some (.bool ((rd_T26 t101 t106).f1)) ∧ w'.cell? ⟨gb108, 0, none⟩ = some (.int .i64 ((rd_T26 t101 t104).f0)) ∧ w'.cell? ⟨gb108, 1, none⟩ = some (.bool ((rd_T26 t101 t104).f1))) (ds := []) #[false,false,false,false,false,false,false,false,false,false,false,false,false,false,false,false,false,false,false,false,false,false,false,false,false,false,false,false,false,false,false,false,false,false,false,false,false,false,false,false,false,false,false,false,false,false,false,false,false,false,false,false,false,false,false,false,false] (by kernel_rfl) rfl rfl ⟨(blk_cell BK112.out 0).trans rfl, (blk_cell BK112.out 1).trans rfl, (blk_cell BK109.out 0).trans rfl, (blk_cell BK109.out 1).trans rfl, (blk_cell BK108.out 0).trans rfl, (blk_cell BK108.out 1).trans rfl⟩ (fun hHeld => ?_); refine with_tabW spokeshavelaw1_WordUsualA.tab5 spokeshavelaw1_WordUsualA.bits5 (fun HT_ HW_ => ?_)
    generalize w46.drew = w47 at HO103 BK108 BK109 BK112 HB hHeld ⊢
    refine take_ (i := 0) (N := some 29) (v := ?_) (a' := ?_) #[true,false,false,false,false,false,false,false,false,false,false,false,false,false,false,false,false,false,false,false,false,false,false,false,false,false,false,false,false,false,false,false,false,false,false,false,false,false,false,false,false,false,false,false,false,false,false,false,false,false,false,false,false,false,false,false,false] rfl rfl (take_ofW HT_.out HW_.out (by kernel_rfl)) (fun _ _ _ h => h) (Or.inl ⟨by rfl, ?_⟩) hHeld ?_ ?_
    rotate_left
    ·
     rintro w' ⟨s0, s1, s2, s3, s4, s5⟩
     go_simp
     with_reducible rfl
    rotate_left
    ·
     simp only [Act.put, List.setIfInBounds_toArray, List.set_cons_zero, List.set_cons_succ, i64_w, i32_w]
     rfl
    refine one_ (i := 1) (N := some 30) #[true,true,false,false,false,false,false,false,false,false,false,false,false,false,false,false,false,false,false,false,false,false,false,false,false,false,false,false,false,false,false,false,false,false,false,false,false,false,false,false,false,false,false,false,false,false,false,false,false,false,false,false,false,false,false,false,false] rfl rfl (one_of HT_.out (by kernel_rfl)) (by decide) (fun K hK => ?_)
    refine goes_ Tryd.func19 (by kernel_rfl) rfl #[.agg #[.int .i64 t110, .bool true]] (by rfl) rfl rfl (by (try simp only [List.map_toArray, List.map_cons, List.map_nil]); first | done | rfl | (simp only [List.length_drop, List.length_take]; rfl)) ?_
    with_reducible refine (word_May.calls t110 true true _ A13.out).mono ?_
    rintro e w48 ⟨rfl, hb⟩
    refine ⟨_, rfl, ?_⟩
    have n0_ := Aside0.mk (Kd.R_below (by (with_reducible repeat (first | apply Kd.R_alloc | apply Kd.R_drewN | apply Kd.R_drew)); exact HO103.out) hb)
    have n1_ := Aside0.mk (blk_below (g := gb108) (o := .cells #[.int .i64 ((rd_T26 t101 t104).f0), .bool ((rd_T26 t101 t104).f1)] 26 (0, 0)) (by (with_reducible repeat (first | refine blk_drewN ?_ _ | refine blk_drew ?_ | refine blk_alloc ?_ _)); exact BK108.out) hb)
    have n2_ := Aside0.mk (blk_below (g := gb109) (o := .cells #[.int .i64 ((rd_T26 t101 t106).f0), .bool ((rd_T26 t101 t106).f1)] 26 (0, 0)) (by (with_reducible repeat (first | refine blk_drewN ?_ _ | refine blk_drew ?_ | refine blk_alloc ?_ _)); exact BK109.out) hb)
    have n3_ := Aside0.mk (blk_below (g := gb112) (o := .cells #[.int .i64 t110, .bool true] 26 (0, 0)) (by (with_reducible repeat (first | refine blk_drewN ?_ _ | refine blk_drew ?_ | refine blk_alloc ?_ _)); exact BK112.out) hb)
    have n4_ := Aside0.mk (below_step (by repeat (first | (with_reducible first | exact HB.out | apply below_alloc | apply pw_below_drewN | apply below_drew1 | refine below_set ?_ GE108.out | refine below_set ?_ GE109.out | refine below_set ?_ GE112.out) | exact HB.out)) hb)
    clear HO103
    clear BK108
    clear BK109
    clear BK112
    clear HB
    have HO103 := n0_
    have BK108 := n1_
    have BK109 := n2_
    have BK112 := n3_
    have HB := n4_
    clear n0_ n1_ n2_ n3_ n4_
    (try clear hb)
    (try clear hb2)
    (try clear hk)
    (try clear hi)
    refine hK.out _ _ ⟨(blk_cell BK112.out 0).trans rfl, (blk_cell BK112.out 1).trans rfl, (blk_cell BK109.out 0).trans rfl, (blk_cell BK109.out 1).trans rfl, (blk_cell BK108.out 0).trans rfl, (blk_cell BK108.out 1).trans rfl⟩ (fun hHeld => ?_)
    clear hK K
    refine norm_ (a' := ?_) ?_ ?_
    rotate_left
    ·
     show Act.put _ (some 30) _ = _
     simp only [Act.put, List.setIfInBounds_toArray, List.set_cons_zero, List.set_cons_succ, i64_w, i32_w]
     rfl
    refine pure_ (i := 2) (N := some 31) (v := ?_) (a' := ?_) #[true,true,true,false,false,false,false,false,false,false,false,false,false,false,false,false,false,false,false,false,false,false,false,false,false,false,false,false,false,false,false,false,false,false,false,false,false,false,false,false,false,false,false,false,false,false,false,false,false,false,false,false,false,false,false,false,false] rfl rfl (any_of HT_.out (by kernel_rfl)) (fun _ _ _ h => h) (Or.inl ⟨by rfl, ?_⟩) ?_ ?_
    rotate_left
    ·
     intro w'
     go_simp
     with_reducible rfl
    rotate_left
    ·
     simp only [Act.put, List.setIfInBounds_toArray, List.set_cons_zero, List.set_cons_succ, i64_w, i32_w]
     rfl
    refine pure_ (i := 3) (N := some 32) (v := ?_) (a' := ?_) #[true,true,true,true,false,false,false,false,false,false,false,false,false,false,false,false,false,false,false,false,false,false,false,false,false,false,false,false,false,false,false,false,false,false,false,false,false,false,false,false,false,false,false,false,false,false,false,false,false,false,false,false,false,false,false,false,false] rfl rfl (any_of HT_.out (by kernel_rfl)) (fun _ _ _ h => h) (Or.inl ⟨by rfl, ?_⟩) ?_ ?_
    rotate_left
    ·
     intro w'
     go_simp
     with_reducible rfl
    rotate_left
    ·
     simp only [Act.put, List.setIfInBounds_toArray, List.set_cons_zero, List.set_cons_succ, i64_w, i32_w]
     rfl
    refine take_ (i := 4) (N := some 33) (v := ?_) (a' := ?_) #[true,true,true,true,true,false,false,false,false,false,false,false,false,false,false,false,false,false,false,false,false,false,false,false,false,false,false,false,false,false,false,false,false,false,false,false,false,false,false,false,false,false,false,false,false,false,false,false,false,false,false,false,false,false,false,false,false] rfl rfl (take_ofW HT_.out HW_.out (by kernel_rfl)) (fun _ _ _ h => h) (Or.inl ⟨by rfl, ?_⟩) hHeld ?_ ?_
    rotate_left
    ·
     rintro w' ⟨s0, s1, s2, s3, s4, s5⟩
     go_simp
     with_reducible rfl
    rotate_left
    ·
     simp only [Act.put, List.setIfInBounds_toArray, List.set_cons_zero, List.set_cons_succ, i64_w, i32_w]
     rfl
    refine pure_ (i := 5) (N := some 34) (v := ?_) (a' := ?_) #[true,true,true,true,true,true,false,false,false,false,false,false,false,false,false,false,false,false,false,false,false,false,false,false,false,false,false,false,false,false,false,false,false,false,false,false,false,false,false,false,false,false,false,false,false,false,false,false,false,false,false,false,false,false,false,false,false] rfl rfl (any_of HT_.out (by kernel_rfl)) (fun _ _ _ h => h) (Or.inl ⟨by rfl, ?_⟩) ?_ ?_
    rotate_left
    ·
     intro w'
     go_simp
     with_reducible rfl
    rotate_left
    ·
     simp only [Act.put, List.setIfInBounds_toArray, List.set_cons_zero, List.set_cons_succ, i64_w, i32_w]
     rfl
    refine pure_ (i := 6) (N := some 35) (v := ?_) (a' := ?_) #[true,true,true,true,true,true,true,false,false,false,false,false,false,false,false,false,false,false,false,false,false,false,false,false,false,false,false,false,false,false,false,false,false,false,false,false,false,false,false,false,false,false,false,false,false,false,false,false,false,false,false,false,false,false,false,false,false] rfl rfl (any_of HT_.out (by kernel_rfl)) (fun _ _ _ h => h) (Or.inl ⟨by rfl, ?_⟩) ?_ ?_
    rotate_left
    ·
     intro w'
     go_simp
     with_reducible rfl
    rotate_left
    ·
     simp only [Act.put, List.setIfInBounds_toArray, List.set_cons_zero, List.set_cons_succ, i64_w, i32_w]
     rfl
    refine pure_ (i := 7) (N := some 36) (v := ?_) (a' := ?_) #[true,true,true,true,true,true,true,true,false,false,false,false,false,false,false,false,false,false,false,false,false,false,false,false,false,false,false,false,false,false,false,false,false,false,false,false,false,false,false,false,false,false,false,false,false,false,false,false,false,false,false,false,false,false,false,false,false] rfl rfl (any_of HT_.out (by kernel_rfl)) (fun _ _ _ h => h) (Or.inl ⟨by rfl, ?_⟩) ?_ ?_
    rotate_left
    ·
     intro w'
     go_simp
     with_reducible rfl
    rotate_left
    ·
     simp only [Act.put, List.setIfInBounds_toArray, List.set_cons_zero, List.set_cons_succ, i64_w, i32_w]
     rfl
    refine take_ (i := 8) (N := some 37) (v := ?_) (a' := ?_) #[true,true,true,true,true,true,true,true,true,false,false,false,false,false,false,false,false,false,false,false,false,false,false,false,false,false,false,false,false,false,false,false,false,false,false,false,false,false,false,false,false,false,false,false,false,false,false,false,false,false,false,false,false,false,false,false,false] rfl rfl (take_ofW HT_.out HW_.out (by kernel_rfl)) (fun _ _ _ h => h) (Or.inl ⟨by rfl, ?_⟩) hHeld ?_ ?_
    rotate_left
    ·
     rintro w' ⟨s0, s1, s2, s3, s4, s5⟩
     go_simp
     with_reducible rfl
    rotate_left
    ·
     simp only [Act.put, List.setIfInBounds_toArray, List.set_cons_zero, List.set_cons_succ, i64_w, i32_w]
     rfl
    refine take_ (i := 9) (N := some 38) (v := ?_) (a' := ?_) #[true,true,true,true,true,true,true,true,true,true,false,false,false,false,false,false,false,false,false,false,false,false,false,false,false,false,false,false,false,false,false,false,false,false,false,false,false,false,false,false,false,false,false,false,false,false,false,false,false,false,false,false,false,false,false,false,false] rfl rfl (take_ofW HT_.out HW_.out (by kernel_rfl)) (fun _ _ _ h => h) (Or.inl ⟨by rfl, ?_⟩) hHeld ?_ ?_
    rotate_left
    ·
     rintro w' ⟨s0, s1, s2, s3, s4, s5⟩
     go_simp
     with_reducible rfl
    rotate_left
    ·
     simp only [Act.put, List.setIfInBounds_toArray, List.set_cons_zero, List.set_cons_succ, i64_w, i32_w]
     rfl
    refine take_ (i := 10) (N := some 39) (v := ?_) (a' := ?_) #[true,true,true,true,true,true,true,true,true,true,true,false,false,false,false,false,false,false,false,false,false,false,false,false,false,false,false,false,false,false,false,false,false,false,false,false,false,false,false,false,false,false,false,false,false,false,false,false,false,false,false,false,false,false,false,false,false] rfl rfl (take_ofW HT_.out HW_.out (by kernel_rfl)) (fun _ _ _ h => h) (Or.inl ⟨by rfl, ?_⟩) hHeld ?_ ?_
    rotate_left
    ·
     rintro w' ⟨s0, s1, s2, s3, s4, s5⟩
     go_simp
     with_reducible rfl
    rotate_left
    ·
     simp only [Act.put, List.setIfInBounds_toArray, List.set_cons_zero, List.set_cons_succ, i64_w, i32_w]
     rfl
    refine one_ (i := 11) (N := some 40) #[true,true,true,true,true,true,true,true,true,true,true,true,false,false,false,false,false,false,false,false,false,false,false,false,false,false,false,false,false,false,false,false,false,false,false,false,false,false,false,false,false,false,false,false,false,false,false,false,false,false,false,false,false,false,false,false,false] rfl rfl (one_of HT_.out (by kernel_rfl)) (by decide) (fun K hK => ?_)
    refine goes_ Tryd.func18 (by kernel_rfl) rfl #[.agg #[.int .i64 ((rd_T26 t101 t106).f0), .bool ((rd_T26 t101 t106).f1)], .agg #[.int .i64 ((rd_T26 t101 t104).f0), .bool ((rd_T26 t101 t104).f1)]] (by rfl) rfl rfl (by (try simp only [List.map_toArray, List.map_cons, List.map_nil]); first | done | rfl | (simp only [List.length_drop, List.length_take]; rfl)) ?_
    with_reducible refine (word_Usual.calls k ((rd_T26 t101 t106).f0) ((rd_T26 t101 t106).f1) ((rd_T26 t101 t104).f0) ((rd_T26 t101 t104).f1) t115 t116 _ A16.out).mono ?_
    rintro e w49 ⟨rfl, hb⟩
    refine ⟨_, rfl, ?_⟩
    have n0_ := Aside0.mk (Kd.R_below (by (with_reducible repeat (first | apply Kd.R_alloc | apply Kd.R_drewN | apply Kd.R_drew)); exact HO103.out) hb)
    have n1_ := Aside0.mk (blk_below (g := gb108) (o := .cells #[.int .i64 ((rd_T26 t101 t104).f0), .bool ((rd_T26 t101 t104).f1)] 26 (0, 0)) (by (with_reducible repeat (first | refine blk_drewN ?_ _ | refine blk_drew ?_ | refine blk_alloc ?_ _)); exact BK108.out) hb)
    have n2_ := Aside0.mk (blk_below (g := gb109) (o := .cells #[.int .i64 ((rd_T26 t101 t106).f0), .bool ((rd_T26 t101 t106).f1)] 26 (0, 0)) (by (with_reducible repeat (first | refine blk_drewN ?_ _ | refine blk_drew ?_ | refine blk_alloc ?_ _)); exact BK109.out) hb)
    have n3_ := Aside0.mk (blk_below (g := gb112) (o := .cells #[.int .i64 t110, .bool true] 26 (0, 0)) (by (with_reducible repeat (first | refine blk_drewN ?_ _ | refine blk_drew ?_ | refine blk_alloc ?_ _)); exact BK112.out) hb)
    have n4_ := Aside0.mk (below_step (by repeat (first | (with_reducible first | exact HB.out | apply below_alloc | apply pw_below_drewN | apply below_drew1 | refine below_set ?_ GE108.out | refine below_set ?_ GE109.out | refine below_set ?_ GE112.out) | exact HB.out)) hb)
    clear HO103
    clear BK108
    clear BK109
    clear BK112
    clear HB
    have HO103 := n0_
    have BK108 := n1_
    have BK109 := n2_
    have BK112 := n3_
    have HB := n4_
    clear n0_ n1_ n2_ n3_ n4_
    (try clear hb)
    (try clear hb2)
    (try clear hk)
    (try clear hi)
    refine hK.out _ _ ⟨(blk_cell BK112.out 0).trans rfl, (blk_cell BK112.out 1).trans rfl, (blk_cell BK109.out 0).trans rfl, (blk_cell BK109.out 1).trans rfl, (blk_cell BK108.out 0).trans rfl, (blk_cell BK108.out 1).trans rfl⟩ (fun hHeld => ?_)
    clear hK K
    refine norm_ (a' := ?_) ?_ ?_
    rotate_left
    ·
     show Act.put _ (some 40) _ = _
     simp only [Act.put, List.setIfInBounds_toArray, List.set_cons_zero, List.set_cons_succ, i64_w, i32_w]
     rfl
    refine pure_ (i := 12) (N := some 41) (v := ?_) (a' := ?_) #[true,true,true,true,true,true,true,true,true,true,true,true,true,false,false,false,false,false,false,false,false,false,false,false,false,false,false,false,false,false,false,false,false,false,false,false,false,false,false,false,false,false,false,false,false,false,false,false,false,false,false,false,false,false,false,false,false] rfl rfl (any_of HT_.out (by kernel_rfl)) (fun _ _ _ h => h) (Or.inl ⟨by rfl, ?_⟩) ?_ ?_
    rotate_left
    ·
     intro w'
     go_simp
     with_reducible rfl
    rotate_left
    ·
     simp only [Act.put, List.setIfInBounds_toArray, List.set_cons_zero, List.set_cons_succ, i64_w, i32_w]
     rfl
    refine pure_ (i := 13) (N := some 42) (v := ?_) (a' := ?_) #[true,true,true,true,true,true,true,true,true,true,true,true,true,true,false,false,false,false,false,false,false,false,false,false,false,false,false,false,false,false,false,false,false,false,false,false,false,false,false,false,false,false,false,false,false,false,false,false,false,false,false,false,false,false,false,false,false] rfl rfl (any_of HT_.out (by kernel_rfl)) (fun _ _ _ h => h) (Or.inl ⟨by rfl, ?_⟩) ?_ ?_
    rotate_left
    ·
     intro w'
     go_simp
     with_reducible rfl
    rotate_left
    ·
     simp only [Act.put, List.setIfInBounds_toArray, List.set_cons_zero, List.set_cons_succ, i64_w, i32_w]
     rfl
    refine pure_ (i := 14) (N := some 43) (v := ?_) (a' := ?_) #[true,true,true,true,true,true,true,true,true,true,true,true,true,true,true,false,false,false,false,false,false,false,false,false,false,false,false,false,false,false,false,false,false,false,false,false,false,false,false,false,false,false,false,false,false,false,false,false,false,false,false,false,false,false,false,false,false] rfl rfl (any_of HT_.out (by kernel_rfl)) (fun _ _ _ h => h) (Or.inl ⟨by rfl, ?_⟩) ?_ ?_
    rotate_left
    ·
     intro w'
     go_simp
     with_reducible rfl
    rotate_left
    ·
     simp only [Act.put, List.setIfInBounds_toArray, List.set_cons_zero, List.set_cons_succ, i64_w, i32_w]
     rfl
    refine take_ (i := 15) (N := some 44) (v := ?_) (a' := ?_) #[true,true,true,true,true,true,true,true,true,true,true,true,true,true,true,true,false,false,false,false,false,false,false,false,false,false,false,false,false,false,false,false,false,false,false,false,false,false,false,false,false,false,false,false,false,false,false,false,false,false,false,false,false,false,false,false,false] rfl rfl (take_ofW HT_.out HW_.out (by kernel_rfl)) (fun _ _ _ h => h) (Or.inl ⟨by rfl, ?_⟩) hHeld ?_ ?_
    rotate_left
    ·
     rintro w' ⟨s0, s1, s2, s3, s4, s5⟩
     go_simp
     with_reducible rfl
    rotate_left
    ·
     simp only [Act.put, List.setIfInBounds_toArray, List.set_cons_zero, List.set_cons_succ, i64_w, i32_w]
     rfl
    refine take_ (i := 16) (N := some 45) (v := ?_) (a' := ?_) #[true,true,true,true,true,true,true,true,true,true,true,true,true,true,true,true,true,false,false,false,false,false,false,false,false,false,false,false,false,false,false,false,false,false,false,false,false,false,false,false,false,false,false,false,false,false,false,false,false,false,false,false,false,false,false,false,false] rfl rfl (take_ofW HT_.out HW_.out (by kernel_rfl)) (fun _ _ _ h => h) (Or.inl ⟨by rfl, ?_⟩) hHeld ?_ ?_
    rotate_left
    ·
     rintro w' ⟨s0, s1, s2, s3, s4, s5⟩
     go_simp
     with_reducible rfl
    rotate_left
    ·
     simp only [Act.put, List.setIfInBounds_toArray, List.set_cons_zero, List.set_cons_succ, i64_w, i32_w]
     rfl
    refine take_ (i := 18) (N := some 47) (v := ?_) (a' := ?_) #[true,true,true,true,true,true,true,true,true,true,true,true,true,true,true,true,true,false,true,false,false,false,false,false,false,false,false,false,false,false,false,false,false,false,false,false,false,false,false,false,false,false,false,false,false,false,false,false,false,false,false,false,false,false,false,false,false] rfl rfl (take_ofW HT_.out HW_.out (by kernel_rfl)) (fun _ _ _ h => h) (Or.inl ⟨by rfl, ?_⟩) hHeld ?_ ?_
    rotate_left
    ·
     rintro w' ⟨s0, s1, s2, s3, s4, s5⟩
     go_simp
     with_reducible rfl
    rotate_left
    ·
     simp only [Act.put, List.setIfInBounds_toArray, List.set_cons_zero, List.set_cons_succ, i64_w, i32_w]
     rfl
    refine one_ (i := 17) (N := some 46) #[true,true,true,true,true,true,true,true,true,true,true,true,true,true,true,true,true,true,true,false,false,false,false,false,false,false,false,false,false,false,false,false,false,false,false,false,false,false,false,false,false,false,false,false,false,false,false,false,false,false,false,false,false,false,false,false,false] rfl rfl (one_of HT_.out (by kernel_rfl)) (by decide) (fun K hK => ?_)
    refine goes_ Tryd.func18 (by kernel_rfl) rfl #[.agg #[.int .i64 t110, .bool true], .agg #[.int .i64 t110, .bool true]] (by rfl) rfl rfl (by (try simp only [List.map_toArray, List.map_cons, List.map_nil]); first | done | rfl | (simp only [List.length_drop, List.length_take]; rfl)) ?_
    with_reducible refine (word_Usual.calls k t110 true t110 true t117 t118 _ A18.out).mono ?_
    rintro e w50 ⟨rfl, hb⟩
    refine ⟨_, rfl, ?_⟩
    have n0_ := Aside0.mk (Kd.R_below (by (with_reducible repeat (first | apply Kd.R_alloc | apply Kd.R_drewN | apply Kd.R_drew)); exact HO103.out) hb)
    have n1_ := Aside0.mk (blk_below (g := gb108) (o := .cells #[.int .i64 ((rd_T26 t101 t104).f0), .bool ((rd_T26 t101 t104).f1)] 26 (0, 0)) (by (with_reducible repeat (first | refine blk_drewN ?_ _ | refine blk_drew ?_ | refine blk_alloc ?_ _)); exact BK108.out) hb)
    have n2_ := Aside0.mk (blk_below (g := gb109) (o := .cells #[.int .i64 ((rd_T26 t101 t106).f0), .bool ((rd_T26 t101 t106).f1)] 26 (0, 0)) (by (with_reducible repeat (first | refine blk_drewN ?_ _ | refine blk_drew ?_ | refine blk_alloc ?_ _)); exact BK109.out) hb)
    have n3_ := Aside0.mk (blk_below (g := gb112) (o := .cells #[.int .i64 t110, .bool true] 26 (0, 0)) (by (with_reducible repeat (first | refine blk_drewN ?_ _ | refine blk_drew ?_ | refine blk_alloc ?_ _)); exact BK112.out) hb)
    have n4_ := Aside0.mk (below_step (by repeat (first | (with_reducible first | exact HB.out | apply below_alloc | apply pw_below_drewN | apply below_drew1 | refine below_set ?_ GE108.out | refine below_set ?_ GE109.out | refine below_set ?_ GE112.out) | exact HB.out)) hb)
    clear HO103
    clear BK108
    clear BK109
    clear BK112
    clear HB
    have HO103 := n0_
    have BK108 := n1_
    have BK109 := n2_
    have BK112 := n3_
    have HB := n4_
    clear n0_ n1_ n2_ n3_ n4_
    (try clear hb)
    (try clear hb2)
    (try clear hk)
    (try clear hi)
    refine hK.out _ _ ⟨(blk_cell BK112.out 0).trans rfl, (blk_cell BK112.out 1).trans rfl, (blk_cell BK109.out 0).trans rfl, (blk_cell BK109.out 1).trans rfl, (blk_cell BK108.out 0).trans rfl, (blk_cell BK108.out 1).trans rfl⟩ (fun hHeld => ?_)
    clear hK K
    refine norm_ (a' := ?_) ?_ ?_
    rotate_left
    ·
     show Act.put _ (some 46) _ = _
     simp only [Act.put, List.setIfInBounds_toArray, List.set_cons_zero, List.set_cons_succ, i64_w, i32_w]
     rfl
    refine pure_ (i := 19) (N := some 48) (v := ?_) (a' := ?_) #[true,true,true,true,true,true,true,true,true,true,true,true,true,true,true,true,true,true,true,true,false,false,false,false,false,false,false,false,false,false,false,false,false,false,false,false,false,false,false,false,false,false,false,false,false,false,false,false,false,false,false,false,false,false,false,false,false] rfl rfl (any_of HT_.out (by kernel_rfl)) (fun _ _ _ h => h) (Or.inl ⟨by rfl, ?_⟩) ?_ ?_
    rotate_left
    ·
     intro w'
     go_simp
     with_reducible rfl
    rotate_left
    ·
     simp only [Act.put, List.setIfInBounds_toArray, List.set_cons_zero, List.set_cons_succ, i64_w, i32_w]
     rfl
    refine pure_ (i := 20) (N := some 49) (v := ?_) (a' := ?_) #[true,true,true,true,true,true,true,true,true,true,true,true,true,true,true,true,true,true,true,true,true,false,false,false,false,false,false,false,false,false,false,false,false,false,false,false,false,false,false,false,false,false,false,false,false,false,false,false,false,false,false,false,false,false,false,false,false] rfl rfl (any_of HT_.out (by kernel_rfl)) (fun _ _ _ h => h) (Or.inl ⟨by rfl, ?_⟩) ?_ ?_
    rotate_left
    ·
     intro w'
     go_simp
     with_reducible rfl
    rotate_left
    ·
     simp only [Act.put, List.setIfInBounds_toArray, List.set_cons_zero, List.set_cons_succ, i64_w, i32_w]
     rfl
    refine pure_ (i := 21) (N := some 50) (v := ?_) (a' := ?_) #[true,true,true,true,true,true,true,true,true,true,true,true,true,true,true,true,true,true,true,true,true,true,false,false,false,false,false,false,false,false,false,false,false,false,false,false,false,false,false,false,false,false,false,false,false,false,false,false,false,false,false,false,false,false,false,false,false] rfl rfl (any_of HT_.out (by kernel_rfl)) (fun _ _ _ h => h) (Or.inl ⟨by rfl, ?_⟩) ?_ ?_
    rotate_left
    ·
     intro w'
     go_simp
     with_reducible rfl
    rotate_left
    ·
     simp only [Act.put, List.setIfInBounds_toArray, List.set_cons_zero, List.set_cons_succ, i64_w, i32_w]
     rfl
    refine take_ (i := 22) (N := some 51) (v := ?_) (a' := ?_) #[true,true,true,true,true,true,true,true,true,true,true,true,true,true,true,true,true,true,true,true,true,true,true,false,false,false,false,false,false,false,false,false,false,false,false,false,false,false,false,false,false,false,false,false,false,false,false,false,false,false,false,false,false,false,false,false,false] rfl rfl (take_ofW HT_.out HW_.out (by kernel_rfl)) (fun _ _ _ h => h) (Or.inl ⟨by rfl, ?_⟩) hHeld ?_ ?_
    rotate_left
    ·
     rintro w' ⟨s0, s1, s2, s3, s4, s5⟩
     go_simp
     with_reducible rfl
    rotate_left
    ·
     simp only [Act.put, List.setIfInBounds_toArray, List.set_cons_zero, List.set_cons_succ, i64_w, i32_w]
     rfl
    refine take_ (i := 23) (N := some 52) (v := ?_) (a' := ?_) #[true,true,true,true,true,true,true,true,true,true,true,true,true,true,true,true,true,true,true,true,true,true,true,true,false,false,false,false,false,false,false,false,false,false,false,false,false,false,false,false,false,false,false,false,false,false,false,false,false,false,false,false,false,false,false,false,false] rfl rfl (take_ofW HT_.out HW_.out (by kernel_rfl)) (fun _ _ _ h => h) (Or.inl ⟨by rfl, ?_⟩) hHeld ?_ ?_
    rotate_left
    ·
     rintro w' ⟨s0, s1, s2, s3, s4, s5⟩
     go_simp
     with_reducible rfl
    rotate_left
    ·
     simp only [Act.put, List.setIfInBounds_toArray, List.set_cons_zero, List.set_cons_succ, i64_w, i32_w]
     rfl
    refine take_ (i := 25) (N := some 54) (v := ?_) (a' := ?_) #[true,true,true,true,true,true,true,true,true,true,true,true,true,true,true,true,true,true,true,true,true,true,true,true,false,true,false,false,false,false,false,false,false,false,false,false,false,false,false,false,false,false,false,false,false,false,false,false,false,false,false,false,false,false,false,false,false] rfl rfl (take_ofW HT_.out HW_.out (by kernel_rfl)) (fun _ _ _ h => h) (Or.inl ⟨by rfl, ?_⟩) hHeld ?_ ?_
    rotate_left
    ·
     rintro w' ⟨s0, s1, s2, s3, s4, s5⟩
     go_simp
     with_reducible rfl
    rotate_left
    ·
     simp only [Act.put, List.setIfInBounds_toArray, List.set_cons_zero, List.set_cons_succ, i64_w, i32_w]
     rfl
    refine one_ (i := 24) (N := some 53) #[true,true,true,true,true,true,true,true,true,true,true,true,true,true,true,true,true,true,true,true,true,true,true,true,true,true,false,false,false,false,false,false,false,false,false,false,false,false,false,false,false,false,false,false,false,false,false,false,false,false,false,false,false,false,false,false,false] rfl rfl (one_of HT_.out (by kernel_rfl)) (by decide) (fun K hK => ?_)
    refine goes_ Tryd.func18 (by kernel_rfl) rfl #[.agg #[.int .i64 t110, .bool true], .agg #[.int .i64 ((rd_T26 t101 t104).f0), .bool ((rd_T26 t101 t104).f1)]] (by rfl) rfl rfl (by (try simp only [List.map_toArray, List.map_cons, List.map_nil]); first | done | rfl | (simp only [List.length_drop, List.length_take]; rfl)) ?_
    with_reducible refine (word_Usual.calls k t110 true ((rd_T26 t101 t104).f0) ((rd_T26 t101 t104).f1) t119 t120 _ A20.out).mono ?_
    rintro e w51 ⟨rfl, hb⟩
    refine ⟨_, rfl, ?_⟩
    have n0_ := Aside0.mk (Kd.R_below (by (with_reducible repeat (first | apply Kd.R_alloc | apply Kd.R_drewN | apply Kd.R_drew)); exact HO103.out) hb)
    have n1_ := Aside0.mk (blk_below (g := gb108) (o := .cells #[.int .i64 ((rd_T26 t101 t104).f0), .bool ((rd_T26 t101 t104).f1)] 26 (0, 0)) (by (with_reducible repeat (first | refine blk_drewN ?_ _ | refine blk_drew ?_ | refine blk_alloc ?_ _)); exact BK108.out) hb)
    have n2_ := Aside0.mk (blk_below (g := gb109) (o := .cells #[.int .i64 ((rd_T26 t101 t106).f0), .bool ((rd_T26 t101 t106).f1)] 26 (0, 0)) (by (with_reducible repeat (first | refine blk_drewN ?_ _ | refine blk_drew ?_ | refine blk_alloc ?_ _)); exact BK109.out) hb)
    have n3_ := Aside0.mk (blk_below (g := gb112) (o := .cells #[.int .i64 t110, .bool true] 26 (0, 0)) (by (with_reducible repeat (first | refine blk_drewN ?_ _ | refine blk_drew ?_ | refine blk_alloc ?_ _)); exact BK112.out) hb)
    have n4_ := Aside0.mk (below_step (by repeat (first | (with_reducible first | exact HB.out | apply below_alloc | apply pw_below_drewN | apply below_drew1 | refine below_set ?_ GE108.out | refine below_set ?_ GE109.out | refine below_set ?_ GE112.out) | exact HB.out)) hb)
    clear HO103
    clear BK108
    clear BK109
    clear BK112
    clear HB
    have HO103 := n0_
    have BK108 := n1_
    have BK109 := n2_
    have BK112 := n3_
    have HB := n4_
    clear n0_ n1_ n2_ n3_ n4_
    (try clear hb)
    (try clear hb2)
    (try clear hk)
    (try clear hi)
    refine hK.out _ _ ⟨(blk_cell BK112.out 0).trans rfl, (blk_cell BK112.out 1).trans rfl, (blk_cell BK109.out 0).trans rfl, (blk_cell BK109.out 1).trans rfl, (blk_cell BK108.out 0).trans rfl, (blk_cell BK108.out 1).trans rfl⟩ (fun hHeld => ?_)
    clear hK K
    refine norm_ (a' := ?_) ?_ ?_
    rotate_left
    ·
     show Act.put _ (some 53) _ = _
     simp only [Act.put, List.setIfInBounds_toArray, List.set_cons_zero, List.set_cons_succ, i64_w, i32_w]
     rfl
    refine pure_ (i := 26) (N := some 55) (v := ?_) (a' := ?_) #[true,true,true,true,true,true,true,true,true,true,true,true,true,true,true,true,true,true,true,true,true,true,true,true,true,true,true,false,false,false,false,false,false,false,false,false,false,false,false,false,false,false,false,false,false,false,false,false,false,false,false,false,false,false,false,false,false] rfl rfl (any_of HT_.out (by kernel_rfl)) (fun _ _ _ h => h) (Or.inl ⟨by rfl, ?_⟩) ?_ ?_
    rotate_left
    ·
     intro w'
     go_simp
     with_reducible rfl
    rotate_left
    ·
     simp only [Act.put, List.setIfInBounds_toArray, List.set_cons_zero, List.set_cons_succ, i64_w, i32_w]
     rfl
    refine pure_ (i := 27) (N := some 56) (v := ?_) (a' := ?_) #[true,true,true,true,true,true,true,true,true,true,true,true,true,true,true,true,true,true,true,true,true,true,true,true,true,true,true,true,false,false,false,false,false,false,false,false,false,false,false,false,false,false,false,false,false,false,false,false,false,false,false,false,false,false,false,false,false] rfl rfl (any_of HT_.out (by kernel_rfl)) (fun _ _ _ h => h) (Or.inl ⟨by rfl, ?_⟩) ?_ ?_
    rotate_left
    ·
     intro w'
     go_simp
     with_reducible rfl
    rotate_left
    ·
     simp only [Act.put, List.setIfInBounds_toArray, List.set_cons_zero, List.set_cons_succ, i64_w, i32_w]
     rfl
    refine pure_ (i := 28) (N := some 57) (v := ?_) (a' := ?_) #[true,true,true,true,true,true,true,true,true,true,true,true,true,true,true,true,true,true,true,true,true,true,true,true,true,true,true,true,true,false,false,false,false,false,false,false,false,false,false,false,false,false,false,false,false,false,false,false,false,false,false,false,false,false,false,false,false] rfl rfl (any_of HT_.out (by kernel_rfl)) (fun _ _ _ h => h) (Or.inl ⟨by rfl, ?_⟩) ?_ ?_
    rotate_left
    ·
     intro w'
     go_simp
     with_reducible rfl
    rotate_left
    ·
     simp only [Act.put, List.setIfInBounds_toArray, List.set_cons_zero, List.set_cons_succ, i64_w, i32_w]
     rfl
    refine pure_ (i := 29) (N := some 58) (v := ?_) (a' := ?_) #[true,true,true,true,true,true,true,true,true,true,true,true,true,true,true,true,true,true,true,true,true,true,true,true,true,true,true,true,true,true,false,false,false,false,false,false,false,false,false,false,false,false,false,false,false,false,false,false,false,false,false,false,false,false,false,false,false] rfl rfl (any_of HT_.out (by kernel_rfl)) (fun _ _ _ h => h) (Or.inl ⟨by rfl, ?_⟩) ?_ ?_
    rotate_left
    ·
     intro w'
     go_simp
     with_reducible rfl
    rotate_left
    ·
     simp only [Act.put, List.setIfInBounds_toArray, List.set_cons_zero, List.set_cons_succ, i64_w, i32_w]
     rfl
    refine pure_ (i := 31) (N := some 60) (v := ?_) (a' := ?_) #[true,true,true,true,true,true,true,true,true,true,true,true,true,true,true,true,true,true,true,true,true,true,true,true,true,true,true,true,true,true,false,true,false,false,false,false,false,false,false,false,false,false,false,false,false,false,false,false,false,false,false,false,false,false,false,false,false] rfl rfl (any_of HT_.out (by kernel_rfl)) (fun _ _ _ h => h) (Or.inl ⟨by rfl, ?_⟩) ?_ ?_
    rotate_left
    ·
     intro w'
     go_simp
     with_reducible rfl
    rotate_left
    ·
     simp only [Act.put, List.setIfInBounds_toArray, List.set_cons_zero, List.set_cons_succ, i64_w, i32_w]
     rfl
    refine take_ (i := 30) (N := some 59) (v := ?_) (a' := ?_) #[true,true,true,true,true,true,true,true,true,true,true,true,true,true,true,true,true,true,true,true,true,true,true,true,true,true,true,true,true,true,true,true,false,false,false,false,false,false,false,false,false,false,false,false,false,false,false,false,false,false,false,false,false,false,false,false,false] rfl rfl (take_ofW HT_.out HW_.out (by kernel_rfl)) (fun _ _ _ h => h) (Or.inl ⟨by rfl, ?_⟩) hHeld ?_ ?_
    rotate_left
    ·
     rintro w' ⟨s0, s1, s2, s3, s4, s5⟩
     go_simp
     with_reducible rfl
    rotate_left
    ·
     simp only [Act.put, List.setIfInBounds_toArray, List.set_cons_zero, List.set_cons_succ, i64_w, i32_w]
     rfl
    refine take_ (i := 32) (N := some 61) (v := ?_) (a' := ?_) #[true,true,true,true,true,true,true,true,true,true,true,true,true,true,true,true,true,true,true,true,true,true,true,true,true,true,true,true,true,true,true,true,true,false,false,false,false,false,false,false,false,false,false,false,false,false,false,false,false,false,false,false,false,false,false,false,false] rfl rfl (take_ofW HT_.out HW_.out (by kernel_rfl)) (fun _ _ _ h => h) (Or.inl ⟨by rfl, ?_⟩) hHeld ?_ ?_
    rotate_left
    ·
     rintro w' ⟨s0, s1, s2, s3, s4, s5⟩
     go_simp
     with_reducible rfl
    rotate_left
    ·
     simp only [Act.put, List.setIfInBounds_toArray, List.set_cons_zero, List.set_cons_succ, i64_w, i32_w]
     rfl
    refine pure_ (i := 33) (N := some 62) (v := ?_) (a' := ?_) #[true,true,true,true,true,true,true,true,true,true,true,true,true,true,true,true,true,true,true,true,true,true,true,true,true,true,true,true,true,true,true,true,true,true,false,false,false,false,false,false,false,false,false,false,false,false,false,false,false,false,false,false,false,false,false,false,false] rfl rfl (any_of HT_.out (by kernel_rfl)) (fun _ _ _ h => h) (Or.inl ⟨by rfl, ?_⟩) ?_ ?_
    rotate_left
    ·
     intro w'
     go_simp
     with_reducible rfl
    rotate_left
    ·
     simp only [Act.put, List.setIfInBounds_toArray, List.set_cons_zero, List.set_cons_succ, i64_w, i32_w]
     rfl
    refine pure_ (i := 34) (N := some 63) (v := ?_) (a' := ?_) #[true,true,true,true,true,true,true,true,true,true,true,true,true,true,true,true,true,true,true,true,true,true,true,true,true,true,true,true,true,true,true,true,true,true,true,false,false,false,false,false,false,false,false,false,false,false,false,false,false,false,false,false,false,false,false,false,false] rfl rfl (any_of HT_.out (by kernel_rfl)) (fun _ _ _ h => h) (Or.inl ⟨by rfl, ?_⟩) ?_ ?_
    rotate_left
    ·
     intro w'
     go_simp
     with_reducible rfl
    rotate_left
    ·
     simp only [Act.put, List.setIfInBounds_toArray, List.set_cons_zero, List.set_cons_succ, i64_w, i32_w]
     rfl
    refine pure_ (i := 35) (N := some 64) (v := ?_) (a' := ?_) #[true,true,true,true,true,true,true,true,true,true,true,true,true,true,true,true,true,true,true,true,true,true,true,true,true,true,true,true,true,true,true,true,true,true,true,true,false,false,false,false,false,false,false,false,false,false,false,false,false,false,false,false,false,false,false,false,false] rfl rfl (any_of HT_.out (by kernel_rfl)) (fun _ _ _ h => h) (Or.inl ⟨by rfl, ?_⟩) ?_ ?_
    rotate_left
    ·
     intro w'
     go_simp
     with_reducible rfl
    rotate_left
    ·
     simp only [Act.put, List.setIfInBounds_toArray, List.set_cons_zero, List.set_cons_succ, i64_w, i32_w]
     rfl
    refine pure_ (i := 36) (N := some 65) (v := ?_) (a' := ?_) #[true,true,true,true,true,true,true,true,true,true,true,true,true,true,true,true,true,true,true,true,true,true,true,true,true,true,true,true,true,true,true,true,true,true,true,true,true,false,false,false,false,false,false,false,false,false,false,false,false,false,false,false,false,false,false,false,false] rfl rfl (any_of HT_.out (by kernel_rfl)) (fun _ _ _ h => h) (Or.inl ⟨by rfl, ?_⟩) ?_ ?_
    rotate_left
    ·
     intro w'
     go_simp
     with_reducible rfl
    rotate_left
    ·
     simp only [Act.put, List.setIfInBounds_toArray, List.set_cons_zero, List.set_cons_succ, i64_w, i32_w]
     rfl
    refine take_ (i := 37) (N := some 66) (v := ?_) (a' := ?_) #[true,true,true,true,true,true,true,true,true,true,true,true,true,true,true,true,true,true,true,true,true,true,true,true,true,true,true,true,true,true,true,true,true,true,true,true,true,true,false,false,false,false,false,false,false,false,false,false,false,false,false,false,false,false,false,false,false] rfl rfl (take_ofW HT_.out HW_.out (by kernel_rfl)) (fun _ _ _ h => h) (Or.inl ⟨by rfl, ?_⟩) hHeld ?_ ?_
    rotate_left
    ·
     rintro w' ⟨s0, s1, s2, s3, s4, s5⟩
     go_simp
     with_reducible rfl
    rotate_left
    ·
     simp only [Act.put, List.setIfInBounds_toArray, List.set_cons_zero, List.set_cons_succ, i64_w, i32_w]
     rfl
    refine pure_ (i := 38) (N := some 67) (v := ?_) (a' := ?_) #[true,true,true,true,true,true,true,true,true,true,true,true,true,true,true,true,true,true,true,true,true,true,true,true,true,true,true,true,true,true,true,true,true,true,true,true,true,true,true,false,false,false,false,false,false,false,false,false,false,false,false,false,false,false,false,false,false] rfl rfl (any_of HT_.out (by kernel_rfl)) (fun _ _ _ h => h) (Or.inl ⟨by rfl, ?_⟩) ?_ ?_
    rotate_left
    ·
     intro w'
     go_simp
     with_reducible rfl
    rotate_left
    ·
     simp only [Act.put, List.setIfInBounds_toArray, List.set_cons_zero, List.set_cons_succ, i64_w, i32_w]
     rfl
    refine pure_ (i := 39) (N := some 68) (v := ?_) (a' := ?_) #[true,true,true,true,true,true,true,true,true,true,true,true,true,true,true,true,true,true,true,true,true,true,true,true,true,true,true,true,true,true,true,true,true,true,true,true,true,true,true,true,false,false,false,false,false,false,false,false,false,false,false,false,false,false,false,false,false] rfl rfl (any_of HT_.out (by kernel_rfl)) (fun _ _ _ h => h) (Or.inl ⟨by rfl, ?_⟩) ?_ ?_
    rotate_left
    ·
     intro w'
     go_simp
     with_reducible rfl
    rotate_left
    ·
     simp only [Act.put, List.setIfInBounds_toArray, List.set_cons_zero, List.set_cons_succ, i64_w, i32_w]
     rfl
    refine pure_ (i := 40) (N := some 69) (v := undef) (a' := ?_) #[true,true,true,true,true,true,true,true,true,true,true,true,true,true,true,true,true,true,true,true,true,true,true,true,true,true,true,true,true,true,true,true,true,true,true,true,true,true,true,true,true,false,false,false,false,false,false,false,false,false,false,false,false,false,false,false,false] rfl rfl (any_of HT_.out (by kernel_rfl)) (fun _ _ _ h => h) (Or.inr ⟨by rfl, rfl⟩) ?_ ?_
    rotate_left
    ·
     simp only [Act.put, List.setIfInBounds_toArray, List.set_cons_zero, List.set_cons_succ, i64_w, i32_w]
     rfl
    refine pure_ (i := 41) (N := some 70) (v := undef) (a' := ?_) #[true,true,true,true,true,true,true,true,true,true,true,true,true,true,true,true,true,true,true,true,true,true,true,true,true,true,true,true,true,true,true,true,true,true,true,true,true,true,true,true,true,true,false,false,false,false,false,false,false,false,false,false,false,false,false,false,false] rfl rfl (any_of HT_.out (by kernel_rfl)) (fun _ _ _ h => h) (Or.inr ⟨by rfl, rfl⟩) ?_ ?_
    rotate_left
    ·
     simp only [Act.put, List.setIfInBounds_toArray, List.set_cons_zero, List.set_cons_succ, i64_w, i32_w]
     rfl
    refine pure_ (i := 42) (N := some 71) (v := ?_) (a' := ?_) #[true,true,true,true,true,true,true,true,true,true,true,true,true,true,true,true,true,true,true,true,true,true,true,true,true,true,true,true,true,true,true,true,true,true,true,true,true,true,true,true,true,true,true,false,false,false,false,false,false,false,false,false,false,false,false,false,false] rfl rfl (any_of HT_.out (by kernel_rfl)) (fun _ _ _ h => h) (Or.inl ⟨by rfl, ?_⟩) ?_ ?_
    rotate_left
    ·
     intro w'
     go_simp
     with_reducible rfl
    rotate_left
    ·
     simp only [Act.put, List.setIfInBounds_toArray, List.set_cons_zero, List.set_cons_succ, i64_w, i32_w]
     rfl
    refine pure_ (i := 43) (N := some 72) (v := ?_) (a' := ?_) #[true,true,true,true,true,true,true,true,true,true,true,true,true,true,true,true,true,true,true,true,true,true,true,true,true,true,true,true,true,true,true,true,true,true,true,true,true,true,true,true,true,true,true,true,false,false,false,false,false,false,false,false,false,false,false,false,false] rfl rfl (any_of HT_.out (by kernel_rfl)) (fun _ _ _ h => h) (Or.inl ⟨by rfl, ?_⟩) ?_ ?_
    rotate_left
    ·
     intro w'
     go_simp
     with_reducible rfl
    rotate_left
    ·
     simp only [Act.put, List.setIfInBounds_toArray, List.set_cons_zero, List.set_cons_succ, i64_w, i32_w]
     rfl
    refine pure_ (i := 44) (N := some 73) (v := undef) (a' := ?_) #[true,true,true,true,true,true,true,true,true,true,true,true,true,true,true,true,true,true,true,true,true,true,true,true,true,true,true,true,true,true,true,true,true,true,true,true,true,true,true,true,true,true,true,true,true,false,false,false,false,false,false,false,false,false,false,false,false] rfl rfl (any_of HT_.out (by kernel_rfl)) (fun _ _ _ h => h) (Or.inr ⟨by rfl, rfl⟩) ?_ ?_
    rotate_left
    ·
     simp only [Act.put, List.setIfInBounds_toArray, List.set_cons_zero, List.set_cons_succ, i64_w, i32_w]
     rfl
    refine pure_ (i := 45) (N := some 74) (v := undef) (a' := ?_) #[true,true,true,true,true,true,true,true,true,true,true,true,true,true,true,true,true,true,true,true,true,true,true,true,true,true,true,true,true,true,true,true,true,true,true,true,true,true,true,true,true,true,true,true,true,true,false,false,false,false,false,false,false,false,false,false,false] rfl rfl (any_of HT_.out (by kernel_rfl)) (fun _ _ _ h => h) (Or.inr ⟨by rfl, rfl⟩) ?_ ?_
    rotate_left
    ·
     simp only [Act.put, List.setIfInBounds_toArray, List.set_cons_zero, List.set_cons_succ, i64_w, i32_w]
     rfl
    refine pure_ (i := 46) (N := some 75) (v := ?_) (a' := ?_) #[true,true,true,true,true,true,true,true,true,true,true,true,true,true,true,true,true,true,true,true,true,true,true,true,true,true,true,true,true,true,true,true,true,true,true,true,true,true,true,true,true,true,true,true,true,true,true,false,false,false,false,false,false,false,false,false,false] rfl rfl (any_of HT_.out (by kernel_rfl)) (fun _ _ _ h => h) (Or.inl ⟨by rfl, ?_⟩) ?_ ?_
    rotate_left
    ·
     intro w'
     go_simp
     with_reducible rfl
    rotate_left
    ·
     simp only [Act.put, List.setIfInBounds_toArray, List.set_cons_zero, List.set_cons_succ, i64_w, i32_w]
     rfl
    refine pure_ (i := 47) (N := some 76) (v := ?_) (a' := ?_) #[true,true,true,true,true,true,true,true,true,true,true,true,true,true,true,true,true,true,true,true,true,true,true,true,true,true,true,true,true,true,true,true,true,true,true,true,true,true,true,true,true,true,true,true,true,true,true,true,false,false,false,false,false,false,false,false,false] rfl rfl (any_of HT_.out (by kernel_rfl)) (fun _ _ _ h => h) (Or.inl ⟨by rfl, ?_⟩) ?_ ?_
    rotate_left
    ·
     intro w'
     go_simp
     with_reducible rfl
    rotate_left
    ·
     simp only [Act.put, List.setIfInBounds_toArray, List.set_cons_zero, List.set_cons_succ, i64_w, i32_w]
     rfl
    refine pure_ (i := 49) (N := some 78) (v := ?_) (a' := ?_) #[true,true,true,true,true,true,true,true,true,true,true,true,true,true,true,true,true,true,true,true,true,true,true,true,true,true,true,true,true,true,true,true,true,true,true,true,true,true,true,true,true,true,true,true,true,true,true,true,false,true,false,false,false,false,false,false,false] rfl rfl (any_of HT_.out (by kernel_rfl)) (fun _ _ _ h => h) (Or.inl ⟨by rfl, ?_⟩) ?_ ?_
    rotate_left
    ·
     intro w'
     go_simp
     with_reducible rfl
    rotate_left
    ·
     simp only [Act.put, List.setIfInBounds_toArray, List.set_cons_zero, List.set_cons_succ, i64_w, i32_w]
     rfl
    refine take_ (i := 48) (N := some 77) (v := ?_) (a' := ?_) #[true,true,true,true,true,true,true,true,true,true,true,true,true,true,true,true,true,true,true,true,true,true,true,true,true,true,true,true,true,true,true,true,true,true,true,true,true,true,true,true,true,true,true,true,true,true,true,true,true,true,false,false,false,false,false,false,false] rfl rfl (take_ofW HT_.out HW_.out (by kernel_rfl)) (fun _ _ _ h => h) (Or.inl ⟨by rfl, ?_⟩) hHeld ?_ ?_
    rotate_left
    ·
     rintro w' ⟨s0, s1, s2, s3, s4, s5⟩
     go_simp
     with_reducible rfl
    rotate_left
    ·
     simp only [Act.put, List.setIfInBounds_toArray, List.set_cons_zero, List.set_cons_succ, i64_w, i32_w]
     rfl
    refine one_ (i := 50) (N := some 79) #[true,true,true,true,true,true,true,true,true,true,true,true,true,true,true,true,true,true,true,true,true,true,true,true,true,true,true,true,true,true,true,true,true,true,true,true,true,true,true,true,true,true,true,true,true,true,true,true,true,true,true,false,false,false,false,false,false] rfl rfl (one_of HT_.out (by kernel_rfl)) (by decide) (fun K hK => ?_)
    refine goes_ Tryd.func12 (by kernel_rfl) rfl #[.agg #[.int .i64 t110, .bool true], .int .i64 t113] (by rfl) rfl rfl (by (try simp only [List.map_toArray, List.map_cons, List.map_nil]); first | done | rfl | (simp only [List.length_drop, List.length_take]; rfl)) ?_
    with_reducible refine (word_Is.calls t110 true t113 true _ A24.out).mono ?_
    rintro e w52 ⟨rfl, hb⟩
    refine ⟨_, rfl, ?_⟩
    have n0_ := Aside0.mk (Kd.R_below (by (with_reducible repeat (first | apply Kd.R_alloc | apply Kd.R_drewN | apply Kd.R_drew)); exact HO103.out) hb)
    have n1_ := Aside0.mk (blk_below (g := gb108) (o := .cells #[.int .i64 ((rd_T26 t101 t104).f0), .bool ((rd_T26 t101 t104).f1)] 26 (0, 0)) (by (with_reducible repeat (first | refine blk_drewN ?_ _ | refine blk_drew ?_ | refine blk_alloc ?_ _)); exact BK108.out) hb)
    have n2_ := Aside0.mk (blk_below (g := gb109) (o := .cells #[.int .i64 ((rd_T26 t101 t106).f0), .bool ((rd_T26 t101 t106).f1)] 26 (0, 0)) (by (with_reducible repeat (first | refine blk_drewN ?_ _ | refine blk_drew ?_ | refine blk_alloc ?_ _)); exact BK109.out) hb)
    have n3_ := Aside0.mk (blk_below (g := gb112) (o := .cells #[.int .i64 t110, .bool true] 26 (0, 0)) (by (with_reducible repeat (first | refine blk_drewN ?_ _ | refine blk_drew ?_ | refine blk_alloc ?_ _)); exact BK112.out) hb)
    have n4_ := Aside0.mk (below_step (by repeat (first | (with_reducible first | exact HB.out | apply below_alloc | apply pw_below_drewN | apply below_drew1 | refine below_set ?_ GE108.out | refine below_set ?_ GE109.out | refine below_set ?_ GE112.out) | exact HB.out)) hb)
    clear HO103
    clear BK108
    clear BK109
    clear BK112
    clear HB
    have HO103 := n0_
    have BK108 := n1_
    have BK109 := n2_
    have BK112 := n3_
    have HB := n4_
    clear n0_ n1_ n2_ n3_ n4_
    (try clear hb)
    (try clear hb2)
    (try clear hk)
    (try clear hi)
    refine hK.out _ _ ⟨(blk_cell BK112.out 0).trans rfl, (blk_cell BK112.out 1).trans rfl, (blk_cell BK109.out 0).trans rfl, (blk_cell BK109.out 1).trans rfl, (blk_cell BK108.out 0).trans rfl, (blk_cell BK108.out 1).trans rfl⟩ (fun hHeld => ?_)
    clear hK K
    refine norm_ (a' := ?_) ?_ ?_
    rotate_left
    ·
     show Act.put _ (some 79) _ = _
     simp only [Act.put, List.setIfInBounds_toArray, List.set_cons_zero, List.set_cons_succ, i64_w, i32_w]
     rfl
    refine pure_ (i := 51) (N := some 80) (v := ?_) (a' := ?_) #[true,true,true,true,true,true,true,true,true,true,true,true,true,true,true,true,true,true,true,true,true,true,true,true,true,true,true,true,true,true,true,true,true,true,true,true,true,true,true,true,true,true,true,true,true,true,true,true,true,true,true,true,false,false,false,false,false] rfl rfl (any_of HT_.out (by kernel_rfl)) (fun _ _ _ h => h) (Or.inl ⟨by rfl, ?_⟩) ?_ ?_
    rotate_left
    ·
     intro w'
     go_simp
     with_reducible rfl
    rotate_left
    ·
     simp only [Act.put, List.setIfInBounds_toArray, List.set_cons_zero, List.set_cons_succ, i64_w, i32_w]
     rfl
    refine pure_ (i := 52) (N := some 81) (v := ?_) (a' := ?_) #[true,true,true,true,true,true,true,true,true,true,true,true,true,true,true,true,true,true,true,true,true,true,true,true,true,true,true,true,true,true,true,true,true,true,true,true,true,true,true,true,true,true,true,true,true,true,true,true,true,true,true,true,true,false,false,false,false] rfl rfl (any_of HT_.out (by kernel_rfl)) (fun _ _ _ h => h) (Or.inl ⟨by rfl, ?_⟩) ?_ ?_
    rotate_left
    ·
     intro w'
     go_simp
     with_reducible rfl
    rotate_left
    ·
     simp only [Act.put, List.setIfInBounds_toArray, List.set_cons_zero, List.set_cons_succ, i64_w, i32_w]
     rfl
    refine pure_ (i := 53) (N := some 82) (v := ?_) (a' := ?_) #[true,true,true,true,true,true,true,true,true,true,true,true,true,true,true,true,true,true,true,true,true,true,true,true,true,true,true,true,true,true,true,true,true,true,true,true,true,true,true,true,true,true,true,true,true,true,true,true,true,true,true,true,true,true,false,false,false] rfl rfl (any_of HT_.out (by kernel_rfl)) (fun _ _ _ h => h) (Or.inl ⟨by rfl, ?_⟩) ?_ ?_
    rotate_left
    ·
     intro w'
     go_simp
     with_reducible rfl
    rotate_left
    ·
     simp only [Act.put, List.setIfInBounds_toArray, List.set_cons_zero, List.set_cons_succ, i64_w, i32_w]
     rfl
    refine one_ (i := 54) (N := some 83) #[true,true,true,true,true,true,true,true,true,true,true,true,true,true,true,true,true,true,true,true,true,true,true,true,true,true,true,true,true,true,true,true,true,true,true,true,true,true,true,true,true,true,true,true,true,true,true,true,true,true,true,true,true,true,true,false,false] rfl rfl (one_of HT_.out (by kernel_rfl)) (by decide) (fun K hK => ?_)
    refine goes_ Tryd.func16 (by kernel_rfl) rfl #[] (by rfl) rfl rfl (by (try simp only [List.map_toArray, List.map_cons, List.map_nil]); first | done | rfl | (simp only [List.length_drop, List.length_take]; rfl)) ?_
    with_reducible refine (spokeshavelaw1_awakeB.calls k  t122 _ A26.out).mono ?_
    rintro e w53 ⟨rfl, hb⟩
    refine ⟨_, rfl, ?_⟩
    have n0_ := Aside0.mk (Kd.R_below (by (with_reducible repeat (first | apply Kd.R_alloc | apply Kd.R_drewN | apply Kd.R_drew)); exact HO103.out) hb)
    have n1_ := Aside0.mk (blk_below (g := gb108) (o := .cells #[.int .i64 ((rd_T26 t101 t104).f0), .bool ((rd_T26 t101 t104).f1)] 26 (0, 0)) (by (with_reducible repeat (first | refine blk_drewN ?_ _ | refine blk_drew ?_ | refine blk_alloc ?_ _)); exact BK108.out) hb)
    have n2_ := Aside0.mk (blk_below (g := gb109) (o := .cells #[.int .i64 ((rd_T26 t101 t106).f0), .bool ((rd_T26 t101 t106).f1)] 26 (0, 0)) (by (with_reducible repeat (first | refine blk_drewN ?_ _ | refine blk_drew ?_ | refine blk_alloc ?_ _)); exact BK109.out) hb)
    have n3_ := Aside0.mk (blk_below (g := gb112) (o := .cells #[.int .i64 t110, .bool true] 26 (0, 0)) (by (with_reducible repeat (first | refine blk_drewN ?_ _ | refine blk_drew ?_ | refine blk_alloc ?_ _)); exact BK112.out) hb)
    have n4_ := Aside0.mk (below_step (by repeat (first | (with_reducible first | exact HB.out | apply below_alloc | apply pw_below_drewN | apply below_drew1 | refine below_set ?_ GE108.out | refine below_set ?_ GE109.out | refine below_set ?_ GE112.out) | exact HB.out)) hb)
    clear HO103
    clear BK108
    clear BK109
    clear BK112
    clear HB
    have HO103 := n0_
    have BK108 := n1_
    have BK109 := n2_
    have BK112 := n3_
    have HB := n4_
    clear n0_ n1_ n2_ n3_ n4_
    (try clear hb)
    (try clear hb2)
    (try clear hk)
    (try clear hi)
    refine hK.out _ _ ⟨(blk_cell BK112.out 0).trans rfl, (blk_cell BK112.out 1).trans rfl, (blk_cell BK109.out 0).trans rfl, (blk_cell BK109.out 1).trans rfl, (blk_cell BK108.out 0).trans rfl, (blk_cell BK108.out 1).trans rfl⟩ (fun hHeld => ?_)
    clear hK K
    refine norm_ (a' := ?_) ?_ ?_
    rotate_left
    ·
     show Act.put _ (some 83) _ = _
     simp only [Act.put, List.setIfInBounds_toArray, List.set_cons_zero, List.set_cons_succ, i64_w, i32_w]
     rfl
    refine pure_ (i := 55) (N := some 84) (v := ?_) (a' := ?_) #[true,true,true,true,true,true,true,true,true,true,true,true,true,true,true,true,true,true,true,true,true,true,true,true,true,true,true,true,true,true,true,true,true,true,true,true,true,true,true,true,true,true,true,true,true,true,true,true,true,true,true,true,true,true,true,true,false] rfl rfl (any_of HT_.out (by kernel_rfl)) (fun _ _ _ h => h) (Or.inl ⟨by rfl, ?_⟩) ?_ ?_
    rotate_left
    ·
     intro w'
     go_simp
     with_reducible rfl
    rotate_left
    ·
     simp only [Act.put, List.setIfInBounds_toArray, List.set_cons_zero, List.set_cons_succ, i64_w, i32_w]
     rfl
    refine pure_ (i := 56) (N := some 6) (v := ?_) (a' := ?_) #[true,true,true,true,true,true,true,true,true,true,true,true,true,true,true,true,true,true,true,true,true,true,true,true,true,true,true,true,true,true,true,true,true,true,true,true,true,true,true,true,true,true,true,true,true,true,true,true,true,true,true,true,true,true,true,true,true] rfl rfl (any_of HT_.out (by kernel_rfl)) (fun _ _ _ h => h) (Or.inl ⟨by rfl, ?_⟩) ?_ ?_
    rotate_left
    ·
     intro w'
     go_simp
     with_reducible rfl
    rotate_left
    ·
     simp only [Act.put, List.setIfInBounds_toArray, List.set_cons_zero, List.set_cons_succ, i64_w, i32_w]
     rfl
    refine done_ (done_of HT_.out (by kernel_rfl)) ?_
    try go_wp2
    go_ret
    exact ⟨by first | rfl | (simp [errW_none, errW_some] <;> rfl) | (simp [*, errW_none, errW_some] <;> rfl), by repeat (first | (with_reducible first | exact HB.out | apply below_alloc | apply pw_below_drewN | apply below_drew1 | refine below_set ?_ GE108.out | refine below_set ?_ GE109.out | refine below_set ?_ GE112.out) | exact HB.out)⟩
   ·
    replace c25 := Bool.eq_false_iff.mpr c25
    subst c25
    (try simp only [Bool.true_beq, beq_true, Bool.false_beq, beq_false] at c17b0)
    (try simp only [Bool.true_beq, beq_true, Bool.false_beq, beq_false] at c19b0)
    (try simp only [Bool.true_beq, beq_true, Bool.false_beq, beq_false] at c21b0)
    have H1 : (none) = some r := by rw [if_neg (show ¬ (false = true) by decide)] at H; exact H
    clear H
    have H := H1
    clear H1
    exact absurd H (by simp)
  ·
   replace c23 := Bool.eq_false_iff.mpr c23
   subst c23
   (try simp only [Bool.true_beq, beq_true, Bool.false_beq, beq_false] at c17b0)
   (try simp only [Bool.true_beq, beq_true, Bool.false_beq, beq_false] at c19b0)
   (try simp only [Bool.true_beq, beq_true, Bool.false_beq, beq_false] at c21b0)
   have H1 : (if t113 < 0 then (if (rd_T26 t101 t104).f1 = true then ((spokeshavelaw1_awakeB.f k).bind fun t123 => (none)) else ((word_Is.f t110 false t113).bind fun t124 => (if t124 = true then ((spokeshavelaw1_awakeB.f k).bind fun t125 => (none)) else (none)))) else ((word_Is.f t110 false t113).bind fun t126 => (if t126 = true then ((spokeshavelaw1_awakeB.f k).bind fun t127 => (none)) else (none)))) = some r := by rw [if_neg (show ¬ (false = true) by decide)] at H; exact H
   clear H
   have H := H1
   clear H1
   by_cases c54 : t113 < 0
   ·
    rw [if_pos c54] at H
    have c54b0 : decide (t113 < 0) = true := decide_eq_true c54
    clear c54
    obtain ⟨bq55, hbq55⟩ : ∃ b_ : Bool, b_ = ((rd_T26 t101 t104).f1) := ⟨_, rfl⟩
    replace H : (if bq55 = true then ((spokeshavelaw1_awakeB.f k).bind fun t123 => (none)) else ((word_Is.f t110 false t113).bind fun t124 => (if t124 = true then ((spokeshavelaw1_awakeB.f k).bind fun t125 => (none)) else (none)))) = some r := by rw [← hbq55] at H; exact H
    have Nbq55 := Aside0.mk hbq55
    clear hbq55
    by_cases c56 : bq55 = true
    ·
     subst c56
     (try simp only [Bool.true_beq, beq_true, Bool.false_beq, beq_false] at c17b0)
     (try simp only [Bool.true_beq, beq_true, Bool.false_beq, beq_false] at c19b0)
     (try simp only [Bool.true_beq, beq_true, Bool.false_beq, beq_false] at c21b0)
     (try rw [← Nbq55.out] at A4)
     (try rw [← Nbq55.out] at A5)
     (try rw [← Nbq55.out] at A8)
     (try rw [← Nbq55.out] at A11)
     (try rw [← Nbq55.out] at A12)
     (try rw [← Nbq55.out] at A13)
     (try rw [← Nbq55.out] at A16)
     (try rw [← Nbq55.out] at A18)
     (try rw [← Nbq55.out] at A20)
     (try rw [← Nbq55.out] at A24)
     (try rw [← Nbq55.out] at A26)
     have H1 : ((spokeshavelaw1_awakeB.f k).bind fun t123 => (none)) = some r := by rw [if_pos rfl] at H; exact H
     clear H
     have H := H1
     clear H1
     replace H := Option.bind_eq_some_iff.mp H
     obtain ⟨t123, A570, H⟩ := H
     replace H : (none) = some r := H
     have A57 := Aside0.mk A570
     clear A570
     exact absurd H (by simp)
    ·
     replace c56 := Bool.eq_false_iff.mpr c56
     subst c56
     (try simp only [Bool.true_beq, beq_true, Bool.false_beq, beq_false] at c17b0)
     (try simp only [Bool.true_beq, beq_true, Bool.false_beq, beq_false] at c19b0)
     (try simp only [Bool.true_beq, beq_true, Bool.false_beq, beq_false] at c21b0)
     (try rw [← Nbq55.out] at A4)
     (try rw [← Nbq55.out] at A5)
     (try rw [← Nbq55.out] at A8)
     (try rw [← Nbq55.out] at A11)
     (try rw [← Nbq55.out] at A12)
     (try rw [← Nbq55.out] at A13)
     (try rw [← Nbq55.out] at A16)
     (try rw [← Nbq55.out] at A18)
     (try rw [← Nbq55.out] at A20)
     (try rw [← Nbq55.out] at A24)
     (try rw [← Nbq55.out] at A26)
     (try rw [← Nbq55.out] at A57)
     have H1 : ((word_Is.f t110 false t113).bind fun t124 => (if t124 = true then ((spokeshavelaw1_awakeB.f k).bind fun t125 => (none)) else (none))) = some r := by rw [if_neg (show ¬ (false = true) by decide)] at H; exact H
     clear H
     have H := H1
     clear H1
     replace H := Option.bind_eq_some_iff.mp H
     obtain ⟨t124, A580, H⟩ := H
     replace H : (if t124 = true then ((spokeshavelaw1_awakeB.f k).bind fun t125 => (none)) else (none)) = some r := H
     have A58 := Aside0.mk A580
     clear A580
     by_cases c59 : t124 = true
     ·
      subst c59
      (try simp only [Bool.true_beq, beq_true, Bool.false_beq, beq_false] at c17b0)
      (try simp only [Bool.true_beq, beq_true, Bool.false_beq, beq_false] at c19b0)
      (try simp only [Bool.true_beq, beq_true, Bool.false_beq, beq_false] at c21b0)
      (try rw [← Nbq55.out] at A4)
      (try rw [← Nbq55.out] at A5)
      (try rw [← Nbq55.out] at A8)
      (try rw [← Nbq55.out] at A11)
      (try rw [← Nbq55.out] at A12)
      (try rw [← Nbq55.out] at A13)
      (try rw [← Nbq55.out] at A16)
      (try rw [← Nbq55.out] at A18)
      (try rw [← Nbq55.out] at A20)
      (try rw [← Nbq55.out] at A24)
      (try rw [← Nbq55.out] at A26)
      (try rw [← Nbq55.out] at A57)
      (try rw [← Nbq55.out] at A58)
      have H1 : ((spokeshavelaw1_awakeB.f k).bind fun t125 => (none)) = some r := by rw [if_pos rfl] at H; exact H
      clear H
      have H := H1
      clear H1
      replace H := Option.bind_eq_some_iff.mp H
      obtain ⟨t125, A600, H⟩ := H
      replace H : (none) = some r := H
      have A60 := Aside0.mk A600
      clear A600
      exact absurd H (by simp)
     ·
      replace c59 := Bool.eq_false_iff.mpr c59
      subst c59
      (try simp only [Bool.true_beq, beq_true, Bool.false_beq, beq_false] at c17b0)
      (try simp only [Bool.true_beq, beq_true, Bool.false_beq, beq_false] at c19b0)
      (try simp only [Bool.true_beq, beq_true, Bool.false_beq, beq_false] at c21b0)
      (try rw [← Nbq55.out] at A4)
      (try rw [← Nbq55.out] at A5)
      (try rw [← Nbq55.out] at A8)
      (try rw [← Nbq55.out] at A11)
      (try rw [← Nbq55.out] at A12)
      (try rw [← Nbq55.out] at A13)
      (try rw [← Nbq55.out] at A16)
      (try rw [← Nbq55.out] at A18)
      (try rw [← Nbq55.out] at A20)
      (try rw [← Nbq55.out] at A24)
      (try rw [← Nbq55.out] at A26)
      (try rw [← Nbq55.out] at A57)
      (try rw [← Nbq55.out] at A58)
      (try rw [← Nbq55.out] at A60)
      have H1 : (none) = some r := by rw [if_neg (show ¬ (false = true) by decide)] at H; exact H
      clear H
      have H := H1
      clear H1
      exact absurd H (by simp)
   ·
    rw [if_neg c54] at H
    have c54b0 : decide (t113 < 0) = false := decide_eq_false c54
    clear c54
    replace H := Option.bind_eq_some_iff.mp H
    obtain ⟨t126, A610, H⟩ := H
    replace H : (if t126 = true then ((spokeshavelaw1_awakeB.f k).bind fun t127 => (none)) else (none)) = some r := H
    have A61 := Aside0.mk A610
    clear A610
    by_cases c62 : t126 = true
    ·
     subst c62
     (try simp only [Bool.true_beq, beq_true, Bool.false_beq, beq_false] at c17b0)
     (try simp only [Bool.true_beq, beq_true, Bool.false_beq, beq_false] at c19b0)
     (try simp only [Bool.true_beq, beq_true, Bool.false_beq, beq_false] at c21b0)
     (try rw [← Nbq55.out] at A4)
     (try rw [← Nbq55.out] at A5)
     (try rw [← Nbq55.out] at A8)
     (try rw [← Nbq55.out] at A11)
     (try rw [← Nbq55.out] at A12)
     (try rw [← Nbq55.out] at A13)
     (try rw [← Nbq55.out] at A16)
     (try rw [← Nbq55.out] at A18)
     (try rw [← Nbq55.out] at A20)
     (try rw [← Nbq55.out] at A24)
     (try rw [← Nbq55.out] at A26)
     (try rw [← Nbq55.out] at A57)
     (try rw [← Nbq55.out] at A58)
     (try rw [← Nbq55.out] at A60)
     (try rw [← Nbq55.out] at A61)
     have H1 : ((spokeshavelaw1_awakeB.f k).bind fun t127 => (none)) = some r := by rw [if_pos rfl] at H; exact H
     clear H
     have H := H1
     clear H1
     replace H := Option.bind_eq_some_iff.mp H
     obtain ⟨t127, A630, H⟩ := H
     replace H : (none) = some r := H
     have A63 := Aside0.mk A630
     clear A630
     exact absurd H (by simp)
    ·
     replace c62 := Bool.eq_false_iff.mpr c62
     subst c62
     (try simp only [Bool.true_beq, beq_true, Bool.false_beq, beq_false] at c17b0)
     (try simp only [Bool.true_beq, beq_true, Bool.false_beq, beq_false] at c19b0)
     (try simp only [Bool.true_beq, beq_true, Bool.false_beq, beq_false] at c21b0)
     (try rw [← Nbq55.out] at A4)
     (try rw [← Nbq55.out] at A5)
     (try rw [← Nbq55.out] at A8)
     (try rw [← Nbq55.out] at A11)
     (try rw [← Nbq55.out] at A12)
     (try rw [← Nbq55.out] at A13)
     (try rw [← Nbq55.out] at A16)
     (try rw [← Nbq55.out] at A18)
     (try rw [← Nbq55.out] at A20)
     (try rw [← Nbq55.out] at A24)
     (try rw [← Nbq55.out] at A26)
     (try rw [← Nbq55.out] at A57)
     (try rw [← Nbq55.out] at A58)
     (try rw [← Nbq55.out] at A60)
     (try rw [← Nbq55.out] at A61)
     (try rw [← Nbq55.out] at A63)
     have H1 : (none) = some r := by rw [if_neg (show ¬ (false = true) by decide)] at H; exact H
     clear H
     have H := H1
     clear H1
     exact absurd H (by simp)
 ·
  replace c14 := Bool.eq_false_iff.mpr c14
  subst c14
  (try simp only [Bool.true_beq, beq_true, Bool.false_beq, beq_false] at c17b0)
  (try simp only [Bool.true_beq, beq_true, Bool.false_beq, beq_false] at c19b0)
  (try simp only [Bool.true_beq, beq_true, Bool.false_beq, beq_false] at c21b0)
  (try rw [← Nbq55.out] at A4)
  (try rw [← Nbq55.out] at A5)
  (try rw [← Nbq55.out] at A8)
  (try rw [← Nbq55.out] at A11)
  (try rw [← Nbq55.out] at A12)
  (try rw [← Nbq55.out] at A13)
  (try rw [← Nbq55.out] at A16)
  (try rw [← Nbq55.out] at A18)
  (try rw [← Nbq55.out] at A20)
  (try rw [← Nbq55.out] at A24)
  (try rw [← Nbq55.out] at A26)
  (try rw [← Nbq55.out] at A57)
  (try rw [← Nbq55.out] at A58)
  (try rw [← Nbq55.out] at A60)
  (try rw [← Nbq55.out] at A61)
  (try rw [← Nbq55.out] at A63)
  have H1 : (none) = some r := by rw [if_neg (show ¬ (false = true) by decide)] at H; exact H
  clear H
  have H := H1
  clear H1
  exact absurd H (by simp)

/-- THE ONE PURE STATEMENT of spokeshavelaw1_WordUsualA: yours. -/
def spokeshavelaw1_WordUsualA.Pure : Prop := ∀ (a0 : Int) (a1 : Int) (a2 : Int), (Lit.int .i64 a0).wf = true → (Lit.int .i64 a1).wf = true → (Lit.int .i64 a2).wf = true → ∃ k, spokeshavelaw1_WordUsualA.f k a0 a1 a2 = some true
theorem spokeshavelaw1_WordUsualA.walk (P : spokeshavelaw1_WordUsualA.Pure) (a0 : Int) (a1 : Int) (a2 : Int) (w : World) (w0 : (Lit.int .i64 a0).wf = true) (w1 : (Lit.int .i64 a1).wf = true) (w2 : (Lit.int .i64 a2).wf = true) :
  Calls Tryd.prog 5 #[.int .i64 a0, .int .i64 a1, .int .i64 a2] w fun e w' => e = .returned (.bool true) ∧ Below w.heap.size w w' := by
 obtain ⟨k, h⟩ := P a0 a1 a2 w0 w1 w2
 refine (spokeshavelaw1_WordUsualA.calls k a0 a1 a2 true w h).mono ?_
 rintro e w' ⟨rfl, hd⟩
 exact ⟨rfl, hd⟩

end Go.Proofs.YthkcdmkimnockaaDoor.PWord
