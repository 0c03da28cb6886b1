-- PRINTED by print.py (a twelfth state) out of the translation. Not trusted: Lean checks it.
import Derived.Test.YtiljijckfkphhaaDoorPLexx0
import Derived.Test.YtiljijckfkphhaaDoorPLexx2
import Derived.Test.YtiljijckfkphhaaDoorLxSl
namespace Go.Proofs.YtiljijckfkphhaaDoor.PLex
open Go.RowKit Go.Proofs.YtiljijckfkphhaaDoorW.PrintWords Go.Proofs.YtiljijckfkphhaaDoorW.PrintLast Go.Proofs.YtiljijckfkphhaaDoorW.PrintMore
attribute [local go_sem] max2_int min2_int max_two min_two max_three min_three max_four min_four   -- for this text's walks alone
set_option linter.unusedVariables false
set_option linter.unusedSimpArgs false

/-! ### lex_reader_number: function 28 -/
mutual
def lex_reader_number.j0 : Nat → ByteArray → Int → Int → ByteArray → Int → Int → Int → ByteArray → ByteArray → Int → Bool → Option (Int × Int × ByteArray × ByteArray × Int × Bool × Int × ByteArray × Int)
 | 0, _, _, _, _, _, _, _, _, _, _, _ => none
 | k + 1, x4, x6, x7, x1000, x1001, x114000, x114001, x114002, x114003, x114004, x114005 => lex_reader_number.l0 k x4 x6 x7 0 false x1000 x1001 x114000 x114001 x114002 x114003 x114004 x114005
def lex_reader_number.j2 : Nat → ByteArray → Int → Int → Bool → ByteArray → Int → Int → Int → ByteArray → ByteArray → Int → Bool → Option (Int × Int × ByteArray × ByteArray × Int × Bool × Int × ByteArray × Int)
 | 0, _, _, _, _, _, _, _, _, _, _, _, _ => none
 | k + 1, x4, x7, x8, x9, x1000, x1001, x114000, x114001, x114002, x114003, x114004, x114005 => (some (([(⟨#[117, 108]⟩ : ByteArray), (⟨#[117]⟩ : ByteArray), (⟨#[108]⟩ : ByteArray)] : List ByteArray) : List ByteArray)).bind fun y119 => (lex_reader_number.l1 k x4 x7 x8 x9 y119 (y119.length : Int) 0 x1000 x1001 x114000 x114001 x114002 x114003 x114004 x114005)
def lex_reader_number.j4 : Nat → ByteArray → Int → Int → Bool → ByteArray → Int → Int → Int → ByteArray → ByteArray → Int → Bool → Option (Int × Int × ByteArray × ByteArray × Int × Bool × Int × ByteArray × Int)
 | 0, _, _, _, _, _, _, _, _, _, _, _, _ => none
 | k + 1, x4, x7, x8, x9, x1000, x1001, x114000, x114001, x114002, x114003, x114004, x114005 => if x8 = 0 then (lex_reader_number.j5 k x4 x7 x9 true x1000 x1001 x114000 x114001 x114002 x114003 x114004 x114005) else (if x7 < (x4.size : Int) then (if 0 ≤ x7 then ((lex_part.f (bt x4 x7)).bind fun t124 => (lex_reader_number.j5 k x4 x7 x9 t124 x1000 x1001 x114000 x114001 x114002 x114003 x114004 x114005)) else (none)) else (lex_reader_number.j5 k x4 x7 x9 false x1000 x1001 x114000 x114001 x114002 x114003 x114004 x114005))
def lex_reader_number.j5 : Nat → ByteArray → Int → Bool → Bool → ByteArray → Int → Int → Int → ByteArray → ByteArray → Int → Bool → Option (Int × Int × ByteArray × ByteArray × Int × Bool × Int × ByteArray × Int)
 | 0, _, _, _, _, _, _, _, _, _, _, _, _ => none
 | k + 1, x4, x7, x9, x100, x1000, x1001, x114000, x114001, x114002, x114003, x114004, x114005 => if x100 = true then (some (x114000, x114001, x114002, x114003, x114004, x114005, 3, x1000, x1001)) else (if x9 = true then (some (x114000, x114001, x114002, x114003, x114004, x114005, 6, x1000, x1001)) else (if 0 ≤ x7 then (if x7 ≤ (x4.size : Int) then (some (x114000, x114001, x4.extract 0 (x7 : Int).toNat, x114003, x114004, x114005, 0, x1000, wrap64 (x1001 + x7))) else (none)) else (none)))
def lex_reader_number.l1 : Nat → ByteArray → Int → Int → Bool → List ByteArray → Int → Int → ByteArray → Int → Int → Int → ByteArray → ByteArray → Int → Bool → Option (Int × Int × ByteArray × ByteArray × Int × Bool × Int × ByteArray × Int)
 | 0, _, _, _, _, _, _, _, _, _, _, _, _, _, _, _ => none
 | k + 1, x4, x7, x8, x9, x82, x83, x84, x1000, x1001, x114000, x114001, x114002, x114003, x114004, x114005 => if x84 < x83 then (if 0 ≤ x84 then (if x84 < (x82.length : Int) then (if 0 ≤ x7 then (if x7 ≤ (x4.size : Int) then ((strings_HasPrefix.f (x4.extract (x7 : Int).toNat x4.size) (rdOf ByteArray.empty x82 x84)).bind fun t123 => (if t123 = true then (lex_reader_number.j4 k x4 (wrap64 (x7 + ((rdOf ByteArray.empty x82 x84).size : Int))) x8 x9 x1000 x1001 x114000 x114001 x114002 (rdOf ByteArray.empty x82 x84) x114004 x114005) else (lex_reader_number.l1 k x4 x7 x8 x9 x82 x83 (wrap64 (x84 + 1)) x1000 x1001 x114000 x114001 x114002 x114003 x114004 x114005))) else (none)) else (none)) else (none)) else (none)) else (lex_reader_number.j4 k x4 x7 x8 x9 x1000 x1001 x114000 x114001 x114002 x114003 x114004 x114005)
def lex_reader_number.l0 : Nat → ByteArray → Int → Int → Int → Bool → ByteArray → Int → Int → Int → ByteArray → ByteArray → Int → Bool → Option (Int × Int × ByteArray × ByteArray × Int × Bool × Int × ByteArray × Int)
 | 0, _, _, _, _, _, _, _, _, _, _, _, _, _ => none
 | k + 1, x4, x6, x7, x8, x9, x1000, x1001, x114000, x114001, x114002, x114003, x114004, x114005 => if x7 < (x4.size : Int) then (if 0 ≤ x7 then ((lex_value.f k (bt x4 x7) x6).bind fun t115 => (if t115 ≥ 0 then (if x8 = 0 then ((lex_value.f k (bt x4 x7) x6).bind fun t116 => (if x9 = true then (lex_reader_number.l0 k x4 x6 (wrap64 (x7 + 1)) (wrap64 (x8 + 1)) true x1000 x1001 x114000 x114001 x114002 x114003 (IntKind.u64.wrap ((IntKind.u64.wrap (x114004 * x6)) + (IntKind.u64.wrap (t116)))) x114005) else (if x6 = 0 then (none) else (lex_reader_number.l0 k x4 x6 (wrap64 (x7 + 1)) (wrap64 (x8 + 1)) (decide (x114004 > (IntKind.u64.wrap (Int.tdiv (IntKind.u64.wrap (18446744073709551615 - (IntKind.u64.wrap (t116)))) x6)))) x1000 x1001 x114000 x114001 x114002 x114003 (IntKind.u64.wrap ((IntKind.u64.wrap (x114004 * x6)) + (IntKind.u64.wrap (t116)))) x114005)))) else (if x6 = 16 then ((lex_value.f k (bt x4 x7) x6).bind fun t117 => (if x9 = true then (lex_reader_number.l0 k x4 x6 (wrap64 (x7 + 1)) (wrap64 (x8 + 1)) true x1000 x1001 x114000 x114001 x114002 x114003 (IntKind.u64.wrap ((IntKind.u64.wrap (x114004 * x6)) + (IntKind.u64.wrap (t117)))) x114005) else (if x6 = 0 then (none) else (lex_reader_number.l0 k x4 x6 (wrap64 (x7 + 1)) (wrap64 (x8 + 1)) (decide (x114004 > (IntKind.u64.wrap (Int.tdiv (IntKind.u64.wrap (18446744073709551615 - (IntKind.u64.wrap (t117)))) x6)))) x1000 x1001 x114000 x114001 x114002 x114003 (IntKind.u64.wrap ((IntKind.u64.wrap (x114004 * x6)) + (IntKind.u64.wrap (t117)))) x114005)))) else (if 0 < (x4.size : Int) then (if (bt x4 0) = 48 then (lex_reader_number.j2 k x4 x7 x8 x9 x1000 x1001 x114000 x114001 x114002 x114003 x114004 x114005) else ((lex_value.f k (bt x4 x7) x6).bind fun t118 => (if x9 = true then (lex_reader_number.l0 k x4 x6 (wrap64 (x7 + 1)) (wrap64 (x8 + 1)) true x1000 x1001 x114000 x114001 x114002 x114003 (IntKind.u64.wrap ((IntKind.u64.wrap (x114004 * x6)) + (IntKind.u64.wrap (t118)))) x114005) else (if x6 = 0 then (none) else (lex_reader_number.l0 k x4 x6 (wrap64 (x7 + 1)) (wrap64 (x8 + 1)) (decide (x114004 > (IntKind.u64.wrap (Int.tdiv (IntKind.u64.wrap (18446744073709551615 - (IntKind.u64.wrap (t118)))) x6)))) x1000 x1001 x114000 x114001 x114002 x114003 (IntKind.u64.wrap ((IntKind.u64.wrap (x114004 * x6)) + (IntKind.u64.wrap (t118)))) x114005))))) else (none)))) else (lex_reader_number.j2 k x4 x7 x8 x9 x1000 x1001 x114000 x114001 x114002 x114003 x114004 x114005))) else (none)) else (lex_reader_number.j2 k x4 x7 x8 x9 x1000 x1001 x114000 x114001 x114002 x114003 x114004 x114005)
end
def lex_reader_number.f (k : Nat) (s0_0 : ByteArray) (s0_1 : Int) : Option (Int × Int × ByteArray × ByteArray × Int × Bool × Int × ByteArray × Int) := if 0 ≤ s0_1 then (if s0_1 ≤ (s0_0.size : Int) then ((strings_HasPrefix.f (s0_0.extract (s0_1 : Int).toNat s0_0.size) (⟨#[48, 120]⟩ : ByteArray)).bind fun t114 => (if t114 = true then (lex_reader_number.j0 k (s0_0.extract (s0_1 : Int).toNat s0_0.size) 16 2 s0_0 s0_1 3 s0_1 (⟨#[]⟩ : ByteArray) (⟨#[]⟩ : ByteArray) 0 true) else (lex_reader_number.j0 k (s0_0.extract (s0_1 : Int).toNat s0_0.size) 10 0 s0_0 s0_1 3 s0_1 (⟨#[]⟩ : ByteArray) (⟨#[]⟩ : ByteArray) 0 false))) else (none)) else (none)
theorem lex_reader_number.mono_l : ∀ k, (∀ y0 y1 y2 y3 y4 y5 y6 y7 y8 y9 y10, LeO (lex_reader_number.j0 k y0 y1 y2 y3 y4 y5 y6 y7 y8 y9 y10) (lex_reader_number.j0 (k + 1) y0 y1 y2 y3 y4 y5 y6 y7 y8 y9 y10)) ∧ (∀ y0 y1 y2 y3 y4 y5 y6 y7 y8 y9 y10 y11, LeO (lex_reader_number.j2 k y0 y1 y2 y3 y4 y5 y6 y7 y8 y9 y10 y11) (lex_reader_number.j2 (k + 1) y0 y1 y2 y3 y4 y5 y6 y7 y8 y9 y10 y11)) ∧ (∀ y0 y1 y2 y3 y4 y5 y6 y7 y8 y9 y10 y11, LeO (lex_reader_number.j4 k y0 y1 y2 y3 y4 y5 y6 y7 y8 y9 y10 y11) (lex_reader_number.j4 (k + 1) y0 y1 y2 y3 y4 y5 y6 y7 y8 y9 y10 y11)) ∧ (∀ y0 y1 y2 y3 y4 y5 y6 y7 y8 y9 y10 y11, LeO (lex_reader_number.j5 k y0 y1 y2 y3 y4 y5 y6 y7 y8 y9 y10 y11) (lex_reader_number.j5 (k + 1) y0 y1 y2 y3 y4 y5 y6 y7 y8 y9 y10 y11)) ∧ (∀ y0 y1 y2 y3 y4 y5 y6 y7 y8 y9 y10 y11 y12 y13 y14, LeO (lex_reader_number.l1 k y0 y1 y2 y3 y4 y5 y6 y7 y8 y9 y10 y11 y12 y13 y14) (lex_reader_number.l1 (k + 1) y0 y1 y2 y3 y4 y5 y6 y7 y8 y9 y10 y11 y12 y13 y14)) ∧ (∀ y0 y1 y2 y3 y4 y5 y6 y7 y8 y9 y10 y11 y12, LeO (lex_reader_number.l0 k y0 y1 y2 y3 y4 y5 y6 y7 y8 y9 y10 y11 y12) (lex_reader_number.l0 (k + 1) y0 y1 y2 y3 y4 y5 y6 y7 y8 y9 y10 y11 y12))
 | 0 => ⟨fun _ _ _ _ _ _ _ _ _ _ _ r h => by simp [lex_reader_number.j0] at h, fun _ _ _ _ _ _ _ _ _ _ _ _ r h => by simp [lex_reader_number.j2] at h, fun _ _ _ _ _ _ _ _ _ _ _ _ r h => by simp [lex_reader_number.j4] at h, fun _ _ _ _ _ _ _ _ _ _ _ _ r h => by simp [lex_reader_number.j5] at h, fun _ _ _ _ _ _ _ _ _ _ _ _ _ _ _ r h => by simp [lex_reader_number.l1] at h, fun _ _ _ _ _ _ _ _ _ _ _ _ _ r h => by simp [lex_reader_number.l0] at h⟩
 | k + 1 => by
  obtain ⟨ih0, ih1, ih2, ih3, ih4, ih5⟩ := lex_reader_number.mono_l k
  refine ⟨?_, ?_, ?_, ?_, ?_, ?_⟩
  ·
   intro y0 y1 y2 y3 y4 y5 y6 y7 y8 y9 y10
   unfold lex_reader_number.j0
   repeat' first
   | (with_reducible exact ih0 _ _ _ _ _ _ _ _ _ _ _)
   | (with_reducible exact ih1 _ _ _ _ _ _ _ _ _ _ _ _)
   | (with_reducible exact ih2 _ _ _ _ _ _ _ _ _ _ _ _)
   | (with_reducible exact ih3 _ _ _ _ _ _ _ _ _ _ _ _)
   | (with_reducible exact ih4 _ _ _ _ _ _ _ _ _ _ _ _ _ _ _)
   | (with_reducible exact ih5 _ _ _ _ _ _ _ _ _ _ _ _ _)
   | (with_reducible exact lex_value.mono _ _ _)
   | (with_reducible exact LeO.refl _)
   | (with_reducible exact LeO.none _)
   | (with_reducible refine LeO.ite ?_ ?_)
   | (with_reducible refine LeO.bind ?_ (fun _ => ?_))
   | exact ih0 _ _ _ _ _ _ _ _ _ _ _
   | exact ih1 _ _ _ _ _ _ _ _ _ _ _ _
   | exact ih2 _ _ _ _ _ _ _ _ _ _ _ _
   | exact ih3 _ _ _ _ _ _ _ _ _ _ _ _
   | exact ih4 _ _ _ _ _ _ _ _ _ _ _ _ _ _ _
   | exact ih5 _ _ _ _ _ _ _ _ _ _ _ _ _
   | exact lex_value.mono _ _ _
   | exact LeO.none _
   | refine LeO.ite ?_ ?_
   | refine LeO.bind ?_ (fun _ => ?_)
  ·
   intro y0 y1 y2 y3 y4 y5 y6 y7 y8 y9 y10 y11
   unfold lex_reader_number.j2
   repeat' first
   | (with_reducible exact ih0 _ _ _ _ _ _ _ _ _ _ _)
   | (with_reducible exact ih1 _ _ _ _ _ _ _ _ _ _ _ _)
   | (with_reducible exact ih2 _ _ _ _ _ _ _ _ _ _ _ _)
   | (with_reducible exact ih3 _ _ _ _ _ _ _ _ _ _ _ _)
   | (with_reducible exact ih4 _ _ _ _ _ _ _ _ _ _ _ _ _ _ _)
   | (with_reducible exact ih5 _ _ _ _ _ _ _ _ _ _ _ _ _)
   | (with_reducible exact lex_value.mono _ _ _)
   | (with_reducible exact LeO.refl _)
   | (with_reducible exact LeO.none _)
   | (with_reducible refine LeO.ite ?_ ?_)
   | (with_reducible refine LeO.bind ?_ (fun _ => ?_))
   | exact ih0 _ _ _ _ _ _ _ _ _ _ _
   | exact ih1 _ _ _ _ _ _ _ _ _ _ _ _
   | exact ih2 _ _ _ _ _ _ _ _ _ _ _ _
   | exact ih3 _ _ _ _ _ _ _ _ _ _ _ _
   | exact ih4 _ _ _ _ _ _ _ _ _ _ _ _ _ _ _
   | exact ih5 _ _ _ _ _ _ _ _ _ _ _ _ _
   | exact lex_value.mono _ _ _
   | exact LeO.none _
   | refine LeO.ite ?_ ?_
   | refine LeO.bind ?_ (fun _ => ?_)
  ·
   intro y0 y1 y2 y3 y4 y5 y6 y7 y8 y9 y10 y11
   unfold lex_reader_number.j4
   repeat' first
   | (with_reducible exact ih0 _ _ _ _ _ _ _ _ _ _ _)
   | (with_reducible exact ih1 _ _ _ _ _ _ _ _ _ _ _ _)
   | (with_reducible exact ih2 _ _ _ _ _ _ _ _ _ _ _ _)
   | (with_reducible exact ih3 _ _ _ _ _ _ _ _ _ _ _ _)
   | (with_reducible exact ih4 _ _ _ _ _ _ _ _ _ _ _ _ _ _ _)
   | (with_reducible exact ih5 _ _ _ _ _ _ _ _ _ _ _ _ _)
   | (with_reducible exact lex_value.mono _ _ _)
   | (with_reducible exact LeO.refl _)
   | (with_reducible exact LeO.none _)
   | (with_reducible refine LeO.ite ?_ ?_)
   | (with_reducible refine LeO.bind ?_ (fun _ => ?_))
   | exact ih0 _ _ _ _ _ _ _ _ _ _ _
   | exact ih1 _ _ _ _ _ _ _ _ _ _ _ _
   | exact ih2 _ _ _ _ _ _ _ _ _ _ _ _
   | exact ih3 _ _ _ _ _ _ _ _ _ _ _ _
   | exact ih4 _ _ _ _ _ _ _ _ _ _ _ _ _ _ _
   | exact ih5 _ _ _ _ _ _ _ _ _ _ _ _ _
   | exact lex_value.mono _ _ _
   | exact LeO.none _
   | refine LeO.ite ?_ ?_
   | refine LeO.bind ?_ (fun _ => ?_)
  ·
   intro y0 y1 y2 y3 y4 y5 y6 y7 y8 y9 y10 y11
   unfold lex_reader_number.j5
   repeat' first
   | (with_reducible exact ih0 _ _ _ _ _ _ _ _ _ _ _)
   | (with_reducible exact ih1 _ _ _ _ _ _ _ _ _ _ _ _)
   | (with_reducible exact ih2 _ _ _ _ _ _ _ _ _ _ _ _)
   | (with_reducible exact ih3 _ _ _ _ _ _ _ _ _ _ _ _)
   | (with_reducible exact ih4 _ _ _ _ _ _ _ _ _ _ _ _ _ _ _)
   | (with_reducible exact ih5 _ _ _ _ _ _ _ _ _ _ _ _ _)
   | (with_reducible exact lex_value.mono _ _ _)
   | (with_reducible exact LeO.refl _)
   | (with_reducible exact LeO.none _)
   | (with_reducible refine LeO.ite ?_ ?_)
   | (with_reducible refine LeO.bind ?_ (fun _ => ?_))
   | exact ih0 _ _ _ _ _ _ _ _ _ _ _
   | exact ih1 _ _ _ _ _ _ _ _ _ _ _ _
   | exact ih2 _ _ _ _ _ _ _ _ _ _ _ _
   | exact ih3 _ _ _ _ _ _ _ _ _ _ _ _
   | exact ih4 _ _ _ _ _ _ _ _ _ _ _ _ _ _ _
   | exact ih5 _ _ _ _ _ _ _ _ _ _ _ _ _
   | exact lex_value.mono _ _ _
   | exact LeO.none _
   | refine LeO.ite ?_ ?_
   | refine LeO.bind ?_ (fun _ => ?_)
  ·
   intro y0 y1 y2 y3 y4 y5 y6 y7 y8 y9 y10 y11 y12 y13 y14
   unfold lex_reader_number.l1
   repeat' first
   | (with_reducible exact ih0 _ _ _ _ _ _ _ _ _ _ _)
   | (with_reducible exact ih1 _ _ _ _ _ _ _ _ _ _ _ _)
   | (with_reducible exact ih2 _ _ _ _ _ _ _ _ _ _ _ _)
   | (with_reducible exact ih3 _ _ _ _ _ _ _ _ _ _ _ _)
   | (with_reducible exact ih4 _ _ _ _ _ _ _ _ _ _ _ _ _ _ _)
   | (with_reducible exact ih5 _ _ _ _ _ _ _ _ _ _ _ _ _)
   | (with_reducible exact lex_value.mono _ _ _)
   | (with_reducible exact LeO.refl _)
   | (with_reducible exact LeO.none _)
   | (with_reducible refine LeO.ite ?_ ?_)
   | (with_reducible refine LeO.bind ?_ (fun _ => ?_))
   | exact ih0 _ _ _ _ _ _ _ _ _ _ _
   | exact ih1 _ _ _ _ _ _ _ _ _ _ _ _
   | exact ih2 _ _ _ _ _ _ _ _ _ _ _ _
   | exact ih3 _ _ _ _ _ _ _ _ _ _ _ _
   | exact ih4 _ _ _ _ _ _ _ _ _ _ _ _ _ _ _
   | exact ih5 _ _ _ _ _ _ _ _ _ _ _ _ _
   | exact lex_value.mono _ _ _
   | exact LeO.none _
   | refine LeO.ite ?_ ?_
   | refine LeO.bind ?_ (fun _ => ?_)
  ·
   intro y0 y1 y2 y3 y4 y5 y6 y7 y8 y9 y10 y11 y12
   unfold lex_reader_number.l0
   repeat' first
   | (with_reducible exact ih0 _ _ _ _ _ _ _ _ _ _ _)
   | (with_reducible exact ih1 _ _ _ _ _ _ _ _ _ _ _ _)
   | (with_reducible exact ih2 _ _ _ _ _ _ _ _ _ _ _ _)
   | (with_reducible exact ih3 _ _ _ _ _ _ _ _ _ _ _ _)
   | (with_reducible exact ih4 _ _ _ _ _ _ _ _ _ _ _ _ _ _ _)
   | (with_reducible exact ih5 _ _ _ _ _ _ _ _ _ _ _ _ _)
   | (with_reducible exact lex_value.mono _ _ _)
   | (with_reducible exact LeO.refl _)
   | (with_reducible exact LeO.none _)
   | (with_reducible refine LeO.ite ?_ ?_)
   | (with_reducible refine LeO.bind ?_ (fun _ => ?_))
   | exact ih0 _ _ _ _ _ _ _ _ _ _ _
   | exact ih1 _ _ _ _ _ _ _ _ _ _ _ _
   | exact ih2 _ _ _ _ _ _ _ _ _ _ _ _
   | exact ih3 _ _ _ _ _ _ _ _ _ _ _ _
   | exact ih4 _ _ _ _ _ _ _ _ _ _ _ _ _ _ _
   | exact ih5 _ _ _ _ _ _ _ _ _ _ _ _ _
   | exact lex_value.mono _ _ _
   | exact LeO.none _
   | refine LeO.ite ?_ ?_
   | refine LeO.bind ?_ (fun _ => ?_)
theorem lex_reader_number.mono : ∀ a0 a1 k, LeO (lex_reader_number.f k a0 a1) (lex_reader_number.f (k + 1) a0 a1) := by
 intro a0 a1 k
 obtain ⟨ih0, ih1, ih2, ih3, ih4, ih5⟩ := lex_reader_number.mono_l k
 unfold lex_reader_number.f
 repeat' first
   | (with_reducible exact ih0 _ _ _ _ _ _ _ _ _ _ _)
   | (with_reducible exact ih1 _ _ _ _ _ _ _ _ _ _ _ _)
   | (with_reducible exact ih2 _ _ _ _ _ _ _ _ _ _ _ _)
   | (with_reducible exact ih3 _ _ _ _ _ _ _ _ _ _ _ _)
   | (with_reducible exact ih4 _ _ _ _ _ _ _ _ _ _ _ _ _ _ _)
   | (with_reducible exact ih5 _ _ _ _ _ _ _ _ _ _ _ _ _)
   | (with_reducible exact lex_value.mono _ _ _)
   | (with_reducible exact LeO.refl _)
   | (with_reducible exact LeO.none _)
   | (with_reducible refine LeO.ite ?_ ?_)
   | (with_reducible refine LeO.bind ?_ (fun _ => ?_))
   | exact ih0 _ _ _ _ _ _ _ _ _ _ _
   | exact ih1 _ _ _ _ _ _ _ _ _ _ _ _
   | exact ih2 _ _ _ _ _ _ _ _ _ _ _ _
   | exact ih3 _ _ _ _ _ _ _ _ _ _ _ _
   | exact ih4 _ _ _ _ _ _ _ _ _ _ _ _ _ _ _
   | exact ih5 _ _ _ _ _ _ _ _ _ _ _ _ _
   | exact lex_value.mono _ _ _
   | exact LeO.none _
   | refine LeO.ite ?_ ?_
   | refine LeO.bind ?_ (fun _ => ?_)
set_option maxHeartbeats 8000000 in
set_option maxRecDepth 100000 in
theorem lex_reader_number.calls (k : Nat) (g : Nat) (s0_0 : ByteArray) (s0_1 : Int) (r1 : Int) (r2 : Int) (r3 : ByteArray) (r4 : ByteArray) (r5 : Int) (r6 : Bool) (r7 : Int) (r8 : ByteArray) (r9 : Int) (w0 w : World) (hI : IsS45 w0 w g s0_0 s0_1) (hB : Below w0.heap.size w0 w) (h : lex_reader_number.f k s0_0 s0_1 = some (r1, r2, r3, r4, r5, r6, r7, r8, r9)) :
  Calls Tryd.prog 28 #[.pointer (some ⟨g, 0, none⟩)] w fun e w' => e = .returned (.tuple #[.agg #[.int .i64 r1, .int .i64 r2, .string r3, .string r4, .int .u64 r5, .bool r6], .int .i64 r7]) ∧ IsS45 w0 w' g r8 r9 ∧ Below w0.heap.size w0 w' ∧ KeepBut w w' g none := by
 have hu33 := Tryd.underlying33
 have HI0 := Aside0.mk hI
 have HK := Aside0.mk (KeepBut.refl w g none)
 have HL := Aside0.mk hB.size
 clear hI
 have HW0 := Aside0.mk hB.size
 have HB := Aside0.mk hB
 clear hB
 have H : (if 0 ≤ s0_1 then (if s0_1 ≤ (s0_0.size : Int) then ((strings_HasPrefix.f (s0_0.extract (s0_1 : Int).toNat s0_0.size) (⟨#[48, 120]⟩ : ByteArray)).bind fun t114 => (if t114 = true then (lex_reader_number.j0 k (s0_0.extract (s0_1 : Int).toNat s0_0.size) 16 2 s0_0 s0_1 3 s0_1 (⟨#[]⟩ : ByteArray) (⟨#[]⟩ : ByteArray) 0 true) else (lex_reader_number.j0 k (s0_0.extract (s0_1 : Int).toNat s0_0.size) 10 0 s0_0 s0_1 3 s0_1 (⟨#[]⟩ : ByteArray) (⟨#[]⟩ : ByteArray) 0 false))) else (none)) else (none)) = some (r1, r2, r3, r4, r5, r6, r7, r8, r9) := h
 clear h
 by_cases c2 : 0 ≤ s0_1
 case neg => rw [if_neg c2] at H; exact absurd H (by simp)
 rw [if_pos c2] at H
 have c2b0 := eq_true c2
 have c2b1 : decide (0 ≤ s0_1) = true := decide_eq_true c2
 clear c2
 by_cases c3 : s0_1 ≤ (s0_0.size : Int)
 case neg => rw [if_neg c3] at H; exact absurd H (by simp)
 rw [if_pos c3] at H
 have c3b0 := eq_true c3
 have c3b1 : decide (s0_1 ≤ (s0_0.size : Int)) = true := decide_eq_true c3
 clear c3
 obtain ⟨R, hR⟩ : ∃ R, s0_0.extract (s0_1 : Int).toNat s0_0.size = R := ⟨_, rfl⟩
 rw [hR] at H
 have hsl : ∀ w, (Instr.sliceAt 9 (.string s0_0) (some (.int .i64 s0_1)) none none).run Tryd.prog w = .ok (.string R) w := fun w => by rw [← hR]; exact sl_from s0_0 s0_1 (of_decide_eq_true c2b1) (of_decide_eq_true c3b1) w
 clear hR
 replace H := Option.bind_eq_some_iff.mp H
 obtain ⟨t114, A40, H⟩ := H
 replace H : (if t114 = true then (lex_reader_number.j0 k R 16 2 s0_0 s0_1 3 s0_1 (⟨#[]⟩ : ByteArray) (⟨#[]⟩ : ByteArray) 0 true) else (lex_reader_number.j0 k R 10 0 s0_0 s0_1 3 s0_1 (⟨#[]⟩ : ByteArray) (⟨#[]⟩ : ByteArray) 0 false)) = some (r1, r2, r3, r4, r5, r6, r7, r8, r9) := H
 have A4 := Aside0.mk A40
 clear A40
 have HC5 := Aside0.mk H
 clear H
 go_enter Tryd.func28, Tryd.ntmps28
 go_upto_if 28 with (first | ((with_reducible refine gate_dst (N := 2) rfl ?_); (try (refine gate_guard (by rfl) ?_; dsimp only)); refine box_event ?hg (N := 2) ?hd (cs := #[.int .i64 0, .int .i64 0, .string (⟨#[]⟩ : ByteArray), .string (⟨#[]⟩ : ByteArray), .int .u64 0, .bool false]) (t := 33) ?hr ?_; (case hd => rfl); (case hg => rfl); (case hr => first | (go_simp; done) | (go_simp; rfl)); intro gb112 hg w6 hbox hb; have n0_ := Aside0.mk (IsS45.below (by repeat (first | (with_reducible first | exact HI0.out | apply IsS45.alloc | apply IsS45.drewN | apply IsS45.drew | apply IsS45.set_0 | refine IsS45.set_1 (f1 := s0_1) ?_ _) | exact HI0.out)) hb); have n1_ := Aside0.mk (KeepBut.trans (by repeat (first | (with_reducible first | exact HK.out | apply KeepBut.set_ | apply keep_drewN | apply keep_drew | apply keep_alloc) | exact HK.out)) (KeepBut.of_below hb g none) (.inl rfl)); have n2_ := Aside0.mk (below_step (by repeat (first | (with_reducible first | exact HB.out | apply below_alloc | apply pw_below_drewN | apply below_drew1 | refine below_set ?_ (IsS45.ge HI0.out)) | exact HB.out)) hb); have n3_ := Aside0.mk (hbox); have n4_ := Aside0.mk ((by rw [hg]; exact (keep_size (w := w) (g := g) (row := none) (by repeat (first | (with_reducible first | exact HK.out | apply KeepBut.set_ | apply keep_drewN | apply keep_drew | apply keep_alloc) | exact HK.out))) : w.heap.size ≤ gb112)); have n5_ := Aside0.mk ((Nat.le_trans HW0.out (by rw [hg]; exact (keep_size (w := w) (g := g) (row := none) (by repeat (first | (with_reducible first | exact HK.out | apply KeepBut.set_ | apply keep_drewN | apply keep_drew | apply keep_alloc) | exact HK.out))) : w.heap.size ≤ gb112) : w0.heap.size ≤ gb112)); have n6_ := Aside0.mk ((by rw [hg]; exact Nat.ne_of_lt (IsS45.lt (show IsS45 w0 _ g s0_0 s0_1 from by repeat (first | (with_reducible first | exact HI0.out | apply IsS45.alloc | apply IsS45.drewN | apply IsS45.drew | apply IsS45.set_0 | refine IsS45.set_1 (f1 := s0_1) ?_ _) | exact HI0.out))) : g ≠ gb112)); have n7_ := Aside0.mk ((by rw [hg]; exact Nat.ne_of_gt (IsS45.lt (show IsS45 w0 _ g s0_0 s0_1 from by repeat (first | (with_reducible first | exact HI0.out | apply IsS45.alloc | apply IsS45.drewN | apply IsS45.drew | apply IsS45.set_0 | refine IsS45.set_1 (f1 := s0_1) ?_ _) | exact HI0.out))) : gb112 ≠ g)); clear HI0; clear HK; clear HB; have HI0 := n0_; have HK := n1_; have HB := n2_; have BK112 := n3_; have GW112 := n4_; have GE112 := n5_; have NB0_112 := n6_; have NB112_0 := n7_; clear n0_ n1_ n2_ n3_ n4_ n5_ n6_ n7_; clear hb hbox hg; obtain ⟨HGz7, hgz7⟩ := HI0.out; have hcz7_0 := cellS45_0 HGz7; have hcz7_1 := cellS45_1 HGz7; have hfz7_0 := blk_frozen HGz7 0; have hfz7_1 := blk_frozen HGz7 1; clear HGz7 hgz7) | ((with_reducible refine gate_dst (N := 5) rfl ?_); (try (refine gate_guard (by rfl) ?_; dsimp only)); refine box_event ?hg (N := 5) ?hd (cs := #[.int .i64 0, .int .i64 0, .string (⟨#[]⟩ : ByteArray), .string (⟨#[]⟩ : ByteArray), .int .u64 0, .bool false]) (t := 33) ?hr ?_; (case hd => rfl); (case hg => rfl); (case hr => first | (go_simp; done) | (go_simp; rfl)); intro gb113 hg w8 hbox hb; have n0_ := Aside0.mk (IsS45.below (by repeat (first | (with_reducible first | exact HI0.out | apply IsS45.alloc | apply IsS45.drewN | apply IsS45.drew | apply IsS45.set_0 | refine IsS45.set_1 (f1 := s0_1) ?_ _ | refine IsS45.far ?_ NB0_112.out _) | exact HI0.out)) hb); have n1_ := Aside0.mk (blk_below (g := gb112) (o := .cells #[.int .i64 0, .int .i64 0, .string (⟨#[]⟩ : ByteArray), .string (⟨#[]⟩ : ByteArray), .int .u64 0, .bool false] 33 (0, 0)) (by (with_reducible repeat (first | refine blk_drewN ?_ _ | refine blk_drew ?_ | refine blk_alloc ?_ _)); exact BK112.out) hb); have n2_ := Aside0.mk (KeepBut.trans (by repeat (first | (with_reducible first | exact HK.out | apply KeepBut.set_ | apply keep_drewN | apply keep_drew | apply keep_alloc | refine keep_far ?_ GW112.out _) | exact HK.out)) (KeepBut.of_below hb g none) (.inl rfl)); have n3_ := Aside0.mk (below_step (by repeat (first | (with_reducible first | exact HB.out | apply below_alloc | apply pw_below_drewN | apply below_drew1 | refine below_set ?_ (IsS45.ge HI0.out) | refine below_set ?_ GE112.out) | exact HB.out)) hb); have n4_ := Aside0.mk (hbox); have n5_ := Aside0.mk ((by rw [hg]; exact (keep_size (w := w) (g := g) (row := none) (by repeat (first | (with_reducible first | exact HK.out | apply KeepBut.set_ | apply keep_drewN | apply keep_drew | apply keep_alloc | refine keep_far ?_ GW112.out _) | exact HK.out))) : w.heap.size ≤ gb113)); have n6_ := Aside0.mk ((Nat.le_trans HW0.out (by rw [hg]; exact (keep_size (w := w) (g := g) (row := none) (by repeat (first | (with_reducible first | exact HK.out | apply KeepBut.set_ | apply keep_drewN | apply keep_drew | apply keep_alloc | refine keep_far ?_ GW112.out _) | exact HK.out))) : w.heap.size ≤ gb113) : w0.heap.size ≤ gb113)); have n7_ := Aside0.mk ((by rw [hg]; exact Nat.ne_of_lt (blk_lt (g := gb112) (o := .cells #[.int .i64 0, .int .i64 0, .string (⟨#[]⟩ : ByteArray), .string (⟨#[]⟩ : ByteArray), .int .u64 0, .bool false] 33 (0, 0)) (by (with_reducible repeat (first | refine blk_drewN ?_ _ | refine blk_drew ?_ | refine blk_alloc ?_ _)); exact BK112.out)) : gb112 ≠ gb113)); have n8_ := Aside0.mk ((by rw [hg]; exact Nat.ne_of_gt (blk_lt (g := gb112) (o := .cells #[.int .i64 0, .int .i64 0, .string (⟨#[]⟩ : ByteArray), .string (⟨#[]⟩ : ByteArray), .int .u64 0, .bool false] 33 (0, 0)) (by (with_reducible repeat (first | refine blk_drewN ?_ _ | refine blk_drew ?_ | refine blk_alloc ?_ _)); exact BK112.out)) : gb113 ≠ gb112)); have n9_ := Aside0.mk ((by rw [hg]; exact Nat.ne_of_lt (IsS45.lt (show IsS45 w0 _ g s0_0 s0_1 from by repeat (first | (with_reducible first | exact HI0.out | apply IsS45.alloc | apply IsS45.drewN | apply IsS45.drew | apply IsS45.set_0 | refine IsS45.set_1 (f1 := s0_1) ?_ _ | refine IsS45.far ?_ NB0_112.out _) | exact HI0.out))) : g ≠ gb113)); have n10_ := Aside0.mk ((by rw [hg]; exact Nat.ne_of_gt (IsS45.lt (show IsS45 w0 _ g s0_0 s0_1 from by repeat (first | (with_reducible first | exact HI0.out | apply IsS45.alloc | apply IsS45.drewN | apply IsS45.drew | apply IsS45.set_0 | refine IsS45.set_1 (f1 := s0_1) ?_ _ | refine IsS45.far ?_ NB0_112.out _) | exact HI0.out))) : gb113 ≠ g)); clear HI0; clear BK112; clear HK; clear HB; have HI0 := n0_; have BK112 := n1_; have HK := n2_; have HB := n3_; have BK113 := n4_; have GW113 := n5_; have GE113 := n6_; have NB112_113 := n7_; have NB113_112 := n8_; have NB0_113 := n9_; have NB113_0 := n10_; clear n0_ n1_ n2_ n3_ n4_ n5_ n6_ n7_ n8_ n9_ n10_; clear hb hbox hg; have hnb9 := NB113_112.out; have hnc9 := NB112_113.out; have hnb10 := NB113_0.out; have hnc10 := NB0_113.out; have hcz11_0 : w8.cell? ⟨gb113, 0, none⟩ = some (.int .i64 0) := (blk_cell BK113.out 0).trans rfl; have hcz11_1 : w8.cell? ⟨gb113, 1, none⟩ = some (.int .i64 0) := (blk_cell BK113.out 1).trans rfl; have hcz11_2 : w8.cell? ⟨gb113, 2, none⟩ = some (.string (⟨#[]⟩ : ByteArray)) := (blk_cell BK113.out 2).trans rfl; have hcz11_3 : w8.cell? ⟨gb113, 3, none⟩ = some (.string (⟨#[]⟩ : ByteArray)) := (blk_cell BK113.out 3).trans rfl; have hcz11_4 : w8.cell? ⟨gb113, 4, none⟩ = some (.int .u64 0) := (blk_cell BK113.out 4).trans rfl; have hcz11_5 : w8.cell? ⟨gb113, 5, none⟩ = some (.bool false) := (blk_cell BK113.out 5).trans rfl; have hfz11_0 := blk_frozen BK113.out 0; have hfz11_1 := blk_frozen BK113.out 1; have hfz11_2 := blk_frozen BK113.out 2; have hfz11_3 := blk_frozen BK113.out 3; have hfz11_4 := blk_frozen BK113.out 4; have hfz11_5 := blk_frozen BK113.out 5) | (go_at_call 24; (with_reducible refine (strings_HasPrefix.calls R (⟨#[48, 120]⟩ : ByteArray) t114 _ A4.out).mono ?_); rintro e w' ⟨rfl, ⟨nd, rfl⟩⟩; (try first | exact ⟨rfl, _, World.drewN_drewN _ _ _⟩ | exact ⟨rfl, _, Eq.trans (World.drewN_drewN _ _ _) (congrArg (World.drewN _) (Nat.add_assoc _ _ _))⟩)))
 repeat (go_quiet (first | ((with_reducible refine gate_dst (N := 2) rfl ?_); (try (refine gate_guard (by rfl) ?_; dsimp only)); refine box_event ?hg (N := 2) ?hd (cs := #[.int .i64 0, .int .i64 0, .string (⟨#[]⟩ : ByteArray), .string (⟨#[]⟩ : ByteArray), .int .u64 0, .bool false]) (t := 33) ?hr ?_; (case hd => rfl); (case hg => rfl); (case hr => first | (go_simp; done) | (go_simp; rfl)); intro gb112 hg w6 hbox hb; have n0_ := Aside0.mk (IsS45.below (by repeat (first | (with_reducible first | exact HI0.out | apply IsS45.alloc | apply IsS45.drewN | apply IsS45.drew | apply IsS45.set_0 | refine IsS45.set_1 (f1 := s0_1) ?_ _) | exact HI0.out)) hb); have n1_ := Aside0.mk (KeepBut.trans (by repeat (first | (with_reducible first | exact HK.out | apply KeepBut.set_ | apply keep_drewN | apply keep_drew | apply keep_alloc) | exact HK.out)) (KeepBut.of_below hb g none) (.inl rfl)); have n2_ := Aside0.mk (below_step (by repeat (first | (with_reducible first | exact HB.out | apply below_alloc | apply pw_below_drewN | apply below_drew1 | refine below_set ?_ (IsS45.ge HI0.out)) | exact HB.out)) hb); have n3_ := Aside0.mk (hbox); have n4_ := Aside0.mk ((by rw [hg]; exact (keep_size (w := w) (g := g) (row := none) (by repeat (first | (with_reducible first | exact HK.out | apply KeepBut.set_ | apply keep_drewN | apply keep_drew | apply keep_alloc) | exact HK.out))) : w.heap.size ≤ gb112)); have n5_ := Aside0.mk ((Nat.le_trans HW0.out (by rw [hg]; exact (keep_size (w := w) (g := g) (row := none) (by repeat (first | (with_reducible first | exact HK.out | apply KeepBut.set_ | apply keep_drewN | apply keep_drew | apply keep_alloc) | exact HK.out))) : w.heap.size ≤ gb112) : w0.heap.size ≤ gb112)); have n6_ := Aside0.mk ((by rw [hg]; exact Nat.ne_of_lt (IsS45.lt (show IsS45 w0 _ g s0_0 s0_1 from by repeat (first | (with_reducible first | exact HI0.out | apply IsS45.alloc | apply IsS45.drewN | apply IsS45.drew | apply IsS45.set_0 | refine IsS45.set_1 (f1 := s0_1) ?_ _) | exact HI0.out))) : g ≠ gb112)); have n7_ := Aside0.mk ((by rw [hg]; exact Nat.ne_of_gt (IsS45.lt (show IsS45 w0 _ g s0_0 s0_1 from by repeat (first | (with_reducible first | exact HI0.out | apply IsS45.alloc | apply IsS45.drewN | apply IsS45.drew | apply IsS45.set_0 | refine IsS45.set_1 (f1 := s0_1) ?_ _) | exact HI0.out))) : gb112 ≠ g)); clear HI0; clear HK; clear HB; have HI0 := n0_; have HK := n1_; have HB := n2_; have BK112 := n3_; have GW112 := n4_; have GE112 := n5_; have NB0_112 := n6_; have NB112_0 := n7_; clear n0_ n1_ n2_ n3_ n4_ n5_ n6_ n7_; clear hb hbox hg; obtain ⟨HGz7, hgz7⟩ := HI0.out; have hcz7_0 := cellS45_0 HGz7; have hcz7_1 := cellS45_1 HGz7; have hfz7_0 := blk_frozen HGz7 0; have hfz7_1 := blk_frozen HGz7 1; clear HGz7 hgz7) | ((with_reducible refine gate_dst (N := 5) rfl ?_); (try (refine gate_guard (by rfl) ?_; dsimp only)); refine box_event ?hg (N := 5) ?hd (cs := #[.int .i64 0, .int .i64 0, .string (⟨#[]⟩ : ByteArray), .string (⟨#[]⟩ : ByteArray), .int .u64 0, .bool false]) (t := 33) ?hr ?_; (case hd => rfl); (case hg => rfl); (case hr => first | (go_simp; done) | (go_simp; rfl)); intro gb113 hg w8 hbox hb; have n0_ := Aside0.mk (IsS45.below (by repeat (first | (with_reducible first | exact HI0.out | apply IsS45.alloc | apply IsS45.drewN | apply IsS45.drew | apply IsS45.set_0 | refine IsS45.set_1 (f1 := s0_1) ?_ _ | refine IsS45.far ?_ NB0_112.out _) | exact HI0.out)) hb); have n1_ := Aside0.mk (blk_below (g := gb112) (o := .cells #[.int .i64 0, .int .i64 0, .string (⟨#[]⟩ : ByteArray), .string (⟨#[]⟩ : ByteArray), .int .u64 0, .bool false] 33 (0, 0)) (by (with_reducible repeat (first | refine blk_drewN ?_ _ | refine blk_drew ?_ | refine blk_alloc ?_ _)); exact BK112.out) hb); have n2_ := Aside0.mk (KeepBut.trans (by repeat (first | (with_reducible first | exact HK.out | apply KeepBut.set_ | apply keep_drewN | apply keep_drew | apply keep_alloc | refine keep_far ?_ GW112.out _) | exact HK.out)) (KeepBut.of_below hb g none) (.inl rfl)); have n3_ := Aside0.mk (below_step (by repeat (first | (with_reducible first | exact HB.out | apply below_alloc | apply pw_below_drewN | apply below_drew1 | refine below_set ?_ (IsS45.ge HI0.out) | refine below_set ?_ GE112.out) | exact HB.out)) hb); have n4_ := Aside0.mk (hbox); have n5_ := Aside0.mk ((by rw [hg]; exact (keep_size (w := w) (g := g) (row := none) (by repeat (first | (with_reducible first | exact HK.out | apply KeepBut.set_ | apply keep_drewN | apply keep_drew | apply keep_alloc | refine keep_far ?_ GW112.out _) | exact HK.out))) : w.heap.size ≤ gb113)); have n6_ := Aside0.mk ((Nat.le_trans HW0.out (by rw [hg]; exact (keep_size (w := w) (g := g) (row := none) (by repeat (first | (with_reducible first | exact HK.out | apply KeepBut.set_ | apply keep_drewN | apply keep_drew | apply keep_alloc | refine keep_far ?_ GW112.out _) | exact HK.out))) : w.heap.size ≤ gb113) : w0.heap.size ≤ gb113)); have n7_ := Aside0.mk ((by rw [hg]; exact Nat.ne_of_lt (blk_lt (g := gb112) (o := .cells #[.int .i64 0, .int .i64 0, .string (⟨#[]⟩ : ByteArray), .string (⟨#[]⟩ : ByteArray), .int .u64 0, .bool false] 33 (0, 0)) (by (with_reducible repeat (first | refine blk_drewN ?_ _ | refine blk_drew ?_ | refine blk_alloc ?_ _)); exact BK112.out)) : gb112 ≠ gb113)); have n8_ := Aside0.mk ((by rw [hg]; exact Nat.ne_of_gt (blk_lt (g := gb112) (o := .cells #[.int .i64 0, .int .i64 0, .string (⟨#[]⟩ : ByteArray), .string (⟨#[]⟩ : ByteArray), .int .u64 0, .bool false] 33 (0, 0)) (by (with_reducible repeat (first | refine blk_drewN ?_ _ | refine blk_drew ?_ | refine blk_alloc ?_ _)); exact BK112.out)) : gb113 ≠ gb112)); have n9_ := Aside0.mk ((by rw [hg]; exact Nat.ne_of_lt (IsS45.lt (show IsS45 w0 _ g s0_0 s0_1 from by repeat (first | (with_reducible first | exact HI0.out | apply IsS45.alloc | apply IsS45.drewN | apply IsS45.drew | apply IsS45.set_0 | refine IsS45.set_1 (f1 := s0_1) ?_ _ | refine IsS45.far ?_ NB0_112.out _) | exact HI0.out))) : g ≠ gb113)); have n10_ := Aside0.mk ((by rw [hg]; exact Nat.ne_of_gt (IsS45.lt (show IsS45 w0 _ g s0_0 s0_1 from by repeat (first | (with_reducible first | exact HI0.out | apply IsS45.alloc | apply IsS45.drewN | apply IsS45.drew | apply IsS45.set_0 | refine IsS45.set_1 (f1 := s0_1) ?_ _ | refine IsS45.far ?_ NB0_112.out _) | exact HI0.out))) : gb113 ≠ g)); clear HI0; clear BK112; clear HK; clear HB; have HI0 := n0_; have BK112 := n1_; have HK := n2_; have HB := n3_; have BK113 := n4_; have GW113 := n5_; have GE113 := n6_; have NB112_113 := n7_; have NB113_112 := n8_; have NB0_113 := n9_; have NB113_0 := n10_; clear n0_ n1_ n2_ n3_ n4_ n5_ n6_ n7_ n8_ n9_ n10_; clear hb hbox hg; have hnb9 := NB113_112.out; have hnc9 := NB112_113.out; have hnb10 := NB113_0.out; have hnc10 := NB0_113.out; have hcz11_0 : w8.cell? ⟨gb113, 0, none⟩ = some (.int .i64 0) := (blk_cell BK113.out 0).trans rfl; have hcz11_1 : w8.cell? ⟨gb113, 1, none⟩ = some (.int .i64 0) := (blk_cell BK113.out 1).trans rfl; have hcz11_2 : w8.cell? ⟨gb113, 2, none⟩ = some (.string (⟨#[]⟩ : ByteArray)) := (blk_cell BK113.out 2).trans rfl; have hcz11_3 : w8.cell? ⟨gb113, 3, none⟩ = some (.string (⟨#[]⟩ : ByteArray)) := (blk_cell BK113.out 3).trans rfl; have hcz11_4 : w8.cell? ⟨gb113, 4, none⟩ = some (.int .u64 0) := (blk_cell BK113.out 4).trans rfl; have hcz11_5 : w8.cell? ⟨gb113, 5, none⟩ = some (.bool false) := (blk_cell BK113.out 5).trans rfl; have hfz11_0 := blk_frozen BK113.out 0; have hfz11_1 := blk_frozen BK113.out 1; have hfz11_2 := blk_frozen BK113.out 2; have hfz11_3 := blk_frozen BK113.out 3; have hfz11_4 := blk_frozen BK113.out 4; have hfz11_5 := blk_frozen BK113.out 5) | (go_at_call 24; (with_reducible refine (strings_HasPrefix.calls R (⟨#[48, 120]⟩ : ByteArray) t114 _ A4.out).mono ?_); rintro e w' ⟨rfl, ⟨nd, rfl⟩⟩; (try first | exact ⟨rfl, _, World.drewN_drewN _ _ _⟩ | exact ⟨rfl, _, Eq.trans (World.drewN_drewN _ _ _) (congrArg (World.drewN _) (Nat.add_assoc _ _ _))⟩))); go_upto_if 28 with (first | ((with_reducible refine gate_dst (N := 2) rfl ?_); (try (refine gate_guard (by rfl) ?_; dsimp only)); refine box_event ?hg (N := 2) ?hd (cs := #[.int .i64 0, .int .i64 0, .string (⟨#[]⟩ : ByteArray), .string (⟨#[]⟩ : ByteArray), .int .u64 0, .bool false]) (t := 33) ?hr ?_; (case hd => rfl); (case hg => rfl); (case hr => first | (go_simp; done) | (go_simp; rfl)); intro gb112 hg w6 hbox hb; have n0_ := Aside0.mk (IsS45.below (by repeat (first | (with_reducible first | exact HI0.out | apply IsS45.alloc | apply IsS45.drewN | apply IsS45.drew | apply IsS45.set_0 | refine IsS45.set_1 (f1 := s0_1) ?_ _) | exact HI0.out)) hb); have n1_ := Aside0.mk (KeepBut.trans (by repeat (first | (with_reducible first | exact HK.out | apply KeepBut.set_ | apply keep_drewN | apply keep_drew | apply keep_alloc) | exact HK.out)) (KeepBut.of_below hb g none) (.inl rfl)); have n2_ := Aside0.mk (below_step (by repeat (first | (with_reducible first | exact HB.out | apply below_alloc | apply pw_below_drewN | apply below_drew1 | refine below_set ?_ (IsS45.ge HI0.out)) | exact HB.out)) hb); have n3_ := Aside0.mk (hbox); have n4_ := Aside0.mk ((by rw [hg]; exact (keep_size (w := w) (g := g) (row := none) (by repeat (first | (with_reducible first | exact HK.out | apply KeepBut.set_ | apply keep_drewN | apply keep_drew | apply keep_alloc) | exact HK.out))) : w.heap.size ≤ gb112)); have n5_ := Aside0.mk ((Nat.le_trans HW0.out (by rw [hg]; exact (keep_size (w := w) (g := g) (row := none) (by repeat (first | (with_reducible first | exact HK.out | apply KeepBut.set_ | apply keep_drewN | apply keep_drew | apply keep_alloc) | exact HK.out))) : w.heap.size ≤ gb112) : w0.heap.size ≤ gb112)); have n6_ := Aside0.mk ((by rw [hg]; exact Nat.ne_of_lt (IsS45.lt (show IsS45 w0 _ g s0_0 s0_1 from by repeat (first | (with_reducible first | exact HI0.out | apply IsS45.alloc | apply IsS45.drewN | apply IsS45.drew | apply IsS45.set_0 | refine IsS45.set_1 (f1 := s0_1) ?_ _) | exact HI0.out))) : g ≠ gb112)); have n7_ := Aside0.mk ((by rw [hg]; exact Nat.ne_of_gt (IsS45.lt (show IsS45 w0 _ g s0_0 s0_1 from by repeat (first | (with_reducible first | exact HI0.out | apply IsS45.alloc | apply IsS45.drewN | apply IsS45.drew | apply IsS45.set_0 | refine IsS45.set_1 (f1 := s0_1) ?_ _) | exact HI0.out))) : gb112 ≠ g)); clear HI0; clear HK; clear HB; have HI0 := n0_; have HK := n1_; have HB := n2_; have BK112 := n3_; have GW112 := n4_; have GE112 := n5_; have NB0_112 := n6_; have NB112_0 := n7_; clear n0_ n1_ n2_ n3_ n4_ n5_ n6_ n7_; clear hb hbox hg; obtain ⟨HGz7, hgz7⟩ := HI0.out; have hcz7_0 := cellS45_0 HGz7; have hcz7_1 := cellS45_1 HGz7; have hfz7_0 := blk_frozen HGz7 0; have hfz7_1 := blk_frozen HGz7 1; clear HGz7 hgz7) | ((with_reducible refine gate_dst (N := 5) rfl ?_); (try (refine gate_guard (by rfl) ?_; dsimp only)); refine box_event ?hg (N := 5) ?hd (cs := #[.int .i64 0, .int .i64 0, .string (⟨#[]⟩ : ByteArray), .string (⟨#[]⟩ : ByteArray), .int .u64 0, .bool false]) (t := 33) ?hr ?_; (case hd => rfl); (case hg => rfl); (case hr => first | (go_simp; done) | (go_simp; rfl)); intro gb113 hg w8 hbox hb; have n0_ := Aside0.mk (IsS45.below (by repeat (first | (with_reducible first | exact HI0.out | apply IsS45.alloc | apply IsS45.drewN | apply IsS45.drew | apply IsS45.set_0 | refine IsS45.set_1 (f1 := s0_1) ?_ _ | refine IsS45.far ?_ NB0_112.out _) | exact HI0.out)) hb); have n1_ := Aside0.mk (blk_below (g := gb112) (o := .cells #[.int .i64 0, .int .i64 0, .string (⟨#[]⟩ : ByteArray), .string (⟨#[]⟩ : ByteArray), .int .u64 0, .bool false] 33 (0, 0)) (by (with_reducible repeat (first | refine blk_drewN ?_ _ | refine blk_drew ?_ | refine blk_alloc ?_ _)); exact BK112.out) hb); have n2_ := Aside0.mk (KeepBut.trans (by repeat (first | (with_reducible first | exact HK.out | apply KeepBut.set_ | apply keep_drewN | apply keep_drew | apply keep_alloc | refine keep_far ?_ GW112.out _) | exact HK.out)) (KeepBut.of_below hb g none) (.inl rfl)); have n3_ := Aside0.mk (below_step (by repeat (first | (with_reducible first | exact HB.out | apply below_alloc | apply pw_below_drewN | apply below_drew1 | refine below_set ?_ (IsS45.ge HI0.out) | refine below_set ?_ GE112.out) | exact HB.out)) hb); have n4_ := Aside0.mk (hbox); have n5_ := Aside0.mk ((by rw [hg]; exact (keep_size (w := w) (g := g) (row := none) (by repeat (first | (with_reducible first | exact HK.out | apply KeepBut.set_ | apply keep_drewN | apply keep_drew | apply keep_alloc | refine keep_far ?_ GW112.out _) | exact HK.out))) : w.heap.size ≤ gb113)); have n6_ := Aside0.mk ((Nat.le_trans HW0.out (by rw [hg]; exact (keep_size (w := w) (g := g) (row := none) (by repeat (first | (with_reducible first | exact HK.out | apply KeepBut.set_ | apply keep_drewN | apply keep_drew | apply keep_alloc | refine keep_far ?_ GW112.out _) | exact HK.out))) : w.heap.size ≤ gb113) : w0.heap.size ≤ gb113)); have n7_ := Aside0.mk ((by rw [hg]; exact Nat.ne_of_lt (blk_lt (g := gb112) (o := .cells #[.int .i64 0, .int .i64 0, .string (⟨#[]⟩ : ByteArray), .string (⟨#[]⟩ : ByteArray), .int .u64 0, .bool false] 33 (0, 0)) (by (with_reducible repeat (first | refine blk_drewN ?_ _ | refine blk_drew ?_ | refine blk_alloc ?_ _)); exact BK112.out)) : gb112 ≠ gb113)); have n8_ := Aside0.mk ((by rw [hg]; exact Nat.ne_of_gt (blk_lt (g := gb112) (o := .cells #[.int .i64 0, .int .i64 0, .string (⟨#[]⟩ : ByteArray), .string (⟨#[]⟩ : ByteArray), .int .u64 0, .bool false] 33 (0, 0)) (by (with_reducible repeat (first | refine blk_drewN ?_ _ | refine blk_drew ?_ | refine blk_alloc ?_ _)); exact BK112.out)) : gb113 ≠ gb112)); have n9_ := Aside0.mk ((by rw [hg]; exact Nat.ne_of_lt (IsS45.lt (show IsS45 w0 _ g s0_0 s0_1 from by repeat (first | (with_reducible first | exact HI0.out | apply IsS45.alloc | apply IsS45.drewN | apply IsS45.drew | apply IsS45.set_0 | refine IsS45.set_1 (f1 := s0_1) ?_ _ | refine IsS45.far ?_ NB0_112.out _) | exact HI0.out))) : g ≠ gb113)); have n10_ := Aside0.mk ((by rw [hg]; exact Nat.ne_of_gt (IsS45.lt (show IsS45 w0 _ g s0_0 s0_1 from by repeat (first | (with_reducible first | exact HI0.out | apply IsS45.alloc | apply IsS45.drewN | apply IsS45.drew | apply IsS45.set_0 | refine IsS45.set_1 (f1 := s0_1) ?_ _ | refine IsS45.far ?_ NB0_112.out _) | exact HI0.out))) : gb113 ≠ g)); clear HI0; clear BK112; clear HK; clear HB; have HI0 := n0_; have BK112 := n1_; have HK := n2_; have HB := n3_; have BK113 := n4_; have GW113 := n5_; have GE113 := n6_; have NB112_113 := n7_; have NB113_112 := n8_; have NB0_113 := n9_; have NB113_0 := n10_; clear n0_ n1_ n2_ n3_ n4_ n5_ n6_ n7_ n8_ n9_ n10_; clear hb hbox hg; have hnb9 := NB113_112.out; have hnc9 := NB112_113.out; have hnb10 := NB113_0.out; have hnc10 := NB0_113.out; have hcz11_0 : w8.cell? ⟨gb113, 0, none⟩ = some (.int .i64 0) := (blk_cell BK113.out 0).trans rfl; have hcz11_1 : w8.cell? ⟨gb113, 1, none⟩ = some (.int .i64 0) := (blk_cell BK113.out 1).trans rfl; have hcz11_2 : w8.cell? ⟨gb113, 2, none⟩ = some (.string (⟨#[]⟩ : ByteArray)) := (blk_cell BK113.out 2).trans rfl; have hcz11_3 : w8.cell? ⟨gb113, 3, none⟩ = some (.string (⟨#[]⟩ : ByteArray)) := (blk_cell BK113.out 3).trans rfl; have hcz11_4 : w8.cell? ⟨gb113, 4, none⟩ = some (.int .u64 0) := (blk_cell BK113.out 4).trans rfl; have hcz11_5 : w8.cell? ⟨gb113, 5, none⟩ = some (.bool false) := (blk_cell BK113.out 5).trans rfl; have hfz11_0 := blk_frozen BK113.out 0; have hfz11_1 := blk_frozen BK113.out 1; have hfz11_2 := blk_frozen BK113.out 2; have hfz11_3 := blk_frozen BK113.out 3; have hfz11_4 := blk_frozen BK113.out 4; have hfz11_5 := blk_frozen BK113.out 5) | (go_at_call 24; (with_reducible refine (strings_HasPrefix.calls R (⟨#[48, 120]⟩ : ByteArray) t114 _ A4.out).mono ?_); rintro e w' ⟨rfl, ⟨nd, rfl⟩⟩; (try first | exact ⟨rfl, _, World.drewN_drewN _ _ _⟩ | exact ⟨rfl, _, Eq.trans (World.drewN_drewN _ _ _) (congrArg (World.drewN _) (Nat.add_assoc _ _ _))⟩))))
 (try simp only [Act.put, List.setIfInBounds_toArray, List.set_cons_zero, List.set_cons_succ])
 go_cut [6, 7] (fun v6 v7 wc => ∃ (kq : Nat) (x6_4 : Int) (x7_4 : Int) (x114005_4 : Bool), v6 = .int .u64 x6_4 ∧ v7 = .int .i64 x7_4 ∧ Aside0 (lex_reader_number.j0 kq R x6_4 x7_4 s0_0 s0_1 3 s0_1 (⟨#[]⟩ : ByteArray) (⟨#[]⟩ : ByteArray) 0 x114005_4 = some (r1, r2, r3, r4, r5, r6, r7, r8, r9)) ∧ Aside0 (kq ≤ k) ∧ Aside0 (wc.heap[gb112]? = some (.cells #[.int .i64 0, .int .i64 0, .string (⟨#[]⟩ : ByteArray), .string (⟨#[]⟩ : ByteArray), .int .u64 0, .bool false] 33 (0, 0))) ∧ Aside0 (wc.heap[gb113]? = some (.cells #[.int .i64 3, .int .i64 s0_1, .string (⟨#[]⟩ : ByteArray), .string (⟨#[]⟩ : ByteArray), .int .u64 0, .bool x114005_4] 33 (0, 0))) ∧ Aside0 (IsS45 w0 wc g s0_0 s0_1) ∧ Aside0 (KeepBut w wc g none) ∧ Aside0 (Below w0.heap.size w0 wc))
 case first =>
  have H := HC5.out
  clear HC5
  by_cases c12 : t114 = true
  ·
   subst c12
   have H1 : (lex_reader_number.j0 k R 16 2 s0_0 s0_1 3 s0_1 (⟨#[]⟩ : ByteArray) (⟨#[]⟩ : ByteArray) 0 true) = some (r1, r2, r3, r4, r5, r6, r7, r8, r9) := by rw [if_pos rfl] at H; exact H
   clear H
   have H := H1
   clear H1
   have H' := Aside0.mk H
   clear H
   have hnb13 := NB113_112.out
   have hnc13 := NB112_113.out
   have hnb14 := NB113_0.out
   have hnc14 := NB0_113.out
   have hcz15_0 : w8.cell? ⟨gb113, 0, none⟩ = some (.int .i64 0) := (blk_cell BK113.out 0).trans rfl
   have hcz15_1 : w8.cell? ⟨gb113, 1, none⟩ = some (.int .i64 0) := (blk_cell BK113.out 1).trans rfl
   have hcz15_2 : w8.cell? ⟨gb113, 2, none⟩ = some (.string (⟨#[]⟩ : ByteArray)) := (blk_cell BK113.out 2).trans rfl
   have hcz15_3 : w8.cell? ⟨gb113, 3, none⟩ = some (.string (⟨#[]⟩ : ByteArray)) := (blk_cell BK113.out 3).trans rfl
   have hcz15_4 : w8.cell? ⟨gb113, 4, none⟩ = some (.int .u64 0) := (blk_cell BK113.out 4).trans rfl
   have hcz15_5 : w8.cell? ⟨gb113, 5, none⟩ = some (.bool false) := (blk_cell BK113.out 5).trans rfl
   have hfz15_0 := blk_frozen BK113.out 0
   have hfz15_1 := blk_frozen BK113.out 1
   have hfz15_2 := blk_frozen BK113.out 2
   have hfz15_3 := blk_frozen BK113.out 3
   have hfz15_4 := blk_frozen BK113.out 4
   have hfz15_5 := blk_frozen BK113.out 5
   go_wp2
   repeat (go_quiet (fail); try go_wp2)
   go_meet
   case rel => exact ⟨_, (16), (2), (true), (by first | rfl | (simp; done) | (simp [*]; done)), (by first | rfl | (simp; done) | (simp [*]; done)), H', ⟨by first | omega | exact Nat.le_refl _⟩, ⟨by (with_reducible repeat (first | refine blk_drewN ?_ _ | refine blk_drew ?_ | refine blk_alloc ?_ _)); refine blk_far ?_ NB112_113.out _; (with_reducible repeat (first | refine blk_drewN ?_ _ | refine blk_drew ?_ | refine blk_alloc ?_ _)); refine blk_far ?_ NB112_113.out _; (with_reducible repeat (first | refine blk_drewN ?_ _ | refine blk_drew ?_ | refine blk_alloc ?_ _)); refine blk_far ?_ NB112_113.out _; (with_reducible repeat (first | refine blk_drewN ?_ _ | refine blk_drew ?_ | refine blk_alloc ?_ _)); refine blk_far ?_ NB112_113.out _; (with_reducible repeat (first | refine blk_drewN ?_ _ | refine blk_drew ?_ | refine blk_alloc ?_ _)); refine blk_far ?_ NB112_113.out _; (with_reducible repeat (first | refine blk_drewN ?_ _ | refine blk_drew ?_ | refine blk_alloc ?_ _)); refine blk_far ?_ NB112_113.out _; (with_reducible repeat (first | refine blk_drewN ?_ _ | refine blk_drew ?_ | refine blk_alloc ?_ _)); refine blk_far ?_ NB112_113.out _; (with_reducible repeat (first | refine blk_drewN ?_ _ | refine blk_drew ?_ | refine blk_alloc ?_ _)); exact BK112.out⟩, ⟨by (with_reducible repeat (first | refine blk_drewN ?_ _ | refine blk_drew ?_ | refine blk_alloc ?_ _)); refine blk_put (cs := #[.int .i64 3, .int .i64 s0_1, .string (⟨#[]⟩ : ByteArray), .string (⟨#[]⟩ : ByteArray), .int .u64 0, .bool false]) ?_ 5 _ rfl; (with_reducible repeat (first | refine blk_drewN ?_ _ | refine blk_drew ?_ | refine blk_alloc ?_ _)); refine blk_put (cs := #[.int .i64 3, .int .i64 s0_1, .string (⟨#[]⟩ : ByteArray), .string (⟨#[]⟩ : ByteArray), .int .u64 0, .bool false]) ?_ 5 _ rfl; (with_reducible repeat (first | refine blk_drewN ?_ _ | refine blk_drew ?_ | refine blk_alloc ?_ _)); refine blk_put (cs := #[.int .i64 3, .int .i64 s0_1, .string (⟨#[]⟩ : ByteArray), .string (⟨#[]⟩ : ByteArray), .int .u64 0, .bool false]) ?_ 4 _ rfl; (with_reducible repeat (first | refine blk_drewN ?_ _ | refine blk_drew ?_ | refine blk_alloc ?_ _)); refine blk_put (cs := #[.int .i64 3, .int .i64 s0_1, .string (⟨#[]⟩ : ByteArray), .string (⟨#[]⟩ : ByteArray), .int .u64 0, .bool false]) ?_ 3 _ rfl; (with_reducible repeat (first | refine blk_drewN ?_ _ | refine blk_drew ?_ | refine blk_alloc ?_ _)); refine blk_put (cs := #[.int .i64 3, .int .i64 s0_1, .string (⟨#[]⟩ : ByteArray), .string (⟨#[]⟩ : ByteArray), .int .u64 0, .bool false]) ?_ 2 _ rfl; (with_reducible repeat (first | refine blk_drewN ?_ _ | refine blk_drew ?_ | refine blk_alloc ?_ _)); refine blk_put (cs := #[.int .i64 3, .int .i64 0, .string (⟨#[]⟩ : ByteArray), .string (⟨#[]⟩ : ByteArray), .int .u64 0, .bool false]) ?_ 1 _ rfl; (with_reducible repeat (first | refine blk_drewN ?_ _ | refine blk_drew ?_ | refine blk_alloc ?_ _)); refine blk_put (cs := #[.int .i64 0, .int .i64 0, .string (⟨#[]⟩ : ByteArray), .string (⟨#[]⟩ : ByteArray), .int .u64 0, .bool false]) ?_ 0 _ rfl; (with_reducible repeat (first | refine blk_drewN ?_ _ | refine blk_drew ?_ | refine blk_alloc ?_ _)); exact BK113.out⟩, ⟨by repeat (first | (with_reducible first | exact HI0.out | apply IsS45.alloc | apply IsS45.drewN | apply IsS45.drew | apply IsS45.set_0 | refine IsS45.set_1 (f1 := s0_1) ?_ _ | refine IsS45.far ?_ NB0_112.out _ | refine IsS45.far ?_ NB0_113.out _) | exact HI0.out)⟩, ⟨by repeat (first | (with_reducible first | exact HK.out | apply KeepBut.set_ | apply keep_drewN | apply keep_drew | apply keep_alloc | refine keep_far ?_ GW112.out _ | refine keep_far ?_ GW113.out _) | exact HK.out)⟩, ⟨by repeat (first | (with_reducible first | exact HB.out | apply below_alloc | apply pw_below_drewN | apply below_drew1 | refine below_set ?_ (IsS45.ge HI0.out) | refine below_set ?_ GE112.out | refine below_set ?_ GE113.out) | exact HB.out)⟩⟩
  ·
   replace c12 := Bool.eq_false_iff.mpr c12
   subst c12
   have H1 : (lex_reader_number.j0 k R 10 0 s0_0 s0_1 3 s0_1 (⟨#[]⟩ : ByteArray) (⟨#[]⟩ : ByteArray) 0 false) = some (r1, r2, r3, r4, r5, r6, r7, r8, r9) := by rw [if_neg (show ¬ (false = true) by decide)] at H; exact H
   clear H
   have H := H1
   clear H1
   have H' := Aside0.mk H
   clear H
   go_wp2
   repeat (go_quiet (fail); try go_wp2)
   go_meet
   case rel => exact ⟨_, (10), (0), (false), (by first | rfl | (simp; done) | (simp [*]; done)), (by first | rfl | (simp; done) | (simp [*]; done)), H', ⟨by first | omega | exact Nat.le_refl _⟩, ⟨by (with_reducible repeat (first | refine blk_drewN ?_ _ | refine blk_drew ?_ | refine blk_alloc ?_ _)); refine blk_far ?_ NB112_113.out _; (with_reducible repeat (first | refine blk_drewN ?_ _ | refine blk_drew ?_ | refine blk_alloc ?_ _)); refine blk_far ?_ NB112_113.out _; (with_reducible repeat (first | refine blk_drewN ?_ _ | refine blk_drew ?_ | refine blk_alloc ?_ _)); refine blk_far ?_ NB112_113.out _; (with_reducible repeat (first | refine blk_drewN ?_ _ | refine blk_drew ?_ | refine blk_alloc ?_ _)); refine blk_far ?_ NB112_113.out _; (with_reducible repeat (first | refine blk_drewN ?_ _ | refine blk_drew ?_ | refine blk_alloc ?_ _)); refine blk_far ?_ NB112_113.out _; (with_reducible repeat (first | refine blk_drewN ?_ _ | refine blk_drew ?_ | refine blk_alloc ?_ _)); refine blk_far ?_ NB112_113.out _; (with_reducible repeat (first | refine blk_drewN ?_ _ | refine blk_drew ?_ | refine blk_alloc ?_ _)); exact BK112.out⟩, ⟨by (with_reducible repeat (first | refine blk_drewN ?_ _ | refine blk_drew ?_ | refine blk_alloc ?_ _)); refine blk_put (cs := #[.int .i64 3, .int .i64 s0_1, .string (⟨#[]⟩ : ByteArray), .string (⟨#[]⟩ : ByteArray), .int .u64 0, .bool false]) ?_ 5 _ rfl; (with_reducible repeat (first | refine blk_drewN ?_ _ | refine blk_drew ?_ | refine blk_alloc ?_ _)); refine blk_put (cs := #[.int .i64 3, .int .i64 s0_1, .string (⟨#[]⟩ : ByteArray), .string (⟨#[]⟩ : ByteArray), .int .u64 0, .bool false]) ?_ 4 _ rfl; (with_reducible repeat (first | refine blk_drewN ?_ _ | refine blk_drew ?_ | refine blk_alloc ?_ _)); refine blk_put (cs := #[.int .i64 3, .int .i64 s0_1, .string (⟨#[]⟩ : ByteArray), .string (⟨#[]⟩ : ByteArray), .int .u64 0, .bool false]) ?_ 3 _ rfl; (with_reducible repeat (first | refine blk_drewN ?_ _ | refine blk_drew ?_ | refine blk_alloc ?_ _)); refine blk_put (cs := #[.int .i64 3, .int .i64 s0_1, .string (⟨#[]⟩ : ByteArray), .string (⟨#[]⟩ : ByteArray), .int .u64 0, .bool false]) ?_ 2 _ rfl; (with_reducible repeat (first | refine blk_drewN ?_ _ | refine blk_drew ?_ | refine blk_alloc ?_ _)); refine blk_put (cs := #[.int .i64 3, .int .i64 0, .string (⟨#[]⟩ : ByteArray), .string (⟨#[]⟩ : ByteArray), .int .u64 0, .bool false]) ?_ 1 _ rfl; (with_reducible repeat (first | refine blk_drewN ?_ _ | refine blk_drew ?_ | refine blk_alloc ?_ _)); refine blk_put (cs := #[.int .i64 0, .int .i64 0, .string (⟨#[]⟩ : ByteArray), .string (⟨#[]⟩ : ByteArray), .int .u64 0, .bool false]) ?_ 0 _ rfl; (with_reducible repeat (first | refine blk_drewN ?_ _ | refine blk_drew ?_ | refine blk_alloc ?_ _)); exact BK113.out⟩, ⟨by repeat (first | (with_reducible first | exact HI0.out | apply IsS45.alloc | apply IsS45.drewN | apply IsS45.drew | apply IsS45.set_0 | refine IsS45.set_1 (f1 := s0_1) ?_ _ | refine IsS45.far ?_ NB0_112.out _ | refine IsS45.far ?_ NB0_113.out _) | exact HI0.out)⟩, ⟨by repeat (first | (with_reducible first | exact HK.out | apply KeepBut.set_ | apply keep_drewN | apply keep_drew | apply keep_alloc | refine keep_far ?_ GW112.out _ | refine keep_far ?_ GW113.out _) | exact HK.out)⟩, ⟨by repeat (first | (with_reducible first | exact HB.out | apply below_alloc | apply pw_below_drewN | apply below_drew1 | refine below_set ?_ (IsS45.ge HI0.out) | refine below_set ?_ GE112.out | refine below_set ?_ GE113.out) | exact HB.out)⟩⟩
 case rest =>
  clear HC5
  try clear c1
  try clear c2
  try clear c2b0
  try clear c2b1
  try clear p2
  try clear c3
  try clear c3b0
  try clear c3b1
  try clear c9
  try clear c10
  try clear c12
  try clear c13
  try clear c14
  try clear hcz11_0
  try clear hcz11_1
  try clear hcz11_2
  try clear hcz11_3
  try clear hcz11_4
  try clear hcz11_5
  try clear hcz15_0
  try clear hcz15_1
  try clear hcz15_2
  try clear hcz15_3
  try clear hcz15_4
  try clear hcz15_5
  try clear hcz7_0
  try clear hcz7_1
  try clear hfz11_0
  try clear hfz11_1
  try clear hfz11_2
  try clear hfz11_3
  try clear hfz11_4
  try clear hfz11_5
  try clear hfz15_0
  try clear hfz15_1
  try clear hfz15_2
  try clear hfz15_3
  try clear hfz15_4
  try clear hfz15_5
  try clear hfz7_0
  try clear hfz7_1
  obtain ⟨kq, x6_4, x7_4, x114005_4, rfl, rfl, HA, HJ4, BK112, BK113, HI0, HK, HB⟩ := hcut
  cases kq with
  | zero => exact absurd HA.out (by simp [lex_reader_number.j0])
  | succ kj4 =>
   have H := HA.out
   clear HA
   simp only [lex_reader_number.j0] at H
   have HC16 := Aside0.mk H
   clear H
   go_upto_block 0 with (fail)
   repeat (go_quiet (fail); go_upto_block 0 with (fail))
   go_cut [7, 8, 9] (fun v7 v8 v9 wc => ∃ (kq : Nat) (x7_15 : Int) (x8_15 : Int) (x9_15 : Bool) (x114004_15 : Int), v7 = .int .i64 x7_15 ∧ v8 = .int .i64 x8_15 ∧ v9 = .bool x9_15 ∧ Aside0 (lex_reader_number.j2 kq R x7_15 x8_15 x9_15 s0_0 s0_1 3 s0_1 (⟨#[]⟩ : ByteArray) (⟨#[]⟩ : ByteArray) x114004_15 x114005_4 = some (r1, r2, r3, r4, r5, r6, r7, r8, r9)) ∧ Aside0 (kq ≤ kj4) ∧ Aside0 (wc.heap[gb112]? = some (.cells #[.int .i64 0, .int .i64 0, .string (⟨#[]⟩ : ByteArray), .string (⟨#[]⟩ : ByteArray), .int .u64 0, .bool false] 33 (0, 0))) ∧ Aside0 (wc.heap[gb113]? = some (.cells #[.int .i64 3, .int .i64 s0_1, .string (⟨#[]⟩ : ByteArray), .string (⟨#[]⟩ : ByteArray), .int .u64 x114004_15, .bool x114005_4] 33 (0, 0))) ∧ Aside0 (IsS45 w0 wc g s0_0 s0_1) ∧ Aside0 (KeepBut w wc g none) ∧ Aside0 (Below w0.heap.size w0 wc))
   case first =>
    have H := HC16.out
    clear HC16
    have H' := Aside0.mk H
    clear H
    go_wp2
    repeat (go_quiet (fail); try go_wp2)
    go_loopg [7, 8, 9] kj4 (fun kq v7 v8 v9 w' => ∃ (x7_2 : Int) (x8_2 : Int) (x9_2 : Bool) (x114004_2 : Int), v7 = .int .i64 x7_2 ∧ v8 = .int .i64 x8_2 ∧ v9 = .bool x9_2 ∧ Aside0 (lex_reader_number.l0 kq R x6_4 x7_2 x8_2 x9_2 s0_0 s0_1 3 s0_1 (⟨#[]⟩ : ByteArray) (⟨#[]⟩ : ByteArray) x114004_2 x114005_4 = some (r1, r2, r3, r4, r5, r6, r7, r8, r9)) ∧ Aside0 (kq ≤ kj4) ∧ Aside0 (w'.heap[gb112]? = some (.cells #[.int .i64 0, .int .i64 0, .string (⟨#[]⟩ : ByteArray), .string (⟨#[]⟩ : ByteArray), .int .u64 0, .bool false] 33 (0, 0))) ∧ Aside0 (w'.heap[gb113]? = some (.cells #[.int .i64 3, .int .i64 s0_1, .string (⟨#[]⟩ : ByteArray), .string (⟨#[]⟩ : ByteArray), .int .u64 x114004_2, .bool x114005_4] 33 (0, 0))) ∧ Aside0 (IsS45 w0 w' g s0_0 s0_1) ∧ Aside0 (KeepBut w w' g none) ∧ Aside0 (Below w0.heap.size w0 w'))
    case atStart => exact ⟨(x7_4), (0), (false), (0), (by first | rfl | (simp; done) | (simp [*]; done)), (by first | rfl | (simp; done) | (simp [*]; done)), (by first | rfl | (simp; done) | (simp [*]; done)), H', ⟨Nat.le_refl _⟩, ⟨by (with_reducible repeat (first | refine blk_drewN ?_ _ | refine blk_drew ?_ | refine blk_alloc ?_ _)); exact BK112.out⟩, ⟨by (with_reducible repeat (first | refine blk_drewN ?_ _ | refine blk_drew ?_ | refine blk_alloc ?_ _)); exact BK113.out⟩, ⟨by repeat (first | (with_reducible first | exact HI0.out | apply IsS45.alloc | apply IsS45.drewN | apply IsS45.drew | apply IsS45.set_0 | refine IsS45.set_1 (f1 := s0_1) ?_ _ | refine IsS45.far ?_ NB0_112.out _ | refine IsS45.far ?_ NB0_113.out _) | exact HI0.out)⟩, ⟨by repeat (first | (with_reducible first | exact HK.out | apply KeepBut.set_ | apply keep_drewN | apply keep_drew | apply keep_alloc | refine keep_far ?_ GW112.out _ | refine keep_far ?_ GW113.out _) | exact HK.out)⟩, ⟨by repeat (first | (with_reducible first | exact HB.out | apply below_alloc | apply pw_below_drewN | apply below_drew1 | refine below_set ?_ (IsS45.ge HI0.out) | refine below_set ?_ GE112.out | refine below_set ?_ GE113.out) | exact HB.out)⟩⟩
    case round =>
     clear H'
     try clear c1
     try clear c2
     try clear c2b0
     try clear c2b1
     try clear p2
     try clear c3
     try clear c3b0
     try clear c3b1
     try clear c9
     try clear c10
     try clear c12
     try clear c13
     try clear c14
     try clear hcz11_0
     try clear hcz11_1
     try clear hcz11_2
     try clear hcz11_3
     try clear hcz11_4
     try clear hcz11_5
     try clear hcz15_0
     try clear hcz15_1
     try clear hcz15_2
     try clear hcz15_3
     try clear hcz15_4
     try clear hcz15_5
     try clear hcz7_0
     try clear hcz7_1
     try clear hfz11_0
     try clear hfz11_1
     try clear hfz11_2
     try clear hfz11_3
     try clear hfz11_4
     try clear hfz11_5
     try clear hfz15_0
     try clear hfz15_1
     try clear hfz15_2
     try clear hfz15_3
     try clear hfz15_4
     try clear hfz15_5
     try clear hfz7_0
     try clear hfz7_1
     try clear p2
     obtain ⟨x7_2, x8_2, x9_2, x114004_2, rfl, rfl, rfl, HA, HK2, BK112, BK113, HI0, HK, HB⟩ := hrel
     cases gk with
     | zero => exact absurd HA.out (by simp [lex_reader_number.l0])
     | succ k2 =>
      have H := HA.out
      clear HA
      simp only [lex_reader_number.l0] at H
      by_cases c17 : x7_2 < (R.size : Int)
      ·
       rw [if_pos c17] at H
       have c17b0 : decide (x7_2 < (R.size : Int)) = true := decide_eq_true c17
       clear c17
       (first | rw [c17b0] | (simp only [i64_w, i32_w]; rw [c17b0]) | skip)
       by_cases c18 : 0 ≤ x7_2
       case neg => rw [if_neg c18] at H; exact absurd H (by simp)
       rw [if_pos c18] at H
       have c18b0 : decide (0 ≤ x7_2) = true := decide_eq_true c18
       clear c18
       replace H := Option.bind_eq_some_iff.mp H
       obtain ⟨t115, A200, H⟩ := H
       replace H : (if t115 ≥ 0 then (if x8_2 = 0 then ((lex_value.f k2 (bt R x7_2) x6_4).bind fun t116 => (if x9_2 = true then (lex_reader_number.l0 k2 R x6_4 (wrap64 (x7_2 + 1)) (wrap64 (x8_2 + 1)) true s0_0 s0_1 3 s0_1 (⟨#[]⟩ : ByteArray) (⟨#[]⟩ : ByteArray) (IntKind.u64.wrap ((IntKind.u64.wrap (x114004_2 * x6_4)) + (IntKind.u64.wrap (t116)))) x114005_4) else (if x6_4 = 0 then (none) else (lex_reader_number.l0 k2 R x6_4 (wrap64 (x7_2 + 1)) (wrap64 (x8_2 + 1)) (decide (x114004_2 > (IntKind.u64.wrap (Int.tdiv (IntKind.u64.wrap (18446744073709551615 - (IntKind.u64.wrap (t116)))) x6_4)))) s0_0 s0_1 3 s0_1 (⟨#[]⟩ : ByteArray) (⟨#[]⟩ : ByteArray) (IntKind.u64.wrap ((IntKind.u64.wrap (x114004_2 * x6_4)) + (IntKind.u64.wrap (t116)))) x114005_4)))) else (if x6_4 = 16 then ((lex_value.f k2 (bt R x7_2) x6_4).bind fun t117 => (if x9_2 = true then (lex_reader_number.l0 k2 R x6_4 (wrap64 (x7_2 + 1)) (wrap64 (x8_2 + 1)) true s0_0 s0_1 3 s0_1 (⟨#[]⟩ : ByteArray) (⟨#[]⟩ : ByteArray) (IntKind.u64.wrap ((IntKind.u64.wrap (x114004_2 * x6_4)) + (IntKind.u64.wrap (t117)))) x114005_4) else (if x6_4 = 0 then (none) else (lex_reader_number.l0 k2 R x6_4 (wrap64 (x7_2 + 1)) (wrap64 (x8_2 + 1)) (decide (x114004_2 > (IntKind.u64.wrap (Int.tdiv (IntKind.u64.wrap (18446744073709551615 - (IntKind.u64.wrap (t117)))) x6_4)))) s0_0 s0_1 3 s0_1 (⟨#[]⟩ : ByteArray) (⟨#[]⟩ : ByteArray) (IntKind.u64.wrap ((IntKind.u64.wrap (x114004_2 * x6_4)) + (IntKind.u64.wrap (t117)))) x114005_4)))) else (if 0 < (R.size : Int) then (if (bt R 0) = 48 then (lex_reader_number.j2 k2 R x7_2 x8_2 x9_2 s0_0 s0_1 3 s0_1 (⟨#[]⟩ : ByteArray) (⟨#[]⟩ : ByteArray) x114004_2 x114005_4) else ((lex_value.f k2 (bt R x7_2) x6_4).bind fun t118 => (if x9_2 = true then (lex_reader_number.l0 k2 R x6_4 (wrap64 (x7_2 + 1)) (wrap64 (x8_2 + 1)) true s0_0 s0_1 3 s0_1 (⟨#[]⟩ : ByteArray) (⟨#[]⟩ : ByteArray) (IntKind.u64.wrap ((IntKind.u64.wrap (x114004_2 * x6_4)) + (IntKind.u64.wrap (t118)))) x114005_4) else (if x6_4 = 0 then (none) else (lex_reader_number.l0 k2 R x6_4 (wrap64 (x7_2 + 1)) (wrap64 (x8_2 + 1)) (decide (x114004_2 > (IntKind.u64.wrap (Int.tdiv (IntKind.u64.wrap (18446744073709551615 - (IntKind.u64.wrap (t118)))) x6_4)))) s0_0 s0_1 3 s0_1 (⟨#[]⟩ : ByteArray) (⟨#[]⟩ : ByteArray) (IntKind.u64.wrap ((IntKind.u64.wrap (x114004_2 * x6_4)) + (IntKind.u64.wrap (t118)))) x114005_4))))) else (none)))) else (lex_reader_number.j2 k2 R x7_2 x8_2 x9_2 s0_0 s0_1 3 s0_1 (⟨#[]⟩ : ByteArray) (⟨#[]⟩ : ByteArray) x114004_2 x114005_4)) = some (r1, r2, r3, r4, r5, r6, r7, r8, r9) := H
       have A20 := Aside0.mk A200
       clear A200
       by_cases c21 : t115 ≥ 0
       ·
        rw [if_pos c21] at H
        have c21b0 : decide (0 ≤ t115) = true := decide_eq_true c21
        clear c21
        by_cases c22 : x8_2 = 0
        ·
         rw [if_pos c22] at H
         have c22b0 : (x8_2 == 0) = true := beq_iff_eq.mpr c22
         have c22b1 : (x8_2 != 0) = false := bne_eq_false_iff_eq.mpr c22
         clear c22
         replace H := Option.bind_eq_some_iff.mp H
         obtain ⟨t116, A240, H⟩ := H
         replace H : (if x9_2 = true then (lex_reader_number.l0 k2 R x6_4 (wrap64 (x7_2 + 1)) (wrap64 (x8_2 + 1)) true s0_0 s0_1 3 s0_1 (⟨#[]⟩ : ByteArray) (⟨#[]⟩ : ByteArray) (IntKind.u64.wrap ((IntKind.u64.wrap (x114004_2 * x6_4)) + (IntKind.u64.wrap (t116)))) x114005_4) else (if x6_4 = 0 then (none) else (lex_reader_number.l0 k2 R x6_4 (wrap64 (x7_2 + 1)) (wrap64 (x8_2 + 1)) (decide (x114004_2 > (IntKind.u64.wrap (Int.tdiv (IntKind.u64.wrap (18446744073709551615 - (IntKind.u64.wrap (t116)))) x6_4)))) s0_0 s0_1 3 s0_1 (⟨#[]⟩ : ByteArray) (⟨#[]⟩ : ByteArray) (IntKind.u64.wrap ((IntKind.u64.wrap (x114004_2 * x6_4)) + (IntKind.u64.wrap (t116)))) x114005_4))) = some (r1, r2, r3, r4, r5, r6, r7, r8, r9) := H
         have A24 := Aside0.mk A240
         clear A240
         by_cases c25 : x9_2 = true
         ·
          subst c25
          have H1 : (lex_reader_number.l0 k2 R x6_4 (wrap64 (x7_2 + 1)) (wrap64 (x8_2 + 1)) true s0_0 s0_1 3 s0_1 (⟨#[]⟩ : ByteArray) (⟨#[]⟩ : ByteArray) (IntKind.u64.wrap ((IntKind.u64.wrap (x114004_2 * x6_4)) + (IntKind.u64.wrap (t116)))) x114005_4) = some (r1, r2, r3, r4, r5, r6, r7, r8, r9) := by rw [if_pos rfl] at H; exact H
          clear H
          have H := H1
          clear H1
          have H' := Aside0.mk H
          clear H
          have p19 : 0 ≤ (x7_2 : Int) := of_decide_eq_true (by first | (with_reducible assumption) | assumption)
          have q19 : x7_2 < (R.size : Int) := of_decide_eq_true (by first | (with_reducible assumption) | assumption)
          have hx19 := bt_at R x7_2
          replace p19 := eq_true p19
          replace q19 := eq_true q19
          have he_ : t116 = t115 := Option.some.inj (A24.out.symm.trans A20.out)
          subst he_
          go_wp2_with (first | (go_at_call 45; (with_reducible refine (lex_value.calls k2 (bt R x7_2) x6_4 t115 _ A20.out).mono ?_); rintro e w' ⟨rfl, ⟨nd, rfl⟩⟩; (try first | exact ⟨rfl, _, World.drewN_drewN _ _ _⟩ | exact ⟨rfl, _, Eq.trans (World.drewN_drewN _ _ _) (congrArg (World.drewN _) (Nat.add_assoc _ _ _))⟩); have p23 : 0 ≤ (x7_2 : Int) := of_decide_eq_true (by first | (with_reducible assumption) | assumption); have q23 : x7_2 < (R.size : Int) := of_decide_eq_true (by first | (with_reducible assumption) | assumption); have hx23 := bt_at R x7_2; replace p23 := eq_true p23; replace q23 := eq_true q23) | (go_at_call 45; (with_reducible refine (lex_value.calls k2 (bt R x7_2) x6_4 t116 _ A24.out).mono ?_); rintro e w' ⟨rfl, ⟨nd, rfl⟩⟩; (try first | exact ⟨rfl, _, World.drewN_drewN _ _ _⟩ | exact ⟨rfl, _, Eq.trans (World.drewN_drewN _ _ _) (congrArg (World.drewN _) (Nat.add_assoc _ _ _))⟩); have hnb26 := NB113_112.out; have hnc26 := NB112_113.out; have hnb27 := NB113_0.out; have hnc27 := NB0_113.out; have hcz28_0 : wr.cell? ⟨gb113, 0, none⟩ = some (.int .i64 3) := (blk_cell BK113.out 0).trans rfl; have hcz28_1 : wr.cell? ⟨gb113, 1, none⟩ = some (.int .i64 s0_1) := (blk_cell BK113.out 1).trans rfl; have hcz28_2 : wr.cell? ⟨gb113, 2, none⟩ = some (.string (⟨#[]⟩ : ByteArray)) := (blk_cell BK113.out 2).trans rfl; have hcz28_3 : wr.cell? ⟨gb113, 3, none⟩ = some (.string (⟨#[]⟩ : ByteArray)) := (blk_cell BK113.out 3).trans rfl; have hcz28_4 : wr.cell? ⟨gb113, 4, none⟩ = some (.int .u64 x114004_2) := (blk_cell BK113.out 4).trans rfl; have hcz28_5 : wr.cell? ⟨gb113, 5, none⟩ = some (.bool x114005_4) := (blk_cell BK113.out 5).trans rfl; have hfz28_0 := blk_frozen BK113.out 0; have hfz28_1 := blk_frozen BK113.out 1; have hfz28_2 := blk_frozen BK113.out 2; have hfz28_3 := blk_frozen BK113.out 3; have hfz28_4 := blk_frozen BK113.out 4; have hfz28_5 := blk_frozen BK113.out 5))
          repeat (go_quiet (first | (go_at_call 45; (with_reducible refine (lex_value.calls k2 (bt R x7_2) x6_4 t115 _ A20.out).mono ?_); rintro e w' ⟨rfl, ⟨nd, rfl⟩⟩; (try first | exact ⟨rfl, _, World.drewN_drewN _ _ _⟩ | exact ⟨rfl, _, Eq.trans (World.drewN_drewN _ _ _) (congrArg (World.drewN _) (Nat.add_assoc _ _ _))⟩); have p23 : 0 ≤ (x7_2 : Int) := of_decide_eq_true (by first | (with_reducible assumption) | assumption); have q23 : x7_2 < (R.size : Int) := of_decide_eq_true (by first | (with_reducible assumption) | assumption); have hx23 := bt_at R x7_2; replace p23 := eq_true p23; replace q23 := eq_true q23) | (go_at_call 45; (with_reducible refine (lex_value.calls k2 (bt R x7_2) x6_4 t116 _ A24.out).mono ?_); rintro e w' ⟨rfl, ⟨nd, rfl⟩⟩; (try first | exact ⟨rfl, _, World.drewN_drewN _ _ _⟩ | exact ⟨rfl, _, Eq.trans (World.drewN_drewN _ _ _) (congrArg (World.drewN _) (Nat.add_assoc _ _ _))⟩); have hnb26 := NB113_112.out; have hnc26 := NB112_113.out; have hnb27 := NB113_0.out; have hnc27 := NB0_113.out; have hcz28_0 : wr.cell? ⟨gb113, 0, none⟩ = some (.int .i64 3) := (blk_cell BK113.out 0).trans rfl; have hcz28_1 : wr.cell? ⟨gb113, 1, none⟩ = some (.int .i64 s0_1) := (blk_cell BK113.out 1).trans rfl; have hcz28_2 : wr.cell? ⟨gb113, 2, none⟩ = some (.string (⟨#[]⟩ : ByteArray)) := (blk_cell BK113.out 2).trans rfl; have hcz28_3 : wr.cell? ⟨gb113, 3, none⟩ = some (.string (⟨#[]⟩ : ByteArray)) := (blk_cell BK113.out 3).trans rfl; have hcz28_4 : wr.cell? ⟨gb113, 4, none⟩ = some (.int .u64 x114004_2) := (blk_cell BK113.out 4).trans rfl; have hcz28_5 : wr.cell? ⟨gb113, 5, none⟩ = some (.bool x114005_4) := (blk_cell BK113.out 5).trans rfl; have hfz28_0 := blk_frozen BK113.out 0; have hfz28_1 := blk_frozen BK113.out 1; have hfz28_2 := blk_frozen BK113.out 2; have hfz28_3 := blk_frozen BK113.out 3; have hfz28_4 := blk_frozen BK113.out 4; have hfz28_5 := blk_frozen BK113.out 5)); try go_wp2_with (first | (go_at_call 45; (with_reducible refine (lex_value.calls k2 (bt R x7_2) x6_4 t115 _ A20.out).mono ?_); rintro e w' ⟨rfl, ⟨nd, rfl⟩⟩; (try first | exact ⟨rfl, _, World.drewN_drewN _ _ _⟩ | exact ⟨rfl, _, Eq.trans (World.drewN_drewN _ _ _) (congrArg (World.drewN _) (Nat.add_assoc _ _ _))⟩); have p23 : 0 ≤ (x7_2 : Int) := of_decide_eq_true (by first | (with_reducible assumption) | assumption); have q23 : x7_2 < (R.size : Int) := of_decide_eq_true (by first | (with_reducible assumption) | assumption); have hx23 := bt_at R x7_2; replace p23 := eq_true p23; replace q23 := eq_true q23) | (go_at_call 45; (with_reducible refine (lex_value.calls k2 (bt R x7_2) x6_4 t116 _ A24.out).mono ?_); rintro e w' ⟨rfl, ⟨nd, rfl⟩⟩; (try first | exact ⟨rfl, _, World.drewN_drewN _ _ _⟩ | exact ⟨rfl, _, Eq.trans (World.drewN_drewN _ _ _) (congrArg (World.drewN _) (Nat.add_assoc _ _ _))⟩); have hnb26 := NB113_112.out; have hnc26 := NB112_113.out; have hnb27 := NB113_0.out; have hnc27 := NB0_113.out; have hcz28_0 : wr.cell? ⟨gb113, 0, none⟩ = some (.int .i64 3) := (blk_cell BK113.out 0).trans rfl; have hcz28_1 : wr.cell? ⟨gb113, 1, none⟩ = some (.int .i64 s0_1) := (blk_cell BK113.out 1).trans rfl; have hcz28_2 : wr.cell? ⟨gb113, 2, none⟩ = some (.string (⟨#[]⟩ : ByteArray)) := (blk_cell BK113.out 2).trans rfl; have hcz28_3 : wr.cell? ⟨gb113, 3, none⟩ = some (.string (⟨#[]⟩ : ByteArray)) := (blk_cell BK113.out 3).trans rfl; have hcz28_4 : wr.cell? ⟨gb113, 4, none⟩ = some (.int .u64 x114004_2) := (blk_cell BK113.out 4).trans rfl; have hcz28_5 : wr.cell? ⟨gb113, 5, none⟩ = some (.bool x114005_4) := (blk_cell BK113.out 5).trans rfl; have hfz28_0 := blk_frozen BK113.out 0; have hfz28_1 := blk_frozen BK113.out 1; have hfz28_2 := blk_frozen BK113.out 2; have hfz28_3 := blk_frozen BK113.out 3; have hfz28_4 := blk_frozen BK113.out 4; have hfz28_5 := blk_frozen BK113.out 5)))
          go_roundg k2
          case measure => have := HJ4.out; have := HK2.out; omega
          case rel => exact ⟨(wrap64 (x7_2 + 1)), (wrap64 (x8_2 + 1)), (true), (IntKind.u64.wrap ((IntKind.u64.wrap (x114004_2 * x6_4)) + (IntKind.u64.wrap (t116)))), (by first | rfl | (simp; done) | (simp [*]; done)), (by first | rfl | (simp; done) | (simp [*]; done)), (by first | rfl | (simp; done) | (simp [*]; done)), H', ⟨by have := HJ4.out; have := HK2.out; omega⟩, ⟨by (with_reducible repeat (first | refine blk_drewN ?_ _ | refine blk_drew ?_ | refine blk_alloc ?_ _)); refine blk_far ?_ NB112_113.out _; (with_reducible repeat (first | refine blk_drewN ?_ _ | refine blk_drew ?_ | refine blk_alloc ?_ _)); exact BK112.out⟩, ⟨by (with_reducible repeat (first | refine blk_drewN ?_ _ | refine blk_drew ?_ | refine blk_alloc ?_ _)); refine blk_put (cs := #[.int .i64 3, .int .i64 s0_1, .string (⟨#[]⟩ : ByteArray), .string (⟨#[]⟩ : ByteArray), .int .u64 x114004_2, .bool x114005_4]) ?_ 4 _ rfl; (with_reducible repeat (first | refine blk_drewN ?_ _ | refine blk_drew ?_ | refine blk_alloc ?_ _)); exact BK113.out⟩, ⟨by repeat (first | (with_reducible first | exact HI0.out | apply IsS45.alloc | apply IsS45.drewN | apply IsS45.drew | apply IsS45.set_0 | refine IsS45.set_1 (f1 := s0_1) ?_ _ | refine IsS45.far ?_ NB0_112.out _ | refine IsS45.far ?_ NB0_113.out _) | exact HI0.out)⟩, ⟨by repeat (first | (with_reducible first | exact HK.out | apply KeepBut.set_ | apply keep_drewN | apply keep_drew | apply keep_alloc | refine keep_far ?_ GW112.out _ | refine keep_far ?_ GW113.out _) | exact HK.out)⟩, ⟨by repeat (first | (with_reducible first | exact HB.out | apply below_alloc | apply pw_below_drewN | apply below_drew1 | refine below_set ?_ (IsS45.ge HI0.out) | refine below_set ?_ GE112.out | refine below_set ?_ GE113.out) | exact HB.out)⟩⟩
         ·
          replace c25 := Bool.eq_false_iff.mpr c25
          subst c25
          have H1 : (if x6_4 = 0 then (none) else (lex_reader_number.l0 k2 R x6_4 (wrap64 (x7_2 + 1)) (wrap64 (x8_2 + 1)) (decide (x114004_2 > (IntKind.u64.wrap (Int.tdiv (IntKind.u64.wrap (18446744073709551615 - (IntKind.u64.wrap (t116)))) x6_4)))) s0_0 s0_1 3 s0_1 (⟨#[]⟩ : ByteArray) (⟨#[]⟩ : ByteArray) (IntKind.u64.wrap ((IntKind.u64.wrap (x114004_2 * x6_4)) + (IntKind.u64.wrap (t116)))) x114005_4)) = some (r1, r2, r3, r4, r5, r6, r7, r8, r9) := by rw [if_neg (show ¬ (false = true) by decide)] at H; exact H
          clear H
          have H := H1
          clear H1
          by_cases c29 : x6_4 = 0
          ·
           rw [if_pos c29] at H
           exact absurd H (by simp)
          ·
           rw [if_neg c29] at H
           have c29b0 : (x6_4 == 0) = false := beq_eq_false_iff_ne.mpr c29
           have c29b1 : (x6_4 != 0) = true := bne_iff_ne.mpr c29
           have H' := Aside0.mk H
           clear H
           have p19 : 0 ≤ (x7_2 : Int) := of_decide_eq_true (by first | (with_reducible assumption) | assumption)
           have q19 : x7_2 < (R.size : Int) := of_decide_eq_true (by first | (with_reducible assumption) | assumption)
           have hx19 := bt_at R x7_2
           replace p19 := eq_true p19
           replace q19 := eq_true q19
           have he_ : t116 = t115 := Option.some.inj (A24.out.symm.trans A20.out)
           subst he_
           go_wp2_with (first | (go_at_call 45; (with_reducible refine (lex_value.calls k2 (bt R x7_2) x6_4 t115 _ A20.out).mono ?_); rintro e w' ⟨rfl, ⟨nd, rfl⟩⟩; (try first | exact ⟨rfl, _, World.drewN_drewN _ _ _⟩ | exact ⟨rfl, _, Eq.trans (World.drewN_drewN _ _ _) (congrArg (World.drewN _) (Nat.add_assoc _ _ _))⟩); have p23 : 0 ≤ (x7_2 : Int) := of_decide_eq_true (by first | (with_reducible assumption) | assumption); have q23 : x7_2 < (R.size : Int) := of_decide_eq_true (by first | (with_reducible assumption) | assumption); have hx23 := bt_at R x7_2; replace p23 := eq_true p23; replace q23 := eq_true q23) | (go_at_call 45; (with_reducible refine (lex_value.calls k2 (bt R x7_2) x6_4 t116 _ A24.out).mono ?_); rintro e w' ⟨rfl, ⟨nd, rfl⟩⟩; (try first | exact ⟨rfl, _, World.drewN_drewN _ _ _⟩ | exact ⟨rfl, _, Eq.trans (World.drewN_drewN _ _ _) (congrArg (World.drewN _) (Nat.add_assoc _ _ _))⟩); have hnb30 := NB113_112.out; have hnc30 := NB112_113.out; have hnb31 := NB113_0.out; have hnc31 := NB0_113.out; have hcz32_0 : wr.cell? ⟨gb113, 0, none⟩ = some (.int .i64 3) := (blk_cell BK113.out 0).trans rfl; have hcz32_1 : wr.cell? ⟨gb113, 1, none⟩ = some (.int .i64 s0_1) := (blk_cell BK113.out 1).trans rfl; have hcz32_2 : wr.cell? ⟨gb113, 2, none⟩ = some (.string (⟨#[]⟩ : ByteArray)) := (blk_cell BK113.out 2).trans rfl; have hcz32_3 : wr.cell? ⟨gb113, 3, none⟩ = some (.string (⟨#[]⟩ : ByteArray)) := (blk_cell BK113.out 3).trans rfl; have hcz32_4 : wr.cell? ⟨gb113, 4, none⟩ = some (.int .u64 x114004_2) := (blk_cell BK113.out 4).trans rfl; have hcz32_5 : wr.cell? ⟨gb113, 5, none⟩ = some (.bool x114005_4) := (blk_cell BK113.out 5).trans rfl; have hfz32_0 := blk_frozen BK113.out 0; have hfz32_1 := blk_frozen BK113.out 1; have hfz32_2 := blk_frozen BK113.out 2; have hfz32_3 := blk_frozen BK113.out 3; have hfz32_4 := blk_frozen BK113.out 4; have hfz32_5 := blk_frozen BK113.out 5))
           repeat (go_quiet (first | (go_at_call 45; (with_reducible refine (lex_value.calls k2 (bt R x7_2) x6_4 t115 _ A20.out).mono ?_); rintro e w' ⟨rfl, ⟨nd, rfl⟩⟩; (try first | exact ⟨rfl, _, World.drewN_drewN _ _ _⟩ | exact ⟨rfl, _, Eq.trans (World.drewN_drewN _ _ _) (congrArg (World.drewN _) (Nat.add_assoc _ _ _))⟩); have p23 : 0 ≤ (x7_2 : Int) := of_decide_eq_true (by first | (with_reducible assumption) | assumption); have q23 : x7_2 < (R.size : Int) := of_decide_eq_true (by first | (with_reducible assumption) | assumption); have hx23 := bt_at R x7_2; replace p23 := eq_true p23; replace q23 := eq_true q23) | (go_at_call 45; (with_reducible refine (lex_value.calls k2 (bt R x7_2) x6_4 t116 _ A24.out).mono ?_); rintro e w' ⟨rfl, ⟨nd, rfl⟩⟩; (try first | exact ⟨rfl, _, World.drewN_drewN _ _ _⟩ | exact ⟨rfl, _, Eq.trans (World.drewN_drewN _ _ _) (congrArg (World.drewN _) (Nat.add_assoc _ _ _))⟩); have hnb30 := NB113_112.out; have hnc30 := NB112_113.out; have hnb31 := NB113_0.out; have hnc31 := NB0_113.out; have hcz32_0 : wr.cell? ⟨gb113, 0, none⟩ = some (.int .i64 3) := (blk_cell BK113.out 0).trans rfl; have hcz32_1 : wr.cell? ⟨gb113, 1, none⟩ = some (.int .i64 s0_1) := (blk_cell BK113.out 1).trans rfl; have hcz32_2 : wr.cell? ⟨gb113, 2, none⟩ = some (.string (⟨#[]⟩ : ByteArray)) := (blk_cell BK113.out 2).trans rfl; have hcz32_3 : wr.cell? ⟨gb113, 3, none⟩ = some (.string (⟨#[]⟩ : ByteArray)) := (blk_cell BK113.out 3).trans rfl; have hcz32_4 : wr.cell? ⟨gb113, 4, none⟩ = some (.int .u64 x114004_2) := (blk_cell BK113.out 4).trans rfl; have hcz32_5 : wr.cell? ⟨gb113, 5, none⟩ = some (.bool x114005_4) := (blk_cell BK113.out 5).trans rfl; have hfz32_0 := blk_frozen BK113.out 0; have hfz32_1 := blk_frozen BK113.out 1; have hfz32_2 := blk_frozen BK113.out 2; have hfz32_3 := blk_frozen BK113.out 3; have hfz32_4 := blk_frozen BK113.out 4; have hfz32_5 := blk_frozen BK113.out 5)); try go_wp2_with (first | (go_at_call 45; (with_reducible refine (lex_value.calls k2 (bt R x7_2) x6_4 t115 _ A20.out).mono ?_); rintro e w' ⟨rfl, ⟨nd, rfl⟩⟩; (try first | exact ⟨rfl, _, World.drewN_drewN _ _ _⟩ | exact ⟨rfl, _, Eq.trans (World.drewN_drewN _ _ _) (congrArg (World.drewN _) (Nat.add_assoc _ _ _))⟩); have p23 : 0 ≤ (x7_2 : Int) := of_decide_eq_true (by first | (with_reducible assumption) | assumption); have q23 : x7_2 < (R.size : Int) := of_decide_eq_true (by first | (with_reducible assumption) | assumption); have hx23 := bt_at R x7_2; replace p23 := eq_true p23; replace q23 := eq_true q23) | (go_at_call 45; (with_reducible refine (lex_value.calls k2 (bt R x7_2) x6_4 t116 _ A24.out).mono ?_); rintro e w' ⟨rfl, ⟨nd, rfl⟩⟩; (try first | exact ⟨rfl, _, World.drewN_drewN _ _ _⟩ | exact ⟨rfl, _, Eq.trans (World.drewN_drewN _ _ _) (congrArg (World.drewN _) (Nat.add_assoc _ _ _))⟩); have hnb30 := NB113_112.out; have hnc30 := NB112_113.out; have hnb31 := NB113_0.out; have hnc31 := NB0_113.out; have hcz32_0 : wr.cell? ⟨gb113, 0, none⟩ = some (.int .i64 3) := (blk_cell BK113.out 0).trans rfl; have hcz32_1 : wr.cell? ⟨gb113, 1, none⟩ = some (.int .i64 s0_1) := (blk_cell BK113.out 1).trans rfl; have hcz32_2 : wr.cell? ⟨gb113, 2, none⟩ = some (.string (⟨#[]⟩ : ByteArray)) := (blk_cell BK113.out 2).trans rfl; have hcz32_3 : wr.cell? ⟨gb113, 3, none⟩ = some (.string (⟨#[]⟩ : ByteArray)) := (blk_cell BK113.out 3).trans rfl; have hcz32_4 : wr.cell? ⟨gb113, 4, none⟩ = some (.int .u64 x114004_2) := (blk_cell BK113.out 4).trans rfl; have hcz32_5 : wr.cell? ⟨gb113, 5, none⟩ = some (.bool x114005_4) := (blk_cell BK113.out 5).trans rfl; have hfz32_0 := blk_frozen BK113.out 0; have hfz32_1 := blk_frozen BK113.out 1; have hfz32_2 := blk_frozen BK113.out 2; have hfz32_3 := blk_frozen BK113.out 3; have hfz32_4 := blk_frozen BK113.out 4; have hfz32_5 := blk_frozen BK113.out 5)))
           go_roundg k2
           case measure => have := HJ4.out; have := HK2.out; omega
           case rel => exact ⟨(wrap64 (x7_2 + 1)), (wrap64 (x8_2 + 1)), (decide (x114004_2 > (IntKind.u64.wrap (Int.tdiv (IntKind.u64.wrap (18446744073709551615 - (IntKind.u64.wrap (t116)))) x6_4)))), (IntKind.u64.wrap ((IntKind.u64.wrap (x114004_2 * x6_4)) + (IntKind.u64.wrap (t116)))), (by first | rfl | (simp; done) | (simp [*]; done)), (by first | rfl | (simp; done) | (simp [*]; done)), (by first | rfl | (simp; done) | (simp [*]; done)), H', ⟨by have := HJ4.out; have := HK2.out; omega⟩, ⟨by (with_reducible repeat (first | refine blk_drewN ?_ _ | refine blk_drew ?_ | refine blk_alloc ?_ _)); refine blk_far ?_ NB112_113.out _; (with_reducible repeat (first | refine blk_drewN ?_ _ | refine blk_drew ?_ | refine blk_alloc ?_ _)); exact BK112.out⟩, ⟨by (with_reducible repeat (first | refine blk_drewN ?_ _ | refine blk_drew ?_ | refine blk_alloc ?_ _)); refine blk_put (cs := #[.int .i64 3, .int .i64 s0_1, .string (⟨#[]⟩ : ByteArray), .string (⟨#[]⟩ : ByteArray), .int .u64 x114004_2, .bool x114005_4]) ?_ 4 _ rfl; (with_reducible repeat (first | refine blk_drewN ?_ _ | refine blk_drew ?_ | refine blk_alloc ?_ _)); exact BK113.out⟩, ⟨by repeat (first | (with_reducible first | exact HI0.out | apply IsS45.alloc | apply IsS45.drewN | apply IsS45.drew | apply IsS45.set_0 | refine IsS45.set_1 (f1 := s0_1) ?_ _ | refine IsS45.far ?_ NB0_112.out _ | refine IsS45.far ?_ NB0_113.out _) | exact HI0.out)⟩, ⟨by repeat (first | (with_reducible first | exact HK.out | apply KeepBut.set_ | apply keep_drewN | apply keep_drew | apply keep_alloc | refine keep_far ?_ GW112.out _ | refine keep_far ?_ GW113.out _) | exact HK.out)⟩, ⟨by repeat (first | (with_reducible first | exact HB.out | apply below_alloc | apply pw_below_drewN | apply below_drew1 | refine below_set ?_ (IsS45.ge HI0.out) | refine below_set ?_ GE112.out | refine below_set ?_ GE113.out) | exact HB.out)⟩⟩
        ·
         rw [if_neg c22] at H
         have c22b0 : (x8_2 == 0) = false := beq_eq_false_iff_ne.mpr c22
         have c22b1 : (x8_2 != 0) = true := bne_iff_ne.mpr c22
         by_cases c33 : x6_4 = 16
         ·
          rw [if_pos c33] at H
          have c33b0 : (x6_4 == 16) = true := beq_iff_eq.mpr c33
          have c33b1 : (x6_4 != 16) = false := bne_eq_false_iff_eq.mpr c33
          clear c33
          replace H := Option.bind_eq_some_iff.mp H
          obtain ⟨t117, A350, H⟩ := H
          replace H : (if x9_2 = true then (lex_reader_number.l0 k2 R x6_4 (wrap64 (x7_2 + 1)) (wrap64 (x8_2 + 1)) true s0_0 s0_1 3 s0_1 (⟨#[]⟩ : ByteArray) (⟨#[]⟩ : ByteArray) (IntKind.u64.wrap ((IntKind.u64.wrap (x114004_2 * x6_4)) + (IntKind.u64.wrap (t117)))) x114005_4) else (if x6_4 = 0 then (none) else (lex_reader_number.l0 k2 R x6_4 (wrap64 (x7_2 + 1)) (wrap64 (x8_2 + 1)) (decide (x114004_2 > (IntKind.u64.wrap (Int.tdiv (IntKind.u64.wrap (18446744073709551615 - (IntKind.u64.wrap (t117)))) x6_4)))) s0_0 s0_1 3 s0_1 (⟨#[]⟩ : ByteArray) (⟨#[]⟩ : ByteArray) (IntKind.u64.wrap ((IntKind.u64.wrap (x114004_2 * x6_4)) + (IntKind.u64.wrap (t117)))) x114005_4))) = some (r1, r2, r3, r4, r5, r6, r7, r8, r9) := H
          have A35 := Aside0.mk A350
          clear A350
          by_cases c36 : x9_2 = true
          ·
           subst c36
           have H1 : (lex_reader_number.l0 k2 R x6_4 (wrap64 (x7_2 + 1)) (wrap64 (x8_2 + 1)) true s0_0 s0_1 3 s0_1 (⟨#[]⟩ : ByteArray) (⟨#[]⟩ : ByteArray) (IntKind.u64.wrap ((IntKind.u64.wrap (x114004_2 * x6_4)) + (IntKind.u64.wrap (t117)))) x114005_4) = some (r1, r2, r3, r4, r5, r6, r7, r8, r9) := by rw [if_pos rfl] at H; exact H
           clear H
           have H := H1
           clear H1
           have H' := Aside0.mk H
           clear H
           have p19 : 0 ≤ (x7_2 : Int) := of_decide_eq_true (by first | (with_reducible assumption) | assumption)
           have q19 : x7_2 < (R.size : Int) := of_decide_eq_true (by first | (with_reducible assumption) | assumption)
           have hx19 := bt_at R x7_2
           replace p19 := eq_true p19
           replace q19 := eq_true q19
           have he_ : t117 = t115 := Option.some.inj (A35.out.symm.trans A20.out)
           subst he_
           go_wp2_with (first | (go_at_call 45; (with_reducible refine (lex_value.calls k2 (bt R x7_2) x6_4 t115 _ A20.out).mono ?_); rintro e w' ⟨rfl, ⟨nd, rfl⟩⟩; (try first | exact ⟨rfl, _, World.drewN_drewN _ _ _⟩ | exact ⟨rfl, _, Eq.trans (World.drewN_drewN _ _ _) (congrArg (World.drewN _) (Nat.add_assoc _ _ _))⟩); have p34 : 0 ≤ (x7_2 : Int) := of_decide_eq_true (by first | (with_reducible assumption) | assumption); have q34 : x7_2 < (R.size : Int) := of_decide_eq_true (by first | (with_reducible assumption) | assumption); have hx34 := bt_at R x7_2; replace p34 := eq_true p34; replace q34 := eq_true q34) | (go_at_call 45; (with_reducible refine (lex_value.calls k2 (bt R x7_2) x6_4 t117 _ A35.out).mono ?_); rintro e w' ⟨rfl, ⟨nd, rfl⟩⟩; (try first | exact ⟨rfl, _, World.drewN_drewN _ _ _⟩ | exact ⟨rfl, _, Eq.trans (World.drewN_drewN _ _ _) (congrArg (World.drewN _) (Nat.add_assoc _ _ _))⟩); have hnb37 := NB113_112.out; have hnc37 := NB112_113.out; have hnb38 := NB113_0.out; have hnc38 := NB0_113.out; have hcz39_0 : wr.cell? ⟨gb113, 0, none⟩ = some (.int .i64 3) := (blk_cell BK113.out 0).trans rfl; have hcz39_1 : wr.cell? ⟨gb113, 1, none⟩ = some (.int .i64 s0_1) := (blk_cell BK113.out 1).trans rfl; have hcz39_2 : wr.cell? ⟨gb113, 2, none⟩ = some (.string (⟨#[]⟩ : ByteArray)) := (blk_cell BK113.out 2).trans rfl; have hcz39_3 : wr.cell? ⟨gb113, 3, none⟩ = some (.string (⟨#[]⟩ : ByteArray)) := (blk_cell BK113.out 3).trans rfl; have hcz39_4 : wr.cell? ⟨gb113, 4, none⟩ = some (.int .u64 x114004_2) := (blk_cell BK113.out 4).trans rfl; have hcz39_5 : wr.cell? ⟨gb113, 5, none⟩ = some (.bool x114005_4) := (blk_cell BK113.out 5).trans rfl; have hfz39_0 := blk_frozen BK113.out 0; have hfz39_1 := blk_frozen BK113.out 1; have hfz39_2 := blk_frozen BK113.out 2; have hfz39_3 := blk_frozen BK113.out 3; have hfz39_4 := blk_frozen BK113.out 4; have hfz39_5 := blk_frozen BK113.out 5))
           repeat (go_quiet (first | (go_at_call 45; (with_reducible refine (lex_value.calls k2 (bt R x7_2) x6_4 t115 _ A20.out).mono ?_); rintro e w' ⟨rfl, ⟨nd, rfl⟩⟩; (try first | exact ⟨rfl, _, World.drewN_drewN _ _ _⟩ | exact ⟨rfl, _, Eq.trans (World.drewN_drewN _ _ _) (congrArg (World.drewN _) (Nat.add_assoc _ _ _))⟩); have p34 : 0 ≤ (x7_2 : Int) := of_decide_eq_true (by first | (with_reducible assumption) | assumption); have q34 : x7_2 < (R.size : Int) := of_decide_eq_true (by first | (with_reducible assumption) | assumption); have hx34 := bt_at R x7_2; replace p34 := eq_true p34; replace q34 := eq_true q34) | (go_at_call 45; (with_reducible refine (lex_value.calls k2 (bt R x7_2) x6_4 t117 _ A35.out).mono ?_); rintro e w' ⟨rfl, ⟨nd, rfl⟩⟩; (try first | exact ⟨rfl, _, World.drewN_drewN _ _ _⟩ | exact ⟨rfl, _, Eq.trans (World.drewN_drewN _ _ _) (congrArg (World.drewN _) (Nat.add_assoc _ _ _))⟩); have hnb37 := NB113_112.out; have hnc37 := NB112_113.out; have hnb38 := NB113_0.out; have hnc38 := NB0_113.out; have hcz39_0 : wr.cell? ⟨gb113, 0, none⟩ = some (.int .i64 3) := (blk_cell BK113.out 0).trans rfl; have hcz39_1 : wr.cell? ⟨gb113, 1, none⟩ = some (.int .i64 s0_1) := (blk_cell BK113.out 1).trans rfl; have hcz39_2 : wr.cell? ⟨gb113, 2, none⟩ = some (.string (⟨#[]⟩ : ByteArray)) := (blk_cell BK113.out 2).trans rfl; have hcz39_3 : wr.cell? ⟨gb113, 3, none⟩ = some (.string (⟨#[]⟩ : ByteArray)) := (blk_cell BK113.out 3).trans rfl; have hcz39_4 : wr.cell? ⟨gb113, 4, none⟩ = some (.int .u64 x114004_2) := (blk_cell BK113.out 4).trans rfl; have hcz39_5 : wr.cell? ⟨gb113, 5, none⟩ = some (.bool x114005_4) := (blk_cell BK113.out 5).trans rfl; have hfz39_0 := blk_frozen BK113.out 0; have hfz39_1 := blk_frozen BK113.out 1; have hfz39_2 := blk_frozen BK113.out 2; have hfz39_3 := blk_frozen BK113.out 3; have hfz39_4 := blk_frozen BK113.out 4; have hfz39_5 := blk_frozen BK113.out 5)); try go_wp2_with (first | (go_at_call 45; (with_reducible refine (lex_value.calls k2 (bt R x7_2) x6_4 t115 _ A20.out).mono ?_); rintro e w' ⟨rfl, ⟨nd, rfl⟩⟩; (try first | exact ⟨rfl, _, World.drewN_drewN _ _ _⟩ | exact ⟨rfl, _, Eq.trans (World.drewN_drewN _ _ _) (congrArg (World.drewN _) (Nat.add_assoc _ _ _))⟩); have p34 : 0 ≤ (x7_2 : Int) := of_decide_eq_true (by first | (with_reducible assumption) | assumption); have q34 : x7_2 < (R.size : Int) := of_decide_eq_true (by first | (with_reducible assumption) | assumption); have hx34 := bt_at R x7_2; replace p34 := eq_true p34; replace q34 := eq_true q34) | (go_at_call 45; (with_reducible refine (lex_value.calls k2 (bt R x7_2) x6_4 t117 _ A35.out).mono ?_); rintro e w' ⟨rfl, ⟨nd, rfl⟩⟩; (try first | exact ⟨rfl, _, World.drewN_drewN _ _ _⟩ | exact ⟨rfl, _, Eq.trans (World.drewN_drewN _ _ _) (congrArg (World.drewN _) (Nat.add_assoc _ _ _))⟩); have hnb37 := NB113_112.out; have hnc37 := NB112_113.out; have hnb38 := NB113_0.out; have hnc38 := NB0_113.out; have hcz39_0 : wr.cell? ⟨gb113, 0, none⟩ = some (.int .i64 3) := (blk_cell BK113.out 0).trans rfl; have hcz39_1 : wr.cell? ⟨gb113, 1, none⟩ = some (.int .i64 s0_1) := (blk_cell BK113.out 1).trans rfl; have hcz39_2 : wr.cell? ⟨gb113, 2, none⟩ = some (.string (⟨#[]⟩ : ByteArray)) := (blk_cell BK113.out 2).trans rfl; have hcz39_3 : wr.cell? ⟨gb113, 3, none⟩ = some (.string (⟨#[]⟩ : ByteArray)) := (blk_cell BK113.out 3).trans rfl; have hcz39_4 : wr.cell? ⟨gb113, 4, none⟩ = some (.int .u64 x114004_2) := (blk_cell BK113.out 4).trans rfl; have hcz39_5 : wr.cell? ⟨gb113, 5, none⟩ = some (.bool x114005_4) := (blk_cell BK113.out 5).trans rfl; have hfz39_0 := blk_frozen BK113.out 0; have hfz39_1 := blk_frozen BK113.out 1; have hfz39_2 := blk_frozen BK113.out 2; have hfz39_3 := blk_frozen BK113.out 3; have hfz39_4 := blk_frozen BK113.out 4; have hfz39_5 := blk_frozen BK113.out 5)))
           go_roundg k2
           case measure => have := HJ4.out; have := HK2.out; omega
           case rel => exact ⟨(wrap64 (x7_2 + 1)), (wrap64 (x8_2 + 1)), (true), (IntKind.u64.wrap ((IntKind.u64.wrap (x114004_2 * x6_4)) + (IntKind.u64.wrap (t117)))), (by first | rfl | (simp; done) | (simp [*]; done)), (by first | rfl | (simp; done) | (simp [*]; done)), (by first | rfl | (simp; done) | (simp [*]; done)), H', ⟨by have := HJ4.out; have := HK2.out; omega⟩, ⟨by (with_reducible repeat (first | refine blk_drewN ?_ _ | refine blk_drew ?_ | refine blk_alloc ?_ _)); refine blk_far ?_ NB112_113.out _; (with_reducible repeat (first | refine blk_drewN ?_ _ | refine blk_drew ?_ | refine blk_alloc ?_ _)); exact BK112.out⟩, ⟨by (with_reducible repeat (first | refine blk_drewN ?_ _ | refine blk_drew ?_ | refine blk_alloc ?_ _)); refine blk_put (cs := #[.int .i64 3, .int .i64 s0_1, .string (⟨#[]⟩ : ByteArray), .string (⟨#[]⟩ : ByteArray), .int .u64 x114004_2, .bool x114005_4]) ?_ 4 _ rfl; (with_reducible repeat (first | refine blk_drewN ?_ _ | refine blk_drew ?_ | refine blk_alloc ?_ _)); exact BK113.out⟩, ⟨by repeat (first | (with_reducible first | exact HI0.out | apply IsS45.alloc | apply IsS45.drewN | apply IsS45.drew | apply IsS45.set_0 | refine IsS45.set_1 (f1 := s0_1) ?_ _ | refine IsS45.far ?_ NB0_112.out _ | refine IsS45.far ?_ NB0_113.out _) | exact HI0.out)⟩, ⟨by repeat (first | (with_reducible first | exact HK.out | apply KeepBut.set_ | apply keep_drewN | apply keep_drew | apply keep_alloc | refine keep_far ?_ GW112.out _ | refine keep_far ?_ GW113.out _) | exact HK.out)⟩, ⟨by repeat (first | (with_reducible first | exact HB.out | apply below_alloc | apply pw_below_drewN | apply below_drew1 | refine below_set ?_ (IsS45.ge HI0.out) | refine below_set ?_ GE112.out | refine below_set ?_ GE113.out) | exact HB.out)⟩⟩
          ·
           replace c36 := Bool.eq_false_iff.mpr c36
           subst c36
           have H1 : (if x6_4 = 0 then (none) else (lex_reader_number.l0 k2 R x6_4 (wrap64 (x7_2 + 1)) (wrap64 (x8_2 + 1)) (decide (x114004_2 > (IntKind.u64.wrap (Int.tdiv (IntKind.u64.wrap (18446744073709551615 - (IntKind.u64.wrap (t117)))) x6_4)))) s0_0 s0_1 3 s0_1 (⟨#[]⟩ : ByteArray) (⟨#[]⟩ : ByteArray) (IntKind.u64.wrap ((IntKind.u64.wrap (x114004_2 * x6_4)) + (IntKind.u64.wrap (t117)))) x114005_4)) = some (r1, r2, r3, r4, r5, r6, r7, r8, r9) := by rw [if_neg (show ¬ (false = true) by decide)] at H; exact H
           clear H
           have H := H1
           clear H1
           by_cases c40 : x6_4 = 0
           ·
            rw [if_pos c40] at H
            exact absurd H (by simp)
           ·
            rw [if_neg c40] at H
            have c40b0 : (x6_4 == 0) = false := beq_eq_false_iff_ne.mpr c40
            have c40b1 : (x6_4 != 0) = true := bne_iff_ne.mpr c40
            have H' := Aside0.mk H
            clear H
            have p19 : 0 ≤ (x7_2 : Int) := of_decide_eq_true (by first | (with_reducible assumption) | assumption)
            have q19 : x7_2 < (R.size : Int) := of_decide_eq_true (by first | (with_reducible assumption) | assumption)
            have hx19 := bt_at R x7_2
            replace p19 := eq_true p19
            replace q19 := eq_true q19
            have he_ : t117 = t115 := Option.some.inj (A35.out.symm.trans A20.out)
            subst he_
            go_wp2_with (first | (go_at_call 45; (with_reducible refine (lex_value.calls k2 (bt R x7_2) x6_4 t115 _ A20.out).mono ?_); rintro e w' ⟨rfl, ⟨nd, rfl⟩⟩; (try first | exact ⟨rfl, _, World.drewN_drewN _ _ _⟩ | exact ⟨rfl, _, Eq.trans (World.drewN_drewN _ _ _) (congrArg (World.drewN _) (Nat.add_assoc _ _ _))⟩); have p34 : 0 ≤ (x7_2 : Int) := of_decide_eq_true (by first | (with_reducible assumption) | assumption); have q34 : x7_2 < (R.size : Int) := of_decide_eq_true (by first | (with_reducible assumption) | assumption); have hx34 := bt_at R x7_2; replace p34 := eq_true p34; replace q34 := eq_true q34) | (go_at_call 45; (with_reducible refine (lex_value.calls k2 (bt R x7_2) x6_4 t117 _ A35.out).mono ?_); rintro e w' ⟨rfl, ⟨nd, rfl⟩⟩; (try first | exact ⟨rfl, _, World.drewN_drewN _ _ _⟩ | exact ⟨rfl, _, Eq.trans (World.drewN_drewN _ _ _) (congrArg (World.drewN _) (Nat.add_assoc _ _ _))⟩); have hnb41 := NB113_112.out; have hnc41 := NB112_113.out; have hnb42 := NB113_0.out; have hnc42 := NB0_113.out; have hcz43_0 : wr.cell? ⟨gb113, 0, none⟩ = some (.int .i64 3) := (blk_cell BK113.out 0).trans rfl; have hcz43_1 : wr.cell? ⟨gb113, 1, none⟩ = some (.int .i64 s0_1) := (blk_cell BK113.out 1).trans rfl; have hcz43_2 : wr.cell? ⟨gb113, 2, none⟩ = some (.string (⟨#[]⟩ : ByteArray)) := (blk_cell BK113.out 2).trans rfl; have hcz43_3 : wr.cell? ⟨gb113, 3, none⟩ = some (.string (⟨#[]⟩ : ByteArray)) := (blk_cell BK113.out 3).trans rfl; have hcz43_4 : wr.cell? ⟨gb113, 4, none⟩ = some (.int .u64 x114004_2) := (blk_cell BK113.out 4).trans rfl; have hcz43_5 : wr.cell? ⟨gb113, 5, none⟩ = some (.bool x114005_4) := (blk_cell BK113.out 5).trans rfl; have hfz43_0 := blk_frozen BK113.out 0; have hfz43_1 := blk_frozen BK113.out 1; have hfz43_2 := blk_frozen BK113.out 2; have hfz43_3 := blk_frozen BK113.out 3; have hfz43_4 := blk_frozen BK113.out 4; have hfz43_5 := blk_frozen BK113.out 5))
            repeat (go_quiet (first | (go_at_call 45; (with_reducible refine (lex_value.calls k2 (bt R x7_2) x6_4 t115 _ A20.out).mono ?_); rintro e w' ⟨rfl, ⟨nd, rfl⟩⟩; (try first | exact ⟨rfl, _, World.drewN_drewN _ _ _⟩ | exact ⟨rfl, _, Eq.trans (World.drewN_drewN _ _ _) (congrArg (World.drewN _) (Nat.add_assoc _ _ _))⟩); have p34 : 0 ≤ (x7_2 : Int) := of_decide_eq_true (by first | (with_reducible assumption) | assumption); have q34 : x7_2 < (R.size : Int) := of_decide_eq_true (by first | (with_reducible assumption) | assumption); have hx34 := bt_at R x7_2; replace p34 := eq_true p34; replace q34 := eq_true q34) | (go_at_call 45; (with_reducible refine (lex_value.calls k2 (bt R x7_2) x6_4 t117 _ A35.out).mono ?_); rintro e w' ⟨rfl, ⟨nd, rfl⟩⟩; (try first | exact ⟨rfl, _, World.drewN_drewN _ _ _⟩ | exact ⟨rfl, _, Eq.trans (World.drewN_drewN _ _ _) (congrArg (World.drewN _) (Nat.add_assoc _ _ _))⟩); have hnb41 := NB113_112.out; have hnc41 := NB112_113.out; have hnb42 := NB113_0.out; have hnc42 := NB0_113.out; have hcz43_0 : wr.cell? ⟨gb113, 0, none⟩ = some (.int .i64 3) := (blk_cell BK113.out 0).trans rfl; have hcz43_1 : wr.cell? ⟨gb113, 1, none⟩ = some (.int .i64 s0_1) := (blk_cell BK113.out 1).trans rfl; have hcz43_2 : wr.cell? ⟨gb113, 2, none⟩ = some (.string (⟨#[]⟩ : ByteArray)) := (blk_cell BK113.out 2).trans rfl; have hcz43_3 : wr.cell? ⟨gb113, 3, none⟩ = some (.string (⟨#[]⟩ : ByteArray)) := (blk_cell BK113.out 3).trans rfl; have hcz43_4 : wr.cell? ⟨gb113, 4, none⟩ = some (.int .u64 x114004_2) := (blk_cell BK113.out 4).trans rfl; have hcz43_5 : wr.cell? ⟨gb113, 5, none⟩ = some (.bool x114005_4) := (blk_cell BK113.out 5).trans rfl; have hfz43_0 := blk_frozen BK113.out 0; have hfz43_1 := blk_frozen BK113.out 1; have hfz43_2 := blk_frozen BK113.out 2; have hfz43_3 := blk_frozen BK113.out 3; have hfz43_4 := blk_frozen BK113.out 4; have hfz43_5 := blk_frozen BK113.out 5)); try go_wp2_with (first | (go_at_call 45; (with_reducible refine (lex_value.calls k2 (bt R x7_2) x6_4 t115 _ A20.out).mono ?_); rintro e w' ⟨rfl, ⟨nd, rfl⟩⟩; (try first | exact ⟨rfl, _, World.drewN_drewN _ _ _⟩ | exact ⟨rfl, _, Eq.trans (World.drewN_drewN _ _ _) (congrArg (World.drewN _) (Nat.add_assoc _ _ _))⟩); have p34 : 0 ≤ (x7_2 : Int) := of_decide_eq_true (by first | (with_reducible assumption) | assumption); have q34 : x7_2 < (R.size : Int) := of_decide_eq_true (by first | (with_reducible assumption) | assumption); have hx34 := bt_at R x7_2; replace p34 := eq_true p34; replace q34 := eq_true q34) | (go_at_call 45; (with_reducible refine (lex_value.calls k2 (bt R x7_2) x6_4 t117 _ A35.out).mono ?_); rintro e w' ⟨rfl, ⟨nd, rfl⟩⟩; (try first | exact ⟨rfl, _, World.drewN_drewN _ _ _⟩ | exact ⟨rfl, _, Eq.trans (World.drewN_drewN _ _ _) (congrArg (World.drewN _) (Nat.add_assoc _ _ _))⟩); have hnb41 := NB113_112.out; have hnc41 := NB112_113.out; have hnb42 := NB113_0.out; have hnc42 := NB0_113.out; have hcz43_0 : wr.cell? ⟨gb113, 0, none⟩ = some (.int .i64 3) := (blk_cell BK113.out 0).trans rfl; have hcz43_1 : wr.cell? ⟨gb113, 1, none⟩ = some (.int .i64 s0_1) := (blk_cell BK113.out 1).trans rfl; have hcz43_2 : wr.cell? ⟨gb113, 2, none⟩ = some (.string (⟨#[]⟩ : ByteArray)) := (blk_cell BK113.out 2).trans rfl; have hcz43_3 : wr.cell? ⟨gb113, 3, none⟩ = some (.string (⟨#[]⟩ : ByteArray)) := (blk_cell BK113.out 3).trans rfl; have hcz43_4 : wr.cell? ⟨gb113, 4, none⟩ = some (.int .u64 x114004_2) := (blk_cell BK113.out 4).trans rfl; have hcz43_5 : wr.cell? ⟨gb113, 5, none⟩ = some (.bool x114005_4) := (blk_cell BK113.out 5).trans rfl; have hfz43_0 := blk_frozen BK113.out 0; have hfz43_1 := blk_frozen BK113.out 1; have hfz43_2 := blk_frozen BK113.out 2; have hfz43_3 := blk_frozen BK113.out 3; have hfz43_4 := blk_frozen BK113.out 4; have hfz43_5 := blk_frozen BK113.out 5)))
            go_roundg k2
            case measure => have := HJ4.out; have := HK2.out; omega
            case rel => exact ⟨(wrap64 (x7_2 + 1)), (wrap64 (x8_2 + 1)), (decide (x114004_2 > (IntKind.u64.wrap (Int.tdiv (IntKind.u64.wrap (18446744073709551615 - (IntKind.u64.wrap (t117)))) x6_4)))), (IntKind.u64.wrap ((IntKind.u64.wrap (x114004_2 * x6_4)) + (IntKind.u64.wrap (t117)))), (by first | rfl | (simp; done) | (simp [*]; done)), (by first | rfl | (simp; done) | (simp [*]; done)), (by first | rfl | (simp; done) | (simp [*]; done)), H', ⟨by have := HJ4.out; have := HK2.out; omega⟩, ⟨by (with_reducible repeat (first | refine blk_drewN ?_ _ | refine blk_drew ?_ | refine blk_alloc ?_ _)); refine blk_far ?_ NB112_113.out _; (with_reducible repeat (first | refine blk_drewN ?_ _ | refine blk_drew ?_ | refine blk_alloc ?_ _)); exact BK112.out⟩, ⟨by (with_reducible repeat (first | refine blk_drewN ?_ _ | refine blk_drew ?_ | refine blk_alloc ?_ _)); refine blk_put (cs := #[.int .i64 3, .int .i64 s0_1, .string (⟨#[]⟩ : ByteArray), .string (⟨#[]⟩ : ByteArray), .int .u64 x114004_2, .bool x114005_4]) ?_ 4 _ rfl; (with_reducible repeat (first | refine blk_drewN ?_ _ | refine blk_drew ?_ | refine blk_alloc ?_ _)); exact BK113.out⟩, ⟨by repeat (first | (with_reducible first | exact HI0.out | apply IsS45.alloc | apply IsS45.drewN | apply IsS45.drew | apply IsS45.set_0 | refine IsS45.set_1 (f1 := s0_1) ?_ _ | refine IsS45.far ?_ NB0_112.out _ | refine IsS45.far ?_ NB0_113.out _) | exact HI0.out)⟩, ⟨by repeat (first | (with_reducible first | exact HK.out | apply KeepBut.set_ | apply keep_drewN | apply keep_drew | apply keep_alloc | refine keep_far ?_ GW112.out _ | refine keep_far ?_ GW113.out _) | exact HK.out)⟩, ⟨by repeat (first | (with_reducible first | exact HB.out | apply below_alloc | apply pw_below_drewN | apply below_drew1 | refine below_set ?_ (IsS45.ge HI0.out) | refine below_set ?_ GE112.out | refine below_set ?_ GE113.out) | exact HB.out)⟩⟩
         ·
          rw [if_neg c33] at H
          have c33b0 : (x6_4 == 16) = false := beq_eq_false_iff_ne.mpr c33
          have c33b1 : (x6_4 != 16) = true := bne_iff_ne.mpr c33
          by_cases c44 : 0 < (R.size : Int)
          case neg => rw [if_neg c44] at H; exact absurd H (by simp)
          rw [if_pos c44] at H
          have c44b0 : decide (0 < (R.size : Int)) = true := decide_eq_true c44
          have c44b1 : decide (0 < R.size) = true := decide_eq_true (by omega)
          clear c44
          by_cases c46 : (bt R 0) = 48
          ·
           rw [if_pos c46] at H
           have c46b0 : ((bt R 0) == 48) = true := beq_iff_eq.mpr c46
           have c46b1 : ((bt R 0) != 48) = false := bne_eq_false_iff_eq.mpr c46
           have hx0_ : ∀ h : 0 < R.size, (((R[0]'h).toNat : Nat) : Int) = bt R 0 := bt_at R 0
           have q0_ : (0 < R.size) = True := eq_true (by have p_ : 0 ≤ (x7_2 : Int) := of_decide_eq_true (by first | (with_reducible assumption) | assumption); have q_ : x7_2 < (R.size : Int) := of_decide_eq_true (by first | (with_reducible assumption) | assumption); omega)
           clear c46
           have H' := Aside0.mk H
           clear H
           have p19 : 0 ≤ (x7_2 : Int) := of_decide_eq_true (by first | (with_reducible assumption) | assumption)
           have q19 : x7_2 < (R.size : Int) := of_decide_eq_true (by first | (with_reducible assumption) | assumption)
           have hx19 := bt_at R x7_2
           replace p19 := eq_true p19
           replace q19 := eq_true q19
           go_wp2_with (first | (go_at_call 45; (with_reducible refine (lex_value.calls k2 (bt R x7_2) x6_4 t115 _ A20.out).mono ?_); rintro e w' ⟨rfl, ⟨nd, rfl⟩⟩; (try first | exact ⟨rfl, _, World.drewN_drewN _ _ _⟩ | exact ⟨rfl, _, Eq.trans (World.drewN_drewN _ _ _) (congrArg (World.drewN _) (Nat.add_assoc _ _ _))⟩); have p45 : 0 ≤ (0 : Int) := (by omega); have q45 : 0 < R.size := (by have : (0 : Int) < (R.size : Int) := of_decide_eq_true (by first | (with_reducible assumption) | assumption); omega); have hx45 : ∀ h : 0 < R.size, ((R[0]'h).toNat : Int) = bt R 0 := bt_at R 0; clear p45; have qi45 : (0 < (R.size : Int)) = True := eq_true (of_decide_eq_true (by first | (with_reducible assumption) | assumption)); replace q45 := eq_true q45))
           repeat (go_quiet (first | (go_at_call 45; (with_reducible refine (lex_value.calls k2 (bt R x7_2) x6_4 t115 _ A20.out).mono ?_); rintro e w' ⟨rfl, ⟨nd, rfl⟩⟩; (try first | exact ⟨rfl, _, World.drewN_drewN _ _ _⟩ | exact ⟨rfl, _, Eq.trans (World.drewN_drewN _ _ _) (congrArg (World.drewN _) (Nat.add_assoc _ _ _))⟩); have p45 : 0 ≤ (0 : Int) := (by omega); have q45 : 0 < R.size := (by have : (0 : Int) < (R.size : Int) := of_decide_eq_true (by first | (with_reducible assumption) | assumption); omega); have hx45 : ∀ h : 0 < R.size, ((R[0]'h).toNat : Int) = bt R 0 := bt_at R 0; clear p45; have qi45 : (0 < (R.size : Int)) = True := eq_true (of_decide_eq_true (by first | (with_reducible assumption) | assumption)); replace q45 := eq_true q45)); try go_wp2_with (first | (go_at_call 45; (with_reducible refine (lex_value.calls k2 (bt R x7_2) x6_4 t115 _ A20.out).mono ?_); rintro e w' ⟨rfl, ⟨nd, rfl⟩⟩; (try first | exact ⟨rfl, _, World.drewN_drewN _ _ _⟩ | exact ⟨rfl, _, Eq.trans (World.drewN_drewN _ _ _) (congrArg (World.drewN _) (Nat.add_assoc _ _ _))⟩); have p45 : 0 ≤ (0 : Int) := (by omega); have q45 : 0 < R.size := (by have : (0 : Int) < (R.size : Int) := of_decide_eq_true (by first | (with_reducible assumption) | assumption); omega); have hx45 : ∀ h : 0 < R.size, ((R[0]'h).toNat : Int) = bt R 0 := bt_at R 0; clear p45; have qi45 : (0 < (R.size : Int)) = True := eq_true (of_decide_eq_true (by first | (with_reducible assumption) | assumption)); replace q45 := eq_true q45)))
           go_meet
           case rel => exact ⟨_, (x7_2), (x8_2), (x9_2), (x114004_2), (by first | rfl | (simp; done) | (simp [*]; done)), (by first | rfl | (simp; done) | (simp [*]; done)), (by first | rfl | (simp; done) | (simp [*]; done)), H', ⟨by have := HJ4.out; have := HK2.out; first | omega | exact Nat.le_refl _⟩, ⟨by (with_reducible repeat (first | refine blk_drewN ?_ _ | refine blk_drew ?_ | refine blk_alloc ?_ _)); exact BK112.out⟩, ⟨by (with_reducible repeat (first | refine blk_drewN ?_ _ | refine blk_drew ?_ | refine blk_alloc ?_ _)); exact BK113.out⟩, ⟨by repeat (first | (with_reducible first | exact HI0.out | apply IsS45.alloc | apply IsS45.drewN | apply IsS45.drew | apply IsS45.set_0 | refine IsS45.set_1 (f1 := s0_1) ?_ _ | refine IsS45.far ?_ NB0_112.out _ | refine IsS45.far ?_ NB0_113.out _) | exact HI0.out)⟩, ⟨by repeat (first | (with_reducible first | exact HK.out | apply KeepBut.set_ | apply keep_drewN | apply keep_drew | apply keep_alloc | refine keep_far ?_ GW112.out _ | refine keep_far ?_ GW113.out _) | exact HK.out)⟩, ⟨by repeat (first | (with_reducible first | exact HB.out | apply below_alloc | apply pw_below_drewN | apply below_drew1 | refine below_set ?_ (IsS45.ge HI0.out) | refine below_set ?_ GE112.out | refine below_set ?_ GE113.out) | exact HB.out)⟩⟩
          ·
           rw [if_neg c46] at H
           have c46b0 : ((bt R 0) == 48) = false := beq_eq_false_iff_ne.mpr c46
           have c46b1 : ((bt R 0) != 48) = true := bne_iff_ne.mpr c46
           have hx0_ : ∀ h : 0 < R.size, (((R[0]'h).toNat : Nat) : Int) = bt R 0 := bt_at R 0
           have q0_ : (0 < R.size) = True := eq_true (by have p_ : 0 ≤ (x7_2 : Int) := of_decide_eq_true (by first | (with_reducible assumption) | assumption); have q_ : x7_2 < (R.size : Int) := of_decide_eq_true (by first | (with_reducible assumption) | assumption); omega)
           replace H := Option.bind_eq_some_iff.mp H
           obtain ⟨t118, A480, H⟩ := H
           replace H : (if x9_2 = true then (lex_reader_number.l0 k2 R x6_4 (wrap64 (x7_2 + 1)) (wrap64 (x8_2 + 1)) true s0_0 s0_1 3 s0_1 (⟨#[]⟩ : ByteArray) (⟨#[]⟩ : ByteArray) (IntKind.u64.wrap ((IntKind.u64.wrap (x114004_2 * x6_4)) + (IntKind.u64.wrap (t118)))) x114005_4) else (if x6_4 = 0 then (none) else (lex_reader_number.l0 k2 R x6_4 (wrap64 (x7_2 + 1)) (wrap64 (x8_2 + 1)) (decide (x114004_2 > (IntKind.u64.wrap (Int.tdiv (IntKind.u64.wrap (18446744073709551615 - (IntKind.u64.wrap (t118)))) x6_4)))) s0_0 s0_1 3 s0_1 (⟨#[]⟩ : ByteArray) (⟨#[]⟩ : ByteArray) (IntKind.u64.wrap ((IntKind.u64.wrap (x114004_2 * x6_4)) + (IntKind.u64.wrap (t118)))) x114005_4))) = some (r1, r2, r3, r4, r5, r6, r7, r8, r9) := H
           have A48 := Aside0.mk A480
           clear A480
           by_cases c49 : x9_2 = true
           ·
            subst c49
            have H1 : (lex_reader_number.l0 k2 R x6_4 (wrap64 (x7_2 + 1)) (wrap64 (x8_2 + 1)) true s0_0 s0_1 3 s0_1 (⟨#[]⟩ : ByteArray) (⟨#[]⟩ : ByteArray) (IntKind.u64.wrap ((IntKind.u64.wrap (x114004_2 * x6_4)) + (IntKind.u64.wrap (t118)))) x114005_4) = some (r1, r2, r3, r4, r5, r6, r7, r8, r9) := by rw [if_pos rfl] at H; exact H
            clear H
            have H := H1
            clear H1
            have H' := Aside0.mk H
            clear H
            have p19 : 0 ≤ (x7_2 : Int) := of_decide_eq_true (by first | (with_reducible assumption) | assumption)
            have q19 : x7_2 < (R.size : Int) := of_decide_eq_true (by first | (with_reducible assumption) | assumption)
            have hx19 := bt_at R x7_2
            replace p19 := eq_true p19
            replace q19 := eq_true q19
            have he_ : t118 = t115 := Option.some.inj (A48.out.symm.trans A20.out)
            subst he_
            go_wp2_with (first | (go_at_call 45; (with_reducible refine (lex_value.calls k2 (bt R x7_2) x6_4 t115 _ A20.out).mono ?_); rintro e w' ⟨rfl, ⟨nd, rfl⟩⟩; (try first | exact ⟨rfl, _, World.drewN_drewN _ _ _⟩ | exact ⟨rfl, _, Eq.trans (World.drewN_drewN _ _ _) (congrArg (World.drewN _) (Nat.add_assoc _ _ _))⟩); have p45 : 0 ≤ (0 : Int) := (by omega); have q45 : 0 < R.size := (by have : (0 : Int) < (R.size : Int) := of_decide_eq_true (by first | (with_reducible assumption) | assumption); omega); have hx45 : ∀ h : 0 < R.size, ((R[0]'h).toNat : Int) = bt R 0 := bt_at R 0; clear p45; have qi45 : (0 < (R.size : Int)) = True := eq_true (of_decide_eq_true (by first | (with_reducible assumption) | assumption)); replace q45 := eq_true q45; have p47 : 0 ≤ (x7_2 : Int) := of_decide_eq_true (by first | (with_reducible assumption) | assumption); have q47 : x7_2 < (R.size : Int) := of_decide_eq_true (by first | (with_reducible assumption) | assumption); have hx47 := bt_at R x7_2; replace p47 := eq_true p47; replace q47 := eq_true q47) | (go_at_call 45; (with_reducible refine (lex_value.calls k2 (bt R x7_2) x6_4 t118 _ A48.out).mono ?_); rintro e w' ⟨rfl, ⟨nd, rfl⟩⟩; (try first | exact ⟨rfl, _, World.drewN_drewN _ _ _⟩ | exact ⟨rfl, _, Eq.trans (World.drewN_drewN _ _ _) (congrArg (World.drewN _) (Nat.add_assoc _ _ _))⟩); have hnb50 := NB113_112.out; have hnc50 := NB112_113.out; have hnb51 := NB113_0.out; have hnc51 := NB0_113.out; have hcz52_0 : wr.cell? ⟨gb113, 0, none⟩ = some (.int .i64 3) := (blk_cell BK113.out 0).trans rfl; have hcz52_1 : wr.cell? ⟨gb113, 1, none⟩ = some (.int .i64 s0_1) := (blk_cell BK113.out 1).trans rfl; have hcz52_2 : wr.cell? ⟨gb113, 2, none⟩ = some (.string (⟨#[]⟩ : ByteArray)) := (blk_cell BK113.out 2).trans rfl; have hcz52_3 : wr.cell? ⟨gb113, 3, none⟩ = some (.string (⟨#[]⟩ : ByteArray)) := (blk_cell BK113.out 3).trans rfl; have hcz52_4 : wr.cell? ⟨gb113, 4, none⟩ = some (.int .u64 x114004_2) := (blk_cell BK113.out 4).trans rfl; have hcz52_5 : wr.cell? ⟨gb113, 5, none⟩ = some (.bool x114005_4) := (blk_cell BK113.out 5).trans rfl; have hfz52_0 := blk_frozen BK113.out 0; have hfz52_1 := blk_frozen BK113.out 1; have hfz52_2 := blk_frozen BK113.out 2; have hfz52_3 := blk_frozen BK113.out 3; have hfz52_4 := blk_frozen BK113.out 4; have hfz52_5 := blk_frozen BK113.out 5))
            repeat (go_quiet (first | (go_at_call 45; (with_reducible refine (lex_value.calls k2 (bt R x7_2) x6_4 t115 _ A20.out).mono ?_); rintro e w' ⟨rfl, ⟨nd, rfl⟩⟩; (try first | exact ⟨rfl, _, World.drewN_drewN _ _ _⟩ | exact ⟨rfl, _, Eq.trans (World.drewN_drewN _ _ _) (congrArg (World.drewN _) (Nat.add_assoc _ _ _))⟩); have p45 : 0 ≤ (0 : Int) := (by omega); have q45 : 0 < R.size := (by have : (0 : Int) < (R.size : Int) := of_decide_eq_true (by first | (with_reducible assumption) | assumption); omega); have hx45 : ∀ h : 0 < R.size, ((R[0]'h).toNat : Int) = bt R 0 := bt_at R 0; clear p45; have qi45 : (0 < (R.size : Int)) = True := eq_true (of_decide_eq_true (by first | (with_reducible assumption) | assumption)); replace q45 := eq_true q45; have p47 : 0 ≤ (x7_2 : Int) := of_decide_eq_true (by first | (with_reducible assumption) | assumption); have q47 : x7_2 < (R.size : Int) := of_decide_eq_true (by first | (with_reducible assumption) | assumption); have hx47 := bt_at R x7_2; replace p47 := eq_true p47; replace q47 := eq_true q47) | (go_at_call 45; (with_reducible refine (lex_value.calls k2 (bt R x7_2) x6_4 t118 _ A48.out).mono ?_); rintro e w' ⟨rfl, ⟨nd, rfl⟩⟩; (try first | exact ⟨rfl, _, World.drewN_drewN _ _ _⟩ | exact ⟨rfl, _, Eq.trans (World.drewN_drewN _ _ _) (congrArg (World.drewN _) (Nat.add_assoc _ _ _))⟩); have hnb50 := NB113_112.out; have hnc50 := NB112_113.out; have hnb51 := NB113_0.out; have hnc51 := NB0_113.out; have hcz52_0 : wr.cell? ⟨gb113, 0, none⟩ = some (.int .i64 3) := (blk_cell BK113.out 0).trans rfl; have hcz52_1 : wr.cell? ⟨gb113, 1, none⟩ = some (.int .i64 s0_1) := (blk_cell BK113.out 1).trans rfl; have hcz52_2 : wr.cell? ⟨gb113, 2, none⟩ = some (.string (⟨#[]⟩ : ByteArray)) := (blk_cell BK113.out 2).trans rfl; have hcz52_3 : wr.cell? ⟨gb113, 3, none⟩ = some (.string (⟨#[]⟩ : ByteArray)) := (blk_cell BK113.out 3).trans rfl; have hcz52_4 : wr.cell? ⟨gb113, 4, none⟩ = some (.int .u64 x114004_2) := (blk_cell BK113.out 4).trans rfl; have hcz52_5 : wr.cell? ⟨gb113, 5, none⟩ = some (.bool x114005_4) := (blk_cell BK113.out 5).trans rfl; have hfz52_0 := blk_frozen BK113.out 0; have hfz52_1 := blk_frozen BK113.out 1; have hfz52_2 := blk_frozen BK113.out 2; have hfz52_3 := blk_frozen BK113.out 3; have hfz52_4 := blk_frozen BK113.out 4; have hfz52_5 := blk_frozen BK113.out 5)); try go_wp2_with (first | (go_at_call 45; (with_reducible refine (lex_value.calls k2 (bt R x7_2) x6_4 t115 _ A20.out).mono ?_); rintro e w' ⟨rfl, ⟨nd, rfl⟩⟩; (try first | exact ⟨rfl, _, World.drewN_drewN _ _ _⟩ | exact ⟨rfl, _, Eq.trans (World.drewN_drewN _ _ _) (congrArg (World.drewN _) (Nat.add_assoc _ _ _))⟩); have p45 : 0 ≤ (0 : Int) := (by omega); have q45 : 0 < R.size := (by have : (0 : Int) < (R.size : Int) := of_decide_eq_true (by first | (with_reducible assumption) | assumption); omega); have hx45 : ∀ h : 0 < R.size, ((R[0]'h).toNat : Int) = bt R 0 := bt_at R 0; clear p45; have qi45 : (0 < (R.size : Int)) = True := eq_true (of_decide_eq_true (by first | (with_reducible assumption) | assumption)); replace q45 := eq_true q45; have p47 : 0 ≤ (x7_2 : Int) := of_decide_eq_true (by first | (with_reducible assumption) | assumption); have q47 : x7_2 < (R.size : Int) := of_decide_eq_true (by first | (with_reducible assumption) | assumption); have hx47 := bt_at R x7_2; replace p47 := eq_true p47; replace q47 := eq_true q47) | (go_at_call 45; (with_reducible refine (lex_value.calls k2 (bt R x7_2) x6_4 t118 _ A48.out).mono ?_); rintro e w' ⟨rfl, ⟨nd, rfl⟩⟩; (try first | exact ⟨rfl, _, World.drewN_drewN _ _ _⟩ | exact ⟨rfl, _, Eq.trans (World.drewN_drewN _ _ _) (congrArg (World.drewN _) (Nat.add_assoc _ _ _))⟩); have hnb50 := NB113_112.out; have hnc50 := NB112_113.out; have hnb51 := NB113_0.out; have hnc51 := NB0_113.out; have hcz52_0 : wr.cell? ⟨gb113, 0, none⟩ = some (.int .i64 3) := (blk_cell BK113.out 0).trans rfl; have hcz52_1 : wr.cell? ⟨gb113, 1, none⟩ = some (.int .i64 s0_1) := (blk_cell BK113.out 1).trans rfl; have hcz52_2 : wr.cell? ⟨gb113, 2, none⟩ = some (.string (⟨#[]⟩ : ByteArray)) := (blk_cell BK113.out 2).trans rfl; have hcz52_3 : wr.cell? ⟨gb113, 3, none⟩ = some (.string (⟨#[]⟩ : ByteArray)) := (blk_cell BK113.out 3).trans rfl; have hcz52_4 : wr.cell? ⟨gb113, 4, none⟩ = some (.int .u64 x114004_2) := (blk_cell BK113.out 4).trans rfl; have hcz52_5 : wr.cell? ⟨gb113, 5, none⟩ = some (.bool x114005_4) := (blk_cell BK113.out 5).trans rfl; have hfz52_0 := blk_frozen BK113.out 0; have hfz52_1 := blk_frozen BK113.out 1; have hfz52_2 := blk_frozen BK113.out 2; have hfz52_3 := blk_frozen BK113.out 3; have hfz52_4 := blk_frozen BK113.out 4; have hfz52_5 := blk_frozen BK113.out 5)))
            go_roundg k2
            case measure => have := HJ4.out; have := HK2.out; omega
            case rel => exact ⟨(wrap64 (x7_2 + 1)), (wrap64 (x8_2 + 1)), (true), (IntKind.u64.wrap ((IntKind.u64.wrap (x114004_2 * x6_4)) + (IntKind.u64.wrap (t118)))), (by first | rfl | (simp; done) | (simp [*]; done)), (by first | rfl | (simp; done) | (simp [*]; done)), (by first | rfl | (simp; done) | (simp [*]; done)), H', ⟨by have := HJ4.out; have := HK2.out; omega⟩, ⟨by (with_reducible repeat (first | refine blk_drewN ?_ _ | refine blk_drew ?_ | refine blk_alloc ?_ _)); refine blk_far ?_ NB112_113.out _; (with_reducible repeat (first | refine blk_drewN ?_ _ | refine blk_drew ?_ | refine blk_alloc ?_ _)); exact BK112.out⟩, ⟨by (with_reducible repeat (first | refine blk_drewN ?_ _ | refine blk_drew ?_ | refine blk_alloc ?_ _)); refine blk_put (cs := #[.int .i64 3, .int .i64 s0_1, .string (⟨#[]⟩ : ByteArray), .string (⟨#[]⟩ : ByteArray), .int .u64 x114004_2, .bool x114005_4]) ?_ 4 _ rfl; (with_reducible repeat (first | refine blk_drewN ?_ _ | refine blk_drew ?_ | refine blk_alloc ?_ _)); exact BK113.out⟩, ⟨by repeat (first | (with_reducible first | exact HI0.out | apply IsS45.alloc | apply IsS45.drewN | apply IsS45.drew | apply IsS45.set_0 | refine IsS45.set_1 (f1 := s0_1) ?_ _ | refine IsS45.far ?_ NB0_112.out _ | refine IsS45.far ?_ NB0_113.out _) | exact HI0.out)⟩, ⟨by repeat (first | (with_reducible first | exact HK.out | apply KeepBut.set_ | apply keep_drewN | apply keep_drew | apply keep_alloc | refine keep_far ?_ GW112.out _ | refine keep_far ?_ GW113.out _) | exact HK.out)⟩, ⟨by repeat (first | (with_reducible first | exact HB.out | apply below_alloc | apply pw_below_drewN | apply below_drew1 | refine below_set ?_ (IsS45.ge HI0.out) | refine below_set ?_ GE112.out | refine below_set ?_ GE113.out) | exact HB.out)⟩⟩
           ·
            replace c49 := Bool.eq_false_iff.mpr c49
            subst c49
            have H1 : (if x6_4 = 0 then (none) else (lex_reader_number.l0 k2 R x6_4 (wrap64 (x7_2 + 1)) (wrap64 (x8_2 + 1)) (decide (x114004_2 > (IntKind.u64.wrap (Int.tdiv (IntKind.u64.wrap (18446744073709551615 - (IntKind.u64.wrap (t118)))) x6_4)))) s0_0 s0_1 3 s0_1 (⟨#[]⟩ : ByteArray) (⟨#[]⟩ : ByteArray) (IntKind.u64.wrap ((IntKind.u64.wrap (x114004_2 * x6_4)) + (IntKind.u64.wrap (t118)))) x114005_4)) = some (r1, r2, r3, r4, r5, r6, r7, r8, r9) := by rw [if_neg (show ¬ (false = true) by decide)] at H; exact H
            clear H
            have H := H1
            clear H1
            by_cases c53 : x6_4 = 0
            ·
             rw [if_pos c53] at H
             exact absurd H (by simp)
            ·
             rw [if_neg c53] at H
             have c53b0 : (x6_4 == 0) = false := beq_eq_false_iff_ne.mpr c53
             have c53b1 : (x6_4 != 0) = true := bne_iff_ne.mpr c53
             have H' := Aside0.mk H
             clear H
             have p19 : 0 ≤ (x7_2 : Int) := of_decide_eq_true (by first | (with_reducible assumption) | assumption)
             have q19 : x7_2 < (R.size : Int) := of_decide_eq_true (by first | (with_reducible assumption) | assumption)
             have hx19 := bt_at R x7_2
             replace p19 := eq_true p19
             replace q19 := eq_true q19
             have he_ : t118 = t115 := Option.some.inj (A48.out.symm.trans A20.out)
             subst he_
             go_wp2_with (first | (go_at_call 45; (with_reducible refine (lex_value.calls k2 (bt R x7_2) x6_4 t115 _ A20.out).mono ?_); rintro e w' ⟨rfl, ⟨nd, rfl⟩⟩; (try first | exact ⟨rfl, _, World.drewN_drewN _ _ _⟩ | exact ⟨rfl, _, Eq.trans (World.drewN_drewN _ _ _) (congrArg (World.drewN _) (Nat.add_assoc _ _ _))⟩); have p45 : 0 ≤ (0 : Int) := (by omega); have q45 : 0 < R.size := (by have : (0 : Int) < (R.size : Int) := of_decide_eq_true (by first | (with_reducible assumption) | assumption); omega); have hx45 : ∀ h : 0 < R.size, ((R[0]'h).toNat : Int) = bt R 0 := bt_at R 0; clear p45; have qi45 : (0 < (R.size : Int)) = True := eq_true (of_decide_eq_true (by first | (with_reducible assumption) | assumption)); replace q45 := eq_true q45; have p47 : 0 ≤ (x7_2 : Int) := of_decide_eq_true (by first | (with_reducible assumption) | assumption); have q47 : x7_2 < (R.size : Int) := of_decide_eq_true (by first | (with_reducible assumption) | assumption); have hx47 := bt_at R x7_2; replace p47 := eq_true p47; replace q47 := eq_true q47) | (go_at_call 45; (with_reducible refine (lex_value.calls k2 (bt R x7_2) x6_4 t118 _ A48.out).mono ?_); rintro e w' ⟨rfl, ⟨nd, rfl⟩⟩; (try first | exact ⟨rfl, _, World.drewN_drewN _ _ _⟩ | exact ⟨rfl, _, Eq.trans (World.drewN_drewN _ _ _) (congrArg (World.drewN _) (Nat.add_assoc _ _ _))⟩); have hnb54 := NB113_112.out; have hnc54 := NB112_113.out; have hnb55 := NB113_0.out; have hnc55 := NB0_113.out; have hcz56_0 : wr.cell? ⟨gb113, 0, none⟩ = some (.int .i64 3) := (blk_cell BK113.out 0).trans rfl; have hcz56_1 : wr.cell? ⟨gb113, 1, none⟩ = some (.int .i64 s0_1) := (blk_cell BK113.out 1).trans rfl; have hcz56_2 : wr.cell? ⟨gb113, 2, none⟩ = some (.string (⟨#[]⟩ : ByteArray)) := (blk_cell BK113.out 2).trans rfl; have hcz56_3 : wr.cell? ⟨gb113, 3, none⟩ = some (.string (⟨#[]⟩ : ByteArray)) := (blk_cell BK113.out 3).trans rfl; have hcz56_4 : wr.cell? ⟨gb113, 4, none⟩ = some (.int .u64 x114004_2) := (blk_cell BK113.out 4).trans rfl; have hcz56_5 : wr.cell? ⟨gb113, 5, none⟩ = some (.bool x114005_4) := (blk_cell BK113.out 5).trans rfl; have hfz56_0 := blk_frozen BK113.out 0; have hfz56_1 := blk_frozen BK113.out 1; have hfz56_2 := blk_frozen BK113.out 2; have hfz56_3 := blk_frozen BK113.out 3; have hfz56_4 := blk_frozen BK113.out 4; have hfz56_5 := blk_frozen BK113.out 5))
             repeat (go_quiet (first | (go_at_call 45; (with_reducible refine (lex_value.calls k2 (bt R x7_2) x6_4 t115 _ A20.out).mono ?_); rintro e w' ⟨rfl, ⟨nd, rfl⟩⟩; (try first | exact ⟨rfl, _, World.drewN_drewN _ _ _⟩ | exact ⟨rfl, _, Eq.trans (World.drewN_drewN _ _ _) (congrArg (World.drewN _) (Nat.add_assoc _ _ _))⟩); have p45 : 0 ≤ (0 : Int) := (by omega); have q45 : 0 < R.size := (by have : (0 : Int) < (R.size : Int) := of_decide_eq_true (by first | (with_reducible assumption) | assumption); omega); have hx45 : ∀ h : 0 < R.size, ((R[0]'h).toNat : Int) = bt R 0 := bt_at R 0; clear p45; have qi45 : (0 < (R.size : Int)) = True := eq_true (of_decide_eq_true (by first | (with_reducible assumption) | assumption)); replace q45 := eq_true q45; have p47 : 0 ≤ (x7_2 : Int) := of_decide_eq_true (by first | (with_reducible assumption) | assumption); have q47 : x7_2 < (R.size : Int) := of_decide_eq_true (by first | (with_reducible assumption) | assumption); have hx47 := bt_at R x7_2; replace p47 := eq_true p47; replace q47 := eq_true q47) | (go_at_call 45; (with_reducible refine (lex_value.calls k2 (bt R x7_2) x6_4 t118 _ A48.out).mono ?_); rintro e w' ⟨rfl, ⟨nd, rfl⟩⟩; (try first | exact ⟨rfl, _, World.drewN_drewN _ _ _⟩ | exact ⟨rfl, _, Eq.trans (World.drewN_drewN _ _ _) (congrArg (World.drewN _) (Nat.add_assoc _ _ _))⟩); have hnb54 := NB113_112.out; have hnc54 := NB112_113.out; have hnb55 := NB113_0.out; have hnc55 := NB0_113.out; have hcz56_0 : wr.cell? ⟨gb113, 0, none⟩ = some (.int .i64 3) := (blk_cell BK113.out 0).trans rfl; have hcz56_1 : wr.cell? ⟨gb113, 1, none⟩ = some (.int .i64 s0_1) := (blk_cell BK113.out 1).trans rfl; have hcz56_2 : wr.cell? ⟨gb113, 2, none⟩ = some (.string (⟨#[]⟩ : ByteArray)) := (blk_cell BK113.out 2).trans rfl; have hcz56_3 : wr.cell? ⟨gb113, 3, none⟩ = some (.string (⟨#[]⟩ : ByteArray)) := (blk_cell BK113.out 3).trans rfl; have hcz56_4 : wr.cell? ⟨gb113, 4, none⟩ = some (.int .u64 x114004_2) := (blk_cell BK113.out 4).trans rfl; have hcz56_5 : wr.cell? ⟨gb113, 5, none⟩ = some (.bool x114005_4) := (blk_cell BK113.out 5).trans rfl; have hfz56_0 := blk_frozen BK113.out 0; have hfz56_1 := blk_frozen BK113.out 1; have hfz56_2 := blk_frozen BK113.out 2; have hfz56_3 := blk_frozen BK113.out 3; have hfz56_4 := blk_frozen BK113.out 4; have hfz56_5 := blk_frozen BK113.out 5)); try go_wp2_with (first | (go_at_call 45; (with_reducible refine (lex_value.calls k2 (bt R x7_2) x6_4 t115 _ A20.out).mono ?_); rintro e w' ⟨rfl, ⟨nd, rfl⟩⟩; (try first | exact ⟨rfl, _, World.drewN_drewN _ _ _⟩ | exact ⟨rfl, _, Eq.trans (World.drewN_drewN _ _ _) (congrArg (World.drewN _) (Nat.add_assoc _ _ _))⟩); have p45 : 0 ≤ (0 : Int) := (by omega); have q45 : 0 < R.size := (by have : (0 : Int) < (R.size : Int) := of_decide_eq_true (by first | (with_reducible assumption) | assumption); omega); have hx45 : ∀ h : 0 < R.size, ((R[0]'h).toNat : Int) = bt R 0 := bt_at R 0; clear p45; have qi45 : (0 < (R.size : Int)) = True := eq_true (of_decide_eq_true (by first | (with_reducible assumption) | assumption)); replace q45 := eq_true q45; have p47 : 0 ≤ (x7_2 : Int) := of_decide_eq_true (by first | (with_reducible assumption) | assumption); have q47 : x7_2 < (R.size : Int) := of_decide_eq_true (by first | (with_reducible assumption) | assumption); have hx47 := bt_at R x7_2; replace p47 := eq_true p47; replace q47 := eq_true q47) | (go_at_call 45; (with_reducible refine (lex_value.calls k2 (bt R x7_2) x6_4 t118 _ A48.out).mono ?_); rintro e w' ⟨rfl, ⟨nd, rfl⟩⟩; (try first | exact ⟨rfl, _, World.drewN_drewN _ _ _⟩ | exact ⟨rfl, _, Eq.trans (World.drewN_drewN _ _ _) (congrArg (World.drewN _) (Nat.add_assoc _ _ _))⟩); have hnb54 := NB113_112.out; have hnc54 := NB112_113.out; have hnb55 := NB113_0.out; have hnc55 := NB0_113.out; have hcz56_0 : wr.cell? ⟨gb113, 0, none⟩ = some (.int .i64 3) := (blk_cell BK113.out 0).trans rfl; have hcz56_1 : wr.cell? ⟨gb113, 1, none⟩ = some (.int .i64 s0_1) := (blk_cell BK113.out 1).trans rfl; have hcz56_2 : wr.cell? ⟨gb113, 2, none⟩ = some (.string (⟨#[]⟩ : ByteArray)) := (blk_cell BK113.out 2).trans rfl; have hcz56_3 : wr.cell? ⟨gb113, 3, none⟩ = some (.string (⟨#[]⟩ : ByteArray)) := (blk_cell BK113.out 3).trans rfl; have hcz56_4 : wr.cell? ⟨gb113, 4, none⟩ = some (.int .u64 x114004_2) := (blk_cell BK113.out 4).trans rfl; have hcz56_5 : wr.cell? ⟨gb113, 5, none⟩ = some (.bool x114005_4) := (blk_cell BK113.out 5).trans rfl; have hfz56_0 := blk_frozen BK113.out 0; have hfz56_1 := blk_frozen BK113.out 1; have hfz56_2 := blk_frozen BK113.out 2; have hfz56_3 := blk_frozen BK113.out 3; have hfz56_4 := blk_frozen BK113.out 4; have hfz56_5 := blk_frozen BK113.out 5)))
             go_roundg k2
             case measure => have := HJ4.out; have := HK2.out; omega
             case rel => exact ⟨(wrap64 (x7_2 + 1)), (wrap64 (x8_2 + 1)), (decide (x114004_2 > (IntKind.u64.wrap (Int.tdiv (IntKind.u64.wrap (18446744073709551615 - (IntKind.u64.wrap (t118)))) x6_4)))), (IntKind.u64.wrap ((IntKind.u64.wrap (x114004_2 * x6_4)) + (IntKind.u64.wrap (t118)))), (by first | rfl | (simp; done) | (simp [*]; done)), (by first | rfl | (simp; done) | (simp [*]; done)), (by first | rfl | (simp; done) | (simp [*]; done)), H', ⟨by have := HJ4.out; have := HK2.out; omega⟩, ⟨by (with_reducible repeat (first | refine blk_drewN ?_ _ | refine blk_drew ?_ | refine blk_alloc ?_ _)); refine blk_far ?_ NB112_113.out _; (with_reducible repeat (first | refine blk_drewN ?_ _ | refine blk_drew ?_ | refine blk_alloc ?_ _)); exact BK112.out⟩, ⟨by (with_reducible repeat (first | refine blk_drewN ?_ _ | refine blk_drew ?_ | refine blk_alloc ?_ _)); refine blk_put (cs := #[.int .i64 3, .int .i64 s0_1, .string (⟨#[]⟩ : ByteArray), .string (⟨#[]⟩ : ByteArray), .int .u64 x114004_2, .bool x114005_4]) ?_ 4 _ rfl; (with_reducible repeat (first | refine blk_drewN ?_ _ | refine blk_drew ?_ | refine blk_alloc ?_ _)); exact BK113.out⟩, ⟨by repeat (first | (with_reducible first | exact HI0.out | apply IsS45.alloc | apply IsS45.drewN | apply IsS45.drew | apply IsS45.set_0 | refine IsS45.set_1 (f1 := s0_1) ?_ _ | refine IsS45.far ?_ NB0_112.out _ | refine IsS45.far ?_ NB0_113.out _) | exact HI0.out)⟩, ⟨by repeat (first | (with_reducible first | exact HK.out | apply KeepBut.set_ | apply keep_drewN | apply keep_drew | apply keep_alloc | refine keep_far ?_ GW112.out _ | refine keep_far ?_ GW113.out _) | exact HK.out)⟩, ⟨by repeat (first | (with_reducible first | exact HB.out | apply below_alloc | apply pw_below_drewN | apply below_drew1 | refine below_set ?_ (IsS45.ge HI0.out) | refine below_set ?_ GE112.out | refine below_set ?_ GE113.out) | exact HB.out)⟩⟩
       ·
        rw [if_neg c21] at H
        have c21b0 : decide (0 ≤ t115) = false := decide_eq_false c21
        clear c21
        have H' := Aside0.mk H
        clear H
        have p19 : 0 ≤ (x7_2 : Int) := of_decide_eq_true (by first | (with_reducible assumption) | assumption)
        have q19 : x7_2 < (R.size : Int) := of_decide_eq_true (by first | (with_reducible assumption) | assumption)
        have hx19 := bt_at R x7_2
        replace p19 := eq_true p19
        replace q19 := eq_true q19
        go_wp2_with (first | (go_at_call 45; (with_reducible refine (lex_value.calls k2 (bt R x7_2) x6_4 t115 _ A20.out).mono ?_); rintro e w' ⟨rfl, ⟨nd, rfl⟩⟩; (try first | exact ⟨rfl, _, World.drewN_drewN _ _ _⟩ | exact ⟨rfl, _, Eq.trans (World.drewN_drewN _ _ _) (congrArg (World.drewN _) (Nat.add_assoc _ _ _))⟩)))
        repeat (go_quiet (first | (go_at_call 45; (with_reducible refine (lex_value.calls k2 (bt R x7_2) x6_4 t115 _ A20.out).mono ?_); rintro e w' ⟨rfl, ⟨nd, rfl⟩⟩; (try first | exact ⟨rfl, _, World.drewN_drewN _ _ _⟩ | exact ⟨rfl, _, Eq.trans (World.drewN_drewN _ _ _) (congrArg (World.drewN _) (Nat.add_assoc _ _ _))⟩))); try go_wp2_with (first | (go_at_call 45; (with_reducible refine (lex_value.calls k2 (bt R x7_2) x6_4 t115 _ A20.out).mono ?_); rintro e w' ⟨rfl, ⟨nd, rfl⟩⟩; (try first | exact ⟨rfl, _, World.drewN_drewN _ _ _⟩ | exact ⟨rfl, _, Eq.trans (World.drewN_drewN _ _ _) (congrArg (World.drewN _) (Nat.add_assoc _ _ _))⟩))))
        go_meet
        case rel => exact ⟨_, (x7_2), (x8_2), (x9_2), (x114004_2), (by first | rfl | (simp; done) | (simp [*]; done)), (by first | rfl | (simp; done) | (simp [*]; done)), (by first | rfl | (simp; done) | (simp [*]; done)), H', ⟨by have := HJ4.out; have := HK2.out; first | omega | exact Nat.le_refl _⟩, ⟨by (with_reducible repeat (first | refine blk_drewN ?_ _ | refine blk_drew ?_ | refine blk_alloc ?_ _)); exact BK112.out⟩, ⟨by (with_reducible repeat (first | refine blk_drewN ?_ _ | refine blk_drew ?_ | refine blk_alloc ?_ _)); exact BK113.out⟩, ⟨by repeat (first | (with_reducible first | exact HI0.out | apply IsS45.alloc | apply IsS45.drewN | apply IsS45.drew | apply IsS45.set_0 | refine IsS45.set_1 (f1 := s0_1) ?_ _ | refine IsS45.far ?_ NB0_112.out _ | refine IsS45.far ?_ NB0_113.out _) | exact HI0.out)⟩, ⟨by repeat (first | (with_reducible first | exact HK.out | apply KeepBut.set_ | apply keep_drewN | apply keep_drew | apply keep_alloc | refine keep_far ?_ GW112.out _ | refine keep_far ?_ GW113.out _) | exact HK.out)⟩, ⟨by repeat (first | (with_reducible first | exact HB.out | apply below_alloc | apply pw_below_drewN | apply below_drew1 | refine below_set ?_ (IsS45.ge HI0.out) | refine below_set ?_ GE112.out | refine below_set ?_ GE113.out) | exact HB.out)⟩⟩
      ·
       rw [if_neg c17] at H
       have c17b0 : decide (x7_2 < (R.size : Int)) = false := decide_eq_false c17
       clear c17
       (first | rw [c17b0] | (simp only [i64_w, i32_w]; rw [c17b0]) | skip)
       have H' := Aside0.mk H
       clear H
       go_wp2
       repeat (go_quiet (fail); try go_wp2)
       go_meet
       case rel => exact ⟨_, (x7_2), (x8_2), (x9_2), (x114004_2), (by first | rfl | (simp; done) | (simp [*]; done)), (by first | rfl | (simp; done) | (simp [*]; done)), (by first | rfl | (simp; done) | (simp [*]; done)), H', ⟨by have := HJ4.out; have := HK2.out; first | omega | exact Nat.le_refl _⟩, ⟨by (with_reducible repeat (first | refine blk_drewN ?_ _ | refine blk_drew ?_ | refine blk_alloc ?_ _)); exact BK112.out⟩, ⟨by (with_reducible repeat (first | refine blk_drewN ?_ _ | refine blk_drew ?_ | refine blk_alloc ?_ _)); exact BK113.out⟩, ⟨by repeat (first | (with_reducible first | exact HI0.out | apply IsS45.alloc | apply IsS45.drewN | apply IsS45.drew | apply IsS45.set_0 | refine IsS45.set_1 (f1 := s0_1) ?_ _ | refine IsS45.far ?_ NB0_112.out _ | refine IsS45.far ?_ NB0_113.out _) | exact HI0.out)⟩, ⟨by repeat (first | (with_reducible first | exact HK.out | apply KeepBut.set_ | apply keep_drewN | apply keep_drew | apply keep_alloc | refine keep_far ?_ GW112.out _ | refine keep_far ?_ GW113.out _) | exact HK.out)⟩, ⟨by repeat (first | (with_reducible first | exact HB.out | apply below_alloc | apply pw_below_drewN | apply below_drew1 | refine below_set ?_ (IsS45.ge HI0.out) | refine below_set ?_ GE112.out | refine below_set ?_ GE113.out) | exact HB.out)⟩⟩
   case rest =>
    clear HC16
    try clear c1
    try clear p1
    try clear q1
    try clear hx1
    try clear c2
    try clear c2b0
    try clear c2b1
    try clear p2
    try clear q2
    try clear hx2
    try clear c3
    try clear c3b0
    try clear c3b1
    try clear p3
    try clear q3
    try clear hx3
    try clear c4
    try clear p4
    try clear q4
    try clear hx4
    try clear qi4
    try clear c5
    try clear p6
    try clear c9
    try clear c10
    try clear c12
    try clear c13
    try clear c14
    try clear c17
    try clear c17b0
    try clear c18
    try clear c18b0
    try clear p19
    try clear q19
    try clear hx19
    try clear c21
    try clear c21b0
    try clear c22
    try clear c22b0
    try clear c22b1
    try clear p23
    try clear q23
    try clear hx23
    try clear c25
    try clear c26
    try clear c27
    try clear c28
    try clear c29
    try clear c29b0
    try clear c29b1
    try clear c30
    try clear c31
    try clear c33
    try clear c33b0
    try clear c33b1
    try clear p34
    try clear q34
    try clear hx34
    try clear c36
    try clear c37
    try clear c38
    try clear c40
    try clear c40b0
    try clear c40b1
    try clear c41
    try clear c42
    try clear c44
    try clear c44b0
    try clear c44b1
    try clear p45
    try clear q45
    try clear hx45
    try clear qi45
    try clear c46
    try clear c46b0
    try clear c46b1
    try clear p47
    try clear q47
    try clear hx47
    try clear c49
    try clear c50
    try clear c51
    try clear c53
    try clear c53b0
    try clear c53b1
    try clear c54
    try clear c55
    try clear hcz11_0
    try clear hcz11_1
    try clear hcz11_2
    try clear hcz11_3
    try clear hcz11_4
    try clear hcz11_5
    try clear hcz15_0
    try clear hcz15_1
    try clear hcz15_2
    try clear hcz15_3
    try clear hcz15_4
    try clear hcz15_5
    try clear hcz28_0
    try clear hcz28_1
    try clear hcz28_2
    try clear hcz28_3
    try clear hcz28_4
    try clear hcz28_5
    try clear hcz32_0
    try clear hcz32_1
    try clear hcz32_2
    try clear hcz32_3
    try clear hcz32_4
    try clear hcz32_5
    try clear hcz39_0
    try clear hcz39_1
    try clear hcz39_2
    try clear hcz39_3
    try clear hcz39_4
    try clear hcz39_5
    try clear hcz43_0
    try clear hcz43_1
    try clear hcz43_2
    try clear hcz43_3
    try clear hcz43_4
    try clear hcz43_5
    try clear hcz52_0
    try clear hcz52_1
    try clear hcz52_2
    try clear hcz52_3
    try clear hcz52_4
    try clear hcz52_5
    try clear hcz56_0
    try clear hcz56_1
    try clear hcz56_2
    try clear hcz56_3
    try clear hcz56_4
    try clear hcz56_5
    try clear hcz7_0
    try clear hcz7_1
    try clear hfz11_0
    try clear hfz11_1
    try clear hfz11_2
    try clear hfz11_3
    try clear hfz11_4
    try clear hfz11_5
    try clear hfz15_0
    try clear hfz15_1
    try clear hfz15_2
    try clear hfz15_3
    try clear hfz15_4
    try clear hfz15_5
    try clear hfz28_0
    try clear hfz28_1
    try clear hfz28_2
    try clear hfz28_3
    try clear hfz28_4
    try clear hfz28_5
    try clear hfz32_0
    try clear hfz32_1
    try clear hfz32_2
    try clear hfz32_3
    try clear hfz32_4
    try clear hfz32_5
    try clear hfz39_0
    try clear hfz39_1
    try clear hfz39_2
    try clear hfz39_3
    try clear hfz39_4
    try clear hfz39_5
    try clear hfz43_0
    try clear hfz43_1
    try clear hfz43_2
    try clear hfz43_3
    try clear hfz43_4
    try clear hfz43_5
    try clear hfz52_0
    try clear hfz52_1
    try clear hfz52_2
    try clear hfz52_3
    try clear hfz52_4
    try clear hfz52_5
    try clear hfz56_0
    try clear hfz56_1
    try clear hfz56_2
    try clear hfz56_3
    try clear hfz56_4
    try clear hfz56_5
    try clear hfz7_0
    try clear hfz7_1
    try clear p19
    try clear p2
    try clear p23
    try clear p34
    try clear p45
    try clear p47
    try clear q19
    try clear q23
    try clear q34
    try clear q45
    try clear q47
    obtain ⟨kq, x7_15, x8_15, x9_15, x114004_15, rfl, rfl, rfl, HA, HJ15, BK112, BK113, HI0, HK, HB⟩ := hcut
    cases kq with
    | zero => exact absurd HA.out (by simp [lex_reader_number.j2])
    | succ kj15 =>
     have H := HA.out
     clear HA
     simp only [lex_reader_number.j2] at H
     obtain ⟨y119, hy119⟩ : ∃ y_ : List ByteArray, y_ = (([(⟨#[117, 108]⟩ : ByteArray), (⟨#[117]⟩ : ByteArray), (⟨#[108]⟩ : ByteArray)] : List ByteArray)) := ⟨_, rfl⟩
     replace H : (lex_reader_number.l1 kj15 R x7_15 x8_15 x9_15 y119 (y119.length : Int) 0 s0_0 s0_1 3 s0_1 (⟨#[]⟩ : ByteArray) (⟨#[]⟩ : ByteArray) x114004_15 x114005_4) = some (r1, r2, r3, r4, r5, r6, r7, r8, r9) := by first | (rw [hy119]; with_reducible exact H) | (have H2_ := (Option.bind_some _ _).symm.trans H; rw [hy119]; with_reducible exact H2_) | (have H2_ := (Option.bind_some _ _).symm.trans H; with_reducible exact H2_) | with_reducible exact H | (rw [hy119]; exact H) | exact H
     have Ny119 := Aside0.mk hy119
     clear hy119
     have HC57 := Aside0.mk H
     clear H
     go_upto_block 2 with (first | ((with_reducible refine gate_dst (N := 82) rfl ?_); (try (refine gate_guard (by rfl) ?_; dsimp only)); refine Kd.R_lit Kd.string _ 9 ?hg (N := 82) ?hd (xs := ([(⟨#[117, 108]⟩ : ByteArray), (⟨#[117]⟩ : ByteArray), (⟨#[108]⟩ : ByteArray)] : List ByteArray)) (inner := [.string (⟨#[117, 108]⟩ : ByteArray), .string (⟨#[117]⟩ : ByteArray), .string (⟨#[108]⟩ : ByteArray)]) (ok := fun _ => True) (okp := fun _ => True) ?hr ?hp (fun _ hk => hk) trivial (Below.refl _ _) (Nat.le_refl _) (by simp) ?_; (case hd => rfl); (case hg => rfl); (case hr => first | (go_simp; done) | (go_simp; rfl)); (case hp => exact (Reps.one (show Kd.M Kd.string _ _ _ (⟨#[117, 108]⟩ : ByteArray) [.string (⟨#[117, 108]⟩ : ByteArray)] from rfl) (Reps.one (show Kd.M Kd.string _ _ _ (⟨#[117]⟩ : ByteArray) [.string (⟨#[117]⟩ : ByteArray)] from rfl) (Reps.one (show Kd.M Kd.string _ _ _ (⟨#[108]⟩ : ByteArray) [.string (⟨#[108]⟩ : ByteArray)] from rfl) (Reps.none _ _))))); intro v120 w58 ho59 hb hg_ hnew_; clear hg_ hnew_; (first | rw [← Ny119.out] at ho59 | (simp only [Int.reduceToNat] at ho59; rw [← Ny119.out] at ho59)); have n0_ := Aside0.mk (Kd.R_lower ho59 (keep_size (w := w) (g := g) (row := none) (by repeat (first | (with_reducible first | exact HK.out | apply KeepBut.set_ | apply keep_drewN | apply keep_drew | apply keep_alloc | refine keep_far ?_ GW112.out _ | refine keep_far ?_ GW113.out _) | exact HK.out)))); have n1_ := Aside0.mk (blk_below (g := gb112) (o := .cells #[.int .i64 0, .int .i64 0, .string (⟨#[]⟩ : ByteArray), .string (⟨#[]⟩ : ByteArray), .int .u64 0, .bool false] 33 (0, 0)) (by (with_reducible repeat (first | refine blk_drewN ?_ _ | refine blk_drew ?_ | refine blk_alloc ?_ _)); exact BK112.out) hb); have n2_ := Aside0.mk (blk_below (g := gb113) (o := .cells #[.int .i64 3, .int .i64 s0_1, .string (⟨#[]⟩ : ByteArray), .string (⟨#[]⟩ : ByteArray), .int .u64 x114004_15, .bool x114005_4] 33 (0, 0)) (by (with_reducible repeat (first | refine blk_drewN ?_ _ | refine blk_drew ?_ | refine blk_alloc ?_ _)); exact BK113.out) hb); have n3_ := Aside0.mk (IsS45.below (by repeat (first | (with_reducible first | exact HI0.out | apply IsS45.alloc | apply IsS45.drewN | apply IsS45.drew | apply IsS45.set_0 | refine IsS45.set_1 (f1 := s0_1) ?_ _ | refine IsS45.far ?_ NB0_112.out _ | refine IsS45.far ?_ NB0_113.out _) | exact HI0.out)) hb); have n4_ := Aside0.mk (KeepBut.trans (by repeat (first | (with_reducible first | exact HK.out | apply KeepBut.set_ | apply keep_drewN | apply keep_drew | apply keep_alloc | refine keep_far ?_ GW112.out _ | refine keep_far ?_ GW113.out _) | exact HK.out)) (KeepBut.of_below hb g none) (.inl rfl)); have n5_ := Aside0.mk (below_step (by repeat (first | (with_reducible first | exact HB.out | apply below_alloc | apply pw_below_drewN | apply below_drew1 | refine below_set ?_ (IsS45.ge HI0.out) | refine below_set ?_ GE112.out | refine below_set ?_ GE113.out) | exact HB.out)) hb); clear BK112; clear BK113; clear HI0; clear HK; clear HB; have HO121 := n0_; have BK112 := n1_; have BK113 := n2_; have HI0 := n3_; have HK := n4_; have HB := n5_; clear n0_ n1_ n2_ n3_ n4_ n5_; clear hb ho59; obtain ⟨Ao60, co60, eo60⟩ := Kd.R_slice HO121.out; subst eo60))
     repeat (go_quiet (first | ((with_reducible refine gate_dst (N := 82) rfl ?_); (try (refine gate_guard (by rfl) ?_; dsimp only)); refine Kd.R_lit Kd.string _ 9 ?hg (N := 82) ?hd (xs := ([(⟨#[117, 108]⟩ : ByteArray), (⟨#[117]⟩ : ByteArray), (⟨#[108]⟩ : ByteArray)] : List ByteArray)) (inner := [.string (⟨#[117, 108]⟩ : ByteArray), .string (⟨#[117]⟩ : ByteArray), .string (⟨#[108]⟩ : ByteArray)]) (ok := fun _ => True) (okp := fun _ => True) ?hr ?hp (fun _ hk => hk) trivial (Below.refl _ _) (Nat.le_refl _) (by simp) ?_; (case hd => rfl); (case hg => rfl); (case hr => first | (go_simp; done) | (go_simp; rfl)); (case hp => exact (Reps.one (show Kd.M Kd.string _ _ _ (⟨#[117, 108]⟩ : ByteArray) [.string (⟨#[117, 108]⟩ : ByteArray)] from rfl) (Reps.one (show Kd.M Kd.string _ _ _ (⟨#[117]⟩ : ByteArray) [.string (⟨#[117]⟩ : ByteArray)] from rfl) (Reps.one (show Kd.M Kd.string _ _ _ (⟨#[108]⟩ : ByteArray) [.string (⟨#[108]⟩ : ByteArray)] from rfl) (Reps.none _ _))))); intro v120 w58 ho59 hb hg_ hnew_; clear hg_ hnew_; (first | rw [← Ny119.out] at ho59 | (simp only [Int.reduceToNat] at ho59; rw [← Ny119.out] at ho59)); have n0_ := Aside0.mk (Kd.R_lower ho59 (keep_size (w := w) (g := g) (row := none) (by repeat (first | (with_reducible first | exact HK.out | apply KeepBut.set_ | apply keep_drewN | apply keep_drew | apply keep_alloc | refine keep_far ?_ GW112.out _ | refine keep_far ?_ GW113.out _) | exact HK.out)))); have n1_ := Aside0.mk (blk_below (g := gb112) (o := .cells #[.int .i64 0, .int .i64 0, .string (⟨#[]⟩ : ByteArray), .string (⟨#[]⟩ : ByteArray), .int .u64 0, .bool false] 33 (0, 0)) (by (with_reducible repeat (first | refine blk_drewN ?_ _ | refine blk_drew ?_ | refine blk_alloc ?_ _)); exact BK112.out) hb); have n2_ := Aside0.mk (blk_below (g := gb113) (o := .cells #[.int .i64 3, .int .i64 s0_1, .string (⟨#[]⟩ : ByteArray), .string (⟨#[]⟩ : ByteArray), .int .u64 x114004_15, .bool x114005_4] 33 (0, 0)) (by (with_reducible repeat (first | refine blk_drewN ?_ _ | refine blk_drew ?_ | refine blk_alloc ?_ _)); exact BK113.out) hb); have n3_ := Aside0.mk (IsS45.below (by repeat (first | (with_reducible first | exact HI0.out | apply IsS45.alloc | apply IsS45.drewN | apply IsS45.drew | apply IsS45.set_0 | refine IsS45.set_1 (f1 := s0_1) ?_ _ | refine IsS45.far ?_ NB0_112.out _ | refine IsS45.far ?_ NB0_113.out _) | exact HI0.out)) hb); have n4_ := Aside0.mk (KeepBut.trans (by repeat (first | (with_reducible first | exact HK.out | apply KeepBut.set_ | apply keep_drewN | apply keep_drew | apply keep_alloc | refine keep_far ?_ GW112.out _ | refine keep_far ?_ GW113.out _) | exact HK.out)) (KeepBut.of_below hb g none) (.inl rfl)); have n5_ := Aside0.mk (below_step (by repeat (first | (with_reducible first | exact HB.out | apply below_alloc | apply pw_below_drewN | apply below_drew1 | refine below_set ?_ (IsS45.ge HI0.out) | refine below_set ?_ GE112.out | refine below_set ?_ GE113.out) | exact HB.out)) hb); clear BK112; clear BK113; clear HI0; clear HK; clear HB; have HO121 := n0_; have BK112 := n1_; have BK113 := n2_; have HI0 := n3_; have HK := n4_; have HB := n5_; clear n0_ n1_ n2_ n3_ n4_ n5_; clear hb ho59; obtain ⟨Ao60, co60, eo60⟩ := Kd.R_slice HO121.out; subst eo60)); go_upto_block 2 with (first | ((with_reducible refine gate_dst (N := 82) rfl ?_); (try (refine gate_guard (by rfl) ?_; dsimp only)); refine Kd.R_lit Kd.string _ 9 ?hg (N := 82) ?hd (xs := ([(⟨#[117, 108]⟩ : ByteArray), (⟨#[117]⟩ : ByteArray), (⟨#[108]⟩ : ByteArray)] : List ByteArray)) (inner := [.string (⟨#[117, 108]⟩ : ByteArray), .string (⟨#[117]⟩ : ByteArray), .string (⟨#[108]⟩ : ByteArray)]) (ok := fun _ => True) (okp := fun _ => True) ?hr ?hp (fun _ hk => hk) trivial (Below.refl _ _) (Nat.le_refl _) (by simp) ?_; (case hd => rfl); (case hg => rfl); (case hr => first | (go_simp; done) | (go_simp; rfl)); (case hp => exact (Reps.one (show Kd.M Kd.string _ _ _ (⟨#[117, 108]⟩ : ByteArray) [.string (⟨#[117, 108]⟩ : ByteArray)] from rfl) (Reps.one (show Kd.M Kd.string _ _ _ (⟨#[117]⟩ : ByteArray) [.string (⟨#[117]⟩ : ByteArray)] from rfl) (Reps.one (show Kd.M Kd.string _ _ _ (⟨#[108]⟩ : ByteArray) [.string (⟨#[108]⟩ : ByteArray)] from rfl) (Reps.none _ _))))); intro v120 w58 ho59 hb hg_ hnew_; clear hg_ hnew_; (first | rw [← Ny119.out] at ho59 | (simp only [Int.reduceToNat] at ho59; rw [← Ny119.out] at ho59)); have n0_ := Aside0.mk (Kd.R_lower ho59 (keep_size (w := w) (g := g) (row := none) (by repeat (first | (with_reducible first | exact HK.out | apply KeepBut.set_ | apply keep_drewN | apply keep_drew | apply keep_alloc | refine keep_far ?_ GW112.out _ | refine keep_far ?_ GW113.out _) | exact HK.out)))); have n1_ := Aside0.mk (blk_below (g := gb112) (o := .cells #[.int .i64 0, .int .i64 0, .string (⟨#[]⟩ : ByteArray), .string (⟨#[]⟩ : ByteArray), .int .u64 0, .bool false] 33 (0, 0)) (by (with_reducible repeat (first | refine blk_drewN ?_ _ | refine blk_drew ?_ | refine blk_alloc ?_ _)); exact BK112.out) hb); have n2_ := Aside0.mk (blk_below (g := gb113) (o := .cells #[.int .i64 3, .int .i64 s0_1, .string (⟨#[]⟩ : ByteArray), .string (⟨#[]⟩ : ByteArray), .int .u64 x114004_15, .bool x114005_4] 33 (0, 0)) (by (with_reducible repeat (first | refine blk_drewN ?_ _ | refine blk_drew ?_ | refine blk_alloc ?_ _)); exact BK113.out) hb); have n3_ := Aside0.mk (IsS45.below (by repeat (first | (with_reducible first | exact HI0.out | apply IsS45.alloc | apply IsS45.drewN | apply IsS45.drew | apply IsS45.set_0 | refine IsS45.set_1 (f1 := s0_1) ?_ _ | refine IsS45.far ?_ NB0_112.out _ | refine IsS45.far ?_ NB0_113.out _) | exact HI0.out)) hb); have n4_ := Aside0.mk (KeepBut.trans (by repeat (first | (with_reducible first | exact HK.out | apply KeepBut.set_ | apply keep_drewN | apply keep_drew | apply keep_alloc | refine keep_far ?_ GW112.out _ | refine keep_far ?_ GW113.out _) | exact HK.out)) (KeepBut.of_below hb g none) (.inl rfl)); have n5_ := Aside0.mk (below_step (by repeat (first | (with_reducible first | exact HB.out | apply below_alloc | apply pw_below_drewN | apply below_drew1 | refine below_set ?_ (IsS45.ge HI0.out) | refine below_set ?_ GE112.out | refine below_set ?_ GE113.out) | exact HB.out)) hb); clear BK112; clear BK113; clear HI0; clear HK; clear HB; have HO121 := n0_; have BK112 := n1_; have BK113 := n2_; have HI0 := n3_; have HK := n4_; have HB := n5_; clear n0_ n1_ n2_ n3_ n4_ n5_; clear hb ho59; obtain ⟨Ao60, co60, eo60⟩ := Kd.R_slice HO121.out; subst eo60)))
     (try simp only [Act.put, List.setIfInBounds_toArray, List.set_cons_zero, List.set_cons_succ])
     go_cut [7] (fun v7 wc => ∃ (kq : Nat) (x7_56 : Int) (x114003_56 : ByteArray), v7 = .int .i64 x7_56 ∧ Aside0 (lex_reader_number.j4 kq R x7_56 x8_15 x9_15 s0_0 s0_1 3 s0_1 (⟨#[]⟩ : ByteArray) x114003_56 x114004_15 x114005_4 = some (r1, r2, r3, r4, r5, r6, r7, r8, r9)) ∧ Aside0 (kq ≤ kj15) ∧ Aside0 (wc.heap[gb112]? = some (.cells #[.int .i64 0, .int .i64 0, .string (⟨#[]⟩ : ByteArray), .string (⟨#[]⟩ : ByteArray), .int .u64 0, .bool false] 33 (0, 0))) ∧ Aside0 (wc.heap[gb113]? = some (.cells #[.int .i64 3, .int .i64 s0_1, .string (⟨#[]⟩ : ByteArray), .string x114003_56, .int .u64 x114004_15, .bool x114005_4] 33 (0, 0))) ∧ Aside0 (IsS45 w0 wc g s0_0 s0_1) ∧ Aside0 (KeepBut w wc g none) ∧ Aside0 (Below w0.heap.size w0 wc))
     case first =>
      have H := HC57.out
      clear HC57
      have H' := Aside0.mk H
      clear H
      go_wp2
      repeat (go_quiet (fail); try go_wp2)
      go_loopg [7, 84] kj15 (fun kq v7 v84 w' => ∃ (x7_3 : Int) (x84_3 : Int) (x114003_3 : ByteArray), v7 = .int .i64 x7_3 ∧ v84 = .int .i64 x84_3 ∧ Aside0 (lex_reader_number.l1 kq R x7_3 x8_15 x9_15 y119 (y119.length : Int) x84_3 s0_0 s0_1 3 s0_1 (⟨#[]⟩ : ByteArray) x114003_3 x114004_15 x114005_4 = some (r1, r2, r3, r4, r5, r6, r7, r8, r9)) ∧ Aside0 (kq ≤ kj15) ∧ Aside0 (Kd.R Kd.string 9 w' w.heap.size (fun _ => True) (.slice Ao60 y119.length co60) y119) ∧ Aside0 (w'.heap[gb112]? = some (.cells #[.int .i64 0, .int .i64 0, .string (⟨#[]⟩ : ByteArray), .string (⟨#[]⟩ : ByteArray), .int .u64 0, .bool false] 33 (0, 0))) ∧ Aside0 (w'.heap[gb113]? = some (.cells #[.int .i64 3, .int .i64 s0_1, .string (⟨#[]⟩ : ByteArray), .string x114003_3, .int .u64 x114004_15, .bool x114005_4] 33 (0, 0))) ∧ Aside0 (IsS45 w0 w' g s0_0 s0_1) ∧ Aside0 (KeepBut w w' g none) ∧ Aside0 (Below w0.heap.size w0 w'))
      case atStart => exact ⟨(x7_15), (0), ((⟨#[]⟩ : ByteArray)), (by first | rfl | (simp; done) | (simp [*]; done)), (by first | rfl | (simp; done) | (simp [*]; done)), H', ⟨Nat.le_refl _⟩, ⟨by (with_reducible repeat (first | apply Kd.R_alloc | apply Kd.R_drewN | apply Kd.R_drew)); exact HO121.out⟩, ⟨by (with_reducible repeat (first | refine blk_drewN ?_ _ | refine blk_drew ?_ | refine blk_alloc ?_ _)); exact BK112.out⟩, ⟨by (with_reducible repeat (first | refine blk_drewN ?_ _ | refine blk_drew ?_ | refine blk_alloc ?_ _)); exact BK113.out⟩, ⟨by repeat (first | (with_reducible first | exact HI0.out | apply IsS45.alloc | apply IsS45.drewN | apply IsS45.drew | apply IsS45.set_0 | refine IsS45.set_1 (f1 := s0_1) ?_ _ | refine IsS45.far ?_ NB0_112.out _ | refine IsS45.far ?_ NB0_113.out _) | exact HI0.out)⟩, ⟨by repeat (first | (with_reducible first | exact HK.out | apply KeepBut.set_ | apply keep_drewN | apply keep_drew | apply keep_alloc | refine keep_far ?_ GW112.out _ | refine keep_far ?_ GW113.out _) | exact HK.out)⟩, ⟨by repeat (first | (with_reducible first | exact HB.out | apply below_alloc | apply pw_below_drewN | apply below_drew1 | refine below_set ?_ (IsS45.ge HI0.out) | refine below_set ?_ GE112.out | refine below_set ?_ GE113.out) | exact HB.out)⟩⟩
      case round =>
       clear H'
       try clear c1
       try clear p1
       try clear q1
       try clear hx1
       try clear c2
       try clear c2b0
       try clear c2b1
       try clear p2
       try clear q2
       try clear hx2
       try clear c3
       try clear c3b0
       try clear c3b1
       try clear p3
       try clear q3
       try clear hx3
       try clear c4
       try clear p4
       try clear q4
       try clear hx4
       try clear qi4
       try clear c5
       try clear p6
       try clear c9
       try clear c10
       try clear c12
       try clear c13
       try clear c14
       try clear c17
       try clear c17b0
       try clear c18
       try clear c18b0
       try clear p19
       try clear q19
       try clear hx19
       try clear c21
       try clear c21b0
       try clear c22
       try clear c22b0
       try clear c22b1
       try clear p23
       try clear q23
       try clear hx23
       try clear c25
       try clear c26
       try clear c27
       try clear c28
       try clear c29
       try clear c29b0
       try clear c29b1
       try clear c30
       try clear c31
       try clear c33
       try clear c33b0
       try clear c33b1
       try clear p34
       try clear q34
       try clear hx34
       try clear c36
       try clear c37
       try clear c38
       try clear c40
       try clear c40b0
       try clear c40b1
       try clear c41
       try clear c42
       try clear c44
       try clear c44b0
       try clear c44b1
       try clear p45
       try clear q45
       try clear hx45
       try clear qi45
       try clear c46
       try clear c46b0
       try clear c46b1
       try clear p47
       try clear q47
       try clear hx47
       try clear c49
       try clear c50
       try clear c51
       try clear c53
       try clear c53b0
       try clear c53b1
       try clear c54
       try clear c55
       try clear hcz11_0
       try clear hcz11_1
       try clear hcz11_2
       try clear hcz11_3
       try clear hcz11_4
       try clear hcz11_5
       try clear hcz15_0
       try clear hcz15_1
       try clear hcz15_2
       try clear hcz15_3
       try clear hcz15_4
       try clear hcz15_5
       try clear hcz28_0
       try clear hcz28_1
       try clear hcz28_2
       try clear hcz28_3
       try clear hcz28_4
       try clear hcz28_5
       try clear hcz32_0
       try clear hcz32_1
       try clear hcz32_2
       try clear hcz32_3
       try clear hcz32_4
       try clear hcz32_5
       try clear hcz39_0
       try clear hcz39_1
       try clear hcz39_2
       try clear hcz39_3
       try clear hcz39_4
       try clear hcz39_5
       try clear hcz43_0
       try clear hcz43_1
       try clear hcz43_2
       try clear hcz43_3
       try clear hcz43_4
       try clear hcz43_5
       try clear hcz52_0
       try clear hcz52_1
       try clear hcz52_2
       try clear hcz52_3
       try clear hcz52_4
       try clear hcz52_5
       try clear hcz56_0
       try clear hcz56_1
       try clear hcz56_2
       try clear hcz56_3
       try clear hcz56_4
       try clear hcz56_5
       try clear hcz7_0
       try clear hcz7_1
       try clear hfz11_0
       try clear hfz11_1
       try clear hfz11_2
       try clear hfz11_3
       try clear hfz11_4
       try clear hfz11_5
       try clear hfz15_0
       try clear hfz15_1
       try clear hfz15_2
       try clear hfz15_3
       try clear hfz15_4
       try clear hfz15_5
       try clear hfz28_0
       try clear hfz28_1
       try clear hfz28_2
       try clear hfz28_3
       try clear hfz28_4
       try clear hfz28_5
       try clear hfz32_0
       try clear hfz32_1
       try clear hfz32_2
       try clear hfz32_3
       try clear hfz32_4
       try clear hfz32_5
       try clear hfz39_0
       try clear hfz39_1
       try clear hfz39_2
       try clear hfz39_3
       try clear hfz39_4
       try clear hfz39_5
       try clear hfz43_0
       try clear hfz43_1
       try clear hfz43_2
       try clear hfz43_3
       try clear hfz43_4
       try clear hfz43_5
       try clear hfz52_0
       try clear hfz52_1
       try clear hfz52_2
       try clear hfz52_3
       try clear hfz52_4
       try clear hfz52_5
       try clear hfz56_0
       try clear hfz56_1
       try clear hfz56_2
       try clear hfz56_3
       try clear hfz56_4
       try clear hfz56_5
       try clear hfz7_0
       try clear hfz7_1
       try clear p1
       try clear p19
       try clear p2
       try clear p23
       try clear p3
       try clear p34
       try clear p4
       try clear p45
       try clear p47
       try clear p6
       try clear q1
       try clear q19
       try clear q2
       try clear q23
       try clear q3
       try clear q34
       try clear q4
       try clear q45
       try clear q47
       obtain ⟨x7_3, x84_3, x114003_3, rfl, rfl, HA, HK3, HO_82, BK112, BK113, HI0, HK, HB⟩ := hrel
       cases gk with
       | zero => exact absurd HA.out (by simp [lex_reader_number.l1])
       | succ k3 =>
        have H := HA.out
        clear HA
        simp only [lex_reader_number.l1] at H
        by_cases c61 : x84_3 < (y119.length : Int)
        ·
         rw [if_pos c61] at H
         have c61b0 : decide (x84_3 < (y119.length : Int)) = true := decide_eq_true c61
         clear c61
         (first | rw [c61b0] | (simp only [i64_w, i32_w]; rw [c61b0]) | skip)
         by_cases c62 : 0 ≤ x84_3
         case neg => rw [if_neg c62] at H; exact absurd H (by simp)
         rw [if_pos c62] at H
         have c62b0 : decide (0 ≤ x84_3) = true := decide_eq_true c62
         clear c62
         by_cases c63 : x84_3 < (y119.length : Int)
         case neg => rw [if_neg c63] at H; exact absurd H (by simp)
         rw [if_pos c63] at H
         have c63b0 : decide (x84_3 < (y119.length : Int)) = true := decide_eq_true c63
         clear c63
         by_cases c64 : 0 ≤ x7_3
         case neg => rw [if_neg c64] at H; exact absurd H (by simp)
         rw [if_pos c64] at H
         have c64b0 := eq_true c64
         have c64b1 : decide (0 ≤ x7_3) = true := decide_eq_true c64
         clear c64
         by_cases c65 : x7_3 ≤ (R.size : Int)
         case neg => rw [if_neg c65] at H; exact absurd H (by simp)
         rw [if_pos c65] at H
         have c65b0 := eq_true c65
         have c65b1 : decide (x7_3 ≤ (R.size : Int)) = true := decide_eq_true c65
         clear c65
         replace H := Option.bind_eq_some_iff.mp H
         obtain ⟨t123, A660, H⟩ := H
         replace H : (if t123 = true then (lex_reader_number.j4 k3 R (wrap64 (x7_3 + ((rdOf ByteArray.empty y119 x84_3).size : Int))) x8_15 x9_15 s0_0 s0_1 3 s0_1 (⟨#[]⟩ : ByteArray) (rdOf ByteArray.empty y119 x84_3) x114004_15 x114005_4) else (lex_reader_number.l1 k3 R x7_3 x8_15 x9_15 y119 (y119.length : Int) (wrap64 (x84_3 + 1)) s0_0 s0_1 3 s0_1 (⟨#[]⟩ : ByteArray) x114003_3 x114004_15 x114005_4)) = some (r1, r2, r3, r4, r5, r6, r7, r8, r9) := H
         have A66 := Aside0.mk A660
         clear A660
         by_cases c67 : t123 = true
         ·
          subst c67
          have H1 : (lex_reader_number.j4 k3 R (wrap64 (x7_3 + ((rdOf ByteArray.empty y119 x84_3).size : Int))) x8_15 x9_15 s0_0 s0_1 3 s0_1 (⟨#[]⟩ : ByteArray) (rdOf ByteArray.empty y119 x84_3) x114004_15 x114005_4) = some (r1, r2, r3, r4, r5, r6, r7, r8, r9) := by rw [if_pos rfl] at H; exact H
          clear H
          have H := H1
          clear H1
          have H' := Aside0.mk H
          clear H
          have p122 : 0 ≤ (x84_3 : Int) := of_decide_eq_true (by first | (with_reducible assumption) | assumption)
          have q122 : x84_3 < (y119.length : Int) := of_decide_eq_true (by first | (with_reducible assumption) | assumption)
          obtain ⟨ad122, e122, hx122_0⟩ := Kd.at_string (Kd.R_reads' HO_82.out).2.2 x84_3 p122 q122
          cases e122
          replace p122 := eq_true p122
          replace q122 := eq_true q122
          go_wp2_with (first | (go_at_call 24; (with_reducible refine (strings_HasPrefix.calls (R.extract (x7_3 : Int).toNat R.size) (rdOf ByteArray.empty y119 x84_3) true _ A66.out).mono ?_); rintro e w' ⟨rfl, ⟨nd, rfl⟩⟩; (try first | exact ⟨rfl, _, World.drewN_drewN _ _ _⟩ | exact ⟨rfl, _, Eq.trans (World.drewN_drewN _ _ _) (congrArg (World.drewN _) (Nat.add_assoc _ _ _))⟩); have hnb68 := NB113_112.out; have hnc68 := NB112_113.out; have hnb69 := NB113_0.out; have hnc69 := NB0_113.out; have hcz70_0 : wr.cell? ⟨gb113, 0, none⟩ = some (.int .i64 3) := (blk_cell BK113.out 0).trans rfl; have hcz70_1 : wr.cell? ⟨gb113, 1, none⟩ = some (.int .i64 s0_1) := (blk_cell BK113.out 1).trans rfl; have hcz70_2 : wr.cell? ⟨gb113, 2, none⟩ = some (.string (⟨#[]⟩ : ByteArray)) := (blk_cell BK113.out 2).trans rfl; have hcz70_3 : wr.cell? ⟨gb113, 3, none⟩ = some (.string x114003_3) := (blk_cell BK113.out 3).trans rfl; have hcz70_4 : wr.cell? ⟨gb113, 4, none⟩ = some (.int .u64 x114004_15) := (blk_cell BK113.out 4).trans rfl; have hcz70_5 : wr.cell? ⟨gb113, 5, none⟩ = some (.bool x114005_4) := (blk_cell BK113.out 5).trans rfl; have hfz70_0 := blk_frozen BK113.out 0; have hfz70_1 := blk_frozen BK113.out 1; have hfz70_2 := blk_frozen BK113.out 2; have hfz70_3 := blk_frozen BK113.out 3; have hfz70_4 := blk_frozen BK113.out 4; have hfz70_5 := blk_frozen BK113.out 5))
          repeat (go_quiet (first | (go_at_call 24; (with_reducible refine (strings_HasPrefix.calls (R.extract (x7_3 : Int).toNat R.size) (rdOf ByteArray.empty y119 x84_3) true _ A66.out).mono ?_); rintro e w' ⟨rfl, ⟨nd, rfl⟩⟩; (try first | exact ⟨rfl, _, World.drewN_drewN _ _ _⟩ | exact ⟨rfl, _, Eq.trans (World.drewN_drewN _ _ _) (congrArg (World.drewN _) (Nat.add_assoc _ _ _))⟩); have hnb68 := NB113_112.out; have hnc68 := NB112_113.out; have hnb69 := NB113_0.out; have hnc69 := NB0_113.out; have hcz70_0 : wr.cell? ⟨gb113, 0, none⟩ = some (.int .i64 3) := (blk_cell BK113.out 0).trans rfl; have hcz70_1 : wr.cell? ⟨gb113, 1, none⟩ = some (.int .i64 s0_1) := (blk_cell BK113.out 1).trans rfl; have hcz70_2 : wr.cell? ⟨gb113, 2, none⟩ = some (.string (⟨#[]⟩ : ByteArray)) := (blk_cell BK113.out 2).trans rfl; have hcz70_3 : wr.cell? ⟨gb113, 3, none⟩ = some (.string x114003_3) := (blk_cell BK113.out 3).trans rfl; have hcz70_4 : wr.cell? ⟨gb113, 4, none⟩ = some (.int .u64 x114004_15) := (blk_cell BK113.out 4).trans rfl; have hcz70_5 : wr.cell? ⟨gb113, 5, none⟩ = some (.bool x114005_4) := (blk_cell BK113.out 5).trans rfl; have hfz70_0 := blk_frozen BK113.out 0; have hfz70_1 := blk_frozen BK113.out 1; have hfz70_2 := blk_frozen BK113.out 2; have hfz70_3 := blk_frozen BK113.out 3; have hfz70_4 := blk_frozen BK113.out 4; have hfz70_5 := blk_frozen BK113.out 5)); try go_wp2_with (first | (go_at_call 24; (with_reducible refine (strings_HasPrefix.calls (R.extract (x7_3 : Int).toNat R.size) (rdOf ByteArray.empty y119 x84_3) true _ A66.out).mono ?_); rintro e w' ⟨rfl, ⟨nd, rfl⟩⟩; (try first | exact ⟨rfl, _, World.drewN_drewN _ _ _⟩ | exact ⟨rfl, _, Eq.trans (World.drewN_drewN _ _ _) (congrArg (World.drewN _) (Nat.add_assoc _ _ _))⟩); have hnb68 := NB113_112.out; have hnc68 := NB112_113.out; have hnb69 := NB113_0.out; have hnc69 := NB0_113.out; have hcz70_0 : wr.cell? ⟨gb113, 0, none⟩ = some (.int .i64 3) := (blk_cell BK113.out 0).trans rfl; have hcz70_1 : wr.cell? ⟨gb113, 1, none⟩ = some (.int .i64 s0_1) := (blk_cell BK113.out 1).trans rfl; have hcz70_2 : wr.cell? ⟨gb113, 2, none⟩ = some (.string (⟨#[]⟩ : ByteArray)) := (blk_cell BK113.out 2).trans rfl; have hcz70_3 : wr.cell? ⟨gb113, 3, none⟩ = some (.string x114003_3) := (blk_cell BK113.out 3).trans rfl; have hcz70_4 : wr.cell? ⟨gb113, 4, none⟩ = some (.int .u64 x114004_15) := (blk_cell BK113.out 4).trans rfl; have hcz70_5 : wr.cell? ⟨gb113, 5, none⟩ = some (.bool x114005_4) := (blk_cell BK113.out 5).trans rfl; have hfz70_0 := blk_frozen BK113.out 0; have hfz70_1 := blk_frozen BK113.out 1; have hfz70_2 := blk_frozen BK113.out 2; have hfz70_3 := blk_frozen BK113.out 3; have hfz70_4 := blk_frozen BK113.out 4; have hfz70_5 := blk_frozen BK113.out 5)))
          go_meet
          case rel => exact ⟨_, (wrap64 (x7_3 + ((rdOf ByteArray.empty y119 x84_3).size : Int))), (rdOf ByteArray.empty y119 x84_3), (by first | rfl | (simp; done) | (simp [*]; done)), H', ⟨by have := HJ4.out; have := HJ15.out; have := HK3.out; first | omega | exact Nat.le_refl _⟩, ⟨by (with_reducible repeat (first | refine blk_drewN ?_ _ | refine blk_drew ?_ | refine blk_alloc ?_ _)); refine blk_far ?_ NB112_113.out _; (with_reducible repeat (first | refine blk_drewN ?_ _ | refine blk_drew ?_ | refine blk_alloc ?_ _)); exact BK112.out⟩, ⟨by (with_reducible repeat (first | refine blk_drewN ?_ _ | refine blk_drew ?_ | refine blk_alloc ?_ _)); refine blk_put (cs := #[.int .i64 3, .int .i64 s0_1, .string (⟨#[]⟩ : ByteArray), .string x114003_3, .int .u64 x114004_15, .bool x114005_4]) ?_ 3 _ rfl; (with_reducible repeat (first | refine blk_drewN ?_ _ | refine blk_drew ?_ | refine blk_alloc ?_ _)); exact BK113.out⟩, ⟨by repeat (first | (with_reducible first | exact HI0.out | apply IsS45.alloc | apply IsS45.drewN | apply IsS45.drew | apply IsS45.set_0 | refine IsS45.set_1 (f1 := s0_1) ?_ _ | refine IsS45.far ?_ NB0_112.out _ | refine IsS45.far ?_ NB0_113.out _) | exact HI0.out)⟩, ⟨by repeat (first | (with_reducible first | exact HK.out | apply KeepBut.set_ | apply keep_drewN | apply keep_drew | apply keep_alloc | refine keep_far ?_ GW112.out _ | refine keep_far ?_ GW113.out _) | exact HK.out)⟩, ⟨by repeat (first | (with_reducible first | exact HB.out | apply below_alloc | apply pw_below_drewN | apply below_drew1 | refine below_set ?_ (IsS45.ge HI0.out) | refine below_set ?_ GE112.out | refine below_set ?_ GE113.out) | exact HB.out)⟩⟩
         ·
          replace c67 := Bool.eq_false_iff.mpr c67
          subst c67
          have H1 : (lex_reader_number.l1 k3 R x7_3 x8_15 x9_15 y119 (y119.length : Int) (wrap64 (x84_3 + 1)) s0_0 s0_1 3 s0_1 (⟨#[]⟩ : ByteArray) x114003_3 x114004_15 x114005_4) = some (r1, r2, r3, r4, r5, r6, r7, r8, r9) := by rw [if_neg (show ¬ (false = true) by decide)] at H; exact H
          clear H
          have H := H1
          clear H1
          have H' := Aside0.mk H
          clear H
          have p122 : 0 ≤ (x84_3 : Int) := of_decide_eq_true (by first | (with_reducible assumption) | assumption)
          have q122 : x84_3 < (y119.length : Int) := of_decide_eq_true (by first | (with_reducible assumption) | assumption)
          obtain ⟨ad122, e122, hx122_0⟩ := Kd.at_string (Kd.R_reads' HO_82.out).2.2 x84_3 p122 q122
          cases e122
          replace p122 := eq_true p122
          replace q122 := eq_true q122
          go_wp2_with (first | (go_at_call 24; (with_reducible refine (strings_HasPrefix.calls (R.extract (x7_3 : Int).toNat R.size) (rdOf ByteArray.empty y119 x84_3) false _ A66.out).mono ?_); rintro e w' ⟨rfl, ⟨nd, rfl⟩⟩; (try first | exact ⟨rfl, _, World.drewN_drewN _ _ _⟩ | exact ⟨rfl, _, Eq.trans (World.drewN_drewN _ _ _) (congrArg (World.drewN _) (Nat.add_assoc _ _ _))⟩)))
          repeat (go_quiet (first | (go_at_call 24; (with_reducible refine (strings_HasPrefix.calls (R.extract (x7_3 : Int).toNat R.size) (rdOf ByteArray.empty y119 x84_3) false _ A66.out).mono ?_); rintro e w' ⟨rfl, ⟨nd, rfl⟩⟩; (try first | exact ⟨rfl, _, World.drewN_drewN _ _ _⟩ | exact ⟨rfl, _, Eq.trans (World.drewN_drewN _ _ _) (congrArg (World.drewN _) (Nat.add_assoc _ _ _))⟩))); try go_wp2_with (first | (go_at_call 24; (with_reducible refine (strings_HasPrefix.calls (R.extract (x7_3 : Int).toNat R.size) (rdOf ByteArray.empty y119 x84_3) false _ A66.out).mono ?_); rintro e w' ⟨rfl, ⟨nd, rfl⟩⟩; (try first | exact ⟨rfl, _, World.drewN_drewN _ _ _⟩ | exact ⟨rfl, _, Eq.trans (World.drewN_drewN _ _ _) (congrArg (World.drewN _) (Nat.add_assoc _ _ _))⟩))))
          go_roundg k3
          case measure => have := HJ4.out; have := HJ15.out; have := HK3.out; omega
          case rel => exact ⟨(x7_3), (wrap64 (x84_3 + 1)), (x114003_3), (by first | rfl | (simp; done) | (simp [*]; done)), (by first | rfl | (simp; done) | (simp [*]; done)), H', ⟨by have := HJ4.out; have := HJ15.out; have := HK3.out; omega⟩, ⟨by (with_reducible repeat (first | apply Kd.R_alloc | apply Kd.R_drewN | apply Kd.R_drew)); exact HO_82.out⟩, ⟨by (with_reducible repeat (first | refine blk_drewN ?_ _ | refine blk_drew ?_ | refine blk_alloc ?_ _)); exact BK112.out⟩, ⟨by (with_reducible repeat (first | refine blk_drewN ?_ _ | refine blk_drew ?_ | refine blk_alloc ?_ _)); exact BK113.out⟩, ⟨by repeat (first | (with_reducible first | exact HI0.out | apply IsS45.alloc | apply IsS45.drewN | apply IsS45.drew | apply IsS45.set_0 | refine IsS45.set_1 (f1 := s0_1) ?_ _ | refine IsS45.far ?_ NB0_112.out _ | refine IsS45.far ?_ NB0_113.out _) | exact HI0.out)⟩, ⟨by repeat (first | (with_reducible first | exact HK.out | apply KeepBut.set_ | apply keep_drewN | apply keep_drew | apply keep_alloc | refine keep_far ?_ GW112.out _ | refine keep_far ?_ GW113.out _) | exact HK.out)⟩, ⟨by repeat (first | (with_reducible first | exact HB.out | apply below_alloc | apply pw_below_drewN | apply below_drew1 | refine below_set ?_ (IsS45.ge HI0.out) | refine below_set ?_ GE112.out | refine below_set ?_ GE113.out) | exact HB.out)⟩⟩
        ·
         rw [if_neg c61] at H
         have c61b0 : decide (x84_3 < (y119.length : Int)) = false := decide_eq_false c61
         clear c61
         (first | rw [c61b0] | (simp only [i64_w, i32_w]; rw [c61b0]) | skip)
         have H' := Aside0.mk H
         clear H
         go_wp2
         repeat (go_quiet (fail); try go_wp2)
         go_meet
         case rel => exact ⟨_, (x7_3), (x114003_3), (by first | rfl | (simp; done) | (simp [*]; done)), H', ⟨by have := HJ4.out; have := HJ15.out; have := HK3.out; first | omega | exact Nat.le_refl _⟩, ⟨by (with_reducible repeat (first | refine blk_drewN ?_ _ | refine blk_drew ?_ | refine blk_alloc ?_ _)); exact BK112.out⟩, ⟨by (with_reducible repeat (first | refine blk_drewN ?_ _ | refine blk_drew ?_ | refine blk_alloc ?_ _)); exact BK113.out⟩, ⟨by repeat (first | (with_reducible first | exact HI0.out | apply IsS45.alloc | apply IsS45.drewN | apply IsS45.drew | apply IsS45.set_0 | refine IsS45.set_1 (f1 := s0_1) ?_ _ | refine IsS45.far ?_ NB0_112.out _ | refine IsS45.far ?_ NB0_113.out _) | exact HI0.out)⟩, ⟨by repeat (first | (with_reducible first | exact HK.out | apply KeepBut.set_ | apply keep_drewN | apply keep_drew | apply keep_alloc | refine keep_far ?_ GW112.out _ | refine keep_far ?_ GW113.out _) | exact HK.out)⟩, ⟨by repeat (first | (with_reducible first | exact HB.out | apply below_alloc | apply pw_below_drewN | apply below_drew1 | refine below_set ?_ (IsS45.ge HI0.out) | refine below_set ?_ GE112.out | refine below_set ?_ GE113.out) | exact HB.out)⟩⟩
     case rest =>
      clear HC57
      try clear c1
      try clear p1
      try clear q1
      try clear hx1
      try clear c2
      try clear c2b0
      try clear c2b1
      try clear p2
      try clear q2
      try clear hx2
      try clear c3
      try clear c3b0
      try clear c3b1
      try clear p3
      try clear q3
      try clear hx3
      try clear c4
      try clear p4
      try clear q4
      try clear hx4
      try clear qi4
      try clear c5
      try clear c6
      try clear p6
      try clear c9
      try clear c10
      try clear c12
      try clear p12
      try clear q12
      try clear hx12
      try clear c13
      try clear c14
      try clear c17
      try clear c17b0
      try clear c18
      try clear c18b0
      try clear p19
      try clear q19
      try clear hx19
      try clear c21
      try clear c21b0
      try clear c22
      try clear c22b0
      try clear c22b1
      try clear p23
      try clear q23
      try clear hx23
      try clear c25
      try clear c26
      try clear c27
      try clear c28
      try clear c29
      try clear c29b0
      try clear c29b1
      try clear c30
      try clear c31
      try clear c33
      try clear c33b0
      try clear c33b1
      try clear p34
      try clear q34
      try clear hx34
      try clear c36
      try clear c37
      try clear c38
      try clear c40
      try clear c40b0
      try clear c40b1
      try clear c41
      try clear c42
      try clear c44
      try clear c44b0
      try clear c44b1
      try clear p45
      try clear q45
      try clear hx45
      try clear qi45
      try clear c46
      try clear c46b0
      try clear c46b1
      try clear p47
      try clear q47
      try clear hx47
      try clear c49
      try clear c50
      try clear c51
      try clear c53
      try clear c53b0
      try clear c53b1
      try clear c54
      try clear c55
      try clear c61
      try clear c61b0
      try clear c62
      try clear c62b0
      try clear c63
      try clear c63b0
      try clear c64
      try clear c64b0
      try clear c64b1
      try clear p64
      try clear c65
      try clear c65b0
      try clear c65b1
      try clear c67
      try clear c68
      try clear c69
      try clear hcz11_0
      try clear hcz11_1
      try clear hcz11_2
      try clear hcz11_3
      try clear hcz11_4
      try clear hcz11_5
      try clear hcz15_0
      try clear hcz15_1
      try clear hcz15_2
      try clear hcz15_3
      try clear hcz15_4
      try clear hcz15_5
      try clear hcz28_0
      try clear hcz28_1
      try clear hcz28_2
      try clear hcz28_3
      try clear hcz28_4
      try clear hcz28_5
      try clear hcz32_0
      try clear hcz32_1
      try clear hcz32_2
      try clear hcz32_3
      try clear hcz32_4
      try clear hcz32_5
      try clear hcz39_0
      try clear hcz39_1
      try clear hcz39_2
      try clear hcz39_3
      try clear hcz39_4
      try clear hcz39_5
      try clear hcz43_0
      try clear hcz43_1
      try clear hcz43_2
      try clear hcz43_3
      try clear hcz43_4
      try clear hcz43_5
      try clear hcz52_0
      try clear hcz52_1
      try clear hcz52_2
      try clear hcz52_3
      try clear hcz52_4
      try clear hcz52_5
      try clear hcz56_0
      try clear hcz56_1
      try clear hcz56_2
      try clear hcz56_3
      try clear hcz56_4
      try clear hcz56_5
      try clear hcz70_0
      try clear hcz70_1
      try clear hcz70_2
      try clear hcz70_3
      try clear hcz70_4
      try clear hcz70_5
      try clear hcz7_0
      try clear hcz7_1
      try clear hfz11_0
      try clear hfz11_1
      try clear hfz11_2
      try clear hfz11_3
      try clear hfz11_4
      try clear hfz11_5
      try clear hfz15_0
      try clear hfz15_1
      try clear hfz15_2
      try clear hfz15_3
      try clear hfz15_4
      try clear hfz15_5
      try clear hfz28_0
      try clear hfz28_1
      try clear hfz28_2
      try clear hfz28_3
      try clear hfz28_4
      try clear hfz28_5
      try clear hfz32_0
      try clear hfz32_1
      try clear hfz32_2
      try clear hfz32_3
      try clear hfz32_4
      try clear hfz32_5
      try clear hfz39_0
      try clear hfz39_1
      try clear hfz39_2
      try clear hfz39_3
      try clear hfz39_4
      try clear hfz39_5
      try clear hfz43_0
      try clear hfz43_1
      try clear hfz43_2
      try clear hfz43_3
      try clear hfz43_4
      try clear hfz43_5
      try clear hfz52_0
      try clear hfz52_1
      try clear hfz52_2
      try clear hfz52_3
      try clear hfz52_4
      try clear hfz52_5
      try clear hfz56_0
      try clear hfz56_1
      try clear hfz56_2
      try clear hfz56_3
      try clear hfz56_4
      try clear hfz56_5
      try clear hfz70_0
      try clear hfz70_1
      try clear hfz70_2
      try clear hfz70_3
      try clear hfz70_4
      try clear hfz70_5
      try clear hfz7_0
      try clear hfz7_1
      try clear hx122_0
      try clear p1
      try clear p122
      try clear p19
      try clear p2
      try clear p23
      try clear p3
      try clear p34
      try clear p4
      try clear p45
      try clear p47
      try clear p6
      try clear q1
      try clear q122
      try clear q19
      try clear q2
      try clear q23
      try clear q3
      try clear q34
      try clear q4
      try clear q45
      try clear q47
      obtain ⟨kq, x7_56, x114003_56, rfl, HA, HJ56, BK112, BK113, HI0, HK, HB⟩ := hcut
      cases kq with
      | zero => exact absurd HA.out (by simp [lex_reader_number.j4])
      | succ kj56 =>
       have H := HA.out
       clear HA
       simp only [lex_reader_number.j4] at H
       have HC71 := Aside0.mk H
       clear H
       go_upto_region 20 with (fail)
       repeat (go_quiet (fail); go_upto_region 20 with (fail))
       go_cut [100] (fun v100 wc => ∃ (kq : Nat) (x100_70 : Bool), v100 = .bool x100_70 ∧ Aside0 (lex_reader_number.j5 kq R x7_56 x9_15 x100_70 s0_0 s0_1 3 s0_1 (⟨#[]⟩ : ByteArray) x114003_56 x114004_15 x114005_4 = some (r1, r2, r3, r4, r5, r6, r7, r8, r9)) ∧ Aside0 (kq ≤ kj56) ∧ Aside0 (wc.heap[gb112]? = some (.cells #[.int .i64 0, .int .i64 0, .string (⟨#[]⟩ : ByteArray), .string (⟨#[]⟩ : ByteArray), .int .u64 0, .bool false] 33 (0, 0))) ∧ Aside0 (wc.heap[gb113]? = some (.cells #[.int .i64 3, .int .i64 s0_1, .string (⟨#[]⟩ : ByteArray), .string x114003_56, .int .u64 x114004_15, .bool x114005_4] 33 (0, 0))) ∧ Aside0 (IsS45 w0 wc g s0_0 s0_1) ∧ Aside0 (KeepBut w wc g none) ∧ Aside0 (Below w0.heap.size w0 wc))
       case first =>
        have H := HC71.out
        clear HC71
        by_cases c72 : x8_15 = 0
        ·
         rw [if_pos c72] at H
         have c72b0 : (x8_15 == 0) = true := beq_iff_eq.mpr c72
         have c72b1 : (x8_15 != 0) = false := bne_eq_false_iff_eq.mpr c72
         clear c72
         (first | rw [c72b0] | (simp only [i64_w, i32_w]; rw [c72b0]) | skip)
         have H' := Aside0.mk H
         clear H
         go_wp2
         repeat (go_quiet (fail); try go_wp2)
         go_meet
         case rel => exact ⟨_, (true), (by first | rfl | (simp; done) | (simp [*]; done)), H', ⟨by have := HJ4.out; have := HJ15.out; have := HJ56.out; first | omega | exact Nat.le_refl _⟩, ⟨by (with_reducible repeat (first | refine blk_drewN ?_ _ | refine blk_drew ?_ | refine blk_alloc ?_ _)); exact BK112.out⟩, ⟨by (with_reducible repeat (first | refine blk_drewN ?_ _ | refine blk_drew ?_ | refine blk_alloc ?_ _)); exact BK113.out⟩, ⟨by repeat (first | (with_reducible first | exact HI0.out | apply IsS45.alloc | apply IsS45.drewN | apply IsS45.drew | apply IsS45.set_0 | refine IsS45.set_1 (f1 := s0_1) ?_ _ | refine IsS45.far ?_ NB0_112.out _ | refine IsS45.far ?_ NB0_113.out _) | exact HI0.out)⟩, ⟨by repeat (first | (with_reducible first | exact HK.out | apply KeepBut.set_ | apply keep_drewN | apply keep_drew | apply keep_alloc | refine keep_far ?_ GW112.out _ | refine keep_far ?_ GW113.out _) | exact HK.out)⟩, ⟨by repeat (first | (with_reducible first | exact HB.out | apply below_alloc | apply pw_below_drewN | apply below_drew1 | refine below_set ?_ (IsS45.ge HI0.out) | refine below_set ?_ GE112.out | refine below_set ?_ GE113.out) | exact HB.out)⟩⟩
        ·
         rw [if_neg c72] at H
         have c72b0 : (x8_15 == 0) = false := beq_eq_false_iff_ne.mpr c72
         have c72b1 : (x8_15 != 0) = true := bne_iff_ne.mpr c72
         (first | rw [c72b0] | (simp only [i64_w, i32_w]; rw [c72b0]) | skip)
         by_cases c73 : x7_56 < (R.size : Int)
         ·
          rw [if_pos c73] at H
          have c73b0 : decide (x7_56 < (R.size : Int)) = true := decide_eq_true c73
          clear c73
          by_cases c74 : 0 ≤ x7_56
          case neg => rw [if_neg c74] at H; exact absurd H (by simp)
          rw [if_pos c74] at H
          have c74b0 : decide (0 ≤ x7_56) = true := decide_eq_true c74
          clear c74
          replace H := Option.bind_eq_some_iff.mp H
          obtain ⟨t124, A760, H⟩ := H
          replace H : (lex_reader_number.j5 kj56 R x7_56 x9_15 t124 s0_0 s0_1 3 s0_1 (⟨#[]⟩ : ByteArray) x114003_56 x114004_15 x114005_4) = some (r1, r2, r3, r4, r5, r6, r7, r8, r9) := H
          have A76 := Aside0.mk A760
          clear A760
          have H' := Aside0.mk H
          clear H
          have p75 : 0 ≤ (x7_56 : Int) := of_decide_eq_true (by first | (with_reducible assumption) | assumption)
          have q75 : x7_56 < (R.size : Int) := of_decide_eq_true (by first | (with_reducible assumption) | assumption)
          have hx75 := bt_at R x7_56
          replace p75 := eq_true p75
          replace q75 := eq_true q75
          go_wp2_with (first | (go_at_call 30; (with_reducible refine (lex_part.calls (bt R x7_56) t124 _ A76.out).mono ?_); rintro e w' ⟨rfl, ⟨nd, rfl⟩⟩; (try first | exact ⟨rfl, _, World.drewN_drewN _ _ _⟩ | exact ⟨rfl, _, Eq.trans (World.drewN_drewN _ _ _) (congrArg (World.drewN _) (Nat.add_assoc _ _ _))⟩)))
          repeat (go_quiet (first | (go_at_call 30; (with_reducible refine (lex_part.calls (bt R x7_56) t124 _ A76.out).mono ?_); rintro e w' ⟨rfl, ⟨nd, rfl⟩⟩; (try first | exact ⟨rfl, _, World.drewN_drewN _ _ _⟩ | exact ⟨rfl, _, Eq.trans (World.drewN_drewN _ _ _) (congrArg (World.drewN _) (Nat.add_assoc _ _ _))⟩))); try go_wp2_with (first | (go_at_call 30; (with_reducible refine (lex_part.calls (bt R x7_56) t124 _ A76.out).mono ?_); rintro e w' ⟨rfl, ⟨nd, rfl⟩⟩; (try first | exact ⟨rfl, _, World.drewN_drewN _ _ _⟩ | exact ⟨rfl, _, Eq.trans (World.drewN_drewN _ _ _) (congrArg (World.drewN _) (Nat.add_assoc _ _ _))⟩))))
          go_meet
          case rel => exact ⟨_, (t124), (by first | rfl | (simp; done) | (simp [*]; done)), H', ⟨by have := HJ4.out; have := HJ15.out; have := HJ56.out; first | omega | exact Nat.le_refl _⟩, ⟨by (with_reducible repeat (first | refine blk_drewN ?_ _ | refine blk_drew ?_ | refine blk_alloc ?_ _)); exact BK112.out⟩, ⟨by (with_reducible repeat (first | refine blk_drewN ?_ _ | refine blk_drew ?_ | refine blk_alloc ?_ _)); exact BK113.out⟩, ⟨by repeat (first | (with_reducible first | exact HI0.out | apply IsS45.alloc | apply IsS45.drewN | apply IsS45.drew | apply IsS45.set_0 | refine IsS45.set_1 (f1 := s0_1) ?_ _ | refine IsS45.far ?_ NB0_112.out _ | refine IsS45.far ?_ NB0_113.out _) | exact HI0.out)⟩, ⟨by repeat (first | (with_reducible first | exact HK.out | apply KeepBut.set_ | apply keep_drewN | apply keep_drew | apply keep_alloc | refine keep_far ?_ GW112.out _ | refine keep_far ?_ GW113.out _) | exact HK.out)⟩, ⟨by repeat (first | (with_reducible first | exact HB.out | apply below_alloc | apply pw_below_drewN | apply below_drew1 | refine below_set ?_ (IsS45.ge HI0.out) | refine below_set ?_ GE112.out | refine below_set ?_ GE113.out) | exact HB.out)⟩⟩
         ·
          rw [if_neg c73] at H
          have c73b0 : decide (x7_56 < (R.size : Int)) = false := decide_eq_false c73
          clear c73
          have H' := Aside0.mk H
          clear H
          go_wp2
          repeat (go_quiet (fail); try go_wp2)
          go_meet
          case rel => exact ⟨_, (false), (by first | rfl | (simp; done) | (simp [*]; done)), H', ⟨by have := HJ4.out; have := HJ15.out; have := HJ56.out; first | omega | exact Nat.le_refl _⟩, ⟨by (with_reducible repeat (first | refine blk_drewN ?_ _ | refine blk_drew ?_ | refine blk_alloc ?_ _)); exact BK112.out⟩, ⟨by (with_reducible repeat (first | refine blk_drewN ?_ _ | refine blk_drew ?_ | refine blk_alloc ?_ _)); exact BK113.out⟩, ⟨by repeat (first | (with_reducible first | exact HI0.out | apply IsS45.alloc | apply IsS45.drewN | apply IsS45.drew | apply IsS45.set_0 | refine IsS45.set_1 (f1 := s0_1) ?_ _ | refine IsS45.far ?_ NB0_112.out _ | refine IsS45.far ?_ NB0_113.out _) | exact HI0.out)⟩, ⟨by repeat (first | (with_reducible first | exact HK.out | apply KeepBut.set_ | apply keep_drewN | apply keep_drew | apply keep_alloc | refine keep_far ?_ GW112.out _ | refine keep_far ?_ GW113.out _) | exact HK.out)⟩, ⟨by repeat (first | (with_reducible first | exact HB.out | apply below_alloc | apply pw_below_drewN | apply below_drew1 | refine below_set ?_ (IsS45.ge HI0.out) | refine below_set ?_ GE112.out | refine below_set ?_ GE113.out) | exact HB.out)⟩⟩
       case rest =>
        clear HC71
        try clear c1
        try clear p1
        try clear q1
        try clear hx1
        try clear c2
        try clear c2b0
        try clear c2b1
        try clear p2
        try clear q2
        try clear hx2
        try clear c3
        try clear c3b0
        try clear c3b1
        try clear p3
        try clear q3
        try clear hx3
        try clear c4
        try clear p4
        try clear q4
        try clear hx4
        try clear qi4
        try clear c5
        try clear c6
        try clear p6
        try clear c7
        try clear p7
        try clear q7
        try clear hx7
        try clear c9
        try clear c10
        try clear c12
        try clear p12
        try clear q12
        try clear hx12
        try clear c13
        try clear c14
        try clear c17
        try clear c17b0
        try clear c18
        try clear c18b0
        try clear p19
        try clear q19
        try clear hx19
        try clear c21
        try clear c21b0
        try clear c22
        try clear c22b0
        try clear c22b1
        try clear p23
        try clear q23
        try clear hx23
        try clear c25
        try clear c26
        try clear c27
        try clear c28
        try clear c29
        try clear c29b0
        try clear c29b1
        try clear c30
        try clear c31
        try clear c33
        try clear c33b0
        try clear c33b1
        try clear p34
        try clear q34
        try clear hx34
        try clear c36
        try clear c37
        try clear c38
        try clear c40
        try clear c40b0
        try clear c40b1
        try clear c41
        try clear c42
        try clear c44
        try clear c44b0
        try clear c44b1
        try clear p45
        try clear q45
        try clear hx45
        try clear qi45
        try clear c46
        try clear c46b0
        try clear c46b1
        try clear p47
        try clear q47
        try clear hx47
        try clear c49
        try clear c50
        try clear c51
        try clear c53
        try clear c53b0
        try clear c53b1
        try clear c54
        try clear c55
        try clear c61
        try clear c61b0
        try clear c62
        try clear c62b0
        try clear c63
        try clear c63b0
        try clear c64
        try clear c64b0
        try clear c64b1
        try clear p64
        try clear c65
        try clear c65b0
        try clear c65b1
        try clear c67
        try clear c68
        try clear c69
        try clear c72
        try clear c72b0
        try clear c72b1
        try clear c73
        try clear c73b0
        try clear c74
        try clear c74b0
        try clear p75
        try clear q75
        try clear hx75
        try clear hcz11_0
        try clear hcz11_1
        try clear hcz11_2
        try clear hcz11_3
        try clear hcz11_4
        try clear hcz11_5
        try clear hcz15_0
        try clear hcz15_1
        try clear hcz15_2
        try clear hcz15_3
        try clear hcz15_4
        try clear hcz15_5
        try clear hcz28_0
        try clear hcz28_1
        try clear hcz28_2
        try clear hcz28_3
        try clear hcz28_4
        try clear hcz28_5
        try clear hcz32_0
        try clear hcz32_1
        try clear hcz32_2
        try clear hcz32_3
        try clear hcz32_4
        try clear hcz32_5
        try clear hcz39_0
        try clear hcz39_1
        try clear hcz39_2
        try clear hcz39_3
        try clear hcz39_4
        try clear hcz39_5
        try clear hcz43_0
        try clear hcz43_1
        try clear hcz43_2
        try clear hcz43_3
        try clear hcz43_4
        try clear hcz43_5
        try clear hcz52_0
        try clear hcz52_1
        try clear hcz52_2
        try clear hcz52_3
        try clear hcz52_4
        try clear hcz52_5
        try clear hcz56_0
        try clear hcz56_1
        try clear hcz56_2
        try clear hcz56_3
        try clear hcz56_4
        try clear hcz56_5
        try clear hcz70_0
        try clear hcz70_1
        try clear hcz70_2
        try clear hcz70_3
        try clear hcz70_4
        try clear hcz70_5
        try clear hcz7_0
        try clear hcz7_1
        try clear hfz11_0
        try clear hfz11_1
        try clear hfz11_2
        try clear hfz11_3
        try clear hfz11_4
        try clear hfz11_5
        try clear hfz15_0
        try clear hfz15_1
        try clear hfz15_2
        try clear hfz15_3
        try clear hfz15_4
        try clear hfz15_5
        try clear hfz28_0
        try clear hfz28_1
        try clear hfz28_2
        try clear hfz28_3
        try clear hfz28_4
        try clear hfz28_5
        try clear hfz32_0
        try clear hfz32_1
        try clear hfz32_2
        try clear hfz32_3
        try clear hfz32_4
        try clear hfz32_5
        try clear hfz39_0
        try clear hfz39_1
        try clear hfz39_2
        try clear hfz39_3
        try clear hfz39_4
        try clear hfz39_5
        try clear hfz43_0
        try clear hfz43_1
        try clear hfz43_2
        try clear hfz43_3
        try clear hfz43_4
        try clear hfz43_5
        try clear hfz52_0
        try clear hfz52_1
        try clear hfz52_2
        try clear hfz52_3
        try clear hfz52_4
        try clear hfz52_5
        try clear hfz56_0
        try clear hfz56_1
        try clear hfz56_2
        try clear hfz56_3
        try clear hfz56_4
        try clear hfz56_5
        try clear hfz70_0
        try clear hfz70_1
        try clear hfz70_2
        try clear hfz70_3
        try clear hfz70_4
        try clear hfz70_5
        try clear hfz7_0
        try clear hfz7_1
        try clear hx122_0
        try clear p1
        try clear p12
        try clear p122
        try clear p19
        try clear p2
        try clear p23
        try clear p3
        try clear p34
        try clear p4
        try clear p45
        try clear p47
        try clear p6
        try clear p64
        try clear p75
        try clear q1
        try clear q12
        try clear q122
        try clear q19
        try clear q2
        try clear q23
        try clear q3
        try clear q34
        try clear q4
        try clear q45
        try clear q47
        try clear q75
        obtain ⟨kq, x100_70, rfl, HA, HJ70, BK112, BK113, HI0, HK, HB⟩ := hcut
        cases kq with
        | zero => exact absurd HA.out (by simp [lex_reader_number.j5])
        | succ kj70 =>
         have H := HA.out
         clear HA
         simp only [lex_reader_number.j5] at H
         by_cases c77 : x100_70 = true
         ·
          subst c77
          have H1 : (some (3, s0_1, (⟨#[]⟩ : ByteArray), x114003_56, x114004_15, x114005_4, 3, s0_0, s0_1)) = some (r1, r2, r3, r4, r5, r6, r7, r8, r9) := by rw [if_pos rfl] at H; exact H
          clear H
          have H := H1
          clear H1
          simp only [Option.some.injEq, Prod.mk.injEq] at H
          obtain ⟨rfl, rfl, rfl, rfl, rfl, rfl, rfl, rfl, rfl⟩ := H
          have hnb78 := NB113_112.out
          have hnc78 := NB112_113.out
          have hnb79 := NB113_0.out
          have hnc79 := NB0_113.out
          have hcz80_0 : wc.cell? ⟨gb113, 0, none⟩ = some (.int .i64 3) := (blk_cell BK113.out 0).trans rfl
          have hcz80_1 : wc.cell? ⟨gb113, 1, none⟩ = some (.int .i64 s0_1) := (blk_cell BK113.out 1).trans rfl
          have hcz80_2 : wc.cell? ⟨gb113, 2, none⟩ = some (.string (⟨#[]⟩ : ByteArray)) := (blk_cell BK113.out 2).trans rfl
          have hcz80_3 : wc.cell? ⟨gb113, 3, none⟩ = some (.string x114003_56) := (blk_cell BK113.out 3).trans rfl
          have hcz80_4 : wc.cell? ⟨gb113, 4, none⟩ = some (.int .u64 x114004_15) := (blk_cell BK113.out 4).trans rfl
          have hcz80_5 : wc.cell? ⟨gb113, 5, none⟩ = some (.bool x114005_4) := (blk_cell BK113.out 5).trans rfl
          have hfz80_0 := blk_frozen BK113.out 0
          have hfz80_1 := blk_frozen BK113.out 1
          have hfz80_2 := blk_frozen BK113.out 2
          have hfz80_3 := blk_frozen BK113.out 3
          have hfz80_4 := blk_frozen BK113.out 4
          have hfz80_5 := blk_frozen BK113.out 5
          have hnb81 := NB112_0.out
          have hnc81 := NB0_112.out
          have hcz82_0 : wc.cell? ⟨gb112, 0, none⟩ = some (.int .i64 0) := (blk_cell BK112.out 0).trans rfl
          have hcz82_1 : wc.cell? ⟨gb112, 1, none⟩ = some (.int .i64 0) := (blk_cell BK112.out 1).trans rfl
          have hcz82_2 : wc.cell? ⟨gb112, 2, none⟩ = some (.string (⟨#[]⟩ : ByteArray)) := (blk_cell BK112.out 2).trans rfl
          have hcz82_3 : wc.cell? ⟨gb112, 3, none⟩ = some (.string (⟨#[]⟩ : ByteArray)) := (blk_cell BK112.out 3).trans rfl
          have hcz82_4 : wc.cell? ⟨gb112, 4, none⟩ = some (.int .u64 0) := (blk_cell BK112.out 4).trans rfl
          have hcz82_5 : wc.cell? ⟨gb112, 5, none⟩ = some (.bool false) := (blk_cell BK112.out 5).trans rfl
          have hfz82_0 := blk_frozen BK112.out 0
          have hfz82_1 := blk_frozen BK112.out 1
          have hfz82_2 := blk_frozen BK112.out 2
          have hfz82_3 := blk_frozen BK112.out 3
          have hfz82_4 := blk_frozen BK112.out 4
          have hfz82_5 := blk_frozen BK112.out 5
          go_wp2
          repeat (go_quiet (fail); try go_wp2)
          refine bodyPost_ret (results_ct rfl _ _ gb112 33 #[.int .i64 3, .int .i64 s0_1, .string (⟨#[]⟩ : ByteArray), .string x114003_56, .int .u64 x114004_15, .bool x114005_4] (0, 0) _ rfl (by (with_reducible repeat (first | refine blk_drewN ?_ _ | refine blk_drew ?_ | refine blk_alloc ?_ _)); refine blk_put (cs := #[.int .i64 3, .int .i64 s0_1, .string (⟨#[]⟩ : ByteArray), .string x114003_56, .int .u64 x114004_15, .bool false]) ?_ 5 _ rfl; (with_reducible repeat (first | refine blk_drewN ?_ _ | refine blk_drew ?_ | refine blk_alloc ?_ _)); refine blk_put (cs := #[.int .i64 3, .int .i64 s0_1, .string (⟨#[]⟩ : ByteArray), .string x114003_56, .int .u64 0, .bool false]) ?_ 4 _ rfl; (with_reducible repeat (first | refine blk_drewN ?_ _ | refine blk_drew ?_ | refine blk_alloc ?_ _)); refine blk_put (cs := #[.int .i64 3, .int .i64 s0_1, .string (⟨#[]⟩ : ByteArray), .string (⟨#[]⟩ : ByteArray), .int .u64 0, .bool false]) ?_ 3 _ rfl; (with_reducible repeat (first | refine blk_drewN ?_ _ | refine blk_drew ?_ | refine blk_alloc ?_ _)); refine blk_put (cs := #[.int .i64 3, .int .i64 s0_1, .string (⟨#[]⟩ : ByteArray), .string (⟨#[]⟩ : ByteArray), .int .u64 0, .bool false]) ?_ 2 _ rfl; (with_reducible repeat (first | refine blk_drewN ?_ _ | refine blk_drew ?_ | refine blk_alloc ?_ _)); refine blk_put (cs := #[.int .i64 3, .int .i64 0, .string (⟨#[]⟩ : ByteArray), .string (⟨#[]⟩ : ByteArray), .int .u64 0, .bool false]) ?_ 1 _ rfl; (with_reducible repeat (first | refine blk_drewN ?_ _ | refine blk_drew ?_ | refine blk_alloc ?_ _)); refine blk_put (cs := #[.int .i64 0, .int .i64 0, .string (⟨#[]⟩ : ByteArray), .string (⟨#[]⟩ : ByteArray), .int .u64 0, .bool false]) ?_ 0 _ rfl; (with_reducible repeat (first | refine blk_drewN ?_ _ | refine blk_drew ?_ | refine blk_alloc ?_ _)); exact BK112.out) Tryd.underlying33 rfl (by kernel_rfl)) rfl ?_
          exact ⟨by first | rfl | (simp [errW_none, errW_some] <;> rfl) | (simp [*, errW_none, errW_some] <;> rfl), by repeat (first | (with_reducible first | exact HI0.out | apply IsS45.alloc | apply IsS45.drewN | apply IsS45.drew | apply IsS45.set_0 | refine IsS45.set_1 (f1 := s0_1) ?_ _ | refine IsS45.far ?_ NB0_112.out _ | refine IsS45.far ?_ NB0_113.out _) | exact HI0.out), by repeat (first | (with_reducible first | exact HB.out | apply below_alloc | apply pw_below_drewN | apply below_drew1 | refine below_set ?_ (IsS45.ge HI0.out) | refine below_set ?_ GE112.out | refine below_set ?_ GE113.out) | exact HB.out), by repeat (first | (with_reducible first | exact HK.out | apply KeepBut.set_ | apply keep_drewN | apply keep_drew | apply keep_alloc | refine keep_far ?_ GW112.out _ | refine keep_far ?_ GW113.out _) | exact HK.out)⟩
         ·
          replace c77 := Bool.eq_false_iff.mpr c77
          subst c77
          have H1 : (if x9_15 = true then (some (3, s0_1, (⟨#[]⟩ : ByteArray), x114003_56, x114004_15, x114005_4, 6, s0_0, s0_1)) else (if 0 ≤ x7_56 then (if x7_56 ≤ (R.size : Int) then (some (3, s0_1, R.extract 0 (x7_56 : Int).toNat, x114003_56, x114004_15, x114005_4, 0, s0_0, wrap64 (s0_1 + x7_56))) else (none)) else (none))) = some (r1, r2, r3, r4, r5, r6, r7, r8, r9) := by rw [if_neg (show ¬ (false = true) by decide)] at H; exact H
          clear H
          have H := H1
          clear H1
          by_cases c83 : x9_15 = true
          ·
           subst c83
           have H1 : (some (3, s0_1, (⟨#[]⟩ : ByteArray), x114003_56, x114004_15, x114005_4, 6, s0_0, s0_1)) = some (r1, r2, r3, r4, r5, r6, r7, r8, r9) := by rw [if_pos rfl] at H; exact H
           clear H
           have H := H1
           clear H1
           simp only [Option.some.injEq, Prod.mk.injEq] at H
           obtain ⟨rfl, rfl, rfl, rfl, rfl, rfl, rfl, rfl, rfl⟩ := H
           have hnb84 := NB113_112.out
           have hnc84 := NB112_113.out
           have hnb85 := NB113_0.out
           have hnc85 := NB0_113.out
           have hcz86_0 : wc.cell? ⟨gb113, 0, none⟩ = some (.int .i64 3) := (blk_cell BK113.out 0).trans rfl
           have hcz86_1 : wc.cell? ⟨gb113, 1, none⟩ = some (.int .i64 s0_1) := (blk_cell BK113.out 1).trans rfl
           have hcz86_2 : wc.cell? ⟨gb113, 2, none⟩ = some (.string (⟨#[]⟩ : ByteArray)) := (blk_cell BK113.out 2).trans rfl
           have hcz86_3 : wc.cell? ⟨gb113, 3, none⟩ = some (.string x114003_56) := (blk_cell BK113.out 3).trans rfl
           have hcz86_4 : wc.cell? ⟨gb113, 4, none⟩ = some (.int .u64 x114004_15) := (blk_cell BK113.out 4).trans rfl
           have hcz86_5 : wc.cell? ⟨gb113, 5, none⟩ = some (.bool x114005_4) := (blk_cell BK113.out 5).trans rfl
           have hfz86_0 := blk_frozen BK113.out 0
           have hfz86_1 := blk_frozen BK113.out 1
           have hfz86_2 := blk_frozen BK113.out 2
           have hfz86_3 := blk_frozen BK113.out 3
           have hfz86_4 := blk_frozen BK113.out 4
           have hfz86_5 := blk_frozen BK113.out 5
           have hnb87 := NB112_0.out
           have hnc87 := NB0_112.out
           have hcz88_0 : wc.cell? ⟨gb112, 0, none⟩ = some (.int .i64 0) := (blk_cell BK112.out 0).trans rfl
           have hcz88_1 : wc.cell? ⟨gb112, 1, none⟩ = some (.int .i64 0) := (blk_cell BK112.out 1).trans rfl
           have hcz88_2 : wc.cell? ⟨gb112, 2, none⟩ = some (.string (⟨#[]⟩ : ByteArray)) := (blk_cell BK112.out 2).trans rfl
           have hcz88_3 : wc.cell? ⟨gb112, 3, none⟩ = some (.string (⟨#[]⟩ : ByteArray)) := (blk_cell BK112.out 3).trans rfl
           have hcz88_4 : wc.cell? ⟨gb112, 4, none⟩ = some (.int .u64 0) := (blk_cell BK112.out 4).trans rfl
           have hcz88_5 : wc.cell? ⟨gb112, 5, none⟩ = some (.bool false) := (blk_cell BK112.out 5).trans rfl
           have hfz88_0 := blk_frozen BK112.out 0
           have hfz88_1 := blk_frozen BK112.out 1
           have hfz88_2 := blk_frozen BK112.out 2
           have hfz88_3 := blk_frozen BK112.out 3
           have hfz88_4 := blk_frozen BK112.out 4
           have hfz88_5 := blk_frozen BK112.out 5
           go_wp2
           repeat (go_quiet (fail); try go_wp2)
           refine bodyPost_ret (results_ct rfl _ _ gb112 33 #[.int .i64 3, .int .i64 s0_1, .string (⟨#[]⟩ : ByteArray), .string x114003_56, .int .u64 x114004_15, .bool x114005_4] (0, 0) _ rfl (by (with_reducible repeat (first | refine blk_drewN ?_ _ | refine blk_drew ?_ | refine blk_alloc ?_ _)); refine blk_put (cs := #[.int .i64 3, .int .i64 s0_1, .string (⟨#[]⟩ : ByteArray), .string x114003_56, .int .u64 x114004_15, .bool false]) ?_ 5 _ rfl; (with_reducible repeat (first | refine blk_drewN ?_ _ | refine blk_drew ?_ | refine blk_alloc ?_ _)); refine blk_put (cs := #[.int .i64 3, .int .i64 s0_1, .string (⟨#[]⟩ : ByteArray), .string x114003_56, .int .u64 0, .bool false]) ?_ 4 _ rfl; (with_reducible repeat (first | refine blk_drewN ?_ _ | refine blk_drew ?_ | refine blk_alloc ?_ _)); refine blk_put (cs := #[.int .i64 3, .int .i64 s0_1, .string (⟨#[]⟩ : ByteArray), .string (⟨#[]⟩ : ByteArray), .int .u64 0, .bool false]) ?_ 3 _ rfl; (with_reducible repeat (first | refine blk_drewN ?_ _ | refine blk_drew ?_ | refine blk_alloc ?_ _)); refine blk_put (cs := #[.int .i64 3, .int .i64 s0_1, .string (⟨#[]⟩ : ByteArray), .string (⟨#[]⟩ : ByteArray), .int .u64 0, .bool false]) ?_ 2 _ rfl; (with_reducible repeat (first | refine blk_drewN ?_ _ | refine blk_drew ?_ | refine blk_alloc ?_ _)); refine blk_put (cs := #[.int .i64 3, .int .i64 0, .string (⟨#[]⟩ : ByteArray), .string (⟨#[]⟩ : ByteArray), .int .u64 0, .bool false]) ?_ 1 _ rfl; (with_reducible repeat (first | refine blk_drewN ?_ _ | refine blk_drew ?_ | refine blk_alloc ?_ _)); refine blk_put (cs := #[.int .i64 0, .int .i64 0, .string (⟨#[]⟩ : ByteArray), .string (⟨#[]⟩ : ByteArray), .int .u64 0, .bool false]) ?_ 0 _ rfl; (with_reducible repeat (first | refine blk_drewN ?_ _ | refine blk_drew ?_ | refine blk_alloc ?_ _)); exact BK112.out) Tryd.underlying33 rfl (by kernel_rfl)) rfl ?_
           exact ⟨by first | rfl | (simp [errW_none, errW_some] <;> rfl) | (simp [*, errW_none, errW_some] <;> rfl), by repeat (first | (with_reducible first | exact HI0.out | apply IsS45.alloc | apply IsS45.drewN | apply IsS45.drew | apply IsS45.set_0 | refine IsS45.set_1 (f1 := s0_1) ?_ _ | refine IsS45.far ?_ NB0_112.out _ | refine IsS45.far ?_ NB0_113.out _) | exact HI0.out), by repeat (first | (with_reducible first | exact HB.out | apply below_alloc | apply pw_below_drewN | apply below_drew1 | refine below_set ?_ (IsS45.ge HI0.out) | refine below_set ?_ GE112.out | refine below_set ?_ GE113.out) | exact HB.out), by repeat (first | (with_reducible first | exact HK.out | apply KeepBut.set_ | apply keep_drewN | apply keep_drew | apply keep_alloc | refine keep_far ?_ GW112.out _ | refine keep_far ?_ GW113.out _) | exact HK.out)⟩
          ·
           replace c83 := Bool.eq_false_iff.mpr c83
           subst c83
           have H1 : (if 0 ≤ x7_56 then (if x7_56 ≤ (R.size : Int) then (some (3, s0_1, R.extract 0 (x7_56 : Int).toNat, x114003_56, x114004_15, x114005_4, 0, s0_0, wrap64 (s0_1 + x7_56))) else (none)) else (none)) = some (r1, r2, r3, r4, r5, r6, r7, r8, r9) := by rw [if_neg (show ¬ (false = true) by decide)] at H; exact H
           clear H
           have H := H1
           clear H1
           by_cases c89 : 0 ≤ x7_56
           case neg => rw [if_neg c89] at H; exact absurd H (by simp)
           rw [if_pos c89] at H
           have c89b0 := eq_true c89
           have c89b1 : decide (0 ≤ x7_56) = true := decide_eq_true c89
           clear c89
           by_cases c90 : x7_56 ≤ (R.size : Int)
           case neg => rw [if_neg c90] at H; exact absurd H (by simp)
           rw [if_pos c90] at H
           have c90b0 := eq_true c90
           have c90b1 : decide (x7_56 ≤ (R.size : Int)) = true := decide_eq_true c90
           clear c90
           simp only [Option.some.injEq, Prod.mk.injEq] at H
           obtain ⟨rfl, rfl, rfl, rfl, rfl, rfl, rfl, rfl, rfl⟩ := H
           have hnb91 := NB113_112.out
           have hnc91 := NB112_113.out
           have hnb92 := NB113_0.out
           have hnc92 := NB0_113.out
           have hcz93_0 : wc.cell? ⟨gb113, 0, none⟩ = some (.int .i64 3) := (blk_cell BK113.out 0).trans rfl
           have hcz93_1 : wc.cell? ⟨gb113, 1, none⟩ = some (.int .i64 s0_1) := (blk_cell BK113.out 1).trans rfl
           have hcz93_2 : wc.cell? ⟨gb113, 2, none⟩ = some (.string (⟨#[]⟩ : ByteArray)) := (blk_cell BK113.out 2).trans rfl
           have hcz93_3 : wc.cell? ⟨gb113, 3, none⟩ = some (.string x114003_56) := (blk_cell BK113.out 3).trans rfl
           have hcz93_4 : wc.cell? ⟨gb113, 4, none⟩ = some (.int .u64 x114004_15) := (blk_cell BK113.out 4).trans rfl
           have hcz93_5 : wc.cell? ⟨gb113, 5, none⟩ = some (.bool x114005_4) := (blk_cell BK113.out 5).trans rfl
           have hfz93_0 := blk_frozen BK113.out 0
           have hfz93_1 := blk_frozen BK113.out 1
           have hfz93_2 := blk_frozen BK113.out 2
           have hfz93_3 := blk_frozen BK113.out 3
           have hfz93_4 := blk_frozen BK113.out 4
           have hfz93_5 := blk_frozen BK113.out 5
           obtain ⟨HGz94, hgz94⟩ := HI0.out
           have hcz94_0 := cellS45_0 HGz94
           have hcz94_1 := cellS45_1 HGz94
           have hfz94_0 := blk_frozen HGz94 0
           have hfz94_1 := blk_frozen HGz94 1
           clear HGz94 hgz94
           have hnb95 := NB112_0.out
           have hnc95 := NB0_112.out
           have hcz96_0 : wc.cell? ⟨gb112, 0, none⟩ = some (.int .i64 0) := (blk_cell BK112.out 0).trans rfl
           have hcz96_1 : wc.cell? ⟨gb112, 1, none⟩ = some (.int .i64 0) := (blk_cell BK112.out 1).trans rfl
           have hcz96_2 : wc.cell? ⟨gb112, 2, none⟩ = some (.string (⟨#[]⟩ : ByteArray)) := (blk_cell BK112.out 2).trans rfl
           have hcz96_3 : wc.cell? ⟨gb112, 3, none⟩ = some (.string (⟨#[]⟩ : ByteArray)) := (blk_cell BK112.out 3).trans rfl
           have hcz96_4 : wc.cell? ⟨gb112, 4, none⟩ = some (.int .u64 0) := (blk_cell BK112.out 4).trans rfl
           have hcz96_5 : wc.cell? ⟨gb112, 5, none⟩ = some (.bool false) := (blk_cell BK112.out 5).trans rfl
           have hfz96_0 := blk_frozen BK112.out 0
           have hfz96_1 := blk_frozen BK112.out 1
           have hfz96_2 := blk_frozen BK112.out 2
           have hfz96_3 := blk_frozen BK112.out 3
           have hfz96_4 := blk_frozen BK112.out 4
           have hfz96_5 := blk_frozen BK112.out 5
           go_wp2
           repeat (go_quiet (fail); try go_wp2)
           refine bodyPost_ret (results_ct rfl _ _ gb112 33 #[.int .i64 3, .int .i64 s0_1, .string (R.extract 0 (x7_56 : Int).toNat), .string x114003_56, .int .u64 x114004_15, .bool x114005_4] (0, 0) _ rfl (by (with_reducible repeat (first | refine blk_drewN ?_ _ | refine blk_drew ?_ | refine blk_alloc ?_ _)); refine blk_put (cs := #[.int .i64 3, .int .i64 s0_1, .string (R.extract 0 (x7_56 : Int).toNat), .string x114003_56, .int .u64 x114004_15, .bool false]) ?_ 5 _ rfl; (with_reducible repeat (first | refine blk_drewN ?_ _ | refine blk_drew ?_ | refine blk_alloc ?_ _)); refine blk_put (cs := #[.int .i64 3, .int .i64 s0_1, .string (R.extract 0 (x7_56 : Int).toNat), .string x114003_56, .int .u64 0, .bool false]) ?_ 4 _ rfl; (with_reducible repeat (first | refine blk_drewN ?_ _ | refine blk_drew ?_ | refine blk_alloc ?_ _)); refine blk_put (cs := #[.int .i64 3, .int .i64 s0_1, .string (R.extract 0 (x7_56 : Int).toNat), .string (⟨#[]⟩ : ByteArray), .int .u64 0, .bool false]) ?_ 3 _ rfl; (with_reducible repeat (first | refine blk_drewN ?_ _ | refine blk_drew ?_ | refine blk_alloc ?_ _)); refine blk_put (cs := #[.int .i64 3, .int .i64 s0_1, .string (⟨#[]⟩ : ByteArray), .string (⟨#[]⟩ : ByteArray), .int .u64 0, .bool false]) ?_ 2 _ rfl; (with_reducible repeat (first | refine blk_drewN ?_ _ | refine blk_drew ?_ | refine blk_alloc ?_ _)); refine blk_put (cs := #[.int .i64 3, .int .i64 0, .string (⟨#[]⟩ : ByteArray), .string (⟨#[]⟩ : ByteArray), .int .u64 0, .bool false]) ?_ 1 _ rfl; (with_reducible repeat (first | refine blk_drewN ?_ _ | refine blk_drew ?_ | refine blk_alloc ?_ _)); refine blk_put (cs := #[.int .i64 0, .int .i64 0, .string (⟨#[]⟩ : ByteArray), .string (⟨#[]⟩ : ByteArray), .int .u64 0, .bool false]) ?_ 0 _ rfl; (with_reducible repeat (first | refine blk_drewN ?_ _ | refine blk_drew ?_ | refine blk_alloc ?_ _)); refine blk_far ?_ NB112_0.out _; (with_reducible repeat (first | refine blk_drewN ?_ _ | refine blk_drew ?_ | refine blk_alloc ?_ _)); refine blk_far ?_ NB112_113.out _; (with_reducible repeat (first | refine blk_drewN ?_ _ | refine blk_drew ?_ | refine blk_alloc ?_ _)); exact BK112.out) Tryd.underlying33 rfl (by kernel_rfl)) rfl ?_
           exact ⟨by first | rfl | (simp [errW_none, errW_some] <;> rfl) | (simp [*, errW_none, errW_some] <;> rfl), by repeat (first | (with_reducible first | exact HI0.out | apply IsS45.alloc | apply IsS45.drewN | apply IsS45.drew | apply IsS45.set_0 | refine IsS45.set_1 (f1 := s0_1) ?_ _ | refine IsS45.far ?_ NB0_112.out _ | refine IsS45.far ?_ NB0_113.out _) | exact HI0.out), by repeat (first | (with_reducible first | exact HB.out | apply below_alloc | apply pw_below_drewN | apply below_drew1 | refine below_set ?_ (IsS45.ge HI0.out) | refine below_set ?_ GE112.out | refine below_set ?_ GE113.out) | exact HB.out), by repeat (first | (with_reducible first | exact HK.out | apply KeepBut.set_ | apply keep_drewN | apply keep_drew | apply keep_alloc | refine keep_far ?_ GW112.out _ | refine keep_far ?_ GW113.out _) | exact HK.out)⟩

end Go.Proofs.YtiljijckfkphhaaDoor.PLex
