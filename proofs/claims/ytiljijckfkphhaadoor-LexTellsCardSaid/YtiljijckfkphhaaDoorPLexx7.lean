-- PRINTED by print.py (a twelfth state) out of the translation. Not trusted: Lean checks it.
import Derived.Test.YtiljijckfkphhaaDoorPLexx0
import Derived.Test.YtiljijckfkphhaaDoorPLexx4
import Derived.Test.YtiljijckfkphhaaDoorPLexx6
namespace Go.Proofs.YtiljijckfkphhaaDoor.PLex
open Go.RowKit Go.Proofs.YtiljijckfkphhaaDoorW.PrintWords Go.Proofs.YtiljijckfkphhaaDoorW.PrintLast Go.Proofs.YtiljijckfkphhaaDoorW.PrintMore
attribute [local go_sem] max2_int min2_int max_two min_two max_three min_three max_four min_four   -- for this text's walks alone
set_option linter.unusedVariables false
set_option linter.unusedSimpArgs false

/-! ### spokeshaveref2_number: function 35 -/
mutual
def spokeshaveref2_number.j0 : Nat → ByteArray → Int → Int → Bool → Bool → Int → Int → ByteArray → ByteArray → Int → Bool → Option (Int × Int × ByteArray × ByteArray × Int × Bool × Int)
 | 0, _, _, _, _, _, _, _, _, _, _, _ => none
 | k + 1, x0, x1, x7, x8, x25, x161000, x161001, x161002, x161003, x161004, x161005 => if x25 = true then ((spokeshaveref2_at.f x0 (wrap64 (x7 + 2))).bind fun t162 => ((spokeshaveref2_hex.f k t162).bind fun t163 => (if t163 < 0 then (some (x161000, x161001, x161002, x161003, x161004, true, 3)) else (spokeshaveref2_number.l0 k x0 x1 (wrap64 (x7 + 2)) x8 x161000 x161001 x161002 x161003 x161004 true)))) else (if 0 ≤ x7 then (if x7 < (x0.size : Int) then (spokeshaveref2_number.l1 k x0 x1 x7 x8 (bt x0 x7) x161000 x161001 x161002 x161003 x161004 x161005) else (none)) else (none))
def spokeshaveref2_number.j3 : Nat → ByteArray → Int → Int → Bool → Int → Int → ByteArray → ByteArray → Int → Bool → Option (Int × Int × ByteArray × ByteArray × Int × Bool × Int)
 | 0, _, _, _, _, _, _, _, _, _, _ => none
 | k + 1, x0, x1, x7, x8, x161000, x161001, x161002, x161003, x161004, x161005 => (spokeshaveref2_at.f x0 x7).bind fun t170 => (if t170 = 117 then (spokeshaveref2_number.j4 k x0 x1 (wrap64 (x7 + 1)) x8 x7 x161000 x161001 x161002 x161003 x161004 x161005) else (spokeshaveref2_number.j4 k x0 x1 x7 x8 x7 x161000 x161001 x161002 x161003 x161004 x161005))
def spokeshaveref2_number.j4 : Nat → ByteArray → Int → Int → Bool → Int → Int → Int → ByteArray → ByteArray → Int → Bool → Option (Int × Int × ByteArray × ByteArray × Int × Bool × Int)
 | 0, _, _, _, _, _, _, _, _, _, _, _ => none
 | k + 1, x0, x1, x7, x8, x11, x161000, x161001, x161002, x161003, x161004, x161005 => (spokeshaveref2_at.f x0 x7).bind fun t171 => (if t171 = 108 then (spokeshaveref2_number.j5 k x0 x1 (wrap64 (x7 + 1)) x8 x11 x161000 x161001 x161002 x161003 x161004 x161005) else (spokeshaveref2_number.j5 k x0 x1 x7 x8 x11 x161000 x161001 x161002 x161003 x161004 x161005))
def spokeshaveref2_number.j5 : Nat → ByteArray → Int → Int → Bool → Int → Int → Int → ByteArray → ByteArray → Int → Bool → Option (Int × Int × ByteArray × ByteArray × Int × Bool × Int)
 | 0, _, _, _, _, _, _, _, _, _, _, _ => none
 | k + 1, x0, x1, x7, x8, x11, x161000, x161001, x161002, x161003, x161004, x161005 => if 0 ≤ x11 then (if x11 ≤ x7 then (if x7 ≤ (x0.size : Int) then (if 0 ≤ x1 then (if x1 ≤ x7 then ((spokeshaveref2_at.f x0 x7).bind fun t172 => ((spokeshaveref2_digit.f t172).bind fun t173 => (if t173 = true then (spokeshaveref2_number.j6 k x8 true x161000 x161001 (x0.extract (x1 : Int).toNat (x7 : Int).toNat) (x0.extract (x11 : Int).toNat (x7 : Int).toNat) x161004 x161005) else ((spokeshaveref2_at.f x0 x7).bind fun t174 => ((spokeshaveref2_letter.f t174).bind fun t175 => (spokeshaveref2_number.j6 k x8 t175 x161000 x161001 (x0.extract (x1 : Int).toNat (x7 : Int).toNat) (x0.extract (x11 : Int).toNat (x7 : Int).toNat) x161004 x161005)))))) else (none)) else (none)) else (none)) else (none)) else (none)
def spokeshaveref2_number.j6 : Nat → Bool → Bool → Int → Int → ByteArray → ByteArray → Int → Bool → Option (Int × Int × ByteArray × ByteArray × Int × Bool × Int)
 | 0, _, _, _, _, _, _, _, _ => none
 | k + 1, x8, x128, x161000, x161001, x161002, x161003, x161004, x161005 => if x128 = true then (some (x161000, x161001, x161002, x161003, x161004, x161005, 3)) else (if x8 = true then (some (x161000, x161001, x161002, x161003, x161004, x161005, 6)) else (some (x161000, x161001, x161002, x161003, x161004, x161005, 0)))
def spokeshaveref2_number.l0 : Nat → ByteArray → Int → Int → Bool → Int → Int → ByteArray → ByteArray → Int → Bool → Option (Int × Int × ByteArray × ByteArray × Int × Bool × Int)
 | 0, _, _, _, _, _, _, _, _, _, _ => none
 | k + 1, x0, x1, x7, x8, x161000, x161001, x161002, x161003, x161004, x161005 => (spokeshaveref2_at.f x0 x7).bind fun t164 => ((spokeshaveref2_hex.f k t164).bind fun t165 => (if t165 ≥ 0 then (if x8 = true then (if 0 ≤ x7 then (if x7 < (x0.size : Int) then ((spokeshaveref2_hex.f k (bt x0 x7)).bind fun t166 => (spokeshaveref2_number.l0 k x0 x1 (wrap64 (x7 + 1)) true x161000 x161001 x161002 x161003 (IntKind.u64.wrap ((IntKind.u64.wrap (x161004 * 16)) + (IntKind.u64.wrap (t166)))) x161005)) else (none)) else (none)) else (if 0 ≤ x7 then (if x7 < (x0.size : Int) then ((spokeshaveref2_hex.f k (bt x0 x7)).bind fun t167 => (spokeshaveref2_number.l0 k x0 x1 (wrap64 (x7 + 1)) (decide (x161004 ≥ 1152921504606846976)) x161000 x161001 x161002 x161003 (IntKind.u64.wrap ((IntKind.u64.wrap (x161004 * 16)) + (IntKind.u64.wrap (t167)))) x161005)) else (none)) else (none))) else (spokeshaveref2_number.j3 k x0 x1 x7 x8 x161000 x161001 x161002 x161003 x161004 x161005)))
def spokeshaveref2_number.l1 : Nat → ByteArray → Int → Int → Bool → Int → Int → Int → ByteArray → ByteArray → Int → Bool → Option (Int × Int × ByteArray × ByteArray × Int × Bool × Int)
 | 0, _, _, _, _, _, _, _, _, _, _, _ => none
 | k + 1, x0, x1, x7, x8, x9, x161000, x161001, x161002, x161003, x161004, x161005 => (spokeshaveref2_at.f x0 x7).bind fun t168 => ((spokeshaveref2_digit.f t168).bind fun t169 => (if t169 = true then (if 0 ≤ x7 then (if x7 < (x0.size : Int) then (if x8 = true then (spokeshaveref2_number.l1 k x0 x1 (wrap64 (x7 + 1)) true x9 x161000 x161001 x161002 x161003 (IntKind.u64.wrap ((IntKind.u64.wrap (x161004 * 10)) + (((bt x0 x7) - 48) % 256))) x161005) else (spokeshaveref2_number.l1 k x0 x1 (wrap64 (x7 + 1)) (decide (x161004 > ((18446744073709551615 - (((bt x0 x7) - 48) % 256)) / 10))) x9 x161000 x161001 x161002 x161003 (IntKind.u64.wrap ((IntKind.u64.wrap (x161004 * 10)) + (((bt x0 x7) - 48) % 256))) x161005)) else (none)) else (none)) else (if x9 = 48 then (if x7 > (wrap64 (x1 + 1)) then (some (x161000, x161001, x161002, x161003, x161004, x161005, 3)) else (spokeshaveref2_number.j3 k x0 x1 x7 x8 x161000 x161001 x161002 x161003 x161004 x161005)) else (spokeshaveref2_number.j3 k x0 x1 x7 x8 x161000 x161001 x161002 x161003 x161004 x161005))))
end
def spokeshaveref2_number.f (k : Nat) (a0 : ByteArray) (a1 : Int) : Option (Int × Int × ByteArray × ByteArray × Int × Bool × Int) := if 0 ≤ a1 then (if a1 < (a0.size : Int) then (if (bt a0 a1) = 48 then ((spokeshaveref2_at.f a0 (wrap64 (a1 + 1))).bind fun t161 => (spokeshaveref2_number.j0 k a0 a1 a1 false (t161 == 120) 3 a1 (⟨#[]⟩ : ByteArray) (⟨#[]⟩ : ByteArray) 0 false)) else (spokeshaveref2_number.j0 k a0 a1 a1 false false 3 a1 (⟨#[]⟩ : ByteArray) (⟨#[]⟩ : ByteArray) 0 false)) else (none)) else (none)
theorem spokeshaveref2_number.mono_l : ∀ k, (∀ y0 y1 y2 y3 y4 y5 y6 y7 y8 y9 y10, LeO (spokeshaveref2_number.j0 k y0 y1 y2 y3 y4 y5 y6 y7 y8 y9 y10) (spokeshaveref2_number.j0 (k + 1) y0 y1 y2 y3 y4 y5 y6 y7 y8 y9 y10)) ∧ (∀ y0 y1 y2 y3 y4 y5 y6 y7 y8 y9, LeO (spokeshaveref2_number.j3 k y0 y1 y2 y3 y4 y5 y6 y7 y8 y9) (spokeshaveref2_number.j3 (k + 1) y0 y1 y2 y3 y4 y5 y6 y7 y8 y9)) ∧ (∀ y0 y1 y2 y3 y4 y5 y6 y7 y8 y9 y10, LeO (spokeshaveref2_number.j4 k y0 y1 y2 y3 y4 y5 y6 y7 y8 y9 y10) (spokeshaveref2_number.j4 (k + 1) y0 y1 y2 y3 y4 y5 y6 y7 y8 y9 y10)) ∧ (∀ y0 y1 y2 y3 y4 y5 y6 y7 y8 y9 y10, LeO (spokeshaveref2_number.j5 k y0 y1 y2 y3 y4 y5 y6 y7 y8 y9 y10) (spokeshaveref2_number.j5 (k + 1) y0 y1 y2 y3 y4 y5 y6 y7 y8 y9 y10)) ∧ (∀ y0 y1 y2 y3 y4 y5 y6 y7, LeO (spokeshaveref2_number.j6 k y0 y1 y2 y3 y4 y5 y6 y7) (spokeshaveref2_number.j6 (k + 1) y0 y1 y2 y3 y4 y5 y6 y7)) ∧ (∀ y0 y1 y2 y3 y4 y5 y6 y7 y8 y9, LeO (spokeshaveref2_number.l0 k y0 y1 y2 y3 y4 y5 y6 y7 y8 y9) (spokeshaveref2_number.l0 (k + 1) y0 y1 y2 y3 y4 y5 y6 y7 y8 y9)) ∧ (∀ y0 y1 y2 y3 y4 y5 y6 y7 y8 y9 y10, LeO (spokeshaveref2_number.l1 k y0 y1 y2 y3 y4 y5 y6 y7 y8 y9 y10) (spokeshaveref2_number.l1 (k + 1) y0 y1 y2 y3 y4 y5 y6 y7 y8 y9 y10))
 | 0 => ⟨fun _ _ _ _ _ _ _ _ _ _ _ r h => by simp [spokeshaveref2_number.j0] at h, fun _ _ _ _ _ _ _ _ _ _ r h => by simp [spokeshaveref2_number.j3] at h, fun _ _ _ _ _ _ _ _ _ _ _ r h => by simp [spokeshaveref2_number.j4] at h, fun _ _ _ _ _ _ _ _ _ _ _ r h => by simp [spokeshaveref2_number.j5] at h, fun _ _ _ _ _ _ _ _ r h => by simp [spokeshaveref2_number.j6] at h, fun _ _ _ _ _ _ _ _ _ _ r h => by simp [spokeshaveref2_number.l0] at h, fun _ _ _ _ _ _ _ _ _ _ _ r h => by simp [spokeshaveref2_number.l1] at h⟩
 | k + 1 => by
  obtain ⟨ih0, ih1, ih2, ih3, ih4, ih5, ih6⟩ := spokeshaveref2_number.mono_l k
  refine ⟨?_, ?_, ?_, ?_, ?_, ?_, ?_⟩
  ·
   intro y0 y1 y2 y3 y4 y5 y6 y7 y8 y9 y10
   unfold spokeshaveref2_number.j0
   repeat' first
   | (with_reducible exact ih0 _ _ _ _ _ _ _ _ _ _ _)
   | (with_reducible exact ih1 _ _ _ _ _ _ _ _ _ _)
   | (with_reducible exact ih2 _ _ _ _ _ _ _ _ _ _ _)
   | (with_reducible exact ih3 _ _ _ _ _ _ _ _ _ _ _)
   | (with_reducible exact ih4 _ _ _ _ _ _ _ _)
   | (with_reducible exact ih5 _ _ _ _ _ _ _ _ _ _)
   | (with_reducible exact ih6 _ _ _ _ _ _ _ _ _ _ _)
   | (with_reducible exact spokeshaveref2_hex.mono _ _)
   | (with_reducible exact LeO.refl _)
   | (with_reducible exact LeO.none _)
   | (with_reducible refine LeO.ite ?_ ?_)
   | (with_reducible refine LeO.bind ?_ (fun _ => ?_))
   | exact ih0 _ _ _ _ _ _ _ _ _ _ _
   | exact ih1 _ _ _ _ _ _ _ _ _ _
   | exact ih2 _ _ _ _ _ _ _ _ _ _ _
   | exact ih3 _ _ _ _ _ _ _ _ _ _ _
   | exact ih4 _ _ _ _ _ _ _ _
   | exact ih5 _ _ _ _ _ _ _ _ _ _
   | exact ih6 _ _ _ _ _ _ _ _ _ _ _
   | exact spokeshaveref2_hex.mono _ _
   | exact LeO.none _
   | refine LeO.ite ?_ ?_
   | refine LeO.bind ?_ (fun _ => ?_)
  ·
   intro y0 y1 y2 y3 y4 y5 y6 y7 y8 y9
   unfold spokeshaveref2_number.j3
   repeat' first
   | (with_reducible exact ih0 _ _ _ _ _ _ _ _ _ _ _)
   | (with_reducible exact ih1 _ _ _ _ _ _ _ _ _ _)
   | (with_reducible exact ih2 _ _ _ _ _ _ _ _ _ _ _)
   | (with_reducible exact ih3 _ _ _ _ _ _ _ _ _ _ _)
   | (with_reducible exact ih4 _ _ _ _ _ _ _ _)
   | (with_reducible exact ih5 _ _ _ _ _ _ _ _ _ _)
   | (with_reducible exact ih6 _ _ _ _ _ _ _ _ _ _ _)
   | (with_reducible exact spokeshaveref2_hex.mono _ _)
   | (with_reducible exact LeO.refl _)
   | (with_reducible exact LeO.none _)
   | (with_reducible refine LeO.ite ?_ ?_)
   | (with_reducible refine LeO.bind ?_ (fun _ => ?_))
   | exact ih0 _ _ _ _ _ _ _ _ _ _ _
   | exact ih1 _ _ _ _ _ _ _ _ _ _
   | exact ih2 _ _ _ _ _ _ _ _ _ _ _
   | exact ih3 _ _ _ _ _ _ _ _ _ _ _
   | exact ih4 _ _ _ _ _ _ _ _
   | exact ih5 _ _ _ _ _ _ _ _ _ _
   | exact ih6 _ _ _ _ _ _ _ _ _ _ _
   | exact spokeshaveref2_hex.mono _ _
   | exact LeO.none _
   | refine LeO.ite ?_ ?_
   | refine LeO.bind ?_ (fun _ => ?_)
  ·
   intro y0 y1 y2 y3 y4 y5 y6 y7 y8 y9 y10
   unfold spokeshaveref2_number.j4
   repeat' first
   | (with_reducible exact ih0 _ _ _ _ _ _ _ _ _ _ _)
   | (with_reducible exact ih1 _ _ _ _ _ _ _ _ _ _)
   | (with_reducible exact ih2 _ _ _ _ _ _ _ _ _ _ _)
   | (with_reducible exact ih3 _ _ _ _ _ _ _ _ _ _ _)
   | (with_reducible exact ih4 _ _ _ _ _ _ _ _)
   | (with_reducible exact ih5 _ _ _ _ _ _ _ _ _ _)
   | (with_reducible exact ih6 _ _ _ _ _ _ _ _ _ _ _)
   | (with_reducible exact spokeshaveref2_hex.mono _ _)
   | (with_reducible exact LeO.refl _)
   | (with_reducible exact LeO.none _)
   | (with_reducible refine LeO.ite ?_ ?_)
   | (with_reducible refine LeO.bind ?_ (fun _ => ?_))
   | exact ih0 _ _ _ _ _ _ _ _ _ _ _
   | exact ih1 _ _ _ _ _ _ _ _ _ _
   | exact ih2 _ _ _ _ _ _ _ _ _ _ _
   | exact ih3 _ _ _ _ _ _ _ _ _ _ _
   | exact ih4 _ _ _ _ _ _ _ _
   | exact ih5 _ _ _ _ _ _ _ _ _ _
   | exact ih6 _ _ _ _ _ _ _ _ _ _ _
   | exact spokeshaveref2_hex.mono _ _
   | exact LeO.none _
   | refine LeO.ite ?_ ?_
   | refine LeO.bind ?_ (fun _ => ?_)
  ·
   intro y0 y1 y2 y3 y4 y5 y6 y7 y8 y9 y10
   unfold spokeshaveref2_number.j5
   repeat' first
   | (with_reducible exact ih0 _ _ _ _ _ _ _ _ _ _ _)
   | (with_reducible exact ih1 _ _ _ _ _ _ _ _ _ _)
   | (with_reducible exact ih2 _ _ _ _ _ _ _ _ _ _ _)
   | (with_reducible exact ih3 _ _ _ _ _ _ _ _ _ _ _)
   | (with_reducible exact ih4 _ _ _ _ _ _ _ _)
   | (with_reducible exact ih5 _ _ _ _ _ _ _ _ _ _)
   | (with_reducible exact ih6 _ _ _ _ _ _ _ _ _ _ _)
   | (with_reducible exact spokeshaveref2_hex.mono _ _)
   | (with_reducible exact LeO.refl _)
   | (with_reducible exact LeO.none _)
   | (with_reducible refine LeO.ite ?_ ?_)
   | (with_reducible refine LeO.bind ?_ (fun _ => ?_))
   | exact ih0 _ _ _ _ _ _ _ _ _ _ _
   | exact ih1 _ _ _ _ _ _ _ _ _ _
   | exact ih2 _ _ _ _ _ _ _ _ _ _ _
   | exact ih3 _ _ _ _ _ _ _ _ _ _ _
   | exact ih4 _ _ _ _ _ _ _ _
   | exact ih5 _ _ _ _ _ _ _ _ _ _
   | exact ih6 _ _ _ _ _ _ _ _ _ _ _
   | exact spokeshaveref2_hex.mono _ _
   | exact LeO.none _
   | refine LeO.ite ?_ ?_
   | refine LeO.bind ?_ (fun _ => ?_)
  ·
   intro y0 y1 y2 y3 y4 y5 y6 y7
   unfold spokeshaveref2_number.j6
   repeat' first
   | (with_reducible exact ih0 _ _ _ _ _ _ _ _ _ _ _)
   | (with_reducible exact ih1 _ _ _ _ _ _ _ _ _ _)
   | (with_reducible exact ih2 _ _ _ _ _ _ _ _ _ _ _)
   | (with_reducible exact ih3 _ _ _ _ _ _ _ _ _ _ _)
   | (with_reducible exact ih4 _ _ _ _ _ _ _ _)
   | (with_reducible exact ih5 _ _ _ _ _ _ _ _ _ _)
   | (with_reducible exact ih6 _ _ _ _ _ _ _ _ _ _ _)
   | (with_reducible exact spokeshaveref2_hex.mono _ _)
   | (with_reducible exact LeO.refl _)
   | (with_reducible exact LeO.none _)
   | (with_reducible refine LeO.ite ?_ ?_)
   | (with_reducible refine LeO.bind ?_ (fun _ => ?_))
   | exact ih0 _ _ _ _ _ _ _ _ _ _ _
   | exact ih1 _ _ _ _ _ _ _ _ _ _
   | exact ih2 _ _ _ _ _ _ _ _ _ _ _
   | exact ih3 _ _ _ _ _ _ _ _ _ _ _
   | exact ih4 _ _ _ _ _ _ _ _
   | exact ih5 _ _ _ _ _ _ _ _ _ _
   | exact ih6 _ _ _ _ _ _ _ _ _ _ _
   | exact spokeshaveref2_hex.mono _ _
   | exact LeO.none _
   | refine LeO.ite ?_ ?_
   | refine LeO.bind ?_ (fun _ => ?_)
  ·
   intro y0 y1 y2 y3 y4 y5 y6 y7 y8 y9
   unfold spokeshaveref2_number.l0
   repeat' first
   | (with_reducible exact ih0 _ _ _ _ _ _ _ _ _ _ _)
   | (with_reducible exact ih1 _ _ _ _ _ _ _ _ _ _)
   | (with_reducible exact ih2 _ _ _ _ _ _ _ _ _ _ _)
   | (with_reducible exact ih3 _ _ _ _ _ _ _ _ _ _ _)
   | (with_reducible exact ih4 _ _ _ _ _ _ _ _)
   | (with_reducible exact ih5 _ _ _ _ _ _ _ _ _ _)
   | (with_reducible exact ih6 _ _ _ _ _ _ _ _ _ _ _)
   | (with_reducible exact spokeshaveref2_hex.mono _ _)
   | (with_reducible exact LeO.refl _)
   | (with_reducible exact LeO.none _)
   | (with_reducible refine LeO.ite ?_ ?_)
   | (with_reducible refine LeO.bind ?_ (fun _ => ?_))
   | exact ih0 _ _ _ _ _ _ _ _ _ _ _
   | exact ih1 _ _ _ _ _ _ _ _ _ _
   | exact ih2 _ _ _ _ _ _ _ _ _ _ _
   | exact ih3 _ _ _ _ _ _ _ _ _ _ _
   | exact ih4 _ _ _ _ _ _ _ _
   | exact ih5 _ _ _ _ _ _ _ _ _ _
   | exact ih6 _ _ _ _ _ _ _ _ _ _ _
   | exact spokeshaveref2_hex.mono _ _
   | exact LeO.none _
   | refine LeO.ite ?_ ?_
   | refine LeO.bind ?_ (fun _ => ?_)
  ·
   intro y0 y1 y2 y3 y4 y5 y6 y7 y8 y9 y10
   unfold spokeshaveref2_number.l1
   repeat' first
   | (with_reducible exact ih0 _ _ _ _ _ _ _ _ _ _ _)
   | (with_reducible exact ih1 _ _ _ _ _ _ _ _ _ _)
   | (with_reducible exact ih2 _ _ _ _ _ _ _ _ _ _ _)
   | (with_reducible exact ih3 _ _ _ _ _ _ _ _ _ _ _)
   | (with_reducible exact ih4 _ _ _ _ _ _ _ _)
   | (with_reducible exact ih5 _ _ _ _ _ _ _ _ _ _)
   | (with_reducible exact ih6 _ _ _ _ _ _ _ _ _ _ _)
   | (with_reducible exact spokeshaveref2_hex.mono _ _)
   | (with_reducible exact LeO.refl _)
   | (with_reducible exact LeO.none _)
   | (with_reducible refine LeO.ite ?_ ?_)
   | (with_reducible refine LeO.bind ?_ (fun _ => ?_))
   | exact ih0 _ _ _ _ _ _ _ _ _ _ _
   | exact ih1 _ _ _ _ _ _ _ _ _ _
   | exact ih2 _ _ _ _ _ _ _ _ _ _ _
   | exact ih3 _ _ _ _ _ _ _ _ _ _ _
   | exact ih4 _ _ _ _ _ _ _ _
   | exact ih5 _ _ _ _ _ _ _ _ _ _
   | exact ih6 _ _ _ _ _ _ _ _ _ _ _
   | exact spokeshaveref2_hex.mono _ _
   | exact LeO.none _
   | refine LeO.ite ?_ ?_
   | refine LeO.bind ?_ (fun _ => ?_)
theorem spokeshaveref2_number.mono : ∀ a0 a1 k, LeO (spokeshaveref2_number.f k a0 a1) (spokeshaveref2_number.f (k + 1) a0 a1) := by
 intro a0 a1 k
 obtain ⟨ih0, ih1, ih2, ih3, ih4, ih5, ih6⟩ := spokeshaveref2_number.mono_l k
 unfold spokeshaveref2_number.f
 repeat' first
   | (with_reducible exact ih0 _ _ _ _ _ _ _ _ _ _ _)
   | (with_reducible exact ih1 _ _ _ _ _ _ _ _ _ _)
   | (with_reducible exact ih2 _ _ _ _ _ _ _ _ _ _ _)
   | (with_reducible exact ih3 _ _ _ _ _ _ _ _ _ _ _)
   | (with_reducible exact ih4 _ _ _ _ _ _ _ _)
   | (with_reducible exact ih5 _ _ _ _ _ _ _ _ _ _)
   | (with_reducible exact ih6 _ _ _ _ _ _ _ _ _ _ _)
   | (with_reducible exact spokeshaveref2_hex.mono _ _)
   | (with_reducible exact LeO.refl _)
   | (with_reducible exact LeO.none _)
   | (with_reducible refine LeO.ite ?_ ?_)
   | (with_reducible refine LeO.bind ?_ (fun _ => ?_))
   | exact ih0 _ _ _ _ _ _ _ _ _ _ _
   | exact ih1 _ _ _ _ _ _ _ _ _ _
   | exact ih2 _ _ _ _ _ _ _ _ _ _ _
   | exact ih3 _ _ _ _ _ _ _ _ _ _ _
   | exact ih4 _ _ _ _ _ _ _ _
   | exact ih5 _ _ _ _ _ _ _ _ _ _
   | exact ih6 _ _ _ _ _ _ _ _ _ _ _
   | exact spokeshaveref2_hex.mono _ _
   | exact LeO.none _
   | refine LeO.ite ?_ ?_
   | refine LeO.bind ?_ (fun _ => ?_)
def spokeshaveref2_number.T11 : Bool × List (List Nat × List Nat) := (true, [([], []), ([0], [0]), ([1], [1]), ([], []), ([], []), ([3, 4], [3, 4]), ([5], [5]), ([6], [6]), ([2, 7], [2, 7]), ([0, 1, 2, 3, 4, 5, 6, 7, 8], []), ([9, 8, 6, 0, 1, 2, 3, 4, 5, 6, 7, 8], [8, 9])])
def spokeshaveref2_number.B11 : List Nat := [0, 1, 3, 0, 0, 24, 56, 120, 255, 511, 1023]
theorem spokeshaveref2_number.tab11 : rtab .any (opsOf Tryd.f35 11) = spokeshaveref2_number.T11 := by kernel_rfl
theorem spokeshaveref2_number.bits11 : waitsOk spokeshaveref2_number.T11.2 spokeshaveref2_number.B11 = true := by kernel_rfl
def spokeshaveref2_number.T26 : Bool × List (List Nat × List Nat) := (true, [([], []), ([], []), ([], []), ([0, 1, 2], [0, 1, 2]), ([], []), ([], []), ([], []), ([4, 5, 6], [4, 5, 6]), ([0, 1, 2, 3], []), ([8, 3, 0, 1, 2, 3], [3, 8]), ([0, 1, 2, 3, 4, 5, 6, 7, 8, 9], []), ([10, 7, 9, 0, 1, 2, 3, 4, 5, 6, 7, 8, 9], [7, 10])])
def spokeshaveref2_number.B26 : List Nat := [0, 0, 0, 7, 0, 0, 0, 112, 15, 271, 1023, 2047]
theorem spokeshaveref2_number.tab26 : rtab .any (opsOf Tryd.f35 26) = spokeshaveref2_number.T26 := by kernel_rfl
theorem spokeshaveref2_number.bits26 : waitsOk spokeshaveref2_number.T26.2 spokeshaveref2_number.B26 = true := by kernel_rfl
set_option maxHeartbeats 8000000 in
set_option maxRecDepth 100000 in
theorem spokeshaveref2_number.calls (k : Nat) (a0 : ByteArray) (a1 : Int) (r1 : Int) (r2 : Int) (r3 : ByteArray) (r4 : ByteArray) (r5 : Int) (r6 : Bool) (r7 : Int) (w : World) (h : spokeshaveref2_number.f k a0 a1 = some (r1, r2, r3, r4, r5, r6, r7)) :
  Calls Tryd.prog 35 #[.string a0, .int .i64 a1] w fun e w' => e = .returned (.tuple #[.agg #[.int .i64 r1, .int .i64 r2, .string r3, .string r4, .int .u64 r5, .bool r6], .int .i64 r7]) ∧ Below w.heap.size w w' := by
 have hu33 := Tryd.underlying33
 have HB := Aside0.mk (Below.refl w.heap.size w)
 have H : (if 0 ≤ a1 then (if a1 < (a0.size : Int) then (if (bt a0 a1) = 48 then ((spokeshaveref2_at.f a0 (wrap64 (a1 + 1))).bind fun t161 => (spokeshaveref2_number.j0 k a0 a1 a1 false (t161 == 120) 3 a1 (⟨#[]⟩ : ByteArray) (⟨#[]⟩ : ByteArray) 0 false)) else (spokeshaveref2_number.j0 k a0 a1 a1 false false 3 a1 (⟨#[]⟩ : ByteArray) (⟨#[]⟩ : ByteArray) 0 false)) else (none)) else (none)) = some (r1, r2, r3, r4, r5, r6, r7) := h
 clear h
 have HC3 := Aside0.mk H
 clear H
 go_enter Tryd.func35, Tryd.ntmps35
 go_upto_region 4 with (first | ((with_reducible refine gate_dst (N := 4) rfl ?_); refine box_event ?hg (N := 4) ?hd (cs := #[.int .i64 0, .int .i64 0, .string (⟨#[]⟩ : ByteArray), .string (⟨#[]⟩ : ByteArray), .int .u64 0, .bool false]) (t := 33) ?hr ?_; (case hd => rfl); (case hg => rfl); (case hr => first | (go_simp; done) | (go_simp; rfl)); intro gb159 hg w4 hbox hb; have n0_ := Aside0.mk (below_step (by repeat (first | (with_reducible first | exact HB.out | apply below_alloc | apply pw_below_drewN | apply below_drew1) | exact HB.out)) hb); have n1_ := Aside0.mk (hbox); have n2_ := Aside0.mk ((by rw [hg]; exact (below_size (by repeat (first | (with_reducible first | exact HB.out | apply below_alloc | apply pw_below_drewN | apply below_drew1) | exact HB.out))) : w.heap.size ≤ gb159)); have n3_ := Aside0.mk ((by rw [hg]; exact (below_size (by repeat (first | (with_reducible first | exact HB.out | apply below_alloc | apply pw_below_drewN | apply below_drew1) | exact HB.out))) : w.heap.size ≤ gb159)); clear HB; have HB := n0_; have BK159 := n1_; have GW159 := n2_; have GE159 := n3_; clear n0_ n1_ n2_ n3_; clear hb hbox hg) | ((with_reducible refine gate_dst (N := 6) rfl ?_); refine box_event ?hg (N := 6) ?hd (cs := #[.int .i64 0, .int .i64 0, .string (⟨#[]⟩ : ByteArray), .string (⟨#[]⟩ : ByteArray), .int .u64 0, .bool false]) (t := 33) ?hr ?_; (case hd => rfl); (case hg => rfl); (case hr => first | (go_simp; done) | (go_simp; rfl)); intro gb160 hg w5 hbox hb; have n0_ := Aside0.mk (blk_below (g := gb159) (o := .cells #[.int .i64 0, .int .i64 0, .string (⟨#[]⟩ : ByteArray), .string (⟨#[]⟩ : ByteArray), .int .u64 0, .bool false] 33 (0, 0)) (by (with_reducible repeat (first | refine blk_drewN ?_ _ | refine blk_drew ?_ | refine blk_alloc ?_ _)); exact BK159.out) hb); have n1_ := Aside0.mk (below_step (by repeat (first | (with_reducible first | exact HB.out | apply below_alloc | apply pw_below_drewN | apply below_drew1 | refine below_set ?_ GE159.out) | exact HB.out)) hb); have n2_ := Aside0.mk (hbox); have n3_ := Aside0.mk ((by rw [hg]; exact (below_size (by repeat (first | (with_reducible first | exact HB.out | apply below_alloc | apply pw_below_drewN | apply below_drew1 | refine below_set ?_ GE159.out) | exact HB.out))) : w.heap.size ≤ gb160)); have n4_ := Aside0.mk ((by rw [hg]; exact (below_size (by repeat (first | (with_reducible first | exact HB.out | apply below_alloc | apply pw_below_drewN | apply below_drew1 | refine below_set ?_ GE159.out) | exact HB.out))) : w.heap.size ≤ gb160)); have n5_ := Aside0.mk ((by rw [hg]; exact Nat.ne_of_lt (blk_lt (g := gb159) (o := .cells #[.int .i64 0, .int .i64 0, .string (⟨#[]⟩ : ByteArray), .string (⟨#[]⟩ : ByteArray), .int .u64 0, .bool false] 33 (0, 0)) (by (with_reducible repeat (first | refine blk_drewN ?_ _ | refine blk_drew ?_ | refine blk_alloc ?_ _)); exact BK159.out)) : gb159 ≠ gb160)); have n6_ := Aside0.mk ((by rw [hg]; exact Nat.ne_of_gt (blk_lt (g := gb159) (o := .cells #[.int .i64 0, .int .i64 0, .string (⟨#[]⟩ : ByteArray), .string (⟨#[]⟩ : ByteArray), .int .u64 0, .bool false] 33 (0, 0)) (by (with_reducible repeat (first | refine blk_drewN ?_ _ | refine blk_drew ?_ | refine blk_alloc ?_ _)); exact BK159.out)) : gb160 ≠ gb159)); clear BK159; clear HB; have BK159 := n0_; have HB := n1_; have BK160 := n2_; have GW160 := n3_; have GE160 := n4_; have NB159_160 := n5_; have NB160_159 := n6_; clear n0_ n1_ n2_ n3_ n4_ n5_ n6_; clear hb hbox hg; have hnb6 := NB160_159.out; have hnc6 := NB159_160.out; have hcz7_0 : w5.cell? ⟨gb160, 0, none⟩ = some (.int .i64 0) := (blk_cell BK160.out 0).trans rfl; have hcz7_1 : w5.cell? ⟨gb160, 1, none⟩ = some (.int .i64 0) := (blk_cell BK160.out 1).trans rfl; have hcz7_2 : w5.cell? ⟨gb160, 2, none⟩ = some (.string (⟨#[]⟩ : ByteArray)) := (blk_cell BK160.out 2).trans rfl; have hcz7_3 : w5.cell? ⟨gb160, 3, none⟩ = some (.string (⟨#[]⟩ : ByteArray)) := (blk_cell BK160.out 3).trans rfl; have hcz7_4 : w5.cell? ⟨gb160, 4, none⟩ = some (.int .u64 0) := (blk_cell BK160.out 4).trans rfl; have hcz7_5 : w5.cell? ⟨gb160, 5, none⟩ = some (.bool false) := (blk_cell BK160.out 5).trans rfl; have hfz7_0 := blk_frozen BK160.out 0; have hfz7_1 := blk_frozen BK160.out 1; have hfz7_2 := blk_frozen BK160.out 2; have hfz7_3 := blk_frozen BK160.out 3; have hfz7_4 := blk_frozen BK160.out 4; have hfz7_5 := blk_frozen BK160.out 5))
 (try simp only [Act.put, List.setIfInBounds_toArray, List.set_cons_zero, List.set_cons_succ])
 go_cut [25] (fun v25 wc => ∃ (kq : Nat) (x25_2 : Bool), v25 = .bool x25_2 ∧ Aside0 (spokeshaveref2_number.j0 kq a0 a1 a1 false x25_2 3 a1 (⟨#[]⟩ : ByteArray) (⟨#[]⟩ : ByteArray) 0 false = some (r1, r2, r3, r4, r5, r6, r7)) ∧ Aside0 (kq ≤ k) ∧ Aside0 (wc.heap[gb159]? = some (.cells #[.int .i64 0, .int .i64 0, .string (⟨#[]⟩ : ByteArray), .string (⟨#[]⟩ : ByteArray), .int .u64 0, .bool false] 33 (0, 0))) ∧ Aside0 (wc.heap[gb160]? = some (.cells #[.int .i64 3, .int .i64 a1, .string (⟨#[]⟩ : ByteArray), .string (⟨#[]⟩ : ByteArray), .int .u64 0, .bool false] 33 (0, 0))) ∧ Aside0 (Below w.heap.size w wc))
 case first =>
  have H := HC3.out
  clear HC3
  by_cases c8 : 0 ≤ a1
  case neg => rw [if_neg c8] at H; exact absurd H (by simp)
  rw [if_pos c8] at H
  have c8b0 : decide (0 ≤ a1) = true := decide_eq_true c8
  clear c8
  (first | rw [c8b0] | (simp only [i64_w, i32_w]; rw [c8b0]) | skip)
  by_cases c9 : a1 < (a0.size : Int)
  case neg => rw [if_neg c9] at H; exact absurd H (by simp)
  rw [if_pos c9] at H
  have c9b0 : decide (a1 < (a0.size : Int)) = true := decide_eq_true c9
  clear c9
  by_cases c11 : (bt a0 a1) = 48
  ·
   rw [if_pos c11] at H
   have c11b0 : ((bt a0 a1) == 48) = true := beq_iff_eq.mpr c11
   have c11b1 : ((bt a0 a1) != 48) = false := bne_eq_false_iff_eq.mpr c11
   clear c11
   replace H := Option.bind_eq_some_iff.mp H
   obtain ⟨t161, A120, H⟩ := H
   replace H : (spokeshaveref2_number.j0 k a0 a1 a1 false (t161 == 120) 3 a1 (⟨#[]⟩ : ByteArray) (⟨#[]⟩ : ByteArray) 0 false) = some (r1, r2, r3, r4, r5, r6, r7) := H
   have A12 := Aside0.mk A120
   clear A120
   have H' := Aside0.mk H
   clear H
   have p10 : 0 ≤ (a1 : Int) := of_decide_eq_true (by first | (with_reducible assumption) | assumption)
   have q10 : a1 < (a0.size : Int) := of_decide_eq_true (by first | (with_reducible assumption) | assumption)
   have hx10 := bt_at a0 a1
   replace p10 := eq_true p10
   replace q10 := eq_true q10
   go_wp2_with (first | (go_at_call 32; (with_reducible refine (spokeshaveref2_at.calls a0 (wrap64 (a1 + 1)) t161 _ A12.out).mono ?_); rintro e w' ⟨rfl, ⟨nd, rfl⟩⟩))
   go_meet
   case rel => exact ⟨_, ((t161 == 120)), (by first | rfl | (simp; done) | (simp [*]; done)), H', ⟨by first | omega | exact Nat.le_refl _⟩, ⟨by (with_reducible repeat (first | refine blk_drewN ?_ _ | refine blk_drew ?_ | refine blk_alloc ?_ _)); refine blk_far ?_ NB159_160.out _; (with_reducible repeat (first | refine blk_drewN ?_ _ | refine blk_drew ?_ | refine blk_alloc ?_ _)); refine blk_far ?_ NB159_160.out _; (with_reducible repeat (first | refine blk_drewN ?_ _ | refine blk_drew ?_ | refine blk_alloc ?_ _)); refine blk_far ?_ NB159_160.out _; (with_reducible repeat (first | refine blk_drewN ?_ _ | refine blk_drew ?_ | refine blk_alloc ?_ _)); refine blk_far ?_ NB159_160.out _; (with_reducible repeat (first | refine blk_drewN ?_ _ | refine blk_drew ?_ | refine blk_alloc ?_ _)); refine blk_far ?_ NB159_160.out _; (with_reducible repeat (first | refine blk_drewN ?_ _ | refine blk_drew ?_ | refine blk_alloc ?_ _)); refine blk_far ?_ NB159_160.out _; (with_reducible repeat (first | refine blk_drewN ?_ _ | refine blk_drew ?_ | refine blk_alloc ?_ _)); exact BK159.out⟩, ⟨by (with_reducible repeat (first | refine blk_drewN ?_ _ | refine blk_drew ?_ | refine blk_alloc ?_ _)); refine blk_put (cs := #[.int .i64 3, .int .i64 a1, .string (⟨#[]⟩ : ByteArray), .string (⟨#[]⟩ : ByteArray), .int .u64 0, .bool false]) ?_ 5 _ rfl; (with_reducible repeat (first | refine blk_drewN ?_ _ | refine blk_drew ?_ | refine blk_alloc ?_ _)); refine blk_put (cs := #[.int .i64 3, .int .i64 a1, .string (⟨#[]⟩ : ByteArray), .string (⟨#[]⟩ : ByteArray), .int .u64 0, .bool false]) ?_ 4 _ rfl; (with_reducible repeat (first | refine blk_drewN ?_ _ | refine blk_drew ?_ | refine blk_alloc ?_ _)); refine blk_put (cs := #[.int .i64 3, .int .i64 a1, .string (⟨#[]⟩ : ByteArray), .string (⟨#[]⟩ : ByteArray), .int .u64 0, .bool false]) ?_ 3 _ rfl; (with_reducible repeat (first | refine blk_drewN ?_ _ | refine blk_drew ?_ | refine blk_alloc ?_ _)); refine blk_put (cs := #[.int .i64 3, .int .i64 a1, .string (⟨#[]⟩ : ByteArray), .string (⟨#[]⟩ : ByteArray), .int .u64 0, .bool false]) ?_ 2 _ rfl; (with_reducible repeat (first | refine blk_drewN ?_ _ | refine blk_drew ?_ | refine blk_alloc ?_ _)); refine blk_put (cs := #[.int .i64 3, .int .i64 0, .string (⟨#[]⟩ : ByteArray), .string (⟨#[]⟩ : ByteArray), .int .u64 0, .bool false]) ?_ 1 _ rfl; (with_reducible repeat (first | refine blk_drewN ?_ _ | refine blk_drew ?_ | refine blk_alloc ?_ _)); refine blk_put (cs := #[.int .i64 0, .int .i64 0, .string (⟨#[]⟩ : ByteArray), .string (⟨#[]⟩ : ByteArray), .int .u64 0, .bool false]) ?_ 0 _ rfl; (with_reducible repeat (first | refine blk_drewN ?_ _ | refine blk_drew ?_ | refine blk_alloc ?_ _)); exact BK160.out⟩, ⟨by repeat (first | (with_reducible first | exact HB.out | apply below_alloc | apply pw_below_drewN | apply below_drew1 | refine below_set ?_ GE159.out | refine below_set ?_ GE160.out) | exact HB.out)⟩⟩
  ·
   rw [if_neg c11] at H
   have c11b0 : ((bt a0 a1) == 48) = false := beq_eq_false_iff_ne.mpr c11
   have c11b1 : ((bt a0 a1) != 48) = true := bne_iff_ne.mpr c11
   have H' := Aside0.mk H
   clear H
   have p10 : 0 ≤ (a1 : Int) := of_decide_eq_true (by first | (with_reducible assumption) | assumption)
   have q10 : a1 < (a0.size : Int) := of_decide_eq_true (by first | (with_reducible assumption) | assumption)
   have hx10 := bt_at a0 a1
   replace p10 := eq_true p10
   replace q10 := eq_true q10
   go_wp2
   go_meet
   case rel => exact ⟨_, (false), (by first | rfl | (simp; done) | (simp [*]; done)), H', ⟨by first | omega | exact Nat.le_refl _⟩, ⟨by (with_reducible repeat (first | refine blk_drewN ?_ _ | refine blk_drew ?_ | refine blk_alloc ?_ _)); refine blk_far ?_ NB159_160.out _; (with_reducible repeat (first | refine blk_drewN ?_ _ | refine blk_drew ?_ | refine blk_alloc ?_ _)); refine blk_far ?_ NB159_160.out _; (with_reducible repeat (first | refine blk_drewN ?_ _ | refine blk_drew ?_ | refine blk_alloc ?_ _)); refine blk_far ?_ NB159_160.out _; (with_reducible repeat (first | refine blk_drewN ?_ _ | refine blk_drew ?_ | refine blk_alloc ?_ _)); refine blk_far ?_ NB159_160.out _; (with_reducible repeat (first | refine blk_drewN ?_ _ | refine blk_drew ?_ | refine blk_alloc ?_ _)); refine blk_far ?_ NB159_160.out _; (with_reducible repeat (first | refine blk_drewN ?_ _ | refine blk_drew ?_ | refine blk_alloc ?_ _)); refine blk_far ?_ NB159_160.out _; (with_reducible repeat (first | refine blk_drewN ?_ _ | refine blk_drew ?_ | refine blk_alloc ?_ _)); exact BK159.out⟩, ⟨by (with_reducible repeat (first | refine blk_drewN ?_ _ | refine blk_drew ?_ | refine blk_alloc ?_ _)); refine blk_put (cs := #[.int .i64 3, .int .i64 a1, .string (⟨#[]⟩ : ByteArray), .string (⟨#[]⟩ : ByteArray), .int .u64 0, .bool false]) ?_ 5 _ rfl; (with_reducible repeat (first | refine blk_drewN ?_ _ | refine blk_drew ?_ | refine blk_alloc ?_ _)); refine blk_put (cs := #[.int .i64 3, .int .i64 a1, .string (⟨#[]⟩ : ByteArray), .string (⟨#[]⟩ : ByteArray), .int .u64 0, .bool false]) ?_ 4 _ rfl; (with_reducible repeat (first | refine blk_drewN ?_ _ | refine blk_drew ?_ | refine blk_alloc ?_ _)); refine blk_put (cs := #[.int .i64 3, .int .i64 a1, .string (⟨#[]⟩ : ByteArray), .string (⟨#[]⟩ : ByteArray), .int .u64 0, .bool false]) ?_ 3 _ rfl; (with_reducible repeat (first | refine blk_drewN ?_ _ | refine blk_drew ?_ | refine blk_alloc ?_ _)); refine blk_put (cs := #[.int .i64 3, .int .i64 a1, .string (⟨#[]⟩ : ByteArray), .string (⟨#[]⟩ : ByteArray), .int .u64 0, .bool false]) ?_ 2 _ rfl; (with_reducible repeat (first | refine blk_drewN ?_ _ | refine blk_drew ?_ | refine blk_alloc ?_ _)); refine blk_put (cs := #[.int .i64 3, .int .i64 0, .string (⟨#[]⟩ : ByteArray), .string (⟨#[]⟩ : ByteArray), .int .u64 0, .bool false]) ?_ 1 _ rfl; (with_reducible repeat (first | refine blk_drewN ?_ _ | refine blk_drew ?_ | refine blk_alloc ?_ _)); refine blk_put (cs := #[.int .i64 0, .int .i64 0, .string (⟨#[]⟩ : ByteArray), .string (⟨#[]⟩ : ByteArray), .int .u64 0, .bool false]) ?_ 0 _ rfl; (with_reducible repeat (first | refine blk_drewN ?_ _ | refine blk_drew ?_ | refine blk_alloc ?_ _)); exact BK160.out⟩, ⟨by repeat (first | (with_reducible first | exact HB.out | apply below_alloc | apply pw_below_drewN | apply below_drew1 | refine below_set ?_ GE159.out | refine below_set ?_ GE160.out) | exact HB.out)⟩⟩
 case rest =>
  clear HC3
  try clear c1
  try clear p1
  try clear q1
  try clear hx1
  try clear p2
  try clear c3
  try clear c6
  try clear p6
  try clear c8
  try clear c8b0
  try clear c9
  try clear c9b0
  try clear p10
  try clear q10
  try clear hx10
  try clear c11
  try clear c11b0
  try clear c11b1
  try clear hcz7_0
  try clear hcz7_1
  try clear hcz7_2
  try clear hcz7_3
  try clear hcz7_4
  try clear hcz7_5
  try clear hfz7_0
  try clear hfz7_1
  try clear hfz7_2
  try clear hfz7_3
  try clear hfz7_4
  try clear hfz7_5
  try clear p10
  try clear q10
  obtain ⟨kq, x25_2, rfl, HA, HJ2, BK159, BK160, HB⟩ := hcut
  cases kq with
  | zero => exact absurd HA.out (by simp [spokeshaveref2_number.j0])
  | succ kj2 =>
   have H := HA.out
   clear HA
   simp only [spokeshaveref2_number.j0] at H
   have HC13 := Aside0.mk H
   clear H
   go_upto_if 25 with (fail)
   go_cut [7, 8] (fun v7 v8 wc => ∃ (kq : Nat) (x7_12 : Int) (x8_12 : Bool) (x160000_12 : Int) (x160001_12 : Int) (x160002_12 : ByteArray) (x160003_12 : ByteArray) (x160004_12 : Int) (x160005_12 : Bool) (x161004_12 : Int) (x161005_12 : Bool), v7 = .int .i64 x7_12 ∧ v8 = .bool x8_12 ∧ Aside0 (spokeshaveref2_number.j3 kq a0 a1 x7_12 x8_12 3 a1 (⟨#[]⟩ : ByteArray) (⟨#[]⟩ : ByteArray) x161004_12 x161005_12 = some (r1, r2, r3, r4, r5, r6, r7)) ∧ Aside0 (kq ≤ kj2) ∧ Aside0 (wc.heap[gb159]? = some (.cells #[.int .i64 x160000_12, .int .i64 x160001_12, .string x160002_12, .string x160003_12, .int .u64 x160004_12, .bool x160005_12] 33 (0, 0))) ∧ Aside0 (wc.heap[gb160]? = some (.cells #[.int .i64 3, .int .i64 a1, .string (⟨#[]⟩ : ByteArray), .string (⟨#[]⟩ : ByteArray), .int .u64 x161004_12, .bool x161005_12] 33 (0, 0))) ∧ Aside0 (Below w.heap.size w wc))
   case first =>
    have H := HC13.out
    clear HC13
    by_cases c14 : x25_2 = true
    ·
     subst c14
     have H1 : ((spokeshaveref2_at.f a0 (wrap64 (a1 + 2))).bind fun t162 => ((spokeshaveref2_hex.f kj2 t162).bind fun t163 => (if t163 < 0 then (some (3, a1, (⟨#[]⟩ : ByteArray), (⟨#[]⟩ : ByteArray), 0, true, 3)) else (spokeshaveref2_number.l0 kj2 a0 a1 (wrap64 (a1 + 2)) false 3 a1 (⟨#[]⟩ : ByteArray) (⟨#[]⟩ : ByteArray) 0 true)))) = some (r1, r2, r3, r4, r5, r6, r7) := by rw [if_pos rfl] at H; exact H
     clear H
     have H := H1
     clear H1
     replace H := Option.bind_eq_some_iff.mp H
     obtain ⟨t162, A150, H⟩ := H
     replace H : ((spokeshaveref2_hex.f kj2 t162).bind fun t163 => (if t163 < 0 then (some (3, a1, (⟨#[]⟩ : ByteArray), (⟨#[]⟩ : ByteArray), 0, true, 3)) else (spokeshaveref2_number.l0 kj2 a0 a1 (wrap64 (a1 + 2)) false 3 a1 (⟨#[]⟩ : ByteArray) (⟨#[]⟩ : ByteArray) 0 true))) = some (r1, r2, r3, r4, r5, r6, r7) := H
     have A15 := Aside0.mk A150
     clear A150
     replace H := Option.bind_eq_some_iff.mp H
     obtain ⟨t163, A160, H⟩ := H
     replace H : (if t163 < 0 then (some (3, a1, (⟨#[]⟩ : ByteArray), (⟨#[]⟩ : ByteArray), 0, true, 3)) else (spokeshaveref2_number.l0 kj2 a0 a1 (wrap64 (a1 + 2)) false 3 a1 (⟨#[]⟩ : ByteArray) (⟨#[]⟩ : ByteArray) 0 true)) = some (r1, r2, r3, r4, r5, r6, r7) := H
     have A16 := Aside0.mk A160
     clear A160
     by_cases c17 : t163 < 0
     ·
      rw [if_pos c17] at H
      have c17b0 : decide (t163 < 0) = true := decide_eq_true c17
      clear c17
      (first | rw [c17b0] | (simp only [i64_w, i32_w]; rw [c17b0]) | skip)
      simp only [Option.some.injEq, Prod.mk.injEq] at H
      obtain ⟨rfl, rfl, rfl, rfl, rfl, rfl, rfl⟩ := H
      have hnb18 := NB160_159.out
      have hnc18 := NB159_160.out
      have hcz19_0 : wc.cell? ⟨gb160, 0, none⟩ = some (.int .i64 3) := (blk_cell BK160.out 0).trans rfl
      have hcz19_1 : wc.cell? ⟨gb160, 1, none⟩ = some (.int .i64 a1) := (blk_cell BK160.out 1).trans rfl
      have hcz19_2 : wc.cell? ⟨gb160, 2, none⟩ = some (.string (⟨#[]⟩ : ByteArray)) := (blk_cell BK160.out 2).trans rfl
      have hcz19_3 : wc.cell? ⟨gb160, 3, none⟩ = some (.string (⟨#[]⟩ : ByteArray)) := (blk_cell BK160.out 3).trans rfl
      have hcz19_4 : wc.cell? ⟨gb160, 4, none⟩ = some (.int .u64 0) := (blk_cell BK160.out 4).trans rfl
      have hcz19_5 : wc.cell? ⟨gb160, 5, none⟩ = some (.bool false) := (blk_cell BK160.out 5).trans rfl
      have hfz19_0 := blk_frozen BK160.out 0
      have hfz19_1 := blk_frozen BK160.out 1
      have hfz19_2 := blk_frozen BK160.out 2
      have hfz19_3 := blk_frozen BK160.out 3
      have hfz19_4 := blk_frozen BK160.out 4
      have hfz19_5 := blk_frozen BK160.out 5
      go_wp2_with (first | ((with_reducible refine gate_callee (f := 32) rfl ?_); refine goesL_ (some 31) rfl rfl Tryd.func32 (by kernel_rfl) rfl #[.string a0, .int .i64 (wrap64 (a1 + 2))] rfl (by (try simp only [List.map_toArray, List.map_cons, List.map_nil]); first | done | rfl | (simp only [List.length_drop, List.length_take]; rfl)) ?_; (with_reducible refine (spokeshaveref2_at.calls a0 (wrap64 (a1 + 2)) t162 _ A15.out).mono ?_); rintro e w' ⟨rfl, ⟨nd, rfl⟩⟩; refine ⟨_, rfl, ?_⟩) | ((with_reducible refine gate_callee (f := 46) rfl ?_); refine goesL_ (some 32) rfl rfl Tryd.func46 (by kernel_rfl) rfl #[.int .u8 t162] rfl (by (try simp only [List.map_toArray, List.map_cons, List.map_nil]); first | done | rfl | (simp only [List.length_drop, List.length_take]; rfl)) ?_; (with_reducible refine (spokeshaveref2_hex.calls kj2 t162 t163 _ A16.out).mono ?_); rintro e w' ⟨rfl, ⟨nd, rfl⟩⟩; refine ⟨_, rfl, ?_⟩; have hcz20_0 : wc.cell? ⟨gb159, 0, none⟩ = some (.int .i64 0) := (blk_cell BK159.out 0).trans rfl; have hcz20_1 : wc.cell? ⟨gb159, 1, none⟩ = some (.int .i64 0) := (blk_cell BK159.out 1).trans rfl; have hcz20_2 : wc.cell? ⟨gb159, 2, none⟩ = some (.string (⟨#[]⟩ : ByteArray)) := (blk_cell BK159.out 2).trans rfl; have hcz20_3 : wc.cell? ⟨gb159, 3, none⟩ = some (.string (⟨#[]⟩ : ByteArray)) := (blk_cell BK159.out 3).trans rfl; have hcz20_4 : wc.cell? ⟨gb159, 4, none⟩ = some (.int .u64 0) := (blk_cell BK159.out 4).trans rfl; have hcz20_5 : wc.cell? ⟨gb159, 5, none⟩ = some (.bool false) := (blk_cell BK159.out 5).trans rfl; have hfz20_0 := blk_frozen BK159.out 0; have hfz20_1 := blk_frozen BK159.out 1; have hfz20_2 := blk_frozen BK159.out 2; have hfz20_3 := blk_frozen BK159.out 3; have hfz20_4 := blk_frozen BK159.out 4; have hfz20_5 := blk_frozen BK159.out 5))
      refine bodyPost_ret (results_ct rfl _ _ gb159 33 #[.int .i64 3, .int .i64 a1, .string (⟨#[]⟩ : ByteArray), .string (⟨#[]⟩ : ByteArray), .int .u64 0, .bool true] (0, 0) _ rfl (by (with_reducible repeat (first | refine blk_drewN ?_ _ | refine blk_drew ?_ | refine blk_alloc ?_ _)); refine blk_put (cs := #[.int .i64 3, .int .i64 a1, .string (⟨#[]⟩ : ByteArray), .string (⟨#[]⟩ : ByteArray), .int .u64 0, .bool false]) ?_ 5 _ rfl; (with_reducible repeat (first | refine blk_drewN ?_ _ | refine blk_drew ?_ | refine blk_alloc ?_ _)); refine blk_put (cs := #[.int .i64 3, .int .i64 a1, .string (⟨#[]⟩ : ByteArray), .string (⟨#[]⟩ : ByteArray), .int .u64 0, .bool false]) ?_ 4 _ rfl; (with_reducible repeat (first | refine blk_drewN ?_ _ | refine blk_drew ?_ | refine blk_alloc ?_ _)); refine blk_put (cs := #[.int .i64 3, .int .i64 a1, .string (⟨#[]⟩ : ByteArray), .string (⟨#[]⟩ : ByteArray), .int .u64 0, .bool false]) ?_ 3 _ rfl; (with_reducible repeat (first | refine blk_drewN ?_ _ | refine blk_drew ?_ | refine blk_alloc ?_ _)); refine blk_put (cs := #[.int .i64 3, .int .i64 a1, .string (⟨#[]⟩ : ByteArray), .string (⟨#[]⟩ : ByteArray), .int .u64 0, .bool false]) ?_ 2 _ rfl; (with_reducible repeat (first | refine blk_drewN ?_ _ | refine blk_drew ?_ | refine blk_alloc ?_ _)); refine blk_put (cs := #[.int .i64 3, .int .i64 0, .string (⟨#[]⟩ : ByteArray), .string (⟨#[]⟩ : ByteArray), .int .u64 0, .bool false]) ?_ 1 _ rfl; (with_reducible repeat (first | refine blk_drewN ?_ _ | refine blk_drew ?_ | refine blk_alloc ?_ _)); refine blk_put (cs := #[.int .i64 0, .int .i64 0, .string (⟨#[]⟩ : ByteArray), .string (⟨#[]⟩ : ByteArray), .int .u64 0, .bool false]) ?_ 0 _ rfl; (with_reducible repeat (first | refine blk_drewN ?_ _ | refine blk_drew ?_ | refine blk_alloc ?_ _)); refine blk_far ?_ NB159_160.out _; (with_reducible repeat (first | refine blk_drewN ?_ _ | refine blk_drew ?_ | refine blk_alloc ?_ _)); exact BK159.out) Tryd.underlying33 rfl (by kernel_rfl)) rfl ?_
      exact ⟨by first | rfl | (simp [errW_none, errW_some] <;> rfl) | (simp [*, errW_none, errW_some] <;> rfl), by repeat (first | (with_reducible first | exact HB.out | apply below_alloc | apply pw_below_drewN | apply below_drew1 | refine below_set ?_ GE159.out | refine below_set ?_ GE160.out) | exact HB.out)⟩
     ·
      rw [if_neg c17] at H
      have c17b0 : decide (t163 < 0) = false := decide_eq_false c17
      clear c17
      (first | rw [c17b0] | (simp only [i64_w, i32_w]; rw [c17b0]) | skip)
      have H' := Aside0.mk H
      clear H
      have hnb21 := NB160_159.out
      have hnc21 := NB159_160.out
      have hcz22_0 : wc.cell? ⟨gb160, 0, none⟩ = some (.int .i64 3) := (blk_cell BK160.out 0).trans rfl
      have hcz22_1 : wc.cell? ⟨gb160, 1, none⟩ = some (.int .i64 a1) := (blk_cell BK160.out 1).trans rfl
      have hcz22_2 : wc.cell? ⟨gb160, 2, none⟩ = some (.string (⟨#[]⟩ : ByteArray)) := (blk_cell BK160.out 2).trans rfl
      have hcz22_3 : wc.cell? ⟨gb160, 3, none⟩ = some (.string (⟨#[]⟩ : ByteArray)) := (blk_cell BK160.out 3).trans rfl
      have hcz22_4 : wc.cell? ⟨gb160, 4, none⟩ = some (.int .u64 0) := (blk_cell BK160.out 4).trans rfl
      have hcz22_5 : wc.cell? ⟨gb160, 5, none⟩ = some (.bool false) := (blk_cell BK160.out 5).trans rfl
      have hfz22_0 := blk_frozen BK160.out 0
      have hfz22_1 := blk_frozen BK160.out 1
      have hfz22_2 := blk_frozen BK160.out 2
      have hfz22_3 := blk_frozen BK160.out 3
      have hfz22_4 := blk_frozen BK160.out 4
      have hfz22_5 := blk_frozen BK160.out 5
      go_wp2_with (first | ((with_reducible refine gate_callee (f := 32) rfl ?_); refine goesL_ (some 31) rfl rfl Tryd.func32 (by kernel_rfl) rfl #[.string a0, .int .i64 (wrap64 (a1 + 2))] rfl (by (try simp only [List.map_toArray, List.map_cons, List.map_nil]); first | done | rfl | (simp only [List.length_drop, List.length_take]; rfl)) ?_; (with_reducible refine (spokeshaveref2_at.calls a0 (wrap64 (a1 + 2)) t162 _ A15.out).mono ?_); rintro e w' ⟨rfl, ⟨nd, rfl⟩⟩; refine ⟨_, rfl, ?_⟩) | ((with_reducible refine gate_callee (f := 46) rfl ?_); refine goesL_ (some 32) rfl rfl Tryd.func46 (by kernel_rfl) rfl #[.int .u8 t162] rfl (by (try simp only [List.map_toArray, List.map_cons, List.map_nil]); first | done | rfl | (simp only [List.length_drop, List.length_take]; rfl)) ?_; (with_reducible refine (spokeshaveref2_hex.calls kj2 t162 t163 _ A16.out).mono ?_); rintro e w' ⟨rfl, ⟨nd, rfl⟩⟩; refine ⟨_, rfl, ?_⟩))
      go_loopg [7, 8] kj2 (fun kq v7 v8 w' => ∃ (x7_2 : Int) (x8_2 : Bool) (x161004_2 : Int), v7 = .int .i64 x7_2 ∧ v8 = .bool x8_2 ∧ Aside0 (spokeshaveref2_number.l0 kq a0 a1 x7_2 x8_2 3 a1 (⟨#[]⟩ : ByteArray) (⟨#[]⟩ : ByteArray) x161004_2 true = some (r1, r2, r3, r4, r5, r6, r7)) ∧ Aside0 (kq ≤ kj2) ∧ Aside0 (w'.heap[gb159]? = some (.cells #[.int .i64 0, .int .i64 0, .string (⟨#[]⟩ : ByteArray), .string (⟨#[]⟩ : ByteArray), .int .u64 0, .bool false] 33 (0, 0))) ∧ Aside0 (w'.heap[gb160]? = some (.cells #[.int .i64 3, .int .i64 a1, .string (⟨#[]⟩ : ByteArray), .string (⟨#[]⟩ : ByteArray), .int .u64 x161004_2, .bool true] 33 (0, 0))) ∧ Aside0 (Below w.heap.size w w'))
      case atStart => exact ⟨(wrap64 (a1 + 2)), (false), (0), (by first | rfl | (simp; done) | (simp [*]; done)), (by first | rfl | (simp; done) | (simp [*]; done)), H', ⟨Nat.le_refl _⟩, ⟨by (with_reducible repeat (first | refine blk_drewN ?_ _ | refine blk_drew ?_ | refine blk_alloc ?_ _)); refine blk_far ?_ NB159_160.out _; (with_reducible repeat (first | refine blk_drewN ?_ _ | refine blk_drew ?_ | refine blk_alloc ?_ _)); exact BK159.out⟩, ⟨by (with_reducible repeat (first | refine blk_drewN ?_ _ | refine blk_drew ?_ | refine blk_alloc ?_ _)); refine blk_put (cs := #[.int .i64 3, .int .i64 a1, .string (⟨#[]⟩ : ByteArray), .string (⟨#[]⟩ : ByteArray), .int .u64 0, .bool false]) ?_ 5 _ rfl; (with_reducible repeat (first | refine blk_drewN ?_ _ | refine blk_drew ?_ | refine blk_alloc ?_ _)); exact BK160.out⟩, ⟨by repeat (first | (with_reducible first | exact HB.out | apply below_alloc | apply pw_below_drewN | apply below_drew1 | refine below_set ?_ GE159.out | refine below_set ?_ GE160.out) | exact HB.out)⟩⟩
      case round =>
       clear H'
       try clear c1
       try clear p1
       try clear q1
       try clear hx1
       try clear c2
       try clear p2
       try clear c3
       try clear c4
       try clear c6
       try clear p6
       try clear c8
       try clear c8b0
       try clear c9
       try clear c9b0
       try clear p10
       try clear q10
       try clear hx10
       try clear c11
       try clear c11b0
       try clear c11b1
       try clear c14
       try clear c17
       try clear c17b0
       try clear c18
       try clear c21
       try clear hcz19_0
       try clear hcz19_1
       try clear hcz19_2
       try clear hcz19_3
       try clear hcz19_4
       try clear hcz19_5
       try clear hcz20_0
       try clear hcz20_1
       try clear hcz20_2
       try clear hcz20_3
       try clear hcz20_4
       try clear hcz20_5
       try clear hcz22_0
       try clear hcz22_1
       try clear hcz22_2
       try clear hcz22_3
       try clear hcz22_4
       try clear hcz22_5
       try clear hcz7_0
       try clear hcz7_1
       try clear hcz7_2
       try clear hcz7_3
       try clear hcz7_4
       try clear hcz7_5
       try clear hfz19_0
       try clear hfz19_1
       try clear hfz19_2
       try clear hfz19_3
       try clear hfz19_4
       try clear hfz19_5
       try clear hfz20_0
       try clear hfz20_1
       try clear hfz20_2
       try clear hfz20_3
       try clear hfz20_4
       try clear hfz20_5
       try clear hfz22_0
       try clear hfz22_1
       try clear hfz22_2
       try clear hfz22_3
       try clear hfz22_4
       try clear hfz22_5
       try clear hfz7_0
       try clear hfz7_1
       try clear hfz7_2
       try clear hfz7_3
       try clear hfz7_4
       try clear hfz7_5
       try clear p1
       try clear p10
       try clear p2
       try clear p6
       try clear q1
       try clear q10
       obtain ⟨x7_2, x8_2, x161004_2, rfl, rfl, HA, HK2, BK159, BK160, HB⟩ := hrel
       cases gk with
       | zero => exact absurd HA.out (by simp [spokeshaveref2_number.l0])
       | succ k2 =>
        have H := HA.out
        clear HA
        simp only [spokeshaveref2_number.l0] at H
        replace H := Option.bind_eq_some_iff.mp H
        obtain ⟨t164, A230, H⟩ := H
        replace H : ((spokeshaveref2_hex.f k2 t164).bind fun t165 => (if t165 ≥ 0 then (if x8_2 = true then (if 0 ≤ x7_2 then (if x7_2 < (a0.size : Int) then ((spokeshaveref2_hex.f k2 (bt a0 x7_2)).bind fun t166 => (spokeshaveref2_number.l0 k2 a0 a1 (wrap64 (x7_2 + 1)) true 3 a1 (⟨#[]⟩ : ByteArray) (⟨#[]⟩ : ByteArray) (IntKind.u64.wrap ((IntKind.u64.wrap (x161004_2 * 16)) + (IntKind.u64.wrap (t166)))) true)) else (none)) else (none)) else (if 0 ≤ x7_2 then (if x7_2 < (a0.size : Int) then ((spokeshaveref2_hex.f k2 (bt a0 x7_2)).bind fun t167 => (spokeshaveref2_number.l0 k2 a0 a1 (wrap64 (x7_2 + 1)) (decide (x161004_2 ≥ 1152921504606846976)) 3 a1 (⟨#[]⟩ : ByteArray) (⟨#[]⟩ : ByteArray) (IntKind.u64.wrap ((IntKind.u64.wrap (x161004_2 * 16)) + (IntKind.u64.wrap (t167)))) true)) else (none)) else (none))) else (spokeshaveref2_number.j3 k2 a0 a1 x7_2 x8_2 3 a1 (⟨#[]⟩ : ByteArray) (⟨#[]⟩ : ByteArray) x161004_2 true))) = some (r1, r2, r3, r4, r5, r6, r7) := H
        have A23 := Aside0.mk A230
        clear A230
        replace H := Option.bind_eq_some_iff.mp H
        obtain ⟨t165, A240, H⟩ := H
        replace H : (if t165 ≥ 0 then (if x8_2 = true then (if 0 ≤ x7_2 then (if x7_2 < (a0.size : Int) then ((spokeshaveref2_hex.f k2 (bt a0 x7_2)).bind fun t166 => (spokeshaveref2_number.l0 k2 a0 a1 (wrap64 (x7_2 + 1)) true 3 a1 (⟨#[]⟩ : ByteArray) (⟨#[]⟩ : ByteArray) (IntKind.u64.wrap ((IntKind.u64.wrap (x161004_2 * 16)) + (IntKind.u64.wrap (t166)))) true)) else (none)) else (none)) else (if 0 ≤ x7_2 then (if x7_2 < (a0.size : Int) then ((spokeshaveref2_hex.f k2 (bt a0 x7_2)).bind fun t167 => (spokeshaveref2_number.l0 k2 a0 a1 (wrap64 (x7_2 + 1)) (decide (x161004_2 ≥ 1152921504606846976)) 3 a1 (⟨#[]⟩ : ByteArray) (⟨#[]⟩ : ByteArray) (IntKind.u64.wrap ((IntKind.u64.wrap (x161004_2 * 16)) + (IntKind.u64.wrap (t167)))) true)) else (none)) else (none))) else (spokeshaveref2_number.j3 k2 a0 a1 x7_2 x8_2 3 a1 (⟨#[]⟩ : ByteArray) (⟨#[]⟩ : ByteArray) x161004_2 true)) = some (r1, r2, r3, r4, r5, r6, r7) := H
        have A24 := Aside0.mk A240
        clear A240
        by_cases c25 : t165 ≥ 0
        ·
         rw [if_pos c25] at H
         have c25b0 : decide (0 ≤ t165) = true := decide_eq_true c25
         clear c25
         by_cases c26 : x8_2 = true
         ·
          subst c26
          have H1 : (if 0 ≤ x7_2 then (if x7_2 < (a0.size : Int) then ((spokeshaveref2_hex.f k2 (bt a0 x7_2)).bind fun t166 => (spokeshaveref2_number.l0 k2 a0 a1 (wrap64 (x7_2 + 1)) true 3 a1 (⟨#[]⟩ : ByteArray) (⟨#[]⟩ : ByteArray) (IntKind.u64.wrap ((IntKind.u64.wrap (x161004_2 * 16)) + (IntKind.u64.wrap (t166)))) true)) else (none)) else (none)) = some (r1, r2, r3, r4, r5, r6, r7) := by rw [if_pos rfl] at H; exact H
          clear H
          have H := H1
          clear H1
          by_cases c27 : 0 ≤ x7_2
          case neg => rw [if_neg c27] at H; exact absurd H (by simp)
          rw [if_pos c27] at H
          have c27b0 : decide (0 ≤ x7_2) = true := decide_eq_true c27
          clear c27
          by_cases c28 : x7_2 < (a0.size : Int)
          case neg => rw [if_neg c28] at H; exact absurd H (by simp)
          rw [if_pos c28] at H
          have c28b0 : decide (x7_2 < (a0.size : Int)) = true := decide_eq_true c28
          clear c28
          replace H := Option.bind_eq_some_iff.mp H
          obtain ⟨t166, A300, H⟩ := H
          replace H : (spokeshaveref2_number.l0 k2 a0 a1 (wrap64 (x7_2 + 1)) true 3 a1 (⟨#[]⟩ : ByteArray) (⟨#[]⟩ : ByteArray) (IntKind.u64.wrap ((IntKind.u64.wrap (x161004_2 * 16)) + (IntKind.u64.wrap (t166)))) true) = some (r1, r2, r3, r4, r5, r6, r7) := H
          have A30 := Aside0.mk A300
          clear A300
          have H' := Aside0.mk H
          clear H
          try go_wp2_with (first | ((with_reducible refine gate_callee (f := 32) rfl ?_); refine goesL_ (some 37) rfl rfl Tryd.func32 (by kernel_rfl) rfl #[.string a0, .int .i64 x7_2] rfl (by (try simp only [List.map_toArray, List.map_cons, List.map_nil]); first | done | rfl | (simp only [List.length_drop, List.length_take]; rfl)) ?_; (with_reducible refine (spokeshaveref2_at.calls a0 x7_2 t164 _ A23.out).mono ?_); rintro e w' ⟨rfl, ⟨nd, rfl⟩⟩; refine ⟨_, rfl, ?_⟩; (try (rw [drewN_self wr]; generalize hq_ : World.drewN wr _ = wr; have n0_ : Aside0 (wr.heap[gb159]? = some (.cells #[.int .i64 0, .int .i64 0, .string (⟨#[]⟩ : ByteArray), .string (⟨#[]⟩ : ByteArray), .int .u64 0, .bool false] 33 (0, 0))) := ⟨by rw [← hq_]; exact (by (with_reducible repeat (first | refine blk_drewN ?_ _ | refine blk_drew ?_ | refine blk_alloc ?_ _)); exact BK159.out)⟩; have n1_ : Aside0 (wr.heap[gb160]? = some (.cells #[.int .i64 3, .int .i64 a1, .string (⟨#[]⟩ : ByteArray), .string (⟨#[]⟩ : ByteArray), .int .u64 x161004_2, .bool true] 33 (0, 0))) := ⟨by rw [← hq_]; exact (by (with_reducible repeat (first | refine blk_drewN ?_ _ | refine blk_drew ?_ | refine blk_alloc ?_ _)); exact BK160.out)⟩; have n2_ : Aside0 (Below w.heap.size w wr) := ⟨by rw [← hq_]; exact (by repeat (first | (with_reducible first | exact HB.out | apply below_alloc | apply pw_below_drewN | apply below_drew1 | refine below_set ?_ GE159.out | refine below_set ?_ GE160.out) | exact HB.out))⟩; clear BK159 BK160 HB hq_; have BK159 := n0_; have BK160 := n1_; have HB := n2_; clear n0_ n1_ n2_))) | ((with_reducible refine gate_callee (f := 46) rfl ?_); refine goesL_ (some 38) rfl rfl Tryd.func46 (by kernel_rfl) rfl #[.int .u8 t164] rfl (by (try simp only [List.map_toArray, List.map_cons, List.map_nil]); first | done | rfl | (simp only [List.length_drop, List.length_take]; rfl)) ?_; (with_reducible refine (spokeshaveref2_hex.calls k2 t164 t165 _ A24.out).mono ?_); rintro e w' ⟨rfl, ⟨nd, rfl⟩⟩; refine ⟨_, rfl, ?_⟩; (try (rw [drewN_self wr]; generalize hq_ : World.drewN wr _ = wr; have n0_ : Aside0 (wr.heap[gb159]? = some (.cells #[.int .i64 0, .int .i64 0, .string (⟨#[]⟩ : ByteArray), .string (⟨#[]⟩ : ByteArray), .int .u64 0, .bool false] 33 (0, 0))) := ⟨by rw [← hq_]; exact (by (with_reducible repeat (first | refine blk_drewN ?_ _ | refine blk_drew ?_ | refine blk_alloc ?_ _)); exact BK159.out)⟩; have n1_ : Aside0 (wr.heap[gb160]? = some (.cells #[.int .i64 3, .int .i64 a1, .string (⟨#[]⟩ : ByteArray), .string (⟨#[]⟩ : ByteArray), .int .u64 x161004_2, .bool true] 33 (0, 0))) := ⟨by rw [← hq_]; exact (by (with_reducible repeat (first | refine blk_drewN ?_ _ | refine blk_drew ?_ | refine blk_alloc ?_ _)); exact BK160.out)⟩; have n2_ : Aside0 (Below w.heap.size w wr) := ⟨by rw [← hq_]; exact (by repeat (first | (with_reducible first | exact HB.out | apply below_alloc | apply pw_below_drewN | apply below_drew1 | refine below_set ?_ GE159.out | refine below_set ?_ GE160.out) | exact HB.out))⟩; clear BK159 BK160 HB hq_; have BK159 := n0_; have BK160 := n1_; have HB := n2_; clear n0_ n1_ n2_))))
          have n0_ := Aside0.mk (blk_drew BK159.out)
          have n1_ := Aside0.mk (blk_drew BK160.out)
          have n2_ := Aside0.mk (below_drew1 HB.out)
          clear BK159
          clear BK160
          clear HB
          have BK159 := n0_
          have BK160 := n1_
          have HB := n2_
          clear n0_ n1_ n2_
          have p29 : 0 ≤ (x7_2 : Int) := of_decide_eq_true (by first | (with_reducible assumption) | assumption)
          have q29 : x7_2 < (a0.size : Int) := of_decide_eq_true (by first | (with_reducible assumption) | assumption)
          have hx29 := bt_at a0 x7_2
          replace p29 := eq_true p29
          replace q29 := eq_true q29
          refine start_ (n := 11) (S := fun w' => w'.cell? ⟨gb160, 0, none⟩ = some (.int .i64 3) ∧ w'.cell? ⟨gb160, 1, none⟩ = some (.int .i64 a1) ∧ w'.cell? ⟨gb160, 2, none⟩ = some (.string (⟨#[]⟩ : ByteArray)) ∧ w'.cell? ⟨gb160, 3, none⟩ = some (.string (⟨#[]⟩ : ByteArray)) ∧ w'.cell? ⟨gb160, 4, none⟩ = some (.int .u64 x161004_2) ∧ w'.cell? ⟨gb160, 5, none⟩ = some (.bool true)) (ds := [10]) #[false,false,false,false,false,false,false,false,false,false,false] (by kernel_rfl) rfl rfl ⟨(blk_cell BK160.out 0).trans rfl, (blk_cell BK160.out 1).trans rfl, (blk_cell BK160.out 2).trans rfl, (blk_cell BK160.out 3).trans rfl, (blk_cell BK160.out 4).trans rfl, (blk_cell BK160.out 5).trans rfl⟩ (fun hHeld => ?_); refine with_tabW spokeshaveref2_number.tab11 spokeshaveref2_number.bits11 (fun HT_ HW_ => ?_)
          generalize wr.drew = w31 at BK159 BK160 HB hHeld ⊢
          refine pure_ (i := 0) (N := some 46) (v := ?_) (a' := ?_) #[true,false,false,false,false,false,false,false,false,false,false] rfl rfl (any_of HT_.out (by kernel_rfl)) (fun _ _ _ h => h) (Or.inl ⟨by rfl, ?_⟩) ?_ ?_
          rotate_left
          ·
           intro w'
           go_simp
           with_reducible rfl
          rotate_left
          ·
           simp only [Act.put, List.setIfInBounds_toArray, List.set_cons_zero, List.set_cons_succ, i64_w, i32_w]
           rfl
          refine pure_ (i := 3) (N := some 49) (v := ?_) (a' := ?_) #[true,false,false,true,false,false,false,false,false,false,false] rfl rfl (any_of HT_.out (by kernel_rfl)) (fun _ _ _ h => h) (Or.inl ⟨by rfl, ?_⟩) ?_ ?_
          rotate_left
          ·
           intro w'
           go_simp
           with_reducible rfl
          rotate_left
          ·
           simp only [Act.put, List.setIfInBounds_toArray, List.set_cons_zero, List.set_cons_succ, i64_w, i32_w]
           rfl
          refine pure_ (i := 4) (N := some 50) (v := ?_) (a' := ?_) #[true,false,false,true,true,false,false,false,false,false,false] rfl rfl (any_of HT_.out (by kernel_rfl)) (fun _ _ _ h => h) (Or.inl ⟨by rfl, ?_⟩) ?_ ?_
          rotate_left
          ·
           intro w'
           go_simp
           with_reducible rfl
          rotate_left
          ·
           simp only [Act.put, List.setIfInBounds_toArray, List.set_cons_zero, List.set_cons_succ, i64_w, i32_w]
           rfl
          refine take_ (i := 1) (N := some 47) (v := ?_) (a' := ?_) #[true,true,false,true,true,false,false,false,false,false,false] rfl rfl (take_ofW HT_.out HW_.out (by kernel_rfl)) (fun _ _ _ h => h) (Or.inl ⟨by rfl, ?_⟩) hHeld ?_ ?_
          rotate_left
          ·
           rintro w' ⟨s0, s1, s2, s3, s4, s5⟩
           go_simp
           with_reducible rfl
          rotate_left
          ·
           simp only [Act.put, List.setIfInBounds_toArray, List.set_cons_zero, List.set_cons_succ, i64_w, i32_w]
           rfl
          refine pure_ (i := 2) (N := some 48) (v := ?_) (a' := ?_) #[true,true,true,true,true,false,false,false,false,false,false] rfl rfl (any_of HT_.out (by kernel_rfl)) (fun _ _ _ h => h) (Or.inl ⟨by rfl, ?_⟩) ?_ ?_
          rotate_left
          ·
           intro w'
           go_simp
           with_reducible rfl
          rotate_left
          ·
           simp only [Act.put, List.setIfInBounds_toArray, List.set_cons_zero, List.set_cons_succ, i64_w, i32_w]
           rfl
          refine take_ (i := 5) (N := some 51) (v := ?_) (a' := ?_) #[true,true,true,true,true,true,false,false,false,false,false] rfl rfl (take_ofW HT_.out HW_.out (by kernel_rfl)) (fun _ _ _ h => h) (Or.inl ⟨by rfl, ?_⟩) hHeld ?_ ?_
          rotate_left
          ·
           rintro w' ⟨s0, s1, s2, s3, s4, s5⟩
           go_simp
           with_reducible rfl
          rotate_left
          ·
           simp only [Act.put, List.setIfInBounds_toArray, List.set_cons_zero, List.set_cons_succ, i64_w, i32_w]
           rfl
          refine one_ (i := 6) (N := some 52) #[true,true,true,true,true,true,true,false,false,false,false] rfl rfl (one_of HT_.out (by kernel_rfl)) (by decide) (fun K hK => ?_)
          refine goes_ Tryd.func46 (by kernel_rfl) rfl #[.int .u8 (bt a0 x7_2)] (by rfl) rfl rfl (by (try simp only [List.map_toArray, List.map_cons, List.map_nil]); first | done | rfl | (simp only [List.length_drop, List.length_take]; rfl)) ?_
          with_reducible refine (spokeshaveref2_hex.calls k2 (bt a0 x7_2) t166 _ A30.out).mono ?_
          rintro e w' ⟨rfl, ⟨nd, rfl⟩⟩
          refine ⟨_, rfl, ?_⟩
          refine hK.out _ _ ⟨(blk_cell BK160.out 0).trans rfl, (blk_cell BK160.out 1).trans rfl, (blk_cell BK160.out 2).trans rfl, (blk_cell BK160.out 3).trans rfl, (blk_cell BK160.out 4).trans rfl, (blk_cell BK160.out 5).trans rfl⟩ (fun hHeld => ?_)
          clear hK K
          refine norm_ (a' := ?_) ?_ ?_
          rotate_left
          ·
           show Act.put _ (some 52) _ = _
           simp only [Act.put, List.setIfInBounds_toArray, List.set_cons_zero, List.set_cons_succ, i64_w, i32_w]
           rfl
          refine pure_ (i := 7) (N := some 53) (v := ?_) (a' := ?_) #[true,true,true,true,true,true,true,true,false,false,false] rfl rfl (any_of HT_.out (by kernel_rfl)) (fun _ _ _ h => h) (Or.inl ⟨by rfl, ?_⟩) ?_ ?_
          rotate_left
          ·
           intro w'
           go_simp
           with_reducible rfl
          rotate_left
          ·
           simp only [Act.put, List.setIfInBounds_toArray, List.set_cons_zero, List.set_cons_succ, i64_w, i32_w]
           rfl
          refine pure_ (i := 8) (N := some 54) (v := ?_) (a' := ?_) #[true,true,true,true,true,true,true,true,true,false,false] rfl rfl (any_of HT_.out (by kernel_rfl)) (fun _ _ _ h => h) (Or.inl ⟨by rfl, ?_⟩) ?_ ?_
          rotate_left
          ·
           intro w'
           go_simp
           with_reducible rfl
          rotate_left
          ·
           simp only [Act.put, List.setIfInBounds_toArray, List.set_cons_zero, List.set_cons_succ, i64_w, i32_w]
           rfl
          refine pure_ (i := 9) (N := some 55) (v := ?_) (a' := ?_) #[true,true,true,true,true,true,true,true,true,true,false] rfl rfl (any_of HT_.out (by kernel_rfl)) (fun _ _ _ h => h) (Or.inl ⟨by rfl, ?_⟩) ?_ ?_
          rotate_left
          ·
           intro w'
           go_simp
           with_reducible rfl
          rotate_left
          ·
           simp only [Act.put, List.setIfInBounds_toArray, List.set_cons_zero, List.set_cons_succ, i64_w, i32_w]
           rfl
          refine last_ (i := 10) (N := none) #[true,true,true,true,true,true,true,true,true,true,true] rfl rfl (one_of HT_.out (by kernel_rfl)) (by decide) (fun K hK => ?_)
          have hs32 : w31.cell? ⟨gb160, 4, none⟩ = some (.int .u64 x161004_2) := (blk_cell BK160.out 4).trans rfl
          have hfs32 := blk_frozen BK160.out 4
          have hns32_0 := NB159_160.out
          have hms32_0 := NB160_159.out
          refine skip_ (w1 := ?_) (by rfl) rfl ?_ ?_
          rotate_left
          ·
           go_simp
           rfl
          refine hK.out _ _ ?_
          clear hK K
          refine done_ (done_of HT_.out (by kernel_rfl)) ?_
          try go_wp2
          go_roundg k2
          case measure => have := HJ2.out; have := HK2.out; omega
          case rel => exact ⟨(wrap64 (x7_2 + 1)), (true), (IntKind.u64.wrap ((IntKind.u64.wrap (x161004_2 * 16)) + (IntKind.u64.wrap (t166)))), (by first | rfl | (simp; done) | (simp [*]; done)), (by first | rfl | (simp; done) | (simp [*]; done)), H', ⟨by have := HJ2.out; have := HK2.out; omega⟩, ⟨by (with_reducible repeat (first | refine blk_drewN ?_ _ | refine blk_drew ?_ | refine blk_alloc ?_ _)); refine blk_far ?_ NB159_160.out _; (with_reducible repeat (first | refine blk_drewN ?_ _ | refine blk_drew ?_ | refine blk_alloc ?_ _)); exact BK159.out⟩, ⟨by (with_reducible repeat (first | refine blk_drewN ?_ _ | refine blk_drew ?_ | refine blk_alloc ?_ _)); refine blk_put (cs := #[.int .i64 3, .int .i64 a1, .string (⟨#[]⟩ : ByteArray), .string (⟨#[]⟩ : ByteArray), .int .u64 x161004_2, .bool true]) ?_ 4 _ rfl; (with_reducible repeat (first | refine blk_drewN ?_ _ | refine blk_drew ?_ | refine blk_alloc ?_ _)); exact BK160.out⟩, ⟨by repeat (first | (with_reducible first | exact HB.out | apply below_alloc | apply pw_below_drewN | apply below_drew1 | refine below_set ?_ GE159.out | refine below_set ?_ GE160.out) | exact HB.out)⟩⟩
         ·
          replace c26 := Bool.eq_false_iff.mpr c26
          subst c26
          have H1 : (if 0 ≤ x7_2 then (if x7_2 < (a0.size : Int) then ((spokeshaveref2_hex.f k2 (bt a0 x7_2)).bind fun t167 => (spokeshaveref2_number.l0 k2 a0 a1 (wrap64 (x7_2 + 1)) (decide (x161004_2 ≥ 1152921504606846976)) 3 a1 (⟨#[]⟩ : ByteArray) (⟨#[]⟩ : ByteArray) (IntKind.u64.wrap ((IntKind.u64.wrap (x161004_2 * 16)) + (IntKind.u64.wrap (t167)))) true)) else (none)) else (none)) = some (r1, r2, r3, r4, r5, r6, r7) := by rw [if_neg (show ¬ (false = true) by decide)] at H; exact H
          clear H
          have H := H1
          clear H1
          by_cases c33 : 0 ≤ x7_2
          case neg => rw [if_neg c33] at H; exact absurd H (by simp)
          rw [if_pos c33] at H
          have c33b0 : decide (0 ≤ x7_2) = true := decide_eq_true c33
          clear c33
          by_cases c34 : x7_2 < (a0.size : Int)
          case neg => rw [if_neg c34] at H; exact absurd H (by simp)
          rw [if_pos c34] at H
          have c34b0 : decide (x7_2 < (a0.size : Int)) = true := decide_eq_true c34
          clear c34
          replace H := Option.bind_eq_some_iff.mp H
          obtain ⟨t167, A360, H⟩ := H
          replace H : (spokeshaveref2_number.l0 k2 a0 a1 (wrap64 (x7_2 + 1)) (decide (x161004_2 ≥ 1152921504606846976)) 3 a1 (⟨#[]⟩ : ByteArray) (⟨#[]⟩ : ByteArray) (IntKind.u64.wrap ((IntKind.u64.wrap (x161004_2 * 16)) + (IntKind.u64.wrap (t167)))) true) = some (r1, r2, r3, r4, r5, r6, r7) := H
          have A36 := Aside0.mk A360
          clear A360
          have H' := Aside0.mk H
          clear H
          try go_wp2_with (first | ((with_reducible refine gate_callee (f := 32) rfl ?_); refine goesL_ (some 37) rfl rfl Tryd.func32 (by kernel_rfl) rfl #[.string a0, .int .i64 x7_2] rfl (by (try simp only [List.map_toArray, List.map_cons, List.map_nil]); first | done | rfl | (simp only [List.length_drop, List.length_take]; rfl)) ?_; (with_reducible refine (spokeshaveref2_at.calls a0 x7_2 t164 _ A23.out).mono ?_); rintro e w' ⟨rfl, ⟨nd, rfl⟩⟩; refine ⟨_, rfl, ?_⟩; (try (rw [drewN_self wr]; generalize hq_ : World.drewN wr _ = wr; have n0_ : Aside0 (wr.heap[gb159]? = some (.cells #[.int .i64 0, .int .i64 0, .string (⟨#[]⟩ : ByteArray), .string (⟨#[]⟩ : ByteArray), .int .u64 0, .bool false] 33 (0, 0))) := ⟨by rw [← hq_]; exact (by (with_reducible repeat (first | refine blk_drewN ?_ _ | refine blk_drew ?_ | refine blk_alloc ?_ _)); exact BK159.out)⟩; have n1_ : Aside0 (wr.heap[gb160]? = some (.cells #[.int .i64 3, .int .i64 a1, .string (⟨#[]⟩ : ByteArray), .string (⟨#[]⟩ : ByteArray), .int .u64 x161004_2, .bool true] 33 (0, 0))) := ⟨by rw [← hq_]; exact (by (with_reducible repeat (first | refine blk_drewN ?_ _ | refine blk_drew ?_ | refine blk_alloc ?_ _)); exact BK160.out)⟩; have n2_ : Aside0 (Below w.heap.size w wr) := ⟨by rw [← hq_]; exact (by repeat (first | (with_reducible first | exact HB.out | apply below_alloc | apply pw_below_drewN | apply below_drew1 | refine below_set ?_ GE159.out | refine below_set ?_ GE160.out) | exact HB.out))⟩; clear BK159 BK160 HB hq_; have BK159 := n0_; have BK160 := n1_; have HB := n2_; clear n0_ n1_ n2_))) | ((with_reducible refine gate_callee (f := 46) rfl ?_); refine goesL_ (some 38) rfl rfl Tryd.func46 (by kernel_rfl) rfl #[.int .u8 t164] rfl (by (try simp only [List.map_toArray, List.map_cons, List.map_nil]); first | done | rfl | (simp only [List.length_drop, List.length_take]; rfl)) ?_; (with_reducible refine (spokeshaveref2_hex.calls k2 t164 t165 _ A24.out).mono ?_); rintro e w' ⟨rfl, ⟨nd, rfl⟩⟩; refine ⟨_, rfl, ?_⟩; (try (rw [drewN_self wr]; generalize hq_ : World.drewN wr _ = wr; have n0_ : Aside0 (wr.heap[gb159]? = some (.cells #[.int .i64 0, .int .i64 0, .string (⟨#[]⟩ : ByteArray), .string (⟨#[]⟩ : ByteArray), .int .u64 0, .bool false] 33 (0, 0))) := ⟨by rw [← hq_]; exact (by (with_reducible repeat (first | refine blk_drewN ?_ _ | refine blk_drew ?_ | refine blk_alloc ?_ _)); exact BK159.out)⟩; have n1_ : Aside0 (wr.heap[gb160]? = some (.cells #[.int .i64 3, .int .i64 a1, .string (⟨#[]⟩ : ByteArray), .string (⟨#[]⟩ : ByteArray), .int .u64 x161004_2, .bool true] 33 (0, 0))) := ⟨by rw [← hq_]; exact (by (with_reducible repeat (first | refine blk_drewN ?_ _ | refine blk_drew ?_ | refine blk_alloc ?_ _)); exact BK160.out)⟩; have n2_ : Aside0 (Below w.heap.size w wr) := ⟨by rw [← hq_]; exact (by repeat (first | (with_reducible first | exact HB.out | apply below_alloc | apply pw_below_drewN | apply below_drew1 | refine below_set ?_ GE159.out | refine below_set ?_ GE160.out) | exact HB.out))⟩; clear BK159 BK160 HB hq_; have BK159 := n0_; have BK160 := n1_; have HB := n2_; clear n0_ n1_ n2_)); have hnb37 := NB160_159.out; have hnc37 := NB159_160.out; have hcz38_0 : wr.cell? ⟨gb160, 0, none⟩ = some (.int .i64 3) := (blk_cell BK160.out 0).trans rfl; have hcz38_1 : wr.cell? ⟨gb160, 1, none⟩ = some (.int .i64 a1) := (blk_cell BK160.out 1).trans rfl; have hcz38_2 : wr.cell? ⟨gb160, 2, none⟩ = some (.string (⟨#[]⟩ : ByteArray)) := (blk_cell BK160.out 2).trans rfl; have hcz38_3 : wr.cell? ⟨gb160, 3, none⟩ = some (.string (⟨#[]⟩ : ByteArray)) := (blk_cell BK160.out 3).trans rfl; have hcz38_4 : wr.cell? ⟨gb160, 4, none⟩ = some (.int .u64 x161004_2) := (blk_cell BK160.out 4).trans rfl; have hcz38_5 : wr.cell? ⟨gb160, 5, none⟩ = some (.bool true) := (blk_cell BK160.out 5).trans rfl; have hfz38_0 := blk_frozen BK160.out 0; have hfz38_1 := blk_frozen BK160.out 1; have hfz38_2 := blk_frozen BK160.out 2; have hfz38_3 := blk_frozen BK160.out 3; have hfz38_4 := blk_frozen BK160.out 4; have hfz38_5 := blk_frozen BK160.out 5))
          have n0_ := Aside0.mk (blk_drew BK159.out)
          have n1_ := Aside0.mk (blk_drew BK160.out)
          have n2_ := Aside0.mk (below_drew1 HB.out)
          clear BK159
          clear BK160
          clear HB
          have BK159 := n0_
          have BK160 := n1_
          have HB := n2_
          clear n0_ n1_ n2_
          have p35 : 0 ≤ (x7_2 : Int) := of_decide_eq_true (by first | (with_reducible assumption) | assumption)
          have q35 : x7_2 < (a0.size : Int) := of_decide_eq_true (by first | (with_reducible assumption) | assumption)
          have hx35 := bt_at a0 x7_2
          replace p35 := eq_true p35
          replace q35 := eq_true q35
          refine start_ (n := 11) (S := fun w' => w'.cell? ⟨gb160, 0, none⟩ = some (.int .i64 3) ∧ w'.cell? ⟨gb160, 1, none⟩ = some (.int .i64 a1) ∧ w'.cell? ⟨gb160, 2, none⟩ = some (.string (⟨#[]⟩ : ByteArray)) ∧ w'.cell? ⟨gb160, 3, none⟩ = some (.string (⟨#[]⟩ : ByteArray)) ∧ w'.cell? ⟨gb160, 4, none⟩ = some (.int .u64 x161004_2) ∧ w'.cell? ⟨gb160, 5, none⟩ = some (.bool true)) (ds := [10]) #[false,false,false,false,false,false,false,false,false,false,false] (by kernel_rfl) rfl rfl ⟨(blk_cell BK160.out 0).trans rfl, (blk_cell BK160.out 1).trans rfl, (blk_cell BK160.out 2).trans rfl, (blk_cell BK160.out 3).trans rfl, (blk_cell BK160.out 4).trans rfl, (blk_cell BK160.out 5).trans rfl⟩ (fun hHeld => ?_); refine with_tabW spokeshaveref2_number.tab11 spokeshaveref2_number.bits11 (fun HT_ HW_ => ?_)
          generalize wr.drew = w39 at BK159 BK160 HB hHeld ⊢
          refine pure_ (i := 0) (N := some 46) (v := ?_) (a' := ?_) #[true,false,false,false,false,false,false,false,false,false,false] rfl rfl (any_of HT_.out (by kernel_rfl)) (fun _ _ _ h => h) (Or.inl ⟨by rfl, ?_⟩) ?_ ?_
          rotate_left
          ·
           intro w'
           go_simp
           with_reducible rfl
          rotate_left
          ·
           simp only [Act.put, List.setIfInBounds_toArray, List.set_cons_zero, List.set_cons_succ, i64_w, i32_w]
           rfl
          refine pure_ (i := 3) (N := some 49) (v := ?_) (a' := ?_) #[true,false,false,true,false,false,false,false,false,false,false] rfl rfl (any_of HT_.out (by kernel_rfl)) (fun _ _ _ h => h) (Or.inl ⟨by rfl, ?_⟩) ?_ ?_
          rotate_left
          ·
           intro w'
           go_simp
           with_reducible rfl
          rotate_left
          ·
           simp only [Act.put, List.setIfInBounds_toArray, List.set_cons_zero, List.set_cons_succ, i64_w, i32_w]
           rfl
          refine pure_ (i := 4) (N := some 50) (v := ?_) (a' := ?_) #[true,false,false,true,true,false,false,false,false,false,false] rfl rfl (any_of HT_.out (by kernel_rfl)) (fun _ _ _ h => h) (Or.inl ⟨by rfl, ?_⟩) ?_ ?_
          rotate_left
          ·
           intro w'
           go_simp
           with_reducible rfl
          rotate_left
          ·
           simp only [Act.put, List.setIfInBounds_toArray, List.set_cons_zero, List.set_cons_succ, i64_w, i32_w]
           rfl
          refine take_ (i := 1) (N := some 47) (v := ?_) (a' := ?_) #[true,true,false,true,true,false,false,false,false,false,false] rfl rfl (take_ofW HT_.out HW_.out (by kernel_rfl)) (fun _ _ _ h => h) (Or.inl ⟨by rfl, ?_⟩) hHeld ?_ ?_
          rotate_left
          ·
           rintro w' ⟨s0, s1, s2, s3, s4, s5⟩
           go_simp
           with_reducible rfl
          rotate_left
          ·
           simp only [Act.put, List.setIfInBounds_toArray, List.set_cons_zero, List.set_cons_succ, i64_w, i32_w]
           rfl
          refine pure_ (i := 2) (N := some 48) (v := ?_) (a' := ?_) #[true,true,true,true,true,false,false,false,false,false,false] rfl rfl (any_of HT_.out (by kernel_rfl)) (fun _ _ _ h => h) (Or.inl ⟨by rfl, ?_⟩) ?_ ?_
          rotate_left
          ·
           intro w'
           go_simp
           with_reducible rfl
          rotate_left
          ·
           simp only [Act.put, List.setIfInBounds_toArray, List.set_cons_zero, List.set_cons_succ, i64_w, i32_w]
           rfl
          refine take_ (i := 5) (N := some 51) (v := ?_) (a' := ?_) #[true,true,true,true,true,true,false,false,false,false,false] rfl rfl (take_ofW HT_.out HW_.out (by kernel_rfl)) (fun _ _ _ h => h) (Or.inl ⟨by rfl, ?_⟩) hHeld ?_ ?_
          rotate_left
          ·
           rintro w' ⟨s0, s1, s2, s3, s4, s5⟩
           go_simp
           with_reducible rfl
          rotate_left
          ·
           simp only [Act.put, List.setIfInBounds_toArray, List.set_cons_zero, List.set_cons_succ, i64_w, i32_w]
           rfl
          refine one_ (i := 6) (N := some 52) #[true,true,true,true,true,true,true,false,false,false,false] rfl rfl (one_of HT_.out (by kernel_rfl)) (by decide) (fun K hK => ?_)
          refine goes_ Tryd.func46 (by kernel_rfl) rfl #[.int .u8 (bt a0 x7_2)] (by rfl) rfl rfl (by (try simp only [List.map_toArray, List.map_cons, List.map_nil]); first | done | rfl | (simp only [List.length_drop, List.length_take]; rfl)) ?_
          with_reducible refine (spokeshaveref2_hex.calls k2 (bt a0 x7_2) t167 _ A36.out).mono ?_
          rintro e w' ⟨rfl, ⟨nd, rfl⟩⟩
          refine ⟨_, rfl, ?_⟩
          refine hK.out _ _ ⟨(blk_cell BK160.out 0).trans rfl, (blk_cell BK160.out 1).trans rfl, (blk_cell BK160.out 2).trans rfl, (blk_cell BK160.out 3).trans rfl, (blk_cell BK160.out 4).trans rfl, (blk_cell BK160.out 5).trans rfl⟩ (fun hHeld => ?_)
          clear hK K
          refine norm_ (a' := ?_) ?_ ?_
          rotate_left
          ·
           show Act.put _ (some 52) _ = _
           simp only [Act.put, List.setIfInBounds_toArray, List.set_cons_zero, List.set_cons_succ, i64_w, i32_w]
           rfl
          refine pure_ (i := 7) (N := some 53) (v := ?_) (a' := ?_) #[true,true,true,true,true,true,true,true,false,false,false] rfl rfl (any_of HT_.out (by kernel_rfl)) (fun _ _ _ h => h) (Or.inl ⟨by rfl, ?_⟩) ?_ ?_
          rotate_left
          ·
           intro w'
           go_simp
           with_reducible rfl
          rotate_left
          ·
           simp only [Act.put, List.setIfInBounds_toArray, List.set_cons_zero, List.set_cons_succ, i64_w, i32_w]
           rfl
          refine pure_ (i := 8) (N := some 54) (v := ?_) (a' := ?_) #[true,true,true,true,true,true,true,true,true,false,false] rfl rfl (any_of HT_.out (by kernel_rfl)) (fun _ _ _ h => h) (Or.inl ⟨by rfl, ?_⟩) ?_ ?_
          rotate_left
          ·
           intro w'
           go_simp
           with_reducible rfl
          rotate_left
          ·
           simp only [Act.put, List.setIfInBounds_toArray, List.set_cons_zero, List.set_cons_succ, i64_w, i32_w]
           rfl
          refine pure_ (i := 9) (N := some 55) (v := ?_) (a' := ?_) #[true,true,true,true,true,true,true,true,true,true,false] rfl rfl (any_of HT_.out (by kernel_rfl)) (fun _ _ _ h => h) (Or.inl ⟨by rfl, ?_⟩) ?_ ?_
          rotate_left
          ·
           intro w'
           go_simp
           with_reducible rfl
          rotate_left
          ·
           simp only [Act.put, List.setIfInBounds_toArray, List.set_cons_zero, List.set_cons_succ, i64_w, i32_w]
           rfl
          refine last_ (i := 10) (N := none) #[true,true,true,true,true,true,true,true,true,true,true] rfl rfl (one_of HT_.out (by kernel_rfl)) (by decide) (fun K hK => ?_)
          have hs40 : w39.cell? ⟨gb160, 4, none⟩ = some (.int .u64 x161004_2) := (blk_cell BK160.out 4).trans rfl
          have hfs40 := blk_frozen BK160.out 4
          have hns40_0 := NB159_160.out
          have hms40_0 := NB160_159.out
          refine skip_ (w1 := ?_) (by rfl) rfl ?_ ?_
          rotate_left
          ·
           go_simp
           rfl
          refine hK.out _ _ ?_
          clear hK K
          refine done_ (done_of HT_.out (by kernel_rfl)) ?_
          try go_wp2
          go_roundg k2
          case measure => have := HJ2.out; have := HK2.out; omega
          case rel => exact ⟨(wrap64 (x7_2 + 1)), (decide (x161004_2 ≥ 1152921504606846976)), (IntKind.u64.wrap ((IntKind.u64.wrap (x161004_2 * 16)) + (IntKind.u64.wrap (t167)))), (by first | rfl | (simp; done) | (simp [*]; done)), (by first | rfl | (simp; done) | (simp [*]; done)), H', ⟨by have := HJ2.out; have := HK2.out; omega⟩, ⟨by (with_reducible repeat (first | refine blk_drewN ?_ _ | refine blk_drew ?_ | refine blk_alloc ?_ _)); refine blk_far ?_ NB159_160.out _; (with_reducible repeat (first | refine blk_drewN ?_ _ | refine blk_drew ?_ | refine blk_alloc ?_ _)); exact BK159.out⟩, ⟨by (with_reducible repeat (first | refine blk_drewN ?_ _ | refine blk_drew ?_ | refine blk_alloc ?_ _)); refine blk_put (cs := #[.int .i64 3, .int .i64 a1, .string (⟨#[]⟩ : ByteArray), .string (⟨#[]⟩ : ByteArray), .int .u64 x161004_2, .bool true]) ?_ 4 _ rfl; (with_reducible repeat (first | refine blk_drewN ?_ _ | refine blk_drew ?_ | refine blk_alloc ?_ _)); exact BK160.out⟩, ⟨by repeat (first | (with_reducible first | exact HB.out | apply below_alloc | apply pw_below_drewN | apply below_drew1 | refine below_set ?_ GE159.out | refine below_set ?_ GE160.out) | exact HB.out)⟩⟩
        ·
         rw [if_neg c25] at H
         have c25b0 : decide (0 ≤ t165) = false := decide_eq_false c25
         clear c25
         have H' := Aside0.mk H
         clear H
         go_wp2_with (first | ((with_reducible refine gate_callee (f := 32) rfl ?_); refine goesL_ (some 37) rfl rfl Tryd.func32 (by kernel_rfl) rfl #[.string a0, .int .i64 x7_2] rfl (by (try simp only [List.map_toArray, List.map_cons, List.map_nil]); first | done | rfl | (simp only [List.length_drop, List.length_take]; rfl)) ?_; (with_reducible refine (spokeshaveref2_at.calls a0 x7_2 t164 _ A23.out).mono ?_); rintro e w' ⟨rfl, ⟨nd, rfl⟩⟩; refine ⟨_, rfl, ?_⟩) | ((with_reducible refine gate_callee (f := 46) rfl ?_); refine goesL_ (some 38) rfl rfl Tryd.func46 (by kernel_rfl) rfl #[.int .u8 t164] rfl (by (try simp only [List.map_toArray, List.map_cons, List.map_nil]); first | done | rfl | (simp only [List.length_drop, List.length_take]; rfl)) ?_; (with_reducible refine (spokeshaveref2_hex.calls k2 t164 t165 _ A24.out).mono ?_); rintro e w' ⟨rfl, ⟨nd, rfl⟩⟩; refine ⟨_, rfl, ?_⟩))
         go_meet
         case rel => exact ⟨_, (x7_2), (x8_2), (0), (0), ((⟨#[]⟩ : ByteArray)), ((⟨#[]⟩ : ByteArray)), (0), (false), (x161004_2), (true), (by first | rfl | (simp; done) | (simp [*]; done)), (by first | rfl | (simp; done) | (simp [*]; done)), H', ⟨by have := HJ2.out; have := HK2.out; first | omega | exact Nat.le_refl _⟩, ⟨by (with_reducible repeat (first | refine blk_drewN ?_ _ | refine blk_drew ?_ | refine blk_alloc ?_ _)); exact BK159.out⟩, ⟨by (with_reducible repeat (first | refine blk_drewN ?_ _ | refine blk_drew ?_ | refine blk_alloc ?_ _)); exact BK160.out⟩, ⟨by repeat (first | (with_reducible first | exact HB.out | apply below_alloc | apply pw_below_drewN | apply below_drew1 | refine below_set ?_ GE159.out | refine below_set ?_ GE160.out) | exact HB.out)⟩⟩
    ·
     replace c14 := Bool.eq_false_iff.mpr c14
     subst c14
     have H1 : (if 0 ≤ a1 then (if a1 < (a0.size : Int) then (spokeshaveref2_number.l1 kj2 a0 a1 a1 false (bt a0 a1) 3 a1 (⟨#[]⟩ : ByteArray) (⟨#[]⟩ : ByteArray) 0 false) else (none)) else (none)) = some (r1, r2, r3, r4, r5, r6, r7) := by rw [if_neg (show ¬ (false = true) by decide)] at H; exact H
     clear H
     have H := H1
     clear H1
     by_cases c41 : 0 ≤ a1
     case neg => rw [if_neg c41] at H; exact absurd H (by simp)
     rw [if_pos c41] at H
     have c41b0 : decide (0 ≤ a1) = true := decide_eq_true c41
     clear c41
     by_cases c42 : a1 < (a0.size : Int)
     case neg => rw [if_neg c42] at H; exact absurd H (by simp)
     rw [if_pos c42] at H
     have c42b0 : decide (a1 < (a0.size : Int)) = true := decide_eq_true c42
     clear c42
     have H' := Aside0.mk H
     clear H
     have p43 : 0 ≤ (a1 : Int) := of_decide_eq_true (by first | (with_reducible assumption) | assumption)
     have q43 : a1 < (a0.size : Int) := of_decide_eq_true (by first | (with_reducible assumption) | assumption)
     have hx43 := bt_at a0 a1
     replace p43 := eq_true p43
     replace q43 := eq_true q43
     go_wp2
     go_loopg [7, 8] kj2 (fun kq v7 v8 w' => ∃ (x7_2 : Int) (x8_2 : Bool) (x161004_2 : Int), v7 = .int .i64 x7_2 ∧ v8 = .bool x8_2 ∧ Aside0 (spokeshaveref2_number.l1 kq a0 a1 x7_2 x8_2 (bt a0 a1) 3 a1 (⟨#[]⟩ : ByteArray) (⟨#[]⟩ : ByteArray) x161004_2 false = some (r1, r2, r3, r4, r5, r6, r7)) ∧ Aside0 (kq ≤ kj2) ∧ Aside0 (w'.heap[gb159]? = some (.cells #[.int .i64 0, .int .i64 0, .string (⟨#[]⟩ : ByteArray), .string (⟨#[]⟩ : ByteArray), .int .u64 0, .bool false] 33 (0, 0))) ∧ Aside0 (w'.heap[gb160]? = some (.cells #[.int .i64 3, .int .i64 a1, .string (⟨#[]⟩ : ByteArray), .string (⟨#[]⟩ : ByteArray), .int .u64 x161004_2, .bool false] 33 (0, 0))) ∧ Aside0 (Below w.heap.size w w'))
     case atStart => exact ⟨(a1), (false), (0), (by first | rfl | (simp; done) | (simp [*]; done)), (by first | rfl | (simp; done) | (simp [*]; done)), H', ⟨Nat.le_refl _⟩, ⟨by (with_reducible repeat (first | refine blk_drewN ?_ _ | refine blk_drew ?_ | refine blk_alloc ?_ _)); exact BK159.out⟩, ⟨by (with_reducible repeat (first | refine blk_drewN ?_ _ | refine blk_drew ?_ | refine blk_alloc ?_ _)); exact BK160.out⟩, ⟨by repeat (first | (with_reducible first | exact HB.out | apply below_alloc | apply pw_below_drewN | apply below_drew1 | refine below_set ?_ GE159.out | refine below_set ?_ GE160.out) | exact HB.out)⟩⟩
     case round =>
      clear H'
      try clear c1
      try clear p1
      try clear q1
      try clear hx1
      try clear c2
      try clear p2
      try clear q2
      try clear hx2
      try clear c3
      try clear p3
      try clear q3
      try clear hx3
      try clear c4
      try clear p4
      try clear q4
      try clear hx4
      try clear c6
      try clear p6
      try clear c8
      try clear c8b0
      try clear c9
      try clear c9b0
      try clear p10
      try clear q10
      try clear hx10
      try clear c11
      try clear c11b0
      try clear c11b1
      try clear c14
      try clear c17
      try clear c17b0
      try clear c18
      try clear c21
      try clear c25
      try clear c25b0
      try clear c26
      try clear c27
      try clear c27b0
      try clear c28
      try clear c28b0
      try clear p29
      try clear q29
      try clear hx29
      try clear c32
      try clear c33
      try clear c33b0
      try clear c34
      try clear c34b0
      try clear c35
      try clear p35
      try clear q35
      try clear hx35
      try clear c37
      try clear c41
      try clear c41b0
      try clear c42
      try clear c42b0
      try clear p43
      try clear q43
      try clear hx43
      try clear hcz19_0
      try clear hcz19_1
      try clear hcz19_2
      try clear hcz19_3
      try clear hcz19_4
      try clear hcz19_5
      try clear hcz20_0
      try clear hcz20_1
      try clear hcz20_2
      try clear hcz20_3
      try clear hcz20_4
      try clear hcz20_5
      try clear hcz22_0
      try clear hcz22_1
      try clear hcz22_2
      try clear hcz22_3
      try clear hcz22_4
      try clear hcz22_5
      try clear hcz38_0
      try clear hcz38_1
      try clear hcz38_2
      try clear hcz38_3
      try clear hcz38_4
      try clear hcz38_5
      try clear hcz7_0
      try clear hcz7_1
      try clear hcz7_2
      try clear hcz7_3
      try clear hcz7_4
      try clear hcz7_5
      try clear hfz19_0
      try clear hfz19_1
      try clear hfz19_2
      try clear hfz19_3
      try clear hfz19_4
      try clear hfz19_5
      try clear hfz20_0
      try clear hfz20_1
      try clear hfz20_2
      try clear hfz20_3
      try clear hfz20_4
      try clear hfz20_5
      try clear hfz22_0
      try clear hfz22_1
      try clear hfz22_2
      try clear hfz22_3
      try clear hfz22_4
      try clear hfz22_5
      try clear hfz38_0
      try clear hfz38_1
      try clear hfz38_2
      try clear hfz38_3
      try clear hfz38_4
      try clear hfz38_5
      try clear hfz7_0
      try clear hfz7_1
      try clear hfz7_2
      try clear hfz7_3
      try clear hfz7_4
      try clear hfz7_5
      try clear p1
      try clear p10
      try clear p2
      try clear p29
      try clear p35
      try clear p43
      try clear p6
      try clear q1
      try clear q10
      try clear q29
      try clear q35
      try clear q43
      obtain ⟨x7_2, x8_2, x161004_2, rfl, rfl, HA, HK2, BK159, BK160, HB⟩ := hrel
      cases gk with
      | zero => exact absurd HA.out (by simp [spokeshaveref2_number.l1])
      | succ k2 =>
       have H := HA.out
       clear HA
       simp only [spokeshaveref2_number.l1] at H
       replace H := Option.bind_eq_some_iff.mp H
       obtain ⟨t168, A440, H⟩ := H
       replace H : ((spokeshaveref2_digit.f t168).bind fun t169 => (if t169 = true then (if 0 ≤ x7_2 then (if x7_2 < (a0.size : Int) then (if x8_2 = true then (spokeshaveref2_number.l1 k2 a0 a1 (wrap64 (x7_2 + 1)) true (bt a0 a1) 3 a1 (⟨#[]⟩ : ByteArray) (⟨#[]⟩ : ByteArray) (IntKind.u64.wrap ((IntKind.u64.wrap (x161004_2 * 10)) + (((bt a0 x7_2) - 48) % 256))) false) else (spokeshaveref2_number.l1 k2 a0 a1 (wrap64 (x7_2 + 1)) (decide (x161004_2 > ((18446744073709551615 - (((bt a0 x7_2) - 48) % 256)) / 10))) (bt a0 a1) 3 a1 (⟨#[]⟩ : ByteArray) (⟨#[]⟩ : ByteArray) (IntKind.u64.wrap ((IntKind.u64.wrap (x161004_2 * 10)) + (((bt a0 x7_2) - 48) % 256))) false)) else (none)) else (none)) else (if (bt a0 a1) = 48 then (if x7_2 > (wrap64 (a1 + 1)) then (some (3, a1, (⟨#[]⟩ : ByteArray), (⟨#[]⟩ : ByteArray), x161004_2, false, 3)) else (spokeshaveref2_number.j3 k2 a0 a1 x7_2 x8_2 3 a1 (⟨#[]⟩ : ByteArray) (⟨#[]⟩ : ByteArray) x161004_2 false)) else (spokeshaveref2_number.j3 k2 a0 a1 x7_2 x8_2 3 a1 (⟨#[]⟩ : ByteArray) (⟨#[]⟩ : ByteArray) x161004_2 false)))) = some (r1, r2, r3, r4, r5, r6, r7) := H
       have A44 := Aside0.mk A440
       clear A440
       replace H := Option.bind_eq_some_iff.mp H
       obtain ⟨t169, A450, H⟩ := H
       replace H : (if t169 = true then (if 0 ≤ x7_2 then (if x7_2 < (a0.size : Int) then (if x8_2 = true then (spokeshaveref2_number.l1 k2 a0 a1 (wrap64 (x7_2 + 1)) true (bt a0 a1) 3 a1 (⟨#[]⟩ : ByteArray) (⟨#[]⟩ : ByteArray) (IntKind.u64.wrap ((IntKind.u64.wrap (x161004_2 * 10)) + (((bt a0 x7_2) - 48) % 256))) false) else (spokeshaveref2_number.l1 k2 a0 a1 (wrap64 (x7_2 + 1)) (decide (x161004_2 > ((18446744073709551615 - (((bt a0 x7_2) - 48) % 256)) / 10))) (bt a0 a1) 3 a1 (⟨#[]⟩ : ByteArray) (⟨#[]⟩ : ByteArray) (IntKind.u64.wrap ((IntKind.u64.wrap (x161004_2 * 10)) + (((bt a0 x7_2) - 48) % 256))) false)) else (none)) else (none)) else (if (bt a0 a1) = 48 then (if x7_2 > (wrap64 (a1 + 1)) then (some (3, a1, (⟨#[]⟩ : ByteArray), (⟨#[]⟩ : ByteArray), x161004_2, false, 3)) else (spokeshaveref2_number.j3 k2 a0 a1 x7_2 x8_2 3 a1 (⟨#[]⟩ : ByteArray) (⟨#[]⟩ : ByteArray) x161004_2 false)) else (spokeshaveref2_number.j3 k2 a0 a1 x7_2 x8_2 3 a1 (⟨#[]⟩ : ByteArray) (⟨#[]⟩ : ByteArray) x161004_2 false))) = some (r1, r2, r3, r4, r5, r6, r7) := H
       have A45 := Aside0.mk A450
       clear A450
       by_cases c46 : t169 = true
       ·
        subst c46
        have H1 : (if 0 ≤ x7_2 then (if x7_2 < (a0.size : Int) then (if x8_2 = true then (spokeshaveref2_number.l1 k2 a0 a1 (wrap64 (x7_2 + 1)) true (bt a0 a1) 3 a1 (⟨#[]⟩ : ByteArray) (⟨#[]⟩ : ByteArray) (IntKind.u64.wrap ((IntKind.u64.wrap (x161004_2 * 10)) + (((bt a0 x7_2) - 48) % 256))) false) else (spokeshaveref2_number.l1 k2 a0 a1 (wrap64 (x7_2 + 1)) (decide (x161004_2 > ((18446744073709551615 - (((bt a0 x7_2) - 48) % 256)) / 10))) (bt a0 a1) 3 a1 (⟨#[]⟩ : ByteArray) (⟨#[]⟩ : ByteArray) (IntKind.u64.wrap ((IntKind.u64.wrap (x161004_2 * 10)) + (((bt a0 x7_2) - 48) % 256))) false)) else (none)) else (none)) = some (r1, r2, r3, r4, r5, r6, r7) := by rw [if_pos rfl] at H; exact H
        clear H
        have H := H1
        clear H1
        by_cases c47 : 0 ≤ x7_2
        case neg => rw [if_neg c47] at H; exact absurd H (by simp)
        rw [if_pos c47] at H
        have c47b0 : decide (0 ≤ x7_2) = true := decide_eq_true c47
        clear c47
        by_cases c48 : x7_2 < (a0.size : Int)
        case neg => rw [if_neg c48] at H; exact absurd H (by simp)
        rw [if_pos c48] at H
        have c48b0 : decide (x7_2 < (a0.size : Int)) = true := decide_eq_true c48
        clear c48
        by_cases c50 : x8_2 = true
        ·
         subst c50
         have H1 : (spokeshaveref2_number.l1 k2 a0 a1 (wrap64 (x7_2 + 1)) true (bt a0 a1) 3 a1 (⟨#[]⟩ : ByteArray) (⟨#[]⟩ : ByteArray) (IntKind.u64.wrap ((IntKind.u64.wrap (x161004_2 * 10)) + (((bt a0 x7_2) - 48) % 256))) false) = some (r1, r2, r3, r4, r5, r6, r7) := by rw [if_pos rfl] at H; exact H
         clear H
         have H := H1
         clear H1
         have H' := Aside0.mk H
         clear H
         go_wp2_with (first | ((with_reducible refine gate_callee (f := 32) rfl ?_); refine goesL_ (some 63) rfl rfl Tryd.func32 (by kernel_rfl) rfl #[.string a0, .int .i64 x7_2] rfl (by (try simp only [List.map_toArray, List.map_cons, List.map_nil]); first | done | rfl | (simp only [List.length_drop, List.length_take]; rfl)) ?_; (with_reducible refine (spokeshaveref2_at.calls a0 x7_2 t168 _ A44.out).mono ?_); rintro e w' ⟨rfl, ⟨nd, rfl⟩⟩; refine ⟨_, rfl, ?_⟩; (try (rw [drewN_self wr]; generalize hq_ : World.drewN wr _ = wr; have n0_ : Aside0 (wr.heap[gb159]? = some (.cells #[.int .i64 0, .int .i64 0, .string (⟨#[]⟩ : ByteArray), .string (⟨#[]⟩ : ByteArray), .int .u64 0, .bool false] 33 (0, 0))) := ⟨by rw [← hq_]; exact (by (with_reducible repeat (first | refine blk_drewN ?_ _ | refine blk_drew ?_ | refine blk_alloc ?_ _)); exact BK159.out)⟩; have n1_ : Aside0 (wr.heap[gb160]? = some (.cells #[.int .i64 3, .int .i64 a1, .string (⟨#[]⟩ : ByteArray), .string (⟨#[]⟩ : ByteArray), .int .u64 x161004_2, .bool false] 33 (0, 0))) := ⟨by rw [← hq_]; exact (by (with_reducible repeat (first | refine blk_drewN ?_ _ | refine blk_drew ?_ | refine blk_alloc ?_ _)); exact BK160.out)⟩; have n2_ : Aside0 (Below w.heap.size w wr) := ⟨by rw [← hq_]; exact (by repeat (first | (with_reducible first | exact HB.out | apply below_alloc | apply pw_below_drewN | apply below_drew1 | refine below_set ?_ GE159.out | refine below_set ?_ GE160.out) | exact HB.out))⟩; clear BK159 BK160 HB hq_; have BK159 := n0_; have BK160 := n1_; have HB := n2_; clear n0_ n1_ n2_))) | ((with_reducible refine gate_callee (f := 34) rfl ?_); refine goesL_ (some 64) rfl rfl Tryd.func34 (by kernel_rfl) rfl #[.int .u8 t168] rfl (by (try simp only [List.map_toArray, List.map_cons, List.map_nil]); first | done | rfl | (simp only [List.length_drop, List.length_take]; rfl)) ?_; (with_reducible refine (spokeshaveref2_digit.calls t168 true _ A45.out).mono ?_); rintro e w' ⟨rfl, ⟨nd, rfl⟩⟩; refine ⟨_, rfl, ?_⟩; (try (rw [drewN_self wr]; generalize hq_ : World.drewN wr _ = wr; have n0_ : Aside0 (wr.heap[gb159]? = some (.cells #[.int .i64 0, .int .i64 0, .string (⟨#[]⟩ : ByteArray), .string (⟨#[]⟩ : ByteArray), .int .u64 0, .bool false] 33 (0, 0))) := ⟨by rw [← hq_]; exact (by (with_reducible repeat (first | refine blk_drewN ?_ _ | refine blk_drew ?_ | refine blk_alloc ?_ _)); exact BK159.out)⟩; have n1_ : Aside0 (wr.heap[gb160]? = some (.cells #[.int .i64 3, .int .i64 a1, .string (⟨#[]⟩ : ByteArray), .string (⟨#[]⟩ : ByteArray), .int .u64 x161004_2, .bool false] 33 (0, 0))) := ⟨by rw [← hq_]; exact (by (with_reducible repeat (first | refine blk_drewN ?_ _ | refine blk_drew ?_ | refine blk_alloc ?_ _)); exact BK160.out)⟩; have n2_ : Aside0 (Below w.heap.size w wr) := ⟨by rw [← hq_]; exact (by repeat (first | (with_reducible first | exact HB.out | apply below_alloc | apply pw_below_drewN | apply below_drew1 | refine below_set ?_ GE159.out | refine below_set ?_ GE160.out) | exact HB.out))⟩; clear BK159 BK160 HB hq_; have BK159 := n0_; have BK160 := n1_; have HB := n2_; clear n0_ n1_ n2_)); have p49 : 0 ≤ (x7_2 : Int) := of_decide_eq_true (by first | (with_reducible assumption) | assumption); have q49 : x7_2 < (a0.size : Int) := of_decide_eq_true (by first | (with_reducible assumption) | assumption); have hx49 := bt_at a0 x7_2; replace p49 := eq_true p49; replace q49 := eq_true q49; have hnb51 := NB160_159.out; have hnc51 := NB159_160.out; have hcz52_0 : wr.cell? ⟨gb160, 0, none⟩ = some (.int .i64 3) := (blk_cell BK160.out 0).trans rfl; have hcz52_1 : wr.cell? ⟨gb160, 1, none⟩ = some (.int .i64 a1) := (blk_cell BK160.out 1).trans rfl; have hcz52_2 : wr.cell? ⟨gb160, 2, none⟩ = some (.string (⟨#[]⟩ : ByteArray)) := (blk_cell BK160.out 2).trans rfl; have hcz52_3 : wr.cell? ⟨gb160, 3, none⟩ = some (.string (⟨#[]⟩ : ByteArray)) := (blk_cell BK160.out 3).trans rfl; have hcz52_4 : wr.cell? ⟨gb160, 4, none⟩ = some (.int .u64 x161004_2) := (blk_cell BK160.out 4).trans rfl; have hcz52_5 : wr.cell? ⟨gb160, 5, none⟩ = some (.bool false) := (blk_cell BK160.out 5).trans rfl; have hfz52_0 := blk_frozen BK160.out 0; have hfz52_1 := blk_frozen BK160.out 1; have hfz52_2 := blk_frozen BK160.out 2; have hfz52_3 := blk_frozen BK160.out 3; have hfz52_4 := blk_frozen BK160.out 4; have hfz52_5 := blk_frozen BK160.out 5))
         go_roundg k2
         case measure => have := HJ2.out; have := HK2.out; omega
         case rel => exact ⟨(wrap64 (x7_2 + 1)), (true), (IntKind.u64.wrap ((IntKind.u64.wrap (x161004_2 * 10)) + (((bt a0 x7_2) - 48) % 256))), (by first | rfl | (simp; done) | (simp [*]; done)), (by first | rfl | (simp; done) | (simp [*]; done)), H', ⟨by have := HJ2.out; have := HK2.out; omega⟩, ⟨by (with_reducible repeat (first | refine blk_drewN ?_ _ | refine blk_drew ?_ | refine blk_alloc ?_ _)); refine blk_far ?_ NB159_160.out _; (with_reducible repeat (first | refine blk_drewN ?_ _ | refine blk_drew ?_ | refine blk_alloc ?_ _)); exact BK159.out⟩, ⟨by (with_reducible repeat (first | refine blk_drewN ?_ _ | refine blk_drew ?_ | refine blk_alloc ?_ _)); refine blk_put (cs := #[.int .i64 3, .int .i64 a1, .string (⟨#[]⟩ : ByteArray), .string (⟨#[]⟩ : ByteArray), .int .u64 x161004_2, .bool false]) ?_ 4 _ rfl; (with_reducible repeat (first | refine blk_drewN ?_ _ | refine blk_drew ?_ | refine blk_alloc ?_ _)); exact BK160.out⟩, ⟨by repeat (first | (with_reducible first | exact HB.out | apply below_alloc | apply pw_below_drewN | apply below_drew1 | refine below_set ?_ GE159.out | refine below_set ?_ GE160.out) | exact HB.out)⟩⟩
        ·
         replace c50 := Bool.eq_false_iff.mpr c50
         subst c50
         have H1 : (spokeshaveref2_number.l1 k2 a0 a1 (wrap64 (x7_2 + 1)) (decide (x161004_2 > ((18446744073709551615 - (((bt a0 x7_2) - 48) % 256)) / 10))) (bt a0 a1) 3 a1 (⟨#[]⟩ : ByteArray) (⟨#[]⟩ : ByteArray) (IntKind.u64.wrap ((IntKind.u64.wrap (x161004_2 * 10)) + (((bt a0 x7_2) - 48) % 256))) false) = some (r1, r2, r3, r4, r5, r6, r7) := by rw [if_neg (show ¬ (false = true) by decide)] at H; exact H
         clear H
         have H := H1
         clear H1
         have H' := Aside0.mk H
         clear H
         go_wp2_with (first | ((with_reducible refine gate_callee (f := 32) rfl ?_); refine goesL_ (some 63) rfl rfl Tryd.func32 (by kernel_rfl) rfl #[.string a0, .int .i64 x7_2] rfl (by (try simp only [List.map_toArray, List.map_cons, List.map_nil]); first | done | rfl | (simp only [List.length_drop, List.length_take]; rfl)) ?_; (with_reducible refine (spokeshaveref2_at.calls a0 x7_2 t168 _ A44.out).mono ?_); rintro e w' ⟨rfl, ⟨nd, rfl⟩⟩; refine ⟨_, rfl, ?_⟩; (try (rw [drewN_self wr]; generalize hq_ : World.drewN wr _ = wr; have n0_ : Aside0 (wr.heap[gb159]? = some (.cells #[.int .i64 0, .int .i64 0, .string (⟨#[]⟩ : ByteArray), .string (⟨#[]⟩ : ByteArray), .int .u64 0, .bool false] 33 (0, 0))) := ⟨by rw [← hq_]; exact (by (with_reducible repeat (first | refine blk_drewN ?_ _ | refine blk_drew ?_ | refine blk_alloc ?_ _)); exact BK159.out)⟩; have n1_ : Aside0 (wr.heap[gb160]? = some (.cells #[.int .i64 3, .int .i64 a1, .string (⟨#[]⟩ : ByteArray), .string (⟨#[]⟩ : ByteArray), .int .u64 x161004_2, .bool false] 33 (0, 0))) := ⟨by rw [← hq_]; exact (by (with_reducible repeat (first | refine blk_drewN ?_ _ | refine blk_drew ?_ | refine blk_alloc ?_ _)); exact BK160.out)⟩; have n2_ : Aside0 (Below w.heap.size w wr) := ⟨by rw [← hq_]; exact (by repeat (first | (with_reducible first | exact HB.out | apply below_alloc | apply pw_below_drewN | apply below_drew1 | refine below_set ?_ GE159.out | refine below_set ?_ GE160.out) | exact HB.out))⟩; clear BK159 BK160 HB hq_; have BK159 := n0_; have BK160 := n1_; have HB := n2_; clear n0_ n1_ n2_))) | ((with_reducible refine gate_callee (f := 34) rfl ?_); refine goesL_ (some 64) rfl rfl Tryd.func34 (by kernel_rfl) rfl #[.int .u8 t168] rfl (by (try simp only [List.map_toArray, List.map_cons, List.map_nil]); first | done | rfl | (simp only [List.length_drop, List.length_take]; rfl)) ?_; (with_reducible refine (spokeshaveref2_digit.calls t168 true _ A45.out).mono ?_); rintro e w' ⟨rfl, ⟨nd, rfl⟩⟩; refine ⟨_, rfl, ?_⟩; (try (rw [drewN_self wr]; generalize hq_ : World.drewN wr _ = wr; have n0_ : Aside0 (wr.heap[gb159]? = some (.cells #[.int .i64 0, .int .i64 0, .string (⟨#[]⟩ : ByteArray), .string (⟨#[]⟩ : ByteArray), .int .u64 0, .bool false] 33 (0, 0))) := ⟨by rw [← hq_]; exact (by (with_reducible repeat (first | refine blk_drewN ?_ _ | refine blk_drew ?_ | refine blk_alloc ?_ _)); exact BK159.out)⟩; have n1_ : Aside0 (wr.heap[gb160]? = some (.cells #[.int .i64 3, .int .i64 a1, .string (⟨#[]⟩ : ByteArray), .string (⟨#[]⟩ : ByteArray), .int .u64 x161004_2, .bool false] 33 (0, 0))) := ⟨by rw [← hq_]; exact (by (with_reducible repeat (first | refine blk_drewN ?_ _ | refine blk_drew ?_ | refine blk_alloc ?_ _)); exact BK160.out)⟩; have n2_ : Aside0 (Below w.heap.size w wr) := ⟨by rw [← hq_]; exact (by repeat (first | (with_reducible first | exact HB.out | apply below_alloc | apply pw_below_drewN | apply below_drew1 | refine below_set ?_ GE159.out | refine below_set ?_ GE160.out) | exact HB.out))⟩; clear BK159 BK160 HB hq_; have BK159 := n0_; have BK160 := n1_; have HB := n2_; clear n0_ n1_ n2_)); have p49 : 0 ≤ (x7_2 : Int) := of_decide_eq_true (by first | (with_reducible assumption) | assumption); have q49 : x7_2 < (a0.size : Int) := of_decide_eq_true (by first | (with_reducible assumption) | assumption); have hx49 := bt_at a0 x7_2; replace p49 := eq_true p49; replace q49 := eq_true q49; have hnb53 := NB160_159.out; have hnc53 := NB159_160.out; have hcz54_0 : wr.cell? ⟨gb160, 0, none⟩ = some (.int .i64 3) := (blk_cell BK160.out 0).trans rfl; have hcz54_1 : wr.cell? ⟨gb160, 1, none⟩ = some (.int .i64 a1) := (blk_cell BK160.out 1).trans rfl; have hcz54_2 : wr.cell? ⟨gb160, 2, none⟩ = some (.string (⟨#[]⟩ : ByteArray)) := (blk_cell BK160.out 2).trans rfl; have hcz54_3 : wr.cell? ⟨gb160, 3, none⟩ = some (.string (⟨#[]⟩ : ByteArray)) := (blk_cell BK160.out 3).trans rfl; have hcz54_4 : wr.cell? ⟨gb160, 4, none⟩ = some (.int .u64 x161004_2) := (blk_cell BK160.out 4).trans rfl; have hcz54_5 : wr.cell? ⟨gb160, 5, none⟩ = some (.bool false) := (blk_cell BK160.out 5).trans rfl; have hfz54_0 := blk_frozen BK160.out 0; have hfz54_1 := blk_frozen BK160.out 1; have hfz54_2 := blk_frozen BK160.out 2; have hfz54_3 := blk_frozen BK160.out 3; have hfz54_4 := blk_frozen BK160.out 4; have hfz54_5 := blk_frozen BK160.out 5))
         go_roundg k2
         case measure => have := HJ2.out; have := HK2.out; omega
         case rel => exact ⟨(wrap64 (x7_2 + 1)), (decide (x161004_2 > ((18446744073709551615 - (((bt a0 x7_2) - 48) % 256)) / 10))), (IntKind.u64.wrap ((IntKind.u64.wrap (x161004_2 * 10)) + (((bt a0 x7_2) - 48) % 256))), (by first | rfl | (simp; done) | (simp [*]; done)), (by first | rfl | (simp; done) | (simp [*]; done)), H', ⟨by have := HJ2.out; have := HK2.out; omega⟩, ⟨by (with_reducible repeat (first | refine blk_drewN ?_ _ | refine blk_drew ?_ | refine blk_alloc ?_ _)); refine blk_far ?_ NB159_160.out _; (with_reducible repeat (first | refine blk_drewN ?_ _ | refine blk_drew ?_ | refine blk_alloc ?_ _)); exact BK159.out⟩, ⟨by (with_reducible repeat (first | refine blk_drewN ?_ _ | refine blk_drew ?_ | refine blk_alloc ?_ _)); refine blk_put (cs := #[.int .i64 3, .int .i64 a1, .string (⟨#[]⟩ : ByteArray), .string (⟨#[]⟩ : ByteArray), .int .u64 x161004_2, .bool false]) ?_ 4 _ rfl; (with_reducible repeat (first | refine blk_drewN ?_ _ | refine blk_drew ?_ | refine blk_alloc ?_ _)); exact BK160.out⟩, ⟨by repeat (first | (with_reducible first | exact HB.out | apply below_alloc | apply pw_below_drewN | apply below_drew1 | refine below_set ?_ GE159.out | refine below_set ?_ GE160.out) | exact HB.out)⟩⟩
       ·
        replace c46 := Bool.eq_false_iff.mpr c46
        subst c46
        have H1 : (if (bt a0 a1) = 48 then (if x7_2 > (wrap64 (a1 + 1)) then (some (3, a1, (⟨#[]⟩ : ByteArray), (⟨#[]⟩ : ByteArray), x161004_2, false, 3)) else (spokeshaveref2_number.j3 k2 a0 a1 x7_2 x8_2 3 a1 (⟨#[]⟩ : ByteArray) (⟨#[]⟩ : ByteArray) x161004_2 false)) else (spokeshaveref2_number.j3 k2 a0 a1 x7_2 x8_2 3 a1 (⟨#[]⟩ : ByteArray) (⟨#[]⟩ : ByteArray) x161004_2 false)) = some (r1, r2, r3, r4, r5, r6, r7) := by rw [if_neg (show ¬ (false = true) by decide)] at H; exact H
        clear H
        have H := H1
        clear H1
        by_cases c55 : (bt a0 a1) = 48
        ·
         rw [if_pos c55] at H
         have c55b0 : ((bt a0 a1) == 48) = true := beq_iff_eq.mpr c55
         have c55b1 : ((bt a0 a1) != 48) = false := bne_eq_false_iff_eq.mpr c55
         clear c55
         by_cases c56 : x7_2 > (wrap64 (a1 + 1))
         ·
          rw [if_pos c56] at H
          have c56b0 : decide ((wrap64 (a1 + 1)) < x7_2) = true := decide_eq_true c56
          clear c56
          simp only [Option.some.injEq, Prod.mk.injEq] at H
          obtain ⟨rfl, rfl, rfl, rfl, rfl, rfl, rfl⟩ := H
          go_wp2_with (first | ((with_reducible refine gate_callee (f := 32) rfl ?_); refine goesL_ (some 63) rfl rfl Tryd.func32 (by kernel_rfl) rfl #[.string a0, .int .i64 x7_2] rfl (by (try simp only [List.map_toArray, List.map_cons, List.map_nil]); first | done | rfl | (simp only [List.length_drop, List.length_take]; rfl)) ?_; (with_reducible refine (spokeshaveref2_at.calls a0 x7_2 t168 _ A44.out).mono ?_); rintro e w' ⟨rfl, ⟨nd, rfl⟩⟩; refine ⟨_, rfl, ?_⟩; (try (rw [drewN_self wr]; generalize hq_ : World.drewN wr _ = wr; have n0_ : Aside0 (wr.heap[gb159]? = some (.cells #[.int .i64 0, .int .i64 0, .string (⟨#[]⟩ : ByteArray), .string (⟨#[]⟩ : ByteArray), .int .u64 0, .bool false] 33 (0, 0))) := ⟨by rw [← hq_]; exact (by (with_reducible repeat (first | refine blk_drewN ?_ _ | refine blk_drew ?_ | refine blk_alloc ?_ _)); exact BK159.out)⟩; have n1_ : Aside0 (wr.heap[gb160]? = some (.cells #[.int .i64 3, .int .i64 a1, .string (⟨#[]⟩ : ByteArray), .string (⟨#[]⟩ : ByteArray), .int .u64 x161004_2, .bool false] 33 (0, 0))) := ⟨by rw [← hq_]; exact (by (with_reducible repeat (first | refine blk_drewN ?_ _ | refine blk_drew ?_ | refine blk_alloc ?_ _)); exact BK160.out)⟩; have n2_ : Aside0 (Below w.heap.size w wr) := ⟨by rw [← hq_]; exact (by repeat (first | (with_reducible first | exact HB.out | apply below_alloc | apply pw_below_drewN | apply below_drew1 | refine below_set ?_ GE159.out | refine below_set ?_ GE160.out) | exact HB.out))⟩; clear BK159 BK160 HB hq_; have BK159 := n0_; have BK160 := n1_; have HB := n2_; clear n0_ n1_ n2_))) | ((with_reducible refine gate_callee (f := 34) rfl ?_); refine goesL_ (some 64) rfl rfl Tryd.func34 (by kernel_rfl) rfl #[.int .u8 t168] rfl (by (try simp only [List.map_toArray, List.map_cons, List.map_nil]); first | done | rfl | (simp only [List.length_drop, List.length_take]; rfl)) ?_; (with_reducible refine (spokeshaveref2_digit.calls t168 false _ A45.out).mono ?_); rintro e w' ⟨rfl, ⟨nd, rfl⟩⟩; refine ⟨_, rfl, ?_⟩; (try (rw [drewN_self wr]; generalize hq_ : World.drewN wr _ = wr; have n0_ : Aside0 (wr.heap[gb159]? = some (.cells #[.int .i64 0, .int .i64 0, .string (⟨#[]⟩ : ByteArray), .string (⟨#[]⟩ : ByteArray), .int .u64 0, .bool false] 33 (0, 0))) := ⟨by rw [← hq_]; exact (by (with_reducible repeat (first | refine blk_drewN ?_ _ | refine blk_drew ?_ | refine blk_alloc ?_ _)); exact BK159.out)⟩; have n1_ : Aside0 (wr.heap[gb160]? = some (.cells #[.int .i64 3, .int .i64 a1, .string (⟨#[]⟩ : ByteArray), .string (⟨#[]⟩ : ByteArray), .int .u64 x161004_2, .bool false] 33 (0, 0))) := ⟨by rw [← hq_]; exact (by (with_reducible repeat (first | refine blk_drewN ?_ _ | refine blk_drew ?_ | refine blk_alloc ?_ _)); exact BK160.out)⟩; have n2_ : Aside0 (Below w.heap.size w wr) := ⟨by rw [← hq_]; exact (by repeat (first | (with_reducible first | exact HB.out | apply below_alloc | apply pw_below_drewN | apply below_drew1 | refine below_set ?_ GE159.out | refine below_set ?_ GE160.out) | exact HB.out))⟩; clear BK159 BK160 HB hq_; have BK159 := n0_; have BK160 := n1_; have HB := n2_; clear n0_ n1_ n2_)); have hnb57 := NB160_159.out; have hnc57 := NB159_160.out; have hcz58_0 : wr.cell? ⟨gb160, 0, none⟩ = some (.int .i64 3) := (blk_cell BK160.out 0).trans rfl; have hcz58_1 : wr.cell? ⟨gb160, 1, none⟩ = some (.int .i64 a1) := (blk_cell BK160.out 1).trans rfl; have hcz58_2 : wr.cell? ⟨gb160, 2, none⟩ = some (.string (⟨#[]⟩ : ByteArray)) := (blk_cell BK160.out 2).trans rfl; have hcz58_3 : wr.cell? ⟨gb160, 3, none⟩ = some (.string (⟨#[]⟩ : ByteArray)) := (blk_cell BK160.out 3).trans rfl; have hcz58_4 : wr.cell? ⟨gb160, 4, none⟩ = some (.int .u64 x161004_2) := (blk_cell BK160.out 4).trans rfl; have hcz58_5 : wr.cell? ⟨gb160, 5, none⟩ = some (.bool false) := (blk_cell BK160.out 5).trans rfl; have hfz58_0 := blk_frozen BK160.out 0; have hfz58_1 := blk_frozen BK160.out 1; have hfz58_2 := blk_frozen BK160.out 2; have hfz58_3 := blk_frozen BK160.out 3; have hfz58_4 := blk_frozen BK160.out 4; have hfz58_5 := blk_frozen BK160.out 5; have hcz59_0 : wr.cell? ⟨gb159, 0, none⟩ = some (.int .i64 0) := (blk_cell BK159.out 0).trans rfl; have hcz59_1 : wr.cell? ⟨gb159, 1, none⟩ = some (.int .i64 0) := (blk_cell BK159.out 1).trans rfl; have hcz59_2 : wr.cell? ⟨gb159, 2, none⟩ = some (.string (⟨#[]⟩ : ByteArray)) := (blk_cell BK159.out 2).trans rfl; have hcz59_3 : wr.cell? ⟨gb159, 3, none⟩ = some (.string (⟨#[]⟩ : ByteArray)) := (blk_cell BK159.out 3).trans rfl; have hcz59_4 : wr.cell? ⟨gb159, 4, none⟩ = some (.int .u64 0) := (blk_cell BK159.out 4).trans rfl; have hcz59_5 : wr.cell? ⟨gb159, 5, none⟩ = some (.bool false) := (blk_cell BK159.out 5).trans rfl; have hfz59_0 := blk_frozen BK159.out 0; have hfz59_1 := blk_frozen BK159.out 1; have hfz59_2 := blk_frozen BK159.out 2; have hfz59_3 := blk_frozen BK159.out 3; have hfz59_4 := blk_frozen BK159.out 4; have hfz59_5 := blk_frozen BK159.out 5))
          refine bodyPost_ret (results_ct rfl _ _ gb159 33 #[.int .i64 3, .int .i64 a1, .string (⟨#[]⟩ : ByteArray), .string (⟨#[]⟩ : ByteArray), .int .u64 x161004_2, .bool false] (0, 0) _ rfl (by (with_reducible repeat (first | refine blk_drewN ?_ _ | refine blk_drew ?_ | refine blk_alloc ?_ _)); refine blk_put (cs := #[.int .i64 3, .int .i64 a1, .string (⟨#[]⟩ : ByteArray), .string (⟨#[]⟩ : ByteArray), .int .u64 x161004_2, .bool false]) ?_ 5 _ rfl; (with_reducible repeat (first | refine blk_drewN ?_ _ | refine blk_drew ?_ | refine blk_alloc ?_ _)); refine blk_put (cs := #[.int .i64 3, .int .i64 a1, .string (⟨#[]⟩ : ByteArray), .string (⟨#[]⟩ : ByteArray), .int .u64 0, .bool false]) ?_ 4 _ rfl; (with_reducible repeat (first | refine blk_drewN ?_ _ | refine blk_drew ?_ | refine blk_alloc ?_ _)); refine blk_put (cs := #[.int .i64 3, .int .i64 a1, .string (⟨#[]⟩ : ByteArray), .string (⟨#[]⟩ : ByteArray), .int .u64 0, .bool false]) ?_ 3 _ rfl; (with_reducible repeat (first | refine blk_drewN ?_ _ | refine blk_drew ?_ | refine blk_alloc ?_ _)); refine blk_put (cs := #[.int .i64 3, .int .i64 a1, .string (⟨#[]⟩ : ByteArray), .string (⟨#[]⟩ : ByteArray), .int .u64 0, .bool false]) ?_ 2 _ rfl; (with_reducible repeat (first | refine blk_drewN ?_ _ | refine blk_drew ?_ | refine blk_alloc ?_ _)); refine blk_put (cs := #[.int .i64 3, .int .i64 0, .string (⟨#[]⟩ : ByteArray), .string (⟨#[]⟩ : ByteArray), .int .u64 0, .bool false]) ?_ 1 _ rfl; (with_reducible repeat (first | refine blk_drewN ?_ _ | refine blk_drew ?_ | refine blk_alloc ?_ _)); refine blk_put (cs := #[.int .i64 0, .int .i64 0, .string (⟨#[]⟩ : ByteArray), .string (⟨#[]⟩ : ByteArray), .int .u64 0, .bool false]) ?_ 0 _ rfl; (with_reducible repeat (first | refine blk_drewN ?_ _ | refine blk_drew ?_ | refine blk_alloc ?_ _)); exact BK159.out) Tryd.underlying33 rfl (by kernel_rfl)) rfl ?_
          exact ⟨by first | rfl | (simp [errW_none, errW_some] <;> rfl) | (simp [*, errW_none, errW_some] <;> rfl), by repeat (first | (with_reducible first | exact HB.out | apply below_alloc | apply pw_below_drewN | apply below_drew1 | refine below_set ?_ GE159.out | refine below_set ?_ GE160.out) | exact HB.out)⟩
         ·
          rw [if_neg c56] at H
          have c56b0 : decide ((wrap64 (a1 + 1)) < x7_2) = false := decide_eq_false c56
          clear c56
          have H' := Aside0.mk H
          clear H
          go_wp2_with (first | ((with_reducible refine gate_callee (f := 32) rfl ?_); refine goesL_ (some 63) rfl rfl Tryd.func32 (by kernel_rfl) rfl #[.string a0, .int .i64 x7_2] rfl (by (try simp only [List.map_toArray, List.map_cons, List.map_nil]); first | done | rfl | (simp only [List.length_drop, List.length_take]; rfl)) ?_; (with_reducible refine (spokeshaveref2_at.calls a0 x7_2 t168 _ A44.out).mono ?_); rintro e w' ⟨rfl, ⟨nd, rfl⟩⟩; refine ⟨_, rfl, ?_⟩) | ((with_reducible refine gate_callee (f := 34) rfl ?_); refine goesL_ (some 64) rfl rfl Tryd.func34 (by kernel_rfl) rfl #[.int .u8 t168] rfl (by (try simp only [List.map_toArray, List.map_cons, List.map_nil]); first | done | rfl | (simp only [List.length_drop, List.length_take]; rfl)) ?_; (with_reducible refine (spokeshaveref2_digit.calls t168 false _ A45.out).mono ?_); rintro e w' ⟨rfl, ⟨nd, rfl⟩⟩; refine ⟨_, rfl, ?_⟩))
          go_meet
          case rel => exact ⟨_, (x7_2), (x8_2), (0), (0), ((⟨#[]⟩ : ByteArray)), ((⟨#[]⟩ : ByteArray)), (0), (false), (x161004_2), (false), (by first | rfl | (simp; done) | (simp [*]; done)), (by first | rfl | (simp; done) | (simp [*]; done)), H', ⟨by have := HJ2.out; have := HK2.out; first | omega | exact Nat.le_refl _⟩, ⟨by (with_reducible repeat (first | refine blk_drewN ?_ _ | refine blk_drew ?_ | refine blk_alloc ?_ _)); exact BK159.out⟩, ⟨by (with_reducible repeat (first | refine blk_drewN ?_ _ | refine blk_drew ?_ | refine blk_alloc ?_ _)); exact BK160.out⟩, ⟨by repeat (first | (with_reducible first | exact HB.out | apply below_alloc | apply pw_below_drewN | apply below_drew1 | refine below_set ?_ GE159.out | refine below_set ?_ GE160.out) | exact HB.out)⟩⟩
        ·
         rw [if_neg c55] at H
         have c55b0 : ((bt a0 a1) == 48) = false := beq_eq_false_iff_ne.mpr c55
         have c55b1 : ((bt a0 a1) != 48) = true := bne_iff_ne.mpr c55
         have H' := Aside0.mk H
         clear H
         go_wp2_with (first | ((with_reducible refine gate_callee (f := 32) rfl ?_); refine goesL_ (some 63) rfl rfl Tryd.func32 (by kernel_rfl) rfl #[.string a0, .int .i64 x7_2] rfl (by (try simp only [List.map_toArray, List.map_cons, List.map_nil]); first | done | rfl | (simp only [List.length_drop, List.length_take]; rfl)) ?_; (with_reducible refine (spokeshaveref2_at.calls a0 x7_2 t168 _ A44.out).mono ?_); rintro e w' ⟨rfl, ⟨nd, rfl⟩⟩; refine ⟨_, rfl, ?_⟩) | ((with_reducible refine gate_callee (f := 34) rfl ?_); refine goesL_ (some 64) rfl rfl Tryd.func34 (by kernel_rfl) rfl #[.int .u8 t168] rfl (by (try simp only [List.map_toArray, List.map_cons, List.map_nil]); first | done | rfl | (simp only [List.length_drop, List.length_take]; rfl)) ?_; (with_reducible refine (spokeshaveref2_digit.calls t168 false _ A45.out).mono ?_); rintro e w' ⟨rfl, ⟨nd, rfl⟩⟩; refine ⟨_, rfl, ?_⟩))
         go_meet
         case rel => exact ⟨_, (x7_2), (x8_2), (0), (0), ((⟨#[]⟩ : ByteArray)), ((⟨#[]⟩ : ByteArray)), (0), (false), (x161004_2), (false), (by first | rfl | (simp; done) | (simp [*]; done)), (by first | rfl | (simp; done) | (simp [*]; done)), H', ⟨by have := HJ2.out; have := HK2.out; first | omega | exact Nat.le_refl _⟩, ⟨by (with_reducible repeat (first | refine blk_drewN ?_ _ | refine blk_drew ?_ | refine blk_alloc ?_ _)); exact BK159.out⟩, ⟨by (with_reducible repeat (first | refine blk_drewN ?_ _ | refine blk_drew ?_ | refine blk_alloc ?_ _)); exact BK160.out⟩, ⟨by repeat (first | (with_reducible first | exact HB.out | apply below_alloc | apply pw_below_drewN | apply below_drew1 | refine below_set ?_ GE159.out | refine below_set ?_ GE160.out) | exact HB.out)⟩⟩
   case rest =>
    clear HC13
    try clear c1
    try clear p1
    try clear q1
    try clear hx1
    try clear c2
    try clear p2
    try clear q2
    try clear hx2
    try clear c3
    try clear p3
    try clear q3
    try clear hx3
    try clear c4
    try clear p4
    try clear q4
    try clear hx4
    try clear c5
    try clear c6
    try clear p6
    try clear c8
    try clear c8b0
    try clear c9
    try clear c9b0
    try clear p10
    try clear q10
    try clear hx10
    try clear c11
    try clear c11b0
    try clear c11b1
    try clear c14
    try clear c17
    try clear c17b0
    try clear c18
    try clear c21
    try clear c25
    try clear c25b0
    try clear c26
    try clear c27
    try clear c27b0
    try clear c28
    try clear c28b0
    try clear p29
    try clear q29
    try clear hx29
    try clear c32
    try clear c33
    try clear c33b0
    try clear c34
    try clear c34b0
    try clear c35
    try clear p35
    try clear q35
    try clear hx35
    try clear c37
    try clear c41
    try clear c41b0
    try clear c42
    try clear c42b0
    try clear p43
    try clear q43
    try clear hx43
    try clear c46
    try clear c47
    try clear c47b0
    try clear c48
    try clear c48b0
    try clear p49
    try clear q49
    try clear hx49
    try clear c50
    try clear c51
    try clear c53
    try clear c55
    try clear c55b0
    try clear c55b1
    try clear c56
    try clear c56b0
    try clear c57
    try clear hcz19_0
    try clear hcz19_1
    try clear hcz19_2
    try clear hcz19_3
    try clear hcz19_4
    try clear hcz19_5
    try clear hcz20_0
    try clear hcz20_1
    try clear hcz20_2
    try clear hcz20_3
    try clear hcz20_4
    try clear hcz20_5
    try clear hcz22_0
    try clear hcz22_1
    try clear hcz22_2
    try clear hcz22_3
    try clear hcz22_4
    try clear hcz22_5
    try clear hcz38_0
    try clear hcz38_1
    try clear hcz38_2
    try clear hcz38_3
    try clear hcz38_4
    try clear hcz38_5
    try clear hcz52_0
    try clear hcz52_1
    try clear hcz52_2
    try clear hcz52_3
    try clear hcz52_4
    try clear hcz52_5
    try clear hcz54_0
    try clear hcz54_1
    try clear hcz54_2
    try clear hcz54_3
    try clear hcz54_4
    try clear hcz54_5
    try clear hcz58_0
    try clear hcz58_1
    try clear hcz58_2
    try clear hcz58_3
    try clear hcz58_4
    try clear hcz58_5
    try clear hcz59_0
    try clear hcz59_1
    try clear hcz59_2
    try clear hcz59_3
    try clear hcz59_4
    try clear hcz59_5
    try clear hcz7_0
    try clear hcz7_1
    try clear hcz7_2
    try clear hcz7_3
    try clear hcz7_4
    try clear hcz7_5
    try clear hfz19_0
    try clear hfz19_1
    try clear hfz19_2
    try clear hfz19_3
    try clear hfz19_4
    try clear hfz19_5
    try clear hfz20_0
    try clear hfz20_1
    try clear hfz20_2
    try clear hfz20_3
    try clear hfz20_4
    try clear hfz20_5
    try clear hfz22_0
    try clear hfz22_1
    try clear hfz22_2
    try clear hfz22_3
    try clear hfz22_4
    try clear hfz22_5
    try clear hfz38_0
    try clear hfz38_1
    try clear hfz38_2
    try clear hfz38_3
    try clear hfz38_4
    try clear hfz38_5
    try clear hfz52_0
    try clear hfz52_1
    try clear hfz52_2
    try clear hfz52_3
    try clear hfz52_4
    try clear hfz52_5
    try clear hfz54_0
    try clear hfz54_1
    try clear hfz54_2
    try clear hfz54_3
    try clear hfz54_4
    try clear hfz54_5
    try clear hfz58_0
    try clear hfz58_1
    try clear hfz58_2
    try clear hfz58_3
    try clear hfz58_4
    try clear hfz58_5
    try clear hfz59_0
    try clear hfz59_1
    try clear hfz59_2
    try clear hfz59_3
    try clear hfz59_4
    try clear hfz59_5
    try clear hfz7_0
    try clear hfz7_1
    try clear hfz7_2
    try clear hfz7_3
    try clear hfz7_4
    try clear hfz7_5
    try clear p1
    try clear p10
    try clear p2
    try clear p29
    try clear p3
    try clear p35
    try clear p4
    try clear p43
    try clear p49
    try clear p6
    try clear q1
    try clear q10
    try clear q2
    try clear q29
    try clear q3
    try clear q35
    try clear q4
    try clear q43
    try clear q49
    obtain ⟨kq, x7_12, x8_12, x160000_12, x160001_12, x160002_12, x160003_12, x160004_12, x160005_12, x161004_12, x161005_12, rfl, rfl, HA, HJ12, BK159, BK160, HB⟩ := hcut
    cases kq with
    | zero => exact absurd HA.out (by simp [spokeshaveref2_number.j3])
    | succ kj12 =>
     have H := HA.out
     clear HA
     simp only [spokeshaveref2_number.j3] at H
     replace H := Option.bind_eq_some_iff.mp H
     obtain ⟨t170, A600, H⟩ := H
     replace H : (if t170 = 117 then (spokeshaveref2_number.j4 kj12 a0 a1 (wrap64 (x7_12 + 1)) x8_12 x7_12 3 a1 (⟨#[]⟩ : ByteArray) (⟨#[]⟩ : ByteArray) x161004_12 x161005_12) else (spokeshaveref2_number.j4 kj12 a0 a1 x7_12 x8_12 x7_12 3 a1 (⟨#[]⟩ : ByteArray) (⟨#[]⟩ : ByteArray) x161004_12 x161005_12)) = some (r1, r2, r3, r4, r5, r6, r7) := H
     have A60 := Aside0.mk A600
     clear A600
     have HC61 := Aside0.mk H
     clear H
     go_upto_if 100 with (first | ((with_reducible refine gate_callee (f := 32) rfl ?_); refine goesL_ (some 99) rfl rfl Tryd.func32 (by kernel_rfl) rfl #[.string a0, .int .i64 x7_12] rfl (by (try simp only [List.map_toArray, List.map_cons, List.map_nil]); first | done | rfl | (simp only [List.length_drop, List.length_take]; rfl)) ?_; (with_reducible refine (spokeshaveref2_at.calls a0 x7_12 t170 _ A60.out).mono ?_); rintro e w' ⟨rfl, ⟨nd, rfl⟩⟩; refine ⟨_, rfl, ?_⟩))
     (try simp only [Act.put, List.setIfInBounds_toArray, List.set_cons_zero, List.set_cons_succ])
     go_cut [7] (fun v7 wc => ∃ (kq : Nat) (x7_60 : Int), v7 = .int .i64 x7_60 ∧ Aside0 (spokeshaveref2_number.j4 kq a0 a1 x7_60 x8_12 x7_12 3 a1 (⟨#[]⟩ : ByteArray) (⟨#[]⟩ : ByteArray) x161004_12 x161005_12 = some (r1, r2, r3, r4, r5, r6, r7)) ∧ Aside0 (kq ≤ kj12) ∧ Aside0 (wc.heap[gb159]? = some (.cells #[.int .i64 x160000_12, .int .i64 x160001_12, .string x160002_12, .string x160003_12, .int .u64 x160004_12, .bool x160005_12] 33 (0, 0))) ∧ Aside0 (wc.heap[gb160]? = some (.cells #[.int .i64 3, .int .i64 a1, .string (⟨#[]⟩ : ByteArray), .string (⟨#[]⟩ : ByteArray), .int .u64 x161004_12, .bool x161005_12] 33 (0, 0))) ∧ Aside0 (Below w.heap.size w wc))
     case first =>
      have H := HC61.out
      clear HC61
      by_cases c62 : t170 = 117
      ·
       rw [if_pos c62] at H
       have c62b0 : (t170 == 117) = true := beq_iff_eq.mpr c62
       have c62b1 : (t170 != 117) = false := bne_eq_false_iff_eq.mpr c62
       clear c62
       (first | rw [c62b0] | (simp only [i64_w, i32_w]; rw [c62b0]) | skip)
       have H' := Aside0.mk H
       clear H
       go_wp2
       go_meet
       case rel => exact ⟨_, (wrap64 (x7_12 + 1)), (by first | rfl | (simp; done) | (simp [*]; done)), H', ⟨by have := HJ2.out; have := HJ12.out; first | omega | exact Nat.le_refl _⟩, ⟨by (with_reducible repeat (first | refine blk_drewN ?_ _ | refine blk_drew ?_ | refine blk_alloc ?_ _)); exact BK159.out⟩, ⟨by (with_reducible repeat (first | refine blk_drewN ?_ _ | refine blk_drew ?_ | refine blk_alloc ?_ _)); exact BK160.out⟩, ⟨by repeat (first | (with_reducible first | exact HB.out | apply below_alloc | apply pw_below_drewN | apply below_drew1 | refine below_set ?_ GE159.out | refine below_set ?_ GE160.out) | exact HB.out)⟩⟩
      ·
       rw [if_neg c62] at H
       have c62b0 : (t170 == 117) = false := beq_eq_false_iff_ne.mpr c62
       have c62b1 : (t170 != 117) = true := bne_iff_ne.mpr c62
       (first | rw [c62b0] | (simp only [i64_w, i32_w]; rw [c62b0]) | skip)
       have H' := Aside0.mk H
       clear H
       go_wp2
       go_meet
       case rel => exact ⟨_, (x7_12), (by first | rfl | (simp; done) | (simp [*]; done)), H', ⟨by have := HJ2.out; have := HJ12.out; first | omega | exact Nat.le_refl _⟩, ⟨by (with_reducible repeat (first | refine blk_drewN ?_ _ | refine blk_drew ?_ | refine blk_alloc ?_ _)); exact BK159.out⟩, ⟨by (with_reducible repeat (first | refine blk_drewN ?_ _ | refine blk_drew ?_ | refine blk_alloc ?_ _)); exact BK160.out⟩, ⟨by repeat (first | (with_reducible first | exact HB.out | apply below_alloc | apply pw_below_drewN | apply below_drew1 | refine below_set ?_ GE159.out | refine below_set ?_ GE160.out) | exact HB.out)⟩⟩
     case rest =>
      clear HC61
      try clear c1
      try clear p1
      try clear q1
      try clear hx1
      try clear c2
      try clear p2
      try clear q2
      try clear hx2
      try clear c3
      try clear p3
      try clear q3
      try clear hx3
      try clear c4
      try clear p4
      try clear q4
      try clear hx4
      try clear c5
      try clear c6
      try clear p6
      try clear c8
      try clear c8b0
      try clear c9
      try clear c9b0
      try clear p10
      try clear q10
      try clear hx10
      try clear c11
      try clear c11b0
      try clear c11b1
      try clear c14
      try clear c17
      try clear c17b0
      try clear c18
      try clear c21
      try clear c25
      try clear c25b0
      try clear c26
      try clear c27
      try clear c27b0
      try clear c28
      try clear c28b0
      try clear p29
      try clear q29
      try clear hx29
      try clear c32
      try clear c33
      try clear c33b0
      try clear c34
      try clear c34b0
      try clear c35
      try clear p35
      try clear q35
      try clear hx35
      try clear c37
      try clear c41
      try clear c41b0
      try clear c42
      try clear c42b0
      try clear p43
      try clear q43
      try clear hx43
      try clear c46
      try clear c47
      try clear c47b0
      try clear c48
      try clear c48b0
      try clear p49
      try clear q49
      try clear hx49
      try clear c50
      try clear c51
      try clear c53
      try clear c55
      try clear c55b0
      try clear c55b1
      try clear c56
      try clear c56b0
      try clear c57
      try clear c62
      try clear c62b0
      try clear c62b1
      try clear hcz19_0
      try clear hcz19_1
      try clear hcz19_2
      try clear hcz19_3
      try clear hcz19_4
      try clear hcz19_5
      try clear hcz20_0
      try clear hcz20_1
      try clear hcz20_2
      try clear hcz20_3
      try clear hcz20_4
      try clear hcz20_5
      try clear hcz22_0
      try clear hcz22_1
      try clear hcz22_2
      try clear hcz22_3
      try clear hcz22_4
      try clear hcz22_5
      try clear hcz38_0
      try clear hcz38_1
      try clear hcz38_2
      try clear hcz38_3
      try clear hcz38_4
      try clear hcz38_5
      try clear hcz52_0
      try clear hcz52_1
      try clear hcz52_2
      try clear hcz52_3
      try clear hcz52_4
      try clear hcz52_5
      try clear hcz54_0
      try clear hcz54_1
      try clear hcz54_2
      try clear hcz54_3
      try clear hcz54_4
      try clear hcz54_5
      try clear hcz58_0
      try clear hcz58_1
      try clear hcz58_2
      try clear hcz58_3
      try clear hcz58_4
      try clear hcz58_5
      try clear hcz59_0
      try clear hcz59_1
      try clear hcz59_2
      try clear hcz59_3
      try clear hcz59_4
      try clear hcz59_5
      try clear hcz7_0
      try clear hcz7_1
      try clear hcz7_2
      try clear hcz7_3
      try clear hcz7_4
      try clear hcz7_5
      try clear hfz19_0
      try clear hfz19_1
      try clear hfz19_2
      try clear hfz19_3
      try clear hfz19_4
      try clear hfz19_5
      try clear hfz20_0
      try clear hfz20_1
      try clear hfz20_2
      try clear hfz20_3
      try clear hfz20_4
      try clear hfz20_5
      try clear hfz22_0
      try clear hfz22_1
      try clear hfz22_2
      try clear hfz22_3
      try clear hfz22_4
      try clear hfz22_5
      try clear hfz38_0
      try clear hfz38_1
      try clear hfz38_2
      try clear hfz38_3
      try clear hfz38_4
      try clear hfz38_5
      try clear hfz52_0
      try clear hfz52_1
      try clear hfz52_2
      try clear hfz52_3
      try clear hfz52_4
      try clear hfz52_5
      try clear hfz54_0
      try clear hfz54_1
      try clear hfz54_2
      try clear hfz54_3
      try clear hfz54_4
      try clear hfz54_5
      try clear hfz58_0
      try clear hfz58_1
      try clear hfz58_2
      try clear hfz58_3
      try clear hfz58_4
      try clear hfz58_5
      try clear hfz59_0
      try clear hfz59_1
      try clear hfz59_2
      try clear hfz59_3
      try clear hfz59_4
      try clear hfz59_5
      try clear hfz7_0
      try clear hfz7_1
      try clear hfz7_2
      try clear hfz7_3
      try clear hfz7_4
      try clear hfz7_5
      try clear p1
      try clear p10
      try clear p2
      try clear p29
      try clear p3
      try clear p35
      try clear p4
      try clear p43
      try clear p49
      try clear p6
      try clear q1
      try clear q10
      try clear q2
      try clear q29
      try clear q3
      try clear q35
      try clear q4
      try clear q43
      try clear q49
      obtain ⟨kq, x7_60, rfl, HA, HJ60, BK159, BK160, HB⟩ := hcut
      cases kq with
      | zero => exact absurd HA.out (by simp [spokeshaveref2_number.j4])
      | succ kj60 =>
       have H := HA.out
       clear HA
       simp only [spokeshaveref2_number.j4] at H
       replace H := Option.bind_eq_some_iff.mp H
       obtain ⟨t171, A630, H⟩ := H
       replace H : (if t171 = 108 then (spokeshaveref2_number.j5 kj60 a0 a1 (wrap64 (x7_60 + 1)) x8_12 x7_12 3 a1 (⟨#[]⟩ : ByteArray) (⟨#[]⟩ : ByteArray) x161004_12 x161005_12) else (spokeshaveref2_number.j5 kj60 a0 a1 x7_60 x8_12 x7_12 3 a1 (⟨#[]⟩ : ByteArray) (⟨#[]⟩ : ByteArray) x161004_12 x161005_12)) = some (r1, r2, r3, r4, r5, r6, r7) := H
       have A63 := Aside0.mk A630
       clear A630
       have HC64 := Aside0.mk H
       clear H
       go_upto_if 106 with (first | ((with_reducible refine gate_callee (f := 32) rfl ?_); refine goesL_ (some 105) rfl rfl Tryd.func32 (by kernel_rfl) rfl #[.string a0, .int .i64 x7_60] rfl (by (try simp only [List.map_toArray, List.map_cons, List.map_nil]); first | done | rfl | (simp only [List.length_drop, List.length_take]; rfl)) ?_; (with_reducible refine (spokeshaveref2_at.calls a0 x7_60 t171 _ A63.out).mono ?_); rintro e w' ⟨rfl, ⟨nd, rfl⟩⟩; refine ⟨_, rfl, ?_⟩))
       (try simp only [Act.put, List.setIfInBounds_toArray, List.set_cons_zero, List.set_cons_succ])
       go_cut [7] (fun v7 wc => ∃ (kq : Nat) (x7_63 : Int), v7 = .int .i64 x7_63 ∧ Aside0 (spokeshaveref2_number.j5 kq a0 a1 x7_63 x8_12 x7_12 3 a1 (⟨#[]⟩ : ByteArray) (⟨#[]⟩ : ByteArray) x161004_12 x161005_12 = some (r1, r2, r3, r4, r5, r6, r7)) ∧ Aside0 (kq ≤ kj60) ∧ Aside0 (wc.heap[gb159]? = some (.cells #[.int .i64 x160000_12, .int .i64 x160001_12, .string x160002_12, .string x160003_12, .int .u64 x160004_12, .bool x160005_12] 33 (0, 0))) ∧ Aside0 (wc.heap[gb160]? = some (.cells #[.int .i64 3, .int .i64 a1, .string (⟨#[]⟩ : ByteArray), .string (⟨#[]⟩ : ByteArray), .int .u64 x161004_12, .bool x161005_12] 33 (0, 0))) ∧ Aside0 (Below w.heap.size w wc))
       case first =>
        have H := HC64.out
        clear HC64
        by_cases c65 : t171 = 108
        ·
         rw [if_pos c65] at H
         have c65b0 : (t171 == 108) = true := beq_iff_eq.mpr c65
         have c65b1 : (t171 != 108) = false := bne_eq_false_iff_eq.mpr c65
         clear c65
         (first | rw [c65b0] | (simp only [i64_w, i32_w]; rw [c65b0]) | skip)
         have H' := Aside0.mk H
         clear H
         go_wp2
         go_meet
         case rel => exact ⟨_, (wrap64 (x7_60 + 1)), (by first | rfl | (simp; done) | (simp [*]; done)), H', ⟨by have := HJ2.out; have := HJ12.out; have := HJ60.out; first | omega | exact Nat.le_refl _⟩, ⟨by (with_reducible repeat (first | refine blk_drewN ?_ _ | refine blk_drew ?_ | refine blk_alloc ?_ _)); exact BK159.out⟩, ⟨by (with_reducible repeat (first | refine blk_drewN ?_ _ | refine blk_drew ?_ | refine blk_alloc ?_ _)); exact BK160.out⟩, ⟨by repeat (first | (with_reducible first | exact HB.out | apply below_alloc | apply pw_below_drewN | apply below_drew1 | refine below_set ?_ GE159.out | refine below_set ?_ GE160.out) | exact HB.out)⟩⟩
        ·
         rw [if_neg c65] at H
         have c65b0 : (t171 == 108) = false := beq_eq_false_iff_ne.mpr c65
         have c65b1 : (t171 != 108) = true := bne_iff_ne.mpr c65
         (first | rw [c65b0] | (simp only [i64_w, i32_w]; rw [c65b0]) | skip)
         have H' := Aside0.mk H
         clear H
         go_wp2
         go_meet
         case rel => exact ⟨_, (x7_60), (by first | rfl | (simp; done) | (simp [*]; done)), H', ⟨by have := HJ2.out; have := HJ12.out; have := HJ60.out; first | omega | exact Nat.le_refl _⟩, ⟨by (with_reducible repeat (first | refine blk_drewN ?_ _ | refine blk_drew ?_ | refine blk_alloc ?_ _)); exact BK159.out⟩, ⟨by (with_reducible repeat (first | refine blk_drewN ?_ _ | refine blk_drew ?_ | refine blk_alloc ?_ _)); exact BK160.out⟩, ⟨by repeat (first | (with_reducible first | exact HB.out | apply below_alloc | apply pw_below_drewN | apply below_drew1 | refine below_set ?_ GE159.out | refine below_set ?_ GE160.out) | exact HB.out)⟩⟩
       case rest =>
        clear HC64
        try clear c1
        try clear p1
        try clear q1
        try clear hx1
        try clear c2
        try clear p2
        try clear q2
        try clear hx2
        try clear c3
        try clear p3
        try clear q3
        try clear hx3
        try clear c4
        try clear p4
        try clear q4
        try clear hx4
        try clear c5
        try clear c6
        try clear p6
        try clear c8
        try clear c8b0
        try clear c9
        try clear c9b0
        try clear p10
        try clear q10
        try clear hx10
        try clear c11
        try clear c11b0
        try clear c11b1
        try clear c14
        try clear c17
        try clear c17b0
        try clear c18
        try clear c21
        try clear c25
        try clear c25b0
        try clear c26
        try clear c27
        try clear c27b0
        try clear c28
        try clear c28b0
        try clear p29
        try clear q29
        try clear hx29
        try clear c32
        try clear c33
        try clear c33b0
        try clear c34
        try clear c34b0
        try clear c35
        try clear p35
        try clear q35
        try clear hx35
        try clear c37
        try clear c41
        try clear c41b0
        try clear c42
        try clear c42b0
        try clear p43
        try clear q43
        try clear hx43
        try clear c46
        try clear c47
        try clear c47b0
        try clear c48
        try clear c48b0
        try clear p49
        try clear q49
        try clear hx49
        try clear c50
        try clear c51
        try clear c53
        try clear c55
        try clear c55b0
        try clear c55b1
        try clear c56
        try clear c56b0
        try clear c57
        try clear c62
        try clear c62b0
        try clear c62b1
        try clear p64
        try clear c65
        try clear c65b0
        try clear c65b1
        try clear hcz19_0
        try clear hcz19_1
        try clear hcz19_2
        try clear hcz19_3
        try clear hcz19_4
        try clear hcz19_5
        try clear hcz20_0
        try clear hcz20_1
        try clear hcz20_2
        try clear hcz20_3
        try clear hcz20_4
        try clear hcz20_5
        try clear hcz22_0
        try clear hcz22_1
        try clear hcz22_2
        try clear hcz22_3
        try clear hcz22_4
        try clear hcz22_5
        try clear hcz38_0
        try clear hcz38_1
        try clear hcz38_2
        try clear hcz38_3
        try clear hcz38_4
        try clear hcz38_5
        try clear hcz52_0
        try clear hcz52_1
        try clear hcz52_2
        try clear hcz52_3
        try clear hcz52_4
        try clear hcz52_5
        try clear hcz54_0
        try clear hcz54_1
        try clear hcz54_2
        try clear hcz54_3
        try clear hcz54_4
        try clear hcz54_5
        try clear hcz58_0
        try clear hcz58_1
        try clear hcz58_2
        try clear hcz58_3
        try clear hcz58_4
        try clear hcz58_5
        try clear hcz59_0
        try clear hcz59_1
        try clear hcz59_2
        try clear hcz59_3
        try clear hcz59_4
        try clear hcz59_5
        try clear hcz7_0
        try clear hcz7_1
        try clear hcz7_2
        try clear hcz7_3
        try clear hcz7_4
        try clear hcz7_5
        try clear hfz19_0
        try clear hfz19_1
        try clear hfz19_2
        try clear hfz19_3
        try clear hfz19_4
        try clear hfz19_5
        try clear hfz20_0
        try clear hfz20_1
        try clear hfz20_2
        try clear hfz20_3
        try clear hfz20_4
        try clear hfz20_5
        try clear hfz22_0
        try clear hfz22_1
        try clear hfz22_2
        try clear hfz22_3
        try clear hfz22_4
        try clear hfz22_5
        try clear hfz38_0
        try clear hfz38_1
        try clear hfz38_2
        try clear hfz38_3
        try clear hfz38_4
        try clear hfz38_5
        try clear hfz52_0
        try clear hfz52_1
        try clear hfz52_2
        try clear hfz52_3
        try clear hfz52_4
        try clear hfz52_5
        try clear hfz54_0
        try clear hfz54_1
        try clear hfz54_2
        try clear hfz54_3
        try clear hfz54_4
        try clear hfz54_5
        try clear hfz58_0
        try clear hfz58_1
        try clear hfz58_2
        try clear hfz58_3
        try clear hfz58_4
        try clear hfz58_5
        try clear hfz59_0
        try clear hfz59_1
        try clear hfz59_2
        try clear hfz59_3
        try clear hfz59_4
        try clear hfz59_5
        try clear hfz7_0
        try clear hfz7_1
        try clear hfz7_2
        try clear hfz7_3
        try clear hfz7_4
        try clear hfz7_5
        try clear p1
        try clear p10
        try clear p2
        try clear p29
        try clear p3
        try clear p35
        try clear p4
        try clear p43
        try clear p49
        try clear p6
        try clear q1
        try clear q10
        try clear q2
        try clear q29
        try clear q3
        try clear q35
        try clear q4
        try clear q43
        try clear q49
        obtain ⟨kq, x7_63, rfl, HA, HJ63, BK159, BK160, HB⟩ := hcut
        cases kq with
        | zero => exact absurd HA.out (by simp [spokeshaveref2_number.j5])
        | succ kj63 =>
         have H := HA.out
         clear HA
         simp only [spokeshaveref2_number.j5] at H
         by_cases c66 : 0 ≤ x7_12
         case neg => rw [if_neg c66] at H; exact absurd H (by simp)
         rw [if_pos c66] at H
         have c66b0 := eq_true c66
         have c66b1 : decide (0 ≤ x7_12) = true := decide_eq_true c66
         clear c66
         by_cases c67 : x7_12 ≤ x7_63
         case neg => rw [if_neg c67] at H; exact absurd H (by simp)
         rw [if_pos c67] at H
         have c67b0 := eq_true c67
         have c67b1 : decide (x7_12 ≤ x7_63) = true := decide_eq_true c67
         clear c67
         by_cases c68 : x7_63 ≤ (a0.size : Int)
         case neg => rw [if_neg c68] at H; exact absurd H (by simp)
         rw [if_pos c68] at H
         have c68b0 := eq_true c68
         have c68b1 : decide (x7_63 ≤ (a0.size : Int)) = true := decide_eq_true c68
         clear c68
         by_cases c69 : 0 ≤ a1
         case neg => rw [if_neg c69] at H; exact absurd H (by simp)
         rw [if_pos c69] at H
         have c69b0 := eq_true c69
         have c69b1 : decide (0 ≤ a1) = true := decide_eq_true c69
         clear c69
         by_cases c70 : a1 ≤ x7_63
         case neg => rw [if_neg c70] at H; exact absurd H (by simp)
         rw [if_pos c70] at H
         have c70b0 := eq_true c70
         have c70b1 : decide (a1 ≤ x7_63) = true := decide_eq_true c70
         clear c70
         have c71b0 := eq_true (of_decide_eq_true (by first | (with_reducible assumption) | assumption) : x7_63 ≤ (a0.size : Int))
         have HC72 := Aside0.mk H
         clear H
         try go_wp2
         have n0_ := Aside0.mk (blk_drew BK159.out)
         have n1_ := Aside0.mk (blk_drew BK160.out)
         have n2_ := Aside0.mk (below_drew1 HB.out)
         clear BK159
         clear BK160
         clear HB
         have BK159 := n0_
         have BK160 := n1_
         have HB := n2_
         clear n0_ n1_ n2_
         refine start_ (n := 12) (S := fun w' => True) (ds := []) #[false,false,false,false,false,false,false,false,false,false,false,false] (by kernel_rfl) rfl rfl trivial (fun hHeld => ?_); refine with_tabW spokeshaveref2_number.tab26 spokeshaveref2_number.bits26 (fun HT_ HW_ => ?_)
         generalize wc.drew = w73 at BK159 BK160 HB hHeld ⊢
         refine pure_ (i := 0) (N := some 109) (v := ?_) (a' := ?_) #[true,false,false,false,false,false,false,false,false,false,false,false] rfl rfl (any_of HT_.out (by kernel_rfl)) (fun _ _ _ h => h) (Or.inl ⟨by rfl, ?_⟩) ?_ ?_
         rotate_left
         ·
          intro w'
          go_simp
          with_reducible rfl
         rotate_left
         ·
          simp only [Act.put, List.setIfInBounds_toArray, List.set_cons_zero, List.set_cons_succ, i64_w, i32_w]
          rfl
         refine pure_ (i := 1) (N := some 110) (v := ?_) (a' := ?_) #[true,true,false,false,false,false,false,false,false,false,false,false] rfl rfl (any_of HT_.out (by kernel_rfl)) (fun _ _ _ h => h) (Or.inl ⟨by rfl, ?_⟩) ?_ ?_
         rotate_left
         ·
          intro w'
          go_simp
          with_reducible rfl
         rotate_left
         ·
          simp only [Act.put, List.setIfInBounds_toArray, List.set_cons_zero, List.set_cons_succ, i64_w, i32_w]
          rfl
         refine pure_ (i := 2) (N := some 111) (v := ?_) (a' := ?_) #[true,true,true,false,false,false,false,false,false,false,false,false] rfl rfl (any_of HT_.out (by kernel_rfl)) (fun _ _ _ h => h) (Or.inl ⟨by rfl, ?_⟩) ?_ ?_
         rotate_left
         ·
          intro w'
          go_simp
          with_reducible rfl
         rotate_left
         ·
          simp only [Act.put, List.setIfInBounds_toArray, List.set_cons_zero, List.set_cons_succ, i64_w, i32_w]
          rfl
         refine pure_ (i := 3) (N := some 112) (v := ?_) (a' := ?_) #[true,true,true,true,false,false,false,false,false,false,false,false] rfl rfl (any_of HT_.out (by kernel_rfl)) (fun _ _ _ h => h) (Or.inl ⟨by rfl, ?_⟩) ?_ ?_
         rotate_left
         ·
          intro w'
          go_simp
          with_reducible rfl
         rotate_left
         ·
          simp only [Act.put, List.setIfInBounds_toArray, List.set_cons_zero, List.set_cons_succ, i64_w, i32_w]
          rfl
         refine pure_ (i := 4) (N := some 113) (v := ?_) (a' := ?_) #[true,true,true,true,true,false,false,false,false,false,false,false] rfl rfl (any_of HT_.out (by kernel_rfl)) (fun _ _ _ h => h) (Or.inl ⟨by rfl, ?_⟩) ?_ ?_
         rotate_left
         ·
          intro w'
          go_simp
          with_reducible rfl
         rotate_left
         ·
          simp only [Act.put, List.setIfInBounds_toArray, List.set_cons_zero, List.set_cons_succ, i64_w, i32_w]
          rfl
         refine pure_ (i := 5) (N := some 114) (v := ?_) (a' := ?_) #[true,true,true,true,true,true,false,false,false,false,false,false] rfl rfl (any_of HT_.out (by kernel_rfl)) (fun _ _ _ h => h) (Or.inl ⟨by rfl, ?_⟩) ?_ ?_
         rotate_left
         ·
          intro w'
          go_simp
          with_reducible rfl
         rotate_left
         ·
          simp only [Act.put, List.setIfInBounds_toArray, List.set_cons_zero, List.set_cons_succ, i64_w, i32_w]
          rfl
         refine pure_ (i := 6) (N := some 115) (v := ?_) (a' := ?_) #[true,true,true,true,true,true,true,false,false,false,false,false] rfl rfl (any_of HT_.out (by kernel_rfl)) (fun _ _ _ h => h) (Or.inl ⟨by rfl, ?_⟩) ?_ ?_
         rotate_left
         ·
          intro w'
          go_simp
          with_reducible rfl
         rotate_left
         ·
          simp only [Act.put, List.setIfInBounds_toArray, List.set_cons_zero, List.set_cons_succ, i64_w, i32_w]
          rfl
         refine pure_ (i := 7) (N := some 116) (v := ?_) (a' := ?_) #[true,true,true,true,true,true,true,true,false,false,false,false] rfl rfl (any_of HT_.out (by kernel_rfl)) (fun _ _ _ h => h) (Or.inl ⟨by rfl, ?_⟩) ?_ ?_
         rotate_left
         ·
          intro w'
          go_simp
          with_reducible rfl
         rotate_left
         ·
          simp only [Act.put, List.setIfInBounds_toArray, List.set_cons_zero, List.set_cons_succ, i64_w, i32_w]
          rfl
         refine pure_ (i := 8) (N := some 117) (v := ?_) (a' := ?_) #[true,true,true,true,true,true,true,true,true,false,false,false] rfl rfl (any_of HT_.out (by kernel_rfl)) (fun _ _ _ h => h) (Or.inl ⟨by rfl, ?_⟩) ?_ ?_
         rotate_left
         ·
          intro w'
          go_simp
          with_reducible rfl
         rotate_left
         ·
          simp only [Act.put, List.setIfInBounds_toArray, List.set_cons_zero, List.set_cons_succ, i64_w, i32_w]
          rfl
         refine one_ (i := 9) (N := none) #[true,true,true,true,true,true,true,true,true,true,false,false] rfl rfl (one_of HT_.out (by kernel_rfl)) (by decide) (fun K hK => ?_)
         have hs74 : w73.cell? ⟨gb160, 3, none⟩ = some (.string (⟨#[]⟩ : ByteArray)) := (blk_cell BK160.out 3).trans rfl
         have hfs74 := blk_frozen BK160.out 3
         have hns74_0 := NB159_160.out
         have hms74_0 := NB160_159.out
         refine skip_ (w1 := ?_) (by rfl) rfl ?_ ?_
         rotate_left
         ·
          go_simp
          rfl
         refine hK.out _ _ trivial (fun hHeld => ?_)
         clear hK K
         refine pure_ (i := 10) (N := some 118) (v := ?_) (a' := ?_) #[true,true,true,true,true,true,true,true,true,true,true,false] rfl rfl (any_of HT_.out (by kernel_rfl)) (fun _ _ _ h => h) (Or.inl ⟨by rfl, ?_⟩) ?_ ?_
         rotate_left
         ·
          intro w'
          go_simp
          with_reducible rfl
         rotate_left
         ·
          simp only [Act.put, List.setIfInBounds_toArray, List.set_cons_zero, List.set_cons_succ, i64_w, i32_w]
          rfl
         refine one_ (i := 11) (N := none) #[true,true,true,true,true,true,true,true,true,true,true,true] rfl rfl (one_of HT_.out (by kernel_rfl)) (by decide) (fun K hK => ?_)
         have hs75 : w73.cell? ⟨gb160, 2, none⟩ = some (.string (⟨#[]⟩ : ByteArray)) := (blk_cell BK160.out 2).trans rfl
         have hfs75 := blk_frozen BK160.out 2
         have hns75_0 := NB159_160.out
         have hms75_0 := NB160_159.out
         refine skip_ (w1 := ?_) (by rfl) rfl ?_ ?_
         rotate_left
         ·
          go_simp
          rfl
         refine hK.out _ _ trivial (fun hHeld => ?_)
         clear hK K
         refine done_ (done_of HT_.out (by kernel_rfl)) ?_
         go_upto_region 27 with (fail)
         go_cut [128] (fun v128 wc => ∃ (kq : Nat) (x128_71 : Bool), v128 = .bool x128_71 ∧ Aside0 (spokeshaveref2_number.j6 kq x8_12 x128_71 3 a1 (a0.extract (a1 : Int).toNat (x7_63 : Int).toNat) (a0.extract (x7_12 : Int).toNat (x7_63 : Int).toNat) x161004_12 x161005_12 = some (r1, r2, r3, r4, r5, r6, r7)) ∧ Aside0 (kq ≤ kj63) ∧ Aside0 (wc.heap[gb159]? = some (.cells #[.int .i64 x160000_12, .int .i64 x160001_12, .string x160002_12, .string x160003_12, .int .u64 x160004_12, .bool x160005_12] 33 (0, 0))) ∧ Aside0 (wc.heap[gb160]? = some (.cells #[.int .i64 3, .int .i64 a1, .string (a0.extract (a1 : Int).toNat (x7_63 : Int).toNat), .string (a0.extract (x7_12 : Int).toNat (x7_63 : Int).toNat), .int .u64 x161004_12, .bool x161005_12] 33 (0, 0))) ∧ Aside0 (Below w.heap.size w wc))
         case first =>
          have H := HC72.out
          clear HC72
          replace H := Option.bind_eq_some_iff.mp H
          obtain ⟨t172, A760, H⟩ := H
          replace H : ((spokeshaveref2_digit.f t172).bind fun t173 => (if t173 = true then (spokeshaveref2_number.j6 kj63 x8_12 true 3 a1 (a0.extract (a1 : Int).toNat (x7_63 : Int).toNat) (a0.extract (x7_12 : Int).toNat (x7_63 : Int).toNat) x161004_12 x161005_12) else ((spokeshaveref2_at.f a0 x7_63).bind fun t174 => ((spokeshaveref2_letter.f t174).bind fun t175 => (spokeshaveref2_number.j6 kj63 x8_12 t175 3 a1 (a0.extract (a1 : Int).toNat (x7_63 : Int).toNat) (a0.extract (x7_12 : Int).toNat (x7_63 : Int).toNat) x161004_12 x161005_12))))) = some (r1, r2, r3, r4, r5, r6, r7) := H
          have A76 := Aside0.mk A760
          clear A760
          replace H := Option.bind_eq_some_iff.mp H
          obtain ⟨t173, A770, H⟩ := H
          replace H : (if t173 = true then (spokeshaveref2_number.j6 kj63 x8_12 true 3 a1 (a0.extract (a1 : Int).toNat (x7_63 : Int).toNat) (a0.extract (x7_12 : Int).toNat (x7_63 : Int).toNat) x161004_12 x161005_12) else ((spokeshaveref2_at.f a0 x7_63).bind fun t174 => ((spokeshaveref2_letter.f t174).bind fun t175 => (spokeshaveref2_number.j6 kj63 x8_12 t175 3 a1 (a0.extract (a1 : Int).toNat (x7_63 : Int).toNat) (a0.extract (x7_12 : Int).toNat (x7_63 : Int).toNat) x161004_12 x161005_12)))) = some (r1, r2, r3, r4, r5, r6, r7) := H
          have A77 := Aside0.mk A770
          clear A770
          by_cases c78 : t173 = true
          ·
           subst c78
           have H1 : (spokeshaveref2_number.j6 kj63 x8_12 true 3 a1 (a0.extract (a1 : Int).toNat (x7_63 : Int).toNat) (a0.extract (x7_12 : Int).toNat (x7_63 : Int).toNat) x161004_12 x161005_12) = some (r1, r2, r3, r4, r5, r6, r7) := by rw [if_pos rfl] at H; exact H
           clear H
           have H := H1
           clear H1
           have H' := Aside0.mk H
           clear H
           go_wp2_with (first | ((with_reducible refine gate_callee (f := 32) rfl ?_); refine goesL_ (some 121) rfl rfl Tryd.func32 (by kernel_rfl) rfl #[.string a0, .int .i64 x7_63] rfl (by (try simp only [List.map_toArray, List.map_cons, List.map_nil]); first | done | rfl | (simp only [List.length_drop, List.length_take]; rfl)) ?_; (with_reducible refine (spokeshaveref2_at.calls a0 x7_63 t172 _ A76.out).mono ?_); rintro e w' ⟨rfl, ⟨nd, rfl⟩⟩; refine ⟨_, rfl, ?_⟩) | ((with_reducible refine gate_callee (f := 34) rfl ?_); refine goesL_ (some 122) rfl rfl Tryd.func34 (by kernel_rfl) rfl #[.int .u8 t172] rfl (by (try simp only [List.map_toArray, List.map_cons, List.map_nil]); first | done | rfl | (simp only [List.length_drop, List.length_take]; rfl)) ?_; (with_reducible refine (spokeshaveref2_digit.calls t172 true _ A77.out).mono ?_); rintro e w' ⟨rfl, ⟨nd, rfl⟩⟩; refine ⟨_, rfl, ?_⟩))
           go_meet
           case rel => exact ⟨_, (true), (by first | rfl | (simp; done) | (simp [*]; done)), H', ⟨by have := HJ2.out; have := HJ12.out; have := HJ60.out; have := HJ63.out; first | omega | exact Nat.le_refl _⟩, ⟨by (with_reducible repeat (first | refine blk_drewN ?_ _ | refine blk_drew ?_ | refine blk_alloc ?_ _)); refine blk_far ?_ NB159_160.out _; (with_reducible repeat (first | refine blk_drewN ?_ _ | refine blk_drew ?_ | refine blk_alloc ?_ _)); refine blk_far ?_ NB159_160.out _; (with_reducible repeat (first | refine blk_drewN ?_ _ | refine blk_drew ?_ | refine blk_alloc ?_ _)); exact BK159.out⟩, ⟨by (with_reducible repeat (first | refine blk_drewN ?_ _ | refine blk_drew ?_ | refine blk_alloc ?_ _)); refine blk_put (cs := #[.int .i64 3, .int .i64 a1, .string (⟨#[]⟩ : ByteArray), .string (a0.extract (x7_12 : Int).toNat (x7_63 : Int).toNat), .int .u64 x161004_12, .bool x161005_12]) ?_ 2 _ rfl; (with_reducible repeat (first | refine blk_drewN ?_ _ | refine blk_drew ?_ | refine blk_alloc ?_ _)); refine blk_put (cs := #[.int .i64 3, .int .i64 a1, .string (⟨#[]⟩ : ByteArray), .string (⟨#[]⟩ : ByteArray), .int .u64 x161004_12, .bool x161005_12]) ?_ 3 _ rfl; (with_reducible repeat (first | refine blk_drewN ?_ _ | refine blk_drew ?_ | refine blk_alloc ?_ _)); exact BK160.out⟩, ⟨by repeat (first | (with_reducible first | exact HB.out | apply below_alloc | apply pw_below_drewN | apply below_drew1 | refine below_set ?_ GE159.out | refine below_set ?_ GE160.out) | exact HB.out)⟩⟩
          ·
           replace c78 := Bool.eq_false_iff.mpr c78
           subst c78
           have H1 : ((spokeshaveref2_at.f a0 x7_63).bind fun t174 => ((spokeshaveref2_letter.f t174).bind fun t175 => (spokeshaveref2_number.j6 kj63 x8_12 t175 3 a1 (a0.extract (a1 : Int).toNat (x7_63 : Int).toNat) (a0.extract (x7_12 : Int).toNat (x7_63 : Int).toNat) x161004_12 x161005_12))) = some (r1, r2, r3, r4, r5, r6, r7) := by rw [if_neg (show ¬ (false = true) by decide)] at H; exact H
           clear H
           have H := H1
           clear H1
           replace H := Option.bind_eq_some_iff.mp H
           obtain ⟨t174, A790, H⟩ := H
           replace H : ((spokeshaveref2_letter.f t174).bind fun t175 => (spokeshaveref2_number.j6 kj63 x8_12 t175 3 a1 (a0.extract (a1 : Int).toNat (x7_63 : Int).toNat) (a0.extract (x7_12 : Int).toNat (x7_63 : Int).toNat) x161004_12 x161005_12)) = some (r1, r2, r3, r4, r5, r6, r7) := H
           have A79 := Aside0.mk A790
           clear A790
           replace H := Option.bind_eq_some_iff.mp H
           obtain ⟨t175, A800, H⟩ := H
           replace H : (spokeshaveref2_number.j6 kj63 x8_12 t175 3 a1 (a0.extract (a1 : Int).toNat (x7_63 : Int).toNat) (a0.extract (x7_12 : Int).toNat (x7_63 : Int).toNat) x161004_12 x161005_12) = some (r1, r2, r3, r4, r5, r6, r7) := H
           have A80 := Aside0.mk A800
           clear A800
           have H' := Aside0.mk H
           clear H
           go_wp2_with (first | ((with_reducible refine gate_callee (f := 32) rfl ?_); refine goesL_ (some 121) rfl rfl Tryd.func32 (by kernel_rfl) rfl #[.string a0, .int .i64 x7_63] rfl (by (try simp only [List.map_toArray, List.map_cons, List.map_nil]); first | done | rfl | (simp only [List.length_drop, List.length_take]; rfl)) ?_; (with_reducible refine (spokeshaveref2_at.calls a0 x7_63 t172 _ A76.out).mono ?_); rintro e w' ⟨rfl, ⟨nd, rfl⟩⟩; refine ⟨_, rfl, ?_⟩) | ((with_reducible refine gate_callee (f := 34) rfl ?_); refine goesL_ (some 122) rfl rfl Tryd.func34 (by kernel_rfl) rfl #[.int .u8 t172] rfl (by (try simp only [List.map_toArray, List.map_cons, List.map_nil]); first | done | rfl | (simp only [List.length_drop, List.length_take]; rfl)) ?_; (with_reducible refine (spokeshaveref2_digit.calls t172 false _ A77.out).mono ?_); rintro e w' ⟨rfl, ⟨nd, rfl⟩⟩; refine ⟨_, rfl, ?_⟩) | (go_at_call 32; (with_reducible refine (spokeshaveref2_at.calls a0 x7_63 t174 _ A79.out).mono ?_); rintro e w' ⟨rfl, ⟨nd, rfl⟩⟩) | (go_at_call 33; (with_reducible refine (spokeshaveref2_letter.calls t174 t175 _ A80.out).mono ?_); rintro e w' ⟨rfl, ⟨nd, rfl⟩⟩))
           go_meet
           case rel => exact ⟨_, (t175), (by first | rfl | (simp; done) | (simp [*]; done)), H', ⟨by have := HJ2.out; have := HJ12.out; have := HJ60.out; have := HJ63.out; first | omega | exact Nat.le_refl _⟩, ⟨by (with_reducible repeat (first | refine blk_drewN ?_ _ | refine blk_drew ?_ | refine blk_alloc ?_ _)); refine blk_far ?_ NB159_160.out _; (with_reducible repeat (first | refine blk_drewN ?_ _ | refine blk_drew ?_ | refine blk_alloc ?_ _)); refine blk_far ?_ NB159_160.out _; (with_reducible repeat (first | refine blk_drewN ?_ _ | refine blk_drew ?_ | refine blk_alloc ?_ _)); exact BK159.out⟩, ⟨by (with_reducible repeat (first | refine blk_drewN ?_ _ | refine blk_drew ?_ | refine blk_alloc ?_ _)); refine blk_put (cs := #[.int .i64 3, .int .i64 a1, .string (⟨#[]⟩ : ByteArray), .string (a0.extract (x7_12 : Int).toNat (x7_63 : Int).toNat), .int .u64 x161004_12, .bool x161005_12]) ?_ 2 _ rfl; (with_reducible repeat (first | refine blk_drewN ?_ _ | refine blk_drew ?_ | refine blk_alloc ?_ _)); refine blk_put (cs := #[.int .i64 3, .int .i64 a1, .string (⟨#[]⟩ : ByteArray), .string (⟨#[]⟩ : ByteArray), .int .u64 x161004_12, .bool x161005_12]) ?_ 3 _ rfl; (with_reducible repeat (first | refine blk_drewN ?_ _ | refine blk_drew ?_ | refine blk_alloc ?_ _)); exact BK160.out⟩, ⟨by repeat (first | (with_reducible first | exact HB.out | apply below_alloc | apply pw_below_drewN | apply below_drew1 | refine below_set ?_ GE159.out | refine below_set ?_ GE160.out) | exact HB.out)⟩⟩
         case rest =>
          clear HC72
          try clear c1
          try clear p1
          try clear q1
          try clear hx1
          try clear c2
          try clear p2
          try clear q2
          try clear hx2
          try clear c3
          try clear p3
          try clear q3
          try clear hx3
          try clear c4
          try clear p4
          try clear q4
          try clear hx4
          try clear c5
          try clear c6
          try clear p6
          try clear c7
          try clear c8
          try clear c8b0
          try clear c9
          try clear c9b0
          try clear p10
          try clear q10
          try clear hx10
          try clear c11
          try clear c11b0
          try clear c11b1
          try clear c14
          try clear c17
          try clear c17b0
          try clear c18
          try clear c21
          try clear c25
          try clear c25b0
          try clear c26
          try clear c27
          try clear c27b0
          try clear c28
          try clear c28b0
          try clear p29
          try clear q29
          try clear hx29
          try clear c32
          try clear c33
          try clear c33b0
          try clear c34
          try clear c34b0
          try clear c35
          try clear p35
          try clear q35
          try clear hx35
          try clear c37
          try clear c41
          try clear c41b0
          try clear c42
          try clear c42b0
          try clear p43
          try clear q43
          try clear hx43
          try clear c46
          try clear c47
          try clear c47b0
          try clear c48
          try clear c48b0
          try clear p49
          try clear q49
          try clear hx49
          try clear c50
          try clear c51
          try clear c53
          try clear c55
          try clear c55b0
          try clear c55b1
          try clear c56
          try clear c56b0
          try clear c57
          try clear c62
          try clear c62b0
          try clear c62b1
          try clear p64
          try clear c65
          try clear c65b0
          try clear c65b1
          try clear c66
          try clear c66b0
          try clear c66b1
          try clear c67
          try clear c67b0
          try clear c67b1
          try clear c68
          try clear c68b0
          try clear c68b1
          try clear c69
          try clear c69b0
          try clear c69b1
          try clear c70
          try clear c70b0
          try clear c70b1
          try clear c71
          try clear c71b0
          try clear c78
          try clear hcz19_0
          try clear hcz19_1
          try clear hcz19_2
          try clear hcz19_3
          try clear hcz19_4
          try clear hcz19_5
          try clear hcz20_0
          try clear hcz20_1
          try clear hcz20_2
          try clear hcz20_3
          try clear hcz20_4
          try clear hcz20_5
          try clear hcz22_0
          try clear hcz22_1
          try clear hcz22_2
          try clear hcz22_3
          try clear hcz22_4
          try clear hcz22_5
          try clear hcz38_0
          try clear hcz38_1
          try clear hcz38_2
          try clear hcz38_3
          try clear hcz38_4
          try clear hcz38_5
          try clear hcz52_0
          try clear hcz52_1
          try clear hcz52_2
          try clear hcz52_3
          try clear hcz52_4
          try clear hcz52_5
          try clear hcz54_0
          try clear hcz54_1
          try clear hcz54_2
          try clear hcz54_3
          try clear hcz54_4
          try clear hcz54_5
          try clear hcz58_0
          try clear hcz58_1
          try clear hcz58_2
          try clear hcz58_3
          try clear hcz58_4
          try clear hcz58_5
          try clear hcz59_0
          try clear hcz59_1
          try clear hcz59_2
          try clear hcz59_3
          try clear hcz59_4
          try clear hcz59_5
          try clear hcz7_0
          try clear hcz7_1
          try clear hcz7_2
          try clear hcz7_3
          try clear hcz7_4
          try clear hcz7_5
          try clear hfz19_0
          try clear hfz19_1
          try clear hfz19_2
          try clear hfz19_3
          try clear hfz19_4
          try clear hfz19_5
          try clear hfz20_0
          try clear hfz20_1
          try clear hfz20_2
          try clear hfz20_3
          try clear hfz20_4
          try clear hfz20_5
          try clear hfz22_0
          try clear hfz22_1
          try clear hfz22_2
          try clear hfz22_3
          try clear hfz22_4
          try clear hfz22_5
          try clear hfz38_0
          try clear hfz38_1
          try clear hfz38_2
          try clear hfz38_3
          try clear hfz38_4
          try clear hfz38_5
          try clear hfz52_0
          try clear hfz52_1
          try clear hfz52_2
          try clear hfz52_3
          try clear hfz52_4
          try clear hfz52_5
          try clear hfz54_0
          try clear hfz54_1
          try clear hfz54_2
          try clear hfz54_3
          try clear hfz54_4
          try clear hfz54_5
          try clear hfz58_0
          try clear hfz58_1
          try clear hfz58_2
          try clear hfz58_3
          try clear hfz58_4
          try clear hfz58_5
          try clear hfz59_0
          try clear hfz59_1
          try clear hfz59_2
          try clear hfz59_3
          try clear hfz59_4
          try clear hfz59_5
          try clear hfz7_0
          try clear hfz7_1
          try clear hfz7_2
          try clear hfz7_3
          try clear hfz7_4
          try clear hfz7_5
          try clear p1
          try clear p10
          try clear p2
          try clear p29
          try clear p3
          try clear p35
          try clear p4
          try clear p43
          try clear p49
          try clear p6
          try clear p64
          try clear q1
          try clear q10
          try clear q2
          try clear q29
          try clear q3
          try clear q35
          try clear q4
          try clear q43
          try clear q49
          obtain ⟨kq, x128_71, rfl, HA, HJ71, BK159, BK160, HB⟩ := hcut
          cases kq with
          | zero => exact absurd HA.out (by simp [spokeshaveref2_number.j6])
          | succ kj71 =>
           have H := HA.out
           clear HA
           simp only [spokeshaveref2_number.j6] at H
           by_cases c81 : x128_71 = true
           ·
            subst c81
            have H1 : (some (3, a1, (a0.extract (a1 : Int).toNat (x7_63 : Int).toNat), (a0.extract (x7_12 : Int).toNat (x7_63 : Int).toNat), x161004_12, x161005_12, 3)) = some (r1, r2, r3, r4, r5, r6, r7) := by rw [if_pos rfl] at H; exact H
            clear H
            have H := H1
            clear H1
            simp only [Option.some.injEq, Prod.mk.injEq] at H
            obtain ⟨rfl, rfl, rfl, rfl, rfl, rfl, rfl⟩ := H
            have hnb82 := NB160_159.out
            have hnc82 := NB159_160.out
            have hcz83_0 : wc.cell? ⟨gb160, 0, none⟩ = some (.int .i64 3) := (blk_cell BK160.out 0).trans rfl
            have hcz83_1 : wc.cell? ⟨gb160, 1, none⟩ = some (.int .i64 a1) := (blk_cell BK160.out 1).trans rfl
            have hcz83_2 : wc.cell? ⟨gb160, 2, none⟩ = some (.string (a0.extract (a1 : Int).toNat (x7_63 : Int).toNat)) := (blk_cell BK160.out 2).trans rfl
            have hcz83_3 : wc.cell? ⟨gb160, 3, none⟩ = some (.string (a0.extract (x7_12 : Int).toNat (x7_63 : Int).toNat)) := (blk_cell BK160.out 3).trans rfl
            have hcz83_4 : wc.cell? ⟨gb160, 4, none⟩ = some (.int .u64 x161004_12) := (blk_cell BK160.out 4).trans rfl
            have hcz83_5 : wc.cell? ⟨gb160, 5, none⟩ = some (.bool x161005_12) := (blk_cell BK160.out 5).trans rfl
            have hfz83_0 := blk_frozen BK160.out 0
            have hfz83_1 := blk_frozen BK160.out 1
            have hfz83_2 := blk_frozen BK160.out 2
            have hfz83_3 := blk_frozen BK160.out 3
            have hfz83_4 := blk_frozen BK160.out 4
            have hfz83_5 := blk_frozen BK160.out 5
            have hcz84_0 : wc.cell? ⟨gb159, 0, none⟩ = some (.int .i64 x160000_12) := (blk_cell BK159.out 0).trans rfl
            have hcz84_1 : wc.cell? ⟨gb159, 1, none⟩ = some (.int .i64 x160001_12) := (blk_cell BK159.out 1).trans rfl
            have hcz84_2 : wc.cell? ⟨gb159, 2, none⟩ = some (.string x160002_12) := (blk_cell BK159.out 2).trans rfl
            have hcz84_3 : wc.cell? ⟨gb159, 3, none⟩ = some (.string x160003_12) := (blk_cell BK159.out 3).trans rfl
            have hcz84_4 : wc.cell? ⟨gb159, 4, none⟩ = some (.int .u64 x160004_12) := (blk_cell BK159.out 4).trans rfl
            have hcz84_5 : wc.cell? ⟨gb159, 5, none⟩ = some (.bool x160005_12) := (blk_cell BK159.out 5).trans rfl
            have hfz84_0 := blk_frozen BK159.out 0
            have hfz84_1 := blk_frozen BK159.out 1
            have hfz84_2 := blk_frozen BK159.out 2
            have hfz84_3 := blk_frozen BK159.out 3
            have hfz84_4 := blk_frozen BK159.out 4
            have hfz84_5 := blk_frozen BK159.out 5
            go_wp2
            refine bodyPost_ret (results_ct rfl _ _ gb159 33 #[.int .i64 3, .int .i64 a1, .string (a0.extract (a1 : Int).toNat (x7_63 : Int).toNat), .string (a0.extract (x7_12 : Int).toNat (x7_63 : Int).toNat), .int .u64 x161004_12, .bool x161005_12] (0, 0) _ rfl (by (with_reducible repeat (first | refine blk_drewN ?_ _ | refine blk_drew ?_ | refine blk_alloc ?_ _)); refine blk_put (cs := #[.int .i64 3, .int .i64 a1, .string (a0.extract (a1 : Int).toNat (x7_63 : Int).toNat), .string (a0.extract (x7_12 : Int).toNat (x7_63 : Int).toNat), .int .u64 x161004_12, .bool x160005_12]) ?_ 5 _ rfl; (with_reducible repeat (first | refine blk_drewN ?_ _ | refine blk_drew ?_ | refine blk_alloc ?_ _)); refine blk_put (cs := #[.int .i64 3, .int .i64 a1, .string (a0.extract (a1 : Int).toNat (x7_63 : Int).toNat), .string (a0.extract (x7_12 : Int).toNat (x7_63 : Int).toNat), .int .u64 x160004_12, .bool x160005_12]) ?_ 4 _ rfl; (with_reducible repeat (first | refine blk_drewN ?_ _ | refine blk_drew ?_ | refine blk_alloc ?_ _)); refine blk_put (cs := #[.int .i64 3, .int .i64 a1, .string (a0.extract (a1 : Int).toNat (x7_63 : Int).toNat), .string x160003_12, .int .u64 x160004_12, .bool x160005_12]) ?_ 3 _ rfl; (with_reducible repeat (first | refine blk_drewN ?_ _ | refine blk_drew ?_ | refine blk_alloc ?_ _)); refine blk_put (cs := #[.int .i64 3, .int .i64 a1, .string x160002_12, .string x160003_12, .int .u64 x160004_12, .bool x160005_12]) ?_ 2 _ rfl; (with_reducible repeat (first | refine blk_drewN ?_ _ | refine blk_drew ?_ | refine blk_alloc ?_ _)); refine blk_put (cs := #[.int .i64 3, .int .i64 x160001_12, .string x160002_12, .string x160003_12, .int .u64 x160004_12, .bool x160005_12]) ?_ 1 _ rfl; (with_reducible repeat (first | refine blk_drewN ?_ _ | refine blk_drew ?_ | refine blk_alloc ?_ _)); refine blk_put (cs := #[.int .i64 x160000_12, .int .i64 x160001_12, .string x160002_12, .string x160003_12, .int .u64 x160004_12, .bool x160005_12]) ?_ 0 _ rfl; (with_reducible repeat (first | refine blk_drewN ?_ _ | refine blk_drew ?_ | refine blk_alloc ?_ _)); exact BK159.out) Tryd.underlying33 rfl (by kernel_rfl)) rfl ?_
            exact ⟨by first | rfl | (simp [errW_none, errW_some] <;> rfl) | (simp [*, errW_none, errW_some] <;> rfl), by repeat (first | (with_reducible first | exact HB.out | apply below_alloc | apply pw_below_drewN | apply below_drew1 | refine below_set ?_ GE159.out | refine below_set ?_ GE160.out) | exact HB.out)⟩
           ·
            replace c81 := Bool.eq_false_iff.mpr c81
            subst c81
            have H1 : (if x8_12 = true then (some (3, a1, (a0.extract (a1 : Int).toNat (x7_63 : Int).toNat), (a0.extract (x7_12 : Int).toNat (x7_63 : Int).toNat), x161004_12, x161005_12, 6)) else (some (3, a1, (a0.extract (a1 : Int).toNat (x7_63 : Int).toNat), (a0.extract (x7_12 : Int).toNat (x7_63 : Int).toNat), x161004_12, x161005_12, 0))) = some (r1, r2, r3, r4, r5, r6, r7) := by rw [if_neg (show ¬ (false = true) by decide)] at H; exact H
            clear H
            have H := H1
            clear H1
            by_cases c85 : x8_12 = true
            ·
             subst c85
             have H1 : (some (3, a1, (a0.extract (a1 : Int).toNat (x7_63 : Int).toNat), (a0.extract (x7_12 : Int).toNat (x7_63 : Int).toNat), x161004_12, x161005_12, 6)) = some (r1, r2, r3, r4, r5, r6, r7) := by rw [if_pos rfl] at H; exact H
             clear H
             have H := H1
             clear H1
             simp only [Option.some.injEq, Prod.mk.injEq] at H
             obtain ⟨rfl, rfl, rfl, rfl, rfl, rfl, rfl⟩ := H
             have hnb86 := NB160_159.out
             have hnc86 := NB159_160.out
             have hcz87_0 : wc.cell? ⟨gb160, 0, none⟩ = some (.int .i64 3) := (blk_cell BK160.out 0).trans rfl
             have hcz87_1 : wc.cell? ⟨gb160, 1, none⟩ = some (.int .i64 a1) := (blk_cell BK160.out 1).trans rfl
             have hcz87_2 : wc.cell? ⟨gb160, 2, none⟩ = some (.string (a0.extract (a1 : Int).toNat (x7_63 : Int).toNat)) := (blk_cell BK160.out 2).trans rfl
             have hcz87_3 : wc.cell? ⟨gb160, 3, none⟩ = some (.string (a0.extract (x7_12 : Int).toNat (x7_63 : Int).toNat)) := (blk_cell BK160.out 3).trans rfl
             have hcz87_4 : wc.cell? ⟨gb160, 4, none⟩ = some (.int .u64 x161004_12) := (blk_cell BK160.out 4).trans rfl
             have hcz87_5 : wc.cell? ⟨gb160, 5, none⟩ = some (.bool x161005_12) := (blk_cell BK160.out 5).trans rfl
             have hfz87_0 := blk_frozen BK160.out 0
             have hfz87_1 := blk_frozen BK160.out 1
             have hfz87_2 := blk_frozen BK160.out 2
             have hfz87_3 := blk_frozen BK160.out 3
             have hfz87_4 := blk_frozen BK160.out 4
             have hfz87_5 := blk_frozen BK160.out 5
             have hcz88_0 : wc.cell? ⟨gb159, 0, none⟩ = some (.int .i64 x160000_12) := (blk_cell BK159.out 0).trans rfl
             have hcz88_1 : wc.cell? ⟨gb159, 1, none⟩ = some (.int .i64 x160001_12) := (blk_cell BK159.out 1).trans rfl
             have hcz88_2 : wc.cell? ⟨gb159, 2, none⟩ = some (.string x160002_12) := (blk_cell BK159.out 2).trans rfl
             have hcz88_3 : wc.cell? ⟨gb159, 3, none⟩ = some (.string x160003_12) := (blk_cell BK159.out 3).trans rfl
             have hcz88_4 : wc.cell? ⟨gb159, 4, none⟩ = some (.int .u64 x160004_12) := (blk_cell BK159.out 4).trans rfl
             have hcz88_5 : wc.cell? ⟨gb159, 5, none⟩ = some (.bool x160005_12) := (blk_cell BK159.out 5).trans rfl
             have hfz88_0 := blk_frozen BK159.out 0
             have hfz88_1 := blk_frozen BK159.out 1
             have hfz88_2 := blk_frozen BK159.out 2
             have hfz88_3 := blk_frozen BK159.out 3
             have hfz88_4 := blk_frozen BK159.out 4
             have hfz88_5 := blk_frozen BK159.out 5
             go_wp2
             refine bodyPost_ret (results_ct rfl _ _ gb159 33 #[.int .i64 3, .int .i64 a1, .string (a0.extract (a1 : Int).toNat (x7_63 : Int).toNat), .string (a0.extract (x7_12 : Int).toNat (x7_63 : Int).toNat), .int .u64 x161004_12, .bool x161005_12] (0, 0) _ rfl (by (with_reducible repeat (first | refine blk_drewN ?_ _ | refine blk_drew ?_ | refine blk_alloc ?_ _)); refine blk_put (cs := #[.int .i64 3, .int .i64 a1, .string (a0.extract (a1 : Int).toNat (x7_63 : Int).toNat), .string (a0.extract (x7_12 : Int).toNat (x7_63 : Int).toNat), .int .u64 x161004_12, .bool x160005_12]) ?_ 5 _ rfl; (with_reducible repeat (first | refine blk_drewN ?_ _ | refine blk_drew ?_ | refine blk_alloc ?_ _)); refine blk_put (cs := #[.int .i64 3, .int .i64 a1, .string (a0.extract (a1 : Int).toNat (x7_63 : Int).toNat), .string (a0.extract (x7_12 : Int).toNat (x7_63 : Int).toNat), .int .u64 x160004_12, .bool x160005_12]) ?_ 4 _ rfl; (with_reducible repeat (first | refine blk_drewN ?_ _ | refine blk_drew ?_ | refine blk_alloc ?_ _)); refine blk_put (cs := #[.int .i64 3, .int .i64 a1, .string (a0.extract (a1 : Int).toNat (x7_63 : Int).toNat), .string x160003_12, .int .u64 x160004_12, .bool x160005_12]) ?_ 3 _ rfl; (with_reducible repeat (first | refine blk_drewN ?_ _ | refine blk_drew ?_ | refine blk_alloc ?_ _)); refine blk_put (cs := #[.int .i64 3, .int .i64 a1, .string x160002_12, .string x160003_12, .int .u64 x160004_12, .bool x160005_12]) ?_ 2 _ rfl; (with_reducible repeat (first | refine blk_drewN ?_ _ | refine blk_drew ?_ | refine blk_alloc ?_ _)); refine blk_put (cs := #[.int .i64 3, .int .i64 x160001_12, .string x160002_12, .string x160003_12, .int .u64 x160004_12, .bool x160005_12]) ?_ 1 _ rfl; (with_reducible repeat (first | refine blk_drewN ?_ _ | refine blk_drew ?_ | refine blk_alloc ?_ _)); refine blk_put (cs := #[.int .i64 x160000_12, .int .i64 x160001_12, .string x160002_12, .string x160003_12, .int .u64 x160004_12, .bool x160005_12]) ?_ 0 _ rfl; (with_reducible repeat (first | refine blk_drewN ?_ _ | refine blk_drew ?_ | refine blk_alloc ?_ _)); exact BK159.out) Tryd.underlying33 rfl (by kernel_rfl)) rfl ?_
             exact ⟨by first | rfl | (simp [errW_none, errW_some] <;> rfl) | (simp [*, errW_none, errW_some] <;> rfl), by repeat (first | (with_reducible first | exact HB.out | apply below_alloc | apply pw_below_drewN | apply below_drew1 | refine below_set ?_ GE159.out | refine below_set ?_ GE160.out) | exact HB.out)⟩
            ·
             replace c85 := Bool.eq_false_iff.mpr c85
             subst c85
             have H1 : (some (3, a1, (a0.extract (a1 : Int).toNat (x7_63 : Int).toNat), (a0.extract (x7_12 : Int).toNat (x7_63 : Int).toNat), x161004_12, x161005_12, 0)) = some (r1, r2, r3, r4, r5, r6, r7) := by rw [if_neg (show ¬ (false = true) by decide)] at H; exact H
             clear H
             have H := H1
             clear H1
             simp only [Option.some.injEq, Prod.mk.injEq] at H
             obtain ⟨rfl, rfl, rfl, rfl, rfl, rfl, rfl⟩ := H
             have hnb89 := NB160_159.out
             have hnc89 := NB159_160.out
             have hcz90_0 : wc.cell? ⟨gb160, 0, none⟩ = some (.int .i64 3) := (blk_cell BK160.out 0).trans rfl
             have hcz90_1 : wc.cell? ⟨gb160, 1, none⟩ = some (.int .i64 a1) := (blk_cell BK160.out 1).trans rfl
             have hcz90_2 : wc.cell? ⟨gb160, 2, none⟩ = some (.string (a0.extract (a1 : Int).toNat (x7_63 : Int).toNat)) := (blk_cell BK160.out 2).trans rfl
             have hcz90_3 : wc.cell? ⟨gb160, 3, none⟩ = some (.string (a0.extract (x7_12 : Int).toNat (x7_63 : Int).toNat)) := (blk_cell BK160.out 3).trans rfl
             have hcz90_4 : wc.cell? ⟨gb160, 4, none⟩ = some (.int .u64 x161004_12) := (blk_cell BK160.out 4).trans rfl
             have hcz90_5 : wc.cell? ⟨gb160, 5, none⟩ = some (.bool x161005_12) := (blk_cell BK160.out 5).trans rfl
             have hfz90_0 := blk_frozen BK160.out 0
             have hfz90_1 := blk_frozen BK160.out 1
             have hfz90_2 := blk_frozen BK160.out 2
             have hfz90_3 := blk_frozen BK160.out 3
             have hfz90_4 := blk_frozen BK160.out 4
             have hfz90_5 := blk_frozen BK160.out 5
             have hcz91_0 : wc.cell? ⟨gb159, 0, none⟩ = some (.int .i64 x160000_12) := (blk_cell BK159.out 0).trans rfl
             have hcz91_1 : wc.cell? ⟨gb159, 1, none⟩ = some (.int .i64 x160001_12) := (blk_cell BK159.out 1).trans rfl
             have hcz91_2 : wc.cell? ⟨gb159, 2, none⟩ = some (.string x160002_12) := (blk_cell BK159.out 2).trans rfl
             have hcz91_3 : wc.cell? ⟨gb159, 3, none⟩ = some (.string x160003_12) := (blk_cell BK159.out 3).trans rfl
             have hcz91_4 : wc.cell? ⟨gb159, 4, none⟩ = some (.int .u64 x160004_12) := (blk_cell BK159.out 4).trans rfl
             have hcz91_5 : wc.cell? ⟨gb159, 5, none⟩ = some (.bool x160005_12) := (blk_cell BK159.out 5).trans rfl
             have hfz91_0 := blk_frozen BK159.out 0
             have hfz91_1 := blk_frozen BK159.out 1
             have hfz91_2 := blk_frozen BK159.out 2
             have hfz91_3 := blk_frozen BK159.out 3
             have hfz91_4 := blk_frozen BK159.out 4
             have hfz91_5 := blk_frozen BK159.out 5
             go_wp2
             refine bodyPost_ret (results_ct rfl _ _ gb159 33 #[.int .i64 3, .int .i64 a1, .string (a0.extract (a1 : Int).toNat (x7_63 : Int).toNat), .string (a0.extract (x7_12 : Int).toNat (x7_63 : Int).toNat), .int .u64 x161004_12, .bool x161005_12] (0, 0) _ rfl (by (with_reducible repeat (first | refine blk_drewN ?_ _ | refine blk_drew ?_ | refine blk_alloc ?_ _)); refine blk_put (cs := #[.int .i64 3, .int .i64 a1, .string (a0.extract (a1 : Int).toNat (x7_63 : Int).toNat), .string (a0.extract (x7_12 : Int).toNat (x7_63 : Int).toNat), .int .u64 x161004_12, .bool x160005_12]) ?_ 5 _ rfl; (with_reducible repeat (first | refine blk_drewN ?_ _ | refine blk_drew ?_ | refine blk_alloc ?_ _)); refine blk_put (cs := #[.int .i64 3, .int .i64 a1, .string (a0.extract (a1 : Int).toNat (x7_63 : Int).toNat), .string (a0.extract (x7_12 : Int).toNat (x7_63 : Int).toNat), .int .u64 x160004_12, .bool x160005_12]) ?_ 4 _ rfl; (with_reducible repeat (first | refine blk_drewN ?_ _ | refine blk_drew ?_ | refine blk_alloc ?_ _)); refine blk_put (cs := #[.int .i64 3, .int .i64 a1, .string (a0.extract (a1 : Int).toNat (x7_63 : Int).toNat), .string x160003_12, .int .u64 x160004_12, .bool x160005_12]) ?_ 3 _ rfl; (with_reducible repeat (first | refine blk_drewN ?_ _ | refine blk_drew ?_ | refine blk_alloc ?_ _)); refine blk_put (cs := #[.int .i64 3, .int .i64 a1, .string x160002_12, .string x160003_12, .int .u64 x160004_12, .bool x160005_12]) ?_ 2 _ rfl; (with_reducible repeat (first | refine blk_drewN ?_ _ | refine blk_drew ?_ | refine blk_alloc ?_ _)); refine blk_put (cs := #[.int .i64 3, .int .i64 x160001_12, .string x160002_12, .string x160003_12, .int .u64 x160004_12, .bool x160005_12]) ?_ 1 _ rfl; (with_reducible repeat (first | refine blk_drewN ?_ _ | refine blk_drew ?_ | refine blk_alloc ?_ _)); refine blk_put (cs := #[.int .i64 x160000_12, .int .i64 x160001_12, .string x160002_12, .string x160003_12, .int .u64 x160004_12, .bool x160005_12]) ?_ 0 _ rfl; (with_reducible repeat (first | refine blk_drewN ?_ _ | refine blk_drew ?_ | refine blk_alloc ?_ _)); exact BK159.out) Tryd.underlying33 rfl (by kernel_rfl)) rfl ?_
             exact ⟨by first | rfl | (simp [errW_none, errW_some] <;> rfl) | (simp [*, errW_none, errW_some] <;> rfl), by repeat (first | (with_reducible first | exact HB.out | apply below_alloc | apply pw_below_drewN | apply below_drew1 | refine below_set ?_ GE159.out | refine below_set ?_ GE160.out) | exact HB.out)⟩

end Go.Proofs.YtiljijckfkphhaaDoor.PLex
