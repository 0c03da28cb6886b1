/- strconv.Itoa at the four widths that a number may have (8, 16, 32, 64): it returns the two digits (one at 8) and leaves the world alone. -/
import Derived.Test.YthkcdmkimnockaaDoorProg
import Derived.WalkKit
import Derived.KernelRfl
import Derived.RowKit3
import Derived.WalkLawsBesides
import Derived.WalkSpells
import Derived.Test.YthkcdmkimnockaaDoorWMoreS
namespace Go.Proofs.YthkcdmkimnockaaDoor.Itoa
open Go.RowKit Go.Proofs.YthkcdmkimnockaaDoorW.PrintWords

def strconv_Itoa.f (n : Int) : Option ByteArray := if n = 8 then some ⟨#[56]⟩ else if n = 16 then some ⟨#[49, 54]⟩ else if n = 32 then some ⟨#[51, 50]⟩ else if n = 64 then some ⟨#[54, 52]⟩ else none

set_option maxRecDepth 100000 in
theorem itoa8 (w : World) : Calls Tryd.prog 40 #[.int .i64 8] w fun e w' => e = .returned (.string ⟨#[56]⟩) ∧ w = w' := by
  go_enter Tryd.func40, Tryd.ntmps40
  go_wp2
  go_ret
  exact ⟨rfl, rfl⟩
set_option maxRecDepth 100000 in
theorem itoa16 (w : World) : Calls Tryd.prog 40 #[.int .i64 16] w fun e w' => e = .returned (.string ⟨#[49, 54]⟩) ∧ w = w' := by
  go_enter Tryd.func40, Tryd.ntmps40
  go_wp2
  go_ret
  exact ⟨rfl, rfl⟩
set_option maxRecDepth 100000 in
theorem itoa32 (w : World) : Calls Tryd.prog 40 #[.int .i64 32] w fun e w' => e = .returned (.string ⟨#[51, 50]⟩) ∧ w = w' := by
  go_enter Tryd.func40, Tryd.ntmps40
  go_wp2
  go_ret
  exact ⟨rfl, rfl⟩
set_option maxRecDepth 100000 in
theorem itoa64 (w : World) : Calls Tryd.prog 40 #[.int .i64 64] w fun e w' => e = .returned (.string ⟨#[54, 52]⟩) ∧ w = w' := by
  go_enter Tryd.func40, Tryd.ntmps40
  go_wp2
  go_ret
  exact ⟨rfl, rfl⟩

theorem strconv_Itoa.calls (n : Int) (r : ByteArray) (w : World) (h : strconv_Itoa.f n = some r) :
    Calls Tryd.prog 40 #[.int .i64 n] w fun e w' => e = .returned (.string r) ∧ Drawn0 w w' := by
  unfold strconv_Itoa.f at h
  by_cases h8 : n = 8
  · rw [if_pos h8] at h
    obtain rfl := Option.some.inj h
    subst h8
    refine (itoa8 w).mono ?_
    rintro e w' ⟨rfl, rfl⟩
    exact ⟨rfl, Drawn0.refl _⟩
  rw [if_neg h8] at h
  by_cases h16 : n = 16
  · rw [if_pos h16] at h
    obtain rfl := Option.some.inj h
    subst h16
    refine (itoa16 w).mono ?_
    rintro e w' ⟨rfl, rfl⟩
    exact ⟨rfl, Drawn0.refl _⟩
  rw [if_neg h16] at h
  by_cases h32 : n = 32
  · rw [if_pos h32] at h
    obtain rfl := Option.some.inj h
    subst h32
    refine (itoa32 w).mono ?_
    rintro e w' ⟨rfl, rfl⟩
    exact ⟨rfl, Drawn0.refl _⟩
  rw [if_neg h32] at h
  by_cases h64 : n = 64
  · rw [if_pos h64] at h
    obtain rfl := Option.some.inj h
    subst h64
    refine (itoa64 w).mono ?_
    rintro e w' ⟨rfl, rfl⟩
    exact ⟨rfl, Drawn0.refl _⟩
  rw [if_neg h64] at h
  cases h

end Go.Proofs.YthkcdmkimnockaaDoor.Itoa
