/- word.Binary at the two inputs that the laws' 'awake' asks: 2 + 3 and 1 << 31, of 32 bits with a sign. -/
import Derived.Test.YthkcdmkimnockaaDoorProg
import Derived.WalkKit
import Derived.KernelRfl
import Derived.RowKit3
import Derived.WalkLawsBesides
import Derived.WalkSpells
import Derived.Deep.QuietTactic
import Derived.BigQuiet
import Derived.Test.YthkcdmkimnockaaDoorPWordx3
namespace Go.Proofs.YthkcdmkimnockaaDoor.Aw
open Go.RowKit Go.Proofs.YthkcdmkimnockaaDoorW.PrintWords

def word_Binary.f (b : Int) (s : Bool) (sub x y : Int) : Option (Int × Bool) :=
  if b = 32 ∧ s = true ∧ sub = 1 ∧ x = 2 ∧ y = 3 then some (5, true) else if b = 32 ∧ s = true ∧ sub = 11 ∧ x = 1 ∧ y = 31 then some (0, false) else none
set_option maxRecDepth 100000 in
set_option maxHeartbeats 4000000 in
theorem bin1 (w : World) : Calls Tryd.prog 14 #[.agg #[.int .i64 32, .bool true], .int .i64 1, .int .i64 2, .int .i64 3] w fun e w' => e = .returned (.tuple #[.int .i64 5, .bool true]) ∧ Below w.heap.size w w' := by
  go_enter Tryd.func14, Tryd.ntmps14
  go_wp2
  go_quiet (fail)
  go_wp2
  go_quiet (fail)
  go_wp2
  go_quiet (fail)
  go_wp2
  go_ret2
  refine ⟨rfl, ?_⟩
  repeat (first | exact Below.refl _ _ | apply below_alloc | apply pw_below_drewN)
theorem shift_one : PWord.word_shift.f 3 32 true 11 1 31 = some (0, false) := by
  simp [PWord.word_shift.f, PWord.word_shift.j0, PWord.word_shift.j1, shl, shr, IntKind.wrap, IntKind.bits, IntKind.signed, PWord.word_sum.f, PWord.word_Is.f, PWord.word_May.f, PWord.word_Wrap.f, wrap64]
set_option maxRecDepth 100000 in
set_option maxHeartbeats 4000000 in
theorem bin2 (w : World) : Calls Tryd.prog 14 #[.agg #[.int .i64 32, .bool true], .int .i64 11, .int .i64 1, .int .i64 31] w fun e w' => e = .returned (.tuple #[.int .i64 0, .bool false]) ∧ Below w.heap.size w w' := by
  have hb0 := Aside0.mk (Below.refl w.heap.size w)
  go_enter Tryd.func14, Tryd.ntmps14
  go_wp2_with (first | (go_at_call 31; refine (PWord.word_shift.calls 3 32 true 11 1 31 0 false _ shift_one).mono ?_; rintro e w' ⟨rfl, hb⟩) | go_in)
  go_quiet (fail)
  go_wp2_with (first | (go_at_call 31; refine (PWord.word_shift.calls 3 32 true 11 1 31 0 false _ shift_one).mono ?_; rintro e w' ⟨rfl, hb⟩) | go_in)
  go_ret2
  refine ⟨rfl, ?_⟩
  have hs := hb.size
  refine Below.trans ?_ (hb.mono (by simp; omega))
  repeat (first | exact Below.refl _ _ | apply below_alloc | apply pw_below_drewN)
theorem word_Binary.calls (b : Int) (s : Bool) (sub x y r1 : Int) (r2 : Bool) (w : World) (h : word_Binary.f b s sub x y = some (r1, r2)) :
    Calls Tryd.prog 14 #[.agg #[.int .i64 b, .bool s], .int .i64 sub, .int .i64 x, .int .i64 y] w fun e w' => e = .returned (.tuple #[.int .i64 r1, .bool r2]) ∧ Below w.heap.size w w' := by
  unfold word_Binary.f at h
  by_cases c : b = 32 ∧ s = true ∧ sub = 1 ∧ x = 2 ∧ y = 3
  · rw [if_pos c] at h
    obtain ⟨rfl, rfl, rfl, rfl, rfl⟩ := c
    obtain ⟨rfl, rfl⟩ := Prod.mk.inj (Option.some.inj h)
    exact bin1 w
  rw [if_neg c] at h
  by_cases c : b = 32 ∧ s = true ∧ sub = 11 ∧ x = 1 ∧ y = 31
  · rw [if_pos c] at h
    obtain ⟨rfl, rfl, rfl, rfl, rfl⟩ := c
    obtain ⟨rfl, rfl⟩ := Prod.mk.inj (Option.some.inj h)
    exact bin2 w
  rw [if_neg c] at h
  cases h
end Go.Proofs.YthkcdmkimnockaaDoor.Aw
