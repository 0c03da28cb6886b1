/- strings.IndexRune and strings.IndexAny at a text of two line ends, whatever bytes are gone through. -/
import Derived.Test.YtiljijckfkphhaaDoorShelf
import Derived.Test.YtiljijckfkphhaaDoorWMoreS
import Derived.Below
import Derived.Deep.Draws
import Derived.Laws.RangeString
import Derived.Deep.LoopGhost
import Derived.Deep.QuietTactic
import Derived.BigQuiet
import Derived.WalkMore
import Derived.Shelf.Strings.IndexAnyAll
namespace Go.Proofs.YtiljijckfkphhaaDoor.PLex
open Go.RowKit Go.Lib Go.Proofs.YtiljijckfkphhaaDoorW.PrintWords
set_option linter.unusedVariables false
def nlcr : ByteArray := ⟨#[10, 13]⟩
theorem nlcr_size : nlcr.size = 2 := rfl
theorem next0 (w : World) (ty : TypeId) : (Instr.next (.pointer (some ⟨w.heap.size, 0, none⟩)) true ty).run Tryd.prog (w.iter nlcr 0) = .ok (.tuple #[.bool true, .int .i64 (0 : Nat), .int .i32 10]) (w.iter nlcr 1) :=
 run_next_ascii (P := Tryd.prog) w nlcr 0 ty (by decide) (by decide)
theorem next1 (w : World) (ty : TypeId) : (Instr.next (.pointer (some ⟨w.heap.size, 0, none⟩)) true ty).run Tryd.prog (w.iter nlcr 1) = .ok (.tuple #[.bool true, .int .i64 (1 : Nat), .int .i32 13]) (w.iter nlcr 2) :=
 run_next_ascii (P := Tryd.prog) w nlcr 1 ty (by decide) (by decide)
set_option maxHeartbeats 2000000 in
set_option maxRecDepth 100000 in
theorem rune_err (w : World) : Calls Tryd.prog 40 #[.string nlcr, .int .i32 65533] w fun e w' => e = .returned (.int .i64 (-1)) ∧ Below w.heap.size w w' := by
 have hsz := nlcr_size
 go_enter Tryd.func40, Tryd.ntmps40
 go_wp2
 go_loopg [5, 6] 2 (fun g _ _ wx => ∃ i : Nat, i + g = 2 ∧ wx = w.iter nlcr i)
 case atStart => exact ⟨0, rfl, rfl⟩
 case round =>
  obtain ⟨i, hig, rfl⟩ := hrel
  cases gk with
  | zero =>
   obtain rfl : i = 2 := by omega
   have hnx := run_next_end (P := Tryd.prog) w nlcr 2
   go_wp2
   go_ret
   exact ⟨rfl, below_alloc (Below.refl _ _) _⟩
  | succ g =>
   have : i = 0 ∨ i = 1 := by omega
   rcases this with rfl | rfl
   · have hnx := fun ty => next0 w ty
     obtain rfl : g = 1 := by omega
     go_wp2
     go_roundg 1
     case measure => omega
     case rel => exact ⟨1, rfl, rfl⟩
   · have hnx := fun ty => next1 w ty
     obtain rfl : g = 0 := by omega
     go_wp2
     go_roundg 0
     case measure => omega
     case rel => exact ⟨2, rfl, rfl⟩
set_option maxHeartbeats 2000000 in
set_option maxRecDepth 100000 in
theorem rune_bad (r : Int) (w : World) (h : 128 ≤ r) (h2 : r ≠ 65533) (hv : Lib.validRune r = false) : Calls Tryd.prog 40 #[.string nlcr, .int .i32 r] w fun e w' => e = .returned (.int .i64 (-1)) ∧ Below w.heap.size w w' := by
 have hb : (r == 65533) = false := beq_eq_false_iff_ne.2 h2
 go_enter Tryd.func40, Tryd.ntmps40
 go_wp2_with (go_at_call 49; refine (Tryd.utf8_ValidRune _ _).mono ?_; rintro e w' ⟨rfl, hw⟩; rw [hw, hv])
 go_ret
 exact ⟨rfl, Below.refl _ _⟩
theorem enc_facts (r : Int) (h : 128 ≤ r) : ∃ b : UInt8, 128 ≤ b.toNat ∧ ((∃ x, Utf8.encode r = ⟨#[x, b]⟩) ∨ (∃ x y, Utf8.encode r = ⟨#[x, y, b]⟩) ∨ ∃ x y z, Utf8.encode r = ⟨#[x, y, z, b]⟩) := by
 unfold Utf8.encode
 have hc : 128 ≤ (if Utf8.valid r = true then r.toNat else Utf8.runeError) := by
  split
  · omega
  · decide
 generalize (if Utf8.valid r = true then r.toNat else Utf8.runeError) = c at hc
 refine ⟨UInt8.ofNat (0x80 + c % 64), by rw [UInt8.toNat_ofNat']; omega, ?_⟩
 simp only [if_neg (show ¬ c < 0x80 by omega)]
 split
 · exact .inl ⟨_, rfl⟩
 · split
   · exact .inr (.inl ⟨_, _, rfl⟩)
   · exact .inr (.inr ⟨_, _, _, rfl⟩)
theorem ib_none (b : UInt8) (w : World) : Calls Tryd.prog 23 #[.string ⟨#[]⟩, .int .u8 b.toNat] w fun e w' => e = .returned (.int .i64 (-1)) ∧ w' = w :=
 (Tryd.strings_IndexByte ⟨#[]⟩ b.toNat w).mono fun e w' ⟨he, hw⟩ => ⟨he, hw⟩
set_option maxHeartbeats 4000000 in
set_option maxRecDepth 100000 in
theorem rune_two (r : Int) (w : World) (h : 128 ≤ r) (h2 : r ≠ 65533) (hv : Lib.validRune r = true) (x b : UInt8) (hrs : Utf8.encode r = ⟨#[x, b]⟩) (hb2 : 128 ≤ b.toNat) :
  Calls Tryd.prog 40 #[.string nlcr, .int .i32 r] w fun e w' => e = .returned (.int .i64 (-1)) ∧ Below w.heap.size w w' := by
 have hbr : (r == 65533) = false := beq_eq_false_iff_ne.2 h2
 have hsz := nlcr_size
 have hne : ((13 : Int) == (b.toNat : Int)) = false := beq_eq_false_iff_ne.2 (by omega)
 have hne2 : ((13 : Int) != (b.toNat : Int)) = true := bne_iff_ne.2 (by omega)
 go_enter Tryd.func40, Tryd.ntmps40
 go_wp2_with (go_at_call 49; refine (Tryd.utf8_ValidRune _ _).mono ?_; rintro e w' ⟨rfl, hw⟩; rw [hw, hv])
 have i0 : ∀ w, (Instr.index 9 (.string nlcr) (.int .i64 1)).run Tryd.prog w = .ok (.int .u8 13) w := fun _ => by kernel_rfl
 have i1 : ∀ w, (Instr.index 9 (.string ⟨#[x, b]⟩) (.int .i64 1)).run Tryd.prog w = .ok (.int .u8 b.toNat) w := fun _ => rfl
 have i2 : ∀ w, (Instr.sliceAt 9 (.string nlcr) (some (.int .i64 2)) none none).run Tryd.prog w = .ok (.string ⟨#[]⟩) w := fun _ => by kernel_rfl
 have e2 : IntKind.i64.wrap ((1 : Int) + 1) = 2 := by decide
 have e3 : IntKind.i64.wrap 2 = 2 := by decide
 have e4 : (2 : Int).toNat = 2 := rfl
 have e5 : nlcr.extract 2 2 = ⟨#[]⟩ := by decide
 go_step3
 go_wp2
 go_loopg [9] 1 (fun g v9 wx => g = 1 ∧ v9 = .int .i64 1 ∧ wx = w)
 case atStart => exact ⟨rfl, rfl, rfl⟩
 case round =>
  obtain ⟨rfl, rfl, rfl⟩ := hrel
  go_wp2
  go_step3
  go_wp2
  go_quiet (fail)
  go_wp2
  go_quiet ((go_at_call 23; (with_reducible refine (ib_none b _).mono ?_); rintro e w' ⟨rfl, hw⟩; (first | exact ⟨rfl, _, hw⟩ | (subst hw; exact ⟨rfl, _, rfl⟩))))
  go_wp2
  repeat (first | rw [Exit.noGoto_ret] | (show Exit.inBlock _ _ _ _ _; simp only [Exit.inBlock]) | (show Exit.then _ _ _ _ _; simp only [Exit.then]))
  show bodyPost Tryd.prog Tryd.f40 _ Exit.ret _ _
  go_ret
  exact ⟨rfl, by repeat (first | exact Below.refl _ _ | apply pw_below_drewN)⟩
set_option maxHeartbeats 4000000 in
set_option maxRecDepth 100000 in
theorem rune_three (r : Int) (w : World) (h : 128 ≤ r) (h2 : r ≠ 65533) (hv : Lib.validRune r = true) (x y b : UInt8) (hrs : Utf8.encode r = ⟨#[x, y, b]⟩) :
  Calls Tryd.prog 40 #[.string nlcr, .int .i32 r] w fun e w' => e = .returned (.int .i64 (-1)) ∧ Below w.heap.size w w' := by
 have hbr : (r == 65533) = false := beq_eq_false_iff_ne.2 h2
 have hsz := nlcr_size
 go_enter Tryd.func40, Tryd.ntmps40
 go_wp2_with (go_at_call 49; refine (Tryd.utf8_ValidRune _ _).mono ?_; rintro e w' ⟨rfl, hw⟩; rw [hw, hv])
 go_step3
 go_wp2
 go_loopg [9] 1 (fun g v9 wx => g = 1 ∧ v9 = .int .i64 2 ∧ wx = w)
 case atStart => exact ⟨rfl, rfl, rfl⟩
 case round =>
  obtain ⟨rfl, rfl, rfl⟩ := hrel
  go_wp2
  repeat rw [Exit.noGoto_ret]
  go_ret
  exact ⟨rfl, Below.refl _ _⟩
set_option maxHeartbeats 4000000 in
set_option maxRecDepth 100000 in
theorem rune_four (r : Int) (w : World) (h : 128 ≤ r) (h2 : r ≠ 65533) (hv : Lib.validRune r = true) (x y z b : UInt8) (hrs : Utf8.encode r = ⟨#[x, y, z, b]⟩) :
  Calls Tryd.prog 40 #[.string nlcr, .int .i32 r] w fun e w' => e = .returned (.int .i64 (-1)) ∧ Below w.heap.size w w' := by
 have hbr : (r == 65533) = false := beq_eq_false_iff_ne.2 h2
 have hsz := nlcr_size
 go_enter Tryd.func40, Tryd.ntmps40
 go_wp2_with (go_at_call 49; refine (Tryd.utf8_ValidRune _ _).mono ?_; rintro e w' ⟨rfl, hw⟩; rw [hw, hv])
 go_step3
 go_wp2
 go_loopg [9] 1 (fun g v9 wx => g = 1 ∧ v9 = .int .i64 3 ∧ wx = w)
 case atStart => exact ⟨rfl, rfl, rfl⟩
 case round =>
  obtain ⟨rfl, rfl, rfl⟩ := hrel
  go_wp2
  repeat rw [Exit.noGoto_ret]
  go_ret
  exact ⟨rfl, Below.refl _ _⟩
/-- strings.IndexRune of a letter beyond ASCII in a text of two line ends: there is none. -/
theorem rune_high (r : Int) (w : World) (h : 128 ≤ r) : Calls Tryd.prog 40 #[.string nlcr, .int .i32 r] w fun e w' => e = .returned (.int .i64 (-1)) ∧ Below w.heap.size w w' := by
 by_cases h2 : r = 65533
 · subst h2; exact rune_err w
 cases hv : Lib.validRune r with
 | false => exact rune_bad r w h h2 hv
 | true =>
  obtain ⟨b, hb, ⟨x, e⟩ | ⟨x, y, e⟩ | ⟨x, y, z, e⟩⟩ := enc_facts r h
  · exact rune_two r w h h2 hv x b e hb
  · exact rune_three r w h h2 hv x y b e
  · exact rune_four r w h h2 hv x y z b e
end Go.Proofs.YtiljijckfkphhaaDoor.PLex

namespace Go.Proofs.YtiljijckfkphhaaDoor.PLex
open Go.RowKit Go.Lib Go.Proofs.YtiljijckfkphhaaDoorW.PrintWords
set_option linter.unusedVariables false
theorem get_at_ (s : ByteArray) (p : Nat) (h : p < s.size) : s.get! p = s[p]'h := by
 simp [ByteArray.get!, getElem!_pos, h]
 rfl
/-- What stands for a letter beyond ASCII: bytes beyond ASCII. -/
theorem decode_high (s : ByteArray) (p : Nat) (h : p < s.size) (hb : 128 ≤ (s[p]'h).toNat) :
  128 ≤ (Utf8.decode s p).1 ∧ 1 ≤ (Utf8.decode s p).2 ∧ p + (Utf8.decode s p).2 ≤ s.size ∧ ∀ j, j < (Utf8.decode s p).2 → ∀ hj : p + j < s.size, 128 ≤ (s[p + j]'hj).toNat := by
 have e0 : (s.get! (p + 0)).toNat = (s[p]'h).toNat := by rw [Nat.add_zero, get_at_ s p h]
 have ek : ∀ k, (decide (p + k < s.size) && (s.get! (p + k)).toNat / 64 == 2) = true → ∃ hk : p + k < s.size, 128 ≤ (s[p + k]'hk).toNat := by
  intro k hk
  simp only [Bool.and_eq_true, decide_eq_true_eq, beq_iff_eq] at hk
  refine ⟨hk.1, ?_⟩
  rw [get_at_ s _ hk.1] at hk
  omega
 have one : 128 ≤ Utf8.runeError ∧ 1 ≤ 1 ∧ p + 1 ≤ s.size ∧ ∀ j, j < 1 → ∀ hj : p + j < s.size, 128 ≤ (s[p + j]'hj).toNat := by
  refine ⟨by decide, by omega, by omega, fun j hj hjs => ?_⟩
  obtain rfl : j = 0 := by omega
  exact hb
 unfold Utf8.decode
 simp only [e0]
 rw [if_neg (by omega)]
 split
 · rename_i c
   rw [Bool.and_eq_true] at c
   obtain ⟨h1, b1⟩ := ek 1 c.2
   split
   · refine ⟨by assumption, by simp, by simp only; omega, fun j hj hjs => ?_⟩
     have : j = 0 ∨ j = 1 := by simp only at hj; omega
     rcases this with rfl | rfl
     · exact hb
     · exact b1
   · exact one
 · split
   · rename_i c
     rw [Bool.and_eq_true, Bool.and_eq_true] at c
     obtain ⟨h1, b1⟩ := ek 1 c.1.2
     obtain ⟨h2, b2⟩ := ek 2 c.2
     split
     · rename_i d
       rw [Bool.and_eq_true, decide_eq_true_eq] at d
       refine ⟨by simp only; omega, by simp, by simp only; omega, fun j hj hjs => ?_⟩
       have : j = 0 ∨ j = 1 ∨ j = 2 := by simp only at hj; omega
       rcases this with rfl | rfl | rfl
       · exact hb
       · exact b1
       · exact b2
     · exact one
   · split
     · rename_i c
       rw [Bool.and_eq_true, Bool.and_eq_true, Bool.and_eq_true] at c
       obtain ⟨h1, b1⟩ := ek 1 c.1.1.2
       obtain ⟨h2, b2⟩ := ek 2 c.1.2
       obtain ⟨h3, b3⟩ := ek 3 c.2
       split
       · rename_i d
         rw [Bool.and_eq_true, decide_eq_true_eq] at d
         refine ⟨by simp only; omega, by simp, by simp only; omega, fun j hj hjs => ?_⟩
         have : j = 0 ∨ j = 1 ∨ j = 2 ∨ j = 3 := by simp only at hj; omega
         rcases this with rfl | rfl | rfl | rfl
         · exact hb
         · exact b1
         · exact b2
         · exact b3
       · exact one
     · exact one
end Go.Proofs.YtiljijckfkphhaaDoor.PLex

namespace Go.Proofs.YtiljijckfkphhaaDoor.PLex
open Go.RowKit Go.Lib Go.Proofs.YtiljijckfkphhaaDoorW.PrintWords
set_option linter.unusedVariables false
def nlcrL : List UInt8 := [10, 13]
theorem high_not (x : UInt8) (hx : 128 ≤ x.toNat) : nlcrL.contains x = false := by
 have h10 : (x == 10) = false := beq_eq_false_iff_ne.2 (fun e => by subst e; revert hx; decide)
 have h13 : (x == 13) = false := beq_eq_false_iff_ne.2 (fun e => by subst e; revert hx; decide)
 simp [nlcrL, List.contains, List.elem, h10, h13]
theorem noAny_wide {s : ByteArray} {i k : Nat} (h : Lib.NoAny s.data.toList nlcrL i) (hb : ∀ j, j < k → ∀ hj : i + j < s.size, 128 ≤ (s[i + j]'hj).toNat) : Lib.NoAny s.data.toList nlcrL (i + k) := by
 intro j b hj hjb
 by_cases hlt : j < i
 · exact h j b hlt hjb
 · have hjs : j < s.size := by
    have h1 := (List.getElem?_eq_some_iff.1 hjb).1
    rw [← Lib.size_eq] at h1
    exact h1
   obtain ⟨q, rfl⟩ : ∃ q, j = i + q := ⟨j - i, by omega⟩
   have h1 := hb q (by omega) hjs
   rw [Lib.data_getElem? s (i + q) hjs] at hjb
   injection hjb with hjb
   subst hjb
   exact high_not _ h1
def putIter (w : World) (B : Nat) (s : ByteArray) (p : Nat) : World := { w with heap := w.heap.setIfInBounds B (.stringIter s p) }
theorem putIter_at {w : World} {B : Nat} {s : ByteArray} {p q : Nat} (h : w.heap[B]? = some (.stringIter s p)) : (putIter w B s q).heap[B]? = some (.stringIter s q) := by
 have := (Array.getElem?_eq_some_iff.1 h).1
 simp [putIter, Array.getElem?_setIfInBounds_self_of_lt this]
theorem putIter_below {w0 w : World} {B : Nat} {s : ByteArray} {q : Nat} (h : Below B w0 w) : Below B w0 (putIter w B s q) :=
 ⟨h.os, h.tape, h.output, by simpa [putIter] using h.size, fun k hk => by
  rw [← h.block k hk]
  simp [putIter, Array.getElem?_setIfInBounds_ne (show B ≠ k by omega)]⟩
theorem run_next_at {w : World} {B : Nat} {s : ByteArray} {pos : Nat} (ty : TypeId) (hB : w.heap[B]? = some (.stringIter s pos)) (h : pos < s.size) :
  (Instr.next (.pointer (some ⟨B, 0, none⟩)) true ty).run Tryd.prog w = .ok (.tuple #[.bool true, .int .i64 pos, .int .i32 (Utf8.decode s pos).1]) (putIter w B s (pos + (Utf8.decode s pos).2)) := by
 simp only [Instr.next, getObj, setObj, Sem.run_bind, Sem.run, hB, Result.andThen, h, if_true]
 rfl
theorem run_next_over {w : World} {B : Nat} {s : ByteArray} {pos : Nat} (ty : TypeId) (hB : w.heap[B]? = some (.stringIter s pos)) (h : ¬ pos < s.size) :
  (Instr.next (.pointer (some ⟨B, 0, none⟩)) true ty).run Tryd.prog w = .ok (.tuple #[.bool false]) w := by
 simp only [Instr.next, getObj, Sem.run_bind, Sem.run, hB, Result.andThen, h, if_false]
 rfl
theorem iter_at (w : World) (s : ByteArray) : (w.iter s 0).heap[w.heap.size]? = some (.stringIter s 0) := World.iter_heap w s 0
theorem iter_below (w : World) (s : ByteArray) : Below w.heap.size w (w.iter s 0) := below_alloc (Below.refl _ _) _
theorem rune_low (x : UInt8) (w : World) (h : x.toNat < 128) : Calls Tryd.prog 40 #[.string nlcr, .int .i32 x.toNat] w fun e w' => e = .returned (.int .i64 (Lib.indexByte nlcrL x)) ∧ w' = w :=
 (Tryd.strings_IndexRune_ascii nlcr x.toNat w (by omega) (by omega)).mono fun e w' ⟨he, hw⟩ => ⟨by
  have : ((x.toNat : Int)).toNat.toUInt8 = x := by simp
  rw [this] at he
  exact he, hw⟩
set_option maxHeartbeats 8000000 in
set_option maxRecDepth 1000000 in
theorem any_short (s : ByteArray) (w : World) (h8 : s.size ≤ 8) :
    Calls Tryd.prog 25 #[.string s, .string nlcr] w fun e w' => e = .returned (.int .i64 (Lib.indexAny s.data.toList nlcrL)) ∧ Below w.heap.size w w' := by
  have hemp : nlcr.toList.isEmpty = false := by rw [Lib.toList_data]; rfl
  have hsz := nlcr_size
  have h8z : decide ((8 : Int) < (s.size : Int)) = false := decide_eq_false (by omega)
  have hit := iter_at w s
  have hib := iter_below w s
  have HIT := Aside0.mk hit
  have HIB := Aside0.mk hib
  clear hit hib
  go_enter Tryd.func25, Tryd.ntmps25
  go_wp2_with (go_at_call 41; refine (Tryd.strings_shouldUseASCIISet _ _).mono ?_; rintro e w' ⟨rfl, hw⟩; rw [hw, h8z])
  go_loopg [9, 10] s.size (fun g _ _ wx => ∃ i : Nat, Aside0 (s.size ≤ i + g ∧ i ≤ s.size) ∧ Aside0 (wx.heap[w.heap.size]? = some (.stringIter s i)) ∧ Aside0 (Lib.NoAny s.data.toList nlcrL i) ∧ Aside0 (Below w.heap.size w wx))
  case atStart => exact ⟨0, ⟨by omega, by omega⟩, HIT, ⟨Lib.NoAny.zero _ _⟩, HIB⟩
  case round =>
    obtain ⟨i, HI, HH, HN, HB⟩ := hrel
    by_cases hi : i < s.size
    · obtain ⟨x, hx⟩ : ∃ x : UInt8, s[i]'hi = x := ⟨_, rfl⟩
      have hxl : s.data.toList[i]? = some x := by rw [← hx]; exact Lib.data_getElem? s i hi
      have hnx := fun ty => run_next_at ty HH.out hi
      obtain ⟨g, rfl⟩ : ∃ g, gk = g + 1 := ⟨gk - 1, by have := HI.out; omega⟩
      by_cases ha : x.toNat < 128
      · have hd : Utf8.decode s i = (x.toNat, 1) := by rw [← hx]; exact decode_ascii s i hi (by rw [hx]; exact ha)
        rw [hd] at hnx
        have HB2 := Aside0.mk (putIter_below (s := s) (q := i + 1) HB.out)
        have HH2 := Aside0.mk (putIter_at (q := i + 1) HH.out)
        have Hx := Aside0.mk hxl
        have HA := Aside0.mk ha
        have Hi := Aside0.mk hi
        clear hxl hx ha hd hi
        have hcon := Lib.contains_iff_indexByte nlcrL x
        cases hin : nlcrL.contains x
        · rw [hin] at hcon
          have hlt : ¬ ((0 : Int) ≤ Lib.indexByte nlcrL x) := of_decide_eq_false hcon.symm
          have HIN := Aside0.mk hin
          clear hcon hin
          go_wp2_with (go_at_call 40; refine (rune_low x _ HA.out).mono ?_; rintro e w' ⟨rfl, hw⟩; rw [hw])
          go_roundg g
          case measure => omega
          case rel => exact ⟨i + 1, ⟨by have := HI.out; have := Hi.out; omega⟩, HH2, ⟨HN.out.succ Hx.out HIN.out⟩, HB2⟩
        · rw [hin] at hcon
          have hge : (0 : Int) ≤ Lib.indexByte nlcrL x := of_decide_eq_true hcon.symm
          have HIN := Aside0.mk hin
          clear hcon hin
          go_wp2_with (go_at_call 40; refine (rune_low x _ HA.out).mono ?_; rintro e w' ⟨rfl, hw⟩; rw [hw])
          go_ret
          exact ⟨by rw [Lib.indexAny_hit HN.out Hx.out HIN.out]; rfl, HB2.out⟩
      · have hd := decode_high s i hi (by rw [hx]; omega)
        obtain ⟨c, k, hck⟩ : ∃ c k, Utf8.decode s i = (c, k) := ⟨_, _, rfl⟩
        rw [hck] at hd hnx
        obtain ⟨d1, d2, d3, d4⟩ := hd
        have HB2 := Aside0.mk (putIter_below (s := s) (q := i + k) HB.out)
        have HH2 := Aside0.mk (putIter_at (q := i + k) HH.out)
        have HN2 := Aside0.mk (noAny_wide HN.out d4)
        have HD := Aside0.mk (show 1 ≤ k ∧ i + k ≤ s.size from ⟨d2, d3⟩)
        have HC := Aside0.mk (show (128 : Int) ≤ (c : Int) by simp only at d1; omega)
        clear hxl hx ha hi d1 d2 d3 d4 hck
        go_wp2_with (go_at_call 40; refine (rune_high _ _ HC.out).mono ?_; rintro e w5 ⟨rfl, hb5⟩; have HB5 := Aside0.mk hb5; clear hb5)
        go_roundg g
        case measure => omega
        case rel => exact ⟨i + k, ⟨by have := HI.out; have := HD.out; omega⟩, ⟨(HB5.out.block _ ((Array.getElem?_eq_some_iff.1 HH2.out).1)).trans HH2.out⟩, HN2, ⟨HB2.out.trans (HB5.out.mono HB2.out.size)⟩⟩
    · have hnx := fun ty => run_next_over ty HH.out hi
      have hil : i = s.data.toList.length := by have := HI.out; rw [← Lib.size_eq]; omega
      have HIL := Aside0.mk hil
      clear hil
      go_wp2
      go_ret
      exact ⟨by have := HN.out; rw [HIL.out] at this; rw [Lib.indexAny_none this]; rfl, HB.out⟩
end Go.Proofs.YtiljijckfkphhaaDoor.PLex
