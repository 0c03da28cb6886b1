/- lex.reader.token, from a letter on. -/
import Derived.Test.YtiljijckfkphhaaDoorLxTok
import Derived.Test.YtiljijckfkphhaaDoorLxAny
namespace Go.Proofs.YtiljijckfkphhaaDoor.PLex
open Go.RowKit Go.Proofs.YtiljijckfkphhaaDoorW.PrintWords Go.Proofs.YtiljijckfkphhaaDoorW.PrintLast Go.Proofs.YtiljijckfkphhaaDoorW.PrintMore
set_option linter.unusedVariables false
set_option linter.unusedSectionVars false
set_option linter.unusedSimpArgs false
theorem put6 {w : World} {B : Nat} (h : w.heap[B]? = some (.cells #[.int .i64 0, .int .i64 0, .string ⟨#[]⟩, .string ⟨#[]⟩, .int .u64 0, .bool false] 33 (0, 0))) (k b : Int) (c d : ByteArray) (m : Int) (f : Bool) :
 ((((((w.setCell ⟨B, 0, none⟩ (.int .i64 k)).setCell ⟨B, 1, none⟩ (.int .i64 b)).setCell ⟨B, 2, none⟩ (.string c)).setCell ⟨B, 3, none⟩ (.string d)).setCell ⟨B, 4, none⟩ (.int .u64 m)).setCell ⟨B, 5, none⟩ (.bool f)).heap[B]? = some (.cells #[.int .i64 k, .int .i64 b, .string c, .string d, .int .u64 m, .bool f] 33 (0, 0)) :=
 blk_put (blk_put (blk_put (blk_put (blk_put (blk_put h 0 _ rfl) 1 _ rfl) 2 _ rfl) 3 _ rfl) 4 _ rfl) 5 _ rfl
theorem res18 {tmps : Array Value} {w : World} {B : Nat} {k b m n : Int} {c d : ByteArray} {f : Bool} (h2 : tmps[2]? = some (.pointer (some ⟨B, 0, none⟩))) (h3 : tmps[3]? = some (.int .i64 n))
 (hg : w.heap[B]? = some (.cells #[.int .i64 k, .int .i64 b, .string c, .string d, .int .u64 m, .bool f] 33 (0, 0))) : (results Tryd.f18 tmps).run Tryd.prog w = .ok (.tuple #[tokV k b c d m f, .int .i64 n]) w := by
 have := results_ct (P := Tryd.prog) (fn := Tryd.f18) (p := 2) (u := 3) (ty := 33) rfl tmps w B 33 _ (0, 0) _ (by rw [Array.getD_eq_getD_getElem?, h2]; rfl) hg Tryd.underlying33 rfl (by kernel_rfl)
 rw [this, Array.getD_eq_getD_getElem?, h3]
 rfl
section
variable (g : Nat) (s R : ByteArray) (a : Int) (w0 w : World) (hI : IsS45 w0 w g s a) (hB : Below w0.heap.size w0 w)
  (hsl : ∀ w, (Instr.sliceAt 9 (.string s) (some (.int .i64 a)) none none).run Tryd.prog w = .ok (.string R) w) (h1 : 1 ≤ R.size) (c : Int) (hi0 : ∀ w, (Instr.index 9 (.string R) (.int .i64 0)).run Tryd.prog w = .ok (.int .u8 c) w)
include hI hB hsl h1 hi0
set_option maxHeartbeats 1000000 in
set_option maxRecDepth 100000 in
/-- A letter is taken by letter. -/
theorem token_letter (hc : c = 39) (r : Except Int TK) (hl : ∀ w', IsS45 w0 w' g s a → Below w0.heap.size w0 w' → Calls Tryd.prog 29 #[.pointer (some ⟨g, 0, none⟩)] w' (TokPost g s a w0 w' r)) :
  Calls Tryd.prog 18 #[.pointer (some ⟨g, 0, none⟩)] w (TokPost g s a w0 w r) := by
 have HL := Aside0.mk hl
 have HI0 := Aside0.mk hI
 have HB := Aside0.mk hB
 have HK := Aside0.mk (KeepBut.refl w g none)
 clear hB hl
 subst hc
 obtain ⟨HGz, hgz⟩ := hI
 have hc0 := cellS45_0 HGz
 have hc1 := cellS45_1 HGz
 have hf0 := blk_frozen HGz 0
 have hf1 := blk_frozen HGz 1
 have hlt : g < w.heap.size := HI0.out.lt
 clear HGz hgz
 have hd : lex_digit.f 39 = some false := digit_eq 39
 go_enter Tryd.func18, Tryd.ntmps18
 go_wp2
 go_quiet (fail)
 go_wp2_with (go_at_call 27; (with_reducible refine (lex_digit.calls 39 false _ hd).mono ?_); rintro e w' ⟨rfl, ⟨nd, rfl⟩⟩)
 refine (HL.out _ (by repeat (first | (with_reducible first | exact HI0.out | apply IsS45.alloc | apply IsS45.drewN | apply IsS45.drew) | exact HI0.out)) (by repeat (first | (with_reducible first | exact HB.out | apply below_alloc | apply pw_below_drewN | apply below_drew1) | exact HB.out))).mono ?_
 rintro e w5 ⟨hb5, hk5, hr5⟩
 have hblk := hk5.blk (g' := w.heap.size) (o := .cells #[.int .i64 0, .int .i64 0, .string ⟨#[]⟩, .string ⟨#[]⟩, .int .u64 0, .bool false] 33 (0, 0)) (by (with_reducible repeat (first | refine blk_drewN ?_ _ | refine blk_drew ?_)); exact blk_new _ _) (by omega) (by simp)
 have hkk : KeepBut w w5 g none := KeepBut.trans (by repeat (first | (with_reducible first | exact HK.out | apply keep_alloc | apply keep_drewN | apply keep_drew) | exact HK.out)) hk5 (.inl rfl)
 have HBK := Aside0.mk hblk
 have HK5 := Aside0.mk hkk
 have HB5 := Aside0.mk hb5
 have z0 := (blk_cell hblk 0).trans rfl
 have z1 := (blk_cell hblk 1).trans rfl
 have z2 := (blk_cell hblk 2).trans rfl
 have z3 := (blk_cell hblk 3).trans rfl
 have z4 := (blk_cell hblk 4).trans rfl
 have z5 := (blk_cell hblk 5).trans rfl
 have y0 := blk_frozen hblk 0
 have y1 := blk_frozen hblk 1
 have y2 := blk_frozen hblk 2
 have y3 := blk_frozen hblk 3
 have y4 := blk_frozen hblk 4
 have y5 := blk_frozen hblk 5
 clear hblk hkk hb5 hk5
 cases r with
 | error n =>
  obtain ⟨⟨k, b, x, d, m, f, rfl⟩, hi5⟩ := hr5
  have HI5 := Aside0.mk hi5
  clear hi5
  go_wp2
  refine bodyPost_ret (v := .tuple #[tokV k b x d m f, .int .i64 n]) ?hr rfl ?_
  case hr => exact res18 rfl rfl (put6 HBK.out k b x d m f)
  refine ⟨?_, ?_, ⟨k, b, x, d, m, f, rfl⟩, ?_⟩
  · (with_reducible repeat (first | exact HB5.out | refine below_set ?_ HB.out.size))
  · (with_reducible repeat (first | exact HK5.out | refine keep_far ?_ (Nat.le_refl _) _))
  · (with_reducible repeat (first | exact HI5.out | refine IsS45.far ?_ (Nat.ne_of_lt hlt) _))
 | ok t =>
  obtain ⟨rfl, hi5⟩ := hr5
  have HI5 := Aside0.mk hi5
  clear hi5
  go_wp2
  refine bodyPost_ret (v := .tuple #[tokV t.kind a t.text t.suffix t.num t.hex, .int .i64 0]) ?hr2 rfl ?_
  case hr2 => exact res18 rfl rfl (put6 HBK.out _ _ _ _ _ _)
  refine ⟨?_, ?_, rfl, ?_⟩
  · (with_reducible repeat (first | exact HB5.out | refine below_set ?_ HB.out.size))
  · (with_reducible repeat (first | exact HK5.out | refine keep_far ?_ (Nat.le_refl _) _))
  · (with_reducible repeat (first | exact HI5.out | refine IsS45.far ?_ (Nat.ne_of_lt hlt) _))
end
end Go.Proofs.YtiljijckfkphhaaDoor.PLex
