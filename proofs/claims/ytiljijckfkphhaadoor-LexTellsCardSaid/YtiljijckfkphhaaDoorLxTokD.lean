/- lex.reader.token, at a digit. -/
import Derived.Test.YtiljijckfkphhaaDoorLxTokL
import Derived.RegionTactic
import Derived.ChangeAlike
import Derived.Deep.RegionWith
import Derived.StillTailTactics
namespace Go.Proofs.YtiljijckfkphhaaDoor.PLex
open Go.RowKit Go.Proofs.YtiljijckfkphhaaDoorW.PrintWords Go.Proofs.YtiljijckfkphhaaDoorW.PrintLast Go.Proofs.YtiljijckfkphhaaDoorW.PrintMore
set_option linter.unusedVariables false
set_option linter.unusedSectionVars false
set_option linter.unusedSimpArgs false
section
variable (g : Nat) (s R : ByteArray) (a : Int) (w0 w : World) (hI : IsS45 w0 w g s a) (hB : Below w0.heap.size w0 w)
  (hsl : ∀ w, (Instr.sliceAt 9 (.string s) (some (.int .i64 a)) none none).run Tryd.prog w = .ok (.string R) w) (h1 : 1 ≤ R.size) (c : Int) (hi0 : ∀ w, (Instr.index 9 (.string R) (.int .i64 0)).run Tryd.prog w = .ok (.int .u8 c) w)
include hI hB hsl h1 hi0
set_option maxHeartbeats 1000000 in
set_option maxRecDepth 100000 in
/-- A number is taken by number. -/
theorem token_number (hc : digitB c = true) (r : Except Int TK) (hl : ∀ w', IsS45 w0 w' g s a → Below w0.heap.size w0 w' → Calls Tryd.prog 28 #[.pointer (some ⟨g, 0, none⟩)] w' (TokPost g s a w0 w' r)) :
  Calls Tryd.prog 18 #[.pointer (some ⟨g, 0, none⟩)] w (TokPost g s a w0 w r) := by
 have HL := Aside0.mk hl
 have HI0 := Aside0.mk hI
 have HB := Aside0.mk hB
 have HK := Aside0.mk (KeepBut.refl w g none)
 clear hB hl
 obtain ⟨HGz, hgz⟩ := hI
 have hc0 := cellS45_0 HGz
 have hc1 := cellS45_1 HGz
 have hf0 := blk_frozen HGz 0
 have hf1 := blk_frozen HGz 1
 have hlt : g < w.heap.size := HI0.out.lt
 clear HGz hgz
 have hd : lex_digit.f c = some true := (digit_eq c).trans (congrArg some hc)
 clear hc
 go_enter Tryd.func18, Tryd.ntmps18
 go_wp2
 go_quiet (fail)
 go_wp2_with (go_at_call 27; (with_reducible refine (lex_digit.calls c true _ hd).mono ?_); rintro e w' ⟨rfl, ⟨nd, rfl⟩⟩)
 refine (HL.out _ (by repeat (first | (with_reducible first | exact HI0.out | apply IsS45.alloc | apply IsS45.drewN | apply IsS45.drew) | exact HI0.out)) (by repeat (first | (with_reducible first | exact HB.out | apply below_alloc | apply pw_below_drewN | apply below_drew1) | exact HB.out))).mono ?_
 rintro e w5 ⟨hb5, hk5, hr5⟩
 have hblk := hk5.blk (g' := w.heap.size) (o := .cells #[.int .i64 0, .int .i64 0, .string ⟨#[]⟩, .string ⟨#[]⟩, .int .u64 0, .bool false] 33 (0, 0)) (by (with_reducible repeat (first | refine blk_drewN ?_ _ | refine blk_drew ?_)); exact blk_new _ _) (by omega) (by simp)
 have hkk : KeepBut w w5 g none := KeepBut.trans (by repeat (first | (with_reducible first | exact HK.out | apply keep_alloc | apply keep_drewN | apply keep_drew) | exact HK.out)) hk5 (.inl rfl)
 have HBK := Aside0.mk hblk
 have HK5 := Aside0.mk hkk
 have HB5 := Aside0.mk hb5
 have z0 := (blk_cell hblk 0).trans rfl
 have z1 := (blk_cell hblk 1).trans rfl
 have z2 := (blk_cell hblk 2).trans rfl
 have z3 := (blk_cell hblk 3).trans rfl
 have z4 := (blk_cell hblk 4).trans rfl
 have z5 := (blk_cell hblk 5).trans rfl
 have y0 := blk_frozen hblk 0
 have y1 := blk_frozen hblk 1
 have y2 := blk_frozen hblk 2
 have y3 := blk_frozen hblk 3
 have y4 := blk_frozen hblk 4
 have y5 := blk_frozen hblk 5
 clear hblk hkk hb5 hk5
 cases r with
 | error n =>
  obtain ⟨⟨k, b, x, d, m, f, rfl⟩, hi5⟩ := hr5
  have HI5 := Aside0.mk hi5
  clear hi5
  go_wp2
  refine bodyPost_ret (v := .tuple #[tokV k b x d m f, .int .i64 n]) ?hr rfl ?_
  case hr => exact res18 rfl rfl (put6 HBK.out k b x d m f)
  refine ⟨?_, ?_, ⟨k, b, x, d, m, f, rfl⟩, ?_⟩
  · (with_reducible repeat (first | exact HB5.out | refine below_set ?_ HB.out.size | refine below_set ?_ (Nat.le_succ_of_le HB.out.size)))
  · (with_reducible repeat (first | exact HK5.out | refine keep_far ?_ (Nat.le_refl _) _))
  · (with_reducible repeat (first | exact HI5.out | refine IsS45.far ?_ (Nat.ne_of_lt hlt) _))
 | ok t =>
  obtain ⟨rfl, hi5⟩ := hr5
  have HI5 := Aside0.mk hi5
  clear hi5
  go_wp2
  refine bodyPost_ret (v := .tuple #[tokV t.kind a t.text t.suffix t.num t.hex, .int .i64 0]) ?hr2 rfl ?_
  case hr2 => exact res18 rfl rfl (put6 HBK.out _ _ _ _ _ _)
  refine ⟨?_, ?_, rfl, ?_⟩
  · (with_reducible repeat (first | exact HB5.out | refine below_set ?_ HB.out.size | refine below_set ?_ (Nat.le_succ_of_le HB.out.size)))
  · (with_reducible repeat (first | exact HK5.out | refine keep_far ?_ (Nat.le_refl _) _))
  · (with_reducible repeat (first | exact HI5.out | refine IsS45.far ?_ (Nat.ne_of_lt hlt) _))
set_option maxHeartbeats 2000000 in
set_option maxRecDepth 100000 in
/-- A name, too long. -/
theorem token_long (hc : partB c = true) (hd : digitB c = false) (hc39 : c ≠ 39) (hR : R.size ≤ 20000) (hn : 30 < spanL R.data.toList) (hle : spanL R.data.toList ≤ R.size) :
  Calls Tryd.prog 18 #[.pointer (some ⟨g, 0, none⟩)] w (TokPost g s a w0 w (.error 6)) := by
 have HI0 := Aside0.mk hI
 have HB := Aside0.mk hB
 have HK := Aside0.mk (KeepBut.refl w g none)
 clear hB
 obtain ⟨HGz, hgz⟩ := hI
 have hc0 := cellS45_0 HGz
 have hc1 := cellS45_1 HGz
 have hf0 := blk_frozen HGz 0
 have hf1 := blk_frozen HGz 1
 have hlt : g < w.heap.size := HI0.out.lt
 clear HGz hgz
 have HD := Aside0.mk ((digit_eq c).trans (congrArg some hd))
 have HP := Aside0.mk ((part_eq c).trans (congrArg some hc))
 have ne1 : (c == 39) = false := beq_eq_false_iff_ne.2 hc39
 clear hc hd
 obtain ⟨n, hn0⟩ : ∃ n : Nat, spanL R.data.toList = n := ⟨_, rfl⟩
 rw [hn0] at hn hle
 have HS : Aside0 (∀ w, Calls Tryd.prog 31 #[.string R, .func (.func 30) #[] #[]] w fun e w' => e = .returned (.int .i64 (n : Int)) ∧ Drawn0 w w') := ⟨fun w => by have := span_calls R w hR; rw [hn0] at this; exact this⟩
 clear hn0 hR
 go_enter Tryd.func18, Tryd.ntmps18
 go_wp2
 go_quiet (fail)
 go_wp2_with (first | (go_at_call 27; (with_reducible refine (lex_digit.calls c false _ HD.out).mono ?_); rintro e w' ⟨rfl, ⟨nd, rfl⟩⟩) | (go_at_call 30; (with_reducible refine (lex_part.calls c true _ HP.out).mono ?_); rintro e w' ⟨rfl, ⟨nd, rfl⟩⟩))
 go_region_with (go_at_call 31; (with_reducible refine (HS.out _).mono ?_); rintro e w' ⟨rfl, ⟨nd, rfl⟩⟩)
 all_goals go_wp2
 all_goals (refine bodyPost_ret (v := .tuple #[tokV 1 a (R.extract 0 n) ⟨#[]⟩ 0 false, .int .i64 6]) ?_ rfl ?_)
 all_goals first
  | (simp [results, Tryd.results18, go_sem]; done)
  | (refine ⟨?_, ?_, ⟨_, _, _, _, _, _, rfl⟩, ?_⟩
     · with_reducible repeat (first | exact HB.out | apply below_alloc | apply pw_below_drewN | apply below_drew1 | refine below_set ?_ HB.out.size | refine below_set ?_ (Nat.le_succ_of_le HB.out.size))
     · with_reducible repeat (first | exact HK.out | apply keep_alloc | apply keep_drewN | apply keep_drew | refine keep_far ?_ (Nat.le_refl _) _ | refine keep_far ?_ (Nat.le_succ _) _)
     · with_reducible repeat (first | exact HI0.out | apply IsS45.alloc | apply IsS45.drewN | apply IsS45.drew | refine IsS45.far ?_ (Nat.ne_of_lt hlt) _ | refine IsS45.far ?_ (Nat.ne_of_lt (Nat.lt_succ_of_lt hlt)) _))
end
end Go.Proofs.YtiljijckfkphhaaDoor.PLex
