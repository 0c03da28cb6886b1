/- lex.reader.token, a name that is too long. -/
import Derived.Test.YtiljijckfkphhaaDoorLxTokD
import Derived.RegionTactic
import Derived.ChangeAlike
import Derived.Deep.RegionWith
import Derived.StillTailTactics
namespace Go.Proofs.YtiljijckfkphhaaDoor.PLex
open Go.RowKit Go.Proofs.YtiljijckfkphhaaDoorW.PrintWords Go.Proofs.YtiljijckfkphhaaDoorW.PrintLast Go.Proofs.YtiljijckfkphhaaDoorW.PrintMore
set_option linter.unusedVariables false
set_option linter.unusedSectionVars false
set_option linter.unusedSimpArgs false
section
variable (g : Nat) (s R : ByteArray) (a : Int) (w0 w : World) (hI : IsS45 w0 w g s a) (hB : Below w0.heap.size w0 w)
  (hsl : ∀ w, (Instr.sliceAt 9 (.string s) (some (.int .i64 a)) none none).run Tryd.prog w = .ok (.string R) w) (h1 : 1 ≤ R.size) (c : Int) (hi0 : ∀ w, (Instr.index 9 (.string R) (.int .i64 0)).run Tryd.prog w = .ok (.int .u8 c) w)
include hI hB hsl h1 hi0
set_option maxHeartbeats 16000000 in
set_option maxRecDepth 100000 in
/-- A name, or a word. -/
theorem token_name (hc : partB c = true) (hd : digitB c = false) (hc39 : c ≠ 39) (hR : R.size ≤ 20000) (hn : spanL R.data.toList ≤ 30) (hG : GW w0) (ha : 0 ≤ a) (ha2 : a ≤ 20000) (hw : lex_Word.f (R.extract 0 (spanL R.data.toList)) = some false) (hle : spanL R.data.toList ≤ R.size) :
  Calls Tryd.prog 18 #[.pointer (some ⟨g, 0, none⟩)] w (TokPost g s a w0 w (.ok ⟨1, R.extract 0 (spanL R.data.toList), ⟨#[]⟩, 0, false⟩)) := by
 have HI0 := Aside0.mk hI
 have HB := Aside0.mk hB
 have HK := Aside0.mk (KeepBut.refl w g none)
 clear hB
 obtain ⟨HGz, hgz⟩ := hI
 have hc0 := cellS45_0 HGz
 have hc1 := cellS45_1 HGz
 have hf0 := blk_frozen HGz 0
 have hf1 := blk_frozen HGz 1
 have hlt : g < w.heap.size := HI0.out.lt
 clear HGz hgz
 have HD := Aside0.mk ((digit_eq c).trans (congrArg some hd))
 have HP := Aside0.mk ((part_eq c).trans (congrArg some hc))
 have ne1 : (c == 39) = false := beq_eq_false_iff_ne.2 hc39
 clear hc hd
 obtain ⟨n, hn0⟩ : ∃ n : Nat, spanL R.data.toList = n := ⟨_, rfl⟩
 rw [hn0] at hn hle hw ⊢
 have HS : Aside0 (∀ w, Calls Tryd.prog 31 #[.string R, .func (.func 30) #[] #[]] w fun e w' => e = .returned (.int .i64 (n : Int)) ∧ Drawn0 w w') := ⟨fun w => by have := span_calls R w hR; rw [hn0] at this; exact this⟩
 clear hn0 hR
 have HG := Aside0.mk hG
 have HW := Aside0.mk hw
 clear hG hw
 have hxs : (R.extract 0 n).size = n := by rw [ByteArray.size_extract]; omega
 go_enter Tryd.func18, Tryd.ntmps18
 go_wp2
 go_quiet (fail)
 go_wp2_with (first | (go_at_call 27; (with_reducible refine (lex_digit.calls c false _ HD.out).mono ?_); rintro e w' ⟨rfl, ⟨nd, rfl⟩⟩) | (go_at_call 30; (with_reducible refine (lex_part.calls c true _ HP.out).mono ?_); rintro e w' ⟨rfl, ⟨nd, rfl⟩⟩))
 go_region_with (go_at_call 31; (with_reducible refine (HS.out _).mono ?_); rintro e w' ⟨rfl, ⟨nd, rfl⟩⟩)
 all_goals go_wp2_with (go_at_call 12; (with_reducible refine (lex_Word.calls _ false _ ?gw HW.out).mono ?_); (case gw => (refine GW.below HG.out ?_; (with_reducible repeat (first | exact HB.out | apply below_alloc | apply pw_below_drewN | apply below_drew1 | refine below_set ?_ HB.out.size | refine below_set ?_ (Nat.le_succ_of_le HB.out.size))))); rintro e w' ⟨rfl, ⟨nd2, rfl⟩⟩)
 all_goals (go_region; go_wp2)
 all_goals (refine bodyPost_ret (v := .tuple #[tokV 1 a (R.extract 0 n) ⟨#[]⟩ 0 false, .int .i64 0]) ?_ rfl ?_)
 all_goals first
  | (simp [results, Tryd.results18, go_sem]; done)
  | (refine ⟨?_, ?_, rfl, ?_⟩
     · with_reducible repeat (first | exact HB.out | apply below_alloc | apply pw_below_drewN | apply below_drew1 | refine below_set ?_ HB.out.size | refine below_set ?_ (Nat.le_succ_of_le HB.out.size) | refine below_set ?_ (IsS45.ge HI0.out))
     · with_reducible repeat (first | exact HK.out | apply keep_alloc | apply keep_drewN | apply keep_drew | apply KeepBut.set_ | refine keep_far ?_ (Nat.le_refl _) _ | refine keep_far ?_ (Nat.le_succ _) _)
     · rw [hxs]; with_reducible repeat (first | exact HI0.out | apply IsS45.alloc | apply IsS45.drewN | apply IsS45.drew | refine IsS45.set_1 (f1 := a) ?_ _ | refine IsS45.far ?_ (Nat.ne_of_lt hlt) _ | refine IsS45.far ?_ (Nat.ne_of_lt (Nat.lt_succ_of_lt hlt)) _))
end
end Go.Proofs.YtiljijckfkphhaaDoor.PLex
