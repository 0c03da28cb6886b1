/- lex.reader.token, a name or a word. -/
import Derived.Test.YtiljijckfkphhaaDoorLxTokD
import Derived.RegionTactic
import Derived.ChangeAlike
import Derived.Deep.RegionWith
import Derived.StillTailTactics
namespace Go.Proofs.YtiljijckfkphhaaDoor.PLex
open Go.RowKit Go.Proofs.YtiljijckfkphhaaDoorW.PrintWords Go.Proofs.YtiljijckfkphhaaDoorW.PrintLast Go.Proofs.YtiljijckfkphhaaDoorW.PrintMore
set_option linter.unusedVariables false
set_option linter.unusedSectionVars false
set_option linter.unusedSimpArgs false
theorem new_at (W : World) (o : Obj) (n : Nat) (hn : n = W.heap.size) : (W.alloc o).heap[n]? = some o := by subst hn; exact blk_new W o
def Ways (w : World) (a : Int) (x : ByteArray) (W : World) : Prop := Below w.heap.size w W ∧ W.heap[w.heap.size]? = some (.cells #[.int .i64 0, .int .i64 0, .string ⟨#[]⟩, .string ⟨#[]⟩, .int .u64 0, .bool false] 33 (0, 0)) ∧ W.heap[w.heap.size + 1]? = some (.cells #[.int .i64 1, .int .i64 a, .string x, .string ⟨#[]⟩, .int .u64 0, .bool false] 33 (0, 0))
theorem way1 (w : World) (a : Int) (x : ByteArray) (m : Nat) : Ways w a x (((w.alloc (.cells #[.int .i64 0, .int .i64 0, .string ⟨#[]⟩, .string ⟨#[]⟩, .int .u64 0, .bool false] 33)).drewN m).alloc (.cells #[.int .i64 1, .int .i64 a, .string x, .string ⟨#[]⟩, .int .u64 0, .bool false] 33)) :=
 ⟨below_alloc (pw_below_drewN (below_alloc (Below.refl _ _) _) _) _, blk_alloc (blk_drewN (blk_new _ _) _) _, new_at _ _ _ (by simp)⟩
theorem way2 (w : World) (a : Int) (x : ByteArray) (m q : Nat) : Ways w a x ((((((((((w.alloc (.cells #[.int .i64 0, .int .i64 0, .string ⟨#[]⟩, .string ⟨#[]⟩, .int .u64 0, .bool false] 33)).drewN m).alloc (.cells #[.int .i64 0, .int .i64 0, .string ⟨#[]⟩, .string ⟨#[]⟩, .int .u64 0, .bool false] 33)).drewN q).setCell ⟨w.heap.size + 1, 0, none⟩ (.int .i64 1)).setCell ⟨w.heap.size + 1, 1, none⟩ (.int .i64 a)).setCell ⟨w.heap.size + 1, 2, none⟩ (.string x)).setCell ⟨w.heap.size + 1, 3, none⟩ (.string ⟨#[]⟩)).setCell ⟨w.heap.size + 1, 4, none⟩ (.int .u64 0)).setCell ⟨w.heap.size + 1, 5, none⟩ (.bool false)) := by
 have hne : w.heap.size ≠ w.heap.size + 1 := by omega
 refine ⟨?_, ?_, put6 (blk_drewN (new_at _ _ _ (by simp)) _) _ _ _ _ _ _⟩
 · exact below_set (below_set (below_set (below_set (below_set (below_set (pw_below_drewN (below_alloc (pw_below_drewN (below_alloc (Below.refl _ _) _) _) _) _) (Nat.le_succ _)) (Nat.le_succ _)) (Nat.le_succ _)) (Nat.le_succ _)) (Nat.le_succ _)) (Nat.le_succ _)
 · exact blk_far (blk_far (blk_far (blk_far (blk_far (blk_far (blk_drewN (blk_alloc (blk_drewN (blk_new _ _) _) _) _) hne _) hne _) hne _) hne _) hne _) hne _
theorem Ways.drewN {w : World} {a : Int} {x : ByteArray} {W : World} (h : Ways w a x W) (n : Nat) : Ways w a x (W.drewN n) := ⟨pw_below_drewN h.1 _, blk_drewN h.2.1 _, blk_drewN h.2.2 _⟩
theorem Ways.drawn {w : World} {a : Int} {x : ByteArray} {W W' : World} (h : Ways w a x W) (hd : Drawn0 W W') : Ways w a x W' := by
 obtain ⟨⟨n, rfl⟩⟩ := hd
 exact h.drewN n
section
variable (g : Nat) (s R : ByteArray) (a : Int) (w0 w : World) (hI : IsS45 w0 w g s a) (hB : Below w0.heap.size w0 w)
  (hsl : ∀ w, (Instr.sliceAt 9 (.string s) (some (.int .i64 a)) none none).run Tryd.prog w = .ok (.string R) w) (h1 : 1 ≤ R.size) (c : Int) (hi0 : ∀ w, (Instr.index 9 (.string R) (.int .i64 0)).run Tryd.prog w = .ok (.int .u8 c) w)
include hI hB hsl h1 hi0
set_option maxHeartbeats 16000000 in
set_option maxRecDepth 100000 in
/-- A name, or a word. -/
theorem token_word (hc : partB c = true) (hd : digitB c = false) (hc39 : c ≠ 39) (hR : R.size ≤ 20000) (hn : spanL R.data.toList ≤ 30) (hG : GW w0) (ha : 0 ≤ a) (ha2 : a ≤ 20000) (hw : lex_Word.f (R.extract 0 (spanL R.data.toList)) = some true) (hle : spanL R.data.toList ≤ R.size) :
  Calls Tryd.prog 18 #[.pointer (some ⟨g, 0, none⟩)] w (TokPost g s a w0 w (.ok ⟨2, R.extract 0 (spanL R.data.toList), ⟨#[]⟩, 0, false⟩)) := by
 have HI0 := Aside0.mk hI
 have HB := Aside0.mk hB
 have HK := Aside0.mk (KeepBut.refl w g none)
 clear hB
 obtain ⟨HGz, hgz⟩ := hI
 have hc0 := cellS45_0 HGz
 have hc1 := cellS45_1 HGz
 have hf0 := blk_frozen HGz 0
 have hf1 := blk_frozen HGz 1
 have hlt : g < w.heap.size := HI0.out.lt
 clear HGz hgz
 have HD := Aside0.mk ((digit_eq c).trans (congrArg some hd))
 have HP := Aside0.mk ((part_eq c).trans (congrArg some hc))
 have ne1 : (c == 39) = false := beq_eq_false_iff_ne.2 hc39
 clear hc hd
 obtain ⟨n, hn0⟩ : ∃ n : Nat, spanL R.data.toList = n := ⟨_, rfl⟩
 rw [hn0] at hn hle hw ⊢
 have HS : Aside0 (∀ w, Calls Tryd.prog 31 #[.string R, .func (.func 30) #[] #[]] w fun e w' => e = .returned (.int .i64 (n : Int)) ∧ Drawn0 w w') := ⟨fun w => by have := span_calls R w hR; rw [hn0] at this; exact this⟩
 clear hn0 hR
 have HG := Aside0.mk hG
 have HW := Aside0.mk hw
 clear hG hw
 have hxs : (R.extract 0 n).size = n := by rw [ByteArray.size_extract]; omega
 have HKEY : Aside0 (∀ W, Ways w a (R.extract 0 n) W → Calls Tryd.prog 12 #[.string (R.extract 0 n)] W (fun e w' => e = .returned (.bool true) ∧ Ways w a (R.extract 0 n) w')) :=
  ⟨fun W hW => (lex_Word.calls _ true W (GW.below HG.out (Below.trans HB.out (hW.1.mono HB.out.size))) HW.out).mono (fun e w' ⟨he, hd⟩ => ⟨he, hW.drawn hd⟩)⟩
 go_enter Tryd.func18, Tryd.ntmps18
 go_wp2
 go_quiet (fail)
 go_wp2_with (first | (go_at_call 27; (with_reducible refine (lex_digit.calls c false _ HD.out).mono ?_); rintro e w' ⟨rfl, ⟨nd, rfl⟩⟩) | (go_at_call 30; (with_reducible refine (lex_part.calls c true _ HP.out).mono ?_); rintro e w' ⟨rfl, ⟨nd, rfl⟩⟩))
 go_region_with (go_at_call 31; (with_reducible refine (HS.out _).mono ?_); rintro e w' ⟨rfl, ⟨nd, rfl⟩⟩)
 all_goals go_wp2_with (fail)
 all_goals (
  refine (HKEY.out _ ?_).mono ?_
  · with_reducible first | exact way1 _ _ _ _ | exact way2 _ _ _ _ _ | exact (way1 _ _ _ _).drewN _ | exact (way2 _ _ _ _ _).drewN _
  rintro e w5 ⟨rfl, hb5, hbk, htk⟩
  have HB5 := Aside0.mk hb5
  have HII := Aside0.mk (HI0.out.below hb5)
  have hii := HII.out
  obtain ⟨HGy, _⟩ := hii
  have hd0 := cellS45_0 HGy
  have hd1 := cellS45_1 HGy
  have he0 := blk_frozen HGy 0
  have he1 := blk_frozen HGy 1
  have z0 := (blk_cell hbk 0).trans rfl
  have z1 := (blk_cell hbk 1).trans rfl
  have z2 := (blk_cell hbk 2).trans rfl
  have z3 := (blk_cell hbk 3).trans rfl
  have z4 := (blk_cell hbk 4).trans rfl
  have z5 := (blk_cell hbk 5).trans rfl
  have y0 := blk_frozen hbk 0
  have y1 := blk_frozen hbk 1
  have y2 := blk_frozen hbk 2
  have y3 := blk_frozen hbk 3
  have y4 := blk_frozen hbk 4
  have y5 := blk_frozen hbk 5
  have u0 := (blk_cell htk 0).trans rfl
  have u1 := (blk_cell htk 1).trans rfl
  have u2 := (blk_cell htk 2).trans rfl
  have u3 := (blk_cell htk 3).trans rfl
  have u4 := (blk_cell htk 4).trans rfl
  have u5 := (blk_cell htk 5).trans rfl
  have v0 := blk_frozen htk 0
  have v1 := blk_frozen htk 1
  have v2 := blk_frozen htk 2
  have v3 := blk_frozen htk 3
  have v4 := blk_frozen htk 4
  have v5 := blk_frozen htk 5
  have HBK := Aside0.mk hbk
  have HTK := Aside0.mk htk
  clear hbk htk HGy hb5
  )
 all_goals (
  have hB1 : w.heap.size ≠ w.heap.size + 1 := by omega
  have hBg : w.heap.size ≠ g := by omega
  have hgB : g ≠ w.heap.size := by omega
  have hgB1 : g ≠ w.heap.size + 1 := by omega
  have hB1B : w.heap.size + 1 ≠ w.heap.size := by omega
  have hB1g : w.heap.size + 1 ≠ g := by omega
  go_wp2
  go_region
  go_wp2
  refine bodyPost_ret (v := .tuple #[tokV 2 a (R.extract 0 n) ⟨#[]⟩ 0 false, .int .i64 0]) ?_ rfl ?_
  · refine res18 rfl rfl ?_
    (with_reducible repeat (first | refine blk_drew ?_ | refine blk_drewN ?_ _))
    (with_reducible refine put6 ?_ _ _ _ _ _ _)
    (with_reducible repeat (first | exact HBK.out | refine blk_drewN ?_ _ | refine blk_drew ?_ | refine blk_far ?_ hB1 _ | refine blk_far ?_ hBg _))
  · refine ⟨?_, ?_, rfl, ?_⟩
    · with_reducible repeat (first | exact HB.out.trans (HB5.out.mono HB.out.size) | apply pw_below_drewN | apply below_drew1 | refine below_set ?_ HB.out.size | refine below_set ?_ (Nat.le_succ_of_le HB.out.size) | refine below_set ?_ (IsS45.ge HI0.out))
    · with_reducible repeat (first | exact KeepBut.of_below HB5.out g none | apply keep_drewN | apply keep_drew | apply KeepBut.set_ | refine keep_far ?_ (Nat.le_refl _) _ | refine keep_far ?_ (Nat.le_succ _) _)
    · rw [hxs]; with_reducible repeat (first | exact HII.out | apply IsS45.drewN | apply IsS45.drew | refine IsS45.set_1 (f1 := a) ?_ _ | refine IsS45.far ?_ hgB _ | refine IsS45.far ?_ hgB1 _)
  )
end
end Go.Proofs.YtiljijckfkphhaaDoor.PLex
