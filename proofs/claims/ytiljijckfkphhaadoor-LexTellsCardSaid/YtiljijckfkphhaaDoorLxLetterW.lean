/- The ways through lex.letter, one theorem each: printed by letter.py. -/
import Derived.Test.YtiljijckfkphhaaDoorPLexx2
import Derived.Test.YtiljijckfkphhaaDoorLxStr
import Derived.WalkMore
import Derived.Laws.NewBlocks
import Derived.RegionTactic
import Derived.ChangeAlike
namespace Go.Proofs.YtiljijckfkphhaaDoor.PLex
open Go.RowKit Go.Proofs.YtiljijckfkphhaaDoorW.PrintWords Go.Proofs.YtiljijckfkphhaaDoorW.PrintLast Go.Proofs.YtiljijckfkphhaaDoorW.PrintMore
set_option linter.unusedVariables false
set_option linter.unusedSimpArgs false
/-- A token, as a value. -/
abbrev tokV (a b : Int) (c d : ByteArray) (e : Int) (f : Bool) : Value := .agg #[.int .i64 a, .int .i64 b, .string c, .string d, .int .u64 e, .bool f]
set_option maxHeartbeats 600000 in
set_option maxRecDepth 100000 in
theorem letter_a1 (g : Nat) (s R : ByteArray) (a : Int) (w0 w : World) (hI : IsS45 w0 w g s a) (hB : Below w0.heap.size w0 w)
  (hsl : ∀ w, (Instr.sliceAt 9 (.string s) (some (.int .i64 a)) none none).run Tryd.prog w = .ok (.string R) w) (h1 : 1 < R.size) (i1 : ∀ w, (Instr.index 9 (.string R) (.int .i64 1)).run Tryd.prog w = .ok (.int .u8 92) w) (h4 : R.size < 4) :
  Calls Tryd.prog 29 #[.pointer (some ⟨g, 0, none⟩)] w fun e w' => e = .returned (.tuple #[tokV 0 0 ⟨#[]⟩ ⟨#[]⟩ 0 false, .int .i64 3]) ∧ IsS45 w0 w' g s a ∧ Below w0.heap.size w0 w' ∧ KeepBut w w' g none := by
 have HI0 := Aside0.mk hI
 have HB := Aside0.mk hB
 have HK := Aside0.mk (KeepBut.refl w g none)
 clear hB
 obtain ⟨HGz, hgz⟩ := hI
 have hc0 := cellS45_0 HGz
 have hc1 := cellS45_1 HGz
 have hf0 := blk_frozen HGz 0
 have hf1 := blk_frozen HGz 1
 have hlt : g < w.heap.size := HI0.out.lt
 clear HGz hgz
 have b1 : decide (1 < R.size) = true := decide_eq_true (by omega)
 have b4 : decide (R.size < 4) = true := decide_eq_true (by omega)
 go_enter Tryd.func29, Tryd.ntmps29
 go_wp2
 go_quiet (fail)
 go_wp2
 refine bodyPost_ret (v := .tuple #[tokV 0 0 ⟨#[]⟩ ⟨#[]⟩ 0 false, .int .i64 3]) ?hr rfl ?_
 case hr => simp [results, Tryd.results29, go_sem]
 refine ⟨rfl, ?_, ?_, ?_⟩
 · repeat (first | (with_reducible first | exact HI0.out | apply IsS45.alloc | apply IsS45.drewN | apply IsS45.drew | apply IsS45.set_0 | apply IsS45.set_1 | refine IsS45.far ?_ (Nat.ne_of_lt hlt) _) | exact HI0.out)
 · repeat (first | (with_reducible first | exact HB.out | apply below_alloc | apply pw_below_drewN | apply below_drew1 | refine below_set ?_ HB.out.size | refine below_set ?_ (IsS45.ge HI0.out)) | exact HB.out)
 · repeat (first | (with_reducible first | exact HK.out | apply KeepBut.set_ | apply keep_drewN | apply keep_drew | apply keep_alloc | refine keep_far ?_ (Nat.le_refl _) _) | exact HK.out)
set_option maxHeartbeats 600000 in
set_option maxRecDepth 100000 in
theorem letter_a2 (g : Nat) (s R : ByteArray) (a : Int) (w0 w : World) (hI : IsS45 w0 w g s a) (hB : Below w0.heap.size w0 w)
  (hsl : ∀ w, (Instr.sliceAt 9 (.string s) (some (.int .i64 a)) none none).run Tryd.prog w = .ok (.string R) w) (h1 : 4 ≤ R.size) (c3 : Int) (i1 : ∀ w, (Instr.index 9 (.string R) (.int .i64 1)).run Tryd.prog w = .ok (.int .u8 92) w) (i3 : ∀ w, (Instr.index 9 (.string R) (.int .i64 3)).run Tryd.prog w = .ok (.int .u8 c3) w) (hc3 : c3 ≠ 39) :
  Calls Tryd.prog 29 #[.pointer (some ⟨g, 0, none⟩)] w fun e w' => e = .returned (.tuple #[tokV 0 0 ⟨#[]⟩ ⟨#[]⟩ 0 false, .int .i64 3]) ∧ IsS45 w0 w' g s a ∧ Below w0.heap.size w0 w' ∧ KeepBut w w' g none := by
 have HI0 := Aside0.mk hI
 have HB := Aside0.mk hB
 have HK := Aside0.mk (KeepBut.refl w g none)
 clear hB
 obtain ⟨HGz, hgz⟩ := hI
 have hc0 := cellS45_0 HGz
 have hc1 := cellS45_1 HGz
 have hf0 := blk_frozen HGz 0
 have hf1 := blk_frozen HGz 1
 have hlt : g < w.heap.size := HI0.out.lt
 clear HGz hgz
 have b1 : decide (1 < R.size) = true := decide_eq_true (by omega)
 have b4 : decide (R.size < 4) = false := decide_eq_false (by omega)
 have nc3 : (c3 == 39) = false := beq_eq_false_iff_ne.2 (by omega)
 have mc3 : (c3 != 39) = true := bne_iff_ne.2 (by omega)
 go_enter Tryd.func29, Tryd.ntmps29
 go_wp2
 go_quiet (fail)
 go_wp2
 refine bodyPost_ret (v := .tuple #[tokV 0 0 ⟨#[]⟩ ⟨#[]⟩ 0 false, .int .i64 3]) ?hr rfl ?_
 case hr => simp [results, Tryd.results29, go_sem]
 refine ⟨rfl, ?_, ?_, ?_⟩
 · repeat (first | (with_reducible first | exact HI0.out | apply IsS45.alloc | apply IsS45.drewN | apply IsS45.drew | apply IsS45.set_0 | apply IsS45.set_1 | refine IsS45.far ?_ (Nat.ne_of_lt hlt) _) | exact HI0.out)
 · repeat (first | (with_reducible first | exact HB.out | apply below_alloc | apply pw_below_drewN | apply below_drew1 | refine below_set ?_ HB.out.size | refine below_set ?_ (IsS45.ge HI0.out)) | exact HB.out)
 · repeat (first | (with_reducible first | exact HK.out | apply KeepBut.set_ | apply keep_drewN | apply keep_drew | apply keep_alloc | refine keep_far ?_ (Nat.le_refl _) _) | exact HK.out)
set_option maxHeartbeats 600000 in
set_option maxRecDepth 100000 in
theorem letter_a3 (g : Nat) (s R : ByteArray) (a : Int) (w0 w : World) (hI : IsS45 w0 w g s a) (hB : Below w0.heap.size w0 w)
  (hsl : ∀ w, (Instr.sliceAt 9 (.string s) (some (.int .i64 a)) none none).run Tryd.prog w = .ok (.string R) w) (h1 : 4 ≤ R.size) (c2 q : Int) (i1 : ∀ w, (Instr.index 9 (.string R) (.int .i64 1)).run Tryd.prog w = .ok (.int .u8 92) w) (i2 : ∀ w, (Instr.index 9 (.string R) (.int .i64 2)).run Tryd.prog w = .ok (.int .u8 c2) w) (i3 : ∀ w, (Instr.index 9 (.string R) (.int .i64 3)).run Tryd.prog w = .ok (.int .u8 39) w) (hq : Lx.IndexByte.f ⟨#[110, 48, 92, 39]⟩ c2 = some q) (hq0 : q < 0) :
  Calls Tryd.prog 29 #[.pointer (some ⟨g, 0, none⟩)] w fun e w' => e = .returned (.tuple #[tokV 0 0 ⟨#[]⟩ ⟨#[]⟩ 0 false, .int .i64 3]) ∧ IsS45 w0 w' g s a ∧ Below w0.heap.size w0 w' ∧ KeepBut w w' g none := by
 have HI0 := Aside0.mk hI
 have HB := Aside0.mk hB
 have HK := Aside0.mk (KeepBut.refl w g none)
 clear hB
 obtain ⟨HGz, hgz⟩ := hI
 have hc0 := cellS45_0 HGz
 have hc1 := cellS45_1 HGz
 have hf0 := blk_frozen HGz 0
 have hf1 := blk_frozen HGz 1
 have hlt : g < w.heap.size := HI0.out.lt
 clear HGz hgz
 have HQ := Aside0.mk hq
 clear hq
 have b1 : decide (1 < R.size) = true := decide_eq_true (by omega)
 have b4 : decide (R.size < 4) = false := decide_eq_false (by omega)
 have bq : decide (q < 0) = true := decide_eq_true (by omega)
 go_enter Tryd.func29, Tryd.ntmps29
 go_wp2
 go_quiet (fail)
 go_wp2_with (go_at_call 23; (with_reducible refine (Lx.IndexByte.calls _ c2 q _ HQ.out).mono ?_); rintro e w' ⟨rfl, ⟨nd, rfl⟩⟩)
 refine bodyPost_ret (v := .tuple #[tokV 0 0 ⟨#[]⟩ ⟨#[]⟩ 0 false, .int .i64 3]) ?hr rfl ?_
 case hr => simp [results, Tryd.results29, go_sem]
 refine ⟨rfl, ?_, ?_, ?_⟩
 · repeat (first | (with_reducible first | exact HI0.out | apply IsS45.alloc | apply IsS45.drewN | apply IsS45.drew | apply IsS45.set_0 | apply IsS45.set_1 | refine IsS45.far ?_ (Nat.ne_of_lt hlt) _) | exact HI0.out)
 · repeat (first | (with_reducible first | exact HB.out | apply below_alloc | apply pw_below_drewN | apply below_drew1 | refine below_set ?_ HB.out.size | refine below_set ?_ (IsS45.ge HI0.out)) | exact HB.out)
 · repeat (first | (with_reducible first | exact HK.out | apply KeepBut.set_ | apply keep_drewN | apply keep_drew | apply keep_alloc | refine keep_far ?_ (Nat.le_refl _) _) | exact HK.out)
set_option maxHeartbeats 600000 in
set_option maxRecDepth 100000 in
theorem letter_b1 (g : Nat) (s R : ByteArray) (a : Int) (w0 w : World) (hI : IsS45 w0 w g s a) (hB : Below w0.heap.size w0 w)
  (hsl : ∀ w, (Instr.sliceAt 9 (.string s) (some (.int .i64 a)) none none).run Tryd.prog w = .ok (.string R) w) (h1 : R.size ≤ 1) :
  Calls Tryd.prog 29 #[.pointer (some ⟨g, 0, none⟩)] w fun e w' => e = .returned (.tuple #[tokV 0 0 ⟨#[]⟩ ⟨#[]⟩ 0 false, .int .i64 3]) ∧ IsS45 w0 w' g s a ∧ Below w0.heap.size w0 w' ∧ KeepBut w w' g none := by
 have HI0 := Aside0.mk hI
 have HB := Aside0.mk hB
 have HK := Aside0.mk (KeepBut.refl w g none)
 clear hB
 obtain ⟨HGz, hgz⟩ := hI
 have hc0 := cellS45_0 HGz
 have hc1 := cellS45_1 HGz
 have hf0 := blk_frozen HGz 0
 have hf1 := blk_frozen HGz 1
 have hlt : g < w.heap.size := HI0.out.lt
 clear HGz hgz
 have b1 : decide (1 < R.size) = false := decide_eq_false (by omega)
 have b4 : decide (R.size < 3) = true := decide_eq_true (by omega)
 go_enter Tryd.func29, Tryd.ntmps29
 go_wp2
 go_quiet (fail)
 go_wp2
 refine bodyPost_ret (v := .tuple #[tokV 0 0 ⟨#[]⟩ ⟨#[]⟩ 0 false, .int .i64 3]) ?hr rfl ?_
 case hr => simp [results, Tryd.results29, go_sem]
 refine ⟨rfl, ?_, ?_, ?_⟩
 · repeat (first | (with_reducible first | exact HI0.out | apply IsS45.alloc | apply IsS45.drewN | apply IsS45.drew | apply IsS45.set_0 | apply IsS45.set_1 | refine IsS45.far ?_ (Nat.ne_of_lt hlt) _) | exact HI0.out)
 · repeat (first | (with_reducible first | exact HB.out | apply below_alloc | apply pw_below_drewN | apply below_drew1 | refine below_set ?_ HB.out.size | refine below_set ?_ (IsS45.ge HI0.out)) | exact HB.out)
 · repeat (first | (with_reducible first | exact HK.out | apply KeepBut.set_ | apply keep_drewN | apply keep_drew | apply keep_alloc | refine keep_far ?_ (Nat.le_refl _) _) | exact HK.out)
set_option maxHeartbeats 600000 in
set_option maxRecDepth 100000 in
theorem letter_b2 (g : Nat) (s R : ByteArray) (a : Int) (w0 w : World) (hI : IsS45 w0 w g s a) (hB : Below w0.heap.size w0 w)
  (hsl : ∀ w, (Instr.sliceAt 9 (.string s) (some (.int .i64 a)) none none).run Tryd.prog w = .ok (.string R) w) (h1 : R.size = 2) (c1 : Int) (i1 : ∀ w, (Instr.index 9 (.string R) (.int .i64 1)).run Tryd.prog w = .ok (.int .u8 c1) w) (hc1 : c1 ≠ 92) :
  Calls Tryd.prog 29 #[.pointer (some ⟨g, 0, none⟩)] w fun e w' => e = .returned (.tuple #[tokV 0 0 ⟨#[]⟩ ⟨#[]⟩ 0 false, .int .i64 3]) ∧ IsS45 w0 w' g s a ∧ Below w0.heap.size w0 w' ∧ KeepBut w w' g none := by
 have HI0 := Aside0.mk hI
 have HB := Aside0.mk hB
 have HK := Aside0.mk (KeepBut.refl w g none)
 clear hB
 obtain ⟨HGz, hgz⟩ := hI
 have hc0 := cellS45_0 HGz
 have hc1 := cellS45_1 HGz
 have hf0 := blk_frozen HGz 0
 have hf1 := blk_frozen HGz 1
 have hlt : g < w.heap.size := HI0.out.lt
 clear HGz hgz
 have b1 : decide (1 < R.size) = true := decide_eq_true (by omega)
 have b4 : decide (R.size < 3) = true := decide_eq_true (by omega)
 have nc1 : (c1 == 92) = false := beq_eq_false_iff_ne.2 (by omega)
 have mc1 : (c1 != 92) = true := bne_iff_ne.2 (by omega)
 go_enter Tryd.func29, Tryd.ntmps29
 go_wp2
 go_quiet (fail)
 go_wp2
 refine bodyPost_ret (v := .tuple #[tokV 0 0 ⟨#[]⟩ ⟨#[]⟩ 0 false, .int .i64 3]) ?hr rfl ?_
 case hr => simp [results, Tryd.results29, go_sem]
 refine ⟨rfl, ?_, ?_, ?_⟩
 · repeat (first | (with_reducible first | exact HI0.out | apply IsS45.alloc | apply IsS45.drewN | apply IsS45.drew | apply IsS45.set_0 | apply IsS45.set_1 | refine IsS45.far ?_ (Nat.ne_of_lt hlt) _) | exact HI0.out)
 · repeat (first | (with_reducible first | exact HB.out | apply below_alloc | apply pw_below_drewN | apply below_drew1 | refine below_set ?_ HB.out.size | refine below_set ?_ (IsS45.ge HI0.out)) | exact HB.out)
 · repeat (first | (with_reducible first | exact HK.out | apply KeepBut.set_ | apply keep_drewN | apply keep_drew | apply keep_alloc | refine keep_far ?_ (Nat.le_refl _) _) | exact HK.out)
set_option maxHeartbeats 600000 in
set_option maxRecDepth 100000 in
theorem letter_b3 (g : Nat) (s R : ByteArray) (a : Int) (w0 w : World) (hI : IsS45 w0 w g s a) (hB : Below w0.heap.size w0 w)
  (hsl : ∀ w, (Instr.sliceAt 9 (.string s) (some (.int .i64 a)) none none).run Tryd.prog w = .ok (.string R) w) (h1 : 3 ≤ R.size) (c1 c2 : Int) (i1 : ∀ w, (Instr.index 9 (.string R) (.int .i64 1)).run Tryd.prog w = .ok (.int .u8 c1) w) (i2 : ∀ w, (Instr.index 9 (.string R) (.int .i64 2)).run Tryd.prog w = .ok (.int .u8 c2) w) (hc1 : c1 ≠ 92) (hc2 : c2 ≠ 39) :
  Calls Tryd.prog 29 #[.pointer (some ⟨g, 0, none⟩)] w fun e w' => e = .returned (.tuple #[tokV 0 0 ⟨#[]⟩ ⟨#[]⟩ 0 false, .int .i64 3]) ∧ IsS45 w0 w' g s a ∧ Below w0.heap.size w0 w' ∧ KeepBut w w' g none := by
 have HI0 := Aside0.mk hI
 have HB := Aside0.mk hB
 have HK := Aside0.mk (KeepBut.refl w g none)
 clear hB
 obtain ⟨HGz, hgz⟩ := hI
 have hc0 := cellS45_0 HGz
 have hc1 := cellS45_1 HGz
 have hf0 := blk_frozen HGz 0
 have hf1 := blk_frozen HGz 1
 have hlt : g < w.heap.size := HI0.out.lt
 clear HGz hgz
 have b1 : decide (1 < R.size) = true := decide_eq_true (by omega)
 have b4 : decide (R.size < 3) = false := decide_eq_false (by omega)
 have nc1 : (c1 == 92) = false := beq_eq_false_iff_ne.2 (by omega)
 have mc1 : (c1 != 92) = true := bne_iff_ne.2 (by omega)
 have nc2 : (c2 == 39) = false := beq_eq_false_iff_ne.2 (by omega)
 have mc2 : (c2 != 39) = true := bne_iff_ne.2 (by omega)
 go_enter Tryd.func29, Tryd.ntmps29
 go_wp2
 go_quiet (fail)
 go_wp2
 refine bodyPost_ret (v := .tuple #[tokV 0 0 ⟨#[]⟩ ⟨#[]⟩ 0 false, .int .i64 3]) ?hr rfl ?_
 case hr => simp [results, Tryd.results29, go_sem]
 refine ⟨rfl, ?_, ?_, ?_⟩
 · repeat (first | (with_reducible first | exact HI0.out | apply IsS45.alloc | apply IsS45.drewN | apply IsS45.drew | apply IsS45.set_0 | apply IsS45.set_1 | refine IsS45.far ?_ (Nat.ne_of_lt hlt) _) | exact HI0.out)
 · repeat (first | (with_reducible first | exact HB.out | apply below_alloc | apply pw_below_drewN | apply below_drew1 | refine below_set ?_ HB.out.size | refine below_set ?_ (IsS45.ge HI0.out)) | exact HB.out)
 · repeat (first | (with_reducible first | exact HK.out | apply KeepBut.set_ | apply keep_drewN | apply keep_drew | apply keep_alloc | refine keep_far ?_ (Nat.le_refl _) _) | exact HK.out)
set_option maxHeartbeats 600000 in
set_option maxRecDepth 100000 in
theorem letter_b4 (g : Nat) (s R : ByteArray) (a : Int) (w0 w : World) (hI : IsS45 w0 w g s a) (hB : Below w0.heap.size w0 w)
  (hsl : ∀ w, (Instr.sliceAt 9 (.string s) (some (.int .i64 a)) none none).run Tryd.prog w = .ok (.string R) w) (h1 : 3 ≤ R.size) (c1 : Int) (i1 : ∀ w, (Instr.index 9 (.string R) (.int .i64 1)).run Tryd.prog w = .ok (.int .u8 c1) w) (i2 : ∀ w, (Instr.index 9 (.string R) (.int .i64 2)).run Tryd.prog w = .ok (.int .u8 39) w) (hc1 : c1 ≠ 92) (hr : c1 < 32) :
  Calls Tryd.prog 29 #[.pointer (some ⟨g, 0, none⟩)] w fun e w' => e = .returned (.tuple #[tokV 0 0 ⟨#[]⟩ ⟨#[]⟩ 0 false, .int .i64 3]) ∧ IsS45 w0 w' g s a ∧ Below w0.heap.size w0 w' ∧ KeepBut w w' g none := by
 have HI0 := Aside0.mk hI
 have HB := Aside0.mk hB
 have HK := Aside0.mk (KeepBut.refl w g none)
 clear hB
 obtain ⟨HGz, hgz⟩ := hI
 have hc0 := cellS45_0 HGz
 have hc1 := cellS45_1 HGz
 have hf0 := blk_frozen HGz 0
 have hf1 := blk_frozen HGz 1
 have hlt : g < w.heap.size := HI0.out.lt
 clear HGz hgz
 have b1 : decide (1 < R.size) = true := decide_eq_true (by omega)
 have b4 : decide (R.size < 3) = false := decide_eq_false (by omega)
 have nc1 : (c1 == 92) = false := beq_eq_false_iff_ne.2 (by omega)
 have mc1 : (c1 != 92) = true := bne_iff_ne.2 (by omega)
 have r1 : decide (c1 < 32) = true := decide_eq_true (by omega)
 go_enter Tryd.func29, Tryd.ntmps29
 go_wp2
 go_quiet (fail)
 go_wp2
 refine bodyPost_ret (v := .tuple #[tokV 0 0 ⟨#[]⟩ ⟨#[]⟩ 0 false, .int .i64 3]) ?hr rfl ?_
 case hr => simp [results, Tryd.results29, go_sem]
 refine ⟨rfl, ?_, ?_, ?_⟩
 · repeat (first | (with_reducible first | exact HI0.out | apply IsS45.alloc | apply IsS45.drewN | apply IsS45.drew | apply IsS45.set_0 | apply IsS45.set_1 | refine IsS45.far ?_ (Nat.ne_of_lt hlt) _) | exact HI0.out)
 · repeat (first | (with_reducible first | exact HB.out | apply below_alloc | apply pw_below_drewN | apply below_drew1 | refine below_set ?_ HB.out.size | refine below_set ?_ (IsS45.ge HI0.out)) | exact HB.out)
 · repeat (first | (with_reducible first | exact HK.out | apply KeepBut.set_ | apply keep_drewN | apply keep_drew | apply keep_alloc | refine keep_far ?_ (Nat.le_refl _) _) | exact HK.out)
set_option maxHeartbeats 600000 in
set_option maxRecDepth 100000 in
theorem letter_b5 (g : Nat) (s R : ByteArray) (a : Int) (w0 w : World) (hI : IsS45 w0 w g s a) (hB : Below w0.heap.size w0 w)
  (hsl : ∀ w, (Instr.sliceAt 9 (.string s) (some (.int .i64 a)) none none).run Tryd.prog w = .ok (.string R) w) (h1 : 3 ≤ R.size) (c1 : Int) (i1 : ∀ w, (Instr.index 9 (.string R) (.int .i64 1)).run Tryd.prog w = .ok (.int .u8 c1) w) (i2 : ∀ w, (Instr.index 9 (.string R) (.int .i64 2)).run Tryd.prog w = .ok (.int .u8 39) w) (hc1 : c1 ≠ 92) (hr : 126 < c1) :
  Calls Tryd.prog 29 #[.pointer (some ⟨g, 0, none⟩)] w fun e w' => e = .returned (.tuple #[tokV 0 0 ⟨#[]⟩ ⟨#[]⟩ 0 false, .int .i64 3]) ∧ IsS45 w0 w' g s a ∧ Below w0.heap.size w0 w' ∧ KeepBut w w' g none := by
 have HI0 := Aside0.mk hI
 have HB := Aside0.mk hB
 have HK := Aside0.mk (KeepBut.refl w g none)
 clear hB
 obtain ⟨HGz, hgz⟩ := hI
 have hc0 := cellS45_0 HGz
 have hc1 := cellS45_1 HGz
 have hf0 := blk_frozen HGz 0
 have hf1 := blk_frozen HGz 1
 have hlt : g < w.heap.size := HI0.out.lt
 clear HGz hgz
 have b1 : decide (1 < R.size) = true := decide_eq_true (by omega)
 have b4 : decide (R.size < 3) = false := decide_eq_false (by omega)
 have nc1 : (c1 == 92) = false := beq_eq_false_iff_ne.2 (by omega)
 have mc1 : (c1 != 92) = true := bne_iff_ne.2 (by omega)
 have r1 : decide (c1 < 32) = false := decide_eq_false (by omega)
 have r2 : decide (126 < c1) = true := decide_eq_true (by omega)
 go_enter Tryd.func29, Tryd.ntmps29
 go_wp2
 go_quiet (fail)
 go_wp2
 refine bodyPost_ret (v := .tuple #[tokV 0 0 ⟨#[]⟩ ⟨#[]⟩ 0 false, .int .i64 3]) ?hr rfl ?_
 case hr => simp [results, Tryd.results29, go_sem]
 refine ⟨rfl, ?_, ?_, ?_⟩
 · repeat (first | (with_reducible first | exact HI0.out | apply IsS45.alloc | apply IsS45.drewN | apply IsS45.drew | apply IsS45.set_0 | apply IsS45.set_1 | refine IsS45.far ?_ (Nat.ne_of_lt hlt) _) | exact HI0.out)
 · repeat (first | (with_reducible first | exact HB.out | apply below_alloc | apply pw_below_drewN | apply below_drew1 | refine below_set ?_ HB.out.size | refine below_set ?_ (IsS45.ge HI0.out)) | exact HB.out)
 · repeat (first | (with_reducible first | exact HK.out | apply KeepBut.set_ | apply keep_drewN | apply keep_drew | apply keep_alloc | refine keep_far ?_ (Nat.le_refl _) _) | exact HK.out)
set_option maxHeartbeats 600000 in
set_option maxRecDepth 100000 in
theorem letter_b6 (g : Nat) (s R : ByteArray) (a : Int) (w0 w : World) (hI : IsS45 w0 w g s a) (hB : Below w0.heap.size w0 w)
  (hsl : ∀ w, (Instr.sliceAt 9 (.string s) (some (.int .i64 a)) none none).run Tryd.prog w = .ok (.string R) w) (h1 : 3 ≤ R.size) (i1 : ∀ w, (Instr.index 9 (.string R) (.int .i64 1)).run Tryd.prog w = .ok (.int .u8 39) w) (i2 : ∀ w, (Instr.index 9 (.string R) (.int .i64 2)).run Tryd.prog w = .ok (.int .u8 39) w) :
  Calls Tryd.prog 29 #[.pointer (some ⟨g, 0, none⟩)] w fun e w' => e = .returned (.tuple #[tokV 0 0 ⟨#[]⟩ ⟨#[]⟩ 0 false, .int .i64 3]) ∧ IsS45 w0 w' g s a ∧ Below w0.heap.size w0 w' ∧ KeepBut w w' g none := by
 have HI0 := Aside0.mk hI
 have HB := Aside0.mk hB
 have HK := Aside0.mk (KeepBut.refl w g none)
 clear hB
 obtain ⟨HGz, hgz⟩ := hI
 have hc0 := cellS45_0 HGz
 have hc1 := cellS45_1 HGz
 have hf0 := blk_frozen HGz 0
 have hf1 := blk_frozen HGz 1
 have hlt : g < w.heap.size := HI0.out.lt
 clear HGz hgz
 have b1 : decide (1 < R.size) = true := decide_eq_true (by omega)
 have b4 : decide (R.size < 3) = false := decide_eq_false (by omega)
 go_enter Tryd.func29, Tryd.ntmps29
 go_wp2
 go_quiet (fail)
 go_wp2
 refine bodyPost_ret (v := .tuple #[tokV 0 0 ⟨#[]⟩ ⟨#[]⟩ 0 false, .int .i64 3]) ?hr rfl ?_
 case hr => simp [results, Tryd.results29, go_sem]
 refine ⟨rfl, ?_, ?_, ?_⟩
 · repeat (first | (with_reducible first | exact HI0.out | apply IsS45.alloc | apply IsS45.drewN | apply IsS45.drew | apply IsS45.set_0 | apply IsS45.set_1 | refine IsS45.far ?_ (Nat.ne_of_lt hlt) _) | exact HI0.out)
 · repeat (first | (with_reducible first | exact HB.out | apply below_alloc | apply pw_below_drewN | apply below_drew1 | refine below_set ?_ HB.out.size | refine below_set ?_ (IsS45.ge HI0.out)) | exact HB.out)
 · repeat (first | (with_reducible first | exact HK.out | apply KeepBut.set_ | apply keep_drewN | apply keep_drew | apply keep_alloc | refine keep_far ?_ (Nat.le_refl _) _) | exact HK.out)
set_option maxHeartbeats 600000 in
set_option maxRecDepth 100000 in
theorem letter_ok3 (g : Nat) (s R : ByteArray) (a : Int) (w0 w : World) (hI : IsS45 w0 w g s a) (hB : Below w0.heap.size w0 w)
  (hsl : ∀ w, (Instr.sliceAt 9 (.string s) (some (.int .i64 a)) none none).run Tryd.prog w = .ok (.string R) w) (h1 : 3 ≤ R.size) (c1 : Int) (i1 : ∀ w, (Instr.index 9 (.string R) (.int .i64 1)).run Tryd.prog w = .ok (.int .u8 c1) w) (i2 : ∀ w, (Instr.index 9 (.string R) (.int .i64 2)).run Tryd.prog w = .ok (.int .u8 39) w) (hc1 : c1 ≠ 92) (hr1 : 32 ≤ c1) (hr2 : c1 ≤ 126) (hr3 : c1 ≠ 39) (ha : 0 ≤ a) (ha2 : a ≤ 9000000000000) :
  Calls Tryd.prog 29 #[.pointer (some ⟨g, 0, none⟩)] w fun e w' => e = .returned (.tuple #[tokV 4 a (R.extract 0 3) ⟨#[]⟩ c1 false, .int .i64 0]) ∧ IsS45 w0 w' g s (a + 3) ∧ Below w0.heap.size w0 w' ∧ KeepBut w w' g none := by
 have HI0 := Aside0.mk hI
 have HB := Aside0.mk hB
 have HK := Aside0.mk (KeepBut.refl w g none)
 clear hB
 obtain ⟨HGz, hgz⟩ := hI
 have hc0 := cellS45_0 HGz
 have hc1 := cellS45_1 HGz
 have hf0 := blk_frozen HGz 0
 have hf1 := blk_frozen HGz 1
 have hlt : g < w.heap.size := HI0.out.lt
 clear HGz hgz
 have b1 : decide (1 < R.size) = true := decide_eq_true (by omega)
 have b4 : decide (R.size < 3) = false := decide_eq_false (by omega)
 have nc1 : (c1 == 92) = false := beq_eq_false_iff_ne.2 (by omega)
 have mc1 : (c1 != 92) = true := bne_iff_ne.2 (by omega)
 have r1 : decide (c1 < 32) = false := decide_eq_false (by omega)
 have r2 : decide (126 < c1) = false := decide_eq_false (by omega)
 have pc1 : (c1 == 39) = false := beq_eq_false_iff_ne.2 (by omega)
 have qc1 : (c1 != 39) = true := bne_iff_ne.2 (by omega)
 go_enter Tryd.func29, Tryd.ntmps29
 go_wp2
 go_quiet (fail)
 go_wp2
 go_region
 go_wp2
 refine bodyPost_ret (v := .tuple #[tokV 4 a (R.extract 0 3) ⟨#[]⟩ c1 false, .int .i64 0]) ?hr rfl ?_
 case hr => simp [results, Tryd.results29, go_sem]
 refine ⟨rfl, ?_, ?_, ?_⟩
 · repeat (first | (with_reducible first | exact HI0.out | apply IsS45.alloc | apply IsS45.drewN | apply IsS45.drew | apply IsS45.set_0 | apply IsS45.set_1 | refine IsS45.far ?_ (Nat.ne_of_lt hlt) _) | exact HI0.out)
 · repeat (first | (with_reducible first | exact HB.out | apply below_alloc | apply pw_below_drewN | apply below_drew1 | refine below_set ?_ HB.out.size | refine below_set ?_ (IsS45.ge HI0.out)) | exact HB.out)
 · repeat (first | (with_reducible first | exact HK.out | apply KeepBut.set_ | apply keep_drewN | apply keep_drew | apply keep_alloc | refine keep_far ?_ (Nat.le_refl _) _) | exact HK.out)
set_option maxHeartbeats 600000 in
set_option maxRecDepth 100000 in
theorem letter_ok4 (g : Nat) (s R : ByteArray) (a : Int) (w0 w : World) (hI : IsS45 w0 w g s a) (hB : Below w0.heap.size w0 w)
  (hsl : ∀ w, (Instr.sliceAt 9 (.string s) (some (.int .i64 a)) none none).run Tryd.prog w = .ok (.string R) w) (h1 : 4 ≤ R.size) (c2 q c : Int) (i1 : ∀ w, (Instr.index 9 (.string R) (.int .i64 1)).run Tryd.prog w = .ok (.int .u8 92) w) (i2 : ∀ w, (Instr.index 9 (.string R) (.int .i64 2)).run Tryd.prog w = .ok (.int .u8 c2) w) (i3 : ∀ w, (Instr.index 9 (.string R) (.int .i64 3)).run Tryd.prog w = .ok (.int .u8 39) w) (hq : Lx.IndexByte.f ⟨#[110, 48, 92, 39]⟩ c2 = some q) (hq0 : 0 ≤ q) (hc0' : 0 ≤ c) (hc1' : c ≤ 255) (hix : ∀ w, (Instr.index 9 (.string ⟨#[10, 0, 92, 39]⟩) (.int .i64 q)).run Tryd.prog w = .ok (.int .u8 c) w) (ha : 0 ≤ a) (ha2 : a ≤ 9000000000000) :
  Calls Tryd.prog 29 #[.pointer (some ⟨g, 0, none⟩)] w fun e w' => e = .returned (.tuple #[tokV 4 a (R.extract 0 4) ⟨#[]⟩ c false, .int .i64 0]) ∧ IsS45 w0 w' g s (a + 4) ∧ Below w0.heap.size w0 w' ∧ KeepBut w w' g none := by
 have HI0 := Aside0.mk hI
 have HB := Aside0.mk hB
 have HK := Aside0.mk (KeepBut.refl w g none)
 clear hB
 obtain ⟨HGz, hgz⟩ := hI
 have hc0 := cellS45_0 HGz
 have hc1 := cellS45_1 HGz
 have hf0 := blk_frozen HGz 0
 have hf1 := blk_frozen HGz 1
 have hlt : g < w.heap.size := HI0.out.lt
 clear HGz hgz
 have HQ := Aside0.mk hq
 clear hq
 have b1 : decide (1 < R.size) = true := decide_eq_true (by omega)
 have b4 : decide (R.size < 4) = false := decide_eq_false (by omega)
 have bq : decide (q < 0) = false := decide_eq_false (by omega)
 go_enter Tryd.func29, Tryd.ntmps29
 go_wp2
 go_quiet (fail)
 go_wp2_with (go_at_call 23; (with_reducible refine (Lx.IndexByte.calls _ c2 q _ HQ.out).mono ?_); rintro e w' ⟨rfl, ⟨nd, rfl⟩⟩)
 go_region
 go_wp2
 refine bodyPost_ret (v := .tuple #[tokV 4 a (R.extract 0 4) ⟨#[]⟩ c false, .int .i64 0]) ?hr rfl ?_
 case hr => simp [results, Tryd.results29, go_sem]
 refine ⟨rfl, ?_, ?_, ?_⟩
 · repeat (first | (with_reducible first | exact HI0.out | apply IsS45.alloc | apply IsS45.drewN | apply IsS45.drew | apply IsS45.set_0 | apply IsS45.set_1 | refine IsS45.far ?_ (Nat.ne_of_lt hlt) _) | exact HI0.out)
 · repeat (first | (with_reducible first | exact HB.out | apply below_alloc | apply pw_below_drewN | apply below_drew1 | refine below_set ?_ HB.out.size | refine below_set ?_ (IsS45.ge HI0.out)) | exact HB.out)
 · repeat (first | (with_reducible first | exact HK.out | apply KeepBut.set_ | apply keep_drewN | apply keep_drew | apply keep_alloc | refine keep_far ?_ (Nat.le_refl _) _) | exact HK.out)
end Go.Proofs.YtiljijckfkphhaaDoor.PLex
