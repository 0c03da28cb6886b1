-- PRINTED by print.py (a twelfth state) out of the translation. Not trusted: Lean checks it.
import Derived.Test.YtiljijckfkphhaaDoorPLexx0
import Derived.WalkMore
namespace Go.Proofs.YtiljijckfkphhaaDoor.PLex
open Go.RowKit Go.Proofs.YtiljijckfkphhaaDoorW.PrintWords Go.Proofs.YtiljijckfkphhaaDoorW.PrintLast Go.Proofs.YtiljijckfkphhaaDoorW.PrintMore
attribute [local go_sem] max2_int min2_int max_two min_two max_three min_three max_four min_four   -- for this text's walks alone
set_option linter.unusedVariables false
set_option linter.unusedSimpArgs false

/-! ### lex_wrong: function 16 -/
def lex_wrong.f (a0 : Int) (a1 : Int) : Option (Int × Int) := some (a0, a1)
set_option maxHeartbeats 8000000 in
set_option maxRecDepth 100000 in
theorem lex_wrong.calls (a0 : Int) (a1 : Int) (r1 : Int) (r2 : Int) (w : World) (h : lex_wrong.f a0 a1 = some (r1, r2)) :
  Calls Tryd.prog 16 #[.int .i64 a0, .int .i64 a1] w fun e w' => e = .returned (.agg #[.int .i64 r1, .int .i64 r2]) ∧ Below w.heap.size w w' := by
 have hu26 := Tryd.underlying26
 have HB := Aside0.mk (Below.refl w.heap.size w)
 have H : (some (a0, a1)) = some (r1, r2) := h
 clear h
 simp only [Option.some.injEq, Prod.mk.injEq] at H
 obtain ⟨rfl, rfl⟩ := H
 go_enter Tryd.func16, Tryd.ntmps16
 go_wp2_with (first | ((with_reducible refine gate_dst (N := 4) rfl ?_); refine box_event ?hg (N := 4) ?hd (cs := #[.int .i64 0, .int .i64 0]) (t := 26) ?hr ?_; (case hd => rfl); (case hg => rfl); (case hr => first | (go_simp; done) | (go_simp; rfl)); intro gb101 hg w3 hbox hb; have n0_ := Aside0.mk (below_step (by repeat (first | (with_reducible first | exact HB.out | apply below_alloc | apply pw_below_drewN | apply below_drew1) | exact HB.out)) hb); have n1_ := Aside0.mk (hbox); have n2_ := Aside0.mk ((by rw [hg]; exact (below_size (by repeat (first | (with_reducible first | exact HB.out | apply below_alloc | apply pw_below_drewN | apply below_drew1) | exact HB.out))) : w.heap.size ≤ gb101)); have n3_ := Aside0.mk ((by rw [hg]; exact (below_size (by repeat (first | (with_reducible first | exact HB.out | apply below_alloc | apply pw_below_drewN | apply below_drew1) | exact HB.out))) : w.heap.size ≤ gb101)); clear HB; have HB := n0_; have BK101 := n1_; have GW101 := n2_; have GE101 := n3_; clear n0_ n1_ n2_ n3_; clear hb hbox hg; have hcz4_0 : w3.cell? ⟨gb101, 0, none⟩ = some (.int .i64 0) := (blk_cell BK101.out 0).trans rfl; have hcz4_1 : w3.cell? ⟨gb101, 1, none⟩ = some (.int .i64 0) := (blk_cell BK101.out 1).trans rfl; have hfz4_0 := blk_frozen BK101.out 0; have hfz4_1 := blk_frozen BK101.out 1))
 refine bodyPost_ret (results_cell_row rfl _ _ gb101 26 #[.int .i64 a0, .int .i64 a1] (0, 0) _ rfl (by (with_reducible repeat (first | refine blk_drewN ?_ _ | refine blk_drew ?_ | refine blk_alloc ?_ _)); refine blk_put (cs := #[.int .i64 a0, .int .i64 0]) ?_ 1 _ rfl; (with_reducible repeat (first | refine blk_drewN ?_ _ | refine blk_drew ?_ | refine blk_alloc ?_ _)); refine blk_put (cs := #[.int .i64 0, .int .i64 0]) ?_ 0 _ rfl; (with_reducible repeat (first | refine blk_drewN ?_ _ | refine blk_drew ?_ | refine blk_alloc ?_ _)); exact BK101.out) Tryd.underlying26 rfl (by kernel_rfl)) rfl ?_
 exact ⟨by first | rfl | (simp [errW_none, errW_some] <;> rfl) | (simp [*, errW_none, errW_some] <;> rfl), by repeat (first | (with_reducible first | exact HB.out | apply below_alloc | apply pw_below_drewN | apply below_drew1 | refine below_set ?_ GE101.out) | exact HB.out)⟩

/-! ### stringslite_HasPrefix: function 39 -/
def stringslite_HasPrefix.f (a0 : ByteArray) (a1 : ByteArray) : Option (Bool) := if (a0.size : Int) ≥ (a1.size : Int) then (if 0 ≤ (a1.size : Int) then (if (a1.size : Int) ≤ (a0.size : Int) then (some ((a0.extract 0 ((a1.size : Int) : Int).toNat).toList == a1.toList)) else (none)) else (none)) else (some false)
set_option maxHeartbeats 8000000 in
set_option maxRecDepth 100000 in
theorem stringslite_HasPrefix.calls (a0 : ByteArray) (a1 : ByteArray) (r : Bool) (w : World) (h : stringslite_HasPrefix.f a0 a1 = some r) :
  Calls Tryd.prog 39 #[.string a0, .string a1] w fun e w' => e = .returned (.bool r) ∧ Drawn0 w w' := by
 have H : (if (a0.size : Int) ≥ (a1.size : Int) then (if 0 ≤ (a1.size : Int) then (if (a1.size : Int) ≤ (a0.size : Int) then (some ((a0.extract 0 ((a1.size : Int) : Int).toNat).toList == a1.toList)) else (none)) else (none)) else (some false)) = some r := h
 clear h
 by_cases c3 : (a0.size : Int) ≥ (a1.size : Int)
 ·
  rw [if_pos c3] at H
  have c3b0 : decide ((a1.size : Int) ≤ (a0.size : Int)) = true := decide_eq_true c3
  have c3b1 : decide (a1.size ≤ a0.size) = true := decide_eq_true (Int.ofNat_le.mp c3)
  clear c3
  by_cases c4 : 0 ≤ (a1.size : Int)
  case neg => rw [if_neg c4] at H; exact absurd H (by simp)
  rw [if_pos c4] at H
  have c4b0 := eq_true c4
  have c4b1 : decide (0 ≤ (a1.size : Int)) = true := decide_eq_true c4
  clear c4
  by_cases c5 : (a1.size : Int) ≤ (a0.size : Int)
  case neg => rw [if_neg c5] at H; exact absurd H (by simp)
  rw [if_pos c5] at H
  have c5b0 := eq_true c5
  have c5b1 : decide ((a1.size : Int) ≤ (a0.size : Int)) = true := decide_eq_true c5
  clear c5
  obtain rfl := Option.some.inj H
  go_enter Tryd.func39, Tryd.ntmps39
  go_wp2
  go_ret
  exact ⟨by first | rfl | (simp; done) | (simp [*]; done), by repeat (first | exact Drawn0.refl _ | apply Drawn0.step)⟩
 ·
  rw [if_neg c3] at H
  have c3b0 : decide ((a1.size : Int) ≤ (a0.size : Int)) = false := decide_eq_false c3
  have c3b1 : decide (a1.size ≤ a0.size) = false := decide_eq_false (fun h => c3 (Int.ofNat_le.mpr h))
  clear c3
  obtain rfl := Option.some.inj H
  go_enter Tryd.func39, Tryd.ntmps39
  go_wp2
  go_ret
  exact ⟨by first | rfl | (simp; done) | (simp [*]; done), by repeat (first | exact Drawn0.refl _ | apply Drawn0.step)⟩

/-! ### strings_HasPrefix: function 24 -/
def strings_HasPrefix.f (a0 : ByteArray) (a1 : ByteArray) : Option (Bool) := (stringslite_HasPrefix.f a0 a1).bind fun t102 => (some t102)
set_option maxHeartbeats 8000000 in
set_option maxRecDepth 100000 in
theorem strings_HasPrefix.calls (a0 : ByteArray) (a1 : ByteArray) (r : Bool) (w : World) (h : strings_HasPrefix.f a0 a1 = some r) :
  Calls Tryd.prog 24 #[.string a0, .string a1] w fun e w' => e = .returned (.bool r) ∧ Drawn0 w w' := by
 have H : ((stringslite_HasPrefix.f a0 a1).bind fun t102 => (some t102)) = some r := h
 clear h
 replace H := Option.bind_eq_some_iff.mp H
 obtain ⟨t102, A30, H⟩ := H
 replace H : (some t102) = some r := H
 have A3 := Aside0.mk A30
 clear A30
 obtain rfl := Option.some.inj H
 go_enter Tryd.func24, Tryd.ntmps24
 go_wp2_with (first | ((with_reducible refine gate_callee (f := 39) rfl ?_); refine goesL_ (some 7) rfl rfl Tryd.func39 (by kernel_rfl) rfl #[.string a0, .string a1] rfl (by (try simp only [List.map_toArray, List.map_cons, List.map_nil]); first | done | rfl | (simp only [List.length_drop, List.length_take]; rfl)) ?_; (with_reducible refine (stringslite_HasPrefix.calls a0 a1 t102 _ A3.out).mono ?_); rintro e w' ⟨rfl, ⟨nd, rfl⟩⟩; refine ⟨_, rfl, ?_⟩))
 go_ret
 exact ⟨by first | rfl | (simp; done) | (simp [*]; done), by repeat (first | exact Drawn0.refl _ | apply Drawn0.step)⟩

/-- A state of type 45 at block g of W; what its slices lead to came in by w0. -/
def IsS45 (w0 W : World) (g : Nat) (f0 : ByteArray) (f1 : Int) : Prop := W.heap[g]? = some (.cells #[.string f0, .int .i64 f1] 45 (0, 0)) ∧ w0.heap.size ≤ g
theorem IsS45.grown {w0 W : World} {g : Nat} {f0 : ByteArray} {f1 : Int} {W1 : World} {row : Option Nat} (h : IsS45 w0 W g f0 f1) (hw : W.grownBy W1 row) (hne : some g ≠ row) : IsS45 w0 W1 g f0 f1 := by
 obtain ⟨hb, hg⟩ := h
 exact ⟨blk_grown hb hw hne, hg⟩
theorem IsS45.kept {w0 W : World} {g : Nat} {f0 : ByteArray} {f1 : Int} {W1 : World} {S : Nat → Prop} (h : IsS45 w0 W g f0 f1) (hk : Kept W W1 S) (hne : ¬ S g) : IsS45 w0 W1 g f0 f1 := by
 obtain ⟨hb, hg⟩ := h
 exact ⟨blk_kept hb hk hne, hg⟩
theorem IsS45.below {w0 W : World} {g : Nat} {f0 : ByteArray} {f1 : Int} {W1 : World} (h : IsS45 w0 W g f0 f1) (hw : Below W.heap.size W W1) : IsS45 w0 W1 g f0 f1 := h.grown (grown_of_below hw none) (by simp)
theorem IsS45.alloc {w0 W : World} {g : Nat} {f0 : ByteArray} {f1 : Int} (h : IsS45 w0 W g f0 f1) (o : Obj) : IsS45 w0 (W.alloc o) g f0 f1 := h.below (below_alloc (Below.refl _ _) o)
theorem IsS45.drewN {w0 W : World} {g : Nat} {f0 : ByteArray} {f1 : Int} (h : IsS45 w0 W g f0 f1) (m : Nat) : IsS45 w0 (W.drewN m) g f0 f1 := h
theorem IsS45.drew {w0 W : World} {g : Nat} {f0 : ByteArray} {f1 : Int} (h : IsS45 w0 W g f0 f1) : IsS45 w0 W.drew g f0 f1 := h
theorem IsS45.at_ {w0 W : World} {g : Nat} {f0 : ByteArray} {f1 : Int} {w' : World} {m : Nat} (hq : W.drewN m = w') (h : IsS45 w0 W g f0 f1) : IsS45 w0 w' g f0 f1 := by subst hq; exact IsS45.drewN h m
theorem IsS45.apart {w0 W : World} {g : Nat} {f0 : ByteArray} {f1 : Int} {α : Type} {d : Kd α} {e : Nat} {base : Nat} {ok : Nat → Prop} {v : Value} {xs : List α} (h : IsS45 w0 W g f0 f1) (ho : d.R e W base ok v xs) (ht : ∀ q, q ∈ e :: d.E → q ≠ 45) : d.R e W base (fun k => ok k ∧ k ≠ g) v xs := by
 obtain ⟨hb, hg⟩ := h
 exact Kd.R_types ho hb ht
theorem IsS45.own_ne {w0 W : World} {g : Nat} {f0 : ByteArray} {f1 : Int} {α : Type} {d : Kd α} {e : Nat} {base : Nat} {ok : Nat → Prop} {v : Value} {xs : List α} (h : IsS45 w0 W g f0 f1) (ho : d.R e W base ok v xs) (ht : e ≠ 45) : some g ≠ v.ownBlock := by
 obtain ⟨hb, hg⟩ := h
 exact Kd.R_ne ho hb ht
theorem IsS45.lt {w0 W : World} {g : Nat} {f0 : ByteArray} {f1 : Int} (h : IsS45 w0 W g f0 f1) : g < W.heap.size := by
 obtain ⟨hb, hg⟩ := h
 exact blk_lt hb
theorem IsS45.ge {w0 W : World} {g : Nat} {f0 : ByteArray} {f1 : Int} (h : IsS45 w0 W g f0 f1) : w0.heap.size ≤ g := by
 obtain ⟨hb, hg⟩ := h
 exact hg
theorem IsS45.far {w0 W : World} {g : Nat} {f0 : ByteArray} {f1 : Int} {p : Addr} (h : IsS45 w0 W g f0 f1) (hne : g ≠ p.block) (u : Value) : IsS45 w0 (W.setCell p u) g f0 f1 := by
 obtain ⟨hb, hg⟩ := h
 exact ⟨blk_far hb hne u, hg⟩
theorem cellS45_0 {W : World} {g : Nat} {f0 : ByteArray} {f1 : Int} (h : W.heap[g]? = some (.cells #[.string f0, .int .i64 f1] 45 (0, 0))) : W.cell? ⟨g, 0, none⟩ = some (.string f0) := (blk_cell h 0).trans rfl
theorem IsS45.set_0 {w0 W : World} {g : Nat} {f0 : ByteArray} {f1 : Int} (h : IsS45 w0 W g f0 f1) (x : ByteArray) : IsS45 w0 (W.setCell ⟨g, 0, none⟩ (.string x)) g x f1 := by
 obtain ⟨hb, hg⟩ := h
 exact ⟨by simpa using blk_set hb 0 (.string x), hg⟩
theorem cellS45_1 {W : World} {g : Nat} {f0 : ByteArray} {f1 : Int} (h : W.heap[g]? = some (.cells #[.string f0, .int .i64 f1] 45 (0, 0))) : W.cell? ⟨g, 1, none⟩ = some (.int .i64 f1) := (blk_cell h 1).trans rfl
theorem IsS45.set_1 {w0 W : World} {g : Nat} {f0 : ByteArray} {f1 : Int} (h : IsS45 w0 W g f0 f1) (x : Int) : IsS45 w0 (W.setCell ⟨g, 1, none⟩ (.int .i64 x)) g f0 x := by
 obtain ⟨hb, hg⟩ := h
 exact ⟨by simpa using blk_set hb 1 (.int .i64 x), hg⟩
theorem IsS45.new (w0 W : World) (f0 : ByteArray) (f1 : Int) (hB : Below w0.heap.size w0 W) : IsS45 w0 (W.alloc (.cells #[.string f0, .int .i64 f1] 45)) W.heap.size f0 f1 := ⟨by simpa using heap_alloc_new W _, hB.size⟩

/-! ### lex_reader_gap: function 17 -/
def lex_reader_gap.l0 : Nat → ByteArray → Int → Option (Bool × ByteArray × Int)
 | 0, _, _ => none
 | k + 1, x1000, x1001 => if x1001 < (x1000.size : Int) then (if 0 ≤ x1001 then (if x1001 ≤ (x1000.size : Int) then (if 0 < ((x1000.extract (x1001 : Int).toNat x1000.size).size : Int) then ((Lx.IndexByte.f (⟨#[32, 9, 10, 13]⟩ : ByteArray) (bt (x1000.extract (x1001 : Int).toNat x1000.size) 0)).bind fun t103 => (if t103 ≥ 0 then (lex_reader_gap.l0 k x1000 (wrap64 (x1001 + 1))) else ((strings_HasPrefix.f (x1000.extract (x1001 : Int).toNat x1000.size) (⟨#[47, 47]⟩ : ByteArray)).bind fun t104 => (if t104 = true then ((Lx.IndexAny.f (x1000.extract (x1001 : Int).toNat x1000.size) (⟨#[10, 13]⟩ : ByteArray)).bind fun t105 => (if t105 < 0 then (lex_reader_gap.l0 k x1000 (wrap64 (x1001 + ((x1000.extract (x1001 : Int).toNat x1000.size).size : Int)))) else (lex_reader_gap.l0 k x1000 (wrap64 (x1001 + t105))))) else ((strings_HasPrefix.f (x1000.extract (x1001 : Int).toNat x1000.size) (⟨#[47, 42]⟩ : ByteArray)).bind fun t106 => (if t106 = true then (if 2 ≤ ((x1000.extract (x1001 : Int).toNat x1000.size).size : Int) then ((Lx.Index.f ((x1000.extract (x1001 : Int).toNat x1000.size).extract 2 (x1000.extract (x1001 : Int).toNat x1000.size).size) (⟨#[42, 47]⟩ : ByteArray)).bind fun t107 => (if t107 < 0 then (some (false, x1000, x1001)) else (lex_reader_gap.l0 k x1000 (wrap64 (x1001 + (wrap64 (t107 + 4))))))) else (none)) else (some (true, x1000, x1001)))))))) else (none)) else (none)) else (none)) else (some (true, x1000, x1001))
def lex_reader_gap.f (k : Nat) (s0_0 : ByteArray) (s0_1 : Int) : Option (Bool × ByteArray × Int) := lex_reader_gap.l0 k s0_0 s0_1
theorem lex_reader_gap.mono_l : ∀ k, (∀ y0 y1, LeO (lex_reader_gap.l0 k y0 y1) (lex_reader_gap.l0 (k + 1) y0 y1))
 | 0 => fun _ _ r h => by simp [lex_reader_gap.l0] at h
 | k + 1 => by
  have ih0 := lex_reader_gap.mono_l k
  ·
   intro y0 y1
   unfold lex_reader_gap.l0
   repeat' first
   | (with_reducible exact ih0 _ _)
   | (with_reducible exact LeO.refl _)
   | (with_reducible exact LeO.none _)
   | (with_reducible refine LeO.ite ?_ ?_)
   | (with_reducible refine LeO.bind ?_ (fun _ => ?_))
   | exact ih0 _ _
   | exact LeO.none _
   | refine LeO.ite ?_ ?_
   | refine LeO.bind ?_ (fun _ => ?_)
theorem lex_reader_gap.mono : ∀ a0 a1 k, LeO (lex_reader_gap.f k a0 a1) (lex_reader_gap.f (k + 1) a0 a1) := by
 intro a0 a1 k
 have ih0 := lex_reader_gap.mono_l k
 unfold lex_reader_gap.f
 repeat' first
   | (with_reducible exact ih0 _ _)
   | (with_reducible exact LeO.refl _)
   | (with_reducible exact LeO.none _)
   | (with_reducible refine LeO.ite ?_ ?_)
   | (with_reducible refine LeO.bind ?_ (fun _ => ?_))
   | exact ih0 _ _
   | exact LeO.none _
   | refine LeO.ite ?_ ?_
   | refine LeO.bind ?_ (fun _ => ?_)
set_option maxHeartbeats 8000000 in
set_option maxRecDepth 100000 in
theorem lex_reader_gap.calls (k : Nat) (g : Nat) (s0_0 : ByteArray) (s0_1 : Int) (r1 : Bool) (r2 : ByteArray) (r3 : Int) (w0 w : World) (hI : IsS45 w0 w g s0_0 s0_1) (hB : Below w0.heap.size w0 w) (hG : GW w0) (h : lex_reader_gap.f k s0_0 s0_1 = some (r1, r2, r3)) :
  Calls Tryd.prog 17 #[.pointer (some ⟨g, 0, none⟩)] w fun e w' => e = .returned (.bool r1) ∧ IsS45 w0 w' g r2 r3 ∧ Below w0.heap.size w0 w' ∧ KeepBut w w' g none := by
 have HGW := Aside0.mk hG
 clear hG
 have HI0 := Aside0.mk hI
 have HK := Aside0.mk (KeepBut.refl w g none)
 have HL := Aside0.mk hB.size
 clear hI
 have HW0 := Aside0.mk hB.size
 have HB := Aside0.mk hB
 clear hB
 have H : (lex_reader_gap.l0 k s0_0 s0_1) = some (r1, r2, r3) := h
 clear h
 have H' := Aside0.mk H
 clear H
 go_enter Tryd.func17, Tryd.ntmps17
 go_wp2
 go_step3
 go_wp2
 try go_step3
 try go_wp2
 go_loopg [] k (fun kq w' => ∃ (x1001_1 : Int), Aside0 (lex_reader_gap.l0 kq s0_0 x1001_1 = some (r1, r2, r3)) ∧ Aside0 (kq ≤ k) ∧ Aside0 (IsS45 w0 w' g s0_0 x1001_1) ∧ Aside0 (KeepBut w w' g none) ∧ Aside0 (Below w0.heap.size w0 w'))
 case atStart => exact ⟨(s0_1), H', ⟨Nat.le_refl _⟩, ⟨by (try simp only [ByteArray.size_extract, Nat.min_self]); repeat (first | (with_reducible first | exact HI0.out | apply IsS45.alloc | apply IsS45.drewN | apply IsS45.drew | apply IsS45.set_0 | apply IsS45.set_1) | exact HI0.out)⟩, ⟨by repeat (first | (with_reducible first | exact HK.out | apply KeepBut.set_ | apply keep_drewN | apply keep_drew | apply keep_alloc) | exact HK.out)⟩, ⟨by repeat (first | (with_reducible first | exact HB.out | apply below_alloc | apply pw_below_drewN | apply below_drew1 | refine below_set ?_ (IsS45.ge HI0.out)) | exact HB.out)⟩⟩
 case round =>
  clear H'
  try clear c1
  obtain ⟨x1001_1, HA, HK1, HI0, HK, HB⟩ := hrel
  cases gk with
  | zero => exact absurd HA.out (by simp [lex_reader_gap.l0])
  | succ k1 =>
   have H := HA.out
   clear HA
   simp only [lex_reader_gap.l0] at H
   by_cases c2 : x1001_1 < (s0_0.size : Int)
   ·
    rw [if_pos c2] at H
    have c2b0 : decide (x1001_1 < (s0_0.size : Int)) = true := decide_eq_true c2
    clear c2
    by_cases c3 : 0 ≤ x1001_1
    case neg => rw [if_neg c3] at H; exact absurd H (by simp)
    rw [if_pos c3] at H
    have c3b0 := eq_true c3
    have c3b1 : decide (0 ≤ x1001_1) = true := decide_eq_true c3
    clear c3
    by_cases c4 : x1001_1 ≤ (s0_0.size : Int)
    case neg => rw [if_neg c4] at H; exact absurd H (by simp)
    rw [if_pos c4] at H
    have c4b0 := eq_true c4
    have c4b1 : decide (x1001_1 ≤ (s0_0.size : Int)) = true := decide_eq_true c4
    clear c4
    by_cases c5 : 0 < ((s0_0.extract (x1001_1 : Int).toNat s0_0.size).size : Int)
    case neg => rw [if_neg c5] at H; exact absurd H (by simp)
    rw [if_pos c5] at H
    have c5b0 : decide (0 < ((s0_0.extract (x1001_1 : Int).toNat s0_0.size).size : Int)) = true := decide_eq_true c5
    have c5b1 : decide (0 < (s0_0.extract (x1001_1 : Int).toNat s0_0.size).size) = true := decide_eq_true (by omega)
    have c5b2 : 0 < s0_0.size - (x1001_1 : Int).toNat := by have h_ := c5; rw [ByteArray.size_extract] at h_; omega
    clear c5
    replace H := Option.bind_eq_some_iff.mp H
    obtain ⟨t103, A70, H⟩ := H
    replace H : (if t103 ≥ 0 then (lex_reader_gap.l0 k1 s0_0 (wrap64 (x1001_1 + 1))) else ((strings_HasPrefix.f (s0_0.extract (x1001_1 : Int).toNat s0_0.size) (⟨#[47, 47]⟩ : ByteArray)).bind fun t104 => (if t104 = true then ((Lx.IndexAny.f (s0_0.extract (x1001_1 : Int).toNat s0_0.size) (⟨#[10, 13]⟩ : ByteArray)).bind fun t105 => (if t105 < 0 then (lex_reader_gap.l0 k1 s0_0 (wrap64 (x1001_1 + ((s0_0.extract (x1001_1 : Int).toNat s0_0.size).size : Int)))) else (lex_reader_gap.l0 k1 s0_0 (wrap64 (x1001_1 + t105))))) else ((strings_HasPrefix.f (s0_0.extract (x1001_1 : Int).toNat s0_0.size) (⟨#[47, 42]⟩ : ByteArray)).bind fun t106 => (if t106 = true then (if 2 ≤ ((s0_0.extract (x1001_1 : Int).toNat s0_0.size).size : Int) then ((Lx.Index.f ((s0_0.extract (x1001_1 : Int).toNat s0_0.size).extract 2 (s0_0.extract (x1001_1 : Int).toNat s0_0.size).size) (⟨#[42, 47]⟩ : ByteArray)).bind fun t107 => (if t107 < 0 then (some (false, s0_0, x1001_1)) else (lex_reader_gap.l0 k1 s0_0 (wrap64 (x1001_1 + (wrap64 (t107 + 4))))))) else (none)) else (some (true, s0_0, x1001_1))))))) = some (r1, r2, r3) := H
    (try simp only [ByteArray.size_extract, Nat.min_self] at A70)
    have A7 := Aside0.mk A70
    clear A70
    by_cases c8 : t103 ≥ 0
    ·
     rw [if_pos c8] at H
     have c8b0 : decide (0 ≤ t103) = true := decide_eq_true c8
     clear c8
     have H' := Aside0.mk H
     clear H
     obtain ⟨HGz9, hgz9⟩ := HI0.out
     have hcz9_0 := cellS45_0 HGz9
     have hcz9_1 := cellS45_1 HGz9
     have hfz9_0 := blk_frozen HGz9 0
     have hfz9_1 := blk_frozen HGz9 1
     clear HGz9 hgz9
     have p6 : 0 ≤ (0 : Int) := (by omega)
     have q6 : 0 < (s0_0.extract (x1001_1 : Int).toNat s0_0.size).size := (by have : (0 : Int) < ((s0_0.extract (x1001_1 : Int).toNat s0_0.size).size : Int) := of_decide_eq_true (by first | (with_reducible assumption) | assumption); omega)
     have hx6 : ∀ h : 0 < (s0_0.extract (x1001_1 : Int).toNat s0_0.size).size, (((s0_0.extract (x1001_1 : Int).toNat s0_0.size)[0]'h).toNat : Int) = bt (s0_0.extract (x1001_1 : Int).toNat s0_0.size) 0 := bt_at (s0_0.extract (x1001_1 : Int).toNat s0_0.size) 0
     clear p6
     have qi6 : (0 < ((s0_0.extract (x1001_1 : Int).toNat s0_0.size).size : Int)) = True := eq_true (of_decide_eq_true (by first | (with_reducible assumption) | assumption))
     replace q6 := eq_true q6
     go_wp2_with (first | (go_at_call 23; (with_reducible refine (Lx.IndexByte.calls (⟨#[32, 9, 10, 13]⟩ : ByteArray) (bt (s0_0.extract (x1001_1 : Int).toNat s0_0.size) 0) t103 _ A7.out).mono ?_); rintro e w' ⟨rfl, ⟨nd, rfl⟩⟩; (try first | exact ⟨rfl, _, World.drewN_drewN _ _ _⟩ | exact ⟨rfl, _, Eq.trans (World.drewN_drewN _ _ _) (congrArg (World.drewN _) (Nat.add_assoc _ _ _))⟩)))
     repeat (go_quiet (first | (go_at_call 23; (with_reducible refine (Lx.IndexByte.calls (⟨#[32, 9, 10, 13]⟩ : ByteArray) (bt (s0_0.extract (x1001_1 : Int).toNat s0_0.size) 0) t103 _ A7.out).mono ?_); rintro e w' ⟨rfl, ⟨nd, rfl⟩⟩; (try first | exact ⟨rfl, _, World.drewN_drewN _ _ _⟩ | exact ⟨rfl, _, Eq.trans (World.drewN_drewN _ _ _) (congrArg (World.drewN _) (Nat.add_assoc _ _ _))⟩))); try go_wp2_with (first | (go_at_call 23; (with_reducible refine (Lx.IndexByte.calls (⟨#[32, 9, 10, 13]⟩ : ByteArray) (bt (s0_0.extract (x1001_1 : Int).toNat s0_0.size) 0) t103 _ A7.out).mono ?_); rintro e w' ⟨rfl, ⟨nd, rfl⟩⟩; (try first | exact ⟨rfl, _, World.drewN_drewN _ _ _⟩ | exact ⟨rfl, _, Eq.trans (World.drewN_drewN _ _ _) (congrArg (World.drewN _) (Nat.add_assoc _ _ _))⟩))))
     go_roundg k1
     case measure => have := HK1.out; omega
     case rel => exact ⟨(wrap64 (x1001_1 + 1)), H', ⟨by have := HK1.out; omega⟩, ⟨by (try simp only [ByteArray.size_extract, Nat.min_self]); repeat (first | (with_reducible first | exact HI0.out | apply IsS45.alloc | apply IsS45.drewN | apply IsS45.drew | apply IsS45.set_0 | apply IsS45.set_1) | exact HI0.out)⟩, ⟨by repeat (first | (with_reducible first | exact HK.out | apply KeepBut.set_ | apply keep_drewN | apply keep_drew | apply keep_alloc) | exact HK.out)⟩, ⟨by repeat (first | (with_reducible first | exact HB.out | apply below_alloc | apply pw_below_drewN | apply below_drew1 | refine below_set ?_ (IsS45.ge HI0.out)) | exact HB.out)⟩⟩
    ·
     rw [if_neg c8] at H
     have c8b0 : decide (0 ≤ t103) = false := decide_eq_false c8
     clear c8
     replace H := Option.bind_eq_some_iff.mp H
     obtain ⟨t104, A100, H⟩ := H
     replace H : (if t104 = true then ((Lx.IndexAny.f (s0_0.extract (x1001_1 : Int).toNat s0_0.size) (⟨#[10, 13]⟩ : ByteArray)).bind fun t105 => (if t105 < 0 then (lex_reader_gap.l0 k1 s0_0 (wrap64 (x1001_1 + ((s0_0.extract (x1001_1 : Int).toNat s0_0.size).size : Int)))) else (lex_reader_gap.l0 k1 s0_0 (wrap64 (x1001_1 + t105))))) else ((strings_HasPrefix.f (s0_0.extract (x1001_1 : Int).toNat s0_0.size) (⟨#[47, 42]⟩ : ByteArray)).bind fun t106 => (if t106 = true then (if 2 ≤ ((s0_0.extract (x1001_1 : Int).toNat s0_0.size).size : Int) then ((Lx.Index.f ((s0_0.extract (x1001_1 : Int).toNat s0_0.size).extract 2 (s0_0.extract (x1001_1 : Int).toNat s0_0.size).size) (⟨#[42, 47]⟩ : ByteArray)).bind fun t107 => (if t107 < 0 then (some (false, s0_0, x1001_1)) else (lex_reader_gap.l0 k1 s0_0 (wrap64 (x1001_1 + (wrap64 (t107 + 4))))))) else (none)) else (some (true, s0_0, x1001_1))))) = some (r1, r2, r3) := H
     (try simp only [ByteArray.size_extract, Nat.min_self] at A100)
     have A10 := Aside0.mk A100
     clear A100
     by_cases c11 : t104 = true
     ·
      subst c11
      have H1 : ((Lx.IndexAny.f (s0_0.extract (x1001_1 : Int).toNat s0_0.size) (⟨#[10, 13]⟩ : ByteArray)).bind fun t105 => (if t105 < 0 then (lex_reader_gap.l0 k1 s0_0 (wrap64 (x1001_1 + ((s0_0.extract (x1001_1 : Int).toNat s0_0.size).size : Int)))) else (lex_reader_gap.l0 k1 s0_0 (wrap64 (x1001_1 + t105))))) = some (r1, r2, r3) := by rw [if_pos rfl] at H; exact H
      clear H
      have H := H1
      clear H1
      replace H := Option.bind_eq_some_iff.mp H
      obtain ⟨t105, A120, H⟩ := H
      replace H : (if t105 < 0 then (lex_reader_gap.l0 k1 s0_0 (wrap64 (x1001_1 + ((s0_0.extract (x1001_1 : Int).toNat s0_0.size).size : Int)))) else (lex_reader_gap.l0 k1 s0_0 (wrap64 (x1001_1 + t105)))) = some (r1, r2, r3) := H
      (try simp only [ByteArray.size_extract, Nat.min_self] at A120)
      have A12 := Aside0.mk A120
      clear A120
      by_cases c13 : t105 < 0
      ·
       rw [if_pos c13] at H
       have c13b0 : decide (t105 < 0) = true := decide_eq_true c13
       clear c13
       have H' := Aside0.mk H
       clear H
       obtain ⟨HGz14, hgz14⟩ := HI0.out
       have hcz14_0 := cellS45_0 HGz14
       have hcz14_1 := cellS45_1 HGz14
       have hfz14_0 := blk_frozen HGz14 0
       have hfz14_1 := blk_frozen HGz14 1
       clear HGz14 hgz14
       have p6 : 0 ≤ (0 : Int) := (by omega)
       have q6 : 0 < (s0_0.extract (x1001_1 : Int).toNat s0_0.size).size := (by have : (0 : Int) < ((s0_0.extract (x1001_1 : Int).toNat s0_0.size).size : Int) := of_decide_eq_true (by first | (with_reducible assumption) | assumption); omega)
       have hx6 : ∀ h : 0 < (s0_0.extract (x1001_1 : Int).toNat s0_0.size).size, (((s0_0.extract (x1001_1 : Int).toNat s0_0.size)[0]'h).toNat : Int) = bt (s0_0.extract (x1001_1 : Int).toNat s0_0.size) 0 := bt_at (s0_0.extract (x1001_1 : Int).toNat s0_0.size) 0
       clear p6
       have qi6 : (0 < ((s0_0.extract (x1001_1 : Int).toNat s0_0.size).size : Int)) = True := eq_true (of_decide_eq_true (by first | (with_reducible assumption) | assumption))
       replace q6 := eq_true q6
       go_wp2_with (first | (go_at_call 23; (with_reducible refine (Lx.IndexByte.calls (⟨#[32, 9, 10, 13]⟩ : ByteArray) (bt (s0_0.extract (x1001_1 : Int).toNat s0_0.size) 0) t103 _ A7.out).mono ?_); rintro e w' ⟨rfl, ⟨nd, rfl⟩⟩; (try first | exact ⟨rfl, _, World.drewN_drewN _ _ _⟩ | exact ⟨rfl, _, Eq.trans (World.drewN_drewN _ _ _) (congrArg (World.drewN _) (Nat.add_assoc _ _ _))⟩)) | (go_at_call 24; (with_reducible refine (strings_HasPrefix.calls (s0_0.extract (x1001_1 : Int).toNat s0_0.size) (⟨#[47, 47]⟩ : ByteArray) true _ A10.out).mono ?_); rintro e w' ⟨rfl, ⟨nd, rfl⟩⟩; (try first | exact ⟨rfl, _, World.drewN_drewN _ _ _⟩ | exact ⟨rfl, _, Eq.trans (World.drewN_drewN _ _ _) (congrArg (World.drewN _) (Nat.add_assoc _ _ _))⟩)) | (go_at_call 25; (with_reducible refine (Lx.IndexAny.calls (s0_0.extract (x1001_1 : Int).toNat s0_0.size) (⟨#[10, 13]⟩ : ByteArray) t105 _ A12.out).mono ?_); rintro e w15 ⟨rfl, hb⟩; have n0_ := Aside0.mk (IsS45.below (by repeat (first | (with_reducible first | exact HI0.out | apply IsS45.alloc | apply IsS45.drewN | apply IsS45.drew | apply IsS45.set_0 | apply IsS45.set_1) | exact HI0.out)) hb); have n1_ := Aside0.mk (KeepBut.trans (by repeat (first | (with_reducible first | exact HK.out | apply KeepBut.set_ | apply keep_drewN | apply keep_drew | apply keep_alloc) | exact HK.out)) (KeepBut.of_below hb g none) (.inl rfl)); have n2_ := Aside0.mk (below_step (by repeat (first | (with_reducible first | exact HB.out | apply below_alloc | apply pw_below_drewN | apply below_drew1 | refine below_set ?_ (IsS45.ge HI0.out)) | exact HB.out)) hb); clear HI0; clear HK; clear HB; have HI0 := n0_; have HK := n1_; have HB := n2_; clear n0_ n1_ n2_; (try clear hb); (try clear hb2); (try clear hk); (try clear hi); obtain ⟨HGz16, hgz16⟩ := HI0.out; have hcz16_0 := cellS45_0 HGz16; have hcz16_1 := cellS45_1 HGz16; have hfz16_0 := blk_frozen HGz16 0; have hfz16_1 := blk_frozen HGz16 1; clear HGz16 hgz16))
       repeat (go_quiet (first | (go_at_call 23; (with_reducible refine (Lx.IndexByte.calls (⟨#[32, 9, 10, 13]⟩ : ByteArray) (bt (s0_0.extract (x1001_1 : Int).toNat s0_0.size) 0) t103 _ A7.out).mono ?_); rintro e w' ⟨rfl, ⟨nd, rfl⟩⟩; (try first | exact ⟨rfl, _, World.drewN_drewN _ _ _⟩ | exact ⟨rfl, _, Eq.trans (World.drewN_drewN _ _ _) (congrArg (World.drewN _) (Nat.add_assoc _ _ _))⟩)) | (go_at_call 24; (with_reducible refine (strings_HasPrefix.calls (s0_0.extract (x1001_1 : Int).toNat s0_0.size) (⟨#[47, 47]⟩ : ByteArray) true _ A10.out).mono ?_); rintro e w' ⟨rfl, ⟨nd, rfl⟩⟩; (try first | exact ⟨rfl, _, World.drewN_drewN _ _ _⟩ | exact ⟨rfl, _, Eq.trans (World.drewN_drewN _ _ _) (congrArg (World.drewN _) (Nat.add_assoc _ _ _))⟩)) | (go_at_call 25; (with_reducible refine (Lx.IndexAny.calls (s0_0.extract (x1001_1 : Int).toNat s0_0.size) (⟨#[10, 13]⟩ : ByteArray) t105 _ A12.out).mono ?_); rintro e w15 ⟨rfl, hb⟩; have n0_ := Aside0.mk (IsS45.below (by repeat (first | (with_reducible first | exact HI0.out | apply IsS45.alloc | apply IsS45.drewN | apply IsS45.drew | apply IsS45.set_0 | apply IsS45.set_1) | exact HI0.out)) hb); have n1_ := Aside0.mk (KeepBut.trans (by repeat (first | (with_reducible first | exact HK.out | apply KeepBut.set_ | apply keep_drewN | apply keep_drew | apply keep_alloc) | exact HK.out)) (KeepBut.of_below hb g none) (.inl rfl)); have n2_ := Aside0.mk (below_step (by repeat (first | (with_reducible first | exact HB.out | apply below_alloc | apply pw_below_drewN | apply below_drew1 | refine below_set ?_ (IsS45.ge HI0.out)) | exact HB.out)) hb); clear HI0; clear HK; clear HB; have HI0 := n0_; have HK := n1_; have HB := n2_; clear n0_ n1_ n2_; (try clear hb); (try clear hb2); (try clear hk); (try clear hi); obtain ⟨HGz16, hgz16⟩ := HI0.out; have hcz16_0 := cellS45_0 HGz16; have hcz16_1 := cellS45_1 HGz16; have hfz16_0 := blk_frozen HGz16 0; have hfz16_1 := blk_frozen HGz16 1; clear HGz16 hgz16)); try go_wp2_with (first | (go_at_call 23; (with_reducible refine (Lx.IndexByte.calls (⟨#[32, 9, 10, 13]⟩ : ByteArray) (bt (s0_0.extract (x1001_1 : Int).toNat s0_0.size) 0) t103 _ A7.out).mono ?_); rintro e w' ⟨rfl, ⟨nd, rfl⟩⟩; (try first | exact ⟨rfl, _, World.drewN_drewN _ _ _⟩ | exact ⟨rfl, _, Eq.trans (World.drewN_drewN _ _ _) (congrArg (World.drewN _) (Nat.add_assoc _ _ _))⟩)) | (go_at_call 24; (with_reducible refine (strings_HasPrefix.calls (s0_0.extract (x1001_1 : Int).toNat s0_0.size) (⟨#[47, 47]⟩ : ByteArray) true _ A10.out).mono ?_); rintro e w' ⟨rfl, ⟨nd, rfl⟩⟩; (try first | exact ⟨rfl, _, World.drewN_drewN _ _ _⟩ | exact ⟨rfl, _, Eq.trans (World.drewN_drewN _ _ _) (congrArg (World.drewN _) (Nat.add_assoc _ _ _))⟩)) | (go_at_call 25; (with_reducible refine (Lx.IndexAny.calls (s0_0.extract (x1001_1 : Int).toNat s0_0.size) (⟨#[10, 13]⟩ : ByteArray) t105 _ A12.out).mono ?_); rintro e w15 ⟨rfl, hb⟩; have n0_ := Aside0.mk (IsS45.below (by repeat (first | (with_reducible first | exact HI0.out | apply IsS45.alloc | apply IsS45.drewN | apply IsS45.drew | apply IsS45.set_0 | apply IsS45.set_1) | exact HI0.out)) hb); have n1_ := Aside0.mk (KeepBut.trans (by repeat (first | (with_reducible first | exact HK.out | apply KeepBut.set_ | apply keep_drewN | apply keep_drew | apply keep_alloc) | exact HK.out)) (KeepBut.of_below hb g none) (.inl rfl)); have n2_ := Aside0.mk (below_step (by repeat (first | (with_reducible first | exact HB.out | apply below_alloc | apply pw_below_drewN | apply below_drew1 | refine below_set ?_ (IsS45.ge HI0.out)) | exact HB.out)) hb); clear HI0; clear HK; clear HB; have HI0 := n0_; have HK := n1_; have HB := n2_; clear n0_ n1_ n2_; (try clear hb); (try clear hb2); (try clear hk); (try clear hi); obtain ⟨HGz16, hgz16⟩ := HI0.out; have hcz16_0 := cellS45_0 HGz16; have hcz16_1 := cellS45_1 HGz16; have hfz16_0 := blk_frozen HGz16 0; have hfz16_1 := blk_frozen HGz16 1; clear HGz16 hgz16)))
       go_roundg k1
       case measure => have := HK1.out; omega
       case rel => exact ⟨(wrap64 (x1001_1 + ((s0_0.extract (x1001_1 : Int).toNat s0_0.size).size : Int))), H', ⟨by have := HK1.out; omega⟩, ⟨by (try simp only [ByteArray.size_extract, Nat.min_self]); repeat (first | (with_reducible first | exact HI0.out | apply IsS45.alloc | apply IsS45.drewN | apply IsS45.drew | apply IsS45.set_0 | apply IsS45.set_1) | exact HI0.out)⟩, ⟨by repeat (first | (with_reducible first | exact HK.out | apply KeepBut.set_ | apply keep_drewN | apply keep_drew | apply keep_alloc) | exact HK.out)⟩, ⟨by repeat (first | (with_reducible first | exact HB.out | apply below_alloc | apply pw_below_drewN | apply below_drew1 | refine below_set ?_ (IsS45.ge HI0.out)) | exact HB.out)⟩⟩
      ·
       rw [if_neg c13] at H
       have c13b0 : decide (t105 < 0) = false := decide_eq_false c13
       clear c13
       have H' := Aside0.mk H
       clear H
       obtain ⟨HGz17, hgz17⟩ := HI0.out
       have hcz17_0 := cellS45_0 HGz17
       have hcz17_1 := cellS45_1 HGz17
       have hfz17_0 := blk_frozen HGz17 0
       have hfz17_1 := blk_frozen HGz17 1
       clear HGz17 hgz17
       have p6 : 0 ≤ (0 : Int) := (by omega)
       have q6 : 0 < (s0_0.extract (x1001_1 : Int).toNat s0_0.size).size := (by have : (0 : Int) < ((s0_0.extract (x1001_1 : Int).toNat s0_0.size).size : Int) := of_decide_eq_true (by first | (with_reducible assumption) | assumption); omega)
       have hx6 : ∀ h : 0 < (s0_0.extract (x1001_1 : Int).toNat s0_0.size).size, (((s0_0.extract (x1001_1 : Int).toNat s0_0.size)[0]'h).toNat : Int) = bt (s0_0.extract (x1001_1 : Int).toNat s0_0.size) 0 := bt_at (s0_0.extract (x1001_1 : Int).toNat s0_0.size) 0
       clear p6
       have qi6 : (0 < ((s0_0.extract (x1001_1 : Int).toNat s0_0.size).size : Int)) = True := eq_true (of_decide_eq_true (by first | (with_reducible assumption) | assumption))
       replace q6 := eq_true q6
       go_wp2_with (first | (go_at_call 23; (with_reducible refine (Lx.IndexByte.calls (⟨#[32, 9, 10, 13]⟩ : ByteArray) (bt (s0_0.extract (x1001_1 : Int).toNat s0_0.size) 0) t103 _ A7.out).mono ?_); rintro e w' ⟨rfl, ⟨nd, rfl⟩⟩; (try first | exact ⟨rfl, _, World.drewN_drewN _ _ _⟩ | exact ⟨rfl, _, Eq.trans (World.drewN_drewN _ _ _) (congrArg (World.drewN _) (Nat.add_assoc _ _ _))⟩)) | (go_at_call 24; (with_reducible refine (strings_HasPrefix.calls (s0_0.extract (x1001_1 : Int).toNat s0_0.size) (⟨#[47, 47]⟩ : ByteArray) true _ A10.out).mono ?_); rintro e w' ⟨rfl, ⟨nd, rfl⟩⟩; (try first | exact ⟨rfl, _, World.drewN_drewN _ _ _⟩ | exact ⟨rfl, _, Eq.trans (World.drewN_drewN _ _ _) (congrArg (World.drewN _) (Nat.add_assoc _ _ _))⟩)) | (go_at_call 25; (with_reducible refine (Lx.IndexAny.calls (s0_0.extract (x1001_1 : Int).toNat s0_0.size) (⟨#[10, 13]⟩ : ByteArray) t105 _ A12.out).mono ?_); rintro e w18 ⟨rfl, hb⟩; have n0_ := Aside0.mk (IsS45.below (by repeat (first | (with_reducible first | exact HI0.out | apply IsS45.alloc | apply IsS45.drewN | apply IsS45.drew | apply IsS45.set_0 | apply IsS45.set_1) | exact HI0.out)) hb); have n1_ := Aside0.mk (KeepBut.trans (by repeat (first | (with_reducible first | exact HK.out | apply KeepBut.set_ | apply keep_drewN | apply keep_drew | apply keep_alloc) | exact HK.out)) (KeepBut.of_below hb g none) (.inl rfl)); have n2_ := Aside0.mk (below_step (by repeat (first | (with_reducible first | exact HB.out | apply below_alloc | apply pw_below_drewN | apply below_drew1 | refine below_set ?_ (IsS45.ge HI0.out)) | exact HB.out)) hb); clear HI0; clear HK; clear HB; have HI0 := n0_; have HK := n1_; have HB := n2_; clear n0_ n1_ n2_; (try clear hb); (try clear hb2); (try clear hk); (try clear hi); obtain ⟨HGz19, hgz19⟩ := HI0.out; have hcz19_0 := cellS45_0 HGz19; have hcz19_1 := cellS45_1 HGz19; have hfz19_0 := blk_frozen HGz19 0; have hfz19_1 := blk_frozen HGz19 1; clear HGz19 hgz19))
       repeat (go_quiet (first | (go_at_call 23; (with_reducible refine (Lx.IndexByte.calls (⟨#[32, 9, 10, 13]⟩ : ByteArray) (bt (s0_0.extract (x1001_1 : Int).toNat s0_0.size) 0) t103 _ A7.out).mono ?_); rintro e w' ⟨rfl, ⟨nd, rfl⟩⟩; (try first | exact ⟨rfl, _, World.drewN_drewN _ _ _⟩ | exact ⟨rfl, _, Eq.trans (World.drewN_drewN _ _ _) (congrArg (World.drewN _) (Nat.add_assoc _ _ _))⟩)) | (go_at_call 24; (with_reducible refine (strings_HasPrefix.calls (s0_0.extract (x1001_1 : Int).toNat s0_0.size) (⟨#[47, 47]⟩ : ByteArray) true _ A10.out).mono ?_); rintro e w' ⟨rfl, ⟨nd, rfl⟩⟩; (try first | exact ⟨rfl, _, World.drewN_drewN _ _ _⟩ | exact ⟨rfl, _, Eq.trans (World.drewN_drewN _ _ _) (congrArg (World.drewN _) (Nat.add_assoc _ _ _))⟩)) | (go_at_call 25; (with_reducible refine (Lx.IndexAny.calls (s0_0.extract (x1001_1 : Int).toNat s0_0.size) (⟨#[10, 13]⟩ : ByteArray) t105 _ A12.out).mono ?_); rintro e w18 ⟨rfl, hb⟩; have n0_ := Aside0.mk (IsS45.below (by repeat (first | (with_reducible first | exact HI0.out | apply IsS45.alloc | apply IsS45.drewN | apply IsS45.drew | apply IsS45.set_0 | apply IsS45.set_1) | exact HI0.out)) hb); have n1_ := Aside0.mk (KeepBut.trans (by repeat (first | (with_reducible first | exact HK.out | apply KeepBut.set_ | apply keep_drewN | apply keep_drew | apply keep_alloc) | exact HK.out)) (KeepBut.of_below hb g none) (.inl rfl)); have n2_ := Aside0.mk (below_step (by repeat (first | (with_reducible first | exact HB.out | apply below_alloc | apply pw_below_drewN | apply below_drew1 | refine below_set ?_ (IsS45.ge HI0.out)) | exact HB.out)) hb); clear HI0; clear HK; clear HB; have HI0 := n0_; have HK := n1_; have HB := n2_; clear n0_ n1_ n2_; (try clear hb); (try clear hb2); (try clear hk); (try clear hi); obtain ⟨HGz19, hgz19⟩ := HI0.out; have hcz19_0 := cellS45_0 HGz19; have hcz19_1 := cellS45_1 HGz19; have hfz19_0 := blk_frozen HGz19 0; have hfz19_1 := blk_frozen HGz19 1; clear HGz19 hgz19)); try go_wp2_with (first | (go_at_call 23; (with_reducible refine (Lx.IndexByte.calls (⟨#[32, 9, 10, 13]⟩ : ByteArray) (bt (s0_0.extract (x1001_1 : Int).toNat s0_0.size) 0) t103 _ A7.out).mono ?_); rintro e w' ⟨rfl, ⟨nd, rfl⟩⟩; (try first | exact ⟨rfl, _, World.drewN_drewN _ _ _⟩ | exact ⟨rfl, _, Eq.trans (World.drewN_drewN _ _ _) (congrArg (World.drewN _) (Nat.add_assoc _ _ _))⟩)) | (go_at_call 24; (with_reducible refine (strings_HasPrefix.calls (s0_0.extract (x1001_1 : Int).toNat s0_0.size) (⟨#[47, 47]⟩ : ByteArray) true _ A10.out).mono ?_); rintro e w' ⟨rfl, ⟨nd, rfl⟩⟩; (try first | exact ⟨rfl, _, World.drewN_drewN _ _ _⟩ | exact ⟨rfl, _, Eq.trans (World.drewN_drewN _ _ _) (congrArg (World.drewN _) (Nat.add_assoc _ _ _))⟩)) | (go_at_call 25; (with_reducible refine (Lx.IndexAny.calls (s0_0.extract (x1001_1 : Int).toNat s0_0.size) (⟨#[10, 13]⟩ : ByteArray) t105 _ A12.out).mono ?_); rintro e w18 ⟨rfl, hb⟩; have n0_ := Aside0.mk (IsS45.below (by repeat (first | (with_reducible first | exact HI0.out | apply IsS45.alloc | apply IsS45.drewN | apply IsS45.drew | apply IsS45.set_0 | apply IsS45.set_1) | exact HI0.out)) hb); have n1_ := Aside0.mk (KeepBut.trans (by repeat (first | (with_reducible first | exact HK.out | apply KeepBut.set_ | apply keep_drewN | apply keep_drew | apply keep_alloc) | exact HK.out)) (KeepBut.of_below hb g none) (.inl rfl)); have n2_ := Aside0.mk (below_step (by repeat (first | (with_reducible first | exact HB.out | apply below_alloc | apply pw_below_drewN | apply below_drew1 | refine below_set ?_ (IsS45.ge HI0.out)) | exact HB.out)) hb); clear HI0; clear HK; clear HB; have HI0 := n0_; have HK := n1_; have HB := n2_; clear n0_ n1_ n2_; (try clear hb); (try clear hb2); (try clear hk); (try clear hi); obtain ⟨HGz19, hgz19⟩ := HI0.out; have hcz19_0 := cellS45_0 HGz19; have hcz19_1 := cellS45_1 HGz19; have hfz19_0 := blk_frozen HGz19 0; have hfz19_1 := blk_frozen HGz19 1; clear HGz19 hgz19)))
       go_roundg k1
       case measure => have := HK1.out; omega
       case rel => exact ⟨(wrap64 (x1001_1 + t105)), H', ⟨by have := HK1.out; omega⟩, ⟨by (try simp only [ByteArray.size_extract, Nat.min_self]); repeat (first | (with_reducible first | exact HI0.out | apply IsS45.alloc | apply IsS45.drewN | apply IsS45.drew | apply IsS45.set_0 | apply IsS45.set_1) | exact HI0.out)⟩, ⟨by repeat (first | (with_reducible first | exact HK.out | apply KeepBut.set_ | apply keep_drewN | apply keep_drew | apply keep_alloc) | exact HK.out)⟩, ⟨by repeat (first | (with_reducible first | exact HB.out | apply below_alloc | apply pw_below_drewN | apply below_drew1 | refine below_set ?_ (IsS45.ge HI0.out)) | exact HB.out)⟩⟩
     ·
      replace c11 := Bool.eq_false_iff.mpr c11
      subst c11
      have H1 : ((strings_HasPrefix.f (s0_0.extract (x1001_1 : Int).toNat s0_0.size) (⟨#[47, 42]⟩ : ByteArray)).bind fun t106 => (if t106 = true then (if 2 ≤ ((s0_0.extract (x1001_1 : Int).toNat s0_0.size).size : Int) then ((Lx.Index.f ((s0_0.extract (x1001_1 : Int).toNat s0_0.size).extract 2 (s0_0.extract (x1001_1 : Int).toNat s0_0.size).size) (⟨#[42, 47]⟩ : ByteArray)).bind fun t107 => (if t107 < 0 then (some (false, s0_0, x1001_1)) else (lex_reader_gap.l0 k1 s0_0 (wrap64 (x1001_1 + (wrap64 (t107 + 4))))))) else (none)) else (some (true, s0_0, x1001_1)))) = some (r1, r2, r3) := by rw [if_neg (show ¬ (false = true) by decide)] at H; exact H
      clear H
      have H := H1
      clear H1
      replace H := Option.bind_eq_some_iff.mp H
      obtain ⟨t106, A200, H⟩ := H
      replace H : (if t106 = true then (if 2 ≤ ((s0_0.extract (x1001_1 : Int).toNat s0_0.size).size : Int) then ((Lx.Index.f ((s0_0.extract (x1001_1 : Int).toNat s0_0.size).extract 2 (s0_0.extract (x1001_1 : Int).toNat s0_0.size).size) (⟨#[42, 47]⟩ : ByteArray)).bind fun t107 => (if t107 < 0 then (some (false, s0_0, x1001_1)) else (lex_reader_gap.l0 k1 s0_0 (wrap64 (x1001_1 + (wrap64 (t107 + 4))))))) else (none)) else (some (true, s0_0, x1001_1))) = some (r1, r2, r3) := H
      (try simp only [ByteArray.size_extract, Nat.min_self] at A200)
      have A20 := Aside0.mk A200
      clear A200
      by_cases c21 : t106 = true
      ·
       subst c21
       have H1 : (if 2 ≤ ((s0_0.extract (x1001_1 : Int).toNat s0_0.size).size : Int) then ((Lx.Index.f ((s0_0.extract (x1001_1 : Int).toNat s0_0.size).extract 2 (s0_0.extract (x1001_1 : Int).toNat s0_0.size).size) (⟨#[42, 47]⟩ : ByteArray)).bind fun t107 => (if t107 < 0 then (some (false, s0_0, x1001_1)) else (lex_reader_gap.l0 k1 s0_0 (wrap64 (x1001_1 + (wrap64 (t107 + 4))))))) else (none)) = some (r1, r2, r3) := by rw [if_pos rfl] at H; exact H
       clear H
       have H := H1
       clear H1
       by_cases c22 : 2 ≤ ((s0_0.extract (x1001_1 : Int).toNat s0_0.size).size : Int)
       case neg => rw [if_neg c22] at H; exact absurd H (by simp)
       rw [if_pos c22] at H
       have c22b5 : 2 ≤ s0_0.size - (x1001_1 : Int).toNat := by have h_ := c22; rw [ByteArray.size_extract] at h_; omega
       have c22b0 := eq_true c22
       have c22b1 : decide (2 ≤ ((s0_0.extract (x1001_1 : Int).toNat s0_0.size).size : Int)) = true := decide_eq_true c22
       clear c22
       replace H := Option.bind_eq_some_iff.mp H
       obtain ⟨t107, A230, H⟩ := H
       replace H : (if t107 < 0 then (some (false, s0_0, x1001_1)) else (lex_reader_gap.l0 k1 s0_0 (wrap64 (x1001_1 + (wrap64 (t107 + 4)))))) = some (r1, r2, r3) := H
       (try simp only [ByteArray.size_extract, Nat.min_self] at A230)
       have A23 := Aside0.mk A230
       clear A230
       by_cases c24 : t107 < 0
       ·
        rw [if_pos c24] at H
        have c24b0 : decide (t107 < 0) = true := decide_eq_true c24
        clear c24
        simp only [Option.some.injEq, Prod.mk.injEq] at H
        obtain ⟨rfl, rfl, rfl⟩ := H
        obtain ⟨HGz25, hgz25⟩ := HI0.out
        have hcz25_0 := cellS45_0 HGz25
        have hcz25_1 := cellS45_1 HGz25
        have hfz25_0 := blk_frozen HGz25 0
        have hfz25_1 := blk_frozen HGz25 1
        clear HGz25 hgz25
        have p6 : 0 ≤ (0 : Int) := (by omega)
        have q6 : 0 < (s0_0.extract (x1001_1 : Int).toNat s0_0.size).size := (by have : (0 : Int) < ((s0_0.extract (x1001_1 : Int).toNat s0_0.size).size : Int) := of_decide_eq_true (by first | (with_reducible assumption) | assumption); omega)
        have hx6 : ∀ h : 0 < (s0_0.extract (x1001_1 : Int).toNat s0_0.size).size, (((s0_0.extract (x1001_1 : Int).toNat s0_0.size)[0]'h).toNat : Int) = bt (s0_0.extract (x1001_1 : Int).toNat s0_0.size) 0 := bt_at (s0_0.extract (x1001_1 : Int).toNat s0_0.size) 0
        clear p6
        have qi6 : (0 < ((s0_0.extract (x1001_1 : Int).toNat s0_0.size).size : Int)) = True := eq_true (of_decide_eq_true (by first | (with_reducible assumption) | assumption))
        replace q6 := eq_true q6
        go_wp2_with (first | (go_at_call 23; (with_reducible refine (Lx.IndexByte.calls (⟨#[32, 9, 10, 13]⟩ : ByteArray) (bt (s0_0.extract (x1001_1 : Int).toNat s0_0.size) 0) t103 _ A7.out).mono ?_); rintro e w' ⟨rfl, ⟨nd, rfl⟩⟩; (try first | exact ⟨rfl, _, World.drewN_drewN _ _ _⟩ | exact ⟨rfl, _, Eq.trans (World.drewN_drewN _ _ _) (congrArg (World.drewN _) (Nat.add_assoc _ _ _))⟩)) | (go_at_call 24; (with_reducible refine (strings_HasPrefix.calls (s0_0.extract (x1001_1 : Int).toNat s0_0.size) (⟨#[47, 47]⟩ : ByteArray) false _ A10.out).mono ?_); rintro e w' ⟨rfl, ⟨nd, rfl⟩⟩; (try first | exact ⟨rfl, _, World.drewN_drewN _ _ _⟩ | exact ⟨rfl, _, Eq.trans (World.drewN_drewN _ _ _) (congrArg (World.drewN _) (Nat.add_assoc _ _ _))⟩)) | (go_at_call 24; (with_reducible refine (strings_HasPrefix.calls (s0_0.extract (x1001_1 : Int).toNat s0_0.size) (⟨#[47, 42]⟩ : ByteArray) true _ A20.out).mono ?_); rintro e w' ⟨rfl, ⟨nd, rfl⟩⟩; (try first | exact ⟨rfl, _, World.drewN_drewN _ _ _⟩ | exact ⟨rfl, _, Eq.trans (World.drewN_drewN _ _ _) (congrArg (World.drewN _) (Nat.add_assoc _ _ _))⟩)) | (go_at_call 26; (with_reducible refine (Lx.Index.calls _ (⟨#[42, 47]⟩ : ByteArray) t107 _ ?gw1 A23.out).mono ?_); (case gw1 => (first | exact HGW.out | (refine GW.below HGW.out ?_; repeat (first | (with_reducible first | exact HB.out | exact Below.refl _ _ | apply below_alloc | apply pw_below_drewN | apply below_drew1 | refine below_set ?_ (IsS45.ge HI0.out) | refine below_set ?_ HB.out.size) | exact HB.out)))); rintro e w' ⟨rfl, ⟨nd, rfl⟩⟩; (try first | exact ⟨rfl, _, World.drewN_drewN _ _ _⟩ | exact ⟨rfl, _, Eq.trans (World.drewN_drewN _ _ _) (congrArg (World.drewN _) (Nat.add_assoc _ _ _))⟩)))
        repeat (go_quiet (first | (go_at_call 23; (with_reducible refine (Lx.IndexByte.calls (⟨#[32, 9, 10, 13]⟩ : ByteArray) (bt (s0_0.extract (x1001_1 : Int).toNat s0_0.size) 0) t103 _ A7.out).mono ?_); rintro e w' ⟨rfl, ⟨nd, rfl⟩⟩; (try first | exact ⟨rfl, _, World.drewN_drewN _ _ _⟩ | exact ⟨rfl, _, Eq.trans (World.drewN_drewN _ _ _) (congrArg (World.drewN _) (Nat.add_assoc _ _ _))⟩)) | (go_at_call 24; (with_reducible refine (strings_HasPrefix.calls (s0_0.extract (x1001_1 : Int).toNat s0_0.size) (⟨#[47, 47]⟩ : ByteArray) false _ A10.out).mono ?_); rintro e w' ⟨rfl, ⟨nd, rfl⟩⟩; (try first | exact ⟨rfl, _, World.drewN_drewN _ _ _⟩ | exact ⟨rfl, _, Eq.trans (World.drewN_drewN _ _ _) (congrArg (World.drewN _) (Nat.add_assoc _ _ _))⟩)) | (go_at_call 24; (with_reducible refine (strings_HasPrefix.calls (s0_0.extract (x1001_1 : Int).toNat s0_0.size) (⟨#[47, 42]⟩ : ByteArray) true _ A20.out).mono ?_); rintro e w' ⟨rfl, ⟨nd, rfl⟩⟩; (try first | exact ⟨rfl, _, World.drewN_drewN _ _ _⟩ | exact ⟨rfl, _, Eq.trans (World.drewN_drewN _ _ _) (congrArg (World.drewN _) (Nat.add_assoc _ _ _))⟩)) | (go_at_call 26; (with_reducible refine (Lx.Index.calls _ (⟨#[42, 47]⟩ : ByteArray) t107 _ ?gw2 A23.out).mono ?_); (case gw2 => (first | exact HGW.out | (refine GW.below HGW.out ?_; repeat (first | (with_reducible first | exact HB.out | exact Below.refl _ _ | apply below_alloc | apply pw_below_drewN | apply below_drew1 | refine below_set ?_ (IsS45.ge HI0.out) | refine below_set ?_ HB.out.size) | exact HB.out)))); rintro e w' ⟨rfl, ⟨nd, rfl⟩⟩; (try first | exact ⟨rfl, _, World.drewN_drewN _ _ _⟩ | exact ⟨rfl, _, Eq.trans (World.drewN_drewN _ _ _) (congrArg (World.drewN _) (Nat.add_assoc _ _ _))⟩))); try go_wp2_with (first | (go_at_call 23; (with_reducible refine (Lx.IndexByte.calls (⟨#[32, 9, 10, 13]⟩ : ByteArray) (bt (s0_0.extract (x1001_1 : Int).toNat s0_0.size) 0) t103 _ A7.out).mono ?_); rintro e w' ⟨rfl, ⟨nd, rfl⟩⟩; (try first | exact ⟨rfl, _, World.drewN_drewN _ _ _⟩ | exact ⟨rfl, _, Eq.trans (World.drewN_drewN _ _ _) (congrArg (World.drewN _) (Nat.add_assoc _ _ _))⟩)) | (go_at_call 24; (with_reducible refine (strings_HasPrefix.calls (s0_0.extract (x1001_1 : Int).toNat s0_0.size) (⟨#[47, 47]⟩ : ByteArray) false _ A10.out).mono ?_); rintro e w' ⟨rfl, ⟨nd, rfl⟩⟩; (try first | exact ⟨rfl, _, World.drewN_drewN _ _ _⟩ | exact ⟨rfl, _, Eq.trans (World.drewN_drewN _ _ _) (congrArg (World.drewN _) (Nat.add_assoc _ _ _))⟩)) | (go_at_call 24; (with_reducible refine (strings_HasPrefix.calls (s0_0.extract (x1001_1 : Int).toNat s0_0.size) (⟨#[47, 42]⟩ : ByteArray) true _ A20.out).mono ?_); rintro e w' ⟨rfl, ⟨nd, rfl⟩⟩; (try first | exact ⟨rfl, _, World.drewN_drewN _ _ _⟩ | exact ⟨rfl, _, Eq.trans (World.drewN_drewN _ _ _) (congrArg (World.drewN _) (Nat.add_assoc _ _ _))⟩)) | (go_at_call 26; (with_reducible refine (Lx.Index.calls _ (⟨#[42, 47]⟩ : ByteArray) t107 _ ?gw3 A23.out).mono ?_); (case gw3 => (first | exact HGW.out | (refine GW.below HGW.out ?_; repeat (first | (with_reducible first | exact HB.out | exact Below.refl _ _ | apply below_alloc | apply pw_below_drewN | apply below_drew1 | refine below_set ?_ (IsS45.ge HI0.out) | refine below_set ?_ HB.out.size) | exact HB.out)))); rintro e w' ⟨rfl, ⟨nd, rfl⟩⟩; (try first | exact ⟨rfl, _, World.drewN_drewN _ _ _⟩ | exact ⟨rfl, _, Eq.trans (World.drewN_drewN _ _ _) (congrArg (World.drewN _) (Nat.add_assoc _ _ _))⟩))))
        (first | (rw [Exit.noGoto_ret]; show bodyPost Tryd.prog Tryd.f17 _ Exit.ret _ _) | (rw [Exit.noGoto_normal]; show bodyPost Tryd.prog Tryd.f17 _ Exit.normal _ _) | skip)
        go_ret
        exact ⟨by first | rfl | (simp [errW_none, errW_some] <;> rfl) | (simp [*, errW_none, errW_some] <;> rfl), by repeat (first | (with_reducible first | exact HI0.out | apply IsS45.alloc | apply IsS45.drewN | apply IsS45.drew | apply IsS45.set_0 | apply IsS45.set_1) | exact HI0.out), by repeat (first | (with_reducible first | exact HB.out | apply below_alloc | apply pw_below_drewN | apply below_drew1 | refine below_set ?_ (IsS45.ge HI0.out)) | exact HB.out), by repeat (first | (with_reducible first | exact HK.out | apply KeepBut.set_ | apply keep_drewN | apply keep_drew | apply keep_alloc) | exact HK.out)⟩
       ·
        rw [if_neg c24] at H
        have c24b0 : decide (t107 < 0) = false := decide_eq_false c24
        clear c24
        have H' := Aside0.mk H
        clear H
        obtain ⟨HGz26, hgz26⟩ := HI0.out
        have hcz26_0 := cellS45_0 HGz26
        have hcz26_1 := cellS45_1 HGz26
        have hfz26_0 := blk_frozen HGz26 0
        have hfz26_1 := blk_frozen HGz26 1
        clear HGz26 hgz26
        have p6 : 0 ≤ (0 : Int) := (by omega)
        have q6 : 0 < (s0_0.extract (x1001_1 : Int).toNat s0_0.size).size := (by have : (0 : Int) < ((s0_0.extract (x1001_1 : Int).toNat s0_0.size).size : Int) := of_decide_eq_true (by first | (with_reducible assumption) | assumption); omega)
        have hx6 : ∀ h : 0 < (s0_0.extract (x1001_1 : Int).toNat s0_0.size).size, (((s0_0.extract (x1001_1 : Int).toNat s0_0.size)[0]'h).toNat : Int) = bt (s0_0.extract (x1001_1 : Int).toNat s0_0.size) 0 := bt_at (s0_0.extract (x1001_1 : Int).toNat s0_0.size) 0
        clear p6
        have qi6 : (0 < ((s0_0.extract (x1001_1 : Int).toNat s0_0.size).size : Int)) = True := eq_true (of_decide_eq_true (by first | (with_reducible assumption) | assumption))
        replace q6 := eq_true q6
        go_wp2_with (first | (go_at_call 23; (with_reducible refine (Lx.IndexByte.calls (⟨#[32, 9, 10, 13]⟩ : ByteArray) (bt (s0_0.extract (x1001_1 : Int).toNat s0_0.size) 0) t103 _ A7.out).mono ?_); rintro e w' ⟨rfl, ⟨nd, rfl⟩⟩; (try first | exact ⟨rfl, _, World.drewN_drewN _ _ _⟩ | exact ⟨rfl, _, Eq.trans (World.drewN_drewN _ _ _) (congrArg (World.drewN _) (Nat.add_assoc _ _ _))⟩)) | (go_at_call 24; (with_reducible refine (strings_HasPrefix.calls (s0_0.extract (x1001_1 : Int).toNat s0_0.size) (⟨#[47, 47]⟩ : ByteArray) false _ A10.out).mono ?_); rintro e w' ⟨rfl, ⟨nd, rfl⟩⟩; (try first | exact ⟨rfl, _, World.drewN_drewN _ _ _⟩ | exact ⟨rfl, _, Eq.trans (World.drewN_drewN _ _ _) (congrArg (World.drewN _) (Nat.add_assoc _ _ _))⟩)) | (go_at_call 24; (with_reducible refine (strings_HasPrefix.calls (s0_0.extract (x1001_1 : Int).toNat s0_0.size) (⟨#[47, 42]⟩ : ByteArray) true _ A20.out).mono ?_); rintro e w' ⟨rfl, ⟨nd, rfl⟩⟩; (try first | exact ⟨rfl, _, World.drewN_drewN _ _ _⟩ | exact ⟨rfl, _, Eq.trans (World.drewN_drewN _ _ _) (congrArg (World.drewN _) (Nat.add_assoc _ _ _))⟩)) | (go_at_call 26; (with_reducible refine (Lx.Index.calls _ (⟨#[42, 47]⟩ : ByteArray) t107 _ ?gw4 A23.out).mono ?_); (case gw4 => (first | exact HGW.out | (refine GW.below HGW.out ?_; repeat (first | (with_reducible first | exact HB.out | exact Below.refl _ _ | apply below_alloc | apply pw_below_drewN | apply below_drew1 | refine below_set ?_ (IsS45.ge HI0.out) | refine below_set ?_ HB.out.size) | exact HB.out)))); rintro e w' ⟨rfl, ⟨nd, rfl⟩⟩; (try first | exact ⟨rfl, _, World.drewN_drewN _ _ _⟩ | exact ⟨rfl, _, Eq.trans (World.drewN_drewN _ _ _) (congrArg (World.drewN _) (Nat.add_assoc _ _ _))⟩)))
        repeat (go_quiet (first | (go_at_call 23; (with_reducible refine (Lx.IndexByte.calls (⟨#[32, 9, 10, 13]⟩ : ByteArray) (bt (s0_0.extract (x1001_1 : Int).toNat s0_0.size) 0) t103 _ A7.out).mono ?_); rintro e w' ⟨rfl, ⟨nd, rfl⟩⟩; (try first | exact ⟨rfl, _, World.drewN_drewN _ _ _⟩ | exact ⟨rfl, _, Eq.trans (World.drewN_drewN _ _ _) (congrArg (World.drewN _) (Nat.add_assoc _ _ _))⟩)) | (go_at_call 24; (with_reducible refine (strings_HasPrefix.calls (s0_0.extract (x1001_1 : Int).toNat s0_0.size) (⟨#[47, 47]⟩ : ByteArray) false _ A10.out).mono ?_); rintro e w' ⟨rfl, ⟨nd, rfl⟩⟩; (try first | exact ⟨rfl, _, World.drewN_drewN _ _ _⟩ | exact ⟨rfl, _, Eq.trans (World.drewN_drewN _ _ _) (congrArg (World.drewN _) (Nat.add_assoc _ _ _))⟩)) | (go_at_call 24; (with_reducible refine (strings_HasPrefix.calls (s0_0.extract (x1001_1 : Int).toNat s0_0.size) (⟨#[47, 42]⟩ : ByteArray) true _ A20.out).mono ?_); rintro e w' ⟨rfl, ⟨nd, rfl⟩⟩; (try first | exact ⟨rfl, _, World.drewN_drewN _ _ _⟩ | exact ⟨rfl, _, Eq.trans (World.drewN_drewN _ _ _) (congrArg (World.drewN _) (Nat.add_assoc _ _ _))⟩)) | (go_at_call 26; (with_reducible refine (Lx.Index.calls _ (⟨#[42, 47]⟩ : ByteArray) t107 _ ?gw5 A23.out).mono ?_); (case gw5 => (first | exact HGW.out | (refine GW.below HGW.out ?_; repeat (first | (with_reducible first | exact HB.out | exact Below.refl _ _ | apply below_alloc | apply pw_below_drewN | apply below_drew1 | refine below_set ?_ (IsS45.ge HI0.out) | refine below_set ?_ HB.out.size) | exact HB.out)))); rintro e w' ⟨rfl, ⟨nd, rfl⟩⟩; (try first | exact ⟨rfl, _, World.drewN_drewN _ _ _⟩ | exact ⟨rfl, _, Eq.trans (World.drewN_drewN _ _ _) (congrArg (World.drewN _) (Nat.add_assoc _ _ _))⟩))); try go_wp2_with (first | (go_at_call 23; (with_reducible refine (Lx.IndexByte.calls (⟨#[32, 9, 10, 13]⟩ : ByteArray) (bt (s0_0.extract (x1001_1 : Int).toNat s0_0.size) 0) t103 _ A7.out).mono ?_); rintro e w' ⟨rfl, ⟨nd, rfl⟩⟩; (try first | exact ⟨rfl, _, World.drewN_drewN _ _ _⟩ | exact ⟨rfl, _, Eq.trans (World.drewN_drewN _ _ _) (congrArg (World.drewN _) (Nat.add_assoc _ _ _))⟩)) | (go_at_call 24; (with_reducible refine (strings_HasPrefix.calls (s0_0.extract (x1001_1 : Int).toNat s0_0.size) (⟨#[47, 47]⟩ : ByteArray) false _ A10.out).mono ?_); rintro e w' ⟨rfl, ⟨nd, rfl⟩⟩; (try first | exact ⟨rfl, _, World.drewN_drewN _ _ _⟩ | exact ⟨rfl, _, Eq.trans (World.drewN_drewN _ _ _) (congrArg (World.drewN _) (Nat.add_assoc _ _ _))⟩)) | (go_at_call 24; (with_reducible refine (strings_HasPrefix.calls (s0_0.extract (x1001_1 : Int).toNat s0_0.size) (⟨#[47, 42]⟩ : ByteArray) true _ A20.out).mono ?_); rintro e w' ⟨rfl, ⟨nd, rfl⟩⟩; (try first | exact ⟨rfl, _, World.drewN_drewN _ _ _⟩ | exact ⟨rfl, _, Eq.trans (World.drewN_drewN _ _ _) (congrArg (World.drewN _) (Nat.add_assoc _ _ _))⟩)) | (go_at_call 26; (with_reducible refine (Lx.Index.calls _ (⟨#[42, 47]⟩ : ByteArray) t107 _ ?gw6 A23.out).mono ?_); (case gw6 => (first | exact HGW.out | (refine GW.below HGW.out ?_; repeat (first | (with_reducible first | exact HB.out | exact Below.refl _ _ | apply below_alloc | apply pw_below_drewN | apply below_drew1 | refine below_set ?_ (IsS45.ge HI0.out) | refine below_set ?_ HB.out.size) | exact HB.out)))); rintro e w' ⟨rfl, ⟨nd, rfl⟩⟩; (try first | exact ⟨rfl, _, World.drewN_drewN _ _ _⟩ | exact ⟨rfl, _, Eq.trans (World.drewN_drewN _ _ _) (congrArg (World.drewN _) (Nat.add_assoc _ _ _))⟩))))
        go_roundg k1
        case measure => have := HK1.out; omega
        case rel => exact ⟨(wrap64 (x1001_1 + (wrap64 (t107 + 4)))), H', ⟨by have := HK1.out; omega⟩, ⟨by (try simp only [ByteArray.size_extract, Nat.min_self]); repeat (first | (with_reducible first | exact HI0.out | apply IsS45.alloc | apply IsS45.drewN | apply IsS45.drew | apply IsS45.set_0 | apply IsS45.set_1) | exact HI0.out)⟩, ⟨by repeat (first | (with_reducible first | exact HK.out | apply KeepBut.set_ | apply keep_drewN | apply keep_drew | apply keep_alloc) | exact HK.out)⟩, ⟨by repeat (first | (with_reducible first | exact HB.out | apply below_alloc | apply pw_below_drewN | apply below_drew1 | refine below_set ?_ (IsS45.ge HI0.out)) | exact HB.out)⟩⟩
      ·
       replace c21 := Bool.eq_false_iff.mpr c21
       subst c21
       have H1 : (some (true, s0_0, x1001_1)) = some (r1, r2, r3) := by rw [if_neg (show ¬ (false = true) by decide)] at H; exact H
       clear H
       have H := H1
       clear H1
       simp only [Option.some.injEq, Prod.mk.injEq] at H
       obtain ⟨rfl, rfl, rfl⟩ := H
       obtain ⟨HGz27, hgz27⟩ := HI0.out
       have hcz27_0 := cellS45_0 HGz27
       have hcz27_1 := cellS45_1 HGz27
       have hfz27_0 := blk_frozen HGz27 0
       have hfz27_1 := blk_frozen HGz27 1
       clear HGz27 hgz27
       have p6 : 0 ≤ (0 : Int) := (by omega)
       have q6 : 0 < (s0_0.extract (x1001_1 : Int).toNat s0_0.size).size := (by have : (0 : Int) < ((s0_0.extract (x1001_1 : Int).toNat s0_0.size).size : Int) := of_decide_eq_true (by first | (with_reducible assumption) | assumption); omega)
       have hx6 : ∀ h : 0 < (s0_0.extract (x1001_1 : Int).toNat s0_0.size).size, (((s0_0.extract (x1001_1 : Int).toNat s0_0.size)[0]'h).toNat : Int) = bt (s0_0.extract (x1001_1 : Int).toNat s0_0.size) 0 := bt_at (s0_0.extract (x1001_1 : Int).toNat s0_0.size) 0
       clear p6
       have qi6 : (0 < ((s0_0.extract (x1001_1 : Int).toNat s0_0.size).size : Int)) = True := eq_true (of_decide_eq_true (by first | (with_reducible assumption) | assumption))
       replace q6 := eq_true q6
       go_wp2_with (first | (go_at_call 23; (with_reducible refine (Lx.IndexByte.calls (⟨#[32, 9, 10, 13]⟩ : ByteArray) (bt (s0_0.extract (x1001_1 : Int).toNat s0_0.size) 0) t103 _ A7.out).mono ?_); rintro e w' ⟨rfl, ⟨nd, rfl⟩⟩; (try first | exact ⟨rfl, _, World.drewN_drewN _ _ _⟩ | exact ⟨rfl, _, Eq.trans (World.drewN_drewN _ _ _) (congrArg (World.drewN _) (Nat.add_assoc _ _ _))⟩)) | (go_at_call 24; (with_reducible refine (strings_HasPrefix.calls (s0_0.extract (x1001_1 : Int).toNat s0_0.size) (⟨#[47, 47]⟩ : ByteArray) false _ A10.out).mono ?_); rintro e w' ⟨rfl, ⟨nd, rfl⟩⟩; (try first | exact ⟨rfl, _, World.drewN_drewN _ _ _⟩ | exact ⟨rfl, _, Eq.trans (World.drewN_drewN _ _ _) (congrArg (World.drewN _) (Nat.add_assoc _ _ _))⟩)) | (go_at_call 24; (with_reducible refine (strings_HasPrefix.calls (s0_0.extract (x1001_1 : Int).toNat s0_0.size) (⟨#[47, 42]⟩ : ByteArray) false _ A20.out).mono ?_); rintro e w' ⟨rfl, ⟨nd, rfl⟩⟩; (try first | exact ⟨rfl, _, World.drewN_drewN _ _ _⟩ | exact ⟨rfl, _, Eq.trans (World.drewN_drewN _ _ _) (congrArg (World.drewN _) (Nat.add_assoc _ _ _))⟩)))
       repeat (go_quiet (first | (go_at_call 23; (with_reducible refine (Lx.IndexByte.calls (⟨#[32, 9, 10, 13]⟩ : ByteArray) (bt (s0_0.extract (x1001_1 : Int).toNat s0_0.size) 0) t103 _ A7.out).mono ?_); rintro e w' ⟨rfl, ⟨nd, rfl⟩⟩; (try first | exact ⟨rfl, _, World.drewN_drewN _ _ _⟩ | exact ⟨rfl, _, Eq.trans (World.drewN_drewN _ _ _) (congrArg (World.drewN _) (Nat.add_assoc _ _ _))⟩)) | (go_at_call 24; (with_reducible refine (strings_HasPrefix.calls (s0_0.extract (x1001_1 : Int).toNat s0_0.size) (⟨#[47, 47]⟩ : ByteArray) false _ A10.out).mono ?_); rintro e w' ⟨rfl, ⟨nd, rfl⟩⟩; (try first | exact ⟨rfl, _, World.drewN_drewN _ _ _⟩ | exact ⟨rfl, _, Eq.trans (World.drewN_drewN _ _ _) (congrArg (World.drewN _) (Nat.add_assoc _ _ _))⟩)) | (go_at_call 24; (with_reducible refine (strings_HasPrefix.calls (s0_0.extract (x1001_1 : Int).toNat s0_0.size) (⟨#[47, 42]⟩ : ByteArray) false _ A20.out).mono ?_); rintro e w' ⟨rfl, ⟨nd, rfl⟩⟩; (try first | exact ⟨rfl, _, World.drewN_drewN _ _ _⟩ | exact ⟨rfl, _, Eq.trans (World.drewN_drewN _ _ _) (congrArg (World.drewN _) (Nat.add_assoc _ _ _))⟩))); try go_wp2_with (first | (go_at_call 23; (with_reducible refine (Lx.IndexByte.calls (⟨#[32, 9, 10, 13]⟩ : ByteArray) (bt (s0_0.extract (x1001_1 : Int).toNat s0_0.size) 0) t103 _ A7.out).mono ?_); rintro e w' ⟨rfl, ⟨nd, rfl⟩⟩; (try first | exact ⟨rfl, _, World.drewN_drewN _ _ _⟩ | exact ⟨rfl, _, Eq.trans (World.drewN_drewN _ _ _) (congrArg (World.drewN _) (Nat.add_assoc _ _ _))⟩)) | (go_at_call 24; (with_reducible refine (strings_HasPrefix.calls (s0_0.extract (x1001_1 : Int).toNat s0_0.size) (⟨#[47, 47]⟩ : ByteArray) false _ A10.out).mono ?_); rintro e w' ⟨rfl, ⟨nd, rfl⟩⟩; (try first | exact ⟨rfl, _, World.drewN_drewN _ _ _⟩ | exact ⟨rfl, _, Eq.trans (World.drewN_drewN _ _ _) (congrArg (World.drewN _) (Nat.add_assoc _ _ _))⟩)) | (go_at_call 24; (with_reducible refine (strings_HasPrefix.calls (s0_0.extract (x1001_1 : Int).toNat s0_0.size) (⟨#[47, 42]⟩ : ByteArray) false _ A20.out).mono ?_); rintro e w' ⟨rfl, ⟨nd, rfl⟩⟩; (try first | exact ⟨rfl, _, World.drewN_drewN _ _ _⟩ | exact ⟨rfl, _, Eq.trans (World.drewN_drewN _ _ _) (congrArg (World.drewN _) (Nat.add_assoc _ _ _))⟩))))
       (first | (rw [Exit.noGoto_ret]; show bodyPost Tryd.prog Tryd.f17 _ Exit.ret _ _) | (rw [Exit.noGoto_normal]; show bodyPost Tryd.prog Tryd.f17 _ Exit.normal _ _) | skip)
       go_ret
       exact ⟨by first | rfl | (simp [errW_none, errW_some] <;> rfl) | (simp [*, errW_none, errW_some] <;> rfl), by repeat (first | (with_reducible first | exact HI0.out | apply IsS45.alloc | apply IsS45.drewN | apply IsS45.drew | apply IsS45.set_0 | apply IsS45.set_1) | exact HI0.out), by repeat (first | (with_reducible first | exact HB.out | apply below_alloc | apply pw_below_drewN | apply below_drew1 | refine below_set ?_ (IsS45.ge HI0.out)) | exact HB.out), by repeat (first | (with_reducible first | exact HK.out | apply KeepBut.set_ | apply keep_drewN | apply keep_drew | apply keep_alloc) | exact HK.out)⟩
   ·
    rw [if_neg c2] at H
    have c2b0 : decide (x1001_1 < (s0_0.size : Int)) = false := decide_eq_false c2
    clear c2
    simp only [Option.some.injEq, Prod.mk.injEq] at H
    obtain ⟨rfl, rfl, rfl⟩ := H
    obtain ⟨HGz28, hgz28⟩ := HI0.out
    have hcz28_0 := cellS45_0 HGz28
    have hcz28_1 := cellS45_1 HGz28
    have hfz28_0 := blk_frozen HGz28 0
    have hfz28_1 := blk_frozen HGz28 1
    clear HGz28 hgz28
    go_wp2
    repeat (go_quiet (fail); try go_wp2)
    (first | (rw [Exit.noGoto_ret]; show bodyPost Tryd.prog Tryd.f17 _ Exit.ret _ _) | (rw [Exit.noGoto_normal]; show bodyPost Tryd.prog Tryd.f17 _ Exit.normal _ _) | skip)
    go_ret
    exact ⟨by first | rfl | (simp [errW_none, errW_some] <;> rfl) | (simp [*, errW_none, errW_some] <;> rfl), by repeat (first | (with_reducible first | exact HI0.out | apply IsS45.alloc | apply IsS45.drewN | apply IsS45.drew | apply IsS45.set_0 | apply IsS45.set_1) | exact HI0.out), by repeat (first | (with_reducible first | exact HB.out | apply below_alloc | apply pw_below_drewN | apply below_drew1 | refine below_set ?_ (IsS45.ge HI0.out)) | exact HB.out), by repeat (first | (with_reducible first | exact HK.out | apply KeepBut.set_ | apply keep_drewN | apply keep_drew | apply keep_alloc) | exact HK.out)⟩

/-! ### lex_Word: function 12 -/
def lex_Word.f (a0 : ByteArray) : Option (Bool) := if a0.toList = ([] : List UInt8) then (some false) else ((Lx.Contains.f a0 (⟨#[32]⟩ : ByteArray)).bind fun t108 => (if t108 = true then (some false) else (if 1 + a0.size ≤ 9223372036854775807 then (if ((⟨#[32]⟩ : ByteArray) ++ a0).size + 1 ≤ 9223372036854775807 then ((Lx.Contains.f (⟨#[32, 118, 111, 105, 100, 32, 99, 104, 97, 114, 32, 115, 104, 111, 114, 116, 32, 105, 110, 116, 32, 108, 111, 110, 103, 32, 117, 110, 115, 105, 103, 110, 101, 100, 32, 115, 116, 114, 117, 99, 116, 32, 116, 121, 112, 101, 100, 101, 102, 32, 105, 102, 32, 101, 108, 115, 101, 32, 119, 104, 105, 108, 101, 32, 100, 111, 32, 102, 111, 114, 32, 115, 119, 105, 116, 99, 104, 32, 99, 97, 115, 101, 32, 100, 101, 102, 97, 117, 108, 116, 32, 98, 114, 101, 97, 107, 32, 99, 111, 110, 116, 105, 110, 117, 101, 32, 114, 101, 116, 117, 114, 110, 32, 103, 111, 116, 111, 32, 115, 105, 122, 101, 111, 102, 32]⟩ : ByteArray) (((⟨#[32]⟩ : ByteArray) ++ a0) ++ (⟨#[32]⟩ : ByteArray))).bind fun t109 => (some t109)) else (none)) else (none))))
set_option maxHeartbeats 8000000 in
set_option maxRecDepth 100000 in
theorem lex_Word.calls (a0 : ByteArray) (r : Bool) (w : World) (hG : GW w) (h : lex_Word.f a0 = some r) :
  Calls Tryd.prog 12 #[.string a0] w fun e w' => e = .returned (.bool r) ∧ Drawn0 w w' := by
 have HGW := Aside0.mk hG
 clear hG
 have H : (if a0.toList = ([] : List UInt8) then (some false) else ((Lx.Contains.f a0 (⟨#[32]⟩ : ByteArray)).bind fun t108 => (if t108 = true then (some false) else (if 1 + a0.size ≤ 9223372036854775807 then (if ((⟨#[32]⟩ : ByteArray) ++ a0).size + 1 ≤ 9223372036854775807 then ((Lx.Contains.f (⟨#[32, 118, 111, 105, 100, 32, 99, 104, 97, 114, 32, 115, 104, 111, 114, 116, 32, 105, 110, 116, 32, 108, 111, 110, 103, 32, 117, 110, 115, 105, 103, 110, 101, 100, 32, 115, 116, 114, 117, 99, 116, 32, 116, 121, 112, 101, 100, 101, 102, 32, 105, 102, 32, 101, 108, 115, 101, 32, 119, 104, 105, 108, 101, 32, 100, 111, 32, 102, 111, 114, 32, 115, 119, 105, 116, 99, 104, 32, 99, 97, 115, 101, 32, 100, 101, 102, 97, 117, 108, 116, 32, 98, 114, 101, 97, 107, 32, 99, 111, 110, 116, 105, 110, 117, 101, 32, 114, 101, 116, 117, 114, 110, 32, 103, 111, 116, 111, 32, 115, 105, 122, 101, 111, 102, 32]⟩ : ByteArray) (((⟨#[32]⟩ : ByteArray) ++ a0) ++ (⟨#[32]⟩ : ByteArray))).bind fun t109 => (some t109)) else (none)) else (none))))) = some r := h
 clear h
 by_cases c2 : a0.toList = ([] : List UInt8)
 ·
  rw [if_pos c2] at H
  have c2b0 : (a0.toList == ([] : List UInt8)) = true := beq_iff_eq.mpr c2
  have c2b1 : (a0.toList != ([] : List UInt8)) = false := bne_eq_false_iff_eq.mpr c2
  clear c2
  obtain rfl := Option.some.inj H
  go_enter Tryd.func12, Tryd.ntmps12
  go_wp2
  go_ret
  exact ⟨by first | rfl | (simp; done) | (simp [*]; done), by repeat (first | exact Drawn0.refl _ | apply Drawn0.step)⟩
 ·
  rw [if_neg c2] at H
  have c2b0 : (a0.toList == ([] : List UInt8)) = false := beq_eq_false_iff_ne.mpr c2
  have c2b1 : (a0.toList != ([] : List UInt8)) = true := bne_iff_ne.mpr c2
  replace H := Option.bind_eq_some_iff.mp H
  obtain ⟨t108, A30, H⟩ := H
  replace H : (if t108 = true then (some false) else (if 1 + a0.size ≤ 9223372036854775807 then (if ((⟨#[32]⟩ : ByteArray) ++ a0).size + 1 ≤ 9223372036854775807 then ((Lx.Contains.f (⟨#[32, 118, 111, 105, 100, 32, 99, 104, 97, 114, 32, 115, 104, 111, 114, 116, 32, 105, 110, 116, 32, 108, 111, 110, 103, 32, 117, 110, 115, 105, 103, 110, 101, 100, 32, 115, 116, 114, 117, 99, 116, 32, 116, 121, 112, 101, 100, 101, 102, 32, 105, 102, 32, 101, 108, 115, 101, 32, 119, 104, 105, 108, 101, 32, 100, 111, 32, 102, 111, 114, 32, 115, 119, 105, 116, 99, 104, 32, 99, 97, 115, 101, 32, 100, 101, 102, 97, 117, 108, 116, 32, 98, 114, 101, 97, 107, 32, 99, 111, 110, 116, 105, 110, 117, 101, 32, 114, 101, 116, 117, 114, 110, 32, 103, 111, 116, 111, 32, 115, 105, 122, 101, 111, 102, 32]⟩ : ByteArray) (((⟨#[32]⟩ : ByteArray) ++ a0) ++ (⟨#[32]⟩ : ByteArray))).bind fun t109 => (some t109)) else (none)) else (none))) = some r := H
  have A3 := Aside0.mk A30
  clear A30
  by_cases c4 : t108 = true
  ·
   subst c4
   have H1 : (some false) = some r := by rw [if_pos rfl] at H; exact H
   clear H
   have H := H1
   clear H1
   obtain rfl := Option.some.inj H
   go_enter Tryd.func12, Tryd.ntmps12
   go_wp2_with (first | (go_at_call 21; (with_reducible refine (Lx.Contains.calls a0 (⟨#[32]⟩ : ByteArray) true _ ?gw1 A3.out).mono ?_); (case gw1 => (first | exact HGW.out | (refine GW.below HGW.out ?_; repeat (first | (with_reducible first | exact Below.refl _ _ | apply below_alloc | apply pw_below_drewN | apply below_drew1))))); rintro e w' ⟨rfl, ⟨nd, rfl⟩⟩))
   go_ret
   exact ⟨by first | rfl | (simp; done) | (simp [*]; done), by repeat (first | exact Drawn0.refl _ | apply Drawn0.step)⟩
  ·
   replace c4 := Bool.eq_false_iff.mpr c4
   subst c4
   have H1 : (if 1 + a0.size ≤ 9223372036854775807 then (if ((⟨#[32]⟩ : ByteArray) ++ a0).size + 1 ≤ 9223372036854775807 then ((Lx.Contains.f (⟨#[32, 118, 111, 105, 100, 32, 99, 104, 97, 114, 32, 115, 104, 111, 114, 116, 32, 105, 110, 116, 32, 108, 111, 110, 103, 32, 117, 110, 115, 105, 103, 110, 101, 100, 32, 115, 116, 114, 117, 99, 116, 32, 116, 121, 112, 101, 100, 101, 102, 32, 105, 102, 32, 101, 108, 115, 101, 32, 119, 104, 105, 108, 101, 32, 100, 111, 32, 102, 111, 114, 32, 115, 119, 105, 116, 99, 104, 32, 99, 97, 115, 101, 32, 100, 101, 102, 97, 117, 108, 116, 32, 98, 114, 101, 97, 107, 32, 99, 111, 110, 116, 105, 110, 117, 101, 32, 114, 101, 116, 117, 114, 110, 32, 103, 111, 116, 111, 32, 115, 105, 122, 101, 111, 102, 32]⟩ : ByteArray) (((⟨#[32]⟩ : ByteArray) ++ a0) ++ (⟨#[32]⟩ : ByteArray))).bind fun t109 => (some t109)) else (none)) else (none)) = some r := by rw [if_neg (show ¬ (false = true) by decide)] at H; exact H
   clear H
   have H := H1
   clear H1
   by_cases c5 : 1 + a0.size ≤ 9223372036854775807
   case neg => rw [if_neg c5] at H; exact absurd H (by simp)
   rw [if_pos c5] at H
   have c5b0 := eq_true c5
   have c5b1 : decide (1 + a0.size ≤ 9223372036854775807) = true := decide_eq_true c5
   try have c5b2 : (9223372036854775807 < 1 + a0.size) = False := eq_false (Nat.not_lt.2 c5)
   by_cases c6 : ((⟨#[32]⟩ : ByteArray) ++ a0).size + 1 ≤ 9223372036854775807
   case neg => rw [if_neg c6] at H; exact absurd H (by simp)
   rw [if_pos c6] at H
   have c6b5 : (9223372036854775807 < 1 + a0.size + 1) = False := eq_false (by have h_ := c6; simp only [ByteArray.size_append] at h_; have : (⟨#[32]⟩ : ByteArray).size = 1 := rfl; omega)
   have c6b0 := eq_true c6
   have c6b1 : decide (((⟨#[32]⟩ : ByteArray) ++ a0).size + 1 ≤ 9223372036854775807) = true := decide_eq_true c6
   try have c6b2 : (9223372036854775807 < ((⟨#[32]⟩ : ByteArray) ++ a0).size + 1) = False := eq_false (Nat.not_lt.2 c6)
   replace H := Option.bind_eq_some_iff.mp H
   obtain ⟨t109, A70, H⟩ := H
   replace H : (some t109) = some r := H
   have A7 := Aside0.mk A70
   clear A70
   obtain rfl := Option.some.inj H
   go_enter Tryd.func12, Tryd.ntmps12
   go_wp2_with (first | (go_at_call 21; (with_reducible refine (Lx.Contains.calls a0 (⟨#[32]⟩ : ByteArray) false _ ?gw2 A3.out).mono ?_); (case gw2 => (first | exact HGW.out | (refine GW.below HGW.out ?_; repeat (first | (with_reducible first | exact Below.refl _ _ | apply below_alloc | apply pw_below_drewN | apply below_drew1))))); rintro e w' ⟨rfl, ⟨nd, rfl⟩⟩) | (go_at_call 21; (with_reducible refine (Lx.Contains.calls (⟨#[32, 118, 111, 105, 100, 32, 99, 104, 97, 114, 32, 115, 104, 111, 114, 116, 32, 105, 110, 116, 32, 108, 111, 110, 103, 32, 117, 110, 115, 105, 103, 110, 101, 100, 32, 115, 116, 114, 117, 99, 116, 32, 116, 121, 112, 101, 100, 101, 102, 32, 105, 102, 32, 101, 108, 115, 101, 32, 119, 104, 105, 108, 101, 32, 100, 111, 32, 102, 111, 114, 32, 115, 119, 105, 116, 99, 104, 32, 99, 97, 115, 101, 32, 100, 101, 102, 97, 117, 108, 116, 32, 98, 114, 101, 97, 107, 32, 99, 111, 110, 116, 105, 110, 117, 101, 32, 114, 101, 116, 117, 114, 110, 32, 103, 111, 116, 111, 32, 115, 105, 122, 101, 111, 102, 32]⟩ : ByteArray) (((⟨#[32]⟩ : ByteArray) ++ a0) ++ (⟨#[32]⟩ : ByteArray)) t109 _ ?gw3 A7.out).mono ?_); (case gw3 => (first | exact HGW.out | (refine GW.below HGW.out ?_; repeat (first | (with_reducible first | exact Below.refl _ _ | apply below_alloc | apply pw_below_drewN | apply below_drew1))))); rintro e w' ⟨rfl, ⟨nd, rfl⟩⟩))
   go_ret
   exact ⟨by first | rfl | (simp; done) | (simp [*]; done), by repeat (first | exact Drawn0.refl _ | apply Drawn0.step)⟩

/-! ### lex_digit: function 27 -/
def lex_digit.f (a0 : Int) : Option (Bool) := if a0 ≥ 48 then (some (decide (a0 ≤ 57))) else (some false)
set_option maxHeartbeats 8000000 in
set_option maxRecDepth 100000 in
theorem lex_digit.calls (a0 : Int) (r : Bool) (w : World) (h : lex_digit.f a0 = some r) :
  Calls Tryd.prog 27 #[.int .u8 a0] w fun e w' => e = .returned (.bool r) ∧ Drawn0 w w' := by
 have H : (if a0 ≥ 48 then (some (decide (a0 ≤ 57))) else (some false)) = some r := h
 clear h
 by_cases c2 : a0 ≥ 48
 ·
  rw [if_pos c2] at H
  have c2b0 : decide (48 ≤ a0) = true := decide_eq_true c2
  clear c2
  obtain rfl := Option.some.inj H
  go_enter Tryd.func27, Tryd.ntmps27
  go_wp2
  go_ret
  exact ⟨by first | rfl | (simp; done) | (simp [*]; done), by repeat (first | exact Drawn0.refl _ | apply Drawn0.step)⟩
 ·
  rw [if_neg c2] at H
  have c2b0 : decide (48 ≤ a0) = false := decide_eq_false c2
  clear c2
  obtain rfl := Option.some.inj H
  go_enter Tryd.func27, Tryd.ntmps27
  go_wp2
  go_ret
  exact ⟨by first | rfl | (simp; done) | (simp [*]; done), by repeat (first | exact Drawn0.refl _ | apply Drawn0.step)⟩

/-! ### lex_part: function 30 -/
def lex_part.f (a0 : Int) : Option (Bool) := (lex_digit.f a0).bind fun t110 => (if t110 = true then (some true) else (if a0 ≥ 97 then (if a0 ≤ 122 then (some true) else (if a0 ≥ 65 then (if a0 ≤ 90 then (some true) else (some (a0 == 95))) else (some (a0 == 95)))) else (if a0 ≥ 65 then (if a0 ≤ 90 then (some true) else (some (a0 == 95))) else (some (a0 == 95)))))
set_option maxHeartbeats 8000000 in
set_option maxRecDepth 100000 in
theorem lex_part.calls (a0 : Int) (r : Bool) (w : World) (h : lex_part.f a0 = some r) :
  Calls Tryd.prog 30 #[.int .u8 a0] w fun e w' => e = .returned (.bool r) ∧ Drawn0 w w' := by
 have H : ((lex_digit.f a0).bind fun t110 => (if t110 = true then (some true) else (if a0 ≥ 97 then (if a0 ≤ 122 then (some true) else (if a0 ≥ 65 then (if a0 ≤ 90 then (some true) else (some (a0 == 95))) else (some (a0 == 95)))) else (if a0 ≥ 65 then (if a0 ≤ 90 then (some true) else (some (a0 == 95))) else (some (a0 == 95)))))) = some r := h
 clear h
 replace H := Option.bind_eq_some_iff.mp H
 obtain ⟨t110, A20, H⟩ := H
 replace H : (if t110 = true then (some true) else (if a0 ≥ 97 then (if a0 ≤ 122 then (some true) else (if a0 ≥ 65 then (if a0 ≤ 90 then (some true) else (some (a0 == 95))) else (some (a0 == 95)))) else (if a0 ≥ 65 then (if a0 ≤ 90 then (some true) else (some (a0 == 95))) else (some (a0 == 95))))) = some r := H
 have A2 := Aside0.mk A20
 clear A20
 by_cases c3 : t110 = true
 ·
  subst c3
  have H1 : (some true) = some r := by rw [if_pos rfl] at H; exact H
  clear H
  have H := H1
  clear H1
  obtain rfl := Option.some.inj H
  go_enter Tryd.func30, Tryd.ntmps30
  go_wp2_with (first | ((with_reducible refine gate_callee (f := 27) rfl ?_); refine goesL_ (some 4) rfl rfl Tryd.func27 (by kernel_rfl) rfl #[.int .u8 a0] rfl (by (try simp only [List.map_toArray, List.map_cons, List.map_nil]); first | done | rfl | (simp only [List.length_drop, List.length_take]; rfl)) ?_; (with_reducible refine (lex_digit.calls a0 true _ A2.out).mono ?_); rintro e w' ⟨rfl, ⟨nd, rfl⟩⟩; refine ⟨_, rfl, ?_⟩))
  go_ret
  exact ⟨by first | rfl | (simp; done) | (simp [*]; done), by repeat (first | exact Drawn0.refl _ | apply Drawn0.step)⟩
 ·
  replace c3 := Bool.eq_false_iff.mpr c3
  subst c3
  have H1 : (if a0 ≥ 97 then (if a0 ≤ 122 then (some true) else (if a0 ≥ 65 then (if a0 ≤ 90 then (some true) else (some (a0 == 95))) else (some (a0 == 95)))) else (if a0 ≥ 65 then (if a0 ≤ 90 then (some true) else (some (a0 == 95))) else (some (a0 == 95)))) = some r := by rw [if_neg (show ¬ (false = true) by decide)] at H; exact H
  clear H
  have H := H1
  clear H1
  by_cases c4 : a0 ≥ 97
  ·
   rw [if_pos c4] at H
   have c4b0 : decide (97 ≤ a0) = true := decide_eq_true c4
   clear c4
   by_cases c5 : a0 ≤ 122
   ·
    rw [if_pos c5] at H
    have c5b0 : decide (a0 ≤ 122) = true := decide_eq_true c5
    clear c5
    obtain rfl := Option.some.inj H
    go_enter Tryd.func30, Tryd.ntmps30
    go_wp2_with (first | ((with_reducible refine gate_callee (f := 27) rfl ?_); refine goesL_ (some 4) rfl rfl Tryd.func27 (by kernel_rfl) rfl #[.int .u8 a0] rfl (by (try simp only [List.map_toArray, List.map_cons, List.map_nil]); first | done | rfl | (simp only [List.length_drop, List.length_take]; rfl)) ?_; (with_reducible refine (lex_digit.calls a0 false _ A2.out).mono ?_); rintro e w' ⟨rfl, ⟨nd, rfl⟩⟩; refine ⟨_, rfl, ?_⟩))
    go_ret
    exact ⟨by first | rfl | (simp; done) | (simp [*]; done), by repeat (first | exact Drawn0.refl _ | apply Drawn0.step)⟩
   ·
    rw [if_neg c5] at H
    have c5b0 : decide (a0 ≤ 122) = false := decide_eq_false c5
    clear c5
    by_cases c6 : a0 ≥ 65
    ·
     rw [if_pos c6] at H
     have c6b0 : decide (65 ≤ a0) = true := decide_eq_true c6
     clear c6
     by_cases c7 : a0 ≤ 90
     ·
      rw [if_pos c7] at H
      have c7b0 : decide (a0 ≤ 90) = true := decide_eq_true c7
      clear c7
      obtain rfl := Option.some.inj H
      go_enter Tryd.func30, Tryd.ntmps30
      go_wp2_with (first | ((with_reducible refine gate_callee (f := 27) rfl ?_); refine goesL_ (some 4) rfl rfl Tryd.func27 (by kernel_rfl) rfl #[.int .u8 a0] rfl (by (try simp only [List.map_toArray, List.map_cons, List.map_nil]); first | done | rfl | (simp only [List.length_drop, List.length_take]; rfl)) ?_; (with_reducible refine (lex_digit.calls a0 false _ A2.out).mono ?_); rintro e w' ⟨rfl, ⟨nd, rfl⟩⟩; refine ⟨_, rfl, ?_⟩))
      go_ret
      exact ⟨by first | rfl | (simp; done) | (simp [*]; done), by repeat (first | exact Drawn0.refl _ | apply Drawn0.step)⟩
     ·
      rw [if_neg c7] at H
      have c7b0 : decide (a0 ≤ 90) = false := decide_eq_false c7
      clear c7
      obtain rfl := Option.some.inj H
      go_enter Tryd.func30, Tryd.ntmps30
      go_wp2_with (first | ((with_reducible refine gate_callee (f := 27) rfl ?_); refine goesL_ (some 4) rfl rfl Tryd.func27 (by kernel_rfl) rfl #[.int .u8 a0] rfl (by (try simp only [List.map_toArray, List.map_cons, List.map_nil]); first | done | rfl | (simp only [List.length_drop, List.length_take]; rfl)) ?_; (with_reducible refine (lex_digit.calls a0 false _ A2.out).mono ?_); rintro e w' ⟨rfl, ⟨nd, rfl⟩⟩; refine ⟨_, rfl, ?_⟩))
      go_ret
      exact ⟨by first | rfl | (simp; done) | (simp [*]; done), by repeat (first | exact Drawn0.refl _ | apply Drawn0.step)⟩
    ·
     rw [if_neg c6] at H
     have c6b0 : decide (65 ≤ a0) = false := decide_eq_false c6
     clear c6
     obtain rfl := Option.some.inj H
     go_enter Tryd.func30, Tryd.ntmps30
     go_wp2_with (first | ((with_reducible refine gate_callee (f := 27) rfl ?_); refine goesL_ (some 4) rfl rfl Tryd.func27 (by kernel_rfl) rfl #[.int .u8 a0] rfl (by (try simp only [List.map_toArray, List.map_cons, List.map_nil]); first | done | rfl | (simp only [List.length_drop, List.length_take]; rfl)) ?_; (with_reducible refine (lex_digit.calls a0 false _ A2.out).mono ?_); rintro e w' ⟨rfl, ⟨nd, rfl⟩⟩; refine ⟨_, rfl, ?_⟩))
     go_ret
     exact ⟨by first | rfl | (simp; done) | (simp [*]; done), by repeat (first | exact Drawn0.refl _ | apply Drawn0.step)⟩
  ·
   rw [if_neg c4] at H
   have c4b0 : decide (97 ≤ a0) = false := decide_eq_false c4
   clear c4
   by_cases c8 : a0 ≥ 65
   ·
    rw [if_pos c8] at H
    have c8b0 : decide (65 ≤ a0) = true := decide_eq_true c8
    clear c8
    by_cases c9 : a0 ≤ 90
    ·
     rw [if_pos c9] at H
     have c9b0 : decide (a0 ≤ 90) = true := decide_eq_true c9
     clear c9
     obtain rfl := Option.some.inj H
     go_enter Tryd.func30, Tryd.ntmps30
     go_wp2_with (first | ((with_reducible refine gate_callee (f := 27) rfl ?_); refine goesL_ (some 4) rfl rfl Tryd.func27 (by kernel_rfl) rfl #[.int .u8 a0] rfl (by (try simp only [List.map_toArray, List.map_cons, List.map_nil]); first | done | rfl | (simp only [List.length_drop, List.length_take]; rfl)) ?_; (with_reducible refine (lex_digit.calls a0 false _ A2.out).mono ?_); rintro e w' ⟨rfl, ⟨nd, rfl⟩⟩; refine ⟨_, rfl, ?_⟩))
     go_ret
     exact ⟨by first | rfl | (simp; done) | (simp [*]; done), by repeat (first | exact Drawn0.refl _ | apply Drawn0.step)⟩
    ·
     rw [if_neg c9] at H
     have c9b0 : decide (a0 ≤ 90) = false := decide_eq_false c9
     clear c9
     obtain rfl := Option.some.inj H
     go_enter Tryd.func30, Tryd.ntmps30
     go_wp2_with (first | ((with_reducible refine gate_callee (f := 27) rfl ?_); refine goesL_ (some 4) rfl rfl Tryd.func27 (by kernel_rfl) rfl #[.int .u8 a0] rfl (by (try simp only [List.map_toArray, List.map_cons, List.map_nil]); first | done | rfl | (simp only [List.length_drop, List.length_take]; rfl)) ?_; (with_reducible refine (lex_digit.calls a0 false _ A2.out).mono ?_); rintro e w' ⟨rfl, ⟨nd, rfl⟩⟩; refine ⟨_, rfl, ?_⟩))
     go_ret
     exact ⟨by first | rfl | (simp; done) | (simp [*]; done), by repeat (first | exact Drawn0.refl _ | apply Drawn0.step)⟩
   ·
    rw [if_neg c8] at H
    have c8b0 : decide (65 ≤ a0) = false := decide_eq_false c8
    clear c8
    obtain rfl := Option.some.inj H
    go_enter Tryd.func30, Tryd.ntmps30
    go_wp2_with (first | ((with_reducible refine gate_callee (f := 27) rfl ?_); refine goesL_ (some 4) rfl rfl Tryd.func27 (by kernel_rfl) rfl #[.int .u8 a0] rfl (by (try simp only [List.map_toArray, List.map_cons, List.map_nil]); first | done | rfl | (simp only [List.length_drop, List.length_take]; rfl)) ?_; (with_reducible refine (lex_digit.calls a0 false _ A2.out).mono ?_); rintro e w' ⟨rfl, ⟨nd, rfl⟩⟩; refine ⟨_, rfl, ?_⟩))
    go_ret
    exact ⟨by first | rfl | (simp; done) | (simp [*]; done), by repeat (first | exact Drawn0.refl _ | apply Drawn0.step)⟩

/-! ### lex_value: function 45 -/
mutual
def lex_value.j0 : Nat → Int → Int → Int → Bool → Option (Int)
 | 0, _, _, _, _ => none
 | k + 1, x0, x1, x5, x12 => if x12 = true then (if (((x0 - 97) % 256) + 10) ≥ (wrap64 (x1)) then (some (-1)) else (some (((x0 - 97) % 256) + 10))) else (if x0 ≥ 65 then (lex_value.j1 k x0 x1 x5 (decide (x0 ≤ 70))) else (lex_value.j1 k x0 x1 x5 false))
def lex_value.j1 : Nat → Int → Int → Int → Bool → Option (Int)
 | 0, _, _, _, _ => none
 | k + 1, x0, x1, x5, x23 => if x23 = true then (if (((x0 - 65) % 256) + 10) ≥ (wrap64 (x1)) then (some (-1)) else (some (((x0 - 65) % 256) + 10))) else (if x5 ≥ (wrap64 (x1)) then (some (-1)) else (some x5))
end
def lex_value.f (k : Nat) (a0 : Int) (a1 : Int) : Option (Int) := (lex_digit.f a0).bind fun t111 => (if t111 = true then (if ((a0 - 48) % 256) ≥ (wrap64 (a1)) then (some (-1)) else (some ((a0 - 48) % 256))) else (if a0 ≥ 97 then (lex_value.j0 k a0 a1 (-1) (decide (a0 ≤ 102))) else (lex_value.j0 k a0 a1 (-1) false)))
theorem lex_value.mono_l : ∀ k, (∀ y0 y1 y2 y3, LeO (lex_value.j0 k y0 y1 y2 y3) (lex_value.j0 (k + 1) y0 y1 y2 y3)) ∧ (∀ y0 y1 y2 y3, LeO (lex_value.j1 k y0 y1 y2 y3) (lex_value.j1 (k + 1) y0 y1 y2 y3))
 | 0 => ⟨fun _ _ _ _ r h => by simp [lex_value.j0] at h, fun _ _ _ _ r h => by simp [lex_value.j1] at h⟩
 | k + 1 => by
  obtain ⟨ih0, ih1⟩ := lex_value.mono_l k
  refine ⟨?_, ?_⟩
  ·
   intro y0 y1 y2 y3
   unfold lex_value.j0
   repeat' first
   | (with_reducible exact ih0 _ _ _ _)
   | (with_reducible exact ih1 _ _ _ _)
   | (with_reducible exact LeO.refl _)
   | (with_reducible exact LeO.none _)
   | (with_reducible refine LeO.ite ?_ ?_)
   | (with_reducible refine LeO.bind ?_ (fun _ => ?_))
   | exact ih0 _ _ _ _
   | exact ih1 _ _ _ _
   | exact LeO.none _
   | refine LeO.ite ?_ ?_
   | refine LeO.bind ?_ (fun _ => ?_)
  ·
   intro y0 y1 y2 y3
   unfold lex_value.j1
   repeat' first
   | (with_reducible exact ih0 _ _ _ _)
   | (with_reducible exact ih1 _ _ _ _)
   | (with_reducible exact LeO.refl _)
   | (with_reducible exact LeO.none _)
   | (with_reducible refine LeO.ite ?_ ?_)
   | (with_reducible refine LeO.bind ?_ (fun _ => ?_))
   | exact ih0 _ _ _ _
   | exact ih1 _ _ _ _
   | exact LeO.none _
   | refine LeO.ite ?_ ?_
   | refine LeO.bind ?_ (fun _ => ?_)
theorem lex_value.mono : ∀ a0 a1 k, LeO (lex_value.f k a0 a1) (lex_value.f (k + 1) a0 a1) := by
 intro a0 a1 k
 obtain ⟨ih0, ih1⟩ := lex_value.mono_l k
 unfold lex_value.f
 repeat' first
   | (with_reducible exact ih0 _ _ _ _)
   | (with_reducible exact ih1 _ _ _ _)
   | (with_reducible exact LeO.refl _)
   | (with_reducible exact LeO.none _)
   | (with_reducible refine LeO.ite ?_ ?_)
   | (with_reducible refine LeO.bind ?_ (fun _ => ?_))
   | exact ih0 _ _ _ _
   | exact ih1 _ _ _ _
   | exact LeO.none _
   | refine LeO.ite ?_ ?_
   | refine LeO.bind ?_ (fun _ => ?_)
set_option maxHeartbeats 8000000 in
set_option maxRecDepth 100000 in
theorem lex_value.calls (k : Nat) (a0 : Int) (a1 : Int) (r : Int) (w : World) (h : lex_value.f k a0 a1 = some r) :
  Calls Tryd.prog 45 #[.int .u8 a0, .int .u64 a1] w fun e w' => e = .returned (.int .i64 r) ∧ Drawn0 w w' := by
 have H : ((lex_digit.f a0).bind fun t111 => (if t111 = true then (if ((a0 - 48) % 256) ≥ (wrap64 (a1)) then (some (-1)) else (some ((a0 - 48) % 256))) else (if a0 ≥ 97 then (lex_value.j0 k a0 a1 (-1) (decide (a0 ≤ 102))) else (lex_value.j0 k a0 a1 (-1) false)))) = some r := h
 clear h
 replace H := Option.bind_eq_some_iff.mp H
 obtain ⟨t111, A30, H⟩ := H
 replace H : (if t111 = true then (if ((a0 - 48) % 256) ≥ (wrap64 (a1)) then (some (-1)) else (some ((a0 - 48) % 256))) else (if a0 ≥ 97 then (lex_value.j0 k a0 a1 (-1) (decide (a0 ≤ 102))) else (lex_value.j0 k a0 a1 (-1) false))) = some r := H
 have A3 := Aside0.mk A30
 clear A30
 by_cases c4 : t111 = true
 ·
  subst c4
  have H1 : (if ((a0 - 48) % 256) ≥ (wrap64 (a1)) then (some (-1)) else (some ((a0 - 48) % 256))) = some r := by rw [if_pos rfl] at H; exact H
  clear H
  have H := H1
  clear H1
  by_cases c5 : ((a0 - 48) % 256) ≥ (wrap64 (a1))
  ·
   rw [if_pos c5] at H
   have c5b0 : decide ((wrap64 (a1)) ≤ ((a0 - 48) % 256)) = true := decide_eq_true c5
   clear c5
   obtain rfl := Option.some.inj H
   go_enter Tryd.func45, Tryd.ntmps45
   go_wp2_with (first | ((with_reducible refine gate_callee (f := 27) rfl ?_); refine goesL_ (some 8) rfl rfl Tryd.func27 (by kernel_rfl) rfl #[.int .u8 a0] rfl (by (try simp only [List.map_toArray, List.map_cons, List.map_nil]); first | done | rfl | (simp only [List.length_drop, List.length_take]; rfl)) ?_; (with_reducible refine (lex_digit.calls a0 true _ A3.out).mono ?_); rintro e w' ⟨rfl, ⟨nd, rfl⟩⟩; refine ⟨_, rfl, ?_⟩))
   go_ret
   exact ⟨by first | rfl | (simp; done) | (simp [*]; done), by repeat (first | exact Drawn0.refl _ | apply Drawn0.step)⟩
  ·
   rw [if_neg c5] at H
   have c5b0 : decide ((wrap64 (a1)) ≤ ((a0 - 48) % 256)) = false := decide_eq_false c5
   clear c5
   obtain rfl := Option.some.inj H
   go_enter Tryd.func45, Tryd.ntmps45
   go_wp2_with (first | ((with_reducible refine gate_callee (f := 27) rfl ?_); refine goesL_ (some 8) rfl rfl Tryd.func27 (by kernel_rfl) rfl #[.int .u8 a0] rfl (by (try simp only [List.map_toArray, List.map_cons, List.map_nil]); first | done | rfl | (simp only [List.length_drop, List.length_take]; rfl)) ?_; (with_reducible refine (lex_digit.calls a0 true _ A3.out).mono ?_); rintro e w' ⟨rfl, ⟨nd, rfl⟩⟩; refine ⟨_, rfl, ?_⟩))
   go_ret
   exact ⟨by first | rfl | (simp; done) | (simp [*]; done), by repeat (first | exact Drawn0.refl _ | apply Drawn0.step)⟩
 ·
  replace c4 := Bool.eq_false_iff.mpr c4
  subst c4
  have H1 : (if a0 ≥ 97 then (lex_value.j0 k a0 a1 (-1) (decide (a0 ≤ 102))) else (lex_value.j0 k a0 a1 (-1) false)) = some r := by rw [if_neg (show ¬ (false = true) by decide)] at H; exact H
  clear H
  have H := H1
  clear H1
  have HC6 := Aside0.mk H
  clear H
  go_enter Tryd.func45, Tryd.ntmps45
  go_upto_region 4 with (first | ((with_reducible refine gate_callee (f := 27) rfl ?_); refine goesL_ (some 8) rfl rfl Tryd.func27 (by kernel_rfl) rfl #[.int .u8 a0] rfl (by (try simp only [List.map_toArray, List.map_cons, List.map_nil]); first | done | rfl | (simp only [List.length_drop, List.length_take]; rfl)) ?_; (with_reducible refine (lex_digit.calls a0 false _ A3.out).mono ?_); rintro e w' ⟨rfl, ⟨nd, rfl⟩⟩; refine ⟨_, rfl, ?_⟩))
  (try simp only [Act.put, List.setIfInBounds_toArray, List.set_cons_zero, List.set_cons_succ])
  go_cut [12] (fun v12 wc => ∃ (kq : Nat) (x12_5 : Bool), v12 = .bool x12_5 ∧ Aside0 (lex_value.j0 kq a0 a1 (-1) x12_5 = some r) ∧ Aside0 (kq ≤ k) ∧ Drawn0 w wc)
  case first =>
   have H := HC6.out
   clear HC6
   by_cases c7 : a0 ≥ 97
   ·
    rw [if_pos c7] at H
    have c7b0 : decide (97 ≤ a0) = true := decide_eq_true c7
    clear c7
    (first | rw [c7b0] | (simp only [i64_w, i32_w]; rw [c7b0]) | skip)
    have H' := Aside0.mk H
    clear H
    go_wp2
    go_meet
    case rel => exact ⟨_, (decide (a0 ≤ 102)), (by first | rfl | (simp; done) | (simp [*]; done)), H', ⟨by first | omega | exact Nat.le_refl _⟩, by repeat (first | exact Drawn0.refl _ | apply Drawn0.step)⟩
   ·
    rw [if_neg c7] at H
    have c7b0 : decide (97 ≤ a0) = false := decide_eq_false c7
    clear c7
    (first | rw [c7b0] | (simp only [i64_w, i32_w]; rw [c7b0]) | skip)
    have H' := Aside0.mk H
    clear H
    go_wp2
    go_meet
    case rel => exact ⟨_, (false), (by first | rfl | (simp; done) | (simp [*]; done)), H', ⟨by first | omega | exact Nat.le_refl _⟩, by repeat (first | exact Drawn0.refl _ | apply Drawn0.step)⟩
  case rest =>
   clear HC6
   try clear c2
   try clear p2
   try clear c4
   try clear c5
   try clear c5b0
   try clear p6
   try clear c7
   try clear c7b0
   obtain ⟨kq, x12_5, rfl, HA, HJ5, ⟨mc5, rfl⟩⟩ := hcut
   cases kq with
   | zero => exact absurd HA.out (by simp [lex_value.j0])
   | succ kj5 =>
    have H := HA.out
    clear HA
    simp only [lex_value.j0] at H
    by_cases c8 : x12_5 = true
    ·
     subst c8
     have H1 : (if (((a0 - 97) % 256) + 10) ≥ (wrap64 (a1)) then (some (-1)) else (some (((a0 - 97) % 256) + 10))) = some r := by rw [if_pos rfl] at H; exact H
     clear H
     have H := H1
     clear H1
     by_cases c9 : (((a0 - 97) % 256) + 10) ≥ (wrap64 (a1))
     ·
      rw [if_pos c9] at H
      have c9b0 : decide ((wrap64 (a1)) ≤ (((a0 - 97) % 256) + 10)) = true := decide_eq_true c9
      clear c9
      obtain rfl := Option.some.inj H
      go_wp2
      go_ret
      exact ⟨by first | rfl | (simp; done) | (simp [*]; done), by repeat (first | exact Drawn0.refl _ | apply Drawn0.step)⟩
     ·
      rw [if_neg c9] at H
      have c9b0 : decide ((wrap64 (a1)) ≤ (((a0 - 97) % 256) + 10)) = false := decide_eq_false c9
      clear c9
      obtain rfl := Option.some.inj H
      go_wp2
      go_ret
      exact ⟨by first | rfl | (simp; done) | (simp [*]; done), by repeat (first | exact Drawn0.refl _ | apply Drawn0.step)⟩
    ·
     replace c8 := Bool.eq_false_iff.mpr c8
     subst c8
     have H1 : (if a0 ≥ 65 then (lex_value.j1 kj5 a0 a1 (-1) (decide (a0 ≤ 70))) else (lex_value.j1 kj5 a0 a1 (-1) false)) = some r := by rw [if_neg (show ¬ (false = true) by decide)] at H; exact H
     clear H
     have H := H1
     clear H1
     have HC10 := Aside0.mk H
     clear H
     go_upto_region 6 with (fail)
     go_cut [23] (fun v23 wc => ∃ (kq : Nat) (x23_9 : Bool), v23 = .bool x23_9 ∧ Aside0 (lex_value.j1 kq a0 a1 (-1) x23_9 = some r) ∧ Aside0 (kq ≤ kj5) ∧ Drawn0 w wc)
     case first =>
      have H := HC10.out
      clear HC10
      by_cases c11 : a0 ≥ 65
      ·
       rw [if_pos c11] at H
       have c11b0 : decide (65 ≤ a0) = true := decide_eq_true c11
       clear c11
       (first | rw [c11b0] | (simp only [i64_w, i32_w]; rw [c11b0]) | skip)
       have H' := Aside0.mk H
       clear H
       go_wp2
       go_meet
       case rel => exact ⟨_, (decide (a0 ≤ 70)), (by first | rfl | (simp; done) | (simp [*]; done)), H', ⟨by have := HJ5.out; first | omega | exact Nat.le_refl _⟩, by repeat (first | exact Drawn0.refl _ | apply Drawn0.step)⟩
      ·
       rw [if_neg c11] at H
       have c11b0 : decide (65 ≤ a0) = false := decide_eq_false c11
       clear c11
       (first | rw [c11b0] | (simp only [i64_w, i32_w]; rw [c11b0]) | skip)
       have H' := Aside0.mk H
       clear H
       go_wp2
       go_meet
       case rel => exact ⟨_, (false), (by first | rfl | (simp; done) | (simp [*]; done)), H', ⟨by have := HJ5.out; first | omega | exact Nat.le_refl _⟩, by repeat (first | exact Drawn0.refl _ | apply Drawn0.step)⟩
     case rest =>
      clear HC10
      try clear c1
      try clear c2
      try clear p2
      try clear c4
      try clear c5
      try clear c5b0
      try clear p6
      try clear c7
      try clear c7b0
      try clear c8
      try clear c9
      try clear c9b0
      try clear c11
      try clear c11b0
      try clear p2
      try clear p6
      obtain ⟨kq, x23_9, rfl, HA, HJ9, ⟨mc9, rfl⟩⟩ := hcut
      cases kq with
      | zero => exact absurd HA.out (by simp [lex_value.j1])
      | succ kj9 =>
       have H := HA.out
       clear HA
       simp only [lex_value.j1] at H
       by_cases c12 : x23_9 = true
       ·
        subst c12
        have H1 : (if (((a0 - 65) % 256) + 10) ≥ (wrap64 (a1)) then (some (-1)) else (some (((a0 - 65) % 256) + 10))) = some r := by rw [if_pos rfl] at H; exact H
        clear H
        have H := H1
        clear H1
        by_cases c13 : (((a0 - 65) % 256) + 10) ≥ (wrap64 (a1))
        ·
         rw [if_pos c13] at H
         have c13b0 : decide ((wrap64 (a1)) ≤ (((a0 - 65) % 256) + 10)) = true := decide_eq_true c13
         clear c13
         obtain rfl := Option.some.inj H
         go_wp2
         go_ret
         exact ⟨by first | rfl | (simp; done) | (simp [*]; done), by repeat (first | exact Drawn0.refl _ | apply Drawn0.step)⟩
        ·
         rw [if_neg c13] at H
         have c13b0 : decide ((wrap64 (a1)) ≤ (((a0 - 65) % 256) + 10)) = false := decide_eq_false c13
         clear c13
         obtain rfl := Option.some.inj H
         go_wp2
         go_ret
         exact ⟨by first | rfl | (simp; done) | (simp [*]; done), by repeat (first | exact Drawn0.refl _ | apply Drawn0.step)⟩
       ·
        replace c12 := Bool.eq_false_iff.mpr c12
        subst c12
        have H1 : (if (-1) ≥ (wrap64 (a1)) then (some (-1)) else (some (-1))) = some r := by rw [if_neg (show ¬ (false = true) by decide)] at H; exact H
        clear H
        have H := H1
        clear H1
        by_cases c14 : (-1) ≥ (wrap64 (a1))
        ·
         rw [if_pos c14] at H
         have c14b0 : decide ((wrap64 (a1)) ≤ (-1)) = true := decide_eq_true c14
         clear c14
         obtain rfl := Option.some.inj H
         go_wp2
         go_ret
         exact ⟨by first | rfl | (simp; done) | (simp [*]; done), by repeat (first | exact Drawn0.refl _ | apply Drawn0.step)⟩
        ·
         rw [if_neg c14] at H
         have c14b0 : decide ((wrap64 (a1)) ≤ (-1)) = false := decide_eq_false c14
         clear c14
         obtain rfl := Option.some.inj H
         go_wp2
         go_ret
         exact ⟨by first | rfl | (simp; done) | (simp [*]; done), by repeat (first | exact Drawn0.refl _ | apply Drawn0.step)⟩

end Go.Proofs.YtiljijckfkphhaaDoor.PLex
