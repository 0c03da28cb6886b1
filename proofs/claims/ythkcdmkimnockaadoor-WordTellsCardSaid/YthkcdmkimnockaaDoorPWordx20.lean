-- PRINTED by print.py (a twelfth state) out of the translation. Not trusted: Lean checks it.
import Derived.Test.YthkcdmkimnockaaDoorPWordx0
import Derived.Test.YthkcdmkimnockaaDoorPWordx2
namespace Go.Proofs.YthkcdmkimnockaaDoor.PWord
open Go.RowKit Go.Proofs.YthkcdmkimnockaaDoorW.PrintWords Go.Proofs.YthkcdmkimnockaaDoorW.PrintLast Go.Proofs.YthkcdmkimnockaaDoorW.PrintMore
attribute [local go_sem] max2_int min2_int max_two min_two max_three min_three max_four min_four   -- for this text's walks alone
set_option linter.unusedVariables false
set_option linter.unusedSimpArgs false

/-! ### spokeshaveref1_Text: function 30 -/
def spokeshaveref1_Text.j0 : Nat → ByteArray → Int → Bool → Option (ByteArray)
 | 0, _, _, _ => none
 | k + 1, x3, x427000, x427001 => if x427000 = 8 then (if x3.size + 1 ≤ 9223372036854775807 then (some (x3 ++ (⟨#[56]⟩ : ByteArray))) else (none)) else (if x427000 = 16 then (if x3.size + 2 ≤ 9223372036854775807 then (some (x3 ++ (⟨#[49, 54]⟩ : ByteArray))) else (none)) else (if x427000 = 32 then (if x3.size + 2 ≤ 9223372036854775807 then (some (x3 ++ (⟨#[51, 50]⟩ : ByteArray))) else (none)) else (if x3.size + 2 ≤ 9223372036854775807 then (some (x3 ++ (⟨#[54, 52]⟩ : ByteArray))) else (none))))
def spokeshaveref1_Text.f (k : Nat) (a0_0 : Int) (a0_1 : Bool) : Option (ByteArray) := (spokeshaveref1_May.f a0_0 a0_1).bind fun t427 => (if t427 = true then (if a0_1 = true then (spokeshaveref1_Text.j0 k (⟨#[105]⟩ : ByteArray) a0_0 a0_1) else (spokeshaveref1_Text.j0 k (⟨#[117]⟩ : ByteArray) a0_0 a0_1)) else (some (⟨#[]⟩ : ByteArray)))
theorem spokeshaveref1_Text.mono_l : ∀ k, (∀ y0 y1 y2, LeO (spokeshaveref1_Text.j0 k y0 y1 y2) (spokeshaveref1_Text.j0 (k + 1) y0 y1 y2))
 | 0 => fun _ _ _ r h => by simp [spokeshaveref1_Text.j0] at h
 | k + 1 => by
  have ih0 := spokeshaveref1_Text.mono_l k
  ·
   intro y0 y1 y2
   unfold spokeshaveref1_Text.j0
   repeat' first
   | (with_reducible exact ih0 _ _ _)
   | (with_reducible exact LeO.refl _)
   | (with_reducible exact LeO.none _)
   | (with_reducible refine LeO.ite ?_ ?_)
   | (with_reducible refine LeO.bind ?_ (fun _ => ?_))
   | exact ih0 _ _ _
   | exact LeO.none _
   | refine LeO.ite ?_ ?_
   | refine LeO.bind ?_ (fun _ => ?_)
theorem spokeshaveref1_Text.mono : ∀ a0 a1 k, LeO (spokeshaveref1_Text.f k a0 a1) (spokeshaveref1_Text.f (k + 1) a0 a1) := by
 intro a0 a1 k
 have ih0 := spokeshaveref1_Text.mono_l k
 unfold spokeshaveref1_Text.f
 repeat' first
   | (with_reducible exact ih0 _ _ _)
   | (with_reducible exact LeO.refl _)
   | (with_reducible exact LeO.none _)
   | (with_reducible refine LeO.ite ?_ ?_)
   | (with_reducible refine LeO.bind ?_ (fun _ => ?_))
   | exact ih0 _ _ _
   | exact LeO.none _
   | refine LeO.ite ?_ ?_
   | refine LeO.bind ?_ (fun _ => ?_)
set_option maxHeartbeats 8000000 in
set_option maxRecDepth 100000 in
theorem spokeshaveref1_Text.calls (k : Nat) (a0_0 : Int) (a0_1 : Bool) (r : ByteArray) (w : World) (h : spokeshaveref1_Text.f k a0_0 a0_1 = some r) :
  Calls Tryd.prog 30 #[.agg #[.int .i64 a0_0, .bool a0_1]] w fun e w' => e = .returned (.string r) ∧ Below w.heap.size w w' := by
 have hu26 := Tryd.underlying26
 have HB := Aside0.mk (Below.refl w.heap.size w)
 have H : ((spokeshaveref1_May.f a0_0 a0_1).bind fun t427 => (if t427 = true then (if a0_1 = true then (spokeshaveref1_Text.j0 k (⟨#[105]⟩ : ByteArray) a0_0 a0_1) else (spokeshaveref1_Text.j0 k (⟨#[117]⟩ : ByteArray) a0_0 a0_1)) else (some (⟨#[]⟩ : ByteArray)))) = some r := h
 clear h
 replace H := Option.bind_eq_some_iff.mp H
 obtain ⟨t427, A20, H⟩ := H
 replace H : (if t427 = true then (if a0_1 = true then (spokeshaveref1_Text.j0 k (⟨#[105]⟩ : ByteArray) a0_0 a0_1) else (spokeshaveref1_Text.j0 k (⟨#[117]⟩ : ByteArray) a0_0 a0_1)) else (some (⟨#[]⟩ : ByteArray))) = some r := H
 have A2 := Aside0.mk A20
 clear A20
 by_cases c3 : t427 = true
 ·
  subst c3
  have H1 : (if a0_1 = true then (spokeshaveref1_Text.j0 k (⟨#[105]⟩ : ByteArray) a0_0 a0_1) else (spokeshaveref1_Text.j0 k (⟨#[117]⟩ : ByteArray) a0_0 a0_1)) = some r := by rw [if_pos rfl] at H; exact H
  clear H
  have H := H1
  clear H1
  have HC4 := Aside0.mk H
  clear H
  go_enter Tryd.func30, Tryd.ntmps30
  go_upto_if 8 with (first | ((with_reducible refine gate_dst (N := 1) rfl ?_); refine box_event ?hg (N := 1) ?hd (cs := #[.int .i64 a0_0, .bool a0_1]) (t := 26) ?hr ?_; (case hd => rfl); (case hg => rfl); (case hr => first | (go_simp; done) | (go_simp; rfl)); intro gb426 hg w5 hbox hb; have n0_ := Aside0.mk (below_step (by repeat (first | (with_reducible first | exact HB.out | apply below_alloc | apply pw_below_drewN | apply below_drew1) | exact HB.out)) hb); have n1_ := Aside0.mk (hbox); have n2_ := Aside0.mk ((by rw [hg]; exact (below_size (by repeat (first | (with_reducible first | exact HB.out | apply below_alloc | apply pw_below_drewN | apply below_drew1) | exact HB.out))) : w.heap.size ≤ gb426)); have n3_ := Aside0.mk ((by rw [hg]; exact (below_size (by repeat (first | (with_reducible first | exact HB.out | apply below_alloc | apply pw_below_drewN | apply below_drew1) | exact HB.out))) : w.heap.size ≤ gb426)); clear HB; have HB := n0_; have BK426 := n1_; have GW426 := n2_; have GE426 := n3_; clear n0_ n1_ n2_ n3_; clear hb hbox hg; have hcz6_0 : w5.cell? ⟨gb426, 0, none⟩ = some (.int .i64 a0_0) := (blk_cell BK426.out 0).trans rfl; have hcz6_1 : w5.cell? ⟨gb426, 1, none⟩ = some (.bool a0_1) := (blk_cell BK426.out 1).trans rfl; have hfz6_0 := blk_frozen BK426.out 0; have hfz6_1 := blk_frozen BK426.out 1) | ((with_reducible refine gate_callee (f := 25) rfl ?_); refine goesL_ (some 5) rfl rfl Tryd.func25 (by kernel_rfl) rfl #[.agg #[.int .i64 a0_0, .bool a0_1]] rfl (by (try simp only [List.map_toArray, List.map_cons, List.map_nil]); first | done | rfl | (simp only [List.length_drop, List.length_take]; rfl)) ?_; (with_reducible refine (spokeshaveref1_May.calls a0_0 a0_1 true _ A2.out).mono ?_); rintro e w7 ⟨rfl, hb⟩; refine ⟨_, rfl, ?_⟩; have n0_ := Aside0.mk (blk_below (g := gb426) (o := .cells #[.int .i64 a0_0, .bool a0_1] 26 (0, 0)) (by (with_reducible repeat (first | refine blk_drewN ?_ _ | refine blk_drew ?_ | refine blk_alloc ?_ _)); exact BK426.out) hb); have n1_ := Aside0.mk (below_step (by repeat (first | (with_reducible first | exact HB.out | apply below_alloc | apply pw_below_drewN | apply below_drew1 | refine below_set ?_ GE426.out) | exact HB.out)) hb); clear BK426; clear HB; have BK426 := n0_; have HB := n1_; clear n0_ n1_; (try clear hb); (try clear hb2); (try clear hk); (try clear hi); have hcz8_0 : w7.cell? ⟨gb426, 0, none⟩ = some (.int .i64 a0_0) := (blk_cell BK426.out 0).trans rfl; have hcz8_1 : w7.cell? ⟨gb426, 1, none⟩ = some (.bool a0_1) := (blk_cell BK426.out 1).trans rfl; have hfz8_0 := blk_frozen BK426.out 0; have hfz8_1 := blk_frozen BK426.out 1))
  (try simp only [Act.put, List.setIfInBounds_toArray, List.set_cons_zero, List.set_cons_succ])
  go_cut [3] (fun v3 wc => ∃ (kq : Nat) (x3_3 : ByteArray), v3 = .string x3_3 ∧ Aside0 (spokeshaveref1_Text.j0 kq x3_3 a0_0 a0_1 = some r) ∧ Aside0 (kq ≤ k) ∧ Aside0 (wc.heap[gb426]? = some (.cells #[.int .i64 a0_0, .bool a0_1] 26 (0, 0))) ∧ Aside0 (Below w.heap.size w wc))
  case first =>
   have H := HC4.out
   clear HC4
   by_cases c9 : a0_1 = true
   ·
    subst c9
    have H1 : (spokeshaveref1_Text.j0 k (⟨#[105]⟩ : ByteArray) a0_0 true) = some r := by rw [if_pos rfl] at H; exact H
    clear H
    have H := H1
    clear H1
    have H' := Aside0.mk H
    clear H
    go_wp2
    go_meet
    case rel => exact ⟨_, ((⟨#[105]⟩ : ByteArray)), (by first | rfl | (simp; done) | (simp [*]; done)), H', ⟨by first | omega | exact Nat.le_refl _⟩, ⟨by (with_reducible repeat (first | refine blk_drewN ?_ _ | refine blk_drew ?_ | refine blk_alloc ?_ _)); exact BK426.out⟩, ⟨by repeat (first | (with_reducible first | exact HB.out | apply below_alloc | apply pw_below_drewN | apply below_drew1 | refine below_set ?_ GE426.out) | exact HB.out)⟩⟩
   ·
    replace c9 := Bool.eq_false_iff.mpr c9
    subst c9
    have H1 : (spokeshaveref1_Text.j0 k (⟨#[117]⟩ : ByteArray) a0_0 false) = some r := by rw [if_neg (show ¬ (false = true) by decide)] at H; exact H
    clear H
    have H := H1
    clear H1
    have H' := Aside0.mk H
    clear H
    go_wp2
    go_meet
    case rel => exact ⟨_, ((⟨#[117]⟩ : ByteArray)), (by first | rfl | (simp; done) | (simp [*]; done)), H', ⟨by first | omega | exact Nat.le_refl _⟩, ⟨by (with_reducible repeat (first | refine blk_drewN ?_ _ | refine blk_drew ?_ | refine blk_alloc ?_ _)); exact BK426.out⟩, ⟨by repeat (first | (with_reducible first | exact HB.out | apply below_alloc | apply pw_below_drewN | apply below_drew1 | refine below_set ?_ GE426.out) | exact HB.out)⟩⟩
  case rest =>
   clear HC4
   try clear c2
   try clear p2
   try clear c3
   try clear c9
   try clear hcz6_0
   try clear hcz6_1
   try clear hcz8_0
   try clear hcz8_1
   try clear hfz6_0
   try clear hfz6_1
   try clear hfz8_0
   try clear hfz8_1
   obtain ⟨kq, x3_3, rfl, HA, HJ3, BK426, HB⟩ := hcut
   cases kq with
   | zero => exact absurd HA.out (by simp [spokeshaveref1_Text.j0])
   | succ kj3 =>
    have H := HA.out
    clear HA
    simp only [spokeshaveref1_Text.j0] at H
    by_cases c10 : a0_0 = 8
    ·
     rw [if_pos c10] at H
     have c10b0 : (a0_0 == 8) = true := beq_iff_eq.mpr c10
     have c10b1 : (a0_0 != 8) = false := bne_eq_false_iff_eq.mpr c10
     clear c10
     by_cases c11 : x3_3.size + 1 ≤ 9223372036854775807
     case neg => rw [if_neg c11] at H; exact absurd H (by simp)
     rw [if_pos c11] at H
     have c11b0 := eq_true c11
     have c11b1 : decide (x3_3.size + 1 ≤ 9223372036854775807) = true := decide_eq_true c11
     try have c11b2 : (9223372036854775807 < x3_3.size + 1) = False := eq_false (Nat.not_lt.2 c11)
     obtain rfl := Option.some.inj H
     have hcz12_0 : wc.cell? ⟨gb426, 0, none⟩ = some (.int .i64 a0_0) := (blk_cell BK426.out 0).trans rfl
     have hcz12_1 : wc.cell? ⟨gb426, 1, none⟩ = some (.bool a0_1) := (blk_cell BK426.out 1).trans rfl
     have hfz12_0 := blk_frozen BK426.out 0
     have hfz12_1 := blk_frozen BK426.out 1
     go_wp2
     go_ret
     exact ⟨by first | rfl | (simp [errW_none, errW_some] <;> rfl) | (simp [*, errW_none, errW_some] <;> rfl), by repeat (first | (with_reducible first | exact HB.out | apply below_alloc | apply pw_below_drewN | apply below_drew1 | refine below_set ?_ GE426.out) | exact HB.out)⟩
    ·
     rw [if_neg c10] at H
     have c10b0 : (a0_0 == 8) = false := beq_eq_false_iff_ne.mpr c10
     have c10b1 : (a0_0 != 8) = true := bne_iff_ne.mpr c10
     by_cases c13 : a0_0 = 16
     ·
      rw [if_pos c13] at H
      have c13b0 : (a0_0 == 16) = true := beq_iff_eq.mpr c13
      have c13b1 : (a0_0 != 16) = false := bne_eq_false_iff_eq.mpr c13
      clear c13
      by_cases c14 : x3_3.size + 2 ≤ 9223372036854775807
      case neg => rw [if_neg c14] at H; exact absurd H (by simp)
      rw [if_pos c14] at H
      have c14b0 := eq_true c14
      have c14b1 : decide (x3_3.size + 2 ≤ 9223372036854775807) = true := decide_eq_true c14
      try have c14b2 : (9223372036854775807 < x3_3.size + 2) = False := eq_false (Nat.not_lt.2 c14)
      obtain rfl := Option.some.inj H
      have hcz15_0 : wc.cell? ⟨gb426, 0, none⟩ = some (.int .i64 a0_0) := (blk_cell BK426.out 0).trans rfl
      have hcz15_1 : wc.cell? ⟨gb426, 1, none⟩ = some (.bool a0_1) := (blk_cell BK426.out 1).trans rfl
      have hfz15_0 := blk_frozen BK426.out 0
      have hfz15_1 := blk_frozen BK426.out 1
      go_wp2
      go_ret
      exact ⟨by first | rfl | (simp [errW_none, errW_some] <;> rfl) | (simp [*, errW_none, errW_some] <;> rfl), by repeat (first | (with_reducible first | exact HB.out | apply below_alloc | apply pw_below_drewN | apply below_drew1 | refine below_set ?_ GE426.out) | exact HB.out)⟩
     ·
      rw [if_neg c13] at H
      have c13b0 : (a0_0 == 16) = false := beq_eq_false_iff_ne.mpr c13
      have c13b1 : (a0_0 != 16) = true := bne_iff_ne.mpr c13
      by_cases c16 : a0_0 = 32
      ·
       rw [if_pos c16] at H
       have c16b0 : (a0_0 == 32) = true := beq_iff_eq.mpr c16
       have c16b1 : (a0_0 != 32) = false := bne_eq_false_iff_eq.mpr c16
       clear c16
       by_cases c17 : x3_3.size + 2 ≤ 9223372036854775807
       case neg => rw [if_neg c17] at H; exact absurd H (by simp)
       rw [if_pos c17] at H
       have c17b0 := eq_true c17
       have c17b1 : decide (x3_3.size + 2 ≤ 9223372036854775807) = true := decide_eq_true c17
       try have c17b2 : (9223372036854775807 < x3_3.size + 2) = False := eq_false (Nat.not_lt.2 c17)
       obtain rfl := Option.some.inj H
       have hcz18_0 : wc.cell? ⟨gb426, 0, none⟩ = some (.int .i64 a0_0) := (blk_cell BK426.out 0).trans rfl
       have hcz18_1 : wc.cell? ⟨gb426, 1, none⟩ = some (.bool a0_1) := (blk_cell BK426.out 1).trans rfl
       have hfz18_0 := blk_frozen BK426.out 0
       have hfz18_1 := blk_frozen BK426.out 1
       go_wp2
       go_ret
       exact ⟨by first | rfl | (simp [errW_none, errW_some] <;> rfl) | (simp [*, errW_none, errW_some] <;> rfl), by repeat (first | (with_reducible first | exact HB.out | apply below_alloc | apply pw_below_drewN | apply below_drew1 | refine below_set ?_ GE426.out) | exact HB.out)⟩
      ·
       rw [if_neg c16] at H
       have c16b0 : (a0_0 == 32) = false := beq_eq_false_iff_ne.mpr c16
       have c16b1 : (a0_0 != 32) = true := bne_iff_ne.mpr c16
       by_cases c19 : x3_3.size + 2 ≤ 9223372036854775807
       case neg => rw [if_neg c19] at H; exact absurd H (by simp)
       rw [if_pos c19] at H
       have c19b0 := eq_true c19
       have c19b1 : decide (x3_3.size + 2 ≤ 9223372036854775807) = true := decide_eq_true c19
       try have c19b2 : (9223372036854775807 < x3_3.size + 2) = False := eq_false (Nat.not_lt.2 c19)
       obtain rfl := Option.some.inj H
       have hcz20_0 : wc.cell? ⟨gb426, 0, none⟩ = some (.int .i64 a0_0) := (blk_cell BK426.out 0).trans rfl
       have hcz20_1 : wc.cell? ⟨gb426, 1, none⟩ = some (.bool a0_1) := (blk_cell BK426.out 1).trans rfl
       have hfz20_0 := blk_frozen BK426.out 0
       have hfz20_1 := blk_frozen BK426.out 1
       go_wp2
       go_ret
       exact ⟨by first | rfl | (simp [errW_none, errW_some] <;> rfl) | (simp [*, errW_none, errW_some] <;> rfl), by repeat (first | (with_reducible first | exact HB.out | apply below_alloc | apply pw_below_drewN | apply below_drew1 | refine below_set ?_ GE426.out) | exact HB.out)⟩
 ·
  replace c3 := Bool.eq_false_iff.mpr c3
  subst c3
  have H1 : (some (⟨#[]⟩ : ByteArray)) = some r := by rw [if_neg (show ¬ (false = true) by decide)] at H; exact H
  clear H
  have H := H1
  clear H1
  obtain rfl := Option.some.inj H
  go_enter Tryd.func30, Tryd.ntmps30
  go_wp2_with (first | ((with_reducible refine gate_dst (N := 1) rfl ?_); refine box_event ?hg (N := 1) ?hd (cs := #[.int .i64 a0_0, .bool a0_1]) (t := 26) ?hr ?_; (case hd => rfl); (case hg => rfl); (case hr => first | (go_simp; done) | (go_simp; rfl)); intro gb426 hg w21 hbox hb; have n0_ := Aside0.mk (below_step (by repeat (first | (with_reducible first | exact HB.out | apply below_alloc | apply pw_below_drewN | apply below_drew1) | exact HB.out)) hb); have n1_ := Aside0.mk (hbox); have n2_ := Aside0.mk ((by rw [hg]; exact (below_size (by repeat (first | (with_reducible first | exact HB.out | apply below_alloc | apply pw_below_drewN | apply below_drew1) | exact HB.out))) : w.heap.size ≤ gb426)); have n3_ := Aside0.mk ((by rw [hg]; exact (below_size (by repeat (first | (with_reducible first | exact HB.out | apply below_alloc | apply pw_below_drewN | apply below_drew1) | exact HB.out))) : w.heap.size ≤ gb426)); clear HB; have HB := n0_; have BK426 := n1_; have GW426 := n2_; have GE426 := n3_; clear n0_ n1_ n2_ n3_; clear hb hbox hg; have hcz22_0 : w21.cell? ⟨gb426, 0, none⟩ = some (.int .i64 a0_0) := (blk_cell BK426.out 0).trans rfl; have hcz22_1 : w21.cell? ⟨gb426, 1, none⟩ = some (.bool a0_1) := (blk_cell BK426.out 1).trans rfl; have hfz22_0 := blk_frozen BK426.out 0; have hfz22_1 := blk_frozen BK426.out 1) | ((with_reducible refine gate_callee (f := 25) rfl ?_); refine goesL_ (some 5) rfl rfl Tryd.func25 (by kernel_rfl) rfl #[.agg #[.int .i64 a0_0, .bool a0_1]] rfl (by (try simp only [List.map_toArray, List.map_cons, List.map_nil]); first | done | rfl | (simp only [List.length_drop, List.length_take]; rfl)) ?_; (with_reducible refine (spokeshaveref1_May.calls a0_0 a0_1 false _ A2.out).mono ?_); rintro e w23 ⟨rfl, hb⟩; refine ⟨_, rfl, ?_⟩; have n0_ := Aside0.mk (blk_below (g := gb426) (o := .cells #[.int .i64 a0_0, .bool a0_1] 26 (0, 0)) (by (with_reducible repeat (first | refine blk_drewN ?_ _ | refine blk_drew ?_ | refine blk_alloc ?_ _)); exact BK426.out) hb); have n1_ := Aside0.mk (below_step (by repeat (first | (with_reducible first | exact HB.out | apply below_alloc | apply pw_below_drewN | apply below_drew1 | refine below_set ?_ GE426.out) | exact HB.out)) hb); clear BK426; clear HB; have BK426 := n0_; have HB := n1_; clear n0_ n1_; (try clear hb); (try clear hb2); (try clear hk); (try clear hi)))
  go_ret
  exact ⟨by first | rfl | (simp [errW_none, errW_some] <;> rfl) | (simp [*, errW_none, errW_some] <;> rfl), by repeat (first | (with_reducible first | exact HB.out | apply below_alloc | apply pw_below_drewN | apply below_drew1 | refine below_set ?_ GE426.out) | exact HB.out)⟩

end Go.Proofs.YthkcdmkimnockaaDoor.PWord
