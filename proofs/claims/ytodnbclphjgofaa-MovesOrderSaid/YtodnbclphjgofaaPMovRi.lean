-- PRINTED by print.py (a twelfth state) out of the translation. Not trusted: Lean checks it.
import Derived.Test.YtodnbclphjgofaaMovWalk
import Derived.Test.YtodnbclphjgofaaPMovAw
import Derived.Test.YtodnbclphjgofaaPMovx0
import Derived.Test.YtodnbclphjgofaaPMovx3
namespace Go.Proofs.Ytodnbclphjgofaa.PMov
open Go.RowKit Go.Proofs.YtodnbclphjgofaaW.PrintWords Go.Proofs.YtodnbclphjgofaaW.PrintLast Go.Proofs.YtodnbclphjgofaaW.PrintMore
attribute [local go_sem] max2_int min2_int max_two min_two max_three min_three max_four min_four   -- for this text's walks alone
set_option linter.unusedVariables false
set_option linter.unusedSimpArgs false

/-! ### spokeshavelaw21_MovesRings: function 4 -/
def spokeshavelaw21_MovesRings.l0 : Nat → Int → Int → List (S32) → Int → Option (Bool)
 | 0, _, _, _, _ => none
 | k + 1, x0, x1, x5, x6 => if x6 < x0 then (if x0 = 0 then (none) else (if x5.length < 8796093022208 then (spokeshavelaw21_MovesRings.l0 k x0 x1 (x5 ++ [(⟨x6, Int.tmod (wrap64 (x6 + 1)) x0⟩ : S32)]) (wrap64 (x6 + 1))) else (none))) else ((Mov.moves_Order.f k x5 99).bind fun bt105 => ((spokeshavelaw0_Low.f x1 x0).bind fun t109 => (if x5.length < 8796093022208 then ((Mov.moves_Order.f k (x5 ++ [(⟨50, t109⟩ : S32)]) 99).bind fun bt113 => (if bt105.2 = true then (if bt113.2 = true then (if (bt105.1.length : Int) = (wrap64 (x0 + 1)) then (if (bt113.1.length : Int) ≥ (wrap64 (x0 + 1)) then (if (bt113.1.length : Int) ≤ (wrap64 (x0 + 2)) then ((spokeshavelaw21_awake.f k).bind fun t117 => (some t117)) else (none)) else (none)) else (none)) else (none)) else (none))) else (none))))
def spokeshavelaw21_MovesRings.f (k : Nat) (a0 : Int) (a1 : Int) : Option (Bool) := (spokeshavelaw0_Low.f a0 19).bind fun t101 => (spokeshavelaw21_MovesRings.l0 k (wrap64 (2 + t101)) a1 ([] : List (S32)) 0)
theorem spokeshavelaw21_MovesRings.mono_l : ∀ k, (∀ y0 y1 y2 y3, LeO (spokeshavelaw21_MovesRings.l0 k y0 y1 y2 y3) (spokeshavelaw21_MovesRings.l0 (k + 1) y0 y1 y2 y3))
 | 0 => fun _ _ _ _ r h => by simp [spokeshavelaw21_MovesRings.l0] at h
 | k + 1 => by
  have ih0 := spokeshavelaw21_MovesRings.mono_l k
  ·
   intro y0 y1 y2 y3
   unfold spokeshavelaw21_MovesRings.l0
   repeat' first
   | (with_reducible exact ih0 _ _ _ _)
   | (with_reducible exact Mov.moves_Order.mono _ _ _)
   | (with_reducible exact spokeshavelaw21_awake.mono _)
   | (with_reducible exact LeO.refl _)
   | (with_reducible exact LeO.none _)
   | (with_reducible refine LeO.ite ?_ ?_)
   | (with_reducible refine LeO.bind ?_ (fun _ => ?_))
   | exact ih0 _ _ _ _
   | exact Mov.moves_Order.mono _ _ _
   | exact spokeshavelaw21_awake.mono _
   | exact LeO.none _
   | refine LeO.ite ?_ ?_
   | refine LeO.bind ?_ (fun _ => ?_)
theorem spokeshavelaw21_MovesRings.mono : ∀ a0 a1 k, LeO (spokeshavelaw21_MovesRings.f k a0 a1) (spokeshavelaw21_MovesRings.f (k + 1) a0 a1) := by
 intro a0 a1 k
 have ih0 := spokeshavelaw21_MovesRings.mono_l k
 unfold spokeshavelaw21_MovesRings.f
 repeat' first
   | (with_reducible exact ih0 _ _ _ _)
   | (with_reducible exact Mov.moves_Order.mono _ _ _)
   | (with_reducible exact spokeshavelaw21_awake.mono _)
   | (with_reducible exact LeO.refl _)
   | (with_reducible exact LeO.none _)
   | (with_reducible refine LeO.ite ?_ ?_)
   | (with_reducible refine LeO.bind ?_ (fun _ => ?_))
   | exact ih0 _ _ _ _
   | exact Mov.moves_Order.mono _ _ _
   | exact spokeshavelaw21_awake.mono _
   | exact LeO.none _
   | refine LeO.ite ?_ ?_
   | refine LeO.bind ?_ (fun _ => ?_)
set_option maxHeartbeats 8000000 in
set_option maxRecDepth 100000 in
theorem spokeshavelaw21_MovesRings.calls (k : Nat) (a0 : Int) (a1 : Int) (r : Bool) (w : World) (h : spokeshavelaw21_MovesRings.f k a0 a1 = some r) :
  Calls Try.prog 4 #[.int .i64 a0, .int .i64 a1] w fun e w' => e = .returned (.bool r) ∧ Below w.heap.size w w' := by
 have hu32 := Try.underlying32
 have HB := Aside0.mk (Below.refl w.heap.size w)
 have H : ((spokeshavelaw0_Low.f a0 19).bind fun t101 => (spokeshavelaw21_MovesRings.l0 k (wrap64 (2 + t101)) a1 ([] : List (S32)) 0)) = some r := h
 clear h
 replace H := Option.bind_eq_some_iff.mp H
 obtain ⟨t101, A30, H⟩ := H
 replace H : (spokeshavelaw21_MovesRings.l0 k (wrap64 (2 + t101)) a1 ([] : List (S32)) 0) = some r := H
 have A3 := Aside0.mk A30
 clear A30
 have H' := Aside0.mk H
 clear H
 go_enter Try.func4, Try.ntmps4
 go_wp2_with (first | ((with_reducible refine gate_callee (f := 15) rfl ?_); refine goesL_ (some 12) rfl rfl Try.func15 (by kernel_rfl) rfl #[.int .i64 a0, .int .i64 19] rfl (by (try simp only [List.map_toArray, List.map_cons, List.map_nil]); first | done | rfl | (simp only [List.length_drop, List.length_take]; rfl)) ?_; (with_reducible refine (spokeshavelaw0_Low.calls a0 19 t101 _ A3.out).mono ?_); rintro e w' ⟨rfl, ⟨nd, rfl⟩⟩; refine ⟨_, rfl, ?_⟩))
 go_loopg [5, 6] k (fun kq v5 v6 w' => ∃ (x5_1 : List (S32)) (x6_1 : Int), v6 = .int .i64 x6_1 ∧ Aside0 (spokeshavelaw21_MovesRings.l0 kq (wrap64 (2 + t101)) a1 x5_1 x6_1 = some r) ∧ Aside0 (kq ≤ k) ∧ Aside0 (Kd.R k32 32 w' w.heap.size (fun _ => True) v5 x5_1) ∧ Aside0 (Below w.heap.size w w'))
 case atStart => exact ⟨(([] : List (S32))), (0), (by first | rfl | (simp; done) | (simp [*]; done)), H', ⟨Nat.le_refl _⟩, ⟨by first | exact Kd.R_nil _ _ _ _ _ | exact Kd.N_nil _ _ _ _ _ | exact Kd.V_nil _ _ _ _ _ | exact Kd.Q_nil _ _ _ _ _ | exact Kd.S_nil _ _ _ _ _⟩, ⟨by repeat (first | (with_reducible first | exact HB.out | apply below_alloc | apply pw_below_drewN | apply below_drew1) | exact HB.out)⟩⟩
 case round =>
  clear H'
  try clear c1
  try clear p2
  obtain ⟨x5_1, x6_1, rfl, HA, HK1, HO_5, HB⟩ := hrel
  cases gk with
  | zero => exact absurd HA.out (by simp [spokeshavelaw21_MovesRings.l0])
  | succ k1 =>
   have H := HA.out
   clear HA
   simp only [spokeshavelaw21_MovesRings.l0] at H
   by_cases c4 : x6_1 < (wrap64 (2 + t101))
   ·
    rw [if_pos c4] at H
    have c4b0 : decide (x6_1 < (wrap64 (2 + t101))) = true := decide_eq_true c4
    clear c4
    by_cases c5 : (wrap64 (2 + t101)) = 0
    ·
     rw [if_pos c5] at H
     exact absurd H (by simp)
    ·
     rw [if_neg c5] at H
     have c5b0 : ((wrap64 (2 + t101)) == 0) = false := beq_eq_false_iff_ne.mpr c5
     have c5b1 : ((wrap64 (2 + t101)) != 0) = true := bne_iff_ne.mpr c5
     by_cases c6 : x5_1.length < 8796093022208
     case neg => rw [if_neg c6] at H; exact absurd H (by simp)
     rw [if_pos c6] at H
     have LMc6 := Aside0.mk c6
     clear c6
     obtain ⟨y102, hy102⟩ : ∃ y_ : List (S32), y_ = (x5_1 ++ [(⟨x6_1, Int.tmod (wrap64 (x6_1 + 1)) (wrap64 (2 + t101))⟩ : S32)]) := ⟨_, rfl⟩
     replace H : (spokeshavelaw21_MovesRings.l0 k1 (wrap64 (2 + t101)) a1 y102 (wrap64 (x6_1 + 1))) = some r := by first | (rw [hy102]; with_reducible exact H) | (have H2_ := (Option.bind_some _ _).symm.trans H; rw [hy102]; with_reducible exact H2_) | (have H2_ := (Option.bind_some _ _).symm.trans H; with_reducible exact H2_) | with_reducible exact H | (rw [hy102]; exact H) | exact H
     have Ny102 := Aside0.mk hy102
     clear hy102
     have H' := Aside0.mk H
     clear H
     go_wp2_with (first | ((with_reducible refine gate_builtin (b := .append) (xs := #[.tmp 19, .tmp 26]) rfl ?_); (try (refine gate_guard (by rfl) ?_; dsimp only)); at_builtin; refine Kd.R_append k32 (w0 := w) w.heap.size rfl (.tmp 19) (.tmp 26) 22 32 (.agg #[(.int .i64 0), (.int .i64 0)]) 16 rfl Try.underlying22 info32 rfl (by decide) (by omega) u5 x5_1 (⟨x6_1, Int.tmod (wrap64 (x6_1 + 1)) (wrap64 (2 + t101))⟩ : S32) [.int .i64 x6_1, .int .i64 (Int.tmod (wrap64 (x6_1 + 1)) (wrap64 (2 + t101)))] (fun _ => True) (fun _ => False) rfl rfl ?aP (fun _ hk => hk.elim) ?aF ?aO ?aB ?aS ?aL ?_; (case aP => exact k32_mkM _ _ _ (⟨x6_1, Int.tmod (wrap64 (x6_1 + 1)) (wrap64 (2 + t101))⟩ : S32)); (case aB => exact (by repeat (first | (with_reducible first | exact HB.out | apply below_alloc | apply pw_below_drewN | apply below_drew1) | exact HB.out))); (case aF => exact (fun _ _ => trivial)); (case aO => exact (by (with_reducible repeat (first | apply Kd.R_alloc | apply Kd.R_drewN | apply Kd.R_drew)); exact HO_5.out)); (case aS => exact (below_size (by repeat (first | (with_reducible first | exact HB.out | apply below_alloc | apply pw_below_drewN | apply below_drew1) | exact HB.out)))); (case aL => have := LMc6.out; omega); intro v103 w7 ho hb hg hat; rw [← Ny102.out] at ho; have n0_ := Aside0.mk (hb); have n1_ := Aside0.mk (ho); clear HB; clear HO_5; have HB := n0_; have HO104 := n1_; clear n0_ n1_; clear ho hb hg hat))
     go_roundg k1
     case measure => have := HK1.out; omega
     case rel => exact ⟨(y102), (wrap64 (x6_1 + 1)), (by first | rfl | (simp; done) | (simp [*]; done)), H', ⟨by have := HK1.out; omega⟩, ⟨by (with_reducible repeat (first | apply Kd.R_alloc | apply Kd.R_drewN | apply Kd.R_drew)); exact HO104.out⟩, ⟨by repeat (first | (with_reducible first | exact HB.out | apply below_alloc | apply pw_below_drewN | apply below_drew1) | exact HB.out)⟩⟩
   ·
    rw [if_neg c4] at H
    have c4b0 : decide (x6_1 < (wrap64 (2 + t101))) = false := decide_eq_false c4
    clear c4
    replace H := Option.bind_eq_some_iff.mp H
    obtain ⟨⟨t105, t106⟩, A80, H⟩ := H
    replace H : ((spokeshavelaw0_Low.f a1 (wrap64 (2 + t101))).bind fun t109 => (if x5_1.length < 8796093022208 then ((Mov.moves_Order.f k1 (x5_1 ++ [(⟨50, t109⟩ : S32)]) 99).bind fun bt113 => (if t106 = true then (if bt113.2 = true then (if (t105.length : Int) = (wrap64 ((wrap64 (2 + t101)) + 1)) then (if (bt113.1.length : Int) ≥ (wrap64 ((wrap64 (2 + t101)) + 1)) then (if (bt113.1.length : Int) ≤ (wrap64 ((wrap64 (2 + t101)) + 2)) then ((spokeshavelaw21_awake.f k1).bind fun t117 => (some t117)) else (none)) else (none)) else (none)) else (none)) else (none))) else (none))) = some r := H
    have A8 := Aside0.mk A80
    clear A80
    replace H := Option.bind_eq_some_iff.mp H
    obtain ⟨t109, A90, H⟩ := H
    replace H : (if x5_1.length < 8796093022208 then ((Mov.moves_Order.f k1 (x5_1 ++ [(⟨50, t109⟩ : S32)]) 99).bind fun bt113 => (if t106 = true then (if bt113.2 = true then (if (t105.length : Int) = (wrap64 ((wrap64 (2 + t101)) + 1)) then (if (bt113.1.length : Int) ≥ (wrap64 ((wrap64 (2 + t101)) + 1)) then (if (bt113.1.length : Int) ≤ (wrap64 ((wrap64 (2 + t101)) + 2)) then ((spokeshavelaw21_awake.f k1).bind fun t117 => (some t117)) else (none)) else (none)) else (none)) else (none)) else (none))) else (none)) = some r := H
    have A9 := Aside0.mk A90
    clear A90
    by_cases c10 : x5_1.length < 8796093022208
    case neg => rw [if_neg c10] at H; exact absurd H (by simp)
    rw [if_pos c10] at H
    have LMc10 := Aside0.mk c10
    clear c10
    obtain ⟨y110, hy110⟩ : ∃ y_ : List (S32), y_ = (x5_1 ++ [(⟨50, t109⟩ : S32)]) := ⟨_, rfl⟩
    replace H : ((Mov.moves_Order.f k1 y110 99).bind fun bt113 => (if t106 = true then (if bt113.2 = true then (if (t105.length : Int) = (wrap64 ((wrap64 (2 + t101)) + 1)) then (if (bt113.1.length : Int) ≥ (wrap64 ((wrap64 (2 + t101)) + 1)) then (if (bt113.1.length : Int) ≤ (wrap64 ((wrap64 (2 + t101)) + 2)) then ((spokeshavelaw21_awake.f k1).bind fun t117 => (some t117)) else (none)) else (none)) else (none)) else (none)) else (none))) = some r := by first | (rw [hy110]; with_reducible exact H) | (have H2_ := (Option.bind_some _ _).symm.trans H; rw [hy110]; with_reducible exact H2_) | (have H2_ := (Option.bind_some _ _).symm.trans H; with_reducible exact H2_) | with_reducible exact H | (rw [hy110]; exact H) | exact H
    have Ny110 := Aside0.mk hy110
    clear hy110
    replace H := Option.bind_eq_some_iff.mp H
    obtain ⟨⟨t113, t114⟩, A110, H⟩ := H
    replace H : (if t106 = true then (if t114 = true then (if (t105.length : Int) = (wrap64 ((wrap64 (2 + t101)) + 1)) then (if (t113.length : Int) ≥ (wrap64 ((wrap64 (2 + t101)) + 1)) then (if (t113.length : Int) ≤ (wrap64 ((wrap64 (2 + t101)) + 2)) then ((spokeshavelaw21_awake.f k1).bind fun t117 => (some t117)) else (none)) else (none)) else (none)) else (none)) else (none)) = some r := H
    have A11 := Aside0.mk A110
    clear A110
    by_cases c12 : t106 = true
    ·
     subst c12
     have H1 : (if t114 = true then (if (t105.length : Int) = (wrap64 ((wrap64 (2 + t101)) + 1)) then (if (t113.length : Int) ≥ (wrap64 ((wrap64 (2 + t101)) + 1)) then (if (t113.length : Int) ≤ (wrap64 ((wrap64 (2 + t101)) + 2)) then ((spokeshavelaw21_awake.f k1).bind fun t117 => (some t117)) else (none)) else (none)) else (none)) else (none)) = some r := by rw [if_pos rfl] at H; exact H
     clear H
     have H := H1
     clear H1
     by_cases c13 : t114 = true
     ·
      subst c13
      have H1 : (if (t105.length : Int) = (wrap64 ((wrap64 (2 + t101)) + 1)) then (if (t113.length : Int) ≥ (wrap64 ((wrap64 (2 + t101)) + 1)) then (if (t113.length : Int) ≤ (wrap64 ((wrap64 (2 + t101)) + 2)) then ((spokeshavelaw21_awake.f k1).bind fun t117 => (some t117)) else (none)) else (none)) else (none)) = some r := by rw [if_pos rfl] at H; exact H
      clear H
      have H := H1
      clear H1
      by_cases c14 : (t105.length : Int) = (wrap64 ((wrap64 (2 + t101)) + 1))
      case neg => rw [if_neg c14] at H; exact absurd H (by simp)
      rw [if_pos c14] at H
      have c14b0 : ((t105.length : Int) == (wrap64 ((wrap64 (2 + t101)) + 1))) = true := beq_iff_eq.mpr c14
      have c14b1 : ((t105.length : Int) != (wrap64 ((wrap64 (2 + t101)) + 1))) = false := bne_eq_false_iff_eq.mpr c14
      clear c14
      by_cases c15 : (t113.length : Int) ≥ (wrap64 ((wrap64 (2 + t101)) + 1))
      case neg => rw [if_neg c15] at H; exact absurd H (by simp)
      rw [if_pos c15] at H
      have c15b0 : decide ((wrap64 ((wrap64 (2 + t101)) + 1)) ≤ (t113.length : Int)) = true := decide_eq_true c15
      clear c15
      by_cases c16 : (t113.length : Int) ≤ (wrap64 ((wrap64 (2 + t101)) + 2))
      case neg => rw [if_neg c16] at H; exact absurd H (by simp)
      rw [if_pos c16] at H
      have c16b0 : decide ((t113.length : Int) ≤ (wrap64 ((wrap64 (2 + t101)) + 2))) = true := decide_eq_true c16
      clear c16
      replace H := Option.bind_eq_some_iff.mp H
      obtain ⟨t117, A170, H⟩ := H
      replace H : (some t117) = some r := H
      have A17 := Aside0.mk A170
      clear A170
      obtain rfl := Option.some.inj H
      obtain ⟨Ao18, co18, eo18⟩ := Kd.R_slice HO_5.out
      subst eo18
      go_wp2_with (first | ((with_reducible refine gate_callee (f := 7) rfl ?_); refine goesL_ (some 30) rfl rfl Try.func7 (by kernel_rfl) rfl #[.slice Ao18 x5_1.length co18, .int .i64 99] rfl (by (try simp only [List.map_toArray, List.map_cons, List.map_nil]); first | done | rfl | (simp only [List.length_drop, List.length_take]; rfl)) ?_; (with_reducible refine (Mov.moves_Order.calls k1 _ _ x5_1 99 t105 true _ ?side1 ?side2 A8.out).mono ?_); (case side1 => repeat (first | exact (Kd.R_reads' HO_5.out).2.2 | (with_reducible refine Kd.C_alloc ?_ _) | (with_reducible refine Kd.C_drewN ?_ _) | (with_reducible refine Kd.C_drew ?_))); (case side2 => exact (Kd.R_reads' HO_5.out).2.1); rintro e w19 ⟨v107, rfl, ho0, hb⟩; refine ⟨_, rfl, ?_⟩; have n0_ := Aside0.mk (Kd.R_elder' (by (with_reducible repeat (first | apply Kd.R_alloc | apply Kd.R_drewN | apply Kd.R_drew)); exact HO_5.out) (Kd.R_base ho0) hb); have n1_ := Aside0.mk (Kd.R_lower (Kd.R_new' ho0 (Kd.R_lt (by (with_reducible repeat (first | apply Kd.R_alloc | apply Kd.R_drewN | apply Kd.R_drew)); exact HO_5.out))) (below_size (by repeat (first | (with_reducible first | exact HB.out | apply below_alloc | apply pw_below_drewN | apply below_drew1) | exact HB.out)))); have n2_ := Aside0.mk (below_step (by repeat (first | (with_reducible first | exact HB.out | apply below_alloc | apply pw_below_drewN | apply below_drew1) | exact HB.out)) hb); clear HO_5; clear HB; have HO_5 := n0_; have HO108 := n1_; have HB := n2_; clear n0_ n1_ n2_; (try clear hb); (try clear hb2); (try clear hk); (try clear hi); (try clear ho0); obtain ⟨Ao20, co20, eo20⟩ := Kd.R_slice HO108.out; subst eo20) | ((with_reducible refine gate_callee (f := 15) rfl ?_); refine goesL_ (some 37) rfl rfl Try.func15 (by kernel_rfl) rfl #[.int .i64 a1, .int .i64 (wrap64 (2 + t101))] rfl (by (try simp only [List.map_toArray, List.map_cons, List.map_nil]); first | done | rfl | (simp only [List.length_drop, List.length_take]; rfl)) ?_; (with_reducible refine (spokeshavelaw0_Low.calls a1 (wrap64 (2 + t101)) t109 _ A9.out).mono ?_); rintro e w' ⟨rfl, ⟨nd, rfl⟩⟩; refine ⟨_, rfl, ?_⟩) | ((with_reducible refine gate_builtin (b := .append) (xs := #[.tmp 34, .tmp 39]) rfl ?_); (try (refine gate_guard (by rfl) ?_; dsimp only)); at_builtin; refine Kd.R_append k32 (w0 := w) w.heap.size rfl (.tmp 34) (.tmp 39) 22 32 (.agg #[(.int .i64 0), (.int .i64 0)]) 16 rfl Try.underlying22 info32 rfl (by decide) (by omega) (.slice Ao18 x5_1.length co18) x5_1 (⟨50, t109⟩ : S32) [.int .i64 50, .int .i64 t109] (fun k_ => some k_ ≠ (.slice Ao20 t105.length co20 : Value).ownBlock) (fun _ => False) rfl rfl ?aP (fun _ hk => hk.elim) ?aF ?aO ?aB ?aS ?aL ?_; (case aP => exact k32_mkM _ _ _ (⟨50, t109⟩ : S32)); (case aB => exact (by repeat (first | (with_reducible first | exact HB.out | apply below_alloc | apply pw_below_drewN | apply below_drew1) | exact HB.out))); (case aF => exact (fun k_ hk => Kd.fresh' (Kd.R_lt (by (with_reducible repeat (first | apply Kd.R_alloc | apply Kd.R_drewN | apply Kd.R_drew)); exact HO108.out)) k_ hk)); (case aO => exact (by (with_reducible repeat (first | apply Kd.R_alloc | apply Kd.R_drewN | apply Kd.R_drew)); exact Kd.R_mono HO_5.out (fun _ hk => hk.2))); (case aS => exact (below_size (by repeat (first | (with_reducible first | exact HB.out | apply below_alloc | apply pw_below_drewN | apply below_drew1) | exact HB.out)))); (case aL => have := LMc10.out; omega); intro v111 w21 ho hb hg hat; rw [← Ny110.out] at ho; have n0_ := Aside0.mk (Kd.R_after (ok := (fun _ => True)) (by (with_reducible repeat (first | apply Kd.R_alloc | apply Kd.R_drewN | apply Kd.R_drew)); exact HO108.out) hg hat); have n1_ := Aside0.mk (hb); have n2_ := Aside0.mk (ho); clear HO108; clear HB; clear HO_5; have HO108 := n0_; have HB := n1_; have HO112 := n2_; clear n0_ n1_ n2_; clear ho hb hg hat; obtain ⟨Ao22, co22, eo22⟩ := Kd.R_slice HO112.out; subst eo22) | ((with_reducible refine gate_callee (f := 7) rfl ?_); refine goesL_ (some 41) rfl rfl Try.func7 (by kernel_rfl) rfl #[.slice Ao22 y110.length co22, .int .i64 99] rfl (by (try simp only [List.map_toArray, List.map_cons, List.map_nil]); first | done | rfl | (simp only [List.length_drop, List.length_take]; rfl)) ?_; (with_reducible refine (Mov.moves_Order.calls k1 _ _ y110 99 t113 true _ ?side1 ?side2 A11.out).mono ?_); (case side1 => repeat (first | exact (Kd.R_reads' HO112.out).2.2 | (with_reducible refine Kd.C_alloc ?_ _) | (with_reducible refine Kd.C_drewN ?_ _) | (with_reducible refine Kd.C_drew ?_))); (case side2 => exact (Kd.R_reads' HO112.out).2.1); rintro e w23 ⟨v115, rfl, ho0, hb⟩; refine ⟨_, rfl, ?_⟩; have n0_ := Aside0.mk (Kd.R_elder' (by (with_reducible repeat (first | apply Kd.R_alloc | apply Kd.R_drewN | apply Kd.R_drew)); exact HO108.out) (Kd.R_base ho0) hb); have n1_ := Aside0.mk (Kd.R_elder' (by (with_reducible repeat (first | apply Kd.R_alloc | apply Kd.R_drewN | apply Kd.R_drew)); exact HO112.out) (Kd.R_base ho0) hb); have n2_ := Aside0.mk (Kd.R_lower (Kd.R_new' (Kd.R_new' ho0 (Kd.R_lt (by (with_reducible repeat (first | apply Kd.R_alloc | apply Kd.R_drewN | apply Kd.R_drew)); exact HO108.out))) (Kd.R_lt (by (with_reducible repeat (first | apply Kd.R_alloc | apply Kd.R_drewN | apply Kd.R_drew)); exact HO112.out))) (below_size (by repeat (first | (with_reducible first | exact HB.out | apply below_alloc | apply pw_below_drewN | apply below_drew1) | exact HB.out)))); have n3_ := Aside0.mk (below_step (by repeat (first | (with_reducible first | exact HB.out | apply below_alloc | apply pw_below_drewN | apply below_drew1) | exact HB.out)) hb); clear HO108; clear HO112; clear HB; have HO108 := n0_; have HO112 := n1_; have HO116 := n2_; have HB := n3_; clear n0_ n1_ n2_ n3_; (try clear hb); (try clear hb2); (try clear hk); (try clear hi); (try clear ho0); obtain ⟨Ao24, co24, eo24⟩ := Kd.R_slice HO116.out; subst eo24) | (go_at_call 6; (with_reducible refine (spokeshavelaw21_awake.calls k1  t117 _ A17.out).mono ?_); rintro e w25 ⟨rfl, hb⟩; have n0_ := Aside0.mk (Kd.R_below (by (with_reducible repeat (first | apply Kd.R_alloc | apply Kd.R_drewN | apply Kd.R_drew)); exact HO108.out) hb); have n1_ := Aside0.mk (Kd.R_below (by (with_reducible repeat (first | apply Kd.R_alloc | apply Kd.R_drewN | apply Kd.R_drew)); exact HO112.out) hb); have n2_ := Aside0.mk (Kd.R_below (by (with_reducible repeat (first | apply Kd.R_alloc | apply Kd.R_drewN | apply Kd.R_drew)); exact HO116.out) hb); have n3_ := Aside0.mk (below_step (by repeat (first | (with_reducible first | exact HB.out | apply below_alloc | apply pw_below_drewN | apply below_drew1) | exact HB.out)) hb); clear HO108; clear HO112; clear HO116; clear HB; have HO108 := n0_; have HO112 := n1_; have HO116 := n2_; have HB := n3_; clear n0_ n1_ n2_ n3_; (try clear hb); (try clear hb2); (try clear hk); (try clear hi)))
      go_ret
      exact ⟨by first | rfl | (simp [errW_none, errW_some] <;> rfl) | (simp [*, errW_none, errW_some] <;> rfl), by repeat (first | (with_reducible first | exact HB.out | apply below_alloc | apply pw_below_drewN | apply below_drew1) | exact HB.out)⟩
     ·
      replace c13 := Bool.eq_false_iff.mpr c13
      subst c13
      have H1 : (none) = some r := by rw [if_neg (show ¬ (false = true) by decide)] at H; exact H
      clear H
      have H := H1
      clear H1
      exact absurd H (by simp)
    ·
     replace c12 := Bool.eq_false_iff.mpr c12
     subst c12
     have H1 : (none) = some r := by rw [if_neg (show ¬ (false = true) by decide)] at H; exact H
     clear H
     have H := H1
     clear H1
     exact absurd H (by simp)

/-- THE ONE PURE STATEMENT of spokeshavelaw21_MovesRings: yours. -/
def spokeshavelaw21_MovesRings.Pure : Prop := ∀ (a0 : Int) (a1 : Int), (Lit.int .i64 a0).wf = true → (Lit.int .i64 a1).wf = true → ∃ k, spokeshavelaw21_MovesRings.f k a0 a1 = some true
theorem spokeshavelaw21_MovesRings.walk (P : spokeshavelaw21_MovesRings.Pure) (a0 : Int) (a1 : Int) (w : World) (w0 : (Lit.int .i64 a0).wf = true) (w1 : (Lit.int .i64 a1).wf = true) :
  Calls Try.prog 4 #[.int .i64 a0, .int .i64 a1] w fun e w' => e = .returned (.bool true) ∧ Below w.heap.size w w' := by
 obtain ⟨k, h⟩ := P a0 a1 w0 w1
 refine (spokeshavelaw21_MovesRings.calls k a0 a1 true w h).mono ?_
 rintro e w' ⟨rfl, hd⟩
 exact ⟨rfl, hd⟩

end Go.Proofs.Ytodnbclphjgofaa.PMov
