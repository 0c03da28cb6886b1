-- PRINTED by print.py (a twelfth state) out of the translation. Not trusted: Lean checks it.
import Derived.Test.YthkcdmkimnockaaDoorPWordx0
import Derived.Test.YthkcdmkimnockaaDoorPWordx2
import Derived.Test.YthkcdmkimnockaaDoorPWordx5
import Derived.Test.YthkcdmkimnockaaDoorPWordx10
import Derived.Test.YthkcdmkimnockaaDoorPWordx12
import Derived.Test.YthkcdmkimnockaaDoorPWordx14
namespace Go.Proofs.YthkcdmkimnockaaDoor.PWord
open Go.RowKit Go.Proofs.YthkcdmkimnockaaDoorW.PrintWords Go.Proofs.YthkcdmkimnockaaDoorW.PrintLast Go.Proofs.YthkcdmkimnockaaDoorW.PrintMore
attribute [local go_sem] max2_int min2_int max_two min_two max_three min_three max_four min_four   -- for this text's walks alone
set_option linter.unusedVariables false
set_option linter.unusedSimpArgs false

/-! ### spokeshavelaw1_WordTurns: function 7 -/
def spokeshavelaw1_WordTurns.j0 : Nat → Int → Bool → Int → Bool → Option (Bool)
 | 0, _, _, _, _ => none
 | k + 1, x2, x47, x336000, x336001 => if x47 = true then (none) else ((word_Wrap.f x336000 x336001 x2).bind fun t339 => (if x336000 < 32 then ((word_Binary.f k x336000 x336001 1 1 1).bind fun bt340 => (if bt340.2 = true then (none) else ((word_Invert.f x336000 x336001 x2).bind fun t342 => (if t342 = 0 then ((spokeshavelaw1_awake.f k).bind fun t343 => (some t343)) else (none))))) else ((word_Binary.f k x336000 x336001 2 t339 t339).bind fun bt344 => ((word_Binary.f k x336000 x336001 1 t339 t339).bind fun bt346 => ((word_Binary.f k x336000 x336001 3 t339 2).bind fun bt348 => ((word_Binary.f k x336000 x336001 10 t339 t339).bind fun bt350 => ((word_Invert.f x336000 x336001 t339).bind fun t352 => ((word_Invert.f x336000 x336001 t352).bind fun t353 => (if t353 = t339 then (if bt344.1 = 0 then (if bt344.2 = true then (if bt346.1 = bt348.1 then (if (bt346.2 == bt348.2) = true then (if bt350.1 = 0 then (if bt350.2 = true then ((spokeshavelaw1_awake.f k).bind fun t354 => (some t354)) else (none)) else (none)) else (none)) else (none)) else (none)) else (none)) else (none))))))))))
def spokeshavelaw1_WordTurns.f (k : Nat) (a0 : Int) (a1 : Int) (a2 : Int) : Option (Bool) := (spokeshavelaw1_widths.f k).bind fun t327 => ((spokeshavelaw0_Low.f a0 8).bind fun t330 => (if 0 ≤ t330 then (if t330 < (t327.length : Int) then ((spokeshavelaw0_Low.f a1 8).bind fun t332 => (if 0 ≤ t332 then (if t332 < (t327.length : Int) then (if ((rd_T26 t327 t330).f0) ≥ ((rd_T26 t327 t332).f0) then ((word_Wrap.f ((rd_T26 t327 t330).f0) ((rd_T26 t327 t330).f1) a2).bind fun t336 => ((word_Wrap.f ((rd_T26 t327 t332).f0) ((rd_T26 t327 t332).f1) t336).bind fun t337 => ((word_Wrap.f ((rd_T26 t327 t332).f0) ((rd_T26 t327 t332).f1) a2).bind fun t338 => (spokeshavelaw1_WordTurns.j0 k a2 (t337 != t338) ((rd_T26 t327 t332).f0) ((rd_T26 t327 t332).f1))))) else (spokeshavelaw1_WordTurns.j0 k a2 false ((rd_T26 t327 t332).f0) ((rd_T26 t327 t332).f1))) else (none)) else (none))) else (none)) else (none)))
theorem spokeshavelaw1_WordTurns.mono_l : ∀ k, (∀ y0 y1 y2 y3, LeO (spokeshavelaw1_WordTurns.j0 k y0 y1 y2 y3) (spokeshavelaw1_WordTurns.j0 (k + 1) y0 y1 y2 y3))
 | 0 => fun _ _ _ _ r h => by simp [spokeshavelaw1_WordTurns.j0] at h
 | k + 1 => by
  have ih0 := spokeshavelaw1_WordTurns.mono_l k
  ·
   intro y0 y1 y2 y3
   unfold spokeshavelaw1_WordTurns.j0
   repeat' first
   | (with_reducible exact ih0 _ _ _ _)
   | (with_reducible exact spokeshavelaw1_awake.mono _)
   | (with_reducible exact spokeshavelaw1_widths.mono _)
   | (with_reducible exact word_Binary.mono _ _ _ _ _ _)
   | (with_reducible exact LeO.refl _)
   | (with_reducible exact LeO.none _)
   | (with_reducible refine LeO.ite ?_ ?_)
   | (with_reducible refine LeO.bind ?_ (fun _ => ?_))
   | exact ih0 _ _ _ _
   | exact spokeshavelaw1_awake.mono _
   | exact spokeshavelaw1_widths.mono _
   | exact word_Binary.mono _ _ _ _ _ _
   | exact LeO.none _
   | refine LeO.ite ?_ ?_
   | refine LeO.bind ?_ (fun _ => ?_)
theorem spokeshavelaw1_WordTurns.mono : ∀ a0 a1 a2 k, LeO (spokeshavelaw1_WordTurns.f k a0 a1 a2) (spokeshavelaw1_WordTurns.f (k + 1) a0 a1 a2) := by
 intro a0 a1 a2 k
 have ih0 := spokeshavelaw1_WordTurns.mono_l k
 unfold spokeshavelaw1_WordTurns.f
 repeat' first
   | (with_reducible exact ih0 _ _ _ _)
   | (with_reducible exact spokeshavelaw1_awake.mono _)
   | (with_reducible exact spokeshavelaw1_widths.mono _)
   | (with_reducible exact word_Binary.mono _ _ _ _ _ _)
   | (with_reducible exact LeO.refl _)
   | (with_reducible exact LeO.none _)
   | (with_reducible refine LeO.ite ?_ ?_)
   | (with_reducible refine LeO.bind ?_ (fun _ => ?_))
   | exact ih0 _ _ _ _
   | exact spokeshavelaw1_awake.mono _
   | exact spokeshavelaw1_widths.mono _
   | exact word_Binary.mono _ _ _ _ _ _
   | exact LeO.none _
   | refine LeO.ite ?_ ?_
   | refine LeO.bind ?_ (fun _ => ?_)
def spokeshavelaw1_WordTurns.T2 : Bool × List (List Nat × List Nat) := (true, [([], []), ([], []), ([1], [1]), ([0, 2], [0, 2]), ([3], [3]), ([], []), ([], []), ([6, 2], [6]), ([5, 7], [5, 7]), ([8], [8]), ([], []), ([], []), ([10, 4, 7, 0, 1, 2, 3, 4, 10, 11], [4, 10]), ([11, 9, 12, 0, 1, 2, 3, 4, 5, 6, 7, 8, 9, 10, 11, 12], [9, 11])])
def spokeshavelaw1_WordTurns.B2 : List Nat := [0, 0, 2, 7, 15, 0, 0, 70, 230, 486, 0, 0, 3295, 8191]
theorem spokeshavelaw1_WordTurns.tab2 : rtab .any (opsOf Tryd.f7 2) = spokeshavelaw1_WordTurns.T2 := by kernel_rfl
theorem spokeshavelaw1_WordTurns.bits2 : waitsOk spokeshavelaw1_WordTurns.T2.2 spokeshavelaw1_WordTurns.B2 = true := by kernel_rfl
def spokeshavelaw1_WordTurns.T3 : Bool × List (List Nat × List Nat) := (true, [([], []), ([0], [0]), ([], []), ([2], [2]), ([1, 3], [1, 3]), ([4], [4]), ([5], [5]), ([5], [5]), ([5], [5]), ([7, 8, 5, 5], [5, 7, 8]), ([6, 9, 9, 5], [5, 6, 9]), ([5], [5]), ([5], [5]), ([11, 12, 10, 5], [5, 11, 12]), ([10, 13, 5], [5, 10, 13]), ([5, 14], [5, 14])])
def spokeshavelaw1_WordTurns.B3 : List Nat := [0, 1, 0, 4, 15, 31, 63, 63, 63, 447, 1023, 63, 63, 8191, 16383, 32767]
theorem spokeshavelaw1_WordTurns.tab3 : rtab .any (opsOf Tryd.f7 3) = spokeshavelaw1_WordTurns.T3 := by kernel_rfl
theorem spokeshavelaw1_WordTurns.bits3 : waitsOk spokeshavelaw1_WordTurns.T3.2 spokeshavelaw1_WordTurns.B3 = true := by kernel_rfl
def spokeshavelaw1_WordTurns.T13 : Bool × List (List Nat × List Nat) := (true, [([], []), ([], []), ([], []), ([1, 2], [1, 2]), ([0, 3, 3], [0, 3]), ([], []), ([4, 5], [4, 5]), ([6, 4], [6]), ([7], [7]), ([8, 7], [7, 8]), ([7, 9], [7, 9]), ([10, 7], [10]), ([11], [11]), ([11, 12], [11, 12]), ([13, 11], [13]), ([14], [14]), ([14], [14]), ([15, 16, 14], [14, 15, 16]), ([14, 17], [14, 17]), ([18, 14], [18]), ([19], [19]), ([19], [19]), ([20, 21, 19], [19, 20, 21]), ([19, 22], [19, 22]), ([23, 19], [23]), ([24], [24]), ([25, 24], [24, 25]), ([24, 26], [24, 26]), ([27, 24], [27]), ([28], [28]), ([28, 29], [28, 29]), ([30, 28], [30]), ([31, 31], [31]), ([31, 32], [31, 32]), ([33, 32, 0, 1, 2, 3, 4, 5, 6, 7, 8, 9, 10, 11, 12, 13, 14, 15, 16, 17, 18, 19, 20, 21, 22, 23, 24, 25, 26, 27, 28, 29, 30, 31, 32, 33], [33])])
def spokeshavelaw1_WordTurns.B13 : List Nat := [0, 0, 0, 6, 15, 0, 63, 127, 255, 511, 1023, 2047, 4095, 8191, 16383, 32767, 32767, 131071, 262143, 524287, 1048575, 1048575, 4194303, 8388607, 16777215, 33554431, 67108863, 134217727, 268435455, 536870911, 1073741823, 2147483647, 4294967295, 8589934591, 17179869183]
theorem spokeshavelaw1_WordTurns.tab13 : rtab .any (opsOf Tryd.f7 13) = spokeshavelaw1_WordTurns.T13 := by kernel_rfl
theorem spokeshavelaw1_WordTurns.bits13 : waitsOk spokeshavelaw1_WordTurns.T13.2 spokeshavelaw1_WordTurns.B13 = true := by kernel_rfl
set_option maxHeartbeats 8000000 in
set_option maxRecDepth 100000 in
theorem spokeshavelaw1_WordTurns.calls (k : Nat) (a0 : Int) (a1 : Int) (a2 : Int) (r : Bool) (w : World) (h : spokeshavelaw1_WordTurns.f k a0 a1 a2 = some r) :
  Calls Tryd.prog 7 #[.int .i64 a0, .int .i64 a1, .int .i64 a2] w fun e w' => e = .returned (.bool r) ∧ Below w.heap.size w w' := by
 have hu26 := Tryd.underlying26
 have HB := Aside0.mk (Below.refl w.heap.size w)
 have H : ((spokeshavelaw1_widths.f k).bind fun t327 => ((spokeshavelaw0_Low.f a0 8).bind fun t330 => (if 0 ≤ t330 then (if t330 < (t327.length : Int) then ((spokeshavelaw0_Low.f a1 8).bind fun t332 => (if 0 ≤ t332 then (if t332 < (t327.length : Int) then (if ((rd_T26 t327 t330).f0) ≥ ((rd_T26 t327 t332).f0) then ((word_Wrap.f ((rd_T26 t327 t330).f0) ((rd_T26 t327 t330).f1) a2).bind fun t336 => ((word_Wrap.f ((rd_T26 t327 t332).f0) ((rd_T26 t327 t332).f1) t336).bind fun t337 => ((word_Wrap.f ((rd_T26 t327 t332).f0) ((rd_T26 t327 t332).f1) a2).bind fun t338 => (spokeshavelaw1_WordTurns.j0 k a2 (t337 != t338) ((rd_T26 t327 t332).f0) ((rd_T26 t327 t332).f1))))) else (spokeshavelaw1_WordTurns.j0 k a2 false ((rd_T26 t327 t332).f0) ((rd_T26 t327 t332).f1))) else (none)) else (none))) else (none)) else (none)))) = some r := h
 clear h
 replace H := Option.bind_eq_some_iff.mp H
 obtain ⟨t327, A40, H⟩ := H
 replace H : ((spokeshavelaw0_Low.f a0 8).bind fun t330 => (if 0 ≤ t330 then (if t330 < (t327.length : Int) then ((spokeshavelaw0_Low.f a1 8).bind fun t332 => (if 0 ≤ t332 then (if t332 < (t327.length : Int) then (if ((rd_T26 t327 t330).f0) ≥ ((rd_T26 t327 t332).f0) then ((word_Wrap.f ((rd_T26 t327 t330).f0) ((rd_T26 t327 t330).f1) a2).bind fun t336 => ((word_Wrap.f ((rd_T26 t327 t332).f0) ((rd_T26 t327 t332).f1) t336).bind fun t337 => ((word_Wrap.f ((rd_T26 t327 t332).f0) ((rd_T26 t327 t332).f1) a2).bind fun t338 => (spokeshavelaw1_WordTurns.j0 k a2 (t337 != t338) ((rd_T26 t327 t332).f0) ((rd_T26 t327 t332).f1))))) else (spokeshavelaw1_WordTurns.j0 k a2 false ((rd_T26 t327 t332).f0) ((rd_T26 t327 t332).f1))) else (none)) else (none))) else (none)) else (none))) = some r := H
 have A4 := Aside0.mk A40
 clear A40
 replace H := Option.bind_eq_some_iff.mp H
 obtain ⟨t330, A50, H⟩ := H
 replace H : (if 0 ≤ t330 then (if t330 < (t327.length : Int) then ((spokeshavelaw0_Low.f a1 8).bind fun t332 => (if 0 ≤ t332 then (if t332 < (t327.length : Int) then (if ((rd_T26 t327 t330).f0) ≥ ((rd_T26 t327 t332).f0) then ((word_Wrap.f ((rd_T26 t327 t330).f0) ((rd_T26 t327 t330).f1) a2).bind fun t336 => ((word_Wrap.f ((rd_T26 t327 t332).f0) ((rd_T26 t327 t332).f1) t336).bind fun t337 => ((word_Wrap.f ((rd_T26 t327 t332).f0) ((rd_T26 t327 t332).f1) a2).bind fun t338 => (spokeshavelaw1_WordTurns.j0 k a2 (t337 != t338) ((rd_T26 t327 t332).f0) ((rd_T26 t327 t332).f1))))) else (spokeshavelaw1_WordTurns.j0 k a2 false ((rd_T26 t327 t332).f0) ((rd_T26 t327 t332).f1))) else (none)) else (none))) else (none)) else (none)) = some r := H
 have A5 := Aside0.mk A50
 clear A50
 by_cases c6 : 0 ≤ t330
 case neg => rw [if_neg c6] at H; exact absurd H (by simp)
 rw [if_pos c6] at H
 have c6b0 : decide (0 ≤ t330) = true := decide_eq_true c6
 clear c6
 by_cases c7 : t330 < (t327.length : Int)
 case neg => rw [if_neg c7] at H; exact absurd H (by simp)
 rw [if_pos c7] at H
 have c7b0 : decide (t330 < (t327.length : Int)) = true := decide_eq_true c7
 clear c7
 replace H := Option.bind_eq_some_iff.mp H
 obtain ⟨t332, A80, H⟩ := H
 replace H : (if 0 ≤ t332 then (if t332 < (t327.length : Int) then (if ((rd_T26 t327 t330).f0) ≥ ((rd_T26 t327 t332).f0) then ((word_Wrap.f ((rd_T26 t327 t330).f0) ((rd_T26 t327 t330).f1) a2).bind fun t336 => ((word_Wrap.f ((rd_T26 t327 t332).f0) ((rd_T26 t327 t332).f1) t336).bind fun t337 => ((word_Wrap.f ((rd_T26 t327 t332).f0) ((rd_T26 t327 t332).f1) a2).bind fun t338 => (spokeshavelaw1_WordTurns.j0 k a2 (t337 != t338) ((rd_T26 t327 t332).f0) ((rd_T26 t327 t332).f1))))) else (spokeshavelaw1_WordTurns.j0 k a2 false ((rd_T26 t327 t332).f0) ((rd_T26 t327 t332).f1))) else (none)) else (none)) = some r := H
 have A8 := Aside0.mk A80
 clear A80
 by_cases c9 : 0 ≤ t332
 case neg => rw [if_neg c9] at H; exact absurd H (by simp)
 rw [if_pos c9] at H
 have c9b0 : decide (0 ≤ t332) = true := decide_eq_true c9
 clear c9
 by_cases c10 : t332 < (t327.length : Int)
 case neg => rw [if_neg c10] at H; exact absurd H (by simp)
 rw [if_pos c10] at H
 have c10b0 : decide (t332 < (t327.length : Int)) = true := decide_eq_true c10
 clear c10
 have HC11 := Aside0.mk H
 clear H
 go_enter Tryd.func7, Tryd.ntmps7
 try go_wp2_with (first | ((with_reducible refine gate_callee (f := 10) rfl ?_); refine goesL_ (some 21) rfl rfl Tryd.func10 (by kernel_rfl) rfl #[] rfl (by (try simp only [List.map_toArray, List.map_cons, List.map_nil]); first | done | rfl | (simp only [List.length_drop, List.length_take]; rfl)) ?_; (with_reducible refine (spokeshavelaw1_widths.calls k  t327 _ A4.out).mono ?_); rintro e w12 ⟨v328, rfl, ho0, hb⟩; refine ⟨_, rfl, ?_⟩; have n0_ := Aside0.mk (Kd.R_lower ho0 (below_size (by repeat (first | (with_reducible first | exact HB.out | apply below_alloc | apply pw_below_drewN | apply below_drew1) | exact HB.out)))); have n1_ := Aside0.mk (below_step (by repeat (first | (with_reducible first | exact HB.out | apply below_alloc | apply pw_below_drewN | apply below_drew1) | exact HB.out)) hb); clear HB; have HO329 := n0_; have HB := n1_; clear n0_ n1_; (try clear hb); (try clear hb2); (try clear hk); (try clear hi); (try clear ho0); obtain ⟨Ao13, co13, eo13⟩ := Kd.R_slice HO329.out; subst eo13))
 have n0_ := Aside0.mk (Kd.R_drew HO329.out)
 have n1_ := Aside0.mk (below_drew1 HB.out)
 clear HO329
 clear HB
 have HO329 := n0_
 have HB := n1_
 clear n0_ n1_
 have p331 : 0 ≤ (t330 : Int) := of_decide_eq_true (by first | (with_reducible assumption) | assumption)
 have q331 : t330 < (t327.length : Int) := of_decide_eq_true (by first | (with_reducible assumption) | assumption)
 obtain ⟨ad331, e331, hx331_0, hx331_1⟩ := at_T26 (Kd.R_reads' HO329.out).2.2 t330 p331 q331
 cases e331
 replace p331 := eq_true p331
 replace q331 := eq_true q331
 have p333 : 0 ≤ (t332 : Int) := of_decide_eq_true (by first | (with_reducible assumption) | assumption)
 have q333 : t332 < (t327.length : Int) := of_decide_eq_true (by first | (with_reducible assumption) | assumption)
 obtain ⟨ad333, e333, hx333_0, hx333_1⟩ := at_T26 (Kd.R_reads' HO329.out).2.2 t332 p333 q333
 obtain rfl : ad331 = ad333 := (by injection e333)
 replace p333 := eq_true p333
 replace q333 := eq_true q333
 refine start_ (n := 14) (S := fun w' => w'.cell? (ad331.add ((t330).toNat * 2)) = some (.int .i64 ((rd_T26 t327 t330).f0)) ∧ w'.cell? ⟨(ad331.add ((t330).toNat * 2)).block, (ad331.add ((t330).toNat * 2)).off + 1, none⟩ = some (.bool ((rd_T26 t327 t330).f1)) ∧ w'.cell? (ad331.add ((t332).toNat * 2)) = some (.int .i64 ((rd_T26 t327 t332).f0)) ∧ w'.cell? ⟨(ad331.add ((t332).toNat * 2)).block, (ad331.add ((t332).toNat * 2)).off + 1, none⟩ = some (.bool ((rd_T26 t327 t332).f1))) (ds := []) #[false,false,false,false,false,false,false,false,false,false,false,false,false,false] (by kernel_rfl) rfl rfl ⟨hx331_0, hx331_1, hx333_0, hx333_1⟩ (fun hHeld => ?_); refine with_tabW spokeshavelaw1_WordTurns.tab2 spokeshavelaw1_WordTurns.bits2 (fun HT_ HW_ => ?_)
 generalize w12.drew = w14 at HO329 HB hx331_0 hx331_1 hx333_0 hx333_1 hHeld ⊢
 refine pure_ (i := 0) (N := some 22) (v := ?_) (a' := ?_) #[true,false,false,false,false,false,false,false,false,false,false,false,false,false] rfl rfl (any_of HT_.out (by kernel_rfl)) (fun _ _ _ h => h) (Or.inl ⟨by rfl, ?_⟩) ?_ ?_
 rotate_left
 ·
  intro w'
  go_simp
  with_reducible rfl
 rotate_left
 ·
  simp only [Act.put, List.setIfInBounds_toArray, List.set_cons_zero, List.set_cons_succ, i64_w, i32_w]
  rfl
 refine pure_ (i := 1) (N := some 23) (v := ?_) (a' := ?_) #[true,true,false,false,false,false,false,false,false,false,false,false,false,false] rfl rfl (any_of HT_.out (by kernel_rfl)) (fun _ _ _ h => h) (Or.inl ⟨by rfl, ?_⟩) ?_ ?_
 rotate_left
 ·
  intro w'
  go_simp
  with_reducible rfl
 rotate_left
 ·
  simp only [Act.put, List.setIfInBounds_toArray, List.set_cons_zero, List.set_cons_succ, i64_w, i32_w]
  rfl
 refine pure_ (i := 5) (N := some 27) (v := ?_) (a' := ?_) #[true,true,false,false,false,true,false,false,false,false,false,false,false,false] rfl rfl (any_of HT_.out (by kernel_rfl)) (fun _ _ _ h => h) (Or.inl ⟨by rfl, ?_⟩) ?_ ?_
 rotate_left
 ·
  intro w'
  go_simp
  with_reducible rfl
 rotate_left
 ·
  simp only [Act.put, List.setIfInBounds_toArray, List.set_cons_zero, List.set_cons_succ, i64_w, i32_w]
  rfl
 refine pure_ (i := 6) (N := some 28) (v := ?_) (a' := ?_) #[true,true,false,false,false,true,true,false,false,false,false,false,false,false] rfl rfl (any_of HT_.out (by kernel_rfl)) (fun _ _ _ h => h) (Or.inl ⟨by rfl, ?_⟩) ?_ ?_
 rotate_left
 ·
  intro w'
  go_simp
  with_reducible rfl
 rotate_left
 ·
  simp only [Act.put, List.setIfInBounds_toArray, List.set_cons_zero, List.set_cons_succ, i64_w, i32_w]
  rfl
 refine join_ (σ := Nat × Nat) 2 #[true,true,true,true,true,true,true,true,true,true,true,true,false,false] (fun s_ => [(24, .int .i64 t330), (29, .int .i64 t332), (8, .pointer (some ⟨s_.1, 0, none⟩)), (9, .pointer (some ⟨s_.2, 0, none⟩)), (25, .pointer (some (ad331.add ((t330).toNat * 2)))), (26, .agg #[.int .i64 ((rd_T26 t327 t330).f0), .bool ((rd_T26 t327 t330).f1)]), (30, .pointer (some (ad331.add ((t332).toNat * 2)))), (31, .agg #[.int .i64 ((rd_T26 t327 t332).f0), .bool ((rd_T26 t327 t332).f1)])]) (fun s_ w' => (w'.cell? (ad331.add ((t330).toNat * 2)) = some (.int .i64 ((rd_T26 t327 t330).f0)) ∧ w'.cell? ⟨(ad331.add ((t330).toNat * 2)).block, (ad331.add ((t330).toNat * 2)).off + 1, none⟩ = some (.bool ((rd_T26 t327 t330).f1)) ∧ w'.cell? (ad331.add ((t332).toNat * 2)) = some (.int .i64 ((rd_T26 t327 t332).f0)) ∧ w'.cell? ⟨(ad331.add ((t332).toNat * 2)).block, (ad331.add ((t332).toNat * 2)).off + 1, none⟩ = some (.bool ((rd_T26 t327 t332).f1))) ∧ (Kd.R k26 26 w' w.heap.size (fun k_ => k_ ≠ s_.1 ∧ k_ ≠ s_.2) (.slice (some ad331) t327.length co13) t327) ∧ (w'.heap[s_.1]? = some (.cells #[.int .i64 0, .bool false] 26 (0, 0))) ∧ (w'.heap[s_.2]? = some (.cells #[.int .i64 0, .bool false] 26 (0, 0))) ∧ (w.heap.size ≤ s_.1) ∧ (w.heap.size ≤ s_.1) ∧ (s_.2 ≠ s_.1) ∧ (s_.1 ≠ s_.2) ∧ (w.heap.size ≤ s_.2) ∧ (w.heap.size ≤ s_.2) ∧ (Below w.heap.size w w')) ?_ ?_
 rotate_left
 ·
  intro hJ2_7_10_11
  refine join_ (σ := Nat) 3 #[true,true,true,true,true,true,true,true,true,true,true,false,false,false] (fun s_ => [(24, .int .i64 t330), (29, .int .i64 t332), (8, .pointer (some ⟨s_, 0, none⟩)), (25, .pointer (some (ad331.add ((t330).toNat * 2)))), (26, .agg #[.int .i64 ((rd_T26 t327 t330).f0), .bool ((rd_T26 t327 t330).f1)]), (30, .pointer (some (ad331.add ((t332).toNat * 2)))), (31, .agg #[.int .i64 ((rd_T26 t327 t332).f0), .bool ((rd_T26 t327 t332).f1)])]) (fun s_ w' => (w'.cell? (ad331.add ((t330).toNat * 2)) = some (.int .i64 ((rd_T26 t327 t330).f0)) ∧ w'.cell? ⟨(ad331.add ((t330).toNat * 2)).block, (ad331.add ((t330).toNat * 2)).off + 1, none⟩ = some (.bool ((rd_T26 t327 t330).f1)) ∧ w'.cell? (ad331.add ((t332).toNat * 2)) = some (.int .i64 ((rd_T26 t327 t332).f0)) ∧ w'.cell? ⟨(ad331.add ((t332).toNat * 2)).block, (ad331.add ((t332).toNat * 2)).off + 1, none⟩ = some (.bool ((rd_T26 t327 t332).f1))) ∧ (Kd.R k26 26 w' w.heap.size (fun k_ => k_ ≠ s_) (.slice (some ad331) t327.length co13) t327) ∧ (w'.heap[s_]? = some (.cells #[.int .i64 0, .bool false] 26 (0, 0))) ∧ (w.heap.size ≤ s_) ∧ (w.heap.size ≤ s_) ∧ (Below w.heap.size w w')) ?_ ?_
  rotate_left
  ·
   intro hJ2_7_10
   refine join_ (σ := Nat) 3 #[true,true,true,true,true,true,true,true,true,true,false,true,false,false] (fun s_ => [(24, .int .i64 t330), (29, .int .i64 t332), (9, .pointer (some ⟨s_, 0, none⟩)), (25, .pointer (some (ad331.add ((t330).toNat * 2)))), (26, .agg #[.int .i64 ((rd_T26 t327 t330).f0), .bool ((rd_T26 t327 t330).f1)]), (30, .pointer (some (ad331.add ((t332).toNat * 2)))), (31, .agg #[.int .i64 ((rd_T26 t327 t332).f0), .bool ((rd_T26 t327 t332).f1)])]) (fun s_ w' => (w'.cell? (ad331.add ((t330).toNat * 2)) = some (.int .i64 ((rd_T26 t327 t330).f0)) ∧ w'.cell? ⟨(ad331.add ((t330).toNat * 2)).block, (ad331.add ((t330).toNat * 2)).off + 1, none⟩ = some (.bool ((rd_T26 t327 t330).f1)) ∧ w'.cell? (ad331.add ((t332).toNat * 2)) = some (.int .i64 ((rd_T26 t327 t332).f0)) ∧ w'.cell? ⟨(ad331.add ((t332).toNat * 2)).block, (ad331.add ((t332).toNat * 2)).off + 1, none⟩ = some (.bool ((rd_T26 t327 t332).f1))) ∧ (Kd.R k26 26 w' w.heap.size (fun k_ => k_ ≠ s_) (.slice (some ad331) t327.length co13) t327) ∧ (w'.heap[s_]? = some (.cells #[.int .i64 0, .bool false] 26 (0, 0))) ∧ (w.heap.size ≤ s_) ∧ (w.heap.size ≤ s_) ∧ (Below w.heap.size w w')) ?_ ?_
   rotate_left
   ·
    intro hJ2_7_11
    refine join_ (σ := Nat × Nat) 5 #[true,true,true,true,true,true,true,false,false,false,true,true,false,false] (fun s_ => [(24, .int .i64 t330), (8, .pointer (some ⟨s_.1, 0, none⟩)), (9, .pointer (some ⟨s_.2, 0, none⟩)), (25, .pointer (some (ad331.add ((t330).toNat * 2)))), (26, .agg #[.int .i64 ((rd_T26 t327 t330).f0), .bool ((rd_T26 t327 t330).f1)])]) (fun s_ w' => (w'.cell? (ad331.add ((t330).toNat * 2)) = some (.int .i64 ((rd_T26 t327 t330).f0)) ∧ w'.cell? ⟨(ad331.add ((t330).toNat * 2)).block, (ad331.add ((t330).toNat * 2)).off + 1, none⟩ = some (.bool ((rd_T26 t327 t330).f1)) ∧ w'.cell? (ad331.add ((t332).toNat * 2)) = some (.int .i64 ((rd_T26 t327 t332).f0)) ∧ w'.cell? ⟨(ad331.add ((t332).toNat * 2)).block, (ad331.add ((t332).toNat * 2)).off + 1, none⟩ = some (.bool ((rd_T26 t327 t332).f1))) ∧ (Kd.R k26 26 w' w.heap.size (fun k_ => k_ ≠ s_.1 ∧ k_ ≠ s_.2) (.slice (some ad331) t327.length co13) t327) ∧ (w'.heap[s_.1]? = some (.cells #[.int .i64 0, .bool false] 26 (0, 0))) ∧ (w'.heap[s_.2]? = some (.cells #[.int .i64 0, .bool false] 26 (0, 0))) ∧ (w.heap.size ≤ s_.1) ∧ (w.heap.size ≤ s_.1) ∧ (s_.2 ≠ s_.1) ∧ (s_.1 ≠ s_.2) ∧ (w.heap.size ≤ s_.2) ∧ (w.heap.size ≤ s_.2) ∧ (Below w.heap.size w w')) ?_ ?_
    rotate_left
    ·
     intro hJ2_10_11
     refine join_ (σ := Unit) 4 #[true,true,true,true,true,true,true,true,true,true,false,false,false,false] (fun s_ => [(24, .int .i64 t330), (29, .int .i64 t332), (25, .pointer (some (ad331.add ((t330).toNat * 2)))), (26, .agg #[.int .i64 ((rd_T26 t327 t330).f0), .bool ((rd_T26 t327 t330).f1)]), (30, .pointer (some (ad331.add ((t332).toNat * 2)))), (31, .agg #[.int .i64 ((rd_T26 t327 t332).f0), .bool ((rd_T26 t327 t332).f1)])]) (fun s_ w' => (w'.cell? (ad331.add ((t330).toNat * 2)) = some (.int .i64 ((rd_T26 t327 t330).f0)) ∧ w'.cell? ⟨(ad331.add ((t330).toNat * 2)).block, (ad331.add ((t330).toNat * 2)).off + 1, none⟩ = some (.bool ((rd_T26 t327 t330).f1)) ∧ w'.cell? (ad331.add ((t332).toNat * 2)) = some (.int .i64 ((rd_T26 t327 t332).f0)) ∧ w'.cell? ⟨(ad331.add ((t332).toNat * 2)).block, (ad331.add ((t332).toNat * 2)).off + 1, none⟩ = some (.bool ((rd_T26 t327 t332).f1))) ∧ (Kd.R k26 26 w' w.heap.size (fun _ => True) (.slice (some ad331) t327.length co13) t327) ∧ (Below w.heap.size w w')) ?_ ?_
     rotate_left
     ·
      intro hJ2_7
      refine join_ (σ := Nat) 6 #[true,true,true,true,true,true,true,false,false,false,true,false,false,false] (fun s_ => [(24, .int .i64 t330), (8, .pointer (some ⟨s_, 0, none⟩)), (25, .pointer (some (ad331.add ((t330).toNat * 2)))), (26, .agg #[.int .i64 ((rd_T26 t327 t330).f0), .bool ((rd_T26 t327 t330).f1)])]) (fun s_ w' => (w'.cell? (ad331.add ((t330).toNat * 2)) = some (.int .i64 ((rd_T26 t327 t330).f0)) ∧ w'.cell? ⟨(ad331.add ((t330).toNat * 2)).block, (ad331.add ((t330).toNat * 2)).off + 1, none⟩ = some (.bool ((rd_T26 t327 t330).f1)) ∧ w'.cell? (ad331.add ((t332).toNat * 2)) = some (.int .i64 ((rd_T26 t327 t332).f0)) ∧ w'.cell? ⟨(ad331.add ((t332).toNat * 2)).block, (ad331.add ((t332).toNat * 2)).off + 1, none⟩ = some (.bool ((rd_T26 t327 t332).f1))) ∧ (Kd.R k26 26 w' w.heap.size (fun k_ => k_ ≠ s_) (.slice (some ad331) t327.length co13) t327) ∧ (w'.heap[s_]? = some (.cells #[.int .i64 0, .bool false] 26 (0, 0))) ∧ (w.heap.size ≤ s_) ∧ (w.heap.size ≤ s_) ∧ (Below w.heap.size w w')) ?_ ?_
      rotate_left
      ·
       intro hJ2_10
       refine join_ (σ := Nat) 6 #[true,true,true,true,true,true,true,false,false,false,false,true,false,false] (fun s_ => [(24, .int .i64 t330), (9, .pointer (some ⟨s_, 0, none⟩)), (25, .pointer (some (ad331.add ((t330).toNat * 2)))), (26, .agg #[.int .i64 ((rd_T26 t327 t330).f0), .bool ((rd_T26 t327 t330).f1)])]) (fun s_ w' => (w'.cell? (ad331.add ((t330).toNat * 2)) = some (.int .i64 ((rd_T26 t327 t330).f0)) ∧ w'.cell? ⟨(ad331.add ((t330).toNat * 2)).block, (ad331.add ((t330).toNat * 2)).off + 1, none⟩ = some (.bool ((rd_T26 t327 t330).f1)) ∧ w'.cell? (ad331.add ((t332).toNat * 2)) = some (.int .i64 ((rd_T26 t327 t332).f0)) ∧ w'.cell? ⟨(ad331.add ((t332).toNat * 2)).block, (ad331.add ((t332).toNat * 2)).off + 1, none⟩ = some (.bool ((rd_T26 t327 t332).f1))) ∧ (Kd.R k26 26 w' w.heap.size (fun k_ => k_ ≠ s_) (.slice (some ad331) t327.length co13) t327) ∧ (w'.heap[s_]? = some (.cells #[.int .i64 0, .bool false] 26 (0, 0))) ∧ (w.heap.size ≤ s_) ∧ (w.heap.size ≤ s_) ∧ (Below w.heap.size w w')) ?_ ?_
       rotate_left
       ·
        intro hJ2_11
        refine join_ (σ := Nat × Nat) 8 #[true,true,false,false,false,true,true,false,false,false,true,true,false,false] (fun s_ => [(8, .pointer (some ⟨s_.1, 0, none⟩)), (9, .pointer (some ⟨s_.2, 0, none⟩))]) (fun s_ w' => (w'.cell? (ad331.add ((t330).toNat * 2)) = some (.int .i64 ((rd_T26 t327 t330).f0)) ∧ w'.cell? ⟨(ad331.add ((t330).toNat * 2)).block, (ad331.add ((t330).toNat * 2)).off + 1, none⟩ = some (.bool ((rd_T26 t327 t330).f1)) ∧ w'.cell? (ad331.add ((t332).toNat * 2)) = some (.int .i64 ((rd_T26 t327 t332).f0)) ∧ w'.cell? ⟨(ad331.add ((t332).toNat * 2)).block, (ad331.add ((t332).toNat * 2)).off + 1, none⟩ = some (.bool ((rd_T26 t327 t332).f1))) ∧ (Kd.R k26 26 w' w.heap.size (fun k_ => k_ ≠ s_.1 ∧ k_ ≠ s_.2) (.slice (some ad331) t327.length co13) t327) ∧ (w'.heap[s_.1]? = some (.cells #[.int .i64 0, .bool false] 26 (0, 0))) ∧ (w'.heap[s_.2]? = some (.cells #[.int .i64 0, .bool false] 26 (0, 0))) ∧ (w.heap.size ≤ s_.1) ∧ (w.heap.size ≤ s_.1) ∧ (s_.2 ≠ s_.1) ∧ (s_.1 ≠ s_.2) ∧ (w.heap.size ≤ s_.2) ∧ (w.heap.size ≤ s_.2) ∧ (Below w.heap.size w w')) ?_ ?_
        rotate_left
        ·
         intro hJ10_11
         refine join_ (σ := Unit) 7 #[true,true,true,true,true,true,true,false,false,false,false,false,false,false] (fun s_ => [(24, .int .i64 t330), (25, .pointer (some (ad331.add ((t330).toNat * 2)))), (26, .agg #[.int .i64 ((rd_T26 t327 t330).f0), .bool ((rd_T26 t327 t330).f1)])]) (fun s_ w' => (w'.cell? (ad331.add ((t330).toNat * 2)) = some (.int .i64 ((rd_T26 t327 t330).f0)) ∧ w'.cell? ⟨(ad331.add ((t330).toNat * 2)).block, (ad331.add ((t330).toNat * 2)).off + 1, none⟩ = some (.bool ((rd_T26 t327 t330).f1)) ∧ w'.cell? (ad331.add ((t332).toNat * 2)) = some (.int .i64 ((rd_T26 t327 t332).f0)) ∧ w'.cell? ⟨(ad331.add ((t332).toNat * 2)).block, (ad331.add ((t332).toNat * 2)).off + 1, none⟩ = some (.bool ((rd_T26 t327 t332).f1))) ∧ (Kd.R k26 26 w' w.heap.size (fun _ => True) (.slice (some ad331) t327.length co13) t327) ∧ (Below w.heap.size w w')) ?_ ?_
         rotate_left
         ·
          intro hJ2
          refine join_ (σ := Nat) 9 #[true,true,false,false,false,true,true,false,false,false,true,false,false,false] (fun s_ => [(8, .pointer (some ⟨s_, 0, none⟩))]) (fun s_ w' => (w'.cell? (ad331.add ((t330).toNat * 2)) = some (.int .i64 ((rd_T26 t327 t330).f0)) ∧ w'.cell? ⟨(ad331.add ((t330).toNat * 2)).block, (ad331.add ((t330).toNat * 2)).off + 1, none⟩ = some (.bool ((rd_T26 t327 t330).f1)) ∧ w'.cell? (ad331.add ((t332).toNat * 2)) = some (.int .i64 ((rd_T26 t327 t332).f0)) ∧ w'.cell? ⟨(ad331.add ((t332).toNat * 2)).block, (ad331.add ((t332).toNat * 2)).off + 1, none⟩ = some (.bool ((rd_T26 t327 t332).f1))) ∧ (Kd.R k26 26 w' w.heap.size (fun k_ => k_ ≠ s_) (.slice (some ad331) t327.length co13) t327) ∧ (w'.heap[s_]? = some (.cells #[.int .i64 0, .bool false] 26 (0, 0))) ∧ (w.heap.size ≤ s_) ∧ (w.heap.size ≤ s_) ∧ (Below w.heap.size w w')) ?_ ?_
          rotate_left
          ·
           intro hJ10
           refine join_ (σ := Nat) 9 #[true,true,false,false,false,true,true,false,false,false,false,true,false,false] (fun s_ => [(9, .pointer (some ⟨s_, 0, none⟩))]) (fun s_ w' => (w'.cell? (ad331.add ((t330).toNat * 2)) = some (.int .i64 ((rd_T26 t327 t330).f0)) ∧ w'.cell? ⟨(ad331.add ((t330).toNat * 2)).block, (ad331.add ((t330).toNat * 2)).off + 1, none⟩ = some (.bool ((rd_T26 t327 t330).f1)) ∧ w'.cell? (ad331.add ((t332).toNat * 2)) = some (.int .i64 ((rd_T26 t327 t332).f0)) ∧ w'.cell? ⟨(ad331.add ((t332).toNat * 2)).block, (ad331.add ((t332).toNat * 2)).off + 1, none⟩ = some (.bool ((rd_T26 t327 t332).f1))) ∧ (Kd.R k26 26 w' w.heap.size (fun k_ => k_ ≠ s_) (.slice (some ad331) t327.length co13) t327) ∧ (w'.heap[s_]? = some (.cells #[.int .i64 0, .bool false] 26 (0, 0))) ∧ (w.heap.size ≤ s_) ∧ (w.heap.size ≤ s_) ∧ (Below w.heap.size w w')) ?_ ?_
           rotate_left
           ·
            intro hJ11
            refine three_ (i := 2) (j := 10) (k := 11) (Ni := some 24) (Nj := some 8) (Nk := some 9) #[true,true,true,false,false,true,true,false,false,false,false,false,false,false] #[true,true,false,false,false,true,true,false,false,false,true,false,false,false] #[true,true,false,false,false,true,true,false,false,false,false,true,false,false] rfl rfl rfl rfl rfl rfl (three_of HT_.out (by kernel_rfl)) (by decide) (by decide) (by decide) (fun K hK => ?_) (fun K hK => ?_) (fun K hK => ?_)
            ·
             skip
             refine goes_ Tryd.func17 (by kernel_rfl) rfl #[.int .i64 a0, .int .i64 8] (by rfl) rfl rfl (by (try simp only [List.map_toArray, List.map_cons, List.map_nil]); first | done | rfl | (simp only [List.length_drop, List.length_take]; rfl)) ?_
             with_reducible refine (spokeshavelaw0_Low.calls a0 8 t330 _ A5.out).mono ?_
             rintro e w' ⟨rfl, ⟨nd, rfl⟩⟩
             refine ⟨_, rfl, ?_⟩
             refine hK.out _ _ ⟨hHeld.1, hHeld.2.1, hHeld.2.2.1, hHeld.2.2.2⟩ (fun hHeld => ?_)
             clear hK K
             refine norm_ (a' := ?_) ?_ ?_
             rotate_left
             ·
              show Act.put _ (some 24) _ = _
              simp only [Act.put, List.setIfInBounds_toArray, List.set_cons_zero, List.set_cons_succ, i64_w, i32_w]
              rfl
             refine pure_ (i := 3) (N := some 25) (v := ?_) (a' := ?_) #[true,true,true,true,false,true,true,false,false,false,false,false,false,false] rfl rfl (any_of HT_.out (by kernel_rfl)) (fun _ _ _ h => h) (Or.inl ⟨by rfl, ?_⟩) ?_ ?_
             rotate_left
             ·
              intro w'
              go_simp
              with_reducible rfl
             rotate_left
             ·
              simp only [Act.put, List.setIfInBounds_toArray, List.set_cons_zero, List.set_cons_succ, i64_w, i32_w]
              rfl
             refine take_ (i := 4) (N := some 26) (v := ?_) (a' := ?_) #[true,true,true,true,true,true,true,false,false,false,false,false,false,false] rfl rfl (take_ofW HT_.out HW_.out (by kernel_rfl)) (fun _ _ _ h => h) (Or.inl ⟨by rfl, ?_⟩) hHeld ?_ ?_
             rotate_left
             ·
              rintro w' ⟨s0, s1, s2, s3⟩
              go_simp
              with_reducible rfl
             rotate_left
             ·
              simp only [Act.put, List.setIfInBounds_toArray, List.set_cons_zero, List.set_cons_succ, i64_w, i32_w]
              rfl
             exact norm_ (by first | (simp only [putAll, Act.put, List.setIfInBounds_toArray, List.set_cons_zero, List.set_cons_succ]; done) | (simp only [putAll, Act.put, List.setIfInBounds_toArray, List.set_cons_zero, List.set_cons_succ]; rfl)) (hJ2 () _ ⟨hHeld, (by (with_reducible repeat (first | apply Kd.R_alloc | apply Kd.R_drewN | apply Kd.R_drew)); exact HO329.out), (by repeat (first | (with_reducible first | exact HB.out | apply below_alloc | apply pw_below_drewN | apply below_drew1) | exact HB.out))⟩)
            ·
             skip
             refine box_step ?hg (N := 8) ?hd (cs := #[.int .i64 0, .bool false]) (t := 26) ?hr ?_; (case hd => rfl); (case hg => rfl); (case hr => first | (go_simp; done) | (go_simp; rfl))
             intro gb334 hg w15 hbox hb
             have HS0_ := (hb.cell (World.block_lt_of_cell? _ _ (hHeld.1))).trans (hHeld.1)
             have HS1_ := (hb.cell (World.block_lt_of_cell? _ _ (hHeld.2.1))).trans (hHeld.2.1)
             have HS2_ := (hb.cell (World.block_lt_of_cell? _ _ (hHeld.2.2.1))).trans (hHeld.2.2.1)
             have HS3_ := (hb.cell (World.block_lt_of_cell? _ _ (hHeld.2.2.2))).trans (hHeld.2.2.2)
             have n0_ := Aside0.mk (Kd.R_below (Kd.R_elderB (by (with_reducible repeat (first | apply Kd.R_alloc | apply Kd.R_drewN | apply Kd.R_drew)); exact HO329.out) gb334 (Nat.le_of_eq hg.symm)) hb)
             have n1_ := Aside0.mk (below_step (by repeat (first | (with_reducible first | exact HB.out | apply below_alloc | apply pw_below_drewN | apply below_drew1) | exact HB.out)) hb)
             have n2_ := Aside0.mk (hbox)
             have n3_ := Aside0.mk ((by rw [hg]; exact (below_size (by repeat (first | (with_reducible first | exact HB.out | apply below_alloc | apply pw_below_drewN | apply below_drew1) | exact HB.out))) : w.heap.size ≤ gb334))
             have n4_ := Aside0.mk ((by rw [hg]; exact (below_size (by repeat (first | (with_reducible first | exact HB.out | apply below_alloc | apply pw_below_drewN | apply below_drew1) | exact HB.out))) : w.heap.size ≤ gb334))
             clear HO329
             clear HB
             have HO329 := n0_
             have HB := n1_
             have BK334 := n2_
             have GW334 := n3_
             have GE334 := n4_
             clear n0_ n1_ n2_ n3_ n4_
             clear hb hbox hg
             refine hK.out _ _ ⟨HS0_, HS1_, HS2_, HS3_⟩ (fun hHeld => ?_)
             clear hK K
             refine norm_ (a' := ?_) ?_ ?_
             rotate_left
             ·
              show Act.put _ (some 8) _ = _
              simp only [Act.put, List.setIfInBounds_toArray, List.set_cons_zero, List.set_cons_succ, i64_w, i32_w]
              rfl
             exact norm_ (by first | (simp only [putAll, Act.put, List.setIfInBounds_toArray, List.set_cons_zero, List.set_cons_succ]; done) | (simp only [putAll, Act.put, List.setIfInBounds_toArray, List.set_cons_zero, List.set_cons_succ]; rfl)) (hJ10 (gb334) _ ⟨hHeld, (by (with_reducible repeat (first | apply Kd.R_alloc | apply Kd.R_drewN | apply Kd.R_drew)); exact Kd.R_mono HO329.out (fun _ hk => hk.2)), (by (with_reducible repeat (first | refine blk_drewN ?_ _ | refine blk_drew ?_ | refine blk_alloc ?_ _)); exact BK334.out), GW334.out, GE334.out, (by repeat (first | (with_reducible first | exact HB.out | apply below_alloc | apply pw_below_drewN | apply below_drew1 | refine below_set ?_ GE334.out) | exact HB.out))⟩)
            ·
             skip
             refine box_step ?hg (N := 9) ?hd (cs := #[.int .i64 0, .bool false]) (t := 26) ?hr ?_; (case hd => rfl); (case hg => rfl); (case hr => first | (go_simp; done) | (go_simp; rfl))
             intro gb335 hg w15 hbox hb
             have HS0_ := (hb.cell (World.block_lt_of_cell? _ _ (hHeld.1))).trans (hHeld.1)
             have HS1_ := (hb.cell (World.block_lt_of_cell? _ _ (hHeld.2.1))).trans (hHeld.2.1)
             have HS2_ := (hb.cell (World.block_lt_of_cell? _ _ (hHeld.2.2.1))).trans (hHeld.2.2.1)
             have HS3_ := (hb.cell (World.block_lt_of_cell? _ _ (hHeld.2.2.2))).trans (hHeld.2.2.2)
             have n0_ := Aside0.mk (Kd.R_below (Kd.R_elderB (by (with_reducible repeat (first | apply Kd.R_alloc | apply Kd.R_drewN | apply Kd.R_drew)); exact HO329.out) gb335 (Nat.le_of_eq hg.symm)) hb)
             have n1_ := Aside0.mk (below_step (by repeat (first | (with_reducible first | exact HB.out | apply below_alloc | apply pw_below_drewN | apply below_drew1) | exact HB.out)) hb)
             have n2_ := Aside0.mk (hbox)
             have n3_ := Aside0.mk ((by rw [hg]; exact (below_size (by repeat (first | (with_reducible first | exact HB.out | apply below_alloc | apply pw_below_drewN | apply below_drew1) | exact HB.out))) : w.heap.size ≤ gb335))
             have n4_ := Aside0.mk ((by rw [hg]; exact (below_size (by repeat (first | (with_reducible first | exact HB.out | apply below_alloc | apply pw_below_drewN | apply below_drew1) | exact HB.out))) : w.heap.size ≤ gb335))
             clear HO329
             clear HB
             have HO329 := n0_
             have HB := n1_
             have BK335 := n2_
             have GW335 := n3_
             have GE335 := n4_
             clear n0_ n1_ n2_ n3_ n4_
             clear hb hbox hg
             refine hK.out _ _ ⟨HS0_, HS1_, HS2_, HS3_⟩ (fun hHeld => ?_)
             clear hK K
             refine norm_ (a' := ?_) ?_ ?_
             rotate_left
             ·
              show Act.put _ (some 9) _ = _
              simp only [Act.put, List.setIfInBounds_toArray, List.set_cons_zero, List.set_cons_succ, i64_w, i32_w]
              rfl
             exact norm_ (by first | (simp only [putAll, Act.put, List.setIfInBounds_toArray, List.set_cons_zero, List.set_cons_succ]; done) | (simp only [putAll, Act.put, List.setIfInBounds_toArray, List.set_cons_zero, List.set_cons_succ]; rfl)) (hJ11 (gb335) _ ⟨hHeld, (by (with_reducible repeat (first | apply Kd.R_alloc | apply Kd.R_drewN | apply Kd.R_drew)); exact Kd.R_mono HO329.out (fun _ hk => hk.2)), (by (with_reducible repeat (first | refine blk_drewN ?_ _ | refine blk_drew ?_ | refine blk_alloc ?_ _)); exact BK335.out), GW335.out, GE335.out, (by repeat (first | (with_reducible first | exact HB.out | apply below_alloc | apply pw_below_drewN | apply below_drew1 | refine below_set ?_ GE335.out) | exact HB.out))⟩)
           ·
            skip
            rintro gb335 w16 ⟨hS_, h0_, h1_, h2_, h3_, h4_⟩
            have n0_ : Aside0 (Kd.R k26 26 w16 w.heap.size (fun k_ => k_ ≠ gb335) (.slice (some ad331) t327.length co13) t327) := ⟨h0_⟩
            have n1_ : Aside0 (w16.heap[gb335]? = some (.cells #[.int .i64 0, .bool false] 26 (0, 0))) := ⟨h1_⟩
            have n2_ : Aside0 (w.heap.size ≤ gb335) := ⟨h2_⟩
            have n3_ : Aside0 (w.heap.size ≤ gb335) := ⟨h3_⟩
            have n4_ : Aside0 (Below w.heap.size w w16) := ⟨h4_⟩
            clear HO329
            clear HB
            clear h0_ h1_ h2_ h3_ h4_
            have HO329 := n0_
            have BK335 := n1_
            have GW335 := n2_
            have GE335 := n3_
            have HB := n4_
            clear n0_ n1_ n2_ n3_ n4_
            have hHeld : w16.cell? (ad331.add ((t330).toNat * 2)) = some (.int .i64 ((rd_T26 t327 t330).f0)) ∧ w16.cell? ⟨(ad331.add ((t330).toNat * 2)).block, (ad331.add ((t330).toNat * 2)).off + 1, none⟩ = some (.bool ((rd_T26 t327 t330).f1)) ∧ w16.cell? (ad331.add ((t332).toNat * 2)) = some (.int .i64 ((rd_T26 t327 t332).f0)) ∧ w16.cell? ⟨(ad331.add ((t332).toNat * 2)).block, (ad331.add ((t332).toNat * 2)).off + 1, none⟩ = some (.bool ((rd_T26 t327 t332).f1)) := hS_
            refine norm_ (a' := ?_) ?_ ?_
            rotate_left
            ·
             simp only [putAll, Act.put, List.setIfInBounds_toArray, List.set_cons_zero, List.set_cons_succ]
             rfl
            refine two_ (i := 2) (j := 10) (Ni := some 24) (Nj := some 8) #[true,true,true,false,false,true,true,false,false,false,false,true,false,false] #[true,true,false,false,false,true,true,false,false,false,true,true,false,false] rfl rfl rfl rfl (two_of HT_.out (by kernel_rfl)) (by decide) (by decide) (fun K hK => ?_) (fun K hK => ?_)
            ·
             skip
             refine goes_ Tryd.func17 (by kernel_rfl) rfl #[.int .i64 a0, .int .i64 8] (by rfl) rfl rfl (by (try simp only [List.map_toArray, List.map_cons, List.map_nil]); first | done | rfl | (simp only [List.length_drop, List.length_take]; rfl)) ?_
             with_reducible refine (spokeshavelaw0_Low.calls a0 8 t330 _ A5.out).mono ?_
             rintro e w' ⟨rfl, ⟨nd, rfl⟩⟩
             refine ⟨_, rfl, ?_⟩
             refine hK.out _ _ ⟨hHeld.1, hHeld.2.1, hHeld.2.2.1, hHeld.2.2.2⟩ (fun hHeld => ?_)
             clear hK K
             refine norm_ (a' := ?_) ?_ ?_
             rotate_left
             ·
              show Act.put _ (some 24) _ = _
              simp only [Act.put, List.setIfInBounds_toArray, List.set_cons_zero, List.set_cons_succ, i64_w, i32_w]
              rfl
             refine pure_ (i := 3) (N := some 25) (v := ?_) (a' := ?_) #[true,true,true,true,false,true,true,false,false,false,false,true,false,false] rfl rfl (any_of HT_.out (by kernel_rfl)) (fun _ _ _ h => h) (Or.inl ⟨by rfl, ?_⟩) ?_ ?_
             rotate_left
             ·
              intro w'
              go_simp
              with_reducible rfl
             rotate_left
             ·
              simp only [Act.put, List.setIfInBounds_toArray, List.set_cons_zero, List.set_cons_succ, i64_w, i32_w]
              rfl
             refine take_ (i := 4) (N := some 26) (v := ?_) (a' := ?_) #[true,true,true,true,true,true,true,false,false,false,false,true,false,false] rfl rfl (take_ofW HT_.out HW_.out (by kernel_rfl)) (fun _ _ _ h => h) (Or.inl ⟨by rfl, ?_⟩) hHeld ?_ ?_
             rotate_left
             ·
              rintro w' ⟨s0, s1, s2, s3⟩
              go_simp
              with_reducible rfl
             rotate_left
             ·
              simp only [Act.put, List.setIfInBounds_toArray, List.set_cons_zero, List.set_cons_succ, i64_w, i32_w]
              rfl
             exact norm_ (by first | (simp only [putAll, Act.put, List.setIfInBounds_toArray, List.set_cons_zero, List.set_cons_succ]; done) | (simp only [putAll, Act.put, List.setIfInBounds_toArray, List.set_cons_zero, List.set_cons_succ]; rfl)) (hJ2_11 (gb335) _ ⟨hHeld, (by (with_reducible repeat (first | apply Kd.R_alloc | apply Kd.R_drewN | apply Kd.R_drew)); exact HO329.out), (by (with_reducible repeat (first | refine blk_drewN ?_ _ | refine blk_drew ?_ | refine blk_alloc ?_ _)); exact BK335.out), GW335.out, GE335.out, (by repeat (first | (with_reducible first | exact HB.out | apply below_alloc | apply pw_below_drewN | apply below_drew1 | refine below_set ?_ GE335.out) | exact HB.out))⟩)
            ·
             skip
             refine box_step ?hg (N := 8) ?hd (cs := #[.int .i64 0, .bool false]) (t := 26) ?hr ?_; (case hd => rfl); (case hg => rfl); (case hr => first | (go_simp; done) | (go_simp; rfl))
             intro gb334 hg w17 hbox hb
             have HS0_ := (hb.cell (World.block_lt_of_cell? _ _ (hHeld.1))).trans (hHeld.1)
             have HS1_ := (hb.cell (World.block_lt_of_cell? _ _ (hHeld.2.1))).trans (hHeld.2.1)
             have HS2_ := (hb.cell (World.block_lt_of_cell? _ _ (hHeld.2.2.1))).trans (hHeld.2.2.1)
             have HS3_ := (hb.cell (World.block_lt_of_cell? _ _ (hHeld.2.2.2))).trans (hHeld.2.2.2)
             have n0_ := Aside0.mk (Kd.R_below (Kd.R_elderB (by (with_reducible repeat (first | apply Kd.R_alloc | apply Kd.R_drewN | apply Kd.R_drew)); exact HO329.out) gb334 (Nat.le_of_eq hg.symm)) hb)
             have n1_ := Aside0.mk (blk_below (g := gb335) (o := .cells #[.int .i64 0, .bool false] 26 (0, 0)) (by (with_reducible repeat (first | refine blk_drewN ?_ _ | refine blk_drew ?_ | refine blk_alloc ?_ _)); exact BK335.out) hb)
             have n2_ := Aside0.mk (below_step (by repeat (first | (with_reducible first | exact HB.out | apply below_alloc | apply pw_below_drewN | apply below_drew1 | refine below_set ?_ GE335.out) | exact HB.out)) hb)
             have n3_ := Aside0.mk (hbox)
             have n4_ := Aside0.mk ((by rw [hg]; exact (below_size (by repeat (first | (with_reducible first | exact HB.out | apply below_alloc | apply pw_below_drewN | apply below_drew1 | refine below_set ?_ GE335.out) | exact HB.out))) : w.heap.size ≤ gb334))
             have n5_ := Aside0.mk ((by rw [hg]; exact (below_size (by repeat (first | (with_reducible first | exact HB.out | apply below_alloc | apply pw_below_drewN | apply below_drew1 | refine below_set ?_ GE335.out) | exact HB.out))) : w.heap.size ≤ gb334))
             have n6_ := Aside0.mk ((by rw [hg]; exact Nat.ne_of_lt (blk_lt (g := gb335) (o := .cells #[.int .i64 0, .bool false] 26 (0, 0)) (by (with_reducible repeat (first | refine blk_drewN ?_ _ | refine blk_drew ?_ | refine blk_alloc ?_ _)); exact BK335.out)) : gb335 ≠ gb334))
             have n7_ := Aside0.mk ((by rw [hg]; exact Nat.ne_of_gt (blk_lt (g := gb335) (o := .cells #[.int .i64 0, .bool false] 26 (0, 0)) (by (with_reducible repeat (first | refine blk_drewN ?_ _ | refine blk_drew ?_ | refine blk_alloc ?_ _)); exact BK335.out)) : gb334 ≠ gb335))
             clear HO329
             clear BK335
             clear HB
             have HO329 := n0_
             have BK335 := n1_
             have HB := n2_
             have BK334 := n3_
             have GW334 := n4_
             have GE334 := n5_
             have NB335_334 := n6_
             have NB334_335 := n7_
             clear n0_ n1_ n2_ n3_ n4_ n5_ n6_ n7_
             clear hb hbox hg
             refine hK.out _ _ ⟨HS0_, HS1_, HS2_, HS3_⟩ (fun hHeld => ?_)
             clear hK K
             refine norm_ (a' := ?_) ?_ ?_
             rotate_left
             ·
              show Act.put _ (some 8) _ = _
              simp only [Act.put, List.setIfInBounds_toArray, List.set_cons_zero, List.set_cons_succ, i64_w, i32_w]
              rfl
             exact norm_ (by first | (simp only [putAll, Act.put, List.setIfInBounds_toArray, List.set_cons_zero, List.set_cons_succ]; done) | (simp only [putAll, Act.put, List.setIfInBounds_toArray, List.set_cons_zero, List.set_cons_succ]; rfl)) (hJ10_11 (gb334, gb335) _ ⟨hHeld, (by (with_reducible repeat (first | apply Kd.R_alloc | apply Kd.R_drewN | apply Kd.R_drew)); exact Kd.R_mono HO329.out (fun _ hk => ⟨hk.2, hk.1⟩)), (by (with_reducible repeat (first | refine blk_drewN ?_ _ | refine blk_drew ?_ | refine blk_alloc ?_ _)); exact BK334.out), (by (with_reducible repeat (first | refine blk_drewN ?_ _ | refine blk_drew ?_ | refine blk_alloc ?_ _)); exact BK335.out), GW334.out, GE334.out, NB335_334.out, NB334_335.out, GW335.out, GE335.out, (by repeat (first | (with_reducible first | exact HB.out | apply below_alloc | apply pw_below_drewN | apply below_drew1 | refine below_set ?_ GE335.out | refine below_set ?_ GE334.out) | exact HB.out))⟩)
          ·
           skip
           rintro gb334 w16 ⟨hS_, h0_, h1_, h2_, h3_, h4_⟩
           have n0_ : Aside0 (Kd.R k26 26 w16 w.heap.size (fun k_ => k_ ≠ gb334) (.slice (some ad331) t327.length co13) t327) := ⟨h0_⟩
           have n1_ : Aside0 (w16.heap[gb334]? = some (.cells #[.int .i64 0, .bool false] 26 (0, 0))) := ⟨h1_⟩
           have n2_ : Aside0 (w.heap.size ≤ gb334) := ⟨h2_⟩
           have n3_ : Aside0 (w.heap.size ≤ gb334) := ⟨h3_⟩
           have n4_ : Aside0 (Below w.heap.size w w16) := ⟨h4_⟩
           clear HO329
           clear HB
           clear h0_ h1_ h2_ h3_ h4_
           have HO329 := n0_
           have BK334 := n1_
           have GW334 := n2_
           have GE334 := n3_
           have HB := n4_
           clear n0_ n1_ n2_ n3_ n4_
           have hHeld : w16.cell? (ad331.add ((t330).toNat * 2)) = some (.int .i64 ((rd_T26 t327 t330).f0)) ∧ w16.cell? ⟨(ad331.add ((t330).toNat * 2)).block, (ad331.add ((t330).toNat * 2)).off + 1, none⟩ = some (.bool ((rd_T26 t327 t330).f1)) ∧ w16.cell? (ad331.add ((t332).toNat * 2)) = some (.int .i64 ((rd_T26 t327 t332).f0)) ∧ w16.cell? ⟨(ad331.add ((t332).toNat * 2)).block, (ad331.add ((t332).toNat * 2)).off + 1, none⟩ = some (.bool ((rd_T26 t327 t332).f1)) := hS_
           refine norm_ (a' := ?_) ?_ ?_
           rotate_left
           ·
            simp only [putAll, Act.put, List.setIfInBounds_toArray, List.set_cons_zero, List.set_cons_succ]
            rfl
           refine two_ (i := 2) (j := 11) (Ni := some 24) (Nj := some 9) #[true,true,true,false,false,true,true,false,false,false,true,false,false,false] #[true,true,false,false,false,true,true,false,false,false,true,true,false,false] rfl rfl rfl rfl (two_of HT_.out (by kernel_rfl)) (by decide) (by decide) (fun K hK => ?_) (fun K hK => ?_)
           ·
            skip
            refine goes_ Tryd.func17 (by kernel_rfl) rfl #[.int .i64 a0, .int .i64 8] (by rfl) rfl rfl (by (try simp only [List.map_toArray, List.map_cons, List.map_nil]); first | done | rfl | (simp only [List.length_drop, List.length_take]; rfl)) ?_
            with_reducible refine (spokeshavelaw0_Low.calls a0 8 t330 _ A5.out).mono ?_
            rintro e w' ⟨rfl, ⟨nd, rfl⟩⟩
            refine ⟨_, rfl, ?_⟩
            refine hK.out _ _ ⟨hHeld.1, hHeld.2.1, hHeld.2.2.1, hHeld.2.2.2⟩ (fun hHeld => ?_)
            clear hK K
            refine norm_ (a' := ?_) ?_ ?_
            rotate_left
            ·
             show Act.put _ (some 24) _ = _
             simp only [Act.put, List.setIfInBounds_toArray, List.set_cons_zero, List.set_cons_succ, i64_w, i32_w]
             rfl
            refine pure_ (i := 3) (N := some 25) (v := ?_) (a' := ?_) #[true,true,true,true,false,true,true,false,false,false,true,false,false,false] rfl rfl (any_of HT_.out (by kernel_rfl)) (fun _ _ _ h => h) (Or.inl ⟨by rfl, ?_⟩) ?_ ?_
            rotate_left
            ·
             intro w'
             go_simp
             with_reducible rfl
            rotate_left
            ·
             simp only [Act.put, List.setIfInBounds_toArray, List.set_cons_zero, List.set_cons_succ, i64_w, i32_w]
             rfl
            refine take_ (i := 4) (N := some 26) (v := ?_) (a' := ?_) #[true,true,true,true,true,true,true,false,false,false,true,false,false,false] rfl rfl (take_ofW HT_.out HW_.out (by kernel_rfl)) (fun _ _ _ h => h) (Or.inl ⟨by rfl, ?_⟩) hHeld ?_ ?_
            rotate_left
            ·
             rintro w' ⟨s0, s1, s2, s3⟩
             go_simp
             with_reducible rfl
            rotate_left
            ·
             simp only [Act.put, List.setIfInBounds_toArray, List.set_cons_zero, List.set_cons_succ, i64_w, i32_w]
             rfl
            exact norm_ (by first | (simp only [putAll, Act.put, List.setIfInBounds_toArray, List.set_cons_zero, List.set_cons_succ]; done) | (simp only [putAll, Act.put, List.setIfInBounds_toArray, List.set_cons_zero, List.set_cons_succ]; rfl)) (hJ2_10 (gb334) _ ⟨hHeld, (by (with_reducible repeat (first | apply Kd.R_alloc | apply Kd.R_drewN | apply Kd.R_drew)); exact HO329.out), (by (with_reducible repeat (first | refine blk_drewN ?_ _ | refine blk_drew ?_ | refine blk_alloc ?_ _)); exact BK334.out), GW334.out, GE334.out, (by repeat (first | (with_reducible first | exact HB.out | apply below_alloc | apply pw_below_drewN | apply below_drew1 | refine below_set ?_ GE334.out) | exact HB.out))⟩)
           ·
            skip
            refine box_step ?hg (N := 9) ?hd (cs := #[.int .i64 0, .bool false]) (t := 26) ?hr ?_; (case hd => rfl); (case hg => rfl); (case hr => first | (go_simp; done) | (go_simp; rfl))
            intro gb335 hg w17 hbox hb
            have HS0_ := (hb.cell (World.block_lt_of_cell? _ _ (hHeld.1))).trans (hHeld.1)
            have HS1_ := (hb.cell (World.block_lt_of_cell? _ _ (hHeld.2.1))).trans (hHeld.2.1)
            have HS2_ := (hb.cell (World.block_lt_of_cell? _ _ (hHeld.2.2.1))).trans (hHeld.2.2.1)
            have HS3_ := (hb.cell (World.block_lt_of_cell? _ _ (hHeld.2.2.2))).trans (hHeld.2.2.2)
            have n0_ := Aside0.mk (Kd.R_below (Kd.R_elderB (by (with_reducible repeat (first | apply Kd.R_alloc | apply Kd.R_drewN | apply Kd.R_drew)); exact HO329.out) gb335 (Nat.le_of_eq hg.symm)) hb)
            have n1_ := Aside0.mk (blk_below (g := gb334) (o := .cells #[.int .i64 0, .bool false] 26 (0, 0)) (by (with_reducible repeat (first | refine blk_drewN ?_ _ | refine blk_drew ?_ | refine blk_alloc ?_ _)); exact BK334.out) hb)
            have n2_ := Aside0.mk (below_step (by repeat (first | (with_reducible first | exact HB.out | apply below_alloc | apply pw_below_drewN | apply below_drew1 | refine below_set ?_ GE334.out) | exact HB.out)) hb)
            have n3_ := Aside0.mk (hbox)
            have n4_ := Aside0.mk ((by rw [hg]; exact (below_size (by repeat (first | (with_reducible first | exact HB.out | apply below_alloc | apply pw_below_drewN | apply below_drew1 | refine below_set ?_ GE334.out) | exact HB.out))) : w.heap.size ≤ gb335))
            have n5_ := Aside0.mk ((by rw [hg]; exact (below_size (by repeat (first | (with_reducible first | exact HB.out | apply below_alloc | apply pw_below_drewN | apply below_drew1 | refine below_set ?_ GE334.out) | exact HB.out))) : w.heap.size ≤ gb335))
            have n6_ := Aside0.mk ((by rw [hg]; exact Nat.ne_of_lt (blk_lt (g := gb334) (o := .cells #[.int .i64 0, .bool false] 26 (0, 0)) (by (with_reducible repeat (first | refine blk_drewN ?_ _ | refine blk_drew ?_ | refine blk_alloc ?_ _)); exact BK334.out)) : gb334 ≠ gb335))
            have n7_ := Aside0.mk ((by rw [hg]; exact Nat.ne_of_gt (blk_lt (g := gb334) (o := .cells #[.int .i64 0, .bool false] 26 (0, 0)) (by (with_reducible repeat (first | refine blk_drewN ?_ _ | refine blk_drew ?_ | refine blk_alloc ?_ _)); exact BK334.out)) : gb335 ≠ gb334))
            clear HO329
            clear BK334
            clear HB
            have HO329 := n0_
            have BK334 := n1_
            have HB := n2_
            have BK335 := n3_
            have GW335 := n4_
            have GE335 := n5_
            have NB334_335 := n6_
            have NB335_334 := n7_
            clear n0_ n1_ n2_ n3_ n4_ n5_ n6_ n7_
            clear hb hbox hg
            refine hK.out _ _ ⟨HS0_, HS1_, HS2_, HS3_⟩ (fun hHeld => ?_)
            clear hK K
            refine norm_ (a' := ?_) ?_ ?_
            rotate_left
            ·
             show Act.put _ (some 9) _ = _
             simp only [Act.put, List.setIfInBounds_toArray, List.set_cons_zero, List.set_cons_succ, i64_w, i32_w]
             rfl
            exact norm_ (by first | (simp only [putAll, Act.put, List.setIfInBounds_toArray, List.set_cons_zero, List.set_cons_succ]; done) | (simp only [putAll, Act.put, List.setIfInBounds_toArray, List.set_cons_zero, List.set_cons_succ]; rfl)) (hJ10_11 (gb334, gb335) _ ⟨hHeld, (by (with_reducible repeat (first | apply Kd.R_alloc | apply Kd.R_drewN | apply Kd.R_drew)); exact HO329.out), (by (with_reducible repeat (first | refine blk_drewN ?_ _ | refine blk_drew ?_ | refine blk_alloc ?_ _)); exact BK334.out), (by (with_reducible repeat (first | refine blk_drewN ?_ _ | refine blk_drew ?_ | refine blk_alloc ?_ _)); exact BK335.out), GW334.out, GE334.out, NB335_334.out, NB334_335.out, GW335.out, GE335.out, (by repeat (first | (with_reducible first | exact HB.out | apply below_alloc | apply pw_below_drewN | apply below_drew1 | refine below_set ?_ GE334.out | refine below_set ?_ GE335.out) | exact HB.out))⟩)
         ·
          skip
          rintro _ w15 ⟨hS_, h0_, h1_⟩
          have n0_ : Aside0 (Kd.R k26 26 w15 w.heap.size (fun _ => True) (.slice (some ad331) t327.length co13) t327) := ⟨h0_⟩
          have n1_ : Aside0 (Below w.heap.size w w15) := ⟨h1_⟩
          clear HO329
          clear HB
          clear h0_ h1_
          have HO329 := n0_
          have HB := n1_
          clear n0_ n1_
          have hHeld : w15.cell? (ad331.add ((t330).toNat * 2)) = some (.int .i64 ((rd_T26 t327 t330).f0)) ∧ w15.cell? ⟨(ad331.add ((t330).toNat * 2)).block, (ad331.add ((t330).toNat * 2)).off + 1, none⟩ = some (.bool ((rd_T26 t327 t330).f1)) ∧ w15.cell? (ad331.add ((t332).toNat * 2)) = some (.int .i64 ((rd_T26 t327 t332).f0)) ∧ w15.cell? ⟨(ad331.add ((t332).toNat * 2)).block, (ad331.add ((t332).toNat * 2)).off + 1, none⟩ = some (.bool ((rd_T26 t327 t332).f1)) := hS_
          refine norm_ (a' := ?_) ?_ ?_
          rotate_left
          ·
           simp only [putAll, Act.put, List.setIfInBounds_toArray, List.set_cons_zero, List.set_cons_succ]
           rfl
          refine three_ (i := 7) (j := 10) (k := 11) (Ni := some 29) (Nj := some 8) (Nk := some 9) #[true,true,true,true,true,true,true,true,false,false,false,false,false,false] #[true,true,true,true,true,true,true,false,false,false,true,false,false,false] #[true,true,true,true,true,true,true,false,false,false,false,true,false,false] rfl rfl rfl rfl rfl rfl (three_of HT_.out (by kernel_rfl)) (by decide) (by decide) (by decide) (fun K hK => ?_) (fun K hK => ?_) (fun K hK => ?_)
          ·
           skip
           refine goes_ Tryd.func17 (by kernel_rfl) rfl #[.int .i64 a1, .int .i64 8] (by rfl) rfl rfl (by (try simp only [List.map_toArray, List.map_cons, List.map_nil]); first | done | rfl | (simp only [List.length_drop, List.length_take]; rfl)) ?_
           with_reducible refine (spokeshavelaw0_Low.calls a1 8 t332 _ A8.out).mono ?_
           rintro e w' ⟨rfl, ⟨nd, rfl⟩⟩
           refine ⟨_, rfl, ?_⟩
           refine hK.out _ _ ⟨hHeld.1, hHeld.2.1, hHeld.2.2.1, hHeld.2.2.2⟩ (fun hHeld => ?_)
           clear hK K
           refine norm_ (a' := ?_) ?_ ?_
           rotate_left
           ·
            show Act.put _ (some 29) _ = _
            simp only [Act.put, List.setIfInBounds_toArray, List.set_cons_zero, List.set_cons_succ, i64_w, i32_w]
            rfl
           refine pure_ (i := 8) (N := some 30) (v := ?_) (a' := ?_) #[true,true,true,true,true,true,true,true,true,false,false,false,false,false] rfl rfl (any_of HT_.out (by kernel_rfl)) (fun _ _ _ h => h) (Or.inl ⟨by rfl, ?_⟩) ?_ ?_
           rotate_left
           ·
            intro w'
            go_simp
            with_reducible rfl
           rotate_left
           ·
            simp only [Act.put, List.setIfInBounds_toArray, List.set_cons_zero, List.set_cons_succ, i64_w, i32_w]
            rfl
           refine take_ (i := 9) (N := some 31) (v := ?_) (a' := ?_) #[true,true,true,true,true,true,true,true,true,true,false,false,false,false] rfl rfl (take_ofW HT_.out HW_.out (by kernel_rfl)) (fun _ _ _ h => h) (Or.inl ⟨by rfl, ?_⟩) hHeld ?_ ?_
           rotate_left
           ·
            rintro w' ⟨s0, s1, s2, s3⟩
            go_simp
            with_reducible rfl
           rotate_left
           ·
            simp only [Act.put, List.setIfInBounds_toArray, List.set_cons_zero, List.set_cons_succ, i64_w, i32_w]
            rfl
           exact norm_ (by first | (simp only [putAll, Act.put, List.setIfInBounds_toArray, List.set_cons_zero, List.set_cons_succ]; done) | (simp only [putAll, Act.put, List.setIfInBounds_toArray, List.set_cons_zero, List.set_cons_succ]; rfl)) (hJ2_7 () _ ⟨hHeld, (by (with_reducible repeat (first | apply Kd.R_alloc | apply Kd.R_drewN | apply Kd.R_drew)); exact HO329.out), (by repeat (first | (with_reducible first | exact HB.out | apply below_alloc | apply pw_below_drewN | apply below_drew1) | exact HB.out))⟩)
          ·
           skip
           refine box_step ?hg (N := 8) ?hd (cs := #[.int .i64 0, .bool false]) (t := 26) ?hr ?_; (case hd => rfl); (case hg => rfl); (case hr => first | (go_simp; done) | (go_simp; rfl))
           intro gb334 hg w16 hbox hb
           have HS0_ := (hb.cell (World.block_lt_of_cell? _ _ (hHeld.1))).trans (hHeld.1)
           have HS1_ := (hb.cell (World.block_lt_of_cell? _ _ (hHeld.2.1))).trans (hHeld.2.1)
           have HS2_ := (hb.cell (World.block_lt_of_cell? _ _ (hHeld.2.2.1))).trans (hHeld.2.2.1)
           have HS3_ := (hb.cell (World.block_lt_of_cell? _ _ (hHeld.2.2.2))).trans (hHeld.2.2.2)
           have n0_ := Aside0.mk (Kd.R_below (Kd.R_elderB (by (with_reducible repeat (first | apply Kd.R_alloc | apply Kd.R_drewN | apply Kd.R_drew)); exact HO329.out) gb334 (Nat.le_of_eq hg.symm)) hb)
           have n1_ := Aside0.mk (below_step (by repeat (first | (with_reducible first | exact HB.out | apply below_alloc | apply pw_below_drewN | apply below_drew1) | exact HB.out)) hb)
           have n2_ := Aside0.mk (hbox)
           have n3_ := Aside0.mk ((by rw [hg]; exact (below_size (by repeat (first | (with_reducible first | exact HB.out | apply below_alloc | apply pw_below_drewN | apply below_drew1) | exact HB.out))) : w.heap.size ≤ gb334))
           have n4_ := Aside0.mk ((by rw [hg]; exact (below_size (by repeat (first | (with_reducible first | exact HB.out | apply below_alloc | apply pw_below_drewN | apply below_drew1) | exact HB.out))) : w.heap.size ≤ gb334))
           clear HO329
           clear HB
           have HO329 := n0_
           have HB := n1_
           have BK334 := n2_
           have GW334 := n3_
           have GE334 := n4_
           clear n0_ n1_ n2_ n3_ n4_
           clear hb hbox hg
           refine hK.out _ _ ⟨HS0_, HS1_, HS2_, HS3_⟩ (fun hHeld => ?_)
           clear hK K
           refine norm_ (a' := ?_) ?_ ?_
           rotate_left
           ·
            show Act.put _ (some 8) _ = _
            simp only [Act.put, List.setIfInBounds_toArray, List.set_cons_zero, List.set_cons_succ, i64_w, i32_w]
            rfl
           exact norm_ (by first | (simp only [putAll, Act.put, List.setIfInBounds_toArray, List.set_cons_zero, List.set_cons_succ]; done) | (simp only [putAll, Act.put, List.setIfInBounds_toArray, List.set_cons_zero, List.set_cons_succ]; rfl)) (hJ2_10 (gb334) _ ⟨hHeld, (by (with_reducible repeat (first | apply Kd.R_alloc | apply Kd.R_drewN | apply Kd.R_drew)); exact Kd.R_mono HO329.out (fun _ hk => hk.2)), (by (with_reducible repeat (first | refine blk_drewN ?_ _ | refine blk_drew ?_ | refine blk_alloc ?_ _)); exact BK334.out), GW334.out, GE334.out, (by repeat (first | (with_reducible first | exact HB.out | apply below_alloc | apply pw_below_drewN | apply below_drew1 | refine below_set ?_ GE334.out) | exact HB.out))⟩)
          ·
           skip
           refine box_step ?hg (N := 9) ?hd (cs := #[.int .i64 0, .bool false]) (t := 26) ?hr ?_; (case hd => rfl); (case hg => rfl); (case hr => first | (go_simp; done) | (go_simp; rfl))
           intro gb335 hg w16 hbox hb
           have HS0_ := (hb.cell (World.block_lt_of_cell? _ _ (hHeld.1))).trans (hHeld.1)
           have HS1_ := (hb.cell (World.block_lt_of_cell? _ _ (hHeld.2.1))).trans (hHeld.2.1)
           have HS2_ := (hb.cell (World.block_lt_of_cell? _ _ (hHeld.2.2.1))).trans (hHeld.2.2.1)
           have HS3_ := (hb.cell (World.block_lt_of_cell? _ _ (hHeld.2.2.2))).trans (hHeld.2.2.2)
           have n0_ := Aside0.mk (Kd.R_below (Kd.R_elderB (by (with_reducible repeat (first | apply Kd.R_alloc | apply Kd.R_drewN | apply Kd.R_drew)); exact HO329.out) gb335 (Nat.le_of_eq hg.symm)) hb)
           have n1_ := Aside0.mk (below_step (by repeat (first | (with_reducible first | exact HB.out | apply below_alloc | apply pw_below_drewN | apply below_drew1) | exact HB.out)) hb)
           have n2_ := Aside0.mk (hbox)
           have n3_ := Aside0.mk ((by rw [hg]; exact (below_size (by repeat (first | (with_reducible first | exact HB.out | apply below_alloc | apply pw_below_drewN | apply below_drew1) | exact HB.out))) : w.heap.size ≤ gb335))
           have n4_ := Aside0.mk ((by rw [hg]; exact (below_size (by repeat (first | (with_reducible first | exact HB.out | apply below_alloc | apply pw_below_drewN | apply below_drew1) | exact HB.out))) : w.heap.size ≤ gb335))
           clear HO329
           clear HB
           have HO329 := n0_
           have HB := n1_
           have BK335 := n2_
           have GW335 := n3_
           have GE335 := n4_
           clear n0_ n1_ n2_ n3_ n4_
           clear hb hbox hg
           refine hK.out _ _ ⟨HS0_, HS1_, HS2_, HS3_⟩ (fun hHeld => ?_)
           clear hK K
           refine norm_ (a' := ?_) ?_ ?_
           rotate_left
           ·
            show Act.put _ (some 9) _ = _
            simp only [Act.put, List.setIfInBounds_toArray, List.set_cons_zero, List.set_cons_succ, i64_w, i32_w]
            rfl
           exact norm_ (by first | (simp only [putAll, Act.put, List.setIfInBounds_toArray, List.set_cons_zero, List.set_cons_succ]; done) | (simp only [putAll, Act.put, List.setIfInBounds_toArray, List.set_cons_zero, List.set_cons_succ]; rfl)) (hJ2_11 (gb335) _ ⟨hHeld, (by (with_reducible repeat (first | apply Kd.R_alloc | apply Kd.R_drewN | apply Kd.R_drew)); exact Kd.R_mono HO329.out (fun _ hk => hk.2)), (by (with_reducible repeat (first | refine blk_drewN ?_ _ | refine blk_drew ?_ | refine blk_alloc ?_ _)); exact BK335.out), GW335.out, GE335.out, (by repeat (first | (with_reducible first | exact HB.out | apply below_alloc | apply pw_below_drewN | apply below_drew1 | refine below_set ?_ GE335.out) | exact HB.out))⟩)
        ·
         skip
         rintro ⟨gb334, gb335⟩ w17 ⟨hS_, h0_, h1_, h2_, h3_, h4_, h5_, h6_, h7_, h8_, h9_⟩
         have n0_ : Aside0 (Kd.R k26 26 w17 w.heap.size (fun k_ => k_ ≠ gb334 ∧ k_ ≠ gb335) (.slice (some ad331) t327.length co13) t327) := ⟨h0_⟩
         have n1_ : Aside0 (w17.heap[gb334]? = some (.cells #[.int .i64 0, .bool false] 26 (0, 0))) := ⟨h1_⟩
         have n2_ : Aside0 (w17.heap[gb335]? = some (.cells #[.int .i64 0, .bool false] 26 (0, 0))) := ⟨h2_⟩
         have n3_ : Aside0 (w.heap.size ≤ gb334) := ⟨h3_⟩
         have n4_ : Aside0 (w.heap.size ≤ gb334) := ⟨h4_⟩
         have n5_ : Aside0 (gb335 ≠ gb334) := ⟨h5_⟩
         have n6_ : Aside0 (gb334 ≠ gb335) := ⟨h6_⟩
         have n7_ : Aside0 (w.heap.size ≤ gb335) := ⟨h7_⟩
         have n8_ : Aside0 (w.heap.size ≤ gb335) := ⟨h8_⟩
         have n9_ : Aside0 (Below w.heap.size w w17) := ⟨h9_⟩
         clear HO329
         clear HB
         clear h0_ h1_ h2_ h3_ h4_ h5_ h6_ h7_ h8_ h9_
         have HO329 := n0_
         have BK334 := n1_
         have BK335 := n2_
         have GW334 := n3_
         have GE334 := n4_
         have NB335_334 := n5_
         have NB334_335 := n6_
         have GW335 := n7_
         have GE335 := n8_
         have HB := n9_
         clear n0_ n1_ n2_ n3_ n4_ n5_ n6_ n7_ n8_ n9_
         have hHeld : w17.cell? (ad331.add ((t330).toNat * 2)) = some (.int .i64 ((rd_T26 t327 t330).f0)) ∧ w17.cell? ⟨(ad331.add ((t330).toNat * 2)).block, (ad331.add ((t330).toNat * 2)).off + 1, none⟩ = some (.bool ((rd_T26 t327 t330).f1)) ∧ w17.cell? (ad331.add ((t332).toNat * 2)) = some (.int .i64 ((rd_T26 t327 t332).f0)) ∧ w17.cell? ⟨(ad331.add ((t332).toNat * 2)).block, (ad331.add ((t332).toNat * 2)).off + 1, none⟩ = some (.bool ((rd_T26 t327 t332).f1)) := hS_
         refine norm_ (a' := ?_) ?_ ?_
         rotate_left
         ·
          simp only [putAll, Act.put, List.setIfInBounds_toArray, List.set_cons_zero, List.set_cons_succ]
          rfl
         refine one_ (i := 2) (N := some 24) #[true,true,true,false,false,true,true,false,false,false,true,true,false,false] rfl rfl (one_of HT_.out (by kernel_rfl)) (by decide) (fun K hK => ?_)
         refine goes_ Tryd.func17 (by kernel_rfl) rfl #[.int .i64 a0, .int .i64 8] (by rfl) rfl rfl (by (try simp only [List.map_toArray, List.map_cons, List.map_nil]); first | done | rfl | (simp only [List.length_drop, List.length_take]; rfl)) ?_
         with_reducible refine (spokeshavelaw0_Low.calls a0 8 t330 _ A5.out).mono ?_
         rintro e w' ⟨rfl, ⟨nd, rfl⟩⟩
         refine ⟨_, rfl, ?_⟩
         refine hK.out _ _ ⟨hHeld.1, hHeld.2.1, hHeld.2.2.1, hHeld.2.2.2⟩ (fun hHeld => ?_)
         clear hK K
         refine norm_ (a' := ?_) ?_ ?_
         rotate_left
         ·
          show Act.put _ (some 24) _ = _
          simp only [Act.put, List.setIfInBounds_toArray, List.set_cons_zero, List.set_cons_succ, i64_w, i32_w]
          rfl
         refine pure_ (i := 3) (N := some 25) (v := ?_) (a' := ?_) #[true,true,true,true,false,true,true,false,false,false,true,true,false,false] rfl rfl (any_of HT_.out (by kernel_rfl)) (fun _ _ _ h => h) (Or.inl ⟨by rfl, ?_⟩) ?_ ?_
         rotate_left
         ·
          intro w'
          go_simp
          with_reducible rfl
         rotate_left
         ·
          simp only [Act.put, List.setIfInBounds_toArray, List.set_cons_zero, List.set_cons_succ, i64_w, i32_w]
          rfl
         refine take_ (i := 4) (N := some 26) (v := ?_) (a' := ?_) #[true,true,true,true,true,true,true,false,false,false,true,true,false,false] rfl rfl (take_ofW HT_.out HW_.out (by kernel_rfl)) (fun _ _ _ h => h) (Or.inl ⟨by rfl, ?_⟩) hHeld ?_ ?_
         rotate_left
         ·
          rintro w' ⟨s0, s1, s2, s3⟩
          go_simp
          with_reducible rfl
         rotate_left
         ·
          simp only [Act.put, List.setIfInBounds_toArray, List.set_cons_zero, List.set_cons_succ, i64_w, i32_w]
          rfl
         exact norm_ (by first | (simp only [putAll, Act.put, List.setIfInBounds_toArray, List.set_cons_zero, List.set_cons_succ]; done) | (simp only [putAll, Act.put, List.setIfInBounds_toArray, List.set_cons_zero, List.set_cons_succ]; rfl)) (hJ2_10_11 (gb334, gb335) _ ⟨hHeld, (by (with_reducible repeat (first | apply Kd.R_alloc | apply Kd.R_drewN | apply Kd.R_drew)); exact HO329.out), (by (with_reducible repeat (first | refine blk_drewN ?_ _ | refine blk_drew ?_ | refine blk_alloc ?_ _)); exact BK334.out), (by (with_reducible repeat (first | refine blk_drewN ?_ _ | refine blk_drew ?_ | refine blk_alloc ?_ _)); exact BK335.out), GW334.out, GE334.out, NB335_334.out, NB334_335.out, GW335.out, GE335.out, (by repeat (first | (with_reducible first | exact HB.out | apply below_alloc | apply pw_below_drewN | apply below_drew1 | refine below_set ?_ GE334.out | refine below_set ?_ GE335.out) | exact HB.out))⟩)
       ·
        skip
        rintro gb335 w16 ⟨hS_, h0_, h1_, h2_, h3_, h4_⟩
        have n0_ : Aside0 (Kd.R k26 26 w16 w.heap.size (fun k_ => k_ ≠ gb335) (.slice (some ad331) t327.length co13) t327) := ⟨h0_⟩
        have n1_ : Aside0 (w16.heap[gb335]? = some (.cells #[.int .i64 0, .bool false] 26 (0, 0))) := ⟨h1_⟩
        have n2_ : Aside0 (w.heap.size ≤ gb335) := ⟨h2_⟩
        have n3_ : Aside0 (w.heap.size ≤ gb335) := ⟨h3_⟩
        have n4_ : Aside0 (Below w.heap.size w w16) := ⟨h4_⟩
        clear HO329
        clear HB
        clear h0_ h1_ h2_ h3_ h4_
        have HO329 := n0_
        have BK335 := n1_
        have GW335 := n2_
        have GE335 := n3_
        have HB := n4_
        clear n0_ n1_ n2_ n3_ n4_
        have hHeld : w16.cell? (ad331.add ((t330).toNat * 2)) = some (.int .i64 ((rd_T26 t327 t330).f0)) ∧ w16.cell? ⟨(ad331.add ((t330).toNat * 2)).block, (ad331.add ((t330).toNat * 2)).off + 1, none⟩ = some (.bool ((rd_T26 t327 t330).f1)) ∧ w16.cell? (ad331.add ((t332).toNat * 2)) = some (.int .i64 ((rd_T26 t327 t332).f0)) ∧ w16.cell? ⟨(ad331.add ((t332).toNat * 2)).block, (ad331.add ((t332).toNat * 2)).off + 1, none⟩ = some (.bool ((rd_T26 t327 t332).f1)) := hS_
        refine norm_ (a' := ?_) ?_ ?_
        rotate_left
        ·
         simp only [putAll, Act.put, List.setIfInBounds_toArray, List.set_cons_zero, List.set_cons_succ]
         rfl
        refine two_ (i := 7) (j := 10) (Ni := some 29) (Nj := some 8) #[true,true,true,true,true,true,true,true,false,false,false,true,false,false] #[true,true,true,true,true,true,true,false,false,false,true,true,false,false] rfl rfl rfl rfl (two_of HT_.out (by kernel_rfl)) (by decide) (by decide) (fun K hK => ?_) (fun K hK => ?_)
        ·
         skip
         refine goes_ Tryd.func17 (by kernel_rfl) rfl #[.int .i64 a1, .int .i64 8] (by rfl) rfl rfl (by (try simp only [List.map_toArray, List.map_cons, List.map_nil]); first | done | rfl | (simp only [List.length_drop, List.length_take]; rfl)) ?_
         with_reducible refine (spokeshavelaw0_Low.calls a1 8 t332 _ A8.out).mono ?_
         rintro e w' ⟨rfl, ⟨nd, rfl⟩⟩
         refine ⟨_, rfl, ?_⟩
         refine hK.out _ _ ⟨hHeld.1, hHeld.2.1, hHeld.2.2.1, hHeld.2.2.2⟩ (fun hHeld => ?_)
         clear hK K
         refine norm_ (a' := ?_) ?_ ?_
         rotate_left
         ·
          show Act.put _ (some 29) _ = _
          simp only [Act.put, List.setIfInBounds_toArray, List.set_cons_zero, List.set_cons_succ, i64_w, i32_w]
          rfl
         refine pure_ (i := 8) (N := some 30) (v := ?_) (a' := ?_) #[true,true,true,true,true,true,true,true,true,false,false,true,false,false] rfl rfl (any_of HT_.out (by kernel_rfl)) (fun _ _ _ h => h) (Or.inl ⟨by rfl, ?_⟩) ?_ ?_
         rotate_left
         ·
          intro w'
          go_simp
          with_reducible rfl
         rotate_left
         ·
          simp only [Act.put, List.setIfInBounds_toArray, List.set_cons_zero, List.set_cons_succ, i64_w, i32_w]
          rfl
         refine take_ (i := 9) (N := some 31) (v := ?_) (a' := ?_) #[true,true,true,true,true,true,true,true,true,true,false,true,false,false] rfl rfl (take_ofW HT_.out HW_.out (by kernel_rfl)) (fun _ _ _ h => h) (Or.inl ⟨by rfl, ?_⟩) hHeld ?_ ?_
         rotate_left
         ·
          rintro w' ⟨s0, s1, s2, s3⟩
          go_simp
          with_reducible rfl
         rotate_left
         ·
          simp only [Act.put, List.setIfInBounds_toArray, List.set_cons_zero, List.set_cons_succ, i64_w, i32_w]
          rfl
         exact norm_ (by first | (simp only [putAll, Act.put, List.setIfInBounds_toArray, List.set_cons_zero, List.set_cons_succ]; done) | (simp only [putAll, Act.put, List.setIfInBounds_toArray, List.set_cons_zero, List.set_cons_succ]; rfl)) (hJ2_7_11 (gb335) _ ⟨hHeld, (by (with_reducible repeat (first | apply Kd.R_alloc | apply Kd.R_drewN | apply Kd.R_drew)); exact HO329.out), (by (with_reducible repeat (first | refine blk_drewN ?_ _ | refine blk_drew ?_ | refine blk_alloc ?_ _)); exact BK335.out), GW335.out, GE335.out, (by repeat (first | (with_reducible first | exact HB.out | apply below_alloc | apply pw_below_drewN | apply below_drew1 | refine below_set ?_ GE335.out) | exact HB.out))⟩)
        ·
         skip
         refine box_step ?hg (N := 8) ?hd (cs := #[.int .i64 0, .bool false]) (t := 26) ?hr ?_; (case hd => rfl); (case hg => rfl); (case hr => first | (go_simp; done) | (go_simp; rfl))
         intro gb334 hg w17 hbox hb
         have HS0_ := (hb.cell (World.block_lt_of_cell? _ _ (hHeld.1))).trans (hHeld.1)
         have HS1_ := (hb.cell (World.block_lt_of_cell? _ _ (hHeld.2.1))).trans (hHeld.2.1)
         have HS2_ := (hb.cell (World.block_lt_of_cell? _ _ (hHeld.2.2.1))).trans (hHeld.2.2.1)
         have HS3_ := (hb.cell (World.block_lt_of_cell? _ _ (hHeld.2.2.2))).trans (hHeld.2.2.2)
         have n0_ := Aside0.mk (Kd.R_below (Kd.R_elderB (by (with_reducible repeat (first | apply Kd.R_alloc | apply Kd.R_drewN | apply Kd.R_drew)); exact HO329.out) gb334 (Nat.le_of_eq hg.symm)) hb)
         have n1_ := Aside0.mk (blk_below (g := gb335) (o := .cells #[.int .i64 0, .bool false] 26 (0, 0)) (by (with_reducible repeat (first | refine blk_drewN ?_ _ | refine blk_drew ?_ | refine blk_alloc ?_ _)); exact BK335.out) hb)
         have n2_ := Aside0.mk (below_step (by repeat (first | (with_reducible first | exact HB.out | apply below_alloc | apply pw_below_drewN | apply below_drew1 | refine below_set ?_ GE335.out) | exact HB.out)) hb)
         have n3_ := Aside0.mk (hbox)
         have n4_ := Aside0.mk ((by rw [hg]; exact (below_size (by repeat (first | (with_reducible first | exact HB.out | apply below_alloc | apply pw_below_drewN | apply below_drew1 | refine below_set ?_ GE335.out) | exact HB.out))) : w.heap.size ≤ gb334))
         have n5_ := Aside0.mk ((by rw [hg]; exact (below_size (by repeat (first | (with_reducible first | exact HB.out | apply below_alloc | apply pw_below_drewN | apply below_drew1 | refine below_set ?_ GE335.out) | exact HB.out))) : w.heap.size ≤ gb334))
         have n6_ := Aside0.mk ((by rw [hg]; exact Nat.ne_of_lt (blk_lt (g := gb335) (o := .cells #[.int .i64 0, .bool false] 26 (0, 0)) (by (with_reducible repeat (first | refine blk_drewN ?_ _ | refine blk_drew ?_ | refine blk_alloc ?_ _)); exact BK335.out)) : gb335 ≠ gb334))
         have n7_ := Aside0.mk ((by rw [hg]; exact Nat.ne_of_gt (blk_lt (g := gb335) (o := .cells #[.int .i64 0, .bool false] 26 (0, 0)) (by (with_reducible repeat (first | refine blk_drewN ?_ _ | refine blk_drew ?_ | refine blk_alloc ?_ _)); exact BK335.out)) : gb334 ≠ gb335))
         clear HO329
         clear BK335
         clear HB
         have HO329 := n0_
         have BK335 := n1_
         have HB := n2_
         have BK334 := n3_
         have GW334 := n4_
         have GE334 := n5_
         have NB335_334 := n6_
         have NB334_335 := n7_
         clear n0_ n1_ n2_ n3_ n4_ n5_ n6_ n7_
         clear hb hbox hg
         refine hK.out _ _ ⟨HS0_, HS1_, HS2_, HS3_⟩ (fun hHeld => ?_)
         clear hK K
         refine norm_ (a' := ?_) ?_ ?_
         rotate_left
         ·
          show Act.put _ (some 8) _ = _
          simp only [Act.put, List.setIfInBounds_toArray, List.set_cons_zero, List.set_cons_succ, i64_w, i32_w]
          rfl
         exact norm_ (by first | (simp only [putAll, Act.put, List.setIfInBounds_toArray, List.set_cons_zero, List.set_cons_succ]; done) | (simp only [putAll, Act.put, List.setIfInBounds_toArray, List.set_cons_zero, List.set_cons_succ]; rfl)) (hJ2_10_11 (gb334, gb335) _ ⟨hHeld, (by (with_reducible repeat (first | apply Kd.R_alloc | apply Kd.R_drewN | apply Kd.R_drew)); exact Kd.R_mono HO329.out (fun _ hk => ⟨hk.2, hk.1⟩)), (by (with_reducible repeat (first | refine blk_drewN ?_ _ | refine blk_drew ?_ | refine blk_alloc ?_ _)); exact BK334.out), (by (with_reducible repeat (first | refine blk_drewN ?_ _ | refine blk_drew ?_ | refine blk_alloc ?_ _)); exact BK335.out), GW334.out, GE334.out, NB335_334.out, NB334_335.out, GW335.out, GE335.out, (by repeat (first | (with_reducible first | exact HB.out | apply below_alloc | apply pw_below_drewN | apply below_drew1 | refine below_set ?_ GE335.out | refine below_set ?_ GE334.out) | exact HB.out))⟩)
      ·
       skip
       rintro gb334 w16 ⟨hS_, h0_, h1_, h2_, h3_, h4_⟩
       have n0_ : Aside0 (Kd.R k26 26 w16 w.heap.size (fun k_ => k_ ≠ gb334) (.slice (some ad331) t327.length co13) t327) := ⟨h0_⟩
       have n1_ : Aside0 (w16.heap[gb334]? = some (.cells #[.int .i64 0, .bool false] 26 (0, 0))) := ⟨h1_⟩
       have n2_ : Aside0 (w.heap.size ≤ gb334) := ⟨h2_⟩
       have n3_ : Aside0 (w.heap.size ≤ gb334) := ⟨h3_⟩
       have n4_ : Aside0 (Below w.heap.size w w16) := ⟨h4_⟩
       clear HO329
       clear HB
       clear h0_ h1_ h2_ h3_ h4_
       have HO329 := n0_
       have BK334 := n1_
       have GW334 := n2_
       have GE334 := n3_
       have HB := n4_
       clear n0_ n1_ n2_ n3_ n4_
       have hHeld : w16.cell? (ad331.add ((t330).toNat * 2)) = some (.int .i64 ((rd_T26 t327 t330).f0)) ∧ w16.cell? ⟨(ad331.add ((t330).toNat * 2)).block, (ad331.add ((t330).toNat * 2)).off + 1, none⟩ = some (.bool ((rd_T26 t327 t330).f1)) ∧ w16.cell? (ad331.add ((t332).toNat * 2)) = some (.int .i64 ((rd_T26 t327 t332).f0)) ∧ w16.cell? ⟨(ad331.add ((t332).toNat * 2)).block, (ad331.add ((t332).toNat * 2)).off + 1, none⟩ = some (.bool ((rd_T26 t327 t332).f1)) := hS_
       refine norm_ (a' := ?_) ?_ ?_
       rotate_left
       ·
        simp only [putAll, Act.put, List.setIfInBounds_toArray, List.set_cons_zero, List.set_cons_succ]
        rfl
       refine two_ (i := 7) (j := 11) (Ni := some 29) (Nj := some 9) #[true,true,true,true,true,true,true,true,false,false,true,false,false,false] #[true,true,true,true,true,true,true,false,false,false,true,true,false,false] rfl rfl rfl rfl (two_of HT_.out (by kernel_rfl)) (by decide) (by decide) (fun K hK => ?_) (fun K hK => ?_)
       ·
        skip
        refine goes_ Tryd.func17 (by kernel_rfl) rfl #[.int .i64 a1, .int .i64 8] (by rfl) rfl rfl (by (try simp only [List.map_toArray, List.map_cons, List.map_nil]); first | done | rfl | (simp only [List.length_drop, List.length_take]; rfl)) ?_
        with_reducible refine (spokeshavelaw0_Low.calls a1 8 t332 _ A8.out).mono ?_
        rintro e w' ⟨rfl, ⟨nd, rfl⟩⟩
        refine ⟨_, rfl, ?_⟩
        refine hK.out _ _ ⟨hHeld.1, hHeld.2.1, hHeld.2.2.1, hHeld.2.2.2⟩ (fun hHeld => ?_)
        clear hK K
        refine norm_ (a' := ?_) ?_ ?_
        rotate_left
        ·
         show Act.put _ (some 29) _ = _
         simp only [Act.put, List.setIfInBounds_toArray, List.set_cons_zero, List.set_cons_succ, i64_w, i32_w]
         rfl
        refine pure_ (i := 8) (N := some 30) (v := ?_) (a' := ?_) #[true,true,true,true,true,true,true,true,true,false,true,false,false,false] rfl rfl (any_of HT_.out (by kernel_rfl)) (fun _ _ _ h => h) (Or.inl ⟨by rfl, ?_⟩) ?_ ?_
        rotate_left
        ·
         intro w'
         go_simp
         with_reducible rfl
        rotate_left
        ·
         simp only [Act.put, List.setIfInBounds_toArray, List.set_cons_zero, List.set_cons_succ, i64_w, i32_w]
         rfl
        refine take_ (i := 9) (N := some 31) (v := ?_) (a' := ?_) #[true,true,true,true,true,true,true,true,true,true,true,false,false,false] rfl rfl (take_ofW HT_.out HW_.out (by kernel_rfl)) (fun _ _ _ h => h) (Or.inl ⟨by rfl, ?_⟩) hHeld ?_ ?_
        rotate_left
        ·
         rintro w' ⟨s0, s1, s2, s3⟩
         go_simp
         with_reducible rfl
        rotate_left
        ·
         simp only [Act.put, List.setIfInBounds_toArray, List.set_cons_zero, List.set_cons_succ, i64_w, i32_w]
         rfl
        exact norm_ (by first | (simp only [putAll, Act.put, List.setIfInBounds_toArray, List.set_cons_zero, List.set_cons_succ]; done) | (simp only [putAll, Act.put, List.setIfInBounds_toArray, List.set_cons_zero, List.set_cons_succ]; rfl)) (hJ2_7_10 (gb334) _ ⟨hHeld, (by (with_reducible repeat (first | apply Kd.R_alloc | apply Kd.R_drewN | apply Kd.R_drew)); exact HO329.out), (by (with_reducible repeat (first | refine blk_drewN ?_ _ | refine blk_drew ?_ | refine blk_alloc ?_ _)); exact BK334.out), GW334.out, GE334.out, (by repeat (first | (with_reducible first | exact HB.out | apply below_alloc | apply pw_below_drewN | apply below_drew1 | refine below_set ?_ GE334.out) | exact HB.out))⟩)
       ·
        skip
        refine box_step ?hg (N := 9) ?hd (cs := #[.int .i64 0, .bool false]) (t := 26) ?hr ?_; (case hd => rfl); (case hg => rfl); (case hr => first | (go_simp; done) | (go_simp; rfl))
        intro gb335 hg w17 hbox hb
        have HS0_ := (hb.cell (World.block_lt_of_cell? _ _ (hHeld.1))).trans (hHeld.1)
        have HS1_ := (hb.cell (World.block_lt_of_cell? _ _ (hHeld.2.1))).trans (hHeld.2.1)
        have HS2_ := (hb.cell (World.block_lt_of_cell? _ _ (hHeld.2.2.1))).trans (hHeld.2.2.1)
        have HS3_ := (hb.cell (World.block_lt_of_cell? _ _ (hHeld.2.2.2))).trans (hHeld.2.2.2)
        have n0_ := Aside0.mk (Kd.R_below (Kd.R_elderB (by (with_reducible repeat (first | apply Kd.R_alloc | apply Kd.R_drewN | apply Kd.R_drew)); exact HO329.out) gb335 (Nat.le_of_eq hg.symm)) hb)
        have n1_ := Aside0.mk (blk_below (g := gb334) (o := .cells #[.int .i64 0, .bool false] 26 (0, 0)) (by (with_reducible repeat (first | refine blk_drewN ?_ _ | refine blk_drew ?_ | refine blk_alloc ?_ _)); exact BK334.out) hb)
        have n2_ := Aside0.mk (below_step (by repeat (first | (with_reducible first | exact HB.out | apply below_alloc | apply pw_below_drewN | apply below_drew1 | refine below_set ?_ GE334.out) | exact HB.out)) hb)
        have n3_ := Aside0.mk (hbox)
        have n4_ := Aside0.mk ((by rw [hg]; exact (below_size (by repeat (first | (with_reducible first | exact HB.out | apply below_alloc | apply pw_below_drewN | apply below_drew1 | refine below_set ?_ GE334.out) | exact HB.out))) : w.heap.size ≤ gb335))
        have n5_ := Aside0.mk ((by rw [hg]; exact (below_size (by repeat (first | (with_reducible first | exact HB.out | apply below_alloc | apply pw_below_drewN | apply below_drew1 | refine below_set ?_ GE334.out) | exact HB.out))) : w.heap.size ≤ gb335))
        have n6_ := Aside0.mk ((by rw [hg]; exact Nat.ne_of_lt (blk_lt (g := gb334) (o := .cells #[.int .i64 0, .bool false] 26 (0, 0)) (by (with_reducible repeat (first | refine blk_drewN ?_ _ | refine blk_drew ?_ | refine blk_alloc ?_ _)); exact BK334.out)) : gb334 ≠ gb335))
        have n7_ := Aside0.mk ((by rw [hg]; exact Nat.ne_of_gt (blk_lt (g := gb334) (o := .cells #[.int .i64 0, .bool false] 26 (0, 0)) (by (with_reducible repeat (first | refine blk_drewN ?_ _ | refine blk_drew ?_ | refine blk_alloc ?_ _)); exact BK334.out)) : gb335 ≠ gb334))
        clear HO329
        clear BK334
        clear HB
        have HO329 := n0_
        have BK334 := n1_
        have HB := n2_
        have BK335 := n3_
        have GW335 := n4_
        have GE335 := n5_
        have NB334_335 := n6_
        have NB335_334 := n7_
        clear n0_ n1_ n2_ n3_ n4_ n5_ n6_ n7_
        clear hb hbox hg
        refine hK.out _ _ ⟨HS0_, HS1_, HS2_, HS3_⟩ (fun hHeld => ?_)
        clear hK K
        refine norm_ (a' := ?_) ?_ ?_
        rotate_left
        ·
         show Act.put _ (some 9) _ = _
         simp only [Act.put, List.setIfInBounds_toArray, List.set_cons_zero, List.set_cons_succ, i64_w, i32_w]
         rfl
        exact norm_ (by first | (simp only [putAll, Act.put, List.setIfInBounds_toArray, List.set_cons_zero, List.set_cons_succ]; done) | (simp only [putAll, Act.put, List.setIfInBounds_toArray, List.set_cons_zero, List.set_cons_succ]; rfl)) (hJ2_10_11 (gb334, gb335) _ ⟨hHeld, (by (with_reducible repeat (first | apply Kd.R_alloc | apply Kd.R_drewN | apply Kd.R_drew)); exact HO329.out), (by (with_reducible repeat (first | refine blk_drewN ?_ _ | refine blk_drew ?_ | refine blk_alloc ?_ _)); exact BK334.out), (by (with_reducible repeat (first | refine blk_drewN ?_ _ | refine blk_drew ?_ | refine blk_alloc ?_ _)); exact BK335.out), GW334.out, GE334.out, NB335_334.out, NB334_335.out, GW335.out, GE335.out, (by repeat (first | (with_reducible first | exact HB.out | apply below_alloc | apply pw_below_drewN | apply below_drew1 | refine below_set ?_ GE334.out | refine below_set ?_ GE335.out) | exact HB.out))⟩)
     ·
      skip
      rintro _ w15 ⟨hS_, h0_, h1_⟩
      have n0_ : Aside0 (Kd.R k26 26 w15 w.heap.size (fun _ => True) (.slice (some ad331) t327.length co13) t327) := ⟨h0_⟩
      have n1_ : Aside0 (Below w.heap.size w w15) := ⟨h1_⟩
      clear HO329
      clear HB
      clear h0_ h1_
      have HO329 := n0_
      have HB := n1_
      clear n0_ n1_
      have hHeld : w15.cell? (ad331.add ((t330).toNat * 2)) = some (.int .i64 ((rd_T26 t327 t330).f0)) ∧ w15.cell? ⟨(ad331.add ((t330).toNat * 2)).block, (ad331.add ((t330).toNat * 2)).off + 1, none⟩ = some (.bool ((rd_T26 t327 t330).f1)) ∧ w15.cell? (ad331.add ((t332).toNat * 2)) = some (.int .i64 ((rd_T26 t327 t332).f0)) ∧ w15.cell? ⟨(ad331.add ((t332).toNat * 2)).block, (ad331.add ((t332).toNat * 2)).off + 1, none⟩ = some (.bool ((rd_T26 t327 t332).f1)) := hS_
      refine norm_ (a' := ?_) ?_ ?_
      rotate_left
      ·
       simp only [putAll, Act.put, List.setIfInBounds_toArray, List.set_cons_zero, List.set_cons_succ]
       rfl
      refine two_ (i := 10) (j := 11) (Ni := some 8) (Nj := some 9) #[true,true,true,true,true,true,true,true,true,true,true,false,false,false] #[true,true,true,true,true,true,true,true,true,true,false,true,false,false] rfl rfl rfl rfl (two_of HT_.out (by kernel_rfl)) (by decide) (by decide) (fun K hK => ?_) (fun K hK => ?_)
      ·
       skip
       refine box_step ?hg (N := 8) ?hd (cs := #[.int .i64 0, .bool false]) (t := 26) ?hr ?_; (case hd => rfl); (case hg => rfl); (case hr => first | (go_simp; done) | (go_simp; rfl))
       intro gb334 hg w16 hbox hb
       have HS0_ := (hb.cell (World.block_lt_of_cell? _ _ (hHeld.1))).trans (hHeld.1)
       have HS1_ := (hb.cell (World.block_lt_of_cell? _ _ (hHeld.2.1))).trans (hHeld.2.1)
       have HS2_ := (hb.cell (World.block_lt_of_cell? _ _ (hHeld.2.2.1))).trans (hHeld.2.2.1)
       have HS3_ := (hb.cell (World.block_lt_of_cell? _ _ (hHeld.2.2.2))).trans (hHeld.2.2.2)
       have n0_ := Aside0.mk (Kd.R_below (Kd.R_elderB (by (with_reducible repeat (first | apply Kd.R_alloc | apply Kd.R_drewN | apply Kd.R_drew)); exact HO329.out) gb334 (Nat.le_of_eq hg.symm)) hb)
       have n1_ := Aside0.mk (below_step (by repeat (first | (with_reducible first | exact HB.out | apply below_alloc | apply pw_below_drewN | apply below_drew1) | exact HB.out)) hb)
       have n2_ := Aside0.mk (hbox)
       have n3_ := Aside0.mk ((by rw [hg]; exact (below_size (by repeat (first | (with_reducible first | exact HB.out | apply below_alloc | apply pw_below_drewN | apply below_drew1) | exact HB.out))) : w.heap.size ≤ gb334))
       have n4_ := Aside0.mk ((by rw [hg]; exact (below_size (by repeat (first | (with_reducible first | exact HB.out | apply below_alloc | apply pw_below_drewN | apply below_drew1) | exact HB.out))) : w.heap.size ≤ gb334))
       clear HO329
       clear HB
       have HO329 := n0_
       have HB := n1_
       have BK334 := n2_
       have GW334 := n3_
       have GE334 := n4_
       clear n0_ n1_ n2_ n3_ n4_
       clear hb hbox hg
       refine hK.out _ _ ⟨HS0_, HS1_, HS2_, HS3_⟩ (fun hHeld => ?_)
       clear hK K
       refine norm_ (a' := ?_) ?_ ?_
       rotate_left
       ·
        show Act.put _ (some 8) _ = _
        simp only [Act.put, List.setIfInBounds_toArray, List.set_cons_zero, List.set_cons_succ, i64_w, i32_w]
        rfl
       exact norm_ (by first | (simp only [putAll, Act.put, List.setIfInBounds_toArray, List.set_cons_zero, List.set_cons_succ]; done) | (simp only [putAll, Act.put, List.setIfInBounds_toArray, List.set_cons_zero, List.set_cons_succ]; rfl)) (hJ2_7_10 (gb334) _ ⟨hHeld, (by (with_reducible repeat (first | apply Kd.R_alloc | apply Kd.R_drewN | apply Kd.R_drew)); exact Kd.R_mono HO329.out (fun _ hk => hk.2)), (by (with_reducible repeat (first | refine blk_drewN ?_ _ | refine blk_drew ?_ | refine blk_alloc ?_ _)); exact BK334.out), GW334.out, GE334.out, (by repeat (first | (with_reducible first | exact HB.out | apply below_alloc | apply pw_below_drewN | apply below_drew1 | refine below_set ?_ GE334.out) | exact HB.out))⟩)
      ·
       skip
       refine box_step ?hg (N := 9) ?hd (cs := #[.int .i64 0, .bool false]) (t := 26) ?hr ?_; (case hd => rfl); (case hg => rfl); (case hr => first | (go_simp; done) | (go_simp; rfl))
       intro gb335 hg w16 hbox hb
       have HS0_ := (hb.cell (World.block_lt_of_cell? _ _ (hHeld.1))).trans (hHeld.1)
       have HS1_ := (hb.cell (World.block_lt_of_cell? _ _ (hHeld.2.1))).trans (hHeld.2.1)
       have HS2_ := (hb.cell (World.block_lt_of_cell? _ _ (hHeld.2.2.1))).trans (hHeld.2.2.1)
       have HS3_ := (hb.cell (World.block_lt_of_cell? _ _ (hHeld.2.2.2))).trans (hHeld.2.2.2)
       have n0_ := Aside0.mk (Kd.R_below (Kd.R_elderB (by (with_reducible repeat (first | apply Kd.R_alloc | apply Kd.R_drewN | apply Kd.R_drew)); exact HO329.out) gb335 (Nat.le_of_eq hg.symm)) hb)
       have n1_ := Aside0.mk (below_step (by repeat (first | (with_reducible first | exact HB.out | apply below_alloc | apply pw_below_drewN | apply below_drew1) | exact HB.out)) hb)
       have n2_ := Aside0.mk (hbox)
       have n3_ := Aside0.mk ((by rw [hg]; exact (below_size (by repeat (first | (with_reducible first | exact HB.out | apply below_alloc | apply pw_below_drewN | apply below_drew1) | exact HB.out))) : w.heap.size ≤ gb335))
       have n4_ := Aside0.mk ((by rw [hg]; exact (below_size (by repeat (first | (with_reducible first | exact HB.out | apply below_alloc | apply pw_below_drewN | apply below_drew1) | exact HB.out))) : w.heap.size ≤ gb335))
       clear HO329
       clear HB
       have HO329 := n0_
       have HB := n1_
       have BK335 := n2_
       have GW335 := n3_
       have GE335 := n4_
       clear n0_ n1_ n2_ n3_ n4_
       clear hb hbox hg
       refine hK.out _ _ ⟨HS0_, HS1_, HS2_, HS3_⟩ (fun hHeld => ?_)
       clear hK K
       refine norm_ (a' := ?_) ?_ ?_
       rotate_left
       ·
        show Act.put _ (some 9) _ = _
        simp only [Act.put, List.setIfInBounds_toArray, List.set_cons_zero, List.set_cons_succ, i64_w, i32_w]
        rfl
       exact norm_ (by first | (simp only [putAll, Act.put, List.setIfInBounds_toArray, List.set_cons_zero, List.set_cons_succ]; done) | (simp only [putAll, Act.put, List.setIfInBounds_toArray, List.set_cons_zero, List.set_cons_succ]; rfl)) (hJ2_7_11 (gb335) _ ⟨hHeld, (by (with_reducible repeat (first | apply Kd.R_alloc | apply Kd.R_drewN | apply Kd.R_drew)); exact Kd.R_mono HO329.out (fun _ hk => hk.2)), (by (with_reducible repeat (first | refine blk_drewN ?_ _ | refine blk_drew ?_ | refine blk_alloc ?_ _)); exact BK335.out), GW335.out, GE335.out, (by repeat (first | (with_reducible first | exact HB.out | apply below_alloc | apply pw_below_drewN | apply below_drew1 | refine below_set ?_ GE335.out) | exact HB.out))⟩)
    ·
     skip
     rintro ⟨gb334, gb335⟩ w17 ⟨hS_, h0_, h1_, h2_, h3_, h4_, h5_, h6_, h7_, h8_, h9_⟩
     have n0_ : Aside0 (Kd.R k26 26 w17 w.heap.size (fun k_ => k_ ≠ gb334 ∧ k_ ≠ gb335) (.slice (some ad331) t327.length co13) t327) := ⟨h0_⟩
     have n1_ : Aside0 (w17.heap[gb334]? = some (.cells #[.int .i64 0, .bool false] 26 (0, 0))) := ⟨h1_⟩
     have n2_ : Aside0 (w17.heap[gb335]? = some (.cells #[.int .i64 0, .bool false] 26 (0, 0))) := ⟨h2_⟩
     have n3_ : Aside0 (w.heap.size ≤ gb334) := ⟨h3_⟩
     have n4_ : Aside0 (w.heap.size ≤ gb334) := ⟨h4_⟩
     have n5_ : Aside0 (gb335 ≠ gb334) := ⟨h5_⟩
     have n6_ : Aside0 (gb334 ≠ gb335) := ⟨h6_⟩
     have n7_ : Aside0 (w.heap.size ≤ gb335) := ⟨h7_⟩
     have n8_ : Aside0 (w.heap.size ≤ gb335) := ⟨h8_⟩
     have n9_ : Aside0 (Below w.heap.size w w17) := ⟨h9_⟩
     clear HO329
     clear HB
     clear h0_ h1_ h2_ h3_ h4_ h5_ h6_ h7_ h8_ h9_
     have HO329 := n0_
     have BK334 := n1_
     have BK335 := n2_
     have GW334 := n3_
     have GE334 := n4_
     have NB335_334 := n5_
     have NB334_335 := n6_
     have GW335 := n7_
     have GE335 := n8_
     have HB := n9_
     clear n0_ n1_ n2_ n3_ n4_ n5_ n6_ n7_ n8_ n9_
     have hHeld : w17.cell? (ad331.add ((t330).toNat * 2)) = some (.int .i64 ((rd_T26 t327 t330).f0)) ∧ w17.cell? ⟨(ad331.add ((t330).toNat * 2)).block, (ad331.add ((t330).toNat * 2)).off + 1, none⟩ = some (.bool ((rd_T26 t327 t330).f1)) ∧ w17.cell? (ad331.add ((t332).toNat * 2)) = some (.int .i64 ((rd_T26 t327 t332).f0)) ∧ w17.cell? ⟨(ad331.add ((t332).toNat * 2)).block, (ad331.add ((t332).toNat * 2)).off + 1, none⟩ = some (.bool ((rd_T26 t327 t332).f1)) := hS_
     refine norm_ (a' := ?_) ?_ ?_
     rotate_left
     ·
      simp only [putAll, Act.put, List.setIfInBounds_toArray, List.set_cons_zero, List.set_cons_succ]
      rfl
     refine one_ (i := 7) (N := some 29) #[true,true,true,true,true,true,true,true,false,false,true,true,false,false] rfl rfl (one_of HT_.out (by kernel_rfl)) (by decide) (fun K hK => ?_)
     refine goes_ Tryd.func17 (by kernel_rfl) rfl #[.int .i64 a1, .int .i64 8] (by rfl) rfl rfl (by (try simp only [List.map_toArray, List.map_cons, List.map_nil]); first | done | rfl | (simp only [List.length_drop, List.length_take]; rfl)) ?_
     with_reducible refine (spokeshavelaw0_Low.calls a1 8 t332 _ A8.out).mono ?_
     rintro e w' ⟨rfl, ⟨nd, rfl⟩⟩
     refine ⟨_, rfl, ?_⟩
     refine hK.out _ _ ⟨hHeld.1, hHeld.2.1, hHeld.2.2.1, hHeld.2.2.2⟩ (fun hHeld => ?_)
     clear hK K
     refine norm_ (a' := ?_) ?_ ?_
     rotate_left
     ·
      show Act.put _ (some 29) _ = _
      simp only [Act.put, List.setIfInBounds_toArray, List.set_cons_zero, List.set_cons_succ, i64_w, i32_w]
      rfl
     refine pure_ (i := 8) (N := some 30) (v := ?_) (a' := ?_) #[true,true,true,true,true,true,true,true,true,false,true,true,false,false] rfl rfl (any_of HT_.out (by kernel_rfl)) (fun _ _ _ h => h) (Or.inl ⟨by rfl, ?_⟩) ?_ ?_
     rotate_left
     ·
      intro w'
      go_simp
      with_reducible rfl
     rotate_left
     ·
      simp only [Act.put, List.setIfInBounds_toArray, List.set_cons_zero, List.set_cons_succ, i64_w, i32_w]
      rfl
     refine take_ (i := 9) (N := some 31) (v := ?_) (a' := ?_) #[true,true,true,true,true,true,true,true,true,true,true,true,false,false] rfl rfl (take_ofW HT_.out HW_.out (by kernel_rfl)) (fun _ _ _ h => h) (Or.inl ⟨by rfl, ?_⟩) hHeld ?_ ?_
     rotate_left
     ·
      rintro w' ⟨s0, s1, s2, s3⟩
      go_simp
      with_reducible rfl
     rotate_left
     ·
      simp only [Act.put, List.setIfInBounds_toArray, List.set_cons_zero, List.set_cons_succ, i64_w, i32_w]
      rfl
     exact norm_ (by first | (simp only [putAll, Act.put, List.setIfInBounds_toArray, List.set_cons_zero, List.set_cons_succ]; done) | (simp only [putAll, Act.put, List.setIfInBounds_toArray, List.set_cons_zero, List.set_cons_succ]; rfl)) (hJ2_7_10_11 (gb334, gb335) _ ⟨hHeld, (by (with_reducible repeat (first | apply Kd.R_alloc | apply Kd.R_drewN | apply Kd.R_drew)); exact HO329.out), (by (with_reducible repeat (first | refine blk_drewN ?_ _ | refine blk_drew ?_ | refine blk_alloc ?_ _)); exact BK334.out), (by (with_reducible repeat (first | refine blk_drewN ?_ _ | refine blk_drew ?_ | refine blk_alloc ?_ _)); exact BK335.out), GW334.out, GE334.out, NB335_334.out, NB334_335.out, GW335.out, GE335.out, (by repeat (first | (with_reducible first | exact HB.out | apply below_alloc | apply pw_below_drewN | apply below_drew1 | refine below_set ?_ GE334.out | refine below_set ?_ GE335.out) | exact HB.out))⟩)
   ·
    skip
    rintro gb335 w16 ⟨hS_, h0_, h1_, h2_, h3_, h4_⟩
    have n0_ : Aside0 (Kd.R k26 26 w16 w.heap.size (fun k_ => k_ ≠ gb335) (.slice (some ad331) t327.length co13) t327) := ⟨h0_⟩
    have n1_ : Aside0 (w16.heap[gb335]? = some (.cells #[.int .i64 0, .bool false] 26 (0, 0))) := ⟨h1_⟩
    have n2_ : Aside0 (w.heap.size ≤ gb335) := ⟨h2_⟩
    have n3_ : Aside0 (w.heap.size ≤ gb335) := ⟨h3_⟩
    have n4_ : Aside0 (Below w.heap.size w w16) := ⟨h4_⟩
    clear HO329
    clear HB
    clear h0_ h1_ h2_ h3_ h4_
    have HO329 := n0_
    have BK335 := n1_
    have GW335 := n2_
    have GE335 := n3_
    have HB := n4_
    clear n0_ n1_ n2_ n3_ n4_
    have hHeld : w16.cell? (ad331.add ((t330).toNat * 2)) = some (.int .i64 ((rd_T26 t327 t330).f0)) ∧ w16.cell? ⟨(ad331.add ((t330).toNat * 2)).block, (ad331.add ((t330).toNat * 2)).off + 1, none⟩ = some (.bool ((rd_T26 t327 t330).f1)) ∧ w16.cell? (ad331.add ((t332).toNat * 2)) = some (.int .i64 ((rd_T26 t327 t332).f0)) ∧ w16.cell? ⟨(ad331.add ((t332).toNat * 2)).block, (ad331.add ((t332).toNat * 2)).off + 1, none⟩ = some (.bool ((rd_T26 t327 t332).f1)) := hS_
    refine norm_ (a' := ?_) ?_ ?_
    rotate_left
    ·
     simp only [putAll, Act.put, List.setIfInBounds_toArray, List.set_cons_zero, List.set_cons_succ]
     rfl
    refine one_ (i := 10) (N := some 8) #[true,true,true,true,true,true,true,true,true,true,true,true,false,false] rfl rfl (one_of HT_.out (by kernel_rfl)) (by decide) (fun K hK => ?_)
    refine box_step ?hg (N := 8) ?hd (cs := #[.int .i64 0, .bool false]) (t := 26) ?hr ?_; (case hd => rfl); (case hg => rfl); (case hr => first | (go_simp; done) | (go_simp; rfl))
    intro gb334 hg w17 hbox hb
    have HS0_ := (hb.cell (World.block_lt_of_cell? _ _ (hHeld.1))).trans (hHeld.1)
    have HS1_ := (hb.cell (World.block_lt_of_cell? _ _ (hHeld.2.1))).trans (hHeld.2.1)
    have HS2_ := (hb.cell (World.block_lt_of_cell? _ _ (hHeld.2.2.1))).trans (hHeld.2.2.1)
    have HS3_ := (hb.cell (World.block_lt_of_cell? _ _ (hHeld.2.2.2))).trans (hHeld.2.2.2)
    have n0_ := Aside0.mk (Kd.R_below (Kd.R_elderB (by (with_reducible repeat (first | apply Kd.R_alloc | apply Kd.R_drewN | apply Kd.R_drew)); exact HO329.out) gb334 (Nat.le_of_eq hg.symm)) hb)
    have n1_ := Aside0.mk (blk_below (g := gb335) (o := .cells #[.int .i64 0, .bool false] 26 (0, 0)) (by (with_reducible repeat (first | refine blk_drewN ?_ _ | refine blk_drew ?_ | refine blk_alloc ?_ _)); exact BK335.out) hb)
    have n2_ := Aside0.mk (below_step (by repeat (first | (with_reducible first | exact HB.out | apply below_alloc | apply pw_below_drewN | apply below_drew1 | refine below_set ?_ GE335.out) | exact HB.out)) hb)
    have n3_ := Aside0.mk (hbox)
    have n4_ := Aside0.mk ((by rw [hg]; exact (below_size (by repeat (first | (with_reducible first | exact HB.out | apply below_alloc | apply pw_below_drewN | apply below_drew1 | refine below_set ?_ GE335.out) | exact HB.out))) : w.heap.size ≤ gb334))
    have n5_ := Aside0.mk ((by rw [hg]; exact (below_size (by repeat (first | (with_reducible first | exact HB.out | apply below_alloc | apply pw_below_drewN | apply below_drew1 | refine below_set ?_ GE335.out) | exact HB.out))) : w.heap.size ≤ gb334))
    have n6_ := Aside0.mk ((by rw [hg]; exact Nat.ne_of_lt (blk_lt (g := gb335) (o := .cells #[.int .i64 0, .bool false] 26 (0, 0)) (by (with_reducible repeat (first | refine blk_drewN ?_ _ | refine blk_drew ?_ | refine blk_alloc ?_ _)); exact BK335.out)) : gb335 ≠ gb334))
    have n7_ := Aside0.mk ((by rw [hg]; exact Nat.ne_of_gt (blk_lt (g := gb335) (o := .cells #[.int .i64 0, .bool false] 26 (0, 0)) (by (with_reducible repeat (first | refine blk_drewN ?_ _ | refine blk_drew ?_ | refine blk_alloc ?_ _)); exact BK335.out)) : gb334 ≠ gb335))
    clear HO329
    clear BK335
    clear HB
    have HO329 := n0_
    have BK335 := n1_
    have HB := n2_
    have BK334 := n3_
    have GW334 := n4_
    have GE334 := n5_
    have NB335_334 := n6_
    have NB334_335 := n7_
    clear n0_ n1_ n2_ n3_ n4_ n5_ n6_ n7_
    clear hb hbox hg
    refine hK.out _ _ ⟨HS0_, HS1_, HS2_, HS3_⟩ (fun hHeld => ?_)
    clear hK K
    refine norm_ (a' := ?_) ?_ ?_
    rotate_left
    ·
     show Act.put _ (some 8) _ = _
     simp only [Act.put, List.setIfInBounds_toArray, List.set_cons_zero, List.set_cons_succ, i64_w, i32_w]
     rfl
    exact norm_ (by first | (simp only [putAll, Act.put, List.setIfInBounds_toArray, List.set_cons_zero, List.set_cons_succ]; done) | (simp only [putAll, Act.put, List.setIfInBounds_toArray, List.set_cons_zero, List.set_cons_succ]; rfl)) (hJ2_7_10_11 (gb334, gb335) _ ⟨hHeld, (by (with_reducible repeat (first | apply Kd.R_alloc | apply Kd.R_drewN | apply Kd.R_drew)); exact Kd.R_mono HO329.out (fun _ hk => ⟨hk.2, hk.1⟩)), (by (with_reducible repeat (first | refine blk_drewN ?_ _ | refine blk_drew ?_ | refine blk_alloc ?_ _)); exact BK334.out), (by (with_reducible repeat (first | refine blk_drewN ?_ _ | refine blk_drew ?_ | refine blk_alloc ?_ _)); exact BK335.out), GW334.out, GE334.out, NB335_334.out, NB334_335.out, GW335.out, GE335.out, (by repeat (first | (with_reducible first | exact HB.out | apply below_alloc | apply pw_below_drewN | apply below_drew1 | refine below_set ?_ GE335.out | refine below_set ?_ GE334.out) | exact HB.out))⟩)
  ·
   skip
   rintro gb334 w16 ⟨hS_, h0_, h1_, h2_, h3_, h4_⟩
   have n0_ : Aside0 (Kd.R k26 26 w16 w.heap.size (fun k_ => k_ ≠ gb334) (.slice (some ad331) t327.length co13) t327) := ⟨h0_⟩
   have n1_ : Aside0 (w16.heap[gb334]? = some (.cells #[.int .i64 0, .bool false] 26 (0, 0))) := ⟨h1_⟩
   have n2_ : Aside0 (w.heap.size ≤ gb334) := ⟨h2_⟩
   have n3_ : Aside0 (w.heap.size ≤ gb334) := ⟨h3_⟩
   have n4_ : Aside0 (Below w.heap.size w w16) := ⟨h4_⟩
   clear HO329
   clear HB
   clear h0_ h1_ h2_ h3_ h4_
   have HO329 := n0_
   have BK334 := n1_
   have GW334 := n2_
   have GE334 := n3_
   have HB := n4_
   clear n0_ n1_ n2_ n3_ n4_
   have hHeld : w16.cell? (ad331.add ((t330).toNat * 2)) = some (.int .i64 ((rd_T26 t327 t330).f0)) ∧ w16.cell? ⟨(ad331.add ((t330).toNat * 2)).block, (ad331.add ((t330).toNat * 2)).off + 1, none⟩ = some (.bool ((rd_T26 t327 t330).f1)) ∧ w16.cell? (ad331.add ((t332).toNat * 2)) = some (.int .i64 ((rd_T26 t327 t332).f0)) ∧ w16.cell? ⟨(ad331.add ((t332).toNat * 2)).block, (ad331.add ((t332).toNat * 2)).off + 1, none⟩ = some (.bool ((rd_T26 t327 t332).f1)) := hS_
   refine norm_ (a' := ?_) ?_ ?_
   rotate_left
   ·
    simp only [putAll, Act.put, List.setIfInBounds_toArray, List.set_cons_zero, List.set_cons_succ]
    rfl
   refine one_ (i := 11) (N := some 9) #[true,true,true,true,true,true,true,true,true,true,true,true,false,false] rfl rfl (one_of HT_.out (by kernel_rfl)) (by decide) (fun K hK => ?_)
   refine box_step ?hg (N := 9) ?hd (cs := #[.int .i64 0, .bool false]) (t := 26) ?hr ?_; (case hd => rfl); (case hg => rfl); (case hr => first | (go_simp; done) | (go_simp; rfl))
   intro gb335 hg w17 hbox hb
   have HS0_ := (hb.cell (World.block_lt_of_cell? _ _ (hHeld.1))).trans (hHeld.1)
   have HS1_ := (hb.cell (World.block_lt_of_cell? _ _ (hHeld.2.1))).trans (hHeld.2.1)
   have HS2_ := (hb.cell (World.block_lt_of_cell? _ _ (hHeld.2.2.1))).trans (hHeld.2.2.1)
   have HS3_ := (hb.cell (World.block_lt_of_cell? _ _ (hHeld.2.2.2))).trans (hHeld.2.2.2)
   have n0_ := Aside0.mk (Kd.R_below (Kd.R_elderB (by (with_reducible repeat (first | apply Kd.R_alloc | apply Kd.R_drewN | apply Kd.R_drew)); exact HO329.out) gb335 (Nat.le_of_eq hg.symm)) hb)
   have n1_ := Aside0.mk (blk_below (g := gb334) (o := .cells #[.int .i64 0, .bool false] 26 (0, 0)) (by (with_reducible repeat (first | refine blk_drewN ?_ _ | refine blk_drew ?_ | refine blk_alloc ?_ _)); exact BK334.out) hb)
   have n2_ := Aside0.mk (below_step (by repeat (first | (with_reducible first | exact HB.out | apply below_alloc | apply pw_below_drewN | apply below_drew1 | refine below_set ?_ GE334.out) | exact HB.out)) hb)
   have n3_ := Aside0.mk (hbox)
   have n4_ := Aside0.mk ((by rw [hg]; exact (below_size (by repeat (first | (with_reducible first | exact HB.out | apply below_alloc | apply pw_below_drewN | apply below_drew1 | refine below_set ?_ GE334.out) | exact HB.out))) : w.heap.size ≤ gb335))
   have n5_ := Aside0.mk ((by rw [hg]; exact (below_size (by repeat (first | (with_reducible first | exact HB.out | apply below_alloc | apply pw_below_drewN | apply below_drew1 | refine below_set ?_ GE334.out) | exact HB.out))) : w.heap.size ≤ gb335))
   have n6_ := Aside0.mk ((by rw [hg]; exact Nat.ne_of_lt (blk_lt (g := gb334) (o := .cells #[.int .i64 0, .bool false] 26 (0, 0)) (by (with_reducible repeat (first | refine blk_drewN ?_ _ | refine blk_drew ?_ | refine blk_alloc ?_ _)); exact BK334.out)) : gb334 ≠ gb335))
   have n7_ := Aside0.mk ((by rw [hg]; exact Nat.ne_of_gt (blk_lt (g := gb334) (o := .cells #[.int .i64 0, .bool false] 26 (0, 0)) (by (with_reducible repeat (first | refine blk_drewN ?_ _ | refine blk_drew ?_ | refine blk_alloc ?_ _)); exact BK334.out)) : gb335 ≠ gb334))
   clear HO329
   clear BK334
   clear HB
   have HO329 := n0_
   have BK334 := n1_
   have HB := n2_
   have BK335 := n3_
   have GW335 := n4_
   have GE335 := n5_
   have NB334_335 := n6_
   have NB335_334 := n7_
   clear n0_ n1_ n2_ n3_ n4_ n5_ n6_ n7_
   clear hb hbox hg
   refine hK.out _ _ ⟨HS0_, HS1_, HS2_, HS3_⟩ (fun hHeld => ?_)
   clear hK K
   refine norm_ (a' := ?_) ?_ ?_
   rotate_left
   ·
    show Act.put _ (some 9) _ = _
    simp only [Act.put, List.setIfInBounds_toArray, List.set_cons_zero, List.set_cons_succ, i64_w, i32_w]
    rfl
   exact norm_ (by first | (simp only [putAll, Act.put, List.setIfInBounds_toArray, List.set_cons_zero, List.set_cons_succ]; done) | (simp only [putAll, Act.put, List.setIfInBounds_toArray, List.set_cons_zero, List.set_cons_succ]; rfl)) (hJ2_7_10_11 (gb334, gb335) _ ⟨hHeld, (by (with_reducible repeat (first | apply Kd.R_alloc | apply Kd.R_drewN | apply Kd.R_drew)); exact HO329.out), (by (with_reducible repeat (first | refine blk_drewN ?_ _ | refine blk_drew ?_ | refine blk_alloc ?_ _)); exact BK334.out), (by (with_reducible repeat (first | refine blk_drewN ?_ _ | refine blk_drew ?_ | refine blk_alloc ?_ _)); exact BK335.out), GW334.out, GE334.out, NB335_334.out, NB334_335.out, GW335.out, GE335.out, (by repeat (first | (with_reducible first | exact HB.out | apply below_alloc | apply pw_below_drewN | apply below_drew1 | refine below_set ?_ GE334.out | refine below_set ?_ GE335.out) | exact HB.out))⟩)
 rintro ⟨gb334, gb335⟩ w17 ⟨hS_, h0_, h1_, h2_, h3_, h4_, h5_, h6_, h7_, h8_, h9_⟩
 have n0_ : Aside0 (Kd.R k26 26 w17 w.heap.size (fun k_ => k_ ≠ gb334 ∧ k_ ≠ gb335) (.slice (some ad331) t327.length co13) t327) := ⟨h0_⟩
 have n1_ : Aside0 (w17.heap[gb334]? = some (.cells #[.int .i64 0, .bool false] 26 (0, 0))) := ⟨h1_⟩
 have n2_ : Aside0 (w17.heap[gb335]? = some (.cells #[.int .i64 0, .bool false] 26 (0, 0))) := ⟨h2_⟩
 have n3_ : Aside0 (w.heap.size ≤ gb334) := ⟨h3_⟩
 have n4_ : Aside0 (w.heap.size ≤ gb334) := ⟨h4_⟩
 have n5_ : Aside0 (gb335 ≠ gb334) := ⟨h5_⟩
 have n6_ : Aside0 (gb334 ≠ gb335) := ⟨h6_⟩
 have n7_ : Aside0 (w.heap.size ≤ gb335) := ⟨h7_⟩
 have n8_ : Aside0 (w.heap.size ≤ gb335) := ⟨h8_⟩
 have n9_ : Aside0 (Below w.heap.size w w17) := ⟨h9_⟩
 clear HO329
 clear HB
 clear h0_ h1_ h2_ h3_ h4_ h5_ h6_ h7_ h8_ h9_
 have HO329 := n0_
 have BK334 := n1_
 have BK335 := n2_
 have GW334 := n3_
 have GE334 := n4_
 have NB335_334 := n5_
 have NB334_335 := n6_
 have GW335 := n7_
 have GE335 := n8_
 have HB := n9_
 clear n0_ n1_ n2_ n3_ n4_ n5_ n6_ n7_ n8_ n9_
 have hHeld : w17.cell? (ad331.add ((t330).toNat * 2)) = some (.int .i64 ((rd_T26 t327 t330).f0)) ∧ w17.cell? ⟨(ad331.add ((t330).toNat * 2)).block, (ad331.add ((t330).toNat * 2)).off + 1, none⟩ = some (.bool ((rd_T26 t327 t330).f1)) ∧ w17.cell? (ad331.add ((t332).toNat * 2)) = some (.int .i64 ((rd_T26 t327 t332).f0)) ∧ w17.cell? ⟨(ad331.add ((t332).toNat * 2)).block, (ad331.add ((t332).toNat * 2)).off + 1, none⟩ = some (.bool ((rd_T26 t327 t332).f1)) := hS_
 refine norm_ (a' := ?_) ?_ ?_
 rotate_left
 ·
  simp only [putAll, Act.put, List.setIfInBounds_toArray, List.set_cons_zero, List.set_cons_succ]
  rfl
 refine one_ (i := 12) (N := none) #[true,true,true,true,true,true,true,true,true,true,true,true,true,false] rfl rfl (one_of HT_.out (by kernel_rfl)) (by decide) (fun K hK => ?_)
 have hs18 : w17.cell? ⟨gb334, 0, none⟩ = some (.int .i64 0) := (blk_cell BK334.out 0).trans rfl
 have hfs18 := blk_frozen BK334.out 0
 have hns18_1 := NB335_334.out
 have hms18_1 := NB334_335.out
 have hs19 : w17.cell? ⟨gb334, 1, none⟩ = some (.bool false) := (blk_cell BK334.out 1).trans rfl
 have hfs19 := blk_frozen BK334.out 1
 have hns19_1 := NB335_334.out
 have hms19_1 := NB334_335.out
 refine skip_ (w1 := ?_) (by rfl) rfl ?_ ?_
 rotate_left
 ·
  go_simp
  rfl
 refine hK.out _ _ ⟨((cell_far (p := ⟨gb334, _, none⟩) (by first | exact Kd.own_blk (Kd.R_away HO329.out (fun _ hk => hk.1)) | (rw [add_block]; exact Kd.own_blk (Kd.R_away HO329.out (fun _ hk => hk.1))) | (show (Addr.add _ _).block ≠ _; rw [add_block]; exact Kd.own_blk (Kd.R_away HO329.out (fun _ hk => hk.1))) | (dsimp only; exact Kd.own_blk (Kd.R_away HO329.out (fun _ hk => hk.1)))) _).trans (((cell_far (p := ⟨gb334, _, none⟩) (by first | exact Kd.own_blk (Kd.R_away HO329.out (fun _ hk => hk.1)) | (rw [add_block]; exact Kd.own_blk (Kd.R_away HO329.out (fun _ hk => hk.1))) | (show (Addr.add _ _).block ≠ _; rw [add_block]; exact Kd.own_blk (Kd.R_away HO329.out (fun _ hk => hk.1))) | (dsimp only; exact Kd.own_blk (Kd.R_away HO329.out (fun _ hk => hk.1)))) _).trans (hHeld.1)))), ((cell_far (p := ⟨gb334, _, none⟩) (by first | exact Kd.own_blk (Kd.R_away HO329.out (fun _ hk => hk.1)) | (rw [add_block]; exact Kd.own_blk (Kd.R_away HO329.out (fun _ hk => hk.1))) | (show (Addr.add _ _).block ≠ _; rw [add_block]; exact Kd.own_blk (Kd.R_away HO329.out (fun _ hk => hk.1))) | (dsimp only; exact Kd.own_blk (Kd.R_away HO329.out (fun _ hk => hk.1)))) _).trans (((cell_far (p := ⟨gb334, _, none⟩) (by first | exact Kd.own_blk (Kd.R_away HO329.out (fun _ hk => hk.1)) | (rw [add_block]; exact Kd.own_blk (Kd.R_away HO329.out (fun _ hk => hk.1))) | (show (Addr.add _ _).block ≠ _; rw [add_block]; exact Kd.own_blk (Kd.R_away HO329.out (fun _ hk => hk.1))) | (dsimp only; exact Kd.own_blk (Kd.R_away HO329.out (fun _ hk => hk.1)))) _).trans (hHeld.2.1)))), ((cell_far (p := ⟨gb334, _, none⟩) (by first | exact Kd.own_blk (Kd.R_away HO329.out (fun _ hk => hk.1)) | (rw [add_block]; exact Kd.own_blk (Kd.R_away HO329.out (fun _ hk => hk.1))) | (show (Addr.add _ _).block ≠ _; rw [add_block]; exact Kd.own_blk (Kd.R_away HO329.out (fun _ hk => hk.1))) | (dsimp only; exact Kd.own_blk (Kd.R_away HO329.out (fun _ hk => hk.1)))) _).trans (((cell_far (p := ⟨gb334, _, none⟩) (by first | exact Kd.own_blk (Kd.R_away HO329.out (fun _ hk => hk.1)) | (rw [add_block]; exact Kd.own_blk (Kd.R_away HO329.out (fun _ hk => hk.1))) | (show (Addr.add _ _).block ≠ _; rw [add_block]; exact Kd.own_blk (Kd.R_away HO329.out (fun _ hk => hk.1))) | (dsimp only; exact Kd.own_blk (Kd.R_away HO329.out (fun _ hk => hk.1)))) _).trans (hHeld.2.2.1)))), ((cell_far (p := ⟨gb334, _, none⟩) (by first | exact Kd.own_blk (Kd.R_away HO329.out (fun _ hk => hk.1)) | (rw [add_block]; exact Kd.own_blk (Kd.R_away HO329.out (fun _ hk => hk.1))) | (show (Addr.add _ _).block ≠ _; rw [add_block]; exact Kd.own_blk (Kd.R_away HO329.out (fun _ hk => hk.1))) | (dsimp only; exact Kd.own_blk (Kd.R_away HO329.out (fun _ hk => hk.1)))) _).trans (((cell_far (p := ⟨gb334, _, none⟩) (by first | exact Kd.own_blk (Kd.R_away HO329.out (fun _ hk => hk.1)) | (rw [add_block]; exact Kd.own_blk (Kd.R_away HO329.out (fun _ hk => hk.1))) | (show (Addr.add _ _).block ≠ _; rw [add_block]; exact Kd.own_blk (Kd.R_away HO329.out (fun _ hk => hk.1))) | (dsimp only; exact Kd.own_blk (Kd.R_away HO329.out (fun _ hk => hk.1)))) _).trans (hHeld.2.2.2))))⟩ (fun hHeld => ?_)
 clear hK K
 refine one_ (i := 13) (N := none) #[true,true,true,true,true,true,true,true,true,true,true,true,true,true] rfl rfl (one_of HT_.out (by kernel_rfl)) (by decide) (fun K hK => ?_)
 have hs20 : w17.cell? ⟨gb335, 0, none⟩ = some (.int .i64 0) := (blk_cell BK335.out 0).trans rfl
 have hfs20 := blk_frozen BK335.out 0
 have hns20_0 := NB334_335.out
 have hms20_0 := NB335_334.out
 have hs21 : w17.cell? ⟨gb335, 1, none⟩ = some (.bool false) := (blk_cell BK335.out 1).trans rfl
 have hfs21 := blk_frozen BK335.out 1
 have hns21_0 := NB334_335.out
 have hms21_0 := NB335_334.out
 refine skip_ (w1 := ?_) (by rfl) rfl ?_ ?_
 rotate_left
 ·
  go_simp
  rfl
 refine hK.out _ _ ⟨((cell_far (p := ⟨gb335, _, none⟩) (by first | exact Kd.own_blk (Kd.R_away HO329.out (fun _ hk => hk.2)) | (rw [add_block]; exact Kd.own_blk (Kd.R_away HO329.out (fun _ hk => hk.2))) | (show (Addr.add _ _).block ≠ _; rw [add_block]; exact Kd.own_blk (Kd.R_away HO329.out (fun _ hk => hk.2))) | (dsimp only; exact Kd.own_blk (Kd.R_away HO329.out (fun _ hk => hk.2)))) _).trans (((cell_far (p := ⟨gb335, _, none⟩) (by first | exact Kd.own_blk (Kd.R_away HO329.out (fun _ hk => hk.2)) | (rw [add_block]; exact Kd.own_blk (Kd.R_away HO329.out (fun _ hk => hk.2))) | (show (Addr.add _ _).block ≠ _; rw [add_block]; exact Kd.own_blk (Kd.R_away HO329.out (fun _ hk => hk.2))) | (dsimp only; exact Kd.own_blk (Kd.R_away HO329.out (fun _ hk => hk.2)))) _).trans (hHeld.1)))), ((cell_far (p := ⟨gb335, _, none⟩) (by first | exact Kd.own_blk (Kd.R_away HO329.out (fun _ hk => hk.2)) | (rw [add_block]; exact Kd.own_blk (Kd.R_away HO329.out (fun _ hk => hk.2))) | (show (Addr.add _ _).block ≠ _; rw [add_block]; exact Kd.own_blk (Kd.R_away HO329.out (fun _ hk => hk.2))) | (dsimp only; exact Kd.own_blk (Kd.R_away HO329.out (fun _ hk => hk.2)))) _).trans (((cell_far (p := ⟨gb335, _, none⟩) (by first | exact Kd.own_blk (Kd.R_away HO329.out (fun _ hk => hk.2)) | (rw [add_block]; exact Kd.own_blk (Kd.R_away HO329.out (fun _ hk => hk.2))) | (show (Addr.add _ _).block ≠ _; rw [add_block]; exact Kd.own_blk (Kd.R_away HO329.out (fun _ hk => hk.2))) | (dsimp only; exact Kd.own_blk (Kd.R_away HO329.out (fun _ hk => hk.2)))) _).trans (hHeld.2.1)))), ((cell_far (p := ⟨gb335, _, none⟩) (by first | exact Kd.own_blk (Kd.R_away HO329.out (fun _ hk => hk.2)) | (rw [add_block]; exact Kd.own_blk (Kd.R_away HO329.out (fun _ hk => hk.2))) | (show (Addr.add _ _).block ≠ _; rw [add_block]; exact Kd.own_blk (Kd.R_away HO329.out (fun _ hk => hk.2))) | (dsimp only; exact Kd.own_blk (Kd.R_away HO329.out (fun _ hk => hk.2)))) _).trans (((cell_far (p := ⟨gb335, _, none⟩) (by first | exact Kd.own_blk (Kd.R_away HO329.out (fun _ hk => hk.2)) | (rw [add_block]; exact Kd.own_blk (Kd.R_away HO329.out (fun _ hk => hk.2))) | (show (Addr.add _ _).block ≠ _; rw [add_block]; exact Kd.own_blk (Kd.R_away HO329.out (fun _ hk => hk.2))) | (dsimp only; exact Kd.own_blk (Kd.R_away HO329.out (fun _ hk => hk.2)))) _).trans (hHeld.2.2.1)))), ((cell_far (p := ⟨gb335, _, none⟩) (by first | exact Kd.own_blk (Kd.R_away HO329.out (fun _ hk => hk.2)) | (rw [add_block]; exact Kd.own_blk (Kd.R_away HO329.out (fun _ hk => hk.2))) | (show (Addr.add _ _).block ≠ _; rw [add_block]; exact Kd.own_blk (Kd.R_away HO329.out (fun _ hk => hk.2))) | (dsimp only; exact Kd.own_blk (Kd.R_away HO329.out (fun _ hk => hk.2)))) _).trans (((cell_far (p := ⟨gb335, _, none⟩) (by first | exact Kd.own_blk (Kd.R_away HO329.out (fun _ hk => hk.2)) | (rw [add_block]; exact Kd.own_blk (Kd.R_away HO329.out (fun _ hk => hk.2))) | (show (Addr.add _ _).block ≠ _; rw [add_block]; exact Kd.own_blk (Kd.R_away HO329.out (fun _ hk => hk.2))) | (dsimp only; exact Kd.own_blk (Kd.R_away HO329.out (fun _ hk => hk.2)))) _).trans (hHeld.2.2.2))))⟩ (fun hHeld => ?_)
 clear hK K
 refine done_ (done_of HT_.out (by kernel_rfl)) ?_
 go_upto_region 3 with (fail)
 go_cut [47] (fun v47 wc => ∃ (kq : Nat) (x47_10 : Bool), v47 = .bool x47_10 ∧ Aside0 (spokeshavelaw1_WordTurns.j0 kq a2 x47_10 ((rd_T26 t327 t332).f0) ((rd_T26 t327 t332).f1) = some r) ∧ Aside0 (kq ≤ k) ∧ Aside0 (wc.heap[gb334]? = some (.cells #[.int .i64 ((rd_T26 t327 t330).f0), .bool ((rd_T26 t327 t330).f1)] 26 (0, 0))) ∧ Aside0 (wc.heap[gb335]? = some (.cells #[.int .i64 ((rd_T26 t327 t332).f0), .bool ((rd_T26 t327 t332).f1)] 26 (0, 0))) ∧ Aside0 (Below w.heap.size w wc))
 case first =>
  have H := HC11.out
  clear HC11
  by_cases c22 : ((rd_T26 t327 t330).f0) ≥ ((rd_T26 t327 t332).f0)
  ·
   rw [if_pos c22] at H
   have c22b0 : decide (((rd_T26 t327 t332).f0) ≤ ((rd_T26 t327 t330).f0)) = true := decide_eq_true c22
   clear c22
   (first | rw [c22b0] | (simp only [i64_w, i32_w]; rw [c22b0]) | skip)
   replace H := Option.bind_eq_some_iff.mp H
   obtain ⟨t336, A230, H⟩ := H
   replace H : ((word_Wrap.f ((rd_T26 t327 t332).f0) ((rd_T26 t327 t332).f1) t336).bind fun t337 => ((word_Wrap.f ((rd_T26 t327 t332).f0) ((rd_T26 t327 t332).f1) a2).bind fun t338 => (spokeshavelaw1_WordTurns.j0 k a2 (t337 != t338) ((rd_T26 t327 t332).f0) ((rd_T26 t327 t332).f1)))) = some r := H
   have A23 := Aside0.mk A230
   clear A230
   replace H := Option.bind_eq_some_iff.mp H
   obtain ⟨t337, A240, H⟩ := H
   replace H : ((word_Wrap.f ((rd_T26 t327 t332).f0) ((rd_T26 t327 t332).f1) a2).bind fun t338 => (spokeshavelaw1_WordTurns.j0 k a2 (t337 != t338) ((rd_T26 t327 t332).f0) ((rd_T26 t327 t332).f1))) = some r := H
   have A24 := Aside0.mk A240
   clear A240
   replace H := Option.bind_eq_some_iff.mp H
   obtain ⟨t338, A250, H⟩ := H
   replace H : (spokeshavelaw1_WordTurns.j0 k a2 (t337 != t338) ((rd_T26 t327 t332).f0) ((rd_T26 t327 t332).f1)) = some r := H
   have A25 := Aside0.mk A250
   clear A250
   have H' := Aside0.mk H
   clear H
   try go_wp2
   have n0_ : Aside0 (Kd.R k26 26 ((((w17.setCell ⟨gb334, 0, none⟩ (.int .i64 ((rd_T26 t327 t330).f0))).setCell ⟨gb334, 1, none⟩ (.bool ((rd_T26 t327 t330).f1))).setCell ⟨gb335, 0, none⟩ (.int .i64 ((rd_T26 t327 t332).f0))).setCell ⟨gb335, 1, none⟩ (.bool ((rd_T26 t327 t332).f1))) w.heap.size (fun k_ => k_ ≠ gb334 ∧ k_ ≠ gb335) (.slice (some ad331) t327.length co13) t327) := ⟨by (with_reducible repeat (first | apply Kd.R_alloc | apply Kd.R_drewN | apply Kd.R_drew)); exact Kd.R_mono (Kd.R_far (p := ⟨gb335, 1, none⟩) (Kd.R_far (p := ⟨gb335, 0, none⟩) (Kd.R_far (p := ⟨gb334, 1, none⟩) (Kd.R_far (p := ⟨gb334, 0, none⟩) (Kd.R_mono (Kd.R_mono HO329.out (fun k_ hk => (⟨hk, hk.1⟩ : _ ∧ k_ ≠ gb334))) (fun k_ hk => (⟨hk, hk.1.2⟩ : _ ∧ k_ ≠ gb335))) (fun _ hk => hk.1.2) (.int .i64 ((rd_T26 t327 t330).f0))) (fun _ hk => hk.1.2) (.bool ((rd_T26 t327 t330).f1))) (fun _ hk => hk.2) (.int .i64 ((rd_T26 t327 t332).f0))) (fun _ hk => hk.2) (.bool ((rd_T26 t327 t332).f1))) (fun _ hk => ⟨hk.1.1.1, hk.1.1.2⟩)⟩
   have n1_ : Aside0 (((((w17.setCell ⟨gb334, 0, none⟩ (.int .i64 ((rd_T26 t327 t330).f0))).setCell ⟨gb334, 1, none⟩ (.bool ((rd_T26 t327 t330).f1))).setCell ⟨gb335, 0, none⟩ (.int .i64 ((rd_T26 t327 t332).f0))).setCell ⟨gb335, 1, none⟩ (.bool ((rd_T26 t327 t332).f1))).heap[gb334]? = some (.cells #[.int .i64 ((rd_T26 t327 t330).f0), .bool ((rd_T26 t327 t330).f1)] 26 (0, 0))) := ⟨by (with_reducible repeat (first | refine blk_drewN ?_ _ | refine blk_drew ?_ | refine blk_alloc ?_ _)); refine blk_far ?_ NB334_335.out _; (with_reducible repeat (first | refine blk_drewN ?_ _ | refine blk_drew ?_ | refine blk_alloc ?_ _)); refine blk_far ?_ NB334_335.out _; (with_reducible repeat (first | refine blk_drewN ?_ _ | refine blk_drew ?_ | refine blk_alloc ?_ _)); refine blk_put (cs := #[.int .i64 ((rd_T26 t327 t330).f0), .bool false]) ?_ 1 _ rfl; (with_reducible repeat (first | refine blk_drewN ?_ _ | refine blk_drew ?_ | refine blk_alloc ?_ _)); refine blk_put (cs := #[.int .i64 0, .bool false]) ?_ 0 _ rfl; (with_reducible repeat (first | refine blk_drewN ?_ _ | refine blk_drew ?_ | refine blk_alloc ?_ _)); exact BK334.out⟩
   have n2_ : Aside0 (((((w17.setCell ⟨gb334, 0, none⟩ (.int .i64 ((rd_T26 t327 t330).f0))).setCell ⟨gb334, 1, none⟩ (.bool ((rd_T26 t327 t330).f1))).setCell ⟨gb335, 0, none⟩ (.int .i64 ((rd_T26 t327 t332).f0))).setCell ⟨gb335, 1, none⟩ (.bool ((rd_T26 t327 t332).f1))).heap[gb335]? = some (.cells #[.int .i64 ((rd_T26 t327 t332).f0), .bool ((rd_T26 t327 t332).f1)] 26 (0, 0))) := ⟨by (with_reducible repeat (first | refine blk_drewN ?_ _ | refine blk_drew ?_ | refine blk_alloc ?_ _)); refine blk_put (cs := #[.int .i64 ((rd_T26 t327 t332).f0), .bool false]) ?_ 1 _ rfl; (with_reducible repeat (first | refine blk_drewN ?_ _ | refine blk_drew ?_ | refine blk_alloc ?_ _)); refine blk_put (cs := #[.int .i64 0, .bool false]) ?_ 0 _ rfl; (with_reducible repeat (first | refine blk_drewN ?_ _ | refine blk_drew ?_ | refine blk_alloc ?_ _)); refine blk_far ?_ NB335_334.out _; (with_reducible repeat (first | refine blk_drewN ?_ _ | refine blk_drew ?_ | refine blk_alloc ?_ _)); refine blk_far ?_ NB335_334.out _; (with_reducible repeat (first | refine blk_drewN ?_ _ | refine blk_drew ?_ | refine blk_alloc ?_ _)); exact BK335.out⟩
   have n3_ : Aside0 (Below w.heap.size w ((((w17.setCell ⟨gb334, 0, none⟩ (.int .i64 ((rd_T26 t327 t330).f0))).setCell ⟨gb334, 1, none⟩ (.bool ((rd_T26 t327 t330).f1))).setCell ⟨gb335, 0, none⟩ (.int .i64 ((rd_T26 t327 t332).f0))).setCell ⟨gb335, 1, none⟩ (.bool ((rd_T26 t327 t332).f1)))) := ⟨by repeat (first | (with_reducible first | exact HB.out | apply below_alloc | apply pw_below_drewN | apply below_drew1 | refine below_set ?_ GE334.out | refine below_set ?_ GE335.out) | exact HB.out)⟩
   (try clear HO329)
   (try clear BK334)
   (try clear BK335)
   (try clear HB)
   generalize ((((w17.setCell ⟨gb334, 0, none⟩ (.int .i64 ((rd_T26 t327 t330).f0))).setCell ⟨gb334, 1, none⟩ (.bool ((rd_T26 t327 t330).f1))).setCell ⟨gb335, 0, none⟩ (.int .i64 ((rd_T26 t327 t332).f0))).setCell ⟨gb335, 1, none⟩ (.bool ((rd_T26 t327 t332).f1))) = w26 at n0_ n1_ n2_ n3_ ⊢
   have HO329 := n0_
   have BK334 := n1_
   have BK335 := n2_
   have HB := n3_
   clear n0_ n1_ n2_ n3_
   have n0_ := Aside0.mk (Kd.R_drew HO329.out)
   have n1_ := Aside0.mk (blk_drew BK334.out)
   have n2_ := Aside0.mk (blk_drew BK335.out)
   have n3_ := Aside0.mk (below_drew1 HB.out)
   clear HO329
   clear BK334
   clear BK335
   clear HB
   have HO329 := n0_
   have BK334 := n1_
   have BK335 := n2_
   have HB := n3_
   clear n0_ n1_ n2_ n3_
   refine start_ (n := 16) (S := fun w' => w'.cell? ⟨gb334, 0, none⟩ = some (.int .i64 ((rd_T26 t327 t330).f0)) ∧ w'.cell? ⟨gb334, 1, none⟩ = some (.bool ((rd_T26 t327 t330).f1)) ∧ w'.cell? ⟨gb335, 0, none⟩ = some (.int .i64 ((rd_T26 t327 t332).f0)) ∧ w'.cell? ⟨gb335, 1, none⟩ = some (.bool ((rd_T26 t327 t332).f1))) (ds := []) #[false,false,false,false,false,false,false,false,false,false,false,false,false,false,false,false] (by kernel_rfl) rfl rfl ⟨(blk_cell BK334.out 0).trans rfl, (blk_cell BK334.out 1).trans rfl, (blk_cell BK335.out 0).trans rfl, (blk_cell BK335.out 1).trans rfl⟩ (fun hHeld => ?_); refine with_tabW spokeshavelaw1_WordTurns.tab3 spokeshavelaw1_WordTurns.bits3 (fun HT_ HW_ => ?_)
   generalize w26.drew = w27 at HO329 BK334 BK335 HB hHeld ⊢
   refine pure_ (i := 0) (N := some 32) (v := ?_) (a' := ?_) #[true,false,false,false,false,false,false,false,false,false,false,false,false,false,false,false] rfl rfl (any_of HT_.out (by kernel_rfl)) (fun _ _ _ h => h) (Or.inl ⟨by rfl, ?_⟩) ?_ ?_
   rotate_left
   ·
    intro w'
    go_simp
    with_reducible rfl
   rotate_left
   ·
    simp only [Act.put, List.setIfInBounds_toArray, List.set_cons_zero, List.set_cons_succ, i64_w, i32_w]
    rfl
   refine pure_ (i := 2) (N := some 34) (v := ?_) (a' := ?_) #[true,false,true,false,false,false,false,false,false,false,false,false,false,false,false,false] rfl rfl (any_of HT_.out (by kernel_rfl)) (fun _ _ _ h => h) (Or.inl ⟨by rfl, ?_⟩) ?_ ?_
   rotate_left
   ·
    intro w'
    go_simp
    with_reducible rfl
   rotate_left
   ·
    simp only [Act.put, List.setIfInBounds_toArray, List.set_cons_zero, List.set_cons_succ, i64_w, i32_w]
    rfl
   refine take_ (i := 1) (N := some 33) (v := ?_) (a' := ?_) #[true,true,true,false,false,false,false,false,false,false,false,false,false,false,false,false] rfl rfl (take_ofW HT_.out HW_.out (by kernel_rfl)) (fun _ _ _ h => h) (Or.inl ⟨by rfl, ?_⟩) hHeld ?_ ?_
   rotate_left
   ·
    rintro w' ⟨s0, s1, s2, s3⟩
    go_simp
    with_reducible rfl
   rotate_left
   ·
    simp only [Act.put, List.setIfInBounds_toArray, List.set_cons_zero, List.set_cons_succ, i64_w, i32_w]
    rfl
   refine take_ (i := 3) (N := some 35) (v := ?_) (a' := ?_) #[true,true,true,true,false,false,false,false,false,false,false,false,false,false,false,false] rfl rfl (take_ofW HT_.out HW_.out (by kernel_rfl)) (fun _ _ _ h => h) (Or.inl ⟨by rfl, ?_⟩) hHeld ?_ ?_
   rotate_left
   ·
    rintro w' ⟨s0, s1, s2, s3⟩
    go_simp
    with_reducible rfl
   rotate_left
   ·
    simp only [Act.put, List.setIfInBounds_toArray, List.set_cons_zero, List.set_cons_succ, i64_w, i32_w]
    rfl
   refine pure_ (i := 4) (N := some 36) (v := ?_) (a' := ?_) #[true,true,true,true,true,false,false,false,false,false,false,false,false,false,false,false] rfl rfl (any_of HT_.out (by kernel_rfl)) (fun _ _ _ h => h) (Or.inl ⟨by rfl, ?_⟩) ?_ ?_
   rotate_left
   ·
    intro w'
    go_simp
    with_reducible rfl
   rotate_left
   ·
    simp only [Act.put, List.setIfInBounds_toArray, List.set_cons_zero, List.set_cons_succ, i64_w, i32_w]
    rfl
   refine pure_ (i := 5) (N := some 37) (v := ?_) (a' := ?_) #[true,true,true,true,true,true,false,false,false,false,false,false,false,false,false,false] rfl rfl (any_of HT_.out (by kernel_rfl)) (fun _ _ _ h => h) (Or.inl ⟨by rfl, ?_⟩) ?_ ?_
   rotate_left
   ·
    intro w'
    go_simp
    with_reducible rfl
   rotate_left
   ·
    simp only [Act.put, List.setIfInBounds_toArray, List.set_cons_zero, List.set_cons_succ, i64_w, i32_w]
    rfl
   refine pure_ (i := 8) (N := some 40) (v := ?_) (a' := ?_) #[true,true,true,true,true,true,false,false,true,false,false,false,false,false,false,false] rfl rfl (any_of HT_.out (by kernel_rfl)) (fun _ _ _ h => h) (Or.inl ⟨by rfl, ?_⟩) ?_ ?_
   rotate_left
   ·
    intro w'
    go_simp
    with_reducible rfl
   rotate_left
   ·
    simp only [Act.put, List.setIfInBounds_toArray, List.set_cons_zero, List.set_cons_succ, i64_w, i32_w]
    rfl
   refine pure_ (i := 12) (N := some 44) (v := ?_) (a' := ?_) #[true,true,true,true,true,true,false,false,true,false,false,false,true,false,false,false] rfl rfl (any_of HT_.out (by kernel_rfl)) (fun _ _ _ h => h) (Or.inl ⟨by rfl, ?_⟩) ?_ ?_
   rotate_left
   ·
    intro w'
    go_simp
    with_reducible rfl
   rotate_left
   ·
    simp only [Act.put, List.setIfInBounds_toArray, List.set_cons_zero, List.set_cons_succ, i64_w, i32_w]
    rfl
   refine take_ (i := 6) (N := some 38) (v := ?_) (a' := ?_) #[true,true,true,true,true,true,true,false,true,false,false,false,true,false,false,false] rfl rfl (take_ofW HT_.out HW_.out (by kernel_rfl)) (fun _ _ _ h => h) (Or.inl ⟨by rfl, ?_⟩) hHeld ?_ ?_
   rotate_left
   ·
    rintro w' ⟨s0, s1, s2, s3⟩
    go_simp
    with_reducible rfl
   rotate_left
   ·
    simp only [Act.put, List.setIfInBounds_toArray, List.set_cons_zero, List.set_cons_succ, i64_w, i32_w]
    rfl
   refine take_ (i := 7) (N := some 39) (v := ?_) (a' := ?_) #[true,true,true,true,true,true,true,true,true,false,false,false,true,false,false,false] rfl rfl (take_ofW HT_.out HW_.out (by kernel_rfl)) (fun _ _ _ h => h) (Or.inl ⟨by rfl, ?_⟩) hHeld ?_ ?_
   rotate_left
   ·
    rintro w' ⟨s0, s1, s2, s3⟩
    go_simp
    with_reducible rfl
   rotate_left
   ·
    simp only [Act.put, List.setIfInBounds_toArray, List.set_cons_zero, List.set_cons_succ, i64_w, i32_w]
    rfl
   refine take_ (i := 11) (N := some 43) (v := ?_) (a' := ?_) #[true,true,true,true,true,true,true,true,true,false,false,true,true,false,false,false] rfl rfl (take_ofW HT_.out HW_.out (by kernel_rfl)) (fun _ _ _ h => h) (Or.inl ⟨by rfl, ?_⟩) hHeld ?_ ?_
   rotate_left
   ·
    rintro w' ⟨s0, s1, s2, s3⟩
    go_simp
    with_reducible rfl
   rotate_left
   ·
    simp only [Act.put, List.setIfInBounds_toArray, List.set_cons_zero, List.set_cons_succ, i64_w, i32_w]
    rfl
   refine one_ (i := 9) (N := some 41) #[true,true,true,true,true,true,true,true,true,true,false,true,true,false,false,false] rfl rfl (one_of HT_.out (by kernel_rfl)) (by decide) (fun K hK => ?_)
   refine goes_ Tryd.func13 (by kernel_rfl) rfl #[.agg #[.int .i64 ((rd_T26 t327 t330).f0), .bool ((rd_T26 t327 t330).f1)], .int .i64 a2] (by rfl) rfl rfl (by (try simp only [List.map_toArray, List.map_cons, List.map_nil]); first | done | rfl | (simp only [List.length_drop, List.length_take]; rfl)) ?_
   with_reducible refine (word_Wrap.calls ((rd_T26 t327 t330).f0) ((rd_T26 t327 t330).f1) a2 t336 _ A23.out).mono ?_
   rintro e w28 ⟨rfl, hb⟩
   refine ⟨_, rfl, ?_⟩
   have n0_ := Aside0.mk (Kd.R_below (by (with_reducible repeat (first | apply Kd.R_alloc | apply Kd.R_drewN | apply Kd.R_drew)); exact HO329.out) hb)
   have n1_ := Aside0.mk (blk_below (g := gb334) (o := .cells #[.int .i64 ((rd_T26 t327 t330).f0), .bool ((rd_T26 t327 t330).f1)] 26 (0, 0)) (by (with_reducible repeat (first | refine blk_drewN ?_ _ | refine blk_drew ?_ | refine blk_alloc ?_ _)); exact BK334.out) hb)
   have n2_ := Aside0.mk (blk_below (g := gb335) (o := .cells #[.int .i64 ((rd_T26 t327 t332).f0), .bool ((rd_T26 t327 t332).f1)] 26 (0, 0)) (by (with_reducible repeat (first | refine blk_drewN ?_ _ | refine blk_drew ?_ | refine blk_alloc ?_ _)); exact BK335.out) hb)
   have n3_ := Aside0.mk (below_step (by repeat (first | (with_reducible first | exact HB.out | apply below_alloc | apply pw_below_drewN | apply below_drew1 | refine below_set ?_ GE334.out | refine below_set ?_ GE335.out) | exact HB.out)) hb)
   clear HO329
   clear BK334
   clear BK335
   clear HB
   have HO329 := n0_
   have BK334 := n1_
   have BK335 := n2_
   have HB := n3_
   clear n0_ n1_ n2_ n3_
   (try clear hb)
   (try clear hb2)
   (try clear hk)
   (try clear hi)
   refine hK.out _ _ ⟨(blk_cell BK334.out 0).trans rfl, (blk_cell BK334.out 1).trans rfl, (blk_cell BK335.out 0).trans rfl, (blk_cell BK335.out 1).trans rfl⟩ (fun hHeld => ?_)
   clear hK K
   refine norm_ (a' := ?_) ?_ ?_
   rotate_left
   ·
    show Act.put _ (some 41) _ = _
    simp only [Act.put, List.setIfInBounds_toArray, List.set_cons_zero, List.set_cons_succ, i64_w, i32_w]
    rfl
   refine one_ (i := 10) (N := some 42) #[true,true,true,true,true,true,true,true,true,true,true,true,true,false,false,false] rfl rfl (one_of HT_.out (by kernel_rfl)) (by decide) (fun K hK => ?_)
   refine goes_ Tryd.func13 (by kernel_rfl) rfl #[.agg #[.int .i64 ((rd_T26 t327 t332).f0), .bool ((rd_T26 t327 t332).f1)], .int .i64 t336] (by rfl) rfl rfl (by (try simp only [List.map_toArray, List.map_cons, List.map_nil]); first | done | rfl | (simp only [List.length_drop, List.length_take]; rfl)) ?_
   with_reducible refine (word_Wrap.calls ((rd_T26 t327 t332).f0) ((rd_T26 t327 t332).f1) t336 t337 _ A24.out).mono ?_
   rintro e w29 ⟨rfl, hb⟩
   refine ⟨_, rfl, ?_⟩
   have n0_ := Aside0.mk (Kd.R_below (by (with_reducible repeat (first | apply Kd.R_alloc | apply Kd.R_drewN | apply Kd.R_drew)); exact HO329.out) hb)
   have n1_ := Aside0.mk (blk_below (g := gb334) (o := .cells #[.int .i64 ((rd_T26 t327 t330).f0), .bool ((rd_T26 t327 t330).f1)] 26 (0, 0)) (by (with_reducible repeat (first | refine blk_drewN ?_ _ | refine blk_drew ?_ | refine blk_alloc ?_ _)); exact BK334.out) hb)
   have n2_ := Aside0.mk (blk_below (g := gb335) (o := .cells #[.int .i64 ((rd_T26 t327 t332).f0), .bool ((rd_T26 t327 t332).f1)] 26 (0, 0)) (by (with_reducible repeat (first | refine blk_drewN ?_ _ | refine blk_drew ?_ | refine blk_alloc ?_ _)); exact BK335.out) hb)
   have n3_ := Aside0.mk (below_step (by repeat (first | (with_reducible first | exact HB.out | apply below_alloc | apply pw_below_drewN | apply below_drew1 | refine below_set ?_ GE334.out | refine below_set ?_ GE335.out) | exact HB.out)) hb)
   clear HO329
   clear BK334
   clear BK335
   clear HB
   have HO329 := n0_
   have BK334 := n1_
   have BK335 := n2_
   have HB := n3_
   clear n0_ n1_ n2_ n3_
   (try clear hb)
   (try clear hb2)
   (try clear hk)
   (try clear hi)
   refine hK.out _ _ ⟨(blk_cell BK334.out 0).trans rfl, (blk_cell BK334.out 1).trans rfl, (blk_cell BK335.out 0).trans rfl, (blk_cell BK335.out 1).trans rfl⟩ (fun hHeld => ?_)
   clear hK K
   refine norm_ (a' := ?_) ?_ ?_
   rotate_left
   ·
    show Act.put _ (some 42) _ = _
    simp only [Act.put, List.setIfInBounds_toArray, List.set_cons_zero, List.set_cons_succ, i64_w, i32_w]
    rfl
   refine one_ (i := 13) (N := some 45) #[true,true,true,true,true,true,true,true,true,true,true,true,true,true,false,false] rfl rfl (one_of HT_.out (by kernel_rfl)) (by decide) (fun K hK => ?_)
   refine goes_ Tryd.func13 (by kernel_rfl) rfl #[.agg #[.int .i64 ((rd_T26 t327 t332).f0), .bool ((rd_T26 t327 t332).f1)], .int .i64 a2] (by rfl) rfl rfl (by (try simp only [List.map_toArray, List.map_cons, List.map_nil]); first | done | rfl | (simp only [List.length_drop, List.length_take]; rfl)) ?_
   with_reducible refine (word_Wrap.calls ((rd_T26 t327 t332).f0) ((rd_T26 t327 t332).f1) a2 t338 _ A25.out).mono ?_
   rintro e w30 ⟨rfl, hb⟩
   refine ⟨_, rfl, ?_⟩
   have n0_ := Aside0.mk (Kd.R_below (by (with_reducible repeat (first | apply Kd.R_alloc | apply Kd.R_drewN | apply Kd.R_drew)); exact HO329.out) hb)
   have n1_ := Aside0.mk (blk_below (g := gb334) (o := .cells #[.int .i64 ((rd_T26 t327 t330).f0), .bool ((rd_T26 t327 t330).f1)] 26 (0, 0)) (by (with_reducible repeat (first | refine blk_drewN ?_ _ | refine blk_drew ?_ | refine blk_alloc ?_ _)); exact BK334.out) hb)
   have n2_ := Aside0.mk (blk_below (g := gb335) (o := .cells #[.int .i64 ((rd_T26 t327 t332).f0), .bool ((rd_T26 t327 t332).f1)] 26 (0, 0)) (by (with_reducible repeat (first | refine blk_drewN ?_ _ | refine blk_drew ?_ | refine blk_alloc ?_ _)); exact BK335.out) hb)
   have n3_ := Aside0.mk (below_step (by repeat (first | (with_reducible first | exact HB.out | apply below_alloc | apply pw_below_drewN | apply below_drew1 | refine below_set ?_ GE334.out | refine below_set ?_ GE335.out) | exact HB.out)) hb)
   clear HO329
   clear BK334
   clear BK335
   clear HB
   have HO329 := n0_
   have BK334 := n1_
   have BK335 := n2_
   have HB := n3_
   clear n0_ n1_ n2_ n3_
   (try clear hb)
   (try clear hb2)
   (try clear hk)
   (try clear hi)
   refine hK.out _ _ ⟨(blk_cell BK334.out 0).trans rfl, (blk_cell BK334.out 1).trans rfl, (blk_cell BK335.out 0).trans rfl, (blk_cell BK335.out 1).trans rfl⟩ (fun hHeld => ?_)
   clear hK K
   refine norm_ (a' := ?_) ?_ ?_
   rotate_left
   ·
    show Act.put _ (some 45) _ = _
    simp only [Act.put, List.setIfInBounds_toArray, List.set_cons_zero, List.set_cons_succ, i64_w, i32_w]
    rfl
   refine pure_ (i := 14) (N := some 46) (v := ?_) (a' := ?_) #[true,true,true,true,true,true,true,true,true,true,true,true,true,true,true,false] rfl rfl (any_of HT_.out (by kernel_rfl)) (fun _ _ _ h => h) (Or.inl ⟨by rfl, ?_⟩) ?_ ?_
   rotate_left
   ·
    intro w'
    go_simp
    with_reducible rfl
   rotate_left
   ·
    simp only [Act.put, List.setIfInBounds_toArray, List.set_cons_zero, List.set_cons_succ, i64_w, i32_w]
    rfl
   refine pure_ (i := 15) (N := some 47) (v := ?_) (a' := ?_) #[true,true,true,true,true,true,true,true,true,true,true,true,true,true,true,true] rfl rfl (any_of HT_.out (by kernel_rfl)) (fun _ _ _ h => h) (Or.inl ⟨by rfl, ?_⟩) ?_ ?_
   rotate_left
   ·
    intro w'
    go_simp
    with_reducible rfl
   rotate_left
   ·
    simp only [Act.put, List.setIfInBounds_toArray, List.set_cons_zero, List.set_cons_succ, i64_w, i32_w]
    rfl
   refine done_ (done_of HT_.out (by kernel_rfl)) ?_
   try go_wp2
   go_meet
   case rel => exact ⟨_, ((t337 != t338)), (by first | rfl | (simp; done) | (simp [*]; done)), H', ⟨by first | omega | exact Nat.le_refl _⟩, ⟨by (with_reducible repeat (first | refine blk_drewN ?_ _ | refine blk_drew ?_ | refine blk_alloc ?_ _)); exact BK334.out⟩, ⟨by (with_reducible repeat (first | refine blk_drewN ?_ _ | refine blk_drew ?_ | refine blk_alloc ?_ _)); exact BK335.out⟩, ⟨by repeat (first | (with_reducible first | exact HB.out | apply below_alloc | apply pw_below_drewN | apply below_drew1 | refine below_set ?_ GE334.out | refine below_set ?_ GE335.out) | exact HB.out)⟩⟩
  ·
   rw [if_neg c22] at H
   have c22b0 : decide (((rd_T26 t327 t332).f0) ≤ ((rd_T26 t327 t330).f0)) = false := decide_eq_false c22
   clear c22
   (first | rw [c22b0] | (simp only [i64_w, i32_w]; rw [c22b0]) | skip)
   have H' := Aside0.mk H
   clear H
   try go_wp2
   have n0_ : Aside0 (Kd.R k26 26 ((((w17.setCell ⟨gb334, 0, none⟩ (.int .i64 ((rd_T26 t327 t330).f0))).setCell ⟨gb334, 1, none⟩ (.bool ((rd_T26 t327 t330).f1))).setCell ⟨gb335, 0, none⟩ (.int .i64 ((rd_T26 t327 t332).f0))).setCell ⟨gb335, 1, none⟩ (.bool ((rd_T26 t327 t332).f1))) w.heap.size (fun k_ => k_ ≠ gb334 ∧ k_ ≠ gb335) (.slice (some ad331) t327.length co13) t327) := ⟨by (with_reducible repeat (first | apply Kd.R_alloc | apply Kd.R_drewN | apply Kd.R_drew)); exact Kd.R_mono (Kd.R_far (p := ⟨gb335, 1, none⟩) (Kd.R_far (p := ⟨gb335, 0, none⟩) (Kd.R_far (p := ⟨gb334, 1, none⟩) (Kd.R_far (p := ⟨gb334, 0, none⟩) (Kd.R_mono (Kd.R_mono HO329.out (fun k_ hk => (⟨hk, hk.1⟩ : _ ∧ k_ ≠ gb334))) (fun k_ hk => (⟨hk, hk.1.2⟩ : _ ∧ k_ ≠ gb335))) (fun _ hk => hk.1.2) (.int .i64 ((rd_T26 t327 t330).f0))) (fun _ hk => hk.1.2) (.bool ((rd_T26 t327 t330).f1))) (fun _ hk => hk.2) (.int .i64 ((rd_T26 t327 t332).f0))) (fun _ hk => hk.2) (.bool ((rd_T26 t327 t332).f1))) (fun _ hk => ⟨hk.1.1.1, hk.1.1.2⟩)⟩
   have n1_ : Aside0 (((((w17.setCell ⟨gb334, 0, none⟩ (.int .i64 ((rd_T26 t327 t330).f0))).setCell ⟨gb334, 1, none⟩ (.bool ((rd_T26 t327 t330).f1))).setCell ⟨gb335, 0, none⟩ (.int .i64 ((rd_T26 t327 t332).f0))).setCell ⟨gb335, 1, none⟩ (.bool ((rd_T26 t327 t332).f1))).heap[gb334]? = some (.cells #[.int .i64 ((rd_T26 t327 t330).f0), .bool ((rd_T26 t327 t330).f1)] 26 (0, 0))) := ⟨by (with_reducible repeat (first | refine blk_drewN ?_ _ | refine blk_drew ?_ | refine blk_alloc ?_ _)); refine blk_far ?_ NB334_335.out _; (with_reducible repeat (first | refine blk_drewN ?_ _ | refine blk_drew ?_ | refine blk_alloc ?_ _)); refine blk_far ?_ NB334_335.out _; (with_reducible repeat (first | refine blk_drewN ?_ _ | refine blk_drew ?_ | refine blk_alloc ?_ _)); refine blk_put (cs := #[.int .i64 ((rd_T26 t327 t330).f0), .bool false]) ?_ 1 _ rfl; (with_reducible repeat (first | refine blk_drewN ?_ _ | refine blk_drew ?_ | refine blk_alloc ?_ _)); refine blk_put (cs := #[.int .i64 0, .bool false]) ?_ 0 _ rfl; (with_reducible repeat (first | refine blk_drewN ?_ _ | refine blk_drew ?_ | refine blk_alloc ?_ _)); exact BK334.out⟩
   have n2_ : Aside0 (((((w17.setCell ⟨gb334, 0, none⟩ (.int .i64 ((rd_T26 t327 t330).f0))).setCell ⟨gb334, 1, none⟩ (.bool ((rd_T26 t327 t330).f1))).setCell ⟨gb335, 0, none⟩ (.int .i64 ((rd_T26 t327 t332).f0))).setCell ⟨gb335, 1, none⟩ (.bool ((rd_T26 t327 t332).f1))).heap[gb335]? = some (.cells #[.int .i64 ((rd_T26 t327 t332).f0), .bool ((rd_T26 t327 t332).f1)] 26 (0, 0))) := ⟨by (with_reducible repeat (first | refine blk_drewN ?_ _ | refine blk_drew ?_ | refine blk_alloc ?_ _)); refine blk_put (cs := #[.int .i64 ((rd_T26 t327 t332).f0), .bool false]) ?_ 1 _ rfl; (with_reducible repeat (first | refine blk_drewN ?_ _ | refine blk_drew ?_ | refine blk_alloc ?_ _)); refine blk_put (cs := #[.int .i64 0, .bool false]) ?_ 0 _ rfl; (with_reducible repeat (first | refine blk_drewN ?_ _ | refine blk_drew ?_ | refine blk_alloc ?_ _)); refine blk_far ?_ NB335_334.out _; (with_reducible repeat (first | refine blk_drewN ?_ _ | refine blk_drew ?_ | refine blk_alloc ?_ _)); refine blk_far ?_ NB335_334.out _; (with_reducible repeat (first | refine blk_drewN ?_ _ | refine blk_drew ?_ | refine blk_alloc ?_ _)); exact BK335.out⟩
   have n3_ : Aside0 (Below w.heap.size w ((((w17.setCell ⟨gb334, 0, none⟩ (.int .i64 ((rd_T26 t327 t330).f0))).setCell ⟨gb334, 1, none⟩ (.bool ((rd_T26 t327 t330).f1))).setCell ⟨gb335, 0, none⟩ (.int .i64 ((rd_T26 t327 t332).f0))).setCell ⟨gb335, 1, none⟩ (.bool ((rd_T26 t327 t332).f1)))) := ⟨by repeat (first | (with_reducible first | exact HB.out | apply below_alloc | apply pw_below_drewN | apply below_drew1 | refine below_set ?_ GE334.out | refine below_set ?_ GE335.out) | exact HB.out)⟩
   (try clear HO329)
   (try clear BK334)
   (try clear BK335)
   (try clear HB)
   generalize ((((w17.setCell ⟨gb334, 0, none⟩ (.int .i64 ((rd_T26 t327 t330).f0))).setCell ⟨gb334, 1, none⟩ (.bool ((rd_T26 t327 t330).f1))).setCell ⟨gb335, 0, none⟩ (.int .i64 ((rd_T26 t327 t332).f0))).setCell ⟨gb335, 1, none⟩ (.bool ((rd_T26 t327 t332).f1))) = w31 at n0_ n1_ n2_ n3_ ⊢
   have HO329 := n0_
   have BK334 := n1_
   have BK335 := n2_
   have HB := n3_
   clear n0_ n1_ n2_ n3_
   have n0_ := Aside0.mk (Kd.R_drew HO329.out)
   have n1_ := Aside0.mk (blk_drew BK334.out)
   have n2_ := Aside0.mk (blk_drew BK335.out)
   have n3_ := Aside0.mk (below_drew1 HB.out)
   clear HO329
   clear BK334
   clear BK335
   clear HB
   have HO329 := n0_
   have BK334 := n1_
   have BK335 := n2_
   have HB := n3_
   clear n0_ n1_ n2_ n3_
   refine start_ (n := 16) (S := fun w' => w'.cell? ⟨gb334, 0, none⟩ = some (.int .i64 ((rd_T26 t327 t330).f0)) ∧ w'.cell? ⟨gb334, 1, none⟩ = some (.bool ((rd_T26 t327 t330).f1)) ∧ w'.cell? ⟨gb335, 0, none⟩ = some (.int .i64 ((rd_T26 t327 t332).f0)) ∧ w'.cell? ⟨gb335, 1, none⟩ = some (.bool ((rd_T26 t327 t332).f1))) (ds := []) #[false,false,false,false,false,false,false,false,false,false,false,false,false,false,false,false] (by kernel_rfl) rfl rfl ⟨(blk_cell BK334.out 0).trans rfl, (blk_cell BK334.out 1).trans rfl, (blk_cell BK335.out 0).trans rfl, (blk_cell BK335.out 1).trans rfl⟩ (fun hHeld => ?_); refine with_tabW spokeshavelaw1_WordTurns.tab3 spokeshavelaw1_WordTurns.bits3 (fun HT_ HW_ => ?_)
   generalize w31.drew = w32 at HO329 BK334 BK335 HB hHeld ⊢
   refine pure_ (i := 0) (N := some 32) (v := ?_) (a' := ?_) #[true,false,false,false,false,false,false,false,false,false,false,false,false,false,false,false] rfl rfl (any_of HT_.out (by kernel_rfl)) (fun _ _ _ h => h) (Or.inl ⟨by rfl, ?_⟩) ?_ ?_
   rotate_left
   ·
    intro w'
    go_simp
    with_reducible rfl
   rotate_left
   ·
    simp only [Act.put, List.setIfInBounds_toArray, List.set_cons_zero, List.set_cons_succ, i64_w, i32_w]
    rfl
   refine pure_ (i := 2) (N := some 34) (v := ?_) (a' := ?_) #[true,false,true,false,false,false,false,false,false,false,false,false,false,false,false,false] rfl rfl (any_of HT_.out (by kernel_rfl)) (fun _ _ _ h => h) (Or.inl ⟨by rfl, ?_⟩) ?_ ?_
   rotate_left
   ·
    intro w'
    go_simp
    with_reducible rfl
   rotate_left
   ·
    simp only [Act.put, List.setIfInBounds_toArray, List.set_cons_zero, List.set_cons_succ, i64_w, i32_w]
    rfl
   refine take_ (i := 1) (N := some 33) (v := ?_) (a' := ?_) #[true,true,true,false,false,false,false,false,false,false,false,false,false,false,false,false] rfl rfl (take_ofW HT_.out HW_.out (by kernel_rfl)) (fun _ _ _ h => h) (Or.inl ⟨by rfl, ?_⟩) hHeld ?_ ?_
   rotate_left
   ·
    rintro w' ⟨s0, s1, s2, s3⟩
    go_simp
    with_reducible rfl
   rotate_left
   ·
    simp only [Act.put, List.setIfInBounds_toArray, List.set_cons_zero, List.set_cons_succ, i64_w, i32_w]
    rfl
   refine take_ (i := 3) (N := some 35) (v := ?_) (a' := ?_) #[true,true,true,true,false,false,false,false,false,false,false,false,false,false,false,false] rfl rfl (take_ofW HT_.out HW_.out (by kernel_rfl)) (fun _ _ _ h => h) (Or.inl ⟨by rfl, ?_⟩) hHeld ?_ ?_
   rotate_left
   ·
    rintro w' ⟨s0, s1, s2, s3⟩
    go_simp
    with_reducible rfl
   rotate_left
   ·
    simp only [Act.put, List.setIfInBounds_toArray, List.set_cons_zero, List.set_cons_succ, i64_w, i32_w]
    rfl
   refine pure_ (i := 4) (N := some 36) (v := ?_) (a' := ?_) #[true,true,true,true,true,false,false,false,false,false,false,false,false,false,false,false] rfl rfl (any_of HT_.out (by kernel_rfl)) (fun _ _ _ h => h) (Or.inl ⟨by rfl, ?_⟩) ?_ ?_
   rotate_left
   ·
    intro w'
    go_simp
    with_reducible rfl
   rotate_left
   ·
    simp only [Act.put, List.setIfInBounds_toArray, List.set_cons_zero, List.set_cons_succ, i64_w, i32_w]
    rfl
   refine pure_ (i := 5) (N := some 37) (v := ?_) (a' := ?_) #[true,true,true,true,true,true,false,false,false,false,false,false,false,false,false,false] rfl rfl (any_of HT_.out (by kernel_rfl)) (fun _ _ _ h => h) (Or.inl ⟨by rfl, ?_⟩) ?_ ?_
   rotate_left
   ·
    intro w'
    go_simp
    with_reducible rfl
   rotate_left
   ·
    simp only [Act.put, List.setIfInBounds_toArray, List.set_cons_zero, List.set_cons_succ, i64_w, i32_w]
    rfl
   refine pure_ (i := 6) (N := some 38) (v := undef) (a' := ?_) #[true,true,true,true,true,true,true,false,false,false,false,false,false,false,false,false] rfl rfl (any_of HT_.out (by kernel_rfl)) (fun _ _ _ h => h) (Or.inr ⟨by rfl, rfl⟩) ?_ ?_
   rotate_left
   ·
    simp only [Act.put, List.setIfInBounds_toArray, List.set_cons_zero, List.set_cons_succ, i64_w, i32_w]
    rfl
   refine pure_ (i := 7) (N := some 39) (v := undef) (a' := ?_) #[true,true,true,true,true,true,true,true,false,false,false,false,false,false,false,false] rfl rfl (any_of HT_.out (by kernel_rfl)) (fun _ _ _ h => h) (Or.inr ⟨by rfl, rfl⟩) ?_ ?_
   rotate_left
   ·
    simp only [Act.put, List.setIfInBounds_toArray, List.set_cons_zero, List.set_cons_succ, i64_w, i32_w]
    rfl
   refine pure_ (i := 8) (N := some 40) (v := undef) (a' := ?_) #[true,true,true,true,true,true,true,true,true,false,false,false,false,false,false,false] rfl rfl (any_of HT_.out (by kernel_rfl)) (fun _ _ _ h => h) (Or.inr ⟨by rfl, rfl⟩) ?_ ?_
   rotate_left
   ·
    simp only [Act.put, List.setIfInBounds_toArray, List.set_cons_zero, List.set_cons_succ, i64_w, i32_w]
    rfl
   refine pure_ (i := 9) (N := some 41) (v := undef) (a' := ?_) #[true,true,true,true,true,true,true,true,true,true,false,false,false,false,false,false] rfl rfl (any_of HT_.out (by kernel_rfl)) (fun _ _ _ h => h) (Or.inr ⟨by rfl, rfl⟩) ?_ ?_
   rotate_left
   ·
    simp only [Act.put, List.setIfInBounds_toArray, List.set_cons_zero, List.set_cons_succ, i64_w, i32_w]
    rfl
   refine pure_ (i := 10) (N := some 42) (v := undef) (a' := ?_) #[true,true,true,true,true,true,true,true,true,true,true,false,false,false,false,false] rfl rfl (any_of HT_.out (by kernel_rfl)) (fun _ _ _ h => h) (Or.inr ⟨by rfl, rfl⟩) ?_ ?_
   rotate_left
   ·
    simp only [Act.put, List.setIfInBounds_toArray, List.set_cons_zero, List.set_cons_succ, i64_w, i32_w]
    rfl
   refine pure_ (i := 11) (N := some 43) (v := undef) (a' := ?_) #[true,true,true,true,true,true,true,true,true,true,true,true,false,false,false,false] rfl rfl (any_of HT_.out (by kernel_rfl)) (fun _ _ _ h => h) (Or.inr ⟨by rfl, rfl⟩) ?_ ?_
   rotate_left
   ·
    simp only [Act.put, List.setIfInBounds_toArray, List.set_cons_zero, List.set_cons_succ, i64_w, i32_w]
    rfl
   refine pure_ (i := 12) (N := some 44) (v := undef) (a' := ?_) #[true,true,true,true,true,true,true,true,true,true,true,true,true,false,false,false] rfl rfl (any_of HT_.out (by kernel_rfl)) (fun _ _ _ h => h) (Or.inr ⟨by rfl, rfl⟩) ?_ ?_
   rotate_left
   ·
    simp only [Act.put, List.setIfInBounds_toArray, List.set_cons_zero, List.set_cons_succ, i64_w, i32_w]
    rfl
   refine pure_ (i := 13) (N := some 45) (v := undef) (a' := ?_) #[true,true,true,true,true,true,true,true,true,true,true,true,true,true,false,false] rfl rfl (any_of HT_.out (by kernel_rfl)) (fun _ _ _ h => h) (Or.inr ⟨by rfl, rfl⟩) ?_ ?_
   rotate_left
   ·
    simp only [Act.put, List.setIfInBounds_toArray, List.set_cons_zero, List.set_cons_succ, i64_w, i32_w]
    rfl
   refine pure_ (i := 14) (N := some 46) (v := undef) (a' := ?_) #[true,true,true,true,true,true,true,true,true,true,true,true,true,true,true,false] rfl rfl (any_of HT_.out (by kernel_rfl)) (fun _ _ _ h => h) (Or.inr ⟨by rfl, rfl⟩) ?_ ?_
   rotate_left
   ·
    simp only [Act.put, List.setIfInBounds_toArray, List.set_cons_zero, List.set_cons_succ, i64_w, i32_w]
    rfl
   refine pure_ (i := 15) (N := some 47) (v := ?_) (a' := ?_) #[true,true,true,true,true,true,true,true,true,true,true,true,true,true,true,true] rfl rfl (any_of HT_.out (by kernel_rfl)) (fun _ _ _ h => h) (Or.inl ⟨by rfl, ?_⟩) ?_ ?_
   rotate_left
   ·
    intro w'
    go_simp
    with_reducible rfl
   rotate_left
   ·
    simp only [Act.put, List.setIfInBounds_toArray, List.set_cons_zero, List.set_cons_succ, i64_w, i32_w]
    rfl
   refine done_ (done_of HT_.out (by kernel_rfl)) ?_
   try go_wp2
   go_meet
   case rel => exact ⟨_, (false), (by first | rfl | (simp; done) | (simp [*]; done)), H', ⟨by first | omega | exact Nat.le_refl _⟩, ⟨by (with_reducible repeat (first | refine blk_drewN ?_ _ | refine blk_drew ?_ | refine blk_alloc ?_ _)); exact BK334.out⟩, ⟨by (with_reducible repeat (first | refine blk_drewN ?_ _ | refine blk_drew ?_ | refine blk_alloc ?_ _)); exact BK335.out⟩, ⟨by repeat (first | (with_reducible first | exact HB.out | apply below_alloc | apply pw_below_drewN | apply below_drew1 | refine below_set ?_ GE334.out | refine below_set ?_ GE335.out) | exact HB.out)⟩⟩
 case rest =>
  clear HC11
  try clear c1
  try clear c2
  try clear p2
  try clear c13
  try clear c17
  try clear c22
  try clear c22b0
  obtain ⟨kq, x47_10, rfl, HA, HJ10, BK334, BK335, HB⟩ := hcut
  cases kq with
  | zero => exact absurd HA.out (by simp [spokeshavelaw1_WordTurns.j0])
  | succ kj10 =>
   have H := HA.out
   clear HA
   simp only [spokeshavelaw1_WordTurns.j0] at H
   by_cases c33 : x47_10 = true
   ·
    subst c33
    have H1 : (none) = some r := by rw [if_pos rfl] at H; exact H
    clear H
    have H := H1
    clear H1
    exact absurd H (by simp)
   ·
    replace c33 := Bool.eq_false_iff.mpr c33
    subst c33
    have H1 : ((word_Wrap.f ((rd_T26 t327 t332).f0) ((rd_T26 t327 t332).f1) a2).bind fun t339 => (if ((rd_T26 t327 t332).f0) < 32 then ((word_Binary.f kj10 ((rd_T26 t327 t332).f0) ((rd_T26 t327 t332).f1) 1 1 1).bind fun bt340 => (if bt340.2 = true then (none) else ((word_Invert.f ((rd_T26 t327 t332).f0) ((rd_T26 t327 t332).f1) a2).bind fun t342 => (if t342 = 0 then ((spokeshavelaw1_awake.f kj10).bind fun t343 => (some t343)) else (none))))) else ((word_Binary.f kj10 ((rd_T26 t327 t332).f0) ((rd_T26 t327 t332).f1) 2 t339 t339).bind fun bt344 => ((word_Binary.f kj10 ((rd_T26 t327 t332).f0) ((rd_T26 t327 t332).f1) 1 t339 t339).bind fun bt346 => ((word_Binary.f kj10 ((rd_T26 t327 t332).f0) ((rd_T26 t327 t332).f1) 3 t339 2).bind fun bt348 => ((word_Binary.f kj10 ((rd_T26 t327 t332).f0) ((rd_T26 t327 t332).f1) 10 t339 t339).bind fun bt350 => ((word_Invert.f ((rd_T26 t327 t332).f0) ((rd_T26 t327 t332).f1) t339).bind fun t352 => ((word_Invert.f ((rd_T26 t327 t332).f0) ((rd_T26 t327 t332).f1) t352).bind fun t353 => (if t353 = t339 then (if bt344.1 = 0 then (if bt344.2 = true then (if bt346.1 = bt348.1 then (if (bt346.2 == bt348.2) = true then (if bt350.1 = 0 then (if bt350.2 = true then ((spokeshavelaw1_awake.f kj10).bind fun t354 => (some t354)) else (none)) else (none)) else (none)) else (none)) else (none)) else (none)) else (none)))))))))) = some r := by rw [if_neg (show ¬ (false = true) by decide)] at H; exact H
    clear H
    have H := H1
    clear H1
    replace H := Option.bind_eq_some_iff.mp H
    obtain ⟨t339, A340, H⟩ := H
    replace H : (if ((rd_T26 t327 t332).f0) < 32 then ((word_Binary.f kj10 ((rd_T26 t327 t332).f0) ((rd_T26 t327 t332).f1) 1 1 1).bind fun bt340 => (if bt340.2 = true then (none) else ((word_Invert.f ((rd_T26 t327 t332).f0) ((rd_T26 t327 t332).f1) a2).bind fun t342 => (if t342 = 0 then ((spokeshavelaw1_awake.f kj10).bind fun t343 => (some t343)) else (none))))) else ((word_Binary.f kj10 ((rd_T26 t327 t332).f0) ((rd_T26 t327 t332).f1) 2 t339 t339).bind fun bt344 => ((word_Binary.f kj10 ((rd_T26 t327 t332).f0) ((rd_T26 t327 t332).f1) 1 t339 t339).bind fun bt346 => ((word_Binary.f kj10 ((rd_T26 t327 t332).f0) ((rd_T26 t327 t332).f1) 3 t339 2).bind fun bt348 => ((word_Binary.f kj10 ((rd_T26 t327 t332).f0) ((rd_T26 t327 t332).f1) 10 t339 t339).bind fun bt350 => ((word_Invert.f ((rd_T26 t327 t332).f0) ((rd_T26 t327 t332).f1) t339).bind fun t352 => ((word_Invert.f ((rd_T26 t327 t332).f0) ((rd_T26 t327 t332).f1) t352).bind fun t353 => (if t353 = t339 then (if bt344.1 = 0 then (if bt344.2 = true then (if bt346.1 = bt348.1 then (if (bt346.2 == bt348.2) = true then (if bt350.1 = 0 then (if bt350.2 = true then ((spokeshavelaw1_awake.f kj10).bind fun t354 => (some t354)) else (none)) else (none)) else (none)) else (none)) else (none)) else (none)) else (none))))))))) = some r := H
    have A34 := Aside0.mk A340
    clear A340
    by_cases c35 : ((rd_T26 t327 t332).f0) < 32
    ·
     rw [if_pos c35] at H
     have c35b0 : decide (((rd_T26 t327 t332).f0) < 32) = true := decide_eq_true c35
     clear c35
     replace H := Option.bind_eq_some_iff.mp H
     obtain ⟨⟨t340, t341⟩, A360, H⟩ := H
     replace H : (if t341 = true then (none) else ((word_Invert.f ((rd_T26 t327 t332).f0) ((rd_T26 t327 t332).f1) a2).bind fun t342 => (if t342 = 0 then ((spokeshavelaw1_awake.f kj10).bind fun t343 => (some t343)) else (none)))) = some r := H
     have A36 := Aside0.mk A360
     clear A360
     by_cases c37 : t341 = true
     ·
      subst c37
      have H1 : (none) = some r := by rw [if_pos rfl] at H; exact H
      clear H
      have H := H1
      clear H1
      exact absurd H (by simp)
     ·
      replace c37 := Bool.eq_false_iff.mpr c37
      subst c37
      have H1 : ((word_Invert.f ((rd_T26 t327 t332).f0) ((rd_T26 t327 t332).f1) a2).bind fun t342 => (if t342 = 0 then ((spokeshavelaw1_awake.f kj10).bind fun t343 => (some t343)) else (none))) = some r := by rw [if_neg (show ¬ (false = true) by decide)] at H; exact H
      clear H
      have H := H1
      clear H1
      replace H := Option.bind_eq_some_iff.mp H
      obtain ⟨t342, A380, H⟩ := H
      replace H : (if t342 = 0 then ((spokeshavelaw1_awake.f kj10).bind fun t343 => (some t343)) else (none)) = some r := H
      have A38 := Aside0.mk A380
      clear A380
      by_cases c39 : t342 = 0
      case neg => rw [if_neg c39] at H; exact absurd H (by simp)
      rw [if_pos c39] at H
      have c39b0 : (t342 == 0) = true := beq_iff_eq.mpr c39
      have c39b1 : (t342 != 0) = false := bne_eq_false_iff_eq.mpr c39
      clear c39
      replace H := Option.bind_eq_some_iff.mp H
      obtain ⟨t343, A400, H⟩ := H
      replace H : (some t343) = some r := H
      have A40 := Aside0.mk A400
      clear A400
      obtain rfl := Option.some.inj H
      have hnb41 := NB335_334.out
      have hnc41 := NB334_335.out
      have hcz42_0 : wc.cell? ⟨gb335, 0, none⟩ = some (.int .i64 ((rd_T26 t327 t332).f0)) := (blk_cell BK335.out 0).trans rfl
      have hcz42_1 : wc.cell? ⟨gb335, 1, none⟩ = some (.bool ((rd_T26 t327 t332).f1)) := (blk_cell BK335.out 1).trans rfl
      have hfz42_0 := blk_frozen BK335.out 0
      have hfz42_1 := blk_frozen BK335.out 1
      go_wp2_with (first | ((with_reducible refine gate_callee (f := 13) rfl ?_); refine goesL_ (some 50) rfl rfl Tryd.func13 (by kernel_rfl) rfl #[.agg #[.int .i64 ((rd_T26 t327 t332).f0), .bool ((rd_T26 t327 t332).f1)], .int .i64 a2] rfl (by (try simp only [List.map_toArray, List.map_cons, List.map_nil]); first | done | rfl | (simp only [List.length_drop, List.length_take]; rfl)) ?_; (with_reducible refine (word_Wrap.calls ((rd_T26 t327 t332).f0) ((rd_T26 t327 t332).f1) a2 t339 _ A34.out).mono ?_); rintro e w43 ⟨rfl, hb⟩; refine ⟨_, rfl, ?_⟩; have n0_ := Aside0.mk (blk_below (g := gb334) (o := .cells #[.int .i64 ((rd_T26 t327 t330).f0), .bool ((rd_T26 t327 t330).f1)] 26 (0, 0)) (by (with_reducible repeat (first | refine blk_drewN ?_ _ | refine blk_drew ?_ | refine blk_alloc ?_ _)); exact BK334.out) hb); have n1_ := Aside0.mk (blk_below (g := gb335) (o := .cells #[.int .i64 ((rd_T26 t327 t332).f0), .bool ((rd_T26 t327 t332).f1)] 26 (0, 0)) (by (with_reducible repeat (first | refine blk_drewN ?_ _ | refine blk_drew ?_ | refine blk_alloc ?_ _)); exact BK335.out) hb); have n2_ := Aside0.mk (below_step (by repeat (first | (with_reducible first | exact HB.out | apply below_alloc | apply pw_below_drewN | apply below_drew1 | refine below_set ?_ GE334.out | refine below_set ?_ GE335.out) | exact HB.out)) hb); clear BK334; clear BK335; clear HB; have BK334 := n0_; have BK335 := n1_; have HB := n2_; clear n0_ n1_ n2_; (try clear hb); (try clear hb2); (try clear hk); (try clear hi); have hcz44_0 : w43.cell? ⟨gb335, 0, none⟩ = some (.int .i64 ((rd_T26 t327 t332).f0)) := (blk_cell BK335.out 0).trans rfl; have hcz44_1 : w43.cell? ⟨gb335, 1, none⟩ = some (.bool ((rd_T26 t327 t332).f1)) := (blk_cell BK335.out 1).trans rfl; have hfz44_0 := blk_frozen BK335.out 0; have hfz44_1 := blk_frozen BK335.out 1) | ((with_reducible refine gate_callee (f := 14) rfl ?_); refine goesL_ (some 56) rfl rfl Tryd.func14 (by kernel_rfl) rfl #[.agg #[.int .i64 ((rd_T26 t327 t332).f0), .bool ((rd_T26 t327 t332).f1)], .int .i64 1, .int .i64 1, .int .i64 1] rfl (by (try simp only [List.map_toArray, List.map_cons, List.map_nil]); first | done | rfl | (simp only [List.length_drop, List.length_take]; rfl)) ?_; (with_reducible refine (word_Binary.calls kj10 ((rd_T26 t327 t332).f0) ((rd_T26 t327 t332).f1) 1 1 1 t340 false _ A36.out).mono ?_); rintro e w45 ⟨rfl, hb⟩; refine ⟨_, rfl, ?_⟩; have n0_ := Aside0.mk (blk_below (g := gb334) (o := .cells #[.int .i64 ((rd_T26 t327 t330).f0), .bool ((rd_T26 t327 t330).f1)] 26 (0, 0)) (by (with_reducible repeat (first | refine blk_drewN ?_ _ | refine blk_drew ?_ | refine blk_alloc ?_ _)); exact BK334.out) hb); have n1_ := Aside0.mk (blk_below (g := gb335) (o := .cells #[.int .i64 ((rd_T26 t327 t332).f0), .bool ((rd_T26 t327 t332).f1)] 26 (0, 0)) (by (with_reducible repeat (first | refine blk_drewN ?_ _ | refine blk_drew ?_ | refine blk_alloc ?_ _)); exact BK335.out) hb); have n2_ := Aside0.mk (below_step (by repeat (first | (with_reducible first | exact HB.out | apply below_alloc | apply pw_below_drewN | apply below_drew1 | refine below_set ?_ GE334.out | refine below_set ?_ GE335.out) | exact HB.out)) hb); clear BK334; clear BK335; clear HB; have BK334 := n0_; have BK335 := n1_; have HB := n2_; clear n0_ n1_ n2_; (try clear hb); (try clear hb2); (try clear hk); (try clear hi); have hcz46_0 : w45.cell? ⟨gb335, 0, none⟩ = some (.int .i64 ((rd_T26 t327 t332).f0)) := (blk_cell BK335.out 0).trans rfl; have hcz46_1 : w45.cell? ⟨gb335, 1, none⟩ = some (.bool ((rd_T26 t327 t332).f1)) := (blk_cell BK335.out 1).trans rfl; have hfz46_0 := blk_frozen BK335.out 0; have hfz46_1 := blk_frozen BK335.out 1) | (go_at_call 20; (with_reducible refine (word_Invert.calls ((rd_T26 t327 t332).f0) ((rd_T26 t327 t332).f1) a2 t342 _ A38.out).mono ?_); rintro e w47 ⟨rfl, hb⟩; have n0_ := Aside0.mk (blk_below (g := gb334) (o := .cells #[.int .i64 ((rd_T26 t327 t330).f0), .bool ((rd_T26 t327 t330).f1)] 26 (0, 0)) (by (with_reducible repeat (first | refine blk_drewN ?_ _ | refine blk_drew ?_ | refine blk_alloc ?_ _)); exact BK334.out) hb); have n1_ := Aside0.mk (blk_below (g := gb335) (o := .cells #[.int .i64 ((rd_T26 t327 t332).f0), .bool ((rd_T26 t327 t332).f1)] 26 (0, 0)) (by (with_reducible repeat (first | refine blk_drewN ?_ _ | refine blk_drew ?_ | refine blk_alloc ?_ _)); exact BK335.out) hb); have n2_ := Aside0.mk (below_step (by repeat (first | (with_reducible first | exact HB.out | apply below_alloc | apply pw_below_drewN | apply below_drew1 | refine below_set ?_ GE334.out | refine below_set ?_ GE335.out) | exact HB.out)) hb); clear BK334; clear BK335; clear HB; have BK334 := n0_; have BK335 := n1_; have HB := n2_; clear n0_ n1_ n2_; (try clear hb); (try clear hb2); (try clear hk); (try clear hi)) | (go_at_call 16; (with_reducible refine (spokeshavelaw1_awake.calls kj10  t343 _ A40.out).mono ?_); rintro e w48 ⟨rfl, hb⟩; have n0_ := Aside0.mk (blk_below (g := gb334) (o := .cells #[.int .i64 ((rd_T26 t327 t330).f0), .bool ((rd_T26 t327 t330).f1)] 26 (0, 0)) (by (with_reducible repeat (first | refine blk_drewN ?_ _ | refine blk_drew ?_ | refine blk_alloc ?_ _)); exact BK334.out) hb); have n1_ := Aside0.mk (blk_below (g := gb335) (o := .cells #[.int .i64 ((rd_T26 t327 t332).f0), .bool ((rd_T26 t327 t332).f1)] 26 (0, 0)) (by (with_reducible repeat (first | refine blk_drewN ?_ _ | refine blk_drew ?_ | refine blk_alloc ?_ _)); exact BK335.out) hb); have n2_ := Aside0.mk (below_step (by repeat (first | (with_reducible first | exact HB.out | apply below_alloc | apply pw_below_drewN | apply below_drew1 | refine below_set ?_ GE334.out | refine below_set ?_ GE335.out) | exact HB.out)) hb); clear BK334; clear BK335; clear HB; have BK334 := n0_; have BK335 := n1_; have HB := n2_; clear n0_ n1_ n2_; (try clear hb); (try clear hb2); (try clear hk); (try clear hi)))
      go_ret
      exact ⟨by first | rfl | (simp [errW_none, errW_some] <;> rfl) | (simp [*, errW_none, errW_some] <;> rfl), by repeat (first | (with_reducible first | exact HB.out | apply below_alloc | apply pw_below_drewN | apply below_drew1 | refine below_set ?_ GE334.out | refine below_set ?_ GE335.out) | exact HB.out)⟩
    ·
     rw [if_neg c35] at H
     have c35b0 : decide (((rd_T26 t327 t332).f0) < 32) = false := decide_eq_false c35
     clear c35
     replace H := Option.bind_eq_some_iff.mp H
     obtain ⟨⟨t344, t345⟩, A490, H⟩ := H
     replace H : ((word_Binary.f kj10 ((rd_T26 t327 t332).f0) ((rd_T26 t327 t332).f1) 1 t339 t339).bind fun bt346 => ((word_Binary.f kj10 ((rd_T26 t327 t332).f0) ((rd_T26 t327 t332).f1) 3 t339 2).bind fun bt348 => ((word_Binary.f kj10 ((rd_T26 t327 t332).f0) ((rd_T26 t327 t332).f1) 10 t339 t339).bind fun bt350 => ((word_Invert.f ((rd_T26 t327 t332).f0) ((rd_T26 t327 t332).f1) t339).bind fun t352 => ((word_Invert.f ((rd_T26 t327 t332).f0) ((rd_T26 t327 t332).f1) t352).bind fun t353 => (if t353 = t339 then (if t344 = 0 then (if t345 = true then (if bt346.1 = bt348.1 then (if (bt346.2 == bt348.2) = true then (if bt350.1 = 0 then (if bt350.2 = true then ((spokeshavelaw1_awake.f kj10).bind fun t354 => (some t354)) else (none)) else (none)) else (none)) else (none)) else (none)) else (none)) else (none))))))) = some r := H
     have A49 := Aside0.mk A490
     clear A490
     replace H := Option.bind_eq_some_iff.mp H
     obtain ⟨⟨t346, t347⟩, A500, H⟩ := H
     replace H : ((word_Binary.f kj10 ((rd_T26 t327 t332).f0) ((rd_T26 t327 t332).f1) 3 t339 2).bind fun bt348 => ((word_Binary.f kj10 ((rd_T26 t327 t332).f0) ((rd_T26 t327 t332).f1) 10 t339 t339).bind fun bt350 => ((word_Invert.f ((rd_T26 t327 t332).f0) ((rd_T26 t327 t332).f1) t339).bind fun t352 => ((word_Invert.f ((rd_T26 t327 t332).f0) ((rd_T26 t327 t332).f1) t352).bind fun t353 => (if t353 = t339 then (if t344 = 0 then (if t345 = true then (if t346 = bt348.1 then (if (t347 == bt348.2) = true then (if bt350.1 = 0 then (if bt350.2 = true then ((spokeshavelaw1_awake.f kj10).bind fun t354 => (some t354)) else (none)) else (none)) else (none)) else (none)) else (none)) else (none)) else (none)))))) = some r := H
     have A50 := Aside0.mk A500
     clear A500
     replace H := Option.bind_eq_some_iff.mp H
     obtain ⟨⟨t348, t349⟩, A510, H⟩ := H
     replace H : ((word_Binary.f kj10 ((rd_T26 t327 t332).f0) ((rd_T26 t327 t332).f1) 10 t339 t339).bind fun bt350 => ((word_Invert.f ((rd_T26 t327 t332).f0) ((rd_T26 t327 t332).f1) t339).bind fun t352 => ((word_Invert.f ((rd_T26 t327 t332).f0) ((rd_T26 t327 t332).f1) t352).bind fun t353 => (if t353 = t339 then (if t344 = 0 then (if t345 = true then (if t346 = t348 then (if (t347 == t349) = true then (if bt350.1 = 0 then (if bt350.2 = true then ((spokeshavelaw1_awake.f kj10).bind fun t354 => (some t354)) else (none)) else (none)) else (none)) else (none)) else (none)) else (none)) else (none))))) = some r := H
     have A51 := Aside0.mk A510
     clear A510
     replace H := Option.bind_eq_some_iff.mp H
     obtain ⟨⟨t350, t351⟩, A520, H⟩ := H
     replace H : ((word_Invert.f ((rd_T26 t327 t332).f0) ((rd_T26 t327 t332).f1) t339).bind fun t352 => ((word_Invert.f ((rd_T26 t327 t332).f0) ((rd_T26 t327 t332).f1) t352).bind fun t353 => (if t353 = t339 then (if t344 = 0 then (if t345 = true then (if t346 = t348 then (if (t347 == t349) = true then (if t350 = 0 then (if t351 = true then ((spokeshavelaw1_awake.f kj10).bind fun t354 => (some t354)) else (none)) else (none)) else (none)) else (none)) else (none)) else (none)) else (none)))) = some r := H
     have A52 := Aside0.mk A520
     clear A520
     replace H := Option.bind_eq_some_iff.mp H
     obtain ⟨t352, A530, H⟩ := H
     replace H : ((word_Invert.f ((rd_T26 t327 t332).f0) ((rd_T26 t327 t332).f1) t352).bind fun t353 => (if t353 = t339 then (if t344 = 0 then (if t345 = true then (if t346 = t348 then (if (t347 == t349) = true then (if t350 = 0 then (if t351 = true then ((spokeshavelaw1_awake.f kj10).bind fun t354 => (some t354)) else (none)) else (none)) else (none)) else (none)) else (none)) else (none)) else (none))) = some r := H
     have A53 := Aside0.mk A530
     clear A530
     replace H := Option.bind_eq_some_iff.mp H
     obtain ⟨t353, A540, H⟩ := H
     replace H : (if t353 = t339 then (if t344 = 0 then (if t345 = true then (if t346 = t348 then (if (t347 == t349) = true then (if t350 = 0 then (if t351 = true then ((spokeshavelaw1_awake.f kj10).bind fun t354 => (some t354)) else (none)) else (none)) else (none)) else (none)) else (none)) else (none)) else (none)) = some r := H
     have A54 := Aside0.mk A540
     clear A540
     by_cases c55 : t353 = t339
     case neg => rw [if_neg c55] at H; exact absurd H (by simp)
     rw [if_pos c55] at H
     have c55b0 : (t353 == t339) = true := beq_iff_eq.mpr c55
     have c55b1 : (t353 != t339) = false := bne_eq_false_iff_eq.mpr c55
     clear c55
     by_cases c56 : t344 = 0
     case neg => rw [if_neg c56] at H; exact absurd H (by simp)
     rw [if_pos c56] at H
     have c56b0 : (t344 == 0) = true := beq_iff_eq.mpr c56
     have c56b1 : (t344 != 0) = false := bne_eq_false_iff_eq.mpr c56
     clear c56
     by_cases c57 : t345 = true
     ·
      subst c57
      have H1 : (if t346 = t348 then (if (t347 == t349) = true then (if t350 = 0 then (if t351 = true then ((spokeshavelaw1_awake.f kj10).bind fun t354 => (some t354)) else (none)) else (none)) else (none)) else (none)) = some r := by rw [if_pos rfl] at H; exact H
      clear H
      have H := H1
      clear H1
      by_cases c58 : t346 = t348
      case neg => rw [if_neg c58] at H; exact absurd H (by simp)
      rw [if_pos c58] at H
      have c58b0 : (t346 == t348) = true := beq_iff_eq.mpr c58
      have c58b1 : (t346 != t348) = false := bne_eq_false_iff_eq.mpr c58
      clear c58
      by_cases c59 : (t347 == t349) = true
      case neg => rw [if_neg c59] at H; exact absurd H (by simp)
      rw [if_pos c59] at H
      have c59b0 : (t347 == t349) = true := c59
      (try (have c59b1 : decide (t347 = t349) = true := by first | exact c59 | exact absurd c59 (by decide) | decide | (simp; done) | simpa using c59))
      (try (have c59b2 : (t347 == t349) = true := by first | exact c59 | exact absurd c59 (by decide) | decide | (simp; done) | simpa using c59))
      clear c59
      by_cases c60 : t350 = 0
      case neg => rw [if_neg c60] at H; exact absurd H (by simp)
      rw [if_pos c60] at H
      have c60b0 : (t350 == 0) = true := beq_iff_eq.mpr c60
      have c60b1 : (t350 != 0) = false := bne_eq_false_iff_eq.mpr c60
      clear c60
      by_cases c61 : t351 = true
      ·
       subst c61
       have H1 : ((spokeshavelaw1_awake.f kj10).bind fun t354 => (some t354)) = some r := by rw [if_pos rfl] at H; exact H
       clear H
       have H := H1
       clear H1
       replace H := Option.bind_eq_some_iff.mp H
       obtain ⟨t354, A620, H⟩ := H
       replace H : (some t354) = some r := H
       have A62 := Aside0.mk A620
       clear A620
       obtain rfl := Option.some.inj H
       have hnb63 := NB335_334.out
       have hnc63 := NB334_335.out
       have hcz64_0 : wc.cell? ⟨gb335, 0, none⟩ = some (.int .i64 ((rd_T26 t327 t332).f0)) := (blk_cell BK335.out 0).trans rfl
       have hcz64_1 : wc.cell? ⟨gb335, 1, none⟩ = some (.bool ((rd_T26 t327 t332).f1)) := (blk_cell BK335.out 1).trans rfl
       have hfz64_0 := blk_frozen BK335.out 0
       have hfz64_1 := blk_frozen BK335.out 1
       try go_wp2_with (first | ((with_reducible refine gate_callee (f := 13) rfl ?_); refine goesL_ (some 50) rfl rfl Tryd.func13 (by kernel_rfl) rfl #[.agg #[.int .i64 ((rd_T26 t327 t332).f0), .bool ((rd_T26 t327 t332).f1)], .int .i64 a2] rfl (by (try simp only [List.map_toArray, List.map_cons, List.map_nil]); first | done | rfl | (simp only [List.length_drop, List.length_take]; rfl)) ?_; (with_reducible refine (word_Wrap.calls ((rd_T26 t327 t332).f0) ((rd_T26 t327 t332).f1) a2 t339 _ A34.out).mono ?_); rintro e w65 ⟨rfl, hb⟩; refine ⟨_, rfl, ?_⟩; have n0_ := Aside0.mk (blk_below (g := gb334) (o := .cells #[.int .i64 ((rd_T26 t327 t330).f0), .bool ((rd_T26 t327 t330).f1)] 26 (0, 0)) (by (with_reducible repeat (first | refine blk_drewN ?_ _ | refine blk_drew ?_ | refine blk_alloc ?_ _)); exact BK334.out) hb); have n1_ := Aside0.mk (blk_below (g := gb335) (o := .cells #[.int .i64 ((rd_T26 t327 t332).f0), .bool ((rd_T26 t327 t332).f1)] 26 (0, 0)) (by (with_reducible repeat (first | refine blk_drewN ?_ _ | refine blk_drew ?_ | refine blk_alloc ?_ _)); exact BK335.out) hb); have n2_ := Aside0.mk (below_step (by repeat (first | (with_reducible first | exact HB.out | apply below_alloc | apply pw_below_drewN | apply below_drew1 | refine below_set ?_ GE334.out | refine below_set ?_ GE335.out) | exact HB.out)) hb); clear BK334; clear BK335; clear HB; have BK334 := n0_; have BK335 := n1_; have HB := n2_; clear n0_ n1_ n2_; (try clear hb); (try clear hb2); (try clear hk); (try clear hi); have hcz66_0 : w65.cell? ⟨gb335, 0, none⟩ = some (.int .i64 ((rd_T26 t327 t332).f0)) := (blk_cell BK335.out 0).trans rfl; have hcz66_1 : w65.cell? ⟨gb335, 1, none⟩ = some (.bool ((rd_T26 t327 t332).f1)) := (blk_cell BK335.out 1).trans rfl; have hfz66_0 := blk_frozen BK335.out 0; have hfz66_1 := blk_frozen BK335.out 1) | ((with_reducible refine gate_callee (f := 14) rfl ?_); refine goesL_ (some 74) rfl rfl Tryd.func14 (by kernel_rfl) rfl #[.agg #[.int .i64 ((rd_T26 t327 t332).f0), .bool ((rd_T26 t327 t332).f1)], .int .i64 2, .int .i64 t339, .int .i64 t339] rfl (by (try simp only [List.map_toArray, List.map_cons, List.map_nil]); first | done | rfl | (simp only [List.length_drop, List.length_take]; rfl)) ?_; (with_reducible refine (word_Binary.calls kj10 ((rd_T26 t327 t332).f0) ((rd_T26 t327 t332).f1) 2 t339 t339 t344 true _ A49.out).mono ?_); rintro e w67 ⟨rfl, hb⟩; refine ⟨_, rfl, ?_⟩; have n0_ := Aside0.mk (blk_below (g := gb334) (o := .cells #[.int .i64 ((rd_T26 t327 t330).f0), .bool ((rd_T26 t327 t330).f1)] 26 (0, 0)) (by (with_reducible repeat (first | refine blk_drewN ?_ _ | refine blk_drew ?_ | refine blk_alloc ?_ _)); exact BK334.out) hb); have n1_ := Aside0.mk (blk_below (g := gb335) (o := .cells #[.int .i64 ((rd_T26 t327 t332).f0), .bool ((rd_T26 t327 t332).f1)] 26 (0, 0)) (by (with_reducible repeat (first | refine blk_drewN ?_ _ | refine blk_drew ?_ | refine blk_alloc ?_ _)); exact BK335.out) hb); have n2_ := Aside0.mk (below_step (by repeat (first | (with_reducible first | exact HB.out | apply below_alloc | apply pw_below_drewN | apply below_drew1 | refine below_set ?_ GE334.out | refine below_set ?_ GE335.out) | exact HB.out)) hb); clear BK334; clear BK335; clear HB; have BK334 := n0_; have BK335 := n1_; have HB := n2_; clear n0_ n1_ n2_; (try clear hb); (try clear hb2); (try clear hk); (try clear hi); have hcz68_0 : w67.cell? ⟨gb335, 0, none⟩ = some (.int .i64 ((rd_T26 t327 t332).f0)) := (blk_cell BK335.out 0).trans rfl; have hcz68_1 : w67.cell? ⟨gb335, 1, none⟩ = some (.bool ((rd_T26 t327 t332).f1)) := (blk_cell BK335.out 1).trans rfl; have hfz68_0 := blk_frozen BK335.out 0; have hfz68_1 := blk_frozen BK335.out 1) | ((with_reducible refine gate_callee (f := 14) rfl ?_); refine goesL_ (some 81) rfl rfl Tryd.func14 (by kernel_rfl) rfl #[.agg #[.int .i64 ((rd_T26 t327 t332).f0), .bool ((rd_T26 t327 t332).f1)], .int .i64 1, .int .i64 t339, .int .i64 t339] rfl (by (try simp only [List.map_toArray, List.map_cons, List.map_nil]); first | done | rfl | (simp only [List.length_drop, List.length_take]; rfl)) ?_; (with_reducible refine (word_Binary.calls kj10 ((rd_T26 t327 t332).f0) ((rd_T26 t327 t332).f1) 1 t339 t339 t346 t347 _ A50.out).mono ?_); rintro e w69 ⟨rfl, hb⟩; refine ⟨_, rfl, ?_⟩; have n0_ := Aside0.mk (blk_below (g := gb334) (o := .cells #[.int .i64 ((rd_T26 t327 t330).f0), .bool ((rd_T26 t327 t330).f1)] 26 (0, 0)) (by (with_reducible repeat (first | refine blk_drewN ?_ _ | refine blk_drew ?_ | refine blk_alloc ?_ _)); exact BK334.out) hb); have n1_ := Aside0.mk (blk_below (g := gb335) (o := .cells #[.int .i64 ((rd_T26 t327 t332).f0), .bool ((rd_T26 t327 t332).f1)] 26 (0, 0)) (by (with_reducible repeat (first | refine blk_drewN ?_ _ | refine blk_drew ?_ | refine blk_alloc ?_ _)); exact BK335.out) hb); have n2_ := Aside0.mk (below_step (by repeat (first | (with_reducible first | exact HB.out | apply below_alloc | apply pw_below_drewN | apply below_drew1 | refine below_set ?_ GE334.out | refine below_set ?_ GE335.out) | exact HB.out)) hb); clear BK334; clear BK335; clear HB; have BK334 := n0_; have BK335 := n1_; have HB := n2_; clear n0_ n1_ n2_; (try clear hb); (try clear hb2); (try clear hk); (try clear hi); have hcz70_0 : w69.cell? ⟨gb335, 0, none⟩ = some (.int .i64 ((rd_T26 t327 t332).f0)) := (blk_cell BK335.out 0).trans rfl; have hcz70_1 : w69.cell? ⟨gb335, 1, none⟩ = some (.bool ((rd_T26 t327 t332).f1)) := (blk_cell BK335.out 1).trans rfl; have hfz70_0 := blk_frozen BK335.out 0; have hfz70_1 := blk_frozen BK335.out 1) | ((with_reducible refine gate_callee (f := 14) rfl ?_); refine goesL_ (some 87) rfl rfl Tryd.func14 (by kernel_rfl) rfl #[.agg #[.int .i64 ((rd_T26 t327 t332).f0), .bool ((rd_T26 t327 t332).f1)], .int .i64 3, .int .i64 t339, .int .i64 2] rfl (by (try simp only [List.map_toArray, List.map_cons, List.map_nil]); first | done | rfl | (simp only [List.length_drop, List.length_take]; rfl)) ?_; (with_reducible refine (word_Binary.calls kj10 ((rd_T26 t327 t332).f0) ((rd_T26 t327 t332).f1) 3 t339 2 t348 t349 _ A51.out).mono ?_); rintro e w71 ⟨rfl, hb⟩; refine ⟨_, rfl, ?_⟩; have n0_ := Aside0.mk (blk_below (g := gb334) (o := .cells #[.int .i64 ((rd_T26 t327 t330).f0), .bool ((rd_T26 t327 t330).f1)] 26 (0, 0)) (by (with_reducible repeat (first | refine blk_drewN ?_ _ | refine blk_drew ?_ | refine blk_alloc ?_ _)); exact BK334.out) hb); have n1_ := Aside0.mk (blk_below (g := gb335) (o := .cells #[.int .i64 ((rd_T26 t327 t332).f0), .bool ((rd_T26 t327 t332).f1)] 26 (0, 0)) (by (with_reducible repeat (first | refine blk_drewN ?_ _ | refine blk_drew ?_ | refine blk_alloc ?_ _)); exact BK335.out) hb); have n2_ := Aside0.mk (below_step (by repeat (first | (with_reducible first | exact HB.out | apply below_alloc | apply pw_below_drewN | apply below_drew1 | refine below_set ?_ GE334.out | refine below_set ?_ GE335.out) | exact HB.out)) hb); clear BK334; clear BK335; clear HB; have BK334 := n0_; have BK335 := n1_; have HB := n2_; clear n0_ n1_ n2_; (try clear hb); (try clear hb2); (try clear hk); (try clear hi); have hcz72_0 : w71.cell? ⟨gb335, 0, none⟩ = some (.int .i64 ((rd_T26 t327 t332).f0)) := (blk_cell BK335.out 0).trans rfl; have hcz72_1 : w71.cell? ⟨gb335, 1, none⟩ = some (.bool ((rd_T26 t327 t332).f1)) := (blk_cell BK335.out 1).trans rfl; have hfz72_0 := blk_frozen BK335.out 0; have hfz72_1 := blk_frozen BK335.out 1) | ((with_reducible refine gate_callee (f := 14) rfl ?_); refine goesL_ (some 94) rfl rfl Tryd.func14 (by kernel_rfl) rfl #[.agg #[.int .i64 ((rd_T26 t327 t332).f0), .bool ((rd_T26 t327 t332).f1)], .int .i64 10, .int .i64 t339, .int .i64 t339] rfl (by (try simp only [List.map_toArray, List.map_cons, List.map_nil]); first | done | rfl | (simp only [List.length_drop, List.length_take]; rfl)) ?_; (with_reducible refine (word_Binary.calls kj10 ((rd_T26 t327 t332).f0) ((rd_T26 t327 t332).f1) 10 t339 t339 t350 true _ A52.out).mono ?_); rintro e w73 ⟨rfl, hb⟩; refine ⟨_, rfl, ?_⟩; have n0_ := Aside0.mk (blk_below (g := gb334) (o := .cells #[.int .i64 ((rd_T26 t327 t330).f0), .bool ((rd_T26 t327 t330).f1)] 26 (0, 0)) (by (with_reducible repeat (first | refine blk_drewN ?_ _ | refine blk_drew ?_ | refine blk_alloc ?_ _)); exact BK334.out) hb); have n1_ := Aside0.mk (blk_below (g := gb335) (o := .cells #[.int .i64 ((rd_T26 t327 t332).f0), .bool ((rd_T26 t327 t332).f1)] 26 (0, 0)) (by (with_reducible repeat (first | refine blk_drewN ?_ _ | refine blk_drew ?_ | refine blk_alloc ?_ _)); exact BK335.out) hb); have n2_ := Aside0.mk (below_step (by repeat (first | (with_reducible first | exact HB.out | apply below_alloc | apply pw_below_drewN | apply below_drew1 | refine below_set ?_ GE334.out | refine below_set ?_ GE335.out) | exact HB.out)) hb); clear BK334; clear BK335; clear HB; have BK334 := n0_; have BK335 := n1_; have HB := n2_; clear n0_ n1_ n2_; (try clear hb); (try clear hb2); (try clear hk); (try clear hi)))
       have n0_ := Aside0.mk (blk_drew BK334.out)
       have n1_ := Aside0.mk (blk_drew BK335.out)
       have n2_ := Aside0.mk (below_drew1 HB.out)
       clear BK334
       clear BK335
       clear HB
       have BK334 := n0_
       have BK335 := n1_
       have HB := n2_
       clear n0_ n1_ n2_
       refine start_ (n := 35) (S := fun w' => w'.cell? ⟨gb335, 0, none⟩ = some (.int .i64 ((rd_T26 t327 t332).f0)) ∧ w'.cell? ⟨gb335, 1, none⟩ = some (.bool ((rd_T26 t327 t332).f1))) (ds := []) #[false,false,false,false,false,false,false,false,false,false,false,false,false,false,false,false,false,false,false,false,false,false,false,false,false,false,false,false,false,false,false,false,false,false,false] (by kernel_rfl) rfl rfl ⟨(blk_cell BK335.out 0).trans rfl, (blk_cell BK335.out 1).trans rfl⟩ (fun hHeld => ?_); refine with_tabW spokeshavelaw1_WordTurns.tab13 spokeshavelaw1_WordTurns.bits13 (fun HT_ HW_ => ?_)
       generalize w73.drew = w74 at BK334 BK335 HB hHeld ⊢
       refine pure_ (i := 2) (N := some 99) (v := ?_) (a' := ?_) #[false,false,true,false,false,false,false,false,false,false,false,false,false,false,false,false,false,false,false,false,false,false,false,false,false,false,false,false,false,false,false,false,false,false,false] rfl rfl (any_of HT_.out (by kernel_rfl)) (fun _ _ _ h => h) (Or.inl ⟨by rfl, ?_⟩) ?_ ?_
       rotate_left
       ·
        intro w'
        go_simp
        with_reducible rfl
       rotate_left
       ·
        simp only [Act.put, List.setIfInBounds_toArray, List.set_cons_zero, List.set_cons_succ, i64_w, i32_w]
        rfl
       refine pure_ (i := 5) (N := some 102) (v := ?_) (a' := ?_) #[false,false,true,false,false,true,false,false,false,false,false,false,false,false,false,false,false,false,false,false,false,false,false,false,false,false,false,false,false,false,false,false,false,false,false] rfl rfl (any_of HT_.out (by kernel_rfl)) (fun _ _ _ h => h) (Or.inl ⟨by rfl, ?_⟩) ?_ ?_
       rotate_left
       ·
        intro w'
        go_simp
        with_reducible rfl
       rotate_left
       ·
        simp only [Act.put, List.setIfInBounds_toArray, List.set_cons_zero, List.set_cons_succ, i64_w, i32_w]
        rfl
       refine take_ (i := 0) (N := some 97) (v := ?_) (a' := ?_) #[true,false,true,false,false,true,false,false,false,false,false,false,false,false,false,false,false,false,false,false,false,false,false,false,false,false,false,false,false,false,false,false,false,false,false] rfl rfl (take_ofW HT_.out HW_.out (by kernel_rfl)) (fun _ _ _ h => h) (Or.inl ⟨by rfl, ?_⟩) hHeld ?_ ?_
       rotate_left
       ·
        rintro w' ⟨s0, s1⟩
        go_simp
        with_reducible rfl
       rotate_left
       ·
        simp only [Act.put, List.setIfInBounds_toArray, List.set_cons_zero, List.set_cons_succ, i64_w, i32_w]
        rfl
       refine take_ (i := 1) (N := some 98) (v := ?_) (a' := ?_) #[true,true,true,false,false,true,false,false,false,false,false,false,false,false,false,false,false,false,false,false,false,false,false,false,false,false,false,false,false,false,false,false,false,false,false] rfl rfl (take_ofW HT_.out HW_.out (by kernel_rfl)) (fun _ _ _ h => h) (Or.inl ⟨by rfl, ?_⟩) hHeld ?_ ?_
       rotate_left
       ·
        rintro w' ⟨s0, s1⟩
        go_simp
        with_reducible rfl
       rotate_left
       ·
        simp only [Act.put, List.setIfInBounds_toArray, List.set_cons_zero, List.set_cons_succ, i64_w, i32_w]
        rfl
       refine one_ (i := 3) (N := some 100) #[true,true,true,true,false,true,false,false,false,false,false,false,false,false,false,false,false,false,false,false,false,false,false,false,false,false,false,false,false,false,false,false,false,false,false] rfl rfl (one_of HT_.out (by kernel_rfl)) (by decide) (fun K hK => ?_)
       refine goes_ Tryd.func20 (by kernel_rfl) rfl #[.agg #[.int .i64 ((rd_T26 t327 t332).f0), .bool ((rd_T26 t327 t332).f1)], .int .i64 t339] (by rfl) rfl rfl (by (try simp only [List.map_toArray, List.map_cons, List.map_nil]); first | done | rfl | (simp only [List.length_drop, List.length_take]; rfl)) ?_
       with_reducible refine (word_Invert.calls ((rd_T26 t327 t332).f0) ((rd_T26 t327 t332).f1) t339 t352 _ A53.out).mono ?_
       rintro e w75 ⟨rfl, hb⟩
       refine ⟨_, rfl, ?_⟩
       have n0_ := Aside0.mk (blk_below (g := gb334) (o := .cells #[.int .i64 ((rd_T26 t327 t330).f0), .bool ((rd_T26 t327 t330).f1)] 26 (0, 0)) (by (with_reducible repeat (first | refine blk_drewN ?_ _ | refine blk_drew ?_ | refine blk_alloc ?_ _)); exact BK334.out) hb)
       have n1_ := Aside0.mk (blk_below (g := gb335) (o := .cells #[.int .i64 ((rd_T26 t327 t332).f0), .bool ((rd_T26 t327 t332).f1)] 26 (0, 0)) (by (with_reducible repeat (first | refine blk_drewN ?_ _ | refine blk_drew ?_ | refine blk_alloc ?_ _)); exact BK335.out) hb)
       have n2_ := Aside0.mk (below_step (by repeat (first | (with_reducible first | exact HB.out | apply below_alloc | apply pw_below_drewN | apply below_drew1 | refine below_set ?_ GE334.out | refine below_set ?_ GE335.out) | exact HB.out)) hb)
       clear BK334
       clear BK335
       clear HB
       have BK334 := n0_
       have BK335 := n1_
       have HB := n2_
       clear n0_ n1_ n2_
       (try clear hb)
       (try clear hb2)
       (try clear hk)
       (try clear hi)
       refine hK.out _ _ ⟨(blk_cell BK335.out 0).trans rfl, (blk_cell BK335.out 1).trans rfl⟩ (fun hHeld => ?_)
       clear hK K
       refine norm_ (a' := ?_) ?_ ?_
       rotate_left
       ·
        show Act.put _ (some 100) _ = _
        simp only [Act.put, List.setIfInBounds_toArray, List.set_cons_zero, List.set_cons_succ, i64_w, i32_w]
        rfl
       refine one_ (i := 4) (N := some 101) #[true,true,true,true,true,true,false,false,false,false,false,false,false,false,false,false,false,false,false,false,false,false,false,false,false,false,false,false,false,false,false,false,false,false,false] rfl rfl (one_of HT_.out (by kernel_rfl)) (by decide) (fun K hK => ?_)
       refine goes_ Tryd.func20 (by kernel_rfl) rfl #[.agg #[.int .i64 ((rd_T26 t327 t332).f0), .bool ((rd_T26 t327 t332).f1)], .int .i64 t352] (by rfl) rfl rfl (by (try simp only [List.map_toArray, List.map_cons, List.map_nil]); first | done | rfl | (simp only [List.length_drop, List.length_take]; rfl)) ?_
       with_reducible refine (word_Invert.calls ((rd_T26 t327 t332).f0) ((rd_T26 t327 t332).f1) t352 t353 _ A54.out).mono ?_
       rintro e w76 ⟨rfl, hb⟩
       refine ⟨_, rfl, ?_⟩
       have n0_ := Aside0.mk (blk_below (g := gb334) (o := .cells #[.int .i64 ((rd_T26 t327 t330).f0), .bool ((rd_T26 t327 t330).f1)] 26 (0, 0)) (by (with_reducible repeat (first | refine blk_drewN ?_ _ | refine blk_drew ?_ | refine blk_alloc ?_ _)); exact BK334.out) hb)
       have n1_ := Aside0.mk (blk_below (g := gb335) (o := .cells #[.int .i64 ((rd_T26 t327 t332).f0), .bool ((rd_T26 t327 t332).f1)] 26 (0, 0)) (by (with_reducible repeat (first | refine blk_drewN ?_ _ | refine blk_drew ?_ | refine blk_alloc ?_ _)); exact BK335.out) hb)
       have n2_ := Aside0.mk (below_step (by repeat (first | (with_reducible first | exact HB.out | apply below_alloc | apply pw_below_drewN | apply below_drew1 | refine below_set ?_ GE334.out | refine below_set ?_ GE335.out) | exact HB.out)) hb)
       clear BK334
       clear BK335
       clear HB
       have BK334 := n0_
       have BK335 := n1_
       have HB := n2_
       clear n0_ n1_ n2_
       (try clear hb)
       (try clear hb2)
       (try clear hk)
       (try clear hi)
       refine hK.out _ _ ⟨(blk_cell BK335.out 0).trans rfl, (blk_cell BK335.out 1).trans rfl⟩ (fun hHeld => ?_)
       clear hK K
       refine norm_ (a' := ?_) ?_ ?_
       rotate_left
       ·
        show Act.put _ (some 101) _ = _
        simp only [Act.put, List.setIfInBounds_toArray, List.set_cons_zero, List.set_cons_succ, i64_w, i32_w]
        rfl
       refine pure_ (i := 6) (N := some 103) (v := ?_) (a' := ?_) #[true,true,true,true,true,true,true,false,false,false,false,false,false,false,false,false,false,false,false,false,false,false,false,false,false,false,false,false,false,false,false,false,false,false,false] rfl rfl (any_of HT_.out (by kernel_rfl)) (fun _ _ _ h => h) (Or.inl ⟨by rfl, ?_⟩) ?_ ?_
       rotate_left
       ·
        intro w'
        go_simp
        with_reducible rfl
       rotate_left
       ·
        simp only [Act.put, List.setIfInBounds_toArray, List.set_cons_zero, List.set_cons_succ, i64_w, i32_w]
        rfl
       refine pure_ (i := 7) (N := some 104) (v := ?_) (a' := ?_) #[true,true,true,true,true,true,true,true,false,false,false,false,false,false,false,false,false,false,false,false,false,false,false,false,false,false,false,false,false,false,false,false,false,false,false] rfl rfl (any_of HT_.out (by kernel_rfl)) (fun _ _ _ h => h) (Or.inl ⟨by rfl, ?_⟩) ?_ ?_
       rotate_left
       ·
        intro w'
        go_simp
        with_reducible rfl
       rotate_left
       ·
        simp only [Act.put, List.setIfInBounds_toArray, List.set_cons_zero, List.set_cons_succ, i64_w, i32_w]
        rfl
       refine pure_ (i := 8) (N := some 105) (v := ?_) (a' := ?_) #[true,true,true,true,true,true,true,true,true,false,false,false,false,false,false,false,false,false,false,false,false,false,false,false,false,false,false,false,false,false,false,false,false,false,false] rfl rfl (any_of HT_.out (by kernel_rfl)) (fun _ _ _ h => h) (Or.inl ⟨by rfl, ?_⟩) ?_ ?_
       rotate_left
       ·
        intro w'
        go_simp
        with_reducible rfl
       rotate_left
       ·
        simp only [Act.put, List.setIfInBounds_toArray, List.set_cons_zero, List.set_cons_succ, i64_w, i32_w]
        rfl
       refine pure_ (i := 9) (N := some 106) (v := ?_) (a' := ?_) #[true,true,true,true,true,true,true,true,true,true,false,false,false,false,false,false,false,false,false,false,false,false,false,false,false,false,false,false,false,false,false,false,false,false,false] rfl rfl (any_of HT_.out (by kernel_rfl)) (fun _ _ _ h => h) (Or.inl ⟨by rfl, ?_⟩) ?_ ?_
       rotate_left
       ·
        intro w'
        go_simp
        with_reducible rfl
       rotate_left
       ·
        simp only [Act.put, List.setIfInBounds_toArray, List.set_cons_zero, List.set_cons_succ, i64_w, i32_w]
        rfl
       refine pure_ (i := 10) (N := some 107) (v := ?_) (a' := ?_) #[true,true,true,true,true,true,true,true,true,true,true,false,false,false,false,false,false,false,false,false,false,false,false,false,false,false,false,false,false,false,false,false,false,false,false] rfl rfl (any_of HT_.out (by kernel_rfl)) (fun _ _ _ h => h) (Or.inl ⟨by rfl, ?_⟩) ?_ ?_
       rotate_left
       ·
        intro w'
        go_simp
        with_reducible rfl
       rotate_left
       ·
        simp only [Act.put, List.setIfInBounds_toArray, List.set_cons_zero, List.set_cons_succ, i64_w, i32_w]
        rfl
       refine pure_ (i := 11) (N := some 108) (v := ?_) (a' := ?_) #[true,true,true,true,true,true,true,true,true,true,true,true,false,false,false,false,false,false,false,false,false,false,false,false,false,false,false,false,false,false,false,false,false,false,false] rfl rfl (any_of HT_.out (by kernel_rfl)) (fun _ _ _ h => h) (Or.inl ⟨by rfl, ?_⟩) ?_ ?_
       rotate_left
       ·
        intro w'
        go_simp
        with_reducible rfl
       rotate_left
       ·
        simp only [Act.put, List.setIfInBounds_toArray, List.set_cons_zero, List.set_cons_succ, i64_w, i32_w]
        rfl
       refine pure_ (i := 12) (N := some 109) (v := ?_) (a' := ?_) #[true,true,true,true,true,true,true,true,true,true,true,true,true,false,false,false,false,false,false,false,false,false,false,false,false,false,false,false,false,false,false,false,false,false,false] rfl rfl (any_of HT_.out (by kernel_rfl)) (fun _ _ _ h => h) (Or.inl ⟨by rfl, ?_⟩) ?_ ?_
       rotate_left
       ·
        intro w'
        go_simp
        with_reducible rfl
       rotate_left
       ·
        simp only [Act.put, List.setIfInBounds_toArray, List.set_cons_zero, List.set_cons_succ, i64_w, i32_w]
        rfl
       refine pure_ (i := 13) (N := some 110) (v := ?_) (a' := ?_) #[true,true,true,true,true,true,true,true,true,true,true,true,true,true,false,false,false,false,false,false,false,false,false,false,false,false,false,false,false,false,false,false,false,false,false] rfl rfl (any_of HT_.out (by kernel_rfl)) (fun _ _ _ h => h) (Or.inl ⟨by rfl, ?_⟩) ?_ ?_
       rotate_left
       ·
        intro w'
        go_simp
        with_reducible rfl
       rotate_left
       ·
        simp only [Act.put, List.setIfInBounds_toArray, List.set_cons_zero, List.set_cons_succ, i64_w, i32_w]
        rfl
       refine pure_ (i := 14) (N := some 111) (v := ?_) (a' := ?_) #[true,true,true,true,true,true,true,true,true,true,true,true,true,true,true,false,false,false,false,false,false,false,false,false,false,false,false,false,false,false,false,false,false,false,false] rfl rfl (any_of HT_.out (by kernel_rfl)) (fun _ _ _ h => h) (Or.inl ⟨by rfl, ?_⟩) ?_ ?_
       rotate_left
       ·
        intro w'
        go_simp
        with_reducible rfl
       rotate_left
       ·
        simp only [Act.put, List.setIfInBounds_toArray, List.set_cons_zero, List.set_cons_succ, i64_w, i32_w]
        rfl
       refine pure_ (i := 15) (N := some 112) (v := ?_) (a' := ?_) #[true,true,true,true,true,true,true,true,true,true,true,true,true,true,true,true,false,false,false,false,false,false,false,false,false,false,false,false,false,false,false,false,false,false,false] rfl rfl (any_of HT_.out (by kernel_rfl)) (fun _ _ _ h => h) (Or.inl ⟨by rfl, ?_⟩) ?_ ?_
       rotate_left
       ·
        intro w'
        go_simp
        with_reducible rfl
       rotate_left
       ·
        simp only [Act.put, List.setIfInBounds_toArray, List.set_cons_zero, List.set_cons_succ, i64_w, i32_w]
        rfl
       refine pure_ (i := 16) (N := some 113) (v := ?_) (a' := ?_) #[true,true,true,true,true,true,true,true,true,true,true,true,true,true,true,true,true,false,false,false,false,false,false,false,false,false,false,false,false,false,false,false,false,false,false] rfl rfl (any_of HT_.out (by kernel_rfl)) (fun _ _ _ h => h) (Or.inl ⟨by rfl, ?_⟩) ?_ ?_
       rotate_left
       ·
        intro w'
        go_simp
        with_reducible rfl
       rotate_left
       ·
        simp only [Act.put, List.setIfInBounds_toArray, List.set_cons_zero, List.set_cons_succ, i64_w, i32_w]
        rfl
       refine pure_ (i := 17) (N := some 114) (v := ?_) (a' := ?_) #[true,true,true,true,true,true,true,true,true,true,true,true,true,true,true,true,true,true,false,false,false,false,false,false,false,false,false,false,false,false,false,false,false,false,false] rfl rfl (any_of HT_.out (by kernel_rfl)) (fun _ _ _ h => h) (Or.inl ⟨by rfl, ?_⟩) ?_ ?_
       rotate_left
       ·
        intro w'
        go_simp
        with_reducible rfl
       rotate_left
       ·
        simp only [Act.put, List.setIfInBounds_toArray, List.set_cons_zero, List.set_cons_succ, i64_w, i32_w]
        rfl
       refine pure_ (i := 18) (N := some 115) (v := ?_) (a' := ?_) #[true,true,true,true,true,true,true,true,true,true,true,true,true,true,true,true,true,true,true,false,false,false,false,false,false,false,false,false,false,false,false,false,false,false,false] rfl rfl (any_of HT_.out (by kernel_rfl)) (fun _ _ _ h => h) (Or.inl ⟨by rfl, ?_⟩) ?_ ?_
       rotate_left
       ·
        intro w'
        go_simp
        with_reducible rfl
       rotate_left
       ·
        simp only [Act.put, List.setIfInBounds_toArray, List.set_cons_zero, List.set_cons_succ, i64_w, i32_w]
        rfl
       refine pure_ (i := 19) (N := some 116) (v := ?_) (a' := ?_) #[true,true,true,true,true,true,true,true,true,true,true,true,true,true,true,true,true,true,true,true,false,false,false,false,false,false,false,false,false,false,false,false,false,false,false] rfl rfl (any_of HT_.out (by kernel_rfl)) (fun _ _ _ h => h) (Or.inl ⟨by rfl, ?_⟩) ?_ ?_
       rotate_left
       ·
        intro w'
        go_simp
        with_reducible rfl
       rotate_left
       ·
        simp only [Act.put, List.setIfInBounds_toArray, List.set_cons_zero, List.set_cons_succ, i64_w, i32_w]
        rfl
       refine pure_ (i := 20) (N := some 117) (v := ?_) (a' := ?_) #[true,true,true,true,true,true,true,true,true,true,true,true,true,true,true,true,true,true,true,true,true,false,false,false,false,false,false,false,false,false,false,false,false,false,false] rfl rfl (any_of HT_.out (by kernel_rfl)) (fun _ _ _ h => h) (Or.inl ⟨by rfl, ?_⟩) ?_ ?_
       rotate_left
       ·
        intro w'
        go_simp
        with_reducible rfl
       rotate_left
       ·
        simp only [Act.put, List.setIfInBounds_toArray, List.set_cons_zero, List.set_cons_succ, i64_w, i32_w]
        rfl
       refine pure_ (i := 21) (N := some 118) (v := ?_) (a' := ?_) #[true,true,true,true,true,true,true,true,true,true,true,true,true,true,true,true,true,true,true,true,true,true,false,false,false,false,false,false,false,false,false,false,false,false,false] rfl rfl (any_of HT_.out (by kernel_rfl)) (fun _ _ _ h => h) (Or.inl ⟨by rfl, ?_⟩) ?_ ?_
       rotate_left
       ·
        intro w'
        go_simp
        with_reducible rfl
       rotate_left
       ·
        simp only [Act.put, List.setIfInBounds_toArray, List.set_cons_zero, List.set_cons_succ, i64_w, i32_w]
        rfl
       refine pure_ (i := 22) (N := some 119) (v := ?_) (a' := ?_) #[true,true,true,true,true,true,true,true,true,true,true,true,true,true,true,true,true,true,true,true,true,true,true,false,false,false,false,false,false,false,false,false,false,false,false] rfl rfl (any_of HT_.out (by kernel_rfl)) (fun _ _ _ h => h) (Or.inl ⟨by rfl, ?_⟩) ?_ ?_
       rotate_left
       ·
        intro w'
        go_simp
        with_reducible rfl
       rotate_left
       ·
        simp only [Act.put, List.setIfInBounds_toArray, List.set_cons_zero, List.set_cons_succ, i64_w, i32_w]
        rfl
       refine pure_ (i := 23) (N := some 120) (v := ?_) (a' := ?_) #[true,true,true,true,true,true,true,true,true,true,true,true,true,true,true,true,true,true,true,true,true,true,true,true,false,false,false,false,false,false,false,false,false,false,false] rfl rfl (any_of HT_.out (by kernel_rfl)) (fun _ _ _ h => h) (Or.inl ⟨by rfl, ?_⟩) ?_ ?_
       rotate_left
       ·
        intro w'
        go_simp
        with_reducible rfl
       rotate_left
       ·
        simp only [Act.put, List.setIfInBounds_toArray, List.set_cons_zero, List.set_cons_succ, i64_w, i32_w]
        rfl
       refine pure_ (i := 24) (N := some 121) (v := ?_) (a' := ?_) #[true,true,true,true,true,true,true,true,true,true,true,true,true,true,true,true,true,true,true,true,true,true,true,true,true,false,false,false,false,false,false,false,false,false,false] rfl rfl (any_of HT_.out (by kernel_rfl)) (fun _ _ _ h => h) (Or.inl ⟨by rfl, ?_⟩) ?_ ?_
       rotate_left
       ·
        intro w'
        go_simp
        with_reducible rfl
       rotate_left
       ·
        simp only [Act.put, List.setIfInBounds_toArray, List.set_cons_zero, List.set_cons_succ, i64_w, i32_w]
        rfl
       refine pure_ (i := 25) (N := some 122) (v := ?_) (a' := ?_) #[true,true,true,true,true,true,true,true,true,true,true,true,true,true,true,true,true,true,true,true,true,true,true,true,true,true,false,false,false,false,false,false,false,false,false] rfl rfl (any_of HT_.out (by kernel_rfl)) (fun _ _ _ h => h) (Or.inl ⟨by rfl, ?_⟩) ?_ ?_
       rotate_left
       ·
        intro w'
        go_simp
        with_reducible rfl
       rotate_left
       ·
        simp only [Act.put, List.setIfInBounds_toArray, List.set_cons_zero, List.set_cons_succ, i64_w, i32_w]
        rfl
       refine pure_ (i := 26) (N := some 123) (v := ?_) (a' := ?_) #[true,true,true,true,true,true,true,true,true,true,true,true,true,true,true,true,true,true,true,true,true,true,true,true,true,true,true,false,false,false,false,false,false,false,false] rfl rfl (any_of HT_.out (by kernel_rfl)) (fun _ _ _ h => h) (Or.inl ⟨by rfl, ?_⟩) ?_ ?_
       rotate_left
       ·
        intro w'
        go_simp
        with_reducible rfl
       rotate_left
       ·
        simp only [Act.put, List.setIfInBounds_toArray, List.set_cons_zero, List.set_cons_succ, i64_w, i32_w]
        rfl
       refine pure_ (i := 27) (N := some 124) (v := ?_) (a' := ?_) #[true,true,true,true,true,true,true,true,true,true,true,true,true,true,true,true,true,true,true,true,true,true,true,true,true,true,true,true,false,false,false,false,false,false,false] rfl rfl (any_of HT_.out (by kernel_rfl)) (fun _ _ _ h => h) (Or.inl ⟨by rfl, ?_⟩) ?_ ?_
       rotate_left
       ·
        intro w'
        go_simp
        with_reducible rfl
       rotate_left
       ·
        simp only [Act.put, List.setIfInBounds_toArray, List.set_cons_zero, List.set_cons_succ, i64_w, i32_w]
        rfl
       refine pure_ (i := 28) (N := some 125) (v := ?_) (a' := ?_) #[true,true,true,true,true,true,true,true,true,true,true,true,true,true,true,true,true,true,true,true,true,true,true,true,true,true,true,true,true,false,false,false,false,false,false] rfl rfl (any_of HT_.out (by kernel_rfl)) (fun _ _ _ h => h) (Or.inl ⟨by rfl, ?_⟩) ?_ ?_
       rotate_left
       ·
        intro w'
        go_simp
        with_reducible rfl
       rotate_left
       ·
        simp only [Act.put, List.setIfInBounds_toArray, List.set_cons_zero, List.set_cons_succ, i64_w, i32_w]
        rfl
       refine pure_ (i := 29) (N := some 126) (v := ?_) (a' := ?_) #[true,true,true,true,true,true,true,true,true,true,true,true,true,true,true,true,true,true,true,true,true,true,true,true,true,true,true,true,true,true,false,false,false,false,false] rfl rfl (any_of HT_.out (by kernel_rfl)) (fun _ _ _ h => h) (Or.inl ⟨by rfl, ?_⟩) ?_ ?_
       rotate_left
       ·
        intro w'
        go_simp
        with_reducible rfl
       rotate_left
       ·
        simp only [Act.put, List.setIfInBounds_toArray, List.set_cons_zero, List.set_cons_succ, i64_w, i32_w]
        rfl
       refine pure_ (i := 30) (N := some 127) (v := ?_) (a' := ?_) #[true,true,true,true,true,true,true,true,true,true,true,true,true,true,true,true,true,true,true,true,true,true,true,true,true,true,true,true,true,true,true,false,false,false,false] rfl rfl (any_of HT_.out (by kernel_rfl)) (fun _ _ _ h => h) (Or.inl ⟨by rfl, ?_⟩) ?_ ?_
       rotate_left
       ·
        intro w'
        go_simp
        with_reducible rfl
       rotate_left
       ·
        simp only [Act.put, List.setIfInBounds_toArray, List.set_cons_zero, List.set_cons_succ, i64_w, i32_w]
        rfl
       refine pure_ (i := 31) (N := some 128) (v := ?_) (a' := ?_) #[true,true,true,true,true,true,true,true,true,true,true,true,true,true,true,true,true,true,true,true,true,true,true,true,true,true,true,true,true,true,true,true,false,false,false] rfl rfl (any_of HT_.out (by kernel_rfl)) (fun _ _ _ h => h) (Or.inl ⟨by rfl, ?_⟩) ?_ ?_
       rotate_left
       ·
        intro w'
        go_simp
        with_reducible rfl
       rotate_left
       ·
        simp only [Act.put, List.setIfInBounds_toArray, List.set_cons_zero, List.set_cons_succ, i64_w, i32_w]
        rfl
       refine one_ (i := 32) (N := some 129) #[true,true,true,true,true,true,true,true,true,true,true,true,true,true,true,true,true,true,true,true,true,true,true,true,true,true,true,true,true,true,true,true,true,false,false] rfl rfl (one_of HT_.out (by kernel_rfl)) (by decide) (fun K hK => ?_)
       refine goes_ Tryd.func16 (by kernel_rfl) rfl #[] (by rfl) rfl rfl (by (try simp only [List.map_toArray, List.map_cons, List.map_nil]); first | done | rfl | (simp only [List.length_drop, List.length_take]; rfl)) ?_
       with_reducible refine (spokeshavelaw1_awake.calls kj10  t354 _ A62.out).mono ?_
       rintro e w77 ⟨rfl, hb⟩
       refine ⟨_, rfl, ?_⟩
       have n0_ := Aside0.mk (blk_below (g := gb334) (o := .cells #[.int .i64 ((rd_T26 t327 t330).f0), .bool ((rd_T26 t327 t330).f1)] 26 (0, 0)) (by (with_reducible repeat (first | refine blk_drewN ?_ _ | refine blk_drew ?_ | refine blk_alloc ?_ _)); exact BK334.out) hb)
       have n1_ := Aside0.mk (blk_below (g := gb335) (o := .cells #[.int .i64 ((rd_T26 t327 t332).f0), .bool ((rd_T26 t327 t332).f1)] 26 (0, 0)) (by (with_reducible repeat (first | refine blk_drewN ?_ _ | refine blk_drew ?_ | refine blk_alloc ?_ _)); exact BK335.out) hb)
       have n2_ := Aside0.mk (below_step (by repeat (first | (with_reducible first | exact HB.out | apply below_alloc | apply pw_below_drewN | apply below_drew1 | refine below_set ?_ GE334.out | refine below_set ?_ GE335.out) | exact HB.out)) hb)
       clear BK334
       clear BK335
       clear HB
       have BK334 := n0_
       have BK335 := n1_
       have HB := n2_
       clear n0_ n1_ n2_
       (try clear hb)
       (try clear hb2)
       (try clear hk)
       (try clear hi)
       refine hK.out _ _ ⟨(blk_cell BK335.out 0).trans rfl, (blk_cell BK335.out 1).trans rfl⟩ (fun hHeld => ?_)
       clear hK K
       refine norm_ (a' := ?_) ?_ ?_
       rotate_left
       ·
        show Act.put _ (some 129) _ = _
        simp only [Act.put, List.setIfInBounds_toArray, List.set_cons_zero, List.set_cons_succ, i64_w, i32_w]
        rfl
       refine pure_ (i := 33) (N := some 130) (v := ?_) (a' := ?_) #[true,true,true,true,true,true,true,true,true,true,true,true,true,true,true,true,true,true,true,true,true,true,true,true,true,true,true,true,true,true,true,true,true,true,false] rfl rfl (any_of HT_.out (by kernel_rfl)) (fun _ _ _ h => h) (Or.inl ⟨by rfl, ?_⟩) ?_ ?_
       rotate_left
       ·
        intro w'
        go_simp
        with_reducible rfl
       rotate_left
       ·
        simp only [Act.put, List.setIfInBounds_toArray, List.set_cons_zero, List.set_cons_succ, i64_w, i32_w]
        rfl
       refine pure_ (i := 34) (N := some 6) (v := ?_) (a' := ?_) #[true,true,true,true,true,true,true,true,true,true,true,true,true,true,true,true,true,true,true,true,true,true,true,true,true,true,true,true,true,true,true,true,true,true,true] rfl rfl (any_of HT_.out (by kernel_rfl)) (fun _ _ _ h => h) (Or.inl ⟨by rfl, ?_⟩) ?_ ?_
       rotate_left
       ·
        intro w'
        go_simp
        with_reducible rfl
       rotate_left
       ·
        simp only [Act.put, List.setIfInBounds_toArray, List.set_cons_zero, List.set_cons_succ, i64_w, i32_w]
        rfl
       refine done_ (done_of HT_.out (by kernel_rfl)) ?_
       try go_wp2
       go_ret
       exact ⟨by first | rfl | (simp [errW_none, errW_some] <;> rfl) | (simp [*, errW_none, errW_some] <;> rfl), by repeat (first | (with_reducible first | exact HB.out | apply below_alloc | apply pw_below_drewN | apply below_drew1 | refine below_set ?_ GE334.out | refine below_set ?_ GE335.out) | exact HB.out)⟩
      ·
       replace c61 := Bool.eq_false_iff.mpr c61
       subst c61
       have H1 : (none) = some r := by rw [if_neg (show ¬ (false = true) by decide)] at H; exact H
       clear H
       have H := H1
       clear H1
       exact absurd H (by simp)
     ·
      replace c57 := Bool.eq_false_iff.mpr c57
      subst c57
      have H1 : (none) = some r := by rw [if_neg (show ¬ (false = true) by decide)] at H; exact H
      clear H
      have H := H1
      clear H1
      exact absurd H (by simp)

/-- THE ONE PURE STATEMENT of spokeshavelaw1_WordTurns: yours. -/
def spokeshavelaw1_WordTurns.Pure : Prop := ∀ (a0 : Int) (a1 : Int) (a2 : Int), (Lit.int .i64 a0).wf = true → (Lit.int .i64 a1).wf = true → (Lit.int .i64 a2).wf = true → ∃ k, spokeshavelaw1_WordTurns.f k a0 a1 a2 = some true
theorem spokeshavelaw1_WordTurns.walk (P : spokeshavelaw1_WordTurns.Pure) (a0 : Int) (a1 : Int) (a2 : Int) (w : World) (w0 : (Lit.int .i64 a0).wf = true) (w1 : (Lit.int .i64 a1).wf = true) (w2 : (Lit.int .i64 a2).wf = true) :
  Calls Tryd.prog 7 #[.int .i64 a0, .int .i64 a1, .int .i64 a2] w fun e w' => e = .returned (.bool true) ∧ Below w.heap.size w w' := by
 obtain ⟨k, h⟩ := P a0 a1 a2 w0 w1 w2
 refine (spokeshavelaw1_WordTurns.calls k a0 a1 a2 true w h).mono ?_
 rintro e w' ⟨rfl, hd⟩
 exact ⟨rfl, hd⟩

end Go.Proofs.YthkcdmkimnockaaDoor.PWord
