-- PRINTED by print.py (a twelfth state) out of the translation. Not trusted: Lean checks it.
import Derived.Test.YthkcdmkimnockaaDoorPWordx0
import Derived.Test.YthkcdmkimnockaaDoorPWordx2
import Derived.Test.YthkcdmkimnockaaDoorPWordx5
import Derived.Test.YthkcdmkimnockaaDoorPWordx8
import Derived.Test.YthkcdmkimnockaaDoorPWordx10
import Derived.Test.YthkcdmkimnockaaDoorPWordx16
namespace Go.Proofs.YthkcdmkimnockaaDoor.PWord
open Go.RowKit Go.Proofs.YthkcdmkimnockaaDoorW.PrintWords Go.Proofs.YthkcdmkimnockaaDoorW.PrintLast Go.Proofs.YthkcdmkimnockaaDoorW.PrintMore
attribute [local go_sem] max2_int min2_int max_two min_two max_three min_three max_four min_four   -- for this text's walks alone
set_option linter.unusedVariables false
set_option linter.unusedSimpArgs false

/-! ### spokeshavelaw1_WordOrders: function 8 -/
def spokeshavelaw1_WordOrders.f (k : Nat) (a0 : Int) (a1 : Int) (a2 : Int) : Option (Bool) := if (Go.bits .and .i64 a0 2) = 2 then ((word_Wrap.f (wrap64 (32 + (wrap64 (32 * (Go.bits .and .i64 a0 1))))) true a1).bind fun t366 => ((word_Wrap.f (wrap64 (32 + (wrap64 (32 * (Go.bits .and .i64 a0 1))))) true a2).bind fun t367 => ((word_Binary.f k (wrap64 (32 + (wrap64 (32 * (Go.bits .and .i64 a0 1))))) true 16 t366 t367).bind fun bt368 => ((word_Binary.f k (wrap64 (32 + (wrap64 (32 * (Go.bits .and .i64 a0 1))))) true 16 t367 t366).bind fun bt370 => ((word_Binary.f k (wrap64 (32 + (wrap64 (32 * (Go.bits .and .i64 a0 1))))) true 14 t366 t367).bind fun bt372 => ((word_Binary.f k (wrap64 (32 + (wrap64 (32 * (Go.bits .and .i64 a0 1))))) true 17 t366 t367).bind fun bt374 => ((word_Binary.f k (wrap64 (32 + (wrap64 (32 * (Go.bits .and .i64 a0 1))))) true 15 t366 t367).bind fun bt376 => ((word_Plain.f k 16 a1 a2).bind fun bt378 => ((word_Plain.f k 18 a1 a2).bind fun bt380 => ((word_Plain.f k 17 a2 a1).bind fun bt382 => ((word_Plain.f k 19 a2 a1).bind fun bt384 => (if bt368.2 = true then (if bt370.2 = true then (if bt372.2 = true then (if bt374.2 = true then (if bt376.2 = true then (if (wrap64 ((wrap64 (bt368.1 + bt370.1)) + bt372.1)) = 1 then (if bt374.1 = (wrap64 (bt368.1 + bt372.1)) then (if bt376.1 = (wrap64 (1 - bt372.1)) then (if ((bt378.1 == 1) == (decide (a1 < a2))) = true then (if ((bt380.1 == 1) == (decide ((IntKind.u64.wrap (a1)) < (IntKind.u64.wrap (a2))))) = true then (if (wrap64 (bt378.1 + bt382.1)) = 1 then (if (wrap64 (bt380.1 + bt384.1)) = 1 then ((spokeshavelaw1_awake.f k).bind fun t386 => (some t386)) else (none)) else (none)) else (none)) else (none)) else (none)) else (none)) else (none)) else (none)) else (none)) else (none)) else (none)) else (none))))))))))))) else ((word_Wrap.f (wrap64 (32 + (wrap64 (32 * (Go.bits .and .i64 a0 1))))) false a1).bind fun t388 => ((word_Wrap.f (wrap64 (32 + (wrap64 (32 * (Go.bits .and .i64 a0 1))))) false a2).bind fun t389 => ((word_Binary.f k (wrap64 (32 + (wrap64 (32 * (Go.bits .and .i64 a0 1))))) false 16 t388 t389).bind fun bt390 => ((word_Binary.f k (wrap64 (32 + (wrap64 (32 * (Go.bits .and .i64 a0 1))))) false 16 t389 t388).bind fun bt392 => ((word_Binary.f k (wrap64 (32 + (wrap64 (32 * (Go.bits .and .i64 a0 1))))) false 14 t388 t389).bind fun bt394 => ((word_Binary.f k (wrap64 (32 + (wrap64 (32 * (Go.bits .and .i64 a0 1))))) false 17 t388 t389).bind fun bt396 => ((word_Binary.f k (wrap64 (32 + (wrap64 (32 * (Go.bits .and .i64 a0 1))))) false 15 t388 t389).bind fun bt398 => ((word_Plain.f k 16 a1 a2).bind fun bt400 => ((word_Plain.f k 18 a1 a2).bind fun bt402 => ((word_Plain.f k 17 a2 a1).bind fun bt404 => ((word_Plain.f k 19 a2 a1).bind fun bt406 => (if bt390.2 = true then (if bt392.2 = true then (if bt394.2 = true then (if bt396.2 = true then (if bt398.2 = true then (if (wrap64 ((wrap64 (bt390.1 + bt392.1)) + bt394.1)) = 1 then (if bt396.1 = (wrap64 (bt390.1 + bt394.1)) then (if bt398.1 = (wrap64 (1 - bt394.1)) then (if ((bt400.1 == 1) == (decide (a1 < a2))) = true then (if ((bt402.1 == 1) == (decide ((IntKind.u64.wrap (a1)) < (IntKind.u64.wrap (a2))))) = true then (if (wrap64 (bt400.1 + bt404.1)) = 1 then (if (wrap64 (bt402.1 + bt406.1)) = 1 then ((spokeshavelaw1_awake.f k).bind fun t408 => (some t408)) else (none)) else (none)) else (none)) else (none)) else (none)) else (none)) else (none)) else (none)) else (none)) else (none)) else (none)) else (none)))))))))))))
theorem spokeshavelaw1_WordOrders.mono : ∀ a0 a1 a2 k, LeO (spokeshavelaw1_WordOrders.f k a0 a1 a2) (spokeshavelaw1_WordOrders.f (k + 1) a0 a1 a2) := by
 intro a0 a1 a2 k
 unfold spokeshavelaw1_WordOrders.f
 repeat' first
   | (with_reducible exact spokeshavelaw1_awake.mono _)
   | (with_reducible exact word_Binary.mono _ _ _ _ _ _)
   | (with_reducible exact word_Plain.mono _ _ _ _)
   | (with_reducible exact LeO.refl _)
   | (with_reducible exact LeO.none _)
   | (with_reducible refine LeO.ite ?_ ?_)
   | (with_reducible refine LeO.bind ?_ (fun _ => ?_))
   | exact spokeshavelaw1_awake.mono _
   | exact word_Binary.mono _ _ _ _ _ _
   | exact word_Plain.mono _ _ _ _
   | exact LeO.none _
   | refine LeO.ite ?_ ?_
   | refine LeO.bind ?_ (fun _ => ?_)
def spokeshavelaw1_WordOrders.T2 : Bool × List (List Nat × List Nat) := (true, [([], []), ([], []), ([0, 1], [0, 1]), ([], []), ([], []), ([3, 4, 2], [3, 4]), ([2, 5, 0, 1, 2], [2]), ([5, 6, 0, 1, 2, 3, 4, 5, 6], [5])])
def spokeshavelaw1_WordOrders.B2 : List Nat := [0, 0, 3, 0, 0, 31, 63, 127]
theorem spokeshavelaw1_WordOrders.tab2 : rtab .any (opsOf Tryd.f8 2) = spokeshavelaw1_WordOrders.T2 := by kernel_rfl
theorem spokeshavelaw1_WordOrders.bits2 : waitsOk spokeshavelaw1_WordOrders.T2.2 spokeshavelaw1_WordOrders.B2 = true := by kernel_rfl
set_option maxHeartbeats 8000000 in
set_option maxRecDepth 100000 in
theorem spokeshavelaw1_WordOrders.calls (k : Nat) (a0 : Int) (a1 : Int) (a2 : Int) (r : Bool) (w : World) (h : spokeshavelaw1_WordOrders.f k a0 a1 a2 = some r) :
  Calls Tryd.prog 8 #[.int .i64 a0, .int .i64 a1, .int .i64 a2] w fun e w' => e = .returned (.bool r) ∧ Below w.heap.size w w' := by
 have hu26 := Tryd.underlying26
 have HB := Aside0.mk (Below.refl w.heap.size w)
 have H : (if (Go.bits .and .i64 a0 2) = 2 then ((word_Wrap.f (wrap64 (32 + (wrap64 (32 * (Go.bits .and .i64 a0 1))))) true a1).bind fun t366 => ((word_Wrap.f (wrap64 (32 + (wrap64 (32 * (Go.bits .and .i64 a0 1))))) true a2).bind fun t367 => ((word_Binary.f k (wrap64 (32 + (wrap64 (32 * (Go.bits .and .i64 a0 1))))) true 16 t366 t367).bind fun bt368 => ((word_Binary.f k (wrap64 (32 + (wrap64 (32 * (Go.bits .and .i64 a0 1))))) true 16 t367 t366).bind fun bt370 => ((word_Binary.f k (wrap64 (32 + (wrap64 (32 * (Go.bits .and .i64 a0 1))))) true 14 t366 t367).bind fun bt372 => ((word_Binary.f k (wrap64 (32 + (wrap64 (32 * (Go.bits .and .i64 a0 1))))) true 17 t366 t367).bind fun bt374 => ((word_Binary.f k (wrap64 (32 + (wrap64 (32 * (Go.bits .and .i64 a0 1))))) true 15 t366 t367).bind fun bt376 => ((word_Plain.f k 16 a1 a2).bind fun bt378 => ((word_Plain.f k 18 a1 a2).bind fun bt380 => ((word_Plain.f k 17 a2 a1).bind fun bt382 => ((word_Plain.f k 19 a2 a1).bind fun bt384 => (if bt368.2 = true then (if bt370.2 = true then (if bt372.2 = true then (if bt374.2 = true then (if bt376.2 = true then (if (wrap64 ((wrap64 (bt368.1 + bt370.1)) + bt372.1)) = 1 then (if bt374.1 = (wrap64 (bt368.1 + bt372.1)) then (if bt376.1 = (wrap64 (1 - bt372.1)) then (if ((bt378.1 == 1) == (decide (a1 < a2))) = true then (if ((bt380.1 == 1) == (decide ((IntKind.u64.wrap (a1)) < (IntKind.u64.wrap (a2))))) = true then (if (wrap64 (bt378.1 + bt382.1)) = 1 then (if (wrap64 (bt380.1 + bt384.1)) = 1 then ((spokeshavelaw1_awake.f k).bind fun t386 => (some t386)) else (none)) else (none)) else (none)) else (none)) else (none)) else (none)) else (none)) else (none)) else (none)) else (none)) else (none)) else (none))))))))))))) else ((word_Wrap.f (wrap64 (32 + (wrap64 (32 * (Go.bits .and .i64 a0 1))))) false a1).bind fun t388 => ((word_Wrap.f (wrap64 (32 + (wrap64 (32 * (Go.bits .and .i64 a0 1))))) false a2).bind fun t389 => ((word_Binary.f k (wrap64 (32 + (wrap64 (32 * (Go.bits .and .i64 a0 1))))) false 16 t388 t389).bind fun bt390 => ((word_Binary.f k (wrap64 (32 + (wrap64 (32 * (Go.bits .and .i64 a0 1))))) false 16 t389 t388).bind fun bt392 => ((word_Binary.f k (wrap64 (32 + (wrap64 (32 * (Go.bits .and .i64 a0 1))))) false 14 t388 t389).bind fun bt394 => ((word_Binary.f k (wrap64 (32 + (wrap64 (32 * (Go.bits .and .i64 a0 1))))) false 17 t388 t389).bind fun bt396 => ((word_Binary.f k (wrap64 (32 + (wrap64 (32 * (Go.bits .and .i64 a0 1))))) false 15 t388 t389).bind fun bt398 => ((word_Plain.f k 16 a1 a2).bind fun bt400 => ((word_Plain.f k 18 a1 a2).bind fun bt402 => ((word_Plain.f k 17 a2 a1).bind fun bt404 => ((word_Plain.f k 19 a2 a1).bind fun bt406 => (if bt390.2 = true then (if bt392.2 = true then (if bt394.2 = true then (if bt396.2 = true then (if bt398.2 = true then (if (wrap64 ((wrap64 (bt390.1 + bt392.1)) + bt394.1)) = 1 then (if bt396.1 = (wrap64 (bt390.1 + bt394.1)) then (if bt398.1 = (wrap64 (1 - bt394.1)) then (if ((bt400.1 == 1) == (decide (a1 < a2))) = true then (if ((bt402.1 == 1) == (decide ((IntKind.u64.wrap (a1)) < (IntKind.u64.wrap (a2))))) = true then (if (wrap64 (bt400.1 + bt404.1)) = 1 then (if (wrap64 (bt402.1 + bt406.1)) = 1 then ((spokeshavelaw1_awake.f k).bind fun t408 => (some t408)) else (none)) else (none)) else (none)) else (none)) else (none)) else (none)) else (none)) else (none)) else (none)) else (none)) else (none)) else (none)))))))))))))) = some r := h
 clear h
 by_cases c4 : (Go.bits .and .i64 a0 2) = 2
 ·
  rw [if_pos c4] at H
  have c4b0 : ((Go.bits .and .i64 a0 2) == 2) = true := beq_iff_eq.mpr c4
  have c4b1 : ((Go.bits .and .i64 a0 2) != 2) = false := bne_eq_false_iff_eq.mpr c4
  clear c4
  replace H := Option.bind_eq_some_iff.mp H
  obtain ⟨t366, A50, H⟩ := H
  replace H : ((word_Wrap.f (wrap64 (32 + (wrap64 (32 * (Go.bits .and .i64 a0 1))))) true a2).bind fun t367 => ((word_Binary.f k (wrap64 (32 + (wrap64 (32 * (Go.bits .and .i64 a0 1))))) true 16 t366 t367).bind fun bt368 => ((word_Binary.f k (wrap64 (32 + (wrap64 (32 * (Go.bits .and .i64 a0 1))))) true 16 t367 t366).bind fun bt370 => ((word_Binary.f k (wrap64 (32 + (wrap64 (32 * (Go.bits .and .i64 a0 1))))) true 14 t366 t367).bind fun bt372 => ((word_Binary.f k (wrap64 (32 + (wrap64 (32 * (Go.bits .and .i64 a0 1))))) true 17 t366 t367).bind fun bt374 => ((word_Binary.f k (wrap64 (32 + (wrap64 (32 * (Go.bits .and .i64 a0 1))))) true 15 t366 t367).bind fun bt376 => ((word_Plain.f k 16 a1 a2).bind fun bt378 => ((word_Plain.f k 18 a1 a2).bind fun bt380 => ((word_Plain.f k 17 a2 a1).bind fun bt382 => ((word_Plain.f k 19 a2 a1).bind fun bt384 => (if bt368.2 = true then (if bt370.2 = true then (if bt372.2 = true then (if bt374.2 = true then (if bt376.2 = true then (if (wrap64 ((wrap64 (bt368.1 + bt370.1)) + bt372.1)) = 1 then (if bt374.1 = (wrap64 (bt368.1 + bt372.1)) then (if bt376.1 = (wrap64 (1 - bt372.1)) then (if ((bt378.1 == 1) == (decide (a1 < a2))) = true then (if ((bt380.1 == 1) == (decide ((IntKind.u64.wrap (a1)) < (IntKind.u64.wrap (a2))))) = true then (if (wrap64 (bt378.1 + bt382.1)) = 1 then (if (wrap64 (bt380.1 + bt384.1)) = 1 then ((spokeshavelaw1_awake.f k).bind fun t386 => (some t386)) else (none)) else (none)) else (none)) else (none)) else (none)) else (none)) else (none)) else (none)) else (none)) else (none)) else (none)) else (none)))))))))))) = some r := H
  have A5 := Aside0.mk A50
  clear A50
  replace H := Option.bind_eq_some_iff.mp H
  obtain ⟨t367, A60, H⟩ := H
  replace H : ((word_Binary.f k (wrap64 (32 + (wrap64 (32 * (Go.bits .and .i64 a0 1))))) true 16 t366 t367).bind fun bt368 => ((word_Binary.f k (wrap64 (32 + (wrap64 (32 * (Go.bits .and .i64 a0 1))))) true 16 t367 t366).bind fun bt370 => ((word_Binary.f k (wrap64 (32 + (wrap64 (32 * (Go.bits .and .i64 a0 1))))) true 14 t366 t367).bind fun bt372 => ((word_Binary.f k (wrap64 (32 + (wrap64 (32 * (Go.bits .and .i64 a0 1))))) true 17 t366 t367).bind fun bt374 => ((word_Binary.f k (wrap64 (32 + (wrap64 (32 * (Go.bits .and .i64 a0 1))))) true 15 t366 t367).bind fun bt376 => ((word_Plain.f k 16 a1 a2).bind fun bt378 => ((word_Plain.f k 18 a1 a2).bind fun bt380 => ((word_Plain.f k 17 a2 a1).bind fun bt382 => ((word_Plain.f k 19 a2 a1).bind fun bt384 => (if bt368.2 = true then (if bt370.2 = true then (if bt372.2 = true then (if bt374.2 = true then (if bt376.2 = true then (if (wrap64 ((wrap64 (bt368.1 + bt370.1)) + bt372.1)) = 1 then (if bt374.1 = (wrap64 (bt368.1 + bt372.1)) then (if bt376.1 = (wrap64 (1 - bt372.1)) then (if ((bt378.1 == 1) == (decide (a1 < a2))) = true then (if ((bt380.1 == 1) == (decide ((IntKind.u64.wrap (a1)) < (IntKind.u64.wrap (a2))))) = true then (if (wrap64 (bt378.1 + bt382.1)) = 1 then (if (wrap64 (bt380.1 + bt384.1)) = 1 then ((spokeshavelaw1_awake.f k).bind fun t386 => (some t386)) else (none)) else (none)) else (none)) else (none)) else (none)) else (none)) else (none)) else (none)) else (none)) else (none)) else (none)) else (none))))))))))) = some r := H
  have A6 := Aside0.mk A60
  clear A60
  replace H := Option.bind_eq_some_iff.mp H
  obtain ⟨⟨t368, t369⟩, A70, H⟩ := H
  replace H : ((word_Binary.f k (wrap64 (32 + (wrap64 (32 * (Go.bits .and .i64 a0 1))))) true 16 t367 t366).bind fun bt370 => ((word_Binary.f k (wrap64 (32 + (wrap64 (32 * (Go.bits .and .i64 a0 1))))) true 14 t366 t367).bind fun bt372 => ((word_Binary.f k (wrap64 (32 + (wrap64 (32 * (Go.bits .and .i64 a0 1))))) true 17 t366 t367).bind fun bt374 => ((word_Binary.f k (wrap64 (32 + (wrap64 (32 * (Go.bits .and .i64 a0 1))))) true 15 t366 t367).bind fun bt376 => ((word_Plain.f k 16 a1 a2).bind fun bt378 => ((word_Plain.f k 18 a1 a2).bind fun bt380 => ((word_Plain.f k 17 a2 a1).bind fun bt382 => ((word_Plain.f k 19 a2 a1).bind fun bt384 => (if t369 = true then (if bt370.2 = true then (if bt372.2 = true then (if bt374.2 = true then (if bt376.2 = true then (if (wrap64 ((wrap64 (t368 + bt370.1)) + bt372.1)) = 1 then (if bt374.1 = (wrap64 (t368 + bt372.1)) then (if bt376.1 = (wrap64 (1 - bt372.1)) then (if ((bt378.1 == 1) == (decide (a1 < a2))) = true then (if ((bt380.1 == 1) == (decide ((IntKind.u64.wrap (a1)) < (IntKind.u64.wrap (a2))))) = true then (if (wrap64 (bt378.1 + bt382.1)) = 1 then (if (wrap64 (bt380.1 + bt384.1)) = 1 then ((spokeshavelaw1_awake.f k).bind fun t386 => (some t386)) else (none)) else (none)) else (none)) else (none)) else (none)) else (none)) else (none)) else (none)) else (none)) else (none)) else (none)) else (none)))))))))) = some r := H
  have A7 := Aside0.mk A70
  clear A70
  replace H := Option.bind_eq_some_iff.mp H
  obtain ⟨⟨t370, t371⟩, A80, H⟩ := H
  replace H : ((word_Binary.f k (wrap64 (32 + (wrap64 (32 * (Go.bits .and .i64 a0 1))))) true 14 t366 t367).bind fun bt372 => ((word_Binary.f k (wrap64 (32 + (wrap64 (32 * (Go.bits .and .i64 a0 1))))) true 17 t366 t367).bind fun bt374 => ((word_Binary.f k (wrap64 (32 + (wrap64 (32 * (Go.bits .and .i64 a0 1))))) true 15 t366 t367).bind fun bt376 => ((word_Plain.f k 16 a1 a2).bind fun bt378 => ((word_Plain.f k 18 a1 a2).bind fun bt380 => ((word_Plain.f k 17 a2 a1).bind fun bt382 => ((word_Plain.f k 19 a2 a1).bind fun bt384 => (if t369 = true then (if t371 = true then (if bt372.2 = true then (if bt374.2 = true then (if bt376.2 = true then (if (wrap64 ((wrap64 (t368 + t370)) + bt372.1)) = 1 then (if bt374.1 = (wrap64 (t368 + bt372.1)) then (if bt376.1 = (wrap64 (1 - bt372.1)) then (if ((bt378.1 == 1) == (decide (a1 < a2))) = true then (if ((bt380.1 == 1) == (decide ((IntKind.u64.wrap (a1)) < (IntKind.u64.wrap (a2))))) = true then (if (wrap64 (bt378.1 + bt382.1)) = 1 then (if (wrap64 (bt380.1 + bt384.1)) = 1 then ((spokeshavelaw1_awake.f k).bind fun t386 => (some t386)) else (none)) else (none)) else (none)) else (none)) else (none)) else (none)) else (none)) else (none)) else (none)) else (none)) else (none)) else (none))))))))) = some r := H
  have A8 := Aside0.mk A80
  clear A80
  replace H := Option.bind_eq_some_iff.mp H
  obtain ⟨⟨t372, t373⟩, A90, H⟩ := H
  replace H : ((word_Binary.f k (wrap64 (32 + (wrap64 (32 * (Go.bits .and .i64 a0 1))))) true 17 t366 t367).bind fun bt374 => ((word_Binary.f k (wrap64 (32 + (wrap64 (32 * (Go.bits .and .i64 a0 1))))) true 15 t366 t367).bind fun bt376 => ((word_Plain.f k 16 a1 a2).bind fun bt378 => ((word_Plain.f k 18 a1 a2).bind fun bt380 => ((word_Plain.f k 17 a2 a1).bind fun bt382 => ((word_Plain.f k 19 a2 a1).bind fun bt384 => (if t369 = true then (if t371 = true then (if t373 = true then (if bt374.2 = true then (if bt376.2 = true then (if (wrap64 ((wrap64 (t368 + t370)) + t372)) = 1 then (if bt374.1 = (wrap64 (t368 + t372)) then (if bt376.1 = (wrap64 (1 - t372)) then (if ((bt378.1 == 1) == (decide (a1 < a2))) = true then (if ((bt380.1 == 1) == (decide ((IntKind.u64.wrap (a1)) < (IntKind.u64.wrap (a2))))) = true then (if (wrap64 (bt378.1 + bt382.1)) = 1 then (if (wrap64 (bt380.1 + bt384.1)) = 1 then ((spokeshavelaw1_awake.f k).bind fun t386 => (some t386)) else (none)) else (none)) else (none)) else (none)) else (none)) else (none)) else (none)) else (none)) else (none)) else (none)) else (none)) else (none)))))))) = some r := H
  have A9 := Aside0.mk A90
  clear A90
  replace H := Option.bind_eq_some_iff.mp H
  obtain ⟨⟨t374, t375⟩, A100, H⟩ := H
  replace H : ((word_Binary.f k (wrap64 (32 + (wrap64 (32 * (Go.bits .and .i64 a0 1))))) true 15 t366 t367).bind fun bt376 => ((word_Plain.f k 16 a1 a2).bind fun bt378 => ((word_Plain.f k 18 a1 a2).bind fun bt380 => ((word_Plain.f k 17 a2 a1).bind fun bt382 => ((word_Plain.f k 19 a2 a1).bind fun bt384 => (if t369 = true then (if t371 = true then (if t373 = true then (if t375 = true then (if bt376.2 = true then (if (wrap64 ((wrap64 (t368 + t370)) + t372)) = 1 then (if t374 = (wrap64 (t368 + t372)) then (if bt376.1 = (wrap64 (1 - t372)) then (if ((bt378.1 == 1) == (decide (a1 < a2))) = true then (if ((bt380.1 == 1) == (decide ((IntKind.u64.wrap (a1)) < (IntKind.u64.wrap (a2))))) = true then (if (wrap64 (bt378.1 + bt382.1)) = 1 then (if (wrap64 (bt380.1 + bt384.1)) = 1 then ((spokeshavelaw1_awake.f k).bind fun t386 => (some t386)) else (none)) else (none)) else (none)) else (none)) else (none)) else (none)) else (none)) else (none)) else (none)) else (none)) else (none)) else (none))))))) = some r := H
  have A10 := Aside0.mk A100
  clear A100
  replace H := Option.bind_eq_some_iff.mp H
  obtain ⟨⟨t376, t377⟩, A110, H⟩ := H
  replace H : ((word_Plain.f k 16 a1 a2).bind fun bt378 => ((word_Plain.f k 18 a1 a2).bind fun bt380 => ((word_Plain.f k 17 a2 a1).bind fun bt382 => ((word_Plain.f k 19 a2 a1).bind fun bt384 => (if t369 = true then (if t371 = true then (if t373 = true then (if t375 = true then (if t377 = true then (if (wrap64 ((wrap64 (t368 + t370)) + t372)) = 1 then (if t374 = (wrap64 (t368 + t372)) then (if t376 = (wrap64 (1 - t372)) then (if ((bt378.1 == 1) == (decide (a1 < a2))) = true then (if ((bt380.1 == 1) == (decide ((IntKind.u64.wrap (a1)) < (IntKind.u64.wrap (a2))))) = true then (if (wrap64 (bt378.1 + bt382.1)) = 1 then (if (wrap64 (bt380.1 + bt384.1)) = 1 then ((spokeshavelaw1_awake.f k).bind fun t386 => (some t386)) else (none)) else (none)) else (none)) else (none)) else (none)) else (none)) else (none)) else (none)) else (none)) else (none)) else (none)) else (none)))))) = some r := H
  have A11 := Aside0.mk A110
  clear A110
  replace H := Option.bind_eq_some_iff.mp H
  obtain ⟨⟨t378, t379⟩, A120, H⟩ := H
  replace H : ((word_Plain.f k 18 a1 a2).bind fun bt380 => ((word_Plain.f k 17 a2 a1).bind fun bt382 => ((word_Plain.f k 19 a2 a1).bind fun bt384 => (if t369 = true then (if t371 = true then (if t373 = true then (if t375 = true then (if t377 = true then (if (wrap64 ((wrap64 (t368 + t370)) + t372)) = 1 then (if t374 = (wrap64 (t368 + t372)) then (if t376 = (wrap64 (1 - t372)) then (if ((t378 == 1) == (decide (a1 < a2))) = true then (if ((bt380.1 == 1) == (decide ((IntKind.u64.wrap (a1)) < (IntKind.u64.wrap (a2))))) = true then (if (wrap64 (t378 + bt382.1)) = 1 then (if (wrap64 (bt380.1 + bt384.1)) = 1 then ((spokeshavelaw1_awake.f k).bind fun t386 => (some t386)) else (none)) else (none)) else (none)) else (none)) else (none)) else (none)) else (none)) else (none)) else (none)) else (none)) else (none)) else (none))))) = some r := H
  have A12 := Aside0.mk A120
  clear A120
  replace H := Option.bind_eq_some_iff.mp H
  obtain ⟨⟨t380, t381⟩, A130, H⟩ := H
  replace H : ((word_Plain.f k 17 a2 a1).bind fun bt382 => ((word_Plain.f k 19 a2 a1).bind fun bt384 => (if t369 = true then (if t371 = true then (if t373 = true then (if t375 = true then (if t377 = true then (if (wrap64 ((wrap64 (t368 + t370)) + t372)) = 1 then (if t374 = (wrap64 (t368 + t372)) then (if t376 = (wrap64 (1 - t372)) then (if ((t378 == 1) == (decide (a1 < a2))) = true then (if ((t380 == 1) == (decide ((IntKind.u64.wrap (a1)) < (IntKind.u64.wrap (a2))))) = true then (if (wrap64 (t378 + bt382.1)) = 1 then (if (wrap64 (t380 + bt384.1)) = 1 then ((spokeshavelaw1_awake.f k).bind fun t386 => (some t386)) else (none)) else (none)) else (none)) else (none)) else (none)) else (none)) else (none)) else (none)) else (none)) else (none)) else (none)) else (none)))) = some r := H
  have A13 := Aside0.mk A130
  clear A130
  replace H := Option.bind_eq_some_iff.mp H
  obtain ⟨⟨t382, t383⟩, A140, H⟩ := H
  replace H : ((word_Plain.f k 19 a2 a1).bind fun bt384 => (if t369 = true then (if t371 = true then (if t373 = true then (if t375 = true then (if t377 = true then (if (wrap64 ((wrap64 (t368 + t370)) + t372)) = 1 then (if t374 = (wrap64 (t368 + t372)) then (if t376 = (wrap64 (1 - t372)) then (if ((t378 == 1) == (decide (a1 < a2))) = true then (if ((t380 == 1) == (decide ((IntKind.u64.wrap (a1)) < (IntKind.u64.wrap (a2))))) = true then (if (wrap64 (t378 + t382)) = 1 then (if (wrap64 (t380 + bt384.1)) = 1 then ((spokeshavelaw1_awake.f k).bind fun t386 => (some t386)) else (none)) else (none)) else (none)) else (none)) else (none)) else (none)) else (none)) else (none)) else (none)) else (none)) else (none)) else (none))) = some r := H
  have A14 := Aside0.mk A140
  clear A140
  replace H := Option.bind_eq_some_iff.mp H
  obtain ⟨⟨t384, t385⟩, A150, H⟩ := H
  replace H : (if t369 = true then (if t371 = true then (if t373 = true then (if t375 = true then (if t377 = true then (if (wrap64 ((wrap64 (t368 + t370)) + t372)) = 1 then (if t374 = (wrap64 (t368 + t372)) then (if t376 = (wrap64 (1 - t372)) then (if ((t378 == 1) == (decide (a1 < a2))) = true then (if ((t380 == 1) == (decide ((IntKind.u64.wrap (a1)) < (IntKind.u64.wrap (a2))))) = true then (if (wrap64 (t378 + t382)) = 1 then (if (wrap64 (t380 + t384)) = 1 then ((spokeshavelaw1_awake.f k).bind fun t386 => (some t386)) else (none)) else (none)) else (none)) else (none)) else (none)) else (none)) else (none)) else (none)) else (none)) else (none)) else (none)) else (none)) = some r := H
  have A15 := Aside0.mk A150
  clear A150
  by_cases c16 : t369 = true
  ·
   subst c16
   have H1 : (if t371 = true then (if t373 = true then (if t375 = true then (if t377 = true then (if (wrap64 ((wrap64 (t368 + t370)) + t372)) = 1 then (if t374 = (wrap64 (t368 + t372)) then (if t376 = (wrap64 (1 - t372)) then (if ((t378 == 1) == (decide (a1 < a2))) = true then (if ((t380 == 1) == (decide ((IntKind.u64.wrap (a1)) < (IntKind.u64.wrap (a2))))) = true then (if (wrap64 (t378 + t382)) = 1 then (if (wrap64 (t380 + t384)) = 1 then ((spokeshavelaw1_awake.f k).bind fun t386 => (some t386)) else (none)) else (none)) else (none)) else (none)) else (none)) else (none)) else (none)) else (none)) else (none)) else (none)) else (none)) = some r := by rw [if_pos rfl] at H; exact H
   clear H
   have H := H1
   clear H1
   by_cases c17 : t371 = true
   ·
    subst c17
    have H1 : (if t373 = true then (if t375 = true then (if t377 = true then (if (wrap64 ((wrap64 (t368 + t370)) + t372)) = 1 then (if t374 = (wrap64 (t368 + t372)) then (if t376 = (wrap64 (1 - t372)) then (if ((t378 == 1) == (decide (a1 < a2))) = true then (if ((t380 == 1) == (decide ((IntKind.u64.wrap (a1)) < (IntKind.u64.wrap (a2))))) = true then (if (wrap64 (t378 + t382)) = 1 then (if (wrap64 (t380 + t384)) = 1 then ((spokeshavelaw1_awake.f k).bind fun t386 => (some t386)) else (none)) else (none)) else (none)) else (none)) else (none)) else (none)) else (none)) else (none)) else (none)) else (none)) = some r := by rw [if_pos rfl] at H; exact H
    clear H
    have H := H1
    clear H1
    by_cases c18 : t373 = true
    ·
     subst c18
     have H1 : (if t375 = true then (if t377 = true then (if (wrap64 ((wrap64 (t368 + t370)) + t372)) = 1 then (if t374 = (wrap64 (t368 + t372)) then (if t376 = (wrap64 (1 - t372)) then (if ((t378 == 1) == (decide (a1 < a2))) = true then (if ((t380 == 1) == (decide ((IntKind.u64.wrap (a1)) < (IntKind.u64.wrap (a2))))) = true then (if (wrap64 (t378 + t382)) = 1 then (if (wrap64 (t380 + t384)) = 1 then ((spokeshavelaw1_awake.f k).bind fun t386 => (some t386)) else (none)) else (none)) else (none)) else (none)) else (none)) else (none)) else (none)) else (none)) else (none)) = some r := by rw [if_pos rfl] at H; exact H
     clear H
     have H := H1
     clear H1
     by_cases c19 : t375 = true
     ·
      subst c19
      have H1 : (if t377 = true then (if (wrap64 ((wrap64 (t368 + t370)) + t372)) = 1 then (if t374 = (wrap64 (t368 + t372)) then (if t376 = (wrap64 (1 - t372)) then (if ((t378 == 1) == (decide (a1 < a2))) = true then (if ((t380 == 1) == (decide ((IntKind.u64.wrap (a1)) < (IntKind.u64.wrap (a2))))) = true then (if (wrap64 (t378 + t382)) = 1 then (if (wrap64 (t380 + t384)) = 1 then ((spokeshavelaw1_awake.f k).bind fun t386 => (some t386)) else (none)) else (none)) else (none)) else (none)) else (none)) else (none)) else (none)) else (none)) = some r := by rw [if_pos rfl] at H; exact H
      clear H
      have H := H1
      clear H1
      by_cases c20 : t377 = true
      ·
       subst c20
       have H1 : (if (wrap64 ((wrap64 (t368 + t370)) + t372)) = 1 then (if t374 = (wrap64 (t368 + t372)) then (if t376 = (wrap64 (1 - t372)) then (if ((t378 == 1) == (decide (a1 < a2))) = true then (if ((t380 == 1) == (decide ((IntKind.u64.wrap (a1)) < (IntKind.u64.wrap (a2))))) = true then (if (wrap64 (t378 + t382)) = 1 then (if (wrap64 (t380 + t384)) = 1 then ((spokeshavelaw1_awake.f k).bind fun t386 => (some t386)) else (none)) else (none)) else (none)) else (none)) else (none)) else (none)) else (none)) = some r := by rw [if_pos rfl] at H; exact H
       clear H
       have H := H1
       clear H1
       by_cases c21 : (wrap64 ((wrap64 (t368 + t370)) + t372)) = 1
       case neg => rw [if_neg c21] at H; exact absurd H (by simp)
       rw [if_pos c21] at H
       have c21b0 : ((wrap64 ((wrap64 (t368 + t370)) + t372)) == 1) = true := beq_iff_eq.mpr c21
       have c21b1 : ((wrap64 ((wrap64 (t368 + t370)) + t372)) != 1) = false := bne_eq_false_iff_eq.mpr c21
       clear c21
       by_cases c22 : t374 = (wrap64 (t368 + t372))
       case neg => rw [if_neg c22] at H; exact absurd H (by simp)
       rw [if_pos c22] at H
       have c22b0 : (t374 == (wrap64 (t368 + t372))) = true := beq_iff_eq.mpr c22
       have c22b1 : (t374 != (wrap64 (t368 + t372))) = false := bne_eq_false_iff_eq.mpr c22
       clear c22
       by_cases c23 : t376 = (wrap64 (1 - t372))
       case neg => rw [if_neg c23] at H; exact absurd H (by simp)
       rw [if_pos c23] at H
       have c23b0 : (t376 == (wrap64 (1 - t372))) = true := beq_iff_eq.mpr c23
       have c23b1 : (t376 != (wrap64 (1 - t372))) = false := bne_eq_false_iff_eq.mpr c23
       clear c23
       by_cases c24 : ((t378 == 1) == (decide (a1 < a2))) = true
       case neg => rw [if_neg c24] at H; exact absurd H (by simp)
       rw [if_pos c24] at H
       have c24b0 : ((t378 == 1) == (decide (a1 < a2))) = true := c24
       (try (have c24b1 : decide ((t378 == 1) = (decide (a1 < a2))) = true := by first | exact c24 | exact absurd c24 (by decide) | decide | (simp; done) | simpa using c24))
       (try (have c24b2 : ((t378 == 1) == (decide (a1 < a2))) = true := by first | exact c24 | exact absurd c24 (by decide) | decide | (simp; done) | simpa using c24))
       clear c24
       by_cases c25 : ((t380 == 1) == (decide ((IntKind.u64.wrap (a1)) < (IntKind.u64.wrap (a2))))) = true
       case neg => rw [if_neg c25] at H; exact absurd H (by simp)
       rw [if_pos c25] at H
       have c25b0 : ((t380 == 1) == (decide ((IntKind.u64.wrap (a1)) < (IntKind.u64.wrap (a2))))) = true := c25
       (try (have c25b1 : decide ((t380 == 1) = (decide ((IntKind.u64.wrap (a1)) < (IntKind.u64.wrap (a2))))) = true := by first | exact c25 | exact absurd c25 (by decide) | decide | (simp; done) | simpa using c25))
       (try (have c25b2 : ((t380 == 1) == (decide ((IntKind.u64.wrap (a1)) < (IntKind.u64.wrap (a2))))) = true := by first | exact c25 | exact absurd c25 (by decide) | decide | (simp; done) | simpa using c25))
       clear c25
       by_cases c26 : (wrap64 (t378 + t382)) = 1
       case neg => rw [if_neg c26] at H; exact absurd H (by simp)
       rw [if_pos c26] at H
       have c26b0 : ((wrap64 (t378 + t382)) == 1) = true := beq_iff_eq.mpr c26
       have c26b1 : ((wrap64 (t378 + t382)) != 1) = false := bne_eq_false_iff_eq.mpr c26
       clear c26
       by_cases c27 : (wrap64 (t380 + t384)) = 1
       case neg => rw [if_neg c27] at H; exact absurd H (by simp)
       rw [if_pos c27] at H
       have c27b0 : ((wrap64 (t380 + t384)) == 1) = true := beq_iff_eq.mpr c27
       have c27b1 : ((wrap64 (t380 + t384)) != 1) = false := bne_eq_false_iff_eq.mpr c27
       clear c27
       replace H := Option.bind_eq_some_iff.mp H
       obtain ⟨t386, A280, H⟩ := H
       replace H : (some t386) = some r := H
       have A28 := Aside0.mk A280
       clear A280
       obtain rfl := Option.some.inj H
       go_enter Tryd.func8, Tryd.ntmps8
       try go_wp2_with (first | ((with_reducible refine gate_dst (N := 7) rfl ?_); refine box_event ?hg (N := 7) ?hd (cs := #[.int .i64 0, .bool false]) (t := 26) ?hr ?_; (case hd => rfl); (case hg => rfl); (case hr => first | (go_simp; done) | (go_simp; rfl)); intro gb365 hg w29 hbox hb; have n0_ := Aside0.mk (below_step (by repeat (first | (with_reducible first | exact HB.out | apply below_alloc | apply pw_below_drewN | apply below_drew1) | exact HB.out)) hb); have n1_ := Aside0.mk (hbox); have n2_ := Aside0.mk ((by rw [hg]; exact (below_size (by repeat (first | (with_reducible first | exact HB.out | apply below_alloc | apply pw_below_drewN | apply below_drew1) | exact HB.out))) : w.heap.size ≤ gb365)); have n3_ := Aside0.mk ((by rw [hg]; exact (below_size (by repeat (first | (with_reducible first | exact HB.out | apply below_alloc | apply pw_below_drewN | apply below_drew1) | exact HB.out))) : w.heap.size ≤ gb365)); clear HB; have HB := n0_; have BK365 := n1_; have GW365 := n2_; have GE365 := n3_; clear n0_ n1_ n2_ n3_; clear hb hbox hg; have hcz30_0 : w29.cell? ⟨gb365, 0, none⟩ = some (.int .i64 0) := (blk_cell BK365.out 0).trans rfl; have hcz30_1 : w29.cell? ⟨gb365, 1, none⟩ = some (.bool false) := (blk_cell BK365.out 1).trans rfl; have hfz30_0 := blk_frozen BK365.out 0; have hfz30_1 := blk_frozen BK365.out 1))
       have n0_ : Aside0 (((w29.setCell ⟨gb365, 0, none⟩ (.int .i64 (wrap64 (32 + (wrap64 (32 * (Go.bits .and .i64 a0 1))))))).setCell ⟨gb365, 1, none⟩ (.bool true)).heap[gb365]? = some (.cells #[.int .i64 (wrap64 (32 + (wrap64 (32 * (Go.bits .and .i64 a0 1))))), .bool true] 26 (0, 0))) := ⟨by (with_reducible repeat (first | refine blk_drewN ?_ _ | refine blk_drew ?_ | refine blk_alloc ?_ _)); refine blk_put (cs := #[.int .i64 (wrap64 (32 + (wrap64 (32 * (Go.bits .and .i64 a0 1))))), .bool false]) ?_ 1 _ rfl; (with_reducible repeat (first | refine blk_drewN ?_ _ | refine blk_drew ?_ | refine blk_alloc ?_ _)); refine blk_put (cs := #[.int .i64 0, .bool false]) ?_ 0 _ rfl; (with_reducible repeat (first | refine blk_drewN ?_ _ | refine blk_drew ?_ | refine blk_alloc ?_ _)); exact BK365.out⟩
       have n1_ : Aside0 (Below w.heap.size w ((w29.setCell ⟨gb365, 0, none⟩ (.int .i64 (wrap64 (32 + (wrap64 (32 * (Go.bits .and .i64 a0 1))))))).setCell ⟨gb365, 1, none⟩ (.bool true))) := ⟨by repeat (first | (with_reducible first | exact HB.out | apply below_alloc | apply pw_below_drewN | apply below_drew1 | refine below_set ?_ GE365.out) | exact HB.out)⟩
       (try clear BK365)
       (try clear HB)
       generalize ((w29.setCell ⟨gb365, 0, none⟩ (.int .i64 (wrap64 (32 + (wrap64 (32 * (Go.bits .and .i64 a0 1))))))).setCell ⟨gb365, 1, none⟩ (.bool true)) = w31 at n0_ n1_ ⊢
       have BK365 := n0_
       have HB := n1_
       clear n0_ n1_
       have n0_ := Aside0.mk (blk_drew BK365.out)
       have n1_ := Aside0.mk (below_drew1 HB.out)
       clear BK365
       clear HB
       have BK365 := n0_
       have HB := n1_
       clear n0_ n1_
       refine start_ (n := 8) (S := fun w' => w'.cell? ⟨gb365, 0, none⟩ = some (.int .i64 (wrap64 (32 + (wrap64 (32 * (Go.bits .and .i64 a0 1)))))) ∧ w'.cell? ⟨gb365, 1, none⟩ = some (.bool true)) (ds := []) #[false,false,false,false,false,false,false,false] (by kernel_rfl) rfl rfl ⟨(blk_cell BK365.out 0).trans rfl, (blk_cell BK365.out 1).trans rfl⟩ (fun hHeld => ?_); refine with_tabW spokeshavelaw1_WordOrders.tab2 spokeshavelaw1_WordOrders.bits2 (fun HT_ HW_ => ?_)
       generalize w31.drew = w32 at BK365 HB hHeld ⊢
       refine pure_ (i := 1) (N := some 37) (v := ?_) (a' := ?_) #[false,true,false,false,false,false,false,false] rfl rfl (any_of HT_.out (by kernel_rfl)) (fun _ _ _ h => h) (Or.inl ⟨by rfl, ?_⟩) ?_ ?_
       rotate_left
       ·
        intro w'
        go_simp
        with_reducible rfl
       rotate_left
       ·
        simp only [Act.put, List.setIfInBounds_toArray, List.set_cons_zero, List.set_cons_succ, i64_w, i32_w]
        rfl
       refine pure_ (i := 4) (N := some 40) (v := ?_) (a' := ?_) #[false,true,false,false,true,false,false,false] rfl rfl (any_of HT_.out (by kernel_rfl)) (fun _ _ _ h => h) (Or.inl ⟨by rfl, ?_⟩) ?_ ?_
       rotate_left
       ·
        intro w'
        go_simp
        with_reducible rfl
       rotate_left
       ·
        simp only [Act.put, List.setIfInBounds_toArray, List.set_cons_zero, List.set_cons_succ, i64_w, i32_w]
        rfl
       refine take_ (i := 0) (N := some 36) (v := ?_) (a' := ?_) #[true,true,false,false,true,false,false,false] rfl rfl (take_ofW HT_.out HW_.out (by kernel_rfl)) (fun _ _ _ h => h) (Or.inl ⟨by rfl, ?_⟩) hHeld ?_ ?_
       rotate_left
       ·
        rintro w' ⟨s0, s1⟩
        go_simp
        with_reducible rfl
       rotate_left
       ·
        simp only [Act.put, List.setIfInBounds_toArray, List.set_cons_zero, List.set_cons_succ, i64_w, i32_w]
        rfl
       refine take_ (i := 3) (N := some 39) (v := ?_) (a' := ?_) #[true,true,false,true,true,false,false,false] rfl rfl (take_ofW HT_.out HW_.out (by kernel_rfl)) (fun _ _ _ h => h) (Or.inl ⟨by rfl, ?_⟩) hHeld ?_ ?_
       rotate_left
       ·
        rintro w' ⟨s0, s1⟩
        go_simp
        with_reducible rfl
       rotate_left
       ·
        simp only [Act.put, List.setIfInBounds_toArray, List.set_cons_zero, List.set_cons_succ, i64_w, i32_w]
        rfl
       refine one_ (i := 2) (N := some 38) #[true,true,true,true,true,false,false,false] rfl rfl (one_of HT_.out (by kernel_rfl)) (by decide) (fun K hK => ?_)
       refine goes_ Tryd.func13 (by kernel_rfl) rfl #[.agg #[.int .i64 (wrap64 (32 + (wrap64 (32 * (Go.bits .and .i64 a0 1))))), .bool true], .int .i64 a1] (by rfl) rfl rfl (by (try simp only [List.map_toArray, List.map_cons, List.map_nil]); first | done | rfl | (simp only [List.length_drop, List.length_take]; rfl)) ?_
       with_reducible refine (word_Wrap.calls (wrap64 (32 + (wrap64 (32 * (Go.bits .and .i64 a0 1))))) true a1 t366 _ A5.out).mono ?_
       rintro e w33 ⟨rfl, hb⟩
       refine ⟨_, rfl, ?_⟩
       have n0_ := Aside0.mk (blk_below (g := gb365) (o := .cells #[.int .i64 (wrap64 (32 + (wrap64 (32 * (Go.bits .and .i64 a0 1))))), .bool true] 26 (0, 0)) (by (with_reducible repeat (first | refine blk_drewN ?_ _ | refine blk_drew ?_ | refine blk_alloc ?_ _)); exact BK365.out) hb)
       have n1_ := Aside0.mk (below_step (by repeat (first | (with_reducible first | exact HB.out | apply below_alloc | apply pw_below_drewN | apply below_drew1 | refine below_set ?_ GE365.out) | exact HB.out)) hb)
       clear BK365
       clear HB
       have BK365 := n0_
       have HB := n1_
       clear n0_ n1_
       (try clear hb)
       (try clear hb2)
       (try clear hk)
       (try clear hi)
       refine hK.out _ _ ⟨(blk_cell BK365.out 0).trans rfl, (blk_cell BK365.out 1).trans rfl⟩ (fun hHeld => ?_)
       clear hK K
       refine norm_ (a' := ?_) ?_ ?_
       rotate_left
       ·
        show Act.put _ (some 38) _ = _
        simp only [Act.put, List.setIfInBounds_toArray, List.set_cons_zero, List.set_cons_succ, i64_w, i32_w]
        rfl
       refine one_ (i := 5) (N := some 41) #[true,true,true,true,true,true,false,false] rfl rfl (one_of HT_.out (by kernel_rfl)) (by decide) (fun K hK => ?_)
       refine goes_ Tryd.func13 (by kernel_rfl) rfl #[.agg #[.int .i64 (wrap64 (32 + (wrap64 (32 * (Go.bits .and .i64 a0 1))))), .bool true], .int .i64 a2] (by rfl) rfl rfl (by (try simp only [List.map_toArray, List.map_cons, List.map_nil]); first | done | rfl | (simp only [List.length_drop, List.length_take]; rfl)) ?_
       with_reducible refine (word_Wrap.calls (wrap64 (32 + (wrap64 (32 * (Go.bits .and .i64 a0 1))))) true a2 t367 _ A6.out).mono ?_
       rintro e w34 ⟨rfl, hb⟩
       refine ⟨_, rfl, ?_⟩
       have n0_ := Aside0.mk (blk_below (g := gb365) (o := .cells #[.int .i64 (wrap64 (32 + (wrap64 (32 * (Go.bits .and .i64 a0 1))))), .bool true] 26 (0, 0)) (by (with_reducible repeat (first | refine blk_drewN ?_ _ | refine blk_drew ?_ | refine blk_alloc ?_ _)); exact BK365.out) hb)
       have n1_ := Aside0.mk (below_step (by repeat (first | (with_reducible first | exact HB.out | apply below_alloc | apply pw_below_drewN | apply below_drew1 | refine below_set ?_ GE365.out) | exact HB.out)) hb)
       clear BK365
       clear HB
       have BK365 := n0_
       have HB := n1_
       clear n0_ n1_
       (try clear hb)
       (try clear hb2)
       (try clear hk)
       (try clear hi)
       refine hK.out _ _ ⟨(blk_cell BK365.out 0).trans rfl, (blk_cell BK365.out 1).trans rfl⟩ (fun hHeld => ?_)
       clear hK K
       refine norm_ (a' := ?_) ?_ ?_
       rotate_left
       ·
        show Act.put _ (some 41) _ = _
        simp only [Act.put, List.setIfInBounds_toArray, List.set_cons_zero, List.set_cons_succ, i64_w, i32_w]
        rfl
       refine pure_ (i := 6) (N := some 8) (v := ?_) (a' := ?_) #[true,true,true,true,true,true,true,false] rfl rfl (any_of HT_.out (by kernel_rfl)) (fun _ _ _ h => h) (Or.inl ⟨by rfl, ?_⟩) ?_ ?_
       rotate_left
       ·
        intro w'
        go_simp
        with_reducible rfl
       rotate_left
       ·
        simp only [Act.put, List.setIfInBounds_toArray, List.set_cons_zero, List.set_cons_succ, i64_w, i32_w]
        rfl
       refine pure_ (i := 7) (N := some 9) (v := ?_) (a' := ?_) #[true,true,true,true,true,true,true,true] rfl rfl (any_of HT_.out (by kernel_rfl)) (fun _ _ _ h => h) (Or.inl ⟨by rfl, ?_⟩) ?_ ?_
       rotate_left
       ·
        intro w'
        go_simp
        with_reducible rfl
       rotate_left
       ·
        simp only [Act.put, List.setIfInBounds_toArray, List.set_cons_zero, List.set_cons_succ, i64_w, i32_w]
        rfl
       refine done_ (done_of HT_.out (by kernel_rfl)) ?_
       have hcz35_0 : w34.cell? ⟨gb365, 0, none⟩ = some (.int .i64 (wrap64 (32 + (wrap64 (32 * (Go.bits .and .i64 a0 1)))))) := (blk_cell BK365.out 0).trans rfl
       have hcz35_1 : w34.cell? ⟨gb365, 1, none⟩ = some (.bool true) := (blk_cell BK365.out 1).trans rfl
       have hfz35_0 := blk_frozen BK365.out 0
       have hfz35_1 := blk_frozen BK365.out 1
       try go_wp2_with (first | ((with_reducible refine gate_callee (f := 14) rfl ?_); refine goesL_ (some 46) rfl rfl Tryd.func14 (by kernel_rfl) rfl #[.agg #[.int .i64 (wrap64 (32 + (wrap64 (32 * (Go.bits .and .i64 a0 1))))), .bool true], .int .i64 16, .int .i64 t366, .int .i64 t367] rfl (by (try simp only [List.map_toArray, List.map_cons, List.map_nil]); first | done | rfl | (simp only [List.length_drop, List.length_take]; rfl)) ?_; (with_reducible refine (word_Binary.calls k (wrap64 (32 + (wrap64 (32 * (Go.bits .and .i64 a0 1))))) true 16 t366 t367 t368 true _ A7.out).mono ?_); rintro e w36 ⟨rfl, hb⟩; refine ⟨_, rfl, ?_⟩; have n0_ := Aside0.mk (blk_below (g := gb365) (o := .cells #[.int .i64 (wrap64 (32 + (wrap64 (32 * (Go.bits .and .i64 a0 1))))), .bool true] 26 (0, 0)) (by (with_reducible repeat (first | refine blk_drewN ?_ _ | refine blk_drew ?_ | refine blk_alloc ?_ _)); exact BK365.out) hb); have n1_ := Aside0.mk (below_step (by repeat (first | (with_reducible first | exact HB.out | apply below_alloc | apply pw_below_drewN | apply below_drew1 | refine below_set ?_ GE365.out) | exact HB.out)) hb); clear BK365; clear HB; have BK365 := n0_; have HB := n1_; clear n0_ n1_; (try clear hb); (try clear hb2); (try clear hk); (try clear hi); have hcz37_0 : w36.cell? ⟨gb365, 0, none⟩ = some (.int .i64 (wrap64 (32 + (wrap64 (32 * (Go.bits .and .i64 a0 1)))))) := (blk_cell BK365.out 0).trans rfl; have hcz37_1 : w36.cell? ⟨gb365, 1, none⟩ = some (.bool true) := (blk_cell BK365.out 1).trans rfl; have hfz37_0 := blk_frozen BK365.out 0; have hfz37_1 := blk_frozen BK365.out 1) | ((with_reducible refine gate_callee (f := 14) rfl ?_); refine goesL_ (some 53) rfl rfl Tryd.func14 (by kernel_rfl) rfl #[.agg #[.int .i64 (wrap64 (32 + (wrap64 (32 * (Go.bits .and .i64 a0 1))))), .bool true], .int .i64 16, .int .i64 t367, .int .i64 t366] rfl (by (try simp only [List.map_toArray, List.map_cons, List.map_nil]); first | done | rfl | (simp only [List.length_drop, List.length_take]; rfl)) ?_; (with_reducible refine (word_Binary.calls k (wrap64 (32 + (wrap64 (32 * (Go.bits .and .i64 a0 1))))) true 16 t367 t366 t370 true _ A8.out).mono ?_); rintro e w38 ⟨rfl, hb⟩; refine ⟨_, rfl, ?_⟩; have n0_ := Aside0.mk (blk_below (g := gb365) (o := .cells #[.int .i64 (wrap64 (32 + (wrap64 (32 * (Go.bits .and .i64 a0 1))))), .bool true] 26 (0, 0)) (by (with_reducible repeat (first | refine blk_drewN ?_ _ | refine blk_drew ?_ | refine blk_alloc ?_ _)); exact BK365.out) hb); have n1_ := Aside0.mk (below_step (by repeat (first | (with_reducible first | exact HB.out | apply below_alloc | apply pw_below_drewN | apply below_drew1 | refine below_set ?_ GE365.out) | exact HB.out)) hb); clear BK365; clear HB; have BK365 := n0_; have HB := n1_; clear n0_ n1_; (try clear hb); (try clear hb2); (try clear hk); (try clear hi); have hcz39_0 : w38.cell? ⟨gb365, 0, none⟩ = some (.int .i64 (wrap64 (32 + (wrap64 (32 * (Go.bits .and .i64 a0 1)))))) := (blk_cell BK365.out 0).trans rfl; have hcz39_1 : w38.cell? ⟨gb365, 1, none⟩ = some (.bool true) := (blk_cell BK365.out 1).trans rfl; have hfz39_0 := blk_frozen BK365.out 0; have hfz39_1 := blk_frozen BK365.out 1) | ((with_reducible refine gate_callee (f := 14) rfl ?_); refine goesL_ (some 60) rfl rfl Tryd.func14 (by kernel_rfl) rfl #[.agg #[.int .i64 (wrap64 (32 + (wrap64 (32 * (Go.bits .and .i64 a0 1))))), .bool true], .int .i64 14, .int .i64 t366, .int .i64 t367] rfl (by (try simp only [List.map_toArray, List.map_cons, List.map_nil]); first | done | rfl | (simp only [List.length_drop, List.length_take]; rfl)) ?_; (with_reducible refine (word_Binary.calls k (wrap64 (32 + (wrap64 (32 * (Go.bits .and .i64 a0 1))))) true 14 t366 t367 t372 true _ A9.out).mono ?_); rintro e w40 ⟨rfl, hb⟩; refine ⟨_, rfl, ?_⟩; have n0_ := Aside0.mk (blk_below (g := gb365) (o := .cells #[.int .i64 (wrap64 (32 + (wrap64 (32 * (Go.bits .and .i64 a0 1))))), .bool true] 26 (0, 0)) (by (with_reducible repeat (first | refine blk_drewN ?_ _ | refine blk_drew ?_ | refine blk_alloc ?_ _)); exact BK365.out) hb); have n1_ := Aside0.mk (below_step (by repeat (first | (with_reducible first | exact HB.out | apply below_alloc | apply pw_below_drewN | apply below_drew1 | refine below_set ?_ GE365.out) | exact HB.out)) hb); clear BK365; clear HB; have BK365 := n0_; have HB := n1_; clear n0_ n1_; (try clear hb); (try clear hb2); (try clear hk); (try clear hi); have hcz41_0 : w40.cell? ⟨gb365, 0, none⟩ = some (.int .i64 (wrap64 (32 + (wrap64 (32 * (Go.bits .and .i64 a0 1)))))) := (blk_cell BK365.out 0).trans rfl; have hcz41_1 : w40.cell? ⟨gb365, 1, none⟩ = some (.bool true) := (blk_cell BK365.out 1).trans rfl; have hfz41_0 := blk_frozen BK365.out 0; have hfz41_1 := blk_frozen BK365.out 1) | ((with_reducible refine gate_callee (f := 14) rfl ?_); refine goesL_ (some 67) rfl rfl Tryd.func14 (by kernel_rfl) rfl #[.agg #[.int .i64 (wrap64 (32 + (wrap64 (32 * (Go.bits .and .i64 a0 1))))), .bool true], .int .i64 17, .int .i64 t366, .int .i64 t367] rfl (by (try simp only [List.map_toArray, List.map_cons, List.map_nil]); first | done | rfl | (simp only [List.length_drop, List.length_take]; rfl)) ?_; (with_reducible refine (word_Binary.calls k (wrap64 (32 + (wrap64 (32 * (Go.bits .and .i64 a0 1))))) true 17 t366 t367 t374 true _ A10.out).mono ?_); rintro e w42 ⟨rfl, hb⟩; refine ⟨_, rfl, ?_⟩; have n0_ := Aside0.mk (blk_below (g := gb365) (o := .cells #[.int .i64 (wrap64 (32 + (wrap64 (32 * (Go.bits .and .i64 a0 1))))), .bool true] 26 (0, 0)) (by (with_reducible repeat (first | refine blk_drewN ?_ _ | refine blk_drew ?_ | refine blk_alloc ?_ _)); exact BK365.out) hb); have n1_ := Aside0.mk (below_step (by repeat (first | (with_reducible first | exact HB.out | apply below_alloc | apply pw_below_drewN | apply below_drew1 | refine below_set ?_ GE365.out) | exact HB.out)) hb); clear BK365; clear HB; have BK365 := n0_; have HB := n1_; clear n0_ n1_; (try clear hb); (try clear hb2); (try clear hk); (try clear hi); have hcz43_0 : w42.cell? ⟨gb365, 0, none⟩ = some (.int .i64 (wrap64 (32 + (wrap64 (32 * (Go.bits .and .i64 a0 1)))))) := (blk_cell BK365.out 0).trans rfl; have hcz43_1 : w42.cell? ⟨gb365, 1, none⟩ = some (.bool true) := (blk_cell BK365.out 1).trans rfl; have hfz43_0 := blk_frozen BK365.out 0; have hfz43_1 := blk_frozen BK365.out 1) | ((with_reducible refine gate_callee (f := 14) rfl ?_); refine goesL_ (some 74) rfl rfl Tryd.func14 (by kernel_rfl) rfl #[.agg #[.int .i64 (wrap64 (32 + (wrap64 (32 * (Go.bits .and .i64 a0 1))))), .bool true], .int .i64 15, .int .i64 t366, .int .i64 t367] rfl (by (try simp only [List.map_toArray, List.map_cons, List.map_nil]); first | done | rfl | (simp only [List.length_drop, List.length_take]; rfl)) ?_; (with_reducible refine (word_Binary.calls k (wrap64 (32 + (wrap64 (32 * (Go.bits .and .i64 a0 1))))) true 15 t366 t367 t376 true _ A11.out).mono ?_); rintro e w44 ⟨rfl, hb⟩; refine ⟨_, rfl, ?_⟩; have n0_ := Aside0.mk (blk_below (g := gb365) (o := .cells #[.int .i64 (wrap64 (32 + (wrap64 (32 * (Go.bits .and .i64 a0 1))))), .bool true] 26 (0, 0)) (by (with_reducible repeat (first | refine blk_drewN ?_ _ | refine blk_drew ?_ | refine blk_alloc ?_ _)); exact BK365.out) hb); have n1_ := Aside0.mk (below_step (by repeat (first | (with_reducible first | exact HB.out | apply below_alloc | apply pw_below_drewN | apply below_drew1 | refine below_set ?_ GE365.out) | exact HB.out)) hb); clear BK365; clear HB; have BK365 := n0_; have HB := n1_; clear n0_ n1_; (try clear hb); (try clear hb2); (try clear hk); (try clear hi)) | ((with_reducible refine gate_callee (f := 21) rfl ?_); refine goesL_ (some 80) rfl rfl Tryd.func21 (by kernel_rfl) rfl #[.int .i64 16, .int .i64 a1, .int .i64 a2] rfl (by (try simp only [List.map_toArray, List.map_cons, List.map_nil]); first | done | rfl | (simp only [List.length_drop, List.length_take]; rfl)) ?_; (with_reducible refine (word_Plain.calls k 16 a1 a2 t378 t379 _ A12.out).mono ?_); rintro e w45 ⟨rfl, hb⟩; refine ⟨_, rfl, ?_⟩; have n0_ := Aside0.mk (blk_below (g := gb365) (o := .cells #[.int .i64 (wrap64 (32 + (wrap64 (32 * (Go.bits .and .i64 a0 1))))), .bool true] 26 (0, 0)) (by (with_reducible repeat (first | refine blk_drewN ?_ _ | refine blk_drew ?_ | refine blk_alloc ?_ _)); exact BK365.out) hb); have n1_ := Aside0.mk (below_step (by repeat (first | (with_reducible first | exact HB.out | apply below_alloc | apply pw_below_drewN | apply below_drew1 | refine below_set ?_ GE365.out) | exact HB.out)) hb); clear BK365; clear HB; have BK365 := n0_; have HB := n1_; clear n0_ n1_; (try clear hb); (try clear hb2); (try clear hk); (try clear hi)) | ((with_reducible refine gate_callee (f := 21) rfl ?_); refine goesL_ (some 86) rfl rfl Tryd.func21 (by kernel_rfl) rfl #[.int .i64 18, .int .i64 a1, .int .i64 a2] rfl (by (try simp only [List.map_toArray, List.map_cons, List.map_nil]); first | done | rfl | (simp only [List.length_drop, List.length_take]; rfl)) ?_; (with_reducible refine (word_Plain.calls k 18 a1 a2 t380 t381 _ A13.out).mono ?_); rintro e w46 ⟨rfl, hb⟩; refine ⟨_, rfl, ?_⟩; have n0_ := Aside0.mk (blk_below (g := gb365) (o := .cells #[.int .i64 (wrap64 (32 + (wrap64 (32 * (Go.bits .and .i64 a0 1))))), .bool true] 26 (0, 0)) (by (with_reducible repeat (first | refine blk_drewN ?_ _ | refine blk_drew ?_ | refine blk_alloc ?_ _)); exact BK365.out) hb); have n1_ := Aside0.mk (below_step (by repeat (first | (with_reducible first | exact HB.out | apply below_alloc | apply pw_below_drewN | apply below_drew1 | refine below_set ?_ GE365.out) | exact HB.out)) hb); clear BK365; clear HB; have BK365 := n0_; have HB := n1_; clear n0_ n1_; (try clear hb); (try clear hb2); (try clear hk); (try clear hi)) | ((with_reducible refine gate_callee (f := 21) rfl ?_); refine goesL_ (some 92) rfl rfl Tryd.func21 (by kernel_rfl) rfl #[.int .i64 17, .int .i64 a2, .int .i64 a1] rfl (by (try simp only [List.map_toArray, List.map_cons, List.map_nil]); first | done | rfl | (simp only [List.length_drop, List.length_take]; rfl)) ?_; (with_reducible refine (word_Plain.calls k 17 a2 a1 t382 t383 _ A14.out).mono ?_); rintro e w47 ⟨rfl, hb⟩; refine ⟨_, rfl, ?_⟩; have n0_ := Aside0.mk (blk_below (g := gb365) (o := .cells #[.int .i64 (wrap64 (32 + (wrap64 (32 * (Go.bits .and .i64 a0 1))))), .bool true] 26 (0, 0)) (by (with_reducible repeat (first | refine blk_drewN ?_ _ | refine blk_drew ?_ | refine blk_alloc ?_ _)); exact BK365.out) hb); have n1_ := Aside0.mk (below_step (by repeat (first | (with_reducible first | exact HB.out | apply below_alloc | apply pw_below_drewN | apply below_drew1 | refine below_set ?_ GE365.out) | exact HB.out)) hb); clear BK365; clear HB; have BK365 := n0_; have HB := n1_; clear n0_ n1_; (try clear hb); (try clear hb2); (try clear hk); (try clear hi)) | ((with_reducible refine gate_callee (f := 21) rfl ?_); refine goesL_ (some 98) rfl rfl Tryd.func21 (by kernel_rfl) rfl #[.int .i64 19, .int .i64 a2, .int .i64 a1] rfl (by (try simp only [List.map_toArray, List.map_cons, List.map_nil]); first | done | rfl | (simp only [List.length_drop, List.length_take]; rfl)) ?_; (with_reducible refine (word_Plain.calls k 19 a2 a1 t384 t385 _ A15.out).mono ?_); rintro e w48 ⟨rfl, hb⟩; refine ⟨_, rfl, ?_⟩; have n0_ := Aside0.mk (blk_below (g := gb365) (o := .cells #[.int .i64 (wrap64 (32 + (wrap64 (32 * (Go.bits .and .i64 a0 1))))), .bool true] 26 (0, 0)) (by (with_reducible repeat (first | refine blk_drewN ?_ _ | refine blk_drew ?_ | refine blk_alloc ?_ _)); exact BK365.out) hb); have n1_ := Aside0.mk (below_step (by repeat (first | (with_reducible first | exact HB.out | apply below_alloc | apply pw_below_drewN | apply below_drew1 | refine below_set ?_ GE365.out) | exact HB.out)) hb); clear BK365; clear HB; have BK365 := n0_; have HB := n1_; clear n0_ n1_; (try clear hb); (try clear hb2); (try clear hk); (try clear hi)) | (go_at_call 16; (with_reducible refine (spokeshavelaw1_awake.calls k  t386 _ A28.out).mono ?_); rintro e w49 ⟨rfl, hb⟩; have n0_ := Aside0.mk (blk_below (g := gb365) (o := .cells #[.int .i64 (wrap64 (32 + (wrap64 (32 * (Go.bits .and .i64 a0 1))))), .bool true] 26 (0, 0)) (by (with_reducible repeat (first | refine blk_drewN ?_ _ | refine blk_drew ?_ | refine blk_alloc ?_ _)); exact BK365.out) hb); have n1_ := Aside0.mk (below_step (by repeat (first | (with_reducible first | exact HB.out | apply below_alloc | apply pw_below_drewN | apply below_drew1 | refine below_set ?_ GE365.out) | exact HB.out)) hb); clear BK365; clear HB; have BK365 := n0_; have HB := n1_; clear n0_ n1_; (try clear hb); (try clear hb2); (try clear hk); (try clear hi)))
       go_ret
       exact ⟨by first | rfl | (simp [errW_none, errW_some] <;> rfl) | (simp [*, errW_none, errW_some] <;> rfl), by repeat (first | (with_reducible first | exact HB.out | apply below_alloc | apply pw_below_drewN | apply below_drew1 | refine below_set ?_ GE365.out) | exact HB.out)⟩
      ·
       replace c20 := Bool.eq_false_iff.mpr c20
       subst c20
       have H1 : (none) = some r := by rw [if_neg (show ¬ (false = true) by decide)] at H; exact H
       clear H
       have H := H1
       clear H1
       exact absurd H (by simp)
     ·
      replace c19 := Bool.eq_false_iff.mpr c19
      subst c19
      have H1 : (none) = some r := by rw [if_neg (show ¬ (false = true) by decide)] at H; exact H
      clear H
      have H := H1
      clear H1
      exact absurd H (by simp)
    ·
     replace c18 := Bool.eq_false_iff.mpr c18
     subst c18
     have H1 : (none) = some r := by rw [if_neg (show ¬ (false = true) by decide)] at H; exact H
     clear H
     have H := H1
     clear H1
     exact absurd H (by simp)
   ·
    replace c17 := Bool.eq_false_iff.mpr c17
    subst c17
    have H1 : (none) = some r := by rw [if_neg (show ¬ (false = true) by decide)] at H; exact H
    clear H
    have H := H1
    clear H1
    exact absurd H (by simp)
  ·
   replace c16 := Bool.eq_false_iff.mpr c16
   subst c16
   have H1 : (none) = some r := by rw [if_neg (show ¬ (false = true) by decide)] at H; exact H
   clear H
   have H := H1
   clear H1
   exact absurd H (by simp)
 ·
  rw [if_neg c4] at H
  have c4b0 : ((Go.bits .and .i64 a0 2) == 2) = false := beq_eq_false_iff_ne.mpr c4
  have c4b1 : ((Go.bits .and .i64 a0 2) != 2) = true := bne_iff_ne.mpr c4
  replace H := Option.bind_eq_some_iff.mp H
  obtain ⟨t388, A500, H⟩ := H
  replace H : ((word_Wrap.f (wrap64 (32 + (wrap64 (32 * (Go.bits .and .i64 a0 1))))) false a2).bind fun t389 => ((word_Binary.f k (wrap64 (32 + (wrap64 (32 * (Go.bits .and .i64 a0 1))))) false 16 t388 t389).bind fun bt390 => ((word_Binary.f k (wrap64 (32 + (wrap64 (32 * (Go.bits .and .i64 a0 1))))) false 16 t389 t388).bind fun bt392 => ((word_Binary.f k (wrap64 (32 + (wrap64 (32 * (Go.bits .and .i64 a0 1))))) false 14 t388 t389).bind fun bt394 => ((word_Binary.f k (wrap64 (32 + (wrap64 (32 * (Go.bits .and .i64 a0 1))))) false 17 t388 t389).bind fun bt396 => ((word_Binary.f k (wrap64 (32 + (wrap64 (32 * (Go.bits .and .i64 a0 1))))) false 15 t388 t389).bind fun bt398 => ((word_Plain.f k 16 a1 a2).bind fun bt400 => ((word_Plain.f k 18 a1 a2).bind fun bt402 => ((word_Plain.f k 17 a2 a1).bind fun bt404 => ((word_Plain.f k 19 a2 a1).bind fun bt406 => (if bt390.2 = true then (if bt392.2 = true then (if bt394.2 = true then (if bt396.2 = true then (if bt398.2 = true then (if (wrap64 ((wrap64 (bt390.1 + bt392.1)) + bt394.1)) = 1 then (if bt396.1 = (wrap64 (bt390.1 + bt394.1)) then (if bt398.1 = (wrap64 (1 - bt394.1)) then (if ((bt400.1 == 1) == (decide (a1 < a2))) = true then (if ((bt402.1 == 1) == (decide ((IntKind.u64.wrap (a1)) < (IntKind.u64.wrap (a2))))) = true then (if (wrap64 (bt400.1 + bt404.1)) = 1 then (if (wrap64 (bt402.1 + bt406.1)) = 1 then ((spokeshavelaw1_awake.f k).bind fun t408 => (some t408)) else (none)) else (none)) else (none)) else (none)) else (none)) else (none)) else (none)) else (none)) else (none)) else (none)) else (none)) else (none)))))))))))) = some r := H
  have A50 := Aside0.mk A500
  clear A500
  replace H := Option.bind_eq_some_iff.mp H
  obtain ⟨t389, A510, H⟩ := H
  replace H : ((word_Binary.f k (wrap64 (32 + (wrap64 (32 * (Go.bits .and .i64 a0 1))))) false 16 t388 t389).bind fun bt390 => ((word_Binary.f k (wrap64 (32 + (wrap64 (32 * (Go.bits .and .i64 a0 1))))) false 16 t389 t388).bind fun bt392 => ((word_Binary.f k (wrap64 (32 + (wrap64 (32 * (Go.bits .and .i64 a0 1))))) false 14 t388 t389).bind fun bt394 => ((word_Binary.f k (wrap64 (32 + (wrap64 (32 * (Go.bits .and .i64 a0 1))))) false 17 t388 t389).bind fun bt396 => ((word_Binary.f k (wrap64 (32 + (wrap64 (32 * (Go.bits .and .i64 a0 1))))) false 15 t388 t389).bind fun bt398 => ((word_Plain.f k 16 a1 a2).bind fun bt400 => ((word_Plain.f k 18 a1 a2).bind fun bt402 => ((word_Plain.f k 17 a2 a1).bind fun bt404 => ((word_Plain.f k 19 a2 a1).bind fun bt406 => (if bt390.2 = true then (if bt392.2 = true then (if bt394.2 = true then (if bt396.2 = true then (if bt398.2 = true then (if (wrap64 ((wrap64 (bt390.1 + bt392.1)) + bt394.1)) = 1 then (if bt396.1 = (wrap64 (bt390.1 + bt394.1)) then (if bt398.1 = (wrap64 (1 - bt394.1)) then (if ((bt400.1 == 1) == (decide (a1 < a2))) = true then (if ((bt402.1 == 1) == (decide ((IntKind.u64.wrap (a1)) < (IntKind.u64.wrap (a2))))) = true then (if (wrap64 (bt400.1 + bt404.1)) = 1 then (if (wrap64 (bt402.1 + bt406.1)) = 1 then ((spokeshavelaw1_awake.f k).bind fun t408 => (some t408)) else (none)) else (none)) else (none)) else (none)) else (none)) else (none)) else (none)) else (none)) else (none)) else (none)) else (none)) else (none))))))))))) = some r := H
  have A51 := Aside0.mk A510
  clear A510
  replace H := Option.bind_eq_some_iff.mp H
  obtain ⟨⟨t390, t391⟩, A520, H⟩ := H
  replace H : ((word_Binary.f k (wrap64 (32 + (wrap64 (32 * (Go.bits .and .i64 a0 1))))) false 16 t389 t388).bind fun bt392 => ((word_Binary.f k (wrap64 (32 + (wrap64 (32 * (Go.bits .and .i64 a0 1))))) false 14 t388 t389).bind fun bt394 => ((word_Binary.f k (wrap64 (32 + (wrap64 (32 * (Go.bits .and .i64 a0 1))))) false 17 t388 t389).bind fun bt396 => ((word_Binary.f k (wrap64 (32 + (wrap64 (32 * (Go.bits .and .i64 a0 1))))) false 15 t388 t389).bind fun bt398 => ((word_Plain.f k 16 a1 a2).bind fun bt400 => ((word_Plain.f k 18 a1 a2).bind fun bt402 => ((word_Plain.f k 17 a2 a1).bind fun bt404 => ((word_Plain.f k 19 a2 a1).bind fun bt406 => (if t391 = true then (if bt392.2 = true then (if bt394.2 = true then (if bt396.2 = true then (if bt398.2 = true then (if (wrap64 ((wrap64 (t390 + bt392.1)) + bt394.1)) = 1 then (if bt396.1 = (wrap64 (t390 + bt394.1)) then (if bt398.1 = (wrap64 (1 - bt394.1)) then (if ((bt400.1 == 1) == (decide (a1 < a2))) = true then (if ((bt402.1 == 1) == (decide ((IntKind.u64.wrap (a1)) < (IntKind.u64.wrap (a2))))) = true then (if (wrap64 (bt400.1 + bt404.1)) = 1 then (if (wrap64 (bt402.1 + bt406.1)) = 1 then ((spokeshavelaw1_awake.f k).bind fun t408 => (some t408)) else (none)) else (none)) else (none)) else (none)) else (none)) else (none)) else (none)) else (none)) else (none)) else (none)) else (none)) else (none)))))))))) = some r := H
  have A52 := Aside0.mk A520
  clear A520
  replace H := Option.bind_eq_some_iff.mp H
  obtain ⟨⟨t392, t393⟩, A530, H⟩ := H
  replace H : ((word_Binary.f k (wrap64 (32 + (wrap64 (32 * (Go.bits .and .i64 a0 1))))) false 14 t388 t389).bind fun bt394 => ((word_Binary.f k (wrap64 (32 + (wrap64 (32 * (Go.bits .and .i64 a0 1))))) false 17 t388 t389).bind fun bt396 => ((word_Binary.f k (wrap64 (32 + (wrap64 (32 * (Go.bits .and .i64 a0 1))))) false 15 t388 t389).bind fun bt398 => ((word_Plain.f k 16 a1 a2).bind fun bt400 => ((word_Plain.f k 18 a1 a2).bind fun bt402 => ((word_Plain.f k 17 a2 a1).bind fun bt404 => ((word_Plain.f k 19 a2 a1).bind fun bt406 => (if t391 = true then (if t393 = true then (if bt394.2 = true then (if bt396.2 = true then (if bt398.2 = true then (if (wrap64 ((wrap64 (t390 + t392)) + bt394.1)) = 1 then (if bt396.1 = (wrap64 (t390 + bt394.1)) then (if bt398.1 = (wrap64 (1 - bt394.1)) then (if ((bt400.1 == 1) == (decide (a1 < a2))) = true then (if ((bt402.1 == 1) == (decide ((IntKind.u64.wrap (a1)) < (IntKind.u64.wrap (a2))))) = true then (if (wrap64 (bt400.1 + bt404.1)) = 1 then (if (wrap64 (bt402.1 + bt406.1)) = 1 then ((spokeshavelaw1_awake.f k).bind fun t408 => (some t408)) else (none)) else (none)) else (none)) else (none)) else (none)) else (none)) else (none)) else (none)) else (none)) else (none)) else (none)) else (none))))))))) = some r := H
  have A53 := Aside0.mk A530
  clear A530
  replace H := Option.bind_eq_some_iff.mp H
  obtain ⟨⟨t394, t395⟩, A540, H⟩ := H
  replace H : ((word_Binary.f k (wrap64 (32 + (wrap64 (32 * (Go.bits .and .i64 a0 1))))) false 17 t388 t389).bind fun bt396 => ((word_Binary.f k (wrap64 (32 + (wrap64 (32 * (Go.bits .and .i64 a0 1))))) false 15 t388 t389).bind fun bt398 => ((word_Plain.f k 16 a1 a2).bind fun bt400 => ((word_Plain.f k 18 a1 a2).bind fun bt402 => ((word_Plain.f k 17 a2 a1).bind fun bt404 => ((word_Plain.f k 19 a2 a1).bind fun bt406 => (if t391 = true then (if t393 = true then (if t395 = true then (if bt396.2 = true then (if bt398.2 = true then (if (wrap64 ((wrap64 (t390 + t392)) + t394)) = 1 then (if bt396.1 = (wrap64 (t390 + t394)) then (if bt398.1 = (wrap64 (1 - t394)) then (if ((bt400.1 == 1) == (decide (a1 < a2))) = true then (if ((bt402.1 == 1) == (decide ((IntKind.u64.wrap (a1)) < (IntKind.u64.wrap (a2))))) = true then (if (wrap64 (bt400.1 + bt404.1)) = 1 then (if (wrap64 (bt402.1 + bt406.1)) = 1 then ((spokeshavelaw1_awake.f k).bind fun t408 => (some t408)) else (none)) else (none)) else (none)) else (none)) else (none)) else (none)) else (none)) else (none)) else (none)) else (none)) else (none)) else (none)))))))) = some r := H
  have A54 := Aside0.mk A540
  clear A540
  replace H := Option.bind_eq_some_iff.mp H
  obtain ⟨⟨t396, t397⟩, A550, H⟩ := H
  replace H : ((word_Binary.f k (wrap64 (32 + (wrap64 (32 * (Go.bits .and .i64 a0 1))))) false 15 t388 t389).bind fun bt398 => ((word_Plain.f k 16 a1 a2).bind fun bt400 => ((word_Plain.f k 18 a1 a2).bind fun bt402 => ((word_Plain.f k 17 a2 a1).bind fun bt404 => ((word_Plain.f k 19 a2 a1).bind fun bt406 => (if t391 = true then (if t393 = true then (if t395 = true then (if t397 = true then (if bt398.2 = true then (if (wrap64 ((wrap64 (t390 + t392)) + t394)) = 1 then (if t396 = (wrap64 (t390 + t394)) then (if bt398.1 = (wrap64 (1 - t394)) then (if ((bt400.1 == 1) == (decide (a1 < a2))) = true then (if ((bt402.1 == 1) == (decide ((IntKind.u64.wrap (a1)) < (IntKind.u64.wrap (a2))))) = true then (if (wrap64 (bt400.1 + bt404.1)) = 1 then (if (wrap64 (bt402.1 + bt406.1)) = 1 then ((spokeshavelaw1_awake.f k).bind fun t408 => (some t408)) else (none)) else (none)) else (none)) else (none)) else (none)) else (none)) else (none)) else (none)) else (none)) else (none)) else (none)) else (none))))))) = some r := H
  have A55 := Aside0.mk A550
  clear A550
  replace H := Option.bind_eq_some_iff.mp H
  obtain ⟨⟨t398, t399⟩, A560, H⟩ := H
  replace H : ((word_Plain.f k 16 a1 a2).bind fun bt400 => ((word_Plain.f k 18 a1 a2).bind fun bt402 => ((word_Plain.f k 17 a2 a1).bind fun bt404 => ((word_Plain.f k 19 a2 a1).bind fun bt406 => (if t391 = true then (if t393 = true then (if t395 = true then (if t397 = true then (if t399 = true then (if (wrap64 ((wrap64 (t390 + t392)) + t394)) = 1 then (if t396 = (wrap64 (t390 + t394)) then (if t398 = (wrap64 (1 - t394)) then (if ((bt400.1 == 1) == (decide (a1 < a2))) = true then (if ((bt402.1 == 1) == (decide ((IntKind.u64.wrap (a1)) < (IntKind.u64.wrap (a2))))) = true then (if (wrap64 (bt400.1 + bt404.1)) = 1 then (if (wrap64 (bt402.1 + bt406.1)) = 1 then ((spokeshavelaw1_awake.f k).bind fun t408 => (some t408)) else (none)) else (none)) else (none)) else (none)) else (none)) else (none)) else (none)) else (none)) else (none)) else (none)) else (none)) else (none)))))) = some r := H
  have A56 := Aside0.mk A560
  clear A560
  replace H := Option.bind_eq_some_iff.mp H
  obtain ⟨⟨t400, t401⟩, A570, H⟩ := H
  replace H : ((word_Plain.f k 18 a1 a2).bind fun bt402 => ((word_Plain.f k 17 a2 a1).bind fun bt404 => ((word_Plain.f k 19 a2 a1).bind fun bt406 => (if t391 = true then (if t393 = true then (if t395 = true then (if t397 = true then (if t399 = true then (if (wrap64 ((wrap64 (t390 + t392)) + t394)) = 1 then (if t396 = (wrap64 (t390 + t394)) then (if t398 = (wrap64 (1 - t394)) then (if ((t400 == 1) == (decide (a1 < a2))) = true then (if ((bt402.1 == 1) == (decide ((IntKind.u64.wrap (a1)) < (IntKind.u64.wrap (a2))))) = true then (if (wrap64 (t400 + bt404.1)) = 1 then (if (wrap64 (bt402.1 + bt406.1)) = 1 then ((spokeshavelaw1_awake.f k).bind fun t408 => (some t408)) else (none)) else (none)) else (none)) else (none)) else (none)) else (none)) else (none)) else (none)) else (none)) else (none)) else (none)) else (none))))) = some r := H
  have A57 := Aside0.mk A570
  clear A570
  replace H := Option.bind_eq_some_iff.mp H
  obtain ⟨⟨t402, t403⟩, A580, H⟩ := H
  replace H : ((word_Plain.f k 17 a2 a1).bind fun bt404 => ((word_Plain.f k 19 a2 a1).bind fun bt406 => (if t391 = true then (if t393 = true then (if t395 = true then (if t397 = true then (if t399 = true then (if (wrap64 ((wrap64 (t390 + t392)) + t394)) = 1 then (if t396 = (wrap64 (t390 + t394)) then (if t398 = (wrap64 (1 - t394)) then (if ((t400 == 1) == (decide (a1 < a2))) = true then (if ((t402 == 1) == (decide ((IntKind.u64.wrap (a1)) < (IntKind.u64.wrap (a2))))) = true then (if (wrap64 (t400 + bt404.1)) = 1 then (if (wrap64 (t402 + bt406.1)) = 1 then ((spokeshavelaw1_awake.f k).bind fun t408 => (some t408)) else (none)) else (none)) else (none)) else (none)) else (none)) else (none)) else (none)) else (none)) else (none)) else (none)) else (none)) else (none)))) = some r := H
  have A58 := Aside0.mk A580
  clear A580
  replace H := Option.bind_eq_some_iff.mp H
  obtain ⟨⟨t404, t405⟩, A590, H⟩ := H
  replace H : ((word_Plain.f k 19 a2 a1).bind fun bt406 => (if t391 = true then (if t393 = true then (if t395 = true then (if t397 = true then (if t399 = true then (if (wrap64 ((wrap64 (t390 + t392)) + t394)) = 1 then (if t396 = (wrap64 (t390 + t394)) then (if t398 = (wrap64 (1 - t394)) then (if ((t400 == 1) == (decide (a1 < a2))) = true then (if ((t402 == 1) == (decide ((IntKind.u64.wrap (a1)) < (IntKind.u64.wrap (a2))))) = true then (if (wrap64 (t400 + t404)) = 1 then (if (wrap64 (t402 + bt406.1)) = 1 then ((spokeshavelaw1_awake.f k).bind fun t408 => (some t408)) else (none)) else (none)) else (none)) else (none)) else (none)) else (none)) else (none)) else (none)) else (none)) else (none)) else (none)) else (none))) = some r := H
  have A59 := Aside0.mk A590
  clear A590
  replace H := Option.bind_eq_some_iff.mp H
  obtain ⟨⟨t406, t407⟩, A600, H⟩ := H
  replace H : (if t391 = true then (if t393 = true then (if t395 = true then (if t397 = true then (if t399 = true then (if (wrap64 ((wrap64 (t390 + t392)) + t394)) = 1 then (if t396 = (wrap64 (t390 + t394)) then (if t398 = (wrap64 (1 - t394)) then (if ((t400 == 1) == (decide (a1 < a2))) = true then (if ((t402 == 1) == (decide ((IntKind.u64.wrap (a1)) < (IntKind.u64.wrap (a2))))) = true then (if (wrap64 (t400 + t404)) = 1 then (if (wrap64 (t402 + t406)) = 1 then ((spokeshavelaw1_awake.f k).bind fun t408 => (some t408)) else (none)) else (none)) else (none)) else (none)) else (none)) else (none)) else (none)) else (none)) else (none)) else (none)) else (none)) else (none)) = some r := H
  have A60 := Aside0.mk A600
  clear A600
  by_cases c61 : t391 = true
  ·
   subst c61
   have H1 : (if t393 = true then (if t395 = true then (if t397 = true then (if t399 = true then (if (wrap64 ((wrap64 (t390 + t392)) + t394)) = 1 then (if t396 = (wrap64 (t390 + t394)) then (if t398 = (wrap64 (1 - t394)) then (if ((t400 == 1) == (decide (a1 < a2))) = true then (if ((t402 == 1) == (decide ((IntKind.u64.wrap (a1)) < (IntKind.u64.wrap (a2))))) = true then (if (wrap64 (t400 + t404)) = 1 then (if (wrap64 (t402 + t406)) = 1 then ((spokeshavelaw1_awake.f k).bind fun t408 => (some t408)) else (none)) else (none)) else (none)) else (none)) else (none)) else (none)) else (none)) else (none)) else (none)) else (none)) else (none)) = some r := by rw [if_pos rfl] at H; exact H
   clear H
   have H := H1
   clear H1
   by_cases c62 : t393 = true
   ·
    subst c62
    have H1 : (if t395 = true then (if t397 = true then (if t399 = true then (if (wrap64 ((wrap64 (t390 + t392)) + t394)) = 1 then (if t396 = (wrap64 (t390 + t394)) then (if t398 = (wrap64 (1 - t394)) then (if ((t400 == 1) == (decide (a1 < a2))) = true then (if ((t402 == 1) == (decide ((IntKind.u64.wrap (a1)) < (IntKind.u64.wrap (a2))))) = true then (if (wrap64 (t400 + t404)) = 1 then (if (wrap64 (t402 + t406)) = 1 then ((spokeshavelaw1_awake.f k).bind fun t408 => (some t408)) else (none)) else (none)) else (none)) else (none)) else (none)) else (none)) else (none)) else (none)) else (none)) else (none)) = some r := by rw [if_pos rfl] at H; exact H
    clear H
    have H := H1
    clear H1
    by_cases c63 : t395 = true
    ·
     subst c63
     have H1 : (if t397 = true then (if t399 = true then (if (wrap64 ((wrap64 (t390 + t392)) + t394)) = 1 then (if t396 = (wrap64 (t390 + t394)) then (if t398 = (wrap64 (1 - t394)) then (if ((t400 == 1) == (decide (a1 < a2))) = true then (if ((t402 == 1) == (decide ((IntKind.u64.wrap (a1)) < (IntKind.u64.wrap (a2))))) = true then (if (wrap64 (t400 + t404)) = 1 then (if (wrap64 (t402 + t406)) = 1 then ((spokeshavelaw1_awake.f k).bind fun t408 => (some t408)) else (none)) else (none)) else (none)) else (none)) else (none)) else (none)) else (none)) else (none)) else (none)) = some r := by rw [if_pos rfl] at H; exact H
     clear H
     have H := H1
     clear H1
     by_cases c64 : t397 = true
     ·
      subst c64
      have H1 : (if t399 = true then (if (wrap64 ((wrap64 (t390 + t392)) + t394)) = 1 then (if t396 = (wrap64 (t390 + t394)) then (if t398 = (wrap64 (1 - t394)) then (if ((t400 == 1) == (decide (a1 < a2))) = true then (if ((t402 == 1) == (decide ((IntKind.u64.wrap (a1)) < (IntKind.u64.wrap (a2))))) = true then (if (wrap64 (t400 + t404)) = 1 then (if (wrap64 (t402 + t406)) = 1 then ((spokeshavelaw1_awake.f k).bind fun t408 => (some t408)) else (none)) else (none)) else (none)) else (none)) else (none)) else (none)) else (none)) else (none)) = some r := by rw [if_pos rfl] at H; exact H
      clear H
      have H := H1
      clear H1
      by_cases c65 : t399 = true
      ·
       subst c65
       have H1 : (if (wrap64 ((wrap64 (t390 + t392)) + t394)) = 1 then (if t396 = (wrap64 (t390 + t394)) then (if t398 = (wrap64 (1 - t394)) then (if ((t400 == 1) == (decide (a1 < a2))) = true then (if ((t402 == 1) == (decide ((IntKind.u64.wrap (a1)) < (IntKind.u64.wrap (a2))))) = true then (if (wrap64 (t400 + t404)) = 1 then (if (wrap64 (t402 + t406)) = 1 then ((spokeshavelaw1_awake.f k).bind fun t408 => (some t408)) else (none)) else (none)) else (none)) else (none)) else (none)) else (none)) else (none)) = some r := by rw [if_pos rfl] at H; exact H
       clear H
       have H := H1
       clear H1
       by_cases c66 : (wrap64 ((wrap64 (t390 + t392)) + t394)) = 1
       case neg => rw [if_neg c66] at H; exact absurd H (by simp)
       rw [if_pos c66] at H
       have c66b0 : ((wrap64 ((wrap64 (t390 + t392)) + t394)) == 1) = true := beq_iff_eq.mpr c66
       have c66b1 : ((wrap64 ((wrap64 (t390 + t392)) + t394)) != 1) = false := bne_eq_false_iff_eq.mpr c66
       clear c66
       by_cases c67 : t396 = (wrap64 (t390 + t394))
       case neg => rw [if_neg c67] at H; exact absurd H (by simp)
       rw [if_pos c67] at H
       have c67b0 : (t396 == (wrap64 (t390 + t394))) = true := beq_iff_eq.mpr c67
       have c67b1 : (t396 != (wrap64 (t390 + t394))) = false := bne_eq_false_iff_eq.mpr c67
       clear c67
       by_cases c68 : t398 = (wrap64 (1 - t394))
       case neg => rw [if_neg c68] at H; exact absurd H (by simp)
       rw [if_pos c68] at H
       have c68b0 : (t398 == (wrap64 (1 - t394))) = true := beq_iff_eq.mpr c68
       have c68b1 : (t398 != (wrap64 (1 - t394))) = false := bne_eq_false_iff_eq.mpr c68
       clear c68
       by_cases c69 : ((t400 == 1) == (decide (a1 < a2))) = true
       case neg => rw [if_neg c69] at H; exact absurd H (by simp)
       rw [if_pos c69] at H
       have c69b0 : ((t400 == 1) == (decide (a1 < a2))) = true := c69
       (try (have c69b1 : decide ((t400 == 1) = (decide (a1 < a2))) = true := by first | exact c69 | exact absurd c69 (by decide) | decide | (simp; done) | simpa using c69))
       (try (have c69b2 : ((t400 == 1) == (decide (a1 < a2))) = true := by first | exact c69 | exact absurd c69 (by decide) | decide | (simp; done) | simpa using c69))
       clear c69
       by_cases c70 : ((t402 == 1) == (decide ((IntKind.u64.wrap (a1)) < (IntKind.u64.wrap (a2))))) = true
       case neg => rw [if_neg c70] at H; exact absurd H (by simp)
       rw [if_pos c70] at H
       have c70b0 : ((t402 == 1) == (decide ((IntKind.u64.wrap (a1)) < (IntKind.u64.wrap (a2))))) = true := c70
       (try (have c70b1 : decide ((t402 == 1) = (decide ((IntKind.u64.wrap (a1)) < (IntKind.u64.wrap (a2))))) = true := by first | exact c70 | exact absurd c70 (by decide) | decide | (simp; done) | simpa using c70))
       (try (have c70b2 : ((t402 == 1) == (decide ((IntKind.u64.wrap (a1)) < (IntKind.u64.wrap (a2))))) = true := by first | exact c70 | exact absurd c70 (by decide) | decide | (simp; done) | simpa using c70))
       clear c70
       by_cases c71 : (wrap64 (t400 + t404)) = 1
       case neg => rw [if_neg c71] at H; exact absurd H (by simp)
       rw [if_pos c71] at H
       have c71b0 : ((wrap64 (t400 + t404)) == 1) = true := beq_iff_eq.mpr c71
       have c71b1 : ((wrap64 (t400 + t404)) != 1) = false := bne_eq_false_iff_eq.mpr c71
       clear c71
       by_cases c72 : (wrap64 (t402 + t406)) = 1
       case neg => rw [if_neg c72] at H; exact absurd H (by simp)
       rw [if_pos c72] at H
       have c72b0 : ((wrap64 (t402 + t406)) == 1) = true := beq_iff_eq.mpr c72
       have c72b1 : ((wrap64 (t402 + t406)) != 1) = false := bne_eq_false_iff_eq.mpr c72
       clear c72
       replace H := Option.bind_eq_some_iff.mp H
       obtain ⟨t408, A730, H⟩ := H
       replace H : (some t408) = some r := H
       have A73 := Aside0.mk A730
       clear A730
       obtain rfl := Option.some.inj H
       go_enter Tryd.func8, Tryd.ntmps8
       try go_wp2_with (first | ((with_reducible refine gate_dst (N := 7) rfl ?_); refine box_event ?hg (N := 7) ?hd (cs := #[.int .i64 0, .bool false]) (t := 26) ?hr ?_; (case hd => rfl); (case hg => rfl); (case hr => first | (go_simp; done) | (go_simp; rfl)); intro gb387 hg w74 hbox hb; have n0_ := Aside0.mk (below_step (by repeat (first | (with_reducible first | exact HB.out | apply below_alloc | apply pw_below_drewN | apply below_drew1) | exact HB.out)) hb); have n1_ := Aside0.mk (hbox); have n2_ := Aside0.mk ((by rw [hg]; exact (below_size (by repeat (first | (with_reducible first | exact HB.out | apply below_alloc | apply pw_below_drewN | apply below_drew1) | exact HB.out))) : w.heap.size ≤ gb387)); have n3_ := Aside0.mk ((by rw [hg]; exact (below_size (by repeat (first | (with_reducible first | exact HB.out | apply below_alloc | apply pw_below_drewN | apply below_drew1) | exact HB.out))) : w.heap.size ≤ gb387)); clear HB; have HB := n0_; have BK387 := n1_; have GW387 := n2_; have GE387 := n3_; clear n0_ n1_ n2_ n3_; clear hb hbox hg; have hcz75_0 : w74.cell? ⟨gb387, 0, none⟩ = some (.int .i64 0) := (blk_cell BK387.out 0).trans rfl; have hcz75_1 : w74.cell? ⟨gb387, 1, none⟩ = some (.bool false) := (blk_cell BK387.out 1).trans rfl; have hfz75_0 := blk_frozen BK387.out 0; have hfz75_1 := blk_frozen BK387.out 1))
       have n0_ : Aside0 (((w74.setCell ⟨gb387, 0, none⟩ (.int .i64 (wrap64 (32 + (wrap64 (32 * (Go.bits .and .i64 a0 1))))))).setCell ⟨gb387, 1, none⟩ (.bool false)).heap[gb387]? = some (.cells #[.int .i64 (wrap64 (32 + (wrap64 (32 * (Go.bits .and .i64 a0 1))))), .bool false] 26 (0, 0))) := ⟨by (with_reducible repeat (first | refine blk_drewN ?_ _ | refine blk_drew ?_ | refine blk_alloc ?_ _)); refine blk_put (cs := #[.int .i64 (wrap64 (32 + (wrap64 (32 * (Go.bits .and .i64 a0 1))))), .bool false]) ?_ 1 _ rfl; (with_reducible repeat (first | refine blk_drewN ?_ _ | refine blk_drew ?_ | refine blk_alloc ?_ _)); refine blk_put (cs := #[.int .i64 0, .bool false]) ?_ 0 _ rfl; (with_reducible repeat (first | refine blk_drewN ?_ _ | refine blk_drew ?_ | refine blk_alloc ?_ _)); exact BK387.out⟩
       have n1_ : Aside0 (Below w.heap.size w ((w74.setCell ⟨gb387, 0, none⟩ (.int .i64 (wrap64 (32 + (wrap64 (32 * (Go.bits .and .i64 a0 1))))))).setCell ⟨gb387, 1, none⟩ (.bool false))) := ⟨by repeat (first | (with_reducible first | exact HB.out | apply below_alloc | apply pw_below_drewN | apply below_drew1 | refine below_set ?_ GE387.out) | exact HB.out)⟩
       (try clear BK387)
       (try clear HB)
       generalize ((w74.setCell ⟨gb387, 0, none⟩ (.int .i64 (wrap64 (32 + (wrap64 (32 * (Go.bits .and .i64 a0 1))))))).setCell ⟨gb387, 1, none⟩ (.bool false)) = w76 at n0_ n1_ ⊢
       have BK387 := n0_
       have HB := n1_
       clear n0_ n1_
       have n0_ := Aside0.mk (blk_drew BK387.out)
       have n1_ := Aside0.mk (below_drew1 HB.out)
       clear BK387
       clear HB
       have BK387 := n0_
       have HB := n1_
       clear n0_ n1_
       refine start_ (n := 8) (S := fun w' => w'.cell? ⟨gb387, 0, none⟩ = some (.int .i64 (wrap64 (32 + (wrap64 (32 * (Go.bits .and .i64 a0 1)))))) ∧ w'.cell? ⟨gb387, 1, none⟩ = some (.bool false)) (ds := []) #[false,false,false,false,false,false,false,false] (by kernel_rfl) rfl rfl ⟨(blk_cell BK387.out 0).trans rfl, (blk_cell BK387.out 1).trans rfl⟩ (fun hHeld => ?_); refine with_tabW spokeshavelaw1_WordOrders.tab2 spokeshavelaw1_WordOrders.bits2 (fun HT_ HW_ => ?_)
       generalize w76.drew = w77 at BK387 HB hHeld ⊢
       refine pure_ (i := 1) (N := some 37) (v := ?_) (a' := ?_) #[false,true,false,false,false,false,false,false] rfl rfl (any_of HT_.out (by kernel_rfl)) (fun _ _ _ h => h) (Or.inl ⟨by rfl, ?_⟩) ?_ ?_
       rotate_left
       ·
        intro w'
        go_simp
        with_reducible rfl
       rotate_left
       ·
        simp only [Act.put, List.setIfInBounds_toArray, List.set_cons_zero, List.set_cons_succ, i64_w, i32_w]
        rfl
       refine pure_ (i := 4) (N := some 40) (v := ?_) (a' := ?_) #[false,true,false,false,true,false,false,false] rfl rfl (any_of HT_.out (by kernel_rfl)) (fun _ _ _ h => h) (Or.inl ⟨by rfl, ?_⟩) ?_ ?_
       rotate_left
       ·
        intro w'
        go_simp
        with_reducible rfl
       rotate_left
       ·
        simp only [Act.put, List.setIfInBounds_toArray, List.set_cons_zero, List.set_cons_succ, i64_w, i32_w]
        rfl
       refine take_ (i := 0) (N := some 36) (v := ?_) (a' := ?_) #[true,true,false,false,true,false,false,false] rfl rfl (take_ofW HT_.out HW_.out (by kernel_rfl)) (fun _ _ _ h => h) (Or.inl ⟨by rfl, ?_⟩) hHeld ?_ ?_
       rotate_left
       ·
        rintro w' ⟨s0, s1⟩
        go_simp
        with_reducible rfl
       rotate_left
       ·
        simp only [Act.put, List.setIfInBounds_toArray, List.set_cons_zero, List.set_cons_succ, i64_w, i32_w]
        rfl
       refine take_ (i := 3) (N := some 39) (v := ?_) (a' := ?_) #[true,true,false,true,true,false,false,false] rfl rfl (take_ofW HT_.out HW_.out (by kernel_rfl)) (fun _ _ _ h => h) (Or.inl ⟨by rfl, ?_⟩) hHeld ?_ ?_
       rotate_left
       ·
        rintro w' ⟨s0, s1⟩
        go_simp
        with_reducible rfl
       rotate_left
       ·
        simp only [Act.put, List.setIfInBounds_toArray, List.set_cons_zero, List.set_cons_succ, i64_w, i32_w]
        rfl
       refine one_ (i := 2) (N := some 38) #[true,true,true,true,true,false,false,false] rfl rfl (one_of HT_.out (by kernel_rfl)) (by decide) (fun K hK => ?_)
       refine goes_ Tryd.func13 (by kernel_rfl) rfl #[.agg #[.int .i64 (wrap64 (32 + (wrap64 (32 * (Go.bits .and .i64 a0 1))))), .bool false], .int .i64 a1] (by rfl) rfl rfl (by (try simp only [List.map_toArray, List.map_cons, List.map_nil]); first | done | rfl | (simp only [List.length_drop, List.length_take]; rfl)) ?_
       with_reducible refine (word_Wrap.calls (wrap64 (32 + (wrap64 (32 * (Go.bits .and .i64 a0 1))))) false a1 t388 _ A50.out).mono ?_
       rintro e w78 ⟨rfl, hb⟩
       refine ⟨_, rfl, ?_⟩
       have n0_ := Aside0.mk (blk_below (g := gb387) (o := .cells #[.int .i64 (wrap64 (32 + (wrap64 (32 * (Go.bits .and .i64 a0 1))))), .bool false] 26 (0, 0)) (by (with_reducible repeat (first | refine blk_drewN ?_ _ | refine blk_drew ?_ | refine blk_alloc ?_ _)); exact BK387.out) hb)
       have n1_ := Aside0.mk (below_step (by repeat (first | (with_reducible first | exact HB.out | apply below_alloc | apply pw_below_drewN | apply below_drew1 | refine below_set ?_ GE387.out) | exact HB.out)) hb)
       clear BK387
       clear HB
       have BK387 := n0_
       have HB := n1_
       clear n0_ n1_
       (try clear hb)
       (try clear hb2)
       (try clear hk)
       (try clear hi)
       refine hK.out _ _ ⟨(blk_cell BK387.out 0).trans rfl, (blk_cell BK387.out 1).trans rfl⟩ (fun hHeld => ?_)
       clear hK K
       refine norm_ (a' := ?_) ?_ ?_
       rotate_left
       ·
        show Act.put _ (some 38) _ = _
        simp only [Act.put, List.setIfInBounds_toArray, List.set_cons_zero, List.set_cons_succ, i64_w, i32_w]
        rfl
       refine one_ (i := 5) (N := some 41) #[true,true,true,true,true,true,false,false] rfl rfl (one_of HT_.out (by kernel_rfl)) (by decide) (fun K hK => ?_)
       refine goes_ Tryd.func13 (by kernel_rfl) rfl #[.agg #[.int .i64 (wrap64 (32 + (wrap64 (32 * (Go.bits .and .i64 a0 1))))), .bool false], .int .i64 a2] (by rfl) rfl rfl (by (try simp only [List.map_toArray, List.map_cons, List.map_nil]); first | done | rfl | (simp only [List.length_drop, List.length_take]; rfl)) ?_
       with_reducible refine (word_Wrap.calls (wrap64 (32 + (wrap64 (32 * (Go.bits .and .i64 a0 1))))) false a2 t389 _ A51.out).mono ?_
       rintro e w79 ⟨rfl, hb⟩
       refine ⟨_, rfl, ?_⟩
       have n0_ := Aside0.mk (blk_below (g := gb387) (o := .cells #[.int .i64 (wrap64 (32 + (wrap64 (32 * (Go.bits .and .i64 a0 1))))), .bool false] 26 (0, 0)) (by (with_reducible repeat (first | refine blk_drewN ?_ _ | refine blk_drew ?_ | refine blk_alloc ?_ _)); exact BK387.out) hb)
       have n1_ := Aside0.mk (below_step (by repeat (first | (with_reducible first | exact HB.out | apply below_alloc | apply pw_below_drewN | apply below_drew1 | refine below_set ?_ GE387.out) | exact HB.out)) hb)
       clear BK387
       clear HB
       have BK387 := n0_
       have HB := n1_
       clear n0_ n1_
       (try clear hb)
       (try clear hb2)
       (try clear hk)
       (try clear hi)
       refine hK.out _ _ ⟨(blk_cell BK387.out 0).trans rfl, (blk_cell BK387.out 1).trans rfl⟩ (fun hHeld => ?_)
       clear hK K
       refine norm_ (a' := ?_) ?_ ?_
       rotate_left
       ·
        show Act.put _ (some 41) _ = _
        simp only [Act.put, List.setIfInBounds_toArray, List.set_cons_zero, List.set_cons_succ, i64_w, i32_w]
        rfl
       refine pure_ (i := 6) (N := some 8) (v := ?_) (a' := ?_) #[true,true,true,true,true,true,true,false] rfl rfl (any_of HT_.out (by kernel_rfl)) (fun _ _ _ h => h) (Or.inl ⟨by rfl, ?_⟩) ?_ ?_
       rotate_left
       ·
        intro w'
        go_simp
        with_reducible rfl
       rotate_left
       ·
        simp only [Act.put, List.setIfInBounds_toArray, List.set_cons_zero, List.set_cons_succ, i64_w, i32_w]
        rfl
       refine pure_ (i := 7) (N := some 9) (v := ?_) (a' := ?_) #[true,true,true,true,true,true,true,true] rfl rfl (any_of HT_.out (by kernel_rfl)) (fun _ _ _ h => h) (Or.inl ⟨by rfl, ?_⟩) ?_ ?_
       rotate_left
       ·
        intro w'
        go_simp
        with_reducible rfl
       rotate_left
       ·
        simp only [Act.put, List.setIfInBounds_toArray, List.set_cons_zero, List.set_cons_succ, i64_w, i32_w]
        rfl
       refine done_ (done_of HT_.out (by kernel_rfl)) ?_
       have hcz80_0 : w79.cell? ⟨gb387, 0, none⟩ = some (.int .i64 (wrap64 (32 + (wrap64 (32 * (Go.bits .and .i64 a0 1)))))) := (blk_cell BK387.out 0).trans rfl
       have hcz80_1 : w79.cell? ⟨gb387, 1, none⟩ = some (.bool false) := (blk_cell BK387.out 1).trans rfl
       have hfz80_0 := blk_frozen BK387.out 0
       have hfz80_1 := blk_frozen BK387.out 1
       try go_wp2_with (first | ((with_reducible refine gate_callee (f := 14) rfl ?_); refine goesL_ (some 46) rfl rfl Tryd.func14 (by kernel_rfl) rfl #[.agg #[.int .i64 (wrap64 (32 + (wrap64 (32 * (Go.bits .and .i64 a0 1))))), .bool false], .int .i64 16, .int .i64 t388, .int .i64 t389] rfl (by (try simp only [List.map_toArray, List.map_cons, List.map_nil]); first | done | rfl | (simp only [List.length_drop, List.length_take]; rfl)) ?_; (with_reducible refine (word_Binary.calls k (wrap64 (32 + (wrap64 (32 * (Go.bits .and .i64 a0 1))))) false 16 t388 t389 t390 true _ A52.out).mono ?_); rintro e w81 ⟨rfl, hb⟩; refine ⟨_, rfl, ?_⟩; have n0_ := Aside0.mk (blk_below (g := gb387) (o := .cells #[.int .i64 (wrap64 (32 + (wrap64 (32 * (Go.bits .and .i64 a0 1))))), .bool false] 26 (0, 0)) (by (with_reducible repeat (first | refine blk_drewN ?_ _ | refine blk_drew ?_ | refine blk_alloc ?_ _)); exact BK387.out) hb); have n1_ := Aside0.mk (below_step (by repeat (first | (with_reducible first | exact HB.out | apply below_alloc | apply pw_below_drewN | apply below_drew1 | refine below_set ?_ GE387.out) | exact HB.out)) hb); clear BK387; clear HB; have BK387 := n0_; have HB := n1_; clear n0_ n1_; (try clear hb); (try clear hb2); (try clear hk); (try clear hi); have hcz82_0 : w81.cell? ⟨gb387, 0, none⟩ = some (.int .i64 (wrap64 (32 + (wrap64 (32 * (Go.bits .and .i64 a0 1)))))) := (blk_cell BK387.out 0).trans rfl; have hcz82_1 : w81.cell? ⟨gb387, 1, none⟩ = some (.bool false) := (blk_cell BK387.out 1).trans rfl; have hfz82_0 := blk_frozen BK387.out 0; have hfz82_1 := blk_frozen BK387.out 1) | ((with_reducible refine gate_callee (f := 14) rfl ?_); refine goesL_ (some 53) rfl rfl Tryd.func14 (by kernel_rfl) rfl #[.agg #[.int .i64 (wrap64 (32 + (wrap64 (32 * (Go.bits .and .i64 a0 1))))), .bool false], .int .i64 16, .int .i64 t389, .int .i64 t388] rfl (by (try simp only [List.map_toArray, List.map_cons, List.map_nil]); first | done | rfl | (simp only [List.length_drop, List.length_take]; rfl)) ?_; (with_reducible refine (word_Binary.calls k (wrap64 (32 + (wrap64 (32 * (Go.bits .and .i64 a0 1))))) false 16 t389 t388 t392 true _ A53.out).mono ?_); rintro e w83 ⟨rfl, hb⟩; refine ⟨_, rfl, ?_⟩; have n0_ := Aside0.mk (blk_below (g := gb387) (o := .cells #[.int .i64 (wrap64 (32 + (wrap64 (32 * (Go.bits .and .i64 a0 1))))), .bool false] 26 (0, 0)) (by (with_reducible repeat (first | refine blk_drewN ?_ _ | refine blk_drew ?_ | refine blk_alloc ?_ _)); exact BK387.out) hb); have n1_ := Aside0.mk (below_step (by repeat (first | (with_reducible first | exact HB.out | apply below_alloc | apply pw_below_drewN | apply below_drew1 | refine below_set ?_ GE387.out) | exact HB.out)) hb); clear BK387; clear HB; have BK387 := n0_; have HB := n1_; clear n0_ n1_; (try clear hb); (try clear hb2); (try clear hk); (try clear hi); have hcz84_0 : w83.cell? ⟨gb387, 0, none⟩ = some (.int .i64 (wrap64 (32 + (wrap64 (32 * (Go.bits .and .i64 a0 1)))))) := (blk_cell BK387.out 0).trans rfl; have hcz84_1 : w83.cell? ⟨gb387, 1, none⟩ = some (.bool false) := (blk_cell BK387.out 1).trans rfl; have hfz84_0 := blk_frozen BK387.out 0; have hfz84_1 := blk_frozen BK387.out 1) | ((with_reducible refine gate_callee (f := 14) rfl ?_); refine goesL_ (some 60) rfl rfl Tryd.func14 (by kernel_rfl) rfl #[.agg #[.int .i64 (wrap64 (32 + (wrap64 (32 * (Go.bits .and .i64 a0 1))))), .bool false], .int .i64 14, .int .i64 t388, .int .i64 t389] rfl (by (try simp only [List.map_toArray, List.map_cons, List.map_nil]); first | done | rfl | (simp only [List.length_drop, List.length_take]; rfl)) ?_; (with_reducible refine (word_Binary.calls k (wrap64 (32 + (wrap64 (32 * (Go.bits .and .i64 a0 1))))) false 14 t388 t389 t394 true _ A54.out).mono ?_); rintro e w85 ⟨rfl, hb⟩; refine ⟨_, rfl, ?_⟩; have n0_ := Aside0.mk (blk_below (g := gb387) (o := .cells #[.int .i64 (wrap64 (32 + (wrap64 (32 * (Go.bits .and .i64 a0 1))))), .bool false] 26 (0, 0)) (by (with_reducible repeat (first | refine blk_drewN ?_ _ | refine blk_drew ?_ | refine blk_alloc ?_ _)); exact BK387.out) hb); have n1_ := Aside0.mk (below_step (by repeat (first | (with_reducible first | exact HB.out | apply below_alloc | apply pw_below_drewN | apply below_drew1 | refine below_set ?_ GE387.out) | exact HB.out)) hb); clear BK387; clear HB; have BK387 := n0_; have HB := n1_; clear n0_ n1_; (try clear hb); (try clear hb2); (try clear hk); (try clear hi); have hcz86_0 : w85.cell? ⟨gb387, 0, none⟩ = some (.int .i64 (wrap64 (32 + (wrap64 (32 * (Go.bits .and .i64 a0 1)))))) := (blk_cell BK387.out 0).trans rfl; have hcz86_1 : w85.cell? ⟨gb387, 1, none⟩ = some (.bool false) := (blk_cell BK387.out 1).trans rfl; have hfz86_0 := blk_frozen BK387.out 0; have hfz86_1 := blk_frozen BK387.out 1) | ((with_reducible refine gate_callee (f := 14) rfl ?_); refine goesL_ (some 67) rfl rfl Tryd.func14 (by kernel_rfl) rfl #[.agg #[.int .i64 (wrap64 (32 + (wrap64 (32 * (Go.bits .and .i64 a0 1))))), .bool false], .int .i64 17, .int .i64 t388, .int .i64 t389] rfl (by (try simp only [List.map_toArray, List.map_cons, List.map_nil]); first | done | rfl | (simp only [List.length_drop, List.length_take]; rfl)) ?_; (with_reducible refine (word_Binary.calls k (wrap64 (32 + (wrap64 (32 * (Go.bits .and .i64 a0 1))))) false 17 t388 t389 t396 true _ A55.out).mono ?_); rintro e w87 ⟨rfl, hb⟩; refine ⟨_, rfl, ?_⟩; have n0_ := Aside0.mk (blk_below (g := gb387) (o := .cells #[.int .i64 (wrap64 (32 + (wrap64 (32 * (Go.bits .and .i64 a0 1))))), .bool false] 26 (0, 0)) (by (with_reducible repeat (first | refine blk_drewN ?_ _ | refine blk_drew ?_ | refine blk_alloc ?_ _)); exact BK387.out) hb); have n1_ := Aside0.mk (below_step (by repeat (first | (with_reducible first | exact HB.out | apply below_alloc | apply pw_below_drewN | apply below_drew1 | refine below_set ?_ GE387.out) | exact HB.out)) hb); clear BK387; clear HB; have BK387 := n0_; have HB := n1_; clear n0_ n1_; (try clear hb); (try clear hb2); (try clear hk); (try clear hi); have hcz88_0 : w87.cell? ⟨gb387, 0, none⟩ = some (.int .i64 (wrap64 (32 + (wrap64 (32 * (Go.bits .and .i64 a0 1)))))) := (blk_cell BK387.out 0).trans rfl; have hcz88_1 : w87.cell? ⟨gb387, 1, none⟩ = some (.bool false) := (blk_cell BK387.out 1).trans rfl; have hfz88_0 := blk_frozen BK387.out 0; have hfz88_1 := blk_frozen BK387.out 1) | ((with_reducible refine gate_callee (f := 14) rfl ?_); refine goesL_ (some 74) rfl rfl Tryd.func14 (by kernel_rfl) rfl #[.agg #[.int .i64 (wrap64 (32 + (wrap64 (32 * (Go.bits .and .i64 a0 1))))), .bool false], .int .i64 15, .int .i64 t388, .int .i64 t389] rfl (by (try simp only [List.map_toArray, List.map_cons, List.map_nil]); first | done | rfl | (simp only [List.length_drop, List.length_take]; rfl)) ?_; (with_reducible refine (word_Binary.calls k (wrap64 (32 + (wrap64 (32 * (Go.bits .and .i64 a0 1))))) false 15 t388 t389 t398 true _ A56.out).mono ?_); rintro e w89 ⟨rfl, hb⟩; refine ⟨_, rfl, ?_⟩; have n0_ := Aside0.mk (blk_below (g := gb387) (o := .cells #[.int .i64 (wrap64 (32 + (wrap64 (32 * (Go.bits .and .i64 a0 1))))), .bool false] 26 (0, 0)) (by (with_reducible repeat (first | refine blk_drewN ?_ _ | refine blk_drew ?_ | refine blk_alloc ?_ _)); exact BK387.out) hb); have n1_ := Aside0.mk (below_step (by repeat (first | (with_reducible first | exact HB.out | apply below_alloc | apply pw_below_drewN | apply below_drew1 | refine below_set ?_ GE387.out) | exact HB.out)) hb); clear BK387; clear HB; have BK387 := n0_; have HB := n1_; clear n0_ n1_; (try clear hb); (try clear hb2); (try clear hk); (try clear hi)) | ((with_reducible refine gate_callee (f := 21) rfl ?_); refine goesL_ (some 80) rfl rfl Tryd.func21 (by kernel_rfl) rfl #[.int .i64 16, .int .i64 a1, .int .i64 a2] rfl (by (try simp only [List.map_toArray, List.map_cons, List.map_nil]); first | done | rfl | (simp only [List.length_drop, List.length_take]; rfl)) ?_; (with_reducible refine (word_Plain.calls k 16 a1 a2 t400 t401 _ A57.out).mono ?_); rintro e w90 ⟨rfl, hb⟩; refine ⟨_, rfl, ?_⟩; have n0_ := Aside0.mk (blk_below (g := gb387) (o := .cells #[.int .i64 (wrap64 (32 + (wrap64 (32 * (Go.bits .and .i64 a0 1))))), .bool false] 26 (0, 0)) (by (with_reducible repeat (first | refine blk_drewN ?_ _ | refine blk_drew ?_ | refine blk_alloc ?_ _)); exact BK387.out) hb); have n1_ := Aside0.mk (below_step (by repeat (first | (with_reducible first | exact HB.out | apply below_alloc | apply pw_below_drewN | apply below_drew1 | refine below_set ?_ GE387.out) | exact HB.out)) hb); clear BK387; clear HB; have BK387 := n0_; have HB := n1_; clear n0_ n1_; (try clear hb); (try clear hb2); (try clear hk); (try clear hi)) | ((with_reducible refine gate_callee (f := 21) rfl ?_); refine goesL_ (some 86) rfl rfl Tryd.func21 (by kernel_rfl) rfl #[.int .i64 18, .int .i64 a1, .int .i64 a2] rfl (by (try simp only [List.map_toArray, List.map_cons, List.map_nil]); first | done | rfl | (simp only [List.length_drop, List.length_take]; rfl)) ?_; (with_reducible refine (word_Plain.calls k 18 a1 a2 t402 t403 _ A58.out).mono ?_); rintro e w91 ⟨rfl, hb⟩; refine ⟨_, rfl, ?_⟩; have n0_ := Aside0.mk (blk_below (g := gb387) (o := .cells #[.int .i64 (wrap64 (32 + (wrap64 (32 * (Go.bits .and .i64 a0 1))))), .bool false] 26 (0, 0)) (by (with_reducible repeat (first | refine blk_drewN ?_ _ | refine blk_drew ?_ | refine blk_alloc ?_ _)); exact BK387.out) hb); have n1_ := Aside0.mk (below_step (by repeat (first | (with_reducible first | exact HB.out | apply below_alloc | apply pw_below_drewN | apply below_drew1 | refine below_set ?_ GE387.out) | exact HB.out)) hb); clear BK387; clear HB; have BK387 := n0_; have HB := n1_; clear n0_ n1_; (try clear hb); (try clear hb2); (try clear hk); (try clear hi)) | ((with_reducible refine gate_callee (f := 21) rfl ?_); refine goesL_ (some 92) rfl rfl Tryd.func21 (by kernel_rfl) rfl #[.int .i64 17, .int .i64 a2, .int .i64 a1] rfl (by (try simp only [List.map_toArray, List.map_cons, List.map_nil]); first | done | rfl | (simp only [List.length_drop, List.length_take]; rfl)) ?_; (with_reducible refine (word_Plain.calls k 17 a2 a1 t404 t405 _ A59.out).mono ?_); rintro e w92 ⟨rfl, hb⟩; refine ⟨_, rfl, ?_⟩; have n0_ := Aside0.mk (blk_below (g := gb387) (o := .cells #[.int .i64 (wrap64 (32 + (wrap64 (32 * (Go.bits .and .i64 a0 1))))), .bool false] 26 (0, 0)) (by (with_reducible repeat (first | refine blk_drewN ?_ _ | refine blk_drew ?_ | refine blk_alloc ?_ _)); exact BK387.out) hb); have n1_ := Aside0.mk (below_step (by repeat (first | (with_reducible first | exact HB.out | apply below_alloc | apply pw_below_drewN | apply below_drew1 | refine below_set ?_ GE387.out) | exact HB.out)) hb); clear BK387; clear HB; have BK387 := n0_; have HB := n1_; clear n0_ n1_; (try clear hb); (try clear hb2); (try clear hk); (try clear hi)) | ((with_reducible refine gate_callee (f := 21) rfl ?_); refine goesL_ (some 98) rfl rfl Tryd.func21 (by kernel_rfl) rfl #[.int .i64 19, .int .i64 a2, .int .i64 a1] rfl (by (try simp only [List.map_toArray, List.map_cons, List.map_nil]); first | done | rfl | (simp only [List.length_drop, List.length_take]; rfl)) ?_; (with_reducible refine (word_Plain.calls k 19 a2 a1 t406 t407 _ A60.out).mono ?_); rintro e w93 ⟨rfl, hb⟩; refine ⟨_, rfl, ?_⟩; have n0_ := Aside0.mk (blk_below (g := gb387) (o := .cells #[.int .i64 (wrap64 (32 + (wrap64 (32 * (Go.bits .and .i64 a0 1))))), .bool false] 26 (0, 0)) (by (with_reducible repeat (first | refine blk_drewN ?_ _ | refine blk_drew ?_ | refine blk_alloc ?_ _)); exact BK387.out) hb); have n1_ := Aside0.mk (below_step (by repeat (first | (with_reducible first | exact HB.out | apply below_alloc | apply pw_below_drewN | apply below_drew1 | refine below_set ?_ GE387.out) | exact HB.out)) hb); clear BK387; clear HB; have BK387 := n0_; have HB := n1_; clear n0_ n1_; (try clear hb); (try clear hb2); (try clear hk); (try clear hi)) | (go_at_call 16; (with_reducible refine (spokeshavelaw1_awake.calls k  t408 _ A73.out).mono ?_); rintro e w94 ⟨rfl, hb⟩; have n0_ := Aside0.mk (blk_below (g := gb387) (o := .cells #[.int .i64 (wrap64 (32 + (wrap64 (32 * (Go.bits .and .i64 a0 1))))), .bool false] 26 (0, 0)) (by (with_reducible repeat (first | refine blk_drewN ?_ _ | refine blk_drew ?_ | refine blk_alloc ?_ _)); exact BK387.out) hb); have n1_ := Aside0.mk (below_step (by repeat (first | (with_reducible first | exact HB.out | apply below_alloc | apply pw_below_drewN | apply below_drew1 | refine below_set ?_ GE387.out) | exact HB.out)) hb); clear BK387; clear HB; have BK387 := n0_; have HB := n1_; clear n0_ n1_; (try clear hb); (try clear hb2); (try clear hk); (try clear hi)))
       go_ret
       exact ⟨by first | rfl | (simp [errW_none, errW_some] <;> rfl) | (simp [*, errW_none, errW_some] <;> rfl), by repeat (first | (with_reducible first | exact HB.out | apply below_alloc | apply pw_below_drewN | apply below_drew1 | refine below_set ?_ GE387.out) | exact HB.out)⟩
      ·
       replace c65 := Bool.eq_false_iff.mpr c65
       subst c65
       have H1 : (none) = some r := by rw [if_neg (show ¬ (false = true) by decide)] at H; exact H
       clear H
       have H := H1
       clear H1
       exact absurd H (by simp)
     ·
      replace c64 := Bool.eq_false_iff.mpr c64
      subst c64
      have H1 : (none) = some r := by rw [if_neg (show ¬ (false = true) by decide)] at H; exact H
      clear H
      have H := H1
      clear H1
      exact absurd H (by simp)
    ·
     replace c63 := Bool.eq_false_iff.mpr c63
     subst c63
     have H1 : (none) = some r := by rw [if_neg (show ¬ (false = true) by decide)] at H; exact H
     clear H
     have H := H1
     clear H1
     exact absurd H (by simp)
   ·
    replace c62 := Bool.eq_false_iff.mpr c62
    subst c62
    have H1 : (none) = some r := by rw [if_neg (show ¬ (false = true) by decide)] at H; exact H
    clear H
    have H := H1
    clear H1
    exact absurd H (by simp)
  ·
   replace c61 := Bool.eq_false_iff.mpr c61
   subst c61
   have H1 : (none) = some r := by rw [if_neg (show ¬ (false = true) by decide)] at H; exact H
   clear H
   have H := H1
   clear H1
   exact absurd H (by simp)

/-- THE ONE PURE STATEMENT of spokeshavelaw1_WordOrders: yours. -/
def spokeshavelaw1_WordOrders.Pure : Prop := ∀ (a0 : Int) (a1 : Int) (a2 : Int), (Lit.int .i64 a0).wf = true → (Lit.int .i64 a1).wf = true → (Lit.int .i64 a2).wf = true → ∃ k, spokeshavelaw1_WordOrders.f k a0 a1 a2 = some true
theorem spokeshavelaw1_WordOrders.walk (P : spokeshavelaw1_WordOrders.Pure) (a0 : Int) (a1 : Int) (a2 : Int) (w : World) (w0 : (Lit.int .i64 a0).wf = true) (w1 : (Lit.int .i64 a1).wf = true) (w2 : (Lit.int .i64 a2).wf = true) :
  Calls Tryd.prog 8 #[.int .i64 a0, .int .i64 a1, .int .i64 a2] w fun e w' => e = .returned (.bool true) ∧ Below w.heap.size w w' := by
 obtain ⟨k, h⟩ := P a0 a1 a2 w0 w1 w2
 refine (spokeshavelaw1_WordOrders.calls k a0 a1 a2 true w h).mono ?_
 rintro e w' ⟨rfl, hd⟩
 exact ⟨rfl, hd⟩

/-! ### word_Negate: function 23 -/
def word_Negate.f (k : Nat) (a0_0 : Int) (a0_1 : Bool) (a1 : Int) : Option (Int × Bool) := (word_Binary.f k a0_0 a0_1 2 0 a1).bind fun bt410 => (some (bt410.1, bt410.2))
theorem word_Negate.mono : ∀ a0 a1 a2 k, LeO (word_Negate.f k a0 a1 a2) (word_Negate.f (k + 1) a0 a1 a2) := by
 intro a0 a1 a2 k
 unfold word_Negate.f
 repeat' first
   | (with_reducible exact word_Binary.mono _ _ _ _ _ _)
   | (with_reducible exact LeO.refl _)
   | (with_reducible exact LeO.none _)
   | (with_reducible refine LeO.ite ?_ ?_)
   | (with_reducible refine LeO.bind ?_ (fun _ => ?_))
   | exact word_Binary.mono _ _ _ _ _ _
   | exact LeO.none _
   | refine LeO.ite ?_ ?_
   | refine LeO.bind ?_ (fun _ => ?_)
set_option maxHeartbeats 8000000 in
set_option maxRecDepth 100000 in
theorem word_Negate.calls (k : Nat) (a0_0 : Int) (a0_1 : Bool) (a1 : Int) (r1 : Int) (r2 : Bool) (w : World) (h : word_Negate.f k a0_0 a0_1 a1 = some (r1, r2)) :
  Calls Tryd.prog 23 #[.agg #[.int .i64 a0_0, .bool a0_1], .int .i64 a1] w fun e w' => e = .returned (.tuple #[.int .i64 r1, .bool r2]) ∧ Below w.heap.size w w' := by
 have hu26 := Tryd.underlying26
 have HB := Aside0.mk (Below.refl w.heap.size w)
 have H : ((word_Binary.f k a0_0 a0_1 2 0 a1).bind fun bt410 => (some (bt410.1, bt410.2))) = some (r1, r2) := h
 clear h
 replace H := Option.bind_eq_some_iff.mp H
 obtain ⟨⟨t410, t411⟩, A30, H⟩ := H
 replace H : (some (t410, t411)) = some (r1, r2) := H
 have A3 := Aside0.mk A30
 clear A30
 simp only [Option.some.injEq, Prod.mk.injEq] at H
 obtain ⟨rfl, rfl⟩ := H
 go_enter Tryd.func23, Tryd.ntmps23
 go_wp2_with (first | ((with_reducible refine gate_dst (N := 2) rfl ?_); refine box_event ?hg (N := 2) ?hd (cs := #[.int .i64 a0_0, .bool a0_1]) (t := 26) ?hr ?_; (case hd => rfl); (case hg => rfl); (case hr => first | (go_simp; done) | (go_simp; rfl)); intro gb409 hg w4 hbox hb; have n0_ := Aside0.mk (below_step (by repeat (first | (with_reducible first | exact HB.out | apply below_alloc | apply pw_below_drewN | apply below_drew1) | exact HB.out)) hb); have n1_ := Aside0.mk (hbox); have n2_ := Aside0.mk ((by rw [hg]; exact (below_size (by repeat (first | (with_reducible first | exact HB.out | apply below_alloc | apply pw_below_drewN | apply below_drew1) | exact HB.out))) : w.heap.size ≤ gb409)); have n3_ := Aside0.mk ((by rw [hg]; exact (below_size (by repeat (first | (with_reducible first | exact HB.out | apply below_alloc | apply pw_below_drewN | apply below_drew1) | exact HB.out))) : w.heap.size ≤ gb409)); clear HB; have HB := n0_; have BK409 := n1_; have GW409 := n2_; have GE409 := n3_; clear n0_ n1_ n2_ n3_; clear hb hbox hg; have hcz5_0 : w4.cell? ⟨gb409, 0, none⟩ = some (.int .i64 a0_0) := (blk_cell BK409.out 0).trans rfl; have hcz5_1 : w4.cell? ⟨gb409, 1, none⟩ = some (.bool a0_1) := (blk_cell BK409.out 1).trans rfl; have hfz5_0 := blk_frozen BK409.out 0; have hfz5_1 := blk_frozen BK409.out 1) | ((with_reducible refine gate_callee (f := 14) rfl ?_); refine goesL_ (some 8) rfl rfl Tryd.func14 (by kernel_rfl) rfl #[.agg #[.int .i64 a0_0, .bool a0_1], .int .i64 2, .int .i64 0, .int .i64 a1] rfl (by (try simp only [List.map_toArray, List.map_cons, List.map_nil]); first | done | rfl | (simp only [List.length_drop, List.length_take]; rfl)) ?_; (with_reducible refine (word_Binary.calls k a0_0 a0_1 2 0 a1 t410 t411 _ A3.out).mono ?_); rintro e w6 ⟨rfl, hb⟩; refine ⟨_, rfl, ?_⟩; have n0_ := Aside0.mk (blk_below (g := gb409) (o := .cells #[.int .i64 a0_0, .bool a0_1] 26 (0, 0)) (by (with_reducible repeat (first | refine blk_drewN ?_ _ | refine blk_drew ?_ | refine blk_alloc ?_ _)); exact BK409.out) hb); have n1_ := Aside0.mk (below_step (by repeat (first | (with_reducible first | exact HB.out | apply below_alloc | apply pw_below_drewN | apply below_drew1 | refine below_set ?_ GE409.out) | exact HB.out)) hb); clear BK409; clear HB; have BK409 := n0_; have HB := n1_; clear n0_ n1_; (try clear hb); (try clear hb2); (try clear hk); (try clear hi)))
 go_ret2
 exact ⟨by first | rfl | (simp [errW_none, errW_some] <;> rfl) | (simp [*, errW_none, errW_some] <;> rfl), by repeat (first | (with_reducible first | exact HB.out | apply below_alloc | apply pw_below_drewN | apply below_drew1 | refine below_set ?_ GE409.out) | exact HB.out)⟩

/-! ### spokeshaveref1_Negate: function 24 -/
def spokeshaveref1_Negate.f (k : Nat) (a0_0 : Int) (a0_1 : Bool) (a1 : Int) : Option (Int × Bool) := (spokeshaveref1_Binary.f k a0_0 a0_1 2 0 a1).bind fun bt413 => (some (bt413.1, bt413.2))
theorem spokeshaveref1_Negate.mono : ∀ a0 a1 a2 k, LeO (spokeshaveref1_Negate.f k a0 a1 a2) (spokeshaveref1_Negate.f (k + 1) a0 a1 a2) := by
 intro a0 a1 a2 k
 unfold spokeshaveref1_Negate.f
 repeat' first
   | (with_reducible exact spokeshaveref1_Binary.mono _ _ _ _ _ _)
   | (with_reducible exact LeO.refl _)
   | (with_reducible exact LeO.none _)
   | (with_reducible refine LeO.ite ?_ ?_)
   | (with_reducible refine LeO.bind ?_ (fun _ => ?_))
   | exact spokeshaveref1_Binary.mono _ _ _ _ _ _
   | exact LeO.none _
   | refine LeO.ite ?_ ?_
   | refine LeO.bind ?_ (fun _ => ?_)
set_option maxHeartbeats 8000000 in
set_option maxRecDepth 100000 in
theorem spokeshaveref1_Negate.calls (k : Nat) (a0_0 : Int) (a0_1 : Bool) (a1 : Int) (r1 : Int) (r2 : Bool) (w : World) (h : spokeshaveref1_Negate.f k a0_0 a0_1 a1 = some (r1, r2)) :
  Calls Tryd.prog 24 #[.agg #[.int .i64 a0_0, .bool a0_1], .int .i64 a1] w fun e w' => e = .returned (.tuple #[.int .i64 r1, .bool r2]) ∧ Below w.heap.size w w' := by
 have hu26 := Tryd.underlying26
 have HB := Aside0.mk (Below.refl w.heap.size w)
 have H : ((spokeshaveref1_Binary.f k a0_0 a0_1 2 0 a1).bind fun bt413 => (some (bt413.1, bt413.2))) = some (r1, r2) := h
 clear h
 replace H := Option.bind_eq_some_iff.mp H
 obtain ⟨⟨t413, t414⟩, A30, H⟩ := H
 replace H : (some (t413, t414)) = some (r1, r2) := H
 have A3 := Aside0.mk A30
 clear A30
 simp only [Option.some.injEq, Prod.mk.injEq] at H
 obtain ⟨rfl, rfl⟩ := H
 go_enter Tryd.func24, Tryd.ntmps24
 go_wp2_with (first | ((with_reducible refine gate_dst (N := 2) rfl ?_); refine box_event ?hg (N := 2) ?hd (cs := #[.int .i64 a0_0, .bool a0_1]) (t := 26) ?hr ?_; (case hd => rfl); (case hg => rfl); (case hr => first | (go_simp; done) | (go_simp; rfl)); intro gb412 hg w4 hbox hb; have n0_ := Aside0.mk (below_step (by repeat (first | (with_reducible first | exact HB.out | apply below_alloc | apply pw_below_drewN | apply below_drew1) | exact HB.out)) hb); have n1_ := Aside0.mk (hbox); have n2_ := Aside0.mk ((by rw [hg]; exact (below_size (by repeat (first | (with_reducible first | exact HB.out | apply below_alloc | apply pw_below_drewN | apply below_drew1) | exact HB.out))) : w.heap.size ≤ gb412)); have n3_ := Aside0.mk ((by rw [hg]; exact (below_size (by repeat (first | (with_reducible first | exact HB.out | apply below_alloc | apply pw_below_drewN | apply below_drew1) | exact HB.out))) : w.heap.size ≤ gb412)); clear HB; have HB := n0_; have BK412 := n1_; have GW412 := n2_; have GE412 := n3_; clear n0_ n1_ n2_ n3_; clear hb hbox hg; have hcz5_0 : w4.cell? ⟨gb412, 0, none⟩ = some (.int .i64 a0_0) := (blk_cell BK412.out 0).trans rfl; have hcz5_1 : w4.cell? ⟨gb412, 1, none⟩ = some (.bool a0_1) := (blk_cell BK412.out 1).trans rfl; have hfz5_0 := blk_frozen BK412.out 0; have hfz5_1 := blk_frozen BK412.out 1) | ((with_reducible refine gate_callee (f := 15) rfl ?_); refine goesL_ (some 8) rfl rfl Tryd.func15 (by kernel_rfl) rfl #[.agg #[.int .i64 a0_0, .bool a0_1], .int .i64 2, .int .i64 0, .int .i64 a1] rfl (by (try simp only [List.map_toArray, List.map_cons, List.map_nil]); first | done | rfl | (simp only [List.length_drop, List.length_take]; rfl)) ?_; (with_reducible refine (spokeshaveref1_Binary.calls k a0_0 a0_1 2 0 a1 t413 t414 _ A3.out).mono ?_); rintro e w6 ⟨rfl, hb⟩; refine ⟨_, rfl, ?_⟩; have n0_ := Aside0.mk (blk_below (g := gb412) (o := .cells #[.int .i64 a0_0, .bool a0_1] 26 (0, 0)) (by (with_reducible repeat (first | refine blk_drewN ?_ _ | refine blk_drew ?_ | refine blk_alloc ?_ _)); exact BK412.out) hb); have n1_ := Aside0.mk (below_step (by repeat (first | (with_reducible first | exact HB.out | apply below_alloc | apply pw_below_drewN | apply below_drew1 | refine below_set ?_ GE412.out) | exact HB.out)) hb); clear BK412; clear HB; have BK412 := n0_; have HB := n1_; clear n0_ n1_; (try clear hb); (try clear hb2); (try clear hk); (try clear hi)))
 go_ret2
 exact ⟨by first | rfl | (simp [errW_none, errW_some] <;> rfl) | (simp [*, errW_none, errW_some] <;> rfl), by repeat (first | (with_reducible first | exact HB.out | apply below_alloc | apply pw_below_drewN | apply below_drew1 | refine below_set ?_ GE412.out) | exact HB.out)⟩

/-! ### spokeshaveref1_Promote: function 28 -/
def spokeshaveref1_Promote.f (a0_0 : Int) (a0_1 : Bool) : Option (Int × Bool) := if a0_0 < 32 then (some (32, true)) else (some (a0_0, a0_1))
set_option maxHeartbeats 8000000 in
set_option maxRecDepth 100000 in
theorem spokeshaveref1_Promote.calls (a0_0 : Int) (a0_1 : Bool) (r1 : Int) (r2 : Bool) (w : World) (h : spokeshaveref1_Promote.f a0_0 a0_1 = some (r1, r2)) :
  Calls Tryd.prog 28 #[.agg #[.int .i64 a0_0, .bool a0_1]] w fun e w' => e = .returned (.agg #[.int .i64 r1, .bool r2]) ∧ Below w.heap.size w w' := by
 have hu26 := Tryd.underlying26
 have HB := Aside0.mk (Below.refl w.heap.size w)
 have H : (if a0_0 < 32 then (some (32, true)) else (some (a0_0, a0_1))) = some (r1, r2) := h
 clear h
 by_cases c2 : a0_0 < 32
 ·
  rw [if_pos c2] at H
  have c2b0 : decide (a0_0 < 32) = true := decide_eq_true c2
  clear c2
  simp only [Option.some.injEq, Prod.mk.injEq] at H
  obtain ⟨rfl, rfl⟩ := H
  go_enter Tryd.func28, Tryd.ntmps28
  go_wp2_with (first | ((with_reducible refine gate_dst (N := 1) rfl ?_); refine box_event ?hg (N := 1) ?hd (cs := #[.int .i64 a0_0, .bool a0_1]) (t := 26) ?hr ?_; (case hd => rfl); (case hg => rfl); (case hr => first | (go_simp; done) | (go_simp; rfl)); intro gb415 hg w3 hbox hb; have n0_ := Aside0.mk (below_step (by repeat (first | (with_reducible first | exact HB.out | apply below_alloc | apply pw_below_drewN | apply below_drew1) | exact HB.out)) hb); have n1_ := Aside0.mk (hbox); have n2_ := Aside0.mk ((by rw [hg]; exact (below_size (by repeat (first | (with_reducible first | exact HB.out | apply below_alloc | apply pw_below_drewN | apply below_drew1) | exact HB.out))) : w.heap.size ≤ gb415)); have n3_ := Aside0.mk ((by rw [hg]; exact (below_size (by repeat (first | (with_reducible first | exact HB.out | apply below_alloc | apply pw_below_drewN | apply below_drew1) | exact HB.out))) : w.heap.size ≤ gb415)); clear HB; have HB := n0_; have BK415 := n1_; have GW415 := n2_; have GE415 := n3_; clear n0_ n1_ n2_ n3_; clear hb hbox hg) | ((with_reducible refine gate_dst (N := 2) rfl ?_); refine box_event ?hg (N := 2) ?hd (cs := #[.int .i64 0, .bool false]) (t := 26) ?hr ?_; (case hd => rfl); (case hg => rfl); (case hr => first | (go_simp; done) | (go_simp; rfl)); intro gb416 hg w4 hbox hb; have n0_ := Aside0.mk (blk_below (g := gb415) (o := .cells #[.int .i64 a0_0, .bool a0_1] 26 (0, 0)) (by (with_reducible repeat (first | refine blk_drewN ?_ _ | refine blk_drew ?_ | refine blk_alloc ?_ _)); exact BK415.out) hb); have n1_ := Aside0.mk (below_step (by repeat (first | (with_reducible first | exact HB.out | apply below_alloc | apply pw_below_drewN | apply below_drew1 | refine below_set ?_ GE415.out) | exact HB.out)) hb); have n2_ := Aside0.mk (hbox); have n3_ := Aside0.mk ((by rw [hg]; exact (below_size (by repeat (first | (with_reducible first | exact HB.out | apply below_alloc | apply pw_below_drewN | apply below_drew1 | refine below_set ?_ GE415.out) | exact HB.out))) : w.heap.size ≤ gb416)); have n4_ := Aside0.mk ((by rw [hg]; exact (below_size (by repeat (first | (with_reducible first | exact HB.out | apply below_alloc | apply pw_below_drewN | apply below_drew1 | refine below_set ?_ GE415.out) | exact HB.out))) : w.heap.size ≤ gb416)); have n5_ := Aside0.mk ((by rw [hg]; exact Nat.ne_of_lt (blk_lt (g := gb415) (o := .cells #[.int .i64 a0_0, .bool a0_1] 26 (0, 0)) (by (with_reducible repeat (first | refine blk_drewN ?_ _ | refine blk_drew ?_ | refine blk_alloc ?_ _)); exact BK415.out)) : gb415 ≠ gb416)); have n6_ := Aside0.mk ((by rw [hg]; exact Nat.ne_of_gt (blk_lt (g := gb415) (o := .cells #[.int .i64 a0_0, .bool a0_1] 26 (0, 0)) (by (with_reducible repeat (first | refine blk_drewN ?_ _ | refine blk_drew ?_ | refine blk_alloc ?_ _)); exact BK415.out)) : gb416 ≠ gb415)); clear BK415; clear HB; have BK415 := n0_; have HB := n1_; have BK416 := n2_; have GW416 := n3_; have GE416 := n4_; have NB415_416 := n5_; have NB416_415 := n6_; clear n0_ n1_ n2_ n3_ n4_ n5_ n6_; clear hb hbox hg; have hnb5 := NB415_416.out; have hnc5 := NB416_415.out; have hcz6_0 : w4.cell? ⟨gb415, 0, none⟩ = some (.int .i64 a0_0) := (blk_cell BK415.out 0).trans rfl; have hcz6_1 : w4.cell? ⟨gb415, 1, none⟩ = some (.bool a0_1) := (blk_cell BK415.out 1).trans rfl; have hfz6_0 := blk_frozen BK415.out 0; have hfz6_1 := blk_frozen BK415.out 1; have hcz7_0 : w4.cell? ⟨gb416, 0, none⟩ = some (.int .i64 0) := (blk_cell BK416.out 0).trans rfl; have hcz7_1 : w4.cell? ⟨gb416, 1, none⟩ = some (.bool false) := (blk_cell BK416.out 1).trans rfl; have hfz7_0 := blk_frozen BK416.out 0; have hfz7_1 := blk_frozen BK416.out 1))
  refine bodyPost_ret (results_cell_row rfl _ _ gb416 26 #[.int .i64 32, .bool true] (0, 0) _ rfl (by (with_reducible repeat (first | refine blk_drewN ?_ _ | refine blk_drew ?_ | refine blk_alloc ?_ _)); refine blk_put (cs := #[.int .i64 32, .bool false]) ?_ 1 _ rfl; (with_reducible repeat (first | refine blk_drewN ?_ _ | refine blk_drew ?_ | refine blk_alloc ?_ _)); refine blk_put (cs := #[.int .i64 0, .bool false]) ?_ 0 _ rfl; (with_reducible repeat (first | refine blk_drewN ?_ _ | refine blk_drew ?_ | refine blk_alloc ?_ _)); exact BK416.out) Tryd.underlying26 rfl (by kernel_rfl)) rfl ?_
  exact ⟨by first | rfl | (simp [errW_none, errW_some] <;> rfl) | (simp [*, errW_none, errW_some] <;> rfl), by repeat (first | (with_reducible first | exact HB.out | apply below_alloc | apply pw_below_drewN | apply below_drew1 | refine below_set ?_ GE415.out | refine below_set ?_ GE416.out) | exact HB.out)⟩
 ·
  rw [if_neg c2] at H
  have c2b0 : decide (a0_0 < 32) = false := decide_eq_false c2
  clear c2
  simp only [Option.some.injEq, Prod.mk.injEq] at H
  obtain ⟨rfl, rfl⟩ := H
  go_enter Tryd.func28, Tryd.ntmps28
  go_wp2_with (first | ((with_reducible refine gate_dst (N := 1) rfl ?_); refine box_event ?hg (N := 1) ?hd (cs := #[.int .i64 a0_0, .bool a0_1]) (t := 26) ?hr ?_; (case hd => rfl); (case hg => rfl); (case hr => first | (go_simp; done) | (go_simp; rfl)); intro gb415 hg w8 hbox hb; have n0_ := Aside0.mk (below_step (by repeat (first | (with_reducible first | exact HB.out | apply below_alloc | apply pw_below_drewN | apply below_drew1) | exact HB.out)) hb); have n1_ := Aside0.mk (hbox); have n2_ := Aside0.mk ((by rw [hg]; exact (below_size (by repeat (first | (with_reducible first | exact HB.out | apply below_alloc | apply pw_below_drewN | apply below_drew1) | exact HB.out))) : w.heap.size ≤ gb415)); have n3_ := Aside0.mk ((by rw [hg]; exact (below_size (by repeat (first | (with_reducible first | exact HB.out | apply below_alloc | apply pw_below_drewN | apply below_drew1) | exact HB.out))) : w.heap.size ≤ gb415)); clear HB; have HB := n0_; have BK415 := n1_; have GW415 := n2_; have GE415 := n3_; clear n0_ n1_ n2_ n3_; clear hb hbox hg) | ((with_reducible refine gate_dst (N := 2) rfl ?_); refine box_event ?hg (N := 2) ?hd (cs := #[.int .i64 0, .bool false]) (t := 26) ?hr ?_; (case hd => rfl); (case hg => rfl); (case hr => first | (go_simp; done) | (go_simp; rfl)); intro gb416 hg w9 hbox hb; have n0_ := Aside0.mk (blk_below (g := gb415) (o := .cells #[.int .i64 a0_0, .bool a0_1] 26 (0, 0)) (by (with_reducible repeat (first | refine blk_drewN ?_ _ | refine blk_drew ?_ | refine blk_alloc ?_ _)); exact BK415.out) hb); have n1_ := Aside0.mk (below_step (by repeat (first | (with_reducible first | exact HB.out | apply below_alloc | apply pw_below_drewN | apply below_drew1 | refine below_set ?_ GE415.out) | exact HB.out)) hb); have n2_ := Aside0.mk (hbox); have n3_ := Aside0.mk ((by rw [hg]; exact (below_size (by repeat (first | (with_reducible first | exact HB.out | apply below_alloc | apply pw_below_drewN | apply below_drew1 | refine below_set ?_ GE415.out) | exact HB.out))) : w.heap.size ≤ gb416)); have n4_ := Aside0.mk ((by rw [hg]; exact (below_size (by repeat (first | (with_reducible first | exact HB.out | apply below_alloc | apply pw_below_drewN | apply below_drew1 | refine below_set ?_ GE415.out) | exact HB.out))) : w.heap.size ≤ gb416)); have n5_ := Aside0.mk ((by rw [hg]; exact Nat.ne_of_lt (blk_lt (g := gb415) (o := .cells #[.int .i64 a0_0, .bool a0_1] 26 (0, 0)) (by (with_reducible repeat (first | refine blk_drewN ?_ _ | refine blk_drew ?_ | refine blk_alloc ?_ _)); exact BK415.out)) : gb415 ≠ gb416)); have n6_ := Aside0.mk ((by rw [hg]; exact Nat.ne_of_gt (blk_lt (g := gb415) (o := .cells #[.int .i64 a0_0, .bool a0_1] 26 (0, 0)) (by (with_reducible repeat (first | refine blk_drewN ?_ _ | refine blk_drew ?_ | refine blk_alloc ?_ _)); exact BK415.out)) : gb416 ≠ gb415)); clear BK415; clear HB; have BK415 := n0_; have HB := n1_; have BK416 := n2_; have GW416 := n3_; have GE416 := n4_; have NB415_416 := n5_; have NB416_415 := n6_; clear n0_ n1_ n2_ n3_ n4_ n5_ n6_; clear hb hbox hg; have hnb10 := NB415_416.out; have hnc10 := NB416_415.out; have hcz11_0 : w9.cell? ⟨gb415, 0, none⟩ = some (.int .i64 a0_0) := (blk_cell BK415.out 0).trans rfl; have hcz11_1 : w9.cell? ⟨gb415, 1, none⟩ = some (.bool a0_1) := (blk_cell BK415.out 1).trans rfl; have hfz11_0 := blk_frozen BK415.out 0; have hfz11_1 := blk_frozen BK415.out 1; have hcz12_0 : w9.cell? ⟨gb416, 0, none⟩ = some (.int .i64 0) := (blk_cell BK416.out 0).trans rfl; have hcz12_1 : w9.cell? ⟨gb416, 1, none⟩ = some (.bool false) := (blk_cell BK416.out 1).trans rfl; have hfz12_0 := blk_frozen BK416.out 0; have hfz12_1 := blk_frozen BK416.out 1))
  refine bodyPost_ret (results_cell_row rfl _ _ gb416 26 #[.int .i64 a0_0, .bool a0_1] (0, 0) _ rfl (by (with_reducible repeat (first | refine blk_drewN ?_ _ | refine blk_drew ?_ | refine blk_alloc ?_ _)); refine blk_put (cs := #[.int .i64 a0_0, .bool false]) ?_ 1 _ rfl; (with_reducible repeat (first | refine blk_drewN ?_ _ | refine blk_drew ?_ | refine blk_alloc ?_ _)); refine blk_put (cs := #[.int .i64 0, .bool false]) ?_ 0 _ rfl; (with_reducible repeat (first | refine blk_drewN ?_ _ | refine blk_drew ?_ | refine blk_alloc ?_ _)); exact BK416.out) Tryd.underlying26 rfl (by kernel_rfl)) rfl ?_
  exact ⟨by first | rfl | (simp [errW_none, errW_some] <;> rfl) | (simp [*, errW_none, errW_some] <;> rfl), by repeat (first | (with_reducible first | exact HB.out | apply below_alloc | apply pw_below_drewN | apply below_drew1 | refine below_set ?_ GE415.out | refine below_set ?_ GE416.out) | exact HB.out)⟩

end Go.Proofs.YthkcdmkimnockaaDoor.PWord
