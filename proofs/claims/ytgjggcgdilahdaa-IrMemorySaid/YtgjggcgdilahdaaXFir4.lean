/- A part of the proof: XF_ir_4. -/
import Derived.Test.YtgjggcgdilahdaaXFir0
import Derived.KernelRfl
set_option linter.unusedVariables false
set_option linter.unusedSimpArgs false
set_option linter.constructorNameAsVariable false
set_option linter.unusedVariables false
set_option maxRecDepth 100000
namespace Go.Xe
open Go.RowKit
noncomputable section
noncomputable def plans77 (i : Nat) : Plan := []
noncomputable def T77 (p : Nat) : List Item × List Nat := bif Nat.beq p 0 then ([.code (match Go.Proofs.Try.f77.body with | some c => c | none => .skip)], [0, 1]) else
  bif Nat.beq p 2 then (navs [.op, .op] [.code (match Go.Proofs.Try.f77.body with | some c => c | none => .skip)], [2, 3, 16]) else
  bif Nat.beq p 6 then (navs [.op, .op, .el, .op] [.code (match Go.Proofs.Try.f77.body with | some c => c | none => .skip)], [2, 3, 18, 19, 20]) else
  bif Nat.beq p 15 then (navs [.op, .op, .el, .op, .op, .el, .op] [.code (match Go.Proofs.Try.f77.body with | some c => c | none => .skip)], [2, 3, 7]) else
  bif Nat.beq p 17 then (navs [.op, .op, .el, .op, .op, .el, .op, .op, .op] [.code (match Go.Proofs.Try.f77.body with | some c => c | none => .skip)], [2, 3, 65]) else
  ([], [])
noncomputable def F77_q18 (D J : Disp) (S : St) (S300 : St) (S301 : St) (c309 : Bool) (K : AV → St → Prop) : Prop :=
 ifK c309
 (J 2 [(AV.one (V1.s (SV.ptr (PV.mk (Bk.new (St.next S)) 0)))), (AV.one (V1.s (SV.ptr (PV.mk (Bk.new (St.next S300)) 0)))), (AV.one (V1.s (SV.bool Bool.true)))] S301 K)
 (St.at S301 (Bk.new (St.next S300)) 0 fun y310 =>
 uncK y310 fun v311 y312 =>
 SV.cI IntKind.i64 v311 fun x316 =>
 letK (α := Bool) ((ile (22 : Int) x316)) fun c317 =>
 J 2 [(AV.one (V1.s (SV.ptr (PV.mk (Bk.new (St.next S)) 0)))), (AV.one (V1.s (SV.ptr (PV.mk (Bk.new (St.next S300)) 0)))), (AV.one (V1.s (SV.bool c317)))] S301 K)
noncomputable def F77_q19 (D J : Disp) (S : St) (x1_0 : Int) (x1_1 : Int) (x1_2 : Int) (x1_3 : Int) (x1_4 : Int) (x1_5 : Int) (x1_6 : Int) (c1_7 : Bool) (l1_8 : LV) (l1_9 : LV) (l1_10 : LV) (S300 : St) (K : AV → St → Prop) : Prop :=
 letK (α := St) ((St.add S300 (AO.cells [(SV.int IntKind.i64 x1_0), (SV.int IntKind.i64 x1_1), (SV.int IntKind.i64 x1_2), (SV.int IntKind.i64 x1_3), (SV.int IntKind.i64 x1_4), (SV.int IntKind.i64 x1_5), (SV.int IntKind.i64 x1_6), (SV.bool c1_7), (SV.sl l1_8), (SV.sl l1_9), (SV.sl l1_10)] (Op2.ty 27)))) fun S301 =>
 St.at S301 (Bk.new (St.next S300)) 0 fun y302 =>
 uncK y302 fun v303 y304 =>
 SV.cI IntKind.i64 v303 fun x308 =>
 letK (α := Bool) ((ile x308 (0 : Int))) fun c309 =>
 F77_q18 D J S S300 S301 c309 K
noncomputable def F77_0 (D J : Disp) (s0_0 : (List Nat)) (x0_1 : Int) (x0_2 : Int) (l0_3 : LV) (l0_4 : LV) (c0_5 : Bool) (x1_0 : Int) (x1_1 : Int) (x1_2 : Int) (x1_3 : Int) (x1_4 : Int) (x1_5 : Int) (x1_6 : Int) (c1_7 : Bool) (l1_8 : LV) (l1_9 : LV) (l1_10 : LV) (S : St) (K : AV → St → Prop) : Prop :=
 letK (α := St) ((St.add S (AO.cells [(SV.str s0_0), (SV.int IntKind.i64 x0_1), (SV.int IntKind.i64 x0_2), (SV.sl l0_3), (SV.sl l0_4), (SV.bool c0_5)] (Op2.ty 42)))) fun S300 =>
 F77_q19 D J S x1_0 x1_1 x1_2 x1_3 x1_4 x1_5 x1_6 c1_7 l1_8 l1_9 l1_10 S300 K
noncomputable def X77_0 : X := (.op (.op (.jmp 2 [2, 3, 16])))
theorem F77_0_eq (D J : Disp) (s0_0 : (List Nat)) (x0_1 : Int) (x0_2 : Int) (l0_3 : LV) (l0_4 : LV) (c0_5 : Bool) (x1_0 : Int) (x1_1 : Int) (x1_2 : Int) (x1_3 : Int) (x1_4 : Int) (x1_5 : Int) (x1_6 : Int) (c1_7 : Bool) (l1_8 : LV) (l1_9 : LV) (l1_10 : LV) (S : St) (K : AV → St → Prop) : F77_0 D J s0_0 x0_1 x0_2 l0_3 l0_4 c0_5 x1_0 x1_1 x1_2 x1_3 x1_4 x1_5 x1_6 c1_7 l1_8 l1_9 l1_10 S K = execK IrP IrG Go.Proofs.Try.f77 (typed IrP D) J plans77 X77_0 (T77 0).1 (envOf (T77 0).2 [(AV.one (V1.agg [(SV.str s0_0), (SV.int IntKind.i64 x0_1), (SV.int IntKind.i64 x0_2), (SV.sl l0_3), (SV.sl l0_4), (SV.bool c0_5)])), (AV.one (V1.agg [(SV.int IntKind.i64 x1_0), (SV.int IntKind.i64 x1_1), (SV.int IntKind.i64 x1_2), (SV.int IntKind.i64 x1_3), (SV.int IntKind.i64 x1_4), (SV.int IntKind.i64 x1_5), (SV.int IntKind.i64 x1_6), (SV.bool c1_7), (SV.sl l1_8), (SV.sl l1_9), (SV.sl l1_10)]))]) S K := by kernel_rfl
noncomputable def F77_q20 (D J : Disp) (S : St) (p2 : PV) (p3 : PV) (x308 : Int) (x314 : Int) (x320 : Int) (x326 : Int) (x332 : Int) (x338 : Int) (x344 : Int) (y348 : Bool) (y357 : LV) (y366 : LV) (y375 : LV) (K : AV → St → Prop) : Prop :=
 D 9 [(AV.one (V1.agg [(SV.int IntKind.i64 x308), (SV.int IntKind.i64 x314), (SV.int IntKind.i64 x320), (SV.int IntKind.i64 x326), (SV.int IntKind.i64 x332), (SV.int IntKind.i64 x338), (SV.int IntKind.i64 x344), (SV.bool y348), (SV.sl y357), (SV.sl y366), (SV.sl y375)]))] S fun v376 S377 =>
 scK v376 fun v379 =>
 SV.cL v379 fun y385 =>
 letK (α := Int) ((Int.ofNat (LV.len y385))) fun x386 =>
 J 6 [(AV.one (V1.s (SV.ptr p2))), (AV.one (V1.s (SV.ptr p3))), (AV.one (V1.s (SV.sl y385))), (AV.one (V1.s (SV.int IntKind.i64 x386))), (AV.one (V1.s (SV.int IntKind.i64 (0 : Int))))] S377 K
noncomputable def F77_q21 (D J : Disp) (S : St) (p2 : PV) (p3 : PV) (K : AV → St → Prop) : Prop :=
 PV.cs p3 fun b300 n301 =>
 St.at S b300 n301 fun y302 =>
 uncK y302 fun v303 y304 =>
 SV.cI IntKind.i64 v303 fun x308 =>
 uncK y304 fun v309 y310 =>
 SV.cI IntKind.i64 v309 fun x314 =>
 uncK y310 fun v315 y316 =>
 SV.cI IntKind.i64 v315 fun x320 =>
 uncK y316 fun v321 y322 =>
 SV.cI IntKind.i64 v321 fun x326 =>
 uncK y322 fun v327 y328 =>
 SV.cI IntKind.i64 v327 fun x332 =>
 uncK y328 fun v333 y334 =>
 SV.cI IntKind.i64 v333 fun x338 =>
 uncK y334 fun v339 y340 =>
 SV.cI IntKind.i64 v339 fun x344 =>
 uncK y340 fun v345 y346 =>
 SV.cB v345 fun y348 =>
 uncK y346 fun v349 y350 =>
 SV.cL v349 fun y357 =>
 uncK y350 fun v358 y359 =>
 SV.cL v358 fun y366 =>
 uncK y359 fun v367 y368 =>
 SV.cL v367 fun y375 =>
 F77_q20 D J S p2 p3 x308 x314 x320 x326 x332 x338 x344 y348 y357 y366 y375 K
noncomputable def F77_2 (D J : Disp) (p2 : PV) (p3 : PV) (c16 : Bool) (S : St) (K : AV → St → Prop) : Prop :=
 ifK c16
 (K ((AV.one (V1.s (SV.bool Bool.false)))) S)
 (F77_q21 D J S p2 p3 K)
noncomputable def X77_2 : X := (.br (.op .ret) (.op (.jmp 6 [2, 3, 18, 19, 20])))
theorem F77_2_eq (D J : Disp) (p2 : PV) (p3 : PV) (c16 : Bool) (S : St) (K : AV → St → Prop) : F77_2 D J p2 p3 c16 S K = execK IrP IrG Go.Proofs.Try.f77 (typed IrP D) J plans77 X77_2 (T77 2).1 (envOf (T77 2).2 [(AV.one (V1.s (SV.ptr p2))), (AV.one (V1.s (SV.ptr p3))), (AV.one (V1.s (SV.bool c16)))]) S K := by kernel_rfl
noncomputable def F77_q22 (D J : Disp) (S : St) (p2 : PV) (p3 : PV) (l18 : LV) (x19 : Int) (x20 : Int) (x312 : Int) (x322 : Int) (K : AV → St → Prop) : Prop :=
 D 45 [(AV.one (V1.s (SV.int IntKind.i64 x312))), (AV.one (V1.s (SV.int IntKind.i64 x322)))] S fun v323 S324 =>
 scK v323 fun v326 =>
 SV.cB v326 fun y327 =>
 letK (α := Bool) ((Bool.not y327)) fun c328 =>
 ifK c328
 (K ((AV.one (V1.s (SV.bool Bool.false)))) S324)
 (letK (α := Int) ((iwrap IntKind.i64 (x20 + (1 : Int)))) fun x329 =>
 J 6 [(AV.one (V1.s (SV.ptr p2))), (AV.one (V1.s (SV.ptr p3))), (AV.one (V1.s (SV.sl l18))), (AV.one (V1.s (SV.int IntKind.i64 x19))), (AV.one (V1.s (SV.int IntKind.i64 x329)))] S324 K)
noncomputable def F77_q23 (D J : Disp) (S : St) (p2 : PV) (p3 : PV) (l18 : LV) (x19 : Int) (x20 : Int) (K : AV → St → Prop) : Prop :=
 LV.cs l18 fun b301 n302 n303 y304 =>
 req (Bool.and (ile (0 : Int) x20) (ilt x20 (Int.ofNat n303))) <|
 letK (α := Nat) ((n302 + ((Int.toNat x20) * 1))) fun n305 =>
 St.at S b301 n305 fun y306 =>
 uncK y306 fun v307 y308 =>
 SV.cI IntKind.i64 v307 fun x312 =>
 PV.cs p2 fun b313 n314 =>
 letK (α := Nat) ((n314 + 2)) fun n315 =>
 St.at S b313 n315 fun y316 =>
 uncK y316 fun v317 y318 =>
 SV.cI IntKind.i64 v317 fun x322 =>
 F77_q22 D J S p2 p3 l18 x19 x20 x312 x322 K
noncomputable def F77_q24 (D J : Disp) (S : St) (p2 : PV) (p3 : PV) (x358 : Int) (K : AV → St → Prop) : Prop :=
 letK (α := Bool) ((ieq x358 (10 : Int))) fun c359 =>
 ifK c359
 (J 15 [(AV.one (V1.s (SV.ptr p2))), (AV.one (V1.s (SV.ptr p3))), (AV.one (V1.s (SV.bool Bool.true)))] S K)
 (PV.cs p3 fun b360 n361 =>
 letK (α := Nat) ((n361 + 0)) fun n362 =>
 St.at S b360 n362 fun y363 =>
 uncK y363 fun v364 y365 =>
 SV.cI IntKind.i64 v364 fun x369 =>
 letK (α := Bool) ((ieq x369 (11 : Int))) fun c370 =>
 J 15 [(AV.one (V1.s (SV.ptr p2))), (AV.one (V1.s (SV.ptr p3))), (AV.one (V1.s (SV.bool c370)))] S K)
noncomputable def F77_6 (D J : Disp) (p2 : PV) (p3 : PV) (l18 : LV) (x19 : Int) (x20 : Int) (S : St) (K : AV → St → Prop) : Prop :=
 letK (α := Bool) ((ilt x20 x19)) fun c300 =>
 ifK c300
 (F77_q23 D J S p2 p3 l18 x19 x20 K)
 (PV.cs p3 fun b349 n350 =>
 letK (α := Nat) ((n350 + 0)) fun n351 =>
 St.at S b349 n351 fun y352 =>
 uncK y352 fun v353 y354 =>
 SV.cI IntKind.i64 v353 fun x358 =>
 F77_q24 D J S p2 p3 x358 K)
noncomputable def X77_6 : X := (.op (.br (.op (.op (.br (.op .ret) (.op (.jmp 6 [2, 3, 18, 19, 20]))))) (.op (.jmp 15 [2, 3, 7]))))
theorem F77_6_eq (D J : Disp) (p2 : PV) (p3 : PV) (l18 : LV) (x19 : Int) (x20 : Int) (S : St) (K : AV → St → Prop) : F77_6 D J p2 p3 l18 x19 x20 S K = execK IrP IrG Go.Proofs.Try.f77 (typed IrP D) J plans77 X77_6 (T77 6).1 (envOf (T77 6).2 [(AV.one (V1.s (SV.ptr p2))), (AV.one (V1.s (SV.ptr p3))), (AV.one (V1.s (SV.sl l18))), (AV.one (V1.s (SV.int IntKind.i64 x19))), (AV.one (V1.s (SV.int IntKind.i64 x20)))]) S K := by kernel_rfl
noncomputable def F77_q25 (D J : Disp) (p2 : PV) (p3 : PV) (S395 : St) (x421 : Int) (x427 : Int) (x433 : Int) (x439 : Int) (x445 : Int) (x451 : Int) (x457 : Int) (y461 : Bool) (y470 : LV) (y479 : LV) (y488 : LV) (K : AV → St → Prop) : Prop :=
 D 73 [(AV.one (V1.agg [(SV.int IntKind.i64 x421), (SV.int IntKind.i64 x427), (SV.int IntKind.i64 x433), (SV.int IntKind.i64 x439), (SV.int IntKind.i64 x445), (SV.int IntKind.i64 x451), (SV.int IntKind.i64 x457), (SV.bool y461), (SV.sl y470), (SV.sl y479), (SV.sl y488)]))] S395 fun v489 S490 =>
 scK v489 fun v492 =>
 SV.cB v492 fun y493 =>
 J 17 [(AV.one (V1.s (SV.ptr p2))), (AV.one (V1.s (SV.ptr p3))), (AV.one (V1.s (SV.bool y493)))] S490 K
noncomputable def F77_q26 (D J : Disp) (p2 : PV) (p3 : PV) (S395 : St) (c412 : Bool) (K : AV → St → Prop) : Prop :=
 ifK c412
 (PV.cs p3 fun b413 n414 =>
 St.at S395 b413 n414 fun y415 =>
 uncK y415 fun v416 y417 =>
 SV.cI IntKind.i64 v416 fun x421 =>
 uncK y417 fun v422 y423 =>
 SV.cI IntKind.i64 v422 fun x427 =>
 uncK y423 fun v428 y429 =>
 SV.cI IntKind.i64 v428 fun x433 =>
 uncK y429 fun v434 y435 =>
 SV.cI IntKind.i64 v434 fun x439 =>
 uncK y435 fun v440 y441 =>
 SV.cI IntKind.i64 v440 fun x445 =>
 uncK y441 fun v446 y447 =>
 SV.cI IntKind.i64 v446 fun x451 =>
 uncK y447 fun v452 y453 =>
 SV.cI IntKind.i64 v452 fun x457 =>
 uncK y453 fun v458 y459 =>
 SV.cB v458 fun y461 =>
 uncK y459 fun v462 y463 =>
 SV.cL v462 fun y470 =>
 uncK y463 fun v471 y472 =>
 SV.cL v471 fun y479 =>
 uncK y472 fun v480 y481 =>
 SV.cL v480 fun y488 =>
 F77_q25 D J p2 p3 S395 x421 x427 x433 x439 x445 x451 x457 y461 y470 y479 y488 K)
 (J 17 [(AV.one (V1.s (SV.ptr p2))), (AV.one (V1.s (SV.ptr p3))), (AV.one (V1.s (SV.bool Bool.false)))] S395 K)
noncomputable def F77_q27 (D J : Disp) (p2 : PV) (p3 : PV) (c7 : Bool) (S395 : St) (c400 : Bool) (K : AV → St → Prop) : Prop :=
 ifK c400
 (PV.cs p3 fun b401 n402 =>
 letK (α := Nat) ((n402 + 2)) fun n403 =>
 St.at S395 b401 n403 fun y404 =>
 uncK y404 fun v405 y406 =>
 SV.cI IntKind.i64 v405 fun x410 =>
 letK (α := Bool) ((ieq x410 (Int.negSucc 0))) fun c411 =>
 ifK c411
 (letK (α := Bool) ((Bool.not c7)) fun c412 =>
 F77_q26 D J p2 p3 S395 c412 K)
 (J 17 [(AV.one (V1.s (SV.ptr p2))), (AV.one (V1.s (SV.ptr p3))), (AV.one (V1.s (SV.bool Bool.false)))] S395 K))
 (J 17 [(AV.one (V1.s (SV.ptr p2))), (AV.one (V1.s (SV.ptr p3))), (AV.one (V1.s (SV.bool Bool.false)))] S395 K)
noncomputable def F77_q28 (D J : Disp) (p2 : PV) (p3 : PV) (c7 : Bool) (S377 : St) (x382 : Int) (b384 : Bk) (n386 : Nat) (K : AV → St → Prop) : Prop :=
 St.at S377 b384 n386 fun y387 =>
 uncK y387 fun v388 y389 =>
 SV.cI IntKind.i64 v388 fun x393 =>
 D 45 [(AV.one (V1.s (SV.int IntKind.i64 x382))), (AV.one (V1.s (SV.int IntKind.i64 x393)))] S377 fun v394 S395 =>
 scK v394 fun v397 =>
 SV.cB v397 fun y398 =>
 letK (α := Bool) ((Bool.not y398)) fun c399 =>
 ifK c399
 (J 17 [(AV.one (V1.s (SV.ptr p2))), (AV.one (V1.s (SV.ptr p3))), (AV.one (V1.s (SV.bool Bool.true)))] S395 K)
 (letK (α := Bool) ((ieq x382 (Int.negSucc 0))) fun c400 =>
 F77_q27 D J p2 p3 c7 S395 c400 K)
noncomputable def F77_q29 (D J : Disp) (p2 : PV) (p3 : PV) (S377 : St) (x591 : Int) (x597 : Int) (x603 : Int) (x609 : Int) (x615 : Int) (x621 : Int) (x627 : Int) (y631 : Bool) (y640 : LV) (y649 : LV) (y658 : LV) (K : AV → St → Prop) : Prop :=
 D 73 [(AV.one (V1.agg [(SV.int IntKind.i64 x591), (SV.int IntKind.i64 x597), (SV.int IntKind.i64 x603), (SV.int IntKind.i64 x609), (SV.int IntKind.i64 x615), (SV.int IntKind.i64 x621), (SV.int IntKind.i64 x627), (SV.bool y631), (SV.sl y640), (SV.sl y649), (SV.sl y658)]))] S377 fun v659 S660 =>
 scK v659 fun v662 =>
 SV.cB v662 fun y663 =>
 J 17 [(AV.one (V1.s (SV.ptr p2))), (AV.one (V1.s (SV.ptr p3))), (AV.one (V1.s (SV.bool y663)))] S660 K
noncomputable def F77_q30 (D J : Disp) (p2 : PV) (p3 : PV) (S377 : St) (c582 : Bool) (K : AV → St → Prop) : Prop :=
 ifK c582
 (PV.cs p3 fun b583 n584 =>
 St.at S377 b583 n584 fun y585 =>
 uncK y585 fun v586 y587 =>
 SV.cI IntKind.i64 v586 fun x591 =>
 uncK y587 fun v592 y593 =>
 SV.cI IntKind.i64 v592 fun x597 =>
 uncK y593 fun v598 y599 =>
 SV.cI IntKind.i64 v598 fun x603 =>
 uncK y599 fun v604 y605 =>
 SV.cI IntKind.i64 v604 fun x609 =>
 uncK y605 fun v610 y611 =>
 SV.cI IntKind.i64 v610 fun x615 =>
 uncK y611 fun v616 y617 =>
 SV.cI IntKind.i64 v616 fun x621 =>
 uncK y617 fun v622 y623 =>
 SV.cI IntKind.i64 v622 fun x627 =>
 uncK y623 fun v628 y629 =>
 SV.cB v628 fun y631 =>
 uncK y629 fun v632 y633 =>
 SV.cL v632 fun y640 =>
 uncK y633 fun v641 y642 =>
 SV.cL v641 fun y649 =>
 uncK y642 fun v650 y651 =>
 SV.cL v650 fun y658 =>
 F77_q29 D J p2 p3 S377 x591 x597 x603 x609 x615 x621 x627 y631 y640 y649 y658 K)
 (J 17 [(AV.one (V1.s (SV.ptr p2))), (AV.one (V1.s (SV.ptr p3))), (AV.one (V1.s (SV.bool Bool.false)))] S377 K)
noncomputable def F77_q31 (D J : Disp) (p2 : PV) (p3 : PV) (c7 : Bool) (S377 : St) (c570 : Bool) (K : AV → St → Prop) : Prop :=
 ifK c570
 (PV.cs p3 fun b571 n572 =>
 letK (α := Nat) ((n572 + 2)) fun n573 =>
 St.at S377 b571 n573 fun y574 =>
 uncK y574 fun v575 y576 =>
 SV.cI IntKind.i64 v575 fun x580 =>
 letK (α := Bool) ((ieq x580 (Int.negSucc 0))) fun c581 =>
 ifK c581
 (letK (α := Bool) ((Bool.not c7)) fun c582 =>
 F77_q30 D J p2 p3 S377 c582 K)
 (J 17 [(AV.one (V1.s (SV.ptr p2))), (AV.one (V1.s (SV.ptr p3))), (AV.one (V1.s (SV.bool Bool.false)))] S377 K))
 (J 17 [(AV.one (V1.s (SV.ptr p2))), (AV.one (V1.s (SV.ptr p3))), (AV.one (V1.s (SV.bool Bool.false)))] S377 K)
noncomputable def F77_q32 (D J : Disp) (S : St) (p2 : PV) (p3 : PV) (c7 : Bool) (x308 : Int) (x314 : Int) (x320 : Int) (x326 : Int) (x332 : Int) (x338 : Int) (x344 : Int) (y348 : Bool) (y357 : LV) (y366 : LV) (y375 : LV) (K : AV → St → Prop) : Prop :=
 D 81 [(AV.one (V1.agg [(SV.int IntKind.i64 x308), (SV.int IntKind.i64 x314), (SV.int IntKind.i64 x320), (SV.int IntKind.i64 x326), (SV.int IntKind.i64 x332), (SV.int IntKind.i64 x338), (SV.int IntKind.i64 x344), (SV.bool y348), (SV.sl y357), (SV.sl y366), (SV.sl y375)]))] S fun v376 S377 =>
 scK v376 fun v379 =>
 SV.cI IntKind.i64 v379 fun x382 =>
 letK (α := Bool) ((Bool.not (ieq x382 (Int.negSucc 0)))) fun c383 =>
 ifK c383
 (PV.cs p2 fun b384 n385 =>
 letK (α := Nat) ((n385 + 2)) fun n386 =>
 F77_q28 D J p2 p3 c7 S377 x382 b384 n386 K)
 (letK (α := Bool) ((ieq x382 (Int.negSucc 0))) fun c570 =>
 F77_q31 D J p2 p3 c7 S377 c570 K)
noncomputable def F77_15 (D J : Disp) (p2 : PV) (p3 : PV) (c7 : Bool) (S : St) (K : AV → St → Prop) : Prop :=
 PV.cs p3 fun b300 n301 =>
 St.at S b300 n301 fun y302 =>
 uncK y302 fun v303 y304 =>
 SV.cI IntKind.i64 v303 fun x308 =>
 uncK y304 fun v309 y310 =>
 SV.cI IntKind.i64 v309 fun x314 =>
 uncK y310 fun v315 y316 =>
 SV.cI IntKind.i64 v315 fun x320 =>
 uncK y316 fun v321 y322 =>
 SV.cI IntKind.i64 v321 fun x326 =>
 uncK y322 fun v327 y328 =>
 SV.cI IntKind.i64 v327 fun x332 =>
 uncK y328 fun v333 y334 =>
 SV.cI IntKind.i64 v333 fun x338 =>
 uncK y334 fun v339 y340 =>
 SV.cI IntKind.i64 v339 fun x344 =>
 uncK y340 fun v345 y346 =>
 SV.cB v345 fun y348 =>
 uncK y346 fun v349 y350 =>
 SV.cL v349 fun y357 =>
 uncK y350 fun v358 y359 =>
 SV.cL v358 fun y366 =>
 uncK y359 fun v367 y368 =>
 SV.cL v367 fun y375 =>
 F77_q32 D J S p2 p3 c7 x308 x314 x320 x326 x332 x338 x344 y348 y357 y366 y375 K
noncomputable def X77_15 : X := (.op (.op (.jmp 17 [2, 3, 65])))
theorem F77_15_eq (D J : Disp) (p2 : PV) (p3 : PV) (c7 : Bool) (S : St) (K : AV → St → Prop) : F77_15 D J p2 p3 c7 S K = execK IrP IrG Go.Proofs.Try.f77 (typed IrP D) J plans77 X77_15 (T77 15).1 (envOf (T77 15).2 [(AV.one (V1.s (SV.ptr p2))), (AV.one (V1.s (SV.ptr p3))), (AV.one (V1.s (SV.bool c7)))]) S K := by kernel_rfl
noncomputable def F77_q33 (D J : Disp) (S : St) (y309 : (List Nat)) (x315 : Int) (x321 : Int) (y330 : LV) (y339 : LV) (y343 : Bool) (x352 : Int) (x358 : Int) (x364 : Int) (x370 : Int) (x376 : Int) (x382 : Int) (x388 : Int) (y392 : Bool) (y401 : LV) (y410 : LV) (y419 : LV) (K : AV → St → Prop) : Prop :=
 D 88 [(AV.one (V1.agg [(SV.str y309), (SV.int IntKind.i64 x315), (SV.int IntKind.i64 x321), (SV.sl y330), (SV.sl y339), (SV.bool y343)])), (AV.one (V1.agg [(SV.int IntKind.i64 x352), (SV.int IntKind.i64 x358), (SV.int IntKind.i64 x364), (SV.int IntKind.i64 x370), (SV.int IntKind.i64 x376), (SV.int IntKind.i64 x382), (SV.int IntKind.i64 x388), (SV.bool y392), (SV.sl y401), (SV.sl y410), (SV.sl y419)]))] S fun v420 S421 =>
 scK v420 fun v423 =>
 SV.cB v423 fun y424 =>
 K ((AV.one (V1.s (SV.bool y424)))) S421
noncomputable def F77_q34 (D J : Disp) (S : St) (p3 : PV) (y309 : (List Nat)) (x315 : Int) (x321 : Int) (y330 : LV) (y339 : LV) (y343 : Bool) (K : AV → St → Prop) : Prop :=
 PV.cs p3 fun b344 n345 =>
 St.at S b344 n345 fun y346 =>
 uncK y346 fun v347 y348 =>
 SV.cI IntKind.i64 v347 fun x352 =>
 uncK y348 fun v353 y354 =>
 SV.cI IntKind.i64 v353 fun x358 =>
 uncK y354 fun v359 y360 =>
 SV.cI IntKind.i64 v359 fun x364 =>
 uncK y360 fun v365 y366 =>
 SV.cI IntKind.i64 v365 fun x370 =>
 uncK y366 fun v371 y372 =>
 SV.cI IntKind.i64 v371 fun x376 =>
 uncK y372 fun v377 y378 =>
 SV.cI IntKind.i64 v377 fun x382 =>
 uncK y378 fun v383 y384 =>
 SV.cI IntKind.i64 v383 fun x388 =>
 uncK y384 fun v389 y390 =>
 SV.cB v389 fun y392 =>
 uncK y390 fun v393 y394 =>
 SV.cL v393 fun y401 =>
 uncK y394 fun v402 y403 =>
 SV.cL v402 fun y410 =>
 uncK y403 fun v411 y412 =>
 SV.cL v411 fun y419 =>
 F77_q33 D J S y309 x315 x321 y330 y339 y343 x352 x358 x364 x370 x376 x382 x388 y392 y401 y410 y419 K
noncomputable def F77_q35 (D J : Disp) (S : St) (p2 : PV) (p3 : PV) (K : AV → St → Prop) : Prop :=
 PV.cs p2 fun b300 n301 =>
 St.at S b300 n301 fun y302 =>
 uncK y302 fun v303 y304 =>
 SV.cS v303 fun y309 =>
 uncK y304 fun v310 y311 =>
 SV.cI IntKind.i64 v310 fun x315 =>
 uncK y311 fun v316 y317 =>
 SV.cI IntKind.i64 v316 fun x321 =>
 uncK y317 fun v322 y323 =>
 SV.cL v322 fun y330 =>
 uncK y323 fun v331 y332 =>
 SV.cL v331 fun y339 =>
 uncK y332 fun v340 y341 =>
 SV.cB v340 fun y343 =>
 F77_q34 D J S p3 y309 x315 x321 y330 y339 y343 K
noncomputable def F77_17 (D J : Disp) (p2 : PV) (p3 : PV) (c65 : Bool) (S : St) (K : AV → St → Prop) : Prop :=
 ifK c65
 (K ((AV.one (V1.s (SV.bool Bool.false)))) S)
 (F77_q35 D J S p2 p3 K)
noncomputable def X77_17 : X := (.br (.op .ret) (.op .ret))
theorem F77_17_eq (D J : Disp) (p2 : PV) (p3 : PV) (c65 : Bool) (S : St) (K : AV → St → Prop) : F77_17 D J p2 p3 c65 S K = execK IrP IrG Go.Proofs.Try.f77 (typed IrP D) J plans77 X77_17 (T77 17).1 (envOf (T77 17).2 [(AV.one (V1.s (SV.ptr p2))), (AV.one (V1.s (SV.ptr p3))), (AV.one (V1.s (SV.bool c65)))]) S K := by kernel_rfl
noncomputable abbrev A77_0 (D J : Disp) (vals : List AV) (S : St) (K : AV → St → Prop) : Prop :=
  uncA vals fun a9001 r9002 => avA a9001 fun l9004 => uncK l9004 fun s9006 r9007 => SV.cS s9006 fun s0_0 => uncK r9007 fun s9010 r9011 => SV.cI IntKind.i64 s9010 fun x0_1 => uncK r9011 fun s9014 r9015 => SV.cI IntKind.i64 s9014 fun x0_2 => uncK r9015 fun s9018 r9019 => SV.cL s9018 fun l0_3 => uncK r9019 fun s9022 r9023 => SV.cL s9022 fun l0_4 => uncK r9023 fun s9026 r9027 => SV.cB s9026 fun c0_5 => endL r9027 <| uncA r9002 fun a9031 r9032 => avA a9031 fun l9034 => uncK l9034 fun s9036 r9037 => SV.cI IntKind.i64 s9036 fun x1_0 => uncK r9037 fun s9040 r9041 => SV.cI IntKind.i64 s9040 fun x1_1 => uncK r9041 fun s9044 r9045 => SV.cI IntKind.i64 s9044 fun x1_2 => uncK r9045 fun s9048 r9049 => SV.cI IntKind.i64 s9048 fun x1_3 => uncK r9049 fun s9052 r9053 => SV.cI IntKind.i64 s9052 fun x1_4 => uncK r9053 fun s9056 r9057 => SV.cI IntKind.i64 s9056 fun x1_5 => uncK r9057 fun s9060 r9061 => SV.cI IntKind.i64 s9060 fun x1_6 => uncK r9061 fun s9064 r9065 => SV.cB s9064 fun c1_7 => uncK r9065 fun s9068 r9069 => SV.cL s9068 fun l1_8 => uncK r9069 fun s9072 r9073 => SV.cL s9072 fun l1_9 => uncK r9073 fun s9076 r9077 => SV.cL s9076 fun l1_10 => endL r9077 <| endL r9032 <| F77_0 D J s0_0 x0_1 x0_2 l0_3 l0_4 c0_5 x1_0 x1_1 x1_2 x1_3 x1_4 x1_5 x1_6 c1_7 l1_8 l1_9 l1_10 S K
theorem A77_0_ok {D J : Disp} (hD : DOK IrP IrG D) (hJ : JOK IrP IrG Go.Proofs.Try.f77 T77 J) {vals : List AV} {S : St} {K : AV → St → Prop} (h0 : A77_0 D J vals S K) : Runs IrP IrG Go.Proofs.Try.f77 (T77 0).1 (envOf (T77 0).2 vals) S K := by
  obtain ⟨a9001, r9002, rfl, h3⟩ := uncA_some h0
  obtain ⟨l9004, rfl, h5⟩ := avA_some h3
  obtain ⟨s9006, r9007, rfl, h8⟩ := uncK_some h5
  obtain ⟨s0_0, rfl, h9⟩ := cS_some h8
  obtain ⟨s9010, r9011, rfl, h12⟩ := uncK_some h9
  obtain ⟨x0_1, rfl, h13⟩ := cI_some h12
  obtain ⟨s9014, r9015, rfl, h16⟩ := uncK_some h13
  obtain ⟨x0_2, rfl, h17⟩ := cI_some h16
  obtain ⟨s9018, r9019, rfl, h20⟩ := uncK_some h17
  obtain ⟨l0_3, rfl, h21⟩ := cL_some h20
  obtain ⟨s9022, r9023, rfl, h24⟩ := uncK_some h21
  obtain ⟨l0_4, rfl, h25⟩ := cL_some h24
  obtain ⟨s9026, r9027, rfl, h28⟩ := uncK_some h25
  obtain ⟨c0_5, rfl, h29⟩ := cB_some h28
  obtain ⟨rfl, h30⟩ := endL_some h29
  obtain ⟨a9031, r9032, rfl, h33⟩ := uncA_some h30
  obtain ⟨l9034, rfl, h35⟩ := avA_some h33
  obtain ⟨s9036, r9037, rfl, h38⟩ := uncK_some h35
  obtain ⟨x1_0, rfl, h39⟩ := cI_some h38
  obtain ⟨s9040, r9041, rfl, h42⟩ := uncK_some h39
  obtain ⟨x1_1, rfl, h43⟩ := cI_some h42
  obtain ⟨s9044, r9045, rfl, h46⟩ := uncK_some h43
  obtain ⟨x1_2, rfl, h47⟩ := cI_some h46
  obtain ⟨s9048, r9049, rfl, h50⟩ := uncK_some h47
  obtain ⟨x1_3, rfl, h51⟩ := cI_some h50
  obtain ⟨s9052, r9053, rfl, h54⟩ := uncK_some h51
  obtain ⟨x1_4, rfl, h55⟩ := cI_some h54
  obtain ⟨s9056, r9057, rfl, h58⟩ := uncK_some h55
  obtain ⟨x1_5, rfl, h59⟩ := cI_some h58
  obtain ⟨s9060, r9061, rfl, h62⟩ := uncK_some h59
  obtain ⟨x1_6, rfl, h63⟩ := cI_some h62
  obtain ⟨s9064, r9065, rfl, h66⟩ := uncK_some h63
  obtain ⟨c1_7, rfl, h67⟩ := cB_some h66
  obtain ⟨s9068, r9069, rfl, h70⟩ := uncK_some h67
  obtain ⟨l1_8, rfl, h71⟩ := cL_some h70
  obtain ⟨s9072, r9073, rfl, h74⟩ := uncK_some h71
  obtain ⟨l1_9, rfl, h75⟩ := cL_some h74
  obtain ⟨s9076, r9077, rfl, h78⟩ := uncK_some h75
  obtain ⟨l1_10, rfl, h79⟩ := cL_some h78
  obtain ⟨rfl, h80⟩ := endL_some h79
  obtain ⟨rfl, h81⟩ := endL_some h80
  have hq := Eq.mp (F77_0_eq D J s0_0 x0_1 x0_2 l0_3 l0_4 c0_5 x1_0 x1_1 x1_2 x1_3 x1_4 x1_5 x1_6 c1_7 l1_8 l1_9 l1_10 S K) h81
  exact execK_runs hD.typed Ir_zero Ir_mixed hJ X77_0 (T77 0).1 (envOf (T77 0).2 _) S K (chk_of (by kernel_rfl) (by kernel_rfl)) hq
noncomputable abbrev A77_2 (D J : Disp) (vals : List AV) (S : St) (K : AV → St → Prop) : Prop :=
  uncA vals fun a9001 r9002 => scK a9001 fun s9004 => SV.cP s9004 fun p2 => uncA r9002 fun a9007 r9008 => scK a9007 fun s9010 => SV.cP s9010 fun p3 => uncA r9008 fun a9013 r9014 => scK a9013 fun s9016 => SV.cB s9016 fun c16 => endL r9014 <| F77_2 D J p2 p3 c16 S K
theorem A77_2_ok {D J : Disp} (hD : DOK IrP IrG D) (hJ : JOK IrP IrG Go.Proofs.Try.f77 T77 J) {vals : List AV} {S : St} {K : AV → St → Prop} (h0 : A77_2 D J vals S K) : Runs IrP IrG Go.Proofs.Try.f77 (T77 2).1 (envOf (T77 2).2 vals) S K := by
  obtain ⟨a9001, r9002, rfl, h3⟩ := uncA_some h0
  obtain ⟨s9004, rfl, h5⟩ := scK_some h3
  obtain ⟨p2, rfl, h6⟩ := cP_some h5
  obtain ⟨a9007, r9008, rfl, h9⟩ := uncA_some h6
  obtain ⟨s9010, rfl, h11⟩ := scK_some h9
  obtain ⟨p3, rfl, h12⟩ := cP_some h11
  obtain ⟨a9013, r9014, rfl, h15⟩ := uncA_some h12
  obtain ⟨s9016, rfl, h17⟩ := scK_some h15
  obtain ⟨c16, rfl, h18⟩ := cB_some h17
  obtain ⟨rfl, h19⟩ := endL_some h18
  have hq := Eq.mp (F77_2_eq D J p2 p3 c16 S K) h19
  exact execK_runs hD.typed Ir_zero Ir_mixed hJ X77_2 (T77 2).1 (envOf (T77 2).2 _) S K (chk_of (by kernel_rfl) (by kernel_rfl)) hq
noncomputable abbrev A77_6 (D J : Disp) (vals : List AV) (S : St) (K : AV → St → Prop) : Prop :=
  uncA vals fun a9001 r9002 => scK a9001 fun s9004 => SV.cP s9004 fun p2 => uncA r9002 fun a9007 r9008 => scK a9007 fun s9010 => SV.cP s9010 fun p3 => uncA r9008 fun a9013 r9014 => scK a9013 fun s9016 => SV.cL s9016 fun l18 => uncA r9014 fun a9019 r9020 => scK a9019 fun s9022 => SV.cI IntKind.i64 s9022 fun x19 => uncA r9020 fun a9025 r9026 => scK a9025 fun s9028 => SV.cI IntKind.i64 s9028 fun x20 => endL r9026 <| F77_6 D J p2 p3 l18 x19 x20 S K
theorem A77_6_ok {D J : Disp} (hD : DOK IrP IrG D) (hJ : JOK IrP IrG Go.Proofs.Try.f77 T77 J) {vals : List AV} {S : St} {K : AV → St → Prop} (h0 : A77_6 D J vals S K) : Runs IrP IrG Go.Proofs.Try.f77 (T77 6).1 (envOf (T77 6).2 vals) S K := by
  obtain ⟨a9001, r9002, rfl, h3⟩ := uncA_some h0
  obtain ⟨s9004, rfl, h5⟩ := scK_some h3
  obtain ⟨p2, rfl, h6⟩ := cP_some h5
  obtain ⟨a9007, r9008, rfl, h9⟩ := uncA_some h6
  obtain ⟨s9010, rfl, h11⟩ := scK_some h9
  obtain ⟨p3, rfl, h12⟩ := cP_some h11
  obtain ⟨a9013, r9014, rfl, h15⟩ := uncA_some h12
  obtain ⟨s9016, rfl, h17⟩ := scK_some h15
  obtain ⟨l18, rfl, h18⟩ := cL_some h17
  obtain ⟨a9019, r9020, rfl, h21⟩ := uncA_some h18
  obtain ⟨s9022, rfl, h23⟩ := scK_some h21
  obtain ⟨x19, rfl, h24⟩ := cI_some h23
  obtain ⟨a9025, r9026, rfl, h27⟩ := uncA_some h24
  obtain ⟨s9028, rfl, h29⟩ := scK_some h27
  obtain ⟨x20, rfl, h30⟩ := cI_some h29
  obtain ⟨rfl, h31⟩ := endL_some h30
  have hq := Eq.mp (F77_6_eq D J p2 p3 l18 x19 x20 S K) h31
  exact execK_runs hD.typed Ir_zero Ir_mixed hJ X77_6 (T77 6).1 (envOf (T77 6).2 _) S K (chk_of (by kernel_rfl) (by kernel_rfl)) hq
noncomputable abbrev A77_15 (D J : Disp) (vals : List AV) (S : St) (K : AV → St → Prop) : Prop :=
  uncA vals fun a9001 r9002 => scK a9001 fun s9004 => SV.cP s9004 fun p2 => uncA r9002 fun a9007 r9008 => scK a9007 fun s9010 => SV.cP s9010 fun p3 => uncA r9008 fun a9013 r9014 => scK a9013 fun s9016 => SV.cB s9016 fun c7 => endL r9014 <| F77_15 D J p2 p3 c7 S K
theorem A77_15_ok {D J : Disp} (hD : DOK IrP IrG D) (hJ : JOK IrP IrG Go.Proofs.Try.f77 T77 J) {vals : List AV} {S : St} {K : AV → St → Prop} (h0 : A77_15 D J vals S K) : Runs IrP IrG Go.Proofs.Try.f77 (T77 15).1 (envOf (T77 15).2 vals) S K := by
  obtain ⟨a9001, r9002, rfl, h3⟩ := uncA_some h0
  obtain ⟨s9004, rfl, h5⟩ := scK_some h3
  obtain ⟨p2, rfl, h6⟩ := cP_some h5
  obtain ⟨a9007, r9008, rfl, h9⟩ := uncA_some h6
  obtain ⟨s9010, rfl, h11⟩ := scK_some h9
  obtain ⟨p3, rfl, h12⟩ := cP_some h11
  obtain ⟨a9013, r9014, rfl, h15⟩ := uncA_some h12
  obtain ⟨s9016, rfl, h17⟩ := scK_some h15
  obtain ⟨c7, rfl, h18⟩ := cB_some h17
  obtain ⟨rfl, h19⟩ := endL_some h18
  have hq := Eq.mp (F77_15_eq D J p2 p3 c7 S K) h19
  exact execK_runs hD.typed Ir_zero Ir_mixed hJ X77_15 (T77 15).1 (envOf (T77 15).2 _) S K (chk_of (by kernel_rfl) (by kernel_rfl)) hq
noncomputable abbrev A77_17 (D J : Disp) (vals : List AV) (S : St) (K : AV → St → Prop) : Prop :=
  uncA vals fun a9001 r9002 => scK a9001 fun s9004 => SV.cP s9004 fun p2 => uncA r9002 fun a9007 r9008 => scK a9007 fun s9010 => SV.cP s9010 fun p3 => uncA r9008 fun a9013 r9014 => scK a9013 fun s9016 => SV.cB s9016 fun c65 => endL r9014 <| F77_17 D J p2 p3 c65 S K
theorem A77_17_ok {D J : Disp} (hD : DOK IrP IrG D) (hJ : JOK IrP IrG Go.Proofs.Try.f77 T77 J) {vals : List AV} {S : St} {K : AV → St → Prop} (h0 : A77_17 D J vals S K) : Runs IrP IrG Go.Proofs.Try.f77 (T77 17).1 (envOf (T77 17).2 vals) S K := by
  obtain ⟨a9001, r9002, rfl, h3⟩ := uncA_some h0
  obtain ⟨s9004, rfl, h5⟩ := scK_some h3
  obtain ⟨p2, rfl, h6⟩ := cP_some h5
  obtain ⟨a9007, r9008, rfl, h9⟩ := uncA_some h6
  obtain ⟨s9010, rfl, h11⟩ := scK_some h9
  obtain ⟨p3, rfl, h12⟩ := cP_some h11
  obtain ⟨a9013, r9014, rfl, h15⟩ := uncA_some h12
  obtain ⟨s9016, rfl, h17⟩ := scK_some h15
  obtain ⟨c65, rfl, h18⟩ := cB_some h17
  obtain ⟨rfl, h19⟩ := endL_some h18
  have hq := Eq.mp (F77_17_eq D J p2 p3 c65 S K) h19
  exact execK_runs hD.typed Ir_zero Ir_mixed hJ X77_17 (T77 17).1 (envOf (T77 17).2 _) S K (chk_of (by kernel_rfl) (by kernel_rfl)) hq
noncomputable def J77 (D : Disp) (k : Nat) : Disp := Nat.rec (motive := fun _ => Disp) Disp.no (fun _ ih => Disp.add 0 (A77_0 D ih) <| Disp.add 2 (A77_2 D ih) <| Disp.add 6 (A77_6 D ih) <| Disp.add 15 (A77_15 D ih) <| Disp.add 17 (A77_17 D ih) <| Disp.no) k
theorem J77_ok {D : Disp} (hD : DOK IrP IrG D) : ∀ k, JOK IrP IrG Go.Proofs.Try.f77 T77 (J77 D k)
  | 0 => JOK.no
  | k + 1 => JOK.add (ltB_ok (by kernel_rfl)) (fun vals S K h => A77_0_ok hD (J77_ok hD k) h) <| JOK.add (ltB_ok (by kernel_rfl)) (fun vals S K h => A77_2_ok hD (J77_ok hD k) h) <| JOK.add (ltB_ok (by kernel_rfl)) (fun vals S K h => A77_6_ok hD (J77_ok hD k) h) <| JOK.add (ltB_ok (by kernel_rfl)) (fun vals S K h => A77_15_ok hD (J77_ok hD k) h) <| JOK.add (ltB_ok (by kernel_rfl)) (fun vals S K h => A77_17_ok hD (J77_ok hD k) h) <| JOK.no
theorem E77_ok {D : Disp} (hD : DOK IrP IrG D) (k : Nat) {args : List AV} {S : St} {K : AV → St → Prop} (h : A77_0 D (J77 D k) args S K) : CallE IrP IrG 77 args S K := by
  have hr := A77_0_ok hD (J77_ok hD k) h
  have hl : args.length = 2 := by
    have h0 := h
    obtain ⟨a9001, r9002, rfl, h3⟩ := uncA_some h0
    obtain ⟨l9004, rfl, h5⟩ := avA_some h3
    obtain ⟨s9006, r9007, rfl, h8⟩ := uncK_some h5
    obtain ⟨s0_0, rfl, h9⟩ := cS_some h8
    obtain ⟨s9010, r9011, rfl, h12⟩ := uncK_some h9
    obtain ⟨x0_1, rfl, h13⟩ := cI_some h12
    obtain ⟨s9014, r9015, rfl, h16⟩ := uncK_some h13
    obtain ⟨x0_2, rfl, h17⟩ := cI_some h16
    obtain ⟨s9018, r9019, rfl, h20⟩ := uncK_some h17
    obtain ⟨l0_3, rfl, h21⟩ := cL_some h20
    obtain ⟨s9022, r9023, rfl, h24⟩ := uncK_some h21
    obtain ⟨l0_4, rfl, h25⟩ := cL_some h24
    obtain ⟨s9026, r9027, rfl, h28⟩ := uncK_some h25
    obtain ⟨c0_5, rfl, h29⟩ := cB_some h28
    obtain ⟨rfl, h30⟩ := endL_some h29
    obtain ⟨a9031, r9032, rfl, h33⟩ := uncA_some h30
    obtain ⟨l9034, rfl, h35⟩ := avA_some h33
    obtain ⟨s9036, r9037, rfl, h38⟩ := uncK_some h35
    obtain ⟨x1_0, rfl, h39⟩ := cI_some h38
    obtain ⟨s9040, r9041, rfl, h42⟩ := uncK_some h39
    obtain ⟨x1_1, rfl, h43⟩ := cI_some h42
    obtain ⟨s9044, r9045, rfl, h46⟩ := uncK_some h43
    obtain ⟨x1_2, rfl, h47⟩ := cI_some h46
    obtain ⟨s9048, r9049, rfl, h50⟩ := uncK_some h47
    obtain ⟨x1_3, rfl, h51⟩ := cI_some h50
    obtain ⟨s9052, r9053, rfl, h54⟩ := uncK_some h51
    obtain ⟨x1_4, rfl, h55⟩ := cI_some h54
    obtain ⟨s9056, r9057, rfl, h58⟩ := uncK_some h55
    obtain ⟨x1_5, rfl, h59⟩ := cI_some h58
    obtain ⟨s9060, r9061, rfl, h62⟩ := uncK_some h59
    obtain ⟨x1_6, rfl, h63⟩ := cI_some h62
    obtain ⟨s9064, r9065, rfl, h66⟩ := uncK_some h63
    obtain ⟨c1_7, rfl, h67⟩ := cB_some h66
    obtain ⟨s9068, r9069, rfl, h70⟩ := uncK_some h67
    obtain ⟨l1_8, rfl, h71⟩ := cL_some h70
    obtain ⟨s9072, r9073, rfl, h74⟩ := uncK_some h71
    obtain ⟨l1_9, rfl, h75⟩ := cL_some h74
    obtain ⟨s9076, r9077, rfl, h78⟩ := uncK_some h75
    obtain ⟨l1_10, rfl, h79⟩ := cL_some h78
    obtain ⟨rfl, h80⟩ := endL_some h79
    obtain ⟨rfl, h81⟩ := endL_some h80
    rfl
  refine callOK_of (fn := Go.Proofs.Try.f77) (c := (match Go.Proofs.Try.f77.body with | some c => c | none => .skip)) (by kernel_rfl) (by kernel_rfl) (by kernel_rfl) (by rw [hl]; kernel_rfl) (by kernel_rfl) ?_
  rw [hl]
  exact hr
noncomputable def plans78 (i : Nat) : Plan := []
noncomputable def T78 (p : Nat) : List Item × List Nat := bif Nat.beq p 0 then ([.code (match Go.Proofs.Try.f78.body with | some c => c | none => .skip)], [0]) else
  ([], [])
noncomputable def F78_0 (D J : Disp) (x0_0 : Int) (x0_1 : Int) (x0_2 : Int) (x0_3 : Int) (x0_4 : Int) (x0_5 : Int) (x0_6 : Int) (c0_7 : Bool) (l0_8 : LV) (l0_9 : LV) (l0_10 : LV) (S : St) (K : AV → St → Prop) : Prop :=
 letK (α := St) ((St.add S (AO.cells [(SV.int IntKind.i64 x0_0), (SV.int IntKind.i64 x0_1), (SV.int IntKind.i64 x0_2), (SV.int IntKind.i64 x0_3), (SV.int IntKind.i64 x0_4), (SV.int IntKind.i64 x0_5), (SV.int IntKind.i64 x0_6), (SV.bool c0_7), (SV.sl l0_8), (SV.sl l0_9), (SV.sl l0_10)] (Op2.ty 27)))) fun S300 =>
 St.at S300 (Bk.new (St.next S)) 0 fun y301 =>
 uncK y301 fun v302 y303 =>
 SV.cI IntKind.i64 v302 fun x307 =>
 letK (α := Bool) ((ile (14 : Int) x307)) fun c308 =>
 ifK c308
 (St.at S300 (Bk.new (St.next S)) 0 fun y309 =>
 uncK y309 fun v310 y311 =>
 SV.cI IntKind.i64 v310 fun x315 =>
 letK (α := Bool) ((ilt x315 (22 : Int))) fun c316 =>
 K ((AV.one (V1.s (SV.bool c316)))) S300)
 (K ((AV.one (V1.s (SV.bool Bool.false)))) S300)
noncomputable def X78_0 : X := (.op (.op .ret))
theorem F78_0_eq (D J : Disp) (x0_0 : Int) (x0_1 : Int) (x0_2 : Int) (x0_3 : Int) (x0_4 : Int) (x0_5 : Int) (x0_6 : Int) (c0_7 : Bool) (l0_8 : LV) (l0_9 : LV) (l0_10 : LV) (S : St) (K : AV → St → Prop) : F78_0 D J x0_0 x0_1 x0_2 x0_3 x0_4 x0_5 x0_6 c0_7 l0_8 l0_9 l0_10 S K = execK IrP IrG Go.Proofs.Try.f78 (typed IrP D) J plans78 X78_0 (T78 0).1 (envOf (T78 0).2 [(AV.one (V1.agg [(SV.int IntKind.i64 x0_0), (SV.int IntKind.i64 x0_1), (SV.int IntKind.i64 x0_2), (SV.int IntKind.i64 x0_3), (SV.int IntKind.i64 x0_4), (SV.int IntKind.i64 x0_5), (SV.int IntKind.i64 x0_6), (SV.bool c0_7), (SV.sl l0_8), (SV.sl l0_9), (SV.sl l0_10)]))]) S K := by kernel_rfl
noncomputable abbrev A78_0 (D J : Disp) (vals : List AV) (S : St) (K : AV → St → Prop) : Prop :=
  uncA vals fun a9001 r9002 => avA a9001 fun l9004 => uncK l9004 fun s9006 r9007 => SV.cI IntKind.i64 s9006 fun x0_0 => uncK r9007 fun s9010 r9011 => SV.cI IntKind.i64 s9010 fun x0_1 => uncK r9011 fun s9014 r9015 => SV.cI IntKind.i64 s9014 fun x0_2 => uncK r9015 fun s9018 r9019 => SV.cI IntKind.i64 s9018 fun x0_3 => uncK r9019 fun s9022 r9023 => SV.cI IntKind.i64 s9022 fun x0_4 => uncK r9023 fun s9026 r9027 => SV.cI IntKind.i64 s9026 fun x0_5 => uncK r9027 fun s9030 r9031 => SV.cI IntKind.i64 s9030 fun x0_6 => uncK r9031 fun s9034 r9035 => SV.cB s9034 fun c0_7 => uncK r9035 fun s9038 r9039 => SV.cL s9038 fun l0_8 => uncK r9039 fun s9042 r9043 => SV.cL s9042 fun l0_9 => uncK r9043 fun s9046 r9047 => SV.cL s9046 fun l0_10 => endL r9047 <| endL r9002 <| F78_0 D J x0_0 x0_1 x0_2 x0_3 x0_4 x0_5 x0_6 c0_7 l0_8 l0_9 l0_10 S K
theorem A78_0_ok {D J : Disp} (hD : DOK IrP IrG D) (hJ : JOK IrP IrG Go.Proofs.Try.f78 T78 J) {vals : List AV} {S : St} {K : AV → St → Prop} (h0 : A78_0 D J vals S K) : Runs IrP IrG Go.Proofs.Try.f78 (T78 0).1 (envOf (T78 0).2 vals) S K := by
  obtain ⟨a9001, r9002, rfl, h3⟩ := uncA_some h0
  obtain ⟨l9004, rfl, h5⟩ := avA_some h3
  obtain ⟨s9006, r9007, rfl, h8⟩ := uncK_some h5
  obtain ⟨x0_0, rfl, h9⟩ := cI_some h8
  obtain ⟨s9010, r9011, rfl, h12⟩ := uncK_some h9
  obtain ⟨x0_1, rfl, h13⟩ := cI_some h12
  obtain ⟨s9014, r9015, rfl, h16⟩ := uncK_some h13
  obtain ⟨x0_2, rfl, h17⟩ := cI_some h16
  obtain ⟨s9018, r9019, rfl, h20⟩ := uncK_some h17
  obtain ⟨x0_3, rfl, h21⟩ := cI_some h20
  obtain ⟨s9022, r9023, rfl, h24⟩ := uncK_some h21
  obtain ⟨x0_4, rfl, h25⟩ := cI_some h24
  obtain ⟨s9026, r9027, rfl, h28⟩ := uncK_some h25
  obtain ⟨x0_5, rfl, h29⟩ := cI_some h28
  obtain ⟨s9030, r9031, rfl, h32⟩ := uncK_some h29
  obtain ⟨x0_6, rfl, h33⟩ := cI_some h32
  obtain ⟨s9034, r9035, rfl, h36⟩ := uncK_some h33
  obtain ⟨c0_7, rfl, h37⟩ := cB_some h36
  obtain ⟨s9038, r9039, rfl, h40⟩ := uncK_some h37
  obtain ⟨l0_8, rfl, h41⟩ := cL_some h40
  obtain ⟨s9042, r9043, rfl, h44⟩ := uncK_some h41
  obtain ⟨l0_9, rfl, h45⟩ := cL_some h44
  obtain ⟨s9046, r9047, rfl, h48⟩ := uncK_some h45
  obtain ⟨l0_10, rfl, h49⟩ := cL_some h48
  obtain ⟨rfl, h50⟩ := endL_some h49
  obtain ⟨rfl, h51⟩ := endL_some h50
  have hq := Eq.mp (F78_0_eq D J x0_0 x0_1 x0_2 x0_3 x0_4 x0_5 x0_6 c0_7 l0_8 l0_9 l0_10 S K) h51
  exact execK_runs hD.typed Ir_zero Ir_mixed hJ X78_0 (T78 0).1 (envOf (T78 0).2 _) S K (chk_of (by kernel_rfl) (by kernel_rfl)) hq
noncomputable def J78 (D : Disp) (k : Nat) : Disp := Nat.rec (motive := fun _ => Disp) Disp.no (fun _ ih => Disp.add 0 (A78_0 D ih) <| Disp.no) k
theorem J78_ok {D : Disp} (hD : DOK IrP IrG D) : ∀ k, JOK IrP IrG Go.Proofs.Try.f78 T78 (J78 D k)
  | 0 => JOK.no
  | k + 1 => JOK.add (ltB_ok (by kernel_rfl)) (fun vals S K h => A78_0_ok hD (J78_ok hD k) h) <| JOK.no
theorem E78_ok {D : Disp} (hD : DOK IrP IrG D) (k : Nat) {args : List AV} {S : St} {K : AV → St → Prop} (h : A78_0 D (J78 D k) args S K) : CallE IrP IrG 78 args S K := by
  have hr := A78_0_ok hD (J78_ok hD k) h
  have hl : args.length = 1 := by
    have h0 := h
    obtain ⟨a9001, r9002, rfl, h3⟩ := uncA_some h0
    obtain ⟨l9004, rfl, h5⟩ := avA_some h3
    obtain ⟨s9006, r9007, rfl, h8⟩ := uncK_some h5
    obtain ⟨x0_0, rfl, h9⟩ := cI_some h8
    obtain ⟨s9010, r9011, rfl, h12⟩ := uncK_some h9
    obtain ⟨x0_1, rfl, h13⟩ := cI_some h12
    obtain ⟨s9014, r9015, rfl, h16⟩ := uncK_some h13
    obtain ⟨x0_2, rfl, h17⟩ := cI_some h16
    obtain ⟨s9018, r9019, rfl, h20⟩ := uncK_some h17
    obtain ⟨x0_3, rfl, h21⟩ := cI_some h20
    obtain ⟨s9022, r9023, rfl, h24⟩ := uncK_some h21
    obtain ⟨x0_4, rfl, h25⟩ := cI_some h24
    obtain ⟨s9026, r9027, rfl, h28⟩ := uncK_some h25
    obtain ⟨x0_5, rfl, h29⟩ := cI_some h28
    obtain ⟨s9030, r9031, rfl, h32⟩ := uncK_some h29
    obtain ⟨x0_6, rfl, h33⟩ := cI_some h32
    obtain ⟨s9034, r9035, rfl, h36⟩ := uncK_some h33
    obtain ⟨c0_7, rfl, h37⟩ := cB_some h36
    obtain ⟨s9038, r9039, rfl, h40⟩ := uncK_some h37
    obtain ⟨l0_8, rfl, h41⟩ := cL_some h40
    obtain ⟨s9042, r9043, rfl, h44⟩ := uncK_some h41
    obtain ⟨l0_9, rfl, h45⟩ := cL_some h44
    obtain ⟨s9046, r9047, rfl, h48⟩ := uncK_some h45
    obtain ⟨l0_10, rfl, h49⟩ := cL_some h48
    obtain ⟨rfl, h50⟩ := endL_some h49
    obtain ⟨rfl, h51⟩ := endL_some h50
    rfl
  refine callOK_of (fn := Go.Proofs.Try.f78) (c := (match Go.Proofs.Try.f78.body with | some c => c | none => .skip)) (by kernel_rfl) (by kernel_rfl) (by kernel_rfl) (by rw [hl]; kernel_rfl) (by kernel_rfl) ?_
  rw [hl]
  exact hr
noncomputable def plans79 (i : Nat) : Plan := []
noncomputable def T79 (p : Nat) : List Item × List Nat := bif Nat.beq p 0 then ([.code (match Go.Proofs.Try.f79.body with | some c => c | none => .skip)], [0, 1, 2]) else
  bif Nat.beq p 2 then (navs [.op, .op] [.code (match Go.Proofs.Try.f79.body with | some c => c | none => .skip)], [3, 4, 5, 18]) else
  ([], [])
noncomputable def X79_0 : X := (.op (.op (.jmp 2 [3, 4, 5, 18])))
noncomputable def X79_2 : X := (.br (.op .ret) (.op (.op (.br (.op .ret) (.op (.br (.op .ret) (.op .ret)))))))
noncomputable def A79_0 (D J : Disp) (vals : List AV) (S : St) (K : AV → St → Prop) : Prop := req (Nat.beq vals.length 3) (execK IrP IrG Go.Proofs.Try.f79 (typed IrP D) J plans79 X79_0 (T79 0).1 (envOf (T79 0).2 vals) S K)
theorem A79_0_ok {D J : Disp} (hD : DOK IrP IrG D) (hJ : JOK IrP IrG Go.Proofs.Try.f79 T79 J) {vals : List AV} {S : St} {K : AV → St → Prop} (h0 : A79_0 D J vals S K) : Runs IrP IrG Go.Proofs.Try.f79 (T79 0).1 (envOf (T79 0).2 vals) S K :=
  execK_runs hD.typed Ir_zero Ir_mixed hJ X79_0 (T79 0).1 (envOf (T79 0).2 vals) S K (chk_of (by kernel_rfl) (by kernel_rfl)) (req_and h0).2
noncomputable def A79_2 (D J : Disp) (vals : List AV) (S : St) (K : AV → St → Prop) : Prop := req (Nat.beq vals.length 4) (execK IrP IrG Go.Proofs.Try.f79 (typed IrP D) J plans79 X79_2 (T79 2).1 (envOf (T79 2).2 vals) S K)
theorem A79_2_ok {D J : Disp} (hD : DOK IrP IrG D) (hJ : JOK IrP IrG Go.Proofs.Try.f79 T79 J) {vals : List AV} {S : St} {K : AV → St → Prop} (h0 : A79_2 D J vals S K) : Runs IrP IrG Go.Proofs.Try.f79 (T79 2).1 (envOf (T79 2).2 vals) S K :=
  execK_runs hD.typed Ir_zero Ir_mixed hJ X79_2 (T79 2).1 (envOf (T79 2).2 vals) S K (chk_of (by kernel_rfl) (by kernel_rfl)) (req_and h0).2
noncomputable def J79 (D : Disp) (k : Nat) : Disp := Nat.rec (motive := fun _ => Disp) Disp.no (fun _ ih => Disp.add 0 (A79_0 D ih) <| Disp.add 2 (A79_2 D ih) <| Disp.no) k
theorem J79_ok {D : Disp} (hD : DOK IrP IrG D) : ∀ k, JOK IrP IrG Go.Proofs.Try.f79 T79 (J79 D k)
  | 0 => JOK.no
  | k + 1 => JOK.add (ltB_ok (by kernel_rfl)) (fun vals S K h => A79_0_ok hD (J79_ok hD k) h) <| JOK.add (ltB_ok (by kernel_rfl)) (fun vals S K h => A79_2_ok hD (J79_ok hD k) h) <| JOK.no
theorem E79_ok {D : Disp} (hD : DOK IrP IrG D) (k : Nat) {args : List AV} {S : St} {K : AV → St → Prop} (h : A79_0 D (J79 D k) args S K) : CallE IrP IrG 79 args S K := by
  have hr := A79_0_ok hD (J79_ok hD k) h
  have hl : args.length = 3 := Nat.eq_of_beq_eq_true (req_and h).1
  refine callOK_of (fn := Go.Proofs.Try.f79) (c := (match Go.Proofs.Try.f79.body with | some c => c | none => .skip)) (by kernel_rfl) (by kernel_rfl) (by kernel_rfl) (by rw [hl]; kernel_rfl) (by kernel_rfl) ?_
  rw [hl]
  exact hr
noncomputable def plans80 (i : Nat) : Plan := []
noncomputable def T80 (p : Nat) : List Item × List Nat := bif Nat.beq p 0 then ([.code (match Go.Proofs.Try.f80.body with | some c => c | none => .skip)], [0]) else
  ([], [])
noncomputable def F80_0 (D J : Disp) (l0 : LV) (S : St) (K : AV → St → Prop) : Prop :=
 optK (eqA IrP 1 25 (V1.s (SV.sl l0)) (V1.s (SV.sl LV.nil))) fun y300 =>
 ifK y300
 (K ((AV.one (V1.s (SV.sl LV.nil)))) S)
 (letK (α := (Sum Nat Nat)) ((Sum.inl 0)) fun d301 =>
 letK (α := St) ((St.add S (AO.cells [] Op2.sh))) fun S302 =>
 St.src S302 1 l0 fun y303 n304 =>
 St.app S302 2 1 8 (LV.mk (Bk.new (St.next S)) 0 0 d301) y303 n304 fun y305 S306 =>
 K ((AV.one (V1.s (SV.sl y305)))) S306)
noncomputable def X80_0 : X := (.op (.op (.br (.op .ret) (.op .ret))))
theorem F80_0_eq (D J : Disp) (l0 : LV) (S : St) (K : AV → St → Prop) : F80_0 D J l0 S K = execK IrP IrG Go.Proofs.Try.f80 (typed IrP D) J plans80 X80_0 (T80 0).1 (envOf (T80 0).2 [(AV.one (V1.s (SV.sl l0)))]) S K := by kernel_rfl
noncomputable abbrev A80_0 (D J : Disp) (vals : List AV) (S : St) (K : AV → St → Prop) : Prop :=
  uncA vals fun a9001 r9002 => scK a9001 fun s9004 => SV.cL s9004 fun l0 => endL r9002 <| F80_0 D J l0 S K
theorem A80_0_ok {D J : Disp} (hD : DOK IrP IrG D) (hJ : JOK IrP IrG Go.Proofs.Try.f80 T80 J) {vals : List AV} {S : St} {K : AV → St → Prop} (h0 : A80_0 D J vals S K) : Runs IrP IrG Go.Proofs.Try.f80 (T80 0).1 (envOf (T80 0).2 vals) S K := by
  obtain ⟨a9001, r9002, rfl, h3⟩ := uncA_some h0
  obtain ⟨s9004, rfl, h5⟩ := scK_some h3
  obtain ⟨l0, rfl, h6⟩ := cL_some h5
  obtain ⟨rfl, h7⟩ := endL_some h6
  have hq := Eq.mp (F80_0_eq D J l0 S K) h7
  exact execK_runs hD.typed Ir_zero Ir_mixed hJ X80_0 (T80 0).1 (envOf (T80 0).2 _) S K (chk_of (by kernel_rfl) (by kernel_rfl)) hq
noncomputable def J80 (D : Disp) (k : Nat) : Disp := Nat.rec (motive := fun _ => Disp) Disp.no (fun _ ih => Disp.add 0 (A80_0 D ih) <| Disp.no) k
theorem J80_ok {D : Disp} (hD : DOK IrP IrG D) : ∀ k, JOK IrP IrG Go.Proofs.Try.f80 T80 (J80 D k)
  | 0 => JOK.no
  | k + 1 => JOK.add (ltB_ok (by kernel_rfl)) (fun vals S K h => A80_0_ok hD (J80_ok hD k) h) <| JOK.no
theorem E80_ok {D : Disp} (hD : DOK IrP IrG D) (k : Nat) {args : List AV} {S : St} {K : AV → St → Prop} (h : A80_0 D (J80 D k) args S K) : CallE IrP IrG 80 args S K := by
  have hr := A80_0_ok hD (J80_ok hD k) h
  have hl : args.length = 1 := by
    have h0 := h
    obtain ⟨a9001, r9002, rfl, h3⟩ := uncA_some h0
    obtain ⟨s9004, rfl, h5⟩ := scK_some h3
    obtain ⟨l0, rfl, h6⟩ := cL_some h5
    obtain ⟨rfl, h7⟩ := endL_some h6
    rfl
  refine callOK_of (fn := Go.Proofs.Try.f80) (c := (match Go.Proofs.Try.f80.body with | some c => c | none => .skip)) (by kernel_rfl) (by kernel_rfl) (by kernel_rfl) (by rw [hl]; kernel_rfl) (by kernel_rfl) ?_
  rw [hl]
  exact hr
noncomputable def plans81 (i : Nat) : Plan := []
noncomputable def T81 (p : Nat) : List Item × List Nat := bif Nat.beq p 0 then ([.code (match Go.Proofs.Try.f81.body with | some c => c | none => .skip)], [0]) else
  bif Nat.beq p 4 then (navs [.op, .op, .op, .th] [.code (match Go.Proofs.Try.f81.body with | some c => c | none => .skip)], [1, 5]) else
  ([], [])
noncomputable def F81_q4 (D J : Disp) (S : St) (S300 : St) (x307 : Int) (K : AV → St → Prop) : Prop :=
 letK (α := Bool) ((ieq x307 (10 : Int))) fun c316 =>
 ifK c316
 (J 4 [(AV.one (V1.s (SV.ptr (PV.mk (Bk.new (St.next S)) 0)))), (AV.one (V1.s (SV.bool c316)))] S300 K)
 (letK (α := Bool) ((ieq x307 (11 : Int))) fun c317 =>
 ifK c317
 (J 4 [(AV.one (V1.s (SV.ptr (PV.mk (Bk.new (St.next S)) 0)))), (AV.one (V1.s (SV.bool c317)))] S300 K)
 (letK (α := Bool) ((ieq x307 (12 : Int))) fun c318 =>
 J 4 [(AV.one (V1.s (SV.ptr (PV.mk (Bk.new (St.next S)) 0)))), (AV.one (V1.s (SV.bool c318)))] S300 K))
noncomputable def F81_q5 (D J : Disp) (S : St) (S300 : St) (x307 : Int) (c313 : Bool) (K : AV → St → Prop) : Prop :=
 ifK c313
 (J 4 [(AV.one (V1.s (SV.ptr (PV.mk (Bk.new (St.next S)) 0)))), (AV.one (V1.s (SV.bool c313)))] S300 K)
 (letK (α := Bool) ((ieq x307 (8 : Int))) fun c314 =>
 ifK c314
 (J 4 [(AV.one (V1.s (SV.ptr (PV.mk (Bk.new (St.next S)) 0)))), (AV.one (V1.s (SV.bool c314)))] S300 K)
 (letK (α := Bool) ((ieq x307 (9 : Int))) fun c315 =>
 ifK c315
 (J 4 [(AV.one (V1.s (SV.ptr (PV.mk (Bk.new (St.next S)) 0)))), (AV.one (V1.s (SV.bool c315)))] S300 K)
 (F81_q4 D J S S300 x307 K)))
noncomputable def F81_q6 (D J : Disp) (S : St) (S300 : St) (x307 : Int) (c310 : Bool) (K : AV → St → Prop) : Prop :=
 ifK c310
 (J 4 [(AV.one (V1.s (SV.ptr (PV.mk (Bk.new (St.next S)) 0)))), (AV.one (V1.s (SV.bool c310)))] S300 K)
 (letK (α := Bool) ((ieq x307 (4 : Int))) fun c311 =>
 ifK c311
 (J 4 [(AV.one (V1.s (SV.ptr (PV.mk (Bk.new (St.next S)) 0)))), (AV.one (V1.s (SV.bool c311)))] S300 K)
 (letK (α := Bool) ((ieq x307 (5 : Int))) fun c312 =>
 ifK c312
 (J 4 [(AV.one (V1.s (SV.ptr (PV.mk (Bk.new (St.next S)) 0)))), (AV.one (V1.s (SV.bool c312)))] S300 K)
 (letK (α := Bool) ((ieq x307 (7 : Int))) fun c313 =>
 F81_q5 D J S S300 x307 c313 K)))
noncomputable def F81_q7 (D J : Disp) (S : St) (S300 : St) (K : AV → St → Prop) : Prop :=
 St.at S300 (Bk.new (St.next S)) 0 fun y301 =>
 uncK y301 fun v302 y303 =>
 SV.cI IntKind.i64 v302 fun x307 =>
 letK (α := Bool) ((ieq x307 (1 : Int))) fun c308 =>
 ifK c308
 (J 4 [(AV.one (V1.s (SV.ptr (PV.mk (Bk.new (St.next S)) 0)))), (AV.one (V1.s (SV.bool c308)))] S300 K)
 (letK (α := Bool) ((ieq x307 (2 : Int))) fun c309 =>
 ifK c309
 (J 4 [(AV.one (V1.s (SV.ptr (PV.mk (Bk.new (St.next S)) 0)))), (AV.one (V1.s (SV.bool c309)))] S300 K)
 (letK (α := Bool) ((ieq x307 (3 : Int))) fun c310 =>
 F81_q6 D J S S300 x307 c310 K))
noncomputable def F81_0 (D J : Disp) (x0_0 : Int) (x0_1 : Int) (x0_2 : Int) (x0_3 : Int) (x0_4 : Int) (x0_5 : Int) (x0_6 : Int) (c0_7 : Bool) (l0_8 : LV) (l0_9 : LV) (l0_10 : LV) (S : St) (K : AV → St → Prop) : Prop :=
 letK (α := St) ((St.add S (AO.cells [(SV.int IntKind.i64 x0_0), (SV.int IntKind.i64 x0_1), (SV.int IntKind.i64 x0_2), (SV.int IntKind.i64 x0_3), (SV.int IntKind.i64 x0_4), (SV.int IntKind.i64 x0_5), (SV.int IntKind.i64 x0_6), (SV.bool c0_7), (SV.sl l0_8), (SV.sl l0_9), (SV.sl l0_10)] (Op2.ty 27)))) fun S300 =>
 F81_q7 D J S S300 K
noncomputable def X81_0 : X := (.op (.op (.op (.br (.jmp 4 [1, 5]) (.op (.br (.jmp 4 [1, 5]) (.op (.br (.jmp 4 [1, 5]) (.op (.br (.jmp 4 [1, 5]) (.op (.br (.jmp 4 [1, 5]) (.op (.br (.jmp 4 [1, 5]) (.op (.br (.jmp 4 [1, 5]) (.op (.br (.jmp 4 [1, 5]) (.op (.br (.jmp 4 [1, 5]) (.op (.br (.jmp 4 [1, 5]) (.op (.jmp 4 [1, 5]))))))))))))))))))))))))
theorem F81_0_eq (D J : Disp) (x0_0 : Int) (x0_1 : Int) (x0_2 : Int) (x0_3 : Int) (x0_4 : Int) (x0_5 : Int) (x0_6 : Int) (c0_7 : Bool) (l0_8 : LV) (l0_9 : LV) (l0_10 : LV) (S : St) (K : AV → St → Prop) : F81_0 D J x0_0 x0_1 x0_2 x0_3 x0_4 x0_5 x0_6 c0_7 l0_8 l0_9 l0_10 S K = execK IrP IrG Go.Proofs.Try.f81 (typed IrP D) J plans81 X81_0 (T81 0).1 (envOf (T81 0).2 [(AV.one (V1.agg [(SV.int IntKind.i64 x0_0), (SV.int IntKind.i64 x0_1), (SV.int IntKind.i64 x0_2), (SV.int IntKind.i64 x0_3), (SV.int IntKind.i64 x0_4), (SV.int IntKind.i64 x0_5), (SV.int IntKind.i64 x0_6), (SV.bool c0_7), (SV.sl l0_8), (SV.sl l0_9), (SV.sl l0_10)]))]) S K := by kernel_rfl
noncomputable def F81_4 (D J : Disp) (p1 : PV) (c5 : Bool) (S : St) (K : AV → St → Prop) : Prop :=
 ifK c5
 (PV.cs p1 fun b300 n301 =>
 letK (α := Nat) ((n301 + 2)) fun n302 =>
 St.at S b300 n302 fun y303 =>
 uncK y303 fun v304 y305 =>
 SV.cI IntKind.i64 v304 fun x309 =>
 K ((AV.one (V1.s (SV.int IntKind.i64 x309)))) S)
 (K ((AV.one (V1.s (SV.int IntKind.i64 (Int.negSucc 0))))) S)
noncomputable def X81_4 : X := (.br (.op .ret) (.op .ret))
theorem F81_4_eq (D J : Disp) (p1 : PV) (c5 : Bool) (S : St) (K : AV → St → Prop) : F81_4 D J p1 c5 S K = execK IrP IrG Go.Proofs.Try.f81 (typed IrP D) J plans81 X81_4 (T81 4).1 (envOf (T81 4).2 [(AV.one (V1.s (SV.ptr p1))), (AV.one (V1.s (SV.bool c5)))]) S K := by kernel_rfl
noncomputable abbrev A81_0 (D J : Disp) (vals : List AV) (S : St) (K : AV → St → Prop) : Prop :=
  uncA vals fun a9001 r9002 => avA a9001 fun l9004 => uncK l9004 fun s9006 r9007 => SV.cI IntKind.i64 s9006 fun x0_0 => uncK r9007 fun s9010 r9011 => SV.cI IntKind.i64 s9010 fun x0_1 => uncK r9011 fun s9014 r9015 => SV.cI IntKind.i64 s9014 fun x0_2 => uncK r9015 fun s9018 r9019 => SV.cI IntKind.i64 s9018 fun x0_3 => uncK r9019 fun s9022 r9023 => SV.cI IntKind.i64 s9022 fun x0_4 => uncK r9023 fun s9026 r9027 => SV.cI IntKind.i64 s9026 fun x0_5 => uncK r9027 fun s9030 r9031 => SV.cI IntKind.i64 s9030 fun x0_6 => uncK r9031 fun s9034 r9035 => SV.cB s9034 fun c0_7 => uncK r9035 fun s9038 r9039 => SV.cL s9038 fun l0_8 => uncK r9039 fun s9042 r9043 => SV.cL s9042 fun l0_9 => uncK r9043 fun s9046 r9047 => SV.cL s9046 fun l0_10 => endL r9047 <| endL r9002 <| F81_0 D J x0_0 x0_1 x0_2 x0_3 x0_4 x0_5 x0_6 c0_7 l0_8 l0_9 l0_10 S K
theorem A81_0_ok {D J : Disp} (hD : DOK IrP IrG D) (hJ : JOK IrP IrG Go.Proofs.Try.f81 T81 J) {vals : List AV} {S : St} {K : AV → St → Prop} (h0 : A81_0 D J vals S K) : Runs IrP IrG Go.Proofs.Try.f81 (T81 0).1 (envOf (T81 0).2 vals) S K := by
  obtain ⟨a9001, r9002, rfl, h3⟩ := uncA_some h0
  obtain ⟨l9004, rfl, h5⟩ := avA_some h3
  obtain ⟨s9006, r9007, rfl, h8⟩ := uncK_some h5
  obtain ⟨x0_0, rfl, h9⟩ := cI_some h8
  obtain ⟨s9010, r9011, rfl, h12⟩ := uncK_some h9
  obtain ⟨x0_1, rfl, h13⟩ := cI_some h12
  obtain ⟨s9014, r9015, rfl, h16⟩ := uncK_some h13
  obtain ⟨x0_2, rfl, h17⟩ := cI_some h16
  obtain ⟨s9018, r9019, rfl, h20⟩ := uncK_some h17
  obtain ⟨x0_3, rfl, h21⟩ := cI_some h20
  obtain ⟨s9022, r9023, rfl, h24⟩ := uncK_some h21
  obtain ⟨x0_4, rfl, h25⟩ := cI_some h24
  obtain ⟨s9026, r9027, rfl, h28⟩ := uncK_some h25
  obtain ⟨x0_5, rfl, h29⟩ := cI_some h28
  obtain ⟨s9030, r9031, rfl, h32⟩ := uncK_some h29
  obtain ⟨x0_6, rfl, h33⟩ := cI_some h32
  obtain ⟨s9034, r9035, rfl, h36⟩ := uncK_some h33
  obtain ⟨c0_7, rfl, h37⟩ := cB_some h36
  obtain ⟨s9038, r9039, rfl, h40⟩ := uncK_some h37
  obtain ⟨l0_8, rfl, h41⟩ := cL_some h40
  obtain ⟨s9042, r9043, rfl, h44⟩ := uncK_some h41
  obtain ⟨l0_9, rfl, h45⟩ := cL_some h44
  obtain ⟨s9046, r9047, rfl, h48⟩ := uncK_some h45
  obtain ⟨l0_10, rfl, h49⟩ := cL_some h48
  obtain ⟨rfl, h50⟩ := endL_some h49
  obtain ⟨rfl, h51⟩ := endL_some h50
  have hq := Eq.mp (F81_0_eq D J x0_0 x0_1 x0_2 x0_3 x0_4 x0_5 x0_6 c0_7 l0_8 l0_9 l0_10 S K) h51
  exact execK_runs hD.typed Ir_zero Ir_mixed hJ X81_0 (T81 0).1 (envOf (T81 0).2 _) S K (chk_of (by kernel_rfl) (by kernel_rfl)) hq
noncomputable abbrev A81_4 (D J : Disp) (vals : List AV) (S : St) (K : AV → St → Prop) : Prop :=
  uncA vals fun a9001 r9002 => scK a9001 fun s9004 => SV.cP s9004 fun p1 => uncA r9002 fun a9007 r9008 => scK a9007 fun s9010 => SV.cB s9010 fun c5 => endL r9008 <| F81_4 D J p1 c5 S K
theorem A81_4_ok {D J : Disp} (hD : DOK IrP IrG D) (hJ : JOK IrP IrG Go.Proofs.Try.f81 T81 J) {vals : List AV} {S : St} {K : AV → St → Prop} (h0 : A81_4 D J vals S K) : Runs IrP IrG Go.Proofs.Try.f81 (T81 4).1 (envOf (T81 4).2 vals) S K := by
  obtain ⟨a9001, r9002, rfl, h3⟩ := uncA_some h0
  obtain ⟨s9004, rfl, h5⟩ := scK_some h3
  obtain ⟨p1, rfl, h6⟩ := cP_some h5
  obtain ⟨a9007, r9008, rfl, h9⟩ := uncA_some h6
  obtain ⟨s9010, rfl, h11⟩ := scK_some h9
  obtain ⟨c5, rfl, h12⟩ := cB_some h11
  obtain ⟨rfl, h13⟩ := endL_some h12
  have hq := Eq.mp (F81_4_eq D J p1 c5 S K) h13
  exact execK_runs hD.typed Ir_zero Ir_mixed hJ X81_4 (T81 4).1 (envOf (T81 4).2 _) S K (chk_of (by kernel_rfl) (by kernel_rfl)) hq
noncomputable def J81 (D : Disp) (k : Nat) : Disp := Nat.rec (motive := fun _ => Disp) Disp.no (fun _ ih => Disp.add 0 (A81_0 D ih) <| Disp.add 4 (A81_4 D ih) <| Disp.no) k
theorem J81_ok {D : Disp} (hD : DOK IrP IrG D) : ∀ k, JOK IrP IrG Go.Proofs.Try.f81 T81 (J81 D k)
  | 0 => JOK.no
  | k + 1 => JOK.add (ltB_ok (by kernel_rfl)) (fun vals S K h => A81_0_ok hD (J81_ok hD k) h) <| JOK.add (ltB_ok (by kernel_rfl)) (fun vals S K h => A81_4_ok hD (J81_ok hD k) h) <| JOK.no
theorem E81_ok {D : Disp} (hD : DOK IrP IrG D) (k : Nat) {args : List AV} {S : St} {K : AV → St → Prop} (h : A81_0 D (J81 D k) args S K) : CallE IrP IrG 81 args S K := by
  have hr := A81_0_ok hD (J81_ok hD k) h
  have hl : args.length = 1 := by
    have h0 := h
    obtain ⟨a9001, r9002, rfl, h3⟩ := uncA_some h0
    obtain ⟨l9004, rfl, h5⟩ := avA_some h3
    obtain ⟨s9006, r9007, rfl, h8⟩ := uncK_some h5
    obtain ⟨x0_0, rfl, h9⟩ := cI_some h8
    obtain ⟨s9010, r9011, rfl, h12⟩ := uncK_some h9
    obtain ⟨x0_1, rfl, h13⟩ := cI_some h12
    obtain ⟨s9014, r9015, rfl, h16⟩ := uncK_some h13
    obtain ⟨x0_2, rfl, h17⟩ := cI_some h16
    obtain ⟨s9018, r9019, rfl, h20⟩ := uncK_some h17
    obtain ⟨x0_3, rfl, h21⟩ := cI_some h20
    obtain ⟨s9022, r9023, rfl, h24⟩ := uncK_some h21
    obtain ⟨x0_4, rfl, h25⟩ := cI_some h24
    obtain ⟨s9026, r9027, rfl, h28⟩ := uncK_some h25
    obtain ⟨x0_5, rfl, h29⟩ := cI_some h28
    obtain ⟨s9030, r9031, rfl, h32⟩ := uncK_some h29
    obtain ⟨x0_6, rfl, h33⟩ := cI_some h32
    obtain ⟨s9034, r9035, rfl, h36⟩ := uncK_some h33
    obtain ⟨c0_7, rfl, h37⟩ := cB_some h36
    obtain ⟨s9038, r9039, rfl, h40⟩ := uncK_some h37
    obtain ⟨l0_8, rfl, h41⟩ := cL_some h40
    obtain ⟨s9042, r9043, rfl, h44⟩ := uncK_some h41
    obtain ⟨l0_9, rfl, h45⟩ := cL_some h44
    obtain ⟨s9046, r9047, rfl, h48⟩ := uncK_some h45
    obtain ⟨l0_10, rfl, h49⟩ := cL_some h48
    obtain ⟨rfl, h50⟩ := endL_some h49
    obtain ⟨rfl, h51⟩ := endL_some h50
    rfl
  refine callOK_of (fn := Go.Proofs.Try.f81) (c := (match Go.Proofs.Try.f81.body with | some c => c | none => .skip)) (by kernel_rfl) (by kernel_rfl) (by kernel_rfl) (by rw [hl]; kernel_rfl) (by kernel_rfl) ?_
  rw [hl]
  exact hr
noncomputable def plans82 (i : Nat) : Plan := if Nat.beq i 8 then [(0, []), (1, []), (2, []), (3, [1, 2]), (4, [0, 3, 1, 2]), (5, [4, 0, 1, 2, 3]), (6, [5, 0, 1, 2, 3, 4])] else if Nat.beq i 9 then [(0, []), (1, []), (2, []), (3, [1, 2]), (4, []), (5, [4]), (6, [5, 4]), (7, [6, 5, 4]), (8, [6, 5, 4]), (9, [7, 8, 6, 5, 4]), (10, [6, 5, 4]), (11, [9, 10, 6, 7, 8, 5, 4]), (12, [6, 5, 4]), (13, [11, 12, 6, 9, 10, 5, 7, 8, 4]), (14, [6, 13, 5, 11, 12, 4, 9, 10, 7, 8]), (15, [14, 6, 13, 5, 11, 12, 4, 9, 10, 7, 8]), (16, [15, 14, 6, 13, 5, 11, 12, 4, 9, 10, 7, 8]), (17, [15, 14, 6, 13, 5, 11, 12, 4, 9, 10, 7, 8]), (18, [16, 17, 15, 14, 6, 13, 5, 11, 12, 4, 9, 10, 7, 8]), (19, [18, 15, 16, 17, 14, 6, 13, 5, 11, 12, 4, 9, 10, 7, 8]), (20, [15, 19, 14, 6, 18, 13, 5, 16, 17, 11, 12, 4, 9, 10, 7, 8]), (21, [0, 3, 20, 15, 1, 2, 19, 14, 6, 18, 13, 5, 16, 17, 11, 12, 4, 9, 10, 7, 8]), (22, [21, 0, 3, 20, 15, 1, 2, 19, 14, 6, 18, 13, 5, 16, 17, 11, 12, 4, 9, 10, 7, 8]), (23, [21, 0, 3, 20, 15, 1, 2, 19, 14, 6, 18, 13, 5, 16, 17, 11, 12, 4, 9, 10, 7, 8]), (24, [22, 21, 0, 1, 2, 3, 4, 5, 6, 7, 8, 9, 10, 11, 12, 13, 14, 15, 16, 17, 18, 19, 20, 23]), (25, [23, 24, 0, 1, 2, 3, 4, 5, 6, 7, 8, 9, 10, 11, 12, 13, 14, 15, 16, 17, 18, 19, 20, 21, 22])] else []
noncomputable def T82 (p : Nat) : List Item × List Nat := bif Nat.beq p 0 then ([.code (match Go.Proofs.Try.f82.body with | some c => c | none => .skip)], [0, 1, 2, 3]) else
  bif Nat.beq p 2 then (navs [.op, .op] [.code (match Go.Proofs.Try.f82.body with | some c => c | none => .skip)], [1, 2, 3, 4, 10]) else
  bif Nat.beq p 6 then (navs [.op, .op, .el, .op] [.code (match Go.Proofs.Try.f82.body with | some c => c | none => .skip)], [1, 2, 3, 4, 19]) else
  ([], [])
noncomputable def F82_q8 (D J : Disp) (S : St) (x1 : Int) (x2 : Int) (x3 : Int) (S300 : St) (c301 : Bool) (K : AV → St → Prop) : Prop :=
 ifK c301
 (J 2 [(AV.one (V1.s (SV.int IntKind.i64 x1))), (AV.one (V1.s (SV.int IntKind.i64 x2))), (AV.one (V1.s (SV.int IntKind.i64 x3))), (AV.one (V1.s (SV.ptr (PV.mk (Bk.new (St.next S)) 0)))), (AV.one (V1.s (SV.bool Bool.true)))] S300 K)
 (St.at S300 (Bk.new (St.next S)) 0 fun y302 =>
 uncK y302 fun v303 y304 =>
 SV.cI IntKind.i64 v303 fun x308 =>
 letK (α := Bool) ((ile x308 x3)) fun c309 =>
 J 2 [(AV.one (V1.s (SV.int IntKind.i64 x1))), (AV.one (V1.s (SV.int IntKind.i64 x2))), (AV.one (V1.s (SV.int IntKind.i64 x3))), (AV.one (V1.s (SV.ptr (PV.mk (Bk.new (St.next S)) 0)))), (AV.one (V1.s (SV.bool c309)))] S300 K)
noncomputable def F82_0 (D J : Disp) (x0_0 : Int) (c0_1 : Bool) (x1 : Int) (x2 : Int) (x3 : Int) (S : St) (K : AV → St → Prop) : Prop :=
 letK (α := St) ((St.add S (AO.cells [(SV.int IntKind.i64 x0_0), (SV.bool c0_1)] (Op2.ty 23)))) fun S300 =>
 letK (α := Bool) ((ilt x3 (0 : Int))) fun c301 =>
 F82_q8 D J S x1 x2 x3 S300 c301 K
noncomputable def X82_0 : X := (.op (.op (.jmp 2 [1, 2, 3, 4, 10])))
theorem F82_0_eq (D J : Disp) (x0_0 : Int) (c0_1 : Bool) (x1 : Int) (x2 : Int) (x3 : Int) (S : St) (K : AV → St → Prop) : F82_0 D J x0_0 c0_1 x1 x2 x3 S K = execK IrP IrG Go.Proofs.Try.f82 (typed IrP D) J plans82 X82_0 (T82 0).1 (envOf (T82 0).2 [(AV.one (V1.agg [(SV.int IntKind.i64 x0_0), (SV.bool c0_1)])), (AV.one (V1.s (SV.int IntKind.i64 x1))), (AV.one (V1.s (SV.int IntKind.i64 x2))), (AV.one (V1.s (SV.int IntKind.i64 x3)))]) S K := by kernel_rfl
noncomputable def F82_q9 (D J : Disp) (S : St) (x1 : Int) (x2 : Int) (x3 : Int) (p4 : PV) (c300 : Bool) (K : AV → St → Prop) : Prop :=
 ifK c300
 (PV.cs p4 fun b301 n302 =>
 letK (α := Nat) ((n302 + 1)) fun n303 =>
 St.at S b301 n303 fun y304 =>
 uncK y304 fun v305 y306 =>
 SV.cB v305 fun y308 =>
 J 6 [(AV.one (V1.s (SV.int IntKind.i64 x1))), (AV.one (V1.s (SV.int IntKind.i64 x2))), (AV.one (V1.s (SV.int IntKind.i64 x3))), (AV.one (V1.s (SV.ptr p4))), (AV.one (V1.s (SV.bool y308)))] S K)
 (J 6 [(AV.one (V1.s (SV.int IntKind.i64 x1))), (AV.one (V1.s (SV.int IntKind.i64 x2))), (AV.one (V1.s (SV.int IntKind.i64 x3))), (AV.one (V1.s (SV.ptr p4))), (AV.one (V1.s (SV.bool Bool.false)))] S K)
noncomputable def F82_2 (D J : Disp) (x1 : Int) (x2 : Int) (x3 : Int) (p4 : PV) (c10 : Bool) (S : St) (K : AV → St → Prop) : Prop :=
 ifK c10
 (K ((AV.tup [(V1.s (SV.int IntKind.i64 (0 : Int))), (V1.s (SV.bool Bool.false))])) S)
 (letK (α := Bool) ((Bool.not (ieq x1 (11 : Int)))) fun c300 =>
 F82_q9 D J S x1 x2 x3 p4 c300 K)
noncomputable def X82_2 : X := (.br (.op .ret) (.op (.jmp 6 [1, 2, 3, 4, 19])))
theorem F82_2_eq (D J : Disp) (x1 : Int) (x2 : Int) (x3 : Int) (p4 : PV) (c10 : Bool) (S : St) (K : AV → St → Prop) : F82_2 D J x1 x2 x3 p4 c10 S K = execK IrP IrG Go.Proofs.Try.f82 (typed IrP D) J plans82 X82_2 (T82 2).1 (envOf (T82 2).2 [(AV.one (V1.s (SV.int IntKind.i64 x1))), (AV.one (V1.s (SV.int IntKind.i64 x2))), (AV.one (V1.s (SV.int IntKind.i64 x3))), (AV.one (V1.s (SV.ptr p4))), (AV.one (V1.s (SV.bool c10)))]) S K := by kernel_rfl
noncomputable def F82_q10 (D J : Disp) (S : St) (x2 : Int) (x3 : Int) (p4 : PV) (K : AV → St → Prop) : Prop :=
 PV.cs p4 fun b314 n315 =>
 St.at S b314 n315 fun y316 =>
 uncK y316 fun v317 y318 =>
 SV.cI IntKind.i64 v317 fun x322 =>
 uncK y318 fun v323 y324 =>
 SV.cB v323 fun y326 =>
 req (ile (0 : Int) x3) <|
 letK (α := Int) ((shlI IntKind.i64 x2 x3)) fun x327 =>
 D 62 [(AV.one (V1.agg [(SV.int IntKind.i64 x322), (SV.bool y326)])), (AV.one (V1.s (SV.int IntKind.i64 x327)))] S fun v328 S329 =>
 scK v328 fun v331 =>
 SV.cI IntKind.i64 v331 fun x334 =>
 K ((AV.tup [(V1.s (SV.int IntKind.i64 x334)), (V1.s (SV.bool Bool.true))])) S329
noncomputable def F82_q11 (D J : Disp) (S : St) (x362 : Int) (y366 : Bool) (x367 : Int) (c373 : Bool) (K : AV → St → Prop) : Prop :=
 D 83 [(AV.one (V1.agg [(SV.int IntKind.i64 x362), (SV.bool y366)])), (AV.one (V1.s (SV.int IntKind.i64 x367))), (AV.one (V1.s (SV.bool c373)))] S fun v374 S375 =>
 avT v374 fun y377 =>
 uncV y377 fun v378 y379 =>
 v1S v378 fun v381 =>
 SV.cI IntKind.i64 v381 fun x384 =>
 uncV y379 fun v385 y386 =>
 v1S v385 fun v388 =>
 SV.cB v388 fun y389 =>
 endL y386 (K ((AV.tup [(V1.s (SV.int IntKind.i64 x384)), (V1.s (SV.bool y389))])) S375)
noncomputable def F82_q12 (D J : Disp) (S : St) (x362 : Int) (y366 : Bool) (x367 : Int) (K : AV → St → Prop) : Prop :=
 D 83 [(AV.one (V1.agg [(SV.int IntKind.i64 x362), (SV.bool y366)])), (AV.one (V1.s (SV.int IntKind.i64 x367))), (AV.one (V1.s (SV.bool Bool.false)))] S fun v407 S408 =>
 avT v407 fun y410 =>
 uncV y410 fun v411 y412 =>
 v1S v411 fun v414 =>
 SV.cI IntKind.i64 v414 fun x417 =>
 uncV y412 fun v418 y419 =>
 v1S v418 fun v421 =>
 SV.cB v421 fun y422 =>
 endL y419 (K ((AV.tup [(V1.s (SV.int IntKind.i64 x417)), (V1.s (SV.bool y422))])) S408)
noncomputable def F82_q13 (D J : Disp) (S : St) (x362 : Int) (y366 : Bool) (x367 : Int) (K : AV → St → Prop) : Prop :=
 D 83 [(AV.one (V1.agg [(SV.int IntKind.i64 x362), (SV.bool y366)])), (AV.one (V1.s (SV.int IntKind.i64 x367))), (AV.one (V1.s (SV.bool Bool.false)))] S fun v440 S441 =>
 avT v440 fun y443 =>
 uncV y443 fun v444 y445 =>
 v1S v444 fun v447 =>
 SV.cI IntKind.i64 v447 fun x450 =>
 uncV y445 fun v451 y452 =>
 v1S v451 fun v454 =>
 SV.cB v454 fun y455 =>
 endL y452 (K ((AV.tup [(V1.s (SV.int IntKind.i64 x450)), (V1.s (SV.bool y455))])) S441)
noncomputable def F82_q14 (D J : Disp) (S : St) (x2 : Int) (x3 : Int) (x362 : Int) (y366 : Bool) (x367 : Int) (K : AV → St → Prop) : Prop :=
 letK (α := Bool) ((ile (0 : Int) x2)) fun c368 =>
 ifK c368
 (req (ile (0 : Int) x3) <|
 letK (α := Int) ((shlI IntKind.i64 x2 x3)) fun x369 =>
 req (ile (0 : Int) x3) <|
 letK (α := Int) ((shrI IntKind.i64 x369 x3)) fun x370 =>
 letK (α := Bool) ((ieq x370 x2)) fun c371 =>
 ifK c371
 (req (ile (0 : Int) x3) <|
 letK (α := Int) ((shlI IntKind.i64 x2 x3)) fun x372 =>
 letK (α := Bool) ((ile (0 : Int) x372)) fun c373 =>
 F82_q11 D J S x362 y366 x367 c373 K)
 (F82_q12 D J S x362 y366 x367 K))
 (F82_q13 D J S x362 y366 x367 K)
noncomputable def F82_q15 (D J : Disp) (S : St) (x2 : Int) (x3 : Int) (p4 : PV) (b305 : Bk) (n307 : Nat) (K : AV → St → Prop) : Prop :=
 St.at S b305 n307 fun y308 =>
 uncK y308 fun v309 y310 =>
 SV.cB v309 fun y312 =>
 letK (α := Bool) ((Bool.not y312)) fun c313 =>
 ifK c313
 (F82_q10 D J S x2 x3 p4 K)
 (PV.cs p4 fun b354 n355 =>
 St.at S b354 n355 fun y356 =>
 uncK y356 fun v357 y358 =>
 SV.cI IntKind.i64 v357 fun x362 =>
 uncK y358 fun v363 y364 =>
 SV.cB v363 fun y366 =>
 req (ile (0 : Int) x3) <|
 letK (α := Int) ((shlI IntKind.i64 x2 x3)) fun x367 =>
 F82_q14 D J S x2 x3 x362 y366 x367 K)
noncomputable def F82_6 (D J : Disp) (x1 : Int) (x2 : Int) (x3 : Int) (p4 : PV) (c19 : Bool) (S : St) (K : AV → St → Prop) : Prop :=
 ifK c19
 (req (ile (0 : Int) x3) <|
 letK (α := Int) ((shrI IntKind.i64 x2 x3)) fun x300 =>
 K ((AV.tup [(V1.s (SV.int IntKind.i64 x300)), (V1.s (SV.bool Bool.true))])) S)
 (letK (α := Bool) ((Bool.not (ieq x1 (11 : Int)))) fun c301 =>
 ifK c301
 (letK (α := Int) ((iwrap IntKind.u64 x2)) fun x302 =>
 req (ile (0 : Int) x3) <|
 letK (α := Int) ((shrI IntKind.u64 x302 x3)) fun x303 =>
 letK (α := Int) ((iwrap IntKind.i64 x303)) fun x304 =>
 K ((AV.tup [(V1.s (SV.int IntKind.i64 x304)), (V1.s (SV.bool Bool.true))])) S)
 (PV.cs p4 fun b305 n306 =>
 letK (α := Nat) ((n306 + 1)) fun n307 =>
 F82_q15 D J S x2 x3 p4 b305 n307 K))
noncomputable def X82_6 : X := (.br (.op .ret) (.op (.br (.op .ret) (.op (.br (.op .ret) (.op .ret))))))
theorem F82_6_eq (D J : Disp) (x1 : Int) (x2 : Int) (x3 : Int) (p4 : PV) (c19 : Bool) (S : St) (K : AV → St → Prop) : F82_6 D J x1 x2 x3 p4 c19 S K = execK IrP IrG Go.Proofs.Try.f82 (typed IrP D) J plans82 X82_6 (T82 6).1 (envOf (T82 6).2 [(AV.one (V1.s (SV.int IntKind.i64 x1))), (AV.one (V1.s (SV.int IntKind.i64 x2))), (AV.one (V1.s (SV.int IntKind.i64 x3))), (AV.one (V1.s (SV.ptr p4))), (AV.one (V1.s (SV.bool c19)))]) S K := by kernel_rfl
noncomputable abbrev A82_0 (D J : Disp) (vals : List AV) (S : St) (K : AV → St → Prop) : Prop :=
  uncA vals fun a9001 r9002 => avA a9001 fun l9004 => uncK l9004 fun s9006 r9007 => SV.cI IntKind.i64 s9006 fun x0_0 => uncK r9007 fun s9010 r9011 => SV.cB s9010 fun c0_1 => endL r9011 <| uncA r9002 fun a9015 r9016 => scK a9015 fun s9018 => SV.cI IntKind.i64 s9018 fun x1 => uncA r9016 fun a9021 r9022 => scK a9021 fun s9024 => SV.cI IntKind.i64 s9024 fun x2 => uncA r9022 fun a9027 r9028 => scK a9027 fun s9030 => SV.cI IntKind.i64 s9030 fun x3 => endL r9028 <| F82_0 D J x0_0 c0_1 x1 x2 x3 S K
theorem A82_0_ok {D J : Disp} (hD : DOK IrP IrG D) (hJ : JOK IrP IrG Go.Proofs.Try.f82 T82 J) {vals : List AV} {S : St} {K : AV → St → Prop} (h0 : A82_0 D J vals S K) : Runs IrP IrG Go.Proofs.Try.f82 (T82 0).1 (envOf (T82 0).2 vals) S K := by
  obtain ⟨a9001, r9002, rfl, h3⟩ := uncA_some h0
  obtain ⟨l9004, rfl, h5⟩ := avA_some h3
  obtain ⟨s9006, r9007, rfl, h8⟩ := uncK_some h5
  obtain ⟨x0_0, rfl, h9⟩ := cI_some h8
  obtain ⟨s9010, r9011, rfl, h12⟩ := uncK_some h9
  obtain ⟨c0_1, rfl, h13⟩ := cB_some h12
  obtain ⟨rfl, h14⟩ := endL_some h13
  obtain ⟨a9015, r9016, rfl, h17⟩ := uncA_some h14
  obtain ⟨s9018, rfl, h19⟩ := scK_some h17
  obtain ⟨x1, rfl, h20⟩ := cI_some h19
  obtain ⟨a9021, r9022, rfl, h23⟩ := uncA_some h20
  obtain ⟨s9024, rfl, h25⟩ := scK_some h23
  obtain ⟨x2, rfl, h26⟩ := cI_some h25
  obtain ⟨a9027, r9028, rfl, h29⟩ := uncA_some h26
  obtain ⟨s9030, rfl, h31⟩ := scK_some h29
  obtain ⟨x3, rfl, h32⟩ := cI_some h31
  obtain ⟨rfl, h33⟩ := endL_some h32
  have hq := Eq.mp (F82_0_eq D J x0_0 c0_1 x1 x2 x3 S K) h33
  exact execK_runs hD.typed Ir_zero Ir_mixed hJ X82_0 (T82 0).1 (envOf (T82 0).2 _) S K (chk_of (by kernel_rfl) (by kernel_rfl)) hq
noncomputable abbrev A82_2 (D J : Disp) (vals : List AV) (S : St) (K : AV → St → Prop) : Prop :=
  uncA vals fun a9001 r9002 => scK a9001 fun s9004 => SV.cI IntKind.i64 s9004 fun x1 => uncA r9002 fun a9007 r9008 => scK a9007 fun s9010 => SV.cI IntKind.i64 s9010 fun x2 => uncA r9008 fun a9013 r9014 => scK a9013 fun s9016 => SV.cI IntKind.i64 s9016 fun x3 => uncA r9014 fun a9019 r9020 => scK a9019 fun s9022 => SV.cP s9022 fun p4 => uncA r9020 fun a9025 r9026 => scK a9025 fun s9028 => SV.cB s9028 fun c10 => endL r9026 <| F82_2 D J x1 x2 x3 p4 c10 S K
theorem A82_2_ok {D J : Disp} (hD : DOK IrP IrG D) (hJ : JOK IrP IrG Go.Proofs.Try.f82 T82 J) {vals : List AV} {S : St} {K : AV → St → Prop} (h0 : A82_2 D J vals S K) : Runs IrP IrG Go.Proofs.Try.f82 (T82 2).1 (envOf (T82 2).2 vals) S K := by
  obtain ⟨a9001, r9002, rfl, h3⟩ := uncA_some h0
  obtain ⟨s9004, rfl, h5⟩ := scK_some h3
  obtain ⟨x1, rfl, h6⟩ := cI_some h5
  obtain ⟨a9007, r9008, rfl, h9⟩ := uncA_some h6
  obtain ⟨s9010, rfl, h11⟩ := scK_some h9
  obtain ⟨x2, rfl, h12⟩ := cI_some h11
  obtain ⟨a9013, r9014, rfl, h15⟩ := uncA_some h12
  obtain ⟨s9016, rfl, h17⟩ := scK_some h15
  obtain ⟨x3, rfl, h18⟩ := cI_some h17
  obtain ⟨a9019, r9020, rfl, h21⟩ := uncA_some h18
  obtain ⟨s9022, rfl, h23⟩ := scK_some h21
  obtain ⟨p4, rfl, h24⟩ := cP_some h23
  obtain ⟨a9025, r9026, rfl, h27⟩ := uncA_some h24
  obtain ⟨s9028, rfl, h29⟩ := scK_some h27
  obtain ⟨c10, rfl, h30⟩ := cB_some h29
  obtain ⟨rfl, h31⟩ := endL_some h30
  have hq := Eq.mp (F82_2_eq D J x1 x2 x3 p4 c10 S K) h31
  exact execK_runs hD.typed Ir_zero Ir_mixed hJ X82_2 (T82 2).1 (envOf (T82 2).2 _) S K (chk_of (by kernel_rfl) (by kernel_rfl)) hq
noncomputable abbrev A82_6 (D J : Disp) (vals : List AV) (S : St) (K : AV → St → Prop) : Prop :=
  uncA vals fun a9001 r9002 => scK a9001 fun s9004 => SV.cI IntKind.i64 s9004 fun x1 => uncA r9002 fun a9007 r9008 => scK a9007 fun s9010 => SV.cI IntKind.i64 s9010 fun x2 => uncA r9008 fun a9013 r9014 => scK a9013 fun s9016 => SV.cI IntKind.i64 s9016 fun x3 => uncA r9014 fun a9019 r9020 => scK a9019 fun s9022 => SV.cP s9022 fun p4 => uncA r9020 fun a9025 r9026 => scK a9025 fun s9028 => SV.cB s9028 fun c19 => endL r9026 <| F82_6 D J x1 x2 x3 p4 c19 S K
theorem A82_6_ok {D J : Disp} (hD : DOK IrP IrG D) (hJ : JOK IrP IrG Go.Proofs.Try.f82 T82 J) {vals : List AV} {S : St} {K : AV → St → Prop} (h0 : A82_6 D J vals S K) : Runs IrP IrG Go.Proofs.Try.f82 (T82 6).1 (envOf (T82 6).2 vals) S K := by
  obtain ⟨a9001, r9002, rfl, h3⟩ := uncA_some h0
  obtain ⟨s9004, rfl, h5⟩ := scK_some h3
  obtain ⟨x1, rfl, h6⟩ := cI_some h5
  obtain ⟨a9007, r9008, rfl, h9⟩ := uncA_some h6
  obtain ⟨s9010, rfl, h11⟩ := scK_some h9
  obtain ⟨x2, rfl, h12⟩ := cI_some h11
  obtain ⟨a9013, r9014, rfl, h15⟩ := uncA_some h12
  obtain ⟨s9016, rfl, h17⟩ := scK_some h15
  obtain ⟨x3, rfl, h18⟩ := cI_some h17
  obtain ⟨a9019, r9020, rfl, h21⟩ := uncA_some h18
  obtain ⟨s9022, rfl, h23⟩ := scK_some h21
  obtain ⟨p4, rfl, h24⟩ := cP_some h23
  obtain ⟨a9025, r9026, rfl, h27⟩ := uncA_some h24
  obtain ⟨s9028, rfl, h29⟩ := scK_some h27
  obtain ⟨c19, rfl, h30⟩ := cB_some h29
  obtain ⟨rfl, h31⟩ := endL_some h30
  have hq := Eq.mp (F82_6_eq D J x1 x2 x3 p4 c19 S K) h31
  exact execK_runs hD.typed Ir_zero Ir_mixed hJ X82_6 (T82 6).1 (envOf (T82 6).2 _) S K (chk_of (by kernel_rfl) (by kernel_rfl)) hq
noncomputable def J82 (D : Disp) (k : Nat) : Disp := Nat.rec (motive := fun _ => Disp) Disp.no (fun _ ih => Disp.add 0 (A82_0 D ih) <| Disp.add 2 (A82_2 D ih) <| Disp.add 6 (A82_6 D ih) <| Disp.no) k
theorem J82_ok {D : Disp} (hD : DOK IrP IrG D) : ∀ k, JOK IrP IrG Go.Proofs.Try.f82 T82 (J82 D k)
  | 0 => JOK.no
  | k + 1 => JOK.add (ltB_ok (by kernel_rfl)) (fun vals S K h => A82_0_ok hD (J82_ok hD k) h) <| JOK.add (ltB_ok (by kernel_rfl)) (fun vals S K h => A82_2_ok hD (J82_ok hD k) h) <| JOK.add (ltB_ok (by kernel_rfl)) (fun vals S K h => A82_6_ok hD (J82_ok hD k) h) <| JOK.no
theorem E82_ok {D : Disp} (hD : DOK IrP IrG D) (k : Nat) {args : List AV} {S : St} {K : AV → St → Prop} (h : A82_0 D (J82 D k) args S K) : CallE IrP IrG 82 args S K := by
  have hr := A82_0_ok hD (J82_ok hD k) h
  have hl : args.length = 4 := by
    have h0 := h
    obtain ⟨a9001, r9002, rfl, h3⟩ := uncA_some h0
    obtain ⟨l9004, rfl, h5⟩ := avA_some h3
    obtain ⟨s9006, r9007, rfl, h8⟩ := uncK_some h5
    obtain ⟨x0_0, rfl, h9⟩ := cI_some h8
    obtain ⟨s9010, r9011, rfl, h12⟩ := uncK_some h9
    obtain ⟨c0_1, rfl, h13⟩ := cB_some h12
    obtain ⟨rfl, h14⟩ := endL_some h13
    obtain ⟨a9015, r9016, rfl, h17⟩ := uncA_some h14
    obtain ⟨s9018, rfl, h19⟩ := scK_some h17
    obtain ⟨x1, rfl, h20⟩ := cI_some h19
    obtain ⟨a9021, r9022, rfl, h23⟩ := uncA_some h20
    obtain ⟨s9024, rfl, h25⟩ := scK_some h23
    obtain ⟨x2, rfl, h26⟩ := cI_some h25
    obtain ⟨a9027, r9028, rfl, h29⟩ := uncA_some h26
    obtain ⟨s9030, rfl, h31⟩ := scK_some h29
    obtain ⟨x3, rfl, h32⟩ := cI_some h31
    obtain ⟨rfl, h33⟩ := endL_some h32
    rfl
  refine callOK_of (fn := Go.Proofs.Try.f82) (c := (match Go.Proofs.Try.f82.body with | some c => c | none => .skip)) (by kernel_rfl) (by kernel_rfl) (by kernel_rfl) (by rw [hl]; kernel_rfl) (by kernel_rfl) ?_
  rw [hl]
  exact hr
noncomputable def plans83 (i : Nat) : Plan := []
noncomputable def T83 (p : Nat) : List Item × List Nat := bif Nat.beq p 0 then ([.code (match Go.Proofs.Try.f83.body with | some c => c | none => .skip)], [0, 1, 2]) else
  bif Nat.beq p 2 then (navs [.op, .op] [.code (match Go.Proofs.Try.f83.body with | some c => c | none => .skip)], [1, 15]) else
  ([], [])
noncomputable def X83_0 : X := (.op (.op (.jmp 2 [1, 15])))
noncomputable def X83_2 : X := (.br (.op .ret) (.op .ret))
noncomputable def A83_0 (D J : Disp) (vals : List AV) (S : St) (K : AV → St → Prop) : Prop := req (Nat.beq vals.length 3) (execK IrP IrG Go.Proofs.Try.f83 (typed IrP D) J plans83 X83_0 (T83 0).1 (envOf (T83 0).2 vals) S K)
theorem A83_0_ok {D J : Disp} (hD : DOK IrP IrG D) (hJ : JOK IrP IrG Go.Proofs.Try.f83 T83 J) {vals : List AV} {S : St} {K : AV → St → Prop} (h0 : A83_0 D J vals S K) : Runs IrP IrG Go.Proofs.Try.f83 (T83 0).1 (envOf (T83 0).2 vals) S K :=
  execK_runs hD.typed Ir_zero Ir_mixed hJ X83_0 (T83 0).1 (envOf (T83 0).2 vals) S K (chk_of (by kernel_rfl) (by kernel_rfl)) (req_and h0).2
noncomputable def A83_2 (D J : Disp) (vals : List AV) (S : St) (K : AV → St → Prop) : Prop := req (Nat.beq vals.length 2) (execK IrP IrG Go.Proofs.Try.f83 (typed IrP D) J plans83 X83_2 (T83 2).1 (envOf (T83 2).2 vals) S K)
theorem A83_2_ok {D J : Disp} (hD : DOK IrP IrG D) (hJ : JOK IrP IrG Go.Proofs.Try.f83 T83 J) {vals : List AV} {S : St} {K : AV → St → Prop} (h0 : A83_2 D J vals S K) : Runs IrP IrG Go.Proofs.Try.f83 (T83 2).1 (envOf (T83 2).2 vals) S K :=
  execK_runs hD.typed Ir_zero Ir_mixed hJ X83_2 (T83 2).1 (envOf (T83 2).2 vals) S K (chk_of (by kernel_rfl) (by kernel_rfl)) (req_and h0).2
noncomputable def J83 (D : Disp) (k : Nat) : Disp := Nat.rec (motive := fun _ => Disp) Disp.no (fun _ ih => Disp.add 0 (A83_0 D ih) <| Disp.add 2 (A83_2 D ih) <| Disp.no) k
theorem J83_ok {D : Disp} (hD : DOK IrP IrG D) : ∀ k, JOK IrP IrG Go.Proofs.Try.f83 T83 (J83 D k)
  | 0 => JOK.no
  | k + 1 => JOK.add (ltB_ok (by kernel_rfl)) (fun vals S K h => A83_0_ok hD (J83_ok hD k) h) <| JOK.add (ltB_ok (by kernel_rfl)) (fun vals S K h => A83_2_ok hD (J83_ok hD k) h) <| JOK.no
theorem E83_ok {D : Disp} (hD : DOK IrP IrG D) (k : Nat) {args : List AV} {S : St} {K : AV → St → Prop} (h : A83_0 D (J83 D k) args S K) : CallE IrP IrG 83 args S K := by
  have hr := A83_0_ok hD (J83_ok hD k) h
  have hl : args.length = 3 := Nat.eq_of_beq_eq_true (req_and h).1
  refine callOK_of (fn := Go.Proofs.Try.f83) (c := (match Go.Proofs.Try.f83.body with | some c => c | none => .skip)) (by kernel_rfl) (by kernel_rfl) (by kernel_rfl) (by rw [hl]; kernel_rfl) (by kernel_rfl) ?_
  rw [hl]
  exact hr
noncomputable def plans84 (i : Nat) : Plan := []
noncomputable def T84 (p : Nat) : List Item × List Nat := bif Nat.beq p 0 then ([.code (match Go.Proofs.Try.f84.body with | some c => c | none => .skip)], [0, 1]) else
  ([], [])
noncomputable def X84_0 : X := (.op (.op (.op (.br (.op .ret) (.op .ret)))))
noncomputable def A84_0 (D J : Disp) (vals : List AV) (S : St) (K : AV → St → Prop) : Prop := req (Nat.beq vals.length 2) (execK IrP IrG Go.Proofs.Try.f84 (typed IrP D) J plans84 X84_0 (T84 0).1 (envOf (T84 0).2 vals) S K)
theorem A84_0_ok {D J : Disp} (hD : DOK IrP IrG D) (hJ : JOK IrP IrG Go.Proofs.Try.f84 T84 J) {vals : List AV} {S : St} {K : AV → St → Prop} (h0 : A84_0 D J vals S K) : Runs IrP IrG Go.Proofs.Try.f84 (T84 0).1 (envOf (T84 0).2 vals) S K :=
  execK_runs hD.typed Ir_zero Ir_mixed hJ X84_0 (T84 0).1 (envOf (T84 0).2 vals) S K (chk_of (by kernel_rfl) (by kernel_rfl)) (req_and h0).2
noncomputable def J84 (D : Disp) (k : Nat) : Disp := Nat.rec (motive := fun _ => Disp) Disp.no (fun _ ih => Disp.add 0 (A84_0 D ih) <| Disp.no) k
theorem J84_ok {D : Disp} (hD : DOK IrP IrG D) : ∀ k, JOK IrP IrG Go.Proofs.Try.f84 T84 (J84 D k)
  | 0 => JOK.no
  | k + 1 => JOK.add (ltB_ok (by kernel_rfl)) (fun vals S K h => A84_0_ok hD (J84_ok hD k) h) <| JOK.no
theorem E84_ok {D : Disp} (hD : DOK IrP IrG D) (k : Nat) {args : List AV} {S : St} {K : AV → St → Prop} (h : A84_0 D (J84 D k) args S K) : CallE IrP IrG 84 args S K := by
  have hr := A84_0_ok hD (J84_ok hD k) h
  have hl : args.length = 2 := Nat.eq_of_beq_eq_true (req_and h).1
  refine callOK_of (fn := Go.Proofs.Try.f84) (c := (match Go.Proofs.Try.f84.body with | some c => c | none => .skip)) (by kernel_rfl) (by kernel_rfl) (by kernel_rfl) (by rw [hl]; kernel_rfl) (by kernel_rfl) ?_
  rw [hl]
  exact hr
noncomputable def plans85 (i : Nat) : Plan := []
noncomputable def T85 (p : Nat) : List Item × List Nat := bif Nat.beq p 0 then ([.code (match Go.Proofs.Try.f85.body with | some c => c | none => .skip)], [0, 1, 2, 3]) else
  bif Nat.beq p 2 then (navs [.op, .op] [.code (match Go.Proofs.Try.f85.body with | some c => c | none => .skip)], [2, 3, 4, 10]) else
  bif Nat.beq p 3 then (navs [.op, .op, .op] [.code (match Go.Proofs.Try.f85.body with | some c => c | none => .skip)], [2, 3, 4, 10, 17]) else
  bif Nat.beq p 7 then (navs [.op, .op, .op, .el, .op] [.code (match Go.Proofs.Try.f85.body with | some c => c | none => .skip)], [2, 3, 4, 10, 34]) else
  ([], [])
noncomputable def F85_q5 (D J : Disp) (S : St) (x1 : Int) (x2 : Int) (x3 : Int) (S300 : St) (c301 : Bool) (K : AV → St → Prop) : Prop :=
 ifK c301
 (J 2 [(AV.one (V1.s (SV.int IntKind.i64 x2))), (AV.one (V1.s (SV.int IntKind.i64 x3))), (AV.one (V1.s (SV.ptr (PV.mk (Bk.new (St.next S)) 0)))), (AV.one (V1.s (SV.bool Bool.true)))] S300 K)
 (letK (α := Bool) ((ieq x1 (7 : Int))) fun c302 =>
 J 2 [(AV.one (V1.s (SV.int IntKind.i64 x2))), (AV.one (V1.s (SV.int IntKind.i64 x3))), (AV.one (V1.s (SV.ptr (PV.mk (Bk.new (St.next S)) 0)))), (AV.one (V1.s (SV.bool c302)))] S300 K)
noncomputable def F85_0 (D J : Disp) (x0_0 : Int) (c0_1 : Bool) (x1 : Int) (x2 : Int) (x3 : Int) (S : St) (K : AV → St → Prop) : Prop :=
 letK (α := St) ((St.add S (AO.cells [(SV.int IntKind.i64 x0_0), (SV.bool c0_1)] (Op2.ty 23)))) fun S300 =>
 letK (α := Bool) ((ieq x1 (5 : Int))) fun c301 =>
 F85_q5 D J S x1 x2 x3 S300 c301 K
noncomputable def X85_0 : X := (.op (.op (.jmp 2 [2, 3, 4, 10])))
theorem F85_0_eq (D J : Disp) (x0_0 : Int) (c0_1 : Bool) (x1 : Int) (x2 : Int) (x3 : Int) (S : St) (K : AV → St → Prop) : F85_0 D J x0_0 c0_1 x1 x2 x3 S K = execK IrP IrG Go.Proofs.Try.f85 (typed IrP D) J plans85 X85_0 (T85 0).1 (envOf (T85 0).2 [(AV.one (V1.agg [(SV.int IntKind.i64 x0_0), (SV.bool c0_1)])), (AV.one (V1.s (SV.int IntKind.i64 x1))), (AV.one (V1.s (SV.int IntKind.i64 x2))), (AV.one (V1.s (SV.int IntKind.i64 x3)))]) S K := by kernel_rfl
noncomputable def F85_q6 (D J : Disp) (S : St) (x2 : Int) (x3 : Int) (p4 : PV) (c10 : Bool) (K : AV → St → Prop) : Prop :=
 PV.cs p4 fun b310 n311 =>
 St.at S b310 n311 fun y312 =>
 uncK y312 fun v313 y314 =>
 SV.cI IntKind.i64 v313 fun x318 =>
 uncK y314 fun v319 y320 =>
 SV.cB v319 fun y322 =>
 D 92 [(AV.one (V1.agg [(SV.int IntKind.i64 x318), (SV.bool y322)]))] S fun v323 S324 =>
 scK v323 fun v326 =>
 SV.cI IntKind.i64 v326 fun x329 =>
 letK (α := Bool) ((ieq x2 x329)) fun c330 =>
 J 3 [(AV.one (V1.s (SV.int IntKind.i64 x2))), (AV.one (V1.s (SV.int IntKind.i64 x3))), (AV.one (V1.s (SV.ptr p4))), (AV.one (V1.s (SV.bool c10))), (AV.one (V1.s (SV.bool c330)))] S324 K
noncomputable def F85_q7 (D J : Disp) (S : St) (x2 : Int) (x3 : Int) (p4 : PV) (c10 : Bool) (y308 : Bool) (K : AV → St → Prop) : Prop :=
 ifK y308
 (letK (α := Bool) ((ieq x3 (Int.negSucc 0))) fun c309 =>
 ifK c309
 (F85_q6 D J S x2 x3 p4 c10 K)
 (J 3 [(AV.one (V1.s (SV.int IntKind.i64 x2))), (AV.one (V1.s (SV.int IntKind.i64 x3))), (AV.one (V1.s (SV.ptr p4))), (AV.one (V1.s (SV.bool c10))), (AV.one (V1.s (SV.bool Bool.false)))] S K))
 (J 3 [(AV.one (V1.s (SV.int IntKind.i64 x2))), (AV.one (V1.s (SV.int IntKind.i64 x3))), (AV.one (V1.s (SV.ptr p4))), (AV.one (V1.s (SV.bool c10))), (AV.one (V1.s (SV.bool Bool.false)))] S K)
noncomputable def F85_2 (D J : Disp) (x2 : Int) (x3 : Int) (p4 : PV) (c10 : Bool) (S : St) (K : AV → St → Prop) : Prop :=
 letK (α := Bool) ((ieq x3 (0 : Int))) fun c300 =>
 ifK c300
 (J 3 [(AV.one (V1.s (SV.int IntKind.i64 x2))), (AV.one (V1.s (SV.int IntKind.i64 x3))), (AV.one (V1.s (SV.ptr p4))), (AV.one (V1.s (SV.bool c10))), (AV.one (V1.s (SV.bool Bool.true)))] S K)
 (PV.cs p4 fun b301 n302 =>
 letK (α := Nat) ((n302 + 1)) fun n303 =>
 St.at S b301 n303 fun y304 =>
 uncK y304 fun v305 y306 =>
 SV.cB v305 fun y308 =>
 F85_q7 D J S x2 x3 p4 c10 y308 K)
noncomputable def X85_2 : X := (.op (.jmp 3 [2, 3, 4, 10, 17]))
theorem F85_2_eq (D J : Disp) (x2 : Int) (x3 : Int) (p4 : PV) (c10 : Bool) (S : St) (K : AV → St → Prop) : F85_2 D J x2 x3 p4 c10 S K = execK IrP IrG Go.Proofs.Try.f85 (typed IrP D) J plans85 X85_2 (T85 2).1 (envOf (T85 2).2 [(AV.one (V1.s (SV.int IntKind.i64 x2))), (AV.one (V1.s (SV.int IntKind.i64 x3))), (AV.one (V1.s (SV.ptr p4))), (AV.one (V1.s (SV.bool c10)))]) S K := by kernel_rfl
noncomputable def F85_q8 (D J : Disp) (S : St) (x2 : Int) (x3 : Int) (p4 : PV) (c10 : Bool) (b300 : Bk) (n302 : Nat) (K : AV → St → Prop) : Prop :=
 St.at S b300 n302 fun y303 =>
 uncK y303 fun v304 y305 =>
 SV.cB v304 fun y307 =>
 letK (α := Bool) ((Bool.not y307)) fun c308 =>
 ifK c308
 (J 7 [(AV.one (V1.s (SV.int IntKind.i64 x2))), (AV.one (V1.s (SV.int IntKind.i64 x3))), (AV.one (V1.s (SV.ptr p4))), (AV.one (V1.s (SV.bool c10))), (AV.one (V1.s (SV.bool c10)))] S K)
 (J 7 [(AV.one (V1.s (SV.int IntKind.i64 x2))), (AV.one (V1.s (SV.int IntKind.i64 x3))), (AV.one (V1.s (SV.ptr p4))), (AV.one (V1.s (SV.bool c10))), (AV.one (V1.s (SV.bool Bool.false)))] S K)
noncomputable def F85_3 (D J : Disp) (x2 : Int) (x3 : Int) (p4 : PV) (c10 : Bool) (c17 : Bool) (S : St) (K : AV → St → Prop) : Prop :=
 ifK c17
 (K ((AV.tup [(V1.s (SV.int IntKind.i64 (0 : Int))), (V1.s (SV.bool Bool.false))])) S)
 (PV.cs p4 fun b300 n301 =>
 letK (α := Nat) ((n301 + 1)) fun n302 =>
 F85_q8 D J S x2 x3 p4 c10 b300 n302 K)
noncomputable def X85_3 : X := (.br (.op .ret) (.op (.jmp 7 [2, 3, 4, 10, 34])))
theorem F85_3_eq (D J : Disp) (x2 : Int) (x3 : Int) (p4 : PV) (c10 : Bool) (c17 : Bool) (S : St) (K : AV → St → Prop) : F85_3 D J x2 x3 p4 c10 c17 S K = execK IrP IrG Go.Proofs.Try.f85 (typed IrP D) J plans85 X85_3 (T85 3).1 (envOf (T85 3).2 [(AV.one (V1.s (SV.int IntKind.i64 x2))), (AV.one (V1.s (SV.int IntKind.i64 x3))), (AV.one (V1.s (SV.ptr p4))), (AV.one (V1.s (SV.bool c10))), (AV.one (V1.s (SV.bool c17)))]) S K := by kernel_rfl
noncomputable def F85_q9 (D J : Disp) (S : St) (x2 : Int) (x3 : Int) (c10 : Bool) (c312 : Bool) (K : AV → St → Prop) : Prop :=
 ifK c312
 (letK (α := Int) ((iwrap IntKind.u64 x2)) fun x313 =>
 letK (α := Int) ((iwrap IntKind.u64 x3)) fun x314 =>
 req (Bool.not (ieq x314 (0 : Int))) <|
 letK (α := Int) ((iwrap IntKind.u64 (Int.tdiv x313 x314))) fun x315 =>
 letK (α := Int) ((iwrap IntKind.i64 x315)) fun x316 =>
 K ((AV.tup [(V1.s (SV.int IntKind.i64 x316)), (V1.s (SV.bool Bool.true))])) S)
 (ifK c10
 (req (Bool.not (ieq x3 (0 : Int))) <|
 letK (α := Int) ((Int.tmod x2 x3)) fun x317 =>
 K ((AV.tup [(V1.s (SV.int IntKind.i64 x317)), (V1.s (SV.bool Bool.true))])) S)
 (req (Bool.not (ieq x3 (0 : Int))) <|
 letK (α := Int) ((iwrap IntKind.i64 (Int.tdiv x2 x3))) fun x318 =>
 K ((AV.tup [(V1.s (SV.int IntKind.i64 x318)), (V1.s (SV.bool Bool.true))])) S))
noncomputable def F85_7 (D J : Disp) (x2 : Int) (x3 : Int) (p4 : PV) (c10 : Bool) (c34 : Bool) (S : St) (K : AV → St → Prop) : Prop :=
 ifK c34
 (letK (α := Int) ((iwrap IntKind.u64 x2)) fun x300 =>
 letK (α := Int) ((iwrap IntKind.u64 x3)) fun x301 =>
 req (Bool.not (ieq x301 (0 : Int))) <|
 letK (α := Int) ((Int.tmod x300 x301)) fun x302 =>
 letK (α := Int) ((iwrap IntKind.i64 x302)) fun x303 =>
 K ((AV.tup [(V1.s (SV.int IntKind.i64 x303)), (V1.s (SV.bool Bool.true))])) S)
 (PV.cs p4 fun b304 n305 =>
 letK (α := Nat) ((n305 + 1)) fun n306 =>
 St.at S b304 n306 fun y307 =>
 uncK y307 fun v308 y309 =>
 SV.cB v308 fun y311 =>
 letK (α := Bool) ((Bool.not y311)) fun c312 =>
 F85_q9 D J S x2 x3 c10 c312 K)
noncomputable def X85_7 : X := (.br (.op .ret) (.op (.br (.op .ret) (.op (.br (.op .ret) (.op .ret))))))
theorem F85_7_eq (D J : Disp) (x2 : Int) (x3 : Int) (p4 : PV) (c10 : Bool) (c34 : Bool) (S : St) (K : AV → St → Prop) : F85_7 D J x2 x3 p4 c10 c34 S K = execK IrP IrG Go.Proofs.Try.f85 (typed IrP D) J plans85 X85_7 (T85 7).1 (envOf (T85 7).2 [(AV.one (V1.s (SV.int IntKind.i64 x2))), (AV.one (V1.s (SV.int IntKind.i64 x3))), (AV.one (V1.s (SV.ptr p4))), (AV.one (V1.s (SV.bool c10))), (AV.one (V1.s (SV.bool c34)))]) S K := by kernel_rfl
noncomputable abbrev A85_0 (D J : Disp) (vals : List AV) (S : St) (K : AV → St → Prop) : Prop :=
  uncA vals fun a9001 r9002 => avA a9001 fun l9004 => uncK l9004 fun s9006 r9007 => SV.cI IntKind.i64 s9006 fun x0_0 => uncK r9007 fun s9010 r9011 => SV.cB s9010 fun c0_1 => endL r9011 <| uncA r9002 fun a9015 r9016 => scK a9015 fun s9018 => SV.cI IntKind.i64 s9018 fun x1 => uncA r9016 fun a9021 r9022 => scK a9021 fun s9024 => SV.cI IntKind.i64 s9024 fun x2 => uncA r9022 fun a9027 r9028 => scK a9027 fun s9030 => SV.cI IntKind.i64 s9030 fun x3 => endL r9028 <| F85_0 D J x0_0 c0_1 x1 x2 x3 S K
theorem A85_0_ok {D J : Disp} (hD : DOK IrP IrG D) (hJ : JOK IrP IrG Go.Proofs.Try.f85 T85 J) {vals : List AV} {S : St} {K : AV → St → Prop} (h0 : A85_0 D J vals S K) : Runs IrP IrG Go.Proofs.Try.f85 (T85 0).1 (envOf (T85 0).2 vals) S K := by
  obtain ⟨a9001, r9002, rfl, h3⟩ := uncA_some h0
  obtain ⟨l9004, rfl, h5⟩ := avA_some h3
  obtain ⟨s9006, r9007, rfl, h8⟩ := uncK_some h5
  obtain ⟨x0_0, rfl, h9⟩ := cI_some h8
  obtain ⟨s9010, r9011, rfl, h12⟩ := uncK_some h9
  obtain ⟨c0_1, rfl, h13⟩ := cB_some h12
  obtain ⟨rfl, h14⟩ := endL_some h13
  obtain ⟨a9015, r9016, rfl, h17⟩ := uncA_some h14
  obtain ⟨s9018, rfl, h19⟩ := scK_some h17
  obtain ⟨x1, rfl, h20⟩ := cI_some h19
  obtain ⟨a9021, r9022, rfl, h23⟩ := uncA_some h20
  obtain ⟨s9024, rfl, h25⟩ := scK_some h23
  obtain ⟨x2, rfl, h26⟩ := cI_some h25
  obtain ⟨a9027, r9028, rfl, h29⟩ := uncA_some h26
  obtain ⟨s9030, rfl, h31⟩ := scK_some h29
  obtain ⟨x3, rfl, h32⟩ := cI_some h31
  obtain ⟨rfl, h33⟩ := endL_some h32
  have hq := Eq.mp (F85_0_eq D J x0_0 c0_1 x1 x2 x3 S K) h33
  exact execK_runs hD.typed Ir_zero Ir_mixed hJ X85_0 (T85 0).1 (envOf (T85 0).2 _) S K (chk_of (by kernel_rfl) (by kernel_rfl)) hq
noncomputable abbrev A85_2 (D J : Disp) (vals : List AV) (S : St) (K : AV → St → Prop) : Prop :=
  uncA vals fun a9001 r9002 => scK a9001 fun s9004 => SV.cI IntKind.i64 s9004 fun x2 => uncA r9002 fun a9007 r9008 => scK a9007 fun s9010 => SV.cI IntKind.i64 s9010 fun x3 => uncA r9008 fun a9013 r9014 => scK a9013 fun s9016 => SV.cP s9016 fun p4 => uncA r9014 fun a9019 r9020 => scK a9019 fun s9022 => SV.cB s9022 fun c10 => endL r9020 <| F85_2 D J x2 x3 p4 c10 S K
theorem A85_2_ok {D J : Disp} (hD : DOK IrP IrG D) (hJ : JOK IrP IrG Go.Proofs.Try.f85 T85 J) {vals : List AV} {S : St} {K : AV → St → Prop} (h0 : A85_2 D J vals S K) : Runs IrP IrG Go.Proofs.Try.f85 (T85 2).1 (envOf (T85 2).2 vals) S K := by
  obtain ⟨a9001, r9002, rfl, h3⟩ := uncA_some h0
  obtain ⟨s9004, rfl, h5⟩ := scK_some h3
  obtain ⟨x2, rfl, h6⟩ := cI_some h5
  obtain ⟨a9007, r9008, rfl, h9⟩ := uncA_some h6
  obtain ⟨s9010, rfl, h11⟩ := scK_some h9
  obtain ⟨x3, rfl, h12⟩ := cI_some h11
  obtain ⟨a9013, r9014, rfl, h15⟩ := uncA_some h12
  obtain ⟨s9016, rfl, h17⟩ := scK_some h15
  obtain ⟨p4, rfl, h18⟩ := cP_some h17
  obtain ⟨a9019, r9020, rfl, h21⟩ := uncA_some h18
  obtain ⟨s9022, rfl, h23⟩ := scK_some h21
  obtain ⟨c10, rfl, h24⟩ := cB_some h23
  obtain ⟨rfl, h25⟩ := endL_some h24
  have hq := Eq.mp (F85_2_eq D J x2 x3 p4 c10 S K) h25
  exact execK_runs hD.typed Ir_zero Ir_mixed hJ X85_2 (T85 2).1 (envOf (T85 2).2 _) S K (chk_of (by kernel_rfl) (by kernel_rfl)) hq
noncomputable abbrev A85_3 (D J : Disp) (vals : List AV) (S : St) (K : AV → St → Prop) : Prop :=
  uncA vals fun a9001 r9002 => scK a9001 fun s9004 => SV.cI IntKind.i64 s9004 fun x2 => uncA r9002 fun a9007 r9008 => scK a9007 fun s9010 => SV.cI IntKind.i64 s9010 fun x3 => uncA r9008 fun a9013 r9014 => scK a9013 fun s9016 => SV.cP s9016 fun p4 => uncA r9014 fun a9019 r9020 => scK a9019 fun s9022 => SV.cB s9022 fun c10 => uncA r9020 fun a9025 r9026 => scK a9025 fun s9028 => SV.cB s9028 fun c17 => endL r9026 <| F85_3 D J x2 x3 p4 c10 c17 S K
theorem A85_3_ok {D J : Disp} (hD : DOK IrP IrG D) (hJ : JOK IrP IrG Go.Proofs.Try.f85 T85 J) {vals : List AV} {S : St} {K : AV → St → Prop} (h0 : A85_3 D J vals S K) : Runs IrP IrG Go.Proofs.Try.f85 (T85 3).1 (envOf (T85 3).2 vals) S K := by
  obtain ⟨a9001, r9002, rfl, h3⟩ := uncA_some h0
  obtain ⟨s9004, rfl, h5⟩ := scK_some h3
  obtain ⟨x2, rfl, h6⟩ := cI_some h5
  obtain ⟨a9007, r9008, rfl, h9⟩ := uncA_some h6
  obtain ⟨s9010, rfl, h11⟩ := scK_some h9
  obtain ⟨x3, rfl, h12⟩ := cI_some h11
  obtain ⟨a9013, r9014, rfl, h15⟩ := uncA_some h12
  obtain ⟨s9016, rfl, h17⟩ := scK_some h15
  obtain ⟨p4, rfl, h18⟩ := cP_some h17
  obtain ⟨a9019, r9020, rfl, h21⟩ := uncA_some h18
  obtain ⟨s9022, rfl, h23⟩ := scK_some h21
  obtain ⟨c10, rfl, h24⟩ := cB_some h23
  obtain ⟨a9025, r9026, rfl, h27⟩ := uncA_some h24
  obtain ⟨s9028, rfl, h29⟩ := scK_some h27
  obtain ⟨c17, rfl, h30⟩ := cB_some h29
  obtain ⟨rfl, h31⟩ := endL_some h30
  have hq := Eq.mp (F85_3_eq D J x2 x3 p4 c10 c17 S K) h31
  exact execK_runs hD.typed Ir_zero Ir_mixed hJ X85_3 (T85 3).1 (envOf (T85 3).2 _) S K (chk_of (by kernel_rfl) (by kernel_rfl)) hq
noncomputable abbrev A85_7 (D J : Disp) (vals : List AV) (S : St) (K : AV → St → Prop) : Prop :=
  uncA vals fun a9001 r9002 => scK a9001 fun s9004 => SV.cI IntKind.i64 s9004 fun x2 => uncA r9002 fun a9007 r9008 => scK a9007 fun s9010 => SV.cI IntKind.i64 s9010 fun x3 => uncA r9008 fun a9013 r9014 => scK a9013 fun s9016 => SV.cP s9016 fun p4 => uncA r9014 fun a9019 r9020 => scK a9019 fun s9022 => SV.cB s9022 fun c10 => uncA r9020 fun a9025 r9026 => scK a9025 fun s9028 => SV.cB s9028 fun c34 => endL r9026 <| F85_7 D J x2 x3 p4 c10 c34 S K
theorem A85_7_ok {D J : Disp} (hD : DOK IrP IrG D) (hJ : JOK IrP IrG Go.Proofs.Try.f85 T85 J) {vals : List AV} {S : St} {K : AV → St → Prop} (h0 : A85_7 D J vals S K) : Runs IrP IrG Go.Proofs.Try.f85 (T85 7).1 (envOf (T85 7).2 vals) S K := by
  obtain ⟨a9001, r9002, rfl, h3⟩ := uncA_some h0
  obtain ⟨s9004, rfl, h5⟩ := scK_some h3
  obtain ⟨x2, rfl, h6⟩ := cI_some h5
  obtain ⟨a9007, r9008, rfl, h9⟩ := uncA_some h6
  obtain ⟨s9010, rfl, h11⟩ := scK_some h9
  obtain ⟨x3, rfl, h12⟩ := cI_some h11
  obtain ⟨a9013, r9014, rfl, h15⟩ := uncA_some h12
  obtain ⟨s9016, rfl, h17⟩ := scK_some h15
  obtain ⟨p4, rfl, h18⟩ := cP_some h17
  obtain ⟨a9019, r9020, rfl, h21⟩ := uncA_some h18
  obtain ⟨s9022, rfl, h23⟩ := scK_some h21
  obtain ⟨c10, rfl, h24⟩ := cB_some h23
  obtain ⟨a9025, r9026, rfl, h27⟩ := uncA_some h24
  obtain ⟨s9028, rfl, h29⟩ := scK_some h27
  obtain ⟨c34, rfl, h30⟩ := cB_some h29
  obtain ⟨rfl, h31⟩ := endL_some h30
  have hq := Eq.mp (F85_7_eq D J x2 x3 p4 c10 c34 S K) h31
  exact execK_runs hD.typed Ir_zero Ir_mixed hJ X85_7 (T85 7).1 (envOf (T85 7).2 _) S K (chk_of (by kernel_rfl) (by kernel_rfl)) hq
noncomputable def J85 (D : Disp) (k : Nat) : Disp := Nat.rec (motive := fun _ => Disp) Disp.no (fun _ ih => Disp.add 0 (A85_0 D ih) <| Disp.add 2 (A85_2 D ih) <| Disp.add 3 (A85_3 D ih) <| Disp.add 7 (A85_7 D ih) <| Disp.no) k
theorem J85_ok {D : Disp} (hD : DOK IrP IrG D) : ∀ k, JOK IrP IrG Go.Proofs.Try.f85 T85 (J85 D k)
  | 0 => JOK.no
  | k + 1 => JOK.add (ltB_ok (by kernel_rfl)) (fun vals S K h => A85_0_ok hD (J85_ok hD k) h) <| JOK.add (ltB_ok (by kernel_rfl)) (fun vals S K h => A85_2_ok hD (J85_ok hD k) h) <| JOK.add (ltB_ok (by kernel_rfl)) (fun vals S K h => A85_3_ok hD (J85_ok hD k) h) <| JOK.add (ltB_ok (by kernel_rfl)) (fun vals S K h => A85_7_ok hD (J85_ok hD k) h) <| JOK.no
theorem E85_ok {D : Disp} (hD : DOK IrP IrG D) (k : Nat) {args : List AV} {S : St} {K : AV → St → Prop} (h : A85_0 D (J85 D k) args S K) : CallE IrP IrG 85 args S K := by
  have hr := A85_0_ok hD (J85_ok hD k) h
  have hl : args.length = 4 := by
    have h0 := h
    obtain ⟨a9001, r9002, rfl, h3⟩ := uncA_some h0
    obtain ⟨l9004, rfl, h5⟩ := avA_some h3
    obtain ⟨s9006, r9007, rfl, h8⟩ := uncK_some h5
    obtain ⟨x0_0, rfl, h9⟩ := cI_some h8
    obtain ⟨s9010, r9011, rfl, h12⟩ := uncK_some h9
    obtain ⟨c0_1, rfl, h13⟩ := cB_some h12
    obtain ⟨rfl, h14⟩ := endL_some h13
    obtain ⟨a9015, r9016, rfl, h17⟩ := uncA_some h14
    obtain ⟨s9018, rfl, h19⟩ := scK_some h17
    obtain ⟨x1, rfl, h20⟩ := cI_some h19
    obtain ⟨a9021, r9022, rfl, h23⟩ := uncA_some h20
    obtain ⟨s9024, rfl, h25⟩ := scK_some h23
    obtain ⟨x2, rfl, h26⟩ := cI_some h25
    obtain ⟨a9027, r9028, rfl, h29⟩ := uncA_some h26
    obtain ⟨s9030, rfl, h31⟩ := scK_some h29
    obtain ⟨x3, rfl, h32⟩ := cI_some h31
    obtain ⟨rfl, h33⟩ := endL_some h32
    rfl
  refine callOK_of (fn := Go.Proofs.Try.f85) (c := (match Go.Proofs.Try.f85.body with | some c => c | none => .skip)) (by kernel_rfl) (by kernel_rfl) (by kernel_rfl) (by rw [hl]; kernel_rfl) (by kernel_rfl) ?_
  rw [hl]
  exact hr
noncomputable def plans86 (i : Nat) : Plan := []
noncomputable def T86 (p : Nat) : List Item × List Nat := bif Nat.beq p 0 then ([.code (match Go.Proofs.Try.f86.body with | some c => c | none => .skip)], [0]) else
  ([], [])
noncomputable def F86_0 (D J : Disp) (c0 : Bool) (S : St) (K : AV → St → Prop) : Prop :=
 ifK c0
 (K ((AV.tup [(V1.s (SV.int IntKind.i64 (1 : Int))), (V1.s (SV.bool Bool.true))])) S)
 (K ((AV.tup [(V1.s (SV.int IntKind.i64 (0 : Int))), (V1.s (SV.bool Bool.true))])) S)
noncomputable def X86_0 : X := (.op (.op (.br (.op .ret) (.op .ret))))
theorem F86_0_eq (D J : Disp) (c0 : Bool) (S : St) (K : AV → St → Prop) : F86_0 D J c0 S K = execK IrP IrG Go.Proofs.Try.f86 (typed IrP D) J plans86 X86_0 (T86 0).1 (envOf (T86 0).2 [(AV.one (V1.s (SV.bool c0)))]) S K := by kernel_rfl
noncomputable abbrev A86_0 (D J : Disp) (vals : List AV) (S : St) (K : AV → St → Prop) : Prop :=
  uncA vals fun a9001 r9002 => scK a9001 fun s9004 => SV.cB s9004 fun c0 => endL r9002 <| F86_0 D J c0 S K
theorem A86_0_ok {D J : Disp} (hD : DOK IrP IrG D) (hJ : JOK IrP IrG Go.Proofs.Try.f86 T86 J) {vals : List AV} {S : St} {K : AV → St → Prop} (h0 : A86_0 D J vals S K) : Runs IrP IrG Go.Proofs.Try.f86 (T86 0).1 (envOf (T86 0).2 vals) S K := by
  obtain ⟨a9001, r9002, rfl, h3⟩ := uncA_some h0
  obtain ⟨s9004, rfl, h5⟩ := scK_some h3
  obtain ⟨c0, rfl, h6⟩ := cB_some h5
  obtain ⟨rfl, h7⟩ := endL_some h6
  have hq := Eq.mp (F86_0_eq D J c0 S K) h7
  exact execK_runs hD.typed Ir_zero Ir_mixed hJ X86_0 (T86 0).1 (envOf (T86 0).2 _) S K (chk_of (by kernel_rfl) (by kernel_rfl)) hq
noncomputable def J86 (D : Disp) (k : Nat) : Disp := Nat.rec (motive := fun _ => Disp) Disp.no (fun _ ih => Disp.add 0 (A86_0 D ih) <| Disp.no) k
theorem J86_ok {D : Disp} (hD : DOK IrP IrG D) : ∀ k, JOK IrP IrG Go.Proofs.Try.f86 T86 (J86 D k)
  | 0 => JOK.no
  | k + 1 => JOK.add (ltB_ok (by kernel_rfl)) (fun vals S K h => A86_0_ok hD (J86_ok hD k) h) <| JOK.no
theorem E86_ok {D : Disp} (hD : DOK IrP IrG D) (k : Nat) {args : List AV} {S : St} {K : AV → St → Prop} (h : A86_0 D (J86 D k) args S K) : CallE IrP IrG 86 args S K := by
  have hr := A86_0_ok hD (J86_ok hD k) h
  have hl : args.length = 1 := by
    have h0 := h
    obtain ⟨a9001, r9002, rfl, h3⟩ := uncA_some h0
    obtain ⟨s9004, rfl, h5⟩ := scK_some h3
    obtain ⟨c0, rfl, h6⟩ := cB_some h5
    obtain ⟨rfl, h7⟩ := endL_some h6
    rfl
  refine callOK_of (fn := Go.Proofs.Try.f86) (c := (match Go.Proofs.Try.f86.body with | some c => c | none => .skip)) (by kernel_rfl) (by kernel_rfl) (by kernel_rfl) (by rw [hl]; kernel_rfl) (by kernel_rfl) ?_
  rw [hl]
  exact hr
noncomputable def plans87 (i : Nat) : Plan := []
noncomputable def T87 (p : Nat) : List Item × List Nat := bif Nat.beq p 0 then ([.code (match Go.Proofs.Try.f87.body with | some c => c | none => .skip)], [0, 1, 2]) else
  ([], [])
noncomputable def X87_0 : X := (.op (.op (.br (.op .ret) (.op .ret))))
noncomputable def A87_0 (D J : Disp) (vals : List AV) (S : St) (K : AV → St → Prop) : Prop := req (Nat.beq vals.length 3) (execK IrP IrG Go.Proofs.Try.f87 (typed IrP D) J plans87 X87_0 (T87 0).1 (envOf (T87 0).2 vals) S K)
theorem A87_0_ok {D J : Disp} (hD : DOK IrP IrG D) (hJ : JOK IrP IrG Go.Proofs.Try.f87 T87 J) {vals : List AV} {S : St} {K : AV → St → Prop} (h0 : A87_0 D J vals S K) : Runs IrP IrG Go.Proofs.Try.f87 (T87 0).1 (envOf (T87 0).2 vals) S K :=
  execK_runs hD.typed Ir_zero Ir_mixed hJ X87_0 (T87 0).1 (envOf (T87 0).2 vals) S K (chk_of (by kernel_rfl) (by kernel_rfl)) (req_and h0).2
noncomputable def J87 (D : Disp) (k : Nat) : Disp := Nat.rec (motive := fun _ => Disp) Disp.no (fun _ ih => Disp.add 0 (A87_0 D ih) <| Disp.no) k
theorem J87_ok {D : Disp} (hD : DOK IrP IrG D) : ∀ k, JOK IrP IrG Go.Proofs.Try.f87 T87 (J87 D k)
  | 0 => JOK.no
  | k + 1 => JOK.add (ltB_ok (by kernel_rfl)) (fun vals S K h => A87_0_ok hD (J87_ok hD k) h) <| JOK.no
theorem E87_ok {D : Disp} (hD : DOK IrP IrG D) (k : Nat) {args : List AV} {S : St} {K : AV → St → Prop} (h : A87_0 D (J87 D k) args S K) : CallE IrP IrG 87 args S K := by
  have hr := A87_0_ok hD (J87_ok hD k) h
  have hl : args.length = 3 := Nat.eq_of_beq_eq_true (req_and h).1
  refine callOK_of (fn := Go.Proofs.Try.f87) (c := (match Go.Proofs.Try.f87.body with | some c => c | none => .skip)) (by kernel_rfl) (by kernel_rfl) (by kernel_rfl) (by rw [hl]; kernel_rfl) (by kernel_rfl) ?_
  rw [hl]
  exact hr
noncomputable def plans88 (i : Nat) : Plan := []
noncomputable def T88 (p : Nat) : List Item × List Nat := bif Nat.beq p 0 then ([.code (match Go.Proofs.Try.f88.body with | some c => c | none => .skip)], [0, 1]) else
  bif Nat.beq p 6 then (navs [.op, .op, .op, .op, .th, .op] [.code (match Go.Proofs.Try.f88.body with | some c => c | none => .skip)], [2, 3, 5]) else
  bif Nat.beq p 7 then (navs [.op, .op, .op, .op, .th, .op, .op] [.code (match Go.Proofs.Try.f88.body with | some c => c | none => .skip)], [2, 3, 5, 21, 22, 23]) else
  ([], [])
noncomputable def F88_q5 (D J : Disp) (S : St) (S300 : St) (S301 : St) (c311 : Bool) (K : AV → St → Prop) : Prop :=
 ifK c311
 (St.at S301 (Bk.new (St.next S300)) 10 fun y312 =>
 uncK y312 fun v313 y314 =>
 SV.cL v313 fun y321 =>
 letK (α := Int) ((Int.ofNat (LV.len y321))) fun x322 =>
 letK (α := Int) ((iwrap IntKind.i64 (x322 + (1 : Int)))) fun x323 =>
 J 6 [(AV.one (V1.s (SV.ptr (PV.mk (Bk.new (St.next S)) 0)))), (AV.one (V1.s (SV.ptr (PV.mk (Bk.new (St.next S300)) 0)))), (AV.one (V1.s (SV.int IntKind.i64 x323)))] S301 K)
 (K ((AV.one (V1.s (SV.bool Bool.true)))) S301)
noncomputable def F88_q6 (D J : Disp) (S : St) (S300 : St) (S301 : St) (x308 : Int) (c309 : Bool) (K : AV → St → Prop) : Prop :=
 ifK c309
 (J 6 [(AV.one (V1.s (SV.ptr (PV.mk (Bk.new (St.next S)) 0)))), (AV.one (V1.s (SV.ptr (PV.mk (Bk.new (St.next S300)) 0)))), (AV.one (V1.s (SV.int IntKind.i64 (1 : Int))))] S301 K)
 (letK (α := Bool) ((ieq x308 (15 : Int))) fun c310 =>
 ifK c310
 (J 6 [(AV.one (V1.s (SV.ptr (PV.mk (Bk.new (St.next S)) 0)))), (AV.one (V1.s (SV.ptr (PV.mk (Bk.new (St.next S300)) 0)))), (AV.one (V1.s (SV.int IntKind.i64 (2 : Int))))] S301 K)
 (letK (α := Bool) ((ieq x308 (16 : Int))) fun c311 =>
 F88_q5 D J S S300 S301 c311 K))
noncomputable def F88_q7 (D J : Disp) (S : St) (x1_0 : Int) (x1_1 : Int) (x1_2 : Int) (x1_3 : Int) (x1_4 : Int) (x1_5 : Int) (x1_6 : Int) (c1_7 : Bool) (l1_8 : LV) (l1_9 : LV) (l1_10 : LV) (S300 : St) (K : AV → St → Prop) : Prop :=
 letK (α := St) ((St.add S300 (AO.cells [(SV.int IntKind.i64 x1_0), (SV.int IntKind.i64 x1_1), (SV.int IntKind.i64 x1_2), (SV.int IntKind.i64 x1_3), (SV.int IntKind.i64 x1_4), (SV.int IntKind.i64 x1_5), (SV.int IntKind.i64 x1_6), (SV.bool c1_7), (SV.sl l1_8), (SV.sl l1_9), (SV.sl l1_10)] (Op2.ty 27)))) fun S301 =>
 St.at S301 (Bk.new (St.next S300)) 0 fun y302 =>
 uncK y302 fun v303 y304 =>
 SV.cI IntKind.i64 v303 fun x308 =>
 letK (α := Bool) ((ieq x308 (14 : Int))) fun c309 =>
 F88_q6 D J S S300 S301 x308 c309 K
noncomputable def F88_0 (D J : Disp) (s0_0 : (List Nat)) (x0_1 : Int) (x0_2 : Int) (l0_3 : LV) (l0_4 : LV) (c0_5 : Bool) (x1_0 : Int) (x1_1 : Int) (x1_2 : Int) (x1_3 : Int) (x1_4 : Int) (x1_5 : Int) (x1_6 : Int) (c1_7 : Bool) (l1_8 : LV) (l1_9 : LV) (l1_10 : LV) (S : St) (K : AV → St → Prop) : Prop :=
 letK (α := St) ((St.add S (AO.cells [(SV.str s0_0), (SV.int IntKind.i64 x0_1), (SV.int IntKind.i64 x0_2), (SV.sl l0_3), (SV.sl l0_4), (SV.bool c0_5)] (Op2.ty 42)))) fun S300 =>
 F88_q7 D J S x1_0 x1_1 x1_2 x1_3 x1_4 x1_5 x1_6 c1_7 l1_8 l1_9 l1_10 S300 K
noncomputable def X88_0 : X := (.op (.op (.op (.op (.br (.op (.jmp 6 [2, 3, 5])) (.op (.br (.op (.jmp 6 [2, 3, 5])) (.op (.br (.op (.jmp 6 [2, 3, 5])) (.op .ret))))))))))
theorem F88_0_eq (D J : Disp) (s0_0 : (List Nat)) (x0_1 : Int) (x0_2 : Int) (l0_3 : LV) (l0_4 : LV) (c0_5 : Bool) (x1_0 : Int) (x1_1 : Int) (x1_2 : Int) (x1_3 : Int) (x1_4 : Int) (x1_5 : Int) (x1_6 : Int) (c1_7 : Bool) (l1_8 : LV) (l1_9 : LV) (l1_10 : LV) (S : St) (K : AV → St → Prop) : F88_0 D J s0_0 x0_1 x0_2 l0_3 l0_4 c0_5 x1_0 x1_1 x1_2 x1_3 x1_4 x1_5 x1_6 c1_7 l1_8 l1_9 l1_10 S K = execK IrP IrG Go.Proofs.Try.f88 (typed IrP D) J plans88 X88_0 (T88 0).1 (envOf (T88 0).2 [(AV.one (V1.agg [(SV.str s0_0), (SV.int IntKind.i64 x0_1), (SV.int IntKind.i64 x0_2), (SV.sl l0_3), (SV.sl l0_4), (SV.bool c0_5)])), (AV.one (V1.agg [(SV.int IntKind.i64 x1_0), (SV.int IntKind.i64 x1_1), (SV.int IntKind.i64 x1_2), (SV.int IntKind.i64 x1_3), (SV.int IntKind.i64 x1_4), (SV.int IntKind.i64 x1_5), (SV.int IntKind.i64 x1_6), (SV.bool c1_7), (SV.sl l1_8), (SV.sl l1_9), (SV.sl l1_10)]))]) S K := by kernel_rfl
noncomputable def F88_6 (D J : Disp) (p2 : PV) (p3 : PV) (x5 : Int) (S : St) (K : AV → St → Prop) : Prop :=
 PV.cs p3 fun b300 n301 =>
 letK (α := Nat) ((n301 + 9)) fun n302 =>
 St.at S b300 n302 fun y303 =>
 uncK y303 fun v304 y305 =>
 SV.cL v304 fun y312 =>
 letK (α := Int) ((Int.ofNat (LV.len y312))) fun x313 =>
 J 7 [(AV.one (V1.s (SV.ptr p2))), (AV.one (V1.s (SV.ptr p3))), (AV.one (V1.s (SV.int IntKind.i64 x5))), (AV.one (V1.s (SV.sl y312))), (AV.one (V1.s (SV.int IntKind.i64 x313))), (AV.one (V1.s (SV.int IntKind.i64 (0 : Int))))] S K
noncomputable def X88_6 : X := (.op (.jmp 7 [2, 3, 5, 21, 22, 23]))
theorem F88_6_eq (D J : Disp) (p2 : PV) (p3 : PV) (x5 : Int) (S : St) (K : AV → St → Prop) : F88_6 D J p2 p3 x5 S K = execK IrP IrG Go.Proofs.Try.f88 (typed IrP D) J plans88 X88_6 (T88 6).1 (envOf (T88 6).2 [(AV.one (V1.s (SV.ptr p2))), (AV.one (V1.s (SV.ptr p3))), (AV.one (V1.s (SV.int IntKind.i64 x5)))]) S K := by kernel_rfl
noncomputable def F88_q8 (D J : Disp) (S : St) (p2 : PV) (p3 : PV) (x5 : Int) (l21 : LV) (x22 : Int) (x23 : Int) (x312 : Int) (x326 : Int) (K : AV → St → Prop) : Prop :=
 D 45 [(AV.one (V1.s (SV.int IntKind.i64 x312))), (AV.one (V1.s (SV.int IntKind.i64 x326)))] S fun v327 S328 =>
 scK v327 fun v330 =>
 SV.cB v330 fun y331 =>
 letK (α := Bool) ((Bool.not y331)) fun c332 =>
 ifK c332
 (K ((AV.one (V1.s (SV.bool Bool.false)))) S328)
 (letK (α := Int) ((iwrap IntKind.i64 (x23 + (1 : Int)))) fun x333 =>
 J 7 [(AV.one (V1.s (SV.ptr p2))), (AV.one (V1.s (SV.ptr p3))), (AV.one (V1.s (SV.int IntKind.i64 x5))), (AV.one (V1.s (SV.sl l21))), (AV.one (V1.s (SV.int IntKind.i64 x22))), (AV.one (V1.s (SV.int IntKind.i64 x333)))] S328 K)
noncomputable def F88_q9 (D J : Disp) (S : St) (p2 : PV) (p3 : PV) (x5 : Int) (l21 : LV) (x22 : Int) (x23 : Int) (K : AV → St → Prop) : Prop :=
 LV.cs l21 fun b301 n302 n303 y304 =>
 req (Bool.and (ile (0 : Int) x23) (ilt x23 (Int.ofNat n303))) <|
 letK (α := Nat) ((n302 + ((Int.toNat x23) * 1))) fun n305 =>
 St.at S b301 n305 fun y306 =>
 uncK y306 fun v307 y308 =>
 SV.cI IntKind.i64 v307 fun x312 =>
 PV.cs p2 fun b313 n314 =>
 letK (α := Nat) ((n314 + 4)) fun n315 =>
 St.at S b313 n315 fun y316 =>
 uncK y316 fun v317 y318 =>
 SV.cL v317 fun y325 =>
 letK (α := Int) ((Int.ofNat (LV.len y325))) fun x326 =>
 F88_q8 D J S p2 p3 x5 l21 x22 x23 x312 x326 K
noncomputable def F88_7 (D J : Disp) (p2 : PV) (p3 : PV) (x5 : Int) (l21 : LV) (x22 : Int) (x23 : Int) (S : St) (K : AV → St → Prop) : Prop :=
 letK (α := Bool) ((ilt x23 x22)) fun c300 =>
 ifK c300
 (F88_q9 D J S p2 p3 x5 l21 x22 x23 K)
 (PV.cs p3 fun b350 n351 =>
 letK (α := Nat) ((n351 + 9)) fun n352 =>
 St.at S b350 n352 fun y353 =>
 uncK y353 fun v354 y355 =>
 SV.cL v354 fun y362 =>
 letK (α := Int) ((Int.ofNat (LV.len y362))) fun x363 =>
 letK (α := Bool) ((ieq x363 x5)) fun c364 =>
 K ((AV.one (V1.s (SV.bool c364)))) S)
noncomputable def X88_7 : X := (.op (.br (.op (.op (.br (.op .ret) (.op (.jmp 7 [2, 3, 5, 21, 22, 23]))))) (.op .ret)))
theorem F88_7_eq (D J : Disp) (p2 : PV) (p3 : PV) (x5 : Int) (l21 : LV) (x22 : Int) (x23 : Int) (S : St) (K : AV → St → Prop) : F88_7 D J p2 p3 x5 l21 x22 x23 S K = execK IrP IrG Go.Proofs.Try.f88 (typed IrP D) J plans88 X88_7 (T88 7).1 (envOf (T88 7).2 [(AV.one (V1.s (SV.ptr p2))), (AV.one (V1.s (SV.ptr p3))), (AV.one (V1.s (SV.int IntKind.i64 x5))), (AV.one (V1.s (SV.sl l21))), (AV.one (V1.s (SV.int IntKind.i64 x22))), (AV.one (V1.s (SV.int IntKind.i64 x23)))]) S K := by kernel_rfl
noncomputable abbrev A88_0 (D J : Disp) (vals : List AV) (S : St) (K : AV → St → Prop) : Prop :=
  uncA vals fun a9001 r9002 => avA a9001 fun l9004 => uncK l9004 fun s9006 r9007 => SV.cS s9006 fun s0_0 => uncK r9007 fun s9010 r9011 => SV.cI IntKind.i64 s9010 fun x0_1 => uncK r9011 fun s9014 r9015 => SV.cI IntKind.i64 s9014 fun x0_2 => uncK r9015 fun s9018 r9019 => SV.cL s9018 fun l0_3 => uncK r9019 fun s9022 r9023 => SV.cL s9022 fun l0_4 => uncK r9023 fun s9026 r9027 => SV.cB s9026 fun c0_5 => endL r9027 <| uncA r9002 fun a9031 r9032 => avA a9031 fun l9034 => uncK l9034 fun s9036 r9037 => SV.cI IntKind.i64 s9036 fun x1_0 => uncK r9037 fun s9040 r9041 => SV.cI IntKind.i64 s9040 fun x1_1 => uncK r9041 fun s9044 r9045 => SV.cI IntKind.i64 s9044 fun x1_2 => uncK r9045 fun s9048 r9049 => SV.cI IntKind.i64 s9048 fun x1_3 => uncK r9049 fun s9052 r9053 => SV.cI IntKind.i64 s9052 fun x1_4 => uncK r9053 fun s9056 r9057 => SV.cI IntKind.i64 s9056 fun x1_5 => uncK r9057 fun s9060 r9061 => SV.cI IntKind.i64 s9060 fun x1_6 => uncK r9061 fun s9064 r9065 => SV.cB s9064 fun c1_7 => uncK r9065 fun s9068 r9069 => SV.cL s9068 fun l1_8 => uncK r9069 fun s9072 r9073 => SV.cL s9072 fun l1_9 => uncK r9073 fun s9076 r9077 => SV.cL s9076 fun l1_10 => endL r9077 <| endL r9032 <| F88_0 D J s0_0 x0_1 x0_2 l0_3 l0_4 c0_5 x1_0 x1_1 x1_2 x1_3 x1_4 x1_5 x1_6 c1_7 l1_8 l1_9 l1_10 S K
theorem A88_0_ok {D J : Disp} (hD : DOK IrP IrG D) (hJ : JOK IrP IrG Go.Proofs.Try.f88 T88 J) {vals : List AV} {S : St} {K : AV → St → Prop} (h0 : A88_0 D J vals S K) : Runs IrP IrG Go.Proofs.Try.f88 (T88 0).1 (envOf (T88 0).2 vals) S K := by
  obtain ⟨a9001, r9002, rfl, h3⟩ := uncA_some h0
  obtain ⟨l9004, rfl, h5⟩ := avA_some h3
  obtain ⟨s9006, r9007, rfl, h8⟩ := uncK_some h5
  obtain ⟨s0_0, rfl, h9⟩ := cS_some h8
  obtain ⟨s9010, r9011, rfl, h12⟩ := uncK_some h9
  obtain ⟨x0_1, rfl, h13⟩ := cI_some h12
  obtain ⟨s9014, r9015, rfl, h16⟩ := uncK_some h13
  obtain ⟨x0_2, rfl, h17⟩ := cI_some h16
  obtain ⟨s9018, r9019, rfl, h20⟩ := uncK_some h17
  obtain ⟨l0_3, rfl, h21⟩ := cL_some h20
  obtain ⟨s9022, r9023, rfl, h24⟩ := uncK_some h21
  obtain ⟨l0_4, rfl, h25⟩ := cL_some h24
  obtain ⟨s9026, r9027, rfl, h28⟩ := uncK_some h25
  obtain ⟨c0_5, rfl, h29⟩ := cB_some h28
  obtain ⟨rfl, h30⟩ := endL_some h29
  obtain ⟨a9031, r9032, rfl, h33⟩ := uncA_some h30
  obtain ⟨l9034, rfl, h35⟩ := avA_some h33
  obtain ⟨s9036, r9037, rfl, h38⟩ := uncK_some h35
  obtain ⟨x1_0, rfl, h39⟩ := cI_some h38
  obtain ⟨s9040, r9041, rfl, h42⟩ := uncK_some h39
  obtain ⟨x1_1, rfl, h43⟩ := cI_some h42
  obtain ⟨s9044, r9045, rfl, h46⟩ := uncK_some h43
  obtain ⟨x1_2, rfl, h47⟩ := cI_some h46
  obtain ⟨s9048, r9049, rfl, h50⟩ := uncK_some h47
  obtain ⟨x1_3, rfl, h51⟩ := cI_some h50
  obtain ⟨s9052, r9053, rfl, h54⟩ := uncK_some h51
  obtain ⟨x1_4, rfl, h55⟩ := cI_some h54
  obtain ⟨s9056, r9057, rfl, h58⟩ := uncK_some h55
  obtain ⟨x1_5, rfl, h59⟩ := cI_some h58
  obtain ⟨s9060, r9061, rfl, h62⟩ := uncK_some h59
  obtain ⟨x1_6, rfl, h63⟩ := cI_some h62
  obtain ⟨s9064, r9065, rfl, h66⟩ := uncK_some h63
  obtain ⟨c1_7, rfl, h67⟩ := cB_some h66
  obtain ⟨s9068, r9069, rfl, h70⟩ := uncK_some h67
  obtain ⟨l1_8, rfl, h71⟩ := cL_some h70
  obtain ⟨s9072, r9073, rfl, h74⟩ := uncK_some h71
  obtain ⟨l1_9, rfl, h75⟩ := cL_some h74
  obtain ⟨s9076, r9077, rfl, h78⟩ := uncK_some h75
  obtain ⟨l1_10, rfl, h79⟩ := cL_some h78
  obtain ⟨rfl, h80⟩ := endL_some h79
  obtain ⟨rfl, h81⟩ := endL_some h80
  have hq := Eq.mp (F88_0_eq D J s0_0 x0_1 x0_2 l0_3 l0_4 c0_5 x1_0 x1_1 x1_2 x1_3 x1_4 x1_5 x1_6 c1_7 l1_8 l1_9 l1_10 S K) h81
  exact execK_runs hD.typed Ir_zero Ir_mixed hJ X88_0 (T88 0).1 (envOf (T88 0).2 _) S K (chk_of (by kernel_rfl) (by kernel_rfl)) hq
noncomputable abbrev A88_6 (D J : Disp) (vals : List AV) (S : St) (K : AV → St → Prop) : Prop :=
  uncA vals fun a9001 r9002 => scK a9001 fun s9004 => SV.cP s9004 fun p2 => uncA r9002 fun a9007 r9008 => scK a9007 fun s9010 => SV.cP s9010 fun p3 => uncA r9008 fun a9013 r9014 => scK a9013 fun s9016 => SV.cI IntKind.i64 s9016 fun x5 => endL r9014 <| F88_6 D J p2 p3 x5 S K
theorem A88_6_ok {D J : Disp} (hD : DOK IrP IrG D) (hJ : JOK IrP IrG Go.Proofs.Try.f88 T88 J) {vals : List AV} {S : St} {K : AV → St → Prop} (h0 : A88_6 D J vals S K) : Runs IrP IrG Go.Proofs.Try.f88 (T88 6).1 (envOf (T88 6).2 vals) S K := by
  obtain ⟨a9001, r9002, rfl, h3⟩ := uncA_some h0
  obtain ⟨s9004, rfl, h5⟩ := scK_some h3
  obtain ⟨p2, rfl, h6⟩ := cP_some h5
  obtain ⟨a9007, r9008, rfl, h9⟩ := uncA_some h6
  obtain ⟨s9010, rfl, h11⟩ := scK_some h9
  obtain ⟨p3, rfl, h12⟩ := cP_some h11
  obtain ⟨a9013, r9014, rfl, h15⟩ := uncA_some h12
  obtain ⟨s9016, rfl, h17⟩ := scK_some h15
  obtain ⟨x5, rfl, h18⟩ := cI_some h17
  obtain ⟨rfl, h19⟩ := endL_some h18
  have hq := Eq.mp (F88_6_eq D J p2 p3 x5 S K) h19
  exact execK_runs hD.typed Ir_zero Ir_mixed hJ X88_6 (T88 6).1 (envOf (T88 6).2 _) S K (chk_of (by kernel_rfl) (by kernel_rfl)) hq
noncomputable abbrev A88_7 (D J : Disp) (vals : List AV) (S : St) (K : AV → St → Prop) : Prop :=
  uncA vals fun a9001 r9002 => scK a9001 fun s9004 => SV.cP s9004 fun p2 => uncA r9002 fun a9007 r9008 => scK a9007 fun s9010 => SV.cP s9010 fun p3 => uncA r9008 fun a9013 r9014 => scK a9013 fun s9016 => SV.cI IntKind.i64 s9016 fun x5 => uncA r9014 fun a9019 r9020 => scK a9019 fun s9022 => SV.cL s9022 fun l21 => uncA r9020 fun a9025 r9026 => scK a9025 fun s9028 => SV.cI IntKind.i64 s9028 fun x22 => uncA r9026 fun a9031 r9032 => scK a9031 fun s9034 => SV.cI IntKind.i64 s9034 fun x23 => endL r9032 <| F88_7 D J p2 p3 x5 l21 x22 x23 S K
theorem A88_7_ok {D J : Disp} (hD : DOK IrP IrG D) (hJ : JOK IrP IrG Go.Proofs.Try.f88 T88 J) {vals : List AV} {S : St} {K : AV → St → Prop} (h0 : A88_7 D J vals S K) : Runs IrP IrG Go.Proofs.Try.f88 (T88 7).1 (envOf (T88 7).2 vals) S K := by
  obtain ⟨a9001, r9002, rfl, h3⟩ := uncA_some h0
  obtain ⟨s9004, rfl, h5⟩ := scK_some h3
  obtain ⟨p2, rfl, h6⟩ := cP_some h5
  obtain ⟨a9007, r9008, rfl, h9⟩ := uncA_some h6
  obtain ⟨s9010, rfl, h11⟩ := scK_some h9
  obtain ⟨p3, rfl, h12⟩ := cP_some h11
  obtain ⟨a9013, r9014, rfl, h15⟩ := uncA_some h12
  obtain ⟨s9016, rfl, h17⟩ := scK_some h15
  obtain ⟨x5, rfl, h18⟩ := cI_some h17
  obtain ⟨a9019, r9020, rfl, h21⟩ := uncA_some h18
  obtain ⟨s9022, rfl, h23⟩ := scK_some h21
  obtain ⟨l21, rfl, h24⟩ := cL_some h23
  obtain ⟨a9025, r9026, rfl, h27⟩ := uncA_some h24
  obtain ⟨s9028, rfl, h29⟩ := scK_some h27
  obtain ⟨x22, rfl, h30⟩ := cI_some h29
  obtain ⟨a9031, r9032, rfl, h33⟩ := uncA_some h30
  obtain ⟨s9034, rfl, h35⟩ := scK_some h33
  obtain ⟨x23, rfl, h36⟩ := cI_some h35
  obtain ⟨rfl, h37⟩ := endL_some h36
  have hq := Eq.mp (F88_7_eq D J p2 p3 x5 l21 x22 x23 S K) h37
  exact execK_runs hD.typed Ir_zero Ir_mixed hJ X88_7 (T88 7).1 (envOf (T88 7).2 _) S K (chk_of (by kernel_rfl) (by kernel_rfl)) hq
noncomputable def J88 (D : Disp) (k : Nat) : Disp := Nat.rec (motive := fun _ => Disp) Disp.no (fun _ ih => Disp.add 0 (A88_0 D ih) <| Disp.add 6 (A88_6 D ih) <| Disp.add 7 (A88_7 D ih) <| Disp.no) k
theorem J88_ok {D : Disp} (hD : DOK IrP IrG D) : ∀ k, JOK IrP IrG Go.Proofs.Try.f88 T88 (J88 D k)
  | 0 => JOK.no
  | k + 1 => JOK.add (ltB_ok (by kernel_rfl)) (fun vals S K h => A88_0_ok hD (J88_ok hD k) h) <| JOK.add (ltB_ok (by kernel_rfl)) (fun vals S K h => A88_6_ok hD (J88_ok hD k) h) <| JOK.add (ltB_ok (by kernel_rfl)) (fun vals S K h => A88_7_ok hD (J88_ok hD k) h) <| JOK.no
theorem E88_ok {D : Disp} (hD : DOK IrP IrG D) (k : Nat) {args : List AV} {S : St} {K : AV → St → Prop} (h : A88_0 D (J88 D k) args S K) : CallE IrP IrG 88 args S K := by
  have hr := A88_0_ok hD (J88_ok hD k) h
  have hl : args.length = 2 := by
    have h0 := h
    obtain ⟨a9001, r9002, rfl, h3⟩ := uncA_some h0
    obtain ⟨l9004, rfl, h5⟩ := avA_some h3
    obtain ⟨s9006, r9007, rfl, h8⟩ := uncK_some h5
    obtain ⟨s0_0, rfl, h9⟩ := cS_some h8
    obtain ⟨s9010, r9011, rfl, h12⟩ := uncK_some h9
    obtain ⟨x0_1, rfl, h13⟩ := cI_some h12
    obtain ⟨s9014, r9015, rfl, h16⟩ := uncK_some h13
    obtain ⟨x0_2, rfl, h17⟩ := cI_some h16
    obtain ⟨s9018, r9019, rfl, h20⟩ := uncK_some h17
    obtain ⟨l0_3, rfl, h21⟩ := cL_some h20
    obtain ⟨s9022, r9023, rfl, h24⟩ := uncK_some h21
    obtain ⟨l0_4, rfl, h25⟩ := cL_some h24
    obtain ⟨s9026, r9027, rfl, h28⟩ := uncK_some h25
    obtain ⟨c0_5, rfl, h29⟩ := cB_some h28
    obtain ⟨rfl, h30⟩ := endL_some h29
    obtain ⟨a9031, r9032, rfl, h33⟩ := uncA_some h30
    obtain ⟨l9034, rfl, h35⟩ := avA_some h33
    obtain ⟨s9036, r9037, rfl, h38⟩ := uncK_some h35
    obtain ⟨x1_0, rfl, h39⟩ := cI_some h38
    obtain ⟨s9040, r9041, rfl, h42⟩ := uncK_some h39
    obtain ⟨x1_1, rfl, h43⟩ := cI_some h42
    obtain ⟨s9044, r9045, rfl, h46⟩ := uncK_some h43
    obtain ⟨x1_2, rfl, h47⟩ := cI_some h46
    obtain ⟨s9048, r9049, rfl, h50⟩ := uncK_some h47
    obtain ⟨x1_3, rfl, h51⟩ := cI_some h50
    obtain ⟨s9052, r9053, rfl, h54⟩ := uncK_some h51
    obtain ⟨x1_4, rfl, h55⟩ := cI_some h54
    obtain ⟨s9056, r9057, rfl, h58⟩ := uncK_some h55
    obtain ⟨x1_5, rfl, h59⟩ := cI_some h58
    obtain ⟨s9060, r9061, rfl, h62⟩ := uncK_some h59
    obtain ⟨x1_6, rfl, h63⟩ := cI_some h62
    obtain ⟨s9064, r9065, rfl, h66⟩ := uncK_some h63
    obtain ⟨c1_7, rfl, h67⟩ := cB_some h66
    obtain ⟨s9068, r9069, rfl, h70⟩ := uncK_some h67
    obtain ⟨l1_8, rfl, h71⟩ := cL_some h70
    obtain ⟨s9072, r9073, rfl, h74⟩ := uncK_some h71
    obtain ⟨l1_9, rfl, h75⟩ := cL_some h74
    obtain ⟨s9076, r9077, rfl, h78⟩ := uncK_some h75
    obtain ⟨l1_10, rfl, h79⟩ := cL_some h78
    obtain ⟨rfl, h80⟩ := endL_some h79
    obtain ⟨rfl, h81⟩ := endL_some h80
    rfl
  refine callOK_of (fn := Go.Proofs.Try.f88) (c := (match Go.Proofs.Try.f88.body with | some c => c | none => .skip)) (by kernel_rfl) (by kernel_rfl) (by kernel_rfl) (by rw [hl]; kernel_rfl) (by kernel_rfl) ?_
  rw [hl]
  exact hr
noncomputable def plans89 (i : Nat) : Plan := []
noncomputable def T89 (p : Nat) : List Item × List Nat := bif Nat.beq p 0 then ([.code (match Go.Proofs.Try.f89.body with | some c => c | none => .skip)], [0, 1]) else
  ([], [])
noncomputable def X89_0 : X := (.op (.op .ret))
noncomputable def A89_0 (D J : Disp) (vals : List AV) (S : St) (K : AV → St → Prop) : Prop := req (Nat.beq vals.length 2) (execK IrP IrG Go.Proofs.Try.f89 (typed IrP D) J plans89 X89_0 (T89 0).1 (envOf (T89 0).2 vals) S K)
theorem A89_0_ok {D J : Disp} (hD : DOK IrP IrG D) (hJ : JOK IrP IrG Go.Proofs.Try.f89 T89 J) {vals : List AV} {S : St} {K : AV → St → Prop} (h0 : A89_0 D J vals S K) : Runs IrP IrG Go.Proofs.Try.f89 (T89 0).1 (envOf (T89 0).2 vals) S K :=
  execK_runs hD.typed Ir_zero Ir_mixed hJ X89_0 (T89 0).1 (envOf (T89 0).2 vals) S K (chk_of (by kernel_rfl) (by kernel_rfl)) (req_and h0).2
noncomputable def J89 (D : Disp) (k : Nat) : Disp := Nat.rec (motive := fun _ => Disp) Disp.no (fun _ ih => Disp.add 0 (A89_0 D ih) <| Disp.no) k
theorem J89_ok {D : Disp} (hD : DOK IrP IrG D) : ∀ k, JOK IrP IrG Go.Proofs.Try.f89 T89 (J89 D k)
  | 0 => JOK.no
  | k + 1 => JOK.add (ltB_ok (by kernel_rfl)) (fun vals S K h => A89_0_ok hD (J89_ok hD k) h) <| JOK.no
theorem E89_ok {D : Disp} (hD : DOK IrP IrG D) (k : Nat) {args : List AV} {S : St} {K : AV → St → Prop} (h : A89_0 D (J89 D k) args S K) : CallE IrP IrG 89 args S K := by
  have hr := A89_0_ok hD (J89_ok hD k) h
  have hl : args.length = 2 := Nat.eq_of_beq_eq_true (req_and h).1
  refine callOK_of (fn := Go.Proofs.Try.f89) (c := (match Go.Proofs.Try.f89.body with | some c => c | none => .skip)) (by kernel_rfl) (by kernel_rfl) (by kernel_rfl) (by rw [hl]; kernel_rfl) (by kernel_rfl) ?_
  rw [hl]
  exact hr
noncomputable def plans91 (i : Nat) : Plan := []
noncomputable def T91 (p : Nat) : List Item × List Nat := bif Nat.beq p 0 then ([.code (match Go.Proofs.Try.f91.body with | some c => c | none => .skip)], [0]) else
  ([], [])
noncomputable def X91_0 : X := (.op (.op (.br (.op .ret) (.op .ret))))
noncomputable def A91_0 (D J : Disp) (vals : List AV) (S : St) (K : AV → St → Prop) : Prop := req (Nat.beq vals.length 1) (execK IrP IrG Go.Proofs.Try.f91 (typed IrP D) J plans91 X91_0 (T91 0).1 (envOf (T91 0).2 vals) S K)
theorem A91_0_ok {D J : Disp} (hD : DOK IrP IrG D) (hJ : JOK IrP IrG Go.Proofs.Try.f91 T91 J) {vals : List AV} {S : St} {K : AV → St → Prop} (h0 : A91_0 D J vals S K) : Runs IrP IrG Go.Proofs.Try.f91 (T91 0).1 (envOf (T91 0).2 vals) S K :=
  execK_runs hD.typed Ir_zero Ir_mixed hJ X91_0 (T91 0).1 (envOf (T91 0).2 vals) S K (chk_of (by kernel_rfl) (by kernel_rfl)) (req_and h0).2
noncomputable def J91 (D : Disp) (k : Nat) : Disp := Nat.rec (motive := fun _ => Disp) Disp.no (fun _ ih => Disp.add 0 (A91_0 D ih) <| Disp.no) k
theorem J91_ok {D : Disp} (hD : DOK IrP IrG D) : ∀ k, JOK IrP IrG Go.Proofs.Try.f91 T91 (J91 D k)
  | 0 => JOK.no
  | k + 1 => JOK.add (ltB_ok (by kernel_rfl)) (fun vals S K h => A91_0_ok hD (J91_ok hD k) h) <| JOK.no
theorem E91_ok {D : Disp} (hD : DOK IrP IrG D) (k : Nat) {args : List AV} {S : St} {K : AV → St → Prop} (h : A91_0 D (J91 D k) args S K) : CallE IrP IrG 91 args S K := by
  have hr := A91_0_ok hD (J91_ok hD k) h
  have hl : args.length = 1 := Nat.eq_of_beq_eq_true (req_and h).1
  refine callOK_of (fn := Go.Proofs.Try.f91) (c := (match Go.Proofs.Try.f91.body with | some c => c | none => .skip)) (by kernel_rfl) (by kernel_rfl) (by kernel_rfl) (by rw [hl]; kernel_rfl) (by kernel_rfl) ?_
  rw [hl]
  exact hr
noncomputable def plans92 (i : Nat) : Plan := []
noncomputable def T92 (p : Nat) : List Item × List Nat := bif Nat.beq p 0 then ([.code (match Go.Proofs.Try.f92.body with | some c => c | none => .skip)], [0]) else
  ([], [])
noncomputable def F92_0 (D J : Disp) (x0_0 : Int) (c0_1 : Bool) (S : St) (K : AV → St → Prop) : Prop :=
 letK (α := St) ((St.add S (AO.cells [(SV.int IntKind.i64 x0_0), (SV.bool c0_1)] (Op2.ty 23)))) fun S300 =>
 St.at S300 (Bk.new (St.next S)) 0 fun y301 =>
 uncK y301 fun v302 y303 =>
 SV.cI IntKind.i64 v302 fun x307 =>
 letK (α := Int) ((iwrap IntKind.i64 ((64 : Int) - x307))) fun x308 =>
 req (ile (0 : Int) x308) <|
 letK (α := Int) ((shrI IntKind.i64 (Int.negSucc 9223372036854775807) x308)) fun x309 =>
 K ((AV.one (V1.s (SV.int IntKind.i64 x309)))) S300
noncomputable def X92_0 : X := (.op (.op .ret))
theorem F92_0_eq (D J : Disp) (x0_0 : Int) (c0_1 : Bool) (S : St) (K : AV → St → Prop) : F92_0 D J x0_0 c0_1 S K = execK IrP IrG Go.Proofs.Try.f92 (typed IrP D) J plans92 X92_0 (T92 0).1 (envOf (T92 0).2 [(AV.one (V1.agg [(SV.int IntKind.i64 x0_0), (SV.bool c0_1)]))]) S K := by kernel_rfl
noncomputable abbrev A92_0 (D J : Disp) (vals : List AV) (S : St) (K : AV → St → Prop) : Prop :=
  uncA vals fun a9001 r9002 => avA a9001 fun l9004 => uncK l9004 fun s9006 r9007 => SV.cI IntKind.i64 s9006 fun x0_0 => uncK r9007 fun s9010 r9011 => SV.cB s9010 fun c0_1 => endL r9011 <| endL r9002 <| F92_0 D J x0_0 c0_1 S K
theorem A92_0_ok {D J : Disp} (hD : DOK IrP IrG D) (hJ : JOK IrP IrG Go.Proofs.Try.f92 T92 J) {vals : List AV} {S : St} {K : AV → St → Prop} (h0 : A92_0 D J vals S K) : Runs IrP IrG Go.Proofs.Try.f92 (T92 0).1 (envOf (T92 0).2 vals) S K := by
  obtain ⟨a9001, r9002, rfl, h3⟩ := uncA_some h0
  obtain ⟨l9004, rfl, h5⟩ := avA_some h3
  obtain ⟨s9006, r9007, rfl, h8⟩ := uncK_some h5
  obtain ⟨x0_0, rfl, h9⟩ := cI_some h8
  obtain ⟨s9010, r9011, rfl, h12⟩ := uncK_some h9
  obtain ⟨c0_1, rfl, h13⟩ := cB_some h12
  obtain ⟨rfl, h14⟩ := endL_some h13
  obtain ⟨rfl, h15⟩ := endL_some h14
  have hq := Eq.mp (F92_0_eq D J x0_0 c0_1 S K) h15
  exact execK_runs hD.typed Ir_zero Ir_mixed hJ X92_0 (T92 0).1 (envOf (T92 0).2 _) S K (chk_of (by kernel_rfl) (by kernel_rfl)) hq
noncomputable def J92 (D : Disp) (k : Nat) : Disp := Nat.rec (motive := fun _ => Disp) Disp.no (fun _ ih => Disp.add 0 (A92_0 D ih) <| Disp.no) k
theorem J92_ok {D : Disp} (hD : DOK IrP IrG D) : ∀ k, JOK IrP IrG Go.Proofs.Try.f92 T92 (J92 D k)
  | 0 => JOK.no
  | k + 1 => JOK.add (ltB_ok (by kernel_rfl)) (fun vals S K h => A92_0_ok hD (J92_ok hD k) h) <| JOK.no
theorem E92_ok {D : Disp} (hD : DOK IrP IrG D) (k : Nat) {args : List AV} {S : St} {K : AV → St → Prop} (h : A92_0 D (J92 D k) args S K) : CallE IrP IrG 92 args S K := by
  have hr := A92_0_ok hD (J92_ok hD k) h
  have hl : args.length = 1 := by
    have h0 := h
    obtain ⟨a9001, r9002, rfl, h3⟩ := uncA_some h0
    obtain ⟨l9004, rfl, h5⟩ := avA_some h3
    obtain ⟨s9006, r9007, rfl, h8⟩ := uncK_some h5
    obtain ⟨x0_0, rfl, h9⟩ := cI_some h8
    obtain ⟨s9010, r9011, rfl, h12⟩ := uncK_some h9
    obtain ⟨c0_1, rfl, h13⟩ := cB_some h12
    obtain ⟨rfl, h14⟩ := endL_some h13
    obtain ⟨rfl, h15⟩ := endL_some h14
    rfl
  refine callOK_of (fn := Go.Proofs.Try.f92) (c := (match Go.Proofs.Try.f92.body with | some c => c | none => .skip)) (by kernel_rfl) (by kernel_rfl) (by kernel_rfl) (by rw [hl]; kernel_rfl) (by kernel_rfl) ?_
  rw [hl]
  exact hr
end
end Go.Xe
