/- A part of the proof: XF_ir_1. -/
import Derived.Test.YtgjggcgdilahdaaXFir0
import Derived.KernelRfl
set_option linter.unusedVariables false
set_option linter.unusedSimpArgs false
set_option linter.constructorNameAsVariable false
set_option linter.unusedVariables false
set_option maxRecDepth 100000
namespace Go.Xe
open Go.RowKit
noncomputable section
noncomputable def plans6 (i : Nat) : Plan := []
noncomputable def T6 (p : Nat) : List Item × List Nat := bif Nat.beq p 0 then ([.code (match Go.Proofs.Try.f6.body with | some c => c | none => .skip)], [0, 1, 2, 3]) else
  bif Nat.beq p 8 then (navs [.op, .op, .op, .op, .op, .op, .th, .op] [.code (match Go.Proofs.Try.f6.body with | some c => c | none => .skip)], [0, 2, 3, 9, 10, 11]) else
  bif Nat.beq p 12 then (navs [.op, .op, .op, .op, .op, .op, .th, .op, .op, .op, .op, .op] [.code (match Go.Proofs.Try.f6.body with | some c => c | none => .skip)], [2, 3, 10, 14, 15]) else
  bif Nat.beq p 15 then (navs [.op, .op, .op, .op, .op, .op, .th, .op, .op, .op, .op, .op, .op, .th, .op] [.code (match Go.Proofs.Try.f6.body with | some c => c | none => .skip)], [14, 15]) else
  ([], [])
noncomputable def F6_q15 (D J : Disp) (x0 : Int) (c3 : Bool) (S303 : St) (x328 : Int) (S330 : St) (x336 : Int) (S338 : St) (K : AV → St → Prop) : Prop :=
 St.wr S338 (Bk.new (St.next S330)) 0 [(SV.int IntKind.i64 (8 : Int)), (SV.int IntKind.i64 (0 : Int)), (SV.int IntKind.i64 (0 : Int)), (SV.int IntKind.i64 (0 : Int)), (SV.int IntKind.i64 (0 : Int)), (SV.int IntKind.i64 (0 : Int)), (SV.int IntKind.i64 (0 : Int)), (SV.bool Bool.false), (SV.sl LV.nil), (SV.sl LV.nil), (SV.sl LV.nil)] fun S339 =>
 J 8 [(AV.one (V1.s (SV.int IntKind.i64 x0))), (AV.one (V1.s (SV.int IntKind.i64 x336))), (AV.one (V1.s (SV.bool c3))), (AV.one (V1.s (SV.ptr (PV.mk (Bk.new (St.next S303)) 0)))), (AV.one (V1.s (SV.int IntKind.i64 x328))), (AV.one (V1.s (SV.ptr (PV.mk (Bk.new (St.next S330)) 0))))] S339 K
noncomputable def F6_q16 (D J : Disp) (x0 : Int) (c3 : Bool) (S303 : St) (x328 : Int) (S330 : St) (x336 : Int) (S337 : St) (K : AV → St → Prop) : Prop :=
 St.wr S337 (Bk.new (St.next S330)) 0 [(SV.int IntKind.i64 (7 : Int)), (SV.int IntKind.i64 (0 : Int)), (SV.int IntKind.i64 (0 : Int)), (SV.int IntKind.i64 (0 : Int)), (SV.int IntKind.i64 (0 : Int)), (SV.int IntKind.i64 (0 : Int)), (SV.int IntKind.i64 (0 : Int)), (SV.bool Bool.false), (SV.sl LV.nil), (SV.sl LV.nil), (SV.sl LV.nil)] fun S338 =>
 ifK c3
 (F6_q15 D J x0 c3 S303 x328 S330 x336 S338 K)
 (J 8 [(AV.one (V1.s (SV.int IntKind.i64 x0))), (AV.one (V1.s (SV.int IntKind.i64 x336))), (AV.one (V1.s (SV.bool c3))), (AV.one (V1.s (SV.ptr (PV.mk (Bk.new (St.next S303)) 0)))), (AV.one (V1.s (SV.int IntKind.i64 x328))), (AV.one (V1.s (SV.ptr (PV.mk (Bk.new (St.next S330)) 0))))] S338 K)
noncomputable def F6_q17 (D J : Disp) (x0 : Int) (c3 : Bool) (S303 : St) (x328 : Int) (S330 : St) (x335 : Int) (K : AV → St → Prop) : Prop :=
 letK (α := Int) ((iwrap IntKind.i64 (x335 - (8 : Int)))) fun x336 =>
 letK (α := St) ((St.add S330 (AO.cells [(SV.int IntKind.i64 (0 : Int)), (SV.int IntKind.i64 (0 : Int)), (SV.int IntKind.i64 (0 : Int)), (SV.int IntKind.i64 (0 : Int)), (SV.int IntKind.i64 (0 : Int)), (SV.int IntKind.i64 (0 : Int)), (SV.int IntKind.i64 (0 : Int)), (SV.bool Bool.false), (SV.sl LV.nil), (SV.sl LV.nil), (SV.sl LV.nil)] (Op2.ty 27)))) fun S337 =>
 F6_q16 D J x0 c3 S303 x328 S330 x336 S337 K
noncomputable def F6_q18 (D J : Disp) (x0 : Int) (x2 : Int) (c3 : Bool) (S303 : St) (x316 : Int) (c318 : Bool) (S319 : St) (K : AV → St → Prop) : Prop :=
 St.wr S319 (Bk.new (St.next S303)) 0 [(SV.int IntKind.i64 x316), (SV.bool c318)] fun S320 =>
 St.at S320 (Bk.new (St.next S303)) 0 fun y321 =>
 uncK y321 fun v322 y323 =>
 SV.cI IntKind.i64 v322 fun x327 =>
 letK (α := Int) ((iwrap IntKind.i64 (Int.tdiv x327 (8 : Int)))) fun x328 =>
 D 21 [(AV.one (V1.s (SV.int IntKind.i64 x2))), (AV.one (V1.s (SV.int IntKind.i64 (40 : Int))))] S320 fun v329 S330 =>
 scK v329 fun v332 =>
 SV.cI IntKind.i64 v332 fun x335 =>
 F6_q17 D J x0 c3 S303 x328 S330 x335 K
noncomputable def F6_q19 (D J : Disp) (S : St) (x0 : Int) (x1 : Int) (x2 : Int) (c3 : Bool) (S303 : St) (x308 : Int) (K : AV → St → Prop) : Prop :=
 req (Bool.and (ile (0 : Int) x308) (ilt x308 (4 : Int))) <|
 letK (α := Nat) ((0 + ((Int.toNat x308) * 1))) fun n309 =>
 St.at S303 (Bk.new (St.next S)) n309 fun y310 =>
 uncK y310 fun v311 y312 =>
 SV.cI IntKind.i64 v311 fun x316 =>
 letK (α := Int) ((iand IntKind.i64 x1 (4 : Int))) fun x317 =>
 letK (α := Bool) ((ieq x317 (4 : Int))) fun c318 =>
 letK (α := St) ((St.add S303 (AO.cells [(SV.int IntKind.i64 (0 : Int)), (SV.bool Bool.false)] (Op2.ty 23)))) fun S319 =>
 F6_q18 D J x0 x2 c3 S303 x316 c318 S319 K
noncomputable def F6_q20 (D J : Disp) (S : St) (x0 : Int) (x1 : Int) (x2 : Int) (c3 : Bool) (K : AV → St → Prop) : Prop :=
 letK (α := (Sum Nat Nat)) ((Sum.inl 4)) fun d300 =>
 letK (α := St) ((St.add S (AO.cells [(SV.int IntKind.i64 (8 : Int)), (SV.int IntKind.i64 (16 : Int)), (SV.int IntKind.i64 (32 : Int)), (SV.int IntKind.i64 (64 : Int))] Op2.sh))) fun S301 =>
 D 21 [(AV.one (V1.s (SV.int IntKind.i64 x1))), (AV.one (V1.s (SV.int IntKind.i64 (4 : Int))))] S301 fun v302 S303 =>
 scK v302 fun v305 =>
 SV.cI IntKind.i64 v305 fun x308 =>
 F6_q19 D J S x0 x1 x2 c3 S303 x308 K
noncomputable def F6_0 (D J : Disp) (x0 : Int) (x1 : Int) (x2 : Int) (c3 : Bool) (S : St) (K : AV → St → Prop) : Prop :=
 F6_q20 D J S x0 x1 x2 c3 K
noncomputable def X6_0 : X := (.op (.op (.op (.op (.op (.op (.br (.op (.jmp 8 [0, 2, 3, 9, 10, 11])) (.jmp 8 [0, 2, 3, 9, 10, 11]))))))))
theorem F6_0_eq (D J : Disp) (x0 : Int) (x1 : Int) (x2 : Int) (c3 : Bool) (S : St) (K : AV → St → Prop) : F6_0 D J x0 x1 x2 c3 S K = execK IrP IrG Go.Proofs.Try.f6 (typed IrP D) J plans6 X6_0 (T6 0).1 (envOf (T6 0).2 [(AV.one (V1.s (SV.int IntKind.i64 x0))), (AV.one (V1.s (SV.int IntKind.i64 x1))), (AV.one (V1.s (SV.int IntKind.i64 x2))), (AV.one (V1.s (SV.bool c3)))]) S K := by kernel_rfl
noncomputable def F6_q21 (D J : Disp) (x2 : Int) (c3 : Bool) (x10 : Int) (S453 : St) (S479 : St) (c480 : Bool) (K : AV → St → Prop) : Prop :=
 ifK c480
 (letK (α := Int) ((iwrap IntKind.i64 (x2 + x10))) fun x481 =>
 letK (α := Bool) ((ile x481 (24 : Int))) fun c482 =>
 J 12 [(AV.one (V1.s (SV.int IntKind.i64 x2))), (AV.one (V1.s (SV.bool c3))), (AV.one (V1.s (SV.int IntKind.i64 x10))), (AV.one (V1.s (SV.ptr (PV.mk (Bk.new (St.next S453)) 0)))), (AV.one (V1.s (SV.bool c482)))] S479 K)
 (J 12 [(AV.one (V1.s (SV.int IntKind.i64 x2))), (AV.one (V1.s (SV.bool c3))), (AV.one (V1.s (SV.int IntKind.i64 x10))), (AV.one (V1.s (SV.ptr (PV.mk (Bk.new (St.next S453)) 0)))), (AV.one (V1.s (SV.bool Bool.false)))] S479 K)
noncomputable def F6_q22 (D J : Disp) (x2 : Int) (c3 : Bool) (x10 : Int) (S426 : St) (y436 : LV) (y445 : LV) (x451 : Int) (K : AV → St → Prop) : Prop :=
 D 22 [(AV.one (V1.agg [(SV.sl y436), (SV.sl y445), (SV.int IntKind.i64 x451)])), (AV.one (V1.s (SV.sl LV.nil))), (AV.one (V1.s (SV.int IntKind.i64 (100 : Int))))] S426 fun v452 S453 =>
 avA v452 fun y456 =>
 req (Nat.beq (List.length y456) 3) <|
 uncK y456 fun v457 y458 =>
 SV.cI IntKind.i64 v457 fun x462 =>
 uncK y458 fun v463 y464 =>
 SV.cI IntKind.i64 v463 fun x468 =>
 uncK y464 fun v469 y470 =>
 SV.cL v469 fun y477 =>
 letK (α := St) ((St.add S453 (AO.cells [(SV.int IntKind.i64 (0 : Int)), (SV.int IntKind.i64 (0 : Int)), (SV.sl LV.nil)] (Op2.ty 57)))) fun S478 =>
 St.wr S478 (Bk.new (St.next S453)) 0 [(SV.int IntKind.i64 x462), (SV.int IntKind.i64 x468), (SV.sl y477)] fun S479 =>
 letK (α := Bool) ((ile (0 : Int) x2)) fun c480 =>
 F6_q21 D J x2 c3 x10 S453 S479 c480 K
noncomputable def F6_q23 (D J : Disp) (x2 : Int) (c3 : Bool) (x10 : Int) (S416 : St) (d417 : (Sum Nat Nat)) (S422 : St) (d423 : (Sum Nat Nat)) (S424 : St) (S425 : St) (K : AV → St → Prop) : Prop :=
 St.wr S425 (Bk.new (St.next S424)) 0 [(SV.sl (LV.mk (Bk.new (St.next S416)) 0 1 d417)), (SV.sl (LV.mk (Bk.new (St.next S422)) 0 1 d423)), (SV.int IntKind.i64 (0 : Int))] fun S426 =>
 St.at S426 (Bk.new (St.next S424)) 0 fun y427 =>
 uncK y427 fun v428 y429 =>
 SV.cL v428 fun y436 =>
 uncK y429 fun v437 y438 =>
 SV.cL v437 fun y445 =>
 uncK y438 fun v446 y447 =>
 SV.cI IntKind.i64 v446 fun x451 =>
 F6_q22 D J x2 c3 x10 S426 y436 y445 x451 K
noncomputable def F6_q24 (D J : Disp) (x2 : Int) (c3 : Bool) (x10 : Int) (S416 : St) (d417 : (Sum Nat Nat)) (S418 : St) (d419 : (Sum Nat Nat)) (S420 : St) (d421 : (Sum Nat Nat)) (S422 : St) (K : AV → St → Prop) : Prop :=
 letK (α := (Sum Nat Nat)) ((Sum.inl 1)) fun d423 =>
 letK (α := St) ((St.add S422 (AO.cells [(SV.str [109, 97, 105, 110]), (SV.int IntKind.i64 (0 : Int)), (SV.int IntKind.i64 (4 : Int)), (SV.sl (LV.mk (Bk.new (St.next S418)) 0 1 d419)), (SV.sl (LV.mk (Bk.new (St.next S420)) 0 1 d421)), (SV.bool Bool.true)] Op2.sh))) fun S424 =>
 letK (α := St) ((St.add S424 (AO.cells [(SV.sl LV.nil), (SV.sl LV.nil), (SV.int IntKind.i64 (0 : Int))] (Op2.ty 36)))) fun S425 =>
 F6_q23 D J x2 c3 x10 S416 d417 S422 d423 S424 S425 K
noncomputable def F6_q25 (D J : Disp) (S : St) (x2 : Int) (c3 : Bool) (x10 : Int) (d415 : (Sum Nat Nat)) (S416 : St) (K : AV → St → Prop) : Prop :=
 letK (α := (Sum Nat Nat)) ((Sum.inl 1)) fun d417 =>
 letK (α := St) ((St.add S416 (AO.cells [(SV.str [103]), (SV.int IntKind.i64 (24 : Int)), (SV.sl LV.nil)] Op2.sh))) fun S418 =>
 letK (α := (Sum Nat Nat)) ((Sum.inl 1)) fun d419 =>
 letK (α := St) ((St.add S418 (AO.cells [(SV.int IntKind.i64 (24 : Int))] Op2.sh))) fun S420 =>
 letK (α := (Sum Nat Nat)) ((Sum.inl 1)) fun d421 =>
 letK (α := St) ((St.add S420 (AO.cells [(SV.sl (LV.mk (Bk.new (St.next S)) 0 9 d415))] Op2.sh))) fun S422 =>
 F6_q24 D J x2 c3 x10 S416 d417 S418 d419 S420 d421 S422 K
noncomputable def F6_q26 (D J : Disp) (S : St) (x0 : Int) (x2 : Int) (c3 : Bool) (x10 : Int) (x308 : Int) (x314 : Int) (x320 : Int) (x326 : Int) (x332 : Int) (x338 : Int) (x344 : Int) (y348 : Bool) (y357 : LV) (y366 : LV) (y375 : LV) (x384 : Int) (y388 : Bool) (x397 : Int) (y401 : Bool) (x410 : Int) (y414 : Bool) (K : AV → St → Prop) : Prop :=
 letK (α := (Sum Nat Nat)) ((Sum.inl 9)) fun d415 =>
 letK (α := St) ((St.add S (AO.cells [(SV.int IntKind.i64 x308), (SV.int IntKind.i64 x314), (SV.int IntKind.i64 x320), (SV.int IntKind.i64 x326), (SV.int IntKind.i64 x332), (SV.int IntKind.i64 x338), (SV.int IntKind.i64 x344), (SV.bool y348), (SV.sl y357), (SV.sl y366), (SV.sl y375), (SV.int IntKind.i64 (1 : Int)), (SV.int IntKind.i64 (0 : Int)), (SV.int IntKind.i64 (1 : Int)), (SV.int IntKind.i64 (0 : Int)), (SV.int IntKind.i64 (0 : Int)), (SV.int IntKind.i64 x2), (SV.int IntKind.i64 (0 : Int)), (SV.bool Bool.false), (SV.sl LV.nil), (SV.sl LV.nil), (SV.sl LV.nil), (SV.int IntKind.i64 (3 : Int)), (SV.int IntKind.i64 (1 : Int)), (SV.int IntKind.i64 (0 : Int)), (SV.int IntKind.i64 (0 : Int)), (SV.int IntKind.i64 (1 : Int)), (SV.int IntKind.i64 (0 : Int)), (SV.int IntKind.i64 (0 : Int)), (SV.bool Bool.false), (SV.sl LV.nil), (SV.sl LV.nil), (SV.sl LV.nil), (SV.int IntKind.i64 (1 : Int)), (SV.int IntKind.i64 (0 : Int)), (SV.int IntKind.i64 (2 : Int)), (SV.int IntKind.i64 (0 : Int)), (SV.int IntKind.i64 (0 : Int)), (SV.int IntKind.i64 x0), (SV.int IntKind.i64 (0 : Int)), (SV.bool Bool.false), (SV.sl LV.nil), (SV.sl LV.nil), (SV.sl LV.nil), (SV.int IntKind.i64 (6 : Int)), (SV.int IntKind.i64 (0 : Int)), (SV.int IntKind.i64 (0 : Int)), (SV.int IntKind.i64 (0 : Int)), (SV.int IntKind.i64 (2 : Int)), (SV.int IntKind.i64 (0 : Int)), (SV.int IntKind.i64 x384), (SV.bool y388), (SV.sl LV.nil), (SV.sl LV.nil), (SV.sl LV.nil), (SV.int IntKind.i64 (5 : Int)), (SV.int IntKind.i64 (0 : Int)), (SV.int IntKind.i64 (3 : Int)), (SV.int IntKind.i64 (0 : Int)), (SV.int IntKind.i64 (0 : Int)), (SV.int IntKind.i64 (0 : Int)), (SV.int IntKind.i64 x397), (SV.bool y401), (SV.sl LV.nil), (SV.sl LV.nil), (SV.sl LV.nil), (SV.int IntKind.i64 (4 : Int)), (SV.int IntKind.i64 (0 : Int)), (SV.int IntKind.i64 (2 : Int)), (SV.int IntKind.i64 (2 : Int)), (SV.int IntKind.i64 (0 : Int)), (SV.int IntKind.i64 (0 : Int)), (SV.int IntKind.i64 x410), (SV.bool y414), (SV.sl LV.nil), (SV.sl LV.nil), (SV.sl LV.nil), (SV.int IntKind.i64 (3 : Int)), (SV.int IntKind.i64 (14 : Int)), (SV.int IntKind.i64 (3 : Int)), (SV.int IntKind.i64 (3 : Int)), (SV.int IntKind.i64 (2 : Int)), (SV.int IntKind.i64 (0 : Int)), (SV.int IntKind.i64 (0 : Int)), (SV.bool Bool.false), (SV.sl LV.nil), (SV.sl LV.nil), (SV.sl LV.nil), (SV.int IntKind.i64 (17 : Int)), (SV.int IntKind.i64 (0 : Int)), (SV.int IntKind.i64 (0 : Int)), (SV.int IntKind.i64 (3 : Int)), (SV.int IntKind.i64 (0 : Int)), (SV.int IntKind.i64 (0 : Int)), (SV.int IntKind.i64 (0 : Int)), (SV.bool Bool.false), (SV.sl LV.nil), (SV.sl LV.nil), (SV.sl LV.nil)] Op2.sh))) fun S416 =>
 F6_q25 D J S x2 c3 x10 d415 S416 K
noncomputable def F6_q27 (D J : Disp) (S : St) (x0 : Int) (x2 : Int) (c3 : Bool) (p9 : PV) (x10 : Int) (x308 : Int) (x314 : Int) (x320 : Int) (x326 : Int) (x332 : Int) (x338 : Int) (x344 : Int) (y348 : Bool) (y357 : LV) (y366 : LV) (y375 : LV) (x384 : Int) (y388 : Bool) (K : AV → St → Prop) : Prop :=
 PV.cs p9 fun b389 n390 =>
 St.at S b389 n390 fun y391 =>
 uncK y391 fun v392 y393 =>
 SV.cI IntKind.i64 v392 fun x397 =>
 uncK y393 fun v398 y399 =>
 SV.cB v398 fun y401 =>
 PV.cs p9 fun b402 n403 =>
 St.at S b402 n403 fun y404 =>
 uncK y404 fun v405 y406 =>
 SV.cI IntKind.i64 v405 fun x410 =>
 uncK y406 fun v411 y412 =>
 SV.cB v411 fun y414 =>
 F6_q26 D J S x0 x2 c3 x10 x308 x314 x320 x326 x332 x338 x344 y348 y357 y366 y375 x384 y388 x397 y401 x410 y414 K
noncomputable def F6_8 (D J : Disp) (x0 : Int) (x2 : Int) (c3 : Bool) (p9 : PV) (x10 : Int) (p11 : PV) (S : St) (K : AV → St → Prop) : Prop :=
 PV.cs p11 fun b300 n301 =>
 St.at S b300 n301 fun y302 =>
 uncK y302 fun v303 y304 =>
 SV.cI IntKind.i64 v303 fun x308 =>
 uncK y304 fun v309 y310 =>
 SV.cI IntKind.i64 v309 fun x314 =>
 uncK y310 fun v315 y316 =>
 SV.cI IntKind.i64 v315 fun x320 =>
 uncK y316 fun v321 y322 =>
 SV.cI IntKind.i64 v321 fun x326 =>
 uncK y322 fun v327 y328 =>
 SV.cI IntKind.i64 v327 fun x332 =>
 uncK y328 fun v333 y334 =>
 SV.cI IntKind.i64 v333 fun x338 =>
 uncK y334 fun v339 y340 =>
 SV.cI IntKind.i64 v339 fun x344 =>
 uncK y340 fun v345 y346 =>
 SV.cB v345 fun y348 =>
 uncK y346 fun v349 y350 =>
 SV.cL v349 fun y357 =>
 uncK y350 fun v358 y359 =>
 SV.cL v358 fun y366 =>
 uncK y359 fun v367 y368 =>
 SV.cL v367 fun y375 =>
 PV.cs p9 fun b376 n377 =>
 St.at S b376 n377 fun y378 =>
 uncK y378 fun v379 y380 =>
 SV.cI IntKind.i64 v379 fun x384 =>
 uncK y380 fun v385 y386 =>
 SV.cB v385 fun y388 =>
 F6_q27 D J S x0 x2 c3 p9 x10 x308 x314 x320 x326 x332 x338 x344 y348 y357 y366 y375 x384 y388 K
noncomputable def X6_8 : X := (.op (.op (.op (.op (.jmp 12 [2, 3, 10, 14, 15])))))
theorem F6_8_eq (D J : Disp) (x0 : Int) (x2 : Int) (c3 : Bool) (p9 : PV) (x10 : Int) (p11 : PV) (S : St) (K : AV → St → Prop) : F6_8 D J x0 x2 c3 p9 x10 p11 S K = execK IrP IrG Go.Proofs.Try.f6 (typed IrP D) J plans6 X6_8 (T6 8).1 (envOf (T6 8).2 [(AV.one (V1.s (SV.int IntKind.i64 x0))), (AV.one (V1.s (SV.int IntKind.i64 x2))), (AV.one (V1.s (SV.bool c3))), (AV.one (V1.s (SV.ptr p9))), (AV.one (V1.s (SV.int IntKind.i64 x10))), (AV.one (V1.s (SV.ptr p11)))]) S K := by kernel_rfl
noncomputable def F6_12 (D J : Disp) (x2 : Int) (c3 : Bool) (x10 : Int) (p14 : PV) (c15 : Bool) (S : St) (K : AV → St → Prop) : Prop :=
 letK (α := Bool) ((Bool.not c3)) fun c300 =>
 ifK c300
 (letK (α := Bool) ((ile (0 : Int) x2)) fun c301 =>
 ifK c301
 (letK (α := Int) ((iwrap IntKind.i64 (x2 + x10))) fun x302 =>
 letK (α := Bool) ((ile x302 (32 : Int))) fun c303 =>
 J 15 [(AV.one (V1.s (SV.ptr p14))), (AV.one (V1.s (SV.bool c303)))] S K)
 (J 15 [(AV.one (V1.s (SV.ptr p14))), (AV.one (V1.s (SV.bool Bool.false)))] S K))
 (J 15 [(AV.one (V1.s (SV.ptr p14))), (AV.one (V1.s (SV.bool c15)))] S K)
noncomputable def X6_12 : X := (.op (.br (.op (.jmp 15 [14, 15])) (.jmp 15 [14, 15])))
theorem F6_12_eq (D J : Disp) (x2 : Int) (c3 : Bool) (x10 : Int) (p14 : PV) (c15 : Bool) (S : St) (K : AV → St → Prop) : F6_12 D J x2 c3 x10 p14 c15 S K = execK IrP IrG Go.Proofs.Try.f6 (typed IrP D) J plans6 X6_12 (T6 12).1 (envOf (T6 12).2 [(AV.one (V1.s (SV.int IntKind.i64 x2))), (AV.one (V1.s (SV.bool c3))), (AV.one (V1.s (SV.int IntKind.i64 x10))), (AV.one (V1.s (SV.ptr p14))), (AV.one (V1.s (SV.bool c15)))]) S K := by kernel_rfl
noncomputable def F6_q28 (D J : Disp) (S : St) (p14 : PV) (c341 : Bool) (K : AV → St → Prop) : Prop :=
 ifK c341
 (PV.cs p14 fun b342 n343 =>
 letK (α := Nat) ((n343 + 1)) fun n344 =>
 St.at S b342 n344 fun y345 =>
 uncK y345 fun v346 y347 =>
 SV.cI IntKind.i64 v346 fun x351 =>
 letK (α := Bool) ((ieq x351 (1 : Int))) fun c352 =>
 ifK c352
 (D 8 [] S fun v353 S354 =>
 scK v353 fun v356 =>
 SV.cB v356 fun y357 =>
 K ((AV.one (V1.s (SV.bool y357)))) S354)
 (K ((AV.one (V1.s (SV.bool Bool.false)))) S))
 (K ((AV.one (V1.s (SV.bool Bool.false)))) S)
noncomputable def F6_q29 (D J : Disp) (S : St) (p14 : PV) (c300 : Bool) (K : AV → St → Prop) : Prop :=
 ifK c300
 (PV.cs p14 fun b301 n302 =>
 letK (α := Nat) ((n302 + 0)) fun n303 =>
 St.at S b301 n303 fun y304 =>
 uncK y304 fun v305 y306 =>
 SV.cI IntKind.i64 v305 fun x310 =>
 letK (α := Bool) ((ieq x310 (2 : Int))) fun c311 =>
 ifK c311
 (D 8 [] S fun v312 S313 =>
 scK v312 fun v315 =>
 SV.cB v315 fun y316 =>
 K ((AV.one (V1.s (SV.bool y316)))) S313)
 (K ((AV.one (V1.s (SV.bool Bool.false)))) S))
 (PV.cs p14 fun b331 n332 =>
 letK (α := Nat) ((n332 + 0)) fun n333 =>
 St.at S b331 n333 fun y334 =>
 uncK y334 fun v335 y336 =>
 SV.cI IntKind.i64 v335 fun x340 =>
 letK (α := Bool) ((ieq x340 (1 : Int))) fun c341 =>
 F6_q28 D J S p14 c341 K)
noncomputable def F6_15 (D J : Disp) (p14 : PV) (c15 : Bool) (S : St) (K : AV → St → Prop) : Prop :=
 letK (α := Bool) ((Bool.not c15)) fun c300 =>
 F6_q29 D J S p14 c300 K
noncomputable def X6_15 : X := (.op (.br (.op .ret) (.op .ret)))
theorem F6_15_eq (D J : Disp) (p14 : PV) (c15 : Bool) (S : St) (K : AV → St → Prop) : F6_15 D J p14 c15 S K = execK IrP IrG Go.Proofs.Try.f6 (typed IrP D) J plans6 X6_15 (T6 15).1 (envOf (T6 15).2 [(AV.one (V1.s (SV.ptr p14))), (AV.one (V1.s (SV.bool c15)))]) S K := by kernel_rfl
noncomputable abbrev A6_0 (D J : Disp) (vals : List AV) (S : St) (K : AV → St → Prop) : Prop :=
  uncA vals fun a9001 r9002 => scK a9001 fun s9004 => SV.cI IntKind.i64 s9004 fun x0 => uncA r9002 fun a9007 r9008 => scK a9007 fun s9010 => SV.cI IntKind.i64 s9010 fun x1 => uncA r9008 fun a9013 r9014 => scK a9013 fun s9016 => SV.cI IntKind.i64 s9016 fun x2 => uncA r9014 fun a9019 r9020 => scK a9019 fun s9022 => SV.cB s9022 fun c3 => endL r9020 <| F6_0 D J x0 x1 x2 c3 S K
theorem A6_0_ok {D J : Disp} (hD : DOK IrP IrG D) (hJ : JOK IrP IrG Go.Proofs.Try.f6 T6 J) {vals : List AV} {S : St} {K : AV → St → Prop} (h0 : A6_0 D J vals S K) : Runs IrP IrG Go.Proofs.Try.f6 (T6 0).1 (envOf (T6 0).2 vals) S K := by
  obtain ⟨a9001, r9002, rfl, h3⟩ := uncA_some h0
  obtain ⟨s9004, rfl, h5⟩ := scK_some h3
  obtain ⟨x0, rfl, h6⟩ := cI_some h5
  obtain ⟨a9007, r9008, rfl, h9⟩ := uncA_some h6
  obtain ⟨s9010, rfl, h11⟩ := scK_some h9
  obtain ⟨x1, rfl, h12⟩ := cI_some h11
  obtain ⟨a9013, r9014, rfl, h15⟩ := uncA_some h12
  obtain ⟨s9016, rfl, h17⟩ := scK_some h15
  obtain ⟨x2, rfl, h18⟩ := cI_some h17
  obtain ⟨a9019, r9020, rfl, h21⟩ := uncA_some h18
  obtain ⟨s9022, rfl, h23⟩ := scK_some h21
  obtain ⟨c3, rfl, h24⟩ := cB_some h23
  obtain ⟨rfl, h25⟩ := endL_some h24
  have hq := Eq.mp (F6_0_eq D J x0 x1 x2 c3 S K) h25
  exact execK_runs hD.typed Ir_zero Ir_mixed hJ X6_0 (T6 0).1 (envOf (T6 0).2 _) S K (chk_of (by kernel_rfl) (by kernel_rfl)) hq
noncomputable abbrev A6_8 (D J : Disp) (vals : List AV) (S : St) (K : AV → St → Prop) : Prop :=
  uncA vals fun a9001 r9002 => scK a9001 fun s9004 => SV.cI IntKind.i64 s9004 fun x0 => uncA r9002 fun a9007 r9008 => scK a9007 fun s9010 => SV.cI IntKind.i64 s9010 fun x2 => uncA r9008 fun a9013 r9014 => scK a9013 fun s9016 => SV.cB s9016 fun c3 => uncA r9014 fun a9019 r9020 => scK a9019 fun s9022 => SV.cP s9022 fun p9 => uncA r9020 fun a9025 r9026 => scK a9025 fun s9028 => SV.cI IntKind.i64 s9028 fun x10 => uncA r9026 fun a9031 r9032 => scK a9031 fun s9034 => SV.cP s9034 fun p11 => endL r9032 <| F6_8 D J x0 x2 c3 p9 x10 p11 S K
theorem A6_8_ok {D J : Disp} (hD : DOK IrP IrG D) (hJ : JOK IrP IrG Go.Proofs.Try.f6 T6 J) {vals : List AV} {S : St} {K : AV → St → Prop} (h0 : A6_8 D J vals S K) : Runs IrP IrG Go.Proofs.Try.f6 (T6 8).1 (envOf (T6 8).2 vals) S K := by
  obtain ⟨a9001, r9002, rfl, h3⟩ := uncA_some h0
  obtain ⟨s9004, rfl, h5⟩ := scK_some h3
  obtain ⟨x0, rfl, h6⟩ := cI_some h5
  obtain ⟨a9007, r9008, rfl, h9⟩ := uncA_some h6
  obtain ⟨s9010, rfl, h11⟩ := scK_some h9
  obtain ⟨x2, rfl, h12⟩ := cI_some h11
  obtain ⟨a9013, r9014, rfl, h15⟩ := uncA_some h12
  obtain ⟨s9016, rfl, h17⟩ := scK_some h15
  obtain ⟨c3, rfl, h18⟩ := cB_some h17
  obtain ⟨a9019, r9020, rfl, h21⟩ := uncA_some h18
  obtain ⟨s9022, rfl, h23⟩ := scK_some h21
  obtain ⟨p9, rfl, h24⟩ := cP_some h23
  obtain ⟨a9025, r9026, rfl, h27⟩ := uncA_some h24
  obtain ⟨s9028, rfl, h29⟩ := scK_some h27
  obtain ⟨x10, rfl, h30⟩ := cI_some h29
  obtain ⟨a9031, r9032, rfl, h33⟩ := uncA_some h30
  obtain ⟨s9034, rfl, h35⟩ := scK_some h33
  obtain ⟨p11, rfl, h36⟩ := cP_some h35
  obtain ⟨rfl, h37⟩ := endL_some h36
  have hq := Eq.mp (F6_8_eq D J x0 x2 c3 p9 x10 p11 S K) h37
  exact execK_runs hD.typed Ir_zero Ir_mixed hJ X6_8 (T6 8).1 (envOf (T6 8).2 _) S K (chk_of (by kernel_rfl) (by kernel_rfl)) hq
noncomputable abbrev A6_12 (D J : Disp) (vals : List AV) (S : St) (K : AV → St → Prop) : Prop :=
  uncA vals fun a9001 r9002 => scK a9001 fun s9004 => SV.cI IntKind.i64 s9004 fun x2 => uncA r9002 fun a9007 r9008 => scK a9007 fun s9010 => SV.cB s9010 fun c3 => uncA r9008 fun a9013 r9014 => scK a9013 fun s9016 => SV.cI IntKind.i64 s9016 fun x10 => uncA r9014 fun a9019 r9020 => scK a9019 fun s9022 => SV.cP s9022 fun p14 => uncA r9020 fun a9025 r9026 => scK a9025 fun s9028 => SV.cB s9028 fun c15 => endL r9026 <| F6_12 D J x2 c3 x10 p14 c15 S K
theorem A6_12_ok {D J : Disp} (hD : DOK IrP IrG D) (hJ : JOK IrP IrG Go.Proofs.Try.f6 T6 J) {vals : List AV} {S : St} {K : AV → St → Prop} (h0 : A6_12 D J vals S K) : Runs IrP IrG Go.Proofs.Try.f6 (T6 12).1 (envOf (T6 12).2 vals) S K := by
  obtain ⟨a9001, r9002, rfl, h3⟩ := uncA_some h0
  obtain ⟨s9004, rfl, h5⟩ := scK_some h3
  obtain ⟨x2, rfl, h6⟩ := cI_some h5
  obtain ⟨a9007, r9008, rfl, h9⟩ := uncA_some h6
  obtain ⟨s9010, rfl, h11⟩ := scK_some h9
  obtain ⟨c3, rfl, h12⟩ := cB_some h11
  obtain ⟨a9013, r9014, rfl, h15⟩ := uncA_some h12
  obtain ⟨s9016, rfl, h17⟩ := scK_some h15
  obtain ⟨x10, rfl, h18⟩ := cI_some h17
  obtain ⟨a9019, r9020, rfl, h21⟩ := uncA_some h18
  obtain ⟨s9022, rfl, h23⟩ := scK_some h21
  obtain ⟨p14, rfl, h24⟩ := cP_some h23
  obtain ⟨a9025, r9026, rfl, h27⟩ := uncA_some h24
  obtain ⟨s9028, rfl, h29⟩ := scK_some h27
  obtain ⟨c15, rfl, h30⟩ := cB_some h29
  obtain ⟨rfl, h31⟩ := endL_some h30
  have hq := Eq.mp (F6_12_eq D J x2 c3 x10 p14 c15 S K) h31
  exact execK_runs hD.typed Ir_zero Ir_mixed hJ X6_12 (T6 12).1 (envOf (T6 12).2 _) S K (chk_of (by kernel_rfl) (by kernel_rfl)) hq
noncomputable abbrev A6_15 (D J : Disp) (vals : List AV) (S : St) (K : AV → St → Prop) : Prop :=
  uncA vals fun a9001 r9002 => scK a9001 fun s9004 => SV.cP s9004 fun p14 => uncA r9002 fun a9007 r9008 => scK a9007 fun s9010 => SV.cB s9010 fun c15 => endL r9008 <| F6_15 D J p14 c15 S K
theorem A6_15_ok {D J : Disp} (hD : DOK IrP IrG D) (hJ : JOK IrP IrG Go.Proofs.Try.f6 T6 J) {vals : List AV} {S : St} {K : AV → St → Prop} (h0 : A6_15 D J vals S K) : Runs IrP IrG Go.Proofs.Try.f6 (T6 15).1 (envOf (T6 15).2 vals) S K := by
  obtain ⟨a9001, r9002, rfl, h3⟩ := uncA_some h0
  obtain ⟨s9004, rfl, h5⟩ := scK_some h3
  obtain ⟨p14, rfl, h6⟩ := cP_some h5
  obtain ⟨a9007, r9008, rfl, h9⟩ := uncA_some h6
  obtain ⟨s9010, rfl, h11⟩ := scK_some h9
  obtain ⟨c15, rfl, h12⟩ := cB_some h11
  obtain ⟨rfl, h13⟩ := endL_some h12
  have hq := Eq.mp (F6_15_eq D J p14 c15 S K) h13
  exact execK_runs hD.typed Ir_zero Ir_mixed hJ X6_15 (T6 15).1 (envOf (T6 15).2 _) S K (chk_of (by kernel_rfl) (by kernel_rfl)) hq
noncomputable def J6 (D : Disp) (k : Nat) : Disp := Nat.rec (motive := fun _ => Disp) Disp.no (fun _ ih => Disp.add 0 (A6_0 D ih) <| Disp.add 8 (A6_8 D ih) <| Disp.add 12 (A6_12 D ih) <| Disp.add 15 (A6_15 D ih) <| Disp.no) k
theorem J6_ok {D : Disp} (hD : DOK IrP IrG D) : ∀ k, JOK IrP IrG Go.Proofs.Try.f6 T6 (J6 D k)
  | 0 => JOK.no
  | k + 1 => JOK.add (ltB_ok (by kernel_rfl)) (fun vals S K h => A6_0_ok hD (J6_ok hD k) h) <| JOK.add (ltB_ok (by kernel_rfl)) (fun vals S K h => A6_8_ok hD (J6_ok hD k) h) <| JOK.add (ltB_ok (by kernel_rfl)) (fun vals S K h => A6_12_ok hD (J6_ok hD k) h) <| JOK.add (ltB_ok (by kernel_rfl)) (fun vals S K h => A6_15_ok hD (J6_ok hD k) h) <| JOK.no
theorem E6_ok {D : Disp} (hD : DOK IrP IrG D) (k : Nat) {args : List AV} {S : St} {K : AV → St → Prop} (h : A6_0 D (J6 D k) args S K) : CallE IrP IrG 6 args S K := by
  have hr := A6_0_ok hD (J6_ok hD k) h
  have hl : args.length = 4 := by
    have h0 := h
    obtain ⟨a9001, r9002, rfl, h3⟩ := uncA_some h0
    obtain ⟨s9004, rfl, h5⟩ := scK_some h3
    obtain ⟨x0, rfl, h6⟩ := cI_some h5
    obtain ⟨a9007, r9008, rfl, h9⟩ := uncA_some h6
    obtain ⟨s9010, rfl, h11⟩ := scK_some h9
    obtain ⟨x1, rfl, h12⟩ := cI_some h11
    obtain ⟨a9013, r9014, rfl, h15⟩ := uncA_some h12
    obtain ⟨s9016, rfl, h17⟩ := scK_some h15
    obtain ⟨x2, rfl, h18⟩ := cI_some h17
    obtain ⟨a9019, r9020, rfl, h21⟩ := uncA_some h18
    obtain ⟨s9022, rfl, h23⟩ := scK_some h21
    obtain ⟨c3, rfl, h24⟩ := cB_some h23
    obtain ⟨rfl, h25⟩ := endL_some h24
    rfl
  refine callOK_of (fn := Go.Proofs.Try.f6) (c := (match Go.Proofs.Try.f6.body with | some c => c | none => .skip)) (by kernel_rfl) (by kernel_rfl) (by kernel_rfl) (by rw [hl]; kernel_rfl) (by kernel_rfl) ?_
  rw [hl]
  exact hr
noncomputable def plans8 (i : Nat) : Plan := if Nat.beq i 3 then [(0, []), (1, [0]), (2, [1, 0]), (3, [2, 1, 0]), (4, [3, 2, 1, 0]), (5, [4, 2, 3, 1, 0]), (6, [2, 5, 1, 4, 0, 3]), (7, [6, 4, 2, 5, 3, 1, 0]), (8, [7, 6, 4, 2, 5, 3, 1, 0]), (9, [7, 6, 4, 2, 5, 3, 1, 0]), (10, [9, 7, 6, 4, 2, 5, 3, 1, 0]), (11, [8, 10, 7, 9, 6, 4, 2, 5, 3, 1, 0]), (12, [7, 11, 6, 4, 8, 10, 2, 5, 3, 9, 1, 0]), (13, [12, 11, 7, 8, 10, 6, 4, 9, 2, 5, 3, 1, 0]), (14, [13, 12, 11, 7, 8, 10, 6, 4, 9, 2, 5, 3, 1, 0]), (15, [14, 13, 12, 11, 7, 8, 10, 6, 4, 9, 2, 5, 3, 1, 0]), (16, [15, 13, 14, 12, 11, 7, 8, 10, 6, 4, 9, 2, 5, 3, 1, 0]), (17, [16, 13, 15, 12, 11, 14, 7, 8, 10, 6, 4, 9, 2, 5, 3, 1, 0]), (18, [13, 17, 12, 11, 16, 7, 8, 10, 15, 6, 4, 9, 14, 2, 5, 3, 1, 0]), (19, [18, 15, 13, 17, 14, 12, 11, 16, 7, 8, 10, 6, 4, 9, 2, 5, 3, 1, 0]), (20, [19, 18, 15, 13, 17, 14, 12, 11, 16, 7, 8, 10, 6, 4, 9, 2, 5, 3, 1, 0]), (21, [20, 19, 18, 15, 13, 17, 14, 12, 11, 16, 7, 8, 10, 6, 4, 9, 2, 5, 3, 1, 0]), (22, [21, 19, 20, 18, 15, 13, 17, 14, 12, 11, 16, 7, 8, 10, 6, 4, 9, 2, 5, 3, 1, 0]), (23, [19, 22, 18, 15, 21, 13, 17, 14, 20, 12, 11, 16, 7, 8, 10, 6, 4, 9, 2, 5, 3, 1, 0]), (24, [23, 21, 19, 22, 20, 18, 15, 13, 17, 14, 12, 11, 16, 7, 8, 10, 6, 4, 9, 2, 5, 3, 1, 0]), (25, [24, 23, 21, 19, 22, 20, 18, 15, 13, 17, 14, 12, 11, 16, 7, 8, 10, 6, 4, 9, 2, 5, 3, 1, 0]), (26, [24, 23, 21, 19, 22, 20, 18, 15, 13, 17, 14, 12, 11, 16, 7, 8, 10, 6, 4, 9, 2, 5, 3, 1, 0]), (27, [26, 24, 23, 21, 19, 22, 20, 18, 15, 13, 17, 14, 12, 11, 16, 7, 8, 10, 6, 4, 9, 2, 5, 3, 1, 0]), (28, [25, 27, 24, 26, 23, 21, 19, 22, 20, 18, 15, 13, 17, 14, 12, 11, 16, 7, 8, 10, 6, 4, 9, 2, 5, 3, 1, 0]), (29, [24, 28, 23, 21, 25, 27, 19, 22, 20, 26, 18, 15, 13, 17, 14, 12, 11, 16, 7, 8, 10, 6, 4, 9, 2, 5, 3, 1, 0]), (30, [29, 28, 24, 25, 27, 23, 21, 26, 19, 22, 20, 18, 15, 13, 17, 14, 12, 11, 16, 7, 8, 10, 6, 4, 9, 2, 5, 3, 1, 0]), (31, [30, 29, 28, 24, 25, 27, 23, 21, 26, 19, 22, 20, 18, 15, 13, 17, 14, 12, 11, 16, 7, 8, 10, 6, 4, 9, 2, 5, 3, 1, 0]), (32, [30, 29, 28, 24, 25, 27, 23, 21, 26, 19, 22, 20, 18, 15, 13, 17, 14, 12, 11, 16, 7, 8, 10, 6, 4, 9, 2, 5, 3, 1, 0]), (33, [31, 32, 30, 29, 28, 24, 25, 27, 23, 21, 26, 19, 22, 20, 18, 15, 13, 17, 14, 12, 11, 16, 7, 8, 10, 6, 4, 9, 2, 5, 3, 1, 0]), (34, [33, 30, 31, 32, 29, 28, 24, 25, 27, 23, 21, 26, 19, 22, 20, 18, 15, 13, 17, 14, 12, 11, 16, 7, 8, 10, 6, 4, 9, 2, 5, 3, 1, 0]), (35, [30, 34, 29, 28, 33, 24, 25, 27, 31, 32, 23, 21, 26, 19, 22, 20, 18, 15, 13, 17, 14, 12, 11, 16, 7, 8, 10, 6, 4, 9, 2, 5, 3, 1, 0]), (36, [35, 33, 30, 34, 31, 32, 29, 28, 24, 25, 27, 23, 21, 26, 19, 22, 20, 18, 15, 13, 17, 14, 12, 11, 16, 7, 8, 10, 6, 4, 9, 2, 5, 3, 1, 0]), (37, [36, 35, 33, 30, 34, 31, 32, 29, 28, 24, 25, 27, 23, 21, 26, 19, 22, 20, 18, 15, 13, 17, 14, 12, 11, 16, 7, 8, 10, 6, 4, 9, 2, 5, 3, 1, 0]), (38, [37, 36, 35, 33, 30, 34, 31, 32, 29, 28, 24, 25, 27, 23, 21, 26, 19, 22, 20, 18, 15, 13, 17, 14, 12, 11, 16, 7, 8, 10, 6, 4, 9, 2, 5, 3, 1, 0]), (39, [36, 38, 35, 33, 37, 30, 34, 31, 32, 29, 28, 24, 25, 27, 23, 21, 26, 19, 22, 20, 18, 15, 13, 17, 14, 12, 11, 16, 7, 8, 10, 6, 4, 9, 2, 5, 3, 1, 0]), (40, [39, 38, 0, 1, 2, 3, 4, 5, 6, 7, 8, 9, 10, 11, 12, 13, 14, 15, 16, 17, 18, 19, 20, 21, 22, 23, 24, 25, 26, 27, 28, 29, 30, 31, 32, 33, 34, 35, 36, 37])] else []
noncomputable def T8 (p : Nat) : List Item × List Nat := bif Nat.beq p 0 then ([.code (match Go.Proofs.Try.f8.body with | some c => c | none => .skip)], []) else
  ([], [])
noncomputable def X8_0 : X := (.op (.op (.op (.op .ret))))
noncomputable def A8_0 (D J : Disp) (vals : List AV) (S : St) (K : AV → St → Prop) : Prop := req (Nat.beq vals.length 0) (execK IrP IrG Go.Proofs.Try.f8 (typed IrP D) J plans8 X8_0 (T8 0).1 (envOf (T8 0).2 vals) S K)
theorem A8_0_ok {D J : Disp} (hD : DOK IrP IrG D) (hJ : JOK IrP IrG Go.Proofs.Try.f8 T8 J) {vals : List AV} {S : St} {K : AV → St → Prop} (h0 : A8_0 D J vals S K) : Runs IrP IrG Go.Proofs.Try.f8 (T8 0).1 (envOf (T8 0).2 vals) S K :=
  execK_runs hD.typed Ir_zero Ir_mixed hJ X8_0 (T8 0).1 (envOf (T8 0).2 vals) S K (chk_of (by kernel_rfl) (by kernel_rfl)) (req_and h0).2
noncomputable def J8 (D : Disp) (k : Nat) : Disp := Nat.rec (motive := fun _ => Disp) Disp.no (fun _ ih => Disp.add 0 (A8_0 D ih) <| Disp.no) k
theorem J8_ok {D : Disp} (hD : DOK IrP IrG D) : ∀ k, JOK IrP IrG Go.Proofs.Try.f8 T8 (J8 D k)
  | 0 => JOK.no
  | k + 1 => JOK.add (ltB_ok (by kernel_rfl)) (fun vals S K h => A8_0_ok hD (J8_ok hD k) h) <| JOK.no
theorem E8_ok {D : Disp} (hD : DOK IrP IrG D) (k : Nat) {args : List AV} {S : St} {K : AV → St → Prop} (h : A8_0 D (J8 D k) args S K) : CallE IrP IrG 8 args S K := by
  have hr := A8_0_ok hD (J8_ok hD k) h
  have hl : args.length = 0 := Nat.eq_of_beq_eq_true (req_and h).1
  refine callOK_of (fn := Go.Proofs.Try.f8) (c := (match Go.Proofs.Try.f8.body with | some c => c | none => .skip)) (by kernel_rfl) (by kernel_rfl) (by kernel_rfl) (by rw [hl]; kernel_rfl) (by kernel_rfl) ?_
  rw [hl]
  exact hr
noncomputable def plans9 (i : Nat) : Plan := []
noncomputable def T9 (p : Nat) : List Item × List Nat := bif Nat.beq p 0 then ([.code (match Go.Proofs.Try.f9.body with | some c => c | none => .skip)], [0]) else
  bif Nat.beq p 5 then (navs [.op, .op, .op, .op, .th] [.code (match Go.Proofs.Try.f9.body with | some c => c | none => .skip)], [1, 3, 5, 6]) else
  bif Nat.beq p 7 then (navs [.op, .op, .op, .op, .th, .th, .op] [.code (match Go.Proofs.Try.f9.body with | some c => c | none => .skip)], [1, 3]) else
  bif Nat.beq p 21 then (navs [.op, .op, .op, .op, .th, .el, .op, .th] [.code (match Go.Proofs.Try.f9.body with | some c => c | none => .skip)], [1, 3, 5, 21]) else
  bif Nat.beq p 10 then (navs [.op, .op, .op, .op, .th, .th, .op, .op, .op, .th] [.code (match Go.Proofs.Try.f9.body with | some c => c | none => .skip)], [1, 3, 43]) else
  ([], [])
noncomputable def F9_q9 (D J : Disp) (S : St) (S300 : St) (x307 : Int) (K : AV → St → Prop) : Prop :=
 letK (α := Bool) ((ieq x307 (18 : Int))) fun c315 =>
 ifK c315
 (J 5 [(AV.one (V1.s (SV.ptr (PV.mk (Bk.new (St.next S)) 0)))), (AV.one (V1.s (SV.sl LV.nil))), (AV.one (V1.s (SV.int IntKind.i64 x307))), (AV.one (V1.s (SV.bool c315)))] S300 K)
 (letK (α := Bool) ((ieq x307 (20 : Int))) fun c316 =>
 J 5 [(AV.one (V1.s (SV.ptr (PV.mk (Bk.new (St.next S)) 0)))), (AV.one (V1.s (SV.sl LV.nil))), (AV.one (V1.s (SV.int IntKind.i64 x307))), (AV.one (V1.s (SV.bool c316)))] S300 K)
noncomputable def F9_q10 (D J : Disp) (S : St) (S300 : St) (x307 : Int) (c313 : Bool) (K : AV → St → Prop) : Prop :=
 ifK c313
 (J 5 [(AV.one (V1.s (SV.ptr (PV.mk (Bk.new (St.next S)) 0)))), (AV.one (V1.s (SV.sl LV.nil))), (AV.one (V1.s (SV.int IntKind.i64 x307))), (AV.one (V1.s (SV.bool c313)))] S300 K)
 (letK (α := Bool) ((ieq x307 (16 : Int))) fun c314 =>
 ifK c314
 (J 5 [(AV.one (V1.s (SV.ptr (PV.mk (Bk.new (St.next S)) 0)))), (AV.one (V1.s (SV.sl LV.nil))), (AV.one (V1.s (SV.int IntKind.i64 x307))), (AV.one (V1.s (SV.bool c314)))] S300 K)
 (F9_q9 D J S S300 x307 K))
noncomputable def F9_q11 (D J : Disp) (S : St) (S300 : St) (x307 : Int) (c311 : Bool) (K : AV → St → Prop) : Prop :=
 ifK c311
 (J 5 [(AV.one (V1.s (SV.ptr (PV.mk (Bk.new (St.next S)) 0)))), (AV.one (V1.s (SV.sl LV.nil))), (AV.one (V1.s (SV.int IntKind.i64 x307))), (AV.one (V1.s (SV.bool c311)))] S300 K)
 (letK (α := Bool) ((ieq x307 (13 : Int))) fun c312 =>
 ifK c312
 (J 5 [(AV.one (V1.s (SV.ptr (PV.mk (Bk.new (St.next S)) 0)))), (AV.one (V1.s (SV.sl LV.nil))), (AV.one (V1.s (SV.int IntKind.i64 x307))), (AV.one (V1.s (SV.bool c312)))] S300 K)
 (letK (α := Bool) ((ieq x307 (15 : Int))) fun c313 =>
 F9_q10 D J S S300 x307 c313 K))
noncomputable def F9_q12 (D J : Disp) (S : St) (S300 : St) (x307 : Int) (c309 : Bool) (K : AV → St → Prop) : Prop :=
 ifK c309
 (J 5 [(AV.one (V1.s (SV.ptr (PV.mk (Bk.new (St.next S)) 0)))), (AV.one (V1.s (SV.sl LV.nil))), (AV.one (V1.s (SV.int IntKind.i64 x307))), (AV.one (V1.s (SV.bool c309)))] S300 K)
 (letK (α := Bool) ((ieq x307 (5 : Int))) fun c310 =>
 ifK c310
 (J 5 [(AV.one (V1.s (SV.ptr (PV.mk (Bk.new (St.next S)) 0)))), (AV.one (V1.s (SV.sl LV.nil))), (AV.one (V1.s (SV.int IntKind.i64 x307))), (AV.one (V1.s (SV.bool c310)))] S300 K)
 (letK (α := Bool) ((ieq x307 (11 : Int))) fun c311 =>
 F9_q11 D J S S300 x307 c311 K))
noncomputable def F9_0 (D J : Disp) (x0_0 : Int) (x0_1 : Int) (x0_2 : Int) (x0_3 : Int) (x0_4 : Int) (x0_5 : Int) (x0_6 : Int) (c0_7 : Bool) (l0_8 : LV) (l0_9 : LV) (l0_10 : LV) (S : St) (K : AV → St → Prop) : Prop :=
 letK (α := St) ((St.add S (AO.cells [(SV.int IntKind.i64 x0_0), (SV.int IntKind.i64 x0_1), (SV.int IntKind.i64 x0_2), (SV.int IntKind.i64 x0_3), (SV.int IntKind.i64 x0_4), (SV.int IntKind.i64 x0_5), (SV.int IntKind.i64 x0_6), (SV.bool c0_7), (SV.sl l0_8), (SV.sl l0_9), (SV.sl l0_10)] (Op2.ty 27)))) fun S300 =>
 St.at S300 (Bk.new (St.next S)) 0 fun y301 =>
 uncK y301 fun v302 y303 =>
 SV.cI IntKind.i64 v302 fun x307 =>
 letK (α := Bool) ((ieq x307 (2 : Int))) fun c308 =>
 ifK c308
 (J 5 [(AV.one (V1.s (SV.ptr (PV.mk (Bk.new (St.next S)) 0)))), (AV.one (V1.s (SV.sl LV.nil))), (AV.one (V1.s (SV.int IntKind.i64 x307))), (AV.one (V1.s (SV.bool c308)))] S300 K)
 (letK (α := Bool) ((ieq x307 (4 : Int))) fun c309 =>
 F9_q12 D J S S300 x307 c309 K)
noncomputable def X9_0 : X := (.op (.op (.op (.op (.br (.jmp 5 [1, 3, 5, 6]) (.op (.br (.jmp 5 [1, 3, 5, 6]) (.op (.br (.jmp 5 [1, 3, 5, 6]) (.op (.br (.jmp 5 [1, 3, 5, 6]) (.op (.br (.jmp 5 [1, 3, 5, 6]) (.op (.br (.jmp 5 [1, 3, 5, 6]) (.op (.br (.jmp 5 [1, 3, 5, 6]) (.op (.br (.jmp 5 [1, 3, 5, 6]) (.op (.jmp 5 [1, 3, 5, 6])))))))))))))))))))))
theorem F9_0_eq (D J : Disp) (x0_0 : Int) (x0_1 : Int) (x0_2 : Int) (x0_3 : Int) (x0_4 : Int) (x0_5 : Int) (x0_6 : Int) (c0_7 : Bool) (l0_8 : LV) (l0_9 : LV) (l0_10 : LV) (S : St) (K : AV → St → Prop) : F9_0 D J x0_0 x0_1 x0_2 x0_3 x0_4 x0_5 x0_6 c0_7 l0_8 l0_9 l0_10 S K = execK IrP IrG Go.Proofs.Try.f9 (typed IrP D) J plans9 X9_0 (T9 0).1 (envOf (T9 0).2 [(AV.one (V1.agg [(SV.int IntKind.i64 x0_0), (SV.int IntKind.i64 x0_1), (SV.int IntKind.i64 x0_2), (SV.int IntKind.i64 x0_3), (SV.int IntKind.i64 x0_4), (SV.int IntKind.i64 x0_5), (SV.int IntKind.i64 x0_6), (SV.bool c0_7), (SV.sl l0_8), (SV.sl l0_9), (SV.sl l0_10)]))]) S K := by kernel_rfl
noncomputable def F9_q13 (D J : Disp) (S : St) (p1 : PV) (l3 : LV) (K : AV → St → Prop) : Prop :=
 PV.cs p1 fun b300 n301 =>
 letK (α := Nat) ((n301 + 3)) fun n302 =>
 St.at S b300 n302 fun y303 =>
 uncK y303 fun v304 y305 =>
 SV.cI IntKind.i64 v304 fun x309 =>
 letK (α := (Sum Nat Nat)) ((Sum.inl 1)) fun d310 =>
 letK (α := St) ((St.add S (AO.cells [(SV.int IntKind.i64 x309)] Op2.sh))) fun S311 =>
 St.src S311 1 (LV.mk (Bk.new (St.next S)) 0 1 d310) fun y312 n313 =>
 St.app S311 3 1 8 l3 y312 n313 fun y314 S315 =>
 J 7 [(AV.one (V1.s (SV.ptr p1))), (AV.one (V1.s (SV.sl y314)))] S315 K
noncomputable def F9_5 (D J : Disp) (p1 : PV) (l3 : LV) (x5 : Int) (c6 : Bool) (S : St) (K : AV → St → Prop) : Prop :=
 ifK c6
 (F9_q13 D J S p1 l3 K)
 (letK (α := Bool) ((ieq x5 (3 : Int))) fun c321 =>
 ifK c321
 (J 21 [(AV.one (V1.s (SV.ptr p1))), (AV.one (V1.s (SV.sl l3))), (AV.one (V1.s (SV.int IntKind.i64 x5))), (AV.one (V1.s (SV.bool c321)))] S K)
 (letK (α := Bool) ((ieq x5 (6 : Int))) fun c322 =>
 J 21 [(AV.one (V1.s (SV.ptr p1))), (AV.one (V1.s (SV.sl l3))), (AV.one (V1.s (SV.int IntKind.i64 x5))), (AV.one (V1.s (SV.bool c322)))] S K))
noncomputable def X9_5 : X := (.br (.op (.jmp 7 [1, 3])) (.op (.br (.jmp 21 [1, 3, 5, 21]) (.op (.jmp 21 [1, 3, 5, 21])))))
theorem F9_5_eq (D J : Disp) (p1 : PV) (l3 : LV) (x5 : Int) (c6 : Bool) (S : St) (K : AV → St → Prop) : F9_5 D J p1 l3 x5 c6 S K = execK IrP IrG Go.Proofs.Try.f9 (typed IrP D) J plans9 X9_5 (T9 5).1 (envOf (T9 5).2 [(AV.one (V1.s (SV.ptr p1))), (AV.one (V1.s (SV.sl l3))), (AV.one (V1.s (SV.int IntKind.i64 x5))), (AV.one (V1.s (SV.bool c6)))]) S K := by kernel_rfl
noncomputable def F9_q14 (D J : Disp) (S : St) (p1 : PV) (l3 : LV) (x309 : Int) (K : AV → St → Prop) : Prop :=
 letK (α := Bool) ((ieq x309 (11 : Int))) fun c311 =>
 ifK c311
 (J 10 [(AV.one (V1.s (SV.ptr p1))), (AV.one (V1.s (SV.sl l3))), (AV.one (V1.s (SV.bool c311)))] S K)
 (letK (α := Bool) ((ieq x309 (19 : Int))) fun c312 =>
 ifK c312
 (J 10 [(AV.one (V1.s (SV.ptr p1))), (AV.one (V1.s (SV.sl l3))), (AV.one (V1.s (SV.bool c312)))] S K)
 (letK (α := Bool) ((ieq x309 (20 : Int))) fun c313 =>
 J 10 [(AV.one (V1.s (SV.ptr p1))), (AV.one (V1.s (SV.sl l3))), (AV.one (V1.s (SV.bool c313)))] S K))
noncomputable def F9_7 (D J : Disp) (p1 : PV) (l3 : LV) (S : St) (K : AV → St → Prop) : Prop :=
 PV.cs p1 fun b300 n301 =>
 letK (α := Nat) ((n301 + 0)) fun n302 =>
 St.at S b300 n302 fun y303 =>
 uncK y303 fun v304 y305 =>
 SV.cI IntKind.i64 v304 fun x309 =>
 letK (α := Bool) ((ieq x309 (10 : Int))) fun c310 =>
 ifK c310
 (J 10 [(AV.one (V1.s (SV.ptr p1))), (AV.one (V1.s (SV.sl l3))), (AV.one (V1.s (SV.bool c310)))] S K)
 (F9_q14 D J S p1 l3 x309 K)
noncomputable def X9_7 : X := (.op (.op (.br (.jmp 10 [1, 3, 43]) (.op (.br (.jmp 10 [1, 3, 43]) (.op (.br (.jmp 10 [1, 3, 43]) (.op (.jmp 10 [1, 3, 43])))))))))
theorem F9_7_eq (D J : Disp) (p1 : PV) (l3 : LV) (S : St) (K : AV → St → Prop) : F9_7 D J p1 l3 S K = execK IrP IrG Go.Proofs.Try.f9 (typed IrP D) J plans9 X9_7 (T9 7).1 (envOf (T9 7).2 [(AV.one (V1.s (SV.ptr p1))), (AV.one (V1.s (SV.sl l3)))]) S K := by kernel_rfl
noncomputable def F9_10 (D J : Disp) (p1 : PV) (l3 : LV) (c43 : Bool) (S : St) (K : AV → St → Prop) : Prop :=
 ifK c43
 (PV.cs p1 fun b300 n301 =>
 letK (α := Nat) ((n301 + 8)) fun n302 =>
 St.at S b300 n302 fun y303 =>
 uncK y303 fun v304 y305 =>
 SV.cL v304 fun y312 =>
 St.src S 1 y312 fun y313 n314 =>
 St.app S 3 1 8 l3 y313 n314 fun y315 S316 =>
 K ((AV.one (V1.s (SV.sl y315)))) S316)
 (K ((AV.one (V1.s (SV.sl l3)))) S)
noncomputable def X9_10 : X := (.br (.op (.op .ret)) (.op .ret))
theorem F9_10_eq (D J : Disp) (p1 : PV) (l3 : LV) (c43 : Bool) (S : St) (K : AV → St → Prop) : F9_10 D J p1 l3 c43 S K = execK IrP IrG Go.Proofs.Try.f9 (typed IrP D) J plans9 X9_10 (T9 10).1 (envOf (T9 10).2 [(AV.one (V1.s (SV.ptr p1))), (AV.one (V1.s (SV.sl l3))), (AV.one (V1.s (SV.bool c43)))]) S K := by kernel_rfl
noncomputable def F9_q15 (D J : Disp) (S : St) (p1 : PV) (l3 : LV) (x309 : Int) (b310 : Bk) (n312 : Nat) (K : AV → St → Prop) : Prop :=
 St.at S b310 n312 fun y313 =>
 uncK y313 fun v314 y315 =>
 SV.cI IntKind.i64 v314 fun x319 =>
 letK (α := (Sum Nat Nat)) ((Sum.inl 2)) fun d320 =>
 letK (α := St) ((St.add S (AO.cells [(SV.int IntKind.i64 x309), (SV.int IntKind.i64 x319)] Op2.sh))) fun S321 =>
 St.src S321 1 (LV.mk (Bk.new (St.next S)) 0 2 d320) fun y322 n323 =>
 St.app S321 3 1 8 l3 y322 n323 fun y324 S325 =>
 J 7 [(AV.one (V1.s (SV.ptr p1))), (AV.one (V1.s (SV.sl y324)))] S325 K
noncomputable def F9_q16 (D J : Disp) (S : St) (p1 : PV) (l3 : LV) (K : AV → St → Prop) : Prop :=
 PV.cs p1 fun b348 n349 =>
 letK (α := Nat) ((n349 + 3)) fun n350 =>
 St.at S b348 n350 fun y351 =>
 uncK y351 fun v352 y353 =>
 SV.cI IntKind.i64 v352 fun x357 =>
 letK (α := (Sum Nat Nat)) ((Sum.inl 1)) fun d358 =>
 letK (α := St) ((St.add S (AO.cells [(SV.int IntKind.i64 x357)] Op2.sh))) fun S359 =>
 St.src S359 1 (LV.mk (Bk.new (St.next S)) 0 1 d358) fun y360 n361 =>
 St.app S359 3 1 8 l3 y360 n361 fun y362 S363 =>
 J 7 [(AV.one (V1.s (SV.ptr p1))), (AV.one (V1.s (SV.sl y362)))] S363 K
noncomputable def F9_q17 (D J : Disp) (S : St) (p1 : PV) (l3 : LV) (x5 : Int) (K : AV → St → Prop) : Prop :=
 letK (α := Bool) ((ieq x5 (17 : Int))) fun c336 =>
 ifK c336
 (PV.cs p1 fun b337 n338 =>
 letK (α := Nat) ((n338 + 3)) fun n339 =>
 St.at S b337 n339 fun y340 =>
 uncK y340 fun v341 y342 =>
 SV.cI IntKind.i64 v341 fun x346 =>
 letK (α := Bool) ((Bool.not (ieq x346 (Int.negSucc 0)))) fun c347 =>
 ifK c347
 (F9_q16 D J S p1 l3 K)
 (J 7 [(AV.one (V1.s (SV.ptr p1))), (AV.one (V1.s (SV.sl l3)))] S K))
 (J 7 [(AV.one (V1.s (SV.ptr p1))), (AV.one (V1.s (SV.sl l3)))] S K)
noncomputable def F9_21 (D J : Disp) (p1 : PV) (l3 : LV) (x5 : Int) (c21 : Bool) (S : St) (K : AV → St → Prop) : Prop :=
 ifK c21
 (PV.cs p1 fun b300 n301 =>
 letK (α := Nat) ((n301 + 3)) fun n302 =>
 St.at S b300 n302 fun y303 =>
 uncK y303 fun v304 y305 =>
 SV.cI IntKind.i64 v304 fun x309 =>
 PV.cs p1 fun b310 n311 =>
 letK (α := Nat) ((n311 + 4)) fun n312 =>
 F9_q15 D J S p1 l3 x309 b310 n312 K)
 (F9_q17 D J S p1 l3 x5 K)
noncomputable def X9_21 : X := (.br (.op (.jmp 7 [1, 3])) (.op (.br (.op (.br (.op (.jmp 7 [1, 3])) (.jmp 7 [1, 3]))) (.jmp 7 [1, 3]))))
theorem F9_21_eq (D J : Disp) (p1 : PV) (l3 : LV) (x5 : Int) (c21 : Bool) (S : St) (K : AV → St → Prop) : F9_21 D J p1 l3 x5 c21 S K = execK IrP IrG Go.Proofs.Try.f9 (typed IrP D) J plans9 X9_21 (T9 21).1 (envOf (T9 21).2 [(AV.one (V1.s (SV.ptr p1))), (AV.one (V1.s (SV.sl l3))), (AV.one (V1.s (SV.int IntKind.i64 x5))), (AV.one (V1.s (SV.bool c21)))]) S K := by kernel_rfl
noncomputable abbrev A9_0 (D J : Disp) (vals : List AV) (S : St) (K : AV → St → Prop) : Prop :=
  uncA vals fun a9001 r9002 => avA a9001 fun l9004 => uncK l9004 fun s9006 r9007 => SV.cI IntKind.i64 s9006 fun x0_0 => uncK r9007 fun s9010 r9011 => SV.cI IntKind.i64 s9010 fun x0_1 => uncK r9011 fun s9014 r9015 => SV.cI IntKind.i64 s9014 fun x0_2 => uncK r9015 fun s9018 r9019 => SV.cI IntKind.i64 s9018 fun x0_3 => uncK r9019 fun s9022 r9023 => SV.cI IntKind.i64 s9022 fun x0_4 => uncK r9023 fun s9026 r9027 => SV.cI IntKind.i64 s9026 fun x0_5 => uncK r9027 fun s9030 r9031 => SV.cI IntKind.i64 s9030 fun x0_6 => uncK r9031 fun s9034 r9035 => SV.cB s9034 fun c0_7 => uncK r9035 fun s9038 r9039 => SV.cL s9038 fun l0_8 => uncK r9039 fun s9042 r9043 => SV.cL s9042 fun l0_9 => uncK r9043 fun s9046 r9047 => SV.cL s9046 fun l0_10 => endL r9047 <| endL r9002 <| F9_0 D J x0_0 x0_1 x0_2 x0_3 x0_4 x0_5 x0_6 c0_7 l0_8 l0_9 l0_10 S K
theorem A9_0_ok {D J : Disp} (hD : DOK IrP IrG D) (hJ : JOK IrP IrG Go.Proofs.Try.f9 T9 J) {vals : List AV} {S : St} {K : AV → St → Prop} (h0 : A9_0 D J vals S K) : Runs IrP IrG Go.Proofs.Try.f9 (T9 0).1 (envOf (T9 0).2 vals) S K := by
  obtain ⟨a9001, r9002, rfl, h3⟩ := uncA_some h0
  obtain ⟨l9004, rfl, h5⟩ := avA_some h3
  obtain ⟨s9006, r9007, rfl, h8⟩ := uncK_some h5
  obtain ⟨x0_0, rfl, h9⟩ := cI_some h8
  obtain ⟨s9010, r9011, rfl, h12⟩ := uncK_some h9
  obtain ⟨x0_1, rfl, h13⟩ := cI_some h12
  obtain ⟨s9014, r9015, rfl, h16⟩ := uncK_some h13
  obtain ⟨x0_2, rfl, h17⟩ := cI_some h16
  obtain ⟨s9018, r9019, rfl, h20⟩ := uncK_some h17
  obtain ⟨x0_3, rfl, h21⟩ := cI_some h20
  obtain ⟨s9022, r9023, rfl, h24⟩ := uncK_some h21
  obtain ⟨x0_4, rfl, h25⟩ := cI_some h24
  obtain ⟨s9026, r9027, rfl, h28⟩ := uncK_some h25
  obtain ⟨x0_5, rfl, h29⟩ := cI_some h28
  obtain ⟨s9030, r9031, rfl, h32⟩ := uncK_some h29
  obtain ⟨x0_6, rfl, h33⟩ := cI_some h32
  obtain ⟨s9034, r9035, rfl, h36⟩ := uncK_some h33
  obtain ⟨c0_7, rfl, h37⟩ := cB_some h36
  obtain ⟨s9038, r9039, rfl, h40⟩ := uncK_some h37
  obtain ⟨l0_8, rfl, h41⟩ := cL_some h40
  obtain ⟨s9042, r9043, rfl, h44⟩ := uncK_some h41
  obtain ⟨l0_9, rfl, h45⟩ := cL_some h44
  obtain ⟨s9046, r9047, rfl, h48⟩ := uncK_some h45
  obtain ⟨l0_10, rfl, h49⟩ := cL_some h48
  obtain ⟨rfl, h50⟩ := endL_some h49
  obtain ⟨rfl, h51⟩ := endL_some h50
  have hq := Eq.mp (F9_0_eq D J x0_0 x0_1 x0_2 x0_3 x0_4 x0_5 x0_6 c0_7 l0_8 l0_9 l0_10 S K) h51
  exact execK_runs hD.typed Ir_zero Ir_mixed hJ X9_0 (T9 0).1 (envOf (T9 0).2 _) S K (chk_of (by kernel_rfl) (by kernel_rfl)) hq
noncomputable abbrev A9_5 (D J : Disp) (vals : List AV) (S : St) (K : AV → St → Prop) : Prop :=
  uncA vals fun a9001 r9002 => scK a9001 fun s9004 => SV.cP s9004 fun p1 => uncA r9002 fun a9007 r9008 => scK a9007 fun s9010 => SV.cL s9010 fun l3 => uncA r9008 fun a9013 r9014 => scK a9013 fun s9016 => SV.cI IntKind.i64 s9016 fun x5 => uncA r9014 fun a9019 r9020 => scK a9019 fun s9022 => SV.cB s9022 fun c6 => endL r9020 <| F9_5 D J p1 l3 x5 c6 S K
theorem A9_5_ok {D J : Disp} (hD : DOK IrP IrG D) (hJ : JOK IrP IrG Go.Proofs.Try.f9 T9 J) {vals : List AV} {S : St} {K : AV → St → Prop} (h0 : A9_5 D J vals S K) : Runs IrP IrG Go.Proofs.Try.f9 (T9 5).1 (envOf (T9 5).2 vals) S K := by
  obtain ⟨a9001, r9002, rfl, h3⟩ := uncA_some h0
  obtain ⟨s9004, rfl, h5⟩ := scK_some h3
  obtain ⟨p1, rfl, h6⟩ := cP_some h5
  obtain ⟨a9007, r9008, rfl, h9⟩ := uncA_some h6
  obtain ⟨s9010, rfl, h11⟩ := scK_some h9
  obtain ⟨l3, rfl, h12⟩ := cL_some h11
  obtain ⟨a9013, r9014, rfl, h15⟩ := uncA_some h12
  obtain ⟨s9016, rfl, h17⟩ := scK_some h15
  obtain ⟨x5, rfl, h18⟩ := cI_some h17
  obtain ⟨a9019, r9020, rfl, h21⟩ := uncA_some h18
  obtain ⟨s9022, rfl, h23⟩ := scK_some h21
  obtain ⟨c6, rfl, h24⟩ := cB_some h23
  obtain ⟨rfl, h25⟩ := endL_some h24
  have hq := Eq.mp (F9_5_eq D J p1 l3 x5 c6 S K) h25
  exact execK_runs hD.typed Ir_zero Ir_mixed hJ X9_5 (T9 5).1 (envOf (T9 5).2 _) S K (chk_of (by kernel_rfl) (by kernel_rfl)) hq
noncomputable abbrev A9_7 (D J : Disp) (vals : List AV) (S : St) (K : AV → St → Prop) : Prop :=
  uncA vals fun a9001 r9002 => scK a9001 fun s9004 => SV.cP s9004 fun p1 => uncA r9002 fun a9007 r9008 => scK a9007 fun s9010 => SV.cL s9010 fun l3 => endL r9008 <| F9_7 D J p1 l3 S K
theorem A9_7_ok {D J : Disp} (hD : DOK IrP IrG D) (hJ : JOK IrP IrG Go.Proofs.Try.f9 T9 J) {vals : List AV} {S : St} {K : AV → St → Prop} (h0 : A9_7 D J vals S K) : Runs IrP IrG Go.Proofs.Try.f9 (T9 7).1 (envOf (T9 7).2 vals) S K := by
  obtain ⟨a9001, r9002, rfl, h3⟩ := uncA_some h0
  obtain ⟨s9004, rfl, h5⟩ := scK_some h3
  obtain ⟨p1, rfl, h6⟩ := cP_some h5
  obtain ⟨a9007, r9008, rfl, h9⟩ := uncA_some h6
  obtain ⟨s9010, rfl, h11⟩ := scK_some h9
  obtain ⟨l3, rfl, h12⟩ := cL_some h11
  obtain ⟨rfl, h13⟩ := endL_some h12
  have hq := Eq.mp (F9_7_eq D J p1 l3 S K) h13
  exact execK_runs hD.typed Ir_zero Ir_mixed hJ X9_7 (T9 7).1 (envOf (T9 7).2 _) S K (chk_of (by kernel_rfl) (by kernel_rfl)) hq
noncomputable abbrev A9_10 (D J : Disp) (vals : List AV) (S : St) (K : AV → St → Prop) : Prop :=
  uncA vals fun a9001 r9002 => scK a9001 fun s9004 => SV.cP s9004 fun p1 => uncA r9002 fun a9007 r9008 => scK a9007 fun s9010 => SV.cL s9010 fun l3 => uncA r9008 fun a9013 r9014 => scK a9013 fun s9016 => SV.cB s9016 fun c43 => endL r9014 <| F9_10 D J p1 l3 c43 S K
theorem A9_10_ok {D J : Disp} (hD : DOK IrP IrG D) (hJ : JOK IrP IrG Go.Proofs.Try.f9 T9 J) {vals : List AV} {S : St} {K : AV → St → Prop} (h0 : A9_10 D J vals S K) : Runs IrP IrG Go.Proofs.Try.f9 (T9 10).1 (envOf (T9 10).2 vals) S K := by
  obtain ⟨a9001, r9002, rfl, h3⟩ := uncA_some h0
  obtain ⟨s9004, rfl, h5⟩ := scK_some h3
  obtain ⟨p1, rfl, h6⟩ := cP_some h5
  obtain ⟨a9007, r9008, rfl, h9⟩ := uncA_some h6
  obtain ⟨s9010, rfl, h11⟩ := scK_some h9
  obtain ⟨l3, rfl, h12⟩ := cL_some h11
  obtain ⟨a9013, r9014, rfl, h15⟩ := uncA_some h12
  obtain ⟨s9016, rfl, h17⟩ := scK_some h15
  obtain ⟨c43, rfl, h18⟩ := cB_some h17
  obtain ⟨rfl, h19⟩ := endL_some h18
  have hq := Eq.mp (F9_10_eq D J p1 l3 c43 S K) h19
  exact execK_runs hD.typed Ir_zero Ir_mixed hJ X9_10 (T9 10).1 (envOf (T9 10).2 _) S K (chk_of (by kernel_rfl) (by kernel_rfl)) hq
noncomputable abbrev A9_21 (D J : Disp) (vals : List AV) (S : St) (K : AV → St → Prop) : Prop :=
  uncA vals fun a9001 r9002 => scK a9001 fun s9004 => SV.cP s9004 fun p1 => uncA r9002 fun a9007 r9008 => scK a9007 fun s9010 => SV.cL s9010 fun l3 => uncA r9008 fun a9013 r9014 => scK a9013 fun s9016 => SV.cI IntKind.i64 s9016 fun x5 => uncA r9014 fun a9019 r9020 => scK a9019 fun s9022 => SV.cB s9022 fun c21 => endL r9020 <| F9_21 D J p1 l3 x5 c21 S K
theorem A9_21_ok {D J : Disp} (hD : DOK IrP IrG D) (hJ : JOK IrP IrG Go.Proofs.Try.f9 T9 J) {vals : List AV} {S : St} {K : AV → St → Prop} (h0 : A9_21 D J vals S K) : Runs IrP IrG Go.Proofs.Try.f9 (T9 21).1 (envOf (T9 21).2 vals) S K := by
  obtain ⟨a9001, r9002, rfl, h3⟩ := uncA_some h0
  obtain ⟨s9004, rfl, h5⟩ := scK_some h3
  obtain ⟨p1, rfl, h6⟩ := cP_some h5
  obtain ⟨a9007, r9008, rfl, h9⟩ := uncA_some h6
  obtain ⟨s9010, rfl, h11⟩ := scK_some h9
  obtain ⟨l3, rfl, h12⟩ := cL_some h11
  obtain ⟨a9013, r9014, rfl, h15⟩ := uncA_some h12
  obtain ⟨s9016, rfl, h17⟩ := scK_some h15
  obtain ⟨x5, rfl, h18⟩ := cI_some h17
  obtain ⟨a9019, r9020, rfl, h21⟩ := uncA_some h18
  obtain ⟨s9022, rfl, h23⟩ := scK_some h21
  obtain ⟨c21, rfl, h24⟩ := cB_some h23
  obtain ⟨rfl, h25⟩ := endL_some h24
  have hq := Eq.mp (F9_21_eq D J p1 l3 x5 c21 S K) h25
  exact execK_runs hD.typed Ir_zero Ir_mixed hJ X9_21 (T9 21).1 (envOf (T9 21).2 _) S K (chk_of (by kernel_rfl) (by kernel_rfl)) hq
noncomputable def J9 (D : Disp) (k : Nat) : Disp := Nat.rec (motive := fun _ => Disp) Disp.no (fun _ ih => Disp.add 0 (A9_0 D ih) <| Disp.add 5 (A9_5 D ih) <| Disp.add 7 (A9_7 D ih) <| Disp.add 10 (A9_10 D ih) <| Disp.add 21 (A9_21 D ih) <| Disp.no) k
theorem J9_ok {D : Disp} (hD : DOK IrP IrG D) : ∀ k, JOK IrP IrG Go.Proofs.Try.f9 T9 (J9 D k)
  | 0 => JOK.no
  | k + 1 => JOK.add (ltB_ok (by kernel_rfl)) (fun vals S K h => A9_0_ok hD (J9_ok hD k) h) <| JOK.add (ltB_ok (by kernel_rfl)) (fun vals S K h => A9_5_ok hD (J9_ok hD k) h) <| JOK.add (ltB_ok (by kernel_rfl)) (fun vals S K h => A9_7_ok hD (J9_ok hD k) h) <| JOK.add (ltB_ok (by kernel_rfl)) (fun vals S K h => A9_10_ok hD (J9_ok hD k) h) <| JOK.add (ltB_ok (by kernel_rfl)) (fun vals S K h => A9_21_ok hD (J9_ok hD k) h) <| JOK.no
theorem E9_ok {D : Disp} (hD : DOK IrP IrG D) (k : Nat) {args : List AV} {S : St} {K : AV → St → Prop} (h : A9_0 D (J9 D k) args S K) : CallE IrP IrG 9 args S K := by
  have hr := A9_0_ok hD (J9_ok hD k) h
  have hl : args.length = 1 := by
    have h0 := h
    obtain ⟨a9001, r9002, rfl, h3⟩ := uncA_some h0
    obtain ⟨l9004, rfl, h5⟩ := avA_some h3
    obtain ⟨s9006, r9007, rfl, h8⟩ := uncK_some h5
    obtain ⟨x0_0, rfl, h9⟩ := cI_some h8
    obtain ⟨s9010, r9011, rfl, h12⟩ := uncK_some h9
    obtain ⟨x0_1, rfl, h13⟩ := cI_some h12
    obtain ⟨s9014, r9015, rfl, h16⟩ := uncK_some h13
    obtain ⟨x0_2, rfl, h17⟩ := cI_some h16
    obtain ⟨s9018, r9019, rfl, h20⟩ := uncK_some h17
    obtain ⟨x0_3, rfl, h21⟩ := cI_some h20
    obtain ⟨s9022, r9023, rfl, h24⟩ := uncK_some h21
    obtain ⟨x0_4, rfl, h25⟩ := cI_some h24
    obtain ⟨s9026, r9027, rfl, h28⟩ := uncK_some h25
    obtain ⟨x0_5, rfl, h29⟩ := cI_some h28
    obtain ⟨s9030, r9031, rfl, h32⟩ := uncK_some h29
    obtain ⟨x0_6, rfl, h33⟩ := cI_some h32
    obtain ⟨s9034, r9035, rfl, h36⟩ := uncK_some h33
    obtain ⟨c0_7, rfl, h37⟩ := cB_some h36
    obtain ⟨s9038, r9039, rfl, h40⟩ := uncK_some h37
    obtain ⟨l0_8, rfl, h41⟩ := cL_some h40
    obtain ⟨s9042, r9043, rfl, h44⟩ := uncK_some h41
    obtain ⟨l0_9, rfl, h45⟩ := cL_some h44
    obtain ⟨s9046, r9047, rfl, h48⟩ := uncK_some h45
    obtain ⟨l0_10, rfl, h49⟩ := cL_some h48
    obtain ⟨rfl, h50⟩ := endL_some h49
    obtain ⟨rfl, h51⟩ := endL_some h50
    rfl
  refine callOK_of (fn := Go.Proofs.Try.f9) (c := (match Go.Proofs.Try.f9.body with | some c => c | none => .skip)) (by kernel_rfl) (by kernel_rfl) (by kernel_rfl) (by rw [hl]; kernel_rfl) (by kernel_rfl) ?_
  rw [hl]
  exact hr
noncomputable def plans12 (i : Nat) : Plan := []
noncomputable def T12 (p : Nat) : List Item × List Nat := bif Nat.beq p 0 then ([.code (match Go.Proofs.Try.f12.body with | some c => c | none => .skip)], [0]) else
  bif Nat.beq p 4 then (navs [.op, .op, .op, .th] [.code (match Go.Proofs.Try.f12.body with | some c => c | none => .skip)], [1, 4, 5]) else
  ([], [])
noncomputable def X12_0 : X := (.op (.op (.op (.br (.jmp 4 [1, 4, 5]) (.op (.br (.jmp 4 [1, 4, 5]) (.op (.br (.jmp 4 [1, 4, 5]) (.op (.br (.jmp 4 [1, 4, 5]) (.op (.br (.jmp 4 [1, 4, 5]) (.op (.jmp 4 [1, 4, 5]))))))))))))))
noncomputable def X12_4 : X := (.br (.op .ret) (.op (.br (.op .ret) (.op .ret))))
noncomputable def A12_0 (D J : Disp) (vals : List AV) (S : St) (K : AV → St → Prop) : Prop := req (Nat.beq vals.length 1) (execK IrP IrG Go.Proofs.Try.f12 (typed IrP D) J plans12 X12_0 (T12 0).1 (envOf (T12 0).2 vals) S K)
theorem A12_0_ok {D J : Disp} (hD : DOK IrP IrG D) (hJ : JOK IrP IrG Go.Proofs.Try.f12 T12 J) {vals : List AV} {S : St} {K : AV → St → Prop} (h0 : A12_0 D J vals S K) : Runs IrP IrG Go.Proofs.Try.f12 (T12 0).1 (envOf (T12 0).2 vals) S K :=
  execK_runs hD.typed Ir_zero Ir_mixed hJ X12_0 (T12 0).1 (envOf (T12 0).2 vals) S K (chk_of (by kernel_rfl) (by kernel_rfl)) (req_and h0).2
noncomputable def A12_4 (D J : Disp) (vals : List AV) (S : St) (K : AV → St → Prop) : Prop := req (Nat.beq vals.length 3) (execK IrP IrG Go.Proofs.Try.f12 (typed IrP D) J plans12 X12_4 (T12 4).1 (envOf (T12 4).2 vals) S K)
theorem A12_4_ok {D J : Disp} (hD : DOK IrP IrG D) (hJ : JOK IrP IrG Go.Proofs.Try.f12 T12 J) {vals : List AV} {S : St} {K : AV → St → Prop} (h0 : A12_4 D J vals S K) : Runs IrP IrG Go.Proofs.Try.f12 (T12 4).1 (envOf (T12 4).2 vals) S K :=
  execK_runs hD.typed Ir_zero Ir_mixed hJ X12_4 (T12 4).1 (envOf (T12 4).2 vals) S K (chk_of (by kernel_rfl) (by kernel_rfl)) (req_and h0).2
noncomputable def J12 (D : Disp) (k : Nat) : Disp := Nat.rec (motive := fun _ => Disp) Disp.no (fun _ ih => Disp.add 0 (A12_0 D ih) <| Disp.add 4 (A12_4 D ih) <| Disp.no) k
theorem J12_ok {D : Disp} (hD : DOK IrP IrG D) : ∀ k, JOK IrP IrG Go.Proofs.Try.f12 T12 (J12 D k)
  | 0 => JOK.no
  | k + 1 => JOK.add (ltB_ok (by kernel_rfl)) (fun vals S K h => A12_0_ok hD (J12_ok hD k) h) <| JOK.add (ltB_ok (by kernel_rfl)) (fun vals S K h => A12_4_ok hD (J12_ok hD k) h) <| JOK.no
theorem E12_ok {D : Disp} (hD : DOK IrP IrG D) (k : Nat) {args : List AV} {S : St} {K : AV → St → Prop} (h : A12_0 D (J12 D k) args S K) : CallE IrP IrG 12 args S K := by
  have hr := A12_0_ok hD (J12_ok hD k) h
  have hl : args.length = 1 := Nat.eq_of_beq_eq_true (req_and h).1
  refine callOK_of (fn := Go.Proofs.Try.f12) (c := (match Go.Proofs.Try.f12.body with | some c => c | none => .skip)) (by kernel_rfl) (by kernel_rfl) (by kernel_rfl) (by rw [hl]; kernel_rfl) (by kernel_rfl) ?_
  rw [hl]
  exact hr
noncomputable def plans16 (i : Nat) : Plan := if Nat.beq i 11 then [(0, []), (1, [0]), (2, []), (3, [2]), (4, [3, 2]), (5, [1, 4, 3, 0, 2]), (6, [0, 1, 2, 3, 4, 5]), (7, [6, 5, 0, 1, 2, 3, 4])] else []
noncomputable def T16 (p : Nat) : List Item × List Nat := bif Nat.beq p 0 then ([.code (match Go.Proofs.Try.f16.body with | some c => c | none => .skip)], [0]) else
  bif Nat.beq p 3 then (navs [.op, .op, .op] [.code (match Go.Proofs.Try.f16.body with | some c => c | none => .skip)], [1, 2, 3, 12, 13, 14]) else
  bif Nat.beq p 10 then (navs [.op, .op, .op, .op, .el, .op] [.code (match Go.Proofs.Try.f16.body with | some c => c | none => .skip)], [2, 3, 30, 31, 32]) else
  ([], [])
noncomputable def X16_0 : X := (.op (.op (.op (.jmp 3 [1, 2, 3, 12, 13, 14]))))
noncomputable def X16_3 : X := (.op (.br (.op (.op (.op (.op (.jmp 3 [1, 2, 3, 12, 13, 14]))))) (.op (.jmp 10 [2, 3, 30, 31, 32]))))
noncomputable def X16_10 : X := (.op (.br (.op (.op (.op (.jmp 10 [2, 3, 30, 31, 32])))) (.op .ret)))
noncomputable def A16_0 (D J : Disp) (vals : List AV) (S : St) (K : AV → St → Prop) : Prop := req (Nat.beq vals.length 1) (execK IrP IrG Go.Proofs.Try.f16 (typed IrP D) J plans16 X16_0 (T16 0).1 (envOf (T16 0).2 vals) S K)
theorem A16_0_ok {D J : Disp} (hD : DOK IrP IrG D) (hJ : JOK IrP IrG Go.Proofs.Try.f16 T16 J) {vals : List AV} {S : St} {K : AV → St → Prop} (h0 : A16_0 D J vals S K) : Runs IrP IrG Go.Proofs.Try.f16 (T16 0).1 (envOf (T16 0).2 vals) S K :=
  execK_runs hD.typed Ir_zero Ir_mixed hJ X16_0 (T16 0).1 (envOf (T16 0).2 vals) S K (chk_of (by kernel_rfl) (by kernel_rfl)) (req_and h0).2
noncomputable def A16_3 (D J : Disp) (vals : List AV) (S : St) (K : AV → St → Prop) : Prop := req (Nat.beq vals.length 6) (execK IrP IrG Go.Proofs.Try.f16 (typed IrP D) J plans16 X16_3 (T16 3).1 (envOf (T16 3).2 vals) S K)
theorem A16_3_ok {D J : Disp} (hD : DOK IrP IrG D) (hJ : JOK IrP IrG Go.Proofs.Try.f16 T16 J) {vals : List AV} {S : St} {K : AV → St → Prop} (h0 : A16_3 D J vals S K) : Runs IrP IrG Go.Proofs.Try.f16 (T16 3).1 (envOf (T16 3).2 vals) S K :=
  execK_runs hD.typed Ir_zero Ir_mixed hJ X16_3 (T16 3).1 (envOf (T16 3).2 vals) S K (chk_of (by kernel_rfl) (by kernel_rfl)) (req_and h0).2
noncomputable def A16_10 (D J : Disp) (vals : List AV) (S : St) (K : AV → St → Prop) : Prop := req (Nat.beq vals.length 5) (execK IrP IrG Go.Proofs.Try.f16 (typed IrP D) J plans16 X16_10 (T16 10).1 (envOf (T16 10).2 vals) S K)
theorem A16_10_ok {D J : Disp} (hD : DOK IrP IrG D) (hJ : JOK IrP IrG Go.Proofs.Try.f16 T16 J) {vals : List AV} {S : St} {K : AV → St → Prop} (h0 : A16_10 D J vals S K) : Runs IrP IrG Go.Proofs.Try.f16 (T16 10).1 (envOf (T16 10).2 vals) S K :=
  execK_runs hD.typed Ir_zero Ir_mixed hJ X16_10 (T16 10).1 (envOf (T16 10).2 vals) S K (chk_of (by kernel_rfl) (by kernel_rfl)) (req_and h0).2
noncomputable def J16 (D : Disp) (k : Nat) : Disp := Nat.rec (motive := fun _ => Disp) Disp.no (fun _ ih => Disp.add 0 (A16_0 D ih) <| Disp.add 3 (A16_3 D ih) <| Disp.add 10 (A16_10 D ih) <| Disp.no) k
theorem J16_ok {D : Disp} (hD : DOK IrP IrG D) : ∀ k, JOK IrP IrG Go.Proofs.Try.f16 T16 (J16 D k)
  | 0 => JOK.no
  | k + 1 => JOK.add (ltB_ok (by kernel_rfl)) (fun vals S K h => A16_0_ok hD (J16_ok hD k) h) <| JOK.add (ltB_ok (by kernel_rfl)) (fun vals S K h => A16_3_ok hD (J16_ok hD k) h) <| JOK.add (ltB_ok (by kernel_rfl)) (fun vals S K h => A16_10_ok hD (J16_ok hD k) h) <| JOK.no
theorem E16_ok {D : Disp} (hD : DOK IrP IrG D) (k : Nat) {args : List AV} {S : St} {K : AV → St → Prop} (h : A16_0 D (J16 D k) args S K) : CallE IrP IrG 16 args S K := by
  have hr := A16_0_ok hD (J16_ok hD k) h
  have hl : args.length = 1 := Nat.eq_of_beq_eq_true (req_and h).1
  refine callOK_of (fn := Go.Proofs.Try.f16) (c := (match Go.Proofs.Try.f16.body with | some c => c | none => .skip)) (by kernel_rfl) (by kernel_rfl) (by kernel_rfl) (by rw [hl]; kernel_rfl) (by kernel_rfl) ?_
  rw [hl]
  exact hr
noncomputable def plans18 (i : Nat) : Plan := []
noncomputable def T18 (p : Nat) : List Item × List Nat := bif Nat.beq p 0 then ([.code (match Go.Proofs.Try.f18.body with | some c => c | none => .skip)], [0, 1]) else
  ([], [])
noncomputable def X18_0 : X := (.op (.op .ret))
noncomputable def A18_0 (D J : Disp) (vals : List AV) (S : St) (K : AV → St → Prop) : Prop := req (Nat.beq vals.length 2) (execK IrP IrG Go.Proofs.Try.f18 (typed IrP D) J plans18 X18_0 (T18 0).1 (envOf (T18 0).2 vals) S K)
theorem A18_0_ok {D J : Disp} (hD : DOK IrP IrG D) (hJ : JOK IrP IrG Go.Proofs.Try.f18 T18 J) {vals : List AV} {S : St} {K : AV → St → Prop} (h0 : A18_0 D J vals S K) : Runs IrP IrG Go.Proofs.Try.f18 (T18 0).1 (envOf (T18 0).2 vals) S K :=
  execK_runs hD.typed Ir_zero Ir_mixed hJ X18_0 (T18 0).1 (envOf (T18 0).2 vals) S K (chk_of (by kernel_rfl) (by kernel_rfl)) (req_and h0).2
noncomputable def J18 (D : Disp) (k : Nat) : Disp := Nat.rec (motive := fun _ => Disp) Disp.no (fun _ ih => Disp.add 0 (A18_0 D ih) <| Disp.no) k
theorem J18_ok {D : Disp} (hD : DOK IrP IrG D) : ∀ k, JOK IrP IrG Go.Proofs.Try.f18 T18 (J18 D k)
  | 0 => JOK.no
  | k + 1 => JOK.add (ltB_ok (by kernel_rfl)) (fun vals S K h => A18_0_ok hD (J18_ok hD k) h) <| JOK.no
theorem E18_ok {D : Disp} (hD : DOK IrP IrG D) (k : Nat) {args : List AV} {S : St} {K : AV → St → Prop} (h : A18_0 D (J18 D k) args S K) : CallE IrP IrG 18 args S K := by
  have hr := A18_0_ok hD (J18_ok hD k) h
  have hl : args.length = 2 := Nat.eq_of_beq_eq_true (req_and h).1
  refine callOK_of (fn := Go.Proofs.Try.f18) (c := (match Go.Proofs.Try.f18.body with | some c => c | none => .skip)) (by kernel_rfl) (by kernel_rfl) (by kernel_rfl) (by rw [hl]; kernel_rfl) (by kernel_rfl) ?_
  rw [hl]
  exact hr
noncomputable def plans21 (i : Nat) : Plan := []
noncomputable def T21 (p : Nat) : List Item × List Nat := bif Nat.beq p 0 then ([.code (match Go.Proofs.Try.f21.body with | some c => c | none => .skip)], [0, 1]) else
  ([], [])
noncomputable def F21_0 (D J : Disp) (x0 : Int) (x1 : Int) (S : St) (K : AV → St → Prop) : Prop :=
 letK (α := Int) ((iwrap IntKind.u64 x0)) fun x300 =>
 letK (α := Int) ((iwrap IntKind.u64 x1)) fun x301 =>
 req (Bool.not (ieq x301 (0 : Int))) <|
 letK (α := Int) ((Int.tmod x300 x301)) fun x302 =>
 letK (α := Int) ((iwrap IntKind.i64 x302)) fun x303 =>
 K ((AV.one (V1.s (SV.int IntKind.i64 x303)))) S
noncomputable def X21_0 : X := (.op (.op .ret))
theorem F21_0_eq (D J : Disp) (x0 : Int) (x1 : Int) (S : St) (K : AV → St → Prop) : F21_0 D J x0 x1 S K = execK IrP IrG Go.Proofs.Try.f21 (typed IrP D) J plans21 X21_0 (T21 0).1 (envOf (T21 0).2 [(AV.one (V1.s (SV.int IntKind.i64 x0))), (AV.one (V1.s (SV.int IntKind.i64 x1)))]) S K := by kernel_rfl
noncomputable abbrev A21_0 (D J : Disp) (vals : List AV) (S : St) (K : AV → St → Prop) : Prop :=
  uncA vals fun a9001 r9002 => scK a9001 fun s9004 => SV.cI IntKind.i64 s9004 fun x0 => uncA r9002 fun a9007 r9008 => scK a9007 fun s9010 => SV.cI IntKind.i64 s9010 fun x1 => endL r9008 <| F21_0 D J x0 x1 S K
theorem A21_0_ok {D J : Disp} (hD : DOK IrP IrG D) (hJ : JOK IrP IrG Go.Proofs.Try.f21 T21 J) {vals : List AV} {S : St} {K : AV → St → Prop} (h0 : A21_0 D J vals S K) : Runs IrP IrG Go.Proofs.Try.f21 (T21 0).1 (envOf (T21 0).2 vals) S K := by
  obtain ⟨a9001, r9002, rfl, h3⟩ := uncA_some h0
  obtain ⟨s9004, rfl, h5⟩ := scK_some h3
  obtain ⟨x0, rfl, h6⟩ := cI_some h5
  obtain ⟨a9007, r9008, rfl, h9⟩ := uncA_some h6
  obtain ⟨s9010, rfl, h11⟩ := scK_some h9
  obtain ⟨x1, rfl, h12⟩ := cI_some h11
  obtain ⟨rfl, h13⟩ := endL_some h12
  have hq := Eq.mp (F21_0_eq D J x0 x1 S K) h13
  exact execK_runs hD.typed Ir_zero Ir_mixed hJ X21_0 (T21 0).1 (envOf (T21 0).2 _) S K (chk_of (by kernel_rfl) (by kernel_rfl)) hq
noncomputable def J21 (D : Disp) (k : Nat) : Disp := Nat.rec (motive := fun _ => Disp) Disp.no (fun _ ih => Disp.add 0 (A21_0 D ih) <| Disp.no) k
theorem J21_ok {D : Disp} (hD : DOK IrP IrG D) : ∀ k, JOK IrP IrG Go.Proofs.Try.f21 T21 (J21 D k)
  | 0 => JOK.no
  | k + 1 => JOK.add (ltB_ok (by kernel_rfl)) (fun vals S K h => A21_0_ok hD (J21_ok hD k) h) <| JOK.no
theorem E21_ok {D : Disp} (hD : DOK IrP IrG D) (k : Nat) {args : List AV} {S : St} {K : AV → St → Prop} (h : A21_0 D (J21 D k) args S K) : CallE IrP IrG 21 args S K := by
  have hr := A21_0_ok hD (J21_ok hD k) h
  have hl : args.length = 2 := by
    have h0 := h
    obtain ⟨a9001, r9002, rfl, h3⟩ := uncA_some h0
    obtain ⟨s9004, rfl, h5⟩ := scK_some h3
    obtain ⟨x0, rfl, h6⟩ := cI_some h5
    obtain ⟨a9007, r9008, rfl, h9⟩ := uncA_some h6
    obtain ⟨s9010, rfl, h11⟩ := scK_some h9
    obtain ⟨x1, rfl, h12⟩ := cI_some h11
    obtain ⟨rfl, h13⟩ := endL_some h12
    rfl
  refine callOK_of (fn := Go.Proofs.Try.f21) (c := (match Go.Proofs.Try.f21.body with | some c => c | none => .skip)) (by kernel_rfl) (by kernel_rfl) (by kernel_rfl) (by rw [hl]; kernel_rfl) (by kernel_rfl) ?_
  rw [hl]
  exact hr
noncomputable def plans22 (i : Nat) : Plan := []
noncomputable def T22 (p : Nat) : List Item × List Nat := bif Nat.beq p 0 then ([.code (match Go.Proofs.Try.f22.body with | some c => c | none => .skip)], [0, 1, 2]) else
  bif Nat.beq p 2 then (navs [.op, .op] [.code (match Go.Proofs.Try.f22.body with | some c => c | none => .skip)], [1, 2, 3, 6, 24]) else
  bif Nat.beq p 8 then (navs [.op, .op, .el, .op, .op, .op] [.code (match Go.Proofs.Try.f22.body with | some c => c | none => .skip)], [2, 6, 7, 8]) else
  bif Nat.beq p 13 then (navs [.op, .op, .el, .op, .op, .op, .op, .th, .op, .th, .op] [.code (match Go.Proofs.Try.f22.body with | some c => c | none => .skip)], [6, 7]) else
  ([], [])
noncomputable def F22_q8 (D J : Disp) (S : St) (l1 : LV) (x2 : Int) (S300 : St) (S328 : St) (c334 : Bool) (K : AV → St → Prop) : Prop :=
 ifK c334
 (J 2 [(AV.one (V1.s (SV.sl l1))), (AV.one (V1.s (SV.int IntKind.i64 x2))), (AV.one (V1.s (SV.ptr (PV.mk (Bk.new (St.next S)) 0)))), (AV.one (V1.s (SV.ptr (PV.mk (Bk.new (St.next S300)) 0)))), (AV.one (V1.s (SV.bool Bool.true)))] S328 K)
 (letK (α := Int) ((Int.ofNat (LV.len l1))) fun x335 =>
 letK (α := Bool) ((ilt (4096 : Int) x335)) fun c336 =>
 J 2 [(AV.one (V1.s (SV.sl l1))), (AV.one (V1.s (SV.int IntKind.i64 x2))), (AV.one (V1.s (SV.ptr (PV.mk (Bk.new (St.next S)) 0)))), (AV.one (V1.s (SV.ptr (PV.mk (Bk.new (St.next S300)) 0)))), (AV.one (V1.s (SV.bool c336)))] S328 K)
noncomputable def F22_q9 (D J : Disp) (S : St) (l1 : LV) (x2 : Int) (S300 : St) (S328 : St) (c332 : Bool) (K : AV → St → Prop) : Prop :=
 ifK c332
 (J 2 [(AV.one (V1.s (SV.sl l1))), (AV.one (V1.s (SV.int IntKind.i64 x2))), (AV.one (V1.s (SV.ptr (PV.mk (Bk.new (St.next S)) 0)))), (AV.one (V1.s (SV.ptr (PV.mk (Bk.new (St.next S300)) 0)))), (AV.one (V1.s (SV.bool Bool.true)))] S328 K)
 (letK (α := Bool) ((ilt x2 (0 : Int))) fun c333 =>
 ifK c333
 (J 2 [(AV.one (V1.s (SV.sl l1))), (AV.one (V1.s (SV.int IntKind.i64 x2))), (AV.one (V1.s (SV.ptr (PV.mk (Bk.new (St.next S)) 0)))), (AV.one (V1.s (SV.ptr (PV.mk (Bk.new (St.next S300)) 0)))), (AV.one (V1.s (SV.bool Bool.true)))] S328 K)
 (letK (α := Bool) ((ilt (1048576 : Int) x2)) fun c334 =>
 F22_q8 D J S l1 x2 S300 S328 c334 K))
noncomputable def F22_q10 (D J : Disp) (S : St) (l1 : LV) (x2 : Int) (S300 : St) (S301 : St) (K : AV → St → Prop) : Prop :=
 St.at S301 (Bk.new (St.next S)) 0 fun y302 =>
 uncK y302 fun v303 y304 =>
 SV.cL v303 fun y311 =>
 uncK y304 fun v312 y313 =>
 SV.cL v312 fun y320 =>
 uncK y313 fun v321 y322 =>
 SV.cI IntKind.i64 v321 fun x326 =>
 D 25 [(AV.one (V1.agg [(SV.sl y311), (SV.sl y320), (SV.int IntKind.i64 x326)]))] S301 fun v327 S328 =>
 scK v327 fun v330 =>
 SV.cB v330 fun y331 =>
 letK (α := Bool) ((Bool.not y331)) fun c332 =>
 F22_q9 D J S l1 x2 S300 S328 c332 K
noncomputable def F22_0 (D J : Disp) (l0_0 : LV) (l0_1 : LV) (x0_2 : Int) (l1 : LV) (x2 : Int) (S : St) (K : AV → St → Prop) : Prop :=
 letK (α := St) ((St.add S (AO.cells [(SV.sl l0_0), (SV.sl l0_1), (SV.int IntKind.i64 x0_2)] (Op2.ty 36)))) fun S300 =>
 letK (α := St) ((St.add S300 (AO.cells [(SV.int IntKind.i64 (0 : Int)), (SV.int IntKind.i64 (0 : Int)), (SV.sl LV.nil)] (Op2.ty 57)))) fun S301 =>
 F22_q10 D J S l1 x2 S300 S301 K
noncomputable def X22_0 : X := (.op (.op (.jmp 2 [1, 2, 3, 6, 24])))
theorem F22_0_eq (D J : Disp) (l0_0 : LV) (l0_1 : LV) (x0_2 : Int) (l1 : LV) (x2 : Int) (S : St) (K : AV → St → Prop) : F22_0 D J l0_0 l0_1 x0_2 l1 x2 S K = execK IrP IrG Go.Proofs.Try.f22 (typed IrP D) J plans22 X22_0 (T22 0).1 (envOf (T22 0).2 [(AV.one (V1.agg [(SV.sl l0_0), (SV.sl l0_1), (SV.int IntKind.i64 x0_2)])), (AV.one (V1.s (SV.sl l1))), (AV.one (V1.s (SV.int IntKind.i64 x2)))]) S K := by kernel_rfl
noncomputable def F22_q11 (D J : Disp) (S : St) (p6 : PV) (K : AV → St → Prop) : Prop :=
 PV.cs p6 fun b300 n301 =>
 St.wr S b300 n301 [(SV.int IntKind.i64 (6 : Int)), (SV.int IntKind.i64 (0 : Int)), (SV.sl LV.nil)] fun S302 =>
 PV.cs p6 fun b303 n304 =>
 St.at S302 b303 n304 fun y305 =>
 uncK y305 fun v306 y307 =>
 SV.cI IntKind.i64 v306 fun x311 =>
 uncK y307 fun v312 y313 =>
 SV.cI IntKind.i64 v312 fun x317 =>
 uncK y313 fun v318 y319 =>
 SV.cL v318 fun y326 =>
 K ((AV.one (V1.agg [(SV.int IntKind.i64 x311), (SV.int IntKind.i64 x317), (SV.sl y326)]))) S302
noncomputable def F22_q12 (D J : Disp) (x2 : Int) (p6 : PV) (S367 : St) (y374 : PV) (b375 : Bk) (n377 : Nat) (K : AV → St → Prop) : Prop :=
 St.at S367 b375 n377 fun y378 =>
 uncK y378 fun v379 y380 =>
 SV.cI IntKind.i64 v379 fun x384 =>
 D 41 [(AV.one (V1.s (SV.ptr y374))), (AV.one (V1.s (SV.int IntKind.i64 x384))), (AV.one (V1.s (SV.sl LV.nil))), (AV.one (V1.s (SV.int IntKind.i64 (Int.negSucc 0))))] S367 fun v385 S386 =>
 avT v385 fun y388 =>
 endL y388 (J 8 [(AV.one (V1.s (SV.int IntKind.i64 x2))), (AV.one (V1.s (SV.ptr p6))), (AV.one (V1.s (SV.ptr y374))), (AV.one (V1.s (SV.int IntKind.i64 (0 : Int))))] S386 K)
noncomputable def F22_q13 (D J : Disp) (S : St) (l1 : LV) (x2 : Int) (p3 : PV) (p6 : PV) (K : AV → St → Prop) : Prop :=
 PV.cs p3 fun b339 n340 =>
 St.at S b339 n340 fun y341 =>
 uncK y341 fun v342 y343 =>
 SV.cL v342 fun y350 =>
 uncK y343 fun v351 y352 =>
 SV.cL v351 fun y359 =>
 uncK y352 fun v360 y361 =>
 SV.cI IntKind.i64 v360 fun x365 =>
 D 40 [(AV.one (V1.agg [(SV.sl y350), (SV.sl y359), (SV.int IntKind.i64 x365)])), (AV.one (V1.s (SV.sl l1)))] S fun v366 S367 =>
 scK v366 fun v369 =>
 SV.cP v369 fun y374 =>
 PV.cs p3 fun b375 n376 =>
 letK (α := Nat) ((n376 + 2)) fun n377 =>
 F22_q12 D J x2 p6 S367 y374 b375 n377 K
noncomputable def F22_2 (D J : Disp) (l1 : LV) (x2 : Int) (p3 : PV) (p6 : PV) (c24 : Bool) (S : St) (K : AV → St → Prop) : Prop :=
 ifK c24
 (F22_q11 D J S p6 K)
 (F22_q13 D J S l1 x2 p3 p6 K)
noncomputable def X22_2 : X := (.br (.op .ret) (.op (.op (.op (.jmp 8 [2, 6, 7, 8])))))
theorem F22_2_eq (D J : Disp) (l1 : LV) (x2 : Int) (p3 : PV) (p6 : PV) (c24 : Bool) (S : St) (K : AV → St → Prop) : F22_2 D J l1 x2 p3 p6 c24 S K = execK IrP IrG Go.Proofs.Try.f22 (typed IrP D) J plans22 X22_2 (T22 2).1 (envOf (T22 2).2 [(AV.one (V1.s (SV.sl l1))), (AV.one (V1.s (SV.int IntKind.i64 x2))), (AV.one (V1.s (SV.ptr p3))), (AV.one (V1.s (SV.ptr p6))), (AV.one (V1.s (SV.bool c24)))]) S K := by kernel_rfl
noncomputable def F22_q14 (D J : Disp) (S : St) (x2 : Int) (p6 : PV) (p7 : PV) (x8 : Int) (c312 : Bool) (K : AV → St → Prop) : Prop :=
 ifK c312
 (D 42 [(AV.one (V1.s (SV.ptr p7))), (AV.one (V1.s (SV.int IntKind.i64 (3 : Int)))), (AV.one (V1.s (SV.int IntKind.i64 (0 : Int))))] S fun v313 S314 =>
 avT v313 fun y316 =>
 endL y316 (J 13 [(AV.one (V1.s (SV.ptr p6))), (AV.one (V1.s (SV.ptr p7)))] S314 K))
 (D 43 [(AV.one (V1.s (SV.ptr p7)))] S fun v320 S321 =>
 avT v320 fun y323 =>
 endL y323 (letK (α := Int) ((iwrap IntKind.i64 (x8 + (1 : Int)))) fun x324 =>
 J 8 [(AV.one (V1.s (SV.int IntKind.i64 x2))), (AV.one (V1.s (SV.ptr p6))), (AV.one (V1.s (SV.ptr p7))), (AV.one (V1.s (SV.int IntKind.i64 x324)))] S321 K))
noncomputable def F22_8 (D J : Disp) (x2 : Int) (p6 : PV) (p7 : PV) (x8 : Int) (S : St) (K : AV → St → Prop) : Prop :=
 PV.cs p7 fun b300 n301 =>
 letK (α := Nat) ((n301 + 10)) fun n302 =>
 letK (α := Nat) ((n302 + 0)) fun n303 =>
 St.at S b300 n303 fun y304 =>
 uncK y304 fun v305 y306 =>
 SV.cI IntKind.i64 v305 fun x310 =>
 letK (α := Bool) ((ieq x310 (0 : Int))) fun c311 =>
 ifK c311
 (letK (α := Bool) ((ieq x8 x2)) fun c312 =>
 F22_q14 D J S x2 p6 p7 x8 c312 K)
 (J 13 [(AV.one (V1.s (SV.ptr p6))), (AV.one (V1.s (SV.ptr p7)))] S K)
noncomputable def X22_8 : X := (.op (.br (.op (.br (.op (.jmp 13 [6, 7])) (.op (.op (.jmp 8 [2, 6, 7, 8]))))) (.jmp 13 [6, 7])))
theorem F22_8_eq (D J : Disp) (x2 : Int) (p6 : PV) (p7 : PV) (x8 : Int) (S : St) (K : AV → St → Prop) : F22_8 D J x2 p6 p7 x8 S K = execK IrP IrG Go.Proofs.Try.f22 (typed IrP D) J plans22 X22_8 (T22 8).1 (envOf (T22 8).2 [(AV.one (V1.s (SV.int IntKind.i64 x2))), (AV.one (V1.s (SV.ptr p6))), (AV.one (V1.s (SV.ptr p7))), (AV.one (V1.s (SV.int IntKind.i64 x8)))]) S K := by kernel_rfl
noncomputable def F22_q15 (D J : Disp) (S : St) (p6 : PV) (x309 : Int) (x315 : Int) (y324 : LV) (K : AV → St → Prop) : Prop :=
 PV.cs p6 fun b325 n326 =>
 St.wr S b325 n326 [(SV.int IntKind.i64 x309), (SV.int IntKind.i64 x315), (SV.sl y324)] fun S327 =>
 PV.cs p6 fun b328 n329 =>
 St.at S327 b328 n329 fun y330 =>
 uncK y330 fun v331 y332 =>
 SV.cI IntKind.i64 v331 fun x336 =>
 uncK y332 fun v337 y338 =>
 SV.cI IntKind.i64 v337 fun x342 =>
 uncK y338 fun v343 y344 =>
 SV.cL v343 fun y351 =>
 K ((AV.one (V1.agg [(SV.int IntKind.i64 x336), (SV.int IntKind.i64 x342), (SV.sl y351)]))) S327
noncomputable def F22_13 (D J : Disp) (p6 : PV) (p7 : PV) (S : St) (K : AV → St → Prop) : Prop :=
 PV.cs p7 fun b300 n301 =>
 letK (α := Nat) ((n301 + 10)) fun n302 =>
 St.at S b300 n302 fun y303 =>
 uncK y303 fun v304 y305 =>
 SV.cI IntKind.i64 v304 fun x309 =>
 uncK y305 fun v310 y311 =>
 SV.cI IntKind.i64 v310 fun x315 =>
 uncK y311 fun v316 y317 =>
 SV.cL v316 fun y324 =>
 F22_q15 D J S p6 x309 x315 y324 K
noncomputable def X22_13 : X := (.op .ret)
theorem F22_13_eq (D J : Disp) (p6 : PV) (p7 : PV) (S : St) (K : AV → St → Prop) : F22_13 D J p6 p7 S K = execK IrP IrG Go.Proofs.Try.f22 (typed IrP D) J plans22 X22_13 (T22 13).1 (envOf (T22 13).2 [(AV.one (V1.s (SV.ptr p6))), (AV.one (V1.s (SV.ptr p7)))]) S K := by kernel_rfl
noncomputable abbrev A22_0 (D J : Disp) (vals : List AV) (S : St) (K : AV → St → Prop) : Prop :=
  uncA vals fun a9001 r9002 => avA a9001 fun l9004 => uncK l9004 fun s9006 r9007 => SV.cL s9006 fun l0_0 => uncK r9007 fun s9010 r9011 => SV.cL s9010 fun l0_1 => uncK r9011 fun s9014 r9015 => SV.cI IntKind.i64 s9014 fun x0_2 => endL r9015 <| uncA r9002 fun a9019 r9020 => scK a9019 fun s9022 => SV.cL s9022 fun l1 => uncA r9020 fun a9025 r9026 => scK a9025 fun s9028 => SV.cI IntKind.i64 s9028 fun x2 => endL r9026 <| F22_0 D J l0_0 l0_1 x0_2 l1 x2 S K
theorem A22_0_ok {D J : Disp} (hD : DOK IrP IrG D) (hJ : JOK IrP IrG Go.Proofs.Try.f22 T22 J) {vals : List AV} {S : St} {K : AV → St → Prop} (h0 : A22_0 D J vals S K) : Runs IrP IrG Go.Proofs.Try.f22 (T22 0).1 (envOf (T22 0).2 vals) S K := by
  obtain ⟨a9001, r9002, rfl, h3⟩ := uncA_some h0
  obtain ⟨l9004, rfl, h5⟩ := avA_some h3
  obtain ⟨s9006, r9007, rfl, h8⟩ := uncK_some h5
  obtain ⟨l0_0, rfl, h9⟩ := cL_some h8
  obtain ⟨s9010, r9011, rfl, h12⟩ := uncK_some h9
  obtain ⟨l0_1, rfl, h13⟩ := cL_some h12
  obtain ⟨s9014, r9015, rfl, h16⟩ := uncK_some h13
  obtain ⟨x0_2, rfl, h17⟩ := cI_some h16
  obtain ⟨rfl, h18⟩ := endL_some h17
  obtain ⟨a9019, r9020, rfl, h21⟩ := uncA_some h18
  obtain ⟨s9022, rfl, h23⟩ := scK_some h21
  obtain ⟨l1, rfl, h24⟩ := cL_some h23
  obtain ⟨a9025, r9026, rfl, h27⟩ := uncA_some h24
  obtain ⟨s9028, rfl, h29⟩ := scK_some h27
  obtain ⟨x2, rfl, h30⟩ := cI_some h29
  obtain ⟨rfl, h31⟩ := endL_some h30
  have hq := Eq.mp (F22_0_eq D J l0_0 l0_1 x0_2 l1 x2 S K) h31
  exact execK_runs hD.typed Ir_zero Ir_mixed hJ X22_0 (T22 0).1 (envOf (T22 0).2 _) S K (chk_of (by kernel_rfl) (by kernel_rfl)) hq
noncomputable abbrev A22_2 (D J : Disp) (vals : List AV) (S : St) (K : AV → St → Prop) : Prop :=
  uncA vals fun a9001 r9002 => scK a9001 fun s9004 => SV.cL s9004 fun l1 => uncA r9002 fun a9007 r9008 => scK a9007 fun s9010 => SV.cI IntKind.i64 s9010 fun x2 => uncA r9008 fun a9013 r9014 => scK a9013 fun s9016 => SV.cP s9016 fun p3 => uncA r9014 fun a9019 r9020 => scK a9019 fun s9022 => SV.cP s9022 fun p6 => uncA r9020 fun a9025 r9026 => scK a9025 fun s9028 => SV.cB s9028 fun c24 => endL r9026 <| F22_2 D J l1 x2 p3 p6 c24 S K
theorem A22_2_ok {D J : Disp} (hD : DOK IrP IrG D) (hJ : JOK IrP IrG Go.Proofs.Try.f22 T22 J) {vals : List AV} {S : St} {K : AV → St → Prop} (h0 : A22_2 D J vals S K) : Runs IrP IrG Go.Proofs.Try.f22 (T22 2).1 (envOf (T22 2).2 vals) S K := by
  obtain ⟨a9001, r9002, rfl, h3⟩ := uncA_some h0
  obtain ⟨s9004, rfl, h5⟩ := scK_some h3
  obtain ⟨l1, rfl, h6⟩ := cL_some h5
  obtain ⟨a9007, r9008, rfl, h9⟩ := uncA_some h6
  obtain ⟨s9010, rfl, h11⟩ := scK_some h9
  obtain ⟨x2, rfl, h12⟩ := cI_some h11
  obtain ⟨a9013, r9014, rfl, h15⟩ := uncA_some h12
  obtain ⟨s9016, rfl, h17⟩ := scK_some h15
  obtain ⟨p3, rfl, h18⟩ := cP_some h17
  obtain ⟨a9019, r9020, rfl, h21⟩ := uncA_some h18
  obtain ⟨s9022, rfl, h23⟩ := scK_some h21
  obtain ⟨p6, rfl, h24⟩ := cP_some h23
  obtain ⟨a9025, r9026, rfl, h27⟩ := uncA_some h24
  obtain ⟨s9028, rfl, h29⟩ := scK_some h27
  obtain ⟨c24, rfl, h30⟩ := cB_some h29
  obtain ⟨rfl, h31⟩ := endL_some h30
  have hq := Eq.mp (F22_2_eq D J l1 x2 p3 p6 c24 S K) h31
  exact execK_runs hD.typed Ir_zero Ir_mixed hJ X22_2 (T22 2).1 (envOf (T22 2).2 _) S K (chk_of (by kernel_rfl) (by kernel_rfl)) hq
noncomputable abbrev A22_8 (D J : Disp) (vals : List AV) (S : St) (K : AV → St → Prop) : Prop :=
  uncA vals fun a9001 r9002 => scK a9001 fun s9004 => SV.cI IntKind.i64 s9004 fun x2 => uncA r9002 fun a9007 r9008 => scK a9007 fun s9010 => SV.cP s9010 fun p6 => uncA r9008 fun a9013 r9014 => scK a9013 fun s9016 => SV.cP s9016 fun p7 => uncA r9014 fun a9019 r9020 => scK a9019 fun s9022 => SV.cI IntKind.i64 s9022 fun x8 => endL r9020 <| F22_8 D J x2 p6 p7 x8 S K
theorem A22_8_ok {D J : Disp} (hD : DOK IrP IrG D) (hJ : JOK IrP IrG Go.Proofs.Try.f22 T22 J) {vals : List AV} {S : St} {K : AV → St → Prop} (h0 : A22_8 D J vals S K) : Runs IrP IrG Go.Proofs.Try.f22 (T22 8).1 (envOf (T22 8).2 vals) S K := by
  obtain ⟨a9001, r9002, rfl, h3⟩ := uncA_some h0
  obtain ⟨s9004, rfl, h5⟩ := scK_some h3
  obtain ⟨x2, rfl, h6⟩ := cI_some h5
  obtain ⟨a9007, r9008, rfl, h9⟩ := uncA_some h6
  obtain ⟨s9010, rfl, h11⟩ := scK_some h9
  obtain ⟨p6, rfl, h12⟩ := cP_some h11
  obtain ⟨a9013, r9014, rfl, h15⟩ := uncA_some h12
  obtain ⟨s9016, rfl, h17⟩ := scK_some h15
  obtain ⟨p7, rfl, h18⟩ := cP_some h17
  obtain ⟨a9019, r9020, rfl, h21⟩ := uncA_some h18
  obtain ⟨s9022, rfl, h23⟩ := scK_some h21
  obtain ⟨x8, rfl, h24⟩ := cI_some h23
  obtain ⟨rfl, h25⟩ := endL_some h24
  have hq := Eq.mp (F22_8_eq D J x2 p6 p7 x8 S K) h25
  exact execK_runs hD.typed Ir_zero Ir_mixed hJ X22_8 (T22 8).1 (envOf (T22 8).2 _) S K (chk_of (by kernel_rfl) (by kernel_rfl)) hq
noncomputable abbrev A22_13 (D J : Disp) (vals : List AV) (S : St) (K : AV → St → Prop) : Prop :=
  uncA vals fun a9001 r9002 => scK a9001 fun s9004 => SV.cP s9004 fun p6 => uncA r9002 fun a9007 r9008 => scK a9007 fun s9010 => SV.cP s9010 fun p7 => endL r9008 <| F22_13 D J p6 p7 S K
theorem A22_13_ok {D J : Disp} (hD : DOK IrP IrG D) (hJ : JOK IrP IrG Go.Proofs.Try.f22 T22 J) {vals : List AV} {S : St} {K : AV → St → Prop} (h0 : A22_13 D J vals S K) : Runs IrP IrG Go.Proofs.Try.f22 (T22 13).1 (envOf (T22 13).2 vals) S K := by
  obtain ⟨a9001, r9002, rfl, h3⟩ := uncA_some h0
  obtain ⟨s9004, rfl, h5⟩ := scK_some h3
  obtain ⟨p6, rfl, h6⟩ := cP_some h5
  obtain ⟨a9007, r9008, rfl, h9⟩ := uncA_some h6
  obtain ⟨s9010, rfl, h11⟩ := scK_some h9
  obtain ⟨p7, rfl, h12⟩ := cP_some h11
  obtain ⟨rfl, h13⟩ := endL_some h12
  have hq := Eq.mp (F22_13_eq D J p6 p7 S K) h13
  exact execK_runs hD.typed Ir_zero Ir_mixed hJ X22_13 (T22 13).1 (envOf (T22 13).2 _) S K (chk_of (by kernel_rfl) (by kernel_rfl)) hq
noncomputable def J22 (D : Disp) (k : Nat) : Disp := Nat.rec (motive := fun _ => Disp) Disp.no (fun _ ih => Disp.add 0 (A22_0 D ih) <| Disp.add 2 (A22_2 D ih) <| Disp.add 8 (A22_8 D ih) <| Disp.add 13 (A22_13 D ih) <| Disp.no) k
theorem J22_ok {D : Disp} (hD : DOK IrP IrG D) : ∀ k, JOK IrP IrG Go.Proofs.Try.f22 T22 (J22 D k)
  | 0 => JOK.no
  | k + 1 => JOK.add (ltB_ok (by kernel_rfl)) (fun vals S K h => A22_0_ok hD (J22_ok hD k) h) <| JOK.add (ltB_ok (by kernel_rfl)) (fun vals S K h => A22_2_ok hD (J22_ok hD k) h) <| JOK.add (ltB_ok (by kernel_rfl)) (fun vals S K h => A22_8_ok hD (J22_ok hD k) h) <| JOK.add (ltB_ok (by kernel_rfl)) (fun vals S K h => A22_13_ok hD (J22_ok hD k) h) <| JOK.no
theorem E22_ok {D : Disp} (hD : DOK IrP IrG D) (k : Nat) {args : List AV} {S : St} {K : AV → St → Prop} (h : A22_0 D (J22 D k) args S K) : CallE IrP IrG 22 args S K := by
  have hr := A22_0_ok hD (J22_ok hD k) h
  have hl : args.length = 3 := by
    have h0 := h
    obtain ⟨a9001, r9002, rfl, h3⟩ := uncA_some h0
    obtain ⟨l9004, rfl, h5⟩ := avA_some h3
    obtain ⟨s9006, r9007, rfl, h8⟩ := uncK_some h5
    obtain ⟨l0_0, rfl, h9⟩ := cL_some h8
    obtain ⟨s9010, r9011, rfl, h12⟩ := uncK_some h9
    obtain ⟨l0_1, rfl, h13⟩ := cL_some h12
    obtain ⟨s9014, r9015, rfl, h16⟩ := uncK_some h13
    obtain ⟨x0_2, rfl, h17⟩ := cI_some h16
    obtain ⟨rfl, h18⟩ := endL_some h17
    obtain ⟨a9019, r9020, rfl, h21⟩ := uncA_some h18
    obtain ⟨s9022, rfl, h23⟩ := scK_some h21
    obtain ⟨l1, rfl, h24⟩ := cL_some h23
    obtain ⟨a9025, r9026, rfl, h27⟩ := uncA_some h24
    obtain ⟨s9028, rfl, h29⟩ := scK_some h27
    obtain ⟨x2, rfl, h30⟩ := cI_some h29
    obtain ⟨rfl, h31⟩ := endL_some h30
    rfl
  refine callOK_of (fn := Go.Proofs.Try.f22) (c := (match Go.Proofs.Try.f22.body with | some c => c | none => .skip)) (by kernel_rfl) (by kernel_rfl) (by kernel_rfl) (by rw [hl]; kernel_rfl) (by kernel_rfl) ?_
  rw [hl]
  exact hr
noncomputable def plans23 (i : Nat) : Plan := []
noncomputable def T23 (p : Nat) : List Item × List Nat := bif Nat.beq p 0 then ([.code (match Go.Proofs.Try.f23.body with | some c => c | none => .skip)], [0, 1]) else
  ([], [])
noncomputable def F23_q0 (D J : Disp) (S : St) (S300 : St) (S301 : St) (c331 : Bool) (K : AV → St → Prop) : Prop :=
 ifK c331
 (St.at S301 (Bk.new (St.next S)) 2 fun y332 =>
 uncK y332 fun v333 y334 =>
 SV.cL v333 fun y341 =>
 St.at S301 (Bk.new (St.next S300)) 2 fun y342 =>
 uncK y342 fun v343 y344 =>
 SV.cL v343 fun y351 =>
 D 44 [(AV.one (V1.s (SV.sl y341))), (AV.one (V1.s (SV.sl y351)))] S301 fun v352 S353 =>
 scK v352 fun v355 =>
 SV.cB v355 fun y356 =>
 K ((AV.one (V1.s (SV.bool y356)))) S353)
 (K ((AV.one (V1.s (SV.bool Bool.false)))) S301)
noncomputable def F23_q1 (D J : Disp) (S : St) (S300 : St) (S301 : St) (x308 : Int) (K : AV → St → Prop) : Prop :=
 St.at S301 (Bk.new (St.next S300)) 0 fun y309 =>
 uncK y309 fun v310 y311 =>
 SV.cI IntKind.i64 v310 fun x315 =>
 letK (α := Bool) ((ieq x308 x315)) fun c316 =>
 ifK c316
 (St.at S301 (Bk.new (St.next S)) 1 fun y317 =>
 uncK y317 fun v318 y319 =>
 SV.cI IntKind.i64 v318 fun x323 =>
 St.at S301 (Bk.new (St.next S300)) 1 fun y324 =>
 uncK y324 fun v325 y326 =>
 SV.cI IntKind.i64 v325 fun x330 =>
 letK (α := Bool) ((ieq x323 x330)) fun c331 =>
 F23_q0 D J S S300 S301 c331 K)
 (K ((AV.one (V1.s (SV.bool Bool.false)))) S301)
noncomputable def F23_0 (D J : Disp) (x0_0 : Int) (x0_1 : Int) (l0_2 : LV) (x1_0 : Int) (x1_1 : Int) (l1_2 : LV) (S : St) (K : AV → St → Prop) : Prop :=
 letK (α := St) ((St.add S (AO.cells [(SV.int IntKind.i64 x0_0), (SV.int IntKind.i64 x0_1), (SV.sl l0_2)] (Op2.ty 57)))) fun S300 =>
 letK (α := St) ((St.add S300 (AO.cells [(SV.int IntKind.i64 x1_0), (SV.int IntKind.i64 x1_1), (SV.sl l1_2)] (Op2.ty 57)))) fun S301 =>
 St.at S301 (Bk.new (St.next S)) 0 fun y302 =>
 uncK y302 fun v303 y304 =>
 SV.cI IntKind.i64 v303 fun x308 =>
 F23_q1 D J S S300 S301 x308 K
noncomputable def X23_0 : X := (.op (.op .ret))
theorem F23_0_eq (D J : Disp) (x0_0 : Int) (x0_1 : Int) (l0_2 : LV) (x1_0 : Int) (x1_1 : Int) (l1_2 : LV) (S : St) (K : AV → St → Prop) : F23_0 D J x0_0 x0_1 l0_2 x1_0 x1_1 l1_2 S K = execK IrP IrG Go.Proofs.Try.f23 (typed IrP D) J plans23 X23_0 (T23 0).1 (envOf (T23 0).2 [(AV.one (V1.agg [(SV.int IntKind.i64 x0_0), (SV.int IntKind.i64 x0_1), (SV.sl l0_2)])), (AV.one (V1.agg [(SV.int IntKind.i64 x1_0), (SV.int IntKind.i64 x1_1), (SV.sl l1_2)]))]) S K := by kernel_rfl
noncomputable abbrev A23_0 (D J : Disp) (vals : List AV) (S : St) (K : AV → St → Prop) : Prop :=
  uncA vals fun a9001 r9002 => avA a9001 fun l9004 => uncK l9004 fun s9006 r9007 => SV.cI IntKind.i64 s9006 fun x0_0 => uncK r9007 fun s9010 r9011 => SV.cI IntKind.i64 s9010 fun x0_1 => uncK r9011 fun s9014 r9015 => SV.cL s9014 fun l0_2 => endL r9015 <| uncA r9002 fun a9019 r9020 => avA a9019 fun l9022 => uncK l9022 fun s9024 r9025 => SV.cI IntKind.i64 s9024 fun x1_0 => uncK r9025 fun s9028 r9029 => SV.cI IntKind.i64 s9028 fun x1_1 => uncK r9029 fun s9032 r9033 => SV.cL s9032 fun l1_2 => endL r9033 <| endL r9020 <| F23_0 D J x0_0 x0_1 l0_2 x1_0 x1_1 l1_2 S K
theorem A23_0_ok {D J : Disp} (hD : DOK IrP IrG D) (hJ : JOK IrP IrG Go.Proofs.Try.f23 T23 J) {vals : List AV} {S : St} {K : AV → St → Prop} (h0 : A23_0 D J vals S K) : Runs IrP IrG Go.Proofs.Try.f23 (T23 0).1 (envOf (T23 0).2 vals) S K := by
  obtain ⟨a9001, r9002, rfl, h3⟩ := uncA_some h0
  obtain ⟨l9004, rfl, h5⟩ := avA_some h3
  obtain ⟨s9006, r9007, rfl, h8⟩ := uncK_some h5
  obtain ⟨x0_0, rfl, h9⟩ := cI_some h8
  obtain ⟨s9010, r9011, rfl, h12⟩ := uncK_some h9
  obtain ⟨x0_1, rfl, h13⟩ := cI_some h12
  obtain ⟨s9014, r9015, rfl, h16⟩ := uncK_some h13
  obtain ⟨l0_2, rfl, h17⟩ := cL_some h16
  obtain ⟨rfl, h18⟩ := endL_some h17
  obtain ⟨a9019, r9020, rfl, h21⟩ := uncA_some h18
  obtain ⟨l9022, rfl, h23⟩ := avA_some h21
  obtain ⟨s9024, r9025, rfl, h26⟩ := uncK_some h23
  obtain ⟨x1_0, rfl, h27⟩ := cI_some h26
  obtain ⟨s9028, r9029, rfl, h30⟩ := uncK_some h27
  obtain ⟨x1_1, rfl, h31⟩ := cI_some h30
  obtain ⟨s9032, r9033, rfl, h34⟩ := uncK_some h31
  obtain ⟨l1_2, rfl, h35⟩ := cL_some h34
  obtain ⟨rfl, h36⟩ := endL_some h35
  obtain ⟨rfl, h37⟩ := endL_some h36
  have hq := Eq.mp (F23_0_eq D J x0_0 x0_1 l0_2 x1_0 x1_1 l1_2 S K) h37
  exact execK_runs hD.typed Ir_zero Ir_mixed hJ X23_0 (T23 0).1 (envOf (T23 0).2 _) S K (chk_of (by kernel_rfl) (by kernel_rfl)) hq
noncomputable def plans24 (i : Nat) : Plan := []
noncomputable def T24 (p : Nat) : List Item × List Nat := bif Nat.beq p 0 then ([.code (match Go.Proofs.Try.f24.body with | some c => c | none => .skip)], [0]) else
  ([], [])
noncomputable def X24_0 : X := (.op (.op .ret))
noncomputable def A24_0 (D J : Disp) (vals : List AV) (S : St) (K : AV → St → Prop) : Prop := req (Nat.beq vals.length 1) (execK IrP IrG Go.Proofs.Try.f24 (typed IrP D) J plans24 X24_0 (T24 0).1 (envOf (T24 0).2 vals) S K)
theorem A24_0_ok {D J : Disp} (hD : DOK IrP IrG D) (hJ : JOK IrP IrG Go.Proofs.Try.f24 T24 J) {vals : List AV} {S : St} {K : AV → St → Prop} (h0 : A24_0 D J vals S K) : Runs IrP IrG Go.Proofs.Try.f24 (T24 0).1 (envOf (T24 0).2 vals) S K :=
  execK_runs hD.typed Ir_zero Ir_mixed hJ X24_0 (T24 0).1 (envOf (T24 0).2 vals) S K (chk_of (by kernel_rfl) (by kernel_rfl)) (req_and h0).2
noncomputable def J24 (D : Disp) (k : Nat) : Disp := Nat.rec (motive := fun _ => Disp) Disp.no (fun _ ih => Disp.add 0 (A24_0 D ih) <| Disp.no) k
theorem J24_ok {D : Disp} (hD : DOK IrP IrG D) : ∀ k, JOK IrP IrG Go.Proofs.Try.f24 T24 (J24 D k)
  | 0 => JOK.no
  | k + 1 => JOK.add (ltB_ok (by kernel_rfl)) (fun vals S K h => A24_0_ok hD (J24_ok hD k) h) <| JOK.no
theorem E24_ok {D : Disp} (hD : DOK IrP IrG D) (k : Nat) {args : List AV} {S : St} {K : AV → St → Prop} (h : A24_0 D (J24 D k) args S K) : CallE IrP IrG 24 args S K := by
  have hr := A24_0_ok hD (J24_ok hD k) h
  have hl : args.length = 1 := Nat.eq_of_beq_eq_true (req_and h).1
  refine callOK_of (fn := Go.Proofs.Try.f24) (c := (match Go.Proofs.Try.f24.body with | some c => c | none => .skip)) (by kernel_rfl) (by kernel_rfl) (by kernel_rfl) (by rw [hl]; kernel_rfl) (by kernel_rfl) ?_
  rw [hl]
  exact hr
noncomputable def plans25 (i : Nat) : Plan := []
noncomputable def T25 (p : Nat) : List Item × List Nat := bif Nat.beq p 0 then ([.code (match Go.Proofs.Try.f25.body with | some c => c | none => .skip)], [0]) else
  bif Nat.beq p 2 then (navs [.op, .op] [.code (match Go.Proofs.Try.f25.body with | some c => c | none => .skip)], [1, 25]) else
  bif Nat.beq p 6 then (navs [.op, .op, .el, .op] [.code (match Go.Proofs.Try.f25.body with | some c => c | none => .skip)], [1, 27, 28, 29]) else
  bif Nat.beq p 10 then (navs [.op, .op, .el, .op, .op, .th, .op, .op] [.code (match Go.Proofs.Try.f25.body with | some c => c | none => .skip)], [1, 4, 27, 28, 29, 40]) else
  bif Nat.beq p 24 then (navs [.op, .op, .el, .op, .op, .el, .op] [.code (match Go.Proofs.Try.f25.body with | some c => c | none => .skip)], [1, 56, 57, 58]) else
  bif Nat.beq p 14 then (navs [.op, .op, .el, .op, .op, .th, .op, .op, .el, .op] [.code (match Go.Proofs.Try.f25.body with | some c => c | none => .skip)], [1, 4, 27, 28, 29, 42, 43, 44]) else
  ([], [])
noncomputable def F25_q16 (D J : Disp) (S : St) (S320 : St) (y334 : LV) (x341 : Int) (K : AV → St → Prop) : Prop :=
 LV.cs y334 fun b342 n343 n344 y345 =>
 req (Bool.and (ile (0 : Int) x341) (ilt x341 (Int.ofNat n344))) <|
 letK (α := Nat) ((n343 + ((Int.toNat x341) * 6))) fun n346 =>
 letK (α := Nat) ((n346 + 1)) fun n347 =>
 St.at S320 b342 n347 fun y348 =>
 uncK y348 fun v349 y350 =>
 SV.cI IntKind.i64 v349 fun x354 =>
 letK (α := Bool) ((Bool.not (ieq x354 (0 : Int)))) fun c355 =>
 J 2 [(AV.one (V1.s (SV.ptr (PV.mk (Bk.new (St.next S)) 0)))), (AV.one (V1.s (SV.bool c355)))] S320 K
noncomputable def F25_q17 (D J : Disp) (S : St) (S300 : St) (x307 : Int) (x318 : Int) (K : AV → St → Prop) : Prop :=
 D 45 [(AV.one (V1.s (SV.int IntKind.i64 x307))), (AV.one (V1.s (SV.int IntKind.i64 x318)))] S300 fun v319 S320 =>
 scK v319 fun v322 =>
 SV.cB v322 fun y323 =>
 letK (α := Bool) ((Bool.not y323)) fun c324 =>
 ifK c324
 (J 2 [(AV.one (V1.s (SV.ptr (PV.mk (Bk.new (St.next S)) 0)))), (AV.one (V1.s (SV.bool Bool.true)))] S320 K)
 (St.at S320 (Bk.new (St.next S)) 1 fun y325 =>
 uncK y325 fun v326 y327 =>
 SV.cL v326 fun y334 =>
 St.at S320 (Bk.new (St.next S)) 2 fun y335 =>
 uncK y335 fun v336 y337 =>
 SV.cI IntKind.i64 v336 fun x341 =>
 F25_q16 D J S S320 y334 x341 K)
noncomputable def F25_0 (D J : Disp) (l0_0 : LV) (l0_1 : LV) (x0_2 : Int) (S : St) (K : AV → St → Prop) : Prop :=
 letK (α := St) ((St.add S (AO.cells [(SV.sl l0_0), (SV.sl l0_1), (SV.int IntKind.i64 x0_2)] (Op2.ty 36)))) fun S300 =>
 St.at S300 (Bk.new (St.next S)) 2 fun y301 =>
 uncK y301 fun v302 y303 =>
 SV.cI IntKind.i64 v302 fun x307 =>
 St.at S300 (Bk.new (St.next S)) 1 fun y308 =>
 uncK y308 fun v309 y310 =>
 SV.cL v309 fun y317 =>
 letK (α := Int) ((Int.ofNat (LV.len y317))) fun x318 =>
 F25_q17 D J S S300 x307 x318 K
noncomputable def X25_0 : X := (.op (.op (.jmp 2 [1, 25])))
theorem F25_0_eq (D J : Disp) (l0_0 : LV) (l0_1 : LV) (x0_2 : Int) (S : St) (K : AV → St → Prop) : F25_0 D J l0_0 l0_1 x0_2 S K = execK IrP IrG Go.Proofs.Try.f25 (typed IrP D) J plans25 X25_0 (T25 0).1 (envOf (T25 0).2 [(AV.one (V1.agg [(SV.sl l0_0), (SV.sl l0_1), (SV.int IntKind.i64 x0_2)]))]) S K := by kernel_rfl
noncomputable def F25_2 (D J : Disp) (p1 : PV) (c25 : Bool) (S : St) (K : AV → St → Prop) : Prop :=
 ifK c25
 (K ((AV.one (V1.s (SV.bool Bool.false)))) S)
 (PV.cs p1 fun b300 n301 =>
 letK (α := Nat) ((n301 + 0)) fun n302 =>
 St.at S b300 n302 fun y303 =>
 uncK y303 fun v304 y305 =>
 SV.cL v304 fun y312 =>
 letK (α := Int) ((Int.ofNat (LV.len y312))) fun x313 =>
 J 6 [(AV.one (V1.s (SV.ptr p1))), (AV.one (V1.s (SV.sl y312))), (AV.one (V1.s (SV.int IntKind.i64 x313))), (AV.one (V1.s (SV.int IntKind.i64 (0 : Int))))] S K)
noncomputable def X25_2 : X := (.br (.op .ret) (.op (.jmp 6 [1, 27, 28, 29])))
theorem F25_2_eq (D J : Disp) (p1 : PV) (c25 : Bool) (S : St) (K : AV → St → Prop) : F25_2 D J p1 c25 S K = execK IrP IrG Go.Proofs.Try.f25 (typed IrP D) J plans25 X25_2 (T25 2).1 (envOf (T25 2).2 [(AV.one (V1.s (SV.ptr p1))), (AV.one (V1.s (SV.bool c25)))]) S K := by kernel_rfl
noncomputable def F25_q18 (D J : Disp) (S : St) (p1 : PV) (l27 : LV) (x28 : Int) (x29 : Int) (S330 : St) (c338 : Bool) (K : AV → St → Prop) : Prop :=
 ifK c338
 (J 10 [(AV.one (V1.s (SV.ptr p1))), (AV.one (V1.s (SV.ptr (PV.mk (Bk.new (St.next S)) 0)))), (AV.one (V1.s (SV.sl l27))), (AV.one (V1.s (SV.int IntKind.i64 x28))), (AV.one (V1.s (SV.int IntKind.i64 x29))), (AV.one (V1.s (SV.bool Bool.true)))] S330 K)
 (St.at S330 (Bk.new (St.next S)) 1 fun y339 =>
 uncK y339 fun v340 y341 =>
 SV.cI IntKind.i64 v340 fun x345 =>
 letK (α := Bool) ((ilt (65536 : Int) x345)) fun c346 =>
 J 10 [(AV.one (V1.s (SV.ptr p1))), (AV.one (V1.s (SV.ptr (PV.mk (Bk.new (St.next S)) 0)))), (AV.one (V1.s (SV.sl l27))), (AV.one (V1.s (SV.int IntKind.i64 x28))), (AV.one (V1.s (SV.int IntKind.i64 x29))), (AV.one (V1.s (SV.bool c346)))] S330 K)
noncomputable def F25_q19 (D J : Disp) (S : St) (p1 : PV) (l27 : LV) (x28 : Int) (x29 : Int) (b301 : Bk) (n305 : Nat) (K : AV → St → Prop) : Prop :=
 St.at S b301 n305 fun y306 =>
 uncK y306 fun v307 y308 =>
 SV.cS v307 fun y313 =>
 uncK y308 fun v314 y315 =>
 SV.cI IntKind.i64 v314 fun x319 =>
 uncK y315 fun v320 y321 =>
 SV.cL v320 fun y328 =>
 letK (α := St) ((St.add S (AO.cells [(SV.str []), (SV.int IntKind.i64 (0 : Int)), (SV.sl LV.nil)] (Op2.ty 49)))) fun S329 =>
 St.wr S329 (Bk.new (St.next S)) 0 [(SV.str y313), (SV.int IntKind.i64 x319), (SV.sl y328)] fun S330 =>
 St.at S330 (Bk.new (St.next S)) 1 fun y331 =>
 uncK y331 fun v332 y333 =>
 SV.cI IntKind.i64 v332 fun x337 =>
 letK (α := Bool) ((ilt x337 (1 : Int))) fun c338 =>
 F25_q18 D J S p1 l27 x28 x29 S330 c338 K
noncomputable def F25_q20 (D J : Disp) (S : St) (p1 : PV) (l27 : LV) (x28 : Int) (x29 : Int) (c300 : Bool) (K : AV → St → Prop) : Prop :=
 ifK c300
 (LV.cs l27 fun b301 n302 n303 y304 =>
 req (Bool.and (ile (0 : Int) x29) (ilt x29 (Int.ofNat n303))) <|
 letK (α := Nat) ((n302 + ((Int.toNat x29) * 3))) fun n305 =>
 F25_q19 D J S p1 l27 x28 x29 b301 n305 K)
 (PV.cs p1 fun b368 n369 =>
 letK (α := Nat) ((n369 + 1)) fun n370 =>
 St.at S b368 n370 fun y371 =>
 uncK y371 fun v372 y373 =>
 SV.cL v372 fun y380 =>
 letK (α := Int) ((Int.ofNat (LV.len y380))) fun x381 =>
 J 24 [(AV.one (V1.s (SV.ptr p1))), (AV.one (V1.s (SV.sl y380))), (AV.one (V1.s (SV.int IntKind.i64 x381))), (AV.one (V1.s (SV.int IntKind.i64 (0 : Int))))] S K)
noncomputable def F25_6 (D J : Disp) (p1 : PV) (l27 : LV) (x28 : Int) (x29 : Int) (S : St) (K : AV → St → Prop) : Prop :=
 letK (α := Bool) ((ilt x29 x28)) fun c300 =>
 F25_q20 D J S p1 l27 x28 x29 c300 K
noncomputable def X25_6 : X := (.op (.br (.op (.op (.jmp 10 [1, 4, 27, 28, 29, 40]))) (.op (.jmp 24 [1, 56, 57, 58]))))
theorem F25_6_eq (D J : Disp) (p1 : PV) (l27 : LV) (x28 : Int) (x29 : Int) (S : St) (K : AV → St → Prop) : F25_6 D J p1 l27 x28 x29 S K = execK IrP IrG Go.Proofs.Try.f25 (typed IrP D) J plans25 X25_6 (T25 6).1 (envOf (T25 6).2 [(AV.one (V1.s (SV.ptr p1))), (AV.one (V1.s (SV.sl l27))), (AV.one (V1.s (SV.int IntKind.i64 x28))), (AV.one (V1.s (SV.int IntKind.i64 x29)))]) S K := by kernel_rfl
noncomputable def F25_q21 (D J : Disp) (S : St) (p1 : PV) (p4 : PV) (l27 : LV) (x28 : Int) (x29 : Int) (b300 : Bk) (n302 : Nat) (K : AV → St → Prop) : Prop :=
 St.at S b300 n302 fun y303 =>
 uncK y303 fun v304 y305 =>
 SV.cL v304 fun y312 =>
 letK (α := Int) ((Int.ofNat (LV.len y312))) fun x313 =>
 J 14 [(AV.one (V1.s (SV.ptr p1))), (AV.one (V1.s (SV.ptr p4))), (AV.one (V1.s (SV.sl l27))), (AV.one (V1.s (SV.int IntKind.i64 x28))), (AV.one (V1.s (SV.int IntKind.i64 x29))), (AV.one (V1.s (SV.sl y312))), (AV.one (V1.s (SV.int IntKind.i64 x313))), (AV.one (V1.s (SV.int IntKind.i64 (0 : Int))))] S K
noncomputable def F25_10 (D J : Disp) (p1 : PV) (p4 : PV) (l27 : LV) (x28 : Int) (x29 : Int) (c40 : Bool) (S : St) (K : AV → St → Prop) : Prop :=
 ifK c40
 (K ((AV.one (V1.s (SV.bool Bool.false)))) S)
 (PV.cs p4 fun b300 n301 =>
 letK (α := Nat) ((n301 + 2)) fun n302 =>
 F25_q21 D J S p1 p4 l27 x28 x29 b300 n302 K)
noncomputable def X25_10 : X := (.br (.op .ret) (.op (.jmp 14 [1, 4, 27, 28, 29, 42, 43, 44])))
theorem F25_10_eq (D J : Disp) (p1 : PV) (p4 : PV) (l27 : LV) (x28 : Int) (x29 : Int) (c40 : Bool) (S : St) (K : AV → St → Prop) : F25_10 D J p1 p4 l27 x28 x29 c40 S K = execK IrP IrG Go.Proofs.Try.f25 (typed IrP D) J plans25 X25_10 (T25 10).1 (envOf (T25 10).2 [(AV.one (V1.s (SV.ptr p1))), (AV.one (V1.s (SV.ptr p4))), (AV.one (V1.s (SV.sl l27))), (AV.one (V1.s (SV.int IntKind.i64 x28))), (AV.one (V1.s (SV.int IntKind.i64 x29))), (AV.one (V1.s (SV.bool c40)))]) S K := by kernel_rfl
noncomputable def F25_q26 (D J : Disp) (p1 : PV) (p4 : PV) (l27 : LV) (x28 : Int) (x29 : Int) (l42 : LV) (x43 : Int) (x44 : Int) (S411 : St) (y414 : Bool) (K : AV → St → Prop) : Prop :=
 letK (α := Bool) ((Bool.not y414)) fun c415 =>
 ifK c415
 (K ((AV.one (V1.s (SV.bool Bool.false)))) S411)
 (letK (α := Int) ((iwrap IntKind.i64 (x44 + (1 : Int)))) fun x416 =>
 J 14 [(AV.one (V1.s (SV.ptr p1))), (AV.one (V1.s (SV.ptr p4))), (AV.one (V1.s (SV.sl l27))), (AV.one (V1.s (SV.int IntKind.i64 x28))), (AV.one (V1.s (SV.int IntKind.i64 x29))), (AV.one (V1.s (SV.sl l42))), (AV.one (V1.s (SV.int IntKind.i64 x43))), (AV.one (V1.s (SV.int IntKind.i64 x416)))] S411 K)
noncomputable def F25_q27 (D J : Disp) (p1 : PV) (p4 : PV) (l27 : LV) (x28 : Int) (x29 : Int) (l42 : LV) (x43 : Int) (x44 : Int) (S332 : St) (y344 : LV) (y353 : LV) (x359 : Int) (y369 : (List Nat)) (x375 : Int) (y384 : LV) (x391 : Int) (x397 : Int) (x403 : Int) (x409 : Int) (K : AV → St → Prop) : Prop :=
 D 46 [(AV.one (V1.agg [(SV.sl y344), (SV.sl y353), (SV.int IntKind.i64 x359)])), (AV.one (V1.agg [(SV.str y369), (SV.int IntKind.i64 x375), (SV.sl y384)])), (AV.one (V1.agg [(SV.int IntKind.i64 x391), (SV.int IntKind.i64 x397), (SV.int IntKind.i64 x403), (SV.int IntKind.i64 x409)]))] S332 fun v410 S411 =>
 scK v410 fun v413 =>
 SV.cB v413 fun y414 =>
 F25_q26 D J p1 p4 l27 x28 x29 l42 x43 x44 S411 y414 K
noncomputable def F25_q28 (D J : Disp) (S : St) (p1 : PV) (p4 : PV) (l27 : LV) (x28 : Int) (x29 : Int) (l42 : LV) (x43 : Int) (x44 : Int) (S332 : St) (y344 : LV) (y353 : LV) (x359 : Int) (K : AV → St → Prop) : Prop :=
 PV.cs p4 fun b360 n361 =>
 St.at S332 b360 n361 fun y362 =>
 uncK y362 fun v363 y364 =>
 SV.cS v363 fun y369 =>
 uncK y364 fun v370 y371 =>
 SV.cI IntKind.i64 v370 fun x375 =>
 uncK y371 fun v376 y377 =>
 SV.cL v376 fun y384 =>
 St.at S332 (Bk.new (St.next S)) 0 fun y385 =>
 uncK y385 fun v386 y387 =>
 SV.cI IntKind.i64 v386 fun x391 =>
 uncK y387 fun v392 y393 =>
 SV.cI IntKind.i64 v392 fun x397 =>
 uncK y393 fun v398 y399 =>
 SV.cI IntKind.i64 v398 fun x403 =>
 uncK y399 fun v404 y405 =>
 SV.cI IntKind.i64 v404 fun x409 =>
 F25_q27 D J p1 p4 l27 x28 x29 l42 x43 x44 S332 y344 y353 x359 y369 x375 y384 x391 x397 x403 x409 K
noncomputable def F25_q29 (D J : Disp) (S : St) (p1 : PV) (p4 : PV) (l27 : LV) (x28 : Int) (x29 : Int) (l42 : LV) (x43 : Int) (x44 : Int) (x312 : Int) (x318 : Int) (x324 : Int) (x330 : Int) (S331 : St) (K : AV → St → Prop) : Prop :=
 St.wr S331 (Bk.new (St.next S)) 0 [(SV.int IntKind.i64 x312), (SV.int IntKind.i64 x318), (SV.int IntKind.i64 x324), (SV.int IntKind.i64 x330)] fun S332 =>
 PV.cs p1 fun b333 n334 =>
 St.at S332 b333 n334 fun y335 =>
 uncK y335 fun v336 y337 =>
 SV.cL v336 fun y344 =>
 uncK y337 fun v345 y346 =>
 SV.cL v345 fun y353 =>
 uncK y346 fun v354 y355 =>
 SV.cI IntKind.i64 v354 fun x359 =>
 F25_q28 D J S p1 p4 l27 x28 x29 l42 x43 x44 S332 y344 y353 x359 K
noncomputable def F25_q30 (D J : Disp) (S : St) (p1 : PV) (p4 : PV) (l27 : LV) (x28 : Int) (x29 : Int) (l42 : LV) (x43 : Int) (x44 : Int) (b301 : Bk) (n305 : Nat) (K : AV → St → Prop) : Prop :=
 St.at S b301 n305 fun y306 =>
 uncK y306 fun v307 y308 =>
 SV.cI IntKind.i64 v307 fun x312 =>
 uncK y308 fun v313 y314 =>
 SV.cI IntKind.i64 v313 fun x318 =>
 uncK y314 fun v319 y320 =>
 SV.cI IntKind.i64 v319 fun x324 =>
 uncK y320 fun v325 y326 =>
 SV.cI IntKind.i64 v325 fun x330 =>
 letK (α := St) ((St.add S (AO.cells [(SV.int IntKind.i64 (0 : Int)), (SV.int IntKind.i64 (0 : Int)), (SV.int IntKind.i64 (0 : Int)), (SV.int IntKind.i64 (0 : Int))] (Op2.ty 51)))) fun S331 =>
 F25_q29 D J S p1 p4 l27 x28 x29 l42 x43 x44 x312 x318 x324 x330 S331 K
noncomputable def F25_q31 (D J : Disp) (S : St) (p1 : PV) (p4 : PV) (l27 : LV) (x28 : Int) (x29 : Int) (l42 : LV) (x43 : Int) (x44 : Int) (c300 : Bool) (K : AV → St → Prop) : Prop :=
 ifK c300
 (LV.cs l42 fun b301 n302 n303 y304 =>
 req (Bool.and (ile (0 : Int) x44) (ilt x44 (Int.ofNat n303))) <|
 letK (α := Nat) ((n302 + ((Int.toNat x44) * 4))) fun n305 =>
 F25_q30 D J S p1 p4 l27 x28 x29 l42 x43 x44 b301 n305 K)
 (letK (α := Int) ((iwrap IntKind.i64 (x29 + (1 : Int)))) fun x486 =>
 J 6 [(AV.one (V1.s (SV.ptr p1))), (AV.one (V1.s (SV.sl l27))), (AV.one (V1.s (SV.int IntKind.i64 x28))), (AV.one (V1.s (SV.int IntKind.i64 x486)))] S K)
noncomputable def F25_14 (D J : Disp) (p1 : PV) (p4 : PV) (l27 : LV) (x28 : Int) (x29 : Int) (l42 : LV) (x43 : Int) (x44 : Int) (S : St) (K : AV → St → Prop) : Prop :=
 letK (α := Bool) ((ilt x44 x43)) fun c300 =>
 F25_q31 D J S p1 p4 l27 x28 x29 l42 x43 x44 c300 K
noncomputable def X25_14 : X := (.op (.br (.op (.op (.br (.op .ret) (.op (.jmp 14 [1, 4, 27, 28, 29, 42, 43, 44]))))) (.op (.jmp 6 [1, 27, 28, 29]))))
theorem F25_14_eq (D J : Disp) (p1 : PV) (p4 : PV) (l27 : LV) (x28 : Int) (x29 : Int) (l42 : LV) (x43 : Int) (x44 : Int) (S : St) (K : AV → St → Prop) : F25_14 D J p1 p4 l27 x28 x29 l42 x43 x44 S K = execK IrP IrG Go.Proofs.Try.f25 (typed IrP D) J plans25 X25_14 (T25 14).1 (envOf (T25 14).2 [(AV.one (V1.s (SV.ptr p1))), (AV.one (V1.s (SV.ptr p4))), (AV.one (V1.s (SV.sl l27))), (AV.one (V1.s (SV.int IntKind.i64 x28))), (AV.one (V1.s (SV.int IntKind.i64 x29))), (AV.one (V1.s (SV.sl l42))), (AV.one (V1.s (SV.int IntKind.i64 x43))), (AV.one (V1.s (SV.int IntKind.i64 x44)))]) S K := by kernel_rfl
noncomputable def F25_q22 (D J : Disp) (p1 : PV) (l56 : LV) (x57 : Int) (x58 : Int) (S349 : St) (y361 : LV) (y370 : LV) (x376 : Int) (y384 : (List Nat)) (x390 : Int) (x396 : Int) (y405 : LV) (y414 : LV) (y418 : Bool) (K : AV → St → Prop) : Prop :=
 D 47 [(AV.one (V1.agg [(SV.sl y361), (SV.sl y370), (SV.int IntKind.i64 x376)])), (AV.one (V1.agg [(SV.str y384), (SV.int IntKind.i64 x390), (SV.int IntKind.i64 x396), (SV.sl y405), (SV.sl y414), (SV.bool y418)]))] S349 fun v419 S420 =>
 scK v419 fun v422 =>
 SV.cB v422 fun y423 =>
 letK (α := Bool) ((Bool.not y423)) fun c424 =>
 ifK c424
 (K ((AV.one (V1.s (SV.bool Bool.false)))) S420)
 (letK (α := Int) ((iwrap IntKind.i64 (x58 + (1 : Int)))) fun x425 =>
 J 24 [(AV.one (V1.s (SV.ptr p1))), (AV.one (V1.s (SV.sl l56))), (AV.one (V1.s (SV.int IntKind.i64 x57))), (AV.one (V1.s (SV.int IntKind.i64 x425)))] S420 K)
noncomputable def F25_q23 (D J : Disp) (S : St) (p1 : PV) (l56 : LV) (x57 : Int) (x58 : Int) (S349 : St) (y361 : LV) (y370 : LV) (x376 : Int) (K : AV → St → Prop) : Prop :=
 St.at S349 (Bk.new (St.next S)) 0 fun y377 =>
 uncK y377 fun v378 y379 =>
 SV.cS v378 fun y384 =>
 uncK y379 fun v385 y386 =>
 SV.cI IntKind.i64 v385 fun x390 =>
 uncK y386 fun v391 y392 =>
 SV.cI IntKind.i64 v391 fun x396 =>
 uncK y392 fun v397 y398 =>
 SV.cL v397 fun y405 =>
 uncK y398 fun v406 y407 =>
 SV.cL v406 fun y414 =>
 uncK y407 fun v415 y416 =>
 SV.cB v415 fun y418 =>
 F25_q22 D J p1 l56 x57 x58 S349 y361 y370 x376 y384 x390 x396 y405 y414 y418 K
noncomputable def F25_q24 (D J : Disp) (S : St) (p1 : PV) (l56 : LV) (x57 : Int) (x58 : Int) (y313 : (List Nat)) (x319 : Int) (x325 : Int) (y334 : LV) (y343 : LV) (y347 : Bool) (S348 : St) (K : AV → St → Prop) : Prop :=
 St.wr S348 (Bk.new (St.next S)) 0 [(SV.str y313), (SV.int IntKind.i64 x319), (SV.int IntKind.i64 x325), (SV.sl y334), (SV.sl y343), (SV.bool y347)] fun S349 =>
 PV.cs p1 fun b350 n351 =>
 St.at S349 b350 n351 fun y352 =>
 uncK y352 fun v353 y354 =>
 SV.cL v353 fun y361 =>
 uncK y354 fun v362 y363 =>
 SV.cL v362 fun y370 =>
 uncK y363 fun v371 y372 =>
 SV.cI IntKind.i64 v371 fun x376 =>
 F25_q23 D J S p1 l56 x57 x58 S349 y361 y370 x376 K
noncomputable def F25_q25 (D J : Disp) (S : St) (p1 : PV) (l56 : LV) (x57 : Int) (x58 : Int) (b301 : Bk) (n305 : Nat) (K : AV → St → Prop) : Prop :=
 St.at S b301 n305 fun y306 =>
 uncK y306 fun v307 y308 =>
 SV.cS v307 fun y313 =>
 uncK y308 fun v314 y315 =>
 SV.cI IntKind.i64 v314 fun x319 =>
 uncK y315 fun v320 y321 =>
 SV.cI IntKind.i64 v320 fun x325 =>
 uncK y321 fun v326 y327 =>
 SV.cL v326 fun y334 =>
 uncK y327 fun v335 y336 =>
 SV.cL v335 fun y343 =>
 uncK y336 fun v344 y345 =>
 SV.cB v344 fun y347 =>
 letK (α := St) ((St.add S (AO.cells [(SV.str []), (SV.int IntKind.i64 (0 : Int)), (SV.int IntKind.i64 (0 : Int)), (SV.sl LV.nil), (SV.sl LV.nil), (SV.bool Bool.false)] (Op2.ty 42)))) fun S348 =>
 F25_q24 D J S p1 l56 x57 x58 y313 x319 x325 y334 y343 y347 S348 K
noncomputable def F25_24 (D J : Disp) (p1 : PV) (l56 : LV) (x57 : Int) (x58 : Int) (S : St) (K : AV → St → Prop) : Prop :=
 letK (α := Bool) ((ilt x58 x57)) fun c300 =>
 ifK c300
 (LV.cs l56 fun b301 n302 n303 y304 =>
 req (Bool.and (ile (0 : Int) x58) (ilt x58 (Int.ofNat n303))) <|
 letK (α := Nat) ((n302 + ((Int.toNat x58) * 6))) fun n305 =>
 F25_q25 D J S p1 l56 x57 x58 b301 n305 K)
 (K ((AV.one (V1.s (SV.bool Bool.true)))) S)
noncomputable def X25_24 : X := (.op (.br (.op (.op (.br (.op .ret) (.op (.jmp 24 [1, 56, 57, 58]))))) (.op .ret)))
theorem F25_24_eq (D J : Disp) (p1 : PV) (l56 : LV) (x57 : Int) (x58 : Int) (S : St) (K : AV → St → Prop) : F25_24 D J p1 l56 x57 x58 S K = execK IrP IrG Go.Proofs.Try.f25 (typed IrP D) J plans25 X25_24 (T25 24).1 (envOf (T25 24).2 [(AV.one (V1.s (SV.ptr p1))), (AV.one (V1.s (SV.sl l56))), (AV.one (V1.s (SV.int IntKind.i64 x57))), (AV.one (V1.s (SV.int IntKind.i64 x58)))]) S K := by kernel_rfl
noncomputable abbrev A25_0 (D J : Disp) (vals : List AV) (S : St) (K : AV → St → Prop) : Prop :=
  uncA vals fun a9001 r9002 => avA a9001 fun l9004 => uncK l9004 fun s9006 r9007 => SV.cL s9006 fun l0_0 => uncK r9007 fun s9010 r9011 => SV.cL s9010 fun l0_1 => uncK r9011 fun s9014 r9015 => SV.cI IntKind.i64 s9014 fun x0_2 => endL r9015 <| endL r9002 <| F25_0 D J l0_0 l0_1 x0_2 S K
theorem A25_0_ok {D J : Disp} (hD : DOK IrP IrG D) (hJ : JOK IrP IrG Go.Proofs.Try.f25 T25 J) {vals : List AV} {S : St} {K : AV → St → Prop} (h0 : A25_0 D J vals S K) : Runs IrP IrG Go.Proofs.Try.f25 (T25 0).1 (envOf (T25 0).2 vals) S K := by
  obtain ⟨a9001, r9002, rfl, h3⟩ := uncA_some h0
  obtain ⟨l9004, rfl, h5⟩ := avA_some h3
  obtain ⟨s9006, r9007, rfl, h8⟩ := uncK_some h5
  obtain ⟨l0_0, rfl, h9⟩ := cL_some h8
  obtain ⟨s9010, r9011, rfl, h12⟩ := uncK_some h9
  obtain ⟨l0_1, rfl, h13⟩ := cL_some h12
  obtain ⟨s9014, r9015, rfl, h16⟩ := uncK_some h13
  obtain ⟨x0_2, rfl, h17⟩ := cI_some h16
  obtain ⟨rfl, h18⟩ := endL_some h17
  obtain ⟨rfl, h19⟩ := endL_some h18
  have hq := Eq.mp (F25_0_eq D J l0_0 l0_1 x0_2 S K) h19
  exact execK_runs hD.typed Ir_zero Ir_mixed hJ X25_0 (T25 0).1 (envOf (T25 0).2 _) S K (chk_of (by kernel_rfl) (by kernel_rfl)) hq
noncomputable abbrev A25_2 (D J : Disp) (vals : List AV) (S : St) (K : AV → St → Prop) : Prop :=
  uncA vals fun a9001 r9002 => scK a9001 fun s9004 => SV.cP s9004 fun p1 => uncA r9002 fun a9007 r9008 => scK a9007 fun s9010 => SV.cB s9010 fun c25 => endL r9008 <| F25_2 D J p1 c25 S K
theorem A25_2_ok {D J : Disp} (hD : DOK IrP IrG D) (hJ : JOK IrP IrG Go.Proofs.Try.f25 T25 J) {vals : List AV} {S : St} {K : AV → St → Prop} (h0 : A25_2 D J vals S K) : Runs IrP IrG Go.Proofs.Try.f25 (T25 2).1 (envOf (T25 2).2 vals) S K := by
  obtain ⟨a9001, r9002, rfl, h3⟩ := uncA_some h0
  obtain ⟨s9004, rfl, h5⟩ := scK_some h3
  obtain ⟨p1, rfl, h6⟩ := cP_some h5
  obtain ⟨a9007, r9008, rfl, h9⟩ := uncA_some h6
  obtain ⟨s9010, rfl, h11⟩ := scK_some h9
  obtain ⟨c25, rfl, h12⟩ := cB_some h11
  obtain ⟨rfl, h13⟩ := endL_some h12
  have hq := Eq.mp (F25_2_eq D J p1 c25 S K) h13
  exact execK_runs hD.typed Ir_zero Ir_mixed hJ X25_2 (T25 2).1 (envOf (T25 2).2 _) S K (chk_of (by kernel_rfl) (by kernel_rfl)) hq
noncomputable abbrev A25_6 (D J : Disp) (vals : List AV) (S : St) (K : AV → St → Prop) : Prop :=
  uncA vals fun a9001 r9002 => scK a9001 fun s9004 => SV.cP s9004 fun p1 => uncA r9002 fun a9007 r9008 => scK a9007 fun s9010 => SV.cL s9010 fun l27 => uncA r9008 fun a9013 r9014 => scK a9013 fun s9016 => SV.cI IntKind.i64 s9016 fun x28 => uncA r9014 fun a9019 r9020 => scK a9019 fun s9022 => SV.cI IntKind.i64 s9022 fun x29 => endL r9020 <| F25_6 D J p1 l27 x28 x29 S K
theorem A25_6_ok {D J : Disp} (hD : DOK IrP IrG D) (hJ : JOK IrP IrG Go.Proofs.Try.f25 T25 J) {vals : List AV} {S : St} {K : AV → St → Prop} (h0 : A25_6 D J vals S K) : Runs IrP IrG Go.Proofs.Try.f25 (T25 6).1 (envOf (T25 6).2 vals) S K := by
  obtain ⟨a9001, r9002, rfl, h3⟩ := uncA_some h0
  obtain ⟨s9004, rfl, h5⟩ := scK_some h3
  obtain ⟨p1, rfl, h6⟩ := cP_some h5
  obtain ⟨a9007, r9008, rfl, h9⟩ := uncA_some h6
  obtain ⟨s9010, rfl, h11⟩ := scK_some h9
  obtain ⟨l27, rfl, h12⟩ := cL_some h11
  obtain ⟨a9013, r9014, rfl, h15⟩ := uncA_some h12
  obtain ⟨s9016, rfl, h17⟩ := scK_some h15
  obtain ⟨x28, rfl, h18⟩ := cI_some h17
  obtain ⟨a9019, r9020, rfl, h21⟩ := uncA_some h18
  obtain ⟨s9022, rfl, h23⟩ := scK_some h21
  obtain ⟨x29, rfl, h24⟩ := cI_some h23
  obtain ⟨rfl, h25⟩ := endL_some h24
  have hq := Eq.mp (F25_6_eq D J p1 l27 x28 x29 S K) h25
  exact execK_runs hD.typed Ir_zero Ir_mixed hJ X25_6 (T25 6).1 (envOf (T25 6).2 _) S K (chk_of (by kernel_rfl) (by kernel_rfl)) hq
noncomputable abbrev A25_10 (D J : Disp) (vals : List AV) (S : St) (K : AV → St → Prop) : Prop :=
  uncA vals fun a9001 r9002 => scK a9001 fun s9004 => SV.cP s9004 fun p1 => uncA r9002 fun a9007 r9008 => scK a9007 fun s9010 => SV.cP s9010 fun p4 => uncA r9008 fun a9013 r9014 => scK a9013 fun s9016 => SV.cL s9016 fun l27 => uncA r9014 fun a9019 r9020 => scK a9019 fun s9022 => SV.cI IntKind.i64 s9022 fun x28 => uncA r9020 fun a9025 r9026 => scK a9025 fun s9028 => SV.cI IntKind.i64 s9028 fun x29 => uncA r9026 fun a9031 r9032 => scK a9031 fun s9034 => SV.cB s9034 fun c40 => endL r9032 <| F25_10 D J p1 p4 l27 x28 x29 c40 S K
theorem A25_10_ok {D J : Disp} (hD : DOK IrP IrG D) (hJ : JOK IrP IrG Go.Proofs.Try.f25 T25 J) {vals : List AV} {S : St} {K : AV → St → Prop} (h0 : A25_10 D J vals S K) : Runs IrP IrG Go.Proofs.Try.f25 (T25 10).1 (envOf (T25 10).2 vals) S K := by
  obtain ⟨a9001, r9002, rfl, h3⟩ := uncA_some h0
  obtain ⟨s9004, rfl, h5⟩ := scK_some h3
  obtain ⟨p1, rfl, h6⟩ := cP_some h5
  obtain ⟨a9007, r9008, rfl, h9⟩ := uncA_some h6
  obtain ⟨s9010, rfl, h11⟩ := scK_some h9
  obtain ⟨p4, rfl, h12⟩ := cP_some h11
  obtain ⟨a9013, r9014, rfl, h15⟩ := uncA_some h12
  obtain ⟨s9016, rfl, h17⟩ := scK_some h15
  obtain ⟨l27, rfl, h18⟩ := cL_some h17
  obtain ⟨a9019, r9020, rfl, h21⟩ := uncA_some h18
  obtain ⟨s9022, rfl, h23⟩ := scK_some h21
  obtain ⟨x28, rfl, h24⟩ := cI_some h23
  obtain ⟨a9025, r9026, rfl, h27⟩ := uncA_some h24
  obtain ⟨s9028, rfl, h29⟩ := scK_some h27
  obtain ⟨x29, rfl, h30⟩ := cI_some h29
  obtain ⟨a9031, r9032, rfl, h33⟩ := uncA_some h30
  obtain ⟨s9034, rfl, h35⟩ := scK_some h33
  obtain ⟨c40, rfl, h36⟩ := cB_some h35
  obtain ⟨rfl, h37⟩ := endL_some h36
  have hq := Eq.mp (F25_10_eq D J p1 p4 l27 x28 x29 c40 S K) h37
  exact execK_runs hD.typed Ir_zero Ir_mixed hJ X25_10 (T25 10).1 (envOf (T25 10).2 _) S K (chk_of (by kernel_rfl) (by kernel_rfl)) hq
noncomputable abbrev A25_14 (D J : Disp) (vals : List AV) (S : St) (K : AV → St → Prop) : Prop :=
  uncA vals fun a9001 r9002 => scK a9001 fun s9004 => SV.cP s9004 fun p1 => uncA r9002 fun a9007 r9008 => scK a9007 fun s9010 => SV.cP s9010 fun p4 => uncA r9008 fun a9013 r9014 => scK a9013 fun s9016 => SV.cL s9016 fun l27 => uncA r9014 fun a9019 r9020 => scK a9019 fun s9022 => SV.cI IntKind.i64 s9022 fun x28 => uncA r9020 fun a9025 r9026 => scK a9025 fun s9028 => SV.cI IntKind.i64 s9028 fun x29 => uncA r9026 fun a9031 r9032 => scK a9031 fun s9034 => SV.cL s9034 fun l42 => uncA r9032 fun a9037 r9038 => scK a9037 fun s9040 => SV.cI IntKind.i64 s9040 fun x43 => uncA r9038 fun a9043 r9044 => scK a9043 fun s9046 => SV.cI IntKind.i64 s9046 fun x44 => endL r9044 <| F25_14 D J p1 p4 l27 x28 x29 l42 x43 x44 S K
theorem A25_14_ok {D J : Disp} (hD : DOK IrP IrG D) (hJ : JOK IrP IrG Go.Proofs.Try.f25 T25 J) {vals : List AV} {S : St} {K : AV → St → Prop} (h0 : A25_14 D J vals S K) : Runs IrP IrG Go.Proofs.Try.f25 (T25 14).1 (envOf (T25 14).2 vals) S K := by
  obtain ⟨a9001, r9002, rfl, h3⟩ := uncA_some h0
  obtain ⟨s9004, rfl, h5⟩ := scK_some h3
  obtain ⟨p1, rfl, h6⟩ := cP_some h5
  obtain ⟨a9007, r9008, rfl, h9⟩ := uncA_some h6
  obtain ⟨s9010, rfl, h11⟩ := scK_some h9
  obtain ⟨p4, rfl, h12⟩ := cP_some h11
  obtain ⟨a9013, r9014, rfl, h15⟩ := uncA_some h12
  obtain ⟨s9016, rfl, h17⟩ := scK_some h15
  obtain ⟨l27, rfl, h18⟩ := cL_some h17
  obtain ⟨a9019, r9020, rfl, h21⟩ := uncA_some h18
  obtain ⟨s9022, rfl, h23⟩ := scK_some h21
  obtain ⟨x28, rfl, h24⟩ := cI_some h23
  obtain ⟨a9025, r9026, rfl, h27⟩ := uncA_some h24
  obtain ⟨s9028, rfl, h29⟩ := scK_some h27
  obtain ⟨x29, rfl, h30⟩ := cI_some h29
  obtain ⟨a9031, r9032, rfl, h33⟩ := uncA_some h30
  obtain ⟨s9034, rfl, h35⟩ := scK_some h33
  obtain ⟨l42, rfl, h36⟩ := cL_some h35
  obtain ⟨a9037, r9038, rfl, h39⟩ := uncA_some h36
  obtain ⟨s9040, rfl, h41⟩ := scK_some h39
  obtain ⟨x43, rfl, h42⟩ := cI_some h41
  obtain ⟨a9043, r9044, rfl, h45⟩ := uncA_some h42
  obtain ⟨s9046, rfl, h47⟩ := scK_some h45
  obtain ⟨x44, rfl, h48⟩ := cI_some h47
  obtain ⟨rfl, h49⟩ := endL_some h48
  have hq := Eq.mp (F25_14_eq D J p1 p4 l27 x28 x29 l42 x43 x44 S K) h49
  exact execK_runs hD.typed Ir_zero Ir_mixed hJ X25_14 (T25 14).1 (envOf (T25 14).2 _) S K (chk_of (by kernel_rfl) (by kernel_rfl)) hq
noncomputable abbrev A25_24 (D J : Disp) (vals : List AV) (S : St) (K : AV → St → Prop) : Prop :=
  uncA vals fun a9001 r9002 => scK a9001 fun s9004 => SV.cP s9004 fun p1 => uncA r9002 fun a9007 r9008 => scK a9007 fun s9010 => SV.cL s9010 fun l56 => uncA r9008 fun a9013 r9014 => scK a9013 fun s9016 => SV.cI IntKind.i64 s9016 fun x57 => uncA r9014 fun a9019 r9020 => scK a9019 fun s9022 => SV.cI IntKind.i64 s9022 fun x58 => endL r9020 <| F25_24 D J p1 l56 x57 x58 S K
theorem A25_24_ok {D J : Disp} (hD : DOK IrP IrG D) (hJ : JOK IrP IrG Go.Proofs.Try.f25 T25 J) {vals : List AV} {S : St} {K : AV → St → Prop} (h0 : A25_24 D J vals S K) : Runs IrP IrG Go.Proofs.Try.f25 (T25 24).1 (envOf (T25 24).2 vals) S K := by
  obtain ⟨a9001, r9002, rfl, h3⟩ := uncA_some h0
  obtain ⟨s9004, rfl, h5⟩ := scK_some h3
  obtain ⟨p1, rfl, h6⟩ := cP_some h5
  obtain ⟨a9007, r9008, rfl, h9⟩ := uncA_some h6
  obtain ⟨s9010, rfl, h11⟩ := scK_some h9
  obtain ⟨l56, rfl, h12⟩ := cL_some h11
  obtain ⟨a9013, r9014, rfl, h15⟩ := uncA_some h12
  obtain ⟨s9016, rfl, h17⟩ := scK_some h15
  obtain ⟨x57, rfl, h18⟩ := cI_some h17
  obtain ⟨a9019, r9020, rfl, h21⟩ := uncA_some h18
  obtain ⟨s9022, rfl, h23⟩ := scK_some h21
  obtain ⟨x58, rfl, h24⟩ := cI_some h23
  obtain ⟨rfl, h25⟩ := endL_some h24
  have hq := Eq.mp (F25_24_eq D J p1 l56 x57 x58 S K) h25
  exact execK_runs hD.typed Ir_zero Ir_mixed hJ X25_24 (T25 24).1 (envOf (T25 24).2 _) S K (chk_of (by kernel_rfl) (by kernel_rfl)) hq
noncomputable def J25 (D : Disp) (k : Nat) : Disp := Nat.rec (motive := fun _ => Disp) Disp.no (fun _ ih => Disp.add 0 (A25_0 D ih) <| Disp.add 2 (A25_2 D ih) <| Disp.add 6 (A25_6 D ih) <| Disp.add 10 (A25_10 D ih) <| Disp.add 14 (A25_14 D ih) <| Disp.add 24 (A25_24 D ih) <| Disp.no) k
theorem J25_ok {D : Disp} (hD : DOK IrP IrG D) : ∀ k, JOK IrP IrG Go.Proofs.Try.f25 T25 (J25 D k)
  | 0 => JOK.no
  | k + 1 => JOK.add (ltB_ok (by kernel_rfl)) (fun vals S K h => A25_0_ok hD (J25_ok hD k) h) <| JOK.add (ltB_ok (by kernel_rfl)) (fun vals S K h => A25_2_ok hD (J25_ok hD k) h) <| JOK.add (ltB_ok (by kernel_rfl)) (fun vals S K h => A25_6_ok hD (J25_ok hD k) h) <| JOK.add (ltB_ok (by kernel_rfl)) (fun vals S K h => A25_10_ok hD (J25_ok hD k) h) <| JOK.add (ltB_ok (by kernel_rfl)) (fun vals S K h => A25_14_ok hD (J25_ok hD k) h) <| JOK.add (ltB_ok (by kernel_rfl)) (fun vals S K h => A25_24_ok hD (J25_ok hD k) h) <| JOK.no
theorem E25_ok {D : Disp} (hD : DOK IrP IrG D) (k : Nat) {args : List AV} {S : St} {K : AV → St → Prop} (h : A25_0 D (J25 D k) args S K) : CallE IrP IrG 25 args S K := by
  have hr := A25_0_ok hD (J25_ok hD k) h
  have hl : args.length = 1 := by
    have h0 := h
    obtain ⟨a9001, r9002, rfl, h3⟩ := uncA_some h0
    obtain ⟨l9004, rfl, h5⟩ := avA_some h3
    obtain ⟨s9006, r9007, rfl, h8⟩ := uncK_some h5
    obtain ⟨l0_0, rfl, h9⟩ := cL_some h8
    obtain ⟨s9010, r9011, rfl, h12⟩ := uncK_some h9
    obtain ⟨l0_1, rfl, h13⟩ := cL_some h12
    obtain ⟨s9014, r9015, rfl, h16⟩ := uncK_some h13
    obtain ⟨x0_2, rfl, h17⟩ := cI_some h16
    obtain ⟨rfl, h18⟩ := endL_some h17
    obtain ⟨rfl, h19⟩ := endL_some h18
    rfl
  refine callOK_of (fn := Go.Proofs.Try.f25) (c := (match Go.Proofs.Try.f25.body with | some c => c | none => .skip)) (by kernel_rfl) (by kernel_rfl) (by kernel_rfl) (by rw [hl]; kernel_rfl) (by kernel_rfl) ?_
  rw [hl]
  exact hr
noncomputable def plans26 (i : Nat) : Plan := []
noncomputable def T26 (p : Nat) : List Item × List Nat := bif Nat.beq p 0 then ([.code (match Go.Proofs.Try.f26.body with | some c => c | none => .skip)], [0]) else
  bif Nat.beq p 3 then (navs [.op, .op, .op] [.code (match Go.Proofs.Try.f26.body with | some c => c | none => .skip)], [3, 9, 10, 11]) else
  bif Nat.beq p 7 then (navs [.op, .op, .op, .op, .th, .op, .op] [.code (match Go.Proofs.Try.f26.body with | some c => c | none => .skip)], [3, 9, 10, 11, 16, 17, 18]) else
  ([], [])
noncomputable def X26_0 : X := (.op (.op (.op (.jmp 3 [3, 9, 10, 11]))))
noncomputable def X26_3 : X := (.op (.br (.op (.op (.jmp 7 [3, 9, 10, 11, 16, 17, 18]))) (.op .ret)))
noncomputable def X26_7 : X := (.op (.br (.op (.op (.op (.jmp 7 [3, 9, 10, 11, 16, 17, 18])))) (.op (.jmp 3 [3, 9, 10, 11]))))
noncomputable def A26_0 (D J : Disp) (vals : List AV) (S : St) (K : AV → St → Prop) : Prop := req (Nat.beq vals.length 1) (execK IrP IrG Go.Proofs.Try.f26 (typed IrP D) J plans26 X26_0 (T26 0).1 (envOf (T26 0).2 vals) S K)
theorem A26_0_ok {D J : Disp} (hD : DOK IrP IrG D) (hJ : JOK IrP IrG Go.Proofs.Try.f26 T26 J) {vals : List AV} {S : St} {K : AV → St → Prop} (h0 : A26_0 D J vals S K) : Runs IrP IrG Go.Proofs.Try.f26 (T26 0).1 (envOf (T26 0).2 vals) S K :=
  execK_runs hD.typed Ir_zero Ir_mixed hJ X26_0 (T26 0).1 (envOf (T26 0).2 vals) S K (chk_of (by kernel_rfl) (by kernel_rfl)) (req_and h0).2
noncomputable def A26_3 (D J : Disp) (vals : List AV) (S : St) (K : AV → St → Prop) : Prop := req (Nat.beq vals.length 4) (execK IrP IrG Go.Proofs.Try.f26 (typed IrP D) J plans26 X26_3 (T26 3).1 (envOf (T26 3).2 vals) S K)
theorem A26_3_ok {D J : Disp} (hD : DOK IrP IrG D) (hJ : JOK IrP IrG Go.Proofs.Try.f26 T26 J) {vals : List AV} {S : St} {K : AV → St → Prop} (h0 : A26_3 D J vals S K) : Runs IrP IrG Go.Proofs.Try.f26 (T26 3).1 (envOf (T26 3).2 vals) S K :=
  execK_runs hD.typed Ir_zero Ir_mixed hJ X26_3 (T26 3).1 (envOf (T26 3).2 vals) S K (chk_of (by kernel_rfl) (by kernel_rfl)) (req_and h0).2
noncomputable def A26_7 (D J : Disp) (vals : List AV) (S : St) (K : AV → St → Prop) : Prop := req (Nat.beq vals.length 7) (execK IrP IrG Go.Proofs.Try.f26 (typed IrP D) J plans26 X26_7 (T26 7).1 (envOf (T26 7).2 vals) S K)
theorem A26_7_ok {D J : Disp} (hD : DOK IrP IrG D) (hJ : JOK IrP IrG Go.Proofs.Try.f26 T26 J) {vals : List AV} {S : St} {K : AV → St → Prop} (h0 : A26_7 D J vals S K) : Runs IrP IrG Go.Proofs.Try.f26 (T26 7).1 (envOf (T26 7).2 vals) S K :=
  execK_runs hD.typed Ir_zero Ir_mixed hJ X26_7 (T26 7).1 (envOf (T26 7).2 vals) S K (chk_of (by kernel_rfl) (by kernel_rfl)) (req_and h0).2
noncomputable def J26 (D : Disp) (k : Nat) : Disp := Nat.rec (motive := fun _ => Disp) Disp.no (fun _ ih => Disp.add 0 (A26_0 D ih) <| Disp.add 3 (A26_3 D ih) <| Disp.add 7 (A26_7 D ih) <| Disp.no) k
theorem J26_ok {D : Disp} (hD : DOK IrP IrG D) : ∀ k, JOK IrP IrG Go.Proofs.Try.f26 T26 (J26 D k)
  | 0 => JOK.no
  | k + 1 => JOK.add (ltB_ok (by kernel_rfl)) (fun vals S K h => A26_0_ok hD (J26_ok hD k) h) <| JOK.add (ltB_ok (by kernel_rfl)) (fun vals S K h => A26_3_ok hD (J26_ok hD k) h) <| JOK.add (ltB_ok (by kernel_rfl)) (fun vals S K h => A26_7_ok hD (J26_ok hD k) h) <| JOK.no
theorem E26_ok {D : Disp} (hD : DOK IrP IrG D) (k : Nat) {args : List AV} {S : St} {K : AV → St → Prop} (h : A26_0 D (J26 D k) args S K) : CallE IrP IrG 26 args S K := by
  have hr := A26_0_ok hD (J26_ok hD k) h
  have hl : args.length = 1 := Nat.eq_of_beq_eq_true (req_and h).1
  refine callOK_of (fn := Go.Proofs.Try.f26) (c := (match Go.Proofs.Try.f26.body with | some c => c | none => .skip)) (by kernel_rfl) (by kernel_rfl) (by kernel_rfl) (by rw [hl]; kernel_rfl) (by kernel_rfl) ?_
  rw [hl]
  exact hr
noncomputable def plans30 (i : Nat) : Plan := []
noncomputable def T30 (p : Nat) : List Item × List Nat := bif Nat.beq p 0 then ([.code (match Go.Proofs.Try.f30.body with | some c => c | none => .skip)], [0]) else
  ([], [])
noncomputable def X30_0 : X := (.op (.op (.br (.op .ret) (.op .ret))))
noncomputable def A30_0 (D J : Disp) (vals : List AV) (S : St) (K : AV → St → Prop) : Prop := req (Nat.beq vals.length 1) (execK IrP IrG Go.Proofs.Try.f30 (typed IrP D) J plans30 X30_0 (T30 0).1 (envOf (T30 0).2 vals) S K)
theorem A30_0_ok {D J : Disp} (hD : DOK IrP IrG D) (hJ : JOK IrP IrG Go.Proofs.Try.f30 T30 J) {vals : List AV} {S : St} {K : AV → St → Prop} (h0 : A30_0 D J vals S K) : Runs IrP IrG Go.Proofs.Try.f30 (T30 0).1 (envOf (T30 0).2 vals) S K :=
  execK_runs hD.typed Ir_zero Ir_mixed hJ X30_0 (T30 0).1 (envOf (T30 0).2 vals) S K (chk_of (by kernel_rfl) (by kernel_rfl)) (req_and h0).2
noncomputable def J30 (D : Disp) (k : Nat) : Disp := Nat.rec (motive := fun _ => Disp) Disp.no (fun _ ih => Disp.add 0 (A30_0 D ih) <| Disp.no) k
theorem J30_ok {D : Disp} (hD : DOK IrP IrG D) : ∀ k, JOK IrP IrG Go.Proofs.Try.f30 T30 (J30 D k)
  | 0 => JOK.no
  | k + 1 => JOK.add (ltB_ok (by kernel_rfl)) (fun vals S K h => A30_0_ok hD (J30_ok hD k) h) <| JOK.no
theorem E30_ok {D : Disp} (hD : DOK IrP IrG D) (k : Nat) {args : List AV} {S : St} {K : AV → St → Prop} (h : A30_0 D (J30 D k) args S K) : CallE IrP IrG 30 args S K := by
  have hr := A30_0_ok hD (J30_ok hD k) h
  have hl : args.length = 1 := Nat.eq_of_beq_eq_true (req_and h).1
  refine callOK_of (fn := Go.Proofs.Try.f30) (c := (match Go.Proofs.Try.f30.body with | some c => c | none => .skip)) (by kernel_rfl) (by kernel_rfl) (by kernel_rfl) (by rw [hl]; kernel_rfl) (by kernel_rfl) ?_
  rw [hl]
  exact hr
noncomputable def plans31 (i : Nat) : Plan := []
noncomputable def T31 (p : Nat) : List Item × List Nat := bif Nat.beq p 0 then ([.code (match Go.Proofs.Try.f31.body with | some c => c | none => .skip)], [0]) else
  bif Nat.beq p 4 then (navs [.op, .op, .op, .op] [.code (match Go.Proofs.Try.f31.body with | some c => c | none => .skip)], [1, 2, 3, 11, 12, 13]) else
  ([], [])
noncomputable def X31_0 : X := (.op (.op (.op (.op (.jmp 4 [1, 2, 3, 11, 12, 13])))))
noncomputable def X31_4 : X := (.op (.br (.op (.op (.op (.jmp 4 [1, 2, 3, 11, 12, 13])))) (.op (.op .ret))))
noncomputable def A31_0 (D J : Disp) (vals : List AV) (S : St) (K : AV → St → Prop) : Prop := req (Nat.beq vals.length 1) (execK IrP IrG Go.Proofs.Try.f31 (typed IrP D) J plans31 X31_0 (T31 0).1 (envOf (T31 0).2 vals) S K)
theorem A31_0_ok {D J : Disp} (hD : DOK IrP IrG D) (hJ : JOK IrP IrG Go.Proofs.Try.f31 T31 J) {vals : List AV} {S : St} {K : AV → St → Prop} (h0 : A31_0 D J vals S K) : Runs IrP IrG Go.Proofs.Try.f31 (T31 0).1 (envOf (T31 0).2 vals) S K :=
  execK_runs hD.typed Ir_zero Ir_mixed hJ X31_0 (T31 0).1 (envOf (T31 0).2 vals) S K (chk_of (by kernel_rfl) (by kernel_rfl)) (req_and h0).2
noncomputable def A31_4 (D J : Disp) (vals : List AV) (S : St) (K : AV → St → Prop) : Prop := req (Nat.beq vals.length 6) (execK IrP IrG Go.Proofs.Try.f31 (typed IrP D) J plans31 X31_4 (T31 4).1 (envOf (T31 4).2 vals) S K)
theorem A31_4_ok {D J : Disp} (hD : DOK IrP IrG D) (hJ : JOK IrP IrG Go.Proofs.Try.f31 T31 J) {vals : List AV} {S : St} {K : AV → St → Prop} (h0 : A31_4 D J vals S K) : Runs IrP IrG Go.Proofs.Try.f31 (T31 4).1 (envOf (T31 4).2 vals) S K :=
  execK_runs hD.typed Ir_zero Ir_mixed hJ X31_4 (T31 4).1 (envOf (T31 4).2 vals) S K (chk_of (by kernel_rfl) (by kernel_rfl)) (req_and h0).2
noncomputable def J31 (D : Disp) (k : Nat) : Disp := Nat.rec (motive := fun _ => Disp) Disp.no (fun _ ih => Disp.add 0 (A31_0 D ih) <| Disp.add 4 (A31_4 D ih) <| Disp.no) k
theorem J31_ok {D : Disp} (hD : DOK IrP IrG D) : ∀ k, JOK IrP IrG Go.Proofs.Try.f31 T31 (J31 D k)
  | 0 => JOK.no
  | k + 1 => JOK.add (ltB_ok (by kernel_rfl)) (fun vals S K h => A31_0_ok hD (J31_ok hD k) h) <| JOK.add (ltB_ok (by kernel_rfl)) (fun vals S K h => A31_4_ok hD (J31_ok hD k) h) <| JOK.no
theorem E31_ok {D : Disp} (hD : DOK IrP IrG D) (k : Nat) {args : List AV} {S : St} {K : AV → St → Prop} (h : A31_0 D (J31 D k) args S K) : CallE IrP IrG 31 args S K := by
  have hr := A31_0_ok hD (J31_ok hD k) h
  have hl : args.length = 1 := Nat.eq_of_beq_eq_true (req_and h).1
  refine callOK_of (fn := Go.Proofs.Try.f31) (c := (match Go.Proofs.Try.f31.body with | some c => c | none => .skip)) (by kernel_rfl) (by kernel_rfl) (by kernel_rfl) (by rw [hl]; kernel_rfl) (by kernel_rfl) ?_
  rw [hl]
  exact hr
noncomputable def plans34 (i : Nat) : Plan := []
noncomputable def T34 (p : Nat) : List Item × List Nat := bif Nat.beq p 0 then ([.code (match Go.Proofs.Try.f34.body with | some c => c | none => .skip)], [0, 1, 2]) else
  bif Nat.beq p 6 then (navs [.op, .op, .el, .op] [.code (match Go.Proofs.Try.f34.body with | some c => c | none => .skip)], [1, 2, 15, 16, 17]) else
  ([], [])
noncomputable def X34_0 : X := (.op (.op (.br (.op .ret) (.op (.jmp 6 [1, 2, 15, 16, 17])))))
noncomputable def X34_6 : X := (.op (.br (.op (.op (.op (.br (.op .ret) (.op (.jmp 6 [1, 2, 15, 16, 17])))))) (.op .ret)))
noncomputable def A34_0 (D J : Disp) (vals : List AV) (S : St) (K : AV → St → Prop) : Prop := req (Nat.beq vals.length 3) (execK IrP IrG Go.Proofs.Try.f34 (typed IrP D) J plans34 X34_0 (T34 0).1 (envOf (T34 0).2 vals) S K)
theorem A34_0_ok {D J : Disp} (hD : DOK IrP IrG D) (hJ : JOK IrP IrG Go.Proofs.Try.f34 T34 J) {vals : List AV} {S : St} {K : AV → St → Prop} (h0 : A34_0 D J vals S K) : Runs IrP IrG Go.Proofs.Try.f34 (T34 0).1 (envOf (T34 0).2 vals) S K :=
  execK_runs hD.typed Ir_zero Ir_mixed hJ X34_0 (T34 0).1 (envOf (T34 0).2 vals) S K (chk_of (by kernel_rfl) (by kernel_rfl)) (req_and h0).2
noncomputable def A34_6 (D J : Disp) (vals : List AV) (S : St) (K : AV → St → Prop) : Prop := req (Nat.beq vals.length 5) (execK IrP IrG Go.Proofs.Try.f34 (typed IrP D) J plans34 X34_6 (T34 6).1 (envOf (T34 6).2 vals) S K)
theorem A34_6_ok {D J : Disp} (hD : DOK IrP IrG D) (hJ : JOK IrP IrG Go.Proofs.Try.f34 T34 J) {vals : List AV} {S : St} {K : AV → St → Prop} (h0 : A34_6 D J vals S K) : Runs IrP IrG Go.Proofs.Try.f34 (T34 6).1 (envOf (T34 6).2 vals) S K :=
  execK_runs hD.typed Ir_zero Ir_mixed hJ X34_6 (T34 6).1 (envOf (T34 6).2 vals) S K (chk_of (by kernel_rfl) (by kernel_rfl)) (req_and h0).2
noncomputable def J34 (D : Disp) (k : Nat) : Disp := Nat.rec (motive := fun _ => Disp) Disp.no (fun _ ih => Disp.add 0 (A34_0 D ih) <| Disp.add 6 (A34_6 D ih) <| Disp.no) k
theorem J34_ok {D : Disp} (hD : DOK IrP IrG D) : ∀ k, JOK IrP IrG Go.Proofs.Try.f34 T34 (J34 D k)
  | 0 => JOK.no
  | k + 1 => JOK.add (ltB_ok (by kernel_rfl)) (fun vals S K h => A34_0_ok hD (J34_ok hD k) h) <| JOK.add (ltB_ok (by kernel_rfl)) (fun vals S K h => A34_6_ok hD (J34_ok hD k) h) <| JOK.no
theorem E34_ok {D : Disp} (hD : DOK IrP IrG D) (k : Nat) {args : List AV} {S : St} {K : AV → St → Prop} (h : A34_0 D (J34 D k) args S K) : CallE IrP IrG 34 args S K := by
  have hr := A34_0_ok hD (J34_ok hD k) h
  have hl : args.length = 3 := Nat.eq_of_beq_eq_true (req_and h).1
  refine callOK_of (fn := Go.Proofs.Try.f34) (c := (match Go.Proofs.Try.f34.body with | some c => c | none => .skip)) (by kernel_rfl) (by kernel_rfl) (by kernel_rfl) (by rw [hl]; kernel_rfl) (by kernel_rfl) ?_
  rw [hl]
  exact hr
noncomputable def plans35 (i : Nat) : Plan := []
noncomputable def T35 (p : Nat) : List Item × List Nat := bif Nat.beq p 0 then ([.code (match Go.Proofs.Try.f35.body with | some c => c | none => .skip)], [0, 1]) else
  ([], [])
noncomputable def X35_0 : X := (.op (.op .ret))
noncomputable def A35_0 (D J : Disp) (vals : List AV) (S : St) (K : AV → St → Prop) : Prop := req (Nat.beq vals.length 2) (execK IrP IrG Go.Proofs.Try.f35 (typed IrP D) J plans35 X35_0 (T35 0).1 (envOf (T35 0).2 vals) S K)
theorem A35_0_ok {D J : Disp} (hD : DOK IrP IrG D) (hJ : JOK IrP IrG Go.Proofs.Try.f35 T35 J) {vals : List AV} {S : St} {K : AV → St → Prop} (h0 : A35_0 D J vals S K) : Runs IrP IrG Go.Proofs.Try.f35 (T35 0).1 (envOf (T35 0).2 vals) S K :=
  execK_runs hD.typed Ir_zero Ir_mixed hJ X35_0 (T35 0).1 (envOf (T35 0).2 vals) S K (chk_of (by kernel_rfl) (by kernel_rfl)) (req_and h0).2
noncomputable def J35 (D : Disp) (k : Nat) : Disp := Nat.rec (motive := fun _ => Disp) Disp.no (fun _ ih => Disp.add 0 (A35_0 D ih) <| Disp.no) k
theorem J35_ok {D : Disp} (hD : DOK IrP IrG D) : ∀ k, JOK IrP IrG Go.Proofs.Try.f35 T35 (J35 D k)
  | 0 => JOK.no
  | k + 1 => JOK.add (ltB_ok (by kernel_rfl)) (fun vals S K h => A35_0_ok hD (J35_ok hD k) h) <| JOK.no
theorem E35_ok {D : Disp} (hD : DOK IrP IrG D) (k : Nat) {args : List AV} {S : St} {K : AV → St → Prop} (h : A35_0 D (J35 D k) args S K) : CallE IrP IrG 35 args S K := by
  have hr := A35_0_ok hD (J35_ok hD k) h
  have hl : args.length = 2 := Nat.eq_of_beq_eq_true (req_and h).1
  refine callOK_of (fn := Go.Proofs.Try.f35) (c := (match Go.Proofs.Try.f35.body with | some c => c | none => .skip)) (by kernel_rfl) (by kernel_rfl) (by kernel_rfl) (by rw [hl]; kernel_rfl) (by kernel_rfl) ?_
  rw [hl]
  exact hr
noncomputable def plans36 (i : Nat) : Plan := []
noncomputable def T36 (p : Nat) : List Item × List Nat := bif Nat.beq p 0 then ([.code (match Go.Proofs.Try.f36.body with | some c => c | none => .skip)], [0, 1, 2]) else
  bif Nat.beq p 6 then (navs [.op, .op, .el, .op] [.code (match Go.Proofs.Try.f36.body with | some c => c | none => .skip)], [1, 2, 15, 16, 17]) else
  ([], [])
noncomputable def X36_0 : X := (.op (.op (.br (.op .ret) (.op (.jmp 6 [1, 2, 15, 16, 17])))))
noncomputable def X36_6 : X := (.op (.br (.op (.op (.op (.br (.op .ret) (.op (.jmp 6 [1, 2, 15, 16, 17])))))) (.op .ret)))
noncomputable def A36_0 (D J : Disp) (vals : List AV) (S : St) (K : AV → St → Prop) : Prop := req (Nat.beq vals.length 3) (execK IrP IrG Go.Proofs.Try.f36 (typed IrP D) J plans36 X36_0 (T36 0).1 (envOf (T36 0).2 vals) S K)
theorem A36_0_ok {D J : Disp} (hD : DOK IrP IrG D) (hJ : JOK IrP IrG Go.Proofs.Try.f36 T36 J) {vals : List AV} {S : St} {K : AV → St → Prop} (h0 : A36_0 D J vals S K) : Runs IrP IrG Go.Proofs.Try.f36 (T36 0).1 (envOf (T36 0).2 vals) S K :=
  execK_runs hD.typed Ir_zero Ir_mixed hJ X36_0 (T36 0).1 (envOf (T36 0).2 vals) S K (chk_of (by kernel_rfl) (by kernel_rfl)) (req_and h0).2
noncomputable def A36_6 (D J : Disp) (vals : List AV) (S : St) (K : AV → St → Prop) : Prop := req (Nat.beq vals.length 5) (execK IrP IrG Go.Proofs.Try.f36 (typed IrP D) J plans36 X36_6 (T36 6).1 (envOf (T36 6).2 vals) S K)
theorem A36_6_ok {D J : Disp} (hD : DOK IrP IrG D) (hJ : JOK IrP IrG Go.Proofs.Try.f36 T36 J) {vals : List AV} {S : St} {K : AV → St → Prop} (h0 : A36_6 D J vals S K) : Runs IrP IrG Go.Proofs.Try.f36 (T36 6).1 (envOf (T36 6).2 vals) S K :=
  execK_runs hD.typed Ir_zero Ir_mixed hJ X36_6 (T36 6).1 (envOf (T36 6).2 vals) S K (chk_of (by kernel_rfl) (by kernel_rfl)) (req_and h0).2
noncomputable def J36 (D : Disp) (k : Nat) : Disp := Nat.rec (motive := fun _ => Disp) Disp.no (fun _ ih => Disp.add 0 (A36_0 D ih) <| Disp.add 6 (A36_6 D ih) <| Disp.no) k
theorem J36_ok {D : Disp} (hD : DOK IrP IrG D) : ∀ k, JOK IrP IrG Go.Proofs.Try.f36 T36 (J36 D k)
  | 0 => JOK.no
  | k + 1 => JOK.add (ltB_ok (by kernel_rfl)) (fun vals S K h => A36_0_ok hD (J36_ok hD k) h) <| JOK.add (ltB_ok (by kernel_rfl)) (fun vals S K h => A36_6_ok hD (J36_ok hD k) h) <| JOK.no
theorem E36_ok {D : Disp} (hD : DOK IrP IrG D) (k : Nat) {args : List AV} {S : St} {K : AV → St → Prop} (h : A36_0 D (J36 D k) args S K) : CallE IrP IrG 36 args S K := by
  have hr := A36_0_ok hD (J36_ok hD k) h
  have hl : args.length = 3 := Nat.eq_of_beq_eq_true (req_and h).1
  refine callOK_of (fn := Go.Proofs.Try.f36) (c := (match Go.Proofs.Try.f36.body with | some c => c | none => .skip)) (by kernel_rfl) (by kernel_rfl) (by kernel_rfl) (by rw [hl]; kernel_rfl) (by kernel_rfl) ?_
  rw [hl]
  exact hr
noncomputable def plans37 (i : Nat) : Plan := []
noncomputable def T37 (p : Nat) : List Item × List Nat := bif Nat.beq p 0 then ([.code (match Go.Proofs.Try.f37.body with | some c => c | none => .skip)], [0, 1]) else
  ([], [])
noncomputable def X37_0 : X := (.op (.op .ret))
noncomputable def A37_0 (D J : Disp) (vals : List AV) (S : St) (K : AV → St → Prop) : Prop := req (Nat.beq vals.length 2) (execK IrP IrG Go.Proofs.Try.f37 (typed IrP D) J plans37 X37_0 (T37 0).1 (envOf (T37 0).2 vals) S K)
theorem A37_0_ok {D J : Disp} (hD : DOK IrP IrG D) (hJ : JOK IrP IrG Go.Proofs.Try.f37 T37 J) {vals : List AV} {S : St} {K : AV → St → Prop} (h0 : A37_0 D J vals S K) : Runs IrP IrG Go.Proofs.Try.f37 (T37 0).1 (envOf (T37 0).2 vals) S K :=
  execK_runs hD.typed Ir_zero Ir_mixed hJ X37_0 (T37 0).1 (envOf (T37 0).2 vals) S K (chk_of (by kernel_rfl) (by kernel_rfl)) (req_and h0).2
noncomputable def J37 (D : Disp) (k : Nat) : Disp := Nat.rec (motive := fun _ => Disp) Disp.no (fun _ ih => Disp.add 0 (A37_0 D ih) <| Disp.no) k
theorem J37_ok {D : Disp} (hD : DOK IrP IrG D) : ∀ k, JOK IrP IrG Go.Proofs.Try.f37 T37 (J37 D k)
  | 0 => JOK.no
  | k + 1 => JOK.add (ltB_ok (by kernel_rfl)) (fun vals S K h => A37_0_ok hD (J37_ok hD k) h) <| JOK.no
theorem E37_ok {D : Disp} (hD : DOK IrP IrG D) (k : Nat) {args : List AV} {S : St} {K : AV → St → Prop} (h : A37_0 D (J37 D k) args S K) : CallE IrP IrG 37 args S K := by
  have hr := A37_0_ok hD (J37_ok hD k) h
  have hl : args.length = 2 := Nat.eq_of_beq_eq_true (req_and h).1
  refine callOK_of (fn := Go.Proofs.Try.f37) (c := (match Go.Proofs.Try.f37.body with | some c => c | none => .skip)) (by kernel_rfl) (by kernel_rfl) (by kernel_rfl) (by rw [hl]; kernel_rfl) (by kernel_rfl) ?_
  rw [hl]
  exact hr
noncomputable def plans38 (i : Nat) : Plan := if Nat.beq i 6 then [(0, []), (1, []), (2, [0, 1]), (3, [2, 0, 1]), (4, []), (5, []), (6, [4, 5]), (7, [6, 4, 5]), (8, [3, 7, 2, 6, 0, 1, 4, 5])] else []
noncomputable def T38 (p : Nat) : List Item × List Nat := bif Nat.beq p 0 then ([.code (match Go.Proofs.Try.f38.body with | some c => c | none => .skip)], [0, 1]) else
  bif Nat.beq p 6 then (navs [.op, .op, .el, .op] [.code (match Go.Proofs.Try.f38.body with | some c => c | none => .skip)], [0, 1, 12, 13]) else
  ([], [])
noncomputable def X38_0 : X := (.op (.op (.br (.op .ret) (.op (.jmp 6 [0, 1, 12, 13])))))
noncomputable def X38_6 : X := (.op (.br (.op (.op (.br (.op .ret) (.op (.jmp 6 [0, 1, 12, 13]))))) (.op .ret)))
noncomputable def A38_0 (D J : Disp) (vals : List AV) (S : St) (K : AV → St → Prop) : Prop := req (Nat.beq vals.length 2) (execK IrP IrG Go.Proofs.Try.f38 (typed IrP D) J plans38 X38_0 (T38 0).1 (envOf (T38 0).2 vals) S K)
theorem A38_0_ok {D J : Disp} (hD : DOK IrP IrG D) (hJ : JOK IrP IrG Go.Proofs.Try.f38 T38 J) {vals : List AV} {S : St} {K : AV → St → Prop} (h0 : A38_0 D J vals S K) : Runs IrP IrG Go.Proofs.Try.f38 (T38 0).1 (envOf (T38 0).2 vals) S K :=
  execK_runs hD.typed Ir_zero Ir_mixed hJ X38_0 (T38 0).1 (envOf (T38 0).2 vals) S K (chk_of (by kernel_rfl) (by kernel_rfl)) (req_and h0).2
noncomputable def A38_6 (D J : Disp) (vals : List AV) (S : St) (K : AV → St → Prop) : Prop := req (Nat.beq vals.length 4) (execK IrP IrG Go.Proofs.Try.f38 (typed IrP D) J plans38 X38_6 (T38 6).1 (envOf (T38 6).2 vals) S K)
theorem A38_6_ok {D J : Disp} (hD : DOK IrP IrG D) (hJ : JOK IrP IrG Go.Proofs.Try.f38 T38 J) {vals : List AV} {S : St} {K : AV → St → Prop} (h0 : A38_6 D J vals S K) : Runs IrP IrG Go.Proofs.Try.f38 (T38 6).1 (envOf (T38 6).2 vals) S K :=
  execK_runs hD.typed Ir_zero Ir_mixed hJ X38_6 (T38 6).1 (envOf (T38 6).2 vals) S K (chk_of (by kernel_rfl) (by kernel_rfl)) (req_and h0).2
noncomputable def J38 (D : Disp) (k : Nat) : Disp := Nat.rec (motive := fun _ => Disp) Disp.no (fun _ ih => Disp.add 0 (A38_0 D ih) <| Disp.add 6 (A38_6 D ih) <| Disp.no) k
theorem J38_ok {D : Disp} (hD : DOK IrP IrG D) : ∀ k, JOK IrP IrG Go.Proofs.Try.f38 T38 (J38 D k)
  | 0 => JOK.no
  | k + 1 => JOK.add (ltB_ok (by kernel_rfl)) (fun vals S K h => A38_0_ok hD (J38_ok hD k) h) <| JOK.add (ltB_ok (by kernel_rfl)) (fun vals S K h => A38_6_ok hD (J38_ok hD k) h) <| JOK.no
theorem E38_ok {D : Disp} (hD : DOK IrP IrG D) (k : Nat) {args : List AV} {S : St} {K : AV → St → Prop} (h : A38_0 D (J38 D k) args S K) : CallE IrP IrG 38 args S K := by
  have hr := A38_0_ok hD (J38_ok hD k) h
  have hl : args.length = 2 := Nat.eq_of_beq_eq_true (req_and h).1
  refine callOK_of (fn := Go.Proofs.Try.f38) (c := (match Go.Proofs.Try.f38.body with | some c => c | none => .skip)) (by kernel_rfl) (by kernel_rfl) (by kernel_rfl) (by rw [hl]; kernel_rfl) (by kernel_rfl) ?_
  rw [hl]
  exact hr
noncomputable def plans40 (i : Nat) : Plan := if Nat.beq i 1 then [(0, []), (1, []), (2, []), (3, [0, 1, 2]), (4, [3, 0, 1, 2]), (5, [4, 0, 1, 2, 3])] else if Nat.beq i 5 then [(0, []), (1, []), (2, [1]), (3, [2, 1]), (4, [3, 2, 1]), (5, []), (6, [5]), (7, [6, 5]), (8, [4, 7, 6, 3, 5, 2, 1]), (9, [0, 1, 2, 3, 4, 5, 6, 7, 8]), (10, [9, 0, 1, 2, 3, 4, 5, 6, 7, 8]), (11, [10, 8, 0, 1, 2, 3, 4, 5, 6, 7, 9])] else if Nat.beq i 10 then [(0, []), (1, []), (2, [1]), (3, [2, 1]), (4, [3, 2, 1]), (5, []), (6, [5]), (7, [6, 5]), (8, [7, 6, 5]), (9, [8, 7, 6, 5]), (10, [9, 8, 7, 6, 5]), (11, [10, 9, 8, 7, 6, 5]), (12, [4, 11, 3, 10, 2, 9, 1, 8, 7, 6, 5]), (13, [0, 1, 2, 3, 4, 5, 6, 7, 8, 9, 10, 11, 12]), (14, [13, 0, 1, 2, 3, 4, 5, 6, 7, 8, 9, 10, 11, 12]), (15, [14, 12, 0, 1, 2, 3, 4, 5, 6, 7, 8, 9, 10, 11, 13])] else if Nat.beq i 11 then [(0, []), (1, []), (2, [1]), (3, [2, 1]), (4, [3, 2, 1]), (5, []), (6, [5]), (7, [6, 5]), (8, [7, 6, 5]), (9, [8, 7, 6, 5]), (10, [9, 8, 7, 6, 5]), (11, [4, 10, 3, 9, 2, 8, 1, 7, 6, 5]), (12, [0, 1, 2, 3, 4, 5, 6, 7, 8, 9, 10, 11]), (13, [12, 0, 1, 2, 3, 4, 5, 6, 7, 8, 9, 10, 11]), (14, [13, 11, 0, 1, 2, 3, 4, 5, 6, 7, 8, 9, 10, 12])] else if Nat.beq i 22 then [(0, []), (1, [0]), (2, [1, 0]), (3, [2, 1, 0]), (4, []), (5, [3, 4, 2, 1, 0]), (6, [5, 3, 4, 2, 1, 0]), (7, [6, 5, 3, 4, 2, 1, 0]), (8, []), (9, [8]), (10, [7, 9, 6, 8, 5, 3, 4, 2, 1, 0]), (11, [10, 0, 1, 2, 3, 4, 5, 6, 7, 8, 9])] else if Nat.beq i 23 then [(0, []), (1, [0]), (2, [1, 0]), (3, [2, 1, 0]), (4, []), (5, []), (6, []), (7, [6]), (8, [5, 7, 6]), (9, [3, 4, 8, 2, 5, 7, 1, 6, 0]), (10, []), (11, [9, 10, 3, 4, 8, 2, 5, 7, 1, 6, 0])] else []
noncomputable def T40 (p : Nat) : List Item × List Nat := bif Nat.beq p 0 then ([.code (match Go.Proofs.Try.f40.body with | some c => c | none => .skip)], [0, 1]) else
  bif Nat.beq p 3 then (navs [.op, .op, .op] [.code (match Go.Proofs.Try.f40.body with | some c => c | none => .skip)], [2, 5, 22, 23, 24]) else
  bif Nat.beq p 9 then (navs [.op, .op, .op, .op, .el, .op] [.code (match Go.Proofs.Try.f40.body with | some c => c | none => .skip)], [2, 5, 41, 42, 43]) else
  bif Nat.beq p 16 then (navs [.op, .op, .op, .op, .el, .op, .op, .el, .op] [.code (match Go.Proofs.Try.f40.body with | some c => c | none => .skip)], [5, 78, 79, 80]) else
  bif Nat.beq p 20 then (navs [.op, .op, .op, .op, .el, .op, .op, .el, .op, .op, .th, .op, .op] [.code (match Go.Proofs.Try.f40.body with | some c => c | none => .skip)], [5, 10, 78, 79, 80, 86, 87, 88]) else
  bif Nat.beq p 27 then (navs [.op, .op, .op, .op, .el, .op, .op, .el, .op, .op, .th, .op, .op, .op, .th, .op, .op, .op, .th, .op] [.code (match Go.Proofs.Try.f40.body with | some c => c | none => .skip)], [5, 10, 13, 14, 78, 79, 80, 86, 87, 88]) else
  ([], [])
noncomputable def F40_q26 (D J : Disp) (S : St) (S300 : St) (o326 : AO) (o328 : AO) (n330 : Nat) (K : AV → St → Prop) : Prop :=
 letK (α := St) ((St.add (St.add S300 o326) o328)) fun S331 =>
 St.at S331 (Bk.new (St.next S)) 1 fun y332 =>
 uncK y332 fun v333 y334 =>
 SV.cL v333 fun y341 =>
 letK (α := Int) ((Int.ofNat (LV.len y341))) fun x342 =>
 J 3 [(AV.one (V1.s (SV.ptr (PV.mk (Bk.new (St.next S)) 0)))), (AV.one (V1.s (SV.ptr (PV.mk (Bk.new n330) 0)))), (AV.one (V1.s (SV.sl y341))), (AV.one (V1.s (SV.int IntKind.i64 x342))), (AV.one (V1.s (SV.int IntKind.i64 (0 : Int))))] S331 K
noncomputable def F40_q27 (D J : Disp) (S : St) (l1 : LV) (S300 : St) (y310 : LV) (y319 : LV) (x325 : Int) (o326 : AO) (d327 : (Sum Nat Nat)) (K : AV → St → Prop) : Prop :=
 letK (α := AO) ((AO.cells [(SV.sl y310), (SV.sl y319), (SV.int IntKind.i64 x325), (SV.sl LV.nil), (SV.sl LV.nil), (SV.sl LV.nil), (SV.sl (LV.mk (Bk.new (St.next S300)) 0 1048576 d327)), (SV.int IntKind.i64 (16777216 : Int)), (SV.sl LV.nil), (SV.sl l1), (SV.int IntKind.i64 (0 : Int)), (SV.int IntKind.i64 (0 : Int)), (SV.sl LV.nil)] (Op2.ty 84))) fun o328 =>
 letK (α := Nat) ((Nat.succ (St.next S300))) fun n329 =>
 letK (α := Nat) ((Nat.succ (St.next S300))) fun n330 =>
 F40_q26 D J S S300 o326 o328 n330 K
noncomputable def F40_0 (D J : Disp) (l0_0 : LV) (l0_1 : LV) (x0_2 : Int) (l1 : LV) (S : St) (K : AV → St → Prop) : Prop :=
 letK (α := St) ((St.add S (AO.cells [(SV.sl l0_0), (SV.sl l0_1), (SV.int IntKind.i64 x0_2)] (Op2.ty 36)))) fun S300 =>
 St.at S300 (Bk.new (St.next S)) 0 fun y301 =>
 uncK y301 fun v302 y303 =>
 SV.cL v302 fun y310 =>
 uncK y303 fun v311 y312 =>
 SV.cL v311 fun y319 =>
 uncK y312 fun v320 y321 =>
 SV.cI IntKind.i64 v320 fun x325 =>
 letK (α := AO) ((rowAO [(SV.int IntKind.u8 (0 : Int))] 1048576)) fun o326 =>
 letK (α := (Sum Nat Nat)) ((Sum.inl 1048576)) fun d327 =>
 F40_q27 D J S l1 S300 y310 y319 x325 o326 d327 K
noncomputable def X40_0 : X := (.op (.op (.op (.jmp 3 [2, 5, 22, 23, 24]))))
theorem F40_0_eq (D J : Disp) (l0_0 : LV) (l0_1 : LV) (x0_2 : Int) (l1 : LV) (S : St) (K : AV → St → Prop) : F40_0 D J l0_0 l0_1 x0_2 l1 S K = execK IrP IrG Go.Proofs.Try.f40 (typed IrP D) J plans40 X40_0 (T40 0).1 (envOf (T40 0).2 [(AV.one (V1.agg [(SV.sl l0_0), (SV.sl l0_1), (SV.int IntKind.i64 x0_2)])), (AV.one (V1.s (SV.sl l1)))]) S K := by kernel_rfl
noncomputable def F40_q28 (D J : Disp) (p2 : PV) (p5 : PV) (l22 : LV) (x23 : Int) (x24 : Int) (y362 : LV) (S406 : St) (y416 : (List Nat)) (x422 : Int) (x428 : Int) (y437 : LV) (y446 : LV) (y450 : Bool) (K : AV → St → Prop) : Prop :=
 letK (α := AO) ((AO.cells [(SV.str y416), (SV.int IntKind.i64 x422), (SV.int IntKind.i64 x428), (SV.sl y437), (SV.sl y446), (SV.bool y450)] Op2.sh)) fun o461 =>
 letK (α := (Sum Nat Nat)) ((Sum.inl 1)) fun d462 =>
 letK (α := St) ((St.add S406 o461)) fun S463 =>
 St.src S463 6 (LV.mk (Bk.new (St.next S406)) 0 1 d462) fun y464 n465 =>
 St.app S463 42 6 88 y362 y464 n465 fun y466 S467 =>
 PV.cs p5 fun b468 n469 =>
 letK (α := Nat) ((n469 + 3)) fun n470 =>
 St.wr S467 b468 n470 [(SV.sl y466)] fun S471 =>
 letK (α := Int) ((iwrap IntKind.i64 (x24 + (1 : Int)))) fun x472 =>
 J 3 [(AV.one (V1.s (SV.ptr p2))), (AV.one (V1.s (SV.ptr p5))), (AV.one (V1.s (SV.sl l22))), (AV.one (V1.s (SV.int IntKind.i64 x23))), (AV.one (V1.s (SV.int IntKind.i64 x472)))] S471 K
noncomputable def F40_q29 (D J : Disp) (p2 : PV) (p5 : PV) (l22 : LV) (x23 : Int) (x24 : Int) (S349 : St) (b350 : Bk) (n352 : Nat) (y362 : LV) (y370 : (List Nat)) (x376 : Int) (x382 : Int) (y391 : LV) (y400 : LV) (y404 : Bool) (K : AV → St → Prop) : Prop :=
 D 58 [(AV.one (V1.agg [(SV.str y370), (SV.int IntKind.i64 x376), (SV.int IntKind.i64 x382), (SV.sl y391), (SV.sl y400), (SV.bool y404)]))] S349 fun v405 S406 =>
 avA v405 fun y409 =>
 req (Nat.beq (List.length y409) 6) <|
 uncK y409 fun v410 y411 =>
 SV.cS v410 fun y416 =>
 uncK y411 fun v417 y418 =>
 SV.cI IntKind.i64 v417 fun x422 =>
 uncK y418 fun v423 y424 =>
 SV.cI IntKind.i64 v423 fun x428 =>
 uncK y424 fun v429 y430 =>
 SV.cL v429 fun y437 =>
 uncK y430 fun v438 y439 =>
 SV.cL v438 fun y446 =>
 uncK y439 fun v447 y448 =>
 SV.cB v447 fun y450 =>
 St.at S406 b350 n352 fun y451 =>
 uncK y451 fun v452 y453 =>
 SV.cL v452 fun y460 =>
 req (sameAV (AV.one (V1.s (SV.sl y460))) (AV.one (V1.s (SV.sl y362)))) <|
 F40_q28 D J p2 p5 l22 x23 x24 y362 S406 y416 x422 x428 y437 y446 y450 K
noncomputable def F40_q30 (D J : Disp) (S : St) (p2 : PV) (p5 : PV) (l22 : LV) (x23 : Int) (x24 : Int) (S349 : St) (b350 : Bk) (n352 : Nat) (y362 : LV) (K : AV → St → Prop) : Prop :=
 St.at S349 (Bk.new (St.next S)) 0 fun y363 =>
 uncK y363 fun v364 y365 =>
 SV.cS v364 fun y370 =>
 uncK y365 fun v371 y372 =>
 SV.cI IntKind.i64 v371 fun x376 =>
 uncK y372 fun v377 y378 =>
 SV.cI IntKind.i64 v377 fun x382 =>
 uncK y378 fun v383 y384 =>
 SV.cL v383 fun y391 =>
 uncK y384 fun v392 y393 =>
 SV.cL v392 fun y400 =>
 uncK y393 fun v401 y402 =>
 SV.cB v401 fun y404 =>
 F40_q29 D J p2 p5 l22 x23 x24 S349 b350 n352 y362 y370 x376 x382 y391 y400 y404 K
noncomputable def F40_q31 (D J : Disp) (S : St) (p2 : PV) (p5 : PV) (l22 : LV) (x23 : Int) (x24 : Int) (y313 : (List Nat)) (x319 : Int) (x325 : Int) (y334 : LV) (y343 : LV) (y347 : Bool) (K : AV → St → Prop) : Prop :=
 letK (α := St) ((St.add S (AO.cells [(SV.str []), (SV.int IntKind.i64 (0 : Int)), (SV.int IntKind.i64 (0 : Int)), (SV.sl LV.nil), (SV.sl LV.nil), (SV.bool Bool.false)] (Op2.ty 42)))) fun S348 =>
 St.wr S348 (Bk.new (St.next S)) 0 [(SV.str y313), (SV.int IntKind.i64 x319), (SV.int IntKind.i64 x325), (SV.sl y334), (SV.sl y343), (SV.bool y347)] fun S349 =>
 PV.cs p5 fun b350 n351 =>
 letK (α := Nat) ((n351 + 3)) fun n352 =>
 St.at S349 b350 n352 fun y353 =>
 uncK y353 fun v354 y355 =>
 SV.cL v354 fun y362 =>
 F40_q30 D J S p2 p5 l22 x23 x24 S349 b350 n352 y362 K
noncomputable def F40_q32 (D J : Disp) (S : St) (p2 : PV) (p5 : PV) (l22 : LV) (x23 : Int) (x24 : Int) (K : AV → St → Prop) : Prop :=
 LV.cs l22 fun b301 n302 n303 y304 =>
 req (Bool.and (ile (0 : Int) x24) (ilt x24 (Int.ofNat n303))) <|
 letK (α := Nat) ((n302 + ((Int.toNat x24) * 6))) fun n305 =>
 St.at S b301 n305 fun y306 =>
 uncK y306 fun v307 y308 =>
 SV.cS v307 fun y313 =>
 uncK y308 fun v314 y315 =>
 SV.cI IntKind.i64 v314 fun x319 =>
 uncK y315 fun v320 y321 =>
 SV.cI IntKind.i64 v320 fun x325 =>
 uncK y321 fun v326 y327 =>
 SV.cL v326 fun y334 =>
 uncK y327 fun v335 y336 =>
 SV.cL v335 fun y343 =>
 uncK y336 fun v344 y345 =>
 SV.cB v344 fun y347 =>
 F40_q31 D J S p2 p5 l22 x23 x24 y313 x319 x325 y334 y343 y347 K
noncomputable def F40_3 (D J : Disp) (p2 : PV) (p5 : PV) (l22 : LV) (x23 : Int) (x24 : Int) (S : St) (K : AV → St → Prop) : Prop :=
 letK (α := Bool) ((ilt x24 x23)) fun c300 =>
 ifK c300
 (F40_q32 D J S p2 p5 l22 x23 x24 K)
 (PV.cs p2 fun b553 n554 =>
 letK (α := Nat) ((n554 + 0)) fun n555 =>
 St.at S b553 n555 fun y556 =>
 uncK y556 fun v557 y558 =>
 SV.cL v557 fun y565 =>
 letK (α := Int) ((Int.ofNat (LV.len y565))) fun x566 =>
 J 9 [(AV.one (V1.s (SV.ptr p2))), (AV.one (V1.s (SV.ptr p5))), (AV.one (V1.s (SV.sl y565))), (AV.one (V1.s (SV.int IntKind.i64 x566))), (AV.one (V1.s (SV.int IntKind.i64 (0 : Int))))] S K)
noncomputable def X40_3 : X := (.op (.br (.op (.op (.op (.jmp 3 [2, 5, 22, 23, 24])))) (.op (.jmp 9 [2, 5, 41, 42, 43]))))
theorem F40_3_eq (D J : Disp) (p2 : PV) (p5 : PV) (l22 : LV) (x23 : Int) (x24 : Int) (S : St) (K : AV → St → Prop) : F40_3 D J p2 p5 l22 x23 x24 S K = execK IrP IrG Go.Proofs.Try.f40 (typed IrP D) J plans40 X40_3 (T40 3).1 (envOf (T40 3).2 [(AV.one (V1.s (SV.ptr p2))), (AV.one (V1.s (SV.ptr p5))), (AV.one (V1.s (SV.sl l22))), (AV.one (V1.s (SV.int IntKind.i64 x23))), (AV.one (V1.s (SV.int IntKind.i64 x24)))]) S K := by kernel_rfl
noncomputable def F40_q33 (D J : Disp) (p2 : PV) (p5 : PV) (l41 : LV) (x42 : Int) (x43 : Int) (S369 : St) (y382 : LV) (x393 : Int) (K : AV → St → Prop) : Prop :=
 req (Bool.and (ile (1 : Int) x393) (Bool.and (ile x393 (1000000 : Int)) Bool.true)) <|
 St.app S369 5 1 1 y382 (rep [(SV.int IntKind.u8 (0 : Int))] (Int.toNat x393)) (Int.toNat x393) fun y394 S395 =>
 PV.cs p5 fun b396 n397 =>
 letK (α := Nat) ((n397 + 5)) fun n398 =>
 St.wr S395 b396 n398 [(SV.sl y394)] fun S399 =>
 letK (α := Int) ((iwrap IntKind.i64 (x43 + (1 : Int)))) fun x400 =>
 J 9 [(AV.one (V1.s (SV.ptr p2))), (AV.one (V1.s (SV.ptr p5))), (AV.one (V1.s (SV.sl l41))), (AV.one (V1.s (SV.int IntKind.i64 x42))), (AV.one (V1.s (SV.int IntKind.i64 x400)))] S399 K
noncomputable def F40_q34 (D J : Disp) (S : St) (p2 : PV) (p5 : PV) (l41 : LV) (x42 : Int) (x43 : Int) (S369 : St) (b370 : Bk) (n372 : Nat) (K : AV → St → Prop) : Prop :=
 St.at S369 b370 n372 fun y373 =>
 uncK y373 fun v374 y375 =>
 SV.cL v374 fun y382 =>
 St.at S369 (Bk.new (St.next S)) 1 fun y383 =>
 uncK y383 fun v384 y385 =>
 SV.cI IntKind.i64 v384 fun x389 =>
 letK (α := Int) ((iwrap IntKind.i64 (x389 + (16 : Int)))) fun x390 =>
 letK (α := Int) ((iwrap IntKind.i64 (x390 - (1 : Int)))) fun x391 =>
 letK (α := Int) ((iwrap IntKind.i64 (Int.tdiv x391 (16 : Int)))) fun x392 =>
 letK (α := Int) ((iwrap IntKind.i64 (x392 * (16 : Int)))) fun x393 =>
 F40_q33 D J p2 p5 l41 x42 x43 S369 y382 x393 K
noncomputable def F40_q35 (D J : Disp) (S : St) (p2 : PV) (p5 : PV) (l41 : LV) (x42 : Int) (x43 : Int) (S330 : St) (y343 : LV) (x358 : Int) (K : AV → St → Prop) : Prop :=
 letK (α := AO) ((AO.cells [(SV.int IntKind.i64 x358)] Op2.sh)) fun o359 =>
 letK (α := (Sum Nat Nat)) ((Sum.inl 1)) fun d360 =>
 letK (α := St) ((St.add S330 o359)) fun S361 =>
 St.src S361 1 (LV.mk (Bk.new (St.next S330)) 0 1 d360) fun y362 n363 =>
 St.app S361 3 1 8 y343 y362 n363 fun y364 S365 =>
 PV.cs p5 fun b366 n367 =>
 letK (α := Nat) ((n367 + 4)) fun n368 =>
 St.wr S365 b366 n368 [(SV.sl y364)] fun S369 =>
 PV.cs p5 fun b370 n371 =>
 letK (α := Nat) ((n371 + 5)) fun n372 =>
 F40_q34 D J S p2 p5 l41 x42 x43 S369 b370 n372 K
noncomputable def F40_q36 (D J : Disp) (S : St) (p2 : PV) (p5 : PV) (l41 : LV) (x42 : Int) (x43 : Int) (S330 : St) (K : AV → St → Prop) : Prop :=
 PV.cs p5 fun b331 n332 =>
 letK (α := Nat) ((n332 + 4)) fun n333 =>
 St.at S330 b331 n333 fun y334 =>
 uncK y334 fun v335 y336 =>
 SV.cL v335 fun y343 =>
 PV.cs p5 fun b344 n345 =>
 letK (α := Nat) ((n345 + 5)) fun n346 =>
 St.at S330 b344 n346 fun y347 =>
 uncK y347 fun v348 y349 =>
 SV.cL v348 fun y356 =>
 letK (α := Int) ((Int.ofNat (LV.len y356))) fun x357 =>
 letK (α := Int) ((iwrap IntKind.i64 ((65536 : Int) + x357))) fun x358 =>
 F40_q35 D J S p2 p5 l41 x42 x43 S330 y343 x358 K
noncomputable def F40_q37 (D J : Disp) (S : St) (p2 : PV) (p5 : PV) (l41 : LV) (x42 : Int) (x43 : Int) (b301 : Bk) (n305 : Nat) (K : AV → St → Prop) : Prop :=
 St.at S b301 n305 fun y306 =>
 uncK y306 fun v307 y308 =>
 SV.cS v307 fun y313 =>
 uncK y308 fun v314 y315 =>
 SV.cI IntKind.i64 v314 fun x319 =>
 uncK y315 fun v320 y321 =>
 SV.cL v320 fun y328 =>
 letK (α := St) ((St.add S (AO.cells [(SV.str []), (SV.int IntKind.i64 (0 : Int)), (SV.sl LV.nil)] (Op2.ty 49)))) fun S329 =>
 St.wr S329 (Bk.new (St.next S)) 0 [(SV.str y313), (SV.int IntKind.i64 x319), (SV.sl y328)] fun S330 =>
 F40_q36 D J S p2 p5 l41 x42 x43 S330 K
noncomputable def F40_q38 (D J : Disp) (S : St) (p2 : PV) (p5 : PV) (l41 : LV) (x42 : Int) (x43 : Int) (c300 : Bool) (K : AV → St → Prop) : Prop :=
 ifK c300
 (LV.cs l41 fun b301 n302 n303 y304 =>
 req (Bool.and (ile (0 : Int) x43) (ilt x43 (Int.ofNat n303))) <|
 letK (α := Nat) ((n302 + ((Int.toNat x43) * 3))) fun n305 =>
 F40_q37 D J S p2 p5 l41 x42 x43 b301 n305 K)
 (PV.cs p2 fun b423 n424 =>
 letK (α := Nat) ((n424 + 0)) fun n425 =>
 St.at S b423 n425 fun y426 =>
 uncK y426 fun v427 y428 =>
 SV.cL v427 fun y435 =>
 letK (α := Int) ((Int.ofNat (LV.len y435))) fun x436 =>
 J 16 [(AV.one (V1.s (SV.ptr p5))), (AV.one (V1.s (SV.sl y435))), (AV.one (V1.s (SV.int IntKind.i64 x436))), (AV.one (V1.s (SV.int IntKind.i64 (0 : Int))))] S K)
noncomputable def F40_9 (D J : Disp) (p2 : PV) (p5 : PV) (l41 : LV) (x42 : Int) (x43 : Int) (S : St) (K : AV → St → Prop) : Prop :=
 letK (α := Bool) ((ilt x43 x42)) fun c300 =>
 F40_q38 D J S p2 p5 l41 x42 x43 c300 K
noncomputable def X40_9 : X := (.op (.br (.op (.op (.op (.op (.jmp 9 [2, 5, 41, 42, 43]))))) (.op (.jmp 16 [5, 78, 79, 80]))))
theorem F40_9_eq (D J : Disp) (p2 : PV) (p5 : PV) (l41 : LV) (x42 : Int) (x43 : Int) (S : St) (K : AV → St → Prop) : F40_9 D J p2 p5 l41 x42 x43 S K = execK IrP IrG Go.Proofs.Try.f40 (typed IrP D) J plans40 X40_9 (T40 9).1 (envOf (T40 9).2 [(AV.one (V1.s (SV.ptr p2))), (AV.one (V1.s (SV.ptr p5))), (AV.one (V1.s (SV.sl l41))), (AV.one (V1.s (SV.int IntKind.i64 x42))), (AV.one (V1.s (SV.int IntKind.i64 x43)))]) S K := by kernel_rfl
noncomputable def F40_q39 (D J : Disp) (S : St) (p5 : PV) (l78 : LV) (x79 : Int) (x80 : Int) (S330 : St) (K : AV → St → Prop) : Prop :=
 St.at S330 (Bk.new (St.next S)) 2 fun y331 =>
 uncK y331 fun v332 y333 =>
 SV.cL v332 fun y340 =>
 letK (α := Int) ((Int.ofNat (LV.len y340))) fun x341 =>
 J 20 [(AV.one (V1.s (SV.ptr p5))), (AV.one (V1.s (SV.int IntKind.i64 x80))), (AV.one (V1.s (SV.sl l78))), (AV.one (V1.s (SV.int IntKind.i64 x79))), (AV.one (V1.s (SV.int IntKind.i64 x80))), (AV.one (V1.s (SV.sl y340))), (AV.one (V1.s (SV.int IntKind.i64 x341))), (AV.one (V1.s (SV.int IntKind.i64 (0 : Int))))] S330 K
noncomputable def F40_q40 (D J : Disp) (S : St) (p5 : PV) (l78 : LV) (x79 : Int) (x80 : Int) (b301 : Bk) (n305 : Nat) (K : AV → St → Prop) : Prop :=
 St.at S b301 n305 fun y306 =>
 uncK y306 fun v307 y308 =>
 SV.cS v307 fun y313 =>
 uncK y308 fun v314 y315 =>
 SV.cI IntKind.i64 v314 fun x319 =>
 uncK y315 fun v320 y321 =>
 SV.cL v320 fun y328 =>
 letK (α := St) ((St.add S (AO.cells [(SV.str []), (SV.int IntKind.i64 (0 : Int)), (SV.sl LV.nil)] (Op2.ty 49)))) fun S329 =>
 St.wr S329 (Bk.new (St.next S)) 0 [(SV.str y313), (SV.int IntKind.i64 x319), (SV.sl y328)] fun S330 =>
 F40_q39 D J S p5 l78 x79 x80 S330 K
noncomputable def F40_16 (D J : Disp) (p5 : PV) (l78 : LV) (x79 : Int) (x80 : Int) (S : St) (K : AV → St → Prop) : Prop :=
 letK (α := Bool) ((ilt x80 x79)) fun c300 =>
 ifK c300
 (LV.cs l78 fun b301 n302 n303 y304 =>
 req (Bool.and (ile (0 : Int) x80) (ilt x80 (Int.ofNat n303))) <|
 letK (α := Nat) ((n302 + ((Int.toNat x80) * 3))) fun n305 =>
 F40_q40 D J S p5 l78 x79 x80 b301 n305 K)
 (K ((AV.one (V1.s (SV.ptr p5)))) S)
noncomputable def X40_16 : X := (.op (.br (.op (.op (.jmp 20 [5, 10, 78, 79, 80, 86, 87, 88]))) (.op .ret)))
theorem F40_16_eq (D J : Disp) (p5 : PV) (l78 : LV) (x79 : Int) (x80 : Int) (S : St) (K : AV → St → Prop) : F40_16 D J p5 l78 x79 x80 S K = execK IrP IrG Go.Proofs.Try.f40 (typed IrP D) J plans40 X40_16 (T40 16).1 (envOf (T40 16).2 [(AV.one (V1.s (SV.ptr p5))), (AV.one (V1.s (SV.sl l78))), (AV.one (V1.s (SV.int IntKind.i64 x79))), (AV.one (V1.s (SV.int IntKind.i64 x80)))]) S K := by kernel_rfl
noncomputable def F40_q41 (D J : Disp) (S : St) (p5 : PV) (x10 : Int) (l78 : LV) (x79 : Int) (x80 : Int) (l86 : LV) (x87 : Int) (x88 : Int) (S332 : St) (x355 : Int) (K : AV → St → Prop) : Prop :=
 D 59 [(AV.one (V1.s (SV.int IntKind.i64 x355)))] S332 fun v356 S357 =>
 scK v356 fun v359 =>
 SV.cI IntKind.i64 v359 fun x362 =>
 J 27 [(AV.one (V1.s (SV.ptr p5))), (AV.one (V1.s (SV.int IntKind.i64 x10))), (AV.one (V1.s (SV.ptr (PV.mk (Bk.new (St.next S)) 0)))), (AV.one (V1.s (SV.int IntKind.i64 x362))), (AV.one (V1.s (SV.sl l78))), (AV.one (V1.s (SV.int IntKind.i64 x79))), (AV.one (V1.s (SV.int IntKind.i64 x80))), (AV.one (V1.s (SV.sl l86))), (AV.one (V1.s (SV.int IntKind.i64 x87))), (AV.one (V1.s (SV.int IntKind.i64 x88)))] S357 K
noncomputable def F40_q42 (D J : Disp) (S : St) (p5 : PV) (x10 : Int) (l78 : LV) (x79 : Int) (x80 : Int) (l86 : LV) (x87 : Int) (x88 : Int) (S332 : St) (x339 : Int) (c347 : Bool) (K : AV → St → Prop) : Prop :=
 ifK c347
 (St.at S332 (Bk.new (St.next S)) 2 fun y348 =>
 uncK y348 fun v349 y350 =>
 SV.cI IntKind.i64 v349 fun x354 =>
 letK (α := Int) ((iwrap IntKind.i64 (x354 - (1 : Int)))) fun x355 =>
 F40_q41 D J S p5 x10 l78 x79 x80 l86 x87 x88 S332 x355 K)
 (J 27 [(AV.one (V1.s (SV.ptr p5))), (AV.one (V1.s (SV.int IntKind.i64 x10))), (AV.one (V1.s (SV.ptr (PV.mk (Bk.new (St.next S)) 0)))), (AV.one (V1.s (SV.int IntKind.i64 x339))), (AV.one (V1.s (SV.sl l78))), (AV.one (V1.s (SV.int IntKind.i64 x79))), (AV.one (V1.s (SV.int IntKind.i64 x80))), (AV.one (V1.s (SV.sl l86))), (AV.one (V1.s (SV.int IntKind.i64 x87))), (AV.one (V1.s (SV.int IntKind.i64 x88)))] S332 K)
noncomputable def F40_q43 (D J : Disp) (S : St) (p5 : PV) (x10 : Int) (l78 : LV) (x79 : Int) (x80 : Int) (l86 : LV) (x87 : Int) (x88 : Int) (x312 : Int) (x318 : Int) (x324 : Int) (x330 : Int) (S331 : St) (K : AV → St → Prop) : Prop :=
 St.wr S331 (Bk.new (St.next S)) 0 [(SV.int IntKind.i64 x312), (SV.int IntKind.i64 x318), (SV.int IntKind.i64 x324), (SV.int IntKind.i64 x330)] fun S332 =>
 St.at S332 (Bk.new (St.next S)) 3 fun y333 =>
 uncK y333 fun v334 y335 =>
 SV.cI IntKind.i64 v334 fun x339 =>
 St.at S332 (Bk.new (St.next S)) 2 fun y340 =>
 uncK y340 fun v341 y342 =>
 SV.cI IntKind.i64 v341 fun x346 =>
 letK (α := Bool) ((ilt (0 : Int) x346)) fun c347 =>
 F40_q42 D J S p5 x10 l78 x79 x80 l86 x87 x88 S332 x339 c347 K
noncomputable def F40_q44 (D J : Disp) (S : St) (p5 : PV) (x10 : Int) (l78 : LV) (x79 : Int) (x80 : Int) (l86 : LV) (x87 : Int) (x88 : Int) (b301 : Bk) (n305 : Nat) (K : AV → St → Prop) : Prop :=
 St.at S b301 n305 fun y306 =>
 uncK y306 fun v307 y308 =>
 SV.cI IntKind.i64 v307 fun x312 =>
 uncK y308 fun v313 y314 =>
 SV.cI IntKind.i64 v313 fun x318 =>
 uncK y314 fun v319 y320 =>
 SV.cI IntKind.i64 v319 fun x324 =>
 uncK y320 fun v325 y326 =>
 SV.cI IntKind.i64 v325 fun x330 =>
 letK (α := St) ((St.add S (AO.cells [(SV.int IntKind.i64 (0 : Int)), (SV.int IntKind.i64 (0 : Int)), (SV.int IntKind.i64 (0 : Int)), (SV.int IntKind.i64 (0 : Int))] (Op2.ty 51)))) fun S331 =>
 F40_q43 D J S p5 x10 l78 x79 x80 l86 x87 x88 x312 x318 x324 x330 S331 K
noncomputable def F40_q45 (D J : Disp) (S : St) (p5 : PV) (x10 : Int) (l78 : LV) (x79 : Int) (x80 : Int) (l86 : LV) (x87 : Int) (x88 : Int) (c300 : Bool) (K : AV → St → Prop) : Prop :=
 ifK c300
 (LV.cs l86 fun b301 n302 n303 y304 =>
 req (Bool.and (ile (0 : Int) x88) (ilt x88 (Int.ofNat n303))) <|
 letK (α := Nat) ((n302 + ((Int.toNat x88) * 4))) fun n305 =>
 F40_q44 D J S p5 x10 l78 x79 x80 l86 x87 x88 b301 n305 K)
 (letK (α := Int) ((iwrap IntKind.i64 (x80 + (1 : Int)))) fun x405 =>
 J 16 [(AV.one (V1.s (SV.ptr p5))), (AV.one (V1.s (SV.sl l78))), (AV.one (V1.s (SV.int IntKind.i64 x79))), (AV.one (V1.s (SV.int IntKind.i64 x405)))] S K)
noncomputable def F40_20 (D J : Disp) (p5 : PV) (x10 : Int) (l78 : LV) (x79 : Int) (x80 : Int) (l86 : LV) (x87 : Int) (x88 : Int) (S : St) (K : AV → St → Prop) : Prop :=
 letK (α := Bool) ((ilt x88 x87)) fun c300 =>
 F40_q45 D J S p5 x10 l78 x79 x80 l86 x87 x88 c300 K
noncomputable def X40_20 : X := (.op (.br (.op (.op (.op (.br (.op (.jmp 27 [5, 10, 13, 14, 78, 79, 80, 86, 87, 88])) (.jmp 27 [5, 10, 13, 14, 78, 79, 80, 86, 87, 88]))))) (.op (.jmp 16 [5, 78, 79, 80]))))
theorem F40_20_eq (D J : Disp) (p5 : PV) (x10 : Int) (l78 : LV) (x79 : Int) (x80 : Int) (l86 : LV) (x87 : Int) (x88 : Int) (S : St) (K : AV → St → Prop) : F40_20 D J p5 x10 l78 x79 x80 l86 x87 x88 S K = execK IrP IrG Go.Proofs.Try.f40 (typed IrP D) J plans40 X40_20 (T40 20).1 (envOf (T40 20).2 [(AV.one (V1.s (SV.ptr p5))), (AV.one (V1.s (SV.int IntKind.i64 x10))), (AV.one (V1.s (SV.sl l78))), (AV.one (V1.s (SV.int IntKind.i64 x79))), (AV.one (V1.s (SV.int IntKind.i64 x80))), (AV.one (V1.s (SV.sl l86))), (AV.one (V1.s (SV.int IntKind.i64 x87))), (AV.one (V1.s (SV.int IntKind.i64 x88)))]) S K := by kernel_rfl
noncomputable def F40_q46 (D J : Disp) (S : St) (p5 : PV) (x10 : Int) (x14 : Int) (l78 : LV) (x79 : Int) (x80 : Int) (l86 : LV) (x87 : Int) (x88 : Int) (K : AV → St → Prop) : Prop :=
 D 60 [(AV.one (V1.s (SV.sl LV.nil))), (AV.one (V1.s (SV.int IntKind.i64 x14)))] S fun v361 S362 =>
 avT v361 fun y364 =>
 endL y364 (letK (α := Int) ((iwrap IntKind.i64 (x88 + (1 : Int)))) fun x365 =>
 J 20 [(AV.one (V1.s (SV.ptr p5))), (AV.one (V1.s (SV.int IntKind.i64 x10))), (AV.one (V1.s (SV.sl l78))), (AV.one (V1.s (SV.int IntKind.i64 x79))), (AV.one (V1.s (SV.int IntKind.i64 x80))), (AV.one (V1.s (SV.sl l86))), (AV.one (V1.s (SV.int IntKind.i64 x87))), (AV.one (V1.s (SV.int IntKind.i64 x365)))] S362 K)
noncomputable def F40_q47 (D J : Disp) (S : St) (p5 : PV) (x10 : Int) (x14 : Int) (l78 : LV) (x79 : Int) (x80 : Int) (l86 : LV) (x87 : Int) (x88 : Int) (b369 : Bk) (n374 : Nat) (n375 : Nat) (d376 : (Sum Nat Nat)) (K : AV → St → Prop) : Prop :=
 D 60 [(AV.one (V1.s (SV.sl (LV.mk b369 n374 n375 d376)))), (AV.one (V1.s (SV.int IntKind.i64 x14)))] S fun v377 S378 =>
 avT v377 fun y380 =>
 endL y380 (letK (α := Int) ((iwrap IntKind.i64 (x88 + (1 : Int)))) fun x381 =>
 J 20 [(AV.one (V1.s (SV.ptr p5))), (AV.one (V1.s (SV.int IntKind.i64 x10))), (AV.one (V1.s (SV.sl l78))), (AV.one (V1.s (SV.int IntKind.i64 x79))), (AV.one (V1.s (SV.int IntKind.i64 x80))), (AV.one (V1.s (SV.sl l86))), (AV.one (V1.s (SV.int IntKind.i64 x87))), (AV.one (V1.s (SV.int IntKind.i64 x381)))] S378 K)
noncomputable def F40_q48 (D J : Disp) (S : St) (p5 : PV) (x10 : Int) (x14 : Int) (l78 : LV) (x79 : Int) (x80 : Int) (l86 : LV) (x87 : Int) (x88 : Int) (b369 : Bk) (n386 : Nat) (n387 : Nat) (d388 : (Sum Nat Nat)) (K : AV → St → Prop) : Prop :=
 D 60 [(AV.one (V1.s (SV.sl (LV.mk b369 n386 n387 d388)))), (AV.one (V1.s (SV.int IntKind.i64 x14)))] S fun v389 S390 =>
 avT v389 fun y392 =>
 endL y392 (letK (α := Int) ((iwrap IntKind.i64 (x88 + (1 : Int)))) fun x393 =>
 J 20 [(AV.one (V1.s (SV.ptr p5))), (AV.one (V1.s (SV.int IntKind.i64 x10))), (AV.one (V1.s (SV.sl l78))), (AV.one (V1.s (SV.int IntKind.i64 x79))), (AV.one (V1.s (SV.int IntKind.i64 x80))), (AV.one (V1.s (SV.sl l86))), (AV.one (V1.s (SV.int IntKind.i64 x87))), (AV.one (V1.s (SV.int IntKind.i64 x393)))] S390 K)
noncomputable def F40_q49 (D J : Disp) (S : St) (p5 : PV) (x10 : Int) (x14 : Int) (l78 : LV) (x79 : Int) (x80 : Int) (l86 : LV) (x87 : Int) (x88 : Int) (x336 : Int) (y349 : LV) (x360 : Int) (K : AV → St → Prop) : Prop :=
 LV.on y349 (req (Bool.and (ile (0 : Int) (oInt (Option.some x336) (0 : Int))) (Bool.and (ile (oInt (Option.some x336) (0 : Int)) (oInt (Option.some x360) (0 : Int))) (ile (oInt (Option.some x360) (0 : Int)) (0 : Int)))) <|
 F40_q46 D J S p5 x10 x14 l78 x79 x80 l86 x87 x88 K) fun b369 n370 n371 y372 =>
 sumOn y372 (fun n373 =>
 req (Bool.and (ile (0 : Int) (oInt (Option.some x336) (0 : Int))) (Bool.and (ile (oInt (Option.some x336) (0 : Int)) (oInt (Option.some x360) (Int.ofNat n371))) (ile (oInt (Option.some x360) (Int.ofNat n371)) (Int.ofNat n373)))) <|
 letK (α := Nat) ((n370 + ((Int.toNat (oInt (Option.some x336) (0 : Int))) * 1))) fun n374 =>
 letK (α := Nat) (((Int.toNat (oInt (Option.some x360) (Int.ofNat n371))) - (Int.toNat (oInt (Option.some x336) (0 : Int))))) fun n375 =>
 letK (α := (Sum Nat Nat)) ((Sum.inl ((Int.toNat (oInt Option.none (Int.ofNat n373))) - (Int.toNat (oInt (Option.some x336) (0 : Int)))))) fun d376 =>
 F40_q47 D J S p5 x10 x14 l78 x79 x80 l86 x87 x88 b369 n374 n375 d376 K) fun y385 =>
 req (Nat.beq 1 y385) <|
 req (Bool.and (ile (0 : Int) (oInt (Option.some x336) (0 : Int))) (Bool.and (ile (oInt (Option.some x336) (0 : Int)) (oInt (Option.some x360) (Int.ofNat n371))) (ile (oInt (Option.some x360) (Int.ofNat n371)) (Int.ofNat n371)))) <|
 letK (α := Nat) ((n370 + ((Int.toNat (oInt (Option.some x336) (0 : Int))) * 1))) fun n386 =>
 letK (α := Nat) (((Int.toNat (oInt (Option.some x360) (Int.ofNat n371))) - (Int.toNat (oInt (Option.some x336) (0 : Int))))) fun n387 =>
 letK (α := (Sum Nat Nat)) ((Sum.inr 1)) fun d388 =>
 F40_q48 D J S p5 x10 x14 l78 x79 x80 l86 x87 x88 b369 n386 n387 d388 K
noncomputable def F40_q50 (D J : Disp) (S : St) (p5 : PV) (x10 : Int) (p13 : PV) (x14 : Int) (l78 : LV) (x79 : Int) (x80 : Int) (l86 : LV) (x87 : Int) (x88 : Int) (x325 : Int) (x335 : Int) (K : AV → St → Prop) : Prop :=
 letK (α := Int) ((iwrap IntKind.i64 (x325 + x335))) fun x336 =>
 PV.cs p5 fun b337 n338 =>
 letK (α := Nat) ((n338 + 5)) fun n339 =>
 St.at S b337 n339 fun y340 =>
 uncK y340 fun v341 y342 =>
 SV.cL v341 fun y349 =>
 PV.cs p13 fun b350 n351 =>
 letK (α := Nat) ((n351 + 1)) fun n352 =>
 St.at S b350 n352 fun y353 =>
 uncK y353 fun v354 y355 =>
 SV.cI IntKind.i64 v354 fun x359 =>
 letK (α := Int) ((iwrap IntKind.i64 (x336 + x359))) fun x360 =>
 F40_q49 D J S p5 x10 x14 l78 x79 x80 l86 x87 x88 x336 y349 x360 K
noncomputable def F40_q51 (D J : Disp) (S : St) (p5 : PV) (x10 : Int) (p13 : PV) (x14 : Int) (l78 : LV) (x79 : Int) (x80 : Int) (l86 : LV) (x87 : Int) (x88 : Int) (y312 : LV) (K : AV → St → Prop) : Prop :=
 LV.cs y312 fun b313 n314 n315 y316 =>
 req (Bool.and (ile (0 : Int) x10) (ilt x10 (Int.ofNat n315))) <|
 letK (α := Nat) ((n314 + ((Int.toNat x10) * 1))) fun n317 =>
 St.at S b313 n317 fun y318 =>
 uncK y318 fun v319 y320 =>
 SV.cI IntKind.i64 v319 fun x324 =>
 letK (α := Int) ((iwrap IntKind.i64 (x324 - (65536 : Int)))) fun x325 =>
 PV.cs p13 fun b326 n327 =>
 letK (α := Nat) ((n327 + 0)) fun n328 =>
 St.at S b326 n328 fun y329 =>
 uncK y329 fun v330 y331 =>
 SV.cI IntKind.i64 v330 fun x335 =>
 F40_q50 D J S p5 x10 p13 x14 l78 x79 x80 l86 x87 x88 x325 x335 K
noncomputable def F40_27 (D J : Disp) (p5 : PV) (x10 : Int) (p13 : PV) (x14 : Int) (l78 : LV) (x79 : Int) (x80 : Int) (l86 : LV) (x87 : Int) (x88 : Int) (S : St) (K : AV → St → Prop) : Prop :=
 PV.cs p5 fun b300 n301 =>
 letK (α := Nat) ((n301 + 4)) fun n302 =>
 St.at S b300 n302 fun y303 =>
 uncK y303 fun v304 y305 =>
 SV.cL v304 fun y312 =>
 F40_q51 D J S p5 x10 p13 x14 l78 x79 x80 l86 x87 x88 y312 K
noncomputable def X40_27 : X := (.op (.op (.op (.jmp 20 [5, 10, 78, 79, 80, 86, 87, 88]))))
theorem F40_27_eq (D J : Disp) (p5 : PV) (x10 : Int) (p13 : PV) (x14 : Int) (l78 : LV) (x79 : Int) (x80 : Int) (l86 : LV) (x87 : Int) (x88 : Int) (S : St) (K : AV → St → Prop) : F40_27 D J p5 x10 p13 x14 l78 x79 x80 l86 x87 x88 S K = execK IrP IrG Go.Proofs.Try.f40 (typed IrP D) J plans40 X40_27 (T40 27).1 (envOf (T40 27).2 [(AV.one (V1.s (SV.ptr p5))), (AV.one (V1.s (SV.int IntKind.i64 x10))), (AV.one (V1.s (SV.ptr p13))), (AV.one (V1.s (SV.int IntKind.i64 x14))), (AV.one (V1.s (SV.sl l78))), (AV.one (V1.s (SV.int IntKind.i64 x79))), (AV.one (V1.s (SV.int IntKind.i64 x80))), (AV.one (V1.s (SV.sl l86))), (AV.one (V1.s (SV.int IntKind.i64 x87))), (AV.one (V1.s (SV.int IntKind.i64 x88)))]) S K := by kernel_rfl
noncomputable abbrev A40_0 (D J : Disp) (vals : List AV) (S : St) (K : AV → St → Prop) : Prop :=
  uncA vals fun a9001 r9002 => avA a9001 fun l9004 => uncK l9004 fun s9006 r9007 => SV.cL s9006 fun l0_0 => uncK r9007 fun s9010 r9011 => SV.cL s9010 fun l0_1 => uncK r9011 fun s9014 r9015 => SV.cI IntKind.i64 s9014 fun x0_2 => endL r9015 <| uncA r9002 fun a9019 r9020 => scK a9019 fun s9022 => SV.cL s9022 fun l1 => endL r9020 <| F40_0 D J l0_0 l0_1 x0_2 l1 S K
theorem A40_0_ok {D J : Disp} (hD : DOK IrP IrG D) (hJ : JOK IrP IrG Go.Proofs.Try.f40 T40 J) {vals : List AV} {S : St} {K : AV → St → Prop} (h0 : A40_0 D J vals S K) : Runs IrP IrG Go.Proofs.Try.f40 (T40 0).1 (envOf (T40 0).2 vals) S K := by
  obtain ⟨a9001, r9002, rfl, h3⟩ := uncA_some h0
  obtain ⟨l9004, rfl, h5⟩ := avA_some h3
  obtain ⟨s9006, r9007, rfl, h8⟩ := uncK_some h5
  obtain ⟨l0_0, rfl, h9⟩ := cL_some h8
  obtain ⟨s9010, r9011, rfl, h12⟩ := uncK_some h9
  obtain ⟨l0_1, rfl, h13⟩ := cL_some h12
  obtain ⟨s9014, r9015, rfl, h16⟩ := uncK_some h13
  obtain ⟨x0_2, rfl, h17⟩ := cI_some h16
  obtain ⟨rfl, h18⟩ := endL_some h17
  obtain ⟨a9019, r9020, rfl, h21⟩ := uncA_some h18
  obtain ⟨s9022, rfl, h23⟩ := scK_some h21
  obtain ⟨l1, rfl, h24⟩ := cL_some h23
  obtain ⟨rfl, h25⟩ := endL_some h24
  have hq := Eq.mp (F40_0_eq D J l0_0 l0_1 x0_2 l1 S K) h25
  exact execK_runs hD.typed Ir_zero Ir_mixed hJ X40_0 (T40 0).1 (envOf (T40 0).2 _) S K (chk_of (by kernel_rfl) (by kernel_rfl)) hq
noncomputable abbrev A40_3 (D J : Disp) (vals : List AV) (S : St) (K : AV → St → Prop) : Prop :=
  uncA vals fun a9001 r9002 => scK a9001 fun s9004 => SV.cP s9004 fun p2 => uncA r9002 fun a9007 r9008 => scK a9007 fun s9010 => SV.cP s9010 fun p5 => uncA r9008 fun a9013 r9014 => scK a9013 fun s9016 => SV.cL s9016 fun l22 => uncA r9014 fun a9019 r9020 => scK a9019 fun s9022 => SV.cI IntKind.i64 s9022 fun x23 => uncA r9020 fun a9025 r9026 => scK a9025 fun s9028 => SV.cI IntKind.i64 s9028 fun x24 => endL r9026 <| F40_3 D J p2 p5 l22 x23 x24 S K
theorem A40_3_ok {D J : Disp} (hD : DOK IrP IrG D) (hJ : JOK IrP IrG Go.Proofs.Try.f40 T40 J) {vals : List AV} {S : St} {K : AV → St → Prop} (h0 : A40_3 D J vals S K) : Runs IrP IrG Go.Proofs.Try.f40 (T40 3).1 (envOf (T40 3).2 vals) S K := by
  obtain ⟨a9001, r9002, rfl, h3⟩ := uncA_some h0
  obtain ⟨s9004, rfl, h5⟩ := scK_some h3
  obtain ⟨p2, rfl, h6⟩ := cP_some h5
  obtain ⟨a9007, r9008, rfl, h9⟩ := uncA_some h6
  obtain ⟨s9010, rfl, h11⟩ := scK_some h9
  obtain ⟨p5, rfl, h12⟩ := cP_some h11
  obtain ⟨a9013, r9014, rfl, h15⟩ := uncA_some h12
  obtain ⟨s9016, rfl, h17⟩ := scK_some h15
  obtain ⟨l22, rfl, h18⟩ := cL_some h17
  obtain ⟨a9019, r9020, rfl, h21⟩ := uncA_some h18
  obtain ⟨s9022, rfl, h23⟩ := scK_some h21
  obtain ⟨x23, rfl, h24⟩ := cI_some h23
  obtain ⟨a9025, r9026, rfl, h27⟩ := uncA_some h24
  obtain ⟨s9028, rfl, h29⟩ := scK_some h27
  obtain ⟨x24, rfl, h30⟩ := cI_some h29
  obtain ⟨rfl, h31⟩ := endL_some h30
  have hq := Eq.mp (F40_3_eq D J p2 p5 l22 x23 x24 S K) h31
  exact execK_runs hD.typed Ir_zero Ir_mixed hJ X40_3 (T40 3).1 (envOf (T40 3).2 _) S K (chk_of (by kernel_rfl) (by kernel_rfl)) hq
noncomputable abbrev A40_9 (D J : Disp) (vals : List AV) (S : St) (K : AV → St → Prop) : Prop :=
  uncA vals fun a9001 r9002 => scK a9001 fun s9004 => SV.cP s9004 fun p2 => uncA r9002 fun a9007 r9008 => scK a9007 fun s9010 => SV.cP s9010 fun p5 => uncA r9008 fun a9013 r9014 => scK a9013 fun s9016 => SV.cL s9016 fun l41 => uncA r9014 fun a9019 r9020 => scK a9019 fun s9022 => SV.cI IntKind.i64 s9022 fun x42 => uncA r9020 fun a9025 r9026 => scK a9025 fun s9028 => SV.cI IntKind.i64 s9028 fun x43 => endL r9026 <| F40_9 D J p2 p5 l41 x42 x43 S K
theorem A40_9_ok {D J : Disp} (hD : DOK IrP IrG D) (hJ : JOK IrP IrG Go.Proofs.Try.f40 T40 J) {vals : List AV} {S : St} {K : AV → St → Prop} (h0 : A40_9 D J vals S K) : Runs IrP IrG Go.Proofs.Try.f40 (T40 9).1 (envOf (T40 9).2 vals) S K := by
  obtain ⟨a9001, r9002, rfl, h3⟩ := uncA_some h0
  obtain ⟨s9004, rfl, h5⟩ := scK_some h3
  obtain ⟨p2, rfl, h6⟩ := cP_some h5
  obtain ⟨a9007, r9008, rfl, h9⟩ := uncA_some h6
  obtain ⟨s9010, rfl, h11⟩ := scK_some h9
  obtain ⟨p5, rfl, h12⟩ := cP_some h11
  obtain ⟨a9013, r9014, rfl, h15⟩ := uncA_some h12
  obtain ⟨s9016, rfl, h17⟩ := scK_some h15
  obtain ⟨l41, rfl, h18⟩ := cL_some h17
  obtain ⟨a9019, r9020, rfl, h21⟩ := uncA_some h18
  obtain ⟨s9022, rfl, h23⟩ := scK_some h21
  obtain ⟨x42, rfl, h24⟩ := cI_some h23
  obtain ⟨a9025, r9026, rfl, h27⟩ := uncA_some h24
  obtain ⟨s9028, rfl, h29⟩ := scK_some h27
  obtain ⟨x43, rfl, h30⟩ := cI_some h29
  obtain ⟨rfl, h31⟩ := endL_some h30
  have hq := Eq.mp (F40_9_eq D J p2 p5 l41 x42 x43 S K) h31
  exact execK_runs hD.typed Ir_zero Ir_mixed hJ X40_9 (T40 9).1 (envOf (T40 9).2 _) S K (chk_of (by kernel_rfl) (by kernel_rfl)) hq
noncomputable abbrev A40_16 (D J : Disp) (vals : List AV) (S : St) (K : AV → St → Prop) : Prop :=
  uncA vals fun a9001 r9002 => scK a9001 fun s9004 => SV.cP s9004 fun p5 => uncA r9002 fun a9007 r9008 => scK a9007 fun s9010 => SV.cL s9010 fun l78 => uncA r9008 fun a9013 r9014 => scK a9013 fun s9016 => SV.cI IntKind.i64 s9016 fun x79 => uncA r9014 fun a9019 r9020 => scK a9019 fun s9022 => SV.cI IntKind.i64 s9022 fun x80 => endL r9020 <| F40_16 D J p5 l78 x79 x80 S K
theorem A40_16_ok {D J : Disp} (hD : DOK IrP IrG D) (hJ : JOK IrP IrG Go.Proofs.Try.f40 T40 J) {vals : List AV} {S : St} {K : AV → St → Prop} (h0 : A40_16 D J vals S K) : Runs IrP IrG Go.Proofs.Try.f40 (T40 16).1 (envOf (T40 16).2 vals) S K := by
  obtain ⟨a9001, r9002, rfl, h3⟩ := uncA_some h0
  obtain ⟨s9004, rfl, h5⟩ := scK_some h3
  obtain ⟨p5, rfl, h6⟩ := cP_some h5
  obtain ⟨a9007, r9008, rfl, h9⟩ := uncA_some h6
  obtain ⟨s9010, rfl, h11⟩ := scK_some h9
  obtain ⟨l78, rfl, h12⟩ := cL_some h11
  obtain ⟨a9013, r9014, rfl, h15⟩ := uncA_some h12
  obtain ⟨s9016, rfl, h17⟩ := scK_some h15
  obtain ⟨x79, rfl, h18⟩ := cI_some h17
  obtain ⟨a9019, r9020, rfl, h21⟩ := uncA_some h18
  obtain ⟨s9022, rfl, h23⟩ := scK_some h21
  obtain ⟨x80, rfl, h24⟩ := cI_some h23
  obtain ⟨rfl, h25⟩ := endL_some h24
  have hq := Eq.mp (F40_16_eq D J p5 l78 x79 x80 S K) h25
  exact execK_runs hD.typed Ir_zero Ir_mixed hJ X40_16 (T40 16).1 (envOf (T40 16).2 _) S K (chk_of (by kernel_rfl) (by kernel_rfl)) hq
noncomputable abbrev A40_20 (D J : Disp) (vals : List AV) (S : St) (K : AV → St → Prop) : Prop :=
  uncA vals fun a9001 r9002 => scK a9001 fun s9004 => SV.cP s9004 fun p5 => uncA r9002 fun a9007 r9008 => scK a9007 fun s9010 => SV.cI IntKind.i64 s9010 fun x10 => uncA r9008 fun a9013 r9014 => scK a9013 fun s9016 => SV.cL s9016 fun l78 => uncA r9014 fun a9019 r9020 => scK a9019 fun s9022 => SV.cI IntKind.i64 s9022 fun x79 => uncA r9020 fun a9025 r9026 => scK a9025 fun s9028 => SV.cI IntKind.i64 s9028 fun x80 => uncA r9026 fun a9031 r9032 => scK a9031 fun s9034 => SV.cL s9034 fun l86 => uncA r9032 fun a9037 r9038 => scK a9037 fun s9040 => SV.cI IntKind.i64 s9040 fun x87 => uncA r9038 fun a9043 r9044 => scK a9043 fun s9046 => SV.cI IntKind.i64 s9046 fun x88 => endL r9044 <| F40_20 D J p5 x10 l78 x79 x80 l86 x87 x88 S K
theorem A40_20_ok {D J : Disp} (hD : DOK IrP IrG D) (hJ : JOK IrP IrG Go.Proofs.Try.f40 T40 J) {vals : List AV} {S : St} {K : AV → St → Prop} (h0 : A40_20 D J vals S K) : Runs IrP IrG Go.Proofs.Try.f40 (T40 20).1 (envOf (T40 20).2 vals) S K := by
  obtain ⟨a9001, r9002, rfl, h3⟩ := uncA_some h0
  obtain ⟨s9004, rfl, h5⟩ := scK_some h3
  obtain ⟨p5, rfl, h6⟩ := cP_some h5
  obtain ⟨a9007, r9008, rfl, h9⟩ := uncA_some h6
  obtain ⟨s9010, rfl, h11⟩ := scK_some h9
  obtain ⟨x10, rfl, h12⟩ := cI_some h11
  obtain ⟨a9013, r9014, rfl, h15⟩ := uncA_some h12
  obtain ⟨s9016, rfl, h17⟩ := scK_some h15
  obtain ⟨l78, rfl, h18⟩ := cL_some h17
  obtain ⟨a9019, r9020, rfl, h21⟩ := uncA_some h18
  obtain ⟨s9022, rfl, h23⟩ := scK_some h21
  obtain ⟨x79, rfl, h24⟩ := cI_some h23
  obtain ⟨a9025, r9026, rfl, h27⟩ := uncA_some h24
  obtain ⟨s9028, rfl, h29⟩ := scK_some h27
  obtain ⟨x80, rfl, h30⟩ := cI_some h29
  obtain ⟨a9031, r9032, rfl, h33⟩ := uncA_some h30
  obtain ⟨s9034, rfl, h35⟩ := scK_some h33
  obtain ⟨l86, rfl, h36⟩ := cL_some h35
  obtain ⟨a9037, r9038, rfl, h39⟩ := uncA_some h36
  obtain ⟨s9040, rfl, h41⟩ := scK_some h39
  obtain ⟨x87, rfl, h42⟩ := cI_some h41
  obtain ⟨a9043, r9044, rfl, h45⟩ := uncA_some h42
  obtain ⟨s9046, rfl, h47⟩ := scK_some h45
  obtain ⟨x88, rfl, h48⟩ := cI_some h47
  obtain ⟨rfl, h49⟩ := endL_some h48
  have hq := Eq.mp (F40_20_eq D J p5 x10 l78 x79 x80 l86 x87 x88 S K) h49
  exact execK_runs hD.typed Ir_zero Ir_mixed hJ X40_20 (T40 20).1 (envOf (T40 20).2 _) S K (chk_of (by kernel_rfl) (by kernel_rfl)) hq
noncomputable abbrev A40_27 (D J : Disp) (vals : List AV) (S : St) (K : AV → St → Prop) : Prop :=
  uncA vals fun a9001 r9002 => scK a9001 fun s9004 => SV.cP s9004 fun p5 => uncA r9002 fun a9007 r9008 => scK a9007 fun s9010 => SV.cI IntKind.i64 s9010 fun x10 => uncA r9008 fun a9013 r9014 => scK a9013 fun s9016 => SV.cP s9016 fun p13 => uncA r9014 fun a9019 r9020 => scK a9019 fun s9022 => SV.cI IntKind.i64 s9022 fun x14 => uncA r9020 fun a9025 r9026 => scK a9025 fun s9028 => SV.cL s9028 fun l78 => uncA r9026 fun a9031 r9032 => scK a9031 fun s9034 => SV.cI IntKind.i64 s9034 fun x79 => uncA r9032 fun a9037 r9038 => scK a9037 fun s9040 => SV.cI IntKind.i64 s9040 fun x80 => uncA r9038 fun a9043 r9044 => scK a9043 fun s9046 => SV.cL s9046 fun l86 => uncA r9044 fun a9049 r9050 => scK a9049 fun s9052 => SV.cI IntKind.i64 s9052 fun x87 => uncA r9050 fun a9055 r9056 => scK a9055 fun s9058 => SV.cI IntKind.i64 s9058 fun x88 => endL r9056 <| F40_27 D J p5 x10 p13 x14 l78 x79 x80 l86 x87 x88 S K
theorem A40_27_ok {D J : Disp} (hD : DOK IrP IrG D) (hJ : JOK IrP IrG Go.Proofs.Try.f40 T40 J) {vals : List AV} {S : St} {K : AV → St → Prop} (h0 : A40_27 D J vals S K) : Runs IrP IrG Go.Proofs.Try.f40 (T40 27).1 (envOf (T40 27).2 vals) S K := by
  obtain ⟨a9001, r9002, rfl, h3⟩ := uncA_some h0
  obtain ⟨s9004, rfl, h5⟩ := scK_some h3
  obtain ⟨p5, rfl, h6⟩ := cP_some h5
  obtain ⟨a9007, r9008, rfl, h9⟩ := uncA_some h6
  obtain ⟨s9010, rfl, h11⟩ := scK_some h9
  obtain ⟨x10, rfl, h12⟩ := cI_some h11
  obtain ⟨a9013, r9014, rfl, h15⟩ := uncA_some h12
  obtain ⟨s9016, rfl, h17⟩ := scK_some h15
  obtain ⟨p13, rfl, h18⟩ := cP_some h17
  obtain ⟨a9019, r9020, rfl, h21⟩ := uncA_some h18
  obtain ⟨s9022, rfl, h23⟩ := scK_some h21
  obtain ⟨x14, rfl, h24⟩ := cI_some h23
  obtain ⟨a9025, r9026, rfl, h27⟩ := uncA_some h24
  obtain ⟨s9028, rfl, h29⟩ := scK_some h27
  obtain ⟨l78, rfl, h30⟩ := cL_some h29
  obtain ⟨a9031, r9032, rfl, h33⟩ := uncA_some h30
  obtain ⟨s9034, rfl, h35⟩ := scK_some h33
  obtain ⟨x79, rfl, h36⟩ := cI_some h35
  obtain ⟨a9037, r9038, rfl, h39⟩ := uncA_some h36
  obtain ⟨s9040, rfl, h41⟩ := scK_some h39
  obtain ⟨x80, rfl, h42⟩ := cI_some h41
  obtain ⟨a9043, r9044, rfl, h45⟩ := uncA_some h42
  obtain ⟨s9046, rfl, h47⟩ := scK_some h45
  obtain ⟨l86, rfl, h48⟩ := cL_some h47
  obtain ⟨a9049, r9050, rfl, h51⟩ := uncA_some h48
  obtain ⟨s9052, rfl, h53⟩ := scK_some h51
  obtain ⟨x87, rfl, h54⟩ := cI_some h53
  obtain ⟨a9055, r9056, rfl, h57⟩ := uncA_some h54
  obtain ⟨s9058, rfl, h59⟩ := scK_some h57
  obtain ⟨x88, rfl, h60⟩ := cI_some h59
  obtain ⟨rfl, h61⟩ := endL_some h60
  have hq := Eq.mp (F40_27_eq D J p5 x10 p13 x14 l78 x79 x80 l86 x87 x88 S K) h61
  exact execK_runs hD.typed Ir_zero Ir_mixed hJ X40_27 (T40 27).1 (envOf (T40 27).2 _) S K (chk_of (by kernel_rfl) (by kernel_rfl)) hq
noncomputable def J40 (D : Disp) (k : Nat) : Disp := Nat.rec (motive := fun _ => Disp) Disp.no (fun _ ih => Disp.add 0 (A40_0 D ih) <| Disp.add 3 (A40_3 D ih) <| Disp.add 9 (A40_9 D ih) <| Disp.add 16 (A40_16 D ih) <| Disp.add 20 (A40_20 D ih) <| Disp.add 27 (A40_27 D ih) <| Disp.no) k
theorem J40_ok {D : Disp} (hD : DOK IrP IrG D) : ∀ k, JOK IrP IrG Go.Proofs.Try.f40 T40 (J40 D k)
  | 0 => JOK.no
  | k + 1 => JOK.add (ltB_ok (by kernel_rfl)) (fun vals S K h => A40_0_ok hD (J40_ok hD k) h) <| JOK.add (ltB_ok (by kernel_rfl)) (fun vals S K h => A40_3_ok hD (J40_ok hD k) h) <| JOK.add (ltB_ok (by kernel_rfl)) (fun vals S K h => A40_9_ok hD (J40_ok hD k) h) <| JOK.add (ltB_ok (by kernel_rfl)) (fun vals S K h => A40_16_ok hD (J40_ok hD k) h) <| JOK.add (ltB_ok (by kernel_rfl)) (fun vals S K h => A40_20_ok hD (J40_ok hD k) h) <| JOK.add (ltB_ok (by kernel_rfl)) (fun vals S K h => A40_27_ok hD (J40_ok hD k) h) <| JOK.no
theorem E40_ok {D : Disp} (hD : DOK IrP IrG D) (k : Nat) {args : List AV} {S : St} {K : AV → St → Prop} (h : A40_0 D (J40 D k) args S K) : CallE IrP IrG 40 args S K := by
  have hr := A40_0_ok hD (J40_ok hD k) h
  have hl : args.length = 2 := by
    have h0 := h
    obtain ⟨a9001, r9002, rfl, h3⟩ := uncA_some h0
    obtain ⟨l9004, rfl, h5⟩ := avA_some h3
    obtain ⟨s9006, r9007, rfl, h8⟩ := uncK_some h5
    obtain ⟨l0_0, rfl, h9⟩ := cL_some h8
    obtain ⟨s9010, r9011, rfl, h12⟩ := uncK_some h9
    obtain ⟨l0_1, rfl, h13⟩ := cL_some h12
    obtain ⟨s9014, r9015, rfl, h16⟩ := uncK_some h13
    obtain ⟨x0_2, rfl, h17⟩ := cI_some h16
    obtain ⟨rfl, h18⟩ := endL_some h17
    obtain ⟨a9019, r9020, rfl, h21⟩ := uncA_some h18
    obtain ⟨s9022, rfl, h23⟩ := scK_some h21
    obtain ⟨l1, rfl, h24⟩ := cL_some h23
    obtain ⟨rfl, h25⟩ := endL_some h24
    rfl
  refine callOK_of (fn := Go.Proofs.Try.f40) (c := (match Go.Proofs.Try.f40.body with | some c => c | none => .skip)) (by kernel_rfl) (by kernel_rfl) (by kernel_rfl) (by rw [hl]; kernel_rfl) (by kernel_rfl) ?_
  rw [hl]
  exact hr
noncomputable def plans41 (i : Nat) : Plan := if Nat.beq i 9 then [(0, []), (1, [0]), (2, [1, 0]), (3, [2, 1, 0]), (4, []), (5, [4]), (6, [5, 4]), (7, [6, 5, 4]), (8, [7, 6, 5, 4]), (9, []), (10, [9]), (11, [3, 8, 10, 2, 7, 9, 1, 6, 0, 5, 4]), (12, [11, 3, 8, 10, 2, 7, 9, 1, 6, 0, 5, 4])] else []
noncomputable def T41 (p : Nat) : List Item × List Nat := bif Nat.beq p 0 then ([.code (match Go.Proofs.Try.f41.body with | some c => c | none => .skip)], [0, 1, 2, 3]) else
  bif Nat.beq p 3 then (navs [.op, .op, .op] [.code (match Go.Proofs.Try.f41.body with | some c => c | none => .skip)], [0, 1, 2, 3, 8, 9, 25, 26, 27]) else
  ([], [])
noncomputable def F41_q17 (D J : Disp) (S : St) (p0 : PV) (x1 : Int) (l2 : LV) (x3 : Int) (S361 : St) (x371 : Int) (K : AV → St → Prop) : Prop :=
 St.at S361 (Bk.new (St.next S)) 3 fun y372 =>
 uncK y372 fun v373 y374 =>
 SV.cL v373 fun y381 =>
 letK (α := Int) ((Int.ofNat (LV.len y381))) fun x382 =>
 J 3 [(AV.one (V1.s (SV.ptr p0))), (AV.one (V1.s (SV.int IntKind.i64 x1))), (AV.one (V1.s (SV.sl l2))), (AV.one (V1.s (SV.int IntKind.i64 x3))), (AV.one (V1.s (SV.ptr (PV.mk (Bk.new (St.next S)) 0)))), (AV.one (V1.s (SV.int IntKind.i64 x371))), (AV.one (V1.s (SV.sl y381))), (AV.one (V1.s (SV.int IntKind.i64 x382))), (AV.one (V1.s (SV.int IntKind.i64 (0 : Int))))] S361 K
noncomputable def F41_q18 (D J : Disp) (S : St) (p0 : PV) (x1 : Int) (l2 : LV) (x3 : Int) (y325 : (List Nat)) (x331 : Int) (x337 : Int) (y346 : LV) (y355 : LV) (y359 : Bool) (K : AV → St → Prop) : Prop :=
 letK (α := St) ((St.add S (AO.cells [(SV.str []), (SV.int IntKind.i64 (0 : Int)), (SV.int IntKind.i64 (0 : Int)), (SV.sl LV.nil), (SV.sl LV.nil), (SV.bool Bool.false)] (Op2.ty 42)))) fun S360 =>
 St.wr S360 (Bk.new (St.next S)) 0 [(SV.str y325), (SV.int IntKind.i64 x331), (SV.int IntKind.i64 x337), (SV.sl y346), (SV.sl y355), (SV.bool y359)] fun S361 =>
 PV.cs p0 fun b362 n363 =>
 letK (α := Nat) ((n363 + 7)) fun n364 =>
 St.at S361 b362 n364 fun y365 =>
 uncK y365 fun v366 y367 =>
 SV.cI IntKind.i64 v366 fun x371 =>
 F41_q17 D J S p0 x1 l2 x3 S361 x371 K
noncomputable def F41_q19 (D J : Disp) (S : St) (p0 : PV) (x1 : Int) (l2 : LV) (x3 : Int) (y312 : LV) (K : AV → St → Prop) : Prop :=
 LV.cs y312 fun b313 n314 n315 y316 =>
 req (Bool.and (ile (0 : Int) x1) (ilt x1 (Int.ofNat n315))) <|
 letK (α := Nat) ((n314 + ((Int.toNat x1) * 6))) fun n317 =>
 St.at S b313 n317 fun y318 =>
 uncK y318 fun v319 y320 =>
 SV.cS v319 fun y325 =>
 uncK y320 fun v326 y327 =>
 SV.cI IntKind.i64 v326 fun x331 =>
 uncK y327 fun v332 y333 =>
 SV.cI IntKind.i64 v332 fun x337 =>
 uncK y333 fun v338 y339 =>
 SV.cL v338 fun y346 =>
 uncK y339 fun v347 y348 =>
 SV.cL v347 fun y355 =>
 uncK y348 fun v356 y357 =>
 SV.cB v356 fun y359 =>
 F41_q18 D J S p0 x1 l2 x3 y325 x331 x337 y346 y355 y359 K
noncomputable def F41_0 (D J : Disp) (p0 : PV) (x1 : Int) (l2 : LV) (x3 : Int) (S : St) (K : AV → St → Prop) : Prop :=
 PV.cs p0 fun b300 n301 =>
 letK (α := Nat) ((n301 + 3)) fun n302 =>
 St.at S b300 n302 fun y303 =>
 uncK y303 fun v304 y305 =>
 SV.cL v304 fun y312 =>
 F41_q19 D J S p0 x1 l2 x3 y312 K
noncomputable def X41_0 : X := (.op (.op (.op (.jmp 3 [0, 1, 2, 3, 8, 9, 25, 26, 27]))))
theorem F41_0_eq (D J : Disp) (p0 : PV) (x1 : Int) (l2 : LV) (x3 : Int) (S : St) (K : AV → St → Prop) : F41_0 D J p0 x1 l2 x3 S K = execK IrP IrG Go.Proofs.Try.f41 (typed IrP D) J plans41 X41_0 (T41 0).1 (envOf (T41 0).2 [(AV.one (V1.s (SV.ptr p0))), (AV.one (V1.s (SV.int IntKind.i64 x1))), (AV.one (V1.s (SV.sl l2))), (AV.one (V1.s (SV.int IntKind.i64 x3)))]) S K := by kernel_rfl
noncomputable def F41_q20 (D J : Disp) (S : St) (p0 : PV) (x1 : Int) (l2 : LV) (x3 : Int) (p8 : PV) (x9 : Int) (l25 : LV) (x26 : Int) (x27 : Int) (x324 : Int) (b325 : Bk) (n327 : Nat) (K : AV → St → Prop) : Prop :=
 St.wr S b325 n327 [(SV.int IntKind.i64 x324)] fun S328 =>
 letK (α := Int) ((iwrap IntKind.i64 (x27 + (1 : Int)))) fun x329 =>
 J 3 [(AV.one (V1.s (SV.ptr p0))), (AV.one (V1.s (SV.int IntKind.i64 x1))), (AV.one (V1.s (SV.sl l2))), (AV.one (V1.s (SV.int IntKind.i64 x3))), (AV.one (V1.s (SV.ptr p8))), (AV.one (V1.s (SV.int IntKind.i64 x9))), (AV.one (V1.s (SV.sl l25))), (AV.one (V1.s (SV.int IntKind.i64 x26))), (AV.one (V1.s (SV.int IntKind.i64 x329)))] S328 K
noncomputable def F41_q21 (D J : Disp) (S : St) (p0 : PV) (x1 : Int) (l2 : LV) (x3 : Int) (p8 : PV) (x9 : Int) (l25 : LV) (x26 : Int) (x27 : Int) (b301 : Bk) (n305 : Nat) (K : AV → St → Prop) : Prop :=
 St.at S b301 n305 fun y306 =>
 uncK y306 fun v307 y308 =>
 SV.cI IntKind.i64 v307 fun x312 =>
 PV.cs p0 fun b313 n314 =>
 letK (α := Nat) ((n314 + 7)) fun n315 =>
 St.at S b313 n315 fun y316 =>
 uncK y316 fun v317 y318 =>
 SV.cI IntKind.i64 v317 fun x322 =>
 letK (α := Int) ((iwrap IntKind.i64 (x322 - x312))) fun x323 =>
 letK (α := Int) ((iandNot IntKind.i64 x323 (15 : Int))) fun x324 =>
 PV.cs p0 fun b325 n326 =>
 letK (α := Nat) ((n326 + 7)) fun n327 =>
 F41_q20 D J S p0 x1 l2 x3 p8 x9 l25 x26 x27 x324 b325 n327 K
noncomputable def F41_q22 (D J : Disp) (p0 : PV) (x1 : Int) (x3 : Int) (x9 : Int) (S383 : St) (n394 : Nat) (d395 : (Sum Nat Nat)) (S398 : St) (y412 : LV) (K : AV → St → Prop) : Prop :=
 letK (α := (Sum Nat Nat)) ((Sum.inl 1)) fun d413 =>
 letK (α := St) ((St.add S398 (AO.cells [(SV.int IntKind.i64 x1), (SV.int IntKind.i64 (0 : Int)), (SV.int IntKind.i64 (0 : Int)), (SV.sl (LV.mk (Bk.new (St.next S383)) 0 n394 d395)), (SV.int IntKind.i64 x3), (SV.int IntKind.i64 x9)] Op2.sh))) fun S414 =>
 St.src S414 6 (LV.mk (Bk.new (St.next S398)) 0 1 d413) fun y415 n416 =>
 St.app S414 99 6 64 y412 y415 n416 fun y417 S418 =>
 PV.cs p0 fun b419 n420 =>
 letK (α := Nat) ((n420 + 8)) fun n421 =>
 St.wr S418 b419 n421 [(SV.sl y417)] fun S422 =>
 K ((AV.tup [])) S422
noncomputable def F41_q23 (D J : Disp) (p0 : PV) (x1 : Int) (l2 : LV) (x3 : Int) (x9 : Int) (S383 : St) (n394 : Nat) (d395 : (Sum Nat Nat)) (S396 : St) (K : AV → St → Prop) : Prop :=
 St.first S396 1 l2 (copyM (LV.len l2) (LV.mk (Bk.new (St.next S383)) 0 n394 d395)) fun y397 =>
 St.lay S396 (LV.mk (Bk.new (St.next S383)) 0 n394 d395) (copyM (LV.len l2) (LV.mk (Bk.new (St.next S383)) 0 n394 d395)) y397 fun S398 =>
 letK (α := Int) ((Int.ofNat (copyM (LV.len l2) (LV.mk (Bk.new (St.next S383)) 0 n394 d395)))) fun x399 =>
 PV.cs p0 fun b400 n401 =>
 letK (α := Nat) ((n401 + 8)) fun n402 =>
 St.at S398 b400 n402 fun y403 =>
 uncK y403 fun v404 y405 =>
 SV.cL v404 fun y412 =>
 F41_q22 D J p0 x1 x3 x9 S383 n394 d395 S398 y412 K
noncomputable def F41_q24 (D J : Disp) (p0 : PV) (x1 : Int) (l2 : LV) (x3 : Int) (p8 : PV) (x9 : Int) (S383 : St) (K : AV → St → Prop) : Prop :=
 PV.cs p8 fun b384 n385 =>
 letK (α := Nat) ((n385 + 2)) fun n386 =>
 St.at S383 b384 n386 fun y387 =>
 uncK y387 fun v388 y389 =>
 SV.cI IntKind.i64 v388 fun x393 =>
 req (Bool.and (ile (0 : Int) x393) (Bool.and (ile x393 x393) (ile x393 (2000000 : Int)))) <|
 letK (α := Nat) ((Int.toNat x393)) fun n394 =>
 letK (α := (Sum Nat Nat)) ((Sum.inl (Int.toNat x393))) fun d395 =>
 letK (α := St) ((St.add S383 (rowAO [(SV.int IntKind.i64 (0 : Int))] (Int.toNat x393)))) fun S396 =>
 F41_q23 D J p0 x1 l2 x3 x9 S383 n394 d395 S396 K
noncomputable def F41_q25 (D J : Disp) (p0 : PV) (x1 : Int) (x3 : Int) (x9 : Int) (S438 : St) (n449 : Nat) (d450 : (Sum Nat Nat)) (S453 : St) (y467 : LV) (K : AV → St → Prop) : Prop :=
 letK (α := (Sum Nat Nat)) ((Sum.inl 1)) fun d468 =>
 letK (α := St) ((St.add S453 (AO.cells [(SV.int IntKind.i64 x1), (SV.int IntKind.i64 (0 : Int)), (SV.int IntKind.i64 (0 : Int)), (SV.sl (LV.mk (Bk.new (St.next S438)) 0 n449 d450)), (SV.int IntKind.i64 x3), (SV.int IntKind.i64 x9)] Op2.sh))) fun S469 =>
 St.src S469 6 (LV.mk (Bk.new (St.next S453)) 0 1 d468) fun y470 n471 =>
 St.app S469 99 6 64 y467 y470 n471 fun y472 S473 =>
 PV.cs p0 fun b474 n475 =>
 letK (α := Nat) ((n475 + 8)) fun n476 =>
 St.wr S473 b474 n476 [(SV.sl y472)] fun S477 =>
 K ((AV.tup [])) S477
noncomputable def F41_q26 (D J : Disp) (p0 : PV) (x1 : Int) (l2 : LV) (x3 : Int) (x9 : Int) (S438 : St) (n449 : Nat) (d450 : (Sum Nat Nat)) (S451 : St) (K : AV → St → Prop) : Prop :=
 St.first S451 1 l2 (copyM (LV.len l2) (LV.mk (Bk.new (St.next S438)) 0 n449 d450)) fun y452 =>
 St.lay S451 (LV.mk (Bk.new (St.next S438)) 0 n449 d450) (copyM (LV.len l2) (LV.mk (Bk.new (St.next S438)) 0 n449 d450)) y452 fun S453 =>
 letK (α := Int) ((Int.ofNat (copyM (LV.len l2) (LV.mk (Bk.new (St.next S438)) 0 n449 d450)))) fun x454 =>
 PV.cs p0 fun b455 n456 =>
 letK (α := Nat) ((n456 + 8)) fun n457 =>
 St.at S453 b455 n457 fun y458 =>
 uncK y458 fun v459 y460 =>
 SV.cL v459 fun y467 =>
 F41_q25 D J p0 x1 x3 x9 S438 n449 d450 S453 y467 K
noncomputable def F41_q27 (D J : Disp) (p0 : PV) (x1 : Int) (l2 : LV) (x3 : Int) (p8 : PV) (x9 : Int) (S438 : St) (K : AV → St → Prop) : Prop :=
 PV.cs p8 fun b439 n440 =>
 letK (α := Nat) ((n440 + 2)) fun n441 =>
 St.at S438 b439 n441 fun y442 =>
 uncK y442 fun v443 y444 =>
 SV.cI IntKind.i64 v443 fun x448 =>
 req (Bool.and (ile (0 : Int) x448) (Bool.and (ile x448 x448) (ile x448 (2000000 : Int)))) <|
 letK (α := Nat) ((Int.toNat x448)) fun n449 =>
 letK (α := (Sum Nat Nat)) ((Sum.inl (Int.toNat x448))) fun d450 =>
 letK (α := St) ((St.add S438 (rowAO [(SV.int IntKind.i64 (0 : Int))] (Int.toNat x448)))) fun S451 =>
 F41_q26 D J p0 x1 l2 x3 x9 S438 n449 d450 S451 K
noncomputable def F41_q28 (D J : Disp) (p0 : PV) (x1 : Int) (x3 : Int) (x9 : Int) (S489 : St) (n500 : Nat) (d501 : (Sum Nat Nat)) (S504 : St) (y518 : LV) (K : AV → St → Prop) : Prop :=
 letK (α := (Sum Nat Nat)) ((Sum.inl 1)) fun d519 =>
 letK (α := St) ((St.add S504 (AO.cells [(SV.int IntKind.i64 x1), (SV.int IntKind.i64 (0 : Int)), (SV.int IntKind.i64 (0 : Int)), (SV.sl (LV.mk (Bk.new (St.next S489)) 0 n500 d501)), (SV.int IntKind.i64 x3), (SV.int IntKind.i64 x9)] Op2.sh))) fun S520 =>
 St.src S520 6 (LV.mk (Bk.new (St.next S504)) 0 1 d519) fun y521 n522 =>
 St.app S520 99 6 64 y518 y521 n522 fun y523 S524 =>
 PV.cs p0 fun b525 n526 =>
 letK (α := Nat) ((n526 + 8)) fun n527 =>
 St.wr S524 b525 n527 [(SV.sl y523)] fun S528 =>
 K ((AV.tup [])) S528
noncomputable def F41_q29 (D J : Disp) (p0 : PV) (x1 : Int) (l2 : LV) (x3 : Int) (x9 : Int) (S489 : St) (n500 : Nat) (d501 : (Sum Nat Nat)) (S502 : St) (K : AV → St → Prop) : Prop :=
 St.first S502 1 l2 (copyM (LV.len l2) (LV.mk (Bk.new (St.next S489)) 0 n500 d501)) fun y503 =>
 St.lay S502 (LV.mk (Bk.new (St.next S489)) 0 n500 d501) (copyM (LV.len l2) (LV.mk (Bk.new (St.next S489)) 0 n500 d501)) y503 fun S504 =>
 letK (α := Int) ((Int.ofNat (copyM (LV.len l2) (LV.mk (Bk.new (St.next S489)) 0 n500 d501)))) fun x505 =>
 PV.cs p0 fun b506 n507 =>
 letK (α := Nat) ((n507 + 8)) fun n508 =>
 St.at S504 b506 n508 fun y509 =>
 uncK y509 fun v510 y511 =>
 SV.cL v510 fun y518 =>
 F41_q28 D J p0 x1 x3 x9 S489 n500 d501 S504 y518 K
noncomputable def F41_q30 (D J : Disp) (p0 : PV) (x1 : Int) (l2 : LV) (x3 : Int) (p8 : PV) (x9 : Int) (S489 : St) (K : AV → St → Prop) : Prop :=
 PV.cs p8 fun b490 n491 =>
 letK (α := Nat) ((n491 + 2)) fun n492 =>
 St.at S489 b490 n492 fun y493 =>
 uncK y493 fun v494 y495 =>
 SV.cI IntKind.i64 v494 fun x499 =>
 req (Bool.and (ile (0 : Int) x499) (Bool.and (ile x499 x499) (ile x499 (2000000 : Int)))) <|
 letK (α := Nat) ((Int.toNat x499)) fun n500 =>
 letK (α := (Sum Nat Nat)) ((Sum.inl (Int.toNat x499))) fun d501 =>
 letK (α := St) ((St.add S489 (rowAO [(SV.int IntKind.i64 (0 : Int))] (Int.toNat x499)))) fun S502 =>
 F41_q29 D J p0 x1 l2 x3 x9 S489 n500 d501 S502 K
noncomputable def F41_q31 (D J : Disp) (S : St) (p0 : PV) (x1 : Int) (l2 : LV) (x3 : Int) (p8 : PV) (x9 : Int) (y370 : LV) (x381 : Int) (x382 : Int) (K : AV → St → Prop) : Prop :=
 LV.on y370 (req (Bool.and (ile (0 : Int) (oInt (Option.some x381) (0 : Int))) (Bool.and (ile (oInt (Option.some x381) (0 : Int)) (oInt (Option.some x382) (0 : Int))) (ile (oInt (Option.some x382) (0 : Int)) (0 : Int)))) <|
 St.lay S LV.nil 0 [] fun S383 =>
 F41_q24 D J p0 x1 l2 x3 p8 x9 S383 K) fun b430 n431 n432 y433 =>
 sumOn y433 (fun n434 =>
 req (Bool.and (ile (0 : Int) (oInt (Option.some x381) (0 : Int))) (Bool.and (ile (oInt (Option.some x381) (0 : Int)) (oInt (Option.some x382) (Int.ofNat n432))) (ile (oInt (Option.some x382) (Int.ofNat n432)) (Int.ofNat n434)))) <|
 letK (α := Nat) ((n431 + ((Int.toNat (oInt (Option.some x381) (0 : Int))) * 1))) fun n435 =>
 letK (α := Nat) (((Int.toNat (oInt (Option.some x382) (Int.ofNat n432))) - (Int.toNat (oInt (Option.some x381) (0 : Int))))) fun n436 =>
 letK (α := (Sum Nat Nat)) ((Sum.inl ((Int.toNat (oInt Option.none (Int.ofNat n434))) - (Int.toNat (oInt (Option.some x381) (0 : Int)))))) fun d437 =>
 St.lay S (LV.mk b430 n435 n436 d437) (LV.len (LV.mk b430 n435 n436 d437)) (rep [(SV.int IntKind.u8 (0 : Int))] (LV.len (LV.mk b430 n435 n436 d437))) fun S438 =>
 F41_q27 D J p0 x1 l2 x3 p8 x9 S438 K) fun y485 =>
 req (Nat.beq 1 y485) <|
 req (Bool.and (ile (0 : Int) (oInt (Option.some x381) (0 : Int))) (Bool.and (ile (oInt (Option.some x381) (0 : Int)) (oInt (Option.some x382) (Int.ofNat n432))) (ile (oInt (Option.some x382) (Int.ofNat n432)) (Int.ofNat n432)))) <|
 letK (α := Nat) ((n431 + ((Int.toNat (oInt (Option.some x381) (0 : Int))) * 1))) fun n486 =>
 letK (α := Nat) (((Int.toNat (oInt (Option.some x382) (Int.ofNat n432))) - (Int.toNat (oInt (Option.some x381) (0 : Int))))) fun n487 =>
 letK (α := (Sum Nat Nat)) ((Sum.inr 1)) fun d488 =>
 St.lay S (LV.mk b430 n486 n487 d488) (LV.len (LV.mk b430 n486 n487 d488)) (rep [(SV.int IntKind.u8 (0 : Int))] (LV.len (LV.mk b430 n486 n487 d488))) fun S489 =>
 F41_q30 D J p0 x1 l2 x3 p8 x9 S489 K
noncomputable def F41_q32 (D J : Disp) (S : St) (p0 : PV) (x1 : Int) (l2 : LV) (x3 : Int) (p8 : PV) (x9 : Int) (b358 : Bk) (n359 : Nat) (K : AV → St → Prop) : Prop :=
 letK (α := Nat) ((n359 + 6)) fun n360 =>
 St.at S b358 n360 fun y361 =>
 uncK y361 fun v362 y363 =>
 SV.cL v362 fun y370 =>
 PV.cs p0 fun b371 n372 =>
 letK (α := Nat) ((n372 + 7)) fun n373 =>
 St.at S b371 n373 fun y374 =>
 uncK y374 fun v375 y376 =>
 SV.cI IntKind.i64 v375 fun x380 =>
 letK (α := Int) ((iwrap IntKind.i64 (x380 - (15728640 : Int)))) fun x381 =>
 letK (α := Int) ((iwrap IntKind.i64 (x9 - (15728640 : Int)))) fun x382 =>
 F41_q31 D J S p0 x1 l2 x3 p8 x9 y370 x381 x382 K
noncomputable def F41_q33 (D J : Disp) (S : St) (p0 : PV) (x1 : Int) (l2 : LV) (x3 : Int) (p8 : PV) (x9 : Int) (b340 : Bk) (n342 : Nat) (K : AV → St → Prop) : Prop :=
 St.at S b340 n342 fun y343 =>
 uncK y343 fun v344 y345 =>
 SV.cI IntKind.i64 v344 fun x349 =>
 letK (α := Bool) ((ilt x349 (15728640 : Int))) fun c350 =>
 ifK c350
 (D 42 [(AV.one (V1.s (SV.ptr p0))), (AV.one (V1.s (SV.int IntKind.i64 (3 : Int)))), (AV.one (V1.s (SV.int IntKind.i64 (0 : Int))))] S fun v351 S352 =>
 avT v351 fun y354 =>
 endL y354 (K ((AV.tup [])) S352))
 (PV.cs p0 fun b358 n359 =>
 F41_q32 D J S p0 x1 l2 x3 p8 x9 b358 n359 K)
noncomputable def F41_3 (D J : Disp) (p0 : PV) (x1 : Int) (l2 : LV) (x3 : Int) (p8 : PV) (x9 : Int) (l25 : LV) (x26 : Int) (x27 : Int) (S : St) (K : AV → St → Prop) : Prop :=
 letK (α := Bool) ((ilt x27 x26)) fun c300 =>
 ifK c300
 (LV.cs l25 fun b301 n302 n303 y304 =>
 req (Bool.and (ile (0 : Int) x27) (ilt x27 (Int.ofNat n303))) <|
 letK (α := Nat) ((n302 + ((Int.toNat x27) * 1))) fun n305 =>
 F41_q21 D J S p0 x1 l2 x3 p8 x9 l25 x26 x27 b301 n305 K)
 (PV.cs p0 fun b340 n341 =>
 letK (α := Nat) ((n341 + 7)) fun n342 =>
 F41_q33 D J S p0 x1 l2 x3 p8 x9 b340 n342 K)
noncomputable def X41_3 : X := (.op (.br (.op (.op (.op (.jmp 3 [0, 1, 2, 3, 8, 9, 25, 26, 27])))) (.op (.br (.op .ret) (.op (.op (.op (.op .ret))))))))
theorem F41_3_eq (D J : Disp) (p0 : PV) (x1 : Int) (l2 : LV) (x3 : Int) (p8 : PV) (x9 : Int) (l25 : LV) (x26 : Int) (x27 : Int) (S : St) (K : AV → St → Prop) : F41_3 D J p0 x1 l2 x3 p8 x9 l25 x26 x27 S K = execK IrP IrG Go.Proofs.Try.f41 (typed IrP D) J plans41 X41_3 (T41 3).1 (envOf (T41 3).2 [(AV.one (V1.s (SV.ptr p0))), (AV.one (V1.s (SV.int IntKind.i64 x1))), (AV.one (V1.s (SV.sl l2))), (AV.one (V1.s (SV.int IntKind.i64 x3))), (AV.one (V1.s (SV.ptr p8))), (AV.one (V1.s (SV.int IntKind.i64 x9))), (AV.one (V1.s (SV.sl l25))), (AV.one (V1.s (SV.int IntKind.i64 x26))), (AV.one (V1.s (SV.int IntKind.i64 x27)))]) S K := by kernel_rfl
noncomputable abbrev A41_0 (D J : Disp) (vals : List AV) (S : St) (K : AV → St → Prop) : Prop :=
  uncA vals fun a9001 r9002 => scK a9001 fun s9004 => SV.cP s9004 fun p0 => uncA r9002 fun a9007 r9008 => scK a9007 fun s9010 => SV.cI IntKind.i64 s9010 fun x1 => uncA r9008 fun a9013 r9014 => scK a9013 fun s9016 => SV.cL s9016 fun l2 => uncA r9014 fun a9019 r9020 => scK a9019 fun s9022 => SV.cI IntKind.i64 s9022 fun x3 => endL r9020 <| F41_0 D J p0 x1 l2 x3 S K
theorem A41_0_ok {D J : Disp} (hD : DOK IrP IrG D) (hJ : JOK IrP IrG Go.Proofs.Try.f41 T41 J) {vals : List AV} {S : St} {K : AV → St → Prop} (h0 : A41_0 D J vals S K) : Runs IrP IrG Go.Proofs.Try.f41 (T41 0).1 (envOf (T41 0).2 vals) S K := by
  obtain ⟨a9001, r9002, rfl, h3⟩ := uncA_some h0
  obtain ⟨s9004, rfl, h5⟩ := scK_some h3
  obtain ⟨p0, rfl, h6⟩ := cP_some h5
  obtain ⟨a9007, r9008, rfl, h9⟩ := uncA_some h6
  obtain ⟨s9010, rfl, h11⟩ := scK_some h9
  obtain ⟨x1, rfl, h12⟩ := cI_some h11
  obtain ⟨a9013, r9014, rfl, h15⟩ := uncA_some h12
  obtain ⟨s9016, rfl, h17⟩ := scK_some h15
  obtain ⟨l2, rfl, h18⟩ := cL_some h17
  obtain ⟨a9019, r9020, rfl, h21⟩ := uncA_some h18
  obtain ⟨s9022, rfl, h23⟩ := scK_some h21
  obtain ⟨x3, rfl, h24⟩ := cI_some h23
  obtain ⟨rfl, h25⟩ := endL_some h24
  have hq := Eq.mp (F41_0_eq D J p0 x1 l2 x3 S K) h25
  exact execK_runs hD.typed Ir_zero Ir_mixed hJ X41_0 (T41 0).1 (envOf (T41 0).2 _) S K (chk_of (by kernel_rfl) (by kernel_rfl)) hq
noncomputable abbrev A41_3 (D J : Disp) (vals : List AV) (S : St) (K : AV → St → Prop) : Prop :=
  uncA vals fun a9001 r9002 => scK a9001 fun s9004 => SV.cP s9004 fun p0 => uncA r9002 fun a9007 r9008 => scK a9007 fun s9010 => SV.cI IntKind.i64 s9010 fun x1 => uncA r9008 fun a9013 r9014 => scK a9013 fun s9016 => SV.cL s9016 fun l2 => uncA r9014 fun a9019 r9020 => scK a9019 fun s9022 => SV.cI IntKind.i64 s9022 fun x3 => uncA r9020 fun a9025 r9026 => scK a9025 fun s9028 => SV.cP s9028 fun p8 => uncA r9026 fun a9031 r9032 => scK a9031 fun s9034 => SV.cI IntKind.i64 s9034 fun x9 => uncA r9032 fun a9037 r9038 => scK a9037 fun s9040 => SV.cL s9040 fun l25 => uncA r9038 fun a9043 r9044 => scK a9043 fun s9046 => SV.cI IntKind.i64 s9046 fun x26 => uncA r9044 fun a9049 r9050 => scK a9049 fun s9052 => SV.cI IntKind.i64 s9052 fun x27 => endL r9050 <| F41_3 D J p0 x1 l2 x3 p8 x9 l25 x26 x27 S K
theorem A41_3_ok {D J : Disp} (hD : DOK IrP IrG D) (hJ : JOK IrP IrG Go.Proofs.Try.f41 T41 J) {vals : List AV} {S : St} {K : AV → St → Prop} (h0 : A41_3 D J vals S K) : Runs IrP IrG Go.Proofs.Try.f41 (T41 3).1 (envOf (T41 3).2 vals) S K := by
  obtain ⟨a9001, r9002, rfl, h3⟩ := uncA_some h0
  obtain ⟨s9004, rfl, h5⟩ := scK_some h3
  obtain ⟨p0, rfl, h6⟩ := cP_some h5
  obtain ⟨a9007, r9008, rfl, h9⟩ := uncA_some h6
  obtain ⟨s9010, rfl, h11⟩ := scK_some h9
  obtain ⟨x1, rfl, h12⟩ := cI_some h11
  obtain ⟨a9013, r9014, rfl, h15⟩ := uncA_some h12
  obtain ⟨s9016, rfl, h17⟩ := scK_some h15
  obtain ⟨l2, rfl, h18⟩ := cL_some h17
  obtain ⟨a9019, r9020, rfl, h21⟩ := uncA_some h18
  obtain ⟨s9022, rfl, h23⟩ := scK_some h21
  obtain ⟨x3, rfl, h24⟩ := cI_some h23
  obtain ⟨a9025, r9026, rfl, h27⟩ := uncA_some h24
  obtain ⟨s9028, rfl, h29⟩ := scK_some h27
  obtain ⟨p8, rfl, h30⟩ := cP_some h29
  obtain ⟨a9031, r9032, rfl, h33⟩ := uncA_some h30
  obtain ⟨s9034, rfl, h35⟩ := scK_some h33
  obtain ⟨x9, rfl, h36⟩ := cI_some h35
  obtain ⟨a9037, r9038, rfl, h39⟩ := uncA_some h36
  obtain ⟨s9040, rfl, h41⟩ := scK_some h39
  obtain ⟨l25, rfl, h42⟩ := cL_some h41
  obtain ⟨a9043, r9044, rfl, h45⟩ := uncA_some h42
  obtain ⟨s9046, rfl, h47⟩ := scK_some h45
  obtain ⟨x26, rfl, h48⟩ := cI_some h47
  obtain ⟨a9049, r9050, rfl, h51⟩ := uncA_some h48
  obtain ⟨s9052, rfl, h53⟩ := scK_some h51
  obtain ⟨x27, rfl, h54⟩ := cI_some h53
  obtain ⟨rfl, h55⟩ := endL_some h54
  have hq := Eq.mp (F41_3_eq D J p0 x1 l2 x3 p8 x9 l25 x26 x27 S K) h55
  exact execK_runs hD.typed Ir_zero Ir_mixed hJ X41_3 (T41 3).1 (envOf (T41 3).2 _) S K (chk_of (by kernel_rfl) (by kernel_rfl)) hq
noncomputable def J41 (D : Disp) (k : Nat) : Disp := Nat.rec (motive := fun _ => Disp) Disp.no (fun _ ih => Disp.add 0 (A41_0 D ih) <| Disp.add 3 (A41_3 D ih) <| Disp.no) k
theorem J41_ok {D : Disp} (hD : DOK IrP IrG D) : ∀ k, JOK IrP IrG Go.Proofs.Try.f41 T41 (J41 D k)
  | 0 => JOK.no
  | k + 1 => JOK.add (ltB_ok (by kernel_rfl)) (fun vals S K h => A41_0_ok hD (J41_ok hD k) h) <| JOK.add (ltB_ok (by kernel_rfl)) (fun vals S K h => A41_3_ok hD (J41_ok hD k) h) <| JOK.no
theorem E41_ok {D : Disp} (hD : DOK IrP IrG D) (k : Nat) {args : List AV} {S : St} {K : AV → St → Prop} (h : A41_0 D (J41 D k) args S K) : CallE IrP IrG 41 args S K := by
  have hr := A41_0_ok hD (J41_ok hD k) h
  have hl : args.length = 4 := by
    have h0 := h
    obtain ⟨a9001, r9002, rfl, h3⟩ := uncA_some h0
    obtain ⟨s9004, rfl, h5⟩ := scK_some h3
    obtain ⟨p0, rfl, h6⟩ := cP_some h5
    obtain ⟨a9007, r9008, rfl, h9⟩ := uncA_some h6
    obtain ⟨s9010, rfl, h11⟩ := scK_some h9
    obtain ⟨x1, rfl, h12⟩ := cI_some h11
    obtain ⟨a9013, r9014, rfl, h15⟩ := uncA_some h12
    obtain ⟨s9016, rfl, h17⟩ := scK_some h15
    obtain ⟨l2, rfl, h18⟩ := cL_some h17
    obtain ⟨a9019, r9020, rfl, h21⟩ := uncA_some h18
    obtain ⟨s9022, rfl, h23⟩ := scK_some h21
    obtain ⟨x3, rfl, h24⟩ := cI_some h23
    obtain ⟨rfl, h25⟩ := endL_some h24
    rfl
  refine callOK_of (fn := Go.Proofs.Try.f41) (c := (match Go.Proofs.Try.f41.body with | some c => c | none => .skip)) (by kernel_rfl) (by kernel_rfl) (by kernel_rfl) (by rw [hl]; kernel_rfl) (by kernel_rfl) ?_
  rw [hl]
  exact hr
noncomputable def plans42 (i : Nat) : Plan := []
noncomputable def T42 (p : Nat) : List Item × List Nat := bif Nat.beq p 0 then ([.code (match Go.Proofs.Try.f42.body with | some c => c | none => .skip)], [0, 1, 2]) else
  ([], [])
noncomputable def F42_q0 (D J : Disp) (S : St) (p0 : PV) (x1 : Int) (x2 : Int) (K : AV → St → Prop) : Prop :=
 PV.cs p0 fun b300 n301 =>
 letK (α := Nat) ((n301 + 10)) fun n302 =>
 letK (α := Nat) ((n302 + 0)) fun n303 =>
 St.wr S b300 n303 [(SV.int IntKind.i64 x1)] fun S304 =>
 letK (α := Bool) ((ieq x1 (1 : Int))) fun c305 =>
 ifK c305
 (letK (α := Int) ((iand IntKind.i64 x2 (255 : Int))) fun x306 =>
 PV.cs p0 fun b307 n308 =>
 letK (α := Nat) ((n308 + 10)) fun n309 =>
 letK (α := Nat) ((n309 + 1)) fun n310 =>
 St.wr S304 b307 n310 [(SV.int IntKind.i64 x306)] fun S311 =>
 K ((AV.tup [])) S311)
 (K ((AV.tup [])) S304)
noncomputable def F42_0 (D J : Disp) (p0 : PV) (x1 : Int) (x2 : Int) (S : St) (K : AV → St → Prop) : Prop :=
 F42_q0 D J S p0 x1 x2 K
noncomputable def X42_0 : X := (.op (.op (.br (.op .ret) .ret)))
theorem F42_0_eq (D J : Disp) (p0 : PV) (x1 : Int) (x2 : Int) (S : St) (K : AV → St → Prop) : F42_0 D J p0 x1 x2 S K = execK IrP IrG Go.Proofs.Try.f42 (typed IrP D) J plans42 X42_0 (T42 0).1 (envOf (T42 0).2 [(AV.one (V1.s (SV.ptr p0))), (AV.one (V1.s (SV.int IntKind.i64 x1))), (AV.one (V1.s (SV.int IntKind.i64 x2)))]) S K := by kernel_rfl
noncomputable abbrev A42_0 (D J : Disp) (vals : List AV) (S : St) (K : AV → St → Prop) : Prop :=
  uncA vals fun a9001 r9002 => scK a9001 fun s9004 => SV.cP s9004 fun p0 => uncA r9002 fun a9007 r9008 => scK a9007 fun s9010 => SV.cI IntKind.i64 s9010 fun x1 => uncA r9008 fun a9013 r9014 => scK a9013 fun s9016 => SV.cI IntKind.i64 s9016 fun x2 => endL r9014 <| F42_0 D J p0 x1 x2 S K
theorem A42_0_ok {D J : Disp} (hD : DOK IrP IrG D) (hJ : JOK IrP IrG Go.Proofs.Try.f42 T42 J) {vals : List AV} {S : St} {K : AV → St → Prop} (h0 : A42_0 D J vals S K) : Runs IrP IrG Go.Proofs.Try.f42 (T42 0).1 (envOf (T42 0).2 vals) S K := by
  obtain ⟨a9001, r9002, rfl, h3⟩ := uncA_some h0
  obtain ⟨s9004, rfl, h5⟩ := scK_some h3
  obtain ⟨p0, rfl, h6⟩ := cP_some h5
  obtain ⟨a9007, r9008, rfl, h9⟩ := uncA_some h6
  obtain ⟨s9010, rfl, h11⟩ := scK_some h9
  obtain ⟨x1, rfl, h12⟩ := cI_some h11
  obtain ⟨a9013, r9014, rfl, h15⟩ := uncA_some h12
  obtain ⟨s9016, rfl, h17⟩ := scK_some h15
  obtain ⟨x2, rfl, h18⟩ := cI_some h17
  obtain ⟨rfl, h19⟩ := endL_some h18
  have hq := Eq.mp (F42_0_eq D J p0 x1 x2 S K) h19
  exact execK_runs hD.typed Ir_zero Ir_mixed hJ X42_0 (T42 0).1 (envOf (T42 0).2 _) S K (chk_of (by kernel_rfl) (by kernel_rfl)) hq
noncomputable def J42 (D : Disp) (k : Nat) : Disp := Nat.rec (motive := fun _ => Disp) Disp.no (fun _ ih => Disp.add 0 (A42_0 D ih) <| Disp.no) k
theorem J42_ok {D : Disp} (hD : DOK IrP IrG D) : ∀ k, JOK IrP IrG Go.Proofs.Try.f42 T42 (J42 D k)
  | 0 => JOK.no
  | k + 1 => JOK.add (ltB_ok (by kernel_rfl)) (fun vals S K h => A42_0_ok hD (J42_ok hD k) h) <| JOK.no
theorem E42_ok {D : Disp} (hD : DOK IrP IrG D) (k : Nat) {args : List AV} {S : St} {K : AV → St → Prop} (h : A42_0 D (J42 D k) args S K) : CallE IrP IrG 42 args S K := by
  have hr := A42_0_ok hD (J42_ok hD k) h
  have hl : args.length = 3 := by
    have h0 := h
    obtain ⟨a9001, r9002, rfl, h3⟩ := uncA_some h0
    obtain ⟨s9004, rfl, h5⟩ := scK_some h3
    obtain ⟨p0, rfl, h6⟩ := cP_some h5
    obtain ⟨a9007, r9008, rfl, h9⟩ := uncA_some h6
    obtain ⟨s9010, rfl, h11⟩ := scK_some h9
    obtain ⟨x1, rfl, h12⟩ := cI_some h11
    obtain ⟨a9013, r9014, rfl, h15⟩ := uncA_some h12
    obtain ⟨s9016, rfl, h17⟩ := scK_some h15
    obtain ⟨x2, rfl, h18⟩ := cI_some h17
    obtain ⟨rfl, h19⟩ := endL_some h18
    rfl
  refine callOK_of (fn := Go.Proofs.Try.f42) (c := (match Go.Proofs.Try.f42.body with | some c => c | none => .skip)) (by kernel_rfl) (by kernel_rfl) (by kernel_rfl) (by rw [hl]; kernel_rfl) (by kernel_rfl) ?_
  rw [hl]
  exact hr
end
end Go.Xe
