/- A part of the proof: XF_mem_1. -/
import Derived.Test.YticjocbgadgjpaaXFmem0
import Derived.KernelRfl
set_option linter.unusedVariables false
set_option linter.unusedSimpArgs false
set_option linter.constructorNameAsVariable false
set_option linter.unusedVariables false
set_option maxRecDepth 100000
namespace Go.Xe
open Go.RowKit
noncomputable section
noncomputable def plans3 (i : Nat) : Plan := if Nat.beq i 29 then [(0, []), (1, []), (2, [1]), (3, [2, 1]), (4, [3, 2, 1]), (5, [0, 4, 3, 2, 1]), (6, [5, 0, 4, 3, 2, 1]), (7, [6, 5, 0, 4, 3, 2, 1]), (8, [7, 6, 5, 0, 4, 3, 2, 1]), (9, [6, 5, 0, 4, 3, 2, 1]), (10, [9, 6, 5, 0, 4, 3, 2, 1]), (11, [10, 6, 9, 5, 0, 4, 3, 2, 1]), (12, [8, 11, 6, 7, 10, 5, 9, 0, 4, 3, 2, 1]), (13, [6, 12, 5, 8, 11, 0, 4, 7, 10, 3, 9, 2, 1]), (14, [13, 6, 12, 5, 8, 11, 0, 4, 7, 10, 3, 9, 2, 1]), (15, [14, 13, 6, 12, 5, 8, 11, 0, 4, 7, 10, 3, 9, 2, 1]), (16, [14, 15, 13, 6, 12, 5, 8, 11, 0, 4, 7, 10, 3, 9, 2, 1]), (17, [16, 14, 15, 13, 6, 12, 5, 8, 11, 0, 4, 7, 10, 3, 9, 2, 1]), (18, [17, 16, 14, 15, 13, 6, 12, 5, 8, 11, 0, 4, 7, 10, 3, 9, 2, 1]), (19, [17, 18, 16, 14, 15, 13, 6, 12, 5, 8, 11, 0, 4, 7, 10, 3, 9, 2, 1])] else []
noncomputable def T3 (p : Nat) : List Item × List Nat := bif Nat.beq p 0 then ([.code (match Go.Proofs.Try.f3.body with | some c => c | none => .skip)], [0, 1]) else
  bif Nat.beq p 13 then (navs [.op, .op, .op, .el, .op, .op, .el, .op, .op] [.code (match Go.Proofs.Try.f3.body with | some c => c | none => .skip)], [0, 1, 5, 6, 7]) else
  bif Nat.beq p 20 then (navs [.op, .op, .op, .el, .op, .op, .el, .op, .op, .op, .el, .op, .op, .op] [.code (match Go.Proofs.Try.f3.body with | some c => c | none => .skip)], [0, 1, 5, 8, 9, 10]) else
  bif Nat.beq p 30 then (navs [.op, .op, .op, .el, .op, .op, .el, .op, .op, .op, .el, .op, .op, .op, .op, .el, .op] [.code (match Go.Proofs.Try.f3.body with | some c => c | none => .skip)], [0, 5, 8, 9, 12]) else
  bif Nat.beq p 38 then (navs [.op, .op, .op, .el, .op, .op, .el, .op, .op, .op, .el, .op, .op, .op, .op, .el, .op, .op, .th, .op, .op, .op, .op, .op, .op] [.code (match Go.Proofs.Try.f3.body with | some c => c | none => .skip)], [0, 5, 8, 9, 12, 127]) else
  ([], [])
noncomputable def F3_q26 (D J : Disp) (l1 : LV) (S301 : St) (x307 : Int) (K : AV → St → Prop) : Prop :=
 D 7 [] S301 fun v324 S325 =>
 scK v324 fun v327 =>
 SV.cP v327 fun y332 =>
 optK (eqA MemP 1 25 (V1.s (SV.ptr y332)) (V1.s (SV.ptr PV.nil))) fun y333 =>
 ifK y333
 (K ((AV.one (V1.s (SV.bool Bool.false)))) S325)
 (J 13 [(AV.one (V1.s (SV.int IntKind.i64 x307))), (AV.one (V1.s (SV.sl l1))), (AV.one (V1.s (SV.ptr y332))), (AV.one (V1.s (SV.sl LV.nil))), (AV.one (V1.s (SV.int IntKind.i64 (0 : Int))))] S325 K)
noncomputable def F3_q27 (D J : Disp) (S : St) (x0 : Int) (l1 : LV) (K : AV → St → Prop) : Prop :=
 D 5 [(AV.one (V1.s (SV.int IntKind.i64 x0))), (AV.one (V1.s (SV.int IntKind.i64 (20 : Int))))] S fun v300 S301 =>
 scK v300 fun v303 =>
 SV.cI IntKind.i64 v303 fun x306 =>
 letK (α := Int) ((iwrap IntKind.i64 ((1 : Int) + x306))) fun x307 =>
 letK (α := Int) ((Int.ofNat (LV.len l1))) fun x308 =>
 letK (α := Bool) ((ilt (40 : Int) x308)) fun c309 =>
 ifK c309
 (D 6 [] S301 fun v310 S311 =>
 scK v310 fun v313 =>
 SV.cB v313 fun y314 =>
 K ((AV.one (V1.s (SV.bool y314)))) S311)
 (F3_q26 D J l1 S301 x307 K)
noncomputable def F3_0 (D J : Disp) (x0 : Int) (l1 : LV) (S : St) (K : AV → St → Prop) : Prop :=
 F3_q27 D J S x0 l1 K
noncomputable def X3_0 : X := (.op (.op (.op (.br (.op .ret) (.op (.op (.br (.op .ret) (.op (.op (.jmp 13 [0, 1, 5, 6, 7]))))))))))
theorem F3_0_eq (D J : Disp) (x0 : Int) (l1 : LV) (S : St) (K : AV → St → Prop) : F3_0 D J x0 l1 S K = execK MemP MemG Go.Proofs.Try.f3 (typed MemP D) J plans3 X3_0 (T3 0).1 (envOf (T3 0).2 [(AV.one (V1.s (SV.int IntKind.i64 x0))), (AV.one (V1.s (SV.sl l1)))]) S K := by kernel_rfl
noncomputable def F3_q28 (D J : Disp) (S : St) (x0 : Int) (l1 : LV) (p5 : PV) (l6 : LV) (x7 : Int) (x301 : Int) (K : AV → St → Prop) : Prop :=
 letK (α := (Sum Nat Nat)) ((Sum.inl 1)) fun d302 =>
 letK (α := St) ((St.add S (AO.cells [(SV.int IntKind.i64 x301), (SV.str [105, 51, 50])] Op2.sh))) fun S303 =>
 St.src S303 2 (LV.mk (Bk.new (St.next S)) 0 1 d302) fun y304 n305 =>
 St.app S303 29 2 24 l6 y304 n305 fun y306 S307 =>
 letK (α := Int) ((iwrap IntKind.i64 (x7 + (1 : Int)))) fun x308 =>
 J 13 [(AV.one (V1.s (SV.int IntKind.i64 x0))), (AV.one (V1.s (SV.sl l1))), (AV.one (V1.s (SV.ptr p5))), (AV.one (V1.s (SV.sl y306))), (AV.one (V1.s (SV.int IntKind.i64 x308)))] S307 K
noncomputable def F3_q29 (D J : Disp) (x0 : Int) (l1 : LV) (p5 : PV) (S311 : St) (x316 : Int) (K : AV → St → Prop) : Prop :=
 letK (α := St) ((St.add S311 (AO.cells [(SV.int IntKind.i64 (0 : Int)), (SV.int IntKind.i64 (0 : Int)), (SV.int IntKind.i64 (0 : Int)), (SV.int IntKind.i64 (0 : Int)), (SV.int IntKind.i64 (0 : Int)), (SV.int IntKind.i64 (0 : Int)), (SV.int IntKind.i64 (0 : Int)), (SV.int IntKind.i64 (0 : Int)), (SV.int IntKind.i64 (0 : Int)), (SV.int IntKind.i64 (0 : Int)), (SV.int IntKind.i64 (0 : Int)), (SV.int IntKind.i64 (0 : Int)), (SV.int IntKind.i64 (0 : Int)), (SV.int IntKind.i64 (0 : Int)), (SV.int IntKind.i64 (0 : Int)), (SV.int IntKind.i64 (0 : Int)), (SV.int IntKind.i64 (0 : Int)), (SV.int IntKind.i64 (0 : Int)), (SV.int IntKind.i64 (0 : Int)), (SV.int IntKind.i64 (0 : Int))] (Op2.ty 31)))) fun S317 =>
 J 20 [(AV.one (V1.s (SV.int IntKind.i64 x0))), (AV.one (V1.s (SV.sl l1))), (AV.one (V1.s (SV.ptr p5))), (AV.one (V1.s (SV.int IntKind.i64 x316))), (AV.one (V1.s (SV.ptr (PV.mk (Bk.new (St.next S311)) 0)))), (AV.one (V1.s (SV.int IntKind.i64 (0 : Int))))] S317 K
noncomputable def F3_q30 (D J : Disp) (S : St) (x0 : Int) (l1 : LV) (p5 : PV) (l6 : LV) (x7 : Int) (K : AV → St → Prop) : Prop :=
 letK (α := Bool) ((ilt x7 x0)) fun c300 =>
 ifK c300
 (letK (α := Int) ((iwrap IntKind.i64 ((4 : Int) * x7))) fun x301 =>
 F3_q28 D J S x0 l1 p5 l6 x7 x301 K)
 (letK (α := Int) ((iwrap IntKind.i64 ((4 : Int) * x0))) fun x309 =>
 D 8 [(AV.one (V1.s (SV.ptr p5))), (AV.one (V1.s (SV.int IntKind.i64 x309))), (AV.one (V1.s (SV.sl l6)))] S fun v310 S311 =>
 scK v310 fun v313 =>
 SV.cI IntKind.i64 v313 fun x316 =>
 F3_q29 D J x0 l1 p5 S311 x316 K)
noncomputable def F3_13 (D J : Disp) (x0 : Int) (l1 : LV) (p5 : PV) (l6 : LV) (x7 : Int) (S : St) (K : AV → St → Prop) : Prop :=
 F3_q30 D J S x0 l1 p5 l6 x7 K
noncomputable def X3_13 : X := (.op (.br (.op (.op (.jmp 13 [0, 1, 5, 6, 7]))) (.op (.op (.op (.jmp 20 [0, 1, 5, 8, 9, 10]))))))
theorem F3_13_eq (D J : Disp) (x0 : Int) (l1 : LV) (p5 : PV) (l6 : LV) (x7 : Int) (S : St) (K : AV → St → Prop) : F3_13 D J x0 l1 p5 l6 x7 S K = execK MemP MemG Go.Proofs.Try.f3 (typed MemP D) J plans3 X3_13 (T3 13).1 (envOf (T3 13).2 [(AV.one (V1.s (SV.int IntKind.i64 x0))), (AV.one (V1.s (SV.sl l1))), (AV.one (V1.s (SV.ptr p5))), (AV.one (V1.s (SV.sl l6))), (AV.one (V1.s (SV.int IntKind.i64 x7)))]) S K := by kernel_rfl
noncomputable def F3_q31 (D J : Disp) (x0 : Int) (l1 : LV) (p5 : PV) (x8 : Int) (p9 : PV) (x10 : Int) (S325 : St) (x326 : Int) (x327 : Int) (K : AV → St → Prop) : Prop :=
 D 9 [(AV.one (V1.s (SV.ptr p5))), (AV.one (V1.agg [(SV.int IntKind.i64 (2 : Int)), (SV.int IntKind.i64 (0 : Int)), (SV.int IntKind.i64 x8), (SV.int IntKind.i64 x326)])), (AV.one (V1.s (SV.str [105, 51, 50]))), (AV.one (V1.agg [(SV.int IntKind.i64 (1 : Int)), (SV.int IntKind.i64 x327), (SV.int IntKind.i64 (0 : Int)), (SV.int IntKind.i64 (0 : Int))]))] S325 fun v328 S329 =>
 scK v328 fun v331 =>
 SV.cB v331 fun y332 =>
 letK (α := Bool) ((Bool.not y332)) fun c333 =>
 ifK c333
 (K ((AV.one (V1.s (SV.bool Bool.false)))) S329)
 (letK (α := Int) ((iwrap IntKind.i64 (x10 + (1 : Int)))) fun x334 =>
 J 20 [(AV.one (V1.s (SV.int IntKind.i64 x0))), (AV.one (V1.s (SV.sl l1))), (AV.one (V1.s (SV.ptr p5))), (AV.one (V1.s (SV.int IntKind.i64 x8))), (AV.one (V1.s (SV.ptr p9))), (AV.one (V1.s (SV.int IntKind.i64 x334)))] S329 K)
noncomputable def F3_q32 (D J : Disp) (S : St) (x0 : Int) (l1 : LV) (p5 : PV) (x8 : Int) (p9 : PV) (x10 : Int) (x313 : Int) (K : AV → St → Prop) : Prop :=
 D 5 [(AV.one (V1.s (SV.int IntKind.i64 x313))), (AV.one (V1.s (SV.int IntKind.i64 x0)))] S fun v314 S315 =>
 scK v314 fun v317 =>
 SV.cI IntKind.i64 v317 fun x320 =>
 letK (α := Int) ((iwrap IntKind.i64 (x10 + (1 : Int)))) fun x321 =>
 PV.cs p9 fun b322 n323 =>
 req (Bool.and (ile (0 : Int) x320) (ilt x320 (20 : Int))) <|
 letK (α := Nat) ((n323 + ((Int.toNat x320) * 1))) fun n324 =>
 St.wr S315 b322 n324 [(SV.int IntKind.i64 x321)] fun S325 =>
 letK (α := Int) ((iwrap IntKind.i64 ((4 : Int) * x320))) fun x326 =>
 letK (α := Int) ((iwrap IntKind.i64 (x10 + (1 : Int)))) fun x327 =>
 F3_q31 D J x0 l1 p5 x8 p9 x10 S325 x326 x327 K
noncomputable def F3_q33 (D J : Disp) (S : St) (x0 : Int) (l1 : LV) (p5 : PV) (x8 : Int) (p9 : PV) (x10 : Int) (c301 : Bool) (K : AV → St → Prop) : Prop :=
 ifK c301
 (LV.cs l1 fun b302 n303 n304 y305 =>
 req (Bool.and (ile (0 : Int) x10) (ilt x10 (Int.ofNat n304))) <|
 letK (α := Nat) ((n303 + ((Int.toNat x10) * 1))) fun n306 =>
 St.at S b302 n306 fun y307 =>
 uncK y307 fun v308 y309 =>
 SV.cI IntKind.i64 v308 fun x313 =>
 F3_q32 D J S x0 l1 p5 x8 p9 x10 x313 K)
 (J 30 [(AV.one (V1.s (SV.int IntKind.i64 x0))), (AV.one (V1.s (SV.ptr p5))), (AV.one (V1.s (SV.int IntKind.i64 x8))), (AV.one (V1.s (SV.ptr p9))), (AV.one (V1.s (SV.int IntKind.i64 (0 : Int))))] S K)
noncomputable def F3_20 (D J : Disp) (x0 : Int) (l1 : LV) (p5 : PV) (x8 : Int) (p9 : PV) (x10 : Int) (S : St) (K : AV → St → Prop) : Prop :=
 letK (α := Int) ((Int.ofNat (LV.len l1))) fun x300 =>
 letK (α := Bool) ((ilt x10 x300)) fun c301 =>
 F3_q33 D J S x0 l1 p5 x8 p9 x10 c301 K
noncomputable def X3_20 : X := (.op (.br (.op (.op (.op (.br (.op .ret) (.op (.jmp 20 [0, 1, 5, 8, 9, 10])))))) (.op (.jmp 30 [0, 5, 8, 9, 12]))))
theorem F3_20_eq (D J : Disp) (x0 : Int) (l1 : LV) (p5 : PV) (x8 : Int) (p9 : PV) (x10 : Int) (S : St) (K : AV → St → Prop) : F3_20 D J x0 l1 p5 x8 p9 x10 S K = execK MemP MemG Go.Proofs.Try.f3 (typed MemP D) J plans3 X3_20 (T3 20).1 (envOf (T3 20).2 [(AV.one (V1.s (SV.int IntKind.i64 x0))), (AV.one (V1.s (SV.sl l1))), (AV.one (V1.s (SV.ptr p5))), (AV.one (V1.s (SV.int IntKind.i64 x8))), (AV.one (V1.s (SV.ptr p9))), (AV.one (V1.s (SV.int IntKind.i64 x10)))]) S K := by kernel_rfl
noncomputable def F3_q34 (D J : Disp) (x0 : Int) (p5 : PV) (x8 : Int) (p9 : PV) (x12 : Int) (y431 : Bool) (y505 : Bool) (S507 : St) (K : AV → St → Prop) : Prop :=
 ifK y431
 (J 38 [(AV.one (V1.s (SV.int IntKind.i64 x0))), (AV.one (V1.s (SV.ptr p5))), (AV.one (V1.s (SV.int IntKind.i64 x8))), (AV.one (V1.s (SV.ptr p9))), (AV.one (V1.s (SV.int IntKind.i64 x12))), (AV.one (V1.s (SV.bool Bool.true)))] S507 K)
 (J 38 [(AV.one (V1.s (SV.int IntKind.i64 x0))), (AV.one (V1.s (SV.ptr p5))), (AV.one (V1.s (SV.int IntKind.i64 x8))), (AV.one (V1.s (SV.ptr p9))), (AV.one (V1.s (SV.int IntKind.i64 x12))), (AV.one (V1.s (SV.bool y505)))] S507 K)
noncomputable def F3_q35 (D J : Disp) (x0 : Int) (p5 : PV) (x8 : Int) (p9 : PV) (x12 : Int) (y431 : Bool) (y505 : Bool) (S507 : St) (x526 : Int) (b527 : Bk) (n529 : Nat) (K : AV → St → Prop) : Prop :=
 St.at S507 b527 n529 fun y530 =>
 uncK y530 fun v531 y532 =>
 SV.cI IntKind.i64 v531 fun x536 =>
 letK (α := Bool) ((Bool.not (ieq x526 x536))) fun c537 =>
 ifK c537
 (J 38 [(AV.one (V1.s (SV.int IntKind.i64 x0))), (AV.one (V1.s (SV.ptr p5))), (AV.one (V1.s (SV.int IntKind.i64 x8))), (AV.one (V1.s (SV.ptr p9))), (AV.one (V1.s (SV.int IntKind.i64 x12))), (AV.one (V1.s (SV.bool Bool.true)))] S507 K)
 (F3_q34 D J x0 p5 x8 p9 x12 y431 y505 S507 K)
noncomputable def F3_q36 (D J : Disp) (x0 : Int) (p5 : PV) (x8 : Int) (p9 : PV) (x12 : Int) (S330 : St) (y431 : Bool) (y505 : Bool) (S507 : St) (c519 : Bool) (K : AV → St → Prop) : Prop :=
 ifK c519
 (J 38 [(AV.one (V1.s (SV.int IntKind.i64 x0))), (AV.one (V1.s (SV.ptr p5))), (AV.one (V1.s (SV.int IntKind.i64 x8))), (AV.one (V1.s (SV.ptr p9))), (AV.one (V1.s (SV.int IntKind.i64 x12))), (AV.one (V1.s (SV.bool Bool.true)))] S507 K)
 (St.at S507 (Bk.new (St.next S330)) 1 fun y520 =>
 uncK y520 fun v521 y522 =>
 SV.cI IntKind.i64 v521 fun x526 =>
 PV.cs p9 fun b527 n528 =>
 req (Bool.and (ile (0 : Int) x12) (ilt x12 (20 : Int))) <|
 letK (α := Nat) ((n528 + ((Int.toNat x12) * 1))) fun n529 =>
 F3_q35 D J x0 p5 x8 p9 x12 y431 y505 S507 x526 b527 n529 K)
noncomputable def F3_q37 (D J : Disp) (x0 : Int) (p5 : PV) (x8 : Int) (p9 : PV) (x12 : Int) (S330 : St) (y366 : Bool) (y431 : Bool) (S469 : St) (x482 : Int) (x488 : Int) (x494 : Int) (x500 : Int) (y505 : Bool) (S506 : St) (K : AV → St → Prop) : Prop :=
 St.wr S506 (Bk.new (St.next S469)) 0 [(SV.int IntKind.i64 x482), (SV.int IntKind.i64 x488), (SV.int IntKind.i64 x494), (SV.int IntKind.i64 x500)] fun S507 =>
 PV.cs p9 fun b508 n509 =>
 req (Bool.and (ile (0 : Int) x12) (ilt x12 (20 : Int))) <|
 letK (α := Nat) ((n509 + ((Int.toNat x12) * 1))) fun n510 =>
 St.at S507 b508 n510 fun y511 =>
 uncK y511 fun v512 y513 =>
 SV.cI IntKind.i64 v512 fun x517 =>
 letK (α := Bool) ((ilt (0 : Int) x517)) fun c518 =>
 letK (α := Bool) ((Bool.not (BEq.beq y366 c518))) fun c519 =>
 F3_q36 D J x0 p5 x8 p9 x12 S330 y431 y505 S507 c519 K
noncomputable def F3_q38 (D J : Disp) (x0 : Int) (p5 : PV) (x8 : Int) (p9 : PV) (x12 : Int) (S330 : St) (y366 : Bool) (y431 : Bool) (S442 : St) (x449 : Int) (x455 : Int) (x461 : Int) (x467 : Int) (K : AV → St → Prop) : Prop :=
 D 10 [(AV.one (V1.s (SV.ptr p5))), (AV.one (V1.agg [(SV.int IntKind.i64 x449), (SV.int IntKind.i64 x455), (SV.int IntKind.i64 x461), (SV.int IntKind.i64 x467)])), (AV.one (V1.s (SV.str [105, 51, 50])))] S442 fun v468 S469 =>
 avT v468 fun y471 =>
 uncV y471 fun v472 y473 =>
 v1A v472 fun y476 =>
 req (Nat.beq (List.length y476) 4) <|
 uncK y476 fun v477 y478 =>
 SV.cI IntKind.i64 v477 fun x482 =>
 uncK y478 fun v483 y484 =>
 SV.cI IntKind.i64 v483 fun x488 =>
 uncK y484 fun v489 y490 =>
 SV.cI IntKind.i64 v489 fun x494 =>
 uncK y490 fun v495 y496 =>
 SV.cI IntKind.i64 v495 fun x500 =>
 uncV y473 fun v501 y502 =>
 v1S v501 fun v504 =>
 SV.cB v504 fun y505 =>
 endL y502 (letK (α := St) ((St.add S469 (AO.cells [(SV.int IntKind.i64 (0 : Int)), (SV.int IntKind.i64 (0 : Int)), (SV.int IntKind.i64 (0 : Int)), (SV.int IntKind.i64 (0 : Int))] (Op2.ty 34)))) fun S506 =>
 F3_q37 D J x0 p5 x8 p9 x12 S330 y366 y431 S469 x482 x488 x494 x500 y505 S506 K)
noncomputable def F3_q39 (D J : Disp) (S : St) (x0 : Int) (p5 : PV) (x8 : Int) (p9 : PV) (x12 : Int) (S330 : St) (y366 : Bool) (y431 : Bool) (S433 : St) (x441 : Int) (K : AV → St → Prop) : Prop :=
 St.wr S433 (Bk.new (St.next S)) 3 [(SV.int IntKind.i64 x441)] fun S442 =>
 St.at S442 (Bk.new (St.next S)) 0 fun y443 =>
 uncK y443 fun v444 y445 =>
 SV.cI IntKind.i64 v444 fun x449 =>
 uncK y445 fun v450 y451 =>
 SV.cI IntKind.i64 v450 fun x455 =>
 uncK y451 fun v456 y457 =>
 SV.cI IntKind.i64 v456 fun x461 =>
 uncK y457 fun v462 y463 =>
 SV.cI IntKind.i64 v462 fun x467 =>
 F3_q38 D J x0 p5 x8 p9 x12 S330 y366 y431 S442 x449 x455 x461 x467 K
noncomputable def F3_q40 (D J : Disp) (S : St) (x0 : Int) (p5 : PV) (x8 : Int) (p9 : PV) (x12 : Int) (S330 : St) (y366 : Bool) (S395 : St) (x408 : Int) (x414 : Int) (x420 : Int) (x426 : Int) (y431 : Bool) (K : AV → St → Prop) : Prop :=
 letK (α := St) ((St.add S395 (AO.cells [(SV.int IntKind.i64 (0 : Int)), (SV.int IntKind.i64 (0 : Int)), (SV.int IntKind.i64 (0 : Int)), (SV.int IntKind.i64 (0 : Int))] (Op2.ty 34)))) fun S432 =>
 St.wr S432 (Bk.new (St.next S395)) 0 [(SV.int IntKind.i64 x408), (SV.int IntKind.i64 x414), (SV.int IntKind.i64 x420), (SV.int IntKind.i64 x426)] fun S433 =>
 St.at S433 (Bk.new (St.next S)) 3 fun y434 =>
 uncK y434 fun v435 y436 =>
 SV.cI IntKind.i64 v435 fun x440 =>
 letK (α := Int) ((iwrap IntKind.i64 (x440 + (1 : Int)))) fun x441 =>
 F3_q39 D J S x0 p5 x8 p9 x12 S330 y366 y431 S433 x441 K
noncomputable def F3_q41 (D J : Disp) (S : St) (x0 : Int) (p5 : PV) (x8 : Int) (p9 : PV) (x12 : Int) (S330 : St) (y366 : Bool) (S368 : St) (x375 : Int) (x381 : Int) (x387 : Int) (x393 : Int) (K : AV → St → Prop) : Prop :=
 D 10 [(AV.one (V1.s (SV.ptr p5))), (AV.one (V1.agg [(SV.int IntKind.i64 x375), (SV.int IntKind.i64 x381), (SV.int IntKind.i64 x387), (SV.int IntKind.i64 x393)])), (AV.one (V1.s (SV.str [117, 51, 50])))] S368 fun v394 S395 =>
 avT v394 fun y397 =>
 uncV y397 fun v398 y399 =>
 v1A v398 fun y402 =>
 req (Nat.beq (List.length y402) 4) <|
 uncK y402 fun v403 y404 =>
 SV.cI IntKind.i64 v403 fun x408 =>
 uncK y404 fun v409 y410 =>
 SV.cI IntKind.i64 v409 fun x414 =>
 uncK y410 fun v415 y416 =>
 SV.cI IntKind.i64 v415 fun x420 =>
 uncK y416 fun v421 y422 =>
 SV.cI IntKind.i64 v421 fun x426 =>
 uncV y399 fun v427 y428 =>
 v1S v427 fun v430 =>
 SV.cB v430 fun y431 =>
 endL y428 (F3_q40 D J S x0 p5 x8 p9 x12 S330 y366 S395 x408 x414 x420 x426 y431 K)
noncomputable def F3_q42 (D J : Disp) (S : St) (x0 : Int) (p5 : PV) (x8 : Int) (p9 : PV) (x12 : Int) (S330 : St) (x343 : Int) (x349 : Int) (x355 : Int) (x361 : Int) (y366 : Bool) (S367 : St) (K : AV → St → Prop) : Prop :=
 St.wr S367 (Bk.new (St.next S330)) 0 [(SV.int IntKind.i64 x343), (SV.int IntKind.i64 x349), (SV.int IntKind.i64 x355), (SV.int IntKind.i64 x361)] fun S368 =>
 St.at S368 (Bk.new (St.next S)) 0 fun y369 =>
 uncK y369 fun v370 y371 =>
 SV.cI IntKind.i64 v370 fun x375 =>
 uncK y371 fun v376 y377 =>
 SV.cI IntKind.i64 v376 fun x381 =>
 uncK y377 fun v382 y383 =>
 SV.cI IntKind.i64 v382 fun x387 =>
 uncK y383 fun v388 y389 =>
 SV.cI IntKind.i64 v388 fun x393 =>
 F3_q41 D J S x0 p5 x8 p9 x12 S330 y366 S368 x375 x381 x387 x393 K
noncomputable def F3_q43 (D J : Disp) (S : St) (x0 : Int) (p5 : PV) (x8 : Int) (p9 : PV) (x12 : Int) (S303 : St) (x310 : Int) (x316 : Int) (x322 : Int) (x328 : Int) (K : AV → St → Prop) : Prop :=
 D 10 [(AV.one (V1.s (SV.ptr p5))), (AV.one (V1.agg [(SV.int IntKind.i64 x310), (SV.int IntKind.i64 x316), (SV.int IntKind.i64 x322), (SV.int IntKind.i64 x328)])), (AV.one (V1.s (SV.str [105, 51, 50])))] S303 fun v329 S330 =>
 avT v329 fun y332 =>
 uncV y332 fun v333 y334 =>
 v1A v333 fun y337 =>
 req (Nat.beq (List.length y337) 4) <|
 uncK y337 fun v338 y339 =>
 SV.cI IntKind.i64 v338 fun x343 =>
 uncK y339 fun v344 y345 =>
 SV.cI IntKind.i64 v344 fun x349 =>
 uncK y345 fun v350 y351 =>
 SV.cI IntKind.i64 v350 fun x355 =>
 uncK y351 fun v356 y357 =>
 SV.cI IntKind.i64 v356 fun x361 =>
 uncV y334 fun v362 y363 =>
 v1S v362 fun v365 =>
 SV.cB v365 fun y366 =>
 endL y363 (letK (α := St) ((St.add S330 (AO.cells [(SV.int IntKind.i64 (0 : Int)), (SV.int IntKind.i64 (0 : Int)), (SV.int IntKind.i64 (0 : Int)), (SV.int IntKind.i64 (0 : Int))] (Op2.ty 34)))) fun S367 =>
 F3_q42 D J S x0 p5 x8 p9 x12 S330 x343 x349 x355 x361 y366 S367 K)
noncomputable def F3_q44 (D J : Disp) (S : St) (x0 : Int) (p5 : PV) (x8 : Int) (p9 : PV) (x12 : Int) (x301 : Int) (S302 : St) (K : AV → St → Prop) : Prop :=
 St.wr S302 (Bk.new (St.next S)) 0 [(SV.int IntKind.i64 (2 : Int)), (SV.int IntKind.i64 (0 : Int)), (SV.int IntKind.i64 x8), (SV.int IntKind.i64 x301)] fun S303 =>
 St.at S303 (Bk.new (St.next S)) 0 fun y304 =>
 uncK y304 fun v305 y306 =>
 SV.cI IntKind.i64 v305 fun x310 =>
 uncK y306 fun v311 y312 =>
 SV.cI IntKind.i64 v311 fun x316 =>
 uncK y312 fun v317 y318 =>
 SV.cI IntKind.i64 v317 fun x322 =>
 uncK y318 fun v323 y324 =>
 SV.cI IntKind.i64 v323 fun x328 =>
 F3_q43 D J S x0 p5 x8 p9 x12 S303 x310 x316 x322 x328 K
noncomputable def F3_q45 (D J : Disp) (p5 : PV) (x8 : Int) (S810 : St) (c816 : Bool) (K : AV → St → Prop) : Prop :=
 ifK c816
 (D 12 [(AV.one (V1.s (SV.ptr p5))), (AV.one (V1.s (SV.int IntKind.i64 x8)))] S810 fun v817 S818 =>
 scK v817 fun v820 =>
 SV.cI IntKind.i64 v820 fun x823 =>
 letK (α := Bool) ((ieq x823 (0 : Int))) fun c824 =>
 ifK c824
 (D 6 [] S818 fun v825 S826 =>
 scK v825 fun v828 =>
 SV.cB v828 fun y829 =>
 K ((AV.one (V1.s (SV.bool y829)))) S826)
 (K ((AV.one (V1.s (SV.bool Bool.false)))) S818))
 (K ((AV.one (V1.s (SV.bool Bool.false)))) S810)
noncomputable def F3_q46 (D J : Disp) (p5 : PV) (x8 : Int) (S798 : St) (K : AV → St → Prop) : Prop :=
 D 8 [(AV.one (V1.s (SV.ptr PV.nil))), (AV.one (V1.s (SV.int IntKind.i64 (4 : Int)))), (AV.one (V1.s (SV.sl LV.nil)))] S798 fun v801 S802 =>
 scK v801 fun v804 =>
 SV.cI IntKind.i64 v804 fun x807 =>
 letK (α := Bool) ((ieq x807 (0 : Int))) fun c808 =>
 ifK c808
 (D 12 [(AV.one (V1.s (SV.ptr PV.nil))), (AV.one (V1.s (SV.int IntKind.i64 (1 : Int))))] S802 fun v809 S810 =>
 scK v809 fun v812 =>
 SV.cI IntKind.i64 v812 fun x815 =>
 letK (α := Bool) ((ieq x815 (0 : Int))) fun c816 =>
 F3_q45 D J p5 x8 S810 c816 K)
 (K ((AV.one (V1.s (SV.bool Bool.false)))) S802)
noncomputable def F3_q47 (D J : Disp) (p5 : PV) (x8 : Int) (y752 : Bool) (S760 : St) (x773 : Int) (x779 : Int) (x785 : Int) (x791 : Int) (y796 : Bool) (K : AV → St → Prop) : Prop :=
 letK (α := St) ((St.add S760 (AO.cells [(SV.int IntKind.i64 (0 : Int)), (SV.int IntKind.i64 (0 : Int)), (SV.int IntKind.i64 (0 : Int)), (SV.int IntKind.i64 (0 : Int))] (Op2.ty 34)))) fun S797 =>
 St.wr S797 (Bk.new (St.next S760)) 0 [(SV.int IntKind.i64 x773), (SV.int IntKind.i64 x779), (SV.int IntKind.i64 x785), (SV.int IntKind.i64 x791)] fun S798 =>
 letK (α := Bool) ((Bool.not y752)) fun c799 =>
 ifK c799
 (letK (α := Bool) ((Bool.not y796)) fun c800 =>
 ifK c800
 (F3_q46 D J p5 x8 S798 K)
 (K ((AV.one (V1.s (SV.bool Bool.false)))) S798))
 (K ((AV.one (V1.s (SV.bool Bool.false)))) S798)
noncomputable def F3_q48 (D J : Disp) (p5 : PV) (x8 : Int) (y752 : Bool) (S756 : St) (K : AV → St → Prop) : Prop :=
 D 10 [(AV.one (V1.s (SV.ptr PV.nil))), (AV.one (V1.agg [(SV.int IntKind.i64 (0 : Int)), (SV.int IntKind.i64 (0 : Int)), (SV.int IntKind.i64 (0 : Int)), (SV.int IntKind.i64 (0 : Int))])), (AV.one (V1.s (SV.str [])))] S756 fun v759 S760 =>
 avT v759 fun y762 =>
 uncV y762 fun v763 y764 =>
 v1A v763 fun y767 =>
 req (Nat.beq (List.length y767) 4) <|
 uncK y767 fun v768 y769 =>
 SV.cI IntKind.i64 v768 fun x773 =>
 uncK y769 fun v774 y775 =>
 SV.cI IntKind.i64 v774 fun x779 =>
 uncK y775 fun v780 y781 =>
 SV.cI IntKind.i64 v780 fun x785 =>
 uncK y781 fun v786 y787 =>
 SV.cI IntKind.i64 v786 fun x791 =>
 uncV y764 fun v792 y793 =>
 v1S v792 fun v795 =>
 SV.cB v795 fun y796 =>
 endL y793 (F3_q47 D J p5 x8 y752 S760 x773 x779 x785 x791 y796 K)
noncomputable def F3_q49 (D J : Disp) (p5 : PV) (x8 : Int) (S716 : St) (x729 : Int) (x735 : Int) (x741 : Int) (x747 : Int) (y752 : Bool) (K : AV → St → Prop) : Prop :=
 letK (α := St) ((St.add S716 (AO.cells [(SV.int IntKind.i64 (0 : Int)), (SV.int IntKind.i64 (0 : Int)), (SV.int IntKind.i64 (0 : Int)), (SV.int IntKind.i64 (0 : Int))] (Op2.ty 34)))) fun S753 =>
 St.wr S753 (Bk.new (St.next S716)) 0 [(SV.int IntKind.i64 x729), (SV.int IntKind.i64 x735), (SV.int IntKind.i64 x741), (SV.int IntKind.i64 x747)] fun S754 =>
 D 11 [(AV.one (V1.s (SV.ptr PV.nil))), (AV.one (V1.s (SV.int IntKind.i64 (1 : Int))))] S754 fun v755 S756 =>
 avT v755 fun y758 =>
 endL y758 (F3_q48 D J p5 x8 y752 S756 K)
noncomputable def F3_q50 (D J : Disp) (p5 : PV) (x8 : Int) (S712 : St) (K : AV → St → Prop) : Prop :=
 D 10 [(AV.one (V1.s (SV.ptr p5))), (AV.one (V1.agg [(SV.int IntKind.i64 (2 : Int)), (SV.int IntKind.i64 (0 : Int)), (SV.int IntKind.i64 x8), (SV.int IntKind.i64 (0 : Int))])), (AV.one (V1.s (SV.str [105, 51, 50])))] S712 fun v715 S716 =>
 avT v715 fun y718 =>
 uncV y718 fun v719 y720 =>
 v1A v719 fun y723 =>
 req (Nat.beq (List.length y723) 4) <|
 uncK y723 fun v724 y725 =>
 SV.cI IntKind.i64 v724 fun x729 =>
 uncK y725 fun v730 y731 =>
 SV.cI IntKind.i64 v730 fun x735 =>
 uncK y731 fun v736 y737 =>
 SV.cI IntKind.i64 v736 fun x741 =>
 uncK y737 fun v742 y743 =>
 SV.cI IntKind.i64 v742 fun x747 =>
 uncV y720 fun v748 y749 =>
 v1S v748 fun v751 =>
 SV.cB v751 fun y752 =>
 endL y749 (F3_q49 D J p5 x8 S716 x729 x735 x741 x747 y752 K)
noncomputable def F3_q51 (D J : Disp) (S : St) (x0 : Int) (p5 : PV) (x8 : Int) (p9 : PV) (x12 : Int) (c300 : Bool) (K : AV → St → Prop) : Prop :=
 ifK c300
 (letK (α := Int) ((iwrap IntKind.i64 ((4 : Int) * x12))) fun x301 =>
 letK (α := St) ((St.add S (AO.cells [(SV.int IntKind.i64 (0 : Int)), (SV.int IntKind.i64 (0 : Int)), (SV.int IntKind.i64 (0 : Int)), (SV.int IntKind.i64 (0 : Int))] (Op2.ty 34)))) fun S302 =>
 F3_q44 D J S x0 p5 x8 p9 x12 x301 S302 K)
 (D 11 [(AV.one (V1.s (SV.ptr p5))), (AV.one (V1.s (SV.int IntKind.i64 x8)))] S fun v711 S712 =>
 avT v711 fun y714 =>
 endL y714 (F3_q50 D J p5 x8 S712 K))
noncomputable def F3_30 (D J : Disp) (x0 : Int) (p5 : PV) (x8 : Int) (p9 : PV) (x12 : Int) (S : St) (K : AV → St → Prop) : Prop :=
 letK (α := Bool) ((ilt x12 x0)) fun c300 =>
 F3_q51 D J S x0 p5 x8 p9 x12 c300 K
noncomputable def X3_30 : X := (.op (.br (.op (.op (.op (.op (.op (.op (.jmp 38 [0, 5, 8, 9, 12, 127]))))))) (.op (.op (.op (.op (.op (.op .ret))))))))
theorem F3_30_eq (D J : Disp) (x0 : Int) (p5 : PV) (x8 : Int) (p9 : PV) (x12 : Int) (S : St) (K : AV → St → Prop) : F3_30 D J x0 p5 x8 p9 x12 S K = execK MemP MemG Go.Proofs.Try.f3 (typed MemP D) J plans3 X3_30 (T3 30).1 (envOf (T3 30).2 [(AV.one (V1.s (SV.int IntKind.i64 x0))), (AV.one (V1.s (SV.ptr p5))), (AV.one (V1.s (SV.int IntKind.i64 x8))), (AV.one (V1.s (SV.ptr p9))), (AV.one (V1.s (SV.int IntKind.i64 x12)))]) S K := by kernel_rfl
noncomputable def F3_38 (D J : Disp) (x0 : Int) (p5 : PV) (x8 : Int) (p9 : PV) (x12 : Int) (c127 : Bool) (S : St) (K : AV → St → Prop) : Prop :=
 ifK c127
 (K ((AV.one (V1.s (SV.bool Bool.false)))) S)
 (letK (α := Int) ((iwrap IntKind.i64 (x12 + (1 : Int)))) fun x300 =>
 J 30 [(AV.one (V1.s (SV.int IntKind.i64 x0))), (AV.one (V1.s (SV.ptr p5))), (AV.one (V1.s (SV.int IntKind.i64 x8))), (AV.one (V1.s (SV.ptr p9))), (AV.one (V1.s (SV.int IntKind.i64 x300)))] S K)
noncomputable def X3_38 : X := (.br (.op .ret) (.op (.jmp 30 [0, 5, 8, 9, 12])))
theorem F3_38_eq (D J : Disp) (x0 : Int) (p5 : PV) (x8 : Int) (p9 : PV) (x12 : Int) (c127 : Bool) (S : St) (K : AV → St → Prop) : F3_38 D J x0 p5 x8 p9 x12 c127 S K = execK MemP MemG Go.Proofs.Try.f3 (typed MemP D) J plans3 X3_38 (T3 38).1 (envOf (T3 38).2 [(AV.one (V1.s (SV.int IntKind.i64 x0))), (AV.one (V1.s (SV.ptr p5))), (AV.one (V1.s (SV.int IntKind.i64 x8))), (AV.one (V1.s (SV.ptr p9))), (AV.one (V1.s (SV.int IntKind.i64 x12))), (AV.one (V1.s (SV.bool c127)))]) S K := by kernel_rfl
noncomputable abbrev A3_0 (D J : Disp) (vals : List AV) (S : St) (K : AV → St → Prop) : Prop :=
  uncA vals fun a9001 r9002 => scK a9001 fun s9004 => SV.cI IntKind.i64 s9004 fun x0 => uncA r9002 fun a9007 r9008 => scK a9007 fun s9010 => SV.cL s9010 fun l1 => endL r9008 <| F3_0 D J x0 l1 S K
theorem A3_0_ok {D J : Disp} (hD : DOK MemP MemG D) (hJ : JOK MemP MemG Go.Proofs.Try.f3 T3 J) {vals : List AV} {S : St} {K : AV → St → Prop} (h0 : A3_0 D J vals S K) : Runs MemP MemG Go.Proofs.Try.f3 (T3 0).1 (envOf (T3 0).2 vals) S K := by
  obtain ⟨a9001, r9002, rfl, h3⟩ := uncA_some h0
  obtain ⟨s9004, rfl, h5⟩ := scK_some h3
  obtain ⟨x0, rfl, h6⟩ := cI_some h5
  obtain ⟨a9007, r9008, rfl, h9⟩ := uncA_some h6
  obtain ⟨s9010, rfl, h11⟩ := scK_some h9
  obtain ⟨l1, rfl, h12⟩ := cL_some h11
  obtain ⟨rfl, h13⟩ := endL_some h12
  rw [F3_0_eq] at h13
  exact execK_runs hD.typed Mem_zero Mem_mixed hJ X3_0 (T3 0).1 (envOf (T3 0).2 _) S K (chk_of (by kernel_rfl) (by kernel_rfl)) h13
noncomputable abbrev A3_13 (D J : Disp) (vals : List AV) (S : St) (K : AV → St → Prop) : Prop :=
  uncA vals fun a9001 r9002 => scK a9001 fun s9004 => SV.cI IntKind.i64 s9004 fun x0 => uncA r9002 fun a9007 r9008 => scK a9007 fun s9010 => SV.cL s9010 fun l1 => uncA r9008 fun a9013 r9014 => scK a9013 fun s9016 => SV.cP s9016 fun p5 => uncA r9014 fun a9019 r9020 => scK a9019 fun s9022 => SV.cL s9022 fun l6 => uncA r9020 fun a9025 r9026 => scK a9025 fun s9028 => SV.cI IntKind.i64 s9028 fun x7 => endL r9026 <| F3_13 D J x0 l1 p5 l6 x7 S K
theorem A3_13_ok {D J : Disp} (hD : DOK MemP MemG D) (hJ : JOK MemP MemG Go.Proofs.Try.f3 T3 J) {vals : List AV} {S : St} {K : AV → St → Prop} (h0 : A3_13 D J vals S K) : Runs MemP MemG Go.Proofs.Try.f3 (T3 13).1 (envOf (T3 13).2 vals) S K := by
  obtain ⟨a9001, r9002, rfl, h3⟩ := uncA_some h0
  obtain ⟨s9004, rfl, h5⟩ := scK_some h3
  obtain ⟨x0, rfl, h6⟩ := cI_some h5
  obtain ⟨a9007, r9008, rfl, h9⟩ := uncA_some h6
  obtain ⟨s9010, rfl, h11⟩ := scK_some h9
  obtain ⟨l1, rfl, h12⟩ := cL_some h11
  obtain ⟨a9013, r9014, rfl, h15⟩ := uncA_some h12
  obtain ⟨s9016, rfl, h17⟩ := scK_some h15
  obtain ⟨p5, rfl, h18⟩ := cP_some h17
  obtain ⟨a9019, r9020, rfl, h21⟩ := uncA_some h18
  obtain ⟨s9022, rfl, h23⟩ := scK_some h21
  obtain ⟨l6, rfl, h24⟩ := cL_some h23
  obtain ⟨a9025, r9026, rfl, h27⟩ := uncA_some h24
  obtain ⟨s9028, rfl, h29⟩ := scK_some h27
  obtain ⟨x7, rfl, h30⟩ := cI_some h29
  obtain ⟨rfl, h31⟩ := endL_some h30
  rw [F3_13_eq] at h31
  exact execK_runs hD.typed Mem_zero Mem_mixed hJ X3_13 (T3 13).1 (envOf (T3 13).2 _) S K (chk_of (by kernel_rfl) (by kernel_rfl)) h31
noncomputable abbrev A3_20 (D J : Disp) (vals : List AV) (S : St) (K : AV → St → Prop) : Prop :=
  uncA vals fun a9001 r9002 => scK a9001 fun s9004 => SV.cI IntKind.i64 s9004 fun x0 => uncA r9002 fun a9007 r9008 => scK a9007 fun s9010 => SV.cL s9010 fun l1 => uncA r9008 fun a9013 r9014 => scK a9013 fun s9016 => SV.cP s9016 fun p5 => uncA r9014 fun a9019 r9020 => scK a9019 fun s9022 => SV.cI IntKind.i64 s9022 fun x8 => uncA r9020 fun a9025 r9026 => scK a9025 fun s9028 => SV.cP s9028 fun p9 => uncA r9026 fun a9031 r9032 => scK a9031 fun s9034 => SV.cI IntKind.i64 s9034 fun x10 => endL r9032 <| F3_20 D J x0 l1 p5 x8 p9 x10 S K
theorem A3_20_ok {D J : Disp} (hD : DOK MemP MemG D) (hJ : JOK MemP MemG Go.Proofs.Try.f3 T3 J) {vals : List AV} {S : St} {K : AV → St → Prop} (h0 : A3_20 D J vals S K) : Runs MemP MemG Go.Proofs.Try.f3 (T3 20).1 (envOf (T3 20).2 vals) S K := by
  obtain ⟨a9001, r9002, rfl, h3⟩ := uncA_some h0
  obtain ⟨s9004, rfl, h5⟩ := scK_some h3
  obtain ⟨x0, rfl, h6⟩ := cI_some h5
  obtain ⟨a9007, r9008, rfl, h9⟩ := uncA_some h6
  obtain ⟨s9010, rfl, h11⟩ := scK_some h9
  obtain ⟨l1, rfl, h12⟩ := cL_some h11
  obtain ⟨a9013, r9014, rfl, h15⟩ := uncA_some h12
  obtain ⟨s9016, rfl, h17⟩ := scK_some h15
  obtain ⟨p5, rfl, h18⟩ := cP_some h17
  obtain ⟨a9019, r9020, rfl, h21⟩ := uncA_some h18
  obtain ⟨s9022, rfl, h23⟩ := scK_some h21
  obtain ⟨x8, rfl, h24⟩ := cI_some h23
  obtain ⟨a9025, r9026, rfl, h27⟩ := uncA_some h24
  obtain ⟨s9028, rfl, h29⟩ := scK_some h27
  obtain ⟨p9, rfl, h30⟩ := cP_some h29
  obtain ⟨a9031, r9032, rfl, h33⟩ := uncA_some h30
  obtain ⟨s9034, rfl, h35⟩ := scK_some h33
  obtain ⟨x10, rfl, h36⟩ := cI_some h35
  obtain ⟨rfl, h37⟩ := endL_some h36
  rw [F3_20_eq] at h37
  exact execK_runs hD.typed Mem_zero Mem_mixed hJ X3_20 (T3 20).1 (envOf (T3 20).2 _) S K (chk_of (by kernel_rfl) (by kernel_rfl)) h37
noncomputable abbrev A3_30 (D J : Disp) (vals : List AV) (S : St) (K : AV → St → Prop) : Prop :=
  uncA vals fun a9001 r9002 => scK a9001 fun s9004 => SV.cI IntKind.i64 s9004 fun x0 => uncA r9002 fun a9007 r9008 => scK a9007 fun s9010 => SV.cP s9010 fun p5 => uncA r9008 fun a9013 r9014 => scK a9013 fun s9016 => SV.cI IntKind.i64 s9016 fun x8 => uncA r9014 fun a9019 r9020 => scK a9019 fun s9022 => SV.cP s9022 fun p9 => uncA r9020 fun a9025 r9026 => scK a9025 fun s9028 => SV.cI IntKind.i64 s9028 fun x12 => endL r9026 <| F3_30 D J x0 p5 x8 p9 x12 S K
theorem A3_30_ok {D J : Disp} (hD : DOK MemP MemG D) (hJ : JOK MemP MemG Go.Proofs.Try.f3 T3 J) {vals : List AV} {S : St} {K : AV → St → Prop} (h0 : A3_30 D J vals S K) : Runs MemP MemG Go.Proofs.Try.f3 (T3 30).1 (envOf (T3 30).2 vals) S K := by
  obtain ⟨a9001, r9002, rfl, h3⟩ := uncA_some h0
  obtain ⟨s9004, rfl, h5⟩ := scK_some h3
  obtain ⟨x0, rfl, h6⟩ := cI_some h5
  obtain ⟨a9007, r9008, rfl, h9⟩ := uncA_some h6
  obtain ⟨s9010, rfl, h11⟩ := scK_some h9
  obtain ⟨p5, rfl, h12⟩ := cP_some h11
  obtain ⟨a9013, r9014, rfl, h15⟩ := uncA_some h12
  obtain ⟨s9016, rfl, h17⟩ := scK_some h15
  obtain ⟨x8, rfl, h18⟩ := cI_some h17
  obtain ⟨a9019, r9020, rfl, h21⟩ := uncA_some h18
  obtain ⟨s9022, rfl, h23⟩ := scK_some h21
  obtain ⟨p9, rfl, h24⟩ := cP_some h23
  obtain ⟨a9025, r9026, rfl, h27⟩ := uncA_some h24
  obtain ⟨s9028, rfl, h29⟩ := scK_some h27
  obtain ⟨x12, rfl, h30⟩ := cI_some h29
  obtain ⟨rfl, h31⟩ := endL_some h30
  rw [F3_30_eq] at h31
  exact execK_runs hD.typed Mem_zero Mem_mixed hJ X3_30 (T3 30).1 (envOf (T3 30).2 _) S K (chk_of (by kernel_rfl) (by kernel_rfl)) h31
noncomputable abbrev A3_38 (D J : Disp) (vals : List AV) (S : St) (K : AV → St → Prop) : Prop :=
  uncA vals fun a9001 r9002 => scK a9001 fun s9004 => SV.cI IntKind.i64 s9004 fun x0 => uncA r9002 fun a9007 r9008 => scK a9007 fun s9010 => SV.cP s9010 fun p5 => uncA r9008 fun a9013 r9014 => scK a9013 fun s9016 => SV.cI IntKind.i64 s9016 fun x8 => uncA r9014 fun a9019 r9020 => scK a9019 fun s9022 => SV.cP s9022 fun p9 => uncA r9020 fun a9025 r9026 => scK a9025 fun s9028 => SV.cI IntKind.i64 s9028 fun x12 => uncA r9026 fun a9031 r9032 => scK a9031 fun s9034 => SV.cB s9034 fun c127 => endL r9032 <| F3_38 D J x0 p5 x8 p9 x12 c127 S K
theorem A3_38_ok {D J : Disp} (hD : DOK MemP MemG D) (hJ : JOK MemP MemG Go.Proofs.Try.f3 T3 J) {vals : List AV} {S : St} {K : AV → St → Prop} (h0 : A3_38 D J vals S K) : Runs MemP MemG Go.Proofs.Try.f3 (T3 38).1 (envOf (T3 38).2 vals) S K := by
  obtain ⟨a9001, r9002, rfl, h3⟩ := uncA_some h0
  obtain ⟨s9004, rfl, h5⟩ := scK_some h3
  obtain ⟨x0, rfl, h6⟩ := cI_some h5
  obtain ⟨a9007, r9008, rfl, h9⟩ := uncA_some h6
  obtain ⟨s9010, rfl, h11⟩ := scK_some h9
  obtain ⟨p5, rfl, h12⟩ := cP_some h11
  obtain ⟨a9013, r9014, rfl, h15⟩ := uncA_some h12
  obtain ⟨s9016, rfl, h17⟩ := scK_some h15
  obtain ⟨x8, rfl, h18⟩ := cI_some h17
  obtain ⟨a9019, r9020, rfl, h21⟩ := uncA_some h18
  obtain ⟨s9022, rfl, h23⟩ := scK_some h21
  obtain ⟨p9, rfl, h24⟩ := cP_some h23
  obtain ⟨a9025, r9026, rfl, h27⟩ := uncA_some h24
  obtain ⟨s9028, rfl, h29⟩ := scK_some h27
  obtain ⟨x12, rfl, h30⟩ := cI_some h29
  obtain ⟨a9031, r9032, rfl, h33⟩ := uncA_some h30
  obtain ⟨s9034, rfl, h35⟩ := scK_some h33
  obtain ⟨c127, rfl, h36⟩ := cB_some h35
  obtain ⟨rfl, h37⟩ := endL_some h36
  rw [F3_38_eq] at h37
  exact execK_runs hD.typed Mem_zero Mem_mixed hJ X3_38 (T3 38).1 (envOf (T3 38).2 _) S K (chk_of (by kernel_rfl) (by kernel_rfl)) h37
noncomputable def J3 (D : Disp) (k : Nat) : Disp := Nat.rec (motive := fun _ => Disp) Disp.no (fun _ ih => Disp.add 0 (A3_0 D ih) <| Disp.add 13 (A3_13 D ih) <| Disp.add 20 (A3_20 D ih) <| Disp.add 30 (A3_30 D ih) <| Disp.add 38 (A3_38 D ih) <| Disp.no) k
theorem J3_ok {D : Disp} (hD : DOK MemP MemG D) : ∀ k, JOK MemP MemG Go.Proofs.Try.f3 T3 (J3 D k)
  | 0 => JOK.no
  | k + 1 => JOK.add (ltB_ok (by kernel_rfl)) (fun vals S K h => A3_0_ok hD (J3_ok hD k) h) <| JOK.add (ltB_ok (by kernel_rfl)) (fun vals S K h => A3_13_ok hD (J3_ok hD k) h) <| JOK.add (ltB_ok (by kernel_rfl)) (fun vals S K h => A3_20_ok hD (J3_ok hD k) h) <| JOK.add (ltB_ok (by kernel_rfl)) (fun vals S K h => A3_30_ok hD (J3_ok hD k) h) <| JOK.add (ltB_ok (by kernel_rfl)) (fun vals S K h => A3_38_ok hD (J3_ok hD k) h) <| JOK.no
theorem E3_ok {D : Disp} (hD : DOK MemP MemG D) (k : Nat) {args : List AV} {S : St} {K : AV → St → Prop} (h : A3_0 D (J3 D k) args S K) : CallE MemP MemG 3 args S K := by
  have hr := A3_0_ok hD (J3_ok hD k) h
  have hl : args.length = 2 := by
    have h0 := h
    obtain ⟨a9001, r9002, rfl, h3⟩ := uncA_some h0
    obtain ⟨s9004, rfl, h5⟩ := scK_some h3
    obtain ⟨x0, rfl, h6⟩ := cI_some h5
    obtain ⟨a9007, r9008, rfl, h9⟩ := uncA_some h6
    obtain ⟨s9010, rfl, h11⟩ := scK_some h9
    obtain ⟨l1, rfl, h12⟩ := cL_some h11
    obtain ⟨rfl, h13⟩ := endL_some h12
    rfl
  refine callOK_of (fn := Go.Proofs.Try.f3) (c := (match Go.Proofs.Try.f3.body with | some c => c | none => .skip)) (by kernel_rfl) (by kernel_rfl) (by kernel_rfl) (by rw [hl]; kernel_rfl) (by kernel_rfl) ?_
  rw [hl]
  exact hr
noncomputable def plans4 (i : Nat) : Plan := []
noncomputable def T4 (p : Nat) : List Item × List Nat := bif Nat.beq p 0 then ([.code (match Go.Proofs.Try.f4.body with | some c => c | none => .skip)], [0, 1, 2]) else
  bif Nat.beq p 15 then (navs [.op, .op, .op, .op, .el, .op, .op, .op, .el, .op, .op] [.code (match Go.Proofs.Try.f4.body with | some c => c | none => .skip)], [2, 7, 8, 9, 11, 12, 64]) else
  ([], [])
noncomputable def F4_q20 (D J : Disp) (x2 : Int) (x307 : Int) (y316 : PV) (x324 : Int) (S334 : St) (S400 : St) (y436 : Bool) (S438 : St) (x454 : Int) (K : AV → St → Prop) : Prop :=
 letK (α := Int) ((iwrap IntKind.i64 (x307 - x454))) fun x455 =>
 letK (α := Bool) ((ile x2 x455)) fun c456 =>
 letK (α := Bool) ((Bool.not (BEq.beq y436 c456))) fun c457 =>
 J 15 [(AV.one (V1.s (SV.int IntKind.i64 x2))), (AV.one (V1.s (SV.ptr y316))), (AV.one (V1.s (SV.int IntKind.i64 x324))), (AV.one (V1.s (SV.ptr (PV.mk (Bk.new (St.next S334)) 0)))), (AV.one (V1.s (SV.ptr (PV.mk (Bk.new (St.next S400)) 0)))), (AV.one (V1.s (SV.bool y436))), (AV.one (V1.s (SV.bool c457)))] S438 K
noncomputable def F4_q21 (D J : Disp) (x2 : Int) (x307 : Int) (y316 : PV) (x324 : Int) (S334 : St) (S400 : St) (y436 : Bool) (S438 : St) (c447 : Bool) (K : AV → St → Prop) : Prop :=
 ifK c447
 (St.at S438 (Bk.new (St.next S334)) 3 fun y448 =>
 uncK y448 fun v449 y450 =>
 SV.cI IntKind.i64 v449 fun x454 =>
 F4_q20 D J x2 x307 y316 x324 S334 S400 y436 S438 x454 K)
 (letK (α := Bool) ((Bool.not (BEq.beq y436 Bool.false))) fun c463 =>
 J 15 [(AV.one (V1.s (SV.int IntKind.i64 x2))), (AV.one (V1.s (SV.ptr y316))), (AV.one (V1.s (SV.int IntKind.i64 x324))), (AV.one (V1.s (SV.ptr (PV.mk (Bk.new (St.next S334)) 0)))), (AV.one (V1.s (SV.ptr (PV.mk (Bk.new (St.next S400)) 0)))), (AV.one (V1.s (SV.bool y436))), (AV.one (V1.s (SV.bool c463)))] S438 K)
noncomputable def F4_q22 (D J : Disp) (x2 : Int) (x307 : Int) (y316 : PV) (x324 : Int) (S334 : St) (S400 : St) (x413 : Int) (x419 : Int) (x425 : Int) (x431 : Int) (y436 : Bool) (K : AV → St → Prop) : Prop :=
 letK (α := St) ((St.add S400 (AO.cells [(SV.int IntKind.i64 (0 : Int)), (SV.int IntKind.i64 (0 : Int)), (SV.int IntKind.i64 (0 : Int)), (SV.int IntKind.i64 (0 : Int))] (Op2.ty 34)))) fun S437 =>
 St.wr S437 (Bk.new (St.next S400)) 0 [(SV.int IntKind.i64 x413), (SV.int IntKind.i64 x419), (SV.int IntKind.i64 x425), (SV.int IntKind.i64 x431)] fun S438 =>
 St.at S438 (Bk.new (St.next S334)) 3 fun y439 =>
 uncK y439 fun v440 y441 =>
 SV.cI IntKind.i64 v440 fun x445 =>
 letK (α := Int) ((ineg IntKind.i64 x445)) fun x446 =>
 letK (α := Bool) ((ile x446 x2)) fun c447 =>
 F4_q21 D J x2 x307 y316 x324 S334 S400 y436 S438 c447 K
noncomputable def F4_q23 (D J : Disp) (x2 : Int) (x307 : Int) (y316 : PV) (x324 : Int) (S334 : St) (S372 : St) (x380 : Int) (x386 : Int) (x392 : Int) (x398 : Int) (K : AV → St → Prop) : Prop :=
 D 13 [(AV.one (V1.s (SV.ptr y316))), (AV.one (V1.agg [(SV.int IntKind.i64 x380), (SV.int IntKind.i64 x386), (SV.int IntKind.i64 x392), (SV.int IntKind.i64 x398)])), (AV.one (V1.s (SV.int IntKind.i64 x2)))] S372 fun v399 S400 =>
 avT v399 fun y402 =>
 uncV y402 fun v403 y404 =>
 v1A v403 fun y407 =>
 req (Nat.beq (List.length y407) 4) <|
 uncK y407 fun v408 y409 =>
 SV.cI IntKind.i64 v408 fun x413 =>
 uncK y409 fun v414 y415 =>
 SV.cI IntKind.i64 v414 fun x419 =>
 uncK y415 fun v420 y421 =>
 SV.cI IntKind.i64 v420 fun x425 =>
 uncK y421 fun v426 y427 =>
 SV.cI IntKind.i64 v426 fun x431 =>
 uncV y404 fun v432 y433 =>
 v1S v432 fun v435 =>
 SV.cB v435 fun y436 =>
 endL y433 (F4_q22 D J x2 x307 y316 x324 S334 S400 x413 x419 x425 x431 y436 K)
noncomputable def F4_q24 (D J : Disp) (x2 : Int) (x307 : Int) (y316 : PV) (x324 : Int) (S334 : St) (y370 : Bool) (S372 : St) (K : AV → St → Prop) : Prop :=
 letK (α := Bool) ((Bool.not y370)) fun c373 =>
 ifK c373
 (K ((AV.one (V1.s (SV.bool Bool.false)))) S372)
 (St.at S372 (Bk.new (St.next S334)) 0 fun y374 =>
 uncK y374 fun v375 y376 =>
 SV.cI IntKind.i64 v375 fun x380 =>
 uncK y376 fun v381 y382 =>
 SV.cI IntKind.i64 v381 fun x386 =>
 uncK y382 fun v387 y388 =>
 SV.cI IntKind.i64 v387 fun x392 =>
 uncK y388 fun v393 y394 =>
 SV.cI IntKind.i64 v393 fun x398 =>
 F4_q23 D J x2 x307 y316 x324 S334 S372 x380 x386 x392 x398 K)
noncomputable def F4_q25 (D J : Disp) (x2 : Int) (x307 : Int) (y316 : PV) (x324 : Int) (S327 : St) (x332 : Int) (K : AV → St → Prop) : Prop :=
 D 13 [(AV.one (V1.s (SV.ptr y316))), (AV.one (V1.agg [(SV.int IntKind.i64 (2 : Int)), (SV.int IntKind.i64 (0 : Int)), (SV.int IntKind.i64 x324), (SV.int IntKind.i64 (0 : Int))])), (AV.one (V1.s (SV.int IntKind.i64 x332)))] S327 fun v333 S334 =>
 avT v333 fun y336 =>
 uncV y336 fun v337 y338 =>
 v1A v337 fun y341 =>
 req (Nat.beq (List.length y341) 4) <|
 uncK y341 fun v342 y343 =>
 SV.cI IntKind.i64 v342 fun x347 =>
 uncK y343 fun v348 y349 =>
 SV.cI IntKind.i64 v348 fun x353 =>
 uncK y349 fun v354 y355 =>
 SV.cI IntKind.i64 v354 fun x359 =>
 uncK y355 fun v360 y361 =>
 SV.cI IntKind.i64 v360 fun x365 =>
 uncV y338 fun v366 y367 =>
 v1S v366 fun v369 =>
 SV.cB v369 fun y370 =>
 endL y367 (letK (α := St) ((St.add S334 (AO.cells [(SV.int IntKind.i64 (0 : Int)), (SV.int IntKind.i64 (0 : Int)), (SV.int IntKind.i64 (0 : Int)), (SV.int IntKind.i64 (0 : Int))] (Op2.ty 34)))) fun S371 =>
 St.wr S371 (Bk.new (St.next S334)) 0 [(SV.int IntKind.i64 x347), (SV.int IntKind.i64 x353), (SV.int IntKind.i64 x359), (SV.int IntKind.i64 x365)] fun S372 =>
 F4_q24 D J x2 x307 y316 x324 S334 y370 S372 K)
noncomputable def F4_q26 (D J : Disp) (x1 : Int) (x2 : Int) (x307 : Int) (S309 : St) (y316 : PV) (K : AV → St → Prop) : Prop :=
 D 8 [(AV.one (V1.s (SV.ptr y316))), (AV.one (V1.s (SV.int IntKind.i64 x307))), (AV.one (V1.s (SV.sl LV.nil)))] S309 fun v318 S319 =>
 scK v318 fun v321 =>
 SV.cI IntKind.i64 v321 fun x324 =>
 letK (α := Int) ((iwrap IntKind.i64 (x307 + (1 : Int)))) fun x325 =>
 D 5 [(AV.one (V1.s (SV.int IntKind.i64 x1))), (AV.one (V1.s (SV.int IntKind.i64 x325)))] S319 fun v326 S327 =>
 scK v326 fun v329 =>
 SV.cI IntKind.i64 v329 fun x332 =>
 F4_q25 D J x2 x307 y316 x324 S327 x332 K
noncomputable def F4_q27 (D J : Disp) (S : St) (x0 : Int) (x1 : Int) (x2 : Int) (K : AV → St → Prop) : Prop :=
 D 5 [(AV.one (V1.s (SV.int IntKind.i64 x0))), (AV.one (V1.s (SV.int IntKind.i64 (60 : Int))))] S fun v300 S301 =>
 scK v300 fun v303 =>
 SV.cI IntKind.i64 v303 fun x306 =>
 letK (α := Int) ((iwrap IntKind.i64 ((1 : Int) + x306))) fun x307 =>
 D 7 [] S301 fun v308 S309 =>
 scK v308 fun v311 =>
 SV.cP v311 fun y316 =>
 optK (eqA MemP 1 25 (V1.s (SV.ptr y316)) (V1.s (SV.ptr PV.nil))) fun y317 =>
 ifK y317
 (K ((AV.one (V1.s (SV.bool Bool.false)))) S309)
 (F4_q26 D J x1 x2 x307 S309 y316 K)
noncomputable def F4_0 (D J : Disp) (x0 : Int) (x1 : Int) (x2 : Int) (S : St) (K : AV → St → Prop) : Prop :=
 F4_q27 D J S x0 x1 x2 K
noncomputable def X4_0 : X := (.op (.op (.op (.op (.br (.op .ret) (.op (.op (.op (.br (.op .ret) (.op (.op (.jmp 15 [2, 7, 8, 9, 11, 12, 64]))))))))))))
theorem F4_0_eq (D J : Disp) (x0 : Int) (x1 : Int) (x2 : Int) (S : St) (K : AV → St → Prop) : F4_0 D J x0 x1 x2 S K = execK MemP MemG Go.Proofs.Try.f4 (typed MemP D) J plans4 X4_0 (T4 0).1 (envOf (T4 0).2 [(AV.one (V1.s (SV.int IntKind.i64 x0))), (AV.one (V1.s (SV.int IntKind.i64 x1))), (AV.one (V1.s (SV.int IntKind.i64 x2)))]) S K := by kernel_rfl
noncomputable def F4_q28 (D J : Disp) (S : St) (p11 : PV) (K : AV → St → Prop) : Prop :=
 PV.cs p11 fun b301 n302 =>
 St.at S b301 n302 fun y303 =>
 uncK y303 fun v304 y305 =>
 SV.cI IntKind.i64 v304 fun x309 =>
 uncK y305 fun v310 y311 =>
 SV.cI IntKind.i64 v310 fun x315 =>
 uncK y311 fun v316 y317 =>
 SV.cI IntKind.i64 v316 fun x321 =>
 uncK y317 fun v322 y323 =>
 SV.cI IntKind.i64 v322 fun x327 =>
 letK (α := Bool) ((Bool.and (ieq x309 (0 : Int)) (Bool.and (ieq x315 (0 : Int)) (Bool.and (ieq x321 (0 : Int)) (Bool.and (ieq x327 (0 : Int)) Bool.true))))) fun c328 =>
 ifK c328
 (D 6 [] S fun v329 S330 =>
 scK v329 fun v332 =>
 SV.cB v332 fun y333 =>
 K ((AV.one (V1.s (SV.bool y333)))) S330)
 (K ((AV.one (V1.s (SV.bool Bool.false)))) S)
noncomputable def F4_q29 (D J : Disp) (x8 : Int) (p11 : PV) (S624 : St) (c694 : Bool) (K : AV → St → Prop) : Prop :=
 ifK c694
 (PV.cs p11 fun b695 n696 =>
 letK (α := Nat) ((n696 + 2)) fun n697 =>
 St.at S624 b695 n697 fun y698 =>
 uncK y698 fun v699 y700 =>
 SV.cI IntKind.i64 v699 fun x704 =>
 letK (α := Bool) ((ieq x704 x8)) fun c705 =>
 ifK c705
 (D 6 [] S624 fun v706 S707 =>
 scK v706 fun v709 =>
 SV.cB v709 fun y710 =>
 K ((AV.one (V1.s (SV.bool y710)))) S707)
 (K ((AV.one (V1.s (SV.bool Bool.false)))) S624))
 (K ((AV.one (V1.s (SV.bool Bool.false)))) S624)
noncomputable def F4_q30 (D J : Disp) (x2 : Int) (x8 : Int) (p11 : PV) (x495 : Int) (y563 : Bool) (S624 : St) (y631 : Bool) (x643 : Int) (x649 : Int) (x655 : Int) (x661 : Int) (x670 : Int) (x676 : Int) (x682 : Int) (x688 : Int) (K : AV → St → Prop) : Prop :=
 letK (α := Bool) ((Bool.and (ieq x643 x670) (Bool.and (ieq x649 x676) (Bool.and (ieq x655 x682) (Bool.and (ieq x661 x688) Bool.true))))) fun c689 =>
 ifK c689
 (letK (α := Bool) ((ieq x495 x2)) fun c690 =>
 ifK c690
 (letK (α := Bool) ((ilt (0 : Int) x2)) fun c691 =>
 letK (α := Bool) ((BEq.beq y563 c691)) fun c692 =>
 ifK c692
 (letK (α := Bool) ((ieq x2 (0 : Int))) fun c693 =>
 letK (α := Bool) ((BEq.beq y631 c693)) fun c694 =>
 F4_q29 D J x8 p11 S624 c694 K)
 (K ((AV.one (V1.s (SV.bool Bool.false)))) S624))
 (K ((AV.one (V1.s (SV.bool Bool.false)))) S624))
 (K ((AV.one (V1.s (SV.bool Bool.false)))) S624)
noncomputable def F4_q31 (D J : Disp) (x2 : Int) (x8 : Int) (p9 : PV) (p11 : PV) (S392 : St) (x495 : Int) (y563 : Bool) (S624 : St) (y631 : Bool) (y636 : Bool) (K : AV → St → Prop) : Prop :=
 ifK y636
 (St.at S624 (Bk.new (St.next S392)) 0 fun y637 =>
 uncK y637 fun v638 y639 =>
 SV.cI IntKind.i64 v638 fun x643 =>
 uncK y639 fun v644 y645 =>
 SV.cI IntKind.i64 v644 fun x649 =>
 uncK y645 fun v650 y651 =>
 SV.cI IntKind.i64 v650 fun x655 =>
 uncK y651 fun v656 y657 =>
 SV.cI IntKind.i64 v656 fun x661 =>
 PV.cs p9 fun b662 n663 =>
 St.at S624 b662 n663 fun y664 =>
 uncK y664 fun v665 y666 =>
 SV.cI IntKind.i64 v665 fun x670 =>
 uncK y666 fun v671 y672 =>
 SV.cI IntKind.i64 v671 fun x676 =>
 uncK y672 fun v677 y678 =>
 SV.cI IntKind.i64 v677 fun x682 =>
 uncK y678 fun v683 y684 =>
 SV.cI IntKind.i64 v683 fun x688 =>
 F4_q30 D J x2 x8 p11 x495 y563 S624 y631 x643 x649 x655 x661 x670 x676 x682 x688 K)
 (K ((AV.one (V1.s (SV.bool Bool.false)))) S624)
noncomputable def F4_q32 (D J : Disp) (x2 : Int) (p7 : PV) (x8 : Int) (p9 : PV) (p11 : PV) (S392 : St) (y428 : Bool) (x495 : Int) (y500 : Bool) (S556 : St) (y563 : Bool) (y568 : Bool) (x577 : Int) (x583 : Int) (x589 : Int) (x595 : Int) (x604 : Int) (x610 : Int) (x616 : Int) (x622 : Int) (K : AV → St → Prop) : Prop :=
 D 16 [(AV.one (V1.s (SV.ptr p7))), (AV.one (V1.agg [(SV.int IntKind.i64 x577), (SV.int IntKind.i64 x583), (SV.int IntKind.i64 x589), (SV.int IntKind.i64 x595)])), (AV.one (V1.agg [(SV.int IntKind.i64 x604), (SV.int IntKind.i64 x610), (SV.int IntKind.i64 x616), (SV.int IntKind.i64 x622)]))] S556 fun v623 S624 =>
 avT v623 fun y626 =>
 uncV y626 fun v627 y628 =>
 v1S v627 fun v630 =>
 SV.cB v630 fun y631 =>
 uncV y628 fun v632 y633 =>
 v1S v632 fun v635 =>
 SV.cB v635 fun y636 =>
 endL y633 (ifK y428
 (ifK y500
 (ifK y568
 (F4_q31 D J x2 x8 p9 p11 S392 x495 y563 S624 y631 y636 K)
 (K ((AV.one (V1.s (SV.bool Bool.false)))) S624))
 (K ((AV.one (V1.s (SV.bool Bool.false)))) S624))
 (K ((AV.one (V1.s (SV.bool Bool.false)))) S624))
noncomputable def F4_q33 (D J : Disp) (x2 : Int) (p7 : PV) (x8 : Int) (p9 : PV) (p11 : PV) (S392 : St) (y428 : Bool) (x495 : Int) (y500 : Bool) (S556 : St) (y563 : Bool) (y568 : Bool) (K : AV → St → Prop) : Prop :=
 PV.cs p9 fun b569 n570 =>
 St.at S556 b569 n570 fun y571 =>
 uncK y571 fun v572 y573 =>
 SV.cI IntKind.i64 v572 fun x577 =>
 uncK y573 fun v578 y579 =>
 SV.cI IntKind.i64 v578 fun x583 =>
 uncK y579 fun v584 y585 =>
 SV.cI IntKind.i64 v584 fun x589 =>
 uncK y585 fun v590 y591 =>
 SV.cI IntKind.i64 v590 fun x595 =>
 PV.cs p11 fun b596 n597 =>
 St.at S556 b596 n597 fun y598 =>
 uncK y598 fun v599 y600 =>
 SV.cI IntKind.i64 v599 fun x604 =>
 uncK y600 fun v605 y606 =>
 SV.cI IntKind.i64 v605 fun x610 =>
 uncK y606 fun v611 y612 =>
 SV.cI IntKind.i64 v611 fun x616 =>
 uncK y612 fun v617 y618 =>
 SV.cI IntKind.i64 v617 fun x622 =>
 F4_q32 D J x2 p7 x8 p9 p11 S392 y428 x495 y500 S556 y563 y568 x577 x583 x589 x595 x604 x610 x616 x622 K
noncomputable def F4_q34 (D J : Disp) (x2 : Int) (p7 : PV) (x8 : Int) (p9 : PV) (p11 : PV) (S392 : St) (y428 : Bool) (S486 : St) (x495 : Int) (y500 : Bool) (x509 : Int) (x515 : Int) (x521 : Int) (x527 : Int) (x536 : Int) (x542 : Int) (x548 : Int) (x554 : Int) (K : AV → St → Prop) : Prop :=
 D 15 [(AV.one (V1.s (SV.ptr p7))), (AV.one (V1.agg [(SV.int IntKind.i64 x509), (SV.int IntKind.i64 x515), (SV.int IntKind.i64 x521), (SV.int IntKind.i64 x527)])), (AV.one (V1.agg [(SV.int IntKind.i64 x536), (SV.int IntKind.i64 x542), (SV.int IntKind.i64 x548), (SV.int IntKind.i64 x554)]))] S486 fun v555 S556 =>
 avT v555 fun y558 =>
 uncV y558 fun v559 y560 =>
 v1S v559 fun v562 =>
 SV.cB v562 fun y563 =>
 uncV y560 fun v564 y565 =>
 v1S v564 fun v567 =>
 SV.cB v567 fun y568 =>
 endL y565 (F4_q33 D J x2 p7 x8 p9 p11 S392 y428 x495 y500 S556 y563 y568 K)
noncomputable def F4_q35 (D J : Disp) (x2 : Int) (p7 : PV) (x8 : Int) (p9 : PV) (p11 : PV) (S392 : St) (y428 : Bool) (S486 : St) (x495 : Int) (y500 : Bool) (K : AV → St → Prop) : Prop :=
 PV.cs p9 fun b501 n502 =>
 St.at S486 b501 n502 fun y503 =>
 uncK y503 fun v504 y505 =>
 SV.cI IntKind.i64 v504 fun x509 =>
 uncK y505 fun v510 y511 =>
 SV.cI IntKind.i64 v510 fun x515 =>
 uncK y511 fun v516 y517 =>
 SV.cI IntKind.i64 v516 fun x521 =>
 uncK y517 fun v522 y523 =>
 SV.cI IntKind.i64 v522 fun x527 =>
 PV.cs p11 fun b528 n529 =>
 St.at S486 b528 n529 fun y530 =>
 uncK y530 fun v531 y532 =>
 SV.cI IntKind.i64 v531 fun x536 =>
 uncK y532 fun v537 y538 =>
 SV.cI IntKind.i64 v537 fun x542 =>
 uncK y538 fun v543 y544 =>
 SV.cI IntKind.i64 v543 fun x548 =>
 uncK y544 fun v549 y550 =>
 SV.cI IntKind.i64 v549 fun x554 =>
 F4_q34 D J x2 p7 x8 p9 p11 S392 y428 S486 x495 y500 x509 x515 x521 x527 x536 x542 x548 x554 K
noncomputable def F4_q36 (D J : Disp) (x2 : Int) (p7 : PV) (x8 : Int) (p9 : PV) (p11 : PV) (S392 : St) (y428 : Bool) (S430 : St) (x439 : Int) (x445 : Int) (x451 : Int) (x457 : Int) (x466 : Int) (x472 : Int) (x478 : Int) (x484 : Int) (K : AV → St → Prop) : Prop :=
 D 14 [(AV.one (V1.s (SV.ptr p7))), (AV.one (V1.agg [(SV.int IntKind.i64 x439), (SV.int IntKind.i64 x445), (SV.int IntKind.i64 x451), (SV.int IntKind.i64 x457)])), (AV.one (V1.agg [(SV.int IntKind.i64 x466), (SV.int IntKind.i64 x472), (SV.int IntKind.i64 x478), (SV.int IntKind.i64 x484)]))] S430 fun v485 S486 =>
 avT v485 fun y488 =>
 uncV y488 fun v489 y490 =>
 v1S v489 fun v492 =>
 SV.cI IntKind.i64 v492 fun x495 =>
 uncV y490 fun v496 y497 =>
 v1S v496 fun v499 =>
 SV.cB v499 fun y500 =>
 endL y497 (F4_q35 D J x2 p7 x8 p9 p11 S392 y428 S486 x495 y500 K)
noncomputable def F4_q37 (D J : Disp) (x2 : Int) (p7 : PV) (x8 : Int) (p9 : PV) (p11 : PV) (S392 : St) (y428 : Bool) (S430 : St) (K : AV → St → Prop) : Prop :=
 PV.cs p11 fun b431 n432 =>
 St.at S430 b431 n432 fun y433 =>
 uncK y433 fun v434 y435 =>
 SV.cI IntKind.i64 v434 fun x439 =>
 uncK y435 fun v440 y441 =>
 SV.cI IntKind.i64 v440 fun x445 =>
 uncK y441 fun v446 y447 =>
 SV.cI IntKind.i64 v446 fun x451 =>
 uncK y447 fun v452 y453 =>
 SV.cI IntKind.i64 v452 fun x457 =>
 PV.cs p9 fun b458 n459 =>
 St.at S430 b458 n459 fun y460 =>
 uncK y460 fun v461 y462 =>
 SV.cI IntKind.i64 v461 fun x466 =>
 uncK y462 fun v467 y468 =>
 SV.cI IntKind.i64 v467 fun x472 =>
 uncK y468 fun v473 y474 =>
 SV.cI IntKind.i64 v473 fun x478 =>
 uncK y474 fun v479 y480 =>
 SV.cI IntKind.i64 v479 fun x484 =>
 F4_q36 D J x2 p7 x8 p9 p11 S392 y428 S430 x439 x445 x451 x457 x466 x472 x478 x484 K
noncomputable def F4_q38 (D J : Disp) (S : St) (x2 : Int) (p7 : PV) (x8 : Int) (p9 : PV) (p11 : PV) (x371 : Int) (x377 : Int) (x383 : Int) (x389 : Int) (x390 : Int) (K : AV → St → Prop) : Prop :=
 D 13 [(AV.one (V1.s (SV.ptr p7))), (AV.one (V1.agg [(SV.int IntKind.i64 x371), (SV.int IntKind.i64 x377), (SV.int IntKind.i64 x383), (SV.int IntKind.i64 x389)])), (AV.one (V1.s (SV.int IntKind.i64 x390)))] S fun v391 S392 =>
 avT v391 fun y394 =>
 uncV y394 fun v395 y396 =>
 v1A v395 fun y399 =>
 req (Nat.beq (List.length y399) 4) <|
 uncK y399 fun v400 y401 =>
 SV.cI IntKind.i64 v400 fun x405 =>
 uncK y401 fun v406 y407 =>
 SV.cI IntKind.i64 v406 fun x411 =>
 uncK y407 fun v412 y413 =>
 SV.cI IntKind.i64 v412 fun x417 =>
 uncK y413 fun v418 y419 =>
 SV.cI IntKind.i64 v418 fun x423 =>
 uncV y396 fun v424 y425 =>
 v1S v424 fun v427 =>
 SV.cB v427 fun y428 =>
 endL y425 (letK (α := St) ((St.add S392 (AO.cells [(SV.int IntKind.i64 (0 : Int)), (SV.int IntKind.i64 (0 : Int)), (SV.int IntKind.i64 (0 : Int)), (SV.int IntKind.i64 (0 : Int))] (Op2.ty 34)))) fun S429 =>
 St.wr S429 (Bk.new (St.next S392)) 0 [(SV.int IntKind.i64 x405), (SV.int IntKind.i64 x411), (SV.int IntKind.i64 x417), (SV.int IntKind.i64 x423)] fun S430 =>
 F4_q37 D J x2 p7 x8 p9 p11 S392 y428 S430 K)
noncomputable def F4_q39 (D J : Disp) (S : St) (x2 : Int) (p7 : PV) (x8 : Int) (p9 : PV) (p11 : PV) (c300 : Bool) (K : AV → St → Prop) : Prop :=
 ifK c300
 (F4_q28 D J S p11 K)
 (PV.cs p11 fun b363 n364 =>
 St.at S b363 n364 fun y365 =>
 uncK y365 fun v366 y367 =>
 SV.cI IntKind.i64 v366 fun x371 =>
 uncK y367 fun v372 y373 =>
 SV.cI IntKind.i64 v372 fun x377 =>
 uncK y373 fun v378 y379 =>
 SV.cI IntKind.i64 v378 fun x383 =>
 uncK y379 fun v384 y385 =>
 SV.cI IntKind.i64 v384 fun x389 =>
 letK (α := Int) ((ineg IntKind.i64 x2)) fun x390 =>
 F4_q38 D J S x2 p7 x8 p9 p11 x371 x377 x383 x389 x390 K)
noncomputable def F4_15 (D J : Disp) (x2 : Int) (p7 : PV) (x8 : Int) (p9 : PV) (p11 : PV) (c12 : Bool) (c64 : Bool) (S : St) (K : AV → St → Prop) : Prop :=
 ifK c64
 (K ((AV.one (V1.s (SV.bool Bool.false)))) S)
 (letK (α := Bool) ((Bool.not c12)) fun c300 =>
 F4_q39 D J S x2 p7 x8 p9 p11 c300 K)
noncomputable def X4_15 : X := (.br (.op .ret) (.op (.br (.op .ret) (.op (.op (.op (.op (.op .ret))))))))
theorem F4_15_eq (D J : Disp) (x2 : Int) (p7 : PV) (x8 : Int) (p9 : PV) (p11 : PV) (c12 : Bool) (c64 : Bool) (S : St) (K : AV → St → Prop) : F4_15 D J x2 p7 x8 p9 p11 c12 c64 S K = execK MemP MemG Go.Proofs.Try.f4 (typed MemP D) J plans4 X4_15 (T4 15).1 (envOf (T4 15).2 [(AV.one (V1.s (SV.int IntKind.i64 x2))), (AV.one (V1.s (SV.ptr p7))), (AV.one (V1.s (SV.int IntKind.i64 x8))), (AV.one (V1.s (SV.ptr p9))), (AV.one (V1.s (SV.ptr p11))), (AV.one (V1.s (SV.bool c12))), (AV.one (V1.s (SV.bool c64)))]) S K := by kernel_rfl
noncomputable abbrev A4_0 (D J : Disp) (vals : List AV) (S : St) (K : AV → St → Prop) : Prop :=
  uncA vals fun a9001 r9002 => scK a9001 fun s9004 => SV.cI IntKind.i64 s9004 fun x0 => uncA r9002 fun a9007 r9008 => scK a9007 fun s9010 => SV.cI IntKind.i64 s9010 fun x1 => uncA r9008 fun a9013 r9014 => scK a9013 fun s9016 => SV.cI IntKind.i64 s9016 fun x2 => endL r9014 <| F4_0 D J x0 x1 x2 S K
theorem A4_0_ok {D J : Disp} (hD : DOK MemP MemG D) (hJ : JOK MemP MemG Go.Proofs.Try.f4 T4 J) {vals : List AV} {S : St} {K : AV → St → Prop} (h0 : A4_0 D J vals S K) : Runs MemP MemG Go.Proofs.Try.f4 (T4 0).1 (envOf (T4 0).2 vals) S K := by
  obtain ⟨a9001, r9002, rfl, h3⟩ := uncA_some h0
  obtain ⟨s9004, rfl, h5⟩ := scK_some h3
  obtain ⟨x0, rfl, h6⟩ := cI_some h5
  obtain ⟨a9007, r9008, rfl, h9⟩ := uncA_some h6
  obtain ⟨s9010, rfl, h11⟩ := scK_some h9
  obtain ⟨x1, rfl, h12⟩ := cI_some h11
  obtain ⟨a9013, r9014, rfl, h15⟩ := uncA_some h12
  obtain ⟨s9016, rfl, h17⟩ := scK_some h15
  obtain ⟨x2, rfl, h18⟩ := cI_some h17
  obtain ⟨rfl, h19⟩ := endL_some h18
  rw [F4_0_eq] at h19
  exact execK_runs hD.typed Mem_zero Mem_mixed hJ X4_0 (T4 0).1 (envOf (T4 0).2 _) S K (chk_of (by kernel_rfl) (by kernel_rfl)) h19
noncomputable abbrev A4_15 (D J : Disp) (vals : List AV) (S : St) (K : AV → St → Prop) : Prop :=
  uncA vals fun a9001 r9002 => scK a9001 fun s9004 => SV.cI IntKind.i64 s9004 fun x2 => uncA r9002 fun a9007 r9008 => scK a9007 fun s9010 => SV.cP s9010 fun p7 => uncA r9008 fun a9013 r9014 => scK a9013 fun s9016 => SV.cI IntKind.i64 s9016 fun x8 => uncA r9014 fun a9019 r9020 => scK a9019 fun s9022 => SV.cP s9022 fun p9 => uncA r9020 fun a9025 r9026 => scK a9025 fun s9028 => SV.cP s9028 fun p11 => uncA r9026 fun a9031 r9032 => scK a9031 fun s9034 => SV.cB s9034 fun c12 => uncA r9032 fun a9037 r9038 => scK a9037 fun s9040 => SV.cB s9040 fun c64 => endL r9038 <| F4_15 D J x2 p7 x8 p9 p11 c12 c64 S K
theorem A4_15_ok {D J : Disp} (hD : DOK MemP MemG D) (hJ : JOK MemP MemG Go.Proofs.Try.f4 T4 J) {vals : List AV} {S : St} {K : AV → St → Prop} (h0 : A4_15 D J vals S K) : Runs MemP MemG Go.Proofs.Try.f4 (T4 15).1 (envOf (T4 15).2 vals) S K := by
  obtain ⟨a9001, r9002, rfl, h3⟩ := uncA_some h0
  obtain ⟨s9004, rfl, h5⟩ := scK_some h3
  obtain ⟨x2, rfl, h6⟩ := cI_some h5
  obtain ⟨a9007, r9008, rfl, h9⟩ := uncA_some h6
  obtain ⟨s9010, rfl, h11⟩ := scK_some h9
  obtain ⟨p7, rfl, h12⟩ := cP_some h11
  obtain ⟨a9013, r9014, rfl, h15⟩ := uncA_some h12
  obtain ⟨s9016, rfl, h17⟩ := scK_some h15
  obtain ⟨x8, rfl, h18⟩ := cI_some h17
  obtain ⟨a9019, r9020, rfl, h21⟩ := uncA_some h18
  obtain ⟨s9022, rfl, h23⟩ := scK_some h21
  obtain ⟨p9, rfl, h24⟩ := cP_some h23
  obtain ⟨a9025, r9026, rfl, h27⟩ := uncA_some h24
  obtain ⟨s9028, rfl, h29⟩ := scK_some h27
  obtain ⟨p11, rfl, h30⟩ := cP_some h29
  obtain ⟨a9031, r9032, rfl, h33⟩ := uncA_some h30
  obtain ⟨s9034, rfl, h35⟩ := scK_some h33
  obtain ⟨c12, rfl, h36⟩ := cB_some h35
  obtain ⟨a9037, r9038, rfl, h39⟩ := uncA_some h36
  obtain ⟨s9040, rfl, h41⟩ := scK_some h39
  obtain ⟨c64, rfl, h42⟩ := cB_some h41
  obtain ⟨rfl, h43⟩ := endL_some h42
  rw [F4_15_eq] at h43
  exact execK_runs hD.typed Mem_zero Mem_mixed hJ X4_15 (T4 15).1 (envOf (T4 15).2 _) S K (chk_of (by kernel_rfl) (by kernel_rfl)) h43
noncomputable def J4 (D : Disp) (k : Nat) : Disp := Nat.rec (motive := fun _ => Disp) Disp.no (fun _ ih => Disp.add 0 (A4_0 D ih) <| Disp.add 15 (A4_15 D ih) <| Disp.no) k
theorem J4_ok {D : Disp} (hD : DOK MemP MemG D) : ∀ k, JOK MemP MemG Go.Proofs.Try.f4 T4 (J4 D k)
  | 0 => JOK.no
  | k + 1 => JOK.add (ltB_ok (by kernel_rfl)) (fun vals S K h => A4_0_ok hD (J4_ok hD k) h) <| JOK.add (ltB_ok (by kernel_rfl)) (fun vals S K h => A4_15_ok hD (J4_ok hD k) h) <| JOK.no
theorem E4_ok {D : Disp} (hD : DOK MemP MemG D) (k : Nat) {args : List AV} {S : St} {K : AV → St → Prop} (h : A4_0 D (J4 D k) args S K) : CallE MemP MemG 4 args S K := by
  have hr := A4_0_ok hD (J4_ok hD k) h
  have hl : args.length = 3 := by
    have h0 := h
    obtain ⟨a9001, r9002, rfl, h3⟩ := uncA_some h0
    obtain ⟨s9004, rfl, h5⟩ := scK_some h3
    obtain ⟨x0, rfl, h6⟩ := cI_some h5
    obtain ⟨a9007, r9008, rfl, h9⟩ := uncA_some h6
    obtain ⟨s9010, rfl, h11⟩ := scK_some h9
    obtain ⟨x1, rfl, h12⟩ := cI_some h11
    obtain ⟨a9013, r9014, rfl, h15⟩ := uncA_some h12
    obtain ⟨s9016, rfl, h17⟩ := scK_some h15
    obtain ⟨x2, rfl, h18⟩ := cI_some h17
    obtain ⟨rfl, h19⟩ := endL_some h18
    rfl
  refine callOK_of (fn := Go.Proofs.Try.f4) (c := (match Go.Proofs.Try.f4.body with | some c => c | none => .skip)) (by kernel_rfl) (by kernel_rfl) (by kernel_rfl) (by rw [hl]; kernel_rfl) (by kernel_rfl) ?_
  rw [hl]
  exact hr
noncomputable def plans5 (i : Nat) : Plan := []
noncomputable def T5 (p : Nat) : List Item × List Nat := bif Nat.beq p 0 then ([.code (match Go.Proofs.Try.f5.body with | some c => c | none => .skip)], [0, 1]) else
  ([], [])
noncomputable def F5_0 (D J : Disp) (x0 : Int) (x1 : Int) (S : St) (K : AV → St → Prop) : Prop :=
 letK (α := Int) ((iwrap IntKind.u64 x0)) fun x300 =>
 letK (α := Int) ((iwrap IntKind.u64 x1)) fun x301 =>
 req (Bool.not (ieq x301 (0 : Int))) <|
 letK (α := Int) ((Int.tmod x300 x301)) fun x302 =>
 letK (α := Int) ((iwrap IntKind.i64 x302)) fun x303 =>
 K ((AV.one (V1.s (SV.int IntKind.i64 x303)))) S
noncomputable def X5_0 : X := (.op (.op .ret))
theorem F5_0_eq (D J : Disp) (x0 : Int) (x1 : Int) (S : St) (K : AV → St → Prop) : F5_0 D J x0 x1 S K = execK MemP MemG Go.Proofs.Try.f5 (typed MemP D) J plans5 X5_0 (T5 0).1 (envOf (T5 0).2 [(AV.one (V1.s (SV.int IntKind.i64 x0))), (AV.one (V1.s (SV.int IntKind.i64 x1)))]) S K := by kernel_rfl
noncomputable abbrev A5_0 (D J : Disp) (vals : List AV) (S : St) (K : AV → St → Prop) : Prop :=
  uncA vals fun a9001 r9002 => scK a9001 fun s9004 => SV.cI IntKind.i64 s9004 fun x0 => uncA r9002 fun a9007 r9008 => scK a9007 fun s9010 => SV.cI IntKind.i64 s9010 fun x1 => endL r9008 <| F5_0 D J x0 x1 S K
theorem A5_0_ok {D J : Disp} (hD : DOK MemP MemG D) (hJ : JOK MemP MemG Go.Proofs.Try.f5 T5 J) {vals : List AV} {S : St} {K : AV → St → Prop} (h0 : A5_0 D J vals S K) : Runs MemP MemG Go.Proofs.Try.f5 (T5 0).1 (envOf (T5 0).2 vals) S K := by
  obtain ⟨a9001, r9002, rfl, h3⟩ := uncA_some h0
  obtain ⟨s9004, rfl, h5⟩ := scK_some h3
  obtain ⟨x0, rfl, h6⟩ := cI_some h5
  obtain ⟨a9007, r9008, rfl, h9⟩ := uncA_some h6
  obtain ⟨s9010, rfl, h11⟩ := scK_some h9
  obtain ⟨x1, rfl, h12⟩ := cI_some h11
  obtain ⟨rfl, h13⟩ := endL_some h12
  rw [F5_0_eq] at h13
  exact execK_runs hD.typed Mem_zero Mem_mixed hJ X5_0 (T5 0).1 (envOf (T5 0).2 _) S K (chk_of (by kernel_rfl) (by kernel_rfl)) h13
noncomputable def J5 (D : Disp) (k : Nat) : Disp := Nat.rec (motive := fun _ => Disp) Disp.no (fun _ ih => Disp.add 0 (A5_0 D ih) <| Disp.no) k
theorem J5_ok {D : Disp} (hD : DOK MemP MemG D) : ∀ k, JOK MemP MemG Go.Proofs.Try.f5 T5 (J5 D k)
  | 0 => JOK.no
  | k + 1 => JOK.add (ltB_ok (by kernel_rfl)) (fun vals S K h => A5_0_ok hD (J5_ok hD k) h) <| JOK.no
theorem E5_ok {D : Disp} (hD : DOK MemP MemG D) (k : Nat) {args : List AV} {S : St} {K : AV → St → Prop} (h : A5_0 D (J5 D k) args S K) : CallE MemP MemG 5 args S K := by
  have hr := A5_0_ok hD (J5_ok hD k) h
  have hl : args.length = 2 := by
    have h0 := h
    obtain ⟨a9001, r9002, rfl, h3⟩ := uncA_some h0
    obtain ⟨s9004, rfl, h5⟩ := scK_some h3
    obtain ⟨x0, rfl, h6⟩ := cI_some h5
    obtain ⟨a9007, r9008, rfl, h9⟩ := uncA_some h6
    obtain ⟨s9010, rfl, h11⟩ := scK_some h9
    obtain ⟨x1, rfl, h12⟩ := cI_some h11
    obtain ⟨rfl, h13⟩ := endL_some h12
    rfl
  refine callOK_of (fn := Go.Proofs.Try.f5) (c := (match Go.Proofs.Try.f5.body with | some c => c | none => .skip)) (by kernel_rfl) (by kernel_rfl) (by kernel_rfl) (by rw [hl]; kernel_rfl) (by kernel_rfl) ?_
  rw [hl]
  exact hr
noncomputable def plans6 (i : Nat) : Plan := []
noncomputable def T6 (p : Nat) : List Item × List Nat := bif Nat.beq p 0 then ([.code (match Go.Proofs.Try.f6.body with | some c => c | none => .skip)], []) else
  ([], [])
noncomputable def F6_q0 (D J : Disp) (y308 : PV) (x318 : Int) (y543 : Bool) (y608 : Bool) (S610 : St) (c628 : Bool) (K : AV → St → Prop) : Prop :=
 ifK c628
 (ifK y543
 (letK (α := Bool) ((Bool.not y608)) fun c629 =>
 ifK c629
 (D 12 [(AV.one (V1.s (SV.ptr y308))), (AV.one (V1.s (SV.int IntKind.i64 x318)))] S610 fun v630 S631 =>
 scK v630 fun v633 =>
 SV.cI IntKind.i64 v633 fun x636 =>
 letK (α := Bool) ((ieq x636 (8 : Int))) fun c637 =>
 K ((AV.one (V1.s (SV.bool c637)))) S631)
 (K ((AV.one (V1.s (SV.bool Bool.false)))) S610))
 (K ((AV.one (V1.s (SV.bool Bool.false)))) S610))
 (K ((AV.one (V1.s (SV.bool Bool.false)))) S610)
noncomputable def F6_q1 (D J : Disp) (y308 : PV) (x318 : Int) (S442 : St) (y478 : Bool) (S507 : St) (y543 : Bool) (y608 : Bool) (S610 : St) (K : AV → St → Prop) : Prop :=
 St.at S610 (Bk.new (St.next S442)) 1 fun y613 =>
 uncK y613 fun v614 y615 =>
 SV.cI IntKind.i64 v614 fun x619 =>
 letK (α := Bool) ((ieq x619 (7 : Int))) fun c620 =>
 ifK c620
 (ifK y478
 (St.at S610 (Bk.new (St.next S507)) 3 fun y621 =>
 uncK y621 fun v622 y623 =>
 SV.cI IntKind.i64 v622 fun x627 =>
 letK (α := Bool) ((ieq x627 (4 : Int))) fun c628 =>
 F6_q0 D J y308 x318 y543 y608 S610 c628 K)
 (K ((AV.one (V1.s (SV.bool Bool.false)))) S610))
 (K ((AV.one (V1.s (SV.bool Bool.false)))) S610)
noncomputable def F6_q2 (D J : Disp) (y308 : PV) (x318 : Int) (y383 : Bool) (y415 : Bool) (S442 : St) (y478 : Bool) (S507 : St) (y543 : Bool) (S572 : St) (x585 : Int) (x591 : Int) (x597 : Int) (x603 : Int) (y608 : Bool) (S609 : St) (K : AV → St → Prop) : Prop :=
 St.wr S609 (Bk.new (St.next S572)) 0 [(SV.int IntKind.i64 x585), (SV.int IntKind.i64 x591), (SV.int IntKind.i64 x597), (SV.int IntKind.i64 x603)] fun S610 =>
 letK (α := Bool) ((ieq x318 (1 : Int))) fun c611 =>
 ifK c611
 (letK (α := Bool) ((Bool.not y383)) fun c612 =>
 ifK c612
 (ifK y415
 (F6_q1 D J y308 x318 S442 y478 S507 y543 y608 S610 K)
 (K ((AV.one (V1.s (SV.bool Bool.false)))) S610))
 (K ((AV.one (V1.s (SV.bool Bool.false)))) S610))
 (K ((AV.one (V1.s (SV.bool Bool.false)))) S610)
noncomputable def F6_q3 (D J : Disp) (y308 : PV) (x318 : Int) (y383 : Bool) (y415 : Bool) (S442 : St) (y478 : Bool) (S507 : St) (y543 : Bool) (S545 : St) (x552 : Int) (x558 : Int) (x564 : Int) (x570 : Int) (K : AV → St → Prop) : Prop :=
 D 13 [(AV.one (V1.s (SV.ptr y308))), (AV.one (V1.agg [(SV.int IntKind.i64 x552), (SV.int IntKind.i64 x558), (SV.int IntKind.i64 x564), (SV.int IntKind.i64 x570)])), (AV.one (V1.s (SV.int IntKind.i64 (9 : Int))))] S545 fun v571 S572 =>
 avT v571 fun y574 =>
 uncV y574 fun v575 y576 =>
 v1A v575 fun y579 =>
 req (Nat.beq (List.length y579) 4) <|
 uncK y579 fun v580 y581 =>
 SV.cI IntKind.i64 v580 fun x585 =>
 uncK y581 fun v586 y587 =>
 SV.cI IntKind.i64 v586 fun x591 =>
 uncK y587 fun v592 y593 =>
 SV.cI IntKind.i64 v592 fun x597 =>
 uncK y593 fun v598 y599 =>
 SV.cI IntKind.i64 v598 fun x603 =>
 uncV y576 fun v604 y605 =>
 v1S v604 fun v607 =>
 SV.cB v607 fun y608 =>
 endL y605 (letK (α := St) ((St.add S572 (AO.cells [(SV.int IntKind.i64 (0 : Int)), (SV.int IntKind.i64 (0 : Int)), (SV.int IntKind.i64 (0 : Int)), (SV.int IntKind.i64 (0 : Int))] (Op2.ty 34)))) fun S609 =>
 F6_q2 D J y308 x318 y383 y415 S442 y478 S507 y543 S572 x585 x591 x597 x603 y608 S609 K)
noncomputable def F6_q4 (D J : Disp) (y308 : PV) (S313 : St) (x318 : Int) (y383 : Bool) (y415 : Bool) (S442 : St) (y478 : Bool) (S507 : St) (x520 : Int) (x526 : Int) (x532 : Int) (x538 : Int) (y543 : Bool) (S544 : St) (K : AV → St → Prop) : Prop :=
 St.wr S544 (Bk.new (St.next S507)) 0 [(SV.int IntKind.i64 x520), (SV.int IntKind.i64 x526), (SV.int IntKind.i64 x532), (SV.int IntKind.i64 x538)] fun S545 =>
 St.at S545 (Bk.new (St.next S313)) 0 fun y546 =>
 uncK y546 fun v547 y548 =>
 SV.cI IntKind.i64 v547 fun x552 =>
 uncK y548 fun v553 y554 =>
 SV.cI IntKind.i64 v553 fun x558 =>
 uncK y554 fun v559 y560 =>
 SV.cI IntKind.i64 v559 fun x564 =>
 uncK y560 fun v565 y566 =>
 SV.cI IntKind.i64 v565 fun x570 =>
 F6_q3 D J y308 x318 y383 y415 S442 y478 S507 y543 S545 x552 x558 x564 x570 K
noncomputable def F6_q5 (D J : Disp) (y308 : PV) (S313 : St) (x318 : Int) (y383 : Bool) (y415 : Bool) (S442 : St) (y478 : Bool) (S480 : St) (x487 : Int) (x493 : Int) (x499 : Int) (x505 : Int) (K : AV → St → Prop) : Prop :=
 D 13 [(AV.one (V1.s (SV.ptr y308))), (AV.one (V1.agg [(SV.int IntKind.i64 x487), (SV.int IntKind.i64 x493), (SV.int IntKind.i64 x499), (SV.int IntKind.i64 x505)])), (AV.one (V1.s (SV.int IntKind.i64 (4 : Int))))] S480 fun v506 S507 =>
 avT v506 fun y509 =>
 uncV y509 fun v510 y511 =>
 v1A v510 fun y514 =>
 req (Nat.beq (List.length y514) 4) <|
 uncK y514 fun v515 y516 =>
 SV.cI IntKind.i64 v515 fun x520 =>
 uncK y516 fun v521 y522 =>
 SV.cI IntKind.i64 v521 fun x526 =>
 uncK y522 fun v527 y528 =>
 SV.cI IntKind.i64 v527 fun x532 =>
 uncK y528 fun v533 y534 =>
 SV.cI IntKind.i64 v533 fun x538 =>
 uncV y511 fun v539 y540 =>
 v1S v539 fun v542 =>
 SV.cB v542 fun y543 =>
 endL y540 (letK (α := St) ((St.add S507 (AO.cells [(SV.int IntKind.i64 (0 : Int)), (SV.int IntKind.i64 (0 : Int)), (SV.int IntKind.i64 (0 : Int)), (SV.int IntKind.i64 (0 : Int))] (Op2.ty 34)))) fun S544 =>
 F6_q4 D J y308 S313 x318 y383 y415 S442 y478 S507 x520 x526 x532 x538 y543 S544 K)
noncomputable def F6_q6 (D J : Disp) (y308 : PV) (S313 : St) (x318 : Int) (y383 : Bool) (y415 : Bool) (S442 : St) (x455 : Int) (x461 : Int) (x467 : Int) (x473 : Int) (y478 : Bool) (S479 : St) (K : AV → St → Prop) : Prop :=
 St.wr S479 (Bk.new (St.next S442)) 0 [(SV.int IntKind.i64 x455), (SV.int IntKind.i64 x461), (SV.int IntKind.i64 x467), (SV.int IntKind.i64 x473)] fun S480 =>
 St.at S480 (Bk.new (St.next S313)) 0 fun y481 =>
 uncK y481 fun v482 y483 =>
 SV.cI IntKind.i64 v482 fun x487 =>
 uncK y483 fun v488 y489 =>
 SV.cI IntKind.i64 v488 fun x493 =>
 uncK y489 fun v494 y495 =>
 SV.cI IntKind.i64 v494 fun x499 =>
 uncK y495 fun v500 y501 =>
 SV.cI IntKind.i64 v500 fun x505 =>
 F6_q5 D J y308 S313 x318 y383 y415 S442 y478 S480 x487 x493 x499 x505 K
noncomputable def F6_q7 (D J : Disp) (y308 : PV) (S313 : St) (x318 : Int) (y383 : Bool) (S412 : St) (y415 : Bool) (x422 : Int) (x428 : Int) (x434 : Int) (x440 : Int) (K : AV → St → Prop) : Prop :=
 D 10 [(AV.one (V1.s (SV.ptr y308))), (AV.one (V1.agg [(SV.int IntKind.i64 x422), (SV.int IntKind.i64 x428), (SV.int IntKind.i64 x434), (SV.int IntKind.i64 x440)])), (AV.one (V1.s (SV.str [105, 51, 50])))] S412 fun v441 S442 =>
 avT v441 fun y444 =>
 uncV y444 fun v445 y446 =>
 v1A v445 fun y449 =>
 req (Nat.beq (List.length y449) 4) <|
 uncK y449 fun v450 y451 =>
 SV.cI IntKind.i64 v450 fun x455 =>
 uncK y451 fun v456 y457 =>
 SV.cI IntKind.i64 v456 fun x461 =>
 uncK y457 fun v462 y463 =>
 SV.cI IntKind.i64 v462 fun x467 =>
 uncK y463 fun v468 y469 =>
 SV.cI IntKind.i64 v468 fun x473 =>
 uncV y446 fun v474 y475 =>
 v1S v474 fun v477 =>
 SV.cB v477 fun y478 =>
 endL y475 (letK (α := St) ((St.add S442 (AO.cells [(SV.int IntKind.i64 (0 : Int)), (SV.int IntKind.i64 (0 : Int)), (SV.int IntKind.i64 (0 : Int)), (SV.int IntKind.i64 (0 : Int))] (Op2.ty 34)))) fun S479 =>
 F6_q6 D J y308 S313 x318 y383 y415 S442 x455 x461 x467 x473 y478 S479 K)
noncomputable def F6_q8 (D J : Disp) (y308 : PV) (S313 : St) (x318 : Int) (y383 : Bool) (S385 : St) (x392 : Int) (x398 : Int) (x404 : Int) (x410 : Int) (K : AV → St → Prop) : Prop :=
 D 9 [(AV.one (V1.s (SV.ptr y308))), (AV.one (V1.agg [(SV.int IntKind.i64 x392), (SV.int IntKind.i64 x398), (SV.int IntKind.i64 x404), (SV.int IntKind.i64 x410)])), (AV.one (V1.s (SV.str [105, 51, 50]))), (AV.one (V1.agg [(SV.int IntKind.i64 (1 : Int)), (SV.int IntKind.i64 (7 : Int)), (SV.int IntKind.i64 (0 : Int)), (SV.int IntKind.i64 (0 : Int))]))] S385 fun v411 S412 =>
 scK v411 fun v414 =>
 SV.cB v414 fun y415 =>
 St.at S412 (Bk.new (St.next S313)) 0 fun y416 =>
 uncK y416 fun v417 y418 =>
 SV.cI IntKind.i64 v417 fun x422 =>
 uncK y418 fun v423 y424 =>
 SV.cI IntKind.i64 v423 fun x428 =>
 uncK y424 fun v429 y430 =>
 SV.cI IntKind.i64 v429 fun x434 =>
 uncK y430 fun v435 y436 =>
 SV.cI IntKind.i64 v435 fun x440 =>
 F6_q7 D J y308 S313 x318 y383 S412 y415 x422 x428 x434 x440 K
noncomputable def F6_q9 (D J : Disp) (y308 : PV) (S313 : St) (x318 : Int) (S347 : St) (x360 : Int) (x366 : Int) (x372 : Int) (x378 : Int) (y383 : Bool) (S384 : St) (K : AV → St → Prop) : Prop :=
 St.wr S384 (Bk.new (St.next S347)) 0 [(SV.int IntKind.i64 x360), (SV.int IntKind.i64 x366), (SV.int IntKind.i64 x372), (SV.int IntKind.i64 x378)] fun S385 =>
 St.at S385 (Bk.new (St.next S313)) 0 fun y386 =>
 uncK y386 fun v387 y388 =>
 SV.cI IntKind.i64 v387 fun x392 =>
 uncK y388 fun v393 y394 =>
 SV.cI IntKind.i64 v393 fun x398 =>
 uncK y394 fun v399 y400 =>
 SV.cI IntKind.i64 v399 fun x404 =>
 uncK y400 fun v405 y406 =>
 SV.cI IntKind.i64 v405 fun x410 =>
 F6_q8 D J y308 S313 x318 y383 S385 x392 x398 x404 x410 K
noncomputable def F6_q10 (D J : Disp) (y308 : PV) (S313 : St) (x318 : Int) (S320 : St) (x327 : Int) (x333 : Int) (x339 : Int) (x345 : Int) (K : AV → St → Prop) : Prop :=
 D 10 [(AV.one (V1.s (SV.ptr y308))), (AV.one (V1.agg [(SV.int IntKind.i64 x327), (SV.int IntKind.i64 x333), (SV.int IntKind.i64 x339), (SV.int IntKind.i64 x345)])), (AV.one (V1.s (SV.str [105, 51, 50])))] S320 fun v346 S347 =>
 avT v346 fun y349 =>
 uncV y349 fun v350 y351 =>
 v1A v350 fun y354 =>
 req (Nat.beq (List.length y354) 4) <|
 uncK y354 fun v355 y356 =>
 SV.cI IntKind.i64 v355 fun x360 =>
 uncK y356 fun v361 y362 =>
 SV.cI IntKind.i64 v361 fun x366 =>
 uncK y362 fun v367 y368 =>
 SV.cI IntKind.i64 v367 fun x372 =>
 uncK y368 fun v373 y374 =>
 SV.cI IntKind.i64 v373 fun x378 =>
 uncV y351 fun v379 y380 =>
 v1S v379 fun v382 =>
 SV.cB v382 fun y383 =>
 endL y380 (letK (α := St) ((St.add S347 (AO.cells [(SV.int IntKind.i64 (0 : Int)), (SV.int IntKind.i64 (0 : Int)), (SV.int IntKind.i64 (0 : Int)), (SV.int IntKind.i64 (0 : Int))] (Op2.ty 34)))) fun S384 =>
 F6_q9 D J y308 S313 x318 S347 x360 x366 x372 x378 y383 S384 K)
noncomputable def F6_q11 (D J : Disp) (y308 : PV) (S313 : St) (x318 : Int) (S319 : St) (K : AV → St → Prop) : Prop :=
 St.wr S319 (Bk.new (St.next S313)) 0 [(SV.int IntKind.i64 (2 : Int)), (SV.int IntKind.i64 (0 : Int)), (SV.int IntKind.i64 x318), (SV.int IntKind.i64 (0 : Int))] fun S320 =>
 St.at S320 (Bk.new (St.next S313)) 0 fun y321 =>
 uncK y321 fun v322 y323 =>
 SV.cI IntKind.i64 v322 fun x327 =>
 uncK y323 fun v328 y329 =>
 SV.cI IntKind.i64 v328 fun x333 =>
 uncK y329 fun v334 y335 =>
 SV.cI IntKind.i64 v334 fun x339 =>
 uncK y335 fun v340 y341 =>
 SV.cI IntKind.i64 v340 fun x345 =>
 F6_q10 D J y308 S313 x318 S320 x327 x333 x339 x345 K
noncomputable def F6_q12 (D J : Disp) (S301 : St) (y308 : PV) (d310 : (Sum Nat Nat)) (S311 : St) (K : AV → St → Prop) : Prop :=
 D 8 [(AV.one (V1.s (SV.ptr y308))), (AV.one (V1.s (SV.int IntKind.i64 (8 : Int)))), (AV.one (V1.s (SV.sl (LV.mk (Bk.new (St.next S301)) 0 2 d310))))] S311 fun v312 S313 =>
 scK v312 fun v315 =>
 SV.cI IntKind.i64 v315 fun x318 =>
 letK (α := St) ((St.add S313 (AO.cells [(SV.int IntKind.i64 (0 : Int)), (SV.int IntKind.i64 (0 : Int)), (SV.int IntKind.i64 (0 : Int)), (SV.int IntKind.i64 (0 : Int))] (Op2.ty 34)))) fun S319 =>
 F6_q11 D J y308 S313 x318 S319 K
noncomputable def F6_q13 (D J : Disp) (S : St) (K : AV → St → Prop) : Prop :=
 D 7 [] S fun v300 S301 =>
 scK v300 fun v303 =>
 SV.cP v303 fun y308 =>
 optK (eqA MemP 1 25 (V1.s (SV.ptr y308)) (V1.s (SV.ptr PV.nil))) fun y309 =>
 ifK y309
 (K ((AV.one (V1.s (SV.bool Bool.false)))) S301)
 (letK (α := (Sum Nat Nat)) ((Sum.inl 2)) fun d310 =>
 letK (α := St) ((St.add S301 (AO.cells [(SV.int IntKind.i64 (0 : Int)), (SV.str [105, 51, 50]), (SV.int IntKind.i64 (4 : Int)), (SV.str [105, 51, 50])] Op2.sh))) fun S311 =>
 F6_q12 D J S301 y308 d310 S311 K)
noncomputable def F6_0 (D J : Disp)  (S : St) (K : AV → St → Prop) : Prop :=
 F6_q13 D J S K
noncomputable def X6_0 : X := (.op (.op (.op (.br (.op .ret) (.op (.op (.op (.op (.op (.op (.op (.op .ret))))))))))))
theorem F6_0_eq (D J : Disp)  (S : St) (K : AV → St → Prop) : F6_0 D J  S K = execK MemP MemG Go.Proofs.Try.f6 (typed MemP D) J plans6 X6_0 (T6 0).1 (envOf (T6 0).2 []) S K := by kernel_rfl
noncomputable abbrev A6_0 (D J : Disp) (vals : List AV) (S : St) (K : AV → St → Prop) : Prop :=
  endL vals <| F6_0 D J  S K
theorem A6_0_ok {D J : Disp} (hD : DOK MemP MemG D) (hJ : JOK MemP MemG Go.Proofs.Try.f6 T6 J) {vals : List AV} {S : St} {K : AV → St → Prop} (h0 : A6_0 D J vals S K) : Runs MemP MemG Go.Proofs.Try.f6 (T6 0).1 (envOf (T6 0).2 vals) S K := by
  obtain ⟨rfl, h1⟩ := endL_some h0
  rw [F6_0_eq] at h1
  exact execK_runs hD.typed Mem_zero Mem_mixed hJ X6_0 (T6 0).1 (envOf (T6 0).2 _) S K (chk_of (by kernel_rfl) (by kernel_rfl)) h1
noncomputable def J6 (D : Disp) (k : Nat) : Disp := Nat.rec (motive := fun _ => Disp) Disp.no (fun _ ih => Disp.add 0 (A6_0 D ih) <| Disp.no) k
theorem J6_ok {D : Disp} (hD : DOK MemP MemG D) : ∀ k, JOK MemP MemG Go.Proofs.Try.f6 T6 (J6 D k)
  | 0 => JOK.no
  | k + 1 => JOK.add (ltB_ok (by kernel_rfl)) (fun vals S K h => A6_0_ok hD (J6_ok hD k) h) <| JOK.no
theorem E6_ok {D : Disp} (hD : DOK MemP MemG D) (k : Nat) {args : List AV} {S : St} {K : AV → St → Prop} (h : A6_0 D (J6 D k) args S K) : CallE MemP MemG 6 args S K := by
  have hr := A6_0_ok hD (J6_ok hD k) h
  have hl : args.length = 0 := by
    have h0 := h
    obtain ⟨rfl, h1⟩ := endL_some h0
    rfl
  refine callOK_of (fn := Go.Proofs.Try.f6) (c := (match Go.Proofs.Try.f6.body with | some c => c | none => .skip)) (by kernel_rfl) (by kernel_rfl) (by kernel_rfl) (by rw [hl]; kernel_rfl) (by kernel_rfl) ?_
  rw [hl]
  exact hr
noncomputable def plans7 (i : Nat) : Plan := []
noncomputable def T7 (p : Nat) : List Item × List Nat := bif Nat.beq p 0 then ([.code (match Go.Proofs.Try.f7.body with | some c => c | none => .skip)], []) else
  ([], [])
noncomputable def F7_0 (D J : Disp)  (S : St) (K : AV → St → Prop) : Prop :=
 letK (α := St) ((St.add S (AO.map [] 0))) fun S300 =>
 letK (α := St) ((St.add S300 (AO.map [] 0))) fun S301 =>
 letK (α := St) ((St.add S301 (AO.cells [(SV.int IntKind.i64 (0 : Int)), (SV.map (MV.mk (Bk.new (St.next S)))), (SV.map (MV.mk (Bk.new (St.next S300))))] (Op2.ty 50)))) fun S302 =>
 K ((AV.one (V1.s (SV.ptr (PV.mk (Bk.new (St.next S301)) 0))))) S302
noncomputable def X7_0 : X := (.op (.op .ret))
theorem F7_0_eq (D J : Disp)  (S : St) (K : AV → St → Prop) : F7_0 D J  S K = execK MemP MemG Go.Proofs.Try.f7 (typed MemP D) J plans7 X7_0 (T7 0).1 (envOf (T7 0).2 []) S K := by kernel_rfl
noncomputable abbrev A7_0 (D J : Disp) (vals : List AV) (S : St) (K : AV → St → Prop) : Prop :=
  endL vals <| F7_0 D J  S K
theorem A7_0_ok {D J : Disp} (hD : DOK MemP MemG D) (hJ : JOK MemP MemG Go.Proofs.Try.f7 T7 J) {vals : List AV} {S : St} {K : AV → St → Prop} (h0 : A7_0 D J vals S K) : Runs MemP MemG Go.Proofs.Try.f7 (T7 0).1 (envOf (T7 0).2 vals) S K := by
  obtain ⟨rfl, h1⟩ := endL_some h0
  rw [F7_0_eq] at h1
  exact execK_runs hD.typed Mem_zero Mem_mixed hJ X7_0 (T7 0).1 (envOf (T7 0).2 _) S K (chk_of (by kernel_rfl) (by kernel_rfl)) h1
noncomputable def J7 (D : Disp) (k : Nat) : Disp := Nat.rec (motive := fun _ => Disp) Disp.no (fun _ ih => Disp.add 0 (A7_0 D ih) <| Disp.no) k
theorem J7_ok {D : Disp} (hD : DOK MemP MemG D) : ∀ k, JOK MemP MemG Go.Proofs.Try.f7 T7 (J7 D k)
  | 0 => JOK.no
  | k + 1 => JOK.add (ltB_ok (by kernel_rfl)) (fun vals S K h => A7_0_ok hD (J7_ok hD k) h) <| JOK.no
theorem E7_ok {D : Disp} (hD : DOK MemP MemG D) (k : Nat) {args : List AV} {S : St} {K : AV → St → Prop} (h : A7_0 D (J7 D k) args S K) : CallE MemP MemG 7 args S K := by
  have hr := A7_0_ok hD (J7_ok hD k) h
  have hl : args.length = 0 := by
    have h0 := h
    obtain ⟨rfl, h1⟩ := endL_some h0
    rfl
  refine callOK_of (fn := Go.Proofs.Try.f7) (c := (match Go.Proofs.Try.f7.body with | some c => c | none => .skip)) (by kernel_rfl) (by kernel_rfl) (by kernel_rfl) (by rw [hl]; kernel_rfl) (by kernel_rfl) ?_
  rw [hl]
  exact hr
noncomputable def plans8 (i : Nat) : Plan := if Nat.beq i 8 then [(0, []), (1, [0]), (2, [1, 0]), (3, [2, 1, 0]), (4, []), (5, [4]), (6, [3, 5, 2, 4, 1, 0]), (7, []), (8, [7, 6, 0, 1, 2, 3, 4, 5])] else if Nat.beq i 9 then [(0, []), (1, [0]), (2, [1, 0]), (3, [2, 1, 0]), (4, []), (5, [3, 4, 2, 1, 0]), (6, [5, 3, 4, 2, 1, 0]), (7, [6, 5, 3, 4, 2, 1, 0]), (8, [6, 5, 3, 4, 2, 1, 0]), (9, []), (10, [9, 7, 0, 1, 2, 3, 4, 5, 6]), (11, [8, 10, 0, 1, 2, 3, 4, 5, 6, 7, 9])] else if Nat.beq i 11 then [(0, []), (1, [0]), (2, [1, 0]), (3, [2, 1, 0]), (4, []), (5, []), (6, [5]), (7, [6, 5]), (8, [3, 4, 7, 0, 1, 2, 5, 6])] else if Nat.beq i 14 then [(0, []), (1, [0]), (2, [1, 0]), (3, [2, 1, 0]), (4, []), (5, [4]), (6, [5, 4]), (7, [6, 5, 4]), (8, []), (9, [3, 7, 8, 0, 1, 2, 4, 5, 6])] else []
noncomputable def T8 (p : Nat) : List Item × List Nat := bif Nat.beq p 0 then ([.code (match Go.Proofs.Try.f8.body with | some c => c | none => .skip)], [0, 1, 2]) else
  bif Nat.beq p 8 then (navs [.op, .op, .el, .op, .op, .op] [.code (match Go.Proofs.Try.f8.body with | some c => c | none => .skip)], [0, 7, 25, 26, 27]) else
  bif Nat.beq p 15 then (navs [.op, .op, .el, .op, .op, .op, .op, .th, .op, .op, .op, .op, .th] [.code (match Go.Proofs.Try.f8.body with | some c => c | none => .skip)], [0, 7, 25, 26, 27]) else
  ([], [])
noncomputable def F8_q11 (D J : Disp) (p0 : PV) (l2 : LV) (S315 : St) (x316 : Int) (K : AV → St → Prop) : Prop :=
 letK (α := St) ((St.add S315 (AO.cells [(SV.int IntKind.i64 (0 : Int)), (SV.sl LV.nil)] (Op2.ty 52)))) fun S317 =>
 St.wr S317 (Bk.new (St.next S315)) 0 [(SV.int IntKind.i64 x316), (SV.sl LV.nil)] fun S318 =>
 letK (α := Int) ((Int.ofNat (LV.len l2))) fun x319 =>
 J 8 [(AV.one (V1.s (SV.ptr p0))), (AV.one (V1.s (SV.ptr (PV.mk (Bk.new (St.next S315)) 0)))), (AV.one (V1.s (SV.sl l2))), (AV.one (V1.s (SV.int IntKind.i64 x319))), (AV.one (V1.s (SV.int IntKind.i64 (0 : Int))))] S318 K
noncomputable def F8_q12 (D J : Disp) (S : St) (p0 : PV) (x1 : Int) (l2 : LV) (y300 : Bool) (K : AV → St → Prop) : Prop :=
 ifK y300
 (K ((AV.one (V1.s (SV.int IntKind.i64 (0 : Int))))) S)
 (PV.cs p0 fun b301 n302 =>
 letK (α := Nat) ((n302 + 0)) fun n303 =>
 St.at S b301 n303 fun y304 =>
 uncK y304 fun v305 y306 =>
 SV.cI IntKind.i64 v305 fun x310 =>
 letK (α := Int) ((iwrap IntKind.i64 (x310 + (1 : Int)))) fun x311 =>
 PV.cs p0 fun b312 n313 =>
 letK (α := Nat) ((n313 + 0)) fun n314 =>
 St.wr S b312 n314 [(SV.int IntKind.i64 x311)] fun S315 =>
 letK (α := Int) ((imax x1 (1 : Int))) fun x316 =>
 F8_q11 D J p0 l2 S315 x316 K)
noncomputable def F8_0 (D J : Disp) (p0 : PV) (x1 : Int) (l2 : LV) (S : St) (K : AV → St → Prop) : Prop :=
 optK (eqA MemP 1 25 (V1.s (SV.ptr p0)) (V1.s (SV.ptr PV.nil))) fun y300 =>
 F8_q12 D J S p0 x1 l2 y300 K
noncomputable def X8_0 : X := (.op (.op (.br (.op .ret) (.op (.op (.op (.jmp 8 [0, 7, 25, 26, 27])))))))
theorem F8_0_eq (D J : Disp) (p0 : PV) (x1 : Int) (l2 : LV) (S : St) (K : AV → St → Prop) : F8_0 D J p0 x1 l2 S K = execK MemP MemG Go.Proofs.Try.f8 (typed MemP D) J plans8 X8_0 (T8 0).1 (envOf (T8 0).2 [(AV.one (V1.s (SV.ptr p0))), (AV.one (V1.s (SV.int IntKind.i64 x1))), (AV.one (V1.s (SV.sl l2)))]) S K := by kernel_rfl
noncomputable def F8_q13 (D J : Disp) (p0 : PV) (p7 : PV) (l25 : LV) (x26 : Int) (x27 : Int) (S442 : St) (y455 : LV) (x462 : Int) (K : AV → St → Prop) : Prop :=
 letK (α := (Sum Nat Nat)) ((Sum.inl 1)) fun d463 =>
 letK (α := St) ((St.add S442 (AO.cells [(SV.int IntKind.i64 x462)] Op2.sh))) fun S464 =>
 St.src S464 1 (LV.mk (Bk.new (St.next S442)) 0 1 d463) fun y465 n466 =>
 St.app S464 3 1 8 y455 y465 n466 fun y467 S468 =>
 PV.cs p7 fun b469 n470 =>
 letK (α := Nat) ((n470 + 1)) fun n471 =>
 St.wr S468 b469 n471 [(SV.sl y467)] fun S472 =>
 J 15 [(AV.one (V1.s (SV.ptr p0))), (AV.one (V1.s (SV.ptr p7))), (AV.one (V1.s (SV.sl l25))), (AV.one (V1.s (SV.int IntKind.i64 x26))), (AV.one (V1.s (SV.int IntKind.i64 x27)))] S472 K
noncomputable def F8_q14 (D J : Disp) (S : St) (p0 : PV) (p7 : PV) (l25 : LV) (x26 : Int) (x27 : Int) (S406 : St) (y420 : MV) (x427 : Int) (x433 : Int) (y441 : (List Nat)) (K : AV → St → Prop) : Prop :=
 St.mput MemP S406 54 y420 (V1.agg [(SV.int IntKind.i64 x427), (SV.int IntKind.i64 x433)]) (V1.agg [(SV.str y441), (SV.int IntKind.i64 (0 : Int)), (SV.int IntKind.i64 (0 : Int)), (SV.int IntKind.i64 (0 : Int)), (SV.int IntKind.i64 (0 : Int))]) fun S442 =>
 PV.cs p7 fun b443 n444 =>
 letK (α := Nat) ((n444 + 1)) fun n445 =>
 St.at S442 b443 n445 fun y446 =>
 uncK y446 fun v447 y448 =>
 SV.cL v447 fun y455 =>
 St.at S442 (Bk.new (St.next S)) 0 fun y456 =>
 uncK y456 fun v457 y458 =>
 SV.cI IntKind.i64 v457 fun x462 =>
 F8_q13 D J p0 p7 l25 x26 x27 S442 y455 x462 K
noncomputable def F8_q15 (D J : Disp) (S : St) (p0 : PV) (p7 : PV) (l25 : LV) (x26 : Int) (x27 : Int) (S321 : St) (S406 : St) (b407 : Bk) (n408 : Nat) (K : AV → St → Prop) : Prop :=
 letK (α := Nat) ((n408 + 2)) fun n409 =>
 St.at S406 b407 n409 fun y410 =>
 uncK y410 fun v411 y412 =>
 SV.cM v411 fun y420 =>
 St.at S406 (Bk.new (St.next S321)) 0 fun y421 =>
 uncK y421 fun v422 y423 =>
 SV.cI IntKind.i64 v422 fun x427 =>
 uncK y423 fun v428 y429 =>
 SV.cI IntKind.i64 v428 fun x433 =>
 St.at S406 (Bk.new (St.next S)) 1 fun y434 =>
 uncK y434 fun v435 y436 =>
 SV.cS v435 fun y441 =>
 F8_q14 D J S p0 p7 l25 x26 x27 S406 y420 x427 x433 y441 K
noncomputable def F8_q16 (D J : Disp) (S : St) (p0 : PV) (p7 : PV) (l25 : LV) (x26 : Int) (x27 : Int) (S321 : St) (S341 : St) (y370 : Bool) (y379 : (List Nat)) (x385 : Int) (x391 : Int) (x397 : Int) (x403 : Int) (K : AV → St → Prop) : Prop :=
 letK (α := AO) ((AO.cells [(SV.str []), (SV.int IntKind.i64 (0 : Int)), (SV.int IntKind.i64 (0 : Int)), (SV.int IntKind.i64 (0 : Int)), (SV.int IntKind.i64 (0 : Int))] (Op2.ty 56))) fun o404 =>
 letK (α := St) ((St.add S341 o404)) fun S405 =>
 St.wr S405 (Bk.new (St.next S341)) 0 [(SV.str y379), (SV.int IntKind.i64 x385), (SV.int IntKind.i64 x391), (SV.int IntKind.i64 x397), (SV.int IntKind.i64 x403)] fun S406 =>
 ifK y370
 (J 15 [(AV.one (V1.s (SV.ptr p0))), (AV.one (V1.s (SV.ptr p7))), (AV.one (V1.s (SV.sl l25))), (AV.one (V1.s (SV.int IntKind.i64 x26))), (AV.one (V1.s (SV.int IntKind.i64 x27)))] S406 K)
 (PV.cs p0 fun b407 n408 =>
 F8_q15 D J S p0 p7 l25 x26 x27 S321 S406 b407 n408 K)
noncomputable def F8_q17 (D J : Disp) (S : St) (p0 : PV) (p7 : PV) (l25 : LV) (x26 : Int) (x27 : Int) (S321 : St) (S341 : St) (y355 : MV) (x362 : Int) (x368 : Int) (K : AV → St → Prop) : Prop :=
 St.lookup MemP S341 54 (V1.agg [(SV.str []), (SV.int IntKind.i64 (0 : Int)), (SV.int IntKind.i64 (0 : Int)), (SV.int IntKind.i64 (0 : Int)), (SV.int IntKind.i64 (0 : Int))]) y355 (V1.agg [(SV.int IntKind.i64 x362), (SV.int IntKind.i64 x368)]) fun v369 y370 =>
 v1A v369 fun y372 =>
 req (Nat.beq (List.length y372) 5) <|
 uncK y372 fun v373 y374 =>
 SV.cS v373 fun y379 =>
 uncK y374 fun v380 y381 =>
 SV.cI IntKind.i64 v380 fun x385 =>
 uncK y381 fun v386 y387 =>
 SV.cI IntKind.i64 v386 fun x391 =>
 uncK y387 fun v392 y393 =>
 SV.cI IntKind.i64 v392 fun x397 =>
 uncK y393 fun v398 y399 =>
 SV.cI IntKind.i64 v398 fun x403 =>
 F8_q16 D J S p0 p7 l25 x26 x27 S321 S341 y370 y379 x385 x391 x397 x403 K
noncomputable def F8_q18 (D J : Disp) (S : St) (p0 : PV) (p7 : PV) (l25 : LV) (x26 : Int) (x27 : Int) (S321 : St) (x331 : Int) (x338 : Int) (K : AV → St → Prop) : Prop :=
 letK (α := AO) ((AO.cells [(SV.int IntKind.i64 (0 : Int)), (SV.int IntKind.i64 (0 : Int))] (Op2.ty 54))) fun o339 =>
 letK (α := St) ((St.add S321 o339)) fun S340 =>
 St.wr S340 (Bk.new (St.next S321)) 0 [(SV.int IntKind.i64 x331), (SV.int IntKind.i64 x338)] fun S341 =>
 PV.cs p0 fun b342 n343 =>
 letK (α := Nat) ((n343 + 2)) fun n344 =>
 St.at S341 b342 n344 fun y345 =>
 uncK y345 fun v346 y347 =>
 SV.cM v346 fun y355 =>
 St.at S341 (Bk.new (St.next S321)) 0 fun y356 =>
 uncK y356 fun v357 y358 =>
 SV.cI IntKind.i64 v357 fun x362 =>
 uncK y358 fun v363 y364 =>
 SV.cI IntKind.i64 v363 fun x368 =>
 F8_q17 D J S p0 p7 l25 x26 x27 S321 S341 y355 x362 x368 K
noncomputable def F8_q19 (D J : Disp) (S : St) (p0 : PV) (p7 : PV) (l25 : LV) (x26 : Int) (x27 : Int) (x312 : Int) (y319 : (List Nat)) (K : AV → St → Prop) : Prop :=
 letK (α := St) ((St.add S (AO.cells [(SV.int IntKind.i64 (0 : Int)), (SV.str [])] (Op2.ty 29)))) fun S320 =>
 St.wr S320 (Bk.new (St.next S)) 0 [(SV.int IntKind.i64 x312), (SV.str y319)] fun S321 =>
 PV.cs p0 fun b322 n323 =>
 letK (α := Nat) ((n323 + 0)) fun n324 =>
 St.at S321 b322 n324 fun y325 =>
 uncK y325 fun v326 y327 =>
 SV.cI IntKind.i64 v326 fun x331 =>
 St.at S321 (Bk.new (St.next S)) 0 fun y332 =>
 uncK y332 fun v333 y334 =>
 SV.cI IntKind.i64 v333 fun x338 =>
 F8_q18 D J S p0 p7 l25 x26 x27 S321 x331 x338 K
noncomputable def F8_q20 (D J : Disp) (S : St) (p0 : PV) (p7 : PV) (y562 : MV) (x572 : Int) (K : AV → St → Prop) : Prop :=
 PV.cs p7 fun b573 n574 =>
 St.at S b573 n574 fun y575 =>
 uncK y575 fun v576 y577 =>
 SV.cI IntKind.i64 v576 fun x581 =>
 uncK y577 fun v582 y583 =>
 SV.cL v582 fun y590 =>
 St.mput MemP S 3 y562 (V1.s (SV.int IntKind.i64 x572)) (V1.agg [(SV.int IntKind.i64 x581), (SV.sl y590)]) fun S591 =>
 PV.cs p0 fun b592 n593 =>
 letK (α := Nat) ((n593 + 0)) fun n594 =>
 St.at S591 b592 n594 fun y595 =>
 uncK y595 fun v596 y597 =>
 SV.cI IntKind.i64 v596 fun x601 =>
 K ((AV.one (V1.s (SV.int IntKind.i64 x601)))) S591
noncomputable def F8_q21 (D J : Disp) (S : St) (p0 : PV) (p7 : PV) (l25 : LV) (x26 : Int) (x27 : Int) (c300 : Bool) (K : AV → St → Prop) : Prop :=
 ifK c300
 (LV.cs l25 fun b301 n302 n303 y304 =>
 req (Bool.and (ile (0 : Int) x27) (ilt x27 (Int.ofNat n303))) <|
 letK (α := Nat) ((n302 + ((Int.toNat x27) * 2))) fun n305 =>
 St.at S b301 n305 fun y306 =>
 uncK y306 fun v307 y308 =>
 SV.cI IntKind.i64 v307 fun x312 =>
 uncK y308 fun v313 y314 =>
 SV.cS v313 fun y319 =>
 F8_q19 D J S p0 p7 l25 x26 x27 x312 y319 K)
 (PV.cs p0 fun b549 n550 =>
 letK (α := Nat) ((n550 + 1)) fun n551 =>
 St.at S b549 n551 fun y552 =>
 uncK y552 fun v553 y554 =>
 SV.cM v553 fun y562 =>
 PV.cs p0 fun b563 n564 =>
 letK (α := Nat) ((n564 + 0)) fun n565 =>
 St.at S b563 n565 fun y566 =>
 uncK y566 fun v567 y568 =>
 SV.cI IntKind.i64 v567 fun x572 =>
 F8_q20 D J S p0 p7 y562 x572 K)
noncomputable def F8_8 (D J : Disp) (p0 : PV) (p7 : PV) (l25 : LV) (x26 : Int) (x27 : Int) (S : St) (K : AV → St → Prop) : Prop :=
 letK (α := Bool) ((ilt x27 x26)) fun c300 =>
 F8_q21 D J S p0 p7 l25 x26 x27 c300 K
noncomputable def X8_8 : X := (.op (.br (.op (.op (.op (.op (.br (.jmp 15 [0, 7, 25, 26, 27]) (.op (.op (.jmp 15 [0, 7, 25, 26, 27])))))))) (.op (.op .ret))))
theorem F8_8_eq (D J : Disp) (p0 : PV) (p7 : PV) (l25 : LV) (x26 : Int) (x27 : Int) (S : St) (K : AV → St → Prop) : F8_8 D J p0 p7 l25 x26 x27 S K = execK MemP MemG Go.Proofs.Try.f8 (typed MemP D) J plans8 X8_8 (T8 8).1 (envOf (T8 8).2 [(AV.one (V1.s (SV.ptr p0))), (AV.one (V1.s (SV.ptr p7))), (AV.one (V1.s (SV.sl l25))), (AV.one (V1.s (SV.int IntKind.i64 x26))), (AV.one (V1.s (SV.int IntKind.i64 x27)))]) S K := by kernel_rfl
noncomputable def F8_15 (D J : Disp) (p0 : PV) (p7 : PV) (l25 : LV) (x26 : Int) (x27 : Int) (S : St) (K : AV → St → Prop) : Prop :=
 letK (α := Int) ((iwrap IntKind.i64 (x27 + (1 : Int)))) fun x300 =>
 J 8 [(AV.one (V1.s (SV.ptr p0))), (AV.one (V1.s (SV.ptr p7))), (AV.one (V1.s (SV.sl l25))), (AV.one (V1.s (SV.int IntKind.i64 x26))), (AV.one (V1.s (SV.int IntKind.i64 x300)))] S K
noncomputable def X8_15 : X := (.op (.jmp 8 [0, 7, 25, 26, 27]))
theorem F8_15_eq (D J : Disp) (p0 : PV) (p7 : PV) (l25 : LV) (x26 : Int) (x27 : Int) (S : St) (K : AV → St → Prop) : F8_15 D J p0 p7 l25 x26 x27 S K = execK MemP MemG Go.Proofs.Try.f8 (typed MemP D) J plans8 X8_15 (T8 15).1 (envOf (T8 15).2 [(AV.one (V1.s (SV.ptr p0))), (AV.one (V1.s (SV.ptr p7))), (AV.one (V1.s (SV.sl l25))), (AV.one (V1.s (SV.int IntKind.i64 x26))), (AV.one (V1.s (SV.int IntKind.i64 x27)))]) S K := by kernel_rfl
noncomputable abbrev A8_0 (D J : Disp) (vals : List AV) (S : St) (K : AV → St → Prop) : Prop :=
  uncA vals fun a9001 r9002 => scK a9001 fun s9004 => SV.cP s9004 fun p0 => uncA r9002 fun a9007 r9008 => scK a9007 fun s9010 => SV.cI IntKind.i64 s9010 fun x1 => uncA r9008 fun a9013 r9014 => scK a9013 fun s9016 => SV.cL s9016 fun l2 => endL r9014 <| F8_0 D J p0 x1 l2 S K
theorem A8_0_ok {D J : Disp} (hD : DOK MemP MemG D) (hJ : JOK MemP MemG Go.Proofs.Try.f8 T8 J) {vals : List AV} {S : St} {K : AV → St → Prop} (h0 : A8_0 D J vals S K) : Runs MemP MemG Go.Proofs.Try.f8 (T8 0).1 (envOf (T8 0).2 vals) S K := by
  obtain ⟨a9001, r9002, rfl, h3⟩ := uncA_some h0
  obtain ⟨s9004, rfl, h5⟩ := scK_some h3
  obtain ⟨p0, rfl, h6⟩ := cP_some h5
  obtain ⟨a9007, r9008, rfl, h9⟩ := uncA_some h6
  obtain ⟨s9010, rfl, h11⟩ := scK_some h9
  obtain ⟨x1, rfl, h12⟩ := cI_some h11
  obtain ⟨a9013, r9014, rfl, h15⟩ := uncA_some h12
  obtain ⟨s9016, rfl, h17⟩ := scK_some h15
  obtain ⟨l2, rfl, h18⟩ := cL_some h17
  obtain ⟨rfl, h19⟩ := endL_some h18
  rw [F8_0_eq] at h19
  exact execK_runs hD.typed Mem_zero Mem_mixed hJ X8_0 (T8 0).1 (envOf (T8 0).2 _) S K (chk_of (by kernel_rfl) (by kernel_rfl)) h19
noncomputable abbrev A8_8 (D J : Disp) (vals : List AV) (S : St) (K : AV → St → Prop) : Prop :=
  uncA vals fun a9001 r9002 => scK a9001 fun s9004 => SV.cP s9004 fun p0 => uncA r9002 fun a9007 r9008 => scK a9007 fun s9010 => SV.cP s9010 fun p7 => uncA r9008 fun a9013 r9014 => scK a9013 fun s9016 => SV.cL s9016 fun l25 => uncA r9014 fun a9019 r9020 => scK a9019 fun s9022 => SV.cI IntKind.i64 s9022 fun x26 => uncA r9020 fun a9025 r9026 => scK a9025 fun s9028 => SV.cI IntKind.i64 s9028 fun x27 => endL r9026 <| F8_8 D J p0 p7 l25 x26 x27 S K
theorem A8_8_ok {D J : Disp} (hD : DOK MemP MemG D) (hJ : JOK MemP MemG Go.Proofs.Try.f8 T8 J) {vals : List AV} {S : St} {K : AV → St → Prop} (h0 : A8_8 D J vals S K) : Runs MemP MemG Go.Proofs.Try.f8 (T8 8).1 (envOf (T8 8).2 vals) S K := by
  obtain ⟨a9001, r9002, rfl, h3⟩ := uncA_some h0
  obtain ⟨s9004, rfl, h5⟩ := scK_some h3
  obtain ⟨p0, rfl, h6⟩ := cP_some h5
  obtain ⟨a9007, r9008, rfl, h9⟩ := uncA_some h6
  obtain ⟨s9010, rfl, h11⟩ := scK_some h9
  obtain ⟨p7, rfl, h12⟩ := cP_some h11
  obtain ⟨a9013, r9014, rfl, h15⟩ := uncA_some h12
  obtain ⟨s9016, rfl, h17⟩ := scK_some h15
  obtain ⟨l25, rfl, h18⟩ := cL_some h17
  obtain ⟨a9019, r9020, rfl, h21⟩ := uncA_some h18
  obtain ⟨s9022, rfl, h23⟩ := scK_some h21
  obtain ⟨x26, rfl, h24⟩ := cI_some h23
  obtain ⟨a9025, r9026, rfl, h27⟩ := uncA_some h24
  obtain ⟨s9028, rfl, h29⟩ := scK_some h27
  obtain ⟨x27, rfl, h30⟩ := cI_some h29
  obtain ⟨rfl, h31⟩ := endL_some h30
  rw [F8_8_eq] at h31
  exact execK_runs hD.typed Mem_zero Mem_mixed hJ X8_8 (T8 8).1 (envOf (T8 8).2 _) S K (chk_of (by kernel_rfl) (by kernel_rfl)) h31
noncomputable abbrev A8_15 (D J : Disp) (vals : List AV) (S : St) (K : AV → St → Prop) : Prop :=
  uncA vals fun a9001 r9002 => scK a9001 fun s9004 => SV.cP s9004 fun p0 => uncA r9002 fun a9007 r9008 => scK a9007 fun s9010 => SV.cP s9010 fun p7 => uncA r9008 fun a9013 r9014 => scK a9013 fun s9016 => SV.cL s9016 fun l25 => uncA r9014 fun a9019 r9020 => scK a9019 fun s9022 => SV.cI IntKind.i64 s9022 fun x26 => uncA r9020 fun a9025 r9026 => scK a9025 fun s9028 => SV.cI IntKind.i64 s9028 fun x27 => endL r9026 <| F8_15 D J p0 p7 l25 x26 x27 S K
theorem A8_15_ok {D J : Disp} (hD : DOK MemP MemG D) (hJ : JOK MemP MemG Go.Proofs.Try.f8 T8 J) {vals : List AV} {S : St} {K : AV → St → Prop} (h0 : A8_15 D J vals S K) : Runs MemP MemG Go.Proofs.Try.f8 (T8 15).1 (envOf (T8 15).2 vals) S K := by
  obtain ⟨a9001, r9002, rfl, h3⟩ := uncA_some h0
  obtain ⟨s9004, rfl, h5⟩ := scK_some h3
  obtain ⟨p0, rfl, h6⟩ := cP_some h5
  obtain ⟨a9007, r9008, rfl, h9⟩ := uncA_some h6
  obtain ⟨s9010, rfl, h11⟩ := scK_some h9
  obtain ⟨p7, rfl, h12⟩ := cP_some h11
  obtain ⟨a9013, r9014, rfl, h15⟩ := uncA_some h12
  obtain ⟨s9016, rfl, h17⟩ := scK_some h15
  obtain ⟨l25, rfl, h18⟩ := cL_some h17
  obtain ⟨a9019, r9020, rfl, h21⟩ := uncA_some h18
  obtain ⟨s9022, rfl, h23⟩ := scK_some h21
  obtain ⟨x26, rfl, h24⟩ := cI_some h23
  obtain ⟨a9025, r9026, rfl, h27⟩ := uncA_some h24
  obtain ⟨s9028, rfl, h29⟩ := scK_some h27
  obtain ⟨x27, rfl, h30⟩ := cI_some h29
  obtain ⟨rfl, h31⟩ := endL_some h30
  rw [F8_15_eq] at h31
  exact execK_runs hD.typed Mem_zero Mem_mixed hJ X8_15 (T8 15).1 (envOf (T8 15).2 _) S K (chk_of (by kernel_rfl) (by kernel_rfl)) h31
noncomputable def J8 (D : Disp) (k : Nat) : Disp := Nat.rec (motive := fun _ => Disp) Disp.no (fun _ ih => Disp.add 0 (A8_0 D ih) <| Disp.add 8 (A8_8 D ih) <| Disp.add 15 (A8_15 D ih) <| Disp.no) k
theorem J8_ok {D : Disp} (hD : DOK MemP MemG D) : ∀ k, JOK MemP MemG Go.Proofs.Try.f8 T8 (J8 D k)
  | 0 => JOK.no
  | k + 1 => JOK.add (ltB_ok (by kernel_rfl)) (fun vals S K h => A8_0_ok hD (J8_ok hD k) h) <| JOK.add (ltB_ok (by kernel_rfl)) (fun vals S K h => A8_8_ok hD (J8_ok hD k) h) <| JOK.add (ltB_ok (by kernel_rfl)) (fun vals S K h => A8_15_ok hD (J8_ok hD k) h) <| JOK.no
theorem E8_ok {D : Disp} (hD : DOK MemP MemG D) (k : Nat) {args : List AV} {S : St} {K : AV → St → Prop} (h : A8_0 D (J8 D k) args S K) : CallE MemP MemG 8 args S K := by
  have hr := A8_0_ok hD (J8_ok hD k) h
  have hl : args.length = 3 := by
    have h0 := h
    obtain ⟨a9001, r9002, rfl, h3⟩ := uncA_some h0
    obtain ⟨s9004, rfl, h5⟩ := scK_some h3
    obtain ⟨p0, rfl, h6⟩ := cP_some h5
    obtain ⟨a9007, r9008, rfl, h9⟩ := uncA_some h6
    obtain ⟨s9010, rfl, h11⟩ := scK_some h9
    obtain ⟨x1, rfl, h12⟩ := cI_some h11
    obtain ⟨a9013, r9014, rfl, h15⟩ := uncA_some h12
    obtain ⟨s9016, rfl, h17⟩ := scK_some h15
    obtain ⟨l2, rfl, h18⟩ := cL_some h17
    obtain ⟨rfl, h19⟩ := endL_some h18
    rfl
  refine callOK_of (fn := Go.Proofs.Try.f8) (c := (match Go.Proofs.Try.f8.body with | some c => c | none => .skip)) (by kernel_rfl) (by kernel_rfl) (by kernel_rfl) (by rw [hl]; kernel_rfl) (by kernel_rfl) ?_
  rw [hl]
  exact hr
noncomputable def plans9 (i : Nat) : Plan := if Nat.beq i 5 then [(0, []), (1, [0]), (2, [1, 0]), (3, [2, 1, 0]), (4, []), (5, []), (6, [3, 4, 5, 0, 1, 2])] else []
noncomputable def T9 (p : Nat) : List Item × List Nat := bif Nat.beq p 0 then ([.code (match Go.Proofs.Try.f9.body with | some c => c | none => .skip)], [0, 1, 2, 3]) else
  ([], [])
noncomputable def F9_q0 (D J : Disp) (S389 : St) (S419 : St) (y433 : MV) (x440 : Int) (x446 : Int) (K : AV → St → Prop) : Prop :=
 St.at S419 (Bk.new (St.next S389)) 0 fun y447 =>
 uncK y447 fun v448 y449 =>
 SV.cS v448 fun y454 =>
 uncK y449 fun v455 y456 =>
 SV.cI IntKind.i64 v455 fun x460 =>
 uncK y456 fun v461 y462 =>
 SV.cI IntKind.i64 v461 fun x466 =>
 uncK y462 fun v467 y468 =>
 SV.cI IntKind.i64 v467 fun x472 =>
 uncK y468 fun v473 y474 =>
 SV.cI IntKind.i64 v473 fun x478 =>
 St.mput MemP S419 54 y433 (V1.agg [(SV.int IntKind.i64 x440), (SV.int IntKind.i64 x446)]) (V1.agg [(SV.str y454), (SV.int IntKind.i64 x460), (SV.int IntKind.i64 x466), (SV.int IntKind.i64 x472), (SV.int IntKind.i64 x478)]) fun S479 =>
 K ((AV.one (V1.s (SV.bool Bool.true)))) S479
noncomputable def F9_q1 (D J : Disp) (p0 : PV) (S328 : St) (S389 : St) (S392 : St) (x400 : Int) (x406 : Int) (x412 : Int) (x418 : Int) (K : AV → St → Prop) : Prop :=
 St.wr S392 (Bk.new (St.next S389)) 1 [(SV.int IntKind.i64 x400), (SV.int IntKind.i64 x406), (SV.int IntKind.i64 x412), (SV.int IntKind.i64 x418)] fun S419 =>
 PV.cs p0 fun b420 n421 =>
 letK (α := Nat) ((n421 + 2)) fun n422 =>
 St.at S419 b420 n422 fun y423 =>
 uncK y423 fun v424 y425 =>
 SV.cM v424 fun y433 =>
 St.at S419 (Bk.new (St.next S328)) 0 fun y434 =>
 uncK y434 fun v435 y436 =>
 SV.cI IntKind.i64 v435 fun x440 =>
 uncK y436 fun v441 y442 =>
 SV.cI IntKind.i64 v441 fun x446 =>
 F9_q0 D J S389 S419 y433 x440 x446 K
noncomputable def F9_q2 (D J : Disp) (p0 : PV) (S300 : St) (S328 : St) (y388 : Bool) (S389 : St) (S392 : St) (K : AV → St → Prop) : Prop :=
 letK (α := Bool) ((Bool.not y388)) fun c393 =>
 ifK c393
 (K ((AV.one (V1.s (SV.bool Bool.false)))) S392)
 (St.at S392 (Bk.new (St.next S300)) 0 fun y394 =>
 uncK y394 fun v395 y396 =>
 SV.cI IntKind.i64 v395 fun x400 =>
 uncK y396 fun v401 y402 =>
 SV.cI IntKind.i64 v401 fun x406 =>
 uncK y402 fun v407 y408 =>
 SV.cI IntKind.i64 v407 fun x412 =>
 uncK y408 fun v413 y414 =>
 SV.cI IntKind.i64 v413 fun x418 =>
 F9_q1 D J p0 S328 S389 S392 x400 x406 x412 x418 K)
noncomputable def F9_q3 (D J : Disp) (p0 : PV) (S300 : St) (S328 : St) (x341 : Int) (x347 : Int) (y359 : (List Nat)) (x365 : Int) (x371 : Int) (x377 : Int) (x383 : Int) (y388 : Bool) (S389 : St) (K : AV → St → Prop) : Prop :=
 letK (α := St) ((St.add S389 (AO.cells [(SV.str []), (SV.int IntKind.i64 (0 : Int)), (SV.int IntKind.i64 (0 : Int)), (SV.int IntKind.i64 (0 : Int)), (SV.int IntKind.i64 (0 : Int))] (Op2.ty 56)))) fun S390 =>
 St.wr S390 (Bk.new (St.next S328)) 0 [(SV.int IntKind.i64 x341), (SV.int IntKind.i64 x347)] fun S391 =>
 St.wr S391 (Bk.new (St.next S389)) 0 [(SV.str y359), (SV.int IntKind.i64 x365), (SV.int IntKind.i64 x371), (SV.int IntKind.i64 x377), (SV.int IntKind.i64 x383)] fun S392 =>
 F9_q2 D J p0 S300 S328 y388 S389 S392 K
noncomputable def F9_q4 (D J : Disp) (p0 : PV) (s2 : (List Nat)) (S300 : St) (S301 : St) (x308 : Int) (x314 : Int) (x320 : Int) (x326 : Int) (K : AV → St → Prop) : Prop :=
 D 17 [(AV.one (V1.s (SV.ptr p0))), (AV.one (V1.agg [(SV.int IntKind.i64 x308), (SV.int IntKind.i64 x314), (SV.int IntKind.i64 x320), (SV.int IntKind.i64 x326)])), (AV.one (V1.s (SV.str s2)))] S301 fun v327 S328 =>
 avT v327 fun y330 =>
 uncV y330 fun v331 y332 =>
 v1A v331 fun y335 =>
 req (Nat.beq (List.length y335) 2) <|
 uncK y335 fun v336 y337 =>
 SV.cI IntKind.i64 v336 fun x341 =>
 uncK y337 fun v342 y343 =>
 SV.cI IntKind.i64 v342 fun x347 =>
 uncV y332 fun v348 y349 =>
 v1A v348 fun y352 =>
 req (Nat.beq (List.length y352) 5) <|
 uncK y352 fun v353 y354 =>
 SV.cS v353 fun y359 =>
 uncK y354 fun v360 y361 =>
 SV.cI IntKind.i64 v360 fun x365 =>
 uncK y361 fun v366 y367 =>
 SV.cI IntKind.i64 v366 fun x371 =>
 uncK y367 fun v372 y373 =>
 SV.cI IntKind.i64 v372 fun x377 =>
 uncK y373 fun v378 y379 =>
 SV.cI IntKind.i64 v378 fun x383 =>
 uncV y349 fun v384 y385 =>
 v1S v384 fun v387 =>
 SV.cB v387 fun y388 =>
 endL y385 (letK (α := St) ((St.add S328 (AO.cells [(SV.int IntKind.i64 (0 : Int)), (SV.int IntKind.i64 (0 : Int))] (Op2.ty 54)))) fun S389 =>
 F9_q3 D J p0 S300 S328 x341 x347 y359 x365 x371 x377 x383 y388 S389 K)
noncomputable def F9_q5 (D J : Disp) (S : St) (p0 : PV) (s2 : (List Nat)) (x3_0 : Int) (x3_1 : Int) (x3_2 : Int) (x3_3 : Int) (S300 : St) (K : AV → St → Prop) : Prop :=
 letK (α := St) ((St.add S300 (AO.cells [(SV.int IntKind.i64 x3_0), (SV.int IntKind.i64 x3_1), (SV.int IntKind.i64 x3_2), (SV.int IntKind.i64 x3_3)] (Op2.ty 34)))) fun S301 =>
 St.at S301 (Bk.new (St.next S)) 0 fun y302 =>
 uncK y302 fun v303 y304 =>
 SV.cI IntKind.i64 v303 fun x308 =>
 uncK y304 fun v309 y310 =>
 SV.cI IntKind.i64 v309 fun x314 =>
 uncK y310 fun v315 y316 =>
 SV.cI IntKind.i64 v315 fun x320 =>
 uncK y316 fun v321 y322 =>
 SV.cI IntKind.i64 v321 fun x326 =>
 F9_q4 D J p0 s2 S300 S301 x308 x314 x320 x326 K
noncomputable def F9_0 (D J : Disp) (p0 : PV) (x1_0 : Int) (x1_1 : Int) (x1_2 : Int) (x1_3 : Int) (s2 : (List Nat)) (x3_0 : Int) (x3_1 : Int) (x3_2 : Int) (x3_3 : Int) (S : St) (K : AV → St → Prop) : Prop :=
 letK (α := St) ((St.add S (AO.cells [(SV.int IntKind.i64 x1_0), (SV.int IntKind.i64 x1_1), (SV.int IntKind.i64 x1_2), (SV.int IntKind.i64 x1_3)] (Op2.ty 34)))) fun S300 =>
 F9_q5 D J S p0 s2 x3_0 x3_1 x3_2 x3_3 S300 K
noncomputable def X9_0 : X := (.op (.op (.op (.br (.op .ret) (.op (.op (.op .ret)))))))
theorem F9_0_eq (D J : Disp) (p0 : PV) (x1_0 : Int) (x1_1 : Int) (x1_2 : Int) (x1_3 : Int) (s2 : (List Nat)) (x3_0 : Int) (x3_1 : Int) (x3_2 : Int) (x3_3 : Int) (S : St) (K : AV → St → Prop) : F9_0 D J p0 x1_0 x1_1 x1_2 x1_3 s2 x3_0 x3_1 x3_2 x3_3 S K = execK MemP MemG Go.Proofs.Try.f9 (typed MemP D) J plans9 X9_0 (T9 0).1 (envOf (T9 0).2 [(AV.one (V1.s (SV.ptr p0))), (AV.one (V1.agg [(SV.int IntKind.i64 x1_0), (SV.int IntKind.i64 x1_1), (SV.int IntKind.i64 x1_2), (SV.int IntKind.i64 x1_3)])), (AV.one (V1.s (SV.str s2))), (AV.one (V1.agg [(SV.int IntKind.i64 x3_0), (SV.int IntKind.i64 x3_1), (SV.int IntKind.i64 x3_2), (SV.int IntKind.i64 x3_3)]))]) S K := by kernel_rfl
noncomputable abbrev A9_0 (D J : Disp) (vals : List AV) (S : St) (K : AV → St → Prop) : Prop :=
  uncA vals fun a9001 r9002 => scK a9001 fun s9004 => SV.cP s9004 fun p0 => uncA r9002 fun a9007 r9008 => avA a9007 fun l9010 => uncK l9010 fun s9012 r9013 => SV.cI IntKind.i64 s9012 fun x1_0 => uncK r9013 fun s9016 r9017 => SV.cI IntKind.i64 s9016 fun x1_1 => uncK r9017 fun s9020 r9021 => SV.cI IntKind.i64 s9020 fun x1_2 => uncK r9021 fun s9024 r9025 => SV.cI IntKind.i64 s9024 fun x1_3 => endL r9025 <| uncA r9008 fun a9029 r9030 => scK a9029 fun s9032 => SV.cS s9032 fun s2 => uncA r9030 fun a9035 r9036 => avA a9035 fun l9038 => uncK l9038 fun s9040 r9041 => SV.cI IntKind.i64 s9040 fun x3_0 => uncK r9041 fun s9044 r9045 => SV.cI IntKind.i64 s9044 fun x3_1 => uncK r9045 fun s9048 r9049 => SV.cI IntKind.i64 s9048 fun x3_2 => uncK r9049 fun s9052 r9053 => SV.cI IntKind.i64 s9052 fun x3_3 => endL r9053 <| endL r9036 <| F9_0 D J p0 x1_0 x1_1 x1_2 x1_3 s2 x3_0 x3_1 x3_2 x3_3 S K
theorem A9_0_ok {D J : Disp} (hD : DOK MemP MemG D) (hJ : JOK MemP MemG Go.Proofs.Try.f9 T9 J) {vals : List AV} {S : St} {K : AV → St → Prop} (h0 : A9_0 D J vals S K) : Runs MemP MemG Go.Proofs.Try.f9 (T9 0).1 (envOf (T9 0).2 vals) S K := by
  obtain ⟨a9001, r9002, rfl, h3⟩ := uncA_some h0
  obtain ⟨s9004, rfl, h5⟩ := scK_some h3
  obtain ⟨p0, rfl, h6⟩ := cP_some h5
  obtain ⟨a9007, r9008, rfl, h9⟩ := uncA_some h6
  obtain ⟨l9010, rfl, h11⟩ := avA_some h9
  obtain ⟨s9012, r9013, rfl, h14⟩ := uncK_some h11
  obtain ⟨x1_0, rfl, h15⟩ := cI_some h14
  obtain ⟨s9016, r9017, rfl, h18⟩ := uncK_some h15
  obtain ⟨x1_1, rfl, h19⟩ := cI_some h18
  obtain ⟨s9020, r9021, rfl, h22⟩ := uncK_some h19
  obtain ⟨x1_2, rfl, h23⟩ := cI_some h22
  obtain ⟨s9024, r9025, rfl, h26⟩ := uncK_some h23
  obtain ⟨x1_3, rfl, h27⟩ := cI_some h26
  obtain ⟨rfl, h28⟩ := endL_some h27
  obtain ⟨a9029, r9030, rfl, h31⟩ := uncA_some h28
  obtain ⟨s9032, rfl, h33⟩ := scK_some h31
  obtain ⟨s2, rfl, h34⟩ := cS_some h33
  obtain ⟨a9035, r9036, rfl, h37⟩ := uncA_some h34
  obtain ⟨l9038, rfl, h39⟩ := avA_some h37
  obtain ⟨s9040, r9041, rfl, h42⟩ := uncK_some h39
  obtain ⟨x3_0, rfl, h43⟩ := cI_some h42
  obtain ⟨s9044, r9045, rfl, h46⟩ := uncK_some h43
  obtain ⟨x3_1, rfl, h47⟩ := cI_some h46
  obtain ⟨s9048, r9049, rfl, h50⟩ := uncK_some h47
  obtain ⟨x3_2, rfl, h51⟩ := cI_some h50
  obtain ⟨s9052, r9053, rfl, h54⟩ := uncK_some h51
  obtain ⟨x3_3, rfl, h55⟩ := cI_some h54
  obtain ⟨rfl, h56⟩ := endL_some h55
  obtain ⟨rfl, h57⟩ := endL_some h56
  rw [F9_0_eq] at h57
  exact execK_runs hD.typed Mem_zero Mem_mixed hJ X9_0 (T9 0).1 (envOf (T9 0).2 _) S K (chk_of (by kernel_rfl) (by kernel_rfl)) h57
noncomputable def J9 (D : Disp) (k : Nat) : Disp := Nat.rec (motive := fun _ => Disp) Disp.no (fun _ ih => Disp.add 0 (A9_0 D ih) <| Disp.no) k
theorem J9_ok {D : Disp} (hD : DOK MemP MemG D) : ∀ k, JOK MemP MemG Go.Proofs.Try.f9 T9 (J9 D k)
  | 0 => JOK.no
  | k + 1 => JOK.add (ltB_ok (by kernel_rfl)) (fun vals S K h => A9_0_ok hD (J9_ok hD k) h) <| JOK.no
theorem E9_ok {D : Disp} (hD : DOK MemP MemG D) (k : Nat) {args : List AV} {S : St} {K : AV → St → Prop} (h : A9_0 D (J9 D k) args S K) : CallE MemP MemG 9 args S K := by
  have hr := A9_0_ok hD (J9_ok hD k) h
  have hl : args.length = 4 := by
    have h0 := h
    obtain ⟨a9001, r9002, rfl, h3⟩ := uncA_some h0
    obtain ⟨s9004, rfl, h5⟩ := scK_some h3
    obtain ⟨p0, rfl, h6⟩ := cP_some h5
    obtain ⟨a9007, r9008, rfl, h9⟩ := uncA_some h6
    obtain ⟨l9010, rfl, h11⟩ := avA_some h9
    obtain ⟨s9012, r9013, rfl, h14⟩ := uncK_some h11
    obtain ⟨x1_0, rfl, h15⟩ := cI_some h14
    obtain ⟨s9016, r9017, rfl, h18⟩ := uncK_some h15
    obtain ⟨x1_1, rfl, h19⟩ := cI_some h18
    obtain ⟨s9020, r9021, rfl, h22⟩ := uncK_some h19
    obtain ⟨x1_2, rfl, h23⟩ := cI_some h22
    obtain ⟨s9024, r9025, rfl, h26⟩ := uncK_some h23
    obtain ⟨x1_3, rfl, h27⟩ := cI_some h26
    obtain ⟨rfl, h28⟩ := endL_some h27
    obtain ⟨a9029, r9030, rfl, h31⟩ := uncA_some h28
    obtain ⟨s9032, rfl, h33⟩ := scK_some h31
    obtain ⟨s2, rfl, h34⟩ := cS_some h33
    obtain ⟨a9035, r9036, rfl, h37⟩ := uncA_some h34
    obtain ⟨l9038, rfl, h39⟩ := avA_some h37
    obtain ⟨s9040, r9041, rfl, h42⟩ := uncK_some h39
    obtain ⟨x3_0, rfl, h43⟩ := cI_some h42
    obtain ⟨s9044, r9045, rfl, h46⟩ := uncK_some h43
    obtain ⟨x3_1, rfl, h47⟩ := cI_some h46
    obtain ⟨s9048, r9049, rfl, h50⟩ := uncK_some h47
    obtain ⟨x3_2, rfl, h51⟩ := cI_some h50
    obtain ⟨s9052, r9053, rfl, h54⟩ := uncK_some h51
    obtain ⟨x3_3, rfl, h55⟩ := cI_some h54
    obtain ⟨rfl, h56⟩ := endL_some h55
    obtain ⟨rfl, h57⟩ := endL_some h56
    rfl
  refine callOK_of (fn := Go.Proofs.Try.f9) (c := (match Go.Proofs.Try.f9.body with | some c => c | none => .skip)) (by kernel_rfl) (by kernel_rfl) (by kernel_rfl) (by rw [hl]; kernel_rfl) (by kernel_rfl) ?_
  rw [hl]
  exact hr
noncomputable def plans10 (i : Nat) : Plan := []
noncomputable def T10 (p : Nat) : List Item × List Nat := bif Nat.beq p 0 then ([.code (match Go.Proofs.Try.f10.body with | some c => c | none => .skip)], [0, 1, 2]) else
  bif Nat.beq p 3 then (navs [.op, .op, .op] [.code (match Go.Proofs.Try.f10.body with | some c => c | none => .skip)], [6, 9, 26]) else
  ([], [])
noncomputable def F10_q7 (D J : Disp) (S300 : St) (S389 : St) (S392 : St) (c393 : Bool) (K : AV → St → Prop) : Prop :=
 ifK c393
 (J 3 [(AV.one (V1.s (SV.ptr (PV.mk (Bk.new (St.next S300)) 0)))), (AV.one (V1.s (SV.ptr (PV.mk (Bk.new (St.next S389)) 0)))), (AV.one (V1.s (SV.bool Bool.true)))] S392 K)
 (St.at S392 (Bk.new (St.next S389)) 1 fun y394 =>
 uncK y394 fun v395 y396 =>
 SV.cI IntKind.i64 v395 fun x400 =>
 letK (α := Bool) ((ieq x400 (0 : Int))) fun c401 =>
 J 3 [(AV.one (V1.s (SV.ptr (PV.mk (Bk.new (St.next S300)) 0)))), (AV.one (V1.s (SV.ptr (PV.mk (Bk.new (St.next S389)) 0)))), (AV.one (V1.s (SV.bool c401)))] S392 K)
noncomputable def F10_q8 (D J : Disp) (S300 : St) (S328 : St) (x341 : Int) (x347 : Int) (y359 : (List Nat)) (x365 : Int) (x371 : Int) (x377 : Int) (x383 : Int) (y388 : Bool) (S389 : St) (K : AV → St → Prop) : Prop :=
 letK (α := St) ((St.add S389 (AO.cells [(SV.str []), (SV.int IntKind.i64 (0 : Int)), (SV.int IntKind.i64 (0 : Int)), (SV.int IntKind.i64 (0 : Int)), (SV.int IntKind.i64 (0 : Int))] (Op2.ty 56)))) fun S390 =>
 St.wr S390 (Bk.new (St.next S328)) 0 [(SV.int IntKind.i64 x341), (SV.int IntKind.i64 x347)] fun S391 =>
 St.wr S391 (Bk.new (St.next S389)) 0 [(SV.str y359), (SV.int IntKind.i64 x365), (SV.int IntKind.i64 x371), (SV.int IntKind.i64 x377), (SV.int IntKind.i64 x383)] fun S392 =>
 letK (α := Bool) ((Bool.not y388)) fun c393 =>
 F10_q7 D J S300 S389 S392 c393 K
noncomputable def F10_q9 (D J : Disp) (p0 : PV) (s2 : (List Nat)) (S300 : St) (S301 : St) (x308 : Int) (x314 : Int) (x320 : Int) (x326 : Int) (K : AV → St → Prop) : Prop :=
 D 17 [(AV.one (V1.s (SV.ptr p0))), (AV.one (V1.agg [(SV.int IntKind.i64 x308), (SV.int IntKind.i64 x314), (SV.int IntKind.i64 x320), (SV.int IntKind.i64 x326)])), (AV.one (V1.s (SV.str s2)))] S301 fun v327 S328 =>
 avT v327 fun y330 =>
 uncV y330 fun v331 y332 =>
 v1A v331 fun y335 =>
 req (Nat.beq (List.length y335) 2) <|
 uncK y335 fun v336 y337 =>
 SV.cI IntKind.i64 v336 fun x341 =>
 uncK y337 fun v342 y343 =>
 SV.cI IntKind.i64 v342 fun x347 =>
 uncV y332 fun v348 y349 =>
 v1A v348 fun y352 =>
 req (Nat.beq (List.length y352) 5) <|
 uncK y352 fun v353 y354 =>
 SV.cS v353 fun y359 =>
 uncK y354 fun v360 y361 =>
 SV.cI IntKind.i64 v360 fun x365 =>
 uncK y361 fun v366 y367 =>
 SV.cI IntKind.i64 v366 fun x371 =>
 uncK y367 fun v372 y373 =>
 SV.cI IntKind.i64 v372 fun x377 =>
 uncK y373 fun v378 y379 =>
 SV.cI IntKind.i64 v378 fun x383 =>
 uncV y349 fun v384 y385 =>
 v1S v384 fun v387 =>
 SV.cB v387 fun y388 =>
 endL y385 (letK (α := St) ((St.add S328 (AO.cells [(SV.int IntKind.i64 (0 : Int)), (SV.int IntKind.i64 (0 : Int))] (Op2.ty 54)))) fun S389 =>
 F10_q8 D J S300 S328 x341 x347 y359 x365 x371 x377 x383 y388 S389 K)
noncomputable def F10_q10 (D J : Disp) (S : St) (p0 : PV) (s2 : (List Nat)) (S300 : St) (K : AV → St → Prop) : Prop :=
 letK (α := St) ((St.add S300 (AO.cells [(SV.int IntKind.i64 (0 : Int)), (SV.int IntKind.i64 (0 : Int)), (SV.int IntKind.i64 (0 : Int)), (SV.int IntKind.i64 (0 : Int))] (Op2.ty 34)))) fun S301 =>
 St.at S301 (Bk.new (St.next S)) 0 fun y302 =>
 uncK y302 fun v303 y304 =>
 SV.cI IntKind.i64 v303 fun x308 =>
 uncK y304 fun v309 y310 =>
 SV.cI IntKind.i64 v309 fun x314 =>
 uncK y310 fun v315 y316 =>
 SV.cI IntKind.i64 v315 fun x320 =>
 uncK y316 fun v321 y322 =>
 SV.cI IntKind.i64 v321 fun x326 =>
 F10_q9 D J p0 s2 S300 S301 x308 x314 x320 x326 K
noncomputable def F10_0 (D J : Disp) (p0 : PV) (x1_0 : Int) (x1_1 : Int) (x1_2 : Int) (x1_3 : Int) (s2 : (List Nat)) (S : St) (K : AV → St → Prop) : Prop :=
 letK (α := St) ((St.add S (AO.cells [(SV.int IntKind.i64 x1_0), (SV.int IntKind.i64 x1_1), (SV.int IntKind.i64 x1_2), (SV.int IntKind.i64 x1_3)] (Op2.ty 34)))) fun S300 =>
 F10_q10 D J S p0 s2 S300 K
noncomputable def X10_0 : X := (.op (.op (.op (.jmp 3 [6, 9, 26]))))
theorem F10_0_eq (D J : Disp) (p0 : PV) (x1_0 : Int) (x1_1 : Int) (x1_2 : Int) (x1_3 : Int) (s2 : (List Nat)) (S : St) (K : AV → St → Prop) : F10_0 D J p0 x1_0 x1_1 x1_2 x1_3 s2 S K = execK MemP MemG Go.Proofs.Try.f10 (typed MemP D) J plans10 X10_0 (T10 0).1 (envOf (T10 0).2 [(AV.one (V1.s (SV.ptr p0))), (AV.one (V1.agg [(SV.int IntKind.i64 x1_0), (SV.int IntKind.i64 x1_1), (SV.int IntKind.i64 x1_2), (SV.int IntKind.i64 x1_3)])), (AV.one (V1.s (SV.str s2)))]) S K := by kernel_rfl
noncomputable def F10_q11 (D J : Disp) (p6 : PV) (S302 : St) (K : AV → St → Prop) : Prop :=
 PV.cs p6 fun b303 n304 =>
 St.at S302 b303 n304 fun y305 =>
 uncK y305 fun v306 y307 =>
 SV.cI IntKind.i64 v306 fun x311 =>
 uncK y307 fun v312 y313 =>
 SV.cI IntKind.i64 v312 fun x317 =>
 uncK y313 fun v318 y319 =>
 SV.cI IntKind.i64 v318 fun x323 =>
 uncK y319 fun v324 y325 =>
 SV.cI IntKind.i64 v324 fun x329 =>
 K ((AV.tup [(V1.agg [(SV.int IntKind.i64 x311), (SV.int IntKind.i64 x317), (SV.int IntKind.i64 x323), (SV.int IntKind.i64 x329)]), (V1.s (SV.bool Bool.false))])) S302
noncomputable def F10_q12 (D J : Disp) (p6 : PV) (S380 : St) (K : AV → St → Prop) : Prop :=
 PV.cs p6 fun b381 n382 =>
 St.at S380 b381 n382 fun y383 =>
 uncK y383 fun v384 y385 =>
 SV.cI IntKind.i64 v384 fun x389 =>
 uncK y385 fun v390 y391 =>
 SV.cI IntKind.i64 v390 fun x395 =>
 uncK y391 fun v396 y397 =>
 SV.cI IntKind.i64 v396 fun x401 =>
 uncK y397 fun v402 y403 =>
 SV.cI IntKind.i64 v402 fun x407 =>
 K ((AV.tup [(V1.agg [(SV.int IntKind.i64 x389), (SV.int IntKind.i64 x395), (SV.int IntKind.i64 x401), (SV.int IntKind.i64 x407)]), (V1.s (SV.bool Bool.true))])) S380
noncomputable def F10_q13 (D J : Disp) (S : St) (p6 : PV) (b350 : Bk) (n352 : Nat) (K : AV → St → Prop) : Prop :=
 St.at S b350 n352 fun y353 =>
 uncK y353 fun v354 y355 =>
 SV.cI IntKind.i64 v354 fun x359 =>
 uncK y355 fun v360 y361 =>
 SV.cI IntKind.i64 v360 fun x365 =>
 uncK y361 fun v366 y367 =>
 SV.cI IntKind.i64 v366 fun x371 =>
 uncK y367 fun v372 y373 =>
 SV.cI IntKind.i64 v372 fun x377 =>
 PV.cs p6 fun b378 n379 =>
 St.wr S b378 n379 [(SV.int IntKind.i64 x359), (SV.int IntKind.i64 x365), (SV.int IntKind.i64 x371), (SV.int IntKind.i64 x377)] fun S380 =>
 F10_q12 D J p6 S380 K
noncomputable def F10_3 (D J : Disp) (p6 : PV) (p9 : PV) (c26 : Bool) (S : St) (K : AV → St → Prop) : Prop :=
 ifK c26
 (PV.cs p6 fun b300 n301 =>
 St.wr S b300 n301 [(SV.int IntKind.i64 (0 : Int)), (SV.int IntKind.i64 (0 : Int)), (SV.int IntKind.i64 (0 : Int)), (SV.int IntKind.i64 (0 : Int))] fun S302 =>
 F10_q11 D J p6 S302 K)
 (PV.cs p9 fun b350 n351 =>
 letK (α := Nat) ((n351 + 1)) fun n352 =>
 F10_q13 D J S p6 b350 n352 K)
noncomputable def X10_3 : X := (.br (.op .ret) (.op .ret))
theorem F10_3_eq (D J : Disp) (p6 : PV) (p9 : PV) (c26 : Bool) (S : St) (K : AV → St → Prop) : F10_3 D J p6 p9 c26 S K = execK MemP MemG Go.Proofs.Try.f10 (typed MemP D) J plans10 X10_3 (T10 3).1 (envOf (T10 3).2 [(AV.one (V1.s (SV.ptr p6))), (AV.one (V1.s (SV.ptr p9))), (AV.one (V1.s (SV.bool c26)))]) S K := by kernel_rfl
noncomputable abbrev A10_0 (D J : Disp) (vals : List AV) (S : St) (K : AV → St → Prop) : Prop :=
  uncA vals fun a9001 r9002 => scK a9001 fun s9004 => SV.cP s9004 fun p0 => uncA r9002 fun a9007 r9008 => avA a9007 fun l9010 => uncK l9010 fun s9012 r9013 => SV.cI IntKind.i64 s9012 fun x1_0 => uncK r9013 fun s9016 r9017 => SV.cI IntKind.i64 s9016 fun x1_1 => uncK r9017 fun s9020 r9021 => SV.cI IntKind.i64 s9020 fun x1_2 => uncK r9021 fun s9024 r9025 => SV.cI IntKind.i64 s9024 fun x1_3 => endL r9025 <| uncA r9008 fun a9029 r9030 => scK a9029 fun s9032 => SV.cS s9032 fun s2 => endL r9030 <| F10_0 D J p0 x1_0 x1_1 x1_2 x1_3 s2 S K
theorem A10_0_ok {D J : Disp} (hD : DOK MemP MemG D) (hJ : JOK MemP MemG Go.Proofs.Try.f10 T10 J) {vals : List AV} {S : St} {K : AV → St → Prop} (h0 : A10_0 D J vals S K) : Runs MemP MemG Go.Proofs.Try.f10 (T10 0).1 (envOf (T10 0).2 vals) S K := by
  obtain ⟨a9001, r9002, rfl, h3⟩ := uncA_some h0
  obtain ⟨s9004, rfl, h5⟩ := scK_some h3
  obtain ⟨p0, rfl, h6⟩ := cP_some h5
  obtain ⟨a9007, r9008, rfl, h9⟩ := uncA_some h6
  obtain ⟨l9010, rfl, h11⟩ := avA_some h9
  obtain ⟨s9012, r9013, rfl, h14⟩ := uncK_some h11
  obtain ⟨x1_0, rfl, h15⟩ := cI_some h14
  obtain ⟨s9016, r9017, rfl, h18⟩ := uncK_some h15
  obtain ⟨x1_1, rfl, h19⟩ := cI_some h18
  obtain ⟨s9020, r9021, rfl, h22⟩ := uncK_some h19
  obtain ⟨x1_2, rfl, h23⟩ := cI_some h22
  obtain ⟨s9024, r9025, rfl, h26⟩ := uncK_some h23
  obtain ⟨x1_3, rfl, h27⟩ := cI_some h26
  obtain ⟨rfl, h28⟩ := endL_some h27
  obtain ⟨a9029, r9030, rfl, h31⟩ := uncA_some h28
  obtain ⟨s9032, rfl, h33⟩ := scK_some h31
  obtain ⟨s2, rfl, h34⟩ := cS_some h33
  obtain ⟨rfl, h35⟩ := endL_some h34
  rw [F10_0_eq] at h35
  exact execK_runs hD.typed Mem_zero Mem_mixed hJ X10_0 (T10 0).1 (envOf (T10 0).2 _) S K (chk_of (by kernel_rfl) (by kernel_rfl)) h35
noncomputable abbrev A10_3 (D J : Disp) (vals : List AV) (S : St) (K : AV → St → Prop) : Prop :=
  uncA vals fun a9001 r9002 => scK a9001 fun s9004 => SV.cP s9004 fun p6 => uncA r9002 fun a9007 r9008 => scK a9007 fun s9010 => SV.cP s9010 fun p9 => uncA r9008 fun a9013 r9014 => scK a9013 fun s9016 => SV.cB s9016 fun c26 => endL r9014 <| F10_3 D J p6 p9 c26 S K
theorem A10_3_ok {D J : Disp} (hD : DOK MemP MemG D) (hJ : JOK MemP MemG Go.Proofs.Try.f10 T10 J) {vals : List AV} {S : St} {K : AV → St → Prop} (h0 : A10_3 D J vals S K) : Runs MemP MemG Go.Proofs.Try.f10 (T10 3).1 (envOf (T10 3).2 vals) S K := by
  obtain ⟨a9001, r9002, rfl, h3⟩ := uncA_some h0
  obtain ⟨s9004, rfl, h5⟩ := scK_some h3
  obtain ⟨p6, rfl, h6⟩ := cP_some h5
  obtain ⟨a9007, r9008, rfl, h9⟩ := uncA_some h6
  obtain ⟨s9010, rfl, h11⟩ := scK_some h9
  obtain ⟨p9, rfl, h12⟩ := cP_some h11
  obtain ⟨a9013, r9014, rfl, h15⟩ := uncA_some h12
  obtain ⟨s9016, rfl, h17⟩ := scK_some h15
  obtain ⟨c26, rfl, h18⟩ := cB_some h17
  obtain ⟨rfl, h19⟩ := endL_some h18
  rw [F10_3_eq] at h19
  exact execK_runs hD.typed Mem_zero Mem_mixed hJ X10_3 (T10 3).1 (envOf (T10 3).2 _) S K (chk_of (by kernel_rfl) (by kernel_rfl)) h19
noncomputable def J10 (D : Disp) (k : Nat) : Disp := Nat.rec (motive := fun _ => Disp) Disp.no (fun _ ih => Disp.add 0 (A10_0 D ih) <| Disp.add 3 (A10_3 D ih) <| Disp.no) k
theorem J10_ok {D : Disp} (hD : DOK MemP MemG D) : ∀ k, JOK MemP MemG Go.Proofs.Try.f10 T10 (J10 D k)
  | 0 => JOK.no
  | k + 1 => JOK.add (ltB_ok (by kernel_rfl)) (fun vals S K h => A10_0_ok hD (J10_ok hD k) h) <| JOK.add (ltB_ok (by kernel_rfl)) (fun vals S K h => A10_3_ok hD (J10_ok hD k) h) <| JOK.no
theorem E10_ok {D : Disp} (hD : DOK MemP MemG D) (k : Nat) {args : List AV} {S : St} {K : AV → St → Prop} (h : A10_0 D (J10 D k) args S K) : CallE MemP MemG 10 args S K := by
  have hr := A10_0_ok hD (J10_ok hD k) h
  have hl : args.length = 3 := by
    have h0 := h
    obtain ⟨a9001, r9002, rfl, h3⟩ := uncA_some h0
    obtain ⟨s9004, rfl, h5⟩ := scK_some h3
    obtain ⟨p0, rfl, h6⟩ := cP_some h5
    obtain ⟨a9007, r9008, rfl, h9⟩ := uncA_some h6
    obtain ⟨l9010, rfl, h11⟩ := avA_some h9
    obtain ⟨s9012, r9013, rfl, h14⟩ := uncK_some h11
    obtain ⟨x1_0, rfl, h15⟩ := cI_some h14
    obtain ⟨s9016, r9017, rfl, h18⟩ := uncK_some h15
    obtain ⟨x1_1, rfl, h19⟩ := cI_some h18
    obtain ⟨s9020, r9021, rfl, h22⟩ := uncK_some h19
    obtain ⟨x1_2, rfl, h23⟩ := cI_some h22
    obtain ⟨s9024, r9025, rfl, h26⟩ := uncK_some h23
    obtain ⟨x1_3, rfl, h27⟩ := cI_some h26
    obtain ⟨rfl, h28⟩ := endL_some h27
    obtain ⟨a9029, r9030, rfl, h31⟩ := uncA_some h28
    obtain ⟨s9032, rfl, h33⟩ := scK_some h31
    obtain ⟨s2, rfl, h34⟩ := cS_some h33
    obtain ⟨rfl, h35⟩ := endL_some h34
    rfl
  refine callOK_of (fn := Go.Proofs.Try.f10) (c := (match Go.Proofs.Try.f10.body with | some c => c | none => .skip)) (by kernel_rfl) (by kernel_rfl) (by kernel_rfl) (by rw [hl]; kernel_rfl) (by kernel_rfl) ?_
  rw [hl]
  exact hr
noncomputable def plans11 (i : Nat) : Plan := []
noncomputable def T11 (p : Nat) : List Item × List Nat := bif Nat.beq p 0 then ([.code (match Go.Proofs.Try.f11.body with | some c => c | none => .skip)], [0, 1]) else
  bif Nat.beq p 4 then (navs [.op, .el, .op] [.code (match Go.Proofs.Try.f11.body with | some c => c | none => .skip)], [0, 1, 14, 15, 16]) else
  ([], [])
noncomputable def F11_q3 (D J : Disp) (S : St) (p0 : PV) (x1 : Int) (y314 : MV) (K : AV → St → Prop) : Prop :=
 St.lookup MemP S 3 (V1.agg [(SV.int IntKind.i64 (0 : Int)), (SV.sl LV.nil)]) y314 (V1.s (SV.int IntKind.i64 x1)) fun v315 y316 =>
 v1A v315 fun y318 =>
 req (Nat.beq (List.length y318) 2) <|
 uncK y318 fun v319 y320 =>
 SV.cI IntKind.i64 v319 fun x324 =>
 uncK y320 fun v325 y326 =>
 SV.cL v325 fun y333 =>
 letK (α := Int) ((Int.ofNat (LV.len y333))) fun x334 =>
 J 4 [(AV.one (V1.s (SV.ptr p0))), (AV.one (V1.s (SV.int IntKind.i64 x1))), (AV.one (V1.s (SV.sl y333))), (AV.one (V1.s (SV.int IntKind.i64 x334))), (AV.one (V1.s (SV.int IntKind.i64 (0 : Int))))] S K
noncomputable def F11_0 (D J : Disp) (p0 : PV) (x1 : Int) (S : St) (K : AV → St → Prop) : Prop :=
 optK (eqA MemP 1 25 (V1.s (SV.ptr p0)) (V1.s (SV.ptr PV.nil))) fun y300 =>
 ifK y300
 (K ((AV.tup [])) S)
 (PV.cs p0 fun b301 n302 =>
 letK (α := Nat) ((n302 + 1)) fun n303 =>
 St.at S b301 n303 fun y304 =>
 uncK y304 fun v305 y306 =>
 SV.cM v305 fun y314 =>
 F11_q3 D J S p0 x1 y314 K)
noncomputable def X11_0 : X := (.op (.br .ret (.op (.jmp 4 [0, 1, 14, 15, 16]))))
theorem F11_0_eq (D J : Disp) (p0 : PV) (x1 : Int) (S : St) (K : AV → St → Prop) : F11_0 D J p0 x1 S K = execK MemP MemG Go.Proofs.Try.f11 (typed MemP D) J plans11 X11_0 (T11 0).1 (envOf (T11 0).2 [(AV.one (V1.s (SV.ptr p0))), (AV.one (V1.s (SV.int IntKind.i64 x1)))]) S K := by kernel_rfl
noncomputable def F11_q4 (D J : Disp) (S : St) (p0 : PV) (x1 : Int) (l14 : LV) (x15 : Int) (x16 : Int) (x312 : Int) (b313 : Bk) (n315 : Nat) (K : AV → St → Prop) : Prop :=
 St.at S b313 n315 fun y316 =>
 uncK y316 fun v317 y318 =>
 SV.cM v317 fun y326 =>
 St.mdel MemP S 54 y326 (V1.agg [(SV.int IntKind.i64 x1), (SV.int IntKind.i64 x312)]) fun S327 =>
 letK (α := Int) ((iwrap IntKind.i64 (x16 + (1 : Int)))) fun x328 =>
 J 4 [(AV.one (V1.s (SV.ptr p0))), (AV.one (V1.s (SV.int IntKind.i64 x1))), (AV.one (V1.s (SV.sl l14))), (AV.one (V1.s (SV.int IntKind.i64 x15))), (AV.one (V1.s (SV.int IntKind.i64 x328)))] S327 K
noncomputable def F11_q5 (D J : Disp) (S : St) (p0 : PV) (x1 : Int) (l14 : LV) (x15 : Int) (x16 : Int) (c300 : Bool) (K : AV → St → Prop) : Prop :=
 ifK c300
 (LV.cs l14 fun b301 n302 n303 y304 =>
 req (Bool.and (ile (0 : Int) x16) (ilt x16 (Int.ofNat n303))) <|
 letK (α := Nat) ((n302 + ((Int.toNat x16) * 1))) fun n305 =>
 St.at S b301 n305 fun y306 =>
 uncK y306 fun v307 y308 =>
 SV.cI IntKind.i64 v307 fun x312 =>
 PV.cs p0 fun b313 n314 =>
 letK (α := Nat) ((n314 + 2)) fun n315 =>
 F11_q4 D J S p0 x1 l14 x15 x16 x312 b313 n315 K)
 (PV.cs p0 fun b335 n336 =>
 letK (α := Nat) ((n336 + 1)) fun n337 =>
 St.at S b335 n337 fun y338 =>
 uncK y338 fun v339 y340 =>
 SV.cM v339 fun y348 =>
 St.mdel MemP S 3 y348 (V1.s (SV.int IntKind.i64 x1)) fun S349 =>
 K ((AV.tup [])) S349)
noncomputable def F11_4 (D J : Disp) (p0 : PV) (x1 : Int) (l14 : LV) (x15 : Int) (x16 : Int) (S : St) (K : AV → St → Prop) : Prop :=
 letK (α := Bool) ((ilt x16 x15)) fun c300 =>
 F11_q5 D J S p0 x1 l14 x15 x16 c300 K
noncomputable def X11_4 : X := (.op (.br (.op (.op (.op (.jmp 4 [0, 1, 14, 15, 16])))) (.op .ret)))
theorem F11_4_eq (D J : Disp) (p0 : PV) (x1 : Int) (l14 : LV) (x15 : Int) (x16 : Int) (S : St) (K : AV → St → Prop) : F11_4 D J p0 x1 l14 x15 x16 S K = execK MemP MemG Go.Proofs.Try.f11 (typed MemP D) J plans11 X11_4 (T11 4).1 (envOf (T11 4).2 [(AV.one (V1.s (SV.ptr p0))), (AV.one (V1.s (SV.int IntKind.i64 x1))), (AV.one (V1.s (SV.sl l14))), (AV.one (V1.s (SV.int IntKind.i64 x15))), (AV.one (V1.s (SV.int IntKind.i64 x16)))]) S K := by kernel_rfl
noncomputable abbrev A11_0 (D J : Disp) (vals : List AV) (S : St) (K : AV → St → Prop) : Prop :=
  uncA vals fun a9001 r9002 => scK a9001 fun s9004 => SV.cP s9004 fun p0 => uncA r9002 fun a9007 r9008 => scK a9007 fun s9010 => SV.cI IntKind.i64 s9010 fun x1 => endL r9008 <| F11_0 D J p0 x1 S K
theorem A11_0_ok {D J : Disp} (hD : DOK MemP MemG D) (hJ : JOK MemP MemG Go.Proofs.Try.f11 T11 J) {vals : List AV} {S : St} {K : AV → St → Prop} (h0 : A11_0 D J vals S K) : Runs MemP MemG Go.Proofs.Try.f11 (T11 0).1 (envOf (T11 0).2 vals) S K := by
  obtain ⟨a9001, r9002, rfl, h3⟩ := uncA_some h0
  obtain ⟨s9004, rfl, h5⟩ := scK_some h3
  obtain ⟨p0, rfl, h6⟩ := cP_some h5
  obtain ⟨a9007, r9008, rfl, h9⟩ := uncA_some h6
  obtain ⟨s9010, rfl, h11⟩ := scK_some h9
  obtain ⟨x1, rfl, h12⟩ := cI_some h11
  obtain ⟨rfl, h13⟩ := endL_some h12
  rw [F11_0_eq] at h13
  exact execK_runs hD.typed Mem_zero Mem_mixed hJ X11_0 (T11 0).1 (envOf (T11 0).2 _) S K (chk_of (by kernel_rfl) (by kernel_rfl)) h13
noncomputable abbrev A11_4 (D J : Disp) (vals : List AV) (S : St) (K : AV → St → Prop) : Prop :=
  uncA vals fun a9001 r9002 => scK a9001 fun s9004 => SV.cP s9004 fun p0 => uncA r9002 fun a9007 r9008 => scK a9007 fun s9010 => SV.cI IntKind.i64 s9010 fun x1 => uncA r9008 fun a9013 r9014 => scK a9013 fun s9016 => SV.cL s9016 fun l14 => uncA r9014 fun a9019 r9020 => scK a9019 fun s9022 => SV.cI IntKind.i64 s9022 fun x15 => uncA r9020 fun a9025 r9026 => scK a9025 fun s9028 => SV.cI IntKind.i64 s9028 fun x16 => endL r9026 <| F11_4 D J p0 x1 l14 x15 x16 S K
theorem A11_4_ok {D J : Disp} (hD : DOK MemP MemG D) (hJ : JOK MemP MemG Go.Proofs.Try.f11 T11 J) {vals : List AV} {S : St} {K : AV → St → Prop} (h0 : A11_4 D J vals S K) : Runs MemP MemG Go.Proofs.Try.f11 (T11 4).1 (envOf (T11 4).2 vals) S K := by
  obtain ⟨a9001, r9002, rfl, h3⟩ := uncA_some h0
  obtain ⟨s9004, rfl, h5⟩ := scK_some h3
  obtain ⟨p0, rfl, h6⟩ := cP_some h5
  obtain ⟨a9007, r9008, rfl, h9⟩ := uncA_some h6
  obtain ⟨s9010, rfl, h11⟩ := scK_some h9
  obtain ⟨x1, rfl, h12⟩ := cI_some h11
  obtain ⟨a9013, r9014, rfl, h15⟩ := uncA_some h12
  obtain ⟨s9016, rfl, h17⟩ := scK_some h15
  obtain ⟨l14, rfl, h18⟩ := cL_some h17
  obtain ⟨a9019, r9020, rfl, h21⟩ := uncA_some h18
  obtain ⟨s9022, rfl, h23⟩ := scK_some h21
  obtain ⟨x15, rfl, h24⟩ := cI_some h23
  obtain ⟨a9025, r9026, rfl, h27⟩ := uncA_some h24
  obtain ⟨s9028, rfl, h29⟩ := scK_some h27
  obtain ⟨x16, rfl, h30⟩ := cI_some h29
  obtain ⟨rfl, h31⟩ := endL_some h30
  rw [F11_4_eq] at h31
  exact execK_runs hD.typed Mem_zero Mem_mixed hJ X11_4 (T11 4).1 (envOf (T11 4).2 _) S K (chk_of (by kernel_rfl) (by kernel_rfl)) h31
noncomputable def J11 (D : Disp) (k : Nat) : Disp := Nat.rec (motive := fun _ => Disp) Disp.no (fun _ ih => Disp.add 0 (A11_0 D ih) <| Disp.add 4 (A11_4 D ih) <| Disp.no) k
theorem J11_ok {D : Disp} (hD : DOK MemP MemG D) : ∀ k, JOK MemP MemG Go.Proofs.Try.f11 T11 (J11 D k)
  | 0 => JOK.no
  | k + 1 => JOK.add (ltB_ok (by kernel_rfl)) (fun vals S K h => A11_0_ok hD (J11_ok hD k) h) <| JOK.add (ltB_ok (by kernel_rfl)) (fun vals S K h => A11_4_ok hD (J11_ok hD k) h) <| JOK.no
theorem E11_ok {D : Disp} (hD : DOK MemP MemG D) (k : Nat) {args : List AV} {S : St} {K : AV → St → Prop} (h : A11_0 D (J11 D k) args S K) : CallE MemP MemG 11 args S K := by
  have hr := A11_0_ok hD (J11_ok hD k) h
  have hl : args.length = 2 := by
    have h0 := h
    obtain ⟨a9001, r9002, rfl, h3⟩ := uncA_some h0
    obtain ⟨s9004, rfl, h5⟩ := scK_some h3
    obtain ⟨p0, rfl, h6⟩ := cP_some h5
    obtain ⟨a9007, r9008, rfl, h9⟩ := uncA_some h6
    obtain ⟨s9010, rfl, h11⟩ := scK_some h9
    obtain ⟨x1, rfl, h12⟩ := cI_some h11
    obtain ⟨rfl, h13⟩ := endL_some h12
    rfl
  refine callOK_of (fn := Go.Proofs.Try.f11) (c := (match Go.Proofs.Try.f11.body with | some c => c | none => .skip)) (by kernel_rfl) (by kernel_rfl) (by kernel_rfl) (by rw [hl]; kernel_rfl) (by kernel_rfl) ?_
  rw [hl]
  exact hr
noncomputable def plans12 (i : Nat) : Plan := []
noncomputable def T12 (p : Nat) : List Item × List Nat := bif Nat.beq p 0 then ([.code (match Go.Proofs.Try.f12.body with | some c => c | none => .skip)], [0, 1]) else
  ([], [])
noncomputable def F12_q0 (D J : Disp) (S : St) (x1 : Int) (b301 : Bk) (n303 : Nat) (K : AV → St → Prop) : Prop :=
 St.at S b301 n303 fun y304 =>
 uncK y304 fun v305 y306 =>
 SV.cM v305 fun y314 =>
 St.lookup MemP S 3 (V1.agg [(SV.int IntKind.i64 (0 : Int)), (SV.sl LV.nil)]) y314 (V1.s (SV.int IntKind.i64 x1)) fun v315 y316 =>
 v1A v315 fun y318 =>
 req (Nat.beq (List.length y318) 2) <|
 uncK y318 fun v319 y320 =>
 SV.cI IntKind.i64 v319 fun x324 =>
 uncK y320 fun v325 y326 =>
 SV.cL v325 fun y333 =>
 K ((AV.one (V1.s (SV.int IntKind.i64 x324)))) S
noncomputable def F12_0 (D J : Disp) (p0 : PV) (x1 : Int) (S : St) (K : AV → St → Prop) : Prop :=
 optK (eqA MemP 1 25 (V1.s (SV.ptr p0)) (V1.s (SV.ptr PV.nil))) fun y300 =>
 ifK y300
 (K ((AV.one (V1.s (SV.int IntKind.i64 (0 : Int))))) S)
 (PV.cs p0 fun b301 n302 =>
 letK (α := Nat) ((n302 + 1)) fun n303 =>
 F12_q0 D J S x1 b301 n303 K)
noncomputable def X12_0 : X := (.op (.op (.br (.op .ret) (.op .ret))))
theorem F12_0_eq (D J : Disp) (p0 : PV) (x1 : Int) (S : St) (K : AV → St → Prop) : F12_0 D J p0 x1 S K = execK MemP MemG Go.Proofs.Try.f12 (typed MemP D) J plans12 X12_0 (T12 0).1 (envOf (T12 0).2 [(AV.one (V1.s (SV.ptr p0))), (AV.one (V1.s (SV.int IntKind.i64 x1)))]) S K := by kernel_rfl
noncomputable abbrev A12_0 (D J : Disp) (vals : List AV) (S : St) (K : AV → St → Prop) : Prop :=
  uncA vals fun a9001 r9002 => scK a9001 fun s9004 => SV.cP s9004 fun p0 => uncA r9002 fun a9007 r9008 => scK a9007 fun s9010 => SV.cI IntKind.i64 s9010 fun x1 => endL r9008 <| F12_0 D J p0 x1 S K
theorem A12_0_ok {D J : Disp} (hD : DOK MemP MemG D) (hJ : JOK MemP MemG Go.Proofs.Try.f12 T12 J) {vals : List AV} {S : St} {K : AV → St → Prop} (h0 : A12_0 D J vals S K) : Runs MemP MemG Go.Proofs.Try.f12 (T12 0).1 (envOf (T12 0).2 vals) S K := by
  obtain ⟨a9001, r9002, rfl, h3⟩ := uncA_some h0
  obtain ⟨s9004, rfl, h5⟩ := scK_some h3
  obtain ⟨p0, rfl, h6⟩ := cP_some h5
  obtain ⟨a9007, r9008, rfl, h9⟩ := uncA_some h6
  obtain ⟨s9010, rfl, h11⟩ := scK_some h9
  obtain ⟨x1, rfl, h12⟩ := cI_some h11
  obtain ⟨rfl, h13⟩ := endL_some h12
  rw [F12_0_eq] at h13
  exact execK_runs hD.typed Mem_zero Mem_mixed hJ X12_0 (T12 0).1 (envOf (T12 0).2 _) S K (chk_of (by kernel_rfl) (by kernel_rfl)) h13
noncomputable def J12 (D : Disp) (k : Nat) : Disp := Nat.rec (motive := fun _ => Disp) Disp.no (fun _ ih => Disp.add 0 (A12_0 D ih) <| Disp.no) k
theorem J12_ok {D : Disp} (hD : DOK MemP MemG D) : ∀ k, JOK MemP MemG Go.Proofs.Try.f12 T12 (J12 D k)
  | 0 => JOK.no
  | k + 1 => JOK.add (ltB_ok (by kernel_rfl)) (fun vals S K h => A12_0_ok hD (J12_ok hD k) h) <| JOK.no
theorem E12_ok {D : Disp} (hD : DOK MemP MemG D) (k : Nat) {args : List AV} {S : St} {K : AV → St → Prop} (h : A12_0 D (J12 D k) args S K) : CallE MemP MemG 12 args S K := by
  have hr := A12_0_ok hD (J12_ok hD k) h
  have hl : args.length = 2 := by
    have h0 := h
    obtain ⟨a9001, r9002, rfl, h3⟩ := uncA_some h0
    obtain ⟨s9004, rfl, h5⟩ := scK_some h3
    obtain ⟨p0, rfl, h6⟩ := cP_some h5
    obtain ⟨a9007, r9008, rfl, h9⟩ := uncA_some h6
    obtain ⟨s9010, rfl, h11⟩ := scK_some h9
    obtain ⟨x1, rfl, h12⟩ := cI_some h11
    obtain ⟨rfl, h13⟩ := endL_some h12
    rfl
  refine callOK_of (fn := Go.Proofs.Try.f12) (c := (match Go.Proofs.Try.f12.body with | some c => c | none => .skip)) (by kernel_rfl) (by kernel_rfl) (by kernel_rfl) (by rw [hl]; kernel_rfl) (by kernel_rfl) ?_
  rw [hl]
  exact hr
noncomputable def plans13 (i : Nat) : Plan := []
noncomputable def T13 (p : Nat) : List Item × List Nat := bif Nat.beq p 0 then ([.code (match Go.Proofs.Try.f13.body with | some c => c | none => .skip)], [0, 1, 2]) else
  bif Nat.beq p 3 then (navs [.op, .op, .op] [.code (match Go.Proofs.Try.f13.body with | some c => c | none => .skip)], [6, 8, 35]) else
  ([], [])
noncomputable def F13_q9 (D J : Disp) (p0 : PV) (S300 : St) (S301 : St) (S345 : St) (x373 : Int) (x379 : Int) (x385 : Int) (x391 : Int) (K : AV → St → Prop) : Prop :=
 D 18 [(AV.one (V1.s (SV.ptr p0))), (AV.one (V1.agg [(SV.int IntKind.i64 x373), (SV.int IntKind.i64 x379), (SV.int IntKind.i64 x385), (SV.int IntKind.i64 x391)]))] S345 fun v392 S393 =>
 scK v392 fun v395 =>
 SV.cB v395 fun y396 =>
 letK (α := Bool) ((Bool.not y396)) fun c397 =>
 J 3 [(AV.one (V1.s (SV.ptr (PV.mk (Bk.new (St.next S300)) 0)))), (AV.one (V1.s (SV.ptr (PV.mk (Bk.new (St.next S301)) 0)))), (AV.one (V1.s (SV.bool c397)))] S393 K
noncomputable def F13_q10 (D J : Disp) (p0 : PV) (S300 : St) (S301 : St) (S345 : St) (c366 : Bool) (K : AV → St → Prop) : Prop :=
 ifK c366
 (J 3 [(AV.one (V1.s (SV.ptr (PV.mk (Bk.new (St.next S300)) 0)))), (AV.one (V1.s (SV.ptr (PV.mk (Bk.new (St.next S301)) 0)))), (AV.one (V1.s (SV.bool Bool.true)))] S345 K)
 (St.at S345 (Bk.new (St.next S301)) 0 fun y367 =>
 uncK y367 fun v368 y369 =>
 SV.cI IntKind.i64 v368 fun x373 =>
 uncK y369 fun v374 y375 =>
 SV.cI IntKind.i64 v374 fun x379 =>
 uncK y375 fun v380 y381 =>
 SV.cI IntKind.i64 v380 fun x385 =>
 uncK y381 fun v386 y387 =>
 SV.cI IntKind.i64 v386 fun x391 =>
 F13_q9 D J p0 S300 S301 S345 x373 x379 x385 x391 K)
noncomputable def F13_q11 (D J : Disp) (S : St) (p0 : PV) (x2 : Int) (S300 : St) (S301 : St) (S345 : St) (c349 : Bool) (K : AV → St → Prop) : Prop :=
 ifK c349
 (J 3 [(AV.one (V1.s (SV.ptr (PV.mk (Bk.new (St.next S300)) 0)))), (AV.one (V1.s (SV.ptr (PV.mk (Bk.new (St.next S301)) 0)))), (AV.one (V1.s (SV.bool Bool.true)))] S345 K)
 (St.at S345 (Bk.new (St.next S301)) 3 fun y350 =>
 uncK y350 fun v351 y352 =>
 SV.cI IntKind.i64 v351 fun x356 =>
 St.at S345 (Bk.new (St.next S)) 3 fun y357 =>
 uncK y357 fun v358 y359 =>
 SV.cI IntKind.i64 v358 fun x363 =>
 letK (α := Bool) ((ilt x356 x363)) fun c364 =>
 letK (α := Bool) ((ilt x2 (0 : Int))) fun c365 =>
 letK (α := Bool) ((Bool.not (BEq.beq c364 c365))) fun c366 =>
 F13_q10 D J p0 S300 S301 S345 c366 K)
noncomputable def F13_q12 (D J : Disp) (S : St) (p0 : PV) (x2 : Int) (S300 : St) (S301 : St) (S318 : St) (K : AV → St → Prop) : Prop :=
 St.at S318 (Bk.new (St.next S)) 0 fun y319 =>
 uncK y319 fun v320 y321 =>
 SV.cI IntKind.i64 v320 fun x325 =>
 uncK y321 fun v326 y327 =>
 SV.cI IntKind.i64 v326 fun x331 =>
 uncK y327 fun v332 y333 =>
 SV.cI IntKind.i64 v332 fun x337 =>
 uncK y333 fun v338 y339 =>
 SV.cI IntKind.i64 v338 fun x343 =>
 D 18 [(AV.one (V1.s (SV.ptr p0))), (AV.one (V1.agg [(SV.int IntKind.i64 x325), (SV.int IntKind.i64 x331), (SV.int IntKind.i64 x337), (SV.int IntKind.i64 x343)]))] S318 fun v344 S345 =>
 scK v344 fun v347 =>
 SV.cB v347 fun y348 =>
 letK (α := Bool) ((Bool.not y348)) fun c349 =>
 F13_q11 D J S p0 x2 S300 S301 S345 c349 K
noncomputable def F13_q13 (D J : Disp) (S : St) (p0 : PV) (x2 : Int) (S300 : St) (S301 : St) (x308 : Int) (x315 : Int) (K : AV → St → Prop) : Prop :=
 letK (α := Int) ((iwrap IntKind.i64 (x315 + x2))) fun x316 =>
 letK (α := St) ((St.add S301 (AO.cells [(SV.int IntKind.i64 (0 : Int)), (SV.int IntKind.i64 (0 : Int)), (SV.int IntKind.i64 (0 : Int)), (SV.int IntKind.i64 (0 : Int))] (Op2.ty 34)))) fun S317 =>
 St.wr S317 (Bk.new (St.next S301)) 0 [(SV.int IntKind.i64 (2 : Int)), (SV.int IntKind.i64 (0 : Int)), (SV.int IntKind.i64 x308), (SV.int IntKind.i64 x316)] fun S318 =>
 F13_q12 D J S p0 x2 S300 S301 S318 K
noncomputable def F13_q14 (D J : Disp) (S : St) (p0 : PV) (x2 : Int) (S300 : St) (K : AV → St → Prop) : Prop :=
 letK (α := St) ((St.add S300 (AO.cells [(SV.int IntKind.i64 (0 : Int)), (SV.int IntKind.i64 (0 : Int)), (SV.int IntKind.i64 (0 : Int)), (SV.int IntKind.i64 (0 : Int))] (Op2.ty 34)))) fun S301 =>
 St.at S301 (Bk.new (St.next S)) 2 fun y302 =>
 uncK y302 fun v303 y304 =>
 SV.cI IntKind.i64 v303 fun x308 =>
 St.at S301 (Bk.new (St.next S)) 3 fun y309 =>
 uncK y309 fun v310 y311 =>
 SV.cI IntKind.i64 v310 fun x315 =>
 F13_q13 D J S p0 x2 S300 S301 x308 x315 K
noncomputable def F13_0 (D J : Disp) (p0 : PV) (x1_0 : Int) (x1_1 : Int) (x1_2 : Int) (x1_3 : Int) (x2 : Int) (S : St) (K : AV → St → Prop) : Prop :=
 letK (α := St) ((St.add S (AO.cells [(SV.int IntKind.i64 x1_0), (SV.int IntKind.i64 x1_1), (SV.int IntKind.i64 x1_2), (SV.int IntKind.i64 x1_3)] (Op2.ty 34)))) fun S300 =>
 F13_q14 D J S p0 x2 S300 K
noncomputable def X13_0 : X := (.op (.op (.op (.jmp 3 [6, 8, 35]))))
theorem F13_0_eq (D J : Disp) (p0 : PV) (x1_0 : Int) (x1_1 : Int) (x1_2 : Int) (x1_3 : Int) (x2 : Int) (S : St) (K : AV → St → Prop) : F13_0 D J p0 x1_0 x1_1 x1_2 x1_3 x2 S K = execK MemP MemG Go.Proofs.Try.f13 (typed MemP D) J plans13 X13_0 (T13 0).1 (envOf (T13 0).2 [(AV.one (V1.s (SV.ptr p0))), (AV.one (V1.agg [(SV.int IntKind.i64 x1_0), (SV.int IntKind.i64 x1_1), (SV.int IntKind.i64 x1_2), (SV.int IntKind.i64 x1_3)])), (AV.one (V1.s (SV.int IntKind.i64 x2)))]) S K := by kernel_rfl
noncomputable def F13_q15 (D J : Disp) (p6 : PV) (S302 : St) (K : AV → St → Prop) : Prop :=
 PV.cs p6 fun b303 n304 =>
 St.at S302 b303 n304 fun y305 =>
 uncK y305 fun v306 y307 =>
 SV.cI IntKind.i64 v306 fun x311 =>
 uncK y307 fun v312 y313 =>
 SV.cI IntKind.i64 v312 fun x317 =>
 uncK y313 fun v318 y319 =>
 SV.cI IntKind.i64 v318 fun x323 =>
 uncK y319 fun v324 y325 =>
 SV.cI IntKind.i64 v324 fun x329 =>
 K ((AV.tup [(V1.agg [(SV.int IntKind.i64 x311), (SV.int IntKind.i64 x317), (SV.int IntKind.i64 x323), (SV.int IntKind.i64 x329)]), (V1.s (SV.bool Bool.false))])) S302
noncomputable def F13_q16 (D J : Disp) (p6 : PV) (S379 : St) (K : AV → St → Prop) : Prop :=
 PV.cs p6 fun b380 n381 =>
 St.at S379 b380 n381 fun y382 =>
 uncK y382 fun v383 y384 =>
 SV.cI IntKind.i64 v383 fun x388 =>
 uncK y384 fun v389 y390 =>
 SV.cI IntKind.i64 v389 fun x394 =>
 uncK y390 fun v395 y396 =>
 SV.cI IntKind.i64 v395 fun x400 =>
 uncK y396 fun v401 y402 =>
 SV.cI IntKind.i64 v401 fun x406 =>
 K ((AV.tup [(V1.agg [(SV.int IntKind.i64 x388), (SV.int IntKind.i64 x394), (SV.int IntKind.i64 x400), (SV.int IntKind.i64 x406)]), (V1.s (SV.bool Bool.true))])) S379
noncomputable def F13_q17 (D J : Disp) (S : St) (p6 : PV) (p8 : PV) (K : AV → St → Prop) : Prop :=
 PV.cs p8 fun b350 n351 =>
 St.at S b350 n351 fun y352 =>
 uncK y352 fun v353 y354 =>
 SV.cI IntKind.i64 v353 fun x358 =>
 uncK y354 fun v359 y360 =>
 SV.cI IntKind.i64 v359 fun x364 =>
 uncK y360 fun v365 y366 =>
 SV.cI IntKind.i64 v365 fun x370 =>
 uncK y366 fun v371 y372 =>
 SV.cI IntKind.i64 v371 fun x376 =>
 PV.cs p6 fun b377 n378 =>
 St.wr S b377 n378 [(SV.int IntKind.i64 x358), (SV.int IntKind.i64 x364), (SV.int IntKind.i64 x370), (SV.int IntKind.i64 x376)] fun S379 =>
 F13_q16 D J p6 S379 K
noncomputable def F13_3 (D J : Disp) (p6 : PV) (p8 : PV) (c35 : Bool) (S : St) (K : AV → St → Prop) : Prop :=
 ifK c35
 (PV.cs p6 fun b300 n301 =>
 St.wr S b300 n301 [(SV.int IntKind.i64 (0 : Int)), (SV.int IntKind.i64 (0 : Int)), (SV.int IntKind.i64 (0 : Int)), (SV.int IntKind.i64 (0 : Int))] fun S302 =>
 F13_q15 D J p6 S302 K)
 (F13_q17 D J S p6 p8 K)
noncomputable def X13_3 : X := (.br (.op .ret) (.op .ret))
theorem F13_3_eq (D J : Disp) (p6 : PV) (p8 : PV) (c35 : Bool) (S : St) (K : AV → St → Prop) : F13_3 D J p6 p8 c35 S K = execK MemP MemG Go.Proofs.Try.f13 (typed MemP D) J plans13 X13_3 (T13 3).1 (envOf (T13 3).2 [(AV.one (V1.s (SV.ptr p6))), (AV.one (V1.s (SV.ptr p8))), (AV.one (V1.s (SV.bool c35)))]) S K := by kernel_rfl
noncomputable abbrev A13_0 (D J : Disp) (vals : List AV) (S : St) (K : AV → St → Prop) : Prop :=
  uncA vals fun a9001 r9002 => scK a9001 fun s9004 => SV.cP s9004 fun p0 => uncA r9002 fun a9007 r9008 => avA a9007 fun l9010 => uncK l9010 fun s9012 r9013 => SV.cI IntKind.i64 s9012 fun x1_0 => uncK r9013 fun s9016 r9017 => SV.cI IntKind.i64 s9016 fun x1_1 => uncK r9017 fun s9020 r9021 => SV.cI IntKind.i64 s9020 fun x1_2 => uncK r9021 fun s9024 r9025 => SV.cI IntKind.i64 s9024 fun x1_3 => endL r9025 <| uncA r9008 fun a9029 r9030 => scK a9029 fun s9032 => SV.cI IntKind.i64 s9032 fun x2 => endL r9030 <| F13_0 D J p0 x1_0 x1_1 x1_2 x1_3 x2 S K
theorem A13_0_ok {D J : Disp} (hD : DOK MemP MemG D) (hJ : JOK MemP MemG Go.Proofs.Try.f13 T13 J) {vals : List AV} {S : St} {K : AV → St → Prop} (h0 : A13_0 D J vals S K) : Runs MemP MemG Go.Proofs.Try.f13 (T13 0).1 (envOf (T13 0).2 vals) S K := by
  obtain ⟨a9001, r9002, rfl, h3⟩ := uncA_some h0
  obtain ⟨s9004, rfl, h5⟩ := scK_some h3
  obtain ⟨p0, rfl, h6⟩ := cP_some h5
  obtain ⟨a9007, r9008, rfl, h9⟩ := uncA_some h6
  obtain ⟨l9010, rfl, h11⟩ := avA_some h9
  obtain ⟨s9012, r9013, rfl, h14⟩ := uncK_some h11
  obtain ⟨x1_0, rfl, h15⟩ := cI_some h14
  obtain ⟨s9016, r9017, rfl, h18⟩ := uncK_some h15
  obtain ⟨x1_1, rfl, h19⟩ := cI_some h18
  obtain ⟨s9020, r9021, rfl, h22⟩ := uncK_some h19
  obtain ⟨x1_2, rfl, h23⟩ := cI_some h22
  obtain ⟨s9024, r9025, rfl, h26⟩ := uncK_some h23
  obtain ⟨x1_3, rfl, h27⟩ := cI_some h26
  obtain ⟨rfl, h28⟩ := endL_some h27
  obtain ⟨a9029, r9030, rfl, h31⟩ := uncA_some h28
  obtain ⟨s9032, rfl, h33⟩ := scK_some h31
  obtain ⟨x2, rfl, h34⟩ := cI_some h33
  obtain ⟨rfl, h35⟩ := endL_some h34
  rw [F13_0_eq] at h35
  exact execK_runs hD.typed Mem_zero Mem_mixed hJ X13_0 (T13 0).1 (envOf (T13 0).2 _) S K (chk_of (by kernel_rfl) (by kernel_rfl)) h35
noncomputable abbrev A13_3 (D J : Disp) (vals : List AV) (S : St) (K : AV → St → Prop) : Prop :=
  uncA vals fun a9001 r9002 => scK a9001 fun s9004 => SV.cP s9004 fun p6 => uncA r9002 fun a9007 r9008 => scK a9007 fun s9010 => SV.cP s9010 fun p8 => uncA r9008 fun a9013 r9014 => scK a9013 fun s9016 => SV.cB s9016 fun c35 => endL r9014 <| F13_3 D J p6 p8 c35 S K
theorem A13_3_ok {D J : Disp} (hD : DOK MemP MemG D) (hJ : JOK MemP MemG Go.Proofs.Try.f13 T13 J) {vals : List AV} {S : St} {K : AV → St → Prop} (h0 : A13_3 D J vals S K) : Runs MemP MemG Go.Proofs.Try.f13 (T13 3).1 (envOf (T13 3).2 vals) S K := by
  obtain ⟨a9001, r9002, rfl, h3⟩ := uncA_some h0
  obtain ⟨s9004, rfl, h5⟩ := scK_some h3
  obtain ⟨p6, rfl, h6⟩ := cP_some h5
  obtain ⟨a9007, r9008, rfl, h9⟩ := uncA_some h6
  obtain ⟨s9010, rfl, h11⟩ := scK_some h9
  obtain ⟨p8, rfl, h12⟩ := cP_some h11
  obtain ⟨a9013, r9014, rfl, h15⟩ := uncA_some h12
  obtain ⟨s9016, rfl, h17⟩ := scK_some h15
  obtain ⟨c35, rfl, h18⟩ := cB_some h17
  obtain ⟨rfl, h19⟩ := endL_some h18
  rw [F13_3_eq] at h19
  exact execK_runs hD.typed Mem_zero Mem_mixed hJ X13_3 (T13 3).1 (envOf (T13 3).2 _) S K (chk_of (by kernel_rfl) (by kernel_rfl)) h19
noncomputable def J13 (D : Disp) (k : Nat) : Disp := Nat.rec (motive := fun _ => Disp) Disp.no (fun _ ih => Disp.add 0 (A13_0 D ih) <| Disp.add 3 (A13_3 D ih) <| Disp.no) k
theorem J13_ok {D : Disp} (hD : DOK MemP MemG D) : ∀ k, JOK MemP MemG Go.Proofs.Try.f13 T13 (J13 D k)
  | 0 => JOK.no
  | k + 1 => JOK.add (ltB_ok (by kernel_rfl)) (fun vals S K h => A13_0_ok hD (J13_ok hD k) h) <| JOK.add (ltB_ok (by kernel_rfl)) (fun vals S K h => A13_3_ok hD (J13_ok hD k) h) <| JOK.no
theorem E13_ok {D : Disp} (hD : DOK MemP MemG D) (k : Nat) {args : List AV} {S : St} {K : AV → St → Prop} (h : A13_0 D (J13 D k) args S K) : CallE MemP MemG 13 args S K := by
  have hr := A13_0_ok hD (J13_ok hD k) h
  have hl : args.length = 3 := by
    have h0 := h
    obtain ⟨a9001, r9002, rfl, h3⟩ := uncA_some h0
    obtain ⟨s9004, rfl, h5⟩ := scK_some h3
    obtain ⟨p0, rfl, h6⟩ := cP_some h5
    obtain ⟨a9007, r9008, rfl, h9⟩ := uncA_some h6
    obtain ⟨l9010, rfl, h11⟩ := avA_some h9
    obtain ⟨s9012, r9013, rfl, h14⟩ := uncK_some h11
    obtain ⟨x1_0, rfl, h15⟩ := cI_some h14
    obtain ⟨s9016, r9017, rfl, h18⟩ := uncK_some h15
    obtain ⟨x1_1, rfl, h19⟩ := cI_some h18
    obtain ⟨s9020, r9021, rfl, h22⟩ := uncK_some h19
    obtain ⟨x1_2, rfl, h23⟩ := cI_some h22
    obtain ⟨s9024, r9025, rfl, h26⟩ := uncK_some h23
    obtain ⟨x1_3, rfl, h27⟩ := cI_some h26
    obtain ⟨rfl, h28⟩ := endL_some h27
    obtain ⟨a9029, r9030, rfl, h31⟩ := uncA_some h28
    obtain ⟨s9032, rfl, h33⟩ := scK_some h31
    obtain ⟨x2, rfl, h34⟩ := cI_some h33
    obtain ⟨rfl, h35⟩ := endL_some h34
    rfl
  refine callOK_of (fn := Go.Proofs.Try.f13) (c := (match Go.Proofs.Try.f13.body with | some c => c | none => .skip)) (by kernel_rfl) (by kernel_rfl) (by kernel_rfl) (by rw [hl]; kernel_rfl) (by kernel_rfl) ?_
  rw [hl]
  exact hr
noncomputable def plans14 (i : Nat) : Plan := []
noncomputable def T14 (p : Nat) : List Item × List Nat := bif Nat.beq p 0 then ([.code (match Go.Proofs.Try.f14.body with | some c => c | none => .skip)], [0, 1, 2]) else
  ([], [])
noncomputable def F14_q0 (D J : Disp) (S : St) (S300 : St) (S353 : St) (c357 : Bool) (K : AV → St → Prop) : Prop :=
 ifK c357
 (K ((AV.tup [(V1.s (SV.int IntKind.i64 (0 : Int))), (V1.s (SV.bool Bool.false))])) S353)
 (St.at S353 (Bk.new (St.next S)) 3 fun y358 =>
 uncK y358 fun v359 y360 =>
 SV.cI IntKind.i64 v359 fun x364 =>
 St.at S353 (Bk.new (St.next S300)) 3 fun y365 =>
 uncK y365 fun v366 y367 =>
 SV.cI IntKind.i64 v366 fun x371 =>
 letK (α := Int) ((iwrap IntKind.i64 (x364 - x371))) fun x372 =>
 K ((AV.tup [(V1.s (SV.int IntKind.i64 x372)), (V1.s (SV.bool Bool.true))])) S353)
noncomputable def F14_q1 (D J : Disp) (S : St) (p0 : PV) (S300 : St) (S301 : St) (x308 : Int) (x314 : Int) (x320 : Int) (x326 : Int) (x333 : Int) (x339 : Int) (x345 : Int) (x351 : Int) (K : AV → St → Prop) : Prop :=
 D 19 [(AV.one (V1.s (SV.ptr p0))), (AV.one (V1.agg [(SV.int IntKind.i64 x308), (SV.int IntKind.i64 x314), (SV.int IntKind.i64 x320), (SV.int IntKind.i64 x326)])), (AV.one (V1.agg [(SV.int IntKind.i64 x333), (SV.int IntKind.i64 x339), (SV.int IntKind.i64 x345), (SV.int IntKind.i64 x351)]))] S301 fun v352 S353 =>
 scK v352 fun v355 =>
 SV.cB v355 fun y356 =>
 letK (α := Bool) ((Bool.not y356)) fun c357 =>
 F14_q0 D J S S300 S353 c357 K
noncomputable def F14_q2 (D J : Disp) (S : St) (p0 : PV) (S300 : St) (S301 : St) (K : AV → St → Prop) : Prop :=
 St.at S301 (Bk.new (St.next S)) 0 fun y302 =>
 uncK y302 fun v303 y304 =>
 SV.cI IntKind.i64 v303 fun x308 =>
 uncK y304 fun v309 y310 =>
 SV.cI IntKind.i64 v309 fun x314 =>
 uncK y310 fun v315 y316 =>
 SV.cI IntKind.i64 v315 fun x320 =>
 uncK y316 fun v321 y322 =>
 SV.cI IntKind.i64 v321 fun x326 =>
 St.at S301 (Bk.new (St.next S300)) 0 fun y327 =>
 uncK y327 fun v328 y329 =>
 SV.cI IntKind.i64 v328 fun x333 =>
 uncK y329 fun v334 y335 =>
 SV.cI IntKind.i64 v334 fun x339 =>
 uncK y335 fun v340 y341 =>
 SV.cI IntKind.i64 v340 fun x345 =>
 uncK y341 fun v346 y347 =>
 SV.cI IntKind.i64 v346 fun x351 =>
 F14_q1 D J S p0 S300 S301 x308 x314 x320 x326 x333 x339 x345 x351 K
noncomputable def F14_0 (D J : Disp) (p0 : PV) (x1_0 : Int) (x1_1 : Int) (x1_2 : Int) (x1_3 : Int) (x2_0 : Int) (x2_1 : Int) (x2_2 : Int) (x2_3 : Int) (S : St) (K : AV → St → Prop) : Prop :=
 letK (α := St) ((St.add S (AO.cells [(SV.int IntKind.i64 x1_0), (SV.int IntKind.i64 x1_1), (SV.int IntKind.i64 x1_2), (SV.int IntKind.i64 x1_3)] (Op2.ty 34)))) fun S300 =>
 letK (α := St) ((St.add S300 (AO.cells [(SV.int IntKind.i64 x2_0), (SV.int IntKind.i64 x2_1), (SV.int IntKind.i64 x2_2), (SV.int IntKind.i64 x2_3)] (Op2.ty 34)))) fun S301 =>
 F14_q2 D J S p0 S300 S301 K
noncomputable def X14_0 : X := (.op (.op (.br (.op .ret) (.op .ret))))
theorem F14_0_eq (D J : Disp) (p0 : PV) (x1_0 : Int) (x1_1 : Int) (x1_2 : Int) (x1_3 : Int) (x2_0 : Int) (x2_1 : Int) (x2_2 : Int) (x2_3 : Int) (S : St) (K : AV → St → Prop) : F14_0 D J p0 x1_0 x1_1 x1_2 x1_3 x2_0 x2_1 x2_2 x2_3 S K = execK MemP MemG Go.Proofs.Try.f14 (typed MemP D) J plans14 X14_0 (T14 0).1 (envOf (T14 0).2 [(AV.one (V1.s (SV.ptr p0))), (AV.one (V1.agg [(SV.int IntKind.i64 x1_0), (SV.int IntKind.i64 x1_1), (SV.int IntKind.i64 x1_2), (SV.int IntKind.i64 x1_3)])), (AV.one (V1.agg [(SV.int IntKind.i64 x2_0), (SV.int IntKind.i64 x2_1), (SV.int IntKind.i64 x2_2), (SV.int IntKind.i64 x2_3)]))]) S K := by kernel_rfl
noncomputable abbrev A14_0 (D J : Disp) (vals : List AV) (S : St) (K : AV → St → Prop) : Prop :=
  uncA vals fun a9001 r9002 => scK a9001 fun s9004 => SV.cP s9004 fun p0 => uncA r9002 fun a9007 r9008 => avA a9007 fun l9010 => uncK l9010 fun s9012 r9013 => SV.cI IntKind.i64 s9012 fun x1_0 => uncK r9013 fun s9016 r9017 => SV.cI IntKind.i64 s9016 fun x1_1 => uncK r9017 fun s9020 r9021 => SV.cI IntKind.i64 s9020 fun x1_2 => uncK r9021 fun s9024 r9025 => SV.cI IntKind.i64 s9024 fun x1_3 => endL r9025 <| uncA r9008 fun a9029 r9030 => avA a9029 fun l9032 => uncK l9032 fun s9034 r9035 => SV.cI IntKind.i64 s9034 fun x2_0 => uncK r9035 fun s9038 r9039 => SV.cI IntKind.i64 s9038 fun x2_1 => uncK r9039 fun s9042 r9043 => SV.cI IntKind.i64 s9042 fun x2_2 => uncK r9043 fun s9046 r9047 => SV.cI IntKind.i64 s9046 fun x2_3 => endL r9047 <| endL r9030 <| F14_0 D J p0 x1_0 x1_1 x1_2 x1_3 x2_0 x2_1 x2_2 x2_3 S K
theorem A14_0_ok {D J : Disp} (hD : DOK MemP MemG D) (hJ : JOK MemP MemG Go.Proofs.Try.f14 T14 J) {vals : List AV} {S : St} {K : AV → St → Prop} (h0 : A14_0 D J vals S K) : Runs MemP MemG Go.Proofs.Try.f14 (T14 0).1 (envOf (T14 0).2 vals) S K := by
  obtain ⟨a9001, r9002, rfl, h3⟩ := uncA_some h0
  obtain ⟨s9004, rfl, h5⟩ := scK_some h3
  obtain ⟨p0, rfl, h6⟩ := cP_some h5
  obtain ⟨a9007, r9008, rfl, h9⟩ := uncA_some h6
  obtain ⟨l9010, rfl, h11⟩ := avA_some h9
  obtain ⟨s9012, r9013, rfl, h14⟩ := uncK_some h11
  obtain ⟨x1_0, rfl, h15⟩ := cI_some h14
  obtain ⟨s9016, r9017, rfl, h18⟩ := uncK_some h15
  obtain ⟨x1_1, rfl, h19⟩ := cI_some h18
  obtain ⟨s9020, r9021, rfl, h22⟩ := uncK_some h19
  obtain ⟨x1_2, rfl, h23⟩ := cI_some h22
  obtain ⟨s9024, r9025, rfl, h26⟩ := uncK_some h23
  obtain ⟨x1_3, rfl, h27⟩ := cI_some h26
  obtain ⟨rfl, h28⟩ := endL_some h27
  obtain ⟨a9029, r9030, rfl, h31⟩ := uncA_some h28
  obtain ⟨l9032, rfl, h33⟩ := avA_some h31
  obtain ⟨s9034, r9035, rfl, h36⟩ := uncK_some h33
  obtain ⟨x2_0, rfl, h37⟩ := cI_some h36
  obtain ⟨s9038, r9039, rfl, h40⟩ := uncK_some h37
  obtain ⟨x2_1, rfl, h41⟩ := cI_some h40
  obtain ⟨s9042, r9043, rfl, h44⟩ := uncK_some h41
  obtain ⟨x2_2, rfl, h45⟩ := cI_some h44
  obtain ⟨s9046, r9047, rfl, h48⟩ := uncK_some h45
  obtain ⟨x2_3, rfl, h49⟩ := cI_some h48
  obtain ⟨rfl, h50⟩ := endL_some h49
  obtain ⟨rfl, h51⟩ := endL_some h50
  rw [F14_0_eq] at h51
  exact execK_runs hD.typed Mem_zero Mem_mixed hJ X14_0 (T14 0).1 (envOf (T14 0).2 _) S K (chk_of (by kernel_rfl) (by kernel_rfl)) h51
noncomputable def J14 (D : Disp) (k : Nat) : Disp := Nat.rec (motive := fun _ => Disp) Disp.no (fun _ ih => Disp.add 0 (A14_0 D ih) <| Disp.no) k
theorem J14_ok {D : Disp} (hD : DOK MemP MemG D) : ∀ k, JOK MemP MemG Go.Proofs.Try.f14 T14 (J14 D k)
  | 0 => JOK.no
  | k + 1 => JOK.add (ltB_ok (by kernel_rfl)) (fun vals S K h => A14_0_ok hD (J14_ok hD k) h) <| JOK.no
theorem E14_ok {D : Disp} (hD : DOK MemP MemG D) (k : Nat) {args : List AV} {S : St} {K : AV → St → Prop} (h : A14_0 D (J14 D k) args S K) : CallE MemP MemG 14 args S K := by
  have hr := A14_0_ok hD (J14_ok hD k) h
  have hl : args.length = 3 := by
    have h0 := h
    obtain ⟨a9001, r9002, rfl, h3⟩ := uncA_some h0
    obtain ⟨s9004, rfl, h5⟩ := scK_some h3
    obtain ⟨p0, rfl, h6⟩ := cP_some h5
    obtain ⟨a9007, r9008, rfl, h9⟩ := uncA_some h6
    obtain ⟨l9010, rfl, h11⟩ := avA_some h9
    obtain ⟨s9012, r9013, rfl, h14⟩ := uncK_some h11
    obtain ⟨x1_0, rfl, h15⟩ := cI_some h14
    obtain ⟨s9016, r9017, rfl, h18⟩ := uncK_some h15
    obtain ⟨x1_1, rfl, h19⟩ := cI_some h18
    obtain ⟨s9020, r9021, rfl, h22⟩ := uncK_some h19
    obtain ⟨x1_2, rfl, h23⟩ := cI_some h22
    obtain ⟨s9024, r9025, rfl, h26⟩ := uncK_some h23
    obtain ⟨x1_3, rfl, h27⟩ := cI_some h26
    obtain ⟨rfl, h28⟩ := endL_some h27
    obtain ⟨a9029, r9030, rfl, h31⟩ := uncA_some h28
    obtain ⟨l9032, rfl, h33⟩ := avA_some h31
    obtain ⟨s9034, r9035, rfl, h36⟩ := uncK_some h33
    obtain ⟨x2_0, rfl, h37⟩ := cI_some h36
    obtain ⟨s9038, r9039, rfl, h40⟩ := uncK_some h37
    obtain ⟨x2_1, rfl, h41⟩ := cI_some h40
    obtain ⟨s9042, r9043, rfl, h44⟩ := uncK_some h41
    obtain ⟨x2_2, rfl, h45⟩ := cI_some h44
    obtain ⟨s9046, r9047, rfl, h48⟩ := uncK_some h45
    obtain ⟨x2_3, rfl, h49⟩ := cI_some h48
    obtain ⟨rfl, h50⟩ := endL_some h49
    obtain ⟨rfl, h51⟩ := endL_some h50
    rfl
  refine callOK_of (fn := Go.Proofs.Try.f14) (c := (match Go.Proofs.Try.f14.body with | some c => c | none => .skip)) (by kernel_rfl) (by kernel_rfl) (by kernel_rfl) (by rw [hl]; kernel_rfl) (by kernel_rfl) ?_
  rw [hl]
  exact hr
noncomputable def plans15 (i : Nat) : Plan := []
noncomputable def T15 (p : Nat) : List Item × List Nat := bif Nat.beq p 0 then ([.code (match Go.Proofs.Try.f15.body with | some c => c | none => .skip)], [0, 1, 2]) else
  ([], [])
noncomputable def F15_q0 (D J : Disp) (S : St) (p0 : PV) (S300 : St) (S301 : St) (x308 : Int) (x314 : Int) (x320 : Int) (x326 : Int) (x333 : Int) (x339 : Int) (x345 : Int) (x351 : Int) (K : AV → St → Prop) : Prop :=
 D 19 [(AV.one (V1.s (SV.ptr p0))), (AV.one (V1.agg [(SV.int IntKind.i64 x308), (SV.int IntKind.i64 x314), (SV.int IntKind.i64 x320), (SV.int IntKind.i64 x326)])), (AV.one (V1.agg [(SV.int IntKind.i64 x333), (SV.int IntKind.i64 x339), (SV.int IntKind.i64 x345), (SV.int IntKind.i64 x351)]))] S301 fun v352 S353 =>
 scK v352 fun v355 =>
 SV.cB v355 fun y356 =>
 ifK y356
 (St.at S353 (Bk.new (St.next S)) 3 fun y357 =>
 uncK y357 fun v358 y359 =>
 SV.cI IntKind.i64 v358 fun x363 =>
 St.at S353 (Bk.new (St.next S300)) 3 fun y364 =>
 uncK y364 fun v365 y366 =>
 SV.cI IntKind.i64 v365 fun x370 =>
 letK (α := Bool) ((ilt x363 x370)) fun c371 =>
 K ((AV.tup [(V1.s (SV.bool c371)), (V1.s (SV.bool y356))])) S353)
 (K ((AV.tup [(V1.s (SV.bool Bool.false)), (V1.s (SV.bool y356))])) S353)
noncomputable def F15_q1 (D J : Disp) (S : St) (p0 : PV) (S300 : St) (S301 : St) (K : AV → St → Prop) : Prop :=
 St.at S301 (Bk.new (St.next S)) 0 fun y302 =>
 uncK y302 fun v303 y304 =>
 SV.cI IntKind.i64 v303 fun x308 =>
 uncK y304 fun v309 y310 =>
 SV.cI IntKind.i64 v309 fun x314 =>
 uncK y310 fun v315 y316 =>
 SV.cI IntKind.i64 v315 fun x320 =>
 uncK y316 fun v321 y322 =>
 SV.cI IntKind.i64 v321 fun x326 =>
 St.at S301 (Bk.new (St.next S300)) 0 fun y327 =>
 uncK y327 fun v328 y329 =>
 SV.cI IntKind.i64 v328 fun x333 =>
 uncK y329 fun v334 y335 =>
 SV.cI IntKind.i64 v334 fun x339 =>
 uncK y335 fun v340 y341 =>
 SV.cI IntKind.i64 v340 fun x345 =>
 uncK y341 fun v346 y347 =>
 SV.cI IntKind.i64 v346 fun x351 =>
 F15_q0 D J S p0 S300 S301 x308 x314 x320 x326 x333 x339 x345 x351 K
noncomputable def F15_0 (D J : Disp) (p0 : PV) (x1_0 : Int) (x1_1 : Int) (x1_2 : Int) (x1_3 : Int) (x2_0 : Int) (x2_1 : Int) (x2_2 : Int) (x2_3 : Int) (S : St) (K : AV → St → Prop) : Prop :=
 letK (α := St) ((St.add S (AO.cells [(SV.int IntKind.i64 x1_0), (SV.int IntKind.i64 x1_1), (SV.int IntKind.i64 x1_2), (SV.int IntKind.i64 x1_3)] (Op2.ty 34)))) fun S300 =>
 letK (α := St) ((St.add S300 (AO.cells [(SV.int IntKind.i64 x2_0), (SV.int IntKind.i64 x2_1), (SV.int IntKind.i64 x2_2), (SV.int IntKind.i64 x2_3)] (Op2.ty 34)))) fun S301 =>
 F15_q1 D J S p0 S300 S301 K
noncomputable def X15_0 : X := (.op (.op (.op .ret)))
theorem F15_0_eq (D J : Disp) (p0 : PV) (x1_0 : Int) (x1_1 : Int) (x1_2 : Int) (x1_3 : Int) (x2_0 : Int) (x2_1 : Int) (x2_2 : Int) (x2_3 : Int) (S : St) (K : AV → St → Prop) : F15_0 D J p0 x1_0 x1_1 x1_2 x1_3 x2_0 x2_1 x2_2 x2_3 S K = execK MemP MemG Go.Proofs.Try.f15 (typed MemP D) J plans15 X15_0 (T15 0).1 (envOf (T15 0).2 [(AV.one (V1.s (SV.ptr p0))), (AV.one (V1.agg [(SV.int IntKind.i64 x1_0), (SV.int IntKind.i64 x1_1), (SV.int IntKind.i64 x1_2), (SV.int IntKind.i64 x1_3)])), (AV.one (V1.agg [(SV.int IntKind.i64 x2_0), (SV.int IntKind.i64 x2_1), (SV.int IntKind.i64 x2_2), (SV.int IntKind.i64 x2_3)]))]) S K := by kernel_rfl
noncomputable abbrev A15_0 (D J : Disp) (vals : List AV) (S : St) (K : AV → St → Prop) : Prop :=
  uncA vals fun a9001 r9002 => scK a9001 fun s9004 => SV.cP s9004 fun p0 => uncA r9002 fun a9007 r9008 => avA a9007 fun l9010 => uncK l9010 fun s9012 r9013 => SV.cI IntKind.i64 s9012 fun x1_0 => uncK r9013 fun s9016 r9017 => SV.cI IntKind.i64 s9016 fun x1_1 => uncK r9017 fun s9020 r9021 => SV.cI IntKind.i64 s9020 fun x1_2 => uncK r9021 fun s9024 r9025 => SV.cI IntKind.i64 s9024 fun x1_3 => endL r9025 <| uncA r9008 fun a9029 r9030 => avA a9029 fun l9032 => uncK l9032 fun s9034 r9035 => SV.cI IntKind.i64 s9034 fun x2_0 => uncK r9035 fun s9038 r9039 => SV.cI IntKind.i64 s9038 fun x2_1 => uncK r9039 fun s9042 r9043 => SV.cI IntKind.i64 s9042 fun x2_2 => uncK r9043 fun s9046 r9047 => SV.cI IntKind.i64 s9046 fun x2_3 => endL r9047 <| endL r9030 <| F15_0 D J p0 x1_0 x1_1 x1_2 x1_3 x2_0 x2_1 x2_2 x2_3 S K
theorem A15_0_ok {D J : Disp} (hD : DOK MemP MemG D) (hJ : JOK MemP MemG Go.Proofs.Try.f15 T15 J) {vals : List AV} {S : St} {K : AV → St → Prop} (h0 : A15_0 D J vals S K) : Runs MemP MemG Go.Proofs.Try.f15 (T15 0).1 (envOf (T15 0).2 vals) S K := by
  obtain ⟨a9001, r9002, rfl, h3⟩ := uncA_some h0
  obtain ⟨s9004, rfl, h5⟩ := scK_some h3
  obtain ⟨p0, rfl, h6⟩ := cP_some h5
  obtain ⟨a9007, r9008, rfl, h9⟩ := uncA_some h6
  obtain ⟨l9010, rfl, h11⟩ := avA_some h9
  obtain ⟨s9012, r9013, rfl, h14⟩ := uncK_some h11
  obtain ⟨x1_0, rfl, h15⟩ := cI_some h14
  obtain ⟨s9016, r9017, rfl, h18⟩ := uncK_some h15
  obtain ⟨x1_1, rfl, h19⟩ := cI_some h18
  obtain ⟨s9020, r9021, rfl, h22⟩ := uncK_some h19
  obtain ⟨x1_2, rfl, h23⟩ := cI_some h22
  obtain ⟨s9024, r9025, rfl, h26⟩ := uncK_some h23
  obtain ⟨x1_3, rfl, h27⟩ := cI_some h26
  obtain ⟨rfl, h28⟩ := endL_some h27
  obtain ⟨a9029, r9030, rfl, h31⟩ := uncA_some h28
  obtain ⟨l9032, rfl, h33⟩ := avA_some h31
  obtain ⟨s9034, r9035, rfl, h36⟩ := uncK_some h33
  obtain ⟨x2_0, rfl, h37⟩ := cI_some h36
  obtain ⟨s9038, r9039, rfl, h40⟩ := uncK_some h37
  obtain ⟨x2_1, rfl, h41⟩ := cI_some h40
  obtain ⟨s9042, r9043, rfl, h44⟩ := uncK_some h41
  obtain ⟨x2_2, rfl, h45⟩ := cI_some h44
  obtain ⟨s9046, r9047, rfl, h48⟩ := uncK_some h45
  obtain ⟨x2_3, rfl, h49⟩ := cI_some h48
  obtain ⟨rfl, h50⟩ := endL_some h49
  obtain ⟨rfl, h51⟩ := endL_some h50
  rw [F15_0_eq] at h51
  exact execK_runs hD.typed Mem_zero Mem_mixed hJ X15_0 (T15 0).1 (envOf (T15 0).2 _) S K (chk_of (by kernel_rfl) (by kernel_rfl)) h51
noncomputable def J15 (D : Disp) (k : Nat) : Disp := Nat.rec (motive := fun _ => Disp) Disp.no (fun _ ih => Disp.add 0 (A15_0 D ih) <| Disp.no) k
theorem J15_ok {D : Disp} (hD : DOK MemP MemG D) : ∀ k, JOK MemP MemG Go.Proofs.Try.f15 T15 (J15 D k)
  | 0 => JOK.no
  | k + 1 => JOK.add (ltB_ok (by kernel_rfl)) (fun vals S K h => A15_0_ok hD (J15_ok hD k) h) <| JOK.no
theorem E15_ok {D : Disp} (hD : DOK MemP MemG D) (k : Nat) {args : List AV} {S : St} {K : AV → St → Prop} (h : A15_0 D (J15 D k) args S K) : CallE MemP MemG 15 args S K := by
  have hr := A15_0_ok hD (J15_ok hD k) h
  have hl : args.length = 3 := by
    have h0 := h
    obtain ⟨a9001, r9002, rfl, h3⟩ := uncA_some h0
    obtain ⟨s9004, rfl, h5⟩ := scK_some h3
    obtain ⟨p0, rfl, h6⟩ := cP_some h5
    obtain ⟨a9007, r9008, rfl, h9⟩ := uncA_some h6
    obtain ⟨l9010, rfl, h11⟩ := avA_some h9
    obtain ⟨s9012, r9013, rfl, h14⟩ := uncK_some h11
    obtain ⟨x1_0, rfl, h15⟩ := cI_some h14
    obtain ⟨s9016, r9017, rfl, h18⟩ := uncK_some h15
    obtain ⟨x1_1, rfl, h19⟩ := cI_some h18
    obtain ⟨s9020, r9021, rfl, h22⟩ := uncK_some h19
    obtain ⟨x1_2, rfl, h23⟩ := cI_some h22
    obtain ⟨s9024, r9025, rfl, h26⟩ := uncK_some h23
    obtain ⟨x1_3, rfl, h27⟩ := cI_some h26
    obtain ⟨rfl, h28⟩ := endL_some h27
    obtain ⟨a9029, r9030, rfl, h31⟩ := uncA_some h28
    obtain ⟨l9032, rfl, h33⟩ := avA_some h31
    obtain ⟨s9034, r9035, rfl, h36⟩ := uncK_some h33
    obtain ⟨x2_0, rfl, h37⟩ := cI_some h36
    obtain ⟨s9038, r9039, rfl, h40⟩ := uncK_some h37
    obtain ⟨x2_1, rfl, h41⟩ := cI_some h40
    obtain ⟨s9042, r9043, rfl, h44⟩ := uncK_some h41
    obtain ⟨x2_2, rfl, h45⟩ := cI_some h44
    obtain ⟨s9046, r9047, rfl, h48⟩ := uncK_some h45
    obtain ⟨x2_3, rfl, h49⟩ := cI_some h48
    obtain ⟨rfl, h50⟩ := endL_some h49
    obtain ⟨rfl, h51⟩ := endL_some h50
    rfl
  refine callOK_of (fn := Go.Proofs.Try.f15) (c := (match Go.Proofs.Try.f15.body with | some c => c | none => .skip)) (by kernel_rfl) (by kernel_rfl) (by kernel_rfl) (by rw [hl]; kernel_rfl) (by kernel_rfl) ?_
  rw [hl]
  exact hr
noncomputable def plans16 (i : Nat) : Plan := if Nat.beq i 14 then [(0, []), (1, [0]), (2, [1, 0]), (3, [2, 1, 0]), (4, [3, 2, 1, 0]), (5, [3, 2, 1, 0]), (6, [5, 3, 2, 1, 0]), (7, [4, 6, 3, 5, 2, 1, 0]), (8, [7, 3, 4, 6, 2, 1, 5, 0]), (9, [8, 7, 3, 4, 6, 2, 1, 5, 0]), (10, [9, 8, 7, 3, 4, 6, 2, 1, 5, 0]), (11, [10, 9, 8, 7, 3, 4, 6, 2, 1, 5, 0]), (12, [9, 8, 7, 3, 4, 6, 2, 1, 5, 0]), (13, [9, 8, 7, 3, 4, 6, 2, 1, 5, 0]), (14, [13, 9, 8, 7, 3, 4, 6, 2, 1, 5, 0]), (15, [12, 14, 9, 13, 8, 7, 3, 4, 6, 2, 1, 5, 0]), (16, [11, 15, 9, 10, 12, 14, 8, 7, 3, 13, 4, 6, 2, 1, 5, 0]), (17, [9, 16, 3, 8, 7, 11, 15, 2, 1, 4, 6, 10, 12, 14, 0, 5, 13]), (18, [3, 17, 2, 1, 9, 16, 0, 8, 7, 11, 15, 4, 6, 10, 12, 14, 5, 13])] else []
noncomputable def T16 (p : Nat) : List Item × List Nat := bif Nat.beq p 0 then ([.code (match Go.Proofs.Try.f16.body with | some c => c | none => .skip)], [0, 1, 2]) else
  bif Nat.beq p 6 then (navs [.op, .op, .el, .op] [.code (match Go.Proofs.Try.f16.body with | some c => c | none => .skip)], [0, 4, 5, 13]) else
  bif Nat.beq p 9 then (navs [.op, .op, .el, .op, .el, .op] [.code (match Go.Proofs.Try.f16.body with | some c => c | none => .skip)], [0, 4, 5, 30]) else
  bif Nat.beq p 18 then (navs [.op, .op, .el, .op, .el, .op, .el, .op, .el, .op, .el, .op] [.code (match Go.Proofs.Try.f16.body with | some c => c | none => .skip)], [0, 68, 69, 70]) else
  bif Nat.beq p 22 then (navs [.op, .op, .el, .op, .el, .op, .el, .op, .el, .op, .el, .op, .op, .th, .op, .op] [.code (match Go.Proofs.Try.f16.body with | some c => c | none => .skip)], [0, 68, 69, 70, 92]) else
  ([], [])
noncomputable def F16_q17 (D J : Disp) (S : St) (p0 : PV) (S300 : St) (S367 : St) (y370 : Bool) (K : AV → St → Prop) : Prop :=
 ifK y370
 (St.at S367 (Bk.new (St.next S)) 0 fun y371 =>
 uncK y371 fun v372 y373 =>
 SV.cI IntKind.i64 v372 fun x377 =>
 letK (α := Bool) ((ieq x377 (3 : Int))) fun c378 =>
 J 6 [(AV.one (V1.s (SV.ptr p0))), (AV.one (V1.s (SV.ptr (PV.mk (Bk.new (St.next S)) 0)))), (AV.one (V1.s (SV.ptr (PV.mk (Bk.new (St.next S300)) 0)))), (AV.one (V1.s (SV.bool c378)))] S367 K)
 (J 6 [(AV.one (V1.s (SV.ptr p0))), (AV.one (V1.s (SV.ptr (PV.mk (Bk.new (St.next S)) 0)))), (AV.one (V1.s (SV.ptr (PV.mk (Bk.new (St.next S300)) 0)))), (AV.one (V1.s (SV.bool Bool.false)))] S367 K)
noncomputable def F16_q18 (D J : Disp) (S : St) (p0 : PV) (S300 : St) (S329 : St) (c340 : Bool) (K : AV → St → Prop) : Prop :=
 ifK c340
 (J 6 [(AV.one (V1.s (SV.ptr p0))), (AV.one (V1.s (SV.ptr (PV.mk (Bk.new (St.next S)) 0)))), (AV.one (V1.s (SV.ptr (PV.mk (Bk.new (St.next S300)) 0)))), (AV.one (V1.s (SV.bool Bool.true)))] S329 K)
 (St.at S329 (Bk.new (St.next S300)) 0 fun y341 =>
 uncK y341 fun v342 y343 =>
 SV.cI IntKind.i64 v342 fun x347 =>
 uncK y343 fun v348 y349 =>
 SV.cI IntKind.i64 v348 fun x353 =>
 uncK y349 fun v354 y355 =>
 SV.cI IntKind.i64 v354 fun x359 =>
 uncK y355 fun v360 y361 =>
 SV.cI IntKind.i64 v360 fun x365 =>
 D 20 [(AV.one (V1.agg [(SV.int IntKind.i64 x347), (SV.int IntKind.i64 x353), (SV.int IntKind.i64 x359), (SV.int IntKind.i64 x365)]))] S329 fun v366 S367 =>
 scK v366 fun v369 =>
 SV.cB v369 fun y370 =>
 F16_q17 D J S p0 S300 S367 y370 K)
noncomputable def F16_q19 (D J : Disp) (S : St) (p0 : PV) (S300 : St) (S444 : St) (y447 : Bool) (K : AV → St → Prop) : Prop :=
 ifK y447
 (St.at S444 (Bk.new (St.next S)) 0 fun y448 =>
 uncK y448 fun v449 y450 =>
 SV.cI IntKind.i64 v449 fun x454 =>
 letK (α := Bool) ((ieq x454 (3 : Int))) fun c455 =>
 J 6 [(AV.one (V1.s (SV.ptr p0))), (AV.one (V1.s (SV.ptr (PV.mk (Bk.new (St.next S)) 0)))), (AV.one (V1.s (SV.ptr (PV.mk (Bk.new (St.next S300)) 0)))), (AV.one (V1.s (SV.bool c455)))] S444 K)
 (J 6 [(AV.one (V1.s (SV.ptr p0))), (AV.one (V1.s (SV.ptr (PV.mk (Bk.new (St.next S)) 0)))), (AV.one (V1.s (SV.ptr (PV.mk (Bk.new (St.next S300)) 0)))), (AV.one (V1.s (SV.bool Bool.false)))] S444 K)
noncomputable def F16_q20 (D J : Disp) (S : St) (p0 : PV) (S300 : St) (S329 : St) (K : AV → St → Prop) : Prop :=
 St.at S329 (Bk.new (St.next S300)) 0 fun y418 =>
 uncK y418 fun v419 y420 =>
 SV.cI IntKind.i64 v419 fun x424 =>
 uncK y420 fun v425 y426 =>
 SV.cI IntKind.i64 v425 fun x430 =>
 uncK y426 fun v431 y432 =>
 SV.cI IntKind.i64 v431 fun x436 =>
 uncK y432 fun v437 y438 =>
 SV.cI IntKind.i64 v437 fun x442 =>
 D 20 [(AV.one (V1.agg [(SV.int IntKind.i64 x424), (SV.int IntKind.i64 x430), (SV.int IntKind.i64 x436), (SV.int IntKind.i64 x442)]))] S329 fun v443 S444 =>
 scK v443 fun v446 =>
 SV.cB v446 fun y447 =>
 F16_q19 D J S p0 S300 S444 y447 K
noncomputable def F16_q21 (D J : Disp) (S : St) (p0 : PV) (S300 : St) (S301 : St) (x309 : Int) (x315 : Int) (x321 : Int) (x327 : Int) (K : AV → St → Prop) : Prop :=
 D 20 [(AV.one (V1.agg [(SV.int IntKind.i64 x309), (SV.int IntKind.i64 x315), (SV.int IntKind.i64 x321), (SV.int IntKind.i64 x327)]))] S301 fun v328 S329 =>
 scK v328 fun v331 =>
 SV.cB v331 fun y332 =>
 ifK y332
 (St.at S329 (Bk.new (St.next S300)) 0 fun y333 =>
 uncK y333 fun v334 y335 =>
 SV.cI IntKind.i64 v334 fun x339 =>
 letK (α := Bool) ((ieq x339 (3 : Int))) fun c340 =>
 F16_q18 D J S p0 S300 S329 c340 K)
 (F16_q20 D J S p0 S300 S329 K)
noncomputable def F16_q22 (D J : Disp) (S : St) (p0 : PV) (S300 : St) (S301 : St) (y302 : Bool) (K : AV → St → Prop) : Prop :=
 ifK y302
 (K ((AV.tup [(V1.s (SV.bool Bool.false)), (V1.s (SV.bool Bool.false))])) S301)
 (St.at S301 (Bk.new (St.next S)) 0 fun y303 =>
 uncK y303 fun v304 y305 =>
 SV.cI IntKind.i64 v304 fun x309 =>
 uncK y305 fun v310 y311 =>
 SV.cI IntKind.i64 v310 fun x315 =>
 uncK y311 fun v316 y317 =>
 SV.cI IntKind.i64 v316 fun x321 =>
 uncK y317 fun v322 y323 =>
 SV.cI IntKind.i64 v322 fun x327 =>
 F16_q21 D J S p0 S300 S301 x309 x315 x321 x327 K)
noncomputable def F16_0 (D J : Disp) (p0 : PV) (x1_0 : Int) (x1_1 : Int) (x1_2 : Int) (x1_3 : Int) (x2_0 : Int) (x2_1 : Int) (x2_2 : Int) (x2_3 : Int) (S : St) (K : AV → St → Prop) : Prop :=
 letK (α := St) ((St.add S (AO.cells [(SV.int IntKind.i64 x1_0), (SV.int IntKind.i64 x1_1), (SV.int IntKind.i64 x1_2), (SV.int IntKind.i64 x1_3)] (Op2.ty 34)))) fun S300 =>
 letK (α := St) ((St.add S300 (AO.cells [(SV.int IntKind.i64 x2_0), (SV.int IntKind.i64 x2_1), (SV.int IntKind.i64 x2_2), (SV.int IntKind.i64 x2_3)] (Op2.ty 34)))) fun S301 =>
 optK (eqA MemP 1 25 (V1.s (SV.ptr p0)) (V1.s (SV.ptr PV.nil))) fun y302 =>
 F16_q22 D J S p0 S300 S301 y302 K
noncomputable def X16_0 : X := (.op (.op (.br (.op .ret) (.op (.jmp 6 [0, 4, 5, 13])))))
theorem F16_0_eq (D J : Disp) (p0 : PV) (x1_0 : Int) (x1_1 : Int) (x1_2 : Int) (x1_3 : Int) (x2_0 : Int) (x2_1 : Int) (x2_2 : Int) (x2_3 : Int) (S : St) (K : AV → St → Prop) : F16_0 D J p0 x1_0 x1_1 x1_2 x1_3 x2_0 x2_1 x2_2 x2_3 S K = execK MemP MemG Go.Proofs.Try.f16 (typed MemP D) J plans16 X16_0 (T16 0).1 (envOf (T16 0).2 [(AV.one (V1.s (SV.ptr p0))), (AV.one (V1.agg [(SV.int IntKind.i64 x1_0), (SV.int IntKind.i64 x1_1), (SV.int IntKind.i64 x1_2), (SV.int IntKind.i64 x1_3)])), (AV.one (V1.agg [(SV.int IntKind.i64 x2_0), (SV.int IntKind.i64 x2_1), (SV.int IntKind.i64 x2_2), (SV.int IntKind.i64 x2_3)]))]) S K := by kernel_rfl
noncomputable def F16_q23 (D J : Disp) (S : St) (p0 : PV) (p4 : PV) (p5 : PV) (c331 : Bool) (K : AV → St → Prop) : Prop :=
 ifK c331
 (J 9 [(AV.one (V1.s (SV.ptr p0))), (AV.one (V1.s (SV.ptr p4))), (AV.one (V1.s (SV.ptr p5))), (AV.one (V1.s (SV.bool Bool.true)))] S K)
 (PV.cs p4 fun b332 n333 =>
 letK (α := Nat) ((n333 + 0)) fun n334 =>
 St.at S b332 n334 fun y335 =>
 uncK y335 fun v336 y337 =>
 SV.cI IntKind.i64 v336 fun x341 =>
 letK (α := Bool) ((ilt (3 : Int) x341)) fun c342 =>
 J 9 [(AV.one (V1.s (SV.ptr p0))), (AV.one (V1.s (SV.ptr p4))), (AV.one (V1.s (SV.ptr p5))), (AV.one (V1.s (SV.bool c342)))] S K)
noncomputable def F16_q24 (D J : Disp) (S : St) (p0 : PV) (p4 : PV) (p5 : PV) (x309 : Int) (b310 : Bk) (n312 : Nat) (K : AV → St → Prop) : Prop :=
 St.at S b310 n312 fun y313 =>
 uncK y313 fun v314 y315 =>
 SV.cI IntKind.i64 v314 fun x319 =>
 letK (α := Bool) ((Bool.not (ieq x309 x319))) fun c320 =>
 ifK c320
 (J 9 [(AV.one (V1.s (SV.ptr p0))), (AV.one (V1.s (SV.ptr p4))), (AV.one (V1.s (SV.ptr p5))), (AV.one (V1.s (SV.bool Bool.true)))] S K)
 (PV.cs p4 fun b321 n322 =>
 letK (α := Nat) ((n322 + 0)) fun n323 =>
 St.at S b321 n323 fun y324 =>
 uncK y324 fun v325 y326 =>
 SV.cI IntKind.i64 v325 fun x330 =>
 letK (α := Bool) ((ilt x330 (1 : Int))) fun c331 =>
 F16_q23 D J S p0 p4 p5 c331 K)
noncomputable def F16_6 (D J : Disp) (p0 : PV) (p4 : PV) (p5 : PV) (c13 : Bool) (S : St) (K : AV → St → Prop) : Prop :=
 ifK c13
 (K ((AV.tup [(V1.s (SV.bool Bool.false)), (V1.s (SV.bool Bool.true))])) S)
 (PV.cs p4 fun b300 n301 =>
 letK (α := Nat) ((n301 + 0)) fun n302 =>
 St.at S b300 n302 fun y303 =>
 uncK y303 fun v304 y305 =>
 SV.cI IntKind.i64 v304 fun x309 =>
 PV.cs p5 fun b310 n311 =>
 letK (α := Nat) ((n311 + 0)) fun n312 =>
 F16_q24 D J S p0 p4 p5 x309 b310 n312 K)
noncomputable def X16_6 : X := (.br (.op .ret) (.op (.jmp 9 [0, 4, 5, 30])))
theorem F16_6_eq (D J : Disp) (p0 : PV) (p4 : PV) (p5 : PV) (c13 : Bool) (S : St) (K : AV → St → Prop) : F16_6 D J p0 p4 p5 c13 S K = execK MemP MemG Go.Proofs.Try.f16 (typed MemP D) J plans16 X16_6 (T16 6).1 (envOf (T16 6).2 [(AV.one (V1.s (SV.ptr p0))), (AV.one (V1.s (SV.ptr p4))), (AV.one (V1.s (SV.ptr p5))), (AV.one (V1.s (SV.bool c13)))]) S K := by kernel_rfl
noncomputable def F16_q25 (D J : Disp) (S : St) (p0 : PV) (x402 : Int) (x408 : Int) (x414 : Int) (x420 : Int) (x429 : Int) (x435 : Int) (x441 : Int) (x447 : Int) (K : AV → St → Prop) : Prop :=
 letK (α := (Sum Nat Nat)) ((Sum.inl 2)) fun d448 =>
 letK (α := St) ((St.add S (AO.cells [(SV.int IntKind.i64 x402), (SV.int IntKind.i64 x408), (SV.int IntKind.i64 x414), (SV.int IntKind.i64 x420), (SV.int IntKind.i64 x429), (SV.int IntKind.i64 x435), (SV.int IntKind.i64 x441), (SV.int IntKind.i64 x447)] Op2.sh))) fun S449 =>
 letK (α := Int) ((Int.ofNat (LV.len (LV.mk (Bk.new (St.next S)) 0 2 d448)))) fun x450 =>
 J 18 [(AV.one (V1.s (SV.ptr p0))), (AV.one (V1.s (SV.sl (LV.mk (Bk.new (St.next S)) 0 2 d448)))), (AV.one (V1.s (SV.int IntKind.i64 x450))), (AV.one (V1.s (SV.int IntKind.i64 (0 : Int))))] S449 K
noncomputable def F16_q26 (D J : Disp) (S : St) (p0 : PV) (p4 : PV) (p5 : PV) (K : AV → St → Prop) : Prop :=
 PV.cs p4 fun b394 n395 =>
 St.at S b394 n395 fun y396 =>
 uncK y396 fun v397 y398 =>
 SV.cI IntKind.i64 v397 fun x402 =>
 uncK y398 fun v403 y404 =>
 SV.cI IntKind.i64 v403 fun x408 =>
 uncK y404 fun v409 y410 =>
 SV.cI IntKind.i64 v409 fun x414 =>
 uncK y410 fun v415 y416 =>
 SV.cI IntKind.i64 v415 fun x420 =>
 PV.cs p5 fun b421 n422 =>
 St.at S b421 n422 fun y423 =>
 uncK y423 fun v424 y425 =>
 SV.cI IntKind.i64 v424 fun x429 =>
 uncK y425 fun v430 y431 =>
 SV.cI IntKind.i64 v430 fun x435 =>
 uncK y431 fun v436 y437 =>
 SV.cI IntKind.i64 v436 fun x441 =>
 uncK y437 fun v442 y443 =>
 SV.cI IntKind.i64 v442 fun x447 =>
 F16_q25 D J S p0 x402 x408 x414 x420 x429 x435 x441 x447 K
noncomputable def F16_q27 (D J : Disp) (S : St) (p0 : PV) (p4 : PV) (p5 : PV) (c362 : Bool) (K : AV → St → Prop) : Prop :=
 ifK c362
 (PV.cs p4 fun b363 n364 =>
 letK (α := Nat) ((n364 + 3)) fun n365 =>
 St.at S b363 n365 fun y366 =>
 uncK y366 fun v367 y368 =>
 SV.cI IntKind.i64 v367 fun x372 =>
 PV.cs p5 fun b373 n374 =>
 letK (α := Nat) ((n374 + 3)) fun n375 =>
 St.at S b373 n375 fun y376 =>
 uncK y376 fun v377 y378 =>
 SV.cI IntKind.i64 v377 fun x382 =>
 letK (α := Bool) ((ieq x372 x382)) fun c383 =>
 K ((AV.tup [(V1.s (SV.bool c383)), (V1.s (SV.bool Bool.true))])) S)
 (F16_q26 D J S p0 p4 p5 K)
noncomputable def F16_q28 (D J : Disp) (S : St) (p0 : PV) (p4 : PV) (p5 : PV) (c310 : Bool) (K : AV → St → Prop) : Prop :=
 ifK c310
 (PV.cs p4 fun b311 n312 =>
 letK (α := Nat) ((n312 + 1)) fun n313 =>
 St.at S b311 n313 fun y314 =>
 uncK y314 fun v315 y316 =>
 SV.cI IntKind.i64 v315 fun x320 =>
 PV.cs p5 fun b321 n322 =>
 letK (α := Nat) ((n322 + 1)) fun n323 =>
 St.at S b321 n323 fun y324 =>
 uncK y324 fun v325 y326 =>
 SV.cI IntKind.i64 v325 fun x330 =>
 letK (α := Bool) ((ieq x320 x330)) fun c331 =>
 K ((AV.tup [(V1.s (SV.bool c331)), (V1.s (SV.bool Bool.true))])) S)
 (PV.cs p4 fun b342 n343 =>
 letK (α := Nat) ((n343 + 2)) fun n344 =>
 St.at S b342 n344 fun y345 =>
 uncK y345 fun v346 y347 =>
 SV.cI IntKind.i64 v346 fun x351 =>
 PV.cs p5 fun b352 n353 =>
 letK (α := Nat) ((n353 + 2)) fun n354 =>
 St.at S b352 n354 fun y355 =>
 uncK y355 fun v356 y357 =>
 SV.cI IntKind.i64 v356 fun x361 =>
 letK (α := Bool) ((ieq x351 x361)) fun c362 =>
 F16_q27 D J S p0 p4 p5 c362 K)
noncomputable def F16_9 (D J : Disp) (p0 : PV) (p4 : PV) (p5 : PV) (c30 : Bool) (S : St) (K : AV → St → Prop) : Prop :=
 ifK c30
 (K ((AV.tup [(V1.s (SV.bool Bool.false)), (V1.s (SV.bool Bool.false))])) S)
 (PV.cs p4 fun b300 n301 =>
 letK (α := Nat) ((n301 + 0)) fun n302 =>
 St.at S b300 n302 fun y303 =>
 uncK y303 fun v304 y305 =>
 SV.cI IntKind.i64 v304 fun x309 =>
 letK (α := Bool) ((Bool.not (ieq x309 (2 : Int)))) fun c310 =>
 F16_q28 D J S p0 p4 p5 c310 K)
noncomputable def X16_9 : X := (.br (.op .ret) (.op (.br (.op .ret) (.op (.br (.op .ret) (.op (.jmp 18 [0, 68, 69, 70])))))))
theorem F16_9_eq (D J : Disp) (p0 : PV) (p4 : PV) (p5 : PV) (c30 : Bool) (S : St) (K : AV → St → Prop) : F16_9 D J p0 p4 p5 c30 S K = execK MemP MemG Go.Proofs.Try.f16 (typed MemP D) J plans16 X16_9 (T16 9).1 (envOf (T16 9).2 [(AV.one (V1.s (SV.ptr p0))), (AV.one (V1.s (SV.ptr p4))), (AV.one (V1.s (SV.ptr p5))), (AV.one (V1.s (SV.bool c30)))]) S K := by kernel_rfl
noncomputable def F16_q29 (D J : Disp) (S : St) (p0 : PV) (l68 : LV) (x69 : Int) (x70 : Int) (S372 : St) (x385 : Int) (x392 : Int) (K : AV → St → Prop) : Prop :=
 D 12 [(AV.one (V1.s (SV.ptr p0))), (AV.one (V1.s (SV.int IntKind.i64 x392)))] S372 fun v393 S394 =>
 scK v393 fun v396 =>
 SV.cI IntKind.i64 v396 fun x399 =>
 St.at S394 (Bk.new (St.next S)) 3 fun y400 =>
 uncK y400 fun v401 y402 =>
 SV.cI IntKind.i64 v401 fun x406 =>
 req (sameAV (AV.one (V1.s (SV.int IntKind.i64 x406))) (AV.one (V1.s (SV.int IntKind.i64 x385)))) <|
 letK (α := Bool) ((ieq x385 x399)) fun c407 =>
 J 22 [(AV.one (V1.s (SV.ptr p0))), (AV.one (V1.s (SV.sl l68))), (AV.one (V1.s (SV.int IntKind.i64 x69))), (AV.one (V1.s (SV.int IntKind.i64 x70))), (AV.one (V1.s (SV.bool c407)))] S394 K
noncomputable def F16_q30 (D J : Disp) (S : St) (p0 : PV) (l68 : LV) (x69 : Int) (x70 : Int) (S372 : St) (c378 : Bool) (K : AV → St → Prop) : Prop :=
 ifK c378
 (J 22 [(AV.one (V1.s (SV.ptr p0))), (AV.one (V1.s (SV.sl l68))), (AV.one (V1.s (SV.int IntKind.i64 x69))), (AV.one (V1.s (SV.int IntKind.i64 x70))), (AV.one (V1.s (SV.bool Bool.true)))] S372 K)
 (St.at S372 (Bk.new (St.next S)) 3 fun y379 =>
 uncK y379 fun v380 y381 =>
 SV.cI IntKind.i64 v380 fun x385 =>
 St.at S372 (Bk.new (St.next S)) 2 fun y386 =>
 uncK y386 fun v387 y388 =>
 SV.cI IntKind.i64 v387 fun x392 =>
 F16_q29 D J S p0 l68 x69 x70 S372 x385 x392 K)
noncomputable def F16_q31 (D J : Disp) (S : St) (p0 : PV) (l68 : LV) (x69 : Int) (x70 : Int) (S359 : St) (c363 : Bool) (K : AV → St → Prop) : Prop :=
 ifK c363
 (St.at S359 (Bk.new (St.next S)) 2 fun y364 =>
 uncK y364 fun v365 y366 =>
 SV.cI IntKind.i64 v365 fun x370 =>
 D 12 [(AV.one (V1.s (SV.ptr p0))), (AV.one (V1.s (SV.int IntKind.i64 x370)))] S359 fun v371 S372 =>
 scK v371 fun v374 =>
 SV.cI IntKind.i64 v374 fun x377 =>
 letK (α := Bool) ((ieq x377 (0 : Int))) fun c378 =>
 F16_q30 D J S p0 l68 x69 x70 S372 c378 K)
 (J 22 [(AV.one (V1.s (SV.ptr p0))), (AV.one (V1.s (SV.sl l68))), (AV.one (V1.s (SV.int IntKind.i64 x69))), (AV.one (V1.s (SV.int IntKind.i64 x70))), (AV.one (V1.s (SV.bool Bool.false)))] S359 K)
noncomputable def F16_q32 (D J : Disp) (S : St) (p0 : PV) (l68 : LV) (x69 : Int) (x70 : Int) (S332 : St) (K : AV → St → Prop) : Prop :=
 St.at S332 (Bk.new (St.next S)) 0 fun y333 =>
 uncK y333 fun v334 y335 =>
 SV.cI IntKind.i64 v334 fun x339 =>
 uncK y335 fun v340 y341 =>
 SV.cI IntKind.i64 v340 fun x345 =>
 uncK y341 fun v346 y347 =>
 SV.cI IntKind.i64 v346 fun x351 =>
 uncK y347 fun v352 y353 =>
 SV.cI IntKind.i64 v352 fun x357 =>
 D 20 [(AV.one (V1.agg [(SV.int IntKind.i64 x339), (SV.int IntKind.i64 x345), (SV.int IntKind.i64 x351), (SV.int IntKind.i64 x357)]))] S332 fun v358 S359 =>
 scK v358 fun v361 =>
 SV.cB v361 fun y362 =>
 letK (α := Bool) ((Bool.not y362)) fun c363 =>
 F16_q31 D J S p0 l68 x69 x70 S359 c363 K
noncomputable def F16_q33 (D J : Disp) (S : St) (p0 : PV) (l68 : LV) (x69 : Int) (x70 : Int) (b301 : Bk) (n305 : Nat) (K : AV → St → Prop) : Prop :=
 St.at S b301 n305 fun y306 =>
 uncK y306 fun v307 y308 =>
 SV.cI IntKind.i64 v307 fun x312 =>
 uncK y308 fun v313 y314 =>
 SV.cI IntKind.i64 v313 fun x318 =>
 uncK y314 fun v319 y320 =>
 SV.cI IntKind.i64 v319 fun x324 =>
 uncK y320 fun v325 y326 =>
 SV.cI IntKind.i64 v325 fun x330 =>
 letK (α := St) ((St.add S (AO.cells [(SV.int IntKind.i64 (0 : Int)), (SV.int IntKind.i64 (0 : Int)), (SV.int IntKind.i64 (0 : Int)), (SV.int IntKind.i64 (0 : Int))] (Op2.ty 34)))) fun S331 =>
 St.wr S331 (Bk.new (St.next S)) 0 [(SV.int IntKind.i64 x312), (SV.int IntKind.i64 x318), (SV.int IntKind.i64 x324), (SV.int IntKind.i64 x330)] fun S332 =>
 F16_q32 D J S p0 l68 x69 x70 S332 K
noncomputable def F16_18 (D J : Disp) (p0 : PV) (l68 : LV) (x69 : Int) (x70 : Int) (S : St) (K : AV → St → Prop) : Prop :=
 letK (α := Bool) ((ilt x70 x69)) fun c300 =>
 ifK c300
 (LV.cs l68 fun b301 n302 n303 y304 =>
 req (Bool.and (ile (0 : Int) x70) (ilt x70 (Int.ofNat n303))) <|
 letK (α := Nat) ((n302 + ((Int.toNat x70) * 4))) fun n305 =>
 F16_q33 D J S p0 l68 x69 x70 b301 n305 K)
 (K ((AV.tup [(V1.s (SV.bool Bool.false)), (V1.s (SV.bool Bool.true))])) S)
noncomputable def X16_18 : X := (.op (.br (.op (.op (.jmp 22 [0, 68, 69, 70, 92]))) (.op .ret)))
theorem F16_18_eq (D J : Disp) (p0 : PV) (l68 : LV) (x69 : Int) (x70 : Int) (S : St) (K : AV → St → Prop) : F16_18 D J p0 l68 x69 x70 S K = execK MemP MemG Go.Proofs.Try.f16 (typed MemP D) J plans16 X16_18 (T16 18).1 (envOf (T16 18).2 [(AV.one (V1.s (SV.ptr p0))), (AV.one (V1.s (SV.sl l68))), (AV.one (V1.s (SV.int IntKind.i64 x69))), (AV.one (V1.s (SV.int IntKind.i64 x70)))]) S K := by kernel_rfl
noncomputable def F16_22 (D J : Disp) (p0 : PV) (l68 : LV) (x69 : Int) (x70 : Int) (c92 : Bool) (S : St) (K : AV → St → Prop) : Prop :=
 ifK c92
 (K ((AV.tup [(V1.s (SV.bool Bool.false)), (V1.s (SV.bool Bool.false))])) S)
 (letK (α := Int) ((iwrap IntKind.i64 (x70 + (1 : Int)))) fun x300 =>
 J 18 [(AV.one (V1.s (SV.ptr p0))), (AV.one (V1.s (SV.sl l68))), (AV.one (V1.s (SV.int IntKind.i64 x69))), (AV.one (V1.s (SV.int IntKind.i64 x300)))] S K)
noncomputable def X16_22 : X := (.br (.op .ret) (.op (.jmp 18 [0, 68, 69, 70])))
theorem F16_22_eq (D J : Disp) (p0 : PV) (l68 : LV) (x69 : Int) (x70 : Int) (c92 : Bool) (S : St) (K : AV → St → Prop) : F16_22 D J p0 l68 x69 x70 c92 S K = execK MemP MemG Go.Proofs.Try.f16 (typed MemP D) J plans16 X16_22 (T16 22).1 (envOf (T16 22).2 [(AV.one (V1.s (SV.ptr p0))), (AV.one (V1.s (SV.sl l68))), (AV.one (V1.s (SV.int IntKind.i64 x69))), (AV.one (V1.s (SV.int IntKind.i64 x70))), (AV.one (V1.s (SV.bool c92)))]) S K := by kernel_rfl
noncomputable abbrev A16_0 (D J : Disp) (vals : List AV) (S : St) (K : AV → St → Prop) : Prop :=
  uncA vals fun a9001 r9002 => scK a9001 fun s9004 => SV.cP s9004 fun p0 => uncA r9002 fun a9007 r9008 => avA a9007 fun l9010 => uncK l9010 fun s9012 r9013 => SV.cI IntKind.i64 s9012 fun x1_0 => uncK r9013 fun s9016 r9017 => SV.cI IntKind.i64 s9016 fun x1_1 => uncK r9017 fun s9020 r9021 => SV.cI IntKind.i64 s9020 fun x1_2 => uncK r9021 fun s9024 r9025 => SV.cI IntKind.i64 s9024 fun x1_3 => endL r9025 <| uncA r9008 fun a9029 r9030 => avA a9029 fun l9032 => uncK l9032 fun s9034 r9035 => SV.cI IntKind.i64 s9034 fun x2_0 => uncK r9035 fun s9038 r9039 => SV.cI IntKind.i64 s9038 fun x2_1 => uncK r9039 fun s9042 r9043 => SV.cI IntKind.i64 s9042 fun x2_2 => uncK r9043 fun s9046 r9047 => SV.cI IntKind.i64 s9046 fun x2_3 => endL r9047 <| endL r9030 <| F16_0 D J p0 x1_0 x1_1 x1_2 x1_3 x2_0 x2_1 x2_2 x2_3 S K
theorem A16_0_ok {D J : Disp} (hD : DOK MemP MemG D) (hJ : JOK MemP MemG Go.Proofs.Try.f16 T16 J) {vals : List AV} {S : St} {K : AV → St → Prop} (h0 : A16_0 D J vals S K) : Runs MemP MemG Go.Proofs.Try.f16 (T16 0).1 (envOf (T16 0).2 vals) S K := by
  obtain ⟨a9001, r9002, rfl, h3⟩ := uncA_some h0
  obtain ⟨s9004, rfl, h5⟩ := scK_some h3
  obtain ⟨p0, rfl, h6⟩ := cP_some h5
  obtain ⟨a9007, r9008, rfl, h9⟩ := uncA_some h6
  obtain ⟨l9010, rfl, h11⟩ := avA_some h9
  obtain ⟨s9012, r9013, rfl, h14⟩ := uncK_some h11
  obtain ⟨x1_0, rfl, h15⟩ := cI_some h14
  obtain ⟨s9016, r9017, rfl, h18⟩ := uncK_some h15
  obtain ⟨x1_1, rfl, h19⟩ := cI_some h18
  obtain ⟨s9020, r9021, rfl, h22⟩ := uncK_some h19
  obtain ⟨x1_2, rfl, h23⟩ := cI_some h22
  obtain ⟨s9024, r9025, rfl, h26⟩ := uncK_some h23
  obtain ⟨x1_3, rfl, h27⟩ := cI_some h26
  obtain ⟨rfl, h28⟩ := endL_some h27
  obtain ⟨a9029, r9030, rfl, h31⟩ := uncA_some h28
  obtain ⟨l9032, rfl, h33⟩ := avA_some h31
  obtain ⟨s9034, r9035, rfl, h36⟩ := uncK_some h33
  obtain ⟨x2_0, rfl, h37⟩ := cI_some h36
  obtain ⟨s9038, r9039, rfl, h40⟩ := uncK_some h37
  obtain ⟨x2_1, rfl, h41⟩ := cI_some h40
  obtain ⟨s9042, r9043, rfl, h44⟩ := uncK_some h41
  obtain ⟨x2_2, rfl, h45⟩ := cI_some h44
  obtain ⟨s9046, r9047, rfl, h48⟩ := uncK_some h45
  obtain ⟨x2_3, rfl, h49⟩ := cI_some h48
  obtain ⟨rfl, h50⟩ := endL_some h49
  obtain ⟨rfl, h51⟩ := endL_some h50
  rw [F16_0_eq] at h51
  exact execK_runs hD.typed Mem_zero Mem_mixed hJ X16_0 (T16 0).1 (envOf (T16 0).2 _) S K (chk_of (by kernel_rfl) (by kernel_rfl)) h51
noncomputable abbrev A16_6 (D J : Disp) (vals : List AV) (S : St) (K : AV → St → Prop) : Prop :=
  uncA vals fun a9001 r9002 => scK a9001 fun s9004 => SV.cP s9004 fun p0 => uncA r9002 fun a9007 r9008 => scK a9007 fun s9010 => SV.cP s9010 fun p4 => uncA r9008 fun a9013 r9014 => scK a9013 fun s9016 => SV.cP s9016 fun p5 => uncA r9014 fun a9019 r9020 => scK a9019 fun s9022 => SV.cB s9022 fun c13 => endL r9020 <| F16_6 D J p0 p4 p5 c13 S K
theorem A16_6_ok {D J : Disp} (hD : DOK MemP MemG D) (hJ : JOK MemP MemG Go.Proofs.Try.f16 T16 J) {vals : List AV} {S : St} {K : AV → St → Prop} (h0 : A16_6 D J vals S K) : Runs MemP MemG Go.Proofs.Try.f16 (T16 6).1 (envOf (T16 6).2 vals) S K := by
  obtain ⟨a9001, r9002, rfl, h3⟩ := uncA_some h0
  obtain ⟨s9004, rfl, h5⟩ := scK_some h3
  obtain ⟨p0, rfl, h6⟩ := cP_some h5
  obtain ⟨a9007, r9008, rfl, h9⟩ := uncA_some h6
  obtain ⟨s9010, rfl, h11⟩ := scK_some h9
  obtain ⟨p4, rfl, h12⟩ := cP_some h11
  obtain ⟨a9013, r9014, rfl, h15⟩ := uncA_some h12
  obtain ⟨s9016, rfl, h17⟩ := scK_some h15
  obtain ⟨p5, rfl, h18⟩ := cP_some h17
  obtain ⟨a9019, r9020, rfl, h21⟩ := uncA_some h18
  obtain ⟨s9022, rfl, h23⟩ := scK_some h21
  obtain ⟨c13, rfl, h24⟩ := cB_some h23
  obtain ⟨rfl, h25⟩ := endL_some h24
  rw [F16_6_eq] at h25
  exact execK_runs hD.typed Mem_zero Mem_mixed hJ X16_6 (T16 6).1 (envOf (T16 6).2 _) S K (chk_of (by kernel_rfl) (by kernel_rfl)) h25
noncomputable abbrev A16_9 (D J : Disp) (vals : List AV) (S : St) (K : AV → St → Prop) : Prop :=
  uncA vals fun a9001 r9002 => scK a9001 fun s9004 => SV.cP s9004 fun p0 => uncA r9002 fun a9007 r9008 => scK a9007 fun s9010 => SV.cP s9010 fun p4 => uncA r9008 fun a9013 r9014 => scK a9013 fun s9016 => SV.cP s9016 fun p5 => uncA r9014 fun a9019 r9020 => scK a9019 fun s9022 => SV.cB s9022 fun c30 => endL r9020 <| F16_9 D J p0 p4 p5 c30 S K
theorem A16_9_ok {D J : Disp} (hD : DOK MemP MemG D) (hJ : JOK MemP MemG Go.Proofs.Try.f16 T16 J) {vals : List AV} {S : St} {K : AV → St → Prop} (h0 : A16_9 D J vals S K) : Runs MemP MemG Go.Proofs.Try.f16 (T16 9).1 (envOf (T16 9).2 vals) S K := by
  obtain ⟨a9001, r9002, rfl, h3⟩ := uncA_some h0
  obtain ⟨s9004, rfl, h5⟩ := scK_some h3
  obtain ⟨p0, rfl, h6⟩ := cP_some h5
  obtain ⟨a9007, r9008, rfl, h9⟩ := uncA_some h6
  obtain ⟨s9010, rfl, h11⟩ := scK_some h9
  obtain ⟨p4, rfl, h12⟩ := cP_some h11
  obtain ⟨a9013, r9014, rfl, h15⟩ := uncA_some h12
  obtain ⟨s9016, rfl, h17⟩ := scK_some h15
  obtain ⟨p5, rfl, h18⟩ := cP_some h17
  obtain ⟨a9019, r9020, rfl, h21⟩ := uncA_some h18
  obtain ⟨s9022, rfl, h23⟩ := scK_some h21
  obtain ⟨c30, rfl, h24⟩ := cB_some h23
  obtain ⟨rfl, h25⟩ := endL_some h24
  rw [F16_9_eq] at h25
  exact execK_runs hD.typed Mem_zero Mem_mixed hJ X16_9 (T16 9).1 (envOf (T16 9).2 _) S K (chk_of (by kernel_rfl) (by kernel_rfl)) h25
noncomputable abbrev A16_18 (D J : Disp) (vals : List AV) (S : St) (K : AV → St → Prop) : Prop :=
  uncA vals fun a9001 r9002 => scK a9001 fun s9004 => SV.cP s9004 fun p0 => uncA r9002 fun a9007 r9008 => scK a9007 fun s9010 => SV.cL s9010 fun l68 => uncA r9008 fun a9013 r9014 => scK a9013 fun s9016 => SV.cI IntKind.i64 s9016 fun x69 => uncA r9014 fun a9019 r9020 => scK a9019 fun s9022 => SV.cI IntKind.i64 s9022 fun x70 => endL r9020 <| F16_18 D J p0 l68 x69 x70 S K
theorem A16_18_ok {D J : Disp} (hD : DOK MemP MemG D) (hJ : JOK MemP MemG Go.Proofs.Try.f16 T16 J) {vals : List AV} {S : St} {K : AV → St → Prop} (h0 : A16_18 D J vals S K) : Runs MemP MemG Go.Proofs.Try.f16 (T16 18).1 (envOf (T16 18).2 vals) S K := by
  obtain ⟨a9001, r9002, rfl, h3⟩ := uncA_some h0
  obtain ⟨s9004, rfl, h5⟩ := scK_some h3
  obtain ⟨p0, rfl, h6⟩ := cP_some h5
  obtain ⟨a9007, r9008, rfl, h9⟩ := uncA_some h6
  obtain ⟨s9010, rfl, h11⟩ := scK_some h9
  obtain ⟨l68, rfl, h12⟩ := cL_some h11
  obtain ⟨a9013, r9014, rfl, h15⟩ := uncA_some h12
  obtain ⟨s9016, rfl, h17⟩ := scK_some h15
  obtain ⟨x69, rfl, h18⟩ := cI_some h17
  obtain ⟨a9019, r9020, rfl, h21⟩ := uncA_some h18
  obtain ⟨s9022, rfl, h23⟩ := scK_some h21
  obtain ⟨x70, rfl, h24⟩ := cI_some h23
  obtain ⟨rfl, h25⟩ := endL_some h24
  rw [F16_18_eq] at h25
  exact execK_runs hD.typed Mem_zero Mem_mixed hJ X16_18 (T16 18).1 (envOf (T16 18).2 _) S K (chk_of (by kernel_rfl) (by kernel_rfl)) h25
noncomputable abbrev A16_22 (D J : Disp) (vals : List AV) (S : St) (K : AV → St → Prop) : Prop :=
  uncA vals fun a9001 r9002 => scK a9001 fun s9004 => SV.cP s9004 fun p0 => uncA r9002 fun a9007 r9008 => scK a9007 fun s9010 => SV.cL s9010 fun l68 => uncA r9008 fun a9013 r9014 => scK a9013 fun s9016 => SV.cI IntKind.i64 s9016 fun x69 => uncA r9014 fun a9019 r9020 => scK a9019 fun s9022 => SV.cI IntKind.i64 s9022 fun x70 => uncA r9020 fun a9025 r9026 => scK a9025 fun s9028 => SV.cB s9028 fun c92 => endL r9026 <| F16_22 D J p0 l68 x69 x70 c92 S K
theorem A16_22_ok {D J : Disp} (hD : DOK MemP MemG D) (hJ : JOK MemP MemG Go.Proofs.Try.f16 T16 J) {vals : List AV} {S : St} {K : AV → St → Prop} (h0 : A16_22 D J vals S K) : Runs MemP MemG Go.Proofs.Try.f16 (T16 22).1 (envOf (T16 22).2 vals) S K := by
  obtain ⟨a9001, r9002, rfl, h3⟩ := uncA_some h0
  obtain ⟨s9004, rfl, h5⟩ := scK_some h3
  obtain ⟨p0, rfl, h6⟩ := cP_some h5
  obtain ⟨a9007, r9008, rfl, h9⟩ := uncA_some h6
  obtain ⟨s9010, rfl, h11⟩ := scK_some h9
  obtain ⟨l68, rfl, h12⟩ := cL_some h11
  obtain ⟨a9013, r9014, rfl, h15⟩ := uncA_some h12
  obtain ⟨s9016, rfl, h17⟩ := scK_some h15
  obtain ⟨x69, rfl, h18⟩ := cI_some h17
  obtain ⟨a9019, r9020, rfl, h21⟩ := uncA_some h18
  obtain ⟨s9022, rfl, h23⟩ := scK_some h21
  obtain ⟨x70, rfl, h24⟩ := cI_some h23
  obtain ⟨a9025, r9026, rfl, h27⟩ := uncA_some h24
  obtain ⟨s9028, rfl, h29⟩ := scK_some h27
  obtain ⟨c92, rfl, h30⟩ := cB_some h29
  obtain ⟨rfl, h31⟩ := endL_some h30
  rw [F16_22_eq] at h31
  exact execK_runs hD.typed Mem_zero Mem_mixed hJ X16_22 (T16 22).1 (envOf (T16 22).2 _) S K (chk_of (by kernel_rfl) (by kernel_rfl)) h31
noncomputable def J16 (D : Disp) (k : Nat) : Disp := Nat.rec (motive := fun _ => Disp) Disp.no (fun _ ih => Disp.add 0 (A16_0 D ih) <| Disp.add 6 (A16_6 D ih) <| Disp.add 9 (A16_9 D ih) <| Disp.add 18 (A16_18 D ih) <| Disp.add 22 (A16_22 D ih) <| Disp.no) k
theorem J16_ok {D : Disp} (hD : DOK MemP MemG D) : ∀ k, JOK MemP MemG Go.Proofs.Try.f16 T16 (J16 D k)
  | 0 => JOK.no
  | k + 1 => JOK.add (ltB_ok (by kernel_rfl)) (fun vals S K h => A16_0_ok hD (J16_ok hD k) h) <| JOK.add (ltB_ok (by kernel_rfl)) (fun vals S K h => A16_6_ok hD (J16_ok hD k) h) <| JOK.add (ltB_ok (by kernel_rfl)) (fun vals S K h => A16_9_ok hD (J16_ok hD k) h) <| JOK.add (ltB_ok (by kernel_rfl)) (fun vals S K h => A16_18_ok hD (J16_ok hD k) h) <| JOK.add (ltB_ok (by kernel_rfl)) (fun vals S K h => A16_22_ok hD (J16_ok hD k) h) <| JOK.no
theorem E16_ok {D : Disp} (hD : DOK MemP MemG D) (k : Nat) {args : List AV} {S : St} {K : AV → St → Prop} (h : A16_0 D (J16 D k) args S K) : CallE MemP MemG 16 args S K := by
  have hr := A16_0_ok hD (J16_ok hD k) h
  have hl : args.length = 3 := by
    have h0 := h
    obtain ⟨a9001, r9002, rfl, h3⟩ := uncA_some h0
    obtain ⟨s9004, rfl, h5⟩ := scK_some h3
    obtain ⟨p0, rfl, h6⟩ := cP_some h5
    obtain ⟨a9007, r9008, rfl, h9⟩ := uncA_some h6
    obtain ⟨l9010, rfl, h11⟩ := avA_some h9
    obtain ⟨s9012, r9013, rfl, h14⟩ := uncK_some h11
    obtain ⟨x1_0, rfl, h15⟩ := cI_some h14
    obtain ⟨s9016, r9017, rfl, h18⟩ := uncK_some h15
    obtain ⟨x1_1, rfl, h19⟩ := cI_some h18
    obtain ⟨s9020, r9021, rfl, h22⟩ := uncK_some h19
    obtain ⟨x1_2, rfl, h23⟩ := cI_some h22
    obtain ⟨s9024, r9025, rfl, h26⟩ := uncK_some h23
    obtain ⟨x1_3, rfl, h27⟩ := cI_some h26
    obtain ⟨rfl, h28⟩ := endL_some h27
    obtain ⟨a9029, r9030, rfl, h31⟩ := uncA_some h28
    obtain ⟨l9032, rfl, h33⟩ := avA_some h31
    obtain ⟨s9034, r9035, rfl, h36⟩ := uncK_some h33
    obtain ⟨x2_0, rfl, h37⟩ := cI_some h36
    obtain ⟨s9038, r9039, rfl, h40⟩ := uncK_some h37
    obtain ⟨x2_1, rfl, h41⟩ := cI_some h40
    obtain ⟨s9042, r9043, rfl, h44⟩ := uncK_some h41
    obtain ⟨x2_2, rfl, h45⟩ := cI_some h44
    obtain ⟨s9046, r9047, rfl, h48⟩ := uncK_some h45
    obtain ⟨x2_3, rfl, h49⟩ := cI_some h48
    obtain ⟨rfl, h50⟩ := endL_some h49
    obtain ⟨rfl, h51⟩ := endL_some h50
    rfl
  refine callOK_of (fn := Go.Proofs.Try.f16) (c := (match Go.Proofs.Try.f16.body with | some c => c | none => .skip)) (by kernel_rfl) (by kernel_rfl) (by kernel_rfl) (by rw [hl]; kernel_rfl) (by kernel_rfl) ?_
  rw [hl]
  exact hr
noncomputable def plans17 (i : Nat) : Plan := if Nat.beq i 4 then [(0, []), (1, [0]), (2, [1, 0]), (3, [2, 1, 0]), (4, []), (5, [3, 4, 2, 1, 0]), (6, [5, 3, 4, 2, 1, 0]), (7, [6, 5, 3, 4, 2, 1, 0]), (8, [6, 5, 3, 4, 2, 1, 0]), (9, []), (10, [9, 7, 0, 1, 2, 3, 4, 5, 6]), (11, [8, 10, 0, 1, 2, 3, 4, 5, 6, 7, 9])] else if Nat.beq i 5 then [(0, []), (1, []), (2, []), (3, [2]), (4, [3, 2]), (5, [4, 3, 2]), (6, [3, 2]), (7, [5, 6, 3, 4, 2]), (8, [3, 7, 2, 5, 6, 4]), (9, [0, 3, 2]), (10, [1, 9, 0, 3, 2]), (11, [8, 10, 0, 1, 2, 3, 4, 5, 6, 7, 9])] else []
noncomputable def T17 (p : Nat) : List Item × List Nat := bif Nat.beq p 0 then ([.code (match Go.Proofs.Try.f17.body with | some c => c | none => .skip)], [0, 1, 2]) else
  bif Nat.beq p 2 then (navs [.op, .op] [.code (match Go.Proofs.Try.f17.body with | some c => c | none => .skip)], [0, 2, 4, 6, 7, 18]) else
  ([], [])
noncomputable def F17_q12 (D J : Disp) (S : St) (p0 : PV) (s2 : (List Nat)) (S300 : St) (S301 : St) (S302 : St) (K : AV → St → Prop) : Prop :=
 St.at S302 (Bk.new (St.next S)) 0 fun y304 =>
 uncK y304 fun v305 y306 =>
 SV.cI IntKind.i64 v305 fun x310 =>
 letK (α := Bool) ((Bool.not (ieq x310 (2 : Int)))) fun c311 =>
 J 2 [(AV.one (V1.s (SV.ptr p0))), (AV.one (V1.s (SV.str s2))), (AV.one (V1.s (SV.ptr (PV.mk (Bk.new (St.next S)) 0)))), (AV.one (V1.s (SV.ptr (PV.mk (Bk.new (St.next S300)) 0)))), (AV.one (V1.s (SV.ptr (PV.mk (Bk.new (St.next S301)) 0)))), (AV.one (V1.s (SV.bool c311)))] S302 K
noncomputable def F17_q13 (D J : Disp) (S : St) (p0 : PV) (s2 : (List Nat)) (S300 : St) (S301 : St) (K : AV → St → Prop) : Prop :=
 letK (α := St) ((St.add S301 (AO.cells [(SV.str []), (SV.int IntKind.i64 (0 : Int)), (SV.int IntKind.i64 (0 : Int)), (SV.int IntKind.i64 (0 : Int)), (SV.int IntKind.i64 (0 : Int))] (Op2.ty 56)))) fun S302 =>
 optK (eqA MemP 1 25 (V1.s (SV.ptr p0)) (V1.s (SV.ptr PV.nil))) fun y303 =>
 ifK y303
 (J 2 [(AV.one (V1.s (SV.ptr p0))), (AV.one (V1.s (SV.str s2))), (AV.one (V1.s (SV.ptr (PV.mk (Bk.new (St.next S)) 0)))), (AV.one (V1.s (SV.ptr (PV.mk (Bk.new (St.next S300)) 0)))), (AV.one (V1.s (SV.ptr (PV.mk (Bk.new (St.next S301)) 0)))), (AV.one (V1.s (SV.bool Bool.true)))] S302 K)
 (F17_q12 D J S p0 s2 S300 S301 S302 K)
noncomputable def F17_0 (D J : Disp) (p0 : PV) (x1_0 : Int) (x1_1 : Int) (x1_2 : Int) (x1_3 : Int) (s2 : (List Nat)) (S : St) (K : AV → St → Prop) : Prop :=
 letK (α := St) ((St.add S (AO.cells [(SV.int IntKind.i64 x1_0), (SV.int IntKind.i64 x1_1), (SV.int IntKind.i64 x1_2), (SV.int IntKind.i64 x1_3)] (Op2.ty 34)))) fun S300 =>
 letK (α := St) ((St.add S300 (AO.cells [(SV.int IntKind.i64 (0 : Int)), (SV.int IntKind.i64 (0 : Int))] (Op2.ty 54)))) fun S301 =>
 F17_q13 D J S p0 s2 S300 S301 K
noncomputable def X17_0 : X := (.op (.op (.jmp 2 [0, 2, 4, 6, 7, 18])))
theorem F17_0_eq (D J : Disp) (p0 : PV) (x1_0 : Int) (x1_1 : Int) (x1_2 : Int) (x1_3 : Int) (s2 : (List Nat)) (S : St) (K : AV → St → Prop) : F17_0 D J p0 x1_0 x1_1 x1_2 x1_3 s2 S K = execK MemP MemG Go.Proofs.Try.f17 (typed MemP D) J plans17 X17_0 (T17 0).1 (envOf (T17 0).2 [(AV.one (V1.s (SV.ptr p0))), (AV.one (V1.agg [(SV.int IntKind.i64 x1_0), (SV.int IntKind.i64 x1_1), (SV.int IntKind.i64 x1_2), (SV.int IntKind.i64 x1_3)])), (AV.one (V1.s (SV.str s2)))]) S K := by kernel_rfl
noncomputable def F17_q14 (D J : Disp) (p6 : PV) (p7 : PV) (S305 : St) (K : AV → St → Prop) : Prop :=
 PV.cs p6 fun b306 n307 =>
 St.at S305 b306 n307 fun y308 =>
 uncK y308 fun v309 y310 =>
 SV.cI IntKind.i64 v309 fun x314 =>
 uncK y310 fun v315 y316 =>
 SV.cI IntKind.i64 v315 fun x320 =>
 PV.cs p7 fun b321 n322 =>
 St.at S305 b321 n322 fun y323 =>
 uncK y323 fun v324 y325 =>
 SV.cS v324 fun y330 =>
 uncK y325 fun v331 y332 =>
 SV.cI IntKind.i64 v331 fun x336 =>
 uncK y332 fun v337 y338 =>
 SV.cI IntKind.i64 v337 fun x342 =>
 uncK y338 fun v343 y344 =>
 SV.cI IntKind.i64 v343 fun x348 =>
 uncK y344 fun v349 y350 =>
 SV.cI IntKind.i64 v349 fun x354 =>
 K ((AV.tup [(V1.agg [(SV.int IntKind.i64 x314), (SV.int IntKind.i64 x320)]), (V1.agg [(SV.str y330), (SV.int IntKind.i64 x336), (SV.int IntKind.i64 x342), (SV.int IntKind.i64 x348), (SV.int IntKind.i64 x354)]), (V1.s (SV.bool Bool.false))])) S305
noncomputable def F17_q15 (D J : Disp) (p6 : PV) (p7 : PV) (c529 : Bool) (S575 : St) (K : AV → St → Prop) : Prop :=
 PV.cs p6 fun b584 n585 =>
 St.at S575 b584 n585 fun y586 =>
 uncK y586 fun v587 y588 =>
 SV.cI IntKind.i64 v587 fun x592 =>
 uncK y588 fun v593 y594 =>
 SV.cI IntKind.i64 v593 fun x598 =>
 PV.cs p7 fun b599 n600 =>
 St.at S575 b599 n600 fun y601 =>
 uncK y601 fun v602 y603 =>
 SV.cS v602 fun y608 =>
 uncK y603 fun v609 y610 =>
 SV.cI IntKind.i64 v609 fun x614 =>
 uncK y610 fun v615 y616 =>
 SV.cI IntKind.i64 v615 fun x620 =>
 uncK y616 fun v621 y622 =>
 SV.cI IntKind.i64 v621 fun x626 =>
 uncK y622 fun v627 y628 =>
 SV.cI IntKind.i64 v627 fun x632 =>
 K ((AV.tup [(V1.agg [(SV.int IntKind.i64 x592), (SV.int IntKind.i64 x598)]), (V1.agg [(SV.str y608), (SV.int IntKind.i64 x614), (SV.int IntKind.i64 x620), (SV.int IntKind.i64 x626), (SV.int IntKind.i64 x632)]), (V1.s (SV.bool c529))])) S575
noncomputable def F17_q16 (D J : Disp) (p6 : PV) (p7 : PV) (S410 : St) (S475 : St) (x482 : Int) (x488 : Int) (y496 : (List Nat)) (x502 : Int) (x508 : Int) (x514 : Int) (x520 : Int) (y528 : (List Nat)) (c529 : Bool) (K : AV → St → Prop) : Prop :=
 PV.cs p6 fun b530 n531 =>
 St.wr S475 b530 n531 [(SV.int IntKind.i64 x482), (SV.int IntKind.i64 x488)] fun S532 =>
 St.at S532 (Bk.new (St.next S410)) 0 fun y533 =>
 uncK y533 fun v534 y535 =>
 SV.cS v534 fun y540 =>
 req (sameAV (AV.one (V1.s (SV.str y540))) (AV.one (V1.s (SV.str y528)))) <|
 St.at S532 (Bk.new (St.next S410)) 0 fun y541 =>
 uncK y541 fun v542 y543 =>
 SV.cS v542 fun y548 =>
 uncK y543 fun v549 y550 =>
 SV.cI IntKind.i64 v549 fun x554 =>
 uncK y550 fun v555 y556 =>
 SV.cI IntKind.i64 v555 fun x560 =>
 uncK y556 fun v561 y562 =>
 SV.cI IntKind.i64 v561 fun x566 =>
 uncK y562 fun v567 y568 =>
 SV.cI IntKind.i64 v567 fun x572 =>
 req (sameAV (AV.one (V1.agg [(SV.str y548), (SV.int IntKind.i64 x554), (SV.int IntKind.i64 x560), (SV.int IntKind.i64 x566), (SV.int IntKind.i64 x572)])) (AV.one (V1.agg [(SV.str y496), (SV.int IntKind.i64 x502), (SV.int IntKind.i64 x508), (SV.int IntKind.i64 x514), (SV.int IntKind.i64 x520)]))) <|
 PV.cs p7 fun b573 n574 =>
 St.wr S532 b573 n574 [(SV.str y496), (SV.int IntKind.i64 x502), (SV.int IntKind.i64 x508), (SV.int IntKind.i64 x514), (SV.int IntKind.i64 x520)] fun S575 =>
 St.at S575 (Bk.new (St.next S410)) 0 fun y576 =>
 uncK y576 fun v577 y578 =>
 SV.cS v577 fun y583 =>
 req (sameAV (AV.one (V1.s (SV.str y583))) (AV.one (V1.s (SV.str y528)))) <|
 F17_q15 D J p6 p7 c529 S575 K
noncomputable def F17_q17 (D J : Disp) (p6 : PV) (p7 : PV) (S740 : St) (K : AV → St → Prop) : Prop :=
 PV.cs p6 fun b741 n742 =>
 St.at S740 b741 n742 fun y743 =>
 uncK y743 fun v744 y745 =>
 SV.cI IntKind.i64 v744 fun x749 =>
 uncK y745 fun v750 y751 =>
 SV.cI IntKind.i64 v750 fun x755 =>
 PV.cs p7 fun b756 n757 =>
 St.at S740 b756 n757 fun y758 =>
 uncK y758 fun v759 y760 =>
 SV.cS v759 fun y765 =>
 uncK y760 fun v766 y767 =>
 SV.cI IntKind.i64 v766 fun x771 =>
 uncK y767 fun v772 y773 =>
 SV.cI IntKind.i64 v772 fun x777 =>
 uncK y773 fun v778 y779 =>
 SV.cI IntKind.i64 v778 fun x783 =>
 uncK y779 fun v784 y785 =>
 SV.cI IntKind.i64 v784 fun x789 =>
 K ((AV.tup [(V1.agg [(SV.int IntKind.i64 x749), (SV.int IntKind.i64 x755)]), (V1.agg [(SV.str y765), (SV.int IntKind.i64 x771), (SV.int IntKind.i64 x777), (SV.int IntKind.i64 x783), (SV.int IntKind.i64 x789)]), (V1.s (SV.bool Bool.false))])) S740
noncomputable def F17_q18 (D J : Disp) (p6 : PV) (p7 : PV) (S410 : St) (S475 : St) (x482 : Int) (x488 : Int) (y496 : (List Nat)) (x502 : Int) (x508 : Int) (x514 : Int) (x520 : Int) (K : AV → St → Prop) : Prop :=
 PV.cs p6 fun b703 n704 =>
 St.wr S475 b703 n704 [(SV.int IntKind.i64 x482), (SV.int IntKind.i64 x488)] fun S705 =>
 St.at S705 (Bk.new (St.next S410)) 0 fun y706 =>
 uncK y706 fun v707 y708 =>
 SV.cS v707 fun y713 =>
 uncK y708 fun v714 y715 =>
 SV.cI IntKind.i64 v714 fun x719 =>
 uncK y715 fun v720 y721 =>
 SV.cI IntKind.i64 v720 fun x725 =>
 uncK y721 fun v726 y727 =>
 SV.cI IntKind.i64 v726 fun x731 =>
 uncK y727 fun v732 y733 =>
 SV.cI IntKind.i64 v732 fun x737 =>
 req (sameAV (AV.one (V1.agg [(SV.str y713), (SV.int IntKind.i64 x719), (SV.int IntKind.i64 x725), (SV.int IntKind.i64 x731), (SV.int IntKind.i64 x737)])) (AV.one (V1.agg [(SV.str y496), (SV.int IntKind.i64 x502), (SV.int IntKind.i64 x508), (SV.int IntKind.i64 x514), (SV.int IntKind.i64 x520)]))) <|
 PV.cs p7 fun b738 n739 =>
 St.wr S705 b738 n739 [(SV.str y496), (SV.int IntKind.i64 x502), (SV.int IntKind.i64 x508), (SV.int IntKind.i64 x514), (SV.int IntKind.i64 x520)] fun S740 =>
 F17_q17 D J p6 p7 S740 K
noncomputable def F17_q19 (D J : Disp) (s2 : (List Nat)) (p6 : PV) (p7 : PV) (S410 : St) (y439 : Bool) (S475 : St) (x482 : Int) (x488 : Int) (K : AV → St → Prop) : Prop :=
 St.at S475 (Bk.new (St.next S410)) 0 fun y489 =>
 uncK y489 fun v490 y491 =>
 SV.cS v490 fun y496 =>
 uncK y491 fun v497 y498 =>
 SV.cI IntKind.i64 v497 fun x502 =>
 uncK y498 fun v503 y504 =>
 SV.cI IntKind.i64 v503 fun x508 =>
 uncK y504 fun v509 y510 =>
 SV.cI IntKind.i64 v509 fun x514 =>
 uncK y510 fun v515 y516 =>
 SV.cI IntKind.i64 v515 fun x520 =>
 ifK y439
 (St.at S475 (Bk.new (St.next S410)) 0 fun y521 =>
 uncK y521 fun v522 y523 =>
 SV.cS v522 fun y528 =>
 letK (α := Bool) ((leq y528 s2)) fun c529 =>
 F17_q16 D J p6 p7 S410 S475 x482 x488 y496 x502 x508 x514 x520 y528 c529 K)
 (F17_q18 D J p6 p7 S410 S475 x482 x488 y496 x502 x508 x514 x520 K)
noncomputable def F17_q20 (D J : Disp) (S : St) (s2 : (List Nat)) (p6 : PV) (p7 : PV) (S410 : St) (y439 : Bool) (y448 : (List Nat)) (x454 : Int) (x460 : Int) (x466 : Int) (x472 : Int) (K : AV → St → Prop) : Prop :=
 letK (α := AO) ((AO.cells [(SV.str []), (SV.int IntKind.i64 (0 : Int)), (SV.int IntKind.i64 (0 : Int)), (SV.int IntKind.i64 (0 : Int)), (SV.int IntKind.i64 (0 : Int))] (Op2.ty 56))) fun o473 =>
 letK (α := St) ((St.add S410 o473)) fun S474 =>
 St.wr S474 (Bk.new (St.next S410)) 0 [(SV.str y448), (SV.int IntKind.i64 x454), (SV.int IntKind.i64 x460), (SV.int IntKind.i64 x466), (SV.int IntKind.i64 x472)] fun S475 =>
 St.at S475 (Bk.new (St.next S)) 0 fun y476 =>
 uncK y476 fun v477 y478 =>
 SV.cI IntKind.i64 v477 fun x482 =>
 uncK y478 fun v483 y484 =>
 SV.cI IntKind.i64 v483 fun x488 =>
 F17_q19 D J s2 p6 p7 S410 y439 S475 x482 x488 K
noncomputable def F17_q21 (D J : Disp) (S : St) (s2 : (List Nat)) (p6 : PV) (p7 : PV) (S410 : St) (y424 : MV) (x431 : Int) (x437 : Int) (K : AV → St → Prop) : Prop :=
 St.lookup MemP S410 54 (V1.agg [(SV.str []), (SV.int IntKind.i64 (0 : Int)), (SV.int IntKind.i64 (0 : Int)), (SV.int IntKind.i64 (0 : Int)), (SV.int IntKind.i64 (0 : Int))]) y424 (V1.agg [(SV.int IntKind.i64 x431), (SV.int IntKind.i64 x437)]) fun v438 y439 =>
 v1A v438 fun y441 =>
 req (Nat.beq (List.length y441) 5) <|
 uncK y441 fun v442 y443 =>
 SV.cS v442 fun y448 =>
 uncK y443 fun v449 y450 =>
 SV.cI IntKind.i64 v449 fun x454 =>
 uncK y450 fun v455 y456 =>
 SV.cI IntKind.i64 v455 fun x460 =>
 uncK y456 fun v461 y462 =>
 SV.cI IntKind.i64 v461 fun x466 =>
 uncK y462 fun v467 y468 =>
 SV.cI IntKind.i64 v467 fun x472 =>
 F17_q20 D J S s2 p6 p7 S410 y439 y448 x454 x460 x466 x472 K
noncomputable def F17_q22 (D J : Disp) (S : St) (p0 : PV) (s2 : (List Nat)) (p6 : PV) (p7 : PV) (x398 : Int) (x408 : Int) (S409 : St) (K : AV → St → Prop) : Prop :=
 St.wr S409 (Bk.new (St.next S)) 0 [(SV.int IntKind.i64 x398), (SV.int IntKind.i64 x408)] fun S410 =>
 PV.cs p0 fun b411 n412 =>
 letK (α := Nat) ((n412 + 2)) fun n413 =>
 St.at S410 b411 n413 fun y414 =>
 uncK y414 fun v415 y416 =>
 SV.cM v415 fun y424 =>
 St.at S410 (Bk.new (St.next S)) 0 fun y425 =>
 uncK y425 fun v426 y427 =>
 SV.cI IntKind.i64 v426 fun x431 =>
 uncK y427 fun v432 y433 =>
 SV.cI IntKind.i64 v432 fun x437 =>
 F17_q21 D J S s2 p6 p7 S410 y424 x431 x437 K
noncomputable def F17_q23 (D J : Disp) (S : St) (p0 : PV) (s2 : (List Nat)) (p4 : PV) (p6 : PV) (p7 : PV) (K : AV → St → Prop) : Prop :=
 PV.cs p4 fun b389 n390 =>
 letK (α := Nat) ((n390 + 2)) fun n391 =>
 St.at S b389 n391 fun y392 =>
 uncK y392 fun v393 y394 =>
 SV.cI IntKind.i64 v393 fun x398 =>
 PV.cs p4 fun b399 n400 =>
 letK (α := Nat) ((n400 + 3)) fun n401 =>
 St.at S b399 n401 fun y402 =>
 uncK y402 fun v403 y404 =>
 SV.cI IntKind.i64 v403 fun x408 =>
 letK (α := St) ((St.add S (AO.cells [(SV.int IntKind.i64 (0 : Int)), (SV.int IntKind.i64 (0 : Int))] (Op2.ty 54)))) fun S409 =>
 F17_q22 D J S p0 s2 p6 p7 x398 x408 S409 K
noncomputable def F17_2 (D J : Disp) (p0 : PV) (s2 : (List Nat)) (p4 : PV) (p6 : PV) (p7 : PV) (c18 : Bool) (S : St) (K : AV → St → Prop) : Prop :=
 ifK c18
 (PV.cs p6 fun b300 n301 =>
 St.wr S b300 n301 [(SV.int IntKind.i64 (0 : Int)), (SV.int IntKind.i64 (0 : Int))] fun S302 =>
 PV.cs p7 fun b303 n304 =>
 St.wr S302 b303 n304 [(SV.str []), (SV.int IntKind.i64 (0 : Int)), (SV.int IntKind.i64 (0 : Int)), (SV.int IntKind.i64 (0 : Int)), (SV.int IntKind.i64 (0 : Int))] fun S305 =>
 F17_q14 D J p6 p7 S305 K)
 (F17_q23 D J S p0 s2 p4 p6 p7 K)
noncomputable def X17_2 : X := (.br (.op .ret) (.op (.op (.op .ret))))
theorem F17_2_eq (D J : Disp) (p0 : PV) (s2 : (List Nat)) (p4 : PV) (p6 : PV) (p7 : PV) (c18 : Bool) (S : St) (K : AV → St → Prop) : F17_2 D J p0 s2 p4 p6 p7 c18 S K = execK MemP MemG Go.Proofs.Try.f17 (typed MemP D) J plans17 X17_2 (T17 2).1 (envOf (T17 2).2 [(AV.one (V1.s (SV.ptr p0))), (AV.one (V1.s (SV.str s2))), (AV.one (V1.s (SV.ptr p4))), (AV.one (V1.s (SV.ptr p6))), (AV.one (V1.s (SV.ptr p7))), (AV.one (V1.s (SV.bool c18)))]) S K := by kernel_rfl
noncomputable abbrev A17_0 (D J : Disp) (vals : List AV) (S : St) (K : AV → St → Prop) : Prop :=
  uncA vals fun a9001 r9002 => scK a9001 fun s9004 => SV.cP s9004 fun p0 => uncA r9002 fun a9007 r9008 => avA a9007 fun l9010 => uncK l9010 fun s9012 r9013 => SV.cI IntKind.i64 s9012 fun x1_0 => uncK r9013 fun s9016 r9017 => SV.cI IntKind.i64 s9016 fun x1_1 => uncK r9017 fun s9020 r9021 => SV.cI IntKind.i64 s9020 fun x1_2 => uncK r9021 fun s9024 r9025 => SV.cI IntKind.i64 s9024 fun x1_3 => endL r9025 <| uncA r9008 fun a9029 r9030 => scK a9029 fun s9032 => SV.cS s9032 fun s2 => endL r9030 <| F17_0 D J p0 x1_0 x1_1 x1_2 x1_3 s2 S K
theorem A17_0_ok {D J : Disp} (hD : DOK MemP MemG D) (hJ : JOK MemP MemG Go.Proofs.Try.f17 T17 J) {vals : List AV} {S : St} {K : AV → St → Prop} (h0 : A17_0 D J vals S K) : Runs MemP MemG Go.Proofs.Try.f17 (T17 0).1 (envOf (T17 0).2 vals) S K := by
  obtain ⟨a9001, r9002, rfl, h3⟩ := uncA_some h0
  obtain ⟨s9004, rfl, h5⟩ := scK_some h3
  obtain ⟨p0, rfl, h6⟩ := cP_some h5
  obtain ⟨a9007, r9008, rfl, h9⟩ := uncA_some h6
  obtain ⟨l9010, rfl, h11⟩ := avA_some h9
  obtain ⟨s9012, r9013, rfl, h14⟩ := uncK_some h11
  obtain ⟨x1_0, rfl, h15⟩ := cI_some h14
  obtain ⟨s9016, r9017, rfl, h18⟩ := uncK_some h15
  obtain ⟨x1_1, rfl, h19⟩ := cI_some h18
  obtain ⟨s9020, r9021, rfl, h22⟩ := uncK_some h19
  obtain ⟨x1_2, rfl, h23⟩ := cI_some h22
  obtain ⟨s9024, r9025, rfl, h26⟩ := uncK_some h23
  obtain ⟨x1_3, rfl, h27⟩ := cI_some h26
  obtain ⟨rfl, h28⟩ := endL_some h27
  obtain ⟨a9029, r9030, rfl, h31⟩ := uncA_some h28
  obtain ⟨s9032, rfl, h33⟩ := scK_some h31
  obtain ⟨s2, rfl, h34⟩ := cS_some h33
  obtain ⟨rfl, h35⟩ := endL_some h34
  rw [F17_0_eq] at h35
  exact execK_runs hD.typed Mem_zero Mem_mixed hJ X17_0 (T17 0).1 (envOf (T17 0).2 _) S K (chk_of (by kernel_rfl) (by kernel_rfl)) h35
noncomputable abbrev A17_2 (D J : Disp) (vals : List AV) (S : St) (K : AV → St → Prop) : Prop :=
  uncA vals fun a9001 r9002 => scK a9001 fun s9004 => SV.cP s9004 fun p0 => uncA r9002 fun a9007 r9008 => scK a9007 fun s9010 => SV.cS s9010 fun s2 => uncA r9008 fun a9013 r9014 => scK a9013 fun s9016 => SV.cP s9016 fun p4 => uncA r9014 fun a9019 r9020 => scK a9019 fun s9022 => SV.cP s9022 fun p6 => uncA r9020 fun a9025 r9026 => scK a9025 fun s9028 => SV.cP s9028 fun p7 => uncA r9026 fun a9031 r9032 => scK a9031 fun s9034 => SV.cB s9034 fun c18 => endL r9032 <| F17_2 D J p0 s2 p4 p6 p7 c18 S K
theorem A17_2_ok {D J : Disp} (hD : DOK MemP MemG D) (hJ : JOK MemP MemG Go.Proofs.Try.f17 T17 J) {vals : List AV} {S : St} {K : AV → St → Prop} (h0 : A17_2 D J vals S K) : Runs MemP MemG Go.Proofs.Try.f17 (T17 2).1 (envOf (T17 2).2 vals) S K := by
  obtain ⟨a9001, r9002, rfl, h3⟩ := uncA_some h0
  obtain ⟨s9004, rfl, h5⟩ := scK_some h3
  obtain ⟨p0, rfl, h6⟩ := cP_some h5
  obtain ⟨a9007, r9008, rfl, h9⟩ := uncA_some h6
  obtain ⟨s9010, rfl, h11⟩ := scK_some h9
  obtain ⟨s2, rfl, h12⟩ := cS_some h11
  obtain ⟨a9013, r9014, rfl, h15⟩ := uncA_some h12
  obtain ⟨s9016, rfl, h17⟩ := scK_some h15
  obtain ⟨p4, rfl, h18⟩ := cP_some h17
  obtain ⟨a9019, r9020, rfl, h21⟩ := uncA_some h18
  obtain ⟨s9022, rfl, h23⟩ := scK_some h21
  obtain ⟨p6, rfl, h24⟩ := cP_some h23
  obtain ⟨a9025, r9026, rfl, h27⟩ := uncA_some h24
  obtain ⟨s9028, rfl, h29⟩ := scK_some h27
  obtain ⟨p7, rfl, h30⟩ := cP_some h29
  obtain ⟨a9031, r9032, rfl, h33⟩ := uncA_some h30
  obtain ⟨s9034, rfl, h35⟩ := scK_some h33
  obtain ⟨c18, rfl, h36⟩ := cB_some h35
  obtain ⟨rfl, h37⟩ := endL_some h36
  rw [F17_2_eq] at h37
  exact execK_runs hD.typed Mem_zero Mem_mixed hJ X17_2 (T17 2).1 (envOf (T17 2).2 _) S K (chk_of (by kernel_rfl) (by kernel_rfl)) h37
noncomputable def J17 (D : Disp) (k : Nat) : Disp := Nat.rec (motive := fun _ => Disp) Disp.no (fun _ ih => Disp.add 0 (A17_0 D ih) <| Disp.add 2 (A17_2 D ih) <| Disp.no) k
theorem J17_ok {D : Disp} (hD : DOK MemP MemG D) : ∀ k, JOK MemP MemG Go.Proofs.Try.f17 T17 (J17 D k)
  | 0 => JOK.no
  | k + 1 => JOK.add (ltB_ok (by kernel_rfl)) (fun vals S K h => A17_0_ok hD (J17_ok hD k) h) <| JOK.add (ltB_ok (by kernel_rfl)) (fun vals S K h => A17_2_ok hD (J17_ok hD k) h) <| JOK.no
theorem E17_ok {D : Disp} (hD : DOK MemP MemG D) (k : Nat) {args : List AV} {S : St} {K : AV → St → Prop} (h : A17_0 D (J17 D k) args S K) : CallE MemP MemG 17 args S K := by
  have hr := A17_0_ok hD (J17_ok hD k) h
  have hl : args.length = 3 := by
    have h0 := h
    obtain ⟨a9001, r9002, rfl, h3⟩ := uncA_some h0
    obtain ⟨s9004, rfl, h5⟩ := scK_some h3
    obtain ⟨p0, rfl, h6⟩ := cP_some h5
    obtain ⟨a9007, r9008, rfl, h9⟩ := uncA_some h6
    obtain ⟨l9010, rfl, h11⟩ := avA_some h9
    obtain ⟨s9012, r9013, rfl, h14⟩ := uncK_some h11
    obtain ⟨x1_0, rfl, h15⟩ := cI_some h14
    obtain ⟨s9016, r9017, rfl, h18⟩ := uncK_some h15
    obtain ⟨x1_1, rfl, h19⟩ := cI_some h18
    obtain ⟨s9020, r9021, rfl, h22⟩ := uncK_some h19
    obtain ⟨x1_2, rfl, h23⟩ := cI_some h22
    obtain ⟨s9024, r9025, rfl, h26⟩ := uncK_some h23
    obtain ⟨x1_3, rfl, h27⟩ := cI_some h26
    obtain ⟨rfl, h28⟩ := endL_some h27
    obtain ⟨a9029, r9030, rfl, h31⟩ := uncA_some h28
    obtain ⟨s9032, rfl, h33⟩ := scK_some h31
    obtain ⟨s2, rfl, h34⟩ := cS_some h33
    obtain ⟨rfl, h35⟩ := endL_some h34
    rfl
  refine callOK_of (fn := Go.Proofs.Try.f17) (c := (match Go.Proofs.Try.f17.body with | some c => c | none => .skip)) (by kernel_rfl) (by kernel_rfl) (by kernel_rfl) (by rw [hl]; kernel_rfl) (by kernel_rfl) ?_
  rw [hl]
  exact hr
noncomputable def plans18 (i : Nat) : Plan := if Nat.beq i 1 then [(0, []), (1, [0]), (2, [1, 0]), (3, [2, 1, 0]), (4, [3, 2, 1, 0]), (5, [4, 2, 3, 1, 0]), (6, [2, 5, 1, 4, 0, 3]), (7, [6, 2, 5, 1, 4, 0, 3]), (8, [7, 6, 2, 5, 1, 4, 0, 3]), (9, [7, 6, 2, 5, 1, 4, 0, 3]), (10, [9, 7, 6, 2, 5, 1, 4, 0, 3]), (11, [8, 10, 7, 9, 6, 2, 5, 1, 4, 0, 3]), (12, [11, 7, 8, 10, 6, 2, 9, 5, 1, 4, 0, 3]), (13, [7, 12, 6, 2, 11, 5, 1, 8, 10, 4, 0, 9, 3]), (14, [13, 11, 7, 12, 8, 10, 6, 2, 9, 5, 1, 4, 0, 3]), (15, [14, 13, 11, 7, 12, 8, 10, 6, 2, 9, 5, 1, 4, 0, 3]), (16, [15, 14, 13, 11, 7, 12, 8, 10, 6, 2, 9, 5, 1, 4, 0, 3]), (17, [16, 14, 15, 13, 11, 7, 12, 8, 10, 6, 2, 9, 5, 1, 4, 0, 3]), (18, [14, 17, 13, 11, 16, 7, 12, 8, 10, 15, 6, 2, 9, 5, 1, 4, 0, 3]), (19, [18, 14, 17, 13, 11, 16, 7, 12, 8, 10, 15, 6, 2, 9, 5, 1, 4, 0, 3]), (20, [19, 18, 14, 17, 13, 11, 16, 7, 12, 8, 10, 15, 6, 2, 9, 5, 1, 4, 0, 3]), (21, [20, 19, 18, 14, 17, 13, 11, 16, 7, 12, 8, 10, 15, 6, 2, 9, 5, 1, 4, 0, 3]), (22, [19, 18, 14, 17, 13, 11, 16, 7, 12, 8, 10, 15, 6, 2, 9, 5, 1, 4, 0, 3]), (23, [19, 18, 14, 17, 13, 11, 16, 7, 12, 8, 10, 15, 6, 2, 9, 5, 1, 4, 0, 3]), (24, [23, 19, 18, 14, 17, 13, 11, 16, 7, 12, 8, 10, 15, 6, 2, 9, 5, 1, 4, 0, 3]), (25, [22, 24, 19, 23, 18, 14, 17, 13, 11, 16, 7, 12, 8, 10, 15, 6, 2, 9, 5, 1, 4, 0, 3]), (26, [21, 25, 19, 20, 22, 24, 18, 14, 23, 17, 13, 11, 16, 7, 12, 8, 10, 15, 6, 2, 9, 5, 1, 4, 0, 3]), (27, [19, 26, 18, 14, 21, 25, 17, 13, 11, 20, 22, 24, 16, 7, 12, 8, 10, 23, 15, 6, 2, 9, 5, 1, 4, 0, 3]), (28, [27, 25, 0, 1, 2, 3, 4, 5, 6, 7, 8, 9, 10, 11, 12, 13, 14, 15, 16, 17, 18, 19, 20, 21, 22, 23, 24, 26])] else []
noncomputable def T18 (p : Nat) : List Item × List Nat := bif Nat.beq p 0 then ([.code (match Go.Proofs.Try.f18.body with | some c => c | none => .skip)], [0, 1]) else
  ([], [])
noncomputable def F18_q0 (D J : Disp) (S : St) (p0 : PV) (S319 : St) (x340 : Int) (x347 : Int) (K : AV → St → Prop) : Prop :=
 D 12 [(AV.one (V1.s (SV.ptr p0))), (AV.one (V1.s (SV.int IntKind.i64 x347)))] S319 fun v348 S349 =>
 scK v348 fun v351 =>
 SV.cI IntKind.i64 v351 fun x354 =>
 St.at S349 (Bk.new (St.next S)) 3 fun y355 =>
 uncK y355 fun v356 y357 =>
 SV.cI IntKind.i64 v356 fun x361 =>
 req (sameAV (AV.one (V1.s (SV.int IntKind.i64 x361))) (AV.one (V1.s (SV.int IntKind.i64 x340)))) <|
 letK (α := Bool) ((ile x340 x354)) fun c362 =>
 K ((AV.one (V1.s (SV.bool c362)))) S349
noncomputable def F18_q1 (D J : Disp) (S : St) (p0 : PV) (S319 : St) (K : AV → St → Prop) : Prop :=
 St.at S319 (Bk.new (St.next S)) 3 fun y326 =>
 uncK y326 fun v327 y328 =>
 SV.cI IntKind.i64 v327 fun x332 =>
 letK (α := Bool) ((ile (0 : Int) x332)) fun c333 =>
 ifK c333
 (St.at S319 (Bk.new (St.next S)) 3 fun y334 =>
 uncK y334 fun v335 y336 =>
 SV.cI IntKind.i64 v335 fun x340 =>
 St.at S319 (Bk.new (St.next S)) 2 fun y341 =>
 uncK y341 fun v342 y343 =>
 SV.cI IntKind.i64 v342 fun x347 =>
 F18_q0 D J S p0 S319 x340 x347 K)
 (K ((AV.one (V1.s (SV.bool Bool.false)))) S319)
noncomputable def F18_q2 (D J : Disp) (S : St) (p0 : PV) (S300 : St) (c310 : Bool) (K : AV → St → Prop) : Prop :=
 ifK c310
 (St.at S300 (Bk.new (St.next S)) 2 fun y311 =>
 uncK y311 fun v312 y313 =>
 SV.cI IntKind.i64 v312 fun x317 =>
 D 12 [(AV.one (V1.s (SV.ptr p0))), (AV.one (V1.s (SV.int IntKind.i64 x317)))] S300 fun v318 S319 =>
 scK v318 fun v321 =>
 SV.cI IntKind.i64 v321 fun x324 =>
 letK (α := Bool) ((ilt (0 : Int) x324)) fun c325 =>
 ifK c325
 (F18_q1 D J S p0 S319 K)
 (K ((AV.one (V1.s (SV.bool Bool.false)))) S319))
 (K ((AV.one (V1.s (SV.bool Bool.false)))) S300)
noncomputable def F18_0 (D J : Disp) (p0 : PV) (x1_0 : Int) (x1_1 : Int) (x1_2 : Int) (x1_3 : Int) (S : St) (K : AV → St → Prop) : Prop :=
 letK (α := St) ((St.add S (AO.cells [(SV.int IntKind.i64 x1_0), (SV.int IntKind.i64 x1_1), (SV.int IntKind.i64 x1_2), (SV.int IntKind.i64 x1_3)] (Op2.ty 34)))) fun S300 =>
 optK (eqA MemP 1 25 (V1.s (SV.ptr p0)) (V1.s (SV.ptr PV.nil))) fun y301 =>
 letK (α := Bool) ((Bool.not y301)) fun c302 =>
 ifK c302
 (St.at S300 (Bk.new (St.next S)) 0 fun y303 =>
 uncK y303 fun v304 y305 =>
 SV.cI IntKind.i64 v304 fun x309 =>
 letK (α := Bool) ((ieq x309 (2 : Int))) fun c310 =>
 F18_q2 D J S p0 S300 c310 K)
 (K ((AV.one (V1.s (SV.bool Bool.false)))) S300)
noncomputable def X18_0 : X := (.op (.op .ret))
theorem F18_0_eq (D J : Disp) (p0 : PV) (x1_0 : Int) (x1_1 : Int) (x1_2 : Int) (x1_3 : Int) (S : St) (K : AV → St → Prop) : F18_0 D J p0 x1_0 x1_1 x1_2 x1_3 S K = execK MemP MemG Go.Proofs.Try.f18 (typed MemP D) J plans18 X18_0 (T18 0).1 (envOf (T18 0).2 [(AV.one (V1.s (SV.ptr p0))), (AV.one (V1.agg [(SV.int IntKind.i64 x1_0), (SV.int IntKind.i64 x1_1), (SV.int IntKind.i64 x1_2), (SV.int IntKind.i64 x1_3)]))]) S K := by kernel_rfl
noncomputable abbrev A18_0 (D J : Disp) (vals : List AV) (S : St) (K : AV → St → Prop) : Prop :=
  uncA vals fun a9001 r9002 => scK a9001 fun s9004 => SV.cP s9004 fun p0 => uncA r9002 fun a9007 r9008 => avA a9007 fun l9010 => uncK l9010 fun s9012 r9013 => SV.cI IntKind.i64 s9012 fun x1_0 => uncK r9013 fun s9016 r9017 => SV.cI IntKind.i64 s9016 fun x1_1 => uncK r9017 fun s9020 r9021 => SV.cI IntKind.i64 s9020 fun x1_2 => uncK r9021 fun s9024 r9025 => SV.cI IntKind.i64 s9024 fun x1_3 => endL r9025 <| endL r9008 <| F18_0 D J p0 x1_0 x1_1 x1_2 x1_3 S K
theorem A18_0_ok {D J : Disp} (hD : DOK MemP MemG D) (hJ : JOK MemP MemG Go.Proofs.Try.f18 T18 J) {vals : List AV} {S : St} {K : AV → St → Prop} (h0 : A18_0 D J vals S K) : Runs MemP MemG Go.Proofs.Try.f18 (T18 0).1 (envOf (T18 0).2 vals) S K := by
  obtain ⟨a9001, r9002, rfl, h3⟩ := uncA_some h0
  obtain ⟨s9004, rfl, h5⟩ := scK_some h3
  obtain ⟨p0, rfl, h6⟩ := cP_some h5
  obtain ⟨a9007, r9008, rfl, h9⟩ := uncA_some h6
  obtain ⟨l9010, rfl, h11⟩ := avA_some h9
  obtain ⟨s9012, r9013, rfl, h14⟩ := uncK_some h11
  obtain ⟨x1_0, rfl, h15⟩ := cI_some h14
  obtain ⟨s9016, r9017, rfl, h18⟩ := uncK_some h15
  obtain ⟨x1_1, rfl, h19⟩ := cI_some h18
  obtain ⟨s9020, r9021, rfl, h22⟩ := uncK_some h19
  obtain ⟨x1_2, rfl, h23⟩ := cI_some h22
  obtain ⟨s9024, r9025, rfl, h26⟩ := uncK_some h23
  obtain ⟨x1_3, rfl, h27⟩ := cI_some h26
  obtain ⟨rfl, h28⟩ := endL_some h27
  obtain ⟨rfl, h29⟩ := endL_some h28
  rw [F18_0_eq] at h29
  exact execK_runs hD.typed Mem_zero Mem_mixed hJ X18_0 (T18 0).1 (envOf (T18 0).2 _) S K (chk_of (by kernel_rfl) (by kernel_rfl)) h29
noncomputable def J18 (D : Disp) (k : Nat) : Disp := Nat.rec (motive := fun _ => Disp) Disp.no (fun _ ih => Disp.add 0 (A18_0 D ih) <| Disp.no) k
theorem J18_ok {D : Disp} (hD : DOK MemP MemG D) : ∀ k, JOK MemP MemG Go.Proofs.Try.f18 T18 (J18 D k)
  | 0 => JOK.no
  | k + 1 => JOK.add (ltB_ok (by kernel_rfl)) (fun vals S K h => A18_0_ok hD (J18_ok hD k) h) <| JOK.no
theorem E18_ok {D : Disp} (hD : DOK MemP MemG D) (k : Nat) {args : List AV} {S : St} {K : AV → St → Prop} (h : A18_0 D (J18 D k) args S K) : CallE MemP MemG 18 args S K := by
  have hr := A18_0_ok hD (J18_ok hD k) h
  have hl : args.length = 2 := by
    have h0 := h
    obtain ⟨a9001, r9002, rfl, h3⟩ := uncA_some h0
    obtain ⟨s9004, rfl, h5⟩ := scK_some h3
    obtain ⟨p0, rfl, h6⟩ := cP_some h5
    obtain ⟨a9007, r9008, rfl, h9⟩ := uncA_some h6
    obtain ⟨l9010, rfl, h11⟩ := avA_some h9
    obtain ⟨s9012, r9013, rfl, h14⟩ := uncK_some h11
    obtain ⟨x1_0, rfl, h15⟩ := cI_some h14
    obtain ⟨s9016, r9017, rfl, h18⟩ := uncK_some h15
    obtain ⟨x1_1, rfl, h19⟩ := cI_some h18
    obtain ⟨s9020, r9021, rfl, h22⟩ := uncK_some h19
    obtain ⟨x1_2, rfl, h23⟩ := cI_some h22
    obtain ⟨s9024, r9025, rfl, h26⟩ := uncK_some h23
    obtain ⟨x1_3, rfl, h27⟩ := cI_some h26
    obtain ⟨rfl, h28⟩ := endL_some h27
    obtain ⟨rfl, h29⟩ := endL_some h28
    rfl
  refine callOK_of (fn := Go.Proofs.Try.f18) (c := (match Go.Proofs.Try.f18.body with | some c => c | none => .skip)) (by kernel_rfl) (by kernel_rfl) (by kernel_rfl) (by rw [hl]; kernel_rfl) (by kernel_rfl) ?_
  rw [hl]
  exact hr
noncomputable def plans19 (i : Nat) : Plan := []
noncomputable def T19 (p : Nat) : List Item × List Nat := bif Nat.beq p 0 then ([.code (match Go.Proofs.Try.f19.body with | some c => c | none => .skip)], [0, 1, 2]) else
  ([], [])
noncomputable def F19_q0 (D J : Disp) (S : St) (p0 : PV) (S300 : St) (S328 : St) (x338 : Int) (x344 : Int) (x350 : Int) (x356 : Int) (K : AV → St → Prop) : Prop :=
 D 18 [(AV.one (V1.s (SV.ptr p0))), (AV.one (V1.agg [(SV.int IntKind.i64 x338), (SV.int IntKind.i64 x344), (SV.int IntKind.i64 x350), (SV.int IntKind.i64 x356)]))] S328 fun v357 S358 =>
 scK v357 fun v360 =>
 SV.cB v360 fun y361 =>
 ifK y361
 (St.at S358 (Bk.new (St.next S)) 2 fun y362 =>
 uncK y362 fun v363 y364 =>
 SV.cI IntKind.i64 v363 fun x368 =>
 St.at S358 (Bk.new (St.next S300)) 2 fun y369 =>
 uncK y369 fun v370 y371 =>
 SV.cI IntKind.i64 v370 fun x375 =>
 letK (α := Bool) ((ieq x368 x375)) fun c376 =>
 K ((AV.one (V1.s (SV.bool c376)))) S358)
 (K ((AV.one (V1.s (SV.bool Bool.false)))) S358)
noncomputable def F19_q1 (D J : Disp) (S : St) (p0 : PV) (S300 : St) (S301 : St) (x308 : Int) (x314 : Int) (x320 : Int) (x326 : Int) (K : AV → St → Prop) : Prop :=
 D 18 [(AV.one (V1.s (SV.ptr p0))), (AV.one (V1.agg [(SV.int IntKind.i64 x308), (SV.int IntKind.i64 x314), (SV.int IntKind.i64 x320), (SV.int IntKind.i64 x326)]))] S301 fun v327 S328 =>
 scK v327 fun v330 =>
 SV.cB v330 fun y331 =>
 ifK y331
 (St.at S328 (Bk.new (St.next S300)) 0 fun y332 =>
 uncK y332 fun v333 y334 =>
 SV.cI IntKind.i64 v333 fun x338 =>
 uncK y334 fun v339 y340 =>
 SV.cI IntKind.i64 v339 fun x344 =>
 uncK y340 fun v345 y346 =>
 SV.cI IntKind.i64 v345 fun x350 =>
 uncK y346 fun v351 y352 =>
 SV.cI IntKind.i64 v351 fun x356 =>
 F19_q0 D J S p0 S300 S328 x338 x344 x350 x356 K)
 (K ((AV.one (V1.s (SV.bool Bool.false)))) S328)
noncomputable def F19_q2 (D J : Disp) (S : St) (p0 : PV) (x2_0 : Int) (x2_1 : Int) (x2_2 : Int) (x2_3 : Int) (S300 : St) (K : AV → St → Prop) : Prop :=
 letK (α := St) ((St.add S300 (AO.cells [(SV.int IntKind.i64 x2_0), (SV.int IntKind.i64 x2_1), (SV.int IntKind.i64 x2_2), (SV.int IntKind.i64 x2_3)] (Op2.ty 34)))) fun S301 =>
 St.at S301 (Bk.new (St.next S)) 0 fun y302 =>
 uncK y302 fun v303 y304 =>
 SV.cI IntKind.i64 v303 fun x308 =>
 uncK y304 fun v309 y310 =>
 SV.cI IntKind.i64 v309 fun x314 =>
 uncK y310 fun v315 y316 =>
 SV.cI IntKind.i64 v315 fun x320 =>
 uncK y316 fun v321 y322 =>
 SV.cI IntKind.i64 v321 fun x326 =>
 F19_q1 D J S p0 S300 S301 x308 x314 x320 x326 K
noncomputable def F19_0 (D J : Disp) (p0 : PV) (x1_0 : Int) (x1_1 : Int) (x1_2 : Int) (x1_3 : Int) (x2_0 : Int) (x2_1 : Int) (x2_2 : Int) (x2_3 : Int) (S : St) (K : AV → St → Prop) : Prop :=
 letK (α := St) ((St.add S (AO.cells [(SV.int IntKind.i64 x1_0), (SV.int IntKind.i64 x1_1), (SV.int IntKind.i64 x1_2), (SV.int IntKind.i64 x1_3)] (Op2.ty 34)))) fun S300 =>
 F19_q2 D J S p0 x2_0 x2_1 x2_2 x2_3 S300 K
noncomputable def X19_0 : X := (.op (.op .ret))
theorem F19_0_eq (D J : Disp) (p0 : PV) (x1_0 : Int) (x1_1 : Int) (x1_2 : Int) (x1_3 : Int) (x2_0 : Int) (x2_1 : Int) (x2_2 : Int) (x2_3 : Int) (S : St) (K : AV → St → Prop) : F19_0 D J p0 x1_0 x1_1 x1_2 x1_3 x2_0 x2_1 x2_2 x2_3 S K = execK MemP MemG Go.Proofs.Try.f19 (typed MemP D) J plans19 X19_0 (T19 0).1 (envOf (T19 0).2 [(AV.one (V1.s (SV.ptr p0))), (AV.one (V1.agg [(SV.int IntKind.i64 x1_0), (SV.int IntKind.i64 x1_1), (SV.int IntKind.i64 x1_2), (SV.int IntKind.i64 x1_3)])), (AV.one (V1.agg [(SV.int IntKind.i64 x2_0), (SV.int IntKind.i64 x2_1), (SV.int IntKind.i64 x2_2), (SV.int IntKind.i64 x2_3)]))]) S K := by kernel_rfl
noncomputable abbrev A19_0 (D J : Disp) (vals : List AV) (S : St) (K : AV → St → Prop) : Prop :=
  uncA vals fun a9001 r9002 => scK a9001 fun s9004 => SV.cP s9004 fun p0 => uncA r9002 fun a9007 r9008 => avA a9007 fun l9010 => uncK l9010 fun s9012 r9013 => SV.cI IntKind.i64 s9012 fun x1_0 => uncK r9013 fun s9016 r9017 => SV.cI IntKind.i64 s9016 fun x1_1 => uncK r9017 fun s9020 r9021 => SV.cI IntKind.i64 s9020 fun x1_2 => uncK r9021 fun s9024 r9025 => SV.cI IntKind.i64 s9024 fun x1_3 => endL r9025 <| uncA r9008 fun a9029 r9030 => avA a9029 fun l9032 => uncK l9032 fun s9034 r9035 => SV.cI IntKind.i64 s9034 fun x2_0 => uncK r9035 fun s9038 r9039 => SV.cI IntKind.i64 s9038 fun x2_1 => uncK r9039 fun s9042 r9043 => SV.cI IntKind.i64 s9042 fun x2_2 => uncK r9043 fun s9046 r9047 => SV.cI IntKind.i64 s9046 fun x2_3 => endL r9047 <| endL r9030 <| F19_0 D J p0 x1_0 x1_1 x1_2 x1_3 x2_0 x2_1 x2_2 x2_3 S K
theorem A19_0_ok {D J : Disp} (hD : DOK MemP MemG D) (hJ : JOK MemP MemG Go.Proofs.Try.f19 T19 J) {vals : List AV} {S : St} {K : AV → St → Prop} (h0 : A19_0 D J vals S K) : Runs MemP MemG Go.Proofs.Try.f19 (T19 0).1 (envOf (T19 0).2 vals) S K := by
  obtain ⟨a9001, r9002, rfl, h3⟩ := uncA_some h0
  obtain ⟨s9004, rfl, h5⟩ := scK_some h3
  obtain ⟨p0, rfl, h6⟩ := cP_some h5
  obtain ⟨a9007, r9008, rfl, h9⟩ := uncA_some h6
  obtain ⟨l9010, rfl, h11⟩ := avA_some h9
  obtain ⟨s9012, r9013, rfl, h14⟩ := uncK_some h11
  obtain ⟨x1_0, rfl, h15⟩ := cI_some h14
  obtain ⟨s9016, r9017, rfl, h18⟩ := uncK_some h15
  obtain ⟨x1_1, rfl, h19⟩ := cI_some h18
  obtain ⟨s9020, r9021, rfl, h22⟩ := uncK_some h19
  obtain ⟨x1_2, rfl, h23⟩ := cI_some h22
  obtain ⟨s9024, r9025, rfl, h26⟩ := uncK_some h23
  obtain ⟨x1_3, rfl, h27⟩ := cI_some h26
  obtain ⟨rfl, h28⟩ := endL_some h27
  obtain ⟨a9029, r9030, rfl, h31⟩ := uncA_some h28
  obtain ⟨l9032, rfl, h33⟩ := avA_some h31
  obtain ⟨s9034, r9035, rfl, h36⟩ := uncK_some h33
  obtain ⟨x2_0, rfl, h37⟩ := cI_some h36
  obtain ⟨s9038, r9039, rfl, h40⟩ := uncK_some h37
  obtain ⟨x2_1, rfl, h41⟩ := cI_some h40
  obtain ⟨s9042, r9043, rfl, h44⟩ := uncK_some h41
  obtain ⟨x2_2, rfl, h45⟩ := cI_some h44
  obtain ⟨s9046, r9047, rfl, h48⟩ := uncK_some h45
  obtain ⟨x2_3, rfl, h49⟩ := cI_some h48
  obtain ⟨rfl, h50⟩ := endL_some h49
  obtain ⟨rfl, h51⟩ := endL_some h50
  rw [F19_0_eq] at h51
  exact execK_runs hD.typed Mem_zero Mem_mixed hJ X19_0 (T19 0).1 (envOf (T19 0).2 _) S K (chk_of (by kernel_rfl) (by kernel_rfl)) h51
noncomputable def J19 (D : Disp) (k : Nat) : Disp := Nat.rec (motive := fun _ => Disp) Disp.no (fun _ ih => Disp.add 0 (A19_0 D ih) <| Disp.no) k
theorem J19_ok {D : Disp} (hD : DOK MemP MemG D) : ∀ k, JOK MemP MemG Go.Proofs.Try.f19 T19 (J19 D k)
  | 0 => JOK.no
  | k + 1 => JOK.add (ltB_ok (by kernel_rfl)) (fun vals S K h => A19_0_ok hD (J19_ok hD k) h) <| JOK.no
theorem E19_ok {D : Disp} (hD : DOK MemP MemG D) (k : Nat) {args : List AV} {S : St} {K : AV → St → Prop} (h : A19_0 D (J19 D k) args S K) : CallE MemP MemG 19 args S K := by
  have hr := A19_0_ok hD (J19_ok hD k) h
  have hl : args.length = 3 := by
    have h0 := h
    obtain ⟨a9001, r9002, rfl, h3⟩ := uncA_some h0
    obtain ⟨s9004, rfl, h5⟩ := scK_some h3
    obtain ⟨p0, rfl, h6⟩ := cP_some h5
    obtain ⟨a9007, r9008, rfl, h9⟩ := uncA_some h6
    obtain ⟨l9010, rfl, h11⟩ := avA_some h9
    obtain ⟨s9012, r9013, rfl, h14⟩ := uncK_some h11
    obtain ⟨x1_0, rfl, h15⟩ := cI_some h14
    obtain ⟨s9016, r9017, rfl, h18⟩ := uncK_some h15
    obtain ⟨x1_1, rfl, h19⟩ := cI_some h18
    obtain ⟨s9020, r9021, rfl, h22⟩ := uncK_some h19
    obtain ⟨x1_2, rfl, h23⟩ := cI_some h22
    obtain ⟨s9024, r9025, rfl, h26⟩ := uncK_some h23
    obtain ⟨x1_3, rfl, h27⟩ := cI_some h26
    obtain ⟨rfl, h28⟩ := endL_some h27
    obtain ⟨a9029, r9030, rfl, h31⟩ := uncA_some h28
    obtain ⟨l9032, rfl, h33⟩ := avA_some h31
    obtain ⟨s9034, r9035, rfl, h36⟩ := uncK_some h33
    obtain ⟨x2_0, rfl, h37⟩ := cI_some h36
    obtain ⟨s9038, r9039, rfl, h40⟩ := uncK_some h37
    obtain ⟨x2_1, rfl, h41⟩ := cI_some h40
    obtain ⟨s9042, r9043, rfl, h44⟩ := uncK_some h41
    obtain ⟨x2_2, rfl, h45⟩ := cI_some h44
    obtain ⟨s9046, r9047, rfl, h48⟩ := uncK_some h45
    obtain ⟨x2_3, rfl, h49⟩ := cI_some h48
    obtain ⟨rfl, h50⟩ := endL_some h49
    obtain ⟨rfl, h51⟩ := endL_some h50
    rfl
  refine callOK_of (fn := Go.Proofs.Try.f19) (c := (match Go.Proofs.Try.f19.body with | some c => c | none => .skip)) (by kernel_rfl) (by kernel_rfl) (by kernel_rfl) (by rw [hl]; kernel_rfl) (by kernel_rfl) ?_
  rw [hl]
  exact hr
noncomputable def plans20 (i : Nat) : Plan := []
noncomputable def T20 (p : Nat) : List Item × List Nat := bif Nat.beq p 0 then ([.code (match Go.Proofs.Try.f20.body with | some c => c | none => .skip)], [0]) else
  ([], [])
noncomputable def F20_q0 (D J : Disp) (S : St) (S300 : St) (c308 : Bool) (K : AV → St → Prop) : Prop :=
 ifK c308
 (St.at S300 (Bk.new (St.next S)) 2 fun y309 =>
 uncK y309 fun v310 y311 =>
 SV.cI IntKind.i64 v310 fun x315 =>
 letK (α := Bool) ((ieq x315 (0 : Int))) fun c316 =>
 ifK c316
 (St.at S300 (Bk.new (St.next S)) 3 fun y317 =>
 uncK y317 fun v318 y319 =>
 SV.cI IntKind.i64 v318 fun x323 =>
 letK (α := Bool) ((ieq x323 (0 : Int))) fun c324 =>
 K ((AV.one (V1.s (SV.bool c324)))) S300)
 (K ((AV.one (V1.s (SV.bool Bool.false)))) S300))
 (K ((AV.one (V1.s (SV.bool Bool.false)))) S300)
noncomputable def F20_0 (D J : Disp) (x0_0 : Int) (x0_1 : Int) (x0_2 : Int) (x0_3 : Int) (S : St) (K : AV → St → Prop) : Prop :=
 letK (α := St) ((St.add S (AO.cells [(SV.int IntKind.i64 x0_0), (SV.int IntKind.i64 x0_1), (SV.int IntKind.i64 x0_2), (SV.int IntKind.i64 x0_3)] (Op2.ty 34)))) fun S300 =>
 St.at S300 (Bk.new (St.next S)) 0 fun y301 =>
 uncK y301 fun v302 y303 =>
 SV.cI IntKind.i64 v302 fun x307 =>
 letK (α := Bool) ((ieq x307 (2 : Int))) fun c308 =>
 F20_q0 D J S S300 c308 K
noncomputable def X20_0 : X := (.op (.op .ret))
theorem F20_0_eq (D J : Disp) (x0_0 : Int) (x0_1 : Int) (x0_2 : Int) (x0_3 : Int) (S : St) (K : AV → St → Prop) : F20_0 D J x0_0 x0_1 x0_2 x0_3 S K = execK MemP MemG Go.Proofs.Try.f20 (typed MemP D) J plans20 X20_0 (T20 0).1 (envOf (T20 0).2 [(AV.one (V1.agg [(SV.int IntKind.i64 x0_0), (SV.int IntKind.i64 x0_1), (SV.int IntKind.i64 x0_2), (SV.int IntKind.i64 x0_3)]))]) S K := by kernel_rfl
noncomputable abbrev A20_0 (D J : Disp) (vals : List AV) (S : St) (K : AV → St → Prop) : Prop :=
  uncA vals fun a9001 r9002 => avA a9001 fun l9004 => uncK l9004 fun s9006 r9007 => SV.cI IntKind.i64 s9006 fun x0_0 => uncK r9007 fun s9010 r9011 => SV.cI IntKind.i64 s9010 fun x0_1 => uncK r9011 fun s9014 r9015 => SV.cI IntKind.i64 s9014 fun x0_2 => uncK r9015 fun s9018 r9019 => SV.cI IntKind.i64 s9018 fun x0_3 => endL r9019 <| endL r9002 <| F20_0 D J x0_0 x0_1 x0_2 x0_3 S K
theorem A20_0_ok {D J : Disp} (hD : DOK MemP MemG D) (hJ : JOK MemP MemG Go.Proofs.Try.f20 T20 J) {vals : List AV} {S : St} {K : AV → St → Prop} (h0 : A20_0 D J vals S K) : Runs MemP MemG Go.Proofs.Try.f20 (T20 0).1 (envOf (T20 0).2 vals) S K := by
  obtain ⟨a9001, r9002, rfl, h3⟩ := uncA_some h0
  obtain ⟨l9004, rfl, h5⟩ := avA_some h3
  obtain ⟨s9006, r9007, rfl, h8⟩ := uncK_some h5
  obtain ⟨x0_0, rfl, h9⟩ := cI_some h8
  obtain ⟨s9010, r9011, rfl, h12⟩ := uncK_some h9
  obtain ⟨x0_1, rfl, h13⟩ := cI_some h12
  obtain ⟨s9014, r9015, rfl, h16⟩ := uncK_some h13
  obtain ⟨x0_2, rfl, h17⟩ := cI_some h16
  obtain ⟨s9018, r9019, rfl, h20⟩ := uncK_some h17
  obtain ⟨x0_3, rfl, h21⟩ := cI_some h20
  obtain ⟨rfl, h22⟩ := endL_some h21
  obtain ⟨rfl, h23⟩ := endL_some h22
  rw [F20_0_eq] at h23
  exact execK_runs hD.typed Mem_zero Mem_mixed hJ X20_0 (T20 0).1 (envOf (T20 0).2 _) S K (chk_of (by kernel_rfl) (by kernel_rfl)) h23
noncomputable def J20 (D : Disp) (k : Nat) : Disp := Nat.rec (motive := fun _ => Disp) Disp.no (fun _ ih => Disp.add 0 (A20_0 D ih) <| Disp.no) k
theorem J20_ok {D : Disp} (hD : DOK MemP MemG D) : ∀ k, JOK MemP MemG Go.Proofs.Try.f20 T20 (J20 D k)
  | 0 => JOK.no
  | k + 1 => JOK.add (ltB_ok (by kernel_rfl)) (fun vals S K h => A20_0_ok hD (J20_ok hD k) h) <| JOK.no
theorem E20_ok {D : Disp} (hD : DOK MemP MemG D) (k : Nat) {args : List AV} {S : St} {K : AV → St → Prop} (h : A20_0 D (J20 D k) args S K) : CallE MemP MemG 20 args S K := by
  have hr := A20_0_ok hD (J20_ok hD k) h
  have hl : args.length = 1 := by
    have h0 := h
    obtain ⟨a9001, r9002, rfl, h3⟩ := uncA_some h0
    obtain ⟨l9004, rfl, h5⟩ := avA_some h3
    obtain ⟨s9006, r9007, rfl, h8⟩ := uncK_some h5
    obtain ⟨x0_0, rfl, h9⟩ := cI_some h8
    obtain ⟨s9010, r9011, rfl, h12⟩ := uncK_some h9
    obtain ⟨x0_1, rfl, h13⟩ := cI_some h12
    obtain ⟨s9014, r9015, rfl, h16⟩ := uncK_some h13
    obtain ⟨x0_2, rfl, h17⟩ := cI_some h16
    obtain ⟨s9018, r9019, rfl, h20⟩ := uncK_some h17
    obtain ⟨x0_3, rfl, h21⟩ := cI_some h20
    obtain ⟨rfl, h22⟩ := endL_some h21
    obtain ⟨rfl, h23⟩ := endL_some h22
    rfl
  refine callOK_of (fn := Go.Proofs.Try.f20) (c := (match Go.Proofs.Try.f20.body with | some c => c | none => .skip)) (by kernel_rfl) (by kernel_rfl) (by kernel_rfl) (by rw [hl]; kernel_rfl) (by kernel_rfl) ?_
  rw [hl]
  exact hr
end
end Go.Xe
