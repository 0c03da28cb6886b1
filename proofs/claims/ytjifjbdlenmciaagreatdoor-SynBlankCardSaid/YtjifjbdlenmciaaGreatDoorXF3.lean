import Derived.Test.YtjifjbdlenmciaaGreatDoorXF0
import Derived.KernelRfl
set_option linter.unusedVariables false
set_option linter.unusedSimpArgs false
set_option linter.constructorNameAsVariable false
set_option linter.unusedVariables false
set_option maxRecDepth 100000
namespace Go.Xe
open Go.RowKit
noncomputable section
noncomputable def plans48 (i : Nat) : Plan := if Nat.beq i 6 then [(0, []), (1, []), (2, [1]), (3, [2, 1]), (4, [3, 2, 1]), (6, []), (7, [6]), (8, [7, 6]), (9, [8, 7, 6]), (10, []), (11, [10]), (12, [11, 10]), (13, [12, 11, 10]), (5, [4, 3, 2, 1]), (14, [13, 5, 12, 4, 11, 3, 10, 2, 1]), (15, [5, 9, 14, 4, 8, 13, 3, 7, 12, 2, 6, 11, 1, 10]), (16, [0, 15, 14, 5, 9, 13, 4, 8, 12, 3, 7, 11, 2, 6, 10, 1])] else []
noncomputable def T48 (p : Nat) : List Item × List Nat := bif Nat.beq p 0 then ([.code (match Go.Proofs.Tryz.f48.body with | some c => c | none => .skip)], [0, 1]) else
  bif Nat.beq p 10 then (navs [.op, .op, .el, .op, .op, .op, .th, .op] [.code (match Go.Proofs.Tryz.f48.body with | some c => c | none => .skip)], [0, 1, 4]) else
  bif Nat.beq p 33 then (navs [.op, .op, .el, .op, .op, .op, .el, .op, .th] [.code (match Go.Proofs.Tryz.f48.body with | some c => c | none => .skip)], [0, 1, 4, 28, 48]) else
  bif Nat.beq p 18 then (navs [.op, .op, .el, .op, .op, .op, .th, .op, .op, .op, .el, .op] [.code (match Go.Proofs.Tryz.f48.body with | some c => c | none => .skip)], [0, 1, 111, 112, 113]) else
  bif Nat.beq p 39 then (navs [.op, .op, .el, .op, .op, .op, .el, .op, .th, .el, .op, .th, .op, .op] [.code (match Go.Proofs.Tryz.f48.body with | some c => c | none => .skip)], [0, 1, 4, 5, 75]) else
  bif Nat.beq p 24 then (navs [.op, .op, .el, .op, .op, .op, .th, .op, .op, .op, .el, .op, .op, .el, .op] [.code (match Go.Proofs.Tryz.f48.body with | some c => c | none => .skip)], [0, 124, 125, 126]) else
  bif Nat.beq p 41 then (navs [.op, .op, .el, .op, .op, .op, .el, .op, .th, .el, .op, .th, .op, .op, .th, .op] [.code (match Go.Proofs.Tryz.f48.body with | some c => c | none => .skip)], [0, 1, 4, 5]) else
  ([], [])
noncomputable def F48_q15 (D J : Disp) (p0 : PV) (p1 : PV) (S304 : St) (d322 : (Sum Nat Nat)) (b353 : Bk) (n355 : Nat) (y363 : (List Nat)) (x373 : Int) (S375 : St) (y381 : (List Nat)) (K : AV → St → Prop) : Prop :=
 D 45 [(AV.one (V1.s (SV.int IntKind.u64 x373)))] S375 fun v397 S398 =>
 scK v397 fun v400 =>
 SV.cS v400 fun y404 =>
 St.at S398 b353 n355 fun y405 =>
 uncK y405 fun v406 y407 =>
 SV.cS v406 fun y412 =>
 req (sameAV (AV.one (V1.s (SV.str y412))) (AV.one (V1.s (SV.str y363)))) <|
 let o413 : AO := (AO.cells [(SV.str y381), (SV.str y363), (SV.str y404)] Op2.sh);
 let d414 : (Sum Nat Nat) := (Sum.inl 3);
 let S415 : St := (St.add S398 o413);
 St.src S415 1 (LV.mk (Bk.new (St.next S398)) 0 3 d414) fun y416 n417 =>
 St.app S415 9 1 16 (LV.mk (Bk.new (St.next S304)) 0 1 d322) y416 n417 fun y418 S419 =>
 J 10 [(AV.one (V1.s (SV.ptr p0))), (AV.one (V1.s (SV.ptr p1))), (AV.one (V1.s (SV.sl y418)))] S419 K
noncomputable def F48_q16 (D J : Disp) (p0 : PV) (p1 : PV) (S304 : St) (d322 : (Sum Nat Nat)) (S323 : St) (y346 : (List Nat)) (x352 : Int) (b353 : Bk) (n355 : Nat) (y363 : (List Nat)) (b364 : Bk) (n366 : Nat) (x373 : Int) (K : AV → St → Prop) : Prop :=
 D 44 [(AV.one (V1.agg [(SV.str y346), (SV.int IntKind.i64 x352)]))] S323 fun v374 S375 =>
 scK v374 fun v377 =>
 SV.cS v377 fun y381 =>
 St.at S375 b364 n366 fun y382 =>
 uncK y382 fun v383 y384 =>
 SV.cI IntKind.u64 v383 fun x388 =>
 req (sameAV (AV.one (V1.s (SV.int IntKind.u64 x388))) (AV.one (V1.s (SV.int IntKind.u64 x373)))) <|
 St.at S375 b353 n355 fun y389 =>
 uncK y389 fun v390 y391 =>
 SV.cS v390 fun y396 =>
 req (sameAV (AV.one (V1.s (SV.str y396))) (AV.one (V1.s (SV.str y363)))) <|
 F48_q15 D J p0 p1 S304 d322 b353 n355 y363 x373 S375 y381 K
noncomputable def F48_q17 (D J : Disp) (p0 : PV) (p1 : PV) (S304 : St) (d322 : (Sum Nat Nat)) (S323 : St) (b336 : Bk) (n338 : Nat) (K : AV → St → Prop) : Prop :=
 St.at S323 b336 n338 fun y339 =>
 uncK y339 fun v340 y341 =>
 SV.cS v340 fun y346 =>
 uncK y341 fun v347 y348 =>
 SV.cI IntKind.i64 v347 fun x352 =>
 PV.cs p1 fun b353 n354 =>
 let n355 : Nat := (n354 + 1);
 St.at S323 b353 n355 fun y356 =>
 uncK y356 fun v357 y358 =>
 SV.cS v357 fun y363 =>
 PV.cs p1 fun b364 n365 =>
 let n366 : Nat := (n365 + 4);
 St.at S323 b364 n366 fun y367 =>
 uncK y367 fun v368 y369 =>
 SV.cI IntKind.u64 v368 fun x373 =>
 F48_q16 D J p0 p1 S304 d322 S323 y346 x352 b353 n355 y363 b364 n366 x373 K
noncomputable def F48_q18 (D J : Disp) (p0 : PV) (p1 : PV) (S304 : St) (d322 : (Sum Nat Nat)) (S323 : St) (y334 : (List Nat)) (c463 : Bool) (K : AV → St → Prop) : Prop :=
 ifK c463
 (J 33 [(AV.one (V1.s (SV.ptr p0))), (AV.one (V1.s (SV.ptr p1))), (AV.one (V1.s (SV.sl (LV.mk (Bk.new (St.next S304)) 0 1 d322)))), (AV.one (V1.s (SV.str y334))), (AV.one (V1.s (SV.bool c463)))] S323 K)
 (let c464 : Bool := (leq y334 [108, 97, 98, 101, 108]);
 J 33 [(AV.one (V1.s (SV.ptr p0))), (AV.one (V1.s (SV.ptr p1))), (AV.one (V1.s (SV.sl (LV.mk (Bk.new (St.next S304)) 0 1 d322)))), (AV.one (V1.s (SV.str y334))), (AV.one (V1.s (SV.bool c464)))] S323 K)
noncomputable def F48_q19 (D J : Disp) (p0 : PV) (p1 : PV) (S304 : St) (y321 : (List Nat)) (K : AV → St → Prop) : Prop :=
 let d322 : (Sum Nat Nat) := (Sum.inl 1);
 let S323 : St := (St.add S304 (AO.cells [(SV.str y321)] Op2.sh));
 PV.cs p1 fun b324 n325 =>
 let n326 : Nat := (n325 + 0);
 St.at S323 b324 n326 fun y327 =>
 uncK y327 fun v328 y329 =>
 SV.cS v328 fun y334 =>
 let c335 : Bool := (leq y334 [108, 101, 116]);
 ifK c335
 (PV.cs p1 fun b336 n337 =>
 let n338 : Nat := (n337 + 2);
 F48_q17 D J p0 p1 S304 d322 S323 b336 n338 K)
 (let c463 : Bool := (leq y334 [103, 111, 116, 111]);
 F48_q18 D J p0 p1 S304 d322 S323 y334 c463 K)
noncomputable def F48_q20 (D J : Disp) (p0 : PV) (p1 : PV) (S304 : St) (K : AV → St → Prop) : Prop :=
 optK (eqA SynP 1 50 (V1.s (SV.ptr p1)) (V1.s (SV.ptr PV.nil))) fun y305 =>
 ifK y305
 (PV.cs p0 fun b306 n307 =>
 let n308 : Nat := (n307 + 0);
 D 43 [(AV.one (V1.s (SV.ptr (PV.mk b306 n308)))), (AV.one (V1.s (SV.str [45])))] S304 fun v309 S310 =>
 K ((AV.tup [])) S310)
 (PV.cs p1 fun b311 n312 =>
 let n313 : Nat := (n312 + 0);
 St.at S304 b311 n313 fun y314 =>
 uncK y314 fun v315 y316 =>
 SV.cS v315 fun y321 =>
 F48_q19 D J p0 p1 S304 y321 K)
noncomputable def F48_0 (D J : Disp) (p0 : PV) (p1 : PV) (S : St) (K : AV → St → Prop) : Prop :=
 PV.cs p0 fun b300 n301 =>
 let n302 : Nat := (n301 + 0);
 D 43 [(AV.one (V1.s (SV.ptr (PV.mk b300 n302)))), (AV.one (V1.s (SV.str [32])))] S fun v303 S304 =>
 F48_q20 D J p0 p1 S304 K
noncomputable def X48_0 : X := (.op (.op (.br (.op .ret) (.op (.op (.op (.br (.op (.jmp 10 [0, 1, 4])) (.op (.br (.jmp 33 [0, 1, 4, 28, 48]) (.op (.jmp 33 [0, 1, 4, 28, 48])))))))))))
theorem F48_0_eq (D J : Disp) (p0 : PV) (p1 : PV) (S : St) (K : AV → St → Prop) : F48_0 D J p0 p1 S K = execK SynP SynG Go.Proofs.Tryz.f48 (typed SynP D) J plans48 X48_0 (T48 0).1 (envOf (T48 0).2 [(AV.one (V1.s (SV.ptr p0))), (AV.one (V1.s (SV.ptr p1)))]) S K := by kernel_rfl
noncomputable def F48_q21 (D J : Disp) (p0 : PV) (S344 : St) (y359 : LV) (K : AV → St → Prop) : Prop :=
 LV.cs y359 fun b360 n361 n362 y363 =>
 req (Bool.and Bool.true (ilt (0 : Int) (Int.ofNat n362))) <|
 let n364 : Nat := (n361 + 0);
 St.at S344 b360 n364 fun y365 =>
 uncK y365 fun v366 y367 =>
 SV.cP v366 fun y373 =>
 D 46 [(AV.one (V1.s (SV.ptr p0))), (AV.one (V1.s (SV.ptr y373)))] S344 fun v374 S375 =>
 avT v374 fun y377 =>
 endL y377 (D 47 [(AV.one (V1.s (SV.ptr p0)))] S375 fun v378 S379 =>
 avT v378 fun y381 =>
 endL y381 (K ((AV.tup [])) S379))
noncomputable def F48_q22 (D J : Disp) (p0 : PV) (p1 : PV) (S301 : St) (y328 : LV) (K : AV → St → Prop) : Prop :=
 LV.cs y328 fun b329 n330 n331 y332 =>
 req (Bool.and Bool.true (ilt (0 : Int) (Int.ofNat n331))) <|
 let n333 : Nat := (n330 + 0);
 St.at S301 b329 n333 fun y334 =>
 uncK y334 fun v335 y336 =>
 SV.cP v335 fun y342 =>
 D 48 [(AV.one (V1.s (SV.ptr p0))), (AV.one (V1.s (SV.ptr y342)))] S301 fun v343 S344 =>
 avT v343 fun y346 =>
 endL y346 (PV.cs p1 fun b347 n348 =>
 let n349 : Nat := (n348 + 7);
 St.at S344 b347 n349 fun y350 =>
 uncK y350 fun v351 y352 =>
 SV.cL v351 fun y359 =>
 F48_q21 D J p0 S344 y359 K)
noncomputable def F48_q23 (D J : Disp) (p0 : PV) (p1 : PV) (S301 : St) (c315 : Bool) (K : AV → St → Prop) : Prop :=
 ifK c315
 (PV.cs p1 fun b316 n317 =>
 let n318 : Nat := (n317 + 8);
 St.at S301 b316 n318 fun y319 =>
 uncK y319 fun v320 y321 =>
 SV.cL v320 fun y328 =>
 F48_q22 D J p0 p1 S301 y328 K)
 (PV.cs p1 fun b401 n402 =>
 let n403 : Nat := (n402 + 7);
 St.at S301 b401 n403 fun y404 =>
 uncK y404 fun v405 y406 =>
 SV.cL v405 fun y413 =>
 let x414 : Int := (Int.ofNat (LV.len y413));
 J 18 [(AV.one (V1.s (SV.ptr p0))), (AV.one (V1.s (SV.ptr p1))), (AV.one (V1.s (SV.sl y413))), (AV.one (V1.s (SV.int IntKind.i64 x414))), (AV.one (V1.s (SV.int IntKind.i64 (0 : Int))))] S301 K)
noncomputable def F48_10 (D J : Disp) (p0 : PV) (p1 : PV) (l4 : LV) (S : St) (K : AV → St → Prop) : Prop :=
 D 41 [(AV.one (V1.s (SV.ptr p0))), (AV.one (V1.s (SV.sl l4)))] S fun v300 S301 =>
 avT v300 fun y303 =>
 endL y303 (PV.cs p1 fun b304 n305 =>
 let n306 : Nat := (n305 + 0);
 St.at S301 b304 n306 fun y307 =>
 uncK y307 fun v308 y309 =>
 SV.cS v308 fun y314 =>
 let c315 : Bool := (leq y314 [100, 111]);
 F48_q23 D J p0 p1 S301 c315 K)
noncomputable def X48_10 : X := (.op (.op (.br (.op (.op (.op .ret))) (.op (.jmp 18 [0, 1, 111, 112, 113])))))
theorem F48_10_eq (D J : Disp) (p0 : PV) (p1 : PV) (l4 : LV) (S : St) (K : AV → St → Prop) : F48_10 D J p0 p1 l4 S K = execK SynP SynG Go.Proofs.Tryz.f48 (typed SynP D) J plans48 X48_10 (T48 10).1 (envOf (T48 10).2 [(AV.one (V1.s (SV.ptr p0))), (AV.one (V1.s (SV.ptr p1))), (AV.one (V1.s (SV.sl l4)))]) S K := by kernel_rfl
noncomputable def F48_q27 (D J : Disp) (S : St) (p0 : PV) (p1 : PV) (l111 : LV) (x112 : Int) (x113 : Int) (b301 : Bk) (n305 : Nat) (K : AV → St → Prop) : Prop :=
 St.at S b301 n305 fun y306 =>
 uncK y306 fun v307 y308 =>
 SV.cP v307 fun y314 =>
 D 46 [(AV.one (V1.s (SV.ptr p0))), (AV.one (V1.s (SV.ptr y314)))] S fun v315 S316 =>
 avT v315 fun y318 =>
 endL y318 (let x319 : Int := (iwrap IntKind.i64 (x113 + (1 : Int)));
 J 18 [(AV.one (V1.s (SV.ptr p0))), (AV.one (V1.s (SV.ptr p1))), (AV.one (V1.s (SV.sl l111))), (AV.one (V1.s (SV.int IntKind.i64 x112))), (AV.one (V1.s (SV.int IntKind.i64 x319)))] S316 K)
noncomputable def F48_q28 (D J : Disp) (S : St) (p0 : PV) (p1 : PV) (l111 : LV) (x112 : Int) (x113 : Int) (c300 : Bool) (K : AV → St → Prop) : Prop :=
 ifK c300
 (LV.cs l111 fun b301 n302 n303 y304 =>
 req (Bool.and (ile (0 : Int) x113) (ilt x113 (Int.ofNat n303))) <|
 let n305 : Nat := (n302 + ((Int.toNat x113) * 1));
 F48_q27 D J S p0 p1 l111 x112 x113 b301 n305 K)
 (PV.cs p1 fun b326 n327 =>
 let n328 : Nat := (n327 + 8);
 St.at S b326 n328 fun y329 =>
 uncK y329 fun v330 y331 =>
 SV.cL v330 fun y338 =>
 let x339 : Int := (Int.ofNat (LV.len y338));
 J 24 [(AV.one (V1.s (SV.ptr p0))), (AV.one (V1.s (SV.sl y338))), (AV.one (V1.s (SV.int IntKind.i64 x339))), (AV.one (V1.s (SV.int IntKind.i64 (0 : Int))))] S K)
noncomputable def F48_18 (D J : Disp) (p0 : PV) (p1 : PV) (l111 : LV) (x112 : Int) (x113 : Int) (S : St) (K : AV → St → Prop) : Prop :=
 let c300 : Bool := (ilt x113 x112);
 F48_q28 D J S p0 p1 l111 x112 x113 c300 K
noncomputable def X48_18 : X := (.op (.br (.op (.op (.op (.jmp 18 [0, 1, 111, 112, 113])))) (.op (.jmp 24 [0, 124, 125, 126]))))
theorem F48_18_eq (D J : Disp) (p0 : PV) (p1 : PV) (l111 : LV) (x112 : Int) (x113 : Int) (S : St) (K : AV → St → Prop) : F48_18 D J p0 p1 l111 x112 x113 S K = execK SynP SynG Go.Proofs.Tryz.f48 (typed SynP D) J plans48 X48_18 (T48 18).1 (envOf (T48 18).2 [(AV.one (V1.s (SV.ptr p0))), (AV.one (V1.s (SV.ptr p1))), (AV.one (V1.s (SV.sl l111))), (AV.one (V1.s (SV.int IntKind.i64 x112))), (AV.one (V1.s (SV.int IntKind.i64 x113)))]) S K := by kernel_rfl
noncomputable def F48_q29 (D J : Disp) (S : St) (p0 : PV) (l124 : LV) (x125 : Int) (x126 : Int) (K : AV → St → Prop) : Prop :=
 LV.cs l124 fun b301 n302 n303 y304 =>
 req (Bool.and (ile (0 : Int) x126) (ilt x126 (Int.ofNat n303))) <|
 let n305 : Nat := (n302 + ((Int.toNat x126) * 1));
 St.at S b301 n305 fun y306 =>
 uncK y306 fun v307 y308 =>
 SV.cP v307 fun y314 =>
 D 48 [(AV.one (V1.s (SV.ptr p0))), (AV.one (V1.s (SV.ptr y314)))] S fun v315 S316 =>
 avT v315 fun y318 =>
 endL y318 (let x319 : Int := (iwrap IntKind.i64 (x126 + (1 : Int)));
 J 24 [(AV.one (V1.s (SV.ptr p0))), (AV.one (V1.s (SV.sl l124))), (AV.one (V1.s (SV.int IntKind.i64 x125))), (AV.one (V1.s (SV.int IntKind.i64 x319)))] S316 K)
noncomputable def F48_24 (D J : Disp) (p0 : PV) (l124 : LV) (x125 : Int) (x126 : Int) (S : St) (K : AV → St → Prop) : Prop :=
 let c300 : Bool := (ilt x126 x125);
 ifK c300
 (F48_q29 D J S p0 l124 x125 x126 K)
 (D 47 [(AV.one (V1.s (SV.ptr p0)))] S fun v326 S327 =>
 avT v326 fun y329 =>
 endL y329 (K ((AV.tup [])) S327))
noncomputable def X48_24 : X := (.op (.br (.op (.op (.op (.jmp 24 [0, 124, 125, 126])))) (.op .ret)))
theorem F48_24_eq (D J : Disp) (p0 : PV) (l124 : LV) (x125 : Int) (x126 : Int) (S : St) (K : AV → St → Prop) : F48_24 D J p0 l124 x125 x126 S K = execK SynP SynG Go.Proofs.Tryz.f48 (typed SynP D) J plans48 X48_24 (T48 24).1 (envOf (T48 24).2 [(AV.one (V1.s (SV.ptr p0))), (AV.one (V1.s (SV.sl l124))), (AV.one (V1.s (SV.int IntKind.i64 x125))), (AV.one (V1.s (SV.int IntKind.i64 x126)))]) S K := by kernel_rfl
noncomputable def F48_q24 (D J : Disp) (S : St) (p0 : PV) (p1 : PV) (l4 : LV) (b300 : Bk) (n301 : Nat) (K : AV → St → Prop) : Prop :=
 let n302 : Nat := (n301 + 1);
 St.at S b300 n302 fun y303 =>
 uncK y303 fun v304 y305 =>
 SV.cS v304 fun y310 =>
 let d311 : (Sum Nat Nat) := (Sum.inl 1);
 let S312 : St := (St.add S (AO.cells [(SV.str y310)] Op2.sh));
 St.src S312 1 (LV.mk (Bk.new (St.next S)) 0 1 d311) fun y313 n314 =>
 St.app S312 9 1 16 l4 y313 n314 fun y315 S316 =>
 J 10 [(AV.one (V1.s (SV.ptr p0))), (AV.one (V1.s (SV.ptr p1))), (AV.one (V1.s (SV.sl y315)))] S316 K
noncomputable def F48_q25 (D J : Disp) (p0 : PV) (p1 : PV) (l4 : LV) (S333 : St) (y339 : (List Nat)) (y347 : Bool) (K : AV → St → Prop) : Prop :=
 ifK y347
 (PV.cs p1 fun b348 n349 =>
 let n350 : Nat := (n349 + 4);
 St.at S333 b348 n350 fun y351 =>
 uncK y351 fun v352 y353 =>
 SV.cI IntKind.u64 v352 fun x357 =>
 let c358 : Bool := (ilt (0 : Int) x357);
 J 39 [(AV.one (V1.s (SV.ptr p0))), (AV.one (V1.s (SV.ptr p1))), (AV.one (V1.s (SV.sl l4))), (AV.one (V1.s (SV.str y339))), (AV.one (V1.s (SV.bool c358)))] S333 K)
 (J 39 [(AV.one (V1.s (SV.ptr p0))), (AV.one (V1.s (SV.ptr p1))), (AV.one (V1.s (SV.sl l4))), (AV.one (V1.s (SV.str y339))), (AV.one (V1.s (SV.bool Bool.false)))] S333 K)
noncomputable def F48_q26 (D J : Disp) (S : St) (p0 : PV) (p1 : PV) (l4 : LV) (b322 : Bk) (n323 : Nat) (K : AV → St → Prop) : Prop :=
 let n324 : Nat := (n323 + 4);
 St.at S b322 n324 fun y325 =>
 uncK y325 fun v326 y327 =>
 SV.cI IntKind.u64 v326 fun x331 =>
 D 45 [(AV.one (V1.s (SV.int IntKind.u64 x331)))] S fun v332 S333 =>
 scK v332 fun v335 =>
 SV.cS v335 fun y339 =>
 PV.cs p1 fun b340 n341 =>
 let n342 : Nat := (n341 + 6);
 St.at S333 b340 n342 fun y343 =>
 uncK y343 fun v344 y345 =>
 SV.cB v344 fun y347 =>
 F48_q25 D J p0 p1 l4 S333 y339 y347 K
noncomputable def F48_33 (D J : Disp) (p0 : PV) (p1 : PV) (l4 : LV) (s28 : (List Nat)) (c48 : Bool) (S : St) (K : AV → St → Prop) : Prop :=
 ifK c48
 (PV.cs p1 fun b300 n301 =>
 F48_q24 D J S p0 p1 l4 b300 n301 K)
 (let c321 : Bool := (leq s28 [99, 97, 115, 101]);
 ifK c321
 (PV.cs p1 fun b322 n323 =>
 F48_q26 D J S p0 p1 l4 b322 n323 K)
 (J 10 [(AV.one (V1.s (SV.ptr p0))), (AV.one (V1.s (SV.ptr p1))), (AV.one (V1.s (SV.sl l4)))] S K))
noncomputable def X48_33 : X := (.br (.op (.jmp 10 [0, 1, 4])) (.op (.br (.op (.op (.jmp 39 [0, 1, 4, 5, 75]))) (.jmp 10 [0, 1, 4]))))
theorem F48_33_eq (D J : Disp) (p0 : PV) (p1 : PV) (l4 : LV) (s28 : (List Nat)) (c48 : Bool) (S : St) (K : AV → St → Prop) : F48_33 D J p0 p1 l4 s28 c48 S K = execK SynP SynG Go.Proofs.Tryz.f48 (typed SynP D) J plans48 X48_33 (T48 33).1 (envOf (T48 33).2 [(AV.one (V1.s (SV.ptr p0))), (AV.one (V1.s (SV.ptr p1))), (AV.one (V1.s (SV.sl l4))), (AV.one (V1.s (SV.str s28))), (AV.one (V1.s (SV.bool c48)))]) S K := by kernel_rfl
noncomputable def F48_39 (D J : Disp) (p0 : PV) (p1 : PV) (l4 : LV) (s5 : (List Nat)) (c75 : Bool) (S : St) (K : AV → St → Prop) : Prop :=
 ifK c75
 (req (Nat.blt (1 + (List.length s5)) 9223372036854775808) <|
 let s300 : (List Nat) := ([45] ++ s5);
 J 41 [(AV.one (V1.s (SV.ptr p0))), (AV.one (V1.s (SV.ptr p1))), (AV.one (V1.s (SV.sl l4))), (AV.one (V1.s (SV.str s300)))] S K)
 (J 41 [(AV.one (V1.s (SV.ptr p0))), (AV.one (V1.s (SV.ptr p1))), (AV.one (V1.s (SV.sl l4))), (AV.one (V1.s (SV.str s5)))] S K)
noncomputable def X48_39 : X := (.br (.op (.jmp 41 [0, 1, 4, 5])) (.jmp 41 [0, 1, 4, 5]))
theorem F48_39_eq (D J : Disp) (p0 : PV) (p1 : PV) (l4 : LV) (s5 : (List Nat)) (c75 : Bool) (S : St) (K : AV → St → Prop) : F48_39 D J p0 p1 l4 s5 c75 S K = execK SynP SynG Go.Proofs.Tryz.f48 (typed SynP D) J plans48 X48_39 (T48 39).1 (envOf (T48 39).2 [(AV.one (V1.s (SV.ptr p0))), (AV.one (V1.s (SV.ptr p1))), (AV.one (V1.s (SV.sl l4))), (AV.one (V1.s (SV.str s5))), (AV.one (V1.s (SV.bool c75)))]) S K := by kernel_rfl
noncomputable def F48_41 (D J : Disp) (p0 : PV) (p1 : PV) (l4 : LV) (s5 : (List Nat)) (S : St) (K : AV → St → Prop) : Prop :=
 let d300 : (Sum Nat Nat) := (Sum.inl 1);
 let S301 : St := (St.add S (AO.cells [(SV.str s5)] Op2.sh));
 St.src S301 1 (LV.mk (Bk.new (St.next S)) 0 1 d300) fun y302 n303 =>
 St.app S301 9 1 16 l4 y302 n303 fun y304 S305 =>
 J 10 [(AV.one (V1.s (SV.ptr p0))), (AV.one (V1.s (SV.ptr p1))), (AV.one (V1.s (SV.sl y304)))] S305 K
noncomputable def X48_41 : X := (.op (.jmp 10 [0, 1, 4]))
theorem F48_41_eq (D J : Disp) (p0 : PV) (p1 : PV) (l4 : LV) (s5 : (List Nat)) (S : St) (K : AV → St → Prop) : F48_41 D J p0 p1 l4 s5 S K = execK SynP SynG Go.Proofs.Tryz.f48 (typed SynP D) J plans48 X48_41 (T48 41).1 (envOf (T48 41).2 [(AV.one (V1.s (SV.ptr p0))), (AV.one (V1.s (SV.ptr p1))), (AV.one (V1.s (SV.sl l4))), (AV.one (V1.s (SV.str s5)))]) S K := by kernel_rfl
noncomputable abbrev A48_0 (D J : Disp) (vals : List AV) (S : St) (K : AV → St → Prop) : Prop :=
  uncA vals fun a9001 r9002 => scK a9001 fun s9004 => SV.cP s9004 fun p0 => uncA r9002 fun a9007 r9008 => scK a9007 fun s9010 => SV.cP s9010 fun p1 => endL r9008 <| F48_0 D J p0 p1 S K
theorem A48_0_ok {D J : Disp} (hD : DOK SynP SynG D) (hJ : JOK SynP SynG Go.Proofs.Tryz.f48 T48 J) {vals : List AV} {S : St} {K : AV → St → Prop} (h0 : A48_0 D J vals S K) : Runs SynP SynG Go.Proofs.Tryz.f48 (T48 0).1 (envOf (T48 0).2 vals) S K := by
  obtain ⟨a9001, r9002, rfl, h3⟩ := uncA_some h0
  obtain ⟨s9004, rfl, h5⟩ := scK_some h3
  obtain ⟨p0, rfl, h6⟩ := cP_some h5
  obtain ⟨a9007, r9008, rfl, h9⟩ := uncA_some h6
  obtain ⟨s9010, rfl, h11⟩ := scK_some h9
  obtain ⟨p1, rfl, h12⟩ := cP_some h11
  obtain ⟨rfl, h13⟩ := endL_some h12
  rw [F48_0_eq] at h13
  exact execK_runs hD.typed Syn_zero Syn_mixed hJ X48_0 (T48 0).1 (envOf (T48 0).2 _) S K (chk_of (by kernel_rfl) (by kernel_rfl)) h13
noncomputable abbrev A48_10 (D J : Disp) (vals : List AV) (S : St) (K : AV → St → Prop) : Prop :=
  uncA vals fun a9001 r9002 => scK a9001 fun s9004 => SV.cP s9004 fun p0 => uncA r9002 fun a9007 r9008 => scK a9007 fun s9010 => SV.cP s9010 fun p1 => uncA r9008 fun a9013 r9014 => scK a9013 fun s9016 => SV.cL s9016 fun l4 => endL r9014 <| F48_10 D J p0 p1 l4 S K
theorem A48_10_ok {D J : Disp} (hD : DOK SynP SynG D) (hJ : JOK SynP SynG Go.Proofs.Tryz.f48 T48 J) {vals : List AV} {S : St} {K : AV → St → Prop} (h0 : A48_10 D J vals S K) : Runs SynP SynG Go.Proofs.Tryz.f48 (T48 10).1 (envOf (T48 10).2 vals) S K := by
  obtain ⟨a9001, r9002, rfl, h3⟩ := uncA_some h0
  obtain ⟨s9004, rfl, h5⟩ := scK_some h3
  obtain ⟨p0, rfl, h6⟩ := cP_some h5
  obtain ⟨a9007, r9008, rfl, h9⟩ := uncA_some h6
  obtain ⟨s9010, rfl, h11⟩ := scK_some h9
  obtain ⟨p1, rfl, h12⟩ := cP_some h11
  obtain ⟨a9013, r9014, rfl, h15⟩ := uncA_some h12
  obtain ⟨s9016, rfl, h17⟩ := scK_some h15
  obtain ⟨l4, rfl, h18⟩ := cL_some h17
  obtain ⟨rfl, h19⟩ := endL_some h18
  rw [F48_10_eq] at h19
  exact execK_runs hD.typed Syn_zero Syn_mixed hJ X48_10 (T48 10).1 (envOf (T48 10).2 _) S K (chk_of (by kernel_rfl) (by kernel_rfl)) h19
noncomputable abbrev A48_18 (D J : Disp) (vals : List AV) (S : St) (K : AV → St → Prop) : Prop :=
  uncA vals fun a9001 r9002 => scK a9001 fun s9004 => SV.cP s9004 fun p0 => uncA r9002 fun a9007 r9008 => scK a9007 fun s9010 => SV.cP s9010 fun p1 => uncA r9008 fun a9013 r9014 => scK a9013 fun s9016 => SV.cL s9016 fun l111 => uncA r9014 fun a9019 r9020 => scK a9019 fun s9022 => SV.cI IntKind.i64 s9022 fun x112 => uncA r9020 fun a9025 r9026 => scK a9025 fun s9028 => SV.cI IntKind.i64 s9028 fun x113 => endL r9026 <| F48_18 D J p0 p1 l111 x112 x113 S K
theorem A48_18_ok {D J : Disp} (hD : DOK SynP SynG D) (hJ : JOK SynP SynG Go.Proofs.Tryz.f48 T48 J) {vals : List AV} {S : St} {K : AV → St → Prop} (h0 : A48_18 D J vals S K) : Runs SynP SynG Go.Proofs.Tryz.f48 (T48 18).1 (envOf (T48 18).2 vals) S K := by
  obtain ⟨a9001, r9002, rfl, h3⟩ := uncA_some h0
  obtain ⟨s9004, rfl, h5⟩ := scK_some h3
  obtain ⟨p0, rfl, h6⟩ := cP_some h5
  obtain ⟨a9007, r9008, rfl, h9⟩ := uncA_some h6
  obtain ⟨s9010, rfl, h11⟩ := scK_some h9
  obtain ⟨p1, rfl, h12⟩ := cP_some h11
  obtain ⟨a9013, r9014, rfl, h15⟩ := uncA_some h12
  obtain ⟨s9016, rfl, h17⟩ := scK_some h15
  obtain ⟨l111, rfl, h18⟩ := cL_some h17
  obtain ⟨a9019, r9020, rfl, h21⟩ := uncA_some h18
  obtain ⟨s9022, rfl, h23⟩ := scK_some h21
  obtain ⟨x112, rfl, h24⟩ := cI_some h23
  obtain ⟨a9025, r9026, rfl, h27⟩ := uncA_some h24
  obtain ⟨s9028, rfl, h29⟩ := scK_some h27
  obtain ⟨x113, rfl, h30⟩ := cI_some h29
  obtain ⟨rfl, h31⟩ := endL_some h30
  rw [F48_18_eq] at h31
  exact execK_runs hD.typed Syn_zero Syn_mixed hJ X48_18 (T48 18).1 (envOf (T48 18).2 _) S K (chk_of (by kernel_rfl) (by kernel_rfl)) h31
noncomputable abbrev A48_24 (D J : Disp) (vals : List AV) (S : St) (K : AV → St → Prop) : Prop :=
  uncA vals fun a9001 r9002 => scK a9001 fun s9004 => SV.cP s9004 fun p0 => uncA r9002 fun a9007 r9008 => scK a9007 fun s9010 => SV.cL s9010 fun l124 => uncA r9008 fun a9013 r9014 => scK a9013 fun s9016 => SV.cI IntKind.i64 s9016 fun x125 => uncA r9014 fun a9019 r9020 => scK a9019 fun s9022 => SV.cI IntKind.i64 s9022 fun x126 => endL r9020 <| F48_24 D J p0 l124 x125 x126 S K
theorem A48_24_ok {D J : Disp} (hD : DOK SynP SynG D) (hJ : JOK SynP SynG Go.Proofs.Tryz.f48 T48 J) {vals : List AV} {S : St} {K : AV → St → Prop} (h0 : A48_24 D J vals S K) : Runs SynP SynG Go.Proofs.Tryz.f48 (T48 24).1 (envOf (T48 24).2 vals) S K := by
  obtain ⟨a9001, r9002, rfl, h3⟩ := uncA_some h0
  obtain ⟨s9004, rfl, h5⟩ := scK_some h3
  obtain ⟨p0, rfl, h6⟩ := cP_some h5
  obtain ⟨a9007, r9008, rfl, h9⟩ := uncA_some h6
  obtain ⟨s9010, rfl, h11⟩ := scK_some h9
  obtain ⟨l124, rfl, h12⟩ := cL_some h11
  obtain ⟨a9013, r9014, rfl, h15⟩ := uncA_some h12
  obtain ⟨s9016, rfl, h17⟩ := scK_some h15
  obtain ⟨x125, rfl, h18⟩ := cI_some h17
  obtain ⟨a9019, r9020, rfl, h21⟩ := uncA_some h18
  obtain ⟨s9022, rfl, h23⟩ := scK_some h21
  obtain ⟨x126, rfl, h24⟩ := cI_some h23
  obtain ⟨rfl, h25⟩ := endL_some h24
  rw [F48_24_eq] at h25
  exact execK_runs hD.typed Syn_zero Syn_mixed hJ X48_24 (T48 24).1 (envOf (T48 24).2 _) S K (chk_of (by kernel_rfl) (by kernel_rfl)) h25
noncomputable abbrev A48_33 (D J : Disp) (vals : List AV) (S : St) (K : AV → St → Prop) : Prop :=
  uncA vals fun a9001 r9002 => scK a9001 fun s9004 => SV.cP s9004 fun p0 => uncA r9002 fun a9007 r9008 => scK a9007 fun s9010 => SV.cP s9010 fun p1 => uncA r9008 fun a9013 r9014 => scK a9013 fun s9016 => SV.cL s9016 fun l4 => uncA r9014 fun a9019 r9020 => scK a9019 fun s9022 => SV.cS s9022 fun s28 => uncA r9020 fun a9025 r9026 => scK a9025 fun s9028 => SV.cB s9028 fun c48 => endL r9026 <| F48_33 D J p0 p1 l4 s28 c48 S K
theorem A48_33_ok {D J : Disp} (hD : DOK SynP SynG D) (hJ : JOK SynP SynG Go.Proofs.Tryz.f48 T48 J) {vals : List AV} {S : St} {K : AV → St → Prop} (h0 : A48_33 D J vals S K) : Runs SynP SynG Go.Proofs.Tryz.f48 (T48 33).1 (envOf (T48 33).2 vals) S K := by
  obtain ⟨a9001, r9002, rfl, h3⟩ := uncA_some h0
  obtain ⟨s9004, rfl, h5⟩ := scK_some h3
  obtain ⟨p0, rfl, h6⟩ := cP_some h5
  obtain ⟨a9007, r9008, rfl, h9⟩ := uncA_some h6
  obtain ⟨s9010, rfl, h11⟩ := scK_some h9
  obtain ⟨p1, rfl, h12⟩ := cP_some h11
  obtain ⟨a9013, r9014, rfl, h15⟩ := uncA_some h12
  obtain ⟨s9016, rfl, h17⟩ := scK_some h15
  obtain ⟨l4, rfl, h18⟩ := cL_some h17
  obtain ⟨a9019, r9020, rfl, h21⟩ := uncA_some h18
  obtain ⟨s9022, rfl, h23⟩ := scK_some h21
  obtain ⟨s28, rfl, h24⟩ := cS_some h23
  obtain ⟨a9025, r9026, rfl, h27⟩ := uncA_some h24
  obtain ⟨s9028, rfl, h29⟩ := scK_some h27
  obtain ⟨c48, rfl, h30⟩ := cB_some h29
  obtain ⟨rfl, h31⟩ := endL_some h30
  rw [F48_33_eq] at h31
  exact execK_runs hD.typed Syn_zero Syn_mixed hJ X48_33 (T48 33).1 (envOf (T48 33).2 _) S K (chk_of (by kernel_rfl) (by kernel_rfl)) h31
noncomputable abbrev A48_39 (D J : Disp) (vals : List AV) (S : St) (K : AV → St → Prop) : Prop :=
  uncA vals fun a9001 r9002 => scK a9001 fun s9004 => SV.cP s9004 fun p0 => uncA r9002 fun a9007 r9008 => scK a9007 fun s9010 => SV.cP s9010 fun p1 => uncA r9008 fun a9013 r9014 => scK a9013 fun s9016 => SV.cL s9016 fun l4 => uncA r9014 fun a9019 r9020 => scK a9019 fun s9022 => SV.cS s9022 fun s5 => uncA r9020 fun a9025 r9026 => scK a9025 fun s9028 => SV.cB s9028 fun c75 => endL r9026 <| F48_39 D J p0 p1 l4 s5 c75 S K
theorem A48_39_ok {D J : Disp} (hD : DOK SynP SynG D) (hJ : JOK SynP SynG Go.Proofs.Tryz.f48 T48 J) {vals : List AV} {S : St} {K : AV → St → Prop} (h0 : A48_39 D J vals S K) : Runs SynP SynG Go.Proofs.Tryz.f48 (T48 39).1 (envOf (T48 39).2 vals) S K := by
  obtain ⟨a9001, r9002, rfl, h3⟩ := uncA_some h0
  obtain ⟨s9004, rfl, h5⟩ := scK_some h3
  obtain ⟨p0, rfl, h6⟩ := cP_some h5
  obtain ⟨a9007, r9008, rfl, h9⟩ := uncA_some h6
  obtain ⟨s9010, rfl, h11⟩ := scK_some h9
  obtain ⟨p1, rfl, h12⟩ := cP_some h11
  obtain ⟨a9013, r9014, rfl, h15⟩ := uncA_some h12
  obtain ⟨s9016, rfl, h17⟩ := scK_some h15
  obtain ⟨l4, rfl, h18⟩ := cL_some h17
  obtain ⟨a9019, r9020, rfl, h21⟩ := uncA_some h18
  obtain ⟨s9022, rfl, h23⟩ := scK_some h21
  obtain ⟨s5, rfl, h24⟩ := cS_some h23
  obtain ⟨a9025, r9026, rfl, h27⟩ := uncA_some h24
  obtain ⟨s9028, rfl, h29⟩ := scK_some h27
  obtain ⟨c75, rfl, h30⟩ := cB_some h29
  obtain ⟨rfl, h31⟩ := endL_some h30
  rw [F48_39_eq] at h31
  exact execK_runs hD.typed Syn_zero Syn_mixed hJ X48_39 (T48 39).1 (envOf (T48 39).2 _) S K (chk_of (by kernel_rfl) (by kernel_rfl)) h31
noncomputable abbrev A48_41 (D J : Disp) (vals : List AV) (S : St) (K : AV → St → Prop) : Prop :=
  uncA vals fun a9001 r9002 => scK a9001 fun s9004 => SV.cP s9004 fun p0 => uncA r9002 fun a9007 r9008 => scK a9007 fun s9010 => SV.cP s9010 fun p1 => uncA r9008 fun a9013 r9014 => scK a9013 fun s9016 => SV.cL s9016 fun l4 => uncA r9014 fun a9019 r9020 => scK a9019 fun s9022 => SV.cS s9022 fun s5 => endL r9020 <| F48_41 D J p0 p1 l4 s5 S K
theorem A48_41_ok {D J : Disp} (hD : DOK SynP SynG D) (hJ : JOK SynP SynG Go.Proofs.Tryz.f48 T48 J) {vals : List AV} {S : St} {K : AV → St → Prop} (h0 : A48_41 D J vals S K) : Runs SynP SynG Go.Proofs.Tryz.f48 (T48 41).1 (envOf (T48 41).2 vals) S K := by
  obtain ⟨a9001, r9002, rfl, h3⟩ := uncA_some h0
  obtain ⟨s9004, rfl, h5⟩ := scK_some h3
  obtain ⟨p0, rfl, h6⟩ := cP_some h5
  obtain ⟨a9007, r9008, rfl, h9⟩ := uncA_some h6
  obtain ⟨s9010, rfl, h11⟩ := scK_some h9
  obtain ⟨p1, rfl, h12⟩ := cP_some h11
  obtain ⟨a9013, r9014, rfl, h15⟩ := uncA_some h12
  obtain ⟨s9016, rfl, h17⟩ := scK_some h15
  obtain ⟨l4, rfl, h18⟩ := cL_some h17
  obtain ⟨a9019, r9020, rfl, h21⟩ := uncA_some h18
  obtain ⟨s9022, rfl, h23⟩ := scK_some h21
  obtain ⟨s5, rfl, h24⟩ := cS_some h23
  obtain ⟨rfl, h25⟩ := endL_some h24
  rw [F48_41_eq] at h25
  exact execK_runs hD.typed Syn_zero Syn_mixed hJ X48_41 (T48 41).1 (envOf (T48 41).2 _) S K (chk_of (by kernel_rfl) (by kernel_rfl)) h25
noncomputable def J48 (D : Disp) (k : Nat) : Disp := Nat.rec (motive := fun _ => Disp) Disp.no (fun _ ih => Disp.add 0 (A48_0 D ih) <| Disp.add 10 (A48_10 D ih) <| Disp.add 18 (A48_18 D ih) <| Disp.add 24 (A48_24 D ih) <| Disp.add 33 (A48_33 D ih) <| Disp.add 39 (A48_39 D ih) <| Disp.add 41 (A48_41 D ih) <| Disp.no) k
theorem J48_ok {D : Disp} (hD : DOK SynP SynG D) : ∀ k, JOK SynP SynG Go.Proofs.Tryz.f48 T48 (J48 D k)
  | 0 => JOK.no
  | k + 1 => JOK.add (ltB_ok (by kernel_rfl)) (fun vals S K h => A48_0_ok hD (J48_ok hD k) h) <| JOK.add (ltB_ok (by kernel_rfl)) (fun vals S K h => A48_10_ok hD (J48_ok hD k) h) <| JOK.add (ltB_ok (by kernel_rfl)) (fun vals S K h => A48_18_ok hD (J48_ok hD k) h) <| JOK.add (ltB_ok (by kernel_rfl)) (fun vals S K h => A48_24_ok hD (J48_ok hD k) h) <| JOK.add (ltB_ok (by kernel_rfl)) (fun vals S K h => A48_33_ok hD (J48_ok hD k) h) <| JOK.add (ltB_ok (by kernel_rfl)) (fun vals S K h => A48_39_ok hD (J48_ok hD k) h) <| JOK.add (ltB_ok (by kernel_rfl)) (fun vals S K h => A48_41_ok hD (J48_ok hD k) h) <| JOK.no
theorem E48_ok {D : Disp} (hD : DOK SynP SynG D) (k : Nat) {args : List AV} {S : St} {K : AV → St → Prop} (h : A48_0 D (J48 D k) args S K) : CallE SynP SynG 48 args S K := by
  have hr := A48_0_ok hD (J48_ok hD k) h
  have hl : args.length = 2 := by
    have h0 := h
    obtain ⟨a9001, r9002, rfl, h3⟩ := uncA_some h0
    obtain ⟨s9004, rfl, h5⟩ := scK_some h3
    obtain ⟨p0, rfl, h6⟩ := cP_some h5
    obtain ⟨a9007, r9008, rfl, h9⟩ := uncA_some h6
    obtain ⟨s9010, rfl, h11⟩ := scK_some h9
    obtain ⟨p1, rfl, h12⟩ := cP_some h11
    obtain ⟨rfl, h13⟩ := endL_some h12
    rfl
  refine callOK_of (fn := Go.Proofs.Tryz.f48) (c := (match Go.Proofs.Tryz.f48.body with | some c => c | none => .skip)) (by kernel_rfl) (by kernel_rfl) (by kernel_rfl) (by rw [hl]; kernel_rfl) (by kernel_rfl) ?_
  rw [hl]
  exact hr
noncomputable def plans53 (i : Nat) : Plan := []
noncomputable def T53 (p : Nat) : List Item × List Nat := bif Nat.beq p 0 then ([.code (match Go.Proofs.Tryz.f53.body with | some c => c | none => .skip)], [0]) else
  ([], [])
noncomputable def F53_0 (D J : Disp) (x0 : Int) (S : St) (K : AV → St → Prop) : Prop :=
 let c300 : Bool := (ile (48 : Int) x0);
 ifK c300
 (let c301 : Bool := (ile x0 (57 : Int));
 K ((AV.one (V1.s (SV.bool c301)))) S)
 (K ((AV.one (V1.s (SV.bool Bool.false)))) S)
noncomputable def X53_0 : X := (.op (.op .ret))
theorem F53_0_eq (D J : Disp) (x0 : Int) (S : St) (K : AV → St → Prop) : F53_0 D J x0 S K = execK SynP SynG Go.Proofs.Tryz.f53 (typed SynP D) J plans53 X53_0 (T53 0).1 (envOf (T53 0).2 [(AV.one (V1.s (SV.int IntKind.u8 x0)))]) S K := by kernel_rfl
noncomputable abbrev A53_0 (D J : Disp) (vals : List AV) (S : St) (K : AV → St → Prop) : Prop :=
  uncA vals fun a9001 r9002 => scK a9001 fun s9004 => SV.cI IntKind.u8 s9004 fun x0 => endL r9002 <| F53_0 D J x0 S K
theorem A53_0_ok {D J : Disp} (hD : DOK SynP SynG D) (hJ : JOK SynP SynG Go.Proofs.Tryz.f53 T53 J) {vals : List AV} {S : St} {K : AV → St → Prop} (h0 : A53_0 D J vals S K) : Runs SynP SynG Go.Proofs.Tryz.f53 (T53 0).1 (envOf (T53 0).2 vals) S K := by
  obtain ⟨a9001, r9002, rfl, h3⟩ := uncA_some h0
  obtain ⟨s9004, rfl, h5⟩ := scK_some h3
  obtain ⟨x0, rfl, h6⟩ := cI_some h5
  obtain ⟨rfl, h7⟩ := endL_some h6
  rw [F53_0_eq] at h7
  exact execK_runs hD.typed Syn_zero Syn_mixed hJ X53_0 (T53 0).1 (envOf (T53 0).2 _) S K (chk_of (by kernel_rfl) (by kernel_rfl)) h7
noncomputable def J53 (D : Disp) (k : Nat) : Disp := Nat.rec (motive := fun _ => Disp) Disp.no (fun _ ih => Disp.add 0 (A53_0 D ih) <| Disp.no) k
theorem J53_ok {D : Disp} (hD : DOK SynP SynG D) : ∀ k, JOK SynP SynG Go.Proofs.Tryz.f53 T53 (J53 D k)
  | 0 => JOK.no
  | k + 1 => JOK.add (ltB_ok (by kernel_rfl)) (fun vals S K h => A53_0_ok hD (J53_ok hD k) h) <| JOK.no
theorem E53_ok {D : Disp} (hD : DOK SynP SynG D) (k : Nat) {args : List AV} {S : St} {K : AV → St → Prop} (h : A53_0 D (J53 D k) args S K) : CallE SynP SynG 53 args S K := by
  have hr := A53_0_ok hD (J53_ok hD k) h
  have hl : args.length = 1 := by
    have h0 := h
    obtain ⟨a9001, r9002, rfl, h3⟩ := uncA_some h0
    obtain ⟨s9004, rfl, h5⟩ := scK_some h3
    obtain ⟨x0, rfl, h6⟩ := cI_some h5
    obtain ⟨rfl, h7⟩ := endL_some h6
    rfl
  refine callOK_of (fn := Go.Proofs.Tryz.f53) (c := (match Go.Proofs.Tryz.f53.body with | some c => c | none => .skip)) (by kernel_rfl) (by kernel_rfl) (by kernel_rfl) (by rw [hl]; kernel_rfl) (by kernel_rfl) ?_
  rw [hl]
  exact hr
noncomputable def plans54 (i : Nat) : Plan := if Nat.beq i 1 then [(0, []), (1, [0]), (2, [1, 0]), (3, [2, 1, 0]), (4, []), (5, [4]), (6, [5, 4]), (7, [6, 5, 4]), (8, [3, 7, 2, 6, 1, 5, 0, 4]), (9, [8, 0, 1, 2, 3, 4, 5, 6, 7])] else if Nat.beq i 9 then [(0, []), (1, [0]), (2, [1, 0]), (3, [2, 1, 0]), (4, [1, 0]), (5, [4, 1, 0]), (6, [1, 0]), (7, [5, 6, 1, 4, 0]), (8, [3, 7, 1, 2, 5, 6, 0, 4]), (9, [1, 8, 0, 3, 7, 2, 5, 6, 4])] else []
noncomputable def T54 (p : Nat) : List Item × List Nat := bif Nat.beq p 0 then ([.code (match Go.Proofs.Tryz.f54.body with | some c => c | none => .skip)], [0]) else
  bif Nat.beq p 7 then (navs [.op, .op, .op, .op, .op, .th, .op] [.code (match Go.Proofs.Tryz.f54.body with | some c => c | none => .skip)], [0, 2, 4, 5, 6, 7]) else
  bif Nat.beq p 8 then (navs [.op, .op, .op, .op, .op, .th, .op, .op] [.code (match Go.Proofs.Tryz.f54.body with | some c => c | none => .skip)], [0, 2, 4, 5, 6, 7, 8, 9]) else
  bif Nat.beq p 9 then (navs [.op, .op, .op, .op, .op, .th, .op, .op, .op] [.code (match Go.Proofs.Tryz.f54.body with | some c => c | none => .skip)], [0, 2, 4, 5, 6, 7, 8, 9, 54]) else
  bif Nat.beq p 12 then (navs [.op, .op, .op, .op, .op, .th, .op, .op, .op, .th, .op, .op] [.code (match Go.Proofs.Tryz.f54.body with | some c => c | none => .skip)], [0, 2, 4, 5, 6, 7, 8, 9, 10]) else
  bif Nat.beq p 16 then (navs [.op, .op, .op, .op, .op, .th, .op, .op, .op, .el, .op] [.code (match Go.Proofs.Tryz.f54.body with | some c => c | none => .skip)], [0, 2, 4, 5, 7, 8, 9, 82, 83, 84]) else
  bif Nat.beq p 23 then (navs [.op, .op, .op, .op, .op, .th, .op, .op, .op, .el, .op, .op, .th, .op, .op, .th, .op, .op] [.code (match Go.Proofs.Tryz.f54.body with | some c => c | none => .skip)], [0, 2, 4, 5, 7, 8, 9]) else
  bif Nat.beq p 24 then (navs [.op, .op, .op, .op, .op, .th, .op, .op, .op, .el, .op, .op, .th, .op, .op, .th, .op, .op, .op] [.code (match Go.Proofs.Tryz.f54.body with | some c => c | none => .skip)], [0, 2, 4, 5, 7, 9, 100]) else
  ([], [])
noncomputable def F54_q24 (D J : Disp) (S : St) (p0 : PV) (S300 : St) (s322 : (List Nat)) (S336 : St) (y339 : Bool) (K : AV → St → Prop) : Prop :=
 ifK y339
 (St.wr S336 (Bk.new (St.next S300)) 5 [(SV.bool Bool.true)] fun S340 =>
 J 7 [(AV.one (V1.s (SV.ptr p0))), (AV.one (V1.s (SV.ptr (PV.mk (Bk.new (St.next S)) 0)))), (AV.one (V1.s (SV.str s322))), (AV.one (V1.s (SV.ptr (PV.mk (Bk.new (St.next S300)) 0)))), (AV.one (V1.s (SV.int IntKind.u64 (16 : Int)))), (AV.one (V1.s (SV.int IntKind.i64 (2 : Int))))] S340 K)
 (J 7 [(AV.one (V1.s (SV.ptr p0))), (AV.one (V1.s (SV.ptr (PV.mk (Bk.new (St.next S)) 0)))), (AV.one (V1.s (SV.str s322))), (AV.one (V1.s (SV.ptr (PV.mk (Bk.new (St.next S300)) 0)))), (AV.one (V1.s (SV.int IntKind.u64 (10 : Int)))), (AV.one (V1.s (SV.int IntKind.i64 (0 : Int))))] S336 K)
noncomputable def F54_q25 (D J : Disp) (S : St) (p0 : PV) (S300 : St) (s322 : (List Nat)) (x332 : Int) (K : AV → St → Prop) : Prop :=
 let S333 : St := (St.add S300 (AO.cells [(SV.int IntKind.i64 (0 : Int)), (SV.int IntKind.i64 (0 : Int)), (SV.str []), (SV.str []), (SV.int IntKind.u64 (0 : Int)), (SV.bool Bool.false)] (Op2.ty 76)));
 St.wr S333 (Bk.new (St.next S300)) 0 [(SV.int IntKind.i64 (3 : Int)), (SV.int IntKind.i64 x332), (SV.str []), (SV.str []), (SV.int IntKind.u64 (0 : Int)), (SV.bool Bool.false)] fun S334 =>
 D 50 [(AV.one (V1.s (SV.str s322))), (AV.one (V1.s (SV.str [48, 120])))] S334 fun v335 S336 =>
 scK v335 fun v338 =>
 SV.cB v338 fun y339 =>
 F54_q24 D J S p0 S300 s322 S336 y339 K
noncomputable def F54_q26 (D J : Disp) (S : St) (p0 : PV) (S300 : St) (y311 : (List Nat)) (x321 : Int) (K : AV → St → Prop) : Prop :=
 req (Bool.and (ile (0 : Int) (oInt (Option.some x321) (0 : Int))) (Bool.and (ile (oInt (Option.some x321) (0 : Int)) (oInt Option.none (Int.ofNat (List.length y311)))) (ile (oInt Option.none (Int.ofNat (List.length y311))) (Int.ofNat (List.length y311))))) <|
 let s322 : (List Nat) := (List.take ((Int.toNat (oInt Option.none (Int.ofNat (List.length y311)))) - (Int.toNat (oInt (Option.some x321) (0 : Int)))) (List.drop (Int.toNat (oInt (Option.some x321) (0 : Int))) y311));
 PV.cs p0 fun b323 n324 =>
 let n325 : Nat := (n324 + 1);
 St.at S300 b323 n325 fun y326 =>
 uncK y326 fun v327 y328 =>
 SV.cI IntKind.i64 v327 fun x332 =>
 F54_q25 D J S p0 S300 s322 x332 K
noncomputable def F54_0 (D J : Disp) (p0 : PV) (S : St) (K : AV → St → Prop) : Prop :=
 let S300 : St := (St.add S (AO.cells [(SV.int IntKind.i64 (0 : Int)), (SV.int IntKind.i64 (0 : Int)), (SV.str []), (SV.str []), (SV.int IntKind.u64 (0 : Int)), (SV.bool Bool.false)] (Op2.ty 76)));
 PV.cs p0 fun b301 n302 =>
 let n303 : Nat := (n302 + 0);
 St.at S300 b301 n303 fun y304 =>
 uncK y304 fun v305 y306 =>
 SV.cS v305 fun y311 =>
 PV.cs p0 fun b312 n313 =>
 let n314 : Nat := (n313 + 1);
 St.at S300 b312 n314 fun y315 =>
 uncK y315 fun v316 y317 =>
 SV.cI IntKind.i64 v316 fun x321 =>
 F54_q26 D J S p0 S300 y311 x321 K
noncomputable def X54_0 : X := (.op (.op (.op (.op (.op (.br (.op (.jmp 7 [0, 2, 4, 5, 6, 7])) (.jmp 7 [0, 2, 4, 5, 6, 7])))))))
theorem F54_0_eq (D J : Disp) (p0 : PV) (S : St) (K : AV → St → Prop) : F54_0 D J p0 S K = execK SynP SynG Go.Proofs.Tryz.f54 (typed SynP D) J plans54 X54_0 (T54 0).1 (envOf (T54 0).2 [(AV.one (V1.s (SV.ptr p0)))]) S K := by kernel_rfl
noncomputable def F54_7 (D J : Disp) (p0 : PV) (p2 : PV) (s4 : (List Nat)) (p5 : PV) (x6 : Int) (x7 : Int) (S : St) (K : AV → St → Prop) : Prop :=
 J 8 [(AV.one (V1.s (SV.ptr p0))), (AV.one (V1.s (SV.ptr p2))), (AV.one (V1.s (SV.str s4))), (AV.one (V1.s (SV.ptr p5))), (AV.one (V1.s (SV.int IntKind.u64 x6))), (AV.one (V1.s (SV.int IntKind.i64 x7))), (AV.one (V1.s (SV.int IntKind.i64 (0 : Int)))), (AV.one (V1.s (SV.bool Bool.false)))] S K
noncomputable def X54_7 : X := (.op (.jmp 8 [0, 2, 4, 5, 6, 7, 8, 9]))
theorem F54_7_eq (D J : Disp) (p0 : PV) (p2 : PV) (s4 : (List Nat)) (p5 : PV) (x6 : Int) (x7 : Int) (S : St) (K : AV → St → Prop) : F54_7 D J p0 p2 s4 p5 x6 x7 S K = execK SynP SynG Go.Proofs.Tryz.f54 (typed SynP D) J plans54 X54_7 (T54 7).1 (envOf (T54 7).2 [(AV.one (V1.s (SV.ptr p0))), (AV.one (V1.s (SV.ptr p2))), (AV.one (V1.s (SV.str s4))), (AV.one (V1.s (SV.ptr p5))), (AV.one (V1.s (SV.int IntKind.u64 x6))), (AV.one (V1.s (SV.int IntKind.i64 x7)))]) S K := by kernel_rfl
noncomputable def F54_q27 (D J : Disp) (p0 : PV) (p2 : PV) (s4 : (List Nat)) (p5 : PV) (x6 : Int) (x7 : Int) (x8 : Int) (c9 : Bool) (S304 : St) (K : AV → St → Prop) : Prop :=
 req (Bool.and Bool.true (ilt (0 : Int) (Int.ofNat (List.length s4)))) <|
 let x313 : Int := (Int.ofNat (List.getD s4 0 0));
 let c314 : Bool := (Bool.not (ieq x313 (48 : Int)));
 J 9 [(AV.one (V1.s (SV.ptr p0))), (AV.one (V1.s (SV.ptr p2))), (AV.one (V1.s (SV.str s4))), (AV.one (V1.s (SV.ptr p5))), (AV.one (V1.s (SV.int IntKind.u64 x6))), (AV.one (V1.s (SV.int IntKind.i64 x7))), (AV.one (V1.s (SV.int IntKind.i64 x8))), (AV.one (V1.s (SV.bool c9))), (AV.one (V1.s (SV.bool c314)))] S304 K
noncomputable def F54_q28 (D J : Disp) (p0 : PV) (p2 : PV) (s4 : (List Nat)) (p5 : PV) (x6 : Int) (x7 : Int) (x8 : Int) (c9 : Bool) (S304 : St) (c311 : Bool) (K : AV → St → Prop) : Prop :=
 ifK c311
 (J 9 [(AV.one (V1.s (SV.ptr p0))), (AV.one (V1.s (SV.ptr p2))), (AV.one (V1.s (SV.str s4))), (AV.one (V1.s (SV.ptr p5))), (AV.one (V1.s (SV.int IntKind.u64 x6))), (AV.one (V1.s (SV.int IntKind.i64 x7))), (AV.one (V1.s (SV.int IntKind.i64 x8))), (AV.one (V1.s (SV.bool c9))), (AV.one (V1.s (SV.bool Bool.true)))] S304 K)
 (let c312 : Bool := (ieq x6 (16 : Int));
 ifK c312
 (J 9 [(AV.one (V1.s (SV.ptr p0))), (AV.one (V1.s (SV.ptr p2))), (AV.one (V1.s (SV.str s4))), (AV.one (V1.s (SV.ptr p5))), (AV.one (V1.s (SV.int IntKind.u64 x6))), (AV.one (V1.s (SV.int IntKind.i64 x7))), (AV.one (V1.s (SV.int IntKind.i64 x8))), (AV.one (V1.s (SV.bool c9))), (AV.one (V1.s (SV.bool Bool.true)))] S304 K)
 (F54_q27 D J p0 p2 s4 p5 x6 x7 x8 c9 S304 K))
noncomputable def F54_q29 (D J : Disp) (p0 : PV) (p2 : PV) (s4 : (List Nat)) (p5 : PV) (x6 : Int) (x7 : Int) (x8 : Int) (c9 : Bool) (S304 : St) (x309 : Int) (K : AV → St → Prop) : Prop :=
 let c310 : Bool := (ile (0 : Int) x309);
 ifK c310
 (let c311 : Bool := (ieq x8 (0 : Int));
 F54_q28 D J p0 p2 s4 p5 x6 x7 x8 c9 S304 c311 K)
 (J 9 [(AV.one (V1.s (SV.ptr p0))), (AV.one (V1.s (SV.ptr p2))), (AV.one (V1.s (SV.str s4))), (AV.one (V1.s (SV.ptr p5))), (AV.one (V1.s (SV.int IntKind.u64 x6))), (AV.one (V1.s (SV.int IntKind.i64 x7))), (AV.one (V1.s (SV.int IntKind.i64 x8))), (AV.one (V1.s (SV.bool c9))), (AV.one (V1.s (SV.bool Bool.false)))] S304 K)
noncomputable def F54_q30 (D J : Disp) (S : St) (p0 : PV) (p2 : PV) (s4 : (List Nat)) (p5 : PV) (x6 : Int) (x7 : Int) (x8 : Int) (c9 : Bool) (c301 : Bool) (K : AV → St → Prop) : Prop :=
 ifK c301
 (req (Bool.and (ile (0 : Int) x7) (ilt x7 (Int.ofNat (List.length s4)))) <|
 let x302 : Int := (Int.ofNat (List.getD s4 (Int.toNat x7) 0));
 D 75 [(AV.one (V1.s (SV.int IntKind.u8 x302))), (AV.one (V1.s (SV.int IntKind.u64 x6)))] S fun v303 S304 =>
 scK v303 fun v306 =>
 SV.cI IntKind.i64 v306 fun x309 =>
 F54_q29 D J p0 p2 s4 p5 x6 x7 x8 c9 S304 x309 K)
 (J 9 [(AV.one (V1.s (SV.ptr p0))), (AV.one (V1.s (SV.ptr p2))), (AV.one (V1.s (SV.str s4))), (AV.one (V1.s (SV.ptr p5))), (AV.one (V1.s (SV.int IntKind.u64 x6))), (AV.one (V1.s (SV.int IntKind.i64 x7))), (AV.one (V1.s (SV.int IntKind.i64 x8))), (AV.one (V1.s (SV.bool c9))), (AV.one (V1.s (SV.bool Bool.false)))] S K)
noncomputable def F54_8 (D J : Disp) (p0 : PV) (p2 : PV) (s4 : (List Nat)) (p5 : PV) (x6 : Int) (x7 : Int) (x8 : Int) (c9 : Bool) (S : St) (K : AV → St → Prop) : Prop :=
 let x300 : Int := (Int.ofNat (List.length s4));
 let c301 : Bool := (ilt x7 x300);
 F54_q30 D J S p0 p2 s4 p5 x6 x7 x8 c9 c301 K
noncomputable def X54_8 : X := (.op (.jmp 9 [0, 2, 4, 5, 6, 7, 8, 9, 54]))
theorem F54_8_eq (D J : Disp) (p0 : PV) (p2 : PV) (s4 : (List Nat)) (p5 : PV) (x6 : Int) (x7 : Int) (x8 : Int) (c9 : Bool) (S : St) (K : AV → St → Prop) : F54_8 D J p0 p2 s4 p5 x6 x7 x8 c9 S K = execK SynP SynG Go.Proofs.Tryz.f54 (typed SynP D) J plans54 X54_8 (T54 8).1 (envOf (T54 8).2 [(AV.one (V1.s (SV.ptr p0))), (AV.one (V1.s (SV.ptr p2))), (AV.one (V1.s (SV.str s4))), (AV.one (V1.s (SV.ptr p5))), (AV.one (V1.s (SV.int IntKind.u64 x6))), (AV.one (V1.s (SV.int IntKind.i64 x7))), (AV.one (V1.s (SV.int IntKind.i64 x8))), (AV.one (V1.s (SV.bool c9)))]) S K := by kernel_rfl
noncomputable def F54_q31 (D J : Disp) (p0 : PV) (p2 : PV) (s4 : (List Nat)) (p5 : PV) (x6 : Int) (x7 : Int) (x8 : Int) (S302 : St) (x308 : Int) (x318 : Int) (x319 : Int) (K : AV → St → Prop) : Prop :=
 req (Bool.not (ieq x6 (0 : Int))) <|
 let x320 : Int := (iwrap IntKind.u64 (Int.tdiv x319 x6));
 let c321 : Bool := (ilt x320 x318);
 J 12 [(AV.one (V1.s (SV.ptr p0))), (AV.one (V1.s (SV.ptr p2))), (AV.one (V1.s (SV.str s4))), (AV.one (V1.s (SV.ptr p5))), (AV.one (V1.s (SV.int IntKind.u64 x6))), (AV.one (V1.s (SV.int IntKind.i64 x7))), (AV.one (V1.s (SV.int IntKind.i64 x8))), (AV.one (V1.s (SV.bool c321))), (AV.one (V1.s (SV.int IntKind.u64 x308)))] S302 K
noncomputable def F54_q32 (D J : Disp) (p0 : PV) (p2 : PV) (s4 : (List Nat)) (p5 : PV) (x6 : Int) (x7 : Int) (x8 : Int) (c9 : Bool) (S302 : St) (x308 : Int) (K : AV → St → Prop) : Prop :=
 ifK c9
 (J 12 [(AV.one (V1.s (SV.ptr p0))), (AV.one (V1.s (SV.ptr p2))), (AV.one (V1.s (SV.str s4))), (AV.one (V1.s (SV.ptr p5))), (AV.one (V1.s (SV.int IntKind.u64 x6))), (AV.one (V1.s (SV.int IntKind.i64 x7))), (AV.one (V1.s (SV.int IntKind.i64 x8))), (AV.one (V1.s (SV.bool Bool.true))), (AV.one (V1.s (SV.int IntKind.u64 x308)))] S302 K)
 (PV.cs p5 fun b309 n310 =>
 let n311 : Nat := (n310 + 4);
 St.at S302 b309 n311 fun y312 =>
 uncK y312 fun v313 y314 =>
 SV.cI IntKind.u64 v313 fun x318 =>
 let x319 : Int := (iwrap IntKind.u64 ((18446744073709551615 : Int) - x308));
 F54_q31 D J p0 p2 s4 p5 x6 x7 x8 S302 x308 x318 x319 K)
noncomputable def F54_q33 (D J : Disp) (S : St) (p0 : PV) (p2 : PV) (s4 : (List Nat)) (p5 : PV) (x7 : Int) (x8 : Int) (c9 : Bool) (d334 : (Sum Nat Nat)) (S335 : St) (K : AV → St → Prop) : Prop :=
 let x336 : Int := (Int.ofNat (LV.len (LV.mk (Bk.new (St.next S)) 0 3 d334)));
 J 16 [(AV.one (V1.s (SV.ptr p0))), (AV.one (V1.s (SV.ptr p2))), (AV.one (V1.s (SV.str s4))), (AV.one (V1.s (SV.ptr p5))), (AV.one (V1.s (SV.int IntKind.i64 x7))), (AV.one (V1.s (SV.int IntKind.i64 x8))), (AV.one (V1.s (SV.bool c9))), (AV.one (V1.s (SV.sl (LV.mk (Bk.new (St.next S)) 0 3 d334)))), (AV.one (V1.s (SV.int IntKind.i64 x336))), (AV.one (V1.s (SV.int IntKind.i64 (0 : Int))))] S335 K
noncomputable def F54_9 (D J : Disp) (p0 : PV) (p2 : PV) (s4 : (List Nat)) (p5 : PV) (x6 : Int) (x7 : Int) (x8 : Int) (c9 : Bool) (c54 : Bool) (S : St) (K : AV → St → Prop) : Prop :=
 ifK c54
 (req (Bool.and (ile (0 : Int) x7) (ilt x7 (Int.ofNat (List.length s4)))) <|
 let x300 : Int := (Int.ofNat (List.getD s4 (Int.toNat x7) 0));
 D 75 [(AV.one (V1.s (SV.int IntKind.u8 x300))), (AV.one (V1.s (SV.int IntKind.u64 x6)))] S fun v301 S302 =>
 scK v301 fun v304 =>
 SV.cI IntKind.i64 v304 fun x307 =>
 let x308 : Int := (iwrap IntKind.u64 x307);
 F54_q32 D J p0 p2 s4 p5 x6 x7 x8 c9 S302 x308 K)
 (let d334 : (Sum Nat Nat) := (Sum.inl 3);
 let S335 : St := (St.add S (AO.cells [(SV.str [117, 108]), (SV.str [117]), (SV.str [108])] Op2.sh));
 F54_q33 D J S p0 p2 s4 p5 x7 x8 c9 d334 S335 K)
noncomputable def X54_9 : X := (.br (.op (.op (.jmp 12 [0, 2, 4, 5, 6, 7, 8, 9, 10]))) (.op (.jmp 16 [0, 2, 4, 5, 7, 8, 9, 82, 83, 84])))
theorem F54_9_eq (D J : Disp) (p0 : PV) (p2 : PV) (s4 : (List Nat)) (p5 : PV) (x6 : Int) (x7 : Int) (x8 : Int) (c9 : Bool) (c54 : Bool) (S : St) (K : AV → St → Prop) : F54_9 D J p0 p2 s4 p5 x6 x7 x8 c9 c54 S K = execK SynP SynG Go.Proofs.Tryz.f54 (typed SynP D) J plans54 X54_9 (T54 9).1 (envOf (T54 9).2 [(AV.one (V1.s (SV.ptr p0))), (AV.one (V1.s (SV.ptr p2))), (AV.one (V1.s (SV.str s4))), (AV.one (V1.s (SV.ptr p5))), (AV.one (V1.s (SV.int IntKind.u64 x6))), (AV.one (V1.s (SV.int IntKind.i64 x7))), (AV.one (V1.s (SV.int IntKind.i64 x8))), (AV.one (V1.s (SV.bool c9))), (AV.one (V1.s (SV.bool c54)))]) S K := by kernel_rfl
noncomputable def F54_q34 (D J : Disp) (S : St) (p0 : PV) (p2 : PV) (s4 : (List Nat)) (p5 : PV) (x6 : Int) (x7 : Int) (x8 : Int) (c9 : Bool) (x311 : Int) (b312 : Bk) (n314 : Nat) (K : AV → St → Prop) : Prop :=
 St.wr S b312 n314 [(SV.int IntKind.u64 x311)] fun S315 =>
 let x316 : Int := (iwrap IntKind.i64 (x7 + (1 : Int)));
 let x317 : Int := (iwrap IntKind.i64 (x8 + (1 : Int)));
 J 8 [(AV.one (V1.s (SV.ptr p0))), (AV.one (V1.s (SV.ptr p2))), (AV.one (V1.s (SV.str s4))), (AV.one (V1.s (SV.ptr p5))), (AV.one (V1.s (SV.int IntKind.u64 x6))), (AV.one (V1.s (SV.int IntKind.i64 x316))), (AV.one (V1.s (SV.int IntKind.i64 x317))), (AV.one (V1.s (SV.bool c9)))] S315 K
noncomputable def F54_12 (D J : Disp) (p0 : PV) (p2 : PV) (s4 : (List Nat)) (p5 : PV) (x6 : Int) (x7 : Int) (x8 : Int) (c9 : Bool) (x10 : Int) (S : St) (K : AV → St → Prop) : Prop :=
 PV.cs p5 fun b300 n301 =>
 let n302 : Nat := (n301 + 4);
 St.at S b300 n302 fun y303 =>
 uncK y303 fun v304 y305 =>
 SV.cI IntKind.u64 v304 fun x309 =>
 let x310 : Int := (iwrap IntKind.u64 (x309 * x6));
 let x311 : Int := (iwrap IntKind.u64 (x310 + x10));
 PV.cs p5 fun b312 n313 =>
 let n314 : Nat := (n313 + 4);
 F54_q34 D J S p0 p2 s4 p5 x6 x7 x8 c9 x311 b312 n314 K
noncomputable def X54_12 : X := (.op (.op (.op (.jmp 8 [0, 2, 4, 5, 6, 7, 8, 9]))))
theorem F54_12_eq (D J : Disp) (p0 : PV) (p2 : PV) (s4 : (List Nat)) (p5 : PV) (x6 : Int) (x7 : Int) (x8 : Int) (c9 : Bool) (x10 : Int) (S : St) (K : AV → St → Prop) : F54_12 D J p0 p2 s4 p5 x6 x7 x8 c9 x10 S K = execK SynP SynG Go.Proofs.Tryz.f54 (typed SynP D) J plans54 X54_12 (T54 12).1 (envOf (T54 12).2 [(AV.one (V1.s (SV.ptr p0))), (AV.one (V1.s (SV.ptr p2))), (AV.one (V1.s (SV.str s4))), (AV.one (V1.s (SV.ptr p5))), (AV.one (V1.s (SV.int IntKind.u64 x6))), (AV.one (V1.s (SV.int IntKind.i64 x7))), (AV.one (V1.s (SV.int IntKind.i64 x8))), (AV.one (V1.s (SV.bool c9))), (AV.one (V1.s (SV.int IntKind.u64 x10)))]) S K := by kernel_rfl
noncomputable def F54_q35 (D J : Disp) (p0 : PV) (p2 : PV) (s4 : (List Nat)) (p5 : PV) (x7 : Int) (x8 : Int) (c9 : Bool) (y313 : (List Nat)) (S316 : St) (K : AV → St → Prop) : Prop :=
 PV.cs p5 fun b320 n321 =>
 let n322 : Nat := (n321 + 3);
 St.wr S316 b320 n322 [(SV.str y313)] fun S323 =>
 let x324 : Int := (Int.ofNat (List.length y313));
 let x325 : Int := (iwrap IntKind.i64 (x7 + x324));
 J 23 [(AV.one (V1.s (SV.ptr p0))), (AV.one (V1.s (SV.ptr p2))), (AV.one (V1.s (SV.str s4))), (AV.one (V1.s (SV.ptr p5))), (AV.one (V1.s (SV.int IntKind.i64 x325))), (AV.one (V1.s (SV.int IntKind.i64 x8))), (AV.one (V1.s (SV.bool c9)))] S323 K
noncomputable def F54_q36 (D J : Disp) (p0 : PV) (p2 : PV) (s4 : (List Nat)) (p5 : PV) (x7 : Int) (x8 : Int) (c9 : Bool) (l82 : LV) (x83 : Int) (x84 : Int) (y313 : (List Nat)) (S316 : St) (y319 : Bool) (K : AV → St → Prop) : Prop :=
 ifK y319
 (F54_q35 D J p0 p2 s4 p5 x7 x8 c9 y313 S316 K)
 (let x326 : Int := (iwrap IntKind.i64 (x84 + (1 : Int)));
 J 16 [(AV.one (V1.s (SV.ptr p0))), (AV.one (V1.s (SV.ptr p2))), (AV.one (V1.s (SV.str s4))), (AV.one (V1.s (SV.ptr p5))), (AV.one (V1.s (SV.int IntKind.i64 x7))), (AV.one (V1.s (SV.int IntKind.i64 x8))), (AV.one (V1.s (SV.bool c9))), (AV.one (V1.s (SV.sl l82))), (AV.one (V1.s (SV.int IntKind.i64 x83))), (AV.one (V1.s (SV.int IntKind.i64 x326)))] S316 K)
noncomputable def F54_q37 (D J : Disp) (S : St) (p0 : PV) (p2 : PV) (s4 : (List Nat)) (p5 : PV) (x7 : Int) (x8 : Int) (c9 : Bool) (l82 : LV) (x83 : Int) (x84 : Int) (y313 : (List Nat)) (K : AV → St → Prop) : Prop :=
 req (Bool.and (ile (0 : Int) (oInt (Option.some x7) (0 : Int))) (Bool.and (ile (oInt (Option.some x7) (0 : Int)) (oInt Option.none (Int.ofNat (List.length s4)))) (ile (oInt Option.none (Int.ofNat (List.length s4))) (Int.ofNat (List.length s4))))) <|
 let s314 : (List Nat) := (List.take ((Int.toNat (oInt Option.none (Int.ofNat (List.length s4)))) - (Int.toNat (oInt (Option.some x7) (0 : Int)))) (List.drop (Int.toNat (oInt (Option.some x7) (0 : Int))) s4));
 D 50 [(AV.one (V1.s (SV.str s314))), (AV.one (V1.s (SV.str y313)))] S fun v315 S316 =>
 scK v315 fun v318 =>
 SV.cB v318 fun y319 =>
 F54_q36 D J p0 p2 s4 p5 x7 x8 c9 l82 x83 x84 y313 S316 y319 K
noncomputable def F54_q38 (D J : Disp) (S : St) (p0 : PV) (p2 : PV) (s4 : (List Nat)) (p5 : PV) (x7 : Int) (x8 : Int) (c9 : Bool) (l82 : LV) (x83 : Int) (x84 : Int) (c300 : Bool) (K : AV → St → Prop) : Prop :=
 ifK c300
 (LV.cs l82 fun b301 n302 n303 y304 =>
 req (Bool.and (ile (0 : Int) x84) (ilt x84 (Int.ofNat n303))) <|
 let n305 : Nat := (n302 + ((Int.toNat x84) * 1));
 St.at S b301 n305 fun y306 =>
 uncK y306 fun v307 y308 =>
 SV.cS v307 fun y313 =>
 F54_q37 D J S p0 p2 s4 p5 x7 x8 c9 l82 x83 x84 y313 K)
 (J 23 [(AV.one (V1.s (SV.ptr p0))), (AV.one (V1.s (SV.ptr p2))), (AV.one (V1.s (SV.str s4))), (AV.one (V1.s (SV.ptr p5))), (AV.one (V1.s (SV.int IntKind.i64 x7))), (AV.one (V1.s (SV.int IntKind.i64 x8))), (AV.one (V1.s (SV.bool c9)))] S K)
noncomputable def F54_16 (D J : Disp) (p0 : PV) (p2 : PV) (s4 : (List Nat)) (p5 : PV) (x7 : Int) (x8 : Int) (c9 : Bool) (l82 : LV) (x83 : Int) (x84 : Int) (S : St) (K : AV → St → Prop) : Prop :=
 let c300 : Bool := (ilt x84 x83);
 F54_q38 D J S p0 p2 s4 p5 x7 x8 c9 l82 x83 x84 c300 K
noncomputable def X54_16 : X := (.op (.br (.op (.op (.br (.op (.op (.jmp 23 [0, 2, 4, 5, 7, 8, 9]))) (.op (.jmp 16 [0, 2, 4, 5, 7, 8, 9, 82, 83, 84]))))) (.jmp 23 [0, 2, 4, 5, 7, 8, 9])))
theorem F54_16_eq (D J : Disp) (p0 : PV) (p2 : PV) (s4 : (List Nat)) (p5 : PV) (x7 : Int) (x8 : Int) (c9 : Bool) (l82 : LV) (x83 : Int) (x84 : Int) (S : St) (K : AV → St → Prop) : F54_16 D J p0 p2 s4 p5 x7 x8 c9 l82 x83 x84 S K = execK SynP SynG Go.Proofs.Tryz.f54 (typed SynP D) J plans54 X54_16 (T54 16).1 (envOf (T54 16).2 [(AV.one (V1.s (SV.ptr p0))), (AV.one (V1.s (SV.ptr p2))), (AV.one (V1.s (SV.str s4))), (AV.one (V1.s (SV.ptr p5))), (AV.one (V1.s (SV.int IntKind.i64 x7))), (AV.one (V1.s (SV.int IntKind.i64 x8))), (AV.one (V1.s (SV.bool c9))), (AV.one (V1.s (SV.sl l82))), (AV.one (V1.s (SV.int IntKind.i64 x83))), (AV.one (V1.s (SV.int IntKind.i64 x84)))]) S K := by kernel_rfl
noncomputable def F54_q39 (D J : Disp) (S : St) (p0 : PV) (p2 : PV) (s4 : (List Nat)) (p5 : PV) (x7 : Int) (c9 : Bool) (K : AV → St → Prop) : Prop :=
 req (Bool.and (ile (0 : Int) x7) (ilt x7 (Int.ofNat (List.length s4)))) <|
 let x303 : Int := (Int.ofNat (List.getD s4 (Int.toNat x7) 0));
 D 56 [(AV.one (V1.s (SV.int IntKind.u8 x303)))] S fun v304 S305 =>
 scK v304 fun v307 =>
 SV.cB v307 fun y308 =>
 J 24 [(AV.one (V1.s (SV.ptr p0))), (AV.one (V1.s (SV.ptr p2))), (AV.one (V1.s (SV.str s4))), (AV.one (V1.s (SV.ptr p5))), (AV.one (V1.s (SV.int IntKind.i64 x7))), (AV.one (V1.s (SV.bool c9))), (AV.one (V1.s (SV.bool y308)))] S305 K
noncomputable def F54_q40 (D J : Disp) (S : St) (p0 : PV) (p2 : PV) (s4 : (List Nat)) (p5 : PV) (x7 : Int) (c9 : Bool) (c300 : Bool) (K : AV → St → Prop) : Prop :=
 ifK c300
 (J 24 [(AV.one (V1.s (SV.ptr p0))), (AV.one (V1.s (SV.ptr p2))), (AV.one (V1.s (SV.str s4))), (AV.one (V1.s (SV.ptr p5))), (AV.one (V1.s (SV.int IntKind.i64 x7))), (AV.one (V1.s (SV.bool c9))), (AV.one (V1.s (SV.bool Bool.true)))] S K)
 (let x301 : Int := (Int.ofNat (List.length s4));
 let c302 : Bool := (ilt x7 x301);
 ifK c302
 (F54_q39 D J S p0 p2 s4 p5 x7 c9 K)
 (J 24 [(AV.one (V1.s (SV.ptr p0))), (AV.one (V1.s (SV.ptr p2))), (AV.one (V1.s (SV.str s4))), (AV.one (V1.s (SV.ptr p5))), (AV.one (V1.s (SV.int IntKind.i64 x7))), (AV.one (V1.s (SV.bool c9))), (AV.one (V1.s (SV.bool Bool.false)))] S K))
noncomputable def F54_23 (D J : Disp) (p0 : PV) (p2 : PV) (s4 : (List Nat)) (p5 : PV) (x7 : Int) (x8 : Int) (c9 : Bool) (S : St) (K : AV → St → Prop) : Prop :=
 let c300 : Bool := (ieq x8 (0 : Int));
 F54_q40 D J S p0 p2 s4 p5 x7 c9 c300 K
noncomputable def X54_23 : X := (.op (.jmp 24 [0, 2, 4, 5, 7, 9, 100]))
theorem F54_23_eq (D J : Disp) (p0 : PV) (p2 : PV) (s4 : (List Nat)) (p5 : PV) (x7 : Int) (x8 : Int) (c9 : Bool) (S : St) (K : AV → St → Prop) : F54_23 D J p0 p2 s4 p5 x7 x8 c9 S K = execK SynP SynG Go.Proofs.Tryz.f54 (typed SynP D) J plans54 X54_23 (T54 23).1 (envOf (T54 23).2 [(AV.one (V1.s (SV.ptr p0))), (AV.one (V1.s (SV.ptr p2))), (AV.one (V1.s (SV.str s4))), (AV.one (V1.s (SV.ptr p5))), (AV.one (V1.s (SV.int IntKind.i64 x7))), (AV.one (V1.s (SV.int IntKind.i64 x8))), (AV.one (V1.s (SV.bool c9)))]) S K := by kernel_rfl
noncomputable def F54_q41 (D J : Disp) (p2 : PV) (S341 : St) (K : AV → St → Prop) : Prop :=
 PV.cs p2 fun b342 n343 =>
 St.at S341 b342 n343 fun y344 =>
 uncK y344 fun v345 y346 =>
 SV.cI IntKind.i64 v345 fun x350 =>
 uncK y346 fun v351 y352 =>
 SV.cI IntKind.i64 v351 fun x356 =>
 uncK y352 fun v357 y358 =>
 SV.cS v357 fun y363 =>
 uncK y358 fun v364 y365 =>
 SV.cS v364 fun y370 =>
 uncK y365 fun v371 y372 =>
 SV.cI IntKind.u64 v371 fun x376 =>
 uncK y372 fun v377 y378 =>
 SV.cB v377 fun y380 =>
 K ((AV.tup [(V1.agg [(SV.int IntKind.i64 x350), (SV.int IntKind.i64 x356), (SV.str y363), (SV.str y370), (SV.int IntKind.u64 x376), (SV.bool y380)]), (V1.s (SV.int IntKind.i64 (3 : Int)))])) S341
noncomputable def F54_q42 (D J : Disp) (S : St) (p2 : PV) (p5 : PV) (K : AV → St → Prop) : Prop :=
 PV.cs p5 fun b300 n301 =>
 St.at S b300 n301 fun y302 =>
 uncK y302 fun v303 y304 =>
 SV.cI IntKind.i64 v303 fun x308 =>
 uncK y304 fun v309 y310 =>
 SV.cI IntKind.i64 v309 fun x314 =>
 uncK y310 fun v315 y316 =>
 SV.cS v315 fun y321 =>
 uncK y316 fun v322 y323 =>
 SV.cS v322 fun y328 =>
 uncK y323 fun v329 y330 =>
 SV.cI IntKind.u64 v329 fun x334 =>
 uncK y330 fun v335 y336 =>
 SV.cB v335 fun y338 =>
 PV.cs p2 fun b339 n340 =>
 St.wr S b339 n340 [(SV.int IntKind.i64 x308), (SV.int IntKind.i64 x314), (SV.str y321), (SV.str y328), (SV.int IntKind.u64 x334), (SV.bool y338)] fun S341 =>
 F54_q41 D J p2 S341 K
noncomputable def F54_q43 (D J : Disp) (p2 : PV) (S482 : St) (K : AV → St → Prop) : Prop :=
 PV.cs p2 fun b483 n484 =>
 St.at S482 b483 n484 fun y485 =>
 uncK y485 fun v486 y487 =>
 SV.cI IntKind.i64 v486 fun x491 =>
 uncK y487 fun v492 y493 =>
 SV.cI IntKind.i64 v492 fun x497 =>
 uncK y493 fun v498 y499 =>
 SV.cS v498 fun y504 =>
 uncK y499 fun v505 y506 =>
 SV.cS v505 fun y511 =>
 uncK y506 fun v512 y513 =>
 SV.cI IntKind.u64 v512 fun x517 =>
 uncK y513 fun v518 y519 =>
 SV.cB v518 fun y521 =>
 K ((AV.tup [(V1.agg [(SV.int IntKind.i64 x491), (SV.int IntKind.i64 x497), (SV.str y504), (SV.str y511), (SV.int IntKind.u64 x517), (SV.bool y521)]), (V1.s (SV.int IntKind.i64 (6 : Int)))])) S482
noncomputable def F54_q44 (D J : Disp) (S : St) (p2 : PV) (p5 : PV) (K : AV → St → Prop) : Prop :=
 PV.cs p5 fun b441 n442 =>
 St.at S b441 n442 fun y443 =>
 uncK y443 fun v444 y445 =>
 SV.cI IntKind.i64 v444 fun x449 =>
 uncK y445 fun v450 y451 =>
 SV.cI IntKind.i64 v450 fun x455 =>
 uncK y451 fun v456 y457 =>
 SV.cS v456 fun y462 =>
 uncK y457 fun v463 y464 =>
 SV.cS v463 fun y469 =>
 uncK y464 fun v470 y471 =>
 SV.cI IntKind.u64 v470 fun x475 =>
 uncK y471 fun v476 y477 =>
 SV.cB v476 fun y479 =>
 PV.cs p2 fun b480 n481 =>
 St.wr S b480 n481 [(SV.int IntKind.i64 x449), (SV.int IntKind.i64 x455), (SV.str y462), (SV.str y469), (SV.int IntKind.u64 x475), (SV.bool y479)] fun S482 =>
 F54_q43 D J p2 S482 K
noncomputable def F54_q45 (D J : Disp) (p2 : PV) (S643 : St) (K : AV → St → Prop) : Prop :=
 PV.cs p2 fun b644 n645 =>
 St.at S643 b644 n645 fun y646 =>
 uncK y646 fun v647 y648 =>
 SV.cI IntKind.i64 v647 fun x652 =>
 uncK y648 fun v653 y654 =>
 SV.cI IntKind.i64 v653 fun x658 =>
 uncK y654 fun v659 y660 =>
 SV.cS v659 fun y665 =>
 uncK y660 fun v666 y667 =>
 SV.cS v666 fun y672 =>
 uncK y667 fun v673 y674 =>
 SV.cI IntKind.u64 v673 fun x678 =>
 uncK y674 fun v679 y680 =>
 SV.cB v679 fun y682 =>
 K ((AV.tup [(V1.agg [(SV.int IntKind.i64 x652), (SV.int IntKind.i64 x658), (SV.str y665), (SV.str y672), (SV.int IntKind.u64 x678), (SV.bool y682)]), (V1.s (SV.int IntKind.i64 (0 : Int)))])) S643
noncomputable def F54_q46 (D J : Disp) (p2 : PV) (p5 : PV) (S601 : St) (K : AV → St → Prop) : Prop :=
 PV.cs p5 fun b602 n603 =>
 St.at S601 b602 n603 fun y604 =>
 uncK y604 fun v605 y606 =>
 SV.cI IntKind.i64 v605 fun x610 =>
 uncK y606 fun v611 y612 =>
 SV.cI IntKind.i64 v611 fun x616 =>
 uncK y612 fun v617 y618 =>
 SV.cS v617 fun y623 =>
 uncK y618 fun v624 y625 =>
 SV.cS v624 fun y630 =>
 uncK y625 fun v631 y632 =>
 SV.cI IntKind.u64 v631 fun x636 =>
 uncK y632 fun v637 y638 =>
 SV.cB v637 fun y640 =>
 PV.cs p2 fun b641 n642 =>
 St.wr S601 b641 n642 [(SV.int IntKind.i64 x610), (SV.int IntKind.i64 x616), (SV.str y623), (SV.str y630), (SV.int IntKind.u64 x636), (SV.bool y640)] fun S643 =>
 F54_q45 D J p2 S643 K
noncomputable def F54_q47 (D J : Disp) (S : St) (p0 : PV) (p2 : PV) (p5 : PV) (x7 : Int) (s582 : (List Nat)) (K : AV → St → Prop) : Prop :=
 PV.cs p5 fun b583 n584 =>
 let n585 : Nat := (n584 + 2);
 St.wr S b583 n585 [(SV.str s582)] fun S586 =>
 PV.cs p0 fun b587 n588 =>
 let n589 : Nat := (n588 + 1);
 St.at S586 b587 n589 fun y590 =>
 uncK y590 fun v591 y592 =>
 SV.cI IntKind.i64 v591 fun x596 =>
 let x597 : Int := (iwrap IntKind.i64 (x596 + x7));
 PV.cs p0 fun b598 n599 =>
 let n600 : Nat := (n599 + 1);
 St.wr S586 b598 n600 [(SV.int IntKind.i64 x597)] fun S601 =>
 F54_q46 D J p2 p5 S601 K
noncomputable def F54_24 (D J : Disp) (p0 : PV) (p2 : PV) (s4 : (List Nat)) (p5 : PV) (x7 : Int) (c9 : Bool) (c100 : Bool) (S : St) (K : AV → St → Prop) : Prop :=
 ifK c100
 (F54_q42 D J S p2 p5 K)
 (ifK c9
 (F54_q44 D J S p2 p5 K)
 (req (Bool.and Bool.true (Bool.and (ile (0 : Int) (oInt (Option.some x7) (Int.ofNat (List.length s4)))) (ile (oInt (Option.some x7) (Int.ofNat (List.length s4))) (Int.ofNat (List.length s4))))) <|
 let s582 : (List Nat) := (List.take ((Int.toNat (oInt (Option.some x7) (Int.ofNat (List.length s4)))) - 0) (List.drop 0 s4));
 F54_q47 D J S p0 p2 p5 x7 s582 K))
noncomputable def X54_24 : X := (.br (.op .ret) (.op (.br (.op .ret) (.op (.op (.op .ret))))))
theorem F54_24_eq (D J : Disp) (p0 : PV) (p2 : PV) (s4 : (List Nat)) (p5 : PV) (x7 : Int) (c9 : Bool) (c100 : Bool) (S : St) (K : AV → St → Prop) : F54_24 D J p0 p2 s4 p5 x7 c9 c100 S K = execK SynP SynG Go.Proofs.Tryz.f54 (typed SynP D) J plans54 X54_24 (T54 24).1 (envOf (T54 24).2 [(AV.one (V1.s (SV.ptr p0))), (AV.one (V1.s (SV.ptr p2))), (AV.one (V1.s (SV.str s4))), (AV.one (V1.s (SV.ptr p5))), (AV.one (V1.s (SV.int IntKind.i64 x7))), (AV.one (V1.s (SV.bool c9))), (AV.one (V1.s (SV.bool c100)))]) S K := by kernel_rfl
noncomputable abbrev A54_0 (D J : Disp) (vals : List AV) (S : St) (K : AV → St → Prop) : Prop :=
  uncA vals fun a9001 r9002 => scK a9001 fun s9004 => SV.cP s9004 fun p0 => endL r9002 <| F54_0 D J p0 S K
theorem A54_0_ok {D J : Disp} (hD : DOK SynP SynG D) (hJ : JOK SynP SynG Go.Proofs.Tryz.f54 T54 J) {vals : List AV} {S : St} {K : AV → St → Prop} (h0 : A54_0 D J vals S K) : Runs SynP SynG Go.Proofs.Tryz.f54 (T54 0).1 (envOf (T54 0).2 vals) S K := by
  obtain ⟨a9001, r9002, rfl, h3⟩ := uncA_some h0
  obtain ⟨s9004, rfl, h5⟩ := scK_some h3
  obtain ⟨p0, rfl, h6⟩ := cP_some h5
  obtain ⟨rfl, h7⟩ := endL_some h6
  rw [F54_0_eq] at h7
  exact execK_runs hD.typed Syn_zero Syn_mixed hJ X54_0 (T54 0).1 (envOf (T54 0).2 _) S K (chk_of (by kernel_rfl) (by kernel_rfl)) h7
noncomputable abbrev A54_7 (D J : Disp) (vals : List AV) (S : St) (K : AV → St → Prop) : Prop :=
  uncA vals fun a9001 r9002 => scK a9001 fun s9004 => SV.cP s9004 fun p0 => uncA r9002 fun a9007 r9008 => scK a9007 fun s9010 => SV.cP s9010 fun p2 => uncA r9008 fun a9013 r9014 => scK a9013 fun s9016 => SV.cS s9016 fun s4 => uncA r9014 fun a9019 r9020 => scK a9019 fun s9022 => SV.cP s9022 fun p5 => uncA r9020 fun a9025 r9026 => scK a9025 fun s9028 => SV.cI IntKind.u64 s9028 fun x6 => uncA r9026 fun a9031 r9032 => scK a9031 fun s9034 => SV.cI IntKind.i64 s9034 fun x7 => endL r9032 <| F54_7 D J p0 p2 s4 p5 x6 x7 S K
theorem A54_7_ok {D J : Disp} (hD : DOK SynP SynG D) (hJ : JOK SynP SynG Go.Proofs.Tryz.f54 T54 J) {vals : List AV} {S : St} {K : AV → St → Prop} (h0 : A54_7 D J vals S K) : Runs SynP SynG Go.Proofs.Tryz.f54 (T54 7).1 (envOf (T54 7).2 vals) S K := by
  obtain ⟨a9001, r9002, rfl, h3⟩ := uncA_some h0
  obtain ⟨s9004, rfl, h5⟩ := scK_some h3
  obtain ⟨p0, rfl, h6⟩ := cP_some h5
  obtain ⟨a9007, r9008, rfl, h9⟩ := uncA_some h6
  obtain ⟨s9010, rfl, h11⟩ := scK_some h9
  obtain ⟨p2, rfl, h12⟩ := cP_some h11
  obtain ⟨a9013, r9014, rfl, h15⟩ := uncA_some h12
  obtain ⟨s9016, rfl, h17⟩ := scK_some h15
  obtain ⟨s4, rfl, h18⟩ := cS_some h17
  obtain ⟨a9019, r9020, rfl, h21⟩ := uncA_some h18
  obtain ⟨s9022, rfl, h23⟩ := scK_some h21
  obtain ⟨p5, rfl, h24⟩ := cP_some h23
  obtain ⟨a9025, r9026, rfl, h27⟩ := uncA_some h24
  obtain ⟨s9028, rfl, h29⟩ := scK_some h27
  obtain ⟨x6, rfl, h30⟩ := cI_some h29
  obtain ⟨a9031, r9032, rfl, h33⟩ := uncA_some h30
  obtain ⟨s9034, rfl, h35⟩ := scK_some h33
  obtain ⟨x7, rfl, h36⟩ := cI_some h35
  obtain ⟨rfl, h37⟩ := endL_some h36
  rw [F54_7_eq] at h37
  exact execK_runs hD.typed Syn_zero Syn_mixed hJ X54_7 (T54 7).1 (envOf (T54 7).2 _) S K (chk_of (by kernel_rfl) (by kernel_rfl)) h37
noncomputable abbrev A54_8 (D J : Disp) (vals : List AV) (S : St) (K : AV → St → Prop) : Prop :=
  uncA vals fun a9001 r9002 => scK a9001 fun s9004 => SV.cP s9004 fun p0 => uncA r9002 fun a9007 r9008 => scK a9007 fun s9010 => SV.cP s9010 fun p2 => uncA r9008 fun a9013 r9014 => scK a9013 fun s9016 => SV.cS s9016 fun s4 => uncA r9014 fun a9019 r9020 => scK a9019 fun s9022 => SV.cP s9022 fun p5 => uncA r9020 fun a9025 r9026 => scK a9025 fun s9028 => SV.cI IntKind.u64 s9028 fun x6 => uncA r9026 fun a9031 r9032 => scK a9031 fun s9034 => SV.cI IntKind.i64 s9034 fun x7 => uncA r9032 fun a9037 r9038 => scK a9037 fun s9040 => SV.cI IntKind.i64 s9040 fun x8 => uncA r9038 fun a9043 r9044 => scK a9043 fun s9046 => SV.cB s9046 fun c9 => endL r9044 <| F54_8 D J p0 p2 s4 p5 x6 x7 x8 c9 S K
theorem A54_8_ok {D J : Disp} (hD : DOK SynP SynG D) (hJ : JOK SynP SynG Go.Proofs.Tryz.f54 T54 J) {vals : List AV} {S : St} {K : AV → St → Prop} (h0 : A54_8 D J vals S K) : Runs SynP SynG Go.Proofs.Tryz.f54 (T54 8).1 (envOf (T54 8).2 vals) S K := by
  obtain ⟨a9001, r9002, rfl, h3⟩ := uncA_some h0
  obtain ⟨s9004, rfl, h5⟩ := scK_some h3
  obtain ⟨p0, rfl, h6⟩ := cP_some h5
  obtain ⟨a9007, r9008, rfl, h9⟩ := uncA_some h6
  obtain ⟨s9010, rfl, h11⟩ := scK_some h9
  obtain ⟨p2, rfl, h12⟩ := cP_some h11
  obtain ⟨a9013, r9014, rfl, h15⟩ := uncA_some h12
  obtain ⟨s9016, rfl, h17⟩ := scK_some h15
  obtain ⟨s4, rfl, h18⟩ := cS_some h17
  obtain ⟨a9019, r9020, rfl, h21⟩ := uncA_some h18
  obtain ⟨s9022, rfl, h23⟩ := scK_some h21
  obtain ⟨p5, rfl, h24⟩ := cP_some h23
  obtain ⟨a9025, r9026, rfl, h27⟩ := uncA_some h24
  obtain ⟨s9028, rfl, h29⟩ := scK_some h27
  obtain ⟨x6, rfl, h30⟩ := cI_some h29
  obtain ⟨a9031, r9032, rfl, h33⟩ := uncA_some h30
  obtain ⟨s9034, rfl, h35⟩ := scK_some h33
  obtain ⟨x7, rfl, h36⟩ := cI_some h35
  obtain ⟨a9037, r9038, rfl, h39⟩ := uncA_some h36
  obtain ⟨s9040, rfl, h41⟩ := scK_some h39
  obtain ⟨x8, rfl, h42⟩ := cI_some h41
  obtain ⟨a9043, r9044, rfl, h45⟩ := uncA_some h42
  obtain ⟨s9046, rfl, h47⟩ := scK_some h45
  obtain ⟨c9, rfl, h48⟩ := cB_some h47
  obtain ⟨rfl, h49⟩ := endL_some h48
  rw [F54_8_eq] at h49
  exact execK_runs hD.typed Syn_zero Syn_mixed hJ X54_8 (T54 8).1 (envOf (T54 8).2 _) S K (chk_of (by kernel_rfl) (by kernel_rfl)) h49
noncomputable abbrev A54_9 (D J : Disp) (vals : List AV) (S : St) (K : AV → St → Prop) : Prop :=
  uncA vals fun a9001 r9002 => scK a9001 fun s9004 => SV.cP s9004 fun p0 => uncA r9002 fun a9007 r9008 => scK a9007 fun s9010 => SV.cP s9010 fun p2 => uncA r9008 fun a9013 r9014 => scK a9013 fun s9016 => SV.cS s9016 fun s4 => uncA r9014 fun a9019 r9020 => scK a9019 fun s9022 => SV.cP s9022 fun p5 => uncA r9020 fun a9025 r9026 => scK a9025 fun s9028 => SV.cI IntKind.u64 s9028 fun x6 => uncA r9026 fun a9031 r9032 => scK a9031 fun s9034 => SV.cI IntKind.i64 s9034 fun x7 => uncA r9032 fun a9037 r9038 => scK a9037 fun s9040 => SV.cI IntKind.i64 s9040 fun x8 => uncA r9038 fun a9043 r9044 => scK a9043 fun s9046 => SV.cB s9046 fun c9 => uncA r9044 fun a9049 r9050 => scK a9049 fun s9052 => SV.cB s9052 fun c54 => endL r9050 <| F54_9 D J p0 p2 s4 p5 x6 x7 x8 c9 c54 S K
theorem A54_9_ok {D J : Disp} (hD : DOK SynP SynG D) (hJ : JOK SynP SynG Go.Proofs.Tryz.f54 T54 J) {vals : List AV} {S : St} {K : AV → St → Prop} (h0 : A54_9 D J vals S K) : Runs SynP SynG Go.Proofs.Tryz.f54 (T54 9).1 (envOf (T54 9).2 vals) S K := by
  obtain ⟨a9001, r9002, rfl, h3⟩ := uncA_some h0
  obtain ⟨s9004, rfl, h5⟩ := scK_some h3
  obtain ⟨p0, rfl, h6⟩ := cP_some h5
  obtain ⟨a9007, r9008, rfl, h9⟩ := uncA_some h6
  obtain ⟨s9010, rfl, h11⟩ := scK_some h9
  obtain ⟨p2, rfl, h12⟩ := cP_some h11
  obtain ⟨a9013, r9014, rfl, h15⟩ := uncA_some h12
  obtain ⟨s9016, rfl, h17⟩ := scK_some h15
  obtain ⟨s4, rfl, h18⟩ := cS_some h17
  obtain ⟨a9019, r9020, rfl, h21⟩ := uncA_some h18
  obtain ⟨s9022, rfl, h23⟩ := scK_some h21
  obtain ⟨p5, rfl, h24⟩ := cP_some h23
  obtain ⟨a9025, r9026, rfl, h27⟩ := uncA_some h24
  obtain ⟨s9028, rfl, h29⟩ := scK_some h27
  obtain ⟨x6, rfl, h30⟩ := cI_some h29
  obtain ⟨a9031, r9032, rfl, h33⟩ := uncA_some h30
  obtain ⟨s9034, rfl, h35⟩ := scK_some h33
  obtain ⟨x7, rfl, h36⟩ := cI_some h35
  obtain ⟨a9037, r9038, rfl, h39⟩ := uncA_some h36
  obtain ⟨s9040, rfl, h41⟩ := scK_some h39
  obtain ⟨x8, rfl, h42⟩ := cI_some h41
  obtain ⟨a9043, r9044, rfl, h45⟩ := uncA_some h42
  obtain ⟨s9046, rfl, h47⟩ := scK_some h45
  obtain ⟨c9, rfl, h48⟩ := cB_some h47
  obtain ⟨a9049, r9050, rfl, h51⟩ := uncA_some h48
  obtain ⟨s9052, rfl, h53⟩ := scK_some h51
  obtain ⟨c54, rfl, h54⟩ := cB_some h53
  obtain ⟨rfl, h55⟩ := endL_some h54
  rw [F54_9_eq] at h55
  exact execK_runs hD.typed Syn_zero Syn_mixed hJ X54_9 (T54 9).1 (envOf (T54 9).2 _) S K (chk_of (by kernel_rfl) (by kernel_rfl)) h55
noncomputable abbrev A54_12 (D J : Disp) (vals : List AV) (S : St) (K : AV → St → Prop) : Prop :=
  uncA vals fun a9001 r9002 => scK a9001 fun s9004 => SV.cP s9004 fun p0 => uncA r9002 fun a9007 r9008 => scK a9007 fun s9010 => SV.cP s9010 fun p2 => uncA r9008 fun a9013 r9014 => scK a9013 fun s9016 => SV.cS s9016 fun s4 => uncA r9014 fun a9019 r9020 => scK a9019 fun s9022 => SV.cP s9022 fun p5 => uncA r9020 fun a9025 r9026 => scK a9025 fun s9028 => SV.cI IntKind.u64 s9028 fun x6 => uncA r9026 fun a9031 r9032 => scK a9031 fun s9034 => SV.cI IntKind.i64 s9034 fun x7 => uncA r9032 fun a9037 r9038 => scK a9037 fun s9040 => SV.cI IntKind.i64 s9040 fun x8 => uncA r9038 fun a9043 r9044 => scK a9043 fun s9046 => SV.cB s9046 fun c9 => uncA r9044 fun a9049 r9050 => scK a9049 fun s9052 => SV.cI IntKind.u64 s9052 fun x10 => endL r9050 <| F54_12 D J p0 p2 s4 p5 x6 x7 x8 c9 x10 S K
theorem A54_12_ok {D J : Disp} (hD : DOK SynP SynG D) (hJ : JOK SynP SynG Go.Proofs.Tryz.f54 T54 J) {vals : List AV} {S : St} {K : AV → St → Prop} (h0 : A54_12 D J vals S K) : Runs SynP SynG Go.Proofs.Tryz.f54 (T54 12).1 (envOf (T54 12).2 vals) S K := by
  obtain ⟨a9001, r9002, rfl, h3⟩ := uncA_some h0
  obtain ⟨s9004, rfl, h5⟩ := scK_some h3
  obtain ⟨p0, rfl, h6⟩ := cP_some h5
  obtain ⟨a9007, r9008, rfl, h9⟩ := uncA_some h6
  obtain ⟨s9010, rfl, h11⟩ := scK_some h9
  obtain ⟨p2, rfl, h12⟩ := cP_some h11
  obtain ⟨a9013, r9014, rfl, h15⟩ := uncA_some h12
  obtain ⟨s9016, rfl, h17⟩ := scK_some h15
  obtain ⟨s4, rfl, h18⟩ := cS_some h17
  obtain ⟨a9019, r9020, rfl, h21⟩ := uncA_some h18
  obtain ⟨s9022, rfl, h23⟩ := scK_some h21
  obtain ⟨p5, rfl, h24⟩ := cP_some h23
  obtain ⟨a9025, r9026, rfl, h27⟩ := uncA_some h24
  obtain ⟨s9028, rfl, h29⟩ := scK_some h27
  obtain ⟨x6, rfl, h30⟩ := cI_some h29
  obtain ⟨a9031, r9032, rfl, h33⟩ := uncA_some h30
  obtain ⟨s9034, rfl, h35⟩ := scK_some h33
  obtain ⟨x7, rfl, h36⟩ := cI_some h35
  obtain ⟨a9037, r9038, rfl, h39⟩ := uncA_some h36
  obtain ⟨s9040, rfl, h41⟩ := scK_some h39
  obtain ⟨x8, rfl, h42⟩ := cI_some h41
  obtain ⟨a9043, r9044, rfl, h45⟩ := uncA_some h42
  obtain ⟨s9046, rfl, h47⟩ := scK_some h45
  obtain ⟨c9, rfl, h48⟩ := cB_some h47
  obtain ⟨a9049, r9050, rfl, h51⟩ := uncA_some h48
  obtain ⟨s9052, rfl, h53⟩ := scK_some h51
  obtain ⟨x10, rfl, h54⟩ := cI_some h53
  obtain ⟨rfl, h55⟩ := endL_some h54
  rw [F54_12_eq] at h55
  exact execK_runs hD.typed Syn_zero Syn_mixed hJ X54_12 (T54 12).1 (envOf (T54 12).2 _) S K (chk_of (by kernel_rfl) (by kernel_rfl)) h55
noncomputable abbrev A54_16 (D J : Disp) (vals : List AV) (S : St) (K : AV → St → Prop) : Prop :=
  uncA vals fun a9001 r9002 => scK a9001 fun s9004 => SV.cP s9004 fun p0 => uncA r9002 fun a9007 r9008 => scK a9007 fun s9010 => SV.cP s9010 fun p2 => uncA r9008 fun a9013 r9014 => scK a9013 fun s9016 => SV.cS s9016 fun s4 => uncA r9014 fun a9019 r9020 => scK a9019 fun s9022 => SV.cP s9022 fun p5 => uncA r9020 fun a9025 r9026 => scK a9025 fun s9028 => SV.cI IntKind.i64 s9028 fun x7 => uncA r9026 fun a9031 r9032 => scK a9031 fun s9034 => SV.cI IntKind.i64 s9034 fun x8 => uncA r9032 fun a9037 r9038 => scK a9037 fun s9040 => SV.cB s9040 fun c9 => uncA r9038 fun a9043 r9044 => scK a9043 fun s9046 => SV.cL s9046 fun l82 => uncA r9044 fun a9049 r9050 => scK a9049 fun s9052 => SV.cI IntKind.i64 s9052 fun x83 => uncA r9050 fun a9055 r9056 => scK a9055 fun s9058 => SV.cI IntKind.i64 s9058 fun x84 => endL r9056 <| F54_16 D J p0 p2 s4 p5 x7 x8 c9 l82 x83 x84 S K
theorem A54_16_ok {D J : Disp} (hD : DOK SynP SynG D) (hJ : JOK SynP SynG Go.Proofs.Tryz.f54 T54 J) {vals : List AV} {S : St} {K : AV → St → Prop} (h0 : A54_16 D J vals S K) : Runs SynP SynG Go.Proofs.Tryz.f54 (T54 16).1 (envOf (T54 16).2 vals) S K := by
  obtain ⟨a9001, r9002, rfl, h3⟩ := uncA_some h0
  obtain ⟨s9004, rfl, h5⟩ := scK_some h3
  obtain ⟨p0, rfl, h6⟩ := cP_some h5
  obtain ⟨a9007, r9008, rfl, h9⟩ := uncA_some h6
  obtain ⟨s9010, rfl, h11⟩ := scK_some h9
  obtain ⟨p2, rfl, h12⟩ := cP_some h11
  obtain ⟨a9013, r9014, rfl, h15⟩ := uncA_some h12
  obtain ⟨s9016, rfl, h17⟩ := scK_some h15
  obtain ⟨s4, rfl, h18⟩ := cS_some h17
  obtain ⟨a9019, r9020, rfl, h21⟩ := uncA_some h18
  obtain ⟨s9022, rfl, h23⟩ := scK_some h21
  obtain ⟨p5, rfl, h24⟩ := cP_some h23
  obtain ⟨a9025, r9026, rfl, h27⟩ := uncA_some h24
  obtain ⟨s9028, rfl, h29⟩ := scK_some h27
  obtain ⟨x7, rfl, h30⟩ := cI_some h29
  obtain ⟨a9031, r9032, rfl, h33⟩ := uncA_some h30
  obtain ⟨s9034, rfl, h35⟩ := scK_some h33
  obtain ⟨x8, rfl, h36⟩ := cI_some h35
  obtain ⟨a9037, r9038, rfl, h39⟩ := uncA_some h36
  obtain ⟨s9040, rfl, h41⟩ := scK_some h39
  obtain ⟨c9, rfl, h42⟩ := cB_some h41
  obtain ⟨a9043, r9044, rfl, h45⟩ := uncA_some h42
  obtain ⟨s9046, rfl, h47⟩ := scK_some h45
  obtain ⟨l82, rfl, h48⟩ := cL_some h47
  obtain ⟨a9049, r9050, rfl, h51⟩ := uncA_some h48
  obtain ⟨s9052, rfl, h53⟩ := scK_some h51
  obtain ⟨x83, rfl, h54⟩ := cI_some h53
  obtain ⟨a9055, r9056, rfl, h57⟩ := uncA_some h54
  obtain ⟨s9058, rfl, h59⟩ := scK_some h57
  obtain ⟨x84, rfl, h60⟩ := cI_some h59
  obtain ⟨rfl, h61⟩ := endL_some h60
  rw [F54_16_eq] at h61
  exact execK_runs hD.typed Syn_zero Syn_mixed hJ X54_16 (T54 16).1 (envOf (T54 16).2 _) S K (chk_of (by kernel_rfl) (by kernel_rfl)) h61
noncomputable abbrev A54_23 (D J : Disp) (vals : List AV) (S : St) (K : AV → St → Prop) : Prop :=
  uncA vals fun a9001 r9002 => scK a9001 fun s9004 => SV.cP s9004 fun p0 => uncA r9002 fun a9007 r9008 => scK a9007 fun s9010 => SV.cP s9010 fun p2 => uncA r9008 fun a9013 r9014 => scK a9013 fun s9016 => SV.cS s9016 fun s4 => uncA r9014 fun a9019 r9020 => scK a9019 fun s9022 => SV.cP s9022 fun p5 => uncA r9020 fun a9025 r9026 => scK a9025 fun s9028 => SV.cI IntKind.i64 s9028 fun x7 => uncA r9026 fun a9031 r9032 => scK a9031 fun s9034 => SV.cI IntKind.i64 s9034 fun x8 => uncA r9032 fun a9037 r9038 => scK a9037 fun s9040 => SV.cB s9040 fun c9 => endL r9038 <| F54_23 D J p0 p2 s4 p5 x7 x8 c9 S K
theorem A54_23_ok {D J : Disp} (hD : DOK SynP SynG D) (hJ : JOK SynP SynG Go.Proofs.Tryz.f54 T54 J) {vals : List AV} {S : St} {K : AV → St → Prop} (h0 : A54_23 D J vals S K) : Runs SynP SynG Go.Proofs.Tryz.f54 (T54 23).1 (envOf (T54 23).2 vals) S K := by
  obtain ⟨a9001, r9002, rfl, h3⟩ := uncA_some h0
  obtain ⟨s9004, rfl, h5⟩ := scK_some h3
  obtain ⟨p0, rfl, h6⟩ := cP_some h5
  obtain ⟨a9007, r9008, rfl, h9⟩ := uncA_some h6
  obtain ⟨s9010, rfl, h11⟩ := scK_some h9
  obtain ⟨p2, rfl, h12⟩ := cP_some h11
  obtain ⟨a9013, r9014, rfl, h15⟩ := uncA_some h12
  obtain ⟨s9016, rfl, h17⟩ := scK_some h15
  obtain ⟨s4, rfl, h18⟩ := cS_some h17
  obtain ⟨a9019, r9020, rfl, h21⟩ := uncA_some h18
  obtain ⟨s9022, rfl, h23⟩ := scK_some h21
  obtain ⟨p5, rfl, h24⟩ := cP_some h23
  obtain ⟨a9025, r9026, rfl, h27⟩ := uncA_some h24
  obtain ⟨s9028, rfl, h29⟩ := scK_some h27
  obtain ⟨x7, rfl, h30⟩ := cI_some h29
  obtain ⟨a9031, r9032, rfl, h33⟩ := uncA_some h30
  obtain ⟨s9034, rfl, h35⟩ := scK_some h33
  obtain ⟨x8, rfl, h36⟩ := cI_some h35
  obtain ⟨a9037, r9038, rfl, h39⟩ := uncA_some h36
  obtain ⟨s9040, rfl, h41⟩ := scK_some h39
  obtain ⟨c9, rfl, h42⟩ := cB_some h41
  obtain ⟨rfl, h43⟩ := endL_some h42
  rw [F54_23_eq] at h43
  exact execK_runs hD.typed Syn_zero Syn_mixed hJ X54_23 (T54 23).1 (envOf (T54 23).2 _) S K (chk_of (by kernel_rfl) (by kernel_rfl)) h43
noncomputable abbrev A54_24 (D J : Disp) (vals : List AV) (S : St) (K : AV → St → Prop) : Prop :=
  uncA vals fun a9001 r9002 => scK a9001 fun s9004 => SV.cP s9004 fun p0 => uncA r9002 fun a9007 r9008 => scK a9007 fun s9010 => SV.cP s9010 fun p2 => uncA r9008 fun a9013 r9014 => scK a9013 fun s9016 => SV.cS s9016 fun s4 => uncA r9014 fun a9019 r9020 => scK a9019 fun s9022 => SV.cP s9022 fun p5 => uncA r9020 fun a9025 r9026 => scK a9025 fun s9028 => SV.cI IntKind.i64 s9028 fun x7 => uncA r9026 fun a9031 r9032 => scK a9031 fun s9034 => SV.cB s9034 fun c9 => uncA r9032 fun a9037 r9038 => scK a9037 fun s9040 => SV.cB s9040 fun c100 => endL r9038 <| F54_24 D J p0 p2 s4 p5 x7 c9 c100 S K
theorem A54_24_ok {D J : Disp} (hD : DOK SynP SynG D) (hJ : JOK SynP SynG Go.Proofs.Tryz.f54 T54 J) {vals : List AV} {S : St} {K : AV → St → Prop} (h0 : A54_24 D J vals S K) : Runs SynP SynG Go.Proofs.Tryz.f54 (T54 24).1 (envOf (T54 24).2 vals) S K := by
  obtain ⟨a9001, r9002, rfl, h3⟩ := uncA_some h0
  obtain ⟨s9004, rfl, h5⟩ := scK_some h3
  obtain ⟨p0, rfl, h6⟩ := cP_some h5
  obtain ⟨a9007, r9008, rfl, h9⟩ := uncA_some h6
  obtain ⟨s9010, rfl, h11⟩ := scK_some h9
  obtain ⟨p2, rfl, h12⟩ := cP_some h11
  obtain ⟨a9013, r9014, rfl, h15⟩ := uncA_some h12
  obtain ⟨s9016, rfl, h17⟩ := scK_some h15
  obtain ⟨s4, rfl, h18⟩ := cS_some h17
  obtain ⟨a9019, r9020, rfl, h21⟩ := uncA_some h18
  obtain ⟨s9022, rfl, h23⟩ := scK_some h21
  obtain ⟨p5, rfl, h24⟩ := cP_some h23
  obtain ⟨a9025, r9026, rfl, h27⟩ := uncA_some h24
  obtain ⟨s9028, rfl, h29⟩ := scK_some h27
  obtain ⟨x7, rfl, h30⟩ := cI_some h29
  obtain ⟨a9031, r9032, rfl, h33⟩ := uncA_some h30
  obtain ⟨s9034, rfl, h35⟩ := scK_some h33
  obtain ⟨c9, rfl, h36⟩ := cB_some h35
  obtain ⟨a9037, r9038, rfl, h39⟩ := uncA_some h36
  obtain ⟨s9040, rfl, h41⟩ := scK_some h39
  obtain ⟨c100, rfl, h42⟩ := cB_some h41
  obtain ⟨rfl, h43⟩ := endL_some h42
  rw [F54_24_eq] at h43
  exact execK_runs hD.typed Syn_zero Syn_mixed hJ X54_24 (T54 24).1 (envOf (T54 24).2 _) S K (chk_of (by kernel_rfl) (by kernel_rfl)) h43
noncomputable def J54 (D : Disp) (k : Nat) : Disp := Nat.rec (motive := fun _ => Disp) Disp.no (fun _ ih => Disp.add 0 (A54_0 D ih) <| Disp.add 7 (A54_7 D ih) <| Disp.add 8 (A54_8 D ih) <| Disp.add 9 (A54_9 D ih) <| Disp.add 12 (A54_12 D ih) <| Disp.add 16 (A54_16 D ih) <| Disp.add 23 (A54_23 D ih) <| Disp.add 24 (A54_24 D ih) <| Disp.no) k
theorem J54_ok {D : Disp} (hD : DOK SynP SynG D) : ∀ k, JOK SynP SynG Go.Proofs.Tryz.f54 T54 (J54 D k)
  | 0 => JOK.no
  | k + 1 => JOK.add (ltB_ok (by kernel_rfl)) (fun vals S K h => A54_0_ok hD (J54_ok hD k) h) <| JOK.add (ltB_ok (by kernel_rfl)) (fun vals S K h => A54_7_ok hD (J54_ok hD k) h) <| JOK.add (ltB_ok (by kernel_rfl)) (fun vals S K h => A54_8_ok hD (J54_ok hD k) h) <| JOK.add (ltB_ok (by kernel_rfl)) (fun vals S K h => A54_9_ok hD (J54_ok hD k) h) <| JOK.add (ltB_ok (by kernel_rfl)) (fun vals S K h => A54_12_ok hD (J54_ok hD k) h) <| JOK.add (ltB_ok (by kernel_rfl)) (fun vals S K h => A54_16_ok hD (J54_ok hD k) h) <| JOK.add (ltB_ok (by kernel_rfl)) (fun vals S K h => A54_23_ok hD (J54_ok hD k) h) <| JOK.add (ltB_ok (by kernel_rfl)) (fun vals S K h => A54_24_ok hD (J54_ok hD k) h) <| JOK.no
theorem E54_ok {D : Disp} (hD : DOK SynP SynG D) (k : Nat) {args : List AV} {S : St} {K : AV → St → Prop} (h : A54_0 D (J54 D k) args S K) : CallE SynP SynG 54 args S K := by
  have hr := A54_0_ok hD (J54_ok hD k) h
  have hl : args.length = 1 := by
    have h0 := h
    obtain ⟨a9001, r9002, rfl, h3⟩ := uncA_some h0
    obtain ⟨s9004, rfl, h5⟩ := scK_some h3
    obtain ⟨p0, rfl, h6⟩ := cP_some h5
    obtain ⟨rfl, h7⟩ := endL_some h6
    rfl
  refine callOK_of (fn := Go.Proofs.Tryz.f54) (c := (match Go.Proofs.Tryz.f54.body with | some c => c | none => .skip)) (by kernel_rfl) (by kernel_rfl) (by kernel_rfl) (by rw [hl]; kernel_rfl) (by kernel_rfl) ?_
  rw [hl]
  exact hr
noncomputable def plans55 (i : Nat) : Plan := if Nat.beq i 1 then [(0, []), (1, [0]), (2, [1, 0]), (3, [2, 1, 0]), (4, []), (5, [4]), (6, [5, 4]), (7, [6, 5, 4]), (8, [3, 7, 2, 6, 1, 5, 0, 4]), (9, [8, 0, 1, 2, 3, 4, 5, 6, 7])] else if Nat.beq i 15 then [(0, []), (1, [0]), (2, [1, 0]), (3, [2, 1, 0]), (4, []), (5, []), (6, [4, 5]), (7, []), (8, [7]), (9, [3, 6, 8, 2, 4, 5, 7, 1, 0]), (10, []), (11, [10, 9, 0, 1, 2, 3, 4, 5, 6, 7, 8])] else []
noncomputable def T55 (p : Nat) : List Item × List Nat := bif Nat.beq p 0 then ([.code (match Go.Proofs.Tryz.f55.body with | some c => c | none => .skip)], [0]) else
  bif Nat.beq p 4 then (navs [.op, .op, .op, .op] [.code (match Go.Proofs.Tryz.f55.body with | some c => c | none => .skip)], [0, 2, 4, 5, 25]) else
  bif Nat.beq p 6 then (navs [.op, .op, .op, .op, .th, .op] [.code (match Go.Proofs.Tryz.f55.body with | some c => c | none => .skip)], [0, 2, 4, 5]) else
  bif Nat.beq p 7 then (navs [.op, .op, .op, .op, .th, .op, .op] [.code (match Go.Proofs.Tryz.f55.body with | some c => c | none => .skip)], [0, 2, 4, 5, 36]) else
  bif Nat.beq p 19 then (navs [.op, .op, .op, .op, .th, .op, .op, .el, .op, .op, .th, .op, .op, .el, .op] [.code (match Go.Proofs.Tryz.f55.body with | some c => c | none => .skip)], [0, 2, 4, 5, 6]) else
  bif Nat.beq p 24 then (navs [.op, .op, .op, .op, .th, .op, .op, .el, .op, .op, .el, .op] [.code (match Go.Proofs.Tryz.f55.body with | some c => c | none => .skip)], [0, 2, 4, 5, 6, 59]) else
  ([], [])
noncomputable def F55_q13 (D J : Disp) (S : St) (p0 : PV) (S300 : St) (s322 : (List Nat)) (c324 : Bool) (K : AV → St → Prop) : Prop :=
 ifK c324
 (req (Bool.and Bool.true (ilt (1 : Int) (Int.ofNat (List.length s322)))) <|
 let x325 : Int := (Int.ofNat (List.getD s322 1 0));
 let c326 : Bool := (ieq x325 (92 : Int));
 J 4 [(AV.one (V1.s (SV.ptr p0))), (AV.one (V1.s (SV.ptr (PV.mk (Bk.new (St.next S)) 0)))), (AV.one (V1.s (SV.str s322))), (AV.one (V1.s (SV.int IntKind.i64 (3 : Int)))), (AV.one (V1.s (SV.bool c326)))] S300 K)
 (J 4 [(AV.one (V1.s (SV.ptr p0))), (AV.one (V1.s (SV.ptr (PV.mk (Bk.new (St.next S)) 0)))), (AV.one (V1.s (SV.str s322))), (AV.one (V1.s (SV.int IntKind.i64 (3 : Int)))), (AV.one (V1.s (SV.bool Bool.false)))] S300 K)
noncomputable def F55_q14 (D J : Disp) (S : St) (p0 : PV) (S300 : St) (y311 : (List Nat)) (x321 : Int) (K : AV → St → Prop) : Prop :=
 req (Bool.and (ile (0 : Int) (oInt (Option.some x321) (0 : Int))) (Bool.and (ile (oInt (Option.some x321) (0 : Int)) (oInt Option.none (Int.ofNat (List.length y311)))) (ile (oInt Option.none (Int.ofNat (List.length y311))) (Int.ofNat (List.length y311))))) <|
 let s322 : (List Nat) := (List.take ((Int.toNat (oInt Option.none (Int.ofNat (List.length y311)))) - (Int.toNat (oInt (Option.some x321) (0 : Int)))) (List.drop (Int.toNat (oInt (Option.some x321) (0 : Int))) y311));
 let x323 : Int := (Int.ofNat (List.length s322));
 let c324 : Bool := (ilt (1 : Int) x323);
 F55_q13 D J S p0 S300 s322 c324 K
noncomputable def F55_0 (D J : Disp) (p0 : PV) (S : St) (K : AV → St → Prop) : Prop :=
 let S300 : St := (St.add S (AO.cells [(SV.int IntKind.i64 (0 : Int)), (SV.int IntKind.i64 (0 : Int)), (SV.str []), (SV.str []), (SV.int IntKind.u64 (0 : Int)), (SV.bool Bool.false)] (Op2.ty 76)));
 PV.cs p0 fun b301 n302 =>
 let n303 : Nat := (n302 + 0);
 St.at S300 b301 n303 fun y304 =>
 uncK y304 fun v305 y306 =>
 SV.cS v305 fun y311 =>
 PV.cs p0 fun b312 n313 =>
 let n314 : Nat := (n313 + 1);
 St.at S300 b312 n314 fun y315 =>
 uncK y315 fun v316 y317 =>
 SV.cI IntKind.i64 v316 fun x321 =>
 F55_q14 D J S p0 S300 y311 x321 K
noncomputable def X55_0 : X := (.op (.op (.op (.op (.jmp 4 [0, 2, 4, 5, 25])))))
theorem F55_0_eq (D J : Disp) (p0 : PV) (S : St) (K : AV → St → Prop) : F55_0 D J p0 S K = execK SynP SynG Go.Proofs.Tryz.f55 (typed SynP D) J plans55 X55_0 (T55 0).1 (envOf (T55 0).2 [(AV.one (V1.s (SV.ptr p0)))]) S K := by kernel_rfl
noncomputable def F55_4 (D J : Disp) (p0 : PV) (p2 : PV) (s4 : (List Nat)) (x5 : Int) (c25 : Bool) (S : St) (K : AV → St → Prop) : Prop :=
 ifK c25
 (J 6 [(AV.one (V1.s (SV.ptr p0))), (AV.one (V1.s (SV.ptr p2))), (AV.one (V1.s (SV.str s4))), (AV.one (V1.s (SV.int IntKind.i64 (4 : Int))))] S K)
 (J 6 [(AV.one (V1.s (SV.ptr p0))), (AV.one (V1.s (SV.ptr p2))), (AV.one (V1.s (SV.str s4))), (AV.one (V1.s (SV.int IntKind.i64 x5)))] S K)
noncomputable def X55_4 : X := (.br (.op (.jmp 6 [0, 2, 4, 5])) (.jmp 6 [0, 2, 4, 5]))
theorem F55_4_eq (D J : Disp) (p0 : PV) (p2 : PV) (s4 : (List Nat)) (x5 : Int) (c25 : Bool) (S : St) (K : AV → St → Prop) : F55_4 D J p0 p2 s4 x5 c25 S K = execK SynP SynG Go.Proofs.Tryz.f55 (typed SynP D) J plans55 X55_4 (T55 4).1 (envOf (T55 4).2 [(AV.one (V1.s (SV.ptr p0))), (AV.one (V1.s (SV.ptr p2))), (AV.one (V1.s (SV.str s4))), (AV.one (V1.s (SV.int IntKind.i64 x5))), (AV.one (V1.s (SV.bool c25)))]) S K := by kernel_rfl
noncomputable def F55_q15 (D J : Disp) (S : St) (p0 : PV) (p2 : PV) (s4 : (List Nat)) (x5 : Int) (K : AV → St → Prop) : Prop :=
 let x302 : Int := (iwrap IntKind.i64 (x5 - (1 : Int)));
 req (Bool.and (ile (0 : Int) x302) (ilt x302 (Int.ofNat (List.length s4)))) <|
 let x303 : Int := (Int.ofNat (List.getD s4 (Int.toNat x302) 0));
 let c304 : Bool := (Bool.not (ieq x303 (39 : Int)));
 J 7 [(AV.one (V1.s (SV.ptr p0))), (AV.one (V1.s (SV.ptr p2))), (AV.one (V1.s (SV.str s4))), (AV.one (V1.s (SV.int IntKind.i64 x5))), (AV.one (V1.s (SV.bool c304)))] S K
noncomputable def F55_6 (D J : Disp) (p0 : PV) (p2 : PV) (s4 : (List Nat)) (x5 : Int) (S : St) (K : AV → St → Prop) : Prop :=
 let x300 : Int := (Int.ofNat (List.length s4));
 let c301 : Bool := (ilt x300 x5);
 ifK c301
 (J 7 [(AV.one (V1.s (SV.ptr p0))), (AV.one (V1.s (SV.ptr p2))), (AV.one (V1.s (SV.str s4))), (AV.one (V1.s (SV.int IntKind.i64 x5))), (AV.one (V1.s (SV.bool Bool.true)))] S K)
 (F55_q15 D J S p0 p2 s4 x5 K)
noncomputable def X55_6 : X := (.op (.jmp 7 [0, 2, 4, 5, 36]))
theorem F55_6_eq (D J : Disp) (p0 : PV) (p2 : PV) (s4 : (List Nat)) (x5 : Int) (S : St) (K : AV → St → Prop) : F55_6 D J p0 p2 s4 x5 S K = execK SynP SynG Go.Proofs.Tryz.f55 (typed SynP D) J plans55 X55_6 (T55 6).1 (envOf (T55 6).2 [(AV.one (V1.s (SV.ptr p0))), (AV.one (V1.s (SV.ptr p2))), (AV.one (V1.s (SV.str s4))), (AV.one (V1.s (SV.int IntKind.i64 x5)))]) S K := by kernel_rfl
noncomputable def F55_q16 (D J : Disp) (p2 : PV) (S302 : St) (K : AV → St → Prop) : Prop :=
 PV.cs p2 fun b303 n304 =>
 St.at S302 b303 n304 fun y305 =>
 uncK y305 fun v306 y307 =>
 SV.cI IntKind.i64 v306 fun x311 =>
 uncK y307 fun v312 y313 =>
 SV.cI IntKind.i64 v312 fun x317 =>
 uncK y313 fun v318 y319 =>
 SV.cS v318 fun y324 =>
 uncK y319 fun v325 y326 =>
 SV.cS v325 fun y331 =>
 uncK y326 fun v332 y333 =>
 SV.cI IntKind.u64 v332 fun x337 =>
 uncK y333 fun v338 y339 =>
 SV.cB v338 fun y341 =>
 K ((AV.tup [(V1.agg [(SV.int IntKind.i64 x311), (SV.int IntKind.i64 x317), (SV.str y324), (SV.str y331), (SV.int IntKind.u64 x337), (SV.bool y341)]), (V1.s (SV.int IntKind.i64 (3 : Int)))])) S302
noncomputable def F55_q17 (D J : Disp) (p2 : PV) (S385 : St) (K : AV → St → Prop) : Prop :=
 PV.cs p2 fun b386 n387 =>
 St.at S385 b386 n387 fun y388 =>
 uncK y388 fun v389 y390 =>
 SV.cI IntKind.i64 v389 fun x394 =>
 uncK y390 fun v395 y396 =>
 SV.cI IntKind.i64 v395 fun x400 =>
 uncK y396 fun v401 y402 =>
 SV.cS v401 fun y407 =>
 uncK y402 fun v408 y409 =>
 SV.cS v408 fun y414 =>
 uncK y409 fun v415 y416 =>
 SV.cI IntKind.u64 v415 fun x420 =>
 uncK y416 fun v421 y422 =>
 SV.cB v421 fun y424 =>
 K ((AV.tup [(V1.agg [(SV.int IntKind.i64 x394), (SV.int IntKind.i64 x400), (SV.str y407), (SV.str y414), (SV.int IntKind.u64 x420), (SV.bool y424)]), (V1.s (SV.int IntKind.i64 (3 : Int)))])) S385
noncomputable def F55_q18 (D J : Disp) (p0 : PV) (p2 : PV) (s4 : (List Nat)) (x5 : Int) (S376 : St) (x381 : Int) (c382 : Bool) (K : AV → St → Prop) : Prop :=
 ifK c382
 (PV.cs p2 fun b383 n384 =>
 St.wr S376 b383 n384 [(SV.int IntKind.i64 (0 : Int)), (SV.int IntKind.i64 (0 : Int)), (SV.str []), (SV.str []), (SV.int IntKind.u64 (0 : Int)), (SV.bool Bool.false)] fun S385 =>
 F55_q17 D J p2 S385 K)
 (req (Bool.and (ile (0 : Int) x381) (ilt x381 (4 : Int))) <|
 let x455 : Int := (Int.ofNat (List.getD [10, 0, 92, 39] (Int.toNat x381) 0));
 J 19 [(AV.one (V1.s (SV.ptr p0))), (AV.one (V1.s (SV.ptr p2))), (AV.one (V1.s (SV.str s4))), (AV.one (V1.s (SV.int IntKind.i64 x5))), (AV.one (V1.s (SV.int IntKind.u8 x455)))] S376 K)
noncomputable def F55_q19 (D J : Disp) (S : St) (p0 : PV) (p2 : PV) (s4 : (List Nat)) (x5 : Int) (x372 : Int) (c464 : Bool) (K : AV → St → Prop) : Prop :=
 ifK c464
 (J 24 [(AV.one (V1.s (SV.ptr p0))), (AV.one (V1.s (SV.ptr p2))), (AV.one (V1.s (SV.str s4))), (AV.one (V1.s (SV.int IntKind.i64 x5))), (AV.one (V1.s (SV.int IntKind.u8 x372))), (AV.one (V1.s (SV.bool Bool.true)))] S K)
 (let c465 : Bool := (ieq x372 (39 : Int));
 J 24 [(AV.one (V1.s (SV.ptr p0))), (AV.one (V1.s (SV.ptr p2))), (AV.one (V1.s (SV.str s4))), (AV.one (V1.s (SV.int IntKind.i64 x5))), (AV.one (V1.s (SV.int IntKind.u8 x372))), (AV.one (V1.s (SV.bool c465)))] S K)
noncomputable def F55_q20 (D J : Disp) (S : St) (p0 : PV) (p2 : PV) (s4 : (List Nat)) (x5 : Int) (x372 : Int) (c373 : Bool) (K : AV → St → Prop) : Prop :=
 ifK c373
 (req (Bool.and Bool.true (ilt (2 : Int) (Int.ofNat (List.length s4)))) <|
 let x374 : Int := (Int.ofNat (List.getD s4 2 0));
 D 49 [(AV.one (V1.s (SV.str [110, 48, 92, 39]))), (AV.one (V1.s (SV.int IntKind.u8 x374)))] S fun v375 S376 =>
 scK v375 fun v378 =>
 SV.cI IntKind.i64 v378 fun x381 =>
 let c382 : Bool := (ilt x381 (0 : Int));
 F55_q18 D J p0 p2 s4 x5 S376 x381 c382 K)
 (let c463 : Bool := (ilt x372 (32 : Int));
 ifK c463
 (J 24 [(AV.one (V1.s (SV.ptr p0))), (AV.one (V1.s (SV.ptr p2))), (AV.one (V1.s (SV.str s4))), (AV.one (V1.s (SV.int IntKind.i64 x5))), (AV.one (V1.s (SV.int IntKind.u8 x372))), (AV.one (V1.s (SV.bool Bool.true)))] S K)
 (let c464 : Bool := (ilt (126 : Int) x372);
 F55_q19 D J S p0 p2 s4 x5 x372 c464 K))
noncomputable def F55_7 (D J : Disp) (p0 : PV) (p2 : PV) (s4 : (List Nat)) (x5 : Int) (c36 : Bool) (S : St) (K : AV → St → Prop) : Prop :=
 ifK c36
 (PV.cs p2 fun b300 n301 =>
 St.wr S b300 n301 [(SV.int IntKind.i64 (0 : Int)), (SV.int IntKind.i64 (0 : Int)), (SV.str []), (SV.str []), (SV.int IntKind.u64 (0 : Int)), (SV.bool Bool.false)] fun S302 =>
 F55_q16 D J p2 S302 K)
 (req (Bool.and Bool.true (ilt (1 : Int) (Int.ofNat (List.length s4)))) <|
 let x372 : Int := (Int.ofNat (List.getD s4 1 0));
 let c373 : Bool := (ieq x5 (4 : Int));
 F55_q20 D J S p0 p2 s4 x5 x372 c373 K)
noncomputable def X55_7 : X := (.br (.op .ret) (.op (.op (.br (.op (.op (.br (.op .ret) (.op (.jmp 19 [0, 2, 4, 5, 6]))))) (.op (.jmp 24 [0, 2, 4, 5, 6, 59]))))))
theorem F55_7_eq (D J : Disp) (p0 : PV) (p2 : PV) (s4 : (List Nat)) (x5 : Int) (c36 : Bool) (S : St) (K : AV → St → Prop) : F55_7 D J p0 p2 s4 x5 c36 S K = execK SynP SynG Go.Proofs.Tryz.f55 (typed SynP D) J plans55 X55_7 (T55 7).1 (envOf (T55 7).2 [(AV.one (V1.s (SV.ptr p0))), (AV.one (V1.s (SV.ptr p2))), (AV.one (V1.s (SV.str s4))), (AV.one (V1.s (SV.int IntKind.i64 x5))), (AV.one (V1.s (SV.bool c36)))]) S K := by kernel_rfl
noncomputable def F55_q21 (D J : Disp) (p2 : PV) (S369 : St) (K : AV → St → Prop) : Prop :=
 PV.cs p2 fun b370 n371 =>
 St.at S369 b370 n371 fun y372 =>
 uncK y372 fun v373 y374 =>
 SV.cI IntKind.i64 v373 fun x378 =>
 uncK y374 fun v379 y380 =>
 SV.cI IntKind.i64 v379 fun x384 =>
 uncK y380 fun v385 y386 =>
 SV.cS v385 fun y391 =>
 uncK y386 fun v392 y393 =>
 SV.cS v392 fun y398 =>
 uncK y393 fun v399 y400 =>
 SV.cI IntKind.u64 v399 fun x404 =>
 uncK y400 fun v405 y406 =>
 SV.cB v405 fun y408 =>
 K ((AV.tup [(V1.agg [(SV.int IntKind.i64 x378), (SV.int IntKind.i64 x384), (SV.str y391), (SV.str y398), (SV.int IntKind.u64 x404), (SV.bool y408)]), (V1.s (SV.int IntKind.i64 (0 : Int)))])) S369
noncomputable def F55_q22 (D J : Disp) (S : St) (p2 : PV) (S329 : St) (K : AV → St → Prop) : Prop :=
 St.at S329 (Bk.new (St.next S)) 0 fun y330 =>
 uncK y330 fun v331 y332 =>
 SV.cI IntKind.i64 v331 fun x336 =>
 uncK y332 fun v337 y338 =>
 SV.cI IntKind.i64 v337 fun x342 =>
 uncK y338 fun v343 y344 =>
 SV.cS v343 fun y349 =>
 uncK y344 fun v350 y351 =>
 SV.cS v350 fun y356 =>
 uncK y351 fun v357 y358 =>
 SV.cI IntKind.u64 v357 fun x362 =>
 uncK y358 fun v363 y364 =>
 SV.cB v363 fun y366 =>
 PV.cs p2 fun b367 n368 =>
 St.wr S329 b367 n368 [(SV.int IntKind.i64 x336), (SV.int IntKind.i64 x342), (SV.str y349), (SV.str y356), (SV.int IntKind.u64 x362), (SV.bool y366)] fun S369 =>
 F55_q21 D J p2 S369 K
noncomputable def F55_q23 (D J : Disp) (S : St) (p0 : PV) (p2 : PV) (x5 : Int) (x309 : Int) (s310 : (List Nat)) (x311 : Int) (K : AV → St → Prop) : Prop :=
 let o312 : AO := (AO.cells [(SV.int IntKind.i64 (0 : Int)), (SV.int IntKind.i64 (0 : Int)), (SV.str []), (SV.str []), (SV.int IntKind.u64 (0 : Int)), (SV.bool Bool.false)] (Op2.ty 76));
 let S313 : St := (St.add S o312);
 St.wr S313 (Bk.new (St.next S)) 0 [(SV.int IntKind.i64 (4 : Int)), (SV.int IntKind.i64 x309), (SV.str s310), (SV.str []), (SV.int IntKind.u64 x311), (SV.bool Bool.false)] fun S314 =>
 PV.cs p0 fun b315 n316 =>
 let n317 : Nat := (n316 + 1);
 St.at S314 b315 n317 fun y318 =>
 uncK y318 fun v319 y320 =>
 SV.cI IntKind.i64 v319 fun x324 =>
 let x325 : Int := (iwrap IntKind.i64 (x324 + x5));
 PV.cs p0 fun b326 n327 =>
 let n328 : Nat := (n327 + 1);
 St.wr S314 b326 n328 [(SV.int IntKind.i64 x325)] fun S329 =>
 F55_q22 D J S p2 S329 K
noncomputable def F55_q24 (D J : Disp) (S : St) (p0 : PV) (p2 : PV) (s4 : (List Nat)) (x5 : Int) (x6 : Int) (b300 : Bk) (n302 : Nat) (K : AV → St → Prop) : Prop :=
 St.at S b300 n302 fun y303 =>
 uncK y303 fun v304 y305 =>
 SV.cI IntKind.i64 v304 fun x309 =>
 req (Bool.and Bool.true (Bool.and (ile (0 : Int) (oInt (Option.some x5) (Int.ofNat (List.length s4)))) (ile (oInt (Option.some x5) (Int.ofNat (List.length s4))) (Int.ofNat (List.length s4))))) <|
 let s310 : (List Nat) := (List.take ((Int.toNat (oInt (Option.some x5) (Int.ofNat (List.length s4)))) - 0) (List.drop 0 s4));
 let x311 : Int := (iwrap IntKind.u64 x6);
 F55_q23 D J S p0 p2 x5 x309 s310 x311 K
noncomputable def F55_19 (D J : Disp) (p0 : PV) (p2 : PV) (s4 : (List Nat)) (x5 : Int) (x6 : Int) (S : St) (K : AV → St → Prop) : Prop :=
 PV.cs p0 fun b300 n301 =>
 let n302 : Nat := (n301 + 1);
 F55_q24 D J S p0 p2 s4 x5 x6 b300 n302 K
noncomputable def X55_19 : X := (.op (.op (.op .ret)))
theorem F55_19_eq (D J : Disp) (p0 : PV) (p2 : PV) (s4 : (List Nat)) (x5 : Int) (x6 : Int) (S : St) (K : AV → St → Prop) : F55_19 D J p0 p2 s4 x5 x6 S K = execK SynP SynG Go.Proofs.Tryz.f55 (typed SynP D) J plans55 X55_19 (T55 19).1 (envOf (T55 19).2 [(AV.one (V1.s (SV.ptr p0))), (AV.one (V1.s (SV.ptr p2))), (AV.one (V1.s (SV.str s4))), (AV.one (V1.s (SV.int IntKind.i64 x5))), (AV.one (V1.s (SV.int IntKind.u8 x6)))]) S K := by kernel_rfl
noncomputable def F55_q25 (D J : Disp) (p2 : PV) (S302 : St) (K : AV → St → Prop) : Prop :=
 PV.cs p2 fun b303 n304 =>
 St.at S302 b303 n304 fun y305 =>
 uncK y305 fun v306 y307 =>
 SV.cI IntKind.i64 v306 fun x311 =>
 uncK y307 fun v312 y313 =>
 SV.cI IntKind.i64 v312 fun x317 =>
 uncK y313 fun v318 y319 =>
 SV.cS v318 fun y324 =>
 uncK y319 fun v325 y326 =>
 SV.cS v325 fun y331 =>
 uncK y326 fun v332 y333 =>
 SV.cI IntKind.u64 v332 fun x337 =>
 uncK y333 fun v338 y339 =>
 SV.cB v338 fun y341 =>
 K ((AV.tup [(V1.agg [(SV.int IntKind.i64 x311), (SV.int IntKind.i64 x317), (SV.str y324), (SV.str y331), (SV.int IntKind.u64 x337), (SV.bool y341)]), (V1.s (SV.int IntKind.i64 (3 : Int)))])) S302
noncomputable def F55_24 (D J : Disp) (p0 : PV) (p2 : PV) (s4 : (List Nat)) (x5 : Int) (x6 : Int) (c59 : Bool) (S : St) (K : AV → St → Prop) : Prop :=
 ifK c59
 (PV.cs p2 fun b300 n301 =>
 St.wr S b300 n301 [(SV.int IntKind.i64 (0 : Int)), (SV.int IntKind.i64 (0 : Int)), (SV.str []), (SV.str []), (SV.int IntKind.u64 (0 : Int)), (SV.bool Bool.false)] fun S302 =>
 F55_q25 D J p2 S302 K)
 (J 19 [(AV.one (V1.s (SV.ptr p0))), (AV.one (V1.s (SV.ptr p2))), (AV.one (V1.s (SV.str s4))), (AV.one (V1.s (SV.int IntKind.i64 x5))), (AV.one (V1.s (SV.int IntKind.u8 x6)))] S K)
noncomputable def X55_24 : X := (.br (.op .ret) (.jmp 19 [0, 2, 4, 5, 6]))
theorem F55_24_eq (D J : Disp) (p0 : PV) (p2 : PV) (s4 : (List Nat)) (x5 : Int) (x6 : Int) (c59 : Bool) (S : St) (K : AV → St → Prop) : F55_24 D J p0 p2 s4 x5 x6 c59 S K = execK SynP SynG Go.Proofs.Tryz.f55 (typed SynP D) J plans55 X55_24 (T55 24).1 (envOf (T55 24).2 [(AV.one (V1.s (SV.ptr p0))), (AV.one (V1.s (SV.ptr p2))), (AV.one (V1.s (SV.str s4))), (AV.one (V1.s (SV.int IntKind.i64 x5))), (AV.one (V1.s (SV.int IntKind.u8 x6))), (AV.one (V1.s (SV.bool c59)))]) S K := by kernel_rfl
noncomputable abbrev A55_0 (D J : Disp) (vals : List AV) (S : St) (K : AV → St → Prop) : Prop :=
  uncA vals fun a9001 r9002 => scK a9001 fun s9004 => SV.cP s9004 fun p0 => endL r9002 <| F55_0 D J p0 S K
theorem A55_0_ok {D J : Disp} (hD : DOK SynP SynG D) (hJ : JOK SynP SynG Go.Proofs.Tryz.f55 T55 J) {vals : List AV} {S : St} {K : AV → St → Prop} (h0 : A55_0 D J vals S K) : Runs SynP SynG Go.Proofs.Tryz.f55 (T55 0).1 (envOf (T55 0).2 vals) S K := by
  obtain ⟨a9001, r9002, rfl, h3⟩ := uncA_some h0
  obtain ⟨s9004, rfl, h5⟩ := scK_some h3
  obtain ⟨p0, rfl, h6⟩ := cP_some h5
  obtain ⟨rfl, h7⟩ := endL_some h6
  rw [F55_0_eq] at h7
  exact execK_runs hD.typed Syn_zero Syn_mixed hJ X55_0 (T55 0).1 (envOf (T55 0).2 _) S K (chk_of (by kernel_rfl) (by kernel_rfl)) h7
noncomputable abbrev A55_4 (D J : Disp) (vals : List AV) (S : St) (K : AV → St → Prop) : Prop :=
  uncA vals fun a9001 r9002 => scK a9001 fun s9004 => SV.cP s9004 fun p0 => uncA r9002 fun a9007 r9008 => scK a9007 fun s9010 => SV.cP s9010 fun p2 => uncA r9008 fun a9013 r9014 => scK a9013 fun s9016 => SV.cS s9016 fun s4 => uncA r9014 fun a9019 r9020 => scK a9019 fun s9022 => SV.cI IntKind.i64 s9022 fun x5 => uncA r9020 fun a9025 r9026 => scK a9025 fun s9028 => SV.cB s9028 fun c25 => endL r9026 <| F55_4 D J p0 p2 s4 x5 c25 S K
theorem A55_4_ok {D J : Disp} (hD : DOK SynP SynG D) (hJ : JOK SynP SynG Go.Proofs.Tryz.f55 T55 J) {vals : List AV} {S : St} {K : AV → St → Prop} (h0 : A55_4 D J vals S K) : Runs SynP SynG Go.Proofs.Tryz.f55 (T55 4).1 (envOf (T55 4).2 vals) S K := by
  obtain ⟨a9001, r9002, rfl, h3⟩ := uncA_some h0
  obtain ⟨s9004, rfl, h5⟩ := scK_some h3
  obtain ⟨p0, rfl, h6⟩ := cP_some h5
  obtain ⟨a9007, r9008, rfl, h9⟩ := uncA_some h6
  obtain ⟨s9010, rfl, h11⟩ := scK_some h9
  obtain ⟨p2, rfl, h12⟩ := cP_some h11
  obtain ⟨a9013, r9014, rfl, h15⟩ := uncA_some h12
  obtain ⟨s9016, rfl, h17⟩ := scK_some h15
  obtain ⟨s4, rfl, h18⟩ := cS_some h17
  obtain ⟨a9019, r9020, rfl, h21⟩ := uncA_some h18
  obtain ⟨s9022, rfl, h23⟩ := scK_some h21
  obtain ⟨x5, rfl, h24⟩ := cI_some h23
  obtain ⟨a9025, r9026, rfl, h27⟩ := uncA_some h24
  obtain ⟨s9028, rfl, h29⟩ := scK_some h27
  obtain ⟨c25, rfl, h30⟩ := cB_some h29
  obtain ⟨rfl, h31⟩ := endL_some h30
  rw [F55_4_eq] at h31
  exact execK_runs hD.typed Syn_zero Syn_mixed hJ X55_4 (T55 4).1 (envOf (T55 4).2 _) S K (chk_of (by kernel_rfl) (by kernel_rfl)) h31
noncomputable abbrev A55_6 (D J : Disp) (vals : List AV) (S : St) (K : AV → St → Prop) : Prop :=
  uncA vals fun a9001 r9002 => scK a9001 fun s9004 => SV.cP s9004 fun p0 => uncA r9002 fun a9007 r9008 => scK a9007 fun s9010 => SV.cP s9010 fun p2 => uncA r9008 fun a9013 r9014 => scK a9013 fun s9016 => SV.cS s9016 fun s4 => uncA r9014 fun a9019 r9020 => scK a9019 fun s9022 => SV.cI IntKind.i64 s9022 fun x5 => endL r9020 <| F55_6 D J p0 p2 s4 x5 S K
theorem A55_6_ok {D J : Disp} (hD : DOK SynP SynG D) (hJ : JOK SynP SynG Go.Proofs.Tryz.f55 T55 J) {vals : List AV} {S : St} {K : AV → St → Prop} (h0 : A55_6 D J vals S K) : Runs SynP SynG Go.Proofs.Tryz.f55 (T55 6).1 (envOf (T55 6).2 vals) S K := by
  obtain ⟨a9001, r9002, rfl, h3⟩ := uncA_some h0
  obtain ⟨s9004, rfl, h5⟩ := scK_some h3
  obtain ⟨p0, rfl, h6⟩ := cP_some h5
  obtain ⟨a9007, r9008, rfl, h9⟩ := uncA_some h6
  obtain ⟨s9010, rfl, h11⟩ := scK_some h9
  obtain ⟨p2, rfl, h12⟩ := cP_some h11
  obtain ⟨a9013, r9014, rfl, h15⟩ := uncA_some h12
  obtain ⟨s9016, rfl, h17⟩ := scK_some h15
  obtain ⟨s4, rfl, h18⟩ := cS_some h17
  obtain ⟨a9019, r9020, rfl, h21⟩ := uncA_some h18
  obtain ⟨s9022, rfl, h23⟩ := scK_some h21
  obtain ⟨x5, rfl, h24⟩ := cI_some h23
  obtain ⟨rfl, h25⟩ := endL_some h24
  rw [F55_6_eq] at h25
  exact execK_runs hD.typed Syn_zero Syn_mixed hJ X55_6 (T55 6).1 (envOf (T55 6).2 _) S K (chk_of (by kernel_rfl) (by kernel_rfl)) h25
noncomputable abbrev A55_7 (D J : Disp) (vals : List AV) (S : St) (K : AV → St → Prop) : Prop :=
  uncA vals fun a9001 r9002 => scK a9001 fun s9004 => SV.cP s9004 fun p0 => uncA r9002 fun a9007 r9008 => scK a9007 fun s9010 => SV.cP s9010 fun p2 => uncA r9008 fun a9013 r9014 => scK a9013 fun s9016 => SV.cS s9016 fun s4 => uncA r9014 fun a9019 r9020 => scK a9019 fun s9022 => SV.cI IntKind.i64 s9022 fun x5 => uncA r9020 fun a9025 r9026 => scK a9025 fun s9028 => SV.cB s9028 fun c36 => endL r9026 <| F55_7 D J p0 p2 s4 x5 c36 S K
theorem A55_7_ok {D J : Disp} (hD : DOK SynP SynG D) (hJ : JOK SynP SynG Go.Proofs.Tryz.f55 T55 J) {vals : List AV} {S : St} {K : AV → St → Prop} (h0 : A55_7 D J vals S K) : Runs SynP SynG Go.Proofs.Tryz.f55 (T55 7).1 (envOf (T55 7).2 vals) S K := by
  obtain ⟨a9001, r9002, rfl, h3⟩ := uncA_some h0
  obtain ⟨s9004, rfl, h5⟩ := scK_some h3
  obtain ⟨p0, rfl, h6⟩ := cP_some h5
  obtain ⟨a9007, r9008, rfl, h9⟩ := uncA_some h6
  obtain ⟨s9010, rfl, h11⟩ := scK_some h9
  obtain ⟨p2, rfl, h12⟩ := cP_some h11
  obtain ⟨a9013, r9014, rfl, h15⟩ := uncA_some h12
  obtain ⟨s9016, rfl, h17⟩ := scK_some h15
  obtain ⟨s4, rfl, h18⟩ := cS_some h17
  obtain ⟨a9019, r9020, rfl, h21⟩ := uncA_some h18
  obtain ⟨s9022, rfl, h23⟩ := scK_some h21
  obtain ⟨x5, rfl, h24⟩ := cI_some h23
  obtain ⟨a9025, r9026, rfl, h27⟩ := uncA_some h24
  obtain ⟨s9028, rfl, h29⟩ := scK_some h27
  obtain ⟨c36, rfl, h30⟩ := cB_some h29
  obtain ⟨rfl, h31⟩ := endL_some h30
  rw [F55_7_eq] at h31
  exact execK_runs hD.typed Syn_zero Syn_mixed hJ X55_7 (T55 7).1 (envOf (T55 7).2 _) S K (chk_of (by kernel_rfl) (by kernel_rfl)) h31
noncomputable abbrev A55_19 (D J : Disp) (vals : List AV) (S : St) (K : AV → St → Prop) : Prop :=
  uncA vals fun a9001 r9002 => scK a9001 fun s9004 => SV.cP s9004 fun p0 => uncA r9002 fun a9007 r9008 => scK a9007 fun s9010 => SV.cP s9010 fun p2 => uncA r9008 fun a9013 r9014 => scK a9013 fun s9016 => SV.cS s9016 fun s4 => uncA r9014 fun a9019 r9020 => scK a9019 fun s9022 => SV.cI IntKind.i64 s9022 fun x5 => uncA r9020 fun a9025 r9026 => scK a9025 fun s9028 => SV.cI IntKind.u8 s9028 fun x6 => endL r9026 <| F55_19 D J p0 p2 s4 x5 x6 S K
theorem A55_19_ok {D J : Disp} (hD : DOK SynP SynG D) (hJ : JOK SynP SynG Go.Proofs.Tryz.f55 T55 J) {vals : List AV} {S : St} {K : AV → St → Prop} (h0 : A55_19 D J vals S K) : Runs SynP SynG Go.Proofs.Tryz.f55 (T55 19).1 (envOf (T55 19).2 vals) S K := by
  obtain ⟨a9001, r9002, rfl, h3⟩ := uncA_some h0
  obtain ⟨s9004, rfl, h5⟩ := scK_some h3
  obtain ⟨p0, rfl, h6⟩ := cP_some h5
  obtain ⟨a9007, r9008, rfl, h9⟩ := uncA_some h6
  obtain ⟨s9010, rfl, h11⟩ := scK_some h9
  obtain ⟨p2, rfl, h12⟩ := cP_some h11
  obtain ⟨a9013, r9014, rfl, h15⟩ := uncA_some h12
  obtain ⟨s9016, rfl, h17⟩ := scK_some h15
  obtain ⟨s4, rfl, h18⟩ := cS_some h17
  obtain ⟨a9019, r9020, rfl, h21⟩ := uncA_some h18
  obtain ⟨s9022, rfl, h23⟩ := scK_some h21
  obtain ⟨x5, rfl, h24⟩ := cI_some h23
  obtain ⟨a9025, r9026, rfl, h27⟩ := uncA_some h24
  obtain ⟨s9028, rfl, h29⟩ := scK_some h27
  obtain ⟨x6, rfl, h30⟩ := cI_some h29
  obtain ⟨rfl, h31⟩ := endL_some h30
  rw [F55_19_eq] at h31
  exact execK_runs hD.typed Syn_zero Syn_mixed hJ X55_19 (T55 19).1 (envOf (T55 19).2 _) S K (chk_of (by kernel_rfl) (by kernel_rfl)) h31
noncomputable abbrev A55_24 (D J : Disp) (vals : List AV) (S : St) (K : AV → St → Prop) : Prop :=
  uncA vals fun a9001 r9002 => scK a9001 fun s9004 => SV.cP s9004 fun p0 => uncA r9002 fun a9007 r9008 => scK a9007 fun s9010 => SV.cP s9010 fun p2 => uncA r9008 fun a9013 r9014 => scK a9013 fun s9016 => SV.cS s9016 fun s4 => uncA r9014 fun a9019 r9020 => scK a9019 fun s9022 => SV.cI IntKind.i64 s9022 fun x5 => uncA r9020 fun a9025 r9026 => scK a9025 fun s9028 => SV.cI IntKind.u8 s9028 fun x6 => uncA r9026 fun a9031 r9032 => scK a9031 fun s9034 => SV.cB s9034 fun c59 => endL r9032 <| F55_24 D J p0 p2 s4 x5 x6 c59 S K
theorem A55_24_ok {D J : Disp} (hD : DOK SynP SynG D) (hJ : JOK SynP SynG Go.Proofs.Tryz.f55 T55 J) {vals : List AV} {S : St} {K : AV → St → Prop} (h0 : A55_24 D J vals S K) : Runs SynP SynG Go.Proofs.Tryz.f55 (T55 24).1 (envOf (T55 24).2 vals) S K := by
  obtain ⟨a9001, r9002, rfl, h3⟩ := uncA_some h0
  obtain ⟨s9004, rfl, h5⟩ := scK_some h3
  obtain ⟨p0, rfl, h6⟩ := cP_some h5
  obtain ⟨a9007, r9008, rfl, h9⟩ := uncA_some h6
  obtain ⟨s9010, rfl, h11⟩ := scK_some h9
  obtain ⟨p2, rfl, h12⟩ := cP_some h11
  obtain ⟨a9013, r9014, rfl, h15⟩ := uncA_some h12
  obtain ⟨s9016, rfl, h17⟩ := scK_some h15
  obtain ⟨s4, rfl, h18⟩ := cS_some h17
  obtain ⟨a9019, r9020, rfl, h21⟩ := uncA_some h18
  obtain ⟨s9022, rfl, h23⟩ := scK_some h21
  obtain ⟨x5, rfl, h24⟩ := cI_some h23
  obtain ⟨a9025, r9026, rfl, h27⟩ := uncA_some h24
  obtain ⟨s9028, rfl, h29⟩ := scK_some h27
  obtain ⟨x6, rfl, h30⟩ := cI_some h29
  obtain ⟨a9031, r9032, rfl, h33⟩ := uncA_some h30
  obtain ⟨s9034, rfl, h35⟩ := scK_some h33
  obtain ⟨c59, rfl, h36⟩ := cB_some h35
  obtain ⟨rfl, h37⟩ := endL_some h36
  rw [F55_24_eq] at h37
  exact execK_runs hD.typed Syn_zero Syn_mixed hJ X55_24 (T55 24).1 (envOf (T55 24).2 _) S K (chk_of (by kernel_rfl) (by kernel_rfl)) h37
noncomputable def J55 (D : Disp) (k : Nat) : Disp := Nat.rec (motive := fun _ => Disp) Disp.no (fun _ ih => Disp.add 0 (A55_0 D ih) <| Disp.add 4 (A55_4 D ih) <| Disp.add 6 (A55_6 D ih) <| Disp.add 7 (A55_7 D ih) <| Disp.add 19 (A55_19 D ih) <| Disp.add 24 (A55_24 D ih) <| Disp.no) k
theorem J55_ok {D : Disp} (hD : DOK SynP SynG D) : ∀ k, JOK SynP SynG Go.Proofs.Tryz.f55 T55 (J55 D k)
  | 0 => JOK.no
  | k + 1 => JOK.add (ltB_ok (by kernel_rfl)) (fun vals S K h => A55_0_ok hD (J55_ok hD k) h) <| JOK.add (ltB_ok (by kernel_rfl)) (fun vals S K h => A55_4_ok hD (J55_ok hD k) h) <| JOK.add (ltB_ok (by kernel_rfl)) (fun vals S K h => A55_6_ok hD (J55_ok hD k) h) <| JOK.add (ltB_ok (by kernel_rfl)) (fun vals S K h => A55_7_ok hD (J55_ok hD k) h) <| JOK.add (ltB_ok (by kernel_rfl)) (fun vals S K h => A55_19_ok hD (J55_ok hD k) h) <| JOK.add (ltB_ok (by kernel_rfl)) (fun vals S K h => A55_24_ok hD (J55_ok hD k) h) <| JOK.no
theorem E55_ok {D : Disp} (hD : DOK SynP SynG D) (k : Nat) {args : List AV} {S : St} {K : AV → St → Prop} (h : A55_0 D (J55 D k) args S K) : CallE SynP SynG 55 args S K := by
  have hr := A55_0_ok hD (J55_ok hD k) h
  have hl : args.length = 1 := by
    have h0 := h
    obtain ⟨a9001, r9002, rfl, h3⟩ := uncA_some h0
    obtain ⟨s9004, rfl, h5⟩ := scK_some h3
    obtain ⟨p0, rfl, h6⟩ := cP_some h5
    obtain ⟨rfl, h7⟩ := endL_some h6
    rfl
  refine callOK_of (fn := Go.Proofs.Tryz.f55) (c := (match Go.Proofs.Tryz.f55.body with | some c => c | none => .skip)) (by kernel_rfl) (by kernel_rfl) (by kernel_rfl) (by rw [hl]; kernel_rfl) (by kernel_rfl) ?_
  rw [hl]
  exact hr
noncomputable def plans56 (i : Nat) : Plan := []
noncomputable def T56 (p : Nat) : List Item × List Nat := bif Nat.beq p 0 then ([.code (match Go.Proofs.Tryz.f56.body with | some c => c | none => .skip)], [0]) else
  ([], [])
noncomputable def F56_q0 (D J : Disp) (x0 : Int) (S301 : St) (c305 : Bool) (K : AV → St → Prop) : Prop :=
 ifK c305
 (let c306 : Bool := (ile x0 (122 : Int));
 ifK c306
 (K ((AV.one (V1.s (SV.bool Bool.true)))) S301)
 (let c307 : Bool := (ile (65 : Int) x0);
 ifK c307
 (let c308 : Bool := (ile x0 (90 : Int));
 ifK c308
 (K ((AV.one (V1.s (SV.bool Bool.true)))) S301)
 (let c309 : Bool := (ieq x0 (95 : Int));
 K ((AV.one (V1.s (SV.bool c309)))) S301))
 (let c310 : Bool := (ieq x0 (95 : Int));
 K ((AV.one (V1.s (SV.bool c310)))) S301)))
 (let c311 : Bool := (ile (65 : Int) x0);
 ifK c311
 (let c312 : Bool := (ile x0 (90 : Int));
 ifK c312
 (K ((AV.one (V1.s (SV.bool Bool.true)))) S301)
 (let c313 : Bool := (ieq x0 (95 : Int));
 K ((AV.one (V1.s (SV.bool c313)))) S301))
 (let c314 : Bool := (ieq x0 (95 : Int));
 K ((AV.one (V1.s (SV.bool c314)))) S301))
noncomputable def F56_0 (D J : Disp) (x0 : Int) (S : St) (K : AV → St → Prop) : Prop :=
 D 53 [(AV.one (V1.s (SV.int IntKind.u8 x0)))] S fun v300 S301 =>
 scK v300 fun v303 =>
 SV.cB v303 fun y304 =>
 ifK y304
 (K ((AV.one (V1.s (SV.bool Bool.true)))) S301)
 (let c305 : Bool := (ile (97 : Int) x0);
 F56_q0 D J x0 S301 c305 K)
noncomputable def X56_0 : X := (.op (.op .ret))
theorem F56_0_eq (D J : Disp) (x0 : Int) (S : St) (K : AV → St → Prop) : F56_0 D J x0 S K = execK SynP SynG Go.Proofs.Tryz.f56 (typed SynP D) J plans56 X56_0 (T56 0).1 (envOf (T56 0).2 [(AV.one (V1.s (SV.int IntKind.u8 x0)))]) S K := by kernel_rfl
noncomputable abbrev A56_0 (D J : Disp) (vals : List AV) (S : St) (K : AV → St → Prop) : Prop :=
  uncA vals fun a9001 r9002 => scK a9001 fun s9004 => SV.cI IntKind.u8 s9004 fun x0 => endL r9002 <| F56_0 D J x0 S K
theorem A56_0_ok {D J : Disp} (hD : DOK SynP SynG D) (hJ : JOK SynP SynG Go.Proofs.Tryz.f56 T56 J) {vals : List AV} {S : St} {K : AV → St → Prop} (h0 : A56_0 D J vals S K) : Runs SynP SynG Go.Proofs.Tryz.f56 (T56 0).1 (envOf (T56 0).2 vals) S K := by
  obtain ⟨a9001, r9002, rfl, h3⟩ := uncA_some h0
  obtain ⟨s9004, rfl, h5⟩ := scK_some h3
  obtain ⟨x0, rfl, h6⟩ := cI_some h5
  obtain ⟨rfl, h7⟩ := endL_some h6
  rw [F56_0_eq] at h7
  exact execK_runs hD.typed Syn_zero Syn_mixed hJ X56_0 (T56 0).1 (envOf (T56 0).2 _) S K (chk_of (by kernel_rfl) (by kernel_rfl)) h7
noncomputable def J56 (D : Disp) (k : Nat) : Disp := Nat.rec (motive := fun _ => Disp) Disp.no (fun _ ih => Disp.add 0 (A56_0 D ih) <| Disp.no) k
theorem J56_ok {D : Disp} (hD : DOK SynP SynG D) : ∀ k, JOK SynP SynG Go.Proofs.Tryz.f56 T56 (J56 D k)
  | 0 => JOK.no
  | k + 1 => JOK.add (ltB_ok (by kernel_rfl)) (fun vals S K h => A56_0_ok hD (J56_ok hD k) h) <| JOK.no
theorem E56_ok {D : Disp} (hD : DOK SynP SynG D) (k : Nat) {args : List AV} {S : St} {K : AV → St → Prop} (h : A56_0 D (J56 D k) args S K) : CallE SynP SynG 56 args S K := by
  have hr := A56_0_ok hD (J56_ok hD k) h
  have hl : args.length = 1 := by
    have h0 := h
    obtain ⟨a9001, r9002, rfl, h3⟩ := uncA_some h0
    obtain ⟨s9004, rfl, h5⟩ := scK_some h3
    obtain ⟨x0, rfl, h6⟩ := cI_some h5
    obtain ⟨rfl, h7⟩ := endL_some h6
    rfl
  refine callOK_of (fn := Go.Proofs.Tryz.f56) (c := (match Go.Proofs.Tryz.f56.body with | some c => c | none => .skip)) (by kernel_rfl) (by kernel_rfl) (by kernel_rfl) (by rw [hl]; kernel_rfl) (by kernel_rfl) ?_
  rw [hl]
  exact hr
noncomputable def plans57 (i : Nat) : Plan := []
noncomputable def T57 (p : Nat) : List Item × List Nat := bif Nat.beq p 0 then ([.code (match Go.Proofs.Tryz.f57.body with | some c => c | none => .skip)], [0, 1]) else
  bif Nat.beq p 2 then (navs [.op, .op] [.code (match Go.Proofs.Tryz.f57.body with | some c => c | none => .skip)], [0, 1, 5]) else
  bif Nat.beq p 3 then (navs [.op, .op, .op] [.code (match Go.Proofs.Tryz.f57.body with | some c => c | none => .skip)], [0, 1, 5, 16]) else
  ([], [])
noncomputable def F57_0 (D J : Disp) (s0 : (List Nat)) (f1 : FV) (S : St) (K : AV → St → Prop) : Prop :=
 J 2 [(AV.one (V1.s (SV.str s0))), (AV.one (V1.s (SV.fn f1))), (AV.one (V1.s (SV.int IntKind.i64 (0 : Int))))] S K
noncomputable def X57_0 : X := (.op (.op (.jmp 2 [0, 1, 5])))
theorem F57_0_eq (D J : Disp) (s0 : (List Nat)) (f1 : FV) (S : St) (K : AV → St → Prop) : F57_0 D J s0 f1 S K = execK SynP SynG Go.Proofs.Tryz.f57 (typed SynP D) J plans57 X57_0 (T57 0).1 (envOf (T57 0).2 [(AV.one (V1.s (SV.str s0))), (AV.one (V1.s (SV.fn f1)))]) S K := by kernel_rfl
noncomputable def F57_q1 (D J : Disp) (S : St) (s0 : (List Nat)) (f1 : FV) (x5 : Int) (x302 : Int) (K : AV → St → Prop) : Prop :=
 FV.cs f1 fun y303 y304 y305 =>
 fnF y303 fun y306 =>
 optK (GetElem?.getElem? (Program.funcs SynP) y306) fun y307 =>
 ifK (zeroable SynP (Array.toList (Func.resultTypes y307)))
 (D y306 ((List.map ptrAV y304) ++ ([(AV.one (V1.s (SV.int IntKind.u8 x302)))] ++ (List.map ptrAV y305))) S fun v310 S311 =>
 shapeK SynP (Array.toList (Func.resultTypes y307)) v310 fun v312 =>
 J 3 [(AV.one (V1.s (SV.str s0))), (AV.one (V1.s (SV.fn f1))), (AV.one (V1.s (SV.int IntKind.i64 x5))), v312] S311 K)
 (D y306 ((List.map ptrAV y304) ++ ([(AV.one (V1.s (SV.int IntKind.u8 x302)))] ++ (List.map ptrAV y305))) S fun v308 S309 =>
 J 3 [(AV.one (V1.s (SV.str s0))), (AV.one (V1.s (SV.fn f1))), (AV.one (V1.s (SV.int IntKind.i64 x5))), AV.any] S309 K)
noncomputable def F57_2 (D J : Disp) (s0 : (List Nat)) (f1 : FV) (x5 : Int) (S : St) (K : AV → St → Prop) : Prop :=
 let x300 : Int := (Int.ofNat (List.length s0));
 let c301 : Bool := (ilt x5 x300);
 ifK c301
 (req (Bool.and (ile (0 : Int) x5) (ilt x5 (Int.ofNat (List.length s0)))) <|
 let x302 : Int := (Int.ofNat (List.getD s0 (Int.toNat x5) 0));
 F57_q1 D J S s0 f1 x5 x302 K)
 (J 3 [(AV.one (V1.s (SV.str s0))), (AV.one (V1.s (SV.fn f1))), (AV.one (V1.s (SV.int IntKind.i64 x5))), (AV.one (V1.s (SV.bool Bool.false)))] S K)
noncomputable def X57_2 : X := (.op (.jmp 3 [0, 1, 5, 16]))
theorem F57_2_eq (D J : Disp) (s0 : (List Nat)) (f1 : FV) (x5 : Int) (S : St) (K : AV → St → Prop) : F57_2 D J s0 f1 x5 S K = execK SynP SynG Go.Proofs.Tryz.f57 (typed SynP D) J plans57 X57_2 (T57 2).1 (envOf (T57 2).2 [(AV.one (V1.s (SV.str s0))), (AV.one (V1.s (SV.fn f1))), (AV.one (V1.s (SV.int IntKind.i64 x5)))]) S K := by kernel_rfl
noncomputable def F57_3 (D J : Disp) (s0 : (List Nat)) (f1 : FV) (x5 : Int) (v16 : AV) (S : St) (K : AV → St → Prop) : Prop :=
 boolK v16 fun c300 =>
 ifK c300
 (let x301 : Int := (iwrap IntKind.i64 (x5 + (1 : Int)));
 J 2 [(AV.one (V1.s (SV.str s0))), (AV.one (V1.s (SV.fn f1))), (AV.one (V1.s (SV.int IntKind.i64 x301)))] S K)
 (K ((AV.one (V1.s (SV.int IntKind.i64 x5)))) S)
noncomputable def X57_3 : X := (.br (.op (.jmp 2 [0, 1, 5])) (.op .ret))
theorem F57_3_eq (D J : Disp) (s0 : (List Nat)) (f1 : FV) (x5 : Int) (v16 : AV) (S : St) (K : AV → St → Prop) : F57_3 D J s0 f1 x5 v16 S K = execK SynP SynG Go.Proofs.Tryz.f57 (typed SynP D) J plans57 X57_3 (T57 3).1 (envOf (T57 3).2 [(AV.one (V1.s (SV.str s0))), (AV.one (V1.s (SV.fn f1))), (AV.one (V1.s (SV.int IntKind.i64 x5))), v16]) S K := by kernel_rfl
noncomputable abbrev A57_0 (D J : Disp) (vals : List AV) (S : St) (K : AV → St → Prop) : Prop :=
  uncA vals fun a9001 r9002 => scK a9001 fun s9004 => SV.cS s9004 fun s0 => uncA r9002 fun a9007 r9008 => scK a9007 fun s9010 => SV.cF s9010 fun f1 => endL r9008 <| F57_0 D J s0 f1 S K
theorem A57_0_ok {D J : Disp} (hD : DOK SynP SynG D) (hJ : JOK SynP SynG Go.Proofs.Tryz.f57 T57 J) {vals : List AV} {S : St} {K : AV → St → Prop} (h0 : A57_0 D J vals S K) : Runs SynP SynG Go.Proofs.Tryz.f57 (T57 0).1 (envOf (T57 0).2 vals) S K := by
  obtain ⟨a9001, r9002, rfl, h3⟩ := uncA_some h0
  obtain ⟨s9004, rfl, h5⟩ := scK_some h3
  obtain ⟨s0, rfl, h6⟩ := cS_some h5
  obtain ⟨a9007, r9008, rfl, h9⟩ := uncA_some h6
  obtain ⟨s9010, rfl, h11⟩ := scK_some h9
  obtain ⟨f1, rfl, h12⟩ := cF_some h11
  obtain ⟨rfl, h13⟩ := endL_some h12
  rw [F57_0_eq] at h13
  exact execK_runs hD.typed Syn_zero Syn_mixed hJ X57_0 (T57 0).1 (envOf (T57 0).2 _) S K (chk_of (by kernel_rfl) (by kernel_rfl)) h13
noncomputable abbrev A57_2 (D J : Disp) (vals : List AV) (S : St) (K : AV → St → Prop) : Prop :=
  uncA vals fun a9001 r9002 => scK a9001 fun s9004 => SV.cS s9004 fun s0 => uncA r9002 fun a9007 r9008 => scK a9007 fun s9010 => SV.cF s9010 fun f1 => uncA r9008 fun a9013 r9014 => scK a9013 fun s9016 => SV.cI IntKind.i64 s9016 fun x5 => endL r9014 <| F57_2 D J s0 f1 x5 S K
theorem A57_2_ok {D J : Disp} (hD : DOK SynP SynG D) (hJ : JOK SynP SynG Go.Proofs.Tryz.f57 T57 J) {vals : List AV} {S : St} {K : AV → St → Prop} (h0 : A57_2 D J vals S K) : Runs SynP SynG Go.Proofs.Tryz.f57 (T57 2).1 (envOf (T57 2).2 vals) S K := by
  obtain ⟨a9001, r9002, rfl, h3⟩ := uncA_some h0
  obtain ⟨s9004, rfl, h5⟩ := scK_some h3
  obtain ⟨s0, rfl, h6⟩ := cS_some h5
  obtain ⟨a9007, r9008, rfl, h9⟩ := uncA_some h6
  obtain ⟨s9010, rfl, h11⟩ := scK_some h9
  obtain ⟨f1, rfl, h12⟩ := cF_some h11
  obtain ⟨a9013, r9014, rfl, h15⟩ := uncA_some h12
  obtain ⟨s9016, rfl, h17⟩ := scK_some h15
  obtain ⟨x5, rfl, h18⟩ := cI_some h17
  obtain ⟨rfl, h19⟩ := endL_some h18
  rw [F57_2_eq] at h19
  exact execK_runs hD.typed Syn_zero Syn_mixed hJ X57_2 (T57 2).1 (envOf (T57 2).2 _) S K (chk_of (by kernel_rfl) (by kernel_rfl)) h19
noncomputable abbrev A57_3 (D J : Disp) (vals : List AV) (S : St) (K : AV → St → Prop) : Prop :=
  uncA vals fun a9001 r9002 => scK a9001 fun s9004 => SV.cS s9004 fun s0 => uncA r9002 fun a9007 r9008 => scK a9007 fun s9010 => SV.cF s9010 fun f1 => uncA r9008 fun a9013 r9014 => scK a9013 fun s9016 => SV.cI IntKind.i64 s9016 fun x5 => uncA r9014 fun v16 r9020 => endL r9020 <| F57_3 D J s0 f1 x5 v16 S K
theorem A57_3_ok {D J : Disp} (hD : DOK SynP SynG D) (hJ : JOK SynP SynG Go.Proofs.Tryz.f57 T57 J) {vals : List AV} {S : St} {K : AV → St → Prop} (h0 : A57_3 D J vals S K) : Runs SynP SynG Go.Proofs.Tryz.f57 (T57 3).1 (envOf (T57 3).2 vals) S K := by
  obtain ⟨a9001, r9002, rfl, h3⟩ := uncA_some h0
  obtain ⟨s9004, rfl, h5⟩ := scK_some h3
  obtain ⟨s0, rfl, h6⟩ := cS_some h5
  obtain ⟨a9007, r9008, rfl, h9⟩ := uncA_some h6
  obtain ⟨s9010, rfl, h11⟩ := scK_some h9
  obtain ⟨f1, rfl, h12⟩ := cF_some h11
  obtain ⟨a9013, r9014, rfl, h15⟩ := uncA_some h12
  obtain ⟨s9016, rfl, h17⟩ := scK_some h15
  obtain ⟨x5, rfl, h18⟩ := cI_some h17
  obtain ⟨v16, r9020, rfl, h21⟩ := uncA_some h18
  obtain ⟨rfl, h22⟩ := endL_some h21
  rw [F57_3_eq] at h22
  exact execK_runs hD.typed Syn_zero Syn_mixed hJ X57_3 (T57 3).1 (envOf (T57 3).2 _) S K (chk_of (by kernel_rfl) (by kernel_rfl)) h22
noncomputable def J57 (D : Disp) (k : Nat) : Disp := Nat.rec (motive := fun _ => Disp) Disp.no (fun _ ih => Disp.add 0 (A57_0 D ih) <| Disp.add 2 (A57_2 D ih) <| Disp.add 3 (A57_3 D ih) <| Disp.no) k
theorem J57_ok {D : Disp} (hD : DOK SynP SynG D) : ∀ k, JOK SynP SynG Go.Proofs.Tryz.f57 T57 (J57 D k)
  | 0 => JOK.no
  | k + 1 => JOK.add (ltB_ok (by kernel_rfl)) (fun vals S K h => A57_0_ok hD (J57_ok hD k) h) <| JOK.add (ltB_ok (by kernel_rfl)) (fun vals S K h => A57_2_ok hD (J57_ok hD k) h) <| JOK.add (ltB_ok (by kernel_rfl)) (fun vals S K h => A57_3_ok hD (J57_ok hD k) h) <| JOK.no
theorem E57_ok {D : Disp} (hD : DOK SynP SynG D) (k : Nat) {args : List AV} {S : St} {K : AV → St → Prop} (h : A57_0 D (J57 D k) args S K) : CallE SynP SynG 57 args S K := by
  have hr := A57_0_ok hD (J57_ok hD k) h
  have hl : args.length = 2 := by
    have h0 := h
    obtain ⟨a9001, r9002, rfl, h3⟩ := uncA_some h0
    obtain ⟨s9004, rfl, h5⟩ := scK_some h3
    obtain ⟨s0, rfl, h6⟩ := cS_some h5
    obtain ⟨a9007, r9008, rfl, h9⟩ := uncA_some h6
    obtain ⟨s9010, rfl, h11⟩ := scK_some h9
    obtain ⟨f1, rfl, h12⟩ := cF_some h11
    obtain ⟨rfl, h13⟩ := endL_some h12
    rfl
  refine callOK_of (fn := Go.Proofs.Tryz.f57) (c := (match Go.Proofs.Tryz.f57.body with | some c => c | none => .skip)) (by kernel_rfl) (by kernel_rfl) (by kernel_rfl) (by rw [hl]; kernel_rfl) (by kernel_rfl) ?_
  rw [hl]
  exact hr
noncomputable def plans58 (i : Nat) : Plan := []
noncomputable def T58 (p : Nat) : List Item × List Nat := bif Nat.beq p 0 then ([.code (match Go.Proofs.Tryz.f58.body with | some c => c | none => .skip)], [0]) else
  ([], [])
noncomputable def F58_q0 (D J : Disp) (S302 : St) (s308 : (List Nat)) (K : AV → St → Prop) : Prop :=
 D 76 [(AV.one (V1.s (SV.str [32, 118, 111, 105, 100, 32, 99, 104, 97, 114, 32, 115, 104, 111, 114, 116, 32, 105, 110, 116, 32, 108, 111, 110, 103, 32, 117, 110, 115, 105, 103, 110, 101, 100, 32, 115, 116, 114, 117, 99, 116, 32, 116, 121, 112, 101, 100, 101, 102, 32, 105, 102, 32, 101, 108, 115, 101, 32, 119, 104, 105, 108, 101, 32, 100, 111, 32, 102, 111, 114, 32, 115, 119, 105, 116, 99, 104, 32, 99, 97, 115, 101, 32, 100, 101, 102, 97, 117, 108, 116, 32, 98, 114, 101, 97, 107, 32, 99, 111, 110, 116, 105, 110, 117, 101, 32, 114, 101, 116, 117, 114, 110, 32, 103, 111, 116, 111, 32, 115, 105, 122, 101, 111, 102, 32]))), (AV.one (V1.s (SV.str s308)))] S302 fun v309 S310 =>
 scK v309 fun v312 =>
 SV.cB v312 fun y313 =>
 K ((AV.one (V1.s (SV.bool y313)))) S310
noncomputable def F58_q1 (D J : Disp) (S : St) (s0 : (List Nat)) (K : AV → St → Prop) : Prop :=
 D 76 [(AV.one (V1.s (SV.str s0))), (AV.one (V1.s (SV.str [32])))] S fun v301 S302 =>
 scK v301 fun v304 =>
 SV.cB v304 fun y305 =>
 let c306 : Bool := (Bool.not y305);
 ifK c306
 (req (Nat.blt (1 + (List.length s0)) 9223372036854775808) <|
 let s307 : (List Nat) := ([32] ++ s0);
 req (Nat.blt ((List.length s307) + 1) 9223372036854775808) <|
 let s308 : (List Nat) := (s307 ++ [32]);
 F58_q0 D J S302 s308 K)
 (K ((AV.one (V1.s (SV.bool Bool.false)))) S302)
noncomputable def F58_0 (D J : Disp) (s0 : (List Nat)) (S : St) (K : AV → St → Prop) : Prop :=
 let c300 : Bool := (Bool.not (leq s0 []));
 ifK c300
 (F58_q1 D J S s0 K)
 (K ((AV.one (V1.s (SV.bool Bool.false)))) S)
noncomputable def X58_0 : X := (.op (.op .ret))
theorem F58_0_eq (D J : Disp) (s0 : (List Nat)) (S : St) (K : AV → St → Prop) : F58_0 D J s0 S K = execK SynP SynG Go.Proofs.Tryz.f58 (typed SynP D) J plans58 X58_0 (T58 0).1 (envOf (T58 0).2 [(AV.one (V1.s (SV.str s0)))]) S K := by kernel_rfl
noncomputable abbrev A58_0 (D J : Disp) (vals : List AV) (S : St) (K : AV → St → Prop) : Prop :=
  uncA vals fun a9001 r9002 => scK a9001 fun s9004 => SV.cS s9004 fun s0 => endL r9002 <| F58_0 D J s0 S K
theorem A58_0_ok {D J : Disp} (hD : DOK SynP SynG D) (hJ : JOK SynP SynG Go.Proofs.Tryz.f58 T58 J) {vals : List AV} {S : St} {K : AV → St → Prop} (h0 : A58_0 D J vals S K) : Runs SynP SynG Go.Proofs.Tryz.f58 (T58 0).1 (envOf (T58 0).2 vals) S K := by
  obtain ⟨a9001, r9002, rfl, h3⟩ := uncA_some h0
  obtain ⟨s9004, rfl, h5⟩ := scK_some h3
  obtain ⟨s0, rfl, h6⟩ := cS_some h5
  obtain ⟨rfl, h7⟩ := endL_some h6
  rw [F58_0_eq] at h7
  exact execK_runs hD.typed Syn_zero Syn_mixed hJ X58_0 (T58 0).1 (envOf (T58 0).2 _) S K (chk_of (by kernel_rfl) (by kernel_rfl)) h7
noncomputable def J58 (D : Disp) (k : Nat) : Disp := Nat.rec (motive := fun _ => Disp) Disp.no (fun _ ih => Disp.add 0 (A58_0 D ih) <| Disp.no) k
theorem J58_ok {D : Disp} (hD : DOK SynP SynG D) : ∀ k, JOK SynP SynG Go.Proofs.Tryz.f58 T58 (J58 D k)
  | 0 => JOK.no
  | k + 1 => JOK.add (ltB_ok (by kernel_rfl)) (fun vals S K h => A58_0_ok hD (J58_ok hD k) h) <| JOK.no
theorem E58_ok {D : Disp} (hD : DOK SynP SynG D) (k : Nat) {args : List AV} {S : St} {K : AV → St → Prop} (h : A58_0 D (J58 D k) args S K) : CallE SynP SynG 58 args S K := by
  have hr := A58_0_ok hD (J58_ok hD k) h
  have hl : args.length = 1 := by
    have h0 := h
    obtain ⟨a9001, r9002, rfl, h3⟩ := uncA_some h0
    obtain ⟨s9004, rfl, h5⟩ := scK_some h3
    obtain ⟨s0, rfl, h6⟩ := cS_some h5
    obtain ⟨rfl, h7⟩ := endL_some h6
    rfl
  refine callOK_of (fn := Go.Proofs.Tryz.f58) (c := (match Go.Proofs.Tryz.f58.body with | some c => c | none => .skip)) (by kernel_rfl) (by kernel_rfl) (by kernel_rfl) (by rw [hl]; kernel_rfl) (by kernel_rfl) ?_
  rw [hl]
  exact hr
noncomputable def plans59 (i : Nat) : Plan := []
noncomputable def T59 (p : Nat) : List Item × List Nat := bif Nat.beq p 0 then ([.code (match Go.Proofs.Tryz.f59.body with | some c => c | none => .skip)], [0, 1]) else
  ([], [])
noncomputable def F59_q0 (D J : Disp) (S : St) (p0 : PV) (x1 : Int) (K : AV → St → Prop) : Prop :=
 D 26 [(AV.one (V1.s (SV.ptr p0)))] S fun v312 S313 =>
 avA v312 fun y316 =>
 req (Nat.beq (List.length y316) 6) <|
 uncK y316 fun v317 y318 =>
 SV.cI IntKind.i64 v317 fun x322 =>
 uncK y318 fun v323 y324 =>
 SV.cI IntKind.i64 v323 fun x328 =>
 uncK y324 fun v329 y330 =>
 SV.cS v329 fun y335 =>
 uncK y330 fun v336 y337 =>
 SV.cS v336 fun y342 =>
 uncK y337 fun v343 y344 =>
 SV.cI IntKind.u64 v343 fun x348 =>
 uncK y344 fun v349 y350 =>
 SV.cB v349 fun y352 =>
 PV.cs p0 fun b353 n354 =>
 let n355 : Nat := (n354 + 4);
 St.wr S313 b353 n355 [(SV.int IntKind.i64 x1), (SV.int IntKind.i64 x328)] fun S356 =>
 K ((AV.tup [])) S356
noncomputable def F59_0 (D J : Disp) (p0 : PV) (x1 : Int) (S : St) (K : AV → St → Prop) : Prop :=
 PV.cs p0 fun b300 n301 =>
 let n302 : Nat := (n301 + 4);
 let n303 : Nat := (n302 + 0);
 St.at S b300 n303 fun y304 =>
 uncK y304 fun v305 y306 =>
 SV.cI IntKind.i64 v305 fun x310 =>
 let c311 : Bool := (ieq x310 (0 : Int));
 ifK c311
 (F59_q0 D J S p0 x1 K)
 (K ((AV.tup [])) S)
noncomputable def X59_0 : X := (.op (.br (.op .ret) .ret))
theorem F59_0_eq (D J : Disp) (p0 : PV) (x1 : Int) (S : St) (K : AV → St → Prop) : F59_0 D J p0 x1 S K = execK SynP SynG Go.Proofs.Tryz.f59 (typed SynP D) J plans59 X59_0 (T59 0).1 (envOf (T59 0).2 [(AV.one (V1.s (SV.ptr p0))), (AV.one (V1.s (SV.int IntKind.i64 x1)))]) S K := by kernel_rfl
noncomputable abbrev A59_0 (D J : Disp) (vals : List AV) (S : St) (K : AV → St → Prop) : Prop :=
  uncA vals fun a9001 r9002 => scK a9001 fun s9004 => SV.cP s9004 fun p0 => uncA r9002 fun a9007 r9008 => scK a9007 fun s9010 => SV.cI IntKind.i64 s9010 fun x1 => endL r9008 <| F59_0 D J p0 x1 S K
theorem A59_0_ok {D J : Disp} (hD : DOK SynP SynG D) (hJ : JOK SynP SynG Go.Proofs.Tryz.f59 T59 J) {vals : List AV} {S : St} {K : AV → St → Prop} (h0 : A59_0 D J vals S K) : Runs SynP SynG Go.Proofs.Tryz.f59 (T59 0).1 (envOf (T59 0).2 vals) S K := by
  obtain ⟨a9001, r9002, rfl, h3⟩ := uncA_some h0
  obtain ⟨s9004, rfl, h5⟩ := scK_some h3
  obtain ⟨p0, rfl, h6⟩ := cP_some h5
  obtain ⟨a9007, r9008, rfl, h9⟩ := uncA_some h6
  obtain ⟨s9010, rfl, h11⟩ := scK_some h9
  obtain ⟨x1, rfl, h12⟩ := cI_some h11
  obtain ⟨rfl, h13⟩ := endL_some h12
  rw [F59_0_eq] at h13
  exact execK_runs hD.typed Syn_zero Syn_mixed hJ X59_0 (T59 0).1 (envOf (T59 0).2 _) S K (chk_of (by kernel_rfl) (by kernel_rfl)) h13
noncomputable def J59 (D : Disp) (k : Nat) : Disp := Nat.rec (motive := fun _ => Disp) Disp.no (fun _ ih => Disp.add 0 (A59_0 D ih) <| Disp.no) k
theorem J59_ok {D : Disp} (hD : DOK SynP SynG D) : ∀ k, JOK SynP SynG Go.Proofs.Tryz.f59 T59 (J59 D k)
  | 0 => JOK.no
  | k + 1 => JOK.add (ltB_ok (by kernel_rfl)) (fun vals S K h => A59_0_ok hD (J59_ok hD k) h) <| JOK.no
theorem E59_ok {D : Disp} (hD : DOK SynP SynG D) (k : Nat) {args : List AV} {S : St} {K : AV → St → Prop} (h : A59_0 D (J59 D k) args S K) : CallE SynP SynG 59 args S K := by
  have hr := A59_0_ok hD (J59_ok hD k) h
  have hl : args.length = 2 := by
    have h0 := h
    obtain ⟨a9001, r9002, rfl, h3⟩ := uncA_some h0
    obtain ⟨s9004, rfl, h5⟩ := scK_some h3
    obtain ⟨p0, rfl, h6⟩ := cP_some h5
    obtain ⟨a9007, r9008, rfl, h9⟩ := uncA_some h6
    obtain ⟨s9010, rfl, h11⟩ := scK_some h9
    obtain ⟨x1, rfl, h12⟩ := cI_some h11
    obtain ⟨rfl, h13⟩ := endL_some h12
    rfl
  refine callOK_of (fn := Go.Proofs.Tryz.f59) (c := (match Go.Proofs.Tryz.f59.body with | some c => c | none => .skip)) (by kernel_rfl) (by kernel_rfl) (by kernel_rfl) (by rw [hl]; kernel_rfl) (by kernel_rfl) ?_
  rw [hl]
  exact hr
noncomputable def plans60 (i : Nat) : Plan := if Nat.beq i 1 then [(0, []), (1, [0]), (2, [1, 0]), (3, [2, 1, 0]), (4, [3, 2, 1, 0]), (5, [3, 2, 1, 0]), (6, [5, 3, 2, 1, 0]), (7, [4, 6, 3, 5, 2, 1, 0]), (8, [7, 3, 4, 6, 2, 5, 1, 0]), (9, [3, 8, 2, 7, 1, 4, 6, 0, 5]), (10, [9, 3, 8, 2, 7, 1, 4, 6, 0, 5]), (11, [10, 9, 3, 8, 2, 7, 1, 4, 6, 0, 5]), (12, [11, 10, 9, 3, 8, 2, 7, 1, 4, 6, 0, 5]), (13, [12, 10, 11, 9, 3, 8, 2, 7, 1, 4, 6, 0, 5]), (14, [13, 10, 12, 9, 3, 11, 8, 2, 7, 1, 4, 6, 0, 5]), (15, [14, 13, 10, 12, 9, 3, 11, 8, 2, 7, 1, 4, 6, 0, 5]), (16, [15, 14, 13, 10, 12, 9, 3, 11, 8, 2, 7, 1, 4, 6, 0, 5]), (17, [16, 14, 15, 13, 10, 12, 9, 3, 11, 8, 2, 7, 1, 4, 6, 0, 5]), (18, [17, 14, 16, 13, 10, 15, 12, 9, 3, 11, 8, 2, 7, 1, 4, 6, 0, 5]), (19, [14, 13, 10, 12, 9, 3, 11, 8, 2, 7, 1, 4, 6, 0, 5]), (20, [19, 14, 13, 10, 12, 9, 3, 11, 8, 2, 7, 1, 4, 6, 0, 5]), (21, [18, 20, 14, 17, 19, 13, 10, 16, 12, 9, 3, 15, 11, 8, 2, 7, 1, 4, 6, 0, 5]), (22, [14, 21, 10, 13, 18, 20, 9, 3, 12, 17, 19, 8, 2, 11, 16, 7, 1, 15, 4, 6, 0, 5]), (23, [10, 22, 9, 3, 14, 21, 8, 2, 13, 18, 20, 7, 1, 12, 17, 19, 4, 6, 0, 11, 16, 5, 15]), (24, [23, 14, 0, 1, 2, 3, 4, 5, 6, 7, 8, 9, 10, 11, 12, 13, 15, 16, 17, 18, 19, 20, 21, 22])] else []
noncomputable def T60 (p : Nat) : List Item × List Nat := bif Nat.beq p 0 then ([.code (match Go.Proofs.Tryz.f60.body with | some c => c | none => .skip)], [0, 1]) else
  ([], [])
noncomputable def F60_q0 (D J : Disp) (S : St) (p0 : PV) (S300 : St) (c343 : Bool) (K : AV → St → Prop) : Prop :=
 ifK c343
 (PV.cs p0 fun b344 n345 =>
 let n346 : Nat := (n345 + 3);
 St.at S300 b344 n346 fun y347 =>
 uncK y347 fun v348 y349 =>
 SV.cM v348 fun y357 =>
 St.at S300 (Bk.new (St.next S)) 2 fun y358 =>
 uncK y358 fun v359 y360 =>
 SV.cS v359 fun y365 =>
 St.lookup SynP S300 9 (V1.s (SV.bool Bool.false)) y357 (V1.s (SV.str y365)) fun v366 y367 =>
 v1S v366 fun v368 =>
 SV.cB v368 fun y369 =>
 K ((AV.one (V1.s (SV.bool y369)))) S300)
 (K ((AV.one (V1.s (SV.bool Bool.false)))) S300)
noncomputable def F60_q1 (D J : Disp) (S : St) (p0 : PV) (S300 : St) (y319 : MV) (K : AV → St → Prop) : Prop :=
 St.at S300 (Bk.new (St.next S)) 2 fun y320 =>
 uncK y320 fun v321 y322 =>
 SV.cS v321 fun y327 =>
 St.lookup SynP S300 9 (V1.s (SV.str [])) y319 (V1.s (SV.str y327)) fun v328 y329 =>
 v1S v328 fun v330 =>
 SV.cS v330 fun y334 =>
 let c335 : Bool := (Bool.not (leq y334 []));
 ifK c335
 (K ((AV.one (V1.s (SV.bool Bool.true)))) S300)
 (St.at S300 (Bk.new (St.next S)) 0 fun y336 =>
 uncK y336 fun v337 y338 =>
 SV.cI IntKind.i64 v337 fun x342 =>
 let c343 : Bool := (ieq x342 (1 : Int));
 F60_q0 D J S p0 S300 c343 K)
noncomputable def F60_q2 (D J : Disp) (S : St) (p0 : PV) (S300 : St) (c405 : Bool) (K : AV → St → Prop) : Prop :=
 ifK c405
 (PV.cs p0 fun b406 n407 =>
 let n408 : Nat := (n407 + 3);
 St.at S300 b406 n408 fun y409 =>
 uncK y409 fun v410 y411 =>
 SV.cM v410 fun y419 =>
 St.at S300 (Bk.new (St.next S)) 2 fun y420 =>
 uncK y420 fun v421 y422 =>
 SV.cS v421 fun y427 =>
 St.lookup SynP S300 9 (V1.s (SV.bool Bool.false)) y419 (V1.s (SV.str y427)) fun v428 y429 =>
 v1S v428 fun v430 =>
 SV.cB v430 fun y431 =>
 K ((AV.one (V1.s (SV.bool y431)))) S300)
 (K ((AV.one (V1.s (SV.bool Bool.false)))) S300)
noncomputable def F60_q3 (D J : Disp) (S : St) (p0 : PV) (S300 : St) (K : AV → St → Prop) : Prop :=
 St.at S300 (Bk.new (St.next S)) 0 fun y301 =>
 uncK y301 fun v302 y303 =>
 SV.cI IntKind.i64 v302 fun x307 =>
 let c308 : Bool := (ieq x307 (2 : Int));
 ifK c308
 (St.at S300 (Bk.inp 1) 0 fun y309 =>
 uncK y309 fun v310 y311 =>
 SV.cM v310 fun y319 =>
 F60_q1 D J S p0 S300 y319 K)
 (St.at S300 (Bk.new (St.next S)) 0 fun y398 =>
 uncK y398 fun v399 y400 =>
 SV.cI IntKind.i64 v399 fun x404 =>
 let c405 : Bool := (ieq x404 (1 : Int));
 F60_q2 D J S p0 S300 c405 K)
noncomputable def F60_0 (D J : Disp) (p0 : PV) (x1_0 : Int) (x1_1 : Int) (s1_2 : (List Nat)) (s1_3 : (List Nat)) (x1_4 : Int) (c1_5 : Bool) (S : St) (K : AV → St → Prop) : Prop :=
 let S300 : St := (St.add S (AO.cells [(SV.int IntKind.i64 x1_0), (SV.int IntKind.i64 x1_1), (SV.str s1_2), (SV.str s1_3), (SV.int IntKind.u64 x1_4), (SV.bool c1_5)] (Op2.ty 76)));
 F60_q3 D J S p0 S300 K
noncomputable def X60_0 : X := (.op (.op .ret))
theorem F60_0_eq (D J : Disp) (p0 : PV) (x1_0 : Int) (x1_1 : Int) (s1_2 : (List Nat)) (s1_3 : (List Nat)) (x1_4 : Int) (c1_5 : Bool) (S : St) (K : AV → St → Prop) : F60_0 D J p0 x1_0 x1_1 s1_2 s1_3 x1_4 c1_5 S K = execK SynP SynG Go.Proofs.Tryz.f60 (typed SynP D) J plans60 X60_0 (T60 0).1 (envOf (T60 0).2 [(AV.one (V1.s (SV.ptr p0))), (AV.one (V1.agg [(SV.int IntKind.i64 x1_0), (SV.int IntKind.i64 x1_1), (SV.str s1_2), (SV.str s1_3), (SV.int IntKind.u64 x1_4), (SV.bool c1_5)]))]) S K := by kernel_rfl
noncomputable abbrev A60_0 (D J : Disp) (vals : List AV) (S : St) (K : AV → St → Prop) : Prop :=
  uncA vals fun a9001 r9002 => scK a9001 fun s9004 => SV.cP s9004 fun p0 => uncA r9002 fun a9007 r9008 => avA a9007 fun l9010 => uncK l9010 fun s9012 r9013 => SV.cI IntKind.i64 s9012 fun x1_0 => uncK r9013 fun s9016 r9017 => SV.cI IntKind.i64 s9016 fun x1_1 => uncK r9017 fun s9020 r9021 => SV.cS s9020 fun s1_2 => uncK r9021 fun s9024 r9025 => SV.cS s9024 fun s1_3 => uncK r9025 fun s9028 r9029 => SV.cI IntKind.u64 s9028 fun x1_4 => uncK r9029 fun s9032 r9033 => SV.cB s9032 fun c1_5 => endL r9033 <| endL r9008 <| F60_0 D J p0 x1_0 x1_1 s1_2 s1_3 x1_4 c1_5 S K
theorem A60_0_ok {D J : Disp} (hD : DOK SynP SynG D) (hJ : JOK SynP SynG Go.Proofs.Tryz.f60 T60 J) {vals : List AV} {S : St} {K : AV → St → Prop} (h0 : A60_0 D J vals S K) : Runs SynP SynG Go.Proofs.Tryz.f60 (T60 0).1 (envOf (T60 0).2 vals) S K := by
  obtain ⟨a9001, r9002, rfl, h3⟩ := uncA_some h0
  obtain ⟨s9004, rfl, h5⟩ := scK_some h3
  obtain ⟨p0, rfl, h6⟩ := cP_some h5
  obtain ⟨a9007, r9008, rfl, h9⟩ := uncA_some h6
  obtain ⟨l9010, rfl, h11⟩ := avA_some h9
  obtain ⟨s9012, r9013, rfl, h14⟩ := uncK_some h11
  obtain ⟨x1_0, rfl, h15⟩ := cI_some h14
  obtain ⟨s9016, r9017, rfl, h18⟩ := uncK_some h15
  obtain ⟨x1_1, rfl, h19⟩ := cI_some h18
  obtain ⟨s9020, r9021, rfl, h22⟩ := uncK_some h19
  obtain ⟨s1_2, rfl, h23⟩ := cS_some h22
  obtain ⟨s9024, r9025, rfl, h26⟩ := uncK_some h23
  obtain ⟨s1_3, rfl, h27⟩ := cS_some h26
  obtain ⟨s9028, r9029, rfl, h30⟩ := uncK_some h27
  obtain ⟨x1_4, rfl, h31⟩ := cI_some h30
  obtain ⟨s9032, r9033, rfl, h34⟩ := uncK_some h31
  obtain ⟨c1_5, rfl, h35⟩ := cB_some h34
  obtain ⟨rfl, h36⟩ := endL_some h35
  obtain ⟨rfl, h37⟩ := endL_some h36
  rw [F60_0_eq] at h37
  exact execK_runs hD.typed Syn_zero Syn_mixed hJ X60_0 (T60 0).1 (envOf (T60 0).2 _) S K (chk_of (by kernel_rfl) (by kernel_rfl)) h37
noncomputable def J60 (D : Disp) (k : Nat) : Disp := Nat.rec (motive := fun _ => Disp) Disp.no (fun _ ih => Disp.add 0 (A60_0 D ih) <| Disp.no) k
theorem J60_ok {D : Disp} (hD : DOK SynP SynG D) : ∀ k, JOK SynP SynG Go.Proofs.Tryz.f60 T60 (J60 D k)
  | 0 => JOK.no
  | k + 1 => JOK.add (ltB_ok (by kernel_rfl)) (fun vals S K h => A60_0_ok hD (J60_ok hD k) h) <| JOK.no
theorem E60_ok {D : Disp} (hD : DOK SynP SynG D) (k : Nat) {args : List AV} {S : St} {K : AV → St → Prop} (h : A60_0 D (J60 D k) args S K) : CallE SynP SynG 60 args S K := by
  have hr := A60_0_ok hD (J60_ok hD k) h
  have hl : args.length = 2 := by
    have h0 := h
    obtain ⟨a9001, r9002, rfl, h3⟩ := uncA_some h0
    obtain ⟨s9004, rfl, h5⟩ := scK_some h3
    obtain ⟨p0, rfl, h6⟩ := cP_some h5
    obtain ⟨a9007, r9008, rfl, h9⟩ := uncA_some h6
    obtain ⟨l9010, rfl, h11⟩ := avA_some h9
    obtain ⟨s9012, r9013, rfl, h14⟩ := uncK_some h11
    obtain ⟨x1_0, rfl, h15⟩ := cI_some h14
    obtain ⟨s9016, r9017, rfl, h18⟩ := uncK_some h15
    obtain ⟨x1_1, rfl, h19⟩ := cI_some h18
    obtain ⟨s9020, r9021, rfl, h22⟩ := uncK_some h19
    obtain ⟨s1_2, rfl, h23⟩ := cS_some h22
    obtain ⟨s9024, r9025, rfl, h26⟩ := uncK_some h23
    obtain ⟨s1_3, rfl, h27⟩ := cS_some h26
    obtain ⟨s9028, r9029, rfl, h30⟩ := uncK_some h27
    obtain ⟨x1_4, rfl, h31⟩ := cI_some h30
    obtain ⟨s9032, r9033, rfl, h34⟩ := uncK_some h31
    obtain ⟨c1_5, rfl, h35⟩ := cB_some h34
    obtain ⟨rfl, h36⟩ := endL_some h35
    obtain ⟨rfl, h37⟩ := endL_some h36
    rfl
  refine callOK_of (fn := Go.Proofs.Tryz.f60) (c := (match Go.Proofs.Tryz.f60.body with | some c => c | none => .skip)) (by kernel_rfl) (by kernel_rfl) (by kernel_rfl) (by rw [hl]; kernel_rfl) (by kernel_rfl) ?_
  rw [hl]
  exact hr
noncomputable def plans61 (i : Nat) : Plan := if Nat.beq i 17 then [(0, []), (1, [0]), (2, [1, 0]), (3, [2, 1, 0]), (4, []), (5, [4]), (6, [3, 0, 1, 2, 4, 5]), (7, [6, 5, 0, 1, 2, 3, 4])] else if Nat.beq i 32 then [(0, []), (1, [0]), (2, [1, 0]), (3, [2, 1, 0]), (4, []), (5, [4]), (6, [3, 0, 1, 2, 4, 5]), (7, [6, 5, 0, 1, 2, 3, 4])] else if Nat.beq i 33 then [(0, []), (1, [0]), (2, [1, 0]), (3, [2, 1, 0]), (4, []), (5, [4]), (6, [3, 0, 1, 2, 4, 5]), (7, [6, 5, 0, 1, 2, 3, 4])] else []
noncomputable def T61 (p : Nat) : List Item × List Nat := bif Nat.beq p 0 then ([.code (match Go.Proofs.Tryz.f61.body with | some c => c | none => .skip)], [0]) else
  bif Nat.beq p 13 then (navs [.op, .op, .op, .el, .op, .el, .op, .el, .op] [.code (match Go.Proofs.Tryz.f61.body with | some c => c | none => .skip)], [0, 31]) else
  bif Nat.beq p 58 then (navs [.op, .op, .op, .el, .op, .el, .op, .el, .op, .el, .op, .el, .op, .el, .op, .el, .op, .el, .op, .el, .op, .el, .op, .el, .op] [.code (match Go.Proofs.Tryz.f61.body with | some c => c | none => .skip)], [0, 174, 175, 176]) else
  ([], [])
noncomputable def F61_q32 (D J : Disp) (p0 : PV) (S425 : St) (K : AV → St → Prop) : Prop :=
 D 28 [(AV.one (V1.s (SV.ptr p0))), (AV.one (V1.s (SV.int IntKind.i64 (1 : Int))))] S425 fun v437 S438 =>
 avA v437 fun y441 =>
 req (Nat.beq (List.length y441) 6) <|
 uncK y441 fun v442 y443 =>
 SV.cI IntKind.i64 v442 fun x447 =>
 uncK y443 fun v448 y449 =>
 SV.cI IntKind.i64 v448 fun x453 =>
 uncK y449 fun v454 y455 =>
 SV.cS v454 fun y460 =>
 uncK y455 fun v461 y462 =>
 SV.cS v461 fun y467 =>
 uncK y462 fun v468 y469 =>
 SV.cI IntKind.u64 v468 fun x473 =>
 uncK y469 fun v474 y475 =>
 SV.cB v474 fun y477 =>
 D 27 [(AV.one (V1.agg [(SV.int IntKind.i64 x447), (SV.int IntKind.i64 x453), (SV.str y460), (SV.str y467), (SV.int IntKind.u64 x473), (SV.bool y477)])), (AV.one (V1.s (SV.str [58])))] S438 fun v478 S479 =>
 scK v478 fun v481 =>
 SV.cB v481 fun y482 =>
 J 13 [(AV.one (V1.s (SV.ptr p0))), (AV.one (V1.s (SV.bool y482)))] S479 K
noncomputable def F61_q33 (D J : Disp) (p0 : PV) (S301 : St) (S406 : St) (K : AV → St → Prop) : Prop :=
 D 18 [(AV.one (V1.s (SV.ptr p0)))] S406 fun v424 S425 =>
 scK v424 fun v427 =>
 SV.cB v427 fun y428 =>
 ifK y428
 (St.at S425 (Bk.new (St.next S301)) 0 fun y429 =>
 uncK y429 fun v430 y431 =>
 SV.cI IntKind.i64 v430 fun x435 =>
 let c436 : Bool := (ieq x435 (1 : Int));
 ifK c436
 (F61_q32 D J p0 S425 K)
 (J 13 [(AV.one (V1.s (SV.ptr p0))), (AV.one (V1.s (SV.bool Bool.false)))] S425 K))
 (J 13 [(AV.one (V1.s (SV.ptr p0))), (AV.one (V1.s (SV.bool Bool.false)))] S425 K)
noncomputable def F61_q34 (D J : Disp) (p0 : PV) (S301 : St) (S363 : St) (x374 : Int) (x380 : Int) (y387 : (List Nat)) (y394 : (List Nat)) (x400 : Int) (y404 : Bool) (K : AV → St → Prop) : Prop :=
 D 60 [(AV.one (V1.s (SV.ptr p0))), (AV.one (V1.agg [(SV.int IntKind.i64 x374), (SV.int IntKind.i64 x380), (SV.str y387), (SV.str y394), (SV.int IntKind.u64 x400), (SV.bool y404)]))] S363 fun v405 S406 =>
 scK v405 fun v408 =>
 SV.cB v408 fun y409 =>
 ifK y409
 (D 77 [(AV.one (V1.s (SV.ptr p0)))] S406 fun v410 S411 =>
 scK v410 fun v413 =>
 SV.cP v413 fun y418 =>
 K ((AV.one (V1.s (SV.ptr y418)))) S411)
 (F61_q33 D J p0 S301 S406 K)
noncomputable def F61_q35 (D J : Disp) (p0 : PV) (S301 : St) (S363 : St) (K : AV → St → Prop) : Prop :=
 St.at S363 (Bk.new (St.next S301)) 0 fun y368 =>
 uncK y368 fun v369 y370 =>
 SV.cI IntKind.i64 v369 fun x374 =>
 uncK y370 fun v375 y376 =>
 SV.cI IntKind.i64 v375 fun x380 =>
 uncK y376 fun v381 y382 =>
 SV.cS v381 fun y387 =>
 uncK y382 fun v388 y389 =>
 SV.cS v388 fun y394 =>
 uncK y389 fun v395 y396 =>
 SV.cI IntKind.u64 v395 fun x400 =>
 uncK y396 fun v401 y402 =>
 SV.cB v401 fun y404 =>
 F61_q34 D J p0 S301 S363 x374 x380 y387 y394 x400 y404 K
noncomputable def F61_q36 (D J : Disp) (p0 : PV) (S301 : St) (S344 : St) (K : AV → St → Prop) : Prop :=
 D 32 [(AV.one (V1.s (SV.ptr p0))), (AV.one (V1.s (SV.str [59])))] S344 fun v362 S363 =>
 scK v362 fun v365 =>
 SV.cB v365 fun y366 =>
 ifK y366
 (let S367 : St := (St.add S363 (AO.cells [(SV.str [115, 107, 105, 112]), (SV.str []), (SV.str []), (SV.int IntKind.i64 (0 : Int)), (SV.int IntKind.u64 (0 : Int)), (SV.bool Bool.false), (SV.bool Bool.false), (SV.sl LV.nil), (SV.sl LV.nil)] (Op2.ty 115)));
 K ((AV.one (V1.s (SV.ptr (PV.mk (Bk.new (St.next S363)) 0))))) S367)
 (F61_q35 D J p0 S301 S363 K)
noncomputable def F61_q37 (D J : Disp) (p0 : PV) (S301 : St) (x310 : Int) (x316 : Int) (y323 : (List Nat)) (y330 : (List Nat)) (x336 : Int) (y340 : Bool) (S341 : St) (K : AV → St → Prop) : Prop :=
 St.wr S341 (Bk.new (St.next S301)) 0 [(SV.int IntKind.i64 x310), (SV.int IntKind.i64 x316), (SV.str y323), (SV.str y330), (SV.int IntKind.u64 x336), (SV.bool y340)] fun S342 =>
 D 32 [(AV.one (V1.s (SV.ptr p0))), (AV.one (V1.s (SV.str [123])))] S342 fun v343 S344 =>
 scK v343 fun v346 =>
 SV.cB v346 fun y347 =>
 ifK y347
 (D 37 [(AV.one (V1.s (SV.ptr p0)))] S344 fun v348 S349 =>
 scK v348 fun v351 =>
 SV.cP v351 fun y356 =>
 K ((AV.one (V1.s (SV.ptr y356)))) S349)
 (F61_q36 D J p0 S301 S344 K)
noncomputable def F61_q38 (D J : Disp) (S : St) (p0 : PV) (K : AV → St → Prop) : Prop :=
 D 26 [(AV.one (V1.s (SV.ptr p0)))] S fun v300 S301 =>
 avA v300 fun y304 =>
 req (Nat.beq (List.length y304) 6) <|
 uncK y304 fun v305 y306 =>
 SV.cI IntKind.i64 v305 fun x310 =>
 uncK y306 fun v311 y312 =>
 SV.cI IntKind.i64 v311 fun x316 =>
 uncK y312 fun v317 y318 =>
 SV.cS v317 fun y323 =>
 uncK y318 fun v324 y325 =>
 SV.cS v324 fun y330 =>
 uncK y325 fun v331 y332 =>
 SV.cI IntKind.u64 v331 fun x336 =>
 uncK y332 fun v337 y338 =>
 SV.cB v337 fun y340 =>
 let S341 : St := (St.add S301 (AO.cells [(SV.int IntKind.i64 (0 : Int)), (SV.int IntKind.i64 (0 : Int)), (SV.str []), (SV.str []), (SV.int IntKind.u64 (0 : Int)), (SV.bool Bool.false)] (Op2.ty 76)));
 F61_q37 D J p0 S301 x310 x316 y323 y330 x336 y340 S341 K
noncomputable def F61_0 (D J : Disp) (p0 : PV) (S : St) (K : AV → St → Prop) : Prop :=
 F61_q38 D J S p0 K
noncomputable def X61_0 : X := (.op (.op (.op (.br (.op .ret) (.op (.br (.op .ret) (.op (.br (.op .ret) (.op (.jmp 13 [0, 31]))))))))))
theorem F61_0_eq (D J : Disp) (p0 : PV) (S : St) (K : AV → St → Prop) : F61_0 D J p0 S K = execK SynP SynG Go.Proofs.Tryz.f61 (typed SynP D) J plans61 X61_0 (T61 0).1 (envOf (T61 0).2 [(AV.one (V1.s (SV.ptr p0)))]) S K := by kernel_rfl
noncomputable def F61_q39 (D J : Disp) (p0 : PV) (S301 : St) (S308 : St) (K : AV → St → Prop) : Prop :=
 D 29 [(AV.one (V1.s (SV.ptr p0))), (AV.one (V1.s (SV.str [58])))] S308 fun v309 S310 =>
 avT v309 fun y312 =>
 endL y312 (D 61 [(AV.one (V1.s (SV.ptr p0)))] S310 fun v313 S314 =>
 scK v313 fun v316 =>
 SV.cP v316 fun y321 =>
 let d322 : (Sum Nat Nat) := (Sum.inl 1);
 let S323 : St := (St.add S314 (AO.cells [(SV.ptr y321)] Op2.sh));
 St.wr S323 (Bk.new (St.next S301)) 8 [(SV.sl (LV.mk (Bk.new (St.next S314)) 0 1 d322))] fun S324 =>
 K ((AV.one (V1.s (SV.ptr (PV.mk (Bk.new (St.next S301)) 0))))) S324)
noncomputable def F61_q40 (D J : Disp) (p0 : PV) (S354 : St) (S369 : St) (y382 : LV) (K : AV → St → Prop) : Prop :=
 D 61 [(AV.one (V1.s (SV.ptr p0)))] S369 fun v383 S384 =>
 scK v383 fun v386 =>
 SV.cP v386 fun y391 =>
 St.at S384 (Bk.new (St.next S354)) 8 fun y392 =>
 uncK y392 fun v393 y394 =>
 SV.cL v393 fun y401 =>
 req (sameAV (AV.one (V1.s (SV.sl y401))) (AV.one (V1.s (SV.sl y382)))) <|
 LV.cs y382 fun b402 n403 n404 y405 =>
 req (Bool.and Bool.true (ilt (1 : Int) (Int.ofNat n404))) <|
 let n406 : Nat := (n403 + 1);
 St.wr S384 b402 n406 [(SV.ptr y391)] fun S407 =>
 K ((AV.one (V1.s (SV.ptr (PV.mk (Bk.new (St.next S354)) 0))))) S407
noncomputable def F61_q41 (D J : Disp) (p0 : PV) (S354 : St) (S357 : St) (d365 : (Sum Nat Nat)) (S366 : St) (K : AV → St → Prop) : Prop :=
 St.wr S366 (Bk.new (St.next S354)) 8 [(SV.sl (LV.mk (Bk.new (St.next S357)) 0 2 d365))] fun S367 =>
 D 32 [(AV.one (V1.s (SV.ptr p0))), (AV.one (V1.s (SV.str [101, 108, 115, 101])))] S367 fun v368 S369 =>
 scK v368 fun v371 =>
 SV.cB v371 fun y372 =>
 ifK y372
 (St.at S369 (Bk.new (St.next S354)) 8 fun y373 =>
 uncK y373 fun v374 y375 =>
 SV.cL v374 fun y382 =>
 F61_q40 D J p0 S354 S369 y382 K)
 (K ((AV.one (V1.s (SV.ptr (PV.mk (Bk.new (St.next S354)) 0))))) S369)
noncomputable def F61_q42 (D J : Disp) (p0 : PV) (S345 : St) (d353 : (Sum Nat Nat)) (S354 : St) (K : AV → St → Prop) : Prop :=
 let S355 : St := (St.add S354 (AO.cells [(SV.str [105, 102]), (SV.str []), (SV.str []), (SV.int IntKind.i64 (0 : Int)), (SV.int IntKind.u64 (0 : Int)), (SV.bool Bool.false), (SV.bool Bool.false), (SV.sl (LV.mk (Bk.new (St.next S345)) 0 1 d353)), (SV.sl LV.nil)] (Op2.ty 115)));
 D 61 [(AV.one (V1.s (SV.ptr p0)))] S355 fun v356 S357 =>
 scK v356 fun v359 =>
 SV.cP v359 fun y364 =>
 let d365 : (Sum Nat Nat) := (Sum.inl 2);
 let S366 : St := (St.add S357 (AO.cells [(SV.ptr y364), (SV.ptr PV.nil)] Op2.sh));
 F61_q41 D J p0 S354 S357 d365 S366 K
noncomputable def F61_q43 (D J : Disp) (p0 : PV) (S442 : St) (d450 : (Sum Nat Nat)) (S451 : St) (K : AV → St → Prop) : Prop :=
 let S452 : St := (St.add S451 (AO.cells [(SV.str [119, 104, 105, 108, 101]), (SV.str []), (SV.str []), (SV.int IntKind.i64 (0 : Int)), (SV.int IntKind.u64 (0 : Int)), (SV.bool Bool.false), (SV.bool Bool.false), (SV.sl (LV.mk (Bk.new (St.next S442)) 0 1 d450)), (SV.sl LV.nil)] (Op2.ty 115)));
 D 61 [(AV.one (V1.s (SV.ptr p0)))] S452 fun v453 S454 =>
 scK v453 fun v456 =>
 SV.cP v456 fun y461 =>
 let d462 : (Sum Nat Nat) := (Sum.inl 1);
 let S463 : St := (St.add S454 (AO.cells [(SV.ptr y461)] Op2.sh));
 St.wr S463 (Bk.new (St.next S451)) 8 [(SV.sl (LV.mk (Bk.new (St.next S454)) 0 1 d462))] fun S464 =>
 K ((AV.one (V1.s (SV.ptr (PV.mk (Bk.new (St.next S451)) 0))))) S464
noncomputable def F61_q44 (D J : Disp) (p0 : PV) (S490 : St) (S493 : St) (K : AV → St → Prop) : Prop :=
 D 78 [(AV.one (V1.s (SV.ptr p0)))] S493 fun v496 S497 =>
 scK v496 fun v499 =>
 SV.cP v499 fun y504 =>
 let d505 : (Sum Nat Nat) := (Sum.inl 1);
 let S506 : St := (St.add S497 (AO.cells [(SV.ptr y504)] Op2.sh));
 St.wr S506 (Bk.new (St.next S490)) 7 [(SV.sl (LV.mk (Bk.new (St.next S497)) 0 1 d505))] fun S507 =>
 D 29 [(AV.one (V1.s (SV.ptr p0))), (AV.one (V1.s (SV.str [59])))] S507 fun v508 S509 =>
 avT v508 fun y511 =>
 endL y511 (K ((AV.one (V1.s (SV.ptr (PV.mk (Bk.new (St.next S490)) 0))))) S509)
noncomputable def F61_q45 (D J : Disp) (p0 : PV) (S481 : St) (d489 : (Sum Nat Nat)) (S490 : St) (K : AV → St → Prop) : Prop :=
 let S491 : St := (St.add S490 (AO.cells [(SV.str [100, 111]), (SV.str []), (SV.str []), (SV.int IntKind.i64 (0 : Int)), (SV.int IntKind.u64 (0 : Int)), (SV.bool Bool.false), (SV.bool Bool.false), (SV.sl LV.nil), (SV.sl (LV.mk (Bk.new (St.next S481)) 0 1 d489))] (Op2.ty 115)));
 D 29 [(AV.one (V1.s (SV.ptr p0))), (AV.one (V1.s (SV.str [119, 104, 105, 108, 101])))] S491 fun v492 S493 =>
 avT v492 fun y495 =>
 endL y495 (F61_q44 D J p0 S490 S493 K)
noncomputable def F61_q46 (D J : Disp) (p0 : PV) (S547 : St) (S595 : St) (y602 : PV) (b613 : Bk) (n617 : Nat) (K : AV → St → Prop) : Prop :=
 St.wr S595 b613 n617 [(SV.ptr y602)] fun S618 =>
 D 61 [(AV.one (V1.s (SV.ptr p0)))] S618 fun v619 S620 =>
 scK v619 fun v622 =>
 SV.cP v622 fun y627 =>
 let d628 : (Sum Nat Nat) := (Sum.inl 1);
 let S629 : St := (St.add S620 (AO.cells [(SV.ptr y627)] Op2.sh));
 St.wr S629 (Bk.new (St.next S547)) 8 [(SV.sl (LV.mk (Bk.new (St.next S620)) 0 1 d628))] fun S630 =>
 K ((AV.one (V1.s (SV.ptr (PV.mk (Bk.new (St.next S547)) 0))))) S630
noncomputable def F61_q47 (D J : Disp) (p0 : PV) (S547 : St) (S583 : St) (y593 : LV) (K : AV → St → Prop) : Prop :=
 D 79 [(AV.one (V1.s (SV.ptr p0))), (AV.one (V1.s (SV.str [41])))] S583 fun v594 S595 =>
 scK v594 fun v597 =>
 SV.cP v597 fun y602 =>
 St.at S595 (Bk.new (St.next S547)) 7 fun y603 =>
 uncK y603 fun v604 y605 =>
 SV.cL v604 fun y612 =>
 req (sameAV (AV.one (V1.s (SV.sl y612))) (AV.one (V1.s (SV.sl y593)))) <|
 LV.cs y593 fun b613 n614 n615 y616 =>
 req (Bool.and Bool.true (ilt (2 : Int) (Int.ofNat n615))) <|
 let n617 : Nat := (n614 + 2);
 F61_q46 D J p0 S547 S595 y602 b613 n617 K
noncomputable def F61_q48 (D J : Disp) (p0 : PV) (S547 : St) (S548 : St) (y558 : LV) (K : AV → St → Prop) : Prop :=
 D 79 [(AV.one (V1.s (SV.ptr p0))), (AV.one (V1.s (SV.str [59])))] S548 fun v559 S560 =>
 scK v559 fun v562 =>
 SV.cP v562 fun y567 =>
 St.at S560 (Bk.new (St.next S547)) 7 fun y568 =>
 uncK y568 fun v569 y570 =>
 SV.cL v569 fun y577 =>
 req (sameAV (AV.one (V1.s (SV.sl y577))) (AV.one (V1.s (SV.sl y558)))) <|
 LV.cs y558 fun b578 n579 n580 y581 =>
 req (Bool.and Bool.true (ilt (1 : Int) (Int.ofNat n580))) <|
 let n582 : Nat := (n579 + 1);
 St.wr S560 b578 n582 [(SV.ptr y567)] fun S583 =>
 St.at S583 (Bk.new (St.next S547)) 7 fun y584 =>
 uncK y584 fun v585 y586 =>
 SV.cL v585 fun y593 =>
 F61_q47 D J p0 S547 S583 y593 K
noncomputable def F61_q49 (D J : Disp) (p0 : PV) (S538 : St) (y545 : PV) (K : AV → St → Prop) : Prop :=
 let d546 : (Sum Nat Nat) := (Sum.inl 3);
 let S547 : St := (St.add S538 (AO.cells [(SV.ptr y545), (SV.ptr PV.nil), (SV.ptr PV.nil)] Op2.sh));
 let S548 : St := (St.add S547 (AO.cells [(SV.str [102, 111, 114]), (SV.str []), (SV.str []), (SV.int IntKind.i64 (0 : Int)), (SV.int IntKind.u64 (0 : Int)), (SV.bool Bool.false), (SV.bool Bool.false), (SV.sl (LV.mk (Bk.new (St.next S538)) 0 3 d546)), (SV.sl LV.nil)] (Op2.ty 115)));
 St.at S548 (Bk.new (St.next S547)) 7 fun y549 =>
 uncK y549 fun v550 y551 =>
 SV.cL v550 fun y558 =>
 F61_q48 D J p0 S547 S548 y558 K
noncomputable def F61_q50 (D J : Disp) (p0 : PV) (S668 : St) (d676 : (Sum Nat Nat)) (S677 : St) (K : AV → St → Prop) : Prop :=
 let S678 : St := (St.add S677 (AO.cells [(SV.str [115, 119, 105, 116, 99, 104]), (SV.str []), (SV.str []), (SV.int IntKind.i64 (0 : Int)), (SV.int IntKind.u64 (0 : Int)), (SV.bool Bool.false), (SV.bool Bool.false), (SV.sl (LV.mk (Bk.new (St.next S668)) 0 1 d676)), (SV.sl LV.nil)] (Op2.ty 115)));
 D 80 [(AV.one (V1.s (SV.ptr p0))), (AV.one (V1.s (SV.ptr (PV.mk (Bk.new (St.next S677)) 0))))] S678 fun v679 S680 =>
 scK v679 fun v682 =>
 SV.cP v682 fun y687 =>
 K ((AV.one (V1.s (SV.ptr y687)))) S680
noncomputable def F61_q51 (D J : Disp) (S704 : St) (y711 : PV) (K : AV → St → Prop) : Prop :=
 let d712 : (Sum Nat Nat) := (Sum.inl 1);
 let S713 : St := (St.add S704 (AO.cells [(SV.ptr y711)] Op2.sh));
 let S714 : St := (St.add S713 (AO.cells [(SV.str [114, 101, 116, 117, 114, 110]), (SV.str []), (SV.str []), (SV.int IntKind.i64 (0 : Int)), (SV.int IntKind.u64 (0 : Int)), (SV.bool Bool.false), (SV.bool Bool.false), (SV.sl (LV.mk (Bk.new (St.next S704)) 0 1 d712)), (SV.sl LV.nil)] (Op2.ty 115)));
 K ((AV.one (V1.s (SV.ptr (PV.mk (Bk.new (St.next S713)) 0))))) S714
noncomputable def F61_q52 (D J : Disp) (p0 : PV) (S726 : St) (y732 : (List Nat)) (K : AV → St → Prop) : Prop :=
 let S733 : St := (St.add S726 (AO.cells [(SV.str [103, 111, 116, 111]), (SV.str y732), (SV.str []), (SV.int IntKind.i64 (0 : Int)), (SV.int IntKind.u64 (0 : Int)), (SV.bool Bool.false), (SV.bool Bool.false), (SV.sl LV.nil), (SV.sl LV.nil)] (Op2.ty 115)));
 D 29 [(AV.one (V1.s (SV.ptr p0))), (AV.one (V1.s (SV.str [59])))] S733 fun v734 S735 =>
 avT v734 fun y737 =>
 endL y737 (K ((AV.one (V1.s (SV.ptr (PV.mk (Bk.new (St.next S726)) 0))))) S735)
noncomputable def F61_q53 (D J : Disp) (p0 : PV) (S721 : St) (K : AV → St → Prop) : Prop :=
 let d747 : (Sum Nat Nat) := (Sum.inl 2);
 let S748 : St := (St.add S721 (AO.cells [(SV.str [98, 114, 101, 97, 107]), (SV.str [99, 111, 110, 116, 105, 110, 117, 101])] Op2.sh));
 let x749 : Int := (Int.ofNat (LV.len (LV.mk (Bk.new (St.next S721)) 0 2 d747)));
 J 58 [(AV.one (V1.s (SV.ptr p0))), (AV.one (V1.s (SV.sl (LV.mk (Bk.new (St.next S721)) 0 2 d747)))), (AV.one (V1.s (SV.int IntKind.i64 x749))), (AV.one (V1.s (SV.int IntKind.i64 (0 : Int))))] S748 K
noncomputable def F61_q54 (D J : Disp) (p0 : PV) (S699 : St) (y702 : Bool) (K : AV → St → Prop) : Prop :=
 ifK y702
 (D 79 [(AV.one (V1.s (SV.ptr p0))), (AV.one (V1.s (SV.str [59])))] S699 fun v703 S704 =>
 scK v703 fun v706 =>
 SV.cP v706 fun y711 =>
 F61_q51 D J S704 y711 K)
 (D 32 [(AV.one (V1.s (SV.ptr p0))), (AV.one (V1.s (SV.str [103, 111, 116, 111])))] S699 fun v720 S721 =>
 scK v720 fun v723 =>
 SV.cB v723 fun y724 =>
 ifK y724
 (D 30 [(AV.one (V1.s (SV.ptr p0)))] S721 fun v725 S726 =>
 scK v725 fun v728 =>
 SV.cS v728 fun y732 =>
 F61_q52 D J p0 S726 y732 K)
 (F61_q53 D J p0 S721 K))
noncomputable def F61_q55 (D J : Disp) (p0 : PV) (S663 : St) (y666 : Bool) (K : AV → St → Prop) : Prop :=
 ifK y666
 (D 78 [(AV.one (V1.s (SV.ptr p0)))] S663 fun v667 S668 =>
 scK v667 fun v670 =>
 SV.cP v670 fun y675 =>
 let d676 : (Sum Nat Nat) := (Sum.inl 1);
 let S677 : St := (St.add S668 (AO.cells [(SV.ptr y675)] Op2.sh));
 F61_q50 D J p0 S668 d676 S677 K)
 (D 32 [(AV.one (V1.s (SV.ptr p0))), (AV.one (V1.s (SV.str [114, 101, 116, 117, 114, 110])))] S663 fun v698 S699 =>
 scK v698 fun v701 =>
 SV.cB v701 fun y702 =>
 F61_q54 D J p0 S699 y702 K)
noncomputable def F61_q56 (D J : Disp) (p0 : PV) (S529 : St) (y532 : Bool) (K : AV → St → Prop) : Prop :=
 ifK y532
 (D 29 [(AV.one (V1.s (SV.ptr p0))), (AV.one (V1.s (SV.str [40])))] S529 fun v533 S534 =>
 avT v533 fun y536 =>
 endL y536 (D 79 [(AV.one (V1.s (SV.ptr p0))), (AV.one (V1.s (SV.str [59])))] S534 fun v537 S538 =>
 scK v537 fun v540 =>
 SV.cP v540 fun y545 =>
 F61_q49 D J p0 S538 y545 K))
 (D 32 [(AV.one (V1.s (SV.ptr p0))), (AV.one (V1.s (SV.str [115, 119, 105, 116, 99, 104])))] S529 fun v662 S663 =>
 scK v662 fun v665 =>
 SV.cB v665 fun y666 =>
 F61_q55 D J p0 S663 y666 K)
noncomputable def F61_q57 (D J : Disp) (p0 : PV) (S476 : St) (y479 : Bool) (K : AV → St → Prop) : Prop :=
 ifK y479
 (D 61 [(AV.one (V1.s (SV.ptr p0)))] S476 fun v480 S481 =>
 scK v480 fun v483 =>
 SV.cP v483 fun y488 =>
 let d489 : (Sum Nat Nat) := (Sum.inl 1);
 let S490 : St := (St.add S481 (AO.cells [(SV.ptr y488)] Op2.sh));
 F61_q45 D J p0 S481 d489 S490 K)
 (D 32 [(AV.one (V1.s (SV.ptr p0))), (AV.one (V1.s (SV.str [102, 111, 114])))] S476 fun v528 S529 =>
 scK v528 fun v531 =>
 SV.cB v531 fun y532 =>
 F61_q56 D J p0 S529 y532 K)
noncomputable def F61_q58 (D J : Disp) (p0 : PV) (S437 : St) (y440 : Bool) (K : AV → St → Prop) : Prop :=
 ifK y440
 (D 78 [(AV.one (V1.s (SV.ptr p0)))] S437 fun v441 S442 =>
 scK v441 fun v444 =>
 SV.cP v444 fun y449 =>
 let d450 : (Sum Nat Nat) := (Sum.inl 1);
 let S451 : St := (St.add S442 (AO.cells [(SV.ptr y449)] Op2.sh));
 F61_q43 D J p0 S442 d450 S451 K)
 (D 32 [(AV.one (V1.s (SV.ptr p0))), (AV.one (V1.s (SV.str [100, 111])))] S437 fun v475 S476 =>
 scK v475 fun v478 =>
 SV.cB v478 fun y479 =>
 F61_q57 D J p0 S476 y479 K)
noncomputable def F61_q59 (D J : Disp) (p0 : PV) (S340 : St) (y343 : Bool) (K : AV → St → Prop) : Prop :=
 ifK y343
 (D 78 [(AV.one (V1.s (SV.ptr p0)))] S340 fun v344 S345 =>
 scK v344 fun v347 =>
 SV.cP v347 fun y352 =>
 let d353 : (Sum Nat Nat) := (Sum.inl 1);
 let S354 : St := (St.add S345 (AO.cells [(SV.ptr y352)] Op2.sh));
 F61_q42 D J p0 S345 d353 S354 K)
 (D 32 [(AV.one (V1.s (SV.ptr p0))), (AV.one (V1.s (SV.str [119, 104, 105, 108, 101])))] S340 fun v436 S437 =>
 scK v436 fun v439 =>
 SV.cB v439 fun y440 =>
 F61_q58 D J p0 S437 y440 K)
noncomputable def F61_13 (D J : Disp) (p0 : PV) (c31 : Bool) (S : St) (K : AV → St → Prop) : Prop :=
 ifK c31
 (D 30 [(AV.one (V1.s (SV.ptr p0)))] S fun v300 S301 =>
 scK v300 fun v303 =>
 SV.cS v303 fun y307 =>
 let S308 : St := (St.add S301 (AO.cells [(SV.str [108, 97, 98, 101, 108]), (SV.str y307), (SV.str []), (SV.int IntKind.i64 (0 : Int)), (SV.int IntKind.u64 (0 : Int)), (SV.bool Bool.false), (SV.bool Bool.false), (SV.sl LV.nil), (SV.sl LV.nil)] (Op2.ty 115)));
 F61_q39 D J p0 S301 S308 K)
 (D 32 [(AV.one (V1.s (SV.ptr p0))), (AV.one (V1.s (SV.str [105, 102])))] S fun v339 S340 =>
 scK v339 fun v342 =>
 SV.cB v342 fun y343 =>
 F61_q59 D J p0 S340 y343 K)
noncomputable def X61_13 : X := (.br (.op (.op (.op (.op .ret)))) (.op (.br (.op (.op (.op (.br (.op (.op .ret)) (.op .ret))))) (.op (.br (.op (.op (.op .ret))) (.op (.br (.op (.op (.op (.op (.op .ret))))) (.op (.br (.op (.op (.op (.op (.op (.op .ret)))))) (.op (.br (.op .ret) (.op (.br (.op .ret) (.op (.br (.op (.op (.op .ret))) (.op (.jmp 58 [0, 174, 175, 176])))))))))))))))))
theorem F61_13_eq (D J : Disp) (p0 : PV) (c31 : Bool) (S : St) (K : AV → St → Prop) : F61_13 D J p0 c31 S K = execK SynP SynG Go.Proofs.Tryz.f61 (typed SynP D) J plans61 X61_13 (T61 13).1 (envOf (T61 13).2 [(AV.one (V1.s (SV.ptr p0))), (AV.one (V1.s (SV.bool c31)))]) S K := by kernel_rfl
noncomputable def F61_q60 (D J : Disp) (p0 : PV) (y313 : (List Nat)) (S315 : St) (K : AV → St → Prop) : Prop :=
 D 29 [(AV.one (V1.s (SV.ptr p0))), (AV.one (V1.s (SV.str [59])))] S315 fun v319 S320 =>
 avT v319 fun y322 =>
 endL y322 (let S323 : St := (St.add S320 (AO.cells [(SV.str y313), (SV.str []), (SV.str []), (SV.int IntKind.i64 (0 : Int)), (SV.int IntKind.u64 (0 : Int)), (SV.bool Bool.false), (SV.bool Bool.false), (SV.sl LV.nil), (SV.sl LV.nil)] (Op2.ty 115)));
 K ((AV.one (V1.s (SV.ptr (PV.mk (Bk.new (St.next S320)) 0))))) S323)
noncomputable def F61_q61 (D J : Disp) (S : St) (p0 : PV) (l174 : LV) (x175 : Int) (x176 : Int) (b301 : Bk) (n305 : Nat) (K : AV → St → Prop) : Prop :=
 St.at S b301 n305 fun y306 =>
 uncK y306 fun v307 y308 =>
 SV.cS v307 fun y313 =>
 D 32 [(AV.one (V1.s (SV.ptr p0))), (AV.one (V1.s (SV.str y313)))] S fun v314 S315 =>
 scK v314 fun v317 =>
 SV.cB v317 fun y318 =>
 ifK y318
 (F61_q60 D J p0 y313 S315 K)
 (let x327 : Int := (iwrap IntKind.i64 (x176 + (1 : Int)));
 J 58 [(AV.one (V1.s (SV.ptr p0))), (AV.one (V1.s (SV.sl l174))), (AV.one (V1.s (SV.int IntKind.i64 x175))), (AV.one (V1.s (SV.int IntKind.i64 x327)))] S315 K)
noncomputable def F61_q62 (D J : Disp) (p0 : PV) (S342 : St) (d350 : (Sum Nat Nat)) (S351 : St) (K : AV → St → Prop) : Prop :=
 let S352 : St := (St.add S351 (AO.cells [(SV.str [101, 120, 112, 114]), (SV.str []), (SV.str []), (SV.int IntKind.i64 (0 : Int)), (SV.int IntKind.u64 (0 : Int)), (SV.bool Bool.false), (SV.bool Bool.false), (SV.sl (LV.mk (Bk.new (St.next S342)) 0 1 d350)), (SV.sl LV.nil)] (Op2.ty 115)));
 D 29 [(AV.one (V1.s (SV.ptr p0))), (AV.one (V1.s (SV.str [59])))] S352 fun v353 S354 =>
 avT v353 fun y356 =>
 endL y356 (K ((AV.one (V1.s (SV.ptr (PV.mk (Bk.new (St.next S351)) 0))))) S354)
noncomputable def F61_q63 (D J : Disp) (S : St) (p0 : PV) (l174 : LV) (x175 : Int) (x176 : Int) (c300 : Bool) (K : AV → St → Prop) : Prop :=
 ifK c300
 (LV.cs l174 fun b301 n302 n303 y304 =>
 req (Bool.and (ile (0 : Int) x176) (ilt x176 (Int.ofNat n303))) <|
 let n305 : Nat := (n302 + ((Int.toNat x176) * 1));
 F61_q61 D J S p0 l174 x175 x176 b301 n305 K)
 (D 63 [(AV.one (V1.s (SV.ptr p0)))] S fun v341 S342 =>
 scK v341 fun v344 =>
 SV.cP v344 fun y349 =>
 let d350 : (Sum Nat Nat) := (Sum.inl 1);
 let S351 : St := (St.add S342 (AO.cells [(SV.ptr y349)] Op2.sh));
 F61_q62 D J p0 S342 d350 S351 K)
noncomputable def F61_58 (D J : Disp) (p0 : PV) (l174 : LV) (x175 : Int) (x176 : Int) (S : St) (K : AV → St → Prop) : Prop :=
 let c300 : Bool := (ilt x176 x175);
 F61_q63 D J S p0 l174 x175 x176 c300 K
noncomputable def X61_58 : X := (.op (.br (.op (.op (.br (.op (.op .ret)) (.op (.jmp 58 [0, 174, 175, 176]))))) (.op (.op (.op .ret)))))
theorem F61_58_eq (D J : Disp) (p0 : PV) (l174 : LV) (x175 : Int) (x176 : Int) (S : St) (K : AV → St → Prop) : F61_58 D J p0 l174 x175 x176 S K = execK SynP SynG Go.Proofs.Tryz.f61 (typed SynP D) J plans61 X61_58 (T61 58).1 (envOf (T61 58).2 [(AV.one (V1.s (SV.ptr p0))), (AV.one (V1.s (SV.sl l174))), (AV.one (V1.s (SV.int IntKind.i64 x175))), (AV.one (V1.s (SV.int IntKind.i64 x176)))]) S K := by kernel_rfl
noncomputable abbrev A61_0 (D J : Disp) (vals : List AV) (S : St) (K : AV → St → Prop) : Prop :=
  uncA vals fun a9001 r9002 => scK a9001 fun s9004 => SV.cP s9004 fun p0 => endL r9002 <| F61_0 D J p0 S K
theorem A61_0_ok {D J : Disp} (hD : DOK SynP SynG D) (hJ : JOK SynP SynG Go.Proofs.Tryz.f61 T61 J) {vals : List AV} {S : St} {K : AV → St → Prop} (h0 : A61_0 D J vals S K) : Runs SynP SynG Go.Proofs.Tryz.f61 (T61 0).1 (envOf (T61 0).2 vals) S K := by
  obtain ⟨a9001, r9002, rfl, h3⟩ := uncA_some h0
  obtain ⟨s9004, rfl, h5⟩ := scK_some h3
  obtain ⟨p0, rfl, h6⟩ := cP_some h5
  obtain ⟨rfl, h7⟩ := endL_some h6
  rw [F61_0_eq] at h7
  exact execK_runs hD.typed Syn_zero Syn_mixed hJ X61_0 (T61 0).1 (envOf (T61 0).2 _) S K (chk_of (by kernel_rfl) (by kernel_rfl)) h7
noncomputable abbrev A61_13 (D J : Disp) (vals : List AV) (S : St) (K : AV → St → Prop) : Prop :=
  uncA vals fun a9001 r9002 => scK a9001 fun s9004 => SV.cP s9004 fun p0 => uncA r9002 fun a9007 r9008 => scK a9007 fun s9010 => SV.cB s9010 fun c31 => endL r9008 <| F61_13 D J p0 c31 S K
theorem A61_13_ok {D J : Disp} (hD : DOK SynP SynG D) (hJ : JOK SynP SynG Go.Proofs.Tryz.f61 T61 J) {vals : List AV} {S : St} {K : AV → St → Prop} (h0 : A61_13 D J vals S K) : Runs SynP SynG Go.Proofs.Tryz.f61 (T61 13).1 (envOf (T61 13).2 vals) S K := by
  obtain ⟨a9001, r9002, rfl, h3⟩ := uncA_some h0
  obtain ⟨s9004, rfl, h5⟩ := scK_some h3
  obtain ⟨p0, rfl, h6⟩ := cP_some h5
  obtain ⟨a9007, r9008, rfl, h9⟩ := uncA_some h6
  obtain ⟨s9010, rfl, h11⟩ := scK_some h9
  obtain ⟨c31, rfl, h12⟩ := cB_some h11
  obtain ⟨rfl, h13⟩ := endL_some h12
  rw [F61_13_eq] at h13
  exact execK_runs hD.typed Syn_zero Syn_mixed hJ X61_13 (T61 13).1 (envOf (T61 13).2 _) S K (chk_of (by kernel_rfl) (by kernel_rfl)) h13
noncomputable abbrev A61_58 (D J : Disp) (vals : List AV) (S : St) (K : AV → St → Prop) : Prop :=
  uncA vals fun a9001 r9002 => scK a9001 fun s9004 => SV.cP s9004 fun p0 => uncA r9002 fun a9007 r9008 => scK a9007 fun s9010 => SV.cL s9010 fun l174 => uncA r9008 fun a9013 r9014 => scK a9013 fun s9016 => SV.cI IntKind.i64 s9016 fun x175 => uncA r9014 fun a9019 r9020 => scK a9019 fun s9022 => SV.cI IntKind.i64 s9022 fun x176 => endL r9020 <| F61_58 D J p0 l174 x175 x176 S K
theorem A61_58_ok {D J : Disp} (hD : DOK SynP SynG D) (hJ : JOK SynP SynG Go.Proofs.Tryz.f61 T61 J) {vals : List AV} {S : St} {K : AV → St → Prop} (h0 : A61_58 D J vals S K) : Runs SynP SynG Go.Proofs.Tryz.f61 (T61 58).1 (envOf (T61 58).2 vals) S K := by
  obtain ⟨a9001, r9002, rfl, h3⟩ := uncA_some h0
  obtain ⟨s9004, rfl, h5⟩ := scK_some h3
  obtain ⟨p0, rfl, h6⟩ := cP_some h5
  obtain ⟨a9007, r9008, rfl, h9⟩ := uncA_some h6
  obtain ⟨s9010, rfl, h11⟩ := scK_some h9
  obtain ⟨l174, rfl, h12⟩ := cL_some h11
  obtain ⟨a9013, r9014, rfl, h15⟩ := uncA_some h12
  obtain ⟨s9016, rfl, h17⟩ := scK_some h15
  obtain ⟨x175, rfl, h18⟩ := cI_some h17
  obtain ⟨a9019, r9020, rfl, h21⟩ := uncA_some h18
  obtain ⟨s9022, rfl, h23⟩ := scK_some h21
  obtain ⟨x176, rfl, h24⟩ := cI_some h23
  obtain ⟨rfl, h25⟩ := endL_some h24
  rw [F61_58_eq] at h25
  exact execK_runs hD.typed Syn_zero Syn_mixed hJ X61_58 (T61 58).1 (envOf (T61 58).2 _) S K (chk_of (by kernel_rfl) (by kernel_rfl)) h25
noncomputable def J61 (D : Disp) (k : Nat) : Disp := Nat.rec (motive := fun _ => Disp) Disp.no (fun _ ih => Disp.add 0 (A61_0 D ih) <| Disp.add 13 (A61_13 D ih) <| Disp.add 58 (A61_58 D ih) <| Disp.no) k
theorem J61_ok {D : Disp} (hD : DOK SynP SynG D) : ∀ k, JOK SynP SynG Go.Proofs.Tryz.f61 T61 (J61 D k)
  | 0 => JOK.no
  | k + 1 => JOK.add (ltB_ok (by kernel_rfl)) (fun vals S K h => A61_0_ok hD (J61_ok hD k) h) <| JOK.add (ltB_ok (by kernel_rfl)) (fun vals S K h => A61_13_ok hD (J61_ok hD k) h) <| JOK.add (ltB_ok (by kernel_rfl)) (fun vals S K h => A61_58_ok hD (J61_ok hD k) h) <| JOK.no
theorem E61_ok {D : Disp} (hD : DOK SynP SynG D) (k : Nat) {args : List AV} {S : St} {K : AV → St → Prop} (h : A61_0 D (J61 D k) args S K) : CallE SynP SynG 61 args S K := by
  have hr := A61_0_ok hD (J61_ok hD k) h
  have hl : args.length = 1 := by
    have h0 := h
    obtain ⟨a9001, r9002, rfl, h3⟩ := uncA_some h0
    obtain ⟨s9004, rfl, h5⟩ := scK_some h3
    obtain ⟨p0, rfl, h6⟩ := cP_some h5
    obtain ⟨rfl, h7⟩ := endL_some h6
    rfl
  refine callOK_of (fn := Go.Proofs.Tryz.f61) (c := (match Go.Proofs.Tryz.f61.body with | some c => c | none => .skip)) (by kernel_rfl) (by kernel_rfl) (by kernel_rfl) (by rw [hl]; kernel_rfl) (by kernel_rfl) ?_
  rw [hl]
  exact hr
noncomputable def plans62 (i : Nat) : Plan := []
noncomputable def T62 (p : Nat) : List Item × List Nat := bif Nat.beq p 0 then ([.code (match Go.Proofs.Tryz.f62.body with | some c => c | none => .skip)], [0, 1]) else
  bif Nat.beq p 6 then (navs [.op, .op, .el, .op] [.code (match Go.Proofs.Tryz.f62.body with | some c => c | none => .skip)], [0, 1, 5]) else
  bif Nat.beq p 9 then (navs [.op, .op, .el, .op, .op, .th, .op] [.code (match Go.Proofs.Tryz.f62.body with | some c => c | none => .skip)], [0, 1, 5, 24, 25, 26]) else
  bif Nat.beq p 20 then (navs [.op, .op, .el, .op, .op, .th, .op, .op, .th, .op, .op, .el, .op, .op, .op, .th, .op] [.code (match Go.Proofs.Tryz.f62.body with | some c => c | none => .skip)], [0, 1, 8]) else
  ([], [])
noncomputable def F62_q6 (D J : Disp) (S : St) (p0 : PV) (x1 : Int) (c311 : Bool) (K : AV → St → Prop) : Prop :=
 ifK c311
 (D 81 [(AV.one (V1.s (SV.ptr p0)))] S fun v312 S313 =>
 scK v312 fun v315 =>
 SV.cP v315 fun y320 =>
 K ((AV.one (V1.s (SV.ptr y320)))) S313)
 (let x326 : Int := (iwrap IntKind.i64 (x1 + (1 : Int)));
 D 62 [(AV.one (V1.s (SV.ptr p0))), (AV.one (V1.s (SV.int IntKind.i64 x326)))] S fun v327 S328 =>
 scK v327 fun v330 =>
 SV.cP v330 fun y335 =>
 J 6 [(AV.one (V1.s (SV.ptr p0))), (AV.one (V1.s (SV.int IntKind.i64 x1))), (AV.one (V1.s (SV.ptr y335)))] S328 K)
noncomputable def F62_0 (D J : Disp) (p0 : PV) (x1 : Int) (S : St) (K : AV → St → Prop) : Prop :=
 St.at S (Bk.inp 2) 0 fun y300 =>
 uncK y300 fun v301 y302 =>
 SV.cL v301 fun y309 =>
 let x310 : Int := (Int.ofNat (LV.len y309));
 let c311 : Bool := (ieq x1 x310);
 F62_q6 D J S p0 x1 c311 K
noncomputable def X62_0 : X := (.op (.op (.br (.op .ret) (.op (.jmp 6 [0, 1, 5])))))
theorem F62_0_eq (D J : Disp) (p0 : PV) (x1 : Int) (S : St) (K : AV → St → Prop) : F62_0 D J p0 x1 S K = execK SynP SynG Go.Proofs.Tryz.f62 (typed SynP D) J plans62 X62_0 (T62 0).1 (envOf (T62 0).2 [(AV.one (V1.s (SV.ptr p0))), (AV.one (V1.s (SV.int IntKind.i64 x1)))]) S K := by kernel_rfl
noncomputable def F62_q7 (D J : Disp) (p0 : PV) (x1 : Int) (p5 : PV) (S301 : St) (y314 : LV) (K : AV → St → Prop) : Prop :=
 LV.cs y314 fun b315 n316 n317 y318 =>
 req (Bool.and (ile (0 : Int) x1) (ilt x1 (Int.ofNat n317))) <|
 let n319 : Nat := (n316 + ((Int.toNat x1) * 1));
 St.at S301 b315 n319 fun y320 =>
 uncK y320 fun v321 y322 =>
 SV.cL v321 fun y329 =>
 let x330 : Int := (Int.ofNat (LV.len y329));
 J 9 [(AV.one (V1.s (SV.ptr p0))), (AV.one (V1.s (SV.int IntKind.i64 x1))), (AV.one (V1.s (SV.ptr p5))), (AV.one (V1.s (SV.sl y329))), (AV.one (V1.s (SV.int IntKind.i64 x330))), (AV.one (V1.s (SV.int IntKind.i64 (0 : Int))))] S301 K
noncomputable def F62_6 (D J : Disp) (p0 : PV) (x1 : Int) (p5 : PV) (S : St) (K : AV → St → Prop) : Prop :=
 D 18 [(AV.one (V1.s (SV.ptr p0)))] S fun v300 S301 =>
 scK v300 fun v303 =>
 SV.cB v303 fun y304 =>
 ifK y304
 (St.at S301 (Bk.inp 2) 0 fun y305 =>
 uncK y305 fun v306 y307 =>
 SV.cL v306 fun y314 =>
 F62_q7 D J p0 x1 p5 S301 y314 K)
 (K ((AV.one (V1.s (SV.ptr p5)))) S301)
noncomputable def X62_6 : X := (.op (.br (.op (.jmp 9 [0, 1, 5, 24, 25, 26])) (.op .ret)))
theorem F62_6_eq (D J : Disp) (p0 : PV) (x1 : Int) (p5 : PV) (S : St) (K : AV → St → Prop) : F62_6 D J p0 x1 p5 S K = execK SynP SynG Go.Proofs.Tryz.f62 (typed SynP D) J plans62 X62_6 (T62 6).1 (envOf (T62 6).2 [(AV.one (V1.s (SV.ptr p0))), (AV.one (V1.s (SV.int IntKind.i64 x1))), (AV.one (V1.s (SV.ptr p5)))]) S K := by kernel_rfl
noncomputable def F62_q8 (D J : Disp) (p0 : PV) (x1 : Int) (S332 : St) (S333 : St) (c337 : Bool) (K : AV → St → Prop) : Prop :=
 ifK c337
 (St.wr S333 (Bk.new (St.next S332)) 0 [(SV.str [97, 110, 100])] fun S338 =>
 St.wr S338 (Bk.new (St.next S332)) 1 [(SV.str [])] fun S339 =>
 J 20 [(AV.one (V1.s (SV.ptr p0))), (AV.one (V1.s (SV.int IntKind.i64 x1))), (AV.one (V1.s (SV.ptr (PV.mk (Bk.new (St.next S332)) 0))))] S339 K)
 (J 20 [(AV.one (V1.s (SV.ptr p0))), (AV.one (V1.s (SV.int IntKind.i64 x1))), (AV.one (V1.s (SV.ptr (PV.mk (Bk.new (St.next S332)) 0))))] S333 K)
noncomputable def F62_q9 (D J : Disp) (p0 : PV) (x1 : Int) (y313 : (List Nat)) (S323 : St) (d331 : (Sum Nat Nat)) (S332 : St) (K : AV → St → Prop) : Prop :=
 let S333 : St := (St.add S332 (AO.cells [(SV.str [98, 105, 110]), (SV.str y313), (SV.str []), (SV.int IntKind.i64 (0 : Int)), (SV.int IntKind.u64 (0 : Int)), (SV.bool Bool.false), (SV.sl (LV.mk (Bk.new (St.next S323)) 0 2 d331))] (Op2.ty 118)));
 let c334 : Bool := (leq y313 [124, 124]);
 ifK c334
 (St.wr S333 (Bk.new (St.next S332)) 0 [(SV.str [111, 114])] fun S335 =>
 St.wr S335 (Bk.new (St.next S332)) 1 [(SV.str [])] fun S336 =>
 J 20 [(AV.one (V1.s (SV.ptr p0))), (AV.one (V1.s (SV.int IntKind.i64 x1))), (AV.one (V1.s (SV.ptr (PV.mk (Bk.new (St.next S332)) 0))))] S336 K)
 (let c337 : Bool := (leq y313 [38, 38]);
 F62_q8 D J p0 x1 S332 S333 c337 K)
noncomputable def F62_q10 (D J : Disp) (p0 : PV) (x1 : Int) (p5 : PV) (l24 : LV) (x25 : Int) (x26 : Int) (y313 : (List Nat)) (S315 : St) (c319 : Bool) (K : AV → St → Prop) : Prop :=
 ifK c319
 (let x320 : Int := (iwrap IntKind.i64 (x26 + (1 : Int)));
 J 9 [(AV.one (V1.s (SV.ptr p0))), (AV.one (V1.s (SV.int IntKind.i64 x1))), (AV.one (V1.s (SV.ptr p5))), (AV.one (V1.s (SV.sl l24))), (AV.one (V1.s (SV.int IntKind.i64 x25))), (AV.one (V1.s (SV.int IntKind.i64 x320)))] S315 K)
 (let x321 : Int := (iwrap IntKind.i64 (x1 + (1 : Int)));
 D 62 [(AV.one (V1.s (SV.ptr p0))), (AV.one (V1.s (SV.int IntKind.i64 x321)))] S315 fun v322 S323 =>
 scK v322 fun v325 =>
 SV.cP v325 fun y330 =>
 let d331 : (Sum Nat Nat) := (Sum.inl 2);
 let S332 : St := (St.add S323 (AO.cells [(SV.ptr p5), (SV.ptr y330)] Op2.sh));
 F62_q9 D J p0 x1 y313 S323 d331 S332 K)
noncomputable def F62_q11 (D J : Disp) (S : St) (p0 : PV) (x1 : Int) (p5 : PV) (l24 : LV) (x25 : Int) (x26 : Int) (K : AV → St → Prop) : Prop :=
 LV.cs l24 fun b301 n302 n303 y304 =>
 req (Bool.and (ile (0 : Int) x26) (ilt x26 (Int.ofNat n303))) <|
 let n305 : Nat := (n302 + ((Int.toNat x26) * 1));
 St.at S b301 n305 fun y306 =>
 uncK y306 fun v307 y308 =>
 SV.cS v307 fun y313 =>
 D 32 [(AV.one (V1.s (SV.ptr p0))), (AV.one (V1.s (SV.str y313)))] S fun v314 S315 =>
 scK v314 fun v317 =>
 SV.cB v317 fun y318 =>
 let c319 : Bool := (Bool.not y318);
 F62_q10 D J p0 x1 p5 l24 x25 x26 y313 S315 c319 K
noncomputable def F62_9 (D J : Disp) (p0 : PV) (x1 : Int) (p5 : PV) (l24 : LV) (x25 : Int) (x26 : Int) (S : St) (K : AV → St → Prop) : Prop :=
 let c300 : Bool := (ilt x26 x25);
 ifK c300
 (F62_q11 D J S p0 x1 p5 l24 x25 x26 K)
 (K ((AV.one (V1.s (SV.ptr p5)))) S)
noncomputable def X62_9 : X := (.op (.br (.op (.op (.br (.op (.jmp 9 [0, 1, 5, 24, 25, 26])) (.op (.op (.op (.br (.op (.jmp 20 [0, 1, 8])) (.op (.br (.op (.jmp 20 [0, 1, 8])) (.jmp 20 [0, 1, 8])))))))))) (.op .ret)))
theorem F62_9_eq (D J : Disp) (p0 : PV) (x1 : Int) (p5 : PV) (l24 : LV) (x25 : Int) (x26 : Int) (S : St) (K : AV → St → Prop) : F62_9 D J p0 x1 p5 l24 x25 x26 S K = execK SynP SynG Go.Proofs.Tryz.f62 (typed SynP D) J plans62 X62_9 (T62 9).1 (envOf (T62 9).2 [(AV.one (V1.s (SV.ptr p0))), (AV.one (V1.s (SV.int IntKind.i64 x1))), (AV.one (V1.s (SV.ptr p5))), (AV.one (V1.s (SV.sl l24))), (AV.one (V1.s (SV.int IntKind.i64 x25))), (AV.one (V1.s (SV.int IntKind.i64 x26)))]) S K := by kernel_rfl
noncomputable def F62_20 (D J : Disp) (p0 : PV) (x1 : Int) (p8 : PV) (S : St) (K : AV → St → Prop) : Prop :=
 J 6 [(AV.one (V1.s (SV.ptr p0))), (AV.one (V1.s (SV.int IntKind.i64 x1))), (AV.one (V1.s (SV.ptr p8)))] S K
noncomputable def X62_20 : X := (.op (.jmp 6 [0, 1, 5]))
theorem F62_20_eq (D J : Disp) (p0 : PV) (x1 : Int) (p8 : PV) (S : St) (K : AV → St → Prop) : F62_20 D J p0 x1 p8 S K = execK SynP SynG Go.Proofs.Tryz.f62 (typed SynP D) J plans62 X62_20 (T62 20).1 (envOf (T62 20).2 [(AV.one (V1.s (SV.ptr p0))), (AV.one (V1.s (SV.int IntKind.i64 x1))), (AV.one (V1.s (SV.ptr p8)))]) S K := by kernel_rfl
noncomputable abbrev A62_0 (D J : Disp) (vals : List AV) (S : St) (K : AV → St → Prop) : Prop :=
  uncA vals fun a9001 r9002 => scK a9001 fun s9004 => SV.cP s9004 fun p0 => uncA r9002 fun a9007 r9008 => scK a9007 fun s9010 => SV.cI IntKind.i64 s9010 fun x1 => endL r9008 <| F62_0 D J p0 x1 S K
theorem A62_0_ok {D J : Disp} (hD : DOK SynP SynG D) (hJ : JOK SynP SynG Go.Proofs.Tryz.f62 T62 J) {vals : List AV} {S : St} {K : AV → St → Prop} (h0 : A62_0 D J vals S K) : Runs SynP SynG Go.Proofs.Tryz.f62 (T62 0).1 (envOf (T62 0).2 vals) S K := by
  obtain ⟨a9001, r9002, rfl, h3⟩ := uncA_some h0
  obtain ⟨s9004, rfl, h5⟩ := scK_some h3
  obtain ⟨p0, rfl, h6⟩ := cP_some h5
  obtain ⟨a9007, r9008, rfl, h9⟩ := uncA_some h6
  obtain ⟨s9010, rfl, h11⟩ := scK_some h9
  obtain ⟨x1, rfl, h12⟩ := cI_some h11
  obtain ⟨rfl, h13⟩ := endL_some h12
  rw [F62_0_eq] at h13
  exact execK_runs hD.typed Syn_zero Syn_mixed hJ X62_0 (T62 0).1 (envOf (T62 0).2 _) S K (chk_of (by kernel_rfl) (by kernel_rfl)) h13
noncomputable abbrev A62_6 (D J : Disp) (vals : List AV) (S : St) (K : AV → St → Prop) : Prop :=
  uncA vals fun a9001 r9002 => scK a9001 fun s9004 => SV.cP s9004 fun p0 => uncA r9002 fun a9007 r9008 => scK a9007 fun s9010 => SV.cI IntKind.i64 s9010 fun x1 => uncA r9008 fun a9013 r9014 => scK a9013 fun s9016 => SV.cP s9016 fun p5 => endL r9014 <| F62_6 D J p0 x1 p5 S K
theorem A62_6_ok {D J : Disp} (hD : DOK SynP SynG D) (hJ : JOK SynP SynG Go.Proofs.Tryz.f62 T62 J) {vals : List AV} {S : St} {K : AV → St → Prop} (h0 : A62_6 D J vals S K) : Runs SynP SynG Go.Proofs.Tryz.f62 (T62 6).1 (envOf (T62 6).2 vals) S K := by
  obtain ⟨a9001, r9002, rfl, h3⟩ := uncA_some h0
  obtain ⟨s9004, rfl, h5⟩ := scK_some h3
  obtain ⟨p0, rfl, h6⟩ := cP_some h5
  obtain ⟨a9007, r9008, rfl, h9⟩ := uncA_some h6
  obtain ⟨s9010, rfl, h11⟩ := scK_some h9
  obtain ⟨x1, rfl, h12⟩ := cI_some h11
  obtain ⟨a9013, r9014, rfl, h15⟩ := uncA_some h12
  obtain ⟨s9016, rfl, h17⟩ := scK_some h15
  obtain ⟨p5, rfl, h18⟩ := cP_some h17
  obtain ⟨rfl, h19⟩ := endL_some h18
  rw [F62_6_eq] at h19
  exact execK_runs hD.typed Syn_zero Syn_mixed hJ X62_6 (T62 6).1 (envOf (T62 6).2 _) S K (chk_of (by kernel_rfl) (by kernel_rfl)) h19
noncomputable abbrev A62_9 (D J : Disp) (vals : List AV) (S : St) (K : AV → St → Prop) : Prop :=
  uncA vals fun a9001 r9002 => scK a9001 fun s9004 => SV.cP s9004 fun p0 => uncA r9002 fun a9007 r9008 => scK a9007 fun s9010 => SV.cI IntKind.i64 s9010 fun x1 => uncA r9008 fun a9013 r9014 => scK a9013 fun s9016 => SV.cP s9016 fun p5 => uncA r9014 fun a9019 r9020 => scK a9019 fun s9022 => SV.cL s9022 fun l24 => uncA r9020 fun a9025 r9026 => scK a9025 fun s9028 => SV.cI IntKind.i64 s9028 fun x25 => uncA r9026 fun a9031 r9032 => scK a9031 fun s9034 => SV.cI IntKind.i64 s9034 fun x26 => endL r9032 <| F62_9 D J p0 x1 p5 l24 x25 x26 S K
theorem A62_9_ok {D J : Disp} (hD : DOK SynP SynG D) (hJ : JOK SynP SynG Go.Proofs.Tryz.f62 T62 J) {vals : List AV} {S : St} {K : AV → St → Prop} (h0 : A62_9 D J vals S K) : Runs SynP SynG Go.Proofs.Tryz.f62 (T62 9).1 (envOf (T62 9).2 vals) S K := by
  obtain ⟨a9001, r9002, rfl, h3⟩ := uncA_some h0
  obtain ⟨s9004, rfl, h5⟩ := scK_some h3
  obtain ⟨p0, rfl, h6⟩ := cP_some h5
  obtain ⟨a9007, r9008, rfl, h9⟩ := uncA_some h6
  obtain ⟨s9010, rfl, h11⟩ := scK_some h9
  obtain ⟨x1, rfl, h12⟩ := cI_some h11
  obtain ⟨a9013, r9014, rfl, h15⟩ := uncA_some h12
  obtain ⟨s9016, rfl, h17⟩ := scK_some h15
  obtain ⟨p5, rfl, h18⟩ := cP_some h17
  obtain ⟨a9019, r9020, rfl, h21⟩ := uncA_some h18
  obtain ⟨s9022, rfl, h23⟩ := scK_some h21
  obtain ⟨l24, rfl, h24⟩ := cL_some h23
  obtain ⟨a9025, r9026, rfl, h27⟩ := uncA_some h24
  obtain ⟨s9028, rfl, h29⟩ := scK_some h27
  obtain ⟨x25, rfl, h30⟩ := cI_some h29
  obtain ⟨a9031, r9032, rfl, h33⟩ := uncA_some h30
  obtain ⟨s9034, rfl, h35⟩ := scK_some h33
  obtain ⟨x26, rfl, h36⟩ := cI_some h35
  obtain ⟨rfl, h37⟩ := endL_some h36
  rw [F62_9_eq] at h37
  exact execK_runs hD.typed Syn_zero Syn_mixed hJ X62_9 (T62 9).1 (envOf (T62 9).2 _) S K (chk_of (by kernel_rfl) (by kernel_rfl)) h37
noncomputable abbrev A62_20 (D J : Disp) (vals : List AV) (S : St) (K : AV → St → Prop) : Prop :=
  uncA vals fun a9001 r9002 => scK a9001 fun s9004 => SV.cP s9004 fun p0 => uncA r9002 fun a9007 r9008 => scK a9007 fun s9010 => SV.cI IntKind.i64 s9010 fun x1 => uncA r9008 fun a9013 r9014 => scK a9013 fun s9016 => SV.cP s9016 fun p8 => endL r9014 <| F62_20 D J p0 x1 p8 S K
theorem A62_20_ok {D J : Disp} (hD : DOK SynP SynG D) (hJ : JOK SynP SynG Go.Proofs.Tryz.f62 T62 J) {vals : List AV} {S : St} {K : AV → St → Prop} (h0 : A62_20 D J vals S K) : Runs SynP SynG Go.Proofs.Tryz.f62 (T62 20).1 (envOf (T62 20).2 vals) S K := by
  obtain ⟨a9001, r9002, rfl, h3⟩ := uncA_some h0
  obtain ⟨s9004, rfl, h5⟩ := scK_some h3
  obtain ⟨p0, rfl, h6⟩ := cP_some h5
  obtain ⟨a9007, r9008, rfl, h9⟩ := uncA_some h6
  obtain ⟨s9010, rfl, h11⟩ := scK_some h9
  obtain ⟨x1, rfl, h12⟩ := cI_some h11
  obtain ⟨a9013, r9014, rfl, h15⟩ := uncA_some h12
  obtain ⟨s9016, rfl, h17⟩ := scK_some h15
  obtain ⟨p8, rfl, h18⟩ := cP_some h17
  obtain ⟨rfl, h19⟩ := endL_some h18
  rw [F62_20_eq] at h19
  exact execK_runs hD.typed Syn_zero Syn_mixed hJ X62_20 (T62 20).1 (envOf (T62 20).2 _) S K (chk_of (by kernel_rfl) (by kernel_rfl)) h19
noncomputable def J62 (D : Disp) (k : Nat) : Disp := Nat.rec (motive := fun _ => Disp) Disp.no (fun _ ih => Disp.add 0 (A62_0 D ih) <| Disp.add 6 (A62_6 D ih) <| Disp.add 9 (A62_9 D ih) <| Disp.add 20 (A62_20 D ih) <| Disp.no) k
theorem J62_ok {D : Disp} (hD : DOK SynP SynG D) : ∀ k, JOK SynP SynG Go.Proofs.Tryz.f62 T62 (J62 D k)
  | 0 => JOK.no
  | k + 1 => JOK.add (ltB_ok (by kernel_rfl)) (fun vals S K h => A62_0_ok hD (J62_ok hD k) h) <| JOK.add (ltB_ok (by kernel_rfl)) (fun vals S K h => A62_6_ok hD (J62_ok hD k) h) <| JOK.add (ltB_ok (by kernel_rfl)) (fun vals S K h => A62_9_ok hD (J62_ok hD k) h) <| JOK.add (ltB_ok (by kernel_rfl)) (fun vals S K h => A62_20_ok hD (J62_ok hD k) h) <| JOK.no
theorem E62_ok {D : Disp} (hD : DOK SynP SynG D) (k : Nat) {args : List AV} {S : St} {K : AV → St → Prop} (h : A62_0 D (J62 D k) args S K) : CallE SynP SynG 62 args S K := by
  have hr := A62_0_ok hD (J62_ok hD k) h
  have hl : args.length = 2 := by
    have h0 := h
    obtain ⟨a9001, r9002, rfl, h3⟩ := uncA_some h0
    obtain ⟨s9004, rfl, h5⟩ := scK_some h3
    obtain ⟨p0, rfl, h6⟩ := cP_some h5
    obtain ⟨a9007, r9008, rfl, h9⟩ := uncA_some h6
    obtain ⟨s9010, rfl, h11⟩ := scK_some h9
    obtain ⟨x1, rfl, h12⟩ := cI_some h11
    obtain ⟨rfl, h13⟩ := endL_some h12
    rfl
  refine callOK_of (fn := Go.Proofs.Tryz.f62) (c := (match Go.Proofs.Tryz.f62.body with | some c => c | none => .skip)) (by kernel_rfl) (by kernel_rfl) (by kernel_rfl) (by rw [hl]; kernel_rfl) (by kernel_rfl) ?_
  rw [hl]
  exact hr
noncomputable def plans63 (i : Nat) : Plan := []
noncomputable def T63 (p : Nat) : List Item × List Nat := bif Nat.beq p 0 then ([.code (match Go.Proofs.Tryz.f63.body with | some c => c | none => .skip)], [0]) else
  bif Nat.beq p 3 then (navs [.op, .op, .op] [.code (match Go.Proofs.Tryz.f63.body with | some c => c | none => .skip)], [0, 3, 8, 9, 10]) else
  ([], [])
noncomputable def F63_q3 (D J : Disp) (S : St) (p0 : PV) (K : AV → St → Prop) : Prop :=
 D 40 [(AV.one (V1.s (SV.ptr p0)))] S fun v300 S301 =>
 scK v300 fun v303 =>
 SV.cP v303 fun y308 =>
 St.at S301 (Bk.inp 3) 0 fun y309 =>
 uncK y309 fun v310 y311 =>
 SV.cL v310 fun y318 =>
 let x319 : Int := (Int.ofNat (LV.len y318));
 J 3 [(AV.one (V1.s (SV.ptr p0))), (AV.one (V1.s (SV.ptr y308))), (AV.one (V1.s (SV.sl y318))), (AV.one (V1.s (SV.int IntKind.i64 x319))), (AV.one (V1.s (SV.int IntKind.i64 (0 : Int))))] S301 K
noncomputable def F63_0 (D J : Disp) (p0 : PV) (S : St) (K : AV → St → Prop) : Prop :=
 F63_q3 D J S p0 K
noncomputable def X63_0 : X := (.op (.op (.op (.jmp 3 [0, 3, 8, 9, 10]))))
theorem F63_0_eq (D J : Disp) (p0 : PV) (S : St) (K : AV → St → Prop) : F63_0 D J p0 S K = execK SynP SynG Go.Proofs.Tryz.f63 (typed SynP D) J plans63 X63_0 (T63 0).1 (envOf (T63 0).2 [(AV.one (V1.s (SV.ptr p0)))]) S K := by kernel_rfl
noncomputable def F63_q4 (D J : Disp) (p3 : PV) (y313 : (List Nat)) (S320 : St) (y327 : PV) (K : AV → St → Prop) : Prop :=
 let d328 : (Sum Nat Nat) := (Sum.inl 2);
 let S329 : St := (St.add S320 (AO.cells [(SV.ptr p3), (SV.ptr y327)] Op2.sh));
 let S330 : St := (St.add S329 (AO.cells [(SV.str [115, 101, 116]), (SV.str y313), (SV.str []), (SV.int IntKind.i64 (0 : Int)), (SV.int IntKind.u64 (0 : Int)), (SV.bool Bool.false), (SV.sl (LV.mk (Bk.new (St.next S320)) 0 2 d328))] (Op2.ty 118)));
 K ((AV.one (V1.s (SV.ptr (PV.mk (Bk.new (St.next S329)) 0))))) S330
noncomputable def F63_q5 (D J : Disp) (S : St) (p0 : PV) (p3 : PV) (l8 : LV) (x9 : Int) (x10 : Int) (y313 : (List Nat)) (K : AV → St → Prop) : Prop :=
 D 32 [(AV.one (V1.s (SV.ptr p0))), (AV.one (V1.s (SV.str y313)))] S fun v314 S315 =>
 scK v314 fun v317 =>
 SV.cB v317 fun y318 =>
 ifK y318
 (D 63 [(AV.one (V1.s (SV.ptr p0)))] S315 fun v319 S320 =>
 scK v319 fun v322 =>
 SV.cP v322 fun y327 =>
 F63_q4 D J p3 y313 S320 y327 K)
 (let x336 : Int := (iwrap IntKind.i64 (x10 + (1 : Int)));
 J 3 [(AV.one (V1.s (SV.ptr p0))), (AV.one (V1.s (SV.ptr p3))), (AV.one (V1.s (SV.sl l8))), (AV.one (V1.s (SV.int IntKind.i64 x9))), (AV.one (V1.s (SV.int IntKind.i64 x336)))] S315 K)
noncomputable def F63_3 (D J : Disp) (p0 : PV) (p3 : PV) (l8 : LV) (x9 : Int) (x10 : Int) (S : St) (K : AV → St → Prop) : Prop :=
 let c300 : Bool := (ilt x10 x9);
 ifK c300
 (LV.cs l8 fun b301 n302 n303 y304 =>
 req (Bool.and (ile (0 : Int) x10) (ilt x10 (Int.ofNat n303))) <|
 let n305 : Nat := (n302 + ((Int.toNat x10) * 1));
 St.at S b301 n305 fun y306 =>
 uncK y306 fun v307 y308 =>
 SV.cS v307 fun y313 =>
 F63_q5 D J S p0 p3 l8 x9 x10 y313 K)
 (K ((AV.one (V1.s (SV.ptr p3)))) S)
noncomputable def X63_3 : X := (.op (.br (.op (.op (.br (.op .ret) (.op (.jmp 3 [0, 3, 8, 9, 10]))))) (.op .ret)))
theorem F63_3_eq (D J : Disp) (p0 : PV) (p3 : PV) (l8 : LV) (x9 : Int) (x10 : Int) (S : St) (K : AV → St → Prop) : F63_3 D J p0 p3 l8 x9 x10 S K = execK SynP SynG Go.Proofs.Tryz.f63 (typed SynP D) J plans63 X63_3 (T63 3).1 (envOf (T63 3).2 [(AV.one (V1.s (SV.ptr p0))), (AV.one (V1.s (SV.ptr p3))), (AV.one (V1.s (SV.sl l8))), (AV.one (V1.s (SV.int IntKind.i64 x9))), (AV.one (V1.s (SV.int IntKind.i64 x10)))]) S K := by kernel_rfl
noncomputable abbrev A63_0 (D J : Disp) (vals : List AV) (S : St) (K : AV → St → Prop) : Prop :=
  uncA vals fun a9001 r9002 => scK a9001 fun s9004 => SV.cP s9004 fun p0 => endL r9002 <| F63_0 D J p0 S K
theorem A63_0_ok {D J : Disp} (hD : DOK SynP SynG D) (hJ : JOK SynP SynG Go.Proofs.Tryz.f63 T63 J) {vals : List AV} {S : St} {K : AV → St → Prop} (h0 : A63_0 D J vals S K) : Runs SynP SynG Go.Proofs.Tryz.f63 (T63 0).1 (envOf (T63 0).2 vals) S K := by
  obtain ⟨a9001, r9002, rfl, h3⟩ := uncA_some h0
  obtain ⟨s9004, rfl, h5⟩ := scK_some h3
  obtain ⟨p0, rfl, h6⟩ := cP_some h5
  obtain ⟨rfl, h7⟩ := endL_some h6
  rw [F63_0_eq] at h7
  exact execK_runs hD.typed Syn_zero Syn_mixed hJ X63_0 (T63 0).1 (envOf (T63 0).2 _) S K (chk_of (by kernel_rfl) (by kernel_rfl)) h7
noncomputable abbrev A63_3 (D J : Disp) (vals : List AV) (S : St) (K : AV → St → Prop) : Prop :=
  uncA vals fun a9001 r9002 => scK a9001 fun s9004 => SV.cP s9004 fun p0 => uncA r9002 fun a9007 r9008 => scK a9007 fun s9010 => SV.cP s9010 fun p3 => uncA r9008 fun a9013 r9014 => scK a9013 fun s9016 => SV.cL s9016 fun l8 => uncA r9014 fun a9019 r9020 => scK a9019 fun s9022 => SV.cI IntKind.i64 s9022 fun x9 => uncA r9020 fun a9025 r9026 => scK a9025 fun s9028 => SV.cI IntKind.i64 s9028 fun x10 => endL r9026 <| F63_3 D J p0 p3 l8 x9 x10 S K
theorem A63_3_ok {D J : Disp} (hD : DOK SynP SynG D) (hJ : JOK SynP SynG Go.Proofs.Tryz.f63 T63 J) {vals : List AV} {S : St} {K : AV → St → Prop} (h0 : A63_3 D J vals S K) : Runs SynP SynG Go.Proofs.Tryz.f63 (T63 3).1 (envOf (T63 3).2 vals) S K := by
  obtain ⟨a9001, r9002, rfl, h3⟩ := uncA_some h0
  obtain ⟨s9004, rfl, h5⟩ := scK_some h3
  obtain ⟨p0, rfl, h6⟩ := cP_some h5
  obtain ⟨a9007, r9008, rfl, h9⟩ := uncA_some h6
  obtain ⟨s9010, rfl, h11⟩ := scK_some h9
  obtain ⟨p3, rfl, h12⟩ := cP_some h11
  obtain ⟨a9013, r9014, rfl, h15⟩ := uncA_some h12
  obtain ⟨s9016, rfl, h17⟩ := scK_some h15
  obtain ⟨l8, rfl, h18⟩ := cL_some h17
  obtain ⟨a9019, r9020, rfl, h21⟩ := uncA_some h18
  obtain ⟨s9022, rfl, h23⟩ := scK_some h21
  obtain ⟨x9, rfl, h24⟩ := cI_some h23
  obtain ⟨a9025, r9026, rfl, h27⟩ := uncA_some h24
  obtain ⟨s9028, rfl, h29⟩ := scK_some h27
  obtain ⟨x10, rfl, h30⟩ := cI_some h29
  obtain ⟨rfl, h31⟩ := endL_some h30
  rw [F63_3_eq] at h31
  exact execK_runs hD.typed Syn_zero Syn_mixed hJ X63_3 (T63 3).1 (envOf (T63 3).2 _) S K (chk_of (by kernel_rfl) (by kernel_rfl)) h31
noncomputable def J63 (D : Disp) (k : Nat) : Disp := Nat.rec (motive := fun _ => Disp) Disp.no (fun _ ih => Disp.add 0 (A63_0 D ih) <| Disp.add 3 (A63_3 D ih) <| Disp.no) k
theorem J63_ok {D : Disp} (hD : DOK SynP SynG D) : ∀ k, JOK SynP SynG Go.Proofs.Tryz.f63 T63 (J63 D k)
  | 0 => JOK.no
  | k + 1 => JOK.add (ltB_ok (by kernel_rfl)) (fun vals S K h => A63_0_ok hD (J63_ok hD k) h) <| JOK.add (ltB_ok (by kernel_rfl)) (fun vals S K h => A63_3_ok hD (J63_ok hD k) h) <| JOK.no
theorem E63_ok {D : Disp} (hD : DOK SynP SynG D) (k : Nat) {args : List AV} {S : St} {K : AV → St → Prop} (h : A63_0 D (J63 D k) args S K) : CallE SynP SynG 63 args S K := by
  have hr := A63_0_ok hD (J63_ok hD k) h
  have hl : args.length = 1 := by
    have h0 := h
    obtain ⟨a9001, r9002, rfl, h3⟩ := uncA_some h0
    obtain ⟨s9004, rfl, h5⟩ := scK_some h3
    obtain ⟨p0, rfl, h6⟩ := cP_some h5
    obtain ⟨rfl, h7⟩ := endL_some h6
    rfl
  refine callOK_of (fn := Go.Proofs.Tryz.f63) (c := (match Go.Proofs.Tryz.f63.body with | some c => c | none => .skip)) (by kernel_rfl) (by kernel_rfl) (by kernel_rfl) (by rw [hl]; kernel_rfl) (by kernel_rfl) ?_
  rw [hl]
  exact hr
noncomputable def plans75 (i : Nat) : Plan := []
noncomputable def T75 (p : Nat) : List Item × List Nat := bif Nat.beq p 0 then ([.code (match Go.Proofs.Tryz.f75.body with | some c => c | none => .skip)], [0, 1]) else
  bif Nat.beq p 5 then (navs [.op, .op, .op, .th, .op] [.code (match Go.Proofs.Tryz.f75.body with | some c => c | none => .skip)], [1, 5]) else
  bif Nat.beq p 12 then (navs [.op, .op, .op, .el, .op] [.code (match Go.Proofs.Tryz.f75.body with | some c => c | none => .skip)], [0, 1, 5, 12]) else
  bif Nat.beq p 15 then (navs [.op, .op, .op, .el, .op, .el, .op] [.code (match Go.Proofs.Tryz.f75.body with | some c => c | none => .skip)], [0, 1, 5, 23]) else
  ([], [])
noncomputable def F75_q2 (D J : Disp) (x0 : Int) (x1 : Int) (S301 : St) (K : AV → St → Prop) : Prop :=
 let c307 : Bool := (ile (97 : Int) x0);
 ifK c307
 (let c308 : Bool := (ile x0 (102 : Int));
 J 12 [(AV.one (V1.s (SV.int IntKind.u8 x0))), (AV.one (V1.s (SV.int IntKind.u64 x1))), (AV.one (V1.s (SV.int IntKind.i64 (Int.negSucc 0)))), (AV.one (V1.s (SV.bool c308)))] S301 K)
 (J 12 [(AV.one (V1.s (SV.int IntKind.u8 x0))), (AV.one (V1.s (SV.int IntKind.u64 x1))), (AV.one (V1.s (SV.int IntKind.i64 (Int.negSucc 0)))), (AV.one (V1.s (SV.bool Bool.false)))] S301 K)
noncomputable def F75_0 (D J : Disp) (x0 : Int) (x1 : Int) (S : St) (K : AV → St → Prop) : Prop :=
 D 53 [(AV.one (V1.s (SV.int IntKind.u8 x0)))] S fun v300 S301 =>
 scK v300 fun v303 =>
 SV.cB v303 fun y304 =>
 ifK y304
 (let x305 : Int := (iwrap IntKind.u8 (x0 - (48 : Int)));
 let x306 : Int := (iwrap IntKind.i64 x305);
 J 5 [(AV.one (V1.s (SV.int IntKind.u64 x1))), (AV.one (V1.s (SV.int IntKind.i64 x306)))] S301 K)
 (F75_q2 D J x0 x1 S301 K)
noncomputable def X75_0 : X := (.op (.op (.op (.br (.op (.jmp 5 [1, 5])) (.op (.jmp 12 [0, 1, 5, 12]))))))
theorem F75_0_eq (D J : Disp) (x0 : Int) (x1 : Int) (S : St) (K : AV → St → Prop) : F75_0 D J x0 x1 S K = execK SynP SynG Go.Proofs.Tryz.f75 (typed SynP D) J plans75 X75_0 (T75 0).1 (envOf (T75 0).2 [(AV.one (V1.s (SV.int IntKind.u8 x0))), (AV.one (V1.s (SV.int IntKind.u64 x1)))]) S K := by kernel_rfl
noncomputable def F75_5 (D J : Disp) (x1 : Int) (x5 : Int) (S : St) (K : AV → St → Prop) : Prop :=
 let x300 : Int := (iwrap IntKind.i64 x1);
 let c301 : Bool := (ile x300 x5);
 ifK c301
 (K ((AV.one (V1.s (SV.int IntKind.i64 (Int.negSucc 0))))) S)
 (K ((AV.one (V1.s (SV.int IntKind.i64 x5)))) S)
noncomputable def X75_5 : X := (.op (.br (.op .ret) (.op .ret)))
theorem F75_5_eq (D J : Disp) (x1 : Int) (x5 : Int) (S : St) (K : AV → St → Prop) : F75_5 D J x1 x5 S K = execK SynP SynG Go.Proofs.Tryz.f75 (typed SynP D) J plans75 X75_5 (T75 5).1 (envOf (T75 5).2 [(AV.one (V1.s (SV.int IntKind.u64 x1))), (AV.one (V1.s (SV.int IntKind.i64 x5)))]) S K := by kernel_rfl
noncomputable def F75_q3 (D J : Disp) (S : St) (x0 : Int) (x1 : Int) (x5 : Int) (K : AV → St → Prop) : Prop :=
 let c303 : Bool := (ile (65 : Int) x0);
 ifK c303
 (let c304 : Bool := (ile x0 (70 : Int));
 J 15 [(AV.one (V1.s (SV.int IntKind.u8 x0))), (AV.one (V1.s (SV.int IntKind.u64 x1))), (AV.one (V1.s (SV.int IntKind.i64 x5))), (AV.one (V1.s (SV.bool c304)))] S K)
 (J 15 [(AV.one (V1.s (SV.int IntKind.u8 x0))), (AV.one (V1.s (SV.int IntKind.u64 x1))), (AV.one (V1.s (SV.int IntKind.i64 x5))), (AV.one (V1.s (SV.bool Bool.false)))] S K)
noncomputable def F75_12 (D J : Disp) (x0 : Int) (x1 : Int) (x5 : Int) (c12 : Bool) (S : St) (K : AV → St → Prop) : Prop :=
 ifK c12
 (let x300 : Int := (iwrap IntKind.u8 (x0 - (97 : Int)));
 let x301 : Int := (iwrap IntKind.i64 x300);
 let x302 : Int := (iwrap IntKind.i64 (x301 + (10 : Int)));
 J 5 [(AV.one (V1.s (SV.int IntKind.u64 x1))), (AV.one (V1.s (SV.int IntKind.i64 x302)))] S K)
 (F75_q3 D J S x0 x1 x5 K)
noncomputable def X75_12 : X := (.br (.op (.jmp 5 [1, 5])) (.op (.jmp 15 [0, 1, 5, 23])))
theorem F75_12_eq (D J : Disp) (x0 : Int) (x1 : Int) (x5 : Int) (c12 : Bool) (S : St) (K : AV → St → Prop) : F75_12 D J x0 x1 x5 c12 S K = execK SynP SynG Go.Proofs.Tryz.f75 (typed SynP D) J plans75 X75_12 (T75 12).1 (envOf (T75 12).2 [(AV.one (V1.s (SV.int IntKind.u8 x0))), (AV.one (V1.s (SV.int IntKind.u64 x1))), (AV.one (V1.s (SV.int IntKind.i64 x5))), (AV.one (V1.s (SV.bool c12)))]) S K := by kernel_rfl
noncomputable def F75_15 (D J : Disp) (x0 : Int) (x1 : Int) (x5 : Int) (c23 : Bool) (S : St) (K : AV → St → Prop) : Prop :=
 ifK c23
 (let x300 : Int := (iwrap IntKind.u8 (x0 - (65 : Int)));
 let x301 : Int := (iwrap IntKind.i64 x300);
 let x302 : Int := (iwrap IntKind.i64 (x301 + (10 : Int)));
 J 5 [(AV.one (V1.s (SV.int IntKind.u64 x1))), (AV.one (V1.s (SV.int IntKind.i64 x302)))] S K)
 (J 5 [(AV.one (V1.s (SV.int IntKind.u64 x1))), (AV.one (V1.s (SV.int IntKind.i64 x5)))] S K)
noncomputable def X75_15 : X := (.br (.op (.jmp 5 [1, 5])) (.jmp 5 [1, 5]))
theorem F75_15_eq (D J : Disp) (x0 : Int) (x1 : Int) (x5 : Int) (c23 : Bool) (S : St) (K : AV → St → Prop) : F75_15 D J x0 x1 x5 c23 S K = execK SynP SynG Go.Proofs.Tryz.f75 (typed SynP D) J plans75 X75_15 (T75 15).1 (envOf (T75 15).2 [(AV.one (V1.s (SV.int IntKind.u8 x0))), (AV.one (V1.s (SV.int IntKind.u64 x1))), (AV.one (V1.s (SV.int IntKind.i64 x5))), (AV.one (V1.s (SV.bool c23)))]) S K := by kernel_rfl
noncomputable abbrev A75_0 (D J : Disp) (vals : List AV) (S : St) (K : AV → St → Prop) : Prop :=
  uncA vals fun a9001 r9002 => scK a9001 fun s9004 => SV.cI IntKind.u8 s9004 fun x0 => uncA r9002 fun a9007 r9008 => scK a9007 fun s9010 => SV.cI IntKind.u64 s9010 fun x1 => endL r9008 <| F75_0 D J x0 x1 S K
theorem A75_0_ok {D J : Disp} (hD : DOK SynP SynG D) (hJ : JOK SynP SynG Go.Proofs.Tryz.f75 T75 J) {vals : List AV} {S : St} {K : AV → St → Prop} (h0 : A75_0 D J vals S K) : Runs SynP SynG Go.Proofs.Tryz.f75 (T75 0).1 (envOf (T75 0).2 vals) S K := by
  obtain ⟨a9001, r9002, rfl, h3⟩ := uncA_some h0
  obtain ⟨s9004, rfl, h5⟩ := scK_some h3
  obtain ⟨x0, rfl, h6⟩ := cI_some h5
  obtain ⟨a9007, r9008, rfl, h9⟩ := uncA_some h6
  obtain ⟨s9010, rfl, h11⟩ := scK_some h9
  obtain ⟨x1, rfl, h12⟩ := cI_some h11
  obtain ⟨rfl, h13⟩ := endL_some h12
  rw [F75_0_eq] at h13
  exact execK_runs hD.typed Syn_zero Syn_mixed hJ X75_0 (T75 0).1 (envOf (T75 0).2 _) S K (chk_of (by kernel_rfl) (by kernel_rfl)) h13
noncomputable abbrev A75_5 (D J : Disp) (vals : List AV) (S : St) (K : AV → St → Prop) : Prop :=
  uncA vals fun a9001 r9002 => scK a9001 fun s9004 => SV.cI IntKind.u64 s9004 fun x1 => uncA r9002 fun a9007 r9008 => scK a9007 fun s9010 => SV.cI IntKind.i64 s9010 fun x5 => endL r9008 <| F75_5 D J x1 x5 S K
theorem A75_5_ok {D J : Disp} (hD : DOK SynP SynG D) (hJ : JOK SynP SynG Go.Proofs.Tryz.f75 T75 J) {vals : List AV} {S : St} {K : AV → St → Prop} (h0 : A75_5 D J vals S K) : Runs SynP SynG Go.Proofs.Tryz.f75 (T75 5).1 (envOf (T75 5).2 vals) S K := by
  obtain ⟨a9001, r9002, rfl, h3⟩ := uncA_some h0
  obtain ⟨s9004, rfl, h5⟩ := scK_some h3
  obtain ⟨x1, rfl, h6⟩ := cI_some h5
  obtain ⟨a9007, r9008, rfl, h9⟩ := uncA_some h6
  obtain ⟨s9010, rfl, h11⟩ := scK_some h9
  obtain ⟨x5, rfl, h12⟩ := cI_some h11
  obtain ⟨rfl, h13⟩ := endL_some h12
  rw [F75_5_eq] at h13
  exact execK_runs hD.typed Syn_zero Syn_mixed hJ X75_5 (T75 5).1 (envOf (T75 5).2 _) S K (chk_of (by kernel_rfl) (by kernel_rfl)) h13
noncomputable abbrev A75_12 (D J : Disp) (vals : List AV) (S : St) (K : AV → St → Prop) : Prop :=
  uncA vals fun a9001 r9002 => scK a9001 fun s9004 => SV.cI IntKind.u8 s9004 fun x0 => uncA r9002 fun a9007 r9008 => scK a9007 fun s9010 => SV.cI IntKind.u64 s9010 fun x1 => uncA r9008 fun a9013 r9014 => scK a9013 fun s9016 => SV.cI IntKind.i64 s9016 fun x5 => uncA r9014 fun a9019 r9020 => scK a9019 fun s9022 => SV.cB s9022 fun c12 => endL r9020 <| F75_12 D J x0 x1 x5 c12 S K
theorem A75_12_ok {D J : Disp} (hD : DOK SynP SynG D) (hJ : JOK SynP SynG Go.Proofs.Tryz.f75 T75 J) {vals : List AV} {S : St} {K : AV → St → Prop} (h0 : A75_12 D J vals S K) : Runs SynP SynG Go.Proofs.Tryz.f75 (T75 12).1 (envOf (T75 12).2 vals) S K := by
  obtain ⟨a9001, r9002, rfl, h3⟩ := uncA_some h0
  obtain ⟨s9004, rfl, h5⟩ := scK_some h3
  obtain ⟨x0, rfl, h6⟩ := cI_some h5
  obtain ⟨a9007, r9008, rfl, h9⟩ := uncA_some h6
  obtain ⟨s9010, rfl, h11⟩ := scK_some h9
  obtain ⟨x1, rfl, h12⟩ := cI_some h11
  obtain ⟨a9013, r9014, rfl, h15⟩ := uncA_some h12
  obtain ⟨s9016, rfl, h17⟩ := scK_some h15
  obtain ⟨x5, rfl, h18⟩ := cI_some h17
  obtain ⟨a9019, r9020, rfl, h21⟩ := uncA_some h18
  obtain ⟨s9022, rfl, h23⟩ := scK_some h21
  obtain ⟨c12, rfl, h24⟩ := cB_some h23
  obtain ⟨rfl, h25⟩ := endL_some h24
  rw [F75_12_eq] at h25
  exact execK_runs hD.typed Syn_zero Syn_mixed hJ X75_12 (T75 12).1 (envOf (T75 12).2 _) S K (chk_of (by kernel_rfl) (by kernel_rfl)) h25
noncomputable abbrev A75_15 (D J : Disp) (vals : List AV) (S : St) (K : AV → St → Prop) : Prop :=
  uncA vals fun a9001 r9002 => scK a9001 fun s9004 => SV.cI IntKind.u8 s9004 fun x0 => uncA r9002 fun a9007 r9008 => scK a9007 fun s9010 => SV.cI IntKind.u64 s9010 fun x1 => uncA r9008 fun a9013 r9014 => scK a9013 fun s9016 => SV.cI IntKind.i64 s9016 fun x5 => uncA r9014 fun a9019 r9020 => scK a9019 fun s9022 => SV.cB s9022 fun c23 => endL r9020 <| F75_15 D J x0 x1 x5 c23 S K
theorem A75_15_ok {D J : Disp} (hD : DOK SynP SynG D) (hJ : JOK SynP SynG Go.Proofs.Tryz.f75 T75 J) {vals : List AV} {S : St} {K : AV → St → Prop} (h0 : A75_15 D J vals S K) : Runs SynP SynG Go.Proofs.Tryz.f75 (T75 15).1 (envOf (T75 15).2 vals) S K := by
  obtain ⟨a9001, r9002, rfl, h3⟩ := uncA_some h0
  obtain ⟨s9004, rfl, h5⟩ := scK_some h3
  obtain ⟨x0, rfl, h6⟩ := cI_some h5
  obtain ⟨a9007, r9008, rfl, h9⟩ := uncA_some h6
  obtain ⟨s9010, rfl, h11⟩ := scK_some h9
  obtain ⟨x1, rfl, h12⟩ := cI_some h11
  obtain ⟨a9013, r9014, rfl, h15⟩ := uncA_some h12
  obtain ⟨s9016, rfl, h17⟩ := scK_some h15
  obtain ⟨x5, rfl, h18⟩ := cI_some h17
  obtain ⟨a9019, r9020, rfl, h21⟩ := uncA_some h18
  obtain ⟨s9022, rfl, h23⟩ := scK_some h21
  obtain ⟨c23, rfl, h24⟩ := cB_some h23
  obtain ⟨rfl, h25⟩ := endL_some h24
  rw [F75_15_eq] at h25
  exact execK_runs hD.typed Syn_zero Syn_mixed hJ X75_15 (T75 15).1 (envOf (T75 15).2 _) S K (chk_of (by kernel_rfl) (by kernel_rfl)) h25
noncomputable def J75 (D : Disp) (k : Nat) : Disp := Nat.rec (motive := fun _ => Disp) Disp.no (fun _ ih => Disp.add 0 (A75_0 D ih) <| Disp.add 5 (A75_5 D ih) <| Disp.add 12 (A75_12 D ih) <| Disp.add 15 (A75_15 D ih) <| Disp.no) k
theorem J75_ok {D : Disp} (hD : DOK SynP SynG D) : ∀ k, JOK SynP SynG Go.Proofs.Tryz.f75 T75 (J75 D k)
  | 0 => JOK.no
  | k + 1 => JOK.add (ltB_ok (by kernel_rfl)) (fun vals S K h => A75_0_ok hD (J75_ok hD k) h) <| JOK.add (ltB_ok (by kernel_rfl)) (fun vals S K h => A75_5_ok hD (J75_ok hD k) h) <| JOK.add (ltB_ok (by kernel_rfl)) (fun vals S K h => A75_12_ok hD (J75_ok hD k) h) <| JOK.add (ltB_ok (by kernel_rfl)) (fun vals S K h => A75_15_ok hD (J75_ok hD k) h) <| JOK.no
theorem E75_ok {D : Disp} (hD : DOK SynP SynG D) (k : Nat) {args : List AV} {S : St} {K : AV → St → Prop} (h : A75_0 D (J75 D k) args S K) : CallE SynP SynG 75 args S K := by
  have hr := A75_0_ok hD (J75_ok hD k) h
  have hl : args.length = 2 := by
    have h0 := h
    obtain ⟨a9001, r9002, rfl, h3⟩ := uncA_some h0
    obtain ⟨s9004, rfl, h5⟩ := scK_some h3
    obtain ⟨x0, rfl, h6⟩ := cI_some h5
    obtain ⟨a9007, r9008, rfl, h9⟩ := uncA_some h6
    obtain ⟨s9010, rfl, h11⟩ := scK_some h9
    obtain ⟨x1, rfl, h12⟩ := cI_some h11
    obtain ⟨rfl, h13⟩ := endL_some h12
    rfl
  refine callOK_of (fn := Go.Proofs.Tryz.f75) (c := (match Go.Proofs.Tryz.f75.body with | some c => c | none => .skip)) (by kernel_rfl) (by kernel_rfl) (by kernel_rfl) (by rw [hl]; kernel_rfl) (by kernel_rfl) ?_
  rw [hl]
  exact hr
noncomputable def plans77 (i : Nat) : Plan := if Nat.beq i 4 then [(0, []), (1, [0]), (2, [1, 0]), (3, [2, 1, 0]), (4, []), (5, [4]), (6, [3, 0, 1, 2, 4, 5]), (7, [6, 5, 0, 1, 2, 3, 4])] else []
noncomputable def T77 (p : Nat) : List Item × List Nat := bif Nat.beq p 0 then ([.code (match Go.Proofs.Tryz.f77.body with | some c => c | none => .skip)], [0]) else
  bif Nat.beq p 6 then (navs [.op, .op, .op, .op, .th, .op] [.code (match Go.Proofs.Tryz.f77.body with | some c => c | none => .skip)], [0, 4]) else
  ([], [])
noncomputable def F77_q5 (D J : Disp) (p0 : PV) (S372 : St) (S375 : St) (y388 : LV) (K : AV → St → Prop) : Prop :=
 D 63 [(AV.one (V1.s (SV.ptr p0)))] S375 fun v389 S390 =>
 scK v389 fun v392 =>
 SV.cP v392 fun y397 =>
 St.at S390 (Bk.new (St.next S372)) 7 fun y398 =>
 uncK y398 fun v399 y400 =>
 SV.cL v399 fun y407 =>
 req (sameAV (AV.one (V1.s (SV.sl y407))) (AV.one (V1.s (SV.sl y388)))) <|
 LV.cs y388 fun b408 n409 n410 y411 =>
 req (Bool.and Bool.true (ilt (0 : Int) (Int.ofNat n410))) <|
 let n412 : Nat := (n409 + 0);
 St.wr S390 b408 n412 [(SV.ptr y397)] fun S413 =>
 J 6 [(AV.one (V1.s (SV.ptr p0))), (AV.one (V1.s (SV.ptr (PV.mk (Bk.new (St.next S372)) 0))))] S413 K
noncomputable def F77_q6 (D J : Disp) (p0 : PV) (S336 : St) (y344 : (List Nat)) (x350 : Int) (y358 : (List Nat)) (x365 : Int) (y370 : Bool) (d371 : (Sum Nat Nat)) (S372 : St) (K : AV → St → Prop) : Prop :=
 let S373 : St := (St.add S372 (AO.cells [(SV.str [108, 101, 116]), (SV.str y358), (SV.str y344), (SV.int IntKind.i64 x350), (SV.int IntKind.u64 x365), (SV.bool y370), (SV.bool Bool.false), (SV.sl (LV.mk (Bk.new (St.next S336)) 0 1 d371)), (SV.sl LV.nil)] (Op2.ty 115)));
 D 32 [(AV.one (V1.s (SV.ptr p0))), (AV.one (V1.s (SV.str [61])))] S373 fun v374 S375 =>
 scK v374 fun v377 =>
 SV.cB v377 fun y378 =>
 ifK y378
 (St.at S375 (Bk.new (St.next S372)) 7 fun y379 =>
 uncK y379 fun v380 y381 =>
 SV.cL v380 fun y388 =>
 F77_q5 D J p0 S372 S375 y388 K)
 (J 6 [(AV.one (V1.s (SV.ptr p0))), (AV.one (V1.s (SV.ptr (PV.mk (Bk.new (St.next S372)) 0))))] S375 K)
noncomputable def F77_q7 (D J : Disp) (p0 : PV) (S301 : St) (S336 : St) (y344 : (List Nat)) (x350 : Int) (K : AV → St → Prop) : Prop :=
 St.at S336 (Bk.new (St.next S301)) 2 fun y351 =>
 uncK y351 fun v352 y353 =>
 SV.cS v352 fun y358 =>
 St.at S336 (Bk.new (St.next S301)) 3 fun y359 =>
 uncK y359 fun v360 y361 =>
 SV.cI IntKind.u64 v360 fun x365 =>
 St.at S336 (Bk.new (St.next S301)) 4 fun y366 =>
 uncK y366 fun v367 y368 =>
 SV.cB v367 fun y370 =>
 let d371 : (Sum Nat Nat) := (Sum.inl 1);
 let S372 : St := (St.add S336 (AO.cells [(SV.ptr PV.nil)] Op2.sh));
 F77_q6 D J p0 S336 y344 x350 y358 x365 y370 d371 S372 K
noncomputable def F77_q8 (D J : Disp) (p0 : PV) (S301 : St) (y311 : (List Nat)) (x317 : Int) (y324 : (List Nat)) (x330 : Int) (y334 : Bool) (K : AV → St → Prop) : Prop :=
 let S335 : St := (St.add S301 (AO.cells [(SV.str []), (SV.int IntKind.i64 (0 : Int)), (SV.str []), (SV.int IntKind.u64 (0 : Int)), (SV.bool Bool.false)] (Op2.ty 48)));
 St.wr S335 (Bk.new (St.next S301)) 0 [(SV.str y311), (SV.int IntKind.i64 x317), (SV.str y324), (SV.int IntKind.u64 x330), (SV.bool y334)] fun S336 =>
 St.at S336 (Bk.new (St.next S301)) 0 fun y337 =>
 uncK y337 fun v338 y339 =>
 SV.cS v338 fun y344 =>
 uncK y339 fun v345 y346 =>
 SV.cI IntKind.i64 v345 fun x350 =>
 F77_q7 D J p0 S301 S336 y344 x350 K
noncomputable def F77_q9 (D J : Disp) (S : St) (p0 : PV) (K : AV → St → Prop) : Prop :=
 D 31 [(AV.one (V1.s (SV.ptr p0))), (AV.one (V1.s (SV.bool Bool.true)))] S fun v300 S301 =>
 avA v300 fun y304 =>
 req (Nat.beq (List.length y304) 5) <|
 uncK y304 fun v305 y306 =>
 SV.cS v305 fun y311 =>
 uncK y306 fun v312 y313 =>
 SV.cI IntKind.i64 v312 fun x317 =>
 uncK y313 fun v318 y319 =>
 SV.cS v318 fun y324 =>
 uncK y319 fun v325 y326 =>
 SV.cI IntKind.u64 v325 fun x330 =>
 uncK y326 fun v331 y332 =>
 SV.cB v331 fun y334 =>
 F77_q8 D J p0 S301 y311 x317 y324 x330 y334 K
noncomputable def F77_0 (D J : Disp) (p0 : PV) (S : St) (K : AV → St → Prop) : Prop :=
 F77_q9 D J S p0 K
noncomputable def X77_0 : X := (.op (.op (.op (.op (.br (.op (.jmp 6 [0, 4])) (.jmp 6 [0, 4]))))))
theorem F77_0_eq (D J : Disp) (p0 : PV) (S : St) (K : AV → St → Prop) : F77_0 D J p0 S K = execK SynP SynG Go.Proofs.Tryz.f77 (typed SynP D) J plans77 X77_0 (T77 0).1 (envOf (T77 0).2 [(AV.one (V1.s (SV.ptr p0)))]) S K := by kernel_rfl
noncomputable def F77_6 (D J : Disp) (p0 : PV) (p4 : PV) (S : St) (K : AV → St → Prop) : Prop :=
 D 29 [(AV.one (V1.s (SV.ptr p0))), (AV.one (V1.s (SV.str [59])))] S fun v300 S301 =>
 avT v300 fun y303 =>
 endL y303 (K ((AV.one (V1.s (SV.ptr p4)))) S301)
noncomputable def X77_6 : X := (.op (.op .ret))
theorem F77_6_eq (D J : Disp) (p0 : PV) (p4 : PV) (S : St) (K : AV → St → Prop) : F77_6 D J p0 p4 S K = execK SynP SynG Go.Proofs.Tryz.f77 (typed SynP D) J plans77 X77_6 (T77 6).1 (envOf (T77 6).2 [(AV.one (V1.s (SV.ptr p0))), (AV.one (V1.s (SV.ptr p4)))]) S K := by kernel_rfl
noncomputable abbrev A77_0 (D J : Disp) (vals : List AV) (S : St) (K : AV → St → Prop) : Prop :=
  uncA vals fun a9001 r9002 => scK a9001 fun s9004 => SV.cP s9004 fun p0 => endL r9002 <| F77_0 D J p0 S K
theorem A77_0_ok {D J : Disp} (hD : DOK SynP SynG D) (hJ : JOK SynP SynG Go.Proofs.Tryz.f77 T77 J) {vals : List AV} {S : St} {K : AV → St → Prop} (h0 : A77_0 D J vals S K) : Runs SynP SynG Go.Proofs.Tryz.f77 (T77 0).1 (envOf (T77 0).2 vals) S K := by
  obtain ⟨a9001, r9002, rfl, h3⟩ := uncA_some h0
  obtain ⟨s9004, rfl, h5⟩ := scK_some h3
  obtain ⟨p0, rfl, h6⟩ := cP_some h5
  obtain ⟨rfl, h7⟩ := endL_some h6
  rw [F77_0_eq] at h7
  exact execK_runs hD.typed Syn_zero Syn_mixed hJ X77_0 (T77 0).1 (envOf (T77 0).2 _) S K (chk_of (by kernel_rfl) (by kernel_rfl)) h7
noncomputable abbrev A77_6 (D J : Disp) (vals : List AV) (S : St) (K : AV → St → Prop) : Prop :=
  uncA vals fun a9001 r9002 => scK a9001 fun s9004 => SV.cP s9004 fun p0 => uncA r9002 fun a9007 r9008 => scK a9007 fun s9010 => SV.cP s9010 fun p4 => endL r9008 <| F77_6 D J p0 p4 S K
theorem A77_6_ok {D J : Disp} (hD : DOK SynP SynG D) (hJ : JOK SynP SynG Go.Proofs.Tryz.f77 T77 J) {vals : List AV} {S : St} {K : AV → St → Prop} (h0 : A77_6 D J vals S K) : Runs SynP SynG Go.Proofs.Tryz.f77 (T77 6).1 (envOf (T77 6).2 vals) S K := by
  obtain ⟨a9001, r9002, rfl, h3⟩ := uncA_some h0
  obtain ⟨s9004, rfl, h5⟩ := scK_some h3
  obtain ⟨p0, rfl, h6⟩ := cP_some h5
  obtain ⟨a9007, r9008, rfl, h9⟩ := uncA_some h6
  obtain ⟨s9010, rfl, h11⟩ := scK_some h9
  obtain ⟨p4, rfl, h12⟩ := cP_some h11
  obtain ⟨rfl, h13⟩ := endL_some h12
  rw [F77_6_eq] at h13
  exact execK_runs hD.typed Syn_zero Syn_mixed hJ X77_6 (T77 6).1 (envOf (T77 6).2 _) S K (chk_of (by kernel_rfl) (by kernel_rfl)) h13
noncomputable def J77 (D : Disp) (k : Nat) : Disp := Nat.rec (motive := fun _ => Disp) Disp.no (fun _ ih => Disp.add 0 (A77_0 D ih) <| Disp.add 6 (A77_6 D ih) <| Disp.no) k
theorem J77_ok {D : Disp} (hD : DOK SynP SynG D) : ∀ k, JOK SynP SynG Go.Proofs.Tryz.f77 T77 (J77 D k)
  | 0 => JOK.no
  | k + 1 => JOK.add (ltB_ok (by kernel_rfl)) (fun vals S K h => A77_0_ok hD (J77_ok hD k) h) <| JOK.add (ltB_ok (by kernel_rfl)) (fun vals S K h => A77_6_ok hD (J77_ok hD k) h) <| JOK.no
theorem E77_ok {D : Disp} (hD : DOK SynP SynG D) (k : Nat) {args : List AV} {S : St} {K : AV → St → Prop} (h : A77_0 D (J77 D k) args S K) : CallE SynP SynG 77 args S K := by
  have hr := A77_0_ok hD (J77_ok hD k) h
  have hl : args.length = 1 := by
    have h0 := h
    obtain ⟨a9001, r9002, rfl, h3⟩ := uncA_some h0
    obtain ⟨s9004, rfl, h5⟩ := scK_some h3
    obtain ⟨p0, rfl, h6⟩ := cP_some h5
    obtain ⟨rfl, h7⟩ := endL_some h6
    rfl
  refine callOK_of (fn := Go.Proofs.Tryz.f77) (c := (match Go.Proofs.Tryz.f77.body with | some c => c | none => .skip)) (by kernel_rfl) (by kernel_rfl) (by kernel_rfl) (by rw [hl]; kernel_rfl) (by kernel_rfl) ?_
  rw [hl]
  exact hr
noncomputable def plans78 (i : Nat) : Plan := []
noncomputable def T78 (p : Nat) : List Item × List Nat := bif Nat.beq p 0 then ([.code (match Go.Proofs.Tryz.f78.body with | some c => c | none => .skip)], [0]) else
  ([], [])
noncomputable def F78_0 (D J : Disp) (p0 : PV) (S : St) (K : AV → St → Prop) : Prop :=
 D 29 [(AV.one (V1.s (SV.ptr p0))), (AV.one (V1.s (SV.str [40])))] S fun v300 S301 =>
 avT v300 fun y303 =>
 endL y303 (D 63 [(AV.one (V1.s (SV.ptr p0)))] S301 fun v304 S305 =>
 scK v304 fun v307 =>
 SV.cP v307 fun y312 =>
 D 29 [(AV.one (V1.s (SV.ptr p0))), (AV.one (V1.s (SV.str [41])))] S305 fun v313 S314 =>
 avT v313 fun y316 =>
 endL y316 (K ((AV.one (V1.s (SV.ptr y312)))) S314))
noncomputable def X78_0 : X := (.op (.op (.op (.op (.op .ret)))))
theorem F78_0_eq (D J : Disp) (p0 : PV) (S : St) (K : AV → St → Prop) : F78_0 D J p0 S K = execK SynP SynG Go.Proofs.Tryz.f78 (typed SynP D) J plans78 X78_0 (T78 0).1 (envOf (T78 0).2 [(AV.one (V1.s (SV.ptr p0)))]) S K := by kernel_rfl
noncomputable abbrev A78_0 (D J : Disp) (vals : List AV) (S : St) (K : AV → St → Prop) : Prop :=
  uncA vals fun a9001 r9002 => scK a9001 fun s9004 => SV.cP s9004 fun p0 => endL r9002 <| F78_0 D J p0 S K
theorem A78_0_ok {D J : Disp} (hD : DOK SynP SynG D) (hJ : JOK SynP SynG Go.Proofs.Tryz.f78 T78 J) {vals : List AV} {S : St} {K : AV → St → Prop} (h0 : A78_0 D J vals S K) : Runs SynP SynG Go.Proofs.Tryz.f78 (T78 0).1 (envOf (T78 0).2 vals) S K := by
  obtain ⟨a9001, r9002, rfl, h3⟩ := uncA_some h0
  obtain ⟨s9004, rfl, h5⟩ := scK_some h3
  obtain ⟨p0, rfl, h6⟩ := cP_some h5
  obtain ⟨rfl, h7⟩ := endL_some h6
  rw [F78_0_eq] at h7
  exact execK_runs hD.typed Syn_zero Syn_mixed hJ X78_0 (T78 0).1 (envOf (T78 0).2 _) S K (chk_of (by kernel_rfl) (by kernel_rfl)) h7
noncomputable def J78 (D : Disp) (k : Nat) : Disp := Nat.rec (motive := fun _ => Disp) Disp.no (fun _ ih => Disp.add 0 (A78_0 D ih) <| Disp.no) k
theorem J78_ok {D : Disp} (hD : DOK SynP SynG D) : ∀ k, JOK SynP SynG Go.Proofs.Tryz.f78 T78 (J78 D k)
  | 0 => JOK.no
  | k + 1 => JOK.add (ltB_ok (by kernel_rfl)) (fun vals S K h => A78_0_ok hD (J78_ok hD k) h) <| JOK.no
theorem E78_ok {D : Disp} (hD : DOK SynP SynG D) (k : Nat) {args : List AV} {S : St} {K : AV → St → Prop} (h : A78_0 D (J78 D k) args S K) : CallE SynP SynG 78 args S K := by
  have hr := A78_0_ok hD (J78_ok hD k) h
  have hl : args.length = 1 := by
    have h0 := h
    obtain ⟨a9001, r9002, rfl, h3⟩ := uncA_some h0
    obtain ⟨s9004, rfl, h5⟩ := scK_some h3
    obtain ⟨p0, rfl, h6⟩ := cP_some h5
    obtain ⟨rfl, h7⟩ := endL_some h6
    rfl
  refine callOK_of (fn := Go.Proofs.Tryz.f78) (c := (match Go.Proofs.Tryz.f78.body with | some c => c | none => .skip)) (by kernel_rfl) (by kernel_rfl) (by kernel_rfl) (by rw [hl]; kernel_rfl) (by kernel_rfl) ?_
  rw [hl]
  exact hr
noncomputable def plans79 (i : Nat) : Plan := []
noncomputable def T79 (p : Nat) : List Item × List Nat := bif Nat.beq p 0 then ([.code (match Go.Proofs.Tryz.f79.body with | some c => c | none => .skip)], [0, 1]) else
  ([], [])
noncomputable def F79_q0 (D J : Disp) (S : St) (p0 : PV) (s1 : (List Nat)) (K : AV → St → Prop) : Prop :=
 D 32 [(AV.one (V1.s (SV.ptr p0))), (AV.one (V1.s (SV.str s1)))] S fun v300 S301 =>
 scK v300 fun v303 =>
 SV.cB v303 fun y304 =>
 ifK y304
 (K ((AV.one (V1.s (SV.ptr PV.nil)))) S301)
 (D 63 [(AV.one (V1.s (SV.ptr p0)))] S301 fun v305 S306 =>
 scK v305 fun v308 =>
 SV.cP v308 fun y313 =>
 D 29 [(AV.one (V1.s (SV.ptr p0))), (AV.one (V1.s (SV.str s1)))] S306 fun v314 S315 =>
 avT v314 fun y317 =>
 endL y317 (K ((AV.one (V1.s (SV.ptr y313)))) S315))
noncomputable def F79_0 (D J : Disp) (p0 : PV) (s1 : (List Nat)) (S : St) (K : AV → St → Prop) : Prop :=
 F79_q0 D J S p0 s1 K
noncomputable def X79_0 : X := (.op (.op (.br (.op .ret) (.op (.op (.op .ret))))))
theorem F79_0_eq (D J : Disp) (p0 : PV) (s1 : (List Nat)) (S : St) (K : AV → St → Prop) : F79_0 D J p0 s1 S K = execK SynP SynG Go.Proofs.Tryz.f79 (typed SynP D) J plans79 X79_0 (T79 0).1 (envOf (T79 0).2 [(AV.one (V1.s (SV.ptr p0))), (AV.one (V1.s (SV.str s1)))]) S K := by kernel_rfl
noncomputable abbrev A79_0 (D J : Disp) (vals : List AV) (S : St) (K : AV → St → Prop) : Prop :=
  uncA vals fun a9001 r9002 => scK a9001 fun s9004 => SV.cP s9004 fun p0 => uncA r9002 fun a9007 r9008 => scK a9007 fun s9010 => SV.cS s9010 fun s1 => endL r9008 <| F79_0 D J p0 s1 S K
theorem A79_0_ok {D J : Disp} (hD : DOK SynP SynG D) (hJ : JOK SynP SynG Go.Proofs.Tryz.f79 T79 J) {vals : List AV} {S : St} {K : AV → St → Prop} (h0 : A79_0 D J vals S K) : Runs SynP SynG Go.Proofs.Tryz.f79 (T79 0).1 (envOf (T79 0).2 vals) S K := by
  obtain ⟨a9001, r9002, rfl, h3⟩ := uncA_some h0
  obtain ⟨s9004, rfl, h5⟩ := scK_some h3
  obtain ⟨p0, rfl, h6⟩ := cP_some h5
  obtain ⟨a9007, r9008, rfl, h9⟩ := uncA_some h6
  obtain ⟨s9010, rfl, h11⟩ := scK_some h9
  obtain ⟨s1, rfl, h12⟩ := cS_some h11
  obtain ⟨rfl, h13⟩ := endL_some h12
  rw [F79_0_eq] at h13
  exact execK_runs hD.typed Syn_zero Syn_mixed hJ X79_0 (T79 0).1 (envOf (T79 0).2 _) S K (chk_of (by kernel_rfl) (by kernel_rfl)) h13
noncomputable def J79 (D : Disp) (k : Nat) : Disp := Nat.rec (motive := fun _ => Disp) Disp.no (fun _ ih => Disp.add 0 (A79_0 D ih) <| Disp.no) k
theorem J79_ok {D : Disp} (hD : DOK SynP SynG D) : ∀ k, JOK SynP SynG Go.Proofs.Tryz.f79 T79 (J79 D k)
  | 0 => JOK.no
  | k + 1 => JOK.add (ltB_ok (by kernel_rfl)) (fun vals S K h => A79_0_ok hD (J79_ok hD k) h) <| JOK.no
theorem E79_ok {D : Disp} (hD : DOK SynP SynG D) (k : Nat) {args : List AV} {S : St} {K : AV → St → Prop} (h : A79_0 D (J79 D k) args S K) : CallE SynP SynG 79 args S K := by
  have hr := A79_0_ok hD (J79_ok hD k) h
  have hl : args.length = 2 := by
    have h0 := h
    obtain ⟨a9001, r9002, rfl, h3⟩ := uncA_some h0
    obtain ⟨s9004, rfl, h5⟩ := scK_some h3
    obtain ⟨p0, rfl, h6⟩ := cP_some h5
    obtain ⟨a9007, r9008, rfl, h9⟩ := uncA_some h6
    obtain ⟨s9010, rfl, h11⟩ := scK_some h9
    obtain ⟨s1, rfl, h12⟩ := cS_some h11
    obtain ⟨rfl, h13⟩ := endL_some h12
    rfl
  refine callOK_of (fn := Go.Proofs.Tryz.f79) (c := (match Go.Proofs.Tryz.f79.body with | some c => c | none => .skip)) (by kernel_rfl) (by kernel_rfl) (by kernel_rfl) (by rw [hl]; kernel_rfl) (by kernel_rfl) ?_
  rw [hl]
  exact hr
noncomputable def plans80 (i : Nat) : Plan := if Nat.beq i 3 then [(0, []), (1, []), (2, [1]), (3, [2, 1]), (4, [3, 2, 1]), (5, []), (6, [5]), (7, [6, 5]), (8, [4, 7, 6, 3, 5, 2, 1]), (9, [0, 1, 2, 3, 4, 5, 6, 7, 8]), (10, [9, 0, 1, 2, 3, 4, 5, 6, 7, 8]), (11, [10, 8, 0, 1, 2, 3, 4, 5, 6, 7, 9])] else []
noncomputable def T80 (p : Nat) : List Item × List Nat := bif Nat.beq p 0 then ([.code (match Go.Proofs.Tryz.f80.body with | some c => c | none => .skip)], [0, 1]) else
  bif Nat.beq p 2 then (navs [.op, .op] [.code (match Go.Proofs.Tryz.f80.body with | some c => c | none => .skip)], [0, 1]) else
  bif Nat.beq p 3 then (navs [.op, .op, .op] [.code (match Go.Proofs.Tryz.f80.body with | some c => c | none => .skip)], [0, 1, 14]) else
  ([], [])
noncomputable def F80_0 (D J : Disp) (p0 : PV) (p1 : PV) (S : St) (K : AV → St → Prop) : Prop :=
 D 29 [(AV.one (V1.s (SV.ptr p0))), (AV.one (V1.s (SV.str [123])))] S fun v300 S301 =>
 avT v300 fun y303 =>
 endL y303 (J 2 [(AV.one (V1.s (SV.ptr p0))), (AV.one (V1.s (SV.ptr p1)))] S301 K)
noncomputable def X80_0 : X := (.op (.op (.jmp 2 [0, 1])))
theorem F80_0_eq (D J : Disp) (p0 : PV) (p1 : PV) (S : St) (K : AV → St → Prop) : F80_0 D J p0 p1 S K = execK SynP SynG Go.Proofs.Tryz.f80 (typed SynP D) J plans80 X80_0 (T80 0).1 (envOf (T80 0).2 [(AV.one (V1.s (SV.ptr p0))), (AV.one (V1.s (SV.ptr p1)))]) S K := by kernel_rfl
noncomputable def F80_q9 (D J : Disp) (S : St) (p0 : PV) (p1 : PV) (K : AV → St → Prop) : Prop :=
 D 18 [(AV.one (V1.s (SV.ptr p0)))] S fun v300 S301 =>
 scK v300 fun v303 =>
 SV.cB v303 fun y304 =>
 ifK y304
 (D 32 [(AV.one (V1.s (SV.ptr p0))), (AV.one (V1.s (SV.str [125])))] S301 fun v305 S306 =>
 scK v305 fun v308 =>
 SV.cB v308 fun y309 =>
 let c310 : Bool := (Bool.not y309);
 J 3 [(AV.one (V1.s (SV.ptr p0))), (AV.one (V1.s (SV.ptr p1))), (AV.one (V1.s (SV.bool c310)))] S306 K)
 (J 3 [(AV.one (V1.s (SV.ptr p0))), (AV.one (V1.s (SV.ptr p1))), (AV.one (V1.s (SV.bool Bool.false)))] S301 K)
noncomputable def F80_2 (D J : Disp) (p0 : PV) (p1 : PV) (S : St) (K : AV → St → Prop) : Prop :=
 F80_q9 D J S p0 p1 K
noncomputable def X80_2 : X := (.op (.jmp 3 [0, 1, 14]))
theorem F80_2_eq (D J : Disp) (p0 : PV) (p1 : PV) (S : St) (K : AV → St → Prop) : F80_2 D J p0 p1 S K = execK SynP SynG Go.Proofs.Tryz.f80 (typed SynP D) J plans80 X80_2 (T80 2).1 (envOf (T80 2).2 [(AV.one (V1.s (SV.ptr p0))), (AV.one (V1.s (SV.ptr p1)))]) S K := by kernel_rfl
noncomputable def F80_q10 (D J : Disp) (p0 : PV) (p1 : PV) (S306 : St) (S342 : St) (y357 : LV) (K : AV → St → Prop) : Prop :=
 let d358 : (Sum Nat Nat) := (Sum.inl 1);
 let S359 : St := (St.add S342 (AO.cells [(SV.ptr (PV.mk (Bk.new (St.next S306)) 0))] Op2.sh));
 St.src S359 1 (LV.mk (Bk.new (St.next S342)) 0 1 d358) fun y360 n361 =>
 St.app S359 50 1 8 y357 y360 n361 fun y362 S363 =>
 PV.cs p1 fun b364 n365 =>
 let n366 : Nat := (n365 + 8);
 St.wr S363 b364 n366 [(SV.sl y362)] fun S367 =>
 J 2 [(AV.one (V1.s (SV.ptr p0))), (AV.one (V1.s (SV.ptr p1)))] S367 K
noncomputable def F80_q11 (D J : Disp) (p0 : PV) (p1 : PV) (S306 : St) (S310 : St) (K : AV → St → Prop) : Prop :=
 D 92 [(AV.one (V1.s (SV.ptr p0)))] S310 fun v311 S312 =>
 avT v311 fun y314 =>
 uncV y314 fun v315 y316 =>
 v1A v315 fun y319 =>
 req (Nat.beq (List.length y319) 2) <|
 uncK y319 fun v320 y321 =>
 SV.cS v320 fun y326 =>
 uncK y321 fun v327 y328 =>
 SV.cI IntKind.i64 v327 fun x332 =>
 uncV y316 fun v333 y334 =>
 v1S v333 fun v336 =>
 SV.cI IntKind.u64 v336 fun x339 =>
 endL y334 (St.wr S312 (Bk.new (St.next S306)) 4 [(SV.int IntKind.u64 x339)] fun S340 =>
 D 29 [(AV.one (V1.s (SV.ptr p0))), (AV.one (V1.s (SV.str [58])))] S340 fun v341 S342 =>
 avT v341 fun y344 =>
 endL y344 (PV.cs p1 fun b345 n346 =>
 let n347 : Nat := (n346 + 8);
 St.at S342 b345 n347 fun y348 =>
 uncK y348 fun v349 y350 =>
 SV.cL v349 fun y357 =>
 F80_q10 D J p0 p1 S306 S342 y357 K))
noncomputable def F80_q12 (D J : Disp) (p0 : PV) (p1 : PV) (S301 : St) (K : AV → St → Prop) : Prop :=
 D 32 [(AV.one (V1.s (SV.ptr p0))), (AV.one (V1.s (SV.str [45])))] S301 fun v305 S306 =>
 scK v305 fun v308 =>
 SV.cB v308 fun y309 =>
 let S310 : St := (St.add S306 (AO.cells [(SV.str [99, 97, 115, 101]), (SV.str []), (SV.str []), (SV.int IntKind.i64 (0 : Int)), (SV.int IntKind.u64 (0 : Int)), (SV.bool Bool.false), (SV.bool y309), (SV.sl LV.nil), (SV.sl LV.nil)] (Op2.ty 115)));
 F80_q11 D J p0 p1 S306 S310 K
noncomputable def F80_q13 (D J : Disp) (p0 : PV) (p1 : PV) (S406 : St) (y421 : LV) (S422 : St) (K : AV → St → Prop) : Prop :=
 let d423 : (Sum Nat Nat) := (Sum.inl 1);
 let S424 : St := (St.add S422 (AO.cells [(SV.ptr (PV.mk (Bk.new (St.next S406)) 0))] Op2.sh));
 St.src S424 1 (LV.mk (Bk.new (St.next S422)) 0 1 d423) fun y425 n426 =>
 St.app S424 50 1 8 y421 y425 n426 fun y427 S428 =>
 PV.cs p1 fun b429 n430 =>
 let n431 : Nat := (n430 + 8);
 St.wr S428 b429 n431 [(SV.sl y427)] fun S432 =>
 J 2 [(AV.one (V1.s (SV.ptr p0))), (AV.one (V1.s (SV.ptr p1)))] S432 K
noncomputable def F80_q14 (D J : Disp) (p0 : PV) (p1 : PV) (S406 : St) (K : AV → St → Prop) : Prop :=
 PV.cs p1 fun b409 n410 =>
 let n411 : Nat := (n410 + 8);
 St.at S406 b409 n411 fun y412 =>
 uncK y412 fun v413 y414 =>
 SV.cL v413 fun y421 =>
 let S422 : St := (St.add S406 (AO.cells [(SV.str [100, 101, 102, 97, 117, 108, 116]), (SV.str []), (SV.str []), (SV.int IntKind.i64 (0 : Int)), (SV.int IntKind.u64 (0 : Int)), (SV.bool Bool.false), (SV.bool Bool.false), (SV.sl LV.nil), (SV.sl LV.nil)] (Op2.ty 115)));
 F80_q13 D J p0 p1 S406 y421 S422 K
noncomputable def F80_q15 (D J : Disp) (p0 : PV) (p1 : PV) (y450 : LV) (S452 : St) (y459 : PV) (K : AV → St → Prop) : Prop :=
 let o470 : AO := (AO.cells [(SV.ptr y459)] Op2.sh);
 let d471 : (Sum Nat Nat) := (Sum.inl 1);
 let S472 : St := (St.add S452 o470);
 St.src S472 1 (LV.mk (Bk.new (St.next S452)) 0 1 d471) fun y473 n474 =>
 St.app S472 50 1 8 y450 y473 n474 fun y475 S476 =>
 PV.cs p1 fun b477 n478 =>
 let n479 : Nat := (n478 + 8);
 St.wr S476 b477 n479 [(SV.sl y475)] fun S480 =>
 J 2 [(AV.one (V1.s (SV.ptr p0))), (AV.one (V1.s (SV.ptr p1)))] S480 K
noncomputable def F80_q16 (D J : Disp) (p0 : PV) (p1 : PV) (S401 : St) (b438 : Bk) (n439 : Nat) (K : AV → St → Prop) : Prop :=
 let n440 : Nat := (n439 + 8);
 St.at S401 b438 n440 fun y441 =>
 uncK y441 fun v442 y443 =>
 SV.cL v442 fun y450 =>
 D 61 [(AV.one (V1.s (SV.ptr p0)))] S401 fun v451 S452 =>
 scK v451 fun v454 =>
 SV.cP v454 fun y459 =>
 St.at S452 b438 n440 fun y460 =>
 uncK y460 fun v461 y462 =>
 SV.cL v461 fun y469 =>
 req (sameAV (AV.one (V1.s (SV.sl y469))) (AV.one (V1.s (SV.sl y450)))) <|
 F80_q15 D J p0 p1 y450 S452 y459 K
noncomputable def F80_q17 (D J : Disp) (p0 : PV) (p1 : PV) (S301 : St) (y304 : Bool) (K : AV → St → Prop) : Prop :=
 ifK y304
 (F80_q12 D J p0 p1 S301 K)
 (D 32 [(AV.one (V1.s (SV.ptr p0))), (AV.one (V1.s (SV.str [100, 101, 102, 97, 117, 108, 116])))] S301 fun v400 S401 =>
 scK v400 fun v403 =>
 SV.cB v403 fun y404 =>
 ifK y404
 (D 29 [(AV.one (V1.s (SV.ptr p0))), (AV.one (V1.s (SV.str [58])))] S401 fun v405 S406 =>
 avT v405 fun y408 =>
 endL y408 (F80_q14 D J p0 p1 S406 K))
 (PV.cs p1 fun b438 n439 =>
 F80_q16 D J p0 p1 S401 b438 n439 K))
noncomputable def F80_3 (D J : Disp) (p0 : PV) (p1 : PV) (c14 : Bool) (S : St) (K : AV → St → Prop) : Prop :=
 ifK c14
 (D 32 [(AV.one (V1.s (SV.ptr p0))), (AV.one (V1.s (SV.str [99, 97, 115, 101])))] S fun v300 S301 =>
 scK v300 fun v303 =>
 SV.cB v303 fun y304 =>
 F80_q17 D J p0 p1 S301 y304 K)
 (K ((AV.one (V1.s (SV.ptr p1)))) S)
noncomputable def X80_3 : X := (.br (.op (.br (.op (.op (.op (.op (.jmp 2 [0, 1]))))) (.op (.br (.op (.op (.jmp 2 [0, 1]))) (.op (.jmp 2 [0, 1])))))) (.op .ret))
theorem F80_3_eq (D J : Disp) (p0 : PV) (p1 : PV) (c14 : Bool) (S : St) (K : AV → St → Prop) : F80_3 D J p0 p1 c14 S K = execK SynP SynG Go.Proofs.Tryz.f80 (typed SynP D) J plans80 X80_3 (T80 3).1 (envOf (T80 3).2 [(AV.one (V1.s (SV.ptr p0))), (AV.one (V1.s (SV.ptr p1))), (AV.one (V1.s (SV.bool c14)))]) S K := by kernel_rfl
noncomputable abbrev A80_0 (D J : Disp) (vals : List AV) (S : St) (K : AV → St → Prop) : Prop :=
  uncA vals fun a9001 r9002 => scK a9001 fun s9004 => SV.cP s9004 fun p0 => uncA r9002 fun a9007 r9008 => scK a9007 fun s9010 => SV.cP s9010 fun p1 => endL r9008 <| F80_0 D J p0 p1 S K
theorem A80_0_ok {D J : Disp} (hD : DOK SynP SynG D) (hJ : JOK SynP SynG Go.Proofs.Tryz.f80 T80 J) {vals : List AV} {S : St} {K : AV → St → Prop} (h0 : A80_0 D J vals S K) : Runs SynP SynG Go.Proofs.Tryz.f80 (T80 0).1 (envOf (T80 0).2 vals) S K := by
  obtain ⟨a9001, r9002, rfl, h3⟩ := uncA_some h0
  obtain ⟨s9004, rfl, h5⟩ := scK_some h3
  obtain ⟨p0, rfl, h6⟩ := cP_some h5
  obtain ⟨a9007, r9008, rfl, h9⟩ := uncA_some h6
  obtain ⟨s9010, rfl, h11⟩ := scK_some h9
  obtain ⟨p1, rfl, h12⟩ := cP_some h11
  obtain ⟨rfl, h13⟩ := endL_some h12
  rw [F80_0_eq] at h13
  exact execK_runs hD.typed Syn_zero Syn_mixed hJ X80_0 (T80 0).1 (envOf (T80 0).2 _) S K (chk_of (by kernel_rfl) (by kernel_rfl)) h13
noncomputable abbrev A80_2 (D J : Disp) (vals : List AV) (S : St) (K : AV → St → Prop) : Prop :=
  uncA vals fun a9001 r9002 => scK a9001 fun s9004 => SV.cP s9004 fun p0 => uncA r9002 fun a9007 r9008 => scK a9007 fun s9010 => SV.cP s9010 fun p1 => endL r9008 <| F80_2 D J p0 p1 S K
theorem A80_2_ok {D J : Disp} (hD : DOK SynP SynG D) (hJ : JOK SynP SynG Go.Proofs.Tryz.f80 T80 J) {vals : List AV} {S : St} {K : AV → St → Prop} (h0 : A80_2 D J vals S K) : Runs SynP SynG Go.Proofs.Tryz.f80 (T80 2).1 (envOf (T80 2).2 vals) S K := by
  obtain ⟨a9001, r9002, rfl, h3⟩ := uncA_some h0
  obtain ⟨s9004, rfl, h5⟩ := scK_some h3
  obtain ⟨p0, rfl, h6⟩ := cP_some h5
  obtain ⟨a9007, r9008, rfl, h9⟩ := uncA_some h6
  obtain ⟨s9010, rfl, h11⟩ := scK_some h9
  obtain ⟨p1, rfl, h12⟩ := cP_some h11
  obtain ⟨rfl, h13⟩ := endL_some h12
  rw [F80_2_eq] at h13
  exact execK_runs hD.typed Syn_zero Syn_mixed hJ X80_2 (T80 2).1 (envOf (T80 2).2 _) S K (chk_of (by kernel_rfl) (by kernel_rfl)) h13
noncomputable abbrev A80_3 (D J : Disp) (vals : List AV) (S : St) (K : AV → St → Prop) : Prop :=
  uncA vals fun a9001 r9002 => scK a9001 fun s9004 => SV.cP s9004 fun p0 => uncA r9002 fun a9007 r9008 => scK a9007 fun s9010 => SV.cP s9010 fun p1 => uncA r9008 fun a9013 r9014 => scK a9013 fun s9016 => SV.cB s9016 fun c14 => endL r9014 <| F80_3 D J p0 p1 c14 S K
theorem A80_3_ok {D J : Disp} (hD : DOK SynP SynG D) (hJ : JOK SynP SynG Go.Proofs.Tryz.f80 T80 J) {vals : List AV} {S : St} {K : AV → St → Prop} (h0 : A80_3 D J vals S K) : Runs SynP SynG Go.Proofs.Tryz.f80 (T80 3).1 (envOf (T80 3).2 vals) S K := by
  obtain ⟨a9001, r9002, rfl, h3⟩ := uncA_some h0
  obtain ⟨s9004, rfl, h5⟩ := scK_some h3
  obtain ⟨p0, rfl, h6⟩ := cP_some h5
  obtain ⟨a9007, r9008, rfl, h9⟩ := uncA_some h6
  obtain ⟨s9010, rfl, h11⟩ := scK_some h9
  obtain ⟨p1, rfl, h12⟩ := cP_some h11
  obtain ⟨a9013, r9014, rfl, h15⟩ := uncA_some h12
  obtain ⟨s9016, rfl, h17⟩ := scK_some h15
  obtain ⟨c14, rfl, h18⟩ := cB_some h17
  obtain ⟨rfl, h19⟩ := endL_some h18
  rw [F80_3_eq] at h19
  exact execK_runs hD.typed Syn_zero Syn_mixed hJ X80_3 (T80 3).1 (envOf (T80 3).2 _) S K (chk_of (by kernel_rfl) (by kernel_rfl)) h19
noncomputable def J80 (D : Disp) (k : Nat) : Disp := Nat.rec (motive := fun _ => Disp) Disp.no (fun _ ih => Disp.add 0 (A80_0 D ih) <| Disp.add 2 (A80_2 D ih) <| Disp.add 3 (A80_3 D ih) <| Disp.no) k
theorem J80_ok {D : Disp} (hD : DOK SynP SynG D) : ∀ k, JOK SynP SynG Go.Proofs.Tryz.f80 T80 (J80 D k)
  | 0 => JOK.no
  | k + 1 => JOK.add (ltB_ok (by kernel_rfl)) (fun vals S K h => A80_0_ok hD (J80_ok hD k) h) <| JOK.add (ltB_ok (by kernel_rfl)) (fun vals S K h => A80_2_ok hD (J80_ok hD k) h) <| JOK.add (ltB_ok (by kernel_rfl)) (fun vals S K h => A80_3_ok hD (J80_ok hD k) h) <| JOK.no
theorem E80_ok {D : Disp} (hD : DOK SynP SynG D) (k : Nat) {args : List AV} {S : St} {K : AV → St → Prop} (h : A80_0 D (J80 D k) args S K) : CallE SynP SynG 80 args S K := by
  have hr := A80_0_ok hD (J80_ok hD k) h
  have hl : args.length = 2 := by
    have h0 := h
    obtain ⟨a9001, r9002, rfl, h3⟩ := uncA_some h0
    obtain ⟨s9004, rfl, h5⟩ := scK_some h3
    obtain ⟨p0, rfl, h6⟩ := cP_some h5
    obtain ⟨a9007, r9008, rfl, h9⟩ := uncA_some h6
    obtain ⟨s9010, rfl, h11⟩ := scK_some h9
    obtain ⟨p1, rfl, h12⟩ := cP_some h11
    obtain ⟨rfl, h13⟩ := endL_some h12
    rfl
  refine callOK_of (fn := Go.Proofs.Tryz.f80) (c := (match Go.Proofs.Tryz.f80.body with | some c => c | none => .skip)) (by kernel_rfl) (by kernel_rfl) (by kernel_rfl) (by rw [hl]; kernel_rfl) (by kernel_rfl) ?_
  rw [hl]
  exact hr
end
end Go.Xe
