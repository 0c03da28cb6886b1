import Derived.Test.YtjifjbdlenmciaaGreatDoorXF0
import Derived.KernelRfl
set_option linter.unusedVariables false
set_option linter.unusedSimpArgs false
set_option linter.constructorNameAsVariable false
set_option linter.unusedVariables false
set_option maxRecDepth 100000
namespace Go.Xe
open Go.RowKit
noncomputable section
noncomputable def plans81 (i : Nat) : Plan := if Nat.beq i 11 then [(0, []), (1, []), (2, [1]), (3, [2, 1]), (4, [0, 3, 2, 1]), (5, [4, 0, 3, 2, 1]), (6, [5, 2, 0, 1, 3, 4])] else []
noncomputable def T81 (p : Nat) : List Item × List Nat := bif Nat.beq p 0 then ([.code (match Go.Proofs.Tryz.f81.body with | some c => c | none => .skip)], [0]) else
  bif Nat.beq p 2 then (navs [.op, .op] [.code (match Go.Proofs.Tryz.f81.body with | some c => c | none => .skip)], [0, 7, 8, 9]) else
  bif Nat.beq p 11 then (navs [.op, .op, .op, .el, .op] [.code (match Go.Proofs.Tryz.f81.body with | some c => c | none => .skip)], [0, 23]) else
  ([], [])
noncomputable def F81_q12 (D J : Disp) (S : St) (p0 : PV) (K : AV → St → Prop) : Prop :=
 let d300 : (Sum Nat Nat) := (Sum.inl 5);
 let S301 : St := (St.add S (AO.cells [(SV.str [45]), (SV.str [126]), (SV.str [33]), (SV.str [38]), (SV.str [42])] Op2.sh));
 let x302 : Int := (Int.ofNat (LV.len (LV.mk (Bk.new (St.next S)) 0 5 d300)));
 J 2 [(AV.one (V1.s (SV.ptr p0))), (AV.one (V1.s (SV.sl (LV.mk (Bk.new (St.next S)) 0 5 d300)))), (AV.one (V1.s (SV.int IntKind.i64 x302))), (AV.one (V1.s (SV.int IntKind.i64 (0 : Int))))] S301 K
noncomputable def F81_0 (D J : Disp) (p0 : PV) (S : St) (K : AV → St → Prop) : Prop :=
 F81_q12 D J S p0 K
noncomputable def X81_0 : X := (.op (.op (.jmp 2 [0, 7, 8, 9])))
theorem F81_0_eq (D J : Disp) (p0 : PV) (S : St) (K : AV → St → Prop) : F81_0 D J p0 S K = execK SynP SynG Go.Proofs.Tryz.f81 (typed SynP D) J plans81 X81_0 (T81 0).1 (envOf (T81 0).2 [(AV.one (V1.s (SV.ptr p0)))]) S K := by kernel_rfl
noncomputable def F81_q13 (D J : Disp) (p0 : PV) (y313 : (List Nat)) (S315 : St) (K : AV → St → Prop) : Prop :=
 D 81 [(AV.one (V1.s (SV.ptr p0)))] S315 fun v319 S320 =>
 scK v319 fun v322 =>
 SV.cP v322 fun y327 =>
 let d328 : (Sum Nat Nat) := (Sum.inl 1);
 let S329 : St := (St.add S320 (AO.cells [(SV.ptr y327)] Op2.sh));
 let S330 : St := (St.add S329 (AO.cells [(SV.str [117, 110]), (SV.str y313), (SV.str []), (SV.int IntKind.i64 (0 : Int)), (SV.int IntKind.u64 (0 : Int)), (SV.bool Bool.false), (SV.sl (LV.mk (Bk.new (St.next S320)) 0 1 d328))] (Op2.ty 118)));
 K ((AV.one (V1.s (SV.ptr (PV.mk (Bk.new (St.next S329)) 0))))) S330
noncomputable def F81_q14 (D J : Disp) (S : St) (p0 : PV) (l7 : LV) (x8 : Int) (x9 : Int) (b301 : Bk) (n305 : Nat) (K : AV → St → Prop) : Prop :=
 St.at S b301 n305 fun y306 =>
 uncK y306 fun v307 y308 =>
 SV.cS v307 fun y313 =>
 D 32 [(AV.one (V1.s (SV.ptr p0))), (AV.one (V1.s (SV.str y313)))] S fun v314 S315 =>
 scK v314 fun v317 =>
 SV.cB v317 fun y318 =>
 ifK y318
 (F81_q13 D J p0 y313 S315 K)
 (let x336 : Int := (iwrap IntKind.i64 (x9 + (1 : Int)));
 J 2 [(AV.one (V1.s (SV.ptr p0))), (AV.one (V1.s (SV.sl l7))), (AV.one (V1.s (SV.int IntKind.i64 x8))), (AV.one (V1.s (SV.int IntKind.i64 x336)))] S315 K)
noncomputable def F81_q15 (D J : Disp) (p0 : PV) (S397 : St) (K : AV → St → Prop) : Prop :=
 D 28 [(AV.one (V1.s (SV.ptr p0))), (AV.one (V1.s (SV.int IntKind.i64 (1 : Int))))] S397 fun v401 S402 =>
 avA v401 fun y405 =>
 req (Nat.beq (List.length y405) 6) <|
 uncK y405 fun v406 y407 =>
 SV.cI IntKind.i64 v406 fun x411 =>
 uncK y407 fun v412 y413 =>
 SV.cI IntKind.i64 v412 fun x417 =>
 uncK y413 fun v418 y419 =>
 SV.cS v418 fun y424 =>
 uncK y419 fun v425 y426 =>
 SV.cS v425 fun y431 =>
 uncK y426 fun v432 y433 =>
 SV.cI IntKind.u64 v432 fun x437 =>
 uncK y433 fun v438 y439 =>
 SV.cB v438 fun y441 =>
 D 60 [(AV.one (V1.s (SV.ptr p0))), (AV.one (V1.agg [(SV.int IntKind.i64 x411), (SV.int IntKind.i64 x417), (SV.str y424), (SV.str y431), (SV.int IntKind.u64 x437), (SV.bool y441)]))] S402 fun v442 S443 =>
 scK v442 fun v445 =>
 SV.cB v445 fun y446 =>
 J 11 [(AV.one (V1.s (SV.ptr p0))), (AV.one (V1.s (SV.bool y446)))] S443 K
noncomputable def F81_q16 (D J : Disp) (p0 : PV) (S351 : St) (K : AV → St → Prop) : Prop :=
 D 26 [(AV.one (V1.s (SV.ptr p0)))] S351 fun v355 S356 =>
 avA v355 fun y359 =>
 req (Nat.beq (List.length y359) 6) <|
 uncK y359 fun v360 y361 =>
 SV.cI IntKind.i64 v360 fun x365 =>
 uncK y361 fun v366 y367 =>
 SV.cI IntKind.i64 v366 fun x371 =>
 uncK y367 fun v372 y373 =>
 SV.cS v372 fun y378 =>
 uncK y373 fun v379 y380 =>
 SV.cS v379 fun y385 =>
 uncK y380 fun v386 y387 =>
 SV.cI IntKind.u64 v386 fun x391 =>
 uncK y387 fun v392 y393 =>
 SV.cB v392 fun y395 =>
 D 27 [(AV.one (V1.agg [(SV.int IntKind.i64 x365), (SV.int IntKind.i64 x371), (SV.str y378), (SV.str y385), (SV.int IntKind.u64 x391), (SV.bool y395)])), (AV.one (V1.s (SV.str [40])))] S356 fun v396 S397 =>
 scK v396 fun v399 =>
 SV.cB v399 fun y400 =>
 ifK y400
 (F81_q15 D J p0 S397 K)
 (J 11 [(AV.one (V1.s (SV.ptr p0))), (AV.one (V1.s (SV.bool Bool.false)))] S397 K)
noncomputable def F81_q17 (D J : Disp) (S : St) (p0 : PV) (l7 : LV) (x8 : Int) (x9 : Int) (c300 : Bool) (K : AV → St → Prop) : Prop :=
 ifK c300
 (LV.cs l7 fun b301 n302 n303 y304 =>
 req (Bool.and (ile (0 : Int) x9) (ilt x9 (Int.ofNat n303))) <|
 let n305 : Nat := (n302 + ((Int.toNat x9) * 1));
 F81_q14 D J S p0 l7 x8 x9 b301 n305 K)
 (D 18 [(AV.one (V1.s (SV.ptr p0)))] S fun v350 S351 =>
 scK v350 fun v353 =>
 SV.cB v353 fun y354 =>
 ifK y354
 (F81_q16 D J p0 S351 K)
 (J 11 [(AV.one (V1.s (SV.ptr p0))), (AV.one (V1.s (SV.bool Bool.false)))] S351 K))
noncomputable def F81_2 (D J : Disp) (p0 : PV) (l7 : LV) (x8 : Int) (x9 : Int) (S : St) (K : AV → St → Prop) : Prop :=
 let c300 : Bool := (ilt x9 x8);
 F81_q17 D J S p0 l7 x8 x9 c300 K
noncomputable def X81_2 : X := (.op (.br (.op (.op (.br (.op .ret) (.op (.jmp 2 [0, 7, 8, 9]))))) (.op (.jmp 11 [0, 23]))))
theorem F81_2_eq (D J : Disp) (p0 : PV) (l7 : LV) (x8 : Int) (x9 : Int) (S : St) (K : AV → St → Prop) : F81_2 D J p0 l7 x8 x9 S K = execK SynP SynG Go.Proofs.Tryz.f81 (typed SynP D) J plans81 X81_2 (T81 2).1 (envOf (T81 2).2 [(AV.one (V1.s (SV.ptr p0))), (AV.one (V1.s (SV.sl l7))), (AV.one (V1.s (SV.int IntKind.i64 x8))), (AV.one (V1.s (SV.int IntKind.i64 x9)))]) S K := by kernel_rfl
noncomputable def F81_q18 (D J : Disp) (y335 : (List Nat)) (x341 : Int) (S343 : St) (o365 : AO) (d366 : (Sum Nat Nat)) (K : AV → St → Prop) : Prop :=
 let o367 : AO := (AO.cells [(SV.str [99, 97, 115, 116]), (SV.str []), (SV.str y335), (SV.int IntKind.i64 x341), (SV.int IntKind.u64 (0 : Int)), (SV.bool Bool.false), (SV.sl (LV.mk (Bk.new (St.next S343)) 0 1 d366))] (Op2.ty 118));
 let n368 : Nat := (Nat.succ (St.next S343));
 let n369 : Nat := (Nat.succ (St.next S343));
 let S370 : St := (St.add (St.add S343 o365) o367);
 K ((AV.one (V1.s (SV.ptr (PV.mk (Bk.new n369) 0))))) S370
noncomputable def F81_q19 (D J : Disp) (p0 : PV) (S305 : St) (S325 : St) (y335 : (List Nat)) (x341 : Int) (K : AV → St → Prop) : Prop :=
 D 81 [(AV.one (V1.s (SV.ptr p0)))] S325 fun v342 S343 =>
 scK v342 fun v345 =>
 SV.cP v345 fun y350 =>
 St.at S343 (Bk.new (St.next S305)) 0 fun y351 =>
 uncK y351 fun v352 y353 =>
 SV.cS v352 fun y358 =>
 uncK y353 fun v359 y360 =>
 SV.cI IntKind.i64 v359 fun x364 =>
 req (sameAV (AV.one (V1.agg [(SV.str y358), (SV.int IntKind.i64 x364)])) (AV.one (V1.agg [(SV.str y335), (SV.int IntKind.i64 x341)]))) <|
 let o365 : AO := (AO.cells [(SV.ptr y350)] Op2.sh);
 let d366 : (Sum Nat Nat) := (Sum.inl 1);
 F81_q18 D J y335 x341 S343 o365 d366 K
noncomputable def F81_q20 (D J : Disp) (p0 : PV) (S305 : St) (y315 : (List Nat)) (x321 : Int) (K : AV → St → Prop) : Prop :=
 let S322 : St := (St.add S305 (AO.cells [(SV.str []), (SV.int IntKind.i64 (0 : Int))] (Op2.ty 45)));
 St.wr S322 (Bk.new (St.next S305)) 0 [(SV.str y315), (SV.int IntKind.i64 x321)] fun S323 =>
 D 29 [(AV.one (V1.s (SV.ptr p0))), (AV.one (V1.s (SV.str [41])))] S323 fun v324 S325 =>
 avT v324 fun y327 =>
 endL y327 (St.at S325 (Bk.new (St.next S305)) 0 fun y328 =>
 uncK y328 fun v329 y330 =>
 SV.cS v329 fun y335 =>
 uncK y330 fun v336 y337 =>
 SV.cI IntKind.i64 v336 fun x341 =>
 F81_q19 D J p0 S305 S325 y335 x341 K)
noncomputable def F81_q21 (D J : Disp) (p0 : PV) (S411 : St) (S438 : St) (K : AV → St → Prop) : Prop :=
 D 38 [(AV.one (V1.s (SV.ptr p0)))] S438 fun v439 S440 =>
 avT v439 fun y442 =>
 uncV y442 fun v443 y444 =>
 v1S v443 fun v446 =>
 SV.cI IntKind.u64 v446 fun x449 =>
 uncV y444 fun v450 y451 =>
 v1S v450 fun v453 =>
 SV.cB v453 fun y454 =>
 endL y451 (St.wr S440 (Bk.new (St.next S411)) 4 [(SV.int IntKind.u64 x449)] fun S455 =>
 St.wr S455 (Bk.new (St.next S411)) 5 [(SV.bool y454)] fun S456 =>
 D 29 [(AV.one (V1.s (SV.ptr p0))), (AV.one (V1.s (SV.str [41])))] S456 fun v457 S458 =>
 avT v457 fun y460 =>
 endL y460 (K ((AV.one (V1.s (SV.ptr (PV.mk (Bk.new (St.next S411)) 0))))) S458))
noncomputable def F81_q22 (D J : Disp) (p0 : PV) (S411 : St) (S415 : St) (K : AV → St → Prop) : Prop :=
 D 29 [(AV.one (V1.s (SV.ptr p0))), (AV.one (V1.s (SV.str [40])))] S415 fun v416 S417 =>
 avT v416 fun y419 =>
 endL y419 (D 35 [(AV.one (V1.s (SV.ptr p0)))] S417 fun v420 S421 =>
 avA v420 fun y424 =>
 req (Nat.beq (List.length y424) 2) <|
 uncK y424 fun v425 y426 =>
 SV.cS v425 fun y431 =>
 uncK y426 fun v432 y433 =>
 SV.cI IntKind.i64 v432 fun x437 =>
 St.wr S421 (Bk.new (St.next S411)) 2 [(SV.str y431), (SV.int IntKind.i64 x437)] fun S438 =>
 F81_q21 D J p0 S411 S438 K)
noncomputable def F81_q23 (D J : Disp) (S : St) (p0 : PV) (K : AV → St → Prop) : Prop :=
 D 32 [(AV.one (V1.s (SV.ptr p0))), (AV.one (V1.s (SV.str [115, 105, 122, 101, 111, 102])))] S fun v410 S411 =>
 scK v410 fun v413 =>
 SV.cB v413 fun y414 =>
 ifK y414
 (let S415 : St := (St.add S411 (AO.cells [(SV.str [115, 105, 122, 101]), (SV.str []), (SV.str []), (SV.int IntKind.i64 (0 : Int)), (SV.int IntKind.u64 (0 : Int)), (SV.bool Bool.false), (SV.sl LV.nil)] (Op2.ty 118)));
 F81_q22 D J p0 S411 S415 K)
 (D 93 [(AV.one (V1.s (SV.ptr p0)))] S411 fun v494 S495 =>
 scK v494 fun v497 =>
 SV.cP v497 fun y502 =>
 K ((AV.one (V1.s (SV.ptr y502)))) S495)
noncomputable def F81_11 (D J : Disp) (p0 : PV) (c23 : Bool) (S : St) (K : AV → St → Prop) : Prop :=
 ifK c23
 (D 29 [(AV.one (V1.s (SV.ptr p0))), (AV.one (V1.s (SV.str [40])))] S fun v300 S301 =>
 avT v300 fun y303 =>
 endL y303 (D 35 [(AV.one (V1.s (SV.ptr p0)))] S301 fun v304 S305 =>
 avA v304 fun y308 =>
 req (Nat.beq (List.length y308) 2) <|
 uncK y308 fun v309 y310 =>
 SV.cS v309 fun y315 =>
 uncK y310 fun v316 y317 =>
 SV.cI IntKind.i64 v316 fun x321 =>
 F81_q20 D J p0 S305 y315 x321 K))
 (F81_q23 D J S p0 K)
noncomputable def X81_11 : X := (.br (.op (.op (.op (.op .ret)))) (.op (.br (.op (.op (.op (.op (.op (.op .ret)))))) (.op .ret))))
theorem F81_11_eq (D J : Disp) (p0 : PV) (c23 : Bool) (S : St) (K : AV → St → Prop) : F81_11 D J p0 c23 S K = execK SynP SynG Go.Proofs.Tryz.f81 (typed SynP D) J plans81 X81_11 (T81 11).1 (envOf (T81 11).2 [(AV.one (V1.s (SV.ptr p0))), (AV.one (V1.s (SV.bool c23)))]) S K := by kernel_rfl
noncomputable abbrev A81_0 (D J : Disp) (vals : List AV) (S : St) (K : AV → St → Prop) : Prop :=
  uncA vals fun a9001 r9002 => scK a9001 fun s9004 => SV.cP s9004 fun p0 => endL r9002 <| F81_0 D J p0 S K
theorem A81_0_ok {D J : Disp} (hD : DOK SynP SynG D) (hJ : JOK SynP SynG Go.Proofs.Tryz.f81 T81 J) {vals : List AV} {S : St} {K : AV → St → Prop} (h0 : A81_0 D J vals S K) : Runs SynP SynG Go.Proofs.Tryz.f81 (T81 0).1 (envOf (T81 0).2 vals) S K := by
  obtain ⟨a9001, r9002, rfl, h3⟩ := uncA_some h0
  obtain ⟨s9004, rfl, h5⟩ := scK_some h3
  obtain ⟨p0, rfl, h6⟩ := cP_some h5
  obtain ⟨rfl, h7⟩ := endL_some h6
  rw [F81_0_eq] at h7
  exact execK_runs hD.typed Syn_zero Syn_mixed hJ X81_0 (T81 0).1 (envOf (T81 0).2 _) S K (chk_of (by kernel_rfl) (by kernel_rfl)) h7
noncomputable abbrev A81_2 (D J : Disp) (vals : List AV) (S : St) (K : AV → St → Prop) : Prop :=
  uncA vals fun a9001 r9002 => scK a9001 fun s9004 => SV.cP s9004 fun p0 => uncA r9002 fun a9007 r9008 => scK a9007 fun s9010 => SV.cL s9010 fun l7 => uncA r9008 fun a9013 r9014 => scK a9013 fun s9016 => SV.cI IntKind.i64 s9016 fun x8 => uncA r9014 fun a9019 r9020 => scK a9019 fun s9022 => SV.cI IntKind.i64 s9022 fun x9 => endL r9020 <| F81_2 D J p0 l7 x8 x9 S K
theorem A81_2_ok {D J : Disp} (hD : DOK SynP SynG D) (hJ : JOK SynP SynG Go.Proofs.Tryz.f81 T81 J) {vals : List AV} {S : St} {K : AV → St → Prop} (h0 : A81_2 D J vals S K) : Runs SynP SynG Go.Proofs.Tryz.f81 (T81 2).1 (envOf (T81 2).2 vals) S K := by
  obtain ⟨a9001, r9002, rfl, h3⟩ := uncA_some h0
  obtain ⟨s9004, rfl, h5⟩ := scK_some h3
  obtain ⟨p0, rfl, h6⟩ := cP_some h5
  obtain ⟨a9007, r9008, rfl, h9⟩ := uncA_some h6
  obtain ⟨s9010, rfl, h11⟩ := scK_some h9
  obtain ⟨l7, rfl, h12⟩ := cL_some h11
  obtain ⟨a9013, r9014, rfl, h15⟩ := uncA_some h12
  obtain ⟨s9016, rfl, h17⟩ := scK_some h15
  obtain ⟨x8, rfl, h18⟩ := cI_some h17
  obtain ⟨a9019, r9020, rfl, h21⟩ := uncA_some h18
  obtain ⟨s9022, rfl, h23⟩ := scK_some h21
  obtain ⟨x9, rfl, h24⟩ := cI_some h23
  obtain ⟨rfl, h25⟩ := endL_some h24
  rw [F81_2_eq] at h25
  exact execK_runs hD.typed Syn_zero Syn_mixed hJ X81_2 (T81 2).1 (envOf (T81 2).2 _) S K (chk_of (by kernel_rfl) (by kernel_rfl)) h25
noncomputable abbrev A81_11 (D J : Disp) (vals : List AV) (S : St) (K : AV → St → Prop) : Prop :=
  uncA vals fun a9001 r9002 => scK a9001 fun s9004 => SV.cP s9004 fun p0 => uncA r9002 fun a9007 r9008 => scK a9007 fun s9010 => SV.cB s9010 fun c23 => endL r9008 <| F81_11 D J p0 c23 S K
theorem A81_11_ok {D J : Disp} (hD : DOK SynP SynG D) (hJ : JOK SynP SynG Go.Proofs.Tryz.f81 T81 J) {vals : List AV} {S : St} {K : AV → St → Prop} (h0 : A81_11 D J vals S K) : Runs SynP SynG Go.Proofs.Tryz.f81 (T81 11).1 (envOf (T81 11).2 vals) S K := by
  obtain ⟨a9001, r9002, rfl, h3⟩ := uncA_some h0
  obtain ⟨s9004, rfl, h5⟩ := scK_some h3
  obtain ⟨p0, rfl, h6⟩ := cP_some h5
  obtain ⟨a9007, r9008, rfl, h9⟩ := uncA_some h6
  obtain ⟨s9010, rfl, h11⟩ := scK_some h9
  obtain ⟨c23, rfl, h12⟩ := cB_some h11
  obtain ⟨rfl, h13⟩ := endL_some h12
  rw [F81_11_eq] at h13
  exact execK_runs hD.typed Syn_zero Syn_mixed hJ X81_11 (T81 11).1 (envOf (T81 11).2 _) S K (chk_of (by kernel_rfl) (by kernel_rfl)) h13
noncomputable def J81 (D : Disp) (k : Nat) : Disp := Nat.rec (motive := fun _ => Disp) Disp.no (fun _ ih => Disp.add 0 (A81_0 D ih) <| Disp.add 2 (A81_2 D ih) <| Disp.add 11 (A81_11 D ih) <| Disp.no) k
theorem J81_ok {D : Disp} (hD : DOK SynP SynG D) : ∀ k, JOK SynP SynG Go.Proofs.Tryz.f81 T81 (J81 D k)
  | 0 => JOK.no
  | k + 1 => JOK.add (ltB_ok (by kernel_rfl)) (fun vals S K h => A81_0_ok hD (J81_ok hD k) h) <| JOK.add (ltB_ok (by kernel_rfl)) (fun vals S K h => A81_2_ok hD (J81_ok hD k) h) <| JOK.add (ltB_ok (by kernel_rfl)) (fun vals S K h => A81_11_ok hD (J81_ok hD k) h) <| JOK.no
theorem E81_ok {D : Disp} (hD : DOK SynP SynG D) (k : Nat) {args : List AV} {S : St} {K : AV → St → Prop} (h : A81_0 D (J81 D k) args S K) : CallE SynP SynG 81 args S K := by
  have hr := A81_0_ok hD (J81_ok hD k) h
  have hl : args.length = 1 := by
    have h0 := h
    obtain ⟨a9001, r9002, rfl, h3⟩ := uncA_some h0
    obtain ⟨s9004, rfl, h5⟩ := scK_some h3
    obtain ⟨p0, rfl, h6⟩ := cP_some h5
    obtain ⟨rfl, h7⟩ := endL_some h6
    rfl
  refine callOK_of (fn := Go.Proofs.Tryz.f81) (c := (match Go.Proofs.Tryz.f81.body with | some c => c | none => .skip)) (by kernel_rfl) (by kernel_rfl) (by kernel_rfl) (by rw [hl]; kernel_rfl) (by kernel_rfl) ?_
  rw [hl]
  exact hr
noncomputable def plans92 (i : Nat) : Plan := if Nat.beq i 10 then [(0, []), (1, [0]), (2, []), (3, [2]), (4, [1, 0]), (5, [3, 4, 0, 1, 2])] else []
noncomputable def T92 (p : Nat) : List Item × List Nat := bif Nat.beq p 0 then ([.code (match Go.Proofs.Tryz.f92.body with | some c => c | none => .skip)], [0]) else
  bif Nat.beq p 4 then (navs [.op, .op, .op, .op] [.code (match Go.Proofs.Tryz.f92.body with | some c => c | none => .skip)], [0, 2, 4, 5, 22]) else
  ([], [])
noncomputable def F92_q9 (D J : Disp) (S : St) (p0 : PV) (S302 : St) (y388 : (List Nat)) (S390 : St) (c402 : Bool) (K : AV → St → Prop) : Prop :=
 ifK c402
 (St.at S390 (Bk.new (St.next S302)) 0 fun y403 =>
 uncK y403 fun v404 y405 =>
 SV.cI IntKind.i64 v404 fun x409 =>
 let c410 : Bool := (Bool.not (ieq x409 (4 : Int)));
 J 4 [(AV.one (V1.s (SV.ptr p0))), (AV.one (V1.s (SV.ptr (PV.mk (Bk.new (St.next S)) 0)))), (AV.one (V1.s (SV.ptr (PV.mk (Bk.new (St.next S302)) 0)))), (AV.one (V1.s (SV.str y388))), (AV.one (V1.s (SV.bool c410)))] S390 K)
 (J 4 [(AV.one (V1.s (SV.ptr p0))), (AV.one (V1.s (SV.ptr (PV.mk (Bk.new (St.next S)) 0)))), (AV.one (V1.s (SV.ptr (PV.mk (Bk.new (St.next S302)) 0)))), (AV.one (V1.s (SV.str y388))), (AV.one (V1.s (SV.bool Bool.false)))] S390 K)
noncomputable def F92_q10 (D J : Disp) (S : St) (p0 : PV) (S302 : St) (y388 : (List Nat)) (S390 : St) (c394 : Bool) (K : AV → St → Prop) : Prop :=
 ifK c394
 (J 4 [(AV.one (V1.s (SV.ptr p0))), (AV.one (V1.s (SV.ptr (PV.mk (Bk.new (St.next S)) 0)))), (AV.one (V1.s (SV.ptr (PV.mk (Bk.new (St.next S302)) 0)))), (AV.one (V1.s (SV.str y388))), (AV.one (V1.s (SV.bool Bool.true)))] S390 K)
 (St.at S390 (Bk.new (St.next S302)) 0 fun y395 =>
 uncK y395 fun v396 y397 =>
 SV.cI IntKind.i64 v396 fun x401 =>
 let c402 : Bool := (Bool.not (ieq x401 (3 : Int)));
 F92_q9 D J S p0 S302 y388 S390 c402 K)
noncomputable def F92_q11 (D J : Disp) (S : St) (p0 : PV) (S302 : St) (S343 : St) (x350 : Int) (x356 : Int) (y363 : (List Nat)) (y370 : (List Nat)) (x376 : Int) (y380 : Bool) (K : AV → St → Prop) : Prop :=
 D 102 [(AV.one (V1.agg [(SV.int IntKind.i64 x350), (SV.int IntKind.i64 x356), (SV.str y363), (SV.str y370), (SV.int IntKind.u64 x376), (SV.bool y380)]))] S343 fun v381 S382 =>
 scK v381 fun v384 =>
 SV.cS v384 fun y388 =>
 D 18 [(AV.one (V1.s (SV.ptr p0)))] S382 fun v389 S390 =>
 scK v389 fun v392 =>
 SV.cB v392 fun y393 =>
 let c394 : Bool := (Bool.not y393);
 F92_q10 D J S p0 S302 y388 S390 c394 K
noncomputable def F92_q12 (D J : Disp) (S : St) (p0 : PV) (S302 : St) (S343 : St) (K : AV → St → Prop) : Prop :=
 St.at S343 (Bk.new (St.next S302)) 0 fun y344 =>
 uncK y344 fun v345 y346 =>
 SV.cI IntKind.i64 v345 fun x350 =>
 uncK y346 fun v351 y352 =>
 SV.cI IntKind.i64 v351 fun x356 =>
 uncK y352 fun v357 y358 =>
 SV.cS v357 fun y363 =>
 uncK y358 fun v364 y365 =>
 SV.cS v364 fun y370 =>
 uncK y365 fun v371 y372 =>
 SV.cI IntKind.u64 v371 fun x376 =>
 uncK y372 fun v377 y378 =>
 SV.cB v377 fun y380 =>
 F92_q11 D J S p0 S302 S343 x350 x356 y363 y370 x376 y380 K
noncomputable def F92_q13 (D J : Disp) (S : St) (p0 : PV) (S300 : St) (K : AV → St → Prop) : Prop :=
 D 26 [(AV.one (V1.s (SV.ptr p0)))] S300 fun v301 S302 =>
 avA v301 fun y305 =>
 req (Nat.beq (List.length y305) 6) <|
 uncK y305 fun v306 y307 =>
 SV.cI IntKind.i64 v306 fun x311 =>
 uncK y307 fun v312 y313 =>
 SV.cI IntKind.i64 v312 fun x317 =>
 uncK y313 fun v318 y319 =>
 SV.cS v318 fun y324 =>
 uncK y319 fun v325 y326 =>
 SV.cS v325 fun y331 =>
 uncK y326 fun v332 y333 =>
 SV.cI IntKind.u64 v332 fun x337 =>
 uncK y333 fun v338 y339 =>
 SV.cB v338 fun y341 =>
 let S342 : St := (St.add S302 (AO.cells [(SV.int IntKind.i64 (0 : Int)), (SV.int IntKind.i64 (0 : Int)), (SV.str []), (SV.str []), (SV.int IntKind.u64 (0 : Int)), (SV.bool Bool.false)] (Op2.ty 76)));
 St.wr S342 (Bk.new (St.next S302)) 0 [(SV.int IntKind.i64 x311), (SV.int IntKind.i64 x317), (SV.str y324), (SV.str y331), (SV.int IntKind.u64 x337), (SV.bool y341)] fun S343 =>
 F92_q12 D J S p0 S302 S343 K
noncomputable def F92_0 (D J : Disp) (p0 : PV) (S : St) (K : AV → St → Prop) : Prop :=
 let S300 : St := (St.add S (AO.cells [(SV.str []), (SV.int IntKind.i64 (0 : Int))] (Op2.ty 45)));
 F92_q13 D J S p0 S300 K
noncomputable def X92_0 : X := (.op (.op (.op (.op (.jmp 4 [0, 2, 4, 5, 22])))))
theorem F92_0_eq (D J : Disp) (p0 : PV) (S : St) (K : AV → St → Prop) : F92_0 D J p0 S K = execK SynP SynG Go.Proofs.Tryz.f92 (typed SynP D) J plans92 X92_0 (T92 0).1 (envOf (T92 0).2 [(AV.one (V1.s (SV.ptr p0)))]) S K := by kernel_rfl
noncomputable def F92_q14 (D J : Disp) (S : St) (p0 : PV) (p2 : PV) (K : AV → St → Prop) : Prop :=
 D 59 [(AV.one (V1.s (SV.ptr p0))), (AV.one (V1.s (SV.int IntKind.i64 (4 : Int))))] S fun v300 S301 =>
 avT v300 fun y303 =>
 endL y303 (PV.cs p2 fun b304 n305 =>
 St.wr S301 b304 n305 [(SV.str []), (SV.int IntKind.i64 (0 : Int))] fun S306 =>
 PV.cs p2 fun b307 n308 =>
 St.at S306 b307 n308 fun y309 =>
 uncK y309 fun v310 y311 =>
 SV.cS v310 fun y316 =>
 uncK y311 fun v317 y318 =>
 SV.cI IntKind.i64 v317 fun x322 =>
 K ((AV.tup [(V1.agg [(SV.str y316), (SV.int IntKind.i64 x322)]), (V1.s (SV.int IntKind.u64 (0 : Int)))])) S306)
noncomputable def F92_q15 (D J : Disp) (S : St) (p0 : PV) (p2 : PV) (K : AV → St → Prop) : Prop :=
 D 59 [(AV.one (V1.s (SV.ptr p0))), (AV.one (V1.s (SV.int IntKind.i64 (6 : Int))))] S fun v336 S337 =>
 avT v336 fun y339 =>
 endL y339 (PV.cs p2 fun b340 n341 =>
 St.wr S337 b340 n341 [(SV.str []), (SV.int IntKind.i64 (0 : Int))] fun S342 =>
 PV.cs p2 fun b343 n344 =>
 St.at S342 b343 n344 fun y345 =>
 uncK y345 fun v346 y347 =>
 SV.cS v346 fun y352 =>
 uncK y347 fun v353 y354 =>
 SV.cI IntKind.i64 v353 fun x358 =>
 K ((AV.tup [(V1.agg [(SV.str y352), (SV.int IntKind.i64 x358)]), (V1.s (SV.int IntKind.u64 (0 : Int)))])) S342)
noncomputable def F92_q16 (D J : Disp) (p2 : PV) (s5 : (List Nat)) (S385 : St) (b386 : Bk) (n388 : Nat) (x395 : Int) (K : AV → St → Prop) : Prop :=
 PV.cs p2 fun b396 n397 =>
 St.wr S385 b396 n397 [(SV.str s5), (SV.int IntKind.i64 (0 : Int))] fun S398 =>
 St.at S398 b386 n388 fun y399 =>
 uncK y399 fun v400 y401 =>
 SV.cI IntKind.u64 v400 fun x405 =>
 req (sameAV (AV.one (V1.s (SV.int IntKind.u64 x405))) (AV.one (V1.s (SV.int IntKind.u64 x395)))) <|
 PV.cs p2 fun b406 n407 =>
 St.at S398 b406 n407 fun y408 =>
 uncK y408 fun v409 y410 =>
 SV.cS v409 fun y415 =>
 uncK y410 fun v416 y417 =>
 SV.cI IntKind.i64 v416 fun x421 =>
 K ((AV.tup [(V1.agg [(SV.str y415), (SV.int IntKind.i64 x421)]), (V1.s (SV.int IntKind.u64 x395))])) S398
noncomputable def F92_q17 (D J : Disp) (S : St) (p0 : PV) (p2 : PV) (p4 : PV) (s5 : (List Nat)) (b371 : Bk) (n373 : Nat) (K : AV → St → Prop) : Prop :=
 St.at S b371 n373 fun y374 =>
 uncK y374 fun v375 y376 =>
 SV.cI IntKind.i64 v375 fun x380 =>
 let x381 : Int := (iwrap IntKind.i64 (x380 + (1 : Int)));
 PV.cs p0 fun b382 n383 =>
 let n384 : Nat := (n383 + 1);
 St.wr S b382 n384 [(SV.int IntKind.i64 x381)] fun S385 =>
 PV.cs p4 fun b386 n387 =>
 let n388 : Nat := (n387 + 4);
 St.at S385 b386 n388 fun y389 =>
 uncK y389 fun v390 y391 =>
 SV.cI IntKind.u64 v390 fun x395 =>
 F92_q16 D J p2 s5 S385 b386 n388 x395 K
noncomputable def F92_4 (D J : Disp) (p0 : PV) (p2 : PV) (p4 : PV) (s5 : (List Nat)) (c22 : Bool) (S : St) (K : AV → St → Prop) : Prop :=
 ifK c22
 (F92_q14 D J S p0 p2 K)
 (let c335 : Bool := (leq s5 []);
 ifK c335
 (F92_q15 D J S p0 p2 K)
 (PV.cs p0 fun b371 n372 =>
 let n373 : Nat := (n372 + 1);
 F92_q17 D J S p0 p2 p4 s5 b371 n373 K))
noncomputable def X92_4 : X := (.br (.op (.op .ret)) (.op (.br (.op (.op .ret)) (.op (.op .ret)))))
theorem F92_4_eq (D J : Disp) (p0 : PV) (p2 : PV) (p4 : PV) (s5 : (List Nat)) (c22 : Bool) (S : St) (K : AV → St → Prop) : F92_4 D J p0 p2 p4 s5 c22 S K = execK SynP SynG Go.Proofs.Tryz.f92 (typed SynP D) J plans92 X92_4 (T92 4).1 (envOf (T92 4).2 [(AV.one (V1.s (SV.ptr p0))), (AV.one (V1.s (SV.ptr p2))), (AV.one (V1.s (SV.ptr p4))), (AV.one (V1.s (SV.str s5))), (AV.one (V1.s (SV.bool c22)))]) S K := by kernel_rfl
noncomputable abbrev A92_0 (D J : Disp) (vals : List AV) (S : St) (K : AV → St → Prop) : Prop :=
  uncA vals fun a9001 r9002 => scK a9001 fun s9004 => SV.cP s9004 fun p0 => endL r9002 <| F92_0 D J p0 S K
theorem A92_0_ok {D J : Disp} (hD : DOK SynP SynG D) (hJ : JOK SynP SynG Go.Proofs.Tryz.f92 T92 J) {vals : List AV} {S : St} {K : AV → St → Prop} (h0 : A92_0 D J vals S K) : Runs SynP SynG Go.Proofs.Tryz.f92 (T92 0).1 (envOf (T92 0).2 vals) S K := by
  obtain ⟨a9001, r9002, rfl, h3⟩ := uncA_some h0
  obtain ⟨s9004, rfl, h5⟩ := scK_some h3
  obtain ⟨p0, rfl, h6⟩ := cP_some h5
  obtain ⟨rfl, h7⟩ := endL_some h6
  rw [F92_0_eq] at h7
  exact execK_runs hD.typed Syn_zero Syn_mixed hJ X92_0 (T92 0).1 (envOf (T92 0).2 _) S K (chk_of (by kernel_rfl) (by kernel_rfl)) h7
noncomputable abbrev A92_4 (D J : Disp) (vals : List AV) (S : St) (K : AV → St → Prop) : Prop :=
  uncA vals fun a9001 r9002 => scK a9001 fun s9004 => SV.cP s9004 fun p0 => uncA r9002 fun a9007 r9008 => scK a9007 fun s9010 => SV.cP s9010 fun p2 => uncA r9008 fun a9013 r9014 => scK a9013 fun s9016 => SV.cP s9016 fun p4 => uncA r9014 fun a9019 r9020 => scK a9019 fun s9022 => SV.cS s9022 fun s5 => uncA r9020 fun a9025 r9026 => scK a9025 fun s9028 => SV.cB s9028 fun c22 => endL r9026 <| F92_4 D J p0 p2 p4 s5 c22 S K
theorem A92_4_ok {D J : Disp} (hD : DOK SynP SynG D) (hJ : JOK SynP SynG Go.Proofs.Tryz.f92 T92 J) {vals : List AV} {S : St} {K : AV → St → Prop} (h0 : A92_4 D J vals S K) : Runs SynP SynG Go.Proofs.Tryz.f92 (T92 4).1 (envOf (T92 4).2 vals) S K := by
  obtain ⟨a9001, r9002, rfl, h3⟩ := uncA_some h0
  obtain ⟨s9004, rfl, h5⟩ := scK_some h3
  obtain ⟨p0, rfl, h6⟩ := cP_some h5
  obtain ⟨a9007, r9008, rfl, h9⟩ := uncA_some h6
  obtain ⟨s9010, rfl, h11⟩ := scK_some h9
  obtain ⟨p2, rfl, h12⟩ := cP_some h11
  obtain ⟨a9013, r9014, rfl, h15⟩ := uncA_some h12
  obtain ⟨s9016, rfl, h17⟩ := scK_some h15
  obtain ⟨p4, rfl, h18⟩ := cP_some h17
  obtain ⟨a9019, r9020, rfl, h21⟩ := uncA_some h18
  obtain ⟨s9022, rfl, h23⟩ := scK_some h21
  obtain ⟨s5, rfl, h24⟩ := cS_some h23
  obtain ⟨a9025, r9026, rfl, h27⟩ := uncA_some h24
  obtain ⟨s9028, rfl, h29⟩ := scK_some h27
  obtain ⟨c22, rfl, h30⟩ := cB_some h29
  obtain ⟨rfl, h31⟩ := endL_some h30
  rw [F92_4_eq] at h31
  exact execK_runs hD.typed Syn_zero Syn_mixed hJ X92_4 (T92 4).1 (envOf (T92 4).2 _) S K (chk_of (by kernel_rfl) (by kernel_rfl)) h31
noncomputable def J92 (D : Disp) (k : Nat) : Disp := Nat.rec (motive := fun _ => Disp) Disp.no (fun _ ih => Disp.add 0 (A92_0 D ih) <| Disp.add 4 (A92_4 D ih) <| Disp.no) k
theorem J92_ok {D : Disp} (hD : DOK SynP SynG D) : ∀ k, JOK SynP SynG Go.Proofs.Tryz.f92 T92 (J92 D k)
  | 0 => JOK.no
  | k + 1 => JOK.add (ltB_ok (by kernel_rfl)) (fun vals S K h => A92_0_ok hD (J92_ok hD k) h) <| JOK.add (ltB_ok (by kernel_rfl)) (fun vals S K h => A92_4_ok hD (J92_ok hD k) h) <| JOK.no
theorem E92_ok {D : Disp} (hD : DOK SynP SynG D) (k : Nat) {args : List AV} {S : St} {K : AV → St → Prop} (h : A92_0 D (J92 D k) args S K) : CallE SynP SynG 92 args S K := by
  have hr := A92_0_ok hD (J92_ok hD k) h
  have hl : args.length = 1 := by
    have h0 := h
    obtain ⟨a9001, r9002, rfl, h3⟩ := uncA_some h0
    obtain ⟨s9004, rfl, h5⟩ := scK_some h3
    obtain ⟨p0, rfl, h6⟩ := cP_some h5
    obtain ⟨rfl, h7⟩ := endL_some h6
    rfl
  refine callOK_of (fn := Go.Proofs.Tryz.f92) (c := (match Go.Proofs.Tryz.f92.body with | some c => c | none => .skip)) (by kernel_rfl) (by kernel_rfl) (by kernel_rfl) (by rw [hl]; kernel_rfl) (by kernel_rfl) ?_
  rw [hl]
  exact hr
noncomputable def plans93 (i : Nat) : Plan := []
noncomputable def T93 (p : Nat) : List Item × List Nat := bif Nat.beq p 0 then ([.code (match Go.Proofs.Tryz.f93.body with | some c => c | none => .skip)], [0]) else
  bif Nat.beq p 2 then (navs [.op, .op] [.code (match Go.Proofs.Tryz.f93.body with | some c => c | none => .skip)], [0, 3]) else
  bif Nat.beq p 20 then (navs [.op, .op, .op, .th, .op, .el, .op, .el, .op, .el, .op, .th, .op, .op, .th, .op] [.code (match Go.Proofs.Tryz.f93.body with | some c => c | none => .skip)], [0, 4]) else
  ([], [])
noncomputable def F93_0 (D J : Disp) (p0 : PV) (S : St) (K : AV → St → Prop) : Prop :=
 D 103 [(AV.one (V1.s (SV.ptr p0)))] S fun v300 S301 =>
 scK v300 fun v303 =>
 SV.cP v303 fun y308 =>
 J 2 [(AV.one (V1.s (SV.ptr p0))), (AV.one (V1.s (SV.ptr y308)))] S301 K
noncomputable def X93_0 : X := (.op (.op (.jmp 2 [0, 3])))
theorem F93_0_eq (D J : Disp) (p0 : PV) (S : St) (K : AV → St → Prop) : F93_0 D J p0 S K = execK SynP SynG Go.Proofs.Tryz.f93 (typed SynP D) J plans93 X93_0 (T93 0).1 (envOf (T93 0).2 [(AV.one (V1.s (SV.ptr p0)))]) S K := by kernel_rfl
noncomputable def F93_q7 (D J : Disp) (p0 : PV) (S311 : St) (d319 : (Sum Nat Nat)) (S320 : St) (K : AV → St → Prop) : Prop :=
 let S321 : St := (St.add S320 (AO.cells [(SV.str [105, 110, 100, 101, 120]), (SV.str []), (SV.str []), (SV.int IntKind.i64 (0 : Int)), (SV.int IntKind.u64 (0 : Int)), (SV.bool Bool.false), (SV.sl (LV.mk (Bk.new (St.next S311)) 0 2 d319))] (Op2.ty 118)));
 D 29 [(AV.one (V1.s (SV.ptr p0))), (AV.one (V1.s (SV.str [93])))] S321 fun v322 S323 =>
 avT v322 fun y325 =>
 endL y325 (J 2 [(AV.one (V1.s (SV.ptr p0))), (AV.one (V1.s (SV.ptr (PV.mk (Bk.new (St.next S320)) 0))))] S323 K)
noncomputable def F93_q8 (D J : Disp) (p0 : PV) (p3 : PV) (S340 : St) (y346 : (List Nat)) (K : AV → St → Prop) : Prop :=
 let d347 : (Sum Nat Nat) := (Sum.inl 1);
 let S348 : St := (St.add S340 (AO.cells [(SV.ptr p3)] Op2.sh));
 let S349 : St := (St.add S348 (AO.cells [(SV.str [100, 111, 116]), (SV.str y346), (SV.str []), (SV.int IntKind.i64 (0 : Int)), (SV.int IntKind.u64 (0 : Int)), (SV.bool Bool.false), (SV.sl (LV.mk (Bk.new (St.next S340)) 0 1 d347))] (Op2.ty 118)));
 J 2 [(AV.one (V1.s (SV.ptr p0))), (AV.one (V1.s (SV.ptr (PV.mk (Bk.new (St.next S348)) 0))))] S349 K
noncomputable def F93_q9 (D J : Disp) (p0 : PV) (p3 : PV) (S362 : St) (y368 : (List Nat)) (K : AV → St → Prop) : Prop :=
 let d369 : (Sum Nat Nat) := (Sum.inl 1);
 let S370 : St := (St.add S362 (AO.cells [(SV.ptr p3)] Op2.sh));
 let S371 : St := (St.add S370 (AO.cells [(SV.str [97, 114, 114, 111, 119]), (SV.str y368), (SV.str []), (SV.int IntKind.i64 (0 : Int)), (SV.int IntKind.u64 (0 : Int)), (SV.bool Bool.false), (SV.sl (LV.mk (Bk.new (St.next S362)) 0 1 d369))] (Op2.ty 118)));
 J 2 [(AV.one (V1.s (SV.ptr p0))), (AV.one (V1.s (SV.ptr (PV.mk (Bk.new (St.next S370)) 0))))] S371 K
noncomputable def F93_q10 (D J : Disp) (p0 : PV) (S379 : St) (d383 : (Sum Nat Nat)) (S386 : St) (K : AV → St → Prop) : Prop :=
 PV.cs p0 fun b391 n392 =>
 D 39 [(AV.one (V1.s (SV.ptr p0))), (AV.one (V1.s (SV.str [41]))), (AV.one (V1.s (SV.fn (FV.mk (Fn.func 63) [(Prod.mk b391 n392)] []))))] S386 fun v393 S394 =>
 scK v393 fun v396 =>
 SV.cL v396 fun y402 =>
 St.src S394 1 y402 fun y403 n404 =>
 St.app S394 93 1 8 (LV.mk (Bk.new (St.next S379)) 0 1 d383) y403 n404 fun y405 S406 =>
 J 20 [(AV.one (V1.s (SV.ptr p0))), (AV.one (V1.s (SV.sl y405)))] S406 K
noncomputable def F93_q11 (D J : Disp) (p0 : PV) (p3 : PV) (S379 : St) (K : AV → St → Prop) : Prop :=
 let d383 : (Sum Nat Nat) := (Sum.inl 1);
 let S384 : St := (St.add S379 (AO.cells [(SV.ptr p3)] Op2.sh));
 D 32 [(AV.one (V1.s (SV.ptr p0))), (AV.one (V1.s (SV.str [41])))] S384 fun v385 S386 =>
 scK v385 fun v388 =>
 SV.cB v388 fun y389 =>
 let c390 : Bool := (Bool.not y389);
 ifK c390
 (F93_q10 D J p0 S379 d383 S386 K)
 (J 20 [(AV.one (V1.s (SV.ptr p0))), (AV.one (V1.s (SV.sl (LV.mk (Bk.new (St.next S379)) 0 1 d383))))] S386 K)
noncomputable def F93_q12 (D J : Disp) (p0 : PV) (p3 : PV) (S335 : St) (K : AV → St → Prop) : Prop :=
 D 32 [(AV.one (V1.s (SV.ptr p0))), (AV.one (V1.s (SV.str [45, 62])))] S335 fun v356 S357 =>
 scK v356 fun v359 =>
 SV.cB v359 fun y360 =>
 ifK y360
 (D 30 [(AV.one (V1.s (SV.ptr p0)))] S357 fun v361 S362 =>
 scK v361 fun v364 =>
 SV.cS v364 fun y368 =>
 F93_q9 D J p0 p3 S362 y368 K)
 (D 32 [(AV.one (V1.s (SV.ptr p0))), (AV.one (V1.s (SV.str [40])))] S357 fun v378 S379 =>
 scK v378 fun v381 =>
 SV.cB v381 fun y382 =>
 ifK y382
 (F93_q11 D J p0 p3 S379 K)
 (K ((AV.one (V1.s (SV.ptr p3)))) S379))
noncomputable def F93_q13 (D J : Disp) (p0 : PV) (p3 : PV) (S306 : St) (y309 : Bool) (K : AV → St → Prop) : Prop :=
 ifK y309
 (D 63 [(AV.one (V1.s (SV.ptr p0)))] S306 fun v310 S311 =>
 scK v310 fun v313 =>
 SV.cP v313 fun y318 =>
 let d319 : (Sum Nat Nat) := (Sum.inl 2);
 let S320 : St := (St.add S311 (AO.cells [(SV.ptr p3), (SV.ptr y318)] Op2.sh));
 F93_q7 D J p0 S311 d319 S320 K)
 (D 32 [(AV.one (V1.s (SV.ptr p0))), (AV.one (V1.s (SV.str [46])))] S306 fun v334 S335 =>
 scK v334 fun v337 =>
 SV.cB v337 fun y338 =>
 ifK y338
 (D 30 [(AV.one (V1.s (SV.ptr p0)))] S335 fun v339 S340 =>
 scK v339 fun v342 =>
 SV.cS v342 fun y346 =>
 F93_q8 D J p0 p3 S340 y346 K)
 (F93_q12 D J p0 p3 S335 K))
noncomputable def F93_2 (D J : Disp) (p0 : PV) (p3 : PV) (S : St) (K : AV → St → Prop) : Prop :=
 D 18 [(AV.one (V1.s (SV.ptr p0)))] S fun v300 S301 =>
 scK v300 fun v303 =>
 SV.cB v303 fun y304 =>
 ifK y304
 (D 32 [(AV.one (V1.s (SV.ptr p0))), (AV.one (V1.s (SV.str [91])))] S301 fun v305 S306 =>
 scK v305 fun v308 =>
 SV.cB v308 fun y309 =>
 F93_q13 D J p0 p3 S306 y309 K)
 (K ((AV.one (V1.s (SV.ptr p3)))) S301)
noncomputable def X93_2 : X := (.op (.br (.op (.br (.op (.op (.jmp 2 [0, 3]))) (.op (.br (.op (.jmp 2 [0, 3])) (.op (.br (.op (.jmp 2 [0, 3])) (.op (.br (.op (.op (.br (.op (.jmp 20 [0, 4])) (.jmp 20 [0, 4])))) (.op .ret))))))))) (.op .ret)))
theorem F93_2_eq (D J : Disp) (p0 : PV) (p3 : PV) (S : St) (K : AV → St → Prop) : F93_2 D J p0 p3 S K = execK SynP SynG Go.Proofs.Tryz.f93 (typed SynP D) J plans93 X93_2 (T93 2).1 (envOf (T93 2).2 [(AV.one (V1.s (SV.ptr p0))), (AV.one (V1.s (SV.ptr p3)))]) S K := by kernel_rfl
noncomputable def F93_20 (D J : Disp) (p0 : PV) (l4 : LV) (S : St) (K : AV → St → Prop) : Prop :=
 let S300 : St := (St.add S (AO.cells [(SV.str [99, 97, 108, 108]), (SV.str []), (SV.str []), (SV.int IntKind.i64 (0 : Int)), (SV.int IntKind.u64 (0 : Int)), (SV.bool Bool.false), (SV.sl l4)] (Op2.ty 118)));
 J 2 [(AV.one (V1.s (SV.ptr p0))), (AV.one (V1.s (SV.ptr (PV.mk (Bk.new (St.next S)) 0))))] S300 K
noncomputable def X93_20 : X := (.op (.jmp 2 [0, 3]))
theorem F93_20_eq (D J : Disp) (p0 : PV) (l4 : LV) (S : St) (K : AV → St → Prop) : F93_20 D J p0 l4 S K = execK SynP SynG Go.Proofs.Tryz.f93 (typed SynP D) J plans93 X93_20 (T93 20).1 (envOf (T93 20).2 [(AV.one (V1.s (SV.ptr p0))), (AV.one (V1.s (SV.sl l4)))]) S K := by kernel_rfl
noncomputable abbrev A93_0 (D J : Disp) (vals : List AV) (S : St) (K : AV → St → Prop) : Prop :=
  uncA vals fun a9001 r9002 => scK a9001 fun s9004 => SV.cP s9004 fun p0 => endL r9002 <| F93_0 D J p0 S K
theorem A93_0_ok {D J : Disp} (hD : DOK SynP SynG D) (hJ : JOK SynP SynG Go.Proofs.Tryz.f93 T93 J) {vals : List AV} {S : St} {K : AV → St → Prop} (h0 : A93_0 D J vals S K) : Runs SynP SynG Go.Proofs.Tryz.f93 (T93 0).1 (envOf (T93 0).2 vals) S K := by
  obtain ⟨a9001, r9002, rfl, h3⟩ := uncA_some h0
  obtain ⟨s9004, rfl, h5⟩ := scK_some h3
  obtain ⟨p0, rfl, h6⟩ := cP_some h5
  obtain ⟨rfl, h7⟩ := endL_some h6
  rw [F93_0_eq] at h7
  exact execK_runs hD.typed Syn_zero Syn_mixed hJ X93_0 (T93 0).1 (envOf (T93 0).2 _) S K (chk_of (by kernel_rfl) (by kernel_rfl)) h7
noncomputable abbrev A93_2 (D J : Disp) (vals : List AV) (S : St) (K : AV → St → Prop) : Prop :=
  uncA vals fun a9001 r9002 => scK a9001 fun s9004 => SV.cP s9004 fun p0 => uncA r9002 fun a9007 r9008 => scK a9007 fun s9010 => SV.cP s9010 fun p3 => endL r9008 <| F93_2 D J p0 p3 S K
theorem A93_2_ok {D J : Disp} (hD : DOK SynP SynG D) (hJ : JOK SynP SynG Go.Proofs.Tryz.f93 T93 J) {vals : List AV} {S : St} {K : AV → St → Prop} (h0 : A93_2 D J vals S K) : Runs SynP SynG Go.Proofs.Tryz.f93 (T93 2).1 (envOf (T93 2).2 vals) S K := by
  obtain ⟨a9001, r9002, rfl, h3⟩ := uncA_some h0
  obtain ⟨s9004, rfl, h5⟩ := scK_some h3
  obtain ⟨p0, rfl, h6⟩ := cP_some h5
  obtain ⟨a9007, r9008, rfl, h9⟩ := uncA_some h6
  obtain ⟨s9010, rfl, h11⟩ := scK_some h9
  obtain ⟨p3, rfl, h12⟩ := cP_some h11
  obtain ⟨rfl, h13⟩ := endL_some h12
  rw [F93_2_eq] at h13
  exact execK_runs hD.typed Syn_zero Syn_mixed hJ X93_2 (T93 2).1 (envOf (T93 2).2 _) S K (chk_of (by kernel_rfl) (by kernel_rfl)) h13
noncomputable abbrev A93_20 (D J : Disp) (vals : List AV) (S : St) (K : AV → St → Prop) : Prop :=
  uncA vals fun a9001 r9002 => scK a9001 fun s9004 => SV.cP s9004 fun p0 => uncA r9002 fun a9007 r9008 => scK a9007 fun s9010 => SV.cL s9010 fun l4 => endL r9008 <| F93_20 D J p0 l4 S K
theorem A93_20_ok {D J : Disp} (hD : DOK SynP SynG D) (hJ : JOK SynP SynG Go.Proofs.Tryz.f93 T93 J) {vals : List AV} {S : St} {K : AV → St → Prop} (h0 : A93_20 D J vals S K) : Runs SynP SynG Go.Proofs.Tryz.f93 (T93 20).1 (envOf (T93 20).2 vals) S K := by
  obtain ⟨a9001, r9002, rfl, h3⟩ := uncA_some h0
  obtain ⟨s9004, rfl, h5⟩ := scK_some h3
  obtain ⟨p0, rfl, h6⟩ := cP_some h5
  obtain ⟨a9007, r9008, rfl, h9⟩ := uncA_some h6
  obtain ⟨s9010, rfl, h11⟩ := scK_some h9
  obtain ⟨l4, rfl, h12⟩ := cL_some h11
  obtain ⟨rfl, h13⟩ := endL_some h12
  rw [F93_20_eq] at h13
  exact execK_runs hD.typed Syn_zero Syn_mixed hJ X93_20 (T93 20).1 (envOf (T93 20).2 _) S K (chk_of (by kernel_rfl) (by kernel_rfl)) h13
noncomputable def J93 (D : Disp) (k : Nat) : Disp := Nat.rec (motive := fun _ => Disp) Disp.no (fun _ ih => Disp.add 0 (A93_0 D ih) <| Disp.add 2 (A93_2 D ih) <| Disp.add 20 (A93_20 D ih) <| Disp.no) k
theorem J93_ok {D : Disp} (hD : DOK SynP SynG D) : ∀ k, JOK SynP SynG Go.Proofs.Tryz.f93 T93 (J93 D k)
  | 0 => JOK.no
  | k + 1 => JOK.add (ltB_ok (by kernel_rfl)) (fun vals S K h => A93_0_ok hD (J93_ok hD k) h) <| JOK.add (ltB_ok (by kernel_rfl)) (fun vals S K h => A93_2_ok hD (J93_ok hD k) h) <| JOK.add (ltB_ok (by kernel_rfl)) (fun vals S K h => A93_20_ok hD (J93_ok hD k) h) <| JOK.no
theorem E93_ok {D : Disp} (hD : DOK SynP SynG D) (k : Nat) {args : List AV} {S : St} {K : AV → St → Prop} (h : A93_0 D (J93 D k) args S K) : CallE SynP SynG 93 args S K := by
  have hr := A93_0_ok hD (J93_ok hD k) h
  have hl : args.length = 1 := by
    have h0 := h
    obtain ⟨a9001, r9002, rfl, h3⟩ := uncA_some h0
    obtain ⟨s9004, rfl, h5⟩ := scK_some h3
    obtain ⟨p0, rfl, h6⟩ := cP_some h5
    obtain ⟨rfl, h7⟩ := endL_some h6
    rfl
  refine callOK_of (fn := Go.Proofs.Tryz.f93) (c := (match Go.Proofs.Tryz.f93.body with | some c => c | none => .skip)) (by kernel_rfl) (by kernel_rfl) (by kernel_rfl) (by rw [hl]; kernel_rfl) (by kernel_rfl) ?_
  rw [hl]
  exact hr
noncomputable def plans102 (i : Nat) : Plan := if Nat.beq i 3 then [(0, []), (1, [0]), (2, [1, 0]), (3, []), (4, [3]), (5, [4, 3]), (6, []), (7, [6]), (8, [7, 6]), (9, [2, 0, 1]), (10, [5, 9, 0, 1, 2, 3, 4]), (11, [8, 10, 0, 1, 2, 3, 4, 5, 6, 7, 9])] else []
noncomputable def T102 (p : Nat) : List Item × List Nat := bif Nat.beq p 0 then ([.code (match Go.Proofs.Tryz.f102.body with | some c => c | none => .skip)], [0]) else
  bif Nat.beq p 7 then (navs [.op, .op, .el, .op, .op] [.code (match Go.Proofs.Tryz.f102.body with | some c => c | none => .skip)], [1, 4, 5, 18]) else
  bif Nat.beq p 11 then (navs [.op, .op, .el, .op, .op, .el, .op] [.code (match Go.Proofs.Tryz.f102.body with | some c => c | none => .skip)], [1, 5, 25]) else
  bif Nat.beq p 14 then (navs [.op, .op, .el, .op, .op, .el, .op, .el, .op] [.code (match Go.Proofs.Tryz.f102.body with | some c => c | none => .skip)], [1, 41]) else
  bif Nat.beq p 17 then (navs [.op, .op, .el, .op, .op, .el, .op, .el, .op, .el, .op] [.code (match Go.Proofs.Tryz.f102.body with | some c => c | none => .skip)], [53]) else
  ([], [])
noncomputable def F102_q6 (D J : Disp) (S : St) (S300 : St) (c316 : Bool) (c324 : Bool) (c332 : Bool) (K : AV → St → Prop) : Prop :=
 St.at S300 (Bk.new (St.next S)) 3 fun y333 =>
 uncK y333 fun v334 y335 =>
 SV.cS v334 fun y340 =>
 let c341 : Bool := (leq y340 []);
 ifK c341
 (J 7 [(AV.one (V1.s (SV.ptr (PV.mk (Bk.new (St.next S)) 0)))), (AV.one (V1.s (SV.bool c324))), (AV.one (V1.s (SV.bool c332))), (AV.one (V1.s (SV.bool c316)))] S300 K)
 (J 7 [(AV.one (V1.s (SV.ptr (PV.mk (Bk.new (St.next S)) 0)))), (AV.one (V1.s (SV.bool c324))), (AV.one (V1.s (SV.bool c332))), (AV.one (V1.s (SV.bool Bool.false)))] S300 K)
noncomputable def F102_q7 (D J : Disp) (S : St) (S300 : St) (K : AV → St → Prop) : Prop :=
 St.at S300 (Bk.new (St.next S)) 4 fun y309 =>
 uncK y309 fun v310 y311 =>
 SV.cI IntKind.u64 v310 fun x315 =>
 let c316 : Bool := (ilt x315 (2147483648 : Int));
 St.at S300 (Bk.new (St.next S)) 4 fun y317 =>
 uncK y317 fun v318 y319 =>
 SV.cI IntKind.u64 v318 fun x323 =>
 let c324 : Bool := (ilt x323 (4294967296 : Int));
 St.at S300 (Bk.new (St.next S)) 4 fun y325 =>
 uncK y325 fun v326 y327 =>
 SV.cI IntKind.u64 v326 fun x331 =>
 let c332 : Bool := (ilt x331 (9223372036854775808 : Int));
 F102_q6 D J S S300 c316 c324 c332 K
noncomputable def F102_0 (D J : Disp) (x0_0 : Int) (x0_1 : Int) (s0_2 : (List Nat)) (s0_3 : (List Nat)) (x0_4 : Int) (c0_5 : Bool) (S : St) (K : AV → St → Prop) : Prop :=
 let S300 : St := (St.add S (AO.cells [(SV.int IntKind.i64 x0_0), (SV.int IntKind.i64 x0_1), (SV.str s0_2), (SV.str s0_3), (SV.int IntKind.u64 x0_4), (SV.bool c0_5)] (Op2.ty 76)));
 St.at S300 (Bk.new (St.next S)) 0 fun y301 =>
 uncK y301 fun v302 y303 =>
 SV.cI IntKind.i64 v302 fun x307 =>
 let c308 : Bool := (ieq x307 (4 : Int));
 ifK c308
 (K ((AV.one (V1.s (SV.str [105, 51, 50])))) S300)
 (F102_q7 D J S S300 K)
noncomputable def X102_0 : X := (.op (.op (.br (.op .ret) (.op (.op (.jmp 7 [1, 4, 5, 18]))))))
theorem F102_0_eq (D J : Disp) (x0_0 : Int) (x0_1 : Int) (s0_2 : (List Nat)) (s0_3 : (List Nat)) (x0_4 : Int) (c0_5 : Bool) (S : St) (K : AV → St → Prop) : F102_0 D J x0_0 x0_1 s0_2 s0_3 x0_4 c0_5 S K = execK SynP SynG Go.Proofs.Tryz.f102 (typed SynP D) J plans102 X102_0 (T102 0).1 (envOf (T102 0).2 [(AV.one (V1.agg [(SV.int IntKind.i64 x0_0), (SV.int IntKind.i64 x0_1), (SV.str s0_2), (SV.str s0_3), (SV.int IntKind.u64 x0_4), (SV.bool c0_5)]))]) S K := by kernel_rfl
noncomputable def F102_q8 (D J : Disp) (S : St) (p1 : PV) (c4 : Bool) (c5 : Bool) (y319 : Bool) (K : AV → St → Prop) : Prop :=
 ifK y319
 (J 11 [(AV.one (V1.s (SV.ptr p1))), (AV.one (V1.s (SV.bool c5))), (AV.one (V1.s (SV.bool c4)))] S K)
 (PV.cs p1 fun b320 n321 =>
 let n322 : Nat := (n321 + 3);
 St.at S b320 n322 fun y323 =>
 uncK y323 fun v324 y325 =>
 SV.cS v324 fun y330 =>
 let c331 : Bool := (leq y330 [117]);
 ifK c331
 (J 11 [(AV.one (V1.s (SV.ptr p1))), (AV.one (V1.s (SV.bool c5))), (AV.one (V1.s (SV.bool c4)))] S K)
 (J 11 [(AV.one (V1.s (SV.ptr p1))), (AV.one (V1.s (SV.bool c5))), (AV.one (V1.s (SV.bool Bool.false)))] S K))
noncomputable def F102_q9 (D J : Disp) (S : St) (p1 : PV) (c4 : Bool) (c5 : Bool) (c311 : Bool) (K : AV → St → Prop) : Prop :=
 ifK c311
 (PV.cs p1 fun b312 n313 =>
 let n314 : Nat := (n313 + 5);
 St.at S b312 n314 fun y315 =>
 uncK y315 fun v316 y317 =>
 SV.cB v316 fun y319 =>
 F102_q8 D J S p1 c4 c5 y319 K)
 (PV.cs p1 fun b343 n344 =>
 let n345 : Nat := (n344 + 3);
 St.at S b343 n345 fun y346 =>
 uncK y346 fun v347 y348 =>
 SV.cS v347 fun y353 =>
 let c354 : Bool := (leq y353 [117]);
 ifK c354
 (J 11 [(AV.one (V1.s (SV.ptr p1))), (AV.one (V1.s (SV.bool c5))), (AV.one (V1.s (SV.bool c4)))] S K)
 (J 11 [(AV.one (V1.s (SV.ptr p1))), (AV.one (V1.s (SV.bool c5))), (AV.one (V1.s (SV.bool Bool.false)))] S K))
noncomputable def F102_7 (D J : Disp) (p1 : PV) (c4 : Bool) (c5 : Bool) (c18 : Bool) (S : St) (K : AV → St → Prop) : Prop :=
 ifK c18
 (K ((AV.one (V1.s (SV.str [105, 51, 50])))) S)
 (PV.cs p1 fun b300 n301 =>
 let n302 : Nat := (n301 + 3);
 St.at S b300 n302 fun y303 =>
 uncK y303 fun v304 y305 =>
 SV.cS v304 fun y310 =>
 let c311 : Bool := (leq y310 []);
 F102_q9 D J S p1 c4 c5 c311 K)
noncomputable def X102_7 : X := (.br (.op .ret) (.op (.jmp 11 [1, 5, 25])))
theorem F102_7_eq (D J : Disp) (p1 : PV) (c4 : Bool) (c5 : Bool) (c18 : Bool) (S : St) (K : AV → St → Prop) : F102_7 D J p1 c4 c5 c18 S K = execK SynP SynG Go.Proofs.Tryz.f102 (typed SynP D) J plans102 X102_7 (T102 7).1 (envOf (T102 7).2 [(AV.one (V1.s (SV.ptr p1))), (AV.one (V1.s (SV.bool c4))), (AV.one (V1.s (SV.bool c5))), (AV.one (V1.s (SV.bool c18)))]) S K := by kernel_rfl
noncomputable def F102_q10 (D J : Disp) (S : St) (p1 : PV) (c5 : Bool) (y310 : (List Nat)) (K : AV → St → Prop) : Prop :=
 let c311 : Bool := (leq y310 []);
 ifK c311
 (J 14 [(AV.one (V1.s (SV.ptr p1))), (AV.one (V1.s (SV.bool c5)))] S K)
 (PV.cs p1 fun b312 n313 =>
 let n314 : Nat := (n313 + 3);
 St.at S b312 n314 fun y315 =>
 uncK y315 fun v316 y317 =>
 SV.cS v316 fun y322 =>
 let c323 : Bool := (leq y322 [108]);
 ifK c323
 (J 14 [(AV.one (V1.s (SV.ptr p1))), (AV.one (V1.s (SV.bool c5)))] S K)
 (J 14 [(AV.one (V1.s (SV.ptr p1))), (AV.one (V1.s (SV.bool Bool.false)))] S K))
noncomputable def F102_11 (D J : Disp) (p1 : PV) (c5 : Bool) (c25 : Bool) (S : St) (K : AV → St → Prop) : Prop :=
 ifK c25
 (K ((AV.one (V1.s (SV.str [117, 51, 50])))) S)
 (PV.cs p1 fun b300 n301 =>
 let n302 : Nat := (n301 + 3);
 St.at S b300 n302 fun y303 =>
 uncK y303 fun v304 y305 =>
 SV.cS v304 fun y310 =>
 F102_q10 D J S p1 c5 y310 K)
noncomputable def X102_11 : X := (.br (.op .ret) (.op (.jmp 14 [1, 41])))
theorem F102_11_eq (D J : Disp) (p1 : PV) (c5 : Bool) (c25 : Bool) (S : St) (K : AV → St → Prop) : F102_11 D J p1 c5 c25 S K = execK SynP SynG Go.Proofs.Tryz.f102 (typed SynP D) J plans102 X102_11 (T102 11).1 (envOf (T102 11).2 [(AV.one (V1.s (SV.ptr p1))), (AV.one (V1.s (SV.bool c5))), (AV.one (V1.s (SV.bool c25)))]) S K := by kernel_rfl
noncomputable def F102_q11 (D J : Disp) (S : St) (p1 : PV) (c311 : Bool) (K : AV → St → Prop) : Prop :=
 ifK c311
 (J 17 [(AV.one (V1.s (SV.bool Bool.true)))] S K)
 (PV.cs p1 fun b312 n313 =>
 let n314 : Nat := (n313 + 3);
 St.at S b312 n314 fun y315 =>
 uncK y315 fun v316 y317 =>
 SV.cS v316 fun y322 =>
 let c323 : Bool := (leq y322 [117, 108]);
 ifK c323
 (J 17 [(AV.one (V1.s (SV.bool Bool.true)))] S K)
 (PV.cs p1 fun b324 n325 =>
 let n326 : Nat := (n325 + 5);
 St.at S b324 n326 fun y327 =>
 uncK y327 fun v328 y329 =>
 SV.cB v328 fun y331 =>
 J 17 [(AV.one (V1.s (SV.bool y331)))] S K))
noncomputable def F102_14 (D J : Disp) (p1 : PV) (c41 : Bool) (S : St) (K : AV → St → Prop) : Prop :=
 ifK c41
 (K ((AV.one (V1.s (SV.str [105, 54, 52])))) S)
 (PV.cs p1 fun b300 n301 =>
 let n302 : Nat := (n301 + 3);
 St.at S b300 n302 fun y303 =>
 uncK y303 fun v304 y305 =>
 SV.cS v304 fun y310 =>
 let c311 : Bool := (leq y310 [117]);
 F102_q11 D J S p1 c311 K)
noncomputable def X102_14 : X := (.br (.op .ret) (.op (.jmp 17 [53])))
theorem F102_14_eq (D J : Disp) (p1 : PV) (c41 : Bool) (S : St) (K : AV → St → Prop) : F102_14 D J p1 c41 S K = execK SynP SynG Go.Proofs.Tryz.f102 (typed SynP D) J plans102 X102_14 (T102 14).1 (envOf (T102 14).2 [(AV.one (V1.s (SV.ptr p1))), (AV.one (V1.s (SV.bool c41)))]) S K := by kernel_rfl
noncomputable def F102_17 (D J : Disp) (c53 : Bool) (S : St) (K : AV → St → Prop) : Prop :=
 ifK c53
 (K ((AV.one (V1.s (SV.str [117, 54, 52])))) S)
 (K ((AV.one (V1.s (SV.str [])))) S)
noncomputable def X102_17 : X := (.br (.op .ret) (.op .ret))
theorem F102_17_eq (D J : Disp) (c53 : Bool) (S : St) (K : AV → St → Prop) : F102_17 D J c53 S K = execK SynP SynG Go.Proofs.Tryz.f102 (typed SynP D) J plans102 X102_17 (T102 17).1 (envOf (T102 17).2 [(AV.one (V1.s (SV.bool c53)))]) S K := by kernel_rfl
noncomputable abbrev A102_0 (D J : Disp) (vals : List AV) (S : St) (K : AV → St → Prop) : Prop :=
  uncA vals fun a9001 r9002 => avA a9001 fun l9004 => uncK l9004 fun s9006 r9007 => SV.cI IntKind.i64 s9006 fun x0_0 => uncK r9007 fun s9010 r9011 => SV.cI IntKind.i64 s9010 fun x0_1 => uncK r9011 fun s9014 r9015 => SV.cS s9014 fun s0_2 => uncK r9015 fun s9018 r9019 => SV.cS s9018 fun s0_3 => uncK r9019 fun s9022 r9023 => SV.cI IntKind.u64 s9022 fun x0_4 => uncK r9023 fun s9026 r9027 => SV.cB s9026 fun c0_5 => endL r9027 <| endL r9002 <| F102_0 D J x0_0 x0_1 s0_2 s0_3 x0_4 c0_5 S K
theorem A102_0_ok {D J : Disp} (hD : DOK SynP SynG D) (hJ : JOK SynP SynG Go.Proofs.Tryz.f102 T102 J) {vals : List AV} {S : St} {K : AV → St → Prop} (h0 : A102_0 D J vals S K) : Runs SynP SynG Go.Proofs.Tryz.f102 (T102 0).1 (envOf (T102 0).2 vals) S K := by
  obtain ⟨a9001, r9002, rfl, h3⟩ := uncA_some h0
  obtain ⟨l9004, rfl, h5⟩ := avA_some h3
  obtain ⟨s9006, r9007, rfl, h8⟩ := uncK_some h5
  obtain ⟨x0_0, rfl, h9⟩ := cI_some h8
  obtain ⟨s9010, r9011, rfl, h12⟩ := uncK_some h9
  obtain ⟨x0_1, rfl, h13⟩ := cI_some h12
  obtain ⟨s9014, r9015, rfl, h16⟩ := uncK_some h13
  obtain ⟨s0_2, rfl, h17⟩ := cS_some h16
  obtain ⟨s9018, r9019, rfl, h20⟩ := uncK_some h17
  obtain ⟨s0_3, rfl, h21⟩ := cS_some h20
  obtain ⟨s9022, r9023, rfl, h24⟩ := uncK_some h21
  obtain ⟨x0_4, rfl, h25⟩ := cI_some h24
  obtain ⟨s9026, r9027, rfl, h28⟩ := uncK_some h25
  obtain ⟨c0_5, rfl, h29⟩ := cB_some h28
  obtain ⟨rfl, h30⟩ := endL_some h29
  obtain ⟨rfl, h31⟩ := endL_some h30
  rw [F102_0_eq] at h31
  exact execK_runs hD.typed Syn_zero Syn_mixed hJ X102_0 (T102 0).1 (envOf (T102 0).2 _) S K (chk_of (by kernel_rfl) (by kernel_rfl)) h31
noncomputable abbrev A102_7 (D J : Disp) (vals : List AV) (S : St) (K : AV → St → Prop) : Prop :=
  uncA vals fun a9001 r9002 => scK a9001 fun s9004 => SV.cP s9004 fun p1 => uncA r9002 fun a9007 r9008 => scK a9007 fun s9010 => SV.cB s9010 fun c4 => uncA r9008 fun a9013 r9014 => scK a9013 fun s9016 => SV.cB s9016 fun c5 => uncA r9014 fun a9019 r9020 => scK a9019 fun s9022 => SV.cB s9022 fun c18 => endL r9020 <| F102_7 D J p1 c4 c5 c18 S K
theorem A102_7_ok {D J : Disp} (hD : DOK SynP SynG D) (hJ : JOK SynP SynG Go.Proofs.Tryz.f102 T102 J) {vals : List AV} {S : St} {K : AV → St → Prop} (h0 : A102_7 D J vals S K) : Runs SynP SynG Go.Proofs.Tryz.f102 (T102 7).1 (envOf (T102 7).2 vals) S K := by
  obtain ⟨a9001, r9002, rfl, h3⟩ := uncA_some h0
  obtain ⟨s9004, rfl, h5⟩ := scK_some h3
  obtain ⟨p1, rfl, h6⟩ := cP_some h5
  obtain ⟨a9007, r9008, rfl, h9⟩ := uncA_some h6
  obtain ⟨s9010, rfl, h11⟩ := scK_some h9
  obtain ⟨c4, rfl, h12⟩ := cB_some h11
  obtain ⟨a9013, r9014, rfl, h15⟩ := uncA_some h12
  obtain ⟨s9016, rfl, h17⟩ := scK_some h15
  obtain ⟨c5, rfl, h18⟩ := cB_some h17
  obtain ⟨a9019, r9020, rfl, h21⟩ := uncA_some h18
  obtain ⟨s9022, rfl, h23⟩ := scK_some h21
  obtain ⟨c18, rfl, h24⟩ := cB_some h23
  obtain ⟨rfl, h25⟩ := endL_some h24
  rw [F102_7_eq] at h25
  exact execK_runs hD.typed Syn_zero Syn_mixed hJ X102_7 (T102 7).1 (envOf (T102 7).2 _) S K (chk_of (by kernel_rfl) (by kernel_rfl)) h25
noncomputable abbrev A102_11 (D J : Disp) (vals : List AV) (S : St) (K : AV → St → Prop) : Prop :=
  uncA vals fun a9001 r9002 => scK a9001 fun s9004 => SV.cP s9004 fun p1 => uncA r9002 fun a9007 r9008 => scK a9007 fun s9010 => SV.cB s9010 fun c5 => uncA r9008 fun a9013 r9014 => scK a9013 fun s9016 => SV.cB s9016 fun c25 => endL r9014 <| F102_11 D J p1 c5 c25 S K
theorem A102_11_ok {D J : Disp} (hD : DOK SynP SynG D) (hJ : JOK SynP SynG Go.Proofs.Tryz.f102 T102 J) {vals : List AV} {S : St} {K : AV → St → Prop} (h0 : A102_11 D J vals S K) : Runs SynP SynG Go.Proofs.Tryz.f102 (T102 11).1 (envOf (T102 11).2 vals) S K := by
  obtain ⟨a9001, r9002, rfl, h3⟩ := uncA_some h0
  obtain ⟨s9004, rfl, h5⟩ := scK_some h3
  obtain ⟨p1, rfl, h6⟩ := cP_some h5
  obtain ⟨a9007, r9008, rfl, h9⟩ := uncA_some h6
  obtain ⟨s9010, rfl, h11⟩ := scK_some h9
  obtain ⟨c5, rfl, h12⟩ := cB_some h11
  obtain ⟨a9013, r9014, rfl, h15⟩ := uncA_some h12
  obtain ⟨s9016, rfl, h17⟩ := scK_some h15
  obtain ⟨c25, rfl, h18⟩ := cB_some h17
  obtain ⟨rfl, h19⟩ := endL_some h18
  rw [F102_11_eq] at h19
  exact execK_runs hD.typed Syn_zero Syn_mixed hJ X102_11 (T102 11).1 (envOf (T102 11).2 _) S K (chk_of (by kernel_rfl) (by kernel_rfl)) h19
noncomputable abbrev A102_14 (D J : Disp) (vals : List AV) (S : St) (K : AV → St → Prop) : Prop :=
  uncA vals fun a9001 r9002 => scK a9001 fun s9004 => SV.cP s9004 fun p1 => uncA r9002 fun a9007 r9008 => scK a9007 fun s9010 => SV.cB s9010 fun c41 => endL r9008 <| F102_14 D J p1 c41 S K
theorem A102_14_ok {D J : Disp} (hD : DOK SynP SynG D) (hJ : JOK SynP SynG Go.Proofs.Tryz.f102 T102 J) {vals : List AV} {S : St} {K : AV → St → Prop} (h0 : A102_14 D J vals S K) : Runs SynP SynG Go.Proofs.Tryz.f102 (T102 14).1 (envOf (T102 14).2 vals) S K := by
  obtain ⟨a9001, r9002, rfl, h3⟩ := uncA_some h0
  obtain ⟨s9004, rfl, h5⟩ := scK_some h3
  obtain ⟨p1, rfl, h6⟩ := cP_some h5
  obtain ⟨a9007, r9008, rfl, h9⟩ := uncA_some h6
  obtain ⟨s9010, rfl, h11⟩ := scK_some h9
  obtain ⟨c41, rfl, h12⟩ := cB_some h11
  obtain ⟨rfl, h13⟩ := endL_some h12
  rw [F102_14_eq] at h13
  exact execK_runs hD.typed Syn_zero Syn_mixed hJ X102_14 (T102 14).1 (envOf (T102 14).2 _) S K (chk_of (by kernel_rfl) (by kernel_rfl)) h13
noncomputable abbrev A102_17 (D J : Disp) (vals : List AV) (S : St) (K : AV → St → Prop) : Prop :=
  uncA vals fun a9001 r9002 => scK a9001 fun s9004 => SV.cB s9004 fun c53 => endL r9002 <| F102_17 D J c53 S K
theorem A102_17_ok {D J : Disp} (hD : DOK SynP SynG D) (hJ : JOK SynP SynG Go.Proofs.Tryz.f102 T102 J) {vals : List AV} {S : St} {K : AV → St → Prop} (h0 : A102_17 D J vals S K) : Runs SynP SynG Go.Proofs.Tryz.f102 (T102 17).1 (envOf (T102 17).2 vals) S K := by
  obtain ⟨a9001, r9002, rfl, h3⟩ := uncA_some h0
  obtain ⟨s9004, rfl, h5⟩ := scK_some h3
  obtain ⟨c53, rfl, h6⟩ := cB_some h5
  obtain ⟨rfl, h7⟩ := endL_some h6
  rw [F102_17_eq] at h7
  exact execK_runs hD.typed Syn_zero Syn_mixed hJ X102_17 (T102 17).1 (envOf (T102 17).2 _) S K (chk_of (by kernel_rfl) (by kernel_rfl)) h7
noncomputable def J102 (D : Disp) (k : Nat) : Disp := Nat.rec (motive := fun _ => Disp) Disp.no (fun _ ih => Disp.add 0 (A102_0 D ih) <| Disp.add 7 (A102_7 D ih) <| Disp.add 11 (A102_11 D ih) <| Disp.add 14 (A102_14 D ih) <| Disp.add 17 (A102_17 D ih) <| Disp.no) k
theorem J102_ok {D : Disp} (hD : DOK SynP SynG D) : ∀ k, JOK SynP SynG Go.Proofs.Tryz.f102 T102 (J102 D k)
  | 0 => JOK.no
  | k + 1 => JOK.add (ltB_ok (by kernel_rfl)) (fun vals S K h => A102_0_ok hD (J102_ok hD k) h) <| JOK.add (ltB_ok (by kernel_rfl)) (fun vals S K h => A102_7_ok hD (J102_ok hD k) h) <| JOK.add (ltB_ok (by kernel_rfl)) (fun vals S K h => A102_11_ok hD (J102_ok hD k) h) <| JOK.add (ltB_ok (by kernel_rfl)) (fun vals S K h => A102_14_ok hD (J102_ok hD k) h) <| JOK.add (ltB_ok (by kernel_rfl)) (fun vals S K h => A102_17_ok hD (J102_ok hD k) h) <| JOK.no
theorem E102_ok {D : Disp} (hD : DOK SynP SynG D) (k : Nat) {args : List AV} {S : St} {K : AV → St → Prop} (h : A102_0 D (J102 D k) args S K) : CallE SynP SynG 102 args S K := by
  have hr := A102_0_ok hD (J102_ok hD k) h
  have hl : args.length = 1 := by
    have h0 := h
    obtain ⟨a9001, r9002, rfl, h3⟩ := uncA_some h0
    obtain ⟨l9004, rfl, h5⟩ := avA_some h3
    obtain ⟨s9006, r9007, rfl, h8⟩ := uncK_some h5
    obtain ⟨x0_0, rfl, h9⟩ := cI_some h8
    obtain ⟨s9010, r9011, rfl, h12⟩ := uncK_some h9
    obtain ⟨x0_1, rfl, h13⟩ := cI_some h12
    obtain ⟨s9014, r9015, rfl, h16⟩ := uncK_some h13
    obtain ⟨s0_2, rfl, h17⟩ := cS_some h16
    obtain ⟨s9018, r9019, rfl, h20⟩ := uncK_some h17
    obtain ⟨s0_3, rfl, h21⟩ := cS_some h20
    obtain ⟨s9022, r9023, rfl, h24⟩ := uncK_some h21
    obtain ⟨x0_4, rfl, h25⟩ := cI_some h24
    obtain ⟨s9026, r9027, rfl, h28⟩ := uncK_some h25
    obtain ⟨c0_5, rfl, h29⟩ := cB_some h28
    obtain ⟨rfl, h30⟩ := endL_some h29
    obtain ⟨rfl, h31⟩ := endL_some h30
    rfl
  refine callOK_of (fn := Go.Proofs.Tryz.f102) (c := (match Go.Proofs.Tryz.f102.body with | some c => c | none => .skip)) (by kernel_rfl) (by kernel_rfl) (by kernel_rfl) (by rw [hl]; kernel_rfl) (by kernel_rfl) ?_
  rw [hl]
  exact hr
noncomputable def plans103 (i : Nat) : Plan := []
noncomputable def T103 (p : Nat) : List Item × List Nat := bif Nat.beq p 0 then ([.code (match Go.Proofs.Tryz.f103.body with | some c => c | none => .skip)], [0]) else
  ([], [])
noncomputable def F103_q0 (D J : Disp) (p0 : PV) (S367 : St) (S392 : St) (K : AV → St → Prop) : Prop :=
 D 92 [(AV.one (V1.s (SV.ptr p0)))] S392 fun v393 S394 =>
 avT v393 fun y396 =>
 uncV y396 fun v397 y398 =>
 v1A v397 fun y401 =>
 req (Nat.beq (List.length y401) 2) <|
 uncK y401 fun v402 y403 =>
 SV.cS v402 fun y408 =>
 uncK y403 fun v409 y410 =>
 SV.cI IntKind.i64 v409 fun x414 =>
 uncV y398 fun v415 y416 =>
 v1S v415 fun v418 =>
 SV.cI IntKind.u64 v418 fun x421 =>
 endL y416 (St.wr S394 (Bk.new (St.next S367)) 2 [(SV.str y408), (SV.int IntKind.i64 x414)] fun S422 =>
 St.wr S422 (Bk.new (St.next S367)) 4 [(SV.int IntKind.u64 x421)] fun S423 =>
 K ((AV.one (V1.s (SV.ptr (PV.mk (Bk.new (St.next S367)) 0))))) S423)
noncomputable def F103_q1 (D J : Disp) (p0 : PV) (S367 : St) (y370 : Bool) (K : AV → St → Prop) : Prop :=
 ifK y370
 (D 63 [(AV.one (V1.s (SV.ptr p0)))] S367 fun v371 S372 =>
 scK v371 fun v374 =>
 SV.cP v374 fun y379 =>
 D 29 [(AV.one (V1.s (SV.ptr p0))), (AV.one (V1.s (SV.str [41])))] S372 fun v380 S381 =>
 avT v380 fun y383 =>
 endL y383 (K ((AV.one (V1.s (SV.ptr y379)))) S381))
 (let S392 : St := (St.add S367 (AO.cells [(SV.str [110, 117, 109]), (SV.str []), (SV.str []), (SV.int IntKind.i64 (0 : Int)), (SV.int IntKind.u64 (0 : Int)), (SV.bool Bool.false), (SV.sl LV.nil)] (Op2.ty 118)));
 F103_q0 D J p0 S367 S392 K)
noncomputable def F103_q2 (D J : Disp) (p0 : PV) (S342 : St) (c350 : Bool) (K : AV → St → Prop) : Prop :=
 ifK c350
 (D 30 [(AV.one (V1.s (SV.ptr p0)))] S342 fun v351 S352 =>
 scK v351 fun v354 =>
 SV.cS v354 fun y358 =>
 let S359 : St := (St.add S352 (AO.cells [(SV.str [110, 97, 109, 101]), (SV.str y358), (SV.str []), (SV.int IntKind.i64 (0 : Int)), (SV.int IntKind.u64 (0 : Int)), (SV.bool Bool.false), (SV.sl LV.nil)] (Op2.ty 118)));
 K ((AV.one (V1.s (SV.ptr (PV.mk (Bk.new (St.next S352)) 0))))) S359)
 (D 32 [(AV.one (V1.s (SV.ptr p0))), (AV.one (V1.s (SV.str [40])))] S342 fun v366 S367 =>
 scK v366 fun v369 =>
 SV.cB v369 fun y370 =>
 F103_q1 D J p0 S367 y370 K)
noncomputable def F103_q3 (D J : Disp) (p0 : PV) (S301 : St) (x310 : Int) (x316 : Int) (y323 : (List Nat)) (y330 : (List Nat)) (x336 : Int) (y340 : Bool) (K : AV → St → Prop) : Prop :=
 let S341 : St := (St.add S301 (AO.cells [(SV.int IntKind.i64 (0 : Int)), (SV.int IntKind.i64 (0 : Int)), (SV.str []), (SV.str []), (SV.int IntKind.u64 (0 : Int)), (SV.bool Bool.false)] (Op2.ty 76)));
 St.wr S341 (Bk.new (St.next S301)) 0 [(SV.int IntKind.i64 x310), (SV.int IntKind.i64 x316), (SV.str y323), (SV.str y330), (SV.int IntKind.u64 x336), (SV.bool y340)] fun S342 =>
 St.at S342 (Bk.new (St.next S301)) 0 fun y343 =>
 uncK y343 fun v344 y345 =>
 SV.cI IntKind.i64 v344 fun x349 =>
 let c350 : Bool := (ieq x349 (1 : Int));
 F103_q2 D J p0 S342 c350 K
noncomputable def F103_q4 (D J : Disp) (S : St) (p0 : PV) (K : AV → St → Prop) : Prop :=
 D 26 [(AV.one (V1.s (SV.ptr p0)))] S fun v300 S301 =>
 avA v300 fun y304 =>
 req (Nat.beq (List.length y304) 6) <|
 uncK y304 fun v305 y306 =>
 SV.cI IntKind.i64 v305 fun x310 =>
 uncK y306 fun v311 y312 =>
 SV.cI IntKind.i64 v311 fun x316 =>
 uncK y312 fun v317 y318 =>
 SV.cS v317 fun y323 =>
 uncK y318 fun v324 y325 =>
 SV.cS v324 fun y330 =>
 uncK y325 fun v331 y332 =>
 SV.cI IntKind.u64 v331 fun x336 =>
 uncK y332 fun v337 y338 =>
 SV.cB v337 fun y340 =>
 F103_q3 D J p0 S301 x310 x316 y323 y330 x336 y340 K
noncomputable def F103_0 (D J : Disp) (p0 : PV) (S : St) (K : AV → St → Prop) : Prop :=
 F103_q4 D J S p0 K
noncomputable def X103_0 : X := (.op (.op (.op (.br (.op .ret) (.op (.br (.op (.op (.op .ret))) (.op (.op (.op .ret)))))))))
theorem F103_0_eq (D J : Disp) (p0 : PV) (S : St) (K : AV → St → Prop) : F103_0 D J p0 S K = execK SynP SynG Go.Proofs.Tryz.f103 (typed SynP D) J plans103 X103_0 (T103 0).1 (envOf (T103 0).2 [(AV.one (V1.s (SV.ptr p0)))]) S K := by kernel_rfl
noncomputable abbrev A103_0 (D J : Disp) (vals : List AV) (S : St) (K : AV → St → Prop) : Prop :=
  uncA vals fun a9001 r9002 => scK a9001 fun s9004 => SV.cP s9004 fun p0 => endL r9002 <| F103_0 D J p0 S K
theorem A103_0_ok {D J : Disp} (hD : DOK SynP SynG D) (hJ : JOK SynP SynG Go.Proofs.Tryz.f103 T103 J) {vals : List AV} {S : St} {K : AV → St → Prop} (h0 : A103_0 D J vals S K) : Runs SynP SynG Go.Proofs.Tryz.f103 (T103 0).1 (envOf (T103 0).2 vals) S K := by
  obtain ⟨a9001, r9002, rfl, h3⟩ := uncA_some h0
  obtain ⟨s9004, rfl, h5⟩ := scK_some h3
  obtain ⟨p0, rfl, h6⟩ := cP_some h5
  obtain ⟨rfl, h7⟩ := endL_some h6
  rw [F103_0_eq] at h7
  exact execK_runs hD.typed Syn_zero Syn_mixed hJ X103_0 (T103 0).1 (envOf (T103 0).2 _) S K (chk_of (by kernel_rfl) (by kernel_rfl)) h7
noncomputable def J103 (D : Disp) (k : Nat) : Disp := Nat.rec (motive := fun _ => Disp) Disp.no (fun _ ih => Disp.add 0 (A103_0 D ih) <| Disp.no) k
theorem J103_ok {D : Disp} (hD : DOK SynP SynG D) : ∀ k, JOK SynP SynG Go.Proofs.Tryz.f103 T103 (J103 D k)
  | 0 => JOK.no
  | k + 1 => JOK.add (ltB_ok (by kernel_rfl)) (fun vals S K h => A103_0_ok hD (J103_ok hD k) h) <| JOK.no
theorem E103_ok {D : Disp} (hD : DOK SynP SynG D) (k : Nat) {args : List AV} {S : St} {K : AV → St → Prop} (h : A103_0 D (J103 D k) args S K) : CallE SynP SynG 103 args S K := by
  have hr := A103_0_ok hD (J103_ok hD k) h
  have hl : args.length = 1 := by
    have h0 := h
    obtain ⟨a9001, r9002, rfl, h3⟩ := uncA_some h0
    obtain ⟨s9004, rfl, h5⟩ := scK_some h3
    obtain ⟨p0, rfl, h6⟩ := cP_some h5
    obtain ⟨rfl, h7⟩ := endL_some h6
    rfl
  refine callOK_of (fn := Go.Proofs.Tryz.f103) (c := (match Go.Proofs.Tryz.f103.body with | some c => c | none => .skip)) (by kernel_rfl) (by kernel_rfl) (by kernel_rfl) (by rw [hl]; kernel_rfl) (by kernel_rfl) ?_
  rw [hl]
  exact hr
noncomputable def plans43 (i : Nat) : Plan := []
noncomputable def T43 (p : Nat) : List Item × List Nat := bif Nat.beq p 0 then ([.code (match Go.Proofs.Tryz.f43.body with | some c => c | none => .skip)], [0, 1]) else
  ([], [])
noncomputable def F43_q0 (D J : Disp) (S : St) (p0 : PV) (s1 : (List Nat)) (K : AV → St → Prop) : Prop :=
 D 65 [(AV.one (V1.s (SV.ptr p0)))] S fun v300 S301 =>
 avT v300 fun y303 =>
 endL y303 (PV.cs p0 fun b304 n305 =>
 let n306 : Nat := (n305 + 1);
 St.at S301 b304 n306 fun y307 =>
 uncK y307 fun v308 y309 =>
 SV.cL v308 fun y316 =>
 St.app S301 5 1 1 y316 (byteCells s1) (List.length s1) fun y317 S318 =>
 PV.cs p0 fun b319 n320 =>
 let n321 : Nat := (n320 + 1);
 St.wr S318 b319 n321 [(SV.sl y317)] fun S322 =>
 let x323 : Int := (Int.ofNat (List.length s1));
 K (AV.any) S322)
noncomputable def F43_0 (D J : Disp) (p0 : PV) (s1 : (List Nat)) (S : St) (K : AV → St → Prop) : Prop :=
 F43_q0 D J S p0 s1 K
noncomputable def X43_0 : X := (.op (.op (.op (.op .ret))))
theorem F43_0_eq (D J : Disp) (p0 : PV) (s1 : (List Nat)) (S : St) (K : AV → St → Prop) : F43_0 D J p0 s1 S K = execK SynP SynG Go.Proofs.Tryz.f43 (typed SynP D) J plans43 X43_0 (T43 0).1 (envOf (T43 0).2 [(AV.one (V1.s (SV.ptr p0))), (AV.one (V1.s (SV.str s1)))]) S K := by kernel_rfl
noncomputable abbrev A43_0 (D J : Disp) (vals : List AV) (S : St) (K : AV → St → Prop) : Prop :=
  uncA vals fun a9001 r9002 => scK a9001 fun s9004 => SV.cP s9004 fun p0 => uncA r9002 fun a9007 r9008 => scK a9007 fun s9010 => SV.cS s9010 fun s1 => endL r9008 <| F43_0 D J p0 s1 S K
theorem A43_0_ok {D J : Disp} (hD : DOK SynP SynG D) (hJ : JOK SynP SynG Go.Proofs.Tryz.f43 T43 J) {vals : List AV} {S : St} {K : AV → St → Prop} (h0 : A43_0 D J vals S K) : Runs SynP SynG Go.Proofs.Tryz.f43 (T43 0).1 (envOf (T43 0).2 vals) S K := by
  obtain ⟨a9001, r9002, rfl, h3⟩ := uncA_some h0
  obtain ⟨s9004, rfl, h5⟩ := scK_some h3
  obtain ⟨p0, rfl, h6⟩ := cP_some h5
  obtain ⟨a9007, r9008, rfl, h9⟩ := uncA_some h6
  obtain ⟨s9010, rfl, h11⟩ := scK_some h9
  obtain ⟨s1, rfl, h12⟩ := cS_some h11
  obtain ⟨rfl, h13⟩ := endL_some h12
  rw [F43_0_eq] at h13
  exact execK_runs hD.typed Syn_zero Syn_mixed hJ X43_0 (T43 0).1 (envOf (T43 0).2 _) S K (chk_of (by kernel_rfl) (by kernel_rfl)) h13
noncomputable def J43 (D : Disp) (k : Nat) : Disp := Nat.rec (motive := fun _ => Disp) Disp.no (fun _ ih => Disp.add 0 (A43_0 D ih) <| Disp.no) k
theorem J43_ok {D : Disp} (hD : DOK SynP SynG D) : ∀ k, JOK SynP SynG Go.Proofs.Tryz.f43 T43 (J43 D k)
  | 0 => JOK.no
  | k + 1 => JOK.add (ltB_ok (by kernel_rfl)) (fun vals S K h => A43_0_ok hD (J43_ok hD k) h) <| JOK.no
theorem E43_ok {D : Disp} (hD : DOK SynP SynG D) (k : Nat) {args : List AV} {S : St} {K : AV → St → Prop} (h : A43_0 D (J43 D k) args S K) : CallE SynP SynG 43 args S K := by
  have hr := A43_0_ok hD (J43_ok hD k) h
  have hl : args.length = 2 := by
    have h0 := h
    obtain ⟨a9001, r9002, rfl, h3⟩ := uncA_some h0
    obtain ⟨s9004, rfl, h5⟩ := scK_some h3
    obtain ⟨p0, rfl, h6⟩ := cP_some h5
    obtain ⟨a9007, r9008, rfl, h9⟩ := uncA_some h6
    obtain ⟨s9010, rfl, h11⟩ := scK_some h9
    obtain ⟨s1, rfl, h12⟩ := cS_some h11
    obtain ⟨rfl, h13⟩ := endL_some h12
    rfl
  refine callOK_of (fn := Go.Proofs.Tryz.f43) (c := (match Go.Proofs.Tryz.f43.body with | some c => c | none => .skip)) (by kernel_rfl) (by kernel_rfl) (by kernel_rfl) (by rw [hl]; kernel_rfl) (by kernel_rfl) ?_
  rw [hl]
  exact hr
noncomputable def plans50 (i : Nat) : Plan := []
noncomputable def T50 (p : Nat) : List Item × List Nat := bif Nat.beq p 0 then ([.code (match Go.Proofs.Tryz.f50.body with | some c => c | none => .skip)], [0, 1]) else
  ([], [])
noncomputable def F50_0 (D J : Disp) (s0 : (List Nat)) (s1 : (List Nat)) (S : St) (K : AV → St → Prop) : Prop :=
 D 69 [(AV.one (V1.s (SV.str s0))), (AV.one (V1.s (SV.str s1)))] S fun v300 S301 =>
 scK v300 fun v303 =>
 SV.cB v303 fun y304 =>
 K ((AV.one (V1.s (SV.bool y304)))) S301
noncomputable def X50_0 : X := (.op (.op .ret))
theorem F50_0_eq (D J : Disp) (s0 : (List Nat)) (s1 : (List Nat)) (S : St) (K : AV → St → Prop) : F50_0 D J s0 s1 S K = execK SynP SynG Go.Proofs.Tryz.f50 (typed SynP D) J plans50 X50_0 (T50 0).1 (envOf (T50 0).2 [(AV.one (V1.s (SV.str s0))), (AV.one (V1.s (SV.str s1)))]) S K := by kernel_rfl
noncomputable abbrev A50_0 (D J : Disp) (vals : List AV) (S : St) (K : AV → St → Prop) : Prop :=
  uncA vals fun a9001 r9002 => scK a9001 fun s9004 => SV.cS s9004 fun s0 => uncA r9002 fun a9007 r9008 => scK a9007 fun s9010 => SV.cS s9010 fun s1 => endL r9008 <| F50_0 D J s0 s1 S K
theorem A50_0_ok {D J : Disp} (hD : DOK SynP SynG D) (hJ : JOK SynP SynG Go.Proofs.Tryz.f50 T50 J) {vals : List AV} {S : St} {K : AV → St → Prop} (h0 : A50_0 D J vals S K) : Runs SynP SynG Go.Proofs.Tryz.f50 (T50 0).1 (envOf (T50 0).2 vals) S K := by
  obtain ⟨a9001, r9002, rfl, h3⟩ := uncA_some h0
  obtain ⟨s9004, rfl, h5⟩ := scK_some h3
  obtain ⟨s0, rfl, h6⟩ := cS_some h5
  obtain ⟨a9007, r9008, rfl, h9⟩ := uncA_some h6
  obtain ⟨s9010, rfl, h11⟩ := scK_some h9
  obtain ⟨s1, rfl, h12⟩ := cS_some h11
  obtain ⟨rfl, h13⟩ := endL_some h12
  rw [F50_0_eq] at h13
  exact execK_runs hD.typed Syn_zero Syn_mixed hJ X50_0 (T50 0).1 (envOf (T50 0).2 _) S K (chk_of (by kernel_rfl) (by kernel_rfl)) h13
noncomputable def J50 (D : Disp) (k : Nat) : Disp := Nat.rec (motive := fun _ => Disp) Disp.no (fun _ ih => Disp.add 0 (A50_0 D ih) <| Disp.no) k
theorem J50_ok {D : Disp} (hD : DOK SynP SynG D) : ∀ k, JOK SynP SynG Go.Proofs.Tryz.f50 T50 (J50 D k)
  | 0 => JOK.no
  | k + 1 => JOK.add (ltB_ok (by kernel_rfl)) (fun vals S K h => A50_0_ok hD (J50_ok hD k) h) <| JOK.no
theorem E50_ok {D : Disp} (hD : DOK SynP SynG D) (k : Nat) {args : List AV} {S : St} {K : AV → St → Prop} (h : A50_0 D (J50 D k) args S K) : CallE SynP SynG 50 args S K := by
  have hr := A50_0_ok hD (J50_ok hD k) h
  have hl : args.length = 2 := by
    have h0 := h
    obtain ⟨a9001, r9002, rfl, h3⟩ := uncA_some h0
    obtain ⟨s9004, rfl, h5⟩ := scK_some h3
    obtain ⟨s0, rfl, h6⟩ := cS_some h5
    obtain ⟨a9007, r9008, rfl, h9⟩ := uncA_some h6
    obtain ⟨s9010, rfl, h11⟩ := scK_some h9
    obtain ⟨s1, rfl, h12⟩ := cS_some h11
    obtain ⟨rfl, h13⟩ := endL_some h12
    rfl
  refine callOK_of (fn := Go.Proofs.Tryz.f50) (c := (match Go.Proofs.Tryz.f50.body with | some c => c | none => .skip)) (by kernel_rfl) (by kernel_rfl) (by kernel_rfl) (by rw [hl]; kernel_rfl) (by kernel_rfl) ?_
  rw [hl]
  exact hr
noncomputable def plans67 (i : Nat) : Plan := []
noncomputable def T67 (p : Nat) : List Item × List Nat := bif Nat.beq p 0 then ([.code (match Go.Proofs.Tryz.f67.body with | some c => c | none => .skip)], [0, 1]) else
  ([], [])
noncomputable def F67_0 (D J : Disp) (x0 : Int) (x1 : Int) (S : St) (K : AV → St → Prop) : Prop :=
 D 86 [(AV.one (V1.s (SV.int IntKind.u64 x0))), (AV.one (V1.s (SV.int IntKind.i64 x1)))] S fun v300 S301 =>
 scK v300 fun v303 =>
 SV.cS v303 fun y307 =>
 K ((AV.one (V1.s (SV.str y307)))) S301
noncomputable def X67_0 : X := (.op (.op .ret))
theorem F67_0_eq (D J : Disp) (x0 : Int) (x1 : Int) (S : St) (K : AV → St → Prop) : F67_0 D J x0 x1 S K = execK SynP SynG Go.Proofs.Tryz.f67 (typed SynP D) J plans67 X67_0 (T67 0).1 (envOf (T67 0).2 [(AV.one (V1.s (SV.int IntKind.u64 x0))), (AV.one (V1.s (SV.int IntKind.i64 x1)))]) S K := by kernel_rfl
noncomputable abbrev A67_0 (D J : Disp) (vals : List AV) (S : St) (K : AV → St → Prop) : Prop :=
  uncA vals fun a9001 r9002 => scK a9001 fun s9004 => SV.cI IntKind.u64 s9004 fun x0 => uncA r9002 fun a9007 r9008 => scK a9007 fun s9010 => SV.cI IntKind.i64 s9010 fun x1 => endL r9008 <| F67_0 D J x0 x1 S K
theorem A67_0_ok {D J : Disp} (hD : DOK SynP SynG D) (hJ : JOK SynP SynG Go.Proofs.Tryz.f67 T67 J) {vals : List AV} {S : St} {K : AV → St → Prop} (h0 : A67_0 D J vals S K) : Runs SynP SynG Go.Proofs.Tryz.f67 (T67 0).1 (envOf (T67 0).2 vals) S K := by
  obtain ⟨a9001, r9002, rfl, h3⟩ := uncA_some h0
  obtain ⟨s9004, rfl, h5⟩ := scK_some h3
  obtain ⟨x0, rfl, h6⟩ := cI_some h5
  obtain ⟨a9007, r9008, rfl, h9⟩ := uncA_some h6
  obtain ⟨s9010, rfl, h11⟩ := scK_some h9
  obtain ⟨x1, rfl, h12⟩ := cI_some h11
  obtain ⟨rfl, h13⟩ := endL_some h12
  rw [F67_0_eq] at h13
  exact execK_runs hD.typed Syn_zero Syn_mixed hJ X67_0 (T67 0).1 (envOf (T67 0).2 _) S K (chk_of (by kernel_rfl) (by kernel_rfl)) h13
noncomputable def J67 (D : Disp) (k : Nat) : Disp := Nat.rec (motive := fun _ => Disp) Disp.no (fun _ ih => Disp.add 0 (A67_0 D ih) <| Disp.no) k
theorem J67_ok {D : Disp} (hD : DOK SynP SynG D) : ∀ k, JOK SynP SynG Go.Proofs.Tryz.f67 T67 (J67 D k)
  | 0 => JOK.no
  | k + 1 => JOK.add (ltB_ok (by kernel_rfl)) (fun vals S K h => A67_0_ok hD (J67_ok hD k) h) <| JOK.no
theorem E67_ok {D : Disp} (hD : DOK SynP SynG D) (k : Nat) {args : List AV} {S : St} {K : AV → St → Prop} (h : A67_0 D (J67 D k) args S K) : CallE SynP SynG 67 args S K := by
  have hr := A67_0_ok hD (J67_ok hD k) h
  have hl : args.length = 2 := by
    have h0 := h
    obtain ⟨a9001, r9002, rfl, h3⟩ := uncA_some h0
    obtain ⟨s9004, rfl, h5⟩ := scK_some h3
    obtain ⟨x0, rfl, h6⟩ := cI_some h5
    obtain ⟨a9007, r9008, rfl, h9⟩ := uncA_some h6
    obtain ⟨s9010, rfl, h11⟩ := scK_some h9
    obtain ⟨x1, rfl, h12⟩ := cI_some h11
    obtain ⟨rfl, h13⟩ := endL_some h12
    rfl
  refine callOK_of (fn := Go.Proofs.Tryz.f67) (c := (match Go.Proofs.Tryz.f67.body with | some c => c | none => .skip)) (by kernel_rfl) (by kernel_rfl) (by kernel_rfl) (by rw [hl]; kernel_rfl) (by kernel_rfl) ?_
  rw [hl]
  exact hr
noncomputable def plans69 (i : Nat) : Plan := []
noncomputable def T69 (p : Nat) : List Item × List Nat := bif Nat.beq p 0 then ([.code (match Go.Proofs.Tryz.f69.body with | some c => c | none => .skip)], [0, 1]) else
  ([], [])
noncomputable def F69_q0 (D J : Disp) (S : St) (s0 : (List Nat)) (s1 : (List Nat)) (K : AV → St → Prop) : Prop :=
 let x303 : Int := (Int.ofNat (List.length s1));
 req (Bool.and Bool.true (Bool.and (ile (0 : Int) (oInt (Option.some x303) (Int.ofNat (List.length s0)))) (ile (oInt (Option.some x303) (Int.ofNat (List.length s0))) (Int.ofNat (List.length s0))))) <|
 let s304 : (List Nat) := (List.take ((Int.toNat (oInt (Option.some x303) (Int.ofNat (List.length s0)))) - 0) (List.drop 0 s0));
 let c305 : Bool := (leq s304 s1);
 K ((AV.one (V1.s (SV.bool c305)))) S
noncomputable def F69_0 (D J : Disp) (s0 : (List Nat)) (s1 : (List Nat)) (S : St) (K : AV → St → Prop) : Prop :=
 let x300 : Int := (Int.ofNat (List.length s0));
 let x301 : Int := (Int.ofNat (List.length s1));
 let c302 : Bool := (ile x301 x300);
 ifK c302
 (F69_q0 D J S s0 s1 K)
 (K ((AV.one (V1.s (SV.bool Bool.false)))) S)
noncomputable def X69_0 : X := (.op (.op .ret))
theorem F69_0_eq (D J : Disp) (s0 : (List Nat)) (s1 : (List Nat)) (S : St) (K : AV → St → Prop) : F69_0 D J s0 s1 S K = execK SynP SynG Go.Proofs.Tryz.f69 (typed SynP D) J plans69 X69_0 (T69 0).1 (envOf (T69 0).2 [(AV.one (V1.s (SV.str s0))), (AV.one (V1.s (SV.str s1)))]) S K := by kernel_rfl
noncomputable abbrev A69_0 (D J : Disp) (vals : List AV) (S : St) (K : AV → St → Prop) : Prop :=
  uncA vals fun a9001 r9002 => scK a9001 fun s9004 => SV.cS s9004 fun s0 => uncA r9002 fun a9007 r9008 => scK a9007 fun s9010 => SV.cS s9010 fun s1 => endL r9008 <| F69_0 D J s0 s1 S K
theorem A69_0_ok {D J : Disp} (hD : DOK SynP SynG D) (hJ : JOK SynP SynG Go.Proofs.Tryz.f69 T69 J) {vals : List AV} {S : St} {K : AV → St → Prop} (h0 : A69_0 D J vals S K) : Runs SynP SynG Go.Proofs.Tryz.f69 (T69 0).1 (envOf (T69 0).2 vals) S K := by
  obtain ⟨a9001, r9002, rfl, h3⟩ := uncA_some h0
  obtain ⟨s9004, rfl, h5⟩ := scK_some h3
  obtain ⟨s0, rfl, h6⟩ := cS_some h5
  obtain ⟨a9007, r9008, rfl, h9⟩ := uncA_some h6
  obtain ⟨s9010, rfl, h11⟩ := scK_some h9
  obtain ⟨s1, rfl, h12⟩ := cS_some h11
  obtain ⟨rfl, h13⟩ := endL_some h12
  rw [F69_0_eq] at h13
  exact execK_runs hD.typed Syn_zero Syn_mixed hJ X69_0 (T69 0).1 (envOf (T69 0).2 _) S K (chk_of (by kernel_rfl) (by kernel_rfl)) h13
noncomputable def J69 (D : Disp) (k : Nat) : Disp := Nat.rec (motive := fun _ => Disp) Disp.no (fun _ ih => Disp.add 0 (A69_0 D ih) <| Disp.no) k
theorem J69_ok {D : Disp} (hD : DOK SynP SynG D) : ∀ k, JOK SynP SynG Go.Proofs.Tryz.f69 T69 (J69 D k)
  | 0 => JOK.no
  | k + 1 => JOK.add (ltB_ok (by kernel_rfl)) (fun vals S K h => A69_0_ok hD (J69_ok hD k) h) <| JOK.no
theorem E69_ok {D : Disp} (hD : DOK SynP SynG D) (k : Nat) {args : List AV} {S : St} {K : AV → St → Prop} (h : A69_0 D (J69 D k) args S K) : CallE SynP SynG 69 args S K := by
  have hr := A69_0_ok hD (J69_ok hD k) h
  have hl : args.length = 2 := by
    have h0 := h
    obtain ⟨a9001, r9002, rfl, h3⟩ := uncA_some h0
    obtain ⟨s9004, rfl, h5⟩ := scK_some h3
    obtain ⟨s0, rfl, h6⟩ := cS_some h5
    obtain ⟨a9007, r9008, rfl, h9⟩ := uncA_some h6
    obtain ⟨s9010, rfl, h11⟩ := scK_some h9
    obtain ⟨s1, rfl, h12⟩ := cS_some h11
    obtain ⟨rfl, h13⟩ := endL_some h12
    rfl
  refine callOK_of (fn := Go.Proofs.Tryz.f69) (c := (match Go.Proofs.Tryz.f69.body with | some c => c | none => .skip)) (by kernel_rfl) (by kernel_rfl) (by kernel_rfl) (by rw [hl]; kernel_rfl) (by kernel_rfl) ?_
  rw [hl]
  exact hr
noncomputable def plans86 (i : Nat) : Plan := []
noncomputable def T86 (p : Nat) : List Item × List Nat := bif Nat.beq p 0 then ([.code (match Go.Proofs.Tryz.f86.body with | some c => c | none => .skip)], [0, 1]) else
  ([], [])
noncomputable def F86_q0 (D J : Disp) (S : St) (x0 : Int) (K : AV → St → Prop) : Prop :=
 let S317 : St := (St.add S (AO.cells [(SV.int IntKind.u8 (0 : Int)), (SV.int IntKind.u8 (0 : Int)), (SV.int IntKind.u8 (0 : Int)), (SV.int IntKind.u8 (0 : Int)), (SV.int IntKind.u8 (0 : Int)), (SV.int IntKind.u8 (0 : Int)), (SV.int IntKind.u8 (0 : Int)), (SV.int IntKind.u8 (0 : Int)), (SV.int IntKind.u8 (0 : Int)), (SV.int IntKind.u8 (0 : Int)), (SV.int IntKind.u8 (0 : Int)), (SV.int IntKind.u8 (0 : Int)), (SV.int IntKind.u8 (0 : Int)), (SV.int IntKind.u8 (0 : Int)), (SV.int IntKind.u8 (0 : Int)), (SV.int IntKind.u8 (0 : Int)), (SV.int IntKind.u8 (0 : Int)), (SV.int IntKind.u8 (0 : Int)), (SV.int IntKind.u8 (0 : Int)), (SV.int IntKind.u8 (0 : Int)), (SV.int IntKind.u8 (0 : Int)), (SV.int IntKind.u8 (0 : Int)), (SV.int IntKind.u8 (0 : Int)), (SV.int IntKind.u8 (0 : Int))] (Op2.ty 148)));
 D 98 [(AV.one (V1.s (SV.int IntKind.u64 x0)))] S317 fun v318 S319 =>
 scK v318 fun v321 =>
 SV.cI IntKind.i64 v321 fun x324 =>
 False
noncomputable def F86_q1 (D J : Disp) (S : St) (x0 : Int) (x1 : Int) (K : AV → St → Prop) : Prop :=
 D 100 [(AV.one (V1.s (SV.sl LV.nil))), (AV.one (V1.s (SV.int IntKind.u64 x0))), (AV.one (V1.s (SV.int IntKind.i64 x1))), (AV.one (V1.s (SV.bool Bool.false))), (AV.one (V1.s (SV.bool Bool.false)))] S fun v332 S333 =>
 avT v332 fun y335 =>
 uncV y335 fun v336 y337 =>
 v1S v336 fun v339 =>
 SV.cL v339 fun y345 =>
 uncV y337 fun v346 y347 =>
 v1S v346 fun v349 =>
 SV.cS v349 fun y353 =>
 endL y347 (K ((AV.one (V1.s (SV.str y353)))) S333)
noncomputable def F86_0 (D J : Disp) (x0 : Int) (x1 : Int) (S : St) (K : AV → St → Prop) : Prop :=
 let c300 : Bool := (ieq x1 (10 : Int));
 ifK c300
 (let c301 : Bool := (ilt x0 (100 : Int));
 ifK c301
 (let x302 : Int := (iwrap IntKind.i64 x0);
 D 97 [(AV.one (V1.s (SV.int IntKind.i64 x302)))] S fun v303 S304 =>
 scK v303 fun v306 =>
 SV.cS v306 fun y310 =>
 K ((AV.one (V1.s (SV.str y310)))) S304)
 (F86_q0 D J S x0 K))
 (F86_q1 D J S x0 x1 K)
noncomputable def X86_0 : X := (.op (.op (.br (.op (.br (.op .ret) (.op (.op (.op .ret))))) (.op (.op .ret)))))
theorem F86_0_eq (D J : Disp) (x0 : Int) (x1 : Int) (S : St) (K : AV → St → Prop) : F86_0 D J x0 x1 S K = execK SynP SynG Go.Proofs.Tryz.f86 (typed SynP D) J plans86 X86_0 (T86 0).1 (envOf (T86 0).2 [(AV.one (V1.s (SV.int IntKind.u64 x0))), (AV.one (V1.s (SV.int IntKind.i64 x1)))]) S K := by kernel_rfl
noncomputable abbrev A86_0 (D J : Disp) (vals : List AV) (S : St) (K : AV → St → Prop) : Prop :=
  uncA vals fun a9001 r9002 => scK a9001 fun s9004 => SV.cI IntKind.u64 s9004 fun x0 => uncA r9002 fun a9007 r9008 => scK a9007 fun s9010 => SV.cI IntKind.i64 s9010 fun x1 => endL r9008 <| F86_0 D J x0 x1 S K
theorem A86_0_ok {D J : Disp} (hD : DOK SynP SynG D) (hJ : JOK SynP SynG Go.Proofs.Tryz.f86 T86 J) {vals : List AV} {S : St} {K : AV → St → Prop} (h0 : A86_0 D J vals S K) : Runs SynP SynG Go.Proofs.Tryz.f86 (T86 0).1 (envOf (T86 0).2 vals) S K := by
  obtain ⟨a9001, r9002, rfl, h3⟩ := uncA_some h0
  obtain ⟨s9004, rfl, h5⟩ := scK_some h3
  obtain ⟨x0, rfl, h6⟩ := cI_some h5
  obtain ⟨a9007, r9008, rfl, h9⟩ := uncA_some h6
  obtain ⟨s9010, rfl, h11⟩ := scK_some h9
  obtain ⟨x1, rfl, h12⟩ := cI_some h11
  obtain ⟨rfl, h13⟩ := endL_some h12
  rw [F86_0_eq] at h13
  exact execK_runs hD.typed Syn_zero Syn_mixed hJ X86_0 (T86 0).1 (envOf (T86 0).2 _) S K (chk_of (by kernel_rfl) (by kernel_rfl)) h13
noncomputable def J86 (D : Disp) (k : Nat) : Disp := Nat.rec (motive := fun _ => Disp) Disp.no (fun _ ih => Disp.add 0 (A86_0 D ih) <| Disp.no) k
theorem J86_ok {D : Disp} (hD : DOK SynP SynG D) : ∀ k, JOK SynP SynG Go.Proofs.Tryz.f86 T86 (J86 D k)
  | 0 => JOK.no
  | k + 1 => JOK.add (ltB_ok (by kernel_rfl)) (fun vals S K h => A86_0_ok hD (J86_ok hD k) h) <| JOK.no
theorem E86_ok {D : Disp} (hD : DOK SynP SynG D) (k : Nat) {args : List AV} {S : St} {K : AV → St → Prop} (h : A86_0 D (J86 D k) args S K) : CallE SynP SynG 86 args S K := by
  have hr := A86_0_ok hD (J86_ok hD k) h
  have hl : args.length = 2 := by
    have h0 := h
    obtain ⟨a9001, r9002, rfl, h3⟩ := uncA_some h0
    obtain ⟨s9004, rfl, h5⟩ := scK_some h3
    obtain ⟨x0, rfl, h6⟩ := cI_some h5
    obtain ⟨a9007, r9008, rfl, h9⟩ := uncA_some h6
    obtain ⟨s9010, rfl, h11⟩ := scK_some h9
    obtain ⟨x1, rfl, h12⟩ := cI_some h11
    obtain ⟨rfl, h13⟩ := endL_some h12
    rfl
  refine callOK_of (fn := Go.Proofs.Tryz.f86) (c := (match Go.Proofs.Tryz.f86.body with | some c => c | none => .skip)) (by kernel_rfl) (by kernel_rfl) (by kernel_rfl) (by rw [hl]; kernel_rfl) (by kernel_rfl) ?_
  rw [hl]
  exact hr
noncomputable def plans97 (i : Nat) : Plan := []
noncomputable def T97 (p : Nat) : List Item × List Nat := bif Nat.beq p 0 then ([.code (match Go.Proofs.Tryz.f97.body with | some c => c | none => .skip)], [0]) else
  ([], [])
noncomputable def F97_q0 (D J : Disp) (S : St) (x0 : Int) (x301 : Int) (K : AV → St → Prop) : Prop :=
 req (Bool.and (ile (0 : Int) (oInt (Option.some x0) (0 : Int))) (Bool.and (ile (oInt (Option.some x0) (0 : Int)) (oInt (Option.some x301) (36 : Int))) (ile (oInt (Option.some x301) (36 : Int)) (36 : Int)))) <|
 let s302 : (List Nat) := (List.take ((Int.toNat (oInt (Option.some x301) (36 : Int))) - (Int.toNat (oInt (Option.some x0) (0 : Int)))) (List.drop (Int.toNat (oInt (Option.some x0) (0 : Int))) [48, 49, 50, 51, 52, 53, 54, 55, 56, 57, 97, 98, 99, 100, 101, 102, 103, 104, 105, 106, 107, 108, 109, 110, 111, 112, 113, 114, 115, 116, 117, 118, 119, 120, 121, 122]));
 K ((AV.one (V1.s (SV.str s302)))) S
noncomputable def F97_q1 (D J : Disp) (S : St) (x303 : Int) (x305 : Int) (K : AV → St → Prop) : Prop :=
 req (Bool.and (ile (0 : Int) (oInt (Option.some x303) (0 : Int))) (Bool.and (ile (oInt (Option.some x303) (0 : Int)) (oInt (Option.some x305) (200 : Int))) (ile (oInt (Option.some x305) (200 : Int)) (200 : Int)))) <|
 let s306 : (List Nat) := (List.take ((Int.toNat (oInt (Option.some x305) (200 : Int))) - (Int.toNat (oInt (Option.some x303) (0 : Int)))) (List.drop (Int.toNat (oInt (Option.some x303) (0 : Int))) [48, 48, 48, 49, 48, 50, 48, 51, 48, 52, 48, 53, 48, 54, 48, 55, 48, 56, 48, 57, 49, 48, 49, 49, 49, 50, 49, 51, 49, 52, 49, 53, 49, 54, 49, 55, 49, 56, 49, 57, 50, 48, 50, 49, 50, 50, 50, 51, 50, 52, 50, 53, 50, 54, 50, 55, 50, 56, 50, 57, 51, 48, 51, 49, 51, 50, 51, 51, 51, 52, 51, 53, 51, 54, 51, 55, 51, 56, 51, 57, 52, 48, 52, 49, 52, 50, 52, 51, 52, 52, 52, 53, 52, 54, 52, 55, 52, 56, 52, 57, 53, 48, 53, 49, 53, 50, 53, 51, 53, 52, 53, 53, 53, 54, 53, 55, 53, 56, 53, 57, 54, 48, 54, 49, 54, 50, 54, 51, 54, 52, 54, 53, 54, 54, 54, 55, 54, 56, 54, 57, 55, 48, 55, 49, 55, 50, 55, 51, 55, 52, 55, 53, 55, 54, 55, 55, 55, 56, 55, 57, 56, 48, 56, 49, 56, 50, 56, 51, 56, 52, 56, 53, 56, 54, 56, 55, 56, 56, 56, 57, 57, 48, 57, 49, 57, 50, 57, 51, 57, 52, 57, 53, 57, 54, 57, 55, 57, 56, 57, 57]));
 K ((AV.one (V1.s (SV.str s306)))) S
noncomputable def F97_0 (D J : Disp) (x0 : Int) (S : St) (K : AV → St → Prop) : Prop :=
 let c300 : Bool := (ilt x0 (10 : Int));
 ifK c300
 (let x301 : Int := (iwrap IntKind.i64 (x0 + (1 : Int)));
 F97_q0 D J S x0 x301 K)
 (let x303 : Int := (iwrap IntKind.i64 (x0 * (2 : Int)));
 let x304 : Int := (iwrap IntKind.i64 (x0 * (2 : Int)));
 let x305 : Int := (iwrap IntKind.i64 (x304 + (2 : Int)));
 F97_q1 D J S x303 x305 K)
noncomputable def X97_0 : X := (.op (.op (.br (.op .ret) (.op .ret))))
theorem F97_0_eq (D J : Disp) (x0 : Int) (S : St) (K : AV → St → Prop) : F97_0 D J x0 S K = execK SynP SynG Go.Proofs.Tryz.f97 (typed SynP D) J plans97 X97_0 (T97 0).1 (envOf (T97 0).2 [(AV.one (V1.s (SV.int IntKind.i64 x0)))]) S K := by kernel_rfl
noncomputable abbrev A97_0 (D J : Disp) (vals : List AV) (S : St) (K : AV → St → Prop) : Prop :=
  uncA vals fun a9001 r9002 => scK a9001 fun s9004 => SV.cI IntKind.i64 s9004 fun x0 => endL r9002 <| F97_0 D J x0 S K
theorem A97_0_ok {D J : Disp} (hD : DOK SynP SynG D) (hJ : JOK SynP SynG Go.Proofs.Tryz.f97 T97 J) {vals : List AV} {S : St} {K : AV → St → Prop} (h0 : A97_0 D J vals S K) : Runs SynP SynG Go.Proofs.Tryz.f97 (T97 0).1 (envOf (T97 0).2 vals) S K := by
  obtain ⟨a9001, r9002, rfl, h3⟩ := uncA_some h0
  obtain ⟨s9004, rfl, h5⟩ := scK_some h3
  obtain ⟨x0, rfl, h6⟩ := cI_some h5
  obtain ⟨rfl, h7⟩ := endL_some h6
  rw [F97_0_eq] at h7
  exact execK_runs hD.typed Syn_zero Syn_mixed hJ X97_0 (T97 0).1 (envOf (T97 0).2 _) S K (chk_of (by kernel_rfl) (by kernel_rfl)) h7
noncomputable def J97 (D : Disp) (k : Nat) : Disp := Nat.rec (motive := fun _ => Disp) Disp.no (fun _ ih => Disp.add 0 (A97_0 D ih) <| Disp.no) k
theorem J97_ok {D : Disp} (hD : DOK SynP SynG D) : ∀ k, JOK SynP SynG Go.Proofs.Tryz.f97 T97 (J97 D k)
  | 0 => JOK.no
  | k + 1 => JOK.add (ltB_ok (by kernel_rfl)) (fun vals S K h => A97_0_ok hD (J97_ok hD k) h) <| JOK.no
theorem E97_ok {D : Disp} (hD : DOK SynP SynG D) (k : Nat) {args : List AV} {S : St} {K : AV → St → Prop} (h : A97_0 D (J97 D k) args S K) : CallE SynP SynG 97 args S K := by
  have hr := A97_0_ok hD (J97_ok hD k) h
  have hl : args.length = 1 := by
    have h0 := h
    obtain ⟨a9001, r9002, rfl, h3⟩ := uncA_some h0
    obtain ⟨s9004, rfl, h5⟩ := scK_some h3
    obtain ⟨x0, rfl, h6⟩ := cI_some h5
    obtain ⟨rfl, h7⟩ := endL_some h6
    rfl
  refine callOK_of (fn := Go.Proofs.Tryz.f97) (c := (match Go.Proofs.Tryz.f97.body with | some c => c | none => .skip)) (by kernel_rfl) (by kernel_rfl) (by kernel_rfl) (by rw [hl]; kernel_rfl) (by kernel_rfl) ?_
  rw [hl]
  exact hr
end
end Go.Xe
