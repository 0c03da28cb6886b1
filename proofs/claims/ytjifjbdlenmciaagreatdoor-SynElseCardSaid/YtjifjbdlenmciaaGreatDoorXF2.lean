import Derived.Test.YtjifjbdlenmciaaGreatDoorXF0
import Derived.KernelRfl
set_option linter.unusedVariables false
set_option linter.unusedSimpArgs false
set_option linter.constructorNameAsVariable false
set_option linter.unusedVariables false
set_option maxRecDepth 100000
namespace Go.Xe
open Go.RowKit
noncomputable section
noncomputable def plans24 (i : Nat) : Plan := if Nat.beq i 1 then [(0, []), (1, [0]), (2, [1, 0]), (3, [2, 1, 0]), (4, []), (5, [4]), (6, [5, 4]), (7, [6, 5, 4]), (8, [7, 6, 5, 4]), (9, [3, 8, 2, 7, 1, 6, 0, 5, 4])] else if Nat.beq i 2 then [(0, []), (1, [0]), (2, [1, 0]), (3, [2, 1, 0]), (4, []), (5, [4]), (6, [5, 4]), (7, [6, 5, 4]), (8, [3, 7, 2, 6, 1, 5, 0, 4]), (9, [8, 0, 1, 2, 3, 4, 5, 6, 7])] else []
noncomputable def T24 (p : Nat) : List Item × List Nat := bif Nat.beq p 0 then ([.code (match Go.Proofs.Tryz.f24.body with | some c => c | none => .skip)], [0]) else
  bif Nat.beq p 1 then (navs [.op] [.code (match Go.Proofs.Tryz.f24.body with | some c => c | none => .skip)], [0]) else
  bif Nat.beq p 13 then (navs [.op, .op, .th, .op, .op, .el, .op, .th, .op, .op, .th, .op] [.code (match Go.Proofs.Tryz.f24.body with | some c => c | none => .skip)], [0, 4]) else
  ([], [])
noncomputable def F24_0 (D J : Disp) (p0 : PV) (S : St) (K : AV → St → Prop) : Prop :=
 J 1 [(AV.one (V1.s (SV.ptr p0)))] S K
noncomputable def X24_0 : X := (.op (.jmp 1 [0]))
theorem F24_0_eq (D J : Disp) (p0 : PV) (S : St) (K : AV → St → Prop) : F24_0 D J p0 S K = execK SynP SynG Go.Proofs.Tryz.f24 (typed SynP D) J plans24 X24_0 (T24 0).1 (envOf (T24 0).2 [(AV.one (V1.s (SV.ptr p0)))]) S K := by kernel_rfl
noncomputable def F24_q7 (D J : Disp) (p0 : PV) (s344 : (List Nat)) (S375 : St) (K : AV → St → Prop) : Prop :=
 D 51 [(AV.one (V1.s (SV.str s344))), (AV.one (V1.s (SV.str [10, 13])))] S375 fun v379 S380 =>
 scK v379 fun v382 =>
 SV.cI IntKind.i64 v382 fun x385 =>
 let c386 : Bool := (ilt x385 (0 : Int));
 ifK c386
 (let x387 : Int := (Int.ofNat (List.length s344));
 J 13 [(AV.one (V1.s (SV.ptr p0))), (AV.one (V1.s (SV.int IntKind.i64 x387)))] S380 K)
 (J 13 [(AV.one (V1.s (SV.ptr p0))), (AV.one (V1.s (SV.int IntKind.i64 x385)))] S380 K)
noncomputable def F24_q8 (D J : Disp) (p0 : PV) (S402 : St) (x407 : Int) (c408 : Bool) (K : AV → St → Prop) : Prop :=
 ifK c408
 (K ((AV.one (V1.s (SV.bool Bool.false)))) S402)
 (PV.cs p0 fun b409 n410 =>
 let n411 : Nat := (n410 + 1);
 St.at S402 b409 n411 fun y412 =>
 uncK y412 fun v413 y414 =>
 SV.cI IntKind.i64 v413 fun x418 =>
 let x419 : Int := (iwrap IntKind.i64 (x407 + (4 : Int)));
 let x420 : Int := (iwrap IntKind.i64 (x418 + x419));
 PV.cs p0 fun b421 n422 =>
 let n423 : Nat := (n422 + 1);
 St.wr S402 b421 n423 [(SV.int IntKind.i64 x420)] fun S424 =>
 J 1 [(AV.one (V1.s (SV.ptr p0)))] S424 K)
noncomputable def F24_q9 (D J : Disp) (p0 : PV) (s344 : (List Nat)) (S396 : St) (K : AV → St → Prop) : Prop :=
 req (Bool.and Bool.true (Bool.and (ile (2 : Int) (oInt Option.none (Int.ofNat (List.length s344)))) (ile (oInt Option.none (Int.ofNat (List.length s344))) (Int.ofNat (List.length s344))))) <|
 let s400 : (List Nat) := (List.take ((Int.toNat (oInt Option.none (Int.ofNat (List.length s344)))) - 2) (List.drop 2 s344));
 D 52 [(AV.one (V1.s (SV.str s400))), (AV.one (V1.s (SV.str [42, 47])))] S396 fun v401 S402 =>
 scK v401 fun v404 =>
 SV.cI IntKind.i64 v404 fun x407 =>
 let c408 : Bool := (ilt x407 (0 : Int));
 F24_q8 D J p0 S402 x407 c408 K
noncomputable def F24_q10 (D J : Disp) (p0 : PV) (s344 : (List Nat)) (S347 : St) (K : AV → St → Prop) : Prop :=
 D 50 [(AV.one (V1.s (SV.str s344))), (AV.one (V1.s (SV.str [47, 47])))] S347 fun v374 S375 =>
 scK v374 fun v377 =>
 SV.cB v377 fun y378 =>
 ifK y378
 (F24_q7 D J p0 s344 S375 K)
 (D 50 [(AV.one (V1.s (SV.str s344))), (AV.one (V1.s (SV.str [47, 42])))] S375 fun v395 S396 =>
 scK v395 fun v398 =>
 SV.cB v398 fun y399 =>
 ifK y399
 (F24_q9 D J p0 s344 S396 K)
 (K ((AV.one (V1.s (SV.bool Bool.true)))) S396))
noncomputable def F24_q11 (D J : Disp) (p0 : PV) (s344 : (List Nat)) (S347 : St) (x352 : Int) (K : AV → St → Prop) : Prop :=
 let c353 : Bool := (ile (0 : Int) x352);
 ifK c353
 (PV.cs p0 fun b354 n355 =>
 let n356 : Nat := (n355 + 1);
 St.at S347 b354 n356 fun y357 =>
 uncK y357 fun v358 y359 =>
 SV.cI IntKind.i64 v358 fun x363 =>
 let x364 : Int := (iwrap IntKind.i64 (x363 + (1 : Int)));
 PV.cs p0 fun b365 n366 =>
 let n367 : Nat := (n366 + 1);
 St.wr S347 b365 n367 [(SV.int IntKind.i64 x364)] fun S368 =>
 J 1 [(AV.one (V1.s (SV.ptr p0)))] S368 K)
 (F24_q10 D J p0 s344 S347 K)
noncomputable def F24_q12 (D J : Disp) (S : St) (p0 : PV) (y333 : (List Nat)) (x343 : Int) (K : AV → St → Prop) : Prop :=
 req (Bool.and (ile (0 : Int) (oInt (Option.some x343) (0 : Int))) (Bool.and (ile (oInt (Option.some x343) (0 : Int)) (oInt Option.none (Int.ofNat (List.length y333)))) (ile (oInt Option.none (Int.ofNat (List.length y333))) (Int.ofNat (List.length y333))))) <|
 let s344 : (List Nat) := (List.take ((Int.toNat (oInt Option.none (Int.ofNat (List.length y333)))) - (Int.toNat (oInt (Option.some x343) (0 : Int)))) (List.drop (Int.toNat (oInt (Option.some x343) (0 : Int))) y333));
 req (Bool.and Bool.true (ilt (0 : Int) (Int.ofNat (List.length s344)))) <|
 let x345 : Int := (Int.ofNat (List.getD s344 0 0));
 D 49 [(AV.one (V1.s (SV.str [32, 9, 10, 13]))), (AV.one (V1.s (SV.int IntKind.u8 x345)))] S fun v346 S347 =>
 scK v346 fun v349 =>
 SV.cI IntKind.i64 v349 fun x352 =>
 F24_q11 D J p0 s344 S347 x352 K
noncomputable def F24_q13 (D J : Disp) (S : St) (p0 : PV) (x309 : Int) (y320 : (List Nat)) (K : AV → St → Prop) : Prop :=
 let x321 : Int := (Int.ofNat (List.length y320));
 let c322 : Bool := (ilt x309 x321);
 ifK c322
 (PV.cs p0 fun b323 n324 =>
 let n325 : Nat := (n324 + 0);
 St.at S b323 n325 fun y326 =>
 uncK y326 fun v327 y328 =>
 SV.cS v327 fun y333 =>
 PV.cs p0 fun b334 n335 =>
 let n336 : Nat := (n335 + 1);
 St.at S b334 n336 fun y337 =>
 uncK y337 fun v338 y339 =>
 SV.cI IntKind.i64 v338 fun x343 =>
 F24_q12 D J S p0 y333 x343 K)
 (K ((AV.one (V1.s (SV.bool Bool.true)))) S)
noncomputable def F24_1 (D J : Disp) (p0 : PV) (S : St) (K : AV → St → Prop) : Prop :=
 PV.cs p0 fun b300 n301 =>
 let n302 : Nat := (n301 + 1);
 St.at S b300 n302 fun y303 =>
 uncK y303 fun v304 y305 =>
 SV.cI IntKind.i64 v304 fun x309 =>
 PV.cs p0 fun b310 n311 =>
 let n312 : Nat := (n311 + 0);
 St.at S b310 n312 fun y313 =>
 uncK y313 fun v314 y315 =>
 SV.cS v314 fun y320 =>
 F24_q13 D J S p0 x309 y320 K
noncomputable def X24_1 : X := (.op (.br (.op (.op (.br (.op (.jmp 1 [0])) (.op (.br (.op (.op (.br (.op (.jmp 13 [0, 4])) (.jmp 13 [0, 4])))) (.op (.br (.op (.op (.br (.op .ret) (.op (.jmp 1 [0]))))) (.op .ret)))))))) (.op .ret)))
theorem F24_1_eq (D J : Disp) (p0 : PV) (S : St) (K : AV → St → Prop) : F24_1 D J p0 S K = execK SynP SynG Go.Proofs.Tryz.f24 (typed SynP D) J plans24 X24_1 (T24 1).1 (envOf (T24 1).2 [(AV.one (V1.s (SV.ptr p0)))]) S K := by kernel_rfl
noncomputable def F24_13 (D J : Disp) (p0 : PV) (x4 : Int) (S : St) (K : AV → St → Prop) : Prop :=
 PV.cs p0 fun b300 n301 =>
 let n302 : Nat := (n301 + 1);
 St.at S b300 n302 fun y303 =>
 uncK y303 fun v304 y305 =>
 SV.cI IntKind.i64 v304 fun x309 =>
 let x310 : Int := (iwrap IntKind.i64 (x309 + x4));
 PV.cs p0 fun b311 n312 =>
 let n313 : Nat := (n312 + 1);
 St.wr S b311 n313 [(SV.int IntKind.i64 x310)] fun S314 =>
 J 1 [(AV.one (V1.s (SV.ptr p0)))] S314 K
noncomputable def X24_13 : X := (.op (.jmp 1 [0]))
theorem F24_13_eq (D J : Disp) (p0 : PV) (x4 : Int) (S : St) (K : AV → St → Prop) : F24_13 D J p0 x4 S K = execK SynP SynG Go.Proofs.Tryz.f24 (typed SynP D) J plans24 X24_13 (T24 13).1 (envOf (T24 13).2 [(AV.one (V1.s (SV.ptr p0))), (AV.one (V1.s (SV.int IntKind.i64 x4)))]) S K := by kernel_rfl
noncomputable abbrev A24_0 (D J : Disp) (vals : List AV) (S : St) (K : AV → St → Prop) : Prop :=
  uncA vals fun a9001 r9002 => scK a9001 fun s9004 => SV.cP s9004 fun p0 => endL r9002 <| F24_0 D J p0 S K
theorem A24_0_ok {D J : Disp} (hD : DOK SynP SynG D) (hJ : JOK SynP SynG Go.Proofs.Tryz.f24 T24 J) {vals : List AV} {S : St} {K : AV → St → Prop} (h0 : A24_0 D J vals S K) : Runs SynP SynG Go.Proofs.Tryz.f24 (T24 0).1 (envOf (T24 0).2 vals) S K := by
  obtain ⟨a9001, r9002, rfl, h3⟩ := uncA_some h0
  obtain ⟨s9004, rfl, h5⟩ := scK_some h3
  obtain ⟨p0, rfl, h6⟩ := cP_some h5
  obtain ⟨rfl, h7⟩ := endL_some h6
  rw [F24_0_eq] at h7
  exact execK_runs hD.typed Syn_zero Syn_mixed hJ X24_0 (T24 0).1 (envOf (T24 0).2 _) S K (chk_of (by kernel_rfl) (by kernel_rfl)) h7
noncomputable abbrev A24_1 (D J : Disp) (vals : List AV) (S : St) (K : AV → St → Prop) : Prop :=
  uncA vals fun a9001 r9002 => scK a9001 fun s9004 => SV.cP s9004 fun p0 => endL r9002 <| F24_1 D J p0 S K
theorem A24_1_ok {D J : Disp} (hD : DOK SynP SynG D) (hJ : JOK SynP SynG Go.Proofs.Tryz.f24 T24 J) {vals : List AV} {S : St} {K : AV → St → Prop} (h0 : A24_1 D J vals S K) : Runs SynP SynG Go.Proofs.Tryz.f24 (T24 1).1 (envOf (T24 1).2 vals) S K := by
  obtain ⟨a9001, r9002, rfl, h3⟩ := uncA_some h0
  obtain ⟨s9004, rfl, h5⟩ := scK_some h3
  obtain ⟨p0, rfl, h6⟩ := cP_some h5
  obtain ⟨rfl, h7⟩ := endL_some h6
  rw [F24_1_eq] at h7
  exact execK_runs hD.typed Syn_zero Syn_mixed hJ X24_1 (T24 1).1 (envOf (T24 1).2 _) S K (chk_of (by kernel_rfl) (by kernel_rfl)) h7
noncomputable abbrev A24_13 (D J : Disp) (vals : List AV) (S : St) (K : AV → St → Prop) : Prop :=
  uncA vals fun a9001 r9002 => scK a9001 fun s9004 => SV.cP s9004 fun p0 => uncA r9002 fun a9007 r9008 => scK a9007 fun s9010 => SV.cI IntKind.i64 s9010 fun x4 => endL r9008 <| F24_13 D J p0 x4 S K
theorem A24_13_ok {D J : Disp} (hD : DOK SynP SynG D) (hJ : JOK SynP SynG Go.Proofs.Tryz.f24 T24 J) {vals : List AV} {S : St} {K : AV → St → Prop} (h0 : A24_13 D J vals S K) : Runs SynP SynG Go.Proofs.Tryz.f24 (T24 13).1 (envOf (T24 13).2 vals) S K := by
  obtain ⟨a9001, r9002, rfl, h3⟩ := uncA_some h0
  obtain ⟨s9004, rfl, h5⟩ := scK_some h3
  obtain ⟨p0, rfl, h6⟩ := cP_some h5
  obtain ⟨a9007, r9008, rfl, h9⟩ := uncA_some h6
  obtain ⟨s9010, rfl, h11⟩ := scK_some h9
  obtain ⟨x4, rfl, h12⟩ := cI_some h11
  obtain ⟨rfl, h13⟩ := endL_some h12
  rw [F24_13_eq] at h13
  exact execK_runs hD.typed Syn_zero Syn_mixed hJ X24_13 (T24 13).1 (envOf (T24 13).2 _) S K (chk_of (by kernel_rfl) (by kernel_rfl)) h13
noncomputable def J24 (D : Disp) (k : Nat) : Disp := Nat.rec (motive := fun _ => Disp) Disp.no (fun _ ih => Disp.add 0 (A24_0 D ih) <| Disp.add 1 (A24_1 D ih) <| Disp.add 13 (A24_13 D ih) <| Disp.no) k
theorem J24_ok {D : Disp} (hD : DOK SynP SynG D) : ∀ k, JOK SynP SynG Go.Proofs.Tryz.f24 T24 (J24 D k)
  | 0 => JOK.no
  | k + 1 => JOK.add (ltB_ok (by kernel_rfl)) (fun vals S K h => A24_0_ok hD (J24_ok hD k) h) <| JOK.add (ltB_ok (by kernel_rfl)) (fun vals S K h => A24_1_ok hD (J24_ok hD k) h) <| JOK.add (ltB_ok (by kernel_rfl)) (fun vals S K h => A24_13_ok hD (J24_ok hD k) h) <| JOK.no
theorem E24_ok {D : Disp} (hD : DOK SynP SynG D) (k : Nat) {args : List AV} {S : St} {K : AV → St → Prop} (h : A24_0 D (J24 D k) args S K) : CallE SynP SynG 24 args S K := by
  have hr := A24_0_ok hD (J24_ok hD k) h
  have hl : args.length = 1 := by
    have h0 := h
    obtain ⟨a9001, r9002, rfl, h3⟩ := uncA_some h0
    obtain ⟨s9004, rfl, h5⟩ := scK_some h3
    obtain ⟨p0, rfl, h6⟩ := cP_some h5
    obtain ⟨rfl, h7⟩ := endL_some h6
    rfl
  refine callOK_of (fn := Go.Proofs.Tryz.f24) (c := (match Go.Proofs.Tryz.f24.body with | some c => c | none => .skip)) (by kernel_rfl) (by kernel_rfl) (by kernel_rfl) (by rw [hl]; kernel_rfl) (by kernel_rfl) ?_
  rw [hl]
  exact hr
noncomputable def plans25 (i : Nat) : Plan := if Nat.beq i 1 then [(0, []), (1, [0]), (2, [1, 0]), (3, [2, 1, 0]), (4, []), (5, [4]), (6, [5, 4]), (7, [6, 5, 4]), (8, [3, 7, 2, 6, 1, 5, 0, 4]), (9, [8, 0, 1, 2, 3, 4, 5, 6, 7])] else if Nat.beq i 7 then [(0, []), (1, [0]), (2, [1, 0]), (3, [2, 1, 0]), (4, []), (5, []), (9, []), (6, [5]), (7, [4, 6, 5]), (8, [3, 7, 2, 4, 6, 1, 5, 0]), (10, [9, 8, 6, 0, 1, 2, 3, 4, 5, 7])] else if Nat.beq i 12 then [(0, []), (1, [0]), (2, [1, 0]), (3, [2, 1, 0]), (4, []), (5, [4]), (6, [5, 4]), (7, [3, 6, 2, 5, 1, 4, 0]), (8, [0, 1, 2, 3, 4, 5, 6, 7]), (9, [8, 0, 1, 2, 3, 4, 5, 6, 7]), (10, [9, 7, 0, 1, 2, 3, 4, 5, 6, 8])] else []
noncomputable def T25 (p : Nat) : List Item × List Nat := bif Nat.beq p 0 then ([.code (match Go.Proofs.Tryz.f25.body with | some c => c | none => .skip)], [0]) else
  bif Nat.beq p 19 then (navs [.op, .op, .op, .el, .op, .el, .op, .th, .op, .op, .el, .op, .th, .op] [.code (match Go.Proofs.Tryz.f25.body with | some c => c | none => .skip)], [0, 2, 5]) else
  bif Nat.beq p 22 then (navs [.op, .op, .op, .el, .op, .el, .op, .el, .op] [.code (match Go.Proofs.Tryz.f25.body with | some c => c | none => .skip)], [0, 2, 4, 69, 70]) else
  bif Nat.beq p 26 then (navs [.op, .op, .op, .el, .op, .el, .op, .el, .op, .op, .th, .op, .op] [.code (match Go.Proofs.Tryz.f25.body with | some c => c | none => .skip)], [0, 2, 4, 69, 70, 73, 74, 75]) else
  ([], [])
noncomputable def F25_q23 (D J : Disp) (S : St) (x380 : Int) (S381 : St) (K : AV → St → Prop) : Prop :=
 St.at S381 (Bk.new (St.next S)) 0 fun y382 =>
 uncK y382 fun v383 y384 =>
 SV.cI IntKind.i64 v383 fun x388 =>
 uncK y384 fun v389 y390 =>
 SV.cI IntKind.i64 v389 fun x394 =>
 uncK y390 fun v395 y396 =>
 SV.cS v395 fun y401 =>
 uncK y396 fun v402 y403 =>
 SV.cS v402 fun y408 =>
 uncK y403 fun v409 y410 =>
 SV.cI IntKind.u64 v409 fun x414 =>
 uncK y410 fun v415 y416 =>
 SV.cB v415 fun y418 =>
 K ((AV.tup [(V1.agg [(SV.int IntKind.i64 x388), (SV.int IntKind.i64 x394), (SV.str y401), (SV.str y408), (SV.int IntKind.u64 x414), (SV.bool y418)]), (V1.s (SV.int IntKind.i64 x380))])) S381
noncomputable def F25_q24 (D J : Disp) (S : St) (p0 : PV) (S325 : St) (K : AV → St → Prop) : Prop :=
 D 54 [(AV.one (V1.s (SV.ptr p0)))] S325 fun v329 S330 =>
 avT v329 fun y332 =>
 uncV y332 fun v333 y334 =>
 v1A v333 fun y337 =>
 req (Nat.beq (List.length y337) 6) <|
 uncK y337 fun v338 y339 =>
 SV.cI IntKind.i64 v338 fun x343 =>
 uncK y339 fun v344 y345 =>
 SV.cI IntKind.i64 v344 fun x349 =>
 uncK y345 fun v350 y351 =>
 SV.cS v350 fun y356 =>
 uncK y351 fun v357 y358 =>
 SV.cS v357 fun y363 =>
 uncK y358 fun v364 y365 =>
 SV.cI IntKind.u64 v364 fun x369 =>
 uncK y365 fun v370 y371 =>
 SV.cB v370 fun y373 =>
 uncV y334 fun v374 y375 =>
 v1S v374 fun v377 =>
 SV.cI IntKind.i64 v377 fun x380 =>
 endL y375 (St.wr S330 (Bk.new (St.next S)) 0 [(SV.int IntKind.i64 x343), (SV.int IntKind.i64 x349), (SV.str y356), (SV.str y363), (SV.int IntKind.u64 x369), (SV.bool y373)] fun S381 =>
 F25_q23 D J S x380 S381 K)
noncomputable def F25_q25 (D J : Disp) (S : St) (x541 : Int) (S542 : St) (K : AV → St → Prop) : Prop :=
 St.at S542 (Bk.new (St.next S)) 0 fun y543 =>
 uncK y543 fun v544 y545 =>
 SV.cI IntKind.i64 v544 fun x549 =>
 uncK y545 fun v550 y551 =>
 SV.cI IntKind.i64 v550 fun x555 =>
 uncK y551 fun v556 y557 =>
 SV.cS v556 fun y562 =>
 uncK y557 fun v563 y564 =>
 SV.cS v563 fun y569 =>
 uncK y564 fun v570 y571 =>
 SV.cI IntKind.u64 v570 fun x575 =>
 uncK y571 fun v576 y577 =>
 SV.cB v576 fun y579 =>
 K ((AV.tup [(V1.agg [(SV.int IntKind.i64 x549), (SV.int IntKind.i64 x555), (SV.str y562), (SV.str y569), (SV.int IntKind.u64 x575), (SV.bool y579)]), (V1.s (SV.int IntKind.i64 x541))])) S542
noncomputable def F25_q26 (D J : Disp) (S : St) (p0 : PV) (S325 : St) (K : AV → St → Prop) : Prop :=
 D 55 [(AV.one (V1.s (SV.ptr p0)))] S325 fun v490 S491 =>
 avT v490 fun y493 =>
 uncV y493 fun v494 y495 =>
 v1A v494 fun y498 =>
 req (Nat.beq (List.length y498) 6) <|
 uncK y498 fun v499 y500 =>
 SV.cI IntKind.i64 v499 fun x504 =>
 uncK y500 fun v505 y506 =>
 SV.cI IntKind.i64 v505 fun x510 =>
 uncK y506 fun v511 y512 =>
 SV.cS v511 fun y517 =>
 uncK y512 fun v518 y519 =>
 SV.cS v518 fun y524 =>
 uncK y519 fun v525 y526 =>
 SV.cI IntKind.u64 v525 fun x530 =>
 uncK y526 fun v531 y532 =>
 SV.cB v531 fun y534 =>
 uncV y495 fun v535 y536 =>
 v1S v535 fun v538 =>
 SV.cI IntKind.i64 v538 fun x541 =>
 endL y536 (St.wr S491 (Bk.new (St.next S)) 0 [(SV.int IntKind.i64 x504), (SV.int IntKind.i64 x510), (SV.str y517), (SV.str y524), (SV.int IntKind.u64 x530), (SV.bool y534)] fun S542 =>
 F25_q25 D J S x541 S542 K)
noncomputable def F25_q27 (D J : Disp) (S : St) (S731 : St) (K : AV → St → Prop) : Prop :=
 St.at S731 (Bk.new (St.next S)) 0 fun y732 =>
 uncK y732 fun v733 y734 =>
 SV.cI IntKind.i64 v733 fun x738 =>
 uncK y734 fun v739 y740 =>
 SV.cI IntKind.i64 v739 fun x744 =>
 uncK y740 fun v745 y746 =>
 SV.cS v745 fun y751 =>
 uncK y746 fun v752 y753 =>
 SV.cS v752 fun y758 =>
 uncK y753 fun v759 y760 =>
 SV.cI IntKind.u64 v759 fun x764 =>
 uncK y760 fun v765 y766 =>
 SV.cB v765 fun y768 =>
 K ((AV.tup [(V1.agg [(SV.int IntKind.i64 x738), (SV.int IntKind.i64 x744), (SV.str y751), (SV.str y758), (SV.int IntKind.u64 x764), (SV.bool y768)]), (V1.s (SV.int IntKind.i64 (6 : Int)))])) S731
noncomputable def F25_q28 (D J : Disp) (S : St) (S651 : St) (S683 : St) (K : AV → St → Prop) : Prop :=
 St.at S683 (Bk.new (St.next S651)) 0 fun y694 =>
 uncK y694 fun v695 y696 =>
 SV.cI IntKind.i64 v695 fun x700 =>
 uncK y696 fun v701 y702 =>
 SV.cI IntKind.i64 v701 fun x706 =>
 uncK y702 fun v707 y708 =>
 SV.cS v707 fun y713 =>
 uncK y708 fun v714 y715 =>
 SV.cS v714 fun y720 =>
 uncK y715 fun v721 y722 =>
 SV.cI IntKind.u64 v721 fun x726 =>
 uncK y722 fun v727 y728 =>
 SV.cB v727 fun y730 =>
 St.wr S683 (Bk.new (St.next S)) 0 [(SV.int IntKind.i64 x700), (SV.int IntKind.i64 x706), (SV.str y713), (SV.str y720), (SV.int IntKind.u64 x726), (SV.bool y730)] fun S731 =>
 F25_q27 D J S S731 K
noncomputable def F25_q29 (D J : Disp) (S : St) (p0 : PV) (S651 : St) (S683 : St) (y836 : (List Nat)) (K : AV → St → Prop) : Prop :=
 D 58 [(AV.one (V1.s (SV.str y836)))] S683 fun v837 S838 =>
 scK v837 fun v840 =>
 SV.cB v840 fun y841 =>
 ifK y841
 (St.wr S838 (Bk.new (St.next S651)) 0 [(SV.int IntKind.i64 (2 : Int))] fun S842 =>
 J 19 [(AV.one (V1.s (SV.ptr p0))), (AV.one (V1.s (SV.ptr (PV.mk (Bk.new (St.next S)) 0)))), (AV.one (V1.s (SV.ptr (PV.mk (Bk.new (St.next S651)) 0))))] S842 K)
 (J 19 [(AV.one (V1.s (SV.ptr p0))), (AV.one (V1.s (SV.ptr (PV.mk (Bk.new (St.next S)) 0)))), (AV.one (V1.s (SV.ptr (PV.mk (Bk.new (St.next S651)) 0))))] S838 K)
noncomputable def F25_q30 (D J : Disp) (S : St) (p0 : PV) (S651 : St) (x664 : Int) (o665 : AO) (S668 : St) (s681 : (List Nat)) (K : AV → St → Prop) : Prop :=
 let S682 : St := (mat S668 (St.next S668) [(Prod.mk 9 (Prod.mk (St.next S651) o665))]);
 St.wr S682 (Bk.new (St.next S651)) 0 [(SV.int IntKind.i64 (1 : Int)), (SV.int IntKind.i64 x664), (SV.str s681), (SV.str []), (SV.int IntKind.u64 (0 : Int)), (SV.bool Bool.false)] fun S683 =>
 St.at S683 (Bk.new (St.next S651)) 2 fun y684 =>
 uncK y684 fun v685 y686 =>
 SV.cS v685 fun y691 =>
 let x692 : Int := (Int.ofNat (List.length y691));
 let c693 : Bool := (ilt (30 : Int) x692);
 ifK c693
 (F25_q28 D J S S651 S683 K)
 (St.at S683 (Bk.new (St.next S651)) 2 fun y829 =>
 uncK y829 fun v830 y831 =>
 SV.cS v830 fun y836 =>
 F25_q29 D J S p0 S651 S683 y836 K)
noncomputable def F25_q31 (D J : Disp) (S : St) (p0 : PV) (s322 : (List Nat)) (S651 : St) (b655 : Bk) (n657 : Nat) (x664 : Int) (K : AV → St → Prop) : Prop :=
 let o665 : AO := (AO.cells [(SV.int IntKind.i64 (0 : Int)), (SV.int IntKind.i64 (0 : Int)), (SV.str []), (SV.str []), (SV.int IntKind.u64 (0 : Int)), (SV.bool Bool.false)] (Op2.ty 76));
 let S666 : St := (mat S651 (Nat.succ (St.next S651)) []);
 D 57 [(AV.one (V1.s (SV.str s322))), (AV.one (V1.s (SV.fn (FV.mk (Fn.func 56) [] []))))] S666 fun v667 S668 =>
 scK v667 fun v670 =>
 SV.cI IntKind.i64 v670 fun x673 =>
 St.at S668 b655 n657 fun y674 =>
 uncK y674 fun v675 y676 =>
 SV.cI IntKind.i64 v675 fun x680 =>
 req (sameAV (AV.one (V1.s (SV.int IntKind.i64 x680))) (AV.one (V1.s (SV.int IntKind.i64 x664)))) <|
 req (Bool.and Bool.true (Bool.and (ile (0 : Int) (oInt (Option.some x673) (Int.ofNat (List.length s322)))) (ile (oInt (Option.some x673) (Int.ofNat (List.length s322))) (Int.ofNat (List.length s322))))) <|
 let s681 : (List Nat) := (List.take ((Int.toNat (oInt (Option.some x673) (Int.ofNat (List.length s322)))) - 0) (List.drop 0 s322));
 F25_q30 D J S p0 S651 x664 o665 S668 s681 K
noncomputable def F25_q32 (D J : Disp) (S : St) (p0 : PV) (s322 : (List Nat)) (S651 : St) (K : AV → St → Prop) : Prop :=
 St.at S651 (Bk.inp 0) 0 fun y877 =>
 uncK y877 fun v878 y879 =>
 SV.cL v878 fun y886 =>
 uncK y879 fun v887 y888 =>
 SV.cL v887 fun y895 =>
 uncK y888 fun v896 y897 =>
 SV.cL v896 fun y904 =>
 J 22 [(AV.one (V1.s (SV.ptr p0))), (AV.one (V1.s (SV.ptr (PV.mk (Bk.new (St.next S)) 0)))), (AV.one (V1.s (SV.str s322))), (AV.one (V1.agg [(SV.sl y886), (SV.sl y895), (SV.sl y904)])), (AV.one (V1.s (SV.int IntKind.i64 (0 : Int))))] S651 K
noncomputable def F25_q33 (D J : Disp) (S : St) (p0 : PV) (s322 : (List Nat)) (S325 : St) (K : AV → St → Prop) : Prop :=
 req (Bool.and Bool.true (ilt (0 : Int) (Int.ofNat (List.length s322)))) <|
 let x649 : Int := (Int.ofNat (List.getD s322 0 0));
 D 56 [(AV.one (V1.s (SV.int IntKind.u8 x649)))] S325 fun v650 S651 =>
 scK v650 fun v653 =>
 SV.cB v653 fun y654 =>
 ifK y654
 (PV.cs p0 fun b655 n656 =>
 let n657 : Nat := (n656 + 1);
 St.at S651 b655 n657 fun y658 =>
 uncK y658 fun v659 y660 =>
 SV.cI IntKind.i64 v659 fun x664 =>
 F25_q31 D J S p0 s322 S651 b655 n657 x664 K)
 (F25_q32 D J S p0 s322 S651 K)
noncomputable def F25_q34 (D J : Disp) (S : St) (p0 : PV) (S300 : St) (s322 : (List Nat)) (K : AV → St → Prop) : Prop :=
 req (Bool.and Bool.true (ilt (0 : Int) (Int.ofNat (List.length s322)))) <|
 let x323 : Int := (Int.ofNat (List.getD s322 0 0));
 D 53 [(AV.one (V1.s (SV.int IntKind.u8 x323)))] S300 fun v324 S325 =>
 scK v324 fun v327 =>
 SV.cB v327 fun y328 =>
 ifK y328
 (F25_q24 D J S p0 S325 K)
 (req (Bool.and Bool.true (ilt (0 : Int) (Int.ofNat (List.length s322)))) <|
 let x488 : Int := (Int.ofNat (List.getD s322 0 0));
 let c489 : Bool := (ieq x488 (39 : Int));
 ifK c489
 (F25_q26 D J S p0 S325 K)
 (F25_q33 D J S p0 s322 S325 K))
noncomputable def F25_q35 (D J : Disp) (S : St) (p0 : PV) (S300 : St) (y311 : (List Nat)) (x321 : Int) (K : AV → St → Prop) : Prop :=
 req (Bool.and (ile (0 : Int) (oInt (Option.some x321) (0 : Int))) (Bool.and (ile (oInt (Option.some x321) (0 : Int)) (oInt Option.none (Int.ofNat (List.length y311)))) (ile (oInt Option.none (Int.ofNat (List.length y311))) (Int.ofNat (List.length y311))))) <|
 let s322 : (List Nat) := (List.take ((Int.toNat (oInt Option.none (Int.ofNat (List.length y311)))) - (Int.toNat (oInt (Option.some x321) (0 : Int)))) (List.drop (Int.toNat (oInt (Option.some x321) (0 : Int))) y311));
 F25_q34 D J S p0 S300 s322 K
noncomputable def F25_0 (D J : Disp) (p0 : PV) (S : St) (K : AV → St → Prop) : Prop :=
 let S300 : St := (St.add S (AO.cells [(SV.int IntKind.i64 (0 : Int)), (SV.int IntKind.i64 (0 : Int)), (SV.str []), (SV.str []), (SV.int IntKind.u64 (0 : Int)), (SV.bool Bool.false)] (Op2.ty 76)));
 PV.cs p0 fun b301 n302 =>
 let n303 : Nat := (n302 + 0);
 St.at S300 b301 n303 fun y304 =>
 uncK y304 fun v305 y306 =>
 SV.cS v305 fun y311 =>
 PV.cs p0 fun b312 n313 =>
 let n314 : Nat := (n313 + 1);
 St.at S300 b312 n314 fun y315 =>
 uncK y315 fun v316 y317 =>
 SV.cI IntKind.i64 v316 fun x321 =>
 F25_q35 D J S p0 S300 y311 x321 K
noncomputable def X25_0 : X := (.op (.op (.op (.br (.op .ret) (.op (.br (.op .ret) (.op (.br (.op (.op (.br (.op .ret) (.op (.br (.op (.jmp 19 [0, 2, 5])) (.jmp 19 [0, 2, 5])))))) (.op (.jmp 22 [0, 2, 4, 69, 70]))))))))))
theorem F25_0_eq (D J : Disp) (p0 : PV) (S : St) (K : AV → St → Prop) : F25_0 D J p0 S K = execK SynP SynG Go.Proofs.Tryz.f25 (typed SynP D) J plans25 X25_0 (T25 0).1 (envOf (T25 0).2 [(AV.one (V1.s (SV.ptr p0)))]) S K := by kernel_rfl
noncomputable def F25_q36 (D J : Disp) (p2 : PV) (S368 : St) (K : AV → St → Prop) : Prop :=
 PV.cs p2 fun b369 n370 =>
 St.at S368 b369 n370 fun y371 =>
 uncK y371 fun v372 y373 =>
 SV.cI IntKind.i64 v372 fun x377 =>
 uncK y373 fun v378 y379 =>
 SV.cI IntKind.i64 v378 fun x383 =>
 uncK y379 fun v384 y385 =>
 SV.cS v384 fun y390 =>
 uncK y385 fun v391 y392 =>
 SV.cS v391 fun y397 =>
 uncK y392 fun v398 y399 =>
 SV.cI IntKind.u64 v398 fun x403 =>
 uncK y399 fun v404 y405 =>
 SV.cB v404 fun y407 =>
 K ((AV.tup [(V1.agg [(SV.int IntKind.i64 x377), (SV.int IntKind.i64 x383), (SV.str y390), (SV.str y397), (SV.int IntKind.u64 x403), (SV.bool y407)]), (V1.s (SV.int IntKind.i64 (0 : Int)))])) S368
noncomputable def F25_q37 (D J : Disp) (p2 : PV) (p5 : PV) (S326 : St) (K : AV → St → Prop) : Prop :=
 PV.cs p5 fun b327 n328 =>
 St.at S326 b327 n328 fun y329 =>
 uncK y329 fun v330 y331 =>
 SV.cI IntKind.i64 v330 fun x335 =>
 uncK y331 fun v336 y337 =>
 SV.cI IntKind.i64 v336 fun x341 =>
 uncK y337 fun v342 y343 =>
 SV.cS v342 fun y348 =>
 uncK y343 fun v349 y350 =>
 SV.cS v349 fun y355 =>
 uncK y350 fun v356 y357 =>
 SV.cI IntKind.u64 v356 fun x361 =>
 uncK y357 fun v362 y363 =>
 SV.cB v362 fun y365 =>
 PV.cs p2 fun b366 n367 =>
 St.wr S326 b366 n367 [(SV.int IntKind.i64 x335), (SV.int IntKind.i64 x341), (SV.str y348), (SV.str y355), (SV.int IntKind.u64 x361), (SV.bool y365)] fun S368 =>
 F25_q36 D J p2 S368 K
noncomputable def F25_q38 (D J : Disp) (S : St) (p0 : PV) (p2 : PV) (p5 : PV) (b300 : Bk) (n302 : Nat) (K : AV → St → Prop) : Prop :=
 St.at S b300 n302 fun y303 =>
 uncK y303 fun v304 y305 =>
 SV.cI IntKind.i64 v304 fun x309 =>
 PV.cs p5 fun b310 n311 =>
 let n312 : Nat := (n311 + 2);
 St.at S b310 n312 fun y313 =>
 uncK y313 fun v314 y315 =>
 SV.cS v314 fun y320 =>
 let x321 : Int := (Int.ofNat (List.length y320));
 let x322 : Int := (iwrap IntKind.i64 (x309 + x321));
 PV.cs p0 fun b323 n324 =>
 let n325 : Nat := (n324 + 1);
 St.wr S b323 n325 [(SV.int IntKind.i64 x322)] fun S326 =>
 F25_q37 D J p2 p5 S326 K
noncomputable def F25_19 (D J : Disp) (p0 : PV) (p2 : PV) (p5 : PV) (S : St) (K : AV → St → Prop) : Prop :=
 PV.cs p0 fun b300 n301 =>
 let n302 : Nat := (n301 + 1);
 F25_q38 D J S p0 p2 p5 b300 n302 K
noncomputable def X25_19 : X := (.op (.op .ret))
theorem F25_19_eq (D J : Disp) (p0 : PV) (p2 : PV) (p5 : PV) (S : St) (K : AV → St → Prop) : F25_19 D J p0 p2 p5 S K = execK SynP SynG Go.Proofs.Tryz.f25 (typed SynP D) J plans25 X25_19 (T25 19).1 (envOf (T25 19).2 [(AV.one (V1.s (SV.ptr p0))), (AV.one (V1.s (SV.ptr p2))), (AV.one (V1.s (SV.ptr p5)))]) S K := by kernel_rfl
noncomputable def F25_q39 (D J : Disp) (S : St) (p0 : PV) (p2 : PV) (s4 : (List Nat)) (l69_0 : LV) (l69_1 : LV) (l69_2 : LV) (x70 : Int) (K : AV → St → Prop) : Prop :=
 req (Bool.and (ile (0 : Int) x70) (ilt x70 (3 : Int))) <|
 optK (partA SynP 32 [(SV.sl l69_0), (SV.sl l69_1), (SV.sl l69_2)] ((Int.toNat x70) * 1)) fun v301 =>
 v1S v301 fun v302 =>
 SV.cL v302 fun y308 =>
 let x309 : Int := (Int.ofNat (LV.len y308));
 J 26 [(AV.one (V1.s (SV.ptr p0))), (AV.one (V1.s (SV.ptr p2))), (AV.one (V1.s (SV.str s4))), (AV.one (V1.agg [(SV.sl l69_0), (SV.sl l69_1), (SV.sl l69_2)])), (AV.one (V1.s (SV.int IntKind.i64 x70))), (AV.one v301), (AV.one (V1.s (SV.int IntKind.i64 x309))), (AV.one (V1.s (SV.int IntKind.i64 (0 : Int))))] S K
noncomputable def F25_q40 (D J : Disp) (p2 : PV) (S315 : St) (K : AV → St → Prop) : Prop :=
 PV.cs p2 fun b316 n317 =>
 St.at S315 b316 n317 fun y318 =>
 uncK y318 fun v319 y320 =>
 SV.cI IntKind.i64 v319 fun x324 =>
 uncK y320 fun v325 y326 =>
 SV.cI IntKind.i64 v325 fun x330 =>
 uncK y326 fun v331 y332 =>
 SV.cS v331 fun y337 =>
 uncK y332 fun v338 y339 =>
 SV.cS v338 fun y344 =>
 uncK y339 fun v345 y346 =>
 SV.cI IntKind.u64 v345 fun x350 =>
 uncK y346 fun v351 y352 =>
 SV.cB v351 fun y354 =>
 K ((AV.tup [(V1.agg [(SV.int IntKind.i64 x324), (SV.int IntKind.i64 x330), (SV.str y337), (SV.str y344), (SV.int IntKind.u64 x350), (SV.bool y354)]), (V1.s (SV.int IntKind.i64 (3 : Int)))])) S315
noncomputable def F25_22 (D J : Disp) (p0 : PV) (p2 : PV) (s4 : (List Nat)) (l69_0 : LV) (l69_1 : LV) (l69_2 : LV) (x70 : Int) (S : St) (K : AV → St → Prop) : Prop :=
 let c300 : Bool := (ilt x70 (3 : Int));
 ifK c300
 (F25_q39 D J S p0 p2 s4 l69_0 l69_1 l69_2 x70 K)
 (PV.cs p2 fun b313 n314 =>
 St.wr S b313 n314 [(SV.int IntKind.i64 (0 : Int)), (SV.int IntKind.i64 (0 : Int)), (SV.str []), (SV.str []), (SV.int IntKind.u64 (0 : Int)), (SV.bool Bool.false)] fun S315 =>
 F25_q40 D J p2 S315 K)
noncomputable def X25_22 : X := (.op (.br (.op (.op (.jmp 26 [0, 2, 4, 69, 70, 73, 74, 75]))) (.op .ret)))
theorem F25_22_eq (D J : Disp) (p0 : PV) (p2 : PV) (s4 : (List Nat)) (l69_0 : LV) (l69_1 : LV) (l69_2 : LV) (x70 : Int) (S : St) (K : AV → St → Prop) : F25_22 D J p0 p2 s4 l69_0 l69_1 l69_2 x70 S K = execK SynP SynG Go.Proofs.Tryz.f25 (typed SynP D) J plans25 X25_22 (T25 22).1 (envOf (T25 22).2 [(AV.one (V1.s (SV.ptr p0))), (AV.one (V1.s (SV.ptr p2))), (AV.one (V1.s (SV.str s4))), (AV.one (V1.agg [(SV.sl l69_0), (SV.sl l69_1), (SV.sl l69_2)])), (AV.one (V1.s (SV.int IntKind.i64 x70)))]) S K := by kernel_rfl
noncomputable def F25_q41 (D J : Disp) (p2 : PV) (S394 : St) (K : AV → St → Prop) : Prop :=
 PV.cs p2 fun b395 n396 =>
 St.at S394 b395 n396 fun y397 =>
 uncK y397 fun v398 y399 =>
 SV.cI IntKind.i64 v398 fun x403 =>
 uncK y399 fun v404 y405 =>
 SV.cI IntKind.i64 v404 fun x409 =>
 uncK y405 fun v410 y411 =>
 SV.cS v410 fun y416 =>
 uncK y411 fun v417 y418 =>
 SV.cS v417 fun y423 =>
 uncK y418 fun v424 y425 =>
 SV.cI IntKind.u64 v424 fun x429 =>
 uncK y425 fun v430 y431 =>
 SV.cB v430 fun y433 =>
 K ((AV.tup [(V1.agg [(SV.int IntKind.i64 x403), (SV.int IntKind.i64 x409), (SV.str y416), (SV.str y423), (SV.int IntKind.u64 x429), (SV.bool y433)]), (V1.s (SV.int IntKind.i64 (0 : Int)))])) S394
noncomputable def F25_q42 (D J : Disp) (p2 : PV) (S323 : St) (S354 : St) (K : AV → St → Prop) : Prop :=
 St.at S354 (Bk.new (St.next S323)) 0 fun y355 =>
 uncK y355 fun v356 y357 =>
 SV.cI IntKind.i64 v356 fun x361 =>
 uncK y357 fun v362 y363 =>
 SV.cI IntKind.i64 v362 fun x367 =>
 uncK y363 fun v368 y369 =>
 SV.cS v368 fun y374 =>
 uncK y369 fun v375 y376 =>
 SV.cS v375 fun y381 =>
 uncK y376 fun v382 y383 =>
 SV.cI IntKind.u64 v382 fun x387 =>
 uncK y383 fun v388 y389 =>
 SV.cB v388 fun y391 =>
 PV.cs p2 fun b392 n393 =>
 St.wr S354 b392 n393 [(SV.int IntKind.i64 x361), (SV.int IntKind.i64 x367), (SV.str y374), (SV.str y381), (SV.int IntKind.u64 x387), (SV.bool y391)] fun S394 =>
 F25_q41 D J p2 S394 K
noncomputable def F25_q43 (D J : Disp) (p0 : PV) (p2 : PV) (y321 : (List Nat)) (S323 : St) (x336 : Int) (S337 : St) (K : AV → St → Prop) : Prop :=
 St.wr S337 (Bk.new (St.next S323)) 0 [(SV.int IntKind.i64 (5 : Int)), (SV.int IntKind.i64 x336), (SV.str y321), (SV.str []), (SV.int IntKind.u64 (0 : Int)), (SV.bool Bool.false)] fun S338 =>
 PV.cs p0 fun b339 n340 =>
 let n341 : Nat := (n340 + 1);
 St.at S338 b339 n341 fun y342 =>
 uncK y342 fun v343 y344 =>
 SV.cI IntKind.i64 v343 fun x348 =>
 let x349 : Int := (Int.ofNat (List.length y321));
 let x350 : Int := (iwrap IntKind.i64 (x348 + x349));
 PV.cs p0 fun b351 n352 =>
 let n353 : Nat := (n352 + 1);
 St.wr S338 b351 n353 [(SV.int IntKind.i64 x350)] fun S354 =>
 F25_q42 D J p2 S323 S354 K
noncomputable def F25_q44 (D J : Disp) (p0 : PV) (p2 : PV) (s4 : (List Nat)) (l69_0 : LV) (l69_1 : LV) (l69_2 : LV) (x70 : Int) (v73 : AV) (x74 : Int) (x75 : Int) (y321 : (List Nat)) (S323 : St) (y326 : Bool) (K : AV → St → Prop) : Prop :=
 ifK y326
 (PV.cs p0 fun b327 n328 =>
 let n329 : Nat := (n328 + 1);
 St.at S323 b327 n329 fun y330 =>
 uncK y330 fun v331 y332 =>
 SV.cI IntKind.i64 v331 fun x336 =>
 let S337 : St := (St.add S323 (AO.cells [(SV.int IntKind.i64 (0 : Int)), (SV.int IntKind.i64 (0 : Int)), (SV.str []), (SV.str []), (SV.int IntKind.u64 (0 : Int)), (SV.bool Bool.false)] (Op2.ty 76)));
 F25_q43 D J p0 p2 y321 S323 x336 S337 K)
 (let x504 : Int := (iwrap IntKind.i64 (x75 + (1 : Int)));
 J 26 [(AV.one (V1.s (SV.ptr p0))), (AV.one (V1.s (SV.ptr p2))), (AV.one (V1.s (SV.str s4))), (AV.one (V1.agg [(SV.sl l69_0), (SV.sl l69_1), (SV.sl l69_2)])), (AV.one (V1.s (SV.int IntKind.i64 x70))), v73, (AV.one (V1.s (SV.int IntKind.i64 x74))), (AV.one (V1.s (SV.int IntKind.i64 x504)))] S323 K)
noncomputable def F25_q45 (D J : Disp) (S : St) (p0 : PV) (p2 : PV) (s4 : (List Nat)) (l69_0 : LV) (l69_1 : LV) (l69_2 : LV) (x70 : Int) (v73 : AV) (x74 : Int) (x75 : Int) (K : AV → St → Prop) : Prop :=
 scK v73 fun v302 =>
 SV.cL v302 fun y308 =>
 LV.cs y308 fun b309 n310 n311 y312 =>
 req (Bool.and (ile (0 : Int) x75) (ilt x75 (Int.ofNat n311))) <|
 let n313 : Nat := (n310 + ((Int.toNat x75) * 1));
 St.at S b309 n313 fun y314 =>
 uncK y314 fun v315 y316 =>
 SV.cS v315 fun y321 =>
 D 50 [(AV.one (V1.s (SV.str s4))), (AV.one (V1.s (SV.str y321)))] S fun v322 S323 =>
 scK v322 fun v325 =>
 SV.cB v325 fun y326 =>
 F25_q44 D J p0 p2 s4 l69_0 l69_1 l69_2 x70 v73 x74 x75 y321 S323 y326 K
noncomputable def F25_26 (D J : Disp) (p0 : PV) (p2 : PV) (s4 : (List Nat)) (l69_0 : LV) (l69_1 : LV) (l69_2 : LV) (x70 : Int) (v73 : AV) (x74 : Int) (x75 : Int) (S : St) (K : AV → St → Prop) : Prop :=
 let c300 : Bool := (ilt x75 x74);
 ifK c300
 (F25_q45 D J S p0 p2 s4 l69_0 l69_1 l69_2 x70 v73 x74 x75 K)
 (let x522 : Int := (iwrap IntKind.i64 (x70 + (1 : Int)));
 J 22 [(AV.one (V1.s (SV.ptr p0))), (AV.one (V1.s (SV.ptr p2))), (AV.one (V1.s (SV.str s4))), (AV.one (V1.agg [(SV.sl l69_0), (SV.sl l69_1), (SV.sl l69_2)])), (AV.one (V1.s (SV.int IntKind.i64 x522)))] S K)
noncomputable def X25_26 : X := (.op (.br (.op (.op (.br (.op (.op (.op .ret))) (.op (.jmp 26 [0, 2, 4, 69, 70, 73, 74, 75]))))) (.op (.jmp 22 [0, 2, 4, 69, 70]))))
theorem F25_26_eq (D J : Disp) (p0 : PV) (p2 : PV) (s4 : (List Nat)) (l69_0 : LV) (l69_1 : LV) (l69_2 : LV) (x70 : Int) (v73 : AV) (x74 : Int) (x75 : Int) (S : St) (K : AV → St → Prop) : F25_26 D J p0 p2 s4 l69_0 l69_1 l69_2 x70 v73 x74 x75 S K = execK SynP SynG Go.Proofs.Tryz.f25 (typed SynP D) J plans25 X25_26 (T25 26).1 (envOf (T25 26).2 [(AV.one (V1.s (SV.ptr p0))), (AV.one (V1.s (SV.ptr p2))), (AV.one (V1.s (SV.str s4))), (AV.one (V1.agg [(SV.sl l69_0), (SV.sl l69_1), (SV.sl l69_2)])), (AV.one (V1.s (SV.int IntKind.i64 x70))), v73, (AV.one (V1.s (SV.int IntKind.i64 x74))), (AV.one (V1.s (SV.int IntKind.i64 x75)))]) S K := by kernel_rfl
noncomputable abbrev A25_0 (D J : Disp) (vals : List AV) (S : St) (K : AV → St → Prop) : Prop :=
  uncA vals fun a9001 r9002 => scK a9001 fun s9004 => SV.cP s9004 fun p0 => endL r9002 <| F25_0 D J p0 S K
theorem A25_0_ok {D J : Disp} (hD : DOK SynP SynG D) (hJ : JOK SynP SynG Go.Proofs.Tryz.f25 T25 J) {vals : List AV} {S : St} {K : AV → St → Prop} (h0 : A25_0 D J vals S K) : Runs SynP SynG Go.Proofs.Tryz.f25 (T25 0).1 (envOf (T25 0).2 vals) S K := by
  obtain ⟨a9001, r9002, rfl, h3⟩ := uncA_some h0
  obtain ⟨s9004, rfl, h5⟩ := scK_some h3
  obtain ⟨p0, rfl, h6⟩ := cP_some h5
  obtain ⟨rfl, h7⟩ := endL_some h6
  rw [F25_0_eq] at h7
  exact execK_runs hD.typed Syn_zero Syn_mixed hJ X25_0 (T25 0).1 (envOf (T25 0).2 _) S K (chk_of (by kernel_rfl) (by kernel_rfl)) h7
noncomputable abbrev A25_19 (D J : Disp) (vals : List AV) (S : St) (K : AV → St → Prop) : Prop :=
  uncA vals fun a9001 r9002 => scK a9001 fun s9004 => SV.cP s9004 fun p0 => uncA r9002 fun a9007 r9008 => scK a9007 fun s9010 => SV.cP s9010 fun p2 => uncA r9008 fun a9013 r9014 => scK a9013 fun s9016 => SV.cP s9016 fun p5 => endL r9014 <| F25_19 D J p0 p2 p5 S K
theorem A25_19_ok {D J : Disp} (hD : DOK SynP SynG D) (hJ : JOK SynP SynG Go.Proofs.Tryz.f25 T25 J) {vals : List AV} {S : St} {K : AV → St → Prop} (h0 : A25_19 D J vals S K) : Runs SynP SynG Go.Proofs.Tryz.f25 (T25 19).1 (envOf (T25 19).2 vals) S K := by
  obtain ⟨a9001, r9002, rfl, h3⟩ := uncA_some h0
  obtain ⟨s9004, rfl, h5⟩ := scK_some h3
  obtain ⟨p0, rfl, h6⟩ := cP_some h5
  obtain ⟨a9007, r9008, rfl, h9⟩ := uncA_some h6
  obtain ⟨s9010, rfl, h11⟩ := scK_some h9
  obtain ⟨p2, rfl, h12⟩ := cP_some h11
  obtain ⟨a9013, r9014, rfl, h15⟩ := uncA_some h12
  obtain ⟨s9016, rfl, h17⟩ := scK_some h15
  obtain ⟨p5, rfl, h18⟩ := cP_some h17
  obtain ⟨rfl, h19⟩ := endL_some h18
  rw [F25_19_eq] at h19
  exact execK_runs hD.typed Syn_zero Syn_mixed hJ X25_19 (T25 19).1 (envOf (T25 19).2 _) S K (chk_of (by kernel_rfl) (by kernel_rfl)) h19
noncomputable abbrev A25_22 (D J : Disp) (vals : List AV) (S : St) (K : AV → St → Prop) : Prop :=
  uncA vals fun a9001 r9002 => scK a9001 fun s9004 => SV.cP s9004 fun p0 => uncA r9002 fun a9007 r9008 => scK a9007 fun s9010 => SV.cP s9010 fun p2 => uncA r9008 fun a9013 r9014 => scK a9013 fun s9016 => SV.cS s9016 fun s4 => uncA r9014 fun a9019 r9020 => avA a9019 fun l9022 => uncK l9022 fun s9024 r9025 => SV.cL s9024 fun l69_0 => uncK r9025 fun s9028 r9029 => SV.cL s9028 fun l69_1 => uncK r9029 fun s9032 r9033 => SV.cL s9032 fun l69_2 => endL r9033 <| uncA r9020 fun a9037 r9038 => scK a9037 fun s9040 => SV.cI IntKind.i64 s9040 fun x70 => endL r9038 <| F25_22 D J p0 p2 s4 l69_0 l69_1 l69_2 x70 S K
theorem A25_22_ok {D J : Disp} (hD : DOK SynP SynG D) (hJ : JOK SynP SynG Go.Proofs.Tryz.f25 T25 J) {vals : List AV} {S : St} {K : AV → St → Prop} (h0 : A25_22 D J vals S K) : Runs SynP SynG Go.Proofs.Tryz.f25 (T25 22).1 (envOf (T25 22).2 vals) S K := by
  obtain ⟨a9001, r9002, rfl, h3⟩ := uncA_some h0
  obtain ⟨s9004, rfl, h5⟩ := scK_some h3
  obtain ⟨p0, rfl, h6⟩ := cP_some h5
  obtain ⟨a9007, r9008, rfl, h9⟩ := uncA_some h6
  obtain ⟨s9010, rfl, h11⟩ := scK_some h9
  obtain ⟨p2, rfl, h12⟩ := cP_some h11
  obtain ⟨a9013, r9014, rfl, h15⟩ := uncA_some h12
  obtain ⟨s9016, rfl, h17⟩ := scK_some h15
  obtain ⟨s4, rfl, h18⟩ := cS_some h17
  obtain ⟨a9019, r9020, rfl, h21⟩ := uncA_some h18
  obtain ⟨l9022, rfl, h23⟩ := avA_some h21
  obtain ⟨s9024, r9025, rfl, h26⟩ := uncK_some h23
  obtain ⟨l69_0, rfl, h27⟩ := cL_some h26
  obtain ⟨s9028, r9029, rfl, h30⟩ := uncK_some h27
  obtain ⟨l69_1, rfl, h31⟩ := cL_some h30
  obtain ⟨s9032, r9033, rfl, h34⟩ := uncK_some h31
  obtain ⟨l69_2, rfl, h35⟩ := cL_some h34
  obtain ⟨rfl, h36⟩ := endL_some h35
  obtain ⟨a9037, r9038, rfl, h39⟩ := uncA_some h36
  obtain ⟨s9040, rfl, h41⟩ := scK_some h39
  obtain ⟨x70, rfl, h42⟩ := cI_some h41
  obtain ⟨rfl, h43⟩ := endL_some h42
  rw [F25_22_eq] at h43
  exact execK_runs hD.typed Syn_zero Syn_mixed hJ X25_22 (T25 22).1 (envOf (T25 22).2 _) S K (chk_of (by kernel_rfl) (by kernel_rfl)) h43
noncomputable abbrev A25_26 (D J : Disp) (vals : List AV) (S : St) (K : AV → St → Prop) : Prop :=
  uncA vals fun a9001 r9002 => scK a9001 fun s9004 => SV.cP s9004 fun p0 => uncA r9002 fun a9007 r9008 => scK a9007 fun s9010 => SV.cP s9010 fun p2 => uncA r9008 fun a9013 r9014 => scK a9013 fun s9016 => SV.cS s9016 fun s4 => uncA r9014 fun a9019 r9020 => avA a9019 fun l9022 => uncK l9022 fun s9024 r9025 => SV.cL s9024 fun l69_0 => uncK r9025 fun s9028 r9029 => SV.cL s9028 fun l69_1 => uncK r9029 fun s9032 r9033 => SV.cL s9032 fun l69_2 => endL r9033 <| uncA r9020 fun a9037 r9038 => scK a9037 fun s9040 => SV.cI IntKind.i64 s9040 fun x70 => uncA r9038 fun v73 r9044 => uncA r9044 fun a9046 r9047 => scK a9046 fun s9049 => SV.cI IntKind.i64 s9049 fun x74 => uncA r9047 fun a9052 r9053 => scK a9052 fun s9055 => SV.cI IntKind.i64 s9055 fun x75 => endL r9053 <| F25_26 D J p0 p2 s4 l69_0 l69_1 l69_2 x70 v73 x74 x75 S K
theorem A25_26_ok {D J : Disp} (hD : DOK SynP SynG D) (hJ : JOK SynP SynG Go.Proofs.Tryz.f25 T25 J) {vals : List AV} {S : St} {K : AV → St → Prop} (h0 : A25_26 D J vals S K) : Runs SynP SynG Go.Proofs.Tryz.f25 (T25 26).1 (envOf (T25 26).2 vals) S K := by
  obtain ⟨a9001, r9002, rfl, h3⟩ := uncA_some h0
  obtain ⟨s9004, rfl, h5⟩ := scK_some h3
  obtain ⟨p0, rfl, h6⟩ := cP_some h5
  obtain ⟨a9007, r9008, rfl, h9⟩ := uncA_some h6
  obtain ⟨s9010, rfl, h11⟩ := scK_some h9
  obtain ⟨p2, rfl, h12⟩ := cP_some h11
  obtain ⟨a9013, r9014, rfl, h15⟩ := uncA_some h12
  obtain ⟨s9016, rfl, h17⟩ := scK_some h15
  obtain ⟨s4, rfl, h18⟩ := cS_some h17
  obtain ⟨a9019, r9020, rfl, h21⟩ := uncA_some h18
  obtain ⟨l9022, rfl, h23⟩ := avA_some h21
  obtain ⟨s9024, r9025, rfl, h26⟩ := uncK_some h23
  obtain ⟨l69_0, rfl, h27⟩ := cL_some h26
  obtain ⟨s9028, r9029, rfl, h30⟩ := uncK_some h27
  obtain ⟨l69_1, rfl, h31⟩ := cL_some h30
  obtain ⟨s9032, r9033, rfl, h34⟩ := uncK_some h31
  obtain ⟨l69_2, rfl, h35⟩ := cL_some h34
  obtain ⟨rfl, h36⟩ := endL_some h35
  obtain ⟨a9037, r9038, rfl, h39⟩ := uncA_some h36
  obtain ⟨s9040, rfl, h41⟩ := scK_some h39
  obtain ⟨x70, rfl, h42⟩ := cI_some h41
  obtain ⟨v73, r9044, rfl, h45⟩ := uncA_some h42
  obtain ⟨a9046, r9047, rfl, h48⟩ := uncA_some h45
  obtain ⟨s9049, rfl, h50⟩ := scK_some h48
  obtain ⟨x74, rfl, h51⟩ := cI_some h50
  obtain ⟨a9052, r9053, rfl, h54⟩ := uncA_some h51
  obtain ⟨s9055, rfl, h56⟩ := scK_some h54
  obtain ⟨x75, rfl, h57⟩ := cI_some h56
  obtain ⟨rfl, h58⟩ := endL_some h57
  rw [F25_26_eq] at h58
  exact execK_runs hD.typed Syn_zero Syn_mixed hJ X25_26 (T25 26).1 (envOf (T25 26).2 _) S K (chk_of (by kernel_rfl) (by kernel_rfl)) h58
noncomputable def J25 (D : Disp) (k : Nat) : Disp := Nat.rec (motive := fun _ => Disp) Disp.no (fun _ ih => Disp.add 0 (A25_0 D ih) <| Disp.add 19 (A25_19 D ih) <| Disp.add 22 (A25_22 D ih) <| Disp.add 26 (A25_26 D ih) <| Disp.no) k
theorem J25_ok {D : Disp} (hD : DOK SynP SynG D) : ∀ k, JOK SynP SynG Go.Proofs.Tryz.f25 T25 (J25 D k)
  | 0 => JOK.no
  | k + 1 => JOK.add (ltB_ok (by kernel_rfl)) (fun vals S K h => A25_0_ok hD (J25_ok hD k) h) <| JOK.add (ltB_ok (by kernel_rfl)) (fun vals S K h => A25_19_ok hD (J25_ok hD k) h) <| JOK.add (ltB_ok (by kernel_rfl)) (fun vals S K h => A25_22_ok hD (J25_ok hD k) h) <| JOK.add (ltB_ok (by kernel_rfl)) (fun vals S K h => A25_26_ok hD (J25_ok hD k) h) <| JOK.no
theorem E25_ok {D : Disp} (hD : DOK SynP SynG D) (k : Nat) {args : List AV} {S : St} {K : AV → St → Prop} (h : A25_0 D (J25 D k) args S K) : CallE SynP SynG 25 args S K := by
  have hr := A25_0_ok hD (J25_ok hD k) h
  have hl : args.length = 1 := by
    have h0 := h
    obtain ⟨a9001, r9002, rfl, h3⟩ := uncA_some h0
    obtain ⟨s9004, rfl, h5⟩ := scK_some h3
    obtain ⟨p0, rfl, h6⟩ := cP_some h5
    obtain ⟨rfl, h7⟩ := endL_some h6
    rfl
  refine callOK_of (fn := Go.Proofs.Tryz.f25) (c := (match Go.Proofs.Tryz.f25.body with | some c => c | none => .skip)) (by kernel_rfl) (by kernel_rfl) (by kernel_rfl) (by rw [hl]; kernel_rfl) (by kernel_rfl) ?_
  rw [hl]
  exact hr
noncomputable def plans26 (i : Nat) : Plan := []
noncomputable def T26 (p : Nat) : List Item × List Nat := bif Nat.beq p 0 then ([.code (match Go.Proofs.Tryz.f26.body with | some c => c | none => .skip)], [0]) else
  ([], [])
noncomputable def F26_q0 (D J : Disp) (S : St) (S342 : St) (K : AV → St → Prop) : Prop :=
 St.at S342 (Bk.new (St.next S)) 0 fun y343 =>
 uncK y343 fun v344 y345 =>
 SV.cI IntKind.i64 v344 fun x349 =>
 uncK y345 fun v350 y351 =>
 SV.cI IntKind.i64 v350 fun x355 =>
 uncK y351 fun v356 y357 =>
 SV.cS v356 fun y362 =>
 uncK y357 fun v363 y364 =>
 SV.cS v363 fun y369 =>
 uncK y364 fun v370 y371 =>
 SV.cI IntKind.u64 v370 fun x375 =>
 uncK y371 fun v376 y377 =>
 SV.cB v376 fun y379 =>
 K ((AV.one (V1.agg [(SV.int IntKind.i64 x349), (SV.int IntKind.i64 x355), (SV.str y362), (SV.str y369), (SV.int IntKind.u64 x375), (SV.bool y379)]))) S342
noncomputable def F26_q1 (D J : Disp) (S : St) (p0 : PV) (S300 : St) (K : AV → St → Prop) : Prop :=
 D 28 [(AV.one (V1.s (SV.ptr p0))), (AV.one (V1.s (SV.int IntKind.i64 (0 : Int))))] S300 fun v301 S302 =>
 avA v301 fun y305 =>
 req (Nat.beq (List.length y305) 6) <|
 uncK y305 fun v306 y307 =>
 SV.cI IntKind.i64 v306 fun x311 =>
 uncK y307 fun v312 y313 =>
 SV.cI IntKind.i64 v312 fun x317 =>
 uncK y313 fun v318 y319 =>
 SV.cS v318 fun y324 =>
 uncK y319 fun v325 y326 =>
 SV.cS v325 fun y331 =>
 uncK y326 fun v332 y333 =>
 SV.cI IntKind.u64 v332 fun x337 =>
 uncK y333 fun v338 y339 =>
 SV.cB v338 fun y341 =>
 St.wr S302 (Bk.new (St.next S)) 0 [(SV.int IntKind.i64 x311), (SV.int IntKind.i64 x317), (SV.str y324), (SV.str y331), (SV.int IntKind.u64 x337), (SV.bool y341)] fun S342 =>
 F26_q0 D J S S342 K
noncomputable def F26_0 (D J : Disp) (p0 : PV) (S : St) (K : AV → St → Prop) : Prop :=
 let S300 : St := (St.add S (AO.cells [(SV.int IntKind.i64 (0 : Int)), (SV.int IntKind.i64 (0 : Int)), (SV.str []), (SV.str []), (SV.int IntKind.u64 (0 : Int)), (SV.bool Bool.false)] (Op2.ty 76)));
 F26_q1 D J S p0 S300 K
noncomputable def X26_0 : X := (.op (.op .ret))
theorem F26_0_eq (D J : Disp) (p0 : PV) (S : St) (K : AV → St → Prop) : F26_0 D J p0 S K = execK SynP SynG Go.Proofs.Tryz.f26 (typed SynP D) J plans26 X26_0 (T26 0).1 (envOf (T26 0).2 [(AV.one (V1.s (SV.ptr p0)))]) S K := by kernel_rfl
noncomputable abbrev A26_0 (D J : Disp) (vals : List AV) (S : St) (K : AV → St → Prop) : Prop :=
  uncA vals fun a9001 r9002 => scK a9001 fun s9004 => SV.cP s9004 fun p0 => endL r9002 <| F26_0 D J p0 S K
theorem A26_0_ok {D J : Disp} (hD : DOK SynP SynG D) (hJ : JOK SynP SynG Go.Proofs.Tryz.f26 T26 J) {vals : List AV} {S : St} {K : AV → St → Prop} (h0 : A26_0 D J vals S K) : Runs SynP SynG Go.Proofs.Tryz.f26 (T26 0).1 (envOf (T26 0).2 vals) S K := by
  obtain ⟨a9001, r9002, rfl, h3⟩ := uncA_some h0
  obtain ⟨s9004, rfl, h5⟩ := scK_some h3
  obtain ⟨p0, rfl, h6⟩ := cP_some h5
  obtain ⟨rfl, h7⟩ := endL_some h6
  rw [F26_0_eq] at h7
  exact execK_runs hD.typed Syn_zero Syn_mixed hJ X26_0 (T26 0).1 (envOf (T26 0).2 _) S K (chk_of (by kernel_rfl) (by kernel_rfl)) h7
noncomputable def J26 (D : Disp) (k : Nat) : Disp := Nat.rec (motive := fun _ => Disp) Disp.no (fun _ ih => Disp.add 0 (A26_0 D ih) <| Disp.no) k
theorem J26_ok {D : Disp} (hD : DOK SynP SynG D) : ∀ k, JOK SynP SynG Go.Proofs.Tryz.f26 T26 (J26 D k)
  | 0 => JOK.no
  | k + 1 => JOK.add (ltB_ok (by kernel_rfl)) (fun vals S K h => A26_0_ok hD (J26_ok hD k) h) <| JOK.no
theorem E26_ok {D : Disp} (hD : DOK SynP SynG D) (k : Nat) {args : List AV} {S : St} {K : AV → St → Prop} (h : A26_0 D (J26 D k) args S K) : CallE SynP SynG 26 args S K := by
  have hr := A26_0_ok hD (J26_ok hD k) h
  have hl : args.length = 1 := by
    have h0 := h
    obtain ⟨a9001, r9002, rfl, h3⟩ := uncA_some h0
    obtain ⟨s9004, rfl, h5⟩ := scK_some h3
    obtain ⟨p0, rfl, h6⟩ := cP_some h5
    obtain ⟨rfl, h7⟩ := endL_some h6
    rfl
  refine callOK_of (fn := Go.Proofs.Tryz.f26) (c := (match Go.Proofs.Tryz.f26.body with | some c => c | none => .skip)) (by kernel_rfl) (by kernel_rfl) (by kernel_rfl) (by rw [hl]; kernel_rfl) (by kernel_rfl) ?_
  rw [hl]
  exact hr
noncomputable def plans27 (i : Nat) : Plan := []
noncomputable def T27 (p : Nat) : List Item × List Nat := bif Nat.beq p 0 then ([.code (match Go.Proofs.Tryz.f27.body with | some c => c | none => .skip)], [0, 1]) else
  ([], [])
noncomputable def F27_q0 (D J : Disp) (S : St) (s1 : (List Nat)) (S300 : St) (c308 : Bool) (K : AV → St → Prop) : Prop :=
 ifK c308
 (St.at S300 (Bk.new (St.next S)) 2 fun y309 =>
 uncK y309 fun v310 y311 =>
 SV.cS v310 fun y316 =>
 let c317 : Bool := (leq y316 s1);
 K ((AV.one (V1.s (SV.bool c317)))) S300)
 (St.at S300 (Bk.new (St.next S)) 0 fun y322 =>
 uncK y322 fun v323 y324 =>
 SV.cI IntKind.i64 v323 fun x328 =>
 let c329 : Bool := (ieq x328 (5 : Int));
 ifK c329
 (St.at S300 (Bk.new (St.next S)) 2 fun y330 =>
 uncK y330 fun v331 y332 =>
 SV.cS v331 fun y337 =>
 let c338 : Bool := (leq y337 s1);
 K ((AV.one (V1.s (SV.bool c338)))) S300)
 (K ((AV.one (V1.s (SV.bool Bool.false)))) S300))
noncomputable def F27_0 (D J : Disp) (x0_0 : Int) (x0_1 : Int) (s0_2 : (List Nat)) (s0_3 : (List Nat)) (x0_4 : Int) (c0_5 : Bool) (s1 : (List Nat)) (S : St) (K : AV → St → Prop) : Prop :=
 let S300 : St := (St.add S (AO.cells [(SV.int IntKind.i64 x0_0), (SV.int IntKind.i64 x0_1), (SV.str s0_2), (SV.str s0_3), (SV.int IntKind.u64 x0_4), (SV.bool c0_5)] (Op2.ty 76)));
 St.at S300 (Bk.new (St.next S)) 0 fun y301 =>
 uncK y301 fun v302 y303 =>
 SV.cI IntKind.i64 v302 fun x307 =>
 let c308 : Bool := (ieq x307 (2 : Int));
 F27_q0 D J S s1 S300 c308 K
noncomputable def X27_0 : X := (.op (.op .ret))
theorem F27_0_eq (D J : Disp) (x0_0 : Int) (x0_1 : Int) (s0_2 : (List Nat)) (s0_3 : (List Nat)) (x0_4 : Int) (c0_5 : Bool) (s1 : (List Nat)) (S : St) (K : AV → St → Prop) : F27_0 D J x0_0 x0_1 s0_2 s0_3 x0_4 c0_5 s1 S K = execK SynP SynG Go.Proofs.Tryz.f27 (typed SynP D) J plans27 X27_0 (T27 0).1 (envOf (T27 0).2 [(AV.one (V1.agg [(SV.int IntKind.i64 x0_0), (SV.int IntKind.i64 x0_1), (SV.str s0_2), (SV.str s0_3), (SV.int IntKind.u64 x0_4), (SV.bool c0_5)])), (AV.one (V1.s (SV.str s1)))]) S K := by kernel_rfl
noncomputable abbrev A27_0 (D J : Disp) (vals : List AV) (S : St) (K : AV → St → Prop) : Prop :=
  uncA vals fun a9001 r9002 => avA a9001 fun l9004 => uncK l9004 fun s9006 r9007 => SV.cI IntKind.i64 s9006 fun x0_0 => uncK r9007 fun s9010 r9011 => SV.cI IntKind.i64 s9010 fun x0_1 => uncK r9011 fun s9014 r9015 => SV.cS s9014 fun s0_2 => uncK r9015 fun s9018 r9019 => SV.cS s9018 fun s0_3 => uncK r9019 fun s9022 r9023 => SV.cI IntKind.u64 s9022 fun x0_4 => uncK r9023 fun s9026 r9027 => SV.cB s9026 fun c0_5 => endL r9027 <| uncA r9002 fun a9031 r9032 => scK a9031 fun s9034 => SV.cS s9034 fun s1 => endL r9032 <| F27_0 D J x0_0 x0_1 s0_2 s0_3 x0_4 c0_5 s1 S K
theorem A27_0_ok {D J : Disp} (hD : DOK SynP SynG D) (hJ : JOK SynP SynG Go.Proofs.Tryz.f27 T27 J) {vals : List AV} {S : St} {K : AV → St → Prop} (h0 : A27_0 D J vals S K) : Runs SynP SynG Go.Proofs.Tryz.f27 (T27 0).1 (envOf (T27 0).2 vals) S K := by
  obtain ⟨a9001, r9002, rfl, h3⟩ := uncA_some h0
  obtain ⟨l9004, rfl, h5⟩ := avA_some h3
  obtain ⟨s9006, r9007, rfl, h8⟩ := uncK_some h5
  obtain ⟨x0_0, rfl, h9⟩ := cI_some h8
  obtain ⟨s9010, r9011, rfl, h12⟩ := uncK_some h9
  obtain ⟨x0_1, rfl, h13⟩ := cI_some h12
  obtain ⟨s9014, r9015, rfl, h16⟩ := uncK_some h13
  obtain ⟨s0_2, rfl, h17⟩ := cS_some h16
  obtain ⟨s9018, r9019, rfl, h20⟩ := uncK_some h17
  obtain ⟨s0_3, rfl, h21⟩ := cS_some h20
  obtain ⟨s9022, r9023, rfl, h24⟩ := uncK_some h21
  obtain ⟨x0_4, rfl, h25⟩ := cI_some h24
  obtain ⟨s9026, r9027, rfl, h28⟩ := uncK_some h25
  obtain ⟨c0_5, rfl, h29⟩ := cB_some h28
  obtain ⟨rfl, h30⟩ := endL_some h29
  obtain ⟨a9031, r9032, rfl, h33⟩ := uncA_some h30
  obtain ⟨s9034, rfl, h35⟩ := scK_some h33
  obtain ⟨s1, rfl, h36⟩ := cS_some h35
  obtain ⟨rfl, h37⟩ := endL_some h36
  rw [F27_0_eq] at h37
  exact execK_runs hD.typed Syn_zero Syn_mixed hJ X27_0 (T27 0).1 (envOf (T27 0).2 _) S K (chk_of (by kernel_rfl) (by kernel_rfl)) h37
noncomputable def J27 (D : Disp) (k : Nat) : Disp := Nat.rec (motive := fun _ => Disp) Disp.no (fun _ ih => Disp.add 0 (A27_0 D ih) <| Disp.no) k
theorem J27_ok {D : Disp} (hD : DOK SynP SynG D) : ∀ k, JOK SynP SynG Go.Proofs.Tryz.f27 T27 (J27 D k)
  | 0 => JOK.no
  | k + 1 => JOK.add (ltB_ok (by kernel_rfl)) (fun vals S K h => A27_0_ok hD (J27_ok hD k) h) <| JOK.no
theorem E27_ok {D : Disp} (hD : DOK SynP SynG D) (k : Nat) {args : List AV} {S : St} {K : AV → St → Prop} (h : A27_0 D (J27 D k) args S K) : CallE SynP SynG 27 args S K := by
  have hr := A27_0_ok hD (J27_ok hD k) h
  have hl : args.length = 2 := by
    have h0 := h
    obtain ⟨a9001, r9002, rfl, h3⟩ := uncA_some h0
    obtain ⟨l9004, rfl, h5⟩ := avA_some h3
    obtain ⟨s9006, r9007, rfl, h8⟩ := uncK_some h5
    obtain ⟨x0_0, rfl, h9⟩ := cI_some h8
    obtain ⟨s9010, r9011, rfl, h12⟩ := uncK_some h9
    obtain ⟨x0_1, rfl, h13⟩ := cI_some h12
    obtain ⟨s9014, r9015, rfl, h16⟩ := uncK_some h13
    obtain ⟨s0_2, rfl, h17⟩ := cS_some h16
    obtain ⟨s9018, r9019, rfl, h20⟩ := uncK_some h17
    obtain ⟨s0_3, rfl, h21⟩ := cS_some h20
    obtain ⟨s9022, r9023, rfl, h24⟩ := uncK_some h21
    obtain ⟨x0_4, rfl, h25⟩ := cI_some h24
    obtain ⟨s9026, r9027, rfl, h28⟩ := uncK_some h25
    obtain ⟨c0_5, rfl, h29⟩ := cB_some h28
    obtain ⟨rfl, h30⟩ := endL_some h29
    obtain ⟨a9031, r9032, rfl, h33⟩ := uncA_some h30
    obtain ⟨s9034, rfl, h35⟩ := scK_some h33
    obtain ⟨s1, rfl, h36⟩ := cS_some h35
    obtain ⟨rfl, h37⟩ := endL_some h36
    rfl
  refine callOK_of (fn := Go.Proofs.Tryz.f27) (c := (match Go.Proofs.Tryz.f27.body with | some c => c | none => .skip)) (by kernel_rfl) (by kernel_rfl) (by kernel_rfl) (by rw [hl]; kernel_rfl) (by kernel_rfl) ?_
  rw [hl]
  exact hr
noncomputable def plans28 (i : Nat) : Plan := if Nat.beq i 1 then [(0, []), (1, [0]), (2, [1, 0]), (3, [2, 1, 0]), (4, []), (5, [3, 4, 2, 1, 0]), (6, []), (7, [6]), (8, [7, 6]), (9, [8, 7, 6]), (10, [9, 8, 7, 6]), (11, [5, 10, 3, 4, 9, 2, 8, 1, 7, 0, 6])] else if Nat.beq i 3 then [(0, []), (1, [0]), (2, [1, 0]), (3, [2, 1, 0]), (4, []), (5, [4]), (6, [5, 4]), (7, [6, 5, 4]), (8, []), (9, [7, 8, 6, 5, 4]), (10, [3, 9, 2, 7, 8, 1, 6, 0, 5, 4]), (11, [10, 3, 9, 2, 7, 8, 1, 6, 0, 5, 4]), (12, [11, 0, 1, 2, 3, 4, 5, 6, 7, 8, 9, 10])] else []
noncomputable def T28 (p : Nat) : List Item × List Nat := bif Nat.beq p 0 then ([.code (match Go.Proofs.Tryz.f28.body with | some c => c | none => .skip)], [0, 1]) else
  ([], [])
noncomputable def F28_q0 (D J : Disp) (S : St) (S337 : St) (K : AV → St → Prop) : Prop :=
 St.at S337 (Bk.new (St.next S)) 0 fun y338 =>
 uncK y338 fun v339 y340 =>
 SV.cI IntKind.i64 v339 fun x344 =>
 uncK y340 fun v345 y346 =>
 SV.cI IntKind.i64 v345 fun x350 =>
 uncK y346 fun v351 y352 =>
 SV.cS v351 fun y357 =>
 uncK y352 fun v358 y359 =>
 SV.cS v358 fun y364 =>
 uncK y359 fun v365 y366 =>
 SV.cI IntKind.u64 v365 fun x370 =>
 uncK y366 fun v371 y372 =>
 SV.cB v371 fun y374 =>
 K ((AV.one (V1.agg [(SV.int IntKind.i64 x344), (SV.int IntKind.i64 x350), (SV.str y357), (SV.str y364), (SV.int IntKind.u64 x370), (SV.bool y374)]))) S337
noncomputable def F28_q1 (D J : Disp) (S : St) (S476 : St) (K : AV → St → Prop) : Prop :=
 St.at S476 (Bk.new (St.next S)) 0 fun y477 =>
 uncK y477 fun v478 y479 =>
 SV.cI IntKind.i64 v478 fun x483 =>
 uncK y479 fun v484 y485 =>
 SV.cI IntKind.i64 v484 fun x489 =>
 uncK y485 fun v490 y491 =>
 SV.cS v490 fun y496 =>
 uncK y491 fun v497 y498 =>
 SV.cS v497 fun y503 =>
 uncK y498 fun v504 y505 =>
 SV.cI IntKind.u64 v504 fun x509 =>
 uncK y505 fun v510 y511 =>
 SV.cB v510 fun y513 =>
 K ((AV.one (V1.agg [(SV.int IntKind.i64 x483), (SV.int IntKind.i64 x489), (SV.str y496), (SV.str y503), (SV.int IntKind.u64 x509), (SV.bool y513)]))) S476
noncomputable def F28_q2 (D J : Disp) (S : St) (S300 : St) (b434 : Bk) (n438 : Nat) (K : AV → St → Prop) : Prop :=
 St.at S300 b434 n438 fun y439 =>
 uncK y439 fun v440 y441 =>
 SV.cI IntKind.i64 v440 fun x445 =>
 uncK y441 fun v446 y447 =>
 SV.cI IntKind.i64 v446 fun x451 =>
 uncK y447 fun v452 y453 =>
 SV.cS v452 fun y458 =>
 uncK y453 fun v459 y460 =>
 SV.cS v459 fun y465 =>
 uncK y460 fun v466 y467 =>
 SV.cI IntKind.u64 v466 fun x471 =>
 uncK y467 fun v472 y473 =>
 SV.cB v472 fun y475 =>
 St.wr S300 (Bk.new (St.next S)) 0 [(SV.int IntKind.i64 x445), (SV.int IntKind.i64 x451), (SV.str y458), (SV.str y465), (SV.int IntKind.u64 x471), (SV.bool y475)] fun S476 =>
 F28_q1 D J S S476 K
noncomputable def F28_q3 (D J : Disp) (S : St) (p0 : PV) (x1 : Int) (S300 : St) (b410 : Bk) (n412 : Nat) (K : AV → St → Prop) : Prop :=
 St.at S300 b410 n412 fun y413 =>
 uncK y413 fun v414 y415 =>
 SV.cL v414 fun y422 =>
 PV.cs p0 fun b423 n424 =>
 let n425 : Nat := (n424 + 1);
 St.at S300 b423 n425 fun y426 =>
 uncK y426 fun v427 y428 =>
 SV.cI IntKind.i64 v427 fun x432 =>
 let x433 : Int := (iwrap IntKind.i64 (x432 + x1));
 LV.cs y422 fun b434 n435 n436 y437 =>
 req (Bool.and (ile (0 : Int) x433) (ilt x433 (Int.ofNat n436))) <|
 let n438 : Nat := (n435 + ((Int.toNat x433) * 6));
 F28_q2 D J S S300 b434 n438 K
noncomputable def F28_q4 (D J : Disp) (S : St) (p0 : PV) (x1 : Int) (S300 : St) (c326 : Bool) (K : AV → St → Prop) : Prop :=
 ifK c326
 (PV.cs p0 fun b327 n328 =>
 let n329 : Nat := (n328 + 2);
 St.at S300 b327 n329 fun y330 =>
 uncK y330 fun v331 y332 =>
 SV.cI IntKind.i64 v331 fun x336 =>
 St.wr S300 (Bk.new (St.next S)) 0 [(SV.int IntKind.i64 (0 : Int)), (SV.int IntKind.i64 x336), (SV.str []), (SV.str []), (SV.int IntKind.u64 (0 : Int)), (SV.bool Bool.false)] fun S337 =>
 F28_q0 D J S S337 K)
 (PV.cs p0 fun b410 n411 =>
 let n412 : Nat := (n411 + 0);
 F28_q3 D J S p0 x1 S300 b410 n412 K)
noncomputable def F28_q5 (D J : Disp) (S : St) (p0 : PV) (x1 : Int) (S300 : St) (b301 : Bk) (n302 : Nat) (K : AV → St → Prop) : Prop :=
 let n303 : Nat := (n302 + 1);
 St.at S300 b301 n303 fun y304 =>
 uncK y304 fun v305 y306 =>
 SV.cI IntKind.i64 v305 fun x310 =>
 let x311 : Int := (iwrap IntKind.i64 (x310 + x1));
 PV.cs p0 fun b312 n313 =>
 let n314 : Nat := (n313 + 0);
 St.at S300 b312 n314 fun y315 =>
 uncK y315 fun v316 y317 =>
 SV.cL v316 fun y324 =>
 let x325 : Int := (Int.ofNat (LV.len y324));
 let c326 : Bool := (ile x325 x311);
 F28_q4 D J S p0 x1 S300 c326 K
noncomputable def F28_0 (D J : Disp) (p0 : PV) (x1 : Int) (S : St) (K : AV → St → Prop) : Prop :=
 let S300 : St := (St.add S (AO.cells [(SV.int IntKind.i64 (0 : Int)), (SV.int IntKind.i64 (0 : Int)), (SV.str []), (SV.str []), (SV.int IntKind.u64 (0 : Int)), (SV.bool Bool.false)] (Op2.ty 76)));
 PV.cs p0 fun b301 n302 =>
 F28_q5 D J S p0 x1 S300 b301 n302 K
noncomputable def X28_0 : X := (.op (.op (.br (.op .ret) (.op .ret))))
theorem F28_0_eq (D J : Disp) (p0 : PV) (x1 : Int) (S : St) (K : AV → St → Prop) : F28_0 D J p0 x1 S K = execK SynP SynG Go.Proofs.Tryz.f28 (typed SynP D) J plans28 X28_0 (T28 0).1 (envOf (T28 0).2 [(AV.one (V1.s (SV.ptr p0))), (AV.one (V1.s (SV.int IntKind.i64 x1)))]) S K := by kernel_rfl
noncomputable abbrev A28_0 (D J : Disp) (vals : List AV) (S : St) (K : AV → St → Prop) : Prop :=
  uncA vals fun a9001 r9002 => scK a9001 fun s9004 => SV.cP s9004 fun p0 => uncA r9002 fun a9007 r9008 => scK a9007 fun s9010 => SV.cI IntKind.i64 s9010 fun x1 => endL r9008 <| F28_0 D J p0 x1 S K
theorem A28_0_ok {D J : Disp} (hD : DOK SynP SynG D) (hJ : JOK SynP SynG Go.Proofs.Tryz.f28 T28 J) {vals : List AV} {S : St} {K : AV → St → Prop} (h0 : A28_0 D J vals S K) : Runs SynP SynG Go.Proofs.Tryz.f28 (T28 0).1 (envOf (T28 0).2 vals) S K := by
  obtain ⟨a9001, r9002, rfl, h3⟩ := uncA_some h0
  obtain ⟨s9004, rfl, h5⟩ := scK_some h3
  obtain ⟨p0, rfl, h6⟩ := cP_some h5
  obtain ⟨a9007, r9008, rfl, h9⟩ := uncA_some h6
  obtain ⟨s9010, rfl, h11⟩ := scK_some h9
  obtain ⟨x1, rfl, h12⟩ := cI_some h11
  obtain ⟨rfl, h13⟩ := endL_some h12
  rw [F28_0_eq] at h13
  exact execK_runs hD.typed Syn_zero Syn_mixed hJ X28_0 (T28 0).1 (envOf (T28 0).2 _) S K (chk_of (by kernel_rfl) (by kernel_rfl)) h13
noncomputable def J28 (D : Disp) (k : Nat) : Disp := Nat.rec (motive := fun _ => Disp) Disp.no (fun _ ih => Disp.add 0 (A28_0 D ih) <| Disp.no) k
theorem J28_ok {D : Disp} (hD : DOK SynP SynG D) : ∀ k, JOK SynP SynG Go.Proofs.Tryz.f28 T28 (J28 D k)
  | 0 => JOK.no
  | k + 1 => JOK.add (ltB_ok (by kernel_rfl)) (fun vals S K h => A28_0_ok hD (J28_ok hD k) h) <| JOK.no
theorem E28_ok {D : Disp} (hD : DOK SynP SynG D) (k : Nat) {args : List AV} {S : St} {K : AV → St → Prop} (h : A28_0 D (J28 D k) args S K) : CallE SynP SynG 28 args S K := by
  have hr := A28_0_ok hD (J28_ok hD k) h
  have hl : args.length = 2 := by
    have h0 := h
    obtain ⟨a9001, r9002, rfl, h3⟩ := uncA_some h0
    obtain ⟨s9004, rfl, h5⟩ := scK_some h3
    obtain ⟨p0, rfl, h6⟩ := cP_some h5
    obtain ⟨a9007, r9008, rfl, h9⟩ := uncA_some h6
    obtain ⟨s9010, rfl, h11⟩ := scK_some h9
    obtain ⟨x1, rfl, h12⟩ := cI_some h11
    obtain ⟨rfl, h13⟩ := endL_some h12
    rfl
  refine callOK_of (fn := Go.Proofs.Tryz.f28) (c := (match Go.Proofs.Tryz.f28.body with | some c => c | none => .skip)) (by kernel_rfl) (by kernel_rfl) (by kernel_rfl) (by rw [hl]; kernel_rfl) (by kernel_rfl) ?_
  rw [hl]
  exact hr
noncomputable def plans29 (i : Nat) : Plan := []
noncomputable def T29 (p : Nat) : List Item × List Nat := bif Nat.beq p 0 then ([.code (match Go.Proofs.Tryz.f29.body with | some c => c | none => .skip)], [0, 1]) else
  ([], [])
noncomputable def F29_0 (D J : Disp) (p0 : PV) (s1 : (List Nat)) (S : St) (K : AV → St → Prop) : Prop :=
 D 32 [(AV.one (V1.s (SV.ptr p0))), (AV.one (V1.s (SV.str s1)))] S fun v300 S301 =>
 scK v300 fun v303 =>
 SV.cB v303 fun y304 =>
 let c305 : Bool := (Bool.not y304);
 ifK c305
 (D 59 [(AV.one (V1.s (SV.ptr p0))), (AV.one (V1.s (SV.int IntKind.i64 (4 : Int))))] S301 fun v306 S307 =>
 avT v306 fun y309 =>
 endL y309 (K ((AV.tup [])) S307))
 (K ((AV.tup [])) S301)
noncomputable def X29_0 : X := (.op (.br (.op .ret) .ret))
theorem F29_0_eq (D J : Disp) (p0 : PV) (s1 : (List Nat)) (S : St) (K : AV → St → Prop) : F29_0 D J p0 s1 S K = execK SynP SynG Go.Proofs.Tryz.f29 (typed SynP D) J plans29 X29_0 (T29 0).1 (envOf (T29 0).2 [(AV.one (V1.s (SV.ptr p0))), (AV.one (V1.s (SV.str s1)))]) S K := by kernel_rfl
noncomputable abbrev A29_0 (D J : Disp) (vals : List AV) (S : St) (K : AV → St → Prop) : Prop :=
  uncA vals fun a9001 r9002 => scK a9001 fun s9004 => SV.cP s9004 fun p0 => uncA r9002 fun a9007 r9008 => scK a9007 fun s9010 => SV.cS s9010 fun s1 => endL r9008 <| F29_0 D J p0 s1 S K
theorem A29_0_ok {D J : Disp} (hD : DOK SynP SynG D) (hJ : JOK SynP SynG Go.Proofs.Tryz.f29 T29 J) {vals : List AV} {S : St} {K : AV → St → Prop} (h0 : A29_0 D J vals S K) : Runs SynP SynG Go.Proofs.Tryz.f29 (T29 0).1 (envOf (T29 0).2 vals) S K := by
  obtain ⟨a9001, r9002, rfl, h3⟩ := uncA_some h0
  obtain ⟨s9004, rfl, h5⟩ := scK_some h3
  obtain ⟨p0, rfl, h6⟩ := cP_some h5
  obtain ⟨a9007, r9008, rfl, h9⟩ := uncA_some h6
  obtain ⟨s9010, rfl, h11⟩ := scK_some h9
  obtain ⟨s1, rfl, h12⟩ := cS_some h11
  obtain ⟨rfl, h13⟩ := endL_some h12
  rw [F29_0_eq] at h13
  exact execK_runs hD.typed Syn_zero Syn_mixed hJ X29_0 (T29 0).1 (envOf (T29 0).2 _) S K (chk_of (by kernel_rfl) (by kernel_rfl)) h13
noncomputable def J29 (D : Disp) (k : Nat) : Disp := Nat.rec (motive := fun _ => Disp) Disp.no (fun _ ih => Disp.add 0 (A29_0 D ih) <| Disp.no) k
theorem J29_ok {D : Disp} (hD : DOK SynP SynG D) : ∀ k, JOK SynP SynG Go.Proofs.Tryz.f29 T29 (J29 D k)
  | 0 => JOK.no
  | k + 1 => JOK.add (ltB_ok (by kernel_rfl)) (fun vals S K h => A29_0_ok hD (J29_ok hD k) h) <| JOK.no
theorem E29_ok {D : Disp} (hD : DOK SynP SynG D) (k : Nat) {args : List AV} {S : St} {K : AV → St → Prop} (h : A29_0 D (J29 D k) args S K) : CallE SynP SynG 29 args S K := by
  have hr := A29_0_ok hD (J29_ok hD k) h
  have hl : args.length = 2 := by
    have h0 := h
    obtain ⟨a9001, r9002, rfl, h3⟩ := uncA_some h0
    obtain ⟨s9004, rfl, h5⟩ := scK_some h3
    obtain ⟨p0, rfl, h6⟩ := cP_some h5
    obtain ⟨a9007, r9008, rfl, h9⟩ := uncA_some h6
    obtain ⟨s9010, rfl, h11⟩ := scK_some h9
    obtain ⟨s1, rfl, h12⟩ := cS_some h11
    obtain ⟨rfl, h13⟩ := endL_some h12
    rfl
  refine callOK_of (fn := Go.Proofs.Tryz.f29) (c := (match Go.Proofs.Tryz.f29.body with | some c => c | none => .skip)) (by kernel_rfl) (by kernel_rfl) (by kernel_rfl) (by rw [hl]; kernel_rfl) (by kernel_rfl) ?_
  rw [hl]
  exact hr
noncomputable def plans30 (i : Nat) : Plan := if Nat.beq i 5 then [(0, []), (1, [0]), (2, [1, 0]), (3, [2, 1, 0]), (4, []), (5, [4]), (6, [5, 4]), (7, [6, 5, 4]), (8, [7, 6, 5, 4]), (9, [3, 8, 2, 7, 1, 6, 0, 5, 4]), (10, [9, 3, 8, 2, 7, 1, 6, 0, 5, 4]), (11, [10, 9, 3, 8, 2, 7, 1, 6, 0, 5, 4]), (12, [11, 0, 1, 2, 3, 4, 5, 6, 7, 8, 9, 10])] else []
noncomputable def T30 (p : Nat) : List Item × List Nat := bif Nat.beq p 0 then ([.code (match Go.Proofs.Tryz.f30.body with | some c => c | none => .skip)], [0]) else
  bif Nat.beq p 2 then (navs [.op, .op] [.code (match Go.Proofs.Tryz.f30.body with | some c => c | none => .skip)], [0, 11]) else
  ([], [])
noncomputable def F30_q3 (D J : Disp) (p0 : PV) (S301 : St) (K : AV → St → Prop) : Prop :=
 D 26 [(AV.one (V1.s (SV.ptr p0)))] S301 fun v306 S307 =>
 avA v306 fun y310 =>
 req (Nat.beq (List.length y310) 6) <|
 uncK y310 fun v311 y312 =>
 SV.cI IntKind.i64 v311 fun x316 =>
 uncK y312 fun v317 y318 =>
 SV.cI IntKind.i64 v317 fun x322 =>
 uncK y318 fun v323 y324 =>
 SV.cS v323 fun y329 =>
 uncK y324 fun v330 y331 =>
 SV.cS v330 fun y336 =>
 uncK y331 fun v337 y338 =>
 SV.cI IntKind.u64 v337 fun x342 =>
 uncK y338 fun v343 y344 =>
 SV.cB v343 fun y346 =>
 let c347 : Bool := (Bool.not (ieq x316 (1 : Int)));
 J 2 [(AV.one (V1.s (SV.ptr p0))), (AV.one (V1.s (SV.bool c347)))] S307 K
noncomputable def F30_0 (D J : Disp) (p0 : PV) (S : St) (K : AV → St → Prop) : Prop :=
 D 18 [(AV.one (V1.s (SV.ptr p0)))] S fun v300 S301 =>
 scK v300 fun v303 =>
 SV.cB v303 fun y304 =>
 let c305 : Bool := (Bool.not y304);
 ifK c305
 (J 2 [(AV.one (V1.s (SV.ptr p0))), (AV.one (V1.s (SV.bool Bool.true)))] S301 K)
 (F30_q3 D J p0 S301 K)
noncomputable def X30_0 : X := (.op (.op (.jmp 2 [0, 11])))
theorem F30_0_eq (D J : Disp) (p0 : PV) (S : St) (K : AV → St → Prop) : F30_0 D J p0 S K = execK SynP SynG Go.Proofs.Tryz.f30 (typed SynP D) J plans30 X30_0 (T30 0).1 (envOf (T30 0).2 [(AV.one (V1.s (SV.ptr p0)))]) S K := by kernel_rfl
noncomputable def F30_q4 (D J : Disp) (S321 : St) (y334 : LV) (b335 : Bk) (n337 : Nat) (K : AV → St → Prop) : Prop :=
 St.at S321 b335 n337 fun y338 =>
 uncK y338 fun v339 y340 =>
 SV.cI IntKind.i64 v339 fun x344 =>
 let x345 : Int := (iwrap IntKind.i64 (x344 - (1 : Int)));
 LV.cs y334 fun b346 n347 n348 y349 =>
 req (Bool.and (ile (0 : Int) x345) (ilt x345 (Int.ofNat n348))) <|
 let n350 : Nat := (n347 + ((Int.toNat x345) * 6));
 let n351 : Nat := (n350 + 2);
 St.at S321 b346 n351 fun y352 =>
 uncK y352 fun v353 y354 =>
 SV.cS v353 fun y359 =>
 K ((AV.one (V1.s (SV.str y359)))) S321
noncomputable def F30_q5 (D J : Disp) (S : St) (p0 : PV) (b307 : Bk) (n309 : Nat) (K : AV → St → Prop) : Prop :=
 St.at S b307 n309 fun y310 =>
 uncK y310 fun v311 y312 =>
 SV.cI IntKind.i64 v311 fun x316 =>
 let x317 : Int := (iwrap IntKind.i64 (x316 + (1 : Int)));
 PV.cs p0 fun b318 n319 =>
 let n320 : Nat := (n319 + 1);
 St.wr S b318 n320 [(SV.int IntKind.i64 x317)] fun S321 =>
 PV.cs p0 fun b322 n323 =>
 let n324 : Nat := (n323 + 0);
 St.at S321 b322 n324 fun y325 =>
 uncK y325 fun v326 y327 =>
 SV.cL v326 fun y334 =>
 PV.cs p0 fun b335 n336 =>
 let n337 : Nat := (n336 + 1);
 F30_q4 D J S321 y334 b335 n337 K
noncomputable def F30_2 (D J : Disp) (p0 : PV) (c11 : Bool) (S : St) (K : AV → St → Prop) : Prop :=
 ifK c11
 (D 59 [(AV.one (V1.s (SV.ptr p0))), (AV.one (V1.s (SV.int IntKind.i64 (4 : Int))))] S fun v300 S301 =>
 avT v300 fun y303 =>
 endL y303 (K ((AV.one (V1.s (SV.str [])))) S301))
 (PV.cs p0 fun b307 n308 =>
 let n309 : Nat := (n308 + 1);
 F30_q5 D J S p0 b307 n309 K)
noncomputable def X30_2 : X := (.br (.op (.op .ret)) (.op (.op .ret)))
theorem F30_2_eq (D J : Disp) (p0 : PV) (c11 : Bool) (S : St) (K : AV → St → Prop) : F30_2 D J p0 c11 S K = execK SynP SynG Go.Proofs.Tryz.f30 (typed SynP D) J plans30 X30_2 (T30 2).1 (envOf (T30 2).2 [(AV.one (V1.s (SV.ptr p0))), (AV.one (V1.s (SV.bool c11)))]) S K := by kernel_rfl
noncomputable abbrev A30_0 (D J : Disp) (vals : List AV) (S : St) (K : AV → St → Prop) : Prop :=
  uncA vals fun a9001 r9002 => scK a9001 fun s9004 => SV.cP s9004 fun p0 => endL r9002 <| F30_0 D J p0 S K
theorem A30_0_ok {D J : Disp} (hD : DOK SynP SynG D) (hJ : JOK SynP SynG Go.Proofs.Tryz.f30 T30 J) {vals : List AV} {S : St} {K : AV → St → Prop} (h0 : A30_0 D J vals S K) : Runs SynP SynG Go.Proofs.Tryz.f30 (T30 0).1 (envOf (T30 0).2 vals) S K := by
  obtain ⟨a9001, r9002, rfl, h3⟩ := uncA_some h0
  obtain ⟨s9004, rfl, h5⟩ := scK_some h3
  obtain ⟨p0, rfl, h6⟩ := cP_some h5
  obtain ⟨rfl, h7⟩ := endL_some h6
  rw [F30_0_eq] at h7
  exact execK_runs hD.typed Syn_zero Syn_mixed hJ X30_0 (T30 0).1 (envOf (T30 0).2 _) S K (chk_of (by kernel_rfl) (by kernel_rfl)) h7
noncomputable abbrev A30_2 (D J : Disp) (vals : List AV) (S : St) (K : AV → St → Prop) : Prop :=
  uncA vals fun a9001 r9002 => scK a9001 fun s9004 => SV.cP s9004 fun p0 => uncA r9002 fun a9007 r9008 => scK a9007 fun s9010 => SV.cB s9010 fun c11 => endL r9008 <| F30_2 D J p0 c11 S K
theorem A30_2_ok {D J : Disp} (hD : DOK SynP SynG D) (hJ : JOK SynP SynG Go.Proofs.Tryz.f30 T30 J) {vals : List AV} {S : St} {K : AV → St → Prop} (h0 : A30_2 D J vals S K) : Runs SynP SynG Go.Proofs.Tryz.f30 (T30 2).1 (envOf (T30 2).2 vals) S K := by
  obtain ⟨a9001, r9002, rfl, h3⟩ := uncA_some h0
  obtain ⟨s9004, rfl, h5⟩ := scK_some h3
  obtain ⟨p0, rfl, h6⟩ := cP_some h5
  obtain ⟨a9007, r9008, rfl, h9⟩ := uncA_some h6
  obtain ⟨s9010, rfl, h11⟩ := scK_some h9
  obtain ⟨c11, rfl, h12⟩ := cB_some h11
  obtain ⟨rfl, h13⟩ := endL_some h12
  rw [F30_2_eq] at h13
  exact execK_runs hD.typed Syn_zero Syn_mixed hJ X30_2 (T30 2).1 (envOf (T30 2).2 _) S K (chk_of (by kernel_rfl) (by kernel_rfl)) h13
noncomputable def J30 (D : Disp) (k : Nat) : Disp := Nat.rec (motive := fun _ => Disp) Disp.no (fun _ ih => Disp.add 0 (A30_0 D ih) <| Disp.add 2 (A30_2 D ih) <| Disp.no) k
theorem J30_ok {D : Disp} (hD : DOK SynP SynG D) : ∀ k, JOK SynP SynG Go.Proofs.Tryz.f30 T30 (J30 D k)
  | 0 => JOK.no
  | k + 1 => JOK.add (ltB_ok (by kernel_rfl)) (fun vals S K h => A30_0_ok hD (J30_ok hD k) h) <| JOK.add (ltB_ok (by kernel_rfl)) (fun vals S K h => A30_2_ok hD (J30_ok hD k) h) <| JOK.no
theorem E30_ok {D : Disp} (hD : DOK SynP SynG D) (k : Nat) {args : List AV} {S : St} {K : AV → St → Prop} (h : A30_0 D (J30 D k) args S K) : CallE SynP SynG 30 args S K := by
  have hr := A30_0_ok hD (J30_ok hD k) h
  have hl : args.length = 1 := by
    have h0 := h
    obtain ⟨a9001, r9002, rfl, h3⟩ := uncA_some h0
    obtain ⟨s9004, rfl, h5⟩ := scK_some h3
    obtain ⟨p0, rfl, h6⟩ := cP_some h5
    obtain ⟨rfl, h7⟩ := endL_some h6
    rfl
  refine callOK_of (fn := Go.Proofs.Tryz.f30) (c := (match Go.Proofs.Tryz.f30.body with | some c => c | none => .skip)) (by kernel_rfl) (by kernel_rfl) (by kernel_rfl) (by rw [hl]; kernel_rfl) (by kernel_rfl) ?_
  rw [hl]
  exact hr
noncomputable def plans31 (i : Nat) : Plan := []
noncomputable def T31 (p : Nat) : List Item × List Nat := bif Nat.beq p 0 then ([.code (match Go.Proofs.Tryz.f31.body with | some c => c | none => .skip)], [0, 1]) else
  ([], [])
noncomputable def F31_q0 (D J : Disp) (S : St) (S379 : St) (K : AV → St → Prop) : Prop :=
 St.at S379 (Bk.new (St.next S)) 0 fun y380 =>
 uncK y380 fun v381 y382 =>
 SV.cS v381 fun y387 =>
 uncK y382 fun v388 y389 =>
 SV.cI IntKind.i64 v388 fun x393 =>
 uncK y389 fun v394 y395 =>
 SV.cS v394 fun y400 =>
 uncK y395 fun v401 y402 =>
 SV.cI IntKind.u64 v401 fun x406 =>
 uncK y402 fun v407 y408 =>
 SV.cB v407 fun y410 =>
 K ((AV.one (V1.agg [(SV.str y387), (SV.int IntKind.i64 x393), (SV.str y400), (SV.int IntKind.u64 x406), (SV.bool y410)]))) S379
noncomputable def F31_q1 (D J : Disp) (S : St) (S302 : St) (S347 : St) (K : AV → St → Prop) : Prop :=
 St.at S347 (Bk.new (St.next S302)) 0 fun y348 =>
 uncK y348 fun v349 y350 =>
 SV.cS v349 fun y355 =>
 uncK y350 fun v356 y357 =>
 SV.cI IntKind.i64 v356 fun x361 =>
 uncK y357 fun v362 y363 =>
 SV.cS v362 fun y368 =>
 uncK y363 fun v369 y370 =>
 SV.cI IntKind.u64 v369 fun x374 =>
 uncK y370 fun v375 y376 =>
 SV.cB v375 fun y378 =>
 St.wr S347 (Bk.new (St.next S)) 0 [(SV.str y355), (SV.int IntKind.i64 x361), (SV.str y368), (SV.int IntKind.u64 x374), (SV.bool y378)] fun S379 =>
 F31_q0 D J S S379 K
noncomputable def F31_q2 (D J : Disp) (S : St) (S509 : St) (K : AV → St → Prop) : Prop :=
 St.at S509 (Bk.new (St.next S)) 0 fun y510 =>
 uncK y510 fun v511 y512 =>
 SV.cS v511 fun y517 =>
 uncK y512 fun v518 y519 =>
 SV.cI IntKind.i64 v518 fun x523 =>
 uncK y519 fun v524 y525 =>
 SV.cS v524 fun y530 =>
 uncK y525 fun v531 y532 =>
 SV.cI IntKind.u64 v531 fun x536 =>
 uncK y532 fun v537 y538 =>
 SV.cB v537 fun y540 =>
 K ((AV.one (V1.agg [(SV.str y517), (SV.int IntKind.i64 x523), (SV.str y530), (SV.int IntKind.u64 x536), (SV.bool y540)]))) S509
noncomputable def F31_q3 (D J : Disp) (S : St) (S302 : St) (S329 : St) (K : AV → St → Prop) : Prop :=
 St.at S329 (Bk.new (St.next S302)) 0 fun y478 =>
 uncK y478 fun v479 y480 =>
 SV.cS v479 fun y485 =>
 uncK y480 fun v486 y487 =>
 SV.cI IntKind.i64 v486 fun x491 =>
 uncK y487 fun v492 y493 =>
 SV.cS v492 fun y498 =>
 uncK y493 fun v499 y500 =>
 SV.cI IntKind.u64 v499 fun x504 =>
 uncK y500 fun v505 y506 =>
 SV.cB v505 fun y508 =>
 St.wr S329 (Bk.new (St.next S)) 0 [(SV.str y485), (SV.int IntKind.i64 x491), (SV.str y498), (SV.int IntKind.u64 x504), (SV.bool y508)] fun S509 =>
 F31_q2 D J S S509 K
noncomputable def F31_q4 (D J : Disp) (S : St) (p0 : PV) (c1 : Bool) (S302 : St) (S329 : St) (K : AV → St → Prop) : Prop :=
 ifK c1
 (D 38 [(AV.one (V1.s (SV.ptr p0)))] S329 fun v330 S331 =>
 avT v330 fun y333 =>
 uncV y333 fun v334 y335 =>
 v1S v334 fun v337 =>
 SV.cI IntKind.u64 v337 fun x340 =>
 uncV y335 fun v341 y342 =>
 v1S v341 fun v344 =>
 SV.cB v344 fun y345 =>
 endL y342 (St.wr S331 (Bk.new (St.next S302)) 3 [(SV.int IntKind.u64 x340)] fun S346 =>
 St.wr S346 (Bk.new (St.next S302)) 4 [(SV.bool y345)] fun S347 =>
 F31_q1 D J S S302 S347 K))
 (F31_q3 D J S S302 S329 K)
noncomputable def F31_q5 (D J : Disp) (S : St) (p0 : PV) (c1 : Bool) (S302 : St) (y312 : (List Nat)) (x318 : Int) (K : AV → St → Prop) : Prop :=
 let S319 : St := (St.add S302 (AO.cells [(SV.str []), (SV.int IntKind.i64 (0 : Int)), (SV.str []), (SV.int IntKind.u64 (0 : Int)), (SV.bool Bool.false)] (Op2.ty 48)));
 St.wr S319 (Bk.new (St.next S302)) 0 [(SV.str y312), (SV.int IntKind.i64 x318), (SV.str []), (SV.int IntKind.u64 (0 : Int)), (SV.bool Bool.false)] fun S320 =>
 D 30 [(AV.one (V1.s (SV.ptr p0)))] S320 fun v321 S322 =>
 scK v321 fun v324 =>
 SV.cS v324 fun y328 =>
 St.wr S322 (Bk.new (St.next S302)) 2 [(SV.str y328)] fun S329 =>
 F31_q4 D J S p0 c1 S302 S329 K
noncomputable def F31_0 (D J : Disp) (p0 : PV) (c1 : Bool) (S : St) (K : AV → St → Prop) : Prop :=
 let S300 : St := (St.add S (AO.cells [(SV.str []), (SV.int IntKind.i64 (0 : Int)), (SV.str []), (SV.int IntKind.u64 (0 : Int)), (SV.bool Bool.false)] (Op2.ty 48)));
 D 35 [(AV.one (V1.s (SV.ptr p0)))] S300 fun v301 S302 =>
 avA v301 fun y305 =>
 req (Nat.beq (List.length y305) 2) <|
 uncK y305 fun v306 y307 =>
 SV.cS v306 fun y312 =>
 uncK y307 fun v313 y314 =>
 SV.cI IntKind.i64 v313 fun x318 =>
 F31_q5 D J S p0 c1 S302 y312 x318 K
noncomputable def X31_0 : X := (.op (.op (.op (.op (.br (.op (.op .ret)) (.op .ret))))))
theorem F31_0_eq (D J : Disp) (p0 : PV) (c1 : Bool) (S : St) (K : AV → St → Prop) : F31_0 D J p0 c1 S K = execK SynP SynG Go.Proofs.Tryz.f31 (typed SynP D) J plans31 X31_0 (T31 0).1 (envOf (T31 0).2 [(AV.one (V1.s (SV.ptr p0))), (AV.one (V1.s (SV.bool c1)))]) S K := by kernel_rfl
noncomputable abbrev A31_0 (D J : Disp) (vals : List AV) (S : St) (K : AV → St → Prop) : Prop :=
  uncA vals fun a9001 r9002 => scK a9001 fun s9004 => SV.cP s9004 fun p0 => uncA r9002 fun a9007 r9008 => scK a9007 fun s9010 => SV.cB s9010 fun c1 => endL r9008 <| F31_0 D J p0 c1 S K
theorem A31_0_ok {D J : Disp} (hD : DOK SynP SynG D) (hJ : JOK SynP SynG Go.Proofs.Tryz.f31 T31 J) {vals : List AV} {S : St} {K : AV → St → Prop} (h0 : A31_0 D J vals S K) : Runs SynP SynG Go.Proofs.Tryz.f31 (T31 0).1 (envOf (T31 0).2 vals) S K := by
  obtain ⟨a9001, r9002, rfl, h3⟩ := uncA_some h0
  obtain ⟨s9004, rfl, h5⟩ := scK_some h3
  obtain ⟨p0, rfl, h6⟩ := cP_some h5
  obtain ⟨a9007, r9008, rfl, h9⟩ := uncA_some h6
  obtain ⟨s9010, rfl, h11⟩ := scK_some h9
  obtain ⟨c1, rfl, h12⟩ := cB_some h11
  obtain ⟨rfl, h13⟩ := endL_some h12
  rw [F31_0_eq] at h13
  exact execK_runs hD.typed Syn_zero Syn_mixed hJ X31_0 (T31 0).1 (envOf (T31 0).2 _) S K (chk_of (by kernel_rfl) (by kernel_rfl)) h13
noncomputable def J31 (D : Disp) (k : Nat) : Disp := Nat.rec (motive := fun _ => Disp) Disp.no (fun _ ih => Disp.add 0 (A31_0 D ih) <| Disp.no) k
theorem J31_ok {D : Disp} (hD : DOK SynP SynG D) : ∀ k, JOK SynP SynG Go.Proofs.Tryz.f31 T31 (J31 D k)
  | 0 => JOK.no
  | k + 1 => JOK.add (ltB_ok (by kernel_rfl)) (fun vals S K h => A31_0_ok hD (J31_ok hD k) h) <| JOK.no
theorem E31_ok {D : Disp} (hD : DOK SynP SynG D) (k : Nat) {args : List AV} {S : St} {K : AV → St → Prop} (h : A31_0 D (J31 D k) args S K) : CallE SynP SynG 31 args S K := by
  have hr := A31_0_ok hD (J31_ok hD k) h
  have hl : args.length = 2 := by
    have h0 := h
    obtain ⟨a9001, r9002, rfl, h3⟩ := uncA_some h0
    obtain ⟨s9004, rfl, h5⟩ := scK_some h3
    obtain ⟨p0, rfl, h6⟩ := cP_some h5
    obtain ⟨a9007, r9008, rfl, h9⟩ := uncA_some h6
    obtain ⟨s9010, rfl, h11⟩ := scK_some h9
    obtain ⟨c1, rfl, h12⟩ := cB_some h11
    obtain ⟨rfl, h13⟩ := endL_some h12
    rfl
  refine callOK_of (fn := Go.Proofs.Tryz.f31) (c := (match Go.Proofs.Tryz.f31.body with | some c => c | none => .skip)) (by kernel_rfl) (by kernel_rfl) (by kernel_rfl) (by rw [hl]; kernel_rfl) (by kernel_rfl) ?_
  rw [hl]
  exact hr
noncomputable def plans32 (i : Nat) : Plan := []
noncomputable def T32 (p : Nat) : List Item × List Nat := bif Nat.beq p 0 then ([.code (match Go.Proofs.Tryz.f32.body with | some c => c | none => .skip)], [0, 1]) else
  bif Nat.beq p 2 then (navs [.op, .op] [.code (match Go.Proofs.Tryz.f32.body with | some c => c | none => .skip)], [0, 14]) else
  ([], [])
noncomputable def F32_q1 (D J : Disp) (p0 : PV) (s1 : (List Nat)) (S301 : St) (K : AV → St → Prop) : Prop :=
 D 26 [(AV.one (V1.s (SV.ptr p0)))] S301 fun v306 S307 =>
 avA v306 fun y310 =>
 req (Nat.beq (List.length y310) 6) <|
 uncK y310 fun v311 y312 =>
 SV.cI IntKind.i64 v311 fun x316 =>
 uncK y312 fun v317 y318 =>
 SV.cI IntKind.i64 v317 fun x322 =>
 uncK y318 fun v323 y324 =>
 SV.cS v323 fun y329 =>
 uncK y324 fun v330 y331 =>
 SV.cS v330 fun y336 =>
 uncK y331 fun v337 y338 =>
 SV.cI IntKind.u64 v337 fun x342 =>
 uncK y338 fun v343 y344 =>
 SV.cB v343 fun y346 =>
 D 27 [(AV.one (V1.agg [(SV.int IntKind.i64 x316), (SV.int IntKind.i64 x322), (SV.str y329), (SV.str y336), (SV.int IntKind.u64 x342), (SV.bool y346)])), (AV.one (V1.s (SV.str s1)))] S307 fun v347 S348 =>
 scK v347 fun v350 =>
 SV.cB v350 fun y351 =>
 let c352 : Bool := (Bool.not y351);
 J 2 [(AV.one (V1.s (SV.ptr p0))), (AV.one (V1.s (SV.bool c352)))] S348 K
noncomputable def F32_0 (D J : Disp) (p0 : PV) (s1 : (List Nat)) (S : St) (K : AV → St → Prop) : Prop :=
 D 18 [(AV.one (V1.s (SV.ptr p0)))] S fun v300 S301 =>
 scK v300 fun v303 =>
 SV.cB v303 fun y304 =>
 let c305 : Bool := (Bool.not y304);
 ifK c305
 (J 2 [(AV.one (V1.s (SV.ptr p0))), (AV.one (V1.s (SV.bool Bool.true)))] S301 K)
 (F32_q1 D J p0 s1 S301 K)
noncomputable def X32_0 : X := (.op (.op (.jmp 2 [0, 14])))
theorem F32_0_eq (D J : Disp) (p0 : PV) (s1 : (List Nat)) (S : St) (K : AV → St → Prop) : F32_0 D J p0 s1 S K = execK SynP SynG Go.Proofs.Tryz.f32 (typed SynP D) J plans32 X32_0 (T32 0).1 (envOf (T32 0).2 [(AV.one (V1.s (SV.ptr p0))), (AV.one (V1.s (SV.str s1)))]) S K := by kernel_rfl
noncomputable def F32_2 (D J : Disp) (p0 : PV) (c14 : Bool) (S : St) (K : AV → St → Prop) : Prop :=
 ifK c14
 (K ((AV.one (V1.s (SV.bool Bool.false)))) S)
 (PV.cs p0 fun b300 n301 =>
 let n302 : Nat := (n301 + 1);
 St.at S b300 n302 fun y303 =>
 uncK y303 fun v304 y305 =>
 SV.cI IntKind.i64 v304 fun x309 =>
 let x310 : Int := (iwrap IntKind.i64 (x309 + (1 : Int)));
 PV.cs p0 fun b311 n312 =>
 let n313 : Nat := (n312 + 1);
 St.wr S b311 n313 [(SV.int IntKind.i64 x310)] fun S314 =>
 K ((AV.one (V1.s (SV.bool Bool.true)))) S314)
noncomputable def X32_2 : X := (.br (.op .ret) (.op (.op .ret)))
theorem F32_2_eq (D J : Disp) (p0 : PV) (c14 : Bool) (S : St) (K : AV → St → Prop) : F32_2 D J p0 c14 S K = execK SynP SynG Go.Proofs.Tryz.f32 (typed SynP D) J plans32 X32_2 (T32 2).1 (envOf (T32 2).2 [(AV.one (V1.s (SV.ptr p0))), (AV.one (V1.s (SV.bool c14)))]) S K := by kernel_rfl
noncomputable abbrev A32_0 (D J : Disp) (vals : List AV) (S : St) (K : AV → St → Prop) : Prop :=
  uncA vals fun a9001 r9002 => scK a9001 fun s9004 => SV.cP s9004 fun p0 => uncA r9002 fun a9007 r9008 => scK a9007 fun s9010 => SV.cS s9010 fun s1 => endL r9008 <| F32_0 D J p0 s1 S K
theorem A32_0_ok {D J : Disp} (hD : DOK SynP SynG D) (hJ : JOK SynP SynG Go.Proofs.Tryz.f32 T32 J) {vals : List AV} {S : St} {K : AV → St → Prop} (h0 : A32_0 D J vals S K) : Runs SynP SynG Go.Proofs.Tryz.f32 (T32 0).1 (envOf (T32 0).2 vals) S K := by
  obtain ⟨a9001, r9002, rfl, h3⟩ := uncA_some h0
  obtain ⟨s9004, rfl, h5⟩ := scK_some h3
  obtain ⟨p0, rfl, h6⟩ := cP_some h5
  obtain ⟨a9007, r9008, rfl, h9⟩ := uncA_some h6
  obtain ⟨s9010, rfl, h11⟩ := scK_some h9
  obtain ⟨s1, rfl, h12⟩ := cS_some h11
  obtain ⟨rfl, h13⟩ := endL_some h12
  rw [F32_0_eq] at h13
  exact execK_runs hD.typed Syn_zero Syn_mixed hJ X32_0 (T32 0).1 (envOf (T32 0).2 _) S K (chk_of (by kernel_rfl) (by kernel_rfl)) h13
noncomputable abbrev A32_2 (D J : Disp) (vals : List AV) (S : St) (K : AV → St → Prop) : Prop :=
  uncA vals fun a9001 r9002 => scK a9001 fun s9004 => SV.cP s9004 fun p0 => uncA r9002 fun a9007 r9008 => scK a9007 fun s9010 => SV.cB s9010 fun c14 => endL r9008 <| F32_2 D J p0 c14 S K
theorem A32_2_ok {D J : Disp} (hD : DOK SynP SynG D) (hJ : JOK SynP SynG Go.Proofs.Tryz.f32 T32 J) {vals : List AV} {S : St} {K : AV → St → Prop} (h0 : A32_2 D J vals S K) : Runs SynP SynG Go.Proofs.Tryz.f32 (T32 2).1 (envOf (T32 2).2 vals) S K := by
  obtain ⟨a9001, r9002, rfl, h3⟩ := uncA_some h0
  obtain ⟨s9004, rfl, h5⟩ := scK_some h3
  obtain ⟨p0, rfl, h6⟩ := cP_some h5
  obtain ⟨a9007, r9008, rfl, h9⟩ := uncA_some h6
  obtain ⟨s9010, rfl, h11⟩ := scK_some h9
  obtain ⟨c14, rfl, h12⟩ := cB_some h11
  obtain ⟨rfl, h13⟩ := endL_some h12
  rw [F32_2_eq] at h13
  exact execK_runs hD.typed Syn_zero Syn_mixed hJ X32_2 (T32 2).1 (envOf (T32 2).2 _) S K (chk_of (by kernel_rfl) (by kernel_rfl)) h13
noncomputable def J32 (D : Disp) (k : Nat) : Disp := Nat.rec (motive := fun _ => Disp) Disp.no (fun _ ih => Disp.add 0 (A32_0 D ih) <| Disp.add 2 (A32_2 D ih) <| Disp.no) k
theorem J32_ok {D : Disp} (hD : DOK SynP SynG D) : ∀ k, JOK SynP SynG Go.Proofs.Tryz.f32 T32 (J32 D k)
  | 0 => JOK.no
  | k + 1 => JOK.add (ltB_ok (by kernel_rfl)) (fun vals S K h => A32_0_ok hD (J32_ok hD k) h) <| JOK.add (ltB_ok (by kernel_rfl)) (fun vals S K h => A32_2_ok hD (J32_ok hD k) h) <| JOK.no
theorem E32_ok {D : Disp} (hD : DOK SynP SynG D) (k : Nat) {args : List AV} {S : St} {K : AV → St → Prop} (h : A32_0 D (J32 D k) args S K) : CallE SynP SynG 32 args S K := by
  have hr := A32_0_ok hD (J32_ok hD k) h
  have hl : args.length = 2 := by
    have h0 := h
    obtain ⟨a9001, r9002, rfl, h3⟩ := uncA_some h0
    obtain ⟨s9004, rfl, h5⟩ := scK_some h3
    obtain ⟨p0, rfl, h6⟩ := cP_some h5
    obtain ⟨a9007, r9008, rfl, h9⟩ := uncA_some h6
    obtain ⟨s9010, rfl, h11⟩ := scK_some h9
    obtain ⟨s1, rfl, h12⟩ := cS_some h11
    obtain ⟨rfl, h13⟩ := endL_some h12
    rfl
  refine callOK_of (fn := Go.Proofs.Tryz.f32) (c := (match Go.Proofs.Tryz.f32.body with | some c => c | none => .skip)) (by kernel_rfl) (by kernel_rfl) (by kernel_rfl) (by rw [hl]; kernel_rfl) (by kernel_rfl) ?_
  rw [hl]
  exact hr
noncomputable def plans33 (i : Nat) : Plan := []
noncomputable def T33 (p : Nat) : List Item × List Nat := bif Nat.beq p 0 then ([.code (match Go.Proofs.Tryz.f33.body with | some c => c | none => .skip)], [0, 1]) else
  bif Nat.beq p 6 then (navs [.op, .op, .el, .op] [.code (match Go.Proofs.Tryz.f33.body with | some c => c | none => .skip)], [0, 1, 5]) else
  ([], [])
noncomputable def F33_q4 (D J : Disp) (p0 : PV) (f1 : FV) (S313 : St) (v314 : AV) (K : AV → St → Prop) : Prop :=
 optK (evParts (evO SynG (fun t => (asc t [(Prod.mk 9 v314)]))) [(Prod.mk 0 (Operand.tmp 9))]) fun y315 =>
 optK (fillA (fun i => (Option.some (Prod.mk (i * (TypeInfo.size (GetElem.getElem (Tables.types (Program.toTables SynP)) 48 (Nat.le_of_ble_eq_true rfl)))) (TypeInfo.size (GetElem.getElem (Tables.types (Program.toTables SynP)) 48 (Nat.le_of_ble_eq_true rfl)))))) [(SV.str []), (SV.int IntKind.i64 (0 : Int)), (SV.str []), (SV.int IntKind.u64 (0 : Int)), (SV.bool Bool.false)] y315) fun y316 =>
 let d317 : (Sum Nat Nat) := (Sum.inl 1);
 let S318 : St := (St.add S313 (AO.cells y316 Op2.sh));
 J 6 [(AV.one (V1.s (SV.ptr p0))), (AV.one (V1.s (SV.fn f1))), (AV.one (V1.s (SV.sl (LV.mk (Bk.new (St.next S313)) 0 1 d317))))] S318 K
noncomputable def F33_q5 (D J : Disp) (p0 : PV) (f1 : FV) (S301 : St) (K : AV → St → Prop) : Prop :=
 FV.cs f1 fun y305 y306 y307 =>
 fnF y305 fun y308 =>
 optK (GetElem?.getElem? (Program.funcs SynP) y308) fun y309 =>
 ifK (zeroable SynP (Array.toList (Func.resultTypes y309)))
 (D y308 ((List.map ptrAV y306) ++ ([] ++ (List.map ptrAV y307))) S301 fun v312 S313 =>
 shapeK SynP (Array.toList (Func.resultTypes y309)) v312 fun v314 =>
 F33_q4 D J p0 f1 S313 v314 K)
 (D y308 ((List.map ptrAV y306) ++ ([] ++ (List.map ptrAV y307))) S301 fun v310 S311 =>
 False)
noncomputable def F33_0 (D J : Disp) (p0 : PV) (f1 : FV) (S : St) (K : AV → St → Prop) : Prop :=
 D 32 [(AV.one (V1.s (SV.ptr p0))), (AV.one (V1.s (SV.str [41])))] S fun v300 S301 =>
 scK v300 fun v303 =>
 SV.cB v303 fun y304 =>
 ifK y304
 (K ((AV.one (V1.s (SV.sl LV.nil)))) S301)
 (F33_q5 D J p0 f1 S301 K)
noncomputable def X33_0 : X := (.op (.op (.br (.op .ret) (.op (.jmp 6 [0, 1, 5])))))
theorem F33_0_eq (D J : Disp) (p0 : PV) (f1 : FV) (S : St) (K : AV → St → Prop) : F33_0 D J p0 f1 S K = execK SynP SynG Go.Proofs.Tryz.f33 (typed SynP D) J plans33 X33_0 (T33 0).1 (envOf (T33 0).2 [(AV.one (V1.s (SV.ptr p0))), (AV.one (V1.s (SV.fn f1)))]) S K := by kernel_rfl
noncomputable def F33_q6 (D J : Disp) (p0 : PV) (f1 : FV) (l5 : LV) (S313 : St) (v314 : AV) (K : AV → St → Prop) : Prop :=
 optK (evParts (evO SynG (fun t => (asc t [(Prod.mk 15 v314)]))) [(Prod.mk 0 (Operand.tmp 15))]) fun y315 =>
 optK (fillA (fun i => (Option.some (Prod.mk (i * (TypeInfo.size (GetElem.getElem (Tables.types (Program.toTables SynP)) 48 (Nat.le_of_ble_eq_true rfl)))) (TypeInfo.size (GetElem.getElem (Tables.types (Program.toTables SynP)) 48 (Nat.le_of_ble_eq_true rfl)))))) [(SV.str []), (SV.int IntKind.i64 (0 : Int)), (SV.str []), (SV.int IntKind.u64 (0 : Int)), (SV.bool Bool.false)] y315) fun y316 =>
 let d317 : (Sum Nat Nat) := (Sum.inl 1);
 let S318 : St := (St.add S313 (AO.cells y316 Op2.sh));
 St.src S318 5 (LV.mk (Bk.new (St.next S313)) 0 1 d317) fun y319 n320 =>
 St.app S318 48 5 56 l5 y319 n320 fun y321 S322 =>
 J 6 [(AV.one (V1.s (SV.ptr p0))), (AV.one (V1.s (SV.fn f1))), (AV.one (V1.s (SV.sl y321)))] S322 K
noncomputable def F33_q7 (D J : Disp) (p0 : PV) (f1 : FV) (l5 : LV) (S301 : St) (K : AV → St → Prop) : Prop :=
 FV.cs f1 fun y305 y306 y307 =>
 fnF y305 fun y308 =>
 optK (GetElem?.getElem? (Program.funcs SynP) y308) fun y309 =>
 ifK (zeroable SynP (Array.toList (Func.resultTypes y309)))
 (D y308 ((List.map ptrAV y306) ++ ([] ++ (List.map ptrAV y307))) S301 fun v312 S313 =>
 shapeK SynP (Array.toList (Func.resultTypes y309)) v312 fun v314 =>
 F33_q6 D J p0 f1 l5 S313 v314 K)
 (D y308 ((List.map ptrAV y306) ++ ([] ++ (List.map ptrAV y307))) S301 fun v310 S311 =>
 False)
noncomputable def F33_6 (D J : Disp) (p0 : PV) (f1 : FV) (l5 : LV) (S : St) (K : AV → St → Prop) : Prop :=
 D 32 [(AV.one (V1.s (SV.ptr p0))), (AV.one (V1.s (SV.str [44])))] S fun v300 S301 =>
 scK v300 fun v303 =>
 SV.cB v303 fun y304 =>
 ifK y304
 (F33_q7 D J p0 f1 l5 S301 K)
 (D 29 [(AV.one (V1.s (SV.ptr p0))), (AV.one (V1.s (SV.str [41])))] S301 fun v331 S332 =>
 avT v331 fun y334 =>
 endL y334 (K ((AV.one (V1.s (SV.sl l5)))) S332))
noncomputable def X33_6 : X := (.op (.br (.op (.jmp 6 [0, 1, 5])) (.op (.op .ret))))
theorem F33_6_eq (D J : Disp) (p0 : PV) (f1 : FV) (l5 : LV) (S : St) (K : AV → St → Prop) : F33_6 D J p0 f1 l5 S K = execK SynP SynG Go.Proofs.Tryz.f33 (typed SynP D) J plans33 X33_6 (T33 6).1 (envOf (T33 6).2 [(AV.one (V1.s (SV.ptr p0))), (AV.one (V1.s (SV.fn f1))), (AV.one (V1.s (SV.sl l5)))]) S K := by kernel_rfl
noncomputable abbrev A33_0 (D J : Disp) (vals : List AV) (S : St) (K : AV → St → Prop) : Prop :=
  uncA vals fun a9001 r9002 => scK a9001 fun s9004 => SV.cP s9004 fun p0 => uncA r9002 fun a9007 r9008 => scK a9007 fun s9010 => SV.cF s9010 fun f1 => endL r9008 <| F33_0 D J p0 f1 S K
theorem A33_0_ok {D J : Disp} (hD : DOK SynP SynG D) (hJ : JOK SynP SynG Go.Proofs.Tryz.f33 T33 J) {vals : List AV} {S : St} {K : AV → St → Prop} (h0 : A33_0 D J vals S K) : Runs SynP SynG Go.Proofs.Tryz.f33 (T33 0).1 (envOf (T33 0).2 vals) S K := by
  obtain ⟨a9001, r9002, rfl, h3⟩ := uncA_some h0
  obtain ⟨s9004, rfl, h5⟩ := scK_some h3
  obtain ⟨p0, rfl, h6⟩ := cP_some h5
  obtain ⟨a9007, r9008, rfl, h9⟩ := uncA_some h6
  obtain ⟨s9010, rfl, h11⟩ := scK_some h9
  obtain ⟨f1, rfl, h12⟩ := cF_some h11
  obtain ⟨rfl, h13⟩ := endL_some h12
  rw [F33_0_eq] at h13
  exact execK_runs hD.typed Syn_zero Syn_mixed hJ X33_0 (T33 0).1 (envOf (T33 0).2 _) S K (chk_of (by kernel_rfl) (by kernel_rfl)) h13
noncomputable abbrev A33_6 (D J : Disp) (vals : List AV) (S : St) (K : AV → St → Prop) : Prop :=
  uncA vals fun a9001 r9002 => scK a9001 fun s9004 => SV.cP s9004 fun p0 => uncA r9002 fun a9007 r9008 => scK a9007 fun s9010 => SV.cF s9010 fun f1 => uncA r9008 fun a9013 r9014 => scK a9013 fun s9016 => SV.cL s9016 fun l5 => endL r9014 <| F33_6 D J p0 f1 l5 S K
theorem A33_6_ok {D J : Disp} (hD : DOK SynP SynG D) (hJ : JOK SynP SynG Go.Proofs.Tryz.f33 T33 J) {vals : List AV} {S : St} {K : AV → St → Prop} (h0 : A33_6 D J vals S K) : Runs SynP SynG Go.Proofs.Tryz.f33 (T33 6).1 (envOf (T33 6).2 vals) S K := by
  obtain ⟨a9001, r9002, rfl, h3⟩ := uncA_some h0
  obtain ⟨s9004, rfl, h5⟩ := scK_some h3
  obtain ⟨p0, rfl, h6⟩ := cP_some h5
  obtain ⟨a9007, r9008, rfl, h9⟩ := uncA_some h6
  obtain ⟨s9010, rfl, h11⟩ := scK_some h9
  obtain ⟨f1, rfl, h12⟩ := cF_some h11
  obtain ⟨a9013, r9014, rfl, h15⟩ := uncA_some h12
  obtain ⟨s9016, rfl, h17⟩ := scK_some h15
  obtain ⟨l5, rfl, h18⟩ := cL_some h17
  obtain ⟨rfl, h19⟩ := endL_some h18
  rw [F33_6_eq] at h19
  exact execK_runs hD.typed Syn_zero Syn_mixed hJ X33_6 (T33 6).1 (envOf (T33 6).2 _) S K (chk_of (by kernel_rfl) (by kernel_rfl)) h19
noncomputable def J33 (D : Disp) (k : Nat) : Disp := Nat.rec (motive := fun _ => Disp) Disp.no (fun _ ih => Disp.add 0 (A33_0 D ih) <| Disp.add 6 (A33_6 D ih) <| Disp.no) k
theorem J33_ok {D : Disp} (hD : DOK SynP SynG D) : ∀ k, JOK SynP SynG Go.Proofs.Tryz.f33 T33 (J33 D k)
  | 0 => JOK.no
  | k + 1 => JOK.add (ltB_ok (by kernel_rfl)) (fun vals S K h => A33_0_ok hD (J33_ok hD k) h) <| JOK.add (ltB_ok (by kernel_rfl)) (fun vals S K h => A33_6_ok hD (J33_ok hD k) h) <| JOK.no
theorem E33_ok {D : Disp} (hD : DOK SynP SynG D) (k : Nat) {args : List AV} {S : St} {K : AV → St → Prop} (h : A33_0 D (J33 D k) args S K) : CallE SynP SynG 33 args S K := by
  have hr := A33_0_ok hD (J33_ok hD k) h
  have hl : args.length = 2 := by
    have h0 := h
    obtain ⟨a9001, r9002, rfl, h3⟩ := uncA_some h0
    obtain ⟨s9004, rfl, h5⟩ := scK_some h3
    obtain ⟨p0, rfl, h6⟩ := cP_some h5
    obtain ⟨a9007, r9008, rfl, h9⟩ := uncA_some h6
    obtain ⟨s9010, rfl, h11⟩ := scK_some h9
    obtain ⟨f1, rfl, h12⟩ := cF_some h11
    obtain ⟨rfl, h13⟩ := endL_some h12
    rfl
  refine callOK_of (fn := Go.Proofs.Tryz.f33) (c := (match Go.Proofs.Tryz.f33.body with | some c => c | none => .skip)) (by kernel_rfl) (by kernel_rfl) (by kernel_rfl) (by rw [hl]; kernel_rfl) (by kernel_rfl) ?_
  rw [hl]
  exact hr
noncomputable def plans34 (i : Nat) : Plan := []
noncomputable def T34 (p : Nat) : List Item × List Nat := bif Nat.beq p 0 then ([.code (match Go.Proofs.Tryz.f34.body with | some c => c | none => .skip)], [0]) else
  ([], [])
noncomputable def F34_q0 (D J : Disp) (S : St) (S330 : St) (K : AV → St → Prop) : Prop :=
 St.at S330 (Bk.new (St.next S)) 0 fun y331 =>
 uncK y331 fun v332 y333 =>
 SV.cS v332 fun y338 =>
 uncK y333 fun v339 y340 =>
 SV.cI IntKind.i64 v339 fun x344 =>
 uncK y340 fun v345 y346 =>
 SV.cS v345 fun y351 =>
 uncK y346 fun v352 y353 =>
 SV.cI IntKind.u64 v352 fun x357 =>
 uncK y353 fun v358 y359 =>
 SV.cB v358 fun y361 =>
 K ((AV.one (V1.agg [(SV.str y338), (SV.int IntKind.i64 x344), (SV.str y351), (SV.int IntKind.u64 x357), (SV.bool y361)]))) S330
noncomputable def F34_q1 (D J : Disp) (S : St) (S300 : St) (y311 : PV) (K : AV → St → Prop) : Prop :=
 D 35 [(AV.one (V1.s (SV.ptr y311)))] S300 fun v312 S313 =>
 avA v312 fun y316 =>
 req (Nat.beq (List.length y316) 2) <|
 uncK y316 fun v317 y318 =>
 SV.cS v317 fun y323 =>
 uncK y318 fun v324 y325 =>
 SV.cI IntKind.i64 v324 fun x329 =>
 St.wr S313 (Bk.new (St.next S)) 0 [(SV.str y323), (SV.int IntKind.i64 x329), (SV.str []), (SV.int IntKind.u64 (0 : Int)), (SV.bool Bool.false)] fun S330 =>
 F34_q0 D J S S330 K
noncomputable def F34_0 (D J : Disp) (p0 : PV) (S : St) (K : AV → St → Prop) : Prop :=
 let S300 : St := (St.add S (AO.cells [(SV.str []), (SV.int IntKind.i64 (0 : Int)), (SV.str []), (SV.int IntKind.u64 (0 : Int)), (SV.bool Bool.false)] (Op2.ty 48)));
 PV.cs p0 fun b301 n302 =>
 St.at S300 b301 n302 fun y303 =>
 uncK y303 fun v304 y305 =>
 SV.cP v304 fun y311 =>
 F34_q1 D J S S300 y311 K
noncomputable def X34_0 : X := (.op (.op .ret))
theorem F34_0_eq (D J : Disp) (p0 : PV) (S : St) (K : AV → St → Prop) : F34_0 D J p0 S K = execK SynP SynG Go.Proofs.Tryz.f34 (typed SynP D) J plans34 X34_0 (T34 0).1 (envOf (T34 0).2 [(AV.one (V1.s (SV.ptr p0)))]) S K := by kernel_rfl
noncomputable abbrev A34_0 (D J : Disp) (vals : List AV) (S : St) (K : AV → St → Prop) : Prop :=
  uncA vals fun a9001 r9002 => scK a9001 fun s9004 => SV.cP s9004 fun p0 => endL r9002 <| F34_0 D J p0 S K
theorem A34_0_ok {D J : Disp} (hD : DOK SynP SynG D) (hJ : JOK SynP SynG Go.Proofs.Tryz.f34 T34 J) {vals : List AV} {S : St} {K : AV → St → Prop} (h0 : A34_0 D J vals S K) : Runs SynP SynG Go.Proofs.Tryz.f34 (T34 0).1 (envOf (T34 0).2 vals) S K := by
  obtain ⟨a9001, r9002, rfl, h3⟩ := uncA_some h0
  obtain ⟨s9004, rfl, h5⟩ := scK_some h3
  obtain ⟨p0, rfl, h6⟩ := cP_some h5
  obtain ⟨rfl, h7⟩ := endL_some h6
  rw [F34_0_eq] at h7
  exact execK_runs hD.typed Syn_zero Syn_mixed hJ X34_0 (T34 0).1 (envOf (T34 0).2 _) S K (chk_of (by kernel_rfl) (by kernel_rfl)) h7
noncomputable def J34 (D : Disp) (k : Nat) : Disp := Nat.rec (motive := fun _ => Disp) Disp.no (fun _ ih => Disp.add 0 (A34_0 D ih) <| Disp.no) k
theorem J34_ok {D : Disp} (hD : DOK SynP SynG D) : ∀ k, JOK SynP SynG Go.Proofs.Tryz.f34 T34 (J34 D k)
  | 0 => JOK.no
  | k + 1 => JOK.add (ltB_ok (by kernel_rfl)) (fun vals S K h => A34_0_ok hD (J34_ok hD k) h) <| JOK.no
theorem E34_ok {D : Disp} (hD : DOK SynP SynG D) (k : Nat) {args : List AV} {S : St} {K : AV → St → Prop} (h : A34_0 D (J34 D k) args S K) : CallE SynP SynG 34 args S K := by
  have hr := A34_0_ok hD (J34_ok hD k) h
  have hl : args.length = 1 := by
    have h0 := h
    obtain ⟨a9001, r9002, rfl, h3⟩ := uncA_some h0
    obtain ⟨s9004, rfl, h5⟩ := scK_some h3
    obtain ⟨p0, rfl, h6⟩ := cP_some h5
    obtain ⟨rfl, h7⟩ := endL_some h6
    rfl
  refine callOK_of (fn := Go.Proofs.Tryz.f34) (c := (match Go.Proofs.Tryz.f34.body with | some c => c | none => .skip)) (by kernel_rfl) (by kernel_rfl) (by kernel_rfl) (by rw [hl]; kernel_rfl) (by kernel_rfl) ?_
  rw [hl]
  exact hr
noncomputable def plans35 (i : Nat) : Plan := if Nat.beq i 10 then [(0, []), (1, [0]), (2, []), (3, [2]), (4, [1, 3, 0, 2]), (5, [0, 1, 2, 3, 4]), (6, [5, 4, 3, 0, 1, 2])] else []
noncomputable def T35 (p : Nat) : List Item × List Nat := bif Nat.beq p 0 then ([.code (match Go.Proofs.Tryz.f35.body with | some c => c | none => .skip)], [0]) else
  bif Nat.beq p 3 then (navs [.op, .op, .op] [.code (match Go.Proofs.Tryz.f35.body with | some c => c | none => .skip)], [0, 2, 3, 17]) else
  bif Nat.beq p 12 then (navs [.op, .op, .op, .el, .op, .op, .op, .th, .op] [.code (match Go.Proofs.Tryz.f35.body with | some c => c | none => .skip)], [0, 2, 3, 4]) else
  bif Nat.beq p 15 then (navs [.op, .op, .op, .el, .op, .op, .op, .th, .op, .op, .th, .op] [.code (match Go.Proofs.Tryz.f35.body with | some c => c | none => .skip)], [0, 2, 4]) else
  bif Nat.beq p 23 then (navs [.op, .op, .op, .el, .op, .op, .op, .th, .op, .op, .el, .op, .th, .op] [.code (match Go.Proofs.Tryz.f35.body with | some c => c | none => .skip)], [0, 2, 4, 52, 53, 54]) else
  ([], [])
noncomputable def F35_q18 (D J : Disp) (S : St) (p0 : PV) (S302 : St) (S345 : St) (x356 : Int) (x362 : Int) (y369 : (List Nat)) (y376 : (List Nat)) (x382 : Int) (y386 : Bool) (K : AV → St → Prop) : Prop :=
 D 60 [(AV.one (V1.s (SV.ptr p0))), (AV.one (V1.agg [(SV.int IntKind.i64 x356), (SV.int IntKind.i64 x362), (SV.str y369), (SV.str y376), (SV.int IntKind.u64 x382), (SV.bool y386)]))] S345 fun v387 S388 =>
 scK v387 fun v390 =>
 SV.cB v390 fun y391 =>
 let c392 : Bool := (Bool.not y391);
 J 3 [(AV.one (V1.s (SV.ptr p0))), (AV.one (V1.s (SV.ptr (PV.mk (Bk.new (St.next S)) 0)))), (AV.one (V1.s (SV.ptr (PV.mk (Bk.new (St.next S302)) 0)))), (AV.one (V1.s (SV.bool c392)))] S388 K
noncomputable def F35_q19 (D J : Disp) (S : St) (p0 : PV) (S302 : St) (S345 : St) (K : AV → St → Prop) : Prop :=
 St.at S345 (Bk.new (St.next S302)) 0 fun y350 =>
 uncK y350 fun v351 y352 =>
 SV.cI IntKind.i64 v351 fun x356 =>
 uncK y352 fun v357 y358 =>
 SV.cI IntKind.i64 v357 fun x362 =>
 uncK y358 fun v363 y364 =>
 SV.cS v363 fun y369 =>
 uncK y364 fun v370 y371 =>
 SV.cS v370 fun y376 =>
 uncK y371 fun v377 y378 =>
 SV.cI IntKind.u64 v377 fun x382 =>
 uncK y378 fun v383 y384 =>
 SV.cB v383 fun y386 =>
 F35_q18 D J S p0 S302 S345 x356 x362 y369 y376 x382 y386 K
noncomputable def F35_q20 (D J : Disp) (S : St) (p0 : PV) (S302 : St) (x311 : Int) (x317 : Int) (y324 : (List Nat)) (y331 : (List Nat)) (x337 : Int) (y341 : Bool) (S342 : St) (K : AV → St → Prop) : Prop :=
 St.wr S342 (Bk.new (St.next S302)) 0 [(SV.int IntKind.i64 x311), (SV.int IntKind.i64 x317), (SV.str y324), (SV.str y331), (SV.int IntKind.u64 x337), (SV.bool y341)] fun S343 =>
 D 18 [(AV.one (V1.s (SV.ptr p0)))] S343 fun v344 S345 =>
 scK v344 fun v347 =>
 SV.cB v347 fun y348 =>
 let c349 : Bool := (Bool.not y348);
 ifK c349
 (J 3 [(AV.one (V1.s (SV.ptr p0))), (AV.one (V1.s (SV.ptr (PV.mk (Bk.new (St.next S)) 0)))), (AV.one (V1.s (SV.ptr (PV.mk (Bk.new (St.next S302)) 0)))), (AV.one (V1.s (SV.bool Bool.true)))] S345 K)
 (F35_q19 D J S p0 S302 S345 K)
noncomputable def F35_q21 (D J : Disp) (S : St) (p0 : PV) (S300 : St) (K : AV → St → Prop) : Prop :=
 D 26 [(AV.one (V1.s (SV.ptr p0)))] S300 fun v301 S302 =>
 avA v301 fun y305 =>
 req (Nat.beq (List.length y305) 6) <|
 uncK y305 fun v306 y307 =>
 SV.cI IntKind.i64 v306 fun x311 =>
 uncK y307 fun v312 y313 =>
 SV.cI IntKind.i64 v312 fun x317 =>
 uncK y313 fun v318 y319 =>
 SV.cS v318 fun y324 =>
 uncK y319 fun v325 y326 =>
 SV.cS v325 fun y331 =>
 uncK y326 fun v332 y333 =>
 SV.cI IntKind.u64 v332 fun x337 =>
 uncK y333 fun v338 y339 =>
 SV.cB v338 fun y341 =>
 let S342 : St := (St.add S302 (AO.cells [(SV.int IntKind.i64 (0 : Int)), (SV.int IntKind.i64 (0 : Int)), (SV.str []), (SV.str []), (SV.int IntKind.u64 (0 : Int)), (SV.bool Bool.false)] (Op2.ty 76)));
 F35_q20 D J S p0 S302 x311 x317 y324 y331 x337 y341 S342 K
noncomputable def F35_0 (D J : Disp) (p0 : PV) (S : St) (K : AV → St → Prop) : Prop :=
 let S300 : St := (St.add S (AO.cells [(SV.str []), (SV.int IntKind.i64 (0 : Int))] (Op2.ty 45)));
 F35_q21 D J S p0 S300 K
noncomputable def X35_0 : X := (.op (.op (.op (.jmp 3 [0, 2, 3, 17]))))
theorem F35_0_eq (D J : Disp) (p0 : PV) (S : St) (K : AV → St → Prop) : F35_0 D J p0 S K = execK SynP SynG Go.Proofs.Tryz.f35 (typed SynP D) J plans35 X35_0 (T35 0).1 (envOf (T35 0).2 [(AV.one (V1.s (SV.ptr p0)))]) S K := by kernel_rfl
noncomputable def F35_q22 (D J : Disp) (S : St) (p0 : PV) (p2 : PV) (K : AV → St → Prop) : Prop :=
 D 59 [(AV.one (V1.s (SV.ptr p0))), (AV.one (V1.s (SV.int IntKind.i64 (4 : Int))))] S fun v300 S301 =>
 avT v300 fun y303 =>
 endL y303 (PV.cs p2 fun b304 n305 =>
 St.wr S301 b304 n305 [(SV.str []), (SV.int IntKind.i64 (0 : Int))] fun S306 =>
 PV.cs p2 fun b307 n308 =>
 St.at S306 b307 n308 fun y309 =>
 uncK y309 fun v310 y311 =>
 SV.cS v310 fun y316 =>
 uncK y311 fun v317 y318 =>
 SV.cI IntKind.i64 v317 fun x322 =>
 K ((AV.one (V1.agg [(SV.str y316), (SV.int IntKind.i64 x322)]))) S306)
noncomputable def F35_q23 (D J : Disp) (p0 : PV) (p2 : PV) (p3 : PV) (S349 : St) (S363 : St) (y385 : MV) (b386 : Bk) (n388 : Nat) (K : AV → St → Prop) : Prop :=
 St.at S363 b386 n388 fun y389 =>
 uncK y389 fun v390 y391 =>
 SV.cS v390 fun y396 =>
 St.lookup SynP S363 9 (V1.s (SV.str [])) y385 (V1.s (SV.str y396)) fun v397 y398 =>
 v1S v397 fun v399 =>
 SV.cS v399 fun y403 =>
 St.wr S363 (Bk.new (St.next S349)) 0 [(SV.str y403)] fun S404 =>
 J 12 [(AV.one (V1.s (SV.ptr p0))), (AV.one (V1.s (SV.ptr p2))), (AV.one (V1.s (SV.ptr p3))), (AV.one (V1.s (SV.ptr (PV.mk (Bk.new (St.next S349)) 0))))] S404 K
noncomputable def F35_q24 (D J : Disp) (p0 : PV) (p2 : PV) (p3 : PV) (S349 : St) (S363 : St) (b364 : Bk) (n366 : Nat) (K : AV → St → Prop) : Prop :=
 St.at S363 b364 n366 fun y367 =>
 uncK y367 fun v368 y369 =>
 SV.cI IntKind.i64 v368 fun x373 =>
 let c374 : Bool := (ieq x373 (2 : Int));
 ifK c374
 (St.at S363 (Bk.inp 1) 0 fun y375 =>
 uncK y375 fun v376 y377 =>
 SV.cM v376 fun y385 =>
 PV.cs p3 fun b386 n387 =>
 let n388 : Nat := (n387 + 2);
 F35_q23 D J p0 p2 p3 S349 S363 y385 b386 n388 K)
 (J 12 [(AV.one (V1.s (SV.ptr p0))), (AV.one (V1.s (SV.ptr p2))), (AV.one (V1.s (SV.ptr p3))), (AV.one (V1.s (SV.ptr (PV.mk (Bk.new (St.next S349)) 0))))] S363 K)
noncomputable def F35_q25 (D J : Disp) (p0 : PV) (p2 : PV) (p3 : PV) (S349 : St) (b350 : Bk) (n352 : Nat) (K : AV → St → Prop) : Prop :=
 St.at S349 b350 n352 fun y353 =>
 uncK y353 fun v354 y355 =>
 SV.cS v354 fun y360 =>
 req (Nat.blt (2 + (List.length y360)) 9223372036854775808) <|
 let s361 : (List Nat) := ([84, 46] ++ y360);
 let S362 : St := (St.add S349 (AO.cells [(SV.str []), (SV.int IntKind.i64 (0 : Int))] (Op2.ty 45)));
 St.wr S362 (Bk.new (St.next S349)) 0 [(SV.str s361), (SV.int IntKind.i64 (0 : Int))] fun S363 =>
 PV.cs p3 fun b364 n365 =>
 let n366 : Nat := (n365 + 0);
 F35_q24 D J p0 p2 p3 S349 S363 b364 n366 K
noncomputable def F35_3 (D J : Disp) (p0 : PV) (p2 : PV) (p3 : PV) (c17 : Bool) (S : St) (K : AV → St → Prop) : Prop :=
 ifK c17
 (F35_q22 D J S p0 p2 K)
 (PV.cs p0 fun b335 n336 =>
 let n337 : Nat := (n336 + 1);
 St.at S b335 n337 fun y338 =>
 uncK y338 fun v339 y340 =>
 SV.cI IntKind.i64 v339 fun x344 =>
 let x345 : Int := (iwrap IntKind.i64 (x344 + (1 : Int)));
 PV.cs p0 fun b346 n347 =>
 let n348 : Nat := (n347 + 1);
 St.wr S b346 n348 [(SV.int IntKind.i64 x345)] fun S349 =>
 PV.cs p3 fun b350 n351 =>
 let n352 : Nat := (n351 + 2);
 F35_q25 D J p0 p2 p3 S349 b350 n352 K)
noncomputable def X35_3 : X := (.br (.op (.op .ret)) (.op (.op (.op (.br (.op (.jmp 12 [0, 2, 3, 4])) (.jmp 12 [0, 2, 3, 4]))))))
theorem F35_3_eq (D J : Disp) (p0 : PV) (p2 : PV) (p3 : PV) (c17 : Bool) (S : St) (K : AV → St → Prop) : F35_3 D J p0 p2 p3 c17 S K = execK SynP SynG Go.Proofs.Tryz.f35 (typed SynP D) J plans35 X35_3 (T35 3).1 (envOf (T35 3).2 [(AV.one (V1.s (SV.ptr p0))), (AV.one (V1.s (SV.ptr p2))), (AV.one (V1.s (SV.ptr p3))), (AV.one (V1.s (SV.bool c17)))]) S K := by kernel_rfl
noncomputable def F35_q26 (D J : Disp) (p0 : PV) (p2 : PV) (p4 : PV) (S340 : St) (b344 : Bk) (n346 : Nat) (y354 : (List Nat)) (K : AV → St → Prop) : Prop :=
 D 30 [(AV.one (V1.s (SV.ptr p0)))] S340 fun v355 S356 =>
 scK v355 fun v358 =>
 SV.cS v358 fun y362 =>
 St.at S356 b344 n346 fun y363 =>
 uncK y363 fun v364 y365 =>
 SV.cS v364 fun y370 =>
 req (sameAV (AV.one (V1.s (SV.str y370))) (AV.one (V1.s (SV.str y354)))) <|
 req (Nat.blt ((List.length y354) + (List.length y362)) 9223372036854775808) <|
 let s371 : (List Nat) := (y354 ++ y362);
 PV.cs p4 fun b372 n373 =>
 let n374 : Nat := (n373 + 0);
 St.wr S356 b372 n374 [(SV.str s371)] fun S375 =>
 J 15 [(AV.one (V1.s (SV.ptr p0))), (AV.one (V1.s (SV.ptr p2))), (AV.one (V1.s (SV.ptr p4)))] S375 K
noncomputable def F35_q27 (D J : Disp) (p0 : PV) (p2 : PV) (p4 : PV) (S430 : St) (K : AV → St → Prop) : Prop :=
 let d434 : (Sum Nat Nat) := (Sum.inl 4);
 let S435 : St := (St.add S430 (AO.cells [(SV.str [99, 104, 97, 114]), (SV.str [115, 104, 111, 114, 116]), (SV.str [105, 110, 116]), (SV.str [108, 111, 110, 103])] Op2.sh));
 let x436 : Int := (Int.ofNat (LV.len (LV.mk (Bk.new (St.next S430)) 0 4 d434)));
 J 23 [(AV.one (V1.s (SV.ptr p0))), (AV.one (V1.s (SV.ptr p2))), (AV.one (V1.s (SV.ptr p4))), (AV.one (V1.s (SV.sl (LV.mk (Bk.new (St.next S430)) 0 4 d434)))), (AV.one (V1.s (SV.int IntKind.i64 x436))), (AV.one (V1.s (SV.int IntKind.i64 (0 : Int))))] S435 K
noncomputable def F35_q28 (D J : Disp) (p0 : PV) (p2 : PV) (p4 : PV) (S340 : St) (x398 : Int) (x404 : Int) (y411 : (List Nat)) (y418 : (List Nat)) (x424 : Int) (y428 : Bool) (K : AV → St → Prop) : Prop :=
 D 27 [(AV.one (V1.agg [(SV.int IntKind.i64 x398), (SV.int IntKind.i64 x404), (SV.str y411), (SV.str y418), (SV.int IntKind.u64 x424), (SV.bool y428)])), (AV.one (V1.s (SV.str [117, 110, 115, 105, 103, 110, 101, 100])))] S340 fun v429 S430 =>
 scK v429 fun v432 =>
 SV.cB v432 fun y433 =>
 ifK y433
 (F35_q27 D J p0 p2 p4 S430 K)
 (J 15 [(AV.one (V1.s (SV.ptr p0))), (AV.one (V1.s (SV.ptr p2))), (AV.one (V1.s (SV.ptr p4)))] S430 K)
noncomputable def F35_q29 (D J : Disp) (p0 : PV) (p2 : PV) (p3 : PV) (p4 : PV) (S340 : St) (K : AV → St → Prop) : Prop :=
 PV.cs p3 fun b390 n391 =>
 St.at S340 b390 n391 fun y392 =>
 uncK y392 fun v393 y394 =>
 SV.cI IntKind.i64 v393 fun x398 =>
 uncK y394 fun v399 y400 =>
 SV.cI IntKind.i64 v399 fun x404 =>
 uncK y400 fun v405 y406 =>
 SV.cS v405 fun y411 =>
 uncK y406 fun v412 y413 =>
 SV.cS v412 fun y418 =>
 uncK y413 fun v419 y420 =>
 SV.cI IntKind.u64 v419 fun x424 =>
 uncK y420 fun v425 y426 =>
 SV.cB v425 fun y428 =>
 F35_q28 D J p0 p2 p4 S340 x398 x404 y411 y418 x424 y428 K
noncomputable def F35_q30 (D J : Disp) (S : St) (p0 : PV) (p2 : PV) (p3 : PV) (p4 : PV) (x308 : Int) (x314 : Int) (y321 : (List Nat)) (y328 : (List Nat)) (x334 : Int) (y338 : Bool) (K : AV → St → Prop) : Prop :=
 D 27 [(AV.one (V1.agg [(SV.int IntKind.i64 x308), (SV.int IntKind.i64 x314), (SV.str y321), (SV.str y328), (SV.int IntKind.u64 x334), (SV.bool y338)])), (AV.one (V1.s (SV.str [115, 116, 114, 117, 99, 116])))] S fun v339 S340 =>
 scK v339 fun v342 =>
 SV.cB v342 fun y343 =>
 ifK y343
 (PV.cs p4 fun b344 n345 =>
 let n346 : Nat := (n345 + 0);
 St.at S340 b344 n346 fun y347 =>
 uncK y347 fun v348 y349 =>
 SV.cS v348 fun y354 =>
 F35_q26 D J p0 p2 p4 S340 b344 n346 y354 K)
 (F35_q29 D J p0 p2 p3 p4 S340 K)
noncomputable def F35_12 (D J : Disp) (p0 : PV) (p2 : PV) (p3 : PV) (p4 : PV) (S : St) (K : AV → St → Prop) : Prop :=
 PV.cs p3 fun b300 n301 =>
 St.at S b300 n301 fun y302 =>
 uncK y302 fun v303 y304 =>
 SV.cI IntKind.i64 v303 fun x308 =>
 uncK y304 fun v309 y310 =>
 SV.cI IntKind.i64 v309 fun x314 =>
 uncK y310 fun v315 y316 =>
 SV.cS v315 fun y321 =>
 uncK y316 fun v322 y323 =>
 SV.cS v322 fun y328 =>
 uncK y323 fun v329 y330 =>
 SV.cI IntKind.u64 v329 fun x334 =>
 uncK y330 fun v335 y336 =>
 SV.cB v335 fun y338 =>
 F35_q30 D J S p0 p2 p3 p4 x308 x314 y321 y328 x334 y338 K
noncomputable def X35_12 : X := (.op (.br (.op (.jmp 15 [0, 2, 4])) (.op (.br (.op (.jmp 23 [0, 2, 4, 52, 53, 54])) (.jmp 15 [0, 2, 4])))))
theorem F35_12_eq (D J : Disp) (p0 : PV) (p2 : PV) (p3 : PV) (p4 : PV) (S : St) (K : AV → St → Prop) : F35_12 D J p0 p2 p3 p4 S K = execK SynP SynG Go.Proofs.Tryz.f35 (typed SynP D) J plans35 X35_12 (T35 12).1 (envOf (T35 12).2 [(AV.one (V1.s (SV.ptr p0))), (AV.one (V1.s (SV.ptr p2))), (AV.one (V1.s (SV.ptr p3))), (AV.one (V1.s (SV.ptr p4)))]) S K := by kernel_rfl
noncomputable def F35_q31 (D J : Disp) (p0 : PV) (p2 : PV) (p4 : PV) (S301 : St) (K : AV → St → Prop) : Prop :=
 PV.cs p4 fun b305 n306 =>
 let n307 : Nat := (n306 + 1);
 St.at S301 b305 n307 fun y308 =>
 uncK y308 fun v309 y310 =>
 SV.cI IntKind.i64 v309 fun x314 =>
 let x315 : Int := (iwrap IntKind.i64 (x314 + (1 : Int)));
 PV.cs p4 fun b316 n317 =>
 let n318 : Nat := (n317 + 1);
 St.wr S301 b316 n318 [(SV.int IntKind.i64 x315)] fun S319 =>
 J 15 [(AV.one (V1.s (SV.ptr p0))), (AV.one (V1.s (SV.ptr p2))), (AV.one (V1.s (SV.ptr p4)))] S319 K
noncomputable def F35_q32 (D J : Disp) (p2 : PV) (p4 : PV) (S301 : St) (K : AV → St → Prop) : Prop :=
 PV.cs p4 fun b325 n326 =>
 St.at S301 b325 n326 fun y327 =>
 uncK y327 fun v328 y329 =>
 SV.cS v328 fun y334 =>
 uncK y329 fun v335 y336 =>
 SV.cI IntKind.i64 v335 fun x340 =>
 PV.cs p2 fun b341 n342 =>
 St.wr S301 b341 n342 [(SV.str y334), (SV.int IntKind.i64 x340)] fun S343 =>
 PV.cs p2 fun b344 n345 =>
 St.at S343 b344 n345 fun y346 =>
 uncK y346 fun v347 y348 =>
 SV.cS v347 fun y353 =>
 uncK y348 fun v354 y355 =>
 SV.cI IntKind.i64 v354 fun x359 =>
 K ((AV.one (V1.agg [(SV.str y353), (SV.int IntKind.i64 x359)]))) S343
noncomputable def F35_15 (D J : Disp) (p0 : PV) (p2 : PV) (p4 : PV) (S : St) (K : AV → St → Prop) : Prop :=
 D 32 [(AV.one (V1.s (SV.ptr p0))), (AV.one (V1.s (SV.str [42])))] S fun v300 S301 =>
 scK v300 fun v303 =>
 SV.cB v303 fun y304 =>
 ifK y304
 (F35_q31 D J p0 p2 p4 S301 K)
 (F35_q32 D J p2 p4 S301 K)
noncomputable def X35_15 : X := (.op (.br (.op (.jmp 15 [0, 2, 4])) (.op .ret)))
theorem F35_15_eq (D J : Disp) (p0 : PV) (p2 : PV) (p4 : PV) (S : St) (K : AV → St → Prop) : F35_15 D J p0 p2 p4 S K = execK SynP SynG Go.Proofs.Tryz.f35 (typed SynP D) J plans35 X35_15 (T35 15).1 (envOf (T35 15).2 [(AV.one (V1.s (SV.ptr p0))), (AV.one (V1.s (SV.ptr p2))), (AV.one (V1.s (SV.ptr p4)))]) S K := by kernel_rfl
noncomputable def F35_q33 (D J : Disp) (p0 : PV) (p2 : PV) (p4 : PV) (S315 : St) (y336 : (List Nat)) (K : AV → St → Prop) : Prop :=
 req (Bool.and Bool.true (Bool.and (ile (1 : Int) (oInt Option.none (Int.ofNat (List.length y336)))) (ile (oInt Option.none (Int.ofNat (List.length y336))) (Int.ofNat (List.length y336))))) <|
 let s337 : (List Nat) := (List.take ((Int.toNat (oInt Option.none (Int.ofNat (List.length y336)))) - 1) (List.drop 1 y336));
 req (Nat.blt (1 + (List.length s337)) 9223372036854775808) <|
 let s338 : (List Nat) := ([117] ++ s337);
 PV.cs p4 fun b339 n340 =>
 let n341 : Nat := (n340 + 0);
 St.wr S315 b339 n341 [(SV.str s338)] fun S342 =>
 J 15 [(AV.one (V1.s (SV.ptr p0))), (AV.one (V1.s (SV.ptr p2))), (AV.one (V1.s (SV.ptr p4)))] S342 K
noncomputable def F35_q34 (D J : Disp) (p0 : PV) (p2 : PV) (p4 : PV) (l52 : LV) (x53 : Int) (x54 : Int) (y313 : (List Nat)) (S315 : St) (y318 : Bool) (K : AV → St → Prop) : Prop :=
 ifK y318
 (St.at S315 (Bk.inp 1) 0 fun y319 =>
 uncK y319 fun v320 y321 =>
 SV.cM v320 fun y329 =>
 St.lookup SynP S315 9 (V1.s (SV.str [])) y329 (V1.s (SV.str y313)) fun v330 y331 =>
 v1S v330 fun v332 =>
 SV.cS v332 fun y336 =>
 F35_q33 D J p0 p2 p4 S315 y336 K)
 (let x349 : Int := (iwrap IntKind.i64 (x54 + (1 : Int)));
 J 23 [(AV.one (V1.s (SV.ptr p0))), (AV.one (V1.s (SV.ptr p2))), (AV.one (V1.s (SV.ptr p4))), (AV.one (V1.s (SV.sl l52))), (AV.one (V1.s (SV.int IntKind.i64 x53))), (AV.one (V1.s (SV.int IntKind.i64 x349)))] S315 K)
noncomputable def F35_q35 (D J : Disp) (S : St) (p0 : PV) (p2 : PV) (p4 : PV) (l52 : LV) (x53 : Int) (x54 : Int) (K : AV → St → Prop) : Prop :=
 LV.cs l52 fun b301 n302 n303 y304 =>
 req (Bool.and (ile (0 : Int) x54) (ilt x54 (Int.ofNat n303))) <|
 let n305 : Nat := (n302 + ((Int.toNat x54) * 1));
 St.at S b301 n305 fun y306 =>
 uncK y306 fun v307 y308 =>
 SV.cS v307 fun y313 =>
 D 32 [(AV.one (V1.s (SV.ptr p0))), (AV.one (V1.s (SV.str y313)))] S fun v314 S315 =>
 scK v314 fun v317 =>
 SV.cB v317 fun y318 =>
 F35_q34 D J p0 p2 p4 l52 x53 x54 y313 S315 y318 K
noncomputable def F35_23 (D J : Disp) (p0 : PV) (p2 : PV) (p4 : PV) (l52 : LV) (x53 : Int) (x54 : Int) (S : St) (K : AV → St → Prop) : Prop :=
 let c300 : Bool := (ilt x54 x53);
 ifK c300
 (F35_q35 D J S p0 p2 p4 l52 x53 x54 K)
 (J 15 [(AV.one (V1.s (SV.ptr p0))), (AV.one (V1.s (SV.ptr p2))), (AV.one (V1.s (SV.ptr p4)))] S K)
noncomputable def X35_23 : X := (.op (.br (.op (.op (.br (.op (.jmp 15 [0, 2, 4])) (.op (.jmp 23 [0, 2, 4, 52, 53, 54]))))) (.jmp 15 [0, 2, 4])))
theorem F35_23_eq (D J : Disp) (p0 : PV) (p2 : PV) (p4 : PV) (l52 : LV) (x53 : Int) (x54 : Int) (S : St) (K : AV → St → Prop) : F35_23 D J p0 p2 p4 l52 x53 x54 S K = execK SynP SynG Go.Proofs.Tryz.f35 (typed SynP D) J plans35 X35_23 (T35 23).1 (envOf (T35 23).2 [(AV.one (V1.s (SV.ptr p0))), (AV.one (V1.s (SV.ptr p2))), (AV.one (V1.s (SV.ptr p4))), (AV.one (V1.s (SV.sl l52))), (AV.one (V1.s (SV.int IntKind.i64 x53))), (AV.one (V1.s (SV.int IntKind.i64 x54)))]) S K := by kernel_rfl
noncomputable abbrev A35_0 (D J : Disp) (vals : List AV) (S : St) (K : AV → St → Prop) : Prop :=
  uncA vals fun a9001 r9002 => scK a9001 fun s9004 => SV.cP s9004 fun p0 => endL r9002 <| F35_0 D J p0 S K
theorem A35_0_ok {D J : Disp} (hD : DOK SynP SynG D) (hJ : JOK SynP SynG Go.Proofs.Tryz.f35 T35 J) {vals : List AV} {S : St} {K : AV → St → Prop} (h0 : A35_0 D J vals S K) : Runs SynP SynG Go.Proofs.Tryz.f35 (T35 0).1 (envOf (T35 0).2 vals) S K := by
  obtain ⟨a9001, r9002, rfl, h3⟩ := uncA_some h0
  obtain ⟨s9004, rfl, h5⟩ := scK_some h3
  obtain ⟨p0, rfl, h6⟩ := cP_some h5
  obtain ⟨rfl, h7⟩ := endL_some h6
  rw [F35_0_eq] at h7
  exact execK_runs hD.typed Syn_zero Syn_mixed hJ X35_0 (T35 0).1 (envOf (T35 0).2 _) S K (chk_of (by kernel_rfl) (by kernel_rfl)) h7
noncomputable abbrev A35_3 (D J : Disp) (vals : List AV) (S : St) (K : AV → St → Prop) : Prop :=
  uncA vals fun a9001 r9002 => scK a9001 fun s9004 => SV.cP s9004 fun p0 => uncA r9002 fun a9007 r9008 => scK a9007 fun s9010 => SV.cP s9010 fun p2 => uncA r9008 fun a9013 r9014 => scK a9013 fun s9016 => SV.cP s9016 fun p3 => uncA r9014 fun a9019 r9020 => scK a9019 fun s9022 => SV.cB s9022 fun c17 => endL r9020 <| F35_3 D J p0 p2 p3 c17 S K
theorem A35_3_ok {D J : Disp} (hD : DOK SynP SynG D) (hJ : JOK SynP SynG Go.Proofs.Tryz.f35 T35 J) {vals : List AV} {S : St} {K : AV → St → Prop} (h0 : A35_3 D J vals S K) : Runs SynP SynG Go.Proofs.Tryz.f35 (T35 3).1 (envOf (T35 3).2 vals) S K := by
  obtain ⟨a9001, r9002, rfl, h3⟩ := uncA_some h0
  obtain ⟨s9004, rfl, h5⟩ := scK_some h3
  obtain ⟨p0, rfl, h6⟩ := cP_some h5
  obtain ⟨a9007, r9008, rfl, h9⟩ := uncA_some h6
  obtain ⟨s9010, rfl, h11⟩ := scK_some h9
  obtain ⟨p2, rfl, h12⟩ := cP_some h11
  obtain ⟨a9013, r9014, rfl, h15⟩ := uncA_some h12
  obtain ⟨s9016, rfl, h17⟩ := scK_some h15
  obtain ⟨p3, rfl, h18⟩ := cP_some h17
  obtain ⟨a9019, r9020, rfl, h21⟩ := uncA_some h18
  obtain ⟨s9022, rfl, h23⟩ := scK_some h21
  obtain ⟨c17, rfl, h24⟩ := cB_some h23
  obtain ⟨rfl, h25⟩ := endL_some h24
  rw [F35_3_eq] at h25
  exact execK_runs hD.typed Syn_zero Syn_mixed hJ X35_3 (T35 3).1 (envOf (T35 3).2 _) S K (chk_of (by kernel_rfl) (by kernel_rfl)) h25
noncomputable abbrev A35_12 (D J : Disp) (vals : List AV) (S : St) (K : AV → St → Prop) : Prop :=
  uncA vals fun a9001 r9002 => scK a9001 fun s9004 => SV.cP s9004 fun p0 => uncA r9002 fun a9007 r9008 => scK a9007 fun s9010 => SV.cP s9010 fun p2 => uncA r9008 fun a9013 r9014 => scK a9013 fun s9016 => SV.cP s9016 fun p3 => uncA r9014 fun a9019 r9020 => scK a9019 fun s9022 => SV.cP s9022 fun p4 => endL r9020 <| F35_12 D J p0 p2 p3 p4 S K
theorem A35_12_ok {D J : Disp} (hD : DOK SynP SynG D) (hJ : JOK SynP SynG Go.Proofs.Tryz.f35 T35 J) {vals : List AV} {S : St} {K : AV → St → Prop} (h0 : A35_12 D J vals S K) : Runs SynP SynG Go.Proofs.Tryz.f35 (T35 12).1 (envOf (T35 12).2 vals) S K := by
  obtain ⟨a9001, r9002, rfl, h3⟩ := uncA_some h0
  obtain ⟨s9004, rfl, h5⟩ := scK_some h3
  obtain ⟨p0, rfl, h6⟩ := cP_some h5
  obtain ⟨a9007, r9008, rfl, h9⟩ := uncA_some h6
  obtain ⟨s9010, rfl, h11⟩ := scK_some h9
  obtain ⟨p2, rfl, h12⟩ := cP_some h11
  obtain ⟨a9013, r9014, rfl, h15⟩ := uncA_some h12
  obtain ⟨s9016, rfl, h17⟩ := scK_some h15
  obtain ⟨p3, rfl, h18⟩ := cP_some h17
  obtain ⟨a9019, r9020, rfl, h21⟩ := uncA_some h18
  obtain ⟨s9022, rfl, h23⟩ := scK_some h21
  obtain ⟨p4, rfl, h24⟩ := cP_some h23
  obtain ⟨rfl, h25⟩ := endL_some h24
  rw [F35_12_eq] at h25
  exact execK_runs hD.typed Syn_zero Syn_mixed hJ X35_12 (T35 12).1 (envOf (T35 12).2 _) S K (chk_of (by kernel_rfl) (by kernel_rfl)) h25
noncomputable abbrev A35_15 (D J : Disp) (vals : List AV) (S : St) (K : AV → St → Prop) : Prop :=
  uncA vals fun a9001 r9002 => scK a9001 fun s9004 => SV.cP s9004 fun p0 => uncA r9002 fun a9007 r9008 => scK a9007 fun s9010 => SV.cP s9010 fun p2 => uncA r9008 fun a9013 r9014 => scK a9013 fun s9016 => SV.cP s9016 fun p4 => endL r9014 <| F35_15 D J p0 p2 p4 S K
theorem A35_15_ok {D J : Disp} (hD : DOK SynP SynG D) (hJ : JOK SynP SynG Go.Proofs.Tryz.f35 T35 J) {vals : List AV} {S : St} {K : AV → St → Prop} (h0 : A35_15 D J vals S K) : Runs SynP SynG Go.Proofs.Tryz.f35 (T35 15).1 (envOf (T35 15).2 vals) S K := by
  obtain ⟨a9001, r9002, rfl, h3⟩ := uncA_some h0
  obtain ⟨s9004, rfl, h5⟩ := scK_some h3
  obtain ⟨p0, rfl, h6⟩ := cP_some h5
  obtain ⟨a9007, r9008, rfl, h9⟩ := uncA_some h6
  obtain ⟨s9010, rfl, h11⟩ := scK_some h9
  obtain ⟨p2, rfl, h12⟩ := cP_some h11
  obtain ⟨a9013, r9014, rfl, h15⟩ := uncA_some h12
  obtain ⟨s9016, rfl, h17⟩ := scK_some h15
  obtain ⟨p4, rfl, h18⟩ := cP_some h17
  obtain ⟨rfl, h19⟩ := endL_some h18
  rw [F35_15_eq] at h19
  exact execK_runs hD.typed Syn_zero Syn_mixed hJ X35_15 (T35 15).1 (envOf (T35 15).2 _) S K (chk_of (by kernel_rfl) (by kernel_rfl)) h19
noncomputable abbrev A35_23 (D J : Disp) (vals : List AV) (S : St) (K : AV → St → Prop) : Prop :=
  uncA vals fun a9001 r9002 => scK a9001 fun s9004 => SV.cP s9004 fun p0 => uncA r9002 fun a9007 r9008 => scK a9007 fun s9010 => SV.cP s9010 fun p2 => uncA r9008 fun a9013 r9014 => scK a9013 fun s9016 => SV.cP s9016 fun p4 => uncA r9014 fun a9019 r9020 => scK a9019 fun s9022 => SV.cL s9022 fun l52 => uncA r9020 fun a9025 r9026 => scK a9025 fun s9028 => SV.cI IntKind.i64 s9028 fun x53 => uncA r9026 fun a9031 r9032 => scK a9031 fun s9034 => SV.cI IntKind.i64 s9034 fun x54 => endL r9032 <| F35_23 D J p0 p2 p4 l52 x53 x54 S K
theorem A35_23_ok {D J : Disp} (hD : DOK SynP SynG D) (hJ : JOK SynP SynG Go.Proofs.Tryz.f35 T35 J) {vals : List AV} {S : St} {K : AV → St → Prop} (h0 : A35_23 D J vals S K) : Runs SynP SynG Go.Proofs.Tryz.f35 (T35 23).1 (envOf (T35 23).2 vals) S K := by
  obtain ⟨a9001, r9002, rfl, h3⟩ := uncA_some h0
  obtain ⟨s9004, rfl, h5⟩ := scK_some h3
  obtain ⟨p0, rfl, h6⟩ := cP_some h5
  obtain ⟨a9007, r9008, rfl, h9⟩ := uncA_some h6
  obtain ⟨s9010, rfl, h11⟩ := scK_some h9
  obtain ⟨p2, rfl, h12⟩ := cP_some h11
  obtain ⟨a9013, r9014, rfl, h15⟩ := uncA_some h12
  obtain ⟨s9016, rfl, h17⟩ := scK_some h15
  obtain ⟨p4, rfl, h18⟩ := cP_some h17
  obtain ⟨a9019, r9020, rfl, h21⟩ := uncA_some h18
  obtain ⟨s9022, rfl, h23⟩ := scK_some h21
  obtain ⟨l52, rfl, h24⟩ := cL_some h23
  obtain ⟨a9025, r9026, rfl, h27⟩ := uncA_some h24
  obtain ⟨s9028, rfl, h29⟩ := scK_some h27
  obtain ⟨x53, rfl, h30⟩ := cI_some h29
  obtain ⟨a9031, r9032, rfl, h33⟩ := uncA_some h30
  obtain ⟨s9034, rfl, h35⟩ := scK_some h33
  obtain ⟨x54, rfl, h36⟩ := cI_some h35
  obtain ⟨rfl, h37⟩ := endL_some h36
  rw [F35_23_eq] at h37
  exact execK_runs hD.typed Syn_zero Syn_mixed hJ X35_23 (T35 23).1 (envOf (T35 23).2 _) S K (chk_of (by kernel_rfl) (by kernel_rfl)) h37
noncomputable def J35 (D : Disp) (k : Nat) : Disp := Nat.rec (motive := fun _ => Disp) Disp.no (fun _ ih => Disp.add 0 (A35_0 D ih) <| Disp.add 3 (A35_3 D ih) <| Disp.add 12 (A35_12 D ih) <| Disp.add 15 (A35_15 D ih) <| Disp.add 23 (A35_23 D ih) <| Disp.no) k
theorem J35_ok {D : Disp} (hD : DOK SynP SynG D) : ∀ k, JOK SynP SynG Go.Proofs.Tryz.f35 T35 (J35 D k)
  | 0 => JOK.no
  | k + 1 => JOK.add (ltB_ok (by kernel_rfl)) (fun vals S K h => A35_0_ok hD (J35_ok hD k) h) <| JOK.add (ltB_ok (by kernel_rfl)) (fun vals S K h => A35_3_ok hD (J35_ok hD k) h) <| JOK.add (ltB_ok (by kernel_rfl)) (fun vals S K h => A35_12_ok hD (J35_ok hD k) h) <| JOK.add (ltB_ok (by kernel_rfl)) (fun vals S K h => A35_15_ok hD (J35_ok hD k) h) <| JOK.add (ltB_ok (by kernel_rfl)) (fun vals S K h => A35_23_ok hD (J35_ok hD k) h) <| JOK.no
theorem E35_ok {D : Disp} (hD : DOK SynP SynG D) (k : Nat) {args : List AV} {S : St} {K : AV → St → Prop} (h : A35_0 D (J35 D k) args S K) : CallE SynP SynG 35 args S K := by
  have hr := A35_0_ok hD (J35_ok hD k) h
  have hl : args.length = 1 := by
    have h0 := h
    obtain ⟨a9001, r9002, rfl, h3⟩ := uncA_some h0
    obtain ⟨s9004, rfl, h5⟩ := scK_some h3
    obtain ⟨p0, rfl, h6⟩ := cP_some h5
    obtain ⟨rfl, h7⟩ := endL_some h6
    rfl
  refine callOK_of (fn := Go.Proofs.Tryz.f35) (c := (match Go.Proofs.Tryz.f35.body with | some c => c | none => .skip)) (by kernel_rfl) (by kernel_rfl) (by kernel_rfl) (by rw [hl]; kernel_rfl) (by kernel_rfl) ?_
  rw [hl]
  exact hr
noncomputable def plans36 (i : Nat) : Plan := []
noncomputable def T36 (p : Nat) : List Item × List Nat := bif Nat.beq p 0 then ([.code (match Go.Proofs.Tryz.f36.body with | some c => c | none => .skip)], [0]) else
  ([], [])
noncomputable def F36_q0 (D J : Disp) (S : St) (S347 : St) (K : AV → St → Prop) : Prop :=
 St.at S347 (Bk.new (St.next S)) 0 fun y348 =>
 uncK y348 fun v349 y350 =>
 SV.cS v349 fun y355 =>
 uncK y350 fun v356 y357 =>
 SV.cI IntKind.i64 v356 fun x361 =>
 uncK y357 fun v362 y363 =>
 SV.cS v362 fun y368 =>
 uncK y363 fun v369 y370 =>
 SV.cI IntKind.u64 v369 fun x374 =>
 uncK y370 fun v375 y376 =>
 SV.cB v375 fun y378 =>
 K ((AV.one (V1.agg [(SV.str y355), (SV.int IntKind.i64 x361), (SV.str y368), (SV.int IntKind.u64 x374), (SV.bool y378)]))) S347
noncomputable def F36_q1 (D J : Disp) (S : St) (S300 : St) (y311 : PV) (K : AV → St → Prop) : Prop :=
 D 31 [(AV.one (V1.s (SV.ptr y311))), (AV.one (V1.s (SV.bool Bool.false)))] S300 fun v312 S313 =>
 avA v312 fun y316 =>
 req (Nat.beq (List.length y316) 5) <|
 uncK y316 fun v317 y318 =>
 SV.cS v317 fun y323 =>
 uncK y318 fun v324 y325 =>
 SV.cI IntKind.i64 v324 fun x329 =>
 uncK y325 fun v330 y331 =>
 SV.cS v330 fun y336 =>
 uncK y331 fun v337 y338 =>
 SV.cI IntKind.u64 v337 fun x342 =>
 uncK y338 fun v343 y344 =>
 SV.cB v343 fun y346 =>
 St.wr S313 (Bk.new (St.next S)) 0 [(SV.str y323), (SV.int IntKind.i64 x329), (SV.str y336), (SV.int IntKind.u64 x342), (SV.bool y346)] fun S347 =>
 F36_q0 D J S S347 K
noncomputable def F36_0 (D J : Disp) (p0 : PV) (S : St) (K : AV → St → Prop) : Prop :=
 let S300 : St := (St.add S (AO.cells [(SV.str []), (SV.int IntKind.i64 (0 : Int)), (SV.str []), (SV.int IntKind.u64 (0 : Int)), (SV.bool Bool.false)] (Op2.ty 48)));
 PV.cs p0 fun b301 n302 =>
 St.at S300 b301 n302 fun y303 =>
 uncK y303 fun v304 y305 =>
 SV.cP v304 fun y311 =>
 F36_q1 D J S S300 y311 K
noncomputable def X36_0 : X := (.op (.op .ret))
theorem F36_0_eq (D J : Disp) (p0 : PV) (S : St) (K : AV → St → Prop) : F36_0 D J p0 S K = execK SynP SynG Go.Proofs.Tryz.f36 (typed SynP D) J plans36 X36_0 (T36 0).1 (envOf (T36 0).2 [(AV.one (V1.s (SV.ptr p0)))]) S K := by kernel_rfl
noncomputable abbrev A36_0 (D J : Disp) (vals : List AV) (S : St) (K : AV → St → Prop) : Prop :=
  uncA vals fun a9001 r9002 => scK a9001 fun s9004 => SV.cP s9004 fun p0 => endL r9002 <| F36_0 D J p0 S K
theorem A36_0_ok {D J : Disp} (hD : DOK SynP SynG D) (hJ : JOK SynP SynG Go.Proofs.Tryz.f36 T36 J) {vals : List AV} {S : St} {K : AV → St → Prop} (h0 : A36_0 D J vals S K) : Runs SynP SynG Go.Proofs.Tryz.f36 (T36 0).1 (envOf (T36 0).2 vals) S K := by
  obtain ⟨a9001, r9002, rfl, h3⟩ := uncA_some h0
  obtain ⟨s9004, rfl, h5⟩ := scK_some h3
  obtain ⟨p0, rfl, h6⟩ := cP_some h5
  obtain ⟨rfl, h7⟩ := endL_some h6
  rw [F36_0_eq] at h7
  exact execK_runs hD.typed Syn_zero Syn_mixed hJ X36_0 (T36 0).1 (envOf (T36 0).2 _) S K (chk_of (by kernel_rfl) (by kernel_rfl)) h7
noncomputable def J36 (D : Disp) (k : Nat) : Disp := Nat.rec (motive := fun _ => Disp) Disp.no (fun _ ih => Disp.add 0 (A36_0 D ih) <| Disp.no) k
theorem J36_ok {D : Disp} (hD : DOK SynP SynG D) : ∀ k, JOK SynP SynG Go.Proofs.Tryz.f36 T36 (J36 D k)
  | 0 => JOK.no
  | k + 1 => JOK.add (ltB_ok (by kernel_rfl)) (fun vals S K h => A36_0_ok hD (J36_ok hD k) h) <| JOK.no
theorem E36_ok {D : Disp} (hD : DOK SynP SynG D) (k : Nat) {args : List AV} {S : St} {K : AV → St → Prop} (h : A36_0 D (J36 D k) args S K) : CallE SynP SynG 36 args S K := by
  have hr := A36_0_ok hD (J36_ok hD k) h
  have hl : args.length = 1 := by
    have h0 := h
    obtain ⟨a9001, r9002, rfl, h3⟩ := uncA_some h0
    obtain ⟨s9004, rfl, h5⟩ := scK_some h3
    obtain ⟨p0, rfl, h6⟩ := cP_some h5
    obtain ⟨rfl, h7⟩ := endL_some h6
    rfl
  refine callOK_of (fn := Go.Proofs.Tryz.f36) (c := (match Go.Proofs.Tryz.f36.body with | some c => c | none => .skip)) (by kernel_rfl) (by kernel_rfl) (by kernel_rfl) (by rw [hl]; kernel_rfl) (by kernel_rfl) ?_
  rw [hl]
  exact hr
noncomputable def plans37 (i : Nat) : Plan := if Nat.beq i 3 then [(0, []), (1, []), (2, [1]), (3, [2, 1]), (4, [3, 2, 1]), (5, []), (6, [5]), (7, [6, 5]), (8, [4, 7, 6, 3, 5, 2, 1]), (9, [0, 1, 2, 3, 4, 5, 6, 7, 8]), (10, [9, 0, 1, 2, 3, 4, 5, 6, 7, 8]), (11, [10, 8, 0, 1, 2, 3, 4, 5, 6, 7, 9])] else []
noncomputable def T37 (p : Nat) : List Item × List Nat := bif Nat.beq p 0 then ([.code (match Go.Proofs.Tryz.f37.body with | some c => c | none => .skip)], [0]) else
  bif Nat.beq p 2 then (navs [.op, .op] [.code (match Go.Proofs.Tryz.f37.body with | some c => c | none => .skip)], [0, 3]) else
  bif Nat.beq p 3 then (navs [.op, .op, .op] [.code (match Go.Proofs.Tryz.f37.body with | some c => c | none => .skip)], [0, 3, 12]) else
  ([], [])
noncomputable def F37_0 (D J : Disp) (p0 : PV) (S : St) (K : AV → St → Prop) : Prop :=
 let S300 : St := (St.add S (AO.cells [(SV.str [98, 108, 111, 99, 107]), (SV.str []), (SV.str []), (SV.int IntKind.i64 (0 : Int)), (SV.int IntKind.u64 (0 : Int)), (SV.bool Bool.false), (SV.bool Bool.false), (SV.sl LV.nil), (SV.sl LV.nil)] (Op2.ty 115)));
 J 2 [(AV.one (V1.s (SV.ptr p0))), (AV.one (V1.s (SV.ptr (PV.mk (Bk.new (St.next S)) 0))))] S300 K
noncomputable def X37_0 : X := (.op (.op (.jmp 2 [0, 3])))
theorem F37_0_eq (D J : Disp) (p0 : PV) (S : St) (K : AV → St → Prop) : F37_0 D J p0 S K = execK SynP SynG Go.Proofs.Tryz.f37 (typed SynP D) J plans37 X37_0 (T37 0).1 (envOf (T37 0).2 [(AV.one (V1.s (SV.ptr p0)))]) S K := by kernel_rfl
noncomputable def F37_q3 (D J : Disp) (S : St) (p0 : PV) (p3 : PV) (K : AV → St → Prop) : Prop :=
 D 18 [(AV.one (V1.s (SV.ptr p0)))] S fun v300 S301 =>
 scK v300 fun v303 =>
 SV.cB v303 fun y304 =>
 ifK y304
 (D 32 [(AV.one (V1.s (SV.ptr p0))), (AV.one (V1.s (SV.str [125])))] S301 fun v305 S306 =>
 scK v305 fun v308 =>
 SV.cB v308 fun y309 =>
 let c310 : Bool := (Bool.not y309);
 J 3 [(AV.one (V1.s (SV.ptr p0))), (AV.one (V1.s (SV.ptr p3))), (AV.one (V1.s (SV.bool c310)))] S306 K)
 (J 3 [(AV.one (V1.s (SV.ptr p0))), (AV.one (V1.s (SV.ptr p3))), (AV.one (V1.s (SV.bool Bool.false)))] S301 K)
noncomputable def F37_2 (D J : Disp) (p0 : PV) (p3 : PV) (S : St) (K : AV → St → Prop) : Prop :=
 F37_q3 D J S p0 p3 K
noncomputable def X37_2 : X := (.op (.jmp 3 [0, 3, 12]))
theorem F37_2_eq (D J : Disp) (p0 : PV) (p3 : PV) (S : St) (K : AV → St → Prop) : F37_2 D J p0 p3 S K = execK SynP SynG Go.Proofs.Tryz.f37 (typed SynP D) J plans37 X37_2 (T37 2).1 (envOf (T37 2).2 [(AV.one (V1.s (SV.ptr p0))), (AV.one (V1.s (SV.ptr p3)))]) S K := by kernel_rfl
noncomputable def F37_q4 (D J : Disp) (p0 : PV) (p3 : PV) (y312 : LV) (S314 : St) (y321 : PV) (K : AV → St → Prop) : Prop :=
 let o332 : AO := (AO.cells [(SV.ptr y321)] Op2.sh);
 let d333 : (Sum Nat Nat) := (Sum.inl 1);
 let S334 : St := (St.add S314 o332);
 St.src S334 1 (LV.mk (Bk.new (St.next S314)) 0 1 d333) fun y335 n336 =>
 St.app S334 50 1 8 y312 y335 n336 fun y337 S338 =>
 PV.cs p3 fun b339 n340 =>
 let n341 : Nat := (n340 + 8);
 St.wr S338 b339 n341 [(SV.sl y337)] fun S342 =>
 J 2 [(AV.one (V1.s (SV.ptr p0))), (AV.one (V1.s (SV.ptr p3)))] S342 K
noncomputable def F37_q5 (D J : Disp) (S : St) (p0 : PV) (p3 : PV) (b300 : Bk) (n301 : Nat) (K : AV → St → Prop) : Prop :=
 let n302 : Nat := (n301 + 8);
 St.at S b300 n302 fun y303 =>
 uncK y303 fun v304 y305 =>
 SV.cL v304 fun y312 =>
 D 61 [(AV.one (V1.s (SV.ptr p0)))] S fun v313 S314 =>
 scK v313 fun v316 =>
 SV.cP v316 fun y321 =>
 St.at S314 b300 n302 fun y322 =>
 uncK y322 fun v323 y324 =>
 SV.cL v323 fun y331 =>
 req (sameAV (AV.one (V1.s (SV.sl y331))) (AV.one (V1.s (SV.sl y312)))) <|
 F37_q4 D J p0 p3 y312 S314 y321 K
noncomputable def F37_3 (D J : Disp) (p0 : PV) (p3 : PV) (c12 : Bool) (S : St) (K : AV → St → Prop) : Prop :=
 ifK c12
 (PV.cs p3 fun b300 n301 =>
 F37_q5 D J S p0 p3 b300 n301 K)
 (K ((AV.one (V1.s (SV.ptr p3)))) S)
noncomputable def X37_3 : X := (.br (.op (.jmp 2 [0, 3])) (.op .ret))
theorem F37_3_eq (D J : Disp) (p0 : PV) (p3 : PV) (c12 : Bool) (S : St) (K : AV → St → Prop) : F37_3 D J p0 p3 c12 S K = execK SynP SynG Go.Proofs.Tryz.f37 (typed SynP D) J plans37 X37_3 (T37 3).1 (envOf (T37 3).2 [(AV.one (V1.s (SV.ptr p0))), (AV.one (V1.s (SV.ptr p3))), (AV.one (V1.s (SV.bool c12)))]) S K := by kernel_rfl
noncomputable abbrev A37_0 (D J : Disp) (vals : List AV) (S : St) (K : AV → St → Prop) : Prop :=
  uncA vals fun a9001 r9002 => scK a9001 fun s9004 => SV.cP s9004 fun p0 => endL r9002 <| F37_0 D J p0 S K
theorem A37_0_ok {D J : Disp} (hD : DOK SynP SynG D) (hJ : JOK SynP SynG Go.Proofs.Tryz.f37 T37 J) {vals : List AV} {S : St} {K : AV → St → Prop} (h0 : A37_0 D J vals S K) : Runs SynP SynG Go.Proofs.Tryz.f37 (T37 0).1 (envOf (T37 0).2 vals) S K := by
  obtain ⟨a9001, r9002, rfl, h3⟩ := uncA_some h0
  obtain ⟨s9004, rfl, h5⟩ := scK_some h3
  obtain ⟨p0, rfl, h6⟩ := cP_some h5
  obtain ⟨rfl, h7⟩ := endL_some h6
  rw [F37_0_eq] at h7
  exact execK_runs hD.typed Syn_zero Syn_mixed hJ X37_0 (T37 0).1 (envOf (T37 0).2 _) S K (chk_of (by kernel_rfl) (by kernel_rfl)) h7
noncomputable abbrev A37_2 (D J : Disp) (vals : List AV) (S : St) (K : AV → St → Prop) : Prop :=
  uncA vals fun a9001 r9002 => scK a9001 fun s9004 => SV.cP s9004 fun p0 => uncA r9002 fun a9007 r9008 => scK a9007 fun s9010 => SV.cP s9010 fun p3 => endL r9008 <| F37_2 D J p0 p3 S K
theorem A37_2_ok {D J : Disp} (hD : DOK SynP SynG D) (hJ : JOK SynP SynG Go.Proofs.Tryz.f37 T37 J) {vals : List AV} {S : St} {K : AV → St → Prop} (h0 : A37_2 D J vals S K) : Runs SynP SynG Go.Proofs.Tryz.f37 (T37 2).1 (envOf (T37 2).2 vals) S K := by
  obtain ⟨a9001, r9002, rfl, h3⟩ := uncA_some h0
  obtain ⟨s9004, rfl, h5⟩ := scK_some h3
  obtain ⟨p0, rfl, h6⟩ := cP_some h5
  obtain ⟨a9007, r9008, rfl, h9⟩ := uncA_some h6
  obtain ⟨s9010, rfl, h11⟩ := scK_some h9
  obtain ⟨p3, rfl, h12⟩ := cP_some h11
  obtain ⟨rfl, h13⟩ := endL_some h12
  rw [F37_2_eq] at h13
  exact execK_runs hD.typed Syn_zero Syn_mixed hJ X37_2 (T37 2).1 (envOf (T37 2).2 _) S K (chk_of (by kernel_rfl) (by kernel_rfl)) h13
noncomputable abbrev A37_3 (D J : Disp) (vals : List AV) (S : St) (K : AV → St → Prop) : Prop :=
  uncA vals fun a9001 r9002 => scK a9001 fun s9004 => SV.cP s9004 fun p0 => uncA r9002 fun a9007 r9008 => scK a9007 fun s9010 => SV.cP s9010 fun p3 => uncA r9008 fun a9013 r9014 => scK a9013 fun s9016 => SV.cB s9016 fun c12 => endL r9014 <| F37_3 D J p0 p3 c12 S K
theorem A37_3_ok {D J : Disp} (hD : DOK SynP SynG D) (hJ : JOK SynP SynG Go.Proofs.Tryz.f37 T37 J) {vals : List AV} {S : St} {K : AV → St → Prop} (h0 : A37_3 D J vals S K) : Runs SynP SynG Go.Proofs.Tryz.f37 (T37 3).1 (envOf (T37 3).2 vals) S K := by
  obtain ⟨a9001, r9002, rfl, h3⟩ := uncA_some h0
  obtain ⟨s9004, rfl, h5⟩ := scK_some h3
  obtain ⟨p0, rfl, h6⟩ := cP_some h5
  obtain ⟨a9007, r9008, rfl, h9⟩ := uncA_some h6
  obtain ⟨s9010, rfl, h11⟩ := scK_some h9
  obtain ⟨p3, rfl, h12⟩ := cP_some h11
  obtain ⟨a9013, r9014, rfl, h15⟩ := uncA_some h12
  obtain ⟨s9016, rfl, h17⟩ := scK_some h15
  obtain ⟨c12, rfl, h18⟩ := cB_some h17
  obtain ⟨rfl, h19⟩ := endL_some h18
  rw [F37_3_eq] at h19
  exact execK_runs hD.typed Syn_zero Syn_mixed hJ X37_3 (T37 3).1 (envOf (T37 3).2 _) S K (chk_of (by kernel_rfl) (by kernel_rfl)) h19
noncomputable def J37 (D : Disp) (k : Nat) : Disp := Nat.rec (motive := fun _ => Disp) Disp.no (fun _ ih => Disp.add 0 (A37_0 D ih) <| Disp.add 2 (A37_2 D ih) <| Disp.add 3 (A37_3 D ih) <| Disp.no) k
theorem J37_ok {D : Disp} (hD : DOK SynP SynG D) : ∀ k, JOK SynP SynG Go.Proofs.Tryz.f37 T37 (J37 D k)
  | 0 => JOK.no
  | k + 1 => JOK.add (ltB_ok (by kernel_rfl)) (fun vals S K h => A37_0_ok hD (J37_ok hD k) h) <| JOK.add (ltB_ok (by kernel_rfl)) (fun vals S K h => A37_2_ok hD (J37_ok hD k) h) <| JOK.add (ltB_ok (by kernel_rfl)) (fun vals S K h => A37_3_ok hD (J37_ok hD k) h) <| JOK.no
theorem E37_ok {D : Disp} (hD : DOK SynP SynG D) (k : Nat) {args : List AV} {S : St} {K : AV → St → Prop} (h : A37_0 D (J37 D k) args S K) : CallE SynP SynG 37 args S K := by
  have hr := A37_0_ok hD (J37_ok hD k) h
  have hl : args.length = 1 := by
    have h0 := h
    obtain ⟨a9001, r9002, rfl, h3⟩ := uncA_some h0
    obtain ⟨s9004, rfl, h5⟩ := scK_some h3
    obtain ⟨p0, rfl, h6⟩ := cP_some h5
    obtain ⟨rfl, h7⟩ := endL_some h6
    rfl
  refine callOK_of (fn := Go.Proofs.Tryz.f37) (c := (match Go.Proofs.Tryz.f37.body with | some c => c | none => .skip)) (by kernel_rfl) (by kernel_rfl) (by kernel_rfl) (by rw [hl]; kernel_rfl) (by kernel_rfl) ?_
  rw [hl]
  exact hr
noncomputable def plans38 (i : Nat) : Plan := []
noncomputable def T38 (p : Nat) : List Item × List Nat := bif Nat.beq p 0 then ([.code (match Go.Proofs.Tryz.f38.body with | some c => c | none => .skip)], [0]) else
  bif Nat.beq p 7 then (navs [.op, .op, .el, .op, .op] [.code (match Go.Proofs.Tryz.f38.body with | some c => c | none => .skip)], [0, 4, 17]) else
  ([], [])
noncomputable def F38_q4 (D J : Disp) (p0 : PV) (S307 : St) (S348 : St) (c356 : Bool) (K : AV → St → Prop) : Prop :=
 ifK c356
 (J 7 [(AV.one (V1.s (SV.ptr p0))), (AV.one (V1.s (SV.ptr (PV.mk (Bk.new (St.next S307)) 0)))), (AV.one (V1.s (SV.bool Bool.true)))] S348 K)
 (St.at S348 (Bk.new (St.next S307)) 3 fun y357 =>
 uncK y357 fun v358 y359 =>
 SV.cS v358 fun y364 =>
 let c365 : Bool := (Bool.not (leq y364 []));
 J 7 [(AV.one (V1.s (SV.ptr p0))), (AV.one (V1.s (SV.ptr (PV.mk (Bk.new (St.next S307)) 0)))), (AV.one (V1.s (SV.bool c365)))] S348 K)
noncomputable def F38_q5 (D J : Disp) (p0 : PV) (S307 : St) (x316 : Int) (x322 : Int) (y329 : (List Nat)) (y336 : (List Nat)) (x342 : Int) (y346 : Bool) (K : AV → St → Prop) : Prop :=
 let S347 : St := (St.add S307 (AO.cells [(SV.int IntKind.i64 (0 : Int)), (SV.int IntKind.i64 (0 : Int)), (SV.str []), (SV.str []), (SV.int IntKind.u64 (0 : Int)), (SV.bool Bool.false)] (Op2.ty 76)));
 St.wr S347 (Bk.new (St.next S307)) 0 [(SV.int IntKind.i64 x316), (SV.int IntKind.i64 x322), (SV.str y329), (SV.str y336), (SV.int IntKind.u64 x342), (SV.bool y346)] fun S348 =>
 St.at S348 (Bk.new (St.next S307)) 0 fun y349 =>
 uncK y349 fun v350 y351 =>
 SV.cI IntKind.i64 v350 fun x355 =>
 let c356 : Bool := (Bool.not (ieq x355 (3 : Int)));
 F38_q4 D J p0 S307 S348 c356 K
noncomputable def F38_q6 (D J : Disp) (p0 : PV) (S301 : St) (K : AV → St → Prop) : Prop :=
 D 26 [(AV.one (V1.s (SV.ptr p0)))] S301 fun v306 S307 =>
 avA v306 fun y310 =>
 req (Nat.beq (List.length y310) 6) <|
 uncK y310 fun v311 y312 =>
 SV.cI IntKind.i64 v311 fun x316 =>
 uncK y312 fun v317 y318 =>
 SV.cI IntKind.i64 v317 fun x322 =>
 uncK y318 fun v323 y324 =>
 SV.cS v323 fun y329 =>
 uncK y324 fun v330 y331 =>
 SV.cS v330 fun y336 =>
 uncK y331 fun v337 y338 =>
 SV.cI IntKind.u64 v337 fun x342 =>
 uncK y338 fun v343 y344 =>
 SV.cB v343 fun y346 =>
 F38_q5 D J p0 S307 x316 x322 y329 y336 x342 y346 K
noncomputable def F38_0 (D J : Disp) (p0 : PV) (S : St) (K : AV → St → Prop) : Prop :=
 D 32 [(AV.one (V1.s (SV.ptr p0))), (AV.one (V1.s (SV.str [91])))] S fun v300 S301 =>
 scK v300 fun v303 =>
 SV.cB v303 fun y304 =>
 let c305 : Bool := (Bool.not y304);
 ifK c305
 (K ((AV.tup [(V1.s (SV.int IntKind.u64 (0 : Int))), (V1.s (SV.bool Bool.false))])) S301)
 (F38_q6 D J p0 S301 K)
noncomputable def X38_0 : X := (.op (.op (.br (.op .ret) (.op (.op (.jmp 7 [0, 4, 17]))))))
theorem F38_0_eq (D J : Disp) (p0 : PV) (S : St) (K : AV → St → Prop) : F38_0 D J p0 S K = execK SynP SynG Go.Proofs.Tryz.f38 (typed SynP D) J plans38 X38_0 (T38 0).1 (envOf (T38 0).2 [(AV.one (V1.s (SV.ptr p0)))]) S K := by kernel_rfl
noncomputable def F38_q7 (D J : Disp) (S : St) (p0 : PV) (p4 : PV) (x317 : Int) (b318 : Bk) (n319 : Nat) (K : AV → St → Prop) : Prop :=
 let n320 : Nat := (n319 + 1);
 St.wr S b318 n320 [(SV.int IntKind.i64 x317)] fun S321 =>
 D 29 [(AV.one (V1.s (SV.ptr p0))), (AV.one (V1.s (SV.str [93])))] S321 fun v322 S323 =>
 avT v322 fun y325 =>
 endL y325 (PV.cs p4 fun b326 n327 =>
 let n328 : Nat := (n327 + 4);
 St.at S323 b326 n328 fun y329 =>
 uncK y329 fun v330 y331 =>
 SV.cI IntKind.u64 v330 fun x335 =>
 K ((AV.tup [(V1.s (SV.int IntKind.u64 x335)), (V1.s (SV.bool Bool.true))])) S323)
noncomputable def F38_7 (D J : Disp) (p0 : PV) (p4 : PV) (c17 : Bool) (S : St) (K : AV → St → Prop) : Prop :=
 ifK c17
 (D 59 [(AV.one (V1.s (SV.ptr p0))), (AV.one (V1.s (SV.int IntKind.i64 (4 : Int))))] S fun v300 S301 =>
 avT v300 fun y303 =>
 endL y303 (K ((AV.tup [(V1.s (SV.int IntKind.u64 (0 : Int))), (V1.s (SV.bool Bool.false))])) S301))
 (PV.cs p0 fun b307 n308 =>
 let n309 : Nat := (n308 + 1);
 St.at S b307 n309 fun y310 =>
 uncK y310 fun v311 y312 =>
 SV.cI IntKind.i64 v311 fun x316 =>
 let x317 : Int := (iwrap IntKind.i64 (x316 + (1 : Int)));
 PV.cs p0 fun b318 n319 =>
 F38_q7 D J S p0 p4 x317 b318 n319 K)
noncomputable def X38_7 : X := (.br (.op (.op .ret)) (.op (.op (.op .ret))))
theorem F38_7_eq (D J : Disp) (p0 : PV) (p4 : PV) (c17 : Bool) (S : St) (K : AV → St → Prop) : F38_7 D J p0 p4 c17 S K = execK SynP SynG Go.Proofs.Tryz.f38 (typed SynP D) J plans38 X38_7 (T38 7).1 (envOf (T38 7).2 [(AV.one (V1.s (SV.ptr p0))), (AV.one (V1.s (SV.ptr p4))), (AV.one (V1.s (SV.bool c17)))]) S K := by kernel_rfl
noncomputable abbrev A38_0 (D J : Disp) (vals : List AV) (S : St) (K : AV → St → Prop) : Prop :=
  uncA vals fun a9001 r9002 => scK a9001 fun s9004 => SV.cP s9004 fun p0 => endL r9002 <| F38_0 D J p0 S K
theorem A38_0_ok {D J : Disp} (hD : DOK SynP SynG D) (hJ : JOK SynP SynG Go.Proofs.Tryz.f38 T38 J) {vals : List AV} {S : St} {K : AV → St → Prop} (h0 : A38_0 D J vals S K) : Runs SynP SynG Go.Proofs.Tryz.f38 (T38 0).1 (envOf (T38 0).2 vals) S K := by
  obtain ⟨a9001, r9002, rfl, h3⟩ := uncA_some h0
  obtain ⟨s9004, rfl, h5⟩ := scK_some h3
  obtain ⟨p0, rfl, h6⟩ := cP_some h5
  obtain ⟨rfl, h7⟩ := endL_some h6
  rw [F38_0_eq] at h7
  exact execK_runs hD.typed Syn_zero Syn_mixed hJ X38_0 (T38 0).1 (envOf (T38 0).2 _) S K (chk_of (by kernel_rfl) (by kernel_rfl)) h7
noncomputable abbrev A38_7 (D J : Disp) (vals : List AV) (S : St) (K : AV → St → Prop) : Prop :=
  uncA vals fun a9001 r9002 => scK a9001 fun s9004 => SV.cP s9004 fun p0 => uncA r9002 fun a9007 r9008 => scK a9007 fun s9010 => SV.cP s9010 fun p4 => uncA r9008 fun a9013 r9014 => scK a9013 fun s9016 => SV.cB s9016 fun c17 => endL r9014 <| F38_7 D J p0 p4 c17 S K
theorem A38_7_ok {D J : Disp} (hD : DOK SynP SynG D) (hJ : JOK SynP SynG Go.Proofs.Tryz.f38 T38 J) {vals : List AV} {S : St} {K : AV → St → Prop} (h0 : A38_7 D J vals S K) : Runs SynP SynG Go.Proofs.Tryz.f38 (T38 7).1 (envOf (T38 7).2 vals) S K := by
  obtain ⟨a9001, r9002, rfl, h3⟩ := uncA_some h0
  obtain ⟨s9004, rfl, h5⟩ := scK_some h3
  obtain ⟨p0, rfl, h6⟩ := cP_some h5
  obtain ⟨a9007, r9008, rfl, h9⟩ := uncA_some h6
  obtain ⟨s9010, rfl, h11⟩ := scK_some h9
  obtain ⟨p4, rfl, h12⟩ := cP_some h11
  obtain ⟨a9013, r9014, rfl, h15⟩ := uncA_some h12
  obtain ⟨s9016, rfl, h17⟩ := scK_some h15
  obtain ⟨c17, rfl, h18⟩ := cB_some h17
  obtain ⟨rfl, h19⟩ := endL_some h18
  rw [F38_7_eq] at h19
  exact execK_runs hD.typed Syn_zero Syn_mixed hJ X38_7 (T38 7).1 (envOf (T38 7).2 _) S K (chk_of (by kernel_rfl) (by kernel_rfl)) h19
noncomputable def J38 (D : Disp) (k : Nat) : Disp := Nat.rec (motive := fun _ => Disp) Disp.no (fun _ ih => Disp.add 0 (A38_0 D ih) <| Disp.add 7 (A38_7 D ih) <| Disp.no) k
theorem J38_ok {D : Disp} (hD : DOK SynP SynG D) : ∀ k, JOK SynP SynG Go.Proofs.Tryz.f38 T38 (J38 D k)
  | 0 => JOK.no
  | k + 1 => JOK.add (ltB_ok (by kernel_rfl)) (fun vals S K h => A38_0_ok hD (J38_ok hD k) h) <| JOK.add (ltB_ok (by kernel_rfl)) (fun vals S K h => A38_7_ok hD (J38_ok hD k) h) <| JOK.no
theorem E38_ok {D : Disp} (hD : DOK SynP SynG D) (k : Nat) {args : List AV} {S : St} {K : AV → St → Prop} (h : A38_0 D (J38 D k) args S K) : CallE SynP SynG 38 args S K := by
  have hr := A38_0_ok hD (J38_ok hD k) h
  have hl : args.length = 1 := by
    have h0 := h
    obtain ⟨a9001, r9002, rfl, h3⟩ := uncA_some h0
    obtain ⟨s9004, rfl, h5⟩ := scK_some h3
    obtain ⟨p0, rfl, h6⟩ := cP_some h5
    obtain ⟨rfl, h7⟩ := endL_some h6
    rfl
  refine callOK_of (fn := Go.Proofs.Tryz.f38) (c := (match Go.Proofs.Tryz.f38.body with | some c => c | none => .skip)) (by kernel_rfl) (by kernel_rfl) (by kernel_rfl) (by rw [hl]; kernel_rfl) (by kernel_rfl) ?_
  rw [hl]
  exact hr
noncomputable def plans39 (i : Nat) : Plan := []
noncomputable def T39 (p : Nat) : List Item × List Nat := bif Nat.beq p 0 then ([.code (match Go.Proofs.Tryz.f39.body with | some c => c | none => .skip)], [0, 1, 2]) else
  bif Nat.beq p 2 then (navs [.op, .op] [.code (match Go.Proofs.Tryz.f39.body with | some c => c | none => .skip)], [0, 1, 2, 7]) else
  ([], [])
noncomputable def F39_q4 (D J : Disp) (p0 : PV) (s1 : (List Nat)) (f2 : FV) (S308 : St) (v309 : AV) (K : AV → St → Prop) : Prop :=
 optK (evParts (evO SynG (fun t => (asc t [(Prod.mk 9 v309)]))) [(Prod.mk 0 (Operand.tmp 9))]) fun y310 =>
 optK (fillA (fun i => (Option.some (Prod.mk (i * (TypeInfo.size (GetElem.getElem (Tables.types (Program.toTables SynP)) 93 (Nat.le_of_ble_eq_true rfl)))) (TypeInfo.size (GetElem.getElem (Tables.types (Program.toTables SynP)) 93 (Nat.le_of_ble_eq_true rfl)))))) [(SV.ptr PV.nil)] y310) fun y311 =>
 let d312 : (Sum Nat Nat) := (Sum.inl 1);
 let S313 : St := (St.add S308 (AO.cells y311 Op2.sh));
 J 2 [(AV.one (V1.s (SV.ptr p0))), (AV.one (V1.s (SV.str s1))), (AV.one (V1.s (SV.fn f2))), (AV.one (V1.s (SV.sl (LV.mk (Bk.new (St.next S308)) 0 1 d312))))] S313 K
noncomputable def F39_q5 (D J : Disp) (S : St) (p0 : PV) (s1 : (List Nat)) (f2 : FV) (K : AV → St → Prop) : Prop :=
 FV.cs f2 fun y300 y301 y302 =>
 fnF y300 fun y303 =>
 optK (GetElem?.getElem? (Program.funcs SynP) y303) fun y304 =>
 ifK (zeroable SynP (Array.toList (Func.resultTypes y304)))
 (D y303 ((List.map ptrAV y301) ++ ([] ++ (List.map ptrAV y302))) S fun v307 S308 =>
 shapeK SynP (Array.toList (Func.resultTypes y304)) v307 fun v309 =>
 F39_q4 D J p0 s1 f2 S308 v309 K)
 (D y303 ((List.map ptrAV y301) ++ ([] ++ (List.map ptrAV y302))) S fun v305 S306 =>
 False)
noncomputable def F39_0 (D J : Disp) (p0 : PV) (s1 : (List Nat)) (f2 : FV) (S : St) (K : AV → St → Prop) : Prop :=
 F39_q5 D J S p0 s1 f2 K
noncomputable def X39_0 : X := (.op (.op (.jmp 2 [0, 1, 2, 7])))
theorem F39_0_eq (D J : Disp) (p0 : PV) (s1 : (List Nat)) (f2 : FV) (S : St) (K : AV → St → Prop) : F39_0 D J p0 s1 f2 S K = execK SynP SynG Go.Proofs.Tryz.f39 (typed SynP D) J plans39 X39_0 (T39 0).1 (envOf (T39 0).2 [(AV.one (V1.s (SV.ptr p0))), (AV.one (V1.s (SV.str s1))), (AV.one (V1.s (SV.fn f2)))]) S K := by kernel_rfl
noncomputable def F39_q6 (D J : Disp) (p0 : PV) (s1 : (List Nat)) (f2 : FV) (l7 : LV) (S313 : St) (v314 : AV) (K : AV → St → Prop) : Prop :=
 optK (evParts (evO SynG (fun t => (asc t [(Prod.mk 15 v314)]))) [(Prod.mk 0 (Operand.tmp 15))]) fun y315 =>
 optK (fillA (fun i => (Option.some (Prod.mk (i * (TypeInfo.size (GetElem.getElem (Tables.types (Program.toTables SynP)) 93 (Nat.le_of_ble_eq_true rfl)))) (TypeInfo.size (GetElem.getElem (Tables.types (Program.toTables SynP)) 93 (Nat.le_of_ble_eq_true rfl)))))) [(SV.ptr PV.nil)] y315) fun y316 =>
 let d317 : (Sum Nat Nat) := (Sum.inl 1);
 let S318 : St := (St.add S313 (AO.cells y316 Op2.sh));
 St.src S318 1 (LV.mk (Bk.new (St.next S313)) 0 1 d317) fun y319 n320 =>
 St.app S318 93 1 8 l7 y319 n320 fun y321 S322 =>
 J 2 [(AV.one (V1.s (SV.ptr p0))), (AV.one (V1.s (SV.str s1))), (AV.one (V1.s (SV.fn f2))), (AV.one (V1.s (SV.sl y321)))] S322 K
noncomputable def F39_q7 (D J : Disp) (p0 : PV) (s1 : (List Nat)) (f2 : FV) (l7 : LV) (S301 : St) (K : AV → St → Prop) : Prop :=
 FV.cs f2 fun y305 y306 y307 =>
 fnF y305 fun y308 =>
 optK (GetElem?.getElem? (Program.funcs SynP) y308) fun y309 =>
 ifK (zeroable SynP (Array.toList (Func.resultTypes y309)))
 (D y308 ((List.map ptrAV y306) ++ ([] ++ (List.map ptrAV y307))) S301 fun v312 S313 =>
 shapeK SynP (Array.toList (Func.resultTypes y309)) v312 fun v314 =>
 F39_q6 D J p0 s1 f2 l7 S313 v314 K)
 (D y308 ((List.map ptrAV y306) ++ ([] ++ (List.map ptrAV y307))) S301 fun v310 S311 =>
 False)
noncomputable def F39_2 (D J : Disp) (p0 : PV) (s1 : (List Nat)) (f2 : FV) (l7 : LV) (S : St) (K : AV → St → Prop) : Prop :=
 D 32 [(AV.one (V1.s (SV.ptr p0))), (AV.one (V1.s (SV.str [44])))] S fun v300 S301 =>
 scK v300 fun v303 =>
 SV.cB v303 fun y304 =>
 ifK y304
 (F39_q7 D J p0 s1 f2 l7 S301 K)
 (D 29 [(AV.one (V1.s (SV.ptr p0))), (AV.one (V1.s (SV.str s1)))] S301 fun v331 S332 =>
 avT v331 fun y334 =>
 endL y334 (K ((AV.one (V1.s (SV.sl l7)))) S332))
noncomputable def X39_2 : X := (.op (.br (.op (.jmp 2 [0, 1, 2, 7])) (.op (.op .ret))))
theorem F39_2_eq (D J : Disp) (p0 : PV) (s1 : (List Nat)) (f2 : FV) (l7 : LV) (S : St) (K : AV → St → Prop) : F39_2 D J p0 s1 f2 l7 S K = execK SynP SynG Go.Proofs.Tryz.f39 (typed SynP D) J plans39 X39_2 (T39 2).1 (envOf (T39 2).2 [(AV.one (V1.s (SV.ptr p0))), (AV.one (V1.s (SV.str s1))), (AV.one (V1.s (SV.fn f2))), (AV.one (V1.s (SV.sl l7)))]) S K := by kernel_rfl
noncomputable abbrev A39_0 (D J : Disp) (vals : List AV) (S : St) (K : AV → St → Prop) : Prop :=
  uncA vals fun a9001 r9002 => scK a9001 fun s9004 => SV.cP s9004 fun p0 => uncA r9002 fun a9007 r9008 => scK a9007 fun s9010 => SV.cS s9010 fun s1 => uncA r9008 fun a9013 r9014 => scK a9013 fun s9016 => SV.cF s9016 fun f2 => endL r9014 <| F39_0 D J p0 s1 f2 S K
theorem A39_0_ok {D J : Disp} (hD : DOK SynP SynG D) (hJ : JOK SynP SynG Go.Proofs.Tryz.f39 T39 J) {vals : List AV} {S : St} {K : AV → St → Prop} (h0 : A39_0 D J vals S K) : Runs SynP SynG Go.Proofs.Tryz.f39 (T39 0).1 (envOf (T39 0).2 vals) S K := by
  obtain ⟨a9001, r9002, rfl, h3⟩ := uncA_some h0
  obtain ⟨s9004, rfl, h5⟩ := scK_some h3
  obtain ⟨p0, rfl, h6⟩ := cP_some h5
  obtain ⟨a9007, r9008, rfl, h9⟩ := uncA_some h6
  obtain ⟨s9010, rfl, h11⟩ := scK_some h9
  obtain ⟨s1, rfl, h12⟩ := cS_some h11
  obtain ⟨a9013, r9014, rfl, h15⟩ := uncA_some h12
  obtain ⟨s9016, rfl, h17⟩ := scK_some h15
  obtain ⟨f2, rfl, h18⟩ := cF_some h17
  obtain ⟨rfl, h19⟩ := endL_some h18
  rw [F39_0_eq] at h19
  exact execK_runs hD.typed Syn_zero Syn_mixed hJ X39_0 (T39 0).1 (envOf (T39 0).2 _) S K (chk_of (by kernel_rfl) (by kernel_rfl)) h19
noncomputable abbrev A39_2 (D J : Disp) (vals : List AV) (S : St) (K : AV → St → Prop) : Prop :=
  uncA vals fun a9001 r9002 => scK a9001 fun s9004 => SV.cP s9004 fun p0 => uncA r9002 fun a9007 r9008 => scK a9007 fun s9010 => SV.cS s9010 fun s1 => uncA r9008 fun a9013 r9014 => scK a9013 fun s9016 => SV.cF s9016 fun f2 => uncA r9014 fun a9019 r9020 => scK a9019 fun s9022 => SV.cL s9022 fun l7 => endL r9020 <| F39_2 D J p0 s1 f2 l7 S K
theorem A39_2_ok {D J : Disp} (hD : DOK SynP SynG D) (hJ : JOK SynP SynG Go.Proofs.Tryz.f39 T39 J) {vals : List AV} {S : St} {K : AV → St → Prop} (h0 : A39_2 D J vals S K) : Runs SynP SynG Go.Proofs.Tryz.f39 (T39 2).1 (envOf (T39 2).2 vals) S K := by
  obtain ⟨a9001, r9002, rfl, h3⟩ := uncA_some h0
  obtain ⟨s9004, rfl, h5⟩ := scK_some h3
  obtain ⟨p0, rfl, h6⟩ := cP_some h5
  obtain ⟨a9007, r9008, rfl, h9⟩ := uncA_some h6
  obtain ⟨s9010, rfl, h11⟩ := scK_some h9
  obtain ⟨s1, rfl, h12⟩ := cS_some h11
  obtain ⟨a9013, r9014, rfl, h15⟩ := uncA_some h12
  obtain ⟨s9016, rfl, h17⟩ := scK_some h15
  obtain ⟨f2, rfl, h18⟩ := cF_some h17
  obtain ⟨a9019, r9020, rfl, h21⟩ := uncA_some h18
  obtain ⟨s9022, rfl, h23⟩ := scK_some h21
  obtain ⟨l7, rfl, h24⟩ := cL_some h23
  obtain ⟨rfl, h25⟩ := endL_some h24
  rw [F39_2_eq] at h25
  exact execK_runs hD.typed Syn_zero Syn_mixed hJ X39_2 (T39 2).1 (envOf (T39 2).2 _) S K (chk_of (by kernel_rfl) (by kernel_rfl)) h25
noncomputable def J39 (D : Disp) (k : Nat) : Disp := Nat.rec (motive := fun _ => Disp) Disp.no (fun _ ih => Disp.add 0 (A39_0 D ih) <| Disp.add 2 (A39_2 D ih) <| Disp.no) k
theorem J39_ok {D : Disp} (hD : DOK SynP SynG D) : ∀ k, JOK SynP SynG Go.Proofs.Tryz.f39 T39 (J39 D k)
  | 0 => JOK.no
  | k + 1 => JOK.add (ltB_ok (by kernel_rfl)) (fun vals S K h => A39_0_ok hD (J39_ok hD k) h) <| JOK.add (ltB_ok (by kernel_rfl)) (fun vals S K h => A39_2_ok hD (J39_ok hD k) h) <| JOK.no
theorem E39_ok {D : Disp} (hD : DOK SynP SynG D) (k : Nat) {args : List AV} {S : St} {K : AV → St → Prop} (h : A39_0 D (J39 D k) args S K) : CallE SynP SynG 39 args S K := by
  have hr := A39_0_ok hD (J39_ok hD k) h
  have hl : args.length = 3 := by
    have h0 := h
    obtain ⟨a9001, r9002, rfl, h3⟩ := uncA_some h0
    obtain ⟨s9004, rfl, h5⟩ := scK_some h3
    obtain ⟨p0, rfl, h6⟩ := cP_some h5
    obtain ⟨a9007, r9008, rfl, h9⟩ := uncA_some h6
    obtain ⟨s9010, rfl, h11⟩ := scK_some h9
    obtain ⟨s1, rfl, h12⟩ := cS_some h11
    obtain ⟨a9013, r9014, rfl, h15⟩ := uncA_some h12
    obtain ⟨s9016, rfl, h17⟩ := scK_some h15
    obtain ⟨f2, rfl, h18⟩ := cF_some h17
    obtain ⟨rfl, h19⟩ := endL_some h18
    rfl
  refine callOK_of (fn := Go.Proofs.Tryz.f39) (c := (match Go.Proofs.Tryz.f39.body with | some c => c | none => .skip)) (by kernel_rfl) (by kernel_rfl) (by kernel_rfl) (by rw [hl]; kernel_rfl) (by kernel_rfl) ?_
  rw [hl]
  exact hr
noncomputable def plans40 (i : Nat) : Plan := []
noncomputable def T40 (p : Nat) : List Item × List Nat := bif Nat.beq p 0 then ([.code (match Go.Proofs.Tryz.f40.body with | some c => c | none => .skip)], [0]) else
  ([], [])
noncomputable def F40_q0 (D J : Disp) (y308 : PV) (y323 : PV) (S329 : St) (y336 : PV) (K : AV → St → Prop) : Prop :=
 let d337 : (Sum Nat Nat) := (Sum.inl 3);
 let S338 : St := (St.add S329 (AO.cells [(SV.ptr y308), (SV.ptr y323), (SV.ptr y336)] Op2.sh));
 let S339 : St := (St.add S338 (AO.cells [(SV.str [99, 111, 110, 100]), (SV.str []), (SV.str []), (SV.int IntKind.i64 (0 : Int)), (SV.int IntKind.u64 (0 : Int)), (SV.bool Bool.false), (SV.sl (LV.mk (Bk.new (St.next S329)) 0 3 d337))] (Op2.ty 118)));
 K ((AV.one (V1.s (SV.ptr (PV.mk (Bk.new (St.next S338)) 0))))) S339
noncomputable def F40_q1 (D J : Disp) (p0 : PV) (y308 : PV) (S310 : St) (c314 : Bool) (K : AV → St → Prop) : Prop :=
 ifK c314
 (K ((AV.one (V1.s (SV.ptr y308)))) S310)
 (D 63 [(AV.one (V1.s (SV.ptr p0)))] S310 fun v315 S316 =>
 scK v315 fun v318 =>
 SV.cP v318 fun y323 =>
 D 29 [(AV.one (V1.s (SV.ptr p0))), (AV.one (V1.s (SV.str [58])))] S316 fun v324 S325 =>
 avT v324 fun y327 =>
 endL y327 (D 40 [(AV.one (V1.s (SV.ptr p0)))] S325 fun v328 S329 =>
 scK v328 fun v331 =>
 SV.cP v331 fun y336 =>
 F40_q0 D J y308 y323 S329 y336 K))
noncomputable def F40_0 (D J : Disp) (p0 : PV) (S : St) (K : AV → St → Prop) : Prop :=
 D 62 [(AV.one (V1.s (SV.ptr p0))), (AV.one (V1.s (SV.int IntKind.i64 (0 : Int))))] S fun v300 S301 =>
 scK v300 fun v303 =>
 SV.cP v303 fun y308 =>
 D 32 [(AV.one (V1.s (SV.ptr p0))), (AV.one (V1.s (SV.str [63])))] S301 fun v309 S310 =>
 scK v309 fun v312 =>
 SV.cB v312 fun y313 =>
 let c314 : Bool := (Bool.not y313);
 F40_q1 D J p0 y308 S310 c314 K
noncomputable def X40_0 : X := (.op (.op (.op (.br (.op .ret) (.op (.op (.op .ret)))))))
theorem F40_0_eq (D J : Disp) (p0 : PV) (S : St) (K : AV → St → Prop) : F40_0 D J p0 S K = execK SynP SynG Go.Proofs.Tryz.f40 (typed SynP D) J plans40 X40_0 (T40 0).1 (envOf (T40 0).2 [(AV.one (V1.s (SV.ptr p0)))]) S K := by kernel_rfl
noncomputable abbrev A40_0 (D J : Disp) (vals : List AV) (S : St) (K : AV → St → Prop) : Prop :=
  uncA vals fun a9001 r9002 => scK a9001 fun s9004 => SV.cP s9004 fun p0 => endL r9002 <| F40_0 D J p0 S K
theorem A40_0_ok {D J : Disp} (hD : DOK SynP SynG D) (hJ : JOK SynP SynG Go.Proofs.Tryz.f40 T40 J) {vals : List AV} {S : St} {K : AV → St → Prop} (h0 : A40_0 D J vals S K) : Runs SynP SynG Go.Proofs.Tryz.f40 (T40 0).1 (envOf (T40 0).2 vals) S K := by
  obtain ⟨a9001, r9002, rfl, h3⟩ := uncA_some h0
  obtain ⟨s9004, rfl, h5⟩ := scK_some h3
  obtain ⟨p0, rfl, h6⟩ := cP_some h5
  obtain ⟨rfl, h7⟩ := endL_some h6
  rw [F40_0_eq] at h7
  exact execK_runs hD.typed Syn_zero Syn_mixed hJ X40_0 (T40 0).1 (envOf (T40 0).2 _) S K (chk_of (by kernel_rfl) (by kernel_rfl)) h7
noncomputable def J40 (D : Disp) (k : Nat) : Disp := Nat.rec (motive := fun _ => Disp) Disp.no (fun _ ih => Disp.add 0 (A40_0 D ih) <| Disp.no) k
theorem J40_ok {D : Disp} (hD : DOK SynP SynG D) : ∀ k, JOK SynP SynG Go.Proofs.Tryz.f40 T40 (J40 D k)
  | 0 => JOK.no
  | k + 1 => JOK.add (ltB_ok (by kernel_rfl)) (fun vals S K h => A40_0_ok hD (J40_ok hD k) h) <| JOK.no
theorem E40_ok {D : Disp} (hD : DOK SynP SynG D) (k : Nat) {args : List AV} {S : St} {K : AV → St → Prop} (h : A40_0 D (J40 D k) args S K) : CallE SynP SynG 40 args S K := by
  have hr := A40_0_ok hD (J40_ok hD k) h
  have hl : args.length = 1 := by
    have h0 := h
    obtain ⟨a9001, r9002, rfl, h3⟩ := uncA_some h0
    obtain ⟨s9004, rfl, h5⟩ := scK_some h3
    obtain ⟨p0, rfl, h6⟩ := cP_some h5
    obtain ⟨rfl, h7⟩ := endL_some h6
    rfl
  refine callOK_of (fn := Go.Proofs.Tryz.f40) (c := (match Go.Proofs.Tryz.f40.body with | some c => c | none => .skip)) (by kernel_rfl) (by kernel_rfl) (by kernel_rfl) (by rw [hl]; kernel_rfl) (by kernel_rfl) ?_
  rw [hl]
  exact hr
noncomputable def plans41 (i : Nat) : Plan := if Nat.beq i 0 then [(0, []), (1, [0]), (2, [1, 0]), (3, []), (4, [3]), (5, [4, 3]), (6, [2, 5, 4, 1, 3, 0])] else []
noncomputable def T41 (p : Nat) : List Item × List Nat := bif Nat.beq p 0 then ([.code (match Go.Proofs.Tryz.f41.body with | some c => c | none => .skip)], [0, 1]) else
  ([], [])
noncomputable def F41_q0 (D J : Disp) (S : St) (p0 : PV) (l1 : LV) (K : AV → St → Prop) : Prop :=
 PV.cs p0 fun b300 n301 =>
 let n302 : Nat := (n301 + 0);
 D 64 [(AV.one (V1.s (SV.sl l1))), (AV.one (V1.s (SV.str [32])))] S fun v303 S304 =>
 scK v303 fun v306 =>
 SV.cS v306 fun y310 =>
 req (Nat.blt (1 + (List.length y310)) 9223372036854775808) <|
 let s311 : (List Nat) := ([40] ++ y310);
 D 43 [(AV.one (V1.s (SV.ptr (PV.mk b300 n302)))), (AV.one (V1.s (SV.str s311)))] S304 fun v312 S313 =>
 K ((AV.tup [])) S313
noncomputable def F41_0 (D J : Disp) (p0 : PV) (l1 : LV) (S : St) (K : AV → St → Prop) : Prop :=
 F41_q0 D J S p0 l1 K
noncomputable def X41_0 : X := (.op .ret)
theorem F41_0_eq (D J : Disp) (p0 : PV) (l1 : LV) (S : St) (K : AV → St → Prop) : F41_0 D J p0 l1 S K = execK SynP SynG Go.Proofs.Tryz.f41 (typed SynP D) J plans41 X41_0 (T41 0).1 (envOf (T41 0).2 [(AV.one (V1.s (SV.ptr p0))), (AV.one (V1.s (SV.sl l1)))]) S K := by kernel_rfl
noncomputable abbrev A41_0 (D J : Disp) (vals : List AV) (S : St) (K : AV → St → Prop) : Prop :=
  uncA vals fun a9001 r9002 => scK a9001 fun s9004 => SV.cP s9004 fun p0 => uncA r9002 fun a9007 r9008 => scK a9007 fun s9010 => SV.cL s9010 fun l1 => endL r9008 <| F41_0 D J p0 l1 S K
theorem A41_0_ok {D J : Disp} (hD : DOK SynP SynG D) (hJ : JOK SynP SynG Go.Proofs.Tryz.f41 T41 J) {vals : List AV} {S : St} {K : AV → St → Prop} (h0 : A41_0 D J vals S K) : Runs SynP SynG Go.Proofs.Tryz.f41 (T41 0).1 (envOf (T41 0).2 vals) S K := by
  obtain ⟨a9001, r9002, rfl, h3⟩ := uncA_some h0
  obtain ⟨s9004, rfl, h5⟩ := scK_some h3
  obtain ⟨p0, rfl, h6⟩ := cP_some h5
  obtain ⟨a9007, r9008, rfl, h9⟩ := uncA_some h6
  obtain ⟨s9010, rfl, h11⟩ := scK_some h9
  obtain ⟨l1, rfl, h12⟩ := cL_some h11
  obtain ⟨rfl, h13⟩ := endL_some h12
  rw [F41_0_eq] at h13
  exact execK_runs hD.typed Syn_zero Syn_mixed hJ X41_0 (T41 0).1 (envOf (T41 0).2 _) S K (chk_of (by kernel_rfl) (by kernel_rfl)) h13
noncomputable def J41 (D : Disp) (k : Nat) : Disp := Nat.rec (motive := fun _ => Disp) Disp.no (fun _ ih => Disp.add 0 (A41_0 D ih) <| Disp.no) k
theorem J41_ok {D : Disp} (hD : DOK SynP SynG D) : ∀ k, JOK SynP SynG Go.Proofs.Tryz.f41 T41 (J41 D k)
  | 0 => JOK.no
  | k + 1 => JOK.add (ltB_ok (by kernel_rfl)) (fun vals S K h => A41_0_ok hD (J41_ok hD k) h) <| JOK.no
theorem E41_ok {D : Disp} (hD : DOK SynP SynG D) (k : Nat) {args : List AV} {S : St} {K : AV → St → Prop} (h : A41_0 D (J41 D k) args S K) : CallE SynP SynG 41 args S K := by
  have hr := A41_0_ok hD (J41_ok hD k) h
  have hl : args.length = 2 := by
    have h0 := h
    obtain ⟨a9001, r9002, rfl, h3⟩ := uncA_some h0
    obtain ⟨s9004, rfl, h5⟩ := scK_some h3
    obtain ⟨p0, rfl, h6⟩ := cP_some h5
    obtain ⟨a9007, r9008, rfl, h9⟩ := uncA_some h6
    obtain ⟨s9010, rfl, h11⟩ := scK_some h9
    obtain ⟨l1, rfl, h12⟩ := cL_some h11
    obtain ⟨rfl, h13⟩ := endL_some h12
    rfl
  refine callOK_of (fn := Go.Proofs.Tryz.f41) (c := (match Go.Proofs.Tryz.f41.body with | some c => c | none => .skip)) (by kernel_rfl) (by kernel_rfl) (by kernel_rfl) (by rw [hl]; kernel_rfl) (by kernel_rfl) ?_
  rw [hl]
  exact hr
noncomputable def plans42 (i : Nat) : Plan := if Nat.beq i 7 then [(0, []), (1, [0]), (2, [1, 0]), (3, []), (4, [3]), (5, [4, 3]), (6, [2, 5, 1, 4, 0, 3])] else if Nat.beq i 9 then [(0, []), (1, [0]), (2, [1, 0]), (3, []), (4, [3]), (8, []), (9, [8]), (12, []), (13, [12]), (5, [4, 3]), (6, [5, 4, 3]), (7, [6, 5, 4, 3]), (10, [7, 9, 6, 8, 5, 4, 3]), (11, [10, 7, 9, 6, 8, 5, 4, 3]), (14, [13, 5, 12, 4, 3]), (15, [11, 14, 10, 13, 5, 7, 9, 12, 4, 6, 8, 3]), (16, [15, 11, 14, 10, 13, 5, 7, 9, 12, 4, 6, 8, 3]), (17, [2, 16, 14, 1, 15, 13, 5, 0, 11, 12, 4, 10, 3, 7, 9, 6, 8])] else if Nat.beq i 5 then [(0, []), (1, [0]), (2, [1, 0]), (3, []), (4, [3]), (8, []), (9, [8]), (5, [4, 3]), (6, [5, 4, 3]), (7, [6, 5, 4, 3]), (10, [7, 9, 6, 8, 5, 4, 3]), (11, [10, 7, 9, 6, 8, 5, 4, 3]), (12, [2, 11, 5, 1, 10, 4, 0, 7, 9, 3, 6, 8])] else []
noncomputable def T42 (p : Nat) : List Item × List Nat := bif Nat.beq p 0 then ([.code (match Go.Proofs.Tryz.f42.body with | some c => c | none => .skip)], [0, 1, 2]) else
  bif Nat.beq p 1 then (navs [.op] [.code (match Go.Proofs.Tryz.f42.body with | some c => c | none => .skip)], [0, 2, 8, 9, 10]) else
  bif Nat.beq p 5 then (navs [.op, .op, .th, .op, .op] [.code (match Go.Proofs.Tryz.f42.body with | some c => c | none => .skip)], [0, 2, 7, 8, 9, 10, 19]) else
  bif Nat.beq p 7 then (navs [.op, .op, .th, .op, .op, .th, .op] [.code (match Go.Proofs.Tryz.f42.body with | some c => c | none => .skip)], [0, 2, 7, 8, 9, 10]) else
  bif Nat.beq p 10 then (navs [.op, .op, .th, .op, .op, .th, .op, .op, .th, .op] [.code (match Go.Proofs.Tryz.f42.body with | some c => c | none => .skip)], [0, 2, 8, 9, 10]) else
  ([], [])
noncomputable def F42_0 (D J : Disp) (p0 : PV) (l1 : LV) (c2 : Bool) (S : St) (K : AV → St → Prop) : Prop :=
 let x300 : Int := (Int.ofNat (LV.len l1));
 J 1 [(AV.one (V1.s (SV.ptr p0))), (AV.one (V1.s (SV.bool c2))), (AV.one (V1.s (SV.sl l1))), (AV.one (V1.s (SV.int IntKind.i64 x300))), (AV.one (V1.s (SV.int IntKind.i64 (0 : Int))))] S K
noncomputable def X42_0 : X := (.op (.jmp 1 [0, 2, 8, 9, 10]))
theorem F42_0_eq (D J : Disp) (p0 : PV) (l1 : LV) (c2 : Bool) (S : St) (K : AV → St → Prop) : F42_0 D J p0 l1 c2 S K = execK SynP SynG Go.Proofs.Tryz.f42 (typed SynP D) J plans42 X42_0 (T42 0).1 (envOf (T42 0).2 [(AV.one (V1.s (SV.ptr p0))), (AV.one (V1.s (SV.sl l1))), (AV.one (V1.s (SV.bool c2)))]) S K := by kernel_rfl
noncomputable def F42_q11 (D J : Disp) (S : St) (p0 : PV) (c2 : Bool) (l8 : LV) (x9 : Int) (x10 : Int) (S338 : St) (c339 : Bool) (K : AV → St → Prop) : Prop :=
 ifK c339
 (J 5 [(AV.one (V1.s (SV.ptr p0))), (AV.one (V1.s (SV.bool c2))), (AV.one (V1.s (SV.ptr (PV.mk (Bk.new (St.next S)) 0)))), (AV.one (V1.s (SV.sl l8))), (AV.one (V1.s (SV.int IntKind.i64 x9))), (AV.one (V1.s (SV.int IntKind.i64 x10))), (AV.one (V1.s (SV.bool Bool.true)))] S338 K)
 (J 5 [(AV.one (V1.s (SV.ptr p0))), (AV.one (V1.s (SV.bool c2))), (AV.one (V1.s (SV.ptr (PV.mk (Bk.new (St.next S)) 0)))), (AV.one (V1.s (SV.sl l8))), (AV.one (V1.s (SV.int IntKind.i64 x9))), (AV.one (V1.s (SV.int IntKind.i64 x10))), (AV.one (V1.s (SV.bool c2)))] S338 K)
noncomputable def F42_q12 (D J : Disp) (S : St) (p0 : PV) (c2 : Bool) (l8 : LV) (x9 : Int) (x10 : Int) (b301 : Bk) (n305 : Nat) (K : AV → St → Prop) : Prop :=
 St.at S b301 n305 fun y306 =>
 uncK y306 fun v307 y308 =>
 SV.cS v307 fun y313 =>
 uncK y308 fun v314 y315 =>
 SV.cI IntKind.i64 v314 fun x319 =>
 uncK y315 fun v320 y321 =>
 SV.cS v320 fun y326 =>
 uncK y321 fun v327 y328 =>
 SV.cI IntKind.u64 v327 fun x332 =>
 uncK y328 fun v333 y334 =>
 SV.cB v333 fun y336 =>
 let S337 : St := (St.add S (AO.cells [(SV.str []), (SV.int IntKind.i64 (0 : Int)), (SV.str []), (SV.int IntKind.u64 (0 : Int)), (SV.bool Bool.false)] (Op2.ty 48)));
 St.wr S337 (Bk.new (St.next S)) 0 [(SV.str y313), (SV.int IntKind.i64 x319), (SV.str y326), (SV.int IntKind.u64 x332), (SV.bool y336)] fun S338 =>
 let c339 : Bool := (ilt (0 : Int) x10);
 F42_q11 D J S p0 c2 l8 x9 x10 S338 c339 K
noncomputable def F42_1 (D J : Disp) (p0 : PV) (c2 : Bool) (l8 : LV) (x9 : Int) (x10 : Int) (S : St) (K : AV → St → Prop) : Prop :=
 let c300 : Bool := (ilt x10 x9);
 ifK c300
 (LV.cs l8 fun b301 n302 n303 y304 =>
 req (Bool.and (ile (0 : Int) x10) (ilt x10 (Int.ofNat n303))) <|
 let n305 : Nat := (n302 + ((Int.toNat x10) * 5));
 F42_q12 D J S p0 c2 l8 x9 x10 b301 n305 K)
 (K ((AV.tup [])) S)
noncomputable def X42_1 : X := (.op (.br (.op (.op (.jmp 5 [0, 2, 7, 8, 9, 10, 19]))) .ret))
theorem F42_1_eq (D J : Disp) (p0 : PV) (c2 : Bool) (l8 : LV) (x9 : Int) (x10 : Int) (S : St) (K : AV → St → Prop) : F42_1 D J p0 c2 l8 x9 x10 S K = execK SynP SynG Go.Proofs.Tryz.f42 (typed SynP D) J plans42 X42_1 (T42 1).1 (envOf (T42 1).2 [(AV.one (V1.s (SV.ptr p0))), (AV.one (V1.s (SV.bool c2))), (AV.one (V1.s (SV.sl l8))), (AV.one (V1.s (SV.int IntKind.i64 x9))), (AV.one (V1.s (SV.int IntKind.i64 x10)))]) S K := by kernel_rfl
noncomputable def F42_5 (D J : Disp) (p0 : PV) (c2 : Bool) (p7 : PV) (l8 : LV) (x9 : Int) (x10 : Int) (c19 : Bool) (S : St) (K : AV → St → Prop) : Prop :=
 ifK c19
 (PV.cs p0 fun b300 n301 =>
 let n302 : Nat := (n301 + 0);
 D 43 [(AV.one (V1.s (SV.ptr (PV.mk b300 n302)))), (AV.one (V1.s (SV.str [32])))] S fun v303 S304 =>
 J 7 [(AV.one (V1.s (SV.ptr p0))), (AV.one (V1.s (SV.bool c2))), (AV.one (V1.s (SV.ptr p7))), (AV.one (V1.s (SV.sl l8))), (AV.one (V1.s (SV.int IntKind.i64 x9))), (AV.one (V1.s (SV.int IntKind.i64 x10)))] S304 K)
 (J 7 [(AV.one (V1.s (SV.ptr p0))), (AV.one (V1.s (SV.bool c2))), (AV.one (V1.s (SV.ptr p7))), (AV.one (V1.s (SV.sl l8))), (AV.one (V1.s (SV.int IntKind.i64 x9))), (AV.one (V1.s (SV.int IntKind.i64 x10)))] S K)
noncomputable def X42_5 : X := (.br (.op (.jmp 7 [0, 2, 7, 8, 9, 10])) (.jmp 7 [0, 2, 7, 8, 9, 10]))
theorem F42_5_eq (D J : Disp) (p0 : PV) (c2 : Bool) (p7 : PV) (l8 : LV) (x9 : Int) (x10 : Int) (c19 : Bool) (S : St) (K : AV → St → Prop) : F42_5 D J p0 c2 p7 l8 x9 x10 c19 S K = execK SynP SynG Go.Proofs.Tryz.f42 (typed SynP D) J plans42 X42_5 (T42 5).1 (envOf (T42 5).2 [(AV.one (V1.s (SV.ptr p0))), (AV.one (V1.s (SV.bool c2))), (AV.one (V1.s (SV.ptr p7))), (AV.one (V1.s (SV.sl l8))), (AV.one (V1.s (SV.int IntKind.i64 x9))), (AV.one (V1.s (SV.int IntKind.i64 x10))), (AV.one (V1.s (SV.bool c19)))]) S K := by kernel_rfl
noncomputable def F42_q13 (D J : Disp) (S : St) (p0 : PV) (c2 : Bool) (l8 : LV) (x9 : Int) (x10 : Int) (b312 : Bk) (n314 : Nat) (y325 : (List Nat)) (x331 : Int) (K : AV → St → Prop) : Prop :=
 D 44 [(AV.one (V1.agg [(SV.str y325), (SV.int IntKind.i64 x331)]))] S fun v332 S333 =>
 scK v332 fun v335 =>
 SV.cS v335 fun y339 =>
 D 43 [(AV.one (V1.s (SV.ptr (PV.mk b312 n314)))), (AV.one (V1.s (SV.str y339)))] S333 fun v340 S341 =>
 J 10 [(AV.one (V1.s (SV.ptr p0))), (AV.one (V1.s (SV.bool c2))), (AV.one (V1.s (SV.sl l8))), (AV.one (V1.s (SV.int IntKind.i64 x9))), (AV.one (V1.s (SV.int IntKind.i64 x10)))] S341 K
noncomputable def F42_q14 (D J : Disp) (p0 : PV) (c2 : Bool) (l8 : LV) (x9 : Int) (x10 : Int) (b357 : Bk) (n359 : Nat) (s424 : (List Nat)) (S426 : St) (y432 : (List Nat)) (K : AV → St → Prop) : Prop :=
 req (Nat.blt ((List.length s424) + (List.length y432)) 9223372036854775808) <|
 let s441 : (List Nat) := (s424 ++ y432);
 req (Nat.blt ((List.length s441) + 1) 9223372036854775808) <|
 let s442 : (List Nat) := (s441 ++ [41]);
 D 43 [(AV.one (V1.s (SV.ptr (PV.mk b357 n359)))), (AV.one (V1.s (SV.str s442)))] S426 fun v443 S444 =>
 J 10 [(AV.one (V1.s (SV.ptr p0))), (AV.one (V1.s (SV.bool c2))), (AV.one (V1.s (SV.sl l8))), (AV.one (V1.s (SV.int IntKind.i64 x9))), (AV.one (V1.s (SV.int IntKind.i64 x10)))] S444 K
noncomputable def F42_q15 (D J : Disp) (p0 : PV) (c2 : Bool) (l8 : LV) (x9 : Int) (x10 : Int) (b357 : Bk) (n359 : Nat) (b377 : Bk) (n379 : Nat) (y387 : (List Nat)) (x397 : Int) (S399 : St) (s423 : (List Nat)) (K : AV → St → Prop) : Prop :=
 req (Nat.blt ((List.length s423) + 1) 9223372036854775808) <|
 let s424 : (List Nat) := (s423 ++ [32]);
 D 45 [(AV.one (V1.s (SV.int IntKind.u64 x397)))] S399 fun v425 S426 =>
 scK v425 fun v428 =>
 SV.cS v428 fun y432 =>
 St.at S426 b377 n379 fun y433 =>
 uncK y433 fun v434 y435 =>
 SV.cS v434 fun y440 =>
 req (sameAV (AV.one (V1.s (SV.str y440))) (AV.one (V1.s (SV.str y387)))) <|
 F42_q14 D J p0 c2 l8 x9 x10 b357 n359 s424 S426 y432 K
noncomputable def F42_q16 (D J : Disp) (S : St) (p0 : PV) (c2 : Bool) (l8 : LV) (x9 : Int) (x10 : Int) (b357 : Bk) (n359 : Nat) (y370 : (List Nat)) (x376 : Int) (b377 : Bk) (n379 : Nat) (y387 : (List Nat)) (b388 : Bk) (n390 : Nat) (x397 : Int) (K : AV → St → Prop) : Prop :=
 D 44 [(AV.one (V1.agg [(SV.str y370), (SV.int IntKind.i64 x376)]))] S fun v398 S399 =>
 scK v398 fun v401 =>
 SV.cS v401 fun y405 =>
 St.at S399 b388 n390 fun y406 =>
 uncK y406 fun v407 y408 =>
 SV.cI IntKind.u64 v407 fun x412 =>
 req (sameAV (AV.one (V1.s (SV.int IntKind.u64 x412))) (AV.one (V1.s (SV.int IntKind.u64 x397)))) <|
 St.at S399 b377 n379 fun y413 =>
 uncK y413 fun v414 y415 =>
 SV.cS v414 fun y420 =>
 req (sameAV (AV.one (V1.s (SV.str y420))) (AV.one (V1.s (SV.str y387)))) <|
 req (Nat.blt (1 + (List.length y405)) 9223372036854775808) <|
 let s421 : (List Nat) := ([40] ++ y405);
 req (Nat.blt ((List.length s421) + 1) 9223372036854775808) <|
 let s422 : (List Nat) := (s421 ++ [32]);
 req (Nat.blt ((List.length s422) + (List.length y387)) 9223372036854775808) <|
 let s423 : (List Nat) := (s422 ++ y387);
 F42_q15 D J p0 c2 l8 x9 x10 b357 n359 b377 n379 y387 x397 S399 s423 K
noncomputable def F42_q17 (D J : Disp) (S : St) (p0 : PV) (c2 : Bool) (p7 : PV) (l8 : LV) (x9 : Int) (x10 : Int) (b357 : Bk) (n359 : Nat) (b360 : Bk) (n362 : Nat) (K : AV → St → Prop) : Prop :=
 St.at S b360 n362 fun y363 =>
 uncK y363 fun v364 y365 =>
 SV.cS v364 fun y370 =>
 uncK y365 fun v371 y372 =>
 SV.cI IntKind.i64 v371 fun x376 =>
 PV.cs p7 fun b377 n378 =>
 let n379 : Nat := (n378 + 2);
 St.at S b377 n379 fun y380 =>
 uncK y380 fun v381 y382 =>
 SV.cS v381 fun y387 =>
 PV.cs p7 fun b388 n389 =>
 let n390 : Nat := (n389 + 3);
 St.at S b388 n390 fun y391 =>
 uncK y391 fun v392 y393 =>
 SV.cI IntKind.u64 v392 fun x397 =>
 F42_q16 D J S p0 c2 l8 x9 x10 b357 n359 y370 x376 b377 n379 y387 b388 n390 x397 K
noncomputable def F42_q18 (D J : Disp) (p0 : PV) (c2 : Bool) (l8 : LV) (x9 : Int) (x10 : Int) (b488 : Bk) (n490 : Nat) (y518 : (List Nat)) (S520 : St) (s536 : (List Nat)) (K : AV → St → Prop) : Prop :=
 req (Nat.blt ((List.length s536) + (List.length y518)) 9223372036854775808) <|
 let s537 : (List Nat) := (s536 ++ y518);
 req (Nat.blt ((List.length s537) + 1) 9223372036854775808) <|
 let s538 : (List Nat) := (s537 ++ [41]);
 D 43 [(AV.one (V1.s (SV.ptr (PV.mk b488 n490)))), (AV.one (V1.s (SV.str s538)))] S520 fun v539 S540 =>
 J 10 [(AV.one (V1.s (SV.ptr p0))), (AV.one (V1.s (SV.bool c2))), (AV.one (V1.s (SV.sl l8))), (AV.one (V1.s (SV.int IntKind.i64 x9))), (AV.one (V1.s (SV.int IntKind.i64 x10)))] S540 K
noncomputable def F42_q19 (D J : Disp) (S : St) (p0 : PV) (c2 : Bool) (l8 : LV) (x9 : Int) (x10 : Int) (b488 : Bk) (n490 : Nat) (y501 : (List Nat)) (x507 : Int) (b508 : Bk) (n510 : Nat) (y518 : (List Nat)) (K : AV → St → Prop) : Prop :=
 D 44 [(AV.one (V1.agg [(SV.str y501), (SV.int IntKind.i64 x507)]))] S fun v519 S520 =>
 scK v519 fun v522 =>
 SV.cS v522 fun y526 =>
 St.at S520 b508 n510 fun y527 =>
 uncK y527 fun v528 y529 =>
 SV.cS v528 fun y534 =>
 req (sameAV (AV.one (V1.s (SV.str y534))) (AV.one (V1.s (SV.str y518)))) <|
 req (Nat.blt (1 + (List.length y526)) 9223372036854775808) <|
 let s535 : (List Nat) := ([40] ++ y526);
 req (Nat.blt ((List.length s535) + 1) 9223372036854775808) <|
 let s536 : (List Nat) := (s535 ++ [32]);
 F42_q18 D J p0 c2 l8 x9 x10 b488 n490 y518 S520 s536 K
noncomputable def F42_q20 (D J : Disp) (S : St) (p0 : PV) (c2 : Bool) (p7 : PV) (l8 : LV) (x9 : Int) (x10 : Int) (b488 : Bk) (n489 : Nat) (K : AV → St → Prop) : Prop :=
 let n490 : Nat := (n489 + 0);
 PV.cs p7 fun b491 n492 =>
 let n493 : Nat := (n492 + 0);
 St.at S b491 n493 fun y494 =>
 uncK y494 fun v495 y496 =>
 SV.cS v495 fun y501 =>
 uncK y496 fun v502 y503 =>
 SV.cI IntKind.i64 v502 fun x507 =>
 PV.cs p7 fun b508 n509 =>
 let n510 : Nat := (n509 + 2);
 St.at S b508 n510 fun y511 =>
 uncK y511 fun v512 y513 =>
 SV.cS v512 fun y518 =>
 F42_q19 D J S p0 c2 l8 x9 x10 b488 n490 y501 x507 b508 n510 y518 K
noncomputable def F42_q21 (D J : Disp) (S : St) (p0 : PV) (c2 : Bool) (p7 : PV) (l8 : LV) (x9 : Int) (x10 : Int) (c311 : Bool) (K : AV → St → Prop) : Prop :=
 ifK c311
 (PV.cs p0 fun b312 n313 =>
 let n314 : Nat := (n313 + 0);
 PV.cs p7 fun b315 n316 =>
 let n317 : Nat := (n316 + 0);
 St.at S b315 n317 fun y318 =>
 uncK y318 fun v319 y320 =>
 SV.cS v319 fun y325 =>
 uncK y320 fun v326 y327 =>
 SV.cI IntKind.i64 v326 fun x331 =>
 F42_q13 D J S p0 c2 l8 x9 x10 b312 n314 y325 x331 K)
 (ifK c2
 (PV.cs p0 fun b357 n358 =>
 let n359 : Nat := (n358 + 0);
 PV.cs p7 fun b360 n361 =>
 let n362 : Nat := (n361 + 0);
 F42_q17 D J S p0 c2 p7 l8 x9 x10 b357 n359 b360 n362 K)
 (PV.cs p0 fun b488 n489 =>
 F42_q20 D J S p0 c2 p7 l8 x9 x10 b488 n489 K))
noncomputable def F42_7 (D J : Disp) (p0 : PV) (c2 : Bool) (p7 : PV) (l8 : LV) (x9 : Int) (x10 : Int) (S : St) (K : AV → St → Prop) : Prop :=
 PV.cs p7 fun b300 n301 =>
 let n302 : Nat := (n301 + 2);
 St.at S b300 n302 fun y303 =>
 uncK y303 fun v304 y305 =>
 SV.cS v304 fun y310 =>
 let c311 : Bool := (leq y310 []);
 F42_q21 D J S p0 c2 p7 l8 x9 x10 c311 K
noncomputable def X42_7 : X := (.op (.br (.op (.jmp 10 [0, 2, 8, 9, 10])) (.op (.br (.op (.jmp 10 [0, 2, 8, 9, 10])) (.op (.jmp 10 [0, 2, 8, 9, 10]))))))
theorem F42_7_eq (D J : Disp) (p0 : PV) (c2 : Bool) (p7 : PV) (l8 : LV) (x9 : Int) (x10 : Int) (S : St) (K : AV → St → Prop) : F42_7 D J p0 c2 p7 l8 x9 x10 S K = execK SynP SynG Go.Proofs.Tryz.f42 (typed SynP D) J plans42 X42_7 (T42 7).1 (envOf (T42 7).2 [(AV.one (V1.s (SV.ptr p0))), (AV.one (V1.s (SV.bool c2))), (AV.one (V1.s (SV.ptr p7))), (AV.one (V1.s (SV.sl l8))), (AV.one (V1.s (SV.int IntKind.i64 x9))), (AV.one (V1.s (SV.int IntKind.i64 x10)))]) S K := by kernel_rfl
noncomputable def F42_10 (D J : Disp) (p0 : PV) (c2 : Bool) (l8 : LV) (x9 : Int) (x10 : Int) (S : St) (K : AV → St → Prop) : Prop :=
 let x300 : Int := (iwrap IntKind.i64 (x10 + (1 : Int)));
 J 1 [(AV.one (V1.s (SV.ptr p0))), (AV.one (V1.s (SV.bool c2))), (AV.one (V1.s (SV.sl l8))), (AV.one (V1.s (SV.int IntKind.i64 x9))), (AV.one (V1.s (SV.int IntKind.i64 x300)))] S K
noncomputable def X42_10 : X := (.op (.jmp 1 [0, 2, 8, 9, 10]))
theorem F42_10_eq (D J : Disp) (p0 : PV) (c2 : Bool) (l8 : LV) (x9 : Int) (x10 : Int) (S : St) (K : AV → St → Prop) : F42_10 D J p0 c2 l8 x9 x10 S K = execK SynP SynG Go.Proofs.Tryz.f42 (typed SynP D) J plans42 X42_10 (T42 10).1 (envOf (T42 10).2 [(AV.one (V1.s (SV.ptr p0))), (AV.one (V1.s (SV.bool c2))), (AV.one (V1.s (SV.sl l8))), (AV.one (V1.s (SV.int IntKind.i64 x9))), (AV.one (V1.s (SV.int IntKind.i64 x10)))]) S K := by kernel_rfl
noncomputable abbrev A42_0 (D J : Disp) (vals : List AV) (S : St) (K : AV → St → Prop) : Prop :=
  uncA vals fun a9001 r9002 => scK a9001 fun s9004 => SV.cP s9004 fun p0 => uncA r9002 fun a9007 r9008 => scK a9007 fun s9010 => SV.cL s9010 fun l1 => uncA r9008 fun a9013 r9014 => scK a9013 fun s9016 => SV.cB s9016 fun c2 => endL r9014 <| F42_0 D J p0 l1 c2 S K
theorem A42_0_ok {D J : Disp} (hD : DOK SynP SynG D) (hJ : JOK SynP SynG Go.Proofs.Tryz.f42 T42 J) {vals : List AV} {S : St} {K : AV → St → Prop} (h0 : A42_0 D J vals S K) : Runs SynP SynG Go.Proofs.Tryz.f42 (T42 0).1 (envOf (T42 0).2 vals) S K := by
  obtain ⟨a9001, r9002, rfl, h3⟩ := uncA_some h0
  obtain ⟨s9004, rfl, h5⟩ := scK_some h3
  obtain ⟨p0, rfl, h6⟩ := cP_some h5
  obtain ⟨a9007, r9008, rfl, h9⟩ := uncA_some h6
  obtain ⟨s9010, rfl, h11⟩ := scK_some h9
  obtain ⟨l1, rfl, h12⟩ := cL_some h11
  obtain ⟨a9013, r9014, rfl, h15⟩ := uncA_some h12
  obtain ⟨s9016, rfl, h17⟩ := scK_some h15
  obtain ⟨c2, rfl, h18⟩ := cB_some h17
  obtain ⟨rfl, h19⟩ := endL_some h18
  rw [F42_0_eq] at h19
  exact execK_runs hD.typed Syn_zero Syn_mixed hJ X42_0 (T42 0).1 (envOf (T42 0).2 _) S K (chk_of (by kernel_rfl) (by kernel_rfl)) h19
noncomputable abbrev A42_1 (D J : Disp) (vals : List AV) (S : St) (K : AV → St → Prop) : Prop :=
  uncA vals fun a9001 r9002 => scK a9001 fun s9004 => SV.cP s9004 fun p0 => uncA r9002 fun a9007 r9008 => scK a9007 fun s9010 => SV.cB s9010 fun c2 => uncA r9008 fun a9013 r9014 => scK a9013 fun s9016 => SV.cL s9016 fun l8 => uncA r9014 fun a9019 r9020 => scK a9019 fun s9022 => SV.cI IntKind.i64 s9022 fun x9 => uncA r9020 fun a9025 r9026 => scK a9025 fun s9028 => SV.cI IntKind.i64 s9028 fun x10 => endL r9026 <| F42_1 D J p0 c2 l8 x9 x10 S K
theorem A42_1_ok {D J : Disp} (hD : DOK SynP SynG D) (hJ : JOK SynP SynG Go.Proofs.Tryz.f42 T42 J) {vals : List AV} {S : St} {K : AV → St → Prop} (h0 : A42_1 D J vals S K) : Runs SynP SynG Go.Proofs.Tryz.f42 (T42 1).1 (envOf (T42 1).2 vals) S K := by
  obtain ⟨a9001, r9002, rfl, h3⟩ := uncA_some h0
  obtain ⟨s9004, rfl, h5⟩ := scK_some h3
  obtain ⟨p0, rfl, h6⟩ := cP_some h5
  obtain ⟨a9007, r9008, rfl, h9⟩ := uncA_some h6
  obtain ⟨s9010, rfl, h11⟩ := scK_some h9
  obtain ⟨c2, rfl, h12⟩ := cB_some h11
  obtain ⟨a9013, r9014, rfl, h15⟩ := uncA_some h12
  obtain ⟨s9016, rfl, h17⟩ := scK_some h15
  obtain ⟨l8, rfl, h18⟩ := cL_some h17
  obtain ⟨a9019, r9020, rfl, h21⟩ := uncA_some h18
  obtain ⟨s9022, rfl, h23⟩ := scK_some h21
  obtain ⟨x9, rfl, h24⟩ := cI_some h23
  obtain ⟨a9025, r9026, rfl, h27⟩ := uncA_some h24
  obtain ⟨s9028, rfl, h29⟩ := scK_some h27
  obtain ⟨x10, rfl, h30⟩ := cI_some h29
  obtain ⟨rfl, h31⟩ := endL_some h30
  rw [F42_1_eq] at h31
  exact execK_runs hD.typed Syn_zero Syn_mixed hJ X42_1 (T42 1).1 (envOf (T42 1).2 _) S K (chk_of (by kernel_rfl) (by kernel_rfl)) h31
noncomputable abbrev A42_5 (D J : Disp) (vals : List AV) (S : St) (K : AV → St → Prop) : Prop :=
  uncA vals fun a9001 r9002 => scK a9001 fun s9004 => SV.cP s9004 fun p0 => uncA r9002 fun a9007 r9008 => scK a9007 fun s9010 => SV.cB s9010 fun c2 => uncA r9008 fun a9013 r9014 => scK a9013 fun s9016 => SV.cP s9016 fun p7 => uncA r9014 fun a9019 r9020 => scK a9019 fun s9022 => SV.cL s9022 fun l8 => uncA r9020 fun a9025 r9026 => scK a9025 fun s9028 => SV.cI IntKind.i64 s9028 fun x9 => uncA r9026 fun a9031 r9032 => scK a9031 fun s9034 => SV.cI IntKind.i64 s9034 fun x10 => uncA r9032 fun a9037 r9038 => scK a9037 fun s9040 => SV.cB s9040 fun c19 => endL r9038 <| F42_5 D J p0 c2 p7 l8 x9 x10 c19 S K
theorem A42_5_ok {D J : Disp} (hD : DOK SynP SynG D) (hJ : JOK SynP SynG Go.Proofs.Tryz.f42 T42 J) {vals : List AV} {S : St} {K : AV → St → Prop} (h0 : A42_5 D J vals S K) : Runs SynP SynG Go.Proofs.Tryz.f42 (T42 5).1 (envOf (T42 5).2 vals) S K := by
  obtain ⟨a9001, r9002, rfl, h3⟩ := uncA_some h0
  obtain ⟨s9004, rfl, h5⟩ := scK_some h3
  obtain ⟨p0, rfl, h6⟩ := cP_some h5
  obtain ⟨a9007, r9008, rfl, h9⟩ := uncA_some h6
  obtain ⟨s9010, rfl, h11⟩ := scK_some h9
  obtain ⟨c2, rfl, h12⟩ := cB_some h11
  obtain ⟨a9013, r9014, rfl, h15⟩ := uncA_some h12
  obtain ⟨s9016, rfl, h17⟩ := scK_some h15
  obtain ⟨p7, rfl, h18⟩ := cP_some h17
  obtain ⟨a9019, r9020, rfl, h21⟩ := uncA_some h18
  obtain ⟨s9022, rfl, h23⟩ := scK_some h21
  obtain ⟨l8, rfl, h24⟩ := cL_some h23
  obtain ⟨a9025, r9026, rfl, h27⟩ := uncA_some h24
  obtain ⟨s9028, rfl, h29⟩ := scK_some h27
  obtain ⟨x9, rfl, h30⟩ := cI_some h29
  obtain ⟨a9031, r9032, rfl, h33⟩ := uncA_some h30
  obtain ⟨s9034, rfl, h35⟩ := scK_some h33
  obtain ⟨x10, rfl, h36⟩ := cI_some h35
  obtain ⟨a9037, r9038, rfl, h39⟩ := uncA_some h36
  obtain ⟨s9040, rfl, h41⟩ := scK_some h39
  obtain ⟨c19, rfl, h42⟩ := cB_some h41
  obtain ⟨rfl, h43⟩ := endL_some h42
  rw [F42_5_eq] at h43
  exact execK_runs hD.typed Syn_zero Syn_mixed hJ X42_5 (T42 5).1 (envOf (T42 5).2 _) S K (chk_of (by kernel_rfl) (by kernel_rfl)) h43
noncomputable abbrev A42_7 (D J : Disp) (vals : List AV) (S : St) (K : AV → St → Prop) : Prop :=
  uncA vals fun a9001 r9002 => scK a9001 fun s9004 => SV.cP s9004 fun p0 => uncA r9002 fun a9007 r9008 => scK a9007 fun s9010 => SV.cB s9010 fun c2 => uncA r9008 fun a9013 r9014 => scK a9013 fun s9016 => SV.cP s9016 fun p7 => uncA r9014 fun a9019 r9020 => scK a9019 fun s9022 => SV.cL s9022 fun l8 => uncA r9020 fun a9025 r9026 => scK a9025 fun s9028 => SV.cI IntKind.i64 s9028 fun x9 => uncA r9026 fun a9031 r9032 => scK a9031 fun s9034 => SV.cI IntKind.i64 s9034 fun x10 => endL r9032 <| F42_7 D J p0 c2 p7 l8 x9 x10 S K
theorem A42_7_ok {D J : Disp} (hD : DOK SynP SynG D) (hJ : JOK SynP SynG Go.Proofs.Tryz.f42 T42 J) {vals : List AV} {S : St} {K : AV → St → Prop} (h0 : A42_7 D J vals S K) : Runs SynP SynG Go.Proofs.Tryz.f42 (T42 7).1 (envOf (T42 7).2 vals) S K := by
  obtain ⟨a9001, r9002, rfl, h3⟩ := uncA_some h0
  obtain ⟨s9004, rfl, h5⟩ := scK_some h3
  obtain ⟨p0, rfl, h6⟩ := cP_some h5
  obtain ⟨a9007, r9008, rfl, h9⟩ := uncA_some h6
  obtain ⟨s9010, rfl, h11⟩ := scK_some h9
  obtain ⟨c2, rfl, h12⟩ := cB_some h11
  obtain ⟨a9013, r9014, rfl, h15⟩ := uncA_some h12
  obtain ⟨s9016, rfl, h17⟩ := scK_some h15
  obtain ⟨p7, rfl, h18⟩ := cP_some h17
  obtain ⟨a9019, r9020, rfl, h21⟩ := uncA_some h18
  obtain ⟨s9022, rfl, h23⟩ := scK_some h21
  obtain ⟨l8, rfl, h24⟩ := cL_some h23
  obtain ⟨a9025, r9026, rfl, h27⟩ := uncA_some h24
  obtain ⟨s9028, rfl, h29⟩ := scK_some h27
  obtain ⟨x9, rfl, h30⟩ := cI_some h29
  obtain ⟨a9031, r9032, rfl, h33⟩ := uncA_some h30
  obtain ⟨s9034, rfl, h35⟩ := scK_some h33
  obtain ⟨x10, rfl, h36⟩ := cI_some h35
  obtain ⟨rfl, h37⟩ := endL_some h36
  rw [F42_7_eq] at h37
  exact execK_runs hD.typed Syn_zero Syn_mixed hJ X42_7 (T42 7).1 (envOf (T42 7).2 _) S K (chk_of (by kernel_rfl) (by kernel_rfl)) h37
noncomputable abbrev A42_10 (D J : Disp) (vals : List AV) (S : St) (K : AV → St → Prop) : Prop :=
  uncA vals fun a9001 r9002 => scK a9001 fun s9004 => SV.cP s9004 fun p0 => uncA r9002 fun a9007 r9008 => scK a9007 fun s9010 => SV.cB s9010 fun c2 => uncA r9008 fun a9013 r9014 => scK a9013 fun s9016 => SV.cL s9016 fun l8 => uncA r9014 fun a9019 r9020 => scK a9019 fun s9022 => SV.cI IntKind.i64 s9022 fun x9 => uncA r9020 fun a9025 r9026 => scK a9025 fun s9028 => SV.cI IntKind.i64 s9028 fun x10 => endL r9026 <| F42_10 D J p0 c2 l8 x9 x10 S K
theorem A42_10_ok {D J : Disp} (hD : DOK SynP SynG D) (hJ : JOK SynP SynG Go.Proofs.Tryz.f42 T42 J) {vals : List AV} {S : St} {K : AV → St → Prop} (h0 : A42_10 D J vals S K) : Runs SynP SynG Go.Proofs.Tryz.f42 (T42 10).1 (envOf (T42 10).2 vals) S K := by
  obtain ⟨a9001, r9002, rfl, h3⟩ := uncA_some h0
  obtain ⟨s9004, rfl, h5⟩ := scK_some h3
  obtain ⟨p0, rfl, h6⟩ := cP_some h5
  obtain ⟨a9007, r9008, rfl, h9⟩ := uncA_some h6
  obtain ⟨s9010, rfl, h11⟩ := scK_some h9
  obtain ⟨c2, rfl, h12⟩ := cB_some h11
  obtain ⟨a9013, r9014, rfl, h15⟩ := uncA_some h12
  obtain ⟨s9016, rfl, h17⟩ := scK_some h15
  obtain ⟨l8, rfl, h18⟩ := cL_some h17
  obtain ⟨a9019, r9020, rfl, h21⟩ := uncA_some h18
  obtain ⟨s9022, rfl, h23⟩ := scK_some h21
  obtain ⟨x9, rfl, h24⟩ := cI_some h23
  obtain ⟨a9025, r9026, rfl, h27⟩ := uncA_some h24
  obtain ⟨s9028, rfl, h29⟩ := scK_some h27
  obtain ⟨x10, rfl, h30⟩ := cI_some h29
  obtain ⟨rfl, h31⟩ := endL_some h30
  rw [F42_10_eq] at h31
  exact execK_runs hD.typed Syn_zero Syn_mixed hJ X42_10 (T42 10).1 (envOf (T42 10).2 _) S K (chk_of (by kernel_rfl) (by kernel_rfl)) h31
noncomputable def J42 (D : Disp) (k : Nat) : Disp := Nat.rec (motive := fun _ => Disp) Disp.no (fun _ ih => Disp.add 0 (A42_0 D ih) <| Disp.add 1 (A42_1 D ih) <| Disp.add 5 (A42_5 D ih) <| Disp.add 7 (A42_7 D ih) <| Disp.add 10 (A42_10 D ih) <| Disp.no) k
theorem J42_ok {D : Disp} (hD : DOK SynP SynG D) : ∀ k, JOK SynP SynG Go.Proofs.Tryz.f42 T42 (J42 D k)
  | 0 => JOK.no
  | k + 1 => JOK.add (ltB_ok (by kernel_rfl)) (fun vals S K h => A42_0_ok hD (J42_ok hD k) h) <| JOK.add (ltB_ok (by kernel_rfl)) (fun vals S K h => A42_1_ok hD (J42_ok hD k) h) <| JOK.add (ltB_ok (by kernel_rfl)) (fun vals S K h => A42_5_ok hD (J42_ok hD k) h) <| JOK.add (ltB_ok (by kernel_rfl)) (fun vals S K h => A42_7_ok hD (J42_ok hD k) h) <| JOK.add (ltB_ok (by kernel_rfl)) (fun vals S K h => A42_10_ok hD (J42_ok hD k) h) <| JOK.no
theorem E42_ok {D : Disp} (hD : DOK SynP SynG D) (k : Nat) {args : List AV} {S : St} {K : AV → St → Prop} (h : A42_0 D (J42 D k) args S K) : CallE SynP SynG 42 args S K := by
  have hr := A42_0_ok hD (J42_ok hD k) h
  have hl : args.length = 3 := by
    have h0 := h
    obtain ⟨a9001, r9002, rfl, h3⟩ := uncA_some h0
    obtain ⟨s9004, rfl, h5⟩ := scK_some h3
    obtain ⟨p0, rfl, h6⟩ := cP_some h5
    obtain ⟨a9007, r9008, rfl, h9⟩ := uncA_some h6
    obtain ⟨s9010, rfl, h11⟩ := scK_some h9
    obtain ⟨l1, rfl, h12⟩ := cL_some h11
    obtain ⟨a9013, r9014, rfl, h15⟩ := uncA_some h12
    obtain ⟨s9016, rfl, h17⟩ := scK_some h15
    obtain ⟨c2, rfl, h18⟩ := cB_some h17
    obtain ⟨rfl, h19⟩ := endL_some h18
    rfl
  refine callOK_of (fn := Go.Proofs.Tryz.f42) (c := (match Go.Proofs.Tryz.f42.body with | some c => c | none => .skip)) (by kernel_rfl) (by kernel_rfl) (by kernel_rfl) (by rw [hl]; kernel_rfl) (by kernel_rfl) ?_
  rw [hl]
  exact hr
noncomputable def plans44 (i : Nat) : Plan := if Nat.beq i 1 then [(0, []), (1, [0]), (2, []), (3, [2]), (4, [3, 2]), (5, [1, 4, 0, 3, 2]), (6, [5, 4, 0, 1, 2, 3])] else []
noncomputable def T44 (p : Nat) : List Item × List Nat := bif Nat.beq p 0 then ([.code (match Go.Proofs.Tryz.f44.body with | some c => c | none => .skip)], [0]) else
  ([], [])
noncomputable def F44_q0 (D J : Disp) (S : St) (S300 : St) (y308 : (List Nat)) (x315 : Int) (K : AV → St → Prop) : Prop :=
 D 66 [(AV.one (V1.s (SV.str [42]))), (AV.one (V1.s (SV.int IntKind.i64 x315)))] S300 fun v316 S317 =>
 scK v316 fun v319 =>
 SV.cS v319 fun y323 =>
 St.at S317 (Bk.new (St.next S)) 0 fun y324 =>
 uncK y324 fun v325 y326 =>
 SV.cS v325 fun y331 =>
 req (sameAV (AV.one (V1.s (SV.str y331))) (AV.one (V1.s (SV.str y308)))) <|
 req (Nat.blt ((List.length y308) + (List.length y323)) 9223372036854775808) <|
 let s332 : (List Nat) := (y308 ++ y323);
 K ((AV.one (V1.s (SV.str s332)))) S317
noncomputable def F44_0 (D J : Disp) (s0_0 : (List Nat)) (x0_1 : Int) (S : St) (K : AV → St → Prop) : Prop :=
 let S300 : St := (St.add S (AO.cells [(SV.str s0_0), (SV.int IntKind.i64 x0_1)] (Op2.ty 45)));
 St.at S300 (Bk.new (St.next S)) 0 fun y301 =>
 uncK y301 fun v302 y303 =>
 SV.cS v302 fun y308 =>
 St.at S300 (Bk.new (St.next S)) 1 fun y309 =>
 uncK y309 fun v310 y311 =>
 SV.cI IntKind.i64 v310 fun x315 =>
 F44_q0 D J S S300 y308 x315 K
noncomputable def X44_0 : X := (.op (.op .ret))
theorem F44_0_eq (D J : Disp) (s0_0 : (List Nat)) (x0_1 : Int) (S : St) (K : AV → St → Prop) : F44_0 D J s0_0 x0_1 S K = execK SynP SynG Go.Proofs.Tryz.f44 (typed SynP D) J plans44 X44_0 (T44 0).1 (envOf (T44 0).2 [(AV.one (V1.agg [(SV.str s0_0), (SV.int IntKind.i64 x0_1)]))]) S K := by kernel_rfl
noncomputable abbrev A44_0 (D J : Disp) (vals : List AV) (S : St) (K : AV → St → Prop) : Prop :=
  uncA vals fun a9001 r9002 => avA a9001 fun l9004 => uncK l9004 fun s9006 r9007 => SV.cS s9006 fun s0_0 => uncK r9007 fun s9010 r9011 => SV.cI IntKind.i64 s9010 fun x0_1 => endL r9011 <| endL r9002 <| F44_0 D J s0_0 x0_1 S K
theorem A44_0_ok {D J : Disp} (hD : DOK SynP SynG D) (hJ : JOK SynP SynG Go.Proofs.Tryz.f44 T44 J) {vals : List AV} {S : St} {K : AV → St → Prop} (h0 : A44_0 D J vals S K) : Runs SynP SynG Go.Proofs.Tryz.f44 (T44 0).1 (envOf (T44 0).2 vals) S K := by
  obtain ⟨a9001, r9002, rfl, h3⟩ := uncA_some h0
  obtain ⟨l9004, rfl, h5⟩ := avA_some h3
  obtain ⟨s9006, r9007, rfl, h8⟩ := uncK_some h5
  obtain ⟨s0_0, rfl, h9⟩ := cS_some h8
  obtain ⟨s9010, r9011, rfl, h12⟩ := uncK_some h9
  obtain ⟨x0_1, rfl, h13⟩ := cI_some h12
  obtain ⟨rfl, h14⟩ := endL_some h13
  obtain ⟨rfl, h15⟩ := endL_some h14
  rw [F44_0_eq] at h15
  exact execK_runs hD.typed Syn_zero Syn_mixed hJ X44_0 (T44 0).1 (envOf (T44 0).2 _) S K (chk_of (by kernel_rfl) (by kernel_rfl)) h15
noncomputable def J44 (D : Disp) (k : Nat) : Disp := Nat.rec (motive := fun _ => Disp) Disp.no (fun _ ih => Disp.add 0 (A44_0 D ih) <| Disp.no) k
theorem J44_ok {D : Disp} (hD : DOK SynP SynG D) : ∀ k, JOK SynP SynG Go.Proofs.Tryz.f44 T44 (J44 D k)
  | 0 => JOK.no
  | k + 1 => JOK.add (ltB_ok (by kernel_rfl)) (fun vals S K h => A44_0_ok hD (J44_ok hD k) h) <| JOK.no
theorem E44_ok {D : Disp} (hD : DOK SynP SynG D) (k : Nat) {args : List AV} {S : St} {K : AV → St → Prop} (h : A44_0 D (J44 D k) args S K) : CallE SynP SynG 44 args S K := by
  have hr := A44_0_ok hD (J44_ok hD k) h
  have hl : args.length = 1 := by
    have h0 := h
    obtain ⟨a9001, r9002, rfl, h3⟩ := uncA_some h0
    obtain ⟨l9004, rfl, h5⟩ := avA_some h3
    obtain ⟨s9006, r9007, rfl, h8⟩ := uncK_some h5
    obtain ⟨s0_0, rfl, h9⟩ := cS_some h8
    obtain ⟨s9010, r9011, rfl, h12⟩ := uncK_some h9
    obtain ⟨x0_1, rfl, h13⟩ := cI_some h12
    obtain ⟨rfl, h14⟩ := endL_some h13
    obtain ⟨rfl, h15⟩ := endL_some h14
    rfl
  refine callOK_of (fn := Go.Proofs.Tryz.f44) (c := (match Go.Proofs.Tryz.f44.body with | some c => c | none => .skip)) (by kernel_rfl) (by kernel_rfl) (by kernel_rfl) (by rw [hl]; kernel_rfl) (by kernel_rfl) ?_
  rw [hl]
  exact hr
noncomputable def plans45 (i : Nat) : Plan := []
noncomputable def T45 (p : Nat) : List Item × List Nat := bif Nat.beq p 0 then ([.code (match Go.Proofs.Tryz.f45.body with | some c => c | none => .skip)], [0]) else
  ([], [])
noncomputable def F45_0 (D J : Disp) (x0 : Int) (S : St) (K : AV → St → Prop) : Prop :=
 D 67 [(AV.one (V1.s (SV.int IntKind.u64 x0))), (AV.one (V1.s (SV.int IntKind.i64 (10 : Int))))] S fun v300 S301 =>
 scK v300 fun v303 =>
 SV.cS v303 fun y307 =>
 K ((AV.one (V1.s (SV.str y307)))) S301
noncomputable def X45_0 : X := (.op (.op .ret))
theorem F45_0_eq (D J : Disp) (x0 : Int) (S : St) (K : AV → St → Prop) : F45_0 D J x0 S K = execK SynP SynG Go.Proofs.Tryz.f45 (typed SynP D) J plans45 X45_0 (T45 0).1 (envOf (T45 0).2 [(AV.one (V1.s (SV.int IntKind.u64 x0)))]) S K := by kernel_rfl
noncomputable abbrev A45_0 (D J : Disp) (vals : List AV) (S : St) (K : AV → St → Prop) : Prop :=
  uncA vals fun a9001 r9002 => scK a9001 fun s9004 => SV.cI IntKind.u64 s9004 fun x0 => endL r9002 <| F45_0 D J x0 S K
theorem A45_0_ok {D J : Disp} (hD : DOK SynP SynG D) (hJ : JOK SynP SynG Go.Proofs.Tryz.f45 T45 J) {vals : List AV} {S : St} {K : AV → St → Prop} (h0 : A45_0 D J vals S K) : Runs SynP SynG Go.Proofs.Tryz.f45 (T45 0).1 (envOf (T45 0).2 vals) S K := by
  obtain ⟨a9001, r9002, rfl, h3⟩ := uncA_some h0
  obtain ⟨s9004, rfl, h5⟩ := scK_some h3
  obtain ⟨x0, rfl, h6⟩ := cI_some h5
  obtain ⟨rfl, h7⟩ := endL_some h6
  rw [F45_0_eq] at h7
  exact execK_runs hD.typed Syn_zero Syn_mixed hJ X45_0 (T45 0).1 (envOf (T45 0).2 _) S K (chk_of (by kernel_rfl) (by kernel_rfl)) h7
noncomputable def J45 (D : Disp) (k : Nat) : Disp := Nat.rec (motive := fun _ => Disp) Disp.no (fun _ ih => Disp.add 0 (A45_0 D ih) <| Disp.no) k
theorem J45_ok {D : Disp} (hD : DOK SynP SynG D) : ∀ k, JOK SynP SynG Go.Proofs.Tryz.f45 T45 (J45 D k)
  | 0 => JOK.no
  | k + 1 => JOK.add (ltB_ok (by kernel_rfl)) (fun vals S K h => A45_0_ok hD (J45_ok hD k) h) <| JOK.no
theorem E45_ok {D : Disp} (hD : DOK SynP SynG D) (k : Nat) {args : List AV} {S : St} {K : AV → St → Prop} (h : A45_0 D (J45 D k) args S K) : CallE SynP SynG 45 args S K := by
  have hr := A45_0_ok hD (J45_ok hD k) h
  have hl : args.length = 1 := by
    have h0 := h
    obtain ⟨a9001, r9002, rfl, h3⟩ := uncA_some h0
    obtain ⟨s9004, rfl, h5⟩ := scK_some h3
    obtain ⟨x0, rfl, h6⟩ := cI_some h5
    obtain ⟨rfl, h7⟩ := endL_some h6
    rfl
  refine callOK_of (fn := Go.Proofs.Tryz.f45) (c := (match Go.Proofs.Tryz.f45.body with | some c => c | none => .skip)) (by kernel_rfl) (by kernel_rfl) (by kernel_rfl) (by rw [hl]; kernel_rfl) (by kernel_rfl) ?_
  rw [hl]
  exact hr
noncomputable def plans46 (i : Nat) : Plan := if Nat.beq i 7 then [(0, []), (1, []), (2, [1]), (3, [2, 1]), (4, [3, 2, 1]), (6, []), (7, [6]), (8, [7, 6]), (9, [8, 7, 6]), (5, [4, 3, 2, 1]), (10, [9, 5, 8, 4, 7, 3, 6, 2, 1]), (11, [5, 10, 4, 9, 3, 8, 2, 7, 1, 6]), (12, [0, 11, 10, 5, 9, 4, 8, 3, 7, 2, 6, 1])] else if Nat.beq i 22 then [(0, []), (1, [0]), (2, [1, 0]), (3, []), (4, [3]), (5, [4, 3]), (6, [5, 4, 3]), (7, [6, 5, 4, 3]), (8, [2, 7, 1, 6, 0, 5, 4, 3])] else []
noncomputable def T46 (p : Nat) : List Item × List Nat := bif Nat.beq p 0 then ([.code (match Go.Proofs.Tryz.f46.body with | some c => c | none => .skip)], [0, 1]) else
  bif Nat.beq p 9 then (navs [.op, .op, .el, .op, .op, .op, .th] [.code (match Go.Proofs.Tryz.f46.body with | some c => c | none => .skip)], [0, 1, 4, 25, 26]) else
  bif Nat.beq p 11 then (navs [.op, .op, .el, .op, .op, .op, .th, .th, .op] [.code (match Go.Proofs.Tryz.f46.body with | some c => c | none => .skip)], [0, 1, 4]) else
  bif Nat.beq p 28 then (navs [.op, .op, .el, .op, .op, .op, .th, .el, .op, .el, .op, .th] [.code (match Go.Proofs.Tryz.f46.body with | some c => c | none => .skip)], [0, 1, 4, 52]) else
  bif Nat.beq p 13 then (navs [.op, .op, .el, .op, .op, .op, .th, .th, .op, .op, .op] [.code (match Go.Proofs.Tryz.f46.body with | some c => c | none => .skip)], [0, 1, 70, 71, 72]) else
  bif Nat.beq p 19 then (navs [.op, .op, .el, .op, .op, .op, .th, .th, .op, .op, .op, .op, .el, .op] [.code (match Go.Proofs.Tryz.f46.body with | some c => c | none => .skip)], [0, 1, 91]) else
  bif Nat.beq p 21 then (navs [.op, .op, .el, .op, .op, .op, .th, .th, .op, .op, .op, .op, .el, .op, .th, .op] [.code (match Go.Proofs.Tryz.f46.body with | some c => c | none => .skip)], [0]) else
  ([], [])
noncomputable def F46_q13 (D J : Disp) (p0 : PV) (p1 : PV) (S304 : St) (d322 : (Sum Nat Nat)) (S323 : St) (y334 : (List Nat)) (c335 : Bool) (K : AV → St → Prop) : Prop :=
 ifK c335
 (J 9 [(AV.one (V1.s (SV.ptr p0))), (AV.one (V1.s (SV.ptr p1))), (AV.one (V1.s (SV.sl (LV.mk (Bk.new (St.next S304)) 0 1 d322)))), (AV.one (V1.s (SV.str y334))), (AV.one (V1.s (SV.bool c335)))] S323 K)
 (let c336 : Bool := (leq y334 [115, 105, 122, 101]);
 J 9 [(AV.one (V1.s (SV.ptr p0))), (AV.one (V1.s (SV.ptr p1))), (AV.one (V1.s (SV.sl (LV.mk (Bk.new (St.next S304)) 0 1 d322)))), (AV.one (V1.s (SV.str y334))), (AV.one (V1.s (SV.bool c336)))] S323 K)
noncomputable def F46_q14 (D J : Disp) (p0 : PV) (p1 : PV) (S304 : St) (b311 : Bk) (n313 : Nat) (K : AV → St → Prop) : Prop :=
 St.at S304 b311 n313 fun y314 =>
 uncK y314 fun v315 y316 =>
 SV.cS v315 fun y321 =>
 let d322 : (Sum Nat Nat) := (Sum.inl 1);
 let S323 : St := (St.add S304 (AO.cells [(SV.str y321)] Op2.sh));
 PV.cs p1 fun b324 n325 =>
 let n326 : Nat := (n325 + 0);
 St.at S323 b324 n326 fun y327 =>
 uncK y327 fun v328 y329 =>
 SV.cS v328 fun y334 =>
 let c335 : Bool := (leq y334 [110, 117, 109]);
 F46_q13 D J p0 p1 S304 d322 S323 y334 c335 K
noncomputable def F46_q15 (D J : Disp) (S : St) (p0 : PV) (p1 : PV) (b300 : Bk) (n302 : Nat) (K : AV → St → Prop) : Prop :=
 D 43 [(AV.one (V1.s (SV.ptr (PV.mk b300 n302)))), (AV.one (V1.s (SV.str [32])))] S fun v303 S304 =>
 optK (eqA SynP 1 93 (V1.s (SV.ptr p1)) (V1.s (SV.ptr PV.nil))) fun y305 =>
 ifK y305
 (PV.cs p0 fun b306 n307 =>
 let n308 : Nat := (n307 + 0);
 D 43 [(AV.one (V1.s (SV.ptr (PV.mk b306 n308)))), (AV.one (V1.s (SV.str [45])))] S304 fun v309 S310 =>
 K ((AV.tup [])) S310)
 (PV.cs p1 fun b311 n312 =>
 let n313 : Nat := (n312 + 0);
 F46_q14 D J p0 p1 S304 b311 n313 K)
noncomputable def F46_0 (D J : Disp) (p0 : PV) (p1 : PV) (S : St) (K : AV → St → Prop) : Prop :=
 PV.cs p0 fun b300 n301 =>
 let n302 : Nat := (n301 + 0);
 F46_q15 D J S p0 p1 b300 n302 K
noncomputable def X46_0 : X := (.op (.op (.br (.op .ret) (.op (.op (.op (.br (.jmp 9 [0, 1, 4, 25, 26]) (.op (.jmp 9 [0, 1, 4, 25, 26])))))))))
theorem F46_0_eq (D J : Disp) (p0 : PV) (p1 : PV) (S : St) (K : AV → St → Prop) : F46_0 D J p0 p1 S K = execK SynP SynG Go.Proofs.Tryz.f46 (typed SynP D) J plans46 X46_0 (T46 0).1 (envOf (T46 0).2 [(AV.one (V1.s (SV.ptr p0))), (AV.one (V1.s (SV.ptr p1)))]) S K := by kernel_rfl
noncomputable def F46_q16 (D J : Disp) (p0 : PV) (p1 : PV) (l4 : LV) (x326 : Int) (S328 : St) (y334 : (List Nat)) (K : AV → St → Prop) : Prop :=
 D 45 [(AV.one (V1.s (SV.int IntKind.u64 x326)))] S328 fun v342 S343 =>
 scK v342 fun v345 =>
 SV.cS v345 fun y349 =>
 let o350 : AO := (AO.cells [(SV.str y334), (SV.str y349)] Op2.sh);
 let d351 : (Sum Nat Nat) := (Sum.inl 2);
 let S352 : St := (St.add S343 o350);
 St.src S352 1 (LV.mk (Bk.new (St.next S343)) 0 2 d351) fun y353 n354 =>
 St.app S352 9 1 16 l4 y353 n354 fun y355 S356 =>
 J 11 [(AV.one (V1.s (SV.ptr p0))), (AV.one (V1.s (SV.ptr p1))), (AV.one (V1.s (SV.sl y355)))] S356 K
noncomputable def F46_q17 (D J : Disp) (S : St) (p0 : PV) (p1 : PV) (l4 : LV) (y310 : (List Nat)) (x316 : Int) (b317 : Bk) (n319 : Nat) (K : AV → St → Prop) : Prop :=
 St.at S b317 n319 fun y320 =>
 uncK y320 fun v321 y322 =>
 SV.cI IntKind.u64 v321 fun x326 =>
 D 44 [(AV.one (V1.agg [(SV.str y310), (SV.int IntKind.i64 x316)]))] S fun v327 S328 =>
 scK v327 fun v330 =>
 SV.cS v330 fun y334 =>
 St.at S328 b317 n319 fun y335 =>
 uncK y335 fun v336 y337 =>
 SV.cI IntKind.u64 v336 fun x341 =>
 req (sameAV (AV.one (V1.s (SV.int IntKind.u64 x341))) (AV.one (V1.s (SV.int IntKind.u64 x326)))) <|
 F46_q16 D J p0 p1 l4 x326 S328 y334 K
noncomputable def F46_q18 (D J : Disp) (S : St) (p0 : PV) (p1 : PV) (l4 : LV) (y399 : (List Nat)) (x405 : Int) (K : AV → St → Prop) : Prop :=
 D 44 [(AV.one (V1.agg [(SV.str y399), (SV.int IntKind.i64 x405)]))] S fun v406 S407 =>
 scK v406 fun v409 =>
 SV.cS v409 fun y413 =>
 let d414 : (Sum Nat Nat) := (Sum.inl 1);
 let S415 : St := (St.add S407 (AO.cells [(SV.str y413)] Op2.sh));
 St.src S415 1 (LV.mk (Bk.new (St.next S407)) 0 1 d414) fun y416 n417 =>
 St.app S415 9 1 16 l4 y416 n417 fun y418 S419 =>
 J 11 [(AV.one (V1.s (SV.ptr p0))), (AV.one (V1.s (SV.ptr p1))), (AV.one (V1.s (SV.sl y418)))] S419 K
noncomputable def F46_q19 (D J : Disp) (S : St) (p0 : PV) (p1 : PV) (l4 : LV) (s25 : (List Nat)) (c436 : Bool) (K : AV → St → Prop) : Prop :=
 ifK c436
 (J 28 [(AV.one (V1.s (SV.ptr p0))), (AV.one (V1.s (SV.ptr p1))), (AV.one (V1.s (SV.sl l4))), (AV.one (V1.s (SV.bool c436)))] S K)
 (let c437 : Bool := (leq s25 [98, 105, 110]);
 ifK c437
 (J 28 [(AV.one (V1.s (SV.ptr p0))), (AV.one (V1.s (SV.ptr p1))), (AV.one (V1.s (SV.sl l4))), (AV.one (V1.s (SV.bool c437)))] S K)
 (let c438 : Bool := (leq s25 [115, 101, 116]);
 J 28 [(AV.one (V1.s (SV.ptr p0))), (AV.one (V1.s (SV.ptr p1))), (AV.one (V1.s (SV.sl l4))), (AV.one (V1.s (SV.bool c438)))] S K))
noncomputable def F46_q20 (D J : Disp) (S : St) (p0 : PV) (p1 : PV) (l4 : LV) (s25 : (List Nat)) (c388 : Bool) (K : AV → St → Prop) : Prop :=
 ifK c388
 (PV.cs p1 fun b389 n390 =>
 let n391 : Nat := (n390 + 2);
 St.at S b389 n391 fun y392 =>
 uncK y392 fun v393 y394 =>
 SV.cS v393 fun y399 =>
 uncK y394 fun v400 y401 =>
 SV.cI IntKind.i64 v400 fun x405 =>
 F46_q18 D J S p0 p1 l4 y399 x405 K)
 (let c435 : Bool := (leq s25 [110, 97, 109, 101]);
 ifK c435
 (J 28 [(AV.one (V1.s (SV.ptr p0))), (AV.one (V1.s (SV.ptr p1))), (AV.one (V1.s (SV.sl l4))), (AV.one (V1.s (SV.bool c435)))] S K)
 (let c436 : Bool := (leq s25 [117, 110]);
 F46_q19 D J S p0 p1 l4 s25 c436 K))
noncomputable def F46_9 (D J : Disp) (p0 : PV) (p1 : PV) (l4 : LV) (s25 : (List Nat)) (c26 : Bool) (S : St) (K : AV → St → Prop) : Prop :=
 ifK c26
 (PV.cs p1 fun b300 n301 =>
 let n302 : Nat := (n301 + 2);
 St.at S b300 n302 fun y303 =>
 uncK y303 fun v304 y305 =>
 SV.cS v304 fun y310 =>
 uncK y305 fun v311 y312 =>
 SV.cI IntKind.i64 v311 fun x316 =>
 PV.cs p1 fun b317 n318 =>
 let n319 : Nat := (n318 + 4);
 F46_q17 D J S p0 p1 l4 y310 x316 b317 n319 K)
 (let c388 : Bool := (leq s25 [99, 97, 115, 116]);
 F46_q20 D J S p0 p1 l4 s25 c388 K)
noncomputable def X46_9 : X := (.br (.op (.jmp 11 [0, 1, 4])) (.op (.br (.op (.jmp 11 [0, 1, 4])) (.op (.br (.jmp 28 [0, 1, 4, 52]) (.op (.br (.jmp 28 [0, 1, 4, 52]) (.op (.br (.jmp 28 [0, 1, 4, 52]) (.op (.jmp 28 [0, 1, 4, 52])))))))))))
theorem F46_9_eq (D J : Disp) (p0 : PV) (p1 : PV) (l4 : LV) (s25 : (List Nat)) (c26 : Bool) (S : St) (K : AV → St → Prop) : F46_9 D J p0 p1 l4 s25 c26 S K = execK SynP SynG Go.Proofs.Tryz.f46 (typed SynP D) J plans46 X46_9 (T46 9).1 (envOf (T46 9).2 [(AV.one (V1.s (SV.ptr p0))), (AV.one (V1.s (SV.ptr p1))), (AV.one (V1.s (SV.sl l4))), (AV.one (V1.s (SV.str s25))), (AV.one (V1.s (SV.bool c26)))]) S K := by kernel_rfl
noncomputable def F46_q21 (D J : Disp) (S : St) (p0 : PV) (p1 : PV) (l4 : LV) (K : AV → St → Prop) : Prop :=
 D 41 [(AV.one (V1.s (SV.ptr p0))), (AV.one (V1.s (SV.sl l4)))] S fun v300 S301 =>
 avT v300 fun y303 =>
 endL y303 (PV.cs p1 fun b304 n305 =>
 let n306 : Nat := (n305 + 6);
 St.at S301 b304 n306 fun y307 =>
 uncK y307 fun v308 y309 =>
 SV.cL v308 fun y316 =>
 let x317 : Int := (Int.ofNat (LV.len y316));
 J 13 [(AV.one (V1.s (SV.ptr p0))), (AV.one (V1.s (SV.ptr p1))), (AV.one (V1.s (SV.sl y316))), (AV.one (V1.s (SV.int IntKind.i64 x317))), (AV.one (V1.s (SV.int IntKind.i64 (0 : Int))))] S301 K)
noncomputable def F46_11 (D J : Disp) (p0 : PV) (p1 : PV) (l4 : LV) (S : St) (K : AV → St → Prop) : Prop :=
 F46_q21 D J S p0 p1 l4 K
noncomputable def X46_11 : X := (.op (.op (.jmp 13 [0, 1, 70, 71, 72])))
theorem F46_11_eq (D J : Disp) (p0 : PV) (p1 : PV) (l4 : LV) (S : St) (K : AV → St → Prop) : F46_11 D J p0 p1 l4 S K = execK SynP SynG Go.Proofs.Tryz.f46 (typed SynP D) J plans46 X46_11 (T46 11).1 (envOf (T46 11).2 [(AV.one (V1.s (SV.ptr p0))), (AV.one (V1.s (SV.ptr p1))), (AV.one (V1.s (SV.sl l4)))]) S K := by kernel_rfl
noncomputable def F46_q23 (D J : Disp) (S : St) (p0 : PV) (p1 : PV) (l70 : LV) (x71 : Int) (x72 : Int) (b301 : Bk) (n305 : Nat) (K : AV → St → Prop) : Prop :=
 St.at S b301 n305 fun y306 =>
 uncK y306 fun v307 y308 =>
 SV.cP v307 fun y314 =>
 D 46 [(AV.one (V1.s (SV.ptr p0))), (AV.one (V1.s (SV.ptr y314)))] S fun v315 S316 =>
 avT v315 fun y318 =>
 endL y318 (let x319 : Int := (iwrap IntKind.i64 (x72 + (1 : Int)));
 J 13 [(AV.one (V1.s (SV.ptr p0))), (AV.one (V1.s (SV.ptr p1))), (AV.one (V1.s (SV.sl l70))), (AV.one (V1.s (SV.int IntKind.i64 x71))), (AV.one (V1.s (SV.int IntKind.i64 x319)))] S316 K)
noncomputable def F46_q24 (D J : Disp) (S : St) (p0 : PV) (p1 : PV) (y336 : (List Nat)) (K : AV → St → Prop) : Prop :=
 let c337 : Bool := (leq y336 [100, 111, 116]);
 ifK c337
 (J 19 [(AV.one (V1.s (SV.ptr p0))), (AV.one (V1.s (SV.ptr p1))), (AV.one (V1.s (SV.bool Bool.true)))] S K)
 (PV.cs p1 fun b338 n339 =>
 let n340 : Nat := (n339 + 0);
 St.at S b338 n340 fun y341 =>
 uncK y341 fun v342 y343 =>
 SV.cS v342 fun y348 =>
 let c349 : Bool := (leq y348 [97, 114, 114, 111, 119]);
 J 19 [(AV.one (V1.s (SV.ptr p0))), (AV.one (V1.s (SV.ptr p1))), (AV.one (V1.s (SV.bool c349)))] S K)
noncomputable def F46_13 (D J : Disp) (p0 : PV) (p1 : PV) (l70 : LV) (x71 : Int) (x72 : Int) (S : St) (K : AV → St → Prop) : Prop :=
 let c300 : Bool := (ilt x72 x71);
 ifK c300
 (LV.cs l70 fun b301 n302 n303 y304 =>
 req (Bool.and (ile (0 : Int) x72) (ilt x72 (Int.ofNat n303))) <|
 let n305 : Nat := (n302 + ((Int.toNat x72) * 1));
 F46_q23 D J S p0 p1 l70 x71 x72 b301 n305 K)
 (PV.cs p1 fun b326 n327 =>
 let n328 : Nat := (n327 + 0);
 St.at S b326 n328 fun y329 =>
 uncK y329 fun v330 y331 =>
 SV.cS v330 fun y336 =>
 F46_q24 D J S p0 p1 y336 K)
noncomputable def X46_13 : X := (.op (.br (.op (.op (.op (.jmp 13 [0, 1, 70, 71, 72])))) (.op (.jmp 19 [0, 1, 91]))))
theorem F46_13_eq (D J : Disp) (p0 : PV) (p1 : PV) (l70 : LV) (x71 : Int) (x72 : Int) (S : St) (K : AV → St → Prop) : F46_13 D J p0 p1 l70 x71 x72 S K = execK SynP SynG Go.Proofs.Tryz.f46 (typed SynP D) J plans46 X46_13 (T46 13).1 (envOf (T46 13).2 [(AV.one (V1.s (SV.ptr p0))), (AV.one (V1.s (SV.ptr p1))), (AV.one (V1.s (SV.sl l70))), (AV.one (V1.s (SV.int IntKind.i64 x71))), (AV.one (V1.s (SV.int IntKind.i64 x72)))]) S K := by kernel_rfl
noncomputable def F46_q25 (D J : Disp) (S : St) (p0 : PV) (p1 : PV) (K : AV → St → Prop) : Prop :=
 PV.cs p0 fun b300 n301 =>
 let n302 : Nat := (n301 + 0);
 PV.cs p1 fun b303 n304 =>
 let n305 : Nat := (n304 + 1);
 St.at S b303 n305 fun y306 =>
 uncK y306 fun v307 y308 =>
 SV.cS v307 fun y313 =>
 req (Nat.blt (1 + (List.length y313)) 9223372036854775808) <|
 let s314 : (List Nat) := ([32] ++ y313);
 D 43 [(AV.one (V1.s (SV.ptr (PV.mk b300 n302)))), (AV.one (V1.s (SV.str s314)))] S fun v315 S316 =>
 J 21 [(AV.one (V1.s (SV.ptr p0)))] S316 K
noncomputable def F46_19 (D J : Disp) (p0 : PV) (p1 : PV) (c91 : Bool) (S : St) (K : AV → St → Prop) : Prop :=
 ifK c91
 (F46_q25 D J S p0 p1 K)
 (J 21 [(AV.one (V1.s (SV.ptr p0)))] S K)
noncomputable def X46_19 : X := (.br (.op (.jmp 21 [0])) (.jmp 21 [0]))
theorem F46_19_eq (D J : Disp) (p0 : PV) (p1 : PV) (c91 : Bool) (S : St) (K : AV → St → Prop) : F46_19 D J p0 p1 c91 S K = execK SynP SynG Go.Proofs.Tryz.f46 (typed SynP D) J plans46 X46_19 (T46 19).1 (envOf (T46 19).2 [(AV.one (V1.s (SV.ptr p0))), (AV.one (V1.s (SV.ptr p1))), (AV.one (V1.s (SV.bool c91)))]) S K := by kernel_rfl
noncomputable def F46_21 (D J : Disp) (p0 : PV) (S : St) (K : AV → St → Prop) : Prop :=
 D 47 [(AV.one (V1.s (SV.ptr p0)))] S fun v300 S301 =>
 avT v300 fun y303 =>
 endL y303 (K ((AV.tup [])) S301)
noncomputable def X46_21 : X := (.op .ret)
theorem F46_21_eq (D J : Disp) (p0 : PV) (S : St) (K : AV → St → Prop) : F46_21 D J p0 S K = execK SynP SynG Go.Proofs.Tryz.f46 (typed SynP D) J plans46 X46_21 (T46 21).1 (envOf (T46 21).2 [(AV.one (V1.s (SV.ptr p0)))]) S K := by kernel_rfl
noncomputable def F46_q22 (D J : Disp) (S : St) (p0 : PV) (p1 : PV) (l4 : LV) (b300 : Bk) (n301 : Nat) (K : AV → St → Prop) : Prop :=
 let n302 : Nat := (n301 + 1);
 St.at S b300 n302 fun y303 =>
 uncK y303 fun v304 y305 =>
 SV.cS v304 fun y310 =>
 let d311 : (Sum Nat Nat) := (Sum.inl 1);
 let S312 : St := (St.add S (AO.cells [(SV.str y310)] Op2.sh));
 St.src S312 1 (LV.mk (Bk.new (St.next S)) 0 1 d311) fun y313 n314 =>
 St.app S312 9 1 16 l4 y313 n314 fun y315 S316 =>
 J 11 [(AV.one (V1.s (SV.ptr p0))), (AV.one (V1.s (SV.ptr p1))), (AV.one (V1.s (SV.sl y315)))] S316 K
noncomputable def F46_28 (D J : Disp) (p0 : PV) (p1 : PV) (l4 : LV) (c52 : Bool) (S : St) (K : AV → St → Prop) : Prop :=
 ifK c52
 (PV.cs p1 fun b300 n301 =>
 F46_q22 D J S p0 p1 l4 b300 n301 K)
 (J 11 [(AV.one (V1.s (SV.ptr p0))), (AV.one (V1.s (SV.ptr p1))), (AV.one (V1.s (SV.sl l4)))] S K)
noncomputable def X46_28 : X := (.br (.op (.jmp 11 [0, 1, 4])) (.jmp 11 [0, 1, 4]))
theorem F46_28_eq (D J : Disp) (p0 : PV) (p1 : PV) (l4 : LV) (c52 : Bool) (S : St) (K : AV → St → Prop) : F46_28 D J p0 p1 l4 c52 S K = execK SynP SynG Go.Proofs.Tryz.f46 (typed SynP D) J plans46 X46_28 (T46 28).1 (envOf (T46 28).2 [(AV.one (V1.s (SV.ptr p0))), (AV.one (V1.s (SV.ptr p1))), (AV.one (V1.s (SV.sl l4))), (AV.one (V1.s (SV.bool c52)))]) S K := by kernel_rfl
noncomputable abbrev A46_0 (D J : Disp) (vals : List AV) (S : St) (K : AV → St → Prop) : Prop :=
  uncA vals fun a9001 r9002 => scK a9001 fun s9004 => SV.cP s9004 fun p0 => uncA r9002 fun a9007 r9008 => scK a9007 fun s9010 => SV.cP s9010 fun p1 => endL r9008 <| F46_0 D J p0 p1 S K
theorem A46_0_ok {D J : Disp} (hD : DOK SynP SynG D) (hJ : JOK SynP SynG Go.Proofs.Tryz.f46 T46 J) {vals : List AV} {S : St} {K : AV → St → Prop} (h0 : A46_0 D J vals S K) : Runs SynP SynG Go.Proofs.Tryz.f46 (T46 0).1 (envOf (T46 0).2 vals) S K := by
  obtain ⟨a9001, r9002, rfl, h3⟩ := uncA_some h0
  obtain ⟨s9004, rfl, h5⟩ := scK_some h3
  obtain ⟨p0, rfl, h6⟩ := cP_some h5
  obtain ⟨a9007, r9008, rfl, h9⟩ := uncA_some h6
  obtain ⟨s9010, rfl, h11⟩ := scK_some h9
  obtain ⟨p1, rfl, h12⟩ := cP_some h11
  obtain ⟨rfl, h13⟩ := endL_some h12
  rw [F46_0_eq] at h13
  exact execK_runs hD.typed Syn_zero Syn_mixed hJ X46_0 (T46 0).1 (envOf (T46 0).2 _) S K (chk_of (by kernel_rfl) (by kernel_rfl)) h13
noncomputable abbrev A46_9 (D J : Disp) (vals : List AV) (S : St) (K : AV → St → Prop) : Prop :=
  uncA vals fun a9001 r9002 => scK a9001 fun s9004 => SV.cP s9004 fun p0 => uncA r9002 fun a9007 r9008 => scK a9007 fun s9010 => SV.cP s9010 fun p1 => uncA r9008 fun a9013 r9014 => scK a9013 fun s9016 => SV.cL s9016 fun l4 => uncA r9014 fun a9019 r9020 => scK a9019 fun s9022 => SV.cS s9022 fun s25 => uncA r9020 fun a9025 r9026 => scK a9025 fun s9028 => SV.cB s9028 fun c26 => endL r9026 <| F46_9 D J p0 p1 l4 s25 c26 S K
theorem A46_9_ok {D J : Disp} (hD : DOK SynP SynG D) (hJ : JOK SynP SynG Go.Proofs.Tryz.f46 T46 J) {vals : List AV} {S : St} {K : AV → St → Prop} (h0 : A46_9 D J vals S K) : Runs SynP SynG Go.Proofs.Tryz.f46 (T46 9).1 (envOf (T46 9).2 vals) S K := by
  obtain ⟨a9001, r9002, rfl, h3⟩ := uncA_some h0
  obtain ⟨s9004, rfl, h5⟩ := scK_some h3
  obtain ⟨p0, rfl, h6⟩ := cP_some h5
  obtain ⟨a9007, r9008, rfl, h9⟩ := uncA_some h6
  obtain ⟨s9010, rfl, h11⟩ := scK_some h9
  obtain ⟨p1, rfl, h12⟩ := cP_some h11
  obtain ⟨a9013, r9014, rfl, h15⟩ := uncA_some h12
  obtain ⟨s9016, rfl, h17⟩ := scK_some h15
  obtain ⟨l4, rfl, h18⟩ := cL_some h17
  obtain ⟨a9019, r9020, rfl, h21⟩ := uncA_some h18
  obtain ⟨s9022, rfl, h23⟩ := scK_some h21
  obtain ⟨s25, rfl, h24⟩ := cS_some h23
  obtain ⟨a9025, r9026, rfl, h27⟩ := uncA_some h24
  obtain ⟨s9028, rfl, h29⟩ := scK_some h27
  obtain ⟨c26, rfl, h30⟩ := cB_some h29
  obtain ⟨rfl, h31⟩ := endL_some h30
  rw [F46_9_eq] at h31
  exact execK_runs hD.typed Syn_zero Syn_mixed hJ X46_9 (T46 9).1 (envOf (T46 9).2 _) S K (chk_of (by kernel_rfl) (by kernel_rfl)) h31
noncomputable abbrev A46_11 (D J : Disp) (vals : List AV) (S : St) (K : AV → St → Prop) : Prop :=
  uncA vals fun a9001 r9002 => scK a9001 fun s9004 => SV.cP s9004 fun p0 => uncA r9002 fun a9007 r9008 => scK a9007 fun s9010 => SV.cP s9010 fun p1 => uncA r9008 fun a9013 r9014 => scK a9013 fun s9016 => SV.cL s9016 fun l4 => endL r9014 <| F46_11 D J p0 p1 l4 S K
theorem A46_11_ok {D J : Disp} (hD : DOK SynP SynG D) (hJ : JOK SynP SynG Go.Proofs.Tryz.f46 T46 J) {vals : List AV} {S : St} {K : AV → St → Prop} (h0 : A46_11 D J vals S K) : Runs SynP SynG Go.Proofs.Tryz.f46 (T46 11).1 (envOf (T46 11).2 vals) S K := by
  obtain ⟨a9001, r9002, rfl, h3⟩ := uncA_some h0
  obtain ⟨s9004, rfl, h5⟩ := scK_some h3
  obtain ⟨p0, rfl, h6⟩ := cP_some h5
  obtain ⟨a9007, r9008, rfl, h9⟩ := uncA_some h6
  obtain ⟨s9010, rfl, h11⟩ := scK_some h9
  obtain ⟨p1, rfl, h12⟩ := cP_some h11
  obtain ⟨a9013, r9014, rfl, h15⟩ := uncA_some h12
  obtain ⟨s9016, rfl, h17⟩ := scK_some h15
  obtain ⟨l4, rfl, h18⟩ := cL_some h17
  obtain ⟨rfl, h19⟩ := endL_some h18
  rw [F46_11_eq] at h19
  exact execK_runs hD.typed Syn_zero Syn_mixed hJ X46_11 (T46 11).1 (envOf (T46 11).2 _) S K (chk_of (by kernel_rfl) (by kernel_rfl)) h19
noncomputable abbrev A46_13 (D J : Disp) (vals : List AV) (S : St) (K : AV → St → Prop) : Prop :=
  uncA vals fun a9001 r9002 => scK a9001 fun s9004 => SV.cP s9004 fun p0 => uncA r9002 fun a9007 r9008 => scK a9007 fun s9010 => SV.cP s9010 fun p1 => uncA r9008 fun a9013 r9014 => scK a9013 fun s9016 => SV.cL s9016 fun l70 => uncA r9014 fun a9019 r9020 => scK a9019 fun s9022 => SV.cI IntKind.i64 s9022 fun x71 => uncA r9020 fun a9025 r9026 => scK a9025 fun s9028 => SV.cI IntKind.i64 s9028 fun x72 => endL r9026 <| F46_13 D J p0 p1 l70 x71 x72 S K
theorem A46_13_ok {D J : Disp} (hD : DOK SynP SynG D) (hJ : JOK SynP SynG Go.Proofs.Tryz.f46 T46 J) {vals : List AV} {S : St} {K : AV → St → Prop} (h0 : A46_13 D J vals S K) : Runs SynP SynG Go.Proofs.Tryz.f46 (T46 13).1 (envOf (T46 13).2 vals) S K := by
  obtain ⟨a9001, r9002, rfl, h3⟩ := uncA_some h0
  obtain ⟨s9004, rfl, h5⟩ := scK_some h3
  obtain ⟨p0, rfl, h6⟩ := cP_some h5
  obtain ⟨a9007, r9008, rfl, h9⟩ := uncA_some h6
  obtain ⟨s9010, rfl, h11⟩ := scK_some h9
  obtain ⟨p1, rfl, h12⟩ := cP_some h11
  obtain ⟨a9013, r9014, rfl, h15⟩ := uncA_some h12
  obtain ⟨s9016, rfl, h17⟩ := scK_some h15
  obtain ⟨l70, rfl, h18⟩ := cL_some h17
  obtain ⟨a9019, r9020, rfl, h21⟩ := uncA_some h18
  obtain ⟨s9022, rfl, h23⟩ := scK_some h21
  obtain ⟨x71, rfl, h24⟩ := cI_some h23
  obtain ⟨a9025, r9026, rfl, h27⟩ := uncA_some h24
  obtain ⟨s9028, rfl, h29⟩ := scK_some h27
  obtain ⟨x72, rfl, h30⟩ := cI_some h29
  obtain ⟨rfl, h31⟩ := endL_some h30
  rw [F46_13_eq] at h31
  exact execK_runs hD.typed Syn_zero Syn_mixed hJ X46_13 (T46 13).1 (envOf (T46 13).2 _) S K (chk_of (by kernel_rfl) (by kernel_rfl)) h31
noncomputable abbrev A46_19 (D J : Disp) (vals : List AV) (S : St) (K : AV → St → Prop) : Prop :=
  uncA vals fun a9001 r9002 => scK a9001 fun s9004 => SV.cP s9004 fun p0 => uncA r9002 fun a9007 r9008 => scK a9007 fun s9010 => SV.cP s9010 fun p1 => uncA r9008 fun a9013 r9014 => scK a9013 fun s9016 => SV.cB s9016 fun c91 => endL r9014 <| F46_19 D J p0 p1 c91 S K
theorem A46_19_ok {D J : Disp} (hD : DOK SynP SynG D) (hJ : JOK SynP SynG Go.Proofs.Tryz.f46 T46 J) {vals : List AV} {S : St} {K : AV → St → Prop} (h0 : A46_19 D J vals S K) : Runs SynP SynG Go.Proofs.Tryz.f46 (T46 19).1 (envOf (T46 19).2 vals) S K := by
  obtain ⟨a9001, r9002, rfl, h3⟩ := uncA_some h0
  obtain ⟨s9004, rfl, h5⟩ := scK_some h3
  obtain ⟨p0, rfl, h6⟩ := cP_some h5
  obtain ⟨a9007, r9008, rfl, h9⟩ := uncA_some h6
  obtain ⟨s9010, rfl, h11⟩ := scK_some h9
  obtain ⟨p1, rfl, h12⟩ := cP_some h11
  obtain ⟨a9013, r9014, rfl, h15⟩ := uncA_some h12
  obtain ⟨s9016, rfl, h17⟩ := scK_some h15
  obtain ⟨c91, rfl, h18⟩ := cB_some h17
  obtain ⟨rfl, h19⟩ := endL_some h18
  rw [F46_19_eq] at h19
  exact execK_runs hD.typed Syn_zero Syn_mixed hJ X46_19 (T46 19).1 (envOf (T46 19).2 _) S K (chk_of (by kernel_rfl) (by kernel_rfl)) h19
noncomputable abbrev A46_21 (D J : Disp) (vals : List AV) (S : St) (K : AV → St → Prop) : Prop :=
  uncA vals fun a9001 r9002 => scK a9001 fun s9004 => SV.cP s9004 fun p0 => endL r9002 <| F46_21 D J p0 S K
theorem A46_21_ok {D J : Disp} (hD : DOK SynP SynG D) (hJ : JOK SynP SynG Go.Proofs.Tryz.f46 T46 J) {vals : List AV} {S : St} {K : AV → St → Prop} (h0 : A46_21 D J vals S K) : Runs SynP SynG Go.Proofs.Tryz.f46 (T46 21).1 (envOf (T46 21).2 vals) S K := by
  obtain ⟨a9001, r9002, rfl, h3⟩ := uncA_some h0
  obtain ⟨s9004, rfl, h5⟩ := scK_some h3
  obtain ⟨p0, rfl, h6⟩ := cP_some h5
  obtain ⟨rfl, h7⟩ := endL_some h6
  rw [F46_21_eq] at h7
  exact execK_runs hD.typed Syn_zero Syn_mixed hJ X46_21 (T46 21).1 (envOf (T46 21).2 _) S K (chk_of (by kernel_rfl) (by kernel_rfl)) h7
noncomputable abbrev A46_28 (D J : Disp) (vals : List AV) (S : St) (K : AV → St → Prop) : Prop :=
  uncA vals fun a9001 r9002 => scK a9001 fun s9004 => SV.cP s9004 fun p0 => uncA r9002 fun a9007 r9008 => scK a9007 fun s9010 => SV.cP s9010 fun p1 => uncA r9008 fun a9013 r9014 => scK a9013 fun s9016 => SV.cL s9016 fun l4 => uncA r9014 fun a9019 r9020 => scK a9019 fun s9022 => SV.cB s9022 fun c52 => endL r9020 <| F46_28 D J p0 p1 l4 c52 S K
theorem A46_28_ok {D J : Disp} (hD : DOK SynP SynG D) (hJ : JOK SynP SynG Go.Proofs.Tryz.f46 T46 J) {vals : List AV} {S : St} {K : AV → St → Prop} (h0 : A46_28 D J vals S K) : Runs SynP SynG Go.Proofs.Tryz.f46 (T46 28).1 (envOf (T46 28).2 vals) S K := by
  obtain ⟨a9001, r9002, rfl, h3⟩ := uncA_some h0
  obtain ⟨s9004, rfl, h5⟩ := scK_some h3
  obtain ⟨p0, rfl, h6⟩ := cP_some h5
  obtain ⟨a9007, r9008, rfl, h9⟩ := uncA_some h6
  obtain ⟨s9010, rfl, h11⟩ := scK_some h9
  obtain ⟨p1, rfl, h12⟩ := cP_some h11
  obtain ⟨a9013, r9014, rfl, h15⟩ := uncA_some h12
  obtain ⟨s9016, rfl, h17⟩ := scK_some h15
  obtain ⟨l4, rfl, h18⟩ := cL_some h17
  obtain ⟨a9019, r9020, rfl, h21⟩ := uncA_some h18
  obtain ⟨s9022, rfl, h23⟩ := scK_some h21
  obtain ⟨c52, rfl, h24⟩ := cB_some h23
  obtain ⟨rfl, h25⟩ := endL_some h24
  rw [F46_28_eq] at h25
  exact execK_runs hD.typed Syn_zero Syn_mixed hJ X46_28 (T46 28).1 (envOf (T46 28).2 _) S K (chk_of (by kernel_rfl) (by kernel_rfl)) h25
noncomputable def J46 (D : Disp) (k : Nat) : Disp := Nat.rec (motive := fun _ => Disp) Disp.no (fun _ ih => Disp.add 0 (A46_0 D ih) <| Disp.add 9 (A46_9 D ih) <| Disp.add 11 (A46_11 D ih) <| Disp.add 13 (A46_13 D ih) <| Disp.add 19 (A46_19 D ih) <| Disp.add 21 (A46_21 D ih) <| Disp.add 28 (A46_28 D ih) <| Disp.no) k
theorem J46_ok {D : Disp} (hD : DOK SynP SynG D) : ∀ k, JOK SynP SynG Go.Proofs.Tryz.f46 T46 (J46 D k)
  | 0 => JOK.no
  | k + 1 => JOK.add (ltB_ok (by kernel_rfl)) (fun vals S K h => A46_0_ok hD (J46_ok hD k) h) <| JOK.add (ltB_ok (by kernel_rfl)) (fun vals S K h => A46_9_ok hD (J46_ok hD k) h) <| JOK.add (ltB_ok (by kernel_rfl)) (fun vals S K h => A46_11_ok hD (J46_ok hD k) h) <| JOK.add (ltB_ok (by kernel_rfl)) (fun vals S K h => A46_13_ok hD (J46_ok hD k) h) <| JOK.add (ltB_ok (by kernel_rfl)) (fun vals S K h => A46_19_ok hD (J46_ok hD k) h) <| JOK.add (ltB_ok (by kernel_rfl)) (fun vals S K h => A46_21_ok hD (J46_ok hD k) h) <| JOK.add (ltB_ok (by kernel_rfl)) (fun vals S K h => A46_28_ok hD (J46_ok hD k) h) <| JOK.no
theorem E46_ok {D : Disp} (hD : DOK SynP SynG D) (k : Nat) {args : List AV} {S : St} {K : AV → St → Prop} (h : A46_0 D (J46 D k) args S K) : CallE SynP SynG 46 args S K := by
  have hr := A46_0_ok hD (J46_ok hD k) h
  have hl : args.length = 2 := by
    have h0 := h
    obtain ⟨a9001, r9002, rfl, h3⟩ := uncA_some h0
    obtain ⟨s9004, rfl, h5⟩ := scK_some h3
    obtain ⟨p0, rfl, h6⟩ := cP_some h5
    obtain ⟨a9007, r9008, rfl, h9⟩ := uncA_some h6
    obtain ⟨s9010, rfl, h11⟩ := scK_some h9
    obtain ⟨p1, rfl, h12⟩ := cP_some h11
    obtain ⟨rfl, h13⟩ := endL_some h12
    rfl
  refine callOK_of (fn := Go.Proofs.Tryz.f46) (c := (match Go.Proofs.Tryz.f46.body with | some c => c | none => .skip)) (by kernel_rfl) (by kernel_rfl) (by kernel_rfl) (by rw [hl]; kernel_rfl) (by kernel_rfl) ?_
  rw [hl]
  exact hr
noncomputable def plans47 (i : Nat) : Plan := []
noncomputable def T47 (p : Nat) : List Item × List Nat := bif Nat.beq p 0 then ([.code (match Go.Proofs.Tryz.f47.body with | some c => c | none => .skip)], [0]) else
  ([], [])
noncomputable def F47_0 (D J : Disp) (p0 : PV) (S : St) (K : AV → St → Prop) : Prop :=
 PV.cs p0 fun b300 n301 =>
 let n302 : Nat := (n301 + 0);
 D 43 [(AV.one (V1.s (SV.ptr (PV.mk b300 n302)))), (AV.one (V1.s (SV.str [41])))] S fun v303 S304 =>
 K ((AV.tup [])) S304
noncomputable def X47_0 : X := (.op .ret)
theorem F47_0_eq (D J : Disp) (p0 : PV) (S : St) (K : AV → St → Prop) : F47_0 D J p0 S K = execK SynP SynG Go.Proofs.Tryz.f47 (typed SynP D) J plans47 X47_0 (T47 0).1 (envOf (T47 0).2 [(AV.one (V1.s (SV.ptr p0)))]) S K := by kernel_rfl
noncomputable abbrev A47_0 (D J : Disp) (vals : List AV) (S : St) (K : AV → St → Prop) : Prop :=
  uncA vals fun a9001 r9002 => scK a9001 fun s9004 => SV.cP s9004 fun p0 => endL r9002 <| F47_0 D J p0 S K
theorem A47_0_ok {D J : Disp} (hD : DOK SynP SynG D) (hJ : JOK SynP SynG Go.Proofs.Tryz.f47 T47 J) {vals : List AV} {S : St} {K : AV → St → Prop} (h0 : A47_0 D J vals S K) : Runs SynP SynG Go.Proofs.Tryz.f47 (T47 0).1 (envOf (T47 0).2 vals) S K := by
  obtain ⟨a9001, r9002, rfl, h3⟩ := uncA_some h0
  obtain ⟨s9004, rfl, h5⟩ := scK_some h3
  obtain ⟨p0, rfl, h6⟩ := cP_some h5
  obtain ⟨rfl, h7⟩ := endL_some h6
  rw [F47_0_eq] at h7
  exact execK_runs hD.typed Syn_zero Syn_mixed hJ X47_0 (T47 0).1 (envOf (T47 0).2 _) S K (chk_of (by kernel_rfl) (by kernel_rfl)) h7
noncomputable def J47 (D : Disp) (k : Nat) : Disp := Nat.rec (motive := fun _ => Disp) Disp.no (fun _ ih => Disp.add 0 (A47_0 D ih) <| Disp.no) k
theorem J47_ok {D : Disp} (hD : DOK SynP SynG D) : ∀ k, JOK SynP SynG Go.Proofs.Tryz.f47 T47 (J47 D k)
  | 0 => JOK.no
  | k + 1 => JOK.add (ltB_ok (by kernel_rfl)) (fun vals S K h => A47_0_ok hD (J47_ok hD k) h) <| JOK.no
theorem E47_ok {D : Disp} (hD : DOK SynP SynG D) (k : Nat) {args : List AV} {S : St} {K : AV → St → Prop} (h : A47_0 D (J47 D k) args S K) : CallE SynP SynG 47 args S K := by
  have hr := A47_0_ok hD (J47_ok hD k) h
  have hl : args.length = 1 := by
    have h0 := h
    obtain ⟨a9001, r9002, rfl, h3⟩ := uncA_some h0
    obtain ⟨s9004, rfl, h5⟩ := scK_some h3
    obtain ⟨p0, rfl, h6⟩ := cP_some h5
    obtain ⟨rfl, h7⟩ := endL_some h6
    rfl
  refine callOK_of (fn := Go.Proofs.Tryz.f47) (c := (match Go.Proofs.Tryz.f47.body with | some c => c | none => .skip)) (by kernel_rfl) (by kernel_rfl) (by kernel_rfl) (by rw [hl]; kernel_rfl) (by kernel_rfl) ?_
  rw [hl]
  exact hr
end
end Go.Xe
