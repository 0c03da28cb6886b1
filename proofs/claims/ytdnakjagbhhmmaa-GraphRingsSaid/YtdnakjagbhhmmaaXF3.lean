import Derived.Test.YtdnakjagbhhmmaaXF0
import Derived.KernelRfl
set_option linter.unusedVariables false
set_option maxRecDepth 100000
namespace Go.Xe
open Go.RowKit
noncomputable section
noncomputable def plans45 (i : Nat) : Plan := []
noncomputable def T45 (p : Nat) : List Item × List Nat := bif Nat.beq p 0 then ([.code (match Go.Proofs.Try.f45.body with | some c => c | none => .skip)], [0]) else
  ([], [])
noncomputable def F45_0 (D J : Disp) (x0_0 : Int) (x0_1 : Int) (x0_2 : Int) (x0_3 : Int) (x0_4 : Int) (x0_5 : Int) (x0_6 : Int) (c0_7 : Bool) (l0_8 : LV) (l0_9 : LV) (l0_10 : LV) (S : St) (K : AV → St → Prop) : Prop :=
 let S300 : St := (St.add S (AO.cells [(SV.int IntKind.i64 x0_0), (SV.int IntKind.i64 x0_1), (SV.int IntKind.i64 x0_2), (SV.int IntKind.i64 x0_3), (SV.int IntKind.i64 x0_4), (SV.int IntKind.i64 x0_5), (SV.int IntKind.i64 x0_6), (SV.bool c0_7), (SV.sl l0_8), (SV.sl l0_9), (SV.sl l0_10)] Bool.false));
 St.at S300 (Bk.new (St.next S)) 0 fun y301 =>
 uncK y301 fun v302 y303 =>
 SV.cI IntKind.i64 v302 fun x307 =>
 let c308 : Bool := (ile (14 : Int) x307);
 ifK c308
 (St.at S300 (Bk.new (St.next S)) 0 fun y309 =>
 uncK y309 fun v310 y311 =>
 SV.cI IntKind.i64 v310 fun x315 =>
 let c316 : Bool := (ilt x315 (22 : Int));
 K ((AV.one (V1.s (SV.bool c316)))) S300)
 (K ((AV.one (V1.s (SV.bool Bool.false)))) S300)
noncomputable def X45_0 : X := (.op (.op .ret))
theorem F45_0_eq (D J : Disp) (x0_0 : Int) (x0_1 : Int) (x0_2 : Int) (x0_3 : Int) (x0_4 : Int) (x0_5 : Int) (x0_6 : Int) (c0_7 : Bool) (l0_8 : LV) (l0_9 : LV) (l0_10 : LV) (S : St) (K : AV → St → Prop) : F45_0 D J x0_0 x0_1 x0_2 x0_3 x0_4 x0_5 x0_6 c0_7 l0_8 l0_9 l0_10 S K = execK GraphP GraphG Go.Proofs.Try.f45 (typed GraphP D) J plans45 X45_0 (T45 0).1 (envOf (T45 0).2 [(AV.one (V1.agg [(SV.int IntKind.i64 x0_0), (SV.int IntKind.i64 x0_1), (SV.int IntKind.i64 x0_2), (SV.int IntKind.i64 x0_3), (SV.int IntKind.i64 x0_4), (SV.int IntKind.i64 x0_5), (SV.int IntKind.i64 x0_6), (SV.bool c0_7), (SV.sl l0_8), (SV.sl l0_9), (SV.sl l0_10)]))]) S K := by kernel_rfl
noncomputable abbrev A45_0 (D J : Disp) (vals : List AV) (S : St) (K : AV → St → Prop) : Prop :=
  uncA vals fun a9001 r9002 => avA a9001 fun l9004 => uncK l9004 fun s9006 r9007 => SV.cI IntKind.i64 s9006 fun x0_0 => uncK r9007 fun s9010 r9011 => SV.cI IntKind.i64 s9010 fun x0_1 => uncK r9011 fun s9014 r9015 => SV.cI IntKind.i64 s9014 fun x0_2 => uncK r9015 fun s9018 r9019 => SV.cI IntKind.i64 s9018 fun x0_3 => uncK r9019 fun s9022 r9023 => SV.cI IntKind.i64 s9022 fun x0_4 => uncK r9023 fun s9026 r9027 => SV.cI IntKind.i64 s9026 fun x0_5 => uncK r9027 fun s9030 r9031 => SV.cI IntKind.i64 s9030 fun x0_6 => uncK r9031 fun s9034 r9035 => SV.cB s9034 fun c0_7 => uncK r9035 fun s9038 r9039 => SV.cL s9038 fun l0_8 => uncK r9039 fun s9042 r9043 => SV.cL s9042 fun l0_9 => uncK r9043 fun s9046 r9047 => SV.cL s9046 fun l0_10 => endL r9047 <| endL r9002 <| F45_0 D J x0_0 x0_1 x0_2 x0_3 x0_4 x0_5 x0_6 c0_7 l0_8 l0_9 l0_10 S K
theorem A45_0_ok {D J : Disp} (hD : DOK GraphP GraphG D) (hJ : JOK GraphP GraphG Go.Proofs.Try.f45 T45 J) {vals : List AV} {S : St} {K : AV → St → Prop} (h0 : A45_0 D J vals S K) : Runs GraphP GraphG Go.Proofs.Try.f45 (T45 0).1 (envOf (T45 0).2 vals) S K := by
  obtain ⟨a9001, r9002, rfl, h3⟩ := uncA_some h0
  obtain ⟨l9004, rfl, h5⟩ := avA_some h3
  obtain ⟨s9006, r9007, rfl, h8⟩ := uncK_some h5
  obtain ⟨x0_0, rfl, h9⟩ := cI_some h8
  obtain ⟨s9010, r9011, rfl, h12⟩ := uncK_some h9
  obtain ⟨x0_1, rfl, h13⟩ := cI_some h12
  obtain ⟨s9014, r9015, rfl, h16⟩ := uncK_some h13
  obtain ⟨x0_2, rfl, h17⟩ := cI_some h16
  obtain ⟨s9018, r9019, rfl, h20⟩ := uncK_some h17
  obtain ⟨x0_3, rfl, h21⟩ := cI_some h20
  obtain ⟨s9022, r9023, rfl, h24⟩ := uncK_some h21
  obtain ⟨x0_4, rfl, h25⟩ := cI_some h24
  obtain ⟨s9026, r9027, rfl, h28⟩ := uncK_some h25
  obtain ⟨x0_5, rfl, h29⟩ := cI_some h28
  obtain ⟨s9030, r9031, rfl, h32⟩ := uncK_some h29
  obtain ⟨x0_6, rfl, h33⟩ := cI_some h32
  obtain ⟨s9034, r9035, rfl, h36⟩ := uncK_some h33
  obtain ⟨c0_7, rfl, h37⟩ := cB_some h36
  obtain ⟨s9038, r9039, rfl, h40⟩ := uncK_some h37
  obtain ⟨l0_8, rfl, h41⟩ := cL_some h40
  obtain ⟨s9042, r9043, rfl, h44⟩ := uncK_some h41
  obtain ⟨l0_9, rfl, h45⟩ := cL_some h44
  obtain ⟨s9046, r9047, rfl, h48⟩ := uncK_some h45
  obtain ⟨l0_10, rfl, h49⟩ := cL_some h48
  obtain ⟨rfl, h50⟩ := endL_some h49
  obtain ⟨rfl, h51⟩ := endL_some h50
  rw [F45_0_eq] at h51
  exact execK_runs hD.typed Graph_zero Graph_mixed hJ X45_0 (T45 0).1 (envOf (T45 0).2 _) S K (chk_of (by kernel_rfl) (by kernel_rfl)) h51
noncomputable def J45 (D : Disp) (k : Nat) : Disp := Nat.rec (motive := fun _ => Disp) Disp.no (fun _ ih => Disp.add 0 (A45_0 D ih) <| Disp.no) k
theorem J45_ok {D : Disp} (hD : DOK GraphP GraphG D) : ∀ k, JOK GraphP GraphG Go.Proofs.Try.f45 T45 (J45 D k)
  | 0 => JOK.no
  | k + 1 => JOK.add (ltB_ok (by kernel_rfl)) (fun vals S K h => A45_0_ok hD (J45_ok hD k) h) <| JOK.no
theorem E45_ok {D : Disp} (hD : DOK GraphP GraphG D) (k : Nat) {args : List AV} {S : St} {K : AV → St → Prop} (h : A45_0 D (J45 D k) args S K) : CallOK GraphP GraphG 45 args S K := by
  have hr := A45_0_ok hD (J45_ok hD k) h
  have hl : args.length = 1 := by
    have h0 := h
    obtain ⟨a9001, r9002, rfl, h3⟩ := uncA_some h0
    obtain ⟨l9004, rfl, h5⟩ := avA_some h3
    obtain ⟨s9006, r9007, rfl, h8⟩ := uncK_some h5
    obtain ⟨x0_0, rfl, h9⟩ := cI_some h8
    obtain ⟨s9010, r9011, rfl, h12⟩ := uncK_some h9
    obtain ⟨x0_1, rfl, h13⟩ := cI_some h12
    obtain ⟨s9014, r9015, rfl, h16⟩ := uncK_some h13
    obtain ⟨x0_2, rfl, h17⟩ := cI_some h16
    obtain ⟨s9018, r9019, rfl, h20⟩ := uncK_some h17
    obtain ⟨x0_3, rfl, h21⟩ := cI_some h20
    obtain ⟨s9022, r9023, rfl, h24⟩ := uncK_some h21
    obtain ⟨x0_4, rfl, h25⟩ := cI_some h24
    obtain ⟨s9026, r9027, rfl, h28⟩ := uncK_some h25
    obtain ⟨x0_5, rfl, h29⟩ := cI_some h28
    obtain ⟨s9030, r9031, rfl, h32⟩ := uncK_some h29
    obtain ⟨x0_6, rfl, h33⟩ := cI_some h32
    obtain ⟨s9034, r9035, rfl, h36⟩ := uncK_some h33
    obtain ⟨c0_7, rfl, h37⟩ := cB_some h36
    obtain ⟨s9038, r9039, rfl, h40⟩ := uncK_some h37
    obtain ⟨l0_8, rfl, h41⟩ := cL_some h40
    obtain ⟨s9042, r9043, rfl, h44⟩ := uncK_some h41
    obtain ⟨l0_9, rfl, h45⟩ := cL_some h44
    obtain ⟨s9046, r9047, rfl, h48⟩ := uncK_some h45
    obtain ⟨l0_10, rfl, h49⟩ := cL_some h48
    obtain ⟨rfl, h50⟩ := endL_some h49
    obtain ⟨rfl, h51⟩ := endL_some h50
    rfl
  refine callOK_of (fn := Go.Proofs.Try.f45) (c := (match Go.Proofs.Try.f45.body with | some c => c | none => .skip)) (by kernel_rfl) (by kernel_rfl) (by kernel_rfl) (by rw [hl]; kernel_rfl) (by kernel_rfl) ?_
  rw [hl]
  exact hr
noncomputable def plans46 (i : Nat) : Plan := []
noncomputable def T46 (p : Nat) : List Item × List Nat := bif Nat.beq p 0 then ([.code (match Go.Proofs.Try.f46.body with | some c => c | none => .skip)], [0, 1, 2]) else
  bif Nat.beq p 2 then (navs [.op, .op] [.code (match Go.Proofs.Try.f46.body with | some c => c | none => .skip)], [3, 4, 5, 18]) else
  ([], [])
noncomputable def F46_0 (D J : Disp) (l0_0 : LV) (l0_1 : LV) (x0_2 : Int) (s1_0 : (List Nat)) (x1_1 : Int) (x1_2 : Int) (l1_3 : LV) (l1_4 : LV) (c1_5 : Bool) (x2_0 : Int) (x2_1 : Int) (x2_2 : Int) (x2_3 : Int) (x2_4 : Int) (x2_5 : Int) (x2_6 : Int) (c2_7 : Bool) (l2_8 : LV) (l2_9 : LV) (l2_10 : LV) (S : St) (K : AV → St → Prop) : Prop :=
 let S300 : St := (St.add S (AO.cells [(SV.sl l0_0), (SV.sl l0_1), (SV.int IntKind.i64 x0_2)] Bool.false));
 let S301 : St := (St.add S300 (AO.cells [(SV.str s1_0), (SV.int IntKind.i64 x1_1), (SV.int IntKind.i64 x1_2), (SV.sl l1_3), (SV.sl l1_4), (SV.bool c1_5)] Bool.false));
 let S302 : St := (St.add S301 (AO.cells [(SV.int IntKind.i64 x2_0), (SV.int IntKind.i64 x2_1), (SV.int IntKind.i64 x2_2), (SV.int IntKind.i64 x2_3), (SV.int IntKind.i64 x2_4), (SV.int IntKind.i64 x2_5), (SV.int IntKind.i64 x2_6), (SV.bool c2_7), (SV.sl l2_8), (SV.sl l2_9), (SV.sl l2_10)] Bool.false));
 St.at S302 (Bk.new (St.next S301)) 5 fun y303 =>
 uncK y303 fun v304 y305 =>
 SV.cI IntKind.i64 v304 fun x309 =>
 let c310 : Bool := (ilt x309 (0 : Int));
 ifK c310
 (J 2 [(AV.one (V1.s (SV.ptr (PV.mk (Bk.new (St.next S)) 0)))), (AV.one (V1.s (SV.ptr (PV.mk (Bk.new (St.next S300)) 0)))), (AV.one (V1.s (SV.ptr (PV.mk (Bk.new (St.next S301)) 0)))), (AV.one (V1.s (SV.bool Bool.true)))] S302 K)
 (St.at S302 (Bk.new (St.next S301)) 5 fun y311 =>
 uncK y311 fun v312 y313 =>
 SV.cI IntKind.i64 v312 fun x317 =>
 St.at S302 (Bk.new (St.next S)) 1 fun y318 =>
 uncK y318 fun v319 y320 =>
 SV.cL v319 fun y327 =>
 let x328 : Int := (Int.ofNat (LV.len y327));
 let c329 : Bool := (ile x328 x317);
 J 2 [(AV.one (V1.s (SV.ptr (PV.mk (Bk.new (St.next S)) 0)))), (AV.one (V1.s (SV.ptr (PV.mk (Bk.new (St.next S300)) 0)))), (AV.one (V1.s (SV.ptr (PV.mk (Bk.new (St.next S301)) 0)))), (AV.one (V1.s (SV.bool c329)))] S302 K)
noncomputable def X46_0 : X := (.op (.op (.jmp 2 [3, 4, 5, 18])))
theorem F46_0_eq (D J : Disp) (l0_0 : LV) (l0_1 : LV) (x0_2 : Int) (s1_0 : (List Nat)) (x1_1 : Int) (x1_2 : Int) (l1_3 : LV) (l1_4 : LV) (c1_5 : Bool) (x2_0 : Int) (x2_1 : Int) (x2_2 : Int) (x2_3 : Int) (x2_4 : Int) (x2_5 : Int) (x2_6 : Int) (c2_7 : Bool) (l2_8 : LV) (l2_9 : LV) (l2_10 : LV) (S : St) (K : AV → St → Prop) : F46_0 D J l0_0 l0_1 x0_2 s1_0 x1_1 x1_2 l1_3 l1_4 c1_5 x2_0 x2_1 x2_2 x2_3 x2_4 x2_5 x2_6 c2_7 l2_8 l2_9 l2_10 S K = execK GraphP GraphG Go.Proofs.Try.f46 (typed GraphP D) J plans46 X46_0 (T46 0).1 (envOf (T46 0).2 [(AV.one (V1.agg [(SV.sl l0_0), (SV.sl l0_1), (SV.int IntKind.i64 x0_2)])), (AV.one (V1.agg [(SV.str s1_0), (SV.int IntKind.i64 x1_1), (SV.int IntKind.i64 x1_2), (SV.sl l1_3), (SV.sl l1_4), (SV.bool c1_5)])), (AV.one (V1.agg [(SV.int IntKind.i64 x2_0), (SV.int IntKind.i64 x2_1), (SV.int IntKind.i64 x2_2), (SV.int IntKind.i64 x2_3), (SV.int IntKind.i64 x2_4), (SV.int IntKind.i64 x2_5), (SV.int IntKind.i64 x2_6), (SV.bool c2_7), (SV.sl l2_8), (SV.sl l2_9), (SV.sl l2_10)]))]) S K := by kernel_rfl
noncomputable def F46_2 (D J : Disp) (p3 : PV) (p4 : PV) (p5 : PV) (c18 : Bool) (S : St) (K : AV → St → Prop) : Prop :=
 ifK c18
 (K ((AV.one (V1.s (SV.bool Bool.false)))) S)
 (PV.cs p3 fun b300 n301 =>
 let n302 : Nat := (n301 + 1);
 St.at S b300 n302 fun y303 =>
 uncK y303 fun v304 y305 =>
 SV.cL v304 fun y312 =>
 PV.cs p5 fun b313 n314 =>
 let n315 : Nat := (n314 + 5);
 St.at S b313 n315 fun y316 =>
 uncK y316 fun v317 y318 =>
 SV.cI IntKind.i64 v317 fun x322 =>
 LV.cs y312 fun b323 n324 n325 y326 =>
 req (Bool.and (ile (0 : Int) x322) (ilt x322 (Int.ofNat n325))) <|
 let n327 : Nat := (n324 + ((Int.toNat x322) * 6));
 St.at S b323 n327 fun y328 =>
 uncK y328 fun v329 y330 =>
 SV.cS v329 fun y335 =>
 uncK y330 fun v336 y337 =>
 SV.cI IntKind.i64 v336 fun x341 =>
 uncK y337 fun v342 y343 =>
 SV.cI IntKind.i64 v342 fun x347 =>
 uncK y343 fun v348 y349 =>
 SV.cL v348 fun y356 =>
 uncK y349 fun v357 y358 =>
 SV.cL v357 fun y365 =>
 uncK y358 fun v366 y367 =>
 SV.cB v366 fun y369 =>
 let S370 : St := (St.add S (AO.cells [(SV.str []), (SV.int IntKind.i64 (0 : Int)), (SV.int IntKind.i64 (0 : Int)), (SV.sl LV.nil), (SV.sl LV.nil), (SV.bool Bool.false)] Bool.false));
 St.wr S370 (Bk.new (St.next S)) 0 [(SV.str y335), (SV.int IntKind.i64 x341), (SV.int IntKind.i64 x347), (SV.sl y356), (SV.sl y365), (SV.bool y369)] fun S371 =>
 PV.cs p5 fun b372 n373 =>
 let n374 : Nat := (n373 + 8);
 St.at S371 b372 n374 fun y375 =>
 uncK y375 fun v376 y377 =>
 SV.cL v376 fun y384 =>
 let x385 : Int := (Int.ofNat (LV.len y384));
 St.at S371 (Bk.new (St.next S)) 1 fun y386 =>
 uncK y386 fun v387 y388 =>
 SV.cI IntKind.i64 v387 fun x392 =>
 let c393 : Bool := (Bool.not (ieq x385 x392));
 ifK c393
 (K ((AV.one (V1.s (SV.bool Bool.false)))) S371)
 (PV.cs p5 fun b394 n395 =>
 let n396 : Nat := (n395 + 0);
 St.at S371 b394 n396 fun y397 =>
 uncK y397 fun v398 y399 =>
 SV.cI IntKind.i64 v398 fun x403 =>
 let c404 : Bool := (ieq x403 (19 : Int));
 ifK c404
 (St.at S371 (Bk.new (St.next S)) 5 fun y405 =>
 uncK y405 fun v406 y407 =>
 SV.cB v406 fun y409 =>
 ifK y409
 (K ((AV.one (V1.s (SV.bool Bool.true)))) S371)
 (PV.cs p4 fun b410 n411 =>
 let n412 : Nat := (n411 + 5);
 St.at S371 b410 n412 fun y413 =>
 uncK y413 fun v414 y415 =>
 SV.cB v414 fun y417 =>
 let c418 : Bool := (Bool.not y417);
 K ((AV.one (V1.s (SV.bool c418)))) S371))
 (St.at S371 (Bk.new (St.next S)) 5 fun y433 =>
 uncK y433 fun v434 y435 =>
 SV.cB v434 fun y437 =>
 ifK y437
 (K ((AV.one (V1.s (SV.bool Bool.true)))) S371)
 (PV.cs p5 fun b438 n439 =>
 let n440 : Nat := (n439 + 2);
 St.at S371 b438 n440 fun y441 =>
 uncK y441 fun v442 y443 =>
 SV.cI IntKind.i64 v442 fun x447 =>
 let c448 : Bool := (ieq x447 (Int.negSucc 0));
 K ((AV.one (V1.s (SV.bool c448)))) S371))))
noncomputable def X46_2 : X := (.br (.op .ret) (.op (.op (.br (.op .ret) (.op (.br (.op .ret) (.op .ret)))))))
theorem F46_2_eq (D J : Disp) (p3 : PV) (p4 : PV) (p5 : PV) (c18 : Bool) (S : St) (K : AV → St → Prop) : F46_2 D J p3 p4 p5 c18 S K = execK GraphP GraphG Go.Proofs.Try.f46 (typed GraphP D) J plans46 X46_2 (T46 2).1 (envOf (T46 2).2 [(AV.one (V1.s (SV.ptr p3))), (AV.one (V1.s (SV.ptr p4))), (AV.one (V1.s (SV.ptr p5))), (AV.one (V1.s (SV.bool c18)))]) S K := by kernel_rfl
noncomputable abbrev A46_0 (D J : Disp) (vals : List AV) (S : St) (K : AV → St → Prop) : Prop :=
  uncA vals fun a9001 r9002 => avA a9001 fun l9004 => uncK l9004 fun s9006 r9007 => SV.cL s9006 fun l0_0 => uncK r9007 fun s9010 r9011 => SV.cL s9010 fun l0_1 => uncK r9011 fun s9014 r9015 => SV.cI IntKind.i64 s9014 fun x0_2 => endL r9015 <| uncA r9002 fun a9019 r9020 => avA a9019 fun l9022 => uncK l9022 fun s9024 r9025 => SV.cS s9024 fun s1_0 => uncK r9025 fun s9028 r9029 => SV.cI IntKind.i64 s9028 fun x1_1 => uncK r9029 fun s9032 r9033 => SV.cI IntKind.i64 s9032 fun x1_2 => uncK r9033 fun s9036 r9037 => SV.cL s9036 fun l1_3 => uncK r9037 fun s9040 r9041 => SV.cL s9040 fun l1_4 => uncK r9041 fun s9044 r9045 => SV.cB s9044 fun c1_5 => endL r9045 <| uncA r9020 fun a9049 r9050 => avA a9049 fun l9052 => uncK l9052 fun s9054 r9055 => SV.cI IntKind.i64 s9054 fun x2_0 => uncK r9055 fun s9058 r9059 => SV.cI IntKind.i64 s9058 fun x2_1 => uncK r9059 fun s9062 r9063 => SV.cI IntKind.i64 s9062 fun x2_2 => uncK r9063 fun s9066 r9067 => SV.cI IntKind.i64 s9066 fun x2_3 => uncK r9067 fun s9070 r9071 => SV.cI IntKind.i64 s9070 fun x2_4 => uncK r9071 fun s9074 r9075 => SV.cI IntKind.i64 s9074 fun x2_5 => uncK r9075 fun s9078 r9079 => SV.cI IntKind.i64 s9078 fun x2_6 => uncK r9079 fun s9082 r9083 => SV.cB s9082 fun c2_7 => uncK r9083 fun s9086 r9087 => SV.cL s9086 fun l2_8 => uncK r9087 fun s9090 r9091 => SV.cL s9090 fun l2_9 => uncK r9091 fun s9094 r9095 => SV.cL s9094 fun l2_10 => endL r9095 <| endL r9050 <| F46_0 D J l0_0 l0_1 x0_2 s1_0 x1_1 x1_2 l1_3 l1_4 c1_5 x2_0 x2_1 x2_2 x2_3 x2_4 x2_5 x2_6 c2_7 l2_8 l2_9 l2_10 S K
theorem A46_0_ok {D J : Disp} (hD : DOK GraphP GraphG D) (hJ : JOK GraphP GraphG Go.Proofs.Try.f46 T46 J) {vals : List AV} {S : St} {K : AV → St → Prop} (h0 : A46_0 D J vals S K) : Runs GraphP GraphG Go.Proofs.Try.f46 (T46 0).1 (envOf (T46 0).2 vals) S K := by
  obtain ⟨a9001, r9002, rfl, h3⟩ := uncA_some h0
  obtain ⟨l9004, rfl, h5⟩ := avA_some h3
  obtain ⟨s9006, r9007, rfl, h8⟩ := uncK_some h5
  obtain ⟨l0_0, rfl, h9⟩ := cL_some h8
  obtain ⟨s9010, r9011, rfl, h12⟩ := uncK_some h9
  obtain ⟨l0_1, rfl, h13⟩ := cL_some h12
  obtain ⟨s9014, r9015, rfl, h16⟩ := uncK_some h13
  obtain ⟨x0_2, rfl, h17⟩ := cI_some h16
  obtain ⟨rfl, h18⟩ := endL_some h17
  obtain ⟨a9019, r9020, rfl, h21⟩ := uncA_some h18
  obtain ⟨l9022, rfl, h23⟩ := avA_some h21
  obtain ⟨s9024, r9025, rfl, h26⟩ := uncK_some h23
  obtain ⟨s1_0, rfl, h27⟩ := cS_some h26
  obtain ⟨s9028, r9029, rfl, h30⟩ := uncK_some h27
  obtain ⟨x1_1, rfl, h31⟩ := cI_some h30
  obtain ⟨s9032, r9033, rfl, h34⟩ := uncK_some h31
  obtain ⟨x1_2, rfl, h35⟩ := cI_some h34
  obtain ⟨s9036, r9037, rfl, h38⟩ := uncK_some h35
  obtain ⟨l1_3, rfl, h39⟩ := cL_some h38
  obtain ⟨s9040, r9041, rfl, h42⟩ := uncK_some h39
  obtain ⟨l1_4, rfl, h43⟩ := cL_some h42
  obtain ⟨s9044, r9045, rfl, h46⟩ := uncK_some h43
  obtain ⟨c1_5, rfl, h47⟩ := cB_some h46
  obtain ⟨rfl, h48⟩ := endL_some h47
  obtain ⟨a9049, r9050, rfl, h51⟩ := uncA_some h48
  obtain ⟨l9052, rfl, h53⟩ := avA_some h51
  obtain ⟨s9054, r9055, rfl, h56⟩ := uncK_some h53
  obtain ⟨x2_0, rfl, h57⟩ := cI_some h56
  obtain ⟨s9058, r9059, rfl, h60⟩ := uncK_some h57
  obtain ⟨x2_1, rfl, h61⟩ := cI_some h60
  obtain ⟨s9062, r9063, rfl, h64⟩ := uncK_some h61
  obtain ⟨x2_2, rfl, h65⟩ := cI_some h64
  obtain ⟨s9066, r9067, rfl, h68⟩ := uncK_some h65
  obtain ⟨x2_3, rfl, h69⟩ := cI_some h68
  obtain ⟨s9070, r9071, rfl, h72⟩ := uncK_some h69
  obtain ⟨x2_4, rfl, h73⟩ := cI_some h72
  obtain ⟨s9074, r9075, rfl, h76⟩ := uncK_some h73
  obtain ⟨x2_5, rfl, h77⟩ := cI_some h76
  obtain ⟨s9078, r9079, rfl, h80⟩ := uncK_some h77
  obtain ⟨x2_6, rfl, h81⟩ := cI_some h80
  obtain ⟨s9082, r9083, rfl, h84⟩ := uncK_some h81
  obtain ⟨c2_7, rfl, h85⟩ := cB_some h84
  obtain ⟨s9086, r9087, rfl, h88⟩ := uncK_some h85
  obtain ⟨l2_8, rfl, h89⟩ := cL_some h88
  obtain ⟨s9090, r9091, rfl, h92⟩ := uncK_some h89
  obtain ⟨l2_9, rfl, h93⟩ := cL_some h92
  obtain ⟨s9094, r9095, rfl, h96⟩ := uncK_some h93
  obtain ⟨l2_10, rfl, h97⟩ := cL_some h96
  obtain ⟨rfl, h98⟩ := endL_some h97
  obtain ⟨rfl, h99⟩ := endL_some h98
  rw [F46_0_eq] at h99
  exact execK_runs hD.typed Graph_zero Graph_mixed hJ X46_0 (T46 0).1 (envOf (T46 0).2 _) S K (chk_of (by kernel_rfl) (by kernel_rfl)) h99
noncomputable abbrev A46_2 (D J : Disp) (vals : List AV) (S : St) (K : AV → St → Prop) : Prop :=
  uncA vals fun a9001 r9002 => scK a9001 fun s9004 => SV.cP s9004 fun p3 => uncA r9002 fun a9007 r9008 => scK a9007 fun s9010 => SV.cP s9010 fun p4 => uncA r9008 fun a9013 r9014 => scK a9013 fun s9016 => SV.cP s9016 fun p5 => uncA r9014 fun a9019 r9020 => scK a9019 fun s9022 => SV.cB s9022 fun c18 => endL r9020 <| F46_2 D J p3 p4 p5 c18 S K
theorem A46_2_ok {D J : Disp} (hD : DOK GraphP GraphG D) (hJ : JOK GraphP GraphG Go.Proofs.Try.f46 T46 J) {vals : List AV} {S : St} {K : AV → St → Prop} (h0 : A46_2 D J vals S K) : Runs GraphP GraphG Go.Proofs.Try.f46 (T46 2).1 (envOf (T46 2).2 vals) S K := by
  obtain ⟨a9001, r9002, rfl, h3⟩ := uncA_some h0
  obtain ⟨s9004, rfl, h5⟩ := scK_some h3
  obtain ⟨p3, rfl, h6⟩ := cP_some h5
  obtain ⟨a9007, r9008, rfl, h9⟩ := uncA_some h6
  obtain ⟨s9010, rfl, h11⟩ := scK_some h9
  obtain ⟨p4, rfl, h12⟩ := cP_some h11
  obtain ⟨a9013, r9014, rfl, h15⟩ := uncA_some h12
  obtain ⟨s9016, rfl, h17⟩ := scK_some h15
  obtain ⟨p5, rfl, h18⟩ := cP_some h17
  obtain ⟨a9019, r9020, rfl, h21⟩ := uncA_some h18
  obtain ⟨s9022, rfl, h23⟩ := scK_some h21
  obtain ⟨c18, rfl, h24⟩ := cB_some h23
  obtain ⟨rfl, h25⟩ := endL_some h24
  rw [F46_2_eq] at h25
  exact execK_runs hD.typed Graph_zero Graph_mixed hJ X46_2 (T46 2).1 (envOf (T46 2).2 _) S K (chk_of (by kernel_rfl) (by kernel_rfl)) h25
noncomputable def J46 (D : Disp) (k : Nat) : Disp := Nat.rec (motive := fun _ => Disp) Disp.no (fun _ ih => Disp.add 0 (A46_0 D ih) <| Disp.add 2 (A46_2 D ih) <| Disp.no) k
theorem J46_ok {D : Disp} (hD : DOK GraphP GraphG D) : ∀ k, JOK GraphP GraphG Go.Proofs.Try.f46 T46 (J46 D k)
  | 0 => JOK.no
  | k + 1 => JOK.add (ltB_ok (by kernel_rfl)) (fun vals S K h => A46_0_ok hD (J46_ok hD k) h) <| JOK.add (ltB_ok (by kernel_rfl)) (fun vals S K h => A46_2_ok hD (J46_ok hD k) h) <| JOK.no
theorem E46_ok {D : Disp} (hD : DOK GraphP GraphG D) (k : Nat) {args : List AV} {S : St} {K : AV → St → Prop} (h : A46_0 D (J46 D k) args S K) : CallOK GraphP GraphG 46 args S K := by
  have hr := A46_0_ok hD (J46_ok hD k) h
  have hl : args.length = 3 := by
    have h0 := h
    obtain ⟨a9001, r9002, rfl, h3⟩ := uncA_some h0
    obtain ⟨l9004, rfl, h5⟩ := avA_some h3
    obtain ⟨s9006, r9007, rfl, h8⟩ := uncK_some h5
    obtain ⟨l0_0, rfl, h9⟩ := cL_some h8
    obtain ⟨s9010, r9011, rfl, h12⟩ := uncK_some h9
    obtain ⟨l0_1, rfl, h13⟩ := cL_some h12
    obtain ⟨s9014, r9015, rfl, h16⟩ := uncK_some h13
    obtain ⟨x0_2, rfl, h17⟩ := cI_some h16
    obtain ⟨rfl, h18⟩ := endL_some h17
    obtain ⟨a9019, r9020, rfl, h21⟩ := uncA_some h18
    obtain ⟨l9022, rfl, h23⟩ := avA_some h21
    obtain ⟨s9024, r9025, rfl, h26⟩ := uncK_some h23
    obtain ⟨s1_0, rfl, h27⟩ := cS_some h26
    obtain ⟨s9028, r9029, rfl, h30⟩ := uncK_some h27
    obtain ⟨x1_1, rfl, h31⟩ := cI_some h30
    obtain ⟨s9032, r9033, rfl, h34⟩ := uncK_some h31
    obtain ⟨x1_2, rfl, h35⟩ := cI_some h34
    obtain ⟨s9036, r9037, rfl, h38⟩ := uncK_some h35
    obtain ⟨l1_3, rfl, h39⟩ := cL_some h38
    obtain ⟨s9040, r9041, rfl, h42⟩ := uncK_some h39
    obtain ⟨l1_4, rfl, h43⟩ := cL_some h42
    obtain ⟨s9044, r9045, rfl, h46⟩ := uncK_some h43
    obtain ⟨c1_5, rfl, h47⟩ := cB_some h46
    obtain ⟨rfl, h48⟩ := endL_some h47
    obtain ⟨a9049, r9050, rfl, h51⟩ := uncA_some h48
    obtain ⟨l9052, rfl, h53⟩ := avA_some h51
    obtain ⟨s9054, r9055, rfl, h56⟩ := uncK_some h53
    obtain ⟨x2_0, rfl, h57⟩ := cI_some h56
    obtain ⟨s9058, r9059, rfl, h60⟩ := uncK_some h57
    obtain ⟨x2_1, rfl, h61⟩ := cI_some h60
    obtain ⟨s9062, r9063, rfl, h64⟩ := uncK_some h61
    obtain ⟨x2_2, rfl, h65⟩ := cI_some h64
    obtain ⟨s9066, r9067, rfl, h68⟩ := uncK_some h65
    obtain ⟨x2_3, rfl, h69⟩ := cI_some h68
    obtain ⟨s9070, r9071, rfl, h72⟩ := uncK_some h69
    obtain ⟨x2_4, rfl, h73⟩ := cI_some h72
    obtain ⟨s9074, r9075, rfl, h76⟩ := uncK_some h73
    obtain ⟨x2_5, rfl, h77⟩ := cI_some h76
    obtain ⟨s9078, r9079, rfl, h80⟩ := uncK_some h77
    obtain ⟨x2_6, rfl, h81⟩ := cI_some h80
    obtain ⟨s9082, r9083, rfl, h84⟩ := uncK_some h81
    obtain ⟨c2_7, rfl, h85⟩ := cB_some h84
    obtain ⟨s9086, r9087, rfl, h88⟩ := uncK_some h85
    obtain ⟨l2_8, rfl, h89⟩ := cL_some h88
    obtain ⟨s9090, r9091, rfl, h92⟩ := uncK_some h89
    obtain ⟨l2_9, rfl, h93⟩ := cL_some h92
    obtain ⟨s9094, r9095, rfl, h96⟩ := uncK_some h93
    obtain ⟨l2_10, rfl, h97⟩ := cL_some h96
    obtain ⟨rfl, h98⟩ := endL_some h97
    obtain ⟨rfl, h99⟩ := endL_some h98
    rfl
  refine callOK_of (fn := Go.Proofs.Try.f46) (c := (match Go.Proofs.Try.f46.body with | some c => c | none => .skip)) (by kernel_rfl) (by kernel_rfl) (by kernel_rfl) (by rw [hl]; kernel_rfl) (by kernel_rfl) ?_
  rw [hl]
  exact hr
noncomputable def plans47 (i : Nat) : Plan := []
noncomputable def T47 (p : Nat) : List Item × List Nat := bif Nat.beq p 0 then ([.code (match Go.Proofs.Try.f47.body with | some c => c | none => .skip)], [0]) else
  ([], [])
noncomputable def F47_0 (D J : Disp) (x0_0 : Int) (c0_1 : Bool) (S : St) (K : AV → St → Prop) : Prop :=
 let S300 : St := (St.add S (AO.cells [(SV.int IntKind.i64 x0_0), (SV.bool c0_1)] Bool.false));
 St.at S300 (Bk.new (St.next S)) 0 fun y301 =>
 uncK y301 fun v302 y303 =>
 SV.cI IntKind.i64 v302 fun x307 =>
 let c308 : Bool := (ieq x307 (8 : Int));
 ifK c308
 (K ((AV.one (V1.s (SV.bool Bool.true)))) S300)
 (St.at S300 (Bk.new (St.next S)) 0 fun y309 =>
 uncK y309 fun v310 y311 =>
 SV.cI IntKind.i64 v310 fun x315 =>
 let c316 : Bool := (ieq x315 (16 : Int));
 ifK c316
 (K ((AV.one (V1.s (SV.bool Bool.true)))) S300)
 (St.at S300 (Bk.new (St.next S)) 0 fun y317 =>
 uncK y317 fun v318 y319 =>
 SV.cI IntKind.i64 v318 fun x323 =>
 let c324 : Bool := (ieq x323 (32 : Int));
 ifK c324
 (K ((AV.one (V1.s (SV.bool Bool.true)))) S300)
 (St.at S300 (Bk.new (St.next S)) 0 fun y325 =>
 uncK y325 fun v326 y327 =>
 SV.cI IntKind.i64 v326 fun x331 =>
 let c332 : Bool := (ieq x331 (64 : Int));
 K ((AV.one (V1.s (SV.bool c332)))) S300)))
noncomputable def X47_0 : X := (.op (.op .ret))
theorem F47_0_eq (D J : Disp) (x0_0 : Int) (c0_1 : Bool) (S : St) (K : AV → St → Prop) : F47_0 D J x0_0 c0_1 S K = execK GraphP GraphG Go.Proofs.Try.f47 (typed GraphP D) J plans47 X47_0 (T47 0).1 (envOf (T47 0).2 [(AV.one (V1.agg [(SV.int IntKind.i64 x0_0), (SV.bool c0_1)]))]) S K := by kernel_rfl
noncomputable abbrev A47_0 (D J : Disp) (vals : List AV) (S : St) (K : AV → St → Prop) : Prop :=
  uncA vals fun a9001 r9002 => avA a9001 fun l9004 => uncK l9004 fun s9006 r9007 => SV.cI IntKind.i64 s9006 fun x0_0 => uncK r9007 fun s9010 r9011 => SV.cB s9010 fun c0_1 => endL r9011 <| endL r9002 <| F47_0 D J x0_0 c0_1 S K
theorem A47_0_ok {D J : Disp} (hD : DOK GraphP GraphG D) (hJ : JOK GraphP GraphG Go.Proofs.Try.f47 T47 J) {vals : List AV} {S : St} {K : AV → St → Prop} (h0 : A47_0 D J vals S K) : Runs GraphP GraphG Go.Proofs.Try.f47 (T47 0).1 (envOf (T47 0).2 vals) S K := by
  obtain ⟨a9001, r9002, rfl, h3⟩ := uncA_some h0
  obtain ⟨l9004, rfl, h5⟩ := avA_some h3
  obtain ⟨s9006, r9007, rfl, h8⟩ := uncK_some h5
  obtain ⟨x0_0, rfl, h9⟩ := cI_some h8
  obtain ⟨s9010, r9011, rfl, h12⟩ := uncK_some h9
  obtain ⟨c0_1, rfl, h13⟩ := cB_some h12
  obtain ⟨rfl, h14⟩ := endL_some h13
  obtain ⟨rfl, h15⟩ := endL_some h14
  rw [F47_0_eq] at h15
  exact execK_runs hD.typed Graph_zero Graph_mixed hJ X47_0 (T47 0).1 (envOf (T47 0).2 _) S K (chk_of (by kernel_rfl) (by kernel_rfl)) h15
noncomputable def J47 (D : Disp) (k : Nat) : Disp := Nat.rec (motive := fun _ => Disp) Disp.no (fun _ ih => Disp.add 0 (A47_0 D ih) <| Disp.no) k
theorem J47_ok {D : Disp} (hD : DOK GraphP GraphG D) : ∀ k, JOK GraphP GraphG Go.Proofs.Try.f47 T47 (J47 D k)
  | 0 => JOK.no
  | k + 1 => JOK.add (ltB_ok (by kernel_rfl)) (fun vals S K h => A47_0_ok hD (J47_ok hD k) h) <| JOK.no
theorem E47_ok {D : Disp} (hD : DOK GraphP GraphG D) (k : Nat) {args : List AV} {S : St} {K : AV → St → Prop} (h : A47_0 D (J47 D k) args S K) : CallOK GraphP GraphG 47 args S K := by
  have hr := A47_0_ok hD (J47_ok hD k) h
  have hl : args.length = 1 := by
    have h0 := h
    obtain ⟨a9001, r9002, rfl, h3⟩ := uncA_some h0
    obtain ⟨l9004, rfl, h5⟩ := avA_some h3
    obtain ⟨s9006, r9007, rfl, h8⟩ := uncK_some h5
    obtain ⟨x0_0, rfl, h9⟩ := cI_some h8
    obtain ⟨s9010, r9011, rfl, h12⟩ := uncK_some h9
    obtain ⟨c0_1, rfl, h13⟩ := cB_some h12
    obtain ⟨rfl, h14⟩ := endL_some h13
    obtain ⟨rfl, h15⟩ := endL_some h14
    rfl
  refine callOK_of (fn := Go.Proofs.Try.f47) (c := (match Go.Proofs.Try.f47.body with | some c => c | none => .skip)) (by kernel_rfl) (by kernel_rfl) (by kernel_rfl) (by rw [hl]; kernel_rfl) (by kernel_rfl) ?_
  rw [hl]
  exact hr
noncomputable def plans48 (i : Nat) : Plan := if Nat.beq i 4 then [(0, []), (1, []), (2, [0, 1]), (3, [2, 0, 1]), (4, [3, 2, 0, 1]), (5, [3, 2, 0, 1]), (6, [4, 5, 3, 2, 0, 1]), (7, [6, 3, 4, 5, 2, 0, 1]), (8, [3, 2, 0, 1]), (9, [3, 2, 0, 1]), (10, [9, 3, 2, 0, 1]), (11, [8, 10, 3, 9, 2, 0, 1]), (12, [11, 3, 8, 10, 2, 9, 0, 1]), (13, [7, 12, 3, 6, 11, 2, 4, 5, 8, 10, 0, 1, 9]), (14, [3, 13, 2, 7, 12, 0, 1, 6, 11, 4, 5, 8, 10, 9])] else if Nat.beq i 6 then [(0, []), (1, []), (2, []), (3, []), (4, [3]), (5, []), (6, []), (7, [6]), (8, [5, 7, 6]), (9, [8, 5, 7, 6]), (10, []), (11, []), (12, [10, 11]), (13, [12, 10, 11]), (14, [0, 1, 5, 6, 7, 8, 9, 13, 12, 10, 11]), (15, [14, 9, 0, 1, 5, 6, 7, 8, 13, 12, 10, 11]), (16, [2, 4, 0, 1, 3, 5, 6, 7, 8, 9, 10, 11, 12, 13, 14, 15]), (17, [16, 13, 15, 0, 1, 2, 3, 4, 5, 6, 7, 8, 9, 10, 11, 12, 14])] else []
noncomputable def T48 (p : Nat) : List Item × List Nat := bif Nat.beq p 0 then ([.code (match Go.Proofs.Try.f48.body with | some c => c | none => .skip)], [0, 1, 2]) else
  bif Nat.beq p 1 then (navs [.op] [.code (match Go.Proofs.Try.f48.body with | some c => c | none => .skip)], [0, 1, 2, 6]) else
  bif Nat.beq p 4 then (navs [.op, .op, .th, .op] [.code (match Go.Proofs.Try.f48.body with | some c => c | none => .skip)], [0, 1, 2, 6, 7]) else
  bif Nat.beq p 5 then (navs [.op, .op, .th, .op, .op] [.code (match Go.Proofs.Try.f48.body with | some c => c | none => .skip)], [0, 1, 2, 6, 7, 30]) else
  ([], [])
noncomputable def F48_0 (D J : Disp) (l0 : LV) (x1 : Int) (x2 : Int) (S : St) (K : AV → St → Prop) : Prop :=
 let x300 : Int := (iwrap IntKind.i64 (x1 + (1 : Int)));
 J 1 [(AV.one (V1.s (SV.sl l0))), (AV.one (V1.s (SV.int IntKind.i64 x1))), (AV.one (V1.s (SV.int IntKind.i64 x2))), (AV.one (V1.s (SV.int IntKind.i64 x300)))] S K
noncomputable def X48_0 : X := (.op (.jmp 1 [0, 1, 2, 6]))
theorem F48_0_eq (D J : Disp) (l0 : LV) (x1 : Int) (x2 : Int) (S : St) (K : AV → St → Prop) : F48_0 D J l0 x1 x2 S K = execK GraphP GraphG Go.Proofs.Try.f48 (typed GraphP D) J plans48 X48_0 (T48 0).1 (envOf (T48 0).2 [(AV.one (V1.s (SV.sl l0))), (AV.one (V1.s (SV.int IntKind.i64 x1))), (AV.one (V1.s (SV.int IntKind.i64 x2)))]) S K := by kernel_rfl
noncomputable def F48_1 (D J : Disp) (l0 : LV) (x1 : Int) (x2 : Int) (x6 : Int) (S : St) (K : AV → St → Prop) : Prop :=
 let c300 : Bool := (ilt x6 x2);
 ifK c300
 (J 4 [(AV.one (V1.s (SV.sl l0))), (AV.one (V1.s (SV.int IntKind.i64 x1))), (AV.one (V1.s (SV.int IntKind.i64 x2))), (AV.one (V1.s (SV.int IntKind.i64 x6))), (AV.one (V1.s (SV.int IntKind.i64 x6)))] S K)
 (K ((AV.tup [])) S)
noncomputable def X48_1 : X := (.op (.br (.op (.jmp 4 [0, 1, 2, 6, 7])) .ret))
theorem F48_1_eq (D J : Disp) (l0 : LV) (x1 : Int) (x2 : Int) (x6 : Int) (S : St) (K : AV → St → Prop) : F48_1 D J l0 x1 x2 x6 S K = execK GraphP GraphG Go.Proofs.Try.f48 (typed GraphP D) J plans48 X48_1 (T48 1).1 (envOf (T48 1).2 [(AV.one (V1.s (SV.sl l0))), (AV.one (V1.s (SV.int IntKind.i64 x1))), (AV.one (V1.s (SV.int IntKind.i64 x2))), (AV.one (V1.s (SV.int IntKind.i64 x6)))]) S K := by kernel_rfl
noncomputable def F48_4 (D J : Disp) (l0 : LV) (x1 : Int) (x2 : Int) (x6 : Int) (x7 : Int) (S : St) (K : AV → St → Prop) : Prop :=
 let c300 : Bool := (ilt x1 x7);
 ifK c300
 (LV.cs l0 fun b301 n302 n303 y304 =>
 req (Bool.and (ile (0 : Int) x7) (ilt x7 (Int.ofNat n303))) <|
 let n305 : Nat := (n302 + ((Int.toNat x7) * 1));
 St.at S b301 n305 fun y306 =>
 uncK y306 fun v307 y308 =>
 SV.cI IntKind.i64 v307 fun x312 =>
 let x313 : Int := (iwrap IntKind.i64 (x7 - (1 : Int)));
 LV.cs l0 fun b314 n315 n316 y317 =>
 req (Bool.and (ile (0 : Int) x313) (ilt x313 (Int.ofNat n316))) <|
 let n318 : Nat := (n315 + ((Int.toNat x313) * 1));
 St.at S b314 n318 fun y319 =>
 uncK y319 fun v320 y321 =>
 SV.cI IntKind.i64 v320 fun x325 =>
 D 54 [(AV.one (V1.s (SV.int IntKind.i64 x312))), (AV.one (V1.s (SV.int IntKind.i64 x325)))] S fun v326 S327 =>
 scK v326 fun v329 =>
 SV.cB v329 fun y330 =>
 J 5 [(AV.one (V1.s (SV.sl l0))), (AV.one (V1.s (SV.int IntKind.i64 x1))), (AV.one (V1.s (SV.int IntKind.i64 x2))), (AV.one (V1.s (SV.int IntKind.i64 x6))), (AV.one (V1.s (SV.int IntKind.i64 x7))), (AV.one (V1.s (SV.bool y330)))] S327 K)
 (J 5 [(AV.one (V1.s (SV.sl l0))), (AV.one (V1.s (SV.int IntKind.i64 x1))), (AV.one (V1.s (SV.int IntKind.i64 x2))), (AV.one (V1.s (SV.int IntKind.i64 x6))), (AV.one (V1.s (SV.int IntKind.i64 x7))), (AV.one (V1.s (SV.bool Bool.false)))] S K)
noncomputable def X48_4 : X := (.op (.jmp 5 [0, 1, 2, 6, 7, 30]))
theorem F48_4_eq (D J : Disp) (l0 : LV) (x1 : Int) (x2 : Int) (x6 : Int) (x7 : Int) (S : St) (K : AV → St → Prop) : F48_4 D J l0 x1 x2 x6 x7 S K = execK GraphP GraphG Go.Proofs.Try.f48 (typed GraphP D) J plans48 X48_4 (T48 4).1 (envOf (T48 4).2 [(AV.one (V1.s (SV.sl l0))), (AV.one (V1.s (SV.int IntKind.i64 x1))), (AV.one (V1.s (SV.int IntKind.i64 x2))), (AV.one (V1.s (SV.int IntKind.i64 x6))), (AV.one (V1.s (SV.int IntKind.i64 x7)))]) S K := by kernel_rfl
noncomputable def F48_5 (D J : Disp) (l0 : LV) (x1 : Int) (x2 : Int) (x6 : Int) (x7 : Int) (c30 : Bool) (S : St) (K : AV → St → Prop) : Prop :=
 ifK c30
 (let x300 : Int := (iwrap IntKind.i64 (x7 - (1 : Int)));
 let x301 : Int := (iwrap IntKind.i64 (x7 - (1 : Int)));
 LV.cs l0 fun b302 n303 n304 y305 =>
 req (Bool.and (ile (0 : Int) x301) (ilt x301 (Int.ofNat n304))) <|
 let n306 : Nat := (n303 + ((Int.toNat x301) * 1));
 St.at S b302 n306 fun y307 =>
 uncK y307 fun v308 y309 =>
 SV.cI IntKind.i64 v308 fun x313 =>
 LV.cs l0 fun b314 n315 n316 y317 =>
 req (Bool.and (ile (0 : Int) x7) (ilt x7 (Int.ofNat n316))) <|
 let n318 : Nat := (n315 + ((Int.toNat x7) * 1));
 St.at S b314 n318 fun y319 =>
 uncK y319 fun v320 y321 =>
 SV.cI IntKind.i64 v320 fun x325 =>
 LV.cs l0 fun b326 n327 n328 y329 =>
 req (Bool.and (ile (0 : Int) x7) (ilt x7 (Int.ofNat n328))) <|
 let n330 : Nat := (n327 + ((Int.toNat x7) * 1));
 St.wr S b326 n330 [(SV.int IntKind.i64 x313)] fun S331 =>
 LV.cs l0 fun b332 n333 n334 y335 =>
 req (Bool.and (ile (0 : Int) x300) (ilt x300 (Int.ofNat n334))) <|
 let n336 : Nat := (n333 + ((Int.toNat x300) * 1));
 St.wr S331 b332 n336 [(SV.int IntKind.i64 x325)] fun S337 =>
 let x338 : Int := (iwrap IntKind.i64 (x7 - (1 : Int)));
 J 4 [(AV.one (V1.s (SV.sl l0))), (AV.one (V1.s (SV.int IntKind.i64 x1))), (AV.one (V1.s (SV.int IntKind.i64 x2))), (AV.one (V1.s (SV.int IntKind.i64 x6))), (AV.one (V1.s (SV.int IntKind.i64 x338)))] S337 K)
 (let x349 : Int := (iwrap IntKind.i64 (x6 + (1 : Int)));
 J 1 [(AV.one (V1.s (SV.sl l0))), (AV.one (V1.s (SV.int IntKind.i64 x1))), (AV.one (V1.s (SV.int IntKind.i64 x2))), (AV.one (V1.s (SV.int IntKind.i64 x349)))] S K)
noncomputable def X48_5 : X := (.br (.op (.op (.jmp 4 [0, 1, 2, 6, 7]))) (.op (.jmp 1 [0, 1, 2, 6])))
theorem F48_5_eq (D J : Disp) (l0 : LV) (x1 : Int) (x2 : Int) (x6 : Int) (x7 : Int) (c30 : Bool) (S : St) (K : AV → St → Prop) : F48_5 D J l0 x1 x2 x6 x7 c30 S K = execK GraphP GraphG Go.Proofs.Try.f48 (typed GraphP D) J plans48 X48_5 (T48 5).1 (envOf (T48 5).2 [(AV.one (V1.s (SV.sl l0))), (AV.one (V1.s (SV.int IntKind.i64 x1))), (AV.one (V1.s (SV.int IntKind.i64 x2))), (AV.one (V1.s (SV.int IntKind.i64 x6))), (AV.one (V1.s (SV.int IntKind.i64 x7))), (AV.one (V1.s (SV.bool c30)))]) S K := by kernel_rfl
noncomputable abbrev A48_0 (D J : Disp) (vals : List AV) (S : St) (K : AV → St → Prop) : Prop :=
  uncA vals fun a9001 r9002 => scK a9001 fun s9004 => SV.cL s9004 fun l0 => uncA r9002 fun a9007 r9008 => scK a9007 fun s9010 => SV.cI IntKind.i64 s9010 fun x1 => uncA r9008 fun a9013 r9014 => scK a9013 fun s9016 => SV.cI IntKind.i64 s9016 fun x2 => endL r9014 <| F48_0 D J l0 x1 x2 S K
theorem A48_0_ok {D J : Disp} (hD : DOK GraphP GraphG D) (hJ : JOK GraphP GraphG Go.Proofs.Try.f48 T48 J) {vals : List AV} {S : St} {K : AV → St → Prop} (h0 : A48_0 D J vals S K) : Runs GraphP GraphG Go.Proofs.Try.f48 (T48 0).1 (envOf (T48 0).2 vals) S K := by
  obtain ⟨a9001, r9002, rfl, h3⟩ := uncA_some h0
  obtain ⟨s9004, rfl, h5⟩ := scK_some h3
  obtain ⟨l0, rfl, h6⟩ := cL_some h5
  obtain ⟨a9007, r9008, rfl, h9⟩ := uncA_some h6
  obtain ⟨s9010, rfl, h11⟩ := scK_some h9
  obtain ⟨x1, rfl, h12⟩ := cI_some h11
  obtain ⟨a9013, r9014, rfl, h15⟩ := uncA_some h12
  obtain ⟨s9016, rfl, h17⟩ := scK_some h15
  obtain ⟨x2, rfl, h18⟩ := cI_some h17
  obtain ⟨rfl, h19⟩ := endL_some h18
  rw [F48_0_eq] at h19
  exact execK_runs hD.typed Graph_zero Graph_mixed hJ X48_0 (T48 0).1 (envOf (T48 0).2 _) S K (chk_of (by kernel_rfl) (by kernel_rfl)) h19
noncomputable abbrev A48_1 (D J : Disp) (vals : List AV) (S : St) (K : AV → St → Prop) : Prop :=
  uncA vals fun a9001 r9002 => scK a9001 fun s9004 => SV.cL s9004 fun l0 => uncA r9002 fun a9007 r9008 => scK a9007 fun s9010 => SV.cI IntKind.i64 s9010 fun x1 => uncA r9008 fun a9013 r9014 => scK a9013 fun s9016 => SV.cI IntKind.i64 s9016 fun x2 => uncA r9014 fun a9019 r9020 => scK a9019 fun s9022 => SV.cI IntKind.i64 s9022 fun x6 => endL r9020 <| F48_1 D J l0 x1 x2 x6 S K
theorem A48_1_ok {D J : Disp} (hD : DOK GraphP GraphG D) (hJ : JOK GraphP GraphG Go.Proofs.Try.f48 T48 J) {vals : List AV} {S : St} {K : AV → St → Prop} (h0 : A48_1 D J vals S K) : Runs GraphP GraphG Go.Proofs.Try.f48 (T48 1).1 (envOf (T48 1).2 vals) S K := by
  obtain ⟨a9001, r9002, rfl, h3⟩ := uncA_some h0
  obtain ⟨s9004, rfl, h5⟩ := scK_some h3
  obtain ⟨l0, rfl, h6⟩ := cL_some h5
  obtain ⟨a9007, r9008, rfl, h9⟩ := uncA_some h6
  obtain ⟨s9010, rfl, h11⟩ := scK_some h9
  obtain ⟨x1, rfl, h12⟩ := cI_some h11
  obtain ⟨a9013, r9014, rfl, h15⟩ := uncA_some h12
  obtain ⟨s9016, rfl, h17⟩ := scK_some h15
  obtain ⟨x2, rfl, h18⟩ := cI_some h17
  obtain ⟨a9019, r9020, rfl, h21⟩ := uncA_some h18
  obtain ⟨s9022, rfl, h23⟩ := scK_some h21
  obtain ⟨x6, rfl, h24⟩ := cI_some h23
  obtain ⟨rfl, h25⟩ := endL_some h24
  rw [F48_1_eq] at h25
  exact execK_runs hD.typed Graph_zero Graph_mixed hJ X48_1 (T48 1).1 (envOf (T48 1).2 _) S K (chk_of (by kernel_rfl) (by kernel_rfl)) h25
noncomputable abbrev A48_4 (D J : Disp) (vals : List AV) (S : St) (K : AV → St → Prop) : Prop :=
  uncA vals fun a9001 r9002 => scK a9001 fun s9004 => SV.cL s9004 fun l0 => uncA r9002 fun a9007 r9008 => scK a9007 fun s9010 => SV.cI IntKind.i64 s9010 fun x1 => uncA r9008 fun a9013 r9014 => scK a9013 fun s9016 => SV.cI IntKind.i64 s9016 fun x2 => uncA r9014 fun a9019 r9020 => scK a9019 fun s9022 => SV.cI IntKind.i64 s9022 fun x6 => uncA r9020 fun a9025 r9026 => scK a9025 fun s9028 => SV.cI IntKind.i64 s9028 fun x7 => endL r9026 <| F48_4 D J l0 x1 x2 x6 x7 S K
theorem A48_4_ok {D J : Disp} (hD : DOK GraphP GraphG D) (hJ : JOK GraphP GraphG Go.Proofs.Try.f48 T48 J) {vals : List AV} {S : St} {K : AV → St → Prop} (h0 : A48_4 D J vals S K) : Runs GraphP GraphG Go.Proofs.Try.f48 (T48 4).1 (envOf (T48 4).2 vals) S K := by
  obtain ⟨a9001, r9002, rfl, h3⟩ := uncA_some h0
  obtain ⟨s9004, rfl, h5⟩ := scK_some h3
  obtain ⟨l0, rfl, h6⟩ := cL_some h5
  obtain ⟨a9007, r9008, rfl, h9⟩ := uncA_some h6
  obtain ⟨s9010, rfl, h11⟩ := scK_some h9
  obtain ⟨x1, rfl, h12⟩ := cI_some h11
  obtain ⟨a9013, r9014, rfl, h15⟩ := uncA_some h12
  obtain ⟨s9016, rfl, h17⟩ := scK_some h15
  obtain ⟨x2, rfl, h18⟩ := cI_some h17
  obtain ⟨a9019, r9020, rfl, h21⟩ := uncA_some h18
  obtain ⟨s9022, rfl, h23⟩ := scK_some h21
  obtain ⟨x6, rfl, h24⟩ := cI_some h23
  obtain ⟨a9025, r9026, rfl, h27⟩ := uncA_some h24
  obtain ⟨s9028, rfl, h29⟩ := scK_some h27
  obtain ⟨x7, rfl, h30⟩ := cI_some h29
  obtain ⟨rfl, h31⟩ := endL_some h30
  rw [F48_4_eq] at h31
  exact execK_runs hD.typed Graph_zero Graph_mixed hJ X48_4 (T48 4).1 (envOf (T48 4).2 _) S K (chk_of (by kernel_rfl) (by kernel_rfl)) h31
noncomputable abbrev A48_5 (D J : Disp) (vals : List AV) (S : St) (K : AV → St → Prop) : Prop :=
  uncA vals fun a9001 r9002 => scK a9001 fun s9004 => SV.cL s9004 fun l0 => uncA r9002 fun a9007 r9008 => scK a9007 fun s9010 => SV.cI IntKind.i64 s9010 fun x1 => uncA r9008 fun a9013 r9014 => scK a9013 fun s9016 => SV.cI IntKind.i64 s9016 fun x2 => uncA r9014 fun a9019 r9020 => scK a9019 fun s9022 => SV.cI IntKind.i64 s9022 fun x6 => uncA r9020 fun a9025 r9026 => scK a9025 fun s9028 => SV.cI IntKind.i64 s9028 fun x7 => uncA r9026 fun a9031 r9032 => scK a9031 fun s9034 => SV.cB s9034 fun c30 => endL r9032 <| F48_5 D J l0 x1 x2 x6 x7 c30 S K
theorem A48_5_ok {D J : Disp} (hD : DOK GraphP GraphG D) (hJ : JOK GraphP GraphG Go.Proofs.Try.f48 T48 J) {vals : List AV} {S : St} {K : AV → St → Prop} (h0 : A48_5 D J vals S K) : Runs GraphP GraphG Go.Proofs.Try.f48 (T48 5).1 (envOf (T48 5).2 vals) S K := by
  obtain ⟨a9001, r9002, rfl, h3⟩ := uncA_some h0
  obtain ⟨s9004, rfl, h5⟩ := scK_some h3
  obtain ⟨l0, rfl, h6⟩ := cL_some h5
  obtain ⟨a9007, r9008, rfl, h9⟩ := uncA_some h6
  obtain ⟨s9010, rfl, h11⟩ := scK_some h9
  obtain ⟨x1, rfl, h12⟩ := cI_some h11
  obtain ⟨a9013, r9014, rfl, h15⟩ := uncA_some h12
  obtain ⟨s9016, rfl, h17⟩ := scK_some h15
  obtain ⟨x2, rfl, h18⟩ := cI_some h17
  obtain ⟨a9019, r9020, rfl, h21⟩ := uncA_some h18
  obtain ⟨s9022, rfl, h23⟩ := scK_some h21
  obtain ⟨x6, rfl, h24⟩ := cI_some h23
  obtain ⟨a9025, r9026, rfl, h27⟩ := uncA_some h24
  obtain ⟨s9028, rfl, h29⟩ := scK_some h27
  obtain ⟨x7, rfl, h30⟩ := cI_some h29
  obtain ⟨a9031, r9032, rfl, h33⟩ := uncA_some h30
  obtain ⟨s9034, rfl, h35⟩ := scK_some h33
  obtain ⟨c30, rfl, h36⟩ := cB_some h35
  obtain ⟨rfl, h37⟩ := endL_some h36
  rw [F48_5_eq] at h37
  exact execK_runs hD.typed Graph_zero Graph_mixed hJ X48_5 (T48 5).1 (envOf (T48 5).2 _) S K (chk_of (by kernel_rfl) (by kernel_rfl)) h37
noncomputable def J48 (D : Disp) (k : Nat) : Disp := Nat.rec (motive := fun _ => Disp) Disp.no (fun _ ih => Disp.add 0 (A48_0 D ih) <| Disp.add 1 (A48_1 D ih) <| Disp.add 4 (A48_4 D ih) <| Disp.add 5 (A48_5 D ih) <| Disp.no) k
theorem J48_ok {D : Disp} (hD : DOK GraphP GraphG D) : ∀ k, JOK GraphP GraphG Go.Proofs.Try.f48 T48 (J48 D k)
  | 0 => JOK.no
  | k + 1 => JOK.add (ltB_ok (by kernel_rfl)) (fun vals S K h => A48_0_ok hD (J48_ok hD k) h) <| JOK.add (ltB_ok (by kernel_rfl)) (fun vals S K h => A48_1_ok hD (J48_ok hD k) h) <| JOK.add (ltB_ok (by kernel_rfl)) (fun vals S K h => A48_4_ok hD (J48_ok hD k) h) <| JOK.add (ltB_ok (by kernel_rfl)) (fun vals S K h => A48_5_ok hD (J48_ok hD k) h) <| JOK.no
theorem E48_ok {D : Disp} (hD : DOK GraphP GraphG D) (k : Nat) {args : List AV} {S : St} {K : AV → St → Prop} (h : A48_0 D (J48 D k) args S K) : CallOK GraphP GraphG 48 args S K := by
  have hr := A48_0_ok hD (J48_ok hD k) h
  have hl : args.length = 3 := by
    have h0 := h
    obtain ⟨a9001, r9002, rfl, h3⟩ := uncA_some h0
    obtain ⟨s9004, rfl, h5⟩ := scK_some h3
    obtain ⟨l0, rfl, h6⟩ := cL_some h5
    obtain ⟨a9007, r9008, rfl, h9⟩ := uncA_some h6
    obtain ⟨s9010, rfl, h11⟩ := scK_some h9
    obtain ⟨x1, rfl, h12⟩ := cI_some h11
    obtain ⟨a9013, r9014, rfl, h15⟩ := uncA_some h12
    obtain ⟨s9016, rfl, h17⟩ := scK_some h15
    obtain ⟨x2, rfl, h18⟩ := cI_some h17
    obtain ⟨rfl, h19⟩ := endL_some h18
    rfl
  refine callOK_of (fn := Go.Proofs.Try.f48) (c := (match Go.Proofs.Try.f48.body with | some c => c | none => .skip)) (by kernel_rfl) (by kernel_rfl) (by kernel_rfl) (by rw [hl]; kernel_rfl) (by kernel_rfl) ?_
  rw [hl]
  exact hr
noncomputable def plans54 (i : Nat) : Plan := []
noncomputable def T54 (p : Nat) : List Item × List Nat := bif Nat.beq p 0 then ([.code (match Go.Proofs.Try.f54.body with | some c => c | none => .skip)], [0, 1]) else
  ([], [])
noncomputable def F54_0 (D J : Disp) (x0 : Int) (x1 : Int) (S : St) (K : AV → St → Prop) : Prop :=
 D 68 [(AV.one (V1.s (SV.int IntKind.i64 x0)))] S fun v300 S301 =>
 scK v300 fun v303 =>
 SV.cB v303 fun y304 =>
 ifK y304
 (D 68 [(AV.one (V1.s (SV.int IntKind.i64 x1)))] S301 fun v305 S306 =>
 scK v305 fun v308 =>
 SV.cB v308 fun y309 =>
 let c310 : Bool := (Bool.not y309);
 ifK c310
 (K ((AV.one (V1.s (SV.bool Bool.true)))) S306)
 (let c311 : Bool := (ilt x0 x1);
 K ((AV.one (V1.s (SV.bool c311)))) S306))
 (let c321 : Bool := (ilt x0 x1);
 K ((AV.one (V1.s (SV.bool c321)))) S301)
noncomputable def X54_0 : X := (.op (.op .ret))
theorem F54_0_eq (D J : Disp) (x0 : Int) (x1 : Int) (S : St) (K : AV → St → Prop) : F54_0 D J x0 x1 S K = execK GraphP GraphG Go.Proofs.Try.f54 (typed GraphP D) J plans54 X54_0 (T54 0).1 (envOf (T54 0).2 [(AV.one (V1.s (SV.int IntKind.i64 x0))), (AV.one (V1.s (SV.int IntKind.i64 x1)))]) S K := by kernel_rfl
noncomputable abbrev A54_0 (D J : Disp) (vals : List AV) (S : St) (K : AV → St → Prop) : Prop :=
  uncA vals fun a9001 r9002 => scK a9001 fun s9004 => SV.cI IntKind.i64 s9004 fun x0 => uncA r9002 fun a9007 r9008 => scK a9007 fun s9010 => SV.cI IntKind.i64 s9010 fun x1 => endL r9008 <| F54_0 D J x0 x1 S K
theorem A54_0_ok {D J : Disp} (hD : DOK GraphP GraphG D) (hJ : JOK GraphP GraphG Go.Proofs.Try.f54 T54 J) {vals : List AV} {S : St} {K : AV → St → Prop} (h0 : A54_0 D J vals S K) : Runs GraphP GraphG Go.Proofs.Try.f54 (T54 0).1 (envOf (T54 0).2 vals) S K := by
  obtain ⟨a9001, r9002, rfl, h3⟩ := uncA_some h0
  obtain ⟨s9004, rfl, h5⟩ := scK_some h3
  obtain ⟨x0, rfl, h6⟩ := cI_some h5
  obtain ⟨a9007, r9008, rfl, h9⟩ := uncA_some h6
  obtain ⟨s9010, rfl, h11⟩ := scK_some h9
  obtain ⟨x1, rfl, h12⟩ := cI_some h11
  obtain ⟨rfl, h13⟩ := endL_some h12
  rw [F54_0_eq] at h13
  exact execK_runs hD.typed Graph_zero Graph_mixed hJ X54_0 (T54 0).1 (envOf (T54 0).2 _) S K (chk_of (by kernel_rfl) (by kernel_rfl)) h13
noncomputable def J54 (D : Disp) (k : Nat) : Disp := Nat.rec (motive := fun _ => Disp) Disp.no (fun _ ih => Disp.add 0 (A54_0 D ih) <| Disp.no) k
theorem J54_ok {D : Disp} (hD : DOK GraphP GraphG D) : ∀ k, JOK GraphP GraphG Go.Proofs.Try.f54 T54 (J54 D k)
  | 0 => JOK.no
  | k + 1 => JOK.add (ltB_ok (by kernel_rfl)) (fun vals S K h => A54_0_ok hD (J54_ok hD k) h) <| JOK.no
theorem E54_ok {D : Disp} (hD : DOK GraphP GraphG D) (k : Nat) {args : List AV} {S : St} {K : AV → St → Prop} (h : A54_0 D (J54 D k) args S K) : CallOK GraphP GraphG 54 args S K := by
  have hr := A54_0_ok hD (J54_ok hD k) h
  have hl : args.length = 2 := by
    have h0 := h
    obtain ⟨a9001, r9002, rfl, h3⟩ := uncA_some h0
    obtain ⟨s9004, rfl, h5⟩ := scK_some h3
    obtain ⟨x0, rfl, h6⟩ := cI_some h5
    obtain ⟨a9007, r9008, rfl, h9⟩ := uncA_some h6
    obtain ⟨s9010, rfl, h11⟩ := scK_some h9
    obtain ⟨x1, rfl, h12⟩ := cI_some h11
    obtain ⟨rfl, h13⟩ := endL_some h12
    rfl
  refine callOK_of (fn := Go.Proofs.Try.f54) (c := (match Go.Proofs.Try.f54.body with | some c => c | none => .skip)) (by kernel_rfl) (by kernel_rfl) (by kernel_rfl) (by rw [hl]; kernel_rfl) (by kernel_rfl) ?_
  rw [hl]
  exact hr
noncomputable def plans57 (i : Nat) : Plan := []
noncomputable def T57 (p : Nat) : List Item × List Nat := bif Nat.beq p 0 then ([.code (match Go.Proofs.Try.f57.body with | some c => c | none => .skip)], [0]) else
  bif Nat.beq p 5 then (navs [.op, .op, .th, .op, .op] [.code (match Go.Proofs.Try.f57.body with | some c => c | none => .skip)], [0, 2]) else
  bif Nat.beq p 9 then (navs [.op, .op, .th, .op, .op, .op, .th, .op, .op] [.code (match Go.Proofs.Try.f57.body with | some c => c | none => .skip)], [0, 2]) else
  ([], [])
noncomputable def F57_0 (D J : Disp) (x0 : Int) (S : St) (K : AV → St → Prop) : Prop :=
 let c300 : Bool := (ile (65536 : Int) x0);
 ifK c300
 (let x301 : Int := (shrI IntKind.u32 x0 (16 : Int));
 J 5 [(AV.one (V1.s (SV.int IntKind.u32 x301))), (AV.one (V1.s (SV.int IntKind.i64 (16 : Int))))] S K)
 (J 5 [(AV.one (V1.s (SV.int IntKind.u32 x0))), (AV.one (V1.s (SV.int IntKind.i64 (0 : Int))))] S K)
noncomputable def X57_0 : X := (.op (.op (.br (.op (.op (.jmp 5 [0, 2]))) (.jmp 5 [0, 2]))))
theorem F57_0_eq (D J : Disp) (x0 : Int) (S : St) (K : AV → St → Prop) : F57_0 D J x0 S K = execK GraphP GraphG Go.Proofs.Try.f57 (typed GraphP D) J plans57 X57_0 (T57 0).1 (envOf (T57 0).2 [(AV.one (V1.s (SV.int IntKind.u32 x0)))]) S K := by kernel_rfl
noncomputable def F57_5 (D J : Disp) (x0 : Int) (x2 : Int) (S : St) (K : AV → St → Prop) : Prop :=
 let c300 : Bool := (ile (256 : Int) x0);
 ifK c300
 (let x301 : Int := (shrI IntKind.u32 x0 (8 : Int));
 let x302 : Int := (iwrap IntKind.i64 (x2 + (8 : Int)));
 J 9 [(AV.one (V1.s (SV.int IntKind.u32 x301))), (AV.one (V1.s (SV.int IntKind.i64 x302)))] S K)
 (J 9 [(AV.one (V1.s (SV.int IntKind.u32 x0))), (AV.one (V1.s (SV.int IntKind.i64 x2)))] S K)
noncomputable def X57_5 : X := (.op (.br (.op (.op (.jmp 9 [0, 2]))) (.jmp 9 [0, 2])))
theorem F57_5_eq (D J : Disp) (x0 : Int) (x2 : Int) (S : St) (K : AV → St → Prop) : F57_5 D J x0 x2 S K = execK GraphP GraphG Go.Proofs.Try.f57 (typed GraphP D) J plans57 X57_5 (T57 5).1 (envOf (T57 5).2 [(AV.one (V1.s (SV.int IntKind.u32 x0))), (AV.one (V1.s (SV.int IntKind.i64 x2)))]) S K := by kernel_rfl
noncomputable def F57_9 (D J : Disp) (x0 : Int) (x2 : Int) (S : St) (K : AV → St → Prop) : Prop :=
 let x300 : Int := (iwrap IntKind.u8 x0);
 req (Bool.and (ile (0 : Int) x300) (ilt x300 (256 : Int))) <|
 let x301 : Int := (Int.ofNat (List.getD (List.map UInt8.toNat (List.append (List.append [(0 : UInt8), (1 : UInt8), (2 : UInt8), (2 : UInt8), (3 : UInt8), (3 : UInt8), (3 : UInt8), (3 : UInt8), (4 : UInt8), (4 : UInt8), (4 : UInt8), (4 : UInt8), (4 : UInt8), (4 : UInt8), (4 : UInt8), (4 : UInt8), (5 : UInt8), (5 : UInt8), (5 : UInt8), (5 : UInt8), (5 : UInt8), (5 : UInt8), (5 : UInt8), (5 : UInt8), (5 : UInt8), (5 : UInt8), (5 : UInt8), (5 : UInt8), (5 : UInt8), (5 : UInt8), (5 : UInt8), (5 : UInt8), (6 : UInt8), (6 : UInt8), (6 : UInt8), (6 : UInt8), (6 : UInt8), (6 : UInt8), (6 : UInt8), (6 : UInt8), (6 : UInt8), (6 : UInt8), (6 : UInt8), (6 : UInt8), (6 : UInt8), (6 : UInt8), (6 : UInt8), (6 : UInt8), (6 : UInt8), (6 : UInt8), (6 : UInt8), (6 : UInt8), (6 : UInt8), (6 : UInt8), (6 : UInt8), (6 : UInt8), (6 : UInt8), (6 : UInt8), (6 : UInt8), (6 : UInt8), (6 : UInt8), (6 : UInt8), (6 : UInt8), (6 : UInt8)] [(7 : UInt8), (7 : UInt8), (7 : UInt8), (7 : UInt8), (7 : UInt8), (7 : UInt8), (7 : UInt8), (7 : UInt8), (7 : UInt8), (7 : UInt8), (7 : UInt8), (7 : UInt8), (7 : UInt8), (7 : UInt8), (7 : UInt8), (7 : UInt8), (7 : UInt8), (7 : UInt8), (7 : UInt8), (7 : UInt8), (7 : UInt8), (7 : UInt8), (7 : UInt8), (7 : UInt8), (7 : UInt8), (7 : UInt8), (7 : UInt8), (7 : UInt8), (7 : UInt8), (7 : UInt8), (7 : UInt8), (7 : UInt8), (7 : UInt8), (7 : UInt8), (7 : UInt8), (7 : UInt8), (7 : UInt8), (7 : UInt8), (7 : UInt8), (7 : UInt8), (7 : UInt8), (7 : UInt8), (7 : UInt8), (7 : UInt8), (7 : UInt8), (7 : UInt8), (7 : UInt8), (7 : UInt8), (7 : UInt8), (7 : UInt8), (7 : UInt8), (7 : UInt8), (7 : UInt8), (7 : UInt8), (7 : UInt8), (7 : UInt8), (7 : UInt8), (7 : UInt8), (7 : UInt8), (7 : UInt8), (7 : UInt8), (7 : UInt8), (7 : UInt8), (7 : UInt8)]) (List.append [(8 : UInt8), (8 : UInt8), (8 : UInt8), (8 : UInt8), (8 : UInt8), (8 : UInt8), (8 : UInt8), (8 : UInt8), (8 : UInt8), (8 : UInt8), (8 : UInt8), (8 : UInt8), (8 : UInt8), (8 : UInt8), (8 : UInt8), (8 : UInt8), (8 : UInt8), (8 : UInt8), (8 : UInt8), (8 : UInt8), (8 : UInt8), (8 : UInt8), (8 : UInt8), (8 : UInt8), (8 : UInt8), (8 : UInt8), (8 : UInt8), (8 : UInt8), (8 : UInt8), (8 : UInt8), (8 : UInt8), (8 : UInt8), (8 : UInt8), (8 : UInt8), (8 : UInt8), (8 : UInt8), (8 : UInt8), (8 : UInt8), (8 : UInt8), (8 : UInt8), (8 : UInt8), (8 : UInt8), (8 : UInt8), (8 : UInt8), (8 : UInt8), (8 : UInt8), (8 : UInt8), (8 : UInt8), (8 : UInt8), (8 : UInt8), (8 : UInt8), (8 : UInt8), (8 : UInt8), (8 : UInt8), (8 : UInt8), (8 : UInt8), (8 : UInt8), (8 : UInt8), (8 : UInt8), (8 : UInt8), (8 : UInt8), (8 : UInt8), (8 : UInt8), (8 : UInt8)] [(8 : UInt8), (8 : UInt8), (8 : UInt8), (8 : UInt8), (8 : UInt8), (8 : UInt8), (8 : UInt8), (8 : UInt8), (8 : UInt8), (8 : UInt8), (8 : UInt8), (8 : UInt8), (8 : UInt8), (8 : UInt8), (8 : UInt8), (8 : UInt8), (8 : UInt8), (8 : UInt8), (8 : UInt8), (8 : UInt8), (8 : UInt8), (8 : UInt8), (8 : UInt8), (8 : UInt8), (8 : UInt8), (8 : UInt8), (8 : UInt8), (8 : UInt8), (8 : UInt8), (8 : UInt8), (8 : UInt8), (8 : UInt8), (8 : UInt8), (8 : UInt8), (8 : UInt8), (8 : UInt8), (8 : UInt8), (8 : UInt8), (8 : UInt8), (8 : UInt8), (8 : UInt8), (8 : UInt8), (8 : UInt8), (8 : UInt8), (8 : UInt8), (8 : UInt8), (8 : UInt8), (8 : UInt8), (8 : UInt8), (8 : UInt8), (8 : UInt8), (8 : UInt8), (8 : UInt8), (8 : UInt8), (8 : UInt8), (8 : UInt8), (8 : UInt8), (8 : UInt8), (8 : UInt8), (8 : UInt8), (8 : UInt8), (8 : UInt8), (8 : UInt8), (8 : UInt8)]))) (Int.toNat x300) 0));
 let x302 : Int := (iwrap IntKind.i64 x301);
 let x303 : Int := (iwrap IntKind.i64 (x2 + x302));
 K ((AV.one (V1.s (SV.int IntKind.i64 x303)))) S
noncomputable def X57_9 : X := (.op .ret)
theorem F57_9_eq (D J : Disp) (x0 : Int) (x2 : Int) (S : St) (K : AV → St → Prop) : F57_9 D J x0 x2 S K = execK GraphP GraphG Go.Proofs.Try.f57 (typed GraphP D) J plans57 X57_9 (T57 9).1 (envOf (T57 9).2 [(AV.one (V1.s (SV.int IntKind.u32 x0))), (AV.one (V1.s (SV.int IntKind.i64 x2)))]) S K := by kernel_rfl
noncomputable abbrev A57_0 (D J : Disp) (vals : List AV) (S : St) (K : AV → St → Prop) : Prop :=
  uncA vals fun a9001 r9002 => scK a9001 fun s9004 => SV.cI IntKind.u32 s9004 fun x0 => endL r9002 <| F57_0 D J x0 S K
theorem A57_0_ok {D J : Disp} (hD : DOK GraphP GraphG D) (hJ : JOK GraphP GraphG Go.Proofs.Try.f57 T57 J) {vals : List AV} {S : St} {K : AV → St → Prop} (h0 : A57_0 D J vals S K) : Runs GraphP GraphG Go.Proofs.Try.f57 (T57 0).1 (envOf (T57 0).2 vals) S K := by
  obtain ⟨a9001, r9002, rfl, h3⟩ := uncA_some h0
  obtain ⟨s9004, rfl, h5⟩ := scK_some h3
  obtain ⟨x0, rfl, h6⟩ := cI_some h5
  obtain ⟨rfl, h7⟩ := endL_some h6
  rw [F57_0_eq] at h7
  exact execK_runs hD.typed Graph_zero Graph_mixed hJ X57_0 (T57 0).1 (envOf (T57 0).2 _) S K (chk_of (by kernel_rfl) (by kernel_rfl)) h7
noncomputable abbrev A57_5 (D J : Disp) (vals : List AV) (S : St) (K : AV → St → Prop) : Prop :=
  uncA vals fun a9001 r9002 => scK a9001 fun s9004 => SV.cI IntKind.u32 s9004 fun x0 => uncA r9002 fun a9007 r9008 => scK a9007 fun s9010 => SV.cI IntKind.i64 s9010 fun x2 => endL r9008 <| F57_5 D J x0 x2 S K
theorem A57_5_ok {D J : Disp} (hD : DOK GraphP GraphG D) (hJ : JOK GraphP GraphG Go.Proofs.Try.f57 T57 J) {vals : List AV} {S : St} {K : AV → St → Prop} (h0 : A57_5 D J vals S K) : Runs GraphP GraphG Go.Proofs.Try.f57 (T57 5).1 (envOf (T57 5).2 vals) S K := by
  obtain ⟨a9001, r9002, rfl, h3⟩ := uncA_some h0
  obtain ⟨s9004, rfl, h5⟩ := scK_some h3
  obtain ⟨x0, rfl, h6⟩ := cI_some h5
  obtain ⟨a9007, r9008, rfl, h9⟩ := uncA_some h6
  obtain ⟨s9010, rfl, h11⟩ := scK_some h9
  obtain ⟨x2, rfl, h12⟩ := cI_some h11
  obtain ⟨rfl, h13⟩ := endL_some h12
  rw [F57_5_eq] at h13
  exact execK_runs hD.typed Graph_zero Graph_mixed hJ X57_5 (T57 5).1 (envOf (T57 5).2 _) S K (chk_of (by kernel_rfl) (by kernel_rfl)) h13
noncomputable abbrev A57_9 (D J : Disp) (vals : List AV) (S : St) (K : AV → St → Prop) : Prop :=
  uncA vals fun a9001 r9002 => scK a9001 fun s9004 => SV.cI IntKind.u32 s9004 fun x0 => uncA r9002 fun a9007 r9008 => scK a9007 fun s9010 => SV.cI IntKind.i64 s9010 fun x2 => endL r9008 <| F57_9 D J x0 x2 S K
theorem A57_9_ok {D J : Disp} (hD : DOK GraphP GraphG D) (hJ : JOK GraphP GraphG Go.Proofs.Try.f57 T57 J) {vals : List AV} {S : St} {K : AV → St → Prop} (h0 : A57_9 D J vals S K) : Runs GraphP GraphG Go.Proofs.Try.f57 (T57 9).1 (envOf (T57 9).2 vals) S K := by
  obtain ⟨a9001, r9002, rfl, h3⟩ := uncA_some h0
  obtain ⟨s9004, rfl, h5⟩ := scK_some h3
  obtain ⟨x0, rfl, h6⟩ := cI_some h5
  obtain ⟨a9007, r9008, rfl, h9⟩ := uncA_some h6
  obtain ⟨s9010, rfl, h11⟩ := scK_some h9
  obtain ⟨x2, rfl, h12⟩ := cI_some h11
  obtain ⟨rfl, h13⟩ := endL_some h12
  rw [F57_9_eq] at h13
  exact execK_runs hD.typed Graph_zero Graph_mixed hJ X57_9 (T57 9).1 (envOf (T57 9).2 _) S K (chk_of (by kernel_rfl) (by kernel_rfl)) h13
noncomputable def J57 (D : Disp) (k : Nat) : Disp := Nat.rec (motive := fun _ => Disp) Disp.no (fun _ ih => Disp.add 0 (A57_0 D ih) <| Disp.add 5 (A57_5 D ih) <| Disp.add 9 (A57_9 D ih) <| Disp.no) k
theorem J57_ok {D : Disp} (hD : DOK GraphP GraphG D) : ∀ k, JOK GraphP GraphG Go.Proofs.Try.f57 T57 (J57 D k)
  | 0 => JOK.no
  | k + 1 => JOK.add (ltB_ok (by kernel_rfl)) (fun vals S K h => A57_0_ok hD (J57_ok hD k) h) <| JOK.add (ltB_ok (by kernel_rfl)) (fun vals S K h => A57_5_ok hD (J57_ok hD k) h) <| JOK.add (ltB_ok (by kernel_rfl)) (fun vals S K h => A57_9_ok hD (J57_ok hD k) h) <| JOK.no
theorem E57_ok {D : Disp} (hD : DOK GraphP GraphG D) (k : Nat) {args : List AV} {S : St} {K : AV → St → Prop} (h : A57_0 D (J57 D k) args S K) : CallOK GraphP GraphG 57 args S K := by
  have hr := A57_0_ok hD (J57_ok hD k) h
  have hl : args.length = 1 := by
    have h0 := h
    obtain ⟨a9001, r9002, rfl, h3⟩ := uncA_some h0
    obtain ⟨s9004, rfl, h5⟩ := scK_some h3
    obtain ⟨x0, rfl, h6⟩ := cI_some h5
    obtain ⟨rfl, h7⟩ := endL_some h6
    rfl
  refine callOK_of (fn := Go.Proofs.Try.f57) (c := (match Go.Proofs.Try.f57.body with | some c => c | none => .skip)) (by kernel_rfl) (by kernel_rfl) (by kernel_rfl) (by rw [hl]; kernel_rfl) (by kernel_rfl) ?_
  rw [hl]
  exact hr
noncomputable def plans58 (i : Nat) : Plan := []
noncomputable def T58 (p : Nat) : List Item × List Nat := bif Nat.beq p 0 then ([.code (match Go.Proofs.Try.f58.body with | some c => c | none => .skip)], [0]) else
  bif Nat.beq p 5 then (navs [.op, .op, .th, .op, .op] [.code (match Go.Proofs.Try.f58.body with | some c => c | none => .skip)], [0, 2]) else
  bif Nat.beq p 9 then (navs [.op, .op, .th, .op, .op, .op, .th, .op, .op] [.code (match Go.Proofs.Try.f58.body with | some c => c | none => .skip)], [0, 2]) else
  bif Nat.beq p 13 then (navs [.op, .op, .th, .op, .op, .op, .th, .op, .op, .op, .th, .op, .op] [.code (match Go.Proofs.Try.f58.body with | some c => c | none => .skip)], [0, 2]) else
  ([], [])
noncomputable def F58_0 (D J : Disp) (x0 : Int) (S : St) (K : AV → St → Prop) : Prop :=
 let c300 : Bool := (ile (4294967296 : Int) x0);
 ifK c300
 (let x301 : Int := (shrI IntKind.u64 x0 (32 : Int));
 J 5 [(AV.one (V1.s (SV.int IntKind.u64 x301))), (AV.one (V1.s (SV.int IntKind.i64 (32 : Int))))] S K)
 (J 5 [(AV.one (V1.s (SV.int IntKind.u64 x0))), (AV.one (V1.s (SV.int IntKind.i64 (0 : Int))))] S K)
noncomputable def X58_0 : X := (.op (.op (.br (.op (.op (.jmp 5 [0, 2]))) (.jmp 5 [0, 2]))))
theorem F58_0_eq (D J : Disp) (x0 : Int) (S : St) (K : AV → St → Prop) : F58_0 D J x0 S K = execK GraphP GraphG Go.Proofs.Try.f58 (typed GraphP D) J plans58 X58_0 (T58 0).1 (envOf (T58 0).2 [(AV.one (V1.s (SV.int IntKind.u64 x0)))]) S K := by kernel_rfl
noncomputable def F58_5 (D J : Disp) (x0 : Int) (x2 : Int) (S : St) (K : AV → St → Prop) : Prop :=
 let c300 : Bool := (ile (65536 : Int) x0);
 ifK c300
 (let x301 : Int := (shrI IntKind.u64 x0 (16 : Int));
 let x302 : Int := (iwrap IntKind.i64 (x2 + (16 : Int)));
 J 9 [(AV.one (V1.s (SV.int IntKind.u64 x301))), (AV.one (V1.s (SV.int IntKind.i64 x302)))] S K)
 (J 9 [(AV.one (V1.s (SV.int IntKind.u64 x0))), (AV.one (V1.s (SV.int IntKind.i64 x2)))] S K)
noncomputable def X58_5 : X := (.op (.br (.op (.op (.jmp 9 [0, 2]))) (.jmp 9 [0, 2])))
theorem F58_5_eq (D J : Disp) (x0 : Int) (x2 : Int) (S : St) (K : AV → St → Prop) : F58_5 D J x0 x2 S K = execK GraphP GraphG Go.Proofs.Try.f58 (typed GraphP D) J plans58 X58_5 (T58 5).1 (envOf (T58 5).2 [(AV.one (V1.s (SV.int IntKind.u64 x0))), (AV.one (V1.s (SV.int IntKind.i64 x2)))]) S K := by kernel_rfl
noncomputable def F58_9 (D J : Disp) (x0 : Int) (x2 : Int) (S : St) (K : AV → St → Prop) : Prop :=
 let c300 : Bool := (ile (256 : Int) x0);
 ifK c300
 (let x301 : Int := (shrI IntKind.u64 x0 (8 : Int));
 let x302 : Int := (iwrap IntKind.i64 (x2 + (8 : Int)));
 J 13 [(AV.one (V1.s (SV.int IntKind.u64 x301))), (AV.one (V1.s (SV.int IntKind.i64 x302)))] S K)
 (J 13 [(AV.one (V1.s (SV.int IntKind.u64 x0))), (AV.one (V1.s (SV.int IntKind.i64 x2)))] S K)
noncomputable def X58_9 : X := (.op (.br (.op (.op (.jmp 13 [0, 2]))) (.jmp 13 [0, 2])))
theorem F58_9_eq (D J : Disp) (x0 : Int) (x2 : Int) (S : St) (K : AV → St → Prop) : F58_9 D J x0 x2 S K = execK GraphP GraphG Go.Proofs.Try.f58 (typed GraphP D) J plans58 X58_9 (T58 9).1 (envOf (T58 9).2 [(AV.one (V1.s (SV.int IntKind.u64 x0))), (AV.one (V1.s (SV.int IntKind.i64 x2)))]) S K := by kernel_rfl
noncomputable def F58_13 (D J : Disp) (x0 : Int) (x2 : Int) (S : St) (K : AV → St → Prop) : Prop :=
 let x300 : Int := (iwrap IntKind.u8 x0);
 req (Bool.and (ile (0 : Int) x300) (ilt x300 (256 : Int))) <|
 let x301 : Int := (Int.ofNat (List.getD (List.map UInt8.toNat (List.append (List.append [(0 : UInt8), (1 : UInt8), (2 : UInt8), (2 : UInt8), (3 : UInt8), (3 : UInt8), (3 : UInt8), (3 : UInt8), (4 : UInt8), (4 : UInt8), (4 : UInt8), (4 : UInt8), (4 : UInt8), (4 : UInt8), (4 : UInt8), (4 : UInt8), (5 : UInt8), (5 : UInt8), (5 : UInt8), (5 : UInt8), (5 : UInt8), (5 : UInt8), (5 : UInt8), (5 : UInt8), (5 : UInt8), (5 : UInt8), (5 : UInt8), (5 : UInt8), (5 : UInt8), (5 : UInt8), (5 : UInt8), (5 : UInt8), (6 : UInt8), (6 : UInt8), (6 : UInt8), (6 : UInt8), (6 : UInt8), (6 : UInt8), (6 : UInt8), (6 : UInt8), (6 : UInt8), (6 : UInt8), (6 : UInt8), (6 : UInt8), (6 : UInt8), (6 : UInt8), (6 : UInt8), (6 : UInt8), (6 : UInt8), (6 : UInt8), (6 : UInt8), (6 : UInt8), (6 : UInt8), (6 : UInt8), (6 : UInt8), (6 : UInt8), (6 : UInt8), (6 : UInt8), (6 : UInt8), (6 : UInt8), (6 : UInt8), (6 : UInt8), (6 : UInt8), (6 : UInt8)] [(7 : UInt8), (7 : UInt8), (7 : UInt8), (7 : UInt8), (7 : UInt8), (7 : UInt8), (7 : UInt8), (7 : UInt8), (7 : UInt8), (7 : UInt8), (7 : UInt8), (7 : UInt8), (7 : UInt8), (7 : UInt8), (7 : UInt8), (7 : UInt8), (7 : UInt8), (7 : UInt8), (7 : UInt8), (7 : UInt8), (7 : UInt8), (7 : UInt8), (7 : UInt8), (7 : UInt8), (7 : UInt8), (7 : UInt8), (7 : UInt8), (7 : UInt8), (7 : UInt8), (7 : UInt8), (7 : UInt8), (7 : UInt8), (7 : UInt8), (7 : UInt8), (7 : UInt8), (7 : UInt8), (7 : UInt8), (7 : UInt8), (7 : UInt8), (7 : UInt8), (7 : UInt8), (7 : UInt8), (7 : UInt8), (7 : UInt8), (7 : UInt8), (7 : UInt8), (7 : UInt8), (7 : UInt8), (7 : UInt8), (7 : UInt8), (7 : UInt8), (7 : UInt8), (7 : UInt8), (7 : UInt8), (7 : UInt8), (7 : UInt8), (7 : UInt8), (7 : UInt8), (7 : UInt8), (7 : UInt8), (7 : UInt8), (7 : UInt8), (7 : UInt8), (7 : UInt8)]) (List.append [(8 : UInt8), (8 : UInt8), (8 : UInt8), (8 : UInt8), (8 : UInt8), (8 : UInt8), (8 : UInt8), (8 : UInt8), (8 : UInt8), (8 : UInt8), (8 : UInt8), (8 : UInt8), (8 : UInt8), (8 : UInt8), (8 : UInt8), (8 : UInt8), (8 : UInt8), (8 : UInt8), (8 : UInt8), (8 : UInt8), (8 : UInt8), (8 : UInt8), (8 : UInt8), (8 : UInt8), (8 : UInt8), (8 : UInt8), (8 : UInt8), (8 : UInt8), (8 : UInt8), (8 : UInt8), (8 : UInt8), (8 : UInt8), (8 : UInt8), (8 : UInt8), (8 : UInt8), (8 : UInt8), (8 : UInt8), (8 : UInt8), (8 : UInt8), (8 : UInt8), (8 : UInt8), (8 : UInt8), (8 : UInt8), (8 : UInt8), (8 : UInt8), (8 : UInt8), (8 : UInt8), (8 : UInt8), (8 : UInt8), (8 : UInt8), (8 : UInt8), (8 : UInt8), (8 : UInt8), (8 : UInt8), (8 : UInt8), (8 : UInt8), (8 : UInt8), (8 : UInt8), (8 : UInt8), (8 : UInt8), (8 : UInt8), (8 : UInt8), (8 : UInt8), (8 : UInt8)] [(8 : UInt8), (8 : UInt8), (8 : UInt8), (8 : UInt8), (8 : UInt8), (8 : UInt8), (8 : UInt8), (8 : UInt8), (8 : UInt8), (8 : UInt8), (8 : UInt8), (8 : UInt8), (8 : UInt8), (8 : UInt8), (8 : UInt8), (8 : UInt8), (8 : UInt8), (8 : UInt8), (8 : UInt8), (8 : UInt8), (8 : UInt8), (8 : UInt8), (8 : UInt8), (8 : UInt8), (8 : UInt8), (8 : UInt8), (8 : UInt8), (8 : UInt8), (8 : UInt8), (8 : UInt8), (8 : UInt8), (8 : UInt8), (8 : UInt8), (8 : UInt8), (8 : UInt8), (8 : UInt8), (8 : UInt8), (8 : UInt8), (8 : UInt8), (8 : UInt8), (8 : UInt8), (8 : UInt8), (8 : UInt8), (8 : UInt8), (8 : UInt8), (8 : UInt8), (8 : UInt8), (8 : UInt8), (8 : UInt8), (8 : UInt8), (8 : UInt8), (8 : UInt8), (8 : UInt8), (8 : UInt8), (8 : UInt8), (8 : UInt8), (8 : UInt8), (8 : UInt8), (8 : UInt8), (8 : UInt8), (8 : UInt8), (8 : UInt8), (8 : UInt8), (8 : UInt8)]))) (Int.toNat x300) 0));
 let x302 : Int := (iwrap IntKind.i64 x301);
 let x303 : Int := (iwrap IntKind.i64 (x2 + x302));
 K ((AV.one (V1.s (SV.int IntKind.i64 x303)))) S
noncomputable def X58_13 : X := (.op .ret)
theorem F58_13_eq (D J : Disp) (x0 : Int) (x2 : Int) (S : St) (K : AV → St → Prop) : F58_13 D J x0 x2 S K = execK GraphP GraphG Go.Proofs.Try.f58 (typed GraphP D) J plans58 X58_13 (T58 13).1 (envOf (T58 13).2 [(AV.one (V1.s (SV.int IntKind.u64 x0))), (AV.one (V1.s (SV.int IntKind.i64 x2)))]) S K := by kernel_rfl
noncomputable abbrev A58_0 (D J : Disp) (vals : List AV) (S : St) (K : AV → St → Prop) : Prop :=
  uncA vals fun a9001 r9002 => scK a9001 fun s9004 => SV.cI IntKind.u64 s9004 fun x0 => endL r9002 <| F58_0 D J x0 S K
theorem A58_0_ok {D J : Disp} (hD : DOK GraphP GraphG D) (hJ : JOK GraphP GraphG Go.Proofs.Try.f58 T58 J) {vals : List AV} {S : St} {K : AV → St → Prop} (h0 : A58_0 D J vals S K) : Runs GraphP GraphG Go.Proofs.Try.f58 (T58 0).1 (envOf (T58 0).2 vals) S K := by
  obtain ⟨a9001, r9002, rfl, h3⟩ := uncA_some h0
  obtain ⟨s9004, rfl, h5⟩ := scK_some h3
  obtain ⟨x0, rfl, h6⟩ := cI_some h5
  obtain ⟨rfl, h7⟩ := endL_some h6
  rw [F58_0_eq] at h7
  exact execK_runs hD.typed Graph_zero Graph_mixed hJ X58_0 (T58 0).1 (envOf (T58 0).2 _) S K (chk_of (by kernel_rfl) (by kernel_rfl)) h7
noncomputable abbrev A58_5 (D J : Disp) (vals : List AV) (S : St) (K : AV → St → Prop) : Prop :=
  uncA vals fun a9001 r9002 => scK a9001 fun s9004 => SV.cI IntKind.u64 s9004 fun x0 => uncA r9002 fun a9007 r9008 => scK a9007 fun s9010 => SV.cI IntKind.i64 s9010 fun x2 => endL r9008 <| F58_5 D J x0 x2 S K
theorem A58_5_ok {D J : Disp} (hD : DOK GraphP GraphG D) (hJ : JOK GraphP GraphG Go.Proofs.Try.f58 T58 J) {vals : List AV} {S : St} {K : AV → St → Prop} (h0 : A58_5 D J vals S K) : Runs GraphP GraphG Go.Proofs.Try.f58 (T58 5).1 (envOf (T58 5).2 vals) S K := by
  obtain ⟨a9001, r9002, rfl, h3⟩ := uncA_some h0
  obtain ⟨s9004, rfl, h5⟩ := scK_some h3
  obtain ⟨x0, rfl, h6⟩ := cI_some h5
  obtain ⟨a9007, r9008, rfl, h9⟩ := uncA_some h6
  obtain ⟨s9010, rfl, h11⟩ := scK_some h9
  obtain ⟨x2, rfl, h12⟩ := cI_some h11
  obtain ⟨rfl, h13⟩ := endL_some h12
  rw [F58_5_eq] at h13
  exact execK_runs hD.typed Graph_zero Graph_mixed hJ X58_5 (T58 5).1 (envOf (T58 5).2 _) S K (chk_of (by kernel_rfl) (by kernel_rfl)) h13
noncomputable abbrev A58_9 (D J : Disp) (vals : List AV) (S : St) (K : AV → St → Prop) : Prop :=
  uncA vals fun a9001 r9002 => scK a9001 fun s9004 => SV.cI IntKind.u64 s9004 fun x0 => uncA r9002 fun a9007 r9008 => scK a9007 fun s9010 => SV.cI IntKind.i64 s9010 fun x2 => endL r9008 <| F58_9 D J x0 x2 S K
theorem A58_9_ok {D J : Disp} (hD : DOK GraphP GraphG D) (hJ : JOK GraphP GraphG Go.Proofs.Try.f58 T58 J) {vals : List AV} {S : St} {K : AV → St → Prop} (h0 : A58_9 D J vals S K) : Runs GraphP GraphG Go.Proofs.Try.f58 (T58 9).1 (envOf (T58 9).2 vals) S K := by
  obtain ⟨a9001, r9002, rfl, h3⟩ := uncA_some h0
  obtain ⟨s9004, rfl, h5⟩ := scK_some h3
  obtain ⟨x0, rfl, h6⟩ := cI_some h5
  obtain ⟨a9007, r9008, rfl, h9⟩ := uncA_some h6
  obtain ⟨s9010, rfl, h11⟩ := scK_some h9
  obtain ⟨x2, rfl, h12⟩ := cI_some h11
  obtain ⟨rfl, h13⟩ := endL_some h12
  rw [F58_9_eq] at h13
  exact execK_runs hD.typed Graph_zero Graph_mixed hJ X58_9 (T58 9).1 (envOf (T58 9).2 _) S K (chk_of (by kernel_rfl) (by kernel_rfl)) h13
noncomputable abbrev A58_13 (D J : Disp) (vals : List AV) (S : St) (K : AV → St → Prop) : Prop :=
  uncA vals fun a9001 r9002 => scK a9001 fun s9004 => SV.cI IntKind.u64 s9004 fun x0 => uncA r9002 fun a9007 r9008 => scK a9007 fun s9010 => SV.cI IntKind.i64 s9010 fun x2 => endL r9008 <| F58_13 D J x0 x2 S K
theorem A58_13_ok {D J : Disp} (hD : DOK GraphP GraphG D) (hJ : JOK GraphP GraphG Go.Proofs.Try.f58 T58 J) {vals : List AV} {S : St} {K : AV → St → Prop} (h0 : A58_13 D J vals S K) : Runs GraphP GraphG Go.Proofs.Try.f58 (T58 13).1 (envOf (T58 13).2 vals) S K := by
  obtain ⟨a9001, r9002, rfl, h3⟩ := uncA_some h0
  obtain ⟨s9004, rfl, h5⟩ := scK_some h3
  obtain ⟨x0, rfl, h6⟩ := cI_some h5
  obtain ⟨a9007, r9008, rfl, h9⟩ := uncA_some h6
  obtain ⟨s9010, rfl, h11⟩ := scK_some h9
  obtain ⟨x2, rfl, h12⟩ := cI_some h11
  obtain ⟨rfl, h13⟩ := endL_some h12
  rw [F58_13_eq] at h13
  exact execK_runs hD.typed Graph_zero Graph_mixed hJ X58_13 (T58 13).1 (envOf (T58 13).2 _) S K (chk_of (by kernel_rfl) (by kernel_rfl)) h13
noncomputable def J58 (D : Disp) (k : Nat) : Disp := Nat.rec (motive := fun _ => Disp) Disp.no (fun _ ih => Disp.add 0 (A58_0 D ih) <| Disp.add 5 (A58_5 D ih) <| Disp.add 9 (A58_9 D ih) <| Disp.add 13 (A58_13 D ih) <| Disp.no) k
theorem J58_ok {D : Disp} (hD : DOK GraphP GraphG D) : ∀ k, JOK GraphP GraphG Go.Proofs.Try.f58 T58 (J58 D k)
  | 0 => JOK.no
  | k + 1 => JOK.add (ltB_ok (by kernel_rfl)) (fun vals S K h => A58_0_ok hD (J58_ok hD k) h) <| JOK.add (ltB_ok (by kernel_rfl)) (fun vals S K h => A58_5_ok hD (J58_ok hD k) h) <| JOK.add (ltB_ok (by kernel_rfl)) (fun vals S K h => A58_9_ok hD (J58_ok hD k) h) <| JOK.add (ltB_ok (by kernel_rfl)) (fun vals S K h => A58_13_ok hD (J58_ok hD k) h) <| JOK.no
theorem E58_ok {D : Disp} (hD : DOK GraphP GraphG D) (k : Nat) {args : List AV} {S : St} {K : AV → St → Prop} (h : A58_0 D (J58 D k) args S K) : CallOK GraphP GraphG 58 args S K := by
  have hr := A58_0_ok hD (J58_ok hD k) h
  have hl : args.length = 1 := by
    have h0 := h
    obtain ⟨a9001, r9002, rfl, h3⟩ := uncA_some h0
    obtain ⟨s9004, rfl, h5⟩ := scK_some h3
    obtain ⟨x0, rfl, h6⟩ := cI_some h5
    obtain ⟨rfl, h7⟩ := endL_some h6
    rfl
  refine callOK_of (fn := Go.Proofs.Try.f58) (c := (match Go.Proofs.Try.f58.body with | some c => c | none => .skip)) (by kernel_rfl) (by kernel_rfl) (by kernel_rfl) (by rw [hl]; kernel_rfl) (by kernel_rfl) ?_
  rw [hl]
  exact hr
noncomputable def plans59 (i : Nat) : Plan := []
noncomputable def T59 (p : Nat) : List Item × List Nat := bif Nat.beq p 0 then ([.code (match Go.Proofs.Try.f59.body with | some c => c | none => .skip)], [0]) else
  bif Nat.beq p 5 then (navs [.op, .op, .op, .op, .th] [.code (match Go.Proofs.Try.f59.body with | some c => c | none => .skip)], [1, 3, 5, 6]) else
  bif Nat.beq p 7 then (navs [.op, .op, .op, .op, .th, .th, .op] [.code (match Go.Proofs.Try.f59.body with | some c => c | none => .skip)], [1, 3]) else
  bif Nat.beq p 21 then (navs [.op, .op, .op, .op, .th, .el, .op, .th] [.code (match Go.Proofs.Try.f59.body with | some c => c | none => .skip)], [1, 3, 5, 21]) else
  bif Nat.beq p 10 then (navs [.op, .op, .op, .op, .th, .th, .op, .op, .op, .th] [.code (match Go.Proofs.Try.f59.body with | some c => c | none => .skip)], [1, 3, 43]) else
  ([], [])
noncomputable def F59_0 (D J : Disp) (x0_0 : Int) (x0_1 : Int) (x0_2 : Int) (x0_3 : Int) (x0_4 : Int) (x0_5 : Int) (x0_6 : Int) (c0_7 : Bool) (l0_8 : LV) (l0_9 : LV) (l0_10 : LV) (S : St) (K : AV → St → Prop) : Prop :=
 let S300 : St := (St.add S (AO.cells [(SV.int IntKind.i64 x0_0), (SV.int IntKind.i64 x0_1), (SV.int IntKind.i64 x0_2), (SV.int IntKind.i64 x0_3), (SV.int IntKind.i64 x0_4), (SV.int IntKind.i64 x0_5), (SV.int IntKind.i64 x0_6), (SV.bool c0_7), (SV.sl l0_8), (SV.sl l0_9), (SV.sl l0_10)] Bool.false));
 St.at S300 (Bk.new (St.next S)) 0 fun y301 =>
 uncK y301 fun v302 y303 =>
 SV.cI IntKind.i64 v302 fun x307 =>
 let c308 : Bool := (ieq x307 (2 : Int));
 ifK c308
 (J 5 [(AV.one (V1.s (SV.ptr (PV.mk (Bk.new (St.next S)) 0)))), (AV.one (V1.s (SV.sl LV.nil))), (AV.one (V1.s (SV.int IntKind.i64 x307))), (AV.one (V1.s (SV.bool c308)))] S300 K)
 (let c309 : Bool := (ieq x307 (4 : Int));
 ifK c309
 (J 5 [(AV.one (V1.s (SV.ptr (PV.mk (Bk.new (St.next S)) 0)))), (AV.one (V1.s (SV.sl LV.nil))), (AV.one (V1.s (SV.int IntKind.i64 x307))), (AV.one (V1.s (SV.bool c309)))] S300 K)
 (let c310 : Bool := (ieq x307 (5 : Int));
 ifK c310
 (J 5 [(AV.one (V1.s (SV.ptr (PV.mk (Bk.new (St.next S)) 0)))), (AV.one (V1.s (SV.sl LV.nil))), (AV.one (V1.s (SV.int IntKind.i64 x307))), (AV.one (V1.s (SV.bool c310)))] S300 K)
 (let c311 : Bool := (ieq x307 (11 : Int));
 ifK c311
 (J 5 [(AV.one (V1.s (SV.ptr (PV.mk (Bk.new (St.next S)) 0)))), (AV.one (V1.s (SV.sl LV.nil))), (AV.one (V1.s (SV.int IntKind.i64 x307))), (AV.one (V1.s (SV.bool c311)))] S300 K)
 (let c312 : Bool := (ieq x307 (13 : Int));
 ifK c312
 (J 5 [(AV.one (V1.s (SV.ptr (PV.mk (Bk.new (St.next S)) 0)))), (AV.one (V1.s (SV.sl LV.nil))), (AV.one (V1.s (SV.int IntKind.i64 x307))), (AV.one (V1.s (SV.bool c312)))] S300 K)
 (let c313 : Bool := (ieq x307 (15 : Int));
 ifK c313
 (J 5 [(AV.one (V1.s (SV.ptr (PV.mk (Bk.new (St.next S)) 0)))), (AV.one (V1.s (SV.sl LV.nil))), (AV.one (V1.s (SV.int IntKind.i64 x307))), (AV.one (V1.s (SV.bool c313)))] S300 K)
 (let c314 : Bool := (ieq x307 (16 : Int));
 ifK c314
 (J 5 [(AV.one (V1.s (SV.ptr (PV.mk (Bk.new (St.next S)) 0)))), (AV.one (V1.s (SV.sl LV.nil))), (AV.one (V1.s (SV.int IntKind.i64 x307))), (AV.one (V1.s (SV.bool c314)))] S300 K)
 (let c315 : Bool := (ieq x307 (18 : Int));
 ifK c315
 (J 5 [(AV.one (V1.s (SV.ptr (PV.mk (Bk.new (St.next S)) 0)))), (AV.one (V1.s (SV.sl LV.nil))), (AV.one (V1.s (SV.int IntKind.i64 x307))), (AV.one (V1.s (SV.bool c315)))] S300 K)
 (let c316 : Bool := (ieq x307 (20 : Int));
 J 5 [(AV.one (V1.s (SV.ptr (PV.mk (Bk.new (St.next S)) 0)))), (AV.one (V1.s (SV.sl LV.nil))), (AV.one (V1.s (SV.int IntKind.i64 x307))), (AV.one (V1.s (SV.bool c316)))] S300 K))))))))
noncomputable def X59_0 : X := (.op (.op (.op (.op (.br (.jmp 5 [1, 3, 5, 6]) (.op (.br (.jmp 5 [1, 3, 5, 6]) (.op (.br (.jmp 5 [1, 3, 5, 6]) (.op (.br (.jmp 5 [1, 3, 5, 6]) (.op (.br (.jmp 5 [1, 3, 5, 6]) (.op (.br (.jmp 5 [1, 3, 5, 6]) (.op (.br (.jmp 5 [1, 3, 5, 6]) (.op (.br (.jmp 5 [1, 3, 5, 6]) (.op (.jmp 5 [1, 3, 5, 6])))))))))))))))))))))
theorem F59_0_eq (D J : Disp) (x0_0 : Int) (x0_1 : Int) (x0_2 : Int) (x0_3 : Int) (x0_4 : Int) (x0_5 : Int) (x0_6 : Int) (c0_7 : Bool) (l0_8 : LV) (l0_9 : LV) (l0_10 : LV) (S : St) (K : AV → St → Prop) : F59_0 D J x0_0 x0_1 x0_2 x0_3 x0_4 x0_5 x0_6 c0_7 l0_8 l0_9 l0_10 S K = execK GraphP GraphG Go.Proofs.Try.f59 (typed GraphP D) J plans59 X59_0 (T59 0).1 (envOf (T59 0).2 [(AV.one (V1.agg [(SV.int IntKind.i64 x0_0), (SV.int IntKind.i64 x0_1), (SV.int IntKind.i64 x0_2), (SV.int IntKind.i64 x0_3), (SV.int IntKind.i64 x0_4), (SV.int IntKind.i64 x0_5), (SV.int IntKind.i64 x0_6), (SV.bool c0_7), (SV.sl l0_8), (SV.sl l0_9), (SV.sl l0_10)]))]) S K := by kernel_rfl
noncomputable def F59_5 (D J : Disp) (p1 : PV) (l3 : LV) (x5 : Int) (c6 : Bool) (S : St) (K : AV → St → Prop) : Prop :=
 ifK c6
 (PV.cs p1 fun b300 n301 =>
 let n302 : Nat := (n301 + 3);
 St.at S b300 n302 fun y303 =>
 uncK y303 fun v304 y305 =>
 SV.cI IntKind.i64 v304 fun x309 =>
 let d310 : (Sum Nat Nat) := (Sum.inl 1);
 let S311 : St := (St.add S (AO.cells [(SV.int IntKind.i64 x309)] Bool.false));
 St.src S311 1 (LV.mk (Bk.new (St.next S)) 0 1 d310) fun y312 n313 =>
 St.app S311 1 8 l3 y312 n313 fun y314 S315 =>
 J 7 [(AV.one (V1.s (SV.ptr p1))), (AV.one (V1.s (SV.sl y314)))] S315 K)
 (let c321 : Bool := (ieq x5 (3 : Int));
 ifK c321
 (J 21 [(AV.one (V1.s (SV.ptr p1))), (AV.one (V1.s (SV.sl l3))), (AV.one (V1.s (SV.int IntKind.i64 x5))), (AV.one (V1.s (SV.bool c321)))] S K)
 (let c322 : Bool := (ieq x5 (6 : Int));
 J 21 [(AV.one (V1.s (SV.ptr p1))), (AV.one (V1.s (SV.sl l3))), (AV.one (V1.s (SV.int IntKind.i64 x5))), (AV.one (V1.s (SV.bool c322)))] S K))
noncomputable def X59_5 : X := (.br (.op (.jmp 7 [1, 3])) (.op (.br (.jmp 21 [1, 3, 5, 21]) (.op (.jmp 21 [1, 3, 5, 21])))))
theorem F59_5_eq (D J : Disp) (p1 : PV) (l3 : LV) (x5 : Int) (c6 : Bool) (S : St) (K : AV → St → Prop) : F59_5 D J p1 l3 x5 c6 S K = execK GraphP GraphG Go.Proofs.Try.f59 (typed GraphP D) J plans59 X59_5 (T59 5).1 (envOf (T59 5).2 [(AV.one (V1.s (SV.ptr p1))), (AV.one (V1.s (SV.sl l3))), (AV.one (V1.s (SV.int IntKind.i64 x5))), (AV.one (V1.s (SV.bool c6)))]) S K := by kernel_rfl
noncomputable def F59_7 (D J : Disp) (p1 : PV) (l3 : LV) (S : St) (K : AV → St → Prop) : Prop :=
 PV.cs p1 fun b300 n301 =>
 let n302 : Nat := (n301 + 0);
 St.at S b300 n302 fun y303 =>
 uncK y303 fun v304 y305 =>
 SV.cI IntKind.i64 v304 fun x309 =>
 let c310 : Bool := (ieq x309 (10 : Int));
 ifK c310
 (J 10 [(AV.one (V1.s (SV.ptr p1))), (AV.one (V1.s (SV.sl l3))), (AV.one (V1.s (SV.bool c310)))] S K)
 (let c311 : Bool := (ieq x309 (11 : Int));
 ifK c311
 (J 10 [(AV.one (V1.s (SV.ptr p1))), (AV.one (V1.s (SV.sl l3))), (AV.one (V1.s (SV.bool c311)))] S K)
 (let c312 : Bool := (ieq x309 (19 : Int));
 ifK c312
 (J 10 [(AV.one (V1.s (SV.ptr p1))), (AV.one (V1.s (SV.sl l3))), (AV.one (V1.s (SV.bool c312)))] S K)
 (let c313 : Bool := (ieq x309 (20 : Int));
 J 10 [(AV.one (V1.s (SV.ptr p1))), (AV.one (V1.s (SV.sl l3))), (AV.one (V1.s (SV.bool c313)))] S K)))
noncomputable def X59_7 : X := (.op (.op (.br (.jmp 10 [1, 3, 43]) (.op (.br (.jmp 10 [1, 3, 43]) (.op (.br (.jmp 10 [1, 3, 43]) (.op (.jmp 10 [1, 3, 43])))))))))
theorem F59_7_eq (D J : Disp) (p1 : PV) (l3 : LV) (S : St) (K : AV → St → Prop) : F59_7 D J p1 l3 S K = execK GraphP GraphG Go.Proofs.Try.f59 (typed GraphP D) J plans59 X59_7 (T59 7).1 (envOf (T59 7).2 [(AV.one (V1.s (SV.ptr p1))), (AV.one (V1.s (SV.sl l3)))]) S K := by kernel_rfl
noncomputable def F59_10 (D J : Disp) (p1 : PV) (l3 : LV) (c43 : Bool) (S : St) (K : AV → St → Prop) : Prop :=
 ifK c43
 (PV.cs p1 fun b300 n301 =>
 let n302 : Nat := (n301 + 8);
 St.at S b300 n302 fun y303 =>
 uncK y303 fun v304 y305 =>
 SV.cL v304 fun y312 =>
 St.src S 1 y312 fun y313 n314 =>
 St.app S 1 8 l3 y313 n314 fun y315 S316 =>
 K ((AV.one (V1.s (SV.sl y315)))) S316)
 (K ((AV.one (V1.s (SV.sl l3)))) S)
noncomputable def X59_10 : X := (.br (.op (.op .ret)) (.op .ret))
theorem F59_10_eq (D J : Disp) (p1 : PV) (l3 : LV) (c43 : Bool) (S : St) (K : AV → St → Prop) : F59_10 D J p1 l3 c43 S K = execK GraphP GraphG Go.Proofs.Try.f59 (typed GraphP D) J plans59 X59_10 (T59 10).1 (envOf (T59 10).2 [(AV.one (V1.s (SV.ptr p1))), (AV.one (V1.s (SV.sl l3))), (AV.one (V1.s (SV.bool c43)))]) S K := by kernel_rfl
noncomputable def F59_21 (D J : Disp) (p1 : PV) (l3 : LV) (x5 : Int) (c21 : Bool) (S : St) (K : AV → St → Prop) : Prop :=
 ifK c21
 (PV.cs p1 fun b300 n301 =>
 let n302 : Nat := (n301 + 3);
 St.at S b300 n302 fun y303 =>
 uncK y303 fun v304 y305 =>
 SV.cI IntKind.i64 v304 fun x309 =>
 PV.cs p1 fun b310 n311 =>
 let n312 : Nat := (n311 + 4);
 St.at S b310 n312 fun y313 =>
 uncK y313 fun v314 y315 =>
 SV.cI IntKind.i64 v314 fun x319 =>
 let d320 : (Sum Nat Nat) := (Sum.inl 2);
 let S321 : St := (St.add S (AO.cells [(SV.int IntKind.i64 x309), (SV.int IntKind.i64 x319)] Bool.false));
 St.src S321 1 (LV.mk (Bk.new (St.next S)) 0 2 d320) fun y322 n323 =>
 St.app S321 1 8 l3 y322 n323 fun y324 S325 =>
 J 7 [(AV.one (V1.s (SV.ptr p1))), (AV.one (V1.s (SV.sl y324)))] S325 K)
 (let c336 : Bool := (ieq x5 (17 : Int));
 ifK c336
 (PV.cs p1 fun b337 n338 =>
 let n339 : Nat := (n338 + 3);
 St.at S b337 n339 fun y340 =>
 uncK y340 fun v341 y342 =>
 SV.cI IntKind.i64 v341 fun x346 =>
 let c347 : Bool := (Bool.not (ieq x346 (Int.negSucc 0)));
 ifK c347
 (PV.cs p1 fun b348 n349 =>
 let n350 : Nat := (n349 + 3);
 St.at S b348 n350 fun y351 =>
 uncK y351 fun v352 y353 =>
 SV.cI IntKind.i64 v352 fun x357 =>
 let d358 : (Sum Nat Nat) := (Sum.inl 1);
 let S359 : St := (St.add S (AO.cells [(SV.int IntKind.i64 x357)] Bool.false));
 St.src S359 1 (LV.mk (Bk.new (St.next S)) 0 1 d358) fun y360 n361 =>
 St.app S359 1 8 l3 y360 n361 fun y362 S363 =>
 J 7 [(AV.one (V1.s (SV.ptr p1))), (AV.one (V1.s (SV.sl y362)))] S363 K)
 (J 7 [(AV.one (V1.s (SV.ptr p1))), (AV.one (V1.s (SV.sl l3)))] S K))
 (J 7 [(AV.one (V1.s (SV.ptr p1))), (AV.one (V1.s (SV.sl l3)))] S K))
noncomputable def X59_21 : X := (.br (.op (.jmp 7 [1, 3])) (.op (.br (.op (.br (.op (.jmp 7 [1, 3])) (.jmp 7 [1, 3]))) (.jmp 7 [1, 3]))))
theorem F59_21_eq (D J : Disp) (p1 : PV) (l3 : LV) (x5 : Int) (c21 : Bool) (S : St) (K : AV → St → Prop) : F59_21 D J p1 l3 x5 c21 S K = execK GraphP GraphG Go.Proofs.Try.f59 (typed GraphP D) J plans59 X59_21 (T59 21).1 (envOf (T59 21).2 [(AV.one (V1.s (SV.ptr p1))), (AV.one (V1.s (SV.sl l3))), (AV.one (V1.s (SV.int IntKind.i64 x5))), (AV.one (V1.s (SV.bool c21)))]) S K := by kernel_rfl
noncomputable abbrev A59_0 (D J : Disp) (vals : List AV) (S : St) (K : AV → St → Prop) : Prop :=
  uncA vals fun a9001 r9002 => avA a9001 fun l9004 => uncK l9004 fun s9006 r9007 => SV.cI IntKind.i64 s9006 fun x0_0 => uncK r9007 fun s9010 r9011 => SV.cI IntKind.i64 s9010 fun x0_1 => uncK r9011 fun s9014 r9015 => SV.cI IntKind.i64 s9014 fun x0_2 => uncK r9015 fun s9018 r9019 => SV.cI IntKind.i64 s9018 fun x0_3 => uncK r9019 fun s9022 r9023 => SV.cI IntKind.i64 s9022 fun x0_4 => uncK r9023 fun s9026 r9027 => SV.cI IntKind.i64 s9026 fun x0_5 => uncK r9027 fun s9030 r9031 => SV.cI IntKind.i64 s9030 fun x0_6 => uncK r9031 fun s9034 r9035 => SV.cB s9034 fun c0_7 => uncK r9035 fun s9038 r9039 => SV.cL s9038 fun l0_8 => uncK r9039 fun s9042 r9043 => SV.cL s9042 fun l0_9 => uncK r9043 fun s9046 r9047 => SV.cL s9046 fun l0_10 => endL r9047 <| endL r9002 <| F59_0 D J x0_0 x0_1 x0_2 x0_3 x0_4 x0_5 x0_6 c0_7 l0_8 l0_9 l0_10 S K
theorem A59_0_ok {D J : Disp} (hD : DOK GraphP GraphG D) (hJ : JOK GraphP GraphG Go.Proofs.Try.f59 T59 J) {vals : List AV} {S : St} {K : AV → St → Prop} (h0 : A59_0 D J vals S K) : Runs GraphP GraphG Go.Proofs.Try.f59 (T59 0).1 (envOf (T59 0).2 vals) S K := by
  obtain ⟨a9001, r9002, rfl, h3⟩ := uncA_some h0
  obtain ⟨l9004, rfl, h5⟩ := avA_some h3
  obtain ⟨s9006, r9007, rfl, h8⟩ := uncK_some h5
  obtain ⟨x0_0, rfl, h9⟩ := cI_some h8
  obtain ⟨s9010, r9011, rfl, h12⟩ := uncK_some h9
  obtain ⟨x0_1, rfl, h13⟩ := cI_some h12
  obtain ⟨s9014, r9015, rfl, h16⟩ := uncK_some h13
  obtain ⟨x0_2, rfl, h17⟩ := cI_some h16
  obtain ⟨s9018, r9019, rfl, h20⟩ := uncK_some h17
  obtain ⟨x0_3, rfl, h21⟩ := cI_some h20
  obtain ⟨s9022, r9023, rfl, h24⟩ := uncK_some h21
  obtain ⟨x0_4, rfl, h25⟩ := cI_some h24
  obtain ⟨s9026, r9027, rfl, h28⟩ := uncK_some h25
  obtain ⟨x0_5, rfl, h29⟩ := cI_some h28
  obtain ⟨s9030, r9031, rfl, h32⟩ := uncK_some h29
  obtain ⟨x0_6, rfl, h33⟩ := cI_some h32
  obtain ⟨s9034, r9035, rfl, h36⟩ := uncK_some h33
  obtain ⟨c0_7, rfl, h37⟩ := cB_some h36
  obtain ⟨s9038, r9039, rfl, h40⟩ := uncK_some h37
  obtain ⟨l0_8, rfl, h41⟩ := cL_some h40
  obtain ⟨s9042, r9043, rfl, h44⟩ := uncK_some h41
  obtain ⟨l0_9, rfl, h45⟩ := cL_some h44
  obtain ⟨s9046, r9047, rfl, h48⟩ := uncK_some h45
  obtain ⟨l0_10, rfl, h49⟩ := cL_some h48
  obtain ⟨rfl, h50⟩ := endL_some h49
  obtain ⟨rfl, h51⟩ := endL_some h50
  rw [F59_0_eq] at h51
  exact execK_runs hD.typed Graph_zero Graph_mixed hJ X59_0 (T59 0).1 (envOf (T59 0).2 _) S K (chk_of (by kernel_rfl) (by kernel_rfl)) h51
noncomputable abbrev A59_5 (D J : Disp) (vals : List AV) (S : St) (K : AV → St → Prop) : Prop :=
  uncA vals fun a9001 r9002 => scK a9001 fun s9004 => SV.cP s9004 fun p1 => uncA r9002 fun a9007 r9008 => scK a9007 fun s9010 => SV.cL s9010 fun l3 => uncA r9008 fun a9013 r9014 => scK a9013 fun s9016 => SV.cI IntKind.i64 s9016 fun x5 => uncA r9014 fun a9019 r9020 => scK a9019 fun s9022 => SV.cB s9022 fun c6 => endL r9020 <| F59_5 D J p1 l3 x5 c6 S K
theorem A59_5_ok {D J : Disp} (hD : DOK GraphP GraphG D) (hJ : JOK GraphP GraphG Go.Proofs.Try.f59 T59 J) {vals : List AV} {S : St} {K : AV → St → Prop} (h0 : A59_5 D J vals S K) : Runs GraphP GraphG Go.Proofs.Try.f59 (T59 5).1 (envOf (T59 5).2 vals) S K := by
  obtain ⟨a9001, r9002, rfl, h3⟩ := uncA_some h0
  obtain ⟨s9004, rfl, h5⟩ := scK_some h3
  obtain ⟨p1, rfl, h6⟩ := cP_some h5
  obtain ⟨a9007, r9008, rfl, h9⟩ := uncA_some h6
  obtain ⟨s9010, rfl, h11⟩ := scK_some h9
  obtain ⟨l3, rfl, h12⟩ := cL_some h11
  obtain ⟨a9013, r9014, rfl, h15⟩ := uncA_some h12
  obtain ⟨s9016, rfl, h17⟩ := scK_some h15
  obtain ⟨x5, rfl, h18⟩ := cI_some h17
  obtain ⟨a9019, r9020, rfl, h21⟩ := uncA_some h18
  obtain ⟨s9022, rfl, h23⟩ := scK_some h21
  obtain ⟨c6, rfl, h24⟩ := cB_some h23
  obtain ⟨rfl, h25⟩ := endL_some h24
  rw [F59_5_eq] at h25
  exact execK_runs hD.typed Graph_zero Graph_mixed hJ X59_5 (T59 5).1 (envOf (T59 5).2 _) S K (chk_of (by kernel_rfl) (by kernel_rfl)) h25
noncomputable abbrev A59_7 (D J : Disp) (vals : List AV) (S : St) (K : AV → St → Prop) : Prop :=
  uncA vals fun a9001 r9002 => scK a9001 fun s9004 => SV.cP s9004 fun p1 => uncA r9002 fun a9007 r9008 => scK a9007 fun s9010 => SV.cL s9010 fun l3 => endL r9008 <| F59_7 D J p1 l3 S K
theorem A59_7_ok {D J : Disp} (hD : DOK GraphP GraphG D) (hJ : JOK GraphP GraphG Go.Proofs.Try.f59 T59 J) {vals : List AV} {S : St} {K : AV → St → Prop} (h0 : A59_7 D J vals S K) : Runs GraphP GraphG Go.Proofs.Try.f59 (T59 7).1 (envOf (T59 7).2 vals) S K := by
  obtain ⟨a9001, r9002, rfl, h3⟩ := uncA_some h0
  obtain ⟨s9004, rfl, h5⟩ := scK_some h3
  obtain ⟨p1, rfl, h6⟩ := cP_some h5
  obtain ⟨a9007, r9008, rfl, h9⟩ := uncA_some h6
  obtain ⟨s9010, rfl, h11⟩ := scK_some h9
  obtain ⟨l3, rfl, h12⟩ := cL_some h11
  obtain ⟨rfl, h13⟩ := endL_some h12
  rw [F59_7_eq] at h13
  exact execK_runs hD.typed Graph_zero Graph_mixed hJ X59_7 (T59 7).1 (envOf (T59 7).2 _) S K (chk_of (by kernel_rfl) (by kernel_rfl)) h13
noncomputable abbrev A59_10 (D J : Disp) (vals : List AV) (S : St) (K : AV → St → Prop) : Prop :=
  uncA vals fun a9001 r9002 => scK a9001 fun s9004 => SV.cP s9004 fun p1 => uncA r9002 fun a9007 r9008 => scK a9007 fun s9010 => SV.cL s9010 fun l3 => uncA r9008 fun a9013 r9014 => scK a9013 fun s9016 => SV.cB s9016 fun c43 => endL r9014 <| F59_10 D J p1 l3 c43 S K
theorem A59_10_ok {D J : Disp} (hD : DOK GraphP GraphG D) (hJ : JOK GraphP GraphG Go.Proofs.Try.f59 T59 J) {vals : List AV} {S : St} {K : AV → St → Prop} (h0 : A59_10 D J vals S K) : Runs GraphP GraphG Go.Proofs.Try.f59 (T59 10).1 (envOf (T59 10).2 vals) S K := by
  obtain ⟨a9001, r9002, rfl, h3⟩ := uncA_some h0
  obtain ⟨s9004, rfl, h5⟩ := scK_some h3
  obtain ⟨p1, rfl, h6⟩ := cP_some h5
  obtain ⟨a9007, r9008, rfl, h9⟩ := uncA_some h6
  obtain ⟨s9010, rfl, h11⟩ := scK_some h9
  obtain ⟨l3, rfl, h12⟩ := cL_some h11
  obtain ⟨a9013, r9014, rfl, h15⟩ := uncA_some h12
  obtain ⟨s9016, rfl, h17⟩ := scK_some h15
  obtain ⟨c43, rfl, h18⟩ := cB_some h17
  obtain ⟨rfl, h19⟩ := endL_some h18
  rw [F59_10_eq] at h19
  exact execK_runs hD.typed Graph_zero Graph_mixed hJ X59_10 (T59 10).1 (envOf (T59 10).2 _) S K (chk_of (by kernel_rfl) (by kernel_rfl)) h19
noncomputable abbrev A59_21 (D J : Disp) (vals : List AV) (S : St) (K : AV → St → Prop) : Prop :=
  uncA vals fun a9001 r9002 => scK a9001 fun s9004 => SV.cP s9004 fun p1 => uncA r9002 fun a9007 r9008 => scK a9007 fun s9010 => SV.cL s9010 fun l3 => uncA r9008 fun a9013 r9014 => scK a9013 fun s9016 => SV.cI IntKind.i64 s9016 fun x5 => uncA r9014 fun a9019 r9020 => scK a9019 fun s9022 => SV.cB s9022 fun c21 => endL r9020 <| F59_21 D J p1 l3 x5 c21 S K
theorem A59_21_ok {D J : Disp} (hD : DOK GraphP GraphG D) (hJ : JOK GraphP GraphG Go.Proofs.Try.f59 T59 J) {vals : List AV} {S : St} {K : AV → St → Prop} (h0 : A59_21 D J vals S K) : Runs GraphP GraphG Go.Proofs.Try.f59 (T59 21).1 (envOf (T59 21).2 vals) S K := by
  obtain ⟨a9001, r9002, rfl, h3⟩ := uncA_some h0
  obtain ⟨s9004, rfl, h5⟩ := scK_some h3
  obtain ⟨p1, rfl, h6⟩ := cP_some h5
  obtain ⟨a9007, r9008, rfl, h9⟩ := uncA_some h6
  obtain ⟨s9010, rfl, h11⟩ := scK_some h9
  obtain ⟨l3, rfl, h12⟩ := cL_some h11
  obtain ⟨a9013, r9014, rfl, h15⟩ := uncA_some h12
  obtain ⟨s9016, rfl, h17⟩ := scK_some h15
  obtain ⟨x5, rfl, h18⟩ := cI_some h17
  obtain ⟨a9019, r9020, rfl, h21⟩ := uncA_some h18
  obtain ⟨s9022, rfl, h23⟩ := scK_some h21
  obtain ⟨c21, rfl, h24⟩ := cB_some h23
  obtain ⟨rfl, h25⟩ := endL_some h24
  rw [F59_21_eq] at h25
  exact execK_runs hD.typed Graph_zero Graph_mixed hJ X59_21 (T59 21).1 (envOf (T59 21).2 _) S K (chk_of (by kernel_rfl) (by kernel_rfl)) h25
noncomputable def J59 (D : Disp) (k : Nat) : Disp := Nat.rec (motive := fun _ => Disp) Disp.no (fun _ ih => Disp.add 0 (A59_0 D ih) <| Disp.add 5 (A59_5 D ih) <| Disp.add 7 (A59_7 D ih) <| Disp.add 10 (A59_10 D ih) <| Disp.add 21 (A59_21 D ih) <| Disp.no) k
theorem J59_ok {D : Disp} (hD : DOK GraphP GraphG D) : ∀ k, JOK GraphP GraphG Go.Proofs.Try.f59 T59 (J59 D k)
  | 0 => JOK.no
  | k + 1 => JOK.add (ltB_ok (by kernel_rfl)) (fun vals S K h => A59_0_ok hD (J59_ok hD k) h) <| JOK.add (ltB_ok (by kernel_rfl)) (fun vals S K h => A59_5_ok hD (J59_ok hD k) h) <| JOK.add (ltB_ok (by kernel_rfl)) (fun vals S K h => A59_7_ok hD (J59_ok hD k) h) <| JOK.add (ltB_ok (by kernel_rfl)) (fun vals S K h => A59_10_ok hD (J59_ok hD k) h) <| JOK.add (ltB_ok (by kernel_rfl)) (fun vals S K h => A59_21_ok hD (J59_ok hD k) h) <| JOK.no
theorem E59_ok {D : Disp} (hD : DOK GraphP GraphG D) (k : Nat) {args : List AV} {S : St} {K : AV → St → Prop} (h : A59_0 D (J59 D k) args S K) : CallOK GraphP GraphG 59 args S K := by
  have hr := A59_0_ok hD (J59_ok hD k) h
  have hl : args.length = 1 := by
    have h0 := h
    obtain ⟨a9001, r9002, rfl, h3⟩ := uncA_some h0
    obtain ⟨l9004, rfl, h5⟩ := avA_some h3
    obtain ⟨s9006, r9007, rfl, h8⟩ := uncK_some h5
    obtain ⟨x0_0, rfl, h9⟩ := cI_some h8
    obtain ⟨s9010, r9011, rfl, h12⟩ := uncK_some h9
    obtain ⟨x0_1, rfl, h13⟩ := cI_some h12
    obtain ⟨s9014, r9015, rfl, h16⟩ := uncK_some h13
    obtain ⟨x0_2, rfl, h17⟩ := cI_some h16
    obtain ⟨s9018, r9019, rfl, h20⟩ := uncK_some h17
    obtain ⟨x0_3, rfl, h21⟩ := cI_some h20
    obtain ⟨s9022, r9023, rfl, h24⟩ := uncK_some h21
    obtain ⟨x0_4, rfl, h25⟩ := cI_some h24
    obtain ⟨s9026, r9027, rfl, h28⟩ := uncK_some h25
    obtain ⟨x0_5, rfl, h29⟩ := cI_some h28
    obtain ⟨s9030, r9031, rfl, h32⟩ := uncK_some h29
    obtain ⟨x0_6, rfl, h33⟩ := cI_some h32
    obtain ⟨s9034, r9035, rfl, h36⟩ := uncK_some h33
    obtain ⟨c0_7, rfl, h37⟩ := cB_some h36
    obtain ⟨s9038, r9039, rfl, h40⟩ := uncK_some h37
    obtain ⟨l0_8, rfl, h41⟩ := cL_some h40
    obtain ⟨s9042, r9043, rfl, h44⟩ := uncK_some h41
    obtain ⟨l0_9, rfl, h45⟩ := cL_some h44
    obtain ⟨s9046, r9047, rfl, h48⟩ := uncK_some h45
    obtain ⟨l0_10, rfl, h49⟩ := cL_some h48
    obtain ⟨rfl, h50⟩ := endL_some h49
    obtain ⟨rfl, h51⟩ := endL_some h50
    rfl
  refine callOK_of (fn := Go.Proofs.Try.f59) (c := (match Go.Proofs.Try.f59.body with | some c => c | none => .skip)) (by kernel_rfl) (by kernel_rfl) (by kernel_rfl) (by rw [hl]; kernel_rfl) (by kernel_rfl) ?_
  rw [hl]
  exact hr
noncomputable def plans60 (i : Nat) : Plan := []
noncomputable def T60 (p : Nat) : List Item × List Nat := bif Nat.beq p 0 then ([.code (match Go.Proofs.Try.f60.body with | some c => c | none => .skip)], [0]) else
  bif Nat.beq p 4 then (navs [.op, .op, .op, .th] [.code (match Go.Proofs.Try.f60.body with | some c => c | none => .skip)], [1, 5]) else
  ([], [])
noncomputable def F60_0 (D J : Disp) (x0_0 : Int) (x0_1 : Int) (x0_2 : Int) (x0_3 : Int) (x0_4 : Int) (x0_5 : Int) (x0_6 : Int) (c0_7 : Bool) (l0_8 : LV) (l0_9 : LV) (l0_10 : LV) (S : St) (K : AV → St → Prop) : Prop :=
 let S300 : St := (St.add S (AO.cells [(SV.int IntKind.i64 x0_0), (SV.int IntKind.i64 x0_1), (SV.int IntKind.i64 x0_2), (SV.int IntKind.i64 x0_3), (SV.int IntKind.i64 x0_4), (SV.int IntKind.i64 x0_5), (SV.int IntKind.i64 x0_6), (SV.bool c0_7), (SV.sl l0_8), (SV.sl l0_9), (SV.sl l0_10)] Bool.false));
 St.at S300 (Bk.new (St.next S)) 0 fun y301 =>
 uncK y301 fun v302 y303 =>
 SV.cI IntKind.i64 v302 fun x307 =>
 let c308 : Bool := (ieq x307 (1 : Int));
 ifK c308
 (J 4 [(AV.one (V1.s (SV.ptr (PV.mk (Bk.new (St.next S)) 0)))), (AV.one (V1.s (SV.bool c308)))] S300 K)
 (let c309 : Bool := (ieq x307 (2 : Int));
 ifK c309
 (J 4 [(AV.one (V1.s (SV.ptr (PV.mk (Bk.new (St.next S)) 0)))), (AV.one (V1.s (SV.bool c309)))] S300 K)
 (let c310 : Bool := (ieq x307 (3 : Int));
 ifK c310
 (J 4 [(AV.one (V1.s (SV.ptr (PV.mk (Bk.new (St.next S)) 0)))), (AV.one (V1.s (SV.bool c310)))] S300 K)
 (let c311 : Bool := (ieq x307 (4 : Int));
 ifK c311
 (J 4 [(AV.one (V1.s (SV.ptr (PV.mk (Bk.new (St.next S)) 0)))), (AV.one (V1.s (SV.bool c311)))] S300 K)
 (let c312 : Bool := (ieq x307 (5 : Int));
 ifK c312
 (J 4 [(AV.one (V1.s (SV.ptr (PV.mk (Bk.new (St.next S)) 0)))), (AV.one (V1.s (SV.bool c312)))] S300 K)
 (let c313 : Bool := (ieq x307 (7 : Int));
 ifK c313
 (J 4 [(AV.one (V1.s (SV.ptr (PV.mk (Bk.new (St.next S)) 0)))), (AV.one (V1.s (SV.bool c313)))] S300 K)
 (let c314 : Bool := (ieq x307 (8 : Int));
 ifK c314
 (J 4 [(AV.one (V1.s (SV.ptr (PV.mk (Bk.new (St.next S)) 0)))), (AV.one (V1.s (SV.bool c314)))] S300 K)
 (let c315 : Bool := (ieq x307 (9 : Int));
 ifK c315
 (J 4 [(AV.one (V1.s (SV.ptr (PV.mk (Bk.new (St.next S)) 0)))), (AV.one (V1.s (SV.bool c315)))] S300 K)
 (let c316 : Bool := (ieq x307 (10 : Int));
 ifK c316
 (J 4 [(AV.one (V1.s (SV.ptr (PV.mk (Bk.new (St.next S)) 0)))), (AV.one (V1.s (SV.bool c316)))] S300 K)
 (let c317 : Bool := (ieq x307 (11 : Int));
 ifK c317
 (J 4 [(AV.one (V1.s (SV.ptr (PV.mk (Bk.new (St.next S)) 0)))), (AV.one (V1.s (SV.bool c317)))] S300 K)
 (let c318 : Bool := (ieq x307 (12 : Int));
 J 4 [(AV.one (V1.s (SV.ptr (PV.mk (Bk.new (St.next S)) 0)))), (AV.one (V1.s (SV.bool c318)))] S300 K))))))))))
noncomputable def X60_0 : X := (.op (.op (.op (.br (.jmp 4 [1, 5]) (.op (.br (.jmp 4 [1, 5]) (.op (.br (.jmp 4 [1, 5]) (.op (.br (.jmp 4 [1, 5]) (.op (.br (.jmp 4 [1, 5]) (.op (.br (.jmp 4 [1, 5]) (.op (.br (.jmp 4 [1, 5]) (.op (.br (.jmp 4 [1, 5]) (.op (.br (.jmp 4 [1, 5]) (.op (.br (.jmp 4 [1, 5]) (.op (.jmp 4 [1, 5]))))))))))))))))))))))))
theorem F60_0_eq (D J : Disp) (x0_0 : Int) (x0_1 : Int) (x0_2 : Int) (x0_3 : Int) (x0_4 : Int) (x0_5 : Int) (x0_6 : Int) (c0_7 : Bool) (l0_8 : LV) (l0_9 : LV) (l0_10 : LV) (S : St) (K : AV → St → Prop) : F60_0 D J x0_0 x0_1 x0_2 x0_3 x0_4 x0_5 x0_6 c0_7 l0_8 l0_9 l0_10 S K = execK GraphP GraphG Go.Proofs.Try.f60 (typed GraphP D) J plans60 X60_0 (T60 0).1 (envOf (T60 0).2 [(AV.one (V1.agg [(SV.int IntKind.i64 x0_0), (SV.int IntKind.i64 x0_1), (SV.int IntKind.i64 x0_2), (SV.int IntKind.i64 x0_3), (SV.int IntKind.i64 x0_4), (SV.int IntKind.i64 x0_5), (SV.int IntKind.i64 x0_6), (SV.bool c0_7), (SV.sl l0_8), (SV.sl l0_9), (SV.sl l0_10)]))]) S K := by kernel_rfl
noncomputable def F60_4 (D J : Disp) (p1 : PV) (c5 : Bool) (S : St) (K : AV → St → Prop) : Prop :=
 ifK c5
 (PV.cs p1 fun b300 n301 =>
 let n302 : Nat := (n301 + 2);
 St.at S b300 n302 fun y303 =>
 uncK y303 fun v304 y305 =>
 SV.cI IntKind.i64 v304 fun x309 =>
 K ((AV.one (V1.s (SV.int IntKind.i64 x309)))) S)
 (K ((AV.one (V1.s (SV.int IntKind.i64 (Int.negSucc 0))))) S)
noncomputable def X60_4 : X := (.br (.op .ret) (.op .ret))
theorem F60_4_eq (D J : Disp) (p1 : PV) (c5 : Bool) (S : St) (K : AV → St → Prop) : F60_4 D J p1 c5 S K = execK GraphP GraphG Go.Proofs.Try.f60 (typed GraphP D) J plans60 X60_4 (T60 4).1 (envOf (T60 4).2 [(AV.one (V1.s (SV.ptr p1))), (AV.one (V1.s (SV.bool c5)))]) S K := by kernel_rfl
noncomputable abbrev A60_0 (D J : Disp) (vals : List AV) (S : St) (K : AV → St → Prop) : Prop :=
  uncA vals fun a9001 r9002 => avA a9001 fun l9004 => uncK l9004 fun s9006 r9007 => SV.cI IntKind.i64 s9006 fun x0_0 => uncK r9007 fun s9010 r9011 => SV.cI IntKind.i64 s9010 fun x0_1 => uncK r9011 fun s9014 r9015 => SV.cI IntKind.i64 s9014 fun x0_2 => uncK r9015 fun s9018 r9019 => SV.cI IntKind.i64 s9018 fun x0_3 => uncK r9019 fun s9022 r9023 => SV.cI IntKind.i64 s9022 fun x0_4 => uncK r9023 fun s9026 r9027 => SV.cI IntKind.i64 s9026 fun x0_5 => uncK r9027 fun s9030 r9031 => SV.cI IntKind.i64 s9030 fun x0_6 => uncK r9031 fun s9034 r9035 => SV.cB s9034 fun c0_7 => uncK r9035 fun s9038 r9039 => SV.cL s9038 fun l0_8 => uncK r9039 fun s9042 r9043 => SV.cL s9042 fun l0_9 => uncK r9043 fun s9046 r9047 => SV.cL s9046 fun l0_10 => endL r9047 <| endL r9002 <| F60_0 D J x0_0 x0_1 x0_2 x0_3 x0_4 x0_5 x0_6 c0_7 l0_8 l0_9 l0_10 S K
theorem A60_0_ok {D J : Disp} (hD : DOK GraphP GraphG D) (hJ : JOK GraphP GraphG Go.Proofs.Try.f60 T60 J) {vals : List AV} {S : St} {K : AV → St → Prop} (h0 : A60_0 D J vals S K) : Runs GraphP GraphG Go.Proofs.Try.f60 (T60 0).1 (envOf (T60 0).2 vals) S K := by
  obtain ⟨a9001, r9002, rfl, h3⟩ := uncA_some h0
  obtain ⟨l9004, rfl, h5⟩ := avA_some h3
  obtain ⟨s9006, r9007, rfl, h8⟩ := uncK_some h5
  obtain ⟨x0_0, rfl, h9⟩ := cI_some h8
  obtain ⟨s9010, r9011, rfl, h12⟩ := uncK_some h9
  obtain ⟨x0_1, rfl, h13⟩ := cI_some h12
  obtain ⟨s9014, r9015, rfl, h16⟩ := uncK_some h13
  obtain ⟨x0_2, rfl, h17⟩ := cI_some h16
  obtain ⟨s9018, r9019, rfl, h20⟩ := uncK_some h17
  obtain ⟨x0_3, rfl, h21⟩ := cI_some h20
  obtain ⟨s9022, r9023, rfl, h24⟩ := uncK_some h21
  obtain ⟨x0_4, rfl, h25⟩ := cI_some h24
  obtain ⟨s9026, r9027, rfl, h28⟩ := uncK_some h25
  obtain ⟨x0_5, rfl, h29⟩ := cI_some h28
  obtain ⟨s9030, r9031, rfl, h32⟩ := uncK_some h29
  obtain ⟨x0_6, rfl, h33⟩ := cI_some h32
  obtain ⟨s9034, r9035, rfl, h36⟩ := uncK_some h33
  obtain ⟨c0_7, rfl, h37⟩ := cB_some h36
  obtain ⟨s9038, r9039, rfl, h40⟩ := uncK_some h37
  obtain ⟨l0_8, rfl, h41⟩ := cL_some h40
  obtain ⟨s9042, r9043, rfl, h44⟩ := uncK_some h41
  obtain ⟨l0_9, rfl, h45⟩ := cL_some h44
  obtain ⟨s9046, r9047, rfl, h48⟩ := uncK_some h45
  obtain ⟨l0_10, rfl, h49⟩ := cL_some h48
  obtain ⟨rfl, h50⟩ := endL_some h49
  obtain ⟨rfl, h51⟩ := endL_some h50
  rw [F60_0_eq] at h51
  exact execK_runs hD.typed Graph_zero Graph_mixed hJ X60_0 (T60 0).1 (envOf (T60 0).2 _) S K (chk_of (by kernel_rfl) (by kernel_rfl)) h51
noncomputable abbrev A60_4 (D J : Disp) (vals : List AV) (S : St) (K : AV → St → Prop) : Prop :=
  uncA vals fun a9001 r9002 => scK a9001 fun s9004 => SV.cP s9004 fun p1 => uncA r9002 fun a9007 r9008 => scK a9007 fun s9010 => SV.cB s9010 fun c5 => endL r9008 <| F60_4 D J p1 c5 S K
theorem A60_4_ok {D J : Disp} (hD : DOK GraphP GraphG D) (hJ : JOK GraphP GraphG Go.Proofs.Try.f60 T60 J) {vals : List AV} {S : St} {K : AV → St → Prop} (h0 : A60_4 D J vals S K) : Runs GraphP GraphG Go.Proofs.Try.f60 (T60 4).1 (envOf (T60 4).2 vals) S K := by
  obtain ⟨a9001, r9002, rfl, h3⟩ := uncA_some h0
  obtain ⟨s9004, rfl, h5⟩ := scK_some h3
  obtain ⟨p1, rfl, h6⟩ := cP_some h5
  obtain ⟨a9007, r9008, rfl, h9⟩ := uncA_some h6
  obtain ⟨s9010, rfl, h11⟩ := scK_some h9
  obtain ⟨c5, rfl, h12⟩ := cB_some h11
  obtain ⟨rfl, h13⟩ := endL_some h12
  rw [F60_4_eq] at h13
  exact execK_runs hD.typed Graph_zero Graph_mixed hJ X60_4 (T60 4).1 (envOf (T60 4).2 _) S K (chk_of (by kernel_rfl) (by kernel_rfl)) h13
noncomputable def J60 (D : Disp) (k : Nat) : Disp := Nat.rec (motive := fun _ => Disp) Disp.no (fun _ ih => Disp.add 0 (A60_0 D ih) <| Disp.add 4 (A60_4 D ih) <| Disp.no) k
theorem J60_ok {D : Disp} (hD : DOK GraphP GraphG D) : ∀ k, JOK GraphP GraphG Go.Proofs.Try.f60 T60 (J60 D k)
  | 0 => JOK.no
  | k + 1 => JOK.add (ltB_ok (by kernel_rfl)) (fun vals S K h => A60_0_ok hD (J60_ok hD k) h) <| JOK.add (ltB_ok (by kernel_rfl)) (fun vals S K h => A60_4_ok hD (J60_ok hD k) h) <| JOK.no
theorem E60_ok {D : Disp} (hD : DOK GraphP GraphG D) (k : Nat) {args : List AV} {S : St} {K : AV → St → Prop} (h : A60_0 D (J60 D k) args S K) : CallOK GraphP GraphG 60 args S K := by
  have hr := A60_0_ok hD (J60_ok hD k) h
  have hl : args.length = 1 := by
    have h0 := h
    obtain ⟨a9001, r9002, rfl, h3⟩ := uncA_some h0
    obtain ⟨l9004, rfl, h5⟩ := avA_some h3
    obtain ⟨s9006, r9007, rfl, h8⟩ := uncK_some h5
    obtain ⟨x0_0, rfl, h9⟩ := cI_some h8
    obtain ⟨s9010, r9011, rfl, h12⟩ := uncK_some h9
    obtain ⟨x0_1, rfl, h13⟩ := cI_some h12
    obtain ⟨s9014, r9015, rfl, h16⟩ := uncK_some h13
    obtain ⟨x0_2, rfl, h17⟩ := cI_some h16
    obtain ⟨s9018, r9019, rfl, h20⟩ := uncK_some h17
    obtain ⟨x0_3, rfl, h21⟩ := cI_some h20
    obtain ⟨s9022, r9023, rfl, h24⟩ := uncK_some h21
    obtain ⟨x0_4, rfl, h25⟩ := cI_some h24
    obtain ⟨s9026, r9027, rfl, h28⟩ := uncK_some h25
    obtain ⟨x0_5, rfl, h29⟩ := cI_some h28
    obtain ⟨s9030, r9031, rfl, h32⟩ := uncK_some h29
    obtain ⟨x0_6, rfl, h33⟩ := cI_some h32
    obtain ⟨s9034, r9035, rfl, h36⟩ := uncK_some h33
    obtain ⟨c0_7, rfl, h37⟩ := cB_some h36
    obtain ⟨s9038, r9039, rfl, h40⟩ := uncK_some h37
    obtain ⟨l0_8, rfl, h41⟩ := cL_some h40
    obtain ⟨s9042, r9043, rfl, h44⟩ := uncK_some h41
    obtain ⟨l0_9, rfl, h45⟩ := cL_some h44
    obtain ⟨s9046, r9047, rfl, h48⟩ := uncK_some h45
    obtain ⟨l0_10, rfl, h49⟩ := cL_some h48
    obtain ⟨rfl, h50⟩ := endL_some h49
    obtain ⟨rfl, h51⟩ := endL_some h50
    rfl
  refine callOK_of (fn := Go.Proofs.Try.f60) (c := (match Go.Proofs.Try.f60.body with | some c => c | none => .skip)) (by kernel_rfl) (by kernel_rfl) (by kernel_rfl) (by rw [hl]; kernel_rfl) (by kernel_rfl) ?_
  rw [hl]
  exact hr
noncomputable def plans61 (i : Nat) : Plan := []
noncomputable def T61 (p : Nat) : List Item × List Nat := bif Nat.beq p 0 then ([.code (match Go.Proofs.Try.f61.body with | some c => c | none => .skip)], [0]) else
  ([], [])
noncomputable def F61_0 (D J : Disp) (x0_0 : Int) (x0_1 : Int) (x0_2 : Int) (x0_3 : Int) (x0_4 : Int) (x0_5 : Int) (x0_6 : Int) (c0_7 : Bool) (l0_8 : LV) (l0_9 : LV) (l0_10 : LV) (S : St) (K : AV → St → Prop) : Prop :=
 let S300 : St := (St.add S (AO.cells [(SV.int IntKind.i64 x0_0), (SV.int IntKind.i64 x0_1), (SV.int IntKind.i64 x0_2), (SV.int IntKind.i64 x0_3), (SV.int IntKind.i64 x0_4), (SV.int IntKind.i64 x0_5), (SV.int IntKind.i64 x0_6), (SV.bool c0_7), (SV.sl l0_8), (SV.sl l0_9), (SV.sl l0_10)] Bool.false));
 St.wr S300 (Bk.new (St.next S)) 2 [(SV.int IntKind.i64 (0 : Int))] fun S301 =>
 St.at S301 (Bk.new (St.next S)) 0 fun y302 =>
 uncK y302 fun v303 y304 =>
 SV.cI IntKind.i64 v303 fun x308 =>
 uncK y304 fun v309 y310 =>
 SV.cI IntKind.i64 v309 fun x314 =>
 uncK y310 fun v315 y316 =>
 SV.cI IntKind.i64 v315 fun x320 =>
 uncK y316 fun v321 y322 =>
 SV.cI IntKind.i64 v321 fun x326 =>
 uncK y322 fun v327 y328 =>
 SV.cI IntKind.i64 v327 fun x332 =>
 uncK y328 fun v333 y334 =>
 SV.cI IntKind.i64 v333 fun x338 =>
 uncK y334 fun v339 y340 =>
 SV.cI IntKind.i64 v339 fun x344 =>
 uncK y340 fun v345 y346 =>
 SV.cB v345 fun y348 =>
 uncK y346 fun v349 y350 =>
 SV.cL v349 fun y357 =>
 uncK y350 fun v358 y359 =>
 SV.cL v358 fun y366 =>
 uncK y359 fun v367 y368 =>
 SV.cL v367 fun y375 =>
 D 60 [(AV.one (V1.agg [(SV.int IntKind.i64 x308), (SV.int IntKind.i64 x314), (SV.int IntKind.i64 x320), (SV.int IntKind.i64 x326), (SV.int IntKind.i64 x332), (SV.int IntKind.i64 x338), (SV.int IntKind.i64 x344), (SV.bool y348), (SV.sl y357), (SV.sl y366), (SV.sl y375)]))] S301 fun v376 S377 =>
 scK v376 fun v379 =>
 SV.cI IntKind.i64 v379 fun x382 =>
 let c383 : Bool := (ieq x382 (0 : Int));
 K ((AV.one (V1.s (SV.bool c383)))) S377
noncomputable def X61_0 : X := (.op (.op (.op .ret)))
theorem F61_0_eq (D J : Disp) (x0_0 : Int) (x0_1 : Int) (x0_2 : Int) (x0_3 : Int) (x0_4 : Int) (x0_5 : Int) (x0_6 : Int) (c0_7 : Bool) (l0_8 : LV) (l0_9 : LV) (l0_10 : LV) (S : St) (K : AV → St → Prop) : F61_0 D J x0_0 x0_1 x0_2 x0_3 x0_4 x0_5 x0_6 c0_7 l0_8 l0_9 l0_10 S K = execK GraphP GraphG Go.Proofs.Try.f61 (typed GraphP D) J plans61 X61_0 (T61 0).1 (envOf (T61 0).2 [(AV.one (V1.agg [(SV.int IntKind.i64 x0_0), (SV.int IntKind.i64 x0_1), (SV.int IntKind.i64 x0_2), (SV.int IntKind.i64 x0_3), (SV.int IntKind.i64 x0_4), (SV.int IntKind.i64 x0_5), (SV.int IntKind.i64 x0_6), (SV.bool c0_7), (SV.sl l0_8), (SV.sl l0_9), (SV.sl l0_10)]))]) S K := by kernel_rfl
noncomputable abbrev A61_0 (D J : Disp) (vals : List AV) (S : St) (K : AV → St → Prop) : Prop :=
  uncA vals fun a9001 r9002 => avA a9001 fun l9004 => uncK l9004 fun s9006 r9007 => SV.cI IntKind.i64 s9006 fun x0_0 => uncK r9007 fun s9010 r9011 => SV.cI IntKind.i64 s9010 fun x0_1 => uncK r9011 fun s9014 r9015 => SV.cI IntKind.i64 s9014 fun x0_2 => uncK r9015 fun s9018 r9019 => SV.cI IntKind.i64 s9018 fun x0_3 => uncK r9019 fun s9022 r9023 => SV.cI IntKind.i64 s9022 fun x0_4 => uncK r9023 fun s9026 r9027 => SV.cI IntKind.i64 s9026 fun x0_5 => uncK r9027 fun s9030 r9031 => SV.cI IntKind.i64 s9030 fun x0_6 => uncK r9031 fun s9034 r9035 => SV.cB s9034 fun c0_7 => uncK r9035 fun s9038 r9039 => SV.cL s9038 fun l0_8 => uncK r9039 fun s9042 r9043 => SV.cL s9042 fun l0_9 => uncK r9043 fun s9046 r9047 => SV.cL s9046 fun l0_10 => endL r9047 <| endL r9002 <| F61_0 D J x0_0 x0_1 x0_2 x0_3 x0_4 x0_5 x0_6 c0_7 l0_8 l0_9 l0_10 S K
theorem A61_0_ok {D J : Disp} (hD : DOK GraphP GraphG D) (hJ : JOK GraphP GraphG Go.Proofs.Try.f61 T61 J) {vals : List AV} {S : St} {K : AV → St → Prop} (h0 : A61_0 D J vals S K) : Runs GraphP GraphG Go.Proofs.Try.f61 (T61 0).1 (envOf (T61 0).2 vals) S K := by
  obtain ⟨a9001, r9002, rfl, h3⟩ := uncA_some h0
  obtain ⟨l9004, rfl, h5⟩ := avA_some h3
  obtain ⟨s9006, r9007, rfl, h8⟩ := uncK_some h5
  obtain ⟨x0_0, rfl, h9⟩ := cI_some h8
  obtain ⟨s9010, r9011, rfl, h12⟩ := uncK_some h9
  obtain ⟨x0_1, rfl, h13⟩ := cI_some h12
  obtain ⟨s9014, r9015, rfl, h16⟩ := uncK_some h13
  obtain ⟨x0_2, rfl, h17⟩ := cI_some h16
  obtain ⟨s9018, r9019, rfl, h20⟩ := uncK_some h17
  obtain ⟨x0_3, rfl, h21⟩ := cI_some h20
  obtain ⟨s9022, r9023, rfl, h24⟩ := uncK_some h21
  obtain ⟨x0_4, rfl, h25⟩ := cI_some h24
  obtain ⟨s9026, r9027, rfl, h28⟩ := uncK_some h25
  obtain ⟨x0_5, rfl, h29⟩ := cI_some h28
  obtain ⟨s9030, r9031, rfl, h32⟩ := uncK_some h29
  obtain ⟨x0_6, rfl, h33⟩ := cI_some h32
  obtain ⟨s9034, r9035, rfl, h36⟩ := uncK_some h33
  obtain ⟨c0_7, rfl, h37⟩ := cB_some h36
  obtain ⟨s9038, r9039, rfl, h40⟩ := uncK_some h37
  obtain ⟨l0_8, rfl, h41⟩ := cL_some h40
  obtain ⟨s9042, r9043, rfl, h44⟩ := uncK_some h41
  obtain ⟨l0_9, rfl, h45⟩ := cL_some h44
  obtain ⟨s9046, r9047, rfl, h48⟩ := uncK_some h45
  obtain ⟨l0_10, rfl, h49⟩ := cL_some h48
  obtain ⟨rfl, h50⟩ := endL_some h49
  obtain ⟨rfl, h51⟩ := endL_some h50
  rw [F61_0_eq] at h51
  exact execK_runs hD.typed Graph_zero Graph_mixed hJ X61_0 (T61 0).1 (envOf (T61 0).2 _) S K (chk_of (by kernel_rfl) (by kernel_rfl)) h51
noncomputable def J61 (D : Disp) (k : Nat) : Disp := Nat.rec (motive := fun _ => Disp) Disp.no (fun _ ih => Disp.add 0 (A61_0 D ih) <| Disp.no) k
theorem J61_ok {D : Disp} (hD : DOK GraphP GraphG D) : ∀ k, JOK GraphP GraphG Go.Proofs.Try.f61 T61 (J61 D k)
  | 0 => JOK.no
  | k + 1 => JOK.add (ltB_ok (by kernel_rfl)) (fun vals S K h => A61_0_ok hD (J61_ok hD k) h) <| JOK.no
theorem E61_ok {D : Disp} (hD : DOK GraphP GraphG D) (k : Nat) {args : List AV} {S : St} {K : AV → St → Prop} (h : A61_0 D (J61 D k) args S K) : CallOK GraphP GraphG 61 args S K := by
  have hr := A61_0_ok hD (J61_ok hD k) h
  have hl : args.length = 1 := by
    have h0 := h
    obtain ⟨a9001, r9002, rfl, h3⟩ := uncA_some h0
    obtain ⟨l9004, rfl, h5⟩ := avA_some h3
    obtain ⟨s9006, r9007, rfl, h8⟩ := uncK_some h5
    obtain ⟨x0_0, rfl, h9⟩ := cI_some h8
    obtain ⟨s9010, r9011, rfl, h12⟩ := uncK_some h9
    obtain ⟨x0_1, rfl, h13⟩ := cI_some h12
    obtain ⟨s9014, r9015, rfl, h16⟩ := uncK_some h13
    obtain ⟨x0_2, rfl, h17⟩ := cI_some h16
    obtain ⟨s9018, r9019, rfl, h20⟩ := uncK_some h17
    obtain ⟨x0_3, rfl, h21⟩ := cI_some h20
    obtain ⟨s9022, r9023, rfl, h24⟩ := uncK_some h21
    obtain ⟨x0_4, rfl, h25⟩ := cI_some h24
    obtain ⟨s9026, r9027, rfl, h28⟩ := uncK_some h25
    obtain ⟨x0_5, rfl, h29⟩ := cI_some h28
    obtain ⟨s9030, r9031, rfl, h32⟩ := uncK_some h29
    obtain ⟨x0_6, rfl, h33⟩ := cI_some h32
    obtain ⟨s9034, r9035, rfl, h36⟩ := uncK_some h33
    obtain ⟨c0_7, rfl, h37⟩ := cB_some h36
    obtain ⟨s9038, r9039, rfl, h40⟩ := uncK_some h37
    obtain ⟨l0_8, rfl, h41⟩ := cL_some h40
    obtain ⟨s9042, r9043, rfl, h44⟩ := uncK_some h41
    obtain ⟨l0_9, rfl, h45⟩ := cL_some h44
    obtain ⟨s9046, r9047, rfl, h48⟩ := uncK_some h45
    obtain ⟨l0_10, rfl, h49⟩ := cL_some h48
    obtain ⟨rfl, h50⟩ := endL_some h49
    obtain ⟨rfl, h51⟩ := endL_some h50
    rfl
  refine callOK_of (fn := Go.Proofs.Try.f61) (c := (match Go.Proofs.Try.f61.body with | some c => c | none => .skip)) (by kernel_rfl) (by kernel_rfl) (by kernel_rfl) (by rw [hl]; kernel_rfl) (by kernel_rfl) ?_
  rw [hl]
  exact hr
noncomputable def plans62 (i : Nat) : Plan := []
noncomputable def T62 (p : Nat) : List Item × List Nat := bif Nat.beq p 0 then ([.code (match Go.Proofs.Try.f62.body with | some c => c | none => .skip)], [0, 1]) else
  bif Nat.beq p 6 then (navs [.op, .op, .op, .op, .th, .op] [.code (match Go.Proofs.Try.f62.body with | some c => c | none => .skip)], [2, 3, 5]) else
  bif Nat.beq p 7 then (navs [.op, .op, .op, .op, .th, .op, .op] [.code (match Go.Proofs.Try.f62.body with | some c => c | none => .skip)], [2, 3, 5, 21, 22, 23]) else
  ([], [])
noncomputable def F62_0 (D J : Disp) (s0_0 : (List Nat)) (x0_1 : Int) (x0_2 : Int) (l0_3 : LV) (l0_4 : LV) (c0_5 : Bool) (x1_0 : Int) (x1_1 : Int) (x1_2 : Int) (x1_3 : Int) (x1_4 : Int) (x1_5 : Int) (x1_6 : Int) (c1_7 : Bool) (l1_8 : LV) (l1_9 : LV) (l1_10 : LV) (S : St) (K : AV → St → Prop) : Prop :=
 let S300 : St := (St.add S (AO.cells [(SV.str s0_0), (SV.int IntKind.i64 x0_1), (SV.int IntKind.i64 x0_2), (SV.sl l0_3), (SV.sl l0_4), (SV.bool c0_5)] Bool.false));
 let S301 : St := (St.add S300 (AO.cells [(SV.int IntKind.i64 x1_0), (SV.int IntKind.i64 x1_1), (SV.int IntKind.i64 x1_2), (SV.int IntKind.i64 x1_3), (SV.int IntKind.i64 x1_4), (SV.int IntKind.i64 x1_5), (SV.int IntKind.i64 x1_6), (SV.bool c1_7), (SV.sl l1_8), (SV.sl l1_9), (SV.sl l1_10)] Bool.false));
 St.at S301 (Bk.new (St.next S300)) 0 fun y302 =>
 uncK y302 fun v303 y304 =>
 SV.cI IntKind.i64 v303 fun x308 =>
 let c309 : Bool := (ieq x308 (14 : Int));
 ifK c309
 (J 6 [(AV.one (V1.s (SV.ptr (PV.mk (Bk.new (St.next S)) 0)))), (AV.one (V1.s (SV.ptr (PV.mk (Bk.new (St.next S300)) 0)))), (AV.one (V1.s (SV.int IntKind.i64 (1 : Int))))] S301 K)
 (let c310 : Bool := (ieq x308 (15 : Int));
 ifK c310
 (J 6 [(AV.one (V1.s (SV.ptr (PV.mk (Bk.new (St.next S)) 0)))), (AV.one (V1.s (SV.ptr (PV.mk (Bk.new (St.next S300)) 0)))), (AV.one (V1.s (SV.int IntKind.i64 (2 : Int))))] S301 K)
 (let c311 : Bool := (ieq x308 (16 : Int));
 ifK c311
 (St.at S301 (Bk.new (St.next S300)) 10 fun y312 =>
 uncK y312 fun v313 y314 =>
 SV.cL v313 fun y321 =>
 let x322 : Int := (Int.ofNat (LV.len y321));
 let x323 : Int := (iwrap IntKind.i64 (x322 + (1 : Int)));
 J 6 [(AV.one (V1.s (SV.ptr (PV.mk (Bk.new (St.next S)) 0)))), (AV.one (V1.s (SV.ptr (PV.mk (Bk.new (St.next S300)) 0)))), (AV.one (V1.s (SV.int IntKind.i64 x323)))] S301 K)
 (K ((AV.one (V1.s (SV.bool Bool.true)))) S301)))
noncomputable def X62_0 : X := (.op (.op (.op (.op (.br (.op (.jmp 6 [2, 3, 5])) (.op (.br (.op (.jmp 6 [2, 3, 5])) (.op (.br (.op (.jmp 6 [2, 3, 5])) (.op .ret))))))))))
theorem F62_0_eq (D J : Disp) (s0_0 : (List Nat)) (x0_1 : Int) (x0_2 : Int) (l0_3 : LV) (l0_4 : LV) (c0_5 : Bool) (x1_0 : Int) (x1_1 : Int) (x1_2 : Int) (x1_3 : Int) (x1_4 : Int) (x1_5 : Int) (x1_6 : Int) (c1_7 : Bool) (l1_8 : LV) (l1_9 : LV) (l1_10 : LV) (S : St) (K : AV → St → Prop) : F62_0 D J s0_0 x0_1 x0_2 l0_3 l0_4 c0_5 x1_0 x1_1 x1_2 x1_3 x1_4 x1_5 x1_6 c1_7 l1_8 l1_9 l1_10 S K = execK GraphP GraphG Go.Proofs.Try.f62 (typed GraphP D) J plans62 X62_0 (T62 0).1 (envOf (T62 0).2 [(AV.one (V1.agg [(SV.str s0_0), (SV.int IntKind.i64 x0_1), (SV.int IntKind.i64 x0_2), (SV.sl l0_3), (SV.sl l0_4), (SV.bool c0_5)])), (AV.one (V1.agg [(SV.int IntKind.i64 x1_0), (SV.int IntKind.i64 x1_1), (SV.int IntKind.i64 x1_2), (SV.int IntKind.i64 x1_3), (SV.int IntKind.i64 x1_4), (SV.int IntKind.i64 x1_5), (SV.int IntKind.i64 x1_6), (SV.bool c1_7), (SV.sl l1_8), (SV.sl l1_9), (SV.sl l1_10)]))]) S K := by kernel_rfl
noncomputable def F62_6 (D J : Disp) (p2 : PV) (p3 : PV) (x5 : Int) (S : St) (K : AV → St → Prop) : Prop :=
 PV.cs p3 fun b300 n301 =>
 let n302 : Nat := (n301 + 9);
 St.at S b300 n302 fun y303 =>
 uncK y303 fun v304 y305 =>
 SV.cL v304 fun y312 =>
 let x313 : Int := (Int.ofNat (LV.len y312));
 J 7 [(AV.one (V1.s (SV.ptr p2))), (AV.one (V1.s (SV.ptr p3))), (AV.one (V1.s (SV.int IntKind.i64 x5))), (AV.one (V1.s (SV.sl y312))), (AV.one (V1.s (SV.int IntKind.i64 x313))), (AV.one (V1.s (SV.int IntKind.i64 (0 : Int))))] S K
noncomputable def X62_6 : X := (.op (.jmp 7 [2, 3, 5, 21, 22, 23]))
theorem F62_6_eq (D J : Disp) (p2 : PV) (p3 : PV) (x5 : Int) (S : St) (K : AV → St → Prop) : F62_6 D J p2 p3 x5 S K = execK GraphP GraphG Go.Proofs.Try.f62 (typed GraphP D) J plans62 X62_6 (T62 6).1 (envOf (T62 6).2 [(AV.one (V1.s (SV.ptr p2))), (AV.one (V1.s (SV.ptr p3))), (AV.one (V1.s (SV.int IntKind.i64 x5)))]) S K := by kernel_rfl
noncomputable def F62_7 (D J : Disp) (p2 : PV) (p3 : PV) (x5 : Int) (l21 : LV) (x22 : Int) (x23 : Int) (S : St) (K : AV → St → Prop) : Prop :=
 let c300 : Bool := (ilt x23 x22);
 ifK c300
 (LV.cs l21 fun b301 n302 n303 y304 =>
 req (Bool.and (ile (0 : Int) x23) (ilt x23 (Int.ofNat n303))) <|
 let n305 : Nat := (n302 + ((Int.toNat x23) * 1));
 St.at S b301 n305 fun y306 =>
 uncK y306 fun v307 y308 =>
 SV.cI IntKind.i64 v307 fun x312 =>
 PV.cs p2 fun b313 n314 =>
 let n315 : Nat := (n314 + 4);
 St.at S b313 n315 fun y316 =>
 uncK y316 fun v317 y318 =>
 SV.cL v317 fun y325 =>
 let x326 : Int := (Int.ofNat (LV.len y325));
 D 31 [(AV.one (V1.s (SV.int IntKind.i64 x312))), (AV.one (V1.s (SV.int IntKind.i64 x326)))] S fun v327 S328 =>
 scK v327 fun v330 =>
 SV.cB v330 fun y331 =>
 let c332 : Bool := (Bool.not y331);
 ifK c332
 (K ((AV.one (V1.s (SV.bool Bool.false)))) S328)
 (let x333 : Int := (iwrap IntKind.i64 (x23 + (1 : Int)));
 J 7 [(AV.one (V1.s (SV.ptr p2))), (AV.one (V1.s (SV.ptr p3))), (AV.one (V1.s (SV.int IntKind.i64 x5))), (AV.one (V1.s (SV.sl l21))), (AV.one (V1.s (SV.int IntKind.i64 x22))), (AV.one (V1.s (SV.int IntKind.i64 x333)))] S328 K))
 (PV.cs p3 fun b350 n351 =>
 let n352 : Nat := (n351 + 9);
 St.at S b350 n352 fun y353 =>
 uncK y353 fun v354 y355 =>
 SV.cL v354 fun y362 =>
 let x363 : Int := (Int.ofNat (LV.len y362));
 let c364 : Bool := (ieq x363 x5);
 K ((AV.one (V1.s (SV.bool c364)))) S)
noncomputable def X62_7 : X := (.op (.br (.op (.op (.br (.op .ret) (.op (.jmp 7 [2, 3, 5, 21, 22, 23]))))) (.op .ret)))
theorem F62_7_eq (D J : Disp) (p2 : PV) (p3 : PV) (x5 : Int) (l21 : LV) (x22 : Int) (x23 : Int) (S : St) (K : AV → St → Prop) : F62_7 D J p2 p3 x5 l21 x22 x23 S K = execK GraphP GraphG Go.Proofs.Try.f62 (typed GraphP D) J plans62 X62_7 (T62 7).1 (envOf (T62 7).2 [(AV.one (V1.s (SV.ptr p2))), (AV.one (V1.s (SV.ptr p3))), (AV.one (V1.s (SV.int IntKind.i64 x5))), (AV.one (V1.s (SV.sl l21))), (AV.one (V1.s (SV.int IntKind.i64 x22))), (AV.one (V1.s (SV.int IntKind.i64 x23)))]) S K := by kernel_rfl
noncomputable abbrev A62_0 (D J : Disp) (vals : List AV) (S : St) (K : AV → St → Prop) : Prop :=
  uncA vals fun a9001 r9002 => avA a9001 fun l9004 => uncK l9004 fun s9006 r9007 => SV.cS s9006 fun s0_0 => uncK r9007 fun s9010 r9011 => SV.cI IntKind.i64 s9010 fun x0_1 => uncK r9011 fun s9014 r9015 => SV.cI IntKind.i64 s9014 fun x0_2 => uncK r9015 fun s9018 r9019 => SV.cL s9018 fun l0_3 => uncK r9019 fun s9022 r9023 => SV.cL s9022 fun l0_4 => uncK r9023 fun s9026 r9027 => SV.cB s9026 fun c0_5 => endL r9027 <| uncA r9002 fun a9031 r9032 => avA a9031 fun l9034 => uncK l9034 fun s9036 r9037 => SV.cI IntKind.i64 s9036 fun x1_0 => uncK r9037 fun s9040 r9041 => SV.cI IntKind.i64 s9040 fun x1_1 => uncK r9041 fun s9044 r9045 => SV.cI IntKind.i64 s9044 fun x1_2 => uncK r9045 fun s9048 r9049 => SV.cI IntKind.i64 s9048 fun x1_3 => uncK r9049 fun s9052 r9053 => SV.cI IntKind.i64 s9052 fun x1_4 => uncK r9053 fun s9056 r9057 => SV.cI IntKind.i64 s9056 fun x1_5 => uncK r9057 fun s9060 r9061 => SV.cI IntKind.i64 s9060 fun x1_6 => uncK r9061 fun s9064 r9065 => SV.cB s9064 fun c1_7 => uncK r9065 fun s9068 r9069 => SV.cL s9068 fun l1_8 => uncK r9069 fun s9072 r9073 => SV.cL s9072 fun l1_9 => uncK r9073 fun s9076 r9077 => SV.cL s9076 fun l1_10 => endL r9077 <| endL r9032 <| F62_0 D J s0_0 x0_1 x0_2 l0_3 l0_4 c0_5 x1_0 x1_1 x1_2 x1_3 x1_4 x1_5 x1_6 c1_7 l1_8 l1_9 l1_10 S K
theorem A62_0_ok {D J : Disp} (hD : DOK GraphP GraphG D) (hJ : JOK GraphP GraphG Go.Proofs.Try.f62 T62 J) {vals : List AV} {S : St} {K : AV → St → Prop} (h0 : A62_0 D J vals S K) : Runs GraphP GraphG Go.Proofs.Try.f62 (T62 0).1 (envOf (T62 0).2 vals) S K := by
  obtain ⟨a9001, r9002, rfl, h3⟩ := uncA_some h0
  obtain ⟨l9004, rfl, h5⟩ := avA_some h3
  obtain ⟨s9006, r9007, rfl, h8⟩ := uncK_some h5
  obtain ⟨s0_0, rfl, h9⟩ := cS_some h8
  obtain ⟨s9010, r9011, rfl, h12⟩ := uncK_some h9
  obtain ⟨x0_1, rfl, h13⟩ := cI_some h12
  obtain ⟨s9014, r9015, rfl, h16⟩ := uncK_some h13
  obtain ⟨x0_2, rfl, h17⟩ := cI_some h16
  obtain ⟨s9018, r9019, rfl, h20⟩ := uncK_some h17
  obtain ⟨l0_3, rfl, h21⟩ := cL_some h20
  obtain ⟨s9022, r9023, rfl, h24⟩ := uncK_some h21
  obtain ⟨l0_4, rfl, h25⟩ := cL_some h24
  obtain ⟨s9026, r9027, rfl, h28⟩ := uncK_some h25
  obtain ⟨c0_5, rfl, h29⟩ := cB_some h28
  obtain ⟨rfl, h30⟩ := endL_some h29
  obtain ⟨a9031, r9032, rfl, h33⟩ := uncA_some h30
  obtain ⟨l9034, rfl, h35⟩ := avA_some h33
  obtain ⟨s9036, r9037, rfl, h38⟩ := uncK_some h35
  obtain ⟨x1_0, rfl, h39⟩ := cI_some h38
  obtain ⟨s9040, r9041, rfl, h42⟩ := uncK_some h39
  obtain ⟨x1_1, rfl, h43⟩ := cI_some h42
  obtain ⟨s9044, r9045, rfl, h46⟩ := uncK_some h43
  obtain ⟨x1_2, rfl, h47⟩ := cI_some h46
  obtain ⟨s9048, r9049, rfl, h50⟩ := uncK_some h47
  obtain ⟨x1_3, rfl, h51⟩ := cI_some h50
  obtain ⟨s9052, r9053, rfl, h54⟩ := uncK_some h51
  obtain ⟨x1_4, rfl, h55⟩ := cI_some h54
  obtain ⟨s9056, r9057, rfl, h58⟩ := uncK_some h55
  obtain ⟨x1_5, rfl, h59⟩ := cI_some h58
  obtain ⟨s9060, r9061, rfl, h62⟩ := uncK_some h59
  obtain ⟨x1_6, rfl, h63⟩ := cI_some h62
  obtain ⟨s9064, r9065, rfl, h66⟩ := uncK_some h63
  obtain ⟨c1_7, rfl, h67⟩ := cB_some h66
  obtain ⟨s9068, r9069, rfl, h70⟩ := uncK_some h67
  obtain ⟨l1_8, rfl, h71⟩ := cL_some h70
  obtain ⟨s9072, r9073, rfl, h74⟩ := uncK_some h71
  obtain ⟨l1_9, rfl, h75⟩ := cL_some h74
  obtain ⟨s9076, r9077, rfl, h78⟩ := uncK_some h75
  obtain ⟨l1_10, rfl, h79⟩ := cL_some h78
  obtain ⟨rfl, h80⟩ := endL_some h79
  obtain ⟨rfl, h81⟩ := endL_some h80
  rw [F62_0_eq] at h81
  exact execK_runs hD.typed Graph_zero Graph_mixed hJ X62_0 (T62 0).1 (envOf (T62 0).2 _) S K (chk_of (by kernel_rfl) (by kernel_rfl)) h81
noncomputable abbrev A62_6 (D J : Disp) (vals : List AV) (S : St) (K : AV → St → Prop) : Prop :=
  uncA vals fun a9001 r9002 => scK a9001 fun s9004 => SV.cP s9004 fun p2 => uncA r9002 fun a9007 r9008 => scK a9007 fun s9010 => SV.cP s9010 fun p3 => uncA r9008 fun a9013 r9014 => scK a9013 fun s9016 => SV.cI IntKind.i64 s9016 fun x5 => endL r9014 <| F62_6 D J p2 p3 x5 S K
theorem A62_6_ok {D J : Disp} (hD : DOK GraphP GraphG D) (hJ : JOK GraphP GraphG Go.Proofs.Try.f62 T62 J) {vals : List AV} {S : St} {K : AV → St → Prop} (h0 : A62_6 D J vals S K) : Runs GraphP GraphG Go.Proofs.Try.f62 (T62 6).1 (envOf (T62 6).2 vals) S K := by
  obtain ⟨a9001, r9002, rfl, h3⟩ := uncA_some h0
  obtain ⟨s9004, rfl, h5⟩ := scK_some h3
  obtain ⟨p2, rfl, h6⟩ := cP_some h5
  obtain ⟨a9007, r9008, rfl, h9⟩ := uncA_some h6
  obtain ⟨s9010, rfl, h11⟩ := scK_some h9
  obtain ⟨p3, rfl, h12⟩ := cP_some h11
  obtain ⟨a9013, r9014, rfl, h15⟩ := uncA_some h12
  obtain ⟨s9016, rfl, h17⟩ := scK_some h15
  obtain ⟨x5, rfl, h18⟩ := cI_some h17
  obtain ⟨rfl, h19⟩ := endL_some h18
  rw [F62_6_eq] at h19
  exact execK_runs hD.typed Graph_zero Graph_mixed hJ X62_6 (T62 6).1 (envOf (T62 6).2 _) S K (chk_of (by kernel_rfl) (by kernel_rfl)) h19
noncomputable abbrev A62_7 (D J : Disp) (vals : List AV) (S : St) (K : AV → St → Prop) : Prop :=
  uncA vals fun a9001 r9002 => scK a9001 fun s9004 => SV.cP s9004 fun p2 => uncA r9002 fun a9007 r9008 => scK a9007 fun s9010 => SV.cP s9010 fun p3 => uncA r9008 fun a9013 r9014 => scK a9013 fun s9016 => SV.cI IntKind.i64 s9016 fun x5 => uncA r9014 fun a9019 r9020 => scK a9019 fun s9022 => SV.cL s9022 fun l21 => uncA r9020 fun a9025 r9026 => scK a9025 fun s9028 => SV.cI IntKind.i64 s9028 fun x22 => uncA r9026 fun a9031 r9032 => scK a9031 fun s9034 => SV.cI IntKind.i64 s9034 fun x23 => endL r9032 <| F62_7 D J p2 p3 x5 l21 x22 x23 S K
theorem A62_7_ok {D J : Disp} (hD : DOK GraphP GraphG D) (hJ : JOK GraphP GraphG Go.Proofs.Try.f62 T62 J) {vals : List AV} {S : St} {K : AV → St → Prop} (h0 : A62_7 D J vals S K) : Runs GraphP GraphG Go.Proofs.Try.f62 (T62 7).1 (envOf (T62 7).2 vals) S K := by
  obtain ⟨a9001, r9002, rfl, h3⟩ := uncA_some h0
  obtain ⟨s9004, rfl, h5⟩ := scK_some h3
  obtain ⟨p2, rfl, h6⟩ := cP_some h5
  obtain ⟨a9007, r9008, rfl, h9⟩ := uncA_some h6
  obtain ⟨s9010, rfl, h11⟩ := scK_some h9
  obtain ⟨p3, rfl, h12⟩ := cP_some h11
  obtain ⟨a9013, r9014, rfl, h15⟩ := uncA_some h12
  obtain ⟨s9016, rfl, h17⟩ := scK_some h15
  obtain ⟨x5, rfl, h18⟩ := cI_some h17
  obtain ⟨a9019, r9020, rfl, h21⟩ := uncA_some h18
  obtain ⟨s9022, rfl, h23⟩ := scK_some h21
  obtain ⟨l21, rfl, h24⟩ := cL_some h23
  obtain ⟨a9025, r9026, rfl, h27⟩ := uncA_some h24
  obtain ⟨s9028, rfl, h29⟩ := scK_some h27
  obtain ⟨x22, rfl, h30⟩ := cI_some h29
  obtain ⟨a9031, r9032, rfl, h33⟩ := uncA_some h30
  obtain ⟨s9034, rfl, h35⟩ := scK_some h33
  obtain ⟨x23, rfl, h36⟩ := cI_some h35
  obtain ⟨rfl, h37⟩ := endL_some h36
  rw [F62_7_eq] at h37
  exact execK_runs hD.typed Graph_zero Graph_mixed hJ X62_7 (T62 7).1 (envOf (T62 7).2 _) S K (chk_of (by kernel_rfl) (by kernel_rfl)) h37
noncomputable def J62 (D : Disp) (k : Nat) : Disp := Nat.rec (motive := fun _ => Disp) Disp.no (fun _ ih => Disp.add 0 (A62_0 D ih) <| Disp.add 6 (A62_6 D ih) <| Disp.add 7 (A62_7 D ih) <| Disp.no) k
theorem J62_ok {D : Disp} (hD : DOK GraphP GraphG D) : ∀ k, JOK GraphP GraphG Go.Proofs.Try.f62 T62 (J62 D k)
  | 0 => JOK.no
  | k + 1 => JOK.add (ltB_ok (by kernel_rfl)) (fun vals S K h => A62_0_ok hD (J62_ok hD k) h) <| JOK.add (ltB_ok (by kernel_rfl)) (fun vals S K h => A62_6_ok hD (J62_ok hD k) h) <| JOK.add (ltB_ok (by kernel_rfl)) (fun vals S K h => A62_7_ok hD (J62_ok hD k) h) <| JOK.no
theorem E62_ok {D : Disp} (hD : DOK GraphP GraphG D) (k : Nat) {args : List AV} {S : St} {K : AV → St → Prop} (h : A62_0 D (J62 D k) args S K) : CallOK GraphP GraphG 62 args S K := by
  have hr := A62_0_ok hD (J62_ok hD k) h
  have hl : args.length = 2 := by
    have h0 := h
    obtain ⟨a9001, r9002, rfl, h3⟩ := uncA_some h0
    obtain ⟨l9004, rfl, h5⟩ := avA_some h3
    obtain ⟨s9006, r9007, rfl, h8⟩ := uncK_some h5
    obtain ⟨s0_0, rfl, h9⟩ := cS_some h8
    obtain ⟨s9010, r9011, rfl, h12⟩ := uncK_some h9
    obtain ⟨x0_1, rfl, h13⟩ := cI_some h12
    obtain ⟨s9014, r9015, rfl, h16⟩ := uncK_some h13
    obtain ⟨x0_2, rfl, h17⟩ := cI_some h16
    obtain ⟨s9018, r9019, rfl, h20⟩ := uncK_some h17
    obtain ⟨l0_3, rfl, h21⟩ := cL_some h20
    obtain ⟨s9022, r9023, rfl, h24⟩ := uncK_some h21
    obtain ⟨l0_4, rfl, h25⟩ := cL_some h24
    obtain ⟨s9026, r9027, rfl, h28⟩ := uncK_some h25
    obtain ⟨c0_5, rfl, h29⟩ := cB_some h28
    obtain ⟨rfl, h30⟩ := endL_some h29
    obtain ⟨a9031, r9032, rfl, h33⟩ := uncA_some h30
    obtain ⟨l9034, rfl, h35⟩ := avA_some h33
    obtain ⟨s9036, r9037, rfl, h38⟩ := uncK_some h35
    obtain ⟨x1_0, rfl, h39⟩ := cI_some h38
    obtain ⟨s9040, r9041, rfl, h42⟩ := uncK_some h39
    obtain ⟨x1_1, rfl, h43⟩ := cI_some h42
    obtain ⟨s9044, r9045, rfl, h46⟩ := uncK_some h43
    obtain ⟨x1_2, rfl, h47⟩ := cI_some h46
    obtain ⟨s9048, r9049, rfl, h50⟩ := uncK_some h47
    obtain ⟨x1_3, rfl, h51⟩ := cI_some h50
    obtain ⟨s9052, r9053, rfl, h54⟩ := uncK_some h51
    obtain ⟨x1_4, rfl, h55⟩ := cI_some h54
    obtain ⟨s9056, r9057, rfl, h58⟩ := uncK_some h55
    obtain ⟨x1_5, rfl, h59⟩ := cI_some h58
    obtain ⟨s9060, r9061, rfl, h62⟩ := uncK_some h59
    obtain ⟨x1_6, rfl, h63⟩ := cI_some h62
    obtain ⟨s9064, r9065, rfl, h66⟩ := uncK_some h63
    obtain ⟨c1_7, rfl, h67⟩ := cB_some h66
    obtain ⟨s9068, r9069, rfl, h70⟩ := uncK_some h67
    obtain ⟨l1_8, rfl, h71⟩ := cL_some h70
    obtain ⟨s9072, r9073, rfl, h74⟩ := uncK_some h71
    obtain ⟨l1_9, rfl, h75⟩ := cL_some h74
    obtain ⟨s9076, r9077, rfl, h78⟩ := uncK_some h75
    obtain ⟨l1_10, rfl, h79⟩ := cL_some h78
    obtain ⟨rfl, h80⟩ := endL_some h79
    obtain ⟨rfl, h81⟩ := endL_some h80
    rfl
  refine callOK_of (fn := Go.Proofs.Try.f62) (c := (match Go.Proofs.Try.f62.body with | some c => c | none => .skip)) (by kernel_rfl) (by kernel_rfl) (by kernel_rfl) (by rw [hl]; kernel_rfl) (by kernel_rfl) ?_
  rw [hl]
  exact hr
noncomputable def plans68 (i : Nat) : Plan := []
noncomputable def T68 (p : Nat) : List Item × List Nat := bif Nat.beq p 0 then ([.code (match Go.Proofs.Try.f68.body with | some c => c | none => .skip)], [0]) else
  ([], [])
noncomputable def F68_0 (D J : Disp) (x0 : Int) (S : St) (K : AV → St → Prop) : Prop :=
 let c300 : Bool := (Bool.not (ieq x0 x0));
 K ((AV.one (V1.s (SV.bool c300)))) S
noncomputable def X68_0 : X := (.op (.op .ret))
theorem F68_0_eq (D J : Disp) (x0 : Int) (S : St) (K : AV → St → Prop) : F68_0 D J x0 S K = execK GraphP GraphG Go.Proofs.Try.f68 (typed GraphP D) J plans68 X68_0 (T68 0).1 (envOf (T68 0).2 [(AV.one (V1.s (SV.int IntKind.i64 x0)))]) S K := by kernel_rfl
noncomputable abbrev A68_0 (D J : Disp) (vals : List AV) (S : St) (K : AV → St → Prop) : Prop :=
  uncA vals fun a9001 r9002 => scK a9001 fun s9004 => SV.cI IntKind.i64 s9004 fun x0 => endL r9002 <| F68_0 D J x0 S K
theorem A68_0_ok {D J : Disp} (hD : DOK GraphP GraphG D) (hJ : JOK GraphP GraphG Go.Proofs.Try.f68 T68 J) {vals : List AV} {S : St} {K : AV → St → Prop} (h0 : A68_0 D J vals S K) : Runs GraphP GraphG Go.Proofs.Try.f68 (T68 0).1 (envOf (T68 0).2 vals) S K := by
  obtain ⟨a9001, r9002, rfl, h3⟩ := uncA_some h0
  obtain ⟨s9004, rfl, h5⟩ := scK_some h3
  obtain ⟨x0, rfl, h6⟩ := cI_some h5
  obtain ⟨rfl, h7⟩ := endL_some h6
  rw [F68_0_eq] at h7
  exact execK_runs hD.typed Graph_zero Graph_mixed hJ X68_0 (T68 0).1 (envOf (T68 0).2 _) S K (chk_of (by kernel_rfl) (by kernel_rfl)) h7
noncomputable def J68 (D : Disp) (k : Nat) : Disp := Nat.rec (motive := fun _ => Disp) Disp.no (fun _ ih => Disp.add 0 (A68_0 D ih) <| Disp.no) k
theorem J68_ok {D : Disp} (hD : DOK GraphP GraphG D) : ∀ k, JOK GraphP GraphG Go.Proofs.Try.f68 T68 (J68 D k)
  | 0 => JOK.no
  | k + 1 => JOK.add (ltB_ok (by kernel_rfl)) (fun vals S K h => A68_0_ok hD (J68_ok hD k) h) <| JOK.no
theorem E68_ok {D : Disp} (hD : DOK GraphP GraphG D) (k : Nat) {args : List AV} {S : St} {K : AV → St → Prop} (h : A68_0 D (J68 D k) args S K) : CallOK GraphP GraphG 68 args S K := by
  have hr := A68_0_ok hD (J68_ok hD k) h
  have hl : args.length = 1 := by
    have h0 := h
    obtain ⟨a9001, r9002, rfl, h3⟩ := uncA_some h0
    obtain ⟨s9004, rfl, h5⟩ := scK_some h3
    obtain ⟨x0, rfl, h6⟩ := cI_some h5
    obtain ⟨rfl, h7⟩ := endL_some h6
    rfl
  refine callOK_of (fn := Go.Proofs.Try.f68) (c := (match Go.Proofs.Try.f68.body with | some c => c | none => .skip)) (by kernel_rfl) (by kernel_rfl) (by kernel_rfl) (by rw [hl]; kernel_rfl) (by kernel_rfl) ?_
  rw [hl]
  exact hr
end
end Go.Xe
