/- A part of the proof: XF_ir_3. -/
import Derived.Test.YtgjggcgdilahdaaXFir0
import Derived.KernelRfl
set_option linter.unusedVariables false
set_option linter.unusedSimpArgs false
set_option linter.constructorNameAsVariable false
set_option linter.unusedVariables false
set_option maxRecDepth 100000
namespace Go.Xe
open Go.RowKit
noncomputable section
noncomputable def plans61 (i : Nat) : Plan := []
noncomputable def T61 (p : Nat) : List Item × List Nat := bif Nat.beq p 0 then ([.code (match Go.Proofs.Try.f61.body with | some c => c | none => .skip)], [0, 1, 2]) else
  bif Nat.beq p 5 then (navs [.op, .op, .op, .op, .th] [.code (match Go.Proofs.Try.f61.body with | some c => c | none => .skip)], [0, 1, 2, 8, 9, 12, 13]) else
  bif Nat.beq p 10 then (navs [.op, .op, .op, .op, .th, .el, .op, .th] [.code (match Go.Proofs.Try.f61.body with | some c => c | none => .skip)], [0, 1, 2, 8, 9, 12, 25]) else
  ([], [])
noncomputable def F61_q9 (D J : Disp) (S : St) (x0 : Int) (x1 : Int) (x2 : Int) (S300 : St) (S303 : St) (c306 : Bool) (K : AV → St → Prop) : Prop :=
 ifK c306
 (J 5 [(AV.one (V1.s (SV.int IntKind.i64 x0))), (AV.one (V1.s (SV.int IntKind.i64 x1))), (AV.one (V1.s (SV.int IntKind.i64 x2))), (AV.one (V1.s (SV.ptr (PV.mk (Bk.new (St.next S)) 0)))), (AV.one (V1.s (SV.ptr (PV.mk (Bk.new (St.next S300)) 0)))), (AV.one (V1.s (SV.int IntKind.i64 x0))), (AV.one (V1.s (SV.bool c306)))] S303 K)
 (letK (α := Bool) ((ieq x0 (17 : Int))) fun c307 =>
 J 5 [(AV.one (V1.s (SV.int IntKind.i64 x0))), (AV.one (V1.s (SV.int IntKind.i64 x1))), (AV.one (V1.s (SV.int IntKind.i64 x2))), (AV.one (V1.s (SV.ptr (PV.mk (Bk.new (St.next S)) 0)))), (AV.one (V1.s (SV.ptr (PV.mk (Bk.new (St.next S300)) 0)))), (AV.one (V1.s (SV.int IntKind.i64 x0))), (AV.one (V1.s (SV.bool c307)))] S303 K)
noncomputable def F61_q10 (D J : Disp) (S : St) (x0 : Int) (x1 : Int) (x2 : Int) (S300 : St) (S303 : St) (K : AV → St → Prop) : Prop :=
 letK (α := Bool) ((ieq x0 (5 : Int))) fun c305 =>
 ifK c305
 (J 5 [(AV.one (V1.s (SV.int IntKind.i64 x0))), (AV.one (V1.s (SV.int IntKind.i64 x1))), (AV.one (V1.s (SV.int IntKind.i64 x2))), (AV.one (V1.s (SV.ptr (PV.mk (Bk.new (St.next S)) 0)))), (AV.one (V1.s (SV.ptr (PV.mk (Bk.new (St.next S300)) 0)))), (AV.one (V1.s (SV.int IntKind.i64 x0))), (AV.one (V1.s (SV.bool c305)))] S303 K)
 (letK (α := Bool) ((ieq x0 (16 : Int))) fun c306 =>
 F61_q9 D J S x0 x1 x2 S300 S303 c306 K)
noncomputable def F61_q11 (D J : Disp) (S : St) (x0 : Int) (x1 : Int) (x2 : Int) (S300 : St) (S302 : St) (K : AV → St → Prop) : Prop :=
 St.wr S302 (Bk.new (St.next S300)) 0 [(SV.int IntKind.i64 (64 : Int)), (SV.bool Bool.false)] fun S303 =>
 letK (α := Bool) ((ieq x0 (4 : Int))) fun c304 =>
 ifK c304
 (J 5 [(AV.one (V1.s (SV.int IntKind.i64 x0))), (AV.one (V1.s (SV.int IntKind.i64 x1))), (AV.one (V1.s (SV.int IntKind.i64 x2))), (AV.one (V1.s (SV.ptr (PV.mk (Bk.new (St.next S)) 0)))), (AV.one (V1.s (SV.ptr (PV.mk (Bk.new (St.next S300)) 0)))), (AV.one (V1.s (SV.int IntKind.i64 x0))), (AV.one (V1.s (SV.bool c304)))] S303 K)
 (F61_q10 D J S x0 x1 x2 S300 S303 K)
noncomputable def F61_0 (D J : Disp) (x0 : Int) (x1 : Int) (x2 : Int) (S : St) (K : AV → St → Prop) : Prop :=
 letK (α := St) ((St.add S (AO.cells [(SV.int IntKind.i64 (0 : Int)), (SV.bool Bool.false)] (Op2.ty 23)))) fun S300 =>
 letK (α := St) ((St.add S300 (AO.cells [(SV.int IntKind.i64 (0 : Int)), (SV.bool Bool.false)] (Op2.ty 23)))) fun S301 =>
 St.wr S301 (Bk.new (St.next S)) 0 [(SV.int IntKind.i64 (64 : Int)), (SV.bool Bool.true)] fun S302 =>
 F61_q11 D J S x0 x1 x2 S300 S302 K
noncomputable def X61_0 : X := (.op (.op (.op (.op (.br (.jmp 5 [0, 1, 2, 8, 9, 12, 13]) (.op (.br (.jmp 5 [0, 1, 2, 8, 9, 12, 13]) (.op (.br (.jmp 5 [0, 1, 2, 8, 9, 12, 13]) (.op (.jmp 5 [0, 1, 2, 8, 9, 12, 13])))))))))))
theorem F61_0_eq (D J : Disp) (x0 : Int) (x1 : Int) (x2 : Int) (S : St) (K : AV → St → Prop) : F61_0 D J x0 x1 x2 S K = execK IrP IrG Go.Proofs.Try.f61 (typed IrP D) J plans61 X61_0 (T61 0).1 (envOf (T61 0).2 [(AV.one (V1.s (SV.int IntKind.i64 x0))), (AV.one (V1.s (SV.int IntKind.i64 x1))), (AV.one (V1.s (SV.int IntKind.i64 x2)))]) S K := by kernel_rfl
noncomputable def F61_q12 (D J : Disp) (S : St) (x0 : Int) (x1 : Int) (x2 : Int) (x308 : Int) (y312 : Bool) (K : AV → St → Prop) : Prop :=
 D 74 [(AV.one (V1.agg [(SV.int IntKind.i64 x308), (SV.bool y312)])), (AV.one (V1.s (SV.int IntKind.i64 x0))), (AV.one (V1.s (SV.int IntKind.i64 x1))), (AV.one (V1.s (SV.int IntKind.i64 x2)))] S fun v313 S314 =>
 avT v313 fun y316 =>
 uncV y316 fun v317 y318 =>
 v1S v317 fun v320 =>
 SV.cI IntKind.i64 v320 fun x323 =>
 uncV y318 fun v324 y325 =>
 v1S v324 fun v327 =>
 SV.cB v327 fun y328 =>
 endL y325 (K ((AV.tup [(V1.s (SV.int IntKind.i64 x323)), (V1.s (SV.bool y328))])) S314)
noncomputable def F61_q13 (D J : Disp) (S : St) (x0 : Int) (x1 : Int) (x2 : Int) (p8 : PV) (p9 : PV) (x12 : Int) (c358 : Bool) (K : AV → St → Prop) : Prop :=
 ifK c358
 (J 10 [(AV.one (V1.s (SV.int IntKind.i64 x0))), (AV.one (V1.s (SV.int IntKind.i64 x1))), (AV.one (V1.s (SV.int IntKind.i64 x2))), (AV.one (V1.s (SV.ptr p8))), (AV.one (V1.s (SV.ptr p9))), (AV.one (V1.s (SV.int IntKind.i64 x12))), (AV.one (V1.s (SV.bool c358)))] S K)
 (letK (α := Bool) ((ieq x12 (12 : Int))) fun c359 =>
 J 10 [(AV.one (V1.s (SV.int IntKind.i64 x0))), (AV.one (V1.s (SV.int IntKind.i64 x1))), (AV.one (V1.s (SV.int IntKind.i64 x2))), (AV.one (V1.s (SV.ptr p8))), (AV.one (V1.s (SV.ptr p9))), (AV.one (V1.s (SV.int IntKind.i64 x12))), (AV.one (V1.s (SV.bool c359)))] S K)
noncomputable def F61_5 (D J : Disp) (x0 : Int) (x1 : Int) (x2 : Int) (p8 : PV) (p9 : PV) (x12 : Int) (c13 : Bool) (S : St) (K : AV → St → Prop) : Prop :=
 ifK c13
 (PV.cs p8 fun b300 n301 =>
 St.at S b300 n301 fun y302 =>
 uncK y302 fun v303 y304 =>
 SV.cI IntKind.i64 v303 fun x308 =>
 uncK y304 fun v309 y310 =>
 SV.cB v309 fun y312 =>
 F61_q12 D J S x0 x1 x2 x308 y312 K)
 (letK (α := Bool) ((ieq x12 (11 : Int))) fun c358 =>
 F61_q13 D J S x0 x1 x2 p8 p9 x12 c358 K)
noncomputable def X61_5 : X := (.br (.op .ret) (.op (.br (.jmp 10 [0, 1, 2, 8, 9, 12, 25]) (.op (.jmp 10 [0, 1, 2, 8, 9, 12, 25])))))
theorem F61_5_eq (D J : Disp) (x0 : Int) (x1 : Int) (x2 : Int) (p8 : PV) (p9 : PV) (x12 : Int) (c13 : Bool) (S : St) (K : AV → St → Prop) : F61_5 D J x0 x1 x2 p8 p9 x12 c13 S K = execK IrP IrG Go.Proofs.Try.f61 (typed IrP D) J plans61 X61_5 (T61 5).1 (envOf (T61 5).2 [(AV.one (V1.s (SV.int IntKind.i64 x0))), (AV.one (V1.s (SV.int IntKind.i64 x1))), (AV.one (V1.s (SV.int IntKind.i64 x2))), (AV.one (V1.s (SV.ptr p8))), (AV.one (V1.s (SV.ptr p9))), (AV.one (V1.s (SV.int IntKind.i64 x12))), (AV.one (V1.s (SV.bool c13)))]) S K := by kernel_rfl
noncomputable def F61_q14 (D J : Disp) (S : St) (x0 : Int) (x1 : Int) (x308 : Int) (y312 : Bool) (x313 : Int) (K : AV → St → Prop) : Prop :=
 D 74 [(AV.one (V1.agg [(SV.int IntKind.i64 x308), (SV.bool y312)])), (AV.one (V1.s (SV.int IntKind.i64 x0))), (AV.one (V1.s (SV.int IntKind.i64 x1))), (AV.one (V1.s (SV.int IntKind.i64 x313)))] S fun v314 S315 =>
 avT v314 fun y317 =>
 uncV y317 fun v318 y319 =>
 v1S v318 fun v321 =>
 SV.cI IntKind.i64 v321 fun x324 =>
 uncV y319 fun v325 y326 =>
 v1S v325 fun v328 =>
 SV.cB v328 fun y329 =>
 endL y326 (K ((AV.tup [(V1.s (SV.int IntKind.i64 x324)), (V1.s (SV.bool y329))])) S315)
noncomputable def F61_q15 (D J : Disp) (S : St) (x0 : Int) (x1 : Int) (x368 : Int) (y372 : Bool) (x373 : Int) (K : AV → St → Prop) : Prop :=
 D 74 [(AV.one (V1.agg [(SV.int IntKind.i64 x368), (SV.bool y372)])), (AV.one (V1.s (SV.int IntKind.i64 x0))), (AV.one (V1.s (SV.int IntKind.i64 x1))), (AV.one (V1.s (SV.int IntKind.i64 x373)))] S fun v374 S375 =>
 avT v374 fun y377 =>
 uncV y377 fun v378 y379 =>
 v1S v378 fun v381 =>
 SV.cI IntKind.i64 v381 fun x384 =>
 uncV y379 fun v385 y386 =>
 v1S v385 fun v388 =>
 SV.cB v388 fun y389 =>
 endL y386 (K ((AV.tup [(V1.s (SV.int IntKind.i64 x384)), (V1.s (SV.bool y389))])) S375)
noncomputable def F61_q16 (D J : Disp) (S : St) (x0 : Int) (x1 : Int) (x2 : Int) (x427 : Int) (y431 : Bool) (K : AV → St → Prop) : Prop :=
 D 74 [(AV.one (V1.agg [(SV.int IntKind.i64 x427), (SV.bool y431)])), (AV.one (V1.s (SV.int IntKind.i64 x0))), (AV.one (V1.s (SV.int IntKind.i64 x1))), (AV.one (V1.s (SV.int IntKind.i64 x2)))] S fun v432 S433 =>
 avT v432 fun y435 =>
 uncV y435 fun v436 y437 =>
 v1S v436 fun v439 =>
 SV.cI IntKind.i64 v439 fun x442 =>
 uncV y437 fun v443 y444 =>
 v1S v443 fun v446 =>
 SV.cB v446 fun y447 =>
 endL y444 (K ((AV.tup [(V1.s (SV.int IntKind.i64 x442)), (V1.s (SV.bool y447))])) S433)
noncomputable def F61_q17 (D J : Disp) (S : St) (x0 : Int) (x1 : Int) (x2 : Int) (p8 : PV) (p9 : PV) (c359 : Bool) (K : AV → St → Prop) : Prop :=
 ifK c359
 (PV.cs p8 fun b360 n361 =>
 St.at S b360 n361 fun y362 =>
 uncK y362 fun v363 y364 =>
 SV.cI IntKind.i64 v363 fun x368 =>
 uncK y364 fun v369 y370 =>
 SV.cB v369 fun y372 =>
 letK (α := Int) ((iand IntKind.i64 x2 (63 : Int))) fun x373 =>
 F61_q15 D J S x0 x1 x368 y372 x373 K)
 (PV.cs p9 fun b419 n420 =>
 St.at S b419 n420 fun y421 =>
 uncK y421 fun v422 y423 =>
 SV.cI IntKind.i64 v422 fun x427 =>
 uncK y423 fun v428 y429 =>
 SV.cB v428 fun y431 =>
 F61_q16 D J S x0 x1 x2 x427 y431 K)
noncomputable def F61_10 (D J : Disp) (x0 : Int) (x1 : Int) (x2 : Int) (p8 : PV) (p9 : PV) (x12 : Int) (c25 : Bool) (S : St) (K : AV → St → Prop) : Prop :=
 ifK c25
 (PV.cs p9 fun b300 n301 =>
 St.at S b300 n301 fun y302 =>
 uncK y302 fun v303 y304 =>
 SV.cI IntKind.i64 v303 fun x308 =>
 uncK y304 fun v309 y310 =>
 SV.cB v309 fun y312 =>
 letK (α := Int) ((iand IntKind.i64 x2 (63 : Int))) fun x313 =>
 F61_q14 D J S x0 x1 x308 y312 x313 K)
 (letK (α := Bool) ((ieq x12 (13 : Int))) fun c359 =>
 F61_q17 D J S x0 x1 x2 p8 p9 c359 K)
noncomputable def X61_10 : X := (.br (.op .ret) (.op (.br (.op .ret) (.op .ret))))
theorem F61_10_eq (D J : Disp) (x0 : Int) (x1 : Int) (x2 : Int) (p8 : PV) (p9 : PV) (x12 : Int) (c25 : Bool) (S : St) (K : AV → St → Prop) : F61_10 D J x0 x1 x2 p8 p9 x12 c25 S K = execK IrP IrG Go.Proofs.Try.f61 (typed IrP D) J plans61 X61_10 (T61 10).1 (envOf (T61 10).2 [(AV.one (V1.s (SV.int IntKind.i64 x0))), (AV.one (V1.s (SV.int IntKind.i64 x1))), (AV.one (V1.s (SV.int IntKind.i64 x2))), (AV.one (V1.s (SV.ptr p8))), (AV.one (V1.s (SV.ptr p9))), (AV.one (V1.s (SV.int IntKind.i64 x12))), (AV.one (V1.s (SV.bool c25)))]) S K := by kernel_rfl
noncomputable abbrev A61_0 (D J : Disp) (vals : List AV) (S : St) (K : AV → St → Prop) : Prop :=
  uncA vals fun a9001 r9002 => scK a9001 fun s9004 => SV.cI IntKind.i64 s9004 fun x0 => uncA r9002 fun a9007 r9008 => scK a9007 fun s9010 => SV.cI IntKind.i64 s9010 fun x1 => uncA r9008 fun a9013 r9014 => scK a9013 fun s9016 => SV.cI IntKind.i64 s9016 fun x2 => endL r9014 <| F61_0 D J x0 x1 x2 S K
theorem A61_0_ok {D J : Disp} (hD : DOK IrP IrG D) (hJ : JOK IrP IrG Go.Proofs.Try.f61 T61 J) {vals : List AV} {S : St} {K : AV → St → Prop} (h0 : A61_0 D J vals S K) : Runs IrP IrG Go.Proofs.Try.f61 (T61 0).1 (envOf (T61 0).2 vals) S K := by
  obtain ⟨a9001, r9002, rfl, h3⟩ := uncA_some h0
  obtain ⟨s9004, rfl, h5⟩ := scK_some h3
  obtain ⟨x0, rfl, h6⟩ := cI_some h5
  obtain ⟨a9007, r9008, rfl, h9⟩ := uncA_some h6
  obtain ⟨s9010, rfl, h11⟩ := scK_some h9
  obtain ⟨x1, rfl, h12⟩ := cI_some h11
  obtain ⟨a9013, r9014, rfl, h15⟩ := uncA_some h12
  obtain ⟨s9016, rfl, h17⟩ := scK_some h15
  obtain ⟨x2, rfl, h18⟩ := cI_some h17
  obtain ⟨rfl, h19⟩ := endL_some h18
  have hq := Eq.mp (F61_0_eq D J x0 x1 x2 S K) h19
  exact execK_runs hD.typed Ir_zero Ir_mixed hJ X61_0 (T61 0).1 (envOf (T61 0).2 _) S K (chk_of (by kernel_rfl) (by kernel_rfl)) hq
noncomputable abbrev A61_5 (D J : Disp) (vals : List AV) (S : St) (K : AV → St → Prop) : Prop :=
  uncA vals fun a9001 r9002 => scK a9001 fun s9004 => SV.cI IntKind.i64 s9004 fun x0 => uncA r9002 fun a9007 r9008 => scK a9007 fun s9010 => SV.cI IntKind.i64 s9010 fun x1 => uncA r9008 fun a9013 r9014 => scK a9013 fun s9016 => SV.cI IntKind.i64 s9016 fun x2 => uncA r9014 fun a9019 r9020 => scK a9019 fun s9022 => SV.cP s9022 fun p8 => uncA r9020 fun a9025 r9026 => scK a9025 fun s9028 => SV.cP s9028 fun p9 => uncA r9026 fun a9031 r9032 => scK a9031 fun s9034 => SV.cI IntKind.i64 s9034 fun x12 => uncA r9032 fun a9037 r9038 => scK a9037 fun s9040 => SV.cB s9040 fun c13 => endL r9038 <| F61_5 D J x0 x1 x2 p8 p9 x12 c13 S K
theorem A61_5_ok {D J : Disp} (hD : DOK IrP IrG D) (hJ : JOK IrP IrG Go.Proofs.Try.f61 T61 J) {vals : List AV} {S : St} {K : AV → St → Prop} (h0 : A61_5 D J vals S K) : Runs IrP IrG Go.Proofs.Try.f61 (T61 5).1 (envOf (T61 5).2 vals) S K := by
  obtain ⟨a9001, r9002, rfl, h3⟩ := uncA_some h0
  obtain ⟨s9004, rfl, h5⟩ := scK_some h3
  obtain ⟨x0, rfl, h6⟩ := cI_some h5
  obtain ⟨a9007, r9008, rfl, h9⟩ := uncA_some h6
  obtain ⟨s9010, rfl, h11⟩ := scK_some h9
  obtain ⟨x1, rfl, h12⟩ := cI_some h11
  obtain ⟨a9013, r9014, rfl, h15⟩ := uncA_some h12
  obtain ⟨s9016, rfl, h17⟩ := scK_some h15
  obtain ⟨x2, rfl, h18⟩ := cI_some h17
  obtain ⟨a9019, r9020, rfl, h21⟩ := uncA_some h18
  obtain ⟨s9022, rfl, h23⟩ := scK_some h21
  obtain ⟨p8, rfl, h24⟩ := cP_some h23
  obtain ⟨a9025, r9026, rfl, h27⟩ := uncA_some h24
  obtain ⟨s9028, rfl, h29⟩ := scK_some h27
  obtain ⟨p9, rfl, h30⟩ := cP_some h29
  obtain ⟨a9031, r9032, rfl, h33⟩ := uncA_some h30
  obtain ⟨s9034, rfl, h35⟩ := scK_some h33
  obtain ⟨x12, rfl, h36⟩ := cI_some h35
  obtain ⟨a9037, r9038, rfl, h39⟩ := uncA_some h36
  obtain ⟨s9040, rfl, h41⟩ := scK_some h39
  obtain ⟨c13, rfl, h42⟩ := cB_some h41
  obtain ⟨rfl, h43⟩ := endL_some h42
  have hq := Eq.mp (F61_5_eq D J x0 x1 x2 p8 p9 x12 c13 S K) h43
  exact execK_runs hD.typed Ir_zero Ir_mixed hJ X61_5 (T61 5).1 (envOf (T61 5).2 _) S K (chk_of (by kernel_rfl) (by kernel_rfl)) hq
noncomputable abbrev A61_10 (D J : Disp) (vals : List AV) (S : St) (K : AV → St → Prop) : Prop :=
  uncA vals fun a9001 r9002 => scK a9001 fun s9004 => SV.cI IntKind.i64 s9004 fun x0 => uncA r9002 fun a9007 r9008 => scK a9007 fun s9010 => SV.cI IntKind.i64 s9010 fun x1 => uncA r9008 fun a9013 r9014 => scK a9013 fun s9016 => SV.cI IntKind.i64 s9016 fun x2 => uncA r9014 fun a9019 r9020 => scK a9019 fun s9022 => SV.cP s9022 fun p8 => uncA r9020 fun a9025 r9026 => scK a9025 fun s9028 => SV.cP s9028 fun p9 => uncA r9026 fun a9031 r9032 => scK a9031 fun s9034 => SV.cI IntKind.i64 s9034 fun x12 => uncA r9032 fun a9037 r9038 => scK a9037 fun s9040 => SV.cB s9040 fun c25 => endL r9038 <| F61_10 D J x0 x1 x2 p8 p9 x12 c25 S K
theorem A61_10_ok {D J : Disp} (hD : DOK IrP IrG D) (hJ : JOK IrP IrG Go.Proofs.Try.f61 T61 J) {vals : List AV} {S : St} {K : AV → St → Prop} (h0 : A61_10 D J vals S K) : Runs IrP IrG Go.Proofs.Try.f61 (T61 10).1 (envOf (T61 10).2 vals) S K := by
  obtain ⟨a9001, r9002, rfl, h3⟩ := uncA_some h0
  obtain ⟨s9004, rfl, h5⟩ := scK_some h3
  obtain ⟨x0, rfl, h6⟩ := cI_some h5
  obtain ⟨a9007, r9008, rfl, h9⟩ := uncA_some h6
  obtain ⟨s9010, rfl, h11⟩ := scK_some h9
  obtain ⟨x1, rfl, h12⟩ := cI_some h11
  obtain ⟨a9013, r9014, rfl, h15⟩ := uncA_some h12
  obtain ⟨s9016, rfl, h17⟩ := scK_some h15
  obtain ⟨x2, rfl, h18⟩ := cI_some h17
  obtain ⟨a9019, r9020, rfl, h21⟩ := uncA_some h18
  obtain ⟨s9022, rfl, h23⟩ := scK_some h21
  obtain ⟨p8, rfl, h24⟩ := cP_some h23
  obtain ⟨a9025, r9026, rfl, h27⟩ := uncA_some h24
  obtain ⟨s9028, rfl, h29⟩ := scK_some h27
  obtain ⟨p9, rfl, h30⟩ := cP_some h29
  obtain ⟨a9031, r9032, rfl, h33⟩ := uncA_some h30
  obtain ⟨s9034, rfl, h35⟩ := scK_some h33
  obtain ⟨x12, rfl, h36⟩ := cI_some h35
  obtain ⟨a9037, r9038, rfl, h39⟩ := uncA_some h36
  obtain ⟨s9040, rfl, h41⟩ := scK_some h39
  obtain ⟨c25, rfl, h42⟩ := cB_some h41
  obtain ⟨rfl, h43⟩ := endL_some h42
  have hq := Eq.mp (F61_10_eq D J x0 x1 x2 p8 p9 x12 c25 S K) h43
  exact execK_runs hD.typed Ir_zero Ir_mixed hJ X61_10 (T61 10).1 (envOf (T61 10).2 _) S K (chk_of (by kernel_rfl) (by kernel_rfl)) hq
noncomputable def plans62 (i : Nat) : Plan := if Nat.beq i 4 then [(0, []), (1, [0]), (2, []), (3, [2]), (4, [3, 2]), (5, [1, 4, 0, 3, 2]), (6, []), (7, [6]), (8, [7, 6]), (9, [5, 8, 1, 4, 7, 0, 3, 6, 2]), (10, [9, 5, 8, 1, 4, 7, 0, 3, 6, 2]), (11, [10, 0, 1, 2, 3, 4, 5, 6, 7, 8, 9])] else if Nat.beq i 5 then [(0, []), (1, []), (2, [1]), (3, [2, 1]), (4, [0, 3, 2, 1]), (5, []), (6, [5]), (7, [6, 5]), (8, [4, 7, 0, 3, 6, 2, 5, 1]), (9, [8, 0, 1, 2, 3, 4, 5, 6, 7])] else []
noncomputable def T62 (p : Nat) : List Item × List Nat := bif Nat.beq p 0 then ([.code (match Go.Proofs.Try.f62.body with | some c => c | none => .skip)], [0, 1]) else
  ([], [])
noncomputable def F62_q0 (D J : Disp) (S : St) (S313 : St) (x324 : Int) (x331 : Int) (K : AV → St → Prop) : Prop :=
 letK (α := Int) ((iwrap IntKind.i64 ((64 : Int) - x331))) fun x332 =>
 req (ile (0 : Int) x332) <|
 letK (α := Int) ((shlI IntKind.u64 x324 x332)) fun x333 =>
 St.at S313 (Bk.new (St.next S)) 0 fun y334 =>
 uncK y334 fun v335 y336 =>
 SV.cI IntKind.i64 v335 fun x340 =>
 letK (α := Int) ((iwrap IntKind.i64 ((64 : Int) - x340))) fun x341 =>
 req (ile (0 : Int) x341) <|
 letK (α := Int) ((shrI IntKind.u64 x333 x341)) fun x342 =>
 letK (α := Int) ((iwrap IntKind.i64 x342)) fun x343 =>
 K ((AV.one (V1.s (SV.int IntKind.i64 x343)))) S313
noncomputable def F62_q1 (D J : Disp) (S : St) (x1 : Int) (S313 : St) (x360 : Int) (K : AV → St → Prop) : Prop :=
 letK (α := Int) ((iwrap IntKind.i64 ((64 : Int) - x360))) fun x361 =>
 req (ile (0 : Int) x361) <|
 letK (α := Int) ((shlI IntKind.i64 x1 x361)) fun x362 =>
 St.at S313 (Bk.new (St.next S)) 0 fun y363 =>
 uncK y363 fun v364 y365 =>
 SV.cI IntKind.i64 v364 fun x369 =>
 letK (α := Int) ((iwrap IntKind.i64 ((64 : Int) - x369))) fun x370 =>
 req (ile (0 : Int) x370) <|
 letK (α := Int) ((shrI IntKind.i64 x362 x370)) fun x371 =>
 K ((AV.one (V1.s (SV.int IntKind.i64 x371)))) S313
noncomputable def F62_q2 (D J : Disp) (S : St) (x1 : Int) (S313 : St) (K : AV → St → Prop) : Prop :=
 St.at S313 (Bk.new (St.next S)) 1 fun y318 =>
 uncK y318 fun v319 y320 =>
 SV.cB v319 fun y322 =>
 letK (α := Bool) ((Bool.not y322)) fun c323 =>
 ifK c323
 (letK (α := Int) ((iwrap IntKind.u64 x1)) fun x324 =>
 St.at S313 (Bk.new (St.next S)) 0 fun y325 =>
 uncK y325 fun v326 y327 =>
 SV.cI IntKind.i64 v326 fun x331 =>
 F62_q0 D J S S313 x324 x331 K)
 (St.at S313 (Bk.new (St.next S)) 0 fun y354 =>
 uncK y354 fun v355 y356 =>
 SV.cI IntKind.i64 v355 fun x360 =>
 F62_q1 D J S x1 S313 x360 K)
noncomputable def F62_q3 (D J : Disp) (S : St) (x1 : Int) (S300 : St) (K : AV → St → Prop) : Prop :=
 St.at S300 (Bk.new (St.next S)) 0 fun y301 =>
 uncK y301 fun v302 y303 =>
 SV.cI IntKind.i64 v302 fun x307 =>
 uncK y303 fun v308 y309 =>
 SV.cB v308 fun y311 =>
 D 75 [(AV.one (V1.agg [(SV.int IntKind.i64 x307), (SV.bool y311)]))] S300 fun v312 S313 =>
 scK v312 fun v315 =>
 SV.cB v315 fun y316 =>
 letK (α := Bool) ((Bool.not y316)) fun c317 =>
 ifK c317
 (K ((AV.one (V1.s (SV.int IntKind.i64 (0 : Int))))) S313)
 (F62_q2 D J S x1 S313 K)
noncomputable def F62_0 (D J : Disp) (x0_0 : Int) (c0_1 : Bool) (x1 : Int) (S : St) (K : AV → St → Prop) : Prop :=
 letK (α := St) ((St.add S (AO.cells [(SV.int IntKind.i64 x0_0), (SV.bool c0_1)] (Op2.ty 23)))) fun S300 =>
 F62_q3 D J S x1 S300 K
noncomputable def X62_0 : X := (.op (.op (.br (.op .ret) (.op (.br (.op .ret) (.op .ret))))))
theorem F62_0_eq (D J : Disp) (x0_0 : Int) (c0_1 : Bool) (x1 : Int) (S : St) (K : AV → St → Prop) : F62_0 D J x0_0 c0_1 x1 S K = execK IrP IrG Go.Proofs.Try.f62 (typed IrP D) J plans62 X62_0 (T62 0).1 (envOf (T62 0).2 [(AV.one (V1.agg [(SV.int IntKind.i64 x0_0), (SV.bool c0_1)])), (AV.one (V1.s (SV.int IntKind.i64 x1)))]) S K := by kernel_rfl
noncomputable abbrev A62_0 (D J : Disp) (vals : List AV) (S : St) (K : AV → St → Prop) : Prop :=
  uncA vals fun a9001 r9002 => avA a9001 fun l9004 => uncK l9004 fun s9006 r9007 => SV.cI IntKind.i64 s9006 fun x0_0 => uncK r9007 fun s9010 r9011 => SV.cB s9010 fun c0_1 => endL r9011 <| uncA r9002 fun a9015 r9016 => scK a9015 fun s9018 => SV.cI IntKind.i64 s9018 fun x1 => endL r9016 <| F62_0 D J x0_0 c0_1 x1 S K
theorem A62_0_ok {D J : Disp} (hD : DOK IrP IrG D) (hJ : JOK IrP IrG Go.Proofs.Try.f62 T62 J) {vals : List AV} {S : St} {K : AV → St → Prop} (h0 : A62_0 D J vals S K) : Runs IrP IrG Go.Proofs.Try.f62 (T62 0).1 (envOf (T62 0).2 vals) S K := by
  obtain ⟨a9001, r9002, rfl, h3⟩ := uncA_some h0
  obtain ⟨l9004, rfl, h5⟩ := avA_some h3
  obtain ⟨s9006, r9007, rfl, h8⟩ := uncK_some h5
  obtain ⟨x0_0, rfl, h9⟩ := cI_some h8
  obtain ⟨s9010, r9011, rfl, h12⟩ := uncK_some h9
  obtain ⟨c0_1, rfl, h13⟩ := cB_some h12
  obtain ⟨rfl, h14⟩ := endL_some h13
  obtain ⟨a9015, r9016, rfl, h17⟩ := uncA_some h14
  obtain ⟨s9018, rfl, h19⟩ := scK_some h17
  obtain ⟨x1, rfl, h20⟩ := cI_some h19
  obtain ⟨rfl, h21⟩ := endL_some h20
  have hq := Eq.mp (F62_0_eq D J x0_0 c0_1 x1 S K) h21
  exact execK_runs hD.typed Ir_zero Ir_mixed hJ X62_0 (T62 0).1 (envOf (T62 0).2 _) S K (chk_of (by kernel_rfl) (by kernel_rfl)) hq
noncomputable def J62 (D : Disp) (k : Nat) : Disp := Nat.rec (motive := fun _ => Disp) Disp.no (fun _ ih => Disp.add 0 (A62_0 D ih) <| Disp.no) k
theorem J62_ok {D : Disp} (hD : DOK IrP IrG D) : ∀ k, JOK IrP IrG Go.Proofs.Try.f62 T62 (J62 D k)
  | 0 => JOK.no
  | k + 1 => JOK.add (ltB_ok (by kernel_rfl)) (fun vals S K h => A62_0_ok hD (J62_ok hD k) h) <| JOK.no
theorem E62_ok {D : Disp} (hD : DOK IrP IrG D) (k : Nat) {args : List AV} {S : St} {K : AV → St → Prop} (h : A62_0 D (J62 D k) args S K) : CallE IrP IrG 62 args S K := by
  have hr := A62_0_ok hD (J62_ok hD k) h
  have hl : args.length = 2 := by
    have h0 := h
    obtain ⟨a9001, r9002, rfl, h3⟩ := uncA_some h0
    obtain ⟨l9004, rfl, h5⟩ := avA_some h3
    obtain ⟨s9006, r9007, rfl, h8⟩ := uncK_some h5
    obtain ⟨x0_0, rfl, h9⟩ := cI_some h8
    obtain ⟨s9010, r9011, rfl, h12⟩ := uncK_some h9
    obtain ⟨c0_1, rfl, h13⟩ := cB_some h12
    obtain ⟨rfl, h14⟩ := endL_some h13
    obtain ⟨a9015, r9016, rfl, h17⟩ := uncA_some h14
    obtain ⟨s9018, rfl, h19⟩ := scK_some h17
    obtain ⟨x1, rfl, h20⟩ := cI_some h19
    obtain ⟨rfl, h21⟩ := endL_some h20
    rfl
  refine callOK_of (fn := Go.Proofs.Try.f62) (c := (match Go.Proofs.Try.f62.body with | some c => c | none => .skip)) (by kernel_rfl) (by kernel_rfl) (by kernel_rfl) (by rw [hl]; kernel_rfl) (by kernel_rfl) ?_
  rw [hl]
  exact hr
noncomputable def plans63 (i : Nat) : Plan := []
noncomputable def T63 (p : Nat) : List Item × List Nat := bif Nat.beq p 0 then ([.code (match Go.Proofs.Try.f63.body with | some c => c | none => .skip)], [0, 1, 2]) else
  bif Nat.beq p 2 then (navs [.op, .op] [.code (match Go.Proofs.Try.f63.body with | some c => c | none => .skip)], [0, 1, 2, 22]) else
  bif Nat.beq p 7 then (navs [.op, .op, .el, .op] [.code (match Go.Proofs.Try.f63.body with | some c => c | none => .skip)], [0, 1, 2, 37, 38, 39]) else
  bif Nat.beq p 11 then (navs [.op, .op, .el, .op, .op, .th, .op, .op] [.code (match Go.Proofs.Try.f63.body with | some c => c | none => .skip)], [0, 1, 2, 37, 38, 39, 63]) else
  ([], [])
noncomputable def F63_q6 (D J : Disp) (S : St) (p0 : PV) (x1 : Int) (x2 : Int) (x309 : Int) (K : AV → St → Prop) : Prop :=
 letK (α := Bool) ((ile x309 x1)) fun c310 =>
 ifK c310
 (letK (α := Int) ((iwrap IntKind.i64 ((16777216 : Int) - x2))) fun x311 =>
 letK (α := Bool) ((ile x1 x311)) fun c312 =>
 J 2 [(AV.one (V1.s (SV.ptr p0))), (AV.one (V1.s (SV.int IntKind.i64 x1))), (AV.one (V1.s (SV.int IntKind.i64 x2))), (AV.one (V1.s (SV.bool c312)))] S K)
 (J 2 [(AV.one (V1.s (SV.ptr p0))), (AV.one (V1.s (SV.int IntKind.i64 x1))), (AV.one (V1.s (SV.int IntKind.i64 x2))), (AV.one (V1.s (SV.bool Bool.false)))] S K)
noncomputable def F63_0 (D J : Disp) (p0 : PV) (x1 : Int) (x2 : Int) (S : St) (K : AV → St → Prop) : Prop :=
 PV.cs p0 fun b300 n301 =>
 letK (α := Nat) ((n301 + 7)) fun n302 =>
 St.at S b300 n302 fun y303 =>
 uncK y303 fun v304 y305 =>
 SV.cI IntKind.i64 v304 fun x309 =>
 F63_q6 D J S p0 x1 x2 x309 K
noncomputable def X63_0 : X := (.op (.op (.jmp 2 [0, 1, 2, 22])))
theorem F63_0_eq (D J : Disp) (p0 : PV) (x1 : Int) (x2 : Int) (S : St) (K : AV → St → Prop) : F63_0 D J p0 x1 x2 S K = execK IrP IrG Go.Proofs.Try.f63 (typed IrP D) J plans63 X63_0 (T63 0).1 (envOf (T63 0).2 [(AV.one (V1.s (SV.ptr p0))), (AV.one (V1.s (SV.int IntKind.i64 x1))), (AV.one (V1.s (SV.int IntKind.i64 x2)))]) S K := by kernel_rfl
noncomputable def F63_q7 (D J : Disp) (S : St) (x300 : Int) (y313 : LV) (x314 : Int) (K : AV → St → Prop) : Prop :=
 LV.on y313 (req (Bool.and (ile (0 : Int) (oInt (Option.some x300) (0 : Int))) (Bool.and (ile (oInt (Option.some x300) (0 : Int)) (oInt (Option.some x314) (0 : Int))) (ile (oInt (Option.some x314) (0 : Int)) (0 : Int)))) <|
 K ((AV.one (V1.s (SV.sl LV.nil)))) S) fun b315 n316 n317 y318 =>
 sumOn y318 (fun n319 =>
 req (Bool.and (ile (0 : Int) (oInt (Option.some x300) (0 : Int))) (Bool.and (ile (oInt (Option.some x300) (0 : Int)) (oInt (Option.some x314) (Int.ofNat n317))) (ile (oInt (Option.some x314) (Int.ofNat n317)) (Int.ofNat n319)))) <|
 letK (α := Nat) ((n316 + ((Int.toNat (oInt (Option.some x300) (0 : Int))) * 1))) fun n320 =>
 letK (α := Nat) (((Int.toNat (oInt (Option.some x314) (Int.ofNat n317))) - (Int.toNat (oInt (Option.some x300) (0 : Int))))) fun n321 =>
 letK (α := (Sum Nat Nat)) ((Sum.inl ((Int.toNat (oInt Option.none (Int.ofNat n319))) - (Int.toNat (oInt (Option.some x300) (0 : Int)))))) fun d322 =>
 K ((AV.one (V1.s (SV.sl (LV.mk b315 n320 n321 d322))))) S) fun y323 =>
 req (Nat.beq 1 y323) <|
 req (Bool.and (ile (0 : Int) (oInt (Option.some x300) (0 : Int))) (Bool.and (ile (oInt (Option.some x300) (0 : Int)) (oInt (Option.some x314) (Int.ofNat n317))) (ile (oInt (Option.some x314) (Int.ofNat n317)) (Int.ofNat n317)))) <|
 letK (α := Nat) ((n316 + ((Int.toNat (oInt (Option.some x300) (0 : Int))) * 1))) fun n324 =>
 letK (α := Nat) (((Int.toNat (oInt (Option.some x314) (Int.ofNat n317))) - (Int.toNat (oInt (Option.some x300) (0 : Int))))) fun n325 =>
 letK (α := (Sum Nat Nat)) ((Sum.inr 1)) fun d326 =>
 K ((AV.one (V1.s (SV.sl (LV.mk b315 n324 n325 d326))))) S
noncomputable def F63_q8 (D J : Disp) (S : St) (p0 : PV) (x1 : Int) (x2 : Int) (K : AV → St → Prop) : Prop :=
 PV.cs p0 fun b329 n330 =>
 letK (α := Nat) ((n330 + 4)) fun n331 =>
 St.at S b329 n331 fun y332 =>
 uncK y332 fun v333 y334 =>
 SV.cL v333 fun y341 =>
 letK (α := Int) ((Int.ofNat (LV.len y341))) fun x342 =>
 J 7 [(AV.one (V1.s (SV.ptr p0))), (AV.one (V1.s (SV.int IntKind.i64 x1))), (AV.one (V1.s (SV.int IntKind.i64 x2))), (AV.one (V1.s (SV.sl y341))), (AV.one (V1.s (SV.int IntKind.i64 x342))), (AV.one (V1.s (SV.int IntKind.i64 (0 : Int))))] S K
noncomputable def F63_2 (D J : Disp) (p0 : PV) (x1 : Int) (x2 : Int) (c22 : Bool) (S : St) (K : AV → St → Prop) : Prop :=
 ifK c22
 (letK (α := Int) ((iwrap IntKind.i64 (x1 - (15728640 : Int)))) fun x300 =>
 PV.cs p0 fun b301 n302 =>
 letK (α := Nat) ((n302 + 6)) fun n303 =>
 St.at S b301 n303 fun y304 =>
 uncK y304 fun v305 y306 =>
 SV.cL v305 fun y313 =>
 letK (α := Int) ((iwrap IntKind.i64 (x300 + x2))) fun x314 =>
 F63_q7 D J S x300 y313 x314 K)
 (F63_q8 D J S p0 x1 x2 K)
noncomputable def X63_2 : X := (.br (.op (.op .ret)) (.op (.jmp 7 [0, 1, 2, 37, 38, 39])))
theorem F63_2_eq (D J : Disp) (p0 : PV) (x1 : Int) (x2 : Int) (c22 : Bool) (S : St) (K : AV → St → Prop) : F63_2 D J p0 x1 x2 c22 S K = execK IrP IrG Go.Proofs.Try.f63 (typed IrP D) J plans63 X63_2 (T63 2).1 (envOf (T63 2).2 [(AV.one (V1.s (SV.ptr p0))), (AV.one (V1.s (SV.int IntKind.i64 x1))), (AV.one (V1.s (SV.int IntKind.i64 x2))), (AV.one (V1.s (SV.bool c22)))]) S K := by kernel_rfl
noncomputable def F63_q9 (D J : Disp) (S : St) (p0 : PV) (x1 : Int) (x2 : Int) (l37 : LV) (x38 : Int) (x39 : Int) (x312 : Int) (b328 : Bk) (n333 : Nat) (K : AV → St → Prop) : Prop :=
 St.at S b328 n333 fun y334 =>
 uncK y334 fun v335 y336 =>
 SV.cI IntKind.i64 v335 fun x340 =>
 letK (α := Int) ((iwrap IntKind.i64 (x312 + x340))) fun x341 =>
 letK (α := Int) ((iwrap IntKind.i64 (x341 - x2))) fun x342 =>
 letK (α := Bool) ((ile x1 x342)) fun c343 =>
 J 11 [(AV.one (V1.s (SV.ptr p0))), (AV.one (V1.s (SV.int IntKind.i64 x1))), (AV.one (V1.s (SV.int IntKind.i64 x2))), (AV.one (V1.s (SV.sl l37))), (AV.one (V1.s (SV.int IntKind.i64 x38))), (AV.one (V1.s (SV.int IntKind.i64 x39))), (AV.one (V1.s (SV.bool c343)))] S K
noncomputable def F63_q10 (D J : Disp) (S : St) (p0 : PV) (x1 : Int) (x2 : Int) (l37 : LV) (x38 : Int) (x39 : Int) (x312 : Int) (c313 : Bool) (K : AV → St → Prop) : Prop :=
 ifK c313
 (PV.cs p0 fun b314 n315 =>
 letK (α := Nat) ((n315 + 0)) fun n316 =>
 letK (α := Nat) ((n316 + 0)) fun n317 =>
 St.at S b314 n317 fun y318 =>
 uncK y318 fun v319 y320 =>
 SV.cL v319 fun y327 =>
 LV.cs y327 fun b328 n329 n330 y331 =>
 req (Bool.and (ile (0 : Int) x39) (ilt x39 (Int.ofNat n330))) <|
 letK (α := Nat) ((n329 + ((Int.toNat x39) * 3))) fun n332 =>
 letK (α := Nat) ((n332 + 1)) fun n333 =>
 F63_q9 D J S p0 x1 x2 l37 x38 x39 x312 b328 n333 K)
 (J 11 [(AV.one (V1.s (SV.ptr p0))), (AV.one (V1.s (SV.int IntKind.i64 x1))), (AV.one (V1.s (SV.int IntKind.i64 x2))), (AV.one (V1.s (SV.sl l37))), (AV.one (V1.s (SV.int IntKind.i64 x38))), (AV.one (V1.s (SV.int IntKind.i64 x39))), (AV.one (V1.s (SV.bool Bool.false)))] S K)
noncomputable def F63_7 (D J : Disp) (p0 : PV) (x1 : Int) (x2 : Int) (l37 : LV) (x38 : Int) (x39 : Int) (S : St) (K : AV → St → Prop) : Prop :=
 letK (α := Bool) ((ilt x39 x38)) fun c300 =>
 ifK c300
 (LV.cs l37 fun b301 n302 n303 y304 =>
 req (Bool.and (ile (0 : Int) x39) (ilt x39 (Int.ofNat n303))) <|
 letK (α := Nat) ((n302 + ((Int.toNat x39) * 1))) fun n305 =>
 St.at S b301 n305 fun y306 =>
 uncK y306 fun v307 y308 =>
 SV.cI IntKind.i64 v307 fun x312 =>
 letK (α := Bool) ((ile x312 x1)) fun c313 =>
 F63_q10 D J S p0 x1 x2 l37 x38 x39 x312 c313 K)
 (K ((AV.one (V1.s (SV.sl LV.nil)))) S)
noncomputable def X63_7 : X := (.op (.br (.op (.op (.jmp 11 [0, 1, 2, 37, 38, 39, 63]))) (.op .ret)))
theorem F63_7_eq (D J : Disp) (p0 : PV) (x1 : Int) (x2 : Int) (l37 : LV) (x38 : Int) (x39 : Int) (S : St) (K : AV → St → Prop) : F63_7 D J p0 x1 x2 l37 x38 x39 S K = execK IrP IrG Go.Proofs.Try.f63 (typed IrP D) J plans63 X63_7 (T63 7).1 (envOf (T63 7).2 [(AV.one (V1.s (SV.ptr p0))), (AV.one (V1.s (SV.int IntKind.i64 x1))), (AV.one (V1.s (SV.int IntKind.i64 x2))), (AV.one (V1.s (SV.sl l37))), (AV.one (V1.s (SV.int IntKind.i64 x38))), (AV.one (V1.s (SV.int IntKind.i64 x39)))]) S K := by kernel_rfl
noncomputable def F63_q11 (D J : Disp) (S : St) (x300 : Int) (y313 : LV) (x314 : Int) (K : AV → St → Prop) : Prop :=
 LV.on y313 (req (Bool.and (ile (0 : Int) (oInt (Option.some x300) (0 : Int))) (Bool.and (ile (oInt (Option.some x300) (0 : Int)) (oInt (Option.some x314) (0 : Int))) (ile (oInt (Option.some x314) (0 : Int)) (0 : Int)))) <|
 K ((AV.one (V1.s (SV.sl LV.nil)))) S) fun b315 n316 n317 y318 =>
 sumOn y318 (fun n319 =>
 req (Bool.and (ile (0 : Int) (oInt (Option.some x300) (0 : Int))) (Bool.and (ile (oInt (Option.some x300) (0 : Int)) (oInt (Option.some x314) (Int.ofNat n317))) (ile (oInt (Option.some x314) (Int.ofNat n317)) (Int.ofNat n319)))) <|
 letK (α := Nat) ((n316 + ((Int.toNat (oInt (Option.some x300) (0 : Int))) * 1))) fun n320 =>
 letK (α := Nat) (((Int.toNat (oInt (Option.some x314) (Int.ofNat n317))) - (Int.toNat (oInt (Option.some x300) (0 : Int))))) fun n321 =>
 letK (α := (Sum Nat Nat)) ((Sum.inl ((Int.toNat (oInt Option.none (Int.ofNat n319))) - (Int.toNat (oInt (Option.some x300) (0 : Int)))))) fun d322 =>
 K ((AV.one (V1.s (SV.sl (LV.mk b315 n320 n321 d322))))) S) fun y323 =>
 req (Nat.beq 1 y323) <|
 req (Bool.and (ile (0 : Int) (oInt (Option.some x300) (0 : Int))) (Bool.and (ile (oInt (Option.some x300) (0 : Int)) (oInt (Option.some x314) (Int.ofNat n317))) (ile (oInt (Option.some x314) (Int.ofNat n317)) (Int.ofNat n317)))) <|
 letK (α := Nat) ((n316 + ((Int.toNat (oInt (Option.some x300) (0 : Int))) * 1))) fun n324 =>
 letK (α := Nat) (((Int.toNat (oInt (Option.some x314) (Int.ofNat n317))) - (Int.toNat (oInt (Option.some x300) (0 : Int))))) fun n325 =>
 letK (α := (Sum Nat Nat)) ((Sum.inr 1)) fun d326 =>
 K ((AV.one (V1.s (SV.sl (LV.mk b315 n324 n325 d326))))) S
noncomputable def F63_11 (D J : Disp) (p0 : PV) (x1 : Int) (x2 : Int) (l37 : LV) (x38 : Int) (x39 : Int) (c63 : Bool) (S : St) (K : AV → St → Prop) : Prop :=
 ifK c63
 (letK (α := Int) ((iwrap IntKind.i64 (x1 - (65536 : Int)))) fun x300 =>
 PV.cs p0 fun b301 n302 =>
 letK (α := Nat) ((n302 + 5)) fun n303 =>
 St.at S b301 n303 fun y304 =>
 uncK y304 fun v305 y306 =>
 SV.cL v305 fun y313 =>
 letK (α := Int) ((iwrap IntKind.i64 (x300 + x2))) fun x314 =>
 F63_q11 D J S x300 y313 x314 K)
 (letK (α := Int) ((iwrap IntKind.i64 (x39 + (1 : Int)))) fun x329 =>
 J 7 [(AV.one (V1.s (SV.ptr p0))), (AV.one (V1.s (SV.int IntKind.i64 x1))), (AV.one (V1.s (SV.int IntKind.i64 x2))), (AV.one (V1.s (SV.sl l37))), (AV.one (V1.s (SV.int IntKind.i64 x38))), (AV.one (V1.s (SV.int IntKind.i64 x329)))] S K)
noncomputable def X63_11 : X := (.br (.op (.op .ret)) (.op (.jmp 7 [0, 1, 2, 37, 38, 39])))
theorem F63_11_eq (D J : Disp) (p0 : PV) (x1 : Int) (x2 : Int) (l37 : LV) (x38 : Int) (x39 : Int) (c63 : Bool) (S : St) (K : AV → St → Prop) : F63_11 D J p0 x1 x2 l37 x38 x39 c63 S K = execK IrP IrG Go.Proofs.Try.f63 (typed IrP D) J plans63 X63_11 (T63 11).1 (envOf (T63 11).2 [(AV.one (V1.s (SV.ptr p0))), (AV.one (V1.s (SV.int IntKind.i64 x1))), (AV.one (V1.s (SV.int IntKind.i64 x2))), (AV.one (V1.s (SV.sl l37))), (AV.one (V1.s (SV.int IntKind.i64 x38))), (AV.one (V1.s (SV.int IntKind.i64 x39))), (AV.one (V1.s (SV.bool c63)))]) S K := by kernel_rfl
noncomputable abbrev A63_0 (D J : Disp) (vals : List AV) (S : St) (K : AV → St → Prop) : Prop :=
  uncA vals fun a9001 r9002 => scK a9001 fun s9004 => SV.cP s9004 fun p0 => uncA r9002 fun a9007 r9008 => scK a9007 fun s9010 => SV.cI IntKind.i64 s9010 fun x1 => uncA r9008 fun a9013 r9014 => scK a9013 fun s9016 => SV.cI IntKind.i64 s9016 fun x2 => endL r9014 <| F63_0 D J p0 x1 x2 S K
theorem A63_0_ok {D J : Disp} (hD : DOK IrP IrG D) (hJ : JOK IrP IrG Go.Proofs.Try.f63 T63 J) {vals : List AV} {S : St} {K : AV → St → Prop} (h0 : A63_0 D J vals S K) : Runs IrP IrG Go.Proofs.Try.f63 (T63 0).1 (envOf (T63 0).2 vals) S K := by
  obtain ⟨a9001, r9002, rfl, h3⟩ := uncA_some h0
  obtain ⟨s9004, rfl, h5⟩ := scK_some h3
  obtain ⟨p0, rfl, h6⟩ := cP_some h5
  obtain ⟨a9007, r9008, rfl, h9⟩ := uncA_some h6
  obtain ⟨s9010, rfl, h11⟩ := scK_some h9
  obtain ⟨x1, rfl, h12⟩ := cI_some h11
  obtain ⟨a9013, r9014, rfl, h15⟩ := uncA_some h12
  obtain ⟨s9016, rfl, h17⟩ := scK_some h15
  obtain ⟨x2, rfl, h18⟩ := cI_some h17
  obtain ⟨rfl, h19⟩ := endL_some h18
  have hq := Eq.mp (F63_0_eq D J p0 x1 x2 S K) h19
  exact execK_runs hD.typed Ir_zero Ir_mixed hJ X63_0 (T63 0).1 (envOf (T63 0).2 _) S K (chk_of (by kernel_rfl) (by kernel_rfl)) hq
noncomputable abbrev A63_2 (D J : Disp) (vals : List AV) (S : St) (K : AV → St → Prop) : Prop :=
  uncA vals fun a9001 r9002 => scK a9001 fun s9004 => SV.cP s9004 fun p0 => uncA r9002 fun a9007 r9008 => scK a9007 fun s9010 => SV.cI IntKind.i64 s9010 fun x1 => uncA r9008 fun a9013 r9014 => scK a9013 fun s9016 => SV.cI IntKind.i64 s9016 fun x2 => uncA r9014 fun a9019 r9020 => scK a9019 fun s9022 => SV.cB s9022 fun c22 => endL r9020 <| F63_2 D J p0 x1 x2 c22 S K
theorem A63_2_ok {D J : Disp} (hD : DOK IrP IrG D) (hJ : JOK IrP IrG Go.Proofs.Try.f63 T63 J) {vals : List AV} {S : St} {K : AV → St → Prop} (h0 : A63_2 D J vals S K) : Runs IrP IrG Go.Proofs.Try.f63 (T63 2).1 (envOf (T63 2).2 vals) S K := by
  obtain ⟨a9001, r9002, rfl, h3⟩ := uncA_some h0
  obtain ⟨s9004, rfl, h5⟩ := scK_some h3
  obtain ⟨p0, rfl, h6⟩ := cP_some h5
  obtain ⟨a9007, r9008, rfl, h9⟩ := uncA_some h6
  obtain ⟨s9010, rfl, h11⟩ := scK_some h9
  obtain ⟨x1, rfl, h12⟩ := cI_some h11
  obtain ⟨a9013, r9014, rfl, h15⟩ := uncA_some h12
  obtain ⟨s9016, rfl, h17⟩ := scK_some h15
  obtain ⟨x2, rfl, h18⟩ := cI_some h17
  obtain ⟨a9019, r9020, rfl, h21⟩ := uncA_some h18
  obtain ⟨s9022, rfl, h23⟩ := scK_some h21
  obtain ⟨c22, rfl, h24⟩ := cB_some h23
  obtain ⟨rfl, h25⟩ := endL_some h24
  have hq := Eq.mp (F63_2_eq D J p0 x1 x2 c22 S K) h25
  exact execK_runs hD.typed Ir_zero Ir_mixed hJ X63_2 (T63 2).1 (envOf (T63 2).2 _) S K (chk_of (by kernel_rfl) (by kernel_rfl)) hq
noncomputable abbrev A63_7 (D J : Disp) (vals : List AV) (S : St) (K : AV → St → Prop) : Prop :=
  uncA vals fun a9001 r9002 => scK a9001 fun s9004 => SV.cP s9004 fun p0 => uncA r9002 fun a9007 r9008 => scK a9007 fun s9010 => SV.cI IntKind.i64 s9010 fun x1 => uncA r9008 fun a9013 r9014 => scK a9013 fun s9016 => SV.cI IntKind.i64 s9016 fun x2 => uncA r9014 fun a9019 r9020 => scK a9019 fun s9022 => SV.cL s9022 fun l37 => uncA r9020 fun a9025 r9026 => scK a9025 fun s9028 => SV.cI IntKind.i64 s9028 fun x38 => uncA r9026 fun a9031 r9032 => scK a9031 fun s9034 => SV.cI IntKind.i64 s9034 fun x39 => endL r9032 <| F63_7 D J p0 x1 x2 l37 x38 x39 S K
theorem A63_7_ok {D J : Disp} (hD : DOK IrP IrG D) (hJ : JOK IrP IrG Go.Proofs.Try.f63 T63 J) {vals : List AV} {S : St} {K : AV → St → Prop} (h0 : A63_7 D J vals S K) : Runs IrP IrG Go.Proofs.Try.f63 (T63 7).1 (envOf (T63 7).2 vals) S K := by
  obtain ⟨a9001, r9002, rfl, h3⟩ := uncA_some h0
  obtain ⟨s9004, rfl, h5⟩ := scK_some h3
  obtain ⟨p0, rfl, h6⟩ := cP_some h5
  obtain ⟨a9007, r9008, rfl, h9⟩ := uncA_some h6
  obtain ⟨s9010, rfl, h11⟩ := scK_some h9
  obtain ⟨x1, rfl, h12⟩ := cI_some h11
  obtain ⟨a9013, r9014, rfl, h15⟩ := uncA_some h12
  obtain ⟨s9016, rfl, h17⟩ := scK_some h15
  obtain ⟨x2, rfl, h18⟩ := cI_some h17
  obtain ⟨a9019, r9020, rfl, h21⟩ := uncA_some h18
  obtain ⟨s9022, rfl, h23⟩ := scK_some h21
  obtain ⟨l37, rfl, h24⟩ := cL_some h23
  obtain ⟨a9025, r9026, rfl, h27⟩ := uncA_some h24
  obtain ⟨s9028, rfl, h29⟩ := scK_some h27
  obtain ⟨x38, rfl, h30⟩ := cI_some h29
  obtain ⟨a9031, r9032, rfl, h33⟩ := uncA_some h30
  obtain ⟨s9034, rfl, h35⟩ := scK_some h33
  obtain ⟨x39, rfl, h36⟩ := cI_some h35
  obtain ⟨rfl, h37⟩ := endL_some h36
  have hq := Eq.mp (F63_7_eq D J p0 x1 x2 l37 x38 x39 S K) h37
  exact execK_runs hD.typed Ir_zero Ir_mixed hJ X63_7 (T63 7).1 (envOf (T63 7).2 _) S K (chk_of (by kernel_rfl) (by kernel_rfl)) hq
noncomputable abbrev A63_11 (D J : Disp) (vals : List AV) (S : St) (K : AV → St → Prop) : Prop :=
  uncA vals fun a9001 r9002 => scK a9001 fun s9004 => SV.cP s9004 fun p0 => uncA r9002 fun a9007 r9008 => scK a9007 fun s9010 => SV.cI IntKind.i64 s9010 fun x1 => uncA r9008 fun a9013 r9014 => scK a9013 fun s9016 => SV.cI IntKind.i64 s9016 fun x2 => uncA r9014 fun a9019 r9020 => scK a9019 fun s9022 => SV.cL s9022 fun l37 => uncA r9020 fun a9025 r9026 => scK a9025 fun s9028 => SV.cI IntKind.i64 s9028 fun x38 => uncA r9026 fun a9031 r9032 => scK a9031 fun s9034 => SV.cI IntKind.i64 s9034 fun x39 => uncA r9032 fun a9037 r9038 => scK a9037 fun s9040 => SV.cB s9040 fun c63 => endL r9038 <| F63_11 D J p0 x1 x2 l37 x38 x39 c63 S K
theorem A63_11_ok {D J : Disp} (hD : DOK IrP IrG D) (hJ : JOK IrP IrG Go.Proofs.Try.f63 T63 J) {vals : List AV} {S : St} {K : AV → St → Prop} (h0 : A63_11 D J vals S K) : Runs IrP IrG Go.Proofs.Try.f63 (T63 11).1 (envOf (T63 11).2 vals) S K := by
  obtain ⟨a9001, r9002, rfl, h3⟩ := uncA_some h0
  obtain ⟨s9004, rfl, h5⟩ := scK_some h3
  obtain ⟨p0, rfl, h6⟩ := cP_some h5
  obtain ⟨a9007, r9008, rfl, h9⟩ := uncA_some h6
  obtain ⟨s9010, rfl, h11⟩ := scK_some h9
  obtain ⟨x1, rfl, h12⟩ := cI_some h11
  obtain ⟨a9013, r9014, rfl, h15⟩ := uncA_some h12
  obtain ⟨s9016, rfl, h17⟩ := scK_some h15
  obtain ⟨x2, rfl, h18⟩ := cI_some h17
  obtain ⟨a9019, r9020, rfl, h21⟩ := uncA_some h18
  obtain ⟨s9022, rfl, h23⟩ := scK_some h21
  obtain ⟨l37, rfl, h24⟩ := cL_some h23
  obtain ⟨a9025, r9026, rfl, h27⟩ := uncA_some h24
  obtain ⟨s9028, rfl, h29⟩ := scK_some h27
  obtain ⟨x38, rfl, h30⟩ := cI_some h29
  obtain ⟨a9031, r9032, rfl, h33⟩ := uncA_some h30
  obtain ⟨s9034, rfl, h35⟩ := scK_some h33
  obtain ⟨x39, rfl, h36⟩ := cI_some h35
  obtain ⟨a9037, r9038, rfl, h39⟩ := uncA_some h36
  obtain ⟨s9040, rfl, h41⟩ := scK_some h39
  obtain ⟨c63, rfl, h42⟩ := cB_some h41
  obtain ⟨rfl, h43⟩ := endL_some h42
  have hq := Eq.mp (F63_11_eq D J p0 x1 x2 l37 x38 x39 c63 S K) h43
  exact execK_runs hD.typed Ir_zero Ir_mixed hJ X63_11 (T63 11).1 (envOf (T63 11).2 _) S K (chk_of (by kernel_rfl) (by kernel_rfl)) hq
noncomputable def J63 (D : Disp) (k : Nat) : Disp := Nat.rec (motive := fun _ => Disp) Disp.no (fun _ ih => Disp.add 0 (A63_0 D ih) <| Disp.add 2 (A63_2 D ih) <| Disp.add 7 (A63_7 D ih) <| Disp.add 11 (A63_11 D ih) <| Disp.no) k
theorem J63_ok {D : Disp} (hD : DOK IrP IrG D) : ∀ k, JOK IrP IrG Go.Proofs.Try.f63 T63 (J63 D k)
  | 0 => JOK.no
  | k + 1 => JOK.add (ltB_ok (by kernel_rfl)) (fun vals S K h => A63_0_ok hD (J63_ok hD k) h) <| JOK.add (ltB_ok (by kernel_rfl)) (fun vals S K h => A63_2_ok hD (J63_ok hD k) h) <| JOK.add (ltB_ok (by kernel_rfl)) (fun vals S K h => A63_7_ok hD (J63_ok hD k) h) <| JOK.add (ltB_ok (by kernel_rfl)) (fun vals S K h => A63_11_ok hD (J63_ok hD k) h) <| JOK.no
theorem E63_ok {D : Disp} (hD : DOK IrP IrG D) (k : Nat) {args : List AV} {S : St} {K : AV → St → Prop} (h : A63_0 D (J63 D k) args S K) : CallE IrP IrG 63 args S K := by
  have hr := A63_0_ok hD (J63_ok hD k) h
  have hl : args.length = 3 := by
    have h0 := h
    obtain ⟨a9001, r9002, rfl, h3⟩ := uncA_some h0
    obtain ⟨s9004, rfl, h5⟩ := scK_some h3
    obtain ⟨p0, rfl, h6⟩ := cP_some h5
    obtain ⟨a9007, r9008, rfl, h9⟩ := uncA_some h6
    obtain ⟨s9010, rfl, h11⟩ := scK_some h9
    obtain ⟨x1, rfl, h12⟩ := cI_some h11
    obtain ⟨a9013, r9014, rfl, h15⟩ := uncA_some h12
    obtain ⟨s9016, rfl, h17⟩ := scK_some h15
    obtain ⟨x2, rfl, h18⟩ := cI_some h17
    obtain ⟨rfl, h19⟩ := endL_some h18
    rfl
  refine callOK_of (fn := Go.Proofs.Try.f63) (c := (match Go.Proofs.Try.f63.body with | some c => c | none => .skip)) (by kernel_rfl) (by kernel_rfl) (by kernel_rfl) (by rw [hl]; kernel_rfl) (by kernel_rfl) ?_
  rw [hl]
  exact hr
noncomputable def plans64 (i : Nat) : Plan := []
noncomputable def T64 (p : Nat) : List Item × List Nat := bif Nat.beq p 0 then ([.code (match Go.Proofs.Try.f64.body with | some c => c | none => .skip)], [0, 1]) else
  bif Nat.beq p 3 then (navs [.op, .op, .op] [.code (match Go.Proofs.Try.f64.body with | some c => c | none => .skip)], [3, 5, 8, 9, 10]) else
  ([], [])
noncomputable def F64_0 (D J : Disp) (l0 : LV) (x1_0 : Int) (c1_1 : Bool) (S : St) (K : AV → St → Prop) : Prop :=
 letK (α := St) ((St.add S (AO.cells [(SV.int IntKind.i64 x1_0), (SV.bool c1_1)] (Op2.ty 23)))) fun S300 =>
 letK (α := Int) ((Int.ofNat (LV.len l0))) fun x301 =>
 J 3 [(AV.one (V1.s (SV.ptr (PV.mk (Bk.new (St.next S)) 0)))), (AV.one (V1.s (SV.int IntKind.u64 (0 : Int)))), (AV.one (V1.s (SV.sl l0))), (AV.one (V1.s (SV.int IntKind.i64 x301))), (AV.one (V1.s (SV.int IntKind.i64 (0 : Int))))] S300 K
noncomputable def X64_0 : X := (.op (.op (.op (.jmp 3 [3, 5, 8, 9, 10]))))
theorem F64_0_eq (D J : Disp) (l0 : LV) (x1_0 : Int) (c1_1 : Bool) (S : St) (K : AV → St → Prop) : F64_0 D J l0 x1_0 c1_1 S K = execK IrP IrG Go.Proofs.Try.f64 (typed IrP D) J plans64 X64_0 (T64 0).1 (envOf (T64 0).2 [(AV.one (V1.s (SV.sl l0))), (AV.one (V1.agg [(SV.int IntKind.i64 x1_0), (SV.bool c1_1)]))]) S K := by kernel_rfl
noncomputable def F64_q2 (D J : Disp) (S : St) (p3 : PV) (x5 : Int) (l8 : LV) (x9 : Int) (x10 : Int) (x313 : Int) (K : AV → St → Prop) : Prop :=
 letK (α := Int) ((iwrap IntKind.i64 ((8 : Int) * x10))) fun x314 =>
 req (ile (0 : Int) x314) <|
 letK (α := Int) ((shlI IntKind.u64 x313 x314)) fun x315 =>
 letK (α := Int) ((ior IntKind.u64 x5 x315)) fun x316 =>
 letK (α := Int) ((iwrap IntKind.i64 (x10 + (1 : Int)))) fun x317 =>
 J 3 [(AV.one (V1.s (SV.ptr p3))), (AV.one (V1.s (SV.int IntKind.u64 x316))), (AV.one (V1.s (SV.sl l8))), (AV.one (V1.s (SV.int IntKind.i64 x9))), (AV.one (V1.s (SV.int IntKind.i64 x317)))] S K
noncomputable def F64_q3 (D J : Disp) (S : St) (p3 : PV) (x5 : Int) (K : AV → St → Prop) : Prop :=
 PV.cs p3 fun b323 n324 =>
 St.at S b323 n324 fun y325 =>
 uncK y325 fun v326 y327 =>
 SV.cI IntKind.i64 v326 fun x331 =>
 uncK y327 fun v332 y333 =>
 SV.cB v332 fun y335 =>
 letK (α := Int) ((iwrap IntKind.i64 x5)) fun x336 =>
 D 62 [(AV.one (V1.agg [(SV.int IntKind.i64 x331), (SV.bool y335)])), (AV.one (V1.s (SV.int IntKind.i64 x336)))] S fun v337 S338 =>
 scK v337 fun v340 =>
 SV.cI IntKind.i64 v340 fun x343 =>
 K ((AV.one (V1.s (SV.int IntKind.i64 x343)))) S338
noncomputable def F64_3 (D J : Disp) (p3 : PV) (x5 : Int) (l8 : LV) (x9 : Int) (x10 : Int) (S : St) (K : AV → St → Prop) : Prop :=
 letK (α := Bool) ((ilt x10 x9)) fun c300 =>
 ifK c300
 (LV.cs l8 fun b301 n302 n303 y304 =>
 req (Bool.and (ile (0 : Int) x10) (ilt x10 (Int.ofNat n303))) <|
 letK (α := Nat) ((n302 + ((Int.toNat x10) * 1))) fun n305 =>
 St.at S b301 n305 fun y306 =>
 uncK y306 fun v307 y308 =>
 SV.cI IntKind.u8 v307 fun x312 =>
 letK (α := Int) ((iwrap IntKind.u64 x312)) fun x313 =>
 F64_q2 D J S p3 x5 l8 x9 x10 x313 K)
 (F64_q3 D J S p3 x5 K)
noncomputable def X64_3 : X := (.op (.br (.op (.op (.op (.jmp 3 [3, 5, 8, 9, 10])))) (.op .ret)))
theorem F64_3_eq (D J : Disp) (p3 : PV) (x5 : Int) (l8 : LV) (x9 : Int) (x10 : Int) (S : St) (K : AV → St → Prop) : F64_3 D J p3 x5 l8 x9 x10 S K = execK IrP IrG Go.Proofs.Try.f64 (typed IrP D) J plans64 X64_3 (T64 3).1 (envOf (T64 3).2 [(AV.one (V1.s (SV.ptr p3))), (AV.one (V1.s (SV.int IntKind.u64 x5))), (AV.one (V1.s (SV.sl l8))), (AV.one (V1.s (SV.int IntKind.i64 x9))), (AV.one (V1.s (SV.int IntKind.i64 x10)))]) S K := by kernel_rfl
noncomputable abbrev A64_0 (D J : Disp) (vals : List AV) (S : St) (K : AV → St → Prop) : Prop :=
  uncA vals fun a9001 r9002 => scK a9001 fun s9004 => SV.cL s9004 fun l0 => uncA r9002 fun a9007 r9008 => avA a9007 fun l9010 => uncK l9010 fun s9012 r9013 => SV.cI IntKind.i64 s9012 fun x1_0 => uncK r9013 fun s9016 r9017 => SV.cB s9016 fun c1_1 => endL r9017 <| endL r9008 <| F64_0 D J l0 x1_0 c1_1 S K
theorem A64_0_ok {D J : Disp} (hD : DOK IrP IrG D) (hJ : JOK IrP IrG Go.Proofs.Try.f64 T64 J) {vals : List AV} {S : St} {K : AV → St → Prop} (h0 : A64_0 D J vals S K) : Runs IrP IrG Go.Proofs.Try.f64 (T64 0).1 (envOf (T64 0).2 vals) S K := by
  obtain ⟨a9001, r9002, rfl, h3⟩ := uncA_some h0
  obtain ⟨s9004, rfl, h5⟩ := scK_some h3
  obtain ⟨l0, rfl, h6⟩ := cL_some h5
  obtain ⟨a9007, r9008, rfl, h9⟩ := uncA_some h6
  obtain ⟨l9010, rfl, h11⟩ := avA_some h9
  obtain ⟨s9012, r9013, rfl, h14⟩ := uncK_some h11
  obtain ⟨x1_0, rfl, h15⟩ := cI_some h14
  obtain ⟨s9016, r9017, rfl, h18⟩ := uncK_some h15
  obtain ⟨c1_1, rfl, h19⟩ := cB_some h18
  obtain ⟨rfl, h20⟩ := endL_some h19
  obtain ⟨rfl, h21⟩ := endL_some h20
  have hq := Eq.mp (F64_0_eq D J l0 x1_0 c1_1 S K) h21
  exact execK_runs hD.typed Ir_zero Ir_mixed hJ X64_0 (T64 0).1 (envOf (T64 0).2 _) S K (chk_of (by kernel_rfl) (by kernel_rfl)) hq
noncomputable abbrev A64_3 (D J : Disp) (vals : List AV) (S : St) (K : AV → St → Prop) : Prop :=
  uncA vals fun a9001 r9002 => scK a9001 fun s9004 => SV.cP s9004 fun p3 => uncA r9002 fun a9007 r9008 => scK a9007 fun s9010 => SV.cI IntKind.u64 s9010 fun x5 => uncA r9008 fun a9013 r9014 => scK a9013 fun s9016 => SV.cL s9016 fun l8 => uncA r9014 fun a9019 r9020 => scK a9019 fun s9022 => SV.cI IntKind.i64 s9022 fun x9 => uncA r9020 fun a9025 r9026 => scK a9025 fun s9028 => SV.cI IntKind.i64 s9028 fun x10 => endL r9026 <| F64_3 D J p3 x5 l8 x9 x10 S K
theorem A64_3_ok {D J : Disp} (hD : DOK IrP IrG D) (hJ : JOK IrP IrG Go.Proofs.Try.f64 T64 J) {vals : List AV} {S : St} {K : AV → St → Prop} (h0 : A64_3 D J vals S K) : Runs IrP IrG Go.Proofs.Try.f64 (T64 3).1 (envOf (T64 3).2 vals) S K := by
  obtain ⟨a9001, r9002, rfl, h3⟩ := uncA_some h0
  obtain ⟨s9004, rfl, h5⟩ := scK_some h3
  obtain ⟨p3, rfl, h6⟩ := cP_some h5
  obtain ⟨a9007, r9008, rfl, h9⟩ := uncA_some h6
  obtain ⟨s9010, rfl, h11⟩ := scK_some h9
  obtain ⟨x5, rfl, h12⟩ := cI_some h11
  obtain ⟨a9013, r9014, rfl, h15⟩ := uncA_some h12
  obtain ⟨s9016, rfl, h17⟩ := scK_some h15
  obtain ⟨l8, rfl, h18⟩ := cL_some h17
  obtain ⟨a9019, r9020, rfl, h21⟩ := uncA_some h18
  obtain ⟨s9022, rfl, h23⟩ := scK_some h21
  obtain ⟨x9, rfl, h24⟩ := cI_some h23
  obtain ⟨a9025, r9026, rfl, h27⟩ := uncA_some h24
  obtain ⟨s9028, rfl, h29⟩ := scK_some h27
  obtain ⟨x10, rfl, h30⟩ := cI_some h29
  obtain ⟨rfl, h31⟩ := endL_some h30
  have hq := Eq.mp (F64_3_eq D J p3 x5 l8 x9 x10 S K) h31
  exact execK_runs hD.typed Ir_zero Ir_mixed hJ X64_3 (T64 3).1 (envOf (T64 3).2 _) S K (chk_of (by kernel_rfl) (by kernel_rfl)) hq
noncomputable def J64 (D : Disp) (k : Nat) : Disp := Nat.rec (motive := fun _ => Disp) Disp.no (fun _ ih => Disp.add 0 (A64_0 D ih) <| Disp.add 3 (A64_3 D ih) <| Disp.no) k
theorem J64_ok {D : Disp} (hD : DOK IrP IrG D) : ∀ k, JOK IrP IrG Go.Proofs.Try.f64 T64 (J64 D k)
  | 0 => JOK.no
  | k + 1 => JOK.add (ltB_ok (by kernel_rfl)) (fun vals S K h => A64_0_ok hD (J64_ok hD k) h) <| JOK.add (ltB_ok (by kernel_rfl)) (fun vals S K h => A64_3_ok hD (J64_ok hD k) h) <| JOK.no
theorem E64_ok {D : Disp} (hD : DOK IrP IrG D) (k : Nat) {args : List AV} {S : St} {K : AV → St → Prop} (h : A64_0 D (J64 D k) args S K) : CallE IrP IrG 64 args S K := by
  have hr := A64_0_ok hD (J64_ok hD k) h
  have hl : args.length = 2 := by
    have h0 := h
    obtain ⟨a9001, r9002, rfl, h3⟩ := uncA_some h0
    obtain ⟨s9004, rfl, h5⟩ := scK_some h3
    obtain ⟨l0, rfl, h6⟩ := cL_some h5
    obtain ⟨a9007, r9008, rfl, h9⟩ := uncA_some h6
    obtain ⟨l9010, rfl, h11⟩ := avA_some h9
    obtain ⟨s9012, r9013, rfl, h14⟩ := uncK_some h11
    obtain ⟨x1_0, rfl, h15⟩ := cI_some h14
    obtain ⟨s9016, r9017, rfl, h18⟩ := uncK_some h15
    obtain ⟨c1_1, rfl, h19⟩ := cB_some h18
    obtain ⟨rfl, h20⟩ := endL_some h19
    obtain ⟨rfl, h21⟩ := endL_some h20
    rfl
  refine callOK_of (fn := Go.Proofs.Try.f64) (c := (match Go.Proofs.Try.f64.body with | some c => c | none => .skip)) (by kernel_rfl) (by kernel_rfl) (by kernel_rfl) (by rw [hl]; kernel_rfl) (by kernel_rfl) ?_
  rw [hl]
  exact hr
noncomputable def plans65 (i : Nat) : Plan := if Nat.beq i 0 then [(0, []), (1, [0]), (2, [1, 0]), (3, [2, 1, 0]), (4, []), (5, [4]), (6, [5, 4]), (7, [6, 5, 4]), (8, [7, 6, 5, 4]), (9, [8, 7, 6, 5, 4]), (10, [3, 9, 2, 8, 1, 7, 0, 6, 5, 4]), (11, [10, 3, 9, 2, 8, 1, 7, 0, 6, 5, 4]), (12, []), (13, [12, 11, 0, 1, 2, 3, 4, 5, 6, 7, 8, 9, 10])] else if Nat.beq i 1 then [(0, []), (1, []), (2, [1]), (3, [2, 1]), (4, [3, 2, 1]), (5, []), (6, [5]), (7, [6, 5]), (8, [7, 6, 5]), (9, [8, 7, 6, 5]), (10, [9, 8, 7, 6, 5]), (11, [4, 10, 3, 9, 2, 8, 1, 7, 6, 5]), (12, [0, 1, 2, 3, 4, 5, 6, 7, 8, 9, 10, 11]), (13, [12, 0, 1, 2, 3, 4, 5, 6, 7, 8, 9, 10, 11]), (14, [13, 11, 0, 1, 2, 3, 4, 5, 6, 7, 8, 9, 10, 12])] else if Nat.beq i 6 then [(0, []), (1, [0]), (2, [1, 0]), (3, [2, 1, 0]), (4, []), (5, [4]), (6, [5, 4]), (7, [6, 5, 4]), (8, [7, 6, 5, 4]), (9, [8, 7, 6, 5, 4]), (10, [3, 9, 2, 8, 1, 7, 0, 6, 5, 4]), (11, [10, 3, 9, 2, 8, 1, 7, 0, 6, 5, 4]), (12, [11, 10, 3, 9, 2, 8, 1, 7, 0, 6, 5, 4]), (13, []), (14, [13]), (15, []), (16, [12, 14, 0, 1, 2, 3, 4, 5, 6, 7, 8, 9, 10, 11, 13, 15]), (17, [16, 15, 0, 1, 2, 3, 4, 5, 6, 7, 8, 9, 10, 11, 12, 13, 14])] else []
noncomputable def T65 (p : Nat) : List Item × List Nat := bif Nat.beq p 0 then ([.code (match Go.Proofs.Try.f65.body with | some c => c | none => .skip)], [0, 1]) else
  ([], [])
noncomputable def F65_q0 (D J : Disp) (S : St) (x1 : Int) (S418 : St) (b477 : Bk) (n482 : Nat) (K : AV → St → Prop) : Prop :=
 St.at S418 b477 n482 fun y483 =>
 uncK y483 fun v484 y485 =>
 SV.cL v484 fun y492 =>
 St.at S418 (Bk.new (St.next S)) 4 fun y493 =>
 uncK y493 fun v494 y495 =>
 SV.cI IntKind.i64 v494 fun x499 =>
 LV.cs y492 fun b500 n501 n502 y503 =>
 req (Bool.and (ile (0 : Int) x499) (ilt x499 (Int.ofNat n502))) <|
 letK (α := Nat) ((n501 + ((Int.toNat x499) * 1))) fun n504 =>
 St.wr S418 b500 n504 [(SV.int IntKind.i64 x1)] fun S505 =>
 K ((AV.tup [])) S505
noncomputable def F65_q1 (D J : Disp) (S : St) (x1 : Int) (S418 : St) (y461 : LV) (b462 : Bk) (n463 : Nat) (K : AV → St → Prop) : Prop :=
 letK (α := Nat) ((n463 + 8)) fun n464 =>
 St.at S418 b462 n464 fun y465 =>
 uncK y465 fun v466 y467 =>
 SV.cL v466 fun y474 =>
 letK (α := Int) ((Int.ofNat (LV.len y474))) fun x475 =>
 letK (α := Int) ((iwrap IntKind.i64 (x475 - (1 : Int)))) fun x476 =>
 LV.cs y461 fun b477 n478 n479 y480 =>
 req (Bool.and (ile (0 : Int) x476) (ilt x476 (Int.ofNat n479))) <|
 letK (α := Nat) ((n478 + ((Int.toNat x476) * 6))) fun n481 =>
 letK (α := Nat) ((n481 + 3)) fun n482 =>
 F65_q0 D J S x1 S418 b477 n482 K
noncomputable def F65_q2 (D J : Disp) (S : St) (p0 : PV) (x1 : Int) (S418 : St) (c433 : Bool) (K : AV → St → Prop) : Prop :=
 ifK c433
 (D 42 [(AV.one (V1.s (SV.ptr p0))), (AV.one (V1.s (SV.int IntKind.i64 (1 : Int)))), (AV.one (V1.s (SV.int IntKind.i64 x1)))] S418 fun v434 S435 =>
 avT v434 fun y437 =>
 endL y437 (K ((AV.tup [])) S435))
 (St.at S418 (Bk.new (St.next S)) 4 fun y441 =>
 uncK y441 fun v442 y443 =>
 SV.cI IntKind.i64 v442 fun x447 =>
 letK (α := Bool) ((Bool.not (ieq x447 (Int.negSucc 0)))) fun c448 =>
 ifK c448
 (PV.cs p0 fun b449 n450 =>
 letK (α := Nat) ((n450 + 8)) fun n451 =>
 St.at S418 b449 n451 fun y452 =>
 uncK y452 fun v453 y454 =>
 SV.cL v453 fun y461 =>
 PV.cs p0 fun b462 n463 =>
 F65_q1 D J S x1 S418 y461 b462 n463 K)
 (K ((AV.tup [])) S418))
noncomputable def F65_q3 (D J : Disp) (S : St) (p0 : PV) (x1 : Int) (S407 : St) (K : AV → St → Prop) : Prop :=
 St.at S407 (Bk.new (St.next S)) 5 fun y408 =>
 uncK y408 fun v409 y410 =>
 SV.cI IntKind.i64 v409 fun x414 =>
 PV.cs p0 fun b415 n416 =>
 letK (α := Nat) ((n416 + 7)) fun n417 =>
 St.wr S407 b415 n417 [(SV.int IntKind.i64 x414)] fun S418 =>
 PV.cs p0 fun b419 n420 =>
 letK (α := Nat) ((n420 + 8)) fun n421 =>
 St.at S418 b419 n421 fun y422 =>
 uncK y422 fun v423 y424 =>
 SV.cL v423 fun y431 =>
 letK (α := Int) ((Int.ofNat (LV.len y431))) fun x432 =>
 letK (α := Bool) ((ieq x432 (0 : Int))) fun c433 =>
 F65_q2 D J S p0 x1 S418 c433 K
noncomputable def F65_q4 (D J : Disp) (S : St) (x1 : Int) (S551 : St) (b610 : Bk) (n615 : Nat) (K : AV → St → Prop) : Prop :=
 St.at S551 b610 n615 fun y616 =>
 uncK y616 fun v617 y618 =>
 SV.cL v617 fun y625 =>
 St.at S551 (Bk.new (St.next S)) 4 fun y626 =>
 uncK y626 fun v627 y628 =>
 SV.cI IntKind.i64 v627 fun x632 =>
 LV.cs y625 fun b633 n634 n635 y636 =>
 req (Bool.and (ile (0 : Int) x632) (ilt x632 (Int.ofNat n635))) <|
 letK (α := Nat) ((n634 + ((Int.toNat x632) * 1))) fun n637 =>
 St.wr S551 b633 n637 [(SV.int IntKind.i64 x1)] fun S638 =>
 K ((AV.tup [])) S638
noncomputable def F65_q5 (D J : Disp) (S : St) (x1 : Int) (S551 : St) (y594 : LV) (b595 : Bk) (n596 : Nat) (K : AV → St → Prop) : Prop :=
 letK (α := Nat) ((n596 + 8)) fun n597 =>
 St.at S551 b595 n597 fun y598 =>
 uncK y598 fun v599 y600 =>
 SV.cL v599 fun y607 =>
 letK (α := Int) ((Int.ofNat (LV.len y607))) fun x608 =>
 letK (α := Int) ((iwrap IntKind.i64 (x608 - (1 : Int)))) fun x609 =>
 LV.cs y594 fun b610 n611 n612 y613 =>
 req (Bool.and (ile (0 : Int) x609) (ilt x609 (Int.ofNat n612))) <|
 letK (α := Nat) ((n611 + ((Int.toNat x609) * 6))) fun n614 =>
 letK (α := Nat) ((n614 + 3)) fun n615 =>
 F65_q4 D J S x1 S551 b610 n615 K
noncomputable def F65_q6 (D J : Disp) (S : St) (p0 : PV) (x1 : Int) (S551 : St) (c566 : Bool) (K : AV → St → Prop) : Prop :=
 ifK c566
 (D 42 [(AV.one (V1.s (SV.ptr p0))), (AV.one (V1.s (SV.int IntKind.i64 (1 : Int)))), (AV.one (V1.s (SV.int IntKind.i64 x1)))] S551 fun v567 S568 =>
 avT v567 fun y570 =>
 endL y570 (K ((AV.tup [])) S568))
 (St.at S551 (Bk.new (St.next S)) 4 fun y574 =>
 uncK y574 fun v575 y576 =>
 SV.cI IntKind.i64 v575 fun x580 =>
 letK (α := Bool) ((Bool.not (ieq x580 (Int.negSucc 0)))) fun c581 =>
 ifK c581
 (PV.cs p0 fun b582 n583 =>
 letK (α := Nat) ((n583 + 8)) fun n584 =>
 St.at S551 b582 n584 fun y585 =>
 uncK y585 fun v586 y587 =>
 SV.cL v586 fun y594 =>
 PV.cs p0 fun b595 n596 =>
 F65_q5 D J S x1 S551 y594 b595 n596 K)
 (K ((AV.tup [])) S551))
noncomputable def F65_q7 (D J : Disp) (S : St) (p0 : PV) (x1 : Int) (S540 : St) (K : AV → St → Prop) : Prop :=
 St.at S540 (Bk.new (St.next S)) 5 fun y541 =>
 uncK y541 fun v542 y543 =>
 SV.cI IntKind.i64 v542 fun x547 =>
 PV.cs p0 fun b548 n549 =>
 letK (α := Nat) ((n549 + 7)) fun n550 =>
 St.wr S540 b548 n550 [(SV.int IntKind.i64 x547)] fun S551 =>
 PV.cs p0 fun b552 n553 =>
 letK (α := Nat) ((n553 + 8)) fun n554 =>
 St.at S551 b552 n554 fun y555 =>
 uncK y555 fun v556 y557 =>
 SV.cL v556 fun y564 =>
 letK (α := Int) ((Int.ofNat (LV.len y564))) fun x565 =>
 letK (α := Bool) ((ieq x565 (0 : Int))) fun c566 =>
 F65_q6 D J S p0 x1 S551 c566 K
noncomputable def F65_q8 (D J : Disp) (S : St) (x1 : Int) (S680 : St) (b739 : Bk) (n744 : Nat) (K : AV → St → Prop) : Prop :=
 St.at S680 b739 n744 fun y745 =>
 uncK y745 fun v746 y747 =>
 SV.cL v746 fun y754 =>
 St.at S680 (Bk.new (St.next S)) 4 fun y755 =>
 uncK y755 fun v756 y757 =>
 SV.cI IntKind.i64 v756 fun x761 =>
 LV.cs y754 fun b762 n763 n764 y765 =>
 req (Bool.and (ile (0 : Int) x761) (ilt x761 (Int.ofNat n764))) <|
 letK (α := Nat) ((n763 + ((Int.toNat x761) * 1))) fun n766 =>
 St.wr S680 b762 n766 [(SV.int IntKind.i64 x1)] fun S767 =>
 K ((AV.tup [])) S767
noncomputable def F65_q9 (D J : Disp) (S : St) (x1 : Int) (S680 : St) (y723 : LV) (b724 : Bk) (n725 : Nat) (K : AV → St → Prop) : Prop :=
 letK (α := Nat) ((n725 + 8)) fun n726 =>
 St.at S680 b724 n726 fun y727 =>
 uncK y727 fun v728 y729 =>
 SV.cL v728 fun y736 =>
 letK (α := Int) ((Int.ofNat (LV.len y736))) fun x737 =>
 letK (α := Int) ((iwrap IntKind.i64 (x737 - (1 : Int)))) fun x738 =>
 LV.cs y723 fun b739 n740 n741 y742 =>
 req (Bool.and (ile (0 : Int) x738) (ilt x738 (Int.ofNat n741))) <|
 letK (α := Nat) ((n740 + ((Int.toNat x738) * 6))) fun n743 =>
 letK (α := Nat) ((n743 + 3)) fun n744 =>
 F65_q8 D J S x1 S680 b739 n744 K
noncomputable def F65_q10 (D J : Disp) (S : St) (p0 : PV) (x1 : Int) (S680 : St) (c695 : Bool) (K : AV → St → Prop) : Prop :=
 ifK c695
 (D 42 [(AV.one (V1.s (SV.ptr p0))), (AV.one (V1.s (SV.int IntKind.i64 (1 : Int)))), (AV.one (V1.s (SV.int IntKind.i64 x1)))] S680 fun v696 S697 =>
 avT v696 fun y699 =>
 endL y699 (K ((AV.tup [])) S697))
 (St.at S680 (Bk.new (St.next S)) 4 fun y703 =>
 uncK y703 fun v704 y705 =>
 SV.cI IntKind.i64 v704 fun x709 =>
 letK (α := Bool) ((Bool.not (ieq x709 (Int.negSucc 0)))) fun c710 =>
 ifK c710
 (PV.cs p0 fun b711 n712 =>
 letK (α := Nat) ((n712 + 8)) fun n713 =>
 St.at S680 b711 n713 fun y714 =>
 uncK y714 fun v715 y716 =>
 SV.cL v715 fun y723 =>
 PV.cs p0 fun b724 n725 =>
 F65_q9 D J S x1 S680 y723 b724 n725 K)
 (K ((AV.tup [])) S680))
noncomputable def F65_q11 (D J : Disp) (S : St) (p0 : PV) (x1 : Int) (S669 : St) (K : AV → St → Prop) : Prop :=
 St.at S669 (Bk.new (St.next S)) 5 fun y670 =>
 uncK y670 fun v671 y672 =>
 SV.cI IntKind.i64 v671 fun x676 =>
 PV.cs p0 fun b677 n678 =>
 letK (α := Nat) ((n678 + 7)) fun n679 =>
 St.wr S669 b677 n679 [(SV.int IntKind.i64 x676)] fun S680 =>
 PV.cs p0 fun b681 n682 =>
 letK (α := Nat) ((n682 + 8)) fun n683 =>
 St.at S680 b681 n683 fun y684 =>
 uncK y684 fun v685 y686 =>
 SV.cL v685 fun y693 =>
 letK (α := Int) ((Int.ofNat (LV.len y693))) fun x694 =>
 letK (α := Bool) ((ieq x694 (0 : Int))) fun c695 =>
 F65_q10 D J S p0 x1 S680 c695 K
noncomputable def F65_q12 (D J : Disp) (S : St) (p0 : PV) (x1 : Int) (S375 : St) (y388 : LV) (x403 : Int) (K : AV → St → Prop) : Prop :=
 LV.on y388 (req (Bool.and Bool.true (Bool.and (ile (0 : Int) (oInt (Option.some x403) (0 : Int))) (ile (oInt (Option.some x403) (0 : Int)) (0 : Int)))) <|
 PV.cs p0 fun b404 n405 =>
 letK (α := Nat) ((n405 + 8)) fun n406 =>
 St.wr S375 b404 n406 [(SV.sl LV.nil)] fun S407 =>
 F65_q3 D J S p0 x1 S407 K) fun b529 n530 n531 y532 =>
 sumOn y532 (fun n533 =>
 req (Bool.and Bool.true (Bool.and (ile (0 : Int) (oInt (Option.some x403) (Int.ofNat n531))) (ile (oInt (Option.some x403) (Int.ofNat n531)) (Int.ofNat n533)))) <|
 letK (α := Nat) ((n530 + 0)) fun n534 =>
 letK (α := Nat) (((Int.toNat (oInt (Option.some x403) (Int.ofNat n531))) - 0)) fun n535 =>
 letK (α := (Sum Nat Nat)) ((Sum.inl ((Int.toNat (oInt Option.none (Int.ofNat n533))) - 0))) fun d536 =>
 PV.cs p0 fun b537 n538 =>
 letK (α := Nat) ((n538 + 8)) fun n539 =>
 St.wr S375 b537 n539 [(SV.sl (LV.mk b529 n534 n535 d536))] fun S540 =>
 F65_q7 D J S p0 x1 S540 K) fun y662 =>
 req (Nat.beq 6 y662) <|
 req (Bool.and Bool.true (Bool.and (ile (0 : Int) (oInt (Option.some x403) (Int.ofNat n531))) (ile (oInt (Option.some x403) (Int.ofNat n531)) (Int.ofNat n531)))) <|
 letK (α := Nat) ((n530 + 0)) fun n663 =>
 letK (α := Nat) (((Int.toNat (oInt (Option.some x403) (Int.ofNat n531))) - 0)) fun n664 =>
 letK (α := (Sum Nat Nat)) ((Sum.inr 6)) fun d665 =>
 PV.cs p0 fun b666 n667 =>
 letK (α := Nat) ((n667 + 8)) fun n668 =>
 St.wr S375 b666 n668 [(SV.sl (LV.mk b529 n663 n664 d665))] fun S669 =>
 F65_q11 D J S p0 x1 S669 K
noncomputable def F65_q13 (D J : Disp) (S : St) (p0 : PV) (x1 : Int) (x339 : Int) (x345 : Int) (x351 : Int) (y360 : LV) (x366 : Int) (x372 : Int) (K : AV → St → Prop) : Prop :=
 letK (α := AO) ((AO.cells [(SV.int IntKind.i64 (0 : Int)), (SV.int IntKind.i64 (0 : Int)), (SV.int IntKind.i64 (0 : Int)), (SV.sl LV.nil), (SV.int IntKind.i64 (0 : Int)), (SV.int IntKind.i64 (0 : Int))] (Op2.ty 99))) fun o373 =>
 letK (α := St) ((St.add S o373)) fun S374 =>
 St.wr S374 (Bk.new (St.next S)) 0 [(SV.int IntKind.i64 x339), (SV.int IntKind.i64 x345), (SV.int IntKind.i64 x351), (SV.sl y360), (SV.int IntKind.i64 x366), (SV.int IntKind.i64 x372)] fun S375 =>
 PV.cs p0 fun b376 n377 =>
 letK (α := Nat) ((n377 + 8)) fun n378 =>
 St.at S375 b376 n378 fun y379 =>
 uncK y379 fun v380 y381 =>
 SV.cL v380 fun y388 =>
 PV.cs p0 fun b389 n390 =>
 letK (α := Nat) ((n390 + 8)) fun n391 =>
 St.at S375 b389 n391 fun y392 =>
 uncK y392 fun v393 y394 =>
 SV.cL v393 fun y401 =>
 letK (α := Int) ((Int.ofNat (LV.len y401))) fun x402 =>
 letK (α := Int) ((iwrap IntKind.i64 (x402 - (1 : Int)))) fun x403 =>
 F65_q12 D J S p0 x1 S375 y388 x403 K
noncomputable def F65_q14 (D J : Disp) (S : St) (p0 : PV) (x1 : Int) (b328 : Bk) (n332 : Nat) (K : AV → St → Prop) : Prop :=
 St.at S b328 n332 fun y333 =>
 uncK y333 fun v334 y335 =>
 SV.cI IntKind.i64 v334 fun x339 =>
 uncK y335 fun v340 y341 =>
 SV.cI IntKind.i64 v340 fun x345 =>
 uncK y341 fun v346 y347 =>
 SV.cI IntKind.i64 v346 fun x351 =>
 uncK y347 fun v352 y353 =>
 SV.cL v352 fun y360 =>
 uncK y353 fun v361 y362 =>
 SV.cI IntKind.i64 v361 fun x366 =>
 uncK y362 fun v367 y368 =>
 SV.cI IntKind.i64 v367 fun x372 =>
 F65_q13 D J S p0 x1 x339 x345 x351 y360 x366 x372 K
noncomputable def F65_q15 (D J : Disp) (S : St) (p0 : PV) (x1 : Int) (y312 : LV) (K : AV → St → Prop) : Prop :=
 PV.cs p0 fun b313 n314 =>
 letK (α := Nat) ((n314 + 8)) fun n315 =>
 St.at S b313 n315 fun y316 =>
 uncK y316 fun v317 y318 =>
 SV.cL v317 fun y325 =>
 letK (α := Int) ((Int.ofNat (LV.len y325))) fun x326 =>
 letK (α := Int) ((iwrap IntKind.i64 (x326 - (1 : Int)))) fun x327 =>
 LV.cs y312 fun b328 n329 n330 y331 =>
 req (Bool.and (ile (0 : Int) x327) (ilt x327 (Int.ofNat n330))) <|
 letK (α := Nat) ((n329 + ((Int.toNat x327) * 6))) fun n332 =>
 F65_q14 D J S p0 x1 b328 n332 K
noncomputable def F65_0 (D J : Disp) (p0 : PV) (x1 : Int) (S : St) (K : AV → St → Prop) : Prop :=
 PV.cs p0 fun b300 n301 =>
 letK (α := Nat) ((n301 + 8)) fun n302 =>
 St.at S b300 n302 fun y303 =>
 uncK y303 fun v304 y305 =>
 SV.cL v304 fun y312 =>
 F65_q15 D J S p0 x1 y312 K
noncomputable def X65_0 : X := (.op (.op (.op (.op (.br (.op .ret) (.op (.br (.op .ret) .ret)))))))
theorem F65_0_eq (D J : Disp) (p0 : PV) (x1 : Int) (S : St) (K : AV → St → Prop) : F65_0 D J p0 x1 S K = execK IrP IrG Go.Proofs.Try.f65 (typed IrP D) J plans65 X65_0 (T65 0).1 (envOf (T65 0).2 [(AV.one (V1.s (SV.ptr p0))), (AV.one (V1.s (SV.int IntKind.i64 x1)))]) S K := by kernel_rfl
noncomputable abbrev A65_0 (D J : Disp) (vals : List AV) (S : St) (K : AV → St → Prop) : Prop :=
  uncA vals fun a9001 r9002 => scK a9001 fun s9004 => SV.cP s9004 fun p0 => uncA r9002 fun a9007 r9008 => scK a9007 fun s9010 => SV.cI IntKind.i64 s9010 fun x1 => endL r9008 <| F65_0 D J p0 x1 S K
theorem A65_0_ok {D J : Disp} (hD : DOK IrP IrG D) (hJ : JOK IrP IrG Go.Proofs.Try.f65 T65 J) {vals : List AV} {S : St} {K : AV → St → Prop} (h0 : A65_0 D J vals S K) : Runs IrP IrG Go.Proofs.Try.f65 (T65 0).1 (envOf (T65 0).2 vals) S K := by
  obtain ⟨a9001, r9002, rfl, h3⟩ := uncA_some h0
  obtain ⟨s9004, rfl, h5⟩ := scK_some h3
  obtain ⟨p0, rfl, h6⟩ := cP_some h5
  obtain ⟨a9007, r9008, rfl, h9⟩ := uncA_some h6
  obtain ⟨s9010, rfl, h11⟩ := scK_some h9
  obtain ⟨x1, rfl, h12⟩ := cI_some h11
  obtain ⟨rfl, h13⟩ := endL_some h12
  have hq := Eq.mp (F65_0_eq D J p0 x1 S K) h13
  exact execK_runs hD.typed Ir_zero Ir_mixed hJ X65_0 (T65 0).1 (envOf (T65 0).2 _) S K (chk_of (by kernel_rfl) (by kernel_rfl)) hq
noncomputable def J65 (D : Disp) (k : Nat) : Disp := Nat.rec (motive := fun _ => Disp) Disp.no (fun _ ih => Disp.add 0 (A65_0 D ih) <| Disp.no) k
theorem J65_ok {D : Disp} (hD : DOK IrP IrG D) : ∀ k, JOK IrP IrG Go.Proofs.Try.f65 T65 (J65 D k)
  | 0 => JOK.no
  | k + 1 => JOK.add (ltB_ok (by kernel_rfl)) (fun vals S K h => A65_0_ok hD (J65_ok hD k) h) <| JOK.no
theorem E65_ok {D : Disp} (hD : DOK IrP IrG D) (k : Nat) {args : List AV} {S : St} {K : AV → St → Prop} (h : A65_0 D (J65 D k) args S K) : CallE IrP IrG 65 args S K := by
  have hr := A65_0_ok hD (J65_ok hD k) h
  have hl : args.length = 2 := by
    have h0 := h
    obtain ⟨a9001, r9002, rfl, h3⟩ := uncA_some h0
    obtain ⟨s9004, rfl, h5⟩ := scK_some h3
    obtain ⟨p0, rfl, h6⟩ := cP_some h5
    obtain ⟨a9007, r9008, rfl, h9⟩ := uncA_some h6
    obtain ⟨s9010, rfl, h11⟩ := scK_some h9
    obtain ⟨x1, rfl, h12⟩ := cI_some h11
    obtain ⟨rfl, h13⟩ := endL_some h12
    rfl
  refine callOK_of (fn := Go.Proofs.Try.f65) (c := (match Go.Proofs.Try.f65.body with | some c => c | none => .skip)) (by kernel_rfl) (by kernel_rfl) (by kernel_rfl) (by rw [hl]; kernel_rfl) (by kernel_rfl) ?_
  rw [hl]
  exact hr
noncomputable def plans66 (i : Nat) : Plan := if Nat.beq i 6 then [(0, []), (1, [0]), (2, []), (3, []), (4, [3]), (5, [2, 4, 3]), (6, [5, 2, 4, 3]), (7, [1, 6, 0, 5, 2, 4, 3]), (8, [7, 0, 1, 2, 3, 4, 5, 6])] else []
noncomputable def T66 (p : Nat) : List Item × List Nat := bif Nat.beq p 0 then ([.code (match Go.Proofs.Try.f66.body with | some c => c | none => .skip)], [0, 1]) else
  ([], [])
noncomputable def F66_q0 (D J : Disp) (S : St) (l1 : LV) (S300 : St) (K : AV → St → Prop) : Prop :=
 St.at S300 (Bk.new (St.next S)) 3 fun y309 =>
 uncK y309 fun v310 y311 =>
 SV.cI IntKind.i64 v310 fun x315 =>
 LV.cs l1 fun b316 n317 n318 y319 =>
 req (Bool.and (ile (0 : Int) x315) (ilt x315 (Int.ofNat n318))) <|
 letK (α := Nat) ((n317 + ((Int.toNat x315) * 1))) fun n320 =>
 St.at S300 b316 n320 fun y321 =>
 uncK y321 fun v322 y323 =>
 SV.cI IntKind.i64 v322 fun x327 =>
 letK (α := Bool) ((ieq x327 (0 : Int))) fun c328 =>
 ifK c328
 (K ((AV.one (V1.s (SV.int IntKind.i64 (1 : Int))))) S300)
 (K ((AV.one (V1.s (SV.int IntKind.i64 (0 : Int))))) S300)
noncomputable def F66_q1 (D J : Disp) (S : St) (S300 : St) (y349 : LV) (x368 : Int) (K : AV → St → Prop) : Prop :=
 D 76 [(AV.one (V1.s (SV.sl y349))), (AV.one (V1.s (SV.int IntKind.i64 x368)))] S300 fun v369 S370 =>
 scK v369 fun v372 =>
 SV.cI IntKind.i64 v372 fun x375 =>
 letK (α := Bool) ((ile (0 : Int) x375)) fun c376 =>
 ifK c376
 (K ((AV.one (V1.s (SV.int IntKind.i64 x375)))) S370)
 (St.at S370 (Bk.new (St.next S)) 10 fun y377 =>
 uncK y377 fun v378 y379 =>
 SV.cL v378 fun y386 =>
 letK (α := Int) ((Int.ofNat (LV.len y386))) fun x387 =>
 K ((AV.one (V1.s (SV.int IntKind.i64 x387)))) S370)
noncomputable def F66_q2 (D J : Disp) (S : St) (l1 : LV) (S300 : St) (K : AV → St → Prop) : Prop :=
 St.at S300 (Bk.new (St.next S)) 10 fun y340 =>
 uncK y340 fun v341 y342 =>
 SV.cL v341 fun y349 =>
 St.at S300 (Bk.new (St.next S)) 3 fun y350 =>
 uncK y350 fun v351 y352 =>
 SV.cI IntKind.i64 v351 fun x356 =>
 LV.cs l1 fun b357 n358 n359 y360 =>
 req (Bool.and (ile (0 : Int) x356) (ilt x356 (Int.ofNat n359))) <|
 letK (α := Nat) ((n358 + ((Int.toNat x356) * 1))) fun n361 =>
 St.at S300 b357 n361 fun y362 =>
 uncK y362 fun v363 y364 =>
 SV.cI IntKind.i64 v363 fun x368 =>
 F66_q1 D J S S300 y349 x368 K
noncomputable def F66_0 (D J : Disp) (x0_0 : Int) (x0_1 : Int) (x0_2 : Int) (x0_3 : Int) (x0_4 : Int) (x0_5 : Int) (x0_6 : Int) (c0_7 : Bool) (l0_8 : LV) (l0_9 : LV) (l0_10 : LV) (l1 : LV) (S : St) (K : AV → St → Prop) : Prop :=
 letK (α := St) ((St.add S (AO.cells [(SV.int IntKind.i64 x0_0), (SV.int IntKind.i64 x0_1), (SV.int IntKind.i64 x0_2), (SV.int IntKind.i64 x0_3), (SV.int IntKind.i64 x0_4), (SV.int IntKind.i64 x0_5), (SV.int IntKind.i64 x0_6), (SV.bool c0_7), (SV.sl l0_8), (SV.sl l0_9), (SV.sl l0_10)] (Op2.ty 27)))) fun S300 =>
 St.at S300 (Bk.new (St.next S)) 0 fun y301 =>
 uncK y301 fun v302 y303 =>
 SV.cI IntKind.i64 v302 fun x307 =>
 letK (α := Bool) ((ieq x307 (15 : Int))) fun c308 =>
 ifK c308
 (F66_q0 D J S l1 S300 K)
 (letK (α := Bool) ((ieq x307 (16 : Int))) fun c339 =>
 ifK c339
 (F66_q2 D J S l1 S300 K)
 (K ((AV.one (V1.s (SV.int IntKind.i64 (0 : Int))))) S300))
noncomputable def X66_0 : X := (.op (.op (.op (.br (.op (.br (.op .ret) (.op .ret))) (.op (.br (.op (.op (.br (.op .ret) (.op .ret)))) (.op .ret)))))))
theorem F66_0_eq (D J : Disp) (x0_0 : Int) (x0_1 : Int) (x0_2 : Int) (x0_3 : Int) (x0_4 : Int) (x0_5 : Int) (x0_6 : Int) (c0_7 : Bool) (l0_8 : LV) (l0_9 : LV) (l0_10 : LV) (l1 : LV) (S : St) (K : AV → St → Prop) : F66_0 D J x0_0 x0_1 x0_2 x0_3 x0_4 x0_5 x0_6 c0_7 l0_8 l0_9 l0_10 l1 S K = execK IrP IrG Go.Proofs.Try.f66 (typed IrP D) J plans66 X66_0 (T66 0).1 (envOf (T66 0).2 [(AV.one (V1.agg [(SV.int IntKind.i64 x0_0), (SV.int IntKind.i64 x0_1), (SV.int IntKind.i64 x0_2), (SV.int IntKind.i64 x0_3), (SV.int IntKind.i64 x0_4), (SV.int IntKind.i64 x0_5), (SV.int IntKind.i64 x0_6), (SV.bool c0_7), (SV.sl l0_8), (SV.sl l0_9), (SV.sl l0_10)])), (AV.one (V1.s (SV.sl l1)))]) S K := by kernel_rfl
noncomputable abbrev A66_0 (D J : Disp) (vals : List AV) (S : St) (K : AV → St → Prop) : Prop :=
  uncA vals fun a9001 r9002 => avA a9001 fun l9004 => uncK l9004 fun s9006 r9007 => SV.cI IntKind.i64 s9006 fun x0_0 => uncK r9007 fun s9010 r9011 => SV.cI IntKind.i64 s9010 fun x0_1 => uncK r9011 fun s9014 r9015 => SV.cI IntKind.i64 s9014 fun x0_2 => uncK r9015 fun s9018 r9019 => SV.cI IntKind.i64 s9018 fun x0_3 => uncK r9019 fun s9022 r9023 => SV.cI IntKind.i64 s9022 fun x0_4 => uncK r9023 fun s9026 r9027 => SV.cI IntKind.i64 s9026 fun x0_5 => uncK r9027 fun s9030 r9031 => SV.cI IntKind.i64 s9030 fun x0_6 => uncK r9031 fun s9034 r9035 => SV.cB s9034 fun c0_7 => uncK r9035 fun s9038 r9039 => SV.cL s9038 fun l0_8 => uncK r9039 fun s9042 r9043 => SV.cL s9042 fun l0_9 => uncK r9043 fun s9046 r9047 => SV.cL s9046 fun l0_10 => endL r9047 <| uncA r9002 fun a9051 r9052 => scK a9051 fun s9054 => SV.cL s9054 fun l1 => endL r9052 <| F66_0 D J x0_0 x0_1 x0_2 x0_3 x0_4 x0_5 x0_6 c0_7 l0_8 l0_9 l0_10 l1 S K
theorem A66_0_ok {D J : Disp} (hD : DOK IrP IrG D) (hJ : JOK IrP IrG Go.Proofs.Try.f66 T66 J) {vals : List AV} {S : St} {K : AV → St → Prop} (h0 : A66_0 D J vals S K) : Runs IrP IrG Go.Proofs.Try.f66 (T66 0).1 (envOf (T66 0).2 vals) S K := by
  obtain ⟨a9001, r9002, rfl, h3⟩ := uncA_some h0
  obtain ⟨l9004, rfl, h5⟩ := avA_some h3
  obtain ⟨s9006, r9007, rfl, h8⟩ := uncK_some h5
  obtain ⟨x0_0, rfl, h9⟩ := cI_some h8
  obtain ⟨s9010, r9011, rfl, h12⟩ := uncK_some h9
  obtain ⟨x0_1, rfl, h13⟩ := cI_some h12
  obtain ⟨s9014, r9015, rfl, h16⟩ := uncK_some h13
  obtain ⟨x0_2, rfl, h17⟩ := cI_some h16
  obtain ⟨s9018, r9019, rfl, h20⟩ := uncK_some h17
  obtain ⟨x0_3, rfl, h21⟩ := cI_some h20
  obtain ⟨s9022, r9023, rfl, h24⟩ := uncK_some h21
  obtain ⟨x0_4, rfl, h25⟩ := cI_some h24
  obtain ⟨s9026, r9027, rfl, h28⟩ := uncK_some h25
  obtain ⟨x0_5, rfl, h29⟩ := cI_some h28
  obtain ⟨s9030, r9031, rfl, h32⟩ := uncK_some h29
  obtain ⟨x0_6, rfl, h33⟩ := cI_some h32
  obtain ⟨s9034, r9035, rfl, h36⟩ := uncK_some h33
  obtain ⟨c0_7, rfl, h37⟩ := cB_some h36
  obtain ⟨s9038, r9039, rfl, h40⟩ := uncK_some h37
  obtain ⟨l0_8, rfl, h41⟩ := cL_some h40
  obtain ⟨s9042, r9043, rfl, h44⟩ := uncK_some h41
  obtain ⟨l0_9, rfl, h45⟩ := cL_some h44
  obtain ⟨s9046, r9047, rfl, h48⟩ := uncK_some h45
  obtain ⟨l0_10, rfl, h49⟩ := cL_some h48
  obtain ⟨rfl, h50⟩ := endL_some h49
  obtain ⟨a9051, r9052, rfl, h53⟩ := uncA_some h50
  obtain ⟨s9054, rfl, h55⟩ := scK_some h53
  obtain ⟨l1, rfl, h56⟩ := cL_some h55
  obtain ⟨rfl, h57⟩ := endL_some h56
  have hq := Eq.mp (F66_0_eq D J x0_0 x0_1 x0_2 x0_3 x0_4 x0_5 x0_6 c0_7 l0_8 l0_9 l0_10 l1 S K) h57
  exact execK_runs hD.typed Ir_zero Ir_mixed hJ X66_0 (T66 0).1 (envOf (T66 0).2 _) S K (chk_of (by kernel_rfl) (by kernel_rfl)) hq
noncomputable def J66 (D : Disp) (k : Nat) : Disp := Nat.rec (motive := fun _ => Disp) Disp.no (fun _ ih => Disp.add 0 (A66_0 D ih) <| Disp.no) k
theorem J66_ok {D : Disp} (hD : DOK IrP IrG D) : ∀ k, JOK IrP IrG Go.Proofs.Try.f66 T66 (J66 D k)
  | 0 => JOK.no
  | k + 1 => JOK.add (ltB_ok (by kernel_rfl)) (fun vals S K h => A66_0_ok hD (J66_ok hD k) h) <| JOK.no
theorem E66_ok {D : Disp} (hD : DOK IrP IrG D) (k : Nat) {args : List AV} {S : St} {K : AV → St → Prop} (h : A66_0 D (J66 D k) args S K) : CallE IrP IrG 66 args S K := by
  have hr := A66_0_ok hD (J66_ok hD k) h
  have hl : args.length = 2 := by
    have h0 := h
    obtain ⟨a9001, r9002, rfl, h3⟩ := uncA_some h0
    obtain ⟨l9004, rfl, h5⟩ := avA_some h3
    obtain ⟨s9006, r9007, rfl, h8⟩ := uncK_some h5
    obtain ⟨x0_0, rfl, h9⟩ := cI_some h8
    obtain ⟨s9010, r9011, rfl, h12⟩ := uncK_some h9
    obtain ⟨x0_1, rfl, h13⟩ := cI_some h12
    obtain ⟨s9014, r9015, rfl, h16⟩ := uncK_some h13
    obtain ⟨x0_2, rfl, h17⟩ := cI_some h16
    obtain ⟨s9018, r9019, rfl, h20⟩ := uncK_some h17
    obtain ⟨x0_3, rfl, h21⟩ := cI_some h20
    obtain ⟨s9022, r9023, rfl, h24⟩ := uncK_some h21
    obtain ⟨x0_4, rfl, h25⟩ := cI_some h24
    obtain ⟨s9026, r9027, rfl, h28⟩ := uncK_some h25
    obtain ⟨x0_5, rfl, h29⟩ := cI_some h28
    obtain ⟨s9030, r9031, rfl, h32⟩ := uncK_some h29
    obtain ⟨x0_6, rfl, h33⟩ := cI_some h32
    obtain ⟨s9034, r9035, rfl, h36⟩ := uncK_some h33
    obtain ⟨c0_7, rfl, h37⟩ := cB_some h36
    obtain ⟨s9038, r9039, rfl, h40⟩ := uncK_some h37
    obtain ⟨l0_8, rfl, h41⟩ := cL_some h40
    obtain ⟨s9042, r9043, rfl, h44⟩ := uncK_some h41
    obtain ⟨l0_9, rfl, h45⟩ := cL_some h44
    obtain ⟨s9046, r9047, rfl, h48⟩ := uncK_some h45
    obtain ⟨l0_10, rfl, h49⟩ := cL_some h48
    obtain ⟨rfl, h50⟩ := endL_some h49
    obtain ⟨a9051, r9052, rfl, h53⟩ := uncA_some h50
    obtain ⟨s9054, rfl, h55⟩ := scK_some h53
    obtain ⟨l1, rfl, h56⟩ := cL_some h55
    obtain ⟨rfl, h57⟩ := endL_some h56
    rfl
  refine callOK_of (fn := Go.Proofs.Try.f66) (c := (match Go.Proofs.Try.f66.body with | some c => c | none => .skip)) (by kernel_rfl) (by kernel_rfl) (by kernel_rfl) (by rw [hl]; kernel_rfl) (by kernel_rfl) ?_
  rw [hl]
  exact hr
noncomputable def plans67 (i : Nat) : Plan := if Nat.beq i 4 then [(0, []), (1, [0]), (2, [1, 0]), (3, [2, 1, 0]), (4, []), (5, [4]), (6, [5, 4]), (7, [6, 5, 4]), (8, []), (9, [8]), (10, [9, 8]), (11, [10, 9, 8]), (12, [11, 10, 9, 8]), (13, [12, 11, 10, 9, 8]), (14, [7, 13, 6, 12, 5, 11, 4, 10, 9, 8]), (15, [14, 7, 13, 6, 12, 5, 11, 4, 10, 9, 8]), (16, [15, 14, 7, 13, 6, 12, 5, 11, 4, 10, 9, 8]), (17, [3, 16, 2, 15, 1, 14, 0, 7, 13, 6, 12, 5, 11, 4, 10, 9, 8]), (18, [17, 3, 16, 2, 15, 1, 14, 0, 7, 13, 6, 12, 5, 11, 4, 10, 9, 8]), (19, [18, 17, 3, 16, 2, 15, 1, 14, 0, 7, 13, 6, 12, 5, 11, 4, 10, 9, 8]), (20, [19, 0, 1, 2, 3, 4, 5, 6, 7, 8, 9, 10, 11, 12, 13, 14, 15, 16, 17, 18])] else if Nat.beq i 8 then [(0, []), (1, [0]), (2, [1, 0]), (3, [2, 1, 0]), (4, [3, 2, 1, 0]), (5, [4, 2, 3, 1, 0]), (6, [2, 5, 1, 4, 0, 3]), (7, [6, 2, 5, 1, 4, 0, 3]), (8, [7, 6, 2, 5, 1, 4, 0, 3]), (9, [7, 6, 2, 5, 1, 4, 0, 3]), (10, [9, 7, 6, 2, 5, 1, 4, 0, 3]), (11, [10, 7, 9, 6, 2, 5, 1, 4, 0, 3]), (12, [11, 7, 10, 6, 2, 9, 5, 1, 4, 0, 3]), (13, [12, 7, 11, 6, 2, 10, 5, 1, 9, 4, 0, 3]), (14, [8, 13, 7, 12, 6, 2, 11, 5, 1, 10, 4, 0, 9, 3]), (15, [7, 14, 6, 2, 8, 13, 5, 1, 12, 4, 0, 11, 3, 10, 9]), (16, [15, 7, 14, 6, 2, 8, 13, 5, 1, 12, 4, 0, 11, 3, 10, 9]), (17, [16, 15, 7, 14, 6, 2, 8, 13, 5, 1, 12, 4, 0, 11, 3, 10, 9]), (18, [17, 16, 15, 7, 14, 6, 2, 8, 13, 5, 1, 12, 4, 0, 11, 3, 10, 9]), (19, [18, 16, 17, 15, 7, 14, 6, 2, 8, 13, 5, 1, 12, 4, 0, 11, 3, 10, 9]), (20, [19, 16, 18, 15, 7, 17, 14, 6, 2, 8, 13, 5, 1, 12, 4, 0, 11, 3, 10, 9]), (21, [16, 15, 7, 14, 6, 2, 8, 13, 5, 1, 12, 4, 0, 11, 3, 10, 9]), (22, [20, 21, 16, 19, 15, 7, 18, 14, 6, 2, 17, 8, 13, 5, 1, 12, 4, 0, 11, 3, 10, 9]), (23, [22, 16, 20, 21, 15, 7, 19, 14, 6, 2, 18, 8, 13, 5, 1, 17, 12, 4, 0, 11, 3, 10, 9]), (24, [23, 16, 22, 15, 7, 20, 21, 14, 6, 2, 19, 8, 13, 5, 1, 18, 12, 4, 0, 17, 11, 3, 10, 9]), (25, [16, 15, 7, 14, 6, 2, 8, 13, 5, 1, 12, 4, 0, 11, 3, 10, 9]), (26, [25, 16, 15, 7, 14, 6, 2, 8, 13, 5, 1, 12, 4, 0, 11, 3, 10, 9]), (27, [26, 16, 25, 15, 7, 14, 6, 2, 8, 13, 5, 1, 12, 4, 0, 11, 3, 10, 9]), (28, [24, 27, 16, 23, 26, 15, 7, 22, 25, 14, 6, 2, 20, 21, 8, 13, 5, 1, 19, 12, 4, 0, 18, 11, 3, 17, 10, 9]), (29, [16, 28, 15, 7, 24, 27, 14, 6, 2, 23, 26, 8, 13, 5, 1, 22, 25, 12, 4, 0, 20, 21, 11, 3, 19, 10, 18, 9, 17]), (30, [29, 16, 28, 15, 7, 24, 27, 14, 6, 2, 23, 26, 8, 13, 5, 1, 22, 25, 12, 4, 0, 20, 21, 11, 3, 19, 10, 18, 9, 17]), (31, [30, 29, 16, 28, 15, 7, 24, 27, 14, 6, 2, 23, 26, 8, 13, 5, 1, 22, 25, 12, 4, 0, 20, 21, 11, 3, 19, 10, 18, 9, 17]), (32, [31, 30, 29, 16, 28, 15, 7, 24, 27, 14, 6, 2, 23, 26, 8, 13, 5, 1, 22, 25, 12, 4, 0, 20, 21, 11, 3, 19, 10, 18, 9, 17]), (33, [32, 31, 30, 29, 16, 28, 15, 7, 24, 27, 14, 6, 2, 23, 26, 8, 13, 5, 1, 22, 25, 12, 4, 0, 20, 21, 11, 3, 19, 10, 18, 9, 17]), (34, [33, 32, 31, 30, 29, 16, 28, 15, 7, 24, 27, 14, 6, 2, 23, 26, 8, 13, 5, 1, 22, 25, 12, 4, 0, 20, 21, 11, 3, 19, 10, 18, 9, 17]), (35, [34, 32, 33, 31, 30, 29, 16, 28, 15, 7, 24, 27, 14, 6, 2, 23, 26, 8, 13, 5, 1, 22, 25, 12, 4, 0, 20, 21, 11, 3, 19, 10, 18, 9, 17]), (36, [35, 32, 34, 31, 30, 33, 29, 16, 28, 15, 7, 24, 27, 14, 6, 2, 23, 26, 8, 13, 5, 1, 22, 25, 12, 4, 0, 20, 21, 11, 3, 19, 10, 18, 9, 17]), (37, [32, 31, 30, 29, 16, 28, 15, 7, 24, 27, 14, 6, 2, 23, 26, 8, 13, 5, 1, 22, 25, 12, 4, 0, 20, 21, 11, 3, 19, 10, 18, 9, 17]), (38, [36, 37, 32, 35, 31, 30, 34, 29, 16, 33, 28, 15, 7, 24, 27, 14, 6, 2, 23, 26, 8, 13, 5, 1, 22, 25, 12, 4, 0, 20, 21, 11, 3, 19, 10, 18, 9, 17]), (39, [38, 32, 36, 37, 31, 30, 35, 29, 16, 34, 28, 15, 7, 33, 24, 27, 14, 6, 2, 23, 26, 8, 13, 5, 1, 22, 25, 12, 4, 0, 20, 21, 11, 3, 19, 10, 18, 9, 17]), (40, [39, 32, 38, 31, 30, 36, 37, 29, 16, 35, 28, 15, 7, 34, 24, 27, 14, 6, 2, 33, 23, 26, 8, 13, 5, 1, 22, 25, 12, 4, 0, 20, 21, 11, 3, 19, 10, 18, 9, 17]), (41, [40, 32, 39, 31, 30, 38, 29, 16, 36, 37, 28, 15, 7, 35, 24, 27, 14, 6, 2, 34, 23, 26, 8, 13, 5, 1, 33, 22, 25, 12, 4, 0, 20, 21, 11, 3, 19, 10, 18, 9, 17]), (42, [32, 41, 30, 31, 40, 29, 16, 39, 28, 15, 7, 38, 24, 27, 14, 6, 2, 36, 37, 23, 26, 8, 13, 5, 1, 35, 22, 25, 12, 4, 0, 34, 20, 21, 11, 3, 33, 19, 10, 18, 9, 17]), (43, [30, 42, 29, 16, 32, 41, 28, 15, 7, 31, 40, 24, 27, 14, 6, 2, 39, 23, 26, 8, 13, 5, 1, 38, 22, 25, 12, 4, 0, 36, 37, 20, 21, 11, 3, 35, 19, 10, 34, 18, 9, 33, 17])] else if Nat.beq i 17 then [(0, []), (1, [0]), (2, [1, 0]), (3, [2, 1, 0]), (4, []), (5, [4]), (6, [5, 4]), (7, [6, 5, 4]), (8, [7, 6, 5, 4]), (9, [8, 7, 6, 5, 4]), (10, [3, 9, 2, 8, 1, 7, 0, 6, 5, 4]), (11, [10, 3, 9, 2, 8, 1, 7, 0, 6, 5, 4]), (12, []), (13, [12, 11, 0, 1, 2, 3, 4, 5, 6, 7, 8, 9, 10])] else if Nat.beq i 18 then [(0, []), (1, []), (2, [1]), (3, [2, 1]), (4, [3, 2, 1]), (5, []), (6, [5]), (7, [6, 5]), (8, [7, 6, 5]), (9, [8, 7, 6, 5]), (10, [9, 8, 7, 6, 5]), (11, [4, 10, 3, 9, 2, 8, 1, 7, 6, 5]), (12, [0, 1, 2, 3, 4, 5, 6, 7, 8, 9, 10, 11]), (13, [12, 0, 1, 2, 3, 4, 5, 6, 7, 8, 9, 10, 11]), (14, [13, 11, 0, 1, 2, 3, 4, 5, 6, 7, 8, 9, 10, 12])] else []
noncomputable def T67 (p : Nat) : List Item × List Nat := bif Nat.beq p 0 then ([.code (match Go.Proofs.Try.f67.body with | some c => c | none => .skip)], [0, 1, 2]) else
  bif Nat.beq p 6 then (navs [.op, .op, .op, .op, .th, .op] [.code (match Go.Proofs.Try.f67.body with | some c => c | none => .skip)], [0, 2, 4, 6, 7]) else
  bif Nat.beq p 7 then (navs [.op, .op, .op, .op, .th, .op, .op] [.code (match Go.Proofs.Try.f67.body with | some c => c | none => .skip)], [0, 2, 4, 6, 7, 48]) else
  bif Nat.beq p 11 then (navs [.op, .op, .op, .op, .th, .op, .op, .th, .op, .op, .op] [.code (match Go.Proofs.Try.f67.body with | some c => c | none => .skip)], [0, 2, 4, 6, 100]) else
  bif Nat.beq p 14 then (navs [.op, .op, .op, .op, .th, .op, .op, .el] [.code (match Go.Proofs.Try.f67.body with | some c => c | none => .skip)], [0, 2, 4, 6]) else
  bif Nat.beq p 16 then (navs [.op, .op, .op, .op, .th, .op, .op, .el, .op, .op] [.code (match Go.Proofs.Try.f67.body with | some c => c | none => .skip)], [0, 2, 4, 6, 9, 104, 105, 106]) else
  bif Nat.beq p 22 then (navs [.op, .op, .op, .op, .th, .op, .op, .el, .op, .op, .op, .el, .op] [.code (match Go.Proofs.Try.f67.body with | some c => c | none => .skip)], [0, 4, 6, 9, 125]) else
  ([], [])
noncomputable def X67_0 : X := (.op (.op (.op (.op (.br (.op (.jmp 6 [0, 2, 4, 6, 7])) (.jmp 6 [0, 2, 4, 6, 7]))))))
noncomputable def X67_6 : X := (.op (.jmp 7 [0, 2, 4, 6, 7, 48]))
noncomputable def X67_7 : X := (.br (.op (.op (.op (.jmp 11 [0, 2, 4, 6, 100])))) (.jmp 14 [0, 2, 4, 6]))
noncomputable def X67_11 : X := (.br (.op .ret) (.jmp 14 [0, 2, 4, 6]))
noncomputable def X67_14 : X := (.op (.op (.jmp 16 [0, 2, 4, 6, 9, 104, 105, 106])))
noncomputable def X67_16 : X := (.op (.br (.op (.op (.op (.jmp 16 [0, 2, 4, 6, 9, 104, 105, 106])))) (.op (.jmp 22 [0, 4, 6, 9, 125]))))
noncomputable def X67_22 : X := (.br (.op (.op (.op (.op .ret)))) (.op (.br (.op .ret) (.op .ret))))
noncomputable def A67_0 (D J : Disp) (vals : List AV) (S : St) (K : AV → St → Prop) : Prop := req (Nat.beq vals.length 3) (execK IrP IrG Go.Proofs.Try.f67 (typed IrP D) J plans67 X67_0 (T67 0).1 (envOf (T67 0).2 vals) S K)
theorem A67_0_ok {D J : Disp} (hD : DOK IrP IrG D) (hJ : JOK IrP IrG Go.Proofs.Try.f67 T67 J) {vals : List AV} {S : St} {K : AV → St → Prop} (h0 : A67_0 D J vals S K) : Runs IrP IrG Go.Proofs.Try.f67 (T67 0).1 (envOf (T67 0).2 vals) S K :=
  execK_runs hD.typed Ir_zero Ir_mixed hJ X67_0 (T67 0).1 (envOf (T67 0).2 vals) S K (chk_of (by kernel_rfl) (by kernel_rfl)) (req_and h0).2
noncomputable def A67_6 (D J : Disp) (vals : List AV) (S : St) (K : AV → St → Prop) : Prop := req (Nat.beq vals.length 5) (execK IrP IrG Go.Proofs.Try.f67 (typed IrP D) J plans67 X67_6 (T67 6).1 (envOf (T67 6).2 vals) S K)
theorem A67_6_ok {D J : Disp} (hD : DOK IrP IrG D) (hJ : JOK IrP IrG Go.Proofs.Try.f67 T67 J) {vals : List AV} {S : St} {K : AV → St → Prop} (h0 : A67_6 D J vals S K) : Runs IrP IrG Go.Proofs.Try.f67 (T67 6).1 (envOf (T67 6).2 vals) S K :=
  execK_runs hD.typed Ir_zero Ir_mixed hJ X67_6 (T67 6).1 (envOf (T67 6).2 vals) S K (chk_of (by kernel_rfl) (by kernel_rfl)) (req_and h0).2
noncomputable def A67_7 (D J : Disp) (vals : List AV) (S : St) (K : AV → St → Prop) : Prop := req (Nat.beq vals.length 6) (execK IrP IrG Go.Proofs.Try.f67 (typed IrP D) J plans67 X67_7 (T67 7).1 (envOf (T67 7).2 vals) S K)
theorem A67_7_ok {D J : Disp} (hD : DOK IrP IrG D) (hJ : JOK IrP IrG Go.Proofs.Try.f67 T67 J) {vals : List AV} {S : St} {K : AV → St → Prop} (h0 : A67_7 D J vals S K) : Runs IrP IrG Go.Proofs.Try.f67 (T67 7).1 (envOf (T67 7).2 vals) S K :=
  execK_runs hD.typed Ir_zero Ir_mixed hJ X67_7 (T67 7).1 (envOf (T67 7).2 vals) S K (chk_of (by kernel_rfl) (by kernel_rfl)) (req_and h0).2
noncomputable def A67_11 (D J : Disp) (vals : List AV) (S : St) (K : AV → St → Prop) : Prop := req (Nat.beq vals.length 5) (execK IrP IrG Go.Proofs.Try.f67 (typed IrP D) J plans67 X67_11 (T67 11).1 (envOf (T67 11).2 vals) S K)
theorem A67_11_ok {D J : Disp} (hD : DOK IrP IrG D) (hJ : JOK IrP IrG Go.Proofs.Try.f67 T67 J) {vals : List AV} {S : St} {K : AV → St → Prop} (h0 : A67_11 D J vals S K) : Runs IrP IrG Go.Proofs.Try.f67 (T67 11).1 (envOf (T67 11).2 vals) S K :=
  execK_runs hD.typed Ir_zero Ir_mixed hJ X67_11 (T67 11).1 (envOf (T67 11).2 vals) S K (chk_of (by kernel_rfl) (by kernel_rfl)) (req_and h0).2
noncomputable def A67_14 (D J : Disp) (vals : List AV) (S : St) (K : AV → St → Prop) : Prop := req (Nat.beq vals.length 4) (execK IrP IrG Go.Proofs.Try.f67 (typed IrP D) J plans67 X67_14 (T67 14).1 (envOf (T67 14).2 vals) S K)
theorem A67_14_ok {D J : Disp} (hD : DOK IrP IrG D) (hJ : JOK IrP IrG Go.Proofs.Try.f67 T67 J) {vals : List AV} {S : St} {K : AV → St → Prop} (h0 : A67_14 D J vals S K) : Runs IrP IrG Go.Proofs.Try.f67 (T67 14).1 (envOf (T67 14).2 vals) S K :=
  execK_runs hD.typed Ir_zero Ir_mixed hJ X67_14 (T67 14).1 (envOf (T67 14).2 vals) S K (chk_of (by kernel_rfl) (by kernel_rfl)) (req_and h0).2
noncomputable def A67_16 (D J : Disp) (vals : List AV) (S : St) (K : AV → St → Prop) : Prop := req (Nat.beq vals.length 8) (execK IrP IrG Go.Proofs.Try.f67 (typed IrP D) J plans67 X67_16 (T67 16).1 (envOf (T67 16).2 vals) S K)
theorem A67_16_ok {D J : Disp} (hD : DOK IrP IrG D) (hJ : JOK IrP IrG Go.Proofs.Try.f67 T67 J) {vals : List AV} {S : St} {K : AV → St → Prop} (h0 : A67_16 D J vals S K) : Runs IrP IrG Go.Proofs.Try.f67 (T67 16).1 (envOf (T67 16).2 vals) S K :=
  execK_runs hD.typed Ir_zero Ir_mixed hJ X67_16 (T67 16).1 (envOf (T67 16).2 vals) S K (chk_of (by kernel_rfl) (by kernel_rfl)) (req_and h0).2
noncomputable def A67_22 (D J : Disp) (vals : List AV) (S : St) (K : AV → St → Prop) : Prop := req (Nat.beq vals.length 5) (execK IrP IrG Go.Proofs.Try.f67 (typed IrP D) J plans67 X67_22 (T67 22).1 (envOf (T67 22).2 vals) S K)
theorem A67_22_ok {D J : Disp} (hD : DOK IrP IrG D) (hJ : JOK IrP IrG Go.Proofs.Try.f67 T67 J) {vals : List AV} {S : St} {K : AV → St → Prop} (h0 : A67_22 D J vals S K) : Runs IrP IrG Go.Proofs.Try.f67 (T67 22).1 (envOf (T67 22).2 vals) S K :=
  execK_runs hD.typed Ir_zero Ir_mixed hJ X67_22 (T67 22).1 (envOf (T67 22).2 vals) S K (chk_of (by kernel_rfl) (by kernel_rfl)) (req_and h0).2
noncomputable def J67 (D : Disp) (k : Nat) : Disp := Nat.rec (motive := fun _ => Disp) Disp.no (fun _ ih => Disp.add 0 (A67_0 D ih) <| Disp.add 6 (A67_6 D ih) <| Disp.add 7 (A67_7 D ih) <| Disp.add 11 (A67_11 D ih) <| Disp.add 14 (A67_14 D ih) <| Disp.add 16 (A67_16 D ih) <| Disp.add 22 (A67_22 D ih) <| Disp.no) k
theorem J67_ok {D : Disp} (hD : DOK IrP IrG D) : ∀ k, JOK IrP IrG Go.Proofs.Try.f67 T67 (J67 D k)
  | 0 => JOK.no
  | k + 1 => JOK.add (ltB_ok (by kernel_rfl)) (fun vals S K h => A67_0_ok hD (J67_ok hD k) h) <| JOK.add (ltB_ok (by kernel_rfl)) (fun vals S K h => A67_6_ok hD (J67_ok hD k) h) <| JOK.add (ltB_ok (by kernel_rfl)) (fun vals S K h => A67_7_ok hD (J67_ok hD k) h) <| JOK.add (ltB_ok (by kernel_rfl)) (fun vals S K h => A67_11_ok hD (J67_ok hD k) h) <| JOK.add (ltB_ok (by kernel_rfl)) (fun vals S K h => A67_14_ok hD (J67_ok hD k) h) <| JOK.add (ltB_ok (by kernel_rfl)) (fun vals S K h => A67_16_ok hD (J67_ok hD k) h) <| JOK.add (ltB_ok (by kernel_rfl)) (fun vals S K h => A67_22_ok hD (J67_ok hD k) h) <| JOK.no
theorem E67_ok {D : Disp} (hD : DOK IrP IrG D) (k : Nat) {args : List AV} {S : St} {K : AV → St → Prop} (h : A67_0 D (J67 D k) args S K) : CallE IrP IrG 67 args S K := by
  have hr := A67_0_ok hD (J67_ok hD k) h
  have hl : args.length = 3 := Nat.eq_of_beq_eq_true (req_and h).1
  refine callOK_of (fn := Go.Proofs.Try.f67) (c := (match Go.Proofs.Try.f67.body with | some c => c | none => .skip)) (by kernel_rfl) (by kernel_rfl) (by kernel_rfl) (by rw [hl]; kernel_rfl) (by kernel_rfl) ?_
  rw [hl]
  exact hr
noncomputable def plans68 (i : Nat) : Plan := if Nat.beq i 9 then [(0, []), (1, []), (2, [0, 1]), (3, [2, 0, 1]), (4, [3, 2, 0, 1]), (5, [4, 3, 2, 0, 1]), (7, [4, 3, 2, 0, 1]), (8, [4, 3, 2, 0, 1]), (9, [8, 4, 3, 2, 0, 1]), (10, [9, 4, 8, 3, 2, 0, 1]), (11, [10, 4, 9, 3, 2, 8, 0, 1]), (12, [7, 11, 4, 10, 3, 2, 9, 0, 1, 8]), (6, [5, 4, 3, 2, 0, 1]), (13, [6, 12, 4, 5, 7, 11, 3, 2, 10, 0, 1, 9, 8]), (14, [4, 13, 3, 2, 6, 12, 0, 1, 5, 7, 11, 10, 9, 8])] else []
noncomputable def T68 (p : Nat) : List Item × List Nat := bif Nat.beq p 0 then ([.code (match Go.Proofs.Try.f68.body with | some c => c | none => .skip)], [0]) else
  bif Nat.beq p 2 then (navs [.op, .op] [.code (match Go.Proofs.Try.f68.body with | some c => c | none => .skip)], [1, 32]) else
  bif Nat.beq p 6 then (navs [.op, .op, .el, .op] [.code (match Go.Proofs.Try.f68.body with | some c => c | none => .skip)], [1, 34, 35, 36]) else
  bif Nat.beq p 10 then (navs [.op, .op, .el, .op, .op, .th, .op, .op] [.code (match Go.Proofs.Try.f68.body with | some c => c | none => .skip)], [1, 4, 34, 35, 36, 41, 42, 43]) else
  bif Nat.beq p 14 then (navs [.op, .op, .el, .op, .op, .th, .op, .op, .op, .th, .op, .op] [.code (match Go.Proofs.Try.f68.body with | some c => c | none => .skip)], [1, 4, 34, 35, 36, 41, 42, 43, 62]) else
  ([], [])
noncomputable def F68_q13 (D J : Disp) (S : St) (S300 : St) (x338 : Int) (K : AV → St → Prop) : Prop :=
 letK (α := Bool) ((ilt (100000 : Int) x338)) fun c339 =>
 ifK c339
 (J 2 [(AV.one (V1.s (SV.ptr (PV.mk (Bk.new (St.next S)) 0)))), (AV.one (V1.s (SV.bool Bool.true)))] S300 K)
 (St.at S300 (Bk.new (St.next S)) 4 fun y340 =>
 uncK y340 fun v341 y342 =>
 SV.cL v341 fun y349 =>
 letK (α := Int) ((Int.ofNat (LV.len y349))) fun x350 =>
 letK (α := Bool) ((ieq x350 (0 : Int))) fun c351 =>
 J 2 [(AV.one (V1.s (SV.ptr (PV.mk (Bk.new (St.next S)) 0)))), (AV.one (V1.s (SV.bool c351)))] S300 K)
noncomputable def F68_q14 (D J : Disp) (S : St) (S300 : St) (K : AV → St → Prop) : Prop :=
 St.at S300 (Bk.new (St.next S)) 1 fun y317 =>
 uncK y317 fun v318 y319 =>
 SV.cI IntKind.i64 v318 fun x323 =>
 St.at S300 (Bk.new (St.next S)) 2 fun y324 =>
 uncK y324 fun v325 y326 =>
 SV.cI IntKind.i64 v325 fun x330 =>
 letK (α := Bool) ((ilt x330 x323)) fun c331 =>
 ifK c331
 (J 2 [(AV.one (V1.s (SV.ptr (PV.mk (Bk.new (St.next S)) 0)))), (AV.one (V1.s (SV.bool Bool.true)))] S300 K)
 (St.at S300 (Bk.new (St.next S)) 2 fun y332 =>
 uncK y332 fun v333 y334 =>
 SV.cI IntKind.i64 v333 fun x338 =>
 F68_q13 D J S S300 x338 K)
noncomputable def F68_q15 (D J : Disp) (S : St) (S300 : St) (x307 : Int) (K : AV → St → Prop) : Prop :=
 letK (α := Bool) ((ilt x307 (0 : Int))) fun c308 =>
 ifK c308
 (J 2 [(AV.one (V1.s (SV.ptr (PV.mk (Bk.new (St.next S)) 0)))), (AV.one (V1.s (SV.bool Bool.true)))] S300 K)
 (St.at S300 (Bk.new (St.next S)) 1 fun y309 =>
 uncK y309 fun v310 y311 =>
 SV.cI IntKind.i64 v310 fun x315 =>
 letK (α := Bool) ((ilt (6 : Int) x315)) fun c316 =>
 ifK c316
 (J 2 [(AV.one (V1.s (SV.ptr (PV.mk (Bk.new (St.next S)) 0)))), (AV.one (V1.s (SV.bool Bool.true)))] S300 K)
 (F68_q14 D J S S300 K))
noncomputable def F68_0 (D J : Disp) (s0_0 : (List Nat)) (x0_1 : Int) (x0_2 : Int) (l0_3 : LV) (l0_4 : LV) (c0_5 : Bool) (S : St) (K : AV → St → Prop) : Prop :=
 letK (α := St) ((St.add S (AO.cells [(SV.str s0_0), (SV.int IntKind.i64 x0_1), (SV.int IntKind.i64 x0_2), (SV.sl l0_3), (SV.sl l0_4), (SV.bool c0_5)] (Op2.ty 42)))) fun S300 =>
 St.at S300 (Bk.new (St.next S)) 1 fun y301 =>
 uncK y301 fun v302 y303 =>
 SV.cI IntKind.i64 v302 fun x307 =>
 F68_q15 D J S S300 x307 K
noncomputable def X68_0 : X := (.op (.op (.jmp 2 [1, 32])))
theorem F68_0_eq (D J : Disp) (s0_0 : (List Nat)) (x0_1 : Int) (x0_2 : Int) (l0_3 : LV) (l0_4 : LV) (c0_5 : Bool) (S : St) (K : AV → St → Prop) : F68_0 D J s0_0 x0_1 x0_2 l0_3 l0_4 c0_5 S K = execK IrP IrG Go.Proofs.Try.f68 (typed IrP D) J plans68 X68_0 (T68 0).1 (envOf (T68 0).2 [(AV.one (V1.agg [(SV.str s0_0), (SV.int IntKind.i64 x0_1), (SV.int IntKind.i64 x0_2), (SV.sl l0_3), (SV.sl l0_4), (SV.bool c0_5)]))]) S K := by kernel_rfl
noncomputable def F68_2 (D J : Disp) (p1 : PV) (c32 : Bool) (S : St) (K : AV → St → Prop) : Prop :=
 ifK c32
 (K ((AV.one (V1.s (SV.bool Bool.false)))) S)
 (PV.cs p1 fun b300 n301 =>
 letK (α := Nat) ((n301 + 4)) fun n302 =>
 St.at S b300 n302 fun y303 =>
 uncK y303 fun v304 y305 =>
 SV.cL v304 fun y312 =>
 letK (α := Int) ((Int.ofNat (LV.len y312))) fun x313 =>
 J 6 [(AV.one (V1.s (SV.ptr p1))), (AV.one (V1.s (SV.sl y312))), (AV.one (V1.s (SV.int IntKind.i64 x313))), (AV.one (V1.s (SV.int IntKind.i64 (0 : Int))))] S K)
noncomputable def X68_2 : X := (.br (.op .ret) (.op (.jmp 6 [1, 34, 35, 36])))
theorem F68_2_eq (D J : Disp) (p1 : PV) (c32 : Bool) (S : St) (K : AV → St → Prop) : F68_2 D J p1 c32 S K = execK IrP IrG Go.Proofs.Try.f68 (typed IrP D) J plans68 X68_2 (T68 2).1 (envOf (T68 2).2 [(AV.one (V1.s (SV.ptr p1))), (AV.one (V1.s (SV.bool c32)))]) S K := by kernel_rfl
noncomputable def F68_q16 (D J : Disp) (S : St) (p1 : PV) (l34 : LV) (x35 : Int) (x36 : Int) (S317 : St) (K : AV → St → Prop) : Prop :=
 St.at S317 (Bk.new (St.next S)) 0 fun y318 =>
 uncK y318 fun v319 y320 =>
 SV.cL v319 fun y327 =>
 letK (α := Int) ((Int.ofNat (LV.len y327))) fun x328 =>
 J 10 [(AV.one (V1.s (SV.ptr p1))), (AV.one (V1.s (SV.ptr (PV.mk (Bk.new (St.next S)) 0)))), (AV.one (V1.s (SV.sl l34))), (AV.one (V1.s (SV.int IntKind.i64 x35))), (AV.one (V1.s (SV.int IntKind.i64 x36))), (AV.one (V1.s (SV.sl y327))), (AV.one (V1.s (SV.int IntKind.i64 x328))), (AV.one (V1.s (SV.int IntKind.i64 (0 : Int))))] S317 K
noncomputable def F68_q17 (D J : Disp) (S : St) (p1 : PV) (l34 : LV) (x35 : Int) (x36 : Int) (c300 : Bool) (K : AV → St → Prop) : Prop :=
 ifK c300
 (LV.cs l34 fun b301 n302 n303 y304 =>
 req (Bool.and (ile (0 : Int) x36) (ilt x36 (Int.ofNat n303))) <|
 letK (α := Nat) ((n302 + ((Int.toNat x36) * 1))) fun n305 =>
 St.at S b301 n305 fun y306 =>
 uncK y306 fun v307 y308 =>
 SV.cL v307 fun y315 =>
 letK (α := St) ((St.add S (AO.cells [(SV.sl LV.nil)] (Op2.ty 45)))) fun S316 =>
 St.wr S316 (Bk.new (St.next S)) 0 [(SV.sl y315)] fun S317 =>
 F68_q16 D J S p1 l34 x35 x36 S317 K)
 (K ((AV.one (V1.s (SV.bool Bool.true)))) S)
noncomputable def F68_6 (D J : Disp) (p1 : PV) (l34 : LV) (x35 : Int) (x36 : Int) (S : St) (K : AV → St → Prop) : Prop :=
 letK (α := Bool) ((ilt x36 x35)) fun c300 =>
 F68_q17 D J S p1 l34 x35 x36 c300 K
noncomputable def X68_6 : X := (.op (.br (.op (.op (.jmp 10 [1, 4, 34, 35, 36, 41, 42, 43]))) (.op .ret)))
theorem F68_6_eq (D J : Disp) (p1 : PV) (l34 : LV) (x35 : Int) (x36 : Int) (S : St) (K : AV → St → Prop) : F68_6 D J p1 l34 x35 x36 S K = execK IrP IrG Go.Proofs.Try.f68 (typed IrP D) J plans68 X68_6 (T68 6).1 (envOf (T68 6).2 [(AV.one (V1.s (SV.ptr p1))), (AV.one (V1.s (SV.sl l34))), (AV.one (V1.s (SV.int IntKind.i64 x35))), (AV.one (V1.s (SV.int IntKind.i64 x36)))]) S K := by kernel_rfl
noncomputable def F68_q18 (D J : Disp) (p1 : PV) (p4 : PV) (l34 : LV) (x35 : Int) (x36 : Int) (l41 : LV) (x42 : Int) (x43 : Int) (S501 : St) (x512 : Int) (x518 : Int) (x524 : Int) (x530 : Int) (x536 : Int) (x542 : Int) (x548 : Int) (y552 : Bool) (y561 : LV) (y570 : LV) (y579 : LV) (b580 : Bk) (n582 : Nat) (y592 : LV) (x593 : Int) (c595 : Bool) (K : AV → St → Prop) : Prop :=
 D 78 [(AV.one (V1.agg [(SV.int IntKind.i64 x512), (SV.int IntKind.i64 x518), (SV.int IntKind.i64 x524), (SV.int IntKind.i64 x530), (SV.int IntKind.i64 x536), (SV.int IntKind.i64 x542), (SV.int IntKind.i64 x548), (SV.bool y552), (SV.sl y561), (SV.sl y570), (SV.sl y579)]))] S501 fun v596 S597 =>
 scK v596 fun v599 =>
 SV.cB v599 fun y600 =>
 req (sameAV (AV.one (V1.s (SV.int IntKind.i64 (Int.ofNat (LV.len y592))))) (AV.one (V1.s (SV.int IntKind.i64 x593)))) <|
 St.at S597 b580 n582 fun y601 =>
 uncK y601 fun v602 y603 =>
 SV.cL v602 fun y610 =>
 req (sameAV (AV.one (V1.s (SV.sl y610))) (AV.one (V1.s (SV.sl y592)))) <|
 letK (α := Bool) ((Bool.not (BEq.beq y600 c595))) fun c611 =>
 J 14 [(AV.one (V1.s (SV.ptr p1))), (AV.one (V1.s (SV.ptr p4))), (AV.one (V1.s (SV.sl l34))), (AV.one (V1.s (SV.int IntKind.i64 x35))), (AV.one (V1.s (SV.int IntKind.i64 x36))), (AV.one (V1.s (SV.sl l41))), (AV.one (V1.s (SV.int IntKind.i64 x42))), (AV.one (V1.s (SV.int IntKind.i64 x43))), (AV.one (V1.s (SV.bool c611)))] S597 K
noncomputable def F68_q19 (D J : Disp) (S : St) (p1 : PV) (p4 : PV) (l34 : LV) (x35 : Int) (x36 : Int) (l41 : LV) (x42 : Int) (x43 : Int) (S501 : St) (c505 : Bool) (K : AV → St → Prop) : Prop :=
 ifK c505
 (J 14 [(AV.one (V1.s (SV.ptr p1))), (AV.one (V1.s (SV.ptr p4))), (AV.one (V1.s (SV.sl l34))), (AV.one (V1.s (SV.int IntKind.i64 x35))), (AV.one (V1.s (SV.int IntKind.i64 x36))), (AV.one (V1.s (SV.sl l41))), (AV.one (V1.s (SV.int IntKind.i64 x42))), (AV.one (V1.s (SV.int IntKind.i64 x43))), (AV.one (V1.s (SV.bool Bool.true)))] S501 K)
 (St.at S501 (Bk.new (St.next S)) 0 fun y506 =>
 uncK y506 fun v507 y508 =>
 SV.cI IntKind.i64 v507 fun x512 =>
 uncK y508 fun v513 y514 =>
 SV.cI IntKind.i64 v513 fun x518 =>
 uncK y514 fun v519 y520 =>
 SV.cI IntKind.i64 v519 fun x524 =>
 uncK y520 fun v525 y526 =>
 SV.cI IntKind.i64 v525 fun x530 =>
 uncK y526 fun v531 y532 =>
 SV.cI IntKind.i64 v531 fun x536 =>
 uncK y532 fun v537 y538 =>
 SV.cI IntKind.i64 v537 fun x542 =>
 uncK y538 fun v543 y544 =>
 SV.cI IntKind.i64 v543 fun x548 =>
 uncK y544 fun v549 y550 =>
 SV.cB v549 fun y552 =>
 uncK y550 fun v553 y554 =>
 SV.cL v553 fun y561 =>
 uncK y554 fun v562 y563 =>
 SV.cL v562 fun y570 =>
 uncK y563 fun v571 y572 =>
 SV.cL v571 fun y579 =>
 PV.cs p4 fun b580 n581 =>
 letK (α := Nat) ((n581 + 0)) fun n582 =>
 St.at S501 b580 n582 fun y583 =>
 uncK y583 fun v584 y585 =>
 SV.cL v584 fun y592 =>
 letK (α := Int) ((Int.ofNat (LV.len y592))) fun x593 =>
 letK (α := Int) ((iwrap IntKind.i64 (x593 - (1 : Int)))) fun x594 =>
 letK (α := Bool) ((ieq x43 x594)) fun c595 =>
 F68_q18 D J p1 p4 l34 x35 x36 l41 x42 x43 S501 x512 x518 x524 x530 x536 x542 x548 y552 y561 y570 y579 b580 n582 y592 x593 c595 K)
noncomputable def F68_q20 (D J : Disp) (S : St) (p1 : PV) (p4 : PV) (l34 : LV) (x35 : Int) (x36 : Int) (l41 : LV) (x42 : Int) (x43 : Int) (S381 : St) (y391 : (List Nat)) (x397 : Int) (x403 : Int) (y412 : LV) (y421 : LV) (y425 : Bool) (x432 : Int) (x438 : Int) (x444 : Int) (x450 : Int) (x456 : Int) (x462 : Int) (x468 : Int) (y472 : Bool) (y481 : LV) (y490 : LV) (y499 : LV) (K : AV → St → Prop) : Prop :=
 D 77 [(AV.one (V1.agg [(SV.str y391), (SV.int IntKind.i64 x397), (SV.int IntKind.i64 x403), (SV.sl y412), (SV.sl y421), (SV.bool y425)])), (AV.one (V1.agg [(SV.int IntKind.i64 x432), (SV.int IntKind.i64 x438), (SV.int IntKind.i64 x444), (SV.int IntKind.i64 x450), (SV.int IntKind.i64 x456), (SV.int IntKind.i64 x462), (SV.int IntKind.i64 x468), (SV.bool y472), (SV.sl y481), (SV.sl y490), (SV.sl y499)]))] S381 fun v500 S501 =>
 scK v500 fun v503 =>
 SV.cB v503 fun y504 =>
 letK (α := Bool) ((Bool.not y504)) fun c505 =>
 F68_q19 D J S p1 p4 l34 x35 x36 l41 x42 x43 S501 c505 K
noncomputable def F68_q21 (D J : Disp) (S : St) (p1 : PV) (p4 : PV) (l34 : LV) (x35 : Int) (x36 : Int) (l41 : LV) (x42 : Int) (x43 : Int) (S381 : St) (y391 : (List Nat)) (x397 : Int) (x403 : Int) (y412 : LV) (y421 : LV) (y425 : Bool) (K : AV → St → Prop) : Prop :=
 St.at S381 (Bk.new (St.next S)) 0 fun y426 =>
 uncK y426 fun v427 y428 =>
 SV.cI IntKind.i64 v427 fun x432 =>
 uncK y428 fun v433 y434 =>
 SV.cI IntKind.i64 v433 fun x438 =>
 uncK y434 fun v439 y440 =>
 SV.cI IntKind.i64 v439 fun x444 =>
 uncK y440 fun v445 y446 =>
 SV.cI IntKind.i64 v445 fun x450 =>
 uncK y446 fun v451 y452 =>
 SV.cI IntKind.i64 v451 fun x456 =>
 uncK y452 fun v457 y458 =>
 SV.cI IntKind.i64 v457 fun x462 =>
 uncK y458 fun v463 y464 =>
 SV.cI IntKind.i64 v463 fun x468 =>
 uncK y464 fun v469 y470 =>
 SV.cB v469 fun y472 =>
 uncK y470 fun v473 y474 =>
 SV.cL v473 fun y481 =>
 uncK y474 fun v482 y483 =>
 SV.cL v482 fun y490 =>
 uncK y483 fun v491 y492 =>
 SV.cL v491 fun y499 =>
 F68_q20 D J S p1 p4 l34 x35 x36 l41 x42 x43 S381 y391 x397 x403 y412 y421 y425 x432 x438 x444 x450 x456 x462 x468 y472 y481 y490 y499 K
noncomputable def F68_q22 (D J : Disp) (S : St) (p1 : PV) (p4 : PV) (l34 : LV) (x35 : Int) (x36 : Int) (l41 : LV) (x42 : Int) (x43 : Int) (S381 : St) (K : AV → St → Prop) : Prop :=
 PV.cs p1 fun b382 n383 =>
 St.at S381 b382 n383 fun y384 =>
 uncK y384 fun v385 y386 =>
 SV.cS v385 fun y391 =>
 uncK y386 fun v392 y393 =>
 SV.cI IntKind.i64 v392 fun x397 =>
 uncK y393 fun v398 y399 =>
 SV.cI IntKind.i64 v398 fun x403 =>
 uncK y399 fun v404 y405 =>
 SV.cL v404 fun y412 =>
 uncK y405 fun v413 y414 =>
 SV.cL v413 fun y421 =>
 uncK y414 fun v422 y423 =>
 SV.cB v422 fun y425 =>
 F68_q21 D J S p1 p4 l34 x35 x36 l41 x42 x43 S381 y391 x397 x403 y412 y421 y425 K
noncomputable def F68_q23 (D J : Disp) (S : St) (p1 : PV) (p4 : PV) (l34 : LV) (x35 : Int) (x36 : Int) (l41 : LV) (x42 : Int) (x43 : Int) (x312 : Int) (x318 : Int) (x324 : Int) (x330 : Int) (x336 : Int) (x342 : Int) (x348 : Int) (y352 : Bool) (y361 : LV) (y370 : LV) (y379 : LV) (K : AV → St → Prop) : Prop :=
 letK (α := St) ((St.add S (AO.cells [(SV.int IntKind.i64 (0 : Int)), (SV.int IntKind.i64 (0 : Int)), (SV.int IntKind.i64 (0 : Int)), (SV.int IntKind.i64 (0 : Int)), (SV.int IntKind.i64 (0 : Int)), (SV.int IntKind.i64 (0 : Int)), (SV.int IntKind.i64 (0 : Int)), (SV.bool Bool.false), (SV.sl LV.nil), (SV.sl LV.nil), (SV.sl LV.nil)] (Op2.ty 27)))) fun S380 =>
 St.wr S380 (Bk.new (St.next S)) 0 [(SV.int IntKind.i64 x312), (SV.int IntKind.i64 x318), (SV.int IntKind.i64 x324), (SV.int IntKind.i64 x330), (SV.int IntKind.i64 x336), (SV.int IntKind.i64 x342), (SV.int IntKind.i64 x348), (SV.bool y352), (SV.sl y361), (SV.sl y370), (SV.sl y379)] fun S381 =>
 F68_q22 D J S p1 p4 l34 x35 x36 l41 x42 x43 S381 K
noncomputable def F68_q24 (D J : Disp) (S : St) (p1 : PV) (p4 : PV) (l34 : LV) (x35 : Int) (x36 : Int) (l41 : LV) (x42 : Int) (x43 : Int) (b301 : Bk) (n305 : Nat) (K : AV → St → Prop) : Prop :=
 St.at S b301 n305 fun y306 =>
 uncK y306 fun v307 y308 =>
 SV.cI IntKind.i64 v307 fun x312 =>
 uncK y308 fun v313 y314 =>
 SV.cI IntKind.i64 v313 fun x318 =>
 uncK y314 fun v319 y320 =>
 SV.cI IntKind.i64 v319 fun x324 =>
 uncK y320 fun v325 y326 =>
 SV.cI IntKind.i64 v325 fun x330 =>
 uncK y326 fun v331 y332 =>
 SV.cI IntKind.i64 v331 fun x336 =>
 uncK y332 fun v337 y338 =>
 SV.cI IntKind.i64 v337 fun x342 =>
 uncK y338 fun v343 y344 =>
 SV.cI IntKind.i64 v343 fun x348 =>
 uncK y344 fun v349 y350 =>
 SV.cB v349 fun y352 =>
 uncK y350 fun v353 y354 =>
 SV.cL v353 fun y361 =>
 uncK y354 fun v362 y363 =>
 SV.cL v362 fun y370 =>
 uncK y363 fun v371 y372 =>
 SV.cL v371 fun y379 =>
 F68_q23 D J S p1 p4 l34 x35 x36 l41 x42 x43 x312 x318 x324 x330 x336 x342 x348 y352 y361 y370 y379 K
noncomputable def F68_q25 (D J : Disp) (S : St) (p1 : PV) (l34 : LV) (x35 : Int) (x36 : Int) (b803 : Bk) (n805 : Nat) (K : AV → St → Prop) : Prop :=
 St.at S b803 n805 fun y806 =>
 uncK y806 fun v807 y808 =>
 SV.cL v807 fun y815 =>
 letK (α := Int) ((Int.ofNat (LV.len y815))) fun x816 =>
 letK (α := Bool) ((ieq x816 (0 : Int))) fun c817 =>
 ifK c817
 (K ((AV.one (V1.s (SV.bool Bool.false)))) S)
 (letK (α := Int) ((iwrap IntKind.i64 (x36 + (1 : Int)))) fun x818 =>
 J 6 [(AV.one (V1.s (SV.ptr p1))), (AV.one (V1.s (SV.sl l34))), (AV.one (V1.s (SV.int IntKind.i64 x35))), (AV.one (V1.s (SV.int IntKind.i64 x818)))] S K)
noncomputable def F68_10 (D J : Disp) (p1 : PV) (p4 : PV) (l34 : LV) (x35 : Int) (x36 : Int) (l41 : LV) (x42 : Int) (x43 : Int) (S : St) (K : AV → St → Prop) : Prop :=
 letK (α := Bool) ((ilt x43 x42)) fun c300 =>
 ifK c300
 (LV.cs l41 fun b301 n302 n303 y304 =>
 req (Bool.and (ile (0 : Int) x43) (ilt x43 (Int.ofNat n303))) <|
 letK (α := Nat) ((n302 + ((Int.toNat x43) * 11))) fun n305 =>
 F68_q24 D J S p1 p4 l34 x35 x36 l41 x42 x43 b301 n305 K)
 (PV.cs p4 fun b803 n804 =>
 letK (α := Nat) ((n804 + 0)) fun n805 =>
 F68_q25 D J S p1 l34 x35 x36 b803 n805 K)
noncomputable def X68_10 : X := (.op (.br (.op (.op (.jmp 14 [1, 4, 34, 35, 36, 41, 42, 43, 62]))) (.op (.br (.op .ret) (.op (.jmp 6 [1, 34, 35, 36]))))))
theorem F68_10_eq (D J : Disp) (p1 : PV) (p4 : PV) (l34 : LV) (x35 : Int) (x36 : Int) (l41 : LV) (x42 : Int) (x43 : Int) (S : St) (K : AV → St → Prop) : F68_10 D J p1 p4 l34 x35 x36 l41 x42 x43 S K = execK IrP IrG Go.Proofs.Try.f68 (typed IrP D) J plans68 X68_10 (T68 10).1 (envOf (T68 10).2 [(AV.one (V1.s (SV.ptr p1))), (AV.one (V1.s (SV.ptr p4))), (AV.one (V1.s (SV.sl l34))), (AV.one (V1.s (SV.int IntKind.i64 x35))), (AV.one (V1.s (SV.int IntKind.i64 x36))), (AV.one (V1.s (SV.sl l41))), (AV.one (V1.s (SV.int IntKind.i64 x42))), (AV.one (V1.s (SV.int IntKind.i64 x43)))]) S K := by kernel_rfl
noncomputable def F68_14 (D J : Disp) (p1 : PV) (p4 : PV) (l34 : LV) (x35 : Int) (x36 : Int) (l41 : LV) (x42 : Int) (x43 : Int) (c62 : Bool) (S : St) (K : AV → St → Prop) : Prop :=
 ifK c62
 (K ((AV.one (V1.s (SV.bool Bool.false)))) S)
 (letK (α := Int) ((iwrap IntKind.i64 (x43 + (1 : Int)))) fun x300 =>
 J 10 [(AV.one (V1.s (SV.ptr p1))), (AV.one (V1.s (SV.ptr p4))), (AV.one (V1.s (SV.sl l34))), (AV.one (V1.s (SV.int IntKind.i64 x35))), (AV.one (V1.s (SV.int IntKind.i64 x36))), (AV.one (V1.s (SV.sl l41))), (AV.one (V1.s (SV.int IntKind.i64 x42))), (AV.one (V1.s (SV.int IntKind.i64 x300)))] S K)
noncomputable def X68_14 : X := (.br (.op .ret) (.op (.jmp 10 [1, 4, 34, 35, 36, 41, 42, 43])))
theorem F68_14_eq (D J : Disp) (p1 : PV) (p4 : PV) (l34 : LV) (x35 : Int) (x36 : Int) (l41 : LV) (x42 : Int) (x43 : Int) (c62 : Bool) (S : St) (K : AV → St → Prop) : F68_14 D J p1 p4 l34 x35 x36 l41 x42 x43 c62 S K = execK IrP IrG Go.Proofs.Try.f68 (typed IrP D) J plans68 X68_14 (T68 14).1 (envOf (T68 14).2 [(AV.one (V1.s (SV.ptr p1))), (AV.one (V1.s (SV.ptr p4))), (AV.one (V1.s (SV.sl l34))), (AV.one (V1.s (SV.int IntKind.i64 x35))), (AV.one (V1.s (SV.int IntKind.i64 x36))), (AV.one (V1.s (SV.sl l41))), (AV.one (V1.s (SV.int IntKind.i64 x42))), (AV.one (V1.s (SV.int IntKind.i64 x43))), (AV.one (V1.s (SV.bool c62)))]) S K := by kernel_rfl
noncomputable abbrev A68_0 (D J : Disp) (vals : List AV) (S : St) (K : AV → St → Prop) : Prop :=
  uncA vals fun a9001 r9002 => avA a9001 fun l9004 => uncK l9004 fun s9006 r9007 => SV.cS s9006 fun s0_0 => uncK r9007 fun s9010 r9011 => SV.cI IntKind.i64 s9010 fun x0_1 => uncK r9011 fun s9014 r9015 => SV.cI IntKind.i64 s9014 fun x0_2 => uncK r9015 fun s9018 r9019 => SV.cL s9018 fun l0_3 => uncK r9019 fun s9022 r9023 => SV.cL s9022 fun l0_4 => uncK r9023 fun s9026 r9027 => SV.cB s9026 fun c0_5 => endL r9027 <| endL r9002 <| F68_0 D J s0_0 x0_1 x0_2 l0_3 l0_4 c0_5 S K
theorem A68_0_ok {D J : Disp} (hD : DOK IrP IrG D) (hJ : JOK IrP IrG Go.Proofs.Try.f68 T68 J) {vals : List AV} {S : St} {K : AV → St → Prop} (h0 : A68_0 D J vals S K) : Runs IrP IrG Go.Proofs.Try.f68 (T68 0).1 (envOf (T68 0).2 vals) S K := by
  obtain ⟨a9001, r9002, rfl, h3⟩ := uncA_some h0
  obtain ⟨l9004, rfl, h5⟩ := avA_some h3
  obtain ⟨s9006, r9007, rfl, h8⟩ := uncK_some h5
  obtain ⟨s0_0, rfl, h9⟩ := cS_some h8
  obtain ⟨s9010, r9011, rfl, h12⟩ := uncK_some h9
  obtain ⟨x0_1, rfl, h13⟩ := cI_some h12
  obtain ⟨s9014, r9015, rfl, h16⟩ := uncK_some h13
  obtain ⟨x0_2, rfl, h17⟩ := cI_some h16
  obtain ⟨s9018, r9019, rfl, h20⟩ := uncK_some h17
  obtain ⟨l0_3, rfl, h21⟩ := cL_some h20
  obtain ⟨s9022, r9023, rfl, h24⟩ := uncK_some h21
  obtain ⟨l0_4, rfl, h25⟩ := cL_some h24
  obtain ⟨s9026, r9027, rfl, h28⟩ := uncK_some h25
  obtain ⟨c0_5, rfl, h29⟩ := cB_some h28
  obtain ⟨rfl, h30⟩ := endL_some h29
  obtain ⟨rfl, h31⟩ := endL_some h30
  have hq := Eq.mp (F68_0_eq D J s0_0 x0_1 x0_2 l0_3 l0_4 c0_5 S K) h31
  exact execK_runs hD.typed Ir_zero Ir_mixed hJ X68_0 (T68 0).1 (envOf (T68 0).2 _) S K (chk_of (by kernel_rfl) (by kernel_rfl)) hq
noncomputable abbrev A68_2 (D J : Disp) (vals : List AV) (S : St) (K : AV → St → Prop) : Prop :=
  uncA vals fun a9001 r9002 => scK a9001 fun s9004 => SV.cP s9004 fun p1 => uncA r9002 fun a9007 r9008 => scK a9007 fun s9010 => SV.cB s9010 fun c32 => endL r9008 <| F68_2 D J p1 c32 S K
theorem A68_2_ok {D J : Disp} (hD : DOK IrP IrG D) (hJ : JOK IrP IrG Go.Proofs.Try.f68 T68 J) {vals : List AV} {S : St} {K : AV → St → Prop} (h0 : A68_2 D J vals S K) : Runs IrP IrG Go.Proofs.Try.f68 (T68 2).1 (envOf (T68 2).2 vals) S K := by
  obtain ⟨a9001, r9002, rfl, h3⟩ := uncA_some h0
  obtain ⟨s9004, rfl, h5⟩ := scK_some h3
  obtain ⟨p1, rfl, h6⟩ := cP_some h5
  obtain ⟨a9007, r9008, rfl, h9⟩ := uncA_some h6
  obtain ⟨s9010, rfl, h11⟩ := scK_some h9
  obtain ⟨c32, rfl, h12⟩ := cB_some h11
  obtain ⟨rfl, h13⟩ := endL_some h12
  have hq := Eq.mp (F68_2_eq D J p1 c32 S K) h13
  exact execK_runs hD.typed Ir_zero Ir_mixed hJ X68_2 (T68 2).1 (envOf (T68 2).2 _) S K (chk_of (by kernel_rfl) (by kernel_rfl)) hq
noncomputable abbrev A68_6 (D J : Disp) (vals : List AV) (S : St) (K : AV → St → Prop) : Prop :=
  uncA vals fun a9001 r9002 => scK a9001 fun s9004 => SV.cP s9004 fun p1 => uncA r9002 fun a9007 r9008 => scK a9007 fun s9010 => SV.cL s9010 fun l34 => uncA r9008 fun a9013 r9014 => scK a9013 fun s9016 => SV.cI IntKind.i64 s9016 fun x35 => uncA r9014 fun a9019 r9020 => scK a9019 fun s9022 => SV.cI IntKind.i64 s9022 fun x36 => endL r9020 <| F68_6 D J p1 l34 x35 x36 S K
theorem A68_6_ok {D J : Disp} (hD : DOK IrP IrG D) (hJ : JOK IrP IrG Go.Proofs.Try.f68 T68 J) {vals : List AV} {S : St} {K : AV → St → Prop} (h0 : A68_6 D J vals S K) : Runs IrP IrG Go.Proofs.Try.f68 (T68 6).1 (envOf (T68 6).2 vals) S K := by
  obtain ⟨a9001, r9002, rfl, h3⟩ := uncA_some h0
  obtain ⟨s9004, rfl, h5⟩ := scK_some h3
  obtain ⟨p1, rfl, h6⟩ := cP_some h5
  obtain ⟨a9007, r9008, rfl, h9⟩ := uncA_some h6
  obtain ⟨s9010, rfl, h11⟩ := scK_some h9
  obtain ⟨l34, rfl, h12⟩ := cL_some h11
  obtain ⟨a9013, r9014, rfl, h15⟩ := uncA_some h12
  obtain ⟨s9016, rfl, h17⟩ := scK_some h15
  obtain ⟨x35, rfl, h18⟩ := cI_some h17
  obtain ⟨a9019, r9020, rfl, h21⟩ := uncA_some h18
  obtain ⟨s9022, rfl, h23⟩ := scK_some h21
  obtain ⟨x36, rfl, h24⟩ := cI_some h23
  obtain ⟨rfl, h25⟩ := endL_some h24
  have hq := Eq.mp (F68_6_eq D J p1 l34 x35 x36 S K) h25
  exact execK_runs hD.typed Ir_zero Ir_mixed hJ X68_6 (T68 6).1 (envOf (T68 6).2 _) S K (chk_of (by kernel_rfl) (by kernel_rfl)) hq
noncomputable abbrev A68_10 (D J : Disp) (vals : List AV) (S : St) (K : AV → St → Prop) : Prop :=
  uncA vals fun a9001 r9002 => scK a9001 fun s9004 => SV.cP s9004 fun p1 => uncA r9002 fun a9007 r9008 => scK a9007 fun s9010 => SV.cP s9010 fun p4 => uncA r9008 fun a9013 r9014 => scK a9013 fun s9016 => SV.cL s9016 fun l34 => uncA r9014 fun a9019 r9020 => scK a9019 fun s9022 => SV.cI IntKind.i64 s9022 fun x35 => uncA r9020 fun a9025 r9026 => scK a9025 fun s9028 => SV.cI IntKind.i64 s9028 fun x36 => uncA r9026 fun a9031 r9032 => scK a9031 fun s9034 => SV.cL s9034 fun l41 => uncA r9032 fun a9037 r9038 => scK a9037 fun s9040 => SV.cI IntKind.i64 s9040 fun x42 => uncA r9038 fun a9043 r9044 => scK a9043 fun s9046 => SV.cI IntKind.i64 s9046 fun x43 => endL r9044 <| F68_10 D J p1 p4 l34 x35 x36 l41 x42 x43 S K
theorem A68_10_ok {D J : Disp} (hD : DOK IrP IrG D) (hJ : JOK IrP IrG Go.Proofs.Try.f68 T68 J) {vals : List AV} {S : St} {K : AV → St → Prop} (h0 : A68_10 D J vals S K) : Runs IrP IrG Go.Proofs.Try.f68 (T68 10).1 (envOf (T68 10).2 vals) S K := by
  obtain ⟨a9001, r9002, rfl, h3⟩ := uncA_some h0
  obtain ⟨s9004, rfl, h5⟩ := scK_some h3
  obtain ⟨p1, rfl, h6⟩ := cP_some h5
  obtain ⟨a9007, r9008, rfl, h9⟩ := uncA_some h6
  obtain ⟨s9010, rfl, h11⟩ := scK_some h9
  obtain ⟨p4, rfl, h12⟩ := cP_some h11
  obtain ⟨a9013, r9014, rfl, h15⟩ := uncA_some h12
  obtain ⟨s9016, rfl, h17⟩ := scK_some h15
  obtain ⟨l34, rfl, h18⟩ := cL_some h17
  obtain ⟨a9019, r9020, rfl, h21⟩ := uncA_some h18
  obtain ⟨s9022, rfl, h23⟩ := scK_some h21
  obtain ⟨x35, rfl, h24⟩ := cI_some h23
  obtain ⟨a9025, r9026, rfl, h27⟩ := uncA_some h24
  obtain ⟨s9028, rfl, h29⟩ := scK_some h27
  obtain ⟨x36, rfl, h30⟩ := cI_some h29
  obtain ⟨a9031, r9032, rfl, h33⟩ := uncA_some h30
  obtain ⟨s9034, rfl, h35⟩ := scK_some h33
  obtain ⟨l41, rfl, h36⟩ := cL_some h35
  obtain ⟨a9037, r9038, rfl, h39⟩ := uncA_some h36
  obtain ⟨s9040, rfl, h41⟩ := scK_some h39
  obtain ⟨x42, rfl, h42⟩ := cI_some h41
  obtain ⟨a9043, r9044, rfl, h45⟩ := uncA_some h42
  obtain ⟨s9046, rfl, h47⟩ := scK_some h45
  obtain ⟨x43, rfl, h48⟩ := cI_some h47
  obtain ⟨rfl, h49⟩ := endL_some h48
  have hq := Eq.mp (F68_10_eq D J p1 p4 l34 x35 x36 l41 x42 x43 S K) h49
  exact execK_runs hD.typed Ir_zero Ir_mixed hJ X68_10 (T68 10).1 (envOf (T68 10).2 _) S K (chk_of (by kernel_rfl) (by kernel_rfl)) hq
noncomputable abbrev A68_14 (D J : Disp) (vals : List AV) (S : St) (K : AV → St → Prop) : Prop :=
  uncA vals fun a9001 r9002 => scK a9001 fun s9004 => SV.cP s9004 fun p1 => uncA r9002 fun a9007 r9008 => scK a9007 fun s9010 => SV.cP s9010 fun p4 => uncA r9008 fun a9013 r9014 => scK a9013 fun s9016 => SV.cL s9016 fun l34 => uncA r9014 fun a9019 r9020 => scK a9019 fun s9022 => SV.cI IntKind.i64 s9022 fun x35 => uncA r9020 fun a9025 r9026 => scK a9025 fun s9028 => SV.cI IntKind.i64 s9028 fun x36 => uncA r9026 fun a9031 r9032 => scK a9031 fun s9034 => SV.cL s9034 fun l41 => uncA r9032 fun a9037 r9038 => scK a9037 fun s9040 => SV.cI IntKind.i64 s9040 fun x42 => uncA r9038 fun a9043 r9044 => scK a9043 fun s9046 => SV.cI IntKind.i64 s9046 fun x43 => uncA r9044 fun a9049 r9050 => scK a9049 fun s9052 => SV.cB s9052 fun c62 => endL r9050 <| F68_14 D J p1 p4 l34 x35 x36 l41 x42 x43 c62 S K
theorem A68_14_ok {D J : Disp} (hD : DOK IrP IrG D) (hJ : JOK IrP IrG Go.Proofs.Try.f68 T68 J) {vals : List AV} {S : St} {K : AV → St → Prop} (h0 : A68_14 D J vals S K) : Runs IrP IrG Go.Proofs.Try.f68 (T68 14).1 (envOf (T68 14).2 vals) S K := by
  obtain ⟨a9001, r9002, rfl, h3⟩ := uncA_some h0
  obtain ⟨s9004, rfl, h5⟩ := scK_some h3
  obtain ⟨p1, rfl, h6⟩ := cP_some h5
  obtain ⟨a9007, r9008, rfl, h9⟩ := uncA_some h6
  obtain ⟨s9010, rfl, h11⟩ := scK_some h9
  obtain ⟨p4, rfl, h12⟩ := cP_some h11
  obtain ⟨a9013, r9014, rfl, h15⟩ := uncA_some h12
  obtain ⟨s9016, rfl, h17⟩ := scK_some h15
  obtain ⟨l34, rfl, h18⟩ := cL_some h17
  obtain ⟨a9019, r9020, rfl, h21⟩ := uncA_some h18
  obtain ⟨s9022, rfl, h23⟩ := scK_some h21
  obtain ⟨x35, rfl, h24⟩ := cI_some h23
  obtain ⟨a9025, r9026, rfl, h27⟩ := uncA_some h24
  obtain ⟨s9028, rfl, h29⟩ := scK_some h27
  obtain ⟨x36, rfl, h30⟩ := cI_some h29
  obtain ⟨a9031, r9032, rfl, h33⟩ := uncA_some h30
  obtain ⟨s9034, rfl, h35⟩ := scK_some h33
  obtain ⟨l41, rfl, h36⟩ := cL_some h35
  obtain ⟨a9037, r9038, rfl, h39⟩ := uncA_some h36
  obtain ⟨s9040, rfl, h41⟩ := scK_some h39
  obtain ⟨x42, rfl, h42⟩ := cI_some h41
  obtain ⟨a9043, r9044, rfl, h45⟩ := uncA_some h42
  obtain ⟨s9046, rfl, h47⟩ := scK_some h45
  obtain ⟨x43, rfl, h48⟩ := cI_some h47
  obtain ⟨a9049, r9050, rfl, h51⟩ := uncA_some h48
  obtain ⟨s9052, rfl, h53⟩ := scK_some h51
  obtain ⟨c62, rfl, h54⟩ := cB_some h53
  obtain ⟨rfl, h55⟩ := endL_some h54
  have hq := Eq.mp (F68_14_eq D J p1 p4 l34 x35 x36 l41 x42 x43 c62 S K) h55
  exact execK_runs hD.typed Ir_zero Ir_mixed hJ X68_14 (T68 14).1 (envOf (T68 14).2 _) S K (chk_of (by kernel_rfl) (by kernel_rfl)) hq
noncomputable def J68 (D : Disp) (k : Nat) : Disp := Nat.rec (motive := fun _ => Disp) Disp.no (fun _ ih => Disp.add 0 (A68_0 D ih) <| Disp.add 2 (A68_2 D ih) <| Disp.add 6 (A68_6 D ih) <| Disp.add 10 (A68_10 D ih) <| Disp.add 14 (A68_14 D ih) <| Disp.no) k
theorem J68_ok {D : Disp} (hD : DOK IrP IrG D) : ∀ k, JOK IrP IrG Go.Proofs.Try.f68 T68 (J68 D k)
  | 0 => JOK.no
  | k + 1 => JOK.add (ltB_ok (by kernel_rfl)) (fun vals S K h => A68_0_ok hD (J68_ok hD k) h) <| JOK.add (ltB_ok (by kernel_rfl)) (fun vals S K h => A68_2_ok hD (J68_ok hD k) h) <| JOK.add (ltB_ok (by kernel_rfl)) (fun vals S K h => A68_6_ok hD (J68_ok hD k) h) <| JOK.add (ltB_ok (by kernel_rfl)) (fun vals S K h => A68_10_ok hD (J68_ok hD k) h) <| JOK.add (ltB_ok (by kernel_rfl)) (fun vals S K h => A68_14_ok hD (J68_ok hD k) h) <| JOK.no
theorem E68_ok {D : Disp} (hD : DOK IrP IrG D) (k : Nat) {args : List AV} {S : St} {K : AV → St → Prop} (h : A68_0 D (J68 D k) args S K) : CallE IrP IrG 68 args S K := by
  have hr := A68_0_ok hD (J68_ok hD k) h
  have hl : args.length = 1 := by
    have h0 := h
    obtain ⟨a9001, r9002, rfl, h3⟩ := uncA_some h0
    obtain ⟨l9004, rfl, h5⟩ := avA_some h3
    obtain ⟨s9006, r9007, rfl, h8⟩ := uncK_some h5
    obtain ⟨s0_0, rfl, h9⟩ := cS_some h8
    obtain ⟨s9010, r9011, rfl, h12⟩ := uncK_some h9
    obtain ⟨x0_1, rfl, h13⟩ := cI_some h12
    obtain ⟨s9014, r9015, rfl, h16⟩ := uncK_some h13
    obtain ⟨x0_2, rfl, h17⟩ := cI_some h16
    obtain ⟨s9018, r9019, rfl, h20⟩ := uncK_some h17
    obtain ⟨l0_3, rfl, h21⟩ := cL_some h20
    obtain ⟨s9022, r9023, rfl, h24⟩ := uncK_some h21
    obtain ⟨l0_4, rfl, h25⟩ := cL_some h24
    obtain ⟨s9026, r9027, rfl, h28⟩ := uncK_some h25
    obtain ⟨c0_5, rfl, h29⟩ := cB_some h28
    obtain ⟨rfl, h30⟩ := endL_some h29
    obtain ⟨rfl, h31⟩ := endL_some h30
    rfl
  refine callOK_of (fn := Go.Proofs.Try.f68) (c := (match Go.Proofs.Try.f68.body with | some c => c | none => .skip)) (by kernel_rfl) (by kernel_rfl) (by kernel_rfl) (by rw [hl]; kernel_rfl) (by kernel_rfl) ?_
  rw [hl]
  exact hr
noncomputable def plans69 (i : Nat) : Plan := []
noncomputable def T69 (p : Nat) : List Item × List Nat := bif Nat.beq p 0 then ([.code (match Go.Proofs.Try.f69.body with | some c => c | none => .skip)], [0, 1, 2]) else
  bif Nat.beq p 14 then (navs [.op, .op, .op, .el, .op, .el, .op, .el, .op, .th] [.code (match Go.Proofs.Try.f69.body with | some c => c | none => .skip)], [3, 4, 5, 8, 48]) else
  bif Nat.beq p 18 then (navs [.op, .op, .op, .el, .op, .el, .op, .el, .op, .th, .el, .op, .th] [.code (match Go.Proofs.Try.f69.body with | some c => c | none => .skip)], [4, 5, 8, 55]) else
  bif Nat.beq p 25 then (navs [.op, .op, .op, .el, .op, .el, .op, .el, .op, .th, .el, .op, .th, .el, .op, .el, .op, .th] [.code (match Go.Proofs.Try.f69.body with | some c => c | none => .skip)], [4, 5, 8, 72]) else
  ([], [])
noncomputable def F69_q13 (D J : Disp) (S300 : St) (S301 : St) (S302 : St) (x317 : Int) (K : AV → St → Prop) : Prop :=
 letK (α := Bool) ((ile (0 : Int) x317)) fun c318 =>
 ifK c318
 (St.at S302 (Bk.new (St.next S301)) 5 fun y319 =>
 uncK y319 fun v320 y321 =>
 SV.cI IntKind.i64 v320 fun x325 =>
 St.at S302 (Bk.new (St.next S300)) 3 fun y326 =>
 uncK y326 fun v327 y328 =>
 SV.cL v327 fun y335 =>
 letK (α := Int) ((Int.ofNat (LV.len y335))) fun x336 =>
 letK (α := Bool) ((ilt x325 x336)) fun c337 =>
 K ((AV.one (V1.s (SV.bool c337)))) S302)
 (K ((AV.one (V1.s (SV.bool Bool.false)))) S302)
noncomputable def F69_q14 (D J : Disp) (S : St) (S301 : St) (S302 : St) (x357 : Int) (K : AV → St → Prop) : Prop :=
 letK (α := Bool) ((ile (0 : Int) x357)) fun c358 =>
 ifK c358
 (St.at S302 (Bk.new (St.next S301)) 5 fun y359 =>
 uncK y359 fun v360 y361 =>
 SV.cI IntKind.i64 v360 fun x365 =>
 St.at S302 (Bk.new (St.next S)) 0 fun y366 =>
 uncK y366 fun v367 y368 =>
 SV.cL v367 fun y375 =>
 letK (α := Int) ((Int.ofNat (LV.len y375))) fun x376 =>
 letK (α := Bool) ((ilt x365 x376)) fun c377 =>
 K ((AV.one (V1.s (SV.bool c377)))) S302)
 (K ((AV.one (V1.s (SV.bool Bool.false)))) S302)
noncomputable def F69_q15 (D J : Disp) (S : St) (S301 : St) (S302 : St) (x397 : Int) (K : AV → St → Prop) : Prop :=
 letK (α := Bool) ((ile (0 : Int) x397)) fun c398 =>
 ifK c398
 (St.at S302 (Bk.new (St.next S301)) 5 fun y399 =>
 uncK y399 fun v400 y401 =>
 SV.cI IntKind.i64 v400 fun x405 =>
 St.at S302 (Bk.new (St.next S)) 1 fun y406 =>
 uncK y406 fun v407 y408 =>
 SV.cL v407 fun y415 =>
 letK (α := Int) ((Int.ofNat (LV.len y415))) fun x416 =>
 letK (α := Bool) ((ilt x405 x416)) fun c417 =>
 K ((AV.one (V1.s (SV.bool c417)))) S302)
 (K ((AV.one (V1.s (SV.bool Bool.false)))) S302)
noncomputable def F69_q16 (D J : Disp) (S : St) (S300 : St) (S301 : St) (S302 : St) (x309 : Int) (c430 : Bool) (K : AV → St → Prop) : Prop :=
 ifK c430
 (J 14 [(AV.one (V1.s (SV.ptr (PV.mk (Bk.new (St.next S)) 0)))), (AV.one (V1.s (SV.ptr (PV.mk (Bk.new (St.next S300)) 0)))), (AV.one (V1.s (SV.ptr (PV.mk (Bk.new (St.next S301)) 0)))), (AV.one (V1.s (SV.int IntKind.i64 x309))), (AV.one (V1.s (SV.bool c430)))] S302 K)
 (letK (α := Bool) ((ieq x309 (19 : Int))) fun c431 =>
 J 14 [(AV.one (V1.s (SV.ptr (PV.mk (Bk.new (St.next S)) 0)))), (AV.one (V1.s (SV.ptr (PV.mk (Bk.new (St.next S300)) 0)))), (AV.one (V1.s (SV.ptr (PV.mk (Bk.new (St.next S301)) 0)))), (AV.one (V1.s (SV.int IntKind.i64 x309))), (AV.one (V1.s (SV.bool c431)))] S302 K)
noncomputable def F69_q17 (D J : Disp) (S : St) (S300 : St) (S301 : St) (S302 : St) (x309 : Int) (c350 : Bool) (K : AV → St → Prop) : Prop :=
 ifK c350
 (St.at S302 (Bk.new (St.next S301)) 5 fun y351 =>
 uncK y351 fun v352 y353 =>
 SV.cI IntKind.i64 v352 fun x357 =>
 F69_q14 D J S S301 S302 x357 K)
 (letK (α := Bool) ((ieq x309 (9 : Int))) fun c390 =>
 ifK c390
 (St.at S302 (Bk.new (St.next S301)) 5 fun y391 =>
 uncK y391 fun v392 y393 =>
 SV.cI IntKind.i64 v392 fun x397 =>
 F69_q15 D J S S301 S302 x397 K)
 (letK (α := Bool) ((ieq x309 (10 : Int))) fun c430 =>
 F69_q16 D J S S300 S301 S302 x309 c430 K))
noncomputable def F69_q18 (D J : Disp) (S : St) (x2_0 : Int) (x2_1 : Int) (x2_2 : Int) (x2_3 : Int) (x2_4 : Int) (x2_5 : Int) (x2_6 : Int) (c2_7 : Bool) (l2_8 : LV) (l2_9 : LV) (l2_10 : LV) (S300 : St) (S301 : St) (K : AV → St → Prop) : Prop :=
 letK (α := St) ((St.add S301 (AO.cells [(SV.int IntKind.i64 x2_0), (SV.int IntKind.i64 x2_1), (SV.int IntKind.i64 x2_2), (SV.int IntKind.i64 x2_3), (SV.int IntKind.i64 x2_4), (SV.int IntKind.i64 x2_5), (SV.int IntKind.i64 x2_6), (SV.bool c2_7), (SV.sl l2_8), (SV.sl l2_9), (SV.sl l2_10)] (Op2.ty 27)))) fun S302 =>
 St.at S302 (Bk.new (St.next S301)) 0 fun y303 =>
 uncK y303 fun v304 y305 =>
 SV.cI IntKind.i64 v304 fun x309 =>
 letK (α := Bool) ((ieq x309 (7 : Int))) fun c310 =>
 ifK c310
 (St.at S302 (Bk.new (St.next S301)) 5 fun y311 =>
 uncK y311 fun v312 y313 =>
 SV.cI IntKind.i64 v312 fun x317 =>
 F69_q13 D J S300 S301 S302 x317 K)
 (letK (α := Bool) ((ieq x309 (8 : Int))) fun c350 =>
 F69_q17 D J S S300 S301 S302 x309 c350 K)
noncomputable def F69_0 (D J : Disp) (l0_0 : LV) (l0_1 : LV) (x0_2 : Int) (s1_0 : (List Nat)) (x1_1 : Int) (x1_2 : Int) (l1_3 : LV) (l1_4 : LV) (c1_5 : Bool) (x2_0 : Int) (x2_1 : Int) (x2_2 : Int) (x2_3 : Int) (x2_4 : Int) (x2_5 : Int) (x2_6 : Int) (c2_7 : Bool) (l2_8 : LV) (l2_9 : LV) (l2_10 : LV) (S : St) (K : AV → St → Prop) : Prop :=
 letK (α := St) ((St.add S (AO.cells [(SV.sl l0_0), (SV.sl l0_1), (SV.int IntKind.i64 x0_2)] (Op2.ty 36)))) fun S300 =>
 letK (α := St) ((St.add S300 (AO.cells [(SV.str s1_0), (SV.int IntKind.i64 x1_1), (SV.int IntKind.i64 x1_2), (SV.sl l1_3), (SV.sl l1_4), (SV.bool c1_5)] (Op2.ty 42)))) fun S301 =>
 F69_q18 D J S x2_0 x2_1 x2_2 x2_3 x2_4 x2_5 x2_6 c2_7 l2_8 l2_9 l2_10 S300 S301 K
noncomputable def X69_0 : X := (.op (.op (.op (.br (.op .ret) (.op (.br (.op .ret) (.op (.br (.op .ret) (.op (.br (.jmp 14 [3, 4, 5, 8, 48]) (.op (.jmp 14 [3, 4, 5, 8, 48]))))))))))))
theorem F69_0_eq (D J : Disp) (l0_0 : LV) (l0_1 : LV) (x0_2 : Int) (s1_0 : (List Nat)) (x1_1 : Int) (x1_2 : Int) (l1_3 : LV) (l1_4 : LV) (c1_5 : Bool) (x2_0 : Int) (x2_1 : Int) (x2_2 : Int) (x2_3 : Int) (x2_4 : Int) (x2_5 : Int) (x2_6 : Int) (c2_7 : Bool) (l2_8 : LV) (l2_9 : LV) (l2_10 : LV) (S : St) (K : AV → St → Prop) : F69_0 D J l0_0 l0_1 x0_2 s1_0 x1_1 x1_2 l1_3 l1_4 c1_5 x2_0 x2_1 x2_2 x2_3 x2_4 x2_5 x2_6 c2_7 l2_8 l2_9 l2_10 S K = execK IrP IrG Go.Proofs.Try.f69 (typed IrP D) J plans69 X69_0 (T69 0).1 (envOf (T69 0).2 [(AV.one (V1.agg [(SV.sl l0_0), (SV.sl l0_1), (SV.int IntKind.i64 x0_2)])), (AV.one (V1.agg [(SV.str s1_0), (SV.int IntKind.i64 x1_1), (SV.int IntKind.i64 x1_2), (SV.sl l1_3), (SV.sl l1_4), (SV.bool c1_5)])), (AV.one (V1.agg [(SV.int IntKind.i64 x2_0), (SV.int IntKind.i64 x2_1), (SV.int IntKind.i64 x2_2), (SV.int IntKind.i64 x2_3), (SV.int IntKind.i64 x2_4), (SV.int IntKind.i64 x2_5), (SV.int IntKind.i64 x2_6), (SV.bool c2_7), (SV.sl l2_8), (SV.sl l2_9), (SV.sl l2_10)]))]) S K := by kernel_rfl
noncomputable def F69_q19 (D J : Disp) (S : St) (y311 : LV) (y320 : LV) (x326 : Int) (y336 : (List Nat)) (x342 : Int) (x348 : Int) (y357 : LV) (y366 : LV) (y370 : Bool) (x379 : Int) (x385 : Int) (x391 : Int) (x397 : Int) (x403 : Int) (x409 : Int) (x415 : Int) (y419 : Bool) (y428 : LV) (y437 : LV) (y446 : LV) (K : AV → St → Prop) : Prop :=
 D 79 [(AV.one (V1.agg [(SV.sl y311), (SV.sl y320), (SV.int IntKind.i64 x326)])), (AV.one (V1.agg [(SV.str y336), (SV.int IntKind.i64 x342), (SV.int IntKind.i64 x348), (SV.sl y357), (SV.sl y366), (SV.bool y370)])), (AV.one (V1.agg [(SV.int IntKind.i64 x379), (SV.int IntKind.i64 x385), (SV.int IntKind.i64 x391), (SV.int IntKind.i64 x397), (SV.int IntKind.i64 x403), (SV.int IntKind.i64 x409), (SV.int IntKind.i64 x415), (SV.bool y419), (SV.sl y428), (SV.sl y437), (SV.sl y446)]))] S fun v447 S448 =>
 scK v447 fun v450 =>
 SV.cB v450 fun y451 =>
 K ((AV.one (V1.s (SV.bool y451)))) S448
noncomputable def F69_q20 (D J : Disp) (S : St) (p5 : PV) (y311 : LV) (y320 : LV) (x326 : Int) (y336 : (List Nat)) (x342 : Int) (x348 : Int) (y357 : LV) (y366 : LV) (y370 : Bool) (K : AV → St → Prop) : Prop :=
 PV.cs p5 fun b371 n372 =>
 St.at S b371 n372 fun y373 =>
 uncK y373 fun v374 y375 =>
 SV.cI IntKind.i64 v374 fun x379 =>
 uncK y375 fun v380 y381 =>
 SV.cI IntKind.i64 v380 fun x385 =>
 uncK y381 fun v386 y387 =>
 SV.cI IntKind.i64 v386 fun x391 =>
 uncK y387 fun v392 y393 =>
 SV.cI IntKind.i64 v392 fun x397 =>
 uncK y393 fun v398 y399 =>
 SV.cI IntKind.i64 v398 fun x403 =>
 uncK y399 fun v404 y405 =>
 SV.cI IntKind.i64 v404 fun x409 =>
 uncK y405 fun v410 y411 =>
 SV.cI IntKind.i64 v410 fun x415 =>
 uncK y411 fun v416 y417 =>
 SV.cB v416 fun y419 =>
 uncK y417 fun v420 y421 =>
 SV.cL v420 fun y428 =>
 uncK y421 fun v429 y430 =>
 SV.cL v429 fun y437 =>
 uncK y430 fun v438 y439 =>
 SV.cL v438 fun y446 =>
 F69_q19 D J S y311 y320 x326 y336 x342 x348 y357 y366 y370 x379 x385 x391 x397 x403 x409 x415 y419 y428 y437 y446 K
noncomputable def F69_q21 (D J : Disp) (S : St) (p4 : PV) (p5 : PV) (y311 : LV) (y320 : LV) (x326 : Int) (K : AV → St → Prop) : Prop :=
 PV.cs p4 fun b327 n328 =>
 St.at S b327 n328 fun y329 =>
 uncK y329 fun v330 y331 =>
 SV.cS v330 fun y336 =>
 uncK y331 fun v337 y338 =>
 SV.cI IntKind.i64 v337 fun x342 =>
 uncK y338 fun v343 y344 =>
 SV.cI IntKind.i64 v343 fun x348 =>
 uncK y344 fun v349 y350 =>
 SV.cL v349 fun y357 =>
 uncK y350 fun v358 y359 =>
 SV.cL v358 fun y366 =>
 uncK y359 fun v367 y368 =>
 SV.cB v367 fun y370 =>
 F69_q20 D J S p5 y311 y320 x326 y336 x342 x348 y357 y366 y370 K
noncomputable def F69_14 (D J : Disp) (p3 : PV) (p4 : PV) (p5 : PV) (x8 : Int) (c48 : Bool) (S : St) (K : AV → St → Prop) : Prop :=
 ifK c48
 (PV.cs p3 fun b300 n301 =>
 St.at S b300 n301 fun y302 =>
 uncK y302 fun v303 y304 =>
 SV.cL v303 fun y311 =>
 uncK y304 fun v312 y313 =>
 SV.cL v312 fun y320 =>
 uncK y313 fun v321 y322 =>
 SV.cI IntKind.i64 v321 fun x326 =>
 F69_q21 D J S p4 p5 y311 y320 x326 K)
 (letK (α := Bool) ((ieq x8 (11 : Int))) fun c543 =>
 ifK c543
 (J 18 [(AV.one (V1.s (SV.ptr p4))), (AV.one (V1.s (SV.ptr p5))), (AV.one (V1.s (SV.int IntKind.i64 x8))), (AV.one (V1.s (SV.bool c543)))] S K)
 (letK (α := Bool) ((ieq x8 (20 : Int))) fun c544 =>
 J 18 [(AV.one (V1.s (SV.ptr p4))), (AV.one (V1.s (SV.ptr p5))), (AV.one (V1.s (SV.int IntKind.i64 x8))), (AV.one (V1.s (SV.bool c544)))] S K))
noncomputable def X69_14 : X := (.br (.op .ret) (.op (.br (.jmp 18 [4, 5, 8, 55]) (.op (.jmp 18 [4, 5, 8, 55])))))
theorem F69_14_eq (D J : Disp) (p3 : PV) (p4 : PV) (p5 : PV) (x8 : Int) (c48 : Bool) (S : St) (K : AV → St → Prop) : F69_14 D J p3 p4 p5 x8 c48 S K = execK IrP IrG Go.Proofs.Try.f69 (typed IrP D) J plans69 X69_14 (T69 14).1 (envOf (T69 14).2 [(AV.one (V1.s (SV.ptr p3))), (AV.one (V1.s (SV.ptr p4))), (AV.one (V1.s (SV.ptr p5))), (AV.one (V1.s (SV.int IntKind.i64 x8))), (AV.one (V1.s (SV.bool c48)))]) S K := by kernel_rfl
noncomputable def F69_q22 (D J : Disp) (S : St) (p5 : PV) (K : AV → St → Prop) : Prop :=
 PV.cs p5 fun b318 n319 =>
 letK (α := Nat) ((n319 + 1)) fun n320 =>
 St.at S b318 n320 fun y321 =>
 uncK y321 fun v322 y323 =>
 SV.cI IntKind.i64 v322 fun x327 =>
 letK (α := Bool) ((ilt (0 : Int) x327)) fun c328 =>
 ifK c328
 (PV.cs p5 fun b329 n330 =>
 letK (α := Nat) ((n330 + 1)) fun n331 =>
 St.at S b329 n331 fun y332 =>
 uncK y332 fun v333 y334 =>
 SV.cI IntKind.i64 v333 fun x338 =>
 letK (α := Bool) ((ilt x338 (20 : Int))) fun c339 =>
 K ((AV.one (V1.s (SV.bool c339)))) S)
 (K ((AV.one (V1.s (SV.bool Bool.false)))) S)
noncomputable def F69_q23 (D J : Disp) (S : St) (p4 : PV) (p5 : PV) (x8 : Int) (c350 : Bool) (K : AV → St → Prop) : Prop :=
 ifK c350
 (J 25 [(AV.one (V1.s (SV.ptr p4))), (AV.one (V1.s (SV.ptr p5))), (AV.one (V1.s (SV.int IntKind.i64 x8))), (AV.one (V1.s (SV.bool c350)))] S K)
 (letK (α := Bool) ((ieq x8 (5 : Int))) fun c351 =>
 ifK c351
 (J 25 [(AV.one (V1.s (SV.ptr p4))), (AV.one (V1.s (SV.ptr p5))), (AV.one (V1.s (SV.int IntKind.i64 x8))), (AV.one (V1.s (SV.bool c351)))] S K)
 (letK (α := Bool) ((ieq x8 (6 : Int))) fun c352 =>
 J 25 [(AV.one (V1.s (SV.ptr p4))), (AV.one (V1.s (SV.ptr p5))), (AV.one (V1.s (SV.int IntKind.i64 x8))), (AV.one (V1.s (SV.bool c352)))] S K))
noncomputable def F69_18 (D J : Disp) (p4 : PV) (p5 : PV) (x8 : Int) (c55 : Bool) (S : St) (K : AV → St → Prop) : Prop :=
 ifK c55
 (PV.cs p5 fun b300 n301 =>
 letK (α := Nat) ((n301 + 8)) fun n302 =>
 St.at S b300 n302 fun y303 =>
 uncK y303 fun v304 y305 =>
 SV.cL v304 fun y312 =>
 letK (α := Int) ((Int.ofNat (LV.len y312))) fun x313 =>
 letK (α := Bool) ((ile x313 (6 : Int))) fun c314 =>
 K ((AV.one (V1.s (SV.bool c314)))) S)
 (letK (α := Bool) ((ieq x8 (3 : Int))) fun c317 =>
 ifK c317
 (F69_q22 D J S p5 K)
 (letK (α := Bool) ((ieq x8 (4 : Int))) fun c350 =>
 F69_q23 D J S p4 p5 x8 c350 K))
noncomputable def X69_18 : X := (.br (.op .ret) (.op (.br (.op .ret) (.op (.br (.jmp 25 [4, 5, 8, 72]) (.op (.br (.jmp 25 [4, 5, 8, 72]) (.op (.jmp 25 [4, 5, 8, 72])))))))))
theorem F69_18_eq (D J : Disp) (p4 : PV) (p5 : PV) (x8 : Int) (c55 : Bool) (S : St) (K : AV → St → Prop) : F69_18 D J p4 p5 x8 c55 S K = execK IrP IrG Go.Proofs.Try.f69 (typed IrP D) J plans69 X69_18 (T69 18).1 (envOf (T69 18).2 [(AV.one (V1.s (SV.ptr p4))), (AV.one (V1.s (SV.ptr p5))), (AV.one (V1.s (SV.int IntKind.i64 x8))), (AV.one (V1.s (SV.bool c55)))]) S K := by kernel_rfl
noncomputable def F69_q24 (D J : Disp) (S : St) (p4 : PV) (p5 : PV) (K : AV → St → Prop) : Prop :=
 PV.cs p5 fun b341 n342 =>
 letK (α := Nat) ((n342 + 3)) fun n343 =>
 St.at S b341 n343 fun y344 =>
 uncK y344 fun v345 y346 =>
 SV.cI IntKind.i64 v345 fun x350 =>
 letK (α := Bool) ((ieq x350 (Int.negSucc 0))) fun c351 =>
 ifK c351
 (K ((AV.one (V1.s (SV.bool Bool.true)))) S)
 (PV.cs p4 fun b352 n353 =>
 letK (α := Nat) ((n353 + 5)) fun n354 =>
 St.at S b352 n354 fun y355 =>
 uncK y355 fun v356 y357 =>
 SV.cB v356 fun y359 =>
 K ((AV.one (V1.s (SV.bool y359)))) S)
noncomputable def F69_q25 (D J : Disp) (S : St) (p5 : PV) (K : AV → St → Prop) : Prop :=
 PV.cs p5 fun b372 n373 =>
 letK (α := Nat) ((n373 + 0)) fun n374 =>
 St.at S b372 n374 fun y375 =>
 uncK y375 fun v376 y377 =>
 SV.cI IntKind.i64 v376 fun x381 =>
 letK (α := Bool) ((ilt (0 : Int) x381)) fun c382 =>
 ifK c382
 (PV.cs p5 fun b383 n384 =>
 letK (α := Nat) ((n384 + 0)) fun n385 =>
 St.at S b383 n385 fun y386 =>
 uncK y386 fun v387 y388 =>
 SV.cI IntKind.i64 v387 fun x392 =>
 letK (α := Bool) ((ilt x392 (22 : Int))) fun c393 =>
 K ((AV.one (V1.s (SV.bool c393)))) S)
 (K ((AV.one (V1.s (SV.bool Bool.false)))) S)
noncomputable def F69_25 (D J : Disp) (p4 : PV) (p5 : PV) (x8 : Int) (c72 : Bool) (S : St) (K : AV → St → Prop) : Prop :=
 ifK c72
 (PV.cs p5 fun b300 n301 =>
 letK (α := Nat) ((n301 + 6)) fun n302 =>
 St.at S b300 n302 fun y303 =>
 uncK y303 fun v304 y305 =>
 SV.cI IntKind.i64 v304 fun x309 =>
 uncK y305 fun v310 y311 =>
 SV.cB v310 fun y313 =>
 D 75 [(AV.one (V1.agg [(SV.int IntKind.i64 x309), (SV.bool y313)]))] S fun v314 S315 =>
 scK v314 fun v317 =>
 SV.cB v317 fun y318 =>
 K ((AV.one (V1.s (SV.bool y318)))) S315)
 (letK (α := Bool) ((ieq x8 (17 : Int))) fun c340 =>
 ifK c340
 (F69_q24 D J S p4 p5 K)
 (F69_q25 D J S p5 K))
noncomputable def X69_25 : X := (.br (.op .ret) (.op (.br (.op .ret) (.op .ret))))
theorem F69_25_eq (D J : Disp) (p4 : PV) (p5 : PV) (x8 : Int) (c72 : Bool) (S : St) (K : AV → St → Prop) : F69_25 D J p4 p5 x8 c72 S K = execK IrP IrG Go.Proofs.Try.f69 (typed IrP D) J plans69 X69_25 (T69 25).1 (envOf (T69 25).2 [(AV.one (V1.s (SV.ptr p4))), (AV.one (V1.s (SV.ptr p5))), (AV.one (V1.s (SV.int IntKind.i64 x8))), (AV.one (V1.s (SV.bool c72)))]) S K := by kernel_rfl
noncomputable abbrev A69_0 (D J : Disp) (vals : List AV) (S : St) (K : AV → St → Prop) : Prop :=
  uncA vals fun a9001 r9002 => avA a9001 fun l9004 => uncK l9004 fun s9006 r9007 => SV.cL s9006 fun l0_0 => uncK r9007 fun s9010 r9011 => SV.cL s9010 fun l0_1 => uncK r9011 fun s9014 r9015 => SV.cI IntKind.i64 s9014 fun x0_2 => endL r9015 <| uncA r9002 fun a9019 r9020 => avA a9019 fun l9022 => uncK l9022 fun s9024 r9025 => SV.cS s9024 fun s1_0 => uncK r9025 fun s9028 r9029 => SV.cI IntKind.i64 s9028 fun x1_1 => uncK r9029 fun s9032 r9033 => SV.cI IntKind.i64 s9032 fun x1_2 => uncK r9033 fun s9036 r9037 => SV.cL s9036 fun l1_3 => uncK r9037 fun s9040 r9041 => SV.cL s9040 fun l1_4 => uncK r9041 fun s9044 r9045 => SV.cB s9044 fun c1_5 => endL r9045 <| uncA r9020 fun a9049 r9050 => avA a9049 fun l9052 => uncK l9052 fun s9054 r9055 => SV.cI IntKind.i64 s9054 fun x2_0 => uncK r9055 fun s9058 r9059 => SV.cI IntKind.i64 s9058 fun x2_1 => uncK r9059 fun s9062 r9063 => SV.cI IntKind.i64 s9062 fun x2_2 => uncK r9063 fun s9066 r9067 => SV.cI IntKind.i64 s9066 fun x2_3 => uncK r9067 fun s9070 r9071 => SV.cI IntKind.i64 s9070 fun x2_4 => uncK r9071 fun s9074 r9075 => SV.cI IntKind.i64 s9074 fun x2_5 => uncK r9075 fun s9078 r9079 => SV.cI IntKind.i64 s9078 fun x2_6 => uncK r9079 fun s9082 r9083 => SV.cB s9082 fun c2_7 => uncK r9083 fun s9086 r9087 => SV.cL s9086 fun l2_8 => uncK r9087 fun s9090 r9091 => SV.cL s9090 fun l2_9 => uncK r9091 fun s9094 r9095 => SV.cL s9094 fun l2_10 => endL r9095 <| endL r9050 <| F69_0 D J l0_0 l0_1 x0_2 s1_0 x1_1 x1_2 l1_3 l1_4 c1_5 x2_0 x2_1 x2_2 x2_3 x2_4 x2_5 x2_6 c2_7 l2_8 l2_9 l2_10 S K
theorem A69_0_ok {D J : Disp} (hD : DOK IrP IrG D) (hJ : JOK IrP IrG Go.Proofs.Try.f69 T69 J) {vals : List AV} {S : St} {K : AV → St → Prop} (h0 : A69_0 D J vals S K) : Runs IrP IrG Go.Proofs.Try.f69 (T69 0).1 (envOf (T69 0).2 vals) S K := by
  obtain ⟨a9001, r9002, rfl, h3⟩ := uncA_some h0
  obtain ⟨l9004, rfl, h5⟩ := avA_some h3
  obtain ⟨s9006, r9007, rfl, h8⟩ := uncK_some h5
  obtain ⟨l0_0, rfl, h9⟩ := cL_some h8
  obtain ⟨s9010, r9011, rfl, h12⟩ := uncK_some h9
  obtain ⟨l0_1, rfl, h13⟩ := cL_some h12
  obtain ⟨s9014, r9015, rfl, h16⟩ := uncK_some h13
  obtain ⟨x0_2, rfl, h17⟩ := cI_some h16
  obtain ⟨rfl, h18⟩ := endL_some h17
  obtain ⟨a9019, r9020, rfl, h21⟩ := uncA_some h18
  obtain ⟨l9022, rfl, h23⟩ := avA_some h21
  obtain ⟨s9024, r9025, rfl, h26⟩ := uncK_some h23
  obtain ⟨s1_0, rfl, h27⟩ := cS_some h26
  obtain ⟨s9028, r9029, rfl, h30⟩ := uncK_some h27
  obtain ⟨x1_1, rfl, h31⟩ := cI_some h30
  obtain ⟨s9032, r9033, rfl, h34⟩ := uncK_some h31
  obtain ⟨x1_2, rfl, h35⟩ := cI_some h34
  obtain ⟨s9036, r9037, rfl, h38⟩ := uncK_some h35
  obtain ⟨l1_3, rfl, h39⟩ := cL_some h38
  obtain ⟨s9040, r9041, rfl, h42⟩ := uncK_some h39
  obtain ⟨l1_4, rfl, h43⟩ := cL_some h42
  obtain ⟨s9044, r9045, rfl, h46⟩ := uncK_some h43
  obtain ⟨c1_5, rfl, h47⟩ := cB_some h46
  obtain ⟨rfl, h48⟩ := endL_some h47
  obtain ⟨a9049, r9050, rfl, h51⟩ := uncA_some h48
  obtain ⟨l9052, rfl, h53⟩ := avA_some h51
  obtain ⟨s9054, r9055, rfl, h56⟩ := uncK_some h53
  obtain ⟨x2_0, rfl, h57⟩ := cI_some h56
  obtain ⟨s9058, r9059, rfl, h60⟩ := uncK_some h57
  obtain ⟨x2_1, rfl, h61⟩ := cI_some h60
  obtain ⟨s9062, r9063, rfl, h64⟩ := uncK_some h61
  obtain ⟨x2_2, rfl, h65⟩ := cI_some h64
  obtain ⟨s9066, r9067, rfl, h68⟩ := uncK_some h65
  obtain ⟨x2_3, rfl, h69⟩ := cI_some h68
  obtain ⟨s9070, r9071, rfl, h72⟩ := uncK_some h69
  obtain ⟨x2_4, rfl, h73⟩ := cI_some h72
  obtain ⟨s9074, r9075, rfl, h76⟩ := uncK_some h73
  obtain ⟨x2_5, rfl, h77⟩ := cI_some h76
  obtain ⟨s9078, r9079, rfl, h80⟩ := uncK_some h77
  obtain ⟨x2_6, rfl, h81⟩ := cI_some h80
  obtain ⟨s9082, r9083, rfl, h84⟩ := uncK_some h81
  obtain ⟨c2_7, rfl, h85⟩ := cB_some h84
  obtain ⟨s9086, r9087, rfl, h88⟩ := uncK_some h85
  obtain ⟨l2_8, rfl, h89⟩ := cL_some h88
  obtain ⟨s9090, r9091, rfl, h92⟩ := uncK_some h89
  obtain ⟨l2_9, rfl, h93⟩ := cL_some h92
  obtain ⟨s9094, r9095, rfl, h96⟩ := uncK_some h93
  obtain ⟨l2_10, rfl, h97⟩ := cL_some h96
  obtain ⟨rfl, h98⟩ := endL_some h97
  obtain ⟨rfl, h99⟩ := endL_some h98
  have hq := Eq.mp (F69_0_eq D J l0_0 l0_1 x0_2 s1_0 x1_1 x1_2 l1_3 l1_4 c1_5 x2_0 x2_1 x2_2 x2_3 x2_4 x2_5 x2_6 c2_7 l2_8 l2_9 l2_10 S K) h99
  exact execK_runs hD.typed Ir_zero Ir_mixed hJ X69_0 (T69 0).1 (envOf (T69 0).2 _) S K (chk_of (by kernel_rfl) (by kernel_rfl)) hq
noncomputable abbrev A69_14 (D J : Disp) (vals : List AV) (S : St) (K : AV → St → Prop) : Prop :=
  uncA vals fun a9001 r9002 => scK a9001 fun s9004 => SV.cP s9004 fun p3 => uncA r9002 fun a9007 r9008 => scK a9007 fun s9010 => SV.cP s9010 fun p4 => uncA r9008 fun a9013 r9014 => scK a9013 fun s9016 => SV.cP s9016 fun p5 => uncA r9014 fun a9019 r9020 => scK a9019 fun s9022 => SV.cI IntKind.i64 s9022 fun x8 => uncA r9020 fun a9025 r9026 => scK a9025 fun s9028 => SV.cB s9028 fun c48 => endL r9026 <| F69_14 D J p3 p4 p5 x8 c48 S K
theorem A69_14_ok {D J : Disp} (hD : DOK IrP IrG D) (hJ : JOK IrP IrG Go.Proofs.Try.f69 T69 J) {vals : List AV} {S : St} {K : AV → St → Prop} (h0 : A69_14 D J vals S K) : Runs IrP IrG Go.Proofs.Try.f69 (T69 14).1 (envOf (T69 14).2 vals) S K := by
  obtain ⟨a9001, r9002, rfl, h3⟩ := uncA_some h0
  obtain ⟨s9004, rfl, h5⟩ := scK_some h3
  obtain ⟨p3, rfl, h6⟩ := cP_some h5
  obtain ⟨a9007, r9008, rfl, h9⟩ := uncA_some h6
  obtain ⟨s9010, rfl, h11⟩ := scK_some h9
  obtain ⟨p4, rfl, h12⟩ := cP_some h11
  obtain ⟨a9013, r9014, rfl, h15⟩ := uncA_some h12
  obtain ⟨s9016, rfl, h17⟩ := scK_some h15
  obtain ⟨p5, rfl, h18⟩ := cP_some h17
  obtain ⟨a9019, r9020, rfl, h21⟩ := uncA_some h18
  obtain ⟨s9022, rfl, h23⟩ := scK_some h21
  obtain ⟨x8, rfl, h24⟩ := cI_some h23
  obtain ⟨a9025, r9026, rfl, h27⟩ := uncA_some h24
  obtain ⟨s9028, rfl, h29⟩ := scK_some h27
  obtain ⟨c48, rfl, h30⟩ := cB_some h29
  obtain ⟨rfl, h31⟩ := endL_some h30
  have hq := Eq.mp (F69_14_eq D J p3 p4 p5 x8 c48 S K) h31
  exact execK_runs hD.typed Ir_zero Ir_mixed hJ X69_14 (T69 14).1 (envOf (T69 14).2 _) S K (chk_of (by kernel_rfl) (by kernel_rfl)) hq
noncomputable abbrev A69_18 (D J : Disp) (vals : List AV) (S : St) (K : AV → St → Prop) : Prop :=
  uncA vals fun a9001 r9002 => scK a9001 fun s9004 => SV.cP s9004 fun p4 => uncA r9002 fun a9007 r9008 => scK a9007 fun s9010 => SV.cP s9010 fun p5 => uncA r9008 fun a9013 r9014 => scK a9013 fun s9016 => SV.cI IntKind.i64 s9016 fun x8 => uncA r9014 fun a9019 r9020 => scK a9019 fun s9022 => SV.cB s9022 fun c55 => endL r9020 <| F69_18 D J p4 p5 x8 c55 S K
theorem A69_18_ok {D J : Disp} (hD : DOK IrP IrG D) (hJ : JOK IrP IrG Go.Proofs.Try.f69 T69 J) {vals : List AV} {S : St} {K : AV → St → Prop} (h0 : A69_18 D J vals S K) : Runs IrP IrG Go.Proofs.Try.f69 (T69 18).1 (envOf (T69 18).2 vals) S K := by
  obtain ⟨a9001, r9002, rfl, h3⟩ := uncA_some h0
  obtain ⟨s9004, rfl, h5⟩ := scK_some h3
  obtain ⟨p4, rfl, h6⟩ := cP_some h5
  obtain ⟨a9007, r9008, rfl, h9⟩ := uncA_some h6
  obtain ⟨s9010, rfl, h11⟩ := scK_some h9
  obtain ⟨p5, rfl, h12⟩ := cP_some h11
  obtain ⟨a9013, r9014, rfl, h15⟩ := uncA_some h12
  obtain ⟨s9016, rfl, h17⟩ := scK_some h15
  obtain ⟨x8, rfl, h18⟩ := cI_some h17
  obtain ⟨a9019, r9020, rfl, h21⟩ := uncA_some h18
  obtain ⟨s9022, rfl, h23⟩ := scK_some h21
  obtain ⟨c55, rfl, h24⟩ := cB_some h23
  obtain ⟨rfl, h25⟩ := endL_some h24
  have hq := Eq.mp (F69_18_eq D J p4 p5 x8 c55 S K) h25
  exact execK_runs hD.typed Ir_zero Ir_mixed hJ X69_18 (T69 18).1 (envOf (T69 18).2 _) S K (chk_of (by kernel_rfl) (by kernel_rfl)) hq
noncomputable abbrev A69_25 (D J : Disp) (vals : List AV) (S : St) (K : AV → St → Prop) : Prop :=
  uncA vals fun a9001 r9002 => scK a9001 fun s9004 => SV.cP s9004 fun p4 => uncA r9002 fun a9007 r9008 => scK a9007 fun s9010 => SV.cP s9010 fun p5 => uncA r9008 fun a9013 r9014 => scK a9013 fun s9016 => SV.cI IntKind.i64 s9016 fun x8 => uncA r9014 fun a9019 r9020 => scK a9019 fun s9022 => SV.cB s9022 fun c72 => endL r9020 <| F69_25 D J p4 p5 x8 c72 S K
theorem A69_25_ok {D J : Disp} (hD : DOK IrP IrG D) (hJ : JOK IrP IrG Go.Proofs.Try.f69 T69 J) {vals : List AV} {S : St} {K : AV → St → Prop} (h0 : A69_25 D J vals S K) : Runs IrP IrG Go.Proofs.Try.f69 (T69 25).1 (envOf (T69 25).2 vals) S K := by
  obtain ⟨a9001, r9002, rfl, h3⟩ := uncA_some h0
  obtain ⟨s9004, rfl, h5⟩ := scK_some h3
  obtain ⟨p4, rfl, h6⟩ := cP_some h5
  obtain ⟨a9007, r9008, rfl, h9⟩ := uncA_some h6
  obtain ⟨s9010, rfl, h11⟩ := scK_some h9
  obtain ⟨p5, rfl, h12⟩ := cP_some h11
  obtain ⟨a9013, r9014, rfl, h15⟩ := uncA_some h12
  obtain ⟨s9016, rfl, h17⟩ := scK_some h15
  obtain ⟨x8, rfl, h18⟩ := cI_some h17
  obtain ⟨a9019, r9020, rfl, h21⟩ := uncA_some h18
  obtain ⟨s9022, rfl, h23⟩ := scK_some h21
  obtain ⟨c72, rfl, h24⟩ := cB_some h23
  obtain ⟨rfl, h25⟩ := endL_some h24
  have hq := Eq.mp (F69_25_eq D J p4 p5 x8 c72 S K) h25
  exact execK_runs hD.typed Ir_zero Ir_mixed hJ X69_25 (T69 25).1 (envOf (T69 25).2 _) S K (chk_of (by kernel_rfl) (by kernel_rfl)) hq
noncomputable def J69 (D : Disp) (k : Nat) : Disp := Nat.rec (motive := fun _ => Disp) Disp.no (fun _ ih => Disp.add 0 (A69_0 D ih) <| Disp.add 14 (A69_14 D ih) <| Disp.add 18 (A69_18 D ih) <| Disp.add 25 (A69_25 D ih) <| Disp.no) k
theorem J69_ok {D : Disp} (hD : DOK IrP IrG D) : ∀ k, JOK IrP IrG Go.Proofs.Try.f69 T69 (J69 D k)
  | 0 => JOK.no
  | k + 1 => JOK.add (ltB_ok (by kernel_rfl)) (fun vals S K h => A69_0_ok hD (J69_ok hD k) h) <| JOK.add (ltB_ok (by kernel_rfl)) (fun vals S K h => A69_14_ok hD (J69_ok hD k) h) <| JOK.add (ltB_ok (by kernel_rfl)) (fun vals S K h => A69_18_ok hD (J69_ok hD k) h) <| JOK.add (ltB_ok (by kernel_rfl)) (fun vals S K h => A69_25_ok hD (J69_ok hD k) h) <| JOK.no
theorem E69_ok {D : Disp} (hD : DOK IrP IrG D) (k : Nat) {args : List AV} {S : St} {K : AV → St → Prop} (h : A69_0 D (J69 D k) args S K) : CallE IrP IrG 69 args S K := by
  have hr := A69_0_ok hD (J69_ok hD k) h
  have hl : args.length = 3 := by
    have h0 := h
    obtain ⟨a9001, r9002, rfl, h3⟩ := uncA_some h0
    obtain ⟨l9004, rfl, h5⟩ := avA_some h3
    obtain ⟨s9006, r9007, rfl, h8⟩ := uncK_some h5
    obtain ⟨l0_0, rfl, h9⟩ := cL_some h8
    obtain ⟨s9010, r9011, rfl, h12⟩ := uncK_some h9
    obtain ⟨l0_1, rfl, h13⟩ := cL_some h12
    obtain ⟨s9014, r9015, rfl, h16⟩ := uncK_some h13
    obtain ⟨x0_2, rfl, h17⟩ := cI_some h16
    obtain ⟨rfl, h18⟩ := endL_some h17
    obtain ⟨a9019, r9020, rfl, h21⟩ := uncA_some h18
    obtain ⟨l9022, rfl, h23⟩ := avA_some h21
    obtain ⟨s9024, r9025, rfl, h26⟩ := uncK_some h23
    obtain ⟨s1_0, rfl, h27⟩ := cS_some h26
    obtain ⟨s9028, r9029, rfl, h30⟩ := uncK_some h27
    obtain ⟨x1_1, rfl, h31⟩ := cI_some h30
    obtain ⟨s9032, r9033, rfl, h34⟩ := uncK_some h31
    obtain ⟨x1_2, rfl, h35⟩ := cI_some h34
    obtain ⟨s9036, r9037, rfl, h38⟩ := uncK_some h35
    obtain ⟨l1_3, rfl, h39⟩ := cL_some h38
    obtain ⟨s9040, r9041, rfl, h42⟩ := uncK_some h39
    obtain ⟨l1_4, rfl, h43⟩ := cL_some h42
    obtain ⟨s9044, r9045, rfl, h46⟩ := uncK_some h43
    obtain ⟨c1_5, rfl, h47⟩ := cB_some h46
    obtain ⟨rfl, h48⟩ := endL_some h47
    obtain ⟨a9049, r9050, rfl, h51⟩ := uncA_some h48
    obtain ⟨l9052, rfl, h53⟩ := avA_some h51
    obtain ⟨s9054, r9055, rfl, h56⟩ := uncK_some h53
    obtain ⟨x2_0, rfl, h57⟩ := cI_some h56
    obtain ⟨s9058, r9059, rfl, h60⟩ := uncK_some h57
    obtain ⟨x2_1, rfl, h61⟩ := cI_some h60
    obtain ⟨s9062, r9063, rfl, h64⟩ := uncK_some h61
    obtain ⟨x2_2, rfl, h65⟩ := cI_some h64
    obtain ⟨s9066, r9067, rfl, h68⟩ := uncK_some h65
    obtain ⟨x2_3, rfl, h69⟩ := cI_some h68
    obtain ⟨s9070, r9071, rfl, h72⟩ := uncK_some h69
    obtain ⟨x2_4, rfl, h73⟩ := cI_some h72
    obtain ⟨s9074, r9075, rfl, h76⟩ := uncK_some h73
    obtain ⟨x2_5, rfl, h77⟩ := cI_some h76
    obtain ⟨s9078, r9079, rfl, h80⟩ := uncK_some h77
    obtain ⟨x2_6, rfl, h81⟩ := cI_some h80
    obtain ⟨s9082, r9083, rfl, h84⟩ := uncK_some h81
    obtain ⟨c2_7, rfl, h85⟩ := cB_some h84
    obtain ⟨s9086, r9087, rfl, h88⟩ := uncK_some h85
    obtain ⟨l2_8, rfl, h89⟩ := cL_some h88
    obtain ⟨s9090, r9091, rfl, h92⟩ := uncK_some h89
    obtain ⟨l2_9, rfl, h93⟩ := cL_some h92
    obtain ⟨s9094, r9095, rfl, h96⟩ := uncK_some h93
    obtain ⟨l2_10, rfl, h97⟩ := cL_some h96
    obtain ⟨rfl, h98⟩ := endL_some h97
    obtain ⟨rfl, h99⟩ := endL_some h98
    rfl
  refine callOK_of (fn := Go.Proofs.Try.f69) (c := (match Go.Proofs.Try.f69.body with | some c => c | none => .skip)) (by kernel_rfl) (by kernel_rfl) (by kernel_rfl) (by rw [hl]; kernel_rfl) (by kernel_rfl) ?_
  rw [hl]
  exact hr
noncomputable def plans70 (i : Nat) : Plan := if Nat.beq i 1 then [(0, []), (1, [0]), (3, []), (4, [3]), (6, []), (7, [6]), (2, [1, 0]), (9, [0, 1, 2, 3, 4, 6, 7]), (5, [4, 2, 3, 1, 0]), (8, [7, 5, 6, 4, 2, 3, 1, 0]), (10, [9, 2, 8, 0, 1, 3, 4, 6, 7, 5]), (11, [0, 1, 2, 3, 4, 5, 6, 7, 9, 10, 8]), (12, [11, 5, 10, 0, 1, 2, 3, 4, 6, 7, 9, 8]), (13, [0, 1, 2, 3, 4, 5, 6, 7, 8, 9, 10, 11, 12]), (14, [13, 8, 12, 0, 1, 2, 3, 4, 5, 6, 7, 9, 10, 11])] else []
noncomputable def T70 (p : Nat) : List Item × List Nat := bif Nat.beq p 0 then ([.code (match Go.Proofs.Try.f70.body with | some c => c | none => .skip)], [0]) else
  ([], [])
noncomputable def F70_q0 (D J : Disp) (S300 : St) (S469 : St) (K : AV → St → Prop) : Prop :=
 St.at S469 (Bk.new (St.next S300)) 0 fun y470 =>
 uncK y470 fun v471 y472 =>
 SV.cI IntKind.i64 v471 fun x476 =>
 uncK y472 fun v477 y478 =>
 SV.cI IntKind.i64 v477 fun x482 =>
 uncK y478 fun v483 y484 =>
 SV.cI IntKind.i64 v483 fun x488 =>
 uncK y484 fun v489 y490 =>
 SV.cI IntKind.i64 v489 fun x494 =>
 uncK y490 fun v495 y496 =>
 SV.cI IntKind.i64 v495 fun x500 =>
 uncK y496 fun v501 y502 =>
 SV.cI IntKind.i64 v501 fun x506 =>
 uncK y502 fun v507 y508 =>
 SV.cI IntKind.i64 v507 fun x512 =>
 uncK y508 fun v513 y514 =>
 SV.cB v513 fun y516 =>
 uncK y514 fun v517 y518 =>
 SV.cL v517 fun y525 =>
 uncK y518 fun v526 y527 =>
 SV.cL v526 fun y534 =>
 uncK y527 fun v535 y536 =>
 SV.cL v535 fun y543 =>
 K ((AV.one (V1.agg [(SV.int IntKind.i64 x476), (SV.int IntKind.i64 x482), (SV.int IntKind.i64 x488), (SV.int IntKind.i64 x494), (SV.int IntKind.i64 x500), (SV.int IntKind.i64 x506), (SV.int IntKind.i64 x512), (SV.bool y516), (SV.sl y525), (SV.sl y534), (SV.sl y543)]))) S469
noncomputable def F70_q1 (D J : Disp) (S : St) (S300 : St) (S394 : St) (K : AV → St → Prop) : Prop :=
 St.at S394 (Bk.new (St.next S)) 0 fun y395 =>
 uncK y395 fun v396 y397 =>
 SV.cI IntKind.i64 v396 fun x401 =>
 uncK y397 fun v402 y403 =>
 SV.cI IntKind.i64 v402 fun x407 =>
 uncK y403 fun v408 y409 =>
 SV.cI IntKind.i64 v408 fun x413 =>
 uncK y409 fun v414 y415 =>
 SV.cI IntKind.i64 v414 fun x419 =>
 uncK y415 fun v420 y421 =>
 SV.cI IntKind.i64 v420 fun x425 =>
 uncK y421 fun v426 y427 =>
 SV.cI IntKind.i64 v426 fun x431 =>
 uncK y427 fun v432 y433 =>
 SV.cI IntKind.i64 v432 fun x437 =>
 uncK y433 fun v438 y439 =>
 SV.cB v438 fun y441 =>
 uncK y439 fun v442 y443 =>
 SV.cL v442 fun y450 =>
 uncK y443 fun v451 y452 =>
 SV.cL v451 fun y459 =>
 uncK y452 fun v460 y461 =>
 SV.cL v460 fun y468 =>
 St.wr S394 (Bk.new (St.next S300)) 0 [(SV.int IntKind.i64 x401), (SV.int IntKind.i64 x407), (SV.int IntKind.i64 x413), (SV.int IntKind.i64 x419), (SV.int IntKind.i64 x425), (SV.int IntKind.i64 x431), (SV.int IntKind.i64 x437), (SV.bool y441), (SV.sl y450), (SV.sl y459), (SV.sl y468)] fun S469 =>
 F70_q0 D J S300 S469 K
noncomputable def F70_q2 (D J : Disp) (S : St) (S300 : St) (y321 : LV) (y331 : LV) (S333 : St) (y341 : LV) (K : AV → St → Prop) : Prop :=
 D 48 [(AV.one (V1.s (SV.sl y321)))] S333 fun v362 S363 =>
 scK v362 fun v365 =>
 SV.cL v365 fun y371 =>
 St.at S363 (Bk.new (St.next S)) 10 fun y372 =>
 uncK y372 fun v373 y374 =>
 SV.cL v373 fun y381 =>
 req (sameAV (AV.one (V1.s (SV.sl y381))) (AV.one (V1.s (SV.sl y331)))) <|
 D 80 [(AV.one (V1.s (SV.sl y331)))] S363 fun v382 S383 =>
 scK v382 fun v385 =>
 SV.cL v385 fun y391 =>
 St.wr S383 (Bk.new (St.next S)) 8 [(SV.sl y341)] fun S392 =>
 St.wr S392 (Bk.new (St.next S)) 9 [(SV.sl y371)] fun S393 =>
 St.wr S393 (Bk.new (St.next S)) 10 [(SV.sl y391)] fun S394 =>
 F70_q1 D J S S300 S394 K
noncomputable def F70_q3 (D J : Disp) (S : St) (S300 : St) (S301 : St) (y311 : LV) (y321 : LV) (y331 : LV) (K : AV → St → Prop) : Prop :=
 D 48 [(AV.one (V1.s (SV.sl y311)))] S301 fun v332 S333 =>
 scK v332 fun v335 =>
 SV.cL v335 fun y341 =>
 St.at S333 (Bk.new (St.next S)) 10 fun y342 =>
 uncK y342 fun v343 y344 =>
 SV.cL v343 fun y351 =>
 req (sameAV (AV.one (V1.s (SV.sl y351))) (AV.one (V1.s (SV.sl y331)))) <|
 St.at S333 (Bk.new (St.next S)) 9 fun y352 =>
 uncK y352 fun v353 y354 =>
 SV.cL v353 fun y361 =>
 req (sameAV (AV.one (V1.s (SV.sl y361))) (AV.one (V1.s (SV.sl y321)))) <|
 F70_q2 D J S S300 y321 y331 S333 y341 K
noncomputable def F70_q4 (D J : Disp) (S : St) (S300 : St) (K : AV → St → Prop) : Prop :=
 letK (α := St) ((St.add S300 (AO.cells [(SV.int IntKind.i64 (0 : Int)), (SV.int IntKind.i64 (0 : Int)), (SV.int IntKind.i64 (0 : Int)), (SV.int IntKind.i64 (0 : Int)), (SV.int IntKind.i64 (0 : Int)), (SV.int IntKind.i64 (0 : Int)), (SV.int IntKind.i64 (0 : Int)), (SV.bool Bool.false), (SV.sl LV.nil), (SV.sl LV.nil), (SV.sl LV.nil)] (Op2.ty 27)))) fun S301 =>
 St.at S301 (Bk.new (St.next S)) 8 fun y302 =>
 uncK y302 fun v303 y304 =>
 SV.cL v303 fun y311 =>
 St.at S301 (Bk.new (St.next S)) 9 fun y312 =>
 uncK y312 fun v313 y314 =>
 SV.cL v313 fun y321 =>
 St.at S301 (Bk.new (St.next S)) 10 fun y322 =>
 uncK y322 fun v323 y324 =>
 SV.cL v323 fun y331 =>
 F70_q3 D J S S300 S301 y311 y321 y331 K
noncomputable def F70_0 (D J : Disp) (x0_0 : Int) (x0_1 : Int) (x0_2 : Int) (x0_3 : Int) (x0_4 : Int) (x0_5 : Int) (x0_6 : Int) (c0_7 : Bool) (l0_8 : LV) (l0_9 : LV) (l0_10 : LV) (S : St) (K : AV → St → Prop) : Prop :=
 letK (α := St) ((St.add S (AO.cells [(SV.int IntKind.i64 x0_0), (SV.int IntKind.i64 x0_1), (SV.int IntKind.i64 x0_2), (SV.int IntKind.i64 x0_3), (SV.int IntKind.i64 x0_4), (SV.int IntKind.i64 x0_5), (SV.int IntKind.i64 x0_6), (SV.bool c0_7), (SV.sl l0_8), (SV.sl l0_9), (SV.sl l0_10)] (Op2.ty 27)))) fun S300 =>
 F70_q4 D J S S300 K
noncomputable def X70_0 : X := (.op (.op (.op .ret)))
theorem F70_0_eq (D J : Disp) (x0_0 : Int) (x0_1 : Int) (x0_2 : Int) (x0_3 : Int) (x0_4 : Int) (x0_5 : Int) (x0_6 : Int) (c0_7 : Bool) (l0_8 : LV) (l0_9 : LV) (l0_10 : LV) (S : St) (K : AV → St → Prop) : F70_0 D J x0_0 x0_1 x0_2 x0_3 x0_4 x0_5 x0_6 c0_7 l0_8 l0_9 l0_10 S K = execK IrP IrG Go.Proofs.Try.f70 (typed IrP D) J plans70 X70_0 (T70 0).1 (envOf (T70 0).2 [(AV.one (V1.agg [(SV.int IntKind.i64 x0_0), (SV.int IntKind.i64 x0_1), (SV.int IntKind.i64 x0_2), (SV.int IntKind.i64 x0_3), (SV.int IntKind.i64 x0_4), (SV.int IntKind.i64 x0_5), (SV.int IntKind.i64 x0_6), (SV.bool c0_7), (SV.sl l0_8), (SV.sl l0_9), (SV.sl l0_10)]))]) S K := by kernel_rfl
noncomputable abbrev A70_0 (D J : Disp) (vals : List AV) (S : St) (K : AV → St → Prop) : Prop :=
  uncA vals fun a9001 r9002 => avA a9001 fun l9004 => uncK l9004 fun s9006 r9007 => SV.cI IntKind.i64 s9006 fun x0_0 => uncK r9007 fun s9010 r9011 => SV.cI IntKind.i64 s9010 fun x0_1 => uncK r9011 fun s9014 r9015 => SV.cI IntKind.i64 s9014 fun x0_2 => uncK r9015 fun s9018 r9019 => SV.cI IntKind.i64 s9018 fun x0_3 => uncK r9019 fun s9022 r9023 => SV.cI IntKind.i64 s9022 fun x0_4 => uncK r9023 fun s9026 r9027 => SV.cI IntKind.i64 s9026 fun x0_5 => uncK r9027 fun s9030 r9031 => SV.cI IntKind.i64 s9030 fun x0_6 => uncK r9031 fun s9034 r9035 => SV.cB s9034 fun c0_7 => uncK r9035 fun s9038 r9039 => SV.cL s9038 fun l0_8 => uncK r9039 fun s9042 r9043 => SV.cL s9042 fun l0_9 => uncK r9043 fun s9046 r9047 => SV.cL s9046 fun l0_10 => endL r9047 <| endL r9002 <| F70_0 D J x0_0 x0_1 x0_2 x0_3 x0_4 x0_5 x0_6 c0_7 l0_8 l0_9 l0_10 S K
theorem A70_0_ok {D J : Disp} (hD : DOK IrP IrG D) (hJ : JOK IrP IrG Go.Proofs.Try.f70 T70 J) {vals : List AV} {S : St} {K : AV → St → Prop} (h0 : A70_0 D J vals S K) : Runs IrP IrG Go.Proofs.Try.f70 (T70 0).1 (envOf (T70 0).2 vals) S K := by
  obtain ⟨a9001, r9002, rfl, h3⟩ := uncA_some h0
  obtain ⟨l9004, rfl, h5⟩ := avA_some h3
  obtain ⟨s9006, r9007, rfl, h8⟩ := uncK_some h5
  obtain ⟨x0_0, rfl, h9⟩ := cI_some h8
  obtain ⟨s9010, r9011, rfl, h12⟩ := uncK_some h9
  obtain ⟨x0_1, rfl, h13⟩ := cI_some h12
  obtain ⟨s9014, r9015, rfl, h16⟩ := uncK_some h13
  obtain ⟨x0_2, rfl, h17⟩ := cI_some h16
  obtain ⟨s9018, r9019, rfl, h20⟩ := uncK_some h17
  obtain ⟨x0_3, rfl, h21⟩ := cI_some h20
  obtain ⟨s9022, r9023, rfl, h24⟩ := uncK_some h21
  obtain ⟨x0_4, rfl, h25⟩ := cI_some h24
  obtain ⟨s9026, r9027, rfl, h28⟩ := uncK_some h25
  obtain ⟨x0_5, rfl, h29⟩ := cI_some h28
  obtain ⟨s9030, r9031, rfl, h32⟩ := uncK_some h29
  obtain ⟨x0_6, rfl, h33⟩ := cI_some h32
  obtain ⟨s9034, r9035, rfl, h36⟩ := uncK_some h33
  obtain ⟨c0_7, rfl, h37⟩ := cB_some h36
  obtain ⟨s9038, r9039, rfl, h40⟩ := uncK_some h37
  obtain ⟨l0_8, rfl, h41⟩ := cL_some h40
  obtain ⟨s9042, r9043, rfl, h44⟩ := uncK_some h41
  obtain ⟨l0_9, rfl, h45⟩ := cL_some h44
  obtain ⟨s9046, r9047, rfl, h48⟩ := uncK_some h45
  obtain ⟨l0_10, rfl, h49⟩ := cL_some h48
  obtain ⟨rfl, h50⟩ := endL_some h49
  obtain ⟨rfl, h51⟩ := endL_some h50
  have hq := Eq.mp (F70_0_eq D J x0_0 x0_1 x0_2 x0_3 x0_4 x0_5 x0_6 c0_7 l0_8 l0_9 l0_10 S K) h51
  exact execK_runs hD.typed Ir_zero Ir_mixed hJ X70_0 (T70 0).1 (envOf (T70 0).2 _) S K (chk_of (by kernel_rfl) (by kernel_rfl)) hq
noncomputable def J70 (D : Disp) (k : Nat) : Disp := Nat.rec (motive := fun _ => Disp) Disp.no (fun _ ih => Disp.add 0 (A70_0 D ih) <| Disp.no) k
theorem J70_ok {D : Disp} (hD : DOK IrP IrG D) : ∀ k, JOK IrP IrG Go.Proofs.Try.f70 T70 (J70 D k)
  | 0 => JOK.no
  | k + 1 => JOK.add (ltB_ok (by kernel_rfl)) (fun vals S K h => A70_0_ok hD (J70_ok hD k) h) <| JOK.no
theorem E70_ok {D : Disp} (hD : DOK IrP IrG D) (k : Nat) {args : List AV} {S : St} {K : AV → St → Prop} (h : A70_0 D (J70 D k) args S K) : CallE IrP IrG 70 args S K := by
  have hr := A70_0_ok hD (J70_ok hD k) h
  have hl : args.length = 1 := by
    have h0 := h
    obtain ⟨a9001, r9002, rfl, h3⟩ := uncA_some h0
    obtain ⟨l9004, rfl, h5⟩ := avA_some h3
    obtain ⟨s9006, r9007, rfl, h8⟩ := uncK_some h5
    obtain ⟨x0_0, rfl, h9⟩ := cI_some h8
    obtain ⟨s9010, r9011, rfl, h12⟩ := uncK_some h9
    obtain ⟨x0_1, rfl, h13⟩ := cI_some h12
    obtain ⟨s9014, r9015, rfl, h16⟩ := uncK_some h13
    obtain ⟨x0_2, rfl, h17⟩ := cI_some h16
    obtain ⟨s9018, r9019, rfl, h20⟩ := uncK_some h17
    obtain ⟨x0_3, rfl, h21⟩ := cI_some h20
    obtain ⟨s9022, r9023, rfl, h24⟩ := uncK_some h21
    obtain ⟨x0_4, rfl, h25⟩ := cI_some h24
    obtain ⟨s9026, r9027, rfl, h28⟩ := uncK_some h25
    obtain ⟨x0_5, rfl, h29⟩ := cI_some h28
    obtain ⟨s9030, r9031, rfl, h32⟩ := uncK_some h29
    obtain ⟨x0_6, rfl, h33⟩ := cI_some h32
    obtain ⟨s9034, r9035, rfl, h36⟩ := uncK_some h33
    obtain ⟨c0_7, rfl, h37⟩ := cB_some h36
    obtain ⟨s9038, r9039, rfl, h40⟩ := uncK_some h37
    obtain ⟨l0_8, rfl, h41⟩ := cL_some h40
    obtain ⟨s9042, r9043, rfl, h44⟩ := uncK_some h41
    obtain ⟨l0_9, rfl, h45⟩ := cL_some h44
    obtain ⟨s9046, r9047, rfl, h48⟩ := uncK_some h45
    obtain ⟨l0_10, rfl, h49⟩ := cL_some h48
    obtain ⟨rfl, h50⟩ := endL_some h49
    obtain ⟨rfl, h51⟩ := endL_some h50
    rfl
  refine callOK_of (fn := Go.Proofs.Try.f70) (c := (match Go.Proofs.Try.f70.body with | some c => c | none => .skip)) (by kernel_rfl) (by kernel_rfl) (by kernel_rfl) (by rw [hl]; kernel_rfl) (by kernel_rfl) ?_
  rw [hl]
  exact hr
noncomputable def plans71 (i : Nat) : Plan := if Nat.beq i 6 then [(0, []), (1, []), (2, [0, 1]), (3, [2, 0, 1]), (4, []), (5, []), (6, [4, 5]), (7, [6, 4, 5]), (8, [3, 7, 2, 6, 0, 1, 4, 5])] else []
noncomputable def T71 (p : Nat) : List Item × List Nat := bif Nat.beq p 0 then ([.code (match Go.Proofs.Try.f71.body with | some c => c | none => .skip)], [0, 1]) else
  bif Nat.beq p 6 then (navs [.op, .op, .el, .op] [.code (match Go.Proofs.Try.f71.body with | some c => c | none => .skip)], [0, 1, 12, 13]) else
  ([], [])
noncomputable def X71_0 : X := (.op (.op (.br (.op .ret) (.op (.jmp 6 [0, 1, 12, 13])))))
noncomputable def X71_6 : X := (.op (.br (.op (.op (.br (.op .ret) (.op (.jmp 6 [0, 1, 12, 13]))))) (.op .ret)))
noncomputable def A71_0 (D J : Disp) (vals : List AV) (S : St) (K : AV → St → Prop) : Prop := req (Nat.beq vals.length 2) (execK IrP IrG Go.Proofs.Try.f71 (typed IrP D) J plans71 X71_0 (T71 0).1 (envOf (T71 0).2 vals) S K)
theorem A71_0_ok {D J : Disp} (hD : DOK IrP IrG D) (hJ : JOK IrP IrG Go.Proofs.Try.f71 T71 J) {vals : List AV} {S : St} {K : AV → St → Prop} (h0 : A71_0 D J vals S K) : Runs IrP IrG Go.Proofs.Try.f71 (T71 0).1 (envOf (T71 0).2 vals) S K :=
  execK_runs hD.typed Ir_zero Ir_mixed hJ X71_0 (T71 0).1 (envOf (T71 0).2 vals) S K (chk_of (by kernel_rfl) (by kernel_rfl)) (req_and h0).2
noncomputable def A71_6 (D J : Disp) (vals : List AV) (S : St) (K : AV → St → Prop) : Prop := req (Nat.beq vals.length 4) (execK IrP IrG Go.Proofs.Try.f71 (typed IrP D) J plans71 X71_6 (T71 6).1 (envOf (T71 6).2 vals) S K)
theorem A71_6_ok {D J : Disp} (hD : DOK IrP IrG D) (hJ : JOK IrP IrG Go.Proofs.Try.f71 T71 J) {vals : List AV} {S : St} {K : AV → St → Prop} (h0 : A71_6 D J vals S K) : Runs IrP IrG Go.Proofs.Try.f71 (T71 6).1 (envOf (T71 6).2 vals) S K :=
  execK_runs hD.typed Ir_zero Ir_mixed hJ X71_6 (T71 6).1 (envOf (T71 6).2 vals) S K (chk_of (by kernel_rfl) (by kernel_rfl)) (req_and h0).2
noncomputable def J71 (D : Disp) (k : Nat) : Disp := Nat.rec (motive := fun _ => Disp) Disp.no (fun _ ih => Disp.add 0 (A71_0 D ih) <| Disp.add 6 (A71_6 D ih) <| Disp.no) k
theorem J71_ok {D : Disp} (hD : DOK IrP IrG D) : ∀ k, JOK IrP IrG Go.Proofs.Try.f71 T71 (J71 D k)
  | 0 => JOK.no
  | k + 1 => JOK.add (ltB_ok (by kernel_rfl)) (fun vals S K h => A71_0_ok hD (J71_ok hD k) h) <| JOK.add (ltB_ok (by kernel_rfl)) (fun vals S K h => A71_6_ok hD (J71_ok hD k) h) <| JOK.no
theorem E71_ok {D : Disp} (hD : DOK IrP IrG D) (k : Nat) {args : List AV} {S : St} {K : AV → St → Prop} (h : A71_0 D (J71 D k) args S K) : CallE IrP IrG 71 args S K := by
  have hr := A71_0_ok hD (J71_ok hD k) h
  have hl : args.length = 2 := Nat.eq_of_beq_eq_true (req_and h).1
  refine callOK_of (fn := Go.Proofs.Try.f71) (c := (match Go.Proofs.Try.f71.body with | some c => c | none => .skip)) (by kernel_rfl) (by kernel_rfl) (by kernel_rfl) (by rw [hl]; kernel_rfl) (by kernel_rfl) ?_
  rw [hl]
  exact hr
noncomputable def plans72 (i : Nat) : Plan := if Nat.beq i 1 then [(0, []), (1, []), (2, [1]), (3, [2, 1]), (4, [0, 3, 2, 1]), (5, [4, 0, 3, 2, 1]), (6, [5, 4, 0, 3, 2, 1]), (7, [5, 4, 0, 3, 2, 1]), (8, [6, 0, 1, 2, 3, 4, 5]), (9, [7, 8, 0, 1, 2, 3, 4, 5, 6])] else if Nat.beq i 3 then [(0, []), (1, []), (2, [1]), (3, [2, 1]), (4, []), (5, [4]), (6, [0, 3, 5, 1, 2, 4])] else if Nat.beq i 4 then [(0, []), (1, []), (2, []), (3, [2]), (4, [3, 2]), (5, [1, 4, 3, 2]), (6, [0, 1, 2, 3, 4, 5]), (7, [6, 5, 0, 1, 2, 3, 4])] else []
noncomputable def T72 (p : Nat) : List Item × List Nat := bif Nat.beq p 0 then ([.code (match Go.Proofs.Try.f72.body with | some c => c | none => .skip)], [0, 1]) else
  bif Nat.beq p 7 then (navs [.op, .el, .op, .op, .th, .op] [.code (match Go.Proofs.Try.f72.body with | some c => c | none => .skip)], [0, 1]) else
  ([], [])
noncomputable def F72_q4 (D J : Disp) (S : St) (p0 : PV) (p1 : PV) (y351 : MV) (b352 : Bk) (n353 : Nat) (K : AV → St → Prop) : Prop :=
 St.at S b352 n353 fun y354 =>
 uncK y354 fun v355 y356 =>
 SV.cI IntKind.i64 v355 fun x360 =>
 PV.cs p1 fun b361 n362 =>
 St.at S b361 n362 fun y363 =>
 uncK y363 fun v364 y365 =>
 SV.cM v364 fun y373 =>
 St.mp S y373 fun y374 =>
 letK (α := Int) ((Int.ofNat (List.length y374))) fun x375 =>
 St.mput IrP S 3 y351 (V1.s (SV.int IntKind.i64 x360)) (V1.s (SV.int IntKind.i64 x375)) fun S376 =>
 J 7 [(AV.one (V1.s (SV.ptr p0))), (AV.one (V1.s (SV.ptr p1)))] S376 K
noncomputable def F72_q5 (D J : Disp) (S : St) (p0 : PV) (p1 : PV) (y322 : MV) (x331 : Int) (K : AV → St → Prop) : Prop :=
 St.lookup IrP S 3 (V1.s (SV.int IntKind.i64 (0 : Int))) y322 (V1.s (SV.int IntKind.i64 x331)) fun v332 y333 =>
 v1S v332 fun v334 =>
 SV.cI IntKind.i64 v334 fun x337 =>
 letK (α := Bool) ((Bool.not y333)) fun c338 =>
 ifK c338
 (PV.cs p1 fun b339 n340 =>
 St.at S b339 n340 fun y341 =>
 uncK y341 fun v342 y343 =>
 SV.cM v342 fun y351 =>
 PV.cs p0 fun b352 n353 =>
 F72_q4 D J S p0 p1 y351 b352 n353 K)
 (J 7 [(AV.one (V1.s (SV.ptr p0))), (AV.one (V1.s (SV.ptr p1)))] S K)
noncomputable def F72_q6 (D J : Disp) (S : St) (p0 : PV) (p1 : PV) (K : AV → St → Prop) : Prop :=
 PV.cs p0 fun b300 n301 =>
 St.at S b300 n301 fun y302 =>
 uncK y302 fun v303 y304 =>
 SV.cI IntKind.i64 v303 fun x308 =>
 letK (α := Bool) ((ilt x308 (0 : Int))) fun c309 =>
 ifK c309
 (K ((AV.tup [])) S)
 (PV.cs p1 fun b310 n311 =>
 St.at S b310 n311 fun y312 =>
 uncK y312 fun v313 y314 =>
 SV.cM v313 fun y322 =>
 PV.cs p0 fun b323 n324 =>
 St.at S b323 n324 fun y325 =>
 uncK y325 fun v326 y327 =>
 SV.cI IntKind.i64 v326 fun x331 =>
 F72_q5 D J S p0 p1 y322 x331 K)
noncomputable def F72_0 (D J : Disp) (p0 : PV) (p1 : PV) (S : St) (K : AV → St → Prop) : Prop :=
 F72_q6 D J S p0 p1 K
noncomputable def X72_0 : X := (.op (.br .ret (.op (.op (.br (.op (.jmp 7 [0, 1])) (.jmp 7 [0, 1]))))))
theorem F72_0_eq (D J : Disp) (p0 : PV) (p1 : PV) (S : St) (K : AV → St → Prop) : F72_0 D J p0 p1 S K = execK IrP IrG Go.Proofs.Try.f72 (typed IrP D) J plans72 X72_0 (T72 0).1 (envOf (T72 0).2 [(AV.one (V1.s (SV.ptr p0))), (AV.one (V1.s (SV.ptr p1)))]) S K := by kernel_rfl
noncomputable def F72_q7 (D J : Disp) (S : St) (p0 : PV) (p1 : PV) (K : AV → St → Prop) : Prop :=
 PV.cs p1 fun b300 n301 =>
 St.at S b300 n301 fun y302 =>
 uncK y302 fun v303 y304 =>
 SV.cM v303 fun y312 =>
 PV.cs p0 fun b313 n314 =>
 St.at S b313 n314 fun y315 =>
 uncK y315 fun v316 y317 =>
 SV.cI IntKind.i64 v316 fun x321 =>
 St.lookup IrP S 3 (V1.s (SV.int IntKind.i64 (0 : Int))) y312 (V1.s (SV.int IntKind.i64 x321)) fun v322 y323 =>
 v1S v322 fun v324 =>
 SV.cI IntKind.i64 v324 fun x327 =>
 PV.cs p0 fun b328 n329 =>
 St.wr S b328 n329 [(SV.int IntKind.i64 x327)] fun S330 =>
 K ((AV.tup [])) S330
noncomputable def F72_7 (D J : Disp) (p0 : PV) (p1 : PV) (S : St) (K : AV → St → Prop) : Prop :=
 F72_q7 D J S p0 p1 K
noncomputable def X72_7 : X := (.op .ret)
theorem F72_7_eq (D J : Disp) (p0 : PV) (p1 : PV) (S : St) (K : AV → St → Prop) : F72_7 D J p0 p1 S K = execK IrP IrG Go.Proofs.Try.f72 (typed IrP D) J plans72 X72_7 (T72 7).1 (envOf (T72 7).2 [(AV.one (V1.s (SV.ptr p0))), (AV.one (V1.s (SV.ptr p1)))]) S K := by kernel_rfl
noncomputable abbrev A72_0 (D J : Disp) (vals : List AV) (S : St) (K : AV → St → Prop) : Prop :=
  uncA vals fun a9001 r9002 => scK a9001 fun s9004 => SV.cP s9004 fun p0 => uncA r9002 fun a9007 r9008 => scK a9007 fun s9010 => SV.cP s9010 fun p1 => endL r9008 <| F72_0 D J p0 p1 S K
theorem A72_0_ok {D J : Disp} (hD : DOK IrP IrG D) (hJ : JOK IrP IrG Go.Proofs.Try.f72 T72 J) {vals : List AV} {S : St} {K : AV → St → Prop} (h0 : A72_0 D J vals S K) : Runs IrP IrG Go.Proofs.Try.f72 (T72 0).1 (envOf (T72 0).2 vals) S K := by
  obtain ⟨a9001, r9002, rfl, h3⟩ := uncA_some h0
  obtain ⟨s9004, rfl, h5⟩ := scK_some h3
  obtain ⟨p0, rfl, h6⟩ := cP_some h5
  obtain ⟨a9007, r9008, rfl, h9⟩ := uncA_some h6
  obtain ⟨s9010, rfl, h11⟩ := scK_some h9
  obtain ⟨p1, rfl, h12⟩ := cP_some h11
  obtain ⟨rfl, h13⟩ := endL_some h12
  have hq := Eq.mp (F72_0_eq D J p0 p1 S K) h13
  exact execK_runs hD.typed Ir_zero Ir_mixed hJ X72_0 (T72 0).1 (envOf (T72 0).2 _) S K (chk_of (by kernel_rfl) (by kernel_rfl)) hq
noncomputable abbrev A72_7 (D J : Disp) (vals : List AV) (S : St) (K : AV → St → Prop) : Prop :=
  uncA vals fun a9001 r9002 => scK a9001 fun s9004 => SV.cP s9004 fun p0 => uncA r9002 fun a9007 r9008 => scK a9007 fun s9010 => SV.cP s9010 fun p1 => endL r9008 <| F72_7 D J p0 p1 S K
theorem A72_7_ok {D J : Disp} (hD : DOK IrP IrG D) (hJ : JOK IrP IrG Go.Proofs.Try.f72 T72 J) {vals : List AV} {S : St} {K : AV → St → Prop} (h0 : A72_7 D J vals S K) : Runs IrP IrG Go.Proofs.Try.f72 (T72 7).1 (envOf (T72 7).2 vals) S K := by
  obtain ⟨a9001, r9002, rfl, h3⟩ := uncA_some h0
  obtain ⟨s9004, rfl, h5⟩ := scK_some h3
  obtain ⟨p0, rfl, h6⟩ := cP_some h5
  obtain ⟨a9007, r9008, rfl, h9⟩ := uncA_some h6
  obtain ⟨s9010, rfl, h11⟩ := scK_some h9
  obtain ⟨p1, rfl, h12⟩ := cP_some h11
  obtain ⟨rfl, h13⟩ := endL_some h12
  have hq := Eq.mp (F72_7_eq D J p0 p1 S K) h13
  exact execK_runs hD.typed Ir_zero Ir_mixed hJ X72_7 (T72 7).1 (envOf (T72 7).2 _) S K (chk_of (by kernel_rfl) (by kernel_rfl)) hq
noncomputable def J72 (D : Disp) (k : Nat) : Disp := Nat.rec (motive := fun _ => Disp) Disp.no (fun _ ih => Disp.add 0 (A72_0 D ih) <| Disp.add 7 (A72_7 D ih) <| Disp.no) k
theorem J72_ok {D : Disp} (hD : DOK IrP IrG D) : ∀ k, JOK IrP IrG Go.Proofs.Try.f72 T72 (J72 D k)
  | 0 => JOK.no
  | k + 1 => JOK.add (ltB_ok (by kernel_rfl)) (fun vals S K h => A72_0_ok hD (J72_ok hD k) h) <| JOK.add (ltB_ok (by kernel_rfl)) (fun vals S K h => A72_7_ok hD (J72_ok hD k) h) <| JOK.no
theorem E72_ok {D : Disp} (hD : DOK IrP IrG D) (k : Nat) {args : List AV} {S : St} {K : AV → St → Prop} (h : A72_0 D (J72 D k) args S K) : CallE IrP IrG 72 args S K := by
  have hr := A72_0_ok hD (J72_ok hD k) h
  have hl : args.length = 2 := by
    have h0 := h
    obtain ⟨a9001, r9002, rfl, h3⟩ := uncA_some h0
    obtain ⟨s9004, rfl, h5⟩ := scK_some h3
    obtain ⟨p0, rfl, h6⟩ := cP_some h5
    obtain ⟨a9007, r9008, rfl, h9⟩ := uncA_some h6
    obtain ⟨s9010, rfl, h11⟩ := scK_some h9
    obtain ⟨p1, rfl, h12⟩ := cP_some h11
    obtain ⟨rfl, h13⟩ := endL_some h12
    rfl
  refine callOK_of (fn := Go.Proofs.Try.f72) (c := (match Go.Proofs.Try.f72.body with | some c => c | none => .skip)) (by kernel_rfl) (by kernel_rfl) (by kernel_rfl) (by rw [hl]; kernel_rfl) (by kernel_rfl) ?_
  rw [hl]
  exact hr
noncomputable def plans73 (i : Nat) : Plan := []
noncomputable def T73 (p : Nat) : List Item × List Nat := bif Nat.beq p 0 then ([.code (match Go.Proofs.Try.f73.body with | some c => c | none => .skip)], [0]) else
  ([], [])
noncomputable def F73_q0 (D J : Disp) (S301 : St) (x308 : Int) (x314 : Int) (x320 : Int) (x326 : Int) (x332 : Int) (x338 : Int) (x344 : Int) (y348 : Bool) (y357 : LV) (y366 : LV) (y375 : LV) (K : AV → St → Prop) : Prop :=
 D 81 [(AV.one (V1.agg [(SV.int IntKind.i64 x308), (SV.int IntKind.i64 x314), (SV.int IntKind.i64 x320), (SV.int IntKind.i64 x326), (SV.int IntKind.i64 x332), (SV.int IntKind.i64 x338), (SV.int IntKind.i64 x344), (SV.bool y348), (SV.sl y357), (SV.sl y366), (SV.sl y375)]))] S301 fun v376 S377 =>
 scK v376 fun v379 =>
 SV.cI IntKind.i64 v379 fun x382 =>
 letK (α := Bool) ((ieq x382 (0 : Int))) fun c383 =>
 K ((AV.one (V1.s (SV.bool c383)))) S377
noncomputable def F73_q1 (D J : Disp) (S : St) (S301 : St) (K : AV → St → Prop) : Prop :=
 St.at S301 (Bk.new (St.next S)) 0 fun y302 =>
 uncK y302 fun v303 y304 =>
 SV.cI IntKind.i64 v303 fun x308 =>
 uncK y304 fun v309 y310 =>
 SV.cI IntKind.i64 v309 fun x314 =>
 uncK y310 fun v315 y316 =>
 SV.cI IntKind.i64 v315 fun x320 =>
 uncK y316 fun v321 y322 =>
 SV.cI IntKind.i64 v321 fun x326 =>
 uncK y322 fun v327 y328 =>
 SV.cI IntKind.i64 v327 fun x332 =>
 uncK y328 fun v333 y334 =>
 SV.cI IntKind.i64 v333 fun x338 =>
 uncK y334 fun v339 y340 =>
 SV.cI IntKind.i64 v339 fun x344 =>
 uncK y340 fun v345 y346 =>
 SV.cB v345 fun y348 =>
 uncK y346 fun v349 y350 =>
 SV.cL v349 fun y357 =>
 uncK y350 fun v358 y359 =>
 SV.cL v358 fun y366 =>
 uncK y359 fun v367 y368 =>
 SV.cL v367 fun y375 =>
 F73_q0 D J S301 x308 x314 x320 x326 x332 x338 x344 y348 y357 y366 y375 K
noncomputable def F73_0 (D J : Disp) (x0_0 : Int) (x0_1 : Int) (x0_2 : Int) (x0_3 : Int) (x0_4 : Int) (x0_5 : Int) (x0_6 : Int) (c0_7 : Bool) (l0_8 : LV) (l0_9 : LV) (l0_10 : LV) (S : St) (K : AV → St → Prop) : Prop :=
 letK (α := St) ((St.add S (AO.cells [(SV.int IntKind.i64 x0_0), (SV.int IntKind.i64 x0_1), (SV.int IntKind.i64 x0_2), (SV.int IntKind.i64 x0_3), (SV.int IntKind.i64 x0_4), (SV.int IntKind.i64 x0_5), (SV.int IntKind.i64 x0_6), (SV.bool c0_7), (SV.sl l0_8), (SV.sl l0_9), (SV.sl l0_10)] (Op2.ty 27)))) fun S300 =>
 St.wr S300 (Bk.new (St.next S)) 2 [(SV.int IntKind.i64 (0 : Int))] fun S301 =>
 F73_q1 D J S S301 K
noncomputable def X73_0 : X := (.op (.op (.op .ret)))
theorem F73_0_eq (D J : Disp) (x0_0 : Int) (x0_1 : Int) (x0_2 : Int) (x0_3 : Int) (x0_4 : Int) (x0_5 : Int) (x0_6 : Int) (c0_7 : Bool) (l0_8 : LV) (l0_9 : LV) (l0_10 : LV) (S : St) (K : AV → St → Prop) : F73_0 D J x0_0 x0_1 x0_2 x0_3 x0_4 x0_5 x0_6 c0_7 l0_8 l0_9 l0_10 S K = execK IrP IrG Go.Proofs.Try.f73 (typed IrP D) J plans73 X73_0 (T73 0).1 (envOf (T73 0).2 [(AV.one (V1.agg [(SV.int IntKind.i64 x0_0), (SV.int IntKind.i64 x0_1), (SV.int IntKind.i64 x0_2), (SV.int IntKind.i64 x0_3), (SV.int IntKind.i64 x0_4), (SV.int IntKind.i64 x0_5), (SV.int IntKind.i64 x0_6), (SV.bool c0_7), (SV.sl l0_8), (SV.sl l0_9), (SV.sl l0_10)]))]) S K := by kernel_rfl
noncomputable abbrev A73_0 (D J : Disp) (vals : List AV) (S : St) (K : AV → St → Prop) : Prop :=
  uncA vals fun a9001 r9002 => avA a9001 fun l9004 => uncK l9004 fun s9006 r9007 => SV.cI IntKind.i64 s9006 fun x0_0 => uncK r9007 fun s9010 r9011 => SV.cI IntKind.i64 s9010 fun x0_1 => uncK r9011 fun s9014 r9015 => SV.cI IntKind.i64 s9014 fun x0_2 => uncK r9015 fun s9018 r9019 => SV.cI IntKind.i64 s9018 fun x0_3 => uncK r9019 fun s9022 r9023 => SV.cI IntKind.i64 s9022 fun x0_4 => uncK r9023 fun s9026 r9027 => SV.cI IntKind.i64 s9026 fun x0_5 => uncK r9027 fun s9030 r9031 => SV.cI IntKind.i64 s9030 fun x0_6 => uncK r9031 fun s9034 r9035 => SV.cB s9034 fun c0_7 => uncK r9035 fun s9038 r9039 => SV.cL s9038 fun l0_8 => uncK r9039 fun s9042 r9043 => SV.cL s9042 fun l0_9 => uncK r9043 fun s9046 r9047 => SV.cL s9046 fun l0_10 => endL r9047 <| endL r9002 <| F73_0 D J x0_0 x0_1 x0_2 x0_3 x0_4 x0_5 x0_6 c0_7 l0_8 l0_9 l0_10 S K
theorem A73_0_ok {D J : Disp} (hD : DOK IrP IrG D) (hJ : JOK IrP IrG Go.Proofs.Try.f73 T73 J) {vals : List AV} {S : St} {K : AV → St → Prop} (h0 : A73_0 D J vals S K) : Runs IrP IrG Go.Proofs.Try.f73 (T73 0).1 (envOf (T73 0).2 vals) S K := by
  obtain ⟨a9001, r9002, rfl, h3⟩ := uncA_some h0
  obtain ⟨l9004, rfl, h5⟩ := avA_some h3
  obtain ⟨s9006, r9007, rfl, h8⟩ := uncK_some h5
  obtain ⟨x0_0, rfl, h9⟩ := cI_some h8
  obtain ⟨s9010, r9011, rfl, h12⟩ := uncK_some h9
  obtain ⟨x0_1, rfl, h13⟩ := cI_some h12
  obtain ⟨s9014, r9015, rfl, h16⟩ := uncK_some h13
  obtain ⟨x0_2, rfl, h17⟩ := cI_some h16
  obtain ⟨s9018, r9019, rfl, h20⟩ := uncK_some h17
  obtain ⟨x0_3, rfl, h21⟩ := cI_some h20
  obtain ⟨s9022, r9023, rfl, h24⟩ := uncK_some h21
  obtain ⟨x0_4, rfl, h25⟩ := cI_some h24
  obtain ⟨s9026, r9027, rfl, h28⟩ := uncK_some h25
  obtain ⟨x0_5, rfl, h29⟩ := cI_some h28
  obtain ⟨s9030, r9031, rfl, h32⟩ := uncK_some h29
  obtain ⟨x0_6, rfl, h33⟩ := cI_some h32
  obtain ⟨s9034, r9035, rfl, h36⟩ := uncK_some h33
  obtain ⟨c0_7, rfl, h37⟩ := cB_some h36
  obtain ⟨s9038, r9039, rfl, h40⟩ := uncK_some h37
  obtain ⟨l0_8, rfl, h41⟩ := cL_some h40
  obtain ⟨s9042, r9043, rfl, h44⟩ := uncK_some h41
  obtain ⟨l0_9, rfl, h45⟩ := cL_some h44
  obtain ⟨s9046, r9047, rfl, h48⟩ := uncK_some h45
  obtain ⟨l0_10, rfl, h49⟩ := cL_some h48
  obtain ⟨rfl, h50⟩ := endL_some h49
  obtain ⟨rfl, h51⟩ := endL_some h50
  have hq := Eq.mp (F73_0_eq D J x0_0 x0_1 x0_2 x0_3 x0_4 x0_5 x0_6 c0_7 l0_8 l0_9 l0_10 S K) h51
  exact execK_runs hD.typed Ir_zero Ir_mixed hJ X73_0 (T73 0).1 (envOf (T73 0).2 _) S K (chk_of (by kernel_rfl) (by kernel_rfl)) hq
noncomputable def J73 (D : Disp) (k : Nat) : Disp := Nat.rec (motive := fun _ => Disp) Disp.no (fun _ ih => Disp.add 0 (A73_0 D ih) <| Disp.no) k
theorem J73_ok {D : Disp} (hD : DOK IrP IrG D) : ∀ k, JOK IrP IrG Go.Proofs.Try.f73 T73 (J73 D k)
  | 0 => JOK.no
  | k + 1 => JOK.add (ltB_ok (by kernel_rfl)) (fun vals S K h => A73_0_ok hD (J73_ok hD k) h) <| JOK.no
theorem E73_ok {D : Disp} (hD : DOK IrP IrG D) (k : Nat) {args : List AV} {S : St} {K : AV → St → Prop} (h : A73_0 D (J73 D k) args S K) : CallE IrP IrG 73 args S K := by
  have hr := A73_0_ok hD (J73_ok hD k) h
  have hl : args.length = 1 := by
    have h0 := h
    obtain ⟨a9001, r9002, rfl, h3⟩ := uncA_some h0
    obtain ⟨l9004, rfl, h5⟩ := avA_some h3
    obtain ⟨s9006, r9007, rfl, h8⟩ := uncK_some h5
    obtain ⟨x0_0, rfl, h9⟩ := cI_some h8
    obtain ⟨s9010, r9011, rfl, h12⟩ := uncK_some h9
    obtain ⟨x0_1, rfl, h13⟩ := cI_some h12
    obtain ⟨s9014, r9015, rfl, h16⟩ := uncK_some h13
    obtain ⟨x0_2, rfl, h17⟩ := cI_some h16
    obtain ⟨s9018, r9019, rfl, h20⟩ := uncK_some h17
    obtain ⟨x0_3, rfl, h21⟩ := cI_some h20
    obtain ⟨s9022, r9023, rfl, h24⟩ := uncK_some h21
    obtain ⟨x0_4, rfl, h25⟩ := cI_some h24
    obtain ⟨s9026, r9027, rfl, h28⟩ := uncK_some h25
    obtain ⟨x0_5, rfl, h29⟩ := cI_some h28
    obtain ⟨s9030, r9031, rfl, h32⟩ := uncK_some h29
    obtain ⟨x0_6, rfl, h33⟩ := cI_some h32
    obtain ⟨s9034, r9035, rfl, h36⟩ := uncK_some h33
    obtain ⟨c0_7, rfl, h37⟩ := cB_some h36
    obtain ⟨s9038, r9039, rfl, h40⟩ := uncK_some h37
    obtain ⟨l0_8, rfl, h41⟩ := cL_some h40
    obtain ⟨s9042, r9043, rfl, h44⟩ := uncK_some h41
    obtain ⟨l0_9, rfl, h45⟩ := cL_some h44
    obtain ⟨s9046, r9047, rfl, h48⟩ := uncK_some h45
    obtain ⟨l0_10, rfl, h49⟩ := cL_some h48
    obtain ⟨rfl, h50⟩ := endL_some h49
    obtain ⟨rfl, h51⟩ := endL_some h50
    rfl
  refine callOK_of (fn := Go.Proofs.Try.f73) (c := (match Go.Proofs.Try.f73.body with | some c => c | none => .skip)) (by kernel_rfl) (by kernel_rfl) (by kernel_rfl) (by rw [hl]; kernel_rfl) (by kernel_rfl) ?_
  rw [hl]
  exact hr
noncomputable def plans74 (i : Nat) : Plan := if Nat.beq i 18 then [(0, []), (1, []), (2, []), (3, [1, 2]), (4, []), (5, []), (6, [4, 5]), (7, [0, 3, 6, 1, 2, 4, 5]), (8, [7, 0, 3, 6, 1, 2, 4, 5]), (9, [7, 0, 3, 6, 1, 2, 4, 5]), (10, [8, 7, 0, 1, 2, 3, 4, 5, 6, 9]), (11, [9, 10, 0, 1, 2, 3, 4, 5, 6, 7, 8])] else []
noncomputable def T74 (p : Nat) : List Item × List Nat := bif Nat.beq p 0 then ([.code (match Go.Proofs.Try.f74.body with | some c => c | none => .skip)], [0, 1, 2, 3]) else
  bif Nat.beq p 2 then (navs [.op, .op] [.code (match Go.Proofs.Try.f74.body with | some c => c | none => .skip)], [1, 2, 3, 4, 17]) else
  bif Nat.beq p 7 then (navs [.op, .op, .el, .op, .op] [.code (match Go.Proofs.Try.f74.body with | some c => c | none => .skip)], [1, 2, 3, 4, 30]) else
  bif Nat.beq p 36 then (navs [.op, .op, .el, .op, .op, .el, .op, .op, .op, .el, .op, .el, .op, .el, .op, .th] [.code (match Go.Proofs.Try.f74.body with | some c => c | none => .skip)], [1, 2, 3, 4, 41, 109]) else
  bif Nat.beq p 55 then (navs [.op, .op, .el, .op, .op, .el, .op, .op, .op, .el, .op, .el, .op, .el, .op, .th, .el, .op, .el, .op, .el, .op, .el, .op, .el, .op, .el, .op, .th] [.code (match Go.Proofs.Try.f74.body with | some c => c | none => .skip)], [2, 3, 4, 41, 152]) else
  bif Nat.beq p 59 then (navs [.op, .op, .el, .op, .op, .el, .op, .op, .op, .el, .op, .el, .op, .el, .op, .th, .el, .op, .el, .op, .el, .op, .el, .op, .el, .op, .el, .op, .th, .el, .op, .th] [.code (match Go.Proofs.Try.f74.body with | some c => c | none => .skip)], [2, 3, 4, 162]) else
  ([], [])
noncomputable def F74_q25 (D J : Disp) (S : St) (x1 : Int) (x2 : Int) (x3 : Int) (S313 : St) (c317 : Bool) (K : AV → St → Prop) : Prop :=
 ifK c317
 (J 2 [(AV.one (V1.s (SV.int IntKind.i64 x1))), (AV.one (V1.s (SV.int IntKind.i64 x2))), (AV.one (V1.s (SV.int IntKind.i64 x3))), (AV.one (V1.s (SV.ptr (PV.mk (Bk.new (St.next S)) 0)))), (AV.one (V1.s (SV.bool Bool.true)))] S313 K)
 (St.at S313 (Bk.new (St.next S)) 0 fun y318 =>
 uncK y318 fun v319 y320 =>
 SV.cI IntKind.i64 v319 fun x324 =>
 letK (α := Bool) ((ilt x324 (32 : Int))) fun c325 =>
 J 2 [(AV.one (V1.s (SV.int IntKind.i64 x1))), (AV.one (V1.s (SV.int IntKind.i64 x2))), (AV.one (V1.s (SV.int IntKind.i64 x3))), (AV.one (V1.s (SV.ptr (PV.mk (Bk.new (St.next S)) 0)))), (AV.one (V1.s (SV.bool c325)))] S313 K)
noncomputable def F74_0 (D J : Disp) (x0_0 : Int) (c0_1 : Bool) (x1 : Int) (x2 : Int) (x3 : Int) (S : St) (K : AV → St → Prop) : Prop :=
 letK (α := St) ((St.add S (AO.cells [(SV.int IntKind.i64 x0_0), (SV.bool c0_1)] (Op2.ty 23)))) fun S300 =>
 St.at S300 (Bk.new (St.next S)) 0 fun y301 =>
 uncK y301 fun v302 y303 =>
 SV.cI IntKind.i64 v302 fun x307 =>
 uncK y303 fun v308 y309 =>
 SV.cB v308 fun y311 =>
 D 75 [(AV.one (V1.agg [(SV.int IntKind.i64 x307), (SV.bool y311)]))] S300 fun v312 S313 =>
 scK v312 fun v315 =>
 SV.cB v315 fun y316 =>
 letK (α := Bool) ((Bool.not y316)) fun c317 =>
 F74_q25 D J S x1 x2 x3 S313 c317 K
noncomputable def X74_0 : X := (.op (.op (.jmp 2 [1, 2, 3, 4, 17])))
theorem F74_0_eq (D J : Disp) (x0_0 : Int) (c0_1 : Bool) (x1 : Int) (x2 : Int) (x3 : Int) (S : St) (K : AV → St → Prop) : F74_0 D J x0_0 c0_1 x1 x2 x3 S K = execK IrP IrG Go.Proofs.Try.f74 (typed IrP D) J plans74 X74_0 (T74 0).1 (envOf (T74 0).2 [(AV.one (V1.agg [(SV.int IntKind.i64 x0_0), (SV.bool c0_1)])), (AV.one (V1.s (SV.int IntKind.i64 x1))), (AV.one (V1.s (SV.int IntKind.i64 x2))), (AV.one (V1.s (SV.int IntKind.i64 x3)))]) S K := by kernel_rfl
noncomputable def F74_q26 (D J : Disp) (x1 : Int) (x3 : Int) (p4 : PV) (S314 : St) (x319 : Int) (c321 : Bool) (K : AV → St → Prop) : Prop :=
 ifK c321
 (J 7 [(AV.one (V1.s (SV.int IntKind.i64 x1))), (AV.one (V1.s (SV.int IntKind.i64 x319))), (AV.one (V1.s (SV.int IntKind.i64 x3))), (AV.one (V1.s (SV.ptr p4))), (AV.one (V1.s (SV.bool Bool.true)))] S314 K)
 (letK (α := Bool) ((ieq x1 (13 : Int))) fun c322 =>
 J 7 [(AV.one (V1.s (SV.int IntKind.i64 x1))), (AV.one (V1.s (SV.int IntKind.i64 x319))), (AV.one (V1.s (SV.int IntKind.i64 x3))), (AV.one (V1.s (SV.ptr p4))), (AV.one (V1.s (SV.bool c322)))] S314 K)
noncomputable def F74_q27 (D J : Disp) (S : St) (x1 : Int) (x2 : Int) (x3 : Int) (p4 : PV) (x308 : Int) (y312 : Bool) (K : AV → St → Prop) : Prop :=
 D 62 [(AV.one (V1.agg [(SV.int IntKind.i64 x308), (SV.bool y312)])), (AV.one (V1.s (SV.int IntKind.i64 x2)))] S fun v313 S314 =>
 scK v313 fun v316 =>
 SV.cI IntKind.i64 v316 fun x319 =>
 letK (α := Bool) ((ieq x1 (11 : Int))) fun c320 =>
 ifK c320
 (J 7 [(AV.one (V1.s (SV.int IntKind.i64 x1))), (AV.one (V1.s (SV.int IntKind.i64 x319))), (AV.one (V1.s (SV.int IntKind.i64 x3))), (AV.one (V1.s (SV.ptr p4))), (AV.one (V1.s (SV.bool Bool.true)))] S314 K)
 (letK (α := Bool) ((ieq x1 (12 : Int))) fun c321 =>
 F74_q26 D J x1 x3 p4 S314 x319 c321 K)
noncomputable def F74_2 (D J : Disp) (x1 : Int) (x2 : Int) (x3 : Int) (p4 : PV) (c17 : Bool) (S : St) (K : AV → St → Prop) : Prop :=
 ifK c17
 (K ((AV.tup [(V1.s (SV.int IntKind.i64 (0 : Int))), (V1.s (SV.bool Bool.false))])) S)
 (PV.cs p4 fun b300 n301 =>
 St.at S b300 n301 fun y302 =>
 uncK y302 fun v303 y304 =>
 SV.cI IntKind.i64 v303 fun x308 =>
 uncK y304 fun v309 y310 =>
 SV.cB v309 fun y312 =>
 F74_q27 D J S x1 x2 x3 p4 x308 y312 K)
noncomputable def X74_2 : X := (.br (.op .ret) (.op (.op (.jmp 7 [1, 2, 3, 4, 30]))))
theorem F74_2_eq (D J : Disp) (x1 : Int) (x2 : Int) (x3 : Int) (p4 : PV) (c17 : Bool) (S : St) (K : AV → St → Prop) : F74_2 D J x1 x2 x3 p4 c17 S K = execK IrP IrG Go.Proofs.Try.f74 (typed IrP D) J plans74 X74_2 (T74 2).1 (envOf (T74 2).2 [(AV.one (V1.s (SV.int IntKind.i64 x1))), (AV.one (V1.s (SV.int IntKind.i64 x2))), (AV.one (V1.s (SV.int IntKind.i64 x3))), (AV.one (V1.s (SV.ptr p4))), (AV.one (V1.s (SV.bool c17)))]) S K := by kernel_rfl
noncomputable def F74_q28 (D J : Disp) (S : St) (x1 : Int) (x2 : Int) (x3 : Int) (x308 : Int) (y312 : Bool) (K : AV → St → Prop) : Prop :=
 D 82 [(AV.one (V1.agg [(SV.int IntKind.i64 x308), (SV.bool y312)])), (AV.one (V1.s (SV.int IntKind.i64 x1))), (AV.one (V1.s (SV.int IntKind.i64 x2))), (AV.one (V1.s (SV.int IntKind.i64 x3)))] S fun v313 S314 =>
 avT v313 fun y316 =>
 uncV y316 fun v317 y318 =>
 v1S v317 fun v320 =>
 SV.cI IntKind.i64 v320 fun x323 =>
 uncV y318 fun v324 y325 =>
 v1S v324 fun v327 =>
 SV.cB v327 fun y328 =>
 endL y325 (K ((AV.tup [(V1.s (SV.int IntKind.i64 x323)), (V1.s (SV.bool y328))])) S314)
noncomputable def F74_q29 (D J : Disp) (S372 : St) (x395 : Int) (y399 : Bool) (x400 : Int) (c404 : Bool) (K : AV → St → Prop) : Prop :=
 D 83 [(AV.one (V1.agg [(SV.int IntKind.i64 x395), (SV.bool y399)])), (AV.one (V1.s (SV.int IntKind.i64 x400))), (AV.one (V1.s (SV.bool c404)))] S372 fun v405 S406 =>
 avT v405 fun y408 =>
 uncV y408 fun v409 y410 =>
 v1S v409 fun v412 =>
 SV.cI IntKind.i64 v412 fun x415 =>
 uncV y410 fun v416 y417 =>
 v1S v416 fun v419 =>
 SV.cB v419 fun y420 =>
 endL y417 (K ((AV.tup [(V1.s (SV.int IntKind.i64 x415)), (V1.s (SV.bool y420))])) S406)
noncomputable def F74_q30 (D J : Disp) (x2 : Int) (p4 : PV) (S372 : St) (x377 : Int) (K : AV → St → Prop) : Prop :=
 PV.cs p4 fun b387 n388 =>
 St.at S372 b387 n388 fun y389 =>
 uncK y389 fun v390 y391 =>
 SV.cI IntKind.i64 v390 fun x395 =>
 uncK y391 fun v396 y397 =>
 SV.cB v396 fun y399 =>
 letK (α := Int) ((iwrap IntKind.i64 (x2 + x377))) fun x400 =>
 letK (α := Int) ((iwrap IntKind.i64 (x2 + x377))) fun x401 =>
 letK (α := Bool) ((ilt x401 x2)) fun c402 =>
 letK (α := Bool) ((ilt x377 (0 : Int))) fun c403 =>
 letK (α := Bool) ((BEq.beq c402 c403)) fun c404 =>
 F74_q29 D J S372 x395 y399 x400 c404 K
noncomputable def F74_q31 (D J : Disp) (x2 : Int) (p4 : PV) (S372 : St) (x377 : Int) (K : AV → St → Prop) : Prop :=
 PV.cs p4 fun b450 n451 =>
 St.at S372 b450 n451 fun y452 =>
 uncK y452 fun v453 y454 =>
 SV.cI IntKind.i64 v453 fun x458 =>
 uncK y454 fun v459 y460 =>
 SV.cB v459 fun y462 =>
 letK (α := Int) ((iwrap IntKind.i64 (x2 + x377))) fun x463 =>
 D 62 [(AV.one (V1.agg [(SV.int IntKind.i64 x458), (SV.bool y462)])), (AV.one (V1.s (SV.int IntKind.i64 x463)))] S372 fun v464 S465 =>
 scK v464 fun v467 =>
 SV.cI IntKind.i64 v467 fun x470 =>
 K ((AV.tup [(V1.s (SV.int IntKind.i64 x470)), (V1.s (SV.bool Bool.true))])) S465
noncomputable def F74_q32 (D J : Disp) (S372 : St) (x514 : Int) (y518 : Bool) (x519 : Int) (c523 : Bool) (K : AV → St → Prop) : Prop :=
 D 83 [(AV.one (V1.agg [(SV.int IntKind.i64 x514), (SV.bool y518)])), (AV.one (V1.s (SV.int IntKind.i64 x519))), (AV.one (V1.s (SV.bool c523)))] S372 fun v524 S525 =>
 avT v524 fun y527 =>
 uncV y527 fun v528 y529 =>
 v1S v528 fun v531 =>
 SV.cI IntKind.i64 v531 fun x534 =>
 uncV y529 fun v535 y536 =>
 v1S v535 fun v538 =>
 SV.cB v538 fun y539 =>
 endL y536 (K ((AV.tup [(V1.s (SV.int IntKind.i64 x534)), (V1.s (SV.bool y539))])) S525)
noncomputable def F74_q33 (D J : Disp) (x2 : Int) (p4 : PV) (S372 : St) (x377 : Int) (K : AV → St → Prop) : Prop :=
 PV.cs p4 fun b506 n507 =>
 St.at S372 b506 n507 fun y508 =>
 uncK y508 fun v509 y510 =>
 SV.cI IntKind.i64 v509 fun x514 =>
 uncK y510 fun v515 y516 =>
 SV.cB v515 fun y518 =>
 letK (α := Int) ((iwrap IntKind.i64 (x2 - x377))) fun x519 =>
 letK (α := Int) ((iwrap IntKind.i64 (x2 - x377))) fun x520 =>
 letK (α := Bool) ((ilt x2 x520)) fun c521 =>
 letK (α := Bool) ((ilt x377 (0 : Int))) fun c522 =>
 letK (α := Bool) ((BEq.beq c521 c522)) fun c523 =>
 F74_q32 D J S372 x514 y518 x519 c523 K
noncomputable def F74_q34 (D J : Disp) (x2 : Int) (p4 : PV) (S372 : St) (x377 : Int) (K : AV → St → Prop) : Prop :=
 PV.cs p4 fun b569 n570 =>
 St.at S372 b569 n570 fun y571 =>
 uncK y571 fun v572 y573 =>
 SV.cI IntKind.i64 v572 fun x577 =>
 uncK y573 fun v578 y579 =>
 SV.cB v578 fun y581 =>
 letK (α := Int) ((iwrap IntKind.i64 (x2 - x377))) fun x582 =>
 D 62 [(AV.one (V1.agg [(SV.int IntKind.i64 x577), (SV.bool y581)])), (AV.one (V1.s (SV.int IntKind.i64 x582)))] S372 fun v583 S584 =>
 scK v583 fun v586 =>
 SV.cI IntKind.i64 v586 fun x589 =>
 K ((AV.tup [(V1.s (SV.int IntKind.i64 x589)), (V1.s (SV.bool Bool.true))])) S584
noncomputable def F74_q35 (D J : Disp) (x633 : Int) (y637 : Bool) (x638 : Int) (S640 : St) (y643 : Bool) (K : AV → St → Prop) : Prop :=
 D 83 [(AV.one (V1.agg [(SV.int IntKind.i64 x633), (SV.bool y637)])), (AV.one (V1.s (SV.int IntKind.i64 x638))), (AV.one (V1.s (SV.bool y643)))] S640 fun v657 S658 =>
 avT v657 fun y660 =>
 uncV y660 fun v661 y662 =>
 v1S v661 fun v664 =>
 SV.cI IntKind.i64 v664 fun x667 =>
 uncV y662 fun v668 y669 =>
 v1S v668 fun v671 =>
 SV.cB v671 fun y672 =>
 endL y669 (K ((AV.tup [(V1.s (SV.int IntKind.i64 x667)), (V1.s (SV.bool y672))])) S658)
noncomputable def F74_q36 (D J : Disp) (x2 : Int) (p4 : PV) (S372 : St) (x377 : Int) (x633 : Int) (y637 : Bool) (x638 : Int) (K : AV → St → Prop) : Prop :=
 D 84 [(AV.one (V1.s (SV.int IntKind.i64 x2))), (AV.one (V1.s (SV.int IntKind.i64 x377)))] S372 fun v639 S640 =>
 scK v639 fun v642 =>
 SV.cB v642 fun y643 =>
 PV.cs p4 fun b644 n645 =>
 St.at S640 b644 n645 fun y646 =>
 uncK y646 fun v647 y648 =>
 SV.cI IntKind.i64 v647 fun x652 =>
 uncK y648 fun v653 y654 =>
 SV.cB v653 fun y656 =>
 req (sameAV (AV.one (V1.agg [(SV.int IntKind.i64 x652), (SV.bool y656)])) (AV.one (V1.agg [(SV.int IntKind.i64 x633), (SV.bool y637)]))) <|
 F74_q35 D J x633 y637 x638 S640 y643 K
noncomputable def F74_q37 (D J : Disp) (x2 : Int) (p4 : PV) (S372 : St) (x377 : Int) (K : AV → St → Prop) : Prop :=
 PV.cs p4 fun b723 n724 =>
 St.at S372 b723 n724 fun y725 =>
 uncK y725 fun v726 y727 =>
 SV.cI IntKind.i64 v726 fun x731 =>
 uncK y727 fun v732 y733 =>
 SV.cB v732 fun y735 =>
 letK (α := Int) ((iwrap IntKind.i64 (x2 * x377))) fun x736 =>
 D 62 [(AV.one (V1.agg [(SV.int IntKind.i64 x731), (SV.bool y735)])), (AV.one (V1.s (SV.int IntKind.i64 x736)))] S372 fun v737 S738 =>
 scK v737 fun v740 =>
 SV.cI IntKind.i64 v740 fun x743 =>
 K ((AV.tup [(V1.s (SV.int IntKind.i64 x743)), (V1.s (SV.bool Bool.true))])) S738
noncomputable def F74_q38 (D J : Disp) (x2 : Int) (p4 : PV) (S372 : St) (x377 : Int) (K : AV → St → Prop) : Prop :=
 PV.cs p4 fun b617 n618 =>
 letK (α := Nat) ((n618 + 1)) fun n619 =>
 St.at S372 b617 n619 fun y620 =>
 uncK y620 fun v621 y622 =>
 SV.cB v621 fun y624 =>
 ifK y624
 (PV.cs p4 fun b625 n626 =>
 St.at S372 b625 n626 fun y627 =>
 uncK y627 fun v628 y629 =>
 SV.cI IntKind.i64 v628 fun x633 =>
 uncK y629 fun v634 y635 =>
 SV.cB v634 fun y637 =>
 letK (α := Int) ((iwrap IntKind.i64 (x2 * x377))) fun x638 =>
 F74_q36 D J x2 p4 S372 x377 x633 y637 x638 K)
 (F74_q37 D J x2 p4 S372 x377 K)
noncomputable def F74_q39 (D J : Disp) (x1 : Int) (x2 : Int) (p4 : PV) (S372 : St) (x377 : Int) (c772 : Bool) (K : AV → St → Prop) : Prop :=
 ifK c772
 (J 36 [(AV.one (V1.s (SV.int IntKind.i64 x1))), (AV.one (V1.s (SV.int IntKind.i64 x2))), (AV.one (V1.s (SV.int IntKind.i64 x377))), (AV.one (V1.s (SV.ptr p4))), (AV.one (V1.s (SV.int IntKind.i64 x1))), (AV.one (V1.s (SV.bool c772)))] S372 K)
 (letK (α := Bool) ((ieq x1 (7 : Int))) fun c773 =>
 J 36 [(AV.one (V1.s (SV.int IntKind.i64 x1))), (AV.one (V1.s (SV.int IntKind.i64 x2))), (AV.one (V1.s (SV.int IntKind.i64 x377))), (AV.one (V1.s (SV.ptr p4))), (AV.one (V1.s (SV.int IntKind.i64 x1))), (AV.one (V1.s (SV.bool c773)))] S372 K)
noncomputable def F74_q40 (D J : Disp) (x1 : Int) (x2 : Int) (p4 : PV) (S372 : St) (x377 : Int) (c770 : Bool) (K : AV → St → Prop) : Prop :=
 ifK c770
 (J 36 [(AV.one (V1.s (SV.int IntKind.i64 x1))), (AV.one (V1.s (SV.int IntKind.i64 x2))), (AV.one (V1.s (SV.int IntKind.i64 x377))), (AV.one (V1.s (SV.ptr p4))), (AV.one (V1.s (SV.int IntKind.i64 x1))), (AV.one (V1.s (SV.bool c770)))] S372 K)
 (letK (α := Bool) ((ieq x1 (5 : Int))) fun c771 =>
 ifK c771
 (J 36 [(AV.one (V1.s (SV.int IntKind.i64 x1))), (AV.one (V1.s (SV.int IntKind.i64 x2))), (AV.one (V1.s (SV.int IntKind.i64 x377))), (AV.one (V1.s (SV.ptr p4))), (AV.one (V1.s (SV.int IntKind.i64 x1))), (AV.one (V1.s (SV.bool c771)))] S372 K)
 (letK (α := Bool) ((ieq x1 (6 : Int))) fun c772 =>
 F74_q39 D J x1 x2 p4 S372 x377 c772 K))
noncomputable def F74_q41 (D J : Disp) (x1 : Int) (x2 : Int) (p4 : PV) (S372 : St) (x377 : Int) (K : AV → St → Prop) : Prop :=
 letK (α := Bool) ((ieq x1 (2 : Int))) fun c497 =>
 ifK c497
 (PV.cs p4 fun b498 n499 =>
 letK (α := Nat) ((n499 + 1)) fun n500 =>
 St.at S372 b498 n500 fun y501 =>
 uncK y501 fun v502 y503 =>
 SV.cB v502 fun y505 =>
 ifK y505
 (F74_q33 D J x2 p4 S372 x377 K)
 (F74_q34 D J x2 p4 S372 x377 K))
 (letK (α := Bool) ((ieq x1 (3 : Int))) fun c616 =>
 ifK c616
 (F74_q38 D J x2 p4 S372 x377 K)
 (letK (α := Bool) ((ieq x1 (4 : Int))) fun c770 =>
 F74_q40 D J x1 x2 p4 S372 x377 c770 K))
noncomputable def F74_q42 (D J : Disp) (S : St) (x1 : Int) (x2 : Int) (x3 : Int) (p4 : PV) (x366 : Int) (y370 : Bool) (K : AV → St → Prop) : Prop :=
 D 62 [(AV.one (V1.agg [(SV.int IntKind.i64 x366), (SV.bool y370)])), (AV.one (V1.s (SV.int IntKind.i64 x3)))] S fun v371 S372 =>
 scK v371 fun v374 =>
 SV.cI IntKind.i64 v374 fun x377 =>
 letK (α := Bool) ((ieq x1 (1 : Int))) fun c378 =>
 ifK c378
 (PV.cs p4 fun b379 n380 =>
 letK (α := Nat) ((n380 + 1)) fun n381 =>
 St.at S372 b379 n381 fun y382 =>
 uncK y382 fun v383 y384 =>
 SV.cB v383 fun y386 =>
 ifK y386
 (F74_q30 D J x2 p4 S372 x377 K)
 (F74_q31 D J x2 p4 S372 x377 K))
 (F74_q41 D J x1 x2 p4 S372 x377 K)
noncomputable def F74_7 (D J : Disp) (x1 : Int) (x2 : Int) (x3 : Int) (p4 : PV) (c30 : Bool) (S : St) (K : AV → St → Prop) : Prop :=
 ifK c30
 (PV.cs p4 fun b300 n301 =>
 St.at S b300 n301 fun y302 =>
 uncK y302 fun v303 y304 =>
 SV.cI IntKind.i64 v303 fun x308 =>
 uncK y304 fun v309 y310 =>
 SV.cB v309 fun y312 =>
 F74_q28 D J S x1 x2 x3 x308 y312 K)
 (PV.cs p4 fun b358 n359 =>
 St.at S b358 n359 fun y360 =>
 uncK y360 fun v361 y362 =>
 SV.cI IntKind.i64 v361 fun x366 =>
 uncK y362 fun v367 y368 =>
 SV.cB v367 fun y370 =>
 F74_q42 D J S x1 x2 x3 p4 x366 y370 K)
noncomputable def X74_7 : X := (.br (.op .ret) (.op (.op (.op (.br (.op (.br (.op .ret) (.op .ret))) (.op (.br (.op (.br (.op .ret) (.op .ret))) (.op (.br (.op (.br (.op .ret) (.op .ret))) (.op (.br (.jmp 36 [1, 2, 3, 4, 41, 109]) (.op (.br (.jmp 36 [1, 2, 3, 4, 41, 109]) (.op (.br (.jmp 36 [1, 2, 3, 4, 41, 109]) (.op (.jmp 36 [1, 2, 3, 4, 41, 109])))))))))))))))))
theorem F74_7_eq (D J : Disp) (x1 : Int) (x2 : Int) (x3 : Int) (p4 : PV) (c30 : Bool) (S : St) (K : AV → St → Prop) : F74_7 D J x1 x2 x3 p4 c30 S K = execK IrP IrG Go.Proofs.Try.f74 (typed IrP D) J plans74 X74_7 (T74 7).1 (envOf (T74 7).2 [(AV.one (V1.s (SV.int IntKind.i64 x1))), (AV.one (V1.s (SV.int IntKind.i64 x2))), (AV.one (V1.s (SV.int IntKind.i64 x3))), (AV.one (V1.s (SV.ptr p4))), (AV.one (V1.s (SV.bool c30)))]) S K := by kernel_rfl
noncomputable def F74_q43 (D J : Disp) (S : St) (x1 : Int) (x2 : Int) (x3 : Int) (x308 : Int) (y312 : Bool) (K : AV → St → Prop) : Prop :=
 D 85 [(AV.one (V1.agg [(SV.int IntKind.i64 x308), (SV.bool y312)])), (AV.one (V1.s (SV.int IntKind.i64 x1))), (AV.one (V1.s (SV.int IntKind.i64 x2))), (AV.one (V1.s (SV.int IntKind.i64 x3)))] S fun v313 S314 =>
 avT v313 fun y316 =>
 uncV y316 fun v317 y318 =>
 v1S v317 fun v320 =>
 SV.cI IntKind.i64 v320 fun x323 =>
 uncV y318 fun v324 y325 =>
 v1S v324 fun v327 =>
 SV.cB v327 fun y328 =>
 endL y325 (K ((AV.tup [(V1.s (SV.int IntKind.i64 x323)), (V1.s (SV.bool y328))])) S314)
noncomputable def F74_q44 (D J : Disp) (S : St) (x2 : Int) (x3 : Int) (p4 : PV) (x41 : Int) (c434 : Bool) (K : AV → St → Prop) : Prop :=
 ifK c434
 (J 55 [(AV.one (V1.s (SV.int IntKind.i64 x2))), (AV.one (V1.s (SV.int IntKind.i64 x3))), (AV.one (V1.s (SV.ptr p4))), (AV.one (V1.s (SV.int IntKind.i64 x41))), (AV.one (V1.s (SV.bool c434)))] S K)
 (letK (α := Bool) ((ieq x41 (18 : Int))) fun c435 =>
 J 55 [(AV.one (V1.s (SV.int IntKind.i64 x2))), (AV.one (V1.s (SV.int IntKind.i64 x3))), (AV.one (V1.s (SV.ptr p4))), (AV.one (V1.s (SV.int IntKind.i64 x41))), (AV.one (V1.s (SV.bool c435)))] S K)
noncomputable def F74_q45 (D J : Disp) (S : St) (x2 : Int) (x3 : Int) (p4 : PV) (x41 : Int) (c399 : Bool) (K : AV → St → Prop) : Prop :=
 ifK c399
 (letK (α := Bool) ((Bool.not (ieq x2 x3))) fun c400 =>
 D 86 [(AV.one (V1.s (SV.bool c400)))] S fun v401 S402 =>
 avT v401 fun y404 =>
 uncV y404 fun v405 y406 =>
 v1S v405 fun v408 =>
 SV.cI IntKind.i64 v408 fun x411 =>
 uncV y406 fun v412 y413 =>
 v1S v412 fun v415 =>
 SV.cB v415 fun y416 =>
 endL y413 (K ((AV.tup [(V1.s (SV.int IntKind.i64 x411)), (V1.s (SV.bool y416))])) S402))
 (letK (α := Bool) ((ieq x41 (16 : Int))) fun c434 =>
 F74_q44 D J S x2 x3 p4 x41 c434 K)
noncomputable def F74_q46 (D J : Disp) (S : St) (x2 : Int) (x3 : Int) (p4 : PV) (x41 : Int) (c364 : Bool) (K : AV → St → Prop) : Prop :=
 ifK c364
 (letK (α := Bool) ((ieq x2 x3)) fun c365 =>
 D 86 [(AV.one (V1.s (SV.bool c365)))] S fun v366 S367 =>
 avT v366 fun y369 =>
 uncV y369 fun v370 y371 =>
 v1S v370 fun v373 =>
 SV.cI IntKind.i64 v373 fun x376 =>
 uncV y371 fun v377 y378 =>
 v1S v377 fun v380 =>
 SV.cB v380 fun y381 =>
 endL y378 (K ((AV.tup [(V1.s (SV.int IntKind.i64 x376)), (V1.s (SV.bool y381))])) S367))
 (letK (α := Bool) ((ieq x41 (15 : Int))) fun c399 =>
 F74_q45 D J S x2 x3 p4 x41 c399 K)
noncomputable def F74_q47 (D J : Disp) (S : St) (x2 : Int) (x3 : Int) (p4 : PV) (x41 : Int) (K : AV → St → Prop) : Prop :=
 letK (α := Bool) ((ieq x41 (9 : Int))) fun c360 =>
 ifK c360
 (letK (α := Int) ((ior IntKind.i64 x2 x3)) fun x361 =>
 K ((AV.tup [(V1.s (SV.int IntKind.i64 x361)), (V1.s (SV.bool Bool.true))])) S)
 (letK (α := Bool) ((ieq x41 (10 : Int))) fun c362 =>
 ifK c362
 (letK (α := Int) ((ixor IntKind.i64 x2 x3)) fun x363 =>
 K ((AV.tup [(V1.s (SV.int IntKind.i64 x363)), (V1.s (SV.bool Bool.true))])) S)
 (letK (α := Bool) ((ieq x41 (14 : Int))) fun c364 =>
 F74_q46 D J S x2 x3 p4 x41 c364 K))
noncomputable def F74_36 (D J : Disp) (x1 : Int) (x2 : Int) (x3 : Int) (p4 : PV) (x41 : Int) (c109 : Bool) (S : St) (K : AV → St → Prop) : Prop :=
 ifK c109
 (PV.cs p4 fun b300 n301 =>
 St.at S b300 n301 fun y302 =>
 uncK y302 fun v303 y304 =>
 SV.cI IntKind.i64 v303 fun x308 =>
 uncK y304 fun v309 y310 =>
 SV.cB v309 fun y312 =>
 F74_q43 D J S x1 x2 x3 x308 y312 K)
 (letK (α := Bool) ((ieq x41 (8 : Int))) fun c358 =>
 ifK c358
 (letK (α := Int) ((iand IntKind.i64 x2 x3)) fun x359 =>
 K ((AV.tup [(V1.s (SV.int IntKind.i64 x359)), (V1.s (SV.bool Bool.true))])) S)
 (F74_q47 D J S x2 x3 p4 x41 K))
noncomputable def X74_36 : X := (.br (.op .ret) (.op (.br (.op .ret) (.op (.br (.op .ret) (.op (.br (.op .ret) (.op (.br (.op .ret) (.op (.br (.op .ret) (.op (.br (.jmp 55 [2, 3, 4, 41, 152]) (.op (.jmp 55 [2, 3, 4, 41, 152])))))))))))))))
theorem F74_36_eq (D J : Disp) (x1 : Int) (x2 : Int) (x3 : Int) (p4 : PV) (x41 : Int) (c109 : Bool) (S : St) (K : AV → St → Prop) : F74_36 D J x1 x2 x3 p4 x41 c109 S K = execK IrP IrG Go.Proofs.Try.f74 (typed IrP D) J plans74 X74_36 (T74 36).1 (envOf (T74 36).2 [(AV.one (V1.s (SV.int IntKind.i64 x1))), (AV.one (V1.s (SV.int IntKind.i64 x2))), (AV.one (V1.s (SV.int IntKind.i64 x3))), (AV.one (V1.s (SV.ptr p4))), (AV.one (V1.s (SV.int IntKind.i64 x41))), (AV.one (V1.s (SV.bool c109)))]) S K := by kernel_rfl
noncomputable def F74_q48 (D J : Disp) (S : St) (x2 : Int) (x3 : Int) (x308 : Int) (y312 : Bool) (K : AV → St → Prop) : Prop :=
 D 87 [(AV.one (V1.agg [(SV.int IntKind.i64 x308), (SV.bool y312)])), (AV.one (V1.s (SV.int IntKind.i64 x2))), (AV.one (V1.s (SV.int IntKind.i64 x3)))] S fun v313 S314 =>
 scK v313 fun v316 =>
 SV.cB v316 fun y317 =>
 D 86 [(AV.one (V1.s (SV.bool y317)))] S314 fun v318 S319 =>
 avT v318 fun y321 =>
 uncV y321 fun v322 y323 =>
 v1S v322 fun v325 =>
 SV.cI IntKind.i64 v325 fun x328 =>
 uncV y323 fun v329 y330 =>
 v1S v329 fun v332 =>
 SV.cB v332 fun y333 =>
 endL y330 (K ((AV.tup [(V1.s (SV.int IntKind.i64 x328)), (V1.s (SV.bool y333))])) S319)
noncomputable def F74_55 (D J : Disp) (x2 : Int) (x3 : Int) (p4 : PV) (x41 : Int) (c152 : Bool) (S : St) (K : AV → St → Prop) : Prop :=
 ifK c152
 (PV.cs p4 fun b300 n301 =>
 St.at S b300 n301 fun y302 =>
 uncK y302 fun v303 y304 =>
 SV.cI IntKind.i64 v303 fun x308 =>
 uncK y304 fun v309 y310 =>
 SV.cB v309 fun y312 =>
 F74_q48 D J S x2 x3 x308 y312 K)
 (letK (α := Bool) ((ieq x41 (17 : Int))) fun c372 =>
 ifK c372
 (J 59 [(AV.one (V1.s (SV.int IntKind.i64 x2))), (AV.one (V1.s (SV.int IntKind.i64 x3))), (AV.one (V1.s (SV.ptr p4))), (AV.one (V1.s (SV.bool c372)))] S K)
 (letK (α := Bool) ((ieq x41 (19 : Int))) fun c373 =>
 J 59 [(AV.one (V1.s (SV.int IntKind.i64 x2))), (AV.one (V1.s (SV.int IntKind.i64 x3))), (AV.one (V1.s (SV.ptr p4))), (AV.one (V1.s (SV.bool c373)))] S K))
noncomputable def X74_55 : X := (.br (.op .ret) (.op (.br (.jmp 59 [2, 3, 4, 162]) (.op (.jmp 59 [2, 3, 4, 162])))))
theorem F74_55_eq (D J : Disp) (x2 : Int) (x3 : Int) (p4 : PV) (x41 : Int) (c152 : Bool) (S : St) (K : AV → St → Prop) : F74_55 D J x2 x3 p4 x41 c152 S K = execK IrP IrG Go.Proofs.Try.f74 (typed IrP D) J plans74 X74_55 (T74 55).1 (envOf (T74 55).2 [(AV.one (V1.s (SV.int IntKind.i64 x2))), (AV.one (V1.s (SV.int IntKind.i64 x3))), (AV.one (V1.s (SV.ptr p4))), (AV.one (V1.s (SV.int IntKind.i64 x41))), (AV.one (V1.s (SV.bool c152)))]) S K := by kernel_rfl
noncomputable def F74_q49 (D J : Disp) (S : St) (x2 : Int) (x3 : Int) (x308 : Int) (y312 : Bool) (K : AV → St → Prop) : Prop :=
 D 87 [(AV.one (V1.agg [(SV.int IntKind.i64 x308), (SV.bool y312)])), (AV.one (V1.s (SV.int IntKind.i64 x3))), (AV.one (V1.s (SV.int IntKind.i64 x2)))] S fun v313 S314 =>
 scK v313 fun v316 =>
 SV.cB v316 fun y317 =>
 letK (α := Bool) ((Bool.not y317)) fun c318 =>
 D 86 [(AV.one (V1.s (SV.bool c318)))] S314 fun v319 S320 =>
 avT v319 fun y322 =>
 uncV y322 fun v323 y324 =>
 v1S v323 fun v326 =>
 SV.cI IntKind.i64 v326 fun x329 =>
 uncV y324 fun v330 y331 =>
 v1S v330 fun v333 =>
 SV.cB v333 fun y334 =>
 endL y331 (K ((AV.tup [(V1.s (SV.int IntKind.i64 x329)), (V1.s (SV.bool y334))])) S320)
noncomputable def F74_59 (D J : Disp) (x2 : Int) (x3 : Int) (p4 : PV) (c162 : Bool) (S : St) (K : AV → St → Prop) : Prop :=
 ifK c162
 (PV.cs p4 fun b300 n301 =>
 St.at S b300 n301 fun y302 =>
 uncK y302 fun v303 y304 =>
 SV.cI IntKind.i64 v303 fun x308 =>
 uncK y304 fun v309 y310 =>
 SV.cB v309 fun y312 =>
 F74_q49 D J S x2 x3 x308 y312 K)
 (K ((AV.tup [(V1.s (SV.int IntKind.i64 (0 : Int))), (V1.s (SV.bool Bool.false))])) S)
noncomputable def X74_59 : X := (.br (.op .ret) (.op .ret))
theorem F74_59_eq (D J : Disp) (x2 : Int) (x3 : Int) (p4 : PV) (c162 : Bool) (S : St) (K : AV → St → Prop) : F74_59 D J x2 x3 p4 c162 S K = execK IrP IrG Go.Proofs.Try.f74 (typed IrP D) J plans74 X74_59 (T74 59).1 (envOf (T74 59).2 [(AV.one (V1.s (SV.int IntKind.i64 x2))), (AV.one (V1.s (SV.int IntKind.i64 x3))), (AV.one (V1.s (SV.ptr p4))), (AV.one (V1.s (SV.bool c162)))]) S K := by kernel_rfl
noncomputable abbrev A74_0 (D J : Disp) (vals : List AV) (S : St) (K : AV → St → Prop) : Prop :=
  uncA vals fun a9001 r9002 => avA a9001 fun l9004 => uncK l9004 fun s9006 r9007 => SV.cI IntKind.i64 s9006 fun x0_0 => uncK r9007 fun s9010 r9011 => SV.cB s9010 fun c0_1 => endL r9011 <| uncA r9002 fun a9015 r9016 => scK a9015 fun s9018 => SV.cI IntKind.i64 s9018 fun x1 => uncA r9016 fun a9021 r9022 => scK a9021 fun s9024 => SV.cI IntKind.i64 s9024 fun x2 => uncA r9022 fun a9027 r9028 => scK a9027 fun s9030 => SV.cI IntKind.i64 s9030 fun x3 => endL r9028 <| F74_0 D J x0_0 c0_1 x1 x2 x3 S K
theorem A74_0_ok {D J : Disp} (hD : DOK IrP IrG D) (hJ : JOK IrP IrG Go.Proofs.Try.f74 T74 J) {vals : List AV} {S : St} {K : AV → St → Prop} (h0 : A74_0 D J vals S K) : Runs IrP IrG Go.Proofs.Try.f74 (T74 0).1 (envOf (T74 0).2 vals) S K := by
  obtain ⟨a9001, r9002, rfl, h3⟩ := uncA_some h0
  obtain ⟨l9004, rfl, h5⟩ := avA_some h3
  obtain ⟨s9006, r9007, rfl, h8⟩ := uncK_some h5
  obtain ⟨x0_0, rfl, h9⟩ := cI_some h8
  obtain ⟨s9010, r9011, rfl, h12⟩ := uncK_some h9
  obtain ⟨c0_1, rfl, h13⟩ := cB_some h12
  obtain ⟨rfl, h14⟩ := endL_some h13
  obtain ⟨a9015, r9016, rfl, h17⟩ := uncA_some h14
  obtain ⟨s9018, rfl, h19⟩ := scK_some h17
  obtain ⟨x1, rfl, h20⟩ := cI_some h19
  obtain ⟨a9021, r9022, rfl, h23⟩ := uncA_some h20
  obtain ⟨s9024, rfl, h25⟩ := scK_some h23
  obtain ⟨x2, rfl, h26⟩ := cI_some h25
  obtain ⟨a9027, r9028, rfl, h29⟩ := uncA_some h26
  obtain ⟨s9030, rfl, h31⟩ := scK_some h29
  obtain ⟨x3, rfl, h32⟩ := cI_some h31
  obtain ⟨rfl, h33⟩ := endL_some h32
  have hq := Eq.mp (F74_0_eq D J x0_0 c0_1 x1 x2 x3 S K) h33
  exact execK_runs hD.typed Ir_zero Ir_mixed hJ X74_0 (T74 0).1 (envOf (T74 0).2 _) S K (chk_of (by kernel_rfl) (by kernel_rfl)) hq
noncomputable abbrev A74_2 (D J : Disp) (vals : List AV) (S : St) (K : AV → St → Prop) : Prop :=
  uncA vals fun a9001 r9002 => scK a9001 fun s9004 => SV.cI IntKind.i64 s9004 fun x1 => uncA r9002 fun a9007 r9008 => scK a9007 fun s9010 => SV.cI IntKind.i64 s9010 fun x2 => uncA r9008 fun a9013 r9014 => scK a9013 fun s9016 => SV.cI IntKind.i64 s9016 fun x3 => uncA r9014 fun a9019 r9020 => scK a9019 fun s9022 => SV.cP s9022 fun p4 => uncA r9020 fun a9025 r9026 => scK a9025 fun s9028 => SV.cB s9028 fun c17 => endL r9026 <| F74_2 D J x1 x2 x3 p4 c17 S K
theorem A74_2_ok {D J : Disp} (hD : DOK IrP IrG D) (hJ : JOK IrP IrG Go.Proofs.Try.f74 T74 J) {vals : List AV} {S : St} {K : AV → St → Prop} (h0 : A74_2 D J vals S K) : Runs IrP IrG Go.Proofs.Try.f74 (T74 2).1 (envOf (T74 2).2 vals) S K := by
  obtain ⟨a9001, r9002, rfl, h3⟩ := uncA_some h0
  obtain ⟨s9004, rfl, h5⟩ := scK_some h3
  obtain ⟨x1, rfl, h6⟩ := cI_some h5
  obtain ⟨a9007, r9008, rfl, h9⟩ := uncA_some h6
  obtain ⟨s9010, rfl, h11⟩ := scK_some h9
  obtain ⟨x2, rfl, h12⟩ := cI_some h11
  obtain ⟨a9013, r9014, rfl, h15⟩ := uncA_some h12
  obtain ⟨s9016, rfl, h17⟩ := scK_some h15
  obtain ⟨x3, rfl, h18⟩ := cI_some h17
  obtain ⟨a9019, r9020, rfl, h21⟩ := uncA_some h18
  obtain ⟨s9022, rfl, h23⟩ := scK_some h21
  obtain ⟨p4, rfl, h24⟩ := cP_some h23
  obtain ⟨a9025, r9026, rfl, h27⟩ := uncA_some h24
  obtain ⟨s9028, rfl, h29⟩ := scK_some h27
  obtain ⟨c17, rfl, h30⟩ := cB_some h29
  obtain ⟨rfl, h31⟩ := endL_some h30
  have hq := Eq.mp (F74_2_eq D J x1 x2 x3 p4 c17 S K) h31
  exact execK_runs hD.typed Ir_zero Ir_mixed hJ X74_2 (T74 2).1 (envOf (T74 2).2 _) S K (chk_of (by kernel_rfl) (by kernel_rfl)) hq
noncomputable abbrev A74_7 (D J : Disp) (vals : List AV) (S : St) (K : AV → St → Prop) : Prop :=
  uncA vals fun a9001 r9002 => scK a9001 fun s9004 => SV.cI IntKind.i64 s9004 fun x1 => uncA r9002 fun a9007 r9008 => scK a9007 fun s9010 => SV.cI IntKind.i64 s9010 fun x2 => uncA r9008 fun a9013 r9014 => scK a9013 fun s9016 => SV.cI IntKind.i64 s9016 fun x3 => uncA r9014 fun a9019 r9020 => scK a9019 fun s9022 => SV.cP s9022 fun p4 => uncA r9020 fun a9025 r9026 => scK a9025 fun s9028 => SV.cB s9028 fun c30 => endL r9026 <| F74_7 D J x1 x2 x3 p4 c30 S K
theorem A74_7_ok {D J : Disp} (hD : DOK IrP IrG D) (hJ : JOK IrP IrG Go.Proofs.Try.f74 T74 J) {vals : List AV} {S : St} {K : AV → St → Prop} (h0 : A74_7 D J vals S K) : Runs IrP IrG Go.Proofs.Try.f74 (T74 7).1 (envOf (T74 7).2 vals) S K := by
  obtain ⟨a9001, r9002, rfl, h3⟩ := uncA_some h0
  obtain ⟨s9004, rfl, h5⟩ := scK_some h3
  obtain ⟨x1, rfl, h6⟩ := cI_some h5
  obtain ⟨a9007, r9008, rfl, h9⟩ := uncA_some h6
  obtain ⟨s9010, rfl, h11⟩ := scK_some h9
  obtain ⟨x2, rfl, h12⟩ := cI_some h11
  obtain ⟨a9013, r9014, rfl, h15⟩ := uncA_some h12
  obtain ⟨s9016, rfl, h17⟩ := scK_some h15
  obtain ⟨x3, rfl, h18⟩ := cI_some h17
  obtain ⟨a9019, r9020, rfl, h21⟩ := uncA_some h18
  obtain ⟨s9022, rfl, h23⟩ := scK_some h21
  obtain ⟨p4, rfl, h24⟩ := cP_some h23
  obtain ⟨a9025, r9026, rfl, h27⟩ := uncA_some h24
  obtain ⟨s9028, rfl, h29⟩ := scK_some h27
  obtain ⟨c30, rfl, h30⟩ := cB_some h29
  obtain ⟨rfl, h31⟩ := endL_some h30
  have hq := Eq.mp (F74_7_eq D J x1 x2 x3 p4 c30 S K) h31
  exact execK_runs hD.typed Ir_zero Ir_mixed hJ X74_7 (T74 7).1 (envOf (T74 7).2 _) S K (chk_of (by kernel_rfl) (by kernel_rfl)) hq
noncomputable abbrev A74_36 (D J : Disp) (vals : List AV) (S : St) (K : AV → St → Prop) : Prop :=
  uncA vals fun a9001 r9002 => scK a9001 fun s9004 => SV.cI IntKind.i64 s9004 fun x1 => uncA r9002 fun a9007 r9008 => scK a9007 fun s9010 => SV.cI IntKind.i64 s9010 fun x2 => uncA r9008 fun a9013 r9014 => scK a9013 fun s9016 => SV.cI IntKind.i64 s9016 fun x3 => uncA r9014 fun a9019 r9020 => scK a9019 fun s9022 => SV.cP s9022 fun p4 => uncA r9020 fun a9025 r9026 => scK a9025 fun s9028 => SV.cI IntKind.i64 s9028 fun x41 => uncA r9026 fun a9031 r9032 => scK a9031 fun s9034 => SV.cB s9034 fun c109 => endL r9032 <| F74_36 D J x1 x2 x3 p4 x41 c109 S K
theorem A74_36_ok {D J : Disp} (hD : DOK IrP IrG D) (hJ : JOK IrP IrG Go.Proofs.Try.f74 T74 J) {vals : List AV} {S : St} {K : AV → St → Prop} (h0 : A74_36 D J vals S K) : Runs IrP IrG Go.Proofs.Try.f74 (T74 36).1 (envOf (T74 36).2 vals) S K := by
  obtain ⟨a9001, r9002, rfl, h3⟩ := uncA_some h0
  obtain ⟨s9004, rfl, h5⟩ := scK_some h3
  obtain ⟨x1, rfl, h6⟩ := cI_some h5
  obtain ⟨a9007, r9008, rfl, h9⟩ := uncA_some h6
  obtain ⟨s9010, rfl, h11⟩ := scK_some h9
  obtain ⟨x2, rfl, h12⟩ := cI_some h11
  obtain ⟨a9013, r9014, rfl, h15⟩ := uncA_some h12
  obtain ⟨s9016, rfl, h17⟩ := scK_some h15
  obtain ⟨x3, rfl, h18⟩ := cI_some h17
  obtain ⟨a9019, r9020, rfl, h21⟩ := uncA_some h18
  obtain ⟨s9022, rfl, h23⟩ := scK_some h21
  obtain ⟨p4, rfl, h24⟩ := cP_some h23
  obtain ⟨a9025, r9026, rfl, h27⟩ := uncA_some h24
  obtain ⟨s9028, rfl, h29⟩ := scK_some h27
  obtain ⟨x41, rfl, h30⟩ := cI_some h29
  obtain ⟨a9031, r9032, rfl, h33⟩ := uncA_some h30
  obtain ⟨s9034, rfl, h35⟩ := scK_some h33
  obtain ⟨c109, rfl, h36⟩ := cB_some h35
  obtain ⟨rfl, h37⟩ := endL_some h36
  have hq := Eq.mp (F74_36_eq D J x1 x2 x3 p4 x41 c109 S K) h37
  exact execK_runs hD.typed Ir_zero Ir_mixed hJ X74_36 (T74 36).1 (envOf (T74 36).2 _) S K (chk_of (by kernel_rfl) (by kernel_rfl)) hq
noncomputable abbrev A74_55 (D J : Disp) (vals : List AV) (S : St) (K : AV → St → Prop) : Prop :=
  uncA vals fun a9001 r9002 => scK a9001 fun s9004 => SV.cI IntKind.i64 s9004 fun x2 => uncA r9002 fun a9007 r9008 => scK a9007 fun s9010 => SV.cI IntKind.i64 s9010 fun x3 => uncA r9008 fun a9013 r9014 => scK a9013 fun s9016 => SV.cP s9016 fun p4 => uncA r9014 fun a9019 r9020 => scK a9019 fun s9022 => SV.cI IntKind.i64 s9022 fun x41 => uncA r9020 fun a9025 r9026 => scK a9025 fun s9028 => SV.cB s9028 fun c152 => endL r9026 <| F74_55 D J x2 x3 p4 x41 c152 S K
theorem A74_55_ok {D J : Disp} (hD : DOK IrP IrG D) (hJ : JOK IrP IrG Go.Proofs.Try.f74 T74 J) {vals : List AV} {S : St} {K : AV → St → Prop} (h0 : A74_55 D J vals S K) : Runs IrP IrG Go.Proofs.Try.f74 (T74 55).1 (envOf (T74 55).2 vals) S K := by
  obtain ⟨a9001, r9002, rfl, h3⟩ := uncA_some h0
  obtain ⟨s9004, rfl, h5⟩ := scK_some h3
  obtain ⟨x2, rfl, h6⟩ := cI_some h5
  obtain ⟨a9007, r9008, rfl, h9⟩ := uncA_some h6
  obtain ⟨s9010, rfl, h11⟩ := scK_some h9
  obtain ⟨x3, rfl, h12⟩ := cI_some h11
  obtain ⟨a9013, r9014, rfl, h15⟩ := uncA_some h12
  obtain ⟨s9016, rfl, h17⟩ := scK_some h15
  obtain ⟨p4, rfl, h18⟩ := cP_some h17
  obtain ⟨a9019, r9020, rfl, h21⟩ := uncA_some h18
  obtain ⟨s9022, rfl, h23⟩ := scK_some h21
  obtain ⟨x41, rfl, h24⟩ := cI_some h23
  obtain ⟨a9025, r9026, rfl, h27⟩ := uncA_some h24
  obtain ⟨s9028, rfl, h29⟩ := scK_some h27
  obtain ⟨c152, rfl, h30⟩ := cB_some h29
  obtain ⟨rfl, h31⟩ := endL_some h30
  have hq := Eq.mp (F74_55_eq D J x2 x3 p4 x41 c152 S K) h31
  exact execK_runs hD.typed Ir_zero Ir_mixed hJ X74_55 (T74 55).1 (envOf (T74 55).2 _) S K (chk_of (by kernel_rfl) (by kernel_rfl)) hq
noncomputable abbrev A74_59 (D J : Disp) (vals : List AV) (S : St) (K : AV → St → Prop) : Prop :=
  uncA vals fun a9001 r9002 => scK a9001 fun s9004 => SV.cI IntKind.i64 s9004 fun x2 => uncA r9002 fun a9007 r9008 => scK a9007 fun s9010 => SV.cI IntKind.i64 s9010 fun x3 => uncA r9008 fun a9013 r9014 => scK a9013 fun s9016 => SV.cP s9016 fun p4 => uncA r9014 fun a9019 r9020 => scK a9019 fun s9022 => SV.cB s9022 fun c162 => endL r9020 <| F74_59 D J x2 x3 p4 c162 S K
theorem A74_59_ok {D J : Disp} (hD : DOK IrP IrG D) (hJ : JOK IrP IrG Go.Proofs.Try.f74 T74 J) {vals : List AV} {S : St} {K : AV → St → Prop} (h0 : A74_59 D J vals S K) : Runs IrP IrG Go.Proofs.Try.f74 (T74 59).1 (envOf (T74 59).2 vals) S K := by
  obtain ⟨a9001, r9002, rfl, h3⟩ := uncA_some h0
  obtain ⟨s9004, rfl, h5⟩ := scK_some h3
  obtain ⟨x2, rfl, h6⟩ := cI_some h5
  obtain ⟨a9007, r9008, rfl, h9⟩ := uncA_some h6
  obtain ⟨s9010, rfl, h11⟩ := scK_some h9
  obtain ⟨x3, rfl, h12⟩ := cI_some h11
  obtain ⟨a9013, r9014, rfl, h15⟩ := uncA_some h12
  obtain ⟨s9016, rfl, h17⟩ := scK_some h15
  obtain ⟨p4, rfl, h18⟩ := cP_some h17
  obtain ⟨a9019, r9020, rfl, h21⟩ := uncA_some h18
  obtain ⟨s9022, rfl, h23⟩ := scK_some h21
  obtain ⟨c162, rfl, h24⟩ := cB_some h23
  obtain ⟨rfl, h25⟩ := endL_some h24
  have hq := Eq.mp (F74_59_eq D J x2 x3 p4 c162 S K) h25
  exact execK_runs hD.typed Ir_zero Ir_mixed hJ X74_59 (T74 59).1 (envOf (T74 59).2 _) S K (chk_of (by kernel_rfl) (by kernel_rfl)) hq
noncomputable def J74 (D : Disp) (k : Nat) : Disp := Nat.rec (motive := fun _ => Disp) Disp.no (fun _ ih => Disp.add 0 (A74_0 D ih) <| Disp.add 2 (A74_2 D ih) <| Disp.add 7 (A74_7 D ih) <| Disp.add 36 (A74_36 D ih) <| Disp.add 55 (A74_55 D ih) <| Disp.add 59 (A74_59 D ih) <| Disp.no) k
theorem J74_ok {D : Disp} (hD : DOK IrP IrG D) : ∀ k, JOK IrP IrG Go.Proofs.Try.f74 T74 (J74 D k)
  | 0 => JOK.no
  | k + 1 => JOK.add (ltB_ok (by kernel_rfl)) (fun vals S K h => A74_0_ok hD (J74_ok hD k) h) <| JOK.add (ltB_ok (by kernel_rfl)) (fun vals S K h => A74_2_ok hD (J74_ok hD k) h) <| JOK.add (ltB_ok (by kernel_rfl)) (fun vals S K h => A74_7_ok hD (J74_ok hD k) h) <| JOK.add (ltB_ok (by kernel_rfl)) (fun vals S K h => A74_36_ok hD (J74_ok hD k) h) <| JOK.add (ltB_ok (by kernel_rfl)) (fun vals S K h => A74_55_ok hD (J74_ok hD k) h) <| JOK.add (ltB_ok (by kernel_rfl)) (fun vals S K h => A74_59_ok hD (J74_ok hD k) h) <| JOK.no
theorem E74_ok {D : Disp} (hD : DOK IrP IrG D) (k : Nat) {args : List AV} {S : St} {K : AV → St → Prop} (h : A74_0 D (J74 D k) args S K) : CallE IrP IrG 74 args S K := by
  have hr := A74_0_ok hD (J74_ok hD k) h
  have hl : args.length = 4 := by
    have h0 := h
    obtain ⟨a9001, r9002, rfl, h3⟩ := uncA_some h0
    obtain ⟨l9004, rfl, h5⟩ := avA_some h3
    obtain ⟨s9006, r9007, rfl, h8⟩ := uncK_some h5
    obtain ⟨x0_0, rfl, h9⟩ := cI_some h8
    obtain ⟨s9010, r9011, rfl, h12⟩ := uncK_some h9
    obtain ⟨c0_1, rfl, h13⟩ := cB_some h12
    obtain ⟨rfl, h14⟩ := endL_some h13
    obtain ⟨a9015, r9016, rfl, h17⟩ := uncA_some h14
    obtain ⟨s9018, rfl, h19⟩ := scK_some h17
    obtain ⟨x1, rfl, h20⟩ := cI_some h19
    obtain ⟨a9021, r9022, rfl, h23⟩ := uncA_some h20
    obtain ⟨s9024, rfl, h25⟩ := scK_some h23
    obtain ⟨x2, rfl, h26⟩ := cI_some h25
    obtain ⟨a9027, r9028, rfl, h29⟩ := uncA_some h26
    obtain ⟨s9030, rfl, h31⟩ := scK_some h29
    obtain ⟨x3, rfl, h32⟩ := cI_some h31
    obtain ⟨rfl, h33⟩ := endL_some h32
    rfl
  refine callOK_of (fn := Go.Proofs.Try.f74) (c := (match Go.Proofs.Try.f74.body with | some c => c | none => .skip)) (by kernel_rfl) (by kernel_rfl) (by kernel_rfl) (by rw [hl]; kernel_rfl) (by kernel_rfl) ?_
  rw [hl]
  exact hr
noncomputable def plans75 (i : Nat) : Plan := []
noncomputable def T75 (p : Nat) : List Item × List Nat := bif Nat.beq p 0 then ([.code (match Go.Proofs.Try.f75.body with | some c => c | none => .skip)], [0]) else
  ([], [])
noncomputable def F75_q0 (D J : Disp) (S : St) (S300 : St) (c316 : Bool) (K : AV → St → Prop) : Prop :=
 ifK c316
 (K ((AV.one (V1.s (SV.bool Bool.true)))) S300)
 (St.at S300 (Bk.new (St.next S)) 0 fun y317 =>
 uncK y317 fun v318 y319 =>
 SV.cI IntKind.i64 v318 fun x323 =>
 letK (α := Bool) ((ieq x323 (32 : Int))) fun c324 =>
 ifK c324
 (K ((AV.one (V1.s (SV.bool Bool.true)))) S300)
 (St.at S300 (Bk.new (St.next S)) 0 fun y325 =>
 uncK y325 fun v326 y327 =>
 SV.cI IntKind.i64 v326 fun x331 =>
 letK (α := Bool) ((ieq x331 (64 : Int))) fun c332 =>
 K ((AV.one (V1.s (SV.bool c332)))) S300))
noncomputable def F75_0 (D J : Disp) (x0_0 : Int) (c0_1 : Bool) (S : St) (K : AV → St → Prop) : Prop :=
 letK (α := St) ((St.add S (AO.cells [(SV.int IntKind.i64 x0_0), (SV.bool c0_1)] (Op2.ty 23)))) fun S300 =>
 St.at S300 (Bk.new (St.next S)) 0 fun y301 =>
 uncK y301 fun v302 y303 =>
 SV.cI IntKind.i64 v302 fun x307 =>
 letK (α := Bool) ((ieq x307 (8 : Int))) fun c308 =>
 ifK c308
 (K ((AV.one (V1.s (SV.bool Bool.true)))) S300)
 (St.at S300 (Bk.new (St.next S)) 0 fun y309 =>
 uncK y309 fun v310 y311 =>
 SV.cI IntKind.i64 v310 fun x315 =>
 letK (α := Bool) ((ieq x315 (16 : Int))) fun c316 =>
 F75_q0 D J S S300 c316 K)
noncomputable def X75_0 : X := (.op (.op .ret))
theorem F75_0_eq (D J : Disp) (x0_0 : Int) (c0_1 : Bool) (S : St) (K : AV → St → Prop) : F75_0 D J x0_0 c0_1 S K = execK IrP IrG Go.Proofs.Try.f75 (typed IrP D) J plans75 X75_0 (T75 0).1 (envOf (T75 0).2 [(AV.one (V1.agg [(SV.int IntKind.i64 x0_0), (SV.bool c0_1)]))]) S K := by kernel_rfl
noncomputable abbrev A75_0 (D J : Disp) (vals : List AV) (S : St) (K : AV → St → Prop) : Prop :=
  uncA vals fun a9001 r9002 => avA a9001 fun l9004 => uncK l9004 fun s9006 r9007 => SV.cI IntKind.i64 s9006 fun x0_0 => uncK r9007 fun s9010 r9011 => SV.cB s9010 fun c0_1 => endL r9011 <| endL r9002 <| F75_0 D J x0_0 c0_1 S K
theorem A75_0_ok {D J : Disp} (hD : DOK IrP IrG D) (hJ : JOK IrP IrG Go.Proofs.Try.f75 T75 J) {vals : List AV} {S : St} {K : AV → St → Prop} (h0 : A75_0 D J vals S K) : Runs IrP IrG Go.Proofs.Try.f75 (T75 0).1 (envOf (T75 0).2 vals) S K := by
  obtain ⟨a9001, r9002, rfl, h3⟩ := uncA_some h0
  obtain ⟨l9004, rfl, h5⟩ := avA_some h3
  obtain ⟨s9006, r9007, rfl, h8⟩ := uncK_some h5
  obtain ⟨x0_0, rfl, h9⟩ := cI_some h8
  obtain ⟨s9010, r9011, rfl, h12⟩ := uncK_some h9
  obtain ⟨c0_1, rfl, h13⟩ := cB_some h12
  obtain ⟨rfl, h14⟩ := endL_some h13
  obtain ⟨rfl, h15⟩ := endL_some h14
  have hq := Eq.mp (F75_0_eq D J x0_0 c0_1 S K) h15
  exact execK_runs hD.typed Ir_zero Ir_mixed hJ X75_0 (T75 0).1 (envOf (T75 0).2 _) S K (chk_of (by kernel_rfl) (by kernel_rfl)) hq
noncomputable def J75 (D : Disp) (k : Nat) : Disp := Nat.rec (motive := fun _ => Disp) Disp.no (fun _ ih => Disp.add 0 (A75_0 D ih) <| Disp.no) k
theorem J75_ok {D : Disp} (hD : DOK IrP IrG D) : ∀ k, JOK IrP IrG Go.Proofs.Try.f75 T75 (J75 D k)
  | 0 => JOK.no
  | k + 1 => JOK.add (ltB_ok (by kernel_rfl)) (fun vals S K h => A75_0_ok hD (J75_ok hD k) h) <| JOK.no
theorem E75_ok {D : Disp} (hD : DOK IrP IrG D) (k : Nat) {args : List AV} {S : St} {K : AV → St → Prop} (h : A75_0 D (J75 D k) args S K) : CallE IrP IrG 75 args S K := by
  have hr := A75_0_ok hD (J75_ok hD k) h
  have hl : args.length = 1 := by
    have h0 := h
    obtain ⟨a9001, r9002, rfl, h3⟩ := uncA_some h0
    obtain ⟨l9004, rfl, h5⟩ := avA_some h3
    obtain ⟨s9006, r9007, rfl, h8⟩ := uncK_some h5
    obtain ⟨x0_0, rfl, h9⟩ := cI_some h8
    obtain ⟨s9010, r9011, rfl, h12⟩ := uncK_some h9
    obtain ⟨c0_1, rfl, h13⟩ := cB_some h12
    obtain ⟨rfl, h14⟩ := endL_some h13
    obtain ⟨rfl, h15⟩ := endL_some h14
    rfl
  refine callOK_of (fn := Go.Proofs.Try.f75) (c := (match Go.Proofs.Try.f75.body with | some c => c | none => .skip)) (by kernel_rfl) (by kernel_rfl) (by kernel_rfl) (by rw [hl]; kernel_rfl) (by kernel_rfl) ?_
  rw [hl]
  exact hr
noncomputable def plans76 (i : Nat) : Plan := []
noncomputable def T76 (p : Nat) : List Item × List Nat := bif Nat.beq p 0 then ([.code (match Go.Proofs.Try.f76.body with | some c => c | none => .skip)], [0, 1]) else
  bif Nat.beq p 2 then (navs [.op, .op] [.code (match Go.Proofs.Try.f76.body with | some c => c | none => .skip)], [0, 1, 7, 8]) else
  ([], [])
noncomputable def X76_0 : X := (.op (.op (.jmp 2 [0, 1, 7, 8])))
noncomputable def X76_2 : X := (.op (.br (.op (.op (.br (.op .ret) (.op (.jmp 2 [0, 1, 7, 8]))))) (.op .ret)))
noncomputable def A76_0 (D J : Disp) (vals : List AV) (S : St) (K : AV → St → Prop) : Prop := req (Nat.beq vals.length 2) (execK IrP IrG Go.Proofs.Try.f76 (typed IrP D) J plans76 X76_0 (T76 0).1 (envOf (T76 0).2 vals) S K)
theorem A76_0_ok {D J : Disp} (hD : DOK IrP IrG D) (hJ : JOK IrP IrG Go.Proofs.Try.f76 T76 J) {vals : List AV} {S : St} {K : AV → St → Prop} (h0 : A76_0 D J vals S K) : Runs IrP IrG Go.Proofs.Try.f76 (T76 0).1 (envOf (T76 0).2 vals) S K :=
  execK_runs hD.typed Ir_zero Ir_mixed hJ X76_0 (T76 0).1 (envOf (T76 0).2 vals) S K (chk_of (by kernel_rfl) (by kernel_rfl)) (req_and h0).2
noncomputable def A76_2 (D J : Disp) (vals : List AV) (S : St) (K : AV → St → Prop) : Prop := req (Nat.beq vals.length 4) (execK IrP IrG Go.Proofs.Try.f76 (typed IrP D) J plans76 X76_2 (T76 2).1 (envOf (T76 2).2 vals) S K)
theorem A76_2_ok {D J : Disp} (hD : DOK IrP IrG D) (hJ : JOK IrP IrG Go.Proofs.Try.f76 T76 J) {vals : List AV} {S : St} {K : AV → St → Prop} (h0 : A76_2 D J vals S K) : Runs IrP IrG Go.Proofs.Try.f76 (T76 2).1 (envOf (T76 2).2 vals) S K :=
  execK_runs hD.typed Ir_zero Ir_mixed hJ X76_2 (T76 2).1 (envOf (T76 2).2 vals) S K (chk_of (by kernel_rfl) (by kernel_rfl)) (req_and h0).2
noncomputable def J76 (D : Disp) (k : Nat) : Disp := Nat.rec (motive := fun _ => Disp) Disp.no (fun _ ih => Disp.add 0 (A76_0 D ih) <| Disp.add 2 (A76_2 D ih) <| Disp.no) k
theorem J76_ok {D : Disp} (hD : DOK IrP IrG D) : ∀ k, JOK IrP IrG Go.Proofs.Try.f76 T76 (J76 D k)
  | 0 => JOK.no
  | k + 1 => JOK.add (ltB_ok (by kernel_rfl)) (fun vals S K h => A76_0_ok hD (J76_ok hD k) h) <| JOK.add (ltB_ok (by kernel_rfl)) (fun vals S K h => A76_2_ok hD (J76_ok hD k) h) <| JOK.no
theorem E76_ok {D : Disp} (hD : DOK IrP IrG D) (k : Nat) {args : List AV} {S : St} {K : AV → St → Prop} (h : A76_0 D (J76 D k) args S K) : CallE IrP IrG 76 args S K := by
  have hr := A76_0_ok hD (J76_ok hD k) h
  have hl : args.length = 2 := Nat.eq_of_beq_eq_true (req_and h).1
  refine callOK_of (fn := Go.Proofs.Try.f76) (c := (match Go.Proofs.Try.f76.body with | some c => c | none => .skip)) (by kernel_rfl) (by kernel_rfl) (by kernel_rfl) (by rw [hl]; kernel_rfl) (by kernel_rfl) ?_
  rw [hl]
  exact hr
end
end Go.Xe
