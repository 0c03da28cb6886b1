import Derived.Test.YtdnakjagbhhmmaaXF0
import Derived.KernelRfl
set_option linter.unusedVariables false
set_option maxRecDepth 100000
namespace Go.Xe
open Go.RowKit
noncomputable section
noncomputable def plans3 (i : Nat) : Plan := []
noncomputable def T3 (p : Nat) : List Item × List Nat := bif Nat.beq p 0 then ([.code (match Go.Proofs.Try.f3.body with | some c => c | none => .skip)], [0, 1]) else
  bif Nat.beq p 6 then (navs [.op, .op, .op, .op, .op, .op] [.code (match Go.Proofs.Try.f3.body with | some c => c | none => .skip)], [0, 1, 5, 6, 7]) else
  bif Nat.beq p 12 then (navs [.op, .op, .op, .op, .op, .op, .op, .el, .op, .op] [.code (match Go.Proofs.Try.f3.body with | some c => c | none => .skip)], [0, 5, 6, 8, 9]) else
  ([], [])
noncomputable def F3_0 (D J : Disp) (x0 : Int) (x1 : Int) (S : St) (K : AV → St → Prop) : Prop :=
 D 5 [(AV.one (V1.s (SV.int IntKind.i64 x0))), (AV.one (V1.s (SV.int IntKind.i64 (12 : Int))))] S fun v300 S301 =>
 scK v300 fun v303 =>
 SV.cI IntKind.i64 v303 fun x306 =>
 let x307 : Int := (iwrap IntKind.i64 ((1 : Int) + x306));
 D 5 [(AV.one (V1.s (SV.int IntKind.i64 x1))), (AV.one (V1.s (SV.int IntKind.i64 x307)))] S301 fun v308 S309 =>
 scK v308 fun v311 =>
 SV.cI IntKind.i64 v311 fun x314 =>
 D 6 [(AV.one (V1.s (SV.int IntKind.i64 x307))), (AV.one (V1.s (SV.int IntKind.i64 x314)))] S309 fun v315 S316 =>
 avA v315 fun y319 =>
 req (Nat.beq (List.length y319) 3) <|
 uncK y319 fun v320 y321 =>
 SV.cL v320 fun y328 =>
 uncK y321 fun v329 y330 =>
 SV.cL v329 fun y337 =>
 uncK y330 fun v338 y339 =>
 SV.cI IntKind.i64 v338 fun x343 =>
 let S344 : St := (St.add S316 (AO.cells [(SV.sl LV.nil), (SV.sl LV.nil), (SV.int IntKind.i64 (0 : Int))] Bool.false));
 St.wr S344 (Bk.new (St.next S316)) 0 [(SV.sl y328), (SV.sl y337), (SV.int IntKind.i64 x343)] fun S345 =>
 J 6 [(AV.one (V1.s (SV.int IntKind.i64 x307))), (AV.one (V1.s (SV.int IntKind.i64 x314))), (AV.one (V1.s (SV.ptr (PV.mk (Bk.new (St.next S316)) 0)))), (AV.one (V1.s (SV.sl LV.nil))), (AV.one (V1.s (SV.int IntKind.i64 x314)))] S345 K
noncomputable def X3_0 : X := (.op (.op (.op (.op (.op (.op (.jmp 6 [0, 1, 5, 6, 7])))))))
theorem F3_0_eq (D J : Disp) (x0 : Int) (x1 : Int) (S : St) (K : AV → St → Prop) : F3_0 D J x0 x1 S K = execK GraphP GraphG Go.Proofs.Try.f3 (typed GraphP D) J plans3 X3_0 (T3 0).1 (envOf (T3 0).2 [(AV.one (V1.s (SV.int IntKind.i64 x0))), (AV.one (V1.s (SV.int IntKind.i64 x1)))]) S K := by kernel_rfl
noncomputable def F3_6 (D J : Disp) (x0 : Int) (x1 : Int) (p5 : PV) (l6 : LV) (x7 : Int) (S : St) (K : AV → St → Prop) : Prop :=
 let c300 : Bool := (ilt x7 x0);
 ifK c300
 (let d301 : (Sum Nat Nat) := (Sum.inl 1);
 let S302 : St := (St.add S (AO.cells [(SV.int IntKind.i64 x7)] Bool.false));
 St.src S302 1 (LV.mk (Bk.new (St.next S)) 0 1 d301) fun y303 n304 =>
 St.app S302 1 8 l6 y303 n304 fun y305 S306 =>
 let x307 : Int := (iwrap IntKind.i64 (x7 + (1 : Int)));
 J 6 [(AV.one (V1.s (SV.int IntKind.i64 x0))), (AV.one (V1.s (SV.int IntKind.i64 x1))), (AV.one (V1.s (SV.ptr p5))), (AV.one (V1.s (SV.sl y305))), (AV.one (V1.s (SV.int IntKind.i64 x307)))] S306 K)
 (let d308 : (Sum Nat Nat) := (Sum.inl 1);
 let S309 : St := (St.add S (AO.cells [(SV.sl l6)] Bool.false));
 let x310 : Int := (iwrap IntKind.i64 (x1 - (1 : Int)));
 J 12 [(AV.one (V1.s (SV.int IntKind.i64 x0))), (AV.one (V1.s (SV.ptr p5))), (AV.one (V1.s (SV.sl l6))), (AV.one (V1.s (SV.sl (LV.mk (Bk.new (St.next S)) 0 1 d308)))), (AV.one (V1.s (SV.int IntKind.i64 x310)))] S309 K)
noncomputable def X3_6 : X := (.op (.br (.op (.op (.jmp 6 [0, 1, 5, 6, 7]))) (.op (.op (.jmp 12 [0, 5, 6, 8, 9])))))
theorem F3_6_eq (D J : Disp) (x0 : Int) (x1 : Int) (p5 : PV) (l6 : LV) (x7 : Int) (S : St) (K : AV → St → Prop) : F3_6 D J x0 x1 p5 l6 x7 S K = execK GraphP GraphG Go.Proofs.Try.f3 (typed GraphP D) J plans3 X3_6 (T3 6).1 (envOf (T3 6).2 [(AV.one (V1.s (SV.int IntKind.i64 x0))), (AV.one (V1.s (SV.int IntKind.i64 x1))), (AV.one (V1.s (SV.ptr p5))), (AV.one (V1.s (SV.sl l6))), (AV.one (V1.s (SV.int IntKind.i64 x7)))]) S K := by kernel_rfl
noncomputable def F3_12 (D J : Disp) (x0 : Int) (p5 : PV) (l6 : LV) (l8 : LV) (x9 : Int) (S : St) (K : AV → St → Prop) : Prop :=
 let c300 : Bool := (ile (0 : Int) x9);
 ifK c300
 (let d301 : (Sum Nat Nat) := (Sum.inl 1);
 let S302 : St := (St.add S (AO.cells [(SV.int IntKind.i64 x9)] Bool.false));
 let d303 : (Sum Nat Nat) := (Sum.inl 1);
 let S304 : St := (St.add S302 (AO.cells [(SV.sl (LV.mk (Bk.new (St.next S)) 0 1 d301))] Bool.false));
 St.src S304 1 (LV.mk (Bk.new (St.next S302)) 0 1 d303) fun y305 n306 =>
 St.app S304 1 24 l8 y305 n306 fun y307 S308 =>
 let x309 : Int := (iwrap IntKind.i64 (x9 - (1 : Int)));
 J 12 [(AV.one (V1.s (SV.int IntKind.i64 x0))), (AV.one (V1.s (SV.ptr p5))), (AV.one (V1.s (SV.sl l6))), (AV.one (V1.s (SV.sl y307))), (AV.one (V1.s (SV.int IntKind.i64 x309)))] S308 K)
 (PV.cs p5 fun b310 n311 =>
 St.at S b310 n311 fun y312 =>
 uncK y312 fun v313 y314 =>
 SV.cL v313 fun y321 =>
 uncK y314 fun v322 y323 =>
 SV.cL v322 fun y330 =>
 uncK y323 fun v331 y332 =>
 SV.cI IntKind.i64 v331 fun x336 =>
 D 8 [(AV.one (V1.agg [(SV.sl y321), (SV.sl y330), (SV.int IntKind.i64 x336)]))] S fun v337 S338 =>
 scK v337 fun v340 =>
 SV.cL v340 fun y346 =>
 D 7 [(AV.one (V1.s (SV.sl y346))), (AV.one (V1.s (SV.sl l8)))] S338 fun v347 S348 =>
 scK v347 fun v350 =>
 SV.cB v350 fun y351 =>
 ifK y351
 (PV.cs p5 fun b352 n353 =>
 St.at S348 b352 n353 fun y354 =>
 uncK y354 fun v355 y356 =>
 SV.cL v355 fun y363 =>
 uncK y356 fun v364 y365 =>
 SV.cL v364 fun y372 =>
 uncK y365 fun v373 y374 =>
 SV.cI IntKind.i64 v373 fun x378 =>
 D 10 [(AV.one (V1.agg [(SV.sl y363), (SV.sl y372), (SV.int IntKind.i64 x378)]))] S348 fun v379 S380 =>
 scK v379 fun v382 =>
 SV.cL v382 fun y388 =>
 D 9 [(AV.one (V1.s (SV.sl y388))), (AV.one (V1.s (SV.sl l6)))] S380 fun v389 S390 =>
 scK v389 fun v392 =>
 SV.cB v392 fun y393 =>
 ifK y393
 (PV.cs p5 fun b394 n395 =>
 St.at S390 b394 n395 fun y396 =>
 uncK y396 fun v397 y398 =>
 SV.cL v397 fun y405 =>
 uncK y398 fun v406 y407 =>
 SV.cL v406 fun y414 =>
 uncK y407 fun v415 y416 =>
 SV.cI IntKind.i64 v415 fun x420 =>
 D 11 [(AV.one (V1.agg [(SV.sl y405), (SV.sl y414), (SV.int IntKind.i64 x420)]))] S390 fun v421 S422 =>
 scK v421 fun v424 =>
 SV.cL v424 fun y430 =>
 let x431 : Int := (Int.ofNat (LV.len y430));
 let c432 : Bool := (ieq x431 x0);
 ifK c432
 (D 12 [] S422 fun v433 S434 =>
 scK v433 fun v436 =>
 SV.cB v436 fun y437 =>
 K ((AV.one (V1.s (SV.bool y437)))) S434)
 (K ((AV.one (V1.s (SV.bool Bool.false)))) S422))
 (K ((AV.one (V1.s (SV.bool Bool.false)))) S390))
 (K ((AV.one (V1.s (SV.bool Bool.false)))) S348))
noncomputable def X3_12 : X := (.op (.br (.op (.op (.jmp 12 [0, 5, 6, 8, 9]))) (.op .ret)))
theorem F3_12_eq (D J : Disp) (x0 : Int) (p5 : PV) (l6 : LV) (l8 : LV) (x9 : Int) (S : St) (K : AV → St → Prop) : F3_12 D J x0 p5 l6 l8 x9 S K = execK GraphP GraphG Go.Proofs.Try.f3 (typed GraphP D) J plans3 X3_12 (T3 12).1 (envOf (T3 12).2 [(AV.one (V1.s (SV.int IntKind.i64 x0))), (AV.one (V1.s (SV.ptr p5))), (AV.one (V1.s (SV.sl l6))), (AV.one (V1.s (SV.sl l8))), (AV.one (V1.s (SV.int IntKind.i64 x9)))]) S K := by kernel_rfl
noncomputable abbrev A3_0 (D J : Disp) (vals : List AV) (S : St) (K : AV → St → Prop) : Prop :=
  uncA vals fun a9001 r9002 => scK a9001 fun s9004 => SV.cI IntKind.i64 s9004 fun x0 => uncA r9002 fun a9007 r9008 => scK a9007 fun s9010 => SV.cI IntKind.i64 s9010 fun x1 => endL r9008 <| F3_0 D J x0 x1 S K
theorem A3_0_ok {D J : Disp} (hD : DOK GraphP GraphG D) (hJ : JOK GraphP GraphG Go.Proofs.Try.f3 T3 J) {vals : List AV} {S : St} {K : AV → St → Prop} (h0 : A3_0 D J vals S K) : Runs GraphP GraphG Go.Proofs.Try.f3 (T3 0).1 (envOf (T3 0).2 vals) S K := by
  obtain ⟨a9001, r9002, rfl, h3⟩ := uncA_some h0
  obtain ⟨s9004, rfl, h5⟩ := scK_some h3
  obtain ⟨x0, rfl, h6⟩ := cI_some h5
  obtain ⟨a9007, r9008, rfl, h9⟩ := uncA_some h6
  obtain ⟨s9010, rfl, h11⟩ := scK_some h9
  obtain ⟨x1, rfl, h12⟩ := cI_some h11
  obtain ⟨rfl, h13⟩ := endL_some h12
  rw [F3_0_eq] at h13
  exact execK_runs hD.typed Graph_zero Graph_mixed hJ X3_0 (T3 0).1 (envOf (T3 0).2 _) S K (chk_of (by kernel_rfl) (by kernel_rfl)) h13
noncomputable abbrev A3_6 (D J : Disp) (vals : List AV) (S : St) (K : AV → St → Prop) : Prop :=
  uncA vals fun a9001 r9002 => scK a9001 fun s9004 => SV.cI IntKind.i64 s9004 fun x0 => uncA r9002 fun a9007 r9008 => scK a9007 fun s9010 => SV.cI IntKind.i64 s9010 fun x1 => uncA r9008 fun a9013 r9014 => scK a9013 fun s9016 => SV.cP s9016 fun p5 => uncA r9014 fun a9019 r9020 => scK a9019 fun s9022 => SV.cL s9022 fun l6 => uncA r9020 fun a9025 r9026 => scK a9025 fun s9028 => SV.cI IntKind.i64 s9028 fun x7 => endL r9026 <| F3_6 D J x0 x1 p5 l6 x7 S K
theorem A3_6_ok {D J : Disp} (hD : DOK GraphP GraphG D) (hJ : JOK GraphP GraphG Go.Proofs.Try.f3 T3 J) {vals : List AV} {S : St} {K : AV → St → Prop} (h0 : A3_6 D J vals S K) : Runs GraphP GraphG Go.Proofs.Try.f3 (T3 6).1 (envOf (T3 6).2 vals) S K := by
  obtain ⟨a9001, r9002, rfl, h3⟩ := uncA_some h0
  obtain ⟨s9004, rfl, h5⟩ := scK_some h3
  obtain ⟨x0, rfl, h6⟩ := cI_some h5
  obtain ⟨a9007, r9008, rfl, h9⟩ := uncA_some h6
  obtain ⟨s9010, rfl, h11⟩ := scK_some h9
  obtain ⟨x1, rfl, h12⟩ := cI_some h11
  obtain ⟨a9013, r9014, rfl, h15⟩ := uncA_some h12
  obtain ⟨s9016, rfl, h17⟩ := scK_some h15
  obtain ⟨p5, rfl, h18⟩ := cP_some h17
  obtain ⟨a9019, r9020, rfl, h21⟩ := uncA_some h18
  obtain ⟨s9022, rfl, h23⟩ := scK_some h21
  obtain ⟨l6, rfl, h24⟩ := cL_some h23
  obtain ⟨a9025, r9026, rfl, h27⟩ := uncA_some h24
  obtain ⟨s9028, rfl, h29⟩ := scK_some h27
  obtain ⟨x7, rfl, h30⟩ := cI_some h29
  obtain ⟨rfl, h31⟩ := endL_some h30
  rw [F3_6_eq] at h31
  exact execK_runs hD.typed Graph_zero Graph_mixed hJ X3_6 (T3 6).1 (envOf (T3 6).2 _) S K (chk_of (by kernel_rfl) (by kernel_rfl)) h31
noncomputable abbrev A3_12 (D J : Disp) (vals : List AV) (S : St) (K : AV → St → Prop) : Prop :=
  uncA vals fun a9001 r9002 => scK a9001 fun s9004 => SV.cI IntKind.i64 s9004 fun x0 => uncA r9002 fun a9007 r9008 => scK a9007 fun s9010 => SV.cP s9010 fun p5 => uncA r9008 fun a9013 r9014 => scK a9013 fun s9016 => SV.cL s9016 fun l6 => uncA r9014 fun a9019 r9020 => scK a9019 fun s9022 => SV.cL s9022 fun l8 => uncA r9020 fun a9025 r9026 => scK a9025 fun s9028 => SV.cI IntKind.i64 s9028 fun x9 => endL r9026 <| F3_12 D J x0 p5 l6 l8 x9 S K
theorem A3_12_ok {D J : Disp} (hD : DOK GraphP GraphG D) (hJ : JOK GraphP GraphG Go.Proofs.Try.f3 T3 J) {vals : List AV} {S : St} {K : AV → St → Prop} (h0 : A3_12 D J vals S K) : Runs GraphP GraphG Go.Proofs.Try.f3 (T3 12).1 (envOf (T3 12).2 vals) S K := by
  obtain ⟨a9001, r9002, rfl, h3⟩ := uncA_some h0
  obtain ⟨s9004, rfl, h5⟩ := scK_some h3
  obtain ⟨x0, rfl, h6⟩ := cI_some h5
  obtain ⟨a9007, r9008, rfl, h9⟩ := uncA_some h6
  obtain ⟨s9010, rfl, h11⟩ := scK_some h9
  obtain ⟨p5, rfl, h12⟩ := cP_some h11
  obtain ⟨a9013, r9014, rfl, h15⟩ := uncA_some h12
  obtain ⟨s9016, rfl, h17⟩ := scK_some h15
  obtain ⟨l6, rfl, h18⟩ := cL_some h17
  obtain ⟨a9019, r9020, rfl, h21⟩ := uncA_some h18
  obtain ⟨s9022, rfl, h23⟩ := scK_some h21
  obtain ⟨l8, rfl, h24⟩ := cL_some h23
  obtain ⟨a9025, r9026, rfl, h27⟩ := uncA_some h24
  obtain ⟨s9028, rfl, h29⟩ := scK_some h27
  obtain ⟨x9, rfl, h30⟩ := cI_some h29
  obtain ⟨rfl, h31⟩ := endL_some h30
  rw [F3_12_eq] at h31
  exact execK_runs hD.typed Graph_zero Graph_mixed hJ X3_12 (T3 12).1 (envOf (T3 12).2 _) S K (chk_of (by kernel_rfl) (by kernel_rfl)) h31
noncomputable def J3 (D : Disp) (k : Nat) : Disp := Nat.rec (motive := fun _ => Disp) Disp.no (fun _ ih => Disp.add 0 (A3_0 D ih) <| Disp.add 6 (A3_6 D ih) <| Disp.add 12 (A3_12 D ih) <| Disp.no) k
theorem J3_ok {D : Disp} (hD : DOK GraphP GraphG D) : ∀ k, JOK GraphP GraphG Go.Proofs.Try.f3 T3 (J3 D k)
  | 0 => JOK.no
  | k + 1 => JOK.add (ltB_ok (by kernel_rfl)) (fun vals S K h => A3_0_ok hD (J3_ok hD k) h) <| JOK.add (ltB_ok (by kernel_rfl)) (fun vals S K h => A3_6_ok hD (J3_ok hD k) h) <| JOK.add (ltB_ok (by kernel_rfl)) (fun vals S K h => A3_12_ok hD (J3_ok hD k) h) <| JOK.no
theorem E3_ok {D : Disp} (hD : DOK GraphP GraphG D) (k : Nat) {args : List AV} {S : St} {K : AV → St → Prop} (h : A3_0 D (J3 D k) args S K) : CallOK GraphP GraphG 3 args S K := by
  have hr := A3_0_ok hD (J3_ok hD k) h
  have hl : args.length = 2 := by
    have h0 := h
    obtain ⟨a9001, r9002, rfl, h3⟩ := uncA_some h0
    obtain ⟨s9004, rfl, h5⟩ := scK_some h3
    obtain ⟨x0, rfl, h6⟩ := cI_some h5
    obtain ⟨a9007, r9008, rfl, h9⟩ := uncA_some h6
    obtain ⟨s9010, rfl, h11⟩ := scK_some h9
    obtain ⟨x1, rfl, h12⟩ := cI_some h11
    obtain ⟨rfl, h13⟩ := endL_some h12
    rfl
  refine callOK_of (fn := Go.Proofs.Try.f3) (c := (match Go.Proofs.Try.f3.body with | some c => c | none => .skip)) (by kernel_rfl) (by kernel_rfl) (by kernel_rfl) (by rw [hl]; kernel_rfl) (by kernel_rfl) ?_
  rw [hl]
  exact hr
noncomputable def plans5 (i : Nat) : Plan := []
noncomputable def T5 (p : Nat) : List Item × List Nat := bif Nat.beq p 0 then ([.code (match Go.Proofs.Try.f5.body with | some c => c | none => .skip)], [0, 1]) else
  ([], [])
noncomputable def F5_0 (D J : Disp) (x0 : Int) (x1 : Int) (S : St) (K : AV → St → Prop) : Prop :=
 let x300 : Int := (iwrap IntKind.u64 x0);
 let x301 : Int := (iwrap IntKind.u64 x1);
 req (Bool.not (ieq x301 (0 : Int))) <|
 let x302 : Int := (Int.tmod x300 x301);
 let x303 : Int := (iwrap IntKind.i64 x302);
 K ((AV.one (V1.s (SV.int IntKind.i64 x303)))) S
noncomputable def X5_0 : X := (.op (.op .ret))
theorem F5_0_eq (D J : Disp) (x0 : Int) (x1 : Int) (S : St) (K : AV → St → Prop) : F5_0 D J x0 x1 S K = execK GraphP GraphG Go.Proofs.Try.f5 (typed GraphP D) J plans5 X5_0 (T5 0).1 (envOf (T5 0).2 [(AV.one (V1.s (SV.int IntKind.i64 x0))), (AV.one (V1.s (SV.int IntKind.i64 x1)))]) S K := by kernel_rfl
noncomputable abbrev A5_0 (D J : Disp) (vals : List AV) (S : St) (K : AV → St → Prop) : Prop :=
  uncA vals fun a9001 r9002 => scK a9001 fun s9004 => SV.cI IntKind.i64 s9004 fun x0 => uncA r9002 fun a9007 r9008 => scK a9007 fun s9010 => SV.cI IntKind.i64 s9010 fun x1 => endL r9008 <| F5_0 D J x0 x1 S K
theorem A5_0_ok {D J : Disp} (hD : DOK GraphP GraphG D) (hJ : JOK GraphP GraphG Go.Proofs.Try.f5 T5 J) {vals : List AV} {S : St} {K : AV → St → Prop} (h0 : A5_0 D J vals S K) : Runs GraphP GraphG Go.Proofs.Try.f5 (T5 0).1 (envOf (T5 0).2 vals) S K := by
  obtain ⟨a9001, r9002, rfl, h3⟩ := uncA_some h0
  obtain ⟨s9004, rfl, h5⟩ := scK_some h3
  obtain ⟨x0, rfl, h6⟩ := cI_some h5
  obtain ⟨a9007, r9008, rfl, h9⟩ := uncA_some h6
  obtain ⟨s9010, rfl, h11⟩ := scK_some h9
  obtain ⟨x1, rfl, h12⟩ := cI_some h11
  obtain ⟨rfl, h13⟩ := endL_some h12
  rw [F5_0_eq] at h13
  exact execK_runs hD.typed Graph_zero Graph_mixed hJ X5_0 (T5 0).1 (envOf (T5 0).2 _) S K (chk_of (by kernel_rfl) (by kernel_rfl)) h13
noncomputable def J5 (D : Disp) (k : Nat) : Disp := Nat.rec (motive := fun _ => Disp) Disp.no (fun _ ih => Disp.add 0 (A5_0 D ih) <| Disp.no) k
theorem J5_ok {D : Disp} (hD : DOK GraphP GraphG D) : ∀ k, JOK GraphP GraphG Go.Proofs.Try.f5 T5 (J5 D k)
  | 0 => JOK.no
  | k + 1 => JOK.add (ltB_ok (by kernel_rfl)) (fun vals S K h => A5_0_ok hD (J5_ok hD k) h) <| JOK.no
theorem E5_ok {D : Disp} (hD : DOK GraphP GraphG D) (k : Nat) {args : List AV} {S : St} {K : AV → St → Prop} (h : A5_0 D (J5 D k) args S K) : CallOK GraphP GraphG 5 args S K := by
  have hr := A5_0_ok hD (J5_ok hD k) h
  have hl : args.length = 2 := by
    have h0 := h
    obtain ⟨a9001, r9002, rfl, h3⟩ := uncA_some h0
    obtain ⟨s9004, rfl, h5⟩ := scK_some h3
    obtain ⟨x0, rfl, h6⟩ := cI_some h5
    obtain ⟨a9007, r9008, rfl, h9⟩ := uncA_some h6
    obtain ⟨s9010, rfl, h11⟩ := scK_some h9
    obtain ⟨x1, rfl, h12⟩ := cI_some h11
    obtain ⟨rfl, h13⟩ := endL_some h12
    rfl
  refine callOK_of (fn := Go.Proofs.Try.f5) (c := (match Go.Proofs.Try.f5.body with | some c => c | none => .skip)) (by kernel_rfl) (by kernel_rfl) (by kernel_rfl) (by rw [hl]; kernel_rfl) (by kernel_rfl) ?_
  rw [hl]
  exact hr
noncomputable def plans6 (i : Nat) : Plan := []
noncomputable def T6 (p : Nat) : List Item × List Nat := bif Nat.beq p 0 then ([.code (match Go.Proofs.Try.f6.body with | some c => c | none => .skip)], [0, 1]) else
  bif Nat.beq p 3 then (navs [.op, .op, .op] [.code (match Go.Proofs.Try.f6.body with | some c => c | none => .skip)], [0, 1, 4, 5, 6]) else
  bif Nat.beq p 9 then (navs [.op, .op, .op, .op, .th, .op, .op, .th, .op] [.code (match Go.Proofs.Try.f6.body with | some c => c | none => .skip)], [0, 1, 4, 5, 6, 7]) else
  ([], [])
noncomputable def F6_0 (D J : Disp) (x0 : Int) (x1 : Int) (S : St) (K : AV → St → Prop) : Prop :=
 let S300 : St := (St.add S (AO.cells [(SV.sl LV.nil), (SV.sl LV.nil), (SV.int IntKind.i64 (0 : Int))] Bool.false));
 let S301 : St := (St.add S300 (AO.cells [(SV.sl LV.nil), (SV.sl LV.nil), (SV.int IntKind.i64 (0 : Int))] Bool.false));
 St.wr S301 (Bk.new (St.next S300)) 0 [(SV.sl LV.nil), (SV.sl LV.nil), (SV.int IntKind.i64 (0 : Int))] fun S302 =>
 J 3 [(AV.one (V1.s (SV.int IntKind.i64 x0))), (AV.one (V1.s (SV.int IntKind.i64 x1))), (AV.one (V1.s (SV.ptr (PV.mk (Bk.new (St.next S)) 0)))), (AV.one (V1.s (SV.ptr (PV.mk (Bk.new (St.next S300)) 0)))), (AV.one (V1.s (SV.int IntKind.i64 (0 : Int))))] S302 K
noncomputable def X6_0 : X := (.op (.op (.op (.jmp 3 [0, 1, 4, 5, 6]))))
theorem F6_0_eq (D J : Disp) (x0 : Int) (x1 : Int) (S : St) (K : AV → St → Prop) : F6_0 D J x0 x1 S K = execK GraphP GraphG Go.Proofs.Try.f6 (typed GraphP D) J plans6 X6_0 (T6 0).1 (envOf (T6 0).2 [(AV.one (V1.s (SV.int IntKind.i64 x0))), (AV.one (V1.s (SV.int IntKind.i64 x1)))]) S K := by kernel_rfl
noncomputable def F6_3 (D J : Disp) (x0 : Int) (x1 : Int) (p4 : PV) (p5 : PV) (x6 : Int) (S : St) (K : AV → St → Prop) : Prop :=
 let c300 : Bool := (ilt x6 x0);
 ifK c300
 (let x301 : Int := (iwrap IntKind.i64 (x6 + (1 : Int)));
 let c302 : Bool := (ieq x301 x0);
 ifK c302
 (J 9 [(AV.one (V1.s (SV.int IntKind.i64 x0))), (AV.one (V1.s (SV.int IntKind.i64 x1))), (AV.one (V1.s (SV.ptr p4))), (AV.one (V1.s (SV.ptr p5))), (AV.one (V1.s (SV.int IntKind.i64 x6))), (AV.one (V1.s (SV.int IntKind.i64 x1)))] S K)
 (J 9 [(AV.one (V1.s (SV.int IntKind.i64 x0))), (AV.one (V1.s (SV.int IntKind.i64 x1))), (AV.one (V1.s (SV.ptr p4))), (AV.one (V1.s (SV.ptr p5))), (AV.one (V1.s (SV.int IntKind.i64 x6))), (AV.one (V1.s (SV.int IntKind.i64 x301)))] S K))
 (PV.cs p5 fun b303 n304 =>
 St.at S b303 n304 fun y305 =>
 uncK y305 fun v306 y307 =>
 SV.cL v306 fun y314 =>
 uncK y307 fun v315 y316 =>
 SV.cL v315 fun y323 =>
 uncK y316 fun v324 y325 =>
 SV.cI IntKind.i64 v324 fun x329 =>
 PV.cs p4 fun b330 n331 =>
 St.wr S b330 n331 [(SV.sl y314), (SV.sl y323), (SV.int IntKind.i64 x329)] fun S332 =>
 PV.cs p4 fun b333 n334 =>
 St.at S332 b333 n334 fun y335 =>
 uncK y335 fun v336 y337 =>
 SV.cL v336 fun y344 =>
 uncK y337 fun v345 y346 =>
 SV.cL v345 fun y353 =>
 uncK y346 fun v354 y355 =>
 SV.cI IntKind.i64 v354 fun x359 =>
 K ((AV.one (V1.agg [(SV.sl y344), (SV.sl y353), (SV.int IntKind.i64 x359)]))) S332)
noncomputable def X6_3 : X := (.op (.br (.op (.op (.br (.op (.jmp 9 [0, 1, 4, 5, 6, 7])) (.jmp 9 [0, 1, 4, 5, 6, 7])))) (.op .ret)))
theorem F6_3_eq (D J : Disp) (x0 : Int) (x1 : Int) (p4 : PV) (p5 : PV) (x6 : Int) (S : St) (K : AV → St → Prop) : F6_3 D J x0 x1 p4 p5 x6 S K = execK GraphP GraphG Go.Proofs.Try.f6 (typed GraphP D) J plans6 X6_3 (T6 3).1 (envOf (T6 3).2 [(AV.one (V1.s (SV.int IntKind.i64 x0))), (AV.one (V1.s (SV.int IntKind.i64 x1))), (AV.one (V1.s (SV.ptr p4))), (AV.one (V1.s (SV.ptr p5))), (AV.one (V1.s (SV.int IntKind.i64 x6)))]) S K := by kernel_rfl
noncomputable def F6_9 (D J : Disp) (x0 : Int) (x1 : Int) (p4 : PV) (p5 : PV) (x6 : Int) (x7 : Int) (S : St) (K : AV → St → Prop) : Prop :=
 PV.cs p5 fun b300 n301 =>
 let n302 : Nat := (n301 + 1);
 St.at S b300 n302 fun y303 =>
 uncK y303 fun v304 y305 =>
 SV.cL v304 fun y312 =>
 let d313 : (Sum Nat Nat) := (Sum.inl 2);
 let S314 : St := (St.add S (AO.cells [(SV.int IntKind.i64 (10 : Int)), (SV.int IntKind.i64 (0 : Int)), (SV.int IntKind.i64 (Int.negSucc 0)), (SV.int IntKind.i64 (0 : Int)), (SV.int IntKind.i64 (0 : Int)), (SV.int IntKind.i64 x7), (SV.int IntKind.i64 (0 : Int)), (SV.bool Bool.false), (SV.sl LV.nil), (SV.sl LV.nil), (SV.sl LV.nil), (SV.int IntKind.i64 (17 : Int)), (SV.int IntKind.i64 (0 : Int)), (SV.int IntKind.i64 (0 : Int)), (SV.int IntKind.i64 (Int.negSucc 0)), (SV.int IntKind.i64 (0 : Int)), (SV.int IntKind.i64 (0 : Int)), (SV.int IntKind.i64 (0 : Int)), (SV.bool Bool.false), (SV.sl LV.nil), (SV.sl LV.nil), (SV.sl LV.nil)] Bool.false));
 let d315 : (Sum Nat Nat) := (Sum.inl 1);
 let S316 : St := (St.add S314 (AO.cells [(SV.sl (LV.mk (Bk.new (St.next S)) 0 2 d313))] Bool.false));
 let d317 : (Sum Nat Nat) := (Sum.inl 1);
 let S318 : St := (St.add S316 (AO.cells [(SV.str []), (SV.int IntKind.i64 (0 : Int)), (SV.int IntKind.i64 (0 : Int)), (SV.sl LV.nil), (SV.sl (LV.mk (Bk.new (St.next S314)) 0 1 d315)), (SV.bool Bool.false)] Bool.false));
 St.src S318 6 (LV.mk (Bk.new (St.next S316)) 0 1 d317) fun y319 n320 =>
 St.app S318 6 88 y312 y319 n320 fun y321 S322 =>
 PV.cs p5 fun b323 n324 =>
 let n325 : Nat := (n324 + 1);
 St.wr S322 b323 n325 [(SV.sl y321)] fun S326 =>
 let x327 : Int := (iwrap IntKind.i64 (x6 + (1 : Int)));
 J 3 [(AV.one (V1.s (SV.int IntKind.i64 x0))), (AV.one (V1.s (SV.int IntKind.i64 x1))), (AV.one (V1.s (SV.ptr p4))), (AV.one (V1.s (SV.ptr p5))), (AV.one (V1.s (SV.int IntKind.i64 x327)))] S326 K
noncomputable def X6_9 : X := (.op (.op (.jmp 3 [0, 1, 4, 5, 6])))
theorem F6_9_eq (D J : Disp) (x0 : Int) (x1 : Int) (p4 : PV) (p5 : PV) (x6 : Int) (x7 : Int) (S : St) (K : AV → St → Prop) : F6_9 D J x0 x1 p4 p5 x6 x7 S K = execK GraphP GraphG Go.Proofs.Try.f6 (typed GraphP D) J plans6 X6_9 (T6 9).1 (envOf (T6 9).2 [(AV.one (V1.s (SV.int IntKind.i64 x0))), (AV.one (V1.s (SV.int IntKind.i64 x1))), (AV.one (V1.s (SV.ptr p4))), (AV.one (V1.s (SV.ptr p5))), (AV.one (V1.s (SV.int IntKind.i64 x6))), (AV.one (V1.s (SV.int IntKind.i64 x7)))]) S K := by kernel_rfl
noncomputable abbrev A6_0 (D J : Disp) (vals : List AV) (S : St) (K : AV → St → Prop) : Prop :=
  uncA vals fun a9001 r9002 => scK a9001 fun s9004 => SV.cI IntKind.i64 s9004 fun x0 => uncA r9002 fun a9007 r9008 => scK a9007 fun s9010 => SV.cI IntKind.i64 s9010 fun x1 => endL r9008 <| F6_0 D J x0 x1 S K
theorem A6_0_ok {D J : Disp} (hD : DOK GraphP GraphG D) (hJ : JOK GraphP GraphG Go.Proofs.Try.f6 T6 J) {vals : List AV} {S : St} {K : AV → St → Prop} (h0 : A6_0 D J vals S K) : Runs GraphP GraphG Go.Proofs.Try.f6 (T6 0).1 (envOf (T6 0).2 vals) S K := by
  obtain ⟨a9001, r9002, rfl, h3⟩ := uncA_some h0
  obtain ⟨s9004, rfl, h5⟩ := scK_some h3
  obtain ⟨x0, rfl, h6⟩ := cI_some h5
  obtain ⟨a9007, r9008, rfl, h9⟩ := uncA_some h6
  obtain ⟨s9010, rfl, h11⟩ := scK_some h9
  obtain ⟨x1, rfl, h12⟩ := cI_some h11
  obtain ⟨rfl, h13⟩ := endL_some h12
  rw [F6_0_eq] at h13
  exact execK_runs hD.typed Graph_zero Graph_mixed hJ X6_0 (T6 0).1 (envOf (T6 0).2 _) S K (chk_of (by kernel_rfl) (by kernel_rfl)) h13
noncomputable abbrev A6_3 (D J : Disp) (vals : List AV) (S : St) (K : AV → St → Prop) : Prop :=
  uncA vals fun a9001 r9002 => scK a9001 fun s9004 => SV.cI IntKind.i64 s9004 fun x0 => uncA r9002 fun a9007 r9008 => scK a9007 fun s9010 => SV.cI IntKind.i64 s9010 fun x1 => uncA r9008 fun a9013 r9014 => scK a9013 fun s9016 => SV.cP s9016 fun p4 => uncA r9014 fun a9019 r9020 => scK a9019 fun s9022 => SV.cP s9022 fun p5 => uncA r9020 fun a9025 r9026 => scK a9025 fun s9028 => SV.cI IntKind.i64 s9028 fun x6 => endL r9026 <| F6_3 D J x0 x1 p4 p5 x6 S K
theorem A6_3_ok {D J : Disp} (hD : DOK GraphP GraphG D) (hJ : JOK GraphP GraphG Go.Proofs.Try.f6 T6 J) {vals : List AV} {S : St} {K : AV → St → Prop} (h0 : A6_3 D J vals S K) : Runs GraphP GraphG Go.Proofs.Try.f6 (T6 3).1 (envOf (T6 3).2 vals) S K := by
  obtain ⟨a9001, r9002, rfl, h3⟩ := uncA_some h0
  obtain ⟨s9004, rfl, h5⟩ := scK_some h3
  obtain ⟨x0, rfl, h6⟩ := cI_some h5
  obtain ⟨a9007, r9008, rfl, h9⟩ := uncA_some h6
  obtain ⟨s9010, rfl, h11⟩ := scK_some h9
  obtain ⟨x1, rfl, h12⟩ := cI_some h11
  obtain ⟨a9013, r9014, rfl, h15⟩ := uncA_some h12
  obtain ⟨s9016, rfl, h17⟩ := scK_some h15
  obtain ⟨p4, rfl, h18⟩ := cP_some h17
  obtain ⟨a9019, r9020, rfl, h21⟩ := uncA_some h18
  obtain ⟨s9022, rfl, h23⟩ := scK_some h21
  obtain ⟨p5, rfl, h24⟩ := cP_some h23
  obtain ⟨a9025, r9026, rfl, h27⟩ := uncA_some h24
  obtain ⟨s9028, rfl, h29⟩ := scK_some h27
  obtain ⟨x6, rfl, h30⟩ := cI_some h29
  obtain ⟨rfl, h31⟩ := endL_some h30
  rw [F6_3_eq] at h31
  exact execK_runs hD.typed Graph_zero Graph_mixed hJ X6_3 (T6 3).1 (envOf (T6 3).2 _) S K (chk_of (by kernel_rfl) (by kernel_rfl)) h31
noncomputable abbrev A6_9 (D J : Disp) (vals : List AV) (S : St) (K : AV → St → Prop) : Prop :=
  uncA vals fun a9001 r9002 => scK a9001 fun s9004 => SV.cI IntKind.i64 s9004 fun x0 => uncA r9002 fun a9007 r9008 => scK a9007 fun s9010 => SV.cI IntKind.i64 s9010 fun x1 => uncA r9008 fun a9013 r9014 => scK a9013 fun s9016 => SV.cP s9016 fun p4 => uncA r9014 fun a9019 r9020 => scK a9019 fun s9022 => SV.cP s9022 fun p5 => uncA r9020 fun a9025 r9026 => scK a9025 fun s9028 => SV.cI IntKind.i64 s9028 fun x6 => uncA r9026 fun a9031 r9032 => scK a9031 fun s9034 => SV.cI IntKind.i64 s9034 fun x7 => endL r9032 <| F6_9 D J x0 x1 p4 p5 x6 x7 S K
theorem A6_9_ok {D J : Disp} (hD : DOK GraphP GraphG D) (hJ : JOK GraphP GraphG Go.Proofs.Try.f6 T6 J) {vals : List AV} {S : St} {K : AV → St → Prop} (h0 : A6_9 D J vals S K) : Runs GraphP GraphG Go.Proofs.Try.f6 (T6 9).1 (envOf (T6 9).2 vals) S K := by
  obtain ⟨a9001, r9002, rfl, h3⟩ := uncA_some h0
  obtain ⟨s9004, rfl, h5⟩ := scK_some h3
  obtain ⟨x0, rfl, h6⟩ := cI_some h5
  obtain ⟨a9007, r9008, rfl, h9⟩ := uncA_some h6
  obtain ⟨s9010, rfl, h11⟩ := scK_some h9
  obtain ⟨x1, rfl, h12⟩ := cI_some h11
  obtain ⟨a9013, r9014, rfl, h15⟩ := uncA_some h12
  obtain ⟨s9016, rfl, h17⟩ := scK_some h15
  obtain ⟨p4, rfl, h18⟩ := cP_some h17
  obtain ⟨a9019, r9020, rfl, h21⟩ := uncA_some h18
  obtain ⟨s9022, rfl, h23⟩ := scK_some h21
  obtain ⟨p5, rfl, h24⟩ := cP_some h23
  obtain ⟨a9025, r9026, rfl, h27⟩ := uncA_some h24
  obtain ⟨s9028, rfl, h29⟩ := scK_some h27
  obtain ⟨x6, rfl, h30⟩ := cI_some h29
  obtain ⟨a9031, r9032, rfl, h33⟩ := uncA_some h30
  obtain ⟨s9034, rfl, h35⟩ := scK_some h33
  obtain ⟨x7, rfl, h36⟩ := cI_some h35
  obtain ⟨rfl, h37⟩ := endL_some h36
  rw [F6_9_eq] at h37
  exact execK_runs hD.typed Graph_zero Graph_mixed hJ X6_9 (T6 9).1 (envOf (T6 9).2 _) S K (chk_of (by kernel_rfl) (by kernel_rfl)) h37
noncomputable def J6 (D : Disp) (k : Nat) : Disp := Nat.rec (motive := fun _ => Disp) Disp.no (fun _ ih => Disp.add 0 (A6_0 D ih) <| Disp.add 3 (A6_3 D ih) <| Disp.add 9 (A6_9 D ih) <| Disp.no) k
theorem J6_ok {D : Disp} (hD : DOK GraphP GraphG D) : ∀ k, JOK GraphP GraphG Go.Proofs.Try.f6 T6 (J6 D k)
  | 0 => JOK.no
  | k + 1 => JOK.add (ltB_ok (by kernel_rfl)) (fun vals S K h => A6_0_ok hD (J6_ok hD k) h) <| JOK.add (ltB_ok (by kernel_rfl)) (fun vals S K h => A6_3_ok hD (J6_ok hD k) h) <| JOK.add (ltB_ok (by kernel_rfl)) (fun vals S K h => A6_9_ok hD (J6_ok hD k) h) <| JOK.no
theorem E6_ok {D : Disp} (hD : DOK GraphP GraphG D) (k : Nat) {args : List AV} {S : St} {K : AV → St → Prop} (h : A6_0 D (J6 D k) args S K) : CallOK GraphP GraphG 6 args S K := by
  have hr := A6_0_ok hD (J6_ok hD k) h
  have hl : args.length = 2 := by
    have h0 := h
    obtain ⟨a9001, r9002, rfl, h3⟩ := uncA_some h0
    obtain ⟨s9004, rfl, h5⟩ := scK_some h3
    obtain ⟨x0, rfl, h6⟩ := cI_some h5
    obtain ⟨a9007, r9008, rfl, h9⟩ := uncA_some h6
    obtain ⟨s9010, rfl, h11⟩ := scK_some h9
    obtain ⟨x1, rfl, h12⟩ := cI_some h11
    obtain ⟨rfl, h13⟩ := endL_some h12
    rfl
  refine callOK_of (fn := Go.Proofs.Try.f6) (c := (match Go.Proofs.Try.f6.body with | some c => c | none => .skip)) (by kernel_rfl) (by kernel_rfl) (by kernel_rfl) (by rw [hl]; kernel_rfl) (by kernel_rfl) ?_
  rw [hl]
  exact hr
noncomputable def plans7 (i : Nat) : Plan := if Nat.beq i 6 then [(0, []), (1, []), (2, [0, 1]), (3, [2, 0, 1]), (4, []), (5, []), (6, [4, 5]), (7, [6, 4, 5]), (8, [3, 7, 2, 6, 0, 1, 4, 5]), (9, [8, 3, 7, 2, 6, 0, 1, 4, 5])] else []
noncomputable def T7 (p : Nat) : List Item × List Nat := bif Nat.beq p 0 then ([.code (match Go.Proofs.Try.f7.body with | some c => c | none => .skip)], [0, 1]) else
  bif Nat.beq p 6 then (navs [.op, .op, .el, .op] [.code (match Go.Proofs.Try.f7.body with | some c => c | none => .skip)], [0, 1, 5]) else
  ([], [])
noncomputable def F7_0 (D J : Disp) (l0 : LV) (l1 : LV) (S : St) (K : AV → St → Prop) : Prop :=
 let x300 : Int := (Int.ofNat (LV.len l0));
 let x301 : Int := (Int.ofNat (LV.len l1));
 let c302 : Bool := (Bool.not (ieq x300 x301));
 ifK c302
 (K ((AV.one (V1.s (SV.bool Bool.false)))) S)
 (J 6 [(AV.one (V1.s (SV.sl l0))), (AV.one (V1.s (SV.sl l1))), (AV.one (V1.s (SV.int IntKind.i64 (0 : Int))))] S K)
noncomputable def X7_0 : X := (.op (.op (.br (.op .ret) (.op (.jmp 6 [0, 1, 5])))))
theorem F7_0_eq (D J : Disp) (l0 : LV) (l1 : LV) (S : St) (K : AV → St → Prop) : F7_0 D J l0 l1 S K = execK GraphP GraphG Go.Proofs.Try.f7 (typed GraphP D) J plans7 X7_0 (T7 0).1 (envOf (T7 0).2 [(AV.one (V1.s (SV.sl l0))), (AV.one (V1.s (SV.sl l1)))]) S K := by kernel_rfl
noncomputable def F7_6 (D J : Disp) (l0 : LV) (l1 : LV) (x5 : Int) (S : St) (K : AV → St → Prop) : Prop :=
 let x300 : Int := (Int.ofNat (LV.len l0));
 let c301 : Bool := (ilt x5 x300);
 ifK c301
 (LV.cs l0 fun b302 n303 n304 y305 =>
 req (Bool.and (ile (0 : Int) x5) (ilt x5 (Int.ofNat n304))) <|
 let n306 : Nat := (n303 + ((Int.toNat x5) * 1));
 St.at S b302 n306 fun y307 =>
 uncK y307 fun v308 y309 =>
 SV.cL v308 fun y316 =>
 LV.cs l1 fun b317 n318 n319 y320 =>
 req (Bool.and (ile (0 : Int) x5) (ilt x5 (Int.ofNat n319))) <|
 let n321 : Nat := (n318 + ((Int.toNat x5) * 1));
 St.at S b317 n321 fun y322 =>
 uncK y322 fun v323 y324 =>
 SV.cL v323 fun y331 =>
 D 9 [(AV.one (V1.s (SV.sl y316))), (AV.one (V1.s (SV.sl y331)))] S fun v332 S333 =>
 scK v332 fun v335 =>
 SV.cB v335 fun y336 =>
 let c337 : Bool := (Bool.not y336);
 ifK c337
 (K ((AV.one (V1.s (SV.bool Bool.false)))) S333)
 (let x338 : Int := (iwrap IntKind.i64 (x5 + (1 : Int)));
 J 6 [(AV.one (V1.s (SV.sl l0))), (AV.one (V1.s (SV.sl l1))), (AV.one (V1.s (SV.int IntKind.i64 x338)))] S333 K))
 (K ((AV.one (V1.s (SV.bool Bool.true)))) S)
noncomputable def X7_6 : X := (.op (.br (.op (.br (.op .ret) (.op (.jmp 6 [0, 1, 5])))) (.op .ret)))
theorem F7_6_eq (D J : Disp) (l0 : LV) (l1 : LV) (x5 : Int) (S : St) (K : AV → St → Prop) : F7_6 D J l0 l1 x5 S K = execK GraphP GraphG Go.Proofs.Try.f7 (typed GraphP D) J plans7 X7_6 (T7 6).1 (envOf (T7 6).2 [(AV.one (V1.s (SV.sl l0))), (AV.one (V1.s (SV.sl l1))), (AV.one (V1.s (SV.int IntKind.i64 x5)))]) S K := by kernel_rfl
noncomputable abbrev A7_0 (D J : Disp) (vals : List AV) (S : St) (K : AV → St → Prop) : Prop :=
  uncA vals fun a9001 r9002 => scK a9001 fun s9004 => SV.cL s9004 fun l0 => uncA r9002 fun a9007 r9008 => scK a9007 fun s9010 => SV.cL s9010 fun l1 => endL r9008 <| F7_0 D J l0 l1 S K
theorem A7_0_ok {D J : Disp} (hD : DOK GraphP GraphG D) (hJ : JOK GraphP GraphG Go.Proofs.Try.f7 T7 J) {vals : List AV} {S : St} {K : AV → St → Prop} (h0 : A7_0 D J vals S K) : Runs GraphP GraphG Go.Proofs.Try.f7 (T7 0).1 (envOf (T7 0).2 vals) S K := by
  obtain ⟨a9001, r9002, rfl, h3⟩ := uncA_some h0
  obtain ⟨s9004, rfl, h5⟩ := scK_some h3
  obtain ⟨l0, rfl, h6⟩ := cL_some h5
  obtain ⟨a9007, r9008, rfl, h9⟩ := uncA_some h6
  obtain ⟨s9010, rfl, h11⟩ := scK_some h9
  obtain ⟨l1, rfl, h12⟩ := cL_some h11
  obtain ⟨rfl, h13⟩ := endL_some h12
  rw [F7_0_eq] at h13
  exact execK_runs hD.typed Graph_zero Graph_mixed hJ X7_0 (T7 0).1 (envOf (T7 0).2 _) S K (chk_of (by kernel_rfl) (by kernel_rfl)) h13
noncomputable abbrev A7_6 (D J : Disp) (vals : List AV) (S : St) (K : AV → St → Prop) : Prop :=
  uncA vals fun a9001 r9002 => scK a9001 fun s9004 => SV.cL s9004 fun l0 => uncA r9002 fun a9007 r9008 => scK a9007 fun s9010 => SV.cL s9010 fun l1 => uncA r9008 fun a9013 r9014 => scK a9013 fun s9016 => SV.cI IntKind.i64 s9016 fun x5 => endL r9014 <| F7_6 D J l0 l1 x5 S K
theorem A7_6_ok {D J : Disp} (hD : DOK GraphP GraphG D) (hJ : JOK GraphP GraphG Go.Proofs.Try.f7 T7 J) {vals : List AV} {S : St} {K : AV → St → Prop} (h0 : A7_6 D J vals S K) : Runs GraphP GraphG Go.Proofs.Try.f7 (T7 6).1 (envOf (T7 6).2 vals) S K := by
  obtain ⟨a9001, r9002, rfl, h3⟩ := uncA_some h0
  obtain ⟨s9004, rfl, h5⟩ := scK_some h3
  obtain ⟨l0, rfl, h6⟩ := cL_some h5
  obtain ⟨a9007, r9008, rfl, h9⟩ := uncA_some h6
  obtain ⟨s9010, rfl, h11⟩ := scK_some h9
  obtain ⟨l1, rfl, h12⟩ := cL_some h11
  obtain ⟨a9013, r9014, rfl, h15⟩ := uncA_some h12
  obtain ⟨s9016, rfl, h17⟩ := scK_some h15
  obtain ⟨x5, rfl, h18⟩ := cI_some h17
  obtain ⟨rfl, h19⟩ := endL_some h18
  rw [F7_6_eq] at h19
  exact execK_runs hD.typed Graph_zero Graph_mixed hJ X7_6 (T7 6).1 (envOf (T7 6).2 _) S K (chk_of (by kernel_rfl) (by kernel_rfl)) h19
noncomputable def J7 (D : Disp) (k : Nat) : Disp := Nat.rec (motive := fun _ => Disp) Disp.no (fun _ ih => Disp.add 0 (A7_0 D ih) <| Disp.add 6 (A7_6 D ih) <| Disp.no) k
theorem J7_ok {D : Disp} (hD : DOK GraphP GraphG D) : ∀ k, JOK GraphP GraphG Go.Proofs.Try.f7 T7 (J7 D k)
  | 0 => JOK.no
  | k + 1 => JOK.add (ltB_ok (by kernel_rfl)) (fun vals S K h => A7_0_ok hD (J7_ok hD k) h) <| JOK.add (ltB_ok (by kernel_rfl)) (fun vals S K h => A7_6_ok hD (J7_ok hD k) h) <| JOK.no
theorem E7_ok {D : Disp} (hD : DOK GraphP GraphG D) (k : Nat) {args : List AV} {S : St} {K : AV → St → Prop} (h : A7_0 D (J7 D k) args S K) : CallOK GraphP GraphG 7 args S K := by
  have hr := A7_0_ok hD (J7_ok hD k) h
  have hl : args.length = 2 := by
    have h0 := h
    obtain ⟨a9001, r9002, rfl, h3⟩ := uncA_some h0
    obtain ⟨s9004, rfl, h5⟩ := scK_some h3
    obtain ⟨l0, rfl, h6⟩ := cL_some h5
    obtain ⟨a9007, r9008, rfl, h9⟩ := uncA_some h6
    obtain ⟨s9010, rfl, h11⟩ := scK_some h9
    obtain ⟨l1, rfl, h12⟩ := cL_some h11
    obtain ⟨rfl, h13⟩ := endL_some h12
    rfl
  refine callOK_of (fn := Go.Proofs.Try.f7) (c := (match Go.Proofs.Try.f7.body with | some c => c | none => .skip)) (by kernel_rfl) (by kernel_rfl) (by kernel_rfl) (by rw [hl]; kernel_rfl) (by kernel_rfl) ?_
  rw [hl]
  exact hr
noncomputable def plans8 (i : Nat) : Plan := if Nat.beq i 9 then [(0, []), (1, []), (2, [0, 1]), (3, [2, 0, 1]), (4, [3, 2, 0, 1]), (5, [4, 3, 2, 0, 1]), (6, [5, 4, 3, 2, 0, 1]), (7, [6, 4, 5, 3, 2, 0, 1]), (8, [7, 6, 4, 5, 3, 2, 0, 1]), (9, [8, 7, 6, 4, 5, 3, 2, 0, 1]), (10, [9, 7, 8, 6, 4, 5, 3, 2, 0, 1]), (11, [10, 7, 9, 6, 4, 8, 5, 3, 2, 0, 1]), (12, [7, 6, 4, 5, 3, 2, 0, 1]), (13, [11, 12, 7, 10, 6, 4, 9, 5, 3, 8, 2, 0, 1]), (14, [13, 7, 11, 12, 6, 4, 10, 5, 3, 9, 2, 8, 0, 1]), (15, [14, 7, 13, 6, 4, 11, 12, 5, 3, 10, 2, 9, 0, 1, 8]), (16, [15, 7, 14, 6, 4, 13, 5, 3, 11, 12, 2, 10, 0, 1, 9, 8]), (17, [7, 6, 4, 5, 3, 2, 0, 1]), (18, [17, 7, 6, 4, 5, 3, 2, 0, 1]), (19, [18, 7, 17, 6, 4, 5, 3, 2, 0, 1]), (20, [16, 19, 7, 15, 18, 6, 4, 14, 17, 5, 3, 13, 2, 11, 12, 0, 1, 10, 9, 8]), (21, [7, 20, 4, 6, 16, 19, 3, 5, 15, 18, 2, 14, 17, 0, 1, 13, 11, 12, 10, 9, 8]), (22, [4, 21, 3, 7, 20, 2, 6, 16, 19, 0, 1, 5, 15, 18, 14, 17, 13, 11, 12, 10, 9, 8])] else []
noncomputable def T8 (p : Nat) : List Item × List Nat := bif Nat.beq p 0 then ([.code (match Go.Proofs.Try.f8.body with | some c => c | none => .skip)], [0]) else
  bif Nat.beq p 4 then (navs [.op, .op, .op, .op] [.code (match Go.Proofs.Try.f8.body with | some c => c | none => .skip)], [3, 4, 5]) else
  bif Nat.beq p 8 then (navs [.op, .op, .op, .op, .op, .th, .op, .op] [.code (match Go.Proofs.Try.f8.body with | some c => c | none => .skip)], [3, 4, 5, 6, 33, 34, 35]) else
  bif Nat.beq p 12 then (navs [.op, .op, .op, .op, .op, .th, .op, .op, .op, .th, .op, .op] [.code (match Go.Proofs.Try.f8.body with | some c => c | none => .skip)], [3, 4, 5, 6, 7, 8, 33, 34, 35, 62]) else
  bif Nat.beq p 13 then (navs [.op, .op, .op, .op, .op, .th, .op, .op, .op, .th, .op, .op, .th] [.code (match Go.Proofs.Try.f8.body with | some c => c | none => .skip)], [3, 4, 5, 6, 33, 34, 35]) else
  bif Nat.beq p 15 then (navs [.op, .op, .op, .op, .op, .th, .op, .op, .op, .th, .op, .op, .el, .op] [.code (match Go.Proofs.Try.f8.body with | some c => c | none => .skip)], [3, 4, 5, 6, 7, 33, 34, 35, 63, 64, 65]) else
  bif Nat.beq p 19 then (navs [.op, .op, .op, .op, .op, .th, .op, .op, .op, .th, .op, .op, .el, .op, .op, .th, .op, .op] [.code (match Go.Proofs.Try.f8.body with | some c => c | none => .skip)], [3, 4, 5, 6, 7, 33, 34, 35, 63, 64, 65, 75, 76, 77]) else
  bif Nat.beq p 23 then (navs [.op, .op, .op, .op, .op, .th, .op, .op, .op, .th, .op, .op, .el, .op, .op, .th, .op, .op, .op, .th, .op, .op] [.code (match Go.Proofs.Try.f8.body with | some c => c | none => .skip)], [3, 4, 5, 6, 7, 33, 34, 35, 63, 64, 65, 75, 76, 77, 102]) else
  ([], [])
noncomputable def F8_0 (D J : Disp) (l0_0 : LV) (l0_1 : LV) (x0_2 : Int) (S : St) (K : AV → St → Prop) : Prop :=
 let S300 : St := (St.add S (AO.cells [(SV.sl l0_0), (SV.sl l0_1), (SV.int IntKind.i64 x0_2)] Bool.false));
 St.at S300 (Bk.new (St.next S)) 0 fun y301 =>
 uncK y301 fun v302 y303 =>
 SV.cL v302 fun y310 =>
 uncK y303 fun v311 y312 =>
 SV.cL v311 fun y319 =>
 uncK y312 fun v320 y321 =>
 SV.cI IntKind.i64 v320 fun x325 =>
 D 13 [(AV.one (V1.agg [(SV.sl y310), (SV.sl y319), (SV.int IntKind.i64 x325)]))] S300 fun v326 S327 =>
 scK v326 fun v329 =>
 SV.cL v329 fun y335 =>
 D 16 [(AV.one (V1.s (SV.sl y335)))] S327 fun v336 S337 =>
 scK v336 fun v339 =>
 SV.cP v339 fun y344 =>
 PV.cs y344 fun b345 n346 =>
 let n347 : Nat := (n346 + 7);
 St.at S337 b345 n347 fun y348 =>
 uncK y348 fun v349 y350 =>
 SV.cL v349 fun y357 =>
 let x358 : Int := (Int.ofNat (LV.len y357));
 req (Bool.and (ile (0 : Int) x358) (Bool.and (ile x358 x358) (ile x358 (2000000 : Int)))) <|
 let n359 : Nat := (Int.toNat x358);
 let d360 : (Sum Nat Nat) := (Sum.inl (Int.toNat x358));
 let S361 : St := (St.add S337 (rowAO [(SV.bool Bool.false)] (Int.toNat x358)));
 J 4 [(AV.one (V1.s (SV.ptr y344))), (AV.one (V1.s (SV.sl (LV.mk (Bk.new (St.next S337)) 0 n359 d360)))), (AV.one (V1.s (SV.sl LV.nil)))] S361 K
noncomputable def X8_0 : X := (.op (.op (.op (.op (.jmp 4 [3, 4, 5])))))
theorem F8_0_eq (D J : Disp) (l0_0 : LV) (l0_1 : LV) (x0_2 : Int) (S : St) (K : AV → St → Prop) : F8_0 D J l0_0 l0_1 x0_2 S K = execK GraphP GraphG Go.Proofs.Try.f8 (typed GraphP D) J plans8 X8_0 (T8 0).1 (envOf (T8 0).2 [(AV.one (V1.agg [(SV.sl l0_0), (SV.sl l0_1), (SV.int IntKind.i64 x0_2)]))]) S K := by kernel_rfl
noncomputable def F8_4 (D J : Disp) (p3 : PV) (l4 : LV) (l5 : LV) (S : St) (K : AV → St → Prop) : Prop :=
 let x300 : Int := (Int.ofNat (LV.len l5));
 PV.cs p3 fun b301 n302 =>
 let n303 : Nat := (n302 + 7);
 St.at S b301 n303 fun y304 =>
 uncK y304 fun v305 y306 =>
 SV.cL v305 fun y313 =>
 let x314 : Int := (Int.ofNat (LV.len y313));
 let c315 : Bool := (ilt x300 x314);
 ifK c315
 (PV.cs p3 fun b316 n317 =>
 let n318 : Nat := (n317 + 7);
 St.at S b316 n318 fun y319 =>
 uncK y319 fun v320 y321 =>
 SV.cL v320 fun y328 =>
 let x329 : Int := (Int.ofNat (LV.len y328));
 J 8 [(AV.one (V1.s (SV.ptr p3))), (AV.one (V1.s (SV.sl l4))), (AV.one (V1.s (SV.sl l5))), (AV.one (V1.s (SV.int IntKind.i64 (Int.negSucc 0)))), (AV.one (V1.s (SV.sl y328))), (AV.one (V1.s (SV.int IntKind.i64 x329))), (AV.one (V1.s (SV.int IntKind.i64 (0 : Int))))] S K)
 (K ((AV.one (V1.s (SV.sl l5)))) S)
noncomputable def X8_4 : X := (.op (.br (.op (.op (.jmp 8 [3, 4, 5, 6, 33, 34, 35]))) (.op .ret)))
theorem F8_4_eq (D J : Disp) (p3 : PV) (l4 : LV) (l5 : LV) (S : St) (K : AV → St → Prop) : F8_4 D J p3 l4 l5 S K = execK GraphP GraphG Go.Proofs.Try.f8 (typed GraphP D) J plans8 X8_4 (T8 4).1 (envOf (T8 4).2 [(AV.one (V1.s (SV.ptr p3))), (AV.one (V1.s (SV.sl l4))), (AV.one (V1.s (SV.sl l5)))]) S K := by kernel_rfl
noncomputable def F8_8 (D J : Disp) (p3 : PV) (l4 : LV) (l5 : LV) (x6 : Int) (l33 : LV) (x34 : Int) (x35 : Int) (S : St) (K : AV → St → Prop) : Prop :=
 let c300 : Bool := (ilt x35 x34);
 ifK c300
 (LV.cs l33 fun b301 n302 n303 y304 =>
 req (Bool.and (ile (0 : Int) x35) (ilt x35 (Int.ofNat n303))) <|
 let n305 : Nat := (n302 + ((Int.toNat x35) * 1));
 St.at S b301 n305 fun y306 =>
 uncK y306 fun v307 y308 =>
 SV.cL v307 fun y315 =>
 LV.cs l4 fun b316 n317 n318 y319 =>
 req (Bool.and (ile (0 : Int) x35) (ilt x35 (Int.ofNat n318))) <|
 let n320 : Nat := (n317 + ((Int.toNat x35) * 1));
 St.at S b316 n320 fun y321 =>
 uncK y321 fun v322 y323 =>
 SV.cB v322 fun y325 =>
 ifK y325
 (J 12 [(AV.one (V1.s (SV.ptr p3))), (AV.one (V1.s (SV.sl l4))), (AV.one (V1.s (SV.sl l5))), (AV.one (V1.s (SV.int IntKind.i64 x6))), (AV.one (V1.s (SV.int IntKind.i64 x35))), (AV.one (V1.s (SV.sl y315))), (AV.one (V1.s (SV.sl l33))), (AV.one (V1.s (SV.int IntKind.i64 x34))), (AV.one (V1.s (SV.int IntKind.i64 x35))), (AV.one (V1.s (SV.bool Bool.true)))] S K)
 (let c326 : Bool := (ile (0 : Int) x6);
 ifK c326
 (PV.cs p3 fun b327 n328 =>
 let n329 : Nat := (n328 + 7);
 St.at S b327 n329 fun y330 =>
 uncK y330 fun v331 y332 =>
 SV.cL v331 fun y339 =>
 LV.cs y339 fun b340 n341 n342 y343 =>
 req (Bool.and (ile (0 : Int) x6) (ilt x6 (Int.ofNat n342))) <|
 let n344 : Nat := (n341 + ((Int.toNat x6) * 1));
 St.at S b340 n344 fun y345 =>
 uncK y345 fun v346 y347 =>
 SV.cL v346 fun y354 =>
 LV.cs y354 fun b355 n356 n357 y358 =>
 req (Bool.and Bool.true (ilt (0 : Int) (Int.ofNat n357))) <|
 let n359 : Nat := (n356 + 0);
 St.at S b355 n359 fun y360 =>
 uncK y360 fun v361 y362 =>
 SV.cI IntKind.i64 v361 fun x366 =>
 LV.cs y315 fun b367 n368 n369 y370 =>
 req (Bool.and Bool.true (ilt (0 : Int) (Int.ofNat n369))) <|
 let n371 : Nat := (n368 + 0);
 St.at S b367 n371 fun y372 =>
 uncK y372 fun v373 y374 =>
 SV.cI IntKind.i64 v373 fun x378 =>
 let c379 : Bool := (ilt x366 x378);
 J 12 [(AV.one (V1.s (SV.ptr p3))), (AV.one (V1.s (SV.sl l4))), (AV.one (V1.s (SV.sl l5))), (AV.one (V1.s (SV.int IntKind.i64 x6))), (AV.one (V1.s (SV.int IntKind.i64 x35))), (AV.one (V1.s (SV.sl y315))), (AV.one (V1.s (SV.sl l33))), (AV.one (V1.s (SV.int IntKind.i64 x34))), (AV.one (V1.s (SV.int IntKind.i64 x35))), (AV.one (V1.s (SV.bool c379)))] S K)
 (J 12 [(AV.one (V1.s (SV.ptr p3))), (AV.one (V1.s (SV.sl l4))), (AV.one (V1.s (SV.sl l5))), (AV.one (V1.s (SV.int IntKind.i64 x6))), (AV.one (V1.s (SV.int IntKind.i64 x35))), (AV.one (V1.s (SV.sl y315))), (AV.one (V1.s (SV.sl l33))), (AV.one (V1.s (SV.int IntKind.i64 x34))), (AV.one (V1.s (SV.int IntKind.i64 x35))), (AV.one (V1.s (SV.bool Bool.false)))] S K)))
 (let c403 : Bool := (ilt x6 (0 : Int));
 ifK c403
 (K ((AV.one (V1.s (SV.sl l5)))) S)
 (LV.cs l4 fun b404 n405 n406 y407 =>
 req (Bool.and (ile (0 : Int) x6) (ilt x6 (Int.ofNat n406))) <|
 let n408 : Nat := (n405 + ((Int.toNat x6) * 1));
 St.wr S b404 n408 [(SV.bool Bool.true)] fun S409 =>
 PV.cs p3 fun b410 n411 =>
 let n412 : Nat := (n411 + 7);
 St.at S409 b410 n412 fun y413 =>
 uncK y413 fun v414 y415 =>
 SV.cL v414 fun y422 =>
 LV.cs y422 fun b423 n424 n425 y426 =>
 req (Bool.and (ile (0 : Int) x6) (ilt x6 (Int.ofNat n425))) <|
 let n427 : Nat := (n424 + ((Int.toNat x6) * 1));
 St.at S409 b423 n427 fun y428 =>
 uncK y428 fun v429 y430 =>
 SV.cL v429 fun y437 =>
 let d438 : (Sum Nat Nat) := (Sum.inl 1);
 let S439 : St := (St.add S409 (AO.cells [(SV.sl y437)] Bool.false));
 St.src S439 1 (LV.mk (Bk.new (St.next S409)) 0 1 d438) fun y440 n441 =>
 St.app S439 1 24 l5 y440 n441 fun y442 S443 =>
 J 4 [(AV.one (V1.s (SV.ptr p3))), (AV.one (V1.s (SV.sl l4))), (AV.one (V1.s (SV.sl y442)))] S443 K))
noncomputable def X8_8 : X := (.op (.br (.op (.op (.jmp 12 [3, 4, 5, 6, 7, 8, 33, 34, 35, 62]))) (.op (.br (.op .ret) (.op (.op (.jmp 4 [3, 4, 5])))))))
theorem F8_8_eq (D J : Disp) (p3 : PV) (l4 : LV) (l5 : LV) (x6 : Int) (l33 : LV) (x34 : Int) (x35 : Int) (S : St) (K : AV → St → Prop) : F8_8 D J p3 l4 l5 x6 l33 x34 x35 S K = execK GraphP GraphG Go.Proofs.Try.f8 (typed GraphP D) J plans8 X8_8 (T8 8).1 (envOf (T8 8).2 [(AV.one (V1.s (SV.ptr p3))), (AV.one (V1.s (SV.sl l4))), (AV.one (V1.s (SV.sl l5))), (AV.one (V1.s (SV.int IntKind.i64 x6))), (AV.one (V1.s (SV.sl l33))), (AV.one (V1.s (SV.int IntKind.i64 x34))), (AV.one (V1.s (SV.int IntKind.i64 x35)))]) S K := by kernel_rfl
noncomputable def F8_12 (D J : Disp) (p3 : PV) (l4 : LV) (l5 : LV) (x6 : Int) (x7 : Int) (l8 : LV) (l33 : LV) (x34 : Int) (x35 : Int) (c62 : Bool) (S : St) (K : AV → St → Prop) : Prop :=
 ifK c62
 (J 13 [(AV.one (V1.s (SV.ptr p3))), (AV.one (V1.s (SV.sl l4))), (AV.one (V1.s (SV.sl l5))), (AV.one (V1.s (SV.int IntKind.i64 x6))), (AV.one (V1.s (SV.sl l33))), (AV.one (V1.s (SV.int IntKind.i64 x34))), (AV.one (V1.s (SV.int IntKind.i64 x35)))] S K)
 (let x300 : Int := (Int.ofNat (LV.len l8));
 J 15 [(AV.one (V1.s (SV.ptr p3))), (AV.one (V1.s (SV.sl l4))), (AV.one (V1.s (SV.sl l5))), (AV.one (V1.s (SV.int IntKind.i64 x6))), (AV.one (V1.s (SV.int IntKind.i64 x7))), (AV.one (V1.s (SV.sl l33))), (AV.one (V1.s (SV.int IntKind.i64 x34))), (AV.one (V1.s (SV.int IntKind.i64 x35))), (AV.one (V1.s (SV.sl l8))), (AV.one (V1.s (SV.int IntKind.i64 x300))), (AV.one (V1.s (SV.int IntKind.i64 (0 : Int))))] S K)
noncomputable def X8_12 : X := (.br (.jmp 13 [3, 4, 5, 6, 33, 34, 35]) (.op (.jmp 15 [3, 4, 5, 6, 7, 33, 34, 35, 63, 64, 65])))
theorem F8_12_eq (D J : Disp) (p3 : PV) (l4 : LV) (l5 : LV) (x6 : Int) (x7 : Int) (l8 : LV) (l33 : LV) (x34 : Int) (x35 : Int) (c62 : Bool) (S : St) (K : AV → St → Prop) : F8_12 D J p3 l4 l5 x6 x7 l8 l33 x34 x35 c62 S K = execK GraphP GraphG Go.Proofs.Try.f8 (typed GraphP D) J plans8 X8_12 (T8 12).1 (envOf (T8 12).2 [(AV.one (V1.s (SV.ptr p3))), (AV.one (V1.s (SV.sl l4))), (AV.one (V1.s (SV.sl l5))), (AV.one (V1.s (SV.int IntKind.i64 x6))), (AV.one (V1.s (SV.int IntKind.i64 x7))), (AV.one (V1.s (SV.sl l8))), (AV.one (V1.s (SV.sl l33))), (AV.one (V1.s (SV.int IntKind.i64 x34))), (AV.one (V1.s (SV.int IntKind.i64 x35))), (AV.one (V1.s (SV.bool c62)))]) S K := by kernel_rfl
noncomputable def F8_13 (D J : Disp) (p3 : PV) (l4 : LV) (l5 : LV) (x6 : Int) (l33 : LV) (x34 : Int) (x35 : Int) (S : St) (K : AV → St → Prop) : Prop :=
 let x300 : Int := (iwrap IntKind.i64 (x35 + (1 : Int)));
 J 8 [(AV.one (V1.s (SV.ptr p3))), (AV.one (V1.s (SV.sl l4))), (AV.one (V1.s (SV.sl l5))), (AV.one (V1.s (SV.int IntKind.i64 x6))), (AV.one (V1.s (SV.sl l33))), (AV.one (V1.s (SV.int IntKind.i64 x34))), (AV.one (V1.s (SV.int IntKind.i64 x300)))] S K
noncomputable def X8_13 : X := (.op (.jmp 8 [3, 4, 5, 6, 33, 34, 35]))
theorem F8_13_eq (D J : Disp) (p3 : PV) (l4 : LV) (l5 : LV) (x6 : Int) (l33 : LV) (x34 : Int) (x35 : Int) (S : St) (K : AV → St → Prop) : F8_13 D J p3 l4 l5 x6 l33 x34 x35 S K = execK GraphP GraphG Go.Proofs.Try.f8 (typed GraphP D) J plans8 X8_13 (T8 13).1 (envOf (T8 13).2 [(AV.one (V1.s (SV.ptr p3))), (AV.one (V1.s (SV.sl l4))), (AV.one (V1.s (SV.sl l5))), (AV.one (V1.s (SV.int IntKind.i64 x6))), (AV.one (V1.s (SV.sl l33))), (AV.one (V1.s (SV.int IntKind.i64 x34))), (AV.one (V1.s (SV.int IntKind.i64 x35)))]) S K := by kernel_rfl
noncomputable def F8_15 (D J : Disp) (p3 : PV) (l4 : LV) (l5 : LV) (x6 : Int) (x7 : Int) (l33 : LV) (x34 : Int) (x35 : Int) (l63 : LV) (x64 : Int) (x65 : Int) (S : St) (K : AV → St → Prop) : Prop :=
 let c300 : Bool := (ilt x65 x64);
 ifK c300
 (LV.cs l63 fun b301 n302 n303 y304 =>
 req (Bool.and (ile (0 : Int) x65) (ilt x65 (Int.ofNat n303))) <|
 let n305 : Nat := (n302 + ((Int.toNat x65) * 1));
 St.at S b301 n305 fun y306 =>
 uncK y306 fun v307 y308 =>
 SV.cI IntKind.i64 v307 fun x312 =>
 PV.cs p3 fun b313 n314 =>
 let n315 : Nat := (n314 + 0);
 St.at S b313 n315 fun y316 =>
 uncK y316 fun v317 y318 =>
 SV.cL v317 fun y325 =>
 LV.cs y325 fun b326 n327 n328 y329 =>
 req (Bool.and (ile (0 : Int) x312) (ilt x312 (Int.ofNat n328))) <|
 let n330 : Nat := (n327 + ((Int.toNat x312) * 1));
 St.at S b326 n330 fun y331 =>
 uncK y331 fun v332 y333 =>
 SV.cL v332 fun y340 =>
 let x341 : Int := (Int.ofNat (LV.len y340));
 J 19 [(AV.one (V1.s (SV.ptr p3))), (AV.one (V1.s (SV.sl l4))), (AV.one (V1.s (SV.sl l5))), (AV.one (V1.s (SV.int IntKind.i64 x6))), (AV.one (V1.s (SV.int IntKind.i64 x7))), (AV.one (V1.s (SV.sl l33))), (AV.one (V1.s (SV.int IntKind.i64 x34))), (AV.one (V1.s (SV.int IntKind.i64 x35))), (AV.one (V1.s (SV.sl l63))), (AV.one (V1.s (SV.int IntKind.i64 x64))), (AV.one (V1.s (SV.int IntKind.i64 x65))), (AV.one (V1.s (SV.sl y340))), (AV.one (V1.s (SV.int IntKind.i64 x341))), (AV.one (V1.s (SV.int IntKind.i64 (0 : Int))))] S K)
 (J 13 [(AV.one (V1.s (SV.ptr p3))), (AV.one (V1.s (SV.sl l4))), (AV.one (V1.s (SV.sl l5))), (AV.one (V1.s (SV.int IntKind.i64 x7))), (AV.one (V1.s (SV.sl l33))), (AV.one (V1.s (SV.int IntKind.i64 x34))), (AV.one (V1.s (SV.int IntKind.i64 x35)))] S K)
noncomputable def X8_15 : X := (.op (.br (.op (.op (.jmp 19 [3, 4, 5, 6, 7, 33, 34, 35, 63, 64, 65, 75, 76, 77]))) (.op (.jmp 13 [3, 4, 5, 6, 33, 34, 35]))))
theorem F8_15_eq (D J : Disp) (p3 : PV) (l4 : LV) (l5 : LV) (x6 : Int) (x7 : Int) (l33 : LV) (x34 : Int) (x35 : Int) (l63 : LV) (x64 : Int) (x65 : Int) (S : St) (K : AV → St → Prop) : F8_15 D J p3 l4 l5 x6 x7 l33 x34 x35 l63 x64 x65 S K = execK GraphP GraphG Go.Proofs.Try.f8 (typed GraphP D) J plans8 X8_15 (T8 15).1 (envOf (T8 15).2 [(AV.one (V1.s (SV.ptr p3))), (AV.one (V1.s (SV.sl l4))), (AV.one (V1.s (SV.sl l5))), (AV.one (V1.s (SV.int IntKind.i64 x6))), (AV.one (V1.s (SV.int IntKind.i64 x7))), (AV.one (V1.s (SV.sl l33))), (AV.one (V1.s (SV.int IntKind.i64 x34))), (AV.one (V1.s (SV.int IntKind.i64 x35))), (AV.one (V1.s (SV.sl l63))), (AV.one (V1.s (SV.int IntKind.i64 x64))), (AV.one (V1.s (SV.int IntKind.i64 x65)))]) S K := by kernel_rfl
noncomputable def F8_19 (D J : Disp) (p3 : PV) (l4 : LV) (l5 : LV) (x6 : Int) (x7 : Int) (l33 : LV) (x34 : Int) (x35 : Int) (l63 : LV) (x64 : Int) (x65 : Int) (l75 : LV) (x76 : Int) (x77 : Int) (S : St) (K : AV → St → Prop) : Prop :=
 let c300 : Bool := (ilt x77 x76);
 ifK c300
 (LV.cs l75 fun b301 n302 n303 y304 =>
 req (Bool.and (ile (0 : Int) x77) (ilt x77 (Int.ofNat n303))) <|
 let n305 : Nat := (n302 + ((Int.toNat x77) * 1));
 St.at S b301 n305 fun y306 =>
 uncK y306 fun v307 y308 =>
 SV.cI IntKind.i64 v307 fun x312 =>
 PV.cs p3 fun b313 n314 =>
 let n315 : Nat := (n314 + 6);
 St.at S b313 n315 fun y316 =>
 uncK y316 fun v317 y318 =>
 SV.cL v317 fun y325 =>
 LV.cs y325 fun b326 n327 n328 y329 =>
 req (Bool.and (ile (0 : Int) x312) (ilt x312 (Int.ofNat n328))) <|
 let n330 : Nat := (n327 + ((Int.toNat x312) * 1));
 St.at S b326 n330 fun y331 =>
 uncK y331 fun v332 y333 =>
 SV.cI IntKind.i64 v332 fun x337 =>
 let c338 : Bool := (Bool.not (ieq x337 x7));
 ifK c338
 (PV.cs p3 fun b339 n340 =>
 let n341 : Nat := (n340 + 6);
 St.at S b339 n341 fun y342 =>
 uncK y342 fun v343 y344 =>
 SV.cL v343 fun y351 =>
 LV.cs y351 fun b352 n353 n354 y355 =>
 req (Bool.and (ile (0 : Int) x312) (ilt x312 (Int.ofNat n354))) <|
 let n356 : Nat := (n353 + ((Int.toNat x312) * 1));
 St.at S b352 n356 fun y357 =>
 uncK y357 fun v358 y359 =>
 SV.cI IntKind.i64 v358 fun x363 =>
 LV.cs l4 fun b364 n365 n366 y367 =>
 req (Bool.and (ile (0 : Int) x363) (ilt x363 (Int.ofNat n366))) <|
 let n368 : Nat := (n365 + ((Int.toNat x363) * 1));
 St.at S b364 n368 fun y369 =>
 uncK y369 fun v370 y371 =>
 SV.cB v370 fun y373 =>
 let c374 : Bool := (Bool.not y373);
 J 23 [(AV.one (V1.s (SV.ptr p3))), (AV.one (V1.s (SV.sl l4))), (AV.one (V1.s (SV.sl l5))), (AV.one (V1.s (SV.int IntKind.i64 x6))), (AV.one (V1.s (SV.int IntKind.i64 x7))), (AV.one (V1.s (SV.sl l33))), (AV.one (V1.s (SV.int IntKind.i64 x34))), (AV.one (V1.s (SV.int IntKind.i64 x35))), (AV.one (V1.s (SV.sl l63))), (AV.one (V1.s (SV.int IntKind.i64 x64))), (AV.one (V1.s (SV.int IntKind.i64 x65))), (AV.one (V1.s (SV.sl l75))), (AV.one (V1.s (SV.int IntKind.i64 x76))), (AV.one (V1.s (SV.int IntKind.i64 x77))), (AV.one (V1.s (SV.bool c374)))] S K)
 (J 23 [(AV.one (V1.s (SV.ptr p3))), (AV.one (V1.s (SV.sl l4))), (AV.one (V1.s (SV.sl l5))), (AV.one (V1.s (SV.int IntKind.i64 x6))), (AV.one (V1.s (SV.int IntKind.i64 x7))), (AV.one (V1.s (SV.sl l33))), (AV.one (V1.s (SV.int IntKind.i64 x34))), (AV.one (V1.s (SV.int IntKind.i64 x35))), (AV.one (V1.s (SV.sl l63))), (AV.one (V1.s (SV.int IntKind.i64 x64))), (AV.one (V1.s (SV.int IntKind.i64 x65))), (AV.one (V1.s (SV.sl l75))), (AV.one (V1.s (SV.int IntKind.i64 x76))), (AV.one (V1.s (SV.int IntKind.i64 x77))), (AV.one (V1.s (SV.bool Bool.false)))] S K))
 (let x401 : Int := (iwrap IntKind.i64 (x65 + (1 : Int)));
 J 15 [(AV.one (V1.s (SV.ptr p3))), (AV.one (V1.s (SV.sl l4))), (AV.one (V1.s (SV.sl l5))), (AV.one (V1.s (SV.int IntKind.i64 x6))), (AV.one (V1.s (SV.int IntKind.i64 x7))), (AV.one (V1.s (SV.sl l33))), (AV.one (V1.s (SV.int IntKind.i64 x34))), (AV.one (V1.s (SV.int IntKind.i64 x35))), (AV.one (V1.s (SV.sl l63))), (AV.one (V1.s (SV.int IntKind.i64 x64))), (AV.one (V1.s (SV.int IntKind.i64 x401)))] S K)
noncomputable def X8_19 : X := (.op (.br (.op (.op (.jmp 23 [3, 4, 5, 6, 7, 33, 34, 35, 63, 64, 65, 75, 76, 77, 102]))) (.op (.jmp 15 [3, 4, 5, 6, 7, 33, 34, 35, 63, 64, 65]))))
theorem F8_19_eq (D J : Disp) (p3 : PV) (l4 : LV) (l5 : LV) (x6 : Int) (x7 : Int) (l33 : LV) (x34 : Int) (x35 : Int) (l63 : LV) (x64 : Int) (x65 : Int) (l75 : LV) (x76 : Int) (x77 : Int) (S : St) (K : AV → St → Prop) : F8_19 D J p3 l4 l5 x6 x7 l33 x34 x35 l63 x64 x65 l75 x76 x77 S K = execK GraphP GraphG Go.Proofs.Try.f8 (typed GraphP D) J plans8 X8_19 (T8 19).1 (envOf (T8 19).2 [(AV.one (V1.s (SV.ptr p3))), (AV.one (V1.s (SV.sl l4))), (AV.one (V1.s (SV.sl l5))), (AV.one (V1.s (SV.int IntKind.i64 x6))), (AV.one (V1.s (SV.int IntKind.i64 x7))), (AV.one (V1.s (SV.sl l33))), (AV.one (V1.s (SV.int IntKind.i64 x34))), (AV.one (V1.s (SV.int IntKind.i64 x35))), (AV.one (V1.s (SV.sl l63))), (AV.one (V1.s (SV.int IntKind.i64 x64))), (AV.one (V1.s (SV.int IntKind.i64 x65))), (AV.one (V1.s (SV.sl l75))), (AV.one (V1.s (SV.int IntKind.i64 x76))), (AV.one (V1.s (SV.int IntKind.i64 x77)))]) S K := by kernel_rfl
noncomputable def F8_23 (D J : Disp) (p3 : PV) (l4 : LV) (l5 : LV) (x6 : Int) (x7 : Int) (l33 : LV) (x34 : Int) (x35 : Int) (l63 : LV) (x64 : Int) (x65 : Int) (l75 : LV) (x76 : Int) (x77 : Int) (c102 : Bool) (S : St) (K : AV → St → Prop) : Prop :=
 ifK c102
 (J 13 [(AV.one (V1.s (SV.ptr p3))), (AV.one (V1.s (SV.sl l4))), (AV.one (V1.s (SV.sl l5))), (AV.one (V1.s (SV.int IntKind.i64 x6))), (AV.one (V1.s (SV.sl l33))), (AV.one (V1.s (SV.int IntKind.i64 x34))), (AV.one (V1.s (SV.int IntKind.i64 x35)))] S K)
 (let x300 : Int := (iwrap IntKind.i64 (x77 + (1 : Int)));
 J 19 [(AV.one (V1.s (SV.ptr p3))), (AV.one (V1.s (SV.sl l4))), (AV.one (V1.s (SV.sl l5))), (AV.one (V1.s (SV.int IntKind.i64 x6))), (AV.one (V1.s (SV.int IntKind.i64 x7))), (AV.one (V1.s (SV.sl l33))), (AV.one (V1.s (SV.int IntKind.i64 x34))), (AV.one (V1.s (SV.int IntKind.i64 x35))), (AV.one (V1.s (SV.sl l63))), (AV.one (V1.s (SV.int IntKind.i64 x64))), (AV.one (V1.s (SV.int IntKind.i64 x65))), (AV.one (V1.s (SV.sl l75))), (AV.one (V1.s (SV.int IntKind.i64 x76))), (AV.one (V1.s (SV.int IntKind.i64 x300)))] S K)
noncomputable def X8_23 : X := (.br (.jmp 13 [3, 4, 5, 6, 33, 34, 35]) (.op (.jmp 19 [3, 4, 5, 6, 7, 33, 34, 35, 63, 64, 65, 75, 76, 77])))
theorem F8_23_eq (D J : Disp) (p3 : PV) (l4 : LV) (l5 : LV) (x6 : Int) (x7 : Int) (l33 : LV) (x34 : Int) (x35 : Int) (l63 : LV) (x64 : Int) (x65 : Int) (l75 : LV) (x76 : Int) (x77 : Int) (c102 : Bool) (S : St) (K : AV → St → Prop) : F8_23 D J p3 l4 l5 x6 x7 l33 x34 x35 l63 x64 x65 l75 x76 x77 c102 S K = execK GraphP GraphG Go.Proofs.Try.f8 (typed GraphP D) J plans8 X8_23 (T8 23).1 (envOf (T8 23).2 [(AV.one (V1.s (SV.ptr p3))), (AV.one (V1.s (SV.sl l4))), (AV.one (V1.s (SV.sl l5))), (AV.one (V1.s (SV.int IntKind.i64 x6))), (AV.one (V1.s (SV.int IntKind.i64 x7))), (AV.one (V1.s (SV.sl l33))), (AV.one (V1.s (SV.int IntKind.i64 x34))), (AV.one (V1.s (SV.int IntKind.i64 x35))), (AV.one (V1.s (SV.sl l63))), (AV.one (V1.s (SV.int IntKind.i64 x64))), (AV.one (V1.s (SV.int IntKind.i64 x65))), (AV.one (V1.s (SV.sl l75))), (AV.one (V1.s (SV.int IntKind.i64 x76))), (AV.one (V1.s (SV.int IntKind.i64 x77))), (AV.one (V1.s (SV.bool c102)))]) S K := by kernel_rfl
noncomputable abbrev A8_0 (D J : Disp) (vals : List AV) (S : St) (K : AV → St → Prop) : Prop :=
  uncA vals fun a9001 r9002 => avA a9001 fun l9004 => uncK l9004 fun s9006 r9007 => SV.cL s9006 fun l0_0 => uncK r9007 fun s9010 r9011 => SV.cL s9010 fun l0_1 => uncK r9011 fun s9014 r9015 => SV.cI IntKind.i64 s9014 fun x0_2 => endL r9015 <| endL r9002 <| F8_0 D J l0_0 l0_1 x0_2 S K
theorem A8_0_ok {D J : Disp} (hD : DOK GraphP GraphG D) (hJ : JOK GraphP GraphG Go.Proofs.Try.f8 T8 J) {vals : List AV} {S : St} {K : AV → St → Prop} (h0 : A8_0 D J vals S K) : Runs GraphP GraphG Go.Proofs.Try.f8 (T8 0).1 (envOf (T8 0).2 vals) S K := by
  obtain ⟨a9001, r9002, rfl, h3⟩ := uncA_some h0
  obtain ⟨l9004, rfl, h5⟩ := avA_some h3
  obtain ⟨s9006, r9007, rfl, h8⟩ := uncK_some h5
  obtain ⟨l0_0, rfl, h9⟩ := cL_some h8
  obtain ⟨s9010, r9011, rfl, h12⟩ := uncK_some h9
  obtain ⟨l0_1, rfl, h13⟩ := cL_some h12
  obtain ⟨s9014, r9015, rfl, h16⟩ := uncK_some h13
  obtain ⟨x0_2, rfl, h17⟩ := cI_some h16
  obtain ⟨rfl, h18⟩ := endL_some h17
  obtain ⟨rfl, h19⟩ := endL_some h18
  rw [F8_0_eq] at h19
  exact execK_runs hD.typed Graph_zero Graph_mixed hJ X8_0 (T8 0).1 (envOf (T8 0).2 _) S K (chk_of (by kernel_rfl) (by kernel_rfl)) h19
noncomputable abbrev A8_4 (D J : Disp) (vals : List AV) (S : St) (K : AV → St → Prop) : Prop :=
  uncA vals fun a9001 r9002 => scK a9001 fun s9004 => SV.cP s9004 fun p3 => uncA r9002 fun a9007 r9008 => scK a9007 fun s9010 => SV.cL s9010 fun l4 => uncA r9008 fun a9013 r9014 => scK a9013 fun s9016 => SV.cL s9016 fun l5 => endL r9014 <| F8_4 D J p3 l4 l5 S K
theorem A8_4_ok {D J : Disp} (hD : DOK GraphP GraphG D) (hJ : JOK GraphP GraphG Go.Proofs.Try.f8 T8 J) {vals : List AV} {S : St} {K : AV → St → Prop} (h0 : A8_4 D J vals S K) : Runs GraphP GraphG Go.Proofs.Try.f8 (T8 4).1 (envOf (T8 4).2 vals) S K := by
  obtain ⟨a9001, r9002, rfl, h3⟩ := uncA_some h0
  obtain ⟨s9004, rfl, h5⟩ := scK_some h3
  obtain ⟨p3, rfl, h6⟩ := cP_some h5
  obtain ⟨a9007, r9008, rfl, h9⟩ := uncA_some h6
  obtain ⟨s9010, rfl, h11⟩ := scK_some h9
  obtain ⟨l4, rfl, h12⟩ := cL_some h11
  obtain ⟨a9013, r9014, rfl, h15⟩ := uncA_some h12
  obtain ⟨s9016, rfl, h17⟩ := scK_some h15
  obtain ⟨l5, rfl, h18⟩ := cL_some h17
  obtain ⟨rfl, h19⟩ := endL_some h18
  rw [F8_4_eq] at h19
  exact execK_runs hD.typed Graph_zero Graph_mixed hJ X8_4 (T8 4).1 (envOf (T8 4).2 _) S K (chk_of (by kernel_rfl) (by kernel_rfl)) h19
noncomputable abbrev A8_8 (D J : Disp) (vals : List AV) (S : St) (K : AV → St → Prop) : Prop :=
  uncA vals fun a9001 r9002 => scK a9001 fun s9004 => SV.cP s9004 fun p3 => uncA r9002 fun a9007 r9008 => scK a9007 fun s9010 => SV.cL s9010 fun l4 => uncA r9008 fun a9013 r9014 => scK a9013 fun s9016 => SV.cL s9016 fun l5 => uncA r9014 fun a9019 r9020 => scK a9019 fun s9022 => SV.cI IntKind.i64 s9022 fun x6 => uncA r9020 fun a9025 r9026 => scK a9025 fun s9028 => SV.cL s9028 fun l33 => uncA r9026 fun a9031 r9032 => scK a9031 fun s9034 => SV.cI IntKind.i64 s9034 fun x34 => uncA r9032 fun a9037 r9038 => scK a9037 fun s9040 => SV.cI IntKind.i64 s9040 fun x35 => endL r9038 <| F8_8 D J p3 l4 l5 x6 l33 x34 x35 S K
theorem A8_8_ok {D J : Disp} (hD : DOK GraphP GraphG D) (hJ : JOK GraphP GraphG Go.Proofs.Try.f8 T8 J) {vals : List AV} {S : St} {K : AV → St → Prop} (h0 : A8_8 D J vals S K) : Runs GraphP GraphG Go.Proofs.Try.f8 (T8 8).1 (envOf (T8 8).2 vals) S K := by
  obtain ⟨a9001, r9002, rfl, h3⟩ := uncA_some h0
  obtain ⟨s9004, rfl, h5⟩ := scK_some h3
  obtain ⟨p3, rfl, h6⟩ := cP_some h5
  obtain ⟨a9007, r9008, rfl, h9⟩ := uncA_some h6
  obtain ⟨s9010, rfl, h11⟩ := scK_some h9
  obtain ⟨l4, rfl, h12⟩ := cL_some h11
  obtain ⟨a9013, r9014, rfl, h15⟩ := uncA_some h12
  obtain ⟨s9016, rfl, h17⟩ := scK_some h15
  obtain ⟨l5, rfl, h18⟩ := cL_some h17
  obtain ⟨a9019, r9020, rfl, h21⟩ := uncA_some h18
  obtain ⟨s9022, rfl, h23⟩ := scK_some h21
  obtain ⟨x6, rfl, h24⟩ := cI_some h23
  obtain ⟨a9025, r9026, rfl, h27⟩ := uncA_some h24
  obtain ⟨s9028, rfl, h29⟩ := scK_some h27
  obtain ⟨l33, rfl, h30⟩ := cL_some h29
  obtain ⟨a9031, r9032, rfl, h33⟩ := uncA_some h30
  obtain ⟨s9034, rfl, h35⟩ := scK_some h33
  obtain ⟨x34, rfl, h36⟩ := cI_some h35
  obtain ⟨a9037, r9038, rfl, h39⟩ := uncA_some h36
  obtain ⟨s9040, rfl, h41⟩ := scK_some h39
  obtain ⟨x35, rfl, h42⟩ := cI_some h41
  obtain ⟨rfl, h43⟩ := endL_some h42
  rw [F8_8_eq] at h43
  exact execK_runs hD.typed Graph_zero Graph_mixed hJ X8_8 (T8 8).1 (envOf (T8 8).2 _) S K (chk_of (by kernel_rfl) (by kernel_rfl)) h43
noncomputable abbrev A8_12 (D J : Disp) (vals : List AV) (S : St) (K : AV → St → Prop) : Prop :=
  uncA vals fun a9001 r9002 => scK a9001 fun s9004 => SV.cP s9004 fun p3 => uncA r9002 fun a9007 r9008 => scK a9007 fun s9010 => SV.cL s9010 fun l4 => uncA r9008 fun a9013 r9014 => scK a9013 fun s9016 => SV.cL s9016 fun l5 => uncA r9014 fun a9019 r9020 => scK a9019 fun s9022 => SV.cI IntKind.i64 s9022 fun x6 => uncA r9020 fun a9025 r9026 => scK a9025 fun s9028 => SV.cI IntKind.i64 s9028 fun x7 => uncA r9026 fun a9031 r9032 => scK a9031 fun s9034 => SV.cL s9034 fun l8 => uncA r9032 fun a9037 r9038 => scK a9037 fun s9040 => SV.cL s9040 fun l33 => uncA r9038 fun a9043 r9044 => scK a9043 fun s9046 => SV.cI IntKind.i64 s9046 fun x34 => uncA r9044 fun a9049 r9050 => scK a9049 fun s9052 => SV.cI IntKind.i64 s9052 fun x35 => uncA r9050 fun a9055 r9056 => scK a9055 fun s9058 => SV.cB s9058 fun c62 => endL r9056 <| F8_12 D J p3 l4 l5 x6 x7 l8 l33 x34 x35 c62 S K
theorem A8_12_ok {D J : Disp} (hD : DOK GraphP GraphG D) (hJ : JOK GraphP GraphG Go.Proofs.Try.f8 T8 J) {vals : List AV} {S : St} {K : AV → St → Prop} (h0 : A8_12 D J vals S K) : Runs GraphP GraphG Go.Proofs.Try.f8 (T8 12).1 (envOf (T8 12).2 vals) S K := by
  obtain ⟨a9001, r9002, rfl, h3⟩ := uncA_some h0
  obtain ⟨s9004, rfl, h5⟩ := scK_some h3
  obtain ⟨p3, rfl, h6⟩ := cP_some h5
  obtain ⟨a9007, r9008, rfl, h9⟩ := uncA_some h6
  obtain ⟨s9010, rfl, h11⟩ := scK_some h9
  obtain ⟨l4, rfl, h12⟩ := cL_some h11
  obtain ⟨a9013, r9014, rfl, h15⟩ := uncA_some h12
  obtain ⟨s9016, rfl, h17⟩ := scK_some h15
  obtain ⟨l5, rfl, h18⟩ := cL_some h17
  obtain ⟨a9019, r9020, rfl, h21⟩ := uncA_some h18
  obtain ⟨s9022, rfl, h23⟩ := scK_some h21
  obtain ⟨x6, rfl, h24⟩ := cI_some h23
  obtain ⟨a9025, r9026, rfl, h27⟩ := uncA_some h24
  obtain ⟨s9028, rfl, h29⟩ := scK_some h27
  obtain ⟨x7, rfl, h30⟩ := cI_some h29
  obtain ⟨a9031, r9032, rfl, h33⟩ := uncA_some h30
  obtain ⟨s9034, rfl, h35⟩ := scK_some h33
  obtain ⟨l8, rfl, h36⟩ := cL_some h35
  obtain ⟨a9037, r9038, rfl, h39⟩ := uncA_some h36
  obtain ⟨s9040, rfl, h41⟩ := scK_some h39
  obtain ⟨l33, rfl, h42⟩ := cL_some h41
  obtain ⟨a9043, r9044, rfl, h45⟩ := uncA_some h42
  obtain ⟨s9046, rfl, h47⟩ := scK_some h45
  obtain ⟨x34, rfl, h48⟩ := cI_some h47
  obtain ⟨a9049, r9050, rfl, h51⟩ := uncA_some h48
  obtain ⟨s9052, rfl, h53⟩ := scK_some h51
  obtain ⟨x35, rfl, h54⟩ := cI_some h53
  obtain ⟨a9055, r9056, rfl, h57⟩ := uncA_some h54
  obtain ⟨s9058, rfl, h59⟩ := scK_some h57
  obtain ⟨c62, rfl, h60⟩ := cB_some h59
  obtain ⟨rfl, h61⟩ := endL_some h60
  rw [F8_12_eq] at h61
  exact execK_runs hD.typed Graph_zero Graph_mixed hJ X8_12 (T8 12).1 (envOf (T8 12).2 _) S K (chk_of (by kernel_rfl) (by kernel_rfl)) h61
noncomputable abbrev A8_13 (D J : Disp) (vals : List AV) (S : St) (K : AV → St → Prop) : Prop :=
  uncA vals fun a9001 r9002 => scK a9001 fun s9004 => SV.cP s9004 fun p3 => uncA r9002 fun a9007 r9008 => scK a9007 fun s9010 => SV.cL s9010 fun l4 => uncA r9008 fun a9013 r9014 => scK a9013 fun s9016 => SV.cL s9016 fun l5 => uncA r9014 fun a9019 r9020 => scK a9019 fun s9022 => SV.cI IntKind.i64 s9022 fun x6 => uncA r9020 fun a9025 r9026 => scK a9025 fun s9028 => SV.cL s9028 fun l33 => uncA r9026 fun a9031 r9032 => scK a9031 fun s9034 => SV.cI IntKind.i64 s9034 fun x34 => uncA r9032 fun a9037 r9038 => scK a9037 fun s9040 => SV.cI IntKind.i64 s9040 fun x35 => endL r9038 <| F8_13 D J p3 l4 l5 x6 l33 x34 x35 S K
theorem A8_13_ok {D J : Disp} (hD : DOK GraphP GraphG D) (hJ : JOK GraphP GraphG Go.Proofs.Try.f8 T8 J) {vals : List AV} {S : St} {K : AV → St → Prop} (h0 : A8_13 D J vals S K) : Runs GraphP GraphG Go.Proofs.Try.f8 (T8 13).1 (envOf (T8 13).2 vals) S K := by
  obtain ⟨a9001, r9002, rfl, h3⟩ := uncA_some h0
  obtain ⟨s9004, rfl, h5⟩ := scK_some h3
  obtain ⟨p3, rfl, h6⟩ := cP_some h5
  obtain ⟨a9007, r9008, rfl, h9⟩ := uncA_some h6
  obtain ⟨s9010, rfl, h11⟩ := scK_some h9
  obtain ⟨l4, rfl, h12⟩ := cL_some h11
  obtain ⟨a9013, r9014, rfl, h15⟩ := uncA_some h12
  obtain ⟨s9016, rfl, h17⟩ := scK_some h15
  obtain ⟨l5, rfl, h18⟩ := cL_some h17
  obtain ⟨a9019, r9020, rfl, h21⟩ := uncA_some h18
  obtain ⟨s9022, rfl, h23⟩ := scK_some h21
  obtain ⟨x6, rfl, h24⟩ := cI_some h23
  obtain ⟨a9025, r9026, rfl, h27⟩ := uncA_some h24
  obtain ⟨s9028, rfl, h29⟩ := scK_some h27
  obtain ⟨l33, rfl, h30⟩ := cL_some h29
  obtain ⟨a9031, r9032, rfl, h33⟩ := uncA_some h30
  obtain ⟨s9034, rfl, h35⟩ := scK_some h33
  obtain ⟨x34, rfl, h36⟩ := cI_some h35
  obtain ⟨a9037, r9038, rfl, h39⟩ := uncA_some h36
  obtain ⟨s9040, rfl, h41⟩ := scK_some h39
  obtain ⟨x35, rfl, h42⟩ := cI_some h41
  obtain ⟨rfl, h43⟩ := endL_some h42
  rw [F8_13_eq] at h43
  exact execK_runs hD.typed Graph_zero Graph_mixed hJ X8_13 (T8 13).1 (envOf (T8 13).2 _) S K (chk_of (by kernel_rfl) (by kernel_rfl)) h43
noncomputable abbrev A8_15 (D J : Disp) (vals : List AV) (S : St) (K : AV → St → Prop) : Prop :=
  uncA vals fun a9001 r9002 => scK a9001 fun s9004 => SV.cP s9004 fun p3 => uncA r9002 fun a9007 r9008 => scK a9007 fun s9010 => SV.cL s9010 fun l4 => uncA r9008 fun a9013 r9014 => scK a9013 fun s9016 => SV.cL s9016 fun l5 => uncA r9014 fun a9019 r9020 => scK a9019 fun s9022 => SV.cI IntKind.i64 s9022 fun x6 => uncA r9020 fun a9025 r9026 => scK a9025 fun s9028 => SV.cI IntKind.i64 s9028 fun x7 => uncA r9026 fun a9031 r9032 => scK a9031 fun s9034 => SV.cL s9034 fun l33 => uncA r9032 fun a9037 r9038 => scK a9037 fun s9040 => SV.cI IntKind.i64 s9040 fun x34 => uncA r9038 fun a9043 r9044 => scK a9043 fun s9046 => SV.cI IntKind.i64 s9046 fun x35 => uncA r9044 fun a9049 r9050 => scK a9049 fun s9052 => SV.cL s9052 fun l63 => uncA r9050 fun a9055 r9056 => scK a9055 fun s9058 => SV.cI IntKind.i64 s9058 fun x64 => uncA r9056 fun a9061 r9062 => scK a9061 fun s9064 => SV.cI IntKind.i64 s9064 fun x65 => endL r9062 <| F8_15 D J p3 l4 l5 x6 x7 l33 x34 x35 l63 x64 x65 S K
theorem A8_15_ok {D J : Disp} (hD : DOK GraphP GraphG D) (hJ : JOK GraphP GraphG Go.Proofs.Try.f8 T8 J) {vals : List AV} {S : St} {K : AV → St → Prop} (h0 : A8_15 D J vals S K) : Runs GraphP GraphG Go.Proofs.Try.f8 (T8 15).1 (envOf (T8 15).2 vals) S K := by
  obtain ⟨a9001, r9002, rfl, h3⟩ := uncA_some h0
  obtain ⟨s9004, rfl, h5⟩ := scK_some h3
  obtain ⟨p3, rfl, h6⟩ := cP_some h5
  obtain ⟨a9007, r9008, rfl, h9⟩ := uncA_some h6
  obtain ⟨s9010, rfl, h11⟩ := scK_some h9
  obtain ⟨l4, rfl, h12⟩ := cL_some h11
  obtain ⟨a9013, r9014, rfl, h15⟩ := uncA_some h12
  obtain ⟨s9016, rfl, h17⟩ := scK_some h15
  obtain ⟨l5, rfl, h18⟩ := cL_some h17
  obtain ⟨a9019, r9020, rfl, h21⟩ := uncA_some h18
  obtain ⟨s9022, rfl, h23⟩ := scK_some h21
  obtain ⟨x6, rfl, h24⟩ := cI_some h23
  obtain ⟨a9025, r9026, rfl, h27⟩ := uncA_some h24
  obtain ⟨s9028, rfl, h29⟩ := scK_some h27
  obtain ⟨x7, rfl, h30⟩ := cI_some h29
  obtain ⟨a9031, r9032, rfl, h33⟩ := uncA_some h30
  obtain ⟨s9034, rfl, h35⟩ := scK_some h33
  obtain ⟨l33, rfl, h36⟩ := cL_some h35
  obtain ⟨a9037, r9038, rfl, h39⟩ := uncA_some h36
  obtain ⟨s9040, rfl, h41⟩ := scK_some h39
  obtain ⟨x34, rfl, h42⟩ := cI_some h41
  obtain ⟨a9043, r9044, rfl, h45⟩ := uncA_some h42
  obtain ⟨s9046, rfl, h47⟩ := scK_some h45
  obtain ⟨x35, rfl, h48⟩ := cI_some h47
  obtain ⟨a9049, r9050, rfl, h51⟩ := uncA_some h48
  obtain ⟨s9052, rfl, h53⟩ := scK_some h51
  obtain ⟨l63, rfl, h54⟩ := cL_some h53
  obtain ⟨a9055, r9056, rfl, h57⟩ := uncA_some h54
  obtain ⟨s9058, rfl, h59⟩ := scK_some h57
  obtain ⟨x64, rfl, h60⟩ := cI_some h59
  obtain ⟨a9061, r9062, rfl, h63⟩ := uncA_some h60
  obtain ⟨s9064, rfl, h65⟩ := scK_some h63
  obtain ⟨x65, rfl, h66⟩ := cI_some h65
  obtain ⟨rfl, h67⟩ := endL_some h66
  rw [F8_15_eq] at h67
  exact execK_runs hD.typed Graph_zero Graph_mixed hJ X8_15 (T8 15).1 (envOf (T8 15).2 _) S K (chk_of (by kernel_rfl) (by kernel_rfl)) h67
noncomputable abbrev A8_19 (D J : Disp) (vals : List AV) (S : St) (K : AV → St → Prop) : Prop :=
  uncA vals fun a9001 r9002 => scK a9001 fun s9004 => SV.cP s9004 fun p3 => uncA r9002 fun a9007 r9008 => scK a9007 fun s9010 => SV.cL s9010 fun l4 => uncA r9008 fun a9013 r9014 => scK a9013 fun s9016 => SV.cL s9016 fun l5 => uncA r9014 fun a9019 r9020 => scK a9019 fun s9022 => SV.cI IntKind.i64 s9022 fun x6 => uncA r9020 fun a9025 r9026 => scK a9025 fun s9028 => SV.cI IntKind.i64 s9028 fun x7 => uncA r9026 fun a9031 r9032 => scK a9031 fun s9034 => SV.cL s9034 fun l33 => uncA r9032 fun a9037 r9038 => scK a9037 fun s9040 => SV.cI IntKind.i64 s9040 fun x34 => uncA r9038 fun a9043 r9044 => scK a9043 fun s9046 => SV.cI IntKind.i64 s9046 fun x35 => uncA r9044 fun a9049 r9050 => scK a9049 fun s9052 => SV.cL s9052 fun l63 => uncA r9050 fun a9055 r9056 => scK a9055 fun s9058 => SV.cI IntKind.i64 s9058 fun x64 => uncA r9056 fun a9061 r9062 => scK a9061 fun s9064 => SV.cI IntKind.i64 s9064 fun x65 => uncA r9062 fun a9067 r9068 => scK a9067 fun s9070 => SV.cL s9070 fun l75 => uncA r9068 fun a9073 r9074 => scK a9073 fun s9076 => SV.cI IntKind.i64 s9076 fun x76 => uncA r9074 fun a9079 r9080 => scK a9079 fun s9082 => SV.cI IntKind.i64 s9082 fun x77 => endL r9080 <| F8_19 D J p3 l4 l5 x6 x7 l33 x34 x35 l63 x64 x65 l75 x76 x77 S K
theorem A8_19_ok {D J : Disp} (hD : DOK GraphP GraphG D) (hJ : JOK GraphP GraphG Go.Proofs.Try.f8 T8 J) {vals : List AV} {S : St} {K : AV → St → Prop} (h0 : A8_19 D J vals S K) : Runs GraphP GraphG Go.Proofs.Try.f8 (T8 19).1 (envOf (T8 19).2 vals) S K := by
  obtain ⟨a9001, r9002, rfl, h3⟩ := uncA_some h0
  obtain ⟨s9004, rfl, h5⟩ := scK_some h3
  obtain ⟨p3, rfl, h6⟩ := cP_some h5
  obtain ⟨a9007, r9008, rfl, h9⟩ := uncA_some h6
  obtain ⟨s9010, rfl, h11⟩ := scK_some h9
  obtain ⟨l4, rfl, h12⟩ := cL_some h11
  obtain ⟨a9013, r9014, rfl, h15⟩ := uncA_some h12
  obtain ⟨s9016, rfl, h17⟩ := scK_some h15
  obtain ⟨l5, rfl, h18⟩ := cL_some h17
  obtain ⟨a9019, r9020, rfl, h21⟩ := uncA_some h18
  obtain ⟨s9022, rfl, h23⟩ := scK_some h21
  obtain ⟨x6, rfl, h24⟩ := cI_some h23
  obtain ⟨a9025, r9026, rfl, h27⟩ := uncA_some h24
  obtain ⟨s9028, rfl, h29⟩ := scK_some h27
  obtain ⟨x7, rfl, h30⟩ := cI_some h29
  obtain ⟨a9031, r9032, rfl, h33⟩ := uncA_some h30
  obtain ⟨s9034, rfl, h35⟩ := scK_some h33
  obtain ⟨l33, rfl, h36⟩ := cL_some h35
  obtain ⟨a9037, r9038, rfl, h39⟩ := uncA_some h36
  obtain ⟨s9040, rfl, h41⟩ := scK_some h39
  obtain ⟨x34, rfl, h42⟩ := cI_some h41
  obtain ⟨a9043, r9044, rfl, h45⟩ := uncA_some h42
  obtain ⟨s9046, rfl, h47⟩ := scK_some h45
  obtain ⟨x35, rfl, h48⟩ := cI_some h47
  obtain ⟨a9049, r9050, rfl, h51⟩ := uncA_some h48
  obtain ⟨s9052, rfl, h53⟩ := scK_some h51
  obtain ⟨l63, rfl, h54⟩ := cL_some h53
  obtain ⟨a9055, r9056, rfl, h57⟩ := uncA_some h54
  obtain ⟨s9058, rfl, h59⟩ := scK_some h57
  obtain ⟨x64, rfl, h60⟩ := cI_some h59
  obtain ⟨a9061, r9062, rfl, h63⟩ := uncA_some h60
  obtain ⟨s9064, rfl, h65⟩ := scK_some h63
  obtain ⟨x65, rfl, h66⟩ := cI_some h65
  obtain ⟨a9067, r9068, rfl, h69⟩ := uncA_some h66
  obtain ⟨s9070, rfl, h71⟩ := scK_some h69
  obtain ⟨l75, rfl, h72⟩ := cL_some h71
  obtain ⟨a9073, r9074, rfl, h75⟩ := uncA_some h72
  obtain ⟨s9076, rfl, h77⟩ := scK_some h75
  obtain ⟨x76, rfl, h78⟩ := cI_some h77
  obtain ⟨a9079, r9080, rfl, h81⟩ := uncA_some h78
  obtain ⟨s9082, rfl, h83⟩ := scK_some h81
  obtain ⟨x77, rfl, h84⟩ := cI_some h83
  obtain ⟨rfl, h85⟩ := endL_some h84
  rw [F8_19_eq] at h85
  exact execK_runs hD.typed Graph_zero Graph_mixed hJ X8_19 (T8 19).1 (envOf (T8 19).2 _) S K (chk_of (by kernel_rfl) (by kernel_rfl)) h85
noncomputable abbrev A8_23 (D J : Disp) (vals : List AV) (S : St) (K : AV → St → Prop) : Prop :=
  uncA vals fun a9001 r9002 => scK a9001 fun s9004 => SV.cP s9004 fun p3 => uncA r9002 fun a9007 r9008 => scK a9007 fun s9010 => SV.cL s9010 fun l4 => uncA r9008 fun a9013 r9014 => scK a9013 fun s9016 => SV.cL s9016 fun l5 => uncA r9014 fun a9019 r9020 => scK a9019 fun s9022 => SV.cI IntKind.i64 s9022 fun x6 => uncA r9020 fun a9025 r9026 => scK a9025 fun s9028 => SV.cI IntKind.i64 s9028 fun x7 => uncA r9026 fun a9031 r9032 => scK a9031 fun s9034 => SV.cL s9034 fun l33 => uncA r9032 fun a9037 r9038 => scK a9037 fun s9040 => SV.cI IntKind.i64 s9040 fun x34 => uncA r9038 fun a9043 r9044 => scK a9043 fun s9046 => SV.cI IntKind.i64 s9046 fun x35 => uncA r9044 fun a9049 r9050 => scK a9049 fun s9052 => SV.cL s9052 fun l63 => uncA r9050 fun a9055 r9056 => scK a9055 fun s9058 => SV.cI IntKind.i64 s9058 fun x64 => uncA r9056 fun a9061 r9062 => scK a9061 fun s9064 => SV.cI IntKind.i64 s9064 fun x65 => uncA r9062 fun a9067 r9068 => scK a9067 fun s9070 => SV.cL s9070 fun l75 => uncA r9068 fun a9073 r9074 => scK a9073 fun s9076 => SV.cI IntKind.i64 s9076 fun x76 => uncA r9074 fun a9079 r9080 => scK a9079 fun s9082 => SV.cI IntKind.i64 s9082 fun x77 => uncA r9080 fun a9085 r9086 => scK a9085 fun s9088 => SV.cB s9088 fun c102 => endL r9086 <| F8_23 D J p3 l4 l5 x6 x7 l33 x34 x35 l63 x64 x65 l75 x76 x77 c102 S K
theorem A8_23_ok {D J : Disp} (hD : DOK GraphP GraphG D) (hJ : JOK GraphP GraphG Go.Proofs.Try.f8 T8 J) {vals : List AV} {S : St} {K : AV → St → Prop} (h0 : A8_23 D J vals S K) : Runs GraphP GraphG Go.Proofs.Try.f8 (T8 23).1 (envOf (T8 23).2 vals) S K := by
  obtain ⟨a9001, r9002, rfl, h3⟩ := uncA_some h0
  obtain ⟨s9004, rfl, h5⟩ := scK_some h3
  obtain ⟨p3, rfl, h6⟩ := cP_some h5
  obtain ⟨a9007, r9008, rfl, h9⟩ := uncA_some h6
  obtain ⟨s9010, rfl, h11⟩ := scK_some h9
  obtain ⟨l4, rfl, h12⟩ := cL_some h11
  obtain ⟨a9013, r9014, rfl, h15⟩ := uncA_some h12
  obtain ⟨s9016, rfl, h17⟩ := scK_some h15
  obtain ⟨l5, rfl, h18⟩ := cL_some h17
  obtain ⟨a9019, r9020, rfl, h21⟩ := uncA_some h18
  obtain ⟨s9022, rfl, h23⟩ := scK_some h21
  obtain ⟨x6, rfl, h24⟩ := cI_some h23
  obtain ⟨a9025, r9026, rfl, h27⟩ := uncA_some h24
  obtain ⟨s9028, rfl, h29⟩ := scK_some h27
  obtain ⟨x7, rfl, h30⟩ := cI_some h29
  obtain ⟨a9031, r9032, rfl, h33⟩ := uncA_some h30
  obtain ⟨s9034, rfl, h35⟩ := scK_some h33
  obtain ⟨l33, rfl, h36⟩ := cL_some h35
  obtain ⟨a9037, r9038, rfl, h39⟩ := uncA_some h36
  obtain ⟨s9040, rfl, h41⟩ := scK_some h39
  obtain ⟨x34, rfl, h42⟩ := cI_some h41
  obtain ⟨a9043, r9044, rfl, h45⟩ := uncA_some h42
  obtain ⟨s9046, rfl, h47⟩ := scK_some h45
  obtain ⟨x35, rfl, h48⟩ := cI_some h47
  obtain ⟨a9049, r9050, rfl, h51⟩ := uncA_some h48
  obtain ⟨s9052, rfl, h53⟩ := scK_some h51
  obtain ⟨l63, rfl, h54⟩ := cL_some h53
  obtain ⟨a9055, r9056, rfl, h57⟩ := uncA_some h54
  obtain ⟨s9058, rfl, h59⟩ := scK_some h57
  obtain ⟨x64, rfl, h60⟩ := cI_some h59
  obtain ⟨a9061, r9062, rfl, h63⟩ := uncA_some h60
  obtain ⟨s9064, rfl, h65⟩ := scK_some h63
  obtain ⟨x65, rfl, h66⟩ := cI_some h65
  obtain ⟨a9067, r9068, rfl, h69⟩ := uncA_some h66
  obtain ⟨s9070, rfl, h71⟩ := scK_some h69
  obtain ⟨l75, rfl, h72⟩ := cL_some h71
  obtain ⟨a9073, r9074, rfl, h75⟩ := uncA_some h72
  obtain ⟨s9076, rfl, h77⟩ := scK_some h75
  obtain ⟨x76, rfl, h78⟩ := cI_some h77
  obtain ⟨a9079, r9080, rfl, h81⟩ := uncA_some h78
  obtain ⟨s9082, rfl, h83⟩ := scK_some h81
  obtain ⟨x77, rfl, h84⟩ := cI_some h83
  obtain ⟨a9085, r9086, rfl, h87⟩ := uncA_some h84
  obtain ⟨s9088, rfl, h89⟩ := scK_some h87
  obtain ⟨c102, rfl, h90⟩ := cB_some h89
  obtain ⟨rfl, h91⟩ := endL_some h90
  rw [F8_23_eq] at h91
  exact execK_runs hD.typed Graph_zero Graph_mixed hJ X8_23 (T8 23).1 (envOf (T8 23).2 _) S K (chk_of (by kernel_rfl) (by kernel_rfl)) h91
noncomputable def J8 (D : Disp) (k : Nat) : Disp := Nat.rec (motive := fun _ => Disp) Disp.no (fun _ ih => Disp.add 0 (A8_0 D ih) <| Disp.add 4 (A8_4 D ih) <| Disp.add 8 (A8_8 D ih) <| Disp.add 12 (A8_12 D ih) <| Disp.add 13 (A8_13 D ih) <| Disp.add 15 (A8_15 D ih) <| Disp.add 19 (A8_19 D ih) <| Disp.add 23 (A8_23 D ih) <| Disp.no) k
theorem J8_ok {D : Disp} (hD : DOK GraphP GraphG D) : ∀ k, JOK GraphP GraphG Go.Proofs.Try.f8 T8 (J8 D k)
  | 0 => JOK.no
  | k + 1 => JOK.add (ltB_ok (by kernel_rfl)) (fun vals S K h => A8_0_ok hD (J8_ok hD k) h) <| JOK.add (ltB_ok (by kernel_rfl)) (fun vals S K h => A8_4_ok hD (J8_ok hD k) h) <| JOK.add (ltB_ok (by kernel_rfl)) (fun vals S K h => A8_8_ok hD (J8_ok hD k) h) <| JOK.add (ltB_ok (by kernel_rfl)) (fun vals S K h => A8_12_ok hD (J8_ok hD k) h) <| JOK.add (ltB_ok (by kernel_rfl)) (fun vals S K h => A8_13_ok hD (J8_ok hD k) h) <| JOK.add (ltB_ok (by kernel_rfl)) (fun vals S K h => A8_15_ok hD (J8_ok hD k) h) <| JOK.add (ltB_ok (by kernel_rfl)) (fun vals S K h => A8_19_ok hD (J8_ok hD k) h) <| JOK.add (ltB_ok (by kernel_rfl)) (fun vals S K h => A8_23_ok hD (J8_ok hD k) h) <| JOK.no
theorem E8_ok {D : Disp} (hD : DOK GraphP GraphG D) (k : Nat) {args : List AV} {S : St} {K : AV → St → Prop} (h : A8_0 D (J8 D k) args S K) : CallOK GraphP GraphG 8 args S K := by
  have hr := A8_0_ok hD (J8_ok hD k) h
  have hl : args.length = 1 := by
    have h0 := h
    obtain ⟨a9001, r9002, rfl, h3⟩ := uncA_some h0
    obtain ⟨l9004, rfl, h5⟩ := avA_some h3
    obtain ⟨s9006, r9007, rfl, h8⟩ := uncK_some h5
    obtain ⟨l0_0, rfl, h9⟩ := cL_some h8
    obtain ⟨s9010, r9011, rfl, h12⟩ := uncK_some h9
    obtain ⟨l0_1, rfl, h13⟩ := cL_some h12
    obtain ⟨s9014, r9015, rfl, h16⟩ := uncK_some h13
    obtain ⟨x0_2, rfl, h17⟩ := cI_some h16
    obtain ⟨rfl, h18⟩ := endL_some h17
    obtain ⟨rfl, h19⟩ := endL_some h18
    rfl
  refine callOK_of (fn := Go.Proofs.Try.f8) (c := (match Go.Proofs.Try.f8.body with | some c => c | none => .skip)) (by kernel_rfl) (by kernel_rfl) (by kernel_rfl) (by rw [hl]; kernel_rfl) (by kernel_rfl) ?_
  rw [hl]
  exact hr
noncomputable def plans9 (i : Nat) : Plan := if Nat.beq i 6 then [(0, []), (1, []), (2, [0, 1]), (3, [2, 0, 1]), (4, []), (5, []), (6, [4, 5]), (7, [6, 4, 5]), (8, [3, 7, 2, 6, 0, 1, 4, 5])] else []
noncomputable def T9 (p : Nat) : List Item × List Nat := bif Nat.beq p 0 then ([.code (match Go.Proofs.Try.f9.body with | some c => c | none => .skip)], [0, 1]) else
  bif Nat.beq p 6 then (navs [.op, .op, .el, .op] [.code (match Go.Proofs.Try.f9.body with | some c => c | none => .skip)], [0, 1, 5]) else
  ([], [])
noncomputable def F9_0 (D J : Disp) (l0 : LV) (l1 : LV) (S : St) (K : AV → St → Prop) : Prop :=
 let x300 : Int := (Int.ofNat (LV.len l0));
 let x301 : Int := (Int.ofNat (LV.len l1));
 let c302 : Bool := (Bool.not (ieq x300 x301));
 ifK c302
 (K ((AV.one (V1.s (SV.bool Bool.false)))) S)
 (J 6 [(AV.one (V1.s (SV.sl l0))), (AV.one (V1.s (SV.sl l1))), (AV.one (V1.s (SV.int IntKind.i64 (0 : Int))))] S K)
noncomputable def X9_0 : X := (.op (.op (.br (.op .ret) (.op (.jmp 6 [0, 1, 5])))))
theorem F9_0_eq (D J : Disp) (l0 : LV) (l1 : LV) (S : St) (K : AV → St → Prop) : F9_0 D J l0 l1 S K = execK GraphP GraphG Go.Proofs.Try.f9 (typed GraphP D) J plans9 X9_0 (T9 0).1 (envOf (T9 0).2 [(AV.one (V1.s (SV.sl l0))), (AV.one (V1.s (SV.sl l1)))]) S K := by kernel_rfl
noncomputable def F9_6 (D J : Disp) (l0 : LV) (l1 : LV) (x5 : Int) (S : St) (K : AV → St → Prop) : Prop :=
 let x300 : Int := (Int.ofNat (LV.len l0));
 let c301 : Bool := (ilt x5 x300);
 ifK c301
 (LV.cs l0 fun b302 n303 n304 y305 =>
 req (Bool.and (ile (0 : Int) x5) (ilt x5 (Int.ofNat n304))) <|
 let n306 : Nat := (n303 + ((Int.toNat x5) * 1));
 St.at S b302 n306 fun y307 =>
 uncK y307 fun v308 y309 =>
 SV.cI IntKind.i64 v308 fun x313 =>
 LV.cs l1 fun b314 n315 n316 y317 =>
 req (Bool.and (ile (0 : Int) x5) (ilt x5 (Int.ofNat n316))) <|
 let n318 : Nat := (n315 + ((Int.toNat x5) * 1));
 St.at S b314 n318 fun y319 =>
 uncK y319 fun v320 y321 =>
 SV.cI IntKind.i64 v320 fun x325 =>
 let c326 : Bool := (Bool.not (ieq x313 x325));
 ifK c326
 (K ((AV.one (V1.s (SV.bool Bool.false)))) S)
 (let x327 : Int := (iwrap IntKind.i64 (x5 + (1 : Int)));
 J 6 [(AV.one (V1.s (SV.sl l0))), (AV.one (V1.s (SV.sl l1))), (AV.one (V1.s (SV.int IntKind.i64 x327)))] S K))
 (K ((AV.one (V1.s (SV.bool Bool.true)))) S)
noncomputable def X9_6 : X := (.op (.br (.op (.br (.op .ret) (.op (.jmp 6 [0, 1, 5])))) (.op .ret)))
theorem F9_6_eq (D J : Disp) (l0 : LV) (l1 : LV) (x5 : Int) (S : St) (K : AV → St → Prop) : F9_6 D J l0 l1 x5 S K = execK GraphP GraphG Go.Proofs.Try.f9 (typed GraphP D) J plans9 X9_6 (T9 6).1 (envOf (T9 6).2 [(AV.one (V1.s (SV.sl l0))), (AV.one (V1.s (SV.sl l1))), (AV.one (V1.s (SV.int IntKind.i64 x5)))]) S K := by kernel_rfl
noncomputable abbrev A9_0 (D J : Disp) (vals : List AV) (S : St) (K : AV → St → Prop) : Prop :=
  uncA vals fun a9001 r9002 => scK a9001 fun s9004 => SV.cL s9004 fun l0 => uncA r9002 fun a9007 r9008 => scK a9007 fun s9010 => SV.cL s9010 fun l1 => endL r9008 <| F9_0 D J l0 l1 S K
theorem A9_0_ok {D J : Disp} (hD : DOK GraphP GraphG D) (hJ : JOK GraphP GraphG Go.Proofs.Try.f9 T9 J) {vals : List AV} {S : St} {K : AV → St → Prop} (h0 : A9_0 D J vals S K) : Runs GraphP GraphG Go.Proofs.Try.f9 (T9 0).1 (envOf (T9 0).2 vals) S K := by
  obtain ⟨a9001, r9002, rfl, h3⟩ := uncA_some h0
  obtain ⟨s9004, rfl, h5⟩ := scK_some h3
  obtain ⟨l0, rfl, h6⟩ := cL_some h5
  obtain ⟨a9007, r9008, rfl, h9⟩ := uncA_some h6
  obtain ⟨s9010, rfl, h11⟩ := scK_some h9
  obtain ⟨l1, rfl, h12⟩ := cL_some h11
  obtain ⟨rfl, h13⟩ := endL_some h12
  rw [F9_0_eq] at h13
  exact execK_runs hD.typed Graph_zero Graph_mixed hJ X9_0 (T9 0).1 (envOf (T9 0).2 _) S K (chk_of (by kernel_rfl) (by kernel_rfl)) h13
noncomputable abbrev A9_6 (D J : Disp) (vals : List AV) (S : St) (K : AV → St → Prop) : Prop :=
  uncA vals fun a9001 r9002 => scK a9001 fun s9004 => SV.cL s9004 fun l0 => uncA r9002 fun a9007 r9008 => scK a9007 fun s9010 => SV.cL s9010 fun l1 => uncA r9008 fun a9013 r9014 => scK a9013 fun s9016 => SV.cI IntKind.i64 s9016 fun x5 => endL r9014 <| F9_6 D J l0 l1 x5 S K
theorem A9_6_ok {D J : Disp} (hD : DOK GraphP GraphG D) (hJ : JOK GraphP GraphG Go.Proofs.Try.f9 T9 J) {vals : List AV} {S : St} {K : AV → St → Prop} (h0 : A9_6 D J vals S K) : Runs GraphP GraphG Go.Proofs.Try.f9 (T9 6).1 (envOf (T9 6).2 vals) S K := by
  obtain ⟨a9001, r9002, rfl, h3⟩ := uncA_some h0
  obtain ⟨s9004, rfl, h5⟩ := scK_some h3
  obtain ⟨l0, rfl, h6⟩ := cL_some h5
  obtain ⟨a9007, r9008, rfl, h9⟩ := uncA_some h6
  obtain ⟨s9010, rfl, h11⟩ := scK_some h9
  obtain ⟨l1, rfl, h12⟩ := cL_some h11
  obtain ⟨a9013, r9014, rfl, h15⟩ := uncA_some h12
  obtain ⟨s9016, rfl, h17⟩ := scK_some h15
  obtain ⟨x5, rfl, h18⟩ := cI_some h17
  obtain ⟨rfl, h19⟩ := endL_some h18
  rw [F9_6_eq] at h19
  exact execK_runs hD.typed Graph_zero Graph_mixed hJ X9_6 (T9 6).1 (envOf (T9 6).2 _) S K (chk_of (by kernel_rfl) (by kernel_rfl)) h19
noncomputable def J9 (D : Disp) (k : Nat) : Disp := Nat.rec (motive := fun _ => Disp) Disp.no (fun _ ih => Disp.add 0 (A9_0 D ih) <| Disp.add 6 (A9_6 D ih) <| Disp.no) k
theorem J9_ok {D : Disp} (hD : DOK GraphP GraphG D) : ∀ k, JOK GraphP GraphG Go.Proofs.Try.f9 T9 (J9 D k)
  | 0 => JOK.no
  | k + 1 => JOK.add (ltB_ok (by kernel_rfl)) (fun vals S K h => A9_0_ok hD (J9_ok hD k) h) <| JOK.add (ltB_ok (by kernel_rfl)) (fun vals S K h => A9_6_ok hD (J9_ok hD k) h) <| JOK.no
theorem E9_ok {D : Disp} (hD : DOK GraphP GraphG D) (k : Nat) {args : List AV} {S : St} {K : AV → St → Prop} (h : A9_0 D (J9 D k) args S K) : CallOK GraphP GraphG 9 args S K := by
  have hr := A9_0_ok hD (J9_ok hD k) h
  have hl : args.length = 2 := by
    have h0 := h
    obtain ⟨a9001, r9002, rfl, h3⟩ := uncA_some h0
    obtain ⟨s9004, rfl, h5⟩ := scK_some h3
    obtain ⟨l0, rfl, h6⟩ := cL_some h5
    obtain ⟨a9007, r9008, rfl, h9⟩ := uncA_some h6
    obtain ⟨s9010, rfl, h11⟩ := scK_some h9
    obtain ⟨l1, rfl, h12⟩ := cL_some h11
    obtain ⟨rfl, h13⟩ := endL_some h12
    rfl
  refine callOK_of (fn := Go.Proofs.Try.f9) (c := (match Go.Proofs.Try.f9.body with | some c => c | none => .skip)) (by kernel_rfl) (by kernel_rfl) (by kernel_rfl) (by rw [hl]; kernel_rfl) (by kernel_rfl) ?_
  rw [hl]
  exact hr
noncomputable def plans10 (i : Nat) : Plan := if Nat.beq i 6 then [(0, []), (1, []), (2, [0, 1]), (3, [2, 0, 1]), (4, [3, 2, 0, 1]), (5, [4, 3, 2, 0, 1]), (6, [5, 3, 4, 2, 0, 1]), (7, [6, 3, 5, 2, 4, 0, 1]), (8, [3, 2, 0, 1]), (9, [8, 3, 2, 0, 1]), (10, [9, 3, 8, 2, 0, 1]), (11, [10, 3, 9, 2, 8, 0, 1]), (12, [3, 2, 0, 1]), (13, [11, 12, 3, 10, 2, 9, 0, 1, 8]), (14, [13, 3, 11, 12, 2, 10, 0, 1, 9, 8]), (15, [7, 14, 3, 6, 13, 2, 5, 11, 12, 0, 1, 4, 10, 9, 8]), (16, [15, 3, 7, 14, 2, 6, 13, 0, 1, 5, 11, 12, 4, 10, 9, 8]), (17, [16, 3, 15, 2, 7, 14, 0, 1, 6, 13, 5, 11, 12, 4, 10, 9, 8]), (18, [17, 3, 16, 2, 15, 0, 1, 7, 14, 6, 13, 5, 11, 12, 4, 10, 9, 8]), (19, [3, 18, 2, 17, 0, 1, 16, 15, 7, 14, 6, 13, 5, 11, 12, 4, 10, 9, 8])] else []
noncomputable def T10 (p : Nat) : List Item × List Nat := bif Nat.beq p 0 then ([.code (match Go.Proofs.Try.f10.body with | some c => c | none => .skip)], [0]) else
  bif Nat.beq p 4 then (navs [.op, .op, .op, .op] [.code (match Go.Proofs.Try.f10.body with | some c => c | none => .skip)], [3, 4, 14, 15, 16]) else
  bif Nat.beq p 8 then (navs [.op, .op, .op, .op, .op, .th, .op, .op] [.code (match Go.Proofs.Try.f10.body with | some c => c | none => .skip)], [3, 4, 5, 14, 15, 16, 40]) else
  bif Nat.beq p 10 then (navs [.op, .op, .op, .op, .op, .th, .op, .op, .th, .op] [.code (match Go.Proofs.Try.f10.body with | some c => c | none => .skip)], [3, 4, 14, 15, 16]) else
  ([], [])
noncomputable def F10_0 (D J : Disp) (l0_0 : LV) (l0_1 : LV) (x0_2 : Int) (S : St) (K : AV → St → Prop) : Prop :=
 let S300 : St := (St.add S (AO.cells [(SV.sl l0_0), (SV.sl l0_1), (SV.int IntKind.i64 x0_2)] Bool.false));
 St.at S300 (Bk.new (St.next S)) 0 fun y301 =>
 uncK y301 fun v302 y303 =>
 SV.cL v302 fun y310 =>
 uncK y303 fun v311 y312 =>
 SV.cL v311 fun y319 =>
 uncK y312 fun v320 y321 =>
 SV.cI IntKind.i64 v320 fun x325 =>
 D 13 [(AV.one (V1.agg [(SV.sl y310), (SV.sl y319), (SV.int IntKind.i64 x325)]))] S300 fun v326 S327 =>
 scK v326 fun v329 =>
 SV.cL v329 fun y335 =>
 D 16 [(AV.one (V1.s (SV.sl y335)))] S327 fun v336 S337 =>
 scK v336 fun v339 =>
 SV.cP v339 fun y344 =>
 let S345 : St := (St.add S337 (AO.map [] 0));
 PV.cs y344 fun b346 n347 =>
 let n348 : Nat := (n347 + 0);
 St.at S345 b346 n348 fun y349 =>
 uncK y349 fun v350 y351 =>
 SV.cL v350 fun y358 =>
 let x359 : Int := (Int.ofNat (LV.len y358));
 J 4 [(AV.one (V1.s (SV.ptr y344))), (AV.one (V1.s (SV.map (MV.mk (Bk.new (St.next S337)))))), (AV.one (V1.s (SV.sl y358))), (AV.one (V1.s (SV.int IntKind.i64 x359))), (AV.one (V1.s (SV.int IntKind.i64 (0 : Int))))] S345 K
noncomputable def X10_0 : X := (.op (.op (.op (.op (.jmp 4 [3, 4, 14, 15, 16])))))
theorem F10_0_eq (D J : Disp) (l0_0 : LV) (l0_1 : LV) (x0_2 : Int) (S : St) (K : AV → St → Prop) : F10_0 D J l0_0 l0_1 x0_2 S K = execK GraphP GraphG Go.Proofs.Try.f10 (typed GraphP D) J plans10 X10_0 (T10 0).1 (envOf (T10 0).2 [(AV.one (V1.agg [(SV.sl l0_0), (SV.sl l0_1), (SV.int IntKind.i64 x0_2)]))]) S K := by kernel_rfl
noncomputable def F10_4 (D J : Disp) (p3 : PV) (m4 : MV) (l14 : LV) (x15 : Int) (x16 : Int) (S : St) (K : AV → St → Prop) : Prop :=
 let c300 : Bool := (ilt x16 x15);
 ifK c300
 (LV.cs l14 fun b301 n302 n303 y304 =>
 req (Bool.and (ile (0 : Int) x16) (ilt x16 (Int.ofNat n303))) <|
 let n305 : Nat := (n302 + ((Int.toNat x16) * 1));
 St.at S b301 n305 fun y306 =>
 uncK y306 fun v307 y308 =>
 SV.cL v307 fun y315 =>
 D 17 [(AV.one (V1.s (SV.sl y315))), (AV.one (V1.s (SV.int IntKind.i64 x16)))] S fun v316 S317 =>
 scK v316 fun v319 =>
 SV.cB v319 fun y320 =>
 ifK y320
 (J 8 [(AV.one (V1.s (SV.ptr p3))), (AV.one (V1.s (SV.map m4))), (AV.one (V1.s (SV.int IntKind.i64 x16))), (AV.one (V1.s (SV.sl l14))), (AV.one (V1.s (SV.int IntKind.i64 x15))), (AV.one (V1.s (SV.int IntKind.i64 x16))), (AV.one (V1.s (SV.bool Bool.true)))] S317 K)
 (PV.cs p3 fun b321 n322 =>
 let n323 : Nat := (n322 + 7);
 St.at S317 b321 n323 fun y324 =>
 uncK y324 fun v325 y326 =>
 SV.cL v325 fun y333 =>
 PV.cs p3 fun b334 n335 =>
 let n336 : Nat := (n335 + 6);
 St.at S317 b334 n336 fun y337 =>
 uncK y337 fun v338 y339 =>
 SV.cL v338 fun y346 =>
 LV.cs y346 fun b347 n348 n349 y350 =>
 req (Bool.and (ile (0 : Int) x16) (ilt x16 (Int.ofNat n349))) <|
 let n351 : Nat := (n348 + ((Int.toNat x16) * 1));
 St.at S317 b347 n351 fun y352 =>
 uncK y352 fun v353 y354 =>
 SV.cI IntKind.i64 v353 fun x358 =>
 LV.cs y333 fun b359 n360 n361 y362 =>
 req (Bool.and (ile (0 : Int) x358) (ilt x358 (Int.ofNat n361))) <|
 let n363 : Nat := (n360 + ((Int.toNat x358) * 1));
 St.at S317 b359 n363 fun y364 =>
 uncK y364 fun v365 y366 =>
 SV.cL v365 fun y373 =>
 let x374 : Int := (Int.ofNat (LV.len y373));
 let c375 : Bool := (ilt (1 : Int) x374);
 J 8 [(AV.one (V1.s (SV.ptr p3))), (AV.one (V1.s (SV.map m4))), (AV.one (V1.s (SV.int IntKind.i64 x16))), (AV.one (V1.s (SV.sl l14))), (AV.one (V1.s (SV.int IntKind.i64 x15))), (AV.one (V1.s (SV.int IntKind.i64 x16))), (AV.one (V1.s (SV.bool c375)))] S317 K))
 (D 18 [(AV.one (V1.s (SV.map m4)))] S fun v398 S399 =>
 scK v398 fun v401 =>
 SV.cL v401 fun y407 =>
 K ((AV.one (V1.s (SV.sl y407)))) S399)
noncomputable def X10_4 : X := (.op (.br (.op (.op (.jmp 8 [3, 4, 5, 14, 15, 16, 40]))) (.op .ret)))
theorem F10_4_eq (D J : Disp) (p3 : PV) (m4 : MV) (l14 : LV) (x15 : Int) (x16 : Int) (S : St) (K : AV → St → Prop) : F10_4 D J p3 m4 l14 x15 x16 S K = execK GraphP GraphG Go.Proofs.Try.f10 (typed GraphP D) J plans10 X10_4 (T10 4).1 (envOf (T10 4).2 [(AV.one (V1.s (SV.ptr p3))), (AV.one (V1.s (SV.map m4))), (AV.one (V1.s (SV.sl l14))), (AV.one (V1.s (SV.int IntKind.i64 x15))), (AV.one (V1.s (SV.int IntKind.i64 x16)))]) S K := by kernel_rfl
noncomputable def F10_8 (D J : Disp) (p3 : PV) (m4 : MV) (x5 : Int) (l14 : LV) (x15 : Int) (x16 : Int) (c40 : Bool) (S : St) (K : AV → St → Prop) : Prop :=
 ifK c40
 (St.mput GraphP S 3 m4 (V1.s (SV.int IntKind.i64 x5)) (V1.s (SV.bool Bool.true)) fun S300 =>
 J 10 [(AV.one (V1.s (SV.ptr p3))), (AV.one (V1.s (SV.map m4))), (AV.one (V1.s (SV.sl l14))), (AV.one (V1.s (SV.int IntKind.i64 x15))), (AV.one (V1.s (SV.int IntKind.i64 x16)))] S300 K)
 (J 10 [(AV.one (V1.s (SV.ptr p3))), (AV.one (V1.s (SV.map m4))), (AV.one (V1.s (SV.sl l14))), (AV.one (V1.s (SV.int IntKind.i64 x15))), (AV.one (V1.s (SV.int IntKind.i64 x16)))] S K)
noncomputable def X10_8 : X := (.br (.op (.jmp 10 [3, 4, 14, 15, 16])) (.jmp 10 [3, 4, 14, 15, 16]))
theorem F10_8_eq (D J : Disp) (p3 : PV) (m4 : MV) (x5 : Int) (l14 : LV) (x15 : Int) (x16 : Int) (c40 : Bool) (S : St) (K : AV → St → Prop) : F10_8 D J p3 m4 x5 l14 x15 x16 c40 S K = execK GraphP GraphG Go.Proofs.Try.f10 (typed GraphP D) J plans10 X10_8 (T10 8).1 (envOf (T10 8).2 [(AV.one (V1.s (SV.ptr p3))), (AV.one (V1.s (SV.map m4))), (AV.one (V1.s (SV.int IntKind.i64 x5))), (AV.one (V1.s (SV.sl l14))), (AV.one (V1.s (SV.int IntKind.i64 x15))), (AV.one (V1.s (SV.int IntKind.i64 x16))), (AV.one (V1.s (SV.bool c40)))]) S K := by kernel_rfl
noncomputable def F10_10 (D J : Disp) (p3 : PV) (m4 : MV) (l14 : LV) (x15 : Int) (x16 : Int) (S : St) (K : AV → St → Prop) : Prop :=
 let x300 : Int := (iwrap IntKind.i64 (x16 + (1 : Int)));
 J 4 [(AV.one (V1.s (SV.ptr p3))), (AV.one (V1.s (SV.map m4))), (AV.one (V1.s (SV.sl l14))), (AV.one (V1.s (SV.int IntKind.i64 x15))), (AV.one (V1.s (SV.int IntKind.i64 x300)))] S K
noncomputable def X10_10 : X := (.op (.jmp 4 [3, 4, 14, 15, 16]))
theorem F10_10_eq (D J : Disp) (p3 : PV) (m4 : MV) (l14 : LV) (x15 : Int) (x16 : Int) (S : St) (K : AV → St → Prop) : F10_10 D J p3 m4 l14 x15 x16 S K = execK GraphP GraphG Go.Proofs.Try.f10 (typed GraphP D) J plans10 X10_10 (T10 10).1 (envOf (T10 10).2 [(AV.one (V1.s (SV.ptr p3))), (AV.one (V1.s (SV.map m4))), (AV.one (V1.s (SV.sl l14))), (AV.one (V1.s (SV.int IntKind.i64 x15))), (AV.one (V1.s (SV.int IntKind.i64 x16)))]) S K := by kernel_rfl
noncomputable abbrev A10_0 (D J : Disp) (vals : List AV) (S : St) (K : AV → St → Prop) : Prop :=
  uncA vals fun a9001 r9002 => avA a9001 fun l9004 => uncK l9004 fun s9006 r9007 => SV.cL s9006 fun l0_0 => uncK r9007 fun s9010 r9011 => SV.cL s9010 fun l0_1 => uncK r9011 fun s9014 r9015 => SV.cI IntKind.i64 s9014 fun x0_2 => endL r9015 <| endL r9002 <| F10_0 D J l0_0 l0_1 x0_2 S K
theorem A10_0_ok {D J : Disp} (hD : DOK GraphP GraphG D) (hJ : JOK GraphP GraphG Go.Proofs.Try.f10 T10 J) {vals : List AV} {S : St} {K : AV → St → Prop} (h0 : A10_0 D J vals S K) : Runs GraphP GraphG Go.Proofs.Try.f10 (T10 0).1 (envOf (T10 0).2 vals) S K := by
  obtain ⟨a9001, r9002, rfl, h3⟩ := uncA_some h0
  obtain ⟨l9004, rfl, h5⟩ := avA_some h3
  obtain ⟨s9006, r9007, rfl, h8⟩ := uncK_some h5
  obtain ⟨l0_0, rfl, h9⟩ := cL_some h8
  obtain ⟨s9010, r9011, rfl, h12⟩ := uncK_some h9
  obtain ⟨l0_1, rfl, h13⟩ := cL_some h12
  obtain ⟨s9014, r9015, rfl, h16⟩ := uncK_some h13
  obtain ⟨x0_2, rfl, h17⟩ := cI_some h16
  obtain ⟨rfl, h18⟩ := endL_some h17
  obtain ⟨rfl, h19⟩ := endL_some h18
  rw [F10_0_eq] at h19
  exact execK_runs hD.typed Graph_zero Graph_mixed hJ X10_0 (T10 0).1 (envOf (T10 0).2 _) S K (chk_of (by kernel_rfl) (by kernel_rfl)) h19
noncomputable abbrev A10_4 (D J : Disp) (vals : List AV) (S : St) (K : AV → St → Prop) : Prop :=
  uncA vals fun a9001 r9002 => scK a9001 fun s9004 => SV.cP s9004 fun p3 => uncA r9002 fun a9007 r9008 => scK a9007 fun s9010 => SV.cM s9010 fun m4 => uncA r9008 fun a9013 r9014 => scK a9013 fun s9016 => SV.cL s9016 fun l14 => uncA r9014 fun a9019 r9020 => scK a9019 fun s9022 => SV.cI IntKind.i64 s9022 fun x15 => uncA r9020 fun a9025 r9026 => scK a9025 fun s9028 => SV.cI IntKind.i64 s9028 fun x16 => endL r9026 <| F10_4 D J p3 m4 l14 x15 x16 S K
theorem A10_4_ok {D J : Disp} (hD : DOK GraphP GraphG D) (hJ : JOK GraphP GraphG Go.Proofs.Try.f10 T10 J) {vals : List AV} {S : St} {K : AV → St → Prop} (h0 : A10_4 D J vals S K) : Runs GraphP GraphG Go.Proofs.Try.f10 (T10 4).1 (envOf (T10 4).2 vals) S K := by
  obtain ⟨a9001, r9002, rfl, h3⟩ := uncA_some h0
  obtain ⟨s9004, rfl, h5⟩ := scK_some h3
  obtain ⟨p3, rfl, h6⟩ := cP_some h5
  obtain ⟨a9007, r9008, rfl, h9⟩ := uncA_some h6
  obtain ⟨s9010, rfl, h11⟩ := scK_some h9
  obtain ⟨m4, rfl, h12⟩ := cM_some h11
  obtain ⟨a9013, r9014, rfl, h15⟩ := uncA_some h12
  obtain ⟨s9016, rfl, h17⟩ := scK_some h15
  obtain ⟨l14, rfl, h18⟩ := cL_some h17
  obtain ⟨a9019, r9020, rfl, h21⟩ := uncA_some h18
  obtain ⟨s9022, rfl, h23⟩ := scK_some h21
  obtain ⟨x15, rfl, h24⟩ := cI_some h23
  obtain ⟨a9025, r9026, rfl, h27⟩ := uncA_some h24
  obtain ⟨s9028, rfl, h29⟩ := scK_some h27
  obtain ⟨x16, rfl, h30⟩ := cI_some h29
  obtain ⟨rfl, h31⟩ := endL_some h30
  rw [F10_4_eq] at h31
  exact execK_runs hD.typed Graph_zero Graph_mixed hJ X10_4 (T10 4).1 (envOf (T10 4).2 _) S K (chk_of (by kernel_rfl) (by kernel_rfl)) h31
noncomputable abbrev A10_8 (D J : Disp) (vals : List AV) (S : St) (K : AV → St → Prop) : Prop :=
  uncA vals fun a9001 r9002 => scK a9001 fun s9004 => SV.cP s9004 fun p3 => uncA r9002 fun a9007 r9008 => scK a9007 fun s9010 => SV.cM s9010 fun m4 => uncA r9008 fun a9013 r9014 => scK a9013 fun s9016 => SV.cI IntKind.i64 s9016 fun x5 => uncA r9014 fun a9019 r9020 => scK a9019 fun s9022 => SV.cL s9022 fun l14 => uncA r9020 fun a9025 r9026 => scK a9025 fun s9028 => SV.cI IntKind.i64 s9028 fun x15 => uncA r9026 fun a9031 r9032 => scK a9031 fun s9034 => SV.cI IntKind.i64 s9034 fun x16 => uncA r9032 fun a9037 r9038 => scK a9037 fun s9040 => SV.cB s9040 fun c40 => endL r9038 <| F10_8 D J p3 m4 x5 l14 x15 x16 c40 S K
theorem A10_8_ok {D J : Disp} (hD : DOK GraphP GraphG D) (hJ : JOK GraphP GraphG Go.Proofs.Try.f10 T10 J) {vals : List AV} {S : St} {K : AV → St → Prop} (h0 : A10_8 D J vals S K) : Runs GraphP GraphG Go.Proofs.Try.f10 (T10 8).1 (envOf (T10 8).2 vals) S K := by
  obtain ⟨a9001, r9002, rfl, h3⟩ := uncA_some h0
  obtain ⟨s9004, rfl, h5⟩ := scK_some h3
  obtain ⟨p3, rfl, h6⟩ := cP_some h5
  obtain ⟨a9007, r9008, rfl, h9⟩ := uncA_some h6
  obtain ⟨s9010, rfl, h11⟩ := scK_some h9
  obtain ⟨m4, rfl, h12⟩ := cM_some h11
  obtain ⟨a9013, r9014, rfl, h15⟩ := uncA_some h12
  obtain ⟨s9016, rfl, h17⟩ := scK_some h15
  obtain ⟨x5, rfl, h18⟩ := cI_some h17
  obtain ⟨a9019, r9020, rfl, h21⟩ := uncA_some h18
  obtain ⟨s9022, rfl, h23⟩ := scK_some h21
  obtain ⟨l14, rfl, h24⟩ := cL_some h23
  obtain ⟨a9025, r9026, rfl, h27⟩ := uncA_some h24
  obtain ⟨s9028, rfl, h29⟩ := scK_some h27
  obtain ⟨x15, rfl, h30⟩ := cI_some h29
  obtain ⟨a9031, r9032, rfl, h33⟩ := uncA_some h30
  obtain ⟨s9034, rfl, h35⟩ := scK_some h33
  obtain ⟨x16, rfl, h36⟩ := cI_some h35
  obtain ⟨a9037, r9038, rfl, h39⟩ := uncA_some h36
  obtain ⟨s9040, rfl, h41⟩ := scK_some h39
  obtain ⟨c40, rfl, h42⟩ := cB_some h41
  obtain ⟨rfl, h43⟩ := endL_some h42
  rw [F10_8_eq] at h43
  exact execK_runs hD.typed Graph_zero Graph_mixed hJ X10_8 (T10 8).1 (envOf (T10 8).2 _) S K (chk_of (by kernel_rfl) (by kernel_rfl)) h43
noncomputable abbrev A10_10 (D J : Disp) (vals : List AV) (S : St) (K : AV → St → Prop) : Prop :=
  uncA vals fun a9001 r9002 => scK a9001 fun s9004 => SV.cP s9004 fun p3 => uncA r9002 fun a9007 r9008 => scK a9007 fun s9010 => SV.cM s9010 fun m4 => uncA r9008 fun a9013 r9014 => scK a9013 fun s9016 => SV.cL s9016 fun l14 => uncA r9014 fun a9019 r9020 => scK a9019 fun s9022 => SV.cI IntKind.i64 s9022 fun x15 => uncA r9020 fun a9025 r9026 => scK a9025 fun s9028 => SV.cI IntKind.i64 s9028 fun x16 => endL r9026 <| F10_10 D J p3 m4 l14 x15 x16 S K
theorem A10_10_ok {D J : Disp} (hD : DOK GraphP GraphG D) (hJ : JOK GraphP GraphG Go.Proofs.Try.f10 T10 J) {vals : List AV} {S : St} {K : AV → St → Prop} (h0 : A10_10 D J vals S K) : Runs GraphP GraphG Go.Proofs.Try.f10 (T10 10).1 (envOf (T10 10).2 vals) S K := by
  obtain ⟨a9001, r9002, rfl, h3⟩ := uncA_some h0
  obtain ⟨s9004, rfl, h5⟩ := scK_some h3
  obtain ⟨p3, rfl, h6⟩ := cP_some h5
  obtain ⟨a9007, r9008, rfl, h9⟩ := uncA_some h6
  obtain ⟨s9010, rfl, h11⟩ := scK_some h9
  obtain ⟨m4, rfl, h12⟩ := cM_some h11
  obtain ⟨a9013, r9014, rfl, h15⟩ := uncA_some h12
  obtain ⟨s9016, rfl, h17⟩ := scK_some h15
  obtain ⟨l14, rfl, h18⟩ := cL_some h17
  obtain ⟨a9019, r9020, rfl, h21⟩ := uncA_some h18
  obtain ⟨s9022, rfl, h23⟩ := scK_some h21
  obtain ⟨x15, rfl, h24⟩ := cI_some h23
  obtain ⟨a9025, r9026, rfl, h27⟩ := uncA_some h24
  obtain ⟨s9028, rfl, h29⟩ := scK_some h27
  obtain ⟨x16, rfl, h30⟩ := cI_some h29
  obtain ⟨rfl, h31⟩ := endL_some h30
  rw [F10_10_eq] at h31
  exact execK_runs hD.typed Graph_zero Graph_mixed hJ X10_10 (T10 10).1 (envOf (T10 10).2 _) S K (chk_of (by kernel_rfl) (by kernel_rfl)) h31
noncomputable def J10 (D : Disp) (k : Nat) : Disp := Nat.rec (motive := fun _ => Disp) Disp.no (fun _ ih => Disp.add 0 (A10_0 D ih) <| Disp.add 4 (A10_4 D ih) <| Disp.add 8 (A10_8 D ih) <| Disp.add 10 (A10_10 D ih) <| Disp.no) k
theorem J10_ok {D : Disp} (hD : DOK GraphP GraphG D) : ∀ k, JOK GraphP GraphG Go.Proofs.Try.f10 T10 (J10 D k)
  | 0 => JOK.no
  | k + 1 => JOK.add (ltB_ok (by kernel_rfl)) (fun vals S K h => A10_0_ok hD (J10_ok hD k) h) <| JOK.add (ltB_ok (by kernel_rfl)) (fun vals S K h => A10_4_ok hD (J10_ok hD k) h) <| JOK.add (ltB_ok (by kernel_rfl)) (fun vals S K h => A10_8_ok hD (J10_ok hD k) h) <| JOK.add (ltB_ok (by kernel_rfl)) (fun vals S K h => A10_10_ok hD (J10_ok hD k) h) <| JOK.no
theorem E10_ok {D : Disp} (hD : DOK GraphP GraphG D) (k : Nat) {args : List AV} {S : St} {K : AV → St → Prop} (h : A10_0 D (J10 D k) args S K) : CallOK GraphP GraphG 10 args S K := by
  have hr := A10_0_ok hD (J10_ok hD k) h
  have hl : args.length = 1 := by
    have h0 := h
    obtain ⟨a9001, r9002, rfl, h3⟩ := uncA_some h0
    obtain ⟨l9004, rfl, h5⟩ := avA_some h3
    obtain ⟨s9006, r9007, rfl, h8⟩ := uncK_some h5
    obtain ⟨l0_0, rfl, h9⟩ := cL_some h8
    obtain ⟨s9010, r9011, rfl, h12⟩ := uncK_some h9
    obtain ⟨l0_1, rfl, h13⟩ := cL_some h12
    obtain ⟨s9014, r9015, rfl, h16⟩ := uncK_some h13
    obtain ⟨x0_2, rfl, h17⟩ := cI_some h16
    obtain ⟨rfl, h18⟩ := endL_some h17
    obtain ⟨rfl, h19⟩ := endL_some h18
    rfl
  refine callOK_of (fn := Go.Proofs.Try.f10) (c := (match Go.Proofs.Try.f10.body with | some c => c | none => .skip)) (by kernel_rfl) (by kernel_rfl) (by kernel_rfl) (by rw [hl]; kernel_rfl) (by kernel_rfl) ?_
  rw [hl]
  exact hr
noncomputable def plans11 (i : Nat) : Plan := if Nat.beq i 9 then [(0, []), (1, []), (4, []), (5, [4]), (6, [5, 4]), (2, [1]), (3, [2, 1]), (7, [3, 6, 2, 5, 1, 4]), (8, [0, 7, 3, 6, 2, 5, 1, 4]), (9, [8, 0, 7, 3, 6, 2, 5, 1, 4]), (10, [9, 0, 1, 2, 3, 4, 5, 6, 7, 8])] else []
noncomputable def T11 (p : Nat) : List Item × List Nat := bif Nat.beq p 0 then ([.code (match Go.Proofs.Try.f11.body with | some c => c | none => .skip)], [0]) else
  bif Nat.beq p 7 then (navs [.op, .op, .op, .el, .op] [.code (match Go.Proofs.Try.f11.body with | some c => c | none => .skip)], [1, 3, 11, 12, 13]) else
  ([], [])
noncomputable def F11_0 (D J : Disp) (l0_0 : LV) (l0_1 : LV) (x0_2 : Int) (S : St) (K : AV → St → Prop) : Prop :=
 let S300 : St := (St.add S (AO.cells [(SV.sl l0_0), (SV.sl l0_1), (SV.int IntKind.i64 x0_2)] Bool.false));
 St.at S300 (Bk.new (St.next S)) 0 fun y301 =>
 uncK y301 fun v302 y303 =>
 SV.cL v302 fun y310 =>
 uncK y303 fun v311 y312 =>
 SV.cL v311 fun y319 =>
 uncK y312 fun v320 y321 =>
 SV.cI IntKind.i64 v320 fun x325 =>
 D 13 [(AV.one (V1.agg [(SV.sl y310), (SV.sl y319), (SV.int IntKind.i64 x325)]))] S300 fun v326 S327 =>
 scK v326 fun v329 =>
 SV.cL v329 fun y335 =>
 let S336 : St := (St.add S327 (AO.cells [(SV.sl LV.nil)] Bool.false));
 St.wr S336 (Bk.new (St.next S327)) 0 [(SV.sl y335)] fun S337 =>
 St.at S337 (Bk.new (St.next S327)) 0 fun y338 =>
 uncK y338 fun v339 y340 =>
 SV.cL v339 fun y347 =>
 optK (eqA GraphP 1 29 (V1.s (SV.sl y347)) (V1.s (SV.sl LV.nil))) fun y348 =>
 ifK y348
 (K ((AV.one (V1.s (SV.sl LV.nil)))) S337)
 (St.at S337 (Bk.new (St.next S)) 1 fun y349 =>
 uncK y349 fun v350 y351 =>
 SV.cL v350 fun y358 =>
 let x359 : Int := (Int.ofNat (LV.len y358));
 J 7 [(AV.one (V1.s (SV.ptr (PV.mk (Bk.new (St.next S)) 0)))), (AV.one (V1.s (SV.ptr (PV.mk (Bk.new (St.next S327)) 0)))), (AV.one (V1.s (SV.sl y358))), (AV.one (V1.s (SV.int IntKind.i64 x359))), (AV.one (V1.s (SV.int IntKind.i64 (0 : Int))))] S337 K)
noncomputable def X11_0 : X := (.op (.op (.op (.br (.op .ret) (.op (.jmp 7 [1, 3, 11, 12, 13]))))))
theorem F11_0_eq (D J : Disp) (l0_0 : LV) (l0_1 : LV) (x0_2 : Int) (S : St) (K : AV → St → Prop) : F11_0 D J l0_0 l0_1 x0_2 S K = execK GraphP GraphG Go.Proofs.Try.f11 (typed GraphP D) J plans11 X11_0 (T11 0).1 (envOf (T11 0).2 [(AV.one (V1.agg [(SV.sl l0_0), (SV.sl l0_1), (SV.int IntKind.i64 x0_2)]))]) S K := by kernel_rfl
noncomputable def F11_7 (D J : Disp) (p1 : PV) (p3 : PV) (l11 : LV) (x12 : Int) (x13 : Int) (S : St) (K : AV → St → Prop) : Prop :=
 let c300 : Bool := (ilt x13 x12);
 ifK c300
 (LV.cs l11 fun b301 n302 n303 y304 =>
 req (Bool.and (ile (0 : Int) x13) (ilt x13 (Int.ofNat n303))) <|
 let n305 : Nat := (n302 + ((Int.toNat x13) * 6));
 St.at S b301 n305 fun y306 =>
 uncK y306 fun v307 y308 =>
 SV.cS v307 fun y313 =>
 uncK y308 fun v314 y315 =>
 SV.cI IntKind.i64 v314 fun x319 =>
 uncK y315 fun v320 y321 =>
 SV.cI IntKind.i64 v320 fun x325 =>
 uncK y321 fun v326 y327 =>
 SV.cL v326 fun y334 =>
 uncK y327 fun v335 y336 =>
 SV.cL v335 fun y343 =>
 uncK y336 fun v344 y345 =>
 SV.cB v344 fun y347 =>
 let S348 : St := (St.add S (AO.cells [(SV.int IntKind.i64 (0 : Int))] Bool.false));
 let S349 : St := (St.add S348 (AO.cells [(SV.str []), (SV.int IntKind.i64 (0 : Int)), (SV.int IntKind.i64 (0 : Int)), (SV.sl LV.nil), (SV.sl LV.nil), (SV.bool Bool.false)] Bool.false));
 St.wr S349 (Bk.new (St.next S)) 0 [(SV.int IntKind.i64 x13)] fun S350 =>
 St.wr S350 (Bk.new (St.next S348)) 0 [(SV.str y313), (SV.int IntKind.i64 x319), (SV.int IntKind.i64 x325), (SV.sl y334), (SV.sl y343), (SV.bool y347)] fun S351 =>
 St.at S351 (Bk.new (St.next S348)) 0 fun y352 =>
 uncK y352 fun v353 y354 =>
 SV.cS v353 fun y359 =>
 uncK y354 fun v360 y361 =>
 SV.cI IntKind.i64 v360 fun x365 =>
 uncK y361 fun v366 y367 =>
 SV.cI IntKind.i64 v366 fun x371 =>
 uncK y367 fun v372 y373 =>
 SV.cL v372 fun y380 =>
 uncK y373 fun v381 y382 =>
 SV.cL v381 fun y389 =>
 uncK y382 fun v390 y391 =>
 SV.cB v390 fun y393 =>
 PV.cs p3 fun b394 n395 =>
 D 19 [(AV.one (V1.agg [(SV.str y359), (SV.int IntKind.i64 x365), (SV.int IntKind.i64 x371), (SV.sl y380), (SV.sl y389), (SV.bool y393)])), (AV.one (V1.s (SV.fn (FV.mk (Fn.func 20) [] [(Prod.mk b394 n395), (Prod.mk (Bk.new (St.next S)) 0)]))))] S351 fun v396 S397 =>
 avT v396 fun y399 =>
 endL y399 (let x400 : Int := (iwrap IntKind.i64 (x13 + (1 : Int)));
 J 7 [(AV.one (V1.s (SV.ptr p1))), (AV.one (V1.s (SV.ptr p3))), (AV.one (V1.s (SV.sl l11))), (AV.one (V1.s (SV.int IntKind.i64 x12))), (AV.one (V1.s (SV.int IntKind.i64 x400)))] S397 K))
 (PV.cs p3 fun b454 n455 =>
 St.at S b454 n455 fun y456 =>
 uncK y456 fun v457 y458 =>
 SV.cL v457 fun y465 =>
 PV.cs p1 fun b466 n467 =>
 St.at S b466 n467 fun y468 =>
 uncK y468 fun v469 y470 =>
 SV.cL v469 fun y477 =>
 uncK y470 fun v478 y479 =>
 SV.cL v478 fun y486 =>
 uncK y479 fun v487 y488 =>
 SV.cI IntKind.i64 v487 fun x492 =>
 PV.cs p1 fun b493 n494 =>
 let n495 : Nat := (n494 + 2);
 St.at S b493 n495 fun y496 =>
 uncK y496 fun v497 y498 =>
 SV.cI IntKind.i64 v497 fun x502 =>
 let o503 : AO := (AO.cells [(SV.int IntKind.i64 x502)] Bool.false);
 let d504 : (Sum Nat Nat) := (Sum.inl 1);
 let S505 : St := (mat S (Nat.succ (St.next S)) []);
 D 22 [(AV.one (V1.agg [(SV.sl y477), (SV.sl y486), (SV.int IntKind.i64 x492)]))] S505 fun v506 S507 =>
 scK v506 fun v509 =>
 SV.cM v509 fun y516 =>
 St.at S507 b493 n495 fun y517 =>
 uncK y517 fun v518 y519 =>
 SV.cI IntKind.i64 v518 fun x523 =>
 req (sameAV (AV.one (V1.s (SV.int IntKind.i64 x523))) (AV.one (V1.s (SV.int IntKind.i64 x502)))) <|
 PV.cs p3 fun b524 n525 =>
 St.at S507 b524 n525 fun y526 =>
 uncK y526 fun v527 y528 =>
 SV.cL v527 fun y535 =>
 req (sameAV (AV.one (V1.s (SV.sl y535))) (AV.one (V1.s (SV.sl y465)))) <|
 let S536 : St := (mat S507 (St.next S507) []);
 D 18 [(AV.one (V1.s (SV.map y516)))] S536 fun v537 S538 =>
 scK v537 fun v540 =>
 SV.cL v540 fun y546 =>
 St.at S538 b493 n495 fun y547 =>
 uncK y547 fun v548 y549 =>
 SV.cI IntKind.i64 v548 fun x553 =>
 req (sameAV (AV.one (V1.s (SV.int IntKind.i64 x553))) (AV.one (V1.s (SV.int IntKind.i64 x502)))) <|
 PV.cs p3 fun b554 n555 =>
 St.at S538 b554 n555 fun y556 =>
 uncK y556 fun v557 y558 =>
 SV.cL v557 fun y565 =>
 req (sameAV (AV.one (V1.s (SV.sl y565))) (AV.one (V1.s (SV.sl y465)))) <|
 let S566 : St := (mat S538 (St.next S538) [(Prod.mk 6 (Prod.mk (St.next S) o503))]);
 St.src S566 1 (LV.mk (Bk.new (St.next S)) 0 1 d504) fun y567 n568 =>
 St.app S566 1 8 y546 y567 n568 fun y569 S570 =>
 PV.cs p3 fun b571 n572 =>
 St.at S570 b571 n572 fun y573 =>
 uncK y573 fun v574 y575 =>
 SV.cL v574 fun y582 =>
 req (sameAV (AV.one (V1.s (SV.sl y582))) (AV.one (V1.s (SV.sl y465)))) <|
 D 21 [(AV.one (V1.s (SV.sl y465))), (AV.one (V1.s (SV.sl y569)))] S570 fun v583 S584 =>
 scK v583 fun v586 =>
 SV.cM v586 fun y593 =>
 D 18 [(AV.one (V1.s (SV.map y593)))] S584 fun v594 S595 =>
 scK v594 fun v597 =>
 SV.cL v597 fun y603 =>
 K ((AV.one (V1.s (SV.sl y603)))) S595)
noncomputable def X11_7 : X := (.op (.br (.op (.op (.op (.jmp 7 [1, 3, 11, 12, 13])))) (.op .ret)))
theorem F11_7_eq (D J : Disp) (p1 : PV) (p3 : PV) (l11 : LV) (x12 : Int) (x13 : Int) (S : St) (K : AV → St → Prop) : F11_7 D J p1 p3 l11 x12 x13 S K = execK GraphP GraphG Go.Proofs.Try.f11 (typed GraphP D) J plans11 X11_7 (T11 7).1 (envOf (T11 7).2 [(AV.one (V1.s (SV.ptr p1))), (AV.one (V1.s (SV.ptr p3))), (AV.one (V1.s (SV.sl l11))), (AV.one (V1.s (SV.int IntKind.i64 x12))), (AV.one (V1.s (SV.int IntKind.i64 x13)))]) S K := by kernel_rfl
noncomputable abbrev A11_0 (D J : Disp) (vals : List AV) (S : St) (K : AV → St → Prop) : Prop :=
  uncA vals fun a9001 r9002 => avA a9001 fun l9004 => uncK l9004 fun s9006 r9007 => SV.cL s9006 fun l0_0 => uncK r9007 fun s9010 r9011 => SV.cL s9010 fun l0_1 => uncK r9011 fun s9014 r9015 => SV.cI IntKind.i64 s9014 fun x0_2 => endL r9015 <| endL r9002 <| F11_0 D J l0_0 l0_1 x0_2 S K
theorem A11_0_ok {D J : Disp} (hD : DOK GraphP GraphG D) (hJ : JOK GraphP GraphG Go.Proofs.Try.f11 T11 J) {vals : List AV} {S : St} {K : AV → St → Prop} (h0 : A11_0 D J vals S K) : Runs GraphP GraphG Go.Proofs.Try.f11 (T11 0).1 (envOf (T11 0).2 vals) S K := by
  obtain ⟨a9001, r9002, rfl, h3⟩ := uncA_some h0
  obtain ⟨l9004, rfl, h5⟩ := avA_some h3
  obtain ⟨s9006, r9007, rfl, h8⟩ := uncK_some h5
  obtain ⟨l0_0, rfl, h9⟩ := cL_some h8
  obtain ⟨s9010, r9011, rfl, h12⟩ := uncK_some h9
  obtain ⟨l0_1, rfl, h13⟩ := cL_some h12
  obtain ⟨s9014, r9015, rfl, h16⟩ := uncK_some h13
  obtain ⟨x0_2, rfl, h17⟩ := cI_some h16
  obtain ⟨rfl, h18⟩ := endL_some h17
  obtain ⟨rfl, h19⟩ := endL_some h18
  rw [F11_0_eq] at h19
  exact execK_runs hD.typed Graph_zero Graph_mixed hJ X11_0 (T11 0).1 (envOf (T11 0).2 _) S K (chk_of (by kernel_rfl) (by kernel_rfl)) h19
noncomputable abbrev A11_7 (D J : Disp) (vals : List AV) (S : St) (K : AV → St → Prop) : Prop :=
  uncA vals fun a9001 r9002 => scK a9001 fun s9004 => SV.cP s9004 fun p1 => uncA r9002 fun a9007 r9008 => scK a9007 fun s9010 => SV.cP s9010 fun p3 => uncA r9008 fun a9013 r9014 => scK a9013 fun s9016 => SV.cL s9016 fun l11 => uncA r9014 fun a9019 r9020 => scK a9019 fun s9022 => SV.cI IntKind.i64 s9022 fun x12 => uncA r9020 fun a9025 r9026 => scK a9025 fun s9028 => SV.cI IntKind.i64 s9028 fun x13 => endL r9026 <| F11_7 D J p1 p3 l11 x12 x13 S K
theorem A11_7_ok {D J : Disp} (hD : DOK GraphP GraphG D) (hJ : JOK GraphP GraphG Go.Proofs.Try.f11 T11 J) {vals : List AV} {S : St} {K : AV → St → Prop} (h0 : A11_7 D J vals S K) : Runs GraphP GraphG Go.Proofs.Try.f11 (T11 7).1 (envOf (T11 7).2 vals) S K := by
  obtain ⟨a9001, r9002, rfl, h3⟩ := uncA_some h0
  obtain ⟨s9004, rfl, h5⟩ := scK_some h3
  obtain ⟨p1, rfl, h6⟩ := cP_some h5
  obtain ⟨a9007, r9008, rfl, h9⟩ := uncA_some h6
  obtain ⟨s9010, rfl, h11⟩ := scK_some h9
  obtain ⟨p3, rfl, h12⟩ := cP_some h11
  obtain ⟨a9013, r9014, rfl, h15⟩ := uncA_some h12
  obtain ⟨s9016, rfl, h17⟩ := scK_some h15
  obtain ⟨l11, rfl, h18⟩ := cL_some h17
  obtain ⟨a9019, r9020, rfl, h21⟩ := uncA_some h18
  obtain ⟨s9022, rfl, h23⟩ := scK_some h21
  obtain ⟨x12, rfl, h24⟩ := cI_some h23
  obtain ⟨a9025, r9026, rfl, h27⟩ := uncA_some h24
  obtain ⟨s9028, rfl, h29⟩ := scK_some h27
  obtain ⟨x13, rfl, h30⟩ := cI_some h29
  obtain ⟨rfl, h31⟩ := endL_some h30
  rw [F11_7_eq] at h31
  exact execK_runs hD.typed Graph_zero Graph_mixed hJ X11_7 (T11 7).1 (envOf (T11 7).2 _) S K (chk_of (by kernel_rfl) (by kernel_rfl)) h31
noncomputable def J11 (D : Disp) (k : Nat) : Disp := Nat.rec (motive := fun _ => Disp) Disp.no (fun _ ih => Disp.add 0 (A11_0 D ih) <| Disp.add 7 (A11_7 D ih) <| Disp.no) k
theorem J11_ok {D : Disp} (hD : DOK GraphP GraphG D) : ∀ k, JOK GraphP GraphG Go.Proofs.Try.f11 T11 (J11 D k)
  | 0 => JOK.no
  | k + 1 => JOK.add (ltB_ok (by kernel_rfl)) (fun vals S K h => A11_0_ok hD (J11_ok hD k) h) <| JOK.add (ltB_ok (by kernel_rfl)) (fun vals S K h => A11_7_ok hD (J11_ok hD k) h) <| JOK.no
theorem E11_ok {D : Disp} (hD : DOK GraphP GraphG D) (k : Nat) {args : List AV} {S : St} {K : AV → St → Prop} (h : A11_0 D (J11 D k) args S K) : CallOK GraphP GraphG 11 args S K := by
  have hr := A11_0_ok hD (J11_ok hD k) h
  have hl : args.length = 1 := by
    have h0 := h
    obtain ⟨a9001, r9002, rfl, h3⟩ := uncA_some h0
    obtain ⟨l9004, rfl, h5⟩ := avA_some h3
    obtain ⟨s9006, r9007, rfl, h8⟩ := uncK_some h5
    obtain ⟨l0_0, rfl, h9⟩ := cL_some h8
    obtain ⟨s9010, r9011, rfl, h12⟩ := uncK_some h9
    obtain ⟨l0_1, rfl, h13⟩ := cL_some h12
    obtain ⟨s9014, r9015, rfl, h16⟩ := uncK_some h13
    obtain ⟨x0_2, rfl, h17⟩ := cI_some h16
    obtain ⟨rfl, h18⟩ := endL_some h17
    obtain ⟨rfl, h19⟩ := endL_some h18
    rfl
  refine callOK_of (fn := Go.Proofs.Try.f11) (c := (match Go.Proofs.Try.f11.body with | some c => c | none => .skip)) (by kernel_rfl) (by kernel_rfl) (by kernel_rfl) (by rw [hl]; kernel_rfl) (by kernel_rfl) ?_
  rw [hl]
  exact hr
noncomputable def plans12 (i : Nat) : Plan := []
noncomputable def T12 (p : Nat) : List Item × List Nat := bif Nat.beq p 0 then ([.code (match Go.Proofs.Try.f12.body with | some c => c | none => .skip)], []) else
  ([], [])
noncomputable def F12_0 (D J : Disp)  (S : St) (K : AV → St → Prop) : Prop :=
 D 6 [(AV.one (V1.s (SV.int IntKind.i64 (4 : Int)))), (AV.one (V1.s (SV.int IntKind.i64 (2 : Int))))] S fun v300 S301 =>
 avA v300 fun y304 =>
 req (Nat.beq (List.length y304) 3) <|
 uncK y304 fun v305 y306 =>
 SV.cL v305 fun y313 =>
 uncK y306 fun v314 y315 =>
 SV.cL v314 fun y322 =>
 uncK y315 fun v323 y324 =>
 SV.cI IntKind.i64 v323 fun x328 =>
 let S329 : St := (St.add S301 (AO.cells [(SV.sl LV.nil), (SV.sl LV.nil), (SV.int IntKind.i64 (0 : Int))] Bool.false));
 St.wr S329 (Bk.new (St.next S301)) 0 [(SV.sl y313), (SV.sl y322), (SV.int IntKind.i64 x328)] fun S330 =>
 St.at S330 (Bk.new (St.next S301)) 0 fun y331 =>
 uncK y331 fun v332 y333 =>
 SV.cL v332 fun y340 =>
 uncK y333 fun v341 y342 =>
 SV.cL v341 fun y349 =>
 uncK y342 fun v350 y351 =>
 SV.cI IntKind.i64 v350 fun x355 =>
 D 8 [(AV.one (V1.agg [(SV.sl y340), (SV.sl y349), (SV.int IntKind.i64 x355)]))] S330 fun v356 S357 =>
 scK v356 fun v359 =>
 SV.cL v359 fun y365 =>
 let d366 : (Sum Nat Nat) := (Sum.inl 2);
 let S367 : St := (St.add S357 (AO.cells [(SV.int IntKind.i64 (2 : Int)), (SV.int IntKind.i64 (3 : Int))] Bool.false));
 let d368 : (Sum Nat Nat) := (Sum.inl 1);
 let S369 : St := (St.add S367 (AO.cells [(SV.int IntKind.i64 (1 : Int))] Bool.false));
 let d370 : (Sum Nat Nat) := (Sum.inl 1);
 let S371 : St := (St.add S369 (AO.cells [(SV.int IntKind.i64 (0 : Int))] Bool.false));
 let d372 : (Sum Nat Nat) := (Sum.inl 3);
 let S373 : St := (St.add S371 (AO.cells [(SV.sl (LV.mk (Bk.new (St.next S357)) 0 2 d366)), (SV.sl (LV.mk (Bk.new (St.next S367)) 0 1 d368)), (SV.sl (LV.mk (Bk.new (St.next S369)) 0 1 d370))] Bool.false));
 D 7 [(AV.one (V1.s (SV.sl y365))), (AV.one (V1.s (SV.sl (LV.mk (Bk.new (St.next S371)) 0 3 d372))))] S373 fun v374 S375 =>
 scK v374 fun v377 =>
 SV.cB v377 fun y378 =>
 ifK y378
 (St.at S375 (Bk.new (St.next S301)) 0 fun y379 =>
 uncK y379 fun v380 y381 =>
 SV.cL v380 fun y388 =>
 uncK y381 fun v389 y390 =>
 SV.cL v389 fun y397 =>
 uncK y390 fun v398 y399 =>
 SV.cI IntKind.i64 v398 fun x403 =>
 D 10 [(AV.one (V1.agg [(SV.sl y388), (SV.sl y397), (SV.int IntKind.i64 x403)]))] S375 fun v404 S405 =>
 scK v404 fun v407 =>
 SV.cL v407 fun y413 =>
 let d414 : (Sum Nat Nat) := (Sum.inl 2);
 let S415 : St := (St.add S405 (AO.cells [(SV.int IntKind.i64 (2 : Int)), (SV.int IntKind.i64 (3 : Int))] Bool.false));
 D 9 [(AV.one (V1.s (SV.sl y413))), (AV.one (V1.s (SV.sl (LV.mk (Bk.new (St.next S405)) 0 2 d414))))] S415 fun v416 S417 =>
 scK v416 fun v419 =>
 SV.cB v419 fun y420 =>
 ifK y420
 (St.at S417 (Bk.new (St.next S301)) 0 fun y421 =>
 uncK y421 fun v422 y423 =>
 SV.cL v422 fun y430 =>
 uncK y423 fun v431 y432 =>
 SV.cL v431 fun y439 =>
 uncK y432 fun v440 y441 =>
 SV.cI IntKind.i64 v440 fun x445 =>
 D 11 [(AV.one (V1.agg [(SV.sl y430), (SV.sl y439), (SV.int IntKind.i64 x445)]))] S417 fun v446 S447 =>
 scK v446 fun v449 =>
 SV.cL v449 fun y455 =>
 let d456 : (Sum Nat Nat) := (Sum.inl 4);
 let S457 : St := (St.add S447 (AO.cells [(SV.int IntKind.i64 (0 : Int)), (SV.int IntKind.i64 (1 : Int)), (SV.int IntKind.i64 (2 : Int)), (SV.int IntKind.i64 (3 : Int))] Bool.false));
 D 9 [(AV.one (V1.s (SV.sl y455))), (AV.one (V1.s (SV.sl (LV.mk (Bk.new (St.next S447)) 0 4 d456))))] S457 fun v458 S459 =>
 scK v458 fun v461 =>
 SV.cB v461 fun y462 =>
 ifK y462
 (St.at S459 (Bk.new (St.next S301)) 0 fun y463 =>
 uncK y463 fun v464 y465 =>
 SV.cL v464 fun y472 =>
 uncK y465 fun v473 y474 =>
 SV.cL v473 fun y481 =>
 uncK y474 fun v482 y483 =>
 SV.cI IntKind.i64 v482 fun x487 =>
 D 15 [(AV.one (V1.agg [(SV.sl y472), (SV.sl y481), (SV.int IntKind.i64 x487)]))] S459 fun v488 S489 =>
 scK v488 fun v491 =>
 SV.cL v491 fun y497 =>
 let x498 : Int := (Int.ofNat (LV.len y497));
 let c499 : Bool := (ieq x498 (0 : Int));
 ifK c499
 (St.at S489 (Bk.new (St.next S301)) 0 fun y500 =>
 uncK y500 fun v501 y502 =>
 SV.cL v501 fun y509 =>
 uncK y502 fun v510 y511 =>
 SV.cL v510 fun y518 =>
 uncK y511 fun v519 y520 =>
 SV.cI IntKind.i64 v519 fun x524 =>
 D 13 [(AV.one (V1.agg [(SV.sl y509), (SV.sl y518), (SV.int IntKind.i64 x524)]))] S489 fun v525 S526 =>
 scK v525 fun v528 =>
 SV.cL v528 fun y534 =>
 let d535 : (Sum Nat Nat) := (Sum.inl 1);
 let S536 : St := (St.add S526 (AO.cells [(SV.int IntKind.i64 (1 : Int))] Bool.false));
 let d537 : (Sum Nat Nat) := (Sum.inl 1);
 let S538 : St := (St.add S536 (AO.cells [(SV.int IntKind.i64 (2 : Int))] Bool.false));
 let d539 : (Sum Nat Nat) := (Sum.inl 1);
 let S540 : St := (St.add S538 (AO.cells [(SV.int IntKind.i64 (3 : Int))] Bool.false));
 let d541 : (Sum Nat Nat) := (Sum.inl 1);
 let S542 : St := (St.add S540 (AO.cells [(SV.int IntKind.i64 (2 : Int))] Bool.false));
 let d543 : (Sum Nat Nat) := (Sum.inl 4);
 let S544 : St := (St.add S542 (AO.cells [(SV.sl (LV.mk (Bk.new (St.next S526)) 0 1 d535)), (SV.sl (LV.mk (Bk.new (St.next S536)) 0 1 d537)), (SV.sl (LV.mk (Bk.new (St.next S538)) 0 1 d539)), (SV.sl (LV.mk (Bk.new (St.next S540)) 0 1 d541))] Bool.false));
 D 7 [(AV.one (V1.s (SV.sl y534))), (AV.one (V1.s (SV.sl (LV.mk (Bk.new (St.next S542)) 0 4 d543))))] S544 fun v545 S546 =>
 scK v545 fun v548 =>
 SV.cB v548 fun y549 =>
 ifK y549
 (D 8 [(AV.one (V1.agg [(SV.sl LV.nil), (SV.sl LV.nil), (SV.int IntKind.i64 (0 : Int))]))] S546 fun v550 S551 =>
 scK v550 fun v553 =>
 SV.cL v553 fun y559 =>
 let x560 : Int := (Int.ofNat (LV.len y559));
 let c561 : Bool := (ieq x560 (0 : Int));
 K ((AV.one (V1.s (SV.bool c561)))) S551)
 (K ((AV.one (V1.s (SV.bool Bool.false)))) S546))
 (K ((AV.one (V1.s (SV.bool Bool.false)))) S489))
 (K ((AV.one (V1.s (SV.bool Bool.false)))) S459))
 (K ((AV.one (V1.s (SV.bool Bool.false)))) S417))
 (K ((AV.one (V1.s (SV.bool Bool.false)))) S375)
noncomputable def X12_0 : X := (.op (.op (.op .ret)))
theorem F12_0_eq (D J : Disp)  (S : St) (K : AV → St → Prop) : F12_0 D J  S K = execK GraphP GraphG Go.Proofs.Try.f12 (typed GraphP D) J plans12 X12_0 (T12 0).1 (envOf (T12 0).2 []) S K := by kernel_rfl
noncomputable abbrev A12_0 (D J : Disp) (vals : List AV) (S : St) (K : AV → St → Prop) : Prop :=
  endL vals <| F12_0 D J  S K
theorem A12_0_ok {D J : Disp} (hD : DOK GraphP GraphG D) (hJ : JOK GraphP GraphG Go.Proofs.Try.f12 T12 J) {vals : List AV} {S : St} {K : AV → St → Prop} (h0 : A12_0 D J vals S K) : Runs GraphP GraphG Go.Proofs.Try.f12 (T12 0).1 (envOf (T12 0).2 vals) S K := by
  obtain ⟨rfl, h1⟩ := endL_some h0
  rw [F12_0_eq] at h1
  exact execK_runs hD.typed Graph_zero Graph_mixed hJ X12_0 (T12 0).1 (envOf (T12 0).2 _) S K (chk_of (by kernel_rfl) (by kernel_rfl)) h1
noncomputable def J12 (D : Disp) (k : Nat) : Disp := Nat.rec (motive := fun _ => Disp) Disp.no (fun _ ih => Disp.add 0 (A12_0 D ih) <| Disp.no) k
theorem J12_ok {D : Disp} (hD : DOK GraphP GraphG D) : ∀ k, JOK GraphP GraphG Go.Proofs.Try.f12 T12 (J12 D k)
  | 0 => JOK.no
  | k + 1 => JOK.add (ltB_ok (by kernel_rfl)) (fun vals S K h => A12_0_ok hD (J12_ok hD k) h) <| JOK.no
theorem E12_ok {D : Disp} (hD : DOK GraphP GraphG D) (k : Nat) {args : List AV} {S : St} {K : AV → St → Prop} (h : A12_0 D (J12 D k) args S K) : CallOK GraphP GraphG 12 args S K := by
  have hr := A12_0_ok hD (J12_ok hD k) h
  have hl : args.length = 0 := by
    have h0 := h
    obtain ⟨rfl, h1⟩ := endL_some h0
    rfl
  refine callOK_of (fn := Go.Proofs.Try.f12) (c := (match Go.Proofs.Try.f12.body with | some c => c | none => .skip)) (by kernel_rfl) (by kernel_rfl) (by kernel_rfl) (by rw [hl]; kernel_rfl) (by kernel_rfl) ?_
  rw [hl]
  exact hr
noncomputable def plans13 (i : Nat) : Plan := []
noncomputable def T13 (p : Nat) : List Item × List Nat := bif Nat.beq p 0 then ([.code (match Go.Proofs.Try.f13.body with | some c => c | none => .skip)], [0]) else
  bif Nat.beq p 8 then (navs [.op, .op, .el, .op, .op, .op] [.code (match Go.Proofs.Try.f13.body with | some c => c | none => .skip)], [1, 3, 4, 13, 14, 15]) else
  ([], [])
noncomputable def F13_0 (D J : Disp) (l0_0 : LV) (l0_1 : LV) (x0_2 : Int) (S : St) (K : AV → St → Prop) : Prop :=
 let S300 : St := (St.add S (AO.cells [(SV.sl l0_0), (SV.sl l0_1), (SV.int IntKind.i64 x0_2)] Bool.false));
 St.at S300 (Bk.new (St.next S)) 0 fun y301 =>
 uncK y301 fun v302 y303 =>
 SV.cL v302 fun y310 =>
 uncK y303 fun v311 y312 =>
 SV.cL v311 fun y319 =>
 uncK y312 fun v320 y321 =>
 SV.cI IntKind.i64 v320 fun x325 =>
 D 23 [(AV.one (V1.agg [(SV.sl y310), (SV.sl y319), (SV.int IntKind.i64 x325)]))] S300 fun v326 S327 =>
 scK v326 fun v329 =>
 SV.cB v329 fun y330 =>
 let c331 : Bool := (Bool.not y330);
 ifK c331
 (K ((AV.one (V1.s (SV.sl LV.nil)))) S327)
 (St.at S327 (Bk.new (St.next S)) 0 fun y332 =>
 uncK y332 fun v333 y334 =>
 SV.cL v333 fun y341 =>
 uncK y334 fun v342 y343 =>
 SV.cL v342 fun y350 =>
 uncK y343 fun v351 y352 =>
 SV.cI IntKind.i64 v351 fun x356 =>
 D 24 [(AV.one (V1.agg [(SV.sl y341), (SV.sl y350), (SV.int IntKind.i64 x356)]))] S327 fun v357 S358 =>
 scK v357 fun v360 =>
 SV.cM v360 fun y367 =>
 St.at S358 (Bk.new (St.next S)) 1 fun y368 =>
 uncK y368 fun v369 y370 =>
 SV.cL v369 fun y377 =>
 let x378 : Int := (Int.ofNat (LV.len y377));
 J 8 [(AV.one (V1.s (SV.ptr (PV.mk (Bk.new (St.next S)) 0)))), (AV.one (V1.s (SV.map y367))), (AV.one (V1.s (SV.sl LV.nil))), (AV.one (V1.s (SV.sl y377))), (AV.one (V1.s (SV.int IntKind.i64 x378))), (AV.one (V1.s (SV.int IntKind.i64 (0 : Int))))] S358 K)
noncomputable def X13_0 : X := (.op (.op (.br (.op .ret) (.op (.op (.op (.jmp 8 [1, 3, 4, 13, 14, 15])))))))
theorem F13_0_eq (D J : Disp) (l0_0 : LV) (l0_1 : LV) (x0_2 : Int) (S : St) (K : AV → St → Prop) : F13_0 D J l0_0 l0_1 x0_2 S K = execK GraphP GraphG Go.Proofs.Try.f13 (typed GraphP D) J plans13 X13_0 (T13 0).1 (envOf (T13 0).2 [(AV.one (V1.agg [(SV.sl l0_0), (SV.sl l0_1), (SV.int IntKind.i64 x0_2)]))]) S K := by kernel_rfl
noncomputable def F13_8 (D J : Disp) (p1 : PV) (m3 : MV) (l4 : LV) (l13 : LV) (x14 : Int) (x15 : Int) (S : St) (K : AV → St → Prop) : Prop :=
 let c300 : Bool := (ilt x15 x14);
 ifK c300
 (LV.cs l13 fun b301 n302 n303 y304 =>
 req (Bool.and (ile (0 : Int) x15) (ilt x15 (Int.ofNat n303))) <|
 let n305 : Nat := (n302 + ((Int.toNat x15) * 6));
 St.at S b301 n305 fun y306 =>
 uncK y306 fun v307 y308 =>
 SV.cS v307 fun y313 =>
 uncK y308 fun v314 y315 =>
 SV.cI IntKind.i64 v314 fun x319 =>
 uncK y315 fun v320 y321 =>
 SV.cI IntKind.i64 v320 fun x325 =>
 uncK y321 fun v326 y327 =>
 SV.cL v326 fun y334 =>
 uncK y327 fun v335 y336 =>
 SV.cL v335 fun y343 =>
 uncK y336 fun v344 y345 =>
 SV.cB v344 fun y347 =>
 let S348 : St := (St.add S (AO.cells [(SV.str []), (SV.int IntKind.i64 (0 : Int)), (SV.int IntKind.i64 (0 : Int)), (SV.sl LV.nil), (SV.sl LV.nil), (SV.bool Bool.false)] Bool.false));
 St.wr S348 (Bk.new (St.next S)) 0 [(SV.str y313), (SV.int IntKind.i64 x319), (SV.int IntKind.i64 x325), (SV.sl y334), (SV.sl y343), (SV.bool y347)] fun S349 =>
 PV.cs p1 fun b350 n351 =>
 St.at S349 b350 n351 fun y352 =>
 uncK y352 fun v353 y354 =>
 SV.cL v353 fun y361 =>
 uncK y354 fun v362 y363 =>
 SV.cL v362 fun y370 =>
 uncK y363 fun v371 y372 =>
 SV.cI IntKind.i64 v371 fun x376 =>
 St.at S349 (Bk.new (St.next S)) 0 fun y377 =>
 uncK y377 fun v378 y379 =>
 SV.cS v378 fun y384 =>
 uncK y379 fun v385 y386 =>
 SV.cI IntKind.i64 v385 fun x390 =>
 uncK y386 fun v391 y392 =>
 SV.cI IntKind.i64 v391 fun x396 =>
 uncK y392 fun v397 y398 =>
 SV.cL v397 fun y405 =>
 uncK y398 fun v406 y407 =>
 SV.cL v406 fun y414 =>
 uncK y407 fun v415 y416 =>
 SV.cB v415 fun y418 =>
 D 25 [(AV.one (V1.agg [(SV.sl y361), (SV.sl y370), (SV.int IntKind.i64 x376)])), (AV.one (V1.agg [(SV.str y384), (SV.int IntKind.i64 x390), (SV.int IntKind.i64 x396), (SV.sl y405), (SV.sl y414), (SV.bool y418)])), (AV.one (V1.s (SV.map m3)))] S349 fun v419 S420 =>
 scK v419 fun v422 =>
 SV.cM v422 fun y429 =>
 D 18 [(AV.one (V1.s (SV.map y429)))] S420 fun v430 S431 =>
 scK v430 fun v433 =>
 SV.cL v433 fun y439 =>
 let d440 : (Sum Nat Nat) := (Sum.inl 1);
 let S441 : St := (St.add S431 (AO.cells [(SV.sl y439)] Bool.false));
 St.src S441 1 (LV.mk (Bk.new (St.next S431)) 0 1 d440) fun y442 n443 =>
 St.app S441 1 24 l4 y442 n443 fun y444 S445 =>
 let x446 : Int := (iwrap IntKind.i64 (x15 + (1 : Int)));
 J 8 [(AV.one (V1.s (SV.ptr p1))), (AV.one (V1.s (SV.map m3))), (AV.one (V1.s (SV.sl y444))), (AV.one (V1.s (SV.sl l13))), (AV.one (V1.s (SV.int IntKind.i64 x14))), (AV.one (V1.s (SV.int IntKind.i64 x446)))] S445 K)
 (K ((AV.one (V1.s (SV.sl l4)))) S)
noncomputable def X13_8 : X := (.op (.br (.op (.op (.op (.jmp 8 [1, 3, 4, 13, 14, 15])))) (.op .ret)))
theorem F13_8_eq (D J : Disp) (p1 : PV) (m3 : MV) (l4 : LV) (l13 : LV) (x14 : Int) (x15 : Int) (S : St) (K : AV → St → Prop) : F13_8 D J p1 m3 l4 l13 x14 x15 S K = execK GraphP GraphG Go.Proofs.Try.f13 (typed GraphP D) J plans13 X13_8 (T13 8).1 (envOf (T13 8).2 [(AV.one (V1.s (SV.ptr p1))), (AV.one (V1.s (SV.map m3))), (AV.one (V1.s (SV.sl l4))), (AV.one (V1.s (SV.sl l13))), (AV.one (V1.s (SV.int IntKind.i64 x14))), (AV.one (V1.s (SV.int IntKind.i64 x15)))]) S K := by kernel_rfl
noncomputable abbrev A13_0 (D J : Disp) (vals : List AV) (S : St) (K : AV → St → Prop) : Prop :=
  uncA vals fun a9001 r9002 => avA a9001 fun l9004 => uncK l9004 fun s9006 r9007 => SV.cL s9006 fun l0_0 => uncK r9007 fun s9010 r9011 => SV.cL s9010 fun l0_1 => uncK r9011 fun s9014 r9015 => SV.cI IntKind.i64 s9014 fun x0_2 => endL r9015 <| endL r9002 <| F13_0 D J l0_0 l0_1 x0_2 S K
theorem A13_0_ok {D J : Disp} (hD : DOK GraphP GraphG D) (hJ : JOK GraphP GraphG Go.Proofs.Try.f13 T13 J) {vals : List AV} {S : St} {K : AV → St → Prop} (h0 : A13_0 D J vals S K) : Runs GraphP GraphG Go.Proofs.Try.f13 (T13 0).1 (envOf (T13 0).2 vals) S K := by
  obtain ⟨a9001, r9002, rfl, h3⟩ := uncA_some h0
  obtain ⟨l9004, rfl, h5⟩ := avA_some h3
  obtain ⟨s9006, r9007, rfl, h8⟩ := uncK_some h5
  obtain ⟨l0_0, rfl, h9⟩ := cL_some h8
  obtain ⟨s9010, r9011, rfl, h12⟩ := uncK_some h9
  obtain ⟨l0_1, rfl, h13⟩ := cL_some h12
  obtain ⟨s9014, r9015, rfl, h16⟩ := uncK_some h13
  obtain ⟨x0_2, rfl, h17⟩ := cI_some h16
  obtain ⟨rfl, h18⟩ := endL_some h17
  obtain ⟨rfl, h19⟩ := endL_some h18
  rw [F13_0_eq] at h19
  exact execK_runs hD.typed Graph_zero Graph_mixed hJ X13_0 (T13 0).1 (envOf (T13 0).2 _) S K (chk_of (by kernel_rfl) (by kernel_rfl)) h19
noncomputable abbrev A13_8 (D J : Disp) (vals : List AV) (S : St) (K : AV → St → Prop) : Prop :=
  uncA vals fun a9001 r9002 => scK a9001 fun s9004 => SV.cP s9004 fun p1 => uncA r9002 fun a9007 r9008 => scK a9007 fun s9010 => SV.cM s9010 fun m3 => uncA r9008 fun a9013 r9014 => scK a9013 fun s9016 => SV.cL s9016 fun l4 => uncA r9014 fun a9019 r9020 => scK a9019 fun s9022 => SV.cL s9022 fun l13 => uncA r9020 fun a9025 r9026 => scK a9025 fun s9028 => SV.cI IntKind.i64 s9028 fun x14 => uncA r9026 fun a9031 r9032 => scK a9031 fun s9034 => SV.cI IntKind.i64 s9034 fun x15 => endL r9032 <| F13_8 D J p1 m3 l4 l13 x14 x15 S K
theorem A13_8_ok {D J : Disp} (hD : DOK GraphP GraphG D) (hJ : JOK GraphP GraphG Go.Proofs.Try.f13 T13 J) {vals : List AV} {S : St} {K : AV → St → Prop} (h0 : A13_8 D J vals S K) : Runs GraphP GraphG Go.Proofs.Try.f13 (T13 8).1 (envOf (T13 8).2 vals) S K := by
  obtain ⟨a9001, r9002, rfl, h3⟩ := uncA_some h0
  obtain ⟨s9004, rfl, h5⟩ := scK_some h3
  obtain ⟨p1, rfl, h6⟩ := cP_some h5
  obtain ⟨a9007, r9008, rfl, h9⟩ := uncA_some h6
  obtain ⟨s9010, rfl, h11⟩ := scK_some h9
  obtain ⟨m3, rfl, h12⟩ := cM_some h11
  obtain ⟨a9013, r9014, rfl, h15⟩ := uncA_some h12
  obtain ⟨s9016, rfl, h17⟩ := scK_some h15
  obtain ⟨l4, rfl, h18⟩ := cL_some h17
  obtain ⟨a9019, r9020, rfl, h21⟩ := uncA_some h18
  obtain ⟨s9022, rfl, h23⟩ := scK_some h21
  obtain ⟨l13, rfl, h24⟩ := cL_some h23
  obtain ⟨a9025, r9026, rfl, h27⟩ := uncA_some h24
  obtain ⟨s9028, rfl, h29⟩ := scK_some h27
  obtain ⟨x14, rfl, h30⟩ := cI_some h29
  obtain ⟨a9031, r9032, rfl, h33⟩ := uncA_some h30
  obtain ⟨s9034, rfl, h35⟩ := scK_some h33
  obtain ⟨x15, rfl, h36⟩ := cI_some h35
  obtain ⟨rfl, h37⟩ := endL_some h36
  rw [F13_8_eq] at h37
  exact execK_runs hD.typed Graph_zero Graph_mixed hJ X13_8 (T13 8).1 (envOf (T13 8).2 _) S K (chk_of (by kernel_rfl) (by kernel_rfl)) h37
noncomputable def J13 (D : Disp) (k : Nat) : Disp := Nat.rec (motive := fun _ => Disp) Disp.no (fun _ ih => Disp.add 0 (A13_0 D ih) <| Disp.add 8 (A13_8 D ih) <| Disp.no) k
theorem J13_ok {D : Disp} (hD : DOK GraphP GraphG D) : ∀ k, JOK GraphP GraphG Go.Proofs.Try.f13 T13 (J13 D k)
  | 0 => JOK.no
  | k + 1 => JOK.add (ltB_ok (by kernel_rfl)) (fun vals S K h => A13_0_ok hD (J13_ok hD k) h) <| JOK.add (ltB_ok (by kernel_rfl)) (fun vals S K h => A13_8_ok hD (J13_ok hD k) h) <| JOK.no
theorem E13_ok {D : Disp} (hD : DOK GraphP GraphG D) (k : Nat) {args : List AV} {S : St} {K : AV → St → Prop} (h : A13_0 D (J13 D k) args S K) : CallOK GraphP GraphG 13 args S K := by
  have hr := A13_0_ok hD (J13_ok hD k) h
  have hl : args.length = 1 := by
    have h0 := h
    obtain ⟨a9001, r9002, rfl, h3⟩ := uncA_some h0
    obtain ⟨l9004, rfl, h5⟩ := avA_some h3
    obtain ⟨s9006, r9007, rfl, h8⟩ := uncK_some h5
    obtain ⟨l0_0, rfl, h9⟩ := cL_some h8
    obtain ⟨s9010, r9011, rfl, h12⟩ := uncK_some h9
    obtain ⟨l0_1, rfl, h13⟩ := cL_some h12
    obtain ⟨s9014, r9015, rfl, h16⟩ := uncK_some h13
    obtain ⟨x0_2, rfl, h17⟩ := cI_some h16
    obtain ⟨rfl, h18⟩ := endL_some h17
    obtain ⟨rfl, h19⟩ := endL_some h18
    rfl
  refine callOK_of (fn := Go.Proofs.Try.f13) (c := (match Go.Proofs.Try.f13.body with | some c => c | none => .skip)) (by kernel_rfl) (by kernel_rfl) (by kernel_rfl) (by rw [hl]; kernel_rfl) (by kernel_rfl) ?_
  rw [hl]
  exact hr
noncomputable def plans15 (i : Nat) : Plan := []
noncomputable def T15 (p : Nat) : List Item × List Nat := bif Nat.beq p 0 then ([.code (match Go.Proofs.Try.f15.body with | some c => c | none => .skip)], [0]) else
  ([], [])
noncomputable def F15_0 (D J : Disp) (l0_0 : LV) (l0_1 : LV) (x0_2 : Int) (S : St) (K : AV → St → Prop) : Prop :=
 let S300 : St := (St.add S (AO.cells [(SV.sl l0_0), (SV.sl l0_1), (SV.int IntKind.i64 x0_2)] Bool.false));
 St.at S300 (Bk.new (St.next S)) 0 fun y301 =>
 uncK y301 fun v302 y303 =>
 SV.cL v302 fun y310 =>
 uncK y303 fun v311 y312 =>
 SV.cL v311 fun y319 =>
 uncK y312 fun v320 y321 =>
 SV.cI IntKind.i64 v320 fun x325 =>
 D 23 [(AV.one (V1.agg [(SV.sl y310), (SV.sl y319), (SV.int IntKind.i64 x325)]))] S300 fun v326 S327 =>
 scK v326 fun v329 =>
 SV.cB v329 fun y330 =>
 let c331 : Bool := (Bool.not y330);
 ifK c331
 (K ((AV.one (V1.s (SV.sl LV.nil)))) S327)
 (St.at S327 (Bk.new (St.next S)) 0 fun y332 =>
 uncK y332 fun v333 y334 =>
 SV.cL v333 fun y341 =>
 uncK y334 fun v342 y343 =>
 SV.cL v342 fun y350 =>
 uncK y343 fun v351 y352 =>
 SV.cI IntKind.i64 v351 fun x356 =>
 D 24 [(AV.one (V1.agg [(SV.sl y341), (SV.sl y350), (SV.int IntKind.i64 x356)]))] S327 fun v357 S358 =>
 scK v357 fun v360 =>
 SV.cM v360 fun y367 =>
 D 18 [(AV.one (V1.s (SV.map y367)))] S358 fun v368 S369 =>
 scK v368 fun v371 =>
 SV.cL v371 fun y377 =>
 K ((AV.one (V1.s (SV.sl y377)))) S369)
noncomputable def X15_0 : X := (.op (.op (.br (.op .ret) (.op .ret))))
theorem F15_0_eq (D J : Disp) (l0_0 : LV) (l0_1 : LV) (x0_2 : Int) (S : St) (K : AV → St → Prop) : F15_0 D J l0_0 l0_1 x0_2 S K = execK GraphP GraphG Go.Proofs.Try.f15 (typed GraphP D) J plans15 X15_0 (T15 0).1 (envOf (T15 0).2 [(AV.one (V1.agg [(SV.sl l0_0), (SV.sl l0_1), (SV.int IntKind.i64 x0_2)]))]) S K := by kernel_rfl
noncomputable abbrev A15_0 (D J : Disp) (vals : List AV) (S : St) (K : AV → St → Prop) : Prop :=
  uncA vals fun a9001 r9002 => avA a9001 fun l9004 => uncK l9004 fun s9006 r9007 => SV.cL s9006 fun l0_0 => uncK r9007 fun s9010 r9011 => SV.cL s9010 fun l0_1 => uncK r9011 fun s9014 r9015 => SV.cI IntKind.i64 s9014 fun x0_2 => endL r9015 <| endL r9002 <| F15_0 D J l0_0 l0_1 x0_2 S K
theorem A15_0_ok {D J : Disp} (hD : DOK GraphP GraphG D) (hJ : JOK GraphP GraphG Go.Proofs.Try.f15 T15 J) {vals : List AV} {S : St} {K : AV → St → Prop} (h0 : A15_0 D J vals S K) : Runs GraphP GraphG Go.Proofs.Try.f15 (T15 0).1 (envOf (T15 0).2 vals) S K := by
  obtain ⟨a9001, r9002, rfl, h3⟩ := uncA_some h0
  obtain ⟨l9004, rfl, h5⟩ := avA_some h3
  obtain ⟨s9006, r9007, rfl, h8⟩ := uncK_some h5
  obtain ⟨l0_0, rfl, h9⟩ := cL_some h8
  obtain ⟨s9010, r9011, rfl, h12⟩ := uncK_some h9
  obtain ⟨l0_1, rfl, h13⟩ := cL_some h12
  obtain ⟨s9014, r9015, rfl, h16⟩ := uncK_some h13
  obtain ⟨x0_2, rfl, h17⟩ := cI_some h16
  obtain ⟨rfl, h18⟩ := endL_some h17
  obtain ⟨rfl, h19⟩ := endL_some h18
  rw [F15_0_eq] at h19
  exact execK_runs hD.typed Graph_zero Graph_mixed hJ X15_0 (T15 0).1 (envOf (T15 0).2 _) S K (chk_of (by kernel_rfl) (by kernel_rfl)) h19
noncomputable def J15 (D : Disp) (k : Nat) : Disp := Nat.rec (motive := fun _ => Disp) Disp.no (fun _ ih => Disp.add 0 (A15_0 D ih) <| Disp.no) k
theorem J15_ok {D : Disp} (hD : DOK GraphP GraphG D) : ∀ k, JOK GraphP GraphG Go.Proofs.Try.f15 T15 (J15 D k)
  | 0 => JOK.no
  | k + 1 => JOK.add (ltB_ok (by kernel_rfl)) (fun vals S K h => A15_0_ok hD (J15_ok hD k) h) <| JOK.no
theorem E15_ok {D : Disp} (hD : DOK GraphP GraphG D) (k : Nat) {args : List AV} {S : St} {K : AV → St → Prop} (h : A15_0 D (J15 D k) args S K) : CallOK GraphP GraphG 15 args S K := by
  have hr := A15_0_ok hD (J15_ok hD k) h
  have hl : args.length = 1 := by
    have h0 := h
    obtain ⟨a9001, r9002, rfl, h3⟩ := uncA_some h0
    obtain ⟨l9004, rfl, h5⟩ := avA_some h3
    obtain ⟨s9006, r9007, rfl, h8⟩ := uncK_some h5
    obtain ⟨l0_0, rfl, h9⟩ := cL_some h8
    obtain ⟨s9010, r9011, rfl, h12⟩ := uncK_some h9
    obtain ⟨l0_1, rfl, h13⟩ := cL_some h12
    obtain ⟨s9014, r9015, rfl, h16⟩ := uncK_some h13
    obtain ⟨x0_2, rfl, h17⟩ := cI_some h16
    obtain ⟨rfl, h18⟩ := endL_some h17
    obtain ⟨rfl, h19⟩ := endL_some h18
    rfl
  refine callOK_of (fn := Go.Proofs.Try.f15) (c := (match Go.Proofs.Try.f15.body with | some c => c | none => .skip)) (by kernel_rfl) (by kernel_rfl) (by kernel_rfl) (by rw [hl]; kernel_rfl) (by kernel_rfl) ?_
  rw [hl]
  exact hr
noncomputable def plans16 (i : Nat) : Plan := if Nat.beq i 2 then [(0, []), (1, []), (2, [1]), (3, []), (4, [3]), (5, []), (6, [5]), (7, []), (8, [7]), (9, [0, 2, 4, 6, 8, 1, 3, 5, 7]), (10, [9, 0, 2, 4, 6, 8, 1, 3, 5, 7]), (11, [10, 0, 1, 2, 3, 4, 5, 6, 7, 8, 9])] else []
noncomputable def T16 (p : Nat) : List Item × List Nat := bif Nat.beq p 0 then ([.code (match Go.Proofs.Try.f16.body with | some c => c | none => .skip)], [0]) else
  bif Nat.beq p 4 then (navs [.op, .op, .op, .op] [.code (match Go.Proofs.Try.f16.body with | some c => c | none => .skip)], [4, 20, 21]) else
  bif Nat.beq p 10 then (navs [.op, .op, .op, .op, .op, .th, .op, .op, .th, .op] [.code (match Go.Proofs.Try.f16.body with | some c => c | none => .skip)], [4, 20, 21]) else
  ([], [])
noncomputable def F16_0 (D J : Disp) (l0 : LV) (S : St) (K : AV → St → Prop) : Prop :=
 let x300 : Int := (Int.ofNat (LV.len l0));
 req (Bool.and (ile (0 : Int) x300) (Bool.and (ile x300 x300) (ile x300 (2000000 : Int)))) <|
 let o301 : AO := (rowAO [(SV.int IntKind.i64 (0 : Int))] (Int.toNat x300));
 let n302 : Nat := (Int.toNat x300);
 let d303 : (Sum Nat Nat) := (Sum.inl (Int.toNat x300));
 req (Bool.and (ile (0 : Int) x300) (Bool.and (ile x300 x300) (ile x300 (2000000 : Int)))) <|
 let o304 : AO := (rowAO [(SV.int IntKind.i64 (0 : Int))] (Int.toNat x300));
 let n305 : Nat := (Nat.succ (St.next S));
 let n306 : Nat := (Nat.succ (St.next S));
 let n307 : Nat := (Int.toNat x300);
 let d308 : (Sum Nat Nat) := (Sum.inl (Int.toNat x300));
 req (Bool.and (ile (0 : Int) x300) (Bool.and (ile x300 x300) (ile x300 (2000000 : Int)))) <|
 let o309 : AO := (rowAO [(SV.bool Bool.false)] (Int.toNat x300));
 let n310 : Nat := (Nat.succ n305);
 let n311 : Nat := (Nat.succ n305);
 let n312 : Nat := (Int.toNat x300);
 let d313 : (Sum Nat Nat) := (Sum.inl (Int.toNat x300));
 req (Bool.and (ile (0 : Int) x300) (Bool.and (ile x300 x300) (ile x300 (2000000 : Int)))) <|
 let o314 : AO := (rowAO [(SV.int IntKind.i64 (0 : Int))] (Int.toNat x300));
 let n315 : Nat := (Nat.succ n310);
 let n316 : Nat := (Nat.succ n310);
 let n317 : Nat := (Int.toNat x300);
 let d318 : (Sum Nat Nat) := (Sum.inl (Int.toNat x300));
 let o319 : AO := (AO.cells [(SV.sl l0), (SV.sl (LV.mk (Bk.new (St.next S)) 0 n302 d303)), (SV.sl (LV.mk (Bk.new n306) 0 n307 d308)), (SV.sl (LV.mk (Bk.new n311) 0 n312 d313)), (SV.sl LV.nil), (SV.int IntKind.i64 (0 : Int)), (SV.sl (LV.mk (Bk.new n316) 0 n317 d318)), (SV.sl LV.nil)] Bool.false);
 let n320 : Nat := (Nat.succ n315);
 let n321 : Nat := (Nat.succ n315);
 let S322 : St := (St.add (St.add (St.add (St.add (St.add S o301) o304) o309) o314) o319);
 let x323 : Int := (Int.ofNat (LV.len l0));
 J 4 [(AV.one (V1.s (SV.ptr (PV.mk (Bk.new n321) 0)))), (AV.one (V1.s (SV.int IntKind.i64 x323))), (AV.one (V1.s (SV.int IntKind.i64 (0 : Int))))] S322 K
noncomputable def X16_0 : X := (.op (.op (.op (.op (.jmp 4 [4, 20, 21])))))
theorem F16_0_eq (D J : Disp) (l0 : LV) (S : St) (K : AV → St → Prop) : F16_0 D J l0 S K = execK GraphP GraphG Go.Proofs.Try.f16 (typed GraphP D) J plans16 X16_0 (T16 0).1 (envOf (T16 0).2 [(AV.one (V1.s (SV.sl l0)))]) S K := by kernel_rfl
noncomputable def F16_4 (D J : Disp) (p4 : PV) (x20 : Int) (x21 : Int) (S : St) (K : AV → St → Prop) : Prop :=
 let c300 : Bool := (ilt x21 x20);
 ifK c300
 (PV.cs p4 fun b301 n302 =>
 let n303 : Nat := (n302 + 1);
 St.at S b301 n303 fun y304 =>
 uncK y304 fun v305 y306 =>
 SV.cL v305 fun y313 =>
 LV.cs y313 fun b314 n315 n316 y317 =>
 req (Bool.and (ile (0 : Int) x21) (ilt x21 (Int.ofNat n316))) <|
 let n318 : Nat := (n315 + ((Int.toNat x21) * 1));
 St.at S b314 n318 fun y319 =>
 uncK y319 fun v320 y321 =>
 SV.cI IntKind.i64 v320 fun x325 =>
 let c326 : Bool := (ieq x325 (0 : Int));
 ifK c326
 (D 26 [(AV.one (V1.s (SV.ptr p4))), (AV.one (V1.s (SV.int IntKind.i64 x21)))] S fun v327 S328 =>
 avT v327 fun y330 =>
 endL y330 (J 10 [(AV.one (V1.s (SV.ptr p4))), (AV.one (V1.s (SV.int IntKind.i64 x20))), (AV.one (V1.s (SV.int IntKind.i64 x21)))] S328 K))
 (J 10 [(AV.one (V1.s (SV.ptr p4))), (AV.one (V1.s (SV.int IntKind.i64 x20))), (AV.one (V1.s (SV.int IntKind.i64 x21)))] S K))
 (K ((AV.one (V1.s (SV.ptr p4)))) S)
noncomputable def X16_4 : X := (.op (.br (.op (.op (.br (.op (.jmp 10 [4, 20, 21])) (.jmp 10 [4, 20, 21])))) (.op .ret)))
theorem F16_4_eq (D J : Disp) (p4 : PV) (x20 : Int) (x21 : Int) (S : St) (K : AV → St → Prop) : F16_4 D J p4 x20 x21 S K = execK GraphP GraphG Go.Proofs.Try.f16 (typed GraphP D) J plans16 X16_4 (T16 4).1 (envOf (T16 4).2 [(AV.one (V1.s (SV.ptr p4))), (AV.one (V1.s (SV.int IntKind.i64 x20))), (AV.one (V1.s (SV.int IntKind.i64 x21)))]) S K := by kernel_rfl
noncomputable def F16_10 (D J : Disp) (p4 : PV) (x20 : Int) (x21 : Int) (S : St) (K : AV → St → Prop) : Prop :=
 let x300 : Int := (iwrap IntKind.i64 (x21 + (1 : Int)));
 J 4 [(AV.one (V1.s (SV.ptr p4))), (AV.one (V1.s (SV.int IntKind.i64 x20))), (AV.one (V1.s (SV.int IntKind.i64 x300)))] S K
noncomputable def X16_10 : X := (.op (.jmp 4 [4, 20, 21]))
theorem F16_10_eq (D J : Disp) (p4 : PV) (x20 : Int) (x21 : Int) (S : St) (K : AV → St → Prop) : F16_10 D J p4 x20 x21 S K = execK GraphP GraphG Go.Proofs.Try.f16 (typed GraphP D) J plans16 X16_10 (T16 10).1 (envOf (T16 10).2 [(AV.one (V1.s (SV.ptr p4))), (AV.one (V1.s (SV.int IntKind.i64 x20))), (AV.one (V1.s (SV.int IntKind.i64 x21)))]) S K := by kernel_rfl
noncomputable abbrev A16_0 (D J : Disp) (vals : List AV) (S : St) (K : AV → St → Prop) : Prop :=
  uncA vals fun a9001 r9002 => scK a9001 fun s9004 => SV.cL s9004 fun l0 => endL r9002 <| F16_0 D J l0 S K
theorem A16_0_ok {D J : Disp} (hD : DOK GraphP GraphG D) (hJ : JOK GraphP GraphG Go.Proofs.Try.f16 T16 J) {vals : List AV} {S : St} {K : AV → St → Prop} (h0 : A16_0 D J vals S K) : Runs GraphP GraphG Go.Proofs.Try.f16 (T16 0).1 (envOf (T16 0).2 vals) S K := by
  obtain ⟨a9001, r9002, rfl, h3⟩ := uncA_some h0
  obtain ⟨s9004, rfl, h5⟩ := scK_some h3
  obtain ⟨l0, rfl, h6⟩ := cL_some h5
  obtain ⟨rfl, h7⟩ := endL_some h6
  rw [F16_0_eq] at h7
  exact execK_runs hD.typed Graph_zero Graph_mixed hJ X16_0 (T16 0).1 (envOf (T16 0).2 _) S K (chk_of (by kernel_rfl) (by kernel_rfl)) h7
noncomputable abbrev A16_4 (D J : Disp) (vals : List AV) (S : St) (K : AV → St → Prop) : Prop :=
  uncA vals fun a9001 r9002 => scK a9001 fun s9004 => SV.cP s9004 fun p4 => uncA r9002 fun a9007 r9008 => scK a9007 fun s9010 => SV.cI IntKind.i64 s9010 fun x20 => uncA r9008 fun a9013 r9014 => scK a9013 fun s9016 => SV.cI IntKind.i64 s9016 fun x21 => endL r9014 <| F16_4 D J p4 x20 x21 S K
theorem A16_4_ok {D J : Disp} (hD : DOK GraphP GraphG D) (hJ : JOK GraphP GraphG Go.Proofs.Try.f16 T16 J) {vals : List AV} {S : St} {K : AV → St → Prop} (h0 : A16_4 D J vals S K) : Runs GraphP GraphG Go.Proofs.Try.f16 (T16 4).1 (envOf (T16 4).2 vals) S K := by
  obtain ⟨a9001, r9002, rfl, h3⟩ := uncA_some h0
  obtain ⟨s9004, rfl, h5⟩ := scK_some h3
  obtain ⟨p4, rfl, h6⟩ := cP_some h5
  obtain ⟨a9007, r9008, rfl, h9⟩ := uncA_some h6
  obtain ⟨s9010, rfl, h11⟩ := scK_some h9
  obtain ⟨x20, rfl, h12⟩ := cI_some h11
  obtain ⟨a9013, r9014, rfl, h15⟩ := uncA_some h12
  obtain ⟨s9016, rfl, h17⟩ := scK_some h15
  obtain ⟨x21, rfl, h18⟩ := cI_some h17
  obtain ⟨rfl, h19⟩ := endL_some h18
  rw [F16_4_eq] at h19
  exact execK_runs hD.typed Graph_zero Graph_mixed hJ X16_4 (T16 4).1 (envOf (T16 4).2 _) S K (chk_of (by kernel_rfl) (by kernel_rfl)) h19
noncomputable abbrev A16_10 (D J : Disp) (vals : List AV) (S : St) (K : AV → St → Prop) : Prop :=
  uncA vals fun a9001 r9002 => scK a9001 fun s9004 => SV.cP s9004 fun p4 => uncA r9002 fun a9007 r9008 => scK a9007 fun s9010 => SV.cI IntKind.i64 s9010 fun x20 => uncA r9008 fun a9013 r9014 => scK a9013 fun s9016 => SV.cI IntKind.i64 s9016 fun x21 => endL r9014 <| F16_10 D J p4 x20 x21 S K
theorem A16_10_ok {D J : Disp} (hD : DOK GraphP GraphG D) (hJ : JOK GraphP GraphG Go.Proofs.Try.f16 T16 J) {vals : List AV} {S : St} {K : AV → St → Prop} (h0 : A16_10 D J vals S K) : Runs GraphP GraphG Go.Proofs.Try.f16 (T16 10).1 (envOf (T16 10).2 vals) S K := by
  obtain ⟨a9001, r9002, rfl, h3⟩ := uncA_some h0
  obtain ⟨s9004, rfl, h5⟩ := scK_some h3
  obtain ⟨p4, rfl, h6⟩ := cP_some h5
  obtain ⟨a9007, r9008, rfl, h9⟩ := uncA_some h6
  obtain ⟨s9010, rfl, h11⟩ := scK_some h9
  obtain ⟨x20, rfl, h12⟩ := cI_some h11
  obtain ⟨a9013, r9014, rfl, h15⟩ := uncA_some h12
  obtain ⟨s9016, rfl, h17⟩ := scK_some h15
  obtain ⟨x21, rfl, h18⟩ := cI_some h17
  obtain ⟨rfl, h19⟩ := endL_some h18
  rw [F16_10_eq] at h19
  exact execK_runs hD.typed Graph_zero Graph_mixed hJ X16_10 (T16 10).1 (envOf (T16 10).2 _) S K (chk_of (by kernel_rfl) (by kernel_rfl)) h19
noncomputable def J16 (D : Disp) (k : Nat) : Disp := Nat.rec (motive := fun _ => Disp) Disp.no (fun _ ih => Disp.add 0 (A16_0 D ih) <| Disp.add 4 (A16_4 D ih) <| Disp.add 10 (A16_10 D ih) <| Disp.no) k
theorem J16_ok {D : Disp} (hD : DOK GraphP GraphG D) : ∀ k, JOK GraphP GraphG Go.Proofs.Try.f16 T16 (J16 D k)
  | 0 => JOK.no
  | k + 1 => JOK.add (ltB_ok (by kernel_rfl)) (fun vals S K h => A16_0_ok hD (J16_ok hD k) h) <| JOK.add (ltB_ok (by kernel_rfl)) (fun vals S K h => A16_4_ok hD (J16_ok hD k) h) <| JOK.add (ltB_ok (by kernel_rfl)) (fun vals S K h => A16_10_ok hD (J16_ok hD k) h) <| JOK.no
theorem E16_ok {D : Disp} (hD : DOK GraphP GraphG D) (k : Nat) {args : List AV} {S : St} {K : AV → St → Prop} (h : A16_0 D (J16 D k) args S K) : CallOK GraphP GraphG 16 args S K := by
  have hr := A16_0_ok hD (J16_ok hD k) h
  have hl : args.length = 1 := by
    have h0 := h
    obtain ⟨a9001, r9002, rfl, h3⟩ := uncA_some h0
    obtain ⟨s9004, rfl, h5⟩ := scK_some h3
    obtain ⟨l0, rfl, h6⟩ := cL_some h5
    obtain ⟨rfl, h7⟩ := endL_some h6
    rfl
  refine callOK_of (fn := Go.Proofs.Try.f16) (c := (match Go.Proofs.Try.f16.body with | some c => c | none => .skip)) (by kernel_rfl) (by kernel_rfl) (by kernel_rfl) (by rw [hl]; kernel_rfl) (by kernel_rfl) ?_
  rw [hl]
  exact hr
noncomputable def plans17 (i : Nat) : Plan := []
noncomputable def T17 (p : Nat) : List Item × List Nat := bif Nat.beq p 0 then ([.code (match Go.Proofs.Try.f17.body with | some c => c | none => .skip)], [0, 1]) else
  ([], [])
noncomputable def F17_0 (D J : Disp) (l0 : LV) (x1 : Int) (S : St) (K : AV → St → Prop) : Prop :=
 D 27 [(AV.one (V1.s (SV.sl l0))), (AV.one (V1.s (SV.int IntKind.i64 x1)))] S fun v300 S301 =>
 scK v300 fun v303 =>
 SV.cI IntKind.i64 v303 fun x306 =>
 let c307 : Bool := (ile (0 : Int) x306);
 K ((AV.one (V1.s (SV.bool c307)))) S301
noncomputable def X17_0 : X := (.op (.op .ret))
theorem F17_0_eq (D J : Disp) (l0 : LV) (x1 : Int) (S : St) (K : AV → St → Prop) : F17_0 D J l0 x1 S K = execK GraphP GraphG Go.Proofs.Try.f17 (typed GraphP D) J plans17 X17_0 (T17 0).1 (envOf (T17 0).2 [(AV.one (V1.s (SV.sl l0))), (AV.one (V1.s (SV.int IntKind.i64 x1)))]) S K := by kernel_rfl
noncomputable abbrev A17_0 (D J : Disp) (vals : List AV) (S : St) (K : AV → St → Prop) : Prop :=
  uncA vals fun a9001 r9002 => scK a9001 fun s9004 => SV.cL s9004 fun l0 => uncA r9002 fun a9007 r9008 => scK a9007 fun s9010 => SV.cI IntKind.i64 s9010 fun x1 => endL r9008 <| F17_0 D J l0 x1 S K
theorem A17_0_ok {D J : Disp} (hD : DOK GraphP GraphG D) (hJ : JOK GraphP GraphG Go.Proofs.Try.f17 T17 J) {vals : List AV} {S : St} {K : AV → St → Prop} (h0 : A17_0 D J vals S K) : Runs GraphP GraphG Go.Proofs.Try.f17 (T17 0).1 (envOf (T17 0).2 vals) S K := by
  obtain ⟨a9001, r9002, rfl, h3⟩ := uncA_some h0
  obtain ⟨s9004, rfl, h5⟩ := scK_some h3
  obtain ⟨l0, rfl, h6⟩ := cL_some h5
  obtain ⟨a9007, r9008, rfl, h9⟩ := uncA_some h6
  obtain ⟨s9010, rfl, h11⟩ := scK_some h9
  obtain ⟨x1, rfl, h12⟩ := cI_some h11
  obtain ⟨rfl, h13⟩ := endL_some h12
  rw [F17_0_eq] at h13
  exact execK_runs hD.typed Graph_zero Graph_mixed hJ X17_0 (T17 0).1 (envOf (T17 0).2 _) S K (chk_of (by kernel_rfl) (by kernel_rfl)) h13
noncomputable def J17 (D : Disp) (k : Nat) : Disp := Nat.rec (motive := fun _ => Disp) Disp.no (fun _ ih => Disp.add 0 (A17_0 D ih) <| Disp.no) k
theorem J17_ok {D : Disp} (hD : DOK GraphP GraphG D) : ∀ k, JOK GraphP GraphG Go.Proofs.Try.f17 T17 (J17 D k)
  | 0 => JOK.no
  | k + 1 => JOK.add (ltB_ok (by kernel_rfl)) (fun vals S K h => A17_0_ok hD (J17_ok hD k) h) <| JOK.no
theorem E17_ok {D : Disp} (hD : DOK GraphP GraphG D) (k : Nat) {args : List AV} {S : St} {K : AV → St → Prop} (h : A17_0 D (J17 D k) args S K) : CallOK GraphP GraphG 17 args S K := by
  have hr := A17_0_ok hD (J17_ok hD k) h
  have hl : args.length = 2 := by
    have h0 := h
    obtain ⟨a9001, r9002, rfl, h3⟩ := uncA_some h0
    obtain ⟨s9004, rfl, h5⟩ := scK_some h3
    obtain ⟨l0, rfl, h6⟩ := cL_some h5
    obtain ⟨a9007, r9008, rfl, h9⟩ := uncA_some h6
    obtain ⟨s9010, rfl, h11⟩ := scK_some h9
    obtain ⟨x1, rfl, h12⟩ := cI_some h11
    obtain ⟨rfl, h13⟩ := endL_some h12
    rfl
  refine callOK_of (fn := Go.Proofs.Try.f17) (c := (match Go.Proofs.Try.f17.body with | some c => c | none => .skip)) (by kernel_rfl) (by kernel_rfl) (by kernel_rfl) (by rw [hl]; kernel_rfl) (by kernel_rfl) ?_
  rw [hl]
  exact hr
noncomputable def plans19 (i : Nat) : Plan := []
noncomputable def T19 (p : Nat) : List Item × List Nat := bif Nat.beq p 0 then ([.code (match Go.Proofs.Try.f19.body with | some c => c | none => .skip)], [0, 1]) else
  bif Nat.beq p 2 then (navs [.op, .op] [.code (match Go.Proofs.Try.f19.body with | some c => c | none => .skip)], [1, 9, 10, 11]) else
  bif Nat.beq p 6 then (navs [.op, .op, .op, .th, .op, .op] [.code (match Go.Proofs.Try.f19.body with | some c => c | none => .skip)], [1, 9, 10, 11, 16, 17, 18]) else
  ([], [])
noncomputable def F19_0 (D J : Disp) (s0_0 : (List Nat)) (x0_1 : Int) (x0_2 : Int) (l0_3 : LV) (l0_4 : LV) (c0_5 : Bool) (f1 : FV) (S : St) (K : AV → St → Prop) : Prop :=
 let S300 : St := (St.add S (AO.cells [(SV.str s0_0), (SV.int IntKind.i64 x0_1), (SV.int IntKind.i64 x0_2), (SV.sl l0_3), (SV.sl l0_4), (SV.bool c0_5)] Bool.false));
 St.at S300 (Bk.new (St.next S)) 4 fun y301 =>
 uncK y301 fun v302 y303 =>
 SV.cL v302 fun y310 =>
 let x311 : Int := (Int.ofNat (LV.len y310));
 J 2 [(AV.one (V1.s (SV.fn f1))), (AV.one (V1.s (SV.sl y310))), (AV.one (V1.s (SV.int IntKind.i64 x311))), (AV.one (V1.s (SV.int IntKind.i64 (0 : Int))))] S300 K
noncomputable def X19_0 : X := (.op (.op (.jmp 2 [1, 9, 10, 11])))
theorem F19_0_eq (D J : Disp) (s0_0 : (List Nat)) (x0_1 : Int) (x0_2 : Int) (l0_3 : LV) (l0_4 : LV) (c0_5 : Bool) (f1 : FV) (S : St) (K : AV → St → Prop) : F19_0 D J s0_0 x0_1 x0_2 l0_3 l0_4 c0_5 f1 S K = execK GraphP GraphG Go.Proofs.Try.f19 (typed GraphP D) J plans19 X19_0 (T19 0).1 (envOf (T19 0).2 [(AV.one (V1.agg [(SV.str s0_0), (SV.int IntKind.i64 x0_1), (SV.int IntKind.i64 x0_2), (SV.sl l0_3), (SV.sl l0_4), (SV.bool c0_5)])), (AV.one (V1.s (SV.fn f1)))]) S K := by kernel_rfl
noncomputable def F19_2 (D J : Disp) (f1 : FV) (l9 : LV) (x10 : Int) (x11 : Int) (S : St) (K : AV → St → Prop) : Prop :=
 let c300 : Bool := (ilt x11 x10);
 ifK c300
 (LV.cs l9 fun b301 n302 n303 y304 =>
 req (Bool.and (ile (0 : Int) x11) (ilt x11 (Int.ofNat n303))) <|
 let n305 : Nat := (n302 + ((Int.toNat x11) * 1));
 St.at S b301 n305 fun y306 =>
 uncK y306 fun v307 y308 =>
 SV.cL v307 fun y315 =>
 let S316 : St := (St.add S (AO.cells [(SV.sl LV.nil)] Bool.false));
 St.wr S316 (Bk.new (St.next S)) 0 [(SV.sl y315)] fun S317 =>
 St.at S317 (Bk.new (St.next S)) 0 fun y318 =>
 uncK y318 fun v319 y320 =>
 SV.cL v319 fun y327 =>
 let x328 : Int := (Int.ofNat (LV.len y327));
 J 6 [(AV.one (V1.s (SV.fn f1))), (AV.one (V1.s (SV.sl l9))), (AV.one (V1.s (SV.int IntKind.i64 x10))), (AV.one (V1.s (SV.int IntKind.i64 x11))), (AV.one (V1.s (SV.sl y327))), (AV.one (V1.s (SV.int IntKind.i64 x328))), (AV.one (V1.s (SV.int IntKind.i64 (0 : Int))))] S317 K)
 (K ((AV.tup [])) S)
noncomputable def X19_2 : X := (.op (.br (.op (.op (.jmp 6 [1, 9, 10, 11, 16, 17, 18]))) .ret))
theorem F19_2_eq (D J : Disp) (f1 : FV) (l9 : LV) (x10 : Int) (x11 : Int) (S : St) (K : AV → St → Prop) : F19_2 D J f1 l9 x10 x11 S K = execK GraphP GraphG Go.Proofs.Try.f19 (typed GraphP D) J plans19 X19_2 (T19 2).1 (envOf (T19 2).2 [(AV.one (V1.s (SV.fn f1))), (AV.one (V1.s (SV.sl l9))), (AV.one (V1.s (SV.int IntKind.i64 x10))), (AV.one (V1.s (SV.int IntKind.i64 x11)))]) S K := by kernel_rfl
noncomputable def F19_6 (D J : Disp) (f1 : FV) (l9 : LV) (x10 : Int) (x11 : Int) (l16 : LV) (x17 : Int) (x18 : Int) (S : St) (K : AV → St → Prop) : Prop :=
 let c300 : Bool := (ilt x18 x17);
 ifK c300
 (LV.cs l16 fun b301 n302 n303 y304 =>
 req (Bool.and (ile (0 : Int) x18) (ilt x18 (Int.ofNat n303))) <|
 let n305 : Nat := (n302 + ((Int.toNat x18) * 11));
 St.at S b301 n305 fun y306 =>
 uncK y306 fun v307 y308 =>
 SV.cI IntKind.i64 v307 fun x312 =>
 uncK y308 fun v313 y314 =>
 SV.cI IntKind.i64 v313 fun x318 =>
 uncK y314 fun v319 y320 =>
 SV.cI IntKind.i64 v319 fun x324 =>
 uncK y320 fun v325 y326 =>
 SV.cI IntKind.i64 v325 fun x330 =>
 uncK y326 fun v331 y332 =>
 SV.cI IntKind.i64 v331 fun x336 =>
 uncK y332 fun v337 y338 =>
 SV.cI IntKind.i64 v337 fun x342 =>
 uncK y338 fun v343 y344 =>
 SV.cI IntKind.i64 v343 fun x348 =>
 uncK y344 fun v349 y350 =>
 SV.cB v349 fun y352 =>
 uncK y350 fun v353 y354 =>
 SV.cL v353 fun y361 =>
 uncK y354 fun v362 y363 =>
 SV.cL v362 fun y370 =>
 uncK y363 fun v371 y372 =>
 SV.cL v371 fun y379 =>
 let S380 : St := (St.add S (AO.cells [(SV.int IntKind.i64 (0 : Int)), (SV.int IntKind.i64 (0 : Int)), (SV.int IntKind.i64 (0 : Int)), (SV.int IntKind.i64 (0 : Int)), (SV.int IntKind.i64 (0 : Int)), (SV.int IntKind.i64 (0 : Int)), (SV.int IntKind.i64 (0 : Int)), (SV.bool Bool.false), (SV.sl LV.nil), (SV.sl LV.nil), (SV.sl LV.nil)] Bool.false));
 St.wr S380 (Bk.new (St.next S)) 0 [(SV.int IntKind.i64 x312), (SV.int IntKind.i64 x318), (SV.int IntKind.i64 x324), (SV.int IntKind.i64 x330), (SV.int IntKind.i64 x336), (SV.int IntKind.i64 x342), (SV.int IntKind.i64 x348), (SV.bool y352), (SV.sl y361), (SV.sl y370), (SV.sl y379)] fun S381 =>
 St.at S381 (Bk.new (St.next S)) 0 fun y382 =>
 uncK y382 fun v383 y384 =>
 SV.cI IntKind.i64 v383 fun x388 =>
 uncK y384 fun v389 y390 =>
 SV.cI IntKind.i64 v389 fun x394 =>
 uncK y390 fun v395 y396 =>
 SV.cI IntKind.i64 v395 fun x400 =>
 uncK y396 fun v401 y402 =>
 SV.cI IntKind.i64 v401 fun x406 =>
 uncK y402 fun v407 y408 =>
 SV.cI IntKind.i64 v407 fun x412 =>
 uncK y408 fun v413 y414 =>
 SV.cI IntKind.i64 v413 fun x418 =>
 uncK y414 fun v419 y420 =>
 SV.cI IntKind.i64 v419 fun x424 =>
 uncK y420 fun v425 y426 =>
 SV.cB v425 fun y428 =>
 uncK y426 fun v429 y430 =>
 SV.cL v429 fun y437 =>
 uncK y430 fun v438 y439 =>
 SV.cL v438 fun y446 =>
 uncK y439 fun v447 y448 =>
 SV.cL v447 fun y455 =>
 FV.cs f1 fun y456 y457 y458 =>
 fnF y456 fun y459 =>
 optK (GetElem?.getElem? (Program.funcs GraphP) y459) fun y460 =>
 D y459 ((List.map ptrAV y457) ++ ([(AV.one (V1.agg [(SV.int IntKind.i64 x388), (SV.int IntKind.i64 x394), (SV.int IntKind.i64 x400), (SV.int IntKind.i64 x406), (SV.int IntKind.i64 x412), (SV.int IntKind.i64 x418), (SV.int IntKind.i64 x424), (SV.bool y428), (SV.sl y437), (SV.sl y446), (SV.sl y455)]))] ++ (List.map ptrAV y458))) S381 fun v461 S462 =>
 shapeK GraphP (Array.toList (Func.resultTypes y460)) v461 fun v463 =>
 let x464 : Int := (iwrap IntKind.i64 (x18 + (1 : Int)));
 J 6 [(AV.one (V1.s (SV.fn f1))), (AV.one (V1.s (SV.sl l9))), (AV.one (V1.s (SV.int IntKind.i64 x10))), (AV.one (V1.s (SV.int IntKind.i64 x11))), (AV.one (V1.s (SV.sl l16))), (AV.one (V1.s (SV.int IntKind.i64 x17))), (AV.one (V1.s (SV.int IntKind.i64 x464)))] S462 K)
 (let x569 : Int := (iwrap IntKind.i64 (x11 + (1 : Int)));
 J 2 [(AV.one (V1.s (SV.fn f1))), (AV.one (V1.s (SV.sl l9))), (AV.one (V1.s (SV.int IntKind.i64 x10))), (AV.one (V1.s (SV.int IntKind.i64 x569)))] S K)
noncomputable def X19_6 : X := (.op (.br (.op (.op (.op (.jmp 6 [1, 9, 10, 11, 16, 17, 18])))) (.op (.jmp 2 [1, 9, 10, 11]))))
theorem F19_6_eq (D J : Disp) (f1 : FV) (l9 : LV) (x10 : Int) (x11 : Int) (l16 : LV) (x17 : Int) (x18 : Int) (S : St) (K : AV → St → Prop) : F19_6 D J f1 l9 x10 x11 l16 x17 x18 S K = execK GraphP GraphG Go.Proofs.Try.f19 (typed GraphP D) J plans19 X19_6 (T19 6).1 (envOf (T19 6).2 [(AV.one (V1.s (SV.fn f1))), (AV.one (V1.s (SV.sl l9))), (AV.one (V1.s (SV.int IntKind.i64 x10))), (AV.one (V1.s (SV.int IntKind.i64 x11))), (AV.one (V1.s (SV.sl l16))), (AV.one (V1.s (SV.int IntKind.i64 x17))), (AV.one (V1.s (SV.int IntKind.i64 x18)))]) S K := by kernel_rfl
noncomputable abbrev A19_0 (D J : Disp) (vals : List AV) (S : St) (K : AV → St → Prop) : Prop :=
  uncA vals fun a9001 r9002 => avA a9001 fun l9004 => uncK l9004 fun s9006 r9007 => SV.cS s9006 fun s0_0 => uncK r9007 fun s9010 r9011 => SV.cI IntKind.i64 s9010 fun x0_1 => uncK r9011 fun s9014 r9015 => SV.cI IntKind.i64 s9014 fun x0_2 => uncK r9015 fun s9018 r9019 => SV.cL s9018 fun l0_3 => uncK r9019 fun s9022 r9023 => SV.cL s9022 fun l0_4 => uncK r9023 fun s9026 r9027 => SV.cB s9026 fun c0_5 => endL r9027 <| uncA r9002 fun a9031 r9032 => scK a9031 fun s9034 => SV.cF s9034 fun f1 => endL r9032 <| F19_0 D J s0_0 x0_1 x0_2 l0_3 l0_4 c0_5 f1 S K
theorem A19_0_ok {D J : Disp} (hD : DOK GraphP GraphG D) (hJ : JOK GraphP GraphG Go.Proofs.Try.f19 T19 J) {vals : List AV} {S : St} {K : AV → St → Prop} (h0 : A19_0 D J vals S K) : Runs GraphP GraphG Go.Proofs.Try.f19 (T19 0).1 (envOf (T19 0).2 vals) S K := by
  obtain ⟨a9001, r9002, rfl, h3⟩ := uncA_some h0
  obtain ⟨l9004, rfl, h5⟩ := avA_some h3
  obtain ⟨s9006, r9007, rfl, h8⟩ := uncK_some h5
  obtain ⟨s0_0, rfl, h9⟩ := cS_some h8
  obtain ⟨s9010, r9011, rfl, h12⟩ := uncK_some h9
  obtain ⟨x0_1, rfl, h13⟩ := cI_some h12
  obtain ⟨s9014, r9015, rfl, h16⟩ := uncK_some h13
  obtain ⟨x0_2, rfl, h17⟩ := cI_some h16
  obtain ⟨s9018, r9019, rfl, h20⟩ := uncK_some h17
  obtain ⟨l0_3, rfl, h21⟩ := cL_some h20
  obtain ⟨s9022, r9023, rfl, h24⟩ := uncK_some h21
  obtain ⟨l0_4, rfl, h25⟩ := cL_some h24
  obtain ⟨s9026, r9027, rfl, h28⟩ := uncK_some h25
  obtain ⟨c0_5, rfl, h29⟩ := cB_some h28
  obtain ⟨rfl, h30⟩ := endL_some h29
  obtain ⟨a9031, r9032, rfl, h33⟩ := uncA_some h30
  obtain ⟨s9034, rfl, h35⟩ := scK_some h33
  obtain ⟨f1, rfl, h36⟩ := cF_some h35
  obtain ⟨rfl, h37⟩ := endL_some h36
  rw [F19_0_eq] at h37
  exact execK_runs hD.typed Graph_zero Graph_mixed hJ X19_0 (T19 0).1 (envOf (T19 0).2 _) S K (chk_of (by kernel_rfl) (by kernel_rfl)) h37
noncomputable abbrev A19_2 (D J : Disp) (vals : List AV) (S : St) (K : AV → St → Prop) : Prop :=
  uncA vals fun a9001 r9002 => scK a9001 fun s9004 => SV.cF s9004 fun f1 => uncA r9002 fun a9007 r9008 => scK a9007 fun s9010 => SV.cL s9010 fun l9 => uncA r9008 fun a9013 r9014 => scK a9013 fun s9016 => SV.cI IntKind.i64 s9016 fun x10 => uncA r9014 fun a9019 r9020 => scK a9019 fun s9022 => SV.cI IntKind.i64 s9022 fun x11 => endL r9020 <| F19_2 D J f1 l9 x10 x11 S K
theorem A19_2_ok {D J : Disp} (hD : DOK GraphP GraphG D) (hJ : JOK GraphP GraphG Go.Proofs.Try.f19 T19 J) {vals : List AV} {S : St} {K : AV → St → Prop} (h0 : A19_2 D J vals S K) : Runs GraphP GraphG Go.Proofs.Try.f19 (T19 2).1 (envOf (T19 2).2 vals) S K := by
  obtain ⟨a9001, r9002, rfl, h3⟩ := uncA_some h0
  obtain ⟨s9004, rfl, h5⟩ := scK_some h3
  obtain ⟨f1, rfl, h6⟩ := cF_some h5
  obtain ⟨a9007, r9008, rfl, h9⟩ := uncA_some h6
  obtain ⟨s9010, rfl, h11⟩ := scK_some h9
  obtain ⟨l9, rfl, h12⟩ := cL_some h11
  obtain ⟨a9013, r9014, rfl, h15⟩ := uncA_some h12
  obtain ⟨s9016, rfl, h17⟩ := scK_some h15
  obtain ⟨x10, rfl, h18⟩ := cI_some h17
  obtain ⟨a9019, r9020, rfl, h21⟩ := uncA_some h18
  obtain ⟨s9022, rfl, h23⟩ := scK_some h21
  obtain ⟨x11, rfl, h24⟩ := cI_some h23
  obtain ⟨rfl, h25⟩ := endL_some h24
  rw [F19_2_eq] at h25
  exact execK_runs hD.typed Graph_zero Graph_mixed hJ X19_2 (T19 2).1 (envOf (T19 2).2 _) S K (chk_of (by kernel_rfl) (by kernel_rfl)) h25
noncomputable abbrev A19_6 (D J : Disp) (vals : List AV) (S : St) (K : AV → St → Prop) : Prop :=
  uncA vals fun a9001 r9002 => scK a9001 fun s9004 => SV.cF s9004 fun f1 => uncA r9002 fun a9007 r9008 => scK a9007 fun s9010 => SV.cL s9010 fun l9 => uncA r9008 fun a9013 r9014 => scK a9013 fun s9016 => SV.cI IntKind.i64 s9016 fun x10 => uncA r9014 fun a9019 r9020 => scK a9019 fun s9022 => SV.cI IntKind.i64 s9022 fun x11 => uncA r9020 fun a9025 r9026 => scK a9025 fun s9028 => SV.cL s9028 fun l16 => uncA r9026 fun a9031 r9032 => scK a9031 fun s9034 => SV.cI IntKind.i64 s9034 fun x17 => uncA r9032 fun a9037 r9038 => scK a9037 fun s9040 => SV.cI IntKind.i64 s9040 fun x18 => endL r9038 <| F19_6 D J f1 l9 x10 x11 l16 x17 x18 S K
theorem A19_6_ok {D J : Disp} (hD : DOK GraphP GraphG D) (hJ : JOK GraphP GraphG Go.Proofs.Try.f19 T19 J) {vals : List AV} {S : St} {K : AV → St → Prop} (h0 : A19_6 D J vals S K) : Runs GraphP GraphG Go.Proofs.Try.f19 (T19 6).1 (envOf (T19 6).2 vals) S K := by
  obtain ⟨a9001, r9002, rfl, h3⟩ := uncA_some h0
  obtain ⟨s9004, rfl, h5⟩ := scK_some h3
  obtain ⟨f1, rfl, h6⟩ := cF_some h5
  obtain ⟨a9007, r9008, rfl, h9⟩ := uncA_some h6
  obtain ⟨s9010, rfl, h11⟩ := scK_some h9
  obtain ⟨l9, rfl, h12⟩ := cL_some h11
  obtain ⟨a9013, r9014, rfl, h15⟩ := uncA_some h12
  obtain ⟨s9016, rfl, h17⟩ := scK_some h15
  obtain ⟨x10, rfl, h18⟩ := cI_some h17
  obtain ⟨a9019, r9020, rfl, h21⟩ := uncA_some h18
  obtain ⟨s9022, rfl, h23⟩ := scK_some h21
  obtain ⟨x11, rfl, h24⟩ := cI_some h23
  obtain ⟨a9025, r9026, rfl, h27⟩ := uncA_some h24
  obtain ⟨s9028, rfl, h29⟩ := scK_some h27
  obtain ⟨l16, rfl, h30⟩ := cL_some h29
  obtain ⟨a9031, r9032, rfl, h33⟩ := uncA_some h30
  obtain ⟨s9034, rfl, h35⟩ := scK_some h33
  obtain ⟨x17, rfl, h36⟩ := cI_some h35
  obtain ⟨a9037, r9038, rfl, h39⟩ := uncA_some h36
  obtain ⟨s9040, rfl, h41⟩ := scK_some h39
  obtain ⟨x18, rfl, h42⟩ := cI_some h41
  obtain ⟨rfl, h43⟩ := endL_some h42
  rw [F19_6_eq] at h43
  exact execK_runs hD.typed Graph_zero Graph_mixed hJ X19_6 (T19 6).1 (envOf (T19 6).2 _) S K (chk_of (by kernel_rfl) (by kernel_rfl)) h43
noncomputable def J19 (D : Disp) (k : Nat) : Disp := Nat.rec (motive := fun _ => Disp) Disp.no (fun _ ih => Disp.add 0 (A19_0 D ih) <| Disp.add 2 (A19_2 D ih) <| Disp.add 6 (A19_6 D ih) <| Disp.no) k
theorem J19_ok {D : Disp} (hD : DOK GraphP GraphG D) : ∀ k, JOK GraphP GraphG Go.Proofs.Try.f19 T19 (J19 D k)
  | 0 => JOK.no
  | k + 1 => JOK.add (ltB_ok (by kernel_rfl)) (fun vals S K h => A19_0_ok hD (J19_ok hD k) h) <| JOK.add (ltB_ok (by kernel_rfl)) (fun vals S K h => A19_2_ok hD (J19_ok hD k) h) <| JOK.add (ltB_ok (by kernel_rfl)) (fun vals S K h => A19_6_ok hD (J19_ok hD k) h) <| JOK.no
theorem E19_ok {D : Disp} (hD : DOK GraphP GraphG D) (k : Nat) {args : List AV} {S : St} {K : AV → St → Prop} (h : A19_0 D (J19 D k) args S K) : CallOK GraphP GraphG 19 args S K := by
  have hr := A19_0_ok hD (J19_ok hD k) h
  have hl : args.length = 2 := by
    have h0 := h
    obtain ⟨a9001, r9002, rfl, h3⟩ := uncA_some h0
    obtain ⟨l9004, rfl, h5⟩ := avA_some h3
    obtain ⟨s9006, r9007, rfl, h8⟩ := uncK_some h5
    obtain ⟨s0_0, rfl, h9⟩ := cS_some h8
    obtain ⟨s9010, r9011, rfl, h12⟩ := uncK_some h9
    obtain ⟨x0_1, rfl, h13⟩ := cI_some h12
    obtain ⟨s9014, r9015, rfl, h16⟩ := uncK_some h13
    obtain ⟨x0_2, rfl, h17⟩ := cI_some h16
    obtain ⟨s9018, r9019, rfl, h20⟩ := uncK_some h17
    obtain ⟨l0_3, rfl, h21⟩ := cL_some h20
    obtain ⟨s9022, r9023, rfl, h24⟩ := uncK_some h21
    obtain ⟨l0_4, rfl, h25⟩ := cL_some h24
    obtain ⟨s9026, r9027, rfl, h28⟩ := uncK_some h25
    obtain ⟨c0_5, rfl, h29⟩ := cB_some h28
    obtain ⟨rfl, h30⟩ := endL_some h29
    obtain ⟨a9031, r9032, rfl, h33⟩ := uncA_some h30
    obtain ⟨s9034, rfl, h35⟩ := scK_some h33
    obtain ⟨f1, rfl, h36⟩ := cF_some h35
    obtain ⟨rfl, h37⟩ := endL_some h36
    rfl
  refine callOK_of (fn := Go.Proofs.Try.f19) (c := (match Go.Proofs.Try.f19.body with | some c => c | none => .skip)) (by kernel_rfl) (by kernel_rfl) (by kernel_rfl) (by rw [hl]; kernel_rfl) (by kernel_rfl) ?_
  rw [hl]
  exact hr
noncomputable def plans20 (i : Nat) : Plan := if Nat.beq i 2 then [(0, []), (1, []), (2, []), (3, []), (4, [2, 3]), (5, [4, 2, 3]), (6, []), (7, [6]), (8, [7, 6]), (9, [5, 8, 4, 7, 2, 3, 6]), (10, [0, 1, 2, 3, 4, 5, 6, 7, 8, 9]), (11, [10, 9, 0, 1, 2, 3, 4, 5, 6, 7, 8])] else []
noncomputable def T20 (p : Nat) : List Item × List Nat := bif Nat.beq p 0 then ([.code (match Go.Proofs.Try.f20.body with | some c => c | none => .skip)], [0, 1, 2]) else
  ([], [])
noncomputable def F20_0 (D J : Disp) (x0_0 : Int) (x0_1 : Int) (x0_2 : Int) (x0_3 : Int) (x0_4 : Int) (x0_5 : Int) (x0_6 : Int) (c0_7 : Bool) (l0_8 : LV) (l0_9 : LV) (l0_10 : LV) (p1 : PV) (p2 : PV) (S : St) (K : AV → St → Prop) : Prop :=
 let S300 : St := (St.add S (AO.cells [(SV.int IntKind.i64 x0_0), (SV.int IntKind.i64 x0_1), (SV.int IntKind.i64 x0_2), (SV.int IntKind.i64 x0_3), (SV.int IntKind.i64 x0_4), (SV.int IntKind.i64 x0_5), (SV.int IntKind.i64 x0_6), (SV.bool c0_7), (SV.sl l0_8), (SV.sl l0_9), (SV.sl l0_10)] Bool.false));
 St.at S300 (Bk.new (St.next S)) 0 fun y301 =>
 uncK y301 fun v302 y303 =>
 SV.cI IntKind.i64 v302 fun x307 =>
 let c308 : Bool := (ieq x307 (9 : Int));
 ifK c308
 (PV.cs p1 fun b309 n310 =>
 St.at S300 b309 n310 fun y311 =>
 uncK y311 fun v312 y313 =>
 SV.cL v312 fun y320 =>
 PV.cs p2 fun b321 n322 =>
 St.at S300 b321 n322 fun y323 =>
 uncK y323 fun v324 y325 =>
 SV.cI IntKind.i64 v324 fun x329 =>
 PV.cs p1 fun b330 n331 =>
 St.at S300 b330 n331 fun y332 =>
 uncK y332 fun v333 y334 =>
 SV.cL v333 fun y341 =>
 PV.cs p2 fun b342 n343 =>
 St.at S300 b342 n343 fun y344 =>
 uncK y344 fun v345 y346 =>
 SV.cI IntKind.i64 v345 fun x350 =>
 LV.cs y341 fun b351 n352 n353 y354 =>
 req (Bool.and (ile (0 : Int) x350) (ilt x350 (Int.ofNat n353))) <|
 let n355 : Nat := (n352 + ((Int.toNat x350) * 1));
 St.at S300 b351 n355 fun y356 =>
 uncK y356 fun v357 y358 =>
 SV.cL v357 fun y365 =>
 St.at S300 (Bk.new (St.next S)) 5 fun y366 =>
 uncK y366 fun v367 y368 =>
 SV.cI IntKind.i64 v367 fun x372 =>
 let o373 : AO := (AO.cells [(SV.int IntKind.i64 x372)] Bool.false);
 let d374 : (Sum Nat Nat) := (Sum.inl 1);
 let S375 : St := (St.add S300 o373);
 St.src S375 1 (LV.mk (Bk.new (St.next S300)) 0 1 d374) fun y376 n377 =>
 St.app S375 1 8 y365 y376 n377 fun y378 S379 =>
 PV.cs p2 fun b380 n381 =>
 St.at S379 b380 n381 fun y382 =>
 uncK y382 fun v383 y384 =>
 SV.cI IntKind.i64 v383 fun x388 =>
 req (sameAV (AV.one (V1.s (SV.int IntKind.i64 x388))) (AV.one (V1.s (SV.int IntKind.i64 x329)))) <|
 PV.cs p1 fun b389 n390 =>
 St.at S379 b389 n390 fun y391 =>
 uncK y391 fun v392 y393 =>
 SV.cL v392 fun y400 =>
 req (sameAV (AV.one (V1.s (SV.sl y400))) (AV.one (V1.s (SV.sl y320)))) <|
 LV.cs y320 fun b401 n402 n403 y404 =>
 req (Bool.and (ile (0 : Int) x329) (ilt x329 (Int.ofNat n403))) <|
 let n405 : Nat := (n402 + ((Int.toNat x329) * 1));
 St.wr S379 b401 n405 [(SV.sl y378)] fun S406 =>
 K ((AV.tup [])) S406)
 (K ((AV.tup [])) S300)
noncomputable def X20_0 : X := (.op (.op (.br (.op .ret) .ret)))
theorem F20_0_eq (D J : Disp) (x0_0 : Int) (x0_1 : Int) (x0_2 : Int) (x0_3 : Int) (x0_4 : Int) (x0_5 : Int) (x0_6 : Int) (c0_7 : Bool) (l0_8 : LV) (l0_9 : LV) (l0_10 : LV) (p1 : PV) (p2 : PV) (S : St) (K : AV → St → Prop) : F20_0 D J x0_0 x0_1 x0_2 x0_3 x0_4 x0_5 x0_6 c0_7 l0_8 l0_9 l0_10 p1 p2 S K = execK GraphP GraphG Go.Proofs.Try.f20 (typed GraphP D) J plans20 X20_0 (T20 0).1 (envOf (T20 0).2 [(AV.one (V1.agg [(SV.int IntKind.i64 x0_0), (SV.int IntKind.i64 x0_1), (SV.int IntKind.i64 x0_2), (SV.int IntKind.i64 x0_3), (SV.int IntKind.i64 x0_4), (SV.int IntKind.i64 x0_5), (SV.int IntKind.i64 x0_6), (SV.bool c0_7), (SV.sl l0_8), (SV.sl l0_9), (SV.sl l0_10)])), (AV.one (V1.s (SV.ptr p1))), (AV.one (V1.s (SV.ptr p2)))]) S K := by kernel_rfl
noncomputable abbrev A20_0 (D J : Disp) (vals : List AV) (S : St) (K : AV → St → Prop) : Prop :=
  uncA vals fun a9001 r9002 => avA a9001 fun l9004 => uncK l9004 fun s9006 r9007 => SV.cI IntKind.i64 s9006 fun x0_0 => uncK r9007 fun s9010 r9011 => SV.cI IntKind.i64 s9010 fun x0_1 => uncK r9011 fun s9014 r9015 => SV.cI IntKind.i64 s9014 fun x0_2 => uncK r9015 fun s9018 r9019 => SV.cI IntKind.i64 s9018 fun x0_3 => uncK r9019 fun s9022 r9023 => SV.cI IntKind.i64 s9022 fun x0_4 => uncK r9023 fun s9026 r9027 => SV.cI IntKind.i64 s9026 fun x0_5 => uncK r9027 fun s9030 r9031 => SV.cI IntKind.i64 s9030 fun x0_6 => uncK r9031 fun s9034 r9035 => SV.cB s9034 fun c0_7 => uncK r9035 fun s9038 r9039 => SV.cL s9038 fun l0_8 => uncK r9039 fun s9042 r9043 => SV.cL s9042 fun l0_9 => uncK r9043 fun s9046 r9047 => SV.cL s9046 fun l0_10 => endL r9047 <| uncA r9002 fun a9051 r9052 => scK a9051 fun s9054 => SV.cP s9054 fun p1 => uncA r9052 fun a9057 r9058 => scK a9057 fun s9060 => SV.cP s9060 fun p2 => endL r9058 <| F20_0 D J x0_0 x0_1 x0_2 x0_3 x0_4 x0_5 x0_6 c0_7 l0_8 l0_9 l0_10 p1 p2 S K
theorem A20_0_ok {D J : Disp} (hD : DOK GraphP GraphG D) (hJ : JOK GraphP GraphG Go.Proofs.Try.f20 T20 J) {vals : List AV} {S : St} {K : AV → St → Prop} (h0 : A20_0 D J vals S K) : Runs GraphP GraphG Go.Proofs.Try.f20 (T20 0).1 (envOf (T20 0).2 vals) S K := by
  obtain ⟨a9001, r9002, rfl, h3⟩ := uncA_some h0
  obtain ⟨l9004, rfl, h5⟩ := avA_some h3
  obtain ⟨s9006, r9007, rfl, h8⟩ := uncK_some h5
  obtain ⟨x0_0, rfl, h9⟩ := cI_some h8
  obtain ⟨s9010, r9011, rfl, h12⟩ := uncK_some h9
  obtain ⟨x0_1, rfl, h13⟩ := cI_some h12
  obtain ⟨s9014, r9015, rfl, h16⟩ := uncK_some h13
  obtain ⟨x0_2, rfl, h17⟩ := cI_some h16
  obtain ⟨s9018, r9019, rfl, h20⟩ := uncK_some h17
  obtain ⟨x0_3, rfl, h21⟩ := cI_some h20
  obtain ⟨s9022, r9023, rfl, h24⟩ := uncK_some h21
  obtain ⟨x0_4, rfl, h25⟩ := cI_some h24
  obtain ⟨s9026, r9027, rfl, h28⟩ := uncK_some h25
  obtain ⟨x0_5, rfl, h29⟩ := cI_some h28
  obtain ⟨s9030, r9031, rfl, h32⟩ := uncK_some h29
  obtain ⟨x0_6, rfl, h33⟩ := cI_some h32
  obtain ⟨s9034, r9035, rfl, h36⟩ := uncK_some h33
  obtain ⟨c0_7, rfl, h37⟩ := cB_some h36
  obtain ⟨s9038, r9039, rfl, h40⟩ := uncK_some h37
  obtain ⟨l0_8, rfl, h41⟩ := cL_some h40
  obtain ⟨s9042, r9043, rfl, h44⟩ := uncK_some h41
  obtain ⟨l0_9, rfl, h45⟩ := cL_some h44
  obtain ⟨s9046, r9047, rfl, h48⟩ := uncK_some h45
  obtain ⟨l0_10, rfl, h49⟩ := cL_some h48
  obtain ⟨rfl, h50⟩ := endL_some h49
  obtain ⟨a9051, r9052, rfl, h53⟩ := uncA_some h50
  obtain ⟨s9054, rfl, h55⟩ := scK_some h53
  obtain ⟨p1, rfl, h56⟩ := cP_some h55
  obtain ⟨a9057, r9058, rfl, h59⟩ := uncA_some h56
  obtain ⟨s9060, rfl, h61⟩ := scK_some h59
  obtain ⟨p2, rfl, h62⟩ := cP_some h61
  obtain ⟨rfl, h63⟩ := endL_some h62
  rw [F20_0_eq] at h63
  exact execK_runs hD.typed Graph_zero Graph_mixed hJ X20_0 (T20 0).1 (envOf (T20 0).2 _) S K (chk_of (by kernel_rfl) (by kernel_rfl)) h63
noncomputable def J20 (D : Disp) (k : Nat) : Disp := Nat.rec (motive := fun _ => Disp) Disp.no (fun _ ih => Disp.add 0 (A20_0 D ih) <| Disp.no) k
theorem J20_ok {D : Disp} (hD : DOK GraphP GraphG D) : ∀ k, JOK GraphP GraphG Go.Proofs.Try.f20 T20 (J20 D k)
  | 0 => JOK.no
  | k + 1 => JOK.add (ltB_ok (by kernel_rfl)) (fun vals S K h => A20_0_ok hD (J20_ok hD k) h) <| JOK.no
theorem E20_ok {D : Disp} (hD : DOK GraphP GraphG D) (k : Nat) {args : List AV} {S : St} {K : AV → St → Prop} (h : A20_0 D (J20 D k) args S K) : CallOK GraphP GraphG 20 args S K := by
  have hr := A20_0_ok hD (J20_ok hD k) h
  have hl : args.length = 3 := by
    have h0 := h
    obtain ⟨a9001, r9002, rfl, h3⟩ := uncA_some h0
    obtain ⟨l9004, rfl, h5⟩ := avA_some h3
    obtain ⟨s9006, r9007, rfl, h8⟩ := uncK_some h5
    obtain ⟨x0_0, rfl, h9⟩ := cI_some h8
    obtain ⟨s9010, r9011, rfl, h12⟩ := uncK_some h9
    obtain ⟨x0_1, rfl, h13⟩ := cI_some h12
    obtain ⟨s9014, r9015, rfl, h16⟩ := uncK_some h13
    obtain ⟨x0_2, rfl, h17⟩ := cI_some h16
    obtain ⟨s9018, r9019, rfl, h20⟩ := uncK_some h17
    obtain ⟨x0_3, rfl, h21⟩ := cI_some h20
    obtain ⟨s9022, r9023, rfl, h24⟩ := uncK_some h21
    obtain ⟨x0_4, rfl, h25⟩ := cI_some h24
    obtain ⟨s9026, r9027, rfl, h28⟩ := uncK_some h25
    obtain ⟨x0_5, rfl, h29⟩ := cI_some h28
    obtain ⟨s9030, r9031, rfl, h32⟩ := uncK_some h29
    obtain ⟨x0_6, rfl, h33⟩ := cI_some h32
    obtain ⟨s9034, r9035, rfl, h36⟩ := uncK_some h33
    obtain ⟨c0_7, rfl, h37⟩ := cB_some h36
    obtain ⟨s9038, r9039, rfl, h40⟩ := uncK_some h37
    obtain ⟨l0_8, rfl, h41⟩ := cL_some h40
    obtain ⟨s9042, r9043, rfl, h44⟩ := uncK_some h41
    obtain ⟨l0_9, rfl, h45⟩ := cL_some h44
    obtain ⟨s9046, r9047, rfl, h48⟩ := uncK_some h45
    obtain ⟨l0_10, rfl, h49⟩ := cL_some h48
    obtain ⟨rfl, h50⟩ := endL_some h49
    obtain ⟨a9051, r9052, rfl, h53⟩ := uncA_some h50
    obtain ⟨s9054, rfl, h55⟩ := scK_some h53
    obtain ⟨p1, rfl, h56⟩ := cP_some h55
    obtain ⟨a9057, r9058, rfl, h59⟩ := uncA_some h56
    obtain ⟨s9060, rfl, h61⟩ := scK_some h59
    obtain ⟨p2, rfl, h62⟩ := cP_some h61
    obtain ⟨rfl, h63⟩ := endL_some h62
    rfl
  refine callOK_of (fn := Go.Proofs.Try.f20) (c := (match Go.Proofs.Try.f20.body with | some c => c | none => .skip)) (by kernel_rfl) (by kernel_rfl) (by kernel_rfl) (by rw [hl]; kernel_rfl) (by kernel_rfl) ?_
  rw [hl]
  exact hr
noncomputable def plans21 (i : Nat) : Plan := []
noncomputable def T21 (p : Nat) : List Item × List Nat := bif Nat.beq p 0 then ([.code (match Go.Proofs.Try.f21.body with | some c => c | none => .skip)], [0, 1]) else
  bif Nat.beq p 3 then (navs [.op, .op, .op] [.code (match Go.Proofs.Try.f21.body with | some c => c | none => .skip)], [0, 5, 6]) else
  ([], [])
noncomputable def F21_0 (D J : Disp) (l0 : LV) (l1 : LV) (S : St) (K : AV → St → Prop) : Prop :=
 let S300 : St := (St.add S (AO.map [] 0));
 D 30 [(AV.one (V1.s (SV.sl l1)))] S300 fun v301 S302 =>
 scK v301 fun v304 =>
 SV.cL v304 fun y310 =>
 J 3 [(AV.one (V1.s (SV.sl l0))), (AV.one (V1.s (SV.map (MV.mk (Bk.new (St.next S)))))), (AV.one (V1.s (SV.sl y310)))] S302 K
noncomputable def X21_0 : X := (.op (.op (.op (.jmp 3 [0, 5, 6]))))
theorem F21_0_eq (D J : Disp) (l0 : LV) (l1 : LV) (S : St) (K : AV → St → Prop) : F21_0 D J l0 l1 S K = execK GraphP GraphG Go.Proofs.Try.f21 (typed GraphP D) J plans21 X21_0 (T21 0).1 (envOf (T21 0).2 [(AV.one (V1.s (SV.sl l0))), (AV.one (V1.s (SV.sl l1)))]) S K := by kernel_rfl
noncomputable def F21_3 (D J : Disp) (l0 : LV) (m5 : MV) (l6 : LV) (S : St) (K : AV → St → Prop) : Prop :=
 let x300 : Int := (Int.ofNat (LV.len l6));
 let c301 : Bool := (ilt (0 : Int) x300);
 ifK c301
 (let x302 : Int := (Int.ofNat (LV.len l6));
 let x303 : Int := (iwrap IntKind.i64 (x302 - (1 : Int)));
 LV.cs l6 fun b304 n305 n306 y307 =>
 req (Bool.and (ile (0 : Int) x303) (ilt x303 (Int.ofNat n306))) <|
 let n308 : Nat := (n305 + ((Int.toNat x303) * 1));
 St.at S b304 n308 fun y309 =>
 uncK y309 fun v310 y311 =>
 SV.cI IntKind.i64 v310 fun x315 =>
 let x316 : Int := (Int.ofNat (LV.len l6));
 let x317 : Int := (iwrap IntKind.i64 (x316 - (1 : Int)));
 LV.on l6 (req (Bool.and Bool.true (Bool.and (ile (0 : Int) (oInt (Option.some x317) (0 : Int))) (ile (oInt (Option.some x317) (0 : Int)) (0 : Int)))) <|
 St.lookup GraphP S 3 (V1.s (SV.bool Bool.false)) m5 (V1.s (SV.int IntKind.i64 x315)) fun v318 y319 =>
 v1S v318 fun v320 =>
 SV.cB v320 fun y321 =>
 ifK y321
 (J 3 [(AV.one (V1.s (SV.sl l0))), (AV.one (V1.s (SV.map m5))), (AV.one (V1.s (SV.sl LV.nil)))] S K)
 (St.mput GraphP S 3 m5 (V1.s (SV.int IntKind.i64 x315)) (V1.s (SV.bool Bool.true)) fun S322 =>
 LV.cs l0 fun b323 n324 n325 y326 =>
 req (Bool.and (ile (0 : Int) x315) (ilt x315 (Int.ofNat n325))) <|
 let n327 : Nat := (n324 + ((Int.toNat x315) * 1));
 St.at S322 b323 n327 fun y328 =>
 uncK y328 fun v329 y330 =>
 SV.cL v329 fun y337 =>
 St.src S322 1 y337 fun y338 n339 =>
 St.app S322 1 8 LV.nil y338 n339 fun y340 S341 =>
 J 3 [(AV.one (V1.s (SV.sl l0))), (AV.one (V1.s (SV.map m5))), (AV.one (V1.s (SV.sl y340)))] S341 K)) fun b352 n353 n354 y355 =>
 sumOn y355 (fun n356 =>
 req (Bool.and Bool.true (Bool.and (ile (0 : Int) (oInt (Option.some x317) (Int.ofNat n354))) (ile (oInt (Option.some x317) (Int.ofNat n354)) (Int.ofNat n356)))) <|
 let n357 : Nat := (n353 + 0);
 let n358 : Nat := ((Int.toNat (oInt (Option.some x317) (Int.ofNat n354))) - 0);
 let d359 : (Sum Nat Nat) := (Sum.inl ((Int.toNat (oInt Option.none (Int.ofNat n356))) - 0));
 St.lookup GraphP S 3 (V1.s (SV.bool Bool.false)) m5 (V1.s (SV.int IntKind.i64 x315)) fun v360 y361 =>
 v1S v360 fun v362 =>
 SV.cB v362 fun y363 =>
 ifK y363
 (J 3 [(AV.one (V1.s (SV.sl l0))), (AV.one (V1.s (SV.map m5))), (AV.one (V1.s (SV.sl (LV.mk b352 n357 n358 d359))))] S K)
 (St.mput GraphP S 3 m5 (V1.s (SV.int IntKind.i64 x315)) (V1.s (SV.bool Bool.true)) fun S364 =>
 LV.cs l0 fun b365 n366 n367 y368 =>
 req (Bool.and (ile (0 : Int) x315) (ilt x315 (Int.ofNat n367))) <|
 let n369 : Nat := (n366 + ((Int.toNat x315) * 1));
 St.at S364 b365 n369 fun y370 =>
 uncK y370 fun v371 y372 =>
 SV.cL v371 fun y379 =>
 St.src S364 1 y379 fun y380 n381 =>
 St.app S364 1 8 (LV.mk b352 n357 n358 d359) y380 n381 fun y382 S383 =>
 J 3 [(AV.one (V1.s (SV.sl l0))), (AV.one (V1.s (SV.map m5))), (AV.one (V1.s (SV.sl y382)))] S383 K)) fun y394 =>
 req (Nat.beq 1 y394) <|
 req (Bool.and Bool.true (Bool.and (ile (0 : Int) (oInt (Option.some x317) (Int.ofNat n354))) (ile (oInt (Option.some x317) (Int.ofNat n354)) (Int.ofNat n354)))) <|
 let n395 : Nat := (n353 + 0);
 let n396 : Nat := ((Int.toNat (oInt (Option.some x317) (Int.ofNat n354))) - 0);
 let d397 : (Sum Nat Nat) := (Sum.inr 1);
 St.lookup GraphP S 3 (V1.s (SV.bool Bool.false)) m5 (V1.s (SV.int IntKind.i64 x315)) fun v398 y399 =>
 v1S v398 fun v400 =>
 SV.cB v400 fun y401 =>
 ifK y401
 (J 3 [(AV.one (V1.s (SV.sl l0))), (AV.one (V1.s (SV.map m5))), (AV.one (V1.s (SV.sl (LV.mk b352 n395 n396 d397))))] S K)
 (St.mput GraphP S 3 m5 (V1.s (SV.int IntKind.i64 x315)) (V1.s (SV.bool Bool.true)) fun S402 =>
 LV.cs l0 fun b403 n404 n405 y406 =>
 req (Bool.and (ile (0 : Int) x315) (ilt x315 (Int.ofNat n405))) <|
 let n407 : Nat := (n404 + ((Int.toNat x315) * 1));
 St.at S402 b403 n407 fun y408 =>
 uncK y408 fun v409 y410 =>
 SV.cL v409 fun y417 =>
 St.src S402 1 y417 fun y418 n419 =>
 St.app S402 1 8 (LV.mk b352 n395 n396 d397) y418 n419 fun y420 S421 =>
 J 3 [(AV.one (V1.s (SV.sl l0))), (AV.one (V1.s (SV.map m5))), (AV.one (V1.s (SV.sl y420)))] S421 K))
 (K ((AV.one (V1.s (SV.map m5)))) S)
noncomputable def X21_3 : X := (.op (.br (.op (.op (.op (.br (.jmp 3 [0, 5, 6]) (.op (.op (.jmp 3 [0, 5, 6]))))))) (.op .ret)))
theorem F21_3_eq (D J : Disp) (l0 : LV) (m5 : MV) (l6 : LV) (S : St) (K : AV → St → Prop) : F21_3 D J l0 m5 l6 S K = execK GraphP GraphG Go.Proofs.Try.f21 (typed GraphP D) J plans21 X21_3 (T21 3).1 (envOf (T21 3).2 [(AV.one (V1.s (SV.sl l0))), (AV.one (V1.s (SV.map m5))), (AV.one (V1.s (SV.sl l6)))]) S K := by kernel_rfl
noncomputable abbrev A21_0 (D J : Disp) (vals : List AV) (S : St) (K : AV → St → Prop) : Prop :=
  uncA vals fun a9001 r9002 => scK a9001 fun s9004 => SV.cL s9004 fun l0 => uncA r9002 fun a9007 r9008 => scK a9007 fun s9010 => SV.cL s9010 fun l1 => endL r9008 <| F21_0 D J l0 l1 S K
theorem A21_0_ok {D J : Disp} (hD : DOK GraphP GraphG D) (hJ : JOK GraphP GraphG Go.Proofs.Try.f21 T21 J) {vals : List AV} {S : St} {K : AV → St → Prop} (h0 : A21_0 D J vals S K) : Runs GraphP GraphG Go.Proofs.Try.f21 (T21 0).1 (envOf (T21 0).2 vals) S K := by
  obtain ⟨a9001, r9002, rfl, h3⟩ := uncA_some h0
  obtain ⟨s9004, rfl, h5⟩ := scK_some h3
  obtain ⟨l0, rfl, h6⟩ := cL_some h5
  obtain ⟨a9007, r9008, rfl, h9⟩ := uncA_some h6
  obtain ⟨s9010, rfl, h11⟩ := scK_some h9
  obtain ⟨l1, rfl, h12⟩ := cL_some h11
  obtain ⟨rfl, h13⟩ := endL_some h12
  rw [F21_0_eq] at h13
  exact execK_runs hD.typed Graph_zero Graph_mixed hJ X21_0 (T21 0).1 (envOf (T21 0).2 _) S K (chk_of (by kernel_rfl) (by kernel_rfl)) h13
noncomputable abbrev A21_3 (D J : Disp) (vals : List AV) (S : St) (K : AV → St → Prop) : Prop :=
  uncA vals fun a9001 r9002 => scK a9001 fun s9004 => SV.cL s9004 fun l0 => uncA r9002 fun a9007 r9008 => scK a9007 fun s9010 => SV.cM s9010 fun m5 => uncA r9008 fun a9013 r9014 => scK a9013 fun s9016 => SV.cL s9016 fun l6 => endL r9014 <| F21_3 D J l0 m5 l6 S K
theorem A21_3_ok {D J : Disp} (hD : DOK GraphP GraphG D) (hJ : JOK GraphP GraphG Go.Proofs.Try.f21 T21 J) {vals : List AV} {S : St} {K : AV → St → Prop} (h0 : A21_3 D J vals S K) : Runs GraphP GraphG Go.Proofs.Try.f21 (T21 3).1 (envOf (T21 3).2 vals) S K := by
  obtain ⟨a9001, r9002, rfl, h3⟩ := uncA_some h0
  obtain ⟨s9004, rfl, h5⟩ := scK_some h3
  obtain ⟨l0, rfl, h6⟩ := cL_some h5
  obtain ⟨a9007, r9008, rfl, h9⟩ := uncA_some h6
  obtain ⟨s9010, rfl, h11⟩ := scK_some h9
  obtain ⟨m5, rfl, h12⟩ := cM_some h11
  obtain ⟨a9013, r9014, rfl, h15⟩ := uncA_some h12
  obtain ⟨s9016, rfl, h17⟩ := scK_some h15
  obtain ⟨l6, rfl, h18⟩ := cL_some h17
  obtain ⟨rfl, h19⟩ := endL_some h18
  rw [F21_3_eq] at h19
  exact execK_runs hD.typed Graph_zero Graph_mixed hJ X21_3 (T21 3).1 (envOf (T21 3).2 _) S K (chk_of (by kernel_rfl) (by kernel_rfl)) h19
noncomputable def J21 (D : Disp) (k : Nat) : Disp := Nat.rec (motive := fun _ => Disp) Disp.no (fun _ ih => Disp.add 0 (A21_0 D ih) <| Disp.add 3 (A21_3 D ih) <| Disp.no) k
theorem J21_ok {D : Disp} (hD : DOK GraphP GraphG D) : ∀ k, JOK GraphP GraphG Go.Proofs.Try.f21 T21 (J21 D k)
  | 0 => JOK.no
  | k + 1 => JOK.add (ltB_ok (by kernel_rfl)) (fun vals S K h => A21_0_ok hD (J21_ok hD k) h) <| JOK.add (ltB_ok (by kernel_rfl)) (fun vals S K h => A21_3_ok hD (J21_ok hD k) h) <| JOK.no
theorem E21_ok {D : Disp} (hD : DOK GraphP GraphG D) (k : Nat) {args : List AV} {S : St} {K : AV → St → Prop} (h : A21_0 D (J21 D k) args S K) : CallOK GraphP GraphG 21 args S K := by
  have hr := A21_0_ok hD (J21_ok hD k) h
  have hl : args.length = 2 := by
    have h0 := h
    obtain ⟨a9001, r9002, rfl, h3⟩ := uncA_some h0
    obtain ⟨s9004, rfl, h5⟩ := scK_some h3
    obtain ⟨l0, rfl, h6⟩ := cL_some h5
    obtain ⟨a9007, r9008, rfl, h9⟩ := uncA_some h6
    obtain ⟨s9010, rfl, h11⟩ := scK_some h9
    obtain ⟨l1, rfl, h12⟩ := cL_some h11
    obtain ⟨rfl, h13⟩ := endL_some h12
    rfl
  refine callOK_of (fn := Go.Proofs.Try.f21) (c := (match Go.Proofs.Try.f21.body with | some c => c | none => .skip)) (by kernel_rfl) (by kernel_rfl) (by kernel_rfl) (by rw [hl]; kernel_rfl) (by kernel_rfl) ?_
  rw [hl]
  exact hr
noncomputable def plans22 (i : Nat) : Plan := []
noncomputable def T22 (p : Nat) : List Item × List Nat := bif Nat.beq p 0 then ([.code (match Go.Proofs.Try.f22.body with | some c => c | none => .skip)], [0]) else
  bif Nat.beq p 3 then (navs [.op, .op, .op] [.code (match Go.Proofs.Try.f22.body with | some c => c | none => .skip)], [3, 10, 11, 12]) else
  bif Nat.beq p 7 then (navs [.op, .op, .op, .op, .th, .op, .op] [.code (match Go.Proofs.Try.f22.body with | some c => c | none => .skip)], [3, 10, 11, 12, 17, 18, 19]) else
  bif Nat.beq p 13 then (navs [.op, .op, .op, .op, .th, .op, .op, .op, .th, .op, .op, .th, .op] [.code (match Go.Proofs.Try.f22.body with | some c => c | none => .skip)], [3, 10, 11, 12, 17, 18, 19]) else
  ([], [])
noncomputable def F22_0 (D J : Disp) (l0_0 : LV) (l0_1 : LV) (x0_2 : Int) (S : St) (K : AV → St → Prop) : Prop :=
 let S300 : St := (St.add S (AO.cells [(SV.sl l0_0), (SV.sl l0_1), (SV.int IntKind.i64 x0_2)] Bool.false));
 let S301 : St := (St.add S300 (AO.map [] 0));
 St.at S301 (Bk.new (St.next S)) 0 fun y302 =>
 uncK y302 fun v303 y304 =>
 SV.cL v303 fun y311 =>
 let x312 : Int := (Int.ofNat (LV.len y311));
 J 3 [(AV.one (V1.s (SV.map (MV.mk (Bk.new (St.next S300)))))), (AV.one (V1.s (SV.sl y311))), (AV.one (V1.s (SV.int IntKind.i64 x312))), (AV.one (V1.s (SV.int IntKind.i64 (0 : Int))))] S301 K
noncomputable def X22_0 : X := (.op (.op (.op (.jmp 3 [3, 10, 11, 12]))))
theorem F22_0_eq (D J : Disp) (l0_0 : LV) (l0_1 : LV) (x0_2 : Int) (S : St) (K : AV → St → Prop) : F22_0 D J l0_0 l0_1 x0_2 S K = execK GraphP GraphG Go.Proofs.Try.f22 (typed GraphP D) J plans22 X22_0 (T22 0).1 (envOf (T22 0).2 [(AV.one (V1.agg [(SV.sl l0_0), (SV.sl l0_1), (SV.int IntKind.i64 x0_2)]))]) S K := by kernel_rfl
noncomputable def F22_3 (D J : Disp) (m3 : MV) (l10 : LV) (x11 : Int) (x12 : Int) (S : St) (K : AV → St → Prop) : Prop :=
 let c300 : Bool := (ilt x12 x11);
 ifK c300
 (LV.cs l10 fun b301 n302 n303 y304 =>
 req (Bool.and (ile (0 : Int) x12) (ilt x12 (Int.ofNat n303))) <|
 let n305 : Nat := (n302 + ((Int.toNat x12) * 3));
 St.at S b301 n305 fun y306 =>
 uncK y306 fun v307 y308 =>
 SV.cS v307 fun y313 =>
 uncK y308 fun v314 y315 =>
 SV.cI IntKind.i64 v314 fun x319 =>
 uncK y315 fun v320 y321 =>
 SV.cL v320 fun y328 =>
 let S329 : St := (St.add S (AO.cells [(SV.str []), (SV.int IntKind.i64 (0 : Int)), (SV.sl LV.nil)] Bool.false));
 St.wr S329 (Bk.new (St.next S)) 0 [(SV.str y313), (SV.int IntKind.i64 x319), (SV.sl y328)] fun S330 =>
 St.at S330 (Bk.new (St.next S)) 2 fun y331 =>
 uncK y331 fun v332 y333 =>
 SV.cL v332 fun y340 =>
 let x341 : Int := (Int.ofNat (LV.len y340));
 J 7 [(AV.one (V1.s (SV.map m3))), (AV.one (V1.s (SV.sl l10))), (AV.one (V1.s (SV.int IntKind.i64 x11))), (AV.one (V1.s (SV.int IntKind.i64 x12))), (AV.one (V1.s (SV.sl y340))), (AV.one (V1.s (SV.int IntKind.i64 x341))), (AV.one (V1.s (SV.int IntKind.i64 (0 : Int))))] S330 K)
 (K ((AV.one (V1.s (SV.map m3)))) S)
noncomputable def X22_3 : X := (.op (.br (.op (.op (.jmp 7 [3, 10, 11, 12, 17, 18, 19]))) (.op .ret)))
theorem F22_3_eq (D J : Disp) (m3 : MV) (l10 : LV) (x11 : Int) (x12 : Int) (S : St) (K : AV → St → Prop) : F22_3 D J m3 l10 x11 x12 S K = execK GraphP GraphG Go.Proofs.Try.f22 (typed GraphP D) J plans22 X22_3 (T22 3).1 (envOf (T22 3).2 [(AV.one (V1.s (SV.map m3))), (AV.one (V1.s (SV.sl l10))), (AV.one (V1.s (SV.int IntKind.i64 x11))), (AV.one (V1.s (SV.int IntKind.i64 x12)))]) S K := by kernel_rfl
noncomputable def F22_7 (D J : Disp) (m3 : MV) (l10 : LV) (x11 : Int) (x12 : Int) (l17 : LV) (x18 : Int) (x19 : Int) (S : St) (K : AV → St → Prop) : Prop :=
 let c300 : Bool := (ilt x19 x18);
 ifK c300
 (LV.cs l17 fun b301 n302 n303 y304 =>
 req (Bool.and (ile (0 : Int) x19) (ilt x19 (Int.ofNat n303))) <|
 let n305 : Nat := (n302 + ((Int.toNat x19) * 4));
 St.at S b301 n305 fun y306 =>
 uncK y306 fun v307 y308 =>
 SV.cI IntKind.i64 v307 fun x312 =>
 uncK y308 fun v313 y314 =>
 SV.cI IntKind.i64 v313 fun x318 =>
 uncK y314 fun v319 y320 =>
 SV.cI IntKind.i64 v319 fun x324 =>
 uncK y320 fun v325 y326 =>
 SV.cI IntKind.i64 v325 fun x330 =>
 let S331 : St := (St.add S (AO.cells [(SV.int IntKind.i64 (0 : Int)), (SV.int IntKind.i64 (0 : Int)), (SV.int IntKind.i64 (0 : Int)), (SV.int IntKind.i64 (0 : Int))] Bool.false));
 St.wr S331 (Bk.new (St.next S)) 0 [(SV.int IntKind.i64 x312), (SV.int IntKind.i64 x318), (SV.int IntKind.i64 x324), (SV.int IntKind.i64 x330)] fun S332 =>
 St.at S332 (Bk.new (St.next S)) 2 fun y333 =>
 uncK y333 fun v334 y335 =>
 SV.cI IntKind.i64 v334 fun x339 =>
 let c340 : Bool := (ilt (0 : Int) x339);
 ifK c340
 (St.at S332 (Bk.new (St.next S)) 2 fun y341 =>
 uncK y341 fun v342 y343 =>
 SV.cI IntKind.i64 v342 fun x347 =>
 let x348 : Int := (iwrap IntKind.i64 (x347 - (1 : Int)));
 St.mput GraphP S332 3 m3 (V1.s (SV.int IntKind.i64 x348)) (V1.s (SV.bool Bool.true)) fun S349 =>
 J 13 [(AV.one (V1.s (SV.map m3))), (AV.one (V1.s (SV.sl l10))), (AV.one (V1.s (SV.int IntKind.i64 x11))), (AV.one (V1.s (SV.int IntKind.i64 x12))), (AV.one (V1.s (SV.sl l17))), (AV.one (V1.s (SV.int IntKind.i64 x18))), (AV.one (V1.s (SV.int IntKind.i64 x19)))] S349 K)
 (J 13 [(AV.one (V1.s (SV.map m3))), (AV.one (V1.s (SV.sl l10))), (AV.one (V1.s (SV.int IntKind.i64 x11))), (AV.one (V1.s (SV.int IntKind.i64 x12))), (AV.one (V1.s (SV.sl l17))), (AV.one (V1.s (SV.int IntKind.i64 x18))), (AV.one (V1.s (SV.int IntKind.i64 x19)))] S332 K))
 (let x380 : Int := (iwrap IntKind.i64 (x12 + (1 : Int)));
 J 3 [(AV.one (V1.s (SV.map m3))), (AV.one (V1.s (SV.sl l10))), (AV.one (V1.s (SV.int IntKind.i64 x11))), (AV.one (V1.s (SV.int IntKind.i64 x380)))] S K)
noncomputable def X22_7 : X := (.op (.br (.op (.op (.br (.op (.jmp 13 [3, 10, 11, 12, 17, 18, 19])) (.jmp 13 [3, 10, 11, 12, 17, 18, 19])))) (.op (.jmp 3 [3, 10, 11, 12]))))
theorem F22_7_eq (D J : Disp) (m3 : MV) (l10 : LV) (x11 : Int) (x12 : Int) (l17 : LV) (x18 : Int) (x19 : Int) (S : St) (K : AV → St → Prop) : F22_7 D J m3 l10 x11 x12 l17 x18 x19 S K = execK GraphP GraphG Go.Proofs.Try.f22 (typed GraphP D) J plans22 X22_7 (T22 7).1 (envOf (T22 7).2 [(AV.one (V1.s (SV.map m3))), (AV.one (V1.s (SV.sl l10))), (AV.one (V1.s (SV.int IntKind.i64 x11))), (AV.one (V1.s (SV.int IntKind.i64 x12))), (AV.one (V1.s (SV.sl l17))), (AV.one (V1.s (SV.int IntKind.i64 x18))), (AV.one (V1.s (SV.int IntKind.i64 x19)))]) S K := by kernel_rfl
noncomputable def F22_13 (D J : Disp) (m3 : MV) (l10 : LV) (x11 : Int) (x12 : Int) (l17 : LV) (x18 : Int) (x19 : Int) (S : St) (K : AV → St → Prop) : Prop :=
 let x300 : Int := (iwrap IntKind.i64 (x19 + (1 : Int)));
 J 7 [(AV.one (V1.s (SV.map m3))), (AV.one (V1.s (SV.sl l10))), (AV.one (V1.s (SV.int IntKind.i64 x11))), (AV.one (V1.s (SV.int IntKind.i64 x12))), (AV.one (V1.s (SV.sl l17))), (AV.one (V1.s (SV.int IntKind.i64 x18))), (AV.one (V1.s (SV.int IntKind.i64 x300)))] S K
noncomputable def X22_13 : X := (.op (.jmp 7 [3, 10, 11, 12, 17, 18, 19]))
theorem F22_13_eq (D J : Disp) (m3 : MV) (l10 : LV) (x11 : Int) (x12 : Int) (l17 : LV) (x18 : Int) (x19 : Int) (S : St) (K : AV → St → Prop) : F22_13 D J m3 l10 x11 x12 l17 x18 x19 S K = execK GraphP GraphG Go.Proofs.Try.f22 (typed GraphP D) J plans22 X22_13 (T22 13).1 (envOf (T22 13).2 [(AV.one (V1.s (SV.map m3))), (AV.one (V1.s (SV.sl l10))), (AV.one (V1.s (SV.int IntKind.i64 x11))), (AV.one (V1.s (SV.int IntKind.i64 x12))), (AV.one (V1.s (SV.sl l17))), (AV.one (V1.s (SV.int IntKind.i64 x18))), (AV.one (V1.s (SV.int IntKind.i64 x19)))]) S K := by kernel_rfl
noncomputable abbrev A22_0 (D J : Disp) (vals : List AV) (S : St) (K : AV → St → Prop) : Prop :=
  uncA vals fun a9001 r9002 => avA a9001 fun l9004 => uncK l9004 fun s9006 r9007 => SV.cL s9006 fun l0_0 => uncK r9007 fun s9010 r9011 => SV.cL s9010 fun l0_1 => uncK r9011 fun s9014 r9015 => SV.cI IntKind.i64 s9014 fun x0_2 => endL r9015 <| endL r9002 <| F22_0 D J l0_0 l0_1 x0_2 S K
theorem A22_0_ok {D J : Disp} (hD : DOK GraphP GraphG D) (hJ : JOK GraphP GraphG Go.Proofs.Try.f22 T22 J) {vals : List AV} {S : St} {K : AV → St → Prop} (h0 : A22_0 D J vals S K) : Runs GraphP GraphG Go.Proofs.Try.f22 (T22 0).1 (envOf (T22 0).2 vals) S K := by
  obtain ⟨a9001, r9002, rfl, h3⟩ := uncA_some h0
  obtain ⟨l9004, rfl, h5⟩ := avA_some h3
  obtain ⟨s9006, r9007, rfl, h8⟩ := uncK_some h5
  obtain ⟨l0_0, rfl, h9⟩ := cL_some h8
  obtain ⟨s9010, r9011, rfl, h12⟩ := uncK_some h9
  obtain ⟨l0_1, rfl, h13⟩ := cL_some h12
  obtain ⟨s9014, r9015, rfl, h16⟩ := uncK_some h13
  obtain ⟨x0_2, rfl, h17⟩ := cI_some h16
  obtain ⟨rfl, h18⟩ := endL_some h17
  obtain ⟨rfl, h19⟩ := endL_some h18
  rw [F22_0_eq] at h19
  exact execK_runs hD.typed Graph_zero Graph_mixed hJ X22_0 (T22 0).1 (envOf (T22 0).2 _) S K (chk_of (by kernel_rfl) (by kernel_rfl)) h19
noncomputable abbrev A22_3 (D J : Disp) (vals : List AV) (S : St) (K : AV → St → Prop) : Prop :=
  uncA vals fun a9001 r9002 => scK a9001 fun s9004 => SV.cM s9004 fun m3 => uncA r9002 fun a9007 r9008 => scK a9007 fun s9010 => SV.cL s9010 fun l10 => uncA r9008 fun a9013 r9014 => scK a9013 fun s9016 => SV.cI IntKind.i64 s9016 fun x11 => uncA r9014 fun a9019 r9020 => scK a9019 fun s9022 => SV.cI IntKind.i64 s9022 fun x12 => endL r9020 <| F22_3 D J m3 l10 x11 x12 S K
theorem A22_3_ok {D J : Disp} (hD : DOK GraphP GraphG D) (hJ : JOK GraphP GraphG Go.Proofs.Try.f22 T22 J) {vals : List AV} {S : St} {K : AV → St → Prop} (h0 : A22_3 D J vals S K) : Runs GraphP GraphG Go.Proofs.Try.f22 (T22 3).1 (envOf (T22 3).2 vals) S K := by
  obtain ⟨a9001, r9002, rfl, h3⟩ := uncA_some h0
  obtain ⟨s9004, rfl, h5⟩ := scK_some h3
  obtain ⟨m3, rfl, h6⟩ := cM_some h5
  obtain ⟨a9007, r9008, rfl, h9⟩ := uncA_some h6
  obtain ⟨s9010, rfl, h11⟩ := scK_some h9
  obtain ⟨l10, rfl, h12⟩ := cL_some h11
  obtain ⟨a9013, r9014, rfl, h15⟩ := uncA_some h12
  obtain ⟨s9016, rfl, h17⟩ := scK_some h15
  obtain ⟨x11, rfl, h18⟩ := cI_some h17
  obtain ⟨a9019, r9020, rfl, h21⟩ := uncA_some h18
  obtain ⟨s9022, rfl, h23⟩ := scK_some h21
  obtain ⟨x12, rfl, h24⟩ := cI_some h23
  obtain ⟨rfl, h25⟩ := endL_some h24
  rw [F22_3_eq] at h25
  exact execK_runs hD.typed Graph_zero Graph_mixed hJ X22_3 (T22 3).1 (envOf (T22 3).2 _) S K (chk_of (by kernel_rfl) (by kernel_rfl)) h25
noncomputable abbrev A22_7 (D J : Disp) (vals : List AV) (S : St) (K : AV → St → Prop) : Prop :=
  uncA vals fun a9001 r9002 => scK a9001 fun s9004 => SV.cM s9004 fun m3 => uncA r9002 fun a9007 r9008 => scK a9007 fun s9010 => SV.cL s9010 fun l10 => uncA r9008 fun a9013 r9014 => scK a9013 fun s9016 => SV.cI IntKind.i64 s9016 fun x11 => uncA r9014 fun a9019 r9020 => scK a9019 fun s9022 => SV.cI IntKind.i64 s9022 fun x12 => uncA r9020 fun a9025 r9026 => scK a9025 fun s9028 => SV.cL s9028 fun l17 => uncA r9026 fun a9031 r9032 => scK a9031 fun s9034 => SV.cI IntKind.i64 s9034 fun x18 => uncA r9032 fun a9037 r9038 => scK a9037 fun s9040 => SV.cI IntKind.i64 s9040 fun x19 => endL r9038 <| F22_7 D J m3 l10 x11 x12 l17 x18 x19 S K
theorem A22_7_ok {D J : Disp} (hD : DOK GraphP GraphG D) (hJ : JOK GraphP GraphG Go.Proofs.Try.f22 T22 J) {vals : List AV} {S : St} {K : AV → St → Prop} (h0 : A22_7 D J vals S K) : Runs GraphP GraphG Go.Proofs.Try.f22 (T22 7).1 (envOf (T22 7).2 vals) S K := by
  obtain ⟨a9001, r9002, rfl, h3⟩ := uncA_some h0
  obtain ⟨s9004, rfl, h5⟩ := scK_some h3
  obtain ⟨m3, rfl, h6⟩ := cM_some h5
  obtain ⟨a9007, r9008, rfl, h9⟩ := uncA_some h6
  obtain ⟨s9010, rfl, h11⟩ := scK_some h9
  obtain ⟨l10, rfl, h12⟩ := cL_some h11
  obtain ⟨a9013, r9014, rfl, h15⟩ := uncA_some h12
  obtain ⟨s9016, rfl, h17⟩ := scK_some h15
  obtain ⟨x11, rfl, h18⟩ := cI_some h17
  obtain ⟨a9019, r9020, rfl, h21⟩ := uncA_some h18
  obtain ⟨s9022, rfl, h23⟩ := scK_some h21
  obtain ⟨x12, rfl, h24⟩ := cI_some h23
  obtain ⟨a9025, r9026, rfl, h27⟩ := uncA_some h24
  obtain ⟨s9028, rfl, h29⟩ := scK_some h27
  obtain ⟨l17, rfl, h30⟩ := cL_some h29
  obtain ⟨a9031, r9032, rfl, h33⟩ := uncA_some h30
  obtain ⟨s9034, rfl, h35⟩ := scK_some h33
  obtain ⟨x18, rfl, h36⟩ := cI_some h35
  obtain ⟨a9037, r9038, rfl, h39⟩ := uncA_some h36
  obtain ⟨s9040, rfl, h41⟩ := scK_some h39
  obtain ⟨x19, rfl, h42⟩ := cI_some h41
  obtain ⟨rfl, h43⟩ := endL_some h42
  rw [F22_7_eq] at h43
  exact execK_runs hD.typed Graph_zero Graph_mixed hJ X22_7 (T22 7).1 (envOf (T22 7).2 _) S K (chk_of (by kernel_rfl) (by kernel_rfl)) h43
noncomputable abbrev A22_13 (D J : Disp) (vals : List AV) (S : St) (K : AV → St → Prop) : Prop :=
  uncA vals fun a9001 r9002 => scK a9001 fun s9004 => SV.cM s9004 fun m3 => uncA r9002 fun a9007 r9008 => scK a9007 fun s9010 => SV.cL s9010 fun l10 => uncA r9008 fun a9013 r9014 => scK a9013 fun s9016 => SV.cI IntKind.i64 s9016 fun x11 => uncA r9014 fun a9019 r9020 => scK a9019 fun s9022 => SV.cI IntKind.i64 s9022 fun x12 => uncA r9020 fun a9025 r9026 => scK a9025 fun s9028 => SV.cL s9028 fun l17 => uncA r9026 fun a9031 r9032 => scK a9031 fun s9034 => SV.cI IntKind.i64 s9034 fun x18 => uncA r9032 fun a9037 r9038 => scK a9037 fun s9040 => SV.cI IntKind.i64 s9040 fun x19 => endL r9038 <| F22_13 D J m3 l10 x11 x12 l17 x18 x19 S K
theorem A22_13_ok {D J : Disp} (hD : DOK GraphP GraphG D) (hJ : JOK GraphP GraphG Go.Proofs.Try.f22 T22 J) {vals : List AV} {S : St} {K : AV → St → Prop} (h0 : A22_13 D J vals S K) : Runs GraphP GraphG Go.Proofs.Try.f22 (T22 13).1 (envOf (T22 13).2 vals) S K := by
  obtain ⟨a9001, r9002, rfl, h3⟩ := uncA_some h0
  obtain ⟨s9004, rfl, h5⟩ := scK_some h3
  obtain ⟨m3, rfl, h6⟩ := cM_some h5
  obtain ⟨a9007, r9008, rfl, h9⟩ := uncA_some h6
  obtain ⟨s9010, rfl, h11⟩ := scK_some h9
  obtain ⟨l10, rfl, h12⟩ := cL_some h11
  obtain ⟨a9013, r9014, rfl, h15⟩ := uncA_some h12
  obtain ⟨s9016, rfl, h17⟩ := scK_some h15
  obtain ⟨x11, rfl, h18⟩ := cI_some h17
  obtain ⟨a9019, r9020, rfl, h21⟩ := uncA_some h18
  obtain ⟨s9022, rfl, h23⟩ := scK_some h21
  obtain ⟨x12, rfl, h24⟩ := cI_some h23
  obtain ⟨a9025, r9026, rfl, h27⟩ := uncA_some h24
  obtain ⟨s9028, rfl, h29⟩ := scK_some h27
  obtain ⟨l17, rfl, h30⟩ := cL_some h29
  obtain ⟨a9031, r9032, rfl, h33⟩ := uncA_some h30
  obtain ⟨s9034, rfl, h35⟩ := scK_some h33
  obtain ⟨x18, rfl, h36⟩ := cI_some h35
  obtain ⟨a9037, r9038, rfl, h39⟩ := uncA_some h36
  obtain ⟨s9040, rfl, h41⟩ := scK_some h39
  obtain ⟨x19, rfl, h42⟩ := cI_some h41
  obtain ⟨rfl, h43⟩ := endL_some h42
  rw [F22_13_eq] at h43
  exact execK_runs hD.typed Graph_zero Graph_mixed hJ X22_13 (T22 13).1 (envOf (T22 13).2 _) S K (chk_of (by kernel_rfl) (by kernel_rfl)) h43
noncomputable def J22 (D : Disp) (k : Nat) : Disp := Nat.rec (motive := fun _ => Disp) Disp.no (fun _ ih => Disp.add 0 (A22_0 D ih) <| Disp.add 3 (A22_3 D ih) <| Disp.add 7 (A22_7 D ih) <| Disp.add 13 (A22_13 D ih) <| Disp.no) k
theorem J22_ok {D : Disp} (hD : DOK GraphP GraphG D) : ∀ k, JOK GraphP GraphG Go.Proofs.Try.f22 T22 (J22 D k)
  | 0 => JOK.no
  | k + 1 => JOK.add (ltB_ok (by kernel_rfl)) (fun vals S K h => A22_0_ok hD (J22_ok hD k) h) <| JOK.add (ltB_ok (by kernel_rfl)) (fun vals S K h => A22_3_ok hD (J22_ok hD k) h) <| JOK.add (ltB_ok (by kernel_rfl)) (fun vals S K h => A22_7_ok hD (J22_ok hD k) h) <| JOK.add (ltB_ok (by kernel_rfl)) (fun vals S K h => A22_13_ok hD (J22_ok hD k) h) <| JOK.no
theorem E22_ok {D : Disp} (hD : DOK GraphP GraphG D) (k : Nat) {args : List AV} {S : St} {K : AV → St → Prop} (h : A22_0 D (J22 D k) args S K) : CallOK GraphP GraphG 22 args S K := by
  have hr := A22_0_ok hD (J22_ok hD k) h
  have hl : args.length = 1 := by
    have h0 := h
    obtain ⟨a9001, r9002, rfl, h3⟩ := uncA_some h0
    obtain ⟨l9004, rfl, h5⟩ := avA_some h3
    obtain ⟨s9006, r9007, rfl, h8⟩ := uncK_some h5
    obtain ⟨l0_0, rfl, h9⟩ := cL_some h8
    obtain ⟨s9010, r9011, rfl, h12⟩ := uncK_some h9
    obtain ⟨l0_1, rfl, h13⟩ := cL_some h12
    obtain ⟨s9014, r9015, rfl, h16⟩ := uncK_some h13
    obtain ⟨x0_2, rfl, h17⟩ := cI_some h16
    obtain ⟨rfl, h18⟩ := endL_some h17
    obtain ⟨rfl, h19⟩ := endL_some h18
    rfl
  refine callOK_of (fn := Go.Proofs.Try.f22) (c := (match Go.Proofs.Try.f22.body with | some c => c | none => .skip)) (by kernel_rfl) (by kernel_rfl) (by kernel_rfl) (by rw [hl]; kernel_rfl) (by kernel_rfl) ?_
  rw [hl]
  exact hr
noncomputable def plans23 (i : Nat) : Plan := []
noncomputable def T23 (p : Nat) : List Item × List Nat := bif Nat.beq p 0 then ([.code (match Go.Proofs.Try.f23.body with | some c => c | none => .skip)], [0]) else
  bif Nat.beq p 2 then (navs [.op, .op] [.code (match Go.Proofs.Try.f23.body with | some c => c | none => .skip)], [1, 25]) else
  bif Nat.beq p 6 then (navs [.op, .op, .el, .op] [.code (match Go.Proofs.Try.f23.body with | some c => c | none => .skip)], [1, 27, 28, 29]) else
  bif Nat.beq p 10 then (navs [.op, .op, .el, .op, .op, .th, .op, .op] [.code (match Go.Proofs.Try.f23.body with | some c => c | none => .skip)], [1, 4, 27, 28, 29, 40]) else
  bif Nat.beq p 24 then (navs [.op, .op, .el, .op, .op, .el, .op] [.code (match Go.Proofs.Try.f23.body with | some c => c | none => .skip)], [1, 56, 57, 58]) else
  bif Nat.beq p 14 then (navs [.op, .op, .el, .op, .op, .th, .op, .op, .el, .op] [.code (match Go.Proofs.Try.f23.body with | some c => c | none => .skip)], [1, 4, 27, 28, 29, 42, 43, 44]) else
  ([], [])
noncomputable def F23_0 (D J : Disp) (l0_0 : LV) (l0_1 : LV) (x0_2 : Int) (S : St) (K : AV → St → Prop) : Prop :=
 let S300 : St := (St.add S (AO.cells [(SV.sl l0_0), (SV.sl l0_1), (SV.int IntKind.i64 x0_2)] Bool.false));
 St.at S300 (Bk.new (St.next S)) 2 fun y301 =>
 uncK y301 fun v302 y303 =>
 SV.cI IntKind.i64 v302 fun x307 =>
 St.at S300 (Bk.new (St.next S)) 1 fun y308 =>
 uncK y308 fun v309 y310 =>
 SV.cL v309 fun y317 =>
 let x318 : Int := (Int.ofNat (LV.len y317));
 D 31 [(AV.one (V1.s (SV.int IntKind.i64 x307))), (AV.one (V1.s (SV.int IntKind.i64 x318)))] S300 fun v319 S320 =>
 scK v319 fun v322 =>
 SV.cB v322 fun y323 =>
 let c324 : Bool := (Bool.not y323);
 ifK c324
 (J 2 [(AV.one (V1.s (SV.ptr (PV.mk (Bk.new (St.next S)) 0)))), (AV.one (V1.s (SV.bool Bool.true)))] S320 K)
 (St.at S320 (Bk.new (St.next S)) 1 fun y325 =>
 uncK y325 fun v326 y327 =>
 SV.cL v326 fun y334 =>
 St.at S320 (Bk.new (St.next S)) 2 fun y335 =>
 uncK y335 fun v336 y337 =>
 SV.cI IntKind.i64 v336 fun x341 =>
 LV.cs y334 fun b342 n343 n344 y345 =>
 req (Bool.and (ile (0 : Int) x341) (ilt x341 (Int.ofNat n344))) <|
 let n346 : Nat := (n343 + ((Int.toNat x341) * 6));
 let n347 : Nat := (n346 + 1);
 St.at S320 b342 n347 fun y348 =>
 uncK y348 fun v349 y350 =>
 SV.cI IntKind.i64 v349 fun x354 =>
 let c355 : Bool := (Bool.not (ieq x354 (0 : Int)));
 J 2 [(AV.one (V1.s (SV.ptr (PV.mk (Bk.new (St.next S)) 0)))), (AV.one (V1.s (SV.bool c355)))] S320 K)
noncomputable def X23_0 : X := (.op (.op (.jmp 2 [1, 25])))
theorem F23_0_eq (D J : Disp) (l0_0 : LV) (l0_1 : LV) (x0_2 : Int) (S : St) (K : AV → St → Prop) : F23_0 D J l0_0 l0_1 x0_2 S K = execK GraphP GraphG Go.Proofs.Try.f23 (typed GraphP D) J plans23 X23_0 (T23 0).1 (envOf (T23 0).2 [(AV.one (V1.agg [(SV.sl l0_0), (SV.sl l0_1), (SV.int IntKind.i64 x0_2)]))]) S K := by kernel_rfl
noncomputable def F23_2 (D J : Disp) (p1 : PV) (c25 : Bool) (S : St) (K : AV → St → Prop) : Prop :=
 ifK c25
 (K ((AV.one (V1.s (SV.bool Bool.false)))) S)
 (PV.cs p1 fun b300 n301 =>
 let n302 : Nat := (n301 + 0);
 St.at S b300 n302 fun y303 =>
 uncK y303 fun v304 y305 =>
 SV.cL v304 fun y312 =>
 let x313 : Int := (Int.ofNat (LV.len y312));
 J 6 [(AV.one (V1.s (SV.ptr p1))), (AV.one (V1.s (SV.sl y312))), (AV.one (V1.s (SV.int IntKind.i64 x313))), (AV.one (V1.s (SV.int IntKind.i64 (0 : Int))))] S K)
noncomputable def X23_2 : X := (.br (.op .ret) (.op (.jmp 6 [1, 27, 28, 29])))
theorem F23_2_eq (D J : Disp) (p1 : PV) (c25 : Bool) (S : St) (K : AV → St → Prop) : F23_2 D J p1 c25 S K = execK GraphP GraphG Go.Proofs.Try.f23 (typed GraphP D) J plans23 X23_2 (T23 2).1 (envOf (T23 2).2 [(AV.one (V1.s (SV.ptr p1))), (AV.one (V1.s (SV.bool c25)))]) S K := by kernel_rfl
noncomputable def F23_6 (D J : Disp) (p1 : PV) (l27 : LV) (x28 : Int) (x29 : Int) (S : St) (K : AV → St → Prop) : Prop :=
 let c300 : Bool := (ilt x29 x28);
 ifK c300
 (LV.cs l27 fun b301 n302 n303 y304 =>
 req (Bool.and (ile (0 : Int) x29) (ilt x29 (Int.ofNat n303))) <|
 let n305 : Nat := (n302 + ((Int.toNat x29) * 3));
 St.at S b301 n305 fun y306 =>
 uncK y306 fun v307 y308 =>
 SV.cS v307 fun y313 =>
 uncK y308 fun v314 y315 =>
 SV.cI IntKind.i64 v314 fun x319 =>
 uncK y315 fun v320 y321 =>
 SV.cL v320 fun y328 =>
 let S329 : St := (St.add S (AO.cells [(SV.str []), (SV.int IntKind.i64 (0 : Int)), (SV.sl LV.nil)] Bool.false));
 St.wr S329 (Bk.new (St.next S)) 0 [(SV.str y313), (SV.int IntKind.i64 x319), (SV.sl y328)] fun S330 =>
 St.at S330 (Bk.new (St.next S)) 1 fun y331 =>
 uncK y331 fun v332 y333 =>
 SV.cI IntKind.i64 v332 fun x337 =>
 let c338 : Bool := (ilt x337 (1 : Int));
 ifK c338
 (J 10 [(AV.one (V1.s (SV.ptr p1))), (AV.one (V1.s (SV.ptr (PV.mk (Bk.new (St.next S)) 0)))), (AV.one (V1.s (SV.sl l27))), (AV.one (V1.s (SV.int IntKind.i64 x28))), (AV.one (V1.s (SV.int IntKind.i64 x29))), (AV.one (V1.s (SV.bool Bool.true)))] S330 K)
 (St.at S330 (Bk.new (St.next S)) 1 fun y339 =>
 uncK y339 fun v340 y341 =>
 SV.cI IntKind.i64 v340 fun x345 =>
 let c346 : Bool := (ilt (65536 : Int) x345);
 J 10 [(AV.one (V1.s (SV.ptr p1))), (AV.one (V1.s (SV.ptr (PV.mk (Bk.new (St.next S)) 0)))), (AV.one (V1.s (SV.sl l27))), (AV.one (V1.s (SV.int IntKind.i64 x28))), (AV.one (V1.s (SV.int IntKind.i64 x29))), (AV.one (V1.s (SV.bool c346)))] S330 K))
 (PV.cs p1 fun b368 n369 =>
 let n370 : Nat := (n369 + 1);
 St.at S b368 n370 fun y371 =>
 uncK y371 fun v372 y373 =>
 SV.cL v372 fun y380 =>
 let x381 : Int := (Int.ofNat (LV.len y380));
 J 24 [(AV.one (V1.s (SV.ptr p1))), (AV.one (V1.s (SV.sl y380))), (AV.one (V1.s (SV.int IntKind.i64 x381))), (AV.one (V1.s (SV.int IntKind.i64 (0 : Int))))] S K)
noncomputable def X23_6 : X := (.op (.br (.op (.op (.jmp 10 [1, 4, 27, 28, 29, 40]))) (.op (.jmp 24 [1, 56, 57, 58]))))
theorem F23_6_eq (D J : Disp) (p1 : PV) (l27 : LV) (x28 : Int) (x29 : Int) (S : St) (K : AV → St → Prop) : F23_6 D J p1 l27 x28 x29 S K = execK GraphP GraphG Go.Proofs.Try.f23 (typed GraphP D) J plans23 X23_6 (T23 6).1 (envOf (T23 6).2 [(AV.one (V1.s (SV.ptr p1))), (AV.one (V1.s (SV.sl l27))), (AV.one (V1.s (SV.int IntKind.i64 x28))), (AV.one (V1.s (SV.int IntKind.i64 x29)))]) S K := by kernel_rfl
noncomputable def F23_10 (D J : Disp) (p1 : PV) (p4 : PV) (l27 : LV) (x28 : Int) (x29 : Int) (c40 : Bool) (S : St) (K : AV → St → Prop) : Prop :=
 ifK c40
 (K ((AV.one (V1.s (SV.bool Bool.false)))) S)
 (PV.cs p4 fun b300 n301 =>
 let n302 : Nat := (n301 + 2);
 St.at S b300 n302 fun y303 =>
 uncK y303 fun v304 y305 =>
 SV.cL v304 fun y312 =>
 let x313 : Int := (Int.ofNat (LV.len y312));
 J 14 [(AV.one (V1.s (SV.ptr p1))), (AV.one (V1.s (SV.ptr p4))), (AV.one (V1.s (SV.sl l27))), (AV.one (V1.s (SV.int IntKind.i64 x28))), (AV.one (V1.s (SV.int IntKind.i64 x29))), (AV.one (V1.s (SV.sl y312))), (AV.one (V1.s (SV.int IntKind.i64 x313))), (AV.one (V1.s (SV.int IntKind.i64 (0 : Int))))] S K)
noncomputable def X23_10 : X := (.br (.op .ret) (.op (.jmp 14 [1, 4, 27, 28, 29, 42, 43, 44])))
theorem F23_10_eq (D J : Disp) (p1 : PV) (p4 : PV) (l27 : LV) (x28 : Int) (x29 : Int) (c40 : Bool) (S : St) (K : AV → St → Prop) : F23_10 D J p1 p4 l27 x28 x29 c40 S K = execK GraphP GraphG Go.Proofs.Try.f23 (typed GraphP D) J plans23 X23_10 (T23 10).1 (envOf (T23 10).2 [(AV.one (V1.s (SV.ptr p1))), (AV.one (V1.s (SV.ptr p4))), (AV.one (V1.s (SV.sl l27))), (AV.one (V1.s (SV.int IntKind.i64 x28))), (AV.one (V1.s (SV.int IntKind.i64 x29))), (AV.one (V1.s (SV.bool c40)))]) S K := by kernel_rfl
noncomputable def F23_14 (D J : Disp) (p1 : PV) (p4 : PV) (l27 : LV) (x28 : Int) (x29 : Int) (l42 : LV) (x43 : Int) (x44 : Int) (S : St) (K : AV → St → Prop) : Prop :=
 let c300 : Bool := (ilt x44 x43);
 ifK c300
 (LV.cs l42 fun b301 n302 n303 y304 =>
 req (Bool.and (ile (0 : Int) x44) (ilt x44 (Int.ofNat n303))) <|
 let n305 : Nat := (n302 + ((Int.toNat x44) * 4));
 St.at S b301 n305 fun y306 =>
 uncK y306 fun v307 y308 =>
 SV.cI IntKind.i64 v307 fun x312 =>
 uncK y308 fun v313 y314 =>
 SV.cI IntKind.i64 v313 fun x318 =>
 uncK y314 fun v319 y320 =>
 SV.cI IntKind.i64 v319 fun x324 =>
 uncK y320 fun v325 y326 =>
 SV.cI IntKind.i64 v325 fun x330 =>
 let S331 : St := (St.add S (AO.cells [(SV.int IntKind.i64 (0 : Int)), (SV.int IntKind.i64 (0 : Int)), (SV.int IntKind.i64 (0 : Int)), (SV.int IntKind.i64 (0 : Int))] Bool.false));
 St.wr S331 (Bk.new (St.next S)) 0 [(SV.int IntKind.i64 x312), (SV.int IntKind.i64 x318), (SV.int IntKind.i64 x324), (SV.int IntKind.i64 x330)] fun S332 =>
 PV.cs p1 fun b333 n334 =>
 St.at S332 b333 n334 fun y335 =>
 uncK y335 fun v336 y337 =>
 SV.cL v336 fun y344 =>
 uncK y337 fun v345 y346 =>
 SV.cL v345 fun y353 =>
 uncK y346 fun v354 y355 =>
 SV.cI IntKind.i64 v354 fun x359 =>
 PV.cs p4 fun b360 n361 =>
 St.at S332 b360 n361 fun y362 =>
 uncK y362 fun v363 y364 =>
 SV.cS v363 fun y369 =>
 uncK y364 fun v370 y371 =>
 SV.cI IntKind.i64 v370 fun x375 =>
 uncK y371 fun v376 y377 =>
 SV.cL v376 fun y384 =>
 St.at S332 (Bk.new (St.next S)) 0 fun y385 =>
 uncK y385 fun v386 y387 =>
 SV.cI IntKind.i64 v386 fun x391 =>
 uncK y387 fun v392 y393 =>
 SV.cI IntKind.i64 v392 fun x397 =>
 uncK y393 fun v398 y399 =>
 SV.cI IntKind.i64 v398 fun x403 =>
 uncK y399 fun v404 y405 =>
 SV.cI IntKind.i64 v404 fun x409 =>
 D 32 [(AV.one (V1.agg [(SV.sl y344), (SV.sl y353), (SV.int IntKind.i64 x359)])), (AV.one (V1.agg [(SV.str y369), (SV.int IntKind.i64 x375), (SV.sl y384)])), (AV.one (V1.agg [(SV.int IntKind.i64 x391), (SV.int IntKind.i64 x397), (SV.int IntKind.i64 x403), (SV.int IntKind.i64 x409)]))] S332 fun v410 S411 =>
 scK v410 fun v413 =>
 SV.cB v413 fun y414 =>
 let c415 : Bool := (Bool.not y414);
 ifK c415
 (K ((AV.one (V1.s (SV.bool Bool.false)))) S411)
 (let x416 : Int := (iwrap IntKind.i64 (x44 + (1 : Int)));
 J 14 [(AV.one (V1.s (SV.ptr p1))), (AV.one (V1.s (SV.ptr p4))), (AV.one (V1.s (SV.sl l27))), (AV.one (V1.s (SV.int IntKind.i64 x28))), (AV.one (V1.s (SV.int IntKind.i64 x29))), (AV.one (V1.s (SV.sl l42))), (AV.one (V1.s (SV.int IntKind.i64 x43))), (AV.one (V1.s (SV.int IntKind.i64 x416)))] S411 K))
 (let x486 : Int := (iwrap IntKind.i64 (x29 + (1 : Int)));
 J 6 [(AV.one (V1.s (SV.ptr p1))), (AV.one (V1.s (SV.sl l27))), (AV.one (V1.s (SV.int IntKind.i64 x28))), (AV.one (V1.s (SV.int IntKind.i64 x486)))] S K)
noncomputable def X23_14 : X := (.op (.br (.op (.op (.br (.op .ret) (.op (.jmp 14 [1, 4, 27, 28, 29, 42, 43, 44]))))) (.op (.jmp 6 [1, 27, 28, 29]))))
theorem F23_14_eq (D J : Disp) (p1 : PV) (p4 : PV) (l27 : LV) (x28 : Int) (x29 : Int) (l42 : LV) (x43 : Int) (x44 : Int) (S : St) (K : AV → St → Prop) : F23_14 D J p1 p4 l27 x28 x29 l42 x43 x44 S K = execK GraphP GraphG Go.Proofs.Try.f23 (typed GraphP D) J plans23 X23_14 (T23 14).1 (envOf (T23 14).2 [(AV.one (V1.s (SV.ptr p1))), (AV.one (V1.s (SV.ptr p4))), (AV.one (V1.s (SV.sl l27))), (AV.one (V1.s (SV.int IntKind.i64 x28))), (AV.one (V1.s (SV.int IntKind.i64 x29))), (AV.one (V1.s (SV.sl l42))), (AV.one (V1.s (SV.int IntKind.i64 x43))), (AV.one (V1.s (SV.int IntKind.i64 x44)))]) S K := by kernel_rfl
noncomputable def F23_24 (D J : Disp) (p1 : PV) (l56 : LV) (x57 : Int) (x58 : Int) (S : St) (K : AV → St → Prop) : Prop :=
 let c300 : Bool := (ilt x58 x57);
 ifK c300
 (LV.cs l56 fun b301 n302 n303 y304 =>
 req (Bool.and (ile (0 : Int) x58) (ilt x58 (Int.ofNat n303))) <|
 let n305 : Nat := (n302 + ((Int.toNat x58) * 6));
 St.at S b301 n305 fun y306 =>
 uncK y306 fun v307 y308 =>
 SV.cS v307 fun y313 =>
 uncK y308 fun v314 y315 =>
 SV.cI IntKind.i64 v314 fun x319 =>
 uncK y315 fun v320 y321 =>
 SV.cI IntKind.i64 v320 fun x325 =>
 uncK y321 fun v326 y327 =>
 SV.cL v326 fun y334 =>
 uncK y327 fun v335 y336 =>
 SV.cL v335 fun y343 =>
 uncK y336 fun v344 y345 =>
 SV.cB v344 fun y347 =>
 let S348 : St := (St.add S (AO.cells [(SV.str []), (SV.int IntKind.i64 (0 : Int)), (SV.int IntKind.i64 (0 : Int)), (SV.sl LV.nil), (SV.sl LV.nil), (SV.bool Bool.false)] Bool.false));
 St.wr S348 (Bk.new (St.next S)) 0 [(SV.str y313), (SV.int IntKind.i64 x319), (SV.int IntKind.i64 x325), (SV.sl y334), (SV.sl y343), (SV.bool y347)] fun S349 =>
 PV.cs p1 fun b350 n351 =>
 St.at S349 b350 n351 fun y352 =>
 uncK y352 fun v353 y354 =>
 SV.cL v353 fun y361 =>
 uncK y354 fun v362 y363 =>
 SV.cL v362 fun y370 =>
 uncK y363 fun v371 y372 =>
 SV.cI IntKind.i64 v371 fun x376 =>
 St.at S349 (Bk.new (St.next S)) 0 fun y377 =>
 uncK y377 fun v378 y379 =>
 SV.cS v378 fun y384 =>
 uncK y379 fun v385 y386 =>
 SV.cI IntKind.i64 v385 fun x390 =>
 uncK y386 fun v391 y392 =>
 SV.cI IntKind.i64 v391 fun x396 =>
 uncK y392 fun v397 y398 =>
 SV.cL v397 fun y405 =>
 uncK y398 fun v406 y407 =>
 SV.cL v406 fun y414 =>
 uncK y407 fun v415 y416 =>
 SV.cB v415 fun y418 =>
 D 33 [(AV.one (V1.agg [(SV.sl y361), (SV.sl y370), (SV.int IntKind.i64 x376)])), (AV.one (V1.agg [(SV.str y384), (SV.int IntKind.i64 x390), (SV.int IntKind.i64 x396), (SV.sl y405), (SV.sl y414), (SV.bool y418)]))] S349 fun v419 S420 =>
 scK v419 fun v422 =>
 SV.cB v422 fun y423 =>
 let c424 : Bool := (Bool.not y423);
 ifK c424
 (K ((AV.one (V1.s (SV.bool Bool.false)))) S420)
 (let x425 : Int := (iwrap IntKind.i64 (x58 + (1 : Int)));
 J 24 [(AV.one (V1.s (SV.ptr p1))), (AV.one (V1.s (SV.sl l56))), (AV.one (V1.s (SV.int IntKind.i64 x57))), (AV.one (V1.s (SV.int IntKind.i64 x425)))] S420 K))
 (K ((AV.one (V1.s (SV.bool Bool.true)))) S)
noncomputable def X23_24 : X := (.op (.br (.op (.op (.br (.op .ret) (.op (.jmp 24 [1, 56, 57, 58]))))) (.op .ret)))
theorem F23_24_eq (D J : Disp) (p1 : PV) (l56 : LV) (x57 : Int) (x58 : Int) (S : St) (K : AV → St → Prop) : F23_24 D J p1 l56 x57 x58 S K = execK GraphP GraphG Go.Proofs.Try.f23 (typed GraphP D) J plans23 X23_24 (T23 24).1 (envOf (T23 24).2 [(AV.one (V1.s (SV.ptr p1))), (AV.one (V1.s (SV.sl l56))), (AV.one (V1.s (SV.int IntKind.i64 x57))), (AV.one (V1.s (SV.int IntKind.i64 x58)))]) S K := by kernel_rfl
noncomputable abbrev A23_0 (D J : Disp) (vals : List AV) (S : St) (K : AV → St → Prop) : Prop :=
  uncA vals fun a9001 r9002 => avA a9001 fun l9004 => uncK l9004 fun s9006 r9007 => SV.cL s9006 fun l0_0 => uncK r9007 fun s9010 r9011 => SV.cL s9010 fun l0_1 => uncK r9011 fun s9014 r9015 => SV.cI IntKind.i64 s9014 fun x0_2 => endL r9015 <| endL r9002 <| F23_0 D J l0_0 l0_1 x0_2 S K
theorem A23_0_ok {D J : Disp} (hD : DOK GraphP GraphG D) (hJ : JOK GraphP GraphG Go.Proofs.Try.f23 T23 J) {vals : List AV} {S : St} {K : AV → St → Prop} (h0 : A23_0 D J vals S K) : Runs GraphP GraphG Go.Proofs.Try.f23 (T23 0).1 (envOf (T23 0).2 vals) S K := by
  obtain ⟨a9001, r9002, rfl, h3⟩ := uncA_some h0
  obtain ⟨l9004, rfl, h5⟩ := avA_some h3
  obtain ⟨s9006, r9007, rfl, h8⟩ := uncK_some h5
  obtain ⟨l0_0, rfl, h9⟩ := cL_some h8
  obtain ⟨s9010, r9011, rfl, h12⟩ := uncK_some h9
  obtain ⟨l0_1, rfl, h13⟩ := cL_some h12
  obtain ⟨s9014, r9015, rfl, h16⟩ := uncK_some h13
  obtain ⟨x0_2, rfl, h17⟩ := cI_some h16
  obtain ⟨rfl, h18⟩ := endL_some h17
  obtain ⟨rfl, h19⟩ := endL_some h18
  rw [F23_0_eq] at h19
  exact execK_runs hD.typed Graph_zero Graph_mixed hJ X23_0 (T23 0).1 (envOf (T23 0).2 _) S K (chk_of (by kernel_rfl) (by kernel_rfl)) h19
noncomputable abbrev A23_2 (D J : Disp) (vals : List AV) (S : St) (K : AV → St → Prop) : Prop :=
  uncA vals fun a9001 r9002 => scK a9001 fun s9004 => SV.cP s9004 fun p1 => uncA r9002 fun a9007 r9008 => scK a9007 fun s9010 => SV.cB s9010 fun c25 => endL r9008 <| F23_2 D J p1 c25 S K
theorem A23_2_ok {D J : Disp} (hD : DOK GraphP GraphG D) (hJ : JOK GraphP GraphG Go.Proofs.Try.f23 T23 J) {vals : List AV} {S : St} {K : AV → St → Prop} (h0 : A23_2 D J vals S K) : Runs GraphP GraphG Go.Proofs.Try.f23 (T23 2).1 (envOf (T23 2).2 vals) S K := by
  obtain ⟨a9001, r9002, rfl, h3⟩ := uncA_some h0
  obtain ⟨s9004, rfl, h5⟩ := scK_some h3
  obtain ⟨p1, rfl, h6⟩ := cP_some h5
  obtain ⟨a9007, r9008, rfl, h9⟩ := uncA_some h6
  obtain ⟨s9010, rfl, h11⟩ := scK_some h9
  obtain ⟨c25, rfl, h12⟩ := cB_some h11
  obtain ⟨rfl, h13⟩ := endL_some h12
  rw [F23_2_eq] at h13
  exact execK_runs hD.typed Graph_zero Graph_mixed hJ X23_2 (T23 2).1 (envOf (T23 2).2 _) S K (chk_of (by kernel_rfl) (by kernel_rfl)) h13
noncomputable abbrev A23_6 (D J : Disp) (vals : List AV) (S : St) (K : AV → St → Prop) : Prop :=
  uncA vals fun a9001 r9002 => scK a9001 fun s9004 => SV.cP s9004 fun p1 => uncA r9002 fun a9007 r9008 => scK a9007 fun s9010 => SV.cL s9010 fun l27 => uncA r9008 fun a9013 r9014 => scK a9013 fun s9016 => SV.cI IntKind.i64 s9016 fun x28 => uncA r9014 fun a9019 r9020 => scK a9019 fun s9022 => SV.cI IntKind.i64 s9022 fun x29 => endL r9020 <| F23_6 D J p1 l27 x28 x29 S K
theorem A23_6_ok {D J : Disp} (hD : DOK GraphP GraphG D) (hJ : JOK GraphP GraphG Go.Proofs.Try.f23 T23 J) {vals : List AV} {S : St} {K : AV → St → Prop} (h0 : A23_6 D J vals S K) : Runs GraphP GraphG Go.Proofs.Try.f23 (T23 6).1 (envOf (T23 6).2 vals) S K := by
  obtain ⟨a9001, r9002, rfl, h3⟩ := uncA_some h0
  obtain ⟨s9004, rfl, h5⟩ := scK_some h3
  obtain ⟨p1, rfl, h6⟩ := cP_some h5
  obtain ⟨a9007, r9008, rfl, h9⟩ := uncA_some h6
  obtain ⟨s9010, rfl, h11⟩ := scK_some h9
  obtain ⟨l27, rfl, h12⟩ := cL_some h11
  obtain ⟨a9013, r9014, rfl, h15⟩ := uncA_some h12
  obtain ⟨s9016, rfl, h17⟩ := scK_some h15
  obtain ⟨x28, rfl, h18⟩ := cI_some h17
  obtain ⟨a9019, r9020, rfl, h21⟩ := uncA_some h18
  obtain ⟨s9022, rfl, h23⟩ := scK_some h21
  obtain ⟨x29, rfl, h24⟩ := cI_some h23
  obtain ⟨rfl, h25⟩ := endL_some h24
  rw [F23_6_eq] at h25
  exact execK_runs hD.typed Graph_zero Graph_mixed hJ X23_6 (T23 6).1 (envOf (T23 6).2 _) S K (chk_of (by kernel_rfl) (by kernel_rfl)) h25
noncomputable abbrev A23_10 (D J : Disp) (vals : List AV) (S : St) (K : AV → St → Prop) : Prop :=
  uncA vals fun a9001 r9002 => scK a9001 fun s9004 => SV.cP s9004 fun p1 => uncA r9002 fun a9007 r9008 => scK a9007 fun s9010 => SV.cP s9010 fun p4 => uncA r9008 fun a9013 r9014 => scK a9013 fun s9016 => SV.cL s9016 fun l27 => uncA r9014 fun a9019 r9020 => scK a9019 fun s9022 => SV.cI IntKind.i64 s9022 fun x28 => uncA r9020 fun a9025 r9026 => scK a9025 fun s9028 => SV.cI IntKind.i64 s9028 fun x29 => uncA r9026 fun a9031 r9032 => scK a9031 fun s9034 => SV.cB s9034 fun c40 => endL r9032 <| F23_10 D J p1 p4 l27 x28 x29 c40 S K
theorem A23_10_ok {D J : Disp} (hD : DOK GraphP GraphG D) (hJ : JOK GraphP GraphG Go.Proofs.Try.f23 T23 J) {vals : List AV} {S : St} {K : AV → St → Prop} (h0 : A23_10 D J vals S K) : Runs GraphP GraphG Go.Proofs.Try.f23 (T23 10).1 (envOf (T23 10).2 vals) S K := by
  obtain ⟨a9001, r9002, rfl, h3⟩ := uncA_some h0
  obtain ⟨s9004, rfl, h5⟩ := scK_some h3
  obtain ⟨p1, rfl, h6⟩ := cP_some h5
  obtain ⟨a9007, r9008, rfl, h9⟩ := uncA_some h6
  obtain ⟨s9010, rfl, h11⟩ := scK_some h9
  obtain ⟨p4, rfl, h12⟩ := cP_some h11
  obtain ⟨a9013, r9014, rfl, h15⟩ := uncA_some h12
  obtain ⟨s9016, rfl, h17⟩ := scK_some h15
  obtain ⟨l27, rfl, h18⟩ := cL_some h17
  obtain ⟨a9019, r9020, rfl, h21⟩ := uncA_some h18
  obtain ⟨s9022, rfl, h23⟩ := scK_some h21
  obtain ⟨x28, rfl, h24⟩ := cI_some h23
  obtain ⟨a9025, r9026, rfl, h27⟩ := uncA_some h24
  obtain ⟨s9028, rfl, h29⟩ := scK_some h27
  obtain ⟨x29, rfl, h30⟩ := cI_some h29
  obtain ⟨a9031, r9032, rfl, h33⟩ := uncA_some h30
  obtain ⟨s9034, rfl, h35⟩ := scK_some h33
  obtain ⟨c40, rfl, h36⟩ := cB_some h35
  obtain ⟨rfl, h37⟩ := endL_some h36
  rw [F23_10_eq] at h37
  exact execK_runs hD.typed Graph_zero Graph_mixed hJ X23_10 (T23 10).1 (envOf (T23 10).2 _) S K (chk_of (by kernel_rfl) (by kernel_rfl)) h37
noncomputable abbrev A23_14 (D J : Disp) (vals : List AV) (S : St) (K : AV → St → Prop) : Prop :=
  uncA vals fun a9001 r9002 => scK a9001 fun s9004 => SV.cP s9004 fun p1 => uncA r9002 fun a9007 r9008 => scK a9007 fun s9010 => SV.cP s9010 fun p4 => uncA r9008 fun a9013 r9014 => scK a9013 fun s9016 => SV.cL s9016 fun l27 => uncA r9014 fun a9019 r9020 => scK a9019 fun s9022 => SV.cI IntKind.i64 s9022 fun x28 => uncA r9020 fun a9025 r9026 => scK a9025 fun s9028 => SV.cI IntKind.i64 s9028 fun x29 => uncA r9026 fun a9031 r9032 => scK a9031 fun s9034 => SV.cL s9034 fun l42 => uncA r9032 fun a9037 r9038 => scK a9037 fun s9040 => SV.cI IntKind.i64 s9040 fun x43 => uncA r9038 fun a9043 r9044 => scK a9043 fun s9046 => SV.cI IntKind.i64 s9046 fun x44 => endL r9044 <| F23_14 D J p1 p4 l27 x28 x29 l42 x43 x44 S K
theorem A23_14_ok {D J : Disp} (hD : DOK GraphP GraphG D) (hJ : JOK GraphP GraphG Go.Proofs.Try.f23 T23 J) {vals : List AV} {S : St} {K : AV → St → Prop} (h0 : A23_14 D J vals S K) : Runs GraphP GraphG Go.Proofs.Try.f23 (T23 14).1 (envOf (T23 14).2 vals) S K := by
  obtain ⟨a9001, r9002, rfl, h3⟩ := uncA_some h0
  obtain ⟨s9004, rfl, h5⟩ := scK_some h3
  obtain ⟨p1, rfl, h6⟩ := cP_some h5
  obtain ⟨a9007, r9008, rfl, h9⟩ := uncA_some h6
  obtain ⟨s9010, rfl, h11⟩ := scK_some h9
  obtain ⟨p4, rfl, h12⟩ := cP_some h11
  obtain ⟨a9013, r9014, rfl, h15⟩ := uncA_some h12
  obtain ⟨s9016, rfl, h17⟩ := scK_some h15
  obtain ⟨l27, rfl, h18⟩ := cL_some h17
  obtain ⟨a9019, r9020, rfl, h21⟩ := uncA_some h18
  obtain ⟨s9022, rfl, h23⟩ := scK_some h21
  obtain ⟨x28, rfl, h24⟩ := cI_some h23
  obtain ⟨a9025, r9026, rfl, h27⟩ := uncA_some h24
  obtain ⟨s9028, rfl, h29⟩ := scK_some h27
  obtain ⟨x29, rfl, h30⟩ := cI_some h29
  obtain ⟨a9031, r9032, rfl, h33⟩ := uncA_some h30
  obtain ⟨s9034, rfl, h35⟩ := scK_some h33
  obtain ⟨l42, rfl, h36⟩ := cL_some h35
  obtain ⟨a9037, r9038, rfl, h39⟩ := uncA_some h36
  obtain ⟨s9040, rfl, h41⟩ := scK_some h39
  obtain ⟨x43, rfl, h42⟩ := cI_some h41
  obtain ⟨a9043, r9044, rfl, h45⟩ := uncA_some h42
  obtain ⟨s9046, rfl, h47⟩ := scK_some h45
  obtain ⟨x44, rfl, h48⟩ := cI_some h47
  obtain ⟨rfl, h49⟩ := endL_some h48
  rw [F23_14_eq] at h49
  exact execK_runs hD.typed Graph_zero Graph_mixed hJ X23_14 (T23 14).1 (envOf (T23 14).2 _) S K (chk_of (by kernel_rfl) (by kernel_rfl)) h49
noncomputable abbrev A23_24 (D J : Disp) (vals : List AV) (S : St) (K : AV → St → Prop) : Prop :=
  uncA vals fun a9001 r9002 => scK a9001 fun s9004 => SV.cP s9004 fun p1 => uncA r9002 fun a9007 r9008 => scK a9007 fun s9010 => SV.cL s9010 fun l56 => uncA r9008 fun a9013 r9014 => scK a9013 fun s9016 => SV.cI IntKind.i64 s9016 fun x57 => uncA r9014 fun a9019 r9020 => scK a9019 fun s9022 => SV.cI IntKind.i64 s9022 fun x58 => endL r9020 <| F23_24 D J p1 l56 x57 x58 S K
theorem A23_24_ok {D J : Disp} (hD : DOK GraphP GraphG D) (hJ : JOK GraphP GraphG Go.Proofs.Try.f23 T23 J) {vals : List AV} {S : St} {K : AV → St → Prop} (h0 : A23_24 D J vals S K) : Runs GraphP GraphG Go.Proofs.Try.f23 (T23 24).1 (envOf (T23 24).2 vals) S K := by
  obtain ⟨a9001, r9002, rfl, h3⟩ := uncA_some h0
  obtain ⟨s9004, rfl, h5⟩ := scK_some h3
  obtain ⟨p1, rfl, h6⟩ := cP_some h5
  obtain ⟨a9007, r9008, rfl, h9⟩ := uncA_some h6
  obtain ⟨s9010, rfl, h11⟩ := scK_some h9
  obtain ⟨l56, rfl, h12⟩ := cL_some h11
  obtain ⟨a9013, r9014, rfl, h15⟩ := uncA_some h12
  obtain ⟨s9016, rfl, h17⟩ := scK_some h15
  obtain ⟨x57, rfl, h18⟩ := cI_some h17
  obtain ⟨a9019, r9020, rfl, h21⟩ := uncA_some h18
  obtain ⟨s9022, rfl, h23⟩ := scK_some h21
  obtain ⟨x58, rfl, h24⟩ := cI_some h23
  obtain ⟨rfl, h25⟩ := endL_some h24
  rw [F23_24_eq] at h25
  exact execK_runs hD.typed Graph_zero Graph_mixed hJ X23_24 (T23 24).1 (envOf (T23 24).2 _) S K (chk_of (by kernel_rfl) (by kernel_rfl)) h25
noncomputable def J23 (D : Disp) (k : Nat) : Disp := Nat.rec (motive := fun _ => Disp) Disp.no (fun _ ih => Disp.add 0 (A23_0 D ih) <| Disp.add 2 (A23_2 D ih) <| Disp.add 6 (A23_6 D ih) <| Disp.add 10 (A23_10 D ih) <| Disp.add 14 (A23_14 D ih) <| Disp.add 24 (A23_24 D ih) <| Disp.no) k
theorem J23_ok {D : Disp} (hD : DOK GraphP GraphG D) : ∀ k, JOK GraphP GraphG Go.Proofs.Try.f23 T23 (J23 D k)
  | 0 => JOK.no
  | k + 1 => JOK.add (ltB_ok (by kernel_rfl)) (fun vals S K h => A23_0_ok hD (J23_ok hD k) h) <| JOK.add (ltB_ok (by kernel_rfl)) (fun vals S K h => A23_2_ok hD (J23_ok hD k) h) <| JOK.add (ltB_ok (by kernel_rfl)) (fun vals S K h => A23_6_ok hD (J23_ok hD k) h) <| JOK.add (ltB_ok (by kernel_rfl)) (fun vals S K h => A23_10_ok hD (J23_ok hD k) h) <| JOK.add (ltB_ok (by kernel_rfl)) (fun vals S K h => A23_14_ok hD (J23_ok hD k) h) <| JOK.add (ltB_ok (by kernel_rfl)) (fun vals S K h => A23_24_ok hD (J23_ok hD k) h) <| JOK.no
theorem E23_ok {D : Disp} (hD : DOK GraphP GraphG D) (k : Nat) {args : List AV} {S : St} {K : AV → St → Prop} (h : A23_0 D (J23 D k) args S K) : CallOK GraphP GraphG 23 args S K := by
  have hr := A23_0_ok hD (J23_ok hD k) h
  have hl : args.length = 1 := by
    have h0 := h
    obtain ⟨a9001, r9002, rfl, h3⟩ := uncA_some h0
    obtain ⟨l9004, rfl, h5⟩ := avA_some h3
    obtain ⟨s9006, r9007, rfl, h8⟩ := uncK_some h5
    obtain ⟨l0_0, rfl, h9⟩ := cL_some h8
    obtain ⟨s9010, r9011, rfl, h12⟩ := uncK_some h9
    obtain ⟨l0_1, rfl, h13⟩ := cL_some h12
    obtain ⟨s9014, r9015, rfl, h16⟩ := uncK_some h13
    obtain ⟨x0_2, rfl, h17⟩ := cI_some h16
    obtain ⟨rfl, h18⟩ := endL_some h17
    obtain ⟨rfl, h19⟩ := endL_some h18
    rfl
  refine callOK_of (fn := Go.Proofs.Try.f23) (c := (match Go.Proofs.Try.f23.body with | some c => c | none => .skip)) (by kernel_rfl) (by kernel_rfl) (by kernel_rfl) (by rw [hl]; kernel_rfl) (by kernel_rfl) ?_
  rw [hl]
  exact hr
noncomputable def plans24 (i : Nat) : Plan := []
noncomputable def T24 (p : Nat) : List Item × List Nat := bif Nat.beq p 0 then ([.code (match Go.Proofs.Try.f24.body with | some c => c | none => .skip)], [0]) else
  bif Nat.beq p 3 then (navs [.op, .op, .op] [.code (match Go.Proofs.Try.f24.body with | some c => c | none => .skip)], [3, 9, 10, 11]) else
  ([], [])
noncomputable def F24_0 (D J : Disp) (l0_0 : LV) (l0_1 : LV) (x0_2 : Int) (S : St) (K : AV → St → Prop) : Prop :=
 let S300 : St := (St.add S (AO.cells [(SV.sl l0_0), (SV.sl l0_1), (SV.int IntKind.i64 x0_2)] Bool.false));
 St.at S300 (Bk.new (St.next S)) 0 fun y301 =>
 uncK y301 fun v302 y303 =>
 SV.cL v302 fun y310 =>
 uncK y303 fun v311 y312 =>
 SV.cL v311 fun y319 =>
 uncK y312 fun v320 y321 =>
 SV.cI IntKind.i64 v320 fun x325 =>
 D 22 [(AV.one (V1.agg [(SV.sl y310), (SV.sl y319), (SV.int IntKind.i64 x325)]))] S300 fun v326 S327 =>
 scK v326 fun v329 =>
 SV.cM v329 fun y336 =>
 let S337 : St := (St.add S327 (AO.cells [(SV.map MV.nil)] Bool.false));
 St.wr S337 (Bk.new (St.next S327)) 0 [(SV.map y336)] fun S338 =>
 St.at S338 (Bk.new (St.next S)) 1 fun y339 =>
 uncK y339 fun v340 y341 =>
 SV.cL v340 fun y348 =>
 let x349 : Int := (Int.ofNat (LV.len y348));
 J 3 [(AV.one (V1.s (SV.ptr (PV.mk (Bk.new (St.next S327)) 0)))), (AV.one (V1.s (SV.sl y348))), (AV.one (V1.s (SV.int IntKind.i64 x349))), (AV.one (V1.s (SV.int IntKind.i64 (0 : Int))))] S338 K
noncomputable def X24_0 : X := (.op (.op (.op (.jmp 3 [3, 9, 10, 11]))))
theorem F24_0_eq (D J : Disp) (l0_0 : LV) (l0_1 : LV) (x0_2 : Int) (S : St) (K : AV → St → Prop) : F24_0 D J l0_0 l0_1 x0_2 S K = execK GraphP GraphG Go.Proofs.Try.f24 (typed GraphP D) J plans24 X24_0 (T24 0).1 (envOf (T24 0).2 [(AV.one (V1.agg [(SV.sl l0_0), (SV.sl l0_1), (SV.int IntKind.i64 x0_2)]))]) S K := by kernel_rfl
noncomputable def F24_3 (D J : Disp) (p3 : PV) (l9 : LV) (x10 : Int) (x11 : Int) (S : St) (K : AV → St → Prop) : Prop :=
 let c300 : Bool := (ilt x11 x10);
 ifK c300
 (LV.cs l9 fun b301 n302 n303 y304 =>
 req (Bool.and (ile (0 : Int) x11) (ilt x11 (Int.ofNat n303))) <|
 let n305 : Nat := (n302 + ((Int.toNat x11) * 6));
 St.at S b301 n305 fun y306 =>
 uncK y306 fun v307 y308 =>
 SV.cS v307 fun y313 =>
 uncK y308 fun v314 y315 =>
 SV.cI IntKind.i64 v314 fun x319 =>
 uncK y315 fun v320 y321 =>
 SV.cI IntKind.i64 v320 fun x325 =>
 uncK y321 fun v326 y327 =>
 SV.cL v326 fun y334 =>
 uncK y327 fun v335 y336 =>
 SV.cL v335 fun y343 =>
 uncK y336 fun v344 y345 =>
 SV.cB v344 fun y347 =>
 let S348 : St := (St.add S (AO.cells [(SV.str []), (SV.int IntKind.i64 (0 : Int)), (SV.int IntKind.i64 (0 : Int)), (SV.sl LV.nil), (SV.sl LV.nil), (SV.bool Bool.false)] Bool.false));
 St.wr S348 (Bk.new (St.next S)) 0 [(SV.str y313), (SV.int IntKind.i64 x319), (SV.int IntKind.i64 x325), (SV.sl y334), (SV.sl y343), (SV.bool y347)] fun S349 =>
 St.at S349 (Bk.new (St.next S)) 0 fun y350 =>
 uncK y350 fun v351 y352 =>
 SV.cS v351 fun y357 =>
 uncK y352 fun v358 y359 =>
 SV.cI IntKind.i64 v358 fun x363 =>
 uncK y359 fun v364 y365 =>
 SV.cI IntKind.i64 v364 fun x369 =>
 uncK y365 fun v370 y371 =>
 SV.cL v370 fun y378 =>
 uncK y371 fun v379 y380 =>
 SV.cL v379 fun y387 =>
 uncK y380 fun v388 y389 =>
 SV.cB v388 fun y391 =>
 PV.cs p3 fun b392 n393 =>
 D 19 [(AV.one (V1.agg [(SV.str y357), (SV.int IntKind.i64 x363), (SV.int IntKind.i64 x369), (SV.sl y378), (SV.sl y387), (SV.bool y391)])), (AV.one (V1.s (SV.fn (FV.mk (Fn.func 34) [] [(Prod.mk b392 n393)]))))] S349 fun v394 S395 =>
 avT v394 fun y397 =>
 endL y397 (let x398 : Int := (iwrap IntKind.i64 (x11 + (1 : Int)));
 J 3 [(AV.one (V1.s (SV.ptr p3))), (AV.one (V1.s (SV.sl l9))), (AV.one (V1.s (SV.int IntKind.i64 x10))), (AV.one (V1.s (SV.int IntKind.i64 x398)))] S395 K))
 (PV.cs p3 fun b452 n453 =>
 St.at S b452 n453 fun y454 =>
 uncK y454 fun v455 y456 =>
 SV.cM v455 fun y464 =>
 K ((AV.one (V1.s (SV.map y464)))) S)
noncomputable def X24_3 : X := (.op (.br (.op (.op (.op (.jmp 3 [3, 9, 10, 11])))) (.op .ret)))
theorem F24_3_eq (D J : Disp) (p3 : PV) (l9 : LV) (x10 : Int) (x11 : Int) (S : St) (K : AV → St → Prop) : F24_3 D J p3 l9 x10 x11 S K = execK GraphP GraphG Go.Proofs.Try.f24 (typed GraphP D) J plans24 X24_3 (T24 3).1 (envOf (T24 3).2 [(AV.one (V1.s (SV.ptr p3))), (AV.one (V1.s (SV.sl l9))), (AV.one (V1.s (SV.int IntKind.i64 x10))), (AV.one (V1.s (SV.int IntKind.i64 x11)))]) S K := by kernel_rfl
noncomputable abbrev A24_0 (D J : Disp) (vals : List AV) (S : St) (K : AV → St → Prop) : Prop :=
  uncA vals fun a9001 r9002 => avA a9001 fun l9004 => uncK l9004 fun s9006 r9007 => SV.cL s9006 fun l0_0 => uncK r9007 fun s9010 r9011 => SV.cL s9010 fun l0_1 => uncK r9011 fun s9014 r9015 => SV.cI IntKind.i64 s9014 fun x0_2 => endL r9015 <| endL r9002 <| F24_0 D J l0_0 l0_1 x0_2 S K
theorem A24_0_ok {D J : Disp} (hD : DOK GraphP GraphG D) (hJ : JOK GraphP GraphG Go.Proofs.Try.f24 T24 J) {vals : List AV} {S : St} {K : AV → St → Prop} (h0 : A24_0 D J vals S K) : Runs GraphP GraphG Go.Proofs.Try.f24 (T24 0).1 (envOf (T24 0).2 vals) S K := by
  obtain ⟨a9001, r9002, rfl, h3⟩ := uncA_some h0
  obtain ⟨l9004, rfl, h5⟩ := avA_some h3
  obtain ⟨s9006, r9007, rfl, h8⟩ := uncK_some h5
  obtain ⟨l0_0, rfl, h9⟩ := cL_some h8
  obtain ⟨s9010, r9011, rfl, h12⟩ := uncK_some h9
  obtain ⟨l0_1, rfl, h13⟩ := cL_some h12
  obtain ⟨s9014, r9015, rfl, h16⟩ := uncK_some h13
  obtain ⟨x0_2, rfl, h17⟩ := cI_some h16
  obtain ⟨rfl, h18⟩ := endL_some h17
  obtain ⟨rfl, h19⟩ := endL_some h18
  rw [F24_0_eq] at h19
  exact execK_runs hD.typed Graph_zero Graph_mixed hJ X24_0 (T24 0).1 (envOf (T24 0).2 _) S K (chk_of (by kernel_rfl) (by kernel_rfl)) h19
noncomputable abbrev A24_3 (D J : Disp) (vals : List AV) (S : St) (K : AV → St → Prop) : Prop :=
  uncA vals fun a9001 r9002 => scK a9001 fun s9004 => SV.cP s9004 fun p3 => uncA r9002 fun a9007 r9008 => scK a9007 fun s9010 => SV.cL s9010 fun l9 => uncA r9008 fun a9013 r9014 => scK a9013 fun s9016 => SV.cI IntKind.i64 s9016 fun x10 => uncA r9014 fun a9019 r9020 => scK a9019 fun s9022 => SV.cI IntKind.i64 s9022 fun x11 => endL r9020 <| F24_3 D J p3 l9 x10 x11 S K
theorem A24_3_ok {D J : Disp} (hD : DOK GraphP GraphG D) (hJ : JOK GraphP GraphG Go.Proofs.Try.f24 T24 J) {vals : List AV} {S : St} {K : AV → St → Prop} (h0 : A24_3 D J vals S K) : Runs GraphP GraphG Go.Proofs.Try.f24 (T24 3).1 (envOf (T24 3).2 vals) S K := by
  obtain ⟨a9001, r9002, rfl, h3⟩ := uncA_some h0
  obtain ⟨s9004, rfl, h5⟩ := scK_some h3
  obtain ⟨p3, rfl, h6⟩ := cP_some h5
  obtain ⟨a9007, r9008, rfl, h9⟩ := uncA_some h6
  obtain ⟨s9010, rfl, h11⟩ := scK_some h9
  obtain ⟨l9, rfl, h12⟩ := cL_some h11
  obtain ⟨a9013, r9014, rfl, h15⟩ := uncA_some h12
  obtain ⟨s9016, rfl, h17⟩ := scK_some h15
  obtain ⟨x10, rfl, h18⟩ := cI_some h17
  obtain ⟨a9019, r9020, rfl, h21⟩ := uncA_some h18
  obtain ⟨s9022, rfl, h23⟩ := scK_some h21
  obtain ⟨x11, rfl, h24⟩ := cI_some h23
  obtain ⟨rfl, h25⟩ := endL_some h24
  rw [F24_3_eq] at h25
  exact execK_runs hD.typed Graph_zero Graph_mixed hJ X24_3 (T24 3).1 (envOf (T24 3).2 _) S K (chk_of (by kernel_rfl) (by kernel_rfl)) h25
noncomputable def J24 (D : Disp) (k : Nat) : Disp := Nat.rec (motive := fun _ => Disp) Disp.no (fun _ ih => Disp.add 0 (A24_0 D ih) <| Disp.add 3 (A24_3 D ih) <| Disp.no) k
theorem J24_ok {D : Disp} (hD : DOK GraphP GraphG D) : ∀ k, JOK GraphP GraphG Go.Proofs.Try.f24 T24 (J24 D k)
  | 0 => JOK.no
  | k + 1 => JOK.add (ltB_ok (by kernel_rfl)) (fun vals S K h => A24_0_ok hD (J24_ok hD k) h) <| JOK.add (ltB_ok (by kernel_rfl)) (fun vals S K h => A24_3_ok hD (J24_ok hD k) h) <| JOK.no
theorem E24_ok {D : Disp} (hD : DOK GraphP GraphG D) (k : Nat) {args : List AV} {S : St} {K : AV → St → Prop} (h : A24_0 D (J24 D k) args S K) : CallOK GraphP GraphG 24 args S K := by
  have hr := A24_0_ok hD (J24_ok hD k) h
  have hl : args.length = 1 := by
    have h0 := h
    obtain ⟨a9001, r9002, rfl, h3⟩ := uncA_some h0
    obtain ⟨l9004, rfl, h5⟩ := avA_some h3
    obtain ⟨s9006, r9007, rfl, h8⟩ := uncK_some h5
    obtain ⟨l0_0, rfl, h9⟩ := cL_some h8
    obtain ⟨s9010, r9011, rfl, h12⟩ := uncK_some h9
    obtain ⟨l0_1, rfl, h13⟩ := cL_some h12
    obtain ⟨s9014, r9015, rfl, h16⟩ := uncK_some h13
    obtain ⟨x0_2, rfl, h17⟩ := cI_some h16
    obtain ⟨rfl, h18⟩ := endL_some h17
    obtain ⟨rfl, h19⟩ := endL_some h18
    rfl
  refine callOK_of (fn := Go.Proofs.Try.f24) (c := (match Go.Proofs.Try.f24.body with | some c => c | none => .skip)) (by kernel_rfl) (by kernel_rfl) (by kernel_rfl) (by rw [hl]; kernel_rfl) (by kernel_rfl) ?_
  rw [hl]
  exact hr
end
end Go.Xe
