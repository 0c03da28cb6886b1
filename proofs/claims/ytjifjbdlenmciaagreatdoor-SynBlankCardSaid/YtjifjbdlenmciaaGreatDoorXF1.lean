import Derived.Test.YtjifjbdlenmciaaGreatDoorXF0
import Derived.KernelRfl
set_option linter.unusedVariables false
set_option linter.unusedSimpArgs false
set_option linter.constructorNameAsVariable false
set_option linter.unusedVariables false
set_option maxRecDepth 100000
namespace Go.Xe
open Go.RowKit
noncomputable section
noncomputable def plans3 (i : Nat) : Plan := []
noncomputable def T3 (p : Nat) : List Item × List Nat := bif Nat.beq p 0 then ([.code (match Go.Proofs.Tryz.f3.body with | some c => c | none => .skip)], [0, 1]) else
  bif Nat.beq p 7 then (navs [.op, .op, .op, .op, .op, .th, .op] [.code (match Go.Proofs.Tryz.f3.body with | some c => c | none => .skip)], [7, 8, 9]) else
  ([], [])
noncomputable def F3_q7 (D J : Disp) (S321 : St) (y331 : (List Nat)) (s395 : (List Nat)) (S397 : St) (y403 : (List Nat)) (K : AV → St → Prop) : Prop :=
 req (Nat.blt ((List.length s395) + (List.length y403)) 9223372036854775808) <|
 let s404 : (List Nat) := (s395 ++ y403);
 req (Nat.blt ((List.length s404) + 22) 9223372036854775808) <|
 let s405 : (List Nat) := (s404 ++ [32, 40, 110, 97, 109, 101, 32, 98, 41, 32, 40, 110, 97, 109, 101, 32, 99, 41, 41, 41, 41, 10]);
 J 7 [(AV.one (V1.s (SV.str y331))), (AV.one (V1.s (SV.ptr (PV.mk (Bk.new (St.next S321)) 0)))), (AV.one (V1.s (SV.str s405)))] S397 K
noncomputable def F3_q8 (D J : Disp) (y315 : (List Nat)) (S321 : St) (y331 : (List Nat)) (S387 : St) (y393 : (List Nat)) (K : AV → St → Prop) : Prop :=
 req (Nat.blt (14 + (List.length y393)) 9223372036854775808) <|
 let s394 : (List Nat) := ([40, 118, 97, 114, 32, 105, 51, 50, 32, 120, 32, 48, 32, 40] ++ y393);
 req (Nat.blt ((List.length s394) + 11) 9223372036854775808) <|
 let s395 : (List Nat) := (s394 ++ [32, 40, 110, 97, 109, 101, 32, 97, 41, 32, 40]);
 D 10 [(AV.one (V1.s (SV.str y315)))] S387 fun v396 S397 =>
 scK v396 fun v399 =>
 SV.cS v399 fun y403 =>
 F3_q7 D J S321 y331 s395 S397 y403 K
noncomputable def F3_q9 (D J : Disp) (x1 : Int) (y307 : (List Nat)) (y315 : (List Nat)) (S321 : St) (y331 : (List Nat)) (s370 : (List Nat)) (S372 : St) (x377 : Int) (K : AV → St → Prop) : Prop :=
 D 11 [(AV.one (V1.s (SV.int IntKind.i64 x1))), (AV.one (V1.s (SV.int IntKind.i64 (10 : Int))))] S372 fun v378 S379 =>
 scK v378 fun v381 =>
 SV.cI IntKind.i64 v381 fun x384 =>
 let c385 : Bool := (ilt x377 x384);
 ifK c385
 (D 10 [(AV.one (V1.s (SV.str y307)))] S379 fun v386 S387 =>
 scK v386 fun v389 =>
 SV.cS v389 fun y393 =>
 F3_q8 D J y315 S321 y331 S387 y393 K)
 (J 7 [(AV.one (V1.s (SV.str y331))), (AV.one (V1.s (SV.ptr (PV.mk (Bk.new (St.next S321)) 0)))), (AV.one (V1.s (SV.str s370)))] S379 K)
noncomputable def F3_q10 (D J : Disp) (x0 : Int) (x1 : Int) (y307 : (List Nat)) (y315 : (List Nat)) (S321 : St) (y331 : (List Nat)) (S362 : St) (s369 : (List Nat)) (K : AV → St → Prop) : Prop :=
 req (Nat.blt ((List.length s369) + 31) 9223372036854775808) <|
 let s370 : (List Nat) := (s369 ++ [32, 40, 110, 97, 109, 101, 32, 97, 41, 32, 40, 110, 97, 109, 101, 32, 98, 41, 41, 32, 40, 110, 97, 109, 101, 32, 99, 41, 41, 41, 10]);
 D 11 [(AV.one (V1.s (SV.int IntKind.i64 x0))), (AV.one (V1.s (SV.int IntKind.i64 (10 : Int))))] S362 fun v371 S372 =>
 scK v371 fun v374 =>
 SV.cI IntKind.i64 v374 fun x377 =>
 F3_q9 D J x1 y307 y315 S321 y331 s370 S372 x377 K
noncomputable def F3_q11 (D J : Disp) (x0 : Int) (x1 : Int) (y307 : (List Nat)) (y315 : (List Nat)) (S321 : St) (y331 : (List Nat)) (S352 : St) (y358 : (List Nat)) (K : AV → St → Prop) : Prop :=
 req (Nat.blt (14 + (List.length y358)) 9223372036854775808) <|
 let s359 : (List Nat) := ([40, 118, 97, 114, 32, 105, 51, 50, 32, 120, 32, 48, 32, 40] ++ y358);
 req (Nat.blt ((List.length s359) + 2) 9223372036854775808) <|
 let s360 : (List Nat) := (s359 ++ [32, 40]);
 D 10 [(AV.one (V1.s (SV.str y307)))] S352 fun v361 S362 =>
 scK v361 fun v364 =>
 SV.cS v364 fun y368 =>
 req (Nat.blt ((List.length s360) + (List.length y368)) 9223372036854775808) <|
 let s369 : (List Nat) := (s360 ++ y368);
 F3_q10 D J x0 x1 y307 y315 S321 y331 S362 s369 K
noncomputable def F3_q12 (D J : Disp) (x0 : Int) (x1 : Int) (y307 : (List Nat)) (S309 : St) (y315 : (List Nat)) (s319 : (List Nat)) (K : AV → St → Prop) : Prop :=
 D 9 [(AV.one (V1.s (SV.str s319)))] S309 fun v320 S321 =>
 avT v320 fun y323 =>
 uncV y323 fun v324 y325 =>
 v1S v324 fun v327 =>
 SV.cS v327 fun y331 =>
 uncV y325 fun v332 y333 =>
 v1A v332 fun y336 =>
 req (Nat.beq (List.length y336) 2) <|
 uncK y336 fun v337 y338 =>
 SV.cI IntKind.i64 v337 fun x342 =>
 uncK y338 fun v343 y344 =>
 SV.cI IntKind.i64 v343 fun x348 =>
 endL y333 (let S349 : St := (St.add S321 (AO.cells [(SV.int IntKind.i64 (0 : Int)), (SV.int IntKind.i64 (0 : Int))] (Op2.ty 25)));
 St.wr S349 (Bk.new (St.next S321)) 0 [(SV.int IntKind.i64 x342), (SV.int IntKind.i64 x348)] fun S350 =>
 D 10 [(AV.one (V1.s (SV.str y315)))] S350 fun v351 S352 =>
 scK v351 fun v354 =>
 SV.cS v354 fun y358 =>
 F3_q11 D J x0 x1 y307 y315 S321 y331 S352 y358 K)
noncomputable def F3_q13 (D J : Disp) (x0 : Int) (x1 : Int) (y307 : (List Nat)) (S309 : St) (y315 : (List Nat)) (K : AV → St → Prop) : Prop :=
 req (Nat.blt (10 + (List.length y307)) 9223372036854775808) <|
 let s316 : (List Nat) := ([105, 110, 116, 32, 120, 32, 61, 32, 97, 32] ++ y307);
 req (Nat.blt ((List.length s316) + 3) 9223372036854775808) <|
 let s317 : (List Nat) := (s316 ++ [32, 98, 32]);
 req (Nat.blt ((List.length s317) + (List.length y315)) 9223372036854775808) <|
 let s318 : (List Nat) := (s317 ++ y315);
 req (Nat.blt ((List.length s318) + 3) 9223372036854775808) <|
 let s319 : (List Nat) := (s318 ++ [32, 99, 59]);
 F3_q12 D J x0 x1 y307 S309 y315 s319 K
noncomputable def F3_0 (D J : Disp) (x0 : Int) (x1 : Int) (S : St) (K : AV → St → Prop) : Prop :=
 D 8 [(AV.one (V1.s (SV.int IntKind.i64 x0)))] S fun v300 S301 =>
 scK v300 fun v303 =>
 SV.cS v303 fun y307 =>
 D 8 [(AV.one (V1.s (SV.int IntKind.i64 x1)))] S301 fun v308 S309 =>
 scK v308 fun v311 =>
 SV.cS v311 fun y315 =>
 F3_q13 D J x0 x1 y307 S309 y315 K
noncomputable def X3_0 : X := (.op (.op (.op (.op (.op (.br (.op (.jmp 7 [7, 8, 9])) (.jmp 7 [7, 8, 9])))))))
theorem F3_0_eq (D J : Disp) (x0 : Int) (x1 : Int) (S : St) (K : AV → St → Prop) : F3_0 D J x0 x1 S K = execK SynP SynG Go.Proofs.Tryz.f3 (typed SynP D) J plans3 X3_0 (T3 0).1 (envOf (T3 0).2 [(AV.one (V1.s (SV.int IntKind.i64 x0))), (AV.one (V1.s (SV.int IntKind.i64 x1)))]) S K := by kernel_rfl
noncomputable def F3_7 (D J : Disp) (s7 : (List Nat)) (p8 : PV) (s9 : (List Nat)) (S : St) (K : AV → St → Prop) : Prop :=
 PV.cs p8 fun b300 n301 =>
 let n302 : Nat := (n301 + 0);
 St.at S b300 n302 fun y303 =>
 uncK y303 fun v304 y305 =>
 SV.cI IntKind.i64 v304 fun x309 =>
 let c310 : Bool := (ieq x309 (0 : Int));
 ifK c310
 (let c311 : Bool := (leq s7 s9);
 ifK c311
 (D 12 [] S fun v312 S313 =>
 scK v312 fun v315 =>
 SV.cB v315 fun y316 =>
 K ((AV.one (V1.s (SV.bool y316)))) S313)
 (K ((AV.one (V1.s (SV.bool Bool.false)))) S))
 (K ((AV.one (V1.s (SV.bool Bool.false)))) S)
noncomputable def X3_7 : X := (.op .ret)
theorem F3_7_eq (D J : Disp) (s7 : (List Nat)) (p8 : PV) (s9 : (List Nat)) (S : St) (K : AV → St → Prop) : F3_7 D J s7 p8 s9 S K = execK SynP SynG Go.Proofs.Tryz.f3 (typed SynP D) J plans3 X3_7 (T3 7).1 (envOf (T3 7).2 [(AV.one (V1.s (SV.str s7))), (AV.one (V1.s (SV.ptr p8))), (AV.one (V1.s (SV.str s9)))]) S K := by kernel_rfl
noncomputable abbrev A3_0 (D J : Disp) (vals : List AV) (S : St) (K : AV → St → Prop) : Prop :=
  uncA vals fun a9001 r9002 => scK a9001 fun s9004 => SV.cI IntKind.i64 s9004 fun x0 => uncA r9002 fun a9007 r9008 => scK a9007 fun s9010 => SV.cI IntKind.i64 s9010 fun x1 => endL r9008 <| F3_0 D J x0 x1 S K
theorem A3_0_ok {D J : Disp} (hD : DOK SynP SynG D) (hJ : JOK SynP SynG Go.Proofs.Tryz.f3 T3 J) {vals : List AV} {S : St} {K : AV → St → Prop} (h0 : A3_0 D J vals S K) : Runs SynP SynG Go.Proofs.Tryz.f3 (T3 0).1 (envOf (T3 0).2 vals) S K := by
  obtain ⟨a9001, r9002, rfl, h3⟩ := uncA_some h0
  obtain ⟨s9004, rfl, h5⟩ := scK_some h3
  obtain ⟨x0, rfl, h6⟩ := cI_some h5
  obtain ⟨a9007, r9008, rfl, h9⟩ := uncA_some h6
  obtain ⟨s9010, rfl, h11⟩ := scK_some h9
  obtain ⟨x1, rfl, h12⟩ := cI_some h11
  obtain ⟨rfl, h13⟩ := endL_some h12
  rw [F3_0_eq] at h13
  exact execK_runs hD.typed Syn_zero Syn_mixed hJ X3_0 (T3 0).1 (envOf (T3 0).2 _) S K (chk_of (by kernel_rfl) (by kernel_rfl)) h13
noncomputable abbrev A3_7 (D J : Disp) (vals : List AV) (S : St) (K : AV → St → Prop) : Prop :=
  uncA vals fun a9001 r9002 => scK a9001 fun s9004 => SV.cS s9004 fun s7 => uncA r9002 fun a9007 r9008 => scK a9007 fun s9010 => SV.cP s9010 fun p8 => uncA r9008 fun a9013 r9014 => scK a9013 fun s9016 => SV.cS s9016 fun s9 => endL r9014 <| F3_7 D J s7 p8 s9 S K
theorem A3_7_ok {D J : Disp} (hD : DOK SynP SynG D) (hJ : JOK SynP SynG Go.Proofs.Tryz.f3 T3 J) {vals : List AV} {S : St} {K : AV → St → Prop} (h0 : A3_7 D J vals S K) : Runs SynP SynG Go.Proofs.Tryz.f3 (T3 7).1 (envOf (T3 7).2 vals) S K := by
  obtain ⟨a9001, r9002, rfl, h3⟩ := uncA_some h0
  obtain ⟨s9004, rfl, h5⟩ := scK_some h3
  obtain ⟨s7, rfl, h6⟩ := cS_some h5
  obtain ⟨a9007, r9008, rfl, h9⟩ := uncA_some h6
  obtain ⟨s9010, rfl, h11⟩ := scK_some h9
  obtain ⟨p8, rfl, h12⟩ := cP_some h11
  obtain ⟨a9013, r9014, rfl, h15⟩ := uncA_some h12
  obtain ⟨s9016, rfl, h17⟩ := scK_some h15
  obtain ⟨s9, rfl, h18⟩ := cS_some h17
  obtain ⟨rfl, h19⟩ := endL_some h18
  rw [F3_7_eq] at h19
  exact execK_runs hD.typed Syn_zero Syn_mixed hJ X3_7 (T3 7).1 (envOf (T3 7).2 _) S K (chk_of (by kernel_rfl) (by kernel_rfl)) h19
noncomputable def J3 (D : Disp) (k : Nat) : Disp := Nat.rec (motive := fun _ => Disp) Disp.no (fun _ ih => Disp.add 0 (A3_0 D ih) <| Disp.add 7 (A3_7 D ih) <| Disp.no) k
theorem J3_ok {D : Disp} (hD : DOK SynP SynG D) : ∀ k, JOK SynP SynG Go.Proofs.Tryz.f3 T3 (J3 D k)
  | 0 => JOK.no
  | k + 1 => JOK.add (ltB_ok (by kernel_rfl)) (fun vals S K h => A3_0_ok hD (J3_ok hD k) h) <| JOK.add (ltB_ok (by kernel_rfl)) (fun vals S K h => A3_7_ok hD (J3_ok hD k) h) <| JOK.no
theorem E3_ok {D : Disp} (hD : DOK SynP SynG D) (k : Nat) {args : List AV} {S : St} {K : AV → St → Prop} (h : A3_0 D (J3 D k) args S K) : CallE SynP SynG 3 args S K := by
  have hr := A3_0_ok hD (J3_ok hD k) h
  have hl : args.length = 2 := by
    have h0 := h
    obtain ⟨a9001, r9002, rfl, h3⟩ := uncA_some h0
    obtain ⟨s9004, rfl, h5⟩ := scK_some h3
    obtain ⟨x0, rfl, h6⟩ := cI_some h5
    obtain ⟨a9007, r9008, rfl, h9⟩ := uncA_some h6
    obtain ⟨s9010, rfl, h11⟩ := scK_some h9
    obtain ⟨x1, rfl, h12⟩ := cI_some h11
    obtain ⟨rfl, h13⟩ := endL_some h12
    rfl
  refine callOK_of (fn := Go.Proofs.Tryz.f3) (c := (match Go.Proofs.Tryz.f3.body with | some c => c | none => .skip)) (by kernel_rfl) (by kernel_rfl) (by kernel_rfl) (by rw [hl]; kernel_rfl) (by kernel_rfl) ?_
  rw [hl]
  exact hr
noncomputable def plans4 (i : Nat) : Plan := []
noncomputable def T4 (p : Nat) : List Item × List Nat := bif Nat.beq p 0 then ([.code (match Go.Proofs.Tryz.f4.body with | some c => c | none => .skip)], [0, 1]) else
  bif Nat.beq p 5 then (navs [.op, .op, .op, .op, .op] [.code (match Go.Proofs.Tryz.f4.body with | some c => c | none => .skip)], [0, 1, 5, 6]) else
  bif Nat.beq p 12 then (navs [.op, .op, .op, .op, .op, .op, .el, .op, .op, .op] [.code (match Go.Proofs.Tryz.f4.body with | some c => c | none => .skip)], [0, 1, 5, 7, 8]) else
  bif Nat.beq p 19 then (navs [.op, .op, .op, .op, .op, .op, .el, .op, .op, .op, .op, .th, .op, .op, .th, .op, .op] [.code (match Go.Proofs.Tryz.f4.body with | some c => c | none => .skip)], [0, 1, 5, 7, 8, 9]) else
  ([], [])
noncomputable def F4_q7 (D J : Disp) (x1 : Int) (S301 : St) (x307 : Int) (K : AV → St → Prop) : Prop :=
 let x308 : Int := (iwrap IntKind.i64 (x307 + (1 : Int)));
 D 11 [(AV.one (V1.s (SV.int IntKind.i64 x1))), (AV.one (V1.s (SV.int IntKind.i64 x308)))] S301 fun v309 S310 =>
 scK v309 fun v312 =>
 SV.cI IntKind.i64 v312 fun x315 =>
 J 5 [(AV.one (V1.s (SV.int IntKind.i64 x307))), (AV.one (V1.s (SV.int IntKind.i64 x315))), (AV.one (V1.s (SV.str [118, 111, 105, 100, 32, 102, 40, 41, 32, 123, 32]))), (AV.one (V1.s (SV.int IntKind.i64 (0 : Int))))] S310 K
noncomputable def F4_0 (D J : Disp) (x0 : Int) (x1 : Int) (S : St) (K : AV → St → Prop) : Prop :=
 D 11 [(AV.one (V1.s (SV.int IntKind.i64 x0))), (AV.one (V1.s (SV.int IntKind.i64 (8 : Int))))] S fun v300 S301 =>
 scK v300 fun v303 =>
 SV.cI IntKind.i64 v303 fun x306 =>
 let x307 : Int := (iwrap IntKind.i64 ((1 : Int) + x306));
 F4_q7 D J x1 S301 x307 K
noncomputable def X4_0 : X := (.op (.op (.op (.op (.op (.jmp 5 [0, 1, 5, 6]))))))
theorem F4_0_eq (D J : Disp) (x0 : Int) (x1 : Int) (S : St) (K : AV → St → Prop) : F4_0 D J x0 x1 S K = execK SynP SynG Go.Proofs.Tryz.f4 (typed SynP D) J plans4 X4_0 (T4 0).1 (envOf (T4 0).2 [(AV.one (V1.s (SV.int IntKind.i64 x0))), (AV.one (V1.s (SV.int IntKind.i64 x1)))]) S K := by kernel_rfl
noncomputable def F4_q8 (D J : Disp) (S : St) (x0 : Int) (x1 : Int) (s5 : (List Nat)) (x6 : Int) (c300 : Bool) (K : AV → St → Prop) : Prop :=
 ifK c300
 (req (Nat.blt ((List.length s5) + 7) 9223372036854775808) <|
 let s301 : (List Nat) := (s5 ++ [105, 102, 32, 40, 97, 41, 32]);
 let x302 : Int := (iwrap IntKind.i64 (x6 + (1 : Int)));
 J 5 [(AV.one (V1.s (SV.int IntKind.i64 x0))), (AV.one (V1.s (SV.int IntKind.i64 x1))), (AV.one (V1.s (SV.str s301))), (AV.one (V1.s (SV.int IntKind.i64 x302)))] S K)
 (req (Nat.blt ((List.length s5) + 2) 9223372036854775808) <|
 let s303 : (List Nat) := (s5 ++ [98, 59]);
 J 12 [(AV.one (V1.s (SV.int IntKind.i64 x0))), (AV.one (V1.s (SV.int IntKind.i64 x1))), (AV.one (V1.s (SV.str s303))), (AV.one (V1.s (SV.str [40, 101, 120, 112, 114, 32, 40, 110, 97, 109, 101, 32, 98, 41, 41]))), (AV.one (V1.s (SV.int IntKind.i64 (0 : Int))))] S K)
noncomputable def F4_5 (D J : Disp) (x0 : Int) (x1 : Int) (s5 : (List Nat)) (x6 : Int) (S : St) (K : AV → St → Prop) : Prop :=
 let c300 : Bool := (ilt x6 x0);
 F4_q8 D J S x0 x1 s5 x6 c300 K
noncomputable def X4_5 : X := (.op (.br (.op (.op (.jmp 5 [0, 1, 5, 6]))) (.op (.op (.op (.jmp 12 [0, 1, 5, 7, 8]))))))
theorem F4_5_eq (D J : Disp) (x0 : Int) (x1 : Int) (s5 : (List Nat)) (x6 : Int) (S : St) (K : AV → St → Prop) : F4_5 D J x0 x1 s5 x6 S K = execK SynP SynG Go.Proofs.Tryz.f4 (typed SynP D) J plans4 X4_5 (T4 5).1 (envOf (T4 5).2 [(AV.one (V1.s (SV.int IntKind.i64 x0))), (AV.one (V1.s (SV.int IntKind.i64 x1))), (AV.one (V1.s (SV.str s5))), (AV.one (V1.s (SV.int IntKind.i64 x6)))]) S K := by kernel_rfl
noncomputable def F4_q9 (D J : Disp) (S : St) (x0 : Int) (x1 : Int) (s5 : (List Nat)) (s7 : (List Nat)) (x8 : Int) (K : AV → St → Prop) : Prop :=
 req (Nat.blt ((List.length s5) + 8) 9223372036854775808) <|
 let s302 : (List Nat) := (s5 ++ [32, 101, 108, 115, 101, 32, 99, 59]);
 J 19 [(AV.one (V1.s (SV.int IntKind.i64 x0))), (AV.one (V1.s (SV.int IntKind.i64 x1))), (AV.one (V1.s (SV.str s302))), (AV.one (V1.s (SV.str s7))), (AV.one (V1.s (SV.int IntKind.i64 x8))), (AV.one (V1.s (SV.str [32, 40, 101, 120, 112, 114, 32, 40, 110, 97, 109, 101, 32, 99, 41, 41, 41])))] S K
noncomputable def F4_q10 (D J : Disp) (s7 : (List Nat)) (y315 : (List Nat)) (S334 : St) (K : AV → St → Prop) : Prop :=
 req (Nat.blt (23 + (List.length s7)) 9223372036854775808) <|
 let s343 : (List Nat) := ([40, 102, 117, 110, 99, 32, 118, 111, 105, 100, 32, 102, 32, 40, 41, 32, 40, 98, 108, 111, 99, 107, 32] ++ s7);
 req (Nat.blt ((List.length s343) + 3) 9223372036854775808) <|
 let s344 : (List Nat) := (s343 ++ [41, 41, 10]);
 let c345 : Bool := (leq y315 s344);
 ifK c345
 (D 12 [] S334 fun v346 S347 =>
 scK v346 fun v349 =>
 SV.cB v349 fun y350 =>
 K ((AV.one (V1.s (SV.bool y350)))) S347)
 (K ((AV.one (V1.s (SV.bool Bool.false)))) S334)
noncomputable def F4_q11 (D J : Disp) (s7 : (List Nat)) (S305 : St) (y315 : (List Nat)) (x326 : Int) (x332 : Int) (K : AV → St → Prop) : Prop :=
 let S333 : St := (St.add S305 (AO.cells [(SV.int IntKind.i64 (0 : Int)), (SV.int IntKind.i64 (0 : Int))] (Op2.ty 25)));
 St.wr S333 (Bk.new (St.next S305)) 0 [(SV.int IntKind.i64 x326), (SV.int IntKind.i64 x332)] fun S334 =>
 St.at S334 (Bk.new (St.next S305)) 0 fun y335 =>
 uncK y335 fun v336 y337 =>
 SV.cI IntKind.i64 v336 fun x341 =>
 let c342 : Bool := (ieq x341 (0 : Int));
 ifK c342
 (F4_q10 D J s7 y315 S334 K)
 (K ((AV.one (V1.s (SV.bool Bool.false)))) S334)
noncomputable def F4_q12 (D J : Disp) (S : St) (s5 : (List Nat)) (s7 : (List Nat)) (K : AV → St → Prop) : Prop :=
 req (Nat.blt ((List.length s5) + 2) 9223372036854775808) <|
 let s303 : (List Nat) := (s5 ++ [32, 125]);
 D 9 [(AV.one (V1.s (SV.str s303)))] S fun v304 S305 =>
 avT v304 fun y307 =>
 uncV y307 fun v308 y309 =>
 v1S v308 fun v311 =>
 SV.cS v311 fun y315 =>
 uncV y309 fun v316 y317 =>
 v1A v316 fun y320 =>
 req (Nat.beq (List.length y320) 2) <|
 uncK y320 fun v321 y322 =>
 SV.cI IntKind.i64 v321 fun x326 =>
 uncK y322 fun v327 y328 =>
 SV.cI IntKind.i64 v327 fun x332 =>
 endL y317 (F4_q11 D J s7 S305 y315 x326 x332 K)
noncomputable def F4_12 (D J : Disp) (x0 : Int) (x1 : Int) (s5 : (List Nat)) (s7 : (List Nat)) (x8 : Int) (S : St) (K : AV → St → Prop) : Prop :=
 let c300 : Bool := (ilt x8 x0);
 ifK c300
 (let c301 : Bool := (ilt x8 x1);
 ifK c301
 (F4_q9 D J S x0 x1 s5 s7 x8 K)
 (J 19 [(AV.one (V1.s (SV.int IntKind.i64 x0))), (AV.one (V1.s (SV.int IntKind.i64 x1))), (AV.one (V1.s (SV.str s5))), (AV.one (V1.s (SV.str s7))), (AV.one (V1.s (SV.int IntKind.i64 x8))), (AV.one (V1.s (SV.str [32, 45, 41])))] S K))
 (F4_q12 D J S s5 s7 K)
noncomputable def X4_12 : X := (.op (.br (.op (.op (.br (.op (.op (.jmp 19 [0, 1, 5, 7, 8, 9]))) (.jmp 19 [0, 1, 5, 7, 8, 9])))) (.op (.op .ret))))
theorem F4_12_eq (D J : Disp) (x0 : Int) (x1 : Int) (s5 : (List Nat)) (s7 : (List Nat)) (x8 : Int) (S : St) (K : AV → St → Prop) : F4_12 D J x0 x1 s5 s7 x8 S K = execK SynP SynG Go.Proofs.Tryz.f4 (typed SynP D) J plans4 X4_12 (T4 12).1 (envOf (T4 12).2 [(AV.one (V1.s (SV.int IntKind.i64 x0))), (AV.one (V1.s (SV.int IntKind.i64 x1))), (AV.one (V1.s (SV.str s5))), (AV.one (V1.s (SV.str s7))), (AV.one (V1.s (SV.int IntKind.i64 x8)))]) S K := by kernel_rfl
noncomputable def F4_q13 (D J : Disp) (S : St) (x0 : Int) (x1 : Int) (s5 : (List Nat)) (s7 : (List Nat)) (x8 : Int) (s9 : (List Nat)) (K : AV → St → Prop) : Prop :=
 req (Nat.blt (13 + (List.length s7)) 9223372036854775808) <|
 let s300 : (List Nat) := ([40, 105, 102, 32, 40, 110, 97, 109, 101, 32, 97, 41, 32] ++ s7);
 req (Nat.blt ((List.length s300) + (List.length s9)) 9223372036854775808) <|
 let s301 : (List Nat) := (s300 ++ s9);
 let x302 : Int := (iwrap IntKind.i64 (x8 + (1 : Int)));
 J 12 [(AV.one (V1.s (SV.int IntKind.i64 x0))), (AV.one (V1.s (SV.int IntKind.i64 x1))), (AV.one (V1.s (SV.str s5))), (AV.one (V1.s (SV.str s301))), (AV.one (V1.s (SV.int IntKind.i64 x302)))] S K
noncomputable def F4_19 (D J : Disp) (x0 : Int) (x1 : Int) (s5 : (List Nat)) (s7 : (List Nat)) (x8 : Int) (s9 : (List Nat)) (S : St) (K : AV → St → Prop) : Prop :=
 F4_q13 D J S x0 x1 s5 s7 x8 s9 K
noncomputable def X4_19 : X := (.op (.op (.jmp 12 [0, 1, 5, 7, 8])))
theorem F4_19_eq (D J : Disp) (x0 : Int) (x1 : Int) (s5 : (List Nat)) (s7 : (List Nat)) (x8 : Int) (s9 : (List Nat)) (S : St) (K : AV → St → Prop) : F4_19 D J x0 x1 s5 s7 x8 s9 S K = execK SynP SynG Go.Proofs.Tryz.f4 (typed SynP D) J plans4 X4_19 (T4 19).1 (envOf (T4 19).2 [(AV.one (V1.s (SV.int IntKind.i64 x0))), (AV.one (V1.s (SV.int IntKind.i64 x1))), (AV.one (V1.s (SV.str s5))), (AV.one (V1.s (SV.str s7))), (AV.one (V1.s (SV.int IntKind.i64 x8))), (AV.one (V1.s (SV.str s9)))]) S K := by kernel_rfl
noncomputable abbrev A4_0 (D J : Disp) (vals : List AV) (S : St) (K : AV → St → Prop) : Prop :=
  uncA vals fun a9001 r9002 => scK a9001 fun s9004 => SV.cI IntKind.i64 s9004 fun x0 => uncA r9002 fun a9007 r9008 => scK a9007 fun s9010 => SV.cI IntKind.i64 s9010 fun x1 => endL r9008 <| F4_0 D J x0 x1 S K
theorem A4_0_ok {D J : Disp} (hD : DOK SynP SynG D) (hJ : JOK SynP SynG Go.Proofs.Tryz.f4 T4 J) {vals : List AV} {S : St} {K : AV → St → Prop} (h0 : A4_0 D J vals S K) : Runs SynP SynG Go.Proofs.Tryz.f4 (T4 0).1 (envOf (T4 0).2 vals) S K := by
  obtain ⟨a9001, r9002, rfl, h3⟩ := uncA_some h0
  obtain ⟨s9004, rfl, h5⟩ := scK_some h3
  obtain ⟨x0, rfl, h6⟩ := cI_some h5
  obtain ⟨a9007, r9008, rfl, h9⟩ := uncA_some h6
  obtain ⟨s9010, rfl, h11⟩ := scK_some h9
  obtain ⟨x1, rfl, h12⟩ := cI_some h11
  obtain ⟨rfl, h13⟩ := endL_some h12
  rw [F4_0_eq] at h13
  exact execK_runs hD.typed Syn_zero Syn_mixed hJ X4_0 (T4 0).1 (envOf (T4 0).2 _) S K (chk_of (by kernel_rfl) (by kernel_rfl)) h13
noncomputable abbrev A4_5 (D J : Disp) (vals : List AV) (S : St) (K : AV → St → Prop) : Prop :=
  uncA vals fun a9001 r9002 => scK a9001 fun s9004 => SV.cI IntKind.i64 s9004 fun x0 => uncA r9002 fun a9007 r9008 => scK a9007 fun s9010 => SV.cI IntKind.i64 s9010 fun x1 => uncA r9008 fun a9013 r9014 => scK a9013 fun s9016 => SV.cS s9016 fun s5 => uncA r9014 fun a9019 r9020 => scK a9019 fun s9022 => SV.cI IntKind.i64 s9022 fun x6 => endL r9020 <| F4_5 D J x0 x1 s5 x6 S K
theorem A4_5_ok {D J : Disp} (hD : DOK SynP SynG D) (hJ : JOK SynP SynG Go.Proofs.Tryz.f4 T4 J) {vals : List AV} {S : St} {K : AV → St → Prop} (h0 : A4_5 D J vals S K) : Runs SynP SynG Go.Proofs.Tryz.f4 (T4 5).1 (envOf (T4 5).2 vals) S K := by
  obtain ⟨a9001, r9002, rfl, h3⟩ := uncA_some h0
  obtain ⟨s9004, rfl, h5⟩ := scK_some h3
  obtain ⟨x0, rfl, h6⟩ := cI_some h5
  obtain ⟨a9007, r9008, rfl, h9⟩ := uncA_some h6
  obtain ⟨s9010, rfl, h11⟩ := scK_some h9
  obtain ⟨x1, rfl, h12⟩ := cI_some h11
  obtain ⟨a9013, r9014, rfl, h15⟩ := uncA_some h12
  obtain ⟨s9016, rfl, h17⟩ := scK_some h15
  obtain ⟨s5, rfl, h18⟩ := cS_some h17
  obtain ⟨a9019, r9020, rfl, h21⟩ := uncA_some h18
  obtain ⟨s9022, rfl, h23⟩ := scK_some h21
  obtain ⟨x6, rfl, h24⟩ := cI_some h23
  obtain ⟨rfl, h25⟩ := endL_some h24
  rw [F4_5_eq] at h25
  exact execK_runs hD.typed Syn_zero Syn_mixed hJ X4_5 (T4 5).1 (envOf (T4 5).2 _) S K (chk_of (by kernel_rfl) (by kernel_rfl)) h25
noncomputable abbrev A4_12 (D J : Disp) (vals : List AV) (S : St) (K : AV → St → Prop) : Prop :=
  uncA vals fun a9001 r9002 => scK a9001 fun s9004 => SV.cI IntKind.i64 s9004 fun x0 => uncA r9002 fun a9007 r9008 => scK a9007 fun s9010 => SV.cI IntKind.i64 s9010 fun x1 => uncA r9008 fun a9013 r9014 => scK a9013 fun s9016 => SV.cS s9016 fun s5 => uncA r9014 fun a9019 r9020 => scK a9019 fun s9022 => SV.cS s9022 fun s7 => uncA r9020 fun a9025 r9026 => scK a9025 fun s9028 => SV.cI IntKind.i64 s9028 fun x8 => endL r9026 <| F4_12 D J x0 x1 s5 s7 x8 S K
theorem A4_12_ok {D J : Disp} (hD : DOK SynP SynG D) (hJ : JOK SynP SynG Go.Proofs.Tryz.f4 T4 J) {vals : List AV} {S : St} {K : AV → St → Prop} (h0 : A4_12 D J vals S K) : Runs SynP SynG Go.Proofs.Tryz.f4 (T4 12).1 (envOf (T4 12).2 vals) S K := by
  obtain ⟨a9001, r9002, rfl, h3⟩ := uncA_some h0
  obtain ⟨s9004, rfl, h5⟩ := scK_some h3
  obtain ⟨x0, rfl, h6⟩ := cI_some h5
  obtain ⟨a9007, r9008, rfl, h9⟩ := uncA_some h6
  obtain ⟨s9010, rfl, h11⟩ := scK_some h9
  obtain ⟨x1, rfl, h12⟩ := cI_some h11
  obtain ⟨a9013, r9014, rfl, h15⟩ := uncA_some h12
  obtain ⟨s9016, rfl, h17⟩ := scK_some h15
  obtain ⟨s5, rfl, h18⟩ := cS_some h17
  obtain ⟨a9019, r9020, rfl, h21⟩ := uncA_some h18
  obtain ⟨s9022, rfl, h23⟩ := scK_some h21
  obtain ⟨s7, rfl, h24⟩ := cS_some h23
  obtain ⟨a9025, r9026, rfl, h27⟩ := uncA_some h24
  obtain ⟨s9028, rfl, h29⟩ := scK_some h27
  obtain ⟨x8, rfl, h30⟩ := cI_some h29
  obtain ⟨rfl, h31⟩ := endL_some h30
  rw [F4_12_eq] at h31
  exact execK_runs hD.typed Syn_zero Syn_mixed hJ X4_12 (T4 12).1 (envOf (T4 12).2 _) S K (chk_of (by kernel_rfl) (by kernel_rfl)) h31
noncomputable abbrev A4_19 (D J : Disp) (vals : List AV) (S : St) (K : AV → St → Prop) : Prop :=
  uncA vals fun a9001 r9002 => scK a9001 fun s9004 => SV.cI IntKind.i64 s9004 fun x0 => uncA r9002 fun a9007 r9008 => scK a9007 fun s9010 => SV.cI IntKind.i64 s9010 fun x1 => uncA r9008 fun a9013 r9014 => scK a9013 fun s9016 => SV.cS s9016 fun s5 => uncA r9014 fun a9019 r9020 => scK a9019 fun s9022 => SV.cS s9022 fun s7 => uncA r9020 fun a9025 r9026 => scK a9025 fun s9028 => SV.cI IntKind.i64 s9028 fun x8 => uncA r9026 fun a9031 r9032 => scK a9031 fun s9034 => SV.cS s9034 fun s9 => endL r9032 <| F4_19 D J x0 x1 s5 s7 x8 s9 S K
theorem A4_19_ok {D J : Disp} (hD : DOK SynP SynG D) (hJ : JOK SynP SynG Go.Proofs.Tryz.f4 T4 J) {vals : List AV} {S : St} {K : AV → St → Prop} (h0 : A4_19 D J vals S K) : Runs SynP SynG Go.Proofs.Tryz.f4 (T4 19).1 (envOf (T4 19).2 vals) S K := by
  obtain ⟨a9001, r9002, rfl, h3⟩ := uncA_some h0
  obtain ⟨s9004, rfl, h5⟩ := scK_some h3
  obtain ⟨x0, rfl, h6⟩ := cI_some h5
  obtain ⟨a9007, r9008, rfl, h9⟩ := uncA_some h6
  obtain ⟨s9010, rfl, h11⟩ := scK_some h9
  obtain ⟨x1, rfl, h12⟩ := cI_some h11
  obtain ⟨a9013, r9014, rfl, h15⟩ := uncA_some h12
  obtain ⟨s9016, rfl, h17⟩ := scK_some h15
  obtain ⟨s5, rfl, h18⟩ := cS_some h17
  obtain ⟨a9019, r9020, rfl, h21⟩ := uncA_some h18
  obtain ⟨s9022, rfl, h23⟩ := scK_some h21
  obtain ⟨s7, rfl, h24⟩ := cS_some h23
  obtain ⟨a9025, r9026, rfl, h27⟩ := uncA_some h24
  obtain ⟨s9028, rfl, h29⟩ := scK_some h27
  obtain ⟨x8, rfl, h30⟩ := cI_some h29
  obtain ⟨a9031, r9032, rfl, h33⟩ := uncA_some h30
  obtain ⟨s9034, rfl, h35⟩ := scK_some h33
  obtain ⟨s9, rfl, h36⟩ := cS_some h35
  obtain ⟨rfl, h37⟩ := endL_some h36
  rw [F4_19_eq] at h37
  exact execK_runs hD.typed Syn_zero Syn_mixed hJ X4_19 (T4 19).1 (envOf (T4 19).2 _) S K (chk_of (by kernel_rfl) (by kernel_rfl)) h37
noncomputable def J4 (D : Disp) (k : Nat) : Disp := Nat.rec (motive := fun _ => Disp) Disp.no (fun _ ih => Disp.add 0 (A4_0 D ih) <| Disp.add 5 (A4_5 D ih) <| Disp.add 12 (A4_12 D ih) <| Disp.add 19 (A4_19 D ih) <| Disp.no) k
theorem J4_ok {D : Disp} (hD : DOK SynP SynG D) : ∀ k, JOK SynP SynG Go.Proofs.Tryz.f4 T4 (J4 D k)
  | 0 => JOK.no
  | k + 1 => JOK.add (ltB_ok (by kernel_rfl)) (fun vals S K h => A4_0_ok hD (J4_ok hD k) h) <| JOK.add (ltB_ok (by kernel_rfl)) (fun vals S K h => A4_5_ok hD (J4_ok hD k) h) <| JOK.add (ltB_ok (by kernel_rfl)) (fun vals S K h => A4_12_ok hD (J4_ok hD k) h) <| JOK.add (ltB_ok (by kernel_rfl)) (fun vals S K h => A4_19_ok hD (J4_ok hD k) h) <| JOK.no
theorem E4_ok {D : Disp} (hD : DOK SynP SynG D) (k : Nat) {args : List AV} {S : St} {K : AV → St → Prop} (h : A4_0 D (J4 D k) args S K) : CallE SynP SynG 4 args S K := by
  have hr := A4_0_ok hD (J4_ok hD k) h
  have hl : args.length = 2 := by
    have h0 := h
    obtain ⟨a9001, r9002, rfl, h3⟩ := uncA_some h0
    obtain ⟨s9004, rfl, h5⟩ := scK_some h3
    obtain ⟨x0, rfl, h6⟩ := cI_some h5
    obtain ⟨a9007, r9008, rfl, h9⟩ := uncA_some h6
    obtain ⟨s9010, rfl, h11⟩ := scK_some h9
    obtain ⟨x1, rfl, h12⟩ := cI_some h11
    obtain ⟨rfl, h13⟩ := endL_some h12
    rfl
  refine callOK_of (fn := Go.Proofs.Tryz.f4) (c := (match Go.Proofs.Tryz.f4.body with | some c => c | none => .skip)) (by kernel_rfl) (by kernel_rfl) (by kernel_rfl) (by rw [hl]; kernel_rfl) (by kernel_rfl) ?_
  rw [hl]
  exact hr
noncomputable def plans5 (i : Nat) : Plan := []
noncomputable def T5 (p : Nat) : List Item × List Nat := bif Nat.beq p 0 then ([.code (match Go.Proofs.Tryz.f5.body with | some c => c | none => .skip)], [0, 1]) else
  bif Nat.beq p 4 then (navs [.op, .op, .op, .op] [.code (match Go.Proofs.Tryz.f5.body with | some c => c | none => .skip)], [0, 1, 5, 6, 7]) else
  bif Nat.beq p 10 then (navs [.op, .op, .op, .op, .op, .th, .op, .op, .th, .op] [.code (match Go.Proofs.Tryz.f5.body with | some c => c | none => .skip)], [0, 1, 5, 6, 7]) else
  ([], [])
noncomputable def F5_0 (D J : Disp) (x0 : Int) (x1 : Int) (S : St) (K : AV → St → Prop) : Prop :=
 D 11 [(AV.one (V1.s (SV.int IntKind.i64 x0))), (AV.one (V1.s (SV.int IntKind.i64 (60 : Int))))] S fun v300 S301 =>
 scK v300 fun v303 =>
 SV.cI IntKind.i64 v303 fun x306 =>
 J 4 [(AV.one (V1.s (SV.int IntKind.i64 x306))), (AV.one (V1.s (SV.int IntKind.i64 x1))), (AV.one (V1.s (SV.str []))), (AV.one (V1.s (SV.str []))), (AV.one (V1.s (SV.int IntKind.i64 (0 : Int))))] S301 K
noncomputable def X5_0 : X := (.op (.op (.op (.op (.jmp 4 [0, 1, 5, 6, 7])))))
theorem F5_0_eq (D J : Disp) (x0 : Int) (x1 : Int) (S : St) (K : AV → St → Prop) : F5_0 D J x0 x1 S K = execK SynP SynG Go.Proofs.Tryz.f5 (typed SynP D) J plans5 X5_0 (T5 0).1 (envOf (T5 0).2 [(AV.one (V1.s (SV.int IntKind.i64 x0))), (AV.one (V1.s (SV.int IntKind.i64 x1)))]) S K := by kernel_rfl
noncomputable def F5_q6 (D J : Disp) (x0 : Int) (x1 : Int) (s5 : (List Nat)) (s6 : (List Nat)) (x7 : Int) (S302 : St) (c310 : Bool) (K : AV → St → Prop) : Prop :=
 ifK c310
 (req (Nat.blt ((List.length s5) + 2) 9223372036854775808) <|
 let s311 : (List Nat) := (s5 ++ [102, 40]);
 req (Nat.blt ((List.length s6) + 1) 9223372036854775808) <|
 let s312 : (List Nat) := (s6 ++ [41]);
 J 10 [(AV.one (V1.s (SV.int IntKind.i64 x0))), (AV.one (V1.s (SV.int IntKind.i64 x1))), (AV.one (V1.s (SV.str s311))), (AV.one (V1.s (SV.str s312))), (AV.one (V1.s (SV.int IntKind.i64 x7)))] S302 K)
 (req (Nat.blt ((List.length s5) + 2) 9223372036854775808) <|
 let s313 : (List Nat) := (s5 ++ [97, 91]);
 req (Nat.blt ((List.length s6) + 1) 9223372036854775808) <|
 let s314 : (List Nat) := (s6 ++ [93]);
 J 10 [(AV.one (V1.s (SV.int IntKind.i64 x0))), (AV.one (V1.s (SV.int IntKind.i64 x1))), (AV.one (V1.s (SV.str s313))), (AV.one (V1.s (SV.str s314))), (AV.one (V1.s (SV.int IntKind.i64 x7)))] S302 K)
noncomputable def F5_q7 (D J : Disp) (x0 : Int) (x1 : Int) (s5 : (List Nat)) (s6 : (List Nat)) (x7 : Int) (S302 : St) (x307 : Int) (K : AV → St → Prop) : Prop :=
 let c308 : Bool := (ieq x307 (0 : Int));
 ifK c308
 (req (Nat.blt ((List.length s5) + 1) 9223372036854775808) <|
 let s309 : (List Nat) := (s5 ++ [45]);
 J 10 [(AV.one (V1.s (SV.int IntKind.i64 x0))), (AV.one (V1.s (SV.int IntKind.i64 x1))), (AV.one (V1.s (SV.str s309))), (AV.one (V1.s (SV.str []))), (AV.one (V1.s (SV.int IntKind.i64 x7)))] S302 K)
 (let c310 : Bool := (ieq x307 (1 : Int));
 F5_q6 D J x0 x1 s5 s6 x7 S302 c310 K)
noncomputable def F5_q8 (D J : Disp) (S327 : St) (y337 : (List Nat)) (S356 : St) (K : AV → St → Prop) : Prop :=
 St.at S356 (Bk.new (St.next S327)) 0 fun y359 =>
 uncK y359 fun v360 y361 =>
 SV.cI IntKind.i64 v360 fun x365 =>
 let c366 : Bool := (ieq x365 (0 : Int));
 ifK c366
 (let x367 : Int := (Int.ofNat (List.length y337));
 let c368 : Bool := (ilt (0 : Int) x367);
 ifK c368
 (D 12 [] S356 fun v369 S370 =>
 scK v369 fun v372 =>
 SV.cB v372 fun y373 =>
 K ((AV.one (V1.s (SV.bool y373)))) S370)
 (K ((AV.one (V1.s (SV.bool Bool.false)))) S356))
 (K ((AV.one (V1.s (SV.bool Bool.false)))) S356)
noncomputable def F5_q9 (D J : Disp) (S327 : St) (y337 : (List Nat)) (S356 : St) (K : AV → St → Prop) : Prop :=
 St.at S356 (Bk.new (St.next S327)) 0 fun y388 =>
 uncK y388 fun v389 y390 =>
 SV.cI IntKind.i64 v389 fun x394 =>
 uncK y390 fun v395 y396 =>
 SV.cI IntKind.i64 v395 fun x400 =>
 let c401 : Bool := (Bool.and (ieq x394 (5 : Int)) (Bool.and (ieq x400 (0 : Int)) Bool.true));
 ifK c401
 (let c402 : Bool := (leq y337 []);
 ifK c402
 (D 12 [] S356 fun v403 S404 =>
 scK v403 fun v406 =>
 SV.cB v406 fun y407 =>
 K ((AV.one (V1.s (SV.bool y407)))) S404)
 (K ((AV.one (V1.s (SV.bool Bool.false)))) S356))
 (K ((AV.one (V1.s (SV.bool Bool.false)))) S356)
noncomputable def F5_q10 (D J : Disp) (S : St) (x0 : Int) (s325 : (List Nat)) (K : AV → St → Prop) : Prop :=
 D 9 [(AV.one (V1.s (SV.str s325)))] S fun v326 S327 =>
 avT v326 fun y329 =>
 uncV y329 fun v330 y331 =>
 v1S v330 fun v333 =>
 SV.cS v333 fun y337 =>
 uncV y331 fun v338 y339 =>
 v1A v338 fun y342 =>
 req (Nat.beq (List.length y342) 2) <|
 uncK y342 fun v343 y344 =>
 SV.cI IntKind.i64 v343 fun x348 =>
 uncK y344 fun v349 y350 =>
 SV.cI IntKind.i64 v349 fun x354 =>
 endL y339 (let S355 : St := (St.add S327 (AO.cells [(SV.int IntKind.i64 (0 : Int)), (SV.int IntKind.i64 (0 : Int))] (Op2.ty 25)));
 St.wr S355 (Bk.new (St.next S327)) 0 [(SV.int IntKind.i64 x348), (SV.int IntKind.i64 x354)] fun S356 =>
 let x357 : Int := (iwrap IntKind.i64 ((2 : Int) + x0));
 let c358 : Bool := (ile x357 (40 : Int));
 ifK c358
 (F5_q8 D J S327 y337 S356 K)
 (F5_q9 D J S327 y337 S356 K))
noncomputable def F5_q11 (D J : Disp) (S : St) (x0 : Int) (s5 : (List Nat)) (s6 : (List Nat)) (K : AV → St → Prop) : Prop :=
 req (Nat.blt (8 + (List.length s5)) 9223372036854775808) <|
 let s322 : (List Nat) := ([105, 110, 116, 32, 120, 32, 61, 32] ++ s5);
 req (Nat.blt ((List.length s322) + 1) 9223372036854775808) <|
 let s323 : (List Nat) := (s322 ++ [49]);
 req (Nat.blt ((List.length s323) + (List.length s6)) 9223372036854775808) <|
 let s324 : (List Nat) := (s323 ++ s6);
 req (Nat.blt ((List.length s324) + 1) 9223372036854775808) <|
 let s325 : (List Nat) := (s324 ++ [59]);
 F5_q10 D J S x0 s325 K
noncomputable def F5_4 (D J : Disp) (x0 : Int) (x1 : Int) (s5 : (List Nat)) (s6 : (List Nat)) (x7 : Int) (S : St) (K : AV → St → Prop) : Prop :=
 let c300 : Bool := (ilt x7 x0);
 ifK c300
 (D 11 [(AV.one (V1.s (SV.int IntKind.i64 x1))), (AV.one (V1.s (SV.int IntKind.i64 (3 : Int))))] S fun v301 S302 =>
 scK v301 fun v304 =>
 SV.cI IntKind.i64 v304 fun x307 =>
 F5_q7 D J x0 x1 s5 s6 x7 S302 x307 K)
 (F5_q11 D J S x0 s5 s6 K)
noncomputable def X5_4 : X := (.op (.br (.op (.op (.br (.op (.jmp 10 [0, 1, 5, 6, 7])) (.op (.br (.op (.jmp 10 [0, 1, 5, 6, 7])) (.op (.jmp 10 [0, 1, 5, 6, 7]))))))) (.op (.op (.op (.br (.op .ret) (.op .ret)))))))
theorem F5_4_eq (D J : Disp) (x0 : Int) (x1 : Int) (s5 : (List Nat)) (s6 : (List Nat)) (x7 : Int) (S : St) (K : AV → St → Prop) : F5_4 D J x0 x1 s5 s6 x7 S K = execK SynP SynG Go.Proofs.Tryz.f5 (typed SynP D) J plans5 X5_4 (T5 4).1 (envOf (T5 4).2 [(AV.one (V1.s (SV.int IntKind.i64 x0))), (AV.one (V1.s (SV.int IntKind.i64 x1))), (AV.one (V1.s (SV.str s5))), (AV.one (V1.s (SV.str s6))), (AV.one (V1.s (SV.int IntKind.i64 x7)))]) S K := by kernel_rfl
noncomputable def F5_10 (D J : Disp) (x0 : Int) (x1 : Int) (s5 : (List Nat)) (s6 : (List Nat)) (x7 : Int) (S : St) (K : AV → St → Prop) : Prop :=
 let x300 : Int := (iwrap IntKind.i64 (x7 + (1 : Int)));
 J 4 [(AV.one (V1.s (SV.int IntKind.i64 x0))), (AV.one (V1.s (SV.int IntKind.i64 x1))), (AV.one (V1.s (SV.str s5))), (AV.one (V1.s (SV.str s6))), (AV.one (V1.s (SV.int IntKind.i64 x300)))] S K
noncomputable def X5_10 : X := (.op (.jmp 4 [0, 1, 5, 6, 7]))
theorem F5_10_eq (D J : Disp) (x0 : Int) (x1 : Int) (s5 : (List Nat)) (s6 : (List Nat)) (x7 : Int) (S : St) (K : AV → St → Prop) : F5_10 D J x0 x1 s5 s6 x7 S K = execK SynP SynG Go.Proofs.Tryz.f5 (typed SynP D) J plans5 X5_10 (T5 10).1 (envOf (T5 10).2 [(AV.one (V1.s (SV.int IntKind.i64 x0))), (AV.one (V1.s (SV.int IntKind.i64 x1))), (AV.one (V1.s (SV.str s5))), (AV.one (V1.s (SV.str s6))), (AV.one (V1.s (SV.int IntKind.i64 x7)))]) S K := by kernel_rfl
noncomputable abbrev A5_0 (D J : Disp) (vals : List AV) (S : St) (K : AV → St → Prop) : Prop :=
  uncA vals fun a9001 r9002 => scK a9001 fun s9004 => SV.cI IntKind.i64 s9004 fun x0 => uncA r9002 fun a9007 r9008 => scK a9007 fun s9010 => SV.cI IntKind.i64 s9010 fun x1 => endL r9008 <| F5_0 D J x0 x1 S K
theorem A5_0_ok {D J : Disp} (hD : DOK SynP SynG D) (hJ : JOK SynP SynG Go.Proofs.Tryz.f5 T5 J) {vals : List AV} {S : St} {K : AV → St → Prop} (h0 : A5_0 D J vals S K) : Runs SynP SynG Go.Proofs.Tryz.f5 (T5 0).1 (envOf (T5 0).2 vals) S K := by
  obtain ⟨a9001, r9002, rfl, h3⟩ := uncA_some h0
  obtain ⟨s9004, rfl, h5⟩ := scK_some h3
  obtain ⟨x0, rfl, h6⟩ := cI_some h5
  obtain ⟨a9007, r9008, rfl, h9⟩ := uncA_some h6
  obtain ⟨s9010, rfl, h11⟩ := scK_some h9
  obtain ⟨x1, rfl, h12⟩ := cI_some h11
  obtain ⟨rfl, h13⟩ := endL_some h12
  rw [F5_0_eq] at h13
  exact execK_runs hD.typed Syn_zero Syn_mixed hJ X5_0 (T5 0).1 (envOf (T5 0).2 _) S K (chk_of (by kernel_rfl) (by kernel_rfl)) h13
noncomputable abbrev A5_4 (D J : Disp) (vals : List AV) (S : St) (K : AV → St → Prop) : Prop :=
  uncA vals fun a9001 r9002 => scK a9001 fun s9004 => SV.cI IntKind.i64 s9004 fun x0 => uncA r9002 fun a9007 r9008 => scK a9007 fun s9010 => SV.cI IntKind.i64 s9010 fun x1 => uncA r9008 fun a9013 r9014 => scK a9013 fun s9016 => SV.cS s9016 fun s5 => uncA r9014 fun a9019 r9020 => scK a9019 fun s9022 => SV.cS s9022 fun s6 => uncA r9020 fun a9025 r9026 => scK a9025 fun s9028 => SV.cI IntKind.i64 s9028 fun x7 => endL r9026 <| F5_4 D J x0 x1 s5 s6 x7 S K
theorem A5_4_ok {D J : Disp} (hD : DOK SynP SynG D) (hJ : JOK SynP SynG Go.Proofs.Tryz.f5 T5 J) {vals : List AV} {S : St} {K : AV → St → Prop} (h0 : A5_4 D J vals S K) : Runs SynP SynG Go.Proofs.Tryz.f5 (T5 4).1 (envOf (T5 4).2 vals) S K := by
  obtain ⟨a9001, r9002, rfl, h3⟩ := uncA_some h0
  obtain ⟨s9004, rfl, h5⟩ := scK_some h3
  obtain ⟨x0, rfl, h6⟩ := cI_some h5
  obtain ⟨a9007, r9008, rfl, h9⟩ := uncA_some h6
  obtain ⟨s9010, rfl, h11⟩ := scK_some h9
  obtain ⟨x1, rfl, h12⟩ := cI_some h11
  obtain ⟨a9013, r9014, rfl, h15⟩ := uncA_some h12
  obtain ⟨s9016, rfl, h17⟩ := scK_some h15
  obtain ⟨s5, rfl, h18⟩ := cS_some h17
  obtain ⟨a9019, r9020, rfl, h21⟩ := uncA_some h18
  obtain ⟨s9022, rfl, h23⟩ := scK_some h21
  obtain ⟨s6, rfl, h24⟩ := cS_some h23
  obtain ⟨a9025, r9026, rfl, h27⟩ := uncA_some h24
  obtain ⟨s9028, rfl, h29⟩ := scK_some h27
  obtain ⟨x7, rfl, h30⟩ := cI_some h29
  obtain ⟨rfl, h31⟩ := endL_some h30
  rw [F5_4_eq] at h31
  exact execK_runs hD.typed Syn_zero Syn_mixed hJ X5_4 (T5 4).1 (envOf (T5 4).2 _) S K (chk_of (by kernel_rfl) (by kernel_rfl)) h31
noncomputable abbrev A5_10 (D J : Disp) (vals : List AV) (S : St) (K : AV → St → Prop) : Prop :=
  uncA vals fun a9001 r9002 => scK a9001 fun s9004 => SV.cI IntKind.i64 s9004 fun x0 => uncA r9002 fun a9007 r9008 => scK a9007 fun s9010 => SV.cI IntKind.i64 s9010 fun x1 => uncA r9008 fun a9013 r9014 => scK a9013 fun s9016 => SV.cS s9016 fun s5 => uncA r9014 fun a9019 r9020 => scK a9019 fun s9022 => SV.cS s9022 fun s6 => uncA r9020 fun a9025 r9026 => scK a9025 fun s9028 => SV.cI IntKind.i64 s9028 fun x7 => endL r9026 <| F5_10 D J x0 x1 s5 s6 x7 S K
theorem A5_10_ok {D J : Disp} (hD : DOK SynP SynG D) (hJ : JOK SynP SynG Go.Proofs.Tryz.f5 T5 J) {vals : List AV} {S : St} {K : AV → St → Prop} (h0 : A5_10 D J vals S K) : Runs SynP SynG Go.Proofs.Tryz.f5 (T5 10).1 (envOf (T5 10).2 vals) S K := by
  obtain ⟨a9001, r9002, rfl, h3⟩ := uncA_some h0
  obtain ⟨s9004, rfl, h5⟩ := scK_some h3
  obtain ⟨x0, rfl, h6⟩ := cI_some h5
  obtain ⟨a9007, r9008, rfl, h9⟩ := uncA_some h6
  obtain ⟨s9010, rfl, h11⟩ := scK_some h9
  obtain ⟨x1, rfl, h12⟩ := cI_some h11
  obtain ⟨a9013, r9014, rfl, h15⟩ := uncA_some h12
  obtain ⟨s9016, rfl, h17⟩ := scK_some h15
  obtain ⟨s5, rfl, h18⟩ := cS_some h17
  obtain ⟨a9019, r9020, rfl, h21⟩ := uncA_some h18
  obtain ⟨s9022, rfl, h23⟩ := scK_some h21
  obtain ⟨s6, rfl, h24⟩ := cS_some h23
  obtain ⟨a9025, r9026, rfl, h27⟩ := uncA_some h24
  obtain ⟨s9028, rfl, h29⟩ := scK_some h27
  obtain ⟨x7, rfl, h30⟩ := cI_some h29
  obtain ⟨rfl, h31⟩ := endL_some h30
  rw [F5_10_eq] at h31
  exact execK_runs hD.typed Syn_zero Syn_mixed hJ X5_10 (T5 10).1 (envOf (T5 10).2 _) S K (chk_of (by kernel_rfl) (by kernel_rfl)) h31
noncomputable def J5 (D : Disp) (k : Nat) : Disp := Nat.rec (motive := fun _ => Disp) Disp.no (fun _ ih => Disp.add 0 (A5_0 D ih) <| Disp.add 4 (A5_4 D ih) <| Disp.add 10 (A5_10 D ih) <| Disp.no) k
theorem J5_ok {D : Disp} (hD : DOK SynP SynG D) : ∀ k, JOK SynP SynG Go.Proofs.Tryz.f5 T5 (J5 D k)
  | 0 => JOK.no
  | k + 1 => JOK.add (ltB_ok (by kernel_rfl)) (fun vals S K h => A5_0_ok hD (J5_ok hD k) h) <| JOK.add (ltB_ok (by kernel_rfl)) (fun vals S K h => A5_4_ok hD (J5_ok hD k) h) <| JOK.add (ltB_ok (by kernel_rfl)) (fun vals S K h => A5_10_ok hD (J5_ok hD k) h) <| JOK.no
theorem E5_ok {D : Disp} (hD : DOK SynP SynG D) (k : Nat) {args : List AV} {S : St} {K : AV → St → Prop} (h : A5_0 D (J5 D k) args S K) : CallE SynP SynG 5 args S K := by
  have hr := A5_0_ok hD (J5_ok hD k) h
  have hl : args.length = 2 := by
    have h0 := h
    obtain ⟨a9001, r9002, rfl, h3⟩ := uncA_some h0
    obtain ⟨s9004, rfl, h5⟩ := scK_some h3
    obtain ⟨x0, rfl, h6⟩ := cI_some h5
    obtain ⟨a9007, r9008, rfl, h9⟩ := uncA_some h6
    obtain ⟨s9010, rfl, h11⟩ := scK_some h9
    obtain ⟨x1, rfl, h12⟩ := cI_some h11
    obtain ⟨rfl, h13⟩ := endL_some h12
    rfl
  refine callOK_of (fn := Go.Proofs.Tryz.f5) (c := (match Go.Proofs.Tryz.f5.body with | some c => c | none => .skip)) (by kernel_rfl) (by kernel_rfl) (by kernel_rfl) (by rw [hl]; kernel_rfl) (by kernel_rfl) ?_
  rw [hl]
  exact hr
noncomputable def plans6 (i : Nat) : Plan := if Nat.beq i 4 then [(0, []), (1, []), (2, [0, 1]), (3, [2, 0, 1]), (4, []), (5, []), (6, [4, 5]), (7, [6, 4, 5]), (8, [3, 0, 1, 2]), (9, [7, 8, 0, 1, 2, 3, 4, 5, 6])] else []
noncomputable def T6 (p : Nat) : List Item × List Nat := bif Nat.beq p 0 then ([.code (match Go.Proofs.Tryz.f6.body with | some c => c | none => .skip)], [0, 1, 2]) else
  bif Nat.beq p 6 then (navs [.op, .op, .op, .op, .op, .op] [.code (match Go.Proofs.Tryz.f6.body with | some c => c | none => .skip)], [1, 2, 10, 11, 12]) else
  ([], [])
noncomputable def F6_q17 (D J : Disp) (S : St) (x1 : Int) (x2 : Int) (S301 : St) (S305 : St) (x310 : Int) (n311 : Nat) (K : AV → St → Prop) : Prop :=
 St.at S305 (Bk.new (St.next S)) n311 fun y312 =>
 uncK y312 fun v313 y314 =>
 SV.cS v313 fun y319 =>
 req (Bool.and (ile (0 : Int) x310) (ilt x310 (11 : Int))) <|
 let n320 : Nat := (0 + ((Int.toNat x310) * 1));
 St.at S305 (Bk.new (St.next S301)) n320 fun y321 =>
 uncK y321 fun v322 y323 =>
 SV.cS v322 fun y328 =>
 J 6 [(AV.one (V1.s (SV.int IntKind.i64 x1))), (AV.one (V1.s (SV.int IntKind.i64 x2))), (AV.one (V1.s (SV.str y319))), (AV.one (V1.s (SV.str y328))), (AV.one (V1.s (SV.int IntKind.i64 (0 : Int))))] S305 K
noncomputable def F6_q18 (D J : Disp) (S : St) (x0 : Int) (x1 : Int) (x2 : Int) (S301 : St) (K : AV → St → Prop) : Prop :=
 let d302 : (Sum Nat Nat) := (Sum.inl 11);
 let S303 : St := (St.add S301 (AO.cells [(SV.str [118, 111, 105, 100]), (SV.str [105, 56]), (SV.str [105, 49, 54]), (SV.str [105, 51, 50]), (SV.str [105, 54, 52]), (SV.str [117, 51, 50]), (SV.str [117, 56]), (SV.str [117, 49, 54]), (SV.str [117, 51, 50]), (SV.str [117, 54, 52]), (SV.str [83, 46, 115])] Op2.sh));
 D 11 [(AV.one (V1.s (SV.int IntKind.i64 x0))), (AV.one (V1.s (SV.int IntKind.i64 (11 : Int))))] S303 fun v304 S305 =>
 scK v304 fun v307 =>
 SV.cI IntKind.i64 v307 fun x310 =>
 req (Bool.and (ile (0 : Int) x310) (ilt x310 (11 : Int))) <|
 let n311 : Nat := (0 + ((Int.toNat x310) * 1));
 F6_q17 D J S x1 x2 S301 S305 x310 n311 K
noncomputable def F6_q19 (D J : Disp) (S : St) (x0 : Int) (x1 : Int) (x2 : Int) (K : AV → St → Prop) : Prop :=
 let d300 : (Sum Nat Nat) := (Sum.inl 11);
 let S301 : St := (St.add S (AO.cells [(SV.str [118, 111, 105, 100]), (SV.str [99, 104, 97, 114]), (SV.str [115, 104, 111, 114, 116]), (SV.str [105, 110, 116]), (SV.str [108, 111, 110, 103]), (SV.str [117, 110, 115, 105, 103, 110, 101, 100]), (SV.str [117, 110, 115, 105, 103, 110, 101, 100, 32, 99, 104, 97, 114]), (SV.str [117, 110, 115, 105, 103, 110, 101, 100, 32, 115, 104, 111, 114, 116]), (SV.str [117, 110, 115, 105, 103, 110, 101, 100, 32, 105, 110, 116]), (SV.str [117, 110, 115, 105, 103, 110, 101, 100, 32, 108, 111, 110, 103]), (SV.str [115, 116, 114, 117, 99, 116, 32, 115])] Op2.sh));
 F6_q18 D J S x0 x1 x2 S301 K
noncomputable def F6_0 (D J : Disp) (x0 : Int) (x1 : Int) (x2 : Int) (S : St) (K : AV → St → Prop) : Prop :=
 F6_q19 D J S x0 x1 x2 K
noncomputable def X6_0 : X := (.op (.op (.op (.op (.op (.op (.jmp 6 [1, 2, 10, 11, 12])))))))
theorem F6_0_eq (D J : Disp) (x0 : Int) (x1 : Int) (x2 : Int) (S : St) (K : AV → St → Prop) : F6_0 D J x0 x1 x2 S K = execK SynP SynG Go.Proofs.Tryz.f6 (typed SynP D) J plans6 X6_0 (T6 0).1 (envOf (T6 0).2 [(AV.one (V1.s (SV.int IntKind.i64 x0))), (AV.one (V1.s (SV.int IntKind.i64 x1))), (AV.one (V1.s (SV.int IntKind.i64 x2)))]) S K := by kernel_rfl
noncomputable def F6_q20 (D J : Disp) (x1 : Int) (x2 : Int) (s10 : (List Nat)) (s11 : (List Nat)) (x12 : Int) (S301 : St) (K : AV → St → Prop) : Prop :=
 req (Nat.blt ((List.length s10) + 1) 9223372036854775808) <|
 let s308 : (List Nat) := (s10 ++ [42]);
 req (Nat.blt ((List.length s11) + 1) 9223372036854775808) <|
 let s309 : (List Nat) := (s11 ++ [42]);
 let x310 : Int := (iwrap IntKind.i64 (x12 + (1 : Int)));
 J 6 [(AV.one (V1.s (SV.int IntKind.i64 x1))), (AV.one (V1.s (SV.int IntKind.i64 x2))), (AV.one (V1.s (SV.str s308))), (AV.one (V1.s (SV.str s309))), (AV.one (V1.s (SV.int IntKind.i64 x310)))] S301 K
noncomputable def F6_q21 (D J : Disp) (S344 : St) (y354 : (List Nat)) (S373 : St) (s393 : (List Nat)) (K : AV → St → Prop) : Prop :=
 St.at S373 (Bk.new (St.next S344)) 0 fun y394 =>
 uncK y394 fun v395 y396 =>
 SV.cI IntKind.i64 v395 fun x400 =>
 let c401 : Bool := (ieq x400 (0 : Int));
 ifK c401
 (let c402 : Bool := (leq y354 s393);
 ifK c402
 (D 12 [] S373 fun v403 S404 =>
 scK v403 fun v406 =>
 SV.cB v406 fun y407 =>
 K ((AV.one (V1.s (SV.bool y407)))) S404)
 (K ((AV.one (V1.s (SV.bool Bool.false)))) S373))
 (K ((AV.one (V1.s (SV.bool Bool.false)))) S373)
noncomputable def F6_q22 (D J : Disp) (s11 : (List Nat)) (y322 : (List Nat)) (S344 : St) (y354 : (List Nat)) (S373 : St) (s389 : (List Nat)) (K : AV → St → Prop) : Prop :=
 req (Nat.blt ((List.length s389) + (List.length s11)) 9223372036854775808) <|
 let s390 : (List Nat) := (s389 ++ s11);
 req (Nat.blt ((List.length s390) + 1) 9223372036854775808) <|
 let s391 : (List Nat) := (s390 ++ [32]);
 req (Nat.blt ((List.length s391) + (List.length y322)) 9223372036854775808) <|
 let s392 : (List Nat) := (s391 ++ y322);
 req (Nat.blt ((List.length s392) + 5) 9223372036854775808) <|
 let s393 : (List Nat) := (s392 ++ [41, 41, 41, 41, 10]);
 F6_q21 D J S344 y354 S373 s393 K
noncomputable def F6_q23 (D J : Disp) (s11 : (List Nat)) (y322 : (List Nat)) (S344 : St) (y354 : (List Nat)) (S373 : St) (s386 : (List Nat)) (K : AV → St → Prop) : Prop :=
 req (Nat.blt ((List.length s386) + 16) 9223372036854775808) <|
 let s387 : (List Nat) := (s386 ++ [32, 45, 41, 32, 40, 101, 120, 112, 114, 32, 40, 99, 97, 115, 116, 32]);
 req (Nat.blt ((List.length s387) + (List.length s11)) 9223372036854775808) <|
 let s388 : (List Nat) := (s387 ++ s11);
 req (Nat.blt ((List.length s388) + 27) 9223372036854775808) <|
 let s389 : (List Nat) := (s388 ++ [32, 40, 110, 117, 109, 32, 105, 51, 50, 32, 48, 41, 41, 41, 32, 40, 101, 120, 112, 114, 32, 40, 115, 105, 122, 101, 32]);
 F6_q22 D J s11 y322 S344 y354 S373 s389 K
noncomputable def F6_q24 (D J : Disp) (s11 : (List Nat)) (y322 : (List Nat)) (S344 : St) (y354 : (List Nat)) (S373 : St) (s382 : (List Nat)) (K : AV → St → Prop) : Prop :=
 req (Nat.blt ((List.length s382) + 17) 9223372036854775808) <|
 let s383 : (List Nat) := (s382 ++ [32, 112, 41, 41, 32, 40, 98, 108, 111, 99, 107, 32, 40, 108, 101, 116, 32]);
 req (Nat.blt ((List.length s383) + (List.length s11)) 9223372036854775808) <|
 let s384 : (List Nat) := (s383 ++ s11);
 req (Nat.blt ((List.length s384) + 3) 9223372036854775808) <|
 let s385 : (List Nat) := (s384 ++ [32, 113, 32]);
 req (Nat.blt ((List.length s385) + (List.length y322)) 9223372036854775808) <|
 let s386 : (List Nat) := (s385 ++ y322);
 F6_q23 D J s11 y322 S344 y354 S373 s386 K
noncomputable def F6_q25 (D J : Disp) (s11 : (List Nat)) (y322 : (List Nat)) (S344 : St) (y354 : (List Nat)) (S373 : St) (s378 : (List Nat)) (K : AV → St → Prop) : Prop :=
 req (Nat.blt ((List.length s378) + 14) 9223372036854775808) <|
 let s379 : (List Nat) := (s378 ++ [32, 118, 32, 48, 32, 45, 41, 10, 40, 102, 117, 110, 99, 32]);
 req (Nat.blt ((List.length s379) + (List.length s11)) 9223372036854775808) <|
 let s380 : (List Nat) := (s379 ++ s11);
 req (Nat.blt ((List.length s380) + 5) 9223372036854775808) <|
 let s381 : (List Nat) := (s380 ++ [32, 102, 32, 40, 40]);
 req (Nat.blt ((List.length s381) + (List.length s11)) 9223372036854775808) <|
 let s382 : (List Nat) := (s381 ++ s11);
 F6_q24 D J s11 y322 S344 y354 S373 s382 K
noncomputable def F6_q26 (D J : Disp) (s11 : (List Nat)) (y322 : (List Nat)) (S344 : St) (y354 : (List Nat)) (S373 : St) (s374 : (List Nat)) (K : AV → St → Prop) : Prop :=
 req (Nat.blt ((List.length s374) + 3) 9223372036854775808) <|
 let s375 : (List Nat) := (s374 ++ [32, 97, 32]);
 req (Nat.blt ((List.length s375) + (List.length y322)) 9223372036854775808) <|
 let s376 : (List Nat) := (s375 ++ y322);
 req (Nat.blt ((List.length s376) + 8) 9223372036854775808) <|
 let s377 : (List Nat) := (s376 ++ [41, 41, 10, 40, 118, 97, 114, 32]);
 req (Nat.blt ((List.length s377) + (List.length s11)) 9223372036854775808) <|
 let s378 : (List Nat) := (s377 ++ s11);
 F6_q25 D J s11 y322 S344 y354 S373 s378 K
noncomputable def F6_q27 (D J : Disp) (s11 : (List Nat)) (S321 : St) (y322 : (List Nat)) (s342 : (List Nat)) (K : AV → St → Prop) : Prop :=
 D 9 [(AV.one (V1.s (SV.str s342)))] S321 fun v343 S344 =>
 avT v343 fun y346 =>
 uncV y346 fun v347 y348 =>
 v1S v347 fun v350 =>
 SV.cS v350 fun y354 =>
 uncV y348 fun v355 y356 =>
 v1A v355 fun y359 =>
 req (Nat.beq (List.length y359) 2) <|
 uncK y359 fun v360 y361 =>
 SV.cI IntKind.i64 v360 fun x365 =>
 uncK y361 fun v366 y367 =>
 SV.cI IntKind.i64 v366 fun x371 =>
 endL y356 (let S372 : St := (St.add S344 (AO.cells [(SV.int IntKind.i64 (0 : Int)), (SV.int IntKind.i64 (0 : Int))] (Op2.ty 25)));
 St.wr S372 (Bk.new (St.next S344)) 0 [(SV.int IntKind.i64 x365), (SV.int IntKind.i64 x371)] fun S373 =>
 req (Nat.blt (11 + (List.length s11)) 9223372036854775808) <|
 let s374 : (List Nat) := ([40, 115, 116, 114, 117, 99, 116, 32, 115, 32, 40] ++ s11);
 F6_q26 D J s11 y322 S344 y354 S373 s374 K)
noncomputable def F6_q28 (D J : Disp) (s10 : (List Nat)) (s11 : (List Nat)) (S321 : St) (y322 : (List Nat)) (s338 : (List Nat)) (K : AV → St → Prop) : Prop :=
 req (Nat.blt ((List.length s338) + (List.length s10)) 9223372036854775808) <|
 let s339 : (List Nat) := (s338 ++ s10);
 req (Nat.blt ((List.length s339) + 1) 9223372036854775808) <|
 let s340 : (List Nat) := (s339 ++ [91]);
 req (Nat.blt ((List.length s340) + (List.length y322)) 9223372036854775808) <|
 let s341 : (List Nat) := (s340 ++ y322);
 req (Nat.blt ((List.length s341) + 5) 9223372036854775808) <|
 let s342 : (List Nat) := (s341 ++ [93, 41, 59, 32, 125]);
 F6_q27 D J s11 S321 y322 s342 K
noncomputable def F6_q29 (D J : Disp) (s10 : (List Nat)) (s11 : (List Nat)) (S321 : St) (y322 : (List Nat)) (s334 : (List Nat)) (K : AV → St → Prop) : Prop :=
 req (Nat.blt ((List.length s334) + (List.length y322)) 9223372036854775808) <|
 let s335 : (List Nat) := (s334 ++ y322);
 req (Nat.blt ((List.length s335) + 4) 9223372036854775808) <|
 let s336 : (List Nat) := (s335 ++ [93, 59, 32, 40]);
 req (Nat.blt ((List.length s336) + (List.length s10)) 9223372036854775808) <|
 let s337 : (List Nat) := (s336 ++ s10);
 req (Nat.blt ((List.length s337) + 11) 9223372036854775808) <|
 let s338 : (List Nat) := (s337 ++ [41, 48, 59, 32, 115, 105, 122, 101, 111, 102, 40]);
 F6_q28 D J s10 s11 S321 y322 s338 K
noncomputable def F6_q30 (D J : Disp) (s10 : (List Nat)) (s11 : (List Nat)) (S321 : St) (y322 : (List Nat)) (s330 : (List Nat)) (K : AV → St → Prop) : Prop :=
 req (Nat.blt ((List.length s330) + (List.length s10)) 9223372036854775808) <|
 let s331 : (List Nat) := (s330 ++ s10);
 req (Nat.blt ((List.length s331) + 6) 9223372036854775808) <|
 let s332 : (List Nat) := (s331 ++ [32, 112, 41, 32, 123, 32]);
 req (Nat.blt ((List.length s332) + (List.length s10)) 9223372036854775808) <|
 let s333 : (List Nat) := (s332 ++ s10);
 req (Nat.blt ((List.length s333) + 3) 9223372036854775808) <|
 let s334 : (List Nat) := (s333 ++ [32, 113, 91]);
 F6_q29 D J s10 s11 S321 y322 s334 K
noncomputable def F6_q31 (D J : Disp) (s10 : (List Nat)) (s11 : (List Nat)) (S321 : St) (y322 : (List Nat)) (s326 : (List Nat)) (K : AV → St → Prop) : Prop :=
 req (Nat.blt ((List.length s326) + (List.length s10)) 9223372036854775808) <|
 let s327 : (List Nat) := (s326 ++ s10);
 req (Nat.blt ((List.length s327) + 4) 9223372036854775808) <|
 let s328 : (List Nat) := (s327 ++ [32, 118, 59, 32]);
 req (Nat.blt ((List.length s328) + (List.length s10)) 9223372036854775808) <|
 let s329 : (List Nat) := (s328 ++ s10);
 req (Nat.blt ((List.length s329) + 3) 9223372036854775808) <|
 let s330 : (List Nat) := (s329 ++ [32, 102, 40]);
 F6_q30 D J s10 s11 S321 y322 s330 K
noncomputable def F6_q32 (D J : Disp) (s10 : (List Nat)) (s11 : (List Nat)) (S321 : St) (y322 : (List Nat)) (K : AV → St → Prop) : Prop :=
 req (Nat.blt (11 + (List.length s10)) 9223372036854775808) <|
 let s323 : (List Nat) := ([115, 116, 114, 117, 99, 116, 32, 115, 32, 123, 32] ++ s10);
 req (Nat.blt ((List.length s323) + 3) 9223372036854775808) <|
 let s324 : (List Nat) := (s323 ++ [32, 97, 91]);
 req (Nat.blt ((List.length s324) + (List.length y322)) 9223372036854775808) <|
 let s325 : (List Nat) := (s324 ++ y322);
 req (Nat.blt ((List.length s325) + 6) 9223372036854775808) <|
 let s326 : (List Nat) := (s325 ++ [93, 59, 32, 125, 59, 32]);
 F6_q31 D J s10 s11 S321 y322 s326 K
noncomputable def F6_q33 (D J : Disp) (x2 : Int) (s10 : (List Nat)) (s11 : (List Nat)) (S301 : St) (K : AV → St → Prop) : Prop :=
 D 11 [(AV.one (V1.s (SV.int IntKind.i64 x2))), (AV.one (V1.s (SV.int IntKind.i64 (9 : Int))))] S301 fun v311 S312 =>
 scK v311 fun v314 =>
 SV.cI IntKind.i64 v314 fun x317 =>
 let x318 : Int := (iwrap IntKind.i64 ((49 : Int) + x317));
 let x319 : Int := (iwrap IntKind.u8 x318);
 let d320 : (Sum Nat Nat) := (Sum.inl 1);
 let S321 : St := (St.add S312 (AO.cells [(SV.int IntKind.u8 x319)] Op2.sh));
 St.text S321 (LV.mk (Bk.new (St.next S312)) 0 1 d320) fun y322 =>
 F6_q32 D J s10 s11 S321 y322 K
noncomputable def F6_6 (D J : Disp) (x1 : Int) (x2 : Int) (s10 : (List Nat)) (s11 : (List Nat)) (x12 : Int) (S : St) (K : AV → St → Prop) : Prop :=
 D 11 [(AV.one (V1.s (SV.int IntKind.i64 x1))), (AV.one (V1.s (SV.int IntKind.i64 (4 : Int))))] S fun v300 S301 =>
 scK v300 fun v303 =>
 SV.cI IntKind.i64 v303 fun x306 =>
 let c307 : Bool := (ilt x12 x306);
 ifK c307
 (F6_q20 D J x1 x2 s10 s11 x12 S301 K)
 (F6_q33 D J x2 s10 s11 S301 K)
noncomputable def X6_6 : X := (.op (.br (.op (.op (.jmp 6 [1, 2, 10, 11, 12]))) (.op (.op (.op (.op .ret))))))
theorem F6_6_eq (D J : Disp) (x1 : Int) (x2 : Int) (s10 : (List Nat)) (s11 : (List Nat)) (x12 : Int) (S : St) (K : AV → St → Prop) : F6_6 D J x1 x2 s10 s11 x12 S K = execK SynP SynG Go.Proofs.Tryz.f6 (typed SynP D) J plans6 X6_6 (T6 6).1 (envOf (T6 6).2 [(AV.one (V1.s (SV.int IntKind.i64 x1))), (AV.one (V1.s (SV.int IntKind.i64 x2))), (AV.one (V1.s (SV.str s10))), (AV.one (V1.s (SV.str s11))), (AV.one (V1.s (SV.int IntKind.i64 x12)))]) S K := by kernel_rfl
noncomputable abbrev A6_0 (D J : Disp) (vals : List AV) (S : St) (K : AV → St → Prop) : Prop :=
  uncA vals fun a9001 r9002 => scK a9001 fun s9004 => SV.cI IntKind.i64 s9004 fun x0 => uncA r9002 fun a9007 r9008 => scK a9007 fun s9010 => SV.cI IntKind.i64 s9010 fun x1 => uncA r9008 fun a9013 r9014 => scK a9013 fun s9016 => SV.cI IntKind.i64 s9016 fun x2 => endL r9014 <| F6_0 D J x0 x1 x2 S K
theorem A6_0_ok {D J : Disp} (hD : DOK SynP SynG D) (hJ : JOK SynP SynG Go.Proofs.Tryz.f6 T6 J) {vals : List AV} {S : St} {K : AV → St → Prop} (h0 : A6_0 D J vals S K) : Runs SynP SynG Go.Proofs.Tryz.f6 (T6 0).1 (envOf (T6 0).2 vals) S K := by
  obtain ⟨a9001, r9002, rfl, h3⟩ := uncA_some h0
  obtain ⟨s9004, rfl, h5⟩ := scK_some h3
  obtain ⟨x0, rfl, h6⟩ := cI_some h5
  obtain ⟨a9007, r9008, rfl, h9⟩ := uncA_some h6
  obtain ⟨s9010, rfl, h11⟩ := scK_some h9
  obtain ⟨x1, rfl, h12⟩ := cI_some h11
  obtain ⟨a9013, r9014, rfl, h15⟩ := uncA_some h12
  obtain ⟨s9016, rfl, h17⟩ := scK_some h15
  obtain ⟨x2, rfl, h18⟩ := cI_some h17
  obtain ⟨rfl, h19⟩ := endL_some h18
  rw [F6_0_eq] at h19
  exact execK_runs hD.typed Syn_zero Syn_mixed hJ X6_0 (T6 0).1 (envOf (T6 0).2 _) S K (chk_of (by kernel_rfl) (by kernel_rfl)) h19
noncomputable abbrev A6_6 (D J : Disp) (vals : List AV) (S : St) (K : AV → St → Prop) : Prop :=
  uncA vals fun a9001 r9002 => scK a9001 fun s9004 => SV.cI IntKind.i64 s9004 fun x1 => uncA r9002 fun a9007 r9008 => scK a9007 fun s9010 => SV.cI IntKind.i64 s9010 fun x2 => uncA r9008 fun a9013 r9014 => scK a9013 fun s9016 => SV.cS s9016 fun s10 => uncA r9014 fun a9019 r9020 => scK a9019 fun s9022 => SV.cS s9022 fun s11 => uncA r9020 fun a9025 r9026 => scK a9025 fun s9028 => SV.cI IntKind.i64 s9028 fun x12 => endL r9026 <| F6_6 D J x1 x2 s10 s11 x12 S K
theorem A6_6_ok {D J : Disp} (hD : DOK SynP SynG D) (hJ : JOK SynP SynG Go.Proofs.Tryz.f6 T6 J) {vals : List AV} {S : St} {K : AV → St → Prop} (h0 : A6_6 D J vals S K) : Runs SynP SynG Go.Proofs.Tryz.f6 (T6 6).1 (envOf (T6 6).2 vals) S K := by
  obtain ⟨a9001, r9002, rfl, h3⟩ := uncA_some h0
  obtain ⟨s9004, rfl, h5⟩ := scK_some h3
  obtain ⟨x1, rfl, h6⟩ := cI_some h5
  obtain ⟨a9007, r9008, rfl, h9⟩ := uncA_some h6
  obtain ⟨s9010, rfl, h11⟩ := scK_some h9
  obtain ⟨x2, rfl, h12⟩ := cI_some h11
  obtain ⟨a9013, r9014, rfl, h15⟩ := uncA_some h12
  obtain ⟨s9016, rfl, h17⟩ := scK_some h15
  obtain ⟨s10, rfl, h18⟩ := cS_some h17
  obtain ⟨a9019, r9020, rfl, h21⟩ := uncA_some h18
  obtain ⟨s9022, rfl, h23⟩ := scK_some h21
  obtain ⟨s11, rfl, h24⟩ := cS_some h23
  obtain ⟨a9025, r9026, rfl, h27⟩ := uncA_some h24
  obtain ⟨s9028, rfl, h29⟩ := scK_some h27
  obtain ⟨x12, rfl, h30⟩ := cI_some h29
  obtain ⟨rfl, h31⟩ := endL_some h30
  rw [F6_6_eq] at h31
  exact execK_runs hD.typed Syn_zero Syn_mixed hJ X6_6 (T6 6).1 (envOf (T6 6).2 _) S K (chk_of (by kernel_rfl) (by kernel_rfl)) h31
noncomputable def J6 (D : Disp) (k : Nat) : Disp := Nat.rec (motive := fun _ => Disp) Disp.no (fun _ ih => Disp.add 0 (A6_0 D ih) <| Disp.add 6 (A6_6 D ih) <| Disp.no) k
theorem J6_ok {D : Disp} (hD : DOK SynP SynG D) : ∀ k, JOK SynP SynG Go.Proofs.Tryz.f6 T6 (J6 D k)
  | 0 => JOK.no
  | k + 1 => JOK.add (ltB_ok (by kernel_rfl)) (fun vals S K h => A6_0_ok hD (J6_ok hD k) h) <| JOK.add (ltB_ok (by kernel_rfl)) (fun vals S K h => A6_6_ok hD (J6_ok hD k) h) <| JOK.no
theorem E6_ok {D : Disp} (hD : DOK SynP SynG D) (k : Nat) {args : List AV} {S : St} {K : AV → St → Prop} (h : A6_0 D (J6 D k) args S K) : CallE SynP SynG 6 args S K := by
  have hr := A6_0_ok hD (J6_ok hD k) h
  have hl : args.length = 3 := by
    have h0 := h
    obtain ⟨a9001, r9002, rfl, h3⟩ := uncA_some h0
    obtain ⟨s9004, rfl, h5⟩ := scK_some h3
    obtain ⟨x0, rfl, h6⟩ := cI_some h5
    obtain ⟨a9007, r9008, rfl, h9⟩ := uncA_some h6
    obtain ⟨s9010, rfl, h11⟩ := scK_some h9
    obtain ⟨x1, rfl, h12⟩ := cI_some h11
    obtain ⟨a9013, r9014, rfl, h15⟩ := uncA_some h12
    obtain ⟨s9016, rfl, h17⟩ := scK_some h15
    obtain ⟨x2, rfl, h18⟩ := cI_some h17
    obtain ⟨rfl, h19⟩ := endL_some h18
    rfl
  refine callOK_of (fn := Go.Proofs.Tryz.f6) (c := (match Go.Proofs.Tryz.f6.body with | some c => c | none => .skip)) (by kernel_rfl) (by kernel_rfl) (by kernel_rfl) (by rw [hl]; kernel_rfl) (by kernel_rfl) ?_
  rw [hl]
  exact hr
noncomputable def plans7 (i : Nat) : Plan := if Nat.beq i 2 then [(0, []), (1, []), (5, []), (6, []), (2, [1]), (3, [0, 2, 1]), (4, [3, 0, 2, 1]), (7, [6, 2, 1]), (8, [5, 7, 6, 2, 1]), (9, [8, 5, 7, 6, 2, 1]), (10, [4, 7, 0, 1, 2, 3, 6]), (11, [9, 10, 0, 1, 2, 3, 4, 5, 6, 7, 8])] else []
noncomputable def T7 (p : Nat) : List Item × List Nat := bif Nat.beq p 0 then ([.code (match Go.Proofs.Tryz.f7.body with | some c => c | none => .skip)], [0, 1]) else
  ([], [])
noncomputable def F7_q0 (D J : Disp) (y450 : LV) (S500 : St) (x544 : Int) (K : AV → St → Prop) : Prop :=
 let d545 : (Sum Nat Nat) := (Sum.inl 2);
 let S546 : St := (St.add S500 (AO.cells [(SV.int IntKind.i64 (0 : Int)), (SV.int IntKind.i64 x544)] Op2.sh));
 D 14 [(AV.one (V1.s (SV.sl y450))), (AV.one (V1.s (SV.sl (LV.mk (Bk.new (St.next S500)) 0 2 d545))))] S546 fun v547 S548 =>
 scK v547 fun v550 =>
 SV.cB v550 fun y551 =>
 ifK y551
 (D 12 [] S548 fun v552 S553 =>
 scK v552 fun v555 =>
 SV.cB v555 fun y556 =>
 K ((AV.one (V1.s (SV.bool y556)))) S553)
 (K ((AV.one (V1.s (SV.bool Bool.false)))) S548)
noncomputable def F7_q1 (D J : Disp) (y317 : (List Nat)) (y353 : (List Nat)) (y384 : (List Nat)) (y416 : (List Nat)) (y450 : LV) (y481 : (List Nat)) (S500 : St) (c540 : Bool) (K : AV → St → Prop) : Prop :=
 ifK c540
 (req (Nat.blt ((List.length y353) + (List.length y384)) 9223372036854775808) <|
 let s541 : (List Nat) := (y353 ++ y384);
 let c542 : Bool := (leq y416 s541);
 ifK c542
 (let c543 : Bool := (leq y481 []);
 ifK c543
 (let x544 : Int := (Int.ofNat (List.length y317));
 F7_q0 D J y450 S500 x544 K)
 (K ((AV.one (V1.s (SV.bool Bool.false)))) S500))
 (K ((AV.one (V1.s (SV.bool Bool.false)))) S500))
 (K ((AV.one (V1.s (SV.bool Bool.false)))) S500)
noncomputable def F7_q2 (D J : Disp) (y317 : (List Nat)) (y353 : (List Nat)) (y384 : (List Nat)) (y416 : (List Nat)) (S438 : St) (y450 : LV) (S471 : St) (y481 : (List Nat)) (S500 : St) (c524 : Bool) (K : AV → St → Prop) : Prop :=
 ifK c524
 (St.at S500 (Bk.new (St.next S438)) 0 fun y525 =>
 uncK y525 fun v526 y527 =>
 SV.cI IntKind.i64 v526 fun x531 =>
 let c532 : Bool := (ieq x531 (0 : Int));
 ifK c532
 (St.at S500 (Bk.new (St.next S471)) 0 fun y533 =>
 uncK y533 fun v534 y535 =>
 SV.cI IntKind.i64 v534 fun x539 =>
 let c540 : Bool := (ieq x539 (0 : Int));
 F7_q1 D J y317 y353 y384 y416 y450 y481 S500 c540 K)
 (K ((AV.one (V1.s (SV.bool Bool.false)))) S500))
 (K ((AV.one (V1.s (SV.bool Bool.false)))) S500)
noncomputable def F7_q3 (D J : Disp) (y317 : (List Nat)) (y353 : (List Nat)) (S374 : St) (y384 : (List Nat)) (S406 : St) (y416 : (List Nat)) (S438 : St) (y450 : LV) (S471 : St) (y481 : (List Nat)) (S500 : St) (K : AV → St → Prop) : Prop :=
 St.at S500 (Bk.new (St.next S374)) 0 fun y509 =>
 uncK y509 fun v510 y511 =>
 SV.cI IntKind.i64 v510 fun x515 =>
 let c516 : Bool := (ieq x515 (0 : Int));
 ifK c516
 (St.at S500 (Bk.new (St.next S406)) 0 fun y517 =>
 uncK y517 fun v518 y519 =>
 SV.cI IntKind.i64 v518 fun x523 =>
 let c524 : Bool := (ieq x523 (0 : Int));
 F7_q2 D J y317 y353 y384 y416 S438 y450 S471 y481 S500 c524 K)
 (K ((AV.one (V1.s (SV.bool Bool.false)))) S500)
noncomputable def F7_q4 (D J : Disp) (y317 : (List Nat)) (S343 : St) (y353 : (List Nat)) (S374 : St) (y384 : (List Nat)) (S406 : St) (y416 : (List Nat)) (S438 : St) (y450 : LV) (S471 : St) (y481 : (List Nat)) (x492 : Int) (x498 : Int) (K : AV → St → Prop) : Prop :=
 let S499 : St := (St.add S471 (AO.cells [(SV.int IntKind.i64 (0 : Int)), (SV.int IntKind.i64 (0 : Int))] (Op2.ty 25)));
 St.wr S499 (Bk.new (St.next S471)) 0 [(SV.int IntKind.i64 x492), (SV.int IntKind.i64 x498)] fun S500 =>
 St.at S500 (Bk.new (St.next S343)) 0 fun y501 =>
 uncK y501 fun v502 y503 =>
 SV.cI IntKind.i64 v502 fun x507 =>
 let c508 : Bool := (ieq x507 (0 : Int));
 ifK c508
 (F7_q3 D J y317 y353 S374 y384 S406 y416 S438 y450 S471 y481 S500 K)
 (K ((AV.one (V1.s (SV.bool Bool.false)))) S500)
noncomputable def F7_q5 (D J : Disp) (y317 : (List Nat)) (S343 : St) (y353 : (List Nat)) (S374 : St) (y384 : (List Nat)) (S406 : St) (y416 : (List Nat)) (S438 : St) (y450 : LV) (S469 : St) (K : AV → St → Prop) : Prop :=
 D 9 [(AV.one (V1.s (SV.str [32, 47, 42, 42, 47, 32])))] S469 fun v470 S471 =>
 avT v470 fun y473 =>
 uncV y473 fun v474 y475 =>
 v1S v474 fun v477 =>
 SV.cS v477 fun y481 =>
 uncV y475 fun v482 y483 =>
 v1A v482 fun y486 =>
 req (Nat.beq (List.length y486) 2) <|
 uncK y486 fun v487 y488 =>
 SV.cI IntKind.i64 v487 fun x492 =>
 uncK y488 fun v493 y494 =>
 SV.cI IntKind.i64 v493 fun x498 =>
 endL y483 (F7_q4 D J y317 S343 y353 S374 y384 S406 y416 S438 y450 S471 y481 x492 x498 K)
noncomputable def F7_q6 (D J : Disp) (y317 : (List Nat)) (S343 : St) (y353 : (List Nat)) (S374 : St) (y384 : (List Nat)) (S406 : St) (y416 : (List Nat)) (S435 : St) (s436 : (List Nat)) (K : AV → St → Prop) : Prop :=
 D 13 [(AV.one (V1.s (SV.str s436)))] S435 fun v437 S438 =>
 avT v437 fun y440 =>
 uncV y440 fun v441 y442 =>
 v1S v441 fun v444 =>
 SV.cL v444 fun y450 =>
 uncV y442 fun v451 y452 =>
 v1A v451 fun y455 =>
 req (Nat.beq (List.length y455) 2) <|
 uncK y455 fun v456 y457 =>
 SV.cI IntKind.i64 v456 fun x461 =>
 uncK y457 fun v462 y463 =>
 SV.cI IntKind.i64 v462 fun x467 =>
 endL y452 (let S468 : St := (St.add S438 (AO.cells [(SV.int IntKind.i64 (0 : Int)), (SV.int IntKind.i64 (0 : Int))] (Op2.ty 25)));
 St.wr S468 (Bk.new (St.next S438)) 0 [(SV.int IntKind.i64 x461), (SV.int IntKind.i64 x467)] fun S469 =>
 F7_q5 D J y317 S343 y353 S374 y384 S406 y416 S438 y450 S469 K)
noncomputable def F7_q7 (D J : Disp) (y317 : (List Nat)) (y341 : (List Nat)) (S343 : St) (y353 : (List Nat)) (S374 : St) (y384 : (List Nat)) (S403 : St) (s404 : (List Nat)) (K : AV → St → Prop) : Prop :=
 D 9 [(AV.one (V1.s (SV.str s404)))] S403 fun v405 S406 =>
 avT v405 fun y408 =>
 uncV y408 fun v409 y410 =>
 v1S v409 fun v412 =>
 SV.cS v412 fun y416 =>
 uncV y410 fun v417 y418 =>
 v1A v417 fun y421 =>
 req (Nat.beq (List.length y421) 2) <|
 uncK y421 fun v422 y423 =>
 SV.cI IntKind.i64 v422 fun x427 =>
 uncK y423 fun v428 y429 =>
 SV.cI IntKind.i64 v428 fun x433 =>
 endL y418 (let S434 : St := (St.add S406 (AO.cells [(SV.int IntKind.i64 (0 : Int)), (SV.int IntKind.i64 (0 : Int))] (Op2.ty 25)));
 St.wr S434 (Bk.new (St.next S406)) 0 [(SV.int IntKind.i64 x427), (SV.int IntKind.i64 x433)] fun S435 =>
 req (Nat.blt ((List.length y317) + (List.length y341)) 9223372036854775808) <|
 let s436 : (List Nat) := (y317 ++ y341);
 F7_q6 D J y317 S343 y353 S374 y384 S406 y416 S435 s436 K)
noncomputable def F7_q8 (D J : Disp) (y317 : (List Nat)) (y341 : (List Nat)) (S343 : St) (y353 : (List Nat)) (S372 : St) (K : AV → St → Prop) : Prop :=
 D 9 [(AV.one (V1.s (SV.str y341)))] S372 fun v373 S374 =>
 avT v373 fun y376 =>
 uncV y376 fun v377 y378 =>
 v1S v377 fun v380 =>
 SV.cS v380 fun y384 =>
 uncV y378 fun v385 y386 =>
 v1A v385 fun y389 =>
 req (Nat.beq (List.length y389) 2) <|
 uncK y389 fun v390 y391 =>
 SV.cI IntKind.i64 v390 fun x395 =>
 uncK y391 fun v396 y397 =>
 SV.cI IntKind.i64 v396 fun x401 =>
 endL y386 (let S402 : St := (St.add S374 (AO.cells [(SV.int IntKind.i64 (0 : Int)), (SV.int IntKind.i64 (0 : Int))] (Op2.ty 25)));
 St.wr S402 (Bk.new (St.next S374)) 0 [(SV.int IntKind.i64 x395), (SV.int IntKind.i64 x401)] fun S403 =>
 req (Nat.blt ((List.length y317) + (List.length y341)) 9223372036854775808) <|
 let s404 : (List Nat) := (y317 ++ y341);
 F7_q7 D J y317 y341 S343 y353 S374 y384 S403 s404 K)
noncomputable def F7_q9 (D J : Disp) (y317 : (List Nat)) (S319 : St) (y341 : (List Nat)) (K : AV → St → Prop) : Prop :=
 D 9 [(AV.one (V1.s (SV.str y317)))] S319 fun v342 S343 =>
 avT v342 fun y345 =>
 uncV y345 fun v346 y347 =>
 v1S v346 fun v349 =>
 SV.cS v349 fun y353 =>
 uncV y347 fun v354 y355 =>
 v1A v354 fun y358 =>
 req (Nat.beq (List.length y358) 2) <|
 uncK y358 fun v359 y360 =>
 SV.cI IntKind.i64 v359 fun x364 =>
 uncK y360 fun v365 y366 =>
 SV.cI IntKind.i64 v365 fun x370 =>
 endL y355 (let S371 : St := (St.add S343 (AO.cells [(SV.int IntKind.i64 (0 : Int)), (SV.int IntKind.i64 (0 : Int))] (Op2.ty 25)));
 St.wr S371 (Bk.new (St.next S343)) 0 [(SV.int IntKind.i64 x364), (SV.int IntKind.i64 x370)] fun S372 =>
 F7_q8 D J y317 y341 S343 y353 S372 K)
noncomputable def F7_q10 (D J : Disp) (S : St) (x1 : Int) (S303 : St) (n309 : Nat) (y317 : (List Nat)) (K : AV → St → Prop) : Prop :=
 D 11 [(AV.one (V1.s (SV.int IntKind.i64 x1))), (AV.one (V1.s (SV.int IntKind.i64 (7 : Int))))] S303 fun v318 S319 =>
 scK v318 fun v321 =>
 SV.cI IntKind.i64 v321 fun x324 =>
 St.at S319 (Bk.new (St.next S)) n309 fun y325 =>
 uncK y325 fun v326 y327 =>
 SV.cS v326 fun y332 =>
 req (sameAV (AV.one (V1.s (SV.str y332))) (AV.one (V1.s (SV.str y317)))) <|
 req (Bool.and (ile (0 : Int) x324) (ilt x324 (7 : Int))) <|
 let n333 : Nat := (0 + ((Int.toNat x324) * 1));
 St.at S319 (Bk.new (St.next S)) n333 fun y334 =>
 uncK y334 fun v335 y336 =>
 SV.cS v335 fun y341 =>
 F7_q9 D J y317 S319 y341 K
noncomputable def F7_q11 (D J : Disp) (S : St) (x0 : Int) (x1 : Int) (S301 : St) (K : AV → St → Prop) : Prop :=
 D 11 [(AV.one (V1.s (SV.int IntKind.i64 x0))), (AV.one (V1.s (SV.int IntKind.i64 (7 : Int))))] S301 fun v302 S303 =>
 scK v302 fun v305 =>
 SV.cI IntKind.i64 v305 fun x308 =>
 req (Bool.and (ile (0 : Int) x308) (ilt x308 (7 : Int))) <|
 let n309 : Nat := (0 + ((Int.toNat x308) * 1));
 St.at S303 (Bk.new (St.next S)) n309 fun y310 =>
 uncK y310 fun v311 y312 =>
 SV.cS v311 fun y317 =>
 F7_q10 D J S x1 S303 n309 y317 K
noncomputable def F7_q12 (D J : Disp) (S : St) (x0 : Int) (x1 : Int) (K : AV → St → Prop) : Prop :=
 let d300 : (Sum Nat Nat) := (Sum.inl 7);
 let S301 : St := (St.add S (AO.cells [(SV.str [105, 110, 116, 32, 97, 59]), (SV.str [115, 116, 114, 117, 99, 116, 32, 116, 32, 123, 32, 99, 104, 97, 114, 32, 99, 59, 32, 125, 59]), (SV.str [118, 111, 105, 100, 32, 102, 40, 41, 59]), (SV.str [116, 121, 112, 101, 100, 101, 102, 32, 105, 110, 116, 32, 111, 112, 40, 108, 111, 110, 103, 41, 59]), (SV.str [108, 111, 110, 103, 32, 103, 40, 105, 110, 116, 32, 120, 41, 32, 123, 32, 114, 101, 116, 117, 114, 110, 32, 120, 59, 32, 125]), (SV.str [99, 104, 97, 114, 32, 42, 115, 91, 51, 93, 32, 61, 32, 123, 32, 48, 32, 125, 59]), (SV.str [117, 110, 115, 105, 103, 110, 101, 100, 32, 117, 32, 61, 32, 49, 32, 60, 60, 32, 50, 59])] Op2.sh));
 F7_q11 D J S x0 x1 S301 K
noncomputable def F7_0 (D J : Disp) (x0 : Int) (x1 : Int) (S : St) (K : AV → St → Prop) : Prop :=
 F7_q12 D J S x0 x1 K
noncomputable def X7_0 : X := (.op (.op (.op (.op (.op (.op (.op (.op (.op .ret)))))))))
theorem F7_0_eq (D J : Disp) (x0 : Int) (x1 : Int) (S : St) (K : AV → St → Prop) : F7_0 D J x0 x1 S K = execK SynP SynG Go.Proofs.Tryz.f7 (typed SynP D) J plans7 X7_0 (T7 0).1 (envOf (T7 0).2 [(AV.one (V1.s (SV.int IntKind.i64 x0))), (AV.one (V1.s (SV.int IntKind.i64 x1)))]) S K := by kernel_rfl
noncomputable abbrev A7_0 (D J : Disp) (vals : List AV) (S : St) (K : AV → St → Prop) : Prop :=
  uncA vals fun a9001 r9002 => scK a9001 fun s9004 => SV.cI IntKind.i64 s9004 fun x0 => uncA r9002 fun a9007 r9008 => scK a9007 fun s9010 => SV.cI IntKind.i64 s9010 fun x1 => endL r9008 <| F7_0 D J x0 x1 S K
theorem A7_0_ok {D J : Disp} (hD : DOK SynP SynG D) (hJ : JOK SynP SynG Go.Proofs.Tryz.f7 T7 J) {vals : List AV} {S : St} {K : AV → St → Prop} (h0 : A7_0 D J vals S K) : Runs SynP SynG Go.Proofs.Tryz.f7 (T7 0).1 (envOf (T7 0).2 vals) S K := by
  obtain ⟨a9001, r9002, rfl, h3⟩ := uncA_some h0
  obtain ⟨s9004, rfl, h5⟩ := scK_some h3
  obtain ⟨x0, rfl, h6⟩ := cI_some h5
  obtain ⟨a9007, r9008, rfl, h9⟩ := uncA_some h6
  obtain ⟨s9010, rfl, h11⟩ := scK_some h9
  obtain ⟨x1, rfl, h12⟩ := cI_some h11
  obtain ⟨rfl, h13⟩ := endL_some h12
  rw [F7_0_eq] at h13
  exact execK_runs hD.typed Syn_zero Syn_mixed hJ X7_0 (T7 0).1 (envOf (T7 0).2 _) S K (chk_of (by kernel_rfl) (by kernel_rfl)) h13
noncomputable def J7 (D : Disp) (k : Nat) : Disp := Nat.rec (motive := fun _ => Disp) Disp.no (fun _ ih => Disp.add 0 (A7_0 D ih) <| Disp.no) k
theorem J7_ok {D : Disp} (hD : DOK SynP SynG D) : ∀ k, JOK SynP SynG Go.Proofs.Tryz.f7 T7 (J7 D k)
  | 0 => JOK.no
  | k + 1 => JOK.add (ltB_ok (by kernel_rfl)) (fun vals S K h => A7_0_ok hD (J7_ok hD k) h) <| JOK.no
theorem E7_ok {D : Disp} (hD : DOK SynP SynG D) (k : Nat) {args : List AV} {S : St} {K : AV → St → Prop} (h : A7_0 D (J7 D k) args S K) : CallE SynP SynG 7 args S K := by
  have hr := A7_0_ok hD (J7_ok hD k) h
  have hl : args.length = 2 := by
    have h0 := h
    obtain ⟨a9001, r9002, rfl, h3⟩ := uncA_some h0
    obtain ⟨s9004, rfl, h5⟩ := scK_some h3
    obtain ⟨x0, rfl, h6⟩ := cI_some h5
    obtain ⟨a9007, r9008, rfl, h9⟩ := uncA_some h6
    obtain ⟨s9010, rfl, h11⟩ := scK_some h9
    obtain ⟨x1, rfl, h12⟩ := cI_some h11
    obtain ⟨rfl, h13⟩ := endL_some h12
    rfl
  refine callOK_of (fn := Go.Proofs.Tryz.f7) (c := (match Go.Proofs.Tryz.f7.body with | some c => c | none => .skip)) (by kernel_rfl) (by kernel_rfl) (by kernel_rfl) (by rw [hl]; kernel_rfl) (by kernel_rfl) ?_
  rw [hl]
  exact hr
noncomputable def plans8 (i : Nat) : Plan := []
noncomputable def T8 (p : Nat) : List Item × List Nat := bif Nat.beq p 0 then ([.code (match Go.Proofs.Tryz.f8.body with | some c => c | none => .skip)], [0]) else
  ([], [])
noncomputable def F8_q0 (D J : Disp) (S : St) (x0 : Int) (S301 : St) (K : AV → St → Prop) : Prop :=
 D 11 [(AV.one (V1.s (SV.int IntKind.i64 x0))), (AV.one (V1.s (SV.int IntKind.i64 (10 : Int))))] S301 fun v302 S303 =>
 scK v302 fun v305 =>
 SV.cI IntKind.i64 v305 fun x308 =>
 req (Bool.and (ile (0 : Int) x308) (ilt x308 (10 : Int))) <|
 let n309 : Nat := (0 + ((Int.toNat x308) * 1));
 St.at S303 (Bk.new (St.next S)) n309 fun y310 =>
 uncK y310 fun v311 y312 =>
 SV.cS v311 fun y317 =>
 K ((AV.one (V1.s (SV.str y317)))) S303
noncomputable def F8_0 (D J : Disp) (x0 : Int) (S : St) (K : AV → St → Prop) : Prop :=
 let d300 : (Sum Nat Nat) := (Sum.inl 10);
 let S301 : St := (St.add S (AO.cells [(SV.str [124, 124]), (SV.str [38, 38]), (SV.str [124]), (SV.str [94]), (SV.str [38]), (SV.str [61, 61]), (SV.str [60]), (SV.str [60, 60]), (SV.str [43]), (SV.str [42])] Op2.sh));
 F8_q0 D J S x0 S301 K
noncomputable def X8_0 : X := (.op (.op .ret))
theorem F8_0_eq (D J : Disp) (x0 : Int) (S : St) (K : AV → St → Prop) : F8_0 D J x0 S K = execK SynP SynG Go.Proofs.Tryz.f8 (typed SynP D) J plans8 X8_0 (T8 0).1 (envOf (T8 0).2 [(AV.one (V1.s (SV.int IntKind.i64 x0)))]) S K := by kernel_rfl
noncomputable abbrev A8_0 (D J : Disp) (vals : List AV) (S : St) (K : AV → St → Prop) : Prop :=
  uncA vals fun a9001 r9002 => scK a9001 fun s9004 => SV.cI IntKind.i64 s9004 fun x0 => endL r9002 <| F8_0 D J x0 S K
theorem A8_0_ok {D J : Disp} (hD : DOK SynP SynG D) (hJ : JOK SynP SynG Go.Proofs.Tryz.f8 T8 J) {vals : List AV} {S : St} {K : AV → St → Prop} (h0 : A8_0 D J vals S K) : Runs SynP SynG Go.Proofs.Tryz.f8 (T8 0).1 (envOf (T8 0).2 vals) S K := by
  obtain ⟨a9001, r9002, rfl, h3⟩ := uncA_some h0
  obtain ⟨s9004, rfl, h5⟩ := scK_some h3
  obtain ⟨x0, rfl, h6⟩ := cI_some h5
  obtain ⟨rfl, h7⟩ := endL_some h6
  rw [F8_0_eq] at h7
  exact execK_runs hD.typed Syn_zero Syn_mixed hJ X8_0 (T8 0).1 (envOf (T8 0).2 _) S K (chk_of (by kernel_rfl) (by kernel_rfl)) h7
noncomputable def J8 (D : Disp) (k : Nat) : Disp := Nat.rec (motive := fun _ => Disp) Disp.no (fun _ ih => Disp.add 0 (A8_0 D ih) <| Disp.no) k
theorem J8_ok {D : Disp} (hD : DOK SynP SynG D) : ∀ k, JOK SynP SynG Go.Proofs.Tryz.f8 T8 (J8 D k)
  | 0 => JOK.no
  | k + 1 => JOK.add (ltB_ok (by kernel_rfl)) (fun vals S K h => A8_0_ok hD (J8_ok hD k) h) <| JOK.no
theorem E8_ok {D : Disp} (hD : DOK SynP SynG D) (k : Nat) {args : List AV} {S : St} {K : AV → St → Prop} (h : A8_0 D (J8 D k) args S K) : CallE SynP SynG 8 args S K := by
  have hr := A8_0_ok hD (J8_ok hD k) h
  have hl : args.length = 1 := by
    have h0 := h
    obtain ⟨a9001, r9002, rfl, h3⟩ := uncA_some h0
    obtain ⟨s9004, rfl, h5⟩ := scK_some h3
    obtain ⟨x0, rfl, h6⟩ := cI_some h5
    obtain ⟨rfl, h7⟩ := endL_some h6
    rfl
  refine callOK_of (fn := Go.Proofs.Tryz.f8) (c := (match Go.Proofs.Tryz.f8.body with | some c => c | none => .skip)) (by kernel_rfl) (by kernel_rfl) (by kernel_rfl) (by rw [hl]; kernel_rfl) (by kernel_rfl) ?_
  rw [hl]
  exact hr
noncomputable def plans9 (i : Nat) : Plan := if Nat.beq i 2 then [(0, []), (2, []), (1, [0]), (3, [1, 0]), (4, [2, 3, 0, 1])] else []
noncomputable def T9 (p : Nat) : List Item × List Nat := bif Nat.beq p 0 then ([.code (match Go.Proofs.Tryz.f9.body with | some c => c | none => .skip)], [0]) else
  ([], [])
noncomputable def F9_q0 (D J : Disp) (S : St) (S302 : St) (y314 : LV) (S333 : St) (x340 : Int) (x346 : Int) (K : AV → St → Prop) : Prop :=
 D 16 [(AV.one (V1.s (SV.sl y314)))] S333 fun v347 S348 =>
 scK v347 fun v350 =>
 SV.cS v350 fun y354 =>
 St.at S348 (Bk.new (St.next S302)) 0 fun y355 =>
 uncK y355 fun v356 y357 =>
 SV.cI IntKind.i64 v356 fun x361 =>
 uncK y357 fun v362 y363 =>
 SV.cI IntKind.i64 v362 fun x367 =>
 req (sameAV (AV.one (V1.agg [(SV.int IntKind.i64 x361), (SV.int IntKind.i64 x367)])) (AV.one (V1.agg [(SV.int IntKind.i64 x340), (SV.int IntKind.i64 x346)]))) <|
 St.wr S348 (Bk.new (St.next S)) 0 [(SV.int IntKind.i64 x340), (SV.int IntKind.i64 x346)] fun S368 =>
 St.at S368 (Bk.new (St.next S)) 0 fun y369 =>
 uncK y369 fun v370 y371 =>
 SV.cI IntKind.i64 v370 fun x375 =>
 uncK y371 fun v376 y377 =>
 SV.cI IntKind.i64 v376 fun x381 =>
 K ((AV.tup [(V1.s (SV.str y354)), (V1.agg [(SV.int IntKind.i64 x375), (SV.int IntKind.i64 x381)])])) S368
noncomputable def F9_q1 (D J : Disp) (S : St) (S302 : St) (y314 : LV) (x325 : Int) (x331 : Int) (K : AV → St → Prop) : Prop :=
 let S332 : St := (St.add S302 (AO.cells [(SV.int IntKind.i64 (0 : Int)), (SV.int IntKind.i64 (0 : Int))] (Op2.ty 25)));
 St.wr S332 (Bk.new (St.next S302)) 0 [(SV.int IntKind.i64 x325), (SV.int IntKind.i64 x331)] fun S333 =>
 St.at S333 (Bk.new (St.next S302)) 0 fun y334 =>
 uncK y334 fun v335 y336 =>
 SV.cI IntKind.i64 v335 fun x340 =>
 uncK y336 fun v341 y342 =>
 SV.cI IntKind.i64 v341 fun x346 =>
 F9_q0 D J S S302 y314 S333 x340 x346 K
noncomputable def F9_q2 (D J : Disp) (S : St) (s0 : (List Nat)) (K : AV → St → Prop) : Prop :=
 let S300 : St := (St.add S (AO.cells [(SV.int IntKind.i64 (0 : Int)), (SV.int IntKind.i64 (0 : Int))] (Op2.ty 25)));
 D 15 [(AV.one (V1.s (SV.str s0)))] S300 fun v301 S302 =>
 avT v301 fun y304 =>
 uncV y304 fun v305 y306 =>
 v1S v305 fun v308 =>
 SV.cL v308 fun y314 =>
 uncV y306 fun v315 y316 =>
 v1A v315 fun y319 =>
 req (Nat.beq (List.length y319) 2) <|
 uncK y319 fun v320 y321 =>
 SV.cI IntKind.i64 v320 fun x325 =>
 uncK y321 fun v326 y327 =>
 SV.cI IntKind.i64 v326 fun x331 =>
 endL y316 (F9_q1 D J S S302 y314 x325 x331 K)
noncomputable def F9_0 (D J : Disp) (s0 : (List Nat)) (S : St) (K : AV → St → Prop) : Prop :=
 F9_q2 D J S s0 K
noncomputable def X9_0 : X := (.op (.op (.op .ret)))
theorem F9_0_eq (D J : Disp) (s0 : (List Nat)) (S : St) (K : AV → St → Prop) : F9_0 D J s0 S K = execK SynP SynG Go.Proofs.Tryz.f9 (typed SynP D) J plans9 X9_0 (T9 0).1 (envOf (T9 0).2 [(AV.one (V1.s (SV.str s0)))]) S K := by kernel_rfl
noncomputable abbrev A9_0 (D J : Disp) (vals : List AV) (S : St) (K : AV → St → Prop) : Prop :=
  uncA vals fun a9001 r9002 => scK a9001 fun s9004 => SV.cS s9004 fun s0 => endL r9002 <| F9_0 D J s0 S K
theorem A9_0_ok {D J : Disp} (hD : DOK SynP SynG D) (hJ : JOK SynP SynG Go.Proofs.Tryz.f9 T9 J) {vals : List AV} {S : St} {K : AV → St → Prop} (h0 : A9_0 D J vals S K) : Runs SynP SynG Go.Proofs.Tryz.f9 (T9 0).1 (envOf (T9 0).2 vals) S K := by
  obtain ⟨a9001, r9002, rfl, h3⟩ := uncA_some h0
  obtain ⟨s9004, rfl, h5⟩ := scK_some h3
  obtain ⟨s0, rfl, h6⟩ := cS_some h5
  obtain ⟨rfl, h7⟩ := endL_some h6
  rw [F9_0_eq] at h7
  exact execK_runs hD.typed Syn_zero Syn_mixed hJ X9_0 (T9 0).1 (envOf (T9 0).2 _) S K (chk_of (by kernel_rfl) (by kernel_rfl)) h7
noncomputable def J9 (D : Disp) (k : Nat) : Disp := Nat.rec (motive := fun _ => Disp) Disp.no (fun _ ih => Disp.add 0 (A9_0 D ih) <| Disp.no) k
theorem J9_ok {D : Disp} (hD : DOK SynP SynG D) : ∀ k, JOK SynP SynG Go.Proofs.Tryz.f9 T9 (J9 D k)
  | 0 => JOK.no
  | k + 1 => JOK.add (ltB_ok (by kernel_rfl)) (fun vals S K h => A9_0_ok hD (J9_ok hD k) h) <| JOK.no
theorem E9_ok {D : Disp} (hD : DOK SynP SynG D) (k : Nat) {args : List AV} {S : St} {K : AV → St → Prop} (h : A9_0 D (J9 D k) args S K) : CallE SynP SynG 9 args S K := by
  have hr := A9_0_ok hD (J9_ok hD k) h
  have hl : args.length = 1 := by
    have h0 := h
    obtain ⟨a9001, r9002, rfl, h3⟩ := uncA_some h0
    obtain ⟨s9004, rfl, h5⟩ := scK_some h3
    obtain ⟨s0, rfl, h6⟩ := cS_some h5
    obtain ⟨rfl, h7⟩ := endL_some h6
    rfl
  refine callOK_of (fn := Go.Proofs.Tryz.f9) (c := (match Go.Proofs.Tryz.f9.body with | some c => c | none => .skip)) (by kernel_rfl) (by kernel_rfl) (by kernel_rfl) (by rw [hl]; kernel_rfl) (by kernel_rfl) ?_
  rw [hl]
  exact hr
noncomputable def plans10 (i : Nat) : Plan := []
noncomputable def T10 (p : Nat) : List Item × List Nat := bif Nat.beq p 0 then ([.code (match Go.Proofs.Tryz.f10.body with | some c => c | none => .skip)], [0]) else
  ([], [])
noncomputable def F10_0 (D J : Disp) (s0 : (List Nat)) (S : St) (K : AV → St → Prop) : Prop :=
 let c300 : Bool := (leq s0 [124, 124]);
 ifK c300
 (K ((AV.one (V1.s (SV.str [111, 114])))) S)
 (let c301 : Bool := (leq s0 [38, 38]);
 ifK c301
 (K ((AV.one (V1.s (SV.str [97, 110, 100])))) S)
 (req (Nat.blt (4 + (List.length s0)) 9223372036854775808) <|
 let s302 : (List Nat) := ([98, 105, 110, 32] ++ s0);
 K ((AV.one (V1.s (SV.str s302)))) S))
noncomputable def X10_0 : X := (.op (.op (.op (.br (.op .ret) (.op (.br (.op .ret) (.op .ret)))))))
theorem F10_0_eq (D J : Disp) (s0 : (List Nat)) (S : St) (K : AV → St → Prop) : F10_0 D J s0 S K = execK SynP SynG Go.Proofs.Tryz.f10 (typed SynP D) J plans10 X10_0 (T10 0).1 (envOf (T10 0).2 [(AV.one (V1.s (SV.str s0)))]) S K := by kernel_rfl
noncomputable abbrev A10_0 (D J : Disp) (vals : List AV) (S : St) (K : AV → St → Prop) : Prop :=
  uncA vals fun a9001 r9002 => scK a9001 fun s9004 => SV.cS s9004 fun s0 => endL r9002 <| F10_0 D J s0 S K
theorem A10_0_ok {D J : Disp} (hD : DOK SynP SynG D) (hJ : JOK SynP SynG Go.Proofs.Tryz.f10 T10 J) {vals : List AV} {S : St} {K : AV → St → Prop} (h0 : A10_0 D J vals S K) : Runs SynP SynG Go.Proofs.Tryz.f10 (T10 0).1 (envOf (T10 0).2 vals) S K := by
  obtain ⟨a9001, r9002, rfl, h3⟩ := uncA_some h0
  obtain ⟨s9004, rfl, h5⟩ := scK_some h3
  obtain ⟨s0, rfl, h6⟩ := cS_some h5
  obtain ⟨rfl, h7⟩ := endL_some h6
  rw [F10_0_eq] at h7
  exact execK_runs hD.typed Syn_zero Syn_mixed hJ X10_0 (T10 0).1 (envOf (T10 0).2 _) S K (chk_of (by kernel_rfl) (by kernel_rfl)) h7
noncomputable def J10 (D : Disp) (k : Nat) : Disp := Nat.rec (motive := fun _ => Disp) Disp.no (fun _ ih => Disp.add 0 (A10_0 D ih) <| Disp.no) k
theorem J10_ok {D : Disp} (hD : DOK SynP SynG D) : ∀ k, JOK SynP SynG Go.Proofs.Tryz.f10 T10 (J10 D k)
  | 0 => JOK.no
  | k + 1 => JOK.add (ltB_ok (by kernel_rfl)) (fun vals S K h => A10_0_ok hD (J10_ok hD k) h) <| JOK.no
theorem E10_ok {D : Disp} (hD : DOK SynP SynG D) (k : Nat) {args : List AV} {S : St} {K : AV → St → Prop} (h : A10_0 D (J10 D k) args S K) : CallE SynP SynG 10 args S K := by
  have hr := A10_0_ok hD (J10_ok hD k) h
  have hl : args.length = 1 := by
    have h0 := h
    obtain ⟨a9001, r9002, rfl, h3⟩ := uncA_some h0
    obtain ⟨s9004, rfl, h5⟩ := scK_some h3
    obtain ⟨s0, rfl, h6⟩ := cS_some h5
    obtain ⟨rfl, h7⟩ := endL_some h6
    rfl
  refine callOK_of (fn := Go.Proofs.Tryz.f10) (c := (match Go.Proofs.Tryz.f10.body with | some c => c | none => .skip)) (by kernel_rfl) (by kernel_rfl) (by kernel_rfl) (by rw [hl]; kernel_rfl) (by kernel_rfl) ?_
  rw [hl]
  exact hr
noncomputable def plans11 (i : Nat) : Plan := []
noncomputable def T11 (p : Nat) : List Item × List Nat := bif Nat.beq p 0 then ([.code (match Go.Proofs.Tryz.f11.body with | some c => c | none => .skip)], [0, 1]) else
  ([], [])
noncomputable def F11_0 (D J : Disp) (x0 : Int) (x1 : Int) (S : St) (K : AV → St → Prop) : Prop :=
 let x300 : Int := (iwrap IntKind.u64 x0);
 let x301 : Int := (iwrap IntKind.u64 x1);
 req (Bool.not (ieq x301 (0 : Int))) <|
 let x302 : Int := (Int.tmod x300 x301);
 let x303 : Int := (iwrap IntKind.i64 x302);
 K ((AV.one (V1.s (SV.int IntKind.i64 x303)))) S
noncomputable def X11_0 : X := (.op (.op .ret))
theorem F11_0_eq (D J : Disp) (x0 : Int) (x1 : Int) (S : St) (K : AV → St → Prop) : F11_0 D J x0 x1 S K = execK SynP SynG Go.Proofs.Tryz.f11 (typed SynP D) J plans11 X11_0 (T11 0).1 (envOf (T11 0).2 [(AV.one (V1.s (SV.int IntKind.i64 x0))), (AV.one (V1.s (SV.int IntKind.i64 x1)))]) S K := by kernel_rfl
noncomputable abbrev A11_0 (D J : Disp) (vals : List AV) (S : St) (K : AV → St → Prop) : Prop :=
  uncA vals fun a9001 r9002 => scK a9001 fun s9004 => SV.cI IntKind.i64 s9004 fun x0 => uncA r9002 fun a9007 r9008 => scK a9007 fun s9010 => SV.cI IntKind.i64 s9010 fun x1 => endL r9008 <| F11_0 D J x0 x1 S K
theorem A11_0_ok {D J : Disp} (hD : DOK SynP SynG D) (hJ : JOK SynP SynG Go.Proofs.Tryz.f11 T11 J) {vals : List AV} {S : St} {K : AV → St → Prop} (h0 : A11_0 D J vals S K) : Runs SynP SynG Go.Proofs.Tryz.f11 (T11 0).1 (envOf (T11 0).2 vals) S K := by
  obtain ⟨a9001, r9002, rfl, h3⟩ := uncA_some h0
  obtain ⟨s9004, rfl, h5⟩ := scK_some h3
  obtain ⟨x0, rfl, h6⟩ := cI_some h5
  obtain ⟨a9007, r9008, rfl, h9⟩ := uncA_some h6
  obtain ⟨s9010, rfl, h11⟩ := scK_some h9
  obtain ⟨x1, rfl, h12⟩ := cI_some h11
  obtain ⟨rfl, h13⟩ := endL_some h12
  rw [F11_0_eq] at h13
  exact execK_runs hD.typed Syn_zero Syn_mixed hJ X11_0 (T11 0).1 (envOf (T11 0).2 _) S K (chk_of (by kernel_rfl) (by kernel_rfl)) h13
noncomputable def J11 (D : Disp) (k : Nat) : Disp := Nat.rec (motive := fun _ => Disp) Disp.no (fun _ ih => Disp.add 0 (A11_0 D ih) <| Disp.no) k
theorem J11_ok {D : Disp} (hD : DOK SynP SynG D) : ∀ k, JOK SynP SynG Go.Proofs.Tryz.f11 T11 (J11 D k)
  | 0 => JOK.no
  | k + 1 => JOK.add (ltB_ok (by kernel_rfl)) (fun vals S K h => A11_0_ok hD (J11_ok hD k) h) <| JOK.no
theorem E11_ok {D : Disp} (hD : DOK SynP SynG D) (k : Nat) {args : List AV} {S : St} {K : AV → St → Prop} (h : A11_0 D (J11 D k) args S K) : CallE SynP SynG 11 args S K := by
  have hr := A11_0_ok hD (J11_ok hD k) h
  have hl : args.length = 2 := by
    have h0 := h
    obtain ⟨a9001, r9002, rfl, h3⟩ := uncA_some h0
    obtain ⟨s9004, rfl, h5⟩ := scK_some h3
    obtain ⟨x0, rfl, h6⟩ := cI_some h5
    obtain ⟨a9007, r9008, rfl, h9⟩ := uncA_some h6
    obtain ⟨s9010, rfl, h11⟩ := scK_some h9
    obtain ⟨x1, rfl, h12⟩ := cI_some h11
    obtain ⟨rfl, h13⟩ := endL_some h12
    rfl
  refine callOK_of (fn := Go.Proofs.Tryz.f11) (c := (match Go.Proofs.Tryz.f11.body with | some c => c | none => .skip)) (by kernel_rfl) (by kernel_rfl) (by kernel_rfl) (by rw [hl]; kernel_rfl) (by kernel_rfl) ?_
  rw [hl]
  exact hr
noncomputable def plans12 (i : Nat) : Plan := []
noncomputable def T12 (p : Nat) : List Item × List Nat := bif Nat.beq p 0 then ([.code (match Go.Proofs.Tryz.f12.body with | some c => c | none => .skip)], []) else
  ([], [])
noncomputable def F12_q0 (D J : Disp) (S363 : St) (y375 : LV) (S394 : St) (d424 : (Sum Nat Nat)) (S425 : St) (K : AV → St → Prop) : Prop :=
 D 14 [(AV.one (V1.s (SV.sl y375))), (AV.one (V1.s (SV.sl (LV.mk (Bk.new (St.next S394)) 0 2 d424))))] S425 fun v426 S427 =>
 scK v426 fun v429 =>
 SV.cB v429 fun y430 =>
 ifK y430
 (St.at S427 (Bk.new (St.next S363)) 0 fun y431 =>
 uncK y431 fun v432 y433 =>
 SV.cI IntKind.i64 v432 fun x437 =>
 let c438 : Bool := (ieq x437 (0 : Int));
 K ((AV.one (V1.s (SV.bool c438)))) S427)
 (K ((AV.one (V1.s (SV.bool Bool.false)))) S427)
noncomputable def F12_q1 (D J : Disp) (S332 : St) (S363 : St) (y375 : LV) (S394 : St) (c409 : Bool) (K : AV → St → Prop) : Prop :=
 ifK c409
 (St.at S394 (Bk.new (St.next S332)) 0 fun y410 =>
 uncK y410 fun v411 y412 =>
 SV.cI IntKind.i64 v411 fun x416 =>
 uncK y412 fun v417 y418 =>
 SV.cI IntKind.i64 v417 fun x422 =>
 let c423 : Bool := (Bool.and (ieq x416 (4 : Int)) (Bool.and (ieq x422 (5 : Int)) Bool.true));
 ifK c423
 (let d424 : (Sum Nat Nat) := (Sum.inl 2);
 let S425 : St := (St.add S394 (AO.cells [(SV.int IntKind.i64 (0 : Int)), (SV.int IntKind.i64 (7 : Int))] Op2.sh));
 F12_q0 D J S363 y375 S394 d424 S425 K)
 (K ((AV.one (V1.s (SV.bool Bool.false)))) S394))
 (K ((AV.one (V1.s (SV.bool Bool.false)))) S394)
noncomputable def F12_q2 (D J : Disp) (S301 : St) (y311 : (List Nat)) (S332 : St) (S363 : St) (y375 : LV) (S394 : St) (K : AV → St → Prop) : Prop :=
 let c395 : Bool := (leq y311 [40, 118, 97, 114, 32, 105, 51, 50, 32, 97, 32, 48, 32, 45, 41, 10, 40, 102, 117, 110, 99, 32, 105, 51, 50, 32, 109, 97, 105, 110, 32, 40, 41, 32, 40, 98, 108, 111, 99, 107, 32, 40, 114, 101, 116, 117, 114, 110, 32, 40, 110, 97, 109, 101, 32, 97, 41, 41, 41, 41, 10]);
 ifK c395
 (St.at S394 (Bk.new (St.next S301)) 0 fun y396 =>
 uncK y396 fun v397 y398 =>
 SV.cI IntKind.i64 v397 fun x402 =>
 uncK y398 fun v403 y404 =>
 SV.cI IntKind.i64 v403 fun x408 =>
 let c409 : Bool := (Bool.and (ieq x402 (0 : Int)) (Bool.and (ieq x408 (0 : Int)) Bool.true));
 F12_q1 D J S332 S363 y375 S394 c409 K)
 (K ((AV.one (V1.s (SV.bool Bool.false)))) S394)
noncomputable def F12_q3 (D J : Disp) (S301 : St) (y311 : (List Nat)) (S332 : St) (S361 : St) (K : AV → St → Prop) : Prop :=
 D 13 [(AV.one (V1.s (SV.str [105, 110, 116, 32, 97, 59, 32, 105, 110, 116, 32, 98, 59])))] S361 fun v362 S363 =>
 avT v362 fun y365 =>
 uncV y365 fun v366 y367 =>
 v1S v366 fun v369 =>
 SV.cL v369 fun y375 =>
 uncV y367 fun v376 y377 =>
 v1A v376 fun y380 =>
 req (Nat.beq (List.length y380) 2) <|
 uncK y380 fun v381 y382 =>
 SV.cI IntKind.i64 v381 fun x386 =>
 uncK y382 fun v387 y388 =>
 SV.cI IntKind.i64 v387 fun x392 =>
 endL y377 (let S393 : St := (St.add S363 (AO.cells [(SV.int IntKind.i64 (0 : Int)), (SV.int IntKind.i64 (0 : Int))] (Op2.ty 25)));
 St.wr S393 (Bk.new (St.next S363)) 0 [(SV.int IntKind.i64 x386), (SV.int IntKind.i64 x392)] fun S394 =>
 F12_q2 D J S301 y311 S332 S363 y375 S394 K)
noncomputable def F12_q4 (D J : Disp) (S301 : St) (y311 : (List Nat)) (S330 : St) (K : AV → St → Prop) : Prop :=
 D 9 [(AV.one (V1.s (SV.str [105, 110, 116, 32, 97])))] S330 fun v331 S332 =>
 avT v331 fun y334 =>
 uncV y334 fun v335 y336 =>
 v1S v335 fun v338 =>
 SV.cS v338 fun y342 =>
 uncV y336 fun v343 y344 =>
 v1A v343 fun y347 =>
 req (Nat.beq (List.length y347) 2) <|
 uncK y347 fun v348 y349 =>
 SV.cI IntKind.i64 v348 fun x353 =>
 uncK y349 fun v354 y355 =>
 SV.cI IntKind.i64 v354 fun x359 =>
 endL y344 (let S360 : St := (St.add S332 (AO.cells [(SV.int IntKind.i64 (0 : Int)), (SV.int IntKind.i64 (0 : Int))] (Op2.ty 25)));
 St.wr S360 (Bk.new (St.next S332)) 0 [(SV.int IntKind.i64 x353), (SV.int IntKind.i64 x359)] fun S361 =>
 F12_q3 D J S301 y311 S332 S361 K)
noncomputable def F12_q5 (D J : Disp) (S : St) (K : AV → St → Prop) : Prop :=
 D 9 [(AV.one (V1.s (SV.str [105, 110, 116, 32, 97, 59, 32, 105, 110, 116, 32, 109, 97, 105, 110, 40, 41, 32, 123, 32, 114, 101, 116, 117, 114, 110, 32, 97, 59, 32, 125])))] S fun v300 S301 =>
 avT v300 fun y303 =>
 uncV y303 fun v304 y305 =>
 v1S v304 fun v307 =>
 SV.cS v307 fun y311 =>
 uncV y305 fun v312 y313 =>
 v1A v312 fun y316 =>
 req (Nat.beq (List.length y316) 2) <|
 uncK y316 fun v317 y318 =>
 SV.cI IntKind.i64 v317 fun x322 =>
 uncK y318 fun v323 y324 =>
 SV.cI IntKind.i64 v323 fun x328 =>
 endL y313 (let S329 : St := (St.add S301 (AO.cells [(SV.int IntKind.i64 (0 : Int)), (SV.int IntKind.i64 (0 : Int))] (Op2.ty 25)));
 St.wr S329 (Bk.new (St.next S301)) 0 [(SV.int IntKind.i64 x322), (SV.int IntKind.i64 x328)] fun S330 =>
 F12_q4 D J S301 y311 S330 K)
noncomputable def F12_0 (D J : Disp)  (S : St) (K : AV → St → Prop) : Prop :=
 F12_q5 D J S K
noncomputable def X12_0 : X := (.op (.op (.op (.op (.op .ret)))))
theorem F12_0_eq (D J : Disp)  (S : St) (K : AV → St → Prop) : F12_0 D J  S K = execK SynP SynG Go.Proofs.Tryz.f12 (typed SynP D) J plans12 X12_0 (T12 0).1 (envOf (T12 0).2 []) S K := by kernel_rfl
noncomputable abbrev A12_0 (D J : Disp) (vals : List AV) (S : St) (K : AV → St → Prop) : Prop :=
  endL vals <| F12_0 D J  S K
theorem A12_0_ok {D J : Disp} (hD : DOK SynP SynG D) (hJ : JOK SynP SynG Go.Proofs.Tryz.f12 T12 J) {vals : List AV} {S : St} {K : AV → St → Prop} (h0 : A12_0 D J vals S K) : Runs SynP SynG Go.Proofs.Tryz.f12 (T12 0).1 (envOf (T12 0).2 vals) S K := by
  obtain ⟨rfl, h1⟩ := endL_some h0
  rw [F12_0_eq] at h1
  exact execK_runs hD.typed Syn_zero Syn_mixed hJ X12_0 (T12 0).1 (envOf (T12 0).2 _) S K (chk_of (by kernel_rfl) (by kernel_rfl)) h1
noncomputable def J12 (D : Disp) (k : Nat) : Disp := Nat.rec (motive := fun _ => Disp) Disp.no (fun _ ih => Disp.add 0 (A12_0 D ih) <| Disp.no) k
theorem J12_ok {D : Disp} (hD : DOK SynP SynG D) : ∀ k, JOK SynP SynG Go.Proofs.Tryz.f12 T12 (J12 D k)
  | 0 => JOK.no
  | k + 1 => JOK.add (ltB_ok (by kernel_rfl)) (fun vals S K h => A12_0_ok hD (J12_ok hD k) h) <| JOK.no
theorem E12_ok {D : Disp} (hD : DOK SynP SynG D) (k : Nat) {args : List AV} {S : St} {K : AV → St → Prop} (h : A12_0 D (J12 D k) args S K) : CallE SynP SynG 12 args S K := by
  have hr := A12_0_ok hD (J12_ok hD k) h
  have hl : args.length = 0 := by
    have h0 := h
    obtain ⟨rfl, h1⟩ := endL_some h0
    rfl
  refine callOK_of (fn := Go.Proofs.Tryz.f12) (c := (match Go.Proofs.Tryz.f12.body with | some c => c | none => .skip)) (by kernel_rfl) (by kernel_rfl) (by kernel_rfl) (by rw [hl]; kernel_rfl) (by kernel_rfl) ?_
  rw [hl]
  exact hr
noncomputable def plans13 (i : Nat) : Plan := if Nat.beq i 8 then [(0, []), (1, []), (2, [0]), (3, [1, 2, 0])] else []
noncomputable def T13 (p : Nat) : List Item × List Nat := bif Nat.beq p 0 then ([.code (match Go.Proofs.Tryz.f13.body with | some c => c | none => .skip)], [0]) else
  bif Nat.beq p 4 then (navs [.op, .op, .op, .op] [.code (match Go.Proofs.Tryz.f13.body with | some c => c | none => .skip)], [3, 5, 6, 14, 15, 16]) else
  ([], [])
noncomputable def F13_q6 (D J : Disp) (S : St) (S302 : St) (y314 : LV) (x325 : Int) (x331 : Int) (S332 : St) (K : AV → St → Prop) : Prop :=
 St.wr S332 (Bk.new (St.next S302)) 0 [(SV.int IntKind.i64 x325), (SV.int IntKind.i64 x331)] fun S333 =>
 let x334 : Int := (Int.ofNat (LV.len y314));
 J 4 [(AV.one (V1.s (SV.ptr (PV.mk (Bk.new (St.next S)) 0)))), (AV.one (V1.s (SV.ptr (PV.mk (Bk.new (St.next S302)) 0)))), (AV.one (V1.s (SV.sl LV.nil))), (AV.one (V1.s (SV.sl y314))), (AV.one (V1.s (SV.int IntKind.i64 x334))), (AV.one (V1.s (SV.int IntKind.i64 (0 : Int))))] S333 K
noncomputable def F13_q7 (D J : Disp) (S : St) (s0 : (List Nat)) (S300 : St) (K : AV → St → Prop) : Prop :=
 D 15 [(AV.one (V1.s (SV.str s0)))] S300 fun v301 S302 =>
 avT v301 fun y304 =>
 uncV y304 fun v305 y306 =>
 v1S v305 fun v308 =>
 SV.cL v308 fun y314 =>
 uncV y306 fun v315 y316 =>
 v1A v315 fun y319 =>
 req (Nat.beq (List.length y319) 2) <|
 uncK y319 fun v320 y321 =>
 SV.cI IntKind.i64 v320 fun x325 =>
 uncK y321 fun v326 y327 =>
 SV.cI IntKind.i64 v326 fun x331 =>
 endL y316 (let S332 : St := (St.add S302 (AO.cells [(SV.int IntKind.i64 (0 : Int)), (SV.int IntKind.i64 (0 : Int))] (Op2.ty 25)));
 F13_q6 D J S S302 y314 x325 x331 S332 K)
noncomputable def F13_0 (D J : Disp) (s0 : (List Nat)) (S : St) (K : AV → St → Prop) : Prop :=
 let S300 : St := (St.add S (AO.cells [(SV.int IntKind.i64 (0 : Int)), (SV.int IntKind.i64 (0 : Int))] (Op2.ty 25)));
 F13_q7 D J S s0 S300 K
noncomputable def X13_0 : X := (.op (.op (.op (.op (.jmp 4 [3, 5, 6, 14, 15, 16])))))
theorem F13_0_eq (D J : Disp) (s0 : (List Nat)) (S : St) (K : AV → St → Prop) : F13_0 D J s0 S K = execK SynP SynG Go.Proofs.Tryz.f13 (typed SynP D) J plans13 X13_0 (T13 0).1 (envOf (T13 0).2 [(AV.one (V1.s (SV.str s0)))]) S K := by kernel_rfl
noncomputable def F13_q8 (D J : Disp) (p3 : PV) (p5 : PV) (l6 : LV) (l14 : LV) (x15 : Int) (x16 : Int) (S381 : St) (x388 : Int) (K : AV → St → Prop) : Prop :=
 let d389 : (Sum Nat Nat) := (Sum.inl 1);
 let S390 : St := (St.add S381 (AO.cells [(SV.int IntKind.i64 x388)] Op2.sh));
 St.src S390 1 (LV.mk (Bk.new (St.next S381)) 0 1 d389) fun y391 n392 =>
 St.app S390 3 1 8 l6 y391 n392 fun y393 S394 =>
 let x395 : Int := (iwrap IntKind.i64 (x16 + (1 : Int)));
 J 4 [(AV.one (V1.s (SV.ptr p3))), (AV.one (V1.s (SV.ptr p5))), (AV.one (V1.s (SV.sl y393))), (AV.one (V1.s (SV.sl l14))), (AV.one (V1.s (SV.int IntKind.i64 x15))), (AV.one (V1.s (SV.int IntKind.i64 x395)))] S394 K
noncomputable def F13_q9 (D J : Disp) (S : St) (p3 : PV) (p5 : PV) (l6 : LV) (l14 : LV) (x15 : Int) (x16 : Int) (y313 : (List Nat)) (x319 : Int) (y326 : (List Nat)) (x332 : Int) (y339 : (List Nat)) (x345 : Int) (y349 : Bool) (y358 : LV) (y366 : PV) (y375 : LV) (y379 : Bool) (K : AV → St → Prop) : Prop :=
 let S380 : St := (St.add S (AO.cells [(SV.str []), (SV.int IntKind.i64 (0 : Int)), (SV.str []), (SV.int IntKind.i64 (0 : Int)), (SV.str []), (SV.int IntKind.u64 (0 : Int)), (SV.bool Bool.false), (SV.sl LV.nil), (SV.ptr PV.nil), (SV.sl LV.nil), (SV.bool Bool.false)] (Op2.ty 53)));
 St.wr S380 (Bk.new (St.next S)) 0 [(SV.str y313), (SV.int IntKind.i64 x319), (SV.str y326), (SV.int IntKind.i64 x332), (SV.str y339), (SV.int IntKind.u64 x345), (SV.bool y349), (SV.sl y358), (SV.ptr y366), (SV.sl y375), (SV.bool y379)] fun S381 =>
 St.at S381 (Bk.new (St.next S)) 1 fun y382 =>
 uncK y382 fun v383 y384 =>
 SV.cI IntKind.i64 v383 fun x388 =>
 F13_q8 D J p3 p5 l6 l14 x15 x16 S381 x388 K
noncomputable def F13_q10 (D J : Disp) (S : St) (p3 : PV) (p5 : PV) (l6 : LV) (l14 : LV) (x15 : Int) (x16 : Int) (b301 : Bk) (n305 : Nat) (K : AV → St → Prop) : Prop :=
 St.at S b301 n305 fun y306 =>
 uncK y306 fun v307 y308 =>
 SV.cS v307 fun y313 =>
 uncK y308 fun v314 y315 =>
 SV.cI IntKind.i64 v314 fun x319 =>
 uncK y315 fun v320 y321 =>
 SV.cS v320 fun y326 =>
 uncK y321 fun v327 y328 =>
 SV.cI IntKind.i64 v327 fun x332 =>
 uncK y328 fun v333 y334 =>
 SV.cS v333 fun y339 =>
 uncK y334 fun v340 y341 =>
 SV.cI IntKind.u64 v340 fun x345 =>
 uncK y341 fun v346 y347 =>
 SV.cB v346 fun y349 =>
 uncK y347 fun v350 y351 =>
 SV.cL v350 fun y358 =>
 uncK y351 fun v359 y360 =>
 SV.cP v359 fun y366 =>
 uncK y360 fun v367 y368 =>
 SV.cL v367 fun y375 =>
 uncK y368 fun v376 y377 =>
 SV.cB v376 fun y379 =>
 F13_q9 D J S p3 p5 l6 l14 x15 x16 y313 x319 y326 x332 y339 x345 y349 y358 y366 y375 y379 K
noncomputable def F13_q11 (D J : Disp) (S : St) (p3 : PV) (p5 : PV) (l6 : LV) (K : AV → St → Prop) : Prop :=
 PV.cs p5 fun b449 n450 =>
 St.at S b449 n450 fun y451 =>
 uncK y451 fun v452 y453 =>
 SV.cI IntKind.i64 v452 fun x457 =>
 uncK y453 fun v458 y459 =>
 SV.cI IntKind.i64 v458 fun x463 =>
 PV.cs p3 fun b464 n465 =>
 St.wr S b464 n465 [(SV.int IntKind.i64 x457), (SV.int IntKind.i64 x463)] fun S466 =>
 PV.cs p3 fun b467 n468 =>
 St.at S466 b467 n468 fun y469 =>
 uncK y469 fun v470 y471 =>
 SV.cI IntKind.i64 v470 fun x475 =>
 uncK y471 fun v476 y477 =>
 SV.cI IntKind.i64 v476 fun x481 =>
 K ((AV.tup [(V1.s (SV.sl l6)), (V1.agg [(SV.int IntKind.i64 x475), (SV.int IntKind.i64 x481)])])) S466
noncomputable def F13_4 (D J : Disp) (p3 : PV) (p5 : PV) (l6 : LV) (l14 : LV) (x15 : Int) (x16 : Int) (S : St) (K : AV → St → Prop) : Prop :=
 let c300 : Bool := (ilt x16 x15);
 ifK c300
 (LV.cs l14 fun b301 n302 n303 y304 =>
 req (Bool.and (ile (0 : Int) x16) (ilt x16 (Int.ofNat n303))) <|
 let n305 : Nat := (n302 + ((Int.toNat x16) * 11));
 F13_q10 D J S p3 p5 l6 l14 x15 x16 b301 n305 K)
 (F13_q11 D J S p3 p5 l6 K)
noncomputable def X13_4 : X := (.op (.br (.op (.op (.op (.jmp 4 [3, 5, 6, 14, 15, 16])))) (.op .ret)))
theorem F13_4_eq (D J : Disp) (p3 : PV) (p5 : PV) (l6 : LV) (l14 : LV) (x15 : Int) (x16 : Int) (S : St) (K : AV → St → Prop) : F13_4 D J p3 p5 l6 l14 x15 x16 S K = execK SynP SynG Go.Proofs.Tryz.f13 (typed SynP D) J plans13 X13_4 (T13 4).1 (envOf (T13 4).2 [(AV.one (V1.s (SV.ptr p3))), (AV.one (V1.s (SV.ptr p5))), (AV.one (V1.s (SV.sl l6))), (AV.one (V1.s (SV.sl l14))), (AV.one (V1.s (SV.int IntKind.i64 x15))), (AV.one (V1.s (SV.int IntKind.i64 x16)))]) S K := by kernel_rfl
noncomputable abbrev A13_0 (D J : Disp) (vals : List AV) (S : St) (K : AV → St → Prop) : Prop :=
  uncA vals fun a9001 r9002 => scK a9001 fun s9004 => SV.cS s9004 fun s0 => endL r9002 <| F13_0 D J s0 S K
theorem A13_0_ok {D J : Disp} (hD : DOK SynP SynG D) (hJ : JOK SynP SynG Go.Proofs.Tryz.f13 T13 J) {vals : List AV} {S : St} {K : AV → St → Prop} (h0 : A13_0 D J vals S K) : Runs SynP SynG Go.Proofs.Tryz.f13 (T13 0).1 (envOf (T13 0).2 vals) S K := by
  obtain ⟨a9001, r9002, rfl, h3⟩ := uncA_some h0
  obtain ⟨s9004, rfl, h5⟩ := scK_some h3
  obtain ⟨s0, rfl, h6⟩ := cS_some h5
  obtain ⟨rfl, h7⟩ := endL_some h6
  rw [F13_0_eq] at h7
  exact execK_runs hD.typed Syn_zero Syn_mixed hJ X13_0 (T13 0).1 (envOf (T13 0).2 _) S K (chk_of (by kernel_rfl) (by kernel_rfl)) h7
noncomputable abbrev A13_4 (D J : Disp) (vals : List AV) (S : St) (K : AV → St → Prop) : Prop :=
  uncA vals fun a9001 r9002 => scK a9001 fun s9004 => SV.cP s9004 fun p3 => uncA r9002 fun a9007 r9008 => scK a9007 fun s9010 => SV.cP s9010 fun p5 => uncA r9008 fun a9013 r9014 => scK a9013 fun s9016 => SV.cL s9016 fun l6 => uncA r9014 fun a9019 r9020 => scK a9019 fun s9022 => SV.cL s9022 fun l14 => uncA r9020 fun a9025 r9026 => scK a9025 fun s9028 => SV.cI IntKind.i64 s9028 fun x15 => uncA r9026 fun a9031 r9032 => scK a9031 fun s9034 => SV.cI IntKind.i64 s9034 fun x16 => endL r9032 <| F13_4 D J p3 p5 l6 l14 x15 x16 S K
theorem A13_4_ok {D J : Disp} (hD : DOK SynP SynG D) (hJ : JOK SynP SynG Go.Proofs.Tryz.f13 T13 J) {vals : List AV} {S : St} {K : AV → St → Prop} (h0 : A13_4 D J vals S K) : Runs SynP SynG Go.Proofs.Tryz.f13 (T13 4).1 (envOf (T13 4).2 vals) S K := by
  obtain ⟨a9001, r9002, rfl, h3⟩ := uncA_some h0
  obtain ⟨s9004, rfl, h5⟩ := scK_some h3
  obtain ⟨p3, rfl, h6⟩ := cP_some h5
  obtain ⟨a9007, r9008, rfl, h9⟩ := uncA_some h6
  obtain ⟨s9010, rfl, h11⟩ := scK_some h9
  obtain ⟨p5, rfl, h12⟩ := cP_some h11
  obtain ⟨a9013, r9014, rfl, h15⟩ := uncA_some h12
  obtain ⟨s9016, rfl, h17⟩ := scK_some h15
  obtain ⟨l6, rfl, h18⟩ := cL_some h17
  obtain ⟨a9019, r9020, rfl, h21⟩ := uncA_some h18
  obtain ⟨s9022, rfl, h23⟩ := scK_some h21
  obtain ⟨l14, rfl, h24⟩ := cL_some h23
  obtain ⟨a9025, r9026, rfl, h27⟩ := uncA_some h24
  obtain ⟨s9028, rfl, h29⟩ := scK_some h27
  obtain ⟨x15, rfl, h30⟩ := cI_some h29
  obtain ⟨a9031, r9032, rfl, h33⟩ := uncA_some h30
  obtain ⟨s9034, rfl, h35⟩ := scK_some h33
  obtain ⟨x16, rfl, h36⟩ := cI_some h35
  obtain ⟨rfl, h37⟩ := endL_some h36
  rw [F13_4_eq] at h37
  exact execK_runs hD.typed Syn_zero Syn_mixed hJ X13_4 (T13 4).1 (envOf (T13 4).2 _) S K (chk_of (by kernel_rfl) (by kernel_rfl)) h37
noncomputable def J13 (D : Disp) (k : Nat) : Disp := Nat.rec (motive := fun _ => Disp) Disp.no (fun _ ih => Disp.add 0 (A13_0 D ih) <| Disp.add 4 (A13_4 D ih) <| Disp.no) k
theorem J13_ok {D : Disp} (hD : DOK SynP SynG D) : ∀ k, JOK SynP SynG Go.Proofs.Tryz.f13 T13 (J13 D k)
  | 0 => JOK.no
  | k + 1 => JOK.add (ltB_ok (by kernel_rfl)) (fun vals S K h => A13_0_ok hD (J13_ok hD k) h) <| JOK.add (ltB_ok (by kernel_rfl)) (fun vals S K h => A13_4_ok hD (J13_ok hD k) h) <| JOK.no
theorem E13_ok {D : Disp} (hD : DOK SynP SynG D) (k : Nat) {args : List AV} {S : St} {K : AV → St → Prop} (h : A13_0 D (J13 D k) args S K) : CallE SynP SynG 13 args S K := by
  have hr := A13_0_ok hD (J13_ok hD k) h
  have hl : args.length = 1 := by
    have h0 := h
    obtain ⟨a9001, r9002, rfl, h3⟩ := uncA_some h0
    obtain ⟨s9004, rfl, h5⟩ := scK_some h3
    obtain ⟨s0, rfl, h6⟩ := cS_some h5
    obtain ⟨rfl, h7⟩ := endL_some h6
    rfl
  refine callOK_of (fn := Go.Proofs.Tryz.f13) (c := (match Go.Proofs.Tryz.f13.body with | some c => c | none => .skip)) (by kernel_rfl) (by kernel_rfl) (by kernel_rfl) (by rw [hl]; kernel_rfl) (by kernel_rfl) ?_
  rw [hl]
  exact hr
noncomputable def plans14 (i : Nat) : Plan := if Nat.beq i 6 then [(0, []), (1, []), (2, [0, 1]), (3, [2, 0, 1]), (4, []), (5, []), (6, [4, 5]), (7, [6, 4, 5]), (8, [3, 7, 2, 6, 0, 1, 4, 5])] else []
noncomputable def T14 (p : Nat) : List Item × List Nat := bif Nat.beq p 0 then ([.code (match Go.Proofs.Tryz.f14.body with | some c => c | none => .skip)], [0, 1]) else
  bif Nat.beq p 6 then (navs [.op, .op, .el, .op] [.code (match Go.Proofs.Tryz.f14.body with | some c => c | none => .skip)], [0, 1, 5]) else
  ([], [])
noncomputable def F14_0 (D J : Disp) (l0 : LV) (l1 : LV) (S : St) (K : AV → St → Prop) : Prop :=
 let x300 : Int := (Int.ofNat (LV.len l0));
 let x301 : Int := (Int.ofNat (LV.len l1));
 let c302 : Bool := (Bool.not (ieq x300 x301));
 ifK c302
 (K ((AV.one (V1.s (SV.bool Bool.false)))) S)
 (J 6 [(AV.one (V1.s (SV.sl l0))), (AV.one (V1.s (SV.sl l1))), (AV.one (V1.s (SV.int IntKind.i64 (0 : Int))))] S K)
noncomputable def X14_0 : X := (.op (.op (.br (.op .ret) (.op (.jmp 6 [0, 1, 5])))))
theorem F14_0_eq (D J : Disp) (l0 : LV) (l1 : LV) (S : St) (K : AV → St → Prop) : F14_0 D J l0 l1 S K = execK SynP SynG Go.Proofs.Tryz.f14 (typed SynP D) J plans14 X14_0 (T14 0).1 (envOf (T14 0).2 [(AV.one (V1.s (SV.sl l0))), (AV.one (V1.s (SV.sl l1)))]) S K := by kernel_rfl
noncomputable def F14_q1 (D J : Disp) (S : St) (l0 : LV) (l1 : LV) (x5 : Int) (x313 : Int) (K : AV → St → Prop) : Prop :=
 LV.cs l1 fun b314 n315 n316 y317 =>
 req (Bool.and (ile (0 : Int) x5) (ilt x5 (Int.ofNat n316))) <|
 let n318 : Nat := (n315 + ((Int.toNat x5) * 1));
 St.at S b314 n318 fun y319 =>
 uncK y319 fun v320 y321 =>
 SV.cI IntKind.i64 v320 fun x325 =>
 let c326 : Bool := (Bool.not (ieq x313 x325));
 ifK c326
 (K ((AV.one (V1.s (SV.bool Bool.false)))) S)
 (let x327 : Int := (iwrap IntKind.i64 (x5 + (1 : Int)));
 J 6 [(AV.one (V1.s (SV.sl l0))), (AV.one (V1.s (SV.sl l1))), (AV.one (V1.s (SV.int IntKind.i64 x327)))] S K)
noncomputable def F14_6 (D J : Disp) (l0 : LV) (l1 : LV) (x5 : Int) (S : St) (K : AV → St → Prop) : Prop :=
 let x300 : Int := (Int.ofNat (LV.len l0));
 let c301 : Bool := (ilt x5 x300);
 ifK c301
 (LV.cs l0 fun b302 n303 n304 y305 =>
 req (Bool.and (ile (0 : Int) x5) (ilt x5 (Int.ofNat n304))) <|
 let n306 : Nat := (n303 + ((Int.toNat x5) * 1));
 St.at S b302 n306 fun y307 =>
 uncK y307 fun v308 y309 =>
 SV.cI IntKind.i64 v308 fun x313 =>
 F14_q1 D J S l0 l1 x5 x313 K)
 (K ((AV.one (V1.s (SV.bool Bool.true)))) S)
noncomputable def X14_6 : X := (.op (.br (.op (.br (.op .ret) (.op (.jmp 6 [0, 1, 5])))) (.op .ret)))
theorem F14_6_eq (D J : Disp) (l0 : LV) (l1 : LV) (x5 : Int) (S : St) (K : AV → St → Prop) : F14_6 D J l0 l1 x5 S K = execK SynP SynG Go.Proofs.Tryz.f14 (typed SynP D) J plans14 X14_6 (T14 6).1 (envOf (T14 6).2 [(AV.one (V1.s (SV.sl l0))), (AV.one (V1.s (SV.sl l1))), (AV.one (V1.s (SV.int IntKind.i64 x5)))]) S K := by kernel_rfl
noncomputable abbrev A14_0 (D J : Disp) (vals : List AV) (S : St) (K : AV → St → Prop) : Prop :=
  uncA vals fun a9001 r9002 => scK a9001 fun s9004 => SV.cL s9004 fun l0 => uncA r9002 fun a9007 r9008 => scK a9007 fun s9010 => SV.cL s9010 fun l1 => endL r9008 <| F14_0 D J l0 l1 S K
theorem A14_0_ok {D J : Disp} (hD : DOK SynP SynG D) (hJ : JOK SynP SynG Go.Proofs.Tryz.f14 T14 J) {vals : List AV} {S : St} {K : AV → St → Prop} (h0 : A14_0 D J vals S K) : Runs SynP SynG Go.Proofs.Tryz.f14 (T14 0).1 (envOf (T14 0).2 vals) S K := by
  obtain ⟨a9001, r9002, rfl, h3⟩ := uncA_some h0
  obtain ⟨s9004, rfl, h5⟩ := scK_some h3
  obtain ⟨l0, rfl, h6⟩ := cL_some h5
  obtain ⟨a9007, r9008, rfl, h9⟩ := uncA_some h6
  obtain ⟨s9010, rfl, h11⟩ := scK_some h9
  obtain ⟨l1, rfl, h12⟩ := cL_some h11
  obtain ⟨rfl, h13⟩ := endL_some h12
  rw [F14_0_eq] at h13
  exact execK_runs hD.typed Syn_zero Syn_mixed hJ X14_0 (T14 0).1 (envOf (T14 0).2 _) S K (chk_of (by kernel_rfl) (by kernel_rfl)) h13
noncomputable abbrev A14_6 (D J : Disp) (vals : List AV) (S : St) (K : AV → St → Prop) : Prop :=
  uncA vals fun a9001 r9002 => scK a9001 fun s9004 => SV.cL s9004 fun l0 => uncA r9002 fun a9007 r9008 => scK a9007 fun s9010 => SV.cL s9010 fun l1 => uncA r9008 fun a9013 r9014 => scK a9013 fun s9016 => SV.cI IntKind.i64 s9016 fun x5 => endL r9014 <| F14_6 D J l0 l1 x5 S K
theorem A14_6_ok {D J : Disp} (hD : DOK SynP SynG D) (hJ : JOK SynP SynG Go.Proofs.Tryz.f14 T14 J) {vals : List AV} {S : St} {K : AV → St → Prop} (h0 : A14_6 D J vals S K) : Runs SynP SynG Go.Proofs.Tryz.f14 (T14 6).1 (envOf (T14 6).2 vals) S K := by
  obtain ⟨a9001, r9002, rfl, h3⟩ := uncA_some h0
  obtain ⟨s9004, rfl, h5⟩ := scK_some h3
  obtain ⟨l0, rfl, h6⟩ := cL_some h5
  obtain ⟨a9007, r9008, rfl, h9⟩ := uncA_some h6
  obtain ⟨s9010, rfl, h11⟩ := scK_some h9
  obtain ⟨l1, rfl, h12⟩ := cL_some h11
  obtain ⟨a9013, r9014, rfl, h15⟩ := uncA_some h12
  obtain ⟨s9016, rfl, h17⟩ := scK_some h15
  obtain ⟨x5, rfl, h18⟩ := cI_some h17
  obtain ⟨rfl, h19⟩ := endL_some h18
  rw [F14_6_eq] at h19
  exact execK_runs hD.typed Syn_zero Syn_mixed hJ X14_6 (T14 6).1 (envOf (T14 6).2 _) S K (chk_of (by kernel_rfl) (by kernel_rfl)) h19
noncomputable def J14 (D : Disp) (k : Nat) : Disp := Nat.rec (motive := fun _ => Disp) Disp.no (fun _ ih => Disp.add 0 (A14_0 D ih) <| Disp.add 6 (A14_6 D ih) <| Disp.no) k
theorem J14_ok {D : Disp} (hD : DOK SynP SynG D) : ∀ k, JOK SynP SynG Go.Proofs.Tryz.f14 T14 (J14 D k)
  | 0 => JOK.no
  | k + 1 => JOK.add (ltB_ok (by kernel_rfl)) (fun vals S K h => A14_0_ok hD (J14_ok hD k) h) <| JOK.add (ltB_ok (by kernel_rfl)) (fun vals S K h => A14_6_ok hD (J14_ok hD k) h) <| JOK.no
theorem E14_ok {D : Disp} (hD : DOK SynP SynG D) (k : Nat) {args : List AV} {S : St} {K : AV → St → Prop} (h : A14_0 D (J14 D k) args S K) : CallE SynP SynG 14 args S K := by
  have hr := A14_0_ok hD (J14_ok hD k) h
  have hl : args.length = 2 := by
    have h0 := h
    obtain ⟨a9001, r9002, rfl, h3⟩ := uncA_some h0
    obtain ⟨s9004, rfl, h5⟩ := scK_some h3
    obtain ⟨l0, rfl, h6⟩ := cL_some h5
    obtain ⟨a9007, r9008, rfl, h9⟩ := uncA_some h6
    obtain ⟨s9010, rfl, h11⟩ := scK_some h9
    obtain ⟨l1, rfl, h12⟩ := cL_some h11
    obtain ⟨rfl, h13⟩ := endL_some h12
    rfl
  refine callOK_of (fn := Go.Proofs.Tryz.f14) (c := (match Go.Proofs.Tryz.f14.body with | some c => c | none => .skip)) (by kernel_rfl) (by kernel_rfl) (by kernel_rfl) (by rw [hl]; kernel_rfl) (by kernel_rfl) ?_
  rw [hl]
  exact hr
noncomputable def plans15 (i : Nat) : Plan := if Nat.beq i 3 then [(0, []), (1, []), (2, [0, 1])] else if Nat.beq i 6 then [(0, []), (1, [0]), (2, [1, 0]), (3, [2, 1, 0]), (4, [3, 2, 1, 0]), (5, [4, 2, 3, 1, 0]), (6, [5, 2, 4, 1, 3, 0]), (7, [2, 1, 0]), (8, [7, 2, 1, 0]), (9, [8, 2, 7, 1, 0]), (10, [9, 2, 8, 1, 7, 0]), (11, [10, 2, 9, 1, 8, 0, 7]), (12, [6, 11, 2, 5, 10, 1, 4, 9, 0, 3, 8, 7]), (13, [2, 12, 1, 6, 11, 0, 5, 10, 4, 9, 3, 8, 7])] else if Nat.beq i 9 then [(0, []), (1, [0]), (2, [1, 0]), (3, [2, 1, 0]), (4, []), (5, [3, 4, 0, 1, 2])] else []
noncomputable def T15 (p : Nat) : List Item × List Nat := bif Nat.beq p 0 then ([.code (match Go.Proofs.Tryz.f15.body with | some c => c | none => .skip)], [0]) else
  bif Nat.beq p 8 then (navs [.op, .op, .op, .el, .op, .op] [.code (match Go.Proofs.Tryz.f15.body with | some c => c | none => .skip)], [3, 6, 7]) else
  bif Nat.beq p 9 then (navs [.op, .op, .op, .el, .op, .op, .op] [.code (match Go.Proofs.Tryz.f15.body with | some c => c | none => .skip)], [3, 6, 7, 36]) else
  ([], [])
noncomputable def F15_q10 (D J : Disp) (S : St) (S302 : St) (S333 : St) (K : AV → St → Prop) : Prop :=
 St.at S333 (Bk.new (St.next S302)) 0 fun y342 =>
 uncK y342 fun v343 y344 =>
 SV.cI IntKind.i64 v343 fun x348 =>
 uncK y344 fun v349 y350 =>
 SV.cI IntKind.i64 v349 fun x354 =>
 St.wr S333 (Bk.new (St.next S)) 0 [(SV.int IntKind.i64 x348), (SV.int IntKind.i64 x354)] fun S355 =>
 St.at S355 (Bk.new (St.next S)) 0 fun y356 =>
 uncK y356 fun v357 y358 =>
 SV.cI IntKind.i64 v357 fun x362 =>
 uncK y358 fun v363 y364 =>
 SV.cI IntKind.i64 v363 fun x368 =>
 K ((AV.tup [(V1.s (SV.sl LV.nil)), (V1.agg [(SV.int IntKind.i64 x362), (SV.int IntKind.i64 x368)])])) S355
noncomputable def F15_q11 (D J : Disp) (S : St) (y314 : LV) (S333 : St) (x389 : Int) (K : AV → St → Prop) : Prop :=
 let S390 : St := (St.add S333 (AO.map [] 0));
 let S391 : St := (St.add S390 (AO.cells [(SV.sl y314), (SV.int IntKind.i64 (0 : Int)), (SV.int IntKind.i64 x389), (SV.map (MV.mk (Bk.new (St.next S333)))), (SV.int IntKind.i64 (0 : Int)), (SV.int IntKind.i64 (0 : Int))] (Op2.ty 60)));
 J 8 [(AV.one (V1.s (SV.ptr (PV.mk (Bk.new (St.next S)) 0)))), (AV.one (V1.s (SV.ptr (PV.mk (Bk.new (St.next S390)) 0)))), (AV.one (V1.s (SV.sl LV.nil)))] S391 K
noncomputable def F15_q12 (D J : Disp) (S : St) (s0 : (List Nat)) (S302 : St) (y314 : LV) (x325 : Int) (x331 : Int) (K : AV → St → Prop) : Prop :=
 let S332 : St := (St.add S302 (AO.cells [(SV.int IntKind.i64 (0 : Int)), (SV.int IntKind.i64 (0 : Int))] (Op2.ty 25)));
 St.wr S332 (Bk.new (St.next S302)) 0 [(SV.int IntKind.i64 x325), (SV.int IntKind.i64 x331)] fun S333 =>
 St.at S333 (Bk.new (St.next S302)) 0 fun y334 =>
 uncK y334 fun v335 y336 =>
 SV.cI IntKind.i64 v335 fun x340 =>
 let c341 : Bool := (Bool.not (ieq x340 (0 : Int)));
 ifK c341
 (F15_q10 D J S S302 S333 K)
 (let x389 : Int := (Int.ofNat (List.length s0));
 F15_q11 D J S y314 S333 x389 K)
noncomputable def F15_q13 (D J : Disp) (S : St) (s0 : (List Nat)) (K : AV → St → Prop) : Prop :=
 let S300 : St := (St.add S (AO.cells [(SV.int IntKind.i64 (0 : Int)), (SV.int IntKind.i64 (0 : Int))] (Op2.ty 25)));
 D 17 [(AV.one (V1.s (SV.str s0)))] S300 fun v301 S302 =>
 avT v301 fun y304 =>
 uncV y304 fun v305 y306 =>
 v1S v305 fun v308 =>
 SV.cL v308 fun y314 =>
 uncV y306 fun v315 y316 =>
 v1A v315 fun y319 =>
 req (Nat.beq (List.length y319) 2) <|
 uncK y319 fun v320 y321 =>
 SV.cI IntKind.i64 v320 fun x325 =>
 uncK y321 fun v326 y327 =>
 SV.cI IntKind.i64 v326 fun x331 =>
 endL y316 (F15_q12 D J S s0 S302 y314 x325 x331 K)
noncomputable def F15_0 (D J : Disp) (s0 : (List Nat)) (S : St) (K : AV → St → Prop) : Prop :=
 F15_q13 D J S s0 K
noncomputable def X15_0 : X := (.op (.op (.op (.br (.op .ret) (.op (.op (.jmp 8 [3, 6, 7])))))))
theorem F15_0_eq (D J : Disp) (s0 : (List Nat)) (S : St) (K : AV → St → Prop) : F15_0 D J s0 S K = execK SynP SynG Go.Proofs.Tryz.f15 (typed SynP D) J plans15 X15_0 (T15 0).1 (envOf (T15 0).2 [(AV.one (V1.s (SV.str s0)))]) S K := by kernel_rfl
noncomputable def F15_q14 (D J : Disp) (p3 : PV) (p6 : PV) (l7 : LV) (S301 : St) (b305 : Bk) (n307 : Nat) (K : AV → St → Prop) : Prop :=
 St.at S301 b305 n307 fun y308 =>
 uncK y308 fun v309 y310 =>
 SV.cI IntKind.i64 v309 fun x314 =>
 PV.cs p6 fun b315 n316 =>
 let n317 : Nat := (n316 + 0);
 St.at S301 b315 n317 fun y318 =>
 uncK y318 fun v319 y320 =>
 SV.cL v319 fun y327 =>
 let x328 : Int := (Int.ofNat (LV.len y327));
 let c329 : Bool := (ilt x314 x328);
 J 9 [(AV.one (V1.s (SV.ptr p3))), (AV.one (V1.s (SV.ptr p6))), (AV.one (V1.s (SV.sl l7))), (AV.one (V1.s (SV.bool c329)))] S301 K
noncomputable def F15_8 (D J : Disp) (p3 : PV) (p6 : PV) (l7 : LV) (S : St) (K : AV → St → Prop) : Prop :=
 D 18 [(AV.one (V1.s (SV.ptr p6)))] S fun v300 S301 =>
 scK v300 fun v303 =>
 SV.cB v303 fun y304 =>
 ifK y304
 (PV.cs p6 fun b305 n306 =>
 let n307 : Nat := (n306 + 1);
 F15_q14 D J p3 p6 l7 S301 b305 n307 K)
 (J 9 [(AV.one (V1.s (SV.ptr p3))), (AV.one (V1.s (SV.ptr p6))), (AV.one (V1.s (SV.sl l7))), (AV.one (V1.s (SV.bool Bool.false)))] S301 K)
noncomputable def X15_8 : X := (.op (.jmp 9 [3, 6, 7, 36]))
theorem F15_8_eq (D J : Disp) (p3 : PV) (p6 : PV) (l7 : LV) (S : St) (K : AV → St → Prop) : F15_8 D J p3 p6 l7 S K = execK SynP SynG Go.Proofs.Tryz.f15 (typed SynP D) J plans15 X15_8 (T15 8).1 (envOf (T15 8).2 [(AV.one (V1.s (SV.ptr p3))), (AV.one (V1.s (SV.ptr p6))), (AV.one (V1.s (SV.sl l7)))]) S K := by kernel_rfl
noncomputable def F15_q15 (D J : Disp) (p3 : PV) (p6 : PV) (l7 : LV) (S301 : St) (y311 : (List Nat)) (x317 : Int) (y324 : (List Nat)) (x330 : Int) (y337 : (List Nat)) (x343 : Int) (y347 : Bool) (y356 : LV) (y364 : PV) (y373 : LV) (y377 : Bool) (K : AV → St → Prop) : Prop :=
 let d378 : (Sum Nat Nat) := (Sum.inl 1);
 let S379 : St := (St.add S301 (AO.cells [(SV.str y311), (SV.int IntKind.i64 x317), (SV.str y324), (SV.int IntKind.i64 x330), (SV.str y337), (SV.int IntKind.u64 x343), (SV.bool y347), (SV.sl y356), (SV.ptr y364), (SV.sl y373), (SV.bool y377)] Op2.sh));
 St.src S379 11 (LV.mk (Bk.new (St.next S301)) 0 1 d378) fun y380 n381 =>
 St.app S379 53 11 144 l7 y380 n381 fun y382 S383 =>
 J 8 [(AV.one (V1.s (SV.ptr p3))), (AV.one (V1.s (SV.ptr p6))), (AV.one (V1.s (SV.sl y382)))] S383 K
noncomputable def F15_q16 (D J : Disp) (S : St) (p3 : PV) (p6 : PV) (l7 : LV) (K : AV → St → Prop) : Prop :=
 D 19 [(AV.one (V1.s (SV.ptr p6)))] S fun v300 S301 =>
 avA v300 fun y304 =>
 req (Nat.beq (List.length y304) 11) <|
 uncK y304 fun v305 y306 =>
 SV.cS v305 fun y311 =>
 uncK y306 fun v312 y313 =>
 SV.cI IntKind.i64 v312 fun x317 =>
 uncK y313 fun v318 y319 =>
 SV.cS v318 fun y324 =>
 uncK y319 fun v325 y326 =>
 SV.cI IntKind.i64 v325 fun x330 =>
 uncK y326 fun v331 y332 =>
 SV.cS v331 fun y337 =>
 uncK y332 fun v338 y339 =>
 SV.cI IntKind.u64 v338 fun x343 =>
 uncK y339 fun v344 y345 =>
 SV.cB v344 fun y347 =>
 uncK y345 fun v348 y349 =>
 SV.cL v348 fun y356 =>
 uncK y349 fun v357 y358 =>
 SV.cP v357 fun y364 =>
 uncK y358 fun v365 y366 =>
 SV.cL v365 fun y373 =>
 uncK y366 fun v374 y375 =>
 SV.cB v374 fun y377 =>
 F15_q15 D J p3 p6 l7 S301 y311 x317 y324 x330 y337 x343 y347 y356 y364 y373 y377 K
noncomputable def F15_q17 (D J : Disp) (p3 : PV) (S434 : St) (b439 : Bk) (n441 : Nat) (K : AV → St → Prop) : Prop :=
 St.at S434 b439 n441 fun y442 =>
 uncK y442 fun v443 y444 =>
 SV.cI IntKind.i64 v443 fun x448 =>
 uncK y444 fun v449 y450 =>
 SV.cI IntKind.i64 v449 fun x454 =>
 PV.cs p3 fun b455 n456 =>
 St.wr S434 b455 n456 [(SV.int IntKind.i64 x448), (SV.int IntKind.i64 x454)] fun S457 =>
 PV.cs p3 fun b458 n459 =>
 St.at S457 b458 n459 fun y460 =>
 uncK y460 fun v461 y462 =>
 SV.cI IntKind.i64 v461 fun x466 =>
 uncK y462 fun v467 y468 =>
 SV.cI IntKind.i64 v467 fun x472 =>
 K ((AV.tup [(V1.s (SV.sl LV.nil)), (V1.agg [(SV.int IntKind.i64 x466), (SV.int IntKind.i64 x472)])])) S457
noncomputable def F15_q18 (D J : Disp) (p3 : PV) (l7 : LV) (S502 : St) (c508 : Bool) (K : AV → St → Prop) : Prop :=
 ifK c508
 (PV.cs p3 fun b509 n510 =>
 St.wr S502 b509 n510 [(SV.int IntKind.i64 (5 : Int)), (SV.int IntKind.i64 (0 : Int))] fun S511 =>
 PV.cs p3 fun b512 n513 =>
 St.at S511 b512 n513 fun y514 =>
 uncK y514 fun v515 y516 =>
 SV.cI IntKind.i64 v515 fun x520 =>
 uncK y516 fun v521 y522 =>
 SV.cI IntKind.i64 v521 fun x526 =>
 K ((AV.tup [(V1.s (SV.sl LV.nil)), (V1.agg [(SV.int IntKind.i64 x520), (SV.int IntKind.i64 x526)])])) S511)
 (PV.cs p3 fun b537 n538 =>
 St.wr S502 b537 n538 [(SV.int IntKind.i64 (0 : Int)), (SV.int IntKind.i64 (0 : Int))] fun S539 =>
 PV.cs p3 fun b540 n541 =>
 St.at S539 b540 n541 fun y542 =>
 uncK y542 fun v543 y544 =>
 SV.cI IntKind.i64 v543 fun x548 =>
 uncK y544 fun v549 y550 =>
 SV.cI IntKind.i64 v549 fun x554 =>
 K ((AV.tup [(V1.s (SV.sl l7)), (V1.agg [(SV.int IntKind.i64 x548), (SV.int IntKind.i64 x554)])])) S539)
noncomputable def F15_q19 (D J : Disp) (p3 : PV) (p6 : PV) (l7 : LV) (S434 : St) (c438 : Bool) (K : AV → St → Prop) : Prop :=
 ifK c438
 (PV.cs p6 fun b439 n440 =>
 let n441 : Nat := (n440 + 4);
 F15_q17 D J p3 S434 b439 n441 K)
 (D 16 [(AV.one (V1.s (SV.sl l7)))] S434 fun v493 S494 =>
 scK v493 fun v496 =>
 SV.cS v496 fun y500 =>
 D 20 [(AV.one (V1.s (SV.str y500)))] S494 fun v501 S502 =>
 scK v501 fun v504 =>
 SV.cI IntKind.i64 v504 fun x507 =>
 let c508 : Bool := (ilt (40 : Int) x507);
 F15_q18 D J p3 l7 S502 c508 K)
noncomputable def F15_9 (D J : Disp) (p3 : PV) (p6 : PV) (l7 : LV) (c36 : Bool) (S : St) (K : AV → St → Prop) : Prop :=
 ifK c36
 (F15_q16 D J S p3 p6 l7 K)
 (D 18 [(AV.one (V1.s (SV.ptr p6)))] S fun v433 S434 =>
 scK v433 fun v436 =>
 SV.cB v436 fun y437 =>
 let c438 : Bool := (Bool.not y437);
 F15_q19 D J p3 p6 l7 S434 c438 K)
noncomputable def X15_9 : X := (.br (.op (.jmp 8 [3, 6, 7])) (.op (.br (.op .ret) (.op (.br (.op .ret) (.op .ret))))))
theorem F15_9_eq (D J : Disp) (p3 : PV) (p6 : PV) (l7 : LV) (c36 : Bool) (S : St) (K : AV → St → Prop) : F15_9 D J p3 p6 l7 c36 S K = execK SynP SynG Go.Proofs.Tryz.f15 (typed SynP D) J plans15 X15_9 (T15 9).1 (envOf (T15 9).2 [(AV.one (V1.s (SV.ptr p3))), (AV.one (V1.s (SV.ptr p6))), (AV.one (V1.s (SV.sl l7))), (AV.one (V1.s (SV.bool c36)))]) S K := by kernel_rfl
noncomputable abbrev A15_0 (D J : Disp) (vals : List AV) (S : St) (K : AV → St → Prop) : Prop :=
  uncA vals fun a9001 r9002 => scK a9001 fun s9004 => SV.cS s9004 fun s0 => endL r9002 <| F15_0 D J s0 S K
theorem A15_0_ok {D J : Disp} (hD : DOK SynP SynG D) (hJ : JOK SynP SynG Go.Proofs.Tryz.f15 T15 J) {vals : List AV} {S : St} {K : AV → St → Prop} (h0 : A15_0 D J vals S K) : Runs SynP SynG Go.Proofs.Tryz.f15 (T15 0).1 (envOf (T15 0).2 vals) S K := by
  obtain ⟨a9001, r9002, rfl, h3⟩ := uncA_some h0
  obtain ⟨s9004, rfl, h5⟩ := scK_some h3
  obtain ⟨s0, rfl, h6⟩ := cS_some h5
  obtain ⟨rfl, h7⟩ := endL_some h6
  rw [F15_0_eq] at h7
  exact execK_runs hD.typed Syn_zero Syn_mixed hJ X15_0 (T15 0).1 (envOf (T15 0).2 _) S K (chk_of (by kernel_rfl) (by kernel_rfl)) h7
noncomputable abbrev A15_8 (D J : Disp) (vals : List AV) (S : St) (K : AV → St → Prop) : Prop :=
  uncA vals fun a9001 r9002 => scK a9001 fun s9004 => SV.cP s9004 fun p3 => uncA r9002 fun a9007 r9008 => scK a9007 fun s9010 => SV.cP s9010 fun p6 => uncA r9008 fun a9013 r9014 => scK a9013 fun s9016 => SV.cL s9016 fun l7 => endL r9014 <| F15_8 D J p3 p6 l7 S K
theorem A15_8_ok {D J : Disp} (hD : DOK SynP SynG D) (hJ : JOK SynP SynG Go.Proofs.Tryz.f15 T15 J) {vals : List AV} {S : St} {K : AV → St → Prop} (h0 : A15_8 D J vals S K) : Runs SynP SynG Go.Proofs.Tryz.f15 (T15 8).1 (envOf (T15 8).2 vals) S K := by
  obtain ⟨a9001, r9002, rfl, h3⟩ := uncA_some h0
  obtain ⟨s9004, rfl, h5⟩ := scK_some h3
  obtain ⟨p3, rfl, h6⟩ := cP_some h5
  obtain ⟨a9007, r9008, rfl, h9⟩ := uncA_some h6
  obtain ⟨s9010, rfl, h11⟩ := scK_some h9
  obtain ⟨p6, rfl, h12⟩ := cP_some h11
  obtain ⟨a9013, r9014, rfl, h15⟩ := uncA_some h12
  obtain ⟨s9016, rfl, h17⟩ := scK_some h15
  obtain ⟨l7, rfl, h18⟩ := cL_some h17
  obtain ⟨rfl, h19⟩ := endL_some h18
  rw [F15_8_eq] at h19
  exact execK_runs hD.typed Syn_zero Syn_mixed hJ X15_8 (T15 8).1 (envOf (T15 8).2 _) S K (chk_of (by kernel_rfl) (by kernel_rfl)) h19
noncomputable abbrev A15_9 (D J : Disp) (vals : List AV) (S : St) (K : AV → St → Prop) : Prop :=
  uncA vals fun a9001 r9002 => scK a9001 fun s9004 => SV.cP s9004 fun p3 => uncA r9002 fun a9007 r9008 => scK a9007 fun s9010 => SV.cP s9010 fun p6 => uncA r9008 fun a9013 r9014 => scK a9013 fun s9016 => SV.cL s9016 fun l7 => uncA r9014 fun a9019 r9020 => scK a9019 fun s9022 => SV.cB s9022 fun c36 => endL r9020 <| F15_9 D J p3 p6 l7 c36 S K
theorem A15_9_ok {D J : Disp} (hD : DOK SynP SynG D) (hJ : JOK SynP SynG Go.Proofs.Tryz.f15 T15 J) {vals : List AV} {S : St} {K : AV → St → Prop} (h0 : A15_9 D J vals S K) : Runs SynP SynG Go.Proofs.Tryz.f15 (T15 9).1 (envOf (T15 9).2 vals) S K := by
  obtain ⟨a9001, r9002, rfl, h3⟩ := uncA_some h0
  obtain ⟨s9004, rfl, h5⟩ := scK_some h3
  obtain ⟨p3, rfl, h6⟩ := cP_some h5
  obtain ⟨a9007, r9008, rfl, h9⟩ := uncA_some h6
  obtain ⟨s9010, rfl, h11⟩ := scK_some h9
  obtain ⟨p6, rfl, h12⟩ := cP_some h11
  obtain ⟨a9013, r9014, rfl, h15⟩ := uncA_some h12
  obtain ⟨s9016, rfl, h17⟩ := scK_some h15
  obtain ⟨l7, rfl, h18⟩ := cL_some h17
  obtain ⟨a9019, r9020, rfl, h21⟩ := uncA_some h18
  obtain ⟨s9022, rfl, h23⟩ := scK_some h21
  obtain ⟨c36, rfl, h24⟩ := cB_some h23
  obtain ⟨rfl, h25⟩ := endL_some h24
  rw [F15_9_eq] at h25
  exact execK_runs hD.typed Syn_zero Syn_mixed hJ X15_9 (T15 9).1 (envOf (T15 9).2 _) S K (chk_of (by kernel_rfl) (by kernel_rfl)) h25
noncomputable def J15 (D : Disp) (k : Nat) : Disp := Nat.rec (motive := fun _ => Disp) Disp.no (fun _ ih => Disp.add 0 (A15_0 D ih) <| Disp.add 8 (A15_8 D ih) <| Disp.add 9 (A15_9 D ih) <| Disp.no) k
theorem J15_ok {D : Disp} (hD : DOK SynP SynG D) : ∀ k, JOK SynP SynG Go.Proofs.Tryz.f15 T15 (J15 D k)
  | 0 => JOK.no
  | k + 1 => JOK.add (ltB_ok (by kernel_rfl)) (fun vals S K h => A15_0_ok hD (J15_ok hD k) h) <| JOK.add (ltB_ok (by kernel_rfl)) (fun vals S K h => A15_8_ok hD (J15_ok hD k) h) <| JOK.add (ltB_ok (by kernel_rfl)) (fun vals S K h => A15_9_ok hD (J15_ok hD k) h) <| JOK.no
theorem E15_ok {D : Disp} (hD : DOK SynP SynG D) (k : Nat) {args : List AV} {S : St} {K : AV → St → Prop} (h : A15_0 D (J15 D k) args S K) : CallE SynP SynG 15 args S K := by
  have hr := A15_0_ok hD (J15_ok hD k) h
  have hl : args.length = 1 := by
    have h0 := h
    obtain ⟨a9001, r9002, rfl, h3⟩ := uncA_some h0
    obtain ⟨s9004, rfl, h5⟩ := scK_some h3
    obtain ⟨s0, rfl, h6⟩ := cS_some h5
    obtain ⟨rfl, h7⟩ := endL_some h6
    rfl
  refine callOK_of (fn := Go.Proofs.Tryz.f15) (c := (match Go.Proofs.Tryz.f15.body with | some c => c | none => .skip)) (by kernel_rfl) (by kernel_rfl) (by kernel_rfl) (by rw [hl]; kernel_rfl) (by kernel_rfl) ?_
  rw [hl]
  exact hr
noncomputable def plans16 (i : Nat) : Plan := []
noncomputable def T16 (p : Nat) : List Item × List Nat := bif Nat.beq p 0 then ([.code (match Go.Proofs.Tryz.f16.body with | some c => c | none => .skip)], [0]) else
  bif Nat.beq p 3 then (navs [.op, .op, .op] [.code (match Go.Proofs.Tryz.f16.body with | some c => c | none => .skip)], [3, 8, 9, 10]) else
  ([], [])
noncomputable def F16_0 (D J : Disp) (l0 : LV) (S : St) (K : AV → St → Prop) : Prop :=
 let S300 : St := (St.add S (AO.cells [(SV.ptr PV.nil), (SV.sl LV.nil)] (Op2.ty 68)));
 let x301 : Int := (Int.ofNat (LV.len l0));
 J 3 [(AV.one (V1.s (SV.ptr (PV.mk (Bk.new (St.next S)) 0)))), (AV.one (V1.s (SV.sl l0))), (AV.one (V1.s (SV.int IntKind.i64 x301))), (AV.one (V1.s (SV.int IntKind.i64 (0 : Int))))] S300 K
noncomputable def X16_0 : X := (.op (.op (.op (.jmp 3 [3, 8, 9, 10]))))
theorem F16_0_eq (D J : Disp) (l0 : LV) (S : St) (K : AV → St → Prop) : F16_0 D J l0 S K = execK SynP SynG Go.Proofs.Tryz.f16 (typed SynP D) J plans16 X16_0 (T16 0).1 (envOf (T16 0).2 [(AV.one (V1.s (SV.sl l0)))]) S K := by kernel_rfl
noncomputable def F16_q5 (D J : Disp) (p3 : PV) (l8 : LV) (x9 : Int) (x10 : Int) (S381 : St) (y389 : (List Nat)) (x395 : Int) (y402 : (List Nat)) (x408 : Int) (y415 : (List Nat)) (x421 : Int) (y425 : Bool) (y434 : LV) (y442 : PV) (y451 : LV) (y455 : Bool) (K : AV → St → Prop) : Prop :=
 D 21 [(AV.one (V1.s (SV.ptr p3))), (AV.one (V1.agg [(SV.str y389), (SV.int IntKind.i64 x395), (SV.str y402), (SV.int IntKind.i64 x408), (SV.str y415), (SV.int IntKind.u64 x421), (SV.bool y425), (SV.sl y434), (SV.ptr y442), (SV.sl y451), (SV.bool y455)]))] S381 fun v456 S457 =>
 avT v456 fun y459 =>
 endL y459 (let x460 : Int := (iwrap IntKind.i64 (x10 + (1 : Int)));
 J 3 [(AV.one (V1.s (SV.ptr p3))), (AV.one (V1.s (SV.sl l8))), (AV.one (V1.s (SV.int IntKind.i64 x9))), (AV.one (V1.s (SV.int IntKind.i64 x460)))] S457 K)
noncomputable def F16_q6 (D J : Disp) (S : St) (p3 : PV) (l8 : LV) (x9 : Int) (x10 : Int) (S381 : St) (K : AV → St → Prop) : Prop :=
 St.at S381 (Bk.new (St.next S)) 0 fun y382 =>
 uncK y382 fun v383 y384 =>
 SV.cS v383 fun y389 =>
 uncK y384 fun v390 y391 =>
 SV.cI IntKind.i64 v390 fun x395 =>
 uncK y391 fun v396 y397 =>
 SV.cS v396 fun y402 =>
 uncK y397 fun v403 y404 =>
 SV.cI IntKind.i64 v403 fun x408 =>
 uncK y404 fun v409 y410 =>
 SV.cS v409 fun y415 =>
 uncK y410 fun v416 y417 =>
 SV.cI IntKind.u64 v416 fun x421 =>
 uncK y417 fun v422 y423 =>
 SV.cB v422 fun y425 =>
 uncK y423 fun v426 y427 =>
 SV.cL v426 fun y434 =>
 uncK y427 fun v435 y436 =>
 SV.cP v435 fun y442 =>
 uncK y436 fun v443 y444 =>
 SV.cL v443 fun y451 =>
 uncK y444 fun v452 y453 =>
 SV.cB v452 fun y455 =>
 F16_q5 D J p3 l8 x9 x10 S381 y389 x395 y402 x408 y415 x421 y425 y434 y442 y451 y455 K
noncomputable def F16_q7 (D J : Disp) (S : St) (p3 : PV) (l8 : LV) (x9 : Int) (x10 : Int) (y313 : (List Nat)) (x319 : Int) (y326 : (List Nat)) (x332 : Int) (y339 : (List Nat)) (x345 : Int) (y349 : Bool) (y358 : LV) (y366 : PV) (y375 : LV) (y379 : Bool) (K : AV → St → Prop) : Prop :=
 let S380 : St := (St.add S (AO.cells [(SV.str []), (SV.int IntKind.i64 (0 : Int)), (SV.str []), (SV.int IntKind.i64 (0 : Int)), (SV.str []), (SV.int IntKind.u64 (0 : Int)), (SV.bool Bool.false), (SV.sl LV.nil), (SV.ptr PV.nil), (SV.sl LV.nil), (SV.bool Bool.false)] (Op2.ty 53)));
 St.wr S380 (Bk.new (St.next S)) 0 [(SV.str y313), (SV.int IntKind.i64 x319), (SV.str y326), (SV.int IntKind.i64 x332), (SV.str y339), (SV.int IntKind.u64 x345), (SV.bool y349), (SV.sl y358), (SV.ptr y366), (SV.sl y375), (SV.bool y379)] fun S381 =>
 F16_q6 D J S p3 l8 x9 x10 S381 K
noncomputable def F16_q8 (D J : Disp) (S : St) (p3 : PV) (l8 : LV) (x9 : Int) (x10 : Int) (b301 : Bk) (n305 : Nat) (K : AV → St → Prop) : Prop :=
 St.at S b301 n305 fun y306 =>
 uncK y306 fun v307 y308 =>
 SV.cS v307 fun y313 =>
 uncK y308 fun v314 y315 =>
 SV.cI IntKind.i64 v314 fun x319 =>
 uncK y315 fun v320 y321 =>
 SV.cS v320 fun y326 =>
 uncK y321 fun v327 y328 =>
 SV.cI IntKind.i64 v327 fun x332 =>
 uncK y328 fun v333 y334 =>
 SV.cS v333 fun y339 =>
 uncK y334 fun v340 y341 =>
 SV.cI IntKind.u64 v340 fun x345 =>
 uncK y341 fun v346 y347 =>
 SV.cB v346 fun y349 =>
 uncK y347 fun v350 y351 =>
 SV.cL v350 fun y358 =>
 uncK y351 fun v359 y360 =>
 SV.cP v359 fun y366 =>
 uncK y360 fun v367 y368 =>
 SV.cL v367 fun y375 =>
 uncK y368 fun v376 y377 =>
 SV.cB v376 fun y379 =>
 F16_q7 D J S p3 l8 x9 x10 y313 x319 y326 x332 y339 x345 y349 y358 y366 y375 y379 K
noncomputable def F16_q9 (D J : Disp) (S : St) (p3 : PV) (l8 : LV) (x9 : Int) (x10 : Int) (c300 : Bool) (K : AV → St → Prop) : Prop :=
 ifK c300
 (LV.cs l8 fun b301 n302 n303 y304 =>
 req (Bool.and (ile (0 : Int) x10) (ilt x10 (Int.ofNat n303))) <|
 let n305 : Nat := (n302 + ((Int.toNat x10) * 11));
 F16_q8 D J S p3 l8 x9 x10 b301 n305 K)
 (PV.cs p3 fun b560 n561 =>
 let n562 : Nat := (n561 + 0);
 D 22 [(AV.one (V1.s (SV.ptr (PV.mk b560 n562))))] S fun v563 S564 =>
 scK v563 fun v566 =>
 SV.cS v566 fun y570 =>
 K ((AV.one (V1.s (SV.str y570)))) S564)
noncomputable def F16_3 (D J : Disp) (p3 : PV) (l8 : LV) (x9 : Int) (x10 : Int) (S : St) (K : AV → St → Prop) : Prop :=
 let c300 : Bool := (ilt x10 x9);
 F16_q9 D J S p3 l8 x9 x10 c300 K
noncomputable def X16_3 : X := (.op (.br (.op (.op (.op (.jmp 3 [3, 8, 9, 10])))) (.op .ret)))
theorem F16_3_eq (D J : Disp) (p3 : PV) (l8 : LV) (x9 : Int) (x10 : Int) (S : St) (K : AV → St → Prop) : F16_3 D J p3 l8 x9 x10 S K = execK SynP SynG Go.Proofs.Tryz.f16 (typed SynP D) J plans16 X16_3 (T16 3).1 (envOf (T16 3).2 [(AV.one (V1.s (SV.ptr p3))), (AV.one (V1.s (SV.sl l8))), (AV.one (V1.s (SV.int IntKind.i64 x9))), (AV.one (V1.s (SV.int IntKind.i64 x10)))]) S K := by kernel_rfl
noncomputable abbrev A16_0 (D J : Disp) (vals : List AV) (S : St) (K : AV → St → Prop) : Prop :=
  uncA vals fun a9001 r9002 => scK a9001 fun s9004 => SV.cL s9004 fun l0 => endL r9002 <| F16_0 D J l0 S K
theorem A16_0_ok {D J : Disp} (hD : DOK SynP SynG D) (hJ : JOK SynP SynG Go.Proofs.Tryz.f16 T16 J) {vals : List AV} {S : St} {K : AV → St → Prop} (h0 : A16_0 D J vals S K) : Runs SynP SynG Go.Proofs.Tryz.f16 (T16 0).1 (envOf (T16 0).2 vals) S K := by
  obtain ⟨a9001, r9002, rfl, h3⟩ := uncA_some h0
  obtain ⟨s9004, rfl, h5⟩ := scK_some h3
  obtain ⟨l0, rfl, h6⟩ := cL_some h5
  obtain ⟨rfl, h7⟩ := endL_some h6
  rw [F16_0_eq] at h7
  exact execK_runs hD.typed Syn_zero Syn_mixed hJ X16_0 (T16 0).1 (envOf (T16 0).2 _) S K (chk_of (by kernel_rfl) (by kernel_rfl)) h7
noncomputable abbrev A16_3 (D J : Disp) (vals : List AV) (S : St) (K : AV → St → Prop) : Prop :=
  uncA vals fun a9001 r9002 => scK a9001 fun s9004 => SV.cP s9004 fun p3 => uncA r9002 fun a9007 r9008 => scK a9007 fun s9010 => SV.cL s9010 fun l8 => uncA r9008 fun a9013 r9014 => scK a9013 fun s9016 => SV.cI IntKind.i64 s9016 fun x9 => uncA r9014 fun a9019 r9020 => scK a9019 fun s9022 => SV.cI IntKind.i64 s9022 fun x10 => endL r9020 <| F16_3 D J p3 l8 x9 x10 S K
theorem A16_3_ok {D J : Disp} (hD : DOK SynP SynG D) (hJ : JOK SynP SynG Go.Proofs.Tryz.f16 T16 J) {vals : List AV} {S : St} {K : AV → St → Prop} (h0 : A16_3 D J vals S K) : Runs SynP SynG Go.Proofs.Tryz.f16 (T16 3).1 (envOf (T16 3).2 vals) S K := by
  obtain ⟨a9001, r9002, rfl, h3⟩ := uncA_some h0
  obtain ⟨s9004, rfl, h5⟩ := scK_some h3
  obtain ⟨p3, rfl, h6⟩ := cP_some h5
  obtain ⟨a9007, r9008, rfl, h9⟩ := uncA_some h6
  obtain ⟨s9010, rfl, h11⟩ := scK_some h9
  obtain ⟨l8, rfl, h12⟩ := cL_some h11
  obtain ⟨a9013, r9014, rfl, h15⟩ := uncA_some h12
  obtain ⟨s9016, rfl, h17⟩ := scK_some h15
  obtain ⟨x9, rfl, h18⟩ := cI_some h17
  obtain ⟨a9019, r9020, rfl, h21⟩ := uncA_some h18
  obtain ⟨s9022, rfl, h23⟩ := scK_some h21
  obtain ⟨x10, rfl, h24⟩ := cI_some h23
  obtain ⟨rfl, h25⟩ := endL_some h24
  rw [F16_3_eq] at h25
  exact execK_runs hD.typed Syn_zero Syn_mixed hJ X16_3 (T16 3).1 (envOf (T16 3).2 _) S K (chk_of (by kernel_rfl) (by kernel_rfl)) h25
noncomputable def J16 (D : Disp) (k : Nat) : Disp := Nat.rec (motive := fun _ => Disp) Disp.no (fun _ ih => Disp.add 0 (A16_0 D ih) <| Disp.add 3 (A16_3 D ih) <| Disp.no) k
theorem J16_ok {D : Disp} (hD : DOK SynP SynG D) : ∀ k, JOK SynP SynG Go.Proofs.Tryz.f16 T16 (J16 D k)
  | 0 => JOK.no
  | k + 1 => JOK.add (ltB_ok (by kernel_rfl)) (fun vals S K h => A16_0_ok hD (J16_ok hD k) h) <| JOK.add (ltB_ok (by kernel_rfl)) (fun vals S K h => A16_3_ok hD (J16_ok hD k) h) <| JOK.no
theorem E16_ok {D : Disp} (hD : DOK SynP SynG D) (k : Nat) {args : List AV} {S : St} {K : AV → St → Prop} (h : A16_0 D (J16 D k) args S K) : CallE SynP SynG 16 args S K := by
  have hr := A16_0_ok hD (J16_ok hD k) h
  have hl : args.length = 1 := by
    have h0 := h
    obtain ⟨a9001, r9002, rfl, h3⟩ := uncA_some h0
    obtain ⟨s9004, rfl, h5⟩ := scK_some h3
    obtain ⟨l0, rfl, h6⟩ := cL_some h5
    obtain ⟨rfl, h7⟩ := endL_some h6
    rfl
  refine callOK_of (fn := Go.Proofs.Tryz.f16) (c := (match Go.Proofs.Tryz.f16.body with | some c => c | none => .skip)) (by kernel_rfl) (by kernel_rfl) (by kernel_rfl) (by rw [hl]; kernel_rfl) (by kernel_rfl) ?_
  rw [hl]
  exact hr
noncomputable def plans17 (i : Nat) : Plan := []
noncomputable def T17 (p : Nat) : List Item × List Nat := bif Nat.beq p 0 then ([.code (match Go.Proofs.Tryz.f17.body with | some c => c | none => .skip)], [0]) else
  bif Nat.beq p 7 then (navs [.op, .op, .el, .op, .op] [.code (match Go.Proofs.Tryz.f17.body with | some c => c | none => .skip)], [0, 3, 4, 5]) else
  ([], [])
noncomputable def F17_q11 (D J : Disp) (S : St) (S300 : St) (K : AV → St → Prop) : Prop :=
 D 23 [(AV.one (V1.s (SV.int IntKind.i64 (6 : Int)))), (AV.one (V1.s (SV.int IntKind.i64 (0 : Int))))] S300 fun v303 S304 =>
 avA v303 fun y307 =>
 req (Nat.beq (List.length y307) 2) <|
 uncK y307 fun v308 y309 =>
 SV.cI IntKind.i64 v308 fun x313 =>
 uncK y309 fun v314 y315 =>
 SV.cI IntKind.i64 v314 fun x319 =>
 St.wr S304 (Bk.new (St.next S)) 0 [(SV.int IntKind.i64 x313), (SV.int IntKind.i64 x319)] fun S320 =>
 St.at S320 (Bk.new (St.next S)) 0 fun y321 =>
 uncK y321 fun v322 y323 =>
 SV.cI IntKind.i64 v322 fun x327 =>
 uncK y323 fun v328 y329 =>
 SV.cI IntKind.i64 v328 fun x333 =>
 K ((AV.tup [(V1.s (SV.sl LV.nil)), (V1.agg [(SV.int IntKind.i64 x327), (SV.int IntKind.i64 x333)])])) S320
noncomputable def F17_q12 (D J : Disp) (S : St) (s0 : (List Nat)) (K : AV → St → Prop) : Prop :=
 let S300 : St := (St.add S (AO.cells [(SV.int IntKind.i64 (0 : Int)), (SV.int IntKind.i64 (0 : Int))] (Op2.ty 25)));
 let x301 : Int := (Int.ofNat (List.length s0));
 let c302 : Bool := (ilt (20000 : Int) x301);
 ifK c302
 (F17_q11 D J S S300 K)
 (let S355 : St := (St.add S300 (AO.cells [(SV.str s0), (SV.int IntKind.i64 (0 : Int))] (Op2.ty 74)));
 J 7 [(AV.one (V1.s (SV.str s0))), (AV.one (V1.s (SV.ptr (PV.mk (Bk.new (St.next S)) 0)))), (AV.one (V1.s (SV.sl LV.nil))), (AV.one (V1.s (SV.ptr (PV.mk (Bk.new (St.next S300)) 0))))] S355 K)
noncomputable def F17_0 (D J : Disp) (s0 : (List Nat)) (S : St) (K : AV → St → Prop) : Prop :=
 F17_q12 D J S s0 K
noncomputable def X17_0 : X := (.op (.op (.br (.op .ret) (.op (.op (.jmp 7 [0, 3, 4, 5]))))))
theorem F17_0_eq (D J : Disp) (s0 : (List Nat)) (S : St) (K : AV → St → Prop) : F17_0 D J s0 S K = execK SynP SynG Go.Proofs.Tryz.f17 (typed SynP D) J plans17 X17_0 (T17 0).1 (envOf (T17 0).2 [(AV.one (V1.s (SV.str s0)))]) S K := by kernel_rfl
noncomputable def F17_q13 (D J : Disp) (p3 : PV) (S301 : St) (x315 : Int) (K : AV → St → Prop) : Prop :=
 D 23 [(AV.one (V1.s (SV.int IntKind.i64 (3 : Int)))), (AV.one (V1.s (SV.int IntKind.i64 x315)))] S301 fun v316 S317 =>
 avA v316 fun y320 =>
 req (Nat.beq (List.length y320) 2) <|
 uncK y320 fun v321 y322 =>
 SV.cI IntKind.i64 v321 fun x326 =>
 uncK y322 fun v327 y328 =>
 SV.cI IntKind.i64 v327 fun x332 =>
 PV.cs p3 fun b333 n334 =>
 St.wr S317 b333 n334 [(SV.int IntKind.i64 x326), (SV.int IntKind.i64 x332)] fun S335 =>
 PV.cs p3 fun b336 n337 =>
 St.at S335 b336 n337 fun y338 =>
 uncK y338 fun v339 y340 =>
 SV.cI IntKind.i64 v339 fun x344 =>
 uncK y340 fun v345 y346 =>
 SV.cI IntKind.i64 v345 fun x350 =>
 K ((AV.tup [(V1.s (SV.sl LV.nil)), (V1.agg [(SV.int IntKind.i64 x344), (SV.int IntKind.i64 x350)])])) S335
noncomputable def F17_q14 (D J : Disp) (p3 : PV) (x426 : Int) (x478 : Int) (S480 : St) (K : AV → St → Prop) : Prop :=
 D 23 [(AV.one (V1.s (SV.int IntKind.i64 x478))), (AV.one (V1.s (SV.int IntKind.i64 x426)))] S480 fun v482 S483 =>
 avA v482 fun y486 =>
 req (Nat.beq (List.length y486) 2) <|
 uncK y486 fun v487 y488 =>
 SV.cI IntKind.i64 v487 fun x492 =>
 uncK y488 fun v493 y494 =>
 SV.cI IntKind.i64 v493 fun x498 =>
 PV.cs p3 fun b499 n500 =>
 St.wr S483 b499 n500 [(SV.int IntKind.i64 x492), (SV.int IntKind.i64 x498)] fun S501 =>
 PV.cs p3 fun b502 n503 =>
 St.at S501 b502 n503 fun y504 =>
 uncK y504 fun v505 y506 =>
 SV.cI IntKind.i64 v505 fun x510 =>
 uncK y506 fun v511 y512 =>
 SV.cI IntKind.i64 v511 fun x516 =>
 K ((AV.tup [(V1.s (SV.sl LV.nil)), (V1.agg [(SV.int IntKind.i64 x510), (SV.int IntKind.i64 x516)])])) S501
noncomputable def F17_q15 (D J : Disp) (p3 : PV) (x426 : Int) (S480 : St) (K : AV → St → Prop) : Prop :=
 D 23 [(AV.one (V1.s (SV.int IntKind.i64 (6 : Int)))), (AV.one (V1.s (SV.int IntKind.i64 x426)))] S480 fun v540 S541 =>
 avA v540 fun y544 =>
 req (Nat.beq (List.length y544) 2) <|
 uncK y544 fun v545 y546 =>
 SV.cI IntKind.i64 v545 fun x550 =>
 uncK y546 fun v551 y552 =>
 SV.cI IntKind.i64 v551 fun x556 =>
 PV.cs p3 fun b557 n558 =>
 St.wr S541 b557 n558 [(SV.int IntKind.i64 x550), (SV.int IntKind.i64 x556)] fun S559 =>
 PV.cs p3 fun b560 n561 =>
 St.at S559 b560 n561 fun y562 =>
 uncK y562 fun v563 y564 =>
 SV.cI IntKind.i64 v563 fun x568 =>
 uncK y564 fun v569 y570 =>
 SV.cI IntKind.i64 v569 fun x574 =>
 K ((AV.tup [(V1.s (SV.sl LV.nil)), (V1.agg [(SV.int IntKind.i64 x568), (SV.int IntKind.i64 x574)])])) S559
noncomputable def F17_q16 (D J : Disp) (s0 : (List Nat)) (p3 : PV) (l4 : LV) (p5 : PV) (S480 : St) (x602 : Int) (x608 : Int) (y615 : (List Nat)) (y622 : (List Nat)) (x628 : Int) (y632 : Bool) (K : AV → St → Prop) : Prop :=
 let d633 : (Sum Nat Nat) := (Sum.inl 1);
 let S634 : St := (St.add S480 (AO.cells [(SV.int IntKind.i64 x602), (SV.int IntKind.i64 x608), (SV.str y615), (SV.str y622), (SV.int IntKind.u64 x628), (SV.bool y632)] Op2.sh));
 St.src S634 6 (LV.mk (Bk.new (St.next S480)) 0 1 d633) fun y635 n636 =>
 St.app S634 76 6 64 l4 y635 n636 fun y637 S638 =>
 J 7 [(AV.one (V1.s (SV.str s0))), (AV.one (V1.s (SV.ptr p3))), (AV.one (V1.s (SV.sl y637))), (AV.one (V1.s (SV.ptr p5)))] S638 K
noncomputable def F17_q17 (D J : Disp) (s0 : (List Nat)) (p3 : PV) (l4 : LV) (p5 : PV) (S428 : St) (S480 : St) (K : AV → St → Prop) : Prop :=
 St.at S480 (Bk.new (St.next S428)) 0 fun y596 =>
 uncK y596 fun v597 y598 =>
 SV.cI IntKind.i64 v597 fun x602 =>
 uncK y598 fun v603 y604 =>
 SV.cI IntKind.i64 v603 fun x608 =>
 uncK y604 fun v609 y610 =>
 SV.cS v609 fun y615 =>
 uncK y610 fun v616 y617 =>
 SV.cS v616 fun y622 =>
 uncK y617 fun v623 y624 =>
 SV.cI IntKind.u64 v623 fun x628 =>
 uncK y624 fun v629 y630 =>
 SV.cB v629 fun y632 =>
 F17_q16 D J s0 p3 l4 p5 S480 x602 x608 y615 y622 x628 y632 K
noncomputable def F17_q18 (D J : Disp) (s0 : (List Nat)) (p3 : PV) (l4 : LV) (p5 : PV) (x426 : Int) (S428 : St) (x441 : Int) (x447 : Int) (y454 : (List Nat)) (y461 : (List Nat)) (x467 : Int) (y471 : Bool) (x478 : Int) (S479 : St) (K : AV → St → Prop) : Prop :=
 St.wr S479 (Bk.new (St.next S428)) 0 [(SV.int IntKind.i64 x441), (SV.int IntKind.i64 x447), (SV.str y454), (SV.str y461), (SV.int IntKind.u64 x467), (SV.bool y471)] fun S480 =>
 let c481 : Bool := (Bool.not (ieq x478 (0 : Int)));
 ifK c481
 (F17_q14 D J p3 x426 x478 S480 K)
 (let x538 : Int := (Int.ofNat (LV.len l4));
 let c539 : Bool := (ieq x538 (6000 : Int));
 ifK c539
 (F17_q15 D J p3 x426 S480 K)
 (F17_q17 D J s0 p3 l4 p5 S428 S480 K))
noncomputable def F17_q19 (D J : Disp) (s0 : (List Nat)) (p3 : PV) (l4 : LV) (p5 : PV) (S301 : St) (x426 : Int) (K : AV → St → Prop) : Prop :=
 D 25 [(AV.one (V1.s (SV.ptr p5)))] S301 fun v427 S428 =>
 avT v427 fun y430 =>
 uncV y430 fun v431 y432 =>
 v1A v431 fun y435 =>
 req (Nat.beq (List.length y435) 6) <|
 uncK y435 fun v436 y437 =>
 SV.cI IntKind.i64 v436 fun x441 =>
 uncK y437 fun v442 y443 =>
 SV.cI IntKind.i64 v442 fun x447 =>
 uncK y443 fun v448 y449 =>
 SV.cS v448 fun y454 =>
 uncK y449 fun v455 y456 =>
 SV.cS v455 fun y461 =>
 uncK y456 fun v462 y463 =>
 SV.cI IntKind.u64 v462 fun x467 =>
 uncK y463 fun v468 y469 =>
 SV.cB v468 fun y471 =>
 uncV y432 fun v472 y473 =>
 v1S v472 fun v475 =>
 SV.cI IntKind.i64 v475 fun x478 =>
 endL y473 (let S479 : St := (St.add S428 (AO.cells [(SV.int IntKind.i64 (0 : Int)), (SV.int IntKind.i64 (0 : Int)), (SV.str []), (SV.str []), (SV.int IntKind.u64 (0 : Int)), (SV.bool Bool.false)] (Op2.ty 76)));
 F17_q18 D J s0 p3 l4 p5 x426 S428 x441 x447 y454 y461 x467 y471 x478 S479 K)
noncomputable def F17_q20 (D J : Disp) (s0 : (List Nat)) (p3 : PV) (l4 : LV) (p5 : PV) (S301 : St) (c388 : Bool) (K : AV → St → Prop) : Prop :=
 ifK c388
 (PV.cs p3 fun b389 n390 =>
 St.wr S301 b389 n390 [(SV.int IntKind.i64 (0 : Int)), (SV.int IntKind.i64 (0 : Int))] fun S391 =>
 PV.cs p3 fun b392 n393 =>
 St.at S391 b392 n393 fun y394 =>
 uncK y394 fun v395 y396 =>
 SV.cI IntKind.i64 v395 fun x400 =>
 uncK y396 fun v401 y402 =>
 SV.cI IntKind.i64 v401 fun x406 =>
 K ((AV.tup [(V1.s (SV.sl l4)), (V1.agg [(SV.int IntKind.i64 x400), (SV.int IntKind.i64 x406)])])) S391)
 (PV.cs p5 fun b417 n418 =>
 let n419 : Nat := (n418 + 1);
 St.at S301 b417 n419 fun y420 =>
 uncK y420 fun v421 y422 =>
 SV.cI IntKind.i64 v421 fun x426 =>
 F17_q19 D J s0 p3 l4 p5 S301 x426 K)
noncomputable def F17_q21 (D J : Disp) (s0 : (List Nat)) (p3 : PV) (l4 : LV) (p5 : PV) (S301 : St) (c305 : Bool) (K : AV → St → Prop) : Prop :=
 ifK c305
 (PV.cs p5 fun b306 n307 =>
 let n308 : Nat := (n307 + 1);
 St.at S301 b306 n308 fun y309 =>
 uncK y309 fun v310 y311 =>
 SV.cI IntKind.i64 v310 fun x315 =>
 F17_q13 D J p3 S301 x315 K)
 (PV.cs p5 fun b377 n378 =>
 let n379 : Nat := (n378 + 1);
 St.at S301 b377 n379 fun y380 =>
 uncK y380 fun v381 y382 =>
 SV.cI IntKind.i64 v381 fun x386 =>
 let x387 : Int := (Int.ofNat (List.length s0));
 let c388 : Bool := (ieq x386 x387);
 F17_q20 D J s0 p3 l4 p5 S301 c388 K)
noncomputable def F17_7 (D J : Disp) (s0 : (List Nat)) (p3 : PV) (l4 : LV) (p5 : PV) (S : St) (K : AV → St → Prop) : Prop :=
 D 24 [(AV.one (V1.s (SV.ptr p5)))] S fun v300 S301 =>
 scK v300 fun v303 =>
 SV.cB v303 fun y304 =>
 let c305 : Bool := (Bool.not y304);
 F17_q21 D J s0 p3 l4 p5 S301 c305 K
noncomputable def X17_7 : X := (.op (.br (.op .ret) (.op (.br (.op .ret) (.op (.op (.op (.br (.op .ret) (.op (.br (.op .ret) (.op (.jmp 7 [0, 3, 4, 5]))))))))))))
theorem F17_7_eq (D J : Disp) (s0 : (List Nat)) (p3 : PV) (l4 : LV) (p5 : PV) (S : St) (K : AV → St → Prop) : F17_7 D J s0 p3 l4 p5 S K = execK SynP SynG Go.Proofs.Tryz.f17 (typed SynP D) J plans17 X17_7 (T17 7).1 (envOf (T17 7).2 [(AV.one (V1.s (SV.str s0))), (AV.one (V1.s (SV.ptr p3))), (AV.one (V1.s (SV.sl l4))), (AV.one (V1.s (SV.ptr p5)))]) S K := by kernel_rfl
noncomputable abbrev A17_0 (D J : Disp) (vals : List AV) (S : St) (K : AV → St → Prop) : Prop :=
  uncA vals fun a9001 r9002 => scK a9001 fun s9004 => SV.cS s9004 fun s0 => endL r9002 <| F17_0 D J s0 S K
theorem A17_0_ok {D J : Disp} (hD : DOK SynP SynG D) (hJ : JOK SynP SynG Go.Proofs.Tryz.f17 T17 J) {vals : List AV} {S : St} {K : AV → St → Prop} (h0 : A17_0 D J vals S K) : Runs SynP SynG Go.Proofs.Tryz.f17 (T17 0).1 (envOf (T17 0).2 vals) S K := by
  obtain ⟨a9001, r9002, rfl, h3⟩ := uncA_some h0
  obtain ⟨s9004, rfl, h5⟩ := scK_some h3
  obtain ⟨s0, rfl, h6⟩ := cS_some h5
  obtain ⟨rfl, h7⟩ := endL_some h6
  rw [F17_0_eq] at h7
  exact execK_runs hD.typed Syn_zero Syn_mixed hJ X17_0 (T17 0).1 (envOf (T17 0).2 _) S K (chk_of (by kernel_rfl) (by kernel_rfl)) h7
noncomputable abbrev A17_7 (D J : Disp) (vals : List AV) (S : St) (K : AV → St → Prop) : Prop :=
  uncA vals fun a9001 r9002 => scK a9001 fun s9004 => SV.cS s9004 fun s0 => uncA r9002 fun a9007 r9008 => scK a9007 fun s9010 => SV.cP s9010 fun p3 => uncA r9008 fun a9013 r9014 => scK a9013 fun s9016 => SV.cL s9016 fun l4 => uncA r9014 fun a9019 r9020 => scK a9019 fun s9022 => SV.cP s9022 fun p5 => endL r9020 <| F17_7 D J s0 p3 l4 p5 S K
theorem A17_7_ok {D J : Disp} (hD : DOK SynP SynG D) (hJ : JOK SynP SynG Go.Proofs.Tryz.f17 T17 J) {vals : List AV} {S : St} {K : AV → St → Prop} (h0 : A17_7 D J vals S K) : Runs SynP SynG Go.Proofs.Tryz.f17 (T17 7).1 (envOf (T17 7).2 vals) S K := by
  obtain ⟨a9001, r9002, rfl, h3⟩ := uncA_some h0
  obtain ⟨s9004, rfl, h5⟩ := scK_some h3
  obtain ⟨s0, rfl, h6⟩ := cS_some h5
  obtain ⟨a9007, r9008, rfl, h9⟩ := uncA_some h6
  obtain ⟨s9010, rfl, h11⟩ := scK_some h9
  obtain ⟨p3, rfl, h12⟩ := cP_some h11
  obtain ⟨a9013, r9014, rfl, h15⟩ := uncA_some h12
  obtain ⟨s9016, rfl, h17⟩ := scK_some h15
  obtain ⟨l4, rfl, h18⟩ := cL_some h17
  obtain ⟨a9019, r9020, rfl, h21⟩ := uncA_some h18
  obtain ⟨s9022, rfl, h23⟩ := scK_some h21
  obtain ⟨p5, rfl, h24⟩ := cP_some h23
  obtain ⟨rfl, h25⟩ := endL_some h24
  rw [F17_7_eq] at h25
  exact execK_runs hD.typed Syn_zero Syn_mixed hJ X17_7 (T17 7).1 (envOf (T17 7).2 _) S K (chk_of (by kernel_rfl) (by kernel_rfl)) h25
noncomputable def J17 (D : Disp) (k : Nat) : Disp := Nat.rec (motive := fun _ => Disp) Disp.no (fun _ ih => Disp.add 0 (A17_0 D ih) <| Disp.add 7 (A17_7 D ih) <| Disp.no) k
theorem J17_ok {D : Disp} (hD : DOK SynP SynG D) : ∀ k, JOK SynP SynG Go.Proofs.Tryz.f17 T17 (J17 D k)
  | 0 => JOK.no
  | k + 1 => JOK.add (ltB_ok (by kernel_rfl)) (fun vals S K h => A17_0_ok hD (J17_ok hD k) h) <| JOK.add (ltB_ok (by kernel_rfl)) (fun vals S K h => A17_7_ok hD (J17_ok hD k) h) <| JOK.no
theorem E17_ok {D : Disp} (hD : DOK SynP SynG D) (k : Nat) {args : List AV} {S : St} {K : AV → St → Prop} (h : A17_0 D (J17 D k) args S K) : CallE SynP SynG 17 args S K := by
  have hr := A17_0_ok hD (J17_ok hD k) h
  have hl : args.length = 1 := by
    have h0 := h
    obtain ⟨a9001, r9002, rfl, h3⟩ := uncA_some h0
    obtain ⟨s9004, rfl, h5⟩ := scK_some h3
    obtain ⟨s0, rfl, h6⟩ := cS_some h5
    obtain ⟨rfl, h7⟩ := endL_some h6
    rfl
  refine callOK_of (fn := Go.Proofs.Tryz.f17) (c := (match Go.Proofs.Tryz.f17.body with | some c => c | none => .skip)) (by kernel_rfl) (by kernel_rfl) (by kernel_rfl) (by rw [hl]; kernel_rfl) (by kernel_rfl) ?_
  rw [hl]
  exact hr
noncomputable def plans18 (i : Nat) : Plan := []
noncomputable def T18 (p : Nat) : List Item × List Nat := bif Nat.beq p 0 then ([.code (match Go.Proofs.Tryz.f18.body with | some c => c | none => .skip)], [0]) else
  ([], [])
noncomputable def F18_0 (D J : Disp) (p0 : PV) (S : St) (K : AV → St → Prop) : Prop :=
 PV.cs p0 fun b300 n301 =>
 let n302 : Nat := (n301 + 4);
 let n303 : Nat := (n302 + 0);
 St.at S b300 n303 fun y304 =>
 uncK y304 fun v305 y306 =>
 SV.cI IntKind.i64 v305 fun x310 =>
 let c311 : Bool := (ieq x310 (0 : Int));
 K ((AV.one (V1.s (SV.bool c311)))) S
noncomputable def X18_0 : X := (.op (.op .ret))
theorem F18_0_eq (D J : Disp) (p0 : PV) (S : St) (K : AV → St → Prop) : F18_0 D J p0 S K = execK SynP SynG Go.Proofs.Tryz.f18 (typed SynP D) J plans18 X18_0 (T18 0).1 (envOf (T18 0).2 [(AV.one (V1.s (SV.ptr p0)))]) S K := by kernel_rfl
noncomputable abbrev A18_0 (D J : Disp) (vals : List AV) (S : St) (K : AV → St → Prop) : Prop :=
  uncA vals fun a9001 r9002 => scK a9001 fun s9004 => SV.cP s9004 fun p0 => endL r9002 <| F18_0 D J p0 S K
theorem A18_0_ok {D J : Disp} (hD : DOK SynP SynG D) (hJ : JOK SynP SynG Go.Proofs.Tryz.f18 T18 J) {vals : List AV} {S : St} {K : AV → St → Prop} (h0 : A18_0 D J vals S K) : Runs SynP SynG Go.Proofs.Tryz.f18 (T18 0).1 (envOf (T18 0).2 vals) S K := by
  obtain ⟨a9001, r9002, rfl, h3⟩ := uncA_some h0
  obtain ⟨s9004, rfl, h5⟩ := scK_some h3
  obtain ⟨p0, rfl, h6⟩ := cP_some h5
  obtain ⟨rfl, h7⟩ := endL_some h6
  rw [F18_0_eq] at h7
  exact execK_runs hD.typed Syn_zero Syn_mixed hJ X18_0 (T18 0).1 (envOf (T18 0).2 _) S K (chk_of (by kernel_rfl) (by kernel_rfl)) h7
noncomputable def J18 (D : Disp) (k : Nat) : Disp := Nat.rec (motive := fun _ => Disp) Disp.no (fun _ ih => Disp.add 0 (A18_0 D ih) <| Disp.no) k
theorem J18_ok {D : Disp} (hD : DOK SynP SynG D) : ∀ k, JOK SynP SynG Go.Proofs.Tryz.f18 T18 (J18 D k)
  | 0 => JOK.no
  | k + 1 => JOK.add (ltB_ok (by kernel_rfl)) (fun vals S K h => A18_0_ok hD (J18_ok hD k) h) <| JOK.no
theorem E18_ok {D : Disp} (hD : DOK SynP SynG D) (k : Nat) {args : List AV} {S : St} {K : AV → St → Prop} (h : A18_0 D (J18 D k) args S K) : CallE SynP SynG 18 args S K := by
  have hr := A18_0_ok hD (J18_ok hD k) h
  have hl : args.length = 1 := by
    have h0 := h
    obtain ⟨a9001, r9002, rfl, h3⟩ := uncA_some h0
    obtain ⟨s9004, rfl, h5⟩ := scK_some h3
    obtain ⟨p0, rfl, h6⟩ := cP_some h5
    obtain ⟨rfl, h7⟩ := endL_some h6
    rfl
  refine callOK_of (fn := Go.Proofs.Tryz.f18) (c := (match Go.Proofs.Tryz.f18.body with | some c => c | none => .skip)) (by kernel_rfl) (by kernel_rfl) (by kernel_rfl) (by rw [hl]; kernel_rfl) (by kernel_rfl) ?_
  rw [hl]
  exact hr
noncomputable def plans19 (i : Nat) : Plan := if Nat.beq i 6 then [(0, []), (1, [0]), (2, []), (3, [2]), (4, [3, 2]), (5, [1, 4, 3, 0, 2]), (6, [0, 1, 2, 3, 4, 5]), (7, [6, 5, 0, 1, 2, 3, 4])] else if Nat.beq i 17 then [(0, []), (1, [0]), (2, [1, 0]), (3, [2, 1, 0]), (4, []), (5, [4]), (6, [5, 4]), (7, [3, 6, 0, 1, 2, 4, 5])] else []
noncomputable def T19 (p : Nat) : List Item × List Nat := bif Nat.beq p 0 then ([.code (match Go.Proofs.Tryz.f19.body with | some c => c | none => .skip)], [0]) else
  bif Nat.beq p 3 then (navs [.op, .op, .op] [.code (match Go.Proofs.Tryz.f19.body with | some c => c | none => .skip)], [1, 2, 3, 8]) else
  bif Nat.beq p 7 then (navs [.op, .op, .op, .th, .op, .op, .op] [.code (match Go.Proofs.Tryz.f19.body with | some c => c | none => .skip)], [1, 2, 3]) else
  bif Nat.beq p 46 then (navs [.op, .op, .op, .el, .op, .el, .op, .op, .el, .op, .op, .op, .th, .op, .op, .th, .op] [.code (match Go.Proofs.Tryz.f19.body with | some c => c | none => .skip)], [1, 2, 3]) else
  bif Nat.beq p 10 then (navs [.op, .op, .op, .th, .op, .op, .op, .op, .op, .op] [.code (match Go.Proofs.Tryz.f19.body with | some c => c | none => .skip)], [1, 2, 3, 47]) else
  ([], [])
noncomputable def F19_q43 (D J : Disp) (S : St) (S300 : St) (S312 : St) (S470 : St) (x479 : Int) (x485 : Int) (y492 : (List Nat)) (y499 : (List Nat)) (x505 : Int) (y509 : Bool) (K : AV → St → Prop) : Prop :=
 D 27 [(AV.one (V1.agg [(SV.int IntKind.i64 x479), (SV.int IntKind.i64 x485), (SV.str y492), (SV.str y499), (SV.int IntKind.u64 x505), (SV.bool y509)])), (AV.one (V1.s (SV.str [123])))] S470 fun v510 S511 =>
 scK v510 fun v513 =>
 SV.cB v513 fun y514 =>
 J 3 [(AV.one (V1.s (SV.ptr (PV.mk (Bk.new (St.next S)) 0)))), (AV.one (V1.s (SV.ptr (PV.mk (Bk.new (St.next S300)) 0)))), (AV.one (V1.s (SV.ptr (PV.mk (Bk.new (St.next S312)) 0)))), (AV.one (V1.s (SV.bool y514)))] S511 K
noncomputable def F19_q44 (D J : Disp) (S : St) (S300 : St) (S312 : St) (S419 : St) (y468 : PV) (K : AV → St → Prop) : Prop :=
 D 28 [(AV.one (V1.s (SV.ptr y468))), (AV.one (V1.s (SV.int IntKind.i64 (2 : Int))))] S419 fun v469 S470 =>
 avA v469 fun y473 =>
 req (Nat.beq (List.length y473) 6) <|
 uncK y473 fun v474 y475 =>
 SV.cI IntKind.i64 v474 fun x479 =>
 uncK y475 fun v480 y481 =>
 SV.cI IntKind.i64 v480 fun x485 =>
 uncK y481 fun v486 y487 =>
 SV.cS v486 fun y492 =>
 uncK y487 fun v493 y494 =>
 SV.cS v493 fun y499 =>
 uncK y494 fun v500 y501 =>
 SV.cI IntKind.u64 v500 fun x505 =>
 uncK y501 fun v506 y507 =>
 SV.cB v506 fun y509 =>
 F19_q43 D J S S300 S312 S470 x479 x485 y492 y499 x505 y509 K
noncomputable def F19_q45 (D J : Disp) (S : St) (S300 : St) (S312 : St) (S405 : St) (y417 : PV) (K : AV → St → Prop) : Prop :=
 D 28 [(AV.one (V1.s (SV.ptr y417))), (AV.one (V1.s (SV.int IntKind.i64 (1 : Int))))] S405 fun v418 S419 =>
 avA v418 fun y422 =>
 req (Nat.beq (List.length y422) 6) <|
 uncK y422 fun v423 y424 =>
 SV.cI IntKind.i64 v423 fun x428 =>
 uncK y424 fun v429 y430 =>
 SV.cI IntKind.i64 v429 fun x434 =>
 uncK y430 fun v435 y436 =>
 SV.cS v435 fun y441 =>
 uncK y436 fun v442 y443 =>
 SV.cS v442 fun y448 =>
 uncK y443 fun v449 y450 =>
 SV.cI IntKind.u64 v449 fun x454 =>
 uncK y450 fun v455 y456 =>
 SV.cB v455 fun y458 =>
 let c459 : Bool := (ieq x428 (1 : Int));
 ifK c459
 (St.at S419 (Bk.new (St.next S)) 0 fun y460 =>
 uncK y460 fun v461 y462 =>
 SV.cP v461 fun y468 =>
 F19_q44 D J S S300 S312 S419 y468 K)
 (J 3 [(AV.one (V1.s (SV.ptr (PV.mk (Bk.new (St.next S)) 0)))), (AV.one (V1.s (SV.ptr (PV.mk (Bk.new (St.next S300)) 0)))), (AV.one (V1.s (SV.ptr (PV.mk (Bk.new (St.next S312)) 0)))), (AV.one (V1.s (SV.bool Bool.false)))] S419 K)
noncomputable def F19_q46 (D J : Disp) (S : St) (S300 : St) (S312 : St) (S364 : St) (x373 : Int) (x379 : Int) (y386 : (List Nat)) (y393 : (List Nat)) (x399 : Int) (y403 : Bool) (K : AV → St → Prop) : Prop :=
 D 27 [(AV.one (V1.agg [(SV.int IntKind.i64 x373), (SV.int IntKind.i64 x379), (SV.str y386), (SV.str y393), (SV.int IntKind.u64 x399), (SV.bool y403)])), (AV.one (V1.s (SV.str [115, 116, 114, 117, 99, 116])))] S364 fun v404 S405 =>
 scK v404 fun v407 =>
 SV.cB v407 fun y408 =>
 ifK y408
 (St.at S405 (Bk.new (St.next S)) 0 fun y409 =>
 uncK y409 fun v410 y411 =>
 SV.cP v410 fun y417 =>
 F19_q45 D J S S300 S312 S405 y417 K)
 (J 3 [(AV.one (V1.s (SV.ptr (PV.mk (Bk.new (St.next S)) 0)))), (AV.one (V1.s (SV.ptr (PV.mk (Bk.new (St.next S300)) 0)))), (AV.one (V1.s (SV.ptr (PV.mk (Bk.new (St.next S312)) 0)))), (AV.one (V1.s (SV.bool Bool.false)))] S405 K)
noncomputable def F19_q47 (D J : Disp) (S : St) (S300 : St) (S312 : St) (S353 : St) (y362 : PV) (K : AV → St → Prop) : Prop :=
 D 26 [(AV.one (V1.s (SV.ptr y362)))] S353 fun v363 S364 =>
 avA v363 fun y367 =>
 req (Nat.beq (List.length y367) 6) <|
 uncK y367 fun v368 y369 =>
 SV.cI IntKind.i64 v368 fun x373 =>
 uncK y369 fun v374 y375 =>
 SV.cI IntKind.i64 v374 fun x379 =>
 uncK y375 fun v380 y381 =>
 SV.cS v380 fun y386 =>
 uncK y381 fun v387 y388 =>
 SV.cS v387 fun y393 =>
 uncK y388 fun v394 y395 =>
 SV.cI IntKind.u64 v394 fun x399 =>
 uncK y395 fun v400 y401 =>
 SV.cB v400 fun y403 =>
 F19_q46 D J S S300 S312 S364 x373 x379 y386 y393 x399 y403 K
noncomputable def F19_q48 (D J : Disp) (S : St) (S300 : St) (S312 : St) (x327 : Int) (K : AV → St → Prop) : Prop :=
 let S352 : St := (St.add S312 (AO.cells [(SV.str []), (SV.int IntKind.i64 (0 : Int)), (SV.str []), (SV.int IntKind.i64 (0 : Int)), (SV.str []), (SV.int IntKind.u64 (0 : Int)), (SV.bool Bool.false), (SV.sl LV.nil), (SV.ptr PV.nil), (SV.sl LV.nil), (SV.bool Bool.false)] (Op2.ty 53)));
 St.wr S352 (Bk.new (St.next S312)) 0 [(SV.str []), (SV.int IntKind.i64 x327), (SV.str []), (SV.int IntKind.i64 (0 : Int)), (SV.str []), (SV.int IntKind.u64 (0 : Int)), (SV.bool Bool.false), (SV.sl LV.nil), (SV.ptr PV.nil), (SV.sl LV.nil), (SV.bool Bool.false)] fun S353 =>
 St.at S353 (Bk.new (St.next S)) 0 fun y354 =>
 uncK y354 fun v355 y356 =>
 SV.cP v355 fun y362 =>
 F19_q47 D J S S300 S312 S353 y362 K
noncomputable def F19_q49 (D J : Disp) (S : St) (S300 : St) (S301 : St) (y310 : PV) (K : AV → St → Prop) : Prop :=
 D 26 [(AV.one (V1.s (SV.ptr y310)))] S301 fun v311 S312 =>
 avA v311 fun y315 =>
 req (Nat.beq (List.length y315) 6) <|
 uncK y315 fun v316 y317 =>
 SV.cI IntKind.i64 v316 fun x321 =>
 uncK y317 fun v322 y323 =>
 SV.cI IntKind.i64 v322 fun x327 =>
 uncK y323 fun v328 y329 =>
 SV.cS v328 fun y334 =>
 uncK y329 fun v335 y336 =>
 SV.cS v335 fun y341 =>
 uncK y336 fun v342 y343 =>
 SV.cI IntKind.u64 v342 fun x347 =>
 uncK y343 fun v348 y349 =>
 SV.cB v348 fun y351 =>
 F19_q48 D J S S300 S312 x327 K
noncomputable def F19_0 (D J : Disp) (p0 : PV) (S : St) (K : AV → St → Prop) : Prop :=
 let S300 : St := (St.add S (AO.cells [(SV.ptr p0)] (Op2.ty 57)));
 let S301 : St := (St.add S300 (AO.cells [(SV.str []), (SV.int IntKind.i64 (0 : Int)), (SV.str []), (SV.int IntKind.i64 (0 : Int)), (SV.str []), (SV.int IntKind.u64 (0 : Int)), (SV.bool Bool.false), (SV.sl LV.nil), (SV.ptr PV.nil), (SV.sl LV.nil), (SV.bool Bool.false)] (Op2.ty 53)));
 St.at S301 (Bk.new (St.next S)) 0 fun y302 =>
 uncK y302 fun v303 y304 =>
 SV.cP v303 fun y310 =>
 F19_q49 D J S S300 S301 y310 K
noncomputable def X19_0 : X := (.op (.op (.op (.jmp 3 [1, 2, 3, 8]))))
theorem F19_0_eq (D J : Disp) (p0 : PV) (S : St) (K : AV → St → Prop) : F19_0 D J p0 S K = execK SynP SynG Go.Proofs.Tryz.f19 (typed SynP D) J plans19 X19_0 (T19 0).1 (envOf (T19 0).2 [(AV.one (V1.s (SV.ptr p0)))]) S K := by kernel_rfl
noncomputable def F19_q50 (D J : Disp) (p1 : PV) (p2 : PV) (p3 : PV) (y333 : (List Nat)) (S337 : St) (K : AV → St → Prop) : Prop :=
 PV.cs p3 fun b338 n339 =>
 let n340 : Nat := (n339 + 2);
 let n341 : Nat := (n340 + 2);
 St.wr S337 b338 n341 [(SV.str y333)] fun S342 =>
 PV.cs p1 fun b343 n344 =>
 St.at S342 b343 n344 fun y345 =>
 uncK y345 fun v346 y347 =>
 SV.cP v346 fun y353 =>
 D 29 [(AV.one (V1.s (SV.ptr y353))), (AV.one (V1.s (SV.str [123])))] S342 fun v354 S355 =>
 avT v354 fun y357 =>
 endL y357 (J 7 [(AV.one (V1.s (SV.ptr p1))), (AV.one (V1.s (SV.ptr p2))), (AV.one (V1.s (SV.ptr p3)))] S355 K)
noncomputable def F19_q51 (D J : Disp) (S : St) (p1 : PV) (p2 : PV) (p3 : PV) (y310 : PV) (K : AV → St → Prop) : Prop :=
 D 29 [(AV.one (V1.s (SV.ptr y310))), (AV.one (V1.s (SV.str [115, 116, 114, 117, 99, 116])))] S fun v311 S312 =>
 avT v311 fun y314 =>
 endL y314 (PV.cs p1 fun b315 n316 =>
 St.at S312 b315 n316 fun y317 =>
 uncK y317 fun v318 y319 =>
 SV.cP v318 fun y325 =>
 D 30 [(AV.one (V1.s (SV.ptr y325)))] S312 fun v326 S327 =>
 scK v326 fun v329 =>
 SV.cS v329 fun y333 =>
 PV.cs p3 fun b334 n335 =>
 let n336 : Nat := (n335 + 0);
 St.wr S327 b334 n336 [(SV.str [115, 116, 114, 117, 99, 116])] fun S337 =>
 F19_q50 D J p1 p2 p3 y333 S337 K)
noncomputable def F19_q52 (D J : Disp) (p2 : PV) (S638 : St) (K : AV → St → Prop) : Prop :=
 PV.cs p2 fun b639 n640 =>
 St.at S638 b639 n640 fun y641 =>
 uncK y641 fun v642 y643 =>
 SV.cS v642 fun y648 =>
 uncK y643 fun v649 y650 =>
 SV.cI IntKind.i64 v649 fun x654 =>
 uncK y650 fun v655 y656 =>
 SV.cS v655 fun y661 =>
 uncK y656 fun v662 y663 =>
 SV.cI IntKind.i64 v662 fun x667 =>
 uncK y663 fun v668 y669 =>
 SV.cS v668 fun y674 =>
 uncK y669 fun v675 y676 =>
 SV.cI IntKind.u64 v675 fun x680 =>
 uncK y676 fun v681 y682 =>
 SV.cB v681 fun y684 =>
 uncK y682 fun v685 y686 =>
 SV.cL v685 fun y693 =>
 uncK y686 fun v694 y695 =>
 SV.cP v694 fun y701 =>
 uncK y695 fun v702 y703 =>
 SV.cL v702 fun y710 =>
 uncK y703 fun v711 y712 =>
 SV.cB v711 fun y714 =>
 K ((AV.one (V1.agg [(SV.str y648), (SV.int IntKind.i64 x654), (SV.str y661), (SV.int IntKind.i64 x667), (SV.str y674), (SV.int IntKind.u64 x680), (SV.bool y684), (SV.sl y693), (SV.ptr y701), (SV.sl y710), (SV.bool y714)]))) S638
noncomputable def F19_q53 (D J : Disp) (p2 : PV) (p3 : PV) (S559 : St) (K : AV → St → Prop) : Prop :=
 PV.cs p3 fun b560 n561 =>
 St.at S559 b560 n561 fun y562 =>
 uncK y562 fun v563 y564 =>
 SV.cS v563 fun y569 =>
 uncK y564 fun v570 y571 =>
 SV.cI IntKind.i64 v570 fun x575 =>
 uncK y571 fun v576 y577 =>
 SV.cS v576 fun y582 =>
 uncK y577 fun v583 y584 =>
 SV.cI IntKind.i64 v583 fun x588 =>
 uncK y584 fun v589 y590 =>
 SV.cS v589 fun y595 =>
 uncK y590 fun v596 y597 =>
 SV.cI IntKind.u64 v596 fun x601 =>
 uncK y597 fun v602 y603 =>
 SV.cB v602 fun y605 =>
 uncK y603 fun v606 y607 =>
 SV.cL v606 fun y614 =>
 uncK y607 fun v615 y616 =>
 SV.cP v615 fun y622 =>
 uncK y616 fun v623 y624 =>
 SV.cL v623 fun y631 =>
 uncK y624 fun v632 y633 =>
 SV.cB v632 fun y635 =>
 PV.cs p2 fun b636 n637 =>
 St.wr S559 b636 n637 [(SV.str y569), (SV.int IntKind.i64 x575), (SV.str y582), (SV.int IntKind.i64 x588), (SV.str y595), (SV.int IntKind.u64 x601), (SV.bool y605), (SV.sl y614), (SV.ptr y622), (SV.sl y631), (SV.bool y635)] fun S638 =>
 F19_q52 D J p2 S638 K
noncomputable def F19_q54 (D J : Disp) (p1 : PV) (p2 : PV) (p3 : PV) (S518 : St) (K : AV → St → Prop) : Prop :=
 PV.cs p1 fun b522 n523 =>
 St.at S518 b522 n523 fun y524 =>
 uncK y524 fun v525 y526 =>
 SV.cP v525 fun y532 =>
 PV.cs y532 fun b533 n534 =>
 let n535 : Nat := (n534 + 3);
 St.at S518 b533 n535 fun y536 =>
 uncK y536 fun v537 y538 =>
 SV.cM v537 fun y546 =>
 PV.cs p3 fun b547 n548 =>
 let n549 : Nat := (n548 + 2);
 let n550 : Nat := (n549 + 2);
 St.at S518 b547 n550 fun y551 =>
 uncK y551 fun v552 y553 =>
 SV.cS v552 fun y558 =>
 St.mput SynP S518 9 y546 (V1.s (SV.str y558)) (V1.s (SV.bool Bool.true)) fun S559 =>
 F19_q53 D J p2 p3 S559 K
noncomputable def F19_q55 (D J : Disp) (p2 : PV) (S897 : St) (K : AV → St → Prop) : Prop :=
 PV.cs p2 fun b898 n899 =>
 St.at S897 b898 n899 fun y900 =>
 uncK y900 fun v901 y902 =>
 SV.cS v901 fun y907 =>
 uncK y902 fun v908 y909 =>
 SV.cI IntKind.i64 v908 fun x913 =>
 uncK y909 fun v914 y915 =>
 SV.cS v914 fun y920 =>
 uncK y915 fun v921 y922 =>
 SV.cI IntKind.i64 v921 fun x926 =>
 uncK y922 fun v927 y928 =>
 SV.cS v927 fun y933 =>
 uncK y928 fun v934 y935 =>
 SV.cI IntKind.u64 v934 fun x939 =>
 uncK y935 fun v940 y941 =>
 SV.cB v940 fun y943 =>
 uncK y941 fun v944 y945 =>
 SV.cL v944 fun y952 =>
 uncK y945 fun v953 y954 =>
 SV.cP v953 fun y960 =>
 uncK y954 fun v961 y962 =>
 SV.cL v961 fun y969 =>
 uncK y962 fun v970 y971 =>
 SV.cB v970 fun y973 =>
 K ((AV.one (V1.agg [(SV.str y907), (SV.int IntKind.i64 x913), (SV.str y920), (SV.int IntKind.i64 x926), (SV.str y933), (SV.int IntKind.u64 x939), (SV.bool y943), (SV.sl y952), (SV.ptr y960), (SV.sl y969), (SV.bool y973)]))) S897
noncomputable def F19_q56 (D J : Disp) (p2 : PV) (p3 : PV) (S518 : St) (K : AV → St → Prop) : Prop :=
 PV.cs p3 fun b819 n820 =>
 St.at S518 b819 n820 fun y821 =>
 uncK y821 fun v822 y823 =>
 SV.cS v822 fun y828 =>
 uncK y823 fun v829 y830 =>
 SV.cI IntKind.i64 v829 fun x834 =>
 uncK y830 fun v835 y836 =>
 SV.cS v835 fun y841 =>
 uncK y836 fun v842 y843 =>
 SV.cI IntKind.i64 v842 fun x847 =>
 uncK y843 fun v848 y849 =>
 SV.cS v848 fun y854 =>
 uncK y849 fun v855 y856 =>
 SV.cI IntKind.u64 v855 fun x860 =>
 uncK y856 fun v861 y862 =>
 SV.cB v861 fun y864 =>
 uncK y862 fun v865 y866 =>
 SV.cL v865 fun y873 =>
 uncK y866 fun v874 y875 =>
 SV.cP v874 fun y881 =>
 uncK y875 fun v882 y883 =>
 SV.cL v882 fun y890 =>
 uncK y883 fun v891 y892 =>
 SV.cB v891 fun y894 =>
 PV.cs p2 fun b895 n896 =>
 St.wr S518 b895 n896 [(SV.str y828), (SV.int IntKind.i64 x834), (SV.str y841), (SV.int IntKind.i64 x847), (SV.str y854), (SV.int IntKind.u64 x860), (SV.bool y864), (SV.sl y873), (SV.ptr y881), (SV.sl y890), (SV.bool y894)] fun S897 =>
 F19_q55 D J p2 S897 K
noncomputable def F19_q57 (D J : Disp) (p1 : PV) (p2 : PV) (p3 : PV) (S490 : St) (y501 : PV) (K : AV → St → Prop) : Prop :=
 D 29 [(AV.one (V1.s (SV.ptr y501))), (AV.one (V1.s (SV.str [59])))] S490 fun v502 S503 =>
 avT v502 fun y505 =>
 endL y505 (PV.cs p1 fun b506 n507 =>
 St.at S503 b506 n507 fun y508 =>
 uncK y508 fun v509 y510 =>
 SV.cP v509 fun y516 =>
 D 18 [(AV.one (V1.s (SV.ptr y516)))] S503 fun v517 S518 =>
 scK v517 fun v520 =>
 SV.cB v520 fun y521 =>
 ifK y521
 (F19_q54 D J p1 p2 p3 S518 K)
 (F19_q56 D J p2 p3 S518 K))
noncomputable def F19_q58 (D J : Disp) (p1 : PV) (p2 : PV) (p3 : PV) (S461 : St) (y474 : PV) (b475 : Bk) (n476 : Nat) (K : AV → St → Prop) : Prop :=
 D 33 [(AV.one (V1.s (SV.ptr y474))), (AV.one (V1.s (SV.fn (FV.mk (Fn.func 34) [] [(Prod.mk b475 n476)]))))] S461 fun v477 S478 =>
 scK v477 fun v480 =>
 SV.cL v480 fun y486 =>
 PV.cs p3 fun b487 n488 =>
 let n489 : Nat := (n488 + 7);
 St.wr S478 b487 n489 [(SV.sl y486)] fun S490 =>
 PV.cs p1 fun b491 n492 =>
 St.at S490 b491 n492 fun y493 =>
 uncK y493 fun v494 y495 =>
 SV.cP v494 fun y501 =>
 F19_q57 D J p1 p2 p3 S490 y501 K
noncomputable def F19_q59 (D J : Disp) (p1 : PV) (p2 : PV) (p3 : PV) (y417 : (List Nat)) (x423 : Int) (y430 : (List Nat)) (x436 : Int) (y440 : Bool) (S444 : St) (b445 : Bk) (n447 : Nat) (K : AV → St → Prop) : Prop :=
 St.wr S444 b445 n447 [(SV.str y417), (SV.int IntKind.i64 x423), (SV.str y430), (SV.int IntKind.u64 x436), (SV.bool y440)] fun S448 =>
 PV.cs p1 fun b449 n450 =>
 St.at S448 b449 n450 fun y451 =>
 uncK y451 fun v452 y453 =>
 SV.cP v452 fun y459 =>
 D 29 [(AV.one (V1.s (SV.ptr y459))), (AV.one (V1.s (SV.str [40])))] S448 fun v460 S461 =>
 avT v460 fun y463 =>
 endL y463 (PV.cs p1 fun b464 n465 =>
 St.at S461 b464 n465 fun y466 =>
 uncK y466 fun v467 y468 =>
 SV.cP v467 fun y474 =>
 PV.cs p1 fun b475 n476 =>
 F19_q58 D J p1 p2 p3 S461 y474 b475 n476 K)
noncomputable def F19_q60 (D J : Disp) (p1 : PV) (p2 : PV) (p3 : PV) (S391 : St) (y405 : PV) (K : AV → St → Prop) : Prop :=
 D 31 [(AV.one (V1.s (SV.ptr y405))), (AV.one (V1.s (SV.bool Bool.false)))] S391 fun v406 S407 =>
 avA v406 fun y410 =>
 req (Nat.beq (List.length y410) 5) <|
 uncK y410 fun v411 y412 =>
 SV.cS v411 fun y417 =>
 uncK y412 fun v418 y419 =>
 SV.cI IntKind.i64 v418 fun x423 =>
 uncK y419 fun v424 y425 =>
 SV.cS v424 fun y430 =>
 uncK y425 fun v431 y432 =>
 SV.cI IntKind.u64 v431 fun x436 =>
 uncK y432 fun v437 y438 =>
 SV.cB v437 fun y440 =>
 PV.cs p3 fun b441 n442 =>
 let n443 : Nat := (n442 + 0);
 St.wr S407 b441 n443 [(SV.str [116, 121, 112, 101, 100, 101, 102])] fun S444 =>
 PV.cs p3 fun b445 n446 =>
 let n447 : Nat := (n446 + 2);
 F19_q59 D J p1 p2 p3 y417 x423 y430 x436 y440 S444 b445 n447 K
noncomputable def F19_q61 (D J : Disp) (p2 : PV) (S1321 : St) (K : AV → St → Prop) : Prop :=
 PV.cs p2 fun b1322 n1323 =>
 St.at S1321 b1322 n1323 fun y1324 =>
 uncK y1324 fun v1325 y1326 =>
 SV.cS v1325 fun y1331 =>
 uncK y1326 fun v1332 y1333 =>
 SV.cI IntKind.i64 v1332 fun x1337 =>
 uncK y1333 fun v1338 y1339 =>
 SV.cS v1338 fun y1344 =>
 uncK y1339 fun v1345 y1346 =>
 SV.cI IntKind.i64 v1345 fun x1350 =>
 uncK y1346 fun v1351 y1352 =>
 SV.cS v1351 fun y1357 =>
 uncK y1352 fun v1358 y1359 =>
 SV.cI IntKind.u64 v1358 fun x1363 =>
 uncK y1359 fun v1364 y1365 =>
 SV.cB v1364 fun y1367 =>
 uncK y1365 fun v1368 y1369 =>
 SV.cL v1368 fun y1376 =>
 uncK y1369 fun v1377 y1378 =>
 SV.cP v1377 fun y1384 =>
 uncK y1378 fun v1385 y1386 =>
 SV.cL v1385 fun y1393 =>
 uncK y1386 fun v1394 y1395 =>
 SV.cB v1394 fun y1397 =>
 K ((AV.one (V1.agg [(SV.str y1331), (SV.int IntKind.i64 x1337), (SV.str y1344), (SV.int IntKind.i64 x1350), (SV.str y1357), (SV.int IntKind.u64 x1363), (SV.bool y1367), (SV.sl y1376), (SV.ptr y1384), (SV.sl y1393), (SV.bool y1397)]))) S1321
noncomputable def F19_q62 (D J : Disp) (p2 : PV) (p3 : PV) (S1239 : St) (K : AV → St → Prop) : Prop :=
 PV.cs p3 fun b1243 n1244 =>
 St.at S1239 b1243 n1244 fun y1245 =>
 uncK y1245 fun v1246 y1247 =>
 SV.cS v1246 fun y1252 =>
 uncK y1247 fun v1253 y1254 =>
 SV.cI IntKind.i64 v1253 fun x1258 =>
 uncK y1254 fun v1259 y1260 =>
 SV.cS v1259 fun y1265 =>
 uncK y1260 fun v1266 y1267 =>
 SV.cI IntKind.i64 v1266 fun x1271 =>
 uncK y1267 fun v1272 y1273 =>
 SV.cS v1272 fun y1278 =>
 uncK y1273 fun v1279 y1280 =>
 SV.cI IntKind.u64 v1279 fun x1284 =>
 uncK y1280 fun v1285 y1286 =>
 SV.cB v1285 fun y1288 =>
 uncK y1286 fun v1289 y1290 =>
 SV.cL v1289 fun y1297 =>
 uncK y1290 fun v1298 y1299 =>
 SV.cP v1298 fun y1305 =>
 uncK y1299 fun v1306 y1307 =>
 SV.cL v1306 fun y1314 =>
 uncK y1307 fun v1315 y1316 =>
 SV.cB v1315 fun y1318 =>
 PV.cs p2 fun b1319 n1320 =>
 St.wr S1239 b1319 n1320 [(SV.str y1252), (SV.int IntKind.i64 x1258), (SV.str y1265), (SV.int IntKind.i64 x1271), (SV.str y1278), (SV.int IntKind.u64 x1284), (SV.bool y1288), (SV.sl y1297), (SV.ptr y1305), (SV.sl y1314), (SV.bool y1318)] fun S1321 =>
 F19_q61 D J p2 S1321 K
noncomputable def F19_q63 (D J : Disp) (p2 : PV) (S1615 : St) (K : AV → St → Prop) : Prop :=
 PV.cs p2 fun b1616 n1617 =>
 St.at S1615 b1616 n1617 fun y1618 =>
 uncK y1618 fun v1619 y1620 =>
 SV.cS v1619 fun y1625 =>
 uncK y1620 fun v1626 y1627 =>
 SV.cI IntKind.i64 v1626 fun x1631 =>
 uncK y1627 fun v1632 y1633 =>
 SV.cS v1632 fun y1638 =>
 uncK y1633 fun v1639 y1640 =>
 SV.cI IntKind.i64 v1639 fun x1644 =>
 uncK y1640 fun v1645 y1646 =>
 SV.cS v1645 fun y1651 =>
 uncK y1646 fun v1652 y1653 =>
 SV.cI IntKind.u64 v1652 fun x1657 =>
 uncK y1653 fun v1658 y1659 =>
 SV.cB v1658 fun y1661 =>
 uncK y1659 fun v1662 y1663 =>
 SV.cL v1662 fun y1670 =>
 uncK y1663 fun v1671 y1672 =>
 SV.cP v1671 fun y1678 =>
 uncK y1672 fun v1679 y1680 =>
 SV.cL v1679 fun y1687 =>
 uncK y1680 fun v1688 y1689 =>
 SV.cB v1688 fun y1691 =>
 K ((AV.one (V1.agg [(SV.str y1625), (SV.int IntKind.i64 x1631), (SV.str y1638), (SV.int IntKind.i64 x1644), (SV.str y1651), (SV.int IntKind.u64 x1657), (SV.bool y1661), (SV.sl y1670), (SV.ptr y1678), (SV.sl y1687), (SV.bool y1691)]))) S1615
noncomputable def F19_q64 (D J : Disp) (p2 : PV) (p3 : PV) (S1536 : St) (K : AV → St → Prop) : Prop :=
 PV.cs p3 fun b1537 n1538 =>
 St.at S1536 b1537 n1538 fun y1539 =>
 uncK y1539 fun v1540 y1541 =>
 SV.cS v1540 fun y1546 =>
 uncK y1541 fun v1547 y1548 =>
 SV.cI IntKind.i64 v1547 fun x1552 =>
 uncK y1548 fun v1553 y1554 =>
 SV.cS v1553 fun y1559 =>
 uncK y1554 fun v1560 y1561 =>
 SV.cI IntKind.i64 v1560 fun x1565 =>
 uncK y1561 fun v1566 y1567 =>
 SV.cS v1566 fun y1572 =>
 uncK y1567 fun v1573 y1574 =>
 SV.cI IntKind.u64 v1573 fun x1578 =>
 uncK y1574 fun v1579 y1580 =>
 SV.cB v1579 fun y1582 =>
 uncK y1580 fun v1583 y1584 =>
 SV.cL v1583 fun y1591 =>
 uncK y1584 fun v1592 y1593 =>
 SV.cP v1592 fun y1599 =>
 uncK y1593 fun v1600 y1601 =>
 SV.cL v1600 fun y1608 =>
 uncK y1601 fun v1609 y1610 =>
 SV.cB v1609 fun y1612 =>
 PV.cs p2 fun b1613 n1614 =>
 St.wr S1536 b1613 n1614 [(SV.str y1546), (SV.int IntKind.i64 x1552), (SV.str y1559), (SV.int IntKind.i64 x1565), (SV.str y1572), (SV.int IntKind.u64 x1578), (SV.bool y1582), (SV.sl y1591), (SV.ptr y1599), (SV.sl y1608), (SV.bool y1612)] fun S1615 =>
 F19_q63 D J p2 S1615 K
noncomputable def F19_q65 (D J : Disp) (p1 : PV) (p2 : PV) (p3 : PV) (S1497 : St) (y1508 : PV) (K : AV → St → Prop) : Prop :=
 D 29 [(AV.one (V1.s (SV.ptr y1508))), (AV.one (V1.s (SV.str [123])))] S1497 fun v1509 S1510 =>
 avT v1509 fun y1512 =>
 endL y1512 (PV.cs p1 fun b1513 n1514 =>
 St.at S1510 b1513 n1514 fun y1515 =>
 uncK y1515 fun v1516 y1517 =>
 SV.cP v1516 fun y1523 =>
 D 37 [(AV.one (V1.s (SV.ptr y1523)))] S1510 fun v1524 S1525 =>
 scK v1524 fun v1527 =>
 SV.cP v1527 fun y1532 =>
 PV.cs p3 fun b1533 n1534 =>
 let n1535 : Nat := (n1534 + 8);
 St.wr S1525 b1533 n1535 [(SV.ptr y1532)] fun S1536 =>
 F19_q64 D J p2 p3 S1536 K)
noncomputable def F19_q66 (D J : Disp) (p1 : PV) (p2 : PV) (p3 : PV) (S1226 : St) (y1237 : PV) (K : AV → St → Prop) : Prop :=
 D 32 [(AV.one (V1.s (SV.ptr y1237))), (AV.one (V1.s (SV.str [59])))] S1226 fun v1238 S1239 =>
 scK v1238 fun v1241 =>
 SV.cB v1241 fun y1242 =>
 ifK y1242
 (F19_q62 D J p2 p3 S1239 K)
 (PV.cs p3 fun b1494 n1495 =>
 let n1496 : Nat := (n1495 + 0);
 St.wr S1239 b1494 n1496 [(SV.str [102, 117, 110, 99])] fun S1497 =>
 PV.cs p1 fun b1498 n1499 =>
 St.at S1497 b1498 n1499 fun y1500 =>
 uncK y1500 fun v1501 y1502 =>
 SV.cP v1501 fun y1508 =>
 F19_q65 D J p1 p2 p3 S1497 y1508 K)
noncomputable def F19_q67 (D J : Disp) (p1 : PV) (p2 : PV) (p3 : PV) (S1192 : St) (y1206 : PV) (b1207 : Bk) (n1208 : Nat) (K : AV → St → Prop) : Prop :=
 D 33 [(AV.one (V1.s (SV.ptr y1206))), (AV.one (V1.s (SV.fn (FV.mk (Fn.func 36) [] [(Prod.mk b1207 n1208)]))))] S1192 fun v1209 S1210 =>
 scK v1209 fun v1212 =>
 SV.cL v1212 fun y1218 =>
 PV.cs p3 fun b1219 n1220 =>
 let n1221 : Nat := (n1220 + 7);
 St.wr S1210 b1219 n1221 [(SV.sl y1218)] fun S1222 =>
 PV.cs p3 fun b1223 n1224 =>
 let n1225 : Nat := (n1224 + 0);
 St.wr S1222 b1223 n1225 [(SV.str [112, 114, 111, 116, 111])] fun S1226 =>
 PV.cs p1 fun b1227 n1228 =>
 St.at S1226 b1227 n1228 fun y1229 =>
 uncK y1229 fun v1230 y1231 =>
 SV.cP v1230 fun y1237 =>
 F19_q66 D J p1 p2 p3 S1226 y1237 K
noncomputable def F19_q68 (D J : Disp) (p1 : PV) (p2 : PV) (p3 : PV) (S1897 : St) (y1916 : PV) (b1928 : Bk) (n1929 : Nat) (K : AV → St → Prop) : Prop :=
 D 39 [(AV.one (V1.s (SV.ptr y1916))), (AV.one (V1.s (SV.str [125]))), (AV.one (V1.s (SV.fn (FV.mk (Fn.func 40) [(Prod.mk b1928 n1929)] []))))] S1897 fun v1930 S1931 =>
 scK v1930 fun v1933 =>
 SV.cL v1933 fun y1939 =>
 PV.cs p3 fun b1940 n1941 =>
 let n1942 : Nat := (n1941 + 9);
 St.wr S1931 b1940 n1942 [(SV.sl y1939)] fun S1943 =>
 J 46 [(AV.one (V1.s (SV.ptr p1))), (AV.one (V1.s (SV.ptr p2))), (AV.one (V1.s (SV.ptr p3)))] S1943 K
noncomputable def F19_q69 (D J : Disp) (p1 : PV) (p2 : PV) (p3 : PV) (S1897 : St) (y1964 : PV) (K : AV → St → Prop) : Prop :=
 D 40 [(AV.one (V1.s (SV.ptr y1964)))] S1897 fun v1965 S1966 =>
 scK v1965 fun v1968 =>
 SV.cP v1968 fun y1973 =>
 let d1974 : (Sum Nat Nat) := (Sum.inl 1);
 let S1975 : St := (St.add S1966 (AO.cells [(SV.ptr y1973)] Op2.sh));
 PV.cs p3 fun b1976 n1977 =>
 let n1978 : Nat := (n1977 + 9);
 St.wr S1975 b1976 n1978 [(SV.sl (LV.mk (Bk.new (St.next S1966)) 0 1 d1974))] fun S1979 =>
 J 46 [(AV.one (V1.s (SV.ptr p1))), (AV.one (V1.s (SV.ptr p2))), (AV.one (V1.s (SV.ptr p3)))] S1979 K
noncomputable def F19_q70 (D J : Disp) (p1 : PV) (p2 : PV) (p3 : PV) (S1897 : St) (y1905 : Bool) (K : AV → St → Prop) : Prop :=
 ifK y1905
 (PV.cs p1 fun b1906 n1907 =>
 St.at S1897 b1906 n1907 fun y1908 =>
 uncK y1908 fun v1909 y1910 =>
 SV.cP v1909 fun y1916 =>
 PV.cs p1 fun b1917 n1918 =>
 St.at S1897 b1917 n1918 fun y1919 =>
 uncK y1919 fun v1920 y1921 =>
 SV.cP v1920 fun y1927 =>
 PV.cs y1927 fun b1928 n1929 =>
 F19_q68 D J p1 p2 p3 S1897 y1916 b1928 n1929 K)
 (PV.cs p1 fun b1954 n1955 =>
 St.at S1897 b1954 n1955 fun y1956 =>
 uncK y1956 fun v1957 y1958 =>
 SV.cP v1957 fun y1964 =>
 F19_q69 D J p1 p2 p3 S1897 y1964 K)
noncomputable def F19_q71 (D J : Disp) (p1 : PV) (p2 : PV) (p3 : PV) (S1874 : St) (y1888 : PV) (K : AV → St → Prop) : Prop :=
 D 32 [(AV.one (V1.s (SV.ptr y1888))), (AV.one (V1.s (SV.str [123])))] S1874 fun v1889 S1890 =>
 scK v1889 fun v1892 =>
 SV.cB v1892 fun y1893 =>
 PV.cs p3 fun b1894 n1895 =>
 let n1896 : Nat := (n1895 + 10);
 St.wr S1890 b1894 n1896 [(SV.bool y1893)] fun S1897 =>
 PV.cs p3 fun b1898 n1899 =>
 let n1900 : Nat := (n1899 + 10);
 St.at S1897 b1898 n1900 fun y1901 =>
 uncK y1901 fun v1902 y1903 =>
 SV.cB v1902 fun y1905 =>
 F19_q70 D J p1 p2 p3 S1897 y1905 K
noncomputable def F19_q72 (D J : Disp) (p1 : PV) (p2 : PV) (p3 : PV) (S1861 : St) (y1872 : PV) (K : AV → St → Prop) : Prop :=
 D 32 [(AV.one (V1.s (SV.ptr y1872))), (AV.one (V1.s (SV.str [61])))] S1861 fun v1873 S1874 =>
 scK v1873 fun v1876 =>
 SV.cB v1876 fun y1877 =>
 ifK y1877
 (PV.cs p1 fun b1878 n1879 =>
 St.at S1874 b1878 n1879 fun y1880 =>
 uncK y1880 fun v1881 y1882 =>
 SV.cP v1881 fun y1888 =>
 F19_q71 D J p1 p2 p3 S1874 y1888 K)
 (J 46 [(AV.one (V1.s (SV.ptr p1))), (AV.one (V1.s (SV.ptr p2))), (AV.one (V1.s (SV.ptr p3)))] S1874 K)
noncomputable def F19_q73 (D J : Disp) (p1 : PV) (p2 : PV) (p3 : PV) (S1837 : St) (x1846 : Int) (y1851 : Bool) (K : AV → St → Prop) : Prop :=
 PV.cs p3 fun b1852 n1853 =>
 let n1854 : Nat := (n1853 + 2);
 let n1855 : Nat := (n1854 + 3);
 St.wr S1837 b1852 n1855 [(SV.int IntKind.u64 x1846)] fun S1856 =>
 PV.cs p3 fun b1857 n1858 =>
 let n1859 : Nat := (n1858 + 2);
 let n1860 : Nat := (n1859 + 4);
 St.wr S1856 b1857 n1860 [(SV.bool y1851)] fun S1861 =>
 PV.cs p1 fun b1862 n1863 =>
 St.at S1861 b1862 n1863 fun y1864 =>
 uncK y1864 fun v1865 y1866 =>
 SV.cP v1865 fun y1872 =>
 F19_q72 D J p1 p2 p3 S1861 y1872 K
noncomputable def F19_q74 (D J : Disp) (p1 : PV) (p2 : PV) (p3 : PV) (S1824 : St) (K : AV → St → Prop) : Prop :=
 PV.cs p1 fun b1825 n1826 =>
 St.at S1824 b1825 n1826 fun y1827 =>
 uncK y1827 fun v1828 y1829 =>
 SV.cP v1828 fun y1835 =>
 D 38 [(AV.one (V1.s (SV.ptr y1835)))] S1824 fun v1836 S1837 =>
 avT v1836 fun y1839 =>
 uncV y1839 fun v1840 y1841 =>
 v1S v1840 fun v1843 =>
 SV.cI IntKind.u64 v1843 fun x1846 =>
 uncV y1841 fun v1847 y1848 =>
 v1S v1847 fun v1850 =>
 SV.cB v1850 fun y1851 =>
 endL y1848 (F19_q73 D J p1 p2 p3 S1837 x1846 y1851 K)
noncomputable def F19_q75 (D J : Disp) (p1 : PV) (p2 : PV) (p3 : PV) (S1179 : St) (y1190 : PV) (K : AV → St → Prop) : Prop :=
 D 32 [(AV.one (V1.s (SV.ptr y1190))), (AV.one (V1.s (SV.str [40])))] S1179 fun v1191 S1192 =>
 scK v1191 fun v1194 =>
 SV.cB v1194 fun y1195 =>
 ifK y1195
 (PV.cs p1 fun b1196 n1197 =>
 St.at S1192 b1196 n1197 fun y1198 =>
 uncK y1198 fun v1199 y1200 =>
 SV.cP v1199 fun y1206 =>
 PV.cs p1 fun b1207 n1208 =>
 F19_q67 D J p1 p2 p3 S1192 y1206 b1207 n1208 K)
 (PV.cs p3 fun b1821 n1822 =>
 let n1823 : Nat := (n1822 + 0);
 St.wr S1192 b1821 n1823 [(SV.str [118, 97, 114])] fun S1824 =>
 F19_q74 D J p1 p2 p3 S1824 K)
noncomputable def F19_q76 (D J : Disp) (p1 : PV) (p2 : PV) (p3 : PV) (S391 : St) (y1140 : PV) (K : AV → St → Prop) : Prop :=
 D 31 [(AV.one (V1.s (SV.ptr y1140))), (AV.one (V1.s (SV.bool Bool.false)))] S391 fun v1141 S1142 =>
 avA v1141 fun y1145 =>
 req (Nat.beq (List.length y1145) 5) <|
 uncK y1145 fun v1146 y1147 =>
 SV.cS v1146 fun y1152 =>
 uncK y1147 fun v1153 y1154 =>
 SV.cI IntKind.i64 v1153 fun x1158 =>
 uncK y1154 fun v1159 y1160 =>
 SV.cS v1159 fun y1165 =>
 uncK y1160 fun v1166 y1167 =>
 SV.cI IntKind.u64 v1166 fun x1171 =>
 uncK y1167 fun v1172 y1173 =>
 SV.cB v1172 fun y1175 =>
 PV.cs p3 fun b1176 n1177 =>
 let n1178 : Nat := (n1177 + 2);
 St.wr S1142 b1176 n1178 [(SV.str y1152), (SV.int IntKind.i64 x1158), (SV.str y1165), (SV.int IntKind.u64 x1171), (SV.bool y1175)] fun S1179 =>
 PV.cs p1 fun b1180 n1181 =>
 St.at S1179 b1180 n1181 fun y1182 =>
 uncK y1182 fun v1183 y1184 =>
 SV.cP v1183 fun y1190 =>
 F19_q75 D J p1 p2 p3 S1179 y1190 K
noncomputable def F19_q77 (D J : Disp) (S : St) (p1 : PV) (p2 : PV) (p3 : PV) (y389 : PV) (K : AV → St → Prop) : Prop :=
 D 32 [(AV.one (V1.s (SV.ptr y389))), (AV.one (V1.s (SV.str [116, 121, 112, 101, 100, 101, 102])))] S fun v390 S391 =>
 scK v390 fun v393 =>
 SV.cB v393 fun y394 =>
 ifK y394
 (PV.cs p1 fun b395 n396 =>
 St.at S391 b395 n396 fun y397 =>
 uncK y397 fun v398 y399 =>
 SV.cP v398 fun y405 =>
 F19_q60 D J p1 p2 p3 S391 y405 K)
 (PV.cs p1 fun b1130 n1131 =>
 St.at S391 b1130 n1131 fun y1132 =>
 uncK y1132 fun v1133 y1134 =>
 SV.cP v1133 fun y1140 =>
 F19_q76 D J p1 p2 p3 S391 y1140 K)
noncomputable def F19_3 (D J : Disp) (p1 : PV) (p2 : PV) (p3 : PV) (c8 : Bool) (S : St) (K : AV → St → Prop) : Prop :=
 ifK c8
 (PV.cs p1 fun b300 n301 =>
 St.at S b300 n301 fun y302 =>
 uncK y302 fun v303 y304 =>
 SV.cP v303 fun y310 =>
 F19_q51 D J S p1 p2 p3 y310 K)
 (PV.cs p1 fun b379 n380 =>
 St.at S b379 n380 fun y381 =>
 uncK y381 fun v382 y383 =>
 SV.cP v382 fun y389 =>
 F19_q77 D J S p1 p2 p3 y389 K)
noncomputable def X19_3 : X := (.br (.op (.op (.op (.jmp 7 [1, 2, 3])))) (.op (.br (.op (.op (.op (.op (.op (.br (.op (.op .ret)) (.op .ret))))))) (.op (.op (.br (.op (.op (.op (.br (.op .ret) (.op (.op (.op (.op .ret)))))))) (.op (.op (.op (.br (.op (.op (.br (.op (.jmp 46 [1, 2, 3])) (.op (.jmp 46 [1, 2, 3]))))) (.jmp 46 [1, 2, 3])))))))))))
theorem F19_3_eq (D J : Disp) (p1 : PV) (p2 : PV) (p3 : PV) (c8 : Bool) (S : St) (K : AV → St → Prop) : F19_3 D J p1 p2 p3 c8 S K = execK SynP SynG Go.Proofs.Tryz.f19 (typed SynP D) J plans19 X19_3 (T19 3).1 (envOf (T19 3).2 [(AV.one (V1.s (SV.ptr p1))), (AV.one (V1.s (SV.ptr p2))), (AV.one (V1.s (SV.ptr p3))), (AV.one (V1.s (SV.bool c8)))]) S K := by kernel_rfl
noncomputable def F19_q78 (D J : Disp) (p1 : PV) (p2 : PV) (p3 : PV) (S407 : St) (c411 : Bool) (K : AV → St → Prop) : Prop :=
 ifK c411
 (J 10 [(AV.one (V1.s (SV.ptr p1))), (AV.one (V1.s (SV.ptr p2))), (AV.one (V1.s (SV.ptr p3))), (AV.one (V1.s (SV.bool Bool.true)))] S407 K)
 (PV.cs p1 fun b412 n413 =>
 St.at S407 b412 n413 fun y414 =>
 uncK y414 fun v415 y416 =>
 SV.cP v415 fun y422 =>
 D 32 [(AV.one (V1.s (SV.ptr y422))), (AV.one (V1.s (SV.str [125])))] S407 fun v423 S424 =>
 scK v423 fun v426 =>
 SV.cB v426 fun y427 =>
 J 10 [(AV.one (V1.s (SV.ptr p1))), (AV.one (V1.s (SV.ptr p2))), (AV.one (V1.s (SV.ptr p3))), (AV.one (V1.s (SV.bool y427)))] S424 K)
noncomputable def F19_q79 (D J : Disp) (p1 : PV) (p2 : PV) (p3 : PV) (S379 : St) (y390 : PV) (K : AV → St → Prop) : Prop :=
 D 29 [(AV.one (V1.s (SV.ptr y390))), (AV.one (V1.s (SV.str [59])))] S379 fun v391 S392 =>
 avT v391 fun y394 =>
 endL y394 (PV.cs p1 fun b395 n396 =>
 St.at S392 b395 n396 fun y397 =>
 uncK y397 fun v398 y399 =>
 SV.cP v398 fun y405 =>
 D 18 [(AV.one (V1.s (SV.ptr y405)))] S392 fun v406 S407 =>
 scK v406 fun v409 =>
 SV.cB v409 fun y410 =>
 let c411 : Bool := (Bool.not y410);
 F19_q78 D J p1 p2 p3 S407 c411 K)
noncomputable def F19_q80 (D J : Disp) (p1 : PV) (p2 : PV) (p3 : PV) (y312 : LV) (S325 : St) (y335 : (List Nat)) (x341 : Int) (y348 : (List Nat)) (x354 : Int) (y358 : Bool) (K : AV → St → Prop) : Prop :=
 let o369 : AO := (AO.cells [(SV.str y335), (SV.int IntKind.i64 x341), (SV.str y348), (SV.int IntKind.u64 x354), (SV.bool y358)] Op2.sh);
 let d370 : (Sum Nat Nat) := (Sum.inl 1);
 let S371 : St := (St.add S325 o369);
 St.src S371 5 (LV.mk (Bk.new (St.next S325)) 0 1 d370) fun y372 n373 =>
 St.app S371 48 5 56 y312 y372 n373 fun y374 S375 =>
 PV.cs p3 fun b376 n377 =>
 let n378 : Nat := (n377 + 7);
 St.wr S375 b376 n378 [(SV.sl y374)] fun S379 =>
 PV.cs p1 fun b380 n381 =>
 St.at S379 b380 n381 fun y382 =>
 uncK y382 fun v383 y384 =>
 SV.cP v383 fun y390 =>
 F19_q79 D J p1 p2 p3 S379 y390 K
noncomputable def F19_q81 (D J : Disp) (S : St) (p1 : PV) (p2 : PV) (p3 : PV) (b300 : Bk) (n302 : Nat) (y312 : LV) (y323 : PV) (K : AV → St → Prop) : Prop :=
 D 31 [(AV.one (V1.s (SV.ptr y323))), (AV.one (V1.s (SV.bool Bool.true)))] S fun v324 S325 =>
 avA v324 fun y328 =>
 req (Nat.beq (List.length y328) 5) <|
 uncK y328 fun v329 y330 =>
 SV.cS v329 fun y335 =>
 uncK y330 fun v336 y337 =>
 SV.cI IntKind.i64 v336 fun x341 =>
 uncK y337 fun v342 y343 =>
 SV.cS v342 fun y348 =>
 uncK y343 fun v349 y350 =>
 SV.cI IntKind.u64 v349 fun x354 =>
 uncK y350 fun v355 y356 =>
 SV.cB v355 fun y358 =>
 St.at S325 b300 n302 fun y359 =>
 uncK y359 fun v360 y361 =>
 SV.cL v360 fun y368 =>
 req (sameAV (AV.one (V1.s (SV.sl y368))) (AV.one (V1.s (SV.sl y312)))) <|
 F19_q80 D J p1 p2 p3 y312 S325 y335 x341 y348 x354 y358 K
noncomputable def F19_7 (D J : Disp) (p1 : PV) (p2 : PV) (p3 : PV) (S : St) (K : AV → St → Prop) : Prop :=
 PV.cs p3 fun b300 n301 =>
 let n302 : Nat := (n301 + 7);
 St.at S b300 n302 fun y303 =>
 uncK y303 fun v304 y305 =>
 SV.cL v304 fun y312 =>
 PV.cs p1 fun b313 n314 =>
 St.at S b313 n314 fun y315 =>
 uncK y315 fun v316 y317 =>
 SV.cP v316 fun y323 =>
 F19_q81 D J S p1 p2 p3 b300 n302 y312 y323 K
noncomputable def X19_7 : X := (.op (.op (.op (.jmp 10 [1, 2, 3, 47]))))
theorem F19_7_eq (D J : Disp) (p1 : PV) (p2 : PV) (p3 : PV) (S : St) (K : AV → St → Prop) : F19_7 D J p1 p2 p3 S K = execK SynP SynG Go.Proofs.Tryz.f19 (typed SynP D) J plans19 X19_7 (T19 7).1 (envOf (T19 7).2 [(AV.one (V1.s (SV.ptr p1))), (AV.one (V1.s (SV.ptr p2))), (AV.one (V1.s (SV.ptr p3)))]) S K := by kernel_rfl
noncomputable def F19_q84 (D J : Disp) (p2 : PV) (S393 : St) (K : AV → St → Prop) : Prop :=
 PV.cs p2 fun b394 n395 =>
 St.at S393 b394 n395 fun y396 =>
 uncK y396 fun v397 y398 =>
 SV.cS v397 fun y403 =>
 uncK y398 fun v404 y405 =>
 SV.cI IntKind.i64 v404 fun x409 =>
 uncK y405 fun v410 y411 =>
 SV.cS v410 fun y416 =>
 uncK y411 fun v417 y418 =>
 SV.cI IntKind.i64 v417 fun x422 =>
 uncK y418 fun v423 y424 =>
 SV.cS v423 fun y429 =>
 uncK y424 fun v430 y431 =>
 SV.cI IntKind.u64 v430 fun x435 =>
 uncK y431 fun v436 y437 =>
 SV.cB v436 fun y439 =>
 uncK y437 fun v440 y441 =>
 SV.cL v440 fun y448 =>
 uncK y441 fun v449 y450 =>
 SV.cP v449 fun y456 =>
 uncK y450 fun v457 y458 =>
 SV.cL v457 fun y465 =>
 uncK y458 fun v466 y467 =>
 SV.cB v466 fun y469 =>
 K ((AV.one (V1.agg [(SV.str y403), (SV.int IntKind.i64 x409), (SV.str y416), (SV.int IntKind.i64 x422), (SV.str y429), (SV.int IntKind.u64 x435), (SV.bool y439), (SV.sl y448), (SV.ptr y456), (SV.sl y465), (SV.bool y469)]))) S393
noncomputable def F19_q85 (D J : Disp) (p2 : PV) (p3 : PV) (S312 : St) (K : AV → St → Prop) : Prop :=
 PV.cs p3 fun b315 n316 =>
 St.at S312 b315 n316 fun y317 =>
 uncK y317 fun v318 y319 =>
 SV.cS v318 fun y324 =>
 uncK y319 fun v325 y326 =>
 SV.cI IntKind.i64 v325 fun x330 =>
 uncK y326 fun v331 y332 =>
 SV.cS v331 fun y337 =>
 uncK y332 fun v338 y339 =>
 SV.cI IntKind.i64 v338 fun x343 =>
 uncK y339 fun v344 y345 =>
 SV.cS v344 fun y350 =>
 uncK y345 fun v351 y352 =>
 SV.cI IntKind.u64 v351 fun x356 =>
 uncK y352 fun v357 y358 =>
 SV.cB v357 fun y360 =>
 uncK y358 fun v361 y362 =>
 SV.cL v361 fun y369 =>
 uncK y362 fun v370 y371 =>
 SV.cP v370 fun y377 =>
 uncK y371 fun v378 y379 =>
 SV.cL v378 fun y386 =>
 uncK y379 fun v387 y388 =>
 SV.cB v387 fun y390 =>
 PV.cs p2 fun b391 n392 =>
 St.wr S312 b391 n392 [(SV.str y324), (SV.int IntKind.i64 x330), (SV.str y337), (SV.int IntKind.i64 x343), (SV.str y350), (SV.int IntKind.u64 x356), (SV.bool y360), (SV.sl y369), (SV.ptr y377), (SV.sl y386), (SV.bool y390)] fun S393 =>
 F19_q84 D J p2 S393 K
noncomputable def F19_10 (D J : Disp) (p1 : PV) (p2 : PV) (p3 : PV) (c47 : Bool) (S : St) (K : AV → St → Prop) : Prop :=
 ifK c47
 (PV.cs p1 fun b300 n301 =>
 St.at S b300 n301 fun y302 =>
 uncK y302 fun v303 y304 =>
 SV.cP v303 fun y310 =>
 D 29 [(AV.one (V1.s (SV.ptr y310))), (AV.one (V1.s (SV.str [59])))] S fun v311 S312 =>
 avT v311 fun y314 =>
 endL y314 (F19_q85 D J p2 p3 S312 K))
 (J 7 [(AV.one (V1.s (SV.ptr p1))), (AV.one (V1.s (SV.ptr p2))), (AV.one (V1.s (SV.ptr p3)))] S K)
noncomputable def X19_10 : X := (.br (.op (.op .ret)) (.jmp 7 [1, 2, 3]))
theorem F19_10_eq (D J : Disp) (p1 : PV) (p2 : PV) (p3 : PV) (c47 : Bool) (S : St) (K : AV → St → Prop) : F19_10 D J p1 p2 p3 c47 S K = execK SynP SynG Go.Proofs.Tryz.f19 (typed SynP D) J plans19 X19_10 (T19 10).1 (envOf (T19 10).2 [(AV.one (V1.s (SV.ptr p1))), (AV.one (V1.s (SV.ptr p2))), (AV.one (V1.s (SV.ptr p3))), (AV.one (V1.s (SV.bool c47)))]) S K := by kernel_rfl
noncomputable def F19_q82 (D J : Disp) (p2 : PV) (S393 : St) (K : AV → St → Prop) : Prop :=
 PV.cs p2 fun b394 n395 =>
 St.at S393 b394 n395 fun y396 =>
 uncK y396 fun v397 y398 =>
 SV.cS v397 fun y403 =>
 uncK y398 fun v404 y405 =>
 SV.cI IntKind.i64 v404 fun x409 =>
 uncK y405 fun v410 y411 =>
 SV.cS v410 fun y416 =>
 uncK y411 fun v417 y418 =>
 SV.cI IntKind.i64 v417 fun x422 =>
 uncK y418 fun v423 y424 =>
 SV.cS v423 fun y429 =>
 uncK y424 fun v430 y431 =>
 SV.cI IntKind.u64 v430 fun x435 =>
 uncK y431 fun v436 y437 =>
 SV.cB v436 fun y439 =>
 uncK y437 fun v440 y441 =>
 SV.cL v440 fun y448 =>
 uncK y441 fun v449 y450 =>
 SV.cP v449 fun y456 =>
 uncK y450 fun v457 y458 =>
 SV.cL v457 fun y465 =>
 uncK y458 fun v466 y467 =>
 SV.cB v466 fun y469 =>
 K ((AV.one (V1.agg [(SV.str y403), (SV.int IntKind.i64 x409), (SV.str y416), (SV.int IntKind.i64 x422), (SV.str y429), (SV.int IntKind.u64 x435), (SV.bool y439), (SV.sl y448), (SV.ptr y456), (SV.sl y465), (SV.bool y469)]))) S393
noncomputable def F19_q83 (D J : Disp) (p2 : PV) (p3 : PV) (S312 : St) (K : AV → St → Prop) : Prop :=
 PV.cs p3 fun b315 n316 =>
 St.at S312 b315 n316 fun y317 =>
 uncK y317 fun v318 y319 =>
 SV.cS v318 fun y324 =>
 uncK y319 fun v325 y326 =>
 SV.cI IntKind.i64 v325 fun x330 =>
 uncK y326 fun v331 y332 =>
 SV.cS v331 fun y337 =>
 uncK y332 fun v338 y339 =>
 SV.cI IntKind.i64 v338 fun x343 =>
 uncK y339 fun v344 y345 =>
 SV.cS v344 fun y350 =>
 uncK y345 fun v351 y352 =>
 SV.cI IntKind.u64 v351 fun x356 =>
 uncK y352 fun v357 y358 =>
 SV.cB v357 fun y360 =>
 uncK y358 fun v361 y362 =>
 SV.cL v361 fun y369 =>
 uncK y362 fun v370 y371 =>
 SV.cP v370 fun y377 =>
 uncK y371 fun v378 y379 =>
 SV.cL v378 fun y386 =>
 uncK y379 fun v387 y388 =>
 SV.cB v387 fun y390 =>
 PV.cs p2 fun b391 n392 =>
 St.wr S312 b391 n392 [(SV.str y324), (SV.int IntKind.i64 x330), (SV.str y337), (SV.int IntKind.i64 x343), (SV.str y350), (SV.int IntKind.u64 x356), (SV.bool y360), (SV.sl y369), (SV.ptr y377), (SV.sl y386), (SV.bool y390)] fun S393 =>
 F19_q82 D J p2 S393 K
noncomputable def F19_46 (D J : Disp) (p1 : PV) (p2 : PV) (p3 : PV) (S : St) (K : AV → St → Prop) : Prop :=
 PV.cs p1 fun b300 n301 =>
 St.at S b300 n301 fun y302 =>
 uncK y302 fun v303 y304 =>
 SV.cP v303 fun y310 =>
 D 29 [(AV.one (V1.s (SV.ptr y310))), (AV.one (V1.s (SV.str [59])))] S fun v311 S312 =>
 avT v311 fun y314 =>
 endL y314 (F19_q83 D J p2 p3 S312 K)
noncomputable def X19_46 : X := (.op (.op .ret))
theorem F19_46_eq (D J : Disp) (p1 : PV) (p2 : PV) (p3 : PV) (S : St) (K : AV → St → Prop) : F19_46 D J p1 p2 p3 S K = execK SynP SynG Go.Proofs.Tryz.f19 (typed SynP D) J plans19 X19_46 (T19 46).1 (envOf (T19 46).2 [(AV.one (V1.s (SV.ptr p1))), (AV.one (V1.s (SV.ptr p2))), (AV.one (V1.s (SV.ptr p3)))]) S K := by kernel_rfl
noncomputable abbrev A19_0 (D J : Disp) (vals : List AV) (S : St) (K : AV → St → Prop) : Prop :=
  uncA vals fun a9001 r9002 => scK a9001 fun s9004 => SV.cP s9004 fun p0 => endL r9002 <| F19_0 D J p0 S K
theorem A19_0_ok {D J : Disp} (hD : DOK SynP SynG D) (hJ : JOK SynP SynG Go.Proofs.Tryz.f19 T19 J) {vals : List AV} {S : St} {K : AV → St → Prop} (h0 : A19_0 D J vals S K) : Runs SynP SynG Go.Proofs.Tryz.f19 (T19 0).1 (envOf (T19 0).2 vals) S K := by
  obtain ⟨a9001, r9002, rfl, h3⟩ := uncA_some h0
  obtain ⟨s9004, rfl, h5⟩ := scK_some h3
  obtain ⟨p0, rfl, h6⟩ := cP_some h5
  obtain ⟨rfl, h7⟩ := endL_some h6
  rw [F19_0_eq] at h7
  exact execK_runs hD.typed Syn_zero Syn_mixed hJ X19_0 (T19 0).1 (envOf (T19 0).2 _) S K (chk_of (by kernel_rfl) (by kernel_rfl)) h7
noncomputable abbrev A19_3 (D J : Disp) (vals : List AV) (S : St) (K : AV → St → Prop) : Prop :=
  uncA vals fun a9001 r9002 => scK a9001 fun s9004 => SV.cP s9004 fun p1 => uncA r9002 fun a9007 r9008 => scK a9007 fun s9010 => SV.cP s9010 fun p2 => uncA r9008 fun a9013 r9014 => scK a9013 fun s9016 => SV.cP s9016 fun p3 => uncA r9014 fun a9019 r9020 => scK a9019 fun s9022 => SV.cB s9022 fun c8 => endL r9020 <| F19_3 D J p1 p2 p3 c8 S K
theorem A19_3_ok {D J : Disp} (hD : DOK SynP SynG D) (hJ : JOK SynP SynG Go.Proofs.Tryz.f19 T19 J) {vals : List AV} {S : St} {K : AV → St → Prop} (h0 : A19_3 D J vals S K) : Runs SynP SynG Go.Proofs.Tryz.f19 (T19 3).1 (envOf (T19 3).2 vals) S K := by
  obtain ⟨a9001, r9002, rfl, h3⟩ := uncA_some h0
  obtain ⟨s9004, rfl, h5⟩ := scK_some h3
  obtain ⟨p1, rfl, h6⟩ := cP_some h5
  obtain ⟨a9007, r9008, rfl, h9⟩ := uncA_some h6
  obtain ⟨s9010, rfl, h11⟩ := scK_some h9
  obtain ⟨p2, rfl, h12⟩ := cP_some h11
  obtain ⟨a9013, r9014, rfl, h15⟩ := uncA_some h12
  obtain ⟨s9016, rfl, h17⟩ := scK_some h15
  obtain ⟨p3, rfl, h18⟩ := cP_some h17
  obtain ⟨a9019, r9020, rfl, h21⟩ := uncA_some h18
  obtain ⟨s9022, rfl, h23⟩ := scK_some h21
  obtain ⟨c8, rfl, h24⟩ := cB_some h23
  obtain ⟨rfl, h25⟩ := endL_some h24
  rw [F19_3_eq] at h25
  exact execK_runs hD.typed Syn_zero Syn_mixed hJ X19_3 (T19 3).1 (envOf (T19 3).2 _) S K (chk_of (by kernel_rfl) (by kernel_rfl)) h25
noncomputable abbrev A19_7 (D J : Disp) (vals : List AV) (S : St) (K : AV → St → Prop) : Prop :=
  uncA vals fun a9001 r9002 => scK a9001 fun s9004 => SV.cP s9004 fun p1 => uncA r9002 fun a9007 r9008 => scK a9007 fun s9010 => SV.cP s9010 fun p2 => uncA r9008 fun a9013 r9014 => scK a9013 fun s9016 => SV.cP s9016 fun p3 => endL r9014 <| F19_7 D J p1 p2 p3 S K
theorem A19_7_ok {D J : Disp} (hD : DOK SynP SynG D) (hJ : JOK SynP SynG Go.Proofs.Tryz.f19 T19 J) {vals : List AV} {S : St} {K : AV → St → Prop} (h0 : A19_7 D J vals S K) : Runs SynP SynG Go.Proofs.Tryz.f19 (T19 7).1 (envOf (T19 7).2 vals) S K := by
  obtain ⟨a9001, r9002, rfl, h3⟩ := uncA_some h0
  obtain ⟨s9004, rfl, h5⟩ := scK_some h3
  obtain ⟨p1, rfl, h6⟩ := cP_some h5
  obtain ⟨a9007, r9008, rfl, h9⟩ := uncA_some h6
  obtain ⟨s9010, rfl, h11⟩ := scK_some h9
  obtain ⟨p2, rfl, h12⟩ := cP_some h11
  obtain ⟨a9013, r9014, rfl, h15⟩ := uncA_some h12
  obtain ⟨s9016, rfl, h17⟩ := scK_some h15
  obtain ⟨p3, rfl, h18⟩ := cP_some h17
  obtain ⟨rfl, h19⟩ := endL_some h18
  rw [F19_7_eq] at h19
  exact execK_runs hD.typed Syn_zero Syn_mixed hJ X19_7 (T19 7).1 (envOf (T19 7).2 _) S K (chk_of (by kernel_rfl) (by kernel_rfl)) h19
noncomputable abbrev A19_10 (D J : Disp) (vals : List AV) (S : St) (K : AV → St → Prop) : Prop :=
  uncA vals fun a9001 r9002 => scK a9001 fun s9004 => SV.cP s9004 fun p1 => uncA r9002 fun a9007 r9008 => scK a9007 fun s9010 => SV.cP s9010 fun p2 => uncA r9008 fun a9013 r9014 => scK a9013 fun s9016 => SV.cP s9016 fun p3 => uncA r9014 fun a9019 r9020 => scK a9019 fun s9022 => SV.cB s9022 fun c47 => endL r9020 <| F19_10 D J p1 p2 p3 c47 S K
theorem A19_10_ok {D J : Disp} (hD : DOK SynP SynG D) (hJ : JOK SynP SynG Go.Proofs.Tryz.f19 T19 J) {vals : List AV} {S : St} {K : AV → St → Prop} (h0 : A19_10 D J vals S K) : Runs SynP SynG Go.Proofs.Tryz.f19 (T19 10).1 (envOf (T19 10).2 vals) S K := by
  obtain ⟨a9001, r9002, rfl, h3⟩ := uncA_some h0
  obtain ⟨s9004, rfl, h5⟩ := scK_some h3
  obtain ⟨p1, rfl, h6⟩ := cP_some h5
  obtain ⟨a9007, r9008, rfl, h9⟩ := uncA_some h6
  obtain ⟨s9010, rfl, h11⟩ := scK_some h9
  obtain ⟨p2, rfl, h12⟩ := cP_some h11
  obtain ⟨a9013, r9014, rfl, h15⟩ := uncA_some h12
  obtain ⟨s9016, rfl, h17⟩ := scK_some h15
  obtain ⟨p3, rfl, h18⟩ := cP_some h17
  obtain ⟨a9019, r9020, rfl, h21⟩ := uncA_some h18
  obtain ⟨s9022, rfl, h23⟩ := scK_some h21
  obtain ⟨c47, rfl, h24⟩ := cB_some h23
  obtain ⟨rfl, h25⟩ := endL_some h24
  rw [F19_10_eq] at h25
  exact execK_runs hD.typed Syn_zero Syn_mixed hJ X19_10 (T19 10).1 (envOf (T19 10).2 _) S K (chk_of (by kernel_rfl) (by kernel_rfl)) h25
noncomputable abbrev A19_46 (D J : Disp) (vals : List AV) (S : St) (K : AV → St → Prop) : Prop :=
  uncA vals fun a9001 r9002 => scK a9001 fun s9004 => SV.cP s9004 fun p1 => uncA r9002 fun a9007 r9008 => scK a9007 fun s9010 => SV.cP s9010 fun p2 => uncA r9008 fun a9013 r9014 => scK a9013 fun s9016 => SV.cP s9016 fun p3 => endL r9014 <| F19_46 D J p1 p2 p3 S K
theorem A19_46_ok {D J : Disp} (hD : DOK SynP SynG D) (hJ : JOK SynP SynG Go.Proofs.Tryz.f19 T19 J) {vals : List AV} {S : St} {K : AV → St → Prop} (h0 : A19_46 D J vals S K) : Runs SynP SynG Go.Proofs.Tryz.f19 (T19 46).1 (envOf (T19 46).2 vals) S K := by
  obtain ⟨a9001, r9002, rfl, h3⟩ := uncA_some h0
  obtain ⟨s9004, rfl, h5⟩ := scK_some h3
  obtain ⟨p1, rfl, h6⟩ := cP_some h5
  obtain ⟨a9007, r9008, rfl, h9⟩ := uncA_some h6
  obtain ⟨s9010, rfl, h11⟩ := scK_some h9
  obtain ⟨p2, rfl, h12⟩ := cP_some h11
  obtain ⟨a9013, r9014, rfl, h15⟩ := uncA_some h12
  obtain ⟨s9016, rfl, h17⟩ := scK_some h15
  obtain ⟨p3, rfl, h18⟩ := cP_some h17
  obtain ⟨rfl, h19⟩ := endL_some h18
  rw [F19_46_eq] at h19
  exact execK_runs hD.typed Syn_zero Syn_mixed hJ X19_46 (T19 46).1 (envOf (T19 46).2 _) S K (chk_of (by kernel_rfl) (by kernel_rfl)) h19
noncomputable def J19 (D : Disp) (k : Nat) : Disp := Nat.rec (motive := fun _ => Disp) Disp.no (fun _ ih => Disp.add 0 (A19_0 D ih) <| Disp.add 3 (A19_3 D ih) <| Disp.add 7 (A19_7 D ih) <| Disp.add 10 (A19_10 D ih) <| Disp.add 46 (A19_46 D ih) <| Disp.no) k
theorem J19_ok {D : Disp} (hD : DOK SynP SynG D) : ∀ k, JOK SynP SynG Go.Proofs.Tryz.f19 T19 (J19 D k)
  | 0 => JOK.no
  | k + 1 => JOK.add (ltB_ok (by kernel_rfl)) (fun vals S K h => A19_0_ok hD (J19_ok hD k) h) <| JOK.add (ltB_ok (by kernel_rfl)) (fun vals S K h => A19_3_ok hD (J19_ok hD k) h) <| JOK.add (ltB_ok (by kernel_rfl)) (fun vals S K h => A19_7_ok hD (J19_ok hD k) h) <| JOK.add (ltB_ok (by kernel_rfl)) (fun vals S K h => A19_10_ok hD (J19_ok hD k) h) <| JOK.add (ltB_ok (by kernel_rfl)) (fun vals S K h => A19_46_ok hD (J19_ok hD k) h) <| JOK.no
theorem E19_ok {D : Disp} (hD : DOK SynP SynG D) (k : Nat) {args : List AV} {S : St} {K : AV → St → Prop} (h : A19_0 D (J19 D k) args S K) : CallE SynP SynG 19 args S K := by
  have hr := A19_0_ok hD (J19_ok hD k) h
  have hl : args.length = 1 := by
    have h0 := h
    obtain ⟨a9001, r9002, rfl, h3⟩ := uncA_some h0
    obtain ⟨s9004, rfl, h5⟩ := scK_some h3
    obtain ⟨p0, rfl, h6⟩ := cP_some h5
    obtain ⟨rfl, h7⟩ := endL_some h6
    rfl
  refine callOK_of (fn := Go.Proofs.Tryz.f19) (c := (match Go.Proofs.Tryz.f19.body with | some c => c | none => .skip)) (by kernel_rfl) (by kernel_rfl) (by kernel_rfl) (by rw [hl]; kernel_rfl) (by kernel_rfl) ?_
  rw [hl]
  exact hr
noncomputable def plans20 (i : Nat) : Plan := []
noncomputable def T20 (p : Nat) : List Item × List Nat := bif Nat.beq p 0 then ([.code (match Go.Proofs.Tryz.f20.body with | some c => c | none => .skip)], [0]) else
  bif Nat.beq p 3 then (navs [.op, .op, .op] [.code (match Go.Proofs.Tryz.f20.body with | some c => c | none => .skip)], [0, 3, 4, 7, 8]) else
  bif Nat.beq p 11 then (navs [.op, .op, .op, .op, .th, .op, .op, .op, .th, .op, .op] [.code (match Go.Proofs.Tryz.f20.body with | some c => c | none => .skip)], [0, 3, 4, 7, 8]) else
  ([], [])
noncomputable def F20_0 (D J : Disp) (s0 : (List Nat)) (S : St) (K : AV → St → Prop) : Prop :=
 let x300 : Int := (Int.ofNat (List.length s0));
 J 3 [(AV.one (V1.s (SV.str s0))), (AV.one (V1.s (SV.int IntKind.i64 (0 : Int)))), (AV.one (V1.s (SV.int IntKind.i64 (0 : Int)))), (AV.one (V1.s (SV.int IntKind.i64 x300))), (AV.one (V1.s (SV.int IntKind.i64 (0 : Int))))] S K
noncomputable def X20_0 : X := (.op (.op (.op (.jmp 3 [0, 3, 4, 7, 8]))))
theorem F20_0_eq (D J : Disp) (s0 : (List Nat)) (S : St) (K : AV → St → Prop) : F20_0 D J s0 S K = execK SynP SynG Go.Proofs.Tryz.f20 (typed SynP D) J plans20 X20_0 (T20 0).1 (envOf (T20 0).2 [(AV.one (V1.s (SV.str s0)))]) S K := by kernel_rfl
noncomputable def F20_q2 (D J : Disp) (S : St) (s0 : (List Nat)) (x3 : Int) (x4 : Int) (x7 : Int) (x8 : Int) (c305 : Bool) (K : AV → St → Prop) : Prop :=
 ifK c305
 (let x306 : Int := (iwrap IntKind.i64 (x4 - (1 : Int)));
 J 11 [(AV.one (V1.s (SV.str s0))), (AV.one (V1.s (SV.int IntKind.i64 x3))), (AV.one (V1.s (SV.int IntKind.i64 x306))), (AV.one (V1.s (SV.int IntKind.i64 x7))), (AV.one (V1.s (SV.int IntKind.i64 x8)))] S K)
 (J 11 [(AV.one (V1.s (SV.str s0))), (AV.one (V1.s (SV.int IntKind.i64 x3))), (AV.one (V1.s (SV.int IntKind.i64 x4))), (AV.one (V1.s (SV.int IntKind.i64 x7))), (AV.one (V1.s (SV.int IntKind.i64 x8)))] S K)
noncomputable def F20_q3 (D J : Disp) (S : St) (s0 : (List Nat)) (x3 : Int) (x4 : Int) (x7 : Int) (x8 : Int) (x301 : Int) (K : AV → St → Prop) : Prop :=
 let c302 : Bool := (ieq x301 (40 : Int));
 ifK c302
 (let x303 : Int := (iwrap IntKind.i64 (x4 + (1 : Int)));
 let x304 : Int := (imax x3 x303);
 J 11 [(AV.one (V1.s (SV.str s0))), (AV.one (V1.s (SV.int IntKind.i64 x304))), (AV.one (V1.s (SV.int IntKind.i64 x303))), (AV.one (V1.s (SV.int IntKind.i64 x7))), (AV.one (V1.s (SV.int IntKind.i64 x8)))] S K)
 (let c305 : Bool := (ieq x301 (41 : Int));
 F20_q2 D J S s0 x3 x4 x7 x8 c305 K)
noncomputable def F20_3 (D J : Disp) (s0 : (List Nat)) (x3 : Int) (x4 : Int) (x7 : Int) (x8 : Int) (S : St) (K : AV → St → Prop) : Prop :=
 let c300 : Bool := (ilt x8 x7);
 ifK c300
 (req (Bool.and (ile (0 : Int) x8) (ilt x8 (Int.ofNat (List.length s0)))) <|
 let x301 : Int := (Int.ofNat (List.getD s0 (Int.toNat x8) 0));
 F20_q3 D J S s0 x3 x4 x7 x8 x301 K)
 (K ((AV.one (V1.s (SV.int IntKind.i64 x3)))) S)
noncomputable def X20_3 : X := (.op (.br (.op (.op (.op (.br (.op (.op (.jmp 11 [0, 3, 4, 7, 8]))) (.op (.br (.op (.jmp 11 [0, 3, 4, 7, 8])) (.jmp 11 [0, 3, 4, 7, 8]))))))) (.op .ret)))
theorem F20_3_eq (D J : Disp) (s0 : (List Nat)) (x3 : Int) (x4 : Int) (x7 : Int) (x8 : Int) (S : St) (K : AV → St → Prop) : F20_3 D J s0 x3 x4 x7 x8 S K = execK SynP SynG Go.Proofs.Tryz.f20 (typed SynP D) J plans20 X20_3 (T20 3).1 (envOf (T20 3).2 [(AV.one (V1.s (SV.str s0))), (AV.one (V1.s (SV.int IntKind.i64 x3))), (AV.one (V1.s (SV.int IntKind.i64 x4))), (AV.one (V1.s (SV.int IntKind.i64 x7))), (AV.one (V1.s (SV.int IntKind.i64 x8)))]) S K := by kernel_rfl
noncomputable def F20_11 (D J : Disp) (s0 : (List Nat)) (x3 : Int) (x4 : Int) (x7 : Int) (x8 : Int) (S : St) (K : AV → St → Prop) : Prop :=
 let x300 : Int := (iwrap IntKind.i64 (x8 + (1 : Int)));
 J 3 [(AV.one (V1.s (SV.str s0))), (AV.one (V1.s (SV.int IntKind.i64 x3))), (AV.one (V1.s (SV.int IntKind.i64 x4))), (AV.one (V1.s (SV.int IntKind.i64 x7))), (AV.one (V1.s (SV.int IntKind.i64 x300)))] S K
noncomputable def X20_11 : X := (.op (.jmp 3 [0, 3, 4, 7, 8]))
theorem F20_11_eq (D J : Disp) (s0 : (List Nat)) (x3 : Int) (x4 : Int) (x7 : Int) (x8 : Int) (S : St) (K : AV → St → Prop) : F20_11 D J s0 x3 x4 x7 x8 S K = execK SynP SynG Go.Proofs.Tryz.f20 (typed SynP D) J plans20 X20_11 (T20 11).1 (envOf (T20 11).2 [(AV.one (V1.s (SV.str s0))), (AV.one (V1.s (SV.int IntKind.i64 x3))), (AV.one (V1.s (SV.int IntKind.i64 x4))), (AV.one (V1.s (SV.int IntKind.i64 x7))), (AV.one (V1.s (SV.int IntKind.i64 x8)))]) S K := by kernel_rfl
noncomputable abbrev A20_0 (D J : Disp) (vals : List AV) (S : St) (K : AV → St → Prop) : Prop :=
  uncA vals fun a9001 r9002 => scK a9001 fun s9004 => SV.cS s9004 fun s0 => endL r9002 <| F20_0 D J s0 S K
theorem A20_0_ok {D J : Disp} (hD : DOK SynP SynG D) (hJ : JOK SynP SynG Go.Proofs.Tryz.f20 T20 J) {vals : List AV} {S : St} {K : AV → St → Prop} (h0 : A20_0 D J vals S K) : Runs SynP SynG Go.Proofs.Tryz.f20 (T20 0).1 (envOf (T20 0).2 vals) S K := by
  obtain ⟨a9001, r9002, rfl, h3⟩ := uncA_some h0
  obtain ⟨s9004, rfl, h5⟩ := scK_some h3
  obtain ⟨s0, rfl, h6⟩ := cS_some h5
  obtain ⟨rfl, h7⟩ := endL_some h6
  rw [F20_0_eq] at h7
  exact execK_runs hD.typed Syn_zero Syn_mixed hJ X20_0 (T20 0).1 (envOf (T20 0).2 _) S K (chk_of (by kernel_rfl) (by kernel_rfl)) h7
noncomputable abbrev A20_3 (D J : Disp) (vals : List AV) (S : St) (K : AV → St → Prop) : Prop :=
  uncA vals fun a9001 r9002 => scK a9001 fun s9004 => SV.cS s9004 fun s0 => uncA r9002 fun a9007 r9008 => scK a9007 fun s9010 => SV.cI IntKind.i64 s9010 fun x3 => uncA r9008 fun a9013 r9014 => scK a9013 fun s9016 => SV.cI IntKind.i64 s9016 fun x4 => uncA r9014 fun a9019 r9020 => scK a9019 fun s9022 => SV.cI IntKind.i64 s9022 fun x7 => uncA r9020 fun a9025 r9026 => scK a9025 fun s9028 => SV.cI IntKind.i64 s9028 fun x8 => endL r9026 <| F20_3 D J s0 x3 x4 x7 x8 S K
theorem A20_3_ok {D J : Disp} (hD : DOK SynP SynG D) (hJ : JOK SynP SynG Go.Proofs.Tryz.f20 T20 J) {vals : List AV} {S : St} {K : AV → St → Prop} (h0 : A20_3 D J vals S K) : Runs SynP SynG Go.Proofs.Tryz.f20 (T20 3).1 (envOf (T20 3).2 vals) S K := by
  obtain ⟨a9001, r9002, rfl, h3⟩ := uncA_some h0
  obtain ⟨s9004, rfl, h5⟩ := scK_some h3
  obtain ⟨s0, rfl, h6⟩ := cS_some h5
  obtain ⟨a9007, r9008, rfl, h9⟩ := uncA_some h6
  obtain ⟨s9010, rfl, h11⟩ := scK_some h9
  obtain ⟨x3, rfl, h12⟩ := cI_some h11
  obtain ⟨a9013, r9014, rfl, h15⟩ := uncA_some h12
  obtain ⟨s9016, rfl, h17⟩ := scK_some h15
  obtain ⟨x4, rfl, h18⟩ := cI_some h17
  obtain ⟨a9019, r9020, rfl, h21⟩ := uncA_some h18
  obtain ⟨s9022, rfl, h23⟩ := scK_some h21
  obtain ⟨x7, rfl, h24⟩ := cI_some h23
  obtain ⟨a9025, r9026, rfl, h27⟩ := uncA_some h24
  obtain ⟨s9028, rfl, h29⟩ := scK_some h27
  obtain ⟨x8, rfl, h30⟩ := cI_some h29
  obtain ⟨rfl, h31⟩ := endL_some h30
  rw [F20_3_eq] at h31
  exact execK_runs hD.typed Syn_zero Syn_mixed hJ X20_3 (T20 3).1 (envOf (T20 3).2 _) S K (chk_of (by kernel_rfl) (by kernel_rfl)) h31
noncomputable abbrev A20_11 (D J : Disp) (vals : List AV) (S : St) (K : AV → St → Prop) : Prop :=
  uncA vals fun a9001 r9002 => scK a9001 fun s9004 => SV.cS s9004 fun s0 => uncA r9002 fun a9007 r9008 => scK a9007 fun s9010 => SV.cI IntKind.i64 s9010 fun x3 => uncA r9008 fun a9013 r9014 => scK a9013 fun s9016 => SV.cI IntKind.i64 s9016 fun x4 => uncA r9014 fun a9019 r9020 => scK a9019 fun s9022 => SV.cI IntKind.i64 s9022 fun x7 => uncA r9020 fun a9025 r9026 => scK a9025 fun s9028 => SV.cI IntKind.i64 s9028 fun x8 => endL r9026 <| F20_11 D J s0 x3 x4 x7 x8 S K
theorem A20_11_ok {D J : Disp} (hD : DOK SynP SynG D) (hJ : JOK SynP SynG Go.Proofs.Tryz.f20 T20 J) {vals : List AV} {S : St} {K : AV → St → Prop} (h0 : A20_11 D J vals S K) : Runs SynP SynG Go.Proofs.Tryz.f20 (T20 11).1 (envOf (T20 11).2 vals) S K := by
  obtain ⟨a9001, r9002, rfl, h3⟩ := uncA_some h0
  obtain ⟨s9004, rfl, h5⟩ := scK_some h3
  obtain ⟨s0, rfl, h6⟩ := cS_some h5
  obtain ⟨a9007, r9008, rfl, h9⟩ := uncA_some h6
  obtain ⟨s9010, rfl, h11⟩ := scK_some h9
  obtain ⟨x3, rfl, h12⟩ := cI_some h11
  obtain ⟨a9013, r9014, rfl, h15⟩ := uncA_some h12
  obtain ⟨s9016, rfl, h17⟩ := scK_some h15
  obtain ⟨x4, rfl, h18⟩ := cI_some h17
  obtain ⟨a9019, r9020, rfl, h21⟩ := uncA_some h18
  obtain ⟨s9022, rfl, h23⟩ := scK_some h21
  obtain ⟨x7, rfl, h24⟩ := cI_some h23
  obtain ⟨a9025, r9026, rfl, h27⟩ := uncA_some h24
  obtain ⟨s9028, rfl, h29⟩ := scK_some h27
  obtain ⟨x8, rfl, h30⟩ := cI_some h29
  obtain ⟨rfl, h31⟩ := endL_some h30
  rw [F20_11_eq] at h31
  exact execK_runs hD.typed Syn_zero Syn_mixed hJ X20_11 (T20 11).1 (envOf (T20 11).2 _) S K (chk_of (by kernel_rfl) (by kernel_rfl)) h31
noncomputable def J20 (D : Disp) (k : Nat) : Disp := Nat.rec (motive := fun _ => Disp) Disp.no (fun _ ih => Disp.add 0 (A20_0 D ih) <| Disp.add 3 (A20_3 D ih) <| Disp.add 11 (A20_11 D ih) <| Disp.no) k
theorem J20_ok {D : Disp} (hD : DOK SynP SynG D) : ∀ k, JOK SynP SynG Go.Proofs.Tryz.f20 T20 (J20 D k)
  | 0 => JOK.no
  | k + 1 => JOK.add (ltB_ok (by kernel_rfl)) (fun vals S K h => A20_0_ok hD (J20_ok hD k) h) <| JOK.add (ltB_ok (by kernel_rfl)) (fun vals S K h => A20_3_ok hD (J20_ok hD k) h) <| JOK.add (ltB_ok (by kernel_rfl)) (fun vals S K h => A20_11_ok hD (J20_ok hD k) h) <| JOK.no
theorem E20_ok {D : Disp} (hD : DOK SynP SynG D) (k : Nat) {args : List AV} {S : St} {K : AV → St → Prop} (h : A20_0 D (J20 D k) args S K) : CallE SynP SynG 20 args S K := by
  have hr := A20_0_ok hD (J20_ok hD k) h
  have hl : args.length = 1 := by
    have h0 := h
    obtain ⟨a9001, r9002, rfl, h3⟩ := uncA_some h0
    obtain ⟨s9004, rfl, h5⟩ := scK_some h3
    obtain ⟨s0, rfl, h6⟩ := cS_some h5
    obtain ⟨rfl, h7⟩ := endL_some h6
    rfl
  refine callOK_of (fn := Go.Proofs.Tryz.f20) (c := (match Go.Proofs.Tryz.f20.body with | some c => c | none => .skip)) (by kernel_rfl) (by kernel_rfl) (by kernel_rfl) (by rw [hl]; kernel_rfl) (by kernel_rfl) ?_
  rw [hl]
  exact hr
noncomputable def plans21 (i : Nat) : Plan := if Nat.beq i 5 then [(0, []), (1, []), (2, [1]), (3, []), (4, [3]), (5, [4, 3]), (7, []), (8, [7]), (9, [8, 7]), (6, [5, 4, 3]), (10, [2, 6, 9, 1, 5, 8, 4, 7, 3]), (11, [0, 10, 6, 2, 9, 5, 1, 8, 4, 7, 3])] else if Nat.beq i 13 then [(0, []), (1, [0]), (2, [1, 0]), (3, []), (4, [3]), (5, [4, 3]), (6, [5, 4, 3]), (7, [6, 5, 4, 3]), (8, [2, 7, 6, 1, 5, 0, 4, 3])] else []
noncomputable def T21 (p : Nat) : List Item × List Nat := bif Nat.beq p 0 then ([.code (match Go.Proofs.Tryz.f21.body with | some c => c | none => .skip)], [0, 1]) else
  bif Nat.beq p 16 then (navs [.op, .op, .el, .op, .op, .op, .th, .op, .op, .th, .op, .op] [.code (match Go.Proofs.Tryz.f21.body with | some c => c | none => .skip)], [0, 79, 80, 81]) else
  bif Nat.beq p 22 then (navs [.op, .op, .el, .op, .op, .op, .th, .op, .op, .el, .op, .th, .op] [.code (match Go.Proofs.Tryz.f21.body with | some c => c | none => .skip)], [0]) else
  ([], [])
noncomputable def F21_q12 (D J : Disp) (S : St) (p0 : PV) (S321 : St) (K : AV → St → Prop) : Prop :=
 St.at S321 (Bk.new (St.next S)) 7 fun y324 =>
 uncK y324 fun v325 y326 =>
 SV.cL v325 fun y333 =>
 D 42 [(AV.one (V1.s (SV.ptr p0))), (AV.one (V1.s (SV.sl y333))), (AV.one (V1.s (SV.bool Bool.true)))] S321 fun v334 S335 =>
 avT v334 fun y337 =>
 endL y337 (PV.cs p0 fun b338 n339 =>
 let n340 : Nat := (n339 + 0);
 D 43 [(AV.one (V1.s (SV.ptr (PV.mk b338 n340)))), (AV.one (V1.s (SV.str [41, 10])))] S335 fun v341 S342 =>
 K ((AV.tup [])) S342)
noncomputable def F21_q13 (D J : Disp) (S : St) (p0 : PV) (S300 : St) (K : AV → St → Prop) : Prop :=
 St.at S300 (Bk.new (St.next S)) 4 fun y310 =>
 uncK y310 fun v311 y312 =>
 SV.cS v311 fun y317 =>
 let d318 : (Sum Nat Nat) := (Sum.inl 2);
 let S319 : St := (St.add S300 (AO.cells [(SV.str [115, 116, 114, 117, 99, 116]), (SV.str y317)] Op2.sh));
 D 41 [(AV.one (V1.s (SV.ptr p0))), (AV.one (V1.s (SV.sl (LV.mk (Bk.new (St.next S300)) 0 2 d318))))] S319 fun v320 S321 =>
 avT v320 fun y323 =>
 endL y323 (F21_q12 D J S p0 S321 K)
noncomputable def F21_q14 (D J : Disp) (S : St) (p0 : PV) (S445 : St) (b451 : Bk) (n453 : Nat) (K : AV → St → Prop) : Prop :=
 D 43 [(AV.one (V1.s (SV.ptr (PV.mk b451 n453)))), (AV.one (V1.s (SV.str [32, 40, 108, 105, 115, 116])))] S445 fun v454 S455 =>
 St.at S455 (Bk.new (St.next S)) 9 fun y456 =>
 uncK y456 fun v457 y458 =>
 SV.cL v457 fun y465 =>
 let x466 : Int := (Int.ofNat (LV.len y465));
 J 16 [(AV.one (V1.s (SV.ptr p0))), (AV.one (V1.s (SV.sl y465))), (AV.one (V1.s (SV.int IntKind.i64 x466))), (AV.one (V1.s (SV.int IntKind.i64 (0 : Int))))] S455 K
noncomputable def F21_q15 (D J : Disp) (S : St) (p0 : PV) (S445 : St) (K : AV → St → Prop) : Prop :=
 St.at S445 (Bk.new (St.next S)) 9 fun y488 =>
 uncK y488 fun v489 y490 =>
 SV.cL v489 fun y497 =>
 LV.cs y497 fun b498 n499 n500 y501 =>
 req (Bool.and Bool.true (ilt (0 : Int) (Int.ofNat n500))) <|
 let n502 : Nat := (n499 + 0);
 St.at S445 b498 n502 fun y503 =>
 uncK y503 fun v504 y505 =>
 SV.cP v504 fun y511 =>
 D 46 [(AV.one (V1.s (SV.ptr p0))), (AV.one (V1.s (SV.ptr y511)))] S445 fun v512 S513 =>
 avT v512 fun y515 =>
 endL y515 (J 22 [(AV.one (V1.s (SV.ptr p0)))] S513 K)
noncomputable def F21_q16 (D J : Disp) (S : St) (p0 : PV) (S445 : St) (y450 : Bool) (K : AV → St → Prop) : Prop :=
 ifK y450
 (PV.cs p0 fun b451 n452 =>
 let n453 : Nat := (n452 + 0);
 F21_q14 D J S p0 S445 b451 n453 K)
 (St.at S445 (Bk.new (St.next S)) 9 fun y469 =>
 uncK y469 fun v470 y471 =>
 SV.cL v470 fun y478 =>
 let x479 : Int := (Int.ofNat (LV.len y478));
 let c480 : Bool := (ieq x479 (0 : Int));
 ifK c480
 (D 46 [(AV.one (V1.s (SV.ptr p0))), (AV.one (V1.s (SV.ptr PV.nil)))] S445 fun v481 S482 =>
 avT v481 fun y484 =>
 endL y484 (J 22 [(AV.one (V1.s (SV.ptr p0)))] S482 K))
 (F21_q15 D J S p0 S445 K))
noncomputable def F21_q17 (D J : Disp) (S : St) (p0 : PV) (S413 : St) (b425 : Bk) (n427 : Nat) (x434 : Int) (K : AV → St → Prop) : Prop :=
 D 45 [(AV.one (V1.s (SV.int IntKind.u64 x434)))] S413 fun v435 S436 =>
 scK v435 fun v438 =>
 SV.cS v438 fun y442 =>
 req (Nat.blt (1 + (List.length y442)) 9223372036854775808) <|
 let s443 : (List Nat) := ([32] ++ y442);
 D 43 [(AV.one (V1.s (SV.ptr (PV.mk b425 n427)))), (AV.one (V1.s (SV.str s443)))] S436 fun v444 S445 =>
 St.at S445 (Bk.new (St.next S)) 10 fun y446 =>
 uncK y446 fun v447 y448 =>
 SV.cB v447 fun y450 =>
 F21_q16 D J S p0 S445 y450 K
noncomputable def F21_q18 (D J : Disp) (S : St) (p0 : PV) (S564 : St) (K : AV → St → Prop) : Prop :=
 St.at S564 (Bk.new (St.next S)) 0 fun y567 =>
 uncK y567 fun v568 y569 =>
 SV.cS v568 fun y574 =>
 let c575 : Bool := (leq y574 [102, 117, 110, 99]);
 ifK c575
 (St.at S564 (Bk.new (St.next S)) 8 fun y576 =>
 uncK y576 fun v577 y578 =>
 SV.cP v577 fun y584 =>
 D 48 [(AV.one (V1.s (SV.ptr p0))), (AV.one (V1.s (SV.ptr y584)))] S564 fun v585 S586 =>
 avT v585 fun y588 =>
 endL y588 (J 22 [(AV.one (V1.s (SV.ptr p0)))] S586 K))
 (J 22 [(AV.one (V1.s (SV.ptr p0)))] S564 K)
noncomputable def F21_q19 (D J : Disp) (S : St) (p0 : PV) (S413 : St) (b544 : Bk) (n546 : Nat) (K : AV → St → Prop) : Prop :=
 D 43 [(AV.one (V1.s (SV.ptr (PV.mk b544 n546)))), (AV.one (V1.s (SV.str [32, 40])))] S413 fun v547 S548 =>
 St.at S548 (Bk.new (St.next S)) 7 fun y549 =>
 uncK y549 fun v550 y551 =>
 SV.cL v550 fun y558 =>
 D 42 [(AV.one (V1.s (SV.ptr p0))), (AV.one (V1.s (SV.sl y558))), (AV.one (V1.s (SV.bool Bool.false)))] S548 fun v559 S560 =>
 avT v559 fun y562 =>
 endL y562 (D 47 [(AV.one (V1.s (SV.ptr p0)))] S560 fun v563 S564 =>
 avT v563 fun y566 =>
 endL y566 (F21_q18 D J S p0 S564 K))
noncomputable def F21_q20 (D J : Disp) (S : St) (p0 : PV) (S413 : St) (K : AV → St → Prop) : Prop :=
 St.at S413 (Bk.new (St.next S)) 0 fun y416 =>
 uncK y416 fun v417 y418 =>
 SV.cS v417 fun y423 =>
 let c424 : Bool := (leq y423 [118, 97, 114]);
 ifK c424
 (PV.cs p0 fun b425 n426 =>
 let n427 : Nat := (n426 + 0);
 St.at S413 (Bk.new (St.next S)) 5 fun y428 =>
 uncK y428 fun v429 y430 =>
 SV.cI IntKind.u64 v429 fun x434 =>
 F21_q17 D J S p0 S413 b425 n427 x434 K)
 (PV.cs p0 fun b544 n545 =>
 let n546 : Nat := (n545 + 0);
 F21_q19 D J S p0 S413 b544 n546 K)
noncomputable def F21_q21 (D J : Disp) (S : St) (p0 : PV) (S300 : St) (y362 : (List Nat)) (y370 : (List Nat)) (x376 : Int) (y384 : (List Nat)) (K : AV → St → Prop) : Prop :=
 D 44 [(AV.one (V1.agg [(SV.str y370), (SV.int IntKind.i64 x376)]))] S300 fun v385 S386 =>
 scK v385 fun v388 =>
 SV.cS v388 fun y392 =>
 St.at S386 (Bk.new (St.next S)) 4 fun y393 =>
 uncK y393 fun v394 y395 =>
 SV.cS v394 fun y400 =>
 req (sameAV (AV.one (V1.s (SV.str y400))) (AV.one (V1.s (SV.str y384)))) <|
 St.at S386 (Bk.new (St.next S)) 0 fun y401 =>
 uncK y401 fun v402 y403 =>
 SV.cS v402 fun y408 =>
 req (sameAV (AV.one (V1.s (SV.str y408))) (AV.one (V1.s (SV.str y362)))) <|
 let o409 : AO := (AO.cells [(SV.str y362), (SV.str y392), (SV.str y384)] Op2.sh);
 let d410 : (Sum Nat Nat) := (Sum.inl 3);
 let S411 : St := (St.add S386 o409);
 D 41 [(AV.one (V1.s (SV.ptr p0))), (AV.one (V1.s (SV.sl (LV.mk (Bk.new (St.next S386)) 0 3 d410))))] S411 fun v412 S413 =>
 avT v412 fun y415 =>
 endL y415 (F21_q20 D J S p0 S413 K)
noncomputable def F21_q22 (D J : Disp) (S : St) (p0 : PV) (S300 : St) (c309 : Bool) (K : AV → St → Prop) : Prop :=
 ifK c309
 (F21_q13 D J S p0 S300 K)
 (St.at S300 (Bk.new (St.next S)) 0 fun y355 =>
 uncK y355 fun v356 y357 =>
 SV.cS v356 fun y362 =>
 St.at S300 (Bk.new (St.next S)) 2 fun y363 =>
 uncK y363 fun v364 y365 =>
 SV.cS v364 fun y370 =>
 uncK y365 fun v371 y372 =>
 SV.cI IntKind.i64 v371 fun x376 =>
 St.at S300 (Bk.new (St.next S)) 4 fun y377 =>
 uncK y377 fun v378 y379 =>
 SV.cS v378 fun y384 =>
 F21_q21 D J S p0 S300 y362 y370 x376 y384 K)
noncomputable def F21_0 (D J : Disp) (p0 : PV) (s1_0 : (List Nat)) (x1_1 : Int) (s1_2 : (List Nat)) (x1_3 : Int) (s1_4 : (List Nat)) (x1_5 : Int) (c1_6 : Bool) (l1_7 : LV) (p1_8 : PV) (l1_9 : LV) (c1_10 : Bool) (S : St) (K : AV → St → Prop) : Prop :=
 let S300 : St := (St.add S (AO.cells [(SV.str s1_0), (SV.int IntKind.i64 x1_1), (SV.str s1_2), (SV.int IntKind.i64 x1_3), (SV.str s1_4), (SV.int IntKind.u64 x1_5), (SV.bool c1_6), (SV.sl l1_7), (SV.ptr p1_8), (SV.sl l1_9), (SV.bool c1_10)] (Op2.ty 53)));
 St.at S300 (Bk.new (St.next S)) 0 fun y301 =>
 uncK y301 fun v302 y303 =>
 SV.cS v302 fun y308 =>
 let c309 : Bool := (leq y308 [115, 116, 114, 117, 99, 116]);
 F21_q22 D J S p0 S300 c309 K
noncomputable def X21_0 : X := (.op (.op (.br (.op (.op (.op .ret))) (.op (.op (.op (.br (.op (.op (.br (.op (.op (.jmp 16 [0, 79, 80, 81]))) (.op (.br (.op (.jmp 22 [0])) (.op (.jmp 22 [0]))))))) (.op (.op (.op (.op (.br (.op (.jmp 22 [0])) (.jmp 22 [0])))))))))))))
theorem F21_0_eq (D J : Disp) (p0 : PV) (s1_0 : (List Nat)) (x1_1 : Int) (s1_2 : (List Nat)) (x1_3 : Int) (s1_4 : (List Nat)) (x1_5 : Int) (c1_6 : Bool) (l1_7 : LV) (p1_8 : PV) (l1_9 : LV) (c1_10 : Bool) (S : St) (K : AV → St → Prop) : F21_0 D J p0 s1_0 x1_1 s1_2 x1_3 s1_4 x1_5 c1_6 l1_7 p1_8 l1_9 c1_10 S K = execK SynP SynG Go.Proofs.Tryz.f21 (typed SynP D) J plans21 X21_0 (T21 0).1 (envOf (T21 0).2 [(AV.one (V1.s (SV.ptr p0))), (AV.one (V1.agg [(SV.str s1_0), (SV.int IntKind.i64 x1_1), (SV.str s1_2), (SV.int IntKind.i64 x1_3), (SV.str s1_4), (SV.int IntKind.u64 x1_5), (SV.bool c1_6), (SV.sl l1_7), (SV.ptr p1_8), (SV.sl l1_9), (SV.bool c1_10)]))]) S K := by kernel_rfl
noncomputable def F21_q23 (D J : Disp) (S : St) (p0 : PV) (l79 : LV) (x80 : Int) (x81 : Int) (K : AV → St → Prop) : Prop :=
 LV.cs l79 fun b301 n302 n303 y304 =>
 req (Bool.and (ile (0 : Int) x81) (ilt x81 (Int.ofNat n303))) <|
 let n305 : Nat := (n302 + ((Int.toNat x81) * 1));
 St.at S b301 n305 fun y306 =>
 uncK y306 fun v307 y308 =>
 SV.cP v307 fun y314 =>
 D 46 [(AV.one (V1.s (SV.ptr p0))), (AV.one (V1.s (SV.ptr y314)))] S fun v315 S316 =>
 avT v315 fun y318 =>
 endL y318 (let x319 : Int := (iwrap IntKind.i64 (x81 + (1 : Int)));
 J 16 [(AV.one (V1.s (SV.ptr p0))), (AV.one (V1.s (SV.sl l79))), (AV.one (V1.s (SV.int IntKind.i64 x80))), (AV.one (V1.s (SV.int IntKind.i64 x319)))] S316 K)
noncomputable def F21_16 (D J : Disp) (p0 : PV) (l79 : LV) (x80 : Int) (x81 : Int) (S : St) (K : AV → St → Prop) : Prop :=
 let c300 : Bool := (ilt x81 x80);
 ifK c300
 (F21_q23 D J S p0 l79 x80 x81 K)
 (D 47 [(AV.one (V1.s (SV.ptr p0)))] S fun v326 S327 =>
 avT v326 fun y329 =>
 endL y329 (J 22 [(AV.one (V1.s (SV.ptr p0)))] S327 K))
noncomputable def X21_16 : X := (.op (.br (.op (.op (.op (.jmp 16 [0, 79, 80, 81])))) (.op (.jmp 22 [0]))))
theorem F21_16_eq (D J : Disp) (p0 : PV) (l79 : LV) (x80 : Int) (x81 : Int) (S : St) (K : AV → St → Prop) : F21_16 D J p0 l79 x80 x81 S K = execK SynP SynG Go.Proofs.Tryz.f21 (typed SynP D) J plans21 X21_16 (T21 16).1 (envOf (T21 16).2 [(AV.one (V1.s (SV.ptr p0))), (AV.one (V1.s (SV.sl l79))), (AV.one (V1.s (SV.int IntKind.i64 x80))), (AV.one (V1.s (SV.int IntKind.i64 x81)))]) S K := by kernel_rfl
noncomputable def F21_22 (D J : Disp) (p0 : PV) (S : St) (K : AV → St → Prop) : Prop :=
 PV.cs p0 fun b300 n301 =>
 let n302 : Nat := (n301 + 0);
 D 43 [(AV.one (V1.s (SV.ptr (PV.mk b300 n302)))), (AV.one (V1.s (SV.str [41, 10])))] S fun v303 S304 =>
 K ((AV.tup [])) S304
noncomputable def X21_22 : X := (.op .ret)
theorem F21_22_eq (D J : Disp) (p0 : PV) (S : St) (K : AV → St → Prop) : F21_22 D J p0 S K = execK SynP SynG Go.Proofs.Tryz.f21 (typed SynP D) J plans21 X21_22 (T21 22).1 (envOf (T21 22).2 [(AV.one (V1.s (SV.ptr p0)))]) S K := by kernel_rfl
noncomputable abbrev A21_0 (D J : Disp) (vals : List AV) (S : St) (K : AV → St → Prop) : Prop :=
  uncA vals fun a9001 r9002 => scK a9001 fun s9004 => SV.cP s9004 fun p0 => uncA r9002 fun a9007 r9008 => avA a9007 fun l9010 => uncK l9010 fun s9012 r9013 => SV.cS s9012 fun s1_0 => uncK r9013 fun s9016 r9017 => SV.cI IntKind.i64 s9016 fun x1_1 => uncK r9017 fun s9020 r9021 => SV.cS s9020 fun s1_2 => uncK r9021 fun s9024 r9025 => SV.cI IntKind.i64 s9024 fun x1_3 => uncK r9025 fun s9028 r9029 => SV.cS s9028 fun s1_4 => uncK r9029 fun s9032 r9033 => SV.cI IntKind.u64 s9032 fun x1_5 => uncK r9033 fun s9036 r9037 => SV.cB s9036 fun c1_6 => uncK r9037 fun s9040 r9041 => SV.cL s9040 fun l1_7 => uncK r9041 fun s9044 r9045 => SV.cP s9044 fun p1_8 => uncK r9045 fun s9048 r9049 => SV.cL s9048 fun l1_9 => uncK r9049 fun s9052 r9053 => SV.cB s9052 fun c1_10 => endL r9053 <| endL r9008 <| F21_0 D J p0 s1_0 x1_1 s1_2 x1_3 s1_4 x1_5 c1_6 l1_7 p1_8 l1_9 c1_10 S K
theorem A21_0_ok {D J : Disp} (hD : DOK SynP SynG D) (hJ : JOK SynP SynG Go.Proofs.Tryz.f21 T21 J) {vals : List AV} {S : St} {K : AV → St → Prop} (h0 : A21_0 D J vals S K) : Runs SynP SynG Go.Proofs.Tryz.f21 (T21 0).1 (envOf (T21 0).2 vals) S K := by
  obtain ⟨a9001, r9002, rfl, h3⟩ := uncA_some h0
  obtain ⟨s9004, rfl, h5⟩ := scK_some h3
  obtain ⟨p0, rfl, h6⟩ := cP_some h5
  obtain ⟨a9007, r9008, rfl, h9⟩ := uncA_some h6
  obtain ⟨l9010, rfl, h11⟩ := avA_some h9
  obtain ⟨s9012, r9013, rfl, h14⟩ := uncK_some h11
  obtain ⟨s1_0, rfl, h15⟩ := cS_some h14
  obtain ⟨s9016, r9017, rfl, h18⟩ := uncK_some h15
  obtain ⟨x1_1, rfl, h19⟩ := cI_some h18
  obtain ⟨s9020, r9021, rfl, h22⟩ := uncK_some h19
  obtain ⟨s1_2, rfl, h23⟩ := cS_some h22
  obtain ⟨s9024, r9025, rfl, h26⟩ := uncK_some h23
  obtain ⟨x1_3, rfl, h27⟩ := cI_some h26
  obtain ⟨s9028, r9029, rfl, h30⟩ := uncK_some h27
  obtain ⟨s1_4, rfl, h31⟩ := cS_some h30
  obtain ⟨s9032, r9033, rfl, h34⟩ := uncK_some h31
  obtain ⟨x1_5, rfl, h35⟩ := cI_some h34
  obtain ⟨s9036, r9037, rfl, h38⟩ := uncK_some h35
  obtain ⟨c1_6, rfl, h39⟩ := cB_some h38
  obtain ⟨s9040, r9041, rfl, h42⟩ := uncK_some h39
  obtain ⟨l1_7, rfl, h43⟩ := cL_some h42
  obtain ⟨s9044, r9045, rfl, h46⟩ := uncK_some h43
  obtain ⟨p1_8, rfl, h47⟩ := cP_some h46
  obtain ⟨s9048, r9049, rfl, h50⟩ := uncK_some h47
  obtain ⟨l1_9, rfl, h51⟩ := cL_some h50
  obtain ⟨s9052, r9053, rfl, h54⟩ := uncK_some h51
  obtain ⟨c1_10, rfl, h55⟩ := cB_some h54
  obtain ⟨rfl, h56⟩ := endL_some h55
  obtain ⟨rfl, h57⟩ := endL_some h56
  rw [F21_0_eq] at h57
  exact execK_runs hD.typed Syn_zero Syn_mixed hJ X21_0 (T21 0).1 (envOf (T21 0).2 _) S K (chk_of (by kernel_rfl) (by kernel_rfl)) h57
noncomputable abbrev A21_16 (D J : Disp) (vals : List AV) (S : St) (K : AV → St → Prop) : Prop :=
  uncA vals fun a9001 r9002 => scK a9001 fun s9004 => SV.cP s9004 fun p0 => uncA r9002 fun a9007 r9008 => scK a9007 fun s9010 => SV.cL s9010 fun l79 => uncA r9008 fun a9013 r9014 => scK a9013 fun s9016 => SV.cI IntKind.i64 s9016 fun x80 => uncA r9014 fun a9019 r9020 => scK a9019 fun s9022 => SV.cI IntKind.i64 s9022 fun x81 => endL r9020 <| F21_16 D J p0 l79 x80 x81 S K
theorem A21_16_ok {D J : Disp} (hD : DOK SynP SynG D) (hJ : JOK SynP SynG Go.Proofs.Tryz.f21 T21 J) {vals : List AV} {S : St} {K : AV → St → Prop} (h0 : A21_16 D J vals S K) : Runs SynP SynG Go.Proofs.Tryz.f21 (T21 16).1 (envOf (T21 16).2 vals) S K := by
  obtain ⟨a9001, r9002, rfl, h3⟩ := uncA_some h0
  obtain ⟨s9004, rfl, h5⟩ := scK_some h3
  obtain ⟨p0, rfl, h6⟩ := cP_some h5
  obtain ⟨a9007, r9008, rfl, h9⟩ := uncA_some h6
  obtain ⟨s9010, rfl, h11⟩ := scK_some h9
  obtain ⟨l79, rfl, h12⟩ := cL_some h11
  obtain ⟨a9013, r9014, rfl, h15⟩ := uncA_some h12
  obtain ⟨s9016, rfl, h17⟩ := scK_some h15
  obtain ⟨x80, rfl, h18⟩ := cI_some h17
  obtain ⟨a9019, r9020, rfl, h21⟩ := uncA_some h18
  obtain ⟨s9022, rfl, h23⟩ := scK_some h21
  obtain ⟨x81, rfl, h24⟩ := cI_some h23
  obtain ⟨rfl, h25⟩ := endL_some h24
  rw [F21_16_eq] at h25
  exact execK_runs hD.typed Syn_zero Syn_mixed hJ X21_16 (T21 16).1 (envOf (T21 16).2 _) S K (chk_of (by kernel_rfl) (by kernel_rfl)) h25
noncomputable abbrev A21_22 (D J : Disp) (vals : List AV) (S : St) (K : AV → St → Prop) : Prop :=
  uncA vals fun a9001 r9002 => scK a9001 fun s9004 => SV.cP s9004 fun p0 => endL r9002 <| F21_22 D J p0 S K
theorem A21_22_ok {D J : Disp} (hD : DOK SynP SynG D) (hJ : JOK SynP SynG Go.Proofs.Tryz.f21 T21 J) {vals : List AV} {S : St} {K : AV → St → Prop} (h0 : A21_22 D J vals S K) : Runs SynP SynG Go.Proofs.Tryz.f21 (T21 22).1 (envOf (T21 22).2 vals) S K := by
  obtain ⟨a9001, r9002, rfl, h3⟩ := uncA_some h0
  obtain ⟨s9004, rfl, h5⟩ := scK_some h3
  obtain ⟨p0, rfl, h6⟩ := cP_some h5
  obtain ⟨rfl, h7⟩ := endL_some h6
  rw [F21_22_eq] at h7
  exact execK_runs hD.typed Syn_zero Syn_mixed hJ X21_22 (T21 22).1 (envOf (T21 22).2 _) S K (chk_of (by kernel_rfl) (by kernel_rfl)) h7
noncomputable def J21 (D : Disp) (k : Nat) : Disp := Nat.rec (motive := fun _ => Disp) Disp.no (fun _ ih => Disp.add 0 (A21_0 D ih) <| Disp.add 16 (A21_16 D ih) <| Disp.add 22 (A21_22 D ih) <| Disp.no) k
theorem J21_ok {D : Disp} (hD : DOK SynP SynG D) : ∀ k, JOK SynP SynG Go.Proofs.Tryz.f21 T21 (J21 D k)
  | 0 => JOK.no
  | k + 1 => JOK.add (ltB_ok (by kernel_rfl)) (fun vals S K h => A21_0_ok hD (J21_ok hD k) h) <| JOK.add (ltB_ok (by kernel_rfl)) (fun vals S K h => A21_16_ok hD (J21_ok hD k) h) <| JOK.add (ltB_ok (by kernel_rfl)) (fun vals S K h => A21_22_ok hD (J21_ok hD k) h) <| JOK.no
theorem E21_ok {D : Disp} (hD : DOK SynP SynG D) (k : Nat) {args : List AV} {S : St} {K : AV → St → Prop} (h : A21_0 D (J21 D k) args S K) : CallE SynP SynG 21 args S K := by
  have hr := A21_0_ok hD (J21_ok hD k) h
  have hl : args.length = 2 := by
    have h0 := h
    obtain ⟨a9001, r9002, rfl, h3⟩ := uncA_some h0
    obtain ⟨s9004, rfl, h5⟩ := scK_some h3
    obtain ⟨p0, rfl, h6⟩ := cP_some h5
    obtain ⟨a9007, r9008, rfl, h9⟩ := uncA_some h6
    obtain ⟨l9010, rfl, h11⟩ := avA_some h9
    obtain ⟨s9012, r9013, rfl, h14⟩ := uncK_some h11
    obtain ⟨s1_0, rfl, h15⟩ := cS_some h14
    obtain ⟨s9016, r9017, rfl, h18⟩ := uncK_some h15
    obtain ⟨x1_1, rfl, h19⟩ := cI_some h18
    obtain ⟨s9020, r9021, rfl, h22⟩ := uncK_some h19
    obtain ⟨s1_2, rfl, h23⟩ := cS_some h22
    obtain ⟨s9024, r9025, rfl, h26⟩ := uncK_some h23
    obtain ⟨x1_3, rfl, h27⟩ := cI_some h26
    obtain ⟨s9028, r9029, rfl, h30⟩ := uncK_some h27
    obtain ⟨s1_4, rfl, h31⟩ := cS_some h30
    obtain ⟨s9032, r9033, rfl, h34⟩ := uncK_some h31
    obtain ⟨x1_5, rfl, h35⟩ := cI_some h34
    obtain ⟨s9036, r9037, rfl, h38⟩ := uncK_some h35
    obtain ⟨c1_6, rfl, h39⟩ := cB_some h38
    obtain ⟨s9040, r9041, rfl, h42⟩ := uncK_some h39
    obtain ⟨l1_7, rfl, h43⟩ := cL_some h42
    obtain ⟨s9044, r9045, rfl, h46⟩ := uncK_some h43
    obtain ⟨p1_8, rfl, h47⟩ := cP_some h46
    obtain ⟨s9048, r9049, rfl, h50⟩ := uncK_some h47
    obtain ⟨l1_9, rfl, h51⟩ := cL_some h50
    obtain ⟨s9052, r9053, rfl, h54⟩ := uncK_some h51
    obtain ⟨c1_10, rfl, h55⟩ := cB_some h54
    obtain ⟨rfl, h56⟩ := endL_some h55
    obtain ⟨rfl, h57⟩ := endL_some h56
    rfl
  refine callOK_of (fn := Go.Proofs.Tryz.f21) (c := (match Go.Proofs.Tryz.f21.body with | some c => c | none => .skip)) (by kernel_rfl) (by kernel_rfl) (by kernel_rfl) (by rw [hl]; kernel_rfl) (by kernel_rfl) ?_
  rw [hl]
  exact hr
noncomputable def plans23 (i : Nat) : Plan := []
noncomputable def T23 (p : Nat) : List Item × List Nat := bif Nat.beq p 0 then ([.code (match Go.Proofs.Tryz.f23.body with | some c => c | none => .skip)], [0, 1]) else
  ([], [])
noncomputable def F23_0 (D J : Disp) (x0 : Int) (x1 : Int) (S : St) (K : AV → St → Prop) : Prop :=
 let S300 : St := (St.add S (AO.cells [(SV.int IntKind.i64 (0 : Int)), (SV.int IntKind.i64 (0 : Int))] (Op2.ty 25)));
 St.wr S300 (Bk.new (St.next S)) 0 [(SV.int IntKind.i64 x0), (SV.int IntKind.i64 x1)] fun S301 =>
 St.at S301 (Bk.new (St.next S)) 0 fun y302 =>
 uncK y302 fun v303 y304 =>
 SV.cI IntKind.i64 v303 fun x308 =>
 uncK y304 fun v309 y310 =>
 SV.cI IntKind.i64 v309 fun x314 =>
 K ((AV.one (V1.agg [(SV.int IntKind.i64 x308), (SV.int IntKind.i64 x314)]))) S301
noncomputable def X23_0 : X := (.op (.op .ret))
theorem F23_0_eq (D J : Disp) (x0 : Int) (x1 : Int) (S : St) (K : AV → St → Prop) : F23_0 D J x0 x1 S K = execK SynP SynG Go.Proofs.Tryz.f23 (typed SynP D) J plans23 X23_0 (T23 0).1 (envOf (T23 0).2 [(AV.one (V1.s (SV.int IntKind.i64 x0))), (AV.one (V1.s (SV.int IntKind.i64 x1)))]) S K := by kernel_rfl
noncomputable abbrev A23_0 (D J : Disp) (vals : List AV) (S : St) (K : AV → St → Prop) : Prop :=
  uncA vals fun a9001 r9002 => scK a9001 fun s9004 => SV.cI IntKind.i64 s9004 fun x0 => uncA r9002 fun a9007 r9008 => scK a9007 fun s9010 => SV.cI IntKind.i64 s9010 fun x1 => endL r9008 <| F23_0 D J x0 x1 S K
theorem A23_0_ok {D J : Disp} (hD : DOK SynP SynG D) (hJ : JOK SynP SynG Go.Proofs.Tryz.f23 T23 J) {vals : List AV} {S : St} {K : AV → St → Prop} (h0 : A23_0 D J vals S K) : Runs SynP SynG Go.Proofs.Tryz.f23 (T23 0).1 (envOf (T23 0).2 vals) S K := by
  obtain ⟨a9001, r9002, rfl, h3⟩ := uncA_some h0
  obtain ⟨s9004, rfl, h5⟩ := scK_some h3
  obtain ⟨x0, rfl, h6⟩ := cI_some h5
  obtain ⟨a9007, r9008, rfl, h9⟩ := uncA_some h6
  obtain ⟨s9010, rfl, h11⟩ := scK_some h9
  obtain ⟨x1, rfl, h12⟩ := cI_some h11
  obtain ⟨rfl, h13⟩ := endL_some h12
  rw [F23_0_eq] at h13
  exact execK_runs hD.typed Syn_zero Syn_mixed hJ X23_0 (T23 0).1 (envOf (T23 0).2 _) S K (chk_of (by kernel_rfl) (by kernel_rfl)) h13
noncomputable def J23 (D : Disp) (k : Nat) : Disp := Nat.rec (motive := fun _ => Disp) Disp.no (fun _ ih => Disp.add 0 (A23_0 D ih) <| Disp.no) k
theorem J23_ok {D : Disp} (hD : DOK SynP SynG D) : ∀ k, JOK SynP SynG Go.Proofs.Tryz.f23 T23 (J23 D k)
  | 0 => JOK.no
  | k + 1 => JOK.add (ltB_ok (by kernel_rfl)) (fun vals S K h => A23_0_ok hD (J23_ok hD k) h) <| JOK.no
theorem E23_ok {D : Disp} (hD : DOK SynP SynG D) (k : Nat) {args : List AV} {S : St} {K : AV → St → Prop} (h : A23_0 D (J23 D k) args S K) : CallE SynP SynG 23 args S K := by
  have hr := A23_0_ok hD (J23_ok hD k) h
  have hl : args.length = 2 := by
    have h0 := h
    obtain ⟨a9001, r9002, rfl, h3⟩ := uncA_some h0
    obtain ⟨s9004, rfl, h5⟩ := scK_some h3
    obtain ⟨x0, rfl, h6⟩ := cI_some h5
    obtain ⟨a9007, r9008, rfl, h9⟩ := uncA_some h6
    obtain ⟨s9010, rfl, h11⟩ := scK_some h9
    obtain ⟨x1, rfl, h12⟩ := cI_some h11
    obtain ⟨rfl, h13⟩ := endL_some h12
    rfl
  refine callOK_of (fn := Go.Proofs.Tryz.f23) (c := (match Go.Proofs.Tryz.f23.body with | some c => c | none => .skip)) (by kernel_rfl) (by kernel_rfl) (by kernel_rfl) (by rw [hl]; kernel_rfl) (by kernel_rfl) ?_
  rw [hl]
  exact hr
end
end Go.Xe
