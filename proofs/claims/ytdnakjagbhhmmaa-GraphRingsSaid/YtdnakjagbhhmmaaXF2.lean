import Derived.Test.YtdnakjagbhhmmaaXF0
import Derived.KernelRfl
set_option linter.unusedVariables false
set_option maxRecDepth 100000
namespace Go.Xe
open Go.RowKit
noncomputable section
noncomputable def plans25 (i : Nat) : Plan := []
noncomputable def T25 (p : Nat) : List Item × List Nat := bif Nat.beq p 0 then ([.code (match Go.Proofs.Try.f25.body with | some c => c | none => .skip)], [0, 1, 2]) else
  ([], [])
noncomputable def F25_0 (D J : Disp) (l0_0 : LV) (l0_1 : LV) (x0_2 : Int) (s1_0 : (List Nat)) (x1_1 : Int) (x1_2 : Int) (l1_3 : LV) (l1_4 : LV) (c1_5 : Bool) (m2 : MV) (S : St) (K : AV → St → Prop) : Prop :=
 let S300 : St := (St.add S (AO.cells [(SV.sl l0_0), (SV.sl l0_1), (SV.int IntKind.i64 x0_2)] Bool.false));
 let S301 : St := (St.add S300 (AO.cells [(SV.str s1_0), (SV.int IntKind.i64 x1_1), (SV.int IntKind.i64 x1_2), (SV.sl l1_3), (SV.sl l1_4), (SV.bool c1_5)] Bool.false));
 let S302 : St := (St.add S301 (AO.cells [(SV.map m2)] Bool.false));
 let S303 : St := (St.add S302 (AO.map [] 0));
 let S304 : St := (St.add S303 (AO.cells [(SV.map MV.nil)] Bool.false));
 St.wr S304 (Bk.new (St.next S303)) 0 [(SV.map (MV.mk (Bk.new (St.next S302))))] fun S305 =>
 St.at S305 (Bk.new (St.next S300)) 0 fun y306 =>
 uncK y306 fun v307 y308 =>
 SV.cS v307 fun y313 =>
 uncK y308 fun v314 y315 =>
 SV.cI IntKind.i64 v314 fun x319 =>
 uncK y315 fun v320 y321 =>
 SV.cI IntKind.i64 v320 fun x325 =>
 uncK y321 fun v326 y327 =>
 SV.cL v326 fun y334 =>
 uncK y327 fun v335 y336 =>
 SV.cL v335 fun y343 =>
 uncK y336 fun v344 y345 =>
 SV.cB v344 fun y347 =>
 D 19 [(AV.one (V1.agg [(SV.str y313), (SV.int IntKind.i64 x319), (SV.int IntKind.i64 x325), (SV.sl y334), (SV.sl y343), (SV.bool y347)])), (AV.one (V1.s (SV.fn (FV.mk (Fn.func 35) [] [(Prod.mk (Bk.new (St.next S303)) 0), (Prod.mk (Bk.new (St.next S301)) 0), (Prod.mk (Bk.new (St.next S)) 0)]))))] S305 fun v348 S349 =>
 avT v348 fun y351 =>
 endL y351 (St.at S349 (Bk.new (St.next S303)) 0 fun y352 =>
 uncK y352 fun v353 y354 =>
 SV.cM v353 fun y362 =>
 K ((AV.one (V1.s (SV.map y362)))) S349)
noncomputable def X25_0 : X := (.op (.op (.op (.op .ret))))
theorem F25_0_eq (D J : Disp) (l0_0 : LV) (l0_1 : LV) (x0_2 : Int) (s1_0 : (List Nat)) (x1_1 : Int) (x1_2 : Int) (l1_3 : LV) (l1_4 : LV) (c1_5 : Bool) (m2 : MV) (S : St) (K : AV → St → Prop) : F25_0 D J l0_0 l0_1 x0_2 s1_0 x1_1 x1_2 l1_3 l1_4 c1_5 m2 S K = execK GraphP GraphG Go.Proofs.Try.f25 (typed GraphP D) J plans25 X25_0 (T25 0).1 (envOf (T25 0).2 [(AV.one (V1.agg [(SV.sl l0_0), (SV.sl l0_1), (SV.int IntKind.i64 x0_2)])), (AV.one (V1.agg [(SV.str s1_0), (SV.int IntKind.i64 x1_1), (SV.int IntKind.i64 x1_2), (SV.sl l1_3), (SV.sl l1_4), (SV.bool c1_5)])), (AV.one (V1.s (SV.map m2)))]) S K := by kernel_rfl
noncomputable abbrev A25_0 (D J : Disp) (vals : List AV) (S : St) (K : AV → St → Prop) : Prop :=
  uncA vals fun a9001 r9002 => avA a9001 fun l9004 => uncK l9004 fun s9006 r9007 => SV.cL s9006 fun l0_0 => uncK r9007 fun s9010 r9011 => SV.cL s9010 fun l0_1 => uncK r9011 fun s9014 r9015 => SV.cI IntKind.i64 s9014 fun x0_2 => endL r9015 <| uncA r9002 fun a9019 r9020 => avA a9019 fun l9022 => uncK l9022 fun s9024 r9025 => SV.cS s9024 fun s1_0 => uncK r9025 fun s9028 r9029 => SV.cI IntKind.i64 s9028 fun x1_1 => uncK r9029 fun s9032 r9033 => SV.cI IntKind.i64 s9032 fun x1_2 => uncK r9033 fun s9036 r9037 => SV.cL s9036 fun l1_3 => uncK r9037 fun s9040 r9041 => SV.cL s9040 fun l1_4 => uncK r9041 fun s9044 r9045 => SV.cB s9044 fun c1_5 => endL r9045 <| uncA r9020 fun a9049 r9050 => scK a9049 fun s9052 => SV.cM s9052 fun m2 => endL r9050 <| F25_0 D J l0_0 l0_1 x0_2 s1_0 x1_1 x1_2 l1_3 l1_4 c1_5 m2 S K
theorem A25_0_ok {D J : Disp} (hD : DOK GraphP GraphG D) (hJ : JOK GraphP GraphG Go.Proofs.Try.f25 T25 J) {vals : List AV} {S : St} {K : AV → St → Prop} (h0 : A25_0 D J vals S K) : Runs GraphP GraphG Go.Proofs.Try.f25 (T25 0).1 (envOf (T25 0).2 vals) S K := by
  obtain ⟨a9001, r9002, rfl, h3⟩ := uncA_some h0
  obtain ⟨l9004, rfl, h5⟩ := avA_some h3
  obtain ⟨s9006, r9007, rfl, h8⟩ := uncK_some h5
  obtain ⟨l0_0, rfl, h9⟩ := cL_some h8
  obtain ⟨s9010, r9011, rfl, h12⟩ := uncK_some h9
  obtain ⟨l0_1, rfl, h13⟩ := cL_some h12
  obtain ⟨s9014, r9015, rfl, h16⟩ := uncK_some h13
  obtain ⟨x0_2, rfl, h17⟩ := cI_some h16
  obtain ⟨rfl, h18⟩ := endL_some h17
  obtain ⟨a9019, r9020, rfl, h21⟩ := uncA_some h18
  obtain ⟨l9022, rfl, h23⟩ := avA_some h21
  obtain ⟨s9024, r9025, rfl, h26⟩ := uncK_some h23
  obtain ⟨s1_0, rfl, h27⟩ := cS_some h26
  obtain ⟨s9028, r9029, rfl, h30⟩ := uncK_some h27
  obtain ⟨x1_1, rfl, h31⟩ := cI_some h30
  obtain ⟨s9032, r9033, rfl, h34⟩ := uncK_some h31
  obtain ⟨x1_2, rfl, h35⟩ := cI_some h34
  obtain ⟨s9036, r9037, rfl, h38⟩ := uncK_some h35
  obtain ⟨l1_3, rfl, h39⟩ := cL_some h38
  obtain ⟨s9040, r9041, rfl, h42⟩ := uncK_some h39
  obtain ⟨l1_4, rfl, h43⟩ := cL_some h42
  obtain ⟨s9044, r9045, rfl, h46⟩ := uncK_some h43
  obtain ⟨c1_5, rfl, h47⟩ := cB_some h46
  obtain ⟨rfl, h48⟩ := endL_some h47
  obtain ⟨a9049, r9050, rfl, h51⟩ := uncA_some h48
  obtain ⟨s9052, rfl, h53⟩ := scK_some h51
  obtain ⟨m2, rfl, h54⟩ := cM_some h53
  obtain ⟨rfl, h55⟩ := endL_some h54
  rw [F25_0_eq] at h55
  exact execK_runs hD.typed Graph_zero Graph_mixed hJ X25_0 (T25 0).1 (envOf (T25 0).2 _) S K (chk_of (by kernel_rfl) (by kernel_rfl)) h55
noncomputable def J25 (D : Disp) (k : Nat) : Disp := Nat.rec (motive := fun _ => Disp) Disp.no (fun _ ih => Disp.add 0 (A25_0 D ih) <| Disp.no) k
theorem J25_ok {D : Disp} (hD : DOK GraphP GraphG D) : ∀ k, JOK GraphP GraphG Go.Proofs.Try.f25 T25 (J25 D k)
  | 0 => JOK.no
  | k + 1 => JOK.add (ltB_ok (by kernel_rfl)) (fun vals S K h => A25_0_ok hD (J25_ok hD k) h) <| JOK.no
theorem E25_ok {D : Disp} (hD : DOK GraphP GraphG D) (k : Nat) {args : List AV} {S : St} {K : AV → St → Prop} (h : A25_0 D (J25 D k) args S K) : CallOK GraphP GraphG 25 args S K := by
  have hr := A25_0_ok hD (J25_ok hD k) h
  have hl : args.length = 3 := by
    have h0 := h
    obtain ⟨a9001, r9002, rfl, h3⟩ := uncA_some h0
    obtain ⟨l9004, rfl, h5⟩ := avA_some h3
    obtain ⟨s9006, r9007, rfl, h8⟩ := uncK_some h5
    obtain ⟨l0_0, rfl, h9⟩ := cL_some h8
    obtain ⟨s9010, r9011, rfl, h12⟩ := uncK_some h9
    obtain ⟨l0_1, rfl, h13⟩ := cL_some h12
    obtain ⟨s9014, r9015, rfl, h16⟩ := uncK_some h13
    obtain ⟨x0_2, rfl, h17⟩ := cI_some h16
    obtain ⟨rfl, h18⟩ := endL_some h17
    obtain ⟨a9019, r9020, rfl, h21⟩ := uncA_some h18
    obtain ⟨l9022, rfl, h23⟩ := avA_some h21
    obtain ⟨s9024, r9025, rfl, h26⟩ := uncK_some h23
    obtain ⟨s1_0, rfl, h27⟩ := cS_some h26
    obtain ⟨s9028, r9029, rfl, h30⟩ := uncK_some h27
    obtain ⟨x1_1, rfl, h31⟩ := cI_some h30
    obtain ⟨s9032, r9033, rfl, h34⟩ := uncK_some h31
    obtain ⟨x1_2, rfl, h35⟩ := cI_some h34
    obtain ⟨s9036, r9037, rfl, h38⟩ := uncK_some h35
    obtain ⟨l1_3, rfl, h39⟩ := cL_some h38
    obtain ⟨s9040, r9041, rfl, h42⟩ := uncK_some h39
    obtain ⟨l1_4, rfl, h43⟩ := cL_some h42
    obtain ⟨s9044, r9045, rfl, h46⟩ := uncK_some h43
    obtain ⟨c1_5, rfl, h47⟩ := cB_some h46
    obtain ⟨rfl, h48⟩ := endL_some h47
    obtain ⟨a9049, r9050, rfl, h51⟩ := uncA_some h48
    obtain ⟨s9052, rfl, h53⟩ := scK_some h51
    obtain ⟨m2, rfl, h54⟩ := cM_some h53
    obtain ⟨rfl, h55⟩ := endL_some h54
    rfl
  refine callOK_of (fn := Go.Proofs.Try.f25) (c := (match Go.Proofs.Try.f25.body with | some c => c | none => .skip)) (by kernel_rfl) (by kernel_rfl) (by kernel_rfl) (by rw [hl]; kernel_rfl) (by kernel_rfl) ?_
  rw [hl]
  exact hr
noncomputable def plans26 (i : Nat) : Plan := if Nat.beq i 1 then [(0, []), (1, [0]), (2, [1, 0]), (3, [2, 1, 0]), (4, []), (5, []), (6, [5]), (7, [6, 5]), (8, [7, 6, 5]), (9, []), (10, []), (11, [10]), (12, [11, 10]), (13, [12, 11, 10]), (14, []), (15, [14]), (16, [15, 14]), (17, [16, 15, 14]), (18, [3, 4, 0, 1, 2, 8, 10, 11, 12, 13, 17, 7, 16, 6, 15, 5, 14]), (19, [18, 13, 0, 1, 2, 3, 4, 8, 10, 11, 12, 17, 7, 16, 6, 15, 5, 14]), (20, [8, 9, 0, 1, 2, 3, 4, 5, 6, 7, 10, 11, 12, 13, 14, 15, 16, 17, 18, 19]), (21, [20, 17, 19, 0, 1, 2, 3, 4, 5, 6, 7, 8, 9, 10, 11, 12, 13, 14, 15, 16, 18])] else if Nat.beq i 2 then [(0, []), (1, []), (2, [1]), (3, [2, 1]), (4, [3, 2, 1]), (5, []), (6, []), (7, [6]), (8, [7, 6]), (9, [8, 7, 6]), (10, []), (11, [10]), (12, [9, 11, 8, 10, 7, 6]), (13, [0, 4, 6, 7, 8, 9, 10, 11, 12, 3, 2, 1]), (14, [13, 0, 4, 6, 7, 8, 9, 10, 11, 12, 3, 2, 1]), (15, [14, 12, 0, 4, 6, 7, 8, 9, 10, 11, 13, 3, 2, 1]), (16, [4, 5, 0, 1, 2, 3, 6, 7, 8, 9, 10, 11, 12, 13, 14, 15]), (17, [16, 15, 0, 1, 2, 3, 4, 5, 6, 7, 8, 9, 10, 11, 12, 13, 14])] else if Nat.beq i 8 then [(0, []), (1, [0]), (2, [1, 0]), (3, [2, 1, 0]), (4, []), (5, []), (6, [5]), (7, [6, 5]), (8, [7, 6, 5]), (9, []), (10, [8, 9, 7, 6, 5]), (11, [10, 8, 9, 7, 6, 5]), (12, []), (13, [12]), (14, [13, 12]), (15, [14, 13, 12]), (16, []), (17, [15, 16, 14, 13, 12]), (18, [17, 15, 16, 14, 13, 12]), (19, [11, 18, 10, 17, 8, 9, 15, 16, 7, 14, 6, 13, 5, 12]), (20, [3, 4, 0, 1, 2, 5, 6, 7, 8, 9, 10, 11, 12, 13, 14, 15, 16, 17, 18, 19]), (21, [20, 19, 0, 1, 2, 3, 4, 5, 6, 7, 8, 9, 10, 11, 12, 13, 14, 15, 16, 17, 18])] else if Nat.beq i 10 then [(0, []), (1, [0]), (2, [1, 0]), (3, [2, 1, 0]), (4, []), (5, []), (6, [5]), (7, [6, 5]), (8, [7, 6, 5]), (9, []), (10, [8, 9, 7, 6, 5]), (11, [10, 8, 9, 7, 6, 5]), (12, []), (13, [12]), (14, [13, 12]), (15, [14, 13, 12]), (16, []), (17, [15, 16, 14, 13, 12]), (18, [17, 15, 16, 14, 13, 12]), (19, [11, 18, 10, 17, 8, 9, 15, 16, 7, 14, 6, 13, 5, 12]), (20, [3, 4, 0, 1, 2, 5, 6, 7, 8, 9, 10, 11, 12, 13, 14, 15, 16, 17, 18, 19]), (21, [20, 19, 0, 1, 2, 3, 4, 5, 6, 7, 8, 9, 10, 11, 12, 13, 14, 15, 16, 17, 18])] else if Nat.beq i 12 then [(0, []), (1, [0]), (2, [1, 0]), (3, [2, 1, 0]), (4, []), (5, [3, 4, 2, 1, 0]), (6, [5, 3, 4, 2, 1, 0]), (7, []), (8, [7]), (9, [8, 7]), (10, [9, 8, 7]), (11, []), (12, [10, 11, 9, 8, 7]), (13, [12, 10, 11, 9, 8, 7]), (14, [6, 13, 5, 12, 3, 4, 10, 11, 2, 9, 1, 8, 0, 7])] else if Nat.beq i 14 then [(0, []), (1, [0]), (2, [1, 0]), (3, [2, 1, 0]), (4, []), (5, [4]), (6, [5, 4]), (7, [6, 5, 4]), (8, [7, 6, 5, 4]), (9, [8, 7, 6, 5, 4]), (10, [3, 9, 2, 8, 1, 7, 0, 6, 5, 4]), (11, [10, 3, 9, 2, 8, 1, 7, 0, 6, 5, 4]), (12, [11, 0, 1, 2, 3, 4, 5, 6, 7, 8, 9, 10])] else if Nat.beq i 15 then [(0, []), (1, []), (2, [1]), (3, [2, 1]), (4, [3, 2, 1]), (5, []), (6, []), (7, [6]), (8, [7, 6]), (9, [8, 7, 6]), (10, []), (11, [10]), (12, [11, 10]), (13, [12, 11, 10]), (14, [13, 12, 11, 10]), (15, [14, 13, 12, 11, 10]), (16, [9, 15, 8, 14, 7, 13, 6, 12, 11, 10]), (17, [0, 4, 6, 7, 8, 9, 10, 11, 12, 13, 14, 15, 16, 3, 2, 1]), (18, [17, 0, 4, 6, 7, 8, 9, 10, 11, 12, 13, 14, 15, 16, 3, 2, 1]), (19, [18, 16, 0, 4, 6, 7, 8, 9, 10, 11, 12, 13, 14, 15, 17, 3, 2, 1]), (20, [4, 5, 0, 1, 2, 3, 6, 7, 8, 9, 10, 11, 12, 13, 14, 15, 16, 17, 18, 19]), (21, [20, 19, 0, 1, 2, 3, 4, 5, 6, 7, 8, 9, 10, 11, 12, 13, 14, 15, 16, 17, 18])] else if Nat.beq i 16 then [(0, []), (1, [0]), (2, [1, 0]), (3, [2, 1, 0]), (4, []), (5, []), (6, [5]), (7, [6, 5]), (8, [7, 6, 5]), (9, [8, 7, 6, 5]), (10, [3, 4, 0, 1, 2, 5, 6, 7, 8, 9]), (11, [10, 9, 0, 1, 2, 3, 4, 5, 6, 7, 8])] else []
noncomputable def T26 (p : Nat) : List Item × List Nat := bif Nat.beq p 0 then ([.code (match Go.Proofs.Try.f26.body with | some c => c | none => .skip)], [0, 1]) else
  bif Nat.beq p 4 then (navs [.op, .op, .op, .op] [.code (match Go.Proofs.Try.f26.body with | some c => c | none => .skip)], [0, 1, 57, 58, 59]) else
  bif Nat.beq p 11 then (navs [.op, .op, .op, .op, .op, .th, .op, .op, .th, .op, .op] [.code (match Go.Proofs.Try.f26.body with | some c => c | none => .skip)], [0, 1, 57, 58, 59]) else
  bif Nat.beq p 19 then (navs [.op, .op, .op, .op, .op, .el, .op, .el, .op] [.code (match Go.Proofs.Try.f26.body with | some c => c | none => .skip)], [0, 1, 6]) else
  ([], [])
noncomputable def F26_0 (D J : Disp) (p0 : PV) (x1 : Int) (S : St) (K : AV → St → Prop) : Prop :=
 PV.cs p0 fun b300 n301 =>
 let n302 : Nat := (n301 + 5);
 St.at S b300 n302 fun y303 =>
 uncK y303 fun v304 y305 =>
 SV.cI IntKind.i64 v304 fun x309 =>
 let x310 : Int := (iwrap IntKind.i64 (x309 + (1 : Int)));
 PV.cs p0 fun b311 n312 =>
 let n313 : Nat := (n312 + 5);
 St.wr S b311 n313 [(SV.int IntKind.i64 x310)] fun S314 =>
 PV.cs p0 fun b315 n316 =>
 let n317 : Nat := (n316 + 1);
 St.at S314 b315 n317 fun y318 =>
 uncK y318 fun v319 y320 =>
 SV.cL v319 fun y327 =>
 PV.cs p0 fun b328 n329 =>
 let n330 : Nat := (n329 + 2);
 St.at S314 b328 n330 fun y331 =>
 uncK y331 fun v332 y333 =>
 SV.cL v332 fun y340 =>
 PV.cs p0 fun b341 n342 =>
 let n343 : Nat := (n342 + 5);
 St.at S314 b341 n343 fun y344 =>
 uncK y344 fun v345 y346 =>
 SV.cI IntKind.i64 v345 fun x350 =>
 PV.cs p0 fun b351 n352 =>
 let n353 : Nat := (n352 + 5);
 St.at S314 b351 n353 fun y354 =>
 uncK y354 fun v355 y356 =>
 SV.cI IntKind.i64 v355 fun x360 =>
 LV.cs y327 fun b361 n362 n363 y364 =>
 req (Bool.and (ile (0 : Int) x1) (ilt x1 (Int.ofNat n363))) <|
 let n365 : Nat := (n362 + ((Int.toNat x1) * 1));
 St.wr S314 b361 n365 [(SV.int IntKind.i64 x350)] fun S366 =>
 LV.cs y340 fun b367 n368 n369 y370 =>
 req (Bool.and (ile (0 : Int) x1) (ilt x1 (Int.ofNat n369))) <|
 let n371 : Nat := (n368 + ((Int.toNat x1) * 1));
 St.wr S366 b367 n371 [(SV.int IntKind.i64 x360)] fun S372 =>
 PV.cs p0 fun b373 n374 =>
 let n375 : Nat := (n374 + 3);
 St.at S372 b373 n375 fun y376 =>
 uncK y376 fun v377 y378 =>
 SV.cL v377 fun y385 =>
 PV.cs p0 fun b386 n387 =>
 let n388 : Nat := (n387 + 4);
 St.at S372 b386 n388 fun y389 =>
 uncK y389 fun v390 y391 =>
 SV.cL v390 fun y398 =>
 let o399 : AO := (AO.cells [(SV.int IntKind.i64 x1)] Bool.false);
 let d400 : (Sum Nat Nat) := (Sum.inl 1);
 let S401 : St := (St.add S372 o399);
 St.src S401 1 (LV.mk (Bk.new (St.next S372)) 0 1 d400) fun y402 n403 =>
 St.app S401 1 8 y398 y402 n403 fun y404 S405 =>
 St.at S405 b373 n375 fun y406 =>
 uncK y406 fun v407 y408 =>
 SV.cL v407 fun y415 =>
 req (sameAV (AV.one (V1.s (SV.sl y415))) (AV.one (V1.s (SV.sl y385)))) <|
 PV.cs p0 fun b416 n417 =>
 let n418 : Nat := (n417 + 4);
 St.wr S405 b416 n418 [(SV.sl y404)] fun S419 =>
 LV.cs y385 fun b420 n421 n422 y423 =>
 req (Bool.and (ile (0 : Int) x1) (ilt x1 (Int.ofNat n422))) <|
 let n424 : Nat := (n421 + ((Int.toNat x1) * 1));
 St.wr S419 b420 n424 [(SV.bool Bool.true)] fun S425 =>
 PV.cs p0 fun b426 n427 =>
 let n428 : Nat := (n427 + 0);
 St.at S425 b426 n428 fun y429 =>
 uncK y429 fun v430 y431 =>
 SV.cL v430 fun y438 =>
 LV.cs y438 fun b439 n440 n441 y442 =>
 req (Bool.and (ile (0 : Int) x1) (ilt x1 (Int.ofNat n441))) <|
 let n443 : Nat := (n440 + ((Int.toNat x1) * 1));
 St.at S425 b439 n443 fun y444 =>
 uncK y444 fun v445 y446 =>
 SV.cL v445 fun y453 =>
 let x454 : Int := (Int.ofNat (LV.len y453));
 J 4 [(AV.one (V1.s (SV.ptr p0))), (AV.one (V1.s (SV.int IntKind.i64 x1))), (AV.one (V1.s (SV.sl y453))), (AV.one (V1.s (SV.int IntKind.i64 x454))), (AV.one (V1.s (SV.int IntKind.i64 (0 : Int))))] S425 K
noncomputable def X26_0 : X := (.op (.op (.op (.op (.jmp 4 [0, 1, 57, 58, 59])))))
theorem F26_0_eq (D J : Disp) (p0 : PV) (x1 : Int) (S : St) (K : AV → St → Prop) : F26_0 D J p0 x1 S K = execK GraphP GraphG Go.Proofs.Try.f26 (typed GraphP D) J plans26 X26_0 (T26 0).1 (envOf (T26 0).2 [(AV.one (V1.s (SV.ptr p0))), (AV.one (V1.s (SV.int IntKind.i64 x1)))]) S K := by kernel_rfl
noncomputable def F26_4 (D J : Disp) (p0 : PV) (x1 : Int) (l57 : LV) (x58 : Int) (x59 : Int) (S : St) (K : AV → St → Prop) : Prop :=
 let c300 : Bool := (ilt x59 x58);
 ifK c300
 (LV.cs l57 fun b301 n302 n303 y304 =>
 req (Bool.and (ile (0 : Int) x59) (ilt x59 (Int.ofNat n303))) <|
 let n305 : Nat := (n302 + ((Int.toNat x59) * 1));
 St.at S b301 n305 fun y306 =>
 uncK y306 fun v307 y308 =>
 SV.cI IntKind.i64 v307 fun x312 =>
 PV.cs p0 fun b313 n314 =>
 let n315 : Nat := (n314 + 1);
 St.at S b313 n315 fun y316 =>
 uncK y316 fun v317 y318 =>
 SV.cL v317 fun y325 =>
 LV.cs y325 fun b326 n327 n328 y329 =>
 req (Bool.and (ile (0 : Int) x312) (ilt x312 (Int.ofNat n328))) <|
 let n330 : Nat := (n327 + ((Int.toNat x312) * 1));
 St.at S b326 n330 fun y331 =>
 uncK y331 fun v332 y333 =>
 SV.cI IntKind.i64 v332 fun x337 =>
 let c338 : Bool := (ieq x337 (0 : Int));
 ifK c338
 (D 26 [(AV.one (V1.s (SV.ptr p0))), (AV.one (V1.s (SV.int IntKind.i64 x312)))] S fun v339 S340 =>
 avT v339 fun y342 =>
 endL y342 (PV.cs p0 fun b343 n344 =>
 let n345 : Nat := (n344 + 2);
 St.at S340 b343 n345 fun y346 =>
 uncK y346 fun v347 y348 =>
 SV.cL v347 fun y355 =>
 PV.cs p0 fun b356 n357 =>
 let n358 : Nat := (n357 + 2);
 St.at S340 b356 n358 fun y359 =>
 uncK y359 fun v360 y361 =>
 SV.cL v360 fun y368 =>
 LV.cs y368 fun b369 n370 n371 y372 =>
 req (Bool.and (ile (0 : Int) x1) (ilt x1 (Int.ofNat n371))) <|
 let n373 : Nat := (n370 + ((Int.toNat x1) * 1));
 St.at S340 b369 n373 fun y374 =>
 uncK y374 fun v375 y376 =>
 SV.cI IntKind.i64 v375 fun x380 =>
 PV.cs p0 fun b381 n382 =>
 let n383 : Nat := (n382 + 2);
 St.at S340 b381 n383 fun y384 =>
 uncK y384 fun v385 y386 =>
 SV.cL v385 fun y393 =>
 LV.cs y393 fun b394 n395 n396 y397 =>
 req (Bool.and (ile (0 : Int) x312) (ilt x312 (Int.ofNat n396))) <|
 let n398 : Nat := (n395 + ((Int.toNat x312) * 1));
 St.at S340 b394 n398 fun y399 =>
 uncK y399 fun v400 y401 =>
 SV.cI IntKind.i64 v400 fun x405 =>
 let x406 : Int := (imin x380 x405);
 LV.cs y355 fun b407 n408 n409 y410 =>
 req (Bool.and (ile (0 : Int) x1) (ilt x1 (Int.ofNat n409))) <|
 let n411 : Nat := (n408 + ((Int.toNat x1) * 1));
 St.wr S340 b407 n411 [(SV.int IntKind.i64 x406)] fun S412 =>
 J 11 [(AV.one (V1.s (SV.ptr p0))), (AV.one (V1.s (SV.int IntKind.i64 x1))), (AV.one (V1.s (SV.sl l57))), (AV.one (V1.s (SV.int IntKind.i64 x58))), (AV.one (V1.s (SV.int IntKind.i64 x59)))] S412 K))
 (PV.cs p0 fun b432 n433 =>
 let n434 : Nat := (n433 + 3);
 St.at S b432 n434 fun y435 =>
 uncK y435 fun v436 y437 =>
 SV.cL v436 fun y444 =>
 LV.cs y444 fun b445 n446 n447 y448 =>
 req (Bool.and (ile (0 : Int) x312) (ilt x312 (Int.ofNat n447))) <|
 let n449 : Nat := (n446 + ((Int.toNat x312) * 1));
 St.at S b445 n449 fun y450 =>
 uncK y450 fun v451 y452 =>
 SV.cB v451 fun y454 =>
 ifK y454
 (PV.cs p0 fun b455 n456 =>
 let n457 : Nat := (n456 + 2);
 St.at S b455 n457 fun y458 =>
 uncK y458 fun v459 y460 =>
 SV.cL v459 fun y467 =>
 PV.cs p0 fun b468 n469 =>
 let n470 : Nat := (n469 + 2);
 St.at S b468 n470 fun y471 =>
 uncK y471 fun v472 y473 =>
 SV.cL v472 fun y480 =>
 LV.cs y480 fun b481 n482 n483 y484 =>
 req (Bool.and (ile (0 : Int) x1) (ilt x1 (Int.ofNat n483))) <|
 let n485 : Nat := (n482 + ((Int.toNat x1) * 1));
 St.at S b481 n485 fun y486 =>
 uncK y486 fun v487 y488 =>
 SV.cI IntKind.i64 v487 fun x492 =>
 PV.cs p0 fun b493 n494 =>
 let n495 : Nat := (n494 + 1);
 St.at S b493 n495 fun y496 =>
 uncK y496 fun v497 y498 =>
 SV.cL v497 fun y505 =>
 LV.cs y505 fun b506 n507 n508 y509 =>
 req (Bool.and (ile (0 : Int) x312) (ilt x312 (Int.ofNat n508))) <|
 let n510 : Nat := (n507 + ((Int.toNat x312) * 1));
 St.at S b506 n510 fun y511 =>
 uncK y511 fun v512 y513 =>
 SV.cI IntKind.i64 v512 fun x517 =>
 let x518 : Int := (imin x492 x517);
 LV.cs y467 fun b519 n520 n521 y522 =>
 req (Bool.and (ile (0 : Int) x1) (ilt x1 (Int.ofNat n521))) <|
 let n523 : Nat := (n520 + ((Int.toNat x1) * 1));
 St.wr S b519 n523 [(SV.int IntKind.i64 x518)] fun S524 =>
 J 11 [(AV.one (V1.s (SV.ptr p0))), (AV.one (V1.s (SV.int IntKind.i64 x1))), (AV.one (V1.s (SV.sl l57))), (AV.one (V1.s (SV.int IntKind.i64 x58))), (AV.one (V1.s (SV.int IntKind.i64 x59)))] S524 K)
 (J 11 [(AV.one (V1.s (SV.ptr p0))), (AV.one (V1.s (SV.int IntKind.i64 x1))), (AV.one (V1.s (SV.sl l57))), (AV.one (V1.s (SV.int IntKind.i64 x58))), (AV.one (V1.s (SV.int IntKind.i64 x59)))] S K)))
 (PV.cs p0 fun b562 n563 =>
 let n564 : Nat := (n563 + 2);
 St.at S b562 n564 fun y565 =>
 uncK y565 fun v566 y567 =>
 SV.cL v566 fun y574 =>
 LV.cs y574 fun b575 n576 n577 y578 =>
 req (Bool.and (ile (0 : Int) x1) (ilt x1 (Int.ofNat n577))) <|
 let n579 : Nat := (n576 + ((Int.toNat x1) * 1));
 St.at S b575 n579 fun y580 =>
 uncK y580 fun v581 y582 =>
 SV.cI IntKind.i64 v581 fun x586 =>
 PV.cs p0 fun b587 n588 =>
 let n589 : Nat := (n588 + 1);
 St.at S b587 n589 fun y590 =>
 uncK y590 fun v591 y592 =>
 SV.cL v591 fun y599 =>
 LV.cs y599 fun b600 n601 n602 y603 =>
 req (Bool.and (ile (0 : Int) x1) (ilt x1 (Int.ofNat n602))) <|
 let n604 : Nat := (n601 + ((Int.toNat x1) * 1));
 St.at S b600 n604 fun y605 =>
 uncK y605 fun v606 y607 =>
 SV.cI IntKind.i64 v606 fun x611 =>
 let c612 : Bool := (Bool.not (ieq x586 x611));
 ifK c612
 (K ((AV.tup [])) S)
 (J 19 [(AV.one (V1.s (SV.ptr p0))), (AV.one (V1.s (SV.int IntKind.i64 x1))), (AV.one (V1.s (SV.sl LV.nil)))] S K))
noncomputable def X26_4 : X := (.op (.br (.op (.op (.br (.op (.op (.jmp 11 [0, 1, 57, 58, 59]))) (.op (.br (.op (.jmp 11 [0, 1, 57, 58, 59])) (.jmp 11 [0, 1, 57, 58, 59])))))) (.op (.br .ret (.op (.jmp 19 [0, 1, 6]))))))
theorem F26_4_eq (D J : Disp) (p0 : PV) (x1 : Int) (l57 : LV) (x58 : Int) (x59 : Int) (S : St) (K : AV → St → Prop) : F26_4 D J p0 x1 l57 x58 x59 S K = execK GraphP GraphG Go.Proofs.Try.f26 (typed GraphP D) J plans26 X26_4 (T26 4).1 (envOf (T26 4).2 [(AV.one (V1.s (SV.ptr p0))), (AV.one (V1.s (SV.int IntKind.i64 x1))), (AV.one (V1.s (SV.sl l57))), (AV.one (V1.s (SV.int IntKind.i64 x58))), (AV.one (V1.s (SV.int IntKind.i64 x59)))]) S K := by kernel_rfl
noncomputable def F26_11 (D J : Disp) (p0 : PV) (x1 : Int) (l57 : LV) (x58 : Int) (x59 : Int) (S : St) (K : AV → St → Prop) : Prop :=
 let x300 : Int := (iwrap IntKind.i64 (x59 + (1 : Int)));
 J 4 [(AV.one (V1.s (SV.ptr p0))), (AV.one (V1.s (SV.int IntKind.i64 x1))), (AV.one (V1.s (SV.sl l57))), (AV.one (V1.s (SV.int IntKind.i64 x58))), (AV.one (V1.s (SV.int IntKind.i64 x300)))] S K
noncomputable def X26_11 : X := (.op (.jmp 4 [0, 1, 57, 58, 59]))
theorem F26_11_eq (D J : Disp) (p0 : PV) (x1 : Int) (l57 : LV) (x58 : Int) (x59 : Int) (S : St) (K : AV → St → Prop) : F26_11 D J p0 x1 l57 x58 x59 S K = execK GraphP GraphG Go.Proofs.Try.f26 (typed GraphP D) J plans26 X26_11 (T26 11).1 (envOf (T26 11).2 [(AV.one (V1.s (SV.ptr p0))), (AV.one (V1.s (SV.int IntKind.i64 x1))), (AV.one (V1.s (SV.sl l57))), (AV.one (V1.s (SV.int IntKind.i64 x58))), (AV.one (V1.s (SV.int IntKind.i64 x59)))]) S K := by kernel_rfl
noncomputable def F26_19 (D J : Disp) (p0 : PV) (x1 : Int) (l6 : LV) (S : St) (K : AV → St → Prop) : Prop :=
 PV.cs p0 fun b300 n301 =>
 let n302 : Nat := (n301 + 4);
 St.at S b300 n302 fun y303 =>
 uncK y303 fun v304 y305 =>
 SV.cL v304 fun y312 =>
 PV.cs p0 fun b313 n314 =>
 let n315 : Nat := (n314 + 4);
 St.at S b313 n315 fun y316 =>
 uncK y316 fun v317 y318 =>
 SV.cL v317 fun y325 =>
 let x326 : Int := (Int.ofNat (LV.len y325));
 let x327 : Int := (iwrap IntKind.i64 (x326 - (1 : Int)));
 LV.cs y312 fun b328 n329 n330 y331 =>
 req (Bool.and (ile (0 : Int) x327) (ilt x327 (Int.ofNat n330))) <|
 let n332 : Nat := (n329 + ((Int.toNat x327) * 1));
 St.at S b328 n332 fun y333 =>
 uncK y333 fun v334 y335 =>
 SV.cI IntKind.i64 v334 fun x339 =>
 PV.cs p0 fun b340 n341 =>
 let n342 : Nat := (n341 + 3);
 St.at S b340 n342 fun y343 =>
 uncK y343 fun v344 y345 =>
 SV.cL v344 fun y352 =>
 PV.cs p0 fun b353 n354 =>
 let n355 : Nat := (n354 + 4);
 St.at S b353 n355 fun y356 =>
 uncK y356 fun v357 y358 =>
 SV.cL v357 fun y365 =>
 PV.cs p0 fun b366 n367 =>
 let n368 : Nat := (n367 + 4);
 St.at S b366 n368 fun y369 =>
 uncK y369 fun v370 y371 =>
 SV.cL v370 fun y378 =>
 let x379 : Int := (Int.ofNat (LV.len y378));
 let x380 : Int := (iwrap IntKind.i64 (x379 - (1 : Int)));
 LV.on y365 (req (Bool.and Bool.true (Bool.and (ile (0 : Int) (oInt (Option.some x380) (0 : Int))) (ile (oInt (Option.some x380) (0 : Int)) (0 : Int)))) <|
 PV.cs p0 fun b381 n382 =>
 let n383 : Nat := (n382 + 4);
 St.wr S b381 n383 [(SV.sl LV.nil)] fun S384 =>
 LV.cs y352 fun b385 n386 n387 y388 =>
 req (Bool.and (ile (0 : Int) x339) (ilt x339 (Int.ofNat n387))) <|
 let n389 : Nat := (n386 + ((Int.toNat x339) * 1));
 St.wr S384 b385 n389 [(SV.bool Bool.false)] fun S390 =>
 PV.cs p0 fun b391 n392 =>
 let n393 : Nat := (n392 + 6);
 St.at S390 b391 n393 fun y394 =>
 uncK y394 fun v395 y396 =>
 SV.cL v395 fun y403 =>
 PV.cs p0 fun b404 n405 =>
 let n406 : Nat := (n405 + 7);
 St.at S390 b404 n406 fun y407 =>
 uncK y407 fun v408 y409 =>
 SV.cL v408 fun y416 =>
 let x417 : Int := (Int.ofNat (LV.len y416));
 LV.cs y403 fun b418 n419 n420 y421 =>
 req (Bool.and (ile (0 : Int) x339) (ilt x339 (Int.ofNat n420))) <|
 let n422 : Nat := (n419 + ((Int.toNat x339) * 1));
 St.wr S390 b418 n422 [(SV.int IntKind.i64 x417)] fun S423 =>
 let d424 : (Sum Nat Nat) := (Sum.inl 1);
 let S425 : St := (St.add S423 (AO.cells [(SV.int IntKind.i64 x339)] Bool.false));
 St.src S425 1 (LV.mk (Bk.new (St.next S423)) 0 1 d424) fun y426 n427 =>
 St.app S425 1 8 l6 y426 n427 fun y428 S429 =>
 let c430 : Bool := (ieq x339 x1);
 ifK c430
 (D 36 [(AV.one (V1.s (SV.sl y428)))] S429 fun v431 S432 =>
 avT v431 fun y434 =>
 endL y434 (PV.cs p0 fun b435 n436 =>
 let n437 : Nat := (n436 + 7);
 St.at S432 b435 n437 fun y438 =>
 uncK y438 fun v439 y440 =>
 SV.cL v439 fun y447 =>
 let d448 : (Sum Nat Nat) := (Sum.inl 1);
 let S449 : St := (St.add S432 (AO.cells [(SV.sl y428)] Bool.false));
 St.src S449 1 (LV.mk (Bk.new (St.next S432)) 0 1 d448) fun y450 n451 =>
 St.app S449 1 24 y447 y450 n451 fun y452 S453 =>
 PV.cs p0 fun b454 n455 =>
 let n456 : Nat := (n455 + 7);
 St.wr S453 b454 n456 [(SV.sl y452)] fun S457 =>
 K ((AV.tup [])) S457))
 (J 19 [(AV.one (V1.s (SV.ptr p0))), (AV.one (V1.s (SV.int IntKind.i64 x1))), (AV.one (V1.s (SV.sl y428)))] S429 K)) fun b467 n468 n469 y470 =>
 sumOn y470 (fun n471 =>
 req (Bool.and Bool.true (Bool.and (ile (0 : Int) (oInt (Option.some x380) (Int.ofNat n469))) (ile (oInt (Option.some x380) (Int.ofNat n469)) (Int.ofNat n471)))) <|
 let n472 : Nat := (n468 + 0);
 let n473 : Nat := ((Int.toNat (oInt (Option.some x380) (Int.ofNat n469))) - 0);
 let d474 : (Sum Nat Nat) := (Sum.inl ((Int.toNat (oInt Option.none (Int.ofNat n471))) - 0));
 PV.cs p0 fun b475 n476 =>
 let n477 : Nat := (n476 + 4);
 St.wr S b475 n477 [(SV.sl (LV.mk b467 n472 n473 d474))] fun S478 =>
 LV.cs y352 fun b479 n480 n481 y482 =>
 req (Bool.and (ile (0 : Int) x339) (ilt x339 (Int.ofNat n481))) <|
 let n483 : Nat := (n480 + ((Int.toNat x339) * 1));
 St.wr S478 b479 n483 [(SV.bool Bool.false)] fun S484 =>
 PV.cs p0 fun b485 n486 =>
 let n487 : Nat := (n486 + 6);
 St.at S484 b485 n487 fun y488 =>
 uncK y488 fun v489 y490 =>
 SV.cL v489 fun y497 =>
 PV.cs p0 fun b498 n499 =>
 let n500 : Nat := (n499 + 7);
 St.at S484 b498 n500 fun y501 =>
 uncK y501 fun v502 y503 =>
 SV.cL v502 fun y510 =>
 let x511 : Int := (Int.ofNat (LV.len y510));
 LV.cs y497 fun b512 n513 n514 y515 =>
 req (Bool.and (ile (0 : Int) x339) (ilt x339 (Int.ofNat n514))) <|
 let n516 : Nat := (n513 + ((Int.toNat x339) * 1));
 St.wr S484 b512 n516 [(SV.int IntKind.i64 x511)] fun S517 =>
 let d518 : (Sum Nat Nat) := (Sum.inl 1);
 let S519 : St := (St.add S517 (AO.cells [(SV.int IntKind.i64 x339)] Bool.false));
 St.src S519 1 (LV.mk (Bk.new (St.next S517)) 0 1 d518) fun y520 n521 =>
 St.app S519 1 8 l6 y520 n521 fun y522 S523 =>
 let c524 : Bool := (ieq x339 x1);
 ifK c524
 (D 36 [(AV.one (V1.s (SV.sl y522)))] S523 fun v525 S526 =>
 avT v525 fun y528 =>
 endL y528 (PV.cs p0 fun b529 n530 =>
 let n531 : Nat := (n530 + 7);
 St.at S526 b529 n531 fun y532 =>
 uncK y532 fun v533 y534 =>
 SV.cL v533 fun y541 =>
 let d542 : (Sum Nat Nat) := (Sum.inl 1);
 let S543 : St := (St.add S526 (AO.cells [(SV.sl y522)] Bool.false));
 St.src S543 1 (LV.mk (Bk.new (St.next S526)) 0 1 d542) fun y544 n545 =>
 St.app S543 1 24 y541 y544 n545 fun y546 S547 =>
 PV.cs p0 fun b548 n549 =>
 let n550 : Nat := (n549 + 7);
 St.wr S547 b548 n550 [(SV.sl y546)] fun S551 =>
 K ((AV.tup [])) S551))
 (J 19 [(AV.one (V1.s (SV.ptr p0))), (AV.one (V1.s (SV.int IntKind.i64 x1))), (AV.one (V1.s (SV.sl y522)))] S523 K)) fun y561 =>
 req (Nat.beq 1 y561) <|
 req (Bool.and Bool.true (Bool.and (ile (0 : Int) (oInt (Option.some x380) (Int.ofNat n469))) (ile (oInt (Option.some x380) (Int.ofNat n469)) (Int.ofNat n469)))) <|
 let n562 : Nat := (n468 + 0);
 let n563 : Nat := ((Int.toNat (oInt (Option.some x380) (Int.ofNat n469))) - 0);
 let d564 : (Sum Nat Nat) := (Sum.inr 1);
 PV.cs p0 fun b565 n566 =>
 let n567 : Nat := (n566 + 4);
 St.wr S b565 n567 [(SV.sl (LV.mk b467 n562 n563 d564))] fun S568 =>
 LV.cs y352 fun b569 n570 n571 y572 =>
 req (Bool.and (ile (0 : Int) x339) (ilt x339 (Int.ofNat n571))) <|
 let n573 : Nat := (n570 + ((Int.toNat x339) * 1));
 St.wr S568 b569 n573 [(SV.bool Bool.false)] fun S574 =>
 PV.cs p0 fun b575 n576 =>
 let n577 : Nat := (n576 + 6);
 St.at S574 b575 n577 fun y578 =>
 uncK y578 fun v579 y580 =>
 SV.cL v579 fun y587 =>
 PV.cs p0 fun b588 n589 =>
 let n590 : Nat := (n589 + 7);
 St.at S574 b588 n590 fun y591 =>
 uncK y591 fun v592 y593 =>
 SV.cL v592 fun y600 =>
 let x601 : Int := (Int.ofNat (LV.len y600));
 LV.cs y587 fun b602 n603 n604 y605 =>
 req (Bool.and (ile (0 : Int) x339) (ilt x339 (Int.ofNat n604))) <|
 let n606 : Nat := (n603 + ((Int.toNat x339) * 1));
 St.wr S574 b602 n606 [(SV.int IntKind.i64 x601)] fun S607 =>
 let d608 : (Sum Nat Nat) := (Sum.inl 1);
 let S609 : St := (St.add S607 (AO.cells [(SV.int IntKind.i64 x339)] Bool.false));
 St.src S609 1 (LV.mk (Bk.new (St.next S607)) 0 1 d608) fun y610 n611 =>
 St.app S609 1 8 l6 y610 n611 fun y612 S613 =>
 let c614 : Bool := (ieq x339 x1);
 ifK c614
 (D 36 [(AV.one (V1.s (SV.sl y612)))] S613 fun v615 S616 =>
 avT v615 fun y618 =>
 endL y618 (PV.cs p0 fun b619 n620 =>
 let n621 : Nat := (n620 + 7);
 St.at S616 b619 n621 fun y622 =>
 uncK y622 fun v623 y624 =>
 SV.cL v623 fun y631 =>
 let d632 : (Sum Nat Nat) := (Sum.inl 1);
 let S633 : St := (St.add S616 (AO.cells [(SV.sl y612)] Bool.false));
 St.src S633 1 (LV.mk (Bk.new (St.next S616)) 0 1 d632) fun y634 n635 =>
 St.app S633 1 24 y631 y634 n635 fun y636 S637 =>
 PV.cs p0 fun b638 n639 =>
 let n640 : Nat := (n639 + 7);
 St.wr S637 b638 n640 [(SV.sl y636)] fun S641 =>
 K ((AV.tup [])) S641))
 (J 19 [(AV.one (V1.s (SV.ptr p0))), (AV.one (V1.s (SV.int IntKind.i64 x1))), (AV.one (V1.s (SV.sl y612)))] S613 K)
noncomputable def X26_19 : X := (.op (.op (.op (.op (.op (.br (.op (.op .ret)) (.jmp 19 [0, 1, 6])))))))
theorem F26_19_eq (D J : Disp) (p0 : PV) (x1 : Int) (l6 : LV) (S : St) (K : AV → St → Prop) : F26_19 D J p0 x1 l6 S K = execK GraphP GraphG Go.Proofs.Try.f26 (typed GraphP D) J plans26 X26_19 (T26 19).1 (envOf (T26 19).2 [(AV.one (V1.s (SV.ptr p0))), (AV.one (V1.s (SV.int IntKind.i64 x1))), (AV.one (V1.s (SV.sl l6)))]) S K := by kernel_rfl
noncomputable abbrev A26_0 (D J : Disp) (vals : List AV) (S : St) (K : AV → St → Prop) : Prop :=
  uncA vals fun a9001 r9002 => scK a9001 fun s9004 => SV.cP s9004 fun p0 => uncA r9002 fun a9007 r9008 => scK a9007 fun s9010 => SV.cI IntKind.i64 s9010 fun x1 => endL r9008 <| F26_0 D J p0 x1 S K
theorem A26_0_ok {D J : Disp} (hD : DOK GraphP GraphG D) (hJ : JOK GraphP GraphG Go.Proofs.Try.f26 T26 J) {vals : List AV} {S : St} {K : AV → St → Prop} (h0 : A26_0 D J vals S K) : Runs GraphP GraphG Go.Proofs.Try.f26 (T26 0).1 (envOf (T26 0).2 vals) S K := by
  obtain ⟨a9001, r9002, rfl, h3⟩ := uncA_some h0
  obtain ⟨s9004, rfl, h5⟩ := scK_some h3
  obtain ⟨p0, rfl, h6⟩ := cP_some h5
  obtain ⟨a9007, r9008, rfl, h9⟩ := uncA_some h6
  obtain ⟨s9010, rfl, h11⟩ := scK_some h9
  obtain ⟨x1, rfl, h12⟩ := cI_some h11
  obtain ⟨rfl, h13⟩ := endL_some h12
  rw [F26_0_eq] at h13
  exact execK_runs hD.typed Graph_zero Graph_mixed hJ X26_0 (T26 0).1 (envOf (T26 0).2 _) S K (chk_of (by kernel_rfl) (by kernel_rfl)) h13
noncomputable abbrev A26_4 (D J : Disp) (vals : List AV) (S : St) (K : AV → St → Prop) : Prop :=
  uncA vals fun a9001 r9002 => scK a9001 fun s9004 => SV.cP s9004 fun p0 => uncA r9002 fun a9007 r9008 => scK a9007 fun s9010 => SV.cI IntKind.i64 s9010 fun x1 => uncA r9008 fun a9013 r9014 => scK a9013 fun s9016 => SV.cL s9016 fun l57 => uncA r9014 fun a9019 r9020 => scK a9019 fun s9022 => SV.cI IntKind.i64 s9022 fun x58 => uncA r9020 fun a9025 r9026 => scK a9025 fun s9028 => SV.cI IntKind.i64 s9028 fun x59 => endL r9026 <| F26_4 D J p0 x1 l57 x58 x59 S K
theorem A26_4_ok {D J : Disp} (hD : DOK GraphP GraphG D) (hJ : JOK GraphP GraphG Go.Proofs.Try.f26 T26 J) {vals : List AV} {S : St} {K : AV → St → Prop} (h0 : A26_4 D J vals S K) : Runs GraphP GraphG Go.Proofs.Try.f26 (T26 4).1 (envOf (T26 4).2 vals) S K := by
  obtain ⟨a9001, r9002, rfl, h3⟩ := uncA_some h0
  obtain ⟨s9004, rfl, h5⟩ := scK_some h3
  obtain ⟨p0, rfl, h6⟩ := cP_some h5
  obtain ⟨a9007, r9008, rfl, h9⟩ := uncA_some h6
  obtain ⟨s9010, rfl, h11⟩ := scK_some h9
  obtain ⟨x1, rfl, h12⟩ := cI_some h11
  obtain ⟨a9013, r9014, rfl, h15⟩ := uncA_some h12
  obtain ⟨s9016, rfl, h17⟩ := scK_some h15
  obtain ⟨l57, rfl, h18⟩ := cL_some h17
  obtain ⟨a9019, r9020, rfl, h21⟩ := uncA_some h18
  obtain ⟨s9022, rfl, h23⟩ := scK_some h21
  obtain ⟨x58, rfl, h24⟩ := cI_some h23
  obtain ⟨a9025, r9026, rfl, h27⟩ := uncA_some h24
  obtain ⟨s9028, rfl, h29⟩ := scK_some h27
  obtain ⟨x59, rfl, h30⟩ := cI_some h29
  obtain ⟨rfl, h31⟩ := endL_some h30
  rw [F26_4_eq] at h31
  exact execK_runs hD.typed Graph_zero Graph_mixed hJ X26_4 (T26 4).1 (envOf (T26 4).2 _) S K (chk_of (by kernel_rfl) (by kernel_rfl)) h31
noncomputable abbrev A26_11 (D J : Disp) (vals : List AV) (S : St) (K : AV → St → Prop) : Prop :=
  uncA vals fun a9001 r9002 => scK a9001 fun s9004 => SV.cP s9004 fun p0 => uncA r9002 fun a9007 r9008 => scK a9007 fun s9010 => SV.cI IntKind.i64 s9010 fun x1 => uncA r9008 fun a9013 r9014 => scK a9013 fun s9016 => SV.cL s9016 fun l57 => uncA r9014 fun a9019 r9020 => scK a9019 fun s9022 => SV.cI IntKind.i64 s9022 fun x58 => uncA r9020 fun a9025 r9026 => scK a9025 fun s9028 => SV.cI IntKind.i64 s9028 fun x59 => endL r9026 <| F26_11 D J p0 x1 l57 x58 x59 S K
theorem A26_11_ok {D J : Disp} (hD : DOK GraphP GraphG D) (hJ : JOK GraphP GraphG Go.Proofs.Try.f26 T26 J) {vals : List AV} {S : St} {K : AV → St → Prop} (h0 : A26_11 D J vals S K) : Runs GraphP GraphG Go.Proofs.Try.f26 (T26 11).1 (envOf (T26 11).2 vals) S K := by
  obtain ⟨a9001, r9002, rfl, h3⟩ := uncA_some h0
  obtain ⟨s9004, rfl, h5⟩ := scK_some h3
  obtain ⟨p0, rfl, h6⟩ := cP_some h5
  obtain ⟨a9007, r9008, rfl, h9⟩ := uncA_some h6
  obtain ⟨s9010, rfl, h11⟩ := scK_some h9
  obtain ⟨x1, rfl, h12⟩ := cI_some h11
  obtain ⟨a9013, r9014, rfl, h15⟩ := uncA_some h12
  obtain ⟨s9016, rfl, h17⟩ := scK_some h15
  obtain ⟨l57, rfl, h18⟩ := cL_some h17
  obtain ⟨a9019, r9020, rfl, h21⟩ := uncA_some h18
  obtain ⟨s9022, rfl, h23⟩ := scK_some h21
  obtain ⟨x58, rfl, h24⟩ := cI_some h23
  obtain ⟨a9025, r9026, rfl, h27⟩ := uncA_some h24
  obtain ⟨s9028, rfl, h29⟩ := scK_some h27
  obtain ⟨x59, rfl, h30⟩ := cI_some h29
  obtain ⟨rfl, h31⟩ := endL_some h30
  rw [F26_11_eq] at h31
  exact execK_runs hD.typed Graph_zero Graph_mixed hJ X26_11 (T26 11).1 (envOf (T26 11).2 _) S K (chk_of (by kernel_rfl) (by kernel_rfl)) h31
noncomputable abbrev A26_19 (D J : Disp) (vals : List AV) (S : St) (K : AV → St → Prop) : Prop :=
  uncA vals fun a9001 r9002 => scK a9001 fun s9004 => SV.cP s9004 fun p0 => uncA r9002 fun a9007 r9008 => scK a9007 fun s9010 => SV.cI IntKind.i64 s9010 fun x1 => uncA r9008 fun a9013 r9014 => scK a9013 fun s9016 => SV.cL s9016 fun l6 => endL r9014 <| F26_19 D J p0 x1 l6 S K
theorem A26_19_ok {D J : Disp} (hD : DOK GraphP GraphG D) (hJ : JOK GraphP GraphG Go.Proofs.Try.f26 T26 J) {vals : List AV} {S : St} {K : AV → St → Prop} (h0 : A26_19 D J vals S K) : Runs GraphP GraphG Go.Proofs.Try.f26 (T26 19).1 (envOf (T26 19).2 vals) S K := by
  obtain ⟨a9001, r9002, rfl, h3⟩ := uncA_some h0
  obtain ⟨s9004, rfl, h5⟩ := scK_some h3
  obtain ⟨p0, rfl, h6⟩ := cP_some h5
  obtain ⟨a9007, r9008, rfl, h9⟩ := uncA_some h6
  obtain ⟨s9010, rfl, h11⟩ := scK_some h9
  obtain ⟨x1, rfl, h12⟩ := cI_some h11
  obtain ⟨a9013, r9014, rfl, h15⟩ := uncA_some h12
  obtain ⟨s9016, rfl, h17⟩ := scK_some h15
  obtain ⟨l6, rfl, h18⟩ := cL_some h17
  obtain ⟨rfl, h19⟩ := endL_some h18
  rw [F26_19_eq] at h19
  exact execK_runs hD.typed Graph_zero Graph_mixed hJ X26_19 (T26 19).1 (envOf (T26 19).2 _) S K (chk_of (by kernel_rfl) (by kernel_rfl)) h19
noncomputable def J26 (D : Disp) (k : Nat) : Disp := Nat.rec (motive := fun _ => Disp) Disp.no (fun _ ih => Disp.add 0 (A26_0 D ih) <| Disp.add 4 (A26_4 D ih) <| Disp.add 11 (A26_11 D ih) <| Disp.add 19 (A26_19 D ih) <| Disp.no) k
theorem J26_ok {D : Disp} (hD : DOK GraphP GraphG D) : ∀ k, JOK GraphP GraphG Go.Proofs.Try.f26 T26 (J26 D k)
  | 0 => JOK.no
  | k + 1 => JOK.add (ltB_ok (by kernel_rfl)) (fun vals S K h => A26_0_ok hD (J26_ok hD k) h) <| JOK.add (ltB_ok (by kernel_rfl)) (fun vals S K h => A26_4_ok hD (J26_ok hD k) h) <| JOK.add (ltB_ok (by kernel_rfl)) (fun vals S K h => A26_11_ok hD (J26_ok hD k) h) <| JOK.add (ltB_ok (by kernel_rfl)) (fun vals S K h => A26_19_ok hD (J26_ok hD k) h) <| JOK.no
theorem E26_ok {D : Disp} (hD : DOK GraphP GraphG D) (k : Nat) {args : List AV} {S : St} {K : AV → St → Prop} (h : A26_0 D (J26 D k) args S K) : CallOK GraphP GraphG 26 args S K := by
  have hr := A26_0_ok hD (J26_ok hD k) h
  have hl : args.length = 2 := by
    have h0 := h
    obtain ⟨a9001, r9002, rfl, h3⟩ := uncA_some h0
    obtain ⟨s9004, rfl, h5⟩ := scK_some h3
    obtain ⟨p0, rfl, h6⟩ := cP_some h5
    obtain ⟨a9007, r9008, rfl, h9⟩ := uncA_some h6
    obtain ⟨s9010, rfl, h11⟩ := scK_some h9
    obtain ⟨x1, rfl, h12⟩ := cI_some h11
    obtain ⟨rfl, h13⟩ := endL_some h12
    rfl
  refine callOK_of (fn := Go.Proofs.Try.f26) (c := (match Go.Proofs.Try.f26.body with | some c => c | none => .skip)) (by kernel_rfl) (by kernel_rfl) (by kernel_rfl) (by rw [hl]; kernel_rfl) (by kernel_rfl) ?_
  rw [hl]
  exact hr
noncomputable def plans27 (i : Nat) : Plan := []
noncomputable def T27 (p : Nat) : List Item × List Nat := bif Nat.beq p 0 then ([.code (match Go.Proofs.Try.f27.body with | some c => c | none => .skip)], [0, 1]) else
  bif Nat.beq p 2 then (navs [.op, .op] [.code (match Go.Proofs.Try.f27.body with | some c => c | none => .skip)], [0, 1, 7, 8]) else
  ([], [])
noncomputable def F27_0 (D J : Disp) (l0 : LV) (x1 : Int) (S : St) (K : AV → St → Prop) : Prop :=
 let x300 : Int := (Int.ofNat (LV.len l0));
 J 2 [(AV.one (V1.s (SV.sl l0))), (AV.one (V1.s (SV.int IntKind.i64 x1))), (AV.one (V1.s (SV.int IntKind.i64 x300))), (AV.one (V1.s (SV.int IntKind.i64 (0 : Int))))] S K
noncomputable def X27_0 : X := (.op (.op (.jmp 2 [0, 1, 7, 8])))
theorem F27_0_eq (D J : Disp) (l0 : LV) (x1 : Int) (S : St) (K : AV → St → Prop) : F27_0 D J l0 x1 S K = execK GraphP GraphG Go.Proofs.Try.f27 (typed GraphP D) J plans27 X27_0 (T27 0).1 (envOf (T27 0).2 [(AV.one (V1.s (SV.sl l0))), (AV.one (V1.s (SV.int IntKind.i64 x1)))]) S K := by kernel_rfl
noncomputable def F27_2 (D J : Disp) (l0 : LV) (x1 : Int) (x7 : Int) (x8 : Int) (S : St) (K : AV → St → Prop) : Prop :=
 let c300 : Bool := (ilt x8 x7);
 ifK c300
 (LV.cs l0 fun b301 n302 n303 y304 =>
 req (Bool.and (ile (0 : Int) x8) (ilt x8 (Int.ofNat n303))) <|
 let n305 : Nat := (n302 + ((Int.toNat x8) * 1));
 St.at S b301 n305 fun y306 =>
 uncK y306 fun v307 y308 =>
 SV.cI IntKind.i64 v307 fun x312 =>
 let c313 : Bool := (ieq x1 x312);
 ifK c313
 (K ((AV.one (V1.s (SV.int IntKind.i64 x8)))) S)
 (let x314 : Int := (iwrap IntKind.i64 (x8 + (1 : Int)));
 J 2 [(AV.one (V1.s (SV.sl l0))), (AV.one (V1.s (SV.int IntKind.i64 x1))), (AV.one (V1.s (SV.int IntKind.i64 x7))), (AV.one (V1.s (SV.int IntKind.i64 x314)))] S K))
 (K ((AV.one (V1.s (SV.int IntKind.i64 (Int.negSucc 0))))) S)
noncomputable def X27_2 : X := (.op (.br (.op (.op (.br (.op .ret) (.op (.jmp 2 [0, 1, 7, 8]))))) (.op .ret)))
theorem F27_2_eq (D J : Disp) (l0 : LV) (x1 : Int) (x7 : Int) (x8 : Int) (S : St) (K : AV → St → Prop) : F27_2 D J l0 x1 x7 x8 S K = execK GraphP GraphG Go.Proofs.Try.f27 (typed GraphP D) J plans27 X27_2 (T27 2).1 (envOf (T27 2).2 [(AV.one (V1.s (SV.sl l0))), (AV.one (V1.s (SV.int IntKind.i64 x1))), (AV.one (V1.s (SV.int IntKind.i64 x7))), (AV.one (V1.s (SV.int IntKind.i64 x8)))]) S K := by kernel_rfl
noncomputable abbrev A27_0 (D J : Disp) (vals : List AV) (S : St) (K : AV → St → Prop) : Prop :=
  uncA vals fun a9001 r9002 => scK a9001 fun s9004 => SV.cL s9004 fun l0 => uncA r9002 fun a9007 r9008 => scK a9007 fun s9010 => SV.cI IntKind.i64 s9010 fun x1 => endL r9008 <| F27_0 D J l0 x1 S K
theorem A27_0_ok {D J : Disp} (hD : DOK GraphP GraphG D) (hJ : JOK GraphP GraphG Go.Proofs.Try.f27 T27 J) {vals : List AV} {S : St} {K : AV → St → Prop} (h0 : A27_0 D J vals S K) : Runs GraphP GraphG Go.Proofs.Try.f27 (T27 0).1 (envOf (T27 0).2 vals) S K := by
  obtain ⟨a9001, r9002, rfl, h3⟩ := uncA_some h0
  obtain ⟨s9004, rfl, h5⟩ := scK_some h3
  obtain ⟨l0, rfl, h6⟩ := cL_some h5
  obtain ⟨a9007, r9008, rfl, h9⟩ := uncA_some h6
  obtain ⟨s9010, rfl, h11⟩ := scK_some h9
  obtain ⟨x1, rfl, h12⟩ := cI_some h11
  obtain ⟨rfl, h13⟩ := endL_some h12
  rw [F27_0_eq] at h13
  exact execK_runs hD.typed Graph_zero Graph_mixed hJ X27_0 (T27 0).1 (envOf (T27 0).2 _) S K (chk_of (by kernel_rfl) (by kernel_rfl)) h13
noncomputable abbrev A27_2 (D J : Disp) (vals : List AV) (S : St) (K : AV → St → Prop) : Prop :=
  uncA vals fun a9001 r9002 => scK a9001 fun s9004 => SV.cL s9004 fun l0 => uncA r9002 fun a9007 r9008 => scK a9007 fun s9010 => SV.cI IntKind.i64 s9010 fun x1 => uncA r9008 fun a9013 r9014 => scK a9013 fun s9016 => SV.cI IntKind.i64 s9016 fun x7 => uncA r9014 fun a9019 r9020 => scK a9019 fun s9022 => SV.cI IntKind.i64 s9022 fun x8 => endL r9020 <| F27_2 D J l0 x1 x7 x8 S K
theorem A27_2_ok {D J : Disp} (hD : DOK GraphP GraphG D) (hJ : JOK GraphP GraphG Go.Proofs.Try.f27 T27 J) {vals : List AV} {S : St} {K : AV → St → Prop} (h0 : A27_2 D J vals S K) : Runs GraphP GraphG Go.Proofs.Try.f27 (T27 2).1 (envOf (T27 2).2 vals) S K := by
  obtain ⟨a9001, r9002, rfl, h3⟩ := uncA_some h0
  obtain ⟨s9004, rfl, h5⟩ := scK_some h3
  obtain ⟨l0, rfl, h6⟩ := cL_some h5
  obtain ⟨a9007, r9008, rfl, h9⟩ := uncA_some h6
  obtain ⟨s9010, rfl, h11⟩ := scK_some h9
  obtain ⟨x1, rfl, h12⟩ := cI_some h11
  obtain ⟨a9013, r9014, rfl, h15⟩ := uncA_some h12
  obtain ⟨s9016, rfl, h17⟩ := scK_some h15
  obtain ⟨x7, rfl, h18⟩ := cI_some h17
  obtain ⟨a9019, r9020, rfl, h21⟩ := uncA_some h18
  obtain ⟨s9022, rfl, h23⟩ := scK_some h21
  obtain ⟨x8, rfl, h24⟩ := cI_some h23
  obtain ⟨rfl, h25⟩ := endL_some h24
  rw [F27_2_eq] at h25
  exact execK_runs hD.typed Graph_zero Graph_mixed hJ X27_2 (T27 2).1 (envOf (T27 2).2 _) S K (chk_of (by kernel_rfl) (by kernel_rfl)) h25
noncomputable def J27 (D : Disp) (k : Nat) : Disp := Nat.rec (motive := fun _ => Disp) Disp.no (fun _ ih => Disp.add 0 (A27_0 D ih) <| Disp.add 2 (A27_2 D ih) <| Disp.no) k
theorem J27_ok {D : Disp} (hD : DOK GraphP GraphG D) : ∀ k, JOK GraphP GraphG Go.Proofs.Try.f27 T27 (J27 D k)
  | 0 => JOK.no
  | k + 1 => JOK.add (ltB_ok (by kernel_rfl)) (fun vals S K h => A27_0_ok hD (J27_ok hD k) h) <| JOK.add (ltB_ok (by kernel_rfl)) (fun vals S K h => A27_2_ok hD (J27_ok hD k) h) <| JOK.no
theorem E27_ok {D : Disp} (hD : DOK GraphP GraphG D) (k : Nat) {args : List AV} {S : St} {K : AV → St → Prop} (h : A27_0 D (J27 D k) args S K) : CallOK GraphP GraphG 27 args S K := by
  have hr := A27_0_ok hD (J27_ok hD k) h
  have hl : args.length = 2 := by
    have h0 := h
    obtain ⟨a9001, r9002, rfl, h3⟩ := uncA_some h0
    obtain ⟨s9004, rfl, h5⟩ := scK_some h3
    obtain ⟨l0, rfl, h6⟩ := cL_some h5
    obtain ⟨a9007, r9008, rfl, h9⟩ := uncA_some h6
    obtain ⟨s9010, rfl, h11⟩ := scK_some h9
    obtain ⟨x1, rfl, h12⟩ := cI_some h11
    obtain ⟨rfl, h13⟩ := endL_some h12
    rfl
  refine callOK_of (fn := Go.Proofs.Try.f27) (c := (match Go.Proofs.Try.f27.body with | some c => c | none => .skip)) (by kernel_rfl) (by kernel_rfl) (by kernel_rfl) (by rw [hl]; kernel_rfl) (by kernel_rfl) ?_
  rw [hl]
  exact hr
noncomputable def plans30 (i : Nat) : Plan := []
noncomputable def T30 (p : Nat) : List Item × List Nat := bif Nat.beq p 0 then ([.code (match Go.Proofs.Try.f30.body with | some c => c | none => .skip)], [0]) else
  ([], [])
noncomputable def F30_0 (D J : Disp) (l0 : LV) (S : St) (K : AV → St → Prop) : Prop :=
 optK (eqA GraphP 1 28 (V1.s (SV.sl l0)) (V1.s (SV.sl LV.nil))) fun y300 =>
 ifK y300
 (K ((AV.one (V1.s (SV.sl LV.nil)))) S)
 (let d301 : (Sum Nat Nat) := (Sum.inl 0);
 let S302 : St := (St.add S (AO.cells [] Bool.false));
 St.src S302 1 l0 fun y303 n304 =>
 St.app S302 1 8 (LV.mk (Bk.new (St.next S)) 0 0 d301) y303 n304 fun y305 S306 =>
 K ((AV.one (V1.s (SV.sl y305)))) S306)
noncomputable def X30_0 : X := (.op (.op (.br (.op .ret) (.op .ret))))
theorem F30_0_eq (D J : Disp) (l0 : LV) (S : St) (K : AV → St → Prop) : F30_0 D J l0 S K = execK GraphP GraphG Go.Proofs.Try.f30 (typed GraphP D) J plans30 X30_0 (T30 0).1 (envOf (T30 0).2 [(AV.one (V1.s (SV.sl l0)))]) S K := by kernel_rfl
noncomputable abbrev A30_0 (D J : Disp) (vals : List AV) (S : St) (K : AV → St → Prop) : Prop :=
  uncA vals fun a9001 r9002 => scK a9001 fun s9004 => SV.cL s9004 fun l0 => endL r9002 <| F30_0 D J l0 S K
theorem A30_0_ok {D J : Disp} (hD : DOK GraphP GraphG D) (hJ : JOK GraphP GraphG Go.Proofs.Try.f30 T30 J) {vals : List AV} {S : St} {K : AV → St → Prop} (h0 : A30_0 D J vals S K) : Runs GraphP GraphG Go.Proofs.Try.f30 (T30 0).1 (envOf (T30 0).2 vals) S K := by
  obtain ⟨a9001, r9002, rfl, h3⟩ := uncA_some h0
  obtain ⟨s9004, rfl, h5⟩ := scK_some h3
  obtain ⟨l0, rfl, h6⟩ := cL_some h5
  obtain ⟨rfl, h7⟩ := endL_some h6
  rw [F30_0_eq] at h7
  exact execK_runs hD.typed Graph_zero Graph_mixed hJ X30_0 (T30 0).1 (envOf (T30 0).2 _) S K (chk_of (by kernel_rfl) (by kernel_rfl)) h7
noncomputable def J30 (D : Disp) (k : Nat) : Disp := Nat.rec (motive := fun _ => Disp) Disp.no (fun _ ih => Disp.add 0 (A30_0 D ih) <| Disp.no) k
theorem J30_ok {D : Disp} (hD : DOK GraphP GraphG D) : ∀ k, JOK GraphP GraphG Go.Proofs.Try.f30 T30 (J30 D k)
  | 0 => JOK.no
  | k + 1 => JOK.add (ltB_ok (by kernel_rfl)) (fun vals S K h => A30_0_ok hD (J30_ok hD k) h) <| JOK.no
theorem E30_ok {D : Disp} (hD : DOK GraphP GraphG D) (k : Nat) {args : List AV} {S : St} {K : AV → St → Prop} (h : A30_0 D (J30 D k) args S K) : CallOK GraphP GraphG 30 args S K := by
  have hr := A30_0_ok hD (J30_ok hD k) h
  have hl : args.length = 1 := by
    have h0 := h
    obtain ⟨a9001, r9002, rfl, h3⟩ := uncA_some h0
    obtain ⟨s9004, rfl, h5⟩ := scK_some h3
    obtain ⟨l0, rfl, h6⟩ := cL_some h5
    obtain ⟨rfl, h7⟩ := endL_some h6
    rfl
  refine callOK_of (fn := Go.Proofs.Try.f30) (c := (match Go.Proofs.Try.f30.body with | some c => c | none => .skip)) (by kernel_rfl) (by kernel_rfl) (by kernel_rfl) (by rw [hl]; kernel_rfl) (by kernel_rfl) ?_
  rw [hl]
  exact hr
noncomputable def plans31 (i : Nat) : Plan := []
noncomputable def T31 (p : Nat) : List Item × List Nat := bif Nat.beq p 0 then ([.code (match Go.Proofs.Try.f31.body with | some c => c | none => .skip)], [0, 1]) else
  ([], [])
noncomputable def F31_0 (D J : Disp) (x0 : Int) (x1 : Int) (S : St) (K : AV → St → Prop) : Prop :=
 let c300 : Bool := (ile (0 : Int) x0);
 ifK c300
 (let c301 : Bool := (ilt x0 x1);
 K ((AV.one (V1.s (SV.bool c301)))) S)
 (K ((AV.one (V1.s (SV.bool Bool.false)))) S)
noncomputable def X31_0 : X := (.op (.op .ret))
theorem F31_0_eq (D J : Disp) (x0 : Int) (x1 : Int) (S : St) (K : AV → St → Prop) : F31_0 D J x0 x1 S K = execK GraphP GraphG Go.Proofs.Try.f31 (typed GraphP D) J plans31 X31_0 (T31 0).1 (envOf (T31 0).2 [(AV.one (V1.s (SV.int IntKind.i64 x0))), (AV.one (V1.s (SV.int IntKind.i64 x1)))]) S K := by kernel_rfl
noncomputable abbrev A31_0 (D J : Disp) (vals : List AV) (S : St) (K : AV → St → Prop) : Prop :=
  uncA vals fun a9001 r9002 => scK a9001 fun s9004 => SV.cI IntKind.i64 s9004 fun x0 => uncA r9002 fun a9007 r9008 => scK a9007 fun s9010 => SV.cI IntKind.i64 s9010 fun x1 => endL r9008 <| F31_0 D J x0 x1 S K
theorem A31_0_ok {D J : Disp} (hD : DOK GraphP GraphG D) (hJ : JOK GraphP GraphG Go.Proofs.Try.f31 T31 J) {vals : List AV} {S : St} {K : AV → St → Prop} (h0 : A31_0 D J vals S K) : Runs GraphP GraphG Go.Proofs.Try.f31 (T31 0).1 (envOf (T31 0).2 vals) S K := by
  obtain ⟨a9001, r9002, rfl, h3⟩ := uncA_some h0
  obtain ⟨s9004, rfl, h5⟩ := scK_some h3
  obtain ⟨x0, rfl, h6⟩ := cI_some h5
  obtain ⟨a9007, r9008, rfl, h9⟩ := uncA_some h6
  obtain ⟨s9010, rfl, h11⟩ := scK_some h9
  obtain ⟨x1, rfl, h12⟩ := cI_some h11
  obtain ⟨rfl, h13⟩ := endL_some h12
  rw [F31_0_eq] at h13
  exact execK_runs hD.typed Graph_zero Graph_mixed hJ X31_0 (T31 0).1 (envOf (T31 0).2 _) S K (chk_of (by kernel_rfl) (by kernel_rfl)) h13
noncomputable def J31 (D : Disp) (k : Nat) : Disp := Nat.rec (motive := fun _ => Disp) Disp.no (fun _ ih => Disp.add 0 (A31_0 D ih) <| Disp.no) k
theorem J31_ok {D : Disp} (hD : DOK GraphP GraphG D) : ∀ k, JOK GraphP GraphG Go.Proofs.Try.f31 T31 (J31 D k)
  | 0 => JOK.no
  | k + 1 => JOK.add (ltB_ok (by kernel_rfl)) (fun vals S K h => A31_0_ok hD (J31_ok hD k) h) <| JOK.no
theorem E31_ok {D : Disp} (hD : DOK GraphP GraphG D) (k : Nat) {args : List AV} {S : St} {K : AV → St → Prop} (h : A31_0 D (J31 D k) args S K) : CallOK GraphP GraphG 31 args S K := by
  have hr := A31_0_ok hD (J31_ok hD k) h
  have hl : args.length = 2 := by
    have h0 := h
    obtain ⟨a9001, r9002, rfl, h3⟩ := uncA_some h0
    obtain ⟨s9004, rfl, h5⟩ := scK_some h3
    obtain ⟨x0, rfl, h6⟩ := cI_some h5
    obtain ⟨a9007, r9008, rfl, h9⟩ := uncA_some h6
    obtain ⟨s9010, rfl, h11⟩ := scK_some h9
    obtain ⟨x1, rfl, h12⟩ := cI_some h11
    obtain ⟨rfl, h13⟩ := endL_some h12
    rfl
  refine callOK_of (fn := Go.Proofs.Try.f31) (c := (match Go.Proofs.Try.f31.body with | some c => c | none => .skip)) (by kernel_rfl) (by kernel_rfl) (by kernel_rfl) (by rw [hl]; kernel_rfl) (by kernel_rfl) ?_
  rw [hl]
  exact hr
noncomputable def plans32 (i : Nat) : Plan := []
noncomputable def T32 (p : Nat) : List Item × List Nat := bif Nat.beq p 0 then ([.code (match Go.Proofs.Try.f32.body with | some c => c | none => .skip)], [0, 1, 2]) else
  bif Nat.beq p 2 then (navs [.op, .op] [.code (match Go.Proofs.Try.f32.body with | some c => c | none => .skip)], [4, 5, 28]) else
  bif Nat.beq p 6 then (navs [.op, .op, .el, .op] [.code (match Go.Proofs.Try.f32.body with | some c => c | none => .skip)], [4, 5, 7]) else
  ([], [])
noncomputable def F32_0 (D J : Disp) (l0_0 : LV) (l0_1 : LV) (x0_2 : Int) (s1_0 : (List Nat)) (x1_1 : Int) (l1_2 : LV) (x2_0 : Int) (x2_1 : Int) (x2_2 : Int) (x2_3 : Int) (S : St) (K : AV → St → Prop) : Prop :=
 let S300 : St := (St.add S (AO.cells [(SV.sl l0_0), (SV.sl l0_1), (SV.int IntKind.i64 x0_2)] Bool.false));
 let S301 : St := (St.add S300 (AO.cells [(SV.str s1_0), (SV.int IntKind.i64 x1_1), (SV.sl l1_2)] Bool.false));
 let S302 : St := (St.add S301 (AO.cells [(SV.int IntKind.i64 x2_0), (SV.int IntKind.i64 x2_1), (SV.int IntKind.i64 x2_2), (SV.int IntKind.i64 x2_3)] Bool.false));
 St.at S302 (Bk.new (St.next S301)) 2 fun y303 =>
 uncK y303 fun v304 y305 =>
 SV.cI IntKind.i64 v304 fun x309 =>
 let c310 : Bool := (ilt (0 : Int) x309);
 ifK c310
 (St.at S302 (Bk.new (St.next S301)) 2 fun y311 =>
 uncK y311 fun v312 y313 =>
 SV.cI IntKind.i64 v312 fun x317 =>
 St.at S302 (Bk.new (St.next S)) 1 fun y318 =>
 uncK y318 fun v319 y320 =>
 SV.cL v319 fun y327 =>
 let x328 : Int := (Int.ofNat (LV.len y327));
 let c329 : Bool := (ilt x328 x317);
 ifK c329
 (J 2 [(AV.one (V1.s (SV.ptr (PV.mk (Bk.new (St.next S300)) 0)))), (AV.one (V1.s (SV.ptr (PV.mk (Bk.new (St.next S301)) 0)))), (AV.one (V1.s (SV.bool Bool.true)))] S302 K)
 (St.at S302 (Bk.new (St.next S301)) 1 fun y330 =>
 uncK y330 fun v331 y332 =>
 SV.cI IntKind.i64 v331 fun x336 =>
 let c337 : Bool := (Bool.not (ieq x336 (8 : Int)));
 ifK c337
 (J 2 [(AV.one (V1.s (SV.ptr (PV.mk (Bk.new (St.next S300)) 0)))), (AV.one (V1.s (SV.ptr (PV.mk (Bk.new (St.next S301)) 0)))), (AV.one (V1.s (SV.bool Bool.true)))] S302 K)
 (St.at S302 (Bk.new (St.next S301)) 2 fun y338 =>
 uncK y338 fun v339 y340 =>
 SV.cI IntKind.i64 v339 fun x344 =>
 let c345 : Bool := (ilt x344 (0 : Int));
 J 2 [(AV.one (V1.s (SV.ptr (PV.mk (Bk.new (St.next S300)) 0)))), (AV.one (V1.s (SV.ptr (PV.mk (Bk.new (St.next S301)) 0)))), (AV.one (V1.s (SV.bool c345)))] S302 K)))
 (St.at S302 (Bk.new (St.next S301)) 2 fun y363 =>
 uncK y363 fun v364 y365 =>
 SV.cI IntKind.i64 v364 fun x369 =>
 let c370 : Bool := (ilt x369 (0 : Int));
 J 2 [(AV.one (V1.s (SV.ptr (PV.mk (Bk.new (St.next S300)) 0)))), (AV.one (V1.s (SV.ptr (PV.mk (Bk.new (St.next S301)) 0)))), (AV.one (V1.s (SV.bool c370)))] S302 K)
noncomputable def X32_0 : X := (.op (.op (.jmp 2 [4, 5, 28])))
theorem F32_0_eq (D J : Disp) (l0_0 : LV) (l0_1 : LV) (x0_2 : Int) (s1_0 : (List Nat)) (x1_1 : Int) (l1_2 : LV) (x2_0 : Int) (x2_1 : Int) (x2_2 : Int) (x2_3 : Int) (S : St) (K : AV → St → Prop) : F32_0 D J l0_0 l0_1 x0_2 s1_0 x1_1 l1_2 x2_0 x2_1 x2_2 x2_3 S K = execK GraphP GraphG Go.Proofs.Try.f32 (typed GraphP D) J plans32 X32_0 (T32 0).1 (envOf (T32 0).2 [(AV.one (V1.agg [(SV.sl l0_0), (SV.sl l0_1), (SV.int IntKind.i64 x0_2)])), (AV.one (V1.agg [(SV.str s1_0), (SV.int IntKind.i64 x1_1), (SV.sl l1_2)])), (AV.one (V1.agg [(SV.int IntKind.i64 x2_0), (SV.int IntKind.i64 x2_1), (SV.int IntKind.i64 x2_2), (SV.int IntKind.i64 x2_3)]))]) S K := by kernel_rfl
noncomputable def F32_2 (D J : Disp) (p4 : PV) (p5 : PV) (c28 : Bool) (S : St) (K : AV → St → Prop) : Prop :=
 ifK c28
 (K ((AV.one (V1.s (SV.bool Bool.false)))) S)
 (PV.cs p5 fun b300 n301 =>
 let n302 : Nat := (n301 + 1);
 St.at S b300 n302 fun y303 =>
 uncK y303 fun v304 y305 =>
 SV.cI IntKind.i64 v304 fun x309 =>
 let c310 : Bool := (ieq x309 (1 : Int));
 ifK c310
 (J 6 [(AV.one (V1.s (SV.ptr p4))), (AV.one (V1.s (SV.ptr p5))), (AV.one (V1.s (SV.bool Bool.true)))] S K)
 (PV.cs p5 fun b311 n312 =>
 let n313 : Nat := (n312 + 1);
 St.at S b311 n313 fun y314 =>
 uncK y314 fun v315 y316 =>
 SV.cI IntKind.i64 v315 fun x320 =>
 let c321 : Bool := (ieq x320 (2 : Int));
 ifK c321
 (J 6 [(AV.one (V1.s (SV.ptr p4))), (AV.one (V1.s (SV.ptr p5))), (AV.one (V1.s (SV.bool Bool.true)))] S K)
 (PV.cs p5 fun b322 n323 =>
 let n324 : Nat := (n323 + 1);
 St.at S b322 n324 fun y325 =>
 uncK y325 fun v326 y327 =>
 SV.cI IntKind.i64 v326 fun x331 =>
 let c332 : Bool := (ieq x331 (4 : Int));
 ifK c332
 (J 6 [(AV.one (V1.s (SV.ptr p4))), (AV.one (V1.s (SV.ptr p5))), (AV.one (V1.s (SV.bool Bool.true)))] S K)
 (PV.cs p5 fun b333 n334 =>
 let n335 : Nat := (n334 + 1);
 St.at S b333 n335 fun y336 =>
 uncK y336 fun v337 y338 =>
 SV.cI IntKind.i64 v337 fun x342 =>
 let c343 : Bool := (ieq x342 (8 : Int));
 J 6 [(AV.one (V1.s (SV.ptr p4))), (AV.one (V1.s (SV.ptr p5))), (AV.one (V1.s (SV.bool c343)))] S K))))
noncomputable def X32_2 : X := (.br (.op .ret) (.op (.jmp 6 [4, 5, 7])))
theorem F32_2_eq (D J : Disp) (p4 : PV) (p5 : PV) (c28 : Bool) (S : St) (K : AV → St → Prop) : F32_2 D J p4 p5 c28 S K = execK GraphP GraphG Go.Proofs.Try.f32 (typed GraphP D) J plans32 X32_2 (T32 2).1 (envOf (T32 2).2 [(AV.one (V1.s (SV.ptr p4))), (AV.one (V1.s (SV.ptr p5))), (AV.one (V1.s (SV.bool c28)))]) S K := by kernel_rfl
noncomputable def F32_6 (D J : Disp) (p4 : PV) (p5 : PV) (c7 : Bool) (S : St) (K : AV → St → Prop) : Prop :=
 ifK c7
 (PV.cs p5 fun b300 n301 =>
 let n302 : Nat := (n301 + 0);
 St.at S b300 n302 fun y303 =>
 uncK y303 fun v304 y305 =>
 SV.cI IntKind.i64 v304 fun x309 =>
 let c310 : Bool := (ile (0 : Int) x309);
 ifK c310
 (PV.cs p5 fun b311 n312 =>
 let n313 : Nat := (n312 + 0);
 St.at S b311 n313 fun y314 =>
 uncK y314 fun v315 y316 =>
 SV.cI IntKind.i64 v315 fun x320 =>
 PV.cs p4 fun b321 n322 =>
 let n323 : Nat := (n322 + 1);
 St.at S b321 n323 fun y324 =>
 uncK y324 fun v325 y326 =>
 SV.cI IntKind.i64 v325 fun x330 =>
 PV.cs p5 fun b331 n332 =>
 let n333 : Nat := (n332 + 1);
 St.at S b331 n333 fun y334 =>
 uncK y334 fun v335 y336 =>
 SV.cI IntKind.i64 v335 fun x340 =>
 let x341 : Int := (iwrap IntKind.i64 (x330 - x340));
 let c342 : Bool := (ile x320 x341);
 K ((AV.one (V1.s (SV.bool c342)))) S)
 (K ((AV.one (V1.s (SV.bool Bool.false)))) S))
 (K ((AV.one (V1.s (SV.bool Bool.false)))) S)
noncomputable def X32_6 : X := (.op .ret)
theorem F32_6_eq (D J : Disp) (p4 : PV) (p5 : PV) (c7 : Bool) (S : St) (K : AV → St → Prop) : F32_6 D J p4 p5 c7 S K = execK GraphP GraphG Go.Proofs.Try.f32 (typed GraphP D) J plans32 X32_6 (T32 6).1 (envOf (T32 6).2 [(AV.one (V1.s (SV.ptr p4))), (AV.one (V1.s (SV.ptr p5))), (AV.one (V1.s (SV.bool c7)))]) S K := by kernel_rfl
noncomputable abbrev A32_0 (D J : Disp) (vals : List AV) (S : St) (K : AV → St → Prop) : Prop :=
  uncA vals fun a9001 r9002 => avA a9001 fun l9004 => uncK l9004 fun s9006 r9007 => SV.cL s9006 fun l0_0 => uncK r9007 fun s9010 r9011 => SV.cL s9010 fun l0_1 => uncK r9011 fun s9014 r9015 => SV.cI IntKind.i64 s9014 fun x0_2 => endL r9015 <| uncA r9002 fun a9019 r9020 => avA a9019 fun l9022 => uncK l9022 fun s9024 r9025 => SV.cS s9024 fun s1_0 => uncK r9025 fun s9028 r9029 => SV.cI IntKind.i64 s9028 fun x1_1 => uncK r9029 fun s9032 r9033 => SV.cL s9032 fun l1_2 => endL r9033 <| uncA r9020 fun a9037 r9038 => avA a9037 fun l9040 => uncK l9040 fun s9042 r9043 => SV.cI IntKind.i64 s9042 fun x2_0 => uncK r9043 fun s9046 r9047 => SV.cI IntKind.i64 s9046 fun x2_1 => uncK r9047 fun s9050 r9051 => SV.cI IntKind.i64 s9050 fun x2_2 => uncK r9051 fun s9054 r9055 => SV.cI IntKind.i64 s9054 fun x2_3 => endL r9055 <| endL r9038 <| F32_0 D J l0_0 l0_1 x0_2 s1_0 x1_1 l1_2 x2_0 x2_1 x2_2 x2_3 S K
theorem A32_0_ok {D J : Disp} (hD : DOK GraphP GraphG D) (hJ : JOK GraphP GraphG Go.Proofs.Try.f32 T32 J) {vals : List AV} {S : St} {K : AV → St → Prop} (h0 : A32_0 D J vals S K) : Runs GraphP GraphG Go.Proofs.Try.f32 (T32 0).1 (envOf (T32 0).2 vals) S K := by
  obtain ⟨a9001, r9002, rfl, h3⟩ := uncA_some h0
  obtain ⟨l9004, rfl, h5⟩ := avA_some h3
  obtain ⟨s9006, r9007, rfl, h8⟩ := uncK_some h5
  obtain ⟨l0_0, rfl, h9⟩ := cL_some h8
  obtain ⟨s9010, r9011, rfl, h12⟩ := uncK_some h9
  obtain ⟨l0_1, rfl, h13⟩ := cL_some h12
  obtain ⟨s9014, r9015, rfl, h16⟩ := uncK_some h13
  obtain ⟨x0_2, rfl, h17⟩ := cI_some h16
  obtain ⟨rfl, h18⟩ := endL_some h17
  obtain ⟨a9019, r9020, rfl, h21⟩ := uncA_some h18
  obtain ⟨l9022, rfl, h23⟩ := avA_some h21
  obtain ⟨s9024, r9025, rfl, h26⟩ := uncK_some h23
  obtain ⟨s1_0, rfl, h27⟩ := cS_some h26
  obtain ⟨s9028, r9029, rfl, h30⟩ := uncK_some h27
  obtain ⟨x1_1, rfl, h31⟩ := cI_some h30
  obtain ⟨s9032, r9033, rfl, h34⟩ := uncK_some h31
  obtain ⟨l1_2, rfl, h35⟩ := cL_some h34
  obtain ⟨rfl, h36⟩ := endL_some h35
  obtain ⟨a9037, r9038, rfl, h39⟩ := uncA_some h36
  obtain ⟨l9040, rfl, h41⟩ := avA_some h39
  obtain ⟨s9042, r9043, rfl, h44⟩ := uncK_some h41
  obtain ⟨x2_0, rfl, h45⟩ := cI_some h44
  obtain ⟨s9046, r9047, rfl, h48⟩ := uncK_some h45
  obtain ⟨x2_1, rfl, h49⟩ := cI_some h48
  obtain ⟨s9050, r9051, rfl, h52⟩ := uncK_some h49
  obtain ⟨x2_2, rfl, h53⟩ := cI_some h52
  obtain ⟨s9054, r9055, rfl, h56⟩ := uncK_some h53
  obtain ⟨x2_3, rfl, h57⟩ := cI_some h56
  obtain ⟨rfl, h58⟩ := endL_some h57
  obtain ⟨rfl, h59⟩ := endL_some h58
  rw [F32_0_eq] at h59
  exact execK_runs hD.typed Graph_zero Graph_mixed hJ X32_0 (T32 0).1 (envOf (T32 0).2 _) S K (chk_of (by kernel_rfl) (by kernel_rfl)) h59
noncomputable abbrev A32_2 (D J : Disp) (vals : List AV) (S : St) (K : AV → St → Prop) : Prop :=
  uncA vals fun a9001 r9002 => scK a9001 fun s9004 => SV.cP s9004 fun p4 => uncA r9002 fun a9007 r9008 => scK a9007 fun s9010 => SV.cP s9010 fun p5 => uncA r9008 fun a9013 r9014 => scK a9013 fun s9016 => SV.cB s9016 fun c28 => endL r9014 <| F32_2 D J p4 p5 c28 S K
theorem A32_2_ok {D J : Disp} (hD : DOK GraphP GraphG D) (hJ : JOK GraphP GraphG Go.Proofs.Try.f32 T32 J) {vals : List AV} {S : St} {K : AV → St → Prop} (h0 : A32_2 D J vals S K) : Runs GraphP GraphG Go.Proofs.Try.f32 (T32 2).1 (envOf (T32 2).2 vals) S K := by
  obtain ⟨a9001, r9002, rfl, h3⟩ := uncA_some h0
  obtain ⟨s9004, rfl, h5⟩ := scK_some h3
  obtain ⟨p4, rfl, h6⟩ := cP_some h5
  obtain ⟨a9007, r9008, rfl, h9⟩ := uncA_some h6
  obtain ⟨s9010, rfl, h11⟩ := scK_some h9
  obtain ⟨p5, rfl, h12⟩ := cP_some h11
  obtain ⟨a9013, r9014, rfl, h15⟩ := uncA_some h12
  obtain ⟨s9016, rfl, h17⟩ := scK_some h15
  obtain ⟨c28, rfl, h18⟩ := cB_some h17
  obtain ⟨rfl, h19⟩ := endL_some h18
  rw [F32_2_eq] at h19
  exact execK_runs hD.typed Graph_zero Graph_mixed hJ X32_2 (T32 2).1 (envOf (T32 2).2 _) S K (chk_of (by kernel_rfl) (by kernel_rfl)) h19
noncomputable abbrev A32_6 (D J : Disp) (vals : List AV) (S : St) (K : AV → St → Prop) : Prop :=
  uncA vals fun a9001 r9002 => scK a9001 fun s9004 => SV.cP s9004 fun p4 => uncA r9002 fun a9007 r9008 => scK a9007 fun s9010 => SV.cP s9010 fun p5 => uncA r9008 fun a9013 r9014 => scK a9013 fun s9016 => SV.cB s9016 fun c7 => endL r9014 <| F32_6 D J p4 p5 c7 S K
theorem A32_6_ok {D J : Disp} (hD : DOK GraphP GraphG D) (hJ : JOK GraphP GraphG Go.Proofs.Try.f32 T32 J) {vals : List AV} {S : St} {K : AV → St → Prop} (h0 : A32_6 D J vals S K) : Runs GraphP GraphG Go.Proofs.Try.f32 (T32 6).1 (envOf (T32 6).2 vals) S K := by
  obtain ⟨a9001, r9002, rfl, h3⟩ := uncA_some h0
  obtain ⟨s9004, rfl, h5⟩ := scK_some h3
  obtain ⟨p4, rfl, h6⟩ := cP_some h5
  obtain ⟨a9007, r9008, rfl, h9⟩ := uncA_some h6
  obtain ⟨s9010, rfl, h11⟩ := scK_some h9
  obtain ⟨p5, rfl, h12⟩ := cP_some h11
  obtain ⟨a9013, r9014, rfl, h15⟩ := uncA_some h12
  obtain ⟨s9016, rfl, h17⟩ := scK_some h15
  obtain ⟨c7, rfl, h18⟩ := cB_some h17
  obtain ⟨rfl, h19⟩ := endL_some h18
  rw [F32_6_eq] at h19
  exact execK_runs hD.typed Graph_zero Graph_mixed hJ X32_6 (T32 6).1 (envOf (T32 6).2 _) S K (chk_of (by kernel_rfl) (by kernel_rfl)) h19
noncomputable def J32 (D : Disp) (k : Nat) : Disp := Nat.rec (motive := fun _ => Disp) Disp.no (fun _ ih => Disp.add 0 (A32_0 D ih) <| Disp.add 2 (A32_2 D ih) <| Disp.add 6 (A32_6 D ih) <| Disp.no) k
theorem J32_ok {D : Disp} (hD : DOK GraphP GraphG D) : ∀ k, JOK GraphP GraphG Go.Proofs.Try.f32 T32 (J32 D k)
  | 0 => JOK.no
  | k + 1 => JOK.add (ltB_ok (by kernel_rfl)) (fun vals S K h => A32_0_ok hD (J32_ok hD k) h) <| JOK.add (ltB_ok (by kernel_rfl)) (fun vals S K h => A32_2_ok hD (J32_ok hD k) h) <| JOK.add (ltB_ok (by kernel_rfl)) (fun vals S K h => A32_6_ok hD (J32_ok hD k) h) <| JOK.no
theorem E32_ok {D : Disp} (hD : DOK GraphP GraphG D) (k : Nat) {args : List AV} {S : St} {K : AV → St → Prop} (h : A32_0 D (J32 D k) args S K) : CallOK GraphP GraphG 32 args S K := by
  have hr := A32_0_ok hD (J32_ok hD k) h
  have hl : args.length = 3 := by
    have h0 := h
    obtain ⟨a9001, r9002, rfl, h3⟩ := uncA_some h0
    obtain ⟨l9004, rfl, h5⟩ := avA_some h3
    obtain ⟨s9006, r9007, rfl, h8⟩ := uncK_some h5
    obtain ⟨l0_0, rfl, h9⟩ := cL_some h8
    obtain ⟨s9010, r9011, rfl, h12⟩ := uncK_some h9
    obtain ⟨l0_1, rfl, h13⟩ := cL_some h12
    obtain ⟨s9014, r9015, rfl, h16⟩ := uncK_some h13
    obtain ⟨x0_2, rfl, h17⟩ := cI_some h16
    obtain ⟨rfl, h18⟩ := endL_some h17
    obtain ⟨a9019, r9020, rfl, h21⟩ := uncA_some h18
    obtain ⟨l9022, rfl, h23⟩ := avA_some h21
    obtain ⟨s9024, r9025, rfl, h26⟩ := uncK_some h23
    obtain ⟨s1_0, rfl, h27⟩ := cS_some h26
    obtain ⟨s9028, r9029, rfl, h30⟩ := uncK_some h27
    obtain ⟨x1_1, rfl, h31⟩ := cI_some h30
    obtain ⟨s9032, r9033, rfl, h34⟩ := uncK_some h31
    obtain ⟨l1_2, rfl, h35⟩ := cL_some h34
    obtain ⟨rfl, h36⟩ := endL_some h35
    obtain ⟨a9037, r9038, rfl, h39⟩ := uncA_some h36
    obtain ⟨l9040, rfl, h41⟩ := avA_some h39
    obtain ⟨s9042, r9043, rfl, h44⟩ := uncK_some h41
    obtain ⟨x2_0, rfl, h45⟩ := cI_some h44
    obtain ⟨s9046, r9047, rfl, h48⟩ := uncK_some h45
    obtain ⟨x2_1, rfl, h49⟩ := cI_some h48
    obtain ⟨s9050, r9051, rfl, h52⟩ := uncK_some h49
    obtain ⟨x2_2, rfl, h53⟩ := cI_some h52
    obtain ⟨s9054, r9055, rfl, h56⟩ := uncK_some h53
    obtain ⟨x2_3, rfl, h57⟩ := cI_some h56
    obtain ⟨rfl, h58⟩ := endL_some h57
    obtain ⟨rfl, h59⟩ := endL_some h58
    rfl
  refine callOK_of (fn := Go.Proofs.Try.f32) (c := (match Go.Proofs.Try.f32.body with | some c => c | none => .skip)) (by kernel_rfl) (by kernel_rfl) (by kernel_rfl) (by rw [hl]; kernel_rfl) (by kernel_rfl) ?_
  rw [hl]
  exact hr
noncomputable def plans33 (i : Nat) : Plan := []
noncomputable def T33 (p : Nat) : List Item × List Nat := bif Nat.beq p 0 then ([.code (match Go.Proofs.Try.f33.body with | some c => c | none => .skip)], [0, 1]) else
  bif Nat.beq p 2 then (navs [.op, .op] [.code (match Go.Proofs.Try.f33.body with | some c => c | none => .skip)], [2, 3, 12, 13, 14]) else
  bif Nat.beq p 6 then (navs [.op, .op, .op, .th, .op, .op] [.code (match Go.Proofs.Try.f33.body with | some c => c | none => .skip)], [2, 3, 12, 13, 14, 23]) else
  bif Nat.beq p 15 then (navs [.op, .op, .op, .el, .op, .el, .op] [.code (match Go.Proofs.Try.f33.body with | some c => c | none => .skip)], [2, 3, 29, 30, 31]) else
  bif Nat.beq p 19 then (navs [.op, .op, .op, .el, .op, .el, .op, .op, .th, .op, .op] [.code (match Go.Proofs.Try.f33.body with | some c => c | none => .skip)], [2, 3, 29, 30, 31, 36, 37, 38]) else
  ([], [])
noncomputable def F33_0 (D J : Disp) (l0_0 : LV) (l0_1 : LV) (x0_2 : Int) (s1_0 : (List Nat)) (x1_1 : Int) (x1_2 : Int) (l1_3 : LV) (l1_4 : LV) (c1_5 : Bool) (S : St) (K : AV → St → Prop) : Prop :=
 let S300 : St := (St.add S (AO.cells [(SV.sl l0_0), (SV.sl l0_1), (SV.int IntKind.i64 x0_2)] Bool.false));
 let S301 : St := (St.add S300 (AO.cells [(SV.str s1_0), (SV.int IntKind.i64 x1_1), (SV.int IntKind.i64 x1_2), (SV.sl l1_3), (SV.sl l1_4), (SV.bool c1_5)] Bool.false));
 St.at S301 (Bk.new (St.next S300)) 3 fun y302 =>
 uncK y302 fun v303 y304 =>
 SV.cL v303 fun y311 =>
 let x312 : Int := (Int.ofNat (LV.len y311));
 J 2 [(AV.one (V1.s (SV.ptr (PV.mk (Bk.new (St.next S)) 0)))), (AV.one (V1.s (SV.ptr (PV.mk (Bk.new (St.next S300)) 0)))), (AV.one (V1.s (SV.sl y311))), (AV.one (V1.s (SV.int IntKind.i64 x312))), (AV.one (V1.s (SV.int IntKind.i64 (0 : Int))))] S301 K
noncomputable def X33_0 : X := (.op (.op (.jmp 2 [2, 3, 12, 13, 14])))
theorem F33_0_eq (D J : Disp) (l0_0 : LV) (l0_1 : LV) (x0_2 : Int) (s1_0 : (List Nat)) (x1_1 : Int) (x1_2 : Int) (l1_3 : LV) (l1_4 : LV) (c1_5 : Bool) (S : St) (K : AV → St → Prop) : F33_0 D J l0_0 l0_1 x0_2 s1_0 x1_1 x1_2 l1_3 l1_4 c1_5 S K = execK GraphP GraphG Go.Proofs.Try.f33 (typed GraphP D) J plans33 X33_0 (T33 0).1 (envOf (T33 0).2 [(AV.one (V1.agg [(SV.sl l0_0), (SV.sl l0_1), (SV.int IntKind.i64 x0_2)])), (AV.one (V1.agg [(SV.str s1_0), (SV.int IntKind.i64 x1_1), (SV.int IntKind.i64 x1_2), (SV.sl l1_3), (SV.sl l1_4), (SV.bool c1_5)]))]) S K := by kernel_rfl
noncomputable def F33_2 (D J : Disp) (p2 : PV) (p3 : PV) (l12 : LV) (x13 : Int) (x14 : Int) (S : St) (K : AV → St → Prop) : Prop :=
 let c300 : Bool := (ilt x14 x13);
 ifK c300
 (LV.cs l12 fun b301 n302 n303 y304 =>
 req (Bool.and (ile (0 : Int) x14) (ilt x14 (Int.ofNat n303))) <|
 let n305 : Nat := (n302 + ((Int.toNat x14) * 1));
 St.at S b301 n305 fun y306 =>
 uncK y306 fun v307 y308 =>
 SV.cI IntKind.i64 v307 fun x312 =>
 let c313 : Bool := (ilt x312 (1 : Int));
 ifK c313
 (J 6 [(AV.one (V1.s (SV.ptr p2))), (AV.one (V1.s (SV.ptr p3))), (AV.one (V1.s (SV.sl l12))), (AV.one (V1.s (SV.int IntKind.i64 x13))), (AV.one (V1.s (SV.int IntKind.i64 x14))), (AV.one (V1.s (SV.bool Bool.true)))] S K)
 (let c314 : Bool := (ilt (65536 : Int) x312);
 J 6 [(AV.one (V1.s (SV.ptr p2))), (AV.one (V1.s (SV.ptr p3))), (AV.one (V1.s (SV.sl l12))), (AV.one (V1.s (SV.int IntKind.i64 x13))), (AV.one (V1.s (SV.int IntKind.i64 x14))), (AV.one (V1.s (SV.bool c314)))] S K))
 (PV.cs p3 fun b320 n321 =>
 St.at S b320 n321 fun y322 =>
 uncK y322 fun v323 y324 =>
 SV.cS v323 fun y329 =>
 uncK y324 fun v330 y331 =>
 SV.cI IntKind.i64 v330 fun x335 =>
 uncK y331 fun v336 y337 =>
 SV.cI IntKind.i64 v336 fun x341 =>
 uncK y337 fun v342 y343 =>
 SV.cL v342 fun y350 =>
 uncK y343 fun v351 y352 =>
 SV.cL v351 fun y359 =>
 uncK y352 fun v360 y361 =>
 SV.cB v360 fun y363 =>
 D 39 [(AV.one (V1.agg [(SV.str y329), (SV.int IntKind.i64 x335), (SV.int IntKind.i64 x341), (SV.sl y350), (SV.sl y359), (SV.bool y363)]))] S fun v364 S365 =>
 scK v364 fun v367 =>
 SV.cB v367 fun y368 =>
 let c369 : Bool := (Bool.not y368);
 ifK c369
 (K ((AV.one (V1.s (SV.bool Bool.false)))) S365)
 (PV.cs p3 fun b370 n371 =>
 let n372 : Nat := (n371 + 4);
 St.at S365 b370 n372 fun y373 =>
 uncK y373 fun v374 y375 =>
 SV.cL v374 fun y382 =>
 let x383 : Int := (Int.ofNat (LV.len y382));
 J 15 [(AV.one (V1.s (SV.ptr p2))), (AV.one (V1.s (SV.ptr p3))), (AV.one (V1.s (SV.sl y382))), (AV.one (V1.s (SV.int IntKind.i64 x383))), (AV.one (V1.s (SV.int IntKind.i64 (0 : Int))))] S365 K))
noncomputable def X33_2 : X := (.op (.br (.op (.op (.jmp 6 [2, 3, 12, 13, 14, 23]))) (.op (.br (.op .ret) (.op (.jmp 15 [2, 3, 29, 30, 31]))))))
theorem F33_2_eq (D J : Disp) (p2 : PV) (p3 : PV) (l12 : LV) (x13 : Int) (x14 : Int) (S : St) (K : AV → St → Prop) : F33_2 D J p2 p3 l12 x13 x14 S K = execK GraphP GraphG Go.Proofs.Try.f33 (typed GraphP D) J plans33 X33_2 (T33 2).1 (envOf (T33 2).2 [(AV.one (V1.s (SV.ptr p2))), (AV.one (V1.s (SV.ptr p3))), (AV.one (V1.s (SV.sl l12))), (AV.one (V1.s (SV.int IntKind.i64 x13))), (AV.one (V1.s (SV.int IntKind.i64 x14)))]) S K := by kernel_rfl
noncomputable def F33_6 (D J : Disp) (p2 : PV) (p3 : PV) (l12 : LV) (x13 : Int) (x14 : Int) (c23 : Bool) (S : St) (K : AV → St → Prop) : Prop :=
 ifK c23
 (K ((AV.one (V1.s (SV.bool Bool.false)))) S)
 (let x300 : Int := (iwrap IntKind.i64 (x14 + (1 : Int)));
 J 2 [(AV.one (V1.s (SV.ptr p2))), (AV.one (V1.s (SV.ptr p3))), (AV.one (V1.s (SV.sl l12))), (AV.one (V1.s (SV.int IntKind.i64 x13))), (AV.one (V1.s (SV.int IntKind.i64 x300)))] S K)
noncomputable def X33_6 : X := (.br (.op .ret) (.op (.jmp 2 [2, 3, 12, 13, 14])))
theorem F33_6_eq (D J : Disp) (p2 : PV) (p3 : PV) (l12 : LV) (x13 : Int) (x14 : Int) (c23 : Bool) (S : St) (K : AV → St → Prop) : F33_6 D J p2 p3 l12 x13 x14 c23 S K = execK GraphP GraphG Go.Proofs.Try.f33 (typed GraphP D) J plans33 X33_6 (T33 6).1 (envOf (T33 6).2 [(AV.one (V1.s (SV.ptr p2))), (AV.one (V1.s (SV.ptr p3))), (AV.one (V1.s (SV.sl l12))), (AV.one (V1.s (SV.int IntKind.i64 x13))), (AV.one (V1.s (SV.int IntKind.i64 x14))), (AV.one (V1.s (SV.bool c23)))]) S K := by kernel_rfl
noncomputable def F33_15 (D J : Disp) (p2 : PV) (p3 : PV) (l29 : LV) (x30 : Int) (x31 : Int) (S : St) (K : AV → St → Prop) : Prop :=
 let c300 : Bool := (ilt x31 x30);
 ifK c300
 (LV.cs l29 fun b301 n302 n303 y304 =>
 req (Bool.and (ile (0 : Int) x31) (ilt x31 (Int.ofNat n303))) <|
 let n305 : Nat := (n302 + ((Int.toNat x31) * 1));
 St.at S b301 n305 fun y306 =>
 uncK y306 fun v307 y308 =>
 SV.cL v307 fun y315 =>
 let S316 : St := (St.add S (AO.cells [(SV.sl LV.nil)] Bool.false));
 St.wr S316 (Bk.new (St.next S)) 0 [(SV.sl y315)] fun S317 =>
 St.at S317 (Bk.new (St.next S)) 0 fun y318 =>
 uncK y318 fun v319 y320 =>
 SV.cL v319 fun y327 =>
 let x328 : Int := (Int.ofNat (LV.len y327));
 J 19 [(AV.one (V1.s (SV.ptr p2))), (AV.one (V1.s (SV.ptr p3))), (AV.one (V1.s (SV.sl l29))), (AV.one (V1.s (SV.int IntKind.i64 x30))), (AV.one (V1.s (SV.int IntKind.i64 x31))), (AV.one (V1.s (SV.sl y327))), (AV.one (V1.s (SV.int IntKind.i64 x328))), (AV.one (V1.s (SV.int IntKind.i64 (0 : Int))))] S317 K)
 (K ((AV.one (V1.s (SV.bool Bool.true)))) S)
noncomputable def X33_15 : X := (.op (.br (.op (.op (.jmp 19 [2, 3, 29, 30, 31, 36, 37, 38]))) (.op .ret)))
theorem F33_15_eq (D J : Disp) (p2 : PV) (p3 : PV) (l29 : LV) (x30 : Int) (x31 : Int) (S : St) (K : AV → St → Prop) : F33_15 D J p2 p3 l29 x30 x31 S K = execK GraphP GraphG Go.Proofs.Try.f33 (typed GraphP D) J plans33 X33_15 (T33 15).1 (envOf (T33 15).2 [(AV.one (V1.s (SV.ptr p2))), (AV.one (V1.s (SV.ptr p3))), (AV.one (V1.s (SV.sl l29))), (AV.one (V1.s (SV.int IntKind.i64 x30))), (AV.one (V1.s (SV.int IntKind.i64 x31)))]) S K := by kernel_rfl
noncomputable def F33_19 (D J : Disp) (p2 : PV) (p3 : PV) (l29 : LV) (x30 : Int) (x31 : Int) (l36 : LV) (x37 : Int) (x38 : Int) (S : St) (K : AV → St → Prop) : Prop :=
 let c300 : Bool := (ilt x38 x37);
 ifK c300
 (LV.cs l36 fun b301 n302 n303 y304 =>
 req (Bool.and (ile (0 : Int) x38) (ilt x38 (Int.ofNat n303))) <|
 let n305 : Nat := (n302 + ((Int.toNat x38) * 11));
 St.at S b301 n305 fun y306 =>
 uncK y306 fun v307 y308 =>
 SV.cI IntKind.i64 v307 fun x312 =>
 uncK y308 fun v313 y314 =>
 SV.cI IntKind.i64 v313 fun x318 =>
 uncK y314 fun v319 y320 =>
 SV.cI IntKind.i64 v319 fun x324 =>
 uncK y320 fun v325 y326 =>
 SV.cI IntKind.i64 v325 fun x330 =>
 uncK y326 fun v331 y332 =>
 SV.cI IntKind.i64 v331 fun x336 =>
 uncK y332 fun v337 y338 =>
 SV.cI IntKind.i64 v337 fun x342 =>
 uncK y338 fun v343 y344 =>
 SV.cI IntKind.i64 v343 fun x348 =>
 uncK y344 fun v349 y350 =>
 SV.cB v349 fun y352 =>
 uncK y350 fun v353 y354 =>
 SV.cL v353 fun y361 =>
 uncK y354 fun v362 y363 =>
 SV.cL v362 fun y370 =>
 uncK y363 fun v371 y372 =>
 SV.cL v371 fun y379 =>
 let S380 : St := (St.add S (AO.cells [(SV.int IntKind.i64 (0 : Int)), (SV.int IntKind.i64 (0 : Int)), (SV.int IntKind.i64 (0 : Int)), (SV.int IntKind.i64 (0 : Int)), (SV.int IntKind.i64 (0 : Int)), (SV.int IntKind.i64 (0 : Int)), (SV.int IntKind.i64 (0 : Int)), (SV.bool Bool.false), (SV.sl LV.nil), (SV.sl LV.nil), (SV.sl LV.nil)] Bool.false));
 St.wr S380 (Bk.new (St.next S)) 0 [(SV.int IntKind.i64 x312), (SV.int IntKind.i64 x318), (SV.int IntKind.i64 x324), (SV.int IntKind.i64 x330), (SV.int IntKind.i64 x336), (SV.int IntKind.i64 x342), (SV.int IntKind.i64 x348), (SV.bool y352), (SV.sl y361), (SV.sl y370), (SV.sl y379)] fun S381 =>
 PV.cs p2 fun b382 n383 =>
 St.at S381 b382 n383 fun y384 =>
 uncK y384 fun v385 y386 =>
 SV.cL v385 fun y393 =>
 uncK y386 fun v394 y395 =>
 SV.cL v394 fun y402 =>
 uncK y395 fun v403 y404 =>
 SV.cI IntKind.i64 v403 fun x408 =>
 PV.cs p3 fun b409 n410 =>
 St.at S381 b409 n410 fun y411 =>
 uncK y411 fun v412 y413 =>
 SV.cS v412 fun y418 =>
 uncK y413 fun v419 y420 =>
 SV.cI IntKind.i64 v419 fun x424 =>
 uncK y420 fun v425 y426 =>
 SV.cI IntKind.i64 v425 fun x430 =>
 uncK y426 fun v431 y432 =>
 SV.cL v431 fun y439 =>
 uncK y432 fun v440 y441 =>
 SV.cL v440 fun y448 =>
 uncK y441 fun v449 y450 =>
 SV.cB v449 fun y452 =>
 St.at S381 (Bk.new (St.next S)) 0 fun y453 =>
 uncK y453 fun v454 y455 =>
 SV.cI IntKind.i64 v454 fun x459 =>
 uncK y455 fun v460 y461 =>
 SV.cI IntKind.i64 v460 fun x465 =>
 uncK y461 fun v466 y467 =>
 SV.cI IntKind.i64 v466 fun x471 =>
 uncK y467 fun v472 y473 =>
 SV.cI IntKind.i64 v472 fun x477 =>
 uncK y473 fun v478 y479 =>
 SV.cI IntKind.i64 v478 fun x483 =>
 uncK y479 fun v484 y485 =>
 SV.cI IntKind.i64 v484 fun x489 =>
 uncK y485 fun v490 y491 =>
 SV.cI IntKind.i64 v490 fun x495 =>
 uncK y491 fun v496 y497 =>
 SV.cB v496 fun y499 =>
 uncK y497 fun v500 y501 =>
 SV.cL v500 fun y508 =>
 uncK y501 fun v509 y510 =>
 SV.cL v509 fun y517 =>
 uncK y510 fun v518 y519 =>
 SV.cL v518 fun y526 =>
 D 40 [(AV.one (V1.agg [(SV.sl y393), (SV.sl y402), (SV.int IntKind.i64 x408)])), (AV.one (V1.agg [(SV.str y418), (SV.int IntKind.i64 x424), (SV.int IntKind.i64 x430), (SV.sl y439), (SV.sl y448), (SV.bool y452)])), (AV.one (V1.agg [(SV.int IntKind.i64 x459), (SV.int IntKind.i64 x465), (SV.int IntKind.i64 x471), (SV.int IntKind.i64 x477), (SV.int IntKind.i64 x483), (SV.int IntKind.i64 x489), (SV.int IntKind.i64 x495), (SV.bool y499), (SV.sl y508), (SV.sl y517), (SV.sl y526)]))] S381 fun v527 S528 =>
 scK v527 fun v530 =>
 SV.cB v530 fun y531 =>
 let c532 : Bool := (Bool.not y531);
 ifK c532
 (K ((AV.one (V1.s (SV.bool Bool.false)))) S528)
 (let x533 : Int := (iwrap IntKind.i64 (x38 + (1 : Int)));
 J 19 [(AV.one (V1.s (SV.ptr p2))), (AV.one (V1.s (SV.ptr p3))), (AV.one (V1.s (SV.sl l29))), (AV.one (V1.s (SV.int IntKind.i64 x30))), (AV.one (V1.s (SV.int IntKind.i64 x31))), (AV.one (V1.s (SV.sl l36))), (AV.one (V1.s (SV.int IntKind.i64 x37))), (AV.one (V1.s (SV.int IntKind.i64 x533)))] S528 K))
 (let x673 : Int := (iwrap IntKind.i64 (x31 + (1 : Int)));
 J 15 [(AV.one (V1.s (SV.ptr p2))), (AV.one (V1.s (SV.ptr p3))), (AV.one (V1.s (SV.sl l29))), (AV.one (V1.s (SV.int IntKind.i64 x30))), (AV.one (V1.s (SV.int IntKind.i64 x673)))] S K)
noncomputable def X33_19 : X := (.op (.br (.op (.op (.br (.op .ret) (.op (.jmp 19 [2, 3, 29, 30, 31, 36, 37, 38]))))) (.op (.jmp 15 [2, 3, 29, 30, 31]))))
theorem F33_19_eq (D J : Disp) (p2 : PV) (p3 : PV) (l29 : LV) (x30 : Int) (x31 : Int) (l36 : LV) (x37 : Int) (x38 : Int) (S : St) (K : AV → St → Prop) : F33_19 D J p2 p3 l29 x30 x31 l36 x37 x38 S K = execK GraphP GraphG Go.Proofs.Try.f33 (typed GraphP D) J plans33 X33_19 (T33 19).1 (envOf (T33 19).2 [(AV.one (V1.s (SV.ptr p2))), (AV.one (V1.s (SV.ptr p3))), (AV.one (V1.s (SV.sl l29))), (AV.one (V1.s (SV.int IntKind.i64 x30))), (AV.one (V1.s (SV.int IntKind.i64 x31))), (AV.one (V1.s (SV.sl l36))), (AV.one (V1.s (SV.int IntKind.i64 x37))), (AV.one (V1.s (SV.int IntKind.i64 x38)))]) S K := by kernel_rfl
noncomputable abbrev A33_0 (D J : Disp) (vals : List AV) (S : St) (K : AV → St → Prop) : Prop :=
  uncA vals fun a9001 r9002 => avA a9001 fun l9004 => uncK l9004 fun s9006 r9007 => SV.cL s9006 fun l0_0 => uncK r9007 fun s9010 r9011 => SV.cL s9010 fun l0_1 => uncK r9011 fun s9014 r9015 => SV.cI IntKind.i64 s9014 fun x0_2 => endL r9015 <| uncA r9002 fun a9019 r9020 => avA a9019 fun l9022 => uncK l9022 fun s9024 r9025 => SV.cS s9024 fun s1_0 => uncK r9025 fun s9028 r9029 => SV.cI IntKind.i64 s9028 fun x1_1 => uncK r9029 fun s9032 r9033 => SV.cI IntKind.i64 s9032 fun x1_2 => uncK r9033 fun s9036 r9037 => SV.cL s9036 fun l1_3 => uncK r9037 fun s9040 r9041 => SV.cL s9040 fun l1_4 => uncK r9041 fun s9044 r9045 => SV.cB s9044 fun c1_5 => endL r9045 <| endL r9020 <| F33_0 D J l0_0 l0_1 x0_2 s1_0 x1_1 x1_2 l1_3 l1_4 c1_5 S K
theorem A33_0_ok {D J : Disp} (hD : DOK GraphP GraphG D) (hJ : JOK GraphP GraphG Go.Proofs.Try.f33 T33 J) {vals : List AV} {S : St} {K : AV → St → Prop} (h0 : A33_0 D J vals S K) : Runs GraphP GraphG Go.Proofs.Try.f33 (T33 0).1 (envOf (T33 0).2 vals) S K := by
  obtain ⟨a9001, r9002, rfl, h3⟩ := uncA_some h0
  obtain ⟨l9004, rfl, h5⟩ := avA_some h3
  obtain ⟨s9006, r9007, rfl, h8⟩ := uncK_some h5
  obtain ⟨l0_0, rfl, h9⟩ := cL_some h8
  obtain ⟨s9010, r9011, rfl, h12⟩ := uncK_some h9
  obtain ⟨l0_1, rfl, h13⟩ := cL_some h12
  obtain ⟨s9014, r9015, rfl, h16⟩ := uncK_some h13
  obtain ⟨x0_2, rfl, h17⟩ := cI_some h16
  obtain ⟨rfl, h18⟩ := endL_some h17
  obtain ⟨a9019, r9020, rfl, h21⟩ := uncA_some h18
  obtain ⟨l9022, rfl, h23⟩ := avA_some h21
  obtain ⟨s9024, r9025, rfl, h26⟩ := uncK_some h23
  obtain ⟨s1_0, rfl, h27⟩ := cS_some h26
  obtain ⟨s9028, r9029, rfl, h30⟩ := uncK_some h27
  obtain ⟨x1_1, rfl, h31⟩ := cI_some h30
  obtain ⟨s9032, r9033, rfl, h34⟩ := uncK_some h31
  obtain ⟨x1_2, rfl, h35⟩ := cI_some h34
  obtain ⟨s9036, r9037, rfl, h38⟩ := uncK_some h35
  obtain ⟨l1_3, rfl, h39⟩ := cL_some h38
  obtain ⟨s9040, r9041, rfl, h42⟩ := uncK_some h39
  obtain ⟨l1_4, rfl, h43⟩ := cL_some h42
  obtain ⟨s9044, r9045, rfl, h46⟩ := uncK_some h43
  obtain ⟨c1_5, rfl, h47⟩ := cB_some h46
  obtain ⟨rfl, h48⟩ := endL_some h47
  obtain ⟨rfl, h49⟩ := endL_some h48
  rw [F33_0_eq] at h49
  exact execK_runs hD.typed Graph_zero Graph_mixed hJ X33_0 (T33 0).1 (envOf (T33 0).2 _) S K (chk_of (by kernel_rfl) (by kernel_rfl)) h49
noncomputable abbrev A33_2 (D J : Disp) (vals : List AV) (S : St) (K : AV → St → Prop) : Prop :=
  uncA vals fun a9001 r9002 => scK a9001 fun s9004 => SV.cP s9004 fun p2 => uncA r9002 fun a9007 r9008 => scK a9007 fun s9010 => SV.cP s9010 fun p3 => uncA r9008 fun a9013 r9014 => scK a9013 fun s9016 => SV.cL s9016 fun l12 => uncA r9014 fun a9019 r9020 => scK a9019 fun s9022 => SV.cI IntKind.i64 s9022 fun x13 => uncA r9020 fun a9025 r9026 => scK a9025 fun s9028 => SV.cI IntKind.i64 s9028 fun x14 => endL r9026 <| F33_2 D J p2 p3 l12 x13 x14 S K
theorem A33_2_ok {D J : Disp} (hD : DOK GraphP GraphG D) (hJ : JOK GraphP GraphG Go.Proofs.Try.f33 T33 J) {vals : List AV} {S : St} {K : AV → St → Prop} (h0 : A33_2 D J vals S K) : Runs GraphP GraphG Go.Proofs.Try.f33 (T33 2).1 (envOf (T33 2).2 vals) S K := by
  obtain ⟨a9001, r9002, rfl, h3⟩ := uncA_some h0
  obtain ⟨s9004, rfl, h5⟩ := scK_some h3
  obtain ⟨p2, rfl, h6⟩ := cP_some h5
  obtain ⟨a9007, r9008, rfl, h9⟩ := uncA_some h6
  obtain ⟨s9010, rfl, h11⟩ := scK_some h9
  obtain ⟨p3, rfl, h12⟩ := cP_some h11
  obtain ⟨a9013, r9014, rfl, h15⟩ := uncA_some h12
  obtain ⟨s9016, rfl, h17⟩ := scK_some h15
  obtain ⟨l12, rfl, h18⟩ := cL_some h17
  obtain ⟨a9019, r9020, rfl, h21⟩ := uncA_some h18
  obtain ⟨s9022, rfl, h23⟩ := scK_some h21
  obtain ⟨x13, rfl, h24⟩ := cI_some h23
  obtain ⟨a9025, r9026, rfl, h27⟩ := uncA_some h24
  obtain ⟨s9028, rfl, h29⟩ := scK_some h27
  obtain ⟨x14, rfl, h30⟩ := cI_some h29
  obtain ⟨rfl, h31⟩ := endL_some h30
  rw [F33_2_eq] at h31
  exact execK_runs hD.typed Graph_zero Graph_mixed hJ X33_2 (T33 2).1 (envOf (T33 2).2 _) S K (chk_of (by kernel_rfl) (by kernel_rfl)) h31
noncomputable abbrev A33_6 (D J : Disp) (vals : List AV) (S : St) (K : AV → St → Prop) : Prop :=
  uncA vals fun a9001 r9002 => scK a9001 fun s9004 => SV.cP s9004 fun p2 => uncA r9002 fun a9007 r9008 => scK a9007 fun s9010 => SV.cP s9010 fun p3 => uncA r9008 fun a9013 r9014 => scK a9013 fun s9016 => SV.cL s9016 fun l12 => uncA r9014 fun a9019 r9020 => scK a9019 fun s9022 => SV.cI IntKind.i64 s9022 fun x13 => uncA r9020 fun a9025 r9026 => scK a9025 fun s9028 => SV.cI IntKind.i64 s9028 fun x14 => uncA r9026 fun a9031 r9032 => scK a9031 fun s9034 => SV.cB s9034 fun c23 => endL r9032 <| F33_6 D J p2 p3 l12 x13 x14 c23 S K
theorem A33_6_ok {D J : Disp} (hD : DOK GraphP GraphG D) (hJ : JOK GraphP GraphG Go.Proofs.Try.f33 T33 J) {vals : List AV} {S : St} {K : AV → St → Prop} (h0 : A33_6 D J vals S K) : Runs GraphP GraphG Go.Proofs.Try.f33 (T33 6).1 (envOf (T33 6).2 vals) S K := by
  obtain ⟨a9001, r9002, rfl, h3⟩ := uncA_some h0
  obtain ⟨s9004, rfl, h5⟩ := scK_some h3
  obtain ⟨p2, rfl, h6⟩ := cP_some h5
  obtain ⟨a9007, r9008, rfl, h9⟩ := uncA_some h6
  obtain ⟨s9010, rfl, h11⟩ := scK_some h9
  obtain ⟨p3, rfl, h12⟩ := cP_some h11
  obtain ⟨a9013, r9014, rfl, h15⟩ := uncA_some h12
  obtain ⟨s9016, rfl, h17⟩ := scK_some h15
  obtain ⟨l12, rfl, h18⟩ := cL_some h17
  obtain ⟨a9019, r9020, rfl, h21⟩ := uncA_some h18
  obtain ⟨s9022, rfl, h23⟩ := scK_some h21
  obtain ⟨x13, rfl, h24⟩ := cI_some h23
  obtain ⟨a9025, r9026, rfl, h27⟩ := uncA_some h24
  obtain ⟨s9028, rfl, h29⟩ := scK_some h27
  obtain ⟨x14, rfl, h30⟩ := cI_some h29
  obtain ⟨a9031, r9032, rfl, h33⟩ := uncA_some h30
  obtain ⟨s9034, rfl, h35⟩ := scK_some h33
  obtain ⟨c23, rfl, h36⟩ := cB_some h35
  obtain ⟨rfl, h37⟩ := endL_some h36
  rw [F33_6_eq] at h37
  exact execK_runs hD.typed Graph_zero Graph_mixed hJ X33_6 (T33 6).1 (envOf (T33 6).2 _) S K (chk_of (by kernel_rfl) (by kernel_rfl)) h37
noncomputable abbrev A33_15 (D J : Disp) (vals : List AV) (S : St) (K : AV → St → Prop) : Prop :=
  uncA vals fun a9001 r9002 => scK a9001 fun s9004 => SV.cP s9004 fun p2 => uncA r9002 fun a9007 r9008 => scK a9007 fun s9010 => SV.cP s9010 fun p3 => uncA r9008 fun a9013 r9014 => scK a9013 fun s9016 => SV.cL s9016 fun l29 => uncA r9014 fun a9019 r9020 => scK a9019 fun s9022 => SV.cI IntKind.i64 s9022 fun x30 => uncA r9020 fun a9025 r9026 => scK a9025 fun s9028 => SV.cI IntKind.i64 s9028 fun x31 => endL r9026 <| F33_15 D J p2 p3 l29 x30 x31 S K
theorem A33_15_ok {D J : Disp} (hD : DOK GraphP GraphG D) (hJ : JOK GraphP GraphG Go.Proofs.Try.f33 T33 J) {vals : List AV} {S : St} {K : AV → St → Prop} (h0 : A33_15 D J vals S K) : Runs GraphP GraphG Go.Proofs.Try.f33 (T33 15).1 (envOf (T33 15).2 vals) S K := by
  obtain ⟨a9001, r9002, rfl, h3⟩ := uncA_some h0
  obtain ⟨s9004, rfl, h5⟩ := scK_some h3
  obtain ⟨p2, rfl, h6⟩ := cP_some h5
  obtain ⟨a9007, r9008, rfl, h9⟩ := uncA_some h6
  obtain ⟨s9010, rfl, h11⟩ := scK_some h9
  obtain ⟨p3, rfl, h12⟩ := cP_some h11
  obtain ⟨a9013, r9014, rfl, h15⟩ := uncA_some h12
  obtain ⟨s9016, rfl, h17⟩ := scK_some h15
  obtain ⟨l29, rfl, h18⟩ := cL_some h17
  obtain ⟨a9019, r9020, rfl, h21⟩ := uncA_some h18
  obtain ⟨s9022, rfl, h23⟩ := scK_some h21
  obtain ⟨x30, rfl, h24⟩ := cI_some h23
  obtain ⟨a9025, r9026, rfl, h27⟩ := uncA_some h24
  obtain ⟨s9028, rfl, h29⟩ := scK_some h27
  obtain ⟨x31, rfl, h30⟩ := cI_some h29
  obtain ⟨rfl, h31⟩ := endL_some h30
  rw [F33_15_eq] at h31
  exact execK_runs hD.typed Graph_zero Graph_mixed hJ X33_15 (T33 15).1 (envOf (T33 15).2 _) S K (chk_of (by kernel_rfl) (by kernel_rfl)) h31
noncomputable abbrev A33_19 (D J : Disp) (vals : List AV) (S : St) (K : AV → St → Prop) : Prop :=
  uncA vals fun a9001 r9002 => scK a9001 fun s9004 => SV.cP s9004 fun p2 => uncA r9002 fun a9007 r9008 => scK a9007 fun s9010 => SV.cP s9010 fun p3 => uncA r9008 fun a9013 r9014 => scK a9013 fun s9016 => SV.cL s9016 fun l29 => uncA r9014 fun a9019 r9020 => scK a9019 fun s9022 => SV.cI IntKind.i64 s9022 fun x30 => uncA r9020 fun a9025 r9026 => scK a9025 fun s9028 => SV.cI IntKind.i64 s9028 fun x31 => uncA r9026 fun a9031 r9032 => scK a9031 fun s9034 => SV.cL s9034 fun l36 => uncA r9032 fun a9037 r9038 => scK a9037 fun s9040 => SV.cI IntKind.i64 s9040 fun x37 => uncA r9038 fun a9043 r9044 => scK a9043 fun s9046 => SV.cI IntKind.i64 s9046 fun x38 => endL r9044 <| F33_19 D J p2 p3 l29 x30 x31 l36 x37 x38 S K
theorem A33_19_ok {D J : Disp} (hD : DOK GraphP GraphG D) (hJ : JOK GraphP GraphG Go.Proofs.Try.f33 T33 J) {vals : List AV} {S : St} {K : AV → St → Prop} (h0 : A33_19 D J vals S K) : Runs GraphP GraphG Go.Proofs.Try.f33 (T33 19).1 (envOf (T33 19).2 vals) S K := by
  obtain ⟨a9001, r9002, rfl, h3⟩ := uncA_some h0
  obtain ⟨s9004, rfl, h5⟩ := scK_some h3
  obtain ⟨p2, rfl, h6⟩ := cP_some h5
  obtain ⟨a9007, r9008, rfl, h9⟩ := uncA_some h6
  obtain ⟨s9010, rfl, h11⟩ := scK_some h9
  obtain ⟨p3, rfl, h12⟩ := cP_some h11
  obtain ⟨a9013, r9014, rfl, h15⟩ := uncA_some h12
  obtain ⟨s9016, rfl, h17⟩ := scK_some h15
  obtain ⟨l29, rfl, h18⟩ := cL_some h17
  obtain ⟨a9019, r9020, rfl, h21⟩ := uncA_some h18
  obtain ⟨s9022, rfl, h23⟩ := scK_some h21
  obtain ⟨x30, rfl, h24⟩ := cI_some h23
  obtain ⟨a9025, r9026, rfl, h27⟩ := uncA_some h24
  obtain ⟨s9028, rfl, h29⟩ := scK_some h27
  obtain ⟨x31, rfl, h30⟩ := cI_some h29
  obtain ⟨a9031, r9032, rfl, h33⟩ := uncA_some h30
  obtain ⟨s9034, rfl, h35⟩ := scK_some h33
  obtain ⟨l36, rfl, h36⟩ := cL_some h35
  obtain ⟨a9037, r9038, rfl, h39⟩ := uncA_some h36
  obtain ⟨s9040, rfl, h41⟩ := scK_some h39
  obtain ⟨x37, rfl, h42⟩ := cI_some h41
  obtain ⟨a9043, r9044, rfl, h45⟩ := uncA_some h42
  obtain ⟨s9046, rfl, h47⟩ := scK_some h45
  obtain ⟨x38, rfl, h48⟩ := cI_some h47
  obtain ⟨rfl, h49⟩ := endL_some h48
  rw [F33_19_eq] at h49
  exact execK_runs hD.typed Graph_zero Graph_mixed hJ X33_19 (T33 19).1 (envOf (T33 19).2 _) S K (chk_of (by kernel_rfl) (by kernel_rfl)) h49
noncomputable def J33 (D : Disp) (k : Nat) : Disp := Nat.rec (motive := fun _ => Disp) Disp.no (fun _ ih => Disp.add 0 (A33_0 D ih) <| Disp.add 2 (A33_2 D ih) <| Disp.add 6 (A33_6 D ih) <| Disp.add 15 (A33_15 D ih) <| Disp.add 19 (A33_19 D ih) <| Disp.no) k
theorem J33_ok {D : Disp} (hD : DOK GraphP GraphG D) : ∀ k, JOK GraphP GraphG Go.Proofs.Try.f33 T33 (J33 D k)
  | 0 => JOK.no
  | k + 1 => JOK.add (ltB_ok (by kernel_rfl)) (fun vals S K h => A33_0_ok hD (J33_ok hD k) h) <| JOK.add (ltB_ok (by kernel_rfl)) (fun vals S K h => A33_2_ok hD (J33_ok hD k) h) <| JOK.add (ltB_ok (by kernel_rfl)) (fun vals S K h => A33_6_ok hD (J33_ok hD k) h) <| JOK.add (ltB_ok (by kernel_rfl)) (fun vals S K h => A33_15_ok hD (J33_ok hD k) h) <| JOK.add (ltB_ok (by kernel_rfl)) (fun vals S K h => A33_19_ok hD (J33_ok hD k) h) <| JOK.no
theorem E33_ok {D : Disp} (hD : DOK GraphP GraphG D) (k : Nat) {args : List AV} {S : St} {K : AV → St → Prop} (h : A33_0 D (J33 D k) args S K) : CallOK GraphP GraphG 33 args S K := by
  have hr := A33_0_ok hD (J33_ok hD k) h
  have hl : args.length = 2 := by
    have h0 := h
    obtain ⟨a9001, r9002, rfl, h3⟩ := uncA_some h0
    obtain ⟨l9004, rfl, h5⟩ := avA_some h3
    obtain ⟨s9006, r9007, rfl, h8⟩ := uncK_some h5
    obtain ⟨l0_0, rfl, h9⟩ := cL_some h8
    obtain ⟨s9010, r9011, rfl, h12⟩ := uncK_some h9
    obtain ⟨l0_1, rfl, h13⟩ := cL_some h12
    obtain ⟨s9014, r9015, rfl, h16⟩ := uncK_some h13
    obtain ⟨x0_2, rfl, h17⟩ := cI_some h16
    obtain ⟨rfl, h18⟩ := endL_some h17
    obtain ⟨a9019, r9020, rfl, h21⟩ := uncA_some h18
    obtain ⟨l9022, rfl, h23⟩ := avA_some h21
    obtain ⟨s9024, r9025, rfl, h26⟩ := uncK_some h23
    obtain ⟨s1_0, rfl, h27⟩ := cS_some h26
    obtain ⟨s9028, r9029, rfl, h30⟩ := uncK_some h27
    obtain ⟨x1_1, rfl, h31⟩ := cI_some h30
    obtain ⟨s9032, r9033, rfl, h34⟩ := uncK_some h31
    obtain ⟨x1_2, rfl, h35⟩ := cI_some h34
    obtain ⟨s9036, r9037, rfl, h38⟩ := uncK_some h35
    obtain ⟨l1_3, rfl, h39⟩ := cL_some h38
    obtain ⟨s9040, r9041, rfl, h42⟩ := uncK_some h39
    obtain ⟨l1_4, rfl, h43⟩ := cL_some h42
    obtain ⟨s9044, r9045, rfl, h46⟩ := uncK_some h43
    obtain ⟨c1_5, rfl, h47⟩ := cB_some h46
    obtain ⟨rfl, h48⟩ := endL_some h47
    obtain ⟨rfl, h49⟩ := endL_some h48
    rfl
  refine callOK_of (fn := Go.Proofs.Try.f33) (c := (match Go.Proofs.Try.f33.body with | some c => c | none => .skip)) (by kernel_rfl) (by kernel_rfl) (by kernel_rfl) (by rw [hl]; kernel_rfl) (by kernel_rfl) ?_
  rw [hl]
  exact hr
noncomputable def plans34 (i : Nat) : Plan := []
noncomputable def T34 (p : Nat) : List Item × List Nat := bif Nat.beq p 0 then ([.code (match Go.Proofs.Try.f34.body with | some c => c | none => .skip)], [0, 1]) else
  ([], [])
noncomputable def F34_0 (D J : Disp) (x0_0 : Int) (x0_1 : Int) (x0_2 : Int) (x0_3 : Int) (x0_4 : Int) (x0_5 : Int) (x0_6 : Int) (c0_7 : Bool) (l0_8 : LV) (l0_9 : LV) (l0_10 : LV) (p1 : PV) (S : St) (K : AV → St → Prop) : Prop :=
 let S300 : St := (St.add S (AO.cells [(SV.int IntKind.i64 x0_0), (SV.int IntKind.i64 x0_1), (SV.int IntKind.i64 x0_2), (SV.int IntKind.i64 x0_3), (SV.int IntKind.i64 x0_4), (SV.int IntKind.i64 x0_5), (SV.int IntKind.i64 x0_6), (SV.bool c0_7), (SV.sl l0_8), (SV.sl l0_9), (SV.sl l0_10)] Bool.false));
 St.at S300 (Bk.new (St.next S)) 0 fun y301 =>
 uncK y301 fun v302 y303 =>
 SV.cI IntKind.i64 v302 fun x307 =>
 let c308 : Bool := (ieq x307 (9 : Int));
 ifK c308
 (PV.cs p1 fun b309 n310 =>
 St.at S300 b309 n310 fun y311 =>
 uncK y311 fun v312 y313 =>
 SV.cM v312 fun y321 =>
 St.at S300 (Bk.new (St.next S)) 5 fun y322 =>
 uncK y322 fun v323 y324 =>
 SV.cI IntKind.i64 v323 fun x328 =>
 St.mput GraphP S300 3 y321 (V1.s (SV.int IntKind.i64 x328)) (V1.s (SV.bool Bool.true)) fun S329 =>
 K ((AV.tup [])) S329)
 (K ((AV.tup [])) S300)
noncomputable def X34_0 : X := (.op (.op (.br (.op .ret) .ret)))
theorem F34_0_eq (D J : Disp) (x0_0 : Int) (x0_1 : Int) (x0_2 : Int) (x0_3 : Int) (x0_4 : Int) (x0_5 : Int) (x0_6 : Int) (c0_7 : Bool) (l0_8 : LV) (l0_9 : LV) (l0_10 : LV) (p1 : PV) (S : St) (K : AV → St → Prop) : F34_0 D J x0_0 x0_1 x0_2 x0_3 x0_4 x0_5 x0_6 c0_7 l0_8 l0_9 l0_10 p1 S K = execK GraphP GraphG Go.Proofs.Try.f34 (typed GraphP D) J plans34 X34_0 (T34 0).1 (envOf (T34 0).2 [(AV.one (V1.agg [(SV.int IntKind.i64 x0_0), (SV.int IntKind.i64 x0_1), (SV.int IntKind.i64 x0_2), (SV.int IntKind.i64 x0_3), (SV.int IntKind.i64 x0_4), (SV.int IntKind.i64 x0_5), (SV.int IntKind.i64 x0_6), (SV.bool c0_7), (SV.sl l0_8), (SV.sl l0_9), (SV.sl l0_10)])), (AV.one (V1.s (SV.ptr p1)))]) S K := by kernel_rfl
noncomputable abbrev A34_0 (D J : Disp) (vals : List AV) (S : St) (K : AV → St → Prop) : Prop :=
  uncA vals fun a9001 r9002 => avA a9001 fun l9004 => uncK l9004 fun s9006 r9007 => SV.cI IntKind.i64 s9006 fun x0_0 => uncK r9007 fun s9010 r9011 => SV.cI IntKind.i64 s9010 fun x0_1 => uncK r9011 fun s9014 r9015 => SV.cI IntKind.i64 s9014 fun x0_2 => uncK r9015 fun s9018 r9019 => SV.cI IntKind.i64 s9018 fun x0_3 => uncK r9019 fun s9022 r9023 => SV.cI IntKind.i64 s9022 fun x0_4 => uncK r9023 fun s9026 r9027 => SV.cI IntKind.i64 s9026 fun x0_5 => uncK r9027 fun s9030 r9031 => SV.cI IntKind.i64 s9030 fun x0_6 => uncK r9031 fun s9034 r9035 => SV.cB s9034 fun c0_7 => uncK r9035 fun s9038 r9039 => SV.cL s9038 fun l0_8 => uncK r9039 fun s9042 r9043 => SV.cL s9042 fun l0_9 => uncK r9043 fun s9046 r9047 => SV.cL s9046 fun l0_10 => endL r9047 <| uncA r9002 fun a9051 r9052 => scK a9051 fun s9054 => SV.cP s9054 fun p1 => endL r9052 <| F34_0 D J x0_0 x0_1 x0_2 x0_3 x0_4 x0_5 x0_6 c0_7 l0_8 l0_9 l0_10 p1 S K
theorem A34_0_ok {D J : Disp} (hD : DOK GraphP GraphG D) (hJ : JOK GraphP GraphG Go.Proofs.Try.f34 T34 J) {vals : List AV} {S : St} {K : AV → St → Prop} (h0 : A34_0 D J vals S K) : Runs GraphP GraphG Go.Proofs.Try.f34 (T34 0).1 (envOf (T34 0).2 vals) S K := by
  obtain ⟨a9001, r9002, rfl, h3⟩ := uncA_some h0
  obtain ⟨l9004, rfl, h5⟩ := avA_some h3
  obtain ⟨s9006, r9007, rfl, h8⟩ := uncK_some h5
  obtain ⟨x0_0, rfl, h9⟩ := cI_some h8
  obtain ⟨s9010, r9011, rfl, h12⟩ := uncK_some h9
  obtain ⟨x0_1, rfl, h13⟩ := cI_some h12
  obtain ⟨s9014, r9015, rfl, h16⟩ := uncK_some h13
  obtain ⟨x0_2, rfl, h17⟩ := cI_some h16
  obtain ⟨s9018, r9019, rfl, h20⟩ := uncK_some h17
  obtain ⟨x0_3, rfl, h21⟩ := cI_some h20
  obtain ⟨s9022, r9023, rfl, h24⟩ := uncK_some h21
  obtain ⟨x0_4, rfl, h25⟩ := cI_some h24
  obtain ⟨s9026, r9027, rfl, h28⟩ := uncK_some h25
  obtain ⟨x0_5, rfl, h29⟩ := cI_some h28
  obtain ⟨s9030, r9031, rfl, h32⟩ := uncK_some h29
  obtain ⟨x0_6, rfl, h33⟩ := cI_some h32
  obtain ⟨s9034, r9035, rfl, h36⟩ := uncK_some h33
  obtain ⟨c0_7, rfl, h37⟩ := cB_some h36
  obtain ⟨s9038, r9039, rfl, h40⟩ := uncK_some h37
  obtain ⟨l0_8, rfl, h41⟩ := cL_some h40
  obtain ⟨s9042, r9043, rfl, h44⟩ := uncK_some h41
  obtain ⟨l0_9, rfl, h45⟩ := cL_some h44
  obtain ⟨s9046, r9047, rfl, h48⟩ := uncK_some h45
  obtain ⟨l0_10, rfl, h49⟩ := cL_some h48
  obtain ⟨rfl, h50⟩ := endL_some h49
  obtain ⟨a9051, r9052, rfl, h53⟩ := uncA_some h50
  obtain ⟨s9054, rfl, h55⟩ := scK_some h53
  obtain ⟨p1, rfl, h56⟩ := cP_some h55
  obtain ⟨rfl, h57⟩ := endL_some h56
  rw [F34_0_eq] at h57
  exact execK_runs hD.typed Graph_zero Graph_mixed hJ X34_0 (T34 0).1 (envOf (T34 0).2 _) S K (chk_of (by kernel_rfl) (by kernel_rfl)) h57
noncomputable def J34 (D : Disp) (k : Nat) : Disp := Nat.rec (motive := fun _ => Disp) Disp.no (fun _ ih => Disp.add 0 (A34_0 D ih) <| Disp.no) k
theorem J34_ok {D : Disp} (hD : DOK GraphP GraphG D) : ∀ k, JOK GraphP GraphG Go.Proofs.Try.f34 T34 (J34 D k)
  | 0 => JOK.no
  | k + 1 => JOK.add (ltB_ok (by kernel_rfl)) (fun vals S K h => A34_0_ok hD (J34_ok hD k) h) <| JOK.no
theorem E34_ok {D : Disp} (hD : DOK GraphP GraphG D) (k : Nat) {args : List AV} {S : St} {K : AV → St → Prop} (h : A34_0 D (J34 D k) args S K) : CallOK GraphP GraphG 34 args S K := by
  have hr := A34_0_ok hD (J34_ok hD k) h
  have hl : args.length = 2 := by
    have h0 := h
    obtain ⟨a9001, r9002, rfl, h3⟩ := uncA_some h0
    obtain ⟨l9004, rfl, h5⟩ := avA_some h3
    obtain ⟨s9006, r9007, rfl, h8⟩ := uncK_some h5
    obtain ⟨x0_0, rfl, h9⟩ := cI_some h8
    obtain ⟨s9010, r9011, rfl, h12⟩ := uncK_some h9
    obtain ⟨x0_1, rfl, h13⟩ := cI_some h12
    obtain ⟨s9014, r9015, rfl, h16⟩ := uncK_some h13
    obtain ⟨x0_2, rfl, h17⟩ := cI_some h16
    obtain ⟨s9018, r9019, rfl, h20⟩ := uncK_some h17
    obtain ⟨x0_3, rfl, h21⟩ := cI_some h20
    obtain ⟨s9022, r9023, rfl, h24⟩ := uncK_some h21
    obtain ⟨x0_4, rfl, h25⟩ := cI_some h24
    obtain ⟨s9026, r9027, rfl, h28⟩ := uncK_some h25
    obtain ⟨x0_5, rfl, h29⟩ := cI_some h28
    obtain ⟨s9030, r9031, rfl, h32⟩ := uncK_some h29
    obtain ⟨x0_6, rfl, h33⟩ := cI_some h32
    obtain ⟨s9034, r9035, rfl, h36⟩ := uncK_some h33
    obtain ⟨c0_7, rfl, h37⟩ := cB_some h36
    obtain ⟨s9038, r9039, rfl, h40⟩ := uncK_some h37
    obtain ⟨l0_8, rfl, h41⟩ := cL_some h40
    obtain ⟨s9042, r9043, rfl, h44⟩ := uncK_some h41
    obtain ⟨l0_9, rfl, h45⟩ := cL_some h44
    obtain ⟨s9046, r9047, rfl, h48⟩ := uncK_some h45
    obtain ⟨l0_10, rfl, h49⟩ := cL_some h48
    obtain ⟨rfl, h50⟩ := endL_some h49
    obtain ⟨a9051, r9052, rfl, h53⟩ := uncA_some h50
    obtain ⟨s9054, rfl, h55⟩ := scK_some h53
    obtain ⟨p1, rfl, h56⟩ := cP_some h55
    obtain ⟨rfl, h57⟩ := endL_some h56
    rfl
  refine callOK_of (fn := Go.Proofs.Try.f34) (c := (match Go.Proofs.Try.f34.body with | some c => c | none => .skip)) (by kernel_rfl) (by kernel_rfl) (by kernel_rfl) (by rw [hl]; kernel_rfl) (by kernel_rfl) ?_
  rw [hl]
  exact hr
noncomputable def plans35 (i : Nat) : Plan := if Nat.beq i 10 then [(0, []), (1, [0]), (2, []), (3, [1, 2, 0]), (4, [3, 1, 2, 0]), (5, [4, 3, 1, 2, 0]), (6, []), (7, [6]), (8, [7, 6]), (9, [5, 8, 4, 7, 3, 6, 1, 2, 0])] else []
noncomputable def T35 (p : Nat) : List Item × List Nat := bif Nat.beq p 0 then ([.code (match Go.Proofs.Try.f35.body with | some c => c | none => .skip)], [0, 1, 2, 3]) else
  bif Nat.beq p 4 then (navs [.op, .op, .op, .th] [.code (match Go.Proofs.Try.f35.body with | some c => c | none => .skip)], [1, 2, 3, 4, 7, 8]) else
  bif Nat.beq p 9 then (navs [.op, .op, .op, .th, .el, .op, .th] [.code (match Go.Proofs.Try.f35.body with | some c => c | none => .skip)], [1, 2, 3, 4, 14]) else
  bif Nat.beq p 11 then (navs [.op, .op, .op, .th, .el, .op, .th, .th, .op] [.code (match Go.Proofs.Try.f35.body with | some c => c | none => .skip)], [1, 3, 4, 18]) else
  ([], [])
noncomputable def F35_0 (D J : Disp) (x0_0 : Int) (x0_1 : Int) (x0_2 : Int) (x0_3 : Int) (x0_4 : Int) (x0_5 : Int) (x0_6 : Int) (c0_7 : Bool) (l0_8 : LV) (l0_9 : LV) (l0_10 : LV) (p1 : PV) (p2 : PV) (p3 : PV) (S : St) (K : AV → St → Prop) : Prop :=
 let S300 : St := (St.add S (AO.cells [(SV.int IntKind.i64 x0_0), (SV.int IntKind.i64 x0_1), (SV.int IntKind.i64 x0_2), (SV.int IntKind.i64 x0_3), (SV.int IntKind.i64 x0_4), (SV.int IntKind.i64 x0_5), (SV.int IntKind.i64 x0_6), (SV.bool c0_7), (SV.sl l0_8), (SV.sl l0_9), (SV.sl l0_10)] Bool.false));
 St.at S300 (Bk.new (St.next S)) 0 fun y301 =>
 uncK y301 fun v302 y303 =>
 SV.cI IntKind.i64 v302 fun x307 =>
 let c308 : Bool := (ieq x307 (10 : Int));
 ifK c308
 (J 4 [(AV.one (V1.s (SV.ptr p1))), (AV.one (V1.s (SV.ptr p2))), (AV.one (V1.s (SV.ptr p3))), (AV.one (V1.s (SV.ptr (PV.mk (Bk.new (St.next S)) 0)))), (AV.one (V1.s (SV.int IntKind.i64 x307))), (AV.one (V1.s (SV.bool c308)))] S300 K)
 (let c309 : Bool := (ieq x307 (19 : Int));
 J 4 [(AV.one (V1.s (SV.ptr p1))), (AV.one (V1.s (SV.ptr p2))), (AV.one (V1.s (SV.ptr p3))), (AV.one (V1.s (SV.ptr (PV.mk (Bk.new (St.next S)) 0)))), (AV.one (V1.s (SV.int IntKind.i64 x307))), (AV.one (V1.s (SV.bool c309)))] S300 K)
noncomputable def X35_0 : X := (.op (.op (.op (.br (.jmp 4 [1, 2, 3, 4, 7, 8]) (.op (.jmp 4 [1, 2, 3, 4, 7, 8]))))))
theorem F35_0_eq (D J : Disp) (x0_0 : Int) (x0_1 : Int) (x0_2 : Int) (x0_3 : Int) (x0_4 : Int) (x0_5 : Int) (x0_6 : Int) (c0_7 : Bool) (l0_8 : LV) (l0_9 : LV) (l0_10 : LV) (p1 : PV) (p2 : PV) (p3 : PV) (S : St) (K : AV → St → Prop) : F35_0 D J x0_0 x0_1 x0_2 x0_3 x0_4 x0_5 x0_6 c0_7 l0_8 l0_9 l0_10 p1 p2 p3 S K = execK GraphP GraphG Go.Proofs.Try.f35 (typed GraphP D) J plans35 X35_0 (T35 0).1 (envOf (T35 0).2 [(AV.one (V1.agg [(SV.int IntKind.i64 x0_0), (SV.int IntKind.i64 x0_1), (SV.int IntKind.i64 x0_2), (SV.int IntKind.i64 x0_3), (SV.int IntKind.i64 x0_4), (SV.int IntKind.i64 x0_5), (SV.int IntKind.i64 x0_6), (SV.bool c0_7), (SV.sl l0_8), (SV.sl l0_9), (SV.sl l0_10)])), (AV.one (V1.s (SV.ptr p1))), (AV.one (V1.s (SV.ptr p2))), (AV.one (V1.s (SV.ptr p3)))]) S K := by kernel_rfl
noncomputable def F35_4 (D J : Disp) (p1 : PV) (p2 : PV) (p3 : PV) (p4 : PV) (x7 : Int) (c8 : Bool) (S : St) (K : AV → St → Prop) : Prop :=
 ifK c8
 (PV.cs p1 fun b300 n301 =>
 St.at S b300 n301 fun y302 =>
 uncK y302 fun v303 y304 =>
 SV.cM v303 fun y312 =>
 PV.cs p4 fun b313 n314 =>
 let n315 : Nat := (n314 + 5);
 St.at S b313 n315 fun y316 =>
 uncK y316 fun v317 y318 =>
 SV.cI IntKind.i64 v317 fun x322 =>
 St.mput GraphP S 3 y312 (V1.s (SV.int IntKind.i64 x322)) (V1.s (SV.bool Bool.true)) fun S323 =>
 K ((AV.tup [])) S323)
 (let c330 : Bool := (ieq x7 (11 : Int));
 ifK c330
 (J 9 [(AV.one (V1.s (SV.ptr p1))), (AV.one (V1.s (SV.ptr p2))), (AV.one (V1.s (SV.ptr p3))), (AV.one (V1.s (SV.ptr p4))), (AV.one (V1.s (SV.bool c330)))] S K)
 (let c331 : Bool := (ieq x7 (20 : Int));
 J 9 [(AV.one (V1.s (SV.ptr p1))), (AV.one (V1.s (SV.ptr p2))), (AV.one (V1.s (SV.ptr p3))), (AV.one (V1.s (SV.ptr p4))), (AV.one (V1.s (SV.bool c331)))] S K))
noncomputable def X35_4 : X := (.br (.op .ret) (.op (.br (.jmp 9 [1, 2, 3, 4, 14]) (.op (.jmp 9 [1, 2, 3, 4, 14])))))
theorem F35_4_eq (D J : Disp) (p1 : PV) (p2 : PV) (p3 : PV) (p4 : PV) (x7 : Int) (c8 : Bool) (S : St) (K : AV → St → Prop) : F35_4 D J p1 p2 p3 p4 x7 c8 S K = execK GraphP GraphG Go.Proofs.Try.f35 (typed GraphP D) J plans35 X35_4 (T35 4).1 (envOf (T35 4).2 [(AV.one (V1.s (SV.ptr p1))), (AV.one (V1.s (SV.ptr p2))), (AV.one (V1.s (SV.ptr p3))), (AV.one (V1.s (SV.ptr p4))), (AV.one (V1.s (SV.int IntKind.i64 x7))), (AV.one (V1.s (SV.bool c8)))]) S K := by kernel_rfl
noncomputable def F35_9 (D J : Disp) (p1 : PV) (p2 : PV) (p3 : PV) (p4 : PV) (c14 : Bool) (S : St) (K : AV → St → Prop) : Prop :=
 ifK c14
 (PV.cs p2 fun b300 n301 =>
 St.at S b300 n301 fun y302 =>
 uncK y302 fun v303 y304 =>
 SV.cM v303 fun y312 =>
 St.rng S y312 fun b313 S314 =>
 J 11 [(AV.one (V1.s (SV.ptr p1))), (AV.one (V1.s (SV.ptr p3))), (AV.one (V1.s (SV.ptr p4))), (AV.one (V1.s (SV.ptr (PV.mk b313 0))))] S314 K)
 (K ((AV.tup [])) S)
noncomputable def X35_9 : X := (.br (.op (.jmp 11 [1, 3, 4, 18])) .ret)
theorem F35_9_eq (D J : Disp) (p1 : PV) (p2 : PV) (p3 : PV) (p4 : PV) (c14 : Bool) (S : St) (K : AV → St → Prop) : F35_9 D J p1 p2 p3 p4 c14 S K = execK GraphP GraphG Go.Proofs.Try.f35 (typed GraphP D) J plans35 X35_9 (T35 9).1 (envOf (T35 9).2 [(AV.one (V1.s (SV.ptr p1))), (AV.one (V1.s (SV.ptr p2))), (AV.one (V1.s (SV.ptr p3))), (AV.one (V1.s (SV.ptr p4))), (AV.one (V1.s (SV.bool c14)))]) S K := by kernel_rfl
noncomputable def F35_11 (D J : Disp) (p1 : PV) (p3 : PV) (p4 : PV) (p18 : PV) (S : St) (K : AV → St → Prop) : Prop :=
 PV.cs p18 fun b300 n301 =>
 req (Nat.beq n301 0) <|
 False
noncomputable def X35_11 : X := (.op .ret)
theorem F35_11_eq (D J : Disp) (p1 : PV) (p3 : PV) (p4 : PV) (p18 : PV) (S : St) (K : AV → St → Prop) : F35_11 D J p1 p3 p4 p18 S K = execK GraphP GraphG Go.Proofs.Try.f35 (typed GraphP D) J plans35 X35_11 (T35 11).1 (envOf (T35 11).2 [(AV.one (V1.s (SV.ptr p1))), (AV.one (V1.s (SV.ptr p3))), (AV.one (V1.s (SV.ptr p4))), (AV.one (V1.s (SV.ptr p18)))]) S K := by kernel_rfl
noncomputable abbrev A35_0 (D J : Disp) (vals : List AV) (S : St) (K : AV → St → Prop) : Prop :=
  uncA vals fun a9001 r9002 => avA a9001 fun l9004 => uncK l9004 fun s9006 r9007 => SV.cI IntKind.i64 s9006 fun x0_0 => uncK r9007 fun s9010 r9011 => SV.cI IntKind.i64 s9010 fun x0_1 => uncK r9011 fun s9014 r9015 => SV.cI IntKind.i64 s9014 fun x0_2 => uncK r9015 fun s9018 r9019 => SV.cI IntKind.i64 s9018 fun x0_3 => uncK r9019 fun s9022 r9023 => SV.cI IntKind.i64 s9022 fun x0_4 => uncK r9023 fun s9026 r9027 => SV.cI IntKind.i64 s9026 fun x0_5 => uncK r9027 fun s9030 r9031 => SV.cI IntKind.i64 s9030 fun x0_6 => uncK r9031 fun s9034 r9035 => SV.cB s9034 fun c0_7 => uncK r9035 fun s9038 r9039 => SV.cL s9038 fun l0_8 => uncK r9039 fun s9042 r9043 => SV.cL s9042 fun l0_9 => uncK r9043 fun s9046 r9047 => SV.cL s9046 fun l0_10 => endL r9047 <| uncA r9002 fun a9051 r9052 => scK a9051 fun s9054 => SV.cP s9054 fun p1 => uncA r9052 fun a9057 r9058 => scK a9057 fun s9060 => SV.cP s9060 fun p2 => uncA r9058 fun a9063 r9064 => scK a9063 fun s9066 => SV.cP s9066 fun p3 => endL r9064 <| F35_0 D J x0_0 x0_1 x0_2 x0_3 x0_4 x0_5 x0_6 c0_7 l0_8 l0_9 l0_10 p1 p2 p3 S K
theorem A35_0_ok {D J : Disp} (hD : DOK GraphP GraphG D) (hJ : JOK GraphP GraphG Go.Proofs.Try.f35 T35 J) {vals : List AV} {S : St} {K : AV → St → Prop} (h0 : A35_0 D J vals S K) : Runs GraphP GraphG Go.Proofs.Try.f35 (T35 0).1 (envOf (T35 0).2 vals) S K := by
  obtain ⟨a9001, r9002, rfl, h3⟩ := uncA_some h0
  obtain ⟨l9004, rfl, h5⟩ := avA_some h3
  obtain ⟨s9006, r9007, rfl, h8⟩ := uncK_some h5
  obtain ⟨x0_0, rfl, h9⟩ := cI_some h8
  obtain ⟨s9010, r9011, rfl, h12⟩ := uncK_some h9
  obtain ⟨x0_1, rfl, h13⟩ := cI_some h12
  obtain ⟨s9014, r9015, rfl, h16⟩ := uncK_some h13
  obtain ⟨x0_2, rfl, h17⟩ := cI_some h16
  obtain ⟨s9018, r9019, rfl, h20⟩ := uncK_some h17
  obtain ⟨x0_3, rfl, h21⟩ := cI_some h20
  obtain ⟨s9022, r9023, rfl, h24⟩ := uncK_some h21
  obtain ⟨x0_4, rfl, h25⟩ := cI_some h24
  obtain ⟨s9026, r9027, rfl, h28⟩ := uncK_some h25
  obtain ⟨x0_5, rfl, h29⟩ := cI_some h28
  obtain ⟨s9030, r9031, rfl, h32⟩ := uncK_some h29
  obtain ⟨x0_6, rfl, h33⟩ := cI_some h32
  obtain ⟨s9034, r9035, rfl, h36⟩ := uncK_some h33
  obtain ⟨c0_7, rfl, h37⟩ := cB_some h36
  obtain ⟨s9038, r9039, rfl, h40⟩ := uncK_some h37
  obtain ⟨l0_8, rfl, h41⟩ := cL_some h40
  obtain ⟨s9042, r9043, rfl, h44⟩ := uncK_some h41
  obtain ⟨l0_9, rfl, h45⟩ := cL_some h44
  obtain ⟨s9046, r9047, rfl, h48⟩ := uncK_some h45
  obtain ⟨l0_10, rfl, h49⟩ := cL_some h48
  obtain ⟨rfl, h50⟩ := endL_some h49
  obtain ⟨a9051, r9052, rfl, h53⟩ := uncA_some h50
  obtain ⟨s9054, rfl, h55⟩ := scK_some h53
  obtain ⟨p1, rfl, h56⟩ := cP_some h55
  obtain ⟨a9057, r9058, rfl, h59⟩ := uncA_some h56
  obtain ⟨s9060, rfl, h61⟩ := scK_some h59
  obtain ⟨p2, rfl, h62⟩ := cP_some h61
  obtain ⟨a9063, r9064, rfl, h65⟩ := uncA_some h62
  obtain ⟨s9066, rfl, h67⟩ := scK_some h65
  obtain ⟨p3, rfl, h68⟩ := cP_some h67
  obtain ⟨rfl, h69⟩ := endL_some h68
  rw [F35_0_eq] at h69
  exact execK_runs hD.typed Graph_zero Graph_mixed hJ X35_0 (T35 0).1 (envOf (T35 0).2 _) S K (chk_of (by kernel_rfl) (by kernel_rfl)) h69
noncomputable abbrev A35_4 (D J : Disp) (vals : List AV) (S : St) (K : AV → St → Prop) : Prop :=
  uncA vals fun a9001 r9002 => scK a9001 fun s9004 => SV.cP s9004 fun p1 => uncA r9002 fun a9007 r9008 => scK a9007 fun s9010 => SV.cP s9010 fun p2 => uncA r9008 fun a9013 r9014 => scK a9013 fun s9016 => SV.cP s9016 fun p3 => uncA r9014 fun a9019 r9020 => scK a9019 fun s9022 => SV.cP s9022 fun p4 => uncA r9020 fun a9025 r9026 => scK a9025 fun s9028 => SV.cI IntKind.i64 s9028 fun x7 => uncA r9026 fun a9031 r9032 => scK a9031 fun s9034 => SV.cB s9034 fun c8 => endL r9032 <| F35_4 D J p1 p2 p3 p4 x7 c8 S K
theorem A35_4_ok {D J : Disp} (hD : DOK GraphP GraphG D) (hJ : JOK GraphP GraphG Go.Proofs.Try.f35 T35 J) {vals : List AV} {S : St} {K : AV → St → Prop} (h0 : A35_4 D J vals S K) : Runs GraphP GraphG Go.Proofs.Try.f35 (T35 4).1 (envOf (T35 4).2 vals) S K := by
  obtain ⟨a9001, r9002, rfl, h3⟩ := uncA_some h0
  obtain ⟨s9004, rfl, h5⟩ := scK_some h3
  obtain ⟨p1, rfl, h6⟩ := cP_some h5
  obtain ⟨a9007, r9008, rfl, h9⟩ := uncA_some h6
  obtain ⟨s9010, rfl, h11⟩ := scK_some h9
  obtain ⟨p2, rfl, h12⟩ := cP_some h11
  obtain ⟨a9013, r9014, rfl, h15⟩ := uncA_some h12
  obtain ⟨s9016, rfl, h17⟩ := scK_some h15
  obtain ⟨p3, rfl, h18⟩ := cP_some h17
  obtain ⟨a9019, r9020, rfl, h21⟩ := uncA_some h18
  obtain ⟨s9022, rfl, h23⟩ := scK_some h21
  obtain ⟨p4, rfl, h24⟩ := cP_some h23
  obtain ⟨a9025, r9026, rfl, h27⟩ := uncA_some h24
  obtain ⟨s9028, rfl, h29⟩ := scK_some h27
  obtain ⟨x7, rfl, h30⟩ := cI_some h29
  obtain ⟨a9031, r9032, rfl, h33⟩ := uncA_some h30
  obtain ⟨s9034, rfl, h35⟩ := scK_some h33
  obtain ⟨c8, rfl, h36⟩ := cB_some h35
  obtain ⟨rfl, h37⟩ := endL_some h36
  rw [F35_4_eq] at h37
  exact execK_runs hD.typed Graph_zero Graph_mixed hJ X35_4 (T35 4).1 (envOf (T35 4).2 _) S K (chk_of (by kernel_rfl) (by kernel_rfl)) h37
noncomputable abbrev A35_9 (D J : Disp) (vals : List AV) (S : St) (K : AV → St → Prop) : Prop :=
  uncA vals fun a9001 r9002 => scK a9001 fun s9004 => SV.cP s9004 fun p1 => uncA r9002 fun a9007 r9008 => scK a9007 fun s9010 => SV.cP s9010 fun p2 => uncA r9008 fun a9013 r9014 => scK a9013 fun s9016 => SV.cP s9016 fun p3 => uncA r9014 fun a9019 r9020 => scK a9019 fun s9022 => SV.cP s9022 fun p4 => uncA r9020 fun a9025 r9026 => scK a9025 fun s9028 => SV.cB s9028 fun c14 => endL r9026 <| F35_9 D J p1 p2 p3 p4 c14 S K
theorem A35_9_ok {D J : Disp} (hD : DOK GraphP GraphG D) (hJ : JOK GraphP GraphG Go.Proofs.Try.f35 T35 J) {vals : List AV} {S : St} {K : AV → St → Prop} (h0 : A35_9 D J vals S K) : Runs GraphP GraphG Go.Proofs.Try.f35 (T35 9).1 (envOf (T35 9).2 vals) S K := by
  obtain ⟨a9001, r9002, rfl, h3⟩ := uncA_some h0
  obtain ⟨s9004, rfl, h5⟩ := scK_some h3
  obtain ⟨p1, rfl, h6⟩ := cP_some h5
  obtain ⟨a9007, r9008, rfl, h9⟩ := uncA_some h6
  obtain ⟨s9010, rfl, h11⟩ := scK_some h9
  obtain ⟨p2, rfl, h12⟩ := cP_some h11
  obtain ⟨a9013, r9014, rfl, h15⟩ := uncA_some h12
  obtain ⟨s9016, rfl, h17⟩ := scK_some h15
  obtain ⟨p3, rfl, h18⟩ := cP_some h17
  obtain ⟨a9019, r9020, rfl, h21⟩ := uncA_some h18
  obtain ⟨s9022, rfl, h23⟩ := scK_some h21
  obtain ⟨p4, rfl, h24⟩ := cP_some h23
  obtain ⟨a9025, r9026, rfl, h27⟩ := uncA_some h24
  obtain ⟨s9028, rfl, h29⟩ := scK_some h27
  obtain ⟨c14, rfl, h30⟩ := cB_some h29
  obtain ⟨rfl, h31⟩ := endL_some h30
  rw [F35_9_eq] at h31
  exact execK_runs hD.typed Graph_zero Graph_mixed hJ X35_9 (T35 9).1 (envOf (T35 9).2 _) S K (chk_of (by kernel_rfl) (by kernel_rfl)) h31
noncomputable abbrev A35_11 (D J : Disp) (vals : List AV) (S : St) (K : AV → St → Prop) : Prop :=
  uncA vals fun a9001 r9002 => scK a9001 fun s9004 => SV.cP s9004 fun p1 => uncA r9002 fun a9007 r9008 => scK a9007 fun s9010 => SV.cP s9010 fun p3 => uncA r9008 fun a9013 r9014 => scK a9013 fun s9016 => SV.cP s9016 fun p4 => uncA r9014 fun a9019 r9020 => scK a9019 fun s9022 => SV.cP s9022 fun p18 => endL r9020 <| F35_11 D J p1 p3 p4 p18 S K
theorem A35_11_ok {D J : Disp} (hD : DOK GraphP GraphG D) (hJ : JOK GraphP GraphG Go.Proofs.Try.f35 T35 J) {vals : List AV} {S : St} {K : AV → St → Prop} (h0 : A35_11 D J vals S K) : Runs GraphP GraphG Go.Proofs.Try.f35 (T35 11).1 (envOf (T35 11).2 vals) S K := by
  obtain ⟨a9001, r9002, rfl, h3⟩ := uncA_some h0
  obtain ⟨s9004, rfl, h5⟩ := scK_some h3
  obtain ⟨p1, rfl, h6⟩ := cP_some h5
  obtain ⟨a9007, r9008, rfl, h9⟩ := uncA_some h6
  obtain ⟨s9010, rfl, h11⟩ := scK_some h9
  obtain ⟨p3, rfl, h12⟩ := cP_some h11
  obtain ⟨a9013, r9014, rfl, h15⟩ := uncA_some h12
  obtain ⟨s9016, rfl, h17⟩ := scK_some h15
  obtain ⟨p4, rfl, h18⟩ := cP_some h17
  obtain ⟨a9019, r9020, rfl, h21⟩ := uncA_some h18
  obtain ⟨s9022, rfl, h23⟩ := scK_some h21
  obtain ⟨p18, rfl, h24⟩ := cP_some h23
  obtain ⟨rfl, h25⟩ := endL_some h24
  rw [F35_11_eq] at h25
  exact execK_runs hD.typed Graph_zero Graph_mixed hJ X35_11 (T35 11).1 (envOf (T35 11).2 _) S K (chk_of (by kernel_rfl) (by kernel_rfl)) h25
noncomputable def J35 (D : Disp) (k : Nat) : Disp := Nat.rec (motive := fun _ => Disp) Disp.no (fun _ ih => Disp.add 0 (A35_0 D ih) <| Disp.add 4 (A35_4 D ih) <| Disp.add 9 (A35_9 D ih) <| Disp.add 11 (A35_11 D ih) <| Disp.no) k
theorem J35_ok {D : Disp} (hD : DOK GraphP GraphG D) : ∀ k, JOK GraphP GraphG Go.Proofs.Try.f35 T35 (J35 D k)
  | 0 => JOK.no
  | k + 1 => JOK.add (ltB_ok (by kernel_rfl)) (fun vals S K h => A35_0_ok hD (J35_ok hD k) h) <| JOK.add (ltB_ok (by kernel_rfl)) (fun vals S K h => A35_4_ok hD (J35_ok hD k) h) <| JOK.add (ltB_ok (by kernel_rfl)) (fun vals S K h => A35_9_ok hD (J35_ok hD k) h) <| JOK.add (ltB_ok (by kernel_rfl)) (fun vals S K h => A35_11_ok hD (J35_ok hD k) h) <| JOK.no
theorem E35_ok {D : Disp} (hD : DOK GraphP GraphG D) (k : Nat) {args : List AV} {S : St} {K : AV → St → Prop} (h : A35_0 D (J35 D k) args S K) : CallOK GraphP GraphG 35 args S K := by
  have hr := A35_0_ok hD (J35_ok hD k) h
  have hl : args.length = 4 := by
    have h0 := h
    obtain ⟨a9001, r9002, rfl, h3⟩ := uncA_some h0
    obtain ⟨l9004, rfl, h5⟩ := avA_some h3
    obtain ⟨s9006, r9007, rfl, h8⟩ := uncK_some h5
    obtain ⟨x0_0, rfl, h9⟩ := cI_some h8
    obtain ⟨s9010, r9011, rfl, h12⟩ := uncK_some h9
    obtain ⟨x0_1, rfl, h13⟩ := cI_some h12
    obtain ⟨s9014, r9015, rfl, h16⟩ := uncK_some h13
    obtain ⟨x0_2, rfl, h17⟩ := cI_some h16
    obtain ⟨s9018, r9019, rfl, h20⟩ := uncK_some h17
    obtain ⟨x0_3, rfl, h21⟩ := cI_some h20
    obtain ⟨s9022, r9023, rfl, h24⟩ := uncK_some h21
    obtain ⟨x0_4, rfl, h25⟩ := cI_some h24
    obtain ⟨s9026, r9027, rfl, h28⟩ := uncK_some h25
    obtain ⟨x0_5, rfl, h29⟩ := cI_some h28
    obtain ⟨s9030, r9031, rfl, h32⟩ := uncK_some h29
    obtain ⟨x0_6, rfl, h33⟩ := cI_some h32
    obtain ⟨s9034, r9035, rfl, h36⟩ := uncK_some h33
    obtain ⟨c0_7, rfl, h37⟩ := cB_some h36
    obtain ⟨s9038, r9039, rfl, h40⟩ := uncK_some h37
    obtain ⟨l0_8, rfl, h41⟩ := cL_some h40
    obtain ⟨s9042, r9043, rfl, h44⟩ := uncK_some h41
    obtain ⟨l0_9, rfl, h45⟩ := cL_some h44
    obtain ⟨s9046, r9047, rfl, h48⟩ := uncK_some h45
    obtain ⟨l0_10, rfl, h49⟩ := cL_some h48
    obtain ⟨rfl, h50⟩ := endL_some h49
    obtain ⟨a9051, r9052, rfl, h53⟩ := uncA_some h50
    obtain ⟨s9054, rfl, h55⟩ := scK_some h53
    obtain ⟨p1, rfl, h56⟩ := cP_some h55
    obtain ⟨a9057, r9058, rfl, h59⟩ := uncA_some h56
    obtain ⟨s9060, rfl, h61⟩ := scK_some h59
    obtain ⟨p2, rfl, h62⟩ := cP_some h61
    obtain ⟨a9063, r9064, rfl, h65⟩ := uncA_some h62
    obtain ⟨s9066, rfl, h67⟩ := scK_some h65
    obtain ⟨p3, rfl, h68⟩ := cP_some h67
    obtain ⟨rfl, h69⟩ := endL_some h68
    rfl
  refine callOK_of (fn := Go.Proofs.Try.f35) (c := (match Go.Proofs.Try.f35.body with | some c => c | none => .skip)) (by kernel_rfl) (by kernel_rfl) (by kernel_rfl) (by rw [hl]; kernel_rfl) (by kernel_rfl) ?_
  rw [hl]
  exact hr
noncomputable def plans36 (i : Nat) : Plan := []
noncomputable def T36 (p : Nat) : List Item × List Nat := bif Nat.beq p 0 then ([.code (match Go.Proofs.Try.f36.body with | some c => c | none => .skip)], [0]) else
  ([], [])
noncomputable def F36_0 (D J : Disp) (l0 : LV) (S : St) (K : AV → St → Prop) : Prop :=
 let x300 : Int := (Int.ofNat (LV.len l0));
 let x301 : Int := (iwrap IntKind.u64 x300);
 D 42 [(AV.one (V1.s (SV.int IntKind.u64 x301)))] S fun v302 S303 =>
 scK v302 fun v305 =>
 SV.cI IntKind.i64 v305 fun x308 =>
 D 41 [(AV.one (V1.s (SV.sl l0))), (AV.one (V1.s (SV.int IntKind.i64 (0 : Int)))), (AV.one (V1.s (SV.int IntKind.i64 x300))), (AV.one (V1.s (SV.int IntKind.i64 x308)))] S303 fun v309 S310 =>
 avT v309 fun y312 =>
 endL y312 (K ((AV.tup [])) S310)
noncomputable def X36_0 : X := (.op (.op .ret))
theorem F36_0_eq (D J : Disp) (l0 : LV) (S : St) (K : AV → St → Prop) : F36_0 D J l0 S K = execK GraphP GraphG Go.Proofs.Try.f36 (typed GraphP D) J plans36 X36_0 (T36 0).1 (envOf (T36 0).2 [(AV.one (V1.s (SV.sl l0)))]) S K := by kernel_rfl
noncomputable abbrev A36_0 (D J : Disp) (vals : List AV) (S : St) (K : AV → St → Prop) : Prop :=
  uncA vals fun a9001 r9002 => scK a9001 fun s9004 => SV.cL s9004 fun l0 => endL r9002 <| F36_0 D J l0 S K
theorem A36_0_ok {D J : Disp} (hD : DOK GraphP GraphG D) (hJ : JOK GraphP GraphG Go.Proofs.Try.f36 T36 J) {vals : List AV} {S : St} {K : AV → St → Prop} (h0 : A36_0 D J vals S K) : Runs GraphP GraphG Go.Proofs.Try.f36 (T36 0).1 (envOf (T36 0).2 vals) S K := by
  obtain ⟨a9001, r9002, rfl, h3⟩ := uncA_some h0
  obtain ⟨s9004, rfl, h5⟩ := scK_some h3
  obtain ⟨l0, rfl, h6⟩ := cL_some h5
  obtain ⟨rfl, h7⟩ := endL_some h6
  rw [F36_0_eq] at h7
  exact execK_runs hD.typed Graph_zero Graph_mixed hJ X36_0 (T36 0).1 (envOf (T36 0).2 _) S K (chk_of (by kernel_rfl) (by kernel_rfl)) h7
noncomputable def J36 (D : Disp) (k : Nat) : Disp := Nat.rec (motive := fun _ => Disp) Disp.no (fun _ ih => Disp.add 0 (A36_0 D ih) <| Disp.no) k
theorem J36_ok {D : Disp} (hD : DOK GraphP GraphG D) : ∀ k, JOK GraphP GraphG Go.Proofs.Try.f36 T36 (J36 D k)
  | 0 => JOK.no
  | k + 1 => JOK.add (ltB_ok (by kernel_rfl)) (fun vals S K h => A36_0_ok hD (J36_ok hD k) h) <| JOK.no
theorem E36_ok {D : Disp} (hD : DOK GraphP GraphG D) (k : Nat) {args : List AV} {S : St} {K : AV → St → Prop} (h : A36_0 D (J36 D k) args S K) : CallOK GraphP GraphG 36 args S K := by
  have hr := A36_0_ok hD (J36_ok hD k) h
  have hl : args.length = 1 := by
    have h0 := h
    obtain ⟨a9001, r9002, rfl, h3⟩ := uncA_some h0
    obtain ⟨s9004, rfl, h5⟩ := scK_some h3
    obtain ⟨l0, rfl, h6⟩ := cL_some h5
    obtain ⟨rfl, h7⟩ := endL_some h6
    rfl
  refine callOK_of (fn := Go.Proofs.Try.f36) (c := (match Go.Proofs.Try.f36.body with | some c => c | none => .skip)) (by kernel_rfl) (by kernel_rfl) (by kernel_rfl) (by rw [hl]; kernel_rfl) (by kernel_rfl) ?_
  rw [hl]
  exact hr
noncomputable def plans39 (i : Nat) : Plan := if Nat.beq i 9 then [(0, []), (1, []), (2, [0, 1]), (3, [2, 0, 1]), (4, [3, 2, 0, 1]), (5, [4, 3, 2, 0, 1]), (7, [4, 3, 2, 0, 1]), (8, [4, 3, 2, 0, 1]), (9, [8, 4, 3, 2, 0, 1]), (10, [9, 4, 8, 3, 2, 0, 1]), (11, [10, 4, 9, 3, 2, 8, 0, 1]), (12, [7, 11, 4, 10, 3, 2, 9, 0, 1, 8]), (6, [5, 4, 3, 2, 0, 1]), (13, [6, 12, 4, 5, 7, 11, 3, 2, 10, 0, 1, 9, 8]), (14, [4, 13, 3, 2, 6, 12, 0, 1, 5, 7, 11, 10, 9, 8])] else []
noncomputable def T39 (p : Nat) : List Item × List Nat := bif Nat.beq p 0 then ([.code (match Go.Proofs.Try.f39.body with | some c => c | none => .skip)], [0]) else
  bif Nat.beq p 2 then (navs [.op, .op] [.code (match Go.Proofs.Try.f39.body with | some c => c | none => .skip)], [1, 32]) else
  bif Nat.beq p 6 then (navs [.op, .op, .el, .op] [.code (match Go.Proofs.Try.f39.body with | some c => c | none => .skip)], [1, 34, 35, 36]) else
  bif Nat.beq p 10 then (navs [.op, .op, .el, .op, .op, .th, .op, .op] [.code (match Go.Proofs.Try.f39.body with | some c => c | none => .skip)], [1, 4, 34, 35, 36, 41, 42, 43]) else
  bif Nat.beq p 14 then (navs [.op, .op, .el, .op, .op, .th, .op, .op, .op, .th, .op, .op] [.code (match Go.Proofs.Try.f39.body with | some c => c | none => .skip)], [1, 4, 34, 35, 36, 41, 42, 43, 62]) else
  ([], [])
noncomputable def F39_0 (D J : Disp) (s0_0 : (List Nat)) (x0_1 : Int) (x0_2 : Int) (l0_3 : LV) (l0_4 : LV) (c0_5 : Bool) (S : St) (K : AV → St → Prop) : Prop :=
 let S300 : St := (St.add S (AO.cells [(SV.str s0_0), (SV.int IntKind.i64 x0_1), (SV.int IntKind.i64 x0_2), (SV.sl l0_3), (SV.sl l0_4), (SV.bool c0_5)] Bool.false));
 St.at S300 (Bk.new (St.next S)) 1 fun y301 =>
 uncK y301 fun v302 y303 =>
 SV.cI IntKind.i64 v302 fun x307 =>
 let c308 : Bool := (ilt x307 (0 : Int));
 ifK c308
 (J 2 [(AV.one (V1.s (SV.ptr (PV.mk (Bk.new (St.next S)) 0)))), (AV.one (V1.s (SV.bool Bool.true)))] S300 K)
 (St.at S300 (Bk.new (St.next S)) 1 fun y309 =>
 uncK y309 fun v310 y311 =>
 SV.cI IntKind.i64 v310 fun x315 =>
 let c316 : Bool := (ilt (6 : Int) x315);
 ifK c316
 (J 2 [(AV.one (V1.s (SV.ptr (PV.mk (Bk.new (St.next S)) 0)))), (AV.one (V1.s (SV.bool Bool.true)))] S300 K)
 (St.at S300 (Bk.new (St.next S)) 1 fun y317 =>
 uncK y317 fun v318 y319 =>
 SV.cI IntKind.i64 v318 fun x323 =>
 St.at S300 (Bk.new (St.next S)) 2 fun y324 =>
 uncK y324 fun v325 y326 =>
 SV.cI IntKind.i64 v325 fun x330 =>
 let c331 : Bool := (ilt x330 x323);
 ifK c331
 (J 2 [(AV.one (V1.s (SV.ptr (PV.mk (Bk.new (St.next S)) 0)))), (AV.one (V1.s (SV.bool Bool.true)))] S300 K)
 (St.at S300 (Bk.new (St.next S)) 2 fun y332 =>
 uncK y332 fun v333 y334 =>
 SV.cI IntKind.i64 v333 fun x338 =>
 let c339 : Bool := (ilt (100000 : Int) x338);
 ifK c339
 (J 2 [(AV.one (V1.s (SV.ptr (PV.mk (Bk.new (St.next S)) 0)))), (AV.one (V1.s (SV.bool Bool.true)))] S300 K)
 (St.at S300 (Bk.new (St.next S)) 4 fun y340 =>
 uncK y340 fun v341 y342 =>
 SV.cL v341 fun y349 =>
 let x350 : Int := (Int.ofNat (LV.len y349));
 let c351 : Bool := (ieq x350 (0 : Int));
 J 2 [(AV.one (V1.s (SV.ptr (PV.mk (Bk.new (St.next S)) 0)))), (AV.one (V1.s (SV.bool c351)))] S300 K))))
noncomputable def X39_0 : X := (.op (.op (.jmp 2 [1, 32])))
theorem F39_0_eq (D J : Disp) (s0_0 : (List Nat)) (x0_1 : Int) (x0_2 : Int) (l0_3 : LV) (l0_4 : LV) (c0_5 : Bool) (S : St) (K : AV → St → Prop) : F39_0 D J s0_0 x0_1 x0_2 l0_3 l0_4 c0_5 S K = execK GraphP GraphG Go.Proofs.Try.f39 (typed GraphP D) J plans39 X39_0 (T39 0).1 (envOf (T39 0).2 [(AV.one (V1.agg [(SV.str s0_0), (SV.int IntKind.i64 x0_1), (SV.int IntKind.i64 x0_2), (SV.sl l0_3), (SV.sl l0_4), (SV.bool c0_5)]))]) S K := by kernel_rfl
noncomputable def F39_2 (D J : Disp) (p1 : PV) (c32 : Bool) (S : St) (K : AV → St → Prop) : Prop :=
 ifK c32
 (K ((AV.one (V1.s (SV.bool Bool.false)))) S)
 (PV.cs p1 fun b300 n301 =>
 let n302 : Nat := (n301 + 4);
 St.at S b300 n302 fun y303 =>
 uncK y303 fun v304 y305 =>
 SV.cL v304 fun y312 =>
 let x313 : Int := (Int.ofNat (LV.len y312));
 J 6 [(AV.one (V1.s (SV.ptr p1))), (AV.one (V1.s (SV.sl y312))), (AV.one (V1.s (SV.int IntKind.i64 x313))), (AV.one (V1.s (SV.int IntKind.i64 (0 : Int))))] S K)
noncomputable def X39_2 : X := (.br (.op .ret) (.op (.jmp 6 [1, 34, 35, 36])))
theorem F39_2_eq (D J : Disp) (p1 : PV) (c32 : Bool) (S : St) (K : AV → St → Prop) : F39_2 D J p1 c32 S K = execK GraphP GraphG Go.Proofs.Try.f39 (typed GraphP D) J plans39 X39_2 (T39 2).1 (envOf (T39 2).2 [(AV.one (V1.s (SV.ptr p1))), (AV.one (V1.s (SV.bool c32)))]) S K := by kernel_rfl
noncomputable def F39_6 (D J : Disp) (p1 : PV) (l34 : LV) (x35 : Int) (x36 : Int) (S : St) (K : AV → St → Prop) : Prop :=
 let c300 : Bool := (ilt x36 x35);
 ifK c300
 (LV.cs l34 fun b301 n302 n303 y304 =>
 req (Bool.and (ile (0 : Int) x36) (ilt x36 (Int.ofNat n303))) <|
 let n305 : Nat := (n302 + ((Int.toNat x36) * 1));
 St.at S b301 n305 fun y306 =>
 uncK y306 fun v307 y308 =>
 SV.cL v307 fun y315 =>
 let S316 : St := (St.add S (AO.cells [(SV.sl LV.nil)] Bool.false));
 St.wr S316 (Bk.new (St.next S)) 0 [(SV.sl y315)] fun S317 =>
 St.at S317 (Bk.new (St.next S)) 0 fun y318 =>
 uncK y318 fun v319 y320 =>
 SV.cL v319 fun y327 =>
 let x328 : Int := (Int.ofNat (LV.len y327));
 J 10 [(AV.one (V1.s (SV.ptr p1))), (AV.one (V1.s (SV.ptr (PV.mk (Bk.new (St.next S)) 0)))), (AV.one (V1.s (SV.sl l34))), (AV.one (V1.s (SV.int IntKind.i64 x35))), (AV.one (V1.s (SV.int IntKind.i64 x36))), (AV.one (V1.s (SV.sl y327))), (AV.one (V1.s (SV.int IntKind.i64 x328))), (AV.one (V1.s (SV.int IntKind.i64 (0 : Int))))] S317 K)
 (K ((AV.one (V1.s (SV.bool Bool.true)))) S)
noncomputable def X39_6 : X := (.op (.br (.op (.op (.jmp 10 [1, 4, 34, 35, 36, 41, 42, 43]))) (.op .ret)))
theorem F39_6_eq (D J : Disp) (p1 : PV) (l34 : LV) (x35 : Int) (x36 : Int) (S : St) (K : AV → St → Prop) : F39_6 D J p1 l34 x35 x36 S K = execK GraphP GraphG Go.Proofs.Try.f39 (typed GraphP D) J plans39 X39_6 (T39 6).1 (envOf (T39 6).2 [(AV.one (V1.s (SV.ptr p1))), (AV.one (V1.s (SV.sl l34))), (AV.one (V1.s (SV.int IntKind.i64 x35))), (AV.one (V1.s (SV.int IntKind.i64 x36)))]) S K := by kernel_rfl
noncomputable def F39_10 (D J : Disp) (p1 : PV) (p4 : PV) (l34 : LV) (x35 : Int) (x36 : Int) (l41 : LV) (x42 : Int) (x43 : Int) (S : St) (K : AV → St → Prop) : Prop :=
 let c300 : Bool := (ilt x43 x42);
 ifK c300
 (LV.cs l41 fun b301 n302 n303 y304 =>
 req (Bool.and (ile (0 : Int) x43) (ilt x43 (Int.ofNat n303))) <|
 let n305 : Nat := (n302 + ((Int.toNat x43) * 11));
 St.at S b301 n305 fun y306 =>
 uncK y306 fun v307 y308 =>
 SV.cI IntKind.i64 v307 fun x312 =>
 uncK y308 fun v313 y314 =>
 SV.cI IntKind.i64 v313 fun x318 =>
 uncK y314 fun v319 y320 =>
 SV.cI IntKind.i64 v319 fun x324 =>
 uncK y320 fun v325 y326 =>
 SV.cI IntKind.i64 v325 fun x330 =>
 uncK y326 fun v331 y332 =>
 SV.cI IntKind.i64 v331 fun x336 =>
 uncK y332 fun v337 y338 =>
 SV.cI IntKind.i64 v337 fun x342 =>
 uncK y338 fun v343 y344 =>
 SV.cI IntKind.i64 v343 fun x348 =>
 uncK y344 fun v349 y350 =>
 SV.cB v349 fun y352 =>
 uncK y350 fun v353 y354 =>
 SV.cL v353 fun y361 =>
 uncK y354 fun v362 y363 =>
 SV.cL v362 fun y370 =>
 uncK y363 fun v371 y372 =>
 SV.cL v371 fun y379 =>
 let S380 : St := (St.add S (AO.cells [(SV.int IntKind.i64 (0 : Int)), (SV.int IntKind.i64 (0 : Int)), (SV.int IntKind.i64 (0 : Int)), (SV.int IntKind.i64 (0 : Int)), (SV.int IntKind.i64 (0 : Int)), (SV.int IntKind.i64 (0 : Int)), (SV.int IntKind.i64 (0 : Int)), (SV.bool Bool.false), (SV.sl LV.nil), (SV.sl LV.nil), (SV.sl LV.nil)] Bool.false));
 St.wr S380 (Bk.new (St.next S)) 0 [(SV.int IntKind.i64 x312), (SV.int IntKind.i64 x318), (SV.int IntKind.i64 x324), (SV.int IntKind.i64 x330), (SV.int IntKind.i64 x336), (SV.int IntKind.i64 x342), (SV.int IntKind.i64 x348), (SV.bool y352), (SV.sl y361), (SV.sl y370), (SV.sl y379)] fun S381 =>
 PV.cs p1 fun b382 n383 =>
 St.at S381 b382 n383 fun y384 =>
 uncK y384 fun v385 y386 =>
 SV.cS v385 fun y391 =>
 uncK y386 fun v392 y393 =>
 SV.cI IntKind.i64 v392 fun x397 =>
 uncK y393 fun v398 y399 =>
 SV.cI IntKind.i64 v398 fun x403 =>
 uncK y399 fun v404 y405 =>
 SV.cL v404 fun y412 =>
 uncK y405 fun v413 y414 =>
 SV.cL v413 fun y421 =>
 uncK y414 fun v422 y423 =>
 SV.cB v422 fun y425 =>
 St.at S381 (Bk.new (St.next S)) 0 fun y426 =>
 uncK y426 fun v427 y428 =>
 SV.cI IntKind.i64 v427 fun x432 =>
 uncK y428 fun v433 y434 =>
 SV.cI IntKind.i64 v433 fun x438 =>
 uncK y434 fun v439 y440 =>
 SV.cI IntKind.i64 v439 fun x444 =>
 uncK y440 fun v445 y446 =>
 SV.cI IntKind.i64 v445 fun x450 =>
 uncK y446 fun v451 y452 =>
 SV.cI IntKind.i64 v451 fun x456 =>
 uncK y452 fun v457 y458 =>
 SV.cI IntKind.i64 v457 fun x462 =>
 uncK y458 fun v463 y464 =>
 SV.cI IntKind.i64 v463 fun x468 =>
 uncK y464 fun v469 y470 =>
 SV.cB v469 fun y472 =>
 uncK y470 fun v473 y474 =>
 SV.cL v473 fun y481 =>
 uncK y474 fun v482 y483 =>
 SV.cL v482 fun y490 =>
 uncK y483 fun v491 y492 =>
 SV.cL v491 fun y499 =>
 D 44 [(AV.one (V1.agg [(SV.str y391), (SV.int IntKind.i64 x397), (SV.int IntKind.i64 x403), (SV.sl y412), (SV.sl y421), (SV.bool y425)])), (AV.one (V1.agg [(SV.int IntKind.i64 x432), (SV.int IntKind.i64 x438), (SV.int IntKind.i64 x444), (SV.int IntKind.i64 x450), (SV.int IntKind.i64 x456), (SV.int IntKind.i64 x462), (SV.int IntKind.i64 x468), (SV.bool y472), (SV.sl y481), (SV.sl y490), (SV.sl y499)]))] S381 fun v500 S501 =>
 scK v500 fun v503 =>
 SV.cB v503 fun y504 =>
 let c505 : Bool := (Bool.not y504);
 ifK c505
 (J 14 [(AV.one (V1.s (SV.ptr p1))), (AV.one (V1.s (SV.ptr p4))), (AV.one (V1.s (SV.sl l34))), (AV.one (V1.s (SV.int IntKind.i64 x35))), (AV.one (V1.s (SV.int IntKind.i64 x36))), (AV.one (V1.s (SV.sl l41))), (AV.one (V1.s (SV.int IntKind.i64 x42))), (AV.one (V1.s (SV.int IntKind.i64 x43))), (AV.one (V1.s (SV.bool Bool.true)))] S501 K)
 (St.at S501 (Bk.new (St.next S)) 0 fun y506 =>
 uncK y506 fun v507 y508 =>
 SV.cI IntKind.i64 v507 fun x512 =>
 uncK y508 fun v513 y514 =>
 SV.cI IntKind.i64 v513 fun x518 =>
 uncK y514 fun v519 y520 =>
 SV.cI IntKind.i64 v519 fun x524 =>
 uncK y520 fun v525 y526 =>
 SV.cI IntKind.i64 v525 fun x530 =>
 uncK y526 fun v531 y532 =>
 SV.cI IntKind.i64 v531 fun x536 =>
 uncK y532 fun v537 y538 =>
 SV.cI IntKind.i64 v537 fun x542 =>
 uncK y538 fun v543 y544 =>
 SV.cI IntKind.i64 v543 fun x548 =>
 uncK y544 fun v549 y550 =>
 SV.cB v549 fun y552 =>
 uncK y550 fun v553 y554 =>
 SV.cL v553 fun y561 =>
 uncK y554 fun v562 y563 =>
 SV.cL v562 fun y570 =>
 uncK y563 fun v571 y572 =>
 SV.cL v571 fun y579 =>
 PV.cs p4 fun b580 n581 =>
 let n582 : Nat := (n581 + 0);
 St.at S501 b580 n582 fun y583 =>
 uncK y583 fun v584 y585 =>
 SV.cL v584 fun y592 =>
 let x593 : Int := (Int.ofNat (LV.len y592));
 let x594 : Int := (iwrap IntKind.i64 (x593 - (1 : Int)));
 let c595 : Bool := (ieq x43 x594);
 D 45 [(AV.one (V1.agg [(SV.int IntKind.i64 x512), (SV.int IntKind.i64 x518), (SV.int IntKind.i64 x524), (SV.int IntKind.i64 x530), (SV.int IntKind.i64 x536), (SV.int IntKind.i64 x542), (SV.int IntKind.i64 x548), (SV.bool y552), (SV.sl y561), (SV.sl y570), (SV.sl y579)]))] S501 fun v596 S597 =>
 scK v596 fun v599 =>
 SV.cB v599 fun y600 =>
 req (sameAV (AV.one (V1.s (SV.int IntKind.i64 (Int.ofNat (LV.len y592))))) (AV.one (V1.s (SV.int IntKind.i64 x593)))) <|
 St.at S597 b580 n582 fun y601 =>
 uncK y601 fun v602 y603 =>
 SV.cL v602 fun y610 =>
 req (sameAV (AV.one (V1.s (SV.sl y610))) (AV.one (V1.s (SV.sl y592)))) <|
 let c611 : Bool := (Bool.not (BEq.beq y600 c595));
 J 14 [(AV.one (V1.s (SV.ptr p1))), (AV.one (V1.s (SV.ptr p4))), (AV.one (V1.s (SV.sl l34))), (AV.one (V1.s (SV.int IntKind.i64 x35))), (AV.one (V1.s (SV.int IntKind.i64 x36))), (AV.one (V1.s (SV.sl l41))), (AV.one (V1.s (SV.int IntKind.i64 x42))), (AV.one (V1.s (SV.int IntKind.i64 x43))), (AV.one (V1.s (SV.bool c611)))] S597 K))
 (PV.cs p4 fun b803 n804 =>
 let n805 : Nat := (n804 + 0);
 St.at S b803 n805 fun y806 =>
 uncK y806 fun v807 y808 =>
 SV.cL v807 fun y815 =>
 let x816 : Int := (Int.ofNat (LV.len y815));
 let c817 : Bool := (ieq x816 (0 : Int));
 ifK c817
 (K ((AV.one (V1.s (SV.bool Bool.false)))) S)
 (let x818 : Int := (iwrap IntKind.i64 (x36 + (1 : Int)));
 J 6 [(AV.one (V1.s (SV.ptr p1))), (AV.one (V1.s (SV.sl l34))), (AV.one (V1.s (SV.int IntKind.i64 x35))), (AV.one (V1.s (SV.int IntKind.i64 x818)))] S K))
noncomputable def X39_10 : X := (.op (.br (.op (.op (.jmp 14 [1, 4, 34, 35, 36, 41, 42, 43, 62]))) (.op (.br (.op .ret) (.op (.jmp 6 [1, 34, 35, 36]))))))
theorem F39_10_eq (D J : Disp) (p1 : PV) (p4 : PV) (l34 : LV) (x35 : Int) (x36 : Int) (l41 : LV) (x42 : Int) (x43 : Int) (S : St) (K : AV → St → Prop) : F39_10 D J p1 p4 l34 x35 x36 l41 x42 x43 S K = execK GraphP GraphG Go.Proofs.Try.f39 (typed GraphP D) J plans39 X39_10 (T39 10).1 (envOf (T39 10).2 [(AV.one (V1.s (SV.ptr p1))), (AV.one (V1.s (SV.ptr p4))), (AV.one (V1.s (SV.sl l34))), (AV.one (V1.s (SV.int IntKind.i64 x35))), (AV.one (V1.s (SV.int IntKind.i64 x36))), (AV.one (V1.s (SV.sl l41))), (AV.one (V1.s (SV.int IntKind.i64 x42))), (AV.one (V1.s (SV.int IntKind.i64 x43)))]) S K := by kernel_rfl
noncomputable def F39_14 (D J : Disp) (p1 : PV) (p4 : PV) (l34 : LV) (x35 : Int) (x36 : Int) (l41 : LV) (x42 : Int) (x43 : Int) (c62 : Bool) (S : St) (K : AV → St → Prop) : Prop :=
 ifK c62
 (K ((AV.one (V1.s (SV.bool Bool.false)))) S)
 (let x300 : Int := (iwrap IntKind.i64 (x43 + (1 : Int)));
 J 10 [(AV.one (V1.s (SV.ptr p1))), (AV.one (V1.s (SV.ptr p4))), (AV.one (V1.s (SV.sl l34))), (AV.one (V1.s (SV.int IntKind.i64 x35))), (AV.one (V1.s (SV.int IntKind.i64 x36))), (AV.one (V1.s (SV.sl l41))), (AV.one (V1.s (SV.int IntKind.i64 x42))), (AV.one (V1.s (SV.int IntKind.i64 x300)))] S K)
noncomputable def X39_14 : X := (.br (.op .ret) (.op (.jmp 10 [1, 4, 34, 35, 36, 41, 42, 43])))
theorem F39_14_eq (D J : Disp) (p1 : PV) (p4 : PV) (l34 : LV) (x35 : Int) (x36 : Int) (l41 : LV) (x42 : Int) (x43 : Int) (c62 : Bool) (S : St) (K : AV → St → Prop) : F39_14 D J p1 p4 l34 x35 x36 l41 x42 x43 c62 S K = execK GraphP GraphG Go.Proofs.Try.f39 (typed GraphP D) J plans39 X39_14 (T39 14).1 (envOf (T39 14).2 [(AV.one (V1.s (SV.ptr p1))), (AV.one (V1.s (SV.ptr p4))), (AV.one (V1.s (SV.sl l34))), (AV.one (V1.s (SV.int IntKind.i64 x35))), (AV.one (V1.s (SV.int IntKind.i64 x36))), (AV.one (V1.s (SV.sl l41))), (AV.one (V1.s (SV.int IntKind.i64 x42))), (AV.one (V1.s (SV.int IntKind.i64 x43))), (AV.one (V1.s (SV.bool c62)))]) S K := by kernel_rfl
noncomputable abbrev A39_0 (D J : Disp) (vals : List AV) (S : St) (K : AV → St → Prop) : Prop :=
  uncA vals fun a9001 r9002 => avA a9001 fun l9004 => uncK l9004 fun s9006 r9007 => SV.cS s9006 fun s0_0 => uncK r9007 fun s9010 r9011 => SV.cI IntKind.i64 s9010 fun x0_1 => uncK r9011 fun s9014 r9015 => SV.cI IntKind.i64 s9014 fun x0_2 => uncK r9015 fun s9018 r9019 => SV.cL s9018 fun l0_3 => uncK r9019 fun s9022 r9023 => SV.cL s9022 fun l0_4 => uncK r9023 fun s9026 r9027 => SV.cB s9026 fun c0_5 => endL r9027 <| endL r9002 <| F39_0 D J s0_0 x0_1 x0_2 l0_3 l0_4 c0_5 S K
theorem A39_0_ok {D J : Disp} (hD : DOK GraphP GraphG D) (hJ : JOK GraphP GraphG Go.Proofs.Try.f39 T39 J) {vals : List AV} {S : St} {K : AV → St → Prop} (h0 : A39_0 D J vals S K) : Runs GraphP GraphG Go.Proofs.Try.f39 (T39 0).1 (envOf (T39 0).2 vals) S K := by
  obtain ⟨a9001, r9002, rfl, h3⟩ := uncA_some h0
  obtain ⟨l9004, rfl, h5⟩ := avA_some h3
  obtain ⟨s9006, r9007, rfl, h8⟩ := uncK_some h5
  obtain ⟨s0_0, rfl, h9⟩ := cS_some h8
  obtain ⟨s9010, r9011, rfl, h12⟩ := uncK_some h9
  obtain ⟨x0_1, rfl, h13⟩ := cI_some h12
  obtain ⟨s9014, r9015, rfl, h16⟩ := uncK_some h13
  obtain ⟨x0_2, rfl, h17⟩ := cI_some h16
  obtain ⟨s9018, r9019, rfl, h20⟩ := uncK_some h17
  obtain ⟨l0_3, rfl, h21⟩ := cL_some h20
  obtain ⟨s9022, r9023, rfl, h24⟩ := uncK_some h21
  obtain ⟨l0_4, rfl, h25⟩ := cL_some h24
  obtain ⟨s9026, r9027, rfl, h28⟩ := uncK_some h25
  obtain ⟨c0_5, rfl, h29⟩ := cB_some h28
  obtain ⟨rfl, h30⟩ := endL_some h29
  obtain ⟨rfl, h31⟩ := endL_some h30
  rw [F39_0_eq] at h31
  exact execK_runs hD.typed Graph_zero Graph_mixed hJ X39_0 (T39 0).1 (envOf (T39 0).2 _) S K (chk_of (by kernel_rfl) (by kernel_rfl)) h31
noncomputable abbrev A39_2 (D J : Disp) (vals : List AV) (S : St) (K : AV → St → Prop) : Prop :=
  uncA vals fun a9001 r9002 => scK a9001 fun s9004 => SV.cP s9004 fun p1 => uncA r9002 fun a9007 r9008 => scK a9007 fun s9010 => SV.cB s9010 fun c32 => endL r9008 <| F39_2 D J p1 c32 S K
theorem A39_2_ok {D J : Disp} (hD : DOK GraphP GraphG D) (hJ : JOK GraphP GraphG Go.Proofs.Try.f39 T39 J) {vals : List AV} {S : St} {K : AV → St → Prop} (h0 : A39_2 D J vals S K) : Runs GraphP GraphG Go.Proofs.Try.f39 (T39 2).1 (envOf (T39 2).2 vals) S K := by
  obtain ⟨a9001, r9002, rfl, h3⟩ := uncA_some h0
  obtain ⟨s9004, rfl, h5⟩ := scK_some h3
  obtain ⟨p1, rfl, h6⟩ := cP_some h5
  obtain ⟨a9007, r9008, rfl, h9⟩ := uncA_some h6
  obtain ⟨s9010, rfl, h11⟩ := scK_some h9
  obtain ⟨c32, rfl, h12⟩ := cB_some h11
  obtain ⟨rfl, h13⟩ := endL_some h12
  rw [F39_2_eq] at h13
  exact execK_runs hD.typed Graph_zero Graph_mixed hJ X39_2 (T39 2).1 (envOf (T39 2).2 _) S K (chk_of (by kernel_rfl) (by kernel_rfl)) h13
noncomputable abbrev A39_6 (D J : Disp) (vals : List AV) (S : St) (K : AV → St → Prop) : Prop :=
  uncA vals fun a9001 r9002 => scK a9001 fun s9004 => SV.cP s9004 fun p1 => uncA r9002 fun a9007 r9008 => scK a9007 fun s9010 => SV.cL s9010 fun l34 => uncA r9008 fun a9013 r9014 => scK a9013 fun s9016 => SV.cI IntKind.i64 s9016 fun x35 => uncA r9014 fun a9019 r9020 => scK a9019 fun s9022 => SV.cI IntKind.i64 s9022 fun x36 => endL r9020 <| F39_6 D J p1 l34 x35 x36 S K
theorem A39_6_ok {D J : Disp} (hD : DOK GraphP GraphG D) (hJ : JOK GraphP GraphG Go.Proofs.Try.f39 T39 J) {vals : List AV} {S : St} {K : AV → St → Prop} (h0 : A39_6 D J vals S K) : Runs GraphP GraphG Go.Proofs.Try.f39 (T39 6).1 (envOf (T39 6).2 vals) S K := by
  obtain ⟨a9001, r9002, rfl, h3⟩ := uncA_some h0
  obtain ⟨s9004, rfl, h5⟩ := scK_some h3
  obtain ⟨p1, rfl, h6⟩ := cP_some h5
  obtain ⟨a9007, r9008, rfl, h9⟩ := uncA_some h6
  obtain ⟨s9010, rfl, h11⟩ := scK_some h9
  obtain ⟨l34, rfl, h12⟩ := cL_some h11
  obtain ⟨a9013, r9014, rfl, h15⟩ := uncA_some h12
  obtain ⟨s9016, rfl, h17⟩ := scK_some h15
  obtain ⟨x35, rfl, h18⟩ := cI_some h17
  obtain ⟨a9019, r9020, rfl, h21⟩ := uncA_some h18
  obtain ⟨s9022, rfl, h23⟩ := scK_some h21
  obtain ⟨x36, rfl, h24⟩ := cI_some h23
  obtain ⟨rfl, h25⟩ := endL_some h24
  rw [F39_6_eq] at h25
  exact execK_runs hD.typed Graph_zero Graph_mixed hJ X39_6 (T39 6).1 (envOf (T39 6).2 _) S K (chk_of (by kernel_rfl) (by kernel_rfl)) h25
noncomputable abbrev A39_10 (D J : Disp) (vals : List AV) (S : St) (K : AV → St → Prop) : Prop :=
  uncA vals fun a9001 r9002 => scK a9001 fun s9004 => SV.cP s9004 fun p1 => uncA r9002 fun a9007 r9008 => scK a9007 fun s9010 => SV.cP s9010 fun p4 => uncA r9008 fun a9013 r9014 => scK a9013 fun s9016 => SV.cL s9016 fun l34 => uncA r9014 fun a9019 r9020 => scK a9019 fun s9022 => SV.cI IntKind.i64 s9022 fun x35 => uncA r9020 fun a9025 r9026 => scK a9025 fun s9028 => SV.cI IntKind.i64 s9028 fun x36 => uncA r9026 fun a9031 r9032 => scK a9031 fun s9034 => SV.cL s9034 fun l41 => uncA r9032 fun a9037 r9038 => scK a9037 fun s9040 => SV.cI IntKind.i64 s9040 fun x42 => uncA r9038 fun a9043 r9044 => scK a9043 fun s9046 => SV.cI IntKind.i64 s9046 fun x43 => endL r9044 <| F39_10 D J p1 p4 l34 x35 x36 l41 x42 x43 S K
theorem A39_10_ok {D J : Disp} (hD : DOK GraphP GraphG D) (hJ : JOK GraphP GraphG Go.Proofs.Try.f39 T39 J) {vals : List AV} {S : St} {K : AV → St → Prop} (h0 : A39_10 D J vals S K) : Runs GraphP GraphG Go.Proofs.Try.f39 (T39 10).1 (envOf (T39 10).2 vals) S K := by
  obtain ⟨a9001, r9002, rfl, h3⟩ := uncA_some h0
  obtain ⟨s9004, rfl, h5⟩ := scK_some h3
  obtain ⟨p1, rfl, h6⟩ := cP_some h5
  obtain ⟨a9007, r9008, rfl, h9⟩ := uncA_some h6
  obtain ⟨s9010, rfl, h11⟩ := scK_some h9
  obtain ⟨p4, rfl, h12⟩ := cP_some h11
  obtain ⟨a9013, r9014, rfl, h15⟩ := uncA_some h12
  obtain ⟨s9016, rfl, h17⟩ := scK_some h15
  obtain ⟨l34, rfl, h18⟩ := cL_some h17
  obtain ⟨a9019, r9020, rfl, h21⟩ := uncA_some h18
  obtain ⟨s9022, rfl, h23⟩ := scK_some h21
  obtain ⟨x35, rfl, h24⟩ := cI_some h23
  obtain ⟨a9025, r9026, rfl, h27⟩ := uncA_some h24
  obtain ⟨s9028, rfl, h29⟩ := scK_some h27
  obtain ⟨x36, rfl, h30⟩ := cI_some h29
  obtain ⟨a9031, r9032, rfl, h33⟩ := uncA_some h30
  obtain ⟨s9034, rfl, h35⟩ := scK_some h33
  obtain ⟨l41, rfl, h36⟩ := cL_some h35
  obtain ⟨a9037, r9038, rfl, h39⟩ := uncA_some h36
  obtain ⟨s9040, rfl, h41⟩ := scK_some h39
  obtain ⟨x42, rfl, h42⟩ := cI_some h41
  obtain ⟨a9043, r9044, rfl, h45⟩ := uncA_some h42
  obtain ⟨s9046, rfl, h47⟩ := scK_some h45
  obtain ⟨x43, rfl, h48⟩ := cI_some h47
  obtain ⟨rfl, h49⟩ := endL_some h48
  rw [F39_10_eq] at h49
  exact execK_runs hD.typed Graph_zero Graph_mixed hJ X39_10 (T39 10).1 (envOf (T39 10).2 _) S K (chk_of (by kernel_rfl) (by kernel_rfl)) h49
noncomputable abbrev A39_14 (D J : Disp) (vals : List AV) (S : St) (K : AV → St → Prop) : Prop :=
  uncA vals fun a9001 r9002 => scK a9001 fun s9004 => SV.cP s9004 fun p1 => uncA r9002 fun a9007 r9008 => scK a9007 fun s9010 => SV.cP s9010 fun p4 => uncA r9008 fun a9013 r9014 => scK a9013 fun s9016 => SV.cL s9016 fun l34 => uncA r9014 fun a9019 r9020 => scK a9019 fun s9022 => SV.cI IntKind.i64 s9022 fun x35 => uncA r9020 fun a9025 r9026 => scK a9025 fun s9028 => SV.cI IntKind.i64 s9028 fun x36 => uncA r9026 fun a9031 r9032 => scK a9031 fun s9034 => SV.cL s9034 fun l41 => uncA r9032 fun a9037 r9038 => scK a9037 fun s9040 => SV.cI IntKind.i64 s9040 fun x42 => uncA r9038 fun a9043 r9044 => scK a9043 fun s9046 => SV.cI IntKind.i64 s9046 fun x43 => uncA r9044 fun a9049 r9050 => scK a9049 fun s9052 => SV.cB s9052 fun c62 => endL r9050 <| F39_14 D J p1 p4 l34 x35 x36 l41 x42 x43 c62 S K
theorem A39_14_ok {D J : Disp} (hD : DOK GraphP GraphG D) (hJ : JOK GraphP GraphG Go.Proofs.Try.f39 T39 J) {vals : List AV} {S : St} {K : AV → St → Prop} (h0 : A39_14 D J vals S K) : Runs GraphP GraphG Go.Proofs.Try.f39 (T39 14).1 (envOf (T39 14).2 vals) S K := by
  obtain ⟨a9001, r9002, rfl, h3⟩ := uncA_some h0
  obtain ⟨s9004, rfl, h5⟩ := scK_some h3
  obtain ⟨p1, rfl, h6⟩ := cP_some h5
  obtain ⟨a9007, r9008, rfl, h9⟩ := uncA_some h6
  obtain ⟨s9010, rfl, h11⟩ := scK_some h9
  obtain ⟨p4, rfl, h12⟩ := cP_some h11
  obtain ⟨a9013, r9014, rfl, h15⟩ := uncA_some h12
  obtain ⟨s9016, rfl, h17⟩ := scK_some h15
  obtain ⟨l34, rfl, h18⟩ := cL_some h17
  obtain ⟨a9019, r9020, rfl, h21⟩ := uncA_some h18
  obtain ⟨s9022, rfl, h23⟩ := scK_some h21
  obtain ⟨x35, rfl, h24⟩ := cI_some h23
  obtain ⟨a9025, r9026, rfl, h27⟩ := uncA_some h24
  obtain ⟨s9028, rfl, h29⟩ := scK_some h27
  obtain ⟨x36, rfl, h30⟩ := cI_some h29
  obtain ⟨a9031, r9032, rfl, h33⟩ := uncA_some h30
  obtain ⟨s9034, rfl, h35⟩ := scK_some h33
  obtain ⟨l41, rfl, h36⟩ := cL_some h35
  obtain ⟨a9037, r9038, rfl, h39⟩ := uncA_some h36
  obtain ⟨s9040, rfl, h41⟩ := scK_some h39
  obtain ⟨x42, rfl, h42⟩ := cI_some h41
  obtain ⟨a9043, r9044, rfl, h45⟩ := uncA_some h42
  obtain ⟨s9046, rfl, h47⟩ := scK_some h45
  obtain ⟨x43, rfl, h48⟩ := cI_some h47
  obtain ⟨a9049, r9050, rfl, h51⟩ := uncA_some h48
  obtain ⟨s9052, rfl, h53⟩ := scK_some h51
  obtain ⟨c62, rfl, h54⟩ := cB_some h53
  obtain ⟨rfl, h55⟩ := endL_some h54
  rw [F39_14_eq] at h55
  exact execK_runs hD.typed Graph_zero Graph_mixed hJ X39_14 (T39 14).1 (envOf (T39 14).2 _) S K (chk_of (by kernel_rfl) (by kernel_rfl)) h55
noncomputable def J39 (D : Disp) (k : Nat) : Disp := Nat.rec (motive := fun _ => Disp) Disp.no (fun _ ih => Disp.add 0 (A39_0 D ih) <| Disp.add 2 (A39_2 D ih) <| Disp.add 6 (A39_6 D ih) <| Disp.add 10 (A39_10 D ih) <| Disp.add 14 (A39_14 D ih) <| Disp.no) k
theorem J39_ok {D : Disp} (hD : DOK GraphP GraphG D) : ∀ k, JOK GraphP GraphG Go.Proofs.Try.f39 T39 (J39 D k)
  | 0 => JOK.no
  | k + 1 => JOK.add (ltB_ok (by kernel_rfl)) (fun vals S K h => A39_0_ok hD (J39_ok hD k) h) <| JOK.add (ltB_ok (by kernel_rfl)) (fun vals S K h => A39_2_ok hD (J39_ok hD k) h) <| JOK.add (ltB_ok (by kernel_rfl)) (fun vals S K h => A39_6_ok hD (J39_ok hD k) h) <| JOK.add (ltB_ok (by kernel_rfl)) (fun vals S K h => A39_10_ok hD (J39_ok hD k) h) <| JOK.add (ltB_ok (by kernel_rfl)) (fun vals S K h => A39_14_ok hD (J39_ok hD k) h) <| JOK.no
theorem E39_ok {D : Disp} (hD : DOK GraphP GraphG D) (k : Nat) {args : List AV} {S : St} {K : AV → St → Prop} (h : A39_0 D (J39 D k) args S K) : CallOK GraphP GraphG 39 args S K := by
  have hr := A39_0_ok hD (J39_ok hD k) h
  have hl : args.length = 1 := by
    have h0 := h
    obtain ⟨a9001, r9002, rfl, h3⟩ := uncA_some h0
    obtain ⟨l9004, rfl, h5⟩ := avA_some h3
    obtain ⟨s9006, r9007, rfl, h8⟩ := uncK_some h5
    obtain ⟨s0_0, rfl, h9⟩ := cS_some h8
    obtain ⟨s9010, r9011, rfl, h12⟩ := uncK_some h9
    obtain ⟨x0_1, rfl, h13⟩ := cI_some h12
    obtain ⟨s9014, r9015, rfl, h16⟩ := uncK_some h13
    obtain ⟨x0_2, rfl, h17⟩ := cI_some h16
    obtain ⟨s9018, r9019, rfl, h20⟩ := uncK_some h17
    obtain ⟨l0_3, rfl, h21⟩ := cL_some h20
    obtain ⟨s9022, r9023, rfl, h24⟩ := uncK_some h21
    obtain ⟨l0_4, rfl, h25⟩ := cL_some h24
    obtain ⟨s9026, r9027, rfl, h28⟩ := uncK_some h25
    obtain ⟨c0_5, rfl, h29⟩ := cB_some h28
    obtain ⟨rfl, h30⟩ := endL_some h29
    obtain ⟨rfl, h31⟩ := endL_some h30
    rfl
  refine callOK_of (fn := Go.Proofs.Try.f39) (c := (match Go.Proofs.Try.f39.body with | some c => c | none => .skip)) (by kernel_rfl) (by kernel_rfl) (by kernel_rfl) (by rw [hl]; kernel_rfl) (by kernel_rfl) ?_
  rw [hl]
  exact hr
noncomputable def plans40 (i : Nat) : Plan := []
noncomputable def T40 (p : Nat) : List Item × List Nat := bif Nat.beq p 0 then ([.code (match Go.Proofs.Try.f40.body with | some c => c | none => .skip)], [0, 1, 2]) else
  bif Nat.beq p 14 then (navs [.op, .op, .op, .el, .op, .el, .op, .el, .op, .th] [.code (match Go.Proofs.Try.f40.body with | some c => c | none => .skip)], [3, 4, 5, 8, 48]) else
  bif Nat.beq p 18 then (navs [.op, .op, .op, .el, .op, .el, .op, .el, .op, .th, .el, .op, .th] [.code (match Go.Proofs.Try.f40.body with | some c => c | none => .skip)], [4, 5, 8, 55]) else
  bif Nat.beq p 25 then (navs [.op, .op, .op, .el, .op, .el, .op, .el, .op, .th, .el, .op, .th, .el, .op, .el, .op, .th] [.code (match Go.Proofs.Try.f40.body with | some c => c | none => .skip)], [4, 5, 8, 72]) else
  ([], [])
noncomputable def F40_0 (D J : Disp) (l0_0 : LV) (l0_1 : LV) (x0_2 : Int) (s1_0 : (List Nat)) (x1_1 : Int) (x1_2 : Int) (l1_3 : LV) (l1_4 : LV) (c1_5 : Bool) (x2_0 : Int) (x2_1 : Int) (x2_2 : Int) (x2_3 : Int) (x2_4 : Int) (x2_5 : Int) (x2_6 : Int) (c2_7 : Bool) (l2_8 : LV) (l2_9 : LV) (l2_10 : LV) (S : St) (K : AV → St → Prop) : Prop :=
 let S300 : St := (St.add S (AO.cells [(SV.sl l0_0), (SV.sl l0_1), (SV.int IntKind.i64 x0_2)] Bool.false));
 let S301 : St := (St.add S300 (AO.cells [(SV.str s1_0), (SV.int IntKind.i64 x1_1), (SV.int IntKind.i64 x1_2), (SV.sl l1_3), (SV.sl l1_4), (SV.bool c1_5)] Bool.false));
 let S302 : St := (St.add S301 (AO.cells [(SV.int IntKind.i64 x2_0), (SV.int IntKind.i64 x2_1), (SV.int IntKind.i64 x2_2), (SV.int IntKind.i64 x2_3), (SV.int IntKind.i64 x2_4), (SV.int IntKind.i64 x2_5), (SV.int IntKind.i64 x2_6), (SV.bool c2_7), (SV.sl l2_8), (SV.sl l2_9), (SV.sl l2_10)] Bool.false));
 St.at S302 (Bk.new (St.next S301)) 0 fun y303 =>
 uncK y303 fun v304 y305 =>
 SV.cI IntKind.i64 v304 fun x309 =>
 let c310 : Bool := (ieq x309 (7 : Int));
 ifK c310
 (St.at S302 (Bk.new (St.next S301)) 5 fun y311 =>
 uncK y311 fun v312 y313 =>
 SV.cI IntKind.i64 v312 fun x317 =>
 let c318 : Bool := (ile (0 : Int) x317);
 ifK c318
 (St.at S302 (Bk.new (St.next S301)) 5 fun y319 =>
 uncK y319 fun v320 y321 =>
 SV.cI IntKind.i64 v320 fun x325 =>
 St.at S302 (Bk.new (St.next S300)) 3 fun y326 =>
 uncK y326 fun v327 y328 =>
 SV.cL v327 fun y335 =>
 let x336 : Int := (Int.ofNat (LV.len y335));
 let c337 : Bool := (ilt x325 x336);
 K ((AV.one (V1.s (SV.bool c337)))) S302)
 (K ((AV.one (V1.s (SV.bool Bool.false)))) S302))
 (let c350 : Bool := (ieq x309 (8 : Int));
 ifK c350
 (St.at S302 (Bk.new (St.next S301)) 5 fun y351 =>
 uncK y351 fun v352 y353 =>
 SV.cI IntKind.i64 v352 fun x357 =>
 let c358 : Bool := (ile (0 : Int) x357);
 ifK c358
 (St.at S302 (Bk.new (St.next S301)) 5 fun y359 =>
 uncK y359 fun v360 y361 =>
 SV.cI IntKind.i64 v360 fun x365 =>
 St.at S302 (Bk.new (St.next S)) 0 fun y366 =>
 uncK y366 fun v367 y368 =>
 SV.cL v367 fun y375 =>
 let x376 : Int := (Int.ofNat (LV.len y375));
 let c377 : Bool := (ilt x365 x376);
 K ((AV.one (V1.s (SV.bool c377)))) S302)
 (K ((AV.one (V1.s (SV.bool Bool.false)))) S302))
 (let c390 : Bool := (ieq x309 (9 : Int));
 ifK c390
 (St.at S302 (Bk.new (St.next S301)) 5 fun y391 =>
 uncK y391 fun v392 y393 =>
 SV.cI IntKind.i64 v392 fun x397 =>
 let c398 : Bool := (ile (0 : Int) x397);
 ifK c398
 (St.at S302 (Bk.new (St.next S301)) 5 fun y399 =>
 uncK y399 fun v400 y401 =>
 SV.cI IntKind.i64 v400 fun x405 =>
 St.at S302 (Bk.new (St.next S)) 1 fun y406 =>
 uncK y406 fun v407 y408 =>
 SV.cL v407 fun y415 =>
 let x416 : Int := (Int.ofNat (LV.len y415));
 let c417 : Bool := (ilt x405 x416);
 K ((AV.one (V1.s (SV.bool c417)))) S302)
 (K ((AV.one (V1.s (SV.bool Bool.false)))) S302))
 (let c430 : Bool := (ieq x309 (10 : Int));
 ifK c430
 (J 14 [(AV.one (V1.s (SV.ptr (PV.mk (Bk.new (St.next S)) 0)))), (AV.one (V1.s (SV.ptr (PV.mk (Bk.new (St.next S300)) 0)))), (AV.one (V1.s (SV.ptr (PV.mk (Bk.new (St.next S301)) 0)))), (AV.one (V1.s (SV.int IntKind.i64 x309))), (AV.one (V1.s (SV.bool c430)))] S302 K)
 (let c431 : Bool := (ieq x309 (19 : Int));
 J 14 [(AV.one (V1.s (SV.ptr (PV.mk (Bk.new (St.next S)) 0)))), (AV.one (V1.s (SV.ptr (PV.mk (Bk.new (St.next S300)) 0)))), (AV.one (V1.s (SV.ptr (PV.mk (Bk.new (St.next S301)) 0)))), (AV.one (V1.s (SV.int IntKind.i64 x309))), (AV.one (V1.s (SV.bool c431)))] S302 K))))
noncomputable def X40_0 : X := (.op (.op (.op (.br (.op .ret) (.op (.br (.op .ret) (.op (.br (.op .ret) (.op (.br (.jmp 14 [3, 4, 5, 8, 48]) (.op (.jmp 14 [3, 4, 5, 8, 48]))))))))))))
theorem F40_0_eq (D J : Disp) (l0_0 : LV) (l0_1 : LV) (x0_2 : Int) (s1_0 : (List Nat)) (x1_1 : Int) (x1_2 : Int) (l1_3 : LV) (l1_4 : LV) (c1_5 : Bool) (x2_0 : Int) (x2_1 : Int) (x2_2 : Int) (x2_3 : Int) (x2_4 : Int) (x2_5 : Int) (x2_6 : Int) (c2_7 : Bool) (l2_8 : LV) (l2_9 : LV) (l2_10 : LV) (S : St) (K : AV → St → Prop) : F40_0 D J l0_0 l0_1 x0_2 s1_0 x1_1 x1_2 l1_3 l1_4 c1_5 x2_0 x2_1 x2_2 x2_3 x2_4 x2_5 x2_6 c2_7 l2_8 l2_9 l2_10 S K = execK GraphP GraphG Go.Proofs.Try.f40 (typed GraphP D) J plans40 X40_0 (T40 0).1 (envOf (T40 0).2 [(AV.one (V1.agg [(SV.sl l0_0), (SV.sl l0_1), (SV.int IntKind.i64 x0_2)])), (AV.one (V1.agg [(SV.str s1_0), (SV.int IntKind.i64 x1_1), (SV.int IntKind.i64 x1_2), (SV.sl l1_3), (SV.sl l1_4), (SV.bool c1_5)])), (AV.one (V1.agg [(SV.int IntKind.i64 x2_0), (SV.int IntKind.i64 x2_1), (SV.int IntKind.i64 x2_2), (SV.int IntKind.i64 x2_3), (SV.int IntKind.i64 x2_4), (SV.int IntKind.i64 x2_5), (SV.int IntKind.i64 x2_6), (SV.bool c2_7), (SV.sl l2_8), (SV.sl l2_9), (SV.sl l2_10)]))]) S K := by kernel_rfl
noncomputable def F40_14 (D J : Disp) (p3 : PV) (p4 : PV) (p5 : PV) (x8 : Int) (c48 : Bool) (S : St) (K : AV → St → Prop) : Prop :=
 ifK c48
 (PV.cs p3 fun b300 n301 =>
 St.at S b300 n301 fun y302 =>
 uncK y302 fun v303 y304 =>
 SV.cL v303 fun y311 =>
 uncK y304 fun v312 y313 =>
 SV.cL v312 fun y320 =>
 uncK y313 fun v321 y322 =>
 SV.cI IntKind.i64 v321 fun x326 =>
 PV.cs p4 fun b327 n328 =>
 St.at S b327 n328 fun y329 =>
 uncK y329 fun v330 y331 =>
 SV.cS v330 fun y336 =>
 uncK y331 fun v337 y338 =>
 SV.cI IntKind.i64 v337 fun x342 =>
 uncK y338 fun v343 y344 =>
 SV.cI IntKind.i64 v343 fun x348 =>
 uncK y344 fun v349 y350 =>
 SV.cL v349 fun y357 =>
 uncK y350 fun v358 y359 =>
 SV.cL v358 fun y366 =>
 uncK y359 fun v367 y368 =>
 SV.cB v367 fun y370 =>
 PV.cs p5 fun b371 n372 =>
 St.at S b371 n372 fun y373 =>
 uncK y373 fun v374 y375 =>
 SV.cI IntKind.i64 v374 fun x379 =>
 uncK y375 fun v380 y381 =>
 SV.cI IntKind.i64 v380 fun x385 =>
 uncK y381 fun v386 y387 =>
 SV.cI IntKind.i64 v386 fun x391 =>
 uncK y387 fun v392 y393 =>
 SV.cI IntKind.i64 v392 fun x397 =>
 uncK y393 fun v398 y399 =>
 SV.cI IntKind.i64 v398 fun x403 =>
 uncK y399 fun v404 y405 =>
 SV.cI IntKind.i64 v404 fun x409 =>
 uncK y405 fun v410 y411 =>
 SV.cI IntKind.i64 v410 fun x415 =>
 uncK y411 fun v416 y417 =>
 SV.cB v416 fun y419 =>
 uncK y417 fun v420 y421 =>
 SV.cL v420 fun y428 =>
 uncK y421 fun v429 y430 =>
 SV.cL v429 fun y437 =>
 uncK y430 fun v438 y439 =>
 SV.cL v438 fun y446 =>
 D 46 [(AV.one (V1.agg [(SV.sl y311), (SV.sl y320), (SV.int IntKind.i64 x326)])), (AV.one (V1.agg [(SV.str y336), (SV.int IntKind.i64 x342), (SV.int IntKind.i64 x348), (SV.sl y357), (SV.sl y366), (SV.bool y370)])), (AV.one (V1.agg [(SV.int IntKind.i64 x379), (SV.int IntKind.i64 x385), (SV.int IntKind.i64 x391), (SV.int IntKind.i64 x397), (SV.int IntKind.i64 x403), (SV.int IntKind.i64 x409), (SV.int IntKind.i64 x415), (SV.bool y419), (SV.sl y428), (SV.sl y437), (SV.sl y446)]))] S fun v447 S448 =>
 scK v447 fun v450 =>
 SV.cB v450 fun y451 =>
 K ((AV.one (V1.s (SV.bool y451)))) S448)
 (let c543 : Bool := (ieq x8 (11 : Int));
 ifK c543
 (J 18 [(AV.one (V1.s (SV.ptr p4))), (AV.one (V1.s (SV.ptr p5))), (AV.one (V1.s (SV.int IntKind.i64 x8))), (AV.one (V1.s (SV.bool c543)))] S K)
 (let c544 : Bool := (ieq x8 (20 : Int));
 J 18 [(AV.one (V1.s (SV.ptr p4))), (AV.one (V1.s (SV.ptr p5))), (AV.one (V1.s (SV.int IntKind.i64 x8))), (AV.one (V1.s (SV.bool c544)))] S K))
noncomputable def X40_14 : X := (.br (.op .ret) (.op (.br (.jmp 18 [4, 5, 8, 55]) (.op (.jmp 18 [4, 5, 8, 55])))))
theorem F40_14_eq (D J : Disp) (p3 : PV) (p4 : PV) (p5 : PV) (x8 : Int) (c48 : Bool) (S : St) (K : AV → St → Prop) : F40_14 D J p3 p4 p5 x8 c48 S K = execK GraphP GraphG Go.Proofs.Try.f40 (typed GraphP D) J plans40 X40_14 (T40 14).1 (envOf (T40 14).2 [(AV.one (V1.s (SV.ptr p3))), (AV.one (V1.s (SV.ptr p4))), (AV.one (V1.s (SV.ptr p5))), (AV.one (V1.s (SV.int IntKind.i64 x8))), (AV.one (V1.s (SV.bool c48)))]) S K := by kernel_rfl
noncomputable def F40_18 (D J : Disp) (p4 : PV) (p5 : PV) (x8 : Int) (c55 : Bool) (S : St) (K : AV → St → Prop) : Prop :=
 ifK c55
 (PV.cs p5 fun b300 n301 =>
 let n302 : Nat := (n301 + 8);
 St.at S b300 n302 fun y303 =>
 uncK y303 fun v304 y305 =>
 SV.cL v304 fun y312 =>
 let x313 : Int := (Int.ofNat (LV.len y312));
 let c314 : Bool := (ile x313 (6 : Int));
 K ((AV.one (V1.s (SV.bool c314)))) S)
 (let c317 : Bool := (ieq x8 (3 : Int));
 ifK c317
 (PV.cs p5 fun b318 n319 =>
 let n320 : Nat := (n319 + 1);
 St.at S b318 n320 fun y321 =>
 uncK y321 fun v322 y323 =>
 SV.cI IntKind.i64 v322 fun x327 =>
 let c328 : Bool := (ilt (0 : Int) x327);
 ifK c328
 (PV.cs p5 fun b329 n330 =>
 let n331 : Nat := (n330 + 1);
 St.at S b329 n331 fun y332 =>
 uncK y332 fun v333 y334 =>
 SV.cI IntKind.i64 v333 fun x338 =>
 let c339 : Bool := (ilt x338 (20 : Int));
 K ((AV.one (V1.s (SV.bool c339)))) S)
 (K ((AV.one (V1.s (SV.bool Bool.false)))) S))
 (let c350 : Bool := (ieq x8 (4 : Int));
 ifK c350
 (J 25 [(AV.one (V1.s (SV.ptr p4))), (AV.one (V1.s (SV.ptr p5))), (AV.one (V1.s (SV.int IntKind.i64 x8))), (AV.one (V1.s (SV.bool c350)))] S K)
 (let c351 : Bool := (ieq x8 (5 : Int));
 ifK c351
 (J 25 [(AV.one (V1.s (SV.ptr p4))), (AV.one (V1.s (SV.ptr p5))), (AV.one (V1.s (SV.int IntKind.i64 x8))), (AV.one (V1.s (SV.bool c351)))] S K)
 (let c352 : Bool := (ieq x8 (6 : Int));
 J 25 [(AV.one (V1.s (SV.ptr p4))), (AV.one (V1.s (SV.ptr p5))), (AV.one (V1.s (SV.int IntKind.i64 x8))), (AV.one (V1.s (SV.bool c352)))] S K))))
noncomputable def X40_18 : X := (.br (.op .ret) (.op (.br (.op .ret) (.op (.br (.jmp 25 [4, 5, 8, 72]) (.op (.br (.jmp 25 [4, 5, 8, 72]) (.op (.jmp 25 [4, 5, 8, 72])))))))))
theorem F40_18_eq (D J : Disp) (p4 : PV) (p5 : PV) (x8 : Int) (c55 : Bool) (S : St) (K : AV → St → Prop) : F40_18 D J p4 p5 x8 c55 S K = execK GraphP GraphG Go.Proofs.Try.f40 (typed GraphP D) J plans40 X40_18 (T40 18).1 (envOf (T40 18).2 [(AV.one (V1.s (SV.ptr p4))), (AV.one (V1.s (SV.ptr p5))), (AV.one (V1.s (SV.int IntKind.i64 x8))), (AV.one (V1.s (SV.bool c55)))]) S K := by kernel_rfl
noncomputable def F40_25 (D J : Disp) (p4 : PV) (p5 : PV) (x8 : Int) (c72 : Bool) (S : St) (K : AV → St → Prop) : Prop :=
 ifK c72
 (PV.cs p5 fun b300 n301 =>
 let n302 : Nat := (n301 + 6);
 St.at S b300 n302 fun y303 =>
 uncK y303 fun v304 y305 =>
 SV.cI IntKind.i64 v304 fun x309 =>
 uncK y305 fun v310 y311 =>
 SV.cB v310 fun y313 =>
 D 47 [(AV.one (V1.agg [(SV.int IntKind.i64 x309), (SV.bool y313)]))] S fun v314 S315 =>
 scK v314 fun v317 =>
 SV.cB v317 fun y318 =>
 K ((AV.one (V1.s (SV.bool y318)))) S315)
 (let c340 : Bool := (ieq x8 (17 : Int));
 ifK c340
 (PV.cs p5 fun b341 n342 =>
 let n343 : Nat := (n342 + 3);
 St.at S b341 n343 fun y344 =>
 uncK y344 fun v345 y346 =>
 SV.cI IntKind.i64 v345 fun x350 =>
 let c351 : Bool := (ieq x350 (Int.negSucc 0));
 ifK c351
 (K ((AV.one (V1.s (SV.bool Bool.true)))) S)
 (PV.cs p4 fun b352 n353 =>
 let n354 : Nat := (n353 + 5);
 St.at S b352 n354 fun y355 =>
 uncK y355 fun v356 y357 =>
 SV.cB v356 fun y359 =>
 K ((AV.one (V1.s (SV.bool y359)))) S))
 (PV.cs p5 fun b372 n373 =>
 let n374 : Nat := (n373 + 0);
 St.at S b372 n374 fun y375 =>
 uncK y375 fun v376 y377 =>
 SV.cI IntKind.i64 v376 fun x381 =>
 let c382 : Bool := (ilt (0 : Int) x381);
 ifK c382
 (PV.cs p5 fun b383 n384 =>
 let n385 : Nat := (n384 + 0);
 St.at S b383 n385 fun y386 =>
 uncK y386 fun v387 y388 =>
 SV.cI IntKind.i64 v387 fun x392 =>
 let c393 : Bool := (ilt x392 (22 : Int));
 K ((AV.one (V1.s (SV.bool c393)))) S)
 (K ((AV.one (V1.s (SV.bool Bool.false)))) S)))
noncomputable def X40_25 : X := (.br (.op .ret) (.op (.br (.op .ret) (.op .ret))))
theorem F40_25_eq (D J : Disp) (p4 : PV) (p5 : PV) (x8 : Int) (c72 : Bool) (S : St) (K : AV → St → Prop) : F40_25 D J p4 p5 x8 c72 S K = execK GraphP GraphG Go.Proofs.Try.f40 (typed GraphP D) J plans40 X40_25 (T40 25).1 (envOf (T40 25).2 [(AV.one (V1.s (SV.ptr p4))), (AV.one (V1.s (SV.ptr p5))), (AV.one (V1.s (SV.int IntKind.i64 x8))), (AV.one (V1.s (SV.bool c72)))]) S K := by kernel_rfl
noncomputable abbrev A40_0 (D J : Disp) (vals : List AV) (S : St) (K : AV → St → Prop) : Prop :=
  uncA vals fun a9001 r9002 => avA a9001 fun l9004 => uncK l9004 fun s9006 r9007 => SV.cL s9006 fun l0_0 => uncK r9007 fun s9010 r9011 => SV.cL s9010 fun l0_1 => uncK r9011 fun s9014 r9015 => SV.cI IntKind.i64 s9014 fun x0_2 => endL r9015 <| uncA r9002 fun a9019 r9020 => avA a9019 fun l9022 => uncK l9022 fun s9024 r9025 => SV.cS s9024 fun s1_0 => uncK r9025 fun s9028 r9029 => SV.cI IntKind.i64 s9028 fun x1_1 => uncK r9029 fun s9032 r9033 => SV.cI IntKind.i64 s9032 fun x1_2 => uncK r9033 fun s9036 r9037 => SV.cL s9036 fun l1_3 => uncK r9037 fun s9040 r9041 => SV.cL s9040 fun l1_4 => uncK r9041 fun s9044 r9045 => SV.cB s9044 fun c1_5 => endL r9045 <| uncA r9020 fun a9049 r9050 => avA a9049 fun l9052 => uncK l9052 fun s9054 r9055 => SV.cI IntKind.i64 s9054 fun x2_0 => uncK r9055 fun s9058 r9059 => SV.cI IntKind.i64 s9058 fun x2_1 => uncK r9059 fun s9062 r9063 => SV.cI IntKind.i64 s9062 fun x2_2 => uncK r9063 fun s9066 r9067 => SV.cI IntKind.i64 s9066 fun x2_3 => uncK r9067 fun s9070 r9071 => SV.cI IntKind.i64 s9070 fun x2_4 => uncK r9071 fun s9074 r9075 => SV.cI IntKind.i64 s9074 fun x2_5 => uncK r9075 fun s9078 r9079 => SV.cI IntKind.i64 s9078 fun x2_6 => uncK r9079 fun s9082 r9083 => SV.cB s9082 fun c2_7 => uncK r9083 fun s9086 r9087 => SV.cL s9086 fun l2_8 => uncK r9087 fun s9090 r9091 => SV.cL s9090 fun l2_9 => uncK r9091 fun s9094 r9095 => SV.cL s9094 fun l2_10 => endL r9095 <| endL r9050 <| F40_0 D J l0_0 l0_1 x0_2 s1_0 x1_1 x1_2 l1_3 l1_4 c1_5 x2_0 x2_1 x2_2 x2_3 x2_4 x2_5 x2_6 c2_7 l2_8 l2_9 l2_10 S K
theorem A40_0_ok {D J : Disp} (hD : DOK GraphP GraphG D) (hJ : JOK GraphP GraphG Go.Proofs.Try.f40 T40 J) {vals : List AV} {S : St} {K : AV → St → Prop} (h0 : A40_0 D J vals S K) : Runs GraphP GraphG Go.Proofs.Try.f40 (T40 0).1 (envOf (T40 0).2 vals) S K := by
  obtain ⟨a9001, r9002, rfl, h3⟩ := uncA_some h0
  obtain ⟨l9004, rfl, h5⟩ := avA_some h3
  obtain ⟨s9006, r9007, rfl, h8⟩ := uncK_some h5
  obtain ⟨l0_0, rfl, h9⟩ := cL_some h8
  obtain ⟨s9010, r9011, rfl, h12⟩ := uncK_some h9
  obtain ⟨l0_1, rfl, h13⟩ := cL_some h12
  obtain ⟨s9014, r9015, rfl, h16⟩ := uncK_some h13
  obtain ⟨x0_2, rfl, h17⟩ := cI_some h16
  obtain ⟨rfl, h18⟩ := endL_some h17
  obtain ⟨a9019, r9020, rfl, h21⟩ := uncA_some h18
  obtain ⟨l9022, rfl, h23⟩ := avA_some h21
  obtain ⟨s9024, r9025, rfl, h26⟩ := uncK_some h23
  obtain ⟨s1_0, rfl, h27⟩ := cS_some h26
  obtain ⟨s9028, r9029, rfl, h30⟩ := uncK_some h27
  obtain ⟨x1_1, rfl, h31⟩ := cI_some h30
  obtain ⟨s9032, r9033, rfl, h34⟩ := uncK_some h31
  obtain ⟨x1_2, rfl, h35⟩ := cI_some h34
  obtain ⟨s9036, r9037, rfl, h38⟩ := uncK_some h35
  obtain ⟨l1_3, rfl, h39⟩ := cL_some h38
  obtain ⟨s9040, r9041, rfl, h42⟩ := uncK_some h39
  obtain ⟨l1_4, rfl, h43⟩ := cL_some h42
  obtain ⟨s9044, r9045, rfl, h46⟩ := uncK_some h43
  obtain ⟨c1_5, rfl, h47⟩ := cB_some h46
  obtain ⟨rfl, h48⟩ := endL_some h47
  obtain ⟨a9049, r9050, rfl, h51⟩ := uncA_some h48
  obtain ⟨l9052, rfl, h53⟩ := avA_some h51
  obtain ⟨s9054, r9055, rfl, h56⟩ := uncK_some h53
  obtain ⟨x2_0, rfl, h57⟩ := cI_some h56
  obtain ⟨s9058, r9059, rfl, h60⟩ := uncK_some h57
  obtain ⟨x2_1, rfl, h61⟩ := cI_some h60
  obtain ⟨s9062, r9063, rfl, h64⟩ := uncK_some h61
  obtain ⟨x2_2, rfl, h65⟩ := cI_some h64
  obtain ⟨s9066, r9067, rfl, h68⟩ := uncK_some h65
  obtain ⟨x2_3, rfl, h69⟩ := cI_some h68
  obtain ⟨s9070, r9071, rfl, h72⟩ := uncK_some h69
  obtain ⟨x2_4, rfl, h73⟩ := cI_some h72
  obtain ⟨s9074, r9075, rfl, h76⟩ := uncK_some h73
  obtain ⟨x2_5, rfl, h77⟩ := cI_some h76
  obtain ⟨s9078, r9079, rfl, h80⟩ := uncK_some h77
  obtain ⟨x2_6, rfl, h81⟩ := cI_some h80
  obtain ⟨s9082, r9083, rfl, h84⟩ := uncK_some h81
  obtain ⟨c2_7, rfl, h85⟩ := cB_some h84
  obtain ⟨s9086, r9087, rfl, h88⟩ := uncK_some h85
  obtain ⟨l2_8, rfl, h89⟩ := cL_some h88
  obtain ⟨s9090, r9091, rfl, h92⟩ := uncK_some h89
  obtain ⟨l2_9, rfl, h93⟩ := cL_some h92
  obtain ⟨s9094, r9095, rfl, h96⟩ := uncK_some h93
  obtain ⟨l2_10, rfl, h97⟩ := cL_some h96
  obtain ⟨rfl, h98⟩ := endL_some h97
  obtain ⟨rfl, h99⟩ := endL_some h98
  rw [F40_0_eq] at h99
  exact execK_runs hD.typed Graph_zero Graph_mixed hJ X40_0 (T40 0).1 (envOf (T40 0).2 _) S K (chk_of (by kernel_rfl) (by kernel_rfl)) h99
noncomputable abbrev A40_14 (D J : Disp) (vals : List AV) (S : St) (K : AV → St → Prop) : Prop :=
  uncA vals fun a9001 r9002 => scK a9001 fun s9004 => SV.cP s9004 fun p3 => uncA r9002 fun a9007 r9008 => scK a9007 fun s9010 => SV.cP s9010 fun p4 => uncA r9008 fun a9013 r9014 => scK a9013 fun s9016 => SV.cP s9016 fun p5 => uncA r9014 fun a9019 r9020 => scK a9019 fun s9022 => SV.cI IntKind.i64 s9022 fun x8 => uncA r9020 fun a9025 r9026 => scK a9025 fun s9028 => SV.cB s9028 fun c48 => endL r9026 <| F40_14 D J p3 p4 p5 x8 c48 S K
theorem A40_14_ok {D J : Disp} (hD : DOK GraphP GraphG D) (hJ : JOK GraphP GraphG Go.Proofs.Try.f40 T40 J) {vals : List AV} {S : St} {K : AV → St → Prop} (h0 : A40_14 D J vals S K) : Runs GraphP GraphG Go.Proofs.Try.f40 (T40 14).1 (envOf (T40 14).2 vals) S K := by
  obtain ⟨a9001, r9002, rfl, h3⟩ := uncA_some h0
  obtain ⟨s9004, rfl, h5⟩ := scK_some h3
  obtain ⟨p3, rfl, h6⟩ := cP_some h5
  obtain ⟨a9007, r9008, rfl, h9⟩ := uncA_some h6
  obtain ⟨s9010, rfl, h11⟩ := scK_some h9
  obtain ⟨p4, rfl, h12⟩ := cP_some h11
  obtain ⟨a9013, r9014, rfl, h15⟩ := uncA_some h12
  obtain ⟨s9016, rfl, h17⟩ := scK_some h15
  obtain ⟨p5, rfl, h18⟩ := cP_some h17
  obtain ⟨a9019, r9020, rfl, h21⟩ := uncA_some h18
  obtain ⟨s9022, rfl, h23⟩ := scK_some h21
  obtain ⟨x8, rfl, h24⟩ := cI_some h23
  obtain ⟨a9025, r9026, rfl, h27⟩ := uncA_some h24
  obtain ⟨s9028, rfl, h29⟩ := scK_some h27
  obtain ⟨c48, rfl, h30⟩ := cB_some h29
  obtain ⟨rfl, h31⟩ := endL_some h30
  rw [F40_14_eq] at h31
  exact execK_runs hD.typed Graph_zero Graph_mixed hJ X40_14 (T40 14).1 (envOf (T40 14).2 _) S K (chk_of (by kernel_rfl) (by kernel_rfl)) h31
noncomputable abbrev A40_18 (D J : Disp) (vals : List AV) (S : St) (K : AV → St → Prop) : Prop :=
  uncA vals fun a9001 r9002 => scK a9001 fun s9004 => SV.cP s9004 fun p4 => uncA r9002 fun a9007 r9008 => scK a9007 fun s9010 => SV.cP s9010 fun p5 => uncA r9008 fun a9013 r9014 => scK a9013 fun s9016 => SV.cI IntKind.i64 s9016 fun x8 => uncA r9014 fun a9019 r9020 => scK a9019 fun s9022 => SV.cB s9022 fun c55 => endL r9020 <| F40_18 D J p4 p5 x8 c55 S K
theorem A40_18_ok {D J : Disp} (hD : DOK GraphP GraphG D) (hJ : JOK GraphP GraphG Go.Proofs.Try.f40 T40 J) {vals : List AV} {S : St} {K : AV → St → Prop} (h0 : A40_18 D J vals S K) : Runs GraphP GraphG Go.Proofs.Try.f40 (T40 18).1 (envOf (T40 18).2 vals) S K := by
  obtain ⟨a9001, r9002, rfl, h3⟩ := uncA_some h0
  obtain ⟨s9004, rfl, h5⟩ := scK_some h3
  obtain ⟨p4, rfl, h6⟩ := cP_some h5
  obtain ⟨a9007, r9008, rfl, h9⟩ := uncA_some h6
  obtain ⟨s9010, rfl, h11⟩ := scK_some h9
  obtain ⟨p5, rfl, h12⟩ := cP_some h11
  obtain ⟨a9013, r9014, rfl, h15⟩ := uncA_some h12
  obtain ⟨s9016, rfl, h17⟩ := scK_some h15
  obtain ⟨x8, rfl, h18⟩ := cI_some h17
  obtain ⟨a9019, r9020, rfl, h21⟩ := uncA_some h18
  obtain ⟨s9022, rfl, h23⟩ := scK_some h21
  obtain ⟨c55, rfl, h24⟩ := cB_some h23
  obtain ⟨rfl, h25⟩ := endL_some h24
  rw [F40_18_eq] at h25
  exact execK_runs hD.typed Graph_zero Graph_mixed hJ X40_18 (T40 18).1 (envOf (T40 18).2 _) S K (chk_of (by kernel_rfl) (by kernel_rfl)) h25
noncomputable abbrev A40_25 (D J : Disp) (vals : List AV) (S : St) (K : AV → St → Prop) : Prop :=
  uncA vals fun a9001 r9002 => scK a9001 fun s9004 => SV.cP s9004 fun p4 => uncA r9002 fun a9007 r9008 => scK a9007 fun s9010 => SV.cP s9010 fun p5 => uncA r9008 fun a9013 r9014 => scK a9013 fun s9016 => SV.cI IntKind.i64 s9016 fun x8 => uncA r9014 fun a9019 r9020 => scK a9019 fun s9022 => SV.cB s9022 fun c72 => endL r9020 <| F40_25 D J p4 p5 x8 c72 S K
theorem A40_25_ok {D J : Disp} (hD : DOK GraphP GraphG D) (hJ : JOK GraphP GraphG Go.Proofs.Try.f40 T40 J) {vals : List AV} {S : St} {K : AV → St → Prop} (h0 : A40_25 D J vals S K) : Runs GraphP GraphG Go.Proofs.Try.f40 (T40 25).1 (envOf (T40 25).2 vals) S K := by
  obtain ⟨a9001, r9002, rfl, h3⟩ := uncA_some h0
  obtain ⟨s9004, rfl, h5⟩ := scK_some h3
  obtain ⟨p4, rfl, h6⟩ := cP_some h5
  obtain ⟨a9007, r9008, rfl, h9⟩ := uncA_some h6
  obtain ⟨s9010, rfl, h11⟩ := scK_some h9
  obtain ⟨p5, rfl, h12⟩ := cP_some h11
  obtain ⟨a9013, r9014, rfl, h15⟩ := uncA_some h12
  obtain ⟨s9016, rfl, h17⟩ := scK_some h15
  obtain ⟨x8, rfl, h18⟩ := cI_some h17
  obtain ⟨a9019, r9020, rfl, h21⟩ := uncA_some h18
  obtain ⟨s9022, rfl, h23⟩ := scK_some h21
  obtain ⟨c72, rfl, h24⟩ := cB_some h23
  obtain ⟨rfl, h25⟩ := endL_some h24
  rw [F40_25_eq] at h25
  exact execK_runs hD.typed Graph_zero Graph_mixed hJ X40_25 (T40 25).1 (envOf (T40 25).2 _) S K (chk_of (by kernel_rfl) (by kernel_rfl)) h25
noncomputable def J40 (D : Disp) (k : Nat) : Disp := Nat.rec (motive := fun _ => Disp) Disp.no (fun _ ih => Disp.add 0 (A40_0 D ih) <| Disp.add 14 (A40_14 D ih) <| Disp.add 18 (A40_18 D ih) <| Disp.add 25 (A40_25 D ih) <| Disp.no) k
theorem J40_ok {D : Disp} (hD : DOK GraphP GraphG D) : ∀ k, JOK GraphP GraphG Go.Proofs.Try.f40 T40 (J40 D k)
  | 0 => JOK.no
  | k + 1 => JOK.add (ltB_ok (by kernel_rfl)) (fun vals S K h => A40_0_ok hD (J40_ok hD k) h) <| JOK.add (ltB_ok (by kernel_rfl)) (fun vals S K h => A40_14_ok hD (J40_ok hD k) h) <| JOK.add (ltB_ok (by kernel_rfl)) (fun vals S K h => A40_18_ok hD (J40_ok hD k) h) <| JOK.add (ltB_ok (by kernel_rfl)) (fun vals S K h => A40_25_ok hD (J40_ok hD k) h) <| JOK.no
theorem E40_ok {D : Disp} (hD : DOK GraphP GraphG D) (k : Nat) {args : List AV} {S : St} {K : AV → St → Prop} (h : A40_0 D (J40 D k) args S K) : CallOK GraphP GraphG 40 args S K := by
  have hr := A40_0_ok hD (J40_ok hD k) h
  have hl : args.length = 3 := by
    have h0 := h
    obtain ⟨a9001, r9002, rfl, h3⟩ := uncA_some h0
    obtain ⟨l9004, rfl, h5⟩ := avA_some h3
    obtain ⟨s9006, r9007, rfl, h8⟩ := uncK_some h5
    obtain ⟨l0_0, rfl, h9⟩ := cL_some h8
    obtain ⟨s9010, r9011, rfl, h12⟩ := uncK_some h9
    obtain ⟨l0_1, rfl, h13⟩ := cL_some h12
    obtain ⟨s9014, r9015, rfl, h16⟩ := uncK_some h13
    obtain ⟨x0_2, rfl, h17⟩ := cI_some h16
    obtain ⟨rfl, h18⟩ := endL_some h17
    obtain ⟨a9019, r9020, rfl, h21⟩ := uncA_some h18
    obtain ⟨l9022, rfl, h23⟩ := avA_some h21
    obtain ⟨s9024, r9025, rfl, h26⟩ := uncK_some h23
    obtain ⟨s1_0, rfl, h27⟩ := cS_some h26
    obtain ⟨s9028, r9029, rfl, h30⟩ := uncK_some h27
    obtain ⟨x1_1, rfl, h31⟩ := cI_some h30
    obtain ⟨s9032, r9033, rfl, h34⟩ := uncK_some h31
    obtain ⟨x1_2, rfl, h35⟩ := cI_some h34
    obtain ⟨s9036, r9037, rfl, h38⟩ := uncK_some h35
    obtain ⟨l1_3, rfl, h39⟩ := cL_some h38
    obtain ⟨s9040, r9041, rfl, h42⟩ := uncK_some h39
    obtain ⟨l1_4, rfl, h43⟩ := cL_some h42
    obtain ⟨s9044, r9045, rfl, h46⟩ := uncK_some h43
    obtain ⟨c1_5, rfl, h47⟩ := cB_some h46
    obtain ⟨rfl, h48⟩ := endL_some h47
    obtain ⟨a9049, r9050, rfl, h51⟩ := uncA_some h48
    obtain ⟨l9052, rfl, h53⟩ := avA_some h51
    obtain ⟨s9054, r9055, rfl, h56⟩ := uncK_some h53
    obtain ⟨x2_0, rfl, h57⟩ := cI_some h56
    obtain ⟨s9058, r9059, rfl, h60⟩ := uncK_some h57
    obtain ⟨x2_1, rfl, h61⟩ := cI_some h60
    obtain ⟨s9062, r9063, rfl, h64⟩ := uncK_some h61
    obtain ⟨x2_2, rfl, h65⟩ := cI_some h64
    obtain ⟨s9066, r9067, rfl, h68⟩ := uncK_some h65
    obtain ⟨x2_3, rfl, h69⟩ := cI_some h68
    obtain ⟨s9070, r9071, rfl, h72⟩ := uncK_some h69
    obtain ⟨x2_4, rfl, h73⟩ := cI_some h72
    obtain ⟨s9074, r9075, rfl, h76⟩ := uncK_some h73
    obtain ⟨x2_5, rfl, h77⟩ := cI_some h76
    obtain ⟨s9078, r9079, rfl, h80⟩ := uncK_some h77
    obtain ⟨x2_6, rfl, h81⟩ := cI_some h80
    obtain ⟨s9082, r9083, rfl, h84⟩ := uncK_some h81
    obtain ⟨c2_7, rfl, h85⟩ := cB_some h84
    obtain ⟨s9086, r9087, rfl, h88⟩ := uncK_some h85
    obtain ⟨l2_8, rfl, h89⟩ := cL_some h88
    obtain ⟨s9090, r9091, rfl, h92⟩ := uncK_some h89
    obtain ⟨l2_9, rfl, h93⟩ := cL_some h92
    obtain ⟨s9094, r9095, rfl, h96⟩ := uncK_some h93
    obtain ⟨l2_10, rfl, h97⟩ := cL_some h96
    obtain ⟨rfl, h98⟩ := endL_some h97
    obtain ⟨rfl, h99⟩ := endL_some h98
    rfl
  refine callOK_of (fn := Go.Proofs.Try.f40) (c := (match Go.Proofs.Try.f40.body with | some c => c | none => .skip)) (by kernel_rfl) (by kernel_rfl) (by kernel_rfl) (by rw [hl]; kernel_rfl) (by kernel_rfl) ?_
  rw [hl]
  exact hr
noncomputable def plans41 (i : Nat) : Plan := if Nat.beq i 17 then [(0, []), (1, [0]), (2, [1, 0]), (3, [2, 1, 0]), (4, [2, 1, 0]), (5, [4, 2, 1, 0]), (6, [3, 5, 2, 4, 1, 0]), (7, [6, 2, 3, 5, 1, 4, 0]), (8, [2, 1, 0]), (9, [2, 1, 0]), (10, [8, 9, 2, 1, 0]), (11, [10, 2, 8, 9, 1, 0]), (12, [7, 11, 2, 6, 10, 1, 3, 5, 8, 9, 0, 4]), (13, [12, 2, 7, 11, 1, 6, 10, 0, 3, 5, 8, 9, 4]), (14, [2, 13, 1, 12, 0, 7, 11, 6, 10, 3, 5, 8, 9, 4])] else []
noncomputable def T41 (p : Nat) : List Item × List Nat := bif Nat.beq p 0 then ([.code (match Go.Proofs.Try.f41.body with | some c => c | none => .skip)], [0, 1, 2, 3]) else
  bif Nat.beq p 2 then (navs [.op, .op] [.code (match Go.Proofs.Try.f41.body with | some c => c | none => .skip)], [0, 1, 2, 3, 8, 9]) else
  bif Nat.beq p 15 then (navs [.op, .op, .op, .op, .el, .op, .el, .op, .th, .op, .op] [.code (match Go.Proofs.Try.f41.body with | some c => c | none => .skip)], [0, 1, 2, 3, 8, 9, 10]) else
  bif Nat.beq p 21 then (navs [.op, .op, .op, .op, .el, .op, .el, .op, .th, .op, .op, .op, .op, .th, .op, .op, .op] [.code (match Go.Proofs.Try.f41.body with | some c => c | none => .skip)], [0, 1, 2, 3, 8, 9, 10, 11, 12]) else
  bif Nat.beq p 22 then (navs [.op, .op, .op, .op, .el, .op, .el, .op, .th, .op, .op, .op, .op, .th, .op, .op, .op, .op] [.code (match Go.Proofs.Try.f41.body with | some c => c | none => .skip)], [0, 1, 2, 3, 8, 9, 10, 11, 68]) else
  bif Nat.beq p 26 then (navs [.op, .op, .op, .op, .el, .op, .el, .op, .th, .op, .op, .op, .op, .th, .op, .op, .op, .op, .th, .op, .el] [.code (match Go.Proofs.Try.f41.body with | some c => c | none => .skip)], [0, 1, 2, 3, 8, 9, 10, 11]) else
  bif Nat.beq p 27 then (navs [.op, .op, .op, .op, .el, .op, .el, .op, .th, .op, .op, .op, .op, .th, .op, .op, .op, .op, .th, .op, .el, .op] [.code (match Go.Proofs.Try.f41.body with | some c => c | none => .skip)], [0, 1, 2, 3, 8, 9, 10, 11, 87]) else
  ([], [])
noncomputable def F41_0 (D J : Disp) (l0 : LV) (x1 : Int) (x2 : Int) (x3 : Int) (S : St) (K : AV → St → Prop) : Prop :=
 J 2 [(AV.one (V1.s (SV.sl l0))), (AV.one (V1.s (SV.int IntKind.i64 x1))), (AV.one (V1.s (SV.int IntKind.i64 x2))), (AV.one (V1.s (SV.int IntKind.i64 x3))), (AV.one (V1.s (SV.bool Bool.true))), (AV.one (V1.s (SV.bool Bool.true)))] S K
noncomputable def X41_0 : X := (.op (.op (.jmp 2 [0, 1, 2, 3, 8, 9])))
theorem F41_0_eq (D J : Disp) (l0 : LV) (x1 : Int) (x2 : Int) (x3 : Int) (S : St) (K : AV → St → Prop) : F41_0 D J l0 x1 x2 x3 S K = execK GraphP GraphG Go.Proofs.Try.f41 (typed GraphP D) J plans41 X41_0 (T41 0).1 (envOf (T41 0).2 [(AV.one (V1.s (SV.sl l0))), (AV.one (V1.s (SV.int IntKind.i64 x1))), (AV.one (V1.s (SV.int IntKind.i64 x2))), (AV.one (V1.s (SV.int IntKind.i64 x3)))]) S K := by kernel_rfl
noncomputable def F41_2 (D J : Disp) (l0 : LV) (x1 : Int) (x2 : Int) (x3 : Int) (c8 : Bool) (c9 : Bool) (S : St) (K : AV → St → Prop) : Prop :=
 let x300 : Int := (iwrap IntKind.i64 (x2 - x1));
 let c301 : Bool := (ile x300 (12 : Int));
 ifK c301
 (D 48 [(AV.one (V1.s (SV.sl l0))), (AV.one (V1.s (SV.int IntKind.i64 x1))), (AV.one (V1.s (SV.int IntKind.i64 x2)))] S fun v302 S303 =>
 avT v302 fun y305 =>
 endL y305 (K ((AV.tup [])) S303))
 (let c309 : Bool := (ieq x3 (0 : Int));
 ifK c309
 (D 49 [(AV.one (V1.s (SV.sl l0))), (AV.one (V1.s (SV.int IntKind.i64 x1))), (AV.one (V1.s (SV.int IntKind.i64 x2)))] S fun v310 S311 =>
 avT v310 fun y313 =>
 endL y313 (K ((AV.tup [])) S311))
 (let c317 : Bool := (Bool.not c8);
 ifK c317
 (D 50 [(AV.one (V1.s (SV.sl l0))), (AV.one (V1.s (SV.int IntKind.i64 x1))), (AV.one (V1.s (SV.int IntKind.i64 x2)))] S fun v318 S319 =>
 avT v318 fun y321 =>
 endL y321 (let x322 : Int := (iwrap IntKind.i64 (x3 - (1 : Int)));
 J 15 [(AV.one (V1.s (SV.sl l0))), (AV.one (V1.s (SV.int IntKind.i64 x1))), (AV.one (V1.s (SV.int IntKind.i64 x2))), (AV.one (V1.s (SV.int IntKind.i64 x322))), (AV.one (V1.s (SV.bool c8))), (AV.one (V1.s (SV.bool c9))), (AV.one (V1.s (SV.int IntKind.i64 x300)))] S319 K))
 (J 15 [(AV.one (V1.s (SV.sl l0))), (AV.one (V1.s (SV.int IntKind.i64 x1))), (AV.one (V1.s (SV.int IntKind.i64 x2))), (AV.one (V1.s (SV.int IntKind.i64 x3))), (AV.one (V1.s (SV.bool c8))), (AV.one (V1.s (SV.bool c9))), (AV.one (V1.s (SV.int IntKind.i64 x300)))] S K)))
noncomputable def X41_2 : X := (.op (.op (.br (.op .ret) (.op (.br (.op .ret) (.op (.br (.op (.op (.jmp 15 [0, 1, 2, 3, 8, 9, 10]))) (.jmp 15 [0, 1, 2, 3, 8, 9, 10]))))))))
theorem F41_2_eq (D J : Disp) (l0 : LV) (x1 : Int) (x2 : Int) (x3 : Int) (c8 : Bool) (c9 : Bool) (S : St) (K : AV → St → Prop) : F41_2 D J l0 x1 x2 x3 c8 c9 S K = execK GraphP GraphG Go.Proofs.Try.f41 (typed GraphP D) J plans41 X41_2 (T41 2).1 (envOf (T41 2).2 [(AV.one (V1.s (SV.sl l0))), (AV.one (V1.s (SV.int IntKind.i64 x1))), (AV.one (V1.s (SV.int IntKind.i64 x2))), (AV.one (V1.s (SV.int IntKind.i64 x3))), (AV.one (V1.s (SV.bool c8))), (AV.one (V1.s (SV.bool c9)))]) S K := by kernel_rfl
noncomputable def F41_15 (D J : Disp) (l0 : LV) (x1 : Int) (x2 : Int) (x3 : Int) (c8 : Bool) (c9 : Bool) (x10 : Int) (S : St) (K : AV → St → Prop) : Prop :=
 D 51 [(AV.one (V1.s (SV.sl l0))), (AV.one (V1.s (SV.int IntKind.i64 x1))), (AV.one (V1.s (SV.int IntKind.i64 x2)))] S fun v300 S301 =>
 avT v300 fun y303 =>
 uncV y303 fun v304 y305 =>
 v1S v304 fun v307 =>
 SV.cI IntKind.i64 v307 fun x310 =>
 uncV y305 fun v311 y312 =>
 v1S v311 fun v314 =>
 SV.cI IntKind.i64 v314 fun x317 =>
 endL y312 (let c318 : Bool := (ieq x317 (2 : Int));
 ifK c318
 (D 52 [(AV.one (V1.s (SV.sl l0))), (AV.one (V1.s (SV.int IntKind.i64 x1))), (AV.one (V1.s (SV.int IntKind.i64 x2)))] S301 fun v319 S320 =>
 avT v319 fun y322 =>
 endL y322 (let x323 : Int := (iwrap IntKind.i64 (x2 - (1 : Int)));
 let x324 : Int := (iwrap IntKind.i64 (x310 - x1));
 let x325 : Int := (iwrap IntKind.i64 (x323 - x324));
 J 21 [(AV.one (V1.s (SV.sl l0))), (AV.one (V1.s (SV.int IntKind.i64 x1))), (AV.one (V1.s (SV.int IntKind.i64 x2))), (AV.one (V1.s (SV.int IntKind.i64 x3))), (AV.one (V1.s (SV.bool c8))), (AV.one (V1.s (SV.bool c9))), (AV.one (V1.s (SV.int IntKind.i64 x10))), (AV.one (V1.s (SV.int IntKind.i64 x325))), (AV.one (V1.s (SV.int IntKind.i64 (1 : Int))))] S320 K))
 (J 21 [(AV.one (V1.s (SV.sl l0))), (AV.one (V1.s (SV.int IntKind.i64 x1))), (AV.one (V1.s (SV.int IntKind.i64 x2))), (AV.one (V1.s (SV.int IntKind.i64 x3))), (AV.one (V1.s (SV.bool c8))), (AV.one (V1.s (SV.bool c9))), (AV.one (V1.s (SV.int IntKind.i64 x10))), (AV.one (V1.s (SV.int IntKind.i64 x310))), (AV.one (V1.s (SV.int IntKind.i64 x317)))] S301 K))
noncomputable def X41_15 : X := (.op (.op (.br (.op (.op (.op (.jmp 21 [0, 1, 2, 3, 8, 9, 10, 11, 12])))) (.jmp 21 [0, 1, 2, 3, 8, 9, 10, 11, 12]))))
theorem F41_15_eq (D J : Disp) (l0 : LV) (x1 : Int) (x2 : Int) (x3 : Int) (c8 : Bool) (c9 : Bool) (x10 : Int) (S : St) (K : AV → St → Prop) : F41_15 D J l0 x1 x2 x3 c8 c9 x10 S K = execK GraphP GraphG Go.Proofs.Try.f41 (typed GraphP D) J plans41 X41_15 (T41 15).1 (envOf (T41 15).2 [(AV.one (V1.s (SV.sl l0))), (AV.one (V1.s (SV.int IntKind.i64 x1))), (AV.one (V1.s (SV.int IntKind.i64 x2))), (AV.one (V1.s (SV.int IntKind.i64 x3))), (AV.one (V1.s (SV.bool c8))), (AV.one (V1.s (SV.bool c9))), (AV.one (V1.s (SV.int IntKind.i64 x10)))]) S K := by kernel_rfl
noncomputable def F41_21 (D J : Disp) (l0 : LV) (x1 : Int) (x2 : Int) (x3 : Int) (c8 : Bool) (c9 : Bool) (x10 : Int) (x11 : Int) (x12 : Int) (S : St) (K : AV → St → Prop) : Prop :=
 ifK c8
 (ifK c9
 (let c300 : Bool := (ieq x12 (1 : Int));
 J 22 [(AV.one (V1.s (SV.sl l0))), (AV.one (V1.s (SV.int IntKind.i64 x1))), (AV.one (V1.s (SV.int IntKind.i64 x2))), (AV.one (V1.s (SV.int IntKind.i64 x3))), (AV.one (V1.s (SV.bool c8))), (AV.one (V1.s (SV.bool c9))), (AV.one (V1.s (SV.int IntKind.i64 x10))), (AV.one (V1.s (SV.int IntKind.i64 x11))), (AV.one (V1.s (SV.bool c300)))] S K)
 (J 22 [(AV.one (V1.s (SV.sl l0))), (AV.one (V1.s (SV.int IntKind.i64 x1))), (AV.one (V1.s (SV.int IntKind.i64 x2))), (AV.one (V1.s (SV.int IntKind.i64 x3))), (AV.one (V1.s (SV.bool c8))), (AV.one (V1.s (SV.bool c9))), (AV.one (V1.s (SV.int IntKind.i64 x10))), (AV.one (V1.s (SV.int IntKind.i64 x11))), (AV.one (V1.s (SV.bool Bool.false)))] S K))
 (J 22 [(AV.one (V1.s (SV.sl l0))), (AV.one (V1.s (SV.int IntKind.i64 x1))), (AV.one (V1.s (SV.int IntKind.i64 x2))), (AV.one (V1.s (SV.int IntKind.i64 x3))), (AV.one (V1.s (SV.bool c8))), (AV.one (V1.s (SV.bool c9))), (AV.one (V1.s (SV.int IntKind.i64 x10))), (AV.one (V1.s (SV.int IntKind.i64 x11))), (AV.one (V1.s (SV.bool Bool.false)))] S K)
noncomputable def X41_21 : X := (.op (.jmp 22 [0, 1, 2, 3, 8, 9, 10, 11, 68]))
theorem F41_21_eq (D J : Disp) (l0 : LV) (x1 : Int) (x2 : Int) (x3 : Int) (c8 : Bool) (c9 : Bool) (x10 : Int) (x11 : Int) (x12 : Int) (S : St) (K : AV → St → Prop) : F41_21 D J l0 x1 x2 x3 c8 c9 x10 x11 x12 S K = execK GraphP GraphG Go.Proofs.Try.f41 (typed GraphP D) J plans41 X41_21 (T41 21).1 (envOf (T41 21).2 [(AV.one (V1.s (SV.sl l0))), (AV.one (V1.s (SV.int IntKind.i64 x1))), (AV.one (V1.s (SV.int IntKind.i64 x2))), (AV.one (V1.s (SV.int IntKind.i64 x3))), (AV.one (V1.s (SV.bool c8))), (AV.one (V1.s (SV.bool c9))), (AV.one (V1.s (SV.int IntKind.i64 x10))), (AV.one (V1.s (SV.int IntKind.i64 x11))), (AV.one (V1.s (SV.int IntKind.i64 x12)))]) S K := by kernel_rfl
noncomputable def F41_22 (D J : Disp) (l0 : LV) (x1 : Int) (x2 : Int) (x3 : Int) (c8 : Bool) (c9 : Bool) (x10 : Int) (x11 : Int) (c68 : Bool) (S : St) (K : AV → St → Prop) : Prop :=
 ifK c68
 (D 53 [(AV.one (V1.s (SV.sl l0))), (AV.one (V1.s (SV.int IntKind.i64 x1))), (AV.one (V1.s (SV.int IntKind.i64 x2)))] S fun v300 S301 =>
 scK v300 fun v303 =>
 SV.cB v303 fun y304 =>
 ifK y304
 (K ((AV.tup [])) S301)
 (J 26 [(AV.one (V1.s (SV.sl l0))), (AV.one (V1.s (SV.int IntKind.i64 x1))), (AV.one (V1.s (SV.int IntKind.i64 x2))), (AV.one (V1.s (SV.int IntKind.i64 x3))), (AV.one (V1.s (SV.bool c8))), (AV.one (V1.s (SV.bool c9))), (AV.one (V1.s (SV.int IntKind.i64 x10))), (AV.one (V1.s (SV.int IntKind.i64 x11)))] S301 K))
 (J 26 [(AV.one (V1.s (SV.sl l0))), (AV.one (V1.s (SV.int IntKind.i64 x1))), (AV.one (V1.s (SV.int IntKind.i64 x2))), (AV.one (V1.s (SV.int IntKind.i64 x3))), (AV.one (V1.s (SV.bool c8))), (AV.one (V1.s (SV.bool c9))), (AV.one (V1.s (SV.int IntKind.i64 x10))), (AV.one (V1.s (SV.int IntKind.i64 x11)))] S K)
noncomputable def X41_22 : X := (.br (.op (.br .ret (.jmp 26 [0, 1, 2, 3, 8, 9, 10, 11]))) (.jmp 26 [0, 1, 2, 3, 8, 9, 10, 11]))
theorem F41_22_eq (D J : Disp) (l0 : LV) (x1 : Int) (x2 : Int) (x3 : Int) (c8 : Bool) (c9 : Bool) (x10 : Int) (x11 : Int) (c68 : Bool) (S : St) (K : AV → St → Prop) : F41_22 D J l0 x1 x2 x3 c8 c9 x10 x11 c68 S K = execK GraphP GraphG Go.Proofs.Try.f41 (typed GraphP D) J plans41 X41_22 (T41 22).1 (envOf (T41 22).2 [(AV.one (V1.s (SV.sl l0))), (AV.one (V1.s (SV.int IntKind.i64 x1))), (AV.one (V1.s (SV.int IntKind.i64 x2))), (AV.one (V1.s (SV.int IntKind.i64 x3))), (AV.one (V1.s (SV.bool c8))), (AV.one (V1.s (SV.bool c9))), (AV.one (V1.s (SV.int IntKind.i64 x10))), (AV.one (V1.s (SV.int IntKind.i64 x11))), (AV.one (V1.s (SV.bool c68)))]) S K := by kernel_rfl
noncomputable def F41_26 (D J : Disp) (l0 : LV) (x1 : Int) (x2 : Int) (x3 : Int) (c8 : Bool) (c9 : Bool) (x10 : Int) (x11 : Int) (S : St) (K : AV → St → Prop) : Prop :=
 let c300 : Bool := (ilt (0 : Int) x1);
 ifK c300
 (let x301 : Int := (iwrap IntKind.i64 (x1 - (1 : Int)));
 LV.cs l0 fun b302 n303 n304 y305 =>
 req (Bool.and (ile (0 : Int) x301) (ilt x301 (Int.ofNat n304))) <|
 let n306 : Nat := (n303 + ((Int.toNat x301) * 1));
 St.at S b302 n306 fun y307 =>
 uncK y307 fun v308 y309 =>
 SV.cI IntKind.i64 v308 fun x313 =>
 LV.cs l0 fun b314 n315 n316 y317 =>
 req (Bool.and (ile (0 : Int) x11) (ilt x11 (Int.ofNat n316))) <|
 let n318 : Nat := (n315 + ((Int.toNat x11) * 1));
 St.at S b314 n318 fun y319 =>
 uncK y319 fun v320 y321 =>
 SV.cI IntKind.i64 v320 fun x325 =>
 D 54 [(AV.one (V1.s (SV.int IntKind.i64 x313))), (AV.one (V1.s (SV.int IntKind.i64 x325)))] S fun v326 S327 =>
 scK v326 fun v329 =>
 SV.cB v329 fun y330 =>
 let c331 : Bool := (Bool.not y330);
 J 27 [(AV.one (V1.s (SV.sl l0))), (AV.one (V1.s (SV.int IntKind.i64 x1))), (AV.one (V1.s (SV.int IntKind.i64 x2))), (AV.one (V1.s (SV.int IntKind.i64 x3))), (AV.one (V1.s (SV.bool c8))), (AV.one (V1.s (SV.bool c9))), (AV.one (V1.s (SV.int IntKind.i64 x10))), (AV.one (V1.s (SV.int IntKind.i64 x11))), (AV.one (V1.s (SV.bool c331)))] S327 K)
 (J 27 [(AV.one (V1.s (SV.sl l0))), (AV.one (V1.s (SV.int IntKind.i64 x1))), (AV.one (V1.s (SV.int IntKind.i64 x2))), (AV.one (V1.s (SV.int IntKind.i64 x3))), (AV.one (V1.s (SV.bool c8))), (AV.one (V1.s (SV.bool c9))), (AV.one (V1.s (SV.int IntKind.i64 x10))), (AV.one (V1.s (SV.int IntKind.i64 x11))), (AV.one (V1.s (SV.bool Bool.false)))] S K)
noncomputable def X41_26 : X := (.op (.jmp 27 [0, 1, 2, 3, 8, 9, 10, 11, 87]))
theorem F41_26_eq (D J : Disp) (l0 : LV) (x1 : Int) (x2 : Int) (x3 : Int) (c8 : Bool) (c9 : Bool) (x10 : Int) (x11 : Int) (S : St) (K : AV → St → Prop) : F41_26 D J l0 x1 x2 x3 c8 c9 x10 x11 S K = execK GraphP GraphG Go.Proofs.Try.f41 (typed GraphP D) J plans41 X41_26 (T41 26).1 (envOf (T41 26).2 [(AV.one (V1.s (SV.sl l0))), (AV.one (V1.s (SV.int IntKind.i64 x1))), (AV.one (V1.s (SV.int IntKind.i64 x2))), (AV.one (V1.s (SV.int IntKind.i64 x3))), (AV.one (V1.s (SV.bool c8))), (AV.one (V1.s (SV.bool c9))), (AV.one (V1.s (SV.int IntKind.i64 x10))), (AV.one (V1.s (SV.int IntKind.i64 x11)))]) S K := by kernel_rfl
noncomputable def F41_27 (D J : Disp) (l0 : LV) (x1 : Int) (x2 : Int) (x3 : Int) (c8 : Bool) (c9 : Bool) (x10 : Int) (x11 : Int) (c87 : Bool) (S : St) (K : AV → St → Prop) : Prop :=
 ifK c87
 (D 55 [(AV.one (V1.s (SV.sl l0))), (AV.one (V1.s (SV.int IntKind.i64 x1))), (AV.one (V1.s (SV.int IntKind.i64 x2))), (AV.one (V1.s (SV.int IntKind.i64 x11)))] S fun v300 S301 =>
 scK v300 fun v303 =>
 SV.cI IntKind.i64 v303 fun x306 =>
 J 2 [(AV.one (V1.s (SV.sl l0))), (AV.one (V1.s (SV.int IntKind.i64 x306))), (AV.one (V1.s (SV.int IntKind.i64 x2))), (AV.one (V1.s (SV.int IntKind.i64 x3))), (AV.one (V1.s (SV.bool c8))), (AV.one (V1.s (SV.bool c9)))] S301 K)
 (D 56 [(AV.one (V1.s (SV.sl l0))), (AV.one (V1.s (SV.int IntKind.i64 x1))), (AV.one (V1.s (SV.int IntKind.i64 x2))), (AV.one (V1.s (SV.int IntKind.i64 x11)))] S fun v314 S315 =>
 avT v314 fun y317 =>
 uncV y317 fun v318 y319 =>
 v1S v318 fun v321 =>
 SV.cI IntKind.i64 v321 fun x324 =>
 uncV y319 fun v325 y326 =>
 v1S v325 fun v328 =>
 SV.cB v328 fun y329 =>
 endL y326 (let x330 : Int := (iwrap IntKind.i64 (x324 - x1));
 let x331 : Int := (iwrap IntKind.i64 (x2 - x324));
 let x332 : Int := (iwrap IntKind.i64 (Int.tdiv x10 (8 : Int)));
 let c333 : Bool := (ilt x330 x331);
 ifK c333
 (let c334 : Bool := (ile x332 x330);
 D 41 [(AV.one (V1.s (SV.sl l0))), (AV.one (V1.s (SV.int IntKind.i64 x1))), (AV.one (V1.s (SV.int IntKind.i64 x324))), (AV.one (V1.s (SV.int IntKind.i64 x3)))] S315 fun v335 S336 =>
 avT v335 fun y338 =>
 endL y338 (let x339 : Int := (iwrap IntKind.i64 (x324 + (1 : Int)));
 J 2 [(AV.one (V1.s (SV.sl l0))), (AV.one (V1.s (SV.int IntKind.i64 x339))), (AV.one (V1.s (SV.int IntKind.i64 x2))), (AV.one (V1.s (SV.int IntKind.i64 x3))), (AV.one (V1.s (SV.bool c334))), (AV.one (V1.s (SV.bool y329)))] S336 K))
 (let c343 : Bool := (ile x332 x331);
 let x344 : Int := (iwrap IntKind.i64 (x324 + (1 : Int)));
 D 41 [(AV.one (V1.s (SV.sl l0))), (AV.one (V1.s (SV.int IntKind.i64 x344))), (AV.one (V1.s (SV.int IntKind.i64 x2))), (AV.one (V1.s (SV.int IntKind.i64 x3)))] S315 fun v345 S346 =>
 avT v345 fun y348 =>
 endL y348 (J 2 [(AV.one (V1.s (SV.sl l0))), (AV.one (V1.s (SV.int IntKind.i64 x1))), (AV.one (V1.s (SV.int IntKind.i64 x324))), (AV.one (V1.s (SV.int IntKind.i64 x3))), (AV.one (V1.s (SV.bool c343))), (AV.one (V1.s (SV.bool y329)))] S346 K))))
noncomputable def X41_27 : X := (.br (.op (.op (.jmp 2 [0, 1, 2, 3, 8, 9]))) (.op (.op (.op (.op (.op (.br (.op (.op (.op (.jmp 2 [0, 1, 2, 3, 8, 9])))) (.op (.op (.op (.jmp 2 [0, 1, 2, 3, 8, 9])))))))))))
theorem F41_27_eq (D J : Disp) (l0 : LV) (x1 : Int) (x2 : Int) (x3 : Int) (c8 : Bool) (c9 : Bool) (x10 : Int) (x11 : Int) (c87 : Bool) (S : St) (K : AV → St → Prop) : F41_27 D J l0 x1 x2 x3 c8 c9 x10 x11 c87 S K = execK GraphP GraphG Go.Proofs.Try.f41 (typed GraphP D) J plans41 X41_27 (T41 27).1 (envOf (T41 27).2 [(AV.one (V1.s (SV.sl l0))), (AV.one (V1.s (SV.int IntKind.i64 x1))), (AV.one (V1.s (SV.int IntKind.i64 x2))), (AV.one (V1.s (SV.int IntKind.i64 x3))), (AV.one (V1.s (SV.bool c8))), (AV.one (V1.s (SV.bool c9))), (AV.one (V1.s (SV.int IntKind.i64 x10))), (AV.one (V1.s (SV.int IntKind.i64 x11))), (AV.one (V1.s (SV.bool c87)))]) S K := by kernel_rfl
noncomputable abbrev A41_0 (D J : Disp) (vals : List AV) (S : St) (K : AV → St → Prop) : Prop :=
  uncA vals fun a9001 r9002 => scK a9001 fun s9004 => SV.cL s9004 fun l0 => uncA r9002 fun a9007 r9008 => scK a9007 fun s9010 => SV.cI IntKind.i64 s9010 fun x1 => uncA r9008 fun a9013 r9014 => scK a9013 fun s9016 => SV.cI IntKind.i64 s9016 fun x2 => uncA r9014 fun a9019 r9020 => scK a9019 fun s9022 => SV.cI IntKind.i64 s9022 fun x3 => endL r9020 <| F41_0 D J l0 x1 x2 x3 S K
theorem A41_0_ok {D J : Disp} (hD : DOK GraphP GraphG D) (hJ : JOK GraphP GraphG Go.Proofs.Try.f41 T41 J) {vals : List AV} {S : St} {K : AV → St → Prop} (h0 : A41_0 D J vals S K) : Runs GraphP GraphG Go.Proofs.Try.f41 (T41 0).1 (envOf (T41 0).2 vals) S K := by
  obtain ⟨a9001, r9002, rfl, h3⟩ := uncA_some h0
  obtain ⟨s9004, rfl, h5⟩ := scK_some h3
  obtain ⟨l0, rfl, h6⟩ := cL_some h5
  obtain ⟨a9007, r9008, rfl, h9⟩ := uncA_some h6
  obtain ⟨s9010, rfl, h11⟩ := scK_some h9
  obtain ⟨x1, rfl, h12⟩ := cI_some h11
  obtain ⟨a9013, r9014, rfl, h15⟩ := uncA_some h12
  obtain ⟨s9016, rfl, h17⟩ := scK_some h15
  obtain ⟨x2, rfl, h18⟩ := cI_some h17
  obtain ⟨a9019, r9020, rfl, h21⟩ := uncA_some h18
  obtain ⟨s9022, rfl, h23⟩ := scK_some h21
  obtain ⟨x3, rfl, h24⟩ := cI_some h23
  obtain ⟨rfl, h25⟩ := endL_some h24
  rw [F41_0_eq] at h25
  exact execK_runs hD.typed Graph_zero Graph_mixed hJ X41_0 (T41 0).1 (envOf (T41 0).2 _) S K (chk_of (by kernel_rfl) (by kernel_rfl)) h25
noncomputable abbrev A41_2 (D J : Disp) (vals : List AV) (S : St) (K : AV → St → Prop) : Prop :=
  uncA vals fun a9001 r9002 => scK a9001 fun s9004 => SV.cL s9004 fun l0 => uncA r9002 fun a9007 r9008 => scK a9007 fun s9010 => SV.cI IntKind.i64 s9010 fun x1 => uncA r9008 fun a9013 r9014 => scK a9013 fun s9016 => SV.cI IntKind.i64 s9016 fun x2 => uncA r9014 fun a9019 r9020 => scK a9019 fun s9022 => SV.cI IntKind.i64 s9022 fun x3 => uncA r9020 fun a9025 r9026 => scK a9025 fun s9028 => SV.cB s9028 fun c8 => uncA r9026 fun a9031 r9032 => scK a9031 fun s9034 => SV.cB s9034 fun c9 => endL r9032 <| F41_2 D J l0 x1 x2 x3 c8 c9 S K
theorem A41_2_ok {D J : Disp} (hD : DOK GraphP GraphG D) (hJ : JOK GraphP GraphG Go.Proofs.Try.f41 T41 J) {vals : List AV} {S : St} {K : AV → St → Prop} (h0 : A41_2 D J vals S K) : Runs GraphP GraphG Go.Proofs.Try.f41 (T41 2).1 (envOf (T41 2).2 vals) S K := by
  obtain ⟨a9001, r9002, rfl, h3⟩ := uncA_some h0
  obtain ⟨s9004, rfl, h5⟩ := scK_some h3
  obtain ⟨l0, rfl, h6⟩ := cL_some h5
  obtain ⟨a9007, r9008, rfl, h9⟩ := uncA_some h6
  obtain ⟨s9010, rfl, h11⟩ := scK_some h9
  obtain ⟨x1, rfl, h12⟩ := cI_some h11
  obtain ⟨a9013, r9014, rfl, h15⟩ := uncA_some h12
  obtain ⟨s9016, rfl, h17⟩ := scK_some h15
  obtain ⟨x2, rfl, h18⟩ := cI_some h17
  obtain ⟨a9019, r9020, rfl, h21⟩ := uncA_some h18
  obtain ⟨s9022, rfl, h23⟩ := scK_some h21
  obtain ⟨x3, rfl, h24⟩ := cI_some h23
  obtain ⟨a9025, r9026, rfl, h27⟩ := uncA_some h24
  obtain ⟨s9028, rfl, h29⟩ := scK_some h27
  obtain ⟨c8, rfl, h30⟩ := cB_some h29
  obtain ⟨a9031, r9032, rfl, h33⟩ := uncA_some h30
  obtain ⟨s9034, rfl, h35⟩ := scK_some h33
  obtain ⟨c9, rfl, h36⟩ := cB_some h35
  obtain ⟨rfl, h37⟩ := endL_some h36
  rw [F41_2_eq] at h37
  exact execK_runs hD.typed Graph_zero Graph_mixed hJ X41_2 (T41 2).1 (envOf (T41 2).2 _) S K (chk_of (by kernel_rfl) (by kernel_rfl)) h37
noncomputable abbrev A41_15 (D J : Disp) (vals : List AV) (S : St) (K : AV → St → Prop) : Prop :=
  uncA vals fun a9001 r9002 => scK a9001 fun s9004 => SV.cL s9004 fun l0 => uncA r9002 fun a9007 r9008 => scK a9007 fun s9010 => SV.cI IntKind.i64 s9010 fun x1 => uncA r9008 fun a9013 r9014 => scK a9013 fun s9016 => SV.cI IntKind.i64 s9016 fun x2 => uncA r9014 fun a9019 r9020 => scK a9019 fun s9022 => SV.cI IntKind.i64 s9022 fun x3 => uncA r9020 fun a9025 r9026 => scK a9025 fun s9028 => SV.cB s9028 fun c8 => uncA r9026 fun a9031 r9032 => scK a9031 fun s9034 => SV.cB s9034 fun c9 => uncA r9032 fun a9037 r9038 => scK a9037 fun s9040 => SV.cI IntKind.i64 s9040 fun x10 => endL r9038 <| F41_15 D J l0 x1 x2 x3 c8 c9 x10 S K
theorem A41_15_ok {D J : Disp} (hD : DOK GraphP GraphG D) (hJ : JOK GraphP GraphG Go.Proofs.Try.f41 T41 J) {vals : List AV} {S : St} {K : AV → St → Prop} (h0 : A41_15 D J vals S K) : Runs GraphP GraphG Go.Proofs.Try.f41 (T41 15).1 (envOf (T41 15).2 vals) S K := by
  obtain ⟨a9001, r9002, rfl, h3⟩ := uncA_some h0
  obtain ⟨s9004, rfl, h5⟩ := scK_some h3
  obtain ⟨l0, rfl, h6⟩ := cL_some h5
  obtain ⟨a9007, r9008, rfl, h9⟩ := uncA_some h6
  obtain ⟨s9010, rfl, h11⟩ := scK_some h9
  obtain ⟨x1, rfl, h12⟩ := cI_some h11
  obtain ⟨a9013, r9014, rfl, h15⟩ := uncA_some h12
  obtain ⟨s9016, rfl, h17⟩ := scK_some h15
  obtain ⟨x2, rfl, h18⟩ := cI_some h17
  obtain ⟨a9019, r9020, rfl, h21⟩ := uncA_some h18
  obtain ⟨s9022, rfl, h23⟩ := scK_some h21
  obtain ⟨x3, rfl, h24⟩ := cI_some h23
  obtain ⟨a9025, r9026, rfl, h27⟩ := uncA_some h24
  obtain ⟨s9028, rfl, h29⟩ := scK_some h27
  obtain ⟨c8, rfl, h30⟩ := cB_some h29
  obtain ⟨a9031, r9032, rfl, h33⟩ := uncA_some h30
  obtain ⟨s9034, rfl, h35⟩ := scK_some h33
  obtain ⟨c9, rfl, h36⟩ := cB_some h35
  obtain ⟨a9037, r9038, rfl, h39⟩ := uncA_some h36
  obtain ⟨s9040, rfl, h41⟩ := scK_some h39
  obtain ⟨x10, rfl, h42⟩ := cI_some h41
  obtain ⟨rfl, h43⟩ := endL_some h42
  rw [F41_15_eq] at h43
  exact execK_runs hD.typed Graph_zero Graph_mixed hJ X41_15 (T41 15).1 (envOf (T41 15).2 _) S K (chk_of (by kernel_rfl) (by kernel_rfl)) h43
noncomputable abbrev A41_21 (D J : Disp) (vals : List AV) (S : St) (K : AV → St → Prop) : Prop :=
  uncA vals fun a9001 r9002 => scK a9001 fun s9004 => SV.cL s9004 fun l0 => uncA r9002 fun a9007 r9008 => scK a9007 fun s9010 => SV.cI IntKind.i64 s9010 fun x1 => uncA r9008 fun a9013 r9014 => scK a9013 fun s9016 => SV.cI IntKind.i64 s9016 fun x2 => uncA r9014 fun a9019 r9020 => scK a9019 fun s9022 => SV.cI IntKind.i64 s9022 fun x3 => uncA r9020 fun a9025 r9026 => scK a9025 fun s9028 => SV.cB s9028 fun c8 => uncA r9026 fun a9031 r9032 => scK a9031 fun s9034 => SV.cB s9034 fun c9 => uncA r9032 fun a9037 r9038 => scK a9037 fun s9040 => SV.cI IntKind.i64 s9040 fun x10 => uncA r9038 fun a9043 r9044 => scK a9043 fun s9046 => SV.cI IntKind.i64 s9046 fun x11 => uncA r9044 fun a9049 r9050 => scK a9049 fun s9052 => SV.cI IntKind.i64 s9052 fun x12 => endL r9050 <| F41_21 D J l0 x1 x2 x3 c8 c9 x10 x11 x12 S K
theorem A41_21_ok {D J : Disp} (hD : DOK GraphP GraphG D) (hJ : JOK GraphP GraphG Go.Proofs.Try.f41 T41 J) {vals : List AV} {S : St} {K : AV → St → Prop} (h0 : A41_21 D J vals S K) : Runs GraphP GraphG Go.Proofs.Try.f41 (T41 21).1 (envOf (T41 21).2 vals) S K := by
  obtain ⟨a9001, r9002, rfl, h3⟩ := uncA_some h0
  obtain ⟨s9004, rfl, h5⟩ := scK_some h3
  obtain ⟨l0, rfl, h6⟩ := cL_some h5
  obtain ⟨a9007, r9008, rfl, h9⟩ := uncA_some h6
  obtain ⟨s9010, rfl, h11⟩ := scK_some h9
  obtain ⟨x1, rfl, h12⟩ := cI_some h11
  obtain ⟨a9013, r9014, rfl, h15⟩ := uncA_some h12
  obtain ⟨s9016, rfl, h17⟩ := scK_some h15
  obtain ⟨x2, rfl, h18⟩ := cI_some h17
  obtain ⟨a9019, r9020, rfl, h21⟩ := uncA_some h18
  obtain ⟨s9022, rfl, h23⟩ := scK_some h21
  obtain ⟨x3, rfl, h24⟩ := cI_some h23
  obtain ⟨a9025, r9026, rfl, h27⟩ := uncA_some h24
  obtain ⟨s9028, rfl, h29⟩ := scK_some h27
  obtain ⟨c8, rfl, h30⟩ := cB_some h29
  obtain ⟨a9031, r9032, rfl, h33⟩ := uncA_some h30
  obtain ⟨s9034, rfl, h35⟩ := scK_some h33
  obtain ⟨c9, rfl, h36⟩ := cB_some h35
  obtain ⟨a9037, r9038, rfl, h39⟩ := uncA_some h36
  obtain ⟨s9040, rfl, h41⟩ := scK_some h39
  obtain ⟨x10, rfl, h42⟩ := cI_some h41
  obtain ⟨a9043, r9044, rfl, h45⟩ := uncA_some h42
  obtain ⟨s9046, rfl, h47⟩ := scK_some h45
  obtain ⟨x11, rfl, h48⟩ := cI_some h47
  obtain ⟨a9049, r9050, rfl, h51⟩ := uncA_some h48
  obtain ⟨s9052, rfl, h53⟩ := scK_some h51
  obtain ⟨x12, rfl, h54⟩ := cI_some h53
  obtain ⟨rfl, h55⟩ := endL_some h54
  rw [F41_21_eq] at h55
  exact execK_runs hD.typed Graph_zero Graph_mixed hJ X41_21 (T41 21).1 (envOf (T41 21).2 _) S K (chk_of (by kernel_rfl) (by kernel_rfl)) h55
noncomputable abbrev A41_22 (D J : Disp) (vals : List AV) (S : St) (K : AV → St → Prop) : Prop :=
  uncA vals fun a9001 r9002 => scK a9001 fun s9004 => SV.cL s9004 fun l0 => uncA r9002 fun a9007 r9008 => scK a9007 fun s9010 => SV.cI IntKind.i64 s9010 fun x1 => uncA r9008 fun a9013 r9014 => scK a9013 fun s9016 => SV.cI IntKind.i64 s9016 fun x2 => uncA r9014 fun a9019 r9020 => scK a9019 fun s9022 => SV.cI IntKind.i64 s9022 fun x3 => uncA r9020 fun a9025 r9026 => scK a9025 fun s9028 => SV.cB s9028 fun c8 => uncA r9026 fun a9031 r9032 => scK a9031 fun s9034 => SV.cB s9034 fun c9 => uncA r9032 fun a9037 r9038 => scK a9037 fun s9040 => SV.cI IntKind.i64 s9040 fun x10 => uncA r9038 fun a9043 r9044 => scK a9043 fun s9046 => SV.cI IntKind.i64 s9046 fun x11 => uncA r9044 fun a9049 r9050 => scK a9049 fun s9052 => SV.cB s9052 fun c68 => endL r9050 <| F41_22 D J l0 x1 x2 x3 c8 c9 x10 x11 c68 S K
theorem A41_22_ok {D J : Disp} (hD : DOK GraphP GraphG D) (hJ : JOK GraphP GraphG Go.Proofs.Try.f41 T41 J) {vals : List AV} {S : St} {K : AV → St → Prop} (h0 : A41_22 D J vals S K) : Runs GraphP GraphG Go.Proofs.Try.f41 (T41 22).1 (envOf (T41 22).2 vals) S K := by
  obtain ⟨a9001, r9002, rfl, h3⟩ := uncA_some h0
  obtain ⟨s9004, rfl, h5⟩ := scK_some h3
  obtain ⟨l0, rfl, h6⟩ := cL_some h5
  obtain ⟨a9007, r9008, rfl, h9⟩ := uncA_some h6
  obtain ⟨s9010, rfl, h11⟩ := scK_some h9
  obtain ⟨x1, rfl, h12⟩ := cI_some h11
  obtain ⟨a9013, r9014, rfl, h15⟩ := uncA_some h12
  obtain ⟨s9016, rfl, h17⟩ := scK_some h15
  obtain ⟨x2, rfl, h18⟩ := cI_some h17
  obtain ⟨a9019, r9020, rfl, h21⟩ := uncA_some h18
  obtain ⟨s9022, rfl, h23⟩ := scK_some h21
  obtain ⟨x3, rfl, h24⟩ := cI_some h23
  obtain ⟨a9025, r9026, rfl, h27⟩ := uncA_some h24
  obtain ⟨s9028, rfl, h29⟩ := scK_some h27
  obtain ⟨c8, rfl, h30⟩ := cB_some h29
  obtain ⟨a9031, r9032, rfl, h33⟩ := uncA_some h30
  obtain ⟨s9034, rfl, h35⟩ := scK_some h33
  obtain ⟨c9, rfl, h36⟩ := cB_some h35
  obtain ⟨a9037, r9038, rfl, h39⟩ := uncA_some h36
  obtain ⟨s9040, rfl, h41⟩ := scK_some h39
  obtain ⟨x10, rfl, h42⟩ := cI_some h41
  obtain ⟨a9043, r9044, rfl, h45⟩ := uncA_some h42
  obtain ⟨s9046, rfl, h47⟩ := scK_some h45
  obtain ⟨x11, rfl, h48⟩ := cI_some h47
  obtain ⟨a9049, r9050, rfl, h51⟩ := uncA_some h48
  obtain ⟨s9052, rfl, h53⟩ := scK_some h51
  obtain ⟨c68, rfl, h54⟩ := cB_some h53
  obtain ⟨rfl, h55⟩ := endL_some h54
  rw [F41_22_eq] at h55
  exact execK_runs hD.typed Graph_zero Graph_mixed hJ X41_22 (T41 22).1 (envOf (T41 22).2 _) S K (chk_of (by kernel_rfl) (by kernel_rfl)) h55
noncomputable abbrev A41_26 (D J : Disp) (vals : List AV) (S : St) (K : AV → St → Prop) : Prop :=
  uncA vals fun a9001 r9002 => scK a9001 fun s9004 => SV.cL s9004 fun l0 => uncA r9002 fun a9007 r9008 => scK a9007 fun s9010 => SV.cI IntKind.i64 s9010 fun x1 => uncA r9008 fun a9013 r9014 => scK a9013 fun s9016 => SV.cI IntKind.i64 s9016 fun x2 => uncA r9014 fun a9019 r9020 => scK a9019 fun s9022 => SV.cI IntKind.i64 s9022 fun x3 => uncA r9020 fun a9025 r9026 => scK a9025 fun s9028 => SV.cB s9028 fun c8 => uncA r9026 fun a9031 r9032 => scK a9031 fun s9034 => SV.cB s9034 fun c9 => uncA r9032 fun a9037 r9038 => scK a9037 fun s9040 => SV.cI IntKind.i64 s9040 fun x10 => uncA r9038 fun a9043 r9044 => scK a9043 fun s9046 => SV.cI IntKind.i64 s9046 fun x11 => endL r9044 <| F41_26 D J l0 x1 x2 x3 c8 c9 x10 x11 S K
theorem A41_26_ok {D J : Disp} (hD : DOK GraphP GraphG D) (hJ : JOK GraphP GraphG Go.Proofs.Try.f41 T41 J) {vals : List AV} {S : St} {K : AV → St → Prop} (h0 : A41_26 D J vals S K) : Runs GraphP GraphG Go.Proofs.Try.f41 (T41 26).1 (envOf (T41 26).2 vals) S K := by
  obtain ⟨a9001, r9002, rfl, h3⟩ := uncA_some h0
  obtain ⟨s9004, rfl, h5⟩ := scK_some h3
  obtain ⟨l0, rfl, h6⟩ := cL_some h5
  obtain ⟨a9007, r9008, rfl, h9⟩ := uncA_some h6
  obtain ⟨s9010, rfl, h11⟩ := scK_some h9
  obtain ⟨x1, rfl, h12⟩ := cI_some h11
  obtain ⟨a9013, r9014, rfl, h15⟩ := uncA_some h12
  obtain ⟨s9016, rfl, h17⟩ := scK_some h15
  obtain ⟨x2, rfl, h18⟩ := cI_some h17
  obtain ⟨a9019, r9020, rfl, h21⟩ := uncA_some h18
  obtain ⟨s9022, rfl, h23⟩ := scK_some h21
  obtain ⟨x3, rfl, h24⟩ := cI_some h23
  obtain ⟨a9025, r9026, rfl, h27⟩ := uncA_some h24
  obtain ⟨s9028, rfl, h29⟩ := scK_some h27
  obtain ⟨c8, rfl, h30⟩ := cB_some h29
  obtain ⟨a9031, r9032, rfl, h33⟩ := uncA_some h30
  obtain ⟨s9034, rfl, h35⟩ := scK_some h33
  obtain ⟨c9, rfl, h36⟩ := cB_some h35
  obtain ⟨a9037, r9038, rfl, h39⟩ := uncA_some h36
  obtain ⟨s9040, rfl, h41⟩ := scK_some h39
  obtain ⟨x10, rfl, h42⟩ := cI_some h41
  obtain ⟨a9043, r9044, rfl, h45⟩ := uncA_some h42
  obtain ⟨s9046, rfl, h47⟩ := scK_some h45
  obtain ⟨x11, rfl, h48⟩ := cI_some h47
  obtain ⟨rfl, h49⟩ := endL_some h48
  rw [F41_26_eq] at h49
  exact execK_runs hD.typed Graph_zero Graph_mixed hJ X41_26 (T41 26).1 (envOf (T41 26).2 _) S K (chk_of (by kernel_rfl) (by kernel_rfl)) h49
noncomputable abbrev A41_27 (D J : Disp) (vals : List AV) (S : St) (K : AV → St → Prop) : Prop :=
  uncA vals fun a9001 r9002 => scK a9001 fun s9004 => SV.cL s9004 fun l0 => uncA r9002 fun a9007 r9008 => scK a9007 fun s9010 => SV.cI IntKind.i64 s9010 fun x1 => uncA r9008 fun a9013 r9014 => scK a9013 fun s9016 => SV.cI IntKind.i64 s9016 fun x2 => uncA r9014 fun a9019 r9020 => scK a9019 fun s9022 => SV.cI IntKind.i64 s9022 fun x3 => uncA r9020 fun a9025 r9026 => scK a9025 fun s9028 => SV.cB s9028 fun c8 => uncA r9026 fun a9031 r9032 => scK a9031 fun s9034 => SV.cB s9034 fun c9 => uncA r9032 fun a9037 r9038 => scK a9037 fun s9040 => SV.cI IntKind.i64 s9040 fun x10 => uncA r9038 fun a9043 r9044 => scK a9043 fun s9046 => SV.cI IntKind.i64 s9046 fun x11 => uncA r9044 fun a9049 r9050 => scK a9049 fun s9052 => SV.cB s9052 fun c87 => endL r9050 <| F41_27 D J l0 x1 x2 x3 c8 c9 x10 x11 c87 S K
theorem A41_27_ok {D J : Disp} (hD : DOK GraphP GraphG D) (hJ : JOK GraphP GraphG Go.Proofs.Try.f41 T41 J) {vals : List AV} {S : St} {K : AV → St → Prop} (h0 : A41_27 D J vals S K) : Runs GraphP GraphG Go.Proofs.Try.f41 (T41 27).1 (envOf (T41 27).2 vals) S K := by
  obtain ⟨a9001, r9002, rfl, h3⟩ := uncA_some h0
  obtain ⟨s9004, rfl, h5⟩ := scK_some h3
  obtain ⟨l0, rfl, h6⟩ := cL_some h5
  obtain ⟨a9007, r9008, rfl, h9⟩ := uncA_some h6
  obtain ⟨s9010, rfl, h11⟩ := scK_some h9
  obtain ⟨x1, rfl, h12⟩ := cI_some h11
  obtain ⟨a9013, r9014, rfl, h15⟩ := uncA_some h12
  obtain ⟨s9016, rfl, h17⟩ := scK_some h15
  obtain ⟨x2, rfl, h18⟩ := cI_some h17
  obtain ⟨a9019, r9020, rfl, h21⟩ := uncA_some h18
  obtain ⟨s9022, rfl, h23⟩ := scK_some h21
  obtain ⟨x3, rfl, h24⟩ := cI_some h23
  obtain ⟨a9025, r9026, rfl, h27⟩ := uncA_some h24
  obtain ⟨s9028, rfl, h29⟩ := scK_some h27
  obtain ⟨c8, rfl, h30⟩ := cB_some h29
  obtain ⟨a9031, r9032, rfl, h33⟩ := uncA_some h30
  obtain ⟨s9034, rfl, h35⟩ := scK_some h33
  obtain ⟨c9, rfl, h36⟩ := cB_some h35
  obtain ⟨a9037, r9038, rfl, h39⟩ := uncA_some h36
  obtain ⟨s9040, rfl, h41⟩ := scK_some h39
  obtain ⟨x10, rfl, h42⟩ := cI_some h41
  obtain ⟨a9043, r9044, rfl, h45⟩ := uncA_some h42
  obtain ⟨s9046, rfl, h47⟩ := scK_some h45
  obtain ⟨x11, rfl, h48⟩ := cI_some h47
  obtain ⟨a9049, r9050, rfl, h51⟩ := uncA_some h48
  obtain ⟨s9052, rfl, h53⟩ := scK_some h51
  obtain ⟨c87, rfl, h54⟩ := cB_some h53
  obtain ⟨rfl, h55⟩ := endL_some h54
  rw [F41_27_eq] at h55
  exact execK_runs hD.typed Graph_zero Graph_mixed hJ X41_27 (T41 27).1 (envOf (T41 27).2 _) S K (chk_of (by kernel_rfl) (by kernel_rfl)) h55
noncomputable def J41 (D : Disp) (k : Nat) : Disp := Nat.rec (motive := fun _ => Disp) Disp.no (fun _ ih => Disp.add 0 (A41_0 D ih) <| Disp.add 2 (A41_2 D ih) <| Disp.add 15 (A41_15 D ih) <| Disp.add 21 (A41_21 D ih) <| Disp.add 22 (A41_22 D ih) <| Disp.add 26 (A41_26 D ih) <| Disp.add 27 (A41_27 D ih) <| Disp.no) k
theorem J41_ok {D : Disp} (hD : DOK GraphP GraphG D) : ∀ k, JOK GraphP GraphG Go.Proofs.Try.f41 T41 (J41 D k)
  | 0 => JOK.no
  | k + 1 => JOK.add (ltB_ok (by kernel_rfl)) (fun vals S K h => A41_0_ok hD (J41_ok hD k) h) <| JOK.add (ltB_ok (by kernel_rfl)) (fun vals S K h => A41_2_ok hD (J41_ok hD k) h) <| JOK.add (ltB_ok (by kernel_rfl)) (fun vals S K h => A41_15_ok hD (J41_ok hD k) h) <| JOK.add (ltB_ok (by kernel_rfl)) (fun vals S K h => A41_21_ok hD (J41_ok hD k) h) <| JOK.add (ltB_ok (by kernel_rfl)) (fun vals S K h => A41_22_ok hD (J41_ok hD k) h) <| JOK.add (ltB_ok (by kernel_rfl)) (fun vals S K h => A41_26_ok hD (J41_ok hD k) h) <| JOK.add (ltB_ok (by kernel_rfl)) (fun vals S K h => A41_27_ok hD (J41_ok hD k) h) <| JOK.no
theorem E41_ok {D : Disp} (hD : DOK GraphP GraphG D) (k : Nat) {args : List AV} {S : St} {K : AV → St → Prop} (h : A41_0 D (J41 D k) args S K) : CallOK GraphP GraphG 41 args S K := by
  have hr := A41_0_ok hD (J41_ok hD k) h
  have hl : args.length = 4 := by
    have h0 := h
    obtain ⟨a9001, r9002, rfl, h3⟩ := uncA_some h0
    obtain ⟨s9004, rfl, h5⟩ := scK_some h3
    obtain ⟨l0, rfl, h6⟩ := cL_some h5
    obtain ⟨a9007, r9008, rfl, h9⟩ := uncA_some h6
    obtain ⟨s9010, rfl, h11⟩ := scK_some h9
    obtain ⟨x1, rfl, h12⟩ := cI_some h11
    obtain ⟨a9013, r9014, rfl, h15⟩ := uncA_some h12
    obtain ⟨s9016, rfl, h17⟩ := scK_some h15
    obtain ⟨x2, rfl, h18⟩ := cI_some h17
    obtain ⟨a9019, r9020, rfl, h21⟩ := uncA_some h18
    obtain ⟨s9022, rfl, h23⟩ := scK_some h21
    obtain ⟨x3, rfl, h24⟩ := cI_some h23
    obtain ⟨rfl, h25⟩ := endL_some h24
    rfl
  refine callOK_of (fn := Go.Proofs.Try.f41) (c := (match Go.Proofs.Try.f41.body with | some c => c | none => .skip)) (by kernel_rfl) (by kernel_rfl) (by kernel_rfl) (by rw [hl]; kernel_rfl) (by kernel_rfl) ?_
  rw [hl]
  exact hr
noncomputable def plans42 (i : Nat) : Plan := []
noncomputable def T42 (p : Nat) : List Item × List Nat := bif Nat.beq p 0 then ([.code (match Go.Proofs.Try.f42.body with | some c => c | none => .skip)], [0]) else
  ([], [])
noncomputable def F42_0 (D J : Disp) (x0 : Int) (S : St) (K : AV → St → Prop) : Prop :=
 D 58 [(AV.one (V1.s (SV.int IntKind.u64 x0)))] S fun v300 S301 =>
 scK v300 fun v303 =>
 SV.cI IntKind.i64 v303 fun x306 =>
 K ((AV.one (V1.s (SV.int IntKind.i64 x306)))) S301
noncomputable def X42_0 : X := (.op (.br .ret (.op .ret)))
theorem F42_0_eq (D J : Disp) (x0 : Int) (S : St) (K : AV → St → Prop) : F42_0 D J x0 S K = execK GraphP GraphG Go.Proofs.Try.f42 (typed GraphP D) J plans42 X42_0 (T42 0).1 (envOf (T42 0).2 [(AV.one (V1.s (SV.int IntKind.u64 x0)))]) S K := by kernel_rfl
noncomputable abbrev A42_0 (D J : Disp) (vals : List AV) (S : St) (K : AV → St → Prop) : Prop :=
  uncA vals fun a9001 r9002 => scK a9001 fun s9004 => SV.cI IntKind.u64 s9004 fun x0 => endL r9002 <| F42_0 D J x0 S K
theorem A42_0_ok {D J : Disp} (hD : DOK GraphP GraphG D) (hJ : JOK GraphP GraphG Go.Proofs.Try.f42 T42 J) {vals : List AV} {S : St} {K : AV → St → Prop} (h0 : A42_0 D J vals S K) : Runs GraphP GraphG Go.Proofs.Try.f42 (T42 0).1 (envOf (T42 0).2 vals) S K := by
  obtain ⟨a9001, r9002, rfl, h3⟩ := uncA_some h0
  obtain ⟨s9004, rfl, h5⟩ := scK_some h3
  obtain ⟨x0, rfl, h6⟩ := cI_some h5
  obtain ⟨rfl, h7⟩ := endL_some h6
  rw [F42_0_eq] at h7
  exact execK_runs hD.typed Graph_zero Graph_mixed hJ X42_0 (T42 0).1 (envOf (T42 0).2 _) S K (chk_of (by kernel_rfl) (by kernel_rfl)) h7
noncomputable def J42 (D : Disp) (k : Nat) : Disp := Nat.rec (motive := fun _ => Disp) Disp.no (fun _ ih => Disp.add 0 (A42_0 D ih) <| Disp.no) k
theorem J42_ok {D : Disp} (hD : DOK GraphP GraphG D) : ∀ k, JOK GraphP GraphG Go.Proofs.Try.f42 T42 (J42 D k)
  | 0 => JOK.no
  | k + 1 => JOK.add (ltB_ok (by kernel_rfl)) (fun vals S K h => A42_0_ok hD (J42_ok hD k) h) <| JOK.no
theorem E42_ok {D : Disp} (hD : DOK GraphP GraphG D) (k : Nat) {args : List AV} {S : St} {K : AV → St → Prop} (h : A42_0 D (J42 D k) args S K) : CallOK GraphP GraphG 42 args S K := by
  have hr := A42_0_ok hD (J42_ok hD k) h
  have hl : args.length = 1 := by
    have h0 := h
    obtain ⟨a9001, r9002, rfl, h3⟩ := uncA_some h0
    obtain ⟨s9004, rfl, h5⟩ := scK_some h3
    obtain ⟨x0, rfl, h6⟩ := cI_some h5
    obtain ⟨rfl, h7⟩ := endL_some h6
    rfl
  refine callOK_of (fn := Go.Proofs.Try.f42) (c := (match Go.Proofs.Try.f42.body with | some c => c | none => .skip)) (by kernel_rfl) (by kernel_rfl) (by kernel_rfl) (by rw [hl]; kernel_rfl) (by kernel_rfl) ?_
  rw [hl]
  exact hr
noncomputable def plans44 (i : Nat) : Plan := []
noncomputable def T44 (p : Nat) : List Item × List Nat := bif Nat.beq p 0 then ([.code (match Go.Proofs.Try.f44.body with | some c => c | none => .skip)], [0, 1]) else
  bif Nat.beq p 2 then (navs [.op, .op] [.code (match Go.Proofs.Try.f44.body with | some c => c | none => .skip)], [2, 3, 16]) else
  bif Nat.beq p 6 then (navs [.op, .op, .el, .op] [.code (match Go.Proofs.Try.f44.body with | some c => c | none => .skip)], [2, 3, 18, 19, 20]) else
  bif Nat.beq p 15 then (navs [.op, .op, .el, .op, .op, .el, .op] [.code (match Go.Proofs.Try.f44.body with | some c => c | none => .skip)], [2, 3, 7]) else
  bif Nat.beq p 17 then (navs [.op, .op, .el, .op, .op, .el, .op, .op, .op] [.code (match Go.Proofs.Try.f44.body with | some c => c | none => .skip)], [2, 3, 65]) else
  ([], [])
noncomputable def F44_0 (D J : Disp) (s0_0 : (List Nat)) (x0_1 : Int) (x0_2 : Int) (l0_3 : LV) (l0_4 : LV) (c0_5 : Bool) (x1_0 : Int) (x1_1 : Int) (x1_2 : Int) (x1_3 : Int) (x1_4 : Int) (x1_5 : Int) (x1_6 : Int) (c1_7 : Bool) (l1_8 : LV) (l1_9 : LV) (l1_10 : LV) (S : St) (K : AV → St → Prop) : Prop :=
 let S300 : St := (St.add S (AO.cells [(SV.str s0_0), (SV.int IntKind.i64 x0_1), (SV.int IntKind.i64 x0_2), (SV.sl l0_3), (SV.sl l0_4), (SV.bool c0_5)] Bool.false));
 let S301 : St := (St.add S300 (AO.cells [(SV.int IntKind.i64 x1_0), (SV.int IntKind.i64 x1_1), (SV.int IntKind.i64 x1_2), (SV.int IntKind.i64 x1_3), (SV.int IntKind.i64 x1_4), (SV.int IntKind.i64 x1_5), (SV.int IntKind.i64 x1_6), (SV.bool c1_7), (SV.sl l1_8), (SV.sl l1_9), (SV.sl l1_10)] Bool.false));
 St.at S301 (Bk.new (St.next S300)) 0 fun y302 =>
 uncK y302 fun v303 y304 =>
 SV.cI IntKind.i64 v303 fun x308 =>
 let c309 : Bool := (ile x308 (0 : Int));
 ifK c309
 (J 2 [(AV.one (V1.s (SV.ptr (PV.mk (Bk.new (St.next S)) 0)))), (AV.one (V1.s (SV.ptr (PV.mk (Bk.new (St.next S300)) 0)))), (AV.one (V1.s (SV.bool Bool.true)))] S301 K)
 (St.at S301 (Bk.new (St.next S300)) 0 fun y310 =>
 uncK y310 fun v311 y312 =>
 SV.cI IntKind.i64 v311 fun x316 =>
 let c317 : Bool := (ile (22 : Int) x316);
 J 2 [(AV.one (V1.s (SV.ptr (PV.mk (Bk.new (St.next S)) 0)))), (AV.one (V1.s (SV.ptr (PV.mk (Bk.new (St.next S300)) 0)))), (AV.one (V1.s (SV.bool c317)))] S301 K)
noncomputable def X44_0 : X := (.op (.op (.jmp 2 [2, 3, 16])))
theorem F44_0_eq (D J : Disp) (s0_0 : (List Nat)) (x0_1 : Int) (x0_2 : Int) (l0_3 : LV) (l0_4 : LV) (c0_5 : Bool) (x1_0 : Int) (x1_1 : Int) (x1_2 : Int) (x1_3 : Int) (x1_4 : Int) (x1_5 : Int) (x1_6 : Int) (c1_7 : Bool) (l1_8 : LV) (l1_9 : LV) (l1_10 : LV) (S : St) (K : AV → St → Prop) : F44_0 D J s0_0 x0_1 x0_2 l0_3 l0_4 c0_5 x1_0 x1_1 x1_2 x1_3 x1_4 x1_5 x1_6 c1_7 l1_8 l1_9 l1_10 S K = execK GraphP GraphG Go.Proofs.Try.f44 (typed GraphP D) J plans44 X44_0 (T44 0).1 (envOf (T44 0).2 [(AV.one (V1.agg [(SV.str s0_0), (SV.int IntKind.i64 x0_1), (SV.int IntKind.i64 x0_2), (SV.sl l0_3), (SV.sl l0_4), (SV.bool c0_5)])), (AV.one (V1.agg [(SV.int IntKind.i64 x1_0), (SV.int IntKind.i64 x1_1), (SV.int IntKind.i64 x1_2), (SV.int IntKind.i64 x1_3), (SV.int IntKind.i64 x1_4), (SV.int IntKind.i64 x1_5), (SV.int IntKind.i64 x1_6), (SV.bool c1_7), (SV.sl l1_8), (SV.sl l1_9), (SV.sl l1_10)]))]) S K := by kernel_rfl
noncomputable def F44_2 (D J : Disp) (p2 : PV) (p3 : PV) (c16 : Bool) (S : St) (K : AV → St → Prop) : Prop :=
 ifK c16
 (K ((AV.one (V1.s (SV.bool Bool.false)))) S)
 (PV.cs p3 fun b300 n301 =>
 St.at S b300 n301 fun y302 =>
 uncK y302 fun v303 y304 =>
 SV.cI IntKind.i64 v303 fun x308 =>
 uncK y304 fun v309 y310 =>
 SV.cI IntKind.i64 v309 fun x314 =>
 uncK y310 fun v315 y316 =>
 SV.cI IntKind.i64 v315 fun x320 =>
 uncK y316 fun v321 y322 =>
 SV.cI IntKind.i64 v321 fun x326 =>
 uncK y322 fun v327 y328 =>
 SV.cI IntKind.i64 v327 fun x332 =>
 uncK y328 fun v333 y334 =>
 SV.cI IntKind.i64 v333 fun x338 =>
 uncK y334 fun v339 y340 =>
 SV.cI IntKind.i64 v339 fun x344 =>
 uncK y340 fun v345 y346 =>
 SV.cB v345 fun y348 =>
 uncK y346 fun v349 y350 =>
 SV.cL v349 fun y357 =>
 uncK y350 fun v358 y359 =>
 SV.cL v358 fun y366 =>
 uncK y359 fun v367 y368 =>
 SV.cL v367 fun y375 =>
 D 59 [(AV.one (V1.agg [(SV.int IntKind.i64 x308), (SV.int IntKind.i64 x314), (SV.int IntKind.i64 x320), (SV.int IntKind.i64 x326), (SV.int IntKind.i64 x332), (SV.int IntKind.i64 x338), (SV.int IntKind.i64 x344), (SV.bool y348), (SV.sl y357), (SV.sl y366), (SV.sl y375)]))] S fun v376 S377 =>
 scK v376 fun v379 =>
 SV.cL v379 fun y385 =>
 let x386 : Int := (Int.ofNat (LV.len y385));
 J 6 [(AV.one (V1.s (SV.ptr p2))), (AV.one (V1.s (SV.ptr p3))), (AV.one (V1.s (SV.sl y385))), (AV.one (V1.s (SV.int IntKind.i64 x386))), (AV.one (V1.s (SV.int IntKind.i64 (0 : Int))))] S377 K)
noncomputable def X44_2 : X := (.br (.op .ret) (.op (.jmp 6 [2, 3, 18, 19, 20])))
theorem F44_2_eq (D J : Disp) (p2 : PV) (p3 : PV) (c16 : Bool) (S : St) (K : AV → St → Prop) : F44_2 D J p2 p3 c16 S K = execK GraphP GraphG Go.Proofs.Try.f44 (typed GraphP D) J plans44 X44_2 (T44 2).1 (envOf (T44 2).2 [(AV.one (V1.s (SV.ptr p2))), (AV.one (V1.s (SV.ptr p3))), (AV.one (V1.s (SV.bool c16)))]) S K := by kernel_rfl
noncomputable def F44_6 (D J : Disp) (p2 : PV) (p3 : PV) (l18 : LV) (x19 : Int) (x20 : Int) (S : St) (K : AV → St → Prop) : Prop :=
 let c300 : Bool := (ilt x20 x19);
 ifK c300
 (LV.cs l18 fun b301 n302 n303 y304 =>
 req (Bool.and (ile (0 : Int) x20) (ilt x20 (Int.ofNat n303))) <|
 let n305 : Nat := (n302 + ((Int.toNat x20) * 1));
 St.at S b301 n305 fun y306 =>
 uncK y306 fun v307 y308 =>
 SV.cI IntKind.i64 v307 fun x312 =>
 PV.cs p2 fun b313 n314 =>
 let n315 : Nat := (n314 + 2);
 St.at S b313 n315 fun y316 =>
 uncK y316 fun v317 y318 =>
 SV.cI IntKind.i64 v317 fun x322 =>
 D 31 [(AV.one (V1.s (SV.int IntKind.i64 x312))), (AV.one (V1.s (SV.int IntKind.i64 x322)))] S fun v323 S324 =>
 scK v323 fun v326 =>
 SV.cB v326 fun y327 =>
 let c328 : Bool := (Bool.not y327);
 ifK c328
 (K ((AV.one (V1.s (SV.bool Bool.false)))) S324)
 (let x329 : Int := (iwrap IntKind.i64 (x20 + (1 : Int)));
 J 6 [(AV.one (V1.s (SV.ptr p2))), (AV.one (V1.s (SV.ptr p3))), (AV.one (V1.s (SV.sl l18))), (AV.one (V1.s (SV.int IntKind.i64 x19))), (AV.one (V1.s (SV.int IntKind.i64 x329)))] S324 K))
 (PV.cs p3 fun b349 n350 =>
 let n351 : Nat := (n350 + 0);
 St.at S b349 n351 fun y352 =>
 uncK y352 fun v353 y354 =>
 SV.cI IntKind.i64 v353 fun x358 =>
 let c359 : Bool := (ieq x358 (10 : Int));
 ifK c359
 (J 15 [(AV.one (V1.s (SV.ptr p2))), (AV.one (V1.s (SV.ptr p3))), (AV.one (V1.s (SV.bool Bool.true)))] S K)
 (PV.cs p3 fun b360 n361 =>
 let n362 : Nat := (n361 + 0);
 St.at S b360 n362 fun y363 =>
 uncK y363 fun v364 y365 =>
 SV.cI IntKind.i64 v364 fun x369 =>
 let c370 : Bool := (ieq x369 (11 : Int));
 J 15 [(AV.one (V1.s (SV.ptr p2))), (AV.one (V1.s (SV.ptr p3))), (AV.one (V1.s (SV.bool c370)))] S K))
noncomputable def X44_6 : X := (.op (.br (.op (.op (.br (.op .ret) (.op (.jmp 6 [2, 3, 18, 19, 20]))))) (.op (.jmp 15 [2, 3, 7]))))
theorem F44_6_eq (D J : Disp) (p2 : PV) (p3 : PV) (l18 : LV) (x19 : Int) (x20 : Int) (S : St) (K : AV → St → Prop) : F44_6 D J p2 p3 l18 x19 x20 S K = execK GraphP GraphG Go.Proofs.Try.f44 (typed GraphP D) J plans44 X44_6 (T44 6).1 (envOf (T44 6).2 [(AV.one (V1.s (SV.ptr p2))), (AV.one (V1.s (SV.ptr p3))), (AV.one (V1.s (SV.sl l18))), (AV.one (V1.s (SV.int IntKind.i64 x19))), (AV.one (V1.s (SV.int IntKind.i64 x20)))]) S K := by kernel_rfl
noncomputable def F44_15 (D J : Disp) (p2 : PV) (p3 : PV) (c7 : Bool) (S : St) (K : AV → St → Prop) : Prop :=
 PV.cs p3 fun b300 n301 =>
 St.at S b300 n301 fun y302 =>
 uncK y302 fun v303 y304 =>
 SV.cI IntKind.i64 v303 fun x308 =>
 uncK y304 fun v309 y310 =>
 SV.cI IntKind.i64 v309 fun x314 =>
 uncK y310 fun v315 y316 =>
 SV.cI IntKind.i64 v315 fun x320 =>
 uncK y316 fun v321 y322 =>
 SV.cI IntKind.i64 v321 fun x326 =>
 uncK y322 fun v327 y328 =>
 SV.cI IntKind.i64 v327 fun x332 =>
 uncK y328 fun v333 y334 =>
 SV.cI IntKind.i64 v333 fun x338 =>
 uncK y334 fun v339 y340 =>
 SV.cI IntKind.i64 v339 fun x344 =>
 uncK y340 fun v345 y346 =>
 SV.cB v345 fun y348 =>
 uncK y346 fun v349 y350 =>
 SV.cL v349 fun y357 =>
 uncK y350 fun v358 y359 =>
 SV.cL v358 fun y366 =>
 uncK y359 fun v367 y368 =>
 SV.cL v367 fun y375 =>
 D 60 [(AV.one (V1.agg [(SV.int IntKind.i64 x308), (SV.int IntKind.i64 x314), (SV.int IntKind.i64 x320), (SV.int IntKind.i64 x326), (SV.int IntKind.i64 x332), (SV.int IntKind.i64 x338), (SV.int IntKind.i64 x344), (SV.bool y348), (SV.sl y357), (SV.sl y366), (SV.sl y375)]))] S fun v376 S377 =>
 scK v376 fun v379 =>
 SV.cI IntKind.i64 v379 fun x382 =>
 let c383 : Bool := (Bool.not (ieq x382 (Int.negSucc 0)));
 ifK c383
 (PV.cs p2 fun b384 n385 =>
 let n386 : Nat := (n385 + 2);
 St.at S377 b384 n386 fun y387 =>
 uncK y387 fun v388 y389 =>
 SV.cI IntKind.i64 v388 fun x393 =>
 D 31 [(AV.one (V1.s (SV.int IntKind.i64 x382))), (AV.one (V1.s (SV.int IntKind.i64 x393)))] S377 fun v394 S395 =>
 scK v394 fun v397 =>
 SV.cB v397 fun y398 =>
 let c399 : Bool := (Bool.not y398);
 ifK c399
 (J 17 [(AV.one (V1.s (SV.ptr p2))), (AV.one (V1.s (SV.ptr p3))), (AV.one (V1.s (SV.bool Bool.true)))] S395 K)
 (let c400 : Bool := (ieq x382 (Int.negSucc 0));
 ifK c400
 (PV.cs p3 fun b401 n402 =>
 let n403 : Nat := (n402 + 2);
 St.at S395 b401 n403 fun y404 =>
 uncK y404 fun v405 y406 =>
 SV.cI IntKind.i64 v405 fun x410 =>
 let c411 : Bool := (ieq x410 (Int.negSucc 0));
 ifK c411
 (let c412 : Bool := (Bool.not c7);
 ifK c412
 (PV.cs p3 fun b413 n414 =>
 St.at S395 b413 n414 fun y415 =>
 uncK y415 fun v416 y417 =>
 SV.cI IntKind.i64 v416 fun x421 =>
 uncK y417 fun v422 y423 =>
 SV.cI IntKind.i64 v422 fun x427 =>
 uncK y423 fun v428 y429 =>
 SV.cI IntKind.i64 v428 fun x433 =>
 uncK y429 fun v434 y435 =>
 SV.cI IntKind.i64 v434 fun x439 =>
 uncK y435 fun v440 y441 =>
 SV.cI IntKind.i64 v440 fun x445 =>
 uncK y441 fun v446 y447 =>
 SV.cI IntKind.i64 v446 fun x451 =>
 uncK y447 fun v452 y453 =>
 SV.cI IntKind.i64 v452 fun x457 =>
 uncK y453 fun v458 y459 =>
 SV.cB v458 fun y461 =>
 uncK y459 fun v462 y463 =>
 SV.cL v462 fun y470 =>
 uncK y463 fun v471 y472 =>
 SV.cL v471 fun y479 =>
 uncK y472 fun v480 y481 =>
 SV.cL v480 fun y488 =>
 D 61 [(AV.one (V1.agg [(SV.int IntKind.i64 x421), (SV.int IntKind.i64 x427), (SV.int IntKind.i64 x433), (SV.int IntKind.i64 x439), (SV.int IntKind.i64 x445), (SV.int IntKind.i64 x451), (SV.int IntKind.i64 x457), (SV.bool y461), (SV.sl y470), (SV.sl y479), (SV.sl y488)]))] S395 fun v489 S490 =>
 scK v489 fun v492 =>
 SV.cB v492 fun y493 =>
 J 17 [(AV.one (V1.s (SV.ptr p2))), (AV.one (V1.s (SV.ptr p3))), (AV.one (V1.s (SV.bool y493)))] S490 K)
 (J 17 [(AV.one (V1.s (SV.ptr p2))), (AV.one (V1.s (SV.ptr p3))), (AV.one (V1.s (SV.bool Bool.false)))] S395 K))
 (J 17 [(AV.one (V1.s (SV.ptr p2))), (AV.one (V1.s (SV.ptr p3))), (AV.one (V1.s (SV.bool Bool.false)))] S395 K))
 (J 17 [(AV.one (V1.s (SV.ptr p2))), (AV.one (V1.s (SV.ptr p3))), (AV.one (V1.s (SV.bool Bool.false)))] S395 K)))
 (let c570 : Bool := (ieq x382 (Int.negSucc 0));
 ifK c570
 (PV.cs p3 fun b571 n572 =>
 let n573 : Nat := (n572 + 2);
 St.at S377 b571 n573 fun y574 =>
 uncK y574 fun v575 y576 =>
 SV.cI IntKind.i64 v575 fun x580 =>
 let c581 : Bool := (ieq x580 (Int.negSucc 0));
 ifK c581
 (let c582 : Bool := (Bool.not c7);
 ifK c582
 (PV.cs p3 fun b583 n584 =>
 St.at S377 b583 n584 fun y585 =>
 uncK y585 fun v586 y587 =>
 SV.cI IntKind.i64 v586 fun x591 =>
 uncK y587 fun v592 y593 =>
 SV.cI IntKind.i64 v592 fun x597 =>
 uncK y593 fun v598 y599 =>
 SV.cI IntKind.i64 v598 fun x603 =>
 uncK y599 fun v604 y605 =>
 SV.cI IntKind.i64 v604 fun x609 =>
 uncK y605 fun v610 y611 =>
 SV.cI IntKind.i64 v610 fun x615 =>
 uncK y611 fun v616 y617 =>
 SV.cI IntKind.i64 v616 fun x621 =>
 uncK y617 fun v622 y623 =>
 SV.cI IntKind.i64 v622 fun x627 =>
 uncK y623 fun v628 y629 =>
 SV.cB v628 fun y631 =>
 uncK y629 fun v632 y633 =>
 SV.cL v632 fun y640 =>
 uncK y633 fun v641 y642 =>
 SV.cL v641 fun y649 =>
 uncK y642 fun v650 y651 =>
 SV.cL v650 fun y658 =>
 D 61 [(AV.one (V1.agg [(SV.int IntKind.i64 x591), (SV.int IntKind.i64 x597), (SV.int IntKind.i64 x603), (SV.int IntKind.i64 x609), (SV.int IntKind.i64 x615), (SV.int IntKind.i64 x621), (SV.int IntKind.i64 x627), (SV.bool y631), (SV.sl y640), (SV.sl y649), (SV.sl y658)]))] S377 fun v659 S660 =>
 scK v659 fun v662 =>
 SV.cB v662 fun y663 =>
 J 17 [(AV.one (V1.s (SV.ptr p2))), (AV.one (V1.s (SV.ptr p3))), (AV.one (V1.s (SV.bool y663)))] S660 K)
 (J 17 [(AV.one (V1.s (SV.ptr p2))), (AV.one (V1.s (SV.ptr p3))), (AV.one (V1.s (SV.bool Bool.false)))] S377 K))
 (J 17 [(AV.one (V1.s (SV.ptr p2))), (AV.one (V1.s (SV.ptr p3))), (AV.one (V1.s (SV.bool Bool.false)))] S377 K))
 (J 17 [(AV.one (V1.s (SV.ptr p2))), (AV.one (V1.s (SV.ptr p3))), (AV.one (V1.s (SV.bool Bool.false)))] S377 K))
noncomputable def X44_15 : X := (.op (.op (.jmp 17 [2, 3, 65])))
theorem F44_15_eq (D J : Disp) (p2 : PV) (p3 : PV) (c7 : Bool) (S : St) (K : AV → St → Prop) : F44_15 D J p2 p3 c7 S K = execK GraphP GraphG Go.Proofs.Try.f44 (typed GraphP D) J plans44 X44_15 (T44 15).1 (envOf (T44 15).2 [(AV.one (V1.s (SV.ptr p2))), (AV.one (V1.s (SV.ptr p3))), (AV.one (V1.s (SV.bool c7)))]) S K := by kernel_rfl
noncomputable def F44_17 (D J : Disp) (p2 : PV) (p3 : PV) (c65 : Bool) (S : St) (K : AV → St → Prop) : Prop :=
 ifK c65
 (K ((AV.one (V1.s (SV.bool Bool.false)))) S)
 (PV.cs p2 fun b300 n301 =>
 St.at S b300 n301 fun y302 =>
 uncK y302 fun v303 y304 =>
 SV.cS v303 fun y309 =>
 uncK y304 fun v310 y311 =>
 SV.cI IntKind.i64 v310 fun x315 =>
 uncK y311 fun v316 y317 =>
 SV.cI IntKind.i64 v316 fun x321 =>
 uncK y317 fun v322 y323 =>
 SV.cL v322 fun y330 =>
 uncK y323 fun v331 y332 =>
 SV.cL v331 fun y339 =>
 uncK y332 fun v340 y341 =>
 SV.cB v340 fun y343 =>
 PV.cs p3 fun b344 n345 =>
 St.at S b344 n345 fun y346 =>
 uncK y346 fun v347 y348 =>
 SV.cI IntKind.i64 v347 fun x352 =>
 uncK y348 fun v353 y354 =>
 SV.cI IntKind.i64 v353 fun x358 =>
 uncK y354 fun v359 y360 =>
 SV.cI IntKind.i64 v359 fun x364 =>
 uncK y360 fun v365 y366 =>
 SV.cI IntKind.i64 v365 fun x370 =>
 uncK y366 fun v371 y372 =>
 SV.cI IntKind.i64 v371 fun x376 =>
 uncK y372 fun v377 y378 =>
 SV.cI IntKind.i64 v377 fun x382 =>
 uncK y378 fun v383 y384 =>
 SV.cI IntKind.i64 v383 fun x388 =>
 uncK y384 fun v389 y390 =>
 SV.cB v389 fun y392 =>
 uncK y390 fun v393 y394 =>
 SV.cL v393 fun y401 =>
 uncK y394 fun v402 y403 =>
 SV.cL v402 fun y410 =>
 uncK y403 fun v411 y412 =>
 SV.cL v411 fun y419 =>
 D 62 [(AV.one (V1.agg [(SV.str y309), (SV.int IntKind.i64 x315), (SV.int IntKind.i64 x321), (SV.sl y330), (SV.sl y339), (SV.bool y343)])), (AV.one (V1.agg [(SV.int IntKind.i64 x352), (SV.int IntKind.i64 x358), (SV.int IntKind.i64 x364), (SV.int IntKind.i64 x370), (SV.int IntKind.i64 x376), (SV.int IntKind.i64 x382), (SV.int IntKind.i64 x388), (SV.bool y392), (SV.sl y401), (SV.sl y410), (SV.sl y419)]))] S fun v420 S421 =>
 scK v420 fun v423 =>
 SV.cB v423 fun y424 =>
 K ((AV.one (V1.s (SV.bool y424)))) S421)
noncomputable def X44_17 : X := (.br (.op .ret) (.op .ret))
theorem F44_17_eq (D J : Disp) (p2 : PV) (p3 : PV) (c65 : Bool) (S : St) (K : AV → St → Prop) : F44_17 D J p2 p3 c65 S K = execK GraphP GraphG Go.Proofs.Try.f44 (typed GraphP D) J plans44 X44_17 (T44 17).1 (envOf (T44 17).2 [(AV.one (V1.s (SV.ptr p2))), (AV.one (V1.s (SV.ptr p3))), (AV.one (V1.s (SV.bool c65)))]) S K := by kernel_rfl
noncomputable abbrev A44_0 (D J : Disp) (vals : List AV) (S : St) (K : AV → St → Prop) : Prop :=
  uncA vals fun a9001 r9002 => avA a9001 fun l9004 => uncK l9004 fun s9006 r9007 => SV.cS s9006 fun s0_0 => uncK r9007 fun s9010 r9011 => SV.cI IntKind.i64 s9010 fun x0_1 => uncK r9011 fun s9014 r9015 => SV.cI IntKind.i64 s9014 fun x0_2 => uncK r9015 fun s9018 r9019 => SV.cL s9018 fun l0_3 => uncK r9019 fun s9022 r9023 => SV.cL s9022 fun l0_4 => uncK r9023 fun s9026 r9027 => SV.cB s9026 fun c0_5 => endL r9027 <| uncA r9002 fun a9031 r9032 => avA a9031 fun l9034 => uncK l9034 fun s9036 r9037 => SV.cI IntKind.i64 s9036 fun x1_0 => uncK r9037 fun s9040 r9041 => SV.cI IntKind.i64 s9040 fun x1_1 => uncK r9041 fun s9044 r9045 => SV.cI IntKind.i64 s9044 fun x1_2 => uncK r9045 fun s9048 r9049 => SV.cI IntKind.i64 s9048 fun x1_3 => uncK r9049 fun s9052 r9053 => SV.cI IntKind.i64 s9052 fun x1_4 => uncK r9053 fun s9056 r9057 => SV.cI IntKind.i64 s9056 fun x1_5 => uncK r9057 fun s9060 r9061 => SV.cI IntKind.i64 s9060 fun x1_6 => uncK r9061 fun s9064 r9065 => SV.cB s9064 fun c1_7 => uncK r9065 fun s9068 r9069 => SV.cL s9068 fun l1_8 => uncK r9069 fun s9072 r9073 => SV.cL s9072 fun l1_9 => uncK r9073 fun s9076 r9077 => SV.cL s9076 fun l1_10 => endL r9077 <| endL r9032 <| F44_0 D J s0_0 x0_1 x0_2 l0_3 l0_4 c0_5 x1_0 x1_1 x1_2 x1_3 x1_4 x1_5 x1_6 c1_7 l1_8 l1_9 l1_10 S K
theorem A44_0_ok {D J : Disp} (hD : DOK GraphP GraphG D) (hJ : JOK GraphP GraphG Go.Proofs.Try.f44 T44 J) {vals : List AV} {S : St} {K : AV → St → Prop} (h0 : A44_0 D J vals S K) : Runs GraphP GraphG Go.Proofs.Try.f44 (T44 0).1 (envOf (T44 0).2 vals) S K := by
  obtain ⟨a9001, r9002, rfl, h3⟩ := uncA_some h0
  obtain ⟨l9004, rfl, h5⟩ := avA_some h3
  obtain ⟨s9006, r9007, rfl, h8⟩ := uncK_some h5
  obtain ⟨s0_0, rfl, h9⟩ := cS_some h8
  obtain ⟨s9010, r9011, rfl, h12⟩ := uncK_some h9
  obtain ⟨x0_1, rfl, h13⟩ := cI_some h12
  obtain ⟨s9014, r9015, rfl, h16⟩ := uncK_some h13
  obtain ⟨x0_2, rfl, h17⟩ := cI_some h16
  obtain ⟨s9018, r9019, rfl, h20⟩ := uncK_some h17
  obtain ⟨l0_3, rfl, h21⟩ := cL_some h20
  obtain ⟨s9022, r9023, rfl, h24⟩ := uncK_some h21
  obtain ⟨l0_4, rfl, h25⟩ := cL_some h24
  obtain ⟨s9026, r9027, rfl, h28⟩ := uncK_some h25
  obtain ⟨c0_5, rfl, h29⟩ := cB_some h28
  obtain ⟨rfl, h30⟩ := endL_some h29
  obtain ⟨a9031, r9032, rfl, h33⟩ := uncA_some h30
  obtain ⟨l9034, rfl, h35⟩ := avA_some h33
  obtain ⟨s9036, r9037, rfl, h38⟩ := uncK_some h35
  obtain ⟨x1_0, rfl, h39⟩ := cI_some h38
  obtain ⟨s9040, r9041, rfl, h42⟩ := uncK_some h39
  obtain ⟨x1_1, rfl, h43⟩ := cI_some h42
  obtain ⟨s9044, r9045, rfl, h46⟩ := uncK_some h43
  obtain ⟨x1_2, rfl, h47⟩ := cI_some h46
  obtain ⟨s9048, r9049, rfl, h50⟩ := uncK_some h47
  obtain ⟨x1_3, rfl, h51⟩ := cI_some h50
  obtain ⟨s9052, r9053, rfl, h54⟩ := uncK_some h51
  obtain ⟨x1_4, rfl, h55⟩ := cI_some h54
  obtain ⟨s9056, r9057, rfl, h58⟩ := uncK_some h55
  obtain ⟨x1_5, rfl, h59⟩ := cI_some h58
  obtain ⟨s9060, r9061, rfl, h62⟩ := uncK_some h59
  obtain ⟨x1_6, rfl, h63⟩ := cI_some h62
  obtain ⟨s9064, r9065, rfl, h66⟩ := uncK_some h63
  obtain ⟨c1_7, rfl, h67⟩ := cB_some h66
  obtain ⟨s9068, r9069, rfl, h70⟩ := uncK_some h67
  obtain ⟨l1_8, rfl, h71⟩ := cL_some h70
  obtain ⟨s9072, r9073, rfl, h74⟩ := uncK_some h71
  obtain ⟨l1_9, rfl, h75⟩ := cL_some h74
  obtain ⟨s9076, r9077, rfl, h78⟩ := uncK_some h75
  obtain ⟨l1_10, rfl, h79⟩ := cL_some h78
  obtain ⟨rfl, h80⟩ := endL_some h79
  obtain ⟨rfl, h81⟩ := endL_some h80
  rw [F44_0_eq] at h81
  exact execK_runs hD.typed Graph_zero Graph_mixed hJ X44_0 (T44 0).1 (envOf (T44 0).2 _) S K (chk_of (by kernel_rfl) (by kernel_rfl)) h81
noncomputable abbrev A44_2 (D J : Disp) (vals : List AV) (S : St) (K : AV → St → Prop) : Prop :=
  uncA vals fun a9001 r9002 => scK a9001 fun s9004 => SV.cP s9004 fun p2 => uncA r9002 fun a9007 r9008 => scK a9007 fun s9010 => SV.cP s9010 fun p3 => uncA r9008 fun a9013 r9014 => scK a9013 fun s9016 => SV.cB s9016 fun c16 => endL r9014 <| F44_2 D J p2 p3 c16 S K
theorem A44_2_ok {D J : Disp} (hD : DOK GraphP GraphG D) (hJ : JOK GraphP GraphG Go.Proofs.Try.f44 T44 J) {vals : List AV} {S : St} {K : AV → St → Prop} (h0 : A44_2 D J vals S K) : Runs GraphP GraphG Go.Proofs.Try.f44 (T44 2).1 (envOf (T44 2).2 vals) S K := by
  obtain ⟨a9001, r9002, rfl, h3⟩ := uncA_some h0
  obtain ⟨s9004, rfl, h5⟩ := scK_some h3
  obtain ⟨p2, rfl, h6⟩ := cP_some h5
  obtain ⟨a9007, r9008, rfl, h9⟩ := uncA_some h6
  obtain ⟨s9010, rfl, h11⟩ := scK_some h9
  obtain ⟨p3, rfl, h12⟩ := cP_some h11
  obtain ⟨a9013, r9014, rfl, h15⟩ := uncA_some h12
  obtain ⟨s9016, rfl, h17⟩ := scK_some h15
  obtain ⟨c16, rfl, h18⟩ := cB_some h17
  obtain ⟨rfl, h19⟩ := endL_some h18
  rw [F44_2_eq] at h19
  exact execK_runs hD.typed Graph_zero Graph_mixed hJ X44_2 (T44 2).1 (envOf (T44 2).2 _) S K (chk_of (by kernel_rfl) (by kernel_rfl)) h19
noncomputable abbrev A44_6 (D J : Disp) (vals : List AV) (S : St) (K : AV → St → Prop) : Prop :=
  uncA vals fun a9001 r9002 => scK a9001 fun s9004 => SV.cP s9004 fun p2 => uncA r9002 fun a9007 r9008 => scK a9007 fun s9010 => SV.cP s9010 fun p3 => uncA r9008 fun a9013 r9014 => scK a9013 fun s9016 => SV.cL s9016 fun l18 => uncA r9014 fun a9019 r9020 => scK a9019 fun s9022 => SV.cI IntKind.i64 s9022 fun x19 => uncA r9020 fun a9025 r9026 => scK a9025 fun s9028 => SV.cI IntKind.i64 s9028 fun x20 => endL r9026 <| F44_6 D J p2 p3 l18 x19 x20 S K
theorem A44_6_ok {D J : Disp} (hD : DOK GraphP GraphG D) (hJ : JOK GraphP GraphG Go.Proofs.Try.f44 T44 J) {vals : List AV} {S : St} {K : AV → St → Prop} (h0 : A44_6 D J vals S K) : Runs GraphP GraphG Go.Proofs.Try.f44 (T44 6).1 (envOf (T44 6).2 vals) S K := by
  obtain ⟨a9001, r9002, rfl, h3⟩ := uncA_some h0
  obtain ⟨s9004, rfl, h5⟩ := scK_some h3
  obtain ⟨p2, rfl, h6⟩ := cP_some h5
  obtain ⟨a9007, r9008, rfl, h9⟩ := uncA_some h6
  obtain ⟨s9010, rfl, h11⟩ := scK_some h9
  obtain ⟨p3, rfl, h12⟩ := cP_some h11
  obtain ⟨a9013, r9014, rfl, h15⟩ := uncA_some h12
  obtain ⟨s9016, rfl, h17⟩ := scK_some h15
  obtain ⟨l18, rfl, h18⟩ := cL_some h17
  obtain ⟨a9019, r9020, rfl, h21⟩ := uncA_some h18
  obtain ⟨s9022, rfl, h23⟩ := scK_some h21
  obtain ⟨x19, rfl, h24⟩ := cI_some h23
  obtain ⟨a9025, r9026, rfl, h27⟩ := uncA_some h24
  obtain ⟨s9028, rfl, h29⟩ := scK_some h27
  obtain ⟨x20, rfl, h30⟩ := cI_some h29
  obtain ⟨rfl, h31⟩ := endL_some h30
  rw [F44_6_eq] at h31
  exact execK_runs hD.typed Graph_zero Graph_mixed hJ X44_6 (T44 6).1 (envOf (T44 6).2 _) S K (chk_of (by kernel_rfl) (by kernel_rfl)) h31
noncomputable abbrev A44_15 (D J : Disp) (vals : List AV) (S : St) (K : AV → St → Prop) : Prop :=
  uncA vals fun a9001 r9002 => scK a9001 fun s9004 => SV.cP s9004 fun p2 => uncA r9002 fun a9007 r9008 => scK a9007 fun s9010 => SV.cP s9010 fun p3 => uncA r9008 fun a9013 r9014 => scK a9013 fun s9016 => SV.cB s9016 fun c7 => endL r9014 <| F44_15 D J p2 p3 c7 S K
theorem A44_15_ok {D J : Disp} (hD : DOK GraphP GraphG D) (hJ : JOK GraphP GraphG Go.Proofs.Try.f44 T44 J) {vals : List AV} {S : St} {K : AV → St → Prop} (h0 : A44_15 D J vals S K) : Runs GraphP GraphG Go.Proofs.Try.f44 (T44 15).1 (envOf (T44 15).2 vals) S K := by
  obtain ⟨a9001, r9002, rfl, h3⟩ := uncA_some h0
  obtain ⟨s9004, rfl, h5⟩ := scK_some h3
  obtain ⟨p2, rfl, h6⟩ := cP_some h5
  obtain ⟨a9007, r9008, rfl, h9⟩ := uncA_some h6
  obtain ⟨s9010, rfl, h11⟩ := scK_some h9
  obtain ⟨p3, rfl, h12⟩ := cP_some h11
  obtain ⟨a9013, r9014, rfl, h15⟩ := uncA_some h12
  obtain ⟨s9016, rfl, h17⟩ := scK_some h15
  obtain ⟨c7, rfl, h18⟩ := cB_some h17
  obtain ⟨rfl, h19⟩ := endL_some h18
  rw [F44_15_eq] at h19
  exact execK_runs hD.typed Graph_zero Graph_mixed hJ X44_15 (T44 15).1 (envOf (T44 15).2 _) S K (chk_of (by kernel_rfl) (by kernel_rfl)) h19
noncomputable abbrev A44_17 (D J : Disp) (vals : List AV) (S : St) (K : AV → St → Prop) : Prop :=
  uncA vals fun a9001 r9002 => scK a9001 fun s9004 => SV.cP s9004 fun p2 => uncA r9002 fun a9007 r9008 => scK a9007 fun s9010 => SV.cP s9010 fun p3 => uncA r9008 fun a9013 r9014 => scK a9013 fun s9016 => SV.cB s9016 fun c65 => endL r9014 <| F44_17 D J p2 p3 c65 S K
theorem A44_17_ok {D J : Disp} (hD : DOK GraphP GraphG D) (hJ : JOK GraphP GraphG Go.Proofs.Try.f44 T44 J) {vals : List AV} {S : St} {K : AV → St → Prop} (h0 : A44_17 D J vals S K) : Runs GraphP GraphG Go.Proofs.Try.f44 (T44 17).1 (envOf (T44 17).2 vals) S K := by
  obtain ⟨a9001, r9002, rfl, h3⟩ := uncA_some h0
  obtain ⟨s9004, rfl, h5⟩ := scK_some h3
  obtain ⟨p2, rfl, h6⟩ := cP_some h5
  obtain ⟨a9007, r9008, rfl, h9⟩ := uncA_some h6
  obtain ⟨s9010, rfl, h11⟩ := scK_some h9
  obtain ⟨p3, rfl, h12⟩ := cP_some h11
  obtain ⟨a9013, r9014, rfl, h15⟩ := uncA_some h12
  obtain ⟨s9016, rfl, h17⟩ := scK_some h15
  obtain ⟨c65, rfl, h18⟩ := cB_some h17
  obtain ⟨rfl, h19⟩ := endL_some h18
  rw [F44_17_eq] at h19
  exact execK_runs hD.typed Graph_zero Graph_mixed hJ X44_17 (T44 17).1 (envOf (T44 17).2 _) S K (chk_of (by kernel_rfl) (by kernel_rfl)) h19
noncomputable def J44 (D : Disp) (k : Nat) : Disp := Nat.rec (motive := fun _ => Disp) Disp.no (fun _ ih => Disp.add 0 (A44_0 D ih) <| Disp.add 2 (A44_2 D ih) <| Disp.add 6 (A44_6 D ih) <| Disp.add 15 (A44_15 D ih) <| Disp.add 17 (A44_17 D ih) <| Disp.no) k
theorem J44_ok {D : Disp} (hD : DOK GraphP GraphG D) : ∀ k, JOK GraphP GraphG Go.Proofs.Try.f44 T44 (J44 D k)
  | 0 => JOK.no
  | k + 1 => JOK.add (ltB_ok (by kernel_rfl)) (fun vals S K h => A44_0_ok hD (J44_ok hD k) h) <| JOK.add (ltB_ok (by kernel_rfl)) (fun vals S K h => A44_2_ok hD (J44_ok hD k) h) <| JOK.add (ltB_ok (by kernel_rfl)) (fun vals S K h => A44_6_ok hD (J44_ok hD k) h) <| JOK.add (ltB_ok (by kernel_rfl)) (fun vals S K h => A44_15_ok hD (J44_ok hD k) h) <| JOK.add (ltB_ok (by kernel_rfl)) (fun vals S K h => A44_17_ok hD (J44_ok hD k) h) <| JOK.no
theorem E44_ok {D : Disp} (hD : DOK GraphP GraphG D) (k : Nat) {args : List AV} {S : St} {K : AV → St → Prop} (h : A44_0 D (J44 D k) args S K) : CallOK GraphP GraphG 44 args S K := by
  have hr := A44_0_ok hD (J44_ok hD k) h
  have hl : args.length = 2 := by
    have h0 := h
    obtain ⟨a9001, r9002, rfl, h3⟩ := uncA_some h0
    obtain ⟨l9004, rfl, h5⟩ := avA_some h3
    obtain ⟨s9006, r9007, rfl, h8⟩ := uncK_some h5
    obtain ⟨s0_0, rfl, h9⟩ := cS_some h8
    obtain ⟨s9010, r9011, rfl, h12⟩ := uncK_some h9
    obtain ⟨x0_1, rfl, h13⟩ := cI_some h12
    obtain ⟨s9014, r9015, rfl, h16⟩ := uncK_some h13
    obtain ⟨x0_2, rfl, h17⟩ := cI_some h16
    obtain ⟨s9018, r9019, rfl, h20⟩ := uncK_some h17
    obtain ⟨l0_3, rfl, h21⟩ := cL_some h20
    obtain ⟨s9022, r9023, rfl, h24⟩ := uncK_some h21
    obtain ⟨l0_4, rfl, h25⟩ := cL_some h24
    obtain ⟨s9026, r9027, rfl, h28⟩ := uncK_some h25
    obtain ⟨c0_5, rfl, h29⟩ := cB_some h28
    obtain ⟨rfl, h30⟩ := endL_some h29
    obtain ⟨a9031, r9032, rfl, h33⟩ := uncA_some h30
    obtain ⟨l9034, rfl, h35⟩ := avA_some h33
    obtain ⟨s9036, r9037, rfl, h38⟩ := uncK_some h35
    obtain ⟨x1_0, rfl, h39⟩ := cI_some h38
    obtain ⟨s9040, r9041, rfl, h42⟩ := uncK_some h39
    obtain ⟨x1_1, rfl, h43⟩ := cI_some h42
    obtain ⟨s9044, r9045, rfl, h46⟩ := uncK_some h43
    obtain ⟨x1_2, rfl, h47⟩ := cI_some h46
    obtain ⟨s9048, r9049, rfl, h50⟩ := uncK_some h47
    obtain ⟨x1_3, rfl, h51⟩ := cI_some h50
    obtain ⟨s9052, r9053, rfl, h54⟩ := uncK_some h51
    obtain ⟨x1_4, rfl, h55⟩ := cI_some h54
    obtain ⟨s9056, r9057, rfl, h58⟩ := uncK_some h55
    obtain ⟨x1_5, rfl, h59⟩ := cI_some h58
    obtain ⟨s9060, r9061, rfl, h62⟩ := uncK_some h59
    obtain ⟨x1_6, rfl, h63⟩ := cI_some h62
    obtain ⟨s9064, r9065, rfl, h66⟩ := uncK_some h63
    obtain ⟨c1_7, rfl, h67⟩ := cB_some h66
    obtain ⟨s9068, r9069, rfl, h70⟩ := uncK_some h67
    obtain ⟨l1_8, rfl, h71⟩ := cL_some h70
    obtain ⟨s9072, r9073, rfl, h74⟩ := uncK_some h71
    obtain ⟨l1_9, rfl, h75⟩ := cL_some h74
    obtain ⟨s9076, r9077, rfl, h78⟩ := uncK_some h75
    obtain ⟨l1_10, rfl, h79⟩ := cL_some h78
    obtain ⟨rfl, h80⟩ := endL_some h79
    obtain ⟨rfl, h81⟩ := endL_some h80
    rfl
  refine callOK_of (fn := Go.Proofs.Try.f44) (c := (match Go.Proofs.Try.f44.body with | some c => c | none => .skip)) (by kernel_rfl) (by kernel_rfl) (by kernel_rfl) (by rw [hl]; kernel_rfl) (by kernel_rfl) ?_
  rw [hl]
  exact hr
end
end Go.Xe
