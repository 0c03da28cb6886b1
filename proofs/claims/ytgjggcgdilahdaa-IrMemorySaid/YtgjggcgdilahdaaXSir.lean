/- A part of the proof: XS_ir. -/
import Derived.Test.YtgjggcgdilahdaaXFir
import Derived.Test.YtgjggcgdilahdaaX29
set_option linter.unusedVariables false
set_option linter.unusedSimpArgs false
set_option linter.constructorNameAsVariable false
set_option linter.unusedVariables false
set_option maxRecDepth 100000
namespace Go.Xe
open Go.RowKit
noncomputable section
abbrev DSIr : Disp := CallOK IrP IrG
theorem S23 {J : Disp} (hJ : JOK IrP IrG Go.Proofs.Try.f23 T23 J) {x0_0 : Int} {x0_1 : Int} {l0_2 : LV} {x1_0 : Int} {x1_1 : Int} {l1_2 : LV} {S : St} {K : AV → St → Prop} (h : F23_0 DSIr J x0_0 x0_1 l0_2 x1_0 x1_1 l1_2 S K) : CallE IrP IrG 23 [(AV.one (V1.agg [(SV.int IntKind.i64 x0_0), (SV.int IntKind.i64 x0_1), (SV.sl l0_2)])), (AV.one (V1.agg [(SV.int IntKind.i64 x1_0), (SV.int IntKind.i64 x1_1), (SV.sl l1_2)]))] S K := by
  have h : A23_0 DSIr J [(AV.one (V1.agg [(SV.int IntKind.i64 x0_0), (SV.int IntKind.i64 x0_1), (SV.sl l0_2)])), (AV.one (V1.agg [(SV.int IntKind.i64 x1_0), (SV.int IntKind.i64 x1_1), (SV.sl l1_2)]))] S K := h
  have hr := A23_0_ok (DS_ok IrP IrG) hJ h
  exact callOK_of (fn := Go.Proofs.Try.f23) (c := (match Go.Proofs.Try.f23.body with | some c => c | none => .skip)) (by kernel_rfl) (by kernel_rfl) (by kernel_rfl) (by kernel_rfl) (by kernel_rfl) hr
abbrev JS44 : Disp := JS IrP IrG Go.Proofs.Try.f44 T44
theorem S44 {J : Disp} (hJ : JOK IrP IrG Go.Proofs.Try.f44 T44 J) {l0 : LV} {l1 : LV} {S : St} {K : AV → St → Prop} (h : F44_0 DSIr J l0 l1 S K) : CallE IrP IrG 44 [(AV.one (V1.s (SV.sl l0))), (AV.one (V1.s (SV.sl l1)))] S K := by
  have h : A44_0 DSIr J [(AV.one (V1.s (SV.sl l0))), (AV.one (V1.s (SV.sl l1)))] S K := h
  have hr := A44_0_ok (DS_ok IrP IrG) hJ h
  exact callOK_of (fn := Go.Proofs.Try.f44) (c := (match Go.Proofs.Try.f44.body with | some c => c | none => .skip)) (by kernel_rfl) (by kernel_rfl) (by kernel_rfl) (by kernel_rfl) (by kernel_rfl) hr
theorem S44_6 {l0 : LV} {l1 : LV} {x5 : Int} {S : St} {K : AV → St → Prop} (h : F44_6 DSIr JS44 l0 l1 x5 S K) : JS44 6 [(AV.one (V1.s (SV.sl l0))), (AV.one (V1.s (SV.sl l1))), (AV.one (V1.s (SV.int IntKind.i64 x5)))] S K :=
  ⟨ltB_ok (by kernel_rfl), A44_6_ok (DS_ok IrP IrG) (JS_ok IrP IrG _ _) (vals := [(AV.one (V1.s (SV.sl l0))), (AV.one (V1.s (SV.sl l1))), (AV.one (V1.s (SV.int IntKind.i64 x5)))]) h⟩
abbrev JS61 : Disp := JS IrP IrG Go.Proofs.Try.f61 T61
theorem S61 {J : Disp} (hJ : JOK IrP IrG Go.Proofs.Try.f61 T61 J) {x0 : Int} {x1 : Int} {x2 : Int} {S : St} {K : AV → St → Prop} (h : F61_0 DSIr J x0 x1 x2 S K) : CallE IrP IrG 61 [(AV.one (V1.s (SV.int IntKind.i64 x0))), (AV.one (V1.s (SV.int IntKind.i64 x1))), (AV.one (V1.s (SV.int IntKind.i64 x2)))] S K := by
  have h : A61_0 DSIr J [(AV.one (V1.s (SV.int IntKind.i64 x0))), (AV.one (V1.s (SV.int IntKind.i64 x1))), (AV.one (V1.s (SV.int IntKind.i64 x2)))] S K := h
  have hr := A61_0_ok (DS_ok IrP IrG) hJ h
  exact callOK_of (fn := Go.Proofs.Try.f61) (c := (match Go.Proofs.Try.f61.body with | some c => c | none => .skip)) (by kernel_rfl) (by kernel_rfl) (by kernel_rfl) (by kernel_rfl) (by kernel_rfl) hr
theorem S61_5 {x0 : Int} {x1 : Int} {x2 : Int} {p8 : PV} {p9 : PV} {x12 : Int} {c13 : Bool} {S : St} {K : AV → St → Prop} (h : F61_5 DSIr JS61 x0 x1 x2 p8 p9 x12 c13 S K) : JS61 5 [(AV.one (V1.s (SV.int IntKind.i64 x0))), (AV.one (V1.s (SV.int IntKind.i64 x1))), (AV.one (V1.s (SV.int IntKind.i64 x2))), (AV.one (V1.s (SV.ptr p8))), (AV.one (V1.s (SV.ptr p9))), (AV.one (V1.s (SV.int IntKind.i64 x12))), (AV.one (V1.s (SV.bool c13)))] S K :=
  ⟨ltB_ok (by kernel_rfl), A61_5_ok (DS_ok IrP IrG) (JS_ok IrP IrG _ _) (vals := [(AV.one (V1.s (SV.int IntKind.i64 x0))), (AV.one (V1.s (SV.int IntKind.i64 x1))), (AV.one (V1.s (SV.int IntKind.i64 x2))), (AV.one (V1.s (SV.ptr p8))), (AV.one (V1.s (SV.ptr p9))), (AV.one (V1.s (SV.int IntKind.i64 x12))), (AV.one (V1.s (SV.bool c13)))]) h⟩
theorem S61_10 {x0 : Int} {x1 : Int} {x2 : Int} {p8 : PV} {p9 : PV} {x12 : Int} {c25 : Bool} {S : St} {K : AV → St → Prop} (h : F61_10 DSIr JS61 x0 x1 x2 p8 p9 x12 c25 S K) : JS61 10 [(AV.one (V1.s (SV.int IntKind.i64 x0))), (AV.one (V1.s (SV.int IntKind.i64 x1))), (AV.one (V1.s (SV.int IntKind.i64 x2))), (AV.one (V1.s (SV.ptr p8))), (AV.one (V1.s (SV.ptr p9))), (AV.one (V1.s (SV.int IntKind.i64 x12))), (AV.one (V1.s (SV.bool c25)))] S K :=
  ⟨ltB_ok (by kernel_rfl), A61_10_ok (DS_ok IrP IrG) (JS_ok IrP IrG _ _) (vals := [(AV.one (V1.s (SV.int IntKind.i64 x0))), (AV.one (V1.s (SV.int IntKind.i64 x1))), (AV.one (V1.s (SV.int IntKind.i64 x2))), (AV.one (V1.s (SV.ptr p8))), (AV.one (V1.s (SV.ptr p9))), (AV.one (V1.s (SV.int IntKind.i64 x12))), (AV.one (V1.s (SV.bool c25)))]) h⟩
theorem S62 {J : Disp} (hJ : JOK IrP IrG Go.Proofs.Try.f62 T62 J) {x0_0 : Int} {c0_1 : Bool} {x1 : Int} {S : St} {K : AV → St → Prop} (h : F62_0 DSIr J x0_0 c0_1 x1 S K) : CallE IrP IrG 62 [(AV.one (V1.agg [(SV.int IntKind.i64 x0_0), (SV.bool c0_1)])), (AV.one (V1.s (SV.int IntKind.i64 x1)))] S K := by
  have h : A62_0 DSIr J [(AV.one (V1.agg [(SV.int IntKind.i64 x0_0), (SV.bool c0_1)])), (AV.one (V1.s (SV.int IntKind.i64 x1)))] S K := h
  have hr := A62_0_ok (DS_ok IrP IrG) hJ h
  exact callOK_of (fn := Go.Proofs.Try.f62) (c := (match Go.Proofs.Try.f62.body with | some c => c | none => .skip)) (by kernel_rfl) (by kernel_rfl) (by kernel_rfl) (by kernel_rfl) (by kernel_rfl) hr
abbrev JS74 : Disp := JS IrP IrG Go.Proofs.Try.f74 T74
theorem S74 {J : Disp} (hJ : JOK IrP IrG Go.Proofs.Try.f74 T74 J) {x0_0 : Int} {c0_1 : Bool} {x1 : Int} {x2 : Int} {x3 : Int} {S : St} {K : AV → St → Prop} (h : F74_0 DSIr J x0_0 c0_1 x1 x2 x3 S K) : CallE IrP IrG 74 [(AV.one (V1.agg [(SV.int IntKind.i64 x0_0), (SV.bool c0_1)])), (AV.one (V1.s (SV.int IntKind.i64 x1))), (AV.one (V1.s (SV.int IntKind.i64 x2))), (AV.one (V1.s (SV.int IntKind.i64 x3)))] S K := by
  have h : A74_0 DSIr J [(AV.one (V1.agg [(SV.int IntKind.i64 x0_0), (SV.bool c0_1)])), (AV.one (V1.s (SV.int IntKind.i64 x1))), (AV.one (V1.s (SV.int IntKind.i64 x2))), (AV.one (V1.s (SV.int IntKind.i64 x3)))] S K := h
  have hr := A74_0_ok (DS_ok IrP IrG) hJ h
  exact callOK_of (fn := Go.Proofs.Try.f74) (c := (match Go.Proofs.Try.f74.body with | some c => c | none => .skip)) (by kernel_rfl) (by kernel_rfl) (by kernel_rfl) (by kernel_rfl) (by kernel_rfl) hr
theorem S74_2 {x1 : Int} {x2 : Int} {x3 : Int} {p4 : PV} {c17 : Bool} {S : St} {K : AV → St → Prop} (h : F74_2 DSIr JS74 x1 x2 x3 p4 c17 S K) : JS74 2 [(AV.one (V1.s (SV.int IntKind.i64 x1))), (AV.one (V1.s (SV.int IntKind.i64 x2))), (AV.one (V1.s (SV.int IntKind.i64 x3))), (AV.one (V1.s (SV.ptr p4))), (AV.one (V1.s (SV.bool c17)))] S K :=
  ⟨ltB_ok (by kernel_rfl), A74_2_ok (DS_ok IrP IrG) (JS_ok IrP IrG _ _) (vals := [(AV.one (V1.s (SV.int IntKind.i64 x1))), (AV.one (V1.s (SV.int IntKind.i64 x2))), (AV.one (V1.s (SV.int IntKind.i64 x3))), (AV.one (V1.s (SV.ptr p4))), (AV.one (V1.s (SV.bool c17)))]) h⟩
theorem S74_7 {x1 : Int} {x2 : Int} {x3 : Int} {p4 : PV} {c30 : Bool} {S : St} {K : AV → St → Prop} (h : F74_7 DSIr JS74 x1 x2 x3 p4 c30 S K) : JS74 7 [(AV.one (V1.s (SV.int IntKind.i64 x1))), (AV.one (V1.s (SV.int IntKind.i64 x2))), (AV.one (V1.s (SV.int IntKind.i64 x3))), (AV.one (V1.s (SV.ptr p4))), (AV.one (V1.s (SV.bool c30)))] S K :=
  ⟨ltB_ok (by kernel_rfl), A74_7_ok (DS_ok IrP IrG) (JS_ok IrP IrG _ _) (vals := [(AV.one (V1.s (SV.int IntKind.i64 x1))), (AV.one (V1.s (SV.int IntKind.i64 x2))), (AV.one (V1.s (SV.int IntKind.i64 x3))), (AV.one (V1.s (SV.ptr p4))), (AV.one (V1.s (SV.bool c30)))]) h⟩
theorem S74_36 {x1 : Int} {x2 : Int} {x3 : Int} {p4 : PV} {x41 : Int} {c109 : Bool} {S : St} {K : AV → St → Prop} (h : F74_36 DSIr JS74 x1 x2 x3 p4 x41 c109 S K) : JS74 36 [(AV.one (V1.s (SV.int IntKind.i64 x1))), (AV.one (V1.s (SV.int IntKind.i64 x2))), (AV.one (V1.s (SV.int IntKind.i64 x3))), (AV.one (V1.s (SV.ptr p4))), (AV.one (V1.s (SV.int IntKind.i64 x41))), (AV.one (V1.s (SV.bool c109)))] S K :=
  ⟨ltB_ok (by kernel_rfl), A74_36_ok (DS_ok IrP IrG) (JS_ok IrP IrG _ _) (vals := [(AV.one (V1.s (SV.int IntKind.i64 x1))), (AV.one (V1.s (SV.int IntKind.i64 x2))), (AV.one (V1.s (SV.int IntKind.i64 x3))), (AV.one (V1.s (SV.ptr p4))), (AV.one (V1.s (SV.int IntKind.i64 x41))), (AV.one (V1.s (SV.bool c109)))]) h⟩
theorem S75 {J : Disp} (hJ : JOK IrP IrG Go.Proofs.Try.f75 T75 J) {x0_0 : Int} {c0_1 : Bool} {S : St} {K : AV → St → Prop} (h : F75_0 DSIr J x0_0 c0_1 S K) : CallE IrP IrG 75 [(AV.one (V1.agg [(SV.int IntKind.i64 x0_0), (SV.bool c0_1)]))] S K := by
  have h : A75_0 DSIr J [(AV.one (V1.agg [(SV.int IntKind.i64 x0_0), (SV.bool c0_1)]))] S K := h
  have hr := A75_0_ok (DS_ok IrP IrG) hJ h
  exact callOK_of (fn := Go.Proofs.Try.f75) (c := (match Go.Proofs.Try.f75.body with | some c => c | none => .skip)) (by kernel_rfl) (by kernel_rfl) (by kernel_rfl) (by kernel_rfl) (by kernel_rfl) hr
theorem S86 {J : Disp} (hJ : JOK IrP IrG Go.Proofs.Try.f86 T86 J) {c0 : Bool} {S : St} {K : AV → St → Prop} (h : F86_0 DSIr J c0 S K) : CallE IrP IrG 86 [(AV.one (V1.s (SV.bool c0)))] S K := by
  have h : A86_0 DSIr J [(AV.one (V1.s (SV.bool c0)))] S K := h
  have hr := A86_0_ok (DS_ok IrP IrG) hJ h
  exact callOK_of (fn := Go.Proofs.Try.f86) (c := (match Go.Proofs.Try.f86.body with | some c => c | none => .skip)) (by kernel_rfl) (by kernel_rfl) (by kernel_rfl) (by kernel_rfl) (by kernel_rfl) hr
theorem G23_q0 {D J : Disp} {S : St} {S300 : St} {S301 : St} {c331 : Bool} {K : AV → St → Prop} (h : F23_q0 D J S S300 S301 c331 K) : F23_q0 D J S S300 S301 c331 K := h
theorem G23_q1 {D J : Disp} {S : St} {S300 : St} {S301 : St} {x308 : Int} {K : AV → St → Prop} (h : F23_q1 D J S S300 S301 x308 K) : F23_q1 D J S S300 S301 x308 K := h
theorem G44_q1 {D J : Disp} {S : St} {l0 : LV} {l1 : LV} {x5 : Int} {x313 : Int} {K : AV → St → Prop} (h : F44_q1 D J S l0 l1 x5 x313 K) : F44_q1 D J S l0 l1 x5 x313 K := h
theorem G61_q9 {D J : Disp} {S : St} {x0 : Int} {x1 : Int} {x2 : Int} {S300 : St} {S303 : St} {c306 : Bool} {K : AV → St → Prop} (h : F61_q9 D J S x0 x1 x2 S300 S303 c306 K) : F61_q9 D J S x0 x1 x2 S300 S303 c306 K := h
theorem G61_q10 {D J : Disp} {S : St} {x0 : Int} {x1 : Int} {x2 : Int} {S300 : St} {S303 : St} {K : AV → St → Prop} (h : F61_q10 D J S x0 x1 x2 S300 S303 K) : F61_q10 D J S x0 x1 x2 S300 S303 K := h
theorem G61_q11 {D J : Disp} {S : St} {x0 : Int} {x1 : Int} {x2 : Int} {S300 : St} {S302 : St} {K : AV → St → Prop} (h : F61_q11 D J S x0 x1 x2 S300 S302 K) : F61_q11 D J S x0 x1 x2 S300 S302 K := h
theorem G61_q13 {D J : Disp} {S : St} {x0 : Int} {x1 : Int} {x2 : Int} {p8 : PV} {p9 : PV} {x12 : Int} {c358 : Bool} {K : AV → St → Prop} (h : F61_q13 D J S x0 x1 x2 p8 p9 x12 c358 K) : F61_q13 D J S x0 x1 x2 p8 p9 x12 c358 K := h
theorem G61_q16 {D J : Disp} {S : St} {x0 : Int} {x1 : Int} {x2 : Int} {x427 : Int} {y431 : Bool} {K : AV → St → Prop} (h : F61_q16 D J S x0 x1 x2 x427 y431 K) : F61_q16 D J S x0 x1 x2 x427 y431 K := h
theorem G61_q17 {D J : Disp} {S : St} {x0 : Int} {x1 : Int} {x2 : Int} {p8 : PV} {p9 : PV} {c359 : Bool} {K : AV → St → Prop} (h : F61_q17 D J S x0 x1 x2 p8 p9 c359 K) : F61_q17 D J S x0 x1 x2 p8 p9 c359 K := h
theorem G62_q0 {D J : Disp} {S : St} {S313 : St} {x324 : Int} {x331 : Int} {K : AV → St → Prop} (h : F62_q0 D J S S313 x324 x331 K) : F62_q0 D J S S313 x324 x331 K := h
theorem G62_q2 {D J : Disp} {S : St} {x1 : Int} {S313 : St} {K : AV → St → Prop} (h : F62_q2 D J S x1 S313 K) : F62_q2 D J S x1 S313 K := h
theorem G62_q3 {D J : Disp} {S : St} {x1 : Int} {S300 : St} {K : AV → St → Prop} (h : F62_q3 D J S x1 S300 K) : F62_q3 D J S x1 S300 K := h
theorem G74_q25 {D J : Disp} {S : St} {x1 : Int} {x2 : Int} {x3 : Int} {S313 : St} {c317 : Bool} {K : AV → St → Prop} (h : F74_q25 D J S x1 x2 x3 S313 c317 K) : F74_q25 D J S x1 x2 x3 S313 c317 K := h
theorem G74_q26 {D J : Disp} {x1 : Int} {x3 : Int} {p4 : PV} {S314 : St} {x319 : Int} {c321 : Bool} {K : AV → St → Prop} (h : F74_q26 D J x1 x3 p4 S314 x319 c321 K) : F74_q26 D J x1 x3 p4 S314 x319 c321 K := h
theorem G74_q27 {D J : Disp} {S : St} {x1 : Int} {x2 : Int} {x3 : Int} {p4 : PV} {x308 : Int} {y312 : Bool} {K : AV → St → Prop} (h : F74_q27 D J S x1 x2 x3 p4 x308 y312 K) : F74_q27 D J S x1 x2 x3 p4 x308 y312 K := h
theorem G74_q31 {D J : Disp} {x2 : Int} {p4 : PV} {S372 : St} {x377 : Int} {K : AV → St → Prop} (h : F74_q31 D J x2 p4 S372 x377 K) : F74_q31 D J x2 p4 S372 x377 K := h
theorem G74_q39 {D J : Disp} {x1 : Int} {x2 : Int} {p4 : PV} {S372 : St} {x377 : Int} {c772 : Bool} {K : AV → St → Prop} (h : F74_q39 D J x1 x2 p4 S372 x377 c772 K) : F74_q39 D J x1 x2 p4 S372 x377 c772 K := h
theorem G74_q40 {D J : Disp} {x1 : Int} {x2 : Int} {p4 : PV} {S372 : St} {x377 : Int} {c770 : Bool} {K : AV → St → Prop} (h : F74_q40 D J x1 x2 p4 S372 x377 c770 K) : F74_q40 D J x1 x2 p4 S372 x377 c770 K := h
theorem G74_q41 {D J : Disp} {x1 : Int} {x2 : Int} {p4 : PV} {S372 : St} {x377 : Int} {K : AV → St → Prop} (h : F74_q41 D J x1 x2 p4 S372 x377 K) : F74_q41 D J x1 x2 p4 S372 x377 K := h
theorem G74_q42 {D J : Disp} {S : St} {x1 : Int} {x2 : Int} {x3 : Int} {p4 : PV} {x366 : Int} {y370 : Bool} {K : AV → St → Prop} (h : F74_q42 D J S x1 x2 x3 p4 x366 y370 K) : F74_q42 D J S x1 x2 x3 p4 x366 y370 K := h
theorem G74_q46 {D J : Disp} {S : St} {x2 : Int} {x3 : Int} {p4 : PV} {x41 : Int} {c364 : Bool} {K : AV → St → Prop} (h : F74_q46 D J S x2 x3 p4 x41 c364 K) : F74_q46 D J S x2 x3 p4 x41 c364 K := h
theorem G74_q47 {D J : Disp} {S : St} {x2 : Int} {x3 : Int} {p4 : PV} {x41 : Int} {K : AV → St → Prop} (h : F74_q47 D J S x2 x3 p4 x41 K) : F74_q47 D J S x2 x3 p4 x41 K := h
theorem G75_q0 {D J : Disp} {S : St} {S300 : St} {c316 : Bool} {K : AV → St → Prop} (h : F75_q0 D J S S300 c316 K) : F75_q0 D J S S300 c316 K := h
end
end Go.Xe
