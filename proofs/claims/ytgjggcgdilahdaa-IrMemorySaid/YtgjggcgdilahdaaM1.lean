/- A part of the proof: M1. -/
import Derived.Test.YtgjggcgdilahdaaN7
set_option linter.unusedVariables false
set_option linter.unusedSimpArgs false
set_option linter.constructorNameAsVariable false
set_option linter.unusedVariables false
set_option maxRecDepth 100000
namespace Go.Xe
open Go.RowKit
variable {i : Nat → Option AO}
theorem truth_t {H n M} (hK : Kn H n M) {K : AV → St → Prop} (hk : ∀ H' n', n ≤ n' → Kn H' n' M → K (two 1 true) ⟨i, H', n'⟩) : DSIr 86 [.one (.s (.bool true))] ⟨i, H, n⟩ K := by
  refine .e (S86 (JS_ok _ _ _ _) ?_)
  unfold F86_0
  repeat (first | ((with_reducible refine ifK_t ?_ ?_); (with_reducible exact rfl)))
  refine hk _ _ ?_ ?_ <;> first | omega | exact (by first | exact hK | exact hK.tail | exact hK.tail.tail | exact hK.tail.tail.tail | exact hK.tail.tail.tail.tail | exact hK.tail.tail.tail.tail.tail | exact hK.tail.tail.tail.tail.tail.tail | exact hK.tail.tail.tail.tail.tail.tail.tail | exact hK.tail.tail.tail.tail.tail.tail.tail.tail)
theorem bin14 {H n M} (hK : Kn H n M) (a b : Int) (hab : wrapU a = wrapU b) {K : AV → St → Prop} (hk : ∀ H' n', n ≤ n' → Kn H' n' M → K (two 1 true) ⟨i, H', n'⟩) : DSIr 74 [wd 64 false, nm 14, nm a, nm b] ⟨i, H, n⟩ K := by
  refine .e (S74 (JS_ok _ _ _ _) ?_)
  unfold F74_0
  repeat (first | ((with_reducible refine hK.letS ?_); clear hK; intro H hK) | ((with_reducible apply uncK_e); exact rfl) | ((with_reducible apply cI_e); exact rfl) | ((with_reducible apply cB_e); exact rfl) | ((with_reducible refine hK.at0 ?_)))
  refine may_ok hK _ (fun H n' hn hK => ?_)
  repeat (first | ((with_reducible refine letK_i ?_)) | ((with_reducible refine G74_q25 ?_); unfold F74_q25))
  refine ifK_f rfl ?_
  repeat (first | ((with_reducible refine letK_i ?_)) | ((with_reducible apply uncK_e); exact rfl) | ((with_reducible apply cI_e); exact rfl) | ((with_reducible refine hK.at0 ?_)))
  refine S74_2 ?_
  unfold F74_2
  refine ifK_f rfl ?_
  repeat (first | ((with_reducible apply uncK_e); exact rfl) | ((with_reducible apply cI_e); exact rfl) | ((with_reducible apply cB_e); exact rfl) | ((with_reducible apply pvcs_e); exact rfl) | ((with_reducible refine hK.at0 ?_)) | ((with_reducible refine G74_q27 ?_); unfold F74_q27))
  refine wrapU_ok hK _ (fun H n' hn hK => ?_)
  repeat (first | ((with_reducible refine letK_i ?_)) | ((with_reducible apply cI_e); exact rfl) | ((with_reducible apply scK_e); exact rfl))
  refine ifK_f rfl ?_
  repeat (first | ((with_reducible refine letK_i ?_)) | ((with_reducible refine G74_q26 ?_); unfold F74_q26))
  refine ifK_f rfl ?_
  repeat (first | ((with_reducible refine letK_i ?_)))
  refine S74_7 ?_
  unfold F74_7
  refine ifK_f rfl ?_
  repeat (first | ((with_reducible apply uncK_e); exact rfl) | ((with_reducible apply cI_e); exact rfl) | ((with_reducible apply cB_e); exact rfl) | ((with_reducible apply pvcs_e); exact rfl) | ((with_reducible refine hK.at0 ?_)) | ((with_reducible refine G74_q42 ?_); unfold F74_q42))
  refine wrapU_ok hK _ (fun H n' hn hK => ?_)
  repeat (first | ((with_reducible refine letK_i ?_)) | ((with_reducible apply cI_e); exact rfl) | ((with_reducible apply scK_e); exact rfl))
  refine ifK_f rfl ?_
  repeat (first | ((with_reducible refine letK_i ?_)) | ((with_reducible refine G74_q41 ?_); unfold F74_q41))
  refine ifK_f rfl ?_
  repeat (first | ((with_reducible refine letK_i ?_)))
  refine ifK_f rfl ?_
  repeat (first | ((with_reducible refine letK_i ?_)) | ((with_reducible refine G74_q40 ?_); unfold F74_q40))
  refine ifK_f rfl ?_
  repeat (first | ((with_reducible refine letK_i ?_)))
  refine ifK_f rfl ?_
  repeat (first | ((with_reducible refine letK_i ?_)) | ((with_reducible refine G74_q39 ?_); unfold F74_q39))
  refine ifK_f rfl ?_
  repeat (first | ((with_reducible refine letK_i ?_)))
  refine S74_36 ?_
  unfold F74_36
  refine ifK_f rfl ?_
  repeat (first | ((with_reducible refine letK_i ?_)))
  refine ifK_f rfl ?_
  repeat (first | ((with_reducible refine letK_i ?_)) | ((with_reducible refine G74_q47 ?_); unfold F74_q47))
  refine ifK_f rfl ?_
  repeat (first | ((with_reducible refine letK_i ?_)))
  refine ifK_f rfl ?_
  repeat (first | ((with_reducible refine letK_i ?_)) | ((with_reducible refine G74_q46 ?_); unfold F74_q46))
  refine ifK_t rfl ?_
  repeat (first | ((with_reducible refine letK_i ?_)))
  rw [ieq_t hab]
  refine truth_t hK (fun H n' hn hK => ?_)
  repeat (first | ((with_reducible apply cI_e); exact rfl) | ((with_reducible apply cB_e); exact rfl) | ((with_reducible apply avT_e); exact rfl) | ((with_reducible apply uncV_e); exact rfl) | ((with_reducible apply v1S_e); exact rfl) | ((with_reducible apply endL_e); exact rfl))
  refine hk _ _ ?_ ?_ <;> first | omega | exact (by first | exact hK | exact hK.tail | exact hK.tail.tail | exact hK.tail.tail.tail | exact hK.tail.tail.tail.tail | exact hK.tail.tail.tail.tail.tail | exact hK.tail.tail.tail.tail.tail.tail | exact hK.tail.tail.tail.tail.tail.tail.tail | exact hK.tail.tail.tail.tail.tail.tail.tail.tail)
theorem plain14 {H n M} (hK : Kn H n M) (a : Int) {K : AV → St → Prop} (hk : ∀ H' n', n ≤ n' → Kn H' n' M → K (two 1 true) ⟨i, H', n'⟩) : CallE IrP IrG 61 [nm 14, nm a, nm a] ⟨i, H, n⟩ K := by
  refine S61 (JS_ok _ _ _ _) ?_
  unfold F61_0
  repeat (first | ((with_reducible refine hK.letS ?_); clear hK; intro H hK) | ((with_reducible refine letK_i ?_)) | ((with_reducible refine hK.wr0 ?_ ?_); exact rfl; clear hK; intro H hK) | ((with_reducible refine hK.wr1 ?_ ?_); exact rfl; clear hK; intro H hK) | ((with_reducible refine G61_q11 ?_); unfold F61_q11))
  refine ifK_f rfl ?_
  repeat (first | ((with_reducible refine letK_i ?_)) | ((with_reducible refine G61_q10 ?_); unfold F61_q10))
  refine ifK_f rfl ?_
  repeat (first | ((with_reducible refine letK_i ?_)) | ((with_reducible refine G61_q9 ?_); unfold F61_q9))
  refine ifK_f rfl ?_
  repeat (first | ((with_reducible refine letK_i ?_)))
  refine S61_5 ?_
  unfold F61_5
  refine ifK_f rfl ?_
  repeat (first | ((with_reducible refine letK_i ?_)) | ((with_reducible refine G61_q13 ?_); unfold F61_q13))
  refine ifK_f rfl ?_
  repeat (first | ((with_reducible refine letK_i ?_)))
  refine S61_10 ?_
  unfold F61_10
  refine ifK_f rfl ?_
  repeat (first | ((with_reducible refine letK_i ?_)) | ((with_reducible refine G61_q17 ?_); unfold F61_q17))
  refine ifK_f rfl ?_
  repeat (first | ((with_reducible apply uncK_e); exact rfl) | ((with_reducible apply cI_e); exact rfl) | ((with_reducible apply cB_e); exact rfl) | ((with_reducible apply pvcs_e); exact rfl) | ((with_reducible refine hK.at0 ?_)) | ((with_reducible refine G61_q16 ?_); unfold F61_q16))
  refine bin14 hK a a rfl (fun H n' hn hK => ?_)
  repeat (first | ((with_reducible apply cI_e); exact rfl) | ((with_reducible apply cB_e); exact rfl) | ((with_reducible apply avT_e); exact rfl) | ((with_reducible apply uncV_e); exact rfl) | ((with_reducible apply v1S_e); exact rfl) | ((with_reducible apply endL_e); exact rfl))
  refine hk _ _ ?_ ?_ <;> first | omega | exact (by first | exact hK | exact hK.tail | exact hK.tail.tail | exact hK.tail.tail.tail | exact hK.tail.tail.tail.tail | exact hK.tail.tail.tail.tail.tail | exact hK.tail.tail.tail.tail.tail.tail | exact hK.tail.tail.tail.tail.tail.tail.tail | exact hK.tail.tail.tail.tail.tail.tail.tail.tail)
noncomputable def memK (args : List AV) (S : St) (K : AV → St → Prop) : Prop :=
  uncA args fun x r1 => scK x fun x => SV.cI .i64 x fun s => uncA r1 fun x r2 => scK x fun x => SV.cI .i64 x fun a => uncA r2 fun x r3 => scK x fun x => SV.cI .i64 x fun b => endL r3 <|
  ifK (ieq s 14) (a = b ∧ K (two 1 true) S) (Sem s a b (iwrap .i64 (a + b)) true ∧ K (two (iwrap .i64 (a + b)) true) S)
theorem memK_ok {args : List AV} {S : St} {K : AV → St → Prop} (h : memK args S K) : CallOK IrP IrG 61 args S K := by
  unfold memK at h
  obtain ⟨x1, r1, rfl, h1⟩ := uncA_some h
  obtain ⟨x2, rfl, h2⟩ := scK_some h1
  obtain ⟨s, rfl, h3⟩ := cI_some h2
  obtain ⟨x3, r2, rfl, h4⟩ := uncA_some h3
  obtain ⟨x4, rfl, h5⟩ := scK_some h4
  obtain ⟨a, rfl, h6⟩ := cI_some h5
  obtain ⟨x5, r3, rfl, h7⟩ := uncA_some h6
  obtain ⟨x6, rfl, h8⟩ := scK_some h7
  obtain ⟨b, rfl, h9⟩ := cI_some h8
  obtain ⟨rfl, h10⟩ := endL_some h9
  cases e1 : ieq s 14 with
  | true =>
    rw [e1] at h10
    obtain ⟨rfl, hk⟩ := h10
    rw [ieq_eq] at e1
    obtain rfl : s = 14 := by simpa using e1
    exact (Sem.of (v := 1) (ok := true) fun K hk => plain14 .nil a hk) S K hk
  | false => rw [e1] at h10; exact h10.1 _ _ h10.2
noncomputable def IrM (k : Nat) : Disp := Disp.add 8 (fun args S K => endL args (K (.one (.s (.bool true))) S)) (IrD (Disp.add 61 memK <| Disp.add 23 outK Disp.no) k)
theorem IrM_ok (k : Nat) : DOK IrP IrG (IrM k) :=
  DOK.add (fun args S K h => by
    obtain ⟨rfl, hk⟩ := endL_some h
    exact awake_any S K hk) (IrD_ok (DOK.add (fun _ _ _ h => memK_ok h) <| DOK.add (fun _ _ _ h => .inl (outK_ok h)) DOK.no) k)
end Go.Xe
