/- A part of the proof: I7. -/
import Derived.Test.YtgjggcgdilahdaaI6
set_option linter.unusedVariables false
set_option linter.unusedSimpArgs false
set_option linter.constructorNameAsVariable false
set_option linter.unusedVariables false
set_option maxRecDepth 100000
namespace Go.Xe
open Go.RowKit
abbrev isT : AV → St → Prop := fun v _ => v = .one (.s (.bool true))
/-- What Plain comes to. -/
def Sem (s a b v : Int) (ok : Bool) : Prop := ∀ S K, K (two v ok) S → CallOK IrP IrG 61 [nm s, nm a, nm b] S K
noncomputable def plainK (s0 v0 : Int) (ok0 : Bool) (args : List AV) (S : St) (K : AV → St → Prop) : Prop :=
  uncA args fun x r1 => scK x fun x => SV.cI .i64 x fun s => uncA r1 fun x r2 => scK x fun x => SV.cI .i64 x fun a => uncA r2 fun x r3 => scK x fun x => SV.cI .i64 x fun b => endL r3 <|
  ifK (ieq s s0) (Sem s a b v0 ok0 ∧ K (two v0 ok0) S) (ifK (ieq s 12) (Sem s a b (shr8 a) true ∧ K (two (shr8 a) true) S) (Sem s a b (iwrap .i64 (a + b)) true ∧ K (two (iwrap .i64 (a + b)) true) S))
theorem plainK_ok {s0 v0 : Int} {ok0 : Bool} {args : List AV} {S : St} {K : AV → St → Prop} (h : plainK s0 v0 ok0 args S K) : CallOK IrP IrG 61 args S K := by
  unfold plainK at h
  obtain ⟨x1, r1, rfl, h1⟩ := uncA_some h
  obtain ⟨x2, rfl, h2⟩ := scK_some h1
  obtain ⟨s, rfl, h3⟩ := cI_some h2
  obtain ⟨x3, r2, rfl, h4⟩ := uncA_some h3
  obtain ⟨x4, rfl, h5⟩ := scK_some h4
  obtain ⟨a, rfl, h6⟩ := cI_some h5
  obtain ⟨x5, r3, rfl, h7⟩ := uncA_some h6
  obtain ⟨x6, rfl, h8⟩ := scK_some h7
  obtain ⟨b, rfl, h9⟩ := cI_some h8
  obtain ⟨rfl, h10⟩ := endL_some h9
  cases e1 : ieq s s0 with
  | true => rw [e1] at h10; exact h10.1 _ _ h10.2
  | false =>
    rw [e1] at h10
    cases e2 : ieq s 12 with
    | true => rw [e2] at h10; exact h10.1 _ _ h10.2
    | false => rw [e2] at h10; exact h10.1 _ _ h10.2
/-- Plain out of a proof over a memory of its own. -/
theorem Sem.of {s a b v : Int} {ok : Bool} (h : ∀ K : AV → St → Prop, (∀ H' n', 0 ≤ n' → Kn H' n' [] → K (two v ok) ⟨fun _ => none, H', n'⟩) → CallE IrP IrG 61 [nm s, nm a, nm b] ⟨fun _ => none, HM.e, 0⟩ K) : Sem s a b v ok := by
  intro S K hk
  refine .inl (CallE.alone rfl (K0 := fun x _ => x = two v ok) (h (fun x _ => x = two v ok) (fun _ _ _ _ => rfl)) ?_)
  rintro v' S' rfl
  exact ⟨rfl, hk⟩
noncomputable def IrB (s0 v0 : Int) (ok0 : Bool) : Disp := Disp.add 61 (plainK s0 v0 ok0) <| Disp.add 23 outK Disp.no
theorem IrB_ok (s0 v0 : Int) (ok0 : Bool) : DOK IrP IrG (IrB s0 v0 ok0) := DOK.add (fun _ _ _ h => plainK_ok h) <| DOK.add (fun _ _ _ h => .inl (outK_ok h)) DOK.no
theorem ir_awake_run (k : Nat) : A8_0 (IrD (Disp.add 23 outK Disp.no) (k+2000)) (J8 (IrD (Disp.add 23 outK Disp.no) (k+2000)) (k+2000)) [] S0 isT = (((1 : Int) = 1 ∧ (44 : Int) = 44 ∧ [SV.int .u8 44] = [SV.int .u8 44] ∧ ∃ ys : List Int, ys.length = 1 ∧ [SV.int .u8 44] = ys.map (.int .u8)) ∧ (.one (.s (.bool true)) : AV) = .one (.s (.bool true))) := by kernel_rfl
theorem ir_awake_of {D : Disp} (hD : DOK IrP IrG D) {k : Nat} {K : AV → St → Prop} {p : Prop} (hp : p) (h : A8_0 D (J8 D k) [] S0 K = p) : CallE IrP IrG 8 [] S0 K := by
  rw [← h] at hp
  exact E8_ok hD k hp
theorem ir_awake : CallE IrP IrG 8 [] S0 isT :=
  ir_awake_of (IrD_ok (DOK.add (fun _ _ _ h => .inl (outK_ok h)) DOK.no) (0 + 2000)) (k := 0 + 2000) ⟨⟨rfl, rfl, rfl, [44], rfl, rfl⟩, rfl⟩ (ir_awake_run 0)
theorem awake_any (S : St) (K : AV → St → Prop) (h : K (.one (.s (.bool true))) S) : CallOK IrP IrG 8 [] S K :=
  .inl (CallE.alone rfl ir_awake (by rintro v S' rfl; exact ⟨rfl, h⟩))
noncomputable def IrE (s0 v0 : Int) (ok0 : Bool) (k : Nat) : Disp := Disp.add 8 (fun args S K => endL args (K (.one (.s (.bool true))) S)) (IrD (IrB s0 v0 ok0) k)
theorem IrE_ok (s0 v0 : Int) (ok0 : Bool) (k : Nat) : DOK IrP IrG (IrE s0 v0 ok0 k) :=
  DOK.add (fun args S K h => by
    obtain ⟨rfl, hk⟩ := endL_some h
    exact awake_any S K hk) (IrD_ok (IrB_ok s0 v0 ok0) k)
def shrs : Nat → Int → Int
  | 0, v => v
  | k + 1, v => shrs k (shr8 v)
abbrev sems (s a b v : Int) (P : Prop) : Prop := Sem s a b v true ∧ Sem 12 v 8 (shr8 v) true ∧ Sem 12 (shrs 1 v) 8 (shrs 2 v) true ∧ Sem 12 (shrs 2 v) 8 (shrs 3 v) true ∧ Sem 12 (shrs 3 v) 8 (shrs 4 v) true ∧ Sem 12 (shrs 4 v) 8 (shrs 5 v) true ∧ Sem 12 (shrs 5 v) 8 (shrs 6 v) true ∧ Sem 12 (shrs 6 v) 8 (shrs 7 v) true ∧ Sem 12 (shrs 7 v) 8 (shrs 8 v) true ∧ P
abbrev bytesA (v : Int) : List SV := [.int .u8 (iwrap .u8 v), .int .u8 (iwrap .u8 (shrs 1 v)), .int .u8 (iwrap .u8 (shrs 2 v)), .int .u8 (iwrap .u8 (shrs 3 v)), .int .u8 (iwrap .u8 (shrs 4 v)), .int .u8 (iwrap .u8 (shrs 5 v)), .int .u8 (iwrap .u8 (shrs 6 v)), .int .u8 (iwrap .u8 (shrs 7 v))]
abbrev byteB (v k : Int) : SV := .int .u8 (iwrap .u8 (shrI .u64 (iwrap .u64 v) k))
abbrev bytesB (v : Int) : List SV := [byteB v 0, byteB v 8, byteB v 16, byteB v 24, byteB v 32, byteB v 40, byteB v 48, byteB v 56]
abbrev goodR (v : Int) : Prop := ((1 : Int) = 1 ∧ iand .i64 (shrs 8 v) 255 = 0 ∧ bytesA v = bytesB v ∧ ∃ ys : List Int, ys.length = 8 ∧ bytesA v = ys.map (.int .u8)) ∧ (.one (.s (.bool true)) : AV) = .one (.s (.bool true))
theorem run1 (k : Nat) (a b v : Int) : F5_9 (IrE 1 v true (k+1000)) (J5 (IrE 1 v true (k+1000)) (k+1000)) a b true v 1 S0 isT = sems 1 a b v (goodR v) := by kernel_rfl
theorem run2 (k : Nat) (a b v : Int) : F5_9 (IrE 2 v true (k+1000)) (J5 (IrE 2 v true (k+1000)) (k+1000)) a b true v 2 S0 isT = sems 2 a b v (goodR v) := by kernel_rfl
theorem run3 (k : Nat) (a b v : Int) : F5_9 (IrE 3 v true (k+1000)) (J5 (IrE 3 v true (k+1000)) (k+1000)) a b true v 3 S0 isT = sems 3 a b v (goodR v) := by kernel_rfl
theorem run4 (k : Nat) (a b v : Int) : F5_9 (IrE 4 v true (k+1000)) (J5 (IrE 4 v true (k+1000)) (k+1000)) a b true v 4 S0 isT = sems 4 a b v (goodR v) := by kernel_rfl
theorem run5 (k : Nat) (a b v : Int) : F5_9 (IrE 5 v true (k+1000)) (J5 (IrE 5 v true (k+1000)) (k+1000)) a b true v 5 S0 isT = sems 5 a b v (goodR v) := by kernel_rfl
theorem run6 (k : Nat) (a b v : Int) : F5_9 (IrE 6 v true (k+1000)) (J5 (IrE 6 v true (k+1000)) (k+1000)) a b true v 6 S0 isT = sems 6 a b v (goodR v) := by kernel_rfl
theorem run7 (k : Nat) (a b v : Int) : F5_9 (IrE 7 v true (k+1000)) (J5 (IrE 7 v true (k+1000)) (k+1000)) a b true v 7 S0 isT = sems 7 a b v (goodR v) := by kernel_rfl
theorem run8 (k : Nat) (a b v : Int) : F5_9 (IrE 8 v true (k+1000)) (J5 (IrE 8 v true (k+1000)) (k+1000)) a b true v 8 S0 isT = sems 8 a b v (goodR v) := by kernel_rfl
theorem run9 (k : Nat) (a b v : Int) : F5_9 (IrE 9 v true (k+1000)) (J5 (IrE 9 v true (k+1000)) (k+1000)) a b true v 9 S0 isT = sems 9 a b v (goodR v) := by kernel_rfl
theorem run10 (k : Nat) (a b v : Int) : F5_9 (IrE 10 v true (k+1000)) (J5 (IrE 10 v true (k+1000)) (k+1000)) a b true v 10 S0 isT = sems 10 a b v (goodR v) := by kernel_rfl
theorem run4z (k : Nat) (a b : Int) : F5_9 (IrE 4 0 false (k+1000)) (J5 (IrE 4 0 false (k+1000)) (k+1000)) a b false 0 4 S0 isT = (Sem 4 a b 0 false ∧ (.one (.s (.bool true)) : AV) = .one (.s (.bool true))) := by kernel_rfl
theorem run5z (k : Nat) (a b : Int) : F5_9 (IrE 5 0 false (k+1000)) (J5 (IrE 5 0 false (k+1000)) (k+1000)) a b false 0 5 S0 isT = (Sem 5 a b 0 false ∧ (.one (.s (.bool true)) : AV) = .one (.s (.bool true))) := by kernel_rfl
theorem run6z (k : Nat) (a b : Int) : F5_9 (IrE 6 0 false (k+1000)) (J5 (IrE 6 0 false (k+1000)) (k+1000)) a b false 0 6 S0 isT = (Sem 6 a b 0 false ∧ (.one (.s (.bool true)) : AV) = .one (.s (.bool true))) := by kernel_rfl
theorem run7z (k : Nat) (a b : Int) : F5_9 (IrE 7 0 false (k+1000)) (J5 (IrE 7 0 false (k+1000)) (k+1000)) a b false 0 7 S0 isT = (Sem 7 a b 0 false ∧ (.one (.s (.bool true)) : AV) = .one (.s (.bool true))) := by kernel_rfl
end Go.Xe
