import Derived.Test.YtodnbclphjgofaaMovMay
import Derived.Test.YtodnbclphjgofaaPMovx1
namespace Go.Proofs.Ytodnbclphjgofaa.PMov
open Go.RowKit Go.Maps Go.Proofs.YtodnbclphjgofaaW.PrintWords Go.Proofs.YtodnbclphjgofaaW.PrintLast Go.Proofs.YtodnbclphjgofaaW.PrintMore Go.Proofs.Ytodnbclphjgofaa.Cap
attribute [local go_sem] max2_int min2_int max_two min_two max_three min_three max_four min_four
set_option linter.unusedVariables false
set_option linter.unusedSimpArgs false
theorem info32 : (Try.prog.info? 32).map (fun i => (i.zero, i.size, i.bytes)) = some (some (.agg #[(.int .i64 0), (.int .i64 0)]), 2, 16) := by kernel_rfl
def readB (xs : List S32) (p : Int) : Bool := xs.any fun m => m.f1 == p
def freeIdx (all : List S32) : List S32 → Nat → Option Nat
 | [], _ => none
 | m :: r, i => if readB all m.f0 = true then freeIdx all r (i + 1) else some i
def renam (left : List S32) (ring sp : Int) : List S32 := left.map fun m => if m.f1 = ring then ⟨m.f0, sp⟩ else m
def orderL : Nat → List S32 → List S32 → Int → Option (List S32)
 | 0, _, _, _ => none
 | k + 1, left, out, sp => match left with
  | [] => some out
  | m0 :: r => if out.length < 8796093022208 then (match freeIdx (m0 :: r) (m0 :: r) 0 with
    | some i => orderL k ((m0 :: r).eraseIdx i) (out ++ [(m0 :: r).getD i z32]) sp
    | none => orderL k (renam (m0 :: r) m0.f0 sp) (out ++ [⟨sp, m0.f0⟩]) sp) else none
def hits (sp : Int) (m : S32) : Bool := m.f0 == sp || m.f1 == sp
def moving (m : S32) : Bool := m.f0 != m.f1
def orderTail (k : Nat) (l : List S32) (sp : Int) : Option (List S32 × Bool) :=
 if l.any (hits sp) = true then some ([], false) else (orderL k (l.filter moving) [] sp).map fun o => (o, true)
def Mov.moves_Order.f (k : Nat) (l : List S32) (sp : Int) : Option (List S32 × Bool) :=
 (Mov.moves_May.f k l).bind fun b => if b = false then some ([], false) else if sp < 0 then some ([], false) else orderTail k l sp
theorem Mov.moves_May.mono : ∀ a0 k, LeO (Mov.moves_May.f k a0) (Mov.moves_May.f (k + 1) a0) := fun _ _ _ h => h
theorem orderL_mono : ∀ k left out sp, LeO (orderL k left out sp) (orderL (k + 1) left out sp)
 | 0, _, _, _ => fun r h => by simp [orderL] at h
 | k + 1, left, out, sp => fun r h => by
  cases left with
  | nil => exact h
  | cons m0 t =>
   rw [orderL] at h ⊢
   split at h
   case isFalse => cases h
   rename_i hl
   rw [if_pos hl]
   split at h
   · rename_i i hi
     exact orderL_mono k _ _ _ r h
   · exact orderL_mono k _ _ _ r h
theorem Mov.moves_Order.mono : ∀ a0 a1 k, LeO (Mov.moves_Order.f k a0 a1) (Mov.moves_Order.f (k + 1) a0 a1) := by
 intro l sp k
 unfold Mov.moves_Order.f
 refine LeO.bind (Mov.moves_May.mono _ _) (fun b => LeO.ite (LeO.refl _) (LeO.ite (LeO.refl _) ?_))
 intro r h
 unfold orderTail at h ⊢
 split at h
 · rename_i hh; rw [if_pos hh]; exact h
 · rename_i hh
   rw [if_neg hh]
   obtain ⟨o, ho, rfl⟩ := Option.map_eq_some_iff.1 h
   rw [orderL_mono _ _ _ _ _ ho]; rfl

/-! ### read, whatever -/
theorem rd_eq (l : List S32) (i : Nat) (h : i < l.length) : rd_T32 l i = l[i] := by simp [rd_T32, List.getD, List.getElem?_eq_getElem h]
theorem read_l0 (xs : List S32) (p : Int) (hx : xs.length < 9223372036854775807) : ∀ (d k i : Nat), xs.length - i = d → d < k → i ≤ xs.length → moves_read.l0 k p xs (xs.length : Int) (i : Int) = some (readB (xs.drop i) p) := by
 intro d
 induction d with
 | zero =>
  intro k i hd hk hi
  obtain ⟨k, rfl⟩ : ∃ m, k = m + 1 := ⟨k - 1, by omega⟩
  have : i = xs.length := by omega
  subst this
  simp only [moves_read.l0]
  rw [if_neg (by omega)]
  simp [readB]
 | succ d ih =>
  intro k i hd hk hi
  obtain ⟨k, rfl⟩ : ∃ m, k = m + 1 := ⟨k - 1, by omega⟩
  have hlt : i < xs.length := by omega
  simp only [moves_read.l0]
  rw [if_pos (by omega), if_pos (by omega), if_pos (by omega), rd_eq xs i hlt, List.drop_eq_getElem_cons hlt]
  simp only [readB, List.any_cons]
  by_cases h : xs[i].f1 = p
  · rw [if_pos h]; simp [h]
  · rw [if_neg h]
    have hw : wrap64 ((i : Int) + 1) = ((i + 1 : Nat) : Int) := by unfold wrap64; omega
    rw [hw, ih k (i + 1) (by omega) (by omega) (by omega)]
    have : (xs[i].f1 == p) = false := beq_eq_false_iff_ne.2 h
    rw [this, Bool.false_or]
    rfl
theorem read_any (A0 : Option Addr) (c0 : Nat) (xs : List S32) (p : Int) (b : Bool) (w : World) (hb : readB xs p = b) (hr0 : Kd.C k32 w A0 xs.length xs) (hc0 : xs.length ≤ c0) (hx : xs.length < 9223372036854775807) :
  Calls Try.prog 16 #[.slice A0 xs.length c0, .int .i64 p] w fun e w' => e = .returned (.bool b) ∧ Below w.heap.size w w' := by
 subst hb
 refine moves_read.calls (xs.length + 1) A0 c0 xs p _ w hr0 hc0 ?_
 exact read_l0 xs p hx xs.length _ 0 (by omega) (by omega) (by omega)
end Go.Proofs.Ytodnbclphjgofaa.PMov
