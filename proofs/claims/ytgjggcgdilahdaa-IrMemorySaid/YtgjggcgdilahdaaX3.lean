/- Executor: numbers, texts, comparisons. -/
import Derived.Test.YtgjggcgdilahdaaX2
import Derived.Laws.StructEq
set_option linter.unusedVariables false
set_option linter.unusedSimpArgs false
set_option linter.constructorNameAsVariable false
set_option linter.unusedVariables false
set_option linter.unusedSimpArgs false
namespace Go.Xe
open Go.RowKit

/- Numbers, quickly. -/
def ieq : Int → Int → Bool
  | .ofNat a, .ofNat b => Nat.beq a b
  | .negSucc a, .negSucc b => Nat.beq a b
  | _, _ => false
theorem ieq_eq (a b : Int) : ieq a b = (a == b) := by
  cases a <;> cases b <;> simp only [ieq] <;> rw [Bool.eq_iff_iff] <;> simp [Nat.beq_eq] <;> omega
def ilt : Int → Int → Bool
  | .ofNat a, .ofNat b => Nat.blt a b
  | .negSucc a, .negSucc b => Nat.blt b a
  | .negSucc _, .ofNat _ => true
  | .ofNat _, .negSucc _ => false
theorem ilt_eq (a b : Int) : ilt a b = decide (a < b) := by
  cases a <;> cases b <;> simp only [ilt] <;> rw [Bool.eq_iff_iff] <;> simp [blt_iff] <;> try omega
def ile (a b : Int) : Bool := !(ilt b a)
theorem ile_eq (a b : Int) : ile a b = decide (a ≤ b) := by
  unfold ile; rw [ilt_eq, Bool.eq_iff_iff]; simp
def half (k : IntKind) : Nat := match k with
  | .i8 => 128 | .i16 => 32768 | .i32 => 2147483648 | .i64 => 9223372036854775808
  | .u8 => 256 | .u16 => 65536 | .u32 => 4294967296 | .u64 => 18446744073709551616
/-- The number as it is, if it is one of the kind; else wrapped. -/
def iwrap (k : IntKind) (n : Int) : Int :=
  match n with
  | .ofNat a => cond (Nat.blt a (half k)) n (k.wrap n)
  | .negSucc a => cond (k.signed && Nat.blt a (half k)) n (k.wrap n)
theorem wrap_id (k : IntKind) (n : Int) (h0 : k.min ≤ n) (h1 : n ≤ k.max) : k.wrap n = n := by
  cases k <;> simp [IntKind.wrap, IntKind.bits, IntKind.signed, IntKind.min, IntKind.max] at * <;> omega
theorem half_max (k : IntKind) : k.max = (half k : Int) - 1 := by cases k <;> decide
theorem half_min (k : IntKind) (h : k.signed = true) : k.min = -(half k : Int) := by cases k <;> first | (cases h; done) | decide
theorem min_le (k : IntKind) : k.min ≤ 0 := by cases k <;> decide
theorem max_ge (k : IntKind) : -1 ≤ k.max := by cases k <;> decide
theorem iwrap_eq (k : IntKind) (n : Int) : iwrap k n = k.wrap n := by
  cases n with
  | ofNat a =>
    simp only [iwrap]
    cases h : Nat.blt a (half k) with
    | false => rfl
    | true =>
      rw [blt_iff] at h
      have h1 := half_max k; have h2 := min_le k
      exact (wrap_id k (Int.ofNat a) (by rw [Int.ofNat_eq_natCast]; omega) (by rw [Int.ofNat_eq_natCast]; omega)).symm
  | negSucc a =>
    simp only [iwrap]
    cases h : (k.signed && Nat.blt a (half k)) with
    | false => rfl
    | true =>
      simp only [Bool.and_eq_true, blt_iff] at h
      have h1 := half_min k h.1; have h2 := max_ge k
      exact (wrap_id k (Int.negSucc a) (by omega) (by omega)).symm

def leq : List Nat → List Nat → Bool
  | [], [] => true
  | a :: l, b :: m => cond (Nat.beq a b) (leq l m) false
  | _, _ => false
theorem leq_eq : ∀ (l m : List Nat), leq l m = decide (l = m)
  | [], [] => rfl
  | [], b :: m => by simp [leq]
  | a :: l, [] => by simp [leq]
  | a :: l, b :: m => by
    simp only [leq, beq_eq, leq_eq l m]
    by_cases h : a = b <;> simp [h]
/-- Is a text the lesser one? -/
def llt : List Nat → List Nat → Bool
  | _, [] => false
  | [], _ :: _ => true
  | a :: x, b :: y => cond (Nat.blt a b) true (cond (Nat.beq a b) (llt x y) false)
theorem llt_eq : ∀ (l m : List UInt8), llt (l.map UInt8.toNat) (m.map UInt8.toNat) = Op.bytesLess l m
  | l, [] => by cases l <;> rfl
  | [], _ :: _ => rfl
  | a :: x, b :: y => by
    simp only [List.map_cons, llt, Op.bytesLess, llt_eq x y, beq_eq]
    have h1 : Nat.blt a.toNat b.toNat = decide (a < b) := by rw [Bool.eq_iff_iff, blt_iff]; simp [UInt8.lt_iff_toNat_lt]
    have h2 : decide (a.toNat = b.toNat) = (a == b) := by rw [Bool.eq_iff_iff]; simp [UInt8.toNat_inj]
    rw [h1, h2]
    cases decide (a < b) <;> cases (a == b) <;> rfl

theorem strOf_size {l s} (h : strOf l s) : s.size = l.length := by
  unfold strOf at h; rw [← h]; simp
theorem strOf_eq {l m s t} (h : strOf l s) (k : strOf m t) : (s.toList == t.toList) = leq l m := by
  unfold strOf at h k
  rw [ByteArray.toList_eq, ByteArray.toList_eq, leq_eq, Bool.eq_iff_iff, ← h, ← k]
  simp only [beq_iff_eq, decide_eq_true_eq]
  constructor
  · intro e; rw [e]
  · intro e; exact (List.map_inj_right fun x y h => UInt8.toNat_inj.1 h).1 e
theorem strOf_lt {l m s t} (h : strOf l s) (k : strOf m t) : Op.bytesLess s.toList t.toList = llt l m := by
  unfold strOf at h k
  rw [ByteArray.toList_eq, ByteArray.toList_eq, ← h, ← k, llt_eq]
theorem strOf_append {l m s t} (h : strOf l s) (k : strOf m t) : strOf (l ++ m) (s ++ t) := by
  unfold strOf at *; simp [h, k]

def iand (k : IntKind) (a b : Int) : Int := k.wrap (BitVec.ofInt k.bits a &&& BitVec.ofInt k.bits b).toNat
def ior (k : IntKind) (a b : Int) : Int := k.wrap (BitVec.ofInt k.bits a ||| BitVec.ofInt k.bits b).toNat
def ixor (k : IntKind) (a b : Int) : Int := k.wrap (BitVec.ofInt k.bits a ^^^ BitVec.ofInt k.bits b).toNat
def iandNot (k : IntKind) (a b : Int) : Int := k.wrap (BitVec.ofInt k.bits a &&& ~~~(BitVec.ofInt k.bits b)).toNat

/-- Of two numbers of a kind: whether it may be, and what it is. -/
noncomputable abbrev arith (op : BinOp) (k : IntKind) (a b : Int) : Option (Bool × SV) :=
  match op with
  | .add => some (true, .int k (iwrap k (a + b)))
  | .sub => some (true, .int k (iwrap k (a - b)))
  | .mul => some (true, .int k (iwrap k (a * b)))
  | .quo => some (!(ieq b 0), .int k (iwrap k (a.tdiv b)))
  | .rem => some (!(ieq b 0), .int k (a.tmod b))
  | .eql => some (true, .bool (ieq a b))
  | .neq => some (true, .bool (!ieq a b))
  | .lss => some (true, .bool (ilt a b))
  | .leq => some (true, .bool (ile a b))
  | .gtr => some (true, .bool (ilt b a))
  | .geq => some (true, .bool (ile b a))
  | .and => some (true, .int k (iand k a b))
  | .or => some (true, .int k (ior k a b))
  | .xor => some (true, .int k (ixor k a b))
  | .andNot => some (true, .int k (iandNot k a b))
  | _ => none

theorem arith_run {op k a b v} (h : arith op k a b = some (true, v)) (ρ : Ren) (t : TypeId) (P : Program) : ∃ cv, SR ρ v cv ∧ ∀ w, (binOp op t (.int k a) (.int k b)).run P w = .ok cv w := by
  cases op <;> simp only [arith, Option.some.injEq, Prod.mk.injEq, true_and] at h
  case shl | shr => cases h
  case add | sub | mul =>
    subst h; rw [iwrap_eq]
    exact ⟨_, rfl, fun w => by simp [binOp, Op.intArith]⟩
  case quo | rem =>
    obtain ⟨h1, rfl⟩ := h
    rw [ieq_eq] at h1
    have hb : b ≠ 0 := by simpa using h1
    try rw [iwrap_eq]
    exact ⟨_, rfl, fun w => by simp [binOp, Op.intDiv, hb]⟩
  case eql | neq => subst h; rw [ieq_eq]; exact ⟨_, rfl, fun w => by simp [binOp, Op.intCmp, bne]⟩
  case lss | gtr => subst h; rw [ilt_eq]; exact ⟨_, rfl, fun w => by simp [binOp, Op.intCmp]⟩
  case leq | geq => subst h; rw [ile_eq]; exact ⟨_, rfl, fun w => by simp [binOp, Op.intCmp]⟩
  case and | or | xor | andNot =>
    subst h
    exact ⟨_, rfl, fun w => by simp [binOp, Op.intBits, iand, ior, ixor, iandNot]⟩

def shlI (k : IntKind) (a b : Int) : Int := k.wrap (a * (2 ^ (Nat.min b.toNat k.bits) : Nat))
def shrI (k : IntKind) (a b : Int) : Int := a.fdiv ((2 ^ (Nat.min b.toNat k.bits) : Nat))
noncomputable abbrev shiftOp (op : BinOp) (k : IntKind) (a b : Int) : Option (Bool × SV) :=
  match op with
  | .shl => some (ile 0 b, .int k (shlI k a b))
  | .shr => some (ile 0 b, .int k (shrI k a b))
  | _ => none
theorem shift_run {op k yk a b v} (h : shiftOp op k a b = some (true, v)) (ρ : Ren) (t : TypeId) (P : Program) : ∃ cv, SR ρ v cv ∧ ∀ w, (binOp op t (.int k a) (.int yk b)).run P w = .ok cv w := by
  cases op <;> simp only [shiftOp, Option.some.injEq, Prod.mk.injEq, reduceCtorEq] at h
  all_goals
    obtain ⟨h1, rfl⟩ := h
    rw [ile_eq] at h1
    have hn : ¬ (b < 0) := by have := of_decide_eq_true h1; omega
    exact ⟨_, rfl, fun w => by simp [binOp, Op.shift, hn, shlI, shrI]⟩

def isShift : BinOp → Bool
  | .shl | .shr => true
  | _ => false

noncomputable abbrev strOp (op : BinOp) (a b : List Nat) : Option (Bool × SV) :=
  match op with
  | .add => some (Nat.blt (a.length + b.length) 9223372036854775808, .str (a ++ b))
  | .eql => some (true, .bool (leq a b))
  | .neq => some (true, .bool (!leq a b))
  | .lss => some (true, .bool (llt a b))
  | .leq => some (true, .bool (llt a b || leq a b))
  | .gtr => some (true, .bool (!(llt a b || leq a b)))
  | .geq => some (true, .bool (!llt a b))
  | _ => none
theorem str_run {op a b v s u} (h : strOp op a b = some (true, v)) (hs : strOf a s) (hu : strOf b u) (ρ : Ren) (t : TypeId) (P : Program) : ∃ cv, SR ρ v cv ∧ ∀ w, (binOp op t (.string s) (.string u)).run P w = .ok cv w := by
  have e1 := strOf_eq hs hu
  have e2 := strOf_lt hs hu
  cases op <;> simp only [strOp, Option.some.injEq, Prod.mk.injEq, true_and, reduceCtorEq] at h
  case add =>
    obtain ⟨hl, rfl⟩ := h
    rw [blt_iff] at hl
    have h1 := strOf_size hs; have h2 := strOf_size hu
    refine ⟨.string (s ++ u), ⟨_, rfl, strOf_append hs hu⟩, fun w => ?_⟩
    have : ¬ (((s.size + u.size : Nat) : Int) > IntKind.i64.max) := by rw [h1, h2]; show ¬ (_ > (9223372036854775807 : Int)); omega
    simp only [binOp, Op.stringOp, this, if_false, Sem.run_pure]
  all_goals (subst h; exact ⟨_, rfl, fun w => by simp [binOp, Op.stringOp, e1, e2]⟩)
end Go.Xe
