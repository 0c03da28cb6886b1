/- Executor, second make: a tree of entries by number, sixteen ways at each place. -/
import Derived.Laws.CopyRow
import Derived.Laws.Cells
import Derived.Below
import Derived.Scope
import Derived.Orders
import Derived.KernelRfl
set_option linter.unusedVariables false
set_option linter.unusedSimpArgs false
set_option linter.constructorNameAsVariable false
set_option linter.unusedVariables false
set_option linter.unusedSimpArgs false
namespace Go.Xe
open Go.RowKit

inductive Dg where
  | d0 | d1 | d2 | d3 | d4 | d5 | d6 | d7 | d8 | d9 | d10 | d11 | d12 | d13 | d14 | d15
  deriving DecidableEq

inductive Tr (α : Type) where
  | u
  | v (a : Option α)
  | n (c0 c1 c2 c3 c4 c5 c6 c7 c8 c9 c10 c11 c12 c13 c14 c15 : Tr α)

variable {α : Type}
noncomputable def Tr.sub (t : Tr α) (d : Dg) : Tr α :=
  Tr.casesOn (motive := fun _ => Tr α) t .u (fun _ => .u) (fun c0 c1 c2 c3 c4 c5 c6 c7 c8 c9 c10 c11 c12 c13 c14 c15 => Dg.casesOn (motive := fun _ => Tr α) d c0 c1 c2 c3 c4 c5 c6 c7 c8 c9 c10 c11 c12 c13 c14 c15)
noncomputable def Tr.upd (t : Tr α) (d : Dg) (s : Tr α) : Tr α :=
  Tr.casesOn (motive := fun _ => Tr α) t
    (Dg.casesOn (motive := fun _ => Tr α) d (.n s .u .u .u .u .u .u .u .u .u .u .u .u .u .u .u) (.n .u s .u .u .u .u .u .u .u .u .u .u .u .u .u .u) (.n .u .u s .u .u .u .u .u .u .u .u .u .u .u .u .u) (.n .u .u .u s .u .u .u .u .u .u .u .u .u .u .u .u) (.n .u .u .u .u s .u .u .u .u .u .u .u .u .u .u .u) (.n .u .u .u .u .u s .u .u .u .u .u .u .u .u .u .u) (.n .u .u .u .u .u .u s .u .u .u .u .u .u .u .u .u) (.n .u .u .u .u .u .u .u s .u .u .u .u .u .u .u .u) (.n .u .u .u .u .u .u .u .u s .u .u .u .u .u .u .u) (.n .u .u .u .u .u .u .u .u .u s .u .u .u .u .u .u) (.n .u .u .u .u .u .u .u .u .u .u s .u .u .u .u .u) (.n .u .u .u .u .u .u .u .u .u .u .u s .u .u .u .u) (.n .u .u .u .u .u .u .u .u .u .u .u .u s .u .u .u) (.n .u .u .u .u .u .u .u .u .u .u .u .u .u s .u .u) (.n .u .u .u .u .u .u .u .u .u .u .u .u .u .u s .u) (.n .u .u .u .u .u .u .u .u .u .u .u .u .u .u .u s))
    (fun _ => Dg.casesOn (motive := fun _ => Tr α) d (.n s .u .u .u .u .u .u .u .u .u .u .u .u .u .u .u) (.n .u s .u .u .u .u .u .u .u .u .u .u .u .u .u .u) (.n .u .u s .u .u .u .u .u .u .u .u .u .u .u .u .u) (.n .u .u .u s .u .u .u .u .u .u .u .u .u .u .u .u) (.n .u .u .u .u s .u .u .u .u .u .u .u .u .u .u .u) (.n .u .u .u .u .u s .u .u .u .u .u .u .u .u .u .u) (.n .u .u .u .u .u .u s .u .u .u .u .u .u .u .u .u) (.n .u .u .u .u .u .u .u s .u .u .u .u .u .u .u .u) (.n .u .u .u .u .u .u .u .u s .u .u .u .u .u .u .u) (.n .u .u .u .u .u .u .u .u .u s .u .u .u .u .u .u) (.n .u .u .u .u .u .u .u .u .u .u s .u .u .u .u .u) (.n .u .u .u .u .u .u .u .u .u .u .u s .u .u .u .u) (.n .u .u .u .u .u .u .u .u .u .u .u .u s .u .u .u) (.n .u .u .u .u .u .u .u .u .u .u .u .u .u s .u .u) (.n .u .u .u .u .u .u .u .u .u .u .u .u .u .u s .u) (.n .u .u .u .u .u .u .u .u .u .u .u .u .u .u .u s))
    (fun c0 c1 c2 c3 c4 c5 c6 c7 c8 c9 c10 c11 c12 c13 c14 c15 => Dg.casesOn (motive := fun _ => Tr α) d (.n s c1 c2 c3 c4 c5 c6 c7 c8 c9 c10 c11 c12 c13 c14 c15) (.n c0 s c2 c3 c4 c5 c6 c7 c8 c9 c10 c11 c12 c13 c14 c15) (.n c0 c1 s c3 c4 c5 c6 c7 c8 c9 c10 c11 c12 c13 c14 c15) (.n c0 c1 c2 s c4 c5 c6 c7 c8 c9 c10 c11 c12 c13 c14 c15) (.n c0 c1 c2 c3 s c5 c6 c7 c8 c9 c10 c11 c12 c13 c14 c15) (.n c0 c1 c2 c3 c4 s c6 c7 c8 c9 c10 c11 c12 c13 c14 c15) (.n c0 c1 c2 c3 c4 c5 s c7 c8 c9 c10 c11 c12 c13 c14 c15) (.n c0 c1 c2 c3 c4 c5 c6 s c8 c9 c10 c11 c12 c13 c14 c15) (.n c0 c1 c2 c3 c4 c5 c6 c7 s c9 c10 c11 c12 c13 c14 c15) (.n c0 c1 c2 c3 c4 c5 c6 c7 c8 s c10 c11 c12 c13 c14 c15) (.n c0 c1 c2 c3 c4 c5 c6 c7 c8 c9 s c11 c12 c13 c14 c15) (.n c0 c1 c2 c3 c4 c5 c6 c7 c8 c9 c10 s c12 c13 c14 c15) (.n c0 c1 c2 c3 c4 c5 c6 c7 c8 c9 c10 c11 s c13 c14 c15) (.n c0 c1 c2 c3 c4 c5 c6 c7 c8 c9 c10 c11 c12 s c14 c15) (.n c0 c1 c2 c3 c4 c5 c6 c7 c8 c9 c10 c11 c12 c13 s c15) (.n c0 c1 c2 c3 c4 c5 c6 c7 c8 c9 c10 c11 c12 c13 c14 s))
theorem Tr.sub_upd (t : Tr α) (d e : Dg) (s : Tr α) : (t.upd d s).sub e = if d = e then s else t.sub e := by
  cases t <;> cases d <;> cases e <;> rfl
noncomputable def Tr.val (t : Tr α) : Option α := Tr.casesOn (motive := fun _ => Option α) t none (fun a => a) (fun _c0 _c1 _c2 _c3 _c4 _c5 _c6 _c7 _c8 _c9 _c10 _c11 _c12 _c13 _c14 _c15 => none)
noncomputable def getP (p : List Dg) (t : Tr α) : Option α := List.rec (motive := fun _ => Tr α → Option α) (fun t => t.val) (fun d _ ih t => ih (t.sub d)) p t
noncomputable def setP (a : Option α) (p : List Dg) (t : Tr α) : Tr α := List.rec (motive := fun _ => Tr α → Tr α) (fun _ => .v a) (fun d _ ih t => t.upd d (ih (t.sub d))) p t
theorem getP_setP (a : Option α) : ∀ (p q : List Dg) (t : Tr α), p.length = q.length → getP q (setP a p t) = if p = q then a else getP q t
  | [], [], t, _ => by simp; rfl
  | [], _ :: _, _, h => by simp at h
  | _ :: _, [], _, h => by simp at h
  | d :: p, e :: q, t, h => by
    show getP q ((t.upd d (setP a p (t.sub d))).sub e) = _
    rw [Tr.sub_upd]
    by_cases hde : d = e
    · subst hde
      rw [if_pos rfl, getP_setP a p q _ (by simpa using h)]
      by_cases hpq : p = q
      · simp [hpq]
      · simp only [hpq, if_false, List.cons.injEq, and_false]; rfl
    · rw [if_neg hde, if_neg (by simp [hde])]; rfl

/-- A number below 16. -/
def dg (n : Nat) : Dg :=
  cond (Nat.blt n 8) (cond (Nat.blt n 4) (cond (Nat.blt n 2) (cond (Nat.blt n 1) .d0 .d1) (cond (Nat.blt n 3) .d2 .d3)) (cond (Nat.blt n 6) (cond (Nat.blt n 5) .d4 .d5) (cond (Nat.blt n 7) .d6 .d7)))
    (cond (Nat.blt n 12) (cond (Nat.blt n 10) (cond (Nat.blt n 9) .d8 .d9) (cond (Nat.blt n 11) .d10 .d11)) (cond (Nat.blt n 14) (cond (Nat.blt n 13) .d12 .d13) (cond (Nat.blt n 15) .d14 .d15)))
def Dg.toNat : Dg → Nat
  | .d0 => 0
  | .d1 => 1
  | .d2 => 2
  | .d3 => 3
  | .d4 => 4
  | .d5 => 5
  | .d6 => 6
  | .d7 => 7
  | .d8 => 8
  | .d9 => 9
  | .d10 => 10
  | .d11 => 11
  | .d12 => 12
  | .d13 => 13
  | .d14 => 14
  | .d15 => 15

theorem dg_nat (n : Nat) (h : n < 16) : (dg n).toNat = n := by
  have : ∀ k : Fin 16, (dg k.1).toNat = k.1 := by decide
  exact this ⟨n, h⟩

def path3 (k : Nat) : List Dg := [dg (Nat.div k 256), dg (Nat.mod (Nat.div k 16) 16), dg (Nat.mod k 16)]
theorem path3_inj {j k : Nat} (hj : j < 4096) (hk : k < 4096) (h : path3 j = path3 k) : j = k := by
  simp only [path3, List.cons.injEq, and_true] at h
  obtain ⟨h1, h2, h3⟩ := h
  have f : ∀ {a b : Nat}, a < 16 → b < 16 → dg a = dg b → a = b := fun {a b} ha hb e => by
    have := congrArg Dg.toNat e; rwa [dg_nat _ ha, dg_nat _ hb] at this
  have e1 : j / 256 = k / 256 := f (show j / 256 < 16 by omega) (show k / 256 < 16 by omega) h1
  have e2 : j / 16 % 16 = k / 16 % 16 := f (Nat.mod_lt _ (by decide)) (Nat.mod_lt _ (by decide)) h2
  have e3 : j % 16 = k % 16 := f (Nat.mod_lt _ (by decide)) (Nat.mod_lt _ (by decide)) h3
  omega
theorem beq_eq (a b : Nat) : Nat.beq a b = decide (a = b) := by
  rw [Bool.eq_iff_iff, Nat.beq_eq]; simp
theorem blt_iff {a b : Nat} : Nat.blt a b = true ↔ a < b := by unfold Nat.blt; rw [Nat.ble_eq]; rfl

inductive D4 where
  | a | b | c | d
  deriving DecidableEq
/-- A tree of entries, four ways at each place. -/
inductive Qt (α : Type) where
  | u
  | v (a : Option α)
  | n (c0 c1 c2 c3 : Qt α)
noncomputable def Qt.sub (t : Qt α) (d : D4) : Qt α :=
  Qt.casesOn (motive := fun _ => Qt α) t .u (fun _ => .u) (fun c0 c1 c2 c3 => D4.casesOn (motive := fun _ => Qt α) d c0 c1 c2 c3)
noncomputable def Qt.put (c0 c1 c2 c3 : Qt α) (d : D4) (s : Qt α) : Qt α :=
  D4.casesOn (motive := fun _ => Qt α) d (.n s c1 c2 c3) (.n c0 s c2 c3) (.n c0 c1 s c3) (.n c0 c1 c2 s)
noncomputable def Qt.upd (t : Qt α) (d : D4) (s : Qt α) : Qt α :=
  Qt.casesOn (motive := fun _ => Qt α) t (Qt.put .u .u .u .u d s) (fun _ => Qt.put .u .u .u .u d s) (fun c0 c1 c2 c3 => Qt.put c0 c1 c2 c3 d s)
theorem Qt.sub_upd (t : Qt α) (d e : D4) (s : Qt α) : (t.upd d s).sub e = if d = e then s else t.sub e := by
  cases t <;> cases d <;> cases e <;> rfl
noncomputable def Qt.val (t : Qt α) : Option α := Qt.casesOn (motive := fun _ => Option α) t none (fun a => a) (fun _ _ _ _ => none)
noncomputable def getQ (p : List D4) (t : Qt α) : Option α := List.rec (motive := fun _ => Qt α → Option α) (fun t => t.val) (fun d _ ih t => ih (t.sub d)) p t
noncomputable def setQ (a : Option α) (p : List D4) (t : Qt α) : Qt α := List.rec (motive := fun _ => Qt α → Qt α) (fun _ => .v a) (fun d _ ih t => t.upd d (ih (t.sub d))) p t
theorem getQ_setQ (a : Option α) : ∀ (p q : List D4) (t : Qt α), p.length = q.length → getQ q (setQ a p t) = if p = q then a else getQ q t
  | [], [], t, _ => by simp; rfl
  | [], _ :: _, _, h => by simp at h
  | _ :: _, [], _, h => by simp at h
  | d :: p, e :: q, t, h => by
    show getQ q ((t.upd d (setQ a p (t.sub d))).sub e) = _
    rw [Qt.sub_upd]
    by_cases hde : d = e
    · subst hde
      rw [if_pos rfl, getQ_setQ a p q _ (by simpa using h)]
      by_cases hpq : p = q
      · simp [hpq]
      · simp only [hpq, if_false, List.cons.injEq, and_false]; rfl
    · rw [if_neg hde, if_neg (by simp [hde])]; rfl
theorem getQ_u : ∀ (p : List D4), getQ p (Qt.u : Qt α) = none
  | [] => rfl
  | _ :: p => getQ_u p
/-- A number below 4. -/
def dg4 (n : Nat) : D4 := cond (Nat.blt n 2) (cond (Nat.blt n 1) .a .b) (cond (Nat.blt n 3) .c .d)
def D4.toNat : D4 → Nat
  | .a => 0
  | .b => 1
  | .c => 2
  | .d => 3
theorem dg4_nat (n : Nat) (h : n < 4) : (dg4 n).toNat = n := by
  have : ∀ k : Fin 4, (dg4 k.1).toNat = k.1 := by decide
  exact this ⟨n, h⟩
theorem dg4_inj {a b : Nat} (ha : a < 4) (hb : b < 4) (e : dg4 a = dg4 b) : a = b := by
  have := congrArg D4.toNat e; rwa [dg4_nat _ ha, dg4_nat _ hb] at this
def path5 (k : Nat) : List D4 := [dg4 (Nat.div k 256), dg4 (Nat.mod (Nat.div k 64) 4), dg4 (Nat.mod (Nat.div k 16) 4), dg4 (Nat.mod (Nat.div k 4) 4), dg4 (Nat.mod k 4)]
def path8 (k : Nat) : List D4 := [dg4 (Nat.div k 16384), dg4 (Nat.mod (Nat.div k 4096) 4), dg4 (Nat.mod (Nat.div k 1024) 4), dg4 (Nat.mod (Nat.div k 256) 4), dg4 (Nat.mod (Nat.div k 64) 4), dg4 (Nat.mod (Nat.div k 16) 4), dg4 (Nat.mod (Nat.div k 4) 4), dg4 (Nat.mod k 4)]
theorem path5_inj {j k : Nat} (hj : j < 1024) (hk : k < 1024) (h : path5 j = path5 k) : j = k := by
  simp only [path5, List.cons.injEq, and_true] at h
  obtain ⟨h1, h2, h3, h4, h5⟩ := h
  have e1 : j / 256 = k / 256 := dg4_inj (show j / 256 < 4 by omega) (show k / 256 < 4 by omega) h1
  have e2 : j / 64 % 4 = k / 64 % 4 := dg4_inj (Nat.mod_lt _ (by decide)) (Nat.mod_lt _ (by decide)) h2
  have e3 : j / 16 % 4 = k / 16 % 4 := dg4_inj (Nat.mod_lt _ (by decide)) (Nat.mod_lt _ (by decide)) h3
  have e4 : j / 4 % 4 = k / 4 % 4 := dg4_inj (Nat.mod_lt _ (by decide)) (Nat.mod_lt _ (by decide)) h4
  have e5 : j % 4 = k % 4 := dg4_inj (Nat.mod_lt _ (by decide)) (Nat.mod_lt _ (by decide)) h5
  omega
theorem path8_inj {j k : Nat} (hj : j < 65536) (hk : k < 65536) (h : path8 j = path8 k) : j = k := by
  simp only [path8, List.cons.injEq, and_true] at h
  obtain ⟨h1, h2, h3, h4, h5, h6, h7, h8⟩ := h
  have e1 : j / 16384 = k / 16384 := dg4_inj (show j / 16384 < 4 by omega) (show k / 16384 < 4 by omega) h1
  have e2 : j / 4096 % 4 = k / 4096 % 4 := dg4_inj (Nat.mod_lt _ (by decide)) (Nat.mod_lt _ (by decide)) h2
  have e3 : j / 1024 % 4 = k / 1024 % 4 := dg4_inj (Nat.mod_lt _ (by decide)) (Nat.mod_lt _ (by decide)) h3
  have e4 : j / 256 % 4 = k / 256 % 4 := dg4_inj (Nat.mod_lt _ (by decide)) (Nat.mod_lt _ (by decide)) h4
  have e5 : j / 64 % 4 = k / 64 % 4 := dg4_inj (Nat.mod_lt _ (by decide)) (Nat.mod_lt _ (by decide)) h5
  have e6 : j / 16 % 4 = k / 16 % 4 := dg4_inj (Nat.mod_lt _ (by decide)) (Nat.mod_lt _ (by decide)) h6
  have e7 : j / 4 % 4 = k / 4 % 4 := dg4_inj (Nat.mod_lt _ (by decide)) (Nat.mod_lt _ (by decide)) h7
  have e8 : j % 4 = k % 4 := dg4_inj (Nat.mod_lt _ (by decide)) (Nat.mod_lt _ (by decide)) h8
  omega

/-- Entries by any numbers: a tree for those below 1024, one for those below 65536, a list for the others. -/
structure HM (α : Type) where
  t : Qt α
  q : Qt α
  l : List (Nat × Option α)
def HM.e : HM α := ⟨.u, .u, []⟩
noncomputable def assoc (k : Nat) : List (Nat × Option α) → Option α
  | [] => none
  | (j, a) :: l => cond (Nat.beq j k) a (assoc k l)
noncomputable abbrev HM.get (m : HM α) (k : Nat) : Option α := cond (Nat.blt k 1024) (getQ (path5 k) m.t) (cond (Nat.blt k 65536) (getQ (path8 k) m.q) (assoc k m.l))
noncomputable abbrev HM.set (m : HM α) (k : Nat) (a : Option α) : HM α := cond (Nat.blt k 1024) ⟨setQ a (path5 k) m.t, m.q, m.l⟩ (cond (Nat.blt k 65536) ⟨m.t, setQ a (path8 k) m.q, m.l⟩ ⟨m.t, m.q, (k, a) :: m.l⟩)
theorem blt_false {a b : Nat} (h : ¬ a < b) : Nat.blt a b = false := by cases h' : Nat.blt a b; rfl; exact absurd (blt_iff.1 h') h
theorem HM.get_set (m : HM α) (k : Nat) (a : Option α) (j : Nat) : (m.set k a).get j = if j = k then a else m.get j := by
  unfold HM.get HM.set
  by_cases hk : k < 1024
  · rw [blt_iff.2 hk]
    simp only [cond_true]
    by_cases hj : j < 1024
    · rw [blt_iff.2 hj]
      simp only [cond_true]
      rw [getQ_setQ a (path5 k) (path5 j) m.t rfl]
      by_cases e : j = k
      · subst e; simp
      · rw [if_neg e, if_neg fun h => e (path5_inj hk hj h).symm]
    · have : j ≠ k := by omega
      rw [blt_false hj, if_neg this]; rfl
  · rw [blt_false hk]
    simp only [cond_false]
    by_cases hk2 : k < 65536
    · rw [blt_iff.2 hk2]
      simp only [cond_true]
      by_cases hj : j < 1024
      · have : j ≠ k := by omega
        rw [blt_iff.2 hj, if_neg this]; rfl
      · rw [blt_false hj]
        simp only [cond_false]
        by_cases hj2 : j < 65536
        · rw [blt_iff.2 hj2]
          simp only [cond_true]
          rw [getQ_setQ a (path8 k) (path8 j) m.q rfl]
          by_cases e : j = k
          · subst e; simp
          · rw [if_neg e, if_neg fun h => e (path8_inj hk2 hj2 h).symm]
        · have : j ≠ k := by omega
          rw [blt_false hj2, if_neg this]; rfl
    · rw [blt_false hk2]
      simp only [cond_false]
      by_cases hj : j < 1024
      · have : j ≠ k := by omega
        rw [blt_iff.2 hj, if_neg this]; rfl
      · rw [blt_false hj]
        simp only [cond_false]
        by_cases hj2 : j < 65536
        · have : j ≠ k := by omega
          rw [blt_iff.2 hj2, if_neg this]; rfl
        · rw [blt_false hj2]
          simp only [cond_false, assoc, beq_eq]
          by_cases e : j = k
          · subst e; simp
          · have e' : k ≠ j := fun h => e h.symm
            simp [e, e']
theorem HM.get_e (k : Nat) : (HM.e : HM α).get k = none := by
  unfold HM.get HM.e
  cases Nat.blt k 1024
  · cases Nat.blt k 65536
    · rfl
    · show getQ (path8 k) .u = none; exact getQ_u _
  · show getQ (path5 k) .u = none; exact getQ_u _
theorem getP_u : ∀ (p : List Dg), getP p (Tr.u : Tr α) = none
  | [] => rfl
  | _ :: p => getP_u p

/-- Entries by numbers below 4096. -/
noncomputable def Tr.get2 (t : Tr α) (k : Nat) : Option α := getP (path3 k) t
noncomputable def Tr.set2 (t : Tr α) (k : Nat) (a : α) : Tr α := setP (some a) (path3 k) t
theorem Tr.get2_set2 (t : Tr α) (k : Nat) (a : α) (j : Nat) (hk : k < 4096) (hj : j < 4096) : (t.set2 k a).get2 j = if j = k then some a else t.get2 j := by
  unfold Tr.get2 Tr.set2
  rw [getP_setP (some a) (path3 k) (path3 j) t rfl]
  by_cases e : j = k
  · subst e; simp
  · rw [if_neg e, if_neg fun h => e (path3_inj hk hj h).symm]
end Go.Xe
