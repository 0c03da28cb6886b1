/- Executor, second make: operations that touch no memory. -/
import Derived.Test.YtgjggcgdilahdaaX3
import Derived.ChangeKeysEq
set_option linter.unusedVariables false
set_option linter.unusedSimpArgs false
set_option linter.constructorNameAsVariable false
set_option linter.unusedVariables false
set_option linter.unusedSimpArgs false
namespace Go.Xe
open Go.RowKit

/- What may be asked. -/
noncomputable abbrev req (c : Bool) (K : Prop) : Prop := Bool.rec (motive := fun _ => Prop) False K c
noncomputable abbrev PV.cs (p : PV) (K : Bk → Nat → Prop) : Prop := PV.rec (motive := fun _ => Prop) False K p
noncomputable abbrev LV.cs (p : LV) (K : Bk → Nat → Nat → Nat ⊕ Nat → Prop) : Prop := LV.rec (motive := fun _ => Prop) False K p
noncomputable abbrev MV.cs (p : MV) (K : Bk → Prop) : Prop := MV.rec (motive := fun _ => Prop) False K p
noncomputable abbrev FV.cs (p : FV) (K : Fn → List (Bk × Nat) → List (Bk × Nat) → Prop) : Prop := FV.rec (motive := fun _ => Prop) False K p
noncomputable abbrev PV.isNil (p : PV) : Bool := PV.rec (motive := fun _ => Bool) true (fun _ _ => false) p
noncomputable abbrev LV.isNil (p : LV) : Bool := LV.rec (motive := fun _ => Bool) true (fun _ _ _ _ => false) p
noncomputable abbrev MV.isNil (p : MV) : Bool := MV.rec (motive := fun _ => Bool) true (fun _ => false) p
noncomputable abbrev FV.isNil (p : FV) : Bool := FV.rec (motive := fun _ => Bool) true (fun _ _ _ => false) p
noncomputable abbrev LV.len (p : LV) : Nat := LV.rec (motive := fun _ => Nat) 0 (fun _ _ n _ => n) p
theorem req_and {c : Bool} {K : Prop} (h : req c K) : c = true ∧ K := by cases c; exact h.elim; exact ⟨rfl, h⟩
theorem PV.cs_mk {p : PV} {K} (h : p.cs K) : ∃ b o, p = .mk b o ∧ K b o := by cases p; exact h.elim; exact ⟨_, _, rfl, h⟩
theorem LV.cs_mk {p : LV} {K} (h : p.cs K) : ∃ b o n c, p = .mk b o n c ∧ K b o n c := by cases p; exact h.elim; exact ⟨_, _, _, _, rfl, h⟩
theorem MV.cs_mk {p : MV} {K} (h : p.cs K) : ∃ b, p = .mk b ∧ K b := by cases p; exact h.elim; exact ⟨_, rfl, h⟩
theorem FV.cs_mk {p : FV} {K} (h : p.cs K) : ∃ f a c, p = .mk f a c ∧ K f a c := by cases p; exact h.elim; exact ⟨_, _, _, rfl, h⟩
noncomputable abbrev gvK (r : Option (Bool × SV)) (K : AV → Prop) : Prop := Option.rec (motive := fun _ => Prop) False (fun p => req p.1 (K (.one (.s p.2)))) r
theorem gvK_some {r : Option (Bool × SV)} {K} (h : gvK r K) : ∃ v, r = some (true, v) ∧ K (.one (.s v)) := by
  cases r with
  | none => exact h.elim
  | some p =>
    obtain ⟨c, v⟩ := p
    obtain ⟨h1, h2⟩ := req_and h
    simp only at h1; subst h1
    exact ⟨v, rfl, h2⟩
noncomputable abbrev scK (x : AV) (K : SV → Prop) : Prop := match x with | .one (.s v) => K v | _ => False
noncomputable abbrev oneK (x : AV) (K : V1 → Prop) : Prop := match x with | .one v => K v | _ => False
theorem scK_some {x K} (h : scK x K) : ∃ v, x = .one (.s v) ∧ K v := by
  unfold scK at h; split at h
  · exact ⟨_, rfl, h⟩
  · exact h.elim
theorem oneK_some {x K} (h : oneK x K) : ∃ v, x = .one v ∧ K v := by
  unfold oneK at h; split at h
  · exact ⟨_, rfl, h⟩
  · exact h.elim
noncomputable abbrev optK {α : Type} (x : Option α) (K : α → Prop) : Prop := Option.rec (motive := fun _ => Prop) False K x
theorem optK_some {α : Type} {x : Option α} {K} (h : optK x K) : ∃ v, x = some v ∧ K v := by
  cases x with
  | none => exact h.elim
  | some v => exact ⟨v, rfl, h⟩

def absS : Value → Option SV
  | .bool b => some (.bool b)
  | .int k n => some (.int k n)
  | .string s => some (.str (s.data.toList.map UInt8.toNat))
  | .pointer none => some (.ptr .nil)
  | .slice none n c => cond (Nat.beq n 0 && Nat.beq c 0) (some (.sl .nil)) none
  | .map none => some (.map .nil)
  | .nilFunc => some (.fn .nil)
  | _ => none
theorem absS_ok {v a} (h : absS v = some a) (ρ : Ren) : SR ρ a v := by
  cases v <;> simp only [absS] at h <;> try (cases h)
  case bool | int | nilFunc => rfl
  case string => exact ⟨_, rfl, rfl⟩
  case pointer p => cases p <;> simp only [absS] at h <;> cases h; rfl
  case map p => cases p <;> simp only [absS] at h <;> cases h; rfl
  case slice p n c =>
    cases p <;> simp only [absS] at h
    · cases hc : (Nat.beq n 0 && Nat.beq c 0) with
      | false => rw [hc] at h; cases h
      | true =>
        rw [hc] at h; cases h
        simp only [Bool.and_eq_true, Nat.beq_eq] at hc
        obtain ⟨rfl, rfl⟩ := hc
        rfl
    · cases h
def absL : List Value → Option (List SV)
  | [] => some []
  | v :: l => match absS v with
    | none => none
    | some a => match absL l with
      | none => none
      | some m => some (a :: m)
theorem absL_ok : ∀ {l m}, absL l = some m → ∀ (ρ : Ren), All2 (SR ρ) m l
  | [], m, h, ρ => by cases h; exact .nil
  | v :: l, m, h, ρ => by
    simp only [absL] at h
    cases h1 : absS v with
    | none => rw [h1] at h; cases h
    | some a =>
      rw [h1] at h; simp only at h
      cases h2 : absL l with
      | none => rw [h2] at h; cases h
      | some m' => rw [h2] at h; cases h; exact .cons (absS_ok h1 ρ) (absL_ok h2 ρ)
def absV1 : Value → Option V1
  | .agg c => (absL c.toList).map .agg
  | v => (absS v).map .s
theorem absV1_ok {v a} (h : absV1 v = some a) (ρ : Ren) : VR1 ρ a v := by
  cases v
  case agg c =>
    simp only [absV1] at h
    cases h1 : absL c.toList with
    | none => rw [h1] at h; cases h
    | some m => rw [h1] at h; cases h; exact ⟨c.toList, rfl, absL_ok h1 ρ⟩
  all_goals
    simp only [absV1] at h
    cases h1 : absS _ with
    | none => rw [h1] at h; cases h
    | some m => rw [h1] at h; cases h; exact absS_ok h1 ρ

/-- What an operand of the text is. -/
noncomputable abbrev evO (G : Nat → Bool) (E : Nat → AV) (x : Operand) : AV :=
  match x with
  | .tmp t => E t
  | .const v => (match absV1 v with | some a => .one a | none => .any)
  | .global g => cond (G g) (.one (.s (.ptr (.mk (.inp g) 0)))) .any
  | .func f => .one (.s (.fn (.mk (.func f) [] [])))

/-- The listed globals are where they are. -/
def GOK (G : Nat → Bool) (ρ : Ren) : Prop := ∀ g, G g = true → ∃ m, ρ (.inp g) = some (g, 0, m)
theorem GOK.mono {G ρ ρ'} (h : GOK G ρ) (k : Le ρ ρ') : GOK G ρ' := fun g hg => let ⟨m, hm⟩ := h g hg; ⟨m, k _ _ hm⟩

abbrev Ev := Operand → AV
def EvR (ρ : Ren) (e : Ev) (c : Operand → Value) : Prop := ∀ x, VR ρ (e x) (c x)
theorem undef_ok (ρ : Ren) : VR ρ (.tup []) undef := ⟨[], rfl, .nil⟩

/-- The slots. -/
def ER (ρ : Ren) (E : Nat → AV) (a : Act) : Prop := ∀ t, VR ρ (E t) (a.tmps.getD t undef)
theorem ER.ev {ρ E a G} (h : ER ρ E a) (hG : GOK G ρ) : EvR ρ (evO G E) a.eval := by
  intro x
  cases x with
  | tmp t => exact h t
  | const u =>
    simp only [evO]
    cases h1 : absV1 u with
    | none => trivial
    | some m => exact absV1_ok h1 ρ
  | global g =>
    simp only [evO]
    cases h1 : G g with
    | false => trivial
    | true =>
      obtain ⟨m, hm⟩ := hG g h1
      exact ⟨g, 0, m, hm, by simp [Act.eval]⟩
  | func f => exact ⟨[], [], rfl, .nil, .nil⟩
theorem EvR.sc {ρ e c} (h : EvR ρ e c) {x v} (hx : e x = .one (.s v)) : SR ρ v (c x) := by have := h x; rw [hx] at this; exact this
theorem EvR.one {ρ e c} (h : EvR ρ e c) {x v} (hx : e x = .one v) : VR1 ρ v (c x) := by have := h x; rw [hx] at this; exact this

/-- A type's cells; none: it has none, or none are known. -/
def sizeA (P : Program) (t : TypeId) : Option Nat := match P.info? t with | some i => cond (Nat.beq i.size 0) none (some i.size) | none => none
theorem sizeA_run {P t n} (h : sizeA P t = some n) : n ≠ 0 ∧ ∀ w, (sizeOf t).run P w = .ok n w := by
  unfold sizeA at h
  split at h
  · rename_i i hi
    cases hb : Nat.beq i.size 0 with
    | true => rw [hb] at h; cases h
    | false =>
      rw [hb] at h; cases h
      refine ⟨fun e => ?_, fun w => by simp [sizeOf, typeInfo, hi]⟩
      rw [beq_eq] at hb; simp [e] at hb
  · cases h
def isAggA (P : Program) (t : TypeId) : Option Bool := match P.underlying t with
  | some (.struct _) | some (.array _ _) => some true
  | some _ => some false
  | none => none
theorem isAggA_run {P t b} (h : isAggA P t = some b) : ∀ w, (isAgg t).run P w = .ok b w := by
  intro w
  unfold isAggA at h
  cases hu : P.underlying t with
  | none => rw [hu] at h; cases h
  | some d => rw [hu] at h; cases d <;> simp only at h <;> cases h <;> simp [isAgg, underlying, hu]

/-- A part of a struct or an array. -/
def partA (P : Program) (t : TypeId) (cs : List SV) (off : Nat) : Option V1 :=
  match isAggA P t with
  | some true => match sizeA P t with
    | some n => cond (Nat.ble (off + n) cs.length) (some (.agg ((cs.drop off).take n))) none
    | none => none
  | some false => (cs[off]?).map .s
  | none => none
theorem partA_run {P t cs off v} (h : partA P t cs off = some v) {ρ : Ren} {vs : List Value} (hv : All2 (SR ρ) cs vs) : ∃ cv, VR1 ρ v cv ∧ ∀ w, (part t vs.toArray off).run P w = .ok cv w := by
  unfold partA at h
  cases ha : isAggA P t with
  | none => rw [ha] at h; cases h
  | some b =>
    have hr := isAggA_run ha
    rw [ha] at h
    cases b with
    | false =>
      simp only at h
      cases hc : cs[off]? with
      | none => rw [hc] at h; cases h
      | some a =>
        rw [hc] at h; cases h
        obtain ⟨cv, h1, h2⟩ := hv.get hc
        exact ⟨cv, h2, fun w => by simp [part, hr, h1]⟩
    | true =>
      simp only at h
      cases hs : sizeA P t with
      | none => rw [hs] at h; cases h
      | some n =>
        rw [hs] at h
        simp only at h
        cases hb : Nat.ble (off + n) cs.length with
        | false => rw [hb] at h; cases h
        | true =>
          rw [hb] at h; cases h
          have hsr := (sizeA_run hs).2
          have hle := Nat.le_of_ble_eq_true hb
          have hl := hv.length
          refine ⟨_, ⟨(vs.drop off).take n, rfl, (hv.drop off).take n⟩, fun w => ?_⟩
          simp [part, hr, hsr]

/-- Are two values the same? -/
noncomputable def eqA (P : Program) : Nat → TypeId → V1 → V1 → Option Bool
  | 0, _, _, _ => none
  | d + 1, t, x, y =>
    match P.underlying t, x, y with
    | some .bool, .s (.bool a), .s (.bool b) => some (a == b)
    | some (.int _), .s (.int j a), .s (.int k b) => cond (decide (j = k)) (some (ieq a b)) none
    | some .string, .s (.str a), .s (.str b) => some (leq a b)
    | some (.pointer _), .s (.ptr .nil), .s (.ptr q) => some q.isNil
    | some (.pointer _), .s (.ptr p), .s (.ptr .nil) => some p.isNil
    | some (.slice _), .s (.sl .nil), .s (.sl q) => some q.isNil
    | some (.slice _), .s (.sl p), .s (.sl .nil) => some p.isNil
    | some (.map _ _), .s (.map .nil), .s (.map q) => some q.isNil
    | some (.map _ _), .s (.map p), .s (.map .nil) => some p.isNil
    | some (.func _ _ _), .s (.fn .nil), .s (.fn q) => some q.isNil
    | some (.func _ _ _), .s (.fn p), .s (.fn .nil) => some p.isNil
    | some (.struct fs), .agg xs, .agg ys =>
      cond (P.stoodInHeld t) none (eqFs (fun f => match partA P f.type xs f.offset, partA P f.type ys f.offset with
        | some a, some b => eqA P d f.type a b
        | _, _ => none) fs.toList)
    | some (.array n e), .agg xs, .agg ys => cond (P.info? e).isSome (eqNs (fun i => match partA P e xs (i * P.cellsOf e), partA P e ys (i * P.cellsOf e) with
        | some a, some b => eqA P d e a b
        | _, _ => none) (List.range n)) none
    | _, _, _ => none
where
  /-- All elements. -/
  eqNs (f : Nat → Option Bool) : List Nat → Option Bool
    | [] => some true
    | x :: l => (match f x, eqNs f l with | some a, some b => some (a && b) | _, _ => none)
  /-- All fields but those without a name. -/
  eqFs (f : Field → Option Bool) : List Field → Option Bool
    | [] => some true
    | x :: l => cond (x.name == "_") (eqFs f l) (match f x, eqFs f l with | some a, some b => some (a && b) | _, _ => none)

theorem eqA_run {P : Program} {ρ : Ren} : ∀ (d : Nat) (t : TypeId) (x y : V1) (b : Bool), eqA P d t x y = some b → ∀ (cx cy : Value), VR1 ρ x cx → VR1 ρ y cy → ∀ (D : Nat), d ≤ D → ∀ w, (Op.equalIn D t cx cy).run P w = .ok b w := by
  intro d
  induction d with
  | zero => intro t x y b h; simp [eqA] at h
  | succ d ih =>
    intro t x y b h cx cy hx hy D hD w
    obtain ⟨D, rfl⟩ : ∃ k, D = k + 1 := ⟨D - 1, by omega⟩
    unfold eqA at h
    split at h
    case h_1 a b' hu => cases h; cases hx; cases hy; simp [Op.equalIn, run_underlying hu]
    case h_2 j a k b' hu =>
      by_cases e : j = k
      · subst e; simp at h; subst h; cases hx; cases hy; simp [Op.equalIn, run_underlying hu, ieq_eq]
      · simp [e] at h
    case h_3 a b' hu =>
      cases h; obtain ⟨s, rfl, hs⟩ := hx; obtain ⟨u, rfl, hu'⟩ := hy
      simp [Op.equalIn, run_underlying hu, ← strOf_eq hs hu', beq_toListBytes]
    case h_4 q hu => cases h; cases hx; cases q with
      | nil => cases hy; simp [Op.equalIn, run_underlying hu]
      | mk b o => obtain ⟨_, _, _, _, rfl⟩ := hy; simp [Op.equalIn, run_underlying hu]
    case h_5 p _ hu => cases h; cases hy; cases p with
      | nil => cases hx; simp [Op.equalIn, run_underlying hu]
      | mk b o => obtain ⟨_, _, _, _, rfl⟩ := hx; simp [Op.equalIn, run_underlying hu]
    case h_6 q hu => cases h; cases hx; cases q with
      | nil => cases hy; simp [Op.equalIn, run_underlying hu]
      | mk b o n c => obtain ⟨_, _, _, _, _, _, rfl, _⟩ := hy; simp [Op.equalIn, run_underlying hu]
    case h_7 p _ hu => cases h; cases hy; cases p with
      | nil => cases hx; simp [Op.equalIn, run_underlying hu]
      | mk b o n c => obtain ⟨_, _, _, _, _, _, rfl, _⟩ := hx; simp [Op.equalIn, run_underlying hu]
    case h_8 q hu => cases h; cases hx; cases q with
      | nil => cases hy; simp [Op.equalIn, run_underlying hu]
      | mk b => obtain ⟨_, _, _, _, rfl⟩ := hy; simp [Op.equalIn, run_underlying hu]
    case h_9 p _ hu => cases h; cases hy; cases p with
      | nil => cases hx; simp [Op.equalIn, run_underlying hu]
      | mk b => obtain ⟨_, _, _, _, rfl⟩ := hx; simp [Op.equalIn, run_underlying hu]
    case h_10 q hu => cases h; cases hx; cases q with
      | nil => cases hy; simp [Op.equalIn, run_underlying hu]
      | mk f a c => obtain ⟨_, _, rfl, _⟩ := hy; simp [Op.equalIn, run_underlying hu]
    case h_11 p _ hu => cases h; cases hy; cases p with
      | nil => cases hx; simp [Op.equalIn, run_underlying hu]
      | mk f a c => obtain ⟨_, _, rfl, _⟩ := hx; simp [Op.equalIn, run_underlying hu]
    case h_12 fs xs ys hu =>
      obtain ⟨vx, rfl, h1⟩ := hx
      obtain ⟨vy, rfl, h2⟩ := hy
      cases hst : P.stoodInHeld t with
      | true => rw [hst] at h; cases h
      | false =>
        rw [hst] at h
        simp only [cond_false] at h
        have hf : P.fieldsOf t = fs := by simp [Program.fieldsOf, hu]
        rw [run_equalIn_struct w D t _ _ (by rw [hf]; exact hu) hst, hf]
        clear hu hf
        generalize fs.toList = l at h
        clear fs
        induction l generalizing b with
        | nil => simp only [eqA.eqFs, Option.some.injEq] at h; subst h; simp [Op.eqFields]
        | cons f l ihl =>
          simp only [eqA.eqFs] at h
          by_cases hn : f.name ≠ "_"
          · have hn' : (f.name == "_") = false := by simpa using hn
            rw [hn'] at h
            simp only [cond_false] at h
            cases ha : partA P f.type xs f.offset with
            | none => rw [ha] at h; simp at h
            | some a =>
              cases hb : partA P f.type ys f.offset with
              | none => rw [ha, hb] at h; simp at h
              | some c =>
                rw [ha, hb] at h
                simp only at h
                obtain ⟨ca, hca, hra⟩ := partA_run ha h1
                obtain ⟨cc, hcc, hrc⟩ := partA_run hb h2
                cases he : eqA P d f.type a c with
                | none => rw [he] at h; simp at h
                | some r =>
                  rw [he] at h
                  have hr := ih f.type a c r he ca cc hca hcc D (by omega)
                  split at h
                  · rename_i r' s hr' hs
                    cases hr'; cases h
                    simp only [Op.eqFields, hn, ne_eq, not_false_eq_true, if_true, Sem.run_bind, hra, hrc, Result.andThen_ok, hr]
                    cases r with
                    | true => simp only [Bool.not_true, Bool.false_eq_true, if_false, Bool.true_and]; exact ihl _ hs
                    | false => simp
                  · cases h
          · have hn' : (f.name == "_") = true := by simpa using hn
            rw [hn'] at h
            simp only [cond_true] at h
            simp only [Op.eqFields, hn, if_false]
            exact ihl _ h
    case h_13 n e xs ys hu =>
      obtain ⟨vx, rfl, h1⟩ := hx
      obtain ⟨vy, rfl, h2⟩ := hy
      cases hi : P.info? e with
      | none => rw [hi] at h; cases h
      | some i =>
      rw [hi] at h
      simp only [Option.isSome_some, cond_true] at h
      rw [run_equalIn_array w D _ _ hu hi]
      generalize List.range n = l at h ⊢
      induction l generalizing b with
      | nil => simp only [eqA.eqNs, Option.some.injEq] at h; subst h; simp [Op.eqItems]
      | cons j l ihl =>
        simp only [eqA.eqNs] at h
        cases ha : partA P e xs (j * P.cellsOf e) with
        | none => rw [ha] at h; simp at h
        | some a =>
          cases hb : partA P e ys (j * P.cellsOf e) with
          | none => rw [ha, hb] at h; simp at h
          | some c =>
            rw [ha, hb] at h
            simp only at h
            obtain ⟨ca, hca, hra⟩ := partA_run ha h1
            obtain ⟨cc, hcc, hrc⟩ := partA_run hb h2
            cases he : eqA P d e a c with
            | none => rw [he] at h; simp at h
            | some r =>
              rw [he] at h
              have hr := ih e a c r he ca cc hca hcc D (by omega)
              split at h
              · rename_i r' s hr' hs
                cases hr'; cases h
                simp only [Op.eqItems, Sem.run_bind, hra, hrc, Result.andThen_ok, hr]
                cases r with
                | true => simp only [Bool.not_true, Bool.false_eq_true, if_false, Bool.true_and]; exact ihl _ hs
                | false => simp
              · cases h
    case h_14 => cases h

/-- A run that comes to a related value, whatever the world. -/
def Snd (P : Program) (ρ : Ren) (K : AV → Prop) (s : Sem Value) : Prop := ∃ v cv, K v ∧ VR ρ v cv ∧ ∀ w, s.run P w = .ok cv w

noncomputable abbrev eqK (op : BinOp) (r : Option Bool) (K : AV → Prop) : Prop :=
  match op with
  | .eql => optK r fun b => K (.one (.s (.bool b)))
  | .neq => optK r fun b => K (.one (.s (.bool (!b))))
  | _ => False

theorem eqGuard_any (op : BinOp) (t : TypeId) (x y : Operand) (a b : Value) (P : Program) (w : World)
    (h : ∀ xs ys, a = .agg xs → b = .agg ys → P.eqGuardType P.depth t = false) (h1 : a ≠ .nilIface) : (eqGuard op t x y a b).run P w = .ok () w := by
  have main : ∀ op, (op = .eql ∨ op = .neq) → (eqGuard op t x y a b).run P w = .ok () w := by
    rintro op (rfl | rfl) <;> (unfold eqGuard; cases a <;> cases b <;> first | rfl | exact absurd rfl h1 | (rename_i xs ys; simp [h xs ys rfl rfl]))
  cases op <;> first | rfl | exact main _ (.inl rfl) | exact main _ (.inr rfl)

theorem SR.notAgg {ρ a v} (h : SR ρ a v) : (∀ xs, v ≠ .agg xs) ∧ v ≠ .nilIface := by
  rcases a with b | ⟨k, n⟩ | s | (_ | ⟨b, o⟩) | (_ | ⟨b, o, n, c⟩) | (_ | b) | (_ | ⟨f, a, c⟩) <;> simp only [SR] at h
  · subst h; exact ⟨fun _ => by simp, by simp⟩
  · subst h; exact ⟨fun _ => by simp, by simp⟩
  · obtain ⟨s, rfl, _⟩ := h; exact ⟨fun _ => by simp, by simp⟩
  · subst h; exact ⟨fun _ => by simp, by simp⟩
  · obtain ⟨r, sh, m, h1, rfl⟩ := h; exact ⟨fun _ => by simp, by simp⟩
  · subst h; exact ⟨fun _ => by simp, by simp⟩
  · obtain ⟨r, sh, m, cc, o', h1, rfl, _⟩ := h; exact ⟨fun _ => by simp, by simp⟩
  · subst h; exact ⟨fun _ => by simp, by simp⟩
  · obtain ⟨r, sh, m, h1, rfl⟩ := h; exact ⟨fun _ => by simp, by simp⟩
  · subst h; exact ⟨fun _ => by simp, by simp⟩
  · obtain ⟨xs, ys, rfl, _⟩ := h; exact ⟨fun _ => by simp, by simp⟩

theorem equal_run {P : Program} {ρ : Ren} {d t x y b} (h : eqA P d t x y = some b) (hd : d ≤ 10000) {cx cy} (hx : VR1 ρ x cx) (hy : VR1 ρ y cy) (w : World) : (Op.equal t cx cy).run P w = .ok b w :=
  eqA_run d t x y b h cx cy hx hy 10000 hd w

theorem eqK_some {op r K} (h : eqK op r K) : ∃ b, r = some b ∧ ((op = .eql ∧ K (.one (.s (.bool b)))) ∨ (op = .neq ∧ K (.one (.s (.bool (!b)))))) := by
  cases op <;> first | exact h.elim | (obtain ⟨b, h1, h2⟩ := optK_some h; exact ⟨b, h1, by simp [h2]⟩)
/-- '==' and '!=' between values that are no two numbers, no two texts. -/
theorem eqn_run {P : Program} {ρ : Ren} {op : BinOp} {d t x y K} (hd : d ≤ 10000) {cx cy} (hx : VR1 ρ x cx) (hy : VR1 ρ y cy)
    (h : eqK op (eqA P d t x y) K)
    (hb1 : binOp .eql t cx cy = do pure (.bool (← Op.equal t cx cy))) (hb2 : binOp .neq t cx cy = do pure (.bool (!(← Op.equal t cx cy)))) :
    ∃ v cv, K v ∧ VR ρ v cv ∧ ∀ w, (binOp op t cx cy).run P w = .ok cv w := by
  obtain ⟨b, h1, ⟨rfl, h2⟩ | ⟨rfl, h2⟩⟩ := eqK_some h
  · exact ⟨_, _, h2, rfl, fun w => by rw [hb1]; simp [equal_run h1 hd hx hy]⟩
  · exact ⟨_, _, h2, rfl, fun w => by rw [hb2]; simp [equal_run h1 hd hx hy]⟩

/-- Two operands and what stands between. -/
noncomputable abbrev binK (P : Program) (op : BinOp) (t : TypeId) (x y : V1) (K : AV → Prop) : Prop :=
  match x, y with
  | .s (.int j a), .s (.int k b) => match isShift op with
    | true => gvK (shiftOp op j a b) K
    | false => match decide (j = k) with
      | true => gvK (arith op j a b) K
      | false => False
  | .s (.str a), .s (.str b) => gvK (strOp op a b) K
  | .agg a, .agg b => match P.eqGuardType P.depth t with
    | true => False
    | false => eqK op (eqA P 50 t (.agg a) (.agg b)) K
  | x, y => eqK op (eqA P 1 t x y) K

theorem binK_run {P op t x y K} (h : binK P op t x y K) {ρ : Ren} {cx cy} (hx : VR1 ρ x cx) (hy : VR1 ρ y cy) (ox oy : Operand) :
    Snd P ρ K (do eqGuard op t ox oy cx cy; binOp op t cx cy : Sem Value) := by
  have hg : ∀ (ha : ∀ xs ys, cx = .agg xs → cy = .agg ys → P.eqGuardType P.depth t = false) (h1 : cx ≠ .nilIface) {cv} (w : World), (binOp op t cx cy).run P w = .ok cv w → (do eqGuard op t ox oy cx cy; binOp op t cx cy : Sem Value).run P w = .ok cv w := by
    intro ha h1 cv w hr
    simp [eqGuard_any op t ox oy cx cy P w ha h1, hr]
  unfold binK at h
  split at h
  · rename_i j a k b
    cases hx; cases hy
    split at h
    · obtain ⟨v, h1, h4⟩ := gvK_some h
      obtain ⟨cv, h2, h3⟩ := shift_run (yk := k) h1 ρ t P
      exact ⟨_, cv, h4, h2, fun w => hg (by simp) (by simp) w (h3 w)⟩
    · split at h
      · rename_i hjk
        have e := of_decide_eq_true hjk
        subst e
        obtain ⟨v, h1, h4⟩ := gvK_some h
        obtain ⟨cv, h2, h3⟩ := arith_run h1 ρ t P
        exact ⟨_, cv, h4, h2, fun w => hg (by simp) (by simp) w (h3 w)⟩
      · exact h.elim
  · obtain ⟨v, h1, h4⟩ := gvK_some h
    obtain ⟨s, rfl, hs⟩ := hx
    obtain ⟨u', rfl, hu⟩ := hy
    obtain ⟨cv, h2, h3⟩ := str_run h1 hs hu ρ t P
    exact ⟨_, cv, h4, h2, fun w => hg (by simp) (by simp) w (h3 w)⟩
  · rename_i a b
    split at h
    · exact h.elim
    · rename_i hq
      obtain ⟨xs, hxe, _⟩ := id hx
      obtain ⟨ys, hye, _⟩ := id hy
      obtain ⟨v, cv, h4, h2, h3⟩ := eqn_run (by omega) hx hy h (by rw [hxe, hye]; rfl) (by rw [hxe, hye]; rfl)
      exact ⟨v, cv, h4, h2, fun w => hg (fun _ _ _ _ => hq) (by rw [hxe]; simp) w (h3 w)⟩
  · rename_i h1 h2 h3
    have hb : binOp .eql t cx cy = (do pure (.bool (← Op.equal t cx cy))) ∧ binOp .neq t cx cy = (do pure (.bool (!(← Op.equal t cx cy)))) ∧ cx ≠ .nilIface ∧ (∀ xs ys, cx = .agg xs → cy = .agg ys → False) := by
      cases x with
      | agg a =>
        obtain ⟨xs, rfl, _⟩ := hx
        cases y with
        | agg b => exact (h3 _ _ rfl rfl).elim
        | s y =>
          have := SR.notAgg hy
          refine ⟨?_, ?_, by simp, fun _ ys _ e => this.1 _ e⟩ <;> (cases cy <;> rfl)
      | s x =>
        have hn := SR.notAgg hx
        refine ⟨?_, ?_, hn.2, fun xs _ e _ => hn.1 _ e⟩
        all_goals
          rcases x with b | ⟨k, n⟩ | s | (_ | ⟨b, o⟩) | (_ | ⟨b, o, n, c⟩) | (_ | b) | (_ | ⟨f, a, c⟩) <;> simp only [VR1, SR] at hx
          case int =>
            subst hx
            cases y with
            | agg b => obtain ⟨ys, rfl, _⟩ := hy; rfl
            | s y =>
              rcases y with b | ⟨k, n⟩ | s | (_ | ⟨b, o⟩) | (_ | ⟨b, o, n, c⟩) | (_ | b) | (_ | ⟨f, a, c⟩) <;> simp only [VR1, SR] at hy
              case int => exact (h1 _ _ _ _ rfl rfl).elim
              all_goals first | (subst hy; rfl) | (obtain ⟨_, rfl, _⟩ := hy; rfl) | (obtain ⟨_, _, _, _, rfl⟩ := hy; rfl) | (obtain ⟨_, _, _, _, _, _, rfl, _⟩ := hy; rfl) | (obtain ⟨_, _, rfl, _⟩ := hy; rfl)
          case str =>
            obtain ⟨s, rfl, _⟩ := hx
            cases y with
            | agg b => obtain ⟨ys, rfl, _⟩ := hy; rfl
            | s y =>
              rcases y with b | ⟨k, n⟩ | s | (_ | ⟨b, o⟩) | (_ | ⟨b, o, n, c⟩) | (_ | b) | (_ | ⟨f, a, c⟩) <;> simp only [VR1, SR] at hy
              case str => exact (h2 _ _ rfl rfl).elim
              all_goals first | (subst hy; rfl) | (obtain ⟨_, _, _, _, rfl⟩ := hy; rfl) | (obtain ⟨_, _, _, _, _, _, rfl, _⟩ := hy; rfl) | (obtain ⟨_, _, rfl, _⟩ := hy; rfl)
          all_goals first | (subst hx; cases cy <;> rfl) | (obtain ⟨_, _, _, _, rfl⟩ := hx; cases cy <;> rfl) | (obtain ⟨_, _, _, _, _, _, rfl, _⟩ := hx; cases cy <;> rfl) | (obtain ⟨_, _, rfl, _⟩ := hx; cases cy <;> rfl)
    obtain ⟨hb1, hb2, hb3, hb4⟩ := hb
    obtain ⟨v, cv, h5, h4, h6⟩ := eqn_run (by omega) hx hy h hb1 hb2
    exact ⟨v, cv, h5, h4, fun w => hg (fun _ _ e e' => (hb4 _ _ e e').elim) hb3 w (h6 w)⟩
end Go.Xe
