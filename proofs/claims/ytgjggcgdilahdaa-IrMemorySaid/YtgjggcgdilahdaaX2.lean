/- Executor: values and memory as the executor has them, and what relates them to the model's. -/
import Derived.Test.YtgjggcgdilahdaaX1
set_option linter.unusedVariables false
set_option linter.unusedSimpArgs false
set_option linter.constructorNameAsVariable false
set_option linter.unusedVariables false
set_option linter.unusedSimpArgs false
namespace Go.Xe
open Go.RowKit

/-- A block: one that came in, by the model's own number, or a new one, by a number of ours. -/
inductive Bk where
  | inp (r : Nat)
  | new (n : Nat)
  deriving DecidableEq, Inhabited
/-- A pointer. -/
inductive PV where
  | nil
  | mk (b : Bk) (o : Nat)
  deriving DecidableEq, Inhabited
/-- A slice; its last part: its capacity (inl), or that it goes to its block's end, in elements of so many cells (inr). -/
inductive LV where
  | nil
  | mk (b : Bk) (o n : Nat) (c : Nat ⊕ Nat)
  deriving Inhabited
inductive MV where
  | nil
  | mk (b : Bk)
  deriving DecidableEq, Inhabited
inductive FV where
  | nil
  | mk (f : Fn) (first captured : List (Bk × Nat))
  deriving Inhabited

/-- What one cell holds. -/
inductive SV where
  | bool (b : Bool)
  | int (k : IntKind) (n : Int)
  | str (s : List Nat)
  | ptr (p : PV)
  | sl (s : LV)
  | map (m : MV)
  | fn (f : FV)
  deriving Inhabited

inductive V1 where
  | s (v : SV)
  | agg (vs : List SV)
  deriving Inhabited

/-- What a slot holds; any: nothing is known of it. -/
inductive AV where
  | one (v : V1)
  | tup (vs : List V1)
  | any
  deriving Inhabited

/-- Where a block of the executor's lies: the model's block, the cell it begins at, how many cells there are from there on. -/
abbrev Ren := Bk → Option (Nat × Nat × Nat)

def strOf (l : List Nat) (s : ByteArray) : Prop := s.data.toList.map UInt8.toNat = l

def PtrR (ρ : Ren) (p : Bk × Nat) (v : Value) : Prop := ∃ r sh m, ρ p.1 = some (r, sh, m) ∧ v = .pointer (some ⟨r, sh + p.2, none⟩)

inductive All2 {α β : Type} (R : α → β → Prop) : List α → List β → Prop
  | nil : All2 R [] []
  | cons {a b l m} : R a b → All2 R l m → All2 R (a :: l) (b :: m)

namespace All2
variable {α β : Type} {R R' : α → β → Prop}
theorem length : ∀ {l : List α} {m : List β}, All2 R l m → l.length = m.length
  | _, _, .nil => rfl
  | _, _, .cons _ h => by simp [h.length]
theorem mono (hR : ∀ a b, R a b → R' a b) : ∀ {l : List α} {m : List β}, All2 R l m → All2 R' l m
  | _, _, .nil => .nil
  | _, _, .cons h t => .cons (hR _ _ h) (t.mono hR)
theorem get : ∀ {l : List α} {m : List β}, All2 R l m → ∀ {i : Nat} {a : α}, l[i]? = some a → ∃ b, m[i]? = some b ∧ R a b
  | _, _, .nil, i, a, h => by simp at h
  | _, _, .cons h t, 0, a, e => by simp at e ⊢; exact e ▸ h
  | _, _, .cons h t, i + 1, a, e => by simp at e ⊢; exact t.get e
theorem append : ∀ {l : List α} {m : List β}, All2 R l m → ∀ {l' : List α} {m' : List β}, All2 R l' m' → All2 R (l ++ l') (m ++ m')
  | _, _, .nil, _, _, h => h
  | _, _, .cons h t, _, _, h' => .cons h (t.append h')
theorem take : ∀ {l : List α} {m : List β}, All2 R l m → ∀ (n : Nat), All2 R (l.take n) (m.take n)
  | _, _, .nil, n => by simp; exact .nil
  | _, _, .cons h t, 0 => by simp; exact .nil
  | _, _, .cons h t, n + 1 => by simp; exact .cons h (t.take n)
theorem drop : ∀ {l : List α} {m : List β}, All2 R l m → ∀ (n : Nat), All2 R (l.drop n) (m.drop n)
  | _, _, .nil, n => by simp; exact .nil
  | _, _, .cons h t, 0 => by simp; exact .cons h t
  | _, _, .cons h t, n + 1 => by simp; exact t.drop n
theorem of_get : ∀ {l : List α} {m : List β}, l.length = m.length → (∀ (i : Nat) (a : α) (b : β), l[i]? = some a → m[i]? = some b → R a b) → All2 R l m
  | [], [], _, _ => .nil
  | [], _ :: _, h, _ => by simp at h
  | _ :: _, [], h, _ => by simp at h
  | a :: l, b :: m, h, g => .cons (g 0 a b rfl rfl) (of_get (by simpa using h) fun i x y hx hy => g (i + 1) x y (by simpa using hx) (by simpa using hy))
theorem get_r : ∀ {l : List α} {m : List β}, All2 R l m → ∀ {i : Nat} {b : β}, m[i]? = some b → ∃ a, l[i]? = some a ∧ R a b
  | _, _, .nil, i, a, h => by simp at h
  | _, _, .cons h t, 0, a, e => by simp at e ⊢; exact e ▸ h
  | _, _, .cons h t, i + 1, a, e => by simp at e ⊢; exact t.get_r e
end All2

def SR (ρ : Ren) : SV → Value → Prop
  | .bool b, v => v = .bool b
  | .int k n, v => v = .int k n
  | .str l, v => ∃ s, v = .string s ∧ strOf l s
  | .ptr .nil, v => v = .pointer none
  | .ptr (.mk b o), v => ∃ r sh m, ρ b = some (r, sh, m) ∧ v = .pointer (some ⟨r, sh + o, none⟩)
  | .sl .nil, v => v = .slice none 0 0
  | .sl (.mk b o n c), v => ∃ r sh m cc o', ρ b = some (r, sh, m) ∧ v = .slice (some ⟨r, o', none⟩) n cc ∧ (cc ≠ 0 → o' = sh + o) ∧ n ≤ cc ∧ (∀ k, c = .inl k → cc = k) ∧ (∀ e, c = .inr e → o + cc * e = m)
  | .map .nil, v => v = .map none
  | .map (.mk b), v => ∃ r sh m, ρ b = some (r, sh, m) ∧ v = .map (some r)
  | .fn .nil, v => v = .nilFunc
  | .fn (.mk f a c), v => ∃ xs ys : List Value, v = .func f xs.toArray ys.toArray ∧ All2 (PtrR ρ) a xs ∧ All2 (PtrR ρ) c ys

def VR1 (ρ : Ren) : V1 → Value → Prop
  | .s v, x => SR ρ v x
  | .agg l, x => ∃ vs : List Value, x = .agg vs.toArray ∧ All2 (SR ρ) l vs

def VR (ρ : Ren) : AV → Value → Prop
  | .one v, x => VR1 ρ v x
  | .tup l, x => ∃ vs : List Value, x = .tuple vs.toArray ∧ All2 (VR1 ρ) l vs
  | .any, _ => True

/-- More is known. -/
def Le (ρ ρ' : Ren) : Prop := ∀ b x, ρ b = some x → ρ' b = some x
theorem Le.refl (ρ : Ren) : Le ρ ρ := fun _ _ h => h
theorem Le.trans {a b c : Ren} (h : Le a b) (k : Le b c) : Le a c := fun x y z => k x y (h x y z)

theorem PtrR.mono {ρ ρ' : Ren} (h : Le ρ ρ') {p v} (r : PtrR ρ p v) : PtrR ρ' p v := by
  obtain ⟨r, sh, m, h1, h2⟩ := r; exact ⟨r, sh, m, h _ _ h1, h2⟩
theorem SR.mono {ρ ρ' : Ren} (h : Le ρ ρ') : ∀ {a v}, SR ρ a v → SR ρ' a v := by
  intro a v r
  rcases a with b | ⟨k, n⟩ | s | (_ | ⟨b, o⟩) | (_ | ⟨b, o, n, c⟩) | (_ | b) | (_ | ⟨f, a, c⟩) <;> simp only [SR] at r ⊢ <;> try exact r
  · obtain ⟨r, sh, m, h1, h2⟩ := r; exact ⟨r, sh, m, h _ _ h1, h2⟩
  · obtain ⟨r, sh, m, cc, o', h1, h2⟩ := r; exact ⟨r, sh, m, cc, o', h _ _ h1, h2⟩
  · obtain ⟨r, sh, m, h1, h2⟩ := r; exact ⟨r, sh, m, h _ _ h1, h2⟩
  · obtain ⟨xs, ys, h1, h2, h3⟩ := r; exact ⟨xs, ys, h1, h2.mono fun _ _ => PtrR.mono h, h3.mono fun _ _ => PtrR.mono h⟩
theorem VR1.mono {ρ ρ' : Ren} (h : Le ρ ρ') : ∀ {a v}, VR1 ρ a v → VR1 ρ' a v := by
  intro a v r
  cases a with
  | s => exact SR.mono h r
  | agg => obtain ⟨vs, h1, h2⟩ := r; exact ⟨vs, h1, h2.mono fun _ _ => SR.mono h⟩
theorem VR.mono {ρ ρ' : Ren} (h : Le ρ ρ') : ∀ {a v}, VR ρ a v → VR ρ' a v := by
  intro a v r
  cases a with
  | one => exact VR1.mono h r
  | tup => obtain ⟨vs, h1, h2⟩ := r; exact ⟨vs, h1, h2.mono fun _ _ => VR1.mono h⟩
  | any => trivial

theorem SR.oneCell {ρ : Ren} {a v} (h : SR ρ a v) : v.oneCell' = true := by
  rcases a with b | ⟨k, n⟩ | s | (_ | ⟨b, o⟩) | (_ | ⟨b, o, n, c⟩) | (_ | b) | (_ | ⟨f, a, c⟩) <;> simp only [SR] at h
  · subst h; rfl
  · subst h; rfl
  · obtain ⟨s, rfl, _⟩ := h; rfl
  · subst h; rfl
  · obtain ⟨r, sh, m, h1, rfl⟩ := h; rfl
  · subst h; rfl
  · obtain ⟨r, sh, m, cc, o', h1, rfl, _⟩ := h; rfl
  · subst h; rfl
  · obtain ⟨r, sh, m, h1, rfl⟩ := h; rfl
  · subst h; rfl
  · obtain ⟨xs, ys, rfl, _⟩ := h; rfl

theorem All2.oneCell {ρ : Ren} {l : List SV} {vs : List Value} (h : All2 (SR ρ) l vs) : ∀ v ∈ vs, v.oneCell' = true := by
  induction h with
  | nil => simp
  | cons h t ih => intro v hv; rcases List.mem_cons.1 hv with rfl | hv; exact h.oneCell; exact ih _ hv

def V1.cells : V1 → List SV
  | .s v => [v]
  | .agg l => l

theorem SR.cells {ρ : Ren} {a v} (h : SR ρ a v) : v.cells = #[v] := by
  have := h.oneCell
  cases v <;> simp [Value.oneCell'] at this <;> rfl

theorem VR1.cells {ρ : Ren} {a v} (h : VR1 ρ a v) : ∃ vs : List Value, v.cells = vs.toArray ∧ All2 (SR ρ) a.cells vs := by
  cases a with
  | s a => exact ⟨[v], SR.cells h, .cons h .nil⟩
  | agg l => obtain ⟨vs, rfl, h2⟩ := h; exact ⟨vs, rfl, h2⟩

/-- What else is known of a block of cells: that more may follow; its type. -/
inductive Op2 where
  | gro
  | sh
  | ty (t : TypeId)
  | gt (t : TypeId)
noncomputable abbrev Op2.b (o : Op2) : Bool := Op2.rec (motive := fun _ => Bool) true false (fun _ => false) (fun _ => true) o
/-- A block: cells (more may follow behind those that are known: open); many cells, most of which hold the same; a map's entries (key, value, stamp) and its clock; a step over a map. -/
inductive AO where
  | cells (l : List SV) (op : Op2)
  | wide (n : Nat) (z : SV) (t : HM SV)
  | map (es : List (V1 × V1 × Nat)) (clock : Nat)
  | iter (m : MV) (since : Nat) (seen : List Nat) (last : Nat)
  | dict (es : List (V1 × V1))

def ER1 (ρ : Ren) (e : V1 × V1 × Nat) (x : MapEntry) : Prop := VR1 ρ e.1 x.key ∧ VR1 ρ e.2.1 x.val ∧ x.born = e.2.2
theorem ER1.mono {ρ ρ' : Ren} (h : Le ρ ρ') {e x} (r : ER1 ρ e x) : ER1 ρ' e x := ⟨r.1.mono h, r.2.1.mono h, r.2.2⟩
def MR (ρ : Ren) : MV → Option Nat → Prop
  | .nil, o => o = none
  | .mk b, o => ∃ r sh m, ρ b = some (r, sh, m) ∧ o = some r

noncomputable def widVal (z : SV) (t : HM SV) (i : Nat) : SV := match t.get i with | some v => v | none => z

def OR (ρ : Ren) : AO → Nat → Nat → Option Obj → Prop
  | .cells l op, sh, m, o => ∃ (pre vs post : List Value) (t : TypeId), o = some (.cells (pre ++ (vs ++ post)).toArray t (0, 0)) ∧ pre.length = sh ∧ All2 (SR ρ) l vs ∧ vs.length + post.length = m ∧ (op.b = false → post = []) ∧ ∀ tg, op = .ty tg ∨ op = .gt tg → t = tg ∧ sh = 0
  | .wide n z t, sh, m, o => ∃ (vs : List Value) (ty : TypeId), o = some (.cells vs.toArray ty (0, 0)) ∧ sh = 0 ∧ vs.length = n ∧ m = n ∧ ∀ i v, vs[i]? = some v → SR ρ (widVal z t i) v
  | .map es clock, _, _, o => ∃ (xs : List MapEntry), o = some (.map xs.toArray clock) ∧ All2 (ER1 ρ) es xs
  | .dict es, _, _, o => ∃ (xs : List MapEntry) (clock : Nat) (es' : List (V1 × V1 × Nat)), o = some (.map xs.toArray clock) ∧ All2 (ER1 ρ) es' xs ∧ (es'.map fun e => (e.1, e.2.1)).Perm es
  | .iter m since seen last, sh, _, o => ∃ mm, o = some (.mapIter mm since seen.toArray last) ∧ MR ρ m mm ∧ sh = 0

theorem OR.mono {ρ ρ' : Ren} (h : Le ρ ρ') {ao sh m o} (r : OR ρ ao sh m o) : OR ρ' ao sh m o := by
  cases ao with
  | cells l op => obtain ⟨pre, vs, post, t, h1, h2, h3, h4⟩ := r; exact ⟨pre, vs, post, t, h1, h2, h3.mono fun _ _ => SR.mono h, h4⟩
  | wide n z t => obtain ⟨vs, ty, h1, h2, h3, h4, h5⟩ := r; exact ⟨vs, ty, h1, h2, h3, h4, fun i v hv => (h5 i v hv).mono h⟩
  | map es => obtain ⟨xs, h1, h2⟩ := r; exact ⟨xs, h1, h2.mono fun _ _ h' => h'.mono h⟩
  | dict es => obtain ⟨xs, c, es', h1, h2, h3⟩ := r; exact ⟨xs, c, es', h1, h2.mono fun _ _ h' => h'.mono h, h3⟩
  | iter mv since seen last =>
    obtain ⟨mm, h1, h2, h3⟩ := r
    refine ⟨mm, h1, ?_, h3⟩
    cases mv with
    | nil => exact h2
    | mk b => obtain ⟨r, sh, m, g1, g2⟩ := h2; exact ⟨r, sh, m, h _ _ g1, g2⟩

/-- A block without its marks on what is not to be written. -/
def thaw : Obj → Obj
  | .cells a t _ => .cells a t (0, 0)
  | o => o
theorem thaw_cells {o : Option Obj} {a t} (h : o.map thaw = some (.cells a t (0, 0))) : ∃ fz, o = some (.cells a t fz) := by
  cases o with
  | none => cases h
  | some o =>
    simp only [Option.map_some, Option.some.injEq] at h
    cases o <;> simp only [thaw] at h <;> first | (injection h with h1 h2 h3; subst h1; subst h2; exact ⟨_, rfl⟩) | cases h
theorem thaw_other {o : Option Obj} {x : Obj} (h : o.map thaw = some x) (hx : ∀ a t fz, x ≠ .cells a t fz) : o = some x := by
  cases o with
  | none => cases h
  | some o =>
    simp only [Option.map_some, Option.some.injEq] at h
    cases o <;> simp only [thaw] at h <;> first | (exact absurd h.symm (hx _ _ _)) | (rw [h])
/-- A block of ours; of one that came in what can be read. -/
def OB (b : Bk) (ρ : Ren) (ao : AO) (sh m : Nat) (o : Option Obj) : Prop := match b with
  | .inp _ => OR ρ ao sh m (o.map thaw)
  | .new _ => OR ρ ao sh m o
theorem OB.mono {b} {ρ ρ' : Ren} (h : Le ρ ρ') {ao sh m o} (r : OB b ρ ao sh m o) : OB b ρ' ao sh m o := by
  cases b
  · exact OR.mono h r
  · exact OR.mono h r
theorem OR.thawed {ρ : Ren} {ao sh m o} (r : OR ρ ao sh m o) : OR ρ ao sh m (o.map thaw) := by
  cases ao with
  | cells l op => obtain ⟨pre, vs, post, t, h1, h2⟩ := r; subst h1; exact ⟨pre, vs, post, t, rfl, h2⟩
  | wide n z t => obtain ⟨vs, ty, h1, h2⟩ := r; subst h1; exact ⟨vs, ty, rfl, h2⟩
  | map es clock => obtain ⟨xs, h1, h2⟩ := r; subst h1; exact ⟨xs, rfl, h2⟩
  | dict es => obtain ⟨xs, c, es', h1, h2⟩ := r; subst h1; exact ⟨xs, c, es', rfl, h2⟩
  | iter mv since seen last => obtain ⟨mm, h1, h2⟩ := r; subst h1; exact ⟨mm, rfl, h2⟩
theorem OB.thawed {b} {ρ : Ren} {ao sh m o} (r : OB b ρ ao sh m o) : OR ρ ao sh m (o.map thaw) := by
  cases b
  · exact r
  · exact OR.thawed r

/-- The executor's memory: what came in (it is only read), and what is new. -/
structure St where
  inp : Nat → Option AO
  H : HM AO
  next : Nat
noncomputable abbrev St.get (S : St) (b : Bk) : Option AO := Bk.rec (motive := fun _ => Option AO) (fun r => S.inp r) (fun n => S.H.get n) b

abbrev Mem := Bk → Option AO

/-- New blocks lie from 'base' on. -/
structure Sim (base : Nat) (ρ : Ren) (g : Mem) (next : Nat) (w : World) : Prop where
  obj : ∀ b ao, g b = some ao → ∃ r sh m, ρ b = some (r, sh, m) ∧ OB b ρ ao sh m (w.heap[r]?)
  inj : ∀ b k ao ao' x x', g b = some ao → g (.new k) = some ao' → ρ b = some x → ρ (.new k) = some x' → x.1 = x'.1 → b = .new k
  fresh : ∀ n, next ≤ n → ρ (.new n) = none
  lows : ∀ n x, ρ (.new n) = some x → base ≤ x.1
  size : base ≤ w.heap.size

theorem OR.some {ρ : Ren} {ao sh m o} (h : OR ρ ao sh m o) : ∃ x, o = some x := by
  cases ao with
  | cells l op => obtain ⟨_, _, _, _, h, _⟩ := h; exact ⟨_, h⟩
  | wide n z t => obtain ⟨_, _, h, _⟩ := h; exact ⟨_, h⟩
  | map es => obtain ⟨_, h, _⟩ := h; exact ⟨_, h⟩
  | iter => obtain ⟨_, h, _⟩ := h; exact ⟨_, h⟩
  | dict es => obtain ⟨_, _, _, h, _⟩ := h; exact ⟨_, h⟩

theorem Sim.there {base ρ g next w} (h : Sim base ρ g next w) {b ao x} (hb : g b = some ao) (hx : ρ b = some x) : x.1 < w.heap.size := by
  obtain ⟨r, sh, m, h1, h2⟩ := h.obj _ _ hb
  rw [hx] at h1; cases h1
  obtain ⟨y, hy⟩ := h2.thawed.some
  cases hz : w.heap[r]? with
  | none => rw [hz] at hy; cases hy
  | some z => exact (Array.getElem?_eq_some_iff.1 hz).1

theorem Sim.objM {base ρ g next w} (h : Sim base ρ g next w) {b es clk} (hb : g b = some (.map es clk)) : ∃ r sh m, ρ b = some (r, sh, m) ∧ ∃ xs : List MapEntry, w.heap[r]? = some (.map xs.toArray clk) ∧ All2 (ER1 ρ) es xs := by
  obtain ⟨r, sh, m, h1, h2⟩ := h.obj _ _ hb
  obtain ⟨xs, h3, h4⟩ := h2.thawed
  exact ⟨r, sh, m, h1, xs, thaw_other h3 (fun _ _ _ e => by cases e), h4⟩
theorem Sim.less {base ρ g g' next w} (h : Sim base ρ g next w) (hg : ∀ b ao, g' b = some ao → g b = some ao) : Sim base ρ g' next w :=
  ⟨fun b ao hb => h.obj b ao (hg _ _ hb), fun b k ao ao' x x' h1 h2 => h.inj b k ao ao' x x' (hg _ _ h1) (hg _ _ h2), h.fresh, h.lows, h.size⟩

/-- The model's block r is one of the executor's. -/
def Im (ρ : Ren) (g : Mem) (r : Nat) : Prop := ∃ b ao x, g b = some ao ∧ ρ b = some x ∧ x.1 = r

/-- What a step leaves: more known, related memory, nothing below base touched, nor anything that is not the executor's; numbers below nx that nothing had, nothing has. -/
structure Next (base : Nat) (ρ : Ren) (g : Mem) (nx : Nat) (w : World) (g' : Mem) (next' : Nat) (ρ' : Ren) (w' : World) : Prop where
  le : Le ρ ρ'
  sim : Sim base ρ' g' next' w'
  below : Below base w w'
  frame : ∀ r, r < w.heap.size → ¬ Im ρ g r → w'.heap[r]? = w.heap[r]?
  img : ∀ r, Im ρ' g' r → r < w.heap.size → Im ρ g r
  ids : ∀ n, n < nx → ρ (.new n) = none → ρ' (.new n) = none
  up : nx ≤ next'

theorem Next.refl {base ρ g next w} (h : Sim base ρ g next w) : Next base ρ g next w g next ρ w :=
  ⟨.refl _, h, .refl _ _, fun _ _ _ => rfl, fun _ h _ => h, fun _ _ h => h, Nat.le_refl _⟩
theorem Next.trans' {base ρ g nx w g1 n1 ρ1 w1 nx1 g2 n2 ρ2 w2} (h : Next base ρ g nx w g1 n1 ρ1 w1) (k : Next base ρ1 g1 nx1 w1 g2 n2 ρ2 w2) (hn : nx ≤ nx1) : Next base ρ g nx w g2 n2 ρ2 w2 :=
  ⟨h.le.trans k.le, k.sim, h.below.trans k.below,
    fun r hr hi => by
      have hs := h.below.size
      rw [k.frame r (by omega) (fun hi' => hi (h.img r hi' hr)), h.frame r hr hi],
    fun r hi hr => h.img r (k.img r hi (by have := h.below.size; omega)) hr,
    fun n hn' h0 => k.ids n (by omega) (h.ids n hn' h0), Nat.le_trans hn k.up⟩
theorem Next.trans {base ρ g nx w g1 n1 ρ1 w1 g2 n2 ρ2 w2} (h : Next base ρ g nx w g1 n1 ρ1 w1) (k : Next base ρ1 g1 n1 w1 g2 n2 ρ2 w2) : Next base ρ g nx w g2 n2 ρ2 w2 :=
  h.trans' k h.up

/-- A draw turns nothing. -/
theorem Sim.drew {base ρ g next} {w w' : World} (h : Sim base ρ g next w) (hh : w'.heap = w.heap) : Sim base ρ g next w' :=
  ⟨fun b ao hb => by rw [hh]; exact h.obj b ao hb, h.inj, h.fresh, h.lows, by rw [hh]; exact h.size⟩
theorem Next.drew {base ρ g nx w g' n' ρ'} {w1 w' : World} (h : Next base ρ g nx w1 g' n' ρ' w') (hh : w1.heap = w.heap) (ho : w1.os = w.os ∧ w1.tape = w.tape ∧ w1.output = w.output) : Next base ρ g nx w g' n' ρ' w' :=
  ⟨h.le, h.sim, ⟨h.below.os.trans ho.1, h.below.tape.trans ho.2.1, h.below.output.trans ho.2.2, by have := h.below.size; rw [hh] at this; exact this, fun k hk => by rw [h.below.block k hk, hh]⟩,
    fun r hr hi => by rw [h.frame r (by rw [hh]; exact hr) hi, hh], fun r hi hr => h.img r hi (by rw [hh]; exact hr), h.ids, h.up⟩

def upd (ρ : Ren) (b : Bk) (x : Nat × Nat × Nat) : Ren := fun k => if k = b then some x else ρ k
theorem upd_le {ρ : Ren} {b : Bk} {x} (h : ρ b = none) : Le ρ (upd ρ b x) := by
  intro k y hk
  unfold upd; split
  · rename_i e; rw [e, h] at hk; cases hk
  · exact hk
def gset (g : Mem) (b : Bk) (ao : Option AO) : Mem := fun j => if j = b then ao else g j

/-- A new block, under a number that nothing has yet. -/
theorem Sim.newAt {base ρ g next w} (h : Sim base ρ g next w) {k : Nat} (hb : ρ (.new k) = none) {next' : Nat} (hn : next ≤ next') (hbn : k < next') {ao : AO} {o : Obj} {m : Nat} (hr : OR ρ ao 0 m (some o)) {nx : Nat} (hnx : nx ≤ k) :
    Next base ρ g nx w (gset g (.new k) (some ao)) next' (upd ρ (.new k) (w.heap.size, 0, m)) (w.alloc o) := by
  generalize hbk : Bk.new k = b at hb
  have hle : Le ρ (upd ρ b (w.heap.size, 0, m)) := upd_le hb
  have hheap : (w.alloc o).heap = w.heap.push o := rfl
  have hlive : ∀ j ao', g j = some ao' → j ≠ b := by
    rintro j ao' hj rfl; obtain ⟨r, sh, m, h1, _⟩ := h.obj _ _ hj; rw [hb] at h1; cases h1
  have hmem : ∀ j a x, g j = some a → upd ρ b (w.heap.size, 0, m) j = some x → ρ j = some x ∧ x.1 < w.heap.size := by
    intro j a x hj hx
    have hne := hlive _ _ hj
    have hx' : ρ j = some x := by simpa [upd, hne] using hx
    exact ⟨hx', h.there hj hx'⟩
  refine ⟨hle, ⟨?_, ?_, ?_, ?_, ?_⟩, (Below.refl _ _).alloc h.size _, ?_, ?_, ?_, by omega⟩
  · intro j ao' hj
    unfold gset at hj
    by_cases e : j = b
    · rw [if_pos e] at hj; cases hj; subst e
      exact ⟨w.heap.size, 0, m, by simp [upd], by rw [hheap, Array.getElem?_push_size]; subst hbk; exact hr.mono hle⟩
    · rw [if_neg e] at hj
      obtain ⟨r, sh, m', h1, h2⟩ := h.obj _ _ hj
      have hlt : r < w.heap.size := h.there hj h1
      exact ⟨r, sh, m', hle _ _ h1, by rw [hheap, Array.getElem?_push, if_neg (by omega)]; exact h2.mono hle⟩
  · intro j jn a a' x x' hj hj' hx hx' he
    generalize hjn : Bk.new jn = j' at hj' hx' ⊢
    unfold gset at hj hj'
    by_cases e : j = b
    · by_cases e' : j' = b
      · rw [e, e']
      · rw [if_neg e'] at hj'
        obtain ⟨_, hlt⟩ := hmem _ _ _ hj' hx'
        subst e; simp [upd] at hx; subst hx; simp at he; omega
    · rw [if_neg e] at hj
      obtain ⟨h1, hlt⟩ := hmem _ _ _ hj hx
      by_cases e' : j' = b
      · subst e'; simp [upd] at hx'; subst hx'; simp at he; omega
      · rw [if_neg e'] at hj'
        obtain ⟨h1', _⟩ := hmem _ _ _ hj' hx'
        subst hjn; exact h.inj _ _ _ _ _ _ hj hj' h1 h1' he
  · intro j hj
    have : Bk.new j ≠ b := by rw [← hbk]; intro e; cases e; omega
    simp only [upd, this, if_false]; exact h.fresh _ (by omega)
  · intro j x hx
    by_cases e : Bk.new j = b
    · simp [upd, e] at hx; subst hx; exact h.size
    · simp only [upd, e, if_false] at hx; exact h.lows _ _ hx
  · rw [hheap]; simp; exact Nat.le_trans h.size (Nat.le_succ _)
  · intro r hr _; rw [hheap, Array.getElem?_push, if_neg (by omega)]
  · rintro r ⟨j, a, x, hj, hx, rfl⟩ hlt
    unfold gset at hj
    by_cases e : j = b
    · subst e; simp [upd] at hx; subst hx; simp at hlt
    · rw [if_neg e] at hj; exact ⟨j, a, x, hj, (hmem _ _ _ hj hx).1, rfl⟩
  · intro n hn' h0
    have : Bk.new n ≠ b := by rw [← hbk]; intro e; cases e; omega
    simp only [upd, this, if_false]; exact h0

/-- The memory with a new block. -/
noncomputable abbrev St.add (S : St) (ao : AO) : St := ⟨S.inp, S.H.set S.next (some ao), Nat.succ S.next⟩
/-- A new block's content is turned; with none it is gone. -/
noncomputable abbrev St.put (S : St) (n : Nat) (ao : Option AO) : St := ⟨S.inp, S.H.set n ao, S.next⟩
noncomputable abbrev St.g (S : St) : Mem := S.get
theorem St.put_get (S : St) (n : Nat) (ao : Option AO) : (S.put n ao).get = gset S.get (.new n) ao := by
  funext j
  cases j with
  | inp r => simp [St.get, St.put, gset]
  | new k =>
    show (S.H.set n ao).get k = if Bk.new k = Bk.new n then ao else S.H.get k
    rw [HM.get_set]
    by_cases e : k = n <;> simp [e]
theorem St.add_get (S : St) (ao : AO) : (S.add ao).get = gset S.get (.new S.next) (some ao) := S.put_get S.next (some ao)

theorem Sim.new {base ρ w} {S : St} (h : Sim base ρ S.get S.next w) {ao : AO} {o : Obj} {m : Nat} (hr : OR ρ ao 0 m (some o)) :
    ∃ ρ', ρ' (.new S.next) = some (w.heap.size, 0, m) ∧ Next base ρ S.get S.next w (S.add ao).get (S.add ao).next ρ' (w.alloc o) := by
  refine ⟨_, ?_, by rw [S.add_get]; exact h.newAt (h.fresh _ (Nat.le_refl _)) (Nat.le_succ _) (Nat.lt_succ_self _) hr (Nat.le_refl _)⟩
  simp [upd]

theorem Sim.turn {base ρ g next w} (h : Sim base ρ g next w) {kb : Nat} {ao0 ao : AO} (hb : g (.new kb) = some ao0) {w' : World} {r sh m : Nat} (hρ : ρ (.new kb) = some (r, sh, m))
    (hs : w'.heap.size = w.heap.size) (ho : ∀ k, k ≠ r → w'.heap[k]? = w.heap[k]?) (hx : w'.os = w.os ∧ w'.tape = w.tape ∧ w'.output = w.output) (hr : OR ρ ao sh m (w'.heap[r]?)) :
    Next base ρ g next w (gset g (.new kb) (some ao)) next ρ w' := by
  have hbr : base ≤ r := h.lows _ _ hρ
  generalize hbk : Bk.new kb = b at hb hρ
  have hlive : ∀ j a, gset g b (some ao) j = some a → ∃ a', g j = some a' := by
    intro j a hj; unfold gset at hj; by_cases e : j = b
    · exact ⟨_, e ▸ hb⟩
    · rw [if_neg e] at hj; exact ⟨_, hj⟩
  refine ⟨.refl _, ⟨?_, ?_, h.fresh, h.lows, by rw [hs]; exact h.size⟩, ⟨hx.1, hx.2.1, hx.2.2, by omega, fun k hk => ho _ (by omega)⟩, ?_, ?_, fun _ _ h0 => h0, Nat.le_refl _⟩
  · intro j a hj
    unfold gset at hj
    by_cases e : j = b
    · rw [if_pos e] at hj; cases hj; subst e; subst hbk; exact ⟨r, sh, m, hρ, hr⟩
    · rw [if_neg e] at hj
      obtain ⟨r', sh', m', h1, h2⟩ := h.obj _ _ hj
      refine ⟨r', sh', m', h1, ?_⟩
      have : r' ≠ r := fun e' => by subst hbk; exact e (h.inj _ _ _ _ _ _ hj hb h1 hρ (by simpa using e'))
      rw [ho _ this]; exact h2
  · intro j jn a a' x x' hj hj' hx hx' he
    obtain ⟨a1, h1⟩ := hlive _ _ hj
    obtain ⟨a2, h2⟩ := hlive _ _ hj'
    exact h.inj _ _ _ _ _ _ h1 h2 hx hx' he
  · intro k _ hi
    exact ho k fun e => hi ⟨b, ao0, (r, sh, m), hb, hρ, e.symm⟩
  · rintro k ⟨j, a, x, hj, hx, rfl⟩ _
    obtain ⟨a', h1⟩ := hlive _ _ hj
    exact ⟨j, a', x, h1, hx, rfl⟩

theorem Sim.put {base ρ w} {S : St} (h : Sim base ρ S.get S.next w) {b : Nat} {ao0 ao : AO} (hb : S.get (.new b) = some ao0) {w' : World} {r sh m : Nat} (hρ : ρ (.new b) = some (r, sh, m))
    (hs : w'.heap.size = w.heap.size) (ho : ∀ k, k ≠ r → w'.heap[k]? = w.heap[k]?) (hx : w'.os = w.os ∧ w'.tape = w.tape ∧ w'.output = w.output) (hr : OR ρ ao sh m (w'.heap[r]?)) :
    Next base ρ S.get S.next w (S.put b (some ao)).get S.next ρ w' := by
  rw [S.put_get]
  exact h.turn hb hρ hs ho hx hr

/-- The cells of a block are written from one on. -/
theorem Sim.write {base ρ w} {S : St} (h : Sim base ρ S.get S.next w) {b : Nat} {l new : List SV} {op : Op2} (hb : S.get (.new b) = some (.cells l op)) {o : Nat} (hol : o + new.length ≤ l.length)
    {r sh m : Nat} (hρ : ρ (.new b) = some (r, sh, m)) {vs : List Value} (hv : All2 (SR ρ) new vs) (P : Program) :
    ∃ w', (storeCells ⟨r, sh + o, none⟩ vs).run P w = .ok () w' ∧ Next base ρ S.get S.next w (S.put b (some (.cells (l.take o ++ (new ++ l.drop (o + new.length))) op))).get S.next ρ w' := by
  obtain ⟨r', sh', m', h1, h2⟩ := h.obj _ _ hb
  rw [hρ] at h1; cases h1
  obtain ⟨pre, cs, post, t, ho, hpre, hcs, hm, hop⟩ := h2
  have hlen := hcs.length
  have hvl := hv.length
  have hrun := run_storeCells_at (P := P) r (sh + o) t vs 0 _ w ho (by simp; omega) hv.oneCell
  refine ⟨_, hrun, h.put hb hρ (by simp) (fun k hk => setRow_other _ _ _ _ hk) ⟨rfl, rfl, rfl⟩ ?_⟩
  rw [setRow_heap _ _ _ _ _ _ ho]
  refine ⟨pre, cs.take o ++ (vs ++ cs.drop (o + vs.length)), post, t, ?_, hpre, ?_, ?_, hop⟩
  · congr 2
    simp only [Nat.add_zero, List.toList_toArray]
    have e1 : (pre ++ (cs ++ post)).take (sh + o) = pre ++ cs.take o := by
      rw [List.take_append, List.take_of_length_le (by omega), show sh + o - pre.length = o by omega, List.take_append, show o - cs.length = 0 by omega]; simp
    have e2 : (pre ++ (cs ++ post)).drop (sh + o + vs.length) = cs.drop (o + vs.length) ++ post := by
      rw [List.drop_append, List.drop_of_length_le (by omega), show sh + o + vs.length - pre.length = o + vs.length by omega, List.drop_append, show o + vs.length - cs.length = 0 by omega]; simp
    rw [e1, e2]; simp
  · rw [hvl]; exact (hcs.take o).append (hv.append (hcs.drop _))
  · simp; omega

/-- The cells of a block are read. -/
theorem Sim.read {base ρ g next w} (h : Sim base ρ g next w) {b : Bk} {l : List SV} {op : Op2} (hb : g b = some (.cells l op)) {r sh m : Nat} (hρ : ρ b = some (r, sh, m)) :
    ∃ vs : List Value, All2 (SR ρ) l vs ∧ (∀ i v, vs[i]? = some v → w.cell? ⟨r, sh + i, none⟩ = some v) ∧ l.length ≤ m := by
  obtain ⟨r', sh', m', h1, h2⟩ := h.obj _ _ hb
  rw [hρ] at h1; cases h1
  obtain ⟨pre, cs, post, t, ho, hpre, hcs, hm, hop⟩ := h2.thawed
  obtain ⟨fz, ho⟩ := thaw_cells ho
  refine ⟨cs, hcs, fun i v hi => ?_, by have := hcs.length; omega⟩
  have hlt : i < cs.length := (List.getElem?_eq_some_iff.1 hi).1
  simp only [World.cell?, ho]
  simp only [Option.isSome_none, Bool.false_eq_true, if_false, List.getElem?_toArray]
  rw [List.getElem?_append_right (by omega), show sh + i - pre.length = i by omega, List.getElem?_append_left hlt]
  exact hi

theorem Sim.readCells {base ρ g next w} (h : Sim base ρ g next w) {b : Bk} {l : List SV} {op : Op2} (hb : g b = some (.cells l op)) {r sh m : Nat} (hρ : ρ b = some (r, sh, m)) (o n : Nat) (hn : o + n ≤ l.length) (P : Program) :
    ∃ vs : List Value, All2 (SR ρ) ((l.drop o).take n) vs ∧ (loadCells ⟨r, sh + o, none⟩ n).run P w = .ok vs.toArray w := by
  obtain ⟨vs, h1, h2, _⟩ := h.read hb hρ
  refine ⟨(vs.drop o).take n, (h1.drop o).take n, ?_⟩
  have hl : ((vs.drop o).take n).length = n := by have := h1.length; simp; omega
  have := run_loadCells_list (P := P) w ⟨r, sh + o, none⟩ ((vs.drop o).take n) (fun j v hj => by
    have hj' : j < n := by have := (List.getElem?_eq_some_iff.1 hj).1; omega
    rw [List.getElem?_take_of_lt hj', List.getElem?_drop] at hj
    have e : (⟨r, sh + o, none⟩ : Addr).add j = ⟨r, sh + (o + j), none⟩ := by unfold Addr.add; split <;> simp_all [Nat.add_assoc]
    rw [e]; exact h2 _ _ hj)
  rw [hl] at this
  exact this
end Go.Xe
