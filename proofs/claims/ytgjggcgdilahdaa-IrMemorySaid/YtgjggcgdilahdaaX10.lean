/- Executor, second make: append. -/
import Derived.Test.YtgjggcgdilahdaaX9
set_option linter.unusedVariables false
set_option linter.unusedSimpArgs false
set_option linter.constructorNameAsVariable false
set_option linter.unusedVariables false
set_option linter.unusedSimpArgs false
namespace Go.Xe
open Go.RowKit

theorem Sim.readAll {base ρ g next w} (h : Sim base ρ g next w) {b : Bk} {l : List SV} {op : Op2} (hb : g b = some (.cells l op)) {r sh m : Nat} (hρ : ρ b = some (r, sh, m)) (o n : Nat) (hn : o + n ≤ l.length) (P : Program) :
    ∃ vs : List Value, All2 (SR ρ) ((l.drop o).take n) vs ∧ ∀ w' : World, w'.heap = w.heap → (loadCells ⟨r, sh + o, none⟩ n).run P w' = .ok vs.toArray w' := by
  obtain ⟨vs, h1, h2, _⟩ := h.read hb hρ
  refine ⟨(vs.drop o).take n, (h1.drop o).take n, fun w' hw' => ?_⟩
  have hl : ((vs.drop o).take n).length = n := by have := h1.length; simp; omega
  have := run_loadCells_list (P := P) w' ⟨r, sh + o, none⟩ ((vs.drop o).take n) (fun j v hj => by
    have hj' : j < n := by have := (List.getElem?_eq_some_iff.1 hj).1; omega
    rw [List.getElem?_take_of_lt hj', List.getElem?_drop] at hj
    have e : (⟨r, sh + o, none⟩ : Addr).add j = ⟨r, sh + (o + j), none⟩ := by unfold Addr.add; split <;> simp_all [Nat.add_assoc]
    have e2 : w'.cell? ⟨r, sh + (o + j), none⟩ = w.cell? ⟨r, sh + (o + j), none⟩ := by simp only [World.cell?, hw']
    rw [e, e2]; exact h2 _ _ hj)
  rw [hl] at this
  exact this

def byteCells : List Nat → List SV
  | [] => []
  | b :: l => .int .u8 (Int.ofNat b) :: byteCells l
theorem byteCells_ok {ρ : Ren} : ∀ (l : List UInt8), All2 (SR ρ) (byteCells (l.map UInt8.toNat)) (l.map fun b => Value.int .u8 b.toNat)
  | [] => .nil
  | b :: l => .cons rfl (byteCells_ok l)
theorem byteCells_length : ∀ (l : List Nat), (byteCells l).length = l.length
  | [] => rfl
  | b :: l => by simp [byteCells, byteCells_length l]

/-- A slice's cells, and how many elements they are. -/
def St.src (S : St) (z : Nat) (x : LV) (K : List SV → Nat → Prop) : Prop := match x with
  | .nil => K [] 0
  | .mk b o n _ => match S.get b with
    | some (.cells l _) => req (Nat.ble (o + n * z) l.length) (K ((l.drop o).take (n * z)) n)
    | _ => False
/-- What is appended. -/
noncomputable abbrev srcK (P : Program) (S : St) (z : Nat) (xt : TypeId) (x : SV) (K : List SV → Nat → Prop) : Prop :=
  match P.underlying xt, x with
  | some (.slice _), .sl s => S.src z s K
  | some .string, .str s => req (Nat.beq z 1) (K (byteCells s) s.length)
  | _, _ => False

theorem srcK_run {P S z xt x K} (h : srcK P S z xt x K) {ρ : Ren} {cx} (hx : SR ρ x cx) {base next w} (hw : Sim base ρ S.get next w) :
    ∃ l n, K l n ∧ (∃ d, P.underlying xt = some d ∧ ∀ k, d ≠ .int k) ∧ l.length = n * z ∧ ∃ vs : List Value, All2 (SR ρ) l vs ∧
    ∀ w' : World, w'.heap = w.heap → (Builtin.lenOf cx).run P w' = .ok n w' ∧ (Builtin.firstCells z n cx).run P w' = .ok vs.toArray w' := by
  unfold srcK at h
  split at h
  · rename_i e s hu
    unfold St.src at h
    split at h
    · cases hx
      exact ⟨[], 0, h, ⟨_, hu, fun k => by simp⟩, by simp, [], .nil, fun w' _ => ⟨by simp [Builtin.lenOf], by simp [Builtin.firstCells]⟩⟩
    · rename_i b o n' c
      split at h
      · rename_i l' op hb
        obtain ⟨hc, h⟩ := req_and h
        have hle := Nat.le_of_ble_eq_true hc
        obtain ⟨r, sh, M, cc, o', h2, rfl, ho, hnc, _⟩ := hx
        refine ⟨_, _, h, ⟨_, hu, fun k => by simp⟩, by simp; omega, ?_⟩
        by_cases h0 : cc = 0
        · have : n' = 0 := by omega
          subst this
          exact ⟨[], by simp; exact .nil, fun w' hw' => ⟨by simp [Builtin.lenOf], by simp only [Builtin.firstCells, Nat.zero_mul]; exact loadCells_none _⟩⟩
        · obtain rfl := ho h0
          obtain ⟨vs, h4, h5⟩ := hw.readAll hb h2 o (n' * z) hle P
          exact ⟨vs, h4, fun w' hw' => ⟨by simp [Builtin.lenOf], by simp only [Builtin.firstCells]; exact h5 w' hw'⟩⟩
      · exact h.elim
  · rename_i s hu
    obtain ⟨hz, h⟩ := req_and h
    obtain rfl := Nat.eq_of_beq_eq_true hz
    obtain ⟨u, rfl, hs⟩ := hx
    have hsz := strOf_size hs
    refine ⟨_, _, h, ⟨_, hu, fun k => by simp⟩, by simp [byteCells_length], Lib.strCells u, ?_, fun w' _ => ⟨by simp [Builtin.lenOf, hsz], by rw [← hsz]; exact Lib.run_firstCells_string _ _ _⟩⟩
    unfold strOf at hs
    rw [← hs]
    exact byteCells_ok _
  · exact h.elim

theorem Im.more {ρ : Ren} {g g' : Mem} (hg : ∀ b ao, g' b = some ao → g b = some ao) {r} (h : Im ρ g' r) : Im ρ g r := by
  obtain ⟨b, ao, x, h1, h2, h3⟩ := h; exact ⟨b, ao, x, hg _ _ h1, h2, h3⟩
theorem Next.more {base ρ g g' nx w g2 n2 ρ2 w2} (hg : ∀ b ao, g' b = some ao → g b = some ao) (h : Next base ρ g' nx w g2 n2 ρ2 w2) : Next base ρ g nx w g2 n2 ρ2 w2 :=
  ⟨h.le, h.sim, h.below, fun r hr hi => h.frame r hr fun hi' => hi (hi'.more hg), fun r hi hr => (h.img r hi hr).more hg, h.ids, h.up⟩

/-- A block goes on under a new number, from a cell on, written. -/
theorem Sim.move {base ρ g next w} (h : Sim base ρ g next w) {kb : Nat} {ao0 : AO} (hb : g (.new kb) = some ao0) {r sh m : Nat} (hρ : ρ (.new kb) = some (r, sh, m)) {w' : World}
    (hs : w'.heap.size = w.heap.size) (ho : ∀ k, k ≠ r → w'.heap[k]? = w.heap[k]?) (hx : w'.os = w.os ∧ w'.tape = w.tape ∧ w'.output = w.output) {kb' : Nat} (hb' : ρ (.new kb') = none) {next' : Nat} (hn : next ≤ next') (hbn : kb' < next') (hnb : next ≤ kb')
    {ao : AO} {sh' m' : Nat} (hr : OR ρ ao sh' m' (w'.heap[r]?)) :
    Next base ρ g next w (gset (gset g (.new kb) none) (.new kb') (some ao)) next' (upd ρ (.new kb') (r, sh', m')) w' := by
  have hbr : base ≤ r := h.lows _ _ hρ
  generalize hbk : Bk.new kb = b at hb hρ ⊢
  generalize hbk' : Bk.new kb' = b' at hb' ⊢
  have hle : Le ρ (upd ρ b' (r, sh', m')) := upd_le hb'
  have hlive : ∀ j a, g j = some a → j ≠ b' := by
    rintro j a hj rfl; obtain ⟨_, _, _, h1, _⟩ := h.obj _ _ hj; rw [hb'] at h1; cases h1
  have hold : ∀ j a, gset (gset g b none) b' (some ao) j = some a → j ≠ b' → g j = some a ∧ j ≠ b := by
    intro j a hj hne
    simp only [gset, hne, if_false] at hj
    by_cases e : j = b
    · simp [e] at hj
    · simp only [e, if_false] at hj; exact ⟨hj, e⟩
  have hupd : ∀ j x, j ≠ b' → upd ρ b' (r, sh', m') j = some x → ρ j = some x := by
    intro j x hne hx; simpa [upd, hne] using hx
  refine ⟨hle, ⟨?_, ?_, ?_, ?_, by rw [hs]; exact h.size⟩, ⟨hx.1, hx.2.1, hx.2.2, by omega, fun k hk => ho _ (by omega)⟩, ?_, ?_, ?_, hn⟩
  · intro j a hj
    by_cases e : j = b'
    · subst e
      simp only [gset, if_true, Option.some.injEq] at hj
      subst hj
      subst hbk'; exact ⟨r, sh', m', by simp [upd], hr.mono hle⟩
    · obtain ⟨h1, h2⟩ := hold _ _ hj e
      obtain ⟨r1, sh1, m1, g1, g2⟩ := h.obj _ _ h1
      have : r1 ≠ r := fun e' => by subst hbk; exact h2 (h.inj _ _ _ _ _ _ h1 hb g1 hρ (by simpa using e'))
      exact ⟨r1, sh1, m1, hle _ _ g1, by rw [ho _ this]; exact g2.mono hle⟩
  · intro j jn a a' x x' hj hj' hx hx' he
    generalize hjn : Bk.new jn = j' at hj' hx' ⊢
    by_cases e : j = b'
    · by_cases e' : j' = b'
      · rw [e, e']
      · obtain ⟨h1, h2⟩ := hold _ _ hj' e'
        have hx1 := hupd _ _ e' hx'
        subst e
        simp [upd] at hx; subst hx
        subst hbk; exact (h2 (h.inj _ _ _ _ _ _ h1 hb hx1 hρ (by simpa using he.symm))).elim
    · obtain ⟨h1, h2⟩ := hold _ _ hj e
      have hx1 := hupd _ _ e hx
      by_cases e' : j' = b'
      · subst e'
        simp [upd] at hx'; subst hx'
        subst hbk; exact (h2 (h.inj _ _ _ _ _ _ h1 hb hx1 hρ (by simpa using he))).elim
      · obtain ⟨h1', h2'⟩ := hold _ _ hj' e'
        have hx2 := hupd _ _ e' hx'
        subst hjn; exact h.inj _ _ _ _ _ _ h1 h1' hx1 hx2 he
  · intro j hj
    have : Bk.new j ≠ b' := by rw [← hbk']; intro e; cases e; omega
    simp only [upd, this, if_false]; exact h.fresh _ (by omega)
  · intro j x hx
    by_cases e : Bk.new j = b'
    · simp [upd, e] at hx; subst hx; exact hbr
    · exact h.lows _ _ (hupd _ _ e hx)
  · intro k _ hi
    exact ho k fun e => hi ⟨b, ao0, (r, sh, m), hb, hρ, e.symm⟩
  · rintro k ⟨j, a, x, hj, hx, rfl⟩ _
    by_cases e : j = b'
    · subst e; simp [upd] at hx; subst hx; exact ⟨b, ao0, (r, sh, m), hb, hρ, rfl⟩
    · obtain ⟨h1, _⟩ := hold _ _ hj e
      exact ⟨j, a, x, h1, hupd _ _ e hx, rfl⟩
  · intro n hn' h0
    have : Bk.new n ≠ b' := by rw [← hbk']; intro e; cases e; omega
    simp only [upd, this, if_false]; exact h0

section
variable {P : Program} {w : World} {t xt ty e : TypeId} {i : TypeInfo}
theorem append_room (ht : P.underlying t = some (.slice e)) {d} (hxt : P.underlying xt = some d) (hd : ∀ k, d ≠ .int k) (hi : P.info? e = some i) {x : Value} {n : Nat} {vs : List Value}
    (hl : (Builtin.lenOf x).run P w = .ok n w) (hf : (Builtin.firstCells i.size n x).run P w = .ok vs.toArray w) {a : Addr} {len cap : Nat} (hroom : len + n ≤ cap) {w' : World}
    (hst : (storeCells (a.add (len * i.size)) vs).run P w = .ok () w') :
    (Builtin.append_ #[t, xt] ty #[.slice (some a) len cap, x]).run P w = .ok (.slice (some a) (len + n) cap) w' := by
  have hz : (match d with | .int _ => true | _ => false) = false := by cases d <;> first | rfl | exact absurd rfl (hd _)
  simp [Builtin.append_, run_underlying ht, run_underlying hxt, sizeOf, typeInfo, hi, hz, hl, hroom, hf, hst]
theorem append_grow (ht : P.underlying t = some (.slice e)) {d} (hxt : P.underlying xt = some d) (hd : ∀ k, d ≠ .int k) (hi : P.info? e = some i) {z : Value} (hzv : i.zero = some z) {x : Value} {n : Nat} {vs os : List Value} {base : Option Addr} {len cap : Nat}
    (hl : (Builtin.lenOf x).run P w = .ok n w) (hf : ∀ w' : World, w'.heap = w.heap → (Builtin.firstCells i.size n x).run P w' = .ok vs.toArray w')
    (ho : ∀ w' : World, w'.heap = w.heap → (Builtin.firstCells i.size len (.slice base len cap)).run P w' = .ok os.toArray w')
    (hg : cap < len + n) (h63 : ((len + n : Nat) : Int) ≤ 9223372036854775807) (hfit : (len + n) * i.bytes ≤ 140737488355328) :
    ∃ c, len + n ≤ c ∧ (Builtin.append_ #[t, xt] ty #[.slice base len cap, x]).run P w = .ok (.slice (some ⟨w.heap.size, 0, none⟩) (len + n) c)
        (w.drew.alloc (.cells (os ++ (vs ++ (Builtin.zeroCells z.cells (c - (len + n))).toList)).toArray e)) := by
  have hz : (match d with | .int _ => true | _ => false) = false := by cases d <;> first | rfl | exact absurd rfl (hd _)
  have hn : ¬ (len + n ≤ cap) := by omega
  have h63' : ¬ (9223372036854775807 < ((len : Int) + (n : Int))) := by omega
  have h48' : ¬ (281474976710656 < Builtin.nextslicecap (len + n) cap * i.bytes) := by have := growslice_fits hg hfit; omega
  have hf' := hf w.drew rfl
  have ho' := ho w.drew rfl
  refine ⟨grownCap w (len + n) cap e, ?_, ?_⟩
  · unfold grownCap Question.cut; simp only; omega
  · simp [Builtin.append_, run_underlying ht, run_underlying hxt, sizeOf, typeInfo, zeroValue, hi, hzv, hz, hl, hn, h63', h48', Question.forced, hf', ho', newRow, grownCap]
    congr 2
    apply Array.ext'
    simp
end

section
variable {P : Program} {w : World} {t xt ty e : TypeId} {i : TypeInfo}
/-- append(s, make([]T, n)...), where there is room. -/
theorem append_roomZ (ht : P.underlying t = some (.slice e)) (hxt : P.underlying xt = some (.int .i64)) (hi : P.info? e = some i) (hs : i.size ≠ 0) {z : Value} (hzv : i.zero = some z) {n : Nat} (h0 : n ≠ 0) (hn : n ≤ 1000000) (hb : n * i.bytes ≤ 140737488355328)
    {a : Addr} {len cap : Nat} (hroom : len + n ≤ cap) {w' : World} (hst : (storeCells (a.add (len * i.size)) (Builtin.zeroCells z.cells n).toList).run P w = .ok () w') :
    (Builtin.append_ #[t, xt] ty #[.slice (some a) len cap, .int .i64 (n : Int)]).run P w = .ok (.slice (some a) (len + n) cap) w' := by
  have hw : IntKind.i64.wrap (n : Int) = (n : Int) := wrap_int _ (by omega) (by omega)
  have h1 : ¬ ((n : Int) < 0) := by omega
  have h2 : ¬ (281474976710656 < (n : Int) * (i.bytes : Int)) := by
    have : ((n * i.bytes : Nat) : Int) ≤ 140737488355328 := by omega
    rw [Int.natCast_mul] at this; omega
  have h3' : ¬ (n * i.size = 0) := Nat.mul_ne_zero h0 hs
  simp [Builtin.append_, run_underlying ht, run_underlying hxt, sizeOf, typeInfo, zeroValue, hi, hzv, asInt, asIntOf, hw, h1, h2, h3', hroom, hst]
theorem append_growZ (ht : P.underlying t = some (.slice e)) (hxt : P.underlying xt = some (.int .i64)) (hi : P.info? e = some i) (hs : i.size ≠ 0) {z : Value} (hzv : i.zero = some z) {n : Nat} (h0 : n ≠ 0) (hn : n ≤ 1000000) (hb : n * i.bytes ≤ 140737488355328) {os : List Value} {base : Option Addr} {len cap : Nat}
    (ho : ∀ w' : World, w'.heap = w.heap → (Builtin.firstCells i.size len (.slice base len cap)).run P w' = .ok os.toArray w')
    (hg : cap < len + n) (h63 : ((len + n : Nat) : Int) ≤ 9223372036854775807) (hfit : (len + n) * i.bytes ≤ 140737488355328) :
    ∃ c, len + n ≤ c ∧ (Builtin.append_ #[t, xt] ty #[.slice base len cap, .int .i64 (n : Int)]).run P w = .ok (.slice (some ⟨w.heap.size, 0, none⟩) (len + n) c)
        (w.drew.alloc (.cells (os ++ ((Builtin.zeroCells z.cells n).toList ++ (Builtin.zeroCells z.cells (c - (len + n))).toList)).toArray e)) := by
  have hw : IntKind.i64.wrap (n : Int) = (n : Int) := wrap_int _ (by omega) (by omega)
  have h1 : ¬ ((n : Int) < 0) := by omega
  have h2 : ¬ (281474976710656 < (n : Int) * (i.bytes : Int)) := by
    have : ((n * i.bytes : Nat) : Int) ≤ 140737488355328 := by omega
    rw [Int.natCast_mul] at this; omega
  have hn' : ¬ (len + n ≤ cap) := by omega
  have h63' : ¬ (9223372036854775807 < ((len : Int) + (n : Int))) := by omega
  have h48' : ¬ (281474976710656 < Builtin.nextslicecap (len + n) cap * i.bytes) := by have := growslice_fits hg hfit; omega
  have ho' := ho w.drew rfl
  refine ⟨grownCap w (len + n) cap e, ?_, ?_⟩
  · unfold grownCap Question.cut; simp only; omega
  · have h3' : ¬ (n * i.size = 0) := Nat.mul_ne_zero h0 hs
    simp [Builtin.append_, run_underlying ht, run_underlying hxt, sizeOf, typeInfo, zeroValue, hi, hzv, asInt, asIntOf, hw, h1, h2, h3', hn', h63', h48', Question.forced, ho', newRow, grownCap]
    congr 2
    apply Array.ext'
    simp
end

noncomputable abbrev fits (by_ need : Nat) : Bool := Nat.ble need 1000000000 && Nat.ble by_ 100000

/-- What is known of a block that went on growing. -/
def growOp (op : Op2) (o e : Nat) : Op2 := match op with
  | .gt t => cond (Nat.beq t e && Nat.beq o 0) (.gt e) .gro
  | _ => .gro
theorem growOp_cases (op : Op2) (o e : Nat) : (growOp op o e = .gro) ∨ (growOp op o e = .gt e ∧ op = .gt e ∧ o = 0) := by
  unfold growOp
  cases op with
  | gt t =>
    dsimp only
    cases h : (Nat.beq t e && Nat.beq o 0) with
    | false => exact .inl rfl
    | true =>
      simp only [Bool.and_eq_true] at h
      exact .inr ⟨rfl, by rw [Nat.eq_of_beq_eq_true h.1], Nat.eq_of_beq_eq_true h.2⟩
  | _ => exact .inl rfl
/-- Cells behind a slice's elements: so many elements, whatever room there is. -/
def St.app (S : St) (e : TypeId) (z by_ : Nat) (s : LV) (new : List SV) (n : Nat) (K : LV → St → Prop) : Prop :=
  match Nat.beq n 0 with
  | true => K s S
  | false => match s with
    | .nil => req (fits by_ n) (K (.mk (.new S.next) 0 n (.inr z)) (S.add (.cells new (.gt e))))
    | .mk b o len c => req (fits by_ (len + n)) (match S.get b with
      | some (.cells l op) => req (Nat.ble (o + len * z) l.length) (match c with
        | .inl k => (match Nat.ble (len + n) k with
          | true => S.wr b (o + len * z) new fun S' => K (.mk b o (len + n) c) S'
          | false => K (.mk (.new S.next) 0 (len + n) (.inr z)) (S.add (.cells ((l.drop o).take (len * z) ++ new) (.gt e))))
        | .inr z' => req (Nat.beq z z') (match Nat.ble (o + (len + n) * z) l.length with
          | true => S.wr b (o + len * z) new fun S' => K (.mk b o (len + n) c) S'
          | false => (match op.b with
            | false => K (.mk (.new S.next) 0 (len + n) (.inr z)) (S.add (.cells ((l.drop o).take (len * z) ++ new) (.gt e)))
            | true => req (Nat.beq (o + len * z) l.length) (match b with
              | .inp _ => False
              | .new kb => K (.mk (.new S.next) 0 (len + n) (.inr z)) ((S.put kb none).add (.cells (l.drop o ++ new) (growOp op o e)))))))
      | _ => False)

noncomputable abbrev appendK (P : Program) (S : St) (t xt : TypeId) (s x : SV) (K : AV → St → Prop) : Prop :=
  match P.underlying t, s with
  | some (.slice e), .sl s => optK (sizeA P e) fun z => optK (P.info? e) fun i => optK i.zero fun zv => req (Nat.beq zv.cells.size z) (match P.underlying xt, x with
    | some (.int .i64), .int .i64 n => req (ile 1 n && (ile n 1000000 && Nat.ble i.bytes 1000)) (optK (zeroA P e) fun za => req (Nat.beq za.cells.length z) (S.app e z i.bytes s (rep za.cells n.toNat) n.toNat fun v S' => K (.one (.s (.sl v))) S'))
    | _, _ => srcK P S z xt x fun new n => S.app e z i.bytes s new n fun v S' => K (.one (.s (.sl v))) S')
  | _, _ => False

theorem grow_run {base ρ w} {S : St} {z need : Nat} {old new : List SV} (hw : Sim base ρ S.get S.next w) {os vs zs : List Value} (ho : All2 (SR ρ) old os) (hv : All2 (SR ρ) new vs)
    {c : Nat} (hc : need ≤ c) (e : TypeId) (hz : z ≠ 0) (hl : (old ++ new).length = need * z) (hzs : zs.length = (c - need) * z) {op : Op2} (hop : op.b = true) (hot : ∀ tg, op = .ty tg ∨ op = .gt tg → e = tg) {w1 : World} (h1 : w1.heap = w.heap) (h2 : w1.os = w.os ∧ w1.tape = w.tape ∧ w1.output = w.output) :
    ∃ ρ', SR ρ' (.sl (.mk (.new S.next) 0 need (.inr z))) (.slice (some ⟨w.heap.size, 0, none⟩) need c) ∧ Next base ρ S.get S.next w (S.add (.cells (old ++ new) op)).get (S.add (.cells (old ++ new) op)).next ρ' (w1.alloc (.cells (os ++ (vs ++ zs)).toArray e)) := by
  have hmul : need * z + (c - need) * z = c * z := by rw [← Nat.add_mul]; congr 1; omega
  have l1 := (ho.append hv).length
  have hw1 : Sim base ρ S.get S.next w1 := hw.drew h1
  obtain ⟨ρ', h3, h4⟩ := hw1.new (ao := .cells (old ++ new) op) (o := .cells (os ++ (vs ++ zs)).toArray e) (m := c * z) ⟨[], os ++ vs, zs, e, by simp, rfl, ho.append hv, by rw [← l1, hl, hzs]; exact hmul, fun e => (by rw [hop] at e; cases e), fun tg h => ⟨hot tg h, rfl⟩⟩
  rw [h1] at h3
  exact ⟨ρ', ⟨w.heap.size, 0, c * z, c, 0, h3, rfl, fun _ => rfl, hc, by simp, by rintro e' he; cases he; omega⟩, h4.drew h1 h2⟩

def ZeroOK (P : Program) : Prop := True

theorem app_run {P S K} {t xt e : TypeId} {s : LV} {z n : Nat} {i : TypeInfo} {zv : Value} {new : List SV} (h : S.app e z i.bytes s new n fun v S' => K (.one (.s (.sl v))) S') {ρ : Ren} {cs cx : Value} (hs : SR ρ (.sl s) cs) {base w} (hw : Sim base ρ S.get S.next w) (ty : TypeId)
    (hsz : i.size = z) (hz0 : z ≠ 0) (hzl : zv.cells.size = z) {vs : List Value} (hv : All2 (SR ρ) new vs) (hnl : new.length = n * z)
    (HR : ∀ {a : Addr} {len cap : Nat} {w' : World}, len + n ≤ cap → (storeCells (a.add (len * i.size)) vs).run P w = .ok () w' → (Builtin.append_ #[t, xt] ty #[.slice (some a) len cap, cx]).run P w = .ok (.slice (some a) (len + n) cap) w')
    (HG : ∀ {os : List Value} {base : Option Addr} {len cap : Nat}, (∀ w' : World, w'.heap = w.heap → (Builtin.firstCells i.size len (.slice base len cap)).run P w' = .ok os.toArray w') → cap < len + n → ((len + n : Nat) : Int) ≤ 9223372036854775807 → (len + n) * i.bytes ≤ 140737488355328 →
      ∃ c, len + n ≤ c ∧ (Builtin.append_ #[t, xt] ty #[.slice base len cap, cx]).run P w = .ok (.slice (some ⟨w.heap.size, 0, none⟩) (len + n) c) (w.drew.alloc (.cells (os ++ (vs ++ (Builtin.zeroCells zv.cells (c - (len + n))).toList)).toArray e)))
    (H0 : n = 0 → (Builtin.append_ #[t, xt] ty #[.slice none 0 0, cx]).run P w = .ok (.slice none 0 0) w) : Turn base P ρ S w K (Builtin.append_ #[t, xt] ty #[cs, cx]) := by
  have hfits : ∀ need, fits i.bytes need = true → ((need : Nat) : Int) ≤ 9223372036854775807 ∧ need * i.bytes ≤ 140737488355328 := by
    intro need hf
    unfold fits at hf
    simp only [Bool.and_eq_true] at hf
    have f1 := Nat.le_of_ble_eq_true hf.1
    have f2 := Nat.le_of_ble_eq_true hf.2
    have f3 : need * i.bytes ≤ 1000000000 * 100000 := Nat.mul_le_mul f1 f2
    exact ⟨by omega, by omega⟩
  have hlv := hv.length
  unfold St.app at h
  split at h
  · rename_i hn
    obtain rfl := Nat.eq_of_beq_eq_true hn
    have hvs : vs = [] := by cases vs with | nil => rfl | cons a b => simp at hlv; omega
    refine ⟨_, _, cs, ρ, w, h, ?_, hs, .refl hw⟩
    cases s with
    | nil =>
      cases hs
      exact H0 rfl
    | mk b o len c =>
      obtain ⟨r, sh, m, cc, o', hρ, rfl, ho, hlc, hci, hcr⟩ := hs
      have := HR (a := ⟨r, o', none⟩) (len := len) (cap := cc) (w' := w) (by omega) (by rw [hvs]; rfl)
      simpa using this
  · rename_i hn
    have hn0 : n ≠ 0 := by rintro rfl; simp [Nat.beq] at hn
    cases s with
    | nil =>
      cases hs
      obtain ⟨hf, h⟩ := req_and h
      obtain ⟨g1, g2⟩ := hfits n hf
      obtain ⟨c, hc1, hc2⟩ := HG (base := none) (len := 0) (cap := 0) (os := []) (fun w' hw' => by simp [Builtin.firstCells]) (by omega) (by simpa using g1) (by simpa using g2)
      simp only [Nat.zero_add] at hc1 hc2
      have hzc : ((Builtin.zeroCells zv.cells (c - n)).toList).length = (c - n) * z := by simp [size_zeroCells, hzl]
      obtain ⟨ρ', h1, h2⟩ := grow_run hw (os := []) (old := []) .nil hv hc1 e hz0 (by simp [hnl]) hzc (op := .gt e) rfl (fun tg h => by rcases h with h | h <;> cases h; rfl) (w1 := w.drew) rfl ⟨rfl, rfl, rfl⟩
      exact ⟨_, _, _, ρ', _, h, hc2, h1, h2⟩
    | mk b o len c =>
      obtain ⟨hf, h⟩ := req_and h
      obtain ⟨g1, g2⟩ := hfits _ hf
      split at h
      case h_2 => exact h.elim
      rename_i l op hb
      obtain ⟨hle, h⟩ := req_and h
      have hle' := Nat.le_of_ble_eq_true hle
      obtain ⟨r, sh, m, cc, o', hρ, rfl, ho, hlc, hci, hcr⟩ := hs
      -- the two sure ways
      have room : S.wr b (o + len * z) new (fun S' => K (.one (.s (.sl (.mk b o (len + n) c)))) S') → len + n ≤ cc → Turn base P ρ S w K (Builtin.append_ #[t, xt] ty #[.slice (some ⟨r, o', none⟩) len cc, cx]) := by
        intro hr hroom
        obtain rfl := ho (by omega)
        obtain ⟨S', w', k0, k1, k2⟩ := St.wr_run hr hw hρ hv P
        exact ⟨_, _, _, ρ, w', k0, HR hroom (by rw [hsz, add_at, Nat.add_assoc]; exact k1), ⟨r, sh, m, cc, _, hρ, rfl, fun _ => rfl, hroom, hci, hcr⟩, k2⟩
      have grow : K (.one (.s (.sl (.mk (.new S.next) 0 (len + n) (.inr z))))) (S.add (.cells ((l.drop o).take (len * z) ++ new) (.gt e))) → cc < len + n → Turn base P ρ S w K (Builtin.append_ #[t, xt] ty #[.slice (some ⟨r, o', none⟩) len cc, cx]) := by
        intro hg hlt
        have hold : ∃ os : List Value, All2 (SR ρ) ((l.drop o).take (len * z)) os ∧ ∀ w' : World, w'.heap = w.heap → (loadCells ⟨r, o', none⟩ (len * z)).run P w' = .ok os.toArray w' := by
          by_cases h0 : cc = 0
          · have : len = 0 := by omega
            subst this
            exact ⟨[], by simp; exact .nil, fun w' _ => by simp only [Nat.zero_mul]; exact loadCells_none _⟩
          · obtain rfl := ho h0
            exact hw.readAll hb hρ o (len * z) hle' P
        obtain ⟨os, ho1, ho2⟩ := hold
        obtain ⟨c', hc1, hc2⟩ := HG (base := some ⟨r, o', none⟩) (len := len) (cap := cc) (os := os) (fun w' hw' => by simp only [Builtin.firstCells]; rw [hsz]; exact ho2 w' hw') hlt g1 g2
        have hzc : ((Builtin.zeroCells zv.cells (c' - (len + n))).toList).length = (c' - (len + n)) * z := by simp [size_zeroCells, hzl]
        obtain ⟨ρ', h1, h2⟩ := grow_run hw ho1 hv hc1 e hz0 (by simp [hnl, Nat.add_mul]; omega) hzc (op := .gt e) rfl (fun tg h => by rcases h with h | h <;> cases h; rfl) (w1 := w.drew) rfl ⟨rfl, rfl, rfl⟩
        exact ⟨_, _, _, ρ', _, hg, hc2, h1, h2⟩
      cases c with
      | inl k =>
        obtain rfl := hci k rfl
        dsimp only at h
        split at h
        · rename_i hk; exact room h (Nat.le_of_ble_eq_true hk)
        · rename_i hk
          have hk' : ¬ (len + n ≤ cc) := fun e' => by rw [Nat.ble_eq_true_of_le e'] at hk; cases hk
          exact grow h (by omega)
      | inr z' =>
        dsimp only at h
        obtain ⟨hzz, hq⟩ := req_and h
        clear h
        obtain rfl := Nat.eq_of_beq_eq_true hzz
        have h := hq
        clear hq
        have hcm := hcr z rfl
        obtain ⟨r', sh', m', h1', h2'⟩ := hw.obj _ _ hb
        rw [hρ] at h1'; cases h1'
        obtain ⟨pre, cs', post, tt, hob, hpre, hcs, hm, hop⟩ := h2'.thawed
        have hlcs := hcs.length
        split at h
        · rename_i hk
          have hk' := Nat.le_of_ble_eq_true hk
          have hroom : len + n ≤ cc := by
            have : (len + n) * z ≤ cc * z := by omega
            exact Nat.le_of_mul_le_mul_right this (by omega)
          exact room h hroom
        · rename_i hk
          have hk' : ¬ (o + (len + n) * z ≤ l.length) := fun e' => by rw [Nat.ble_eq_true_of_le e'] at hk; cases hk
          split at h
          · rename_i hb1
            have hpost := hop.1 hb1
            subst hpost
            simp at hm
            refine grow h ?_
            by_cases hcc : cc < len + n
            · exact hcc
            · have : (len + n) * z ≤ cc * z := Nat.mul_le_mul_right _ (by omega)
              omega
          · obtain ⟨hq, h⟩ := req_and h
            have hl := Nat.eq_of_beq_eq_true hq
            cases b with
            | inp _ => exact h.elim
            | new kb =>
              dsimp only at h
              have hob : w.heap[r]? = some (.cells (pre ++ (cs' ++ post)).toArray tt (0, 0)) := by
                have h9 : OR ρ (.cells l op) sh m (w.heap[r]?) := h2'
                obtain ⟨_, _, _, _, hob2, _⟩ := h9
                rw [hob2] at hob ⊢; exact hob
              have hgg : ((S.put kb none).add (AO.cells (List.drop o l ++ new) (growOp op o e))).get = gset (gset S.get (.new kb) none) (.new S.next) (some (.cells (l.drop o ++ new) (growOp op o e))) := by
                rw [St.add_get, St.put_get]
              have hfresh := hw.fresh S.next (Nat.le_refl _)
              by_cases hroom : len + n ≤ cc
              · -- there is room: the cells behind are written
                obtain rfl := ho (by omega)
                have hmul : (len + n) * z ≤ cc * z := Nat.mul_le_mul_right _ hroom
                have hadd : (len + n) * z = len * z + n * z := Nat.add_mul _ _ _
                have hrun := run_storeCells_at (P := P) r (sh + (o + len * z)) tt vs 0 _ w hob (by simp; omega) hv.oneCell
                refine ⟨_, _, _, upd ρ (.new S.next) (r, sh + o, m - o), _, h, HR hroom (by rw [hsz, add_at, Nat.add_assoc]; exact hrun), ?_, ?_⟩
                · exact ⟨r, sh + o, m - o, cc, _, by simp [upd], rfl, fun _ => by simp, hroom, by simp, by rintro e' he; cases he; omega⟩
                · rw [hgg]
                  refine hw.move (kb := kb) hb hρ (by simp) (fun k hk => setRow_other _ _ _ _ hk) ⟨rfl, rfl, rfl⟩ hfresh (Nat.le_succ _) (Nat.lt_succ_self _) (Nat.le_refl _) ?_
                  rw [setRow_heap _ _ _ _ _ _ hob]
                  refine ⟨pre ++ cs'.take o, cs'.drop o ++ vs, post.drop vs.length, tt, ?_, by simp; omega, (hcs.drop o).append hv, by simp; omega, fun h9 => (by rcases growOp_cases op o e with e9 | ⟨e9, _⟩ <;> (rw [e9] at h9; cases h9)), fun tg h9 => (by
                    rcases growOp_cases op o e with e9 | ⟨e9, e10, e11⟩
                    · rw [e9] at h9; rcases h9 with h9 | h9 <;> cases h9
                    · rw [e9] at h9
                      have h12 : e = tg := by rcases h9 with h9 | h9 <;> cases h9; rfl
                      obtain ⟨q1, q2⟩ := hop.2 e (.inr e10)
                      exact ⟨by rw [q1, h12], by rw [q2, e11]⟩)⟩
                  congr 2
                  simp only [Nat.add_zero, List.toList_toArray]
                  have e1 : (pre ++ (cs' ++ post)).take (sh + (o + len * z)) = pre ++ cs' := by
                    rw [List.take_append, List.take_of_length_le (by omega), List.take_append, List.take_of_length_le (by omega), show sh + (o + len * z) - pre.length - cs'.length = 0 by omega]; simp
                  have e2 : (pre ++ (cs' ++ post)).drop (sh + (o + len * z) + vs.length) = post.drop vs.length := by
                    rw [List.drop_append, List.drop_of_length_le (by omega), List.drop_append, List.drop_of_length_le (by omega), show sh + (o + len * z) + vs.length - pre.length - cs'.length = vs.length by omega]; simp
                  rw [e1, e2]
                  simp only [List.append_assoc]
                  rw [← List.append_assoc (cs'.take o), List.take_append_drop]
              · -- a new block
                have hold : ∃ os : List Value, All2 (SR ρ) ((l.drop o).take (len * z)) os ∧ ∀ w' : World, w'.heap = w.heap → (loadCells ⟨r, o', none⟩ (len * z)).run P w' = .ok os.toArray w' := by
                  by_cases h0 : cc = 0
                  · have : len = 0 := by omega
                    subst this
                    exact ⟨[], by simp; exact .nil, fun w' _ => by simp only [Nat.zero_mul]; exact loadCells_none _⟩
                  · obtain rfl := ho h0
                    exact hw.readAll hb hρ o (len * z) hle' P
                obtain ⟨os, ho1, ho2⟩ := hold
                have ho1' : All2 (SR ρ) (l.drop o) os := by
                  rw [List.take_of_length_le (by simp; omega)] at ho1; exact ho1
                have hlo := ho1'.length
                have hadd : (len + n) * z = len * z + n * z := Nat.add_mul _ _ _
                obtain ⟨c, hc1, hc2⟩ := HG (base := some ⟨r, o', none⟩) (len := len) (cap := cc) (os := os) (fun w' hw' => by simp only [Builtin.firstCells]; rw [hsz]; exact ho2 w' hw') (by omega) g1 g2
                have hw2 : Sim base ρ (gset S.get (.new kb) none) S.next w.drew := (hw.drew (w' := w.drew) rfl).less fun j ao hj => by
                  unfold gset at hj; split at hj
                  · cases hj
                  · exact hj
                have hmul : (len + n) * z + (c - (len + n)) * z = c * z := by rw [← Nat.add_mul]; congr 1; omega
                have hzc : ((Builtin.zeroCells zv.cells (c - (len + n))).toList).length = (c - (len + n)) * z := by simp [size_zeroCells, hzl]
                have hnew := hw2.newAt (k := S.next) hfresh (next' := S.next + 1) (Nat.le_succ _) (Nat.lt_succ_self _) (ao := .cells (l.drop o ++ new) (growOp op o e)) (o := .cells (os ++ (vs ++ (Builtin.zeroCells zv.cells (c - (len + n))).toList)).toArray e) (m := c * z)
                  ⟨[], os ++ vs, (Builtin.zeroCells zv.cells (c - (len + n))).toList, e, by simp, rfl, ho1'.append hv, by rw [List.length_append, hzc]; simp at hlo; omega, fun h9 => (by rcases growOp_cases op o e with e9 | ⟨e9, _⟩ <;> (rw [e9] at h9; cases h9)), fun tg h9 => (by
                    rcases growOp_cases op o e with e9 | ⟨e9, e10, e11⟩
                    · rw [e9] at h9; rcases h9 with h9 | h9 <;> cases h9
                    · rw [e9] at h9
                      have h12 : e = tg := by rcases h9 with h9 | h9 <;> cases h9; rfl
                      exact ⟨h12, rfl⟩)⟩ (Nat.le_refl S.next)
                refine ⟨_, _, _, upd ρ (.new S.next) (w.heap.size, 0, c * z), _, h, hc2, ⟨w.heap.size, 0, c * z, c, 0, by simp [upd], rfl, fun _ => rfl, hc1, by simp, by rintro e' he; cases he; omega⟩, ?_⟩
                rw [hgg]
                refine Next.more (g' := gset S.get (.new kb) none) ?_ (hnew.drew rfl ⟨rfl, rfl, rfl⟩)
                intro j ao hj
                unfold gset at hj; split at hj
                · cases hj
                · exact hj
      
theorem appendK_run {P S t xt s x K} (h : appendK P S t xt s x K) {ρ : Ren} {cs cx} (hs : SR ρ s cs) (hx : SR ρ x cx) {base w} (hw : Sim base ρ S.get S.next w) (hzero : ZeroOK P) (ty : TypeId) :
    Turn base P ρ S w K (Builtin.append_ #[t, xt] ty #[cs, cx]) := by
  unfold appendK at h
  split at h
  case h_2 => exact h.elim
  rename_i e s hu
  obtain ⟨z, hz, h1⟩ := optK_some h
  clear h
  obtain ⟨i, hi, h2⟩ := optK_some h1
  clear h1
  obtain ⟨zv, hzv, h3⟩ := optK_some h2
  clear h2
  obtain ⟨hzq, h⟩ := req_and h3
  clear h3
  obtain ⟨hz0, hzr⟩ := sizeA_run hz
  have hsz : i.size = z := by
    have := hzr default
    simp [sizeOf, typeInfo, hi] at this; exact this
  have hzl : zv.cells.size = z := Nat.eq_of_beq_eq_true hzq
  split at h
  · rename_i n hxt
    obtain ⟨hb, h1⟩ := req_and h
    clear h
    obtain ⟨za, hza, h2⟩ := optK_some h1
    clear h1
    obtain ⟨hzc, h⟩ := req_and h2
    clear h2
    have hzc := Nat.eq_of_beq_eq_true hzc
    simp only [Bool.and_eq_true, ile_eq, decide_eq_true_eq] at hb
    obtain ⟨b1, b2, b3⟩ := hb
    have b3 := Nat.le_of_ble_eq_true b3
    have hn0 : (0 : Int) ≤ n := by omega
    obtain ⟨n, rfl⟩ := Int.eq_ofNat_of_zero_le hn0
    simp only [Int.toNat_natCast] at h
    cases hx
    obtain ⟨cv, q1, q2⟩ := zeroA_run hza ρ
    have hcv : cv = zv := by
      have := q2 default
      simp [zeroValue, typeInfo, hi, hzv] at this
      exact this.symm
    subst hcv
    obtain ⟨zs, q3, q4⟩ := q1.cells
    have hne : za.cells ≠ [] := fun e' => hz0 (by rw [← hzc, e']; rfl)
    have hrep := rep_rel q4 n hne
    have hvs : (Builtin.zeroCells cv.cells n).toList = ((Array.range (n * za.cells.length)).map (zs.toArray[· % zs.toArray.size]!)).toList := by
      unfold Builtin.zeroCells
      rw [hzl, hzc, q3, List.size_toArray, ← q4.length, hzc]
    rw [← hvs] at hrep
    have hnb : n * i.bytes ≤ 140737488355328 := by
      have : n * i.bytes ≤ 1000000 * 1000 := Nat.mul_le_mul (by omega) b3
      omega
    have hs0 : i.size ≠ 0 := by rw [hsz]; exact hz0
    exact app_run h hs hw ty hsz hz0 hzl hrep (by rw [rep_length, hzc]) (fun h1 h2 => append_roomZ hu hxt hi hs0 hzv (by omega) (by omega) hnb h1 h2) (fun h1 h2 h3 h4 => append_growZ hu hxt hi hs0 hzv (by omega) (by omega) hnb h1 h2 h3 h4) (fun e' => by omega)
  · obtain ⟨new, n, h, ⟨d, hxt, hd⟩, hnl, vs, hv, hxr⟩ := srcK_run h hx hw
    rw [← hsz] at hxr
    refine app_run h hs hw ty hsz hz0 hzl hv hnl (fun h1 h2 => append_room hu hxt hd hi (hxr w rfl).1 (hxr w rfl).2 h1 h2) (fun h1 h2 h3 h4 => append_grow hu hxt hd hi hzv (hxr w rfl).1 (fun w' hw' => (hxr w' hw').2) h1 h2 h3 h4) (fun e' => ?_)
    subst e'
    have hzz : (match d with | .int _ => true | _ => false) = false := by cases d <;> first | rfl | exact absurd rfl (hd _)
    have hf := (hxr w rfl).2
    have hl := (hxr w rfl).1
    simp [Builtin.append_, run_underlying hu, run_underlying hxt, sizeOf, typeInfo, hi, hzz, hl, hf]
end Go.Xe
