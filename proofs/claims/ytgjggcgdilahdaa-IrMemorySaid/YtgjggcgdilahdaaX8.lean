/- Executor, second make: maps, new memory. -/
import Derived.Test.YtgjggcgdilahdaaX7
set_option linter.unusedVariables false
set_option linter.unusedSimpArgs false
set_option linter.constructorNameAsVariable false
set_option linter.unusedVariables false
set_option linter.unusedSimpArgs false
namespace Go.Xe
open Go.RowKit

/-- May a value be a key of a type? -/
def chkA (P : Program) : Nat → TypeId → V1 → Bool
  | 0, _, _ => false
  | d + 1, t, v =>
    match P.underlying t, v with
    | some .bool, .s (.bool _) => true
    | some (.int _), .s (.int _ _) => true
    | some .string, .s (.str _) => true
    | some (.struct fs), .agg cs => chkFs (fun f => match partA P f.type cs f.offset with | some a => chkA P d f.type a | none => false) fs.toList
    | some (.array n e), .agg cs => cond (P.info? e).isSome (chkNs (fun i => match partA P e cs (i * P.cellsOf e) with | some a => chkA P d e a | none => false) (List.range n)) false
    | _, _ => false
where
  chkFs (f : Field → Bool) : List Field → Bool
    | [] => true
    | x :: l => cond (x.name == "_") (chkFs f l) (f x && chkFs f l)
  chkNs (f : Nat → Bool) : List Nat → Bool
    | [] => true
    | x :: l => f x && chkNs f l

theorem forIn_list_ok {α : Type} {P : Program} {w : World} {f : α → PUnit → Sem (ForInStep PUnit)} : ∀ {l : List α}, (∀ x ∈ l, ∀ u, (f x u).run P w = .ok (.yield PUnit.unit) w) →
    (forIn l PUnit.unit f : Sem PUnit).run P w = .ok PUnit.unit w
  | [], _ => by simp
  | x :: l, h => by
    have h1 := h x (by simp) PUnit.unit
    have h2 := forIn_list_ok (P := P) (w := w) (f := f) (l := l) fun y hy => h y (by simp [hy])
    simp only [List.forIn_cons, Sem.run_bind, h1, Result.andThen_ok]
    exact h2

theorem chkA_run {P : Program} {ρ : Ren} : ∀ (d : Nat) (t : TypeId) (v : V1), chkA P d t v = true → ∀ (cv : Value), VR1 ρ v cv → ∀ (D : Nat) (em : Bool) (w : World), d ≤ D → (Instr.checkKey em D t cv).run P w = .ok () w := by
  intro d
  induction d with
  | zero => intro t v h; simp [chkA] at h
  | succ d ih =>
    intro t v h cv hv D em w hD
    obtain ⟨D, rfl⟩ : ∃ k, D = k + 1 := ⟨D - 1, by omega⟩
    unfold chkA at h
    split at h
    · rename_i hu; cases hv; simp [Instr.checkKey, underlying, hu]
    · rename_i hu; cases hv; simp [Instr.checkKey, underlying, hu]
    · rename_i hu; obtain ⟨s, rfl, _⟩ := hv; simp [Instr.checkKey, underlying, hu]
    · rename_i fs cs hu
      obtain ⟨vs, rfl, h1⟩ := hv
      simp only [Instr.checkKey, Sem.run_bind, run_underlying hu, Result.andThen_ok]
      rw [← Array.forIn_toList]
      generalize fs.toList = l at h
      have key : ∀ f ∈ l, f.name ≠ "_" → ∃ ca, (part f.type vs.toArray f.offset).run P w = .ok ca w ∧ (Instr.checkKey em D f.type ca).run P w = .ok () w := by
        induction l with
        | nil => simp
        | cons f l ihl =>
          simp only [chkA.chkFs] at h
          intro g hg hne
          by_cases hn : (f.name == "_") = true
          · rw [hn] at h
            simp only [cond_true] at h
            rcases List.mem_cons.1 hg with rfl | hg
            · exact absurd (by simpa using hn) hne
            · exact ihl h g hg hne
          · have hn' : (f.name == "_") = false := by simpa using hn
            rw [hn'] at h
            simp only [cond_false, Bool.and_eq_true] at h
            rcases List.mem_cons.1 hg with rfl | hg
            · obtain ⟨h2, _⟩ := h
              cases ha : partA P g.type cs g.offset with
              | none => rw [ha] at h2; cases h2
              | some a =>
                rw [ha] at h2
                obtain ⟨ca, hca, hra⟩ := partA_run ha h1
                exact ⟨ca, hra w, ih g.type a h2 ca hca D em w (by omega)⟩
            · exact ihl h.2 g hg hne
      rw [forIn_list_ok (P := P) (w := w)]
      · simp
      · intro f hf u
        by_cases hn : f.name ≠ "_"
        · obtain ⟨ca, k1, k2⟩ := key f hf hn
          simp [hn, k1, k2]
        · simp [hn]
    · rename_i n e cs hu
      obtain ⟨vs, rfl, h1⟩ := hv
      cases hi : P.info? e with
      | none => rw [hi] at h; cases h
      | some i =>
        rw [hi] at h
        simp only [Option.isSome_some, cond_true] at h
        simp only [Instr.checkKey, Sem.run_bind, run_underlying hu, Result.andThen_ok]
        simp only [Std.Legacy.Range.forIn_eq_forIn_range', Std.Legacy.Range.size, Nat.sub_zero, Nat.add_one_sub_one, Nat.div_one]
        rw [List.range_eq_range'] at h
        generalize List.range' 0 n = l at h
        have key : ∀ j ∈ l, ∃ ca, (part e vs.toArray (j * P.cellsOf e)).run P w = .ok ca w ∧ (Instr.checkKey em D e ca).run P w = .ok () w := by
          induction l with
          | nil => simp
          | cons f l ihl =>
            simp only [chkA.chkNs, Bool.and_eq_true] at h
            intro g hg
            rcases List.mem_cons.1 hg with rfl | hg
            · obtain ⟨h2, _⟩ := h
              cases ha : partA P e cs (g * P.cellsOf e) with
              | none => rw [ha] at h2; cases h2
              | some a =>
                rw [ha] at h2
                obtain ⟨ca, hca, hra⟩ := partA_run ha h1
                exact ⟨ca, hra w, ih e a h2 ca hca D em w (by omega)⟩
            · exact ihl h.2 g hg
        rw [forIn_list_ok (P := P) (w := w)]
        · simp
        · intro j hj u
          obtain ⟨ca, k1, k2⟩ := key j hj
          simp [run_sizeOf w hi, k1, k2]
    · cases h

/-- Where a key is among a map's entries. -/
noncomputable def findA (P : Program) (kt : TypeId) (k : V1) : List (V1 × V1 × Nat) → Nat → Option (Option (Nat × V1))
  | [], _ => some none
  | e :: es, i => match eqA P 50 kt k e.1 with
    | some true => some (some (i, e.2.1))
    | some false => findA P kt k es (i + 1)
    | none => none

theorem findAsking_run {P : Program} {ρ : Ren} {kt k ck} (hk : VR1 ρ k ck) : ∀ {es i r}, findA P kt k es i = some r → ∀ {xs : List MapEntry}, All2 (ER1 ρ) es xs → ∀ w,
    match r with
    | none => (Instr.findAsking kt ck xs i).run P w = .ok none w
    | some (j, v) => ∃ cv x, VR1 ρ v cv ∧ (Instr.findAsking kt ck xs i).run P w = .ok (some (j, cv)) w ∧ i ≤ j ∧ xs[j - i]? = some x ∧ x.val = cv ∧ ∃ e, es[j - i]? = some e ∧ ER1 ρ e x ∧ eqA P 50 kt k e.1 = some true := by
  intro es
  induction es with
  | nil => intro i r h xs hx w; cases hx; simp only [findA, Option.some.injEq] at h; subst h; simp [Instr.findAsking]
  | cons e es ih =>
    intro i r h xs hx w
    cases hx with
    | cons hh ht =>
      rename_i x xs
      simp only [findA] at h
      cases hsa : eqA P 50 kt k e.1 with
      | none => rw [hsa] at h; cases h
      | some b =>
        rw [hsa] at h
        have h1 := eqA_run 50 kt k e.1 b hsa ck x.key hk hh.1 10000 (by omega) w
        have h1' : (Op.equal kt ck x.key).run P w = .ok b w := h1
        cases b with
        | true =>
          cases h
          exact ⟨x.val, x, hh.2.1, by simp [Instr.findAsking, h1'], Nat.le_refl _, by simp, rfl, e, by simp, hh, hsa⟩
        | false =>
          simp only at h
          have := ih h ht w
          cases r with
          | none => simpa [Instr.findAsking, h1'] using this
          | some p =>
            obtain ⟨j, v'⟩ := p
            obtain ⟨cv, y, g1, g2, g3, g4, g5, e', g6, g7⟩ := this
            refine ⟨cv, y, g1, by simpa [Instr.findAsking, h1'] using g2, by omega, ?_, g5, e', ?_, g7⟩
            · rw [show j - i = (j - (i + 1)) + 1 by omega]; simpa using g4
            · rw [show j - i = (j - (i + 1)) + 1 by omega]; simpa using g6

/-- The quick search comes to the same. -/
theorem sameNow_eq {P : Program} {ρ : Ren} {kt k k' ck ck' d b} (hu : P.underlying kt = some d) (he : eqA P 50 kt k k' = some b) (hk : VR1 ρ k ck) (hk' : VR1 ρ k' ck') {r} (hs : Instr.sameNow d ck ck' = some r) : r = b := by
  obtain ⟨D, hD⟩ : ∃ D, 50 ≤ D + 1 := ⟨49, by omega⟩
  have h := eqA_run 50 kt k k' b he ck ck' hk hk' (D + 1) hD (default : World)
  unfold Instr.sameNow at hs
  split at hs
  · split at hs
    · rename_i e; subst e; cases hs
      simp [Op.equalIn, run_underlying hu] at h; exact h
    · cases hs
  · cases hs; simp [Op.equalIn, run_underlying hu] at h; exact h
  · cases hs; simp [Op.equalIn, run_underlying hu] at h; exact h
  · cases hs

theorem findNow_eq {P : Program} {ρ : Ren} {kt k ck d} (hu : P.underlying kt = some d) (hk : VR1 ρ k ck) : ∀ {es i r}, findA P kt k es i = some r → ∀ {xs : List MapEntry}, All2 (ER1 ρ) es xs → ∀ {q} w,
    Instr.findNow d ck xs i = some q → (Instr.findAsking kt ck xs i).run P w = .ok q w := by
  intro es
  induction es with
  | nil => intro i r h xs hx q w hq; cases hx; simp only [Instr.findNow, Option.some.injEq] at hq; subst hq; simp [Instr.findAsking]
  | cons e es ih =>
    intro i r h xs hx q w hq
    cases hx with
    | cons hh ht =>
      rename_i x xs
      simp only [findA] at h
      cases hsa : eqA P 50 kt k e.1 with
      | none => rw [hsa] at h; cases h
      | some b =>
        rw [hsa] at h
        have h1' : (Op.equal kt ck x.key).run P w = .ok b w := eqA_run 50 kt k e.1 b hsa ck x.key hk hh.1 10000 (by omega) w
        simp only [Instr.findNow] at hq
        cases hn : Instr.sameNow d ck x.key with
        | none => rw [hn] at hq; cases hq
        | some r' =>
          have := sameNow_eq hu hsa hk hh.1 hn
          subst this
          rw [hn] at hq
          cases r' with
          | true => cases hq; simp [Instr.findAsking, h1']
          | false => simp only at hq h; simpa [Instr.findAsking, h1'] using ih h ht w hq

theorem findKey_run {P : Program} {ρ : Ren} {kt k ck d} (hu : P.underlying kt = some d) (hk : VR1 ρ k ck) {es r} (h : findA P kt k es 0 = some r) {xs : List MapEntry} (hx : All2 (ER1 ρ) es xs) (w : World) :
    (Instr.findKey kt ck xs).run P w = (Instr.findAsking kt ck xs 0).run P w := by
  simp only [Instr.findKey, Sem.run_bind, run_underlying hu, Result.andThen_ok]
  cases hn : Instr.findNow d ck xs 0 with
  | none => rfl
  | some q => rw [findNow_eq hu hk h hx w hn]; simp

/-- A map's value at a key, all keys being comparable with it. -/
noncomputable abbrev mgetK (P : Program) (kt : TypeId) (k : V1) (es : List (V1 × V1 × Nat)) (K : Option V1 → Prop) : Prop := optK (findA P kt k es 0) fun r => K (r.map (·.2))

/-- What a cell's value is, of the type that z is of. -/
noncomputable abbrev take1K (z v : V1) (K : V1 → Prop) : Prop := match z with
  | .s z => (match v with | .s v => tkK z v fun v => K (.s v) | .agg _ => False)
  | .agg zs => (match v with | .s _ => False | .agg l => req (Nat.beq l.length zs.length) (takeK zs l fun vs => K (.agg vs)))
theorem take1K_some {z v K} (h : take1K z v K) : K v := by
  unfold take1K at h
  split at h
  · split at h
    · exact tkK_some h
    · exact h.elim
  · split at h
    · exact h.elim
    · obtain ⟨h1, h⟩ := req_and h
      obtain ⟨h2, h3⟩ := takeK_some h
      rw [← Nat.eq_of_beq_eq_true h1] at h2
      simpa using h2

theorem takeK_self : ∀ {zs l : List SV} {K K' : List SV → Prop}, takeK zs l K → K' (l.take zs.length) → takeK zs l K'
  | [], l, K, K', _, h' => by simpa using h'
  | z :: zs, l, K, K', h, h' => by
    obtain ⟨v, r, rfl, h3⟩ := uncK_some h
    have h4 := tkK_some h3
    have h5 := takeK_self (zs := zs) (l := r) (K := fun vs => K (v :: vs)) (K' := fun vs => K' (v :: vs)) h4 (by simpa using h')
    exact tkK_self (K' := fun v => takeK zs r fun vs => K' (v :: vs)) h3 h5
theorem take1K_self {z v K K'} (h : take1K z v K) (h' : K' v) : take1K z v K' := by
  unfold take1K at h ⊢
  cases z with
  | s z =>
    cases v with
    | s v => exact tkK_self h h'
    | agg l => exact h.elim
  | agg zs =>
    cases v with
    | s v => exact h.elim
    | agg l =>
      obtain ⟨h1, h2⟩ := req_and h
      dsimp only
      rw [h1]
      refine takeK_self h2 ?_
      rw [← Nat.eq_of_beq_eq_true h1, List.take_length]; exact h'
/-- What a dictionary holds at a key: all keys can be compared with it, one at most is the same. -/
noncomputable def dictA (P : Program) (kt : TypeId) (k : V1) : List (V1 × V1) → Option (Option V1)
  | [] => some none
  | e :: es => match eqA P 50 kt k e.1 with
    | some true => (match dictA P kt k es with | some none => some (some e.2) | _ => none)
    | some false => dictA P kt k es
    | none => none
theorem dictA_perm {P kt k} {es es' : List (V1 × V1)} (h : es.Perm es') : ∀ {r}, dictA P kt k es = some r → dictA P kt k es' = some r := by
  induction h with
  | nil => exact fun h => h
  | cons a _ ih =>
    intro r h
    simp only [dictA] at h ⊢
    cases he : eqA P 50 kt k a.1 with
    | none => rw [he] at h; cases h
    | some b =>
      rw [he] at h
      cases b with
      | true =>
        dsimp only at h ⊢
        split at h
        · rename_i hd; rw [ih hd]; exact h
        · cases h
      | false => exact ih h
  | swap a b l =>
    intro r h
    simp only [dictA] at h ⊢
    cases ha : eqA P 50 kt k a.1 <;> cases hb : eqA P 50 kt k b.1 <;> rw [ha, hb] at h <;> try (first | cases h; done | skip)
    · rename_i x; cases x <;> simp at h
    · rename_i x y
      cases x <;> cases y <;> dsimp only at h ⊢ <;> try exact h
      · cases hd : dictA P kt k l with
        | none => rw [hd] at h; cases h
        | some q => rw [hd] at h; cases q <;> simp at h
  | trans _ _ ih1 ih2 => exact fun h => ih2 (ih1 h)
theorem dictA_find {P kt k} : ∀ {es : List (V1 × V1 × Nat)} {i r}, dictA P kt k (es.map fun e => (e.1, e.2.1)) = some r → ∃ r', findA P kt k es i = some r' ∧ r'.map (·.2) = r
  | [], i, r, h => by cases h; exact ⟨none, rfl, rfl⟩
  | e :: es, i, r, h => by
    simp only [List.map_cons, dictA] at h
    simp only [findA]
    cases he : eqA P 50 kt k e.1 with
    | none => rw [he] at h; cases h
    | some b =>
      rw [he] at h
      cases b with
      | true =>
        dsimp only at h
        split at h
        · cases h; exact ⟨_, rfl, rfl⟩
        · cases h
      | false => exact dictA_find h
/-- A look into a map: what is there, or the zero; and whether it is there. -/
def St.lookup (P : Program) (S : St) (kt : TypeId) (z : V1) (m : MV) (k : V1) (K : V1 → Bool → Prop) : Prop := match m with
  | .nil => S.mp .nil fun es => mgetK P kt k es fun r => K (r.getD z) r.isSome
  | .mk b => match S.get b with
    | some (.dict es) => optK (dictA P kt k es) fun r => K (r.getD z) r.isSome
    | _ => S.mp (.mk b) fun es => mgetK P kt k es fun r => K (r.getD z) r.isSome
noncomputable abbrev okV (ok : Bool) (v : V1) (is : Bool) : AV := match ok with | true => .tup [v, .s (.bool is)] | false => .one v
noncomputable abbrev lookupK (P : Program) (S : St) (t : TypeId) (m : SV) (k : V1) (ok : Bool) (K : AV → Prop) : Prop :=
  match P.underlying t, m with
  | some (.map kt et), .map m => optK (zeroA P et) fun z => (match chkA P 50 kt k with
    | true => S.lookup P kt z m k fun v is => take1K z v fun v => K (okV ok v is)
    | false => False)
  | _, _ => False

theorem lookupK_run {P S t m k ok K} (h : lookupK P S t m k ok K) {ρ : Ren} {cm ck} (hm : SR ρ m cm) (hk : VR1 ρ k ck) (base : Nat) : Reads base P ρ S K (Instr.lookup t cm ck ok) := by
  unfold lookupK at h
  split at h
  · rename_i kt et m hu
    obtain ⟨z, hz, h⟩ := optK_some h
    split at h
    · rename_i hchk0
      have hchk := fun e w => chkA_run 50 kt k hchk0 ck hk 10000 e w (by omega)
      have hd : ∃ d, P.underlying kt = some d := by
        cases hd : P.underlying kt with
        | some d => exact ⟨d, rfl⟩
        | none => simp [chkA, hd] at hchk0
      obtain ⟨d, hd⟩ := hd
      unfold St.lookup at h
      have main : ∀ (K : AV → Prop) (es : List (V1 × V1 × Nat)) (hh : mgetK P kt k es fun r => take1K z (r.getD z) fun v => K (okV ok v r.isSome)),
          ∃ v, K v ∧ ∀ (xs : List MapEntry) w, All2 (ER1 ρ) es xs → ((do
          let (v, ok') ← match ← Instr.findKey kt ck xs with
            | some (_, v) => pure (v, true)
            | none => pure (← zeroValue et, false)
          pure (if ok then .tuple #[v, .bool ok'] else v) : Sem Value).run P w = (Instr.lookup t cm ck ok).run P w) → ∃ cv, VR ρ v cv ∧ (Instr.lookup t cm ck ok).run P w = .ok cv w := by
        intro K es hh
        obtain ⟨r, hf, hh⟩ := optK_some hh
        have hh := take1K_some hh
        cases r with
        | none =>
          refine ⟨_, hh, fun xs w hxs e => ?_⟩
          rw [← e]
          have g2 := findAsking_run hk hf hxs w
          obtain ⟨cv, g1, g3⟩ := zeroA_run hz ρ
          cases ok with
          | true => exact ⟨_, ⟨[cv, .bool false], rfl, .cons g1 (.cons rfl .nil)⟩, by simp [findKey_run hd hk hf hxs, g2, g3]⟩
          | false => exact ⟨_, g1, by simp [findKey_run hd hk hf hxs, g2, g3]⟩
        | some p =>
          obtain ⟨j, v'⟩ := p
          refine ⟨_, hh, fun xs w hxs e => ?_⟩
          rw [← e]
          obtain ⟨cv, x, g1, g2, _⟩ := findAsking_run hk hf hxs w
          cases ok with
          | true => exact ⟨_, ⟨[cv, .bool true], rfl, .cons g1 (.cons rfl .nil)⟩, by simp [findKey_run hd hk hf hxs, g2]⟩
          | false => exact ⟨_, g1, by simp [findKey_run hd hk hf hxs, g2]⟩
      split at h
      · cases hm
        unfold St.mp at h
        obtain ⟨v, h1, h2⟩ := main K [] h
        refine ⟨v, h1, fun next w hw => h2 [] w .nil ?_⟩
        simp only [Instr.lookup, underlying, Sem.run_bind, run_program, Result.andThen_ok, hu, Sem.run_pure, hchk]
        rfl
      · rename_i b
        split at h
        · rename_i es hb
          obtain ⟨r0, hr0, h⟩ := optK_some h
          have h1 := take1K_some h
          refine ⟨_, h1, fun next w hw => ?_⟩
          obtain ⟨r, sh, m, h3, rfl⟩ := hm
          obtain ⟨r', sh', m', h4, hO⟩ := hw.obj _ _ hb
          rw [h3] at h4; cases h4
          obtain ⟨xs, ckk, es', h5, h6, h7⟩ := hO.thawed
          have h5 := thaw_other h5 (fun _ _ _ e => by cases e)
          obtain ⟨r1, g1, g2⟩ := dictA_find (i := 0) (dictA_perm h7.symm hr0)
          have hh : mgetK P kt k es' fun r => take1K z (r.getD z) fun v => (fun x => x = okV ok (r0.getD z) r0.isSome) (okV ok v r.isSome) := by
            have hm1 : (take1K z (r0.getD z) fun v => okV ok v r0.isSome = okV ok (r0.getD z) r0.isSome) := take1K_self h rfl
            show optK (findA P kt k es' 0) _
            rw [g1]
            show (take1K z ((r1.map (·.2)).getD z) fun v => okV ok v (r1.map (·.2)).isSome = okV ok (r0.getD z) r0.isSome)
            rw [g2]
            exact hm1
          obtain ⟨v, hv, h2⟩ := main (fun x => x = okV ok (r0.getD z) r0.isSome) es' hh
          subst hv
          refine h2 xs w h6 ?_
          have hg : (getObj r).run P w = .ok (.map xs.toArray ckk) w := by simp [getObj, Sem.run, h5]
          simp only [Instr.lookup, underlying, Sem.run_bind, run_program, Result.andThen_ok, hu, Sem.run_pure, hchk, hg, List.toList_toArray]
          rfl
        unfold St.mp at h
        dsimp only at h
        split at h
        · rename_i es ckk hb
          obtain ⟨v, h1, h2⟩ := main K es h
          obtain ⟨r, sh, m, h3, rfl⟩ := hm
          refine ⟨v, h1, fun next w hw => ?_⟩
          obtain ⟨r', sh', m', h4, xs, h5, h6⟩ := hw.objM hb
          rw [h3] at h4; cases h4
          refine h2 xs w h6 ?_
          have hg : (getObj r).run P w = .ok (.map xs.toArray ckk) w := by simp [getObj, Sem.run, h5]
          simp only [Instr.lookup, underlying, Sem.run_bind, run_program, Result.andThen_ok, hu, Sem.run_pure, hchk, hg, List.toList_toArray]
          rfl
        · exact h.elim
    · exact h.elim
  · exact h.elim
end Go.Xe
