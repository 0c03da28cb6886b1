/- Executor, second make: the keys of a map, rising: a contract's form. -/
import Derived.Test.YtdnakjagbhhmmaaX24
import Derived.Shelf.SlIterI.Nil
set_option linter.unusedVariables false
set_option linter.unusedSimpArgs false
namespace Go.Xe
open Go.RowKit

/-- A block that a call has laid is taken up. -/
theorem Sim.adopt {base ρ w w'} {S : St} (h : Sim base ρ S.get S.next w) (hb : Below w.heap.size w w') {ao : AO} {r m : Nat} (hr : w.heap.size ≤ r) {o : Obj} (hro : w'.heap[r]? = some o) (ho : OR ρ ao 0 m (some o)) :
    Next base ρ S.get S.next w (S.add ao).get (S.add ao).next (upd ρ (.new S.next) (r, 0, m)) w' := by
  have hbn : ρ (.new S.next) = none := h.fresh _ (Nat.le_refl _)
  rw [S.add_get]
  generalize hbk : Bk.new S.next = b at hbn
  have hle : Le ρ (upd ρ b (r, 0, m)) := upd_le hbn
  have hlive : ∀ j ao', S.get j = some ao' → j ≠ b := by
    rintro j ao' hj rfl; obtain ⟨r, sh, m, h1, _⟩ := h.obj _ _ hj; rw [hbn] at h1; cases h1
  have hmem : ∀ j a x, S.get j = some a → upd ρ b (r, 0, m) j = some x → ρ j = some x ∧ x.1 < w.heap.size := by
    intro j a x hj hx
    have hne := hlive _ _ hj
    have hx' : ρ j = some x := by simpa [upd, hne] using hx
    exact ⟨hx', h.there hj hx'⟩
  have hlow : base ≤ r := Nat.le_trans h.size hr
  refine ⟨hle, ⟨?_, ?_, ?_, ?_, Nat.le_trans h.size hb.size⟩, ⟨hb.os, hb.tape, hb.output, hb.size, fun k hk => hb.block k (Nat.lt_of_lt_of_le hk h.size)⟩, fun k hk _ => hb.block k hk, ?_, ?_, Nat.le_succ _⟩
  · intro j ao' hj
    unfold gset at hj
    by_cases e : j = b
    · rw [if_pos e] at hj; cases hj; subst e
      exact ⟨r, 0, m, by simp [upd], by rw [hro]; exact ho.mono hle⟩
    · rw [if_neg e] at hj
      obtain ⟨r', sh, m', h1, h2⟩ := h.obj _ _ hj
      have hlt : r' < w.heap.size := h.there hj h1
      exact ⟨r', sh, m', hle _ _ h1, by rw [hb.block _ hlt]; exact h2.mono hle⟩
  · intro j j' a a' x x' hj hj' hx hx' he
    unfold gset at hj hj'
    by_cases e : j = b
    · by_cases e' : j' = b
      · rw [e, e']
      · rw [if_neg e'] at hj'
        obtain ⟨_, hlt⟩ := hmem _ _ _ hj' hx'
        subst e; simp [upd] at hx; subst hx; simp at he; omega
    · rw [if_neg e] at hj
      obtain ⟨h1, hlt⟩ := hmem _ _ _ hj hx
      by_cases e' : j' = b
      · subst e'; simp [upd] at hx'; subst hx'; simp at he; omega
      · rw [if_neg e'] at hj'
        obtain ⟨h1', _⟩ := hmem _ _ _ hj' hx'
        exact h.inj _ _ _ _ _ _ hj hj' h1 h1' he
  · intro j hj
    have : Bk.new j ≠ b := by rw [← hbk]; intro e; cases e; simp [St.add] at hj; omega
    simp only [upd, this, if_false]; exact h.fresh _ (by simp [St.add] at hj; omega)
  · intro j x hx
    by_cases e : Bk.new j = b
    · simp [upd, e] at hx; subst hx; exact hlow
    · simp only [upd, e, if_false] at hx; exact h.lows _ _ hx
  · rintro r' ⟨j, a, x, hj, hx, rfl⟩ hlt
    unfold gset at hj
    by_cases e : j = b
    · subst e; simp [upd] at hx; subst hx; simp at hlt; omega
    · rw [if_neg e] at hj; exact ⟨j, a, x, hj, (hmem _ _ _ hj hx).1, rfl⟩
  · intro n hn' h0
    have : Bk.new n ≠ b := by rw [← hbk]; intro e; cases e; omega
    simp only [upd, this, if_false]; exact h0

def ins (x : Int) : List Int → List Int
  | [] => [x]
  | y :: l => cond (ile x y) (x :: y :: l) (y :: ins x l)
def sortI : List Int → List Int
  | [] => []
  | x :: l => ins x (sortI l)
def keysL : List Ent → Option (List Int)
  | [] => some []
  | e :: l => match e.1 with
    | .s (.int k n) => (match decide (k = .i64) with
      | true => (match keysL l with | some r => some (n :: r) | none => none)
      | false => none)
    | _ => none
def notInI (x : Int) : List Int → Bool
  | [] => true
  | y :: l => !(ieq x y) && notInI x l
def nodupI : List Int → Bool
  | [] => true
  | x :: l => notInI x l && nodupI l
def nodupN : List Nat → Bool
  | [] => true
  | x :: l => !(memN x l) && nodupN l
def inRng (n : Int) : Bool := ile (-9223372036854775808) n && ile n 9223372036854775807
def mapOKB (es : List Ent) (clk : Nat) (ks : List Int) : Bool :=
  Nat.ble es.length 1000 && ((es.all fun e => Nat.blt e.2.2 clk) && (nodupN (es.map (·.2.2)) && (nodupI ks && ks.all inRng)))

theorem ins_perm (x : Int) : ∀ l, (ins x l).Perm (x :: l)
  | [] => .refl _
  | y :: l => by
    unfold ins
    cases ile x y
    · exact ((ins_perm x l).cons y).trans (.swap ..)
    · exact .refl _
theorem sortI_perm : ∀ l, (sortI l).Perm l
  | [] => .refl _
  | x :: l => (ins_perm x _).trans ((sortI_perm l).cons x)
theorem ins_sorted (x : Int) : ∀ l : List Int, l.Pairwise (· ≤ ·) → (ins x l).Pairwise (· ≤ ·)
  | [], _ => by simp [ins]
  | y :: l, h => by
    unfold ins
    rw [List.pairwise_cons] at h
    rw [show ile x y = decide (x ≤ y) from ile_eq x y]
    by_cases hxy : x ≤ y
    · simp only [hxy, decide_true, cond_true]
      exact List.pairwise_cons.2 ⟨fun z hz => by rcases List.mem_cons.1 hz with rfl | hz; exact hxy; exact Int.le_trans hxy (h.1 z hz), List.pairwise_cons.2 h⟩
    · simp only [hxy, decide_false, cond_false]
      refine List.pairwise_cons.2 ⟨fun z hz => ?_, ins_sorted x l h.2⟩
      rcases List.mem_cons.1 ((ins_perm x l).mem_iff.1 hz) with rfl | hz
      · omega
      · exact h.1 z hz
theorem sortI_sorted : ∀ l : List Int, (sortI l).Pairwise (· ≤ ·)
  | [] => .nil
  | x :: l => ins_sorted x _ (sortI_sorted l)
theorem sortI_merge {l m : List Int} (h : m.Perm l) : m.mergeSort (fun x y => decide (x ≤ y)) = sortI l := by
  refine List.Perm.eq_of_pairwise (le := fun a b => a ≤ b) (fun a b _ _ h1 h2 => Int.le_antisymm h1 h2) ?_ (sortI_sorted l) (((List.mergeSort_perm m _).trans h).trans (sortI_perm l).symm)
  have := List.pairwise_mergeSort (le := fun x y : Int => decide (x ≤ y)) (fun a b c h1 h2 => by simp only [decide_eq_true_eq] at *; exact Int.le_trans h1 h2) (fun a b => by simp only [Bool.or_eq_true, decide_eq_true_eq]; exact Int.le_total a b) m
  exact this.imp fun h => by simpa using h
theorem notInI_ok {x : Int} : ∀ {l}, notInI x l = true → x ∉ l
  | [], _ => by simp
  | y :: l, h => by
    simp only [notInI, Bool.and_eq_true, Bool.not_eq_true', ieq_eq, decide_eq_false_iff_not] at h
    simp only [List.mem_cons, not_or]
    exact ⟨by simpa using h.1, notInI_ok h.2⟩
theorem nodupI_ok : ∀ {l}, nodupI l = true → l.Nodup
  | [], _ => .nil
  | x :: l, h => by
    simp only [nodupI, Bool.and_eq_true] at h
    exact List.nodup_cons.2 ⟨notInI_ok h.1, nodupI_ok h.2⟩
theorem nodupN_ok : ∀ {l}, nodupN l = true → l.Nodup
  | [], _ => .nil
  | x :: l, h => by
    simp only [nodupN, Bool.and_eq_true, Bool.not_eq_true'] at h
    refine List.nodup_cons.2 ⟨fun hm => ?_, nodupN_ok h.2⟩
    rw [memN_iff.2 hm] at h; exact absurd h.1 (by decide)
theorem keysL_ok {ρ : Ren} : ∀ {es : List Ent} {ks : List Int}, keysL es = some ks → ∀ {xs : List MapEntry}, All2 (ER1 ρ) es xs → xs.map (·.key) = ks.map (Value.int .i64)
  | [], ks, h, _, .nil => by cases h; rfl
  | e :: l, ks, h, _, .cons (b := x) hx t => by
    unfold keysL at h
    split at h
    · rename_i k n he
      split at h
      · rename_i hk
        have hk := of_decide_eq_true hk
        subst hk
        split at h
        · rename_i r hr
          cases h
          simp only [List.map_cons, keysL_ok hr t]
          have := hx.1
          rw [he] at this
          rw [show x.key = Value.int .i64 n from this]
        · cases h
      · cases h
    · cases h
theorem stamps_ok {ρ : Ren} : ∀ {es : List Ent} {xs : List MapEntry}, All2 (ER1 ρ) es xs → xs.map (·.born) = es.map (·.2.2)
  | _, _, .nil => rfl
  | _, _, .cons hx t => by simp only [List.map_cons, stamps_ok t, hx.2.2]

noncomputable def risM (S : St) (K : AV → St → Prop) (b : Bk) : Prop := match S.get b with
  | some (.map es clk) => optK (keysL es) fun ks => req (mapOKB es clk ks) (match sortI ks with
    | [] => K (.one (.s (.sl .nil))) S
    | x :: l => K (.one (.s (.sl (.mk (.new S.next) 0 (x :: l).length (.inr 1))))) (S.add (.cells ((x :: l).map fun n => .int .i64 n) true)))
  | _ => False
/-- What 'slices.Sorted(maps.Keys(m))' comes to. -/
noncomputable def risK (args : List AV) (S : St) (K : AV → St → Prop) : Prop :=
  uncA args fun v r => endL r (scK v fun s => SV.cM s fun m => MV.rec (motive := fun _ => Prop) (K (.one (.s (.sl .nil))) S) (fun b => risM S K b) m)

open Go.WideShapes Go.Maps Go.ChangeMaps Go.MapKept Go.ChangeShapes in
theorem risK_ok {P : Program} {G f} {kt : TypeId} (hent : Enters P f) (hkt : P.underlying kt = some (.int .i64))
    (hc : ∀ (b nn : Nat) (D0 : DataW Unit) (R : Value → Option (DataW Unit × List MemPlace)) (w : World), w.ownsMap P kt R b nn D0 → Maps.size D0 ≤ maxLen → Maps.size D0 * 8 ≤ 140737488355328 →
      Calls P f #[.map (some b)] w fun e w' => ∃ (v : Value) (ss : List Int), e = .returned v ∧ ss.Perm (Go.intKeys D0) ∧
      w'.ownsRow w.heap.size kt 1 v ss.length ((ss.mergeSort (fun x y => decide (x ≤ y))).map (Value.int .i64)) ∧ (v = .slice none 0 0 ↔ ss = []) ∧ Below w.heap.size w w')
    (hnil : ∀ w : World, Calls P f #[.map none] w fun e w' => e = .returned (.slice none 0 0) ∧ Below w.heap.size w w')
    {args : List AV} {S : St} {K : AV → St → Prop} (h : risK args S K) : CallOK P G f args S K := by
  unfold risK at h
  obtain ⟨v, r, rfl, h⟩ := uncA_some h
  obtain ⟨rfl, h⟩ := endL_some h
  obtain ⟨s, rfl, h⟩ := scK_some h
  obtain ⟨m, rfl, h⟩ := cM_some h
  refine ⟨hent, fun base ρ w vs hw hG hvs => ?_⟩
  cases hvs with
  | cons hv t =>
  cases t
  rename_i cv
  cases m with
  | nil =>
    obtain rfl : cv = .map none := hv
    refine (hnil w).mono ?_
    rintro e w' ⟨rfl, hb⟩
    exact ⟨_, S, _, ρ, h, rfl, rfl, Next.beyond hw hb⟩
  | mk b =>
    obtain ⟨r, sh, m, hρ, rfl⟩ := hv
    have h : risM S K b := h
    unfold risM at h
    split at h
    case h_2 => exact h.elim
    rename_i es clk hg
    obtain ⟨ks, hks, h⟩ := optK_some h
    obtain ⟨hok, h⟩ := req_and h
    obtain ⟨r', sh', m', h1, xs, hobj, hes⟩ := hw.obj _ _ hg
    rw [hρ] at h1; cases h1
    simp only [mapOKB, Bool.and_eq_true] at hok
    obtain ⟨o1, o2, o3, o4, o5⟩ := hok
    have hlen := hes.length
    have hkeys := keysL_ok hks hes
    have hst := stamps_ok hes
    have o1' := Nat.le_of_ble_eq_true o1
    have hkl : ks.length = xs.length := by have := congrArg List.length hkeys; simpa using this.symm
    have hnd := nodupI_ok o4
    let R : Value → Option (DataW Unit × List MemPlace) := fun _ => some (.nil, [])
    have hwf : ∀ n ∈ ks, (Lit.int .i64 n).wf = true := fun n hn => by
      have := List.all_eq_true.1 o5 n hn
      simp only [inRng, Bool.and_eq_true, ile_eq, decide_eq_true_eq] at this
      simp [Lit.wf, IntKind.min, IntKind.max, IntKind.signed, IntKind.bits, this.1, this.2]
    have hrd : ∀ x ∈ xs, ∃ n ∈ ks, x.key = .int .i64 n ∧ Go.WideElems.rd P kt R x = some (.int .i64 n, .nil) := by
      intro x hx
      have : x.key ∈ xs.map (·.key) := List.mem_map_of_mem hx
      rw [hkeys] at this
      obtain ⟨n, hn, e⟩ := List.mem_map.1 this
      refine ⟨n, hn, e.symm, ?_⟩
      simp [Go.WideElems.rd, ← e, keyOf_int_mk hkt (hwf n hn), R]
    have hown : w.ownsMap P kt R r xs.length (.map ((xs.map (Go.WideElems.rg P kt R)).foldr DataW.insert [])) := by
      refine ⟨xs.toArray, clk, hobj, ⟨by simp; unfold maxLen; omega, ⟨?_, ?_, ?_⟩, ?_⟩, by simp, by simp⟩
      · intro x hx
        have hx' : x.born ∈ xs.map (·.born) := List.mem_map_of_mem (by simpa using hx)
        rw [hst] at hx'
        obtain ⟨e, he, e2⟩ := List.mem_map.1 hx'
        have := List.all_eq_true.1 o2 e he
        rw [← e2]; exact blt_iff.1 this
      · simp only [List.toList_toArray]
        rw [hst]; exact nodupN_ok o3
      · simp only [List.toList_toArray]
        rw [hkeys]
        exact List.pairwise_map.2 (hnd.imp fun hne e => hne (by cases e; rfl))
      · intro x hx
        obtain ⟨n, _, _, e⟩ := hrd x (by simpa using hx)
        exact ⟨_, e⟩
    have hsz : Maps.size (.map ((xs.map (Go.WideElems.rg P kt R)).foldr DataW.insert []) : DataW Unit) = xs.length := by
      rw [Maps.size_eq]
      have := (sorted_perm (xs.map (Go.WideElems.rg P kt R))).length_eq
      simpa using this
    have hperm : (Go.intKeys (.map ((xs.map (Go.WideElems.rg P kt R)).foldr DataW.insert []) : DataW Unit)).Perm ks := by
      show (((xs.map (Go.WideElems.rg P kt R)).foldr DataW.insert []).map fun p => Go.intOf p.1).Perm ks
      refine ((sorted_perm _).map _).trans ?_
      rw [List.map_map]
      have : xs.map ((fun p : Lit × DataW Unit => Go.intOf p.1) ∘ Go.WideElems.rg P kt R) = xs.map fun x => (match x.key with | .int _ n => n | _ => 0) := by
        refine List.map_congr_left fun x hx => ?_
        obtain ⟨n, _, e1, e2⟩ := hrd x hx
        simp [Go.WideElems.rg, e2, e1, Go.intOf]
      rw [this]
      have e3 : xs.map (fun x => (match x.key with | .int _ n => n | _ => 0)) = (xs.map (·.key)).map fun v : Value => (match v with | .int _ n => n | _ => 0) := by rw [List.map_map]; rfl
      rw [e3, hkeys, List.map_map]
      have e4 : ((fun v : Value => (match v with | .int _ n => n | _ => 0)) ∘ Value.int .i64) = (id : Int → Int) := rfl
      rw [e4, List.map_id]
    refine (hc r xs.length _ R w hown (by rw [hsz]; unfold maxLen; omega) (by rw [hsz]; omega)).mono ?_
    rintro e w' ⟨v, ss, rfl, hss, hrow, hnl, hbel⟩
    have hsort := sortI_merge (hss.trans hperm)
    rw [hsort] at hrow
    have hsl : (sortI ks).length = ss.length := by rw [(sortI_perm ks).length_eq, ← (hss.trans hperm).length_eq]
    split at h
    · rename_i hs
      rw [hs] at hsl
      have : ss = [] := List.eq_nil_of_length_eq_zero (by simpa using hsl.symm)
      rw [hnl.2 this]
      exact ⟨_, S, _, ρ, h, rfl, rfl, Next.beyond hw hbel⟩
    · rename_i x l hs
      rw [hs] at hsl hrow
      rcases hrow.2 with ⟨_, hz⟩ | ⟨g, cap, cur, rfl, hbase, hgb, r1, r2, r3, r4⟩
      · rw [hz] at hsl; simp at hsl
      · simp only [Nat.mul_one] at r3 r4
        have hc1 : cur.toList = ((x :: l).map (Value.int .i64)) ++ cur.toList.drop ss.length := by rw [← r4, List.take_append_drop]
        have hor : OR ρ (.cells ((x :: l).map fun n => .int .i64 n) true) 0 cap (some (.cells cur kt (0, 0))) := by
          refine ⟨[], (x :: l).map (Value.int .i64), cur.toList.drop ss.length, kt, ?_, rfl, ?_, ?_, by simp⟩
          · rw [List.nil_append, ← hc1]
          · have : ∀ l : List Int, All2 (SR ρ) (l.map fun n => .int .i64 n) (l.map (Value.int .i64)) := fun l => by
              induction l with
              | nil => exact .nil
              | cons a l ih => exact .cons rfl ih
            exact this _
          · simp only [List.length_map, List.length_drop]
            have : cur.toList.length = cap := by simpa using r3
            rw [this, hsl]; omega
        have hn := hw.adopt hbel hbase hgb hor
        refine ⟨_, _, _, _, h, rfl, ?_, hn⟩
        refine ⟨g, 0, cap, cap, 0, by simp [upd], by rw [hsl], fun _ => rfl, by rw [hsl]; exact r1, by simp, by rintro e' he; cases he; omega⟩
end Go.Xe
