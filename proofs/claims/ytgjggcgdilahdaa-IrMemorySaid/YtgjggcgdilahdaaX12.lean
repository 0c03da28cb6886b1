/- Executor, second make: maps that are written, steps over maps. -/
import Derived.Test.YtgjggcgdilahdaaX11
set_option linter.unusedVariables false
set_option linter.unusedSimpArgs false
set_option linter.constructorNameAsVariable false
set_option linter.unusedVariables false
set_option linter.unusedSimpArgs false
namespace Go.Xe
open Go.RowKit

/-- The same bits: of numbers, texts, truths, and rows of them. -/
def sameB1 : SV → SV → Bool
  | .int j a, .int k b => decide (j = k) && ieq a b
  | .str a, .str b => leq a b
  | .bool a, .bool b => a == b
  | _, _ => false
def sameBL : List SV → List SV → Bool
  | [], [] => true
  | a :: l, b :: m => sameB1 a b && sameBL l m
  | _, _ => false
def sameB : V1 → V1 → Bool
  | .s a, .s b => sameB1 a b
  | .agg l, .agg m => sameBL l m
  | _, _ => false
theorem sameBits_int (n : Nat) (j k : IntKind) (a b : Int) : Instr.sameBits n (.int j a) (.int k b) = (j == k && a == b) := by cases n <;> simp [Instr.sameBits]
theorem sameBits_str (n : Nat) (a b : ByteArray) : Instr.sameBits n (.string a) (.string b) = (a == b) := by cases n <;> simp [Instr.sameBits]
theorem sameBits_bool (n : Nat) (a b : Bool) : Instr.sameBits n (.bool a) (.bool b) = (a == b) := by cases n <;> simp [Instr.sameBits]
theorem sameB1_run {ρ : Ren} {a b : SV} {x y : Value} (h : sameB1 a b = true) (hx : SR ρ a x) (hy : SR ρ b y) (n : Nat) : Instr.sameBits n x y = true := by
  unfold sameB1 at h
  split at h
  · cases hx; cases hy
    simp only [Bool.and_eq_true, decide_eq_true_eq, ieq_eq] at h
    rw [sameBits_int, h.1]
    simpa using h.2
  · obtain ⟨s, rfl, hs⟩ := hx; obtain ⟨u, rfl, hu⟩ := hy
    rw [sameBits_str, beq_toListBytes, strOf_eq hs hu, h]
  · cases hx; cases hy; rw [sameBits_bool, h]
  · cases h
theorem sameBL_run {ρ : Ren} (n : Nat) : ∀ {l m : List SV} {xs ys : List Value}, sameBL l m = true → All2 (SR ρ) l xs → All2 (SR ρ) m ys → xs.length = ys.length ∧ ((xs.zip ys).all fun (p : Value × Value) => Instr.sameBits n p.1 p.2) = true
  | [], [], _, _, _, .nil, .nil => by simp
  | a :: l, b :: m, _, _, h, .cons h1 t1, .cons h2 t2 => by
    simp only [sameBL, Bool.and_eq_true] at h
    obtain ⟨g1, g2⟩ := sameBL_run n h.2 t1 t2
    refine ⟨by simp [g1], ?_⟩
    simp only [List.zip_cons_cons, List.all_cons, Bool.and_eq_true]
    exact ⟨sameB1_run h.1 h1 h2 n, g2⟩
  | [], _ :: _, _, _, h, _, _ => by simp [sameBL] at h
  | _ :: _, [], _, _, h, _, _ => by simp [sameBL] at h
theorem sameB_run {ρ : Ren} {a b : V1} {x y : Value} (h : sameB a b = true) (hx : VR1 ρ a x) (hy : VR1 ρ b y) (n : Nat) : Instr.sameBits (n + 1) x y = true := by
  unfold sameB at h
  split at h
  · exact sameB1_run h hx hy _
  · obtain ⟨xs, rfl, h1⟩ := hx
    obtain ⟨ys, rfl, h2⟩ := hy
    obtain ⟨g1, g2⟩ := sameBL_run n h h1 h2
    simp only [Instr.sameBits, List.size_toArray, g1, beq_self_eq_true, Bool.true_and]
    exact g2
  · cases h

abbrev Ent := V1 × V1 × Nat
def keyAt (es : List Ent) (j : Nat) (k : V1) : Bool := match es[j]? with | some e => sameB e.1 k | none => false
/-- A map's entry is written. -/
def St.mput (P : Program) (S : St) (kt : TypeId) (m : MV) (k x : V1) (K : St → Prop) : Prop := match m with
  | .mk (.new b) => match S.H.get b with
    | some (.map es clk) => optK (findA P kt k es 0) fun r => match r with
      | some (j, _) => req (keyAt es j k) (K (S.put b (some (.map (es.set j (k, x, (es.getD j (k, x, 0)).2.2)) clk))))
      | none => K (S.put b (some (.map (es ++ [(k, x, clk)]) (clk + 1))))
    | _ => False
  | _ => False
noncomputable abbrev mputK (P : Program) (S : St) (t : TypeId) (m : SV) (k x : V1) (K : AV → St → Prop) : Prop :=
  match P.underlying t, m with
  | some (.map kt _), .map m => (match chkA P 50 kt k with
    | true => S.mput P kt m k x fun S' => K (.tup []) S'
    | false => False)
  | _, _ => False

theorem All2.set {α β : Type} {R : α → β → Prop} : ∀ {l : List α} {m : List β}, All2 R l m → ∀ (i : Nat) {a b}, R a b → All2 R (l.set i a) (m.set i b)
  | _, _, .nil, _, _, _, _ => .nil
  | _, _, .cons _ t, 0, _, _, h => .cons h t
  | _, _, .cons h t, i + 1, _, _, h' => .cons h (t.set i h')
theorem All2.eraseIdx {α β : Type} {R : α → β → Prop} : ∀ {l : List α} {m : List β}, All2 R l m → ∀ (i : Nat), All2 R (l.eraseIdx i) (m.eraseIdx i)
  | _, _, .nil, _ => .nil
  | _, _, .cons _ t, 0 => t
  | _, _, .cons h t, i + 1 => .cons h (t.eraseIdx i)

theorem mputK_run {P S t m k x K} (h : mputK P S t m k x K) {ρ : Ren} {cm ck cx} (hm : SR ρ m cm) (hk : VR1 ρ k ck) (hx : VR1 ρ x cx) {base w} (hw : Sim base ρ S.get S.next w) :
    ∃ S' w', K (.tup []) S' ∧ (Instr.mapUpdate t cm ck cx).run P w = .ok () w' ∧ Next base ρ S.get S.next w S'.get S'.next ρ w' := by
  unfold mputK at h
  split at h
  · rename_i kt et m hu
    split at h
    · rename_i hchk0
      have hchk := fun e w => chkA_run 50 kt k hchk0 ck hk 10000 e w (by omega)
      have hd : ∃ d, P.underlying kt = some d := by
        cases hd : P.underlying kt with
        | some d => exact ⟨d, rfl⟩
        | none => simp [chkA, hd] at hchk0
      obtain ⟨d, hd⟩ := hd
      unfold St.mput at h
      split at h
      · rename_i b
        split at h
        · rename_i es clk hb
          obtain ⟨r, hf, h⟩ := optK_some h
          obtain ⟨rr, sh, mm, h1, rfl⟩ := hm
          obtain ⟨r', sh', m', h2, xs, h3, h4⟩ := hw.objM (b := .new b) hb
          rw [h1] at h2; cases h2
          have hrs : rr < w.heap.size := hw.there (b := .new b) hb h1
          have hset : ∀ (o : Obj) k, k ≠ rr → (w.heap.setIfInBounds rr o)[k]? = w.heap[k]? := fun o k hk => Array.getElem?_setIfInBounds_ne (Ne.symm hk)
          have hself : ∀ (o : Obj), (w.heap.setIfInBounds rr o)[rr]? = some o := fun o => by simp [hrs]
          have hfk := findKey_run hd hk hf h4 w
          cases r with
          | some p =>
            obtain ⟨j, v'⟩ := p
            dsimp only at h
            obtain ⟨hka, h⟩ := req_and h
            obtain ⟨cv, y, g1, g2, _, g4, g5, e, g6, g7, g8⟩ := findAsking_run hk hf h4 w
            simp only [Nat.sub_zero] at g4 g6
            have hjl : j < xs.length := (List.getElem?_eq_some_iff.1 g4).1
            have hsb : Instr.sameBits 10000 y.key ck = true := by
              unfold keyAt at hka
              rw [g6] at hka
              exact sameB_run hka g7.1 hk 9999
            refine ⟨_, { w with heap := w.heap.setIfInBounds rr (.map (xs.toArray.modify j fun e => { e with key := ck, val := cx }) clk) }, h, ?_,
              hw.put (b := b) hb h1 (by simp) (hset _) ⟨rfl, rfl, rfl⟩ ⟨xs.set j { y with key := ck, val := cx }, ?_, h4.set j ⟨hk, hx, ?_⟩⟩⟩
            · simp [Instr.mapUpdate, underlying, hu, getObj, Sem.run, h3, hchk, hfk, g2, g4, Instr.keyThatStays, hsb, setObj]
            · show (w.heap.setIfInBounds rr _)[rr]? = _
              rw [hself]
              congr 2
              apply Array.ext'
              rw [Array.toList_modify]
              simp only [List.toList_toArray]
              rw [List.modify_eq_take_cons_drop hjl, List.set_eq_take_append_cons_drop, if_pos hjl]
              rw [List.getElem?_eq_getElem hjl] at g4
              rw [Option.some.inj g4]
            · show y.born = _
              rw [g7.2.2, List.getD_eq_getElem?_getD, g6]; rfl
          | none =>
            dsimp only at h
            have g2 := findAsking_run hk hf h4 w
            refine ⟨_, { w with heap := w.heap.setIfInBounds rr (.map (xs.toArray.push { key := ck, val := cx, born := clk }) (clk + 1)) }, h, ?_,
              hw.put (b := b) hb h1 (by simp) (hset _) ⟨rfl, rfl, rfl⟩ ⟨xs ++ [{ key := ck, val := cx, born := clk }], ?_, h4.append (.cons ⟨hk, hx, rfl⟩ .nil)⟩⟩
            · simp [Instr.mapUpdate, underlying, hu, getObj, Sem.run, h3, hchk, hfk, g2, setObj]
            · show (w.heap.setIfInBounds rr _)[rr]? = _
              rw [hself]; simp
        · exact h.elim
      · exact h.elim
    · exact h.elim
  · exact h.elim

/-- A map's entry is struck. -/
def St.mdel (P : Program) (S : St) (kt : TypeId) (m : MV) (k : V1) (K : St → Prop) : Prop := match m with
  | .nil => K S
  | .mk (.new b) => (match S.H.get b with
    | some (.map es clk) => optK (findA P kt k es 0) fun r => K (S.put b (some (.map (match r with | some (j, _) => es.eraseIdx j | none => es) clk)))
    | _ => False)
  | _ => False
noncomputable abbrev mdelK (P : Program) (S : St) (t : TypeId) (m : SV) (k : V1) (K : AV → St → Prop) : Prop :=
  match P.underlying t, m with
  | some (.map kt _), .map m => (match chkA P 50 kt k with
    | true => S.mdel P kt m k fun S' => K (.tup []) S'
    | false => False)
  | _, _ => False
theorem mdelK_run {P S t m k K} (h : mdelK P S t m k K) {ρ : Ren} {cm ck} (hm : SR ρ m cm) (hk : VR1 ρ k ck) {base w} (hw : Sim base ρ S.get S.next w) (xt ty : TypeId) :
    Turn base P ρ S w K (Builtin.delete_ #[t, xt] ty #[cm, ck]) := by
  unfold mdelK at h
  split at h
  · rename_i kt et m hu
    split at h
    · rename_i hchk0
      have hchk := fun e w => chkA_run 50 kt k hchk0 ck hk 10000 e w (by omega)
      have hd : ∃ d, P.underlying kt = some d := by
        cases hd : P.underlying kt with
        | some d => exact ⟨d, rfl⟩
        | none => simp [chkA, hd] at hchk0
      obtain ⟨d, hd⟩ := hd
      unfold St.mdel at h
      split at h
      · cases hm
        exact ⟨_, _, .tuple #[], ρ, w, h, by simp [Builtin.delete_, run_underlying hu, hchk], ⟨[], rfl, .nil⟩, .refl hw⟩
      · rename_i b
        split at h
        · rename_i es clk hb
          obtain ⟨r, hf, h⟩ := optK_some h
          obtain ⟨rr, sh, mm, h1, rfl⟩ := hm
          obtain ⟨r', sh', m', h2, xs, h3, h4⟩ := hw.objM (b := .new b) hb
          rw [h1] at h2; cases h2
          have hrs : rr < w.heap.size := hw.there (b := .new b) hb h1
          have hset : ∀ (o : Obj) k, k ≠ rr → (w.heap.setIfInBounds rr o)[k]? = w.heap[k]? := fun o k hk => Array.getElem?_setIfInBounds_ne (Ne.symm hk)
          have hself : ∀ (o : Obj), (w.heap.setIfInBounds rr o)[rr]? = some o := fun o => by simp [hrs]
          have hfk := findKey_run hd hk hf h4 w
          cases r with
          | some p =>
            obtain ⟨j, v'⟩ := p
            dsimp only at h
            obtain ⟨cv, y, g1, g2, _, g4, _⟩ := findAsking_run hk hf h4 w
            refine ⟨_, _, .tuple #[], ρ, { w with heap := w.heap.setIfInBounds rr (.map (xs.toArray.eraseIdxIfInBounds j) clk) }, h, ?_, ⟨[], rfl, .nil⟩,
              hw.put (b := b) hb h1 (by simp) (hset _) ⟨rfl, rfl, rfl⟩ ⟨xs.eraseIdx j, ?_, h4.eraseIdx j⟩⟩
            · simp [Builtin.delete_, run_underlying hu, getObj, Sem.run, h3, hchk, hfk, g2, setObj]
            · show (w.heap.setIfInBounds rr _)[rr]? = _
              rw [hself]
              congr 2
              apply Array.ext'
              simp
          | none =>
            dsimp only at h
            have g2 := findAsking_run hk hf h4 w
            refine ⟨_, _, .tuple #[], ρ, { w with heap := w.heap.setIfInBounds rr (.map xs.toArray clk) }, h, ?_, ⟨[], rfl, .nil⟩,
              hw.put (b := b) hb h1 (by simp) (hset _) ⟨rfl, rfl, rfl⟩ ⟨xs, ?_, h4⟩⟩
            · simp [Builtin.delete_, run_underlying hu, getObj, Sem.run, h3, hchk, hfk, g2, setObj]
            · show (w.heap.setIfInBounds rr _)[rr]? = _
              rw [hself]
        · exact h.elim
      · exact h.elim
    · exact h.elim
  · exact h.elim

/- Steps over a map. -/
def St.rng (S : St) (m : MV) (K : Bk → St → Prop) : Prop := match m with
  | .nil => K (.new S.next) (S.add (.iter .nil 0 [] 0))
  | .mk b => match S.get b with
    | some (.map _ clk) => K (.new S.next) (S.add (.iter (.mk b) clk [] clk))
    | _ => False
noncomputable abbrev rangeK (P : Program) (S : St) (t : TypeId) (x : SV) (K : AV → St → Prop) : Prop :=
  match P.underlying t, x with
  | some (.map _ _), .map m => S.rng m fun b S' => K (.one (.s (.ptr (.mk b 0)))) S'
  | _, _ => False
theorem rangeK_run {P S t x K} (h : rangeK P S t x K) {ρ : Ren} {cx} (hx : SR ρ x cx) {base w} (hw : Sim base ρ S.get S.next w) : Turn base P ρ S w K (Instr.range t cx) := by
  unfold rangeK at h
  split at h
  · rename_i kt et m hu
    unfold St.rng at h
    split at h
    · cases hx
      refine Makes.turn (v := fun b => .ptr (.mk b 0)) ?_ hw h
      intro g next w hw
      exact ⟨.pointer (some ⟨w.heap.size, 0, none⟩), .mapIter none 0 #[] 0, 0, by simp [Instr.range, run_underlying hu, newObj, Sem.run], ⟨none, rfl, rfl, rfl⟩, fun b ρ' hl hb => ⟨_, _, _, hb, rfl⟩⟩
    · rename_i b
      split at h
      · rename_i es clk hb
        obtain ⟨r, sh, m, h1, rfl⟩ := hx
        obtain ⟨r', sh', m', h2, xs, h3, h4⟩ := hw.objM hb
        rw [h1] at h2; cases h2
        have hor : OR ρ (.iter (.mk b) clk [] clk) 0 0 (some (.mapIter (some r) clk #[] clk)) := ⟨some r, rfl, ⟨r, sh, m, h1, rfl⟩, rfl⟩
        obtain ⟨ρ', h5, h6⟩ := hw.new hor
        refine ⟨_, _, .pointer (some ⟨w.heap.size, 0, none⟩), ρ', _, h, ?_, ⟨_, _, _, h5, rfl⟩, h6⟩
        simp [Instr.range, run_underlying hu, newObj, getObj, Sem.run, h3]
      · exact h.elim
  · exact h.elim

noncomputable abbrev allK {α : Type} (l : List α) (K : α → Prop) : Prop := List.rec (motive := fun _ => Prop) True (fun a _ ih => K a ∧ ih) l
theorem allK_mem {α : Type} {K : α → Prop} : ∀ {l : List α}, allK l K → ∀ a ∈ l, K a
  | b :: l, h, a, ha => by
    rcases List.mem_cons.1 ha with rfl | ha
    · exact h.1
    · exact allK_mem (l := l) h.2 a ha
/-- Those entries that have not been stepped to. -/
def leftOf (es : List Ent) (seen : List Nat) : List Ent := es.filter fun e => !seen.contains e.2.2
/-- A step: to any of those that are left, if there is one. -/
def St.nxt (S : St) (it : Bk) (done : Prop) (K : Ent → St → Prop) : Prop := match it with
  | .inp _ => False
  | .new k => match S.H.get k with
    | some (.iter .nil _ _ _) => done
    | some (.iter (.mk b) since seen last) => (match S.get b with
      | some (.map es clk) => req (es.all fun e => Nat.blt e.2.2 since && Nat.blt e.2.2 last) (match leftOf es seen with
        | [] => done
        | e :: l => allK (e :: l) fun e => K e (S.put k (some (.iter (.mk b) since (seen ++ [e.2.2]) clk))))
      | _ => False)
    | _ => False
noncomputable abbrev tupTy (P : Program) (t : TypeId) : Option (TypeId × TypeId) := match P.underlying t with
  | some (.tuple ts) => (match ts.toList with | [_, k, v] => some (k, v) | _ => none)
  | _ => none
noncomputable abbrev nextK (P : Program) (S : St) (ty : TypeId) (it : SV) (K : AV → St → Prop) : Prop :=
  match it with
  | .ptr p => PV.cs p fun b o => req (Nat.beq o 0) (optK (tupTy P ty) fun kv => optK (zeroA P kv.1) fun zk => optK (zeroA P kv.2) fun zv =>
      S.nxt b (K (.tup [.s (.bool false)]) S) fun e S' => take1K zk e.1 fun k => take1K zv e.2.1 fun v => K (.tup [.s (.bool true), k, v]) S')
  | _ => False

theorem filter_rel {ρ : Ren} {f : Ent → Bool} {g : MapEntry → Bool} (hfg : ∀ e x, ER1 ρ e x → f e = g x) : ∀ {es : List Ent} {xs : List MapEntry}, All2 (ER1 ρ) es xs → All2 (ER1 ρ) (es.filter f) (xs.filter g)
  | _, _, .nil => .nil
  | e :: es, x :: xs, .cons h t => by
    have := hfg e x h
    cases hb : f e with
    | true => rw [List.filter_cons_of_pos hb, List.filter_cons_of_pos (by rw [← this]; exact hb)]; exact .cons h (filter_rel hfg t)
    | false => rw [List.filter_cons_of_neg (by simp [hb]), List.filter_cons_of_neg (by rw [← this]; simp [hb])]; exact filter_rel hfg t

theorem nextK_run {P S ty it K} (h : nextK P S ty it K) {ρ : Ren} {ci} (hi : SR ρ it ci) {base w} (hw : Sim base ρ S.get S.next w) : Turn base P ρ S w K (Instr.next ci false ty) := by
  unfold nextK at h
  split at h
  · obtain ⟨b, o, rfl, hq⟩ := PV.cs_mk h
    clear h
    obtain ⟨ho, h⟩ := req_and hq
    obtain rfl := Nat.eq_of_beq_eq_true ho
    obtain ⟨kv, _, h⟩ := optK_some h
    obtain ⟨zk, _, h⟩ := optK_some h
    obtain ⟨zv, _, h⟩ := optK_some h
    obtain ⟨r, sh, m, h1, rfl⟩ := hi
    unfold St.nxt at h
    cases b with
    | inp _ => exact h.elim
    | new k =>
      dsimp only at h
      split at h
      · rename_i since seen last hb
        obtain ⟨r', sh', m', h2, mm, h3, h4, h5⟩ := hw.obj (.new k) _ hb
        rw [h1] at h2; cases h2
        subst h5
        cases h4
        exact ⟨_, _, .tuple #[.bool false], ρ, w, h, by simp [Instr.next, getObj, Sem.run, h3], ⟨[.bool false], rfl, .cons rfl .nil⟩, .refl hw⟩
      · rename_i b since seen last hb
        split at h
        · rename_i es clk hg
          obtain ⟨hall, h⟩ := req_and h
          obtain ⟨r', sh', m', h2, mm, h3, ⟨rm, shm, mmm, h4, rfl⟩, h5⟩ := hw.obj (.new k) _ hb
          rw [h1] at h2; cases h2
          subst h5
          obtain ⟨r'', sh'', m'', h6, xs, h7, h8⟩ := hw.objM hg
          rw [h4] at h6; cases h6
          have hgm : (getObj rm).run P w = .ok (.map xs.toArray clk) w := by simp [getObj, Sem.run, h7]
          have hgi : (getObj r).run P w = .ok (.mapIter (some rm) since seen.toArray last) w := by simp [getObj, Sem.run, h3]
          have hborn : ∀ x ∈ xs, x.born < since ∧ x.born < last := by
            intro x hx
            obtain ⟨i, hi⟩ := List.getElem?_of_mem hx
            obtain ⟨e, he, her⟩ := h8.get_r hi
            have := List.all_eq_true.1 hall e (List.mem_of_getElem? he)
            simp only [Bool.and_eq_true, blt_iff] at this
            rw [her.2.2]; exact this
          have hbad : (!seen.toArray.isEmpty && !xs.toArray.isEmpty && xs.toArray.all (fun e => e.born ≥ last)) = false := by
            cases xs with
            | nil => simp
            | cons x xs =>
              have := (hborn x (by simp)).2
              simp
              intro _ hh
              omega
          have hleft : (xs.toArray.filter fun e => !seen.toArray.contains e.born) = (xs.filter fun e => !seen.contains e.born).toArray := by simp
          have hrel : All2 (ER1 ρ) (leftOf es seen) (xs.filter fun e => !seen.contains e.born) := filter_rel (fun e x her => by rw [her.2.2]) h8
          have hold : ((xs.filter fun e => !seen.contains e.born).toArray.filter fun e => decide (e.born < since)) = (xs.filter fun e => !seen.contains e.born).toArray := by
            rw [List.filter_toArray]; congr 1; rw [List.filter_eq_self]; intro x hx; simpa using (hborn x ((List.mem_filter.1 hx).1)).1
          have hnew : ((xs.filter fun e => !seen.contains e.born).toArray.filter fun e => decide (e.born ≥ since)) = #[] := by
            rw [List.filter_toArray]; congr 1; rw [List.filter_eq_nil_iff]; intro x hx; have := (hborn x ((List.mem_filter.1 hx).1)).1; simp; omega
          generalize hL : (xs.filter fun e => !seen.contains e.born) = L at hleft hrel hold hnew
          generalize hE : leftOf es seen = E at hrel h
          cases E with
          | nil =>
            cases hrel
            dsimp only at h
            refine ⟨_, _, .tuple #[.bool false], ρ, w, h, ?_, ⟨[.bool false], rfl, .cons rfl .nil⟩, .refl hw⟩
            simp only [Instr.next, Sem.run_bind, hgi, hgm, Result.andThen_ok, hbad, Bool.false_eq_true, if_false, hleft, hold, hnew]
            simp [choose, Question.forced, Sem.run]
          | cons e0 E =>
            dsimp only at h
            cases L with
            | nil => cases hrel
            | cons x0 L =>
            have hcand : ((if (x0 :: L).toArray.isEmpty then #[none] else #[]) ++ ((x0 :: L).toArray ++ (#[] : Array MapEntry)).map some) = ((x0 :: L).map some).toArray := by simp
            have pick : ∃ (i : Nat) (w1 : World), i < (x0 :: L).length ∧ w1.heap = w.heap ∧ (w1.os = w.os ∧ w1.tape = w.tape ∧ w1.output = w.output) ∧ (choose (.mapNext ((x0 :: L).map some).toArray.size)).run P w = .ok i w1 := by
              by_cases hf : (Question.mapNext ((x0 :: L).map some).toArray.size).forced = true
              · exact ⟨0, w, by simp, rfl, ⟨rfl, rfl, rfl⟩, by simp only [choose, Sem.run, hf, if_true]⟩
              · refine ⟨_, { w with drawn := w.drawn + 1 }, ?_, rfl, ⟨rfl, rfl, rfl⟩, by simp only [choose, Sem.run, hf]; rfl⟩
                simp only [Question.cut, List.size_toArray, List.length_map]
                first | exact Nat.mod_lt _ (by simp) | (split <;> first | exact Nat.mod_lt _ (by simp) | simp_all)
            obtain ⟨i, w1, hil, hw1, hw1o, hch⟩ := pick
            obtain ⟨x, hx⟩ : ∃ x, (x0 :: L)[i]? = some x := ⟨_, List.getElem?_eq_getElem hil⟩
            obtain ⟨e, he, her⟩ := hrel.get_r hx
            have h9 := allK_mem h e (List.mem_of_getElem? he)
            have h10 := take1K_some (take1K_some h9)
            have hr : r < w.heap.size := hw.there (b := .new k) hb h1
            have hs1 : Sim base ρ S.get S.next w1 := hw.drew hw1
            have hset : ∀ (o : Obj) k, k ≠ r → (w1.heap.setIfInBounds r o)[k]? = w1.heap[k]? := fun o k hk => Array.getElem?_setIfInBounds_ne (Ne.symm hk)
            refine ⟨_, _, .tuple #[.bool true, x.key, x.val], ρ, { w1 with heap := w1.heap.setIfInBounds r (.mapIter (some rm) since (seen.toArray.push x.born) clk) }, h10, ?_, ⟨[.bool true, x.key, x.val], rfl, .cons rfl (.cons her.1 (.cons her.2.1 .nil))⟩, ?_⟩
            · have hxi : ((x0 :: L).map some).toArray[i]? = some (some x) := by rw [List.getElem?_toArray, List.getElem?_map, hx]; rfl
              simp only [Instr.next, Sem.run_bind, hgi, hgm, Result.andThen_ok, hbad, Bool.false_eq_true, if_false, hleft, hold, hnew, hcand, hch, hxi]
              simp [setObj, Sem.run, hw1, h3]
            · refine Next.drew (w1 := w1) ?_ hw1 hw1o
              refine hs1.put (b := k) hb h1 (by simp) (hset _) ⟨rfl, rfl, rfl⟩ ⟨some rm, ?_, ⟨rm, shm, mmm, h4, rfl⟩, rfl⟩
              show (w1.heap.setIfInBounds r _)[r]? = _
              rw [hw1]; simp [hr, her.2.2]
        · exact h.elim
      · exact h.elim
  · exact h.elim
end Go.Xe
