/- Executor, second make: operations that touch no memory, all of them. -/
import Derived.Test.YtgjggcgdilahdaaX4
set_option linter.unusedVariables false
set_option linter.unusedSimpArgs false
set_option linter.constructorNameAsVariable false
set_option linter.unusedVariables false
set_option linter.unusedSimpArgs false
namespace Go.Xe
open Go.RowKit

theorem Snd.of {P ρ K s v cv} (hk : K v) (hv : VR ρ v cv) (h : ∀ w, s.run P w = .ok cv w) : Snd P ρ K s := ⟨v, cv, hk, hv, h⟩

def ineg (k : IntKind) (n : Int) : Int := iwrap k (0 - n)
def icom (k : IntKind) (n : Int) : Int := ixor k (if k.signed then -1 else k.max) n
noncomputable abbrev unK (op : UnOp) (x : SV) (K : AV → Prop) : Prop :=
  match op, x with
  | .not, .bool b => K (.one (.s (.bool (!b))))
  | .neg, .int k n => K (.one (.s (.int k (ineg k n))))
  | .xor, .int k n => K (.one (.s (.int k (icom k n))))
  | _, _ => False
theorem unK_run {op x K} (h : unK op x K) {P ρ cx} (hx : SR ρ x cx) : Snd P ρ K (Op.unary op cx) := by
  unfold unK at h
  split at h
  · cases hx; exact ⟨_, _, h, rfl, fun w => by simp [Op.unary]⟩
  · cases hx; exact ⟨_, _, h, rfl, fun w => by simp [Op.unary, Op.intArith, ineg, iwrap_eq]⟩
  · cases hx; exact ⟨_, _, h, rfl, fun w => by simp [Op.unary, Op.intBits, icom, ixor]⟩
  · exact h.elim

noncomputable abbrev convK (P : Program) (src dst : TypeId) (x : SV) (K : AV → Prop) : Prop :=
  match x with
  | .int _ n => (match P.underlying src, P.underlying dst with
    | some (.int _), some (.int k) => K (.one (.s (.int k (iwrap k n))))
    | _, _ => False)
  | .str s => (match P.underlying src, P.underlying dst with
    | some .string, some .string => K (.one (.s (.str s)))
    | _, _ => False)
  | _ => False
theorem convK_run {P src dst x K} (h : convK P src dst x K) {ρ cx} (hx : SR ρ x cx) : Snd P ρ K (convert src dst cx) := by
  unfold convK at h
  split at h
  · split at h
    · rename_i hu hv
      cases hx; exact ⟨_, _, h, rfl, fun w => by simp [convert, underlying, hu, hv, Conv.intToInt, iwrap_eq]⟩
    · exact h.elim
  · split at h
    · rename_i hu hv
      obtain ⟨s, rfl, hs⟩ := hx; exact ⟨_, .string s, h, ⟨s, rfl, hs⟩, fun w => by simp [convert, underlying, hu, hv]⟩
    · exact h.elim
  · exact h.elim

/-- A field's place in a struct; none: there is none, or it has no cells. -/
noncomputable abbrev fieldOff (P : Program) (s : TypeId) (f : Nat) : Option Nat := match P.underlying s with
  | some (.struct fs) => (match fs[f]? with
    | some fd => (match sizeA P fd.type with
      | some _ => some fd.offset
      | none => none)
    | none => none)
  | _ => none
/-- A field's address. -/
noncomputable abbrev fieldAddrK (P : Program) (s : TypeId) (x : SV) (f : Nat) (K : AV → Prop) : Prop :=
  match x with
  | .ptr p => optK (fieldOff P s f) fun off => PV.cs p fun b o => K (.one (.s (.ptr (.mk b (o + off)))))
  | _ => False
theorem add_at (r o n : Nat) : (⟨r, o, none⟩ : Addr).add n = ⟨r, o + n, none⟩ := by unfold Addr.add; split <;> simp_all
theorem fieldAddrK_run {P s x f K} (h : fieldAddrK P s x f K) {ρ cx} (hx : SR ρ x cx) : Snd P ρ K (Instr.fieldAt s cx f) := by
  unfold fieldAddrK at h
  split at h
  · obtain ⟨off, ho, h⟩ := optK_some h
    obtain ⟨b, o, rfl, hq⟩ := PV.cs_mk h; have h := hq; clear hq
    unfold fieldOff at ho
    split at ho
    · rename_i fs hu
      split at ho
      · rename_i fd hf
        split at ho
        · rename_i n hn
          cases ho
          obtain ⟨r, sh, m, h1, rfl⟩ := hx
          obtain ⟨h2, h3⟩ := sizeA_run hn
          exact ⟨_, _, h, ⟨r, sh, m, h1, rfl⟩, fun w => by simp [Instr.fieldAt, Instr.sureAddr, underlying, hu, hf, fieldPlace, h3, h2, add_at, Nat.add_assoc]⟩
        · cases ho
      · cases ho
    · cases ho
  · exact h.elim

/-- Is a number one from 0 to below another one? -/
noncomputable abbrev inB (i : Int) (n : Nat) : Bool := ile 0 i && ilt i (Int.ofNat n)
theorem inB_iff {i : Int} {n : Nat} (h : inB i n = true) : 0 ≤ i ∧ i < (n : Int) := by
  unfold inB at h
  rw [ile_eq, ilt_eq] at h
  simpa using h
/-- An element's address. -/
noncomputable abbrev indexAddrK (P : Program) (t : TypeId) (x i : SV) (K : AV → Prop) : Prop :=
  match i with
  | .int _ i => (match P.underlying t, x with
    | some (.array len e), .ptr p => optK (sizeA P e) fun z => PV.cs p fun b o => req (inB i len) (K (.one (.s (.ptr (.mk b (o + i.toNat * z))))))
    | some (.slice e), .sl s => optK (sizeA P e) fun z => LV.cs s fun b o n _ => req (inB i n) (K (.one (.s (.ptr (.mk b (o + i.toNat * z))))))
    | _, _ => False)
  | _ => False
theorem indexAddrK_run {P t x i K} (h : indexAddrK P t x i K) {ρ cx ci} (hx : SR ρ x cx) (hi : SR ρ i ci) : Snd P ρ K (Instr.indexAt t cx ci) := by
  unfold indexAddrK at h
  split at h
  · rename_i k i
    cases hi
    split at h
    · rename_i len e p hu
      obtain ⟨z, hn, h⟩ := optK_some h
      obtain ⟨b, o, rfl, hq⟩ := PV.cs_mk h; have h := hq; clear hq
      obtain ⟨hb, h⟩ := req_and h
      obtain ⟨r, sh, m, h1, rfl⟩ := hx
      obtain ⟨h2, h3⟩ := sizeA_run hn
      have hc := inB_iff hb
      refine ⟨_, _, h, ⟨r, sh, m, h1, rfl⟩, fun w => ?_⟩
      simp only [Instr.indexAt, asIntOf, Instr.sureAddr, underlying, hu, Sem.run_bind, Sem.run_pure, Result.andThen_ok, run_program, hc, and_self, if_true, h3, add_at, Nat.add_assoc]
    · rename_i e s hu
      obtain ⟨z, hn, h⟩ := optK_some h
      obtain ⟨b, o, n, c, rfl, hq⟩ := LV.cs_mk h; have h := hq; clear hq
      obtain ⟨hb, h⟩ := req_and h
      obtain ⟨r, sh, m, cc, o', h1, rfl, ho, hnc, _⟩ := hx
      obtain ⟨h2, h3⟩ := sizeA_run hn
      have hc := inB_iff hb
      obtain rfl := ho (by omega)
      refine ⟨_, _, h, ⟨r, sh, m, h1, rfl⟩, fun w => ?_⟩
      simp only [Instr.indexAt, asIntOf, Instr.sureAddr, underlying, hu, Sem.run_bind, Sem.run_pure, Result.andThen_ok, run_program, hc, and_self, if_true, h3, add_at, Nat.add_assoc]
    · exact h.elim
  · exact h.elim

/-- An element of a text, or of an array by value. -/
noncomputable abbrev indexK (P : Program) (t : TypeId) (x : V1) (i : SV) (K : AV → Prop) : Prop :=
  match i with
  | .int _ i => (match P.underlying t, x with
    | some .string, .s (.str s) => req (inB i s.length) (K (.one (.s (.int .u8 (Int.ofNat (s.getD i.toNat 0))))))
    | some (.array len e), .agg cs => optK (sizeA P e) fun z => req (inB i len) (optK (partA P e cs (i.toNat * z)) fun v => K (.one v))
    | _, _ => False)
  | _ => False
theorem strOf_get {l s} (h : strOf l s) {i b : Nat} (hb : l[i]? = some b) : ∃ u : UInt8, s[i]? = some u ∧ u.toNat = b := by
  unfold strOf at h
  rw [← h] at hb
  simp only [List.getElem?_map] at hb
  obtain ⟨u, h1, h2⟩ := Option.map_eq_some_iff.1 hb
  refine ⟨u, ?_, h2⟩
  rw [← h1]
  have hlt : i < s.data.toList.length := (List.getElem?_eq_some_iff.1 h1).1
  have hlt' : i < s.size := by simpa using hlt
  rw [getElem?_pos s i hlt', List.getElem?_eq_getElem hlt]
  rfl
theorem indexK_run {P t x i K} (h : indexK P t x i K) {ρ cx ci} (hx : VR1 ρ x cx) (hi : SR ρ i ci) : Snd P ρ K (Instr.index t cx ci) := by
  unfold indexK at h
  split at h
  · rename_i k i
    cases hi
    split at h
    · rename_i s hu
      obtain ⟨hb, h⟩ := req_and h
      have hc := inB_iff hb
      obtain ⟨cs, rfl, hs⟩ := hx
      have hlt : i.toNat < s.length := by omega
      obtain ⟨u, h2, h4⟩ := strOf_get hs (i := i.toNat) (b := s[i.toNat]) (by simp [hlt])
      have h5 : s.getD i.toNat 0 = u.toNat := by rw [h4]; simp [hlt]
      refine ⟨_, _, h, rfl, fun w => ?_⟩
      rw [h5]
      simp only [Instr.index, asIntOf, underlying, hu, Sem.run_bind, Sem.run_pure, Result.andThen_ok, run_program, hc, if_true, h2]
      rfl
    · rename_i len e cs hu
      obtain ⟨z, hn, h⟩ := optK_some h
      obtain ⟨hb, h⟩ := req_and h
      obtain ⟨v, hp, h⟩ := optK_some h
      have hc := inB_iff hb
      obtain ⟨vs, rfl, hv⟩ := hx
      obtain ⟨h2, h3⟩ := sizeA_run hn
      obtain ⟨cv, h4, h5⟩ := partA_run hp hv
      refine ⟨_, cv, h, h4, fun w => ?_⟩
      simp only [Instr.index, asIntOf, underlying, hu, Sem.run_bind, Sem.run_pure, Result.andThen_ok, run_program, hc, and_self, if_true, h3, h5]
    · exact h.elim
  · exact h.elim

noncomputable abbrev fieldK (P : Program) (t : TypeId) (x : V1) (f : Nat) (K : AV → Prop) : Prop :=
  match x with
  | .agg cs => (match P.underlying t with
    | some (.struct fs) => (match fs[f]? with
      | some fd => optK (partA P fd.type cs fd.offset) fun v => K (.one v)
      | none => False)
    | _ => False)
  | _ => False
theorem fieldK_run {P t x f K} (h : fieldK P t x f K) {ρ cx} (hx : VR1 ρ x cx) : Snd P ρ K (Instr.field t cx f) := by
  unfold fieldK at h
  split at h
  · split at h
    · rename_i cs fs hu
      split at h
      · rename_i fd hf
        obtain ⟨v, hp, h⟩ := optK_some h
        obtain ⟨vs, rfl, hv⟩ := hx
        obtain ⟨cv, h4, h5⟩ := partA_run hp hv
        exact ⟨_, cv, h, h4, fun w => by simp [Instr.field, underlying, hu, hf, asAgg, h5]⟩
      · exact h.elim
    · exact h.elim
  · exact h.elim

noncomputable abbrev extractK (x : AV) (i : Nat) (K : AV → Prop) : Prop := match x with | .tup l => optK l[i]? (fun v => K (.one v)) | _ => False
theorem extractK_run {P x i K} (h : extractK x i K) {ρ cx} (hx : VR ρ x cx) : Snd P ρ K (Instr.extract cx i) := by
  unfold extractK at h
  split at h
  · obtain ⟨v, h0, h⟩ := optK_some h
    obtain ⟨vs, rfl, hv⟩ := hx
    obtain ⟨cv, h1, h2⟩ := hv.get h0
    exact ⟨_, cv, h, h2, fun w => by simp [Instr.extract, h1]⟩
  · exact h.elim

/-- The parts of a struct, an array or a row, laid over zeros. -/
def fillA (place : Nat → Option (Nat × Nat)) (cells : List SV) : List (Nat × V1) → Option (List SV)
  | [] => some cells
  | (i, v) :: rest => match place i with
    | none => none
    | some (off, size) => cond (Nat.beq v.cells.length size && Nat.ble (off + size) cells.length) (fillA place (cells.take off ++ (v.cells ++ cells.drop (off + size))) rest) none

theorem fold_lay : ∀ (l : List Value) (off k : Nat) (cs : Array Value), off + k + l.length ≤ cs.size →
    ((l.zipIdx k).foldl (fun (cs : Array Value) (x : Value × Nat) => cs.setIfInBounds (off + x.2) x.1) cs) = (cs.toList.take (off + k) ++ (l ++ cs.toList.drop (off + k + l.length))).toArray := by
  intro l
  induction l with
  | nil => intro off k cs h; simp
  | cons v l ih =>
    intro off k cs h
    simp only [List.zipIdx_cons, List.foldl_cons]
    rw [ih off (k + 1) _ (by simp at h ⊢; omega)]
    congr 1
    have hk : off + k < cs.toList.length := by simp at h ⊢; omega
    rw [Array.toList_setIfInBounds]
    have := list_seg_step cs.toList (off + k) v l (by simp at h ⊢; omega)
    simpa [Nat.add_assoc] using this

theorem fillA_run {ρ : Ren} {pl : Nat → Option (Nat × Nat)} : ∀ {ps : List (Nat × V1)} {cs : List SV} {r}, fillA pl cs ps = some r → ∀ {vs : List Value} {cps : List (Nat × Value)}, All2 (SR ρ) cs vs →
    All2 (fun (a : Nat × V1) (b : Nat × Value) => a.1 = b.1 ∧ VR1 ρ a.2 b.2) ps cps → ∃ ws : List Value, All2 (SR ρ) r ws ∧ Instr.fill pl vs.toArray cps = some ws.toArray := by
  intro ps
  induction ps with
  | nil => intro cs r h vs cps hv hp; cases hp; simp only [fillA, Option.some.injEq] at h; subst h; exact ⟨vs, hv, by simp [Instr.fill]⟩
  | cons p ps ih =>
    intro cs r h vs cps hv hp
    obtain ⟨i, v⟩ := p
    cases hp with
    | cons hh ht =>
      rename_i b m
      obtain ⟨j, x⟩ := b
      obtain ⟨e, hx⟩ := hh
      simp only at e hx; subst e
      simp only [fillA] at h
      cases hpl : pl i with
      | none => rw [hpl] at h; cases h
      | some os =>
        obtain ⟨off, size⟩ := os
        rw [hpl] at h
        simp only at h
        cases hc : (Nat.beq v.cells.length size && Nat.ble (off + size) cs.length) with
        | false => rw [hc] at h; cases h
        | true =>
          rw [hc] at h
          simp only [Bool.and_eq_true, Nat.beq_eq] at hc
          have hle := Nat.le_of_ble_eq_true hc.2
          obtain ⟨xs, hxs, hax⟩ := hx.cells
          have hl1 := hv.length; have hl2 := hax.length
          have hnew : All2 (SR ρ) (cs.take off ++ (v.cells ++ cs.drop (off + size))) (vs.take off ++ (xs ++ vs.drop (off + size))) := (hv.take off).append (hax.append (hv.drop _))
          obtain ⟨ws, h1, h2⟩ := ih h hnew ht
          refine ⟨ws, h1, ?_⟩
          simp only [Instr.fill, hpl, hxs]
          have hsz : xs.toArray.size = size := by simp; omega
          rw [if_neg (by simp only [hsz, ne_eq, not_true_eq_false, false_or, decide_eq_true_eq, Bool.or_eq_true, List.size_toArray]; simp; omega)]
          have hf : (xs.toArray.zipIdx.foldl (fun (cs : Array Value) (x : Value × Nat) => cs.setIfInBounds (off + x.2) x.1) vs.toArray) = (vs.take off ++ (xs ++ vs.drop (off + size))).toArray := by
            have := fold_lay xs off 0 vs.toArray (by simp; omega)
            simp only [Nat.add_zero] at this
            rw [show off + xs.length = off + size by omega] at this
            rw [← Array.foldl_toList]
            simpa using this
          rw [← h2, ← hf]

def zeroA (P : Program) (t : TypeId) : Option V1 := match P.info? t with
  | some i => (match i.zero with | some v => absV1 v | none => none)
  | none => none
theorem zeroA_run {P t v} (h : zeroA P t = some v) (ρ : Ren) : ∃ cv, VR1 ρ v cv ∧ ∀ w, (zeroValue t).run P w = .ok cv w := by
  unfold zeroA at h
  split at h
  · rename_i i hi
    split at h
    · rename_i z hz
      exact ⟨z, absV1_ok h ρ, fun w => by simp [zeroValue, typeInfo, hi, hz]⟩
    · cases h
  · cases h

def evParts (e : Ev) : List (Nat × Operand) → Option (List (Nat × V1))
  | [] => some []
  | (i, x) :: l => match e x with
    | .one v => (match evParts e l with
      | none => none
      | some m => some ((i, v) :: m))
    | _ => none
theorem evParts_ok {ρ e c} (he : EvR ρ e c) : ∀ {l m}, evParts e l = some m → All2 (fun (a : Nat × V1) (b : Nat × Value) => a.1 = b.1 ∧ VR1 ρ a.2 b.2) m (l.map fun p => (p.1, c p.2))
  | [], m, h => by cases h; exact .nil
  | (i, x) :: l, m, h => by
    simp only [evParts] at h
    split at h
    · rename_i v hv
      split at h
      · cases h
      · rename_i m' hm
        cases h
        exact .cons ⟨rfl, he.one hv⟩ (evParts_ok he hm)
    · cases h

def placesA (P : Program) : List Field → Option (List (Nat × Nat))
  | [] => some []
  | f :: l => match P.info? f.type with
    | none => none
    | some i => match placesA P l with
      | none => none
      | some m => some ((f.offset, i.size) :: m)

theorem placesA_run {P : Program} : ∀ {l m}, placesA P l = some m → ∀ w, (l.mapM (fun (f : Field) => (do pure (f.offset, ← sizeOf f.type) : Sem (Nat × Nat)))).run P w = .ok m w
  | [], m, h, w => by cases h; simp
  | f :: l, m, h, w => by
    simp only [placesA] at h
    split at h
    · cases h
    · rename_i i hi
      split at h
      · cases h
      · rename_i m' hm
        cases h
        have := placesA_run hm w
        simp [List.mapM_cons, sizeOf, typeInfo, hi, this] at this ⊢
        simp [this]

def buildA (P : Program) (t : TypeId) (ps : List (Nat × V1)) : Option V1 :=
  match zeroA P t with
  | some z => match P.underlying t with
    | some (.struct fs) => match placesA P fs.toList with
      | some pl => (fillA (pl[·]?) z.cells ps).map .agg
      | none => none
    | some (.array _ e) => match P.info? e with
      | some i => (fillA (fun j => some (j * i.size, i.size)) z.cells ps).map .agg
      | none => none
    | _ => none
  | none => none
theorem mapM_arr {P : Program} {fs : Array Field} {m : List (Nat × Nat)} {w : World} (h : (fs.toList.mapM (fun (f : Field) => (do pure (f.offset, ← sizeOf f.type) : Sem (Nat × Nat)))).run P w = .ok m w) :
    (fs.mapM (fun (f : Field) => (do pure (f.offset, ← sizeOf f.type) : Sem (Nat × Nat)))).run P w = .ok m.toArray w := by
  rw [Array.mapM_eq_mapM_toList, Sem.run_map, h]
  rfl
theorem buildA_run {P t ps v} (h : buildA P t ps = some v) {ρ : Ren} {cps : Array (Nat × Value)} (hp : All2 (fun (a : Nat × V1) (b : Nat × Value) => a.1 = b.1 ∧ VR1 ρ a.2 b.2) ps cps.toList) : ∃ cv, VR1 ρ v cv ∧ ∀ w, (Instr.build t cps).run P w = .ok cv w := by
  unfold buildA at h
  split at h
  · rename_i z hz
    obtain ⟨cz, h1, h2⟩ := zeroA_run hz ρ
    obtain ⟨zs, hzs, haz⟩ := h1.cells
    split at h
    · rename_i fs hu
      split at h
      · rename_i pl hpl
        obtain ⟨r, h3, rfl⟩ := (Option.map_eq_some_iff.1 h)
        obtain ⟨ws, h4, h5⟩ := fillA_run h3 haz hp
        refine ⟨.agg ws.toArray, ⟨ws, rfl, h4⟩, fun w => ?_⟩
        have hm := mapM_arr (placesA_run hpl w)
        simp only [Instr.build, Sem.run_bind, h2, Result.andThen_ok, underlying, run_program, hu, Sem.run_pure, hm, hzs]
        have e : (fun (x : Nat) => pl.toArray[x]?) = fun x => pl[x]? := by funext x; simp
        rw [e, h5]
        rfl
      · cases h
    · rename_i k e hu
      split at h
      · rename_i i hi
        obtain ⟨r, h3, rfl⟩ := (Option.map_eq_some_iff.1 h)
        obtain ⟨ws, h4, h5⟩ := fillA_run h3 haz hp
        refine ⟨.agg ws.toArray, ⟨ws, rfl, h4⟩, fun w => ?_⟩
        simp only [Instr.build, Sem.run_bind, h2, Result.andThen_ok, underlying, run_program, hu, Sem.run_pure, sizeOf, typeInfo, hi, hzs, h5]
      · cases h
    · cases h
  · cases h

/- Slicing. -/
def BR (n : Option Int) (v : Option Value) : Prop := match n, v with
  | none, none => True
  | some n, some v => ∃ k, v = .int k n
  | _, _ => False
/-- A bound: a number; one that is not told is what stands for it. -/
noncomputable abbrev bndK (e : Ev) (x : Option Operand) (K : Option Int → Prop) : Prop := match x with
  | none => K none
  | some x => (match e x with
    | .one (.s (.int _ n)) => K (some n)
    | _ => False)
theorem bndK_ok {ρ e c} (he : EvR ρ e c) {x K} (h : bndK e x K) : ∃ n, K n ∧ BR n (x.map c) := by
  unfold bndK at h
  split at h
  · exact ⟨_, h, trivial⟩
  · rename_i x
    split at h
    · rename_i k n hs
      exact ⟨_, h, k, he.sc hs⟩
    · exact h.elim
noncomputable abbrev oInt (x : Option Int) (d : Int) : Int := match x with | some n => n | none => d
noncomputable abbrev bnds (len cap : Nat) (lo hi mx : Option Int) : Bool :=
  match mx with
  | none => ile 0 (oInt lo 0) && (ile (oInt lo 0) (oInt hi (Int.ofNat len)) && ile (oInt hi (Int.ofNat len)) (Int.ofNat cap))
  | some k => match hi with
    | none => false
    | some h => ile 0 (oInt lo 0) && (ile (oInt lo 0) h && (ile h k && ile k (Int.ofNat cap)))

theorem sliceBound_run {P : Program} {n : Int} {y : Nat} {v : Value} {k} (hv : v = .int k n) (h0 : 0 ≤ n) (h : n ≤ (y : Int)) (code) (w : World) : (Instr.sliceBound v y code).run P w = .ok n.toNat w := by
  subst hv
  have hc : (0 : Int) ≤ n ∧ n ≤ (y : Int) := ⟨h0, h⟩
  simp only [Instr.sliceBound, asIntOf, Sem.run_bind, Sem.run_pure, Result.andThen_ok, hc, and_self, if_true]

theorem bnds_run {len cap lo hi mx} (hb : bnds len cap lo hi mx = true) (hlen : len ≤ cap) {cc : Nat} (hc : cap ≤ cc) {vl vh vm : Option Value} (h1 : BR lo vl) (h2 : BR hi vh) (h3 : BR mx vm) (isS : Bool) (P : Program) :
    0 ≤ oInt lo 0 ∧ oInt lo 0 ≤ oInt hi (Int.ofNat len) ∧ oInt hi (Int.ofNat len) ≤ oInt mx (Int.ofNat cap) ∧ oInt mx (Int.ofNat cap) ≤ (cap : Int) ∧
    ∀ w, (Instr.sliceBounds isS len cc vl vh vm).run P w = .ok ((oInt lo 0).toNat, (oInt hi (Int.ofNat len)).toNat, (oInt mx (Int.ofNat cc)).toNat) w := by
  unfold bnds at hb
  cases mx with
  | none =>
    simp only [ile_eq, Bool.and_eq_true, decide_eq_true_eq] at hb
    obtain ⟨e0, e1, e2⟩ := hb
    refine ⟨e0, e1, e2, by simp, fun w => ?_⟩
    cases vm with
    | some v => exact h3.elim
    | none =>
      cases hi with
      | none =>
        cases vh with
        | some v => exact h2.elim
        | none =>
          cases lo with
          | none => cases vl with
            | some v => exact h1.elim
            | none => simp [Instr.sliceBounds]
          | some l => cases vl with
            | none => exact h1.elim
            | some u =>
              obtain ⟨k', hu⟩ := h1
              have := sliceBound_run (P := P) hu (y := len) (by simpa using e0) (by simpa using e1) .sliceB w
              simp [Instr.sliceBounds, this]
      | some h =>
        cases vh with
        | none => exact h2.elim
        | some v =>
          obtain ⟨k, hv⟩ := h2
          have e1' : oInt lo 0 ≤ h := e1
          have e2' : h ≤ (cap : Int) := e2
          have e0' : 0 ≤ h := by omega
          have g := fun code => sliceBound_run (P := P) hv (y := cc) e0' (by omega) code w
          cases lo with
          | none => cases vl with
            | some v => exact h1.elim
            | none => cases isS <;> simp [Instr.sliceBounds, g]
          | some l => cases vl with
            | none => exact h1.elim
            | some u =>
              obtain ⟨k', hu⟩ := h1
              have e3' : l ≤ h := e1
              have := sliceBound_run (P := P) hu (y := h.toNat) e0 (by omega) .sliceB w
              cases isS <;> simp [Instr.sliceBounds, g, this]
  | some k =>
    cases hi with
    | none => cases hb
    | some h =>
      simp only [ile_eq, Bool.and_eq_true, decide_eq_true_eq] at hb
      obtain ⟨e0, e1, e2, e3⟩ := hb
      refine ⟨e0, e1, e2, e3, fun w => ?_⟩
      cases vm with
      | none => exact h3.elim
      | some vm =>
        obtain ⟨km, hvm⟩ := h3
        cases vh with
        | none => exact h2.elim
        | some vh =>
          obtain ⟨kh, hvh⟩ := h2
          have g0 := fun code => sliceBound_run (P := P) hvm (y := cc) (by omega) (by have e3' : k ≤ (cap : Int) := e3; omega) code w
          have g1 := sliceBound_run (P := P) hvh (y := k.toNat) (by omega) (by omega) .slice3B w
          cases lo with
          | none => cases vl with
            | some v => exact h1.elim
            | none => simp [Instr.sliceBounds, g0, g1]
          | some l => cases vl with
            | none => exact h1.elim
            | some u =>
              obtain ⟨k', hu⟩ := h1
              have e3' : l ≤ h := e1
              have := sliceBound_run (P := P) hu (y := h.toNat) e0 (by omega) .slice3C w
              simp [Instr.sliceBounds, g0, g1, this]
end Go.Xe
