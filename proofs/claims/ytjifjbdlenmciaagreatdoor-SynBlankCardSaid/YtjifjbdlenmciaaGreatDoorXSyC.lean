/- Syn: what the library's functions come to. -/
import Derived.Test.YtjifjbdlenmciaaGreatDoorX27
import Derived.Test.YtjifjbdlenmciaaGreatDoorXSyW
import Derived.Lib.IndexMore
import Derived.Lib.Join
import Derived.Lib.Repeat
set_option linter.unusedVariables false
set_option linter.unusedSimpArgs false
set_option linter.constructorNameAsVariable false
set_option linter.unusedVariables false
set_option linter.unusedSimpArgs false
namespace Go.Xe
open Go.RowKit

/- Words on lists of bytes. -/
def idxByte (c : Nat) : List Nat → Nat → Int
  | [], _ => -1
  | x :: l, i => cond (Nat.beq x c) (Int.ofNat i) (idxByte c l (Nat.succ i))
def pref : List Nat → List Nat → Bool
  | [], _ => true
  | _ :: _, [] => false
  | a :: l, b :: m => cond (Nat.beq a b) (pref l m) false
def idxStr (p : List Nat) : List Nat → Nat → Int
  | [], i => cond (pref p []) (Int.ofNat i) (-1)
  | x :: l, i => cond (pref p (x :: l)) (Int.ofNat i) (idxStr p l (Nat.succ i))
def hasStr (p : List Nat) : List Nat → Bool
  | [] => pref p []
  | x :: l => cond (pref p (x :: l)) true (hasStr p l)
def joinT (sep : List Nat) : List (List Nat) → List Nat
  | [] => []
  | a :: l => sep ++ (a ++ joinT sep l)
def joinS (sep : List Nat) : List (List Nat) → List Nat
  | [] => []
  | a :: l => a ++ joinT sep l
def repS (s : List Nat) : Nat → List Nat
  | 0 => []
  | n + 1 => s ++ repS s n
def strsOf : List SV → Option (List (List Nat))
  | [] => some []
  | .str s :: l => (match strsOf l with | some r => some (s :: r) | none => none)
  | _ => none

abbrev f8 : UInt8 → Nat := UInt8.toNat
theorem f8_beq (a b : UInt8) : Nat.beq (f8 a) (f8 b) = (a == b) := by
  rw [beq_eq, Bool.eq_iff_iff]
  simp only [decide_eq_true_eq, beq_iff_eq]
  exact UInt8.toNat_inj
theorem idxByte_eq (c : Nat) (hc : c < 256) : ∀ (l : List UInt8) (i : Nat), idxByte c (l.map f8) i = if Lib.indexByte l c.toUInt8 = -1 then -1 else Lib.indexByte l c.toUInt8 + i
  | [], i => by simp [idxByte, Lib.indexByte]
  | b :: l, i => by
    have e : Nat.beq (f8 b) c = (b == c.toUInt8) := by
      have h9 : f8 c.toUInt8 = c := by simp [f8, Nat.toUInt8, Nat.mod_eq_of_lt hc]
      have := f8_beq b c.toUInt8
      rw [h9] at this; exact this
    have ih := idxByte_eq c hc l (i + 1)
    by_cases hb : (b == c.toUInt8) = true
    · have e3 : Lib.indexByte (b :: l) c.toUInt8 = 0 := by unfold Lib.indexByte; rw [if_pos hb]
      have e4 : idxByte c ((b :: l).map f8) i = Int.ofNat i := by simp only [List.map_cons, idxByte, e, hb, cond_true]
      rw [e3, e4]; simp
    · have hb' := Bool.eq_false_iff.2 hb
      have e4 : idxByte c ((b :: l).map f8) i = idxByte c (l.map f8) (i + 1) := by simp only [List.map_cons, idxByte, e, hb', cond_false]
      rw [e4, ih]
      have hge := Lib.indexByte_ge l c.toUInt8
      by_cases h1 : Lib.indexByte l c.toUInt8 = -1
      · have e3 : Lib.indexByte (b :: l) c.toUInt8 = -1 := by unfold Lib.indexByte; rw [if_neg hb, if_pos (by simp [h1])]
        rw [e3, h1]; simp
      · have e3 : Lib.indexByte (b :: l) c.toUInt8 = Lib.indexByte l c.toUInt8 + 1 := by
          conv => lhs; unfold Lib.indexByte
          rw [if_neg hb, if_neg (by simp [h1])]
        rw [e3, if_neg h1, if_neg (by omega)]; push_cast; omega
theorem pref_eq : ∀ (p l : List UInt8), pref (p.map f8) (l.map f8) = p.isPrefixOf l
  | [], l => by cases l <;> simp [pref]
  | a :: p, [] => by simp [pref]
  | a :: p, b :: l => by
    simp only [List.map_cons, pref, f8_beq, pref_eq p l, List.isPrefixOf]
    cases (a == b) <;> rfl
theorem idxStr_eq (p : List UInt8) : ∀ (l : List UInt8) (i : Nat), idxStr (p.map f8) (l.map f8) i = if Lib.index l p = -1 then -1 else Lib.index l p + i
  | [], i => by
    have := pref_eq p []
    simp only [List.map_nil] at this
    simp only [List.map_nil, idxStr, this, Lib.index]
    cases p <;> simp
  | b :: l, i => by
    have ih := idxStr_eq p l (i + 1)
    have hge := Lib.index_ge l p
    have hp := pref_eq p (b :: l)
    simp only [List.map_cons] at hp
    by_cases hb : p.isPrefixOf (b :: l) = true
    · have e3 : Lib.index (b :: l) p = 0 := by unfold Lib.index; rw [if_pos hb]
      have e4 : idxStr (p.map f8) ((b :: l).map f8) i = Int.ofNat i := by simp only [List.map_cons, idxStr, hp, hb, cond_true]
      rw [e3, e4]; simp
    · have hb' := Bool.eq_false_iff.2 hb
      have e4 : idxStr (p.map f8) ((b :: l).map f8) i = idxStr (p.map f8) (l.map f8) (i + 1) := by simp only [List.map_cons, idxStr, hp, hb', cond_false]
      rw [e4, ih]
      by_cases h1 : Lib.index l p = -1
      · have e3 : Lib.index (b :: l) p = -1 := by unfold Lib.index; rw [if_neg hb, if_pos (by simp [h1])]
        rw [e3, h1]; simp
      · have e3 : Lib.index (b :: l) p = Lib.index l p + 1 := by
          conv => lhs; unfold Lib.index
          rw [if_neg hb, if_neg (by simp [h1])]
        rw [e3, if_neg h1, if_neg (by omega)]; push_cast; omega
theorem hasStr_idx (p : List Nat) : ∀ (l : List Nat) (i : Nat), hasStr p l = true ↔ 0 ≤ idxStr p l i
  | [], i => by
    unfold hasStr idxStr
    cases pref p [] <;> simp
  | x :: l, i => by
    have ih := hasStr_idx p l (Nat.succ i)
    unfold hasStr idxStr
    cases pref p (x :: l) with
    | true => simp
    | false => exact ih
theorem hasStr_eq (p l : List UInt8) : hasStr (p.map f8) (l.map f8) = Lib.contains l p := by
  rw [Bool.eq_iff_iff, hasStr_idx _ _ 0, idxStr_eq]
  have hge := Lib.index_ge l p
  unfold Lib.contains
  by_cases h1 : Lib.index l p = -1
  · simp [h1]
  · simp [h1]
theorem joinT_eq (sep : List UInt8) : ∀ xs : List (List UInt8), joinT (sep.map f8) (xs.map (·.map f8)) = (Lib.joinTail sep xs).map f8
  | [] => rfl
  | a :: l => by simp [joinT, Lib.joinTail, joinT_eq sep l]
theorem joinS_eq (sep : List UInt8) : ∀ xs : List (List UInt8), joinS (sep.map f8) (xs.map (·.map f8)) = (Lib.join xs sep).map f8
  | [] => rfl
  | a :: l => by rw [Lib.join_cons]; simp [joinS, joinT_eq]
theorem repS_eq (s : List UInt8) : ∀ n, repS (s.map f8) n = (Lib.repeatL s n).map f8
  | 0 => rfl
  | n + 1 => by simp [repS, Lib.repeatL, repS_eq s n]
theorem strsOf_ok {ρ : Ren} : ∀ {l : List SV} {ss}, strsOf l = some ss → ∀ {vs : List Value}, All2 (SR ρ) l vs → ∃ xs : List ByteArray, vs = xs.map Value.string ∧ ss = xs.map (·.data.toList.map f8)
  | [], ss, h, _, .nil => by cases h; exact ⟨[], rfl, rfl⟩
  | a :: l, ss, h, _, .cons (b := v) ha t => by
    unfold strsOf at h
    split at h
    · rename_i hh; cases hh
    · rename_i s l' hh
      cases hh
      split at h
      · rename_i r hr
        cases h
        obtain ⟨xs, h1, h2⟩ := strsOf_ok hr t
        obtain ⟨x, rfl, hx⟩ := ha
        exact ⟨x :: xs, by simp [h1], by simp only [List.map_cons, h2]; rw [show x.data.toList.map f8 = s from hx]⟩
      · cases h
    · cases h

noncomputable def arg2S (args : List AV) (K : List Nat → List Nat → Prop) : Prop :=
  uncA args fun a r => uncA r fun b r => endL r (scK a fun x => SV.cS x fun s => scK b fun y => SV.cS y fun t => K s t)
theorem arg2S_some {args K} (h : arg2S args K) : ∃ s t, args = [.one (.s (.str s)), .one (.s (.str t))] ∧ K s t := by
  unfold arg2S at h
  obtain ⟨a, r1, rfl, h901⟩ := uncA_some h
  obtain ⟨b, r2, rfl, h902⟩ := uncA_some h901
  obtain ⟨rfl, h903⟩ := endL_some h902
  obtain ⟨x, rfl, h904⟩ := scK_some h903
  obtain ⟨s, rfl, h905⟩ := cS_some h904
  obtain ⟨y, rfl, h906⟩ := scK_some h905
  obtain ⟨t, rfl, h907⟩ := cS_some h906
  exact ⟨s, t, rfl, h907⟩
/-- The package's variable MaxLen holds some number. -/
noncomputable def maxK (S : St) (K : Prop) : Prop := St.at S (.inp 4) 0 fun l => uncK l fun v _ => SV.cI .i64 v fun _ => K
theorem max_cell {S : St} {K : Prop} (h : maxK S K) {ρ : Ren} (hG : GOK SynG ρ) {base next w} (hw : Sim base ρ S.get next w) : K ∧ ∃ m, w.cell? ⟨4, 0, none⟩ = some (.int .i64 m) := by
  unfold maxK St.at at h
  obtain ⟨mm, hρ⟩ := hG 4 rfl
  split at h
  · rename_i l op hb
    obtain ⟨v, r, hl, h901⟩ := uncK_some h
    obtain ⟨n, rfl, h902⟩ := cI_some h901
    refine ⟨h902, n, ?_⟩
    obtain ⟨vs, h1, h2, _⟩ := hw.read hb hρ
    simp only [List.drop_zero] at hl
    subst hl
    cases h1 with
    | cons ha t =>
      rename_i cv cvs
      have := h2 0 cv rfl
      rw [show cv = .int .i64 n from ha] at this
      exact this
  · rename_i n z t hb
    obtain ⟨hb2, h903⟩ := req_and h
    obtain ⟨v, r, hl, h904⟩ := uncK_some h903
    obtain ⟨n', rfl, h905⟩ := cI_some h904
    refine ⟨h905, n', ?_⟩
    obtain ⟨v, h1, h2⟩ := hw.wide hb hρ (blt_iff.1 hb2)
    have hl2 : widVal z t 0 = .int .i64 n' := (List.cons.inj hl).1
    rw [hl2] at h1
    rw [h2, show v = .int .i64 n' from h1]
  · exact h.elim

theorem ents {f : Nat} {fn : Func} (h1 : SynP.funcs[f]? = some fn) (h2 : (fn.name == "runtime.NumGoroutine") = false) (h3 : fn.body.isNone = false) : Enters SynP f := ⟨fn, h1, h2, h3⟩

noncomputable def idxByteK (args : List AV) (S : St) (K : AV → St → Prop) : Prop :=
  uncA args fun a r => uncA r fun b r => endL r (scK a fun x => SV.cS x fun s => scK b fun y => SV.cI .u8 y fun c => req (Bool.and (ile 0 c) (ilt c 256)) (K (.one (.s (.int .i64 (idxByte c.toNat s 0)))) S))
theorem idxByteK_ok {args S K} (h : idxByteK args S K) : CallE SynP SynG 49 args S K := by
  unfold idxByteK at h
  obtain ⟨a, r1, rfl, h901⟩ := uncA_some h
  obtain ⟨b, r2, rfl, h902⟩ := uncA_some h901
  obtain ⟨rfl, h903⟩ := endL_some h902
  obtain ⟨x, rfl, h904⟩ := scK_some h903
  obtain ⟨s, rfl, h905⟩ := cS_some h904
  obtain ⟨y, rfl, h906⟩ := scK_some h905
  obtain ⟨c, rfl, h907⟩ := cI_some h906
  obtain ⟨hq, h908⟩ := req_and h907
  simp only [Bool.and_eq_true, ile_eq, ilt_eq, decide_eq_true_eq] at hq
  refine ⟨ents Go.Proofs.Tryz.func49 (by kernel_rfl) (by kernel_rfl), fun base ρ w vs hw hG hvs => ?_⟩
  cases hvs with
  | cons ha t => cases t with
    | cons hb t =>
      cases t
      rename_i va vb
      obtain ⟨sa, rfl, hs⟩ := ha
      obtain rfl : vb = .int .u8 c := hb
      refine (Go.Proofs.Tryz.strings_IndexByte sa c w).mono ?_
      rintro e w' ⟨rfl, rfl⟩
      refine ⟨_, S, _, ρ, h908, rfl, ?_, .refl hw⟩
      show Value.int .i64 _ = Value.int .i64 _
      have hs' : sa.data.toList.map f8 = s := hs
      rw [← hs', idxByte_eq _ (by omega)]
      have hge := Lib.indexByte_ge sa.data.toList c.toNat.toUInt8
      congr 1
      split
      · rename_i h1; exact h1
      · simp
noncomputable def hasStrK (args : List AV) (S : St) (K : AV → St → Prop) : Prop := arg2S args fun s p => maxK S (req (Nat.blt s.length 4000000000) (K (.one (.s (.bool (hasStr p s)))) S))
theorem hasStrK_ok {args S K} (h : hasStrK args S K) : CallE SynP SynG 76 args S K := by
  obtain ⟨s, p, rfl, h901⟩ := arg2S_some h
  refine ⟨ents Go.Proofs.Tryz.func76 (by kernel_rfl) (by kernel_rfl), fun base ρ w vs hw hG hvs => ?_⟩
  obtain ⟨h901, m, hm⟩ := max_cell h901 hG hw
  obtain ⟨hq, h902⟩ := req_and h901
  rw [blt_iff] at hq
  cases hvs with
  | cons ha t => cases t with
    | cons hb t =>
      cases t
      rename_i va vb
      obtain ⟨sa, rfl, hs⟩ := ha
      obtain ⟨sb, rfl, hp⟩ := hb
      have hsz := strOf_size hs
      refine (Go.Proofs.Tryz.strings_Contains sa sb m w (by omega) hm).mono ?_
      rintro e w' ⟨rfl, rfl⟩
      refine ⟨_, S, _, ρ, h902, rfl, ?_, .refl hw⟩
      show Value.bool _ = Value.bool _
      have hs' : sa.data.toList.map f8 = s := hs
      have hp' : sb.data.toList.map f8 = p := hp
      rw [← hs', ← hp', hasStr_eq]
noncomputable def indexStrK (args : List AV) (S : St) (K : AV → St → Prop) : Prop := arg2S args fun s p => maxK S (req (Nat.blt s.length 4000000000) (K (.one (.s (.int .i64 (idxStr p s 0)))) S))
theorem indexStrK_ok {args S K} (h : indexStrK args S K) : CallE SynP SynG 52 args S K := by
  obtain ⟨s, p, rfl, h901⟩ := arg2S_some h
  refine ⟨ents Go.Proofs.Tryz.func52 (by kernel_rfl) (by kernel_rfl), fun base ρ w vs hw hG hvs => ?_⟩
  obtain ⟨h901, m, hm⟩ := max_cell h901 hG hw
  obtain ⟨hq, h902⟩ := req_and h901
  rw [blt_iff] at hq
  cases hvs with
  | cons ha t => cases t with
    | cons hb t =>
      cases t
      rename_i va vb
      obtain ⟨sa, rfl, hs⟩ := ha
      obtain ⟨sb, rfl, hp⟩ := hb
      have hsz := strOf_size hs
      refine (Go.Proofs.Tryz.strings_Index sa sb m w (by omega) hm).mono ?_
      rintro e w' ⟨rfl, rfl⟩
      refine ⟨_, S, _, ρ, h902, rfl, ?_, .refl hw⟩
      show Value.int .i64 _ = Value.int .i64 _
      have hs' : sa.data.toList.map f8 = s := hs
      have hp' : sb.data.toList.map f8 = p := hp
      rw [← hs', ← hp', idxStr_eq]
      have hge := Lib.index_ge sa.data.toList sb.data.toList
      congr 1
      split
      · rename_i h1; exact h1
      · simp
noncomputable def repeatK (args : List AV) (S : St) (K : AV → St → Prop) : Prop :=
  uncA args fun a r => uncA r fun b r => endL r (scK a fun x => SV.cS x fun s => scK b fun y => SV.cI .i64 y fun n => req (Bool.and (Nat.blt s.length 100000) (Bool.and (ile 0 n) (ilt n 100000))) (K (.one (.s (.str (repS s n.toNat)))) S))
theorem repeatK_ok {args S K} (h : repeatK args S K) : CallE SynP SynG 66 args S K := by
  unfold repeatK at h
  obtain ⟨a, r1, rfl, h901⟩ := uncA_some h
  obtain ⟨b, r2, rfl, h902⟩ := uncA_some h901
  obtain ⟨rfl, h903⟩ := endL_some h902
  obtain ⟨x, rfl, h904⟩ := scK_some h903
  obtain ⟨s, rfl, h905⟩ := cS_some h904
  obtain ⟨y, rfl, h906⟩ := scK_some h905
  obtain ⟨c, rfl, h907⟩ := cI_some h906
  obtain ⟨hq, h908⟩ := req_and h907
  simp only [Bool.and_eq_true, ile_eq, ilt_eq, decide_eq_true_eq, blt_iff] at hq
  refine ⟨ents Go.Proofs.Tryz.func66 (by kernel_rfl) (by kernel_rfl), fun base ρ w vs hw hG hvs => ?_⟩
  cases hvs with
  | cons ha t => cases t with
    | cons hb t =>
      cases t
      rename_i va vb
      obtain ⟨sa, rfl, hs⟩ := ha
      obtain rfl : vb = .int .i64 c := hb
      have hsz := strOf_size hs
      obtain ⟨n, rfl⟩ : ∃ n : Nat, c = n := ⟨c.toNat, by omega⟩
      have hmul : sa.size * n ≤ 100000 * 100000 := Nat.mul_le_mul (by omega) (by omega)
      refine (Go.Proofs.Tryz.strings_Repeat sa n w (by omega) (by omega)).mono ?_
      rintro e w' ⟨rfl, hbel⟩
      refine ⟨_, S, _, ρ, h908, rfl, ⟨_, rfl, ?_⟩, Next.beyond hw hbel⟩
      have hs' : sa.data.toList.map f8 = s := hs
      show (Lib.repeatL sa.data.toList n).map f8 = _
      rw [← hs', repS_eq]; simp
noncomputable def joinK (args : List AV) (S : St) (K : AV → St → Prop) : Prop :=
  uncA args fun a r => uncA r fun b r => endL r (scK a fun x => SV.cL x fun l => scK b fun y => SV.cS y fun sep => LV.cs l fun bk o n c => match S.get bk with
    | some (.cells cs op) => req (Bool.and (Nat.ble (o + n) cs.length) (Nat.ble n 100000)) (optK (strsOf ((cs.drop o).take n)) fun ss => req (Nat.ble (joinS sep ss).length 100000000) (K (.one (.s (.str (joinS sep ss)))) S))
    | _ => False)
theorem joinK_ok {args S K} (h : joinK args S K) : CallE SynP SynG 64 args S K := by
  unfold joinK at h
  obtain ⟨a, r1, rfl, h901⟩ := uncA_some h
  obtain ⟨b, r2, rfl, h902⟩ := uncA_some h901
  obtain ⟨rfl, h903⟩ := endL_some h902
  obtain ⟨x, rfl, h904⟩ := scK_some h903
  obtain ⟨l, rfl, h905⟩ := cL_some h904
  obtain ⟨y, rfl, h906⟩ := scK_some h905
  obtain ⟨sep, rfl, h907⟩ := cS_some h906
  cases l with
  | nil => exact h907.elim
  | mk bk o n c =>
    have h907 : (match S.get bk with
      | some (.cells cs op) => req (Bool.and (Nat.ble (o + n) cs.length) (Nat.ble n 100000)) (optK (strsOf ((cs.drop o).take n)) fun ss => req (Nat.ble (joinS sep ss).length 100000000) (K (.one (.s (.str (joinS sep ss)))) S))
      | _ => False) := h907
    split at h907
    case h_2 => exact h907.elim
    rename_i cs op hg
    obtain ⟨hq, h908⟩ := req_and h907
    obtain ⟨ss, hss, h909⟩ := optK_some h908
    obtain ⟨hq2, h910⟩ := req_and h909
    simp only [Bool.and_eq_true] at hq
    have q1 := Nat.le_of_ble_eq_true hq.1
    have q2 := Nat.le_of_ble_eq_true hq.2
    have q3 := Nat.le_of_ble_eq_true hq2
    refine ⟨ents Go.Proofs.Tryz.func64 (by kernel_rfl) (by kernel_rfl), fun base ρ w vs hw hG hvs => ?_⟩
    cases hvs with
    | cons ha t => cases t with
      | cons hb t =>
        cases t
        rename_i va vb
        obtain ⟨r, sh, m, cc, o', hρ, rfl, ho, hnc, _⟩ := ha
        obtain ⟨sb, rfl, hp⟩ := hb
        obtain ⟨us, h1, h2, _⟩ := hw.read hg hρ
        have hlu := h1.length
        have h3 : All2 (SR ρ) ((cs.drop o).take n) ((us.drop o).take n) := (h1.drop o).take n
        obtain ⟨xs, hx1, hx2⟩ := strsOf_ok hss h3
        have hxl : xs.length = n := by
          have := congrArg List.length hx1
          simp at this; omega
        subst hxl
        have hp' : sb.data.toList.map f8 = sep := hp
        have hj : joinS sep ss = (Lib.join (xs.map (·.data.toList)) sb.data.toList).map f8 := by
          rw [← joinS_eq, hx2, ← hp', List.map_map]; rfl
        have hjl : (Lib.join (xs.map (·.data.toList)) sb.data.toList).length ≤ 100000000 := by
          rw [hj] at q3; simpa using q3
        refine (Go.Proofs.Tryz.strings_Join r o' cc xs sb w ?_ (hw.there hg hρ) (by omega) hnc (by omega)).mono ?_
        · intro j x hj2
          have hjlt : j < xs.length := (List.getElem?_eq_some_iff.1 hj2).1
          have ho' := ho (by omega)
          have e1 : ((us.drop o).take xs.length)[j]? = some (.string x) := by rw [hx1]; simp [hj2]
          rw [List.getElem?_take_of_lt hjlt, List.getElem?_drop] at e1
          have := h2 _ _ e1
          rw [ho', Nat.add_assoc]; exact this
        · rintro e w' ⟨rfl, hbel⟩
          refine ⟨_, S, _, ρ, h910, rfl, ⟨_, rfl, ?_⟩, Next.beyond hw hbel⟩
          show (Lib.join (xs.map (·.data.toList)) sb.data.toList).map f8 = _
          rw [hj]

/-- A builder that is a writer's first field: it is used from here on. -/
noncomputable def ccK (args : List AV) (S : St) (K : AV → St → Prop) : Prop :=
  uncA args fun a r => endL r (scK a fun x => SV.cP x fun p => PV.cs p fun b o => req (Nat.beq o 0) (match b with
    | .inp _ => False
    | .new k => match S.H.get k with
      | some (.cells l (.ty t)) => req (Bool.and (Nat.beq t 68) (Nat.beq l.length 2)) (uncK l fun v r => SV.cP v fun q => PV.rec (motive := fun _ => Prop)
          (K (.tup []) (S.put k (some (.cells (.ptr (.mk (.new k) 0) :: r) (.ty t)))))
          (fun b' o' => Bk.rec (motive := fun _ => Prop) (fun _ => False) (fun k' => req (Bool.and (Nat.beq k' k) (Nat.beq o' 0)) (K (.tup []) S)) b') q)
      | _ => False))
theorem ccK_ok {args S K} (h : ccK args S K) : CallE SynP SynG 65 args S K := by
  unfold ccK at h
  obtain ⟨a, r1, rfl, h1⟩ := uncA_some h
  obtain ⟨rfl, h2⟩ := endL_some h1
  obtain ⟨x, rfl, h3⟩ := scK_some h2
  obtain ⟨p, rfl, h4⟩ := cP_some h3
  obtain ⟨b, o, rfl, h5⟩ := PV.cs_mk h4
  obtain ⟨ho, h6⟩ := req_and h5
  obtain rfl := Nat.eq_of_beq_eq_true ho
  cases b with
  | inp _ => exact h6.elim
  | new k =>
  dsimp only at h6
  split at h6
  case h_2 => exact h6.elim
  rename_i l t hg
  obtain ⟨hq, h7⟩ := req_and h6
  simp only [Bool.and_eq_true] at hq
  obtain rfl := Nat.eq_of_beq_eq_true hq.1
  have hl2 := Nat.eq_of_beq_eq_true hq.2
  obtain ⟨v, r, rfl, h8⟩ := uncK_some h7
  obtain ⟨q, rfl, h9⟩ := cP_some h8
  refine ⟨ents Go.Proofs.Tryz.func65 (by kernel_rfl) (by kernel_rfl), fun base ρ w vs hw hG hvs => ?_⟩
  cases hvs with
  | cons ha tl =>
  cases tl
  rename_i va
  obtain ⟨rb, sh, m, hρ, rfl⟩ := ha
  obtain ⟨rb', sh', m', hρ', hO⟩ := hw.obj (.new k) _ hg
  rw [hρ] at hρ'; cases hρ'
  have hO : OR ρ (.cells (.ptr q :: r) (.ty 68)) sh m (w.heap[rb]?) := hO
  obtain ⟨pre, cs, post, tt, hob, hpre, hcs, hm, hop, htg⟩ := hO
  obtain ⟨rfl, rfl⟩ := htg 68 (.inl rfl)
  have hpost := hop rfl
  subst hpost
  have hpre0 : pre = [] := List.eq_nil_of_length_eq_zero hpre
  subst hpre0
  have hcl := hcs.length
  have hob : w.heap[rb]? = some (.cells cs.toArray 68 (0, 0)) := by simpa using hob
  cases hcs with
  | @cons _ c0 _ cr hc0 hcr =>
  have hsh : w.shape? rb = some (68, 2) := by
    simp [World.shape?, hob]
    simp at hcl; simp at hl2; omega
  have hcell : w.cell? ⟨rb, 0, none⟩ = some c0 := by simp [World.cell?, hob]
  have hfz : w.frozen? ⟨rb, 0, none⟩ = false := Lib.frozen_of_heap hob 0
  cases q with
  | nil =>
    obtain rfl : c0 = .pointer none := hc0
    refine (Go.Proofs.YtjifjbdlenmciaaGreatDoor.copyCheck_fresh rb w hcell hsh hfz).mono ?_
    rintro e w' ⟨rfl, rfl⟩
    have hn := hw.put (b := k) (ao := .cells (.ptr (.mk (.new k) 0) :: r) (.ty 68)) hg hρ (w' := w.setCell ⟨rb, 0, none⟩ (.pointer (some ⟨rb, 0, none⟩))) (by simp [World.setCell]) (fun j hj => by simp [World.setCell, Array.getElem?_modify, Ne.symm hj]) ⟨rfl, rfl, rfl⟩
      ⟨[], .pointer (some ⟨rb, 0, none⟩) :: cr, [], 68, by simp [World.setCell, Array.getElem?_modify, hob], rfl, .cons ⟨rb, 0, m, hρ, by simp⟩ hcr, by simpa using hm, fun _ => rfl, fun tg h => by rcases h with h | h <;> cases h; exact ⟨rfl, rfl⟩⟩
    exact ⟨_, _, _, ρ, h9, rfl, ⟨[], rfl, .nil⟩, hn⟩
  | mk b' o' =>
    cases b' with
    | inp _ => exact h9.elim
    | new k' =>
      obtain ⟨hq2, h10⟩ := req_and h9
      simp only [Bool.and_eq_true] at hq2
      obtain rfl := Nat.eq_of_beq_eq_true hq2.1
      obtain rfl := Nat.eq_of_beq_eq_true hq2.2
      obtain ⟨r2, sh2, m2, g1, rfl⟩ := hc0
      rw [hρ] at g1; cases g1
      refine (Go.Proofs.YtjifjbdlenmciaaGreatDoor.copyCheck_used rb w hcell).mono ?_
      rintro e w' ⟨rfl, rfl⟩
      exact ⟨_, _, _, ρ, h10, rfl, ⟨[], rfl, .nil⟩, .refl hw⟩

theorem bytesU {ρ : Ren} : ∀ {l : List SV} {m}, bytesOfL l = some m → ∀ {vs : List Value}, All2 (SR ρ) l vs → ∃ bs : List UInt8, m = bs.map f8 ∧ vs = bs.map fun b => Value.int .u8 b.toNat
  | [], m, h, _, .nil => by cases h; exact ⟨[], rfl, rfl⟩
  | a :: l, m, h, _, .cons (b := v) ha t => by
    unfold bytesOfL at h
    split at h
    · rename_i hh; cases hh
    · rename_i n l' hh
      cases hh
      cases hn : Nat.blt n 256 with
      | false => rw [hn] at h; cases h
      | true =>
        rw [hn] at h
        simp only [cond_true] at h
        split at h
        · rename_i m' hm
          cases h
          rw [blt_iff] at hn
          obtain ⟨bs, h1, h2⟩ := bytesU hm t
          have e : f8 (UInt8.ofNat n) = n := by simp [f8, Nat.mod_eq_of_lt hn]
          refine ⟨UInt8.ofNat n :: bs, by simp only [List.map_cons, e, h1], ?_⟩
          rw [show v = .int .u8 (Int.ofNat n) from ha]
          simp only [List.map_cons, h2]
          rw [show (UInt8.ofNat n).toNat = n from e]; rfl
        · cases h
    · cases h
noncomputable def bufK (S : St) (b2 : Bk) (o2 n : Nat) (K : AV → St → Prop) : Prop := match b2 with
  | .inp _ => False
  | .new k => match S.H.get k with
    | some (.cells l (.gt t)) => req (Bool.and (Nat.beq t 5) (Bool.and (Nat.beq o2 0) (Bool.and (Nat.ble n l.length) (Bool.and (Nat.ble n 1000000) (Nat.blt 0 n))))) (optK (bytesOfL (l.take n)) fun s => K (.one (.s (.str s))) (S.put k none))
    | _ => False
noncomputable def stringK (args : List AV) (S : St) (K : AV → St → Prop) : Prop :=
  uncA args fun a r => endL r (scK a fun x => SV.cP x fun p => PV.cs p fun b o => req (Nat.beq o 0) (match S.get b with
    | some (.cells l (.ty t)) => uncK l fun _ r => uncK r fun v _ => SV.cL v fun lv => LV.rec (motive := fun _ => Prop) (K (.one (.s (.str []))) S) (fun b2 o2 n2 _ => bufK S b2 o2 n2 K) lv
    | _ => False))
theorem stringK_ok {args S K} (h : stringK args S K) : CallE SynP SynG 22 args S K := by
  unfold stringK at h
  obtain ⟨a, r1, rfl, h1⟩ := uncA_some h
  obtain ⟨rfl, h2⟩ := endL_some h1
  obtain ⟨x, rfl, h3⟩ := scK_some h2
  obtain ⟨p, rfl, h4⟩ := cP_some h3
  obtain ⟨b, o, rfl, h5⟩ := PV.cs_mk h4
  obtain ⟨ho, h6⟩ := req_and h5
  obtain rfl := Nat.eq_of_beq_eq_true ho
  clear h h1 h2 h3 h4 h5
  split at h6
  case h_2 => exact h6.elim
  rename_i l t hg
  obtain ⟨v0, r2, rfl, h7⟩ := uncK_some h6
  obtain ⟨v1, r3, rfl, h8⟩ := uncK_some h7
  obtain ⟨lv, rfl, h9⟩ := cL_some h8
  clear h6 h7 h8
  refine ⟨ents Go.Proofs.Tryz.func22 (by kernel_rfl) (by kernel_rfl), fun base ρ w vs hw hG hvs => ?_⟩
  cases hvs with
  | cons ha tl =>
  cases tl
  obtain ⟨rb, sh, m, hρ, rfl⟩ := ha
  obtain ⟨rb', sh', m', hρ', hO⟩ := hw.obj b _ hg
  rw [hρ] at hρ'; cases hρ'
  obtain ⟨_, _, _, tt, _, _, _, _, _, htg⟩ := hO.thawed
  obtain ⟨_, rfl⟩ := htg t (.inl rfl)
  obtain ⟨us, g1, g2, _⟩ := hw.read hg hρ
  cases g1 with
  | @cons _ c0 _ cr hc0 hcr =>
  cases hcr with
  | @cons _ c1 _ cr2 hc1 hcr2 =>
  have hcell : w.cell? ⟨rb, 1, none⟩ = some c1 := g2 1 c1 rfl
  cases lv with
  | nil =>
    obtain rfl : c1 = .slice none 0 0 := hc1
    refine (Go.Proofs.YtjifjbdlenmciaaGreatDoor.string_nil rb w hcell).mono ?_
    rintro e w' ⟨rfl, rfl⟩
    exact ⟨_, S, _, ρ, h9, rfl, ⟨_, rfl, rfl⟩, (Next.refl (hw.drew (w' := w.drew) rfl)).drew rfl ⟨rfl, rfl, rfl⟩⟩
  | mk b2 o2 n c =>
    have h9 : bufK S b2 o2 n K := h9
    unfold bufK at h9
    cases b2 with
    | inp _ => exact h9.elim
    | new k =>
    dsimp only at h9
    split at h9
    case h_2 => exact h9.elim
    rename_i l2 t2 hg2
    obtain ⟨hq, h10⟩ := req_and h9
    obtain ⟨s, hs, h11⟩ := optK_some h10
    simp only [Bool.and_eq_true] at hq
    obtain ⟨q1, q2, q3, q4, q5⟩ := hq
    obtain rfl := Nat.eq_of_beq_eq_true q1
    obtain rfl := Nat.eq_of_beq_eq_true q2
    have q3 := Nat.le_of_ble_eq_true q3
    have q4 := Nat.le_of_ble_eq_true q4
    rw [blt_iff] at q5
    obtain ⟨g, sh2, m2, cc, o', hρ2, rfl, ho2, hnc, _⟩ := hc1
    obtain ⟨g', sh', m', hρ', hO2⟩ := hw.obj (.new k) _ hg2
    rw [hρ2] at hρ'; cases hρ'
    have hO2 : OR ρ (.cells l2 (.gt 5)) sh2 m2 (w.heap[g]?) := hO2
    obtain ⟨pre, cs, post, tt, hob, hpre, hcs, hm, hop, htg2⟩ := hO2
    obtain ⟨rfl, rfl⟩ := htg2 5 (.inr rfl)
    have hpre0 : pre = [] := List.eq_nil_of_length_eq_zero hpre
    subst hpre0
    have ho3 := ho2 (by omega)
    simp only [Nat.add_zero, Nat.zero_add] at ho3
    subst ho3
    obtain ⟨bs, e1, e2⟩ := bytesU hs (hcs.take n)
    have hcl := hcs.length
    have hbl : bs.length = n := by
      have := congrArg List.length e2
      simp at this; omega
    subst hbl
    have hbn : bs ≠ [] := by intro e; rw [e] at q5; simp at q5
    refine (Go.Proofs.YtjifjbdlenmciaaGreatDoor.string_some rb g 0 (cs ++ post).length cc bs w hbn hcell (by omega) (by simp [World.shape?, hob]) (by simp; omega) (by omega) ?_).mono ?_
    · intro j x hj
      have hjl := (List.getElem?_eq_some_iff.1 hj).1
      have e3 : (cs.take bs.length)[j]? = some (.int .u8 x.toNat) := by rw [e2]; simp [hj]
      rw [List.getElem?_take_of_lt hjl] at e3
      have hjc : j < cs.length := (List.getElem?_eq_some_iff.1 e3).1
      simp only [World.cell?, hob]
      simp [List.getElem?_append_left hjc, e3]
    · rintro e w' ⟨rfl, rfl⟩
      refine ⟨_, _, _, ρ, h11, rfl, ⟨_, rfl, ?_⟩, hw.kill hg2 hρ2 ?_ ?_ ?_⟩
      · show bs.map f8 = s; exact e1.symm
      · simp only [World.freeze]; split <;> simp
      · intro j hj
        simp only [World.freeze]
        split
        · rfl
        · rw [Array.getElem?_modify, if_neg (Ne.symm hj)]; rfl
      · simp only [World.freeze]; split <;> exact ⟨rfl, rfl, rfl⟩
end Go.Xe
