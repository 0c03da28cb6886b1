/- What lex.Tokens answers, in plain Lean: tokens_ev. Out of the texts LP1..LP8 (assemble.py). -/
import Derived.Test.YtiljijckfkphhaaDoorLxMore
import Derived.Test.YtiljijckfkphhaaDoorPLexAw
import Derived.Test.YtiljijckfkphhaaDoorPLexx1
import Derived.Test.YtiljijckfkphhaaDoorPLexx2
namespace Go.Proofs.YtiljijckfkphhaaDoor.PLex
open Go.RowKit Go.Proofs.YtiljijckfkphhaaDoorW.PrintWords Go.Proofs.YtiljijckfkphhaaDoorW.PrintLast Go.Proofs.YtiljijckfkphhaaDoorW.PrintMore
set_option linter.unusedVariables false
set_option linter.unusedSectionVars false
set_option linter.unusedSimpArgs false
section

/- With enough rounds. -/
def Ev {α : Type} (f : Nat → Option α) (r : α) : Prop := ∃ k0, ∀ k, k0 ≤ k → f k = some r
theorem Ev.const {α : Type} {x : Option α} {r : α} (h : x = some r) : Ev (fun _ => x) r := ⟨0, fun _ _ => h⟩
theorem Ev.bind {α β : Type} {f : Nat → Option α} {g : Nat → α → Option β} {x : α} {r : β} (h : Ev f x) (k : Ev (fun n => g n x) r) : Ev (fun n => (f n).bind (g n)) r := by
  obtain ⟨a, ha⟩ := h; obtain ⟨b, hb⟩ := k
  exact ⟨max a b, fun n hn => by show (f n).bind (g n) = _; rw [ha n (by omega)]; exact hb n (by omega)⟩
theorem Ev.step {α : Type} {F f : Nat → Option α} {r : α} (h : Ev f r) (e : ∀ k, F (k + 1) = f k) : Ev F r := by
  obtain ⟨a, ha⟩ := h
  exact ⟨a + 1, fun n hn => by obtain ⟨m, rfl⟩ : ∃ m, n = m + 1 := ⟨n - 1, by omega⟩; rw [e]; exact ha m (by omega)⟩
theorem Ev.congr {α : Type} {F f : Nat → Option α} {r : α} (h : Ev f r) (e : ∀ k, F k = f k) : Ev F r := by
  obtain ⟨a, ha⟩ := h; exact ⟨a, fun n hn => by rw [e]; exact ha n hn⟩
theorem Ev.some {α : Type} {f : Nat → Option α} {r : α} (h : Ev f r) : ∃ k, f k = some r := let ⟨a, ha⟩ := h; ⟨a, ha a (Nat.le_refl _)⟩

/- Texts as lists. -/
abbrev Ls (s : ByteArray) : List UInt8 := s.data.toList
theorem Ls_size (s : ByteArray) : (Ls s).length = s.size := by simp
theorem Ls_ext (s : ByteArray) (a b : Nat) : Ls (s.extract a b) = ((Ls s).drop a).take (b - a) := by
  simp [Ls, ByteArray.data_extract]
theorem Ls_rest (s : ByteArray) (a : Nat) : Ls (s.extract a s.size) = (Ls s).drop a := by
  rw [Ls_ext, List.take_of_length_le (by simp)]
theorem toList_Ls (s : ByteArray) : s.toList = Ls s := ByteArray.toList_eq s
theorem bt_L (s : ByteArray) (i : Nat) : bt s (i : Int) = (((Ls s).getD i 0).toNat : Int) := by
  unfold bt
  by_cases h : i < s.size
  · have h' : i < (Ls s).length := by simpa using h
    simp only [Int.toNat_natCast, h, dite_true, List.getD_eq_getElem?_getD, List.getElem?_eq_getElem h']
    rfl
  · have h' : ¬ i < (Ls s).length := by simpa using h
    simp only [Int.toNat_natCast, h, dite_false, List.getD_eq_getElem?_getD, List.getElem?_eq_none (Nat.le_of_not_lt h')]
    rfl
theorem w64 (i : Nat) (h : i < 1000000) : wrap64 (i : Int) = i := by unfold wrap64; omega

/- What stands between tokens. -/
def ws (c : UInt8) : Bool := c == 32 || c == 9 || c == 10 || c == 13
def lineN (l : List UInt8) : Nat := if Lib.indexAny l [10, 13] < 0 then l.length else (Lib.indexAny l [10, 13]).toNat
/-- How far the gap goes; false: a comment does not end, there. -/
def gapF : Nat → List UInt8 → Bool × Nat
  | 0, _ => (true, 0)
  | k + 1, l => match l with
    | [] => (true, 0)
    | c :: t =>
      if ws c then ((gapF k t).1, 1 + (gapF k t).2)
      else if [47, 47].isPrefixOf (c :: t) then ((gapF k ((c :: t).drop (lineN (c :: t)))).1, lineN (c :: t) + (gapF k ((c :: t).drop (lineN (c :: t)))).2)
      else if [47, 42].isPrefixOf (c :: t) then
        (if Lib.index (t.drop 1) [42, 47] < 0 then (false, 0) else
          ((gapF k (t.drop (1 + (Lib.index (t.drop 1) [42, 47]).toNat + 2))).1, (Lib.index (t.drop 1) [42, 47]).toNat + 4 + (gapF k (t.drop (1 + (Lib.index (t.drop 1) [42, 47]).toNat + 2))).2))
      else (true, 0)
def gapS (l : List UInt8) : Bool × Nat := gapF l.length l

theorem indexAny_lt (cs : List UInt8) : ∀ l : List UInt8, Lib.indexAny l cs < 0 ∨ (0 ≤ Lib.indexAny l cs ∧ Lib.indexAny l cs < l.length)
  | [] => .inl (by unfold Lib.indexAny; decide)
  | b :: l => by
    have ih := indexAny_lt cs l
    unfold Lib.indexAny
    split
    · exact .inr ⟨Int.le_refl _, by simp⟩
    · split
      · exact .inl (by decide)
      · rename_i h
        rcases ih with ih | ih
        · have := Lib.indexAny_ge cs l
          have : Lib.indexAny l cs = -1 := by omega
          simp [this] at h
        · refine .inr ⟨by omega, ?_⟩; simp only [List.length_cons]; omega
theorem index_lt (sub : List UInt8) : ∀ l : List UInt8, Lib.index l sub < 0 ∨ (0 ≤ Lib.index l sub ∧ Lib.index l sub + sub.length ≤ l.length)
  | [] => by unfold Lib.index; cases sub <;> simp
  | b :: l => by
    have ih := index_lt sub l
    unfold Lib.index
    split
    · rename_i h
      refine .inr ⟨Int.le_refl _, ?_⟩
      have := (List.isPrefixOf_iff_prefix.1 h).length_le
      omega
    · split
      · exact .inl (by decide)
      · rename_i h
        rcases ih with ih | ih
        · have := Lib.index_ge l sub
          have : Lib.index l sub = -1 := by omega
          simp [this] at h
        · refine .inr ⟨by omega, ?_⟩; simp only [List.length_cons]; omega
theorem lineN_le (l : List UInt8) : lineN l ≤ l.length := by
  unfold lineN; split
  · exact Nat.le_refl _
  · rcases indexAny_lt [10, 13] l with h | h <;> omega
theorem lineN_pos (c : UInt8) (t : List UInt8) (h : ws c = false) : 1 ≤ lineN (c :: t) := by
  unfold lineN
  split
  · simp
  · rename_i hn
    have : ¬ ([10, 13] : List UInt8).contains c = true := by
      have h1 : c ≠ 10 := by rintro rfl; exact absurd h (by decide)
      have h2 : c ≠ 13 := by rintro rfl; exact absurd h (by decide)
      simp [h1, h2]
    unfold Lib.indexAny at hn ⊢
    rw [if_neg this] at hn ⊢
    split
    · rename_i h2; rw [if_pos h2] at hn; exact absurd (by decide) hn
    · rename_i h2
      have := Lib.indexAny_ge [10, 13] t
      have : Lib.indexAny t [10, 13] ≠ -1 := by simpa using h2
      omega

theorem gapF_more : ∀ (k : Nat) (l : List UInt8), l.length ≤ k → ∀ j, l.length ≤ j → gapF k l = gapF j l := by
  intro k
  induction k with
  | zero =>
    intro l h j hj
    have : l = [] := List.length_eq_zero_iff.1 (by omega)
    subst this
    cases j <;> rfl
  | succ k ih =>
    intro l h j hj
    cases l with
    | nil => cases j <;> rfl
    | cons c t =>
      obtain ⟨j, rfl⟩ : ∃ m, j = m + 1 := ⟨j - 1, by simp at hj; omega⟩
      simp only [List.length_cons] at h hj
      simp only [gapF]
      split
      · rw [ih t (by omega) j (by omega)]
      · rename_i hw
        have hp := lineN_pos c t (by simpa using hw)
        have hl := lineN_le (c :: t)
        rw [ih ((c :: t).drop (lineN (c :: t))) (by simp; omega) j (by simp; omega)]
        rw [ih (t.drop (1 + (Lib.index (t.drop 1) [42, 47]).toNat + 2)) (by simp; omega) j (by simp; omega)]
theorem gapF_le : ∀ (k : Nat) (l : List UInt8), (gapF k l).2 ≤ l.length := by
  intro k
  induction k with
  | zero => intro l; simp [gapF]
  | succ k ih =>
    intro l
    cases l with
    | nil => simp [gapF]
    | cons c t =>
      simp only [gapF]
      split
      · have := ih t; simp; omega
      · split
        · have := ih ((c :: t).drop (lineN (c :: t))); have hl := lineN_le (c :: t)
          simp only [List.length_drop] at this
          simp only; omega
        · split
          · split
            · simp
            · rename_i hi
              have := ih (t.drop (1 + (Lib.index (t.drop 1) [42, 47]).toNat + 2))
              rcases index_lt [42, 47] (t.drop 1) with h | h
              · omega
              · simp only [List.length_drop, List.length_cons, List.length_nil] at this h ⊢; omega
          · simp
theorem gapS_eq (l : List UInt8) {k : Nat} (h : l.length ≤ k) : gapF k l = gapS l := gapF_more k l h _ (Nat.le_refl _)

theorem ib_ws (c : UInt8) : Lib.indexByte [32, 9, 10, 13] c ≥ 0 ↔ ws c = true := by
  unfold ws
  by_cases h1 : c = 32
  · subst h1; decide
  · by_cases h2 : c = 9
    · subst h2; decide
    · by_cases h3 : c = 10
      · subst h3; decide
      · by_cases h4 : c = 13
        · subst h4; decide
        · have e : ∀ (a : UInt8), c ≠ a → (a == c) = false := fun a h => by simp; exact fun e => h e.symm
          simp [Lib.indexByte, e 32 h1, e 9 h2, e 10 h3, e 13 h4, h1, h2, h3, h4]

theorem hpB_L (R p : ByteArray) : hpB R p = (Ls p).isPrefixOf (Ls R) := by
  unfold hpB
  rw [Bool.eq_iff_iff]
  constructor
  · intro h
    split at h
    · rename_i hle
      have : (R.extract 0 p.size).toList = p.toList := by simpa using h
      rw [toList_Ls, toList_Ls, Ls_ext] at this
      rw [List.isPrefixOf_iff_prefix, ← this]
      simp; exact List.take_prefix _ _
    · cases h
  · intro h
    rw [List.isPrefixOf_iff_prefix] at h
    have hl := h.length_le
    rw [if_pos (by simpa using hl)]
    rw [toList_Ls, toList_Ls, Ls_ext]
    simp only [List.drop_zero, Nat.sub_zero, beq_iff_eq]
    have := List.prefix_iff_eq_take.1 h
    rw [this]; simp

set_option maxHeartbeats 1000000 in
theorem gap_ev (s : ByteArray) (hs : s.size ≤ 100000) : ∀ (d a : Nat), s.size - a ≤ d → a ≤ s.size → Ev (fun k => lex_reader_gap.l0 k s (a : Int)) ((gapS ((Ls s).drop a)).1, s, ((a + (gapS ((Ls s).drop a)).2 : Nat) : Int)) := by
  intro d
  induction d with
  | zero =>
    intro a hd ha
    have : a = s.size := by omega
    subst this
    have e : (Ls s).drop s.size = [] := by simp
    rw [e]
    refine Ev.step (f := fun _ => some (true, s, (s.size : Int))) (Ev.const (by simp [gapS, gapF])) fun k => ?_
    simp only [lex_reader_gap.l0]
    rw [if_neg (by omega)]
  | succ d ih =>
    intro a hd ha
    by_cases hlt : a < s.size
    · -- a byte is there
      have hRl : Ls (s.extract a s.size) = (Ls s).drop a := Ls_rest s a
      have hRs : (s.extract a s.size).size = s.size - a := by simp
      obtain ⟨c, t, hct⟩ : ∃ c t, (Ls s).drop a = c :: t := by
        cases h : (Ls s).drop a with
        | nil => have := congrArg List.length h; simp at this; omega
        | cons c t => exact ⟨c, t, rfl⟩
      have htl : t.length = s.size - a - 1 := by have := congrArg List.length hct; simp at this; omega
      have hbt : bt (s.extract a s.size) 0 = (c.toNat : Int) := by
        have := bt_L (s.extract a s.size) 0
        rw [hRl, hct] at this; exact this
      have hcc : (c.toNat : Int).toNat.toUInt8 = c := by simp
      have hdrop : ∀ m, (Ls s).drop (a + m) = (c :: t).drop m := fun m => by rw [← List.drop_drop, hct]
      have hg : ∀ m, 1 ≤ m → m ≤ t.length + 1 → gapF t.length ((c :: t).drop m) = gapS ((Ls s).drop (a + m)) := fun m h1 h2 => by
        rw [hdrop]; exact gapS_eq _ (by simp; omega)
      have hgs : gapS ((Ls s).drop a) = gapF (t.length + 1) (c :: t) := by rw [hct]; rfl
      rw [hgs]
      have hunf : ∀ k, lex_reader_gap.l0 (k + 1) s (a : Int) = (if ws c = true then lex_reader_gap.l0 k s (wrap64 ((a : Int) + 1)) else
          if [47, 47].isPrefixOf (c :: t) = true then lex_reader_gap.l0 k s (wrap64 ((a : Int) + (lineN (c :: t) : Int))) else
          if [47, 42].isPrefixOf (c :: t) = true then (if Lib.index (t.drop 1) [42, 47] < 0 then some (false, s, (a : Int)) else lex_reader_gap.l0 k s (wrap64 ((a : Int) + wrap64 (Lib.index (t.drop 1) [42, 47] + 4)))) else some (true, s, (a : Int))) := by
        intro k
        simp only [lex_reader_gap.l0]
        rw [if_pos (by omega), if_pos (by omega), if_pos (by omega)]
        simp only [Int.toNat_natCast]
        rw [if_pos (by rw [hRs]; omega)]
        rw [hbt]
        have e1 : Lx.IndexByte.f (⟨#[32, 9, 10, 13]⟩ : ByteArray) (c.toNat : Int) = some (Lib.indexByte [32, 9, 10, 13] c) := by
          unfold Lx.IndexByte.f; rw [hcc]
        have e2 : ∀ p : ByteArray, strings_HasPrefix.f (s.extract a s.size) p = some ((Ls p).isPrefixOf (c :: t)) := fun p => by rw [hp_eq, hpB_L, hRl, hct]
        have e3 : Lx.IndexAny.f (s.extract a s.size) (⟨#[10, 13]⟩ : ByteArray) = some (Lib.indexAny (c :: t) [10, 13]) := by
          unfold Lx.IndexAny.f; rw [if_pos ⟨by rw [hRs]; omega, rfl⟩]; rw [show (s.extract a s.size).data.toList = c :: t from by rw [← hct]; exact hRl]
        have e4 : Lx.Index.f ((s.extract a s.size).extract 2 (s.extract a s.size).size) (⟨#[42, 47]⟩ : ByteArray) = some (Lib.index (t.drop 1) [42, 47]) := by
          have hl2 : Ls ((s.extract a s.size).extract 2 (s.extract a s.size).size) = t.drop 1 := by rw [Ls_rest, hRl, hct]; rfl
          unfold Lx.Index.f; rw [if_pos (by have := congrArg List.length hl2; rw [Ls_size] at this; rw [this]; simp; omega)]; rw [show ((s.extract a s.size).extract 2 (s.extract a s.size).size).data.toList = t.drop 1 from hl2]
        rw [e1, e2, e3, e2, e4]
        simp only [Option.bind_some]
        by_cases hw : ws c = true
        · rw [if_pos ((ib_ws c).2 hw), if_pos hw]
        · rw [if_neg (fun h => hw ((ib_ws c).1 h)), if_neg hw]
          by_cases h1 : [47, 47].isPrefixOf (c :: t) = true
          · have h1' : (Ls (⟨#[47, 47]⟩ : ByteArray)).isPrefixOf (c :: t) = true := h1
            rw [if_pos h1', if_pos h1]
            have hl := indexAny_lt [10, 13] (c :: t)
            unfold lineN
            split
            · rw [hRs]
              have hh : (List.length (c :: t) : Int) = ((s.size - a : Nat) : Int) := by simp; omega
              rw [hh]
            · have hh : Lib.indexAny (c :: t) [10, 13] = (((Lib.indexAny (c :: t) [10, 13]).toNat : Nat) : Int) := by omega
              rw [← hh]
          · have h1' : ¬ (Ls (⟨#[47, 47]⟩ : ByteArray)).isPrefixOf (c :: t) = true := h1
            rw [if_neg h1', if_neg h1]
            by_cases h2 : [47, 42].isPrefixOf (c :: t) = true
            · have h2' : (Ls (⟨#[47, 42]⟩ : ByteArray)).isPrefixOf (c :: t) = true := h2
              rw [if_pos h2', if_pos h2]
              have hlen : 2 ≤ (c :: t).length := (List.isPrefixOf_iff_prefix.1 h2).length_le
              rw [if_pos (by rw [hRs]; simp at hlen; omega)]
            · have h2' : ¬ (Ls (⟨#[47, 42]⟩ : ByteArray)).isPrefixOf (c :: t) = true := h2
              rw [if_neg h2', if_neg h2]
      simp only [gapF]
      have go : ∀ m, 1 ≤ m → m ≤ t.length + 1 → Ev (fun k => lex_reader_gap.l0 k s ((a + m : Nat) : Int)) ((gapF t.length ((c :: t).drop m)).1, s, ((a + (m + (gapF t.length ((c :: t).drop m)).2) : Nat) : Int)) := by
        intro m h1 h2
        rw [hg m h1 h2, ← Nat.add_assoc]
        exact ih (a + m) (by omega) (by omega)
      by_cases hw : ws c = true
      · simp only [hw, if_true]
        refine Ev.step (go 1 (by omega) (by omega)) fun k => ?_
        rw [hunf, if_pos hw]
        rw [show (a : Int) + 1 = ((a + 1 : Nat) : Int) by omega, w64 _ (by omega)]
      · simp only [hw, if_false]
        have hp := lineN_pos c t (by simpa using hw)
        have hl := lineN_le (c :: t)
        simp only [List.length_cons] at hl
        by_cases h1 : [47, 47].isPrefixOf (c :: t) = true
        · simp only [h1, if_true]
          refine Ev.step (go (lineN (c :: t)) hp (by omega)) fun k => ?_
          rw [hunf, if_neg hw, if_pos h1]
          rw [show (a : Int) + (lineN (c :: t) : Int) = ((a + lineN (c :: t) : Nat) : Int) by omega, w64 _ (by omega)]
        · simp only [h1, if_false]
          by_cases h2 : [47, 42].isPrefixOf (c :: t) = true
          · simp only [h2, if_true]
            have hx := index_lt [42, 47] (t.drop 1)
            by_cases h3 : Lib.index (t.drop 1) [42, 47] < 0
            · simp only [h3, if_true]
              refine Ev.step (f := fun _ => some (false, s, (a : Int))) (Ev.const rfl) fun k => ?_
              rw [hunf, if_neg hw, if_neg h1, if_pos h2, if_pos h3]
            · simp only [h3, if_false]
              have hx' : Lib.index (t.drop 1) [42, 47] + 2 ≤ ((t.drop 1).length : Int) := by
                rcases hx with h | h
                · omega
                · exact h.2
              simp only [List.length_drop] at hx'
              have := go ((Lib.index (t.drop 1) [42, 47]).toNat + 4) (by omega) (by omega)
              have e : (c :: t).drop ((Lib.index (t.drop 1) [42, 47]).toNat + 4) = t.drop (1 + (Lib.index (t.drop 1) [42, 47]).toNat + 2) := by
                rw [show (Lib.index (t.drop 1) [42, 47]).toNat + 4 = (1 + (Lib.index (t.drop 1) [42, 47]).toNat + 2) + 1 by omega]; rfl
              rw [e] at this
              refine Ev.step this fun k => ?_
              rw [hunf, if_neg hw, if_neg h1, if_pos h2, if_neg h3]
              have e5 : wrap64 (Lib.index (t.drop 1) [42, 47] + 4) = (((Lib.index (t.drop 1) [42, 47]).toNat + 4 : Nat) : Int) := by unfold wrap64; omega
              rw [e5, show (a : Int) + (((Lib.index (t.drop 1) [42, 47]).toNat + 4 : Nat) : Int) = ((a + ((Lib.index (t.drop 1) [42, 47]).toNat + 4) : Nat) : Int) by omega, w64 _ (by omega)]
          · simp only [h2, if_false]
            refine Ev.step (f := fun _ => some (true, s, (a : Int))) (Ev.const rfl) fun k => ?_
            rw [hunf, if_neg hw, if_neg h1, if_neg h2]
    · have : a = s.size := by omega
      subst this
      exact ih _ (by omega) ha
end
section

/- Digits. -/
def hexV (c : UInt8) : Option Nat :=
  if 48 ≤ c.toNat ∧ c.toNat ≤ 57 then some (c.toNat - 48) else if 97 ≤ c.toNat ∧ c.toNat ≤ 102 then some (c.toNat - 87) else if 65 ≤ c.toNat ∧ c.toNat ≤ 70 then some (c.toNat - 55) else none
def valS (b : Nat) (c : UInt8) : Option Nat := match hexV c with
  | some v => if v < b then some v else none
  | none => none
def valI (b : Nat) (c : UInt8) : Int := match valS b c with | some v => v | none => -1
theorem valS_lt {b c v} (h : valS b c = some v) : v < b := by
  unfold valS at h; split at h
  · split at h
    · cases h; assumption
    · cases h
  · cases h

theorem value_ev (c : UInt8) (b : Nat) (hb : b = 10 ∨ b = 16) : Ev (fun k => lex_value.f k (c.toNat : Int) (b : Int)) (valI b c) := by
  have hc : c.toNat < 256 := c.toNat_lt
  have hwb : wrap64 (b : Int) = b := by unfold wrap64; omega
  refine ⟨3, fun k hk => ?_⟩
  obtain ⟨k, rfl⟩ : ∃ m, k = m + 1 + 1 := ⟨k - 2, by omega⟩
  simp only [lex_value.f, digit_eq, Option.bind_some, hwb]
  by_cases h1 : 48 ≤ c.toNat ∧ c.toNat ≤ 57
  · have hd : digitB (c.toNat : Int) = true := by unfold digitB; simp; omega
    rw [if_pos hd]
    have e : ((c.toNat : Int) - 48) % 256 = ((c.toNat - 48 : Nat) : Int) := by omega
    rw [e]
    unfold valI valS hexV
    rw [if_pos h1]
    by_cases h2 : c.toNat - 48 < b
    · rw [if_neg (by omega)]; simp [h2]
    · rw [if_pos (by omega)]; simp [h2]
  · have hd : ¬ digitB (c.toNat : Int) = true := by unfold digitB; simp; omega
    rw [if_neg hd]
    by_cases h2 : 97 ≤ c.toNat ∧ c.toNat ≤ 102
    · rw [if_pos (by omega)]
      have hle : decide ((c.toNat : Int) ≤ 102) = true := by simp; omega
      rw [hle]
      simp only [lex_value.j0, if_true, hwb]
      have e : ((c.toNat : Int) - 97) % 256 + 10 = ((c.toNat - 87 : Nat) : Int) := by omega
      rw [e]
      unfold valI valS hexV
      rw [if_neg h1, if_pos h2]
      by_cases h3 : c.toNat - 87 < b
      · rw [if_neg (by omega)]; simp [h3]
      · rw [if_pos (by omega)]; simp [h3]
    · have hj : ∀ (x : Bool), x = false → lex_value.j0 (k + 1 + 1) (c.toNat : Int) (b : Int) (-1) x = some (valI b c) := by
        rintro x rfl
        simp only [lex_value.j0, if_false, Bool.false_eq_true, hwb]
        by_cases h3 : 65 ≤ c.toNat ∧ c.toNat ≤ 70
        · rw [if_pos (by omega)]
          have hle : decide ((c.toNat : Int) ≤ 70) = true := by simp; omega
          rw [hle]
          simp only [lex_value.j1, if_true, hwb]
          have e : ((c.toNat : Int) - 65) % 256 + 10 = ((c.toNat - 55 : Nat) : Int) := by omega
          rw [e]
          unfold valI valS hexV
          rw [if_neg h1, if_neg h2, if_pos h3]
          by_cases h4 : c.toNat - 55 < b
          · rw [if_neg (by omega)]; simp [h4]
          · rw [if_pos (by omega)]; simp [h4]
        · have hv : valI b c = -1 := by unfold valI valS hexV; rw [if_neg h1, if_neg h2, if_neg h3]
          rw [hv]
          have hj1 : ∀ (x : Bool), x = false → lex_value.j1 (k + 1) (c.toNat : Int) (b : Int) (-1) x = some (-1) := by
            rintro x rfl
            simp only [lex_value.j1, if_false, Bool.false_eq_true, hwb]
            rw [if_neg (by omega)]
          by_cases h4 : (c.toNat : Int) ≥ 65
          · rw [if_pos h4]; exact hj1 _ (decide_eq_false (by omega))
          · rw [if_neg h4]; exact hj1 _ rfl
      by_cases h3 : (c.toNat : Int) ≥ 97
      · rw [if_pos h3]; exact hj _ (decide_eq_false (by omega))
      · rw [if_neg h3]; exact hj _ rfl

/-- The digits' number. -/
def valN (b : Nat) : Nat → List UInt8 → Nat
  | n, [] => n
  | n, c :: l => match valS b c with
    | some v => valN b (n * b + v) l
    | none => n
def isV (b : Nat) (c : UInt8) : Bool := (valS b c).isSome

theorem valN_ge (b : Nat) (hb : 1 ≤ b) : ∀ (l : List UInt8) (n : Nat), n ≤ valN b n l
  | [], n => Nat.le_refl _
  | c :: l, n => by
    simp only [valN]
    split
    · rename_i v hv
      have := valN_ge b hb l (n * b + v)
      have : n ≤ n * b := Nat.le_mul_of_pos_right _ hb
      omega
    · exact Nat.le_refl _

theorem u64w (x : Int) (n : Nat) (h : x = n) : IntKind.u64.wrap x = ((n % 18446744073709551616 : Nat) : Int) := by
  rw [IntKind.wrap_u64, h]; omega

theorem num_step (N b v : Nat) (hb : b = 10 ∨ b = 16) (hv : v < b) :
    IntKind.u64.wrap (IntKind.u64.wrap (((N % 18446744073709551616 : Nat) : Int) * (b : Int)) + IntKind.u64.wrap (v : Int)) = (((N * b + v) % 18446744073709551616 : Nat) : Int) := by
  have h10 : ((10 : Nat) : Int) = 10 := rfl
  have h16 : ((16 : Nat) : Int) = 16 := rfl
  rcases hb with rfl | rfl <;> (simp only [IntKind.wrap_u64, h10, h16]; omega)
theorem large_step (N b v : Nat) (hb : b = 10 ∨ b = 16) (hv : v < b) (hN : N < 18446744073709551616) :
    decide (((N % 18446744073709551616 : Nat) : Int) > IntKind.u64.wrap (Int.tdiv (IntKind.u64.wrap (18446744073709551615 - IntKind.u64.wrap (v : Int))) (b : Int))) = decide (18446744073709551616 ≤ N * b + v) := by
  have e1 : IntKind.u64.wrap (18446744073709551615 - IntKind.u64.wrap (v : Int)) = ((18446744073709551615 - v : Nat) : Int) := by
    simp only [IntKind.wrap_u64]; rcases hb with rfl | rfl <;> omega
  have e2 : Int.tdiv ((18446744073709551615 - v : Nat) : Int) (b : Int) = (((18446744073709551615 - v) / b : Nat) : Int) := by
    rw [Int.tdiv_eq_ediv_of_nonneg (by omega)]; rfl
  rw [e1, e2, IntKind.wrap_u64]
  rw [decide_eq_decide]
  have h10 : ((10 : Nat) : Int) = 10 := rfl
  have h16 : ((16 : Nat) : Int) = 16 := rfl
  rcases hb with rfl | rfl <;> omega
end
section

theorem w64s (i : Nat) (h : i ≤ 100000) : wrap64 ((i : Int) + 1) = ((i + 1 : Nat) : Int) := by unfold wrap64; omega
theorem nI (n m : Nat) (h : n = m) : (n : Int) = (m : Int) := by rw [h]
theorem nNe (n m : Nat) (h : n ≠ m) : ¬ ((n : Int) = (m : Int)) := by omega
theorem nI0 (n : Nat) (h : n = 0) : (n : Int) = 0 := by omega
theorem nNe0 (n : Nat) (h : n ≠ 0) : ¬ ((n : Int) = 0) := by omega
theorem nI16 (n : Nat) (h : n = 16) : (n : Int) = 16 := by omega
theorem nNe16 (n : Nat) (h : n ≠ 16) : ¬ ((n : Int) = 16) := by omega
theorem nLt0 (n : Nat) (h : 0 < n) : (0 : Int) < (n : Int) := by omega
theorem nLt (n m : Nat) (h : n < m) : (n : Int) < (m : Int) := by omega
theorem nNLt (n m : Nat) (h : ¬ n < m) : ¬ ((n : Int) < (m : Int)) := by omega
theorem n0 (n : Nat) : (0 : Int) ≤ (n : Int) := by omega
theorem nGe0 (n : Nat) : (n : Int) ≥ 0 := by omega
theorem m1Ge : ¬ ((-1 : Int) ≥ 0) := by omega
theorem toN48 {x : UInt8} (h : (x.toNat : Int) = 48) : x = 48 := by
  have : x.toNat = (48 : UInt8).toNat := by have h48 : (48 : UInt8).toNat = 48 := rfl; omega
  exact UInt8.toNat_inj.1 this
theorem decT {p q : Prop} [Decidable p] (h : q → p) (hq : q) : decide p = true := decide_eq_true (h hq)
theorem big_step (N b v : Nat) (hb : 1 ≤ b) (h : 18446744073709551616 ≤ N) : decide (18446744073709551616 ≤ N * b + v) = true := by
  have : N ≤ N * b := Nat.le_mul_of_pos_right _ hb
  exact decide_eq_true (Nat.le_trans h (Nat.le_trans this (Nat.le_add_right _ _)))
section
variable {R s f2 f3 : ByteArray} {a f0 f1 : Int} {f5 : Bool} {b : Nat} {r : Int × Int × ByteArray × ByteArray × Int × Bool × Int × ByteArray × Int}
/-- The loop at digit i, so many of them taken, which make N. -/
def lp (R s f2 f3 : ByteArray) (a f0 f1 : Int) (f5 : Bool) (b i cnt N : Nat) (k : Nat) := lex_reader_number.l0 k R (b : Int) (i : Int) (cnt : Int) (decide (18446744073709551616 ≤ N)) s a f0 f1 f2 f3 ((N % 18446744073709551616 : Nat) : Int) f5
def st (R s f2 f3 : ByteArray) (a f0 f1 : Int) (f5 : Bool) (i cnt N : Nat) (k : Nat) := lex_reader_number.j2 k R (i : Int) (cnt : Int) (decide (18446744073709551616 ≤ N)) s a f0 f1 f2 f3 ((N % 18446744073709551616 : Nat) : Int) f5

theorem num_go (hR : R.size ≤ 100000) (hb : b = 10 ∨ b = 16) {i cnt N v : Nat} {c : UInt8} (hc : (Ls R)[i]? = some c) (hv : valS b c = some v) (hcnt : cnt ≤ i) (hgo : cnt = 0 ∨ b = 16 ∨ (Ls R).getD 0 0 ≠ 48)
    (h : Ev (lp R s f2 f3 a f0 f1 f5 b (i + 1) (cnt + 1) (N * b + v)) r) : Ev (lp R s f2 f3 a f0 f1 f5 b i cnt N) r := by
  have hi : i < R.size := by have := (List.getElem?_eq_some_iff.1 hc).1; simpa using this
  have hbt : bt R (i : Int) = (c.toNat : Int) := by rw [bt_L, List.getD_eq_getElem?_getD, hc]; rfl
  obtain ⟨k1, hk1⟩ := value_ev c b hb
  obtain ⟨k2, hk2⟩ := h
  have hvI : valI b c = (v : Int) := by unfold valI; rw [hv]
  have hlt := valS_lt hv
  have hpos : 0 < R.size := by omega
  have hb1 : 1 ≤ b := by omega
  have hb0 : ¬ ((b : Int) = 0) := by omega
  have e1 := w64s i (by omega)
  have e2 := w64s cnt (by omega)
  refine ⟨max k1 k2 + 1, fun k hk => ?_⟩
  obtain ⟨k, rfl⟩ : ∃ m, k = m + 1 := ⟨k - 1, by omega⟩
  have hval : lex_value.f k (c.toNat : Int) (b : Int) = some (valI b c) := hk1 k (by omega)
  have hrest := hk2 k (by omega)
  unfold lp at hrest ⊢
  simp only [lex_reader_number.l0]
  rw [if_pos (nLt _ _ hi), if_pos (n0 _), hbt, hval, hvI]
  simp only [Option.bind_some]
  rw [if_pos (nGe0 v)]
  have key : (if decide (18446744073709551616 ≤ N) = true then
      lex_reader_number.l0 k R (b : Int) (wrap64 ((i : Int) + 1)) (wrap64 ((cnt : Int) + 1)) true s a f0 f1 f2 f3 (IntKind.u64.wrap ((IntKind.u64.wrap (((N % 18446744073709551616 : Nat) : Int) * (b : Int))) + (IntKind.u64.wrap (v : Int)))) f5
    else (if (b : Int) = 0 then none else lex_reader_number.l0 k R (b : Int) (wrap64 ((i : Int) + 1)) (wrap64 ((cnt : Int) + 1)) (decide (((N % 18446744073709551616 : Nat) : Int) > (IntKind.u64.wrap (Int.tdiv (IntKind.u64.wrap (18446744073709551615 - (IntKind.u64.wrap (v : Int)))) (b : Int))))) s a f0 f1 f2 f3 (IntKind.u64.wrap ((IntKind.u64.wrap (((N % 18446744073709551616 : Nat) : Int) * (b : Int))) + (IntKind.u64.wrap (v : Int)))) f5)) = some r := by
    rw [e1, e2, num_step N b v hb hlt]
    by_cases hN : 18446744073709551616 ≤ N
    · rw [if_pos (decide_eq_true hN)]
      rw [big_step N b v hb1 hN] at hrest
      exact hrest
    · rw [if_neg (by rw [decide_eq_false hN]; exact Bool.false_ne_true), if_neg hb0, large_step N b v hb hlt (Nat.lt_of_not_le hN)]
      exact hrest
  by_cases h0 : cnt = 0
  · rw [if_pos (nI0 _ h0)]
    exact key
  · rw [if_neg (nNe0 _ h0)]
    by_cases h16 : b = 16
    · rw [if_pos (nI16 _ h16)]
      exact key
    · rw [if_neg (nNe16 _ h16), if_pos (nLt0 _ hpos)]
      have h48 : ¬ (bt R 0 = 48) := by
        have := bt_L R 0
        rw [show ((0 : Nat) : Int) = 0 from rfl] at this
        rw [this]
        have hne : (Ls R).getD 0 0 ≠ 48 := by rcases hgo with h | h | h; exact absurd h h0; exact absurd h h16; exact h
        exact fun e => hne (toN48 e)
      rw [if_neg h48]
      exact key

theorem num_stop (hR : R.size ≤ 100000) (hb : b = 10 ∨ b = 16) {i cnt N : Nat} (hi : i ≤ R.size) (hcnt : cnt ≤ i) (hst : i = R.size ∨ (∃ c, (Ls R)[i]? = some c ∧ (valS b c = none ∨ (cnt ≠ 0 ∧ b = 10 ∧ (Ls R).getD 0 0 = 48))))
    (h : Ev (st R s f2 f3 a f0 f1 f5 i cnt N) r) : Ev (lp R s f2 f3 a f0 f1 f5 b i cnt N) r := by
  rcases hst with hst | ⟨c, hc, hst⟩
  · have hns : ¬ i < R.size := by omega
    refine Ev.step h fun k => ?_
    unfold lp st
    simp only [lex_reader_number.l0]
    rw [if_neg (nNLt _ _ hns)]
  · have hi : i < R.size := by have := (List.getElem?_eq_some_iff.1 hc).1; simpa using this
    have hbt : bt R (i : Int) = (c.toNat : Int) := by rw [bt_L, List.getD_eq_getElem?_getD, hc]; rfl
    have hpos : 0 < R.size := by omega
    obtain ⟨k1, hk1⟩ := value_ev c b hb
    obtain ⟨k2, hk2⟩ := h
    refine ⟨max k1 k2 + 1, fun k hk => ?_⟩
    obtain ⟨k, rfl⟩ : ∃ m, k = m + 1 := ⟨k - 1, by omega⟩
    have hval : lex_value.f k (c.toNat : Int) (b : Int) = some (valI b c) := hk1 k (by omega)
    have hrest := hk2 k (by omega)
    unfold st at hrest
    unfold lp
    simp only [lex_reader_number.l0]
    rw [if_pos (nLt _ _ hi), if_pos (n0 _), hbt, hval]
    simp only [Option.bind_some]
    by_cases hv : valS b c = none
    · have hvI : valI b c = -1 := by unfold valI; rw [hv]
      rw [hvI, if_neg m1Ge]
      exact hrest
    · obtain ⟨h0, h10, h48⟩ := hst.resolve_left hv
      have h16 : b ≠ 16 := by rw [h10]; decide
      obtain ⟨v, hv'⟩ := Option.ne_none_iff_exists'.1 hv
      have hvI : valI b c = (v : Int) := by unfold valI; rw [hv']
      rw [hvI, if_pos (nGe0 v), if_neg (nNe0 _ h0), if_neg (nNe16 _ h16), if_pos (nLt0 _ hpos)]
      have hb48 : bt R 0 = 48 := by
        have := bt_L R 0
        rw [show ((0 : Nat) : Int) = 0 from rfl, h48] at this
        exact this
      rw [if_pos hb48]
      exact hrest

/-- All the digits from i on are taken, if they may be. -/
theorem num_all (hR : R.size ≤ 100000) (hb : b = 10 ∨ b = 16) (hgo : b = 16 ∨ (Ls R).getD 0 0 ≠ 48) : ∀ (d : Nat) {i cnt N : Nat}, R.size - i ≤ d → i ≤ R.size → cnt ≤ i →
    Ev (st R s f2 f3 a f0 f1 f5 (i + (((Ls R).drop i).takeWhile (isV b)).length) (cnt + (((Ls R).drop i).takeWhile (isV b)).length) (valN b N ((Ls R).drop i))) r → Ev (lp R s f2 f3 a f0 f1 f5 b i cnt N) r := by
  intro d
  induction d with
  | zero =>
    intro i cnt N hd hi hc h
    have : i = R.size := by omega
    have e : (Ls R).drop i = [] := by simp; omega
    rw [e] at h
    exact num_stop hR hb hi hc (.inl this) h
  | succ d ih =>
    intro i cnt N hd hi hc h
    by_cases hlt : i < R.size
    · have hlt' : i < (Ls R).length := by simpa using hlt
      have hget := List.getElem?_eq_getElem hlt'
      have hdr : (Ls R).drop i = (Ls R)[i] :: (Ls R).drop (i + 1) := List.drop_eq_getElem_cons hlt'
      rw [hdr] at h
      cases hv : valS b (Ls R)[i] with
      | none =>
        have hn : isV b (Ls R)[i] = false := by unfold isV; rw [hv]; rfl
        simp only [List.takeWhile_cons, hn, Bool.false_eq_true, if_false, valN, hv, List.length_nil, Nat.add_zero] at h
        exact num_stop hR hb hi hc (.inr ⟨_, hget, .inl hv⟩) h
      | some v =>
        have hn : isV b (Ls R)[i] = true := by unfold isV; rw [hv]; rfl
        simp only [List.takeWhile_cons, hn, if_true, valN, hv, List.length_cons] at h
        refine num_go hR hb hget hv hc (hgo.elim (fun h => .inr (.inl h)) fun h => .inr (.inr h)) (ih (by omega) (by omega) (by omega) ?_)
        rw [show i + 1 + (((Ls R).drop (i + 1)).takeWhile (isV b)).length = i + ((((Ls R).drop (i + 1)).takeWhile (isV b)).length + 1) by omega, show cnt + 1 + (((Ls R).drop (i + 1)).takeWhile (isV b)).length = cnt + ((((Ls R).drop (i + 1)).takeWhile (isV b)).length + 1) by omega]
        exact h
    · have : i = R.size := by omega
      have e : (Ls R).drop i = [] := by simp; omega
      rw [e] at h
      exact num_stop hR hb hi hc (.inl this) h
end
end
section

def sufS (l : List UInt8) : List UInt8 := if [117, 108].isPrefixOf l then [117, 108] else if [117].isPrefixOf l then [117] else if [108].isPrefixOf l then [108] else []
theorem sufS_prefix (l : List UInt8) : sufS l <+: l := by
  unfold sufS
  split
  · rename_i h; exact List.isPrefixOf_iff_prefix.1 h
  · split
    · rename_i h; exact List.isPrefixOf_iff_prefix.1 h
    · split
      · rename_i h; exact List.isPrefixOf_iff_prefix.1 h
      · exact List.nil_prefix
def partU (c : UInt8) : Bool := partB (c.toNat : Int)
/-- Does a letter or a digit stand at a place? -/
def partAt (l : List UInt8) (n : Nat) : Bool := match l[n]? with | some c => partU c | none => false

/-- What comes of the digits: so many bytes in all, the suffix. -/
def numRes (R s f2 : ByteArray) (a f0 f1 : Int) (f5 : Bool) (n cnt N : Nat) (suf : ByteArray) : Int × Int × ByteArray × ByteArray × Int × Bool × Int × ByteArray × Int :=
  if cnt = 0 ∨ partAt (Ls R) n = true then (f0, f1, f2, suf, ((N % 18446744073709551616 : Nat) : Int), f5, 3, s, a)
  else if 18446744073709551616 ≤ N then (f0, f1, f2, suf, ((N % 18446744073709551616 : Nat) : Int), f5, 6, s, a)
  else (f0, f1, R.extract 0 n, suf, ((N % 18446744073709551616 : Nat) : Int), f5, 0, s, wrap64 (a + (n : Int)))

theorem rest_prefix (R : ByteArray) (n : Nat) (p : ByteArray) : strings_HasPrefix.f (R.extract ((n : Int)).toNat R.size) p = some ((Ls p).isPrefixOf ((Ls R).drop n)) := by
  rw [hp_eq, hpB_L, Int.toNat_natCast, Ls_rest]

section
variable {R s f2 f3 : ByteArray} {a f0 f1 : Int} {f5 : Bool}

theorem j5_eq (k : Nat) (n : Nat) (hn : n ≤ R.size) (lg bad : Bool) (num : Int) (suf : ByteArray) : lex_reader_number.j5 (k + 1) R (n : Int) lg bad s a f0 f1 f2 suf num f5 =
    some (if bad = true then (f0, f1, f2, suf, num, f5, 3, s, a) else if lg = true then (f0, f1, f2, suf, num, f5, 6, s, a) else (f0, f1, R.extract 0 n, suf, num, f5, 0, s, wrap64 (a + (n : Int)))) := by
  simp only [lex_reader_number.j5]
  cases bad
  · rw [if_neg Bool.false_ne_true, if_neg Bool.false_ne_true]
    cases lg
    · rw [if_neg Bool.false_ne_true, if_neg Bool.false_ne_true, if_pos (n0 _), if_pos (by omega), Int.toNat_natCast]
    · rw [if_pos rfl, if_pos rfl]
  · rw [if_pos rfl, if_pos rfl]

theorem j4_eq (k : Nat) (n cnt N : Nat) (hn : n ≤ R.size) (suf : ByteArray) : lex_reader_number.j4 (k + 1 + 1) R (n : Int) (cnt : Int) (decide (18446744073709551616 ≤ N)) s a f0 f1 f2 suf ((N % 18446744073709551616 : Nat) : Int) f5 = some (numRes R s f2 a f0 f1 f5 n cnt N suf) := by
  have hlt : ∀ h : n < R.size, (Ls R)[n]? = some ((Ls R)[n]'(by simpa using h)) := fun h => List.getElem?_eq_getElem _
  have hbt : ∀ h : n < R.size, bt R (n : Int) = (((Ls R)[n]'(by simpa using h)).toNat : Int) := fun h => by rw [bt_L, List.getD_eq_getElem?_getD, hlt h]; rfl
  have hge : ¬ n < R.size → (Ls R)[n]? = none := fun h => List.getElem?_eq_none (by simp; omega)
  simp only [lex_reader_number.j4]
  unfold numRes
  by_cases h0 : cnt = 0
  · rw [if_pos (nI0 _ h0), j5_eq k n hn, if_pos rfl, if_pos (.inl h0)]
  · rw [if_neg (nNe0 _ h0)]
    by_cases h1 : n < R.size
    · rw [if_pos (nLt _ _ h1), if_pos (n0 _), part_eq, hbt h1]
      simp only [Option.bind_some]
      rw [j5_eq k n hn]
      have hp : partAt (Ls R) n = partB (((Ls R)[n]'(by simpa using h1)).toNat : Int) := by unfold partAt; rw [hlt h1]; rfl
      rw [hp]
      cases partB (((Ls R)[n]'(by simpa using h1)).toNat : Int)
      · by_cases hN : 18446744073709551616 ≤ N
        · simp only [Bool.false_eq_true, if_false, h0, or_self, hN, decide_true, if_true]
        · simp only [Bool.false_eq_true, if_false, h0, or_self, hN, decide_false]
      · rw [if_pos rfl, if_pos (.inr rfl)]
    · rw [if_neg (nNLt _ _ h1), j5_eq k n hn]
      have hp : partAt (Ls R) n = false := by unfold partAt; rw [hge h1]
      rw [hp]
      by_cases hN : 18446744073709551616 ≤ N
      · simp only [Bool.false_eq_true, if_false, h0, or_self, hN, decide_true, if_true]
      · simp only [Bool.false_eq_true, if_false, h0, or_self, hN, decide_false]

def sufB (l : List UInt8) (f3 : ByteArray) : ByteArray := if [117, 108].isPrefixOf l then ⟨#[117, 108]⟩ else if [117].isPrefixOf l then ⟨#[117]⟩ else if [108].isPrefixOf l then ⟨#[108]⟩ else f3
theorem w64a (i j : Nat) (h : i ≤ 100000) (hj : j ≤ 2) : wrap64 ((i : Int) + (j : Int)) = ((i + j : Nat) : Int) := by unfold wrap64; omega

set_option maxHeartbeats 1000000 in
theorem st_ev (hR : R.size ≤ 100000) {i cnt N : Nat} (hi : i ≤ R.size) : Ev (st R s f2 f3 a f0 f1 f5 i cnt N) (numRes R s f2 a f0 f1 f5 (i + (sufS ((Ls R).drop i)).length) cnt N (sufB ((Ls R).drop i) f3)) := by
  refine ⟨8, fun k hk => ?_⟩
  obtain ⟨k, rfl⟩ : ∃ m, k = m + 1 + 1 + 1 + 1 + 1 + 1 + 1 + 1 := ⟨k - 8, by omega⟩
  unfold st
  have hlen : ∀ p : List UInt8, p.isPrefixOf ((Ls R).drop i) = true → i + p.length ≤ R.size := fun p hp => by
    have := (List.isPrefixOf_iff_prefix.1 hp).length_le
    simp at this; omega
  have hw0 : wrap64 (0 + 1) = 1 := by unfold wrap64; decide
  have hw1 : wrap64 (1 + 1) = 2 := by unfold wrap64; decide
  have hw2 : wrap64 (2 + 1) = 3 := by unfold wrap64; decide
  have hi' : (i : Int) ≤ (R.size : Int) := by omega
  have hi0 : i ≤ 100000 := by omega
  have r0 : rdOf ByteArray.empty [(⟨#[117, 108]⟩ : ByteArray), (⟨#[117]⟩ : ByteArray), (⟨#[108]⟩ : ByteArray)] 0 = ⟨#[117, 108]⟩ := rfl
  have r1 : rdOf ByteArray.empty [(⟨#[117, 108]⟩ : ByteArray), (⟨#[117]⟩ : ByteArray), (⟨#[108]⟩ : ByteArray)] 1 = ⟨#[117]⟩ := rfl
  have r2 : rdOf ByteArray.empty [(⟨#[117, 108]⟩ : ByteArray), (⟨#[117]⟩ : ByteArray), (⟨#[108]⟩ : ByteArray)] 2 = ⟨#[108]⟩ := rfl
  have l3 : (([(⟨#[117, 108]⟩ : ByteArray), (⟨#[117]⟩ : ByteArray), (⟨#[108]⟩ : ByteArray)] : List ByteArray).length : Int) = 3 := rfl
  have z2 : (((⟨#[117, 108]⟩ : ByteArray).size : Nat) : Int) = ((2 : Nat) : Int) := rfl
  have z1 : (((⟨#[117]⟩ : ByteArray).size : Nat) : Int) = ((1 : Nat) : Int) := rfl
  have z1' : (((⟨#[108]⟩ : ByteArray).size : Nat) : Int) = ((1 : Nat) : Int) := rfl
  simp only [lex_reader_number.j2, Option.bind_some]
  unfold lex_reader_number.l1
  rw [l3, if_pos (by decide), if_pos (by decide), if_pos (by decide), if_pos (n0 _), if_pos hi', rest_prefix, r0]
  simp only [Option.bind_some]
  have p0 : Ls (⟨#[117, 108]⟩ : ByteArray) = [117, 108] := rfl
  have p1 : Ls (⟨#[117]⟩ : ByteArray) = [117] := rfl
  have p2 : Ls (⟨#[108]⟩ : ByteArray) = [108] := rfl
  rw [p0]
  unfold sufS sufB
  by_cases h0 : [117, 108].isPrefixOf ((Ls R).drop i) = true
  · have := hlen _ h0
    rw [if_pos h0, if_pos h0, if_pos h0, z2, w64a _ _ hi0 (by decide)]
    exact j4_eq _ _ _ _ this _
  · rw [if_neg h0, if_neg h0, if_neg h0, hw0]
    unfold lex_reader_number.l1
    rw [l3, if_pos (by decide), if_pos (by decide), if_pos (by decide), if_pos (n0 _), if_pos hi', rest_prefix, r1]
    simp only [Option.bind_some]
    rw [p1]
    by_cases h1 : [117].isPrefixOf ((Ls R).drop i) = true
    · have := hlen _ h1
      rw [if_pos h1, if_pos h1, if_pos h1, z1, w64a _ _ hi0 (by decide)]
      exact j4_eq _ _ _ _ this _
    · rw [if_neg h1, if_neg h1, if_neg h1, hw1]
      unfold lex_reader_number.l1
      rw [l3, if_pos (by decide), if_pos (by decide), if_pos (by decide), if_pos (n0 _), if_pos hi', rest_prefix, r2]
      simp only [Option.bind_some]
      rw [p2]
      by_cases h2 : [108].isPrefixOf ((Ls R).drop i) = true
      · have := hlen _ h2
        rw [if_pos h2, if_pos h2, if_pos h2, z1', w64a _ _ hi0 (by decide)]
        exact j4_eq _ _ _ _ this _
      · rw [if_neg h2, if_neg h2, if_neg h2, hw2]
        unfold lex_reader_number.l1
        rw [if_neg (by decide)]
        exact j4_eq _ _ _ _ hi _
end
end
section

def mk (l : List UInt8) : ByteArray := ⟨l.toArray⟩
theorem Ls_mk (l : List UInt8) : Ls (mk l) = l := by simp [Ls, mk]
theorem ba_eq {s t : ByteArray} (h : Ls s = Ls t) : s = t := ba_ext h
theorem ext_mk (R : ByteArray) (n : Nat) : R.extract 0 n = mk ((Ls R).take n) := ba_eq (by rw [Ls_ext, Ls_mk]; simp)

/-- A token, by its text. -/
structure Tk where
  kind : Int
  n : Nat
  suf : List UInt8
  num : Nat
  hex : Bool

def hexP (l : List UInt8) : Bool := [48, 120].isPrefixOf l
def i0S (l : List UInt8) : Nat := if hexP l then 2 else 0
def baseS (l : List UInt8) : Nat := if hexP l then 16 else 10
def zeroP (l : List UInt8) : Bool := !hexP l && l.getD 0 0 == 48
/-- How many digits are taken. -/
def cntS (l : List UInt8) : Nat := if zeroP l then 1 else ((l.drop (i0S l)).takeWhile (isV (baseS l))).length
def numV (l : List UInt8) : Nat := if zeroP l then 0 else valN (baseS l) 0 (l.drop (i0S l))
def numN (l : List UInt8) : Nat := i0S l + cntS l + (sufS (l.drop (i0S l + cntS l))).length
def numS (l : List UInt8) : Except Int Tk :=
  if cntS l = 0 ∨ partAt l (numN l) = true then .error 3 else if 18446744073709551616 ≤ numV l then .error 6
  else .ok ⟨3, numN l, sufS (l.drop (i0S l + cntS l)), numV l, hexP l⟩

theorem tw_le {p : UInt8 → Bool} : ∀ (l : List UInt8), (l.takeWhile p).length ≤ l.length
  | [] => Nat.le_refl _
  | c :: l => by simp only [List.takeWhile_cons]; split <;> simp [tw_le l]
theorem sufB_mk (l : List UInt8) : sufB l ⟨#[]⟩ = mk (sufS l) := by
  unfold sufB sufS
  split
  · rfl
  · split
    · rfl
    · split <;> rfl
theorem zeroP_len {l : List UInt8} (h : zeroP l = true) : 1 ≤ l.length := by
  unfold zeroP at h
  cases l with
  | nil => simp at h
  | cons c t => simp
theorem i0_cnt_le (l : List UInt8) : i0S l + cntS l ≤ l.length := by
  unfold cntS
  split
  · rename_i h
    have h1 := zeroP_len h
    have : hexP l = false := by unfold zeroP at h; simp at h; exact h.1
    unfold i0S; rw [this]; simpa using h1
  · have := tw_le (p := isV (baseS l)) (l.drop (i0S l))
    have h2 : i0S l ≤ l.length := by
      unfold i0S; split
      · rename_i h; exact (List.isPrefixOf_iff_prefix.1 h).length_le
      · omega
    simp only [List.length_drop] at this; omega
theorem numN_le (l : List UInt8) : numN l ≤ l.length := by
  have h1 := i0_cnt_le l
  have h2 := (sufS_prefix (l.drop (i0S l + cntS l))).length_le
  simp only [List.length_drop] at h2
  unfold numN; omega

section
variable {s : ByteArray} {a : Nat}
theorem number_ev (hs : s.size ≤ 100000) (ha : a ≤ s.size) : Ev (fun k => lex_reader_number.f k s (a : Int))
    (numRes (s.extract a s.size) s ⟨#[]⟩ (a : Int) 3 (a : Int) (hexP ((Ls s).drop a)) (numN ((Ls s).drop a)) (cntS ((Ls s).drop a)) (numV ((Ls s).drop a)) (mk (sufS (((Ls s).drop a).drop (i0S ((Ls s).drop a) + cntS ((Ls s).drop a)))))) := by
  have hR : Ls (s.extract a s.size) = (Ls s).drop a := Ls_rest s a
  have hRs : (s.extract a s.size).size ≤ 100000 := by rw [ByteArray.size_extract]; omega
  generalize hRe : s.extract a s.size = R at hR hRs
  rw [← hR]
  have hle := numN_le (Ls R)
  have hic := i0_cnt_le (Ls R)
  rw [Ls_size] at hle hic
  have a0 : (0 : Int) ≤ (a : Int) := n0 a
  have a1 : (a : Int) ≤ (s.size : Int) := by omega
  have hstep : ∀ (b i : Nat) (f5 : Bool) (r), Ev (lp R s ⟨#[]⟩ ⟨#[]⟩ (a : Int) 3 (a : Int) f5 b i 0 0) r → Ev (fun k => lex_reader_number.j0 k R (b : Int) (i : Int) s (a : Int) 3 (a : Int) ⟨#[]⟩ ⟨#[]⟩ 0 f5) r := by
    intro b i f5 r h
    exact Ev.step h fun k => rfl
  have hsuf := sufB_mk ((Ls R).drop (i0S (Ls R) + cntS (Ls R)))
  have hp := rest_prefix s a ⟨#[48, 120]⟩
  rw [← hRe] at hR
  have hpx : strings_HasPrefix.f R (⟨#[48, 120]⟩ : ByteArray) = some (hexP (Ls R)) := by rw [hp_eq, hpB_L]; rfl
  have main : ∀ (f : Nat → Option (Int × Int × ByteArray × ByteArray × Int × Bool × Int × ByteArray × Int)), (∀ k, f k = if hexP (Ls R) = true then lex_reader_number.j0 k R 16 2 s (a : Int) 3 (a : Int) ⟨#[]⟩ ⟨#[]⟩ 0 true else lex_reader_number.j0 k R 10 0 s (a : Int) 3 (a : Int) ⟨#[]⟩ ⟨#[]⟩ 0 false) →
      Ev f (numRes R s ⟨#[]⟩ (a : Int) 3 (a : Int) (hexP (Ls R)) (numN (Ls R)) (cntS (Ls R)) (numV (Ls R)) (mk (sufS ((Ls R).drop (i0S (Ls R) + cntS (Ls R)))))) := by
    intro f hf
    rw [← hsuf]
    cases hx : hexP (Ls R) with
    | true =>
      have e0 : i0S (Ls R) = 2 := by unfold i0S; rw [hx]; rfl
      have eb : baseS (Ls R) = 16 := by unfold baseS; rw [hx]; rfl
      have ez : zeroP (Ls R) = false := by unfold zeroP; rw [hx]; rfl
      have ec : cntS (Ls R) = (((Ls R).drop 2).takeWhile (isV 16)).length := by unfold cntS; rw [ez, e0, eb]; rfl
      have ev : numV (Ls R) = valN 16 0 ((Ls R).drop 2) := by unfold numV; rw [ez, e0, eb]; rfl
      refine Ev.congr ?_ fun k => by rw [hf, hx, if_pos rfl]
      refine hstep 16 2 true _ (num_all (b := 16) hRs (.inr rfl) (.inl rfl) (R.size - 2) (Nat.le_refl _) (by rw [e0] at hic; omega) (by omega) ?_)
      rw [Nat.zero_add, ← ec, ← ev]
      have := st_ev (R := R) (s := s) (f2 := ⟨#[]⟩) (f3 := ⟨#[]⟩) (a := (a : Int)) (f0 := 3) (f1 := (a : Int)) (f5 := true) hRs (i := 2 + cntS (Ls R)) (cnt := cntS (Ls R)) (N := numV (Ls R)) (by rw [e0] at hic; omega)
      unfold numN
      rw [e0]
      exact this
    | false =>
      have e0 : i0S (Ls R) = 0 := by unfold i0S; rw [hx]; rfl
      have eb : baseS (Ls R) = 10 := by unfold baseS; rw [hx]; rfl
      refine Ev.congr ?_ fun k => by rw [hf, hx, if_neg Bool.false_ne_true]
      refine hstep 10 0 false _ ?_
      have hst := st_ev (R := R) (s := s) (f2 := ⟨#[]⟩) (f3 := ⟨#[]⟩) (a := (a : Int)) (f0 := 3) (f1 := (a : Int)) (f5 := false) hRs (i := 0 + cntS (Ls R)) (cnt := cntS (Ls R)) (N := numV (Ls R)) (by rw [e0] at hic; omega)
      cases hz : zeroP (Ls R) with
      | false =>
        have ec : cntS (Ls R) = (((Ls R).drop 0).takeWhile (isV 10)).length := by unfold cntS; rw [hz, e0, eb]; rfl
        have ev : numV (Ls R) = valN 10 0 ((Ls R).drop 0) := by unfold numV; rw [hz, e0, eb]; rfl
        have hne : (Ls R).getD 0 0 ≠ 48 := by unfold zeroP at hz; rw [hx] at hz; simpa using hz
        refine num_all (b := 10) hRs (.inl rfl) (.inr hne) R.size (by omega) (by omega) (by omega) ?_
        rw [← ec, Nat.zero_add, ← ev]
        unfold numN
        rw [e0, Nat.zero_add]
        rw [Nat.zero_add] at hst
        exact hst
      | true =>
        have ec : cntS (Ls R) = 1 := by unfold cntS; rw [hz]; rfl
        have ev : numV (Ls R) = 0 := by unfold numV; rw [hz]; rfl
        have h48 : (Ls R).getD 0 0 = 48 := by unfold zeroP at hz; rw [hx] at hz; simpa using hz
        have hl := zeroP_len hz
        have hc : (Ls R)[0]? = some 48 := by
          rw [List.getD_eq_getElem?_getD, List.getElem?_eq_getElem hl] at h48
          rw [List.getElem?_eq_getElem hl]; exact congrArg some h48
        refine num_go (b := 10) (v := 0) hRs (.inl rfl) hc (by decide) (by omega) (.inl rfl) ?_
        refine num_stop (b := 10) hRs (.inl rfl) (by rw [Ls_size] at hl; omega) (by omega) ?_ ?_
        · by_cases h1 : R.size = 1
          · exact .inl h1.symm
          · have h2 : 0 + 1 < (Ls R).length := by rw [Ls_size]; rw [Ls_size] at hl; omega
            exact .inr ⟨_, List.getElem?_eq_getElem h2, .inr ⟨by omega, rfl, h48⟩⟩
        · unfold numN
          rw [ec, ev] at hst
          rw [e0, ec, ev]
          exact hst
  refine main _ fun k => ?_
  simp only [lex_reader_number.f]
  rw [if_pos a0, if_pos a1, Int.toNat_natCast, hRe, hpx]
  rfl
end
end
section

def escV (c : UInt8) : Nat := (bt (⟨#[10, 0, 92, 39]⟩ : ByteArray) (Lib.indexByte [110, 48, 92, 39] c)).toNat
def letS (l : List UInt8) : Except Int Tk :=
  if 1 < l.length ∧ l.getD 1 0 = 92 then
    if l.length < 4 then .error 3 else if l.getD 3 0 ≠ 39 then .error 3 else
    if Lib.indexByte [110, 48, 92, 39] (l.getD 2 0) < 0 then .error 3 else .ok ⟨4, 4, [], escV (l.getD 2 0), false⟩
  else if l.length < 3 then .error 3 else if l.getD 2 0 ≠ 39 then .error 3 else
    if (l.getD 1 0).toNat < 32 ∨ 126 < (l.getD 1 0).toNat ∨ l.getD 1 0 = 39 then .error 3 else .ok ⟨4, 3, [], (l.getD 1 0).toNat, false⟩
def wordsL : List UInt8 := Ls (⟨#[32, 118, 111, 105, 100, 32, 99, 104, 97, 114, 32, 115, 104, 111, 114, 116, 32, 105, 110, 116, 32, 108, 111, 110, 103, 32, 117, 110, 115, 105, 103, 110, 101, 100, 32, 115, 116, 114, 117, 99, 116, 32, 116, 121, 112, 101, 100, 101, 102, 32, 105, 102, 32, 101, 108, 115, 101, 32, 119, 104, 105, 108, 101, 32, 100, 111, 32, 102, 111, 114, 32, 115, 119, 105, 116, 99, 104, 32, 99, 97, 115, 101, 32, 100, 101, 102, 97, 117, 108, 116, 32, 98, 114, 101, 97, 107, 32, 99, 111, 110, 116, 105, 110, 117, 101, 32, 114, 101, 116, 117, 114, 110, 32, 103, 111, 116, 111, 32, 115, 105, 122, 101, 111, 102, 32]⟩ : ByteArray)
def wordS (l : List UInt8) : Bool := if l = [] then false else if Lib.contains l [32] = true then false else Lib.contains wordsL (32 :: (l ++ [32]))
def nameS (l : List UInt8) : Except Int Tk := if 30 < spanL l then .error 6 else .ok ⟨if wordS (l.take (spanL l)) = true then 2 else 1, spanL l, [], 0, false⟩
def signsL : List (List UInt8) := (signs0 ++ (signs1 ++ signs2)).map Ls
def signS (l : List UInt8) : Except Int Tk := match signsL.find? (fun p => p.isPrefixOf l) with
  | some p => .ok ⟨5, p.length, [], 0, false⟩
  | none => .error 3
def digU (c : UInt8) : Bool := digitB (c.toNat : Int)
def tokS (l : List UInt8) : Except Int Tk :=
  if digU (l.getD 0 0) = true then numS l else if l.getD 0 0 = 39 then letS l else if partU (l.getD 0 0) = true then nameS l else signS l
def toTK (l : List UInt8) (t : Tk) : TK := ⟨t.kind, mk (l.take t.n), mk t.suf, (t.num : Int), t.hex⟩
def toE (l : List UInt8) : Except Int Tk → Except Int TK
  | .error e => .error e
  | .ok t => .ok (toTK l t)

theorem bt_ne (R : ByteArray) (i : Nat) (c : UInt8) (n : Nat) (hn : c.toNat = n) : (bt R (i : Int) = (n : Int)) ↔ (Ls R).getD i 0 = c := by
  rw [bt_L]
  constructor
  · intro h; apply UInt8.toNat_inj.1; omega
  · intro h; rw [h]; omega
theorem letterR_eq (R : ByteArray) : letterR R = toE (Ls R) (letS (Ls R)) := by
  have h1 : (bt R 1 = 92) ↔ (Ls R).getD 1 0 = 92 := bt_ne R 1 92 92 rfl
  have h3 : (bt R 3 = 39) ↔ (Ls R).getD 3 0 = 39 := bt_ne R 3 39 39 rfl
  have h2 : (bt R 2 = 39) ↔ (Ls R).getD 2 0 = 39 := bt_ne R 2 39 39 rfl
  have h1' : (bt R 1 = 39) ↔ (Ls R).getD 1 0 = 39 := bt_ne R 1 39 39 rfl
  have hb1 : bt R 1 = (((Ls R).getD 1 0).toNat : Int) := bt_L R 1
  have hb2 : (bt R 2).toNat.toUInt8 = (Ls R).getD 2 0 := by
    have : bt R 2 = (((Ls R).getD 2 0).toNat : Int) := bt_L R 2
    rw [this]; simp
  unfold letterR letS
  rw [← Ls_size, hb2]
  simp only [h1, h2, h3, h1', ne_eq, ext_mk]
  by_cases c1 : 1 < (Ls R).length ∧ (Ls R).getD 1 0 = 92
  · rw [if_pos c1, if_pos c1]
    by_cases c2 : (Ls R).length < 4
    · rw [if_pos c2, if_pos c2]; rfl
    · rw [if_neg c2, if_neg c2]
      by_cases c3 : (Ls R).getD 3 0 = 39
      · have c3' : ¬ ¬ (Ls R).getD 3 0 = 39 := fun h => h c3
        rw [if_neg c3', if_neg c3']
        by_cases c4 : Lib.indexByte [110, 48, 92, 39] ((Ls R).getD 2 0) < 0
        · rw [if_pos c4, if_pos c4]; rfl
        · rw [if_neg c4, if_neg c4]
          have : bt (⟨#[10, 0, 92, 39]⟩ : ByteArray) (Lib.indexByte [110, 48, 92, 39] ((Ls R).getD 2 0)) = ((escV ((Ls R).getD 2 0) : Nat) : Int) := by
            unfold escV; have := (bt_range (⟨#[10, 0, 92, 39]⟩ : ByteArray) (Lib.indexByte [110, 48, 92, 39] ((Ls R).getD 2 0))).1; omega
          rw [this]; rfl
      · rw [if_pos c3, if_pos c3]; rfl
  · rw [if_neg c1, if_neg c1]
    by_cases c2 : (Ls R).length < 3
    · rw [if_pos c2, if_pos c2]; rfl
    · rw [if_neg c2, if_neg c2]
      by_cases c3 : (Ls R).getD 2 0 = 39
      · have c3' : ¬ ¬ (Ls R).getD 2 0 = 39 := fun h => h c3
        rw [if_neg c3', if_neg c3', hb1]
        generalize (Ls R).getD 1 0 = x
        have hiff : ((x.toNat : Int) < 32 ∨ 126 < (x.toNat : Int) ∨ x = 39) ↔ (x.toNat < 32 ∨ 126 < x.toNat ∨ x = 39) := by
          constructor
          · rintro (h | h | h)
            · exact .inl (by omega)
            · exact .inr (.inl (by omega))
            · exact .inr (.inr h)
          · rintro (h | h | h)
            · exact .inl (by omega)
            · exact .inr (.inl (by omega))
            · exact .inr (.inr h)
        by_cases c4 : x.toNat < 32 ∨ 126 < x.toNat ∨ x = 39
        · rw [if_pos (hiff.2 c4), if_pos c4]; rfl
        · rw [if_neg (fun h => c4 (hiff.1 h)), if_neg c4]; rfl
      · rw [if_pos c3, if_pos c3]; rfl

set_option maxRecDepth 10000 in
theorem word_eq (l : List UInt8) (h : l.length < 100000) : lex_Word.f (mk l) = some (wordS l) := by
  have hm : (mk l).data.toList = l := Ls_mk l
  have hs : (mk l).size = l.length := by rw [← Ls_size]; exact congrArg List.length (Ls_mk l)
  unfold lex_Word.f wordS
  rw [toList_Ls, Ls_mk]
  by_cases h0 : l = []
  · rw [if_pos h0, if_pos h0]
  · rw [if_neg h0, if_neg h0]
    unfold Lx.Contains.f
    rw [if_pos (by rw [hs]; omega), hm]
    simp only [Option.bind_some]
    by_cases h1 : Lib.contains l [32] = true
    · rw [if_pos h1, if_pos h1]
    · rw [if_neg h1, if_neg h1, if_pos (by rw [hs]; omega), if_pos (by rw [ByteArray.size_append, hs]; have : (⟨#[32]⟩ : ByteArray).size = 1 := rfl; omega)]
      rw [if_pos (of_decide_eq_true (by kernel_rfl))]
      simp only [Option.bind_some]
      have e : (((⟨#[32]⟩ : ByteArray) ++ mk l) ++ (⟨#[32]⟩ : ByteArray)).data.toList = 32 :: (l ++ [32]) := by
        have h2 : (mk l).data.toList = l := hm
        simp [ByteArray.data_append, h2]
      rw [e]; rfl
theorem word_of (l : List UInt8) (R : ByteArray) (n : Nat) (hR : Ls R = l) (h : l.length < 100000) : lex_Word.f (R.extract 0 n) = some (wordS (l.take n)) := by
  rw [ext_mk, hR]; exact word_eq _ (by simp; omega)

theorem find_map (R : ByteArray) : ∀ (L : List ByteArray), (L.map Ls).find? (fun p => p.isPrefixOf (Ls R)) = (L.find? (hpB R)).map Ls
  | [] => rfl
  | p :: L => by
    simp only [List.map_cons, List.find?_cons, hpB_L]
    cases (Ls p).isPrefixOf (Ls R)
    · exact find_map R L
    · rfl
theorem signR_eq (R : ByteArray) : signR R = toE (Ls R) (signS (Ls R)) := by
  unfold signR signS signOf signsL
  rw [find_map]
  cases h : (signs0 ++ (signs1 ++ signs2)).find? (hpB R) with
  | none => rfl
  | some p =>
    have hp := List.find?_some h
    rw [hpB_L, List.isPrefixOf_iff_prefix] at hp
    have e : mk ((Ls R).take (Ls p).length) = p := by
      apply ba_eq; rw [Ls_mk]; exact (List.prefix_iff_eq_take.1 hp).symm
    show Except.ok _ = Except.ok (toTK (Ls R) ⟨5, (Ls p).length, [], 0, false⟩)
    unfold toTK
    simp only [e]
    rfl
end
section

theorem spanL_le (l : List UInt8) : spanL l ≤ l.length := tw_le l
theorem tokS_ok {l : List UInt8} {t : Tk} (hl : l ≠ []) (h : tokS l = .ok t) : 1 ≤ t.n ∧ t.n ≤ l.length := by
  have hpos : 1 ≤ l.length := by cases l; exact absurd rfl hl; simp
  unfold tokS at h
  split at h
  · unfold numS at h
    split at h
    · cases h
    · split at h
      · cases h
      · rename_i h1 h2
        cases h
        refine ⟨?_, numN_le l⟩
        have : cntS l ≠ 0 := fun e => h1 (.inl e)
        show 1 ≤ numN l
        unfold numN; omega
  · split at h
    · unfold letS at h
      split at h
      · split at h
        · cases h
        · split at h
          · cases h
          · split at h
            · cases h
            · cases h; exact ⟨by show 1 ≤ 4; decide, by simp only; omega⟩
      · split at h
        · cases h
        · split at h
          · cases h
          · split at h
            · cases h
            · cases h; exact ⟨by show 1 ≤ 3; decide, by simp only; omega⟩
    · split at h
      · rename_i hp
        unfold nameS at h
        split at h
        · cases h
        · cases h
          refine ⟨?_, spanL_le l⟩
          cases l with
          | nil => exact absurd rfl hl
          | cons c t =>
            have hp' : partB (c.toNat : Int) = true := hp
            show 1 ≤ spanL (c :: t)
            unfold spanL
            simp [List.takeWhile_cons, hp']
      · unfold signS at h
        split at h
        · rename_i p hp
          cases h
          have h1 := List.find?_some hp
          have h2 := (List.isPrefixOf_iff_prefix.1 h1).length_le
          have h3 := List.mem_of_find?_eq_some hp
          refine ⟨?_, h2⟩
          have : ∀ q ∈ signsL, 1 ≤ q.length := by decide
          exact this p h3
        · cases h
theorem tokS_err {l : List UInt8} {e : Int} (h : tokS l = .error e) : e = 3 ∨ e = 6 := by
  unfold tokS at h
  split at h
  · unfold numS at h
    split at h
    · cases h; exact .inl rfl
    · split at h
      · cases h; exact .inr rfl
      · cases h
  · split at h
    · unfold letS at h
      (repeat' split at h) <;> cases h <;> exact .inl rfl
    · split at h
      · unfold nameS at h
        split at h
        · cases h; exact .inr rfl
        · cases h
      · unfold signS at h
        split at h
        · cases h
        · cases h; exact .inl rfl

theorem tok_ev {s : ByteArray} {a : Nat} (hs : s.size ≤ 90000) (ha : a < s.size) : Ev (fun k => Lx.tok k s (a : Int)) (toE ((Ls s).drop a) (tokS ((Ls s).drop a))) := by
  have hR : Ls (s.extract a s.size) = (Ls s).drop a := Ls_rest s a
  have hRs : (s.extract a s.size).size = s.size - a := by rw [ByteArray.size_extract]; omega
  have hb : bt (s.extract a s.size) 0 = ((((Ls s).drop a).getD 0 0).toNat : Int) := by rw [← hR]; exact bt_L _ 0
  have hlen : ((Ls s).drop a).length = s.size - a := by simp
  unfold tokS
  have hf : ∀ k, Lx.tok k s (a : Int) = if digitB (bt (s.extract a s.size) 0) = true then (lex_reader_number.f k s a).bind (numO s a)
      else if bt (s.extract a s.size) 0 = 39 then some (letterR (s.extract a s.size))
      else if partB (bt (s.extract a s.size) 0) = true then wordO (s.extract a s.size)
      else some (signR (s.extract a s.size)) := fun k => by unfold Lx.tok; simp only [Int.toNat_natCast]
  rw [hb] at hf
  generalize hl : (Ls s).drop a = l at *
  by_cases h1 : digU (l.getD 0 0) = true
  · rw [if_pos h1]
    refine Ev.congr ?_ fun k => by rw [hf, if_pos (show digitB ((l.getD 0 0).toNat : Int) = true from h1)]
    have hn := number_ev (s := s) (a := a) (by omega) (by omega)
    rw [hl] at hn
    refine Ev.bind hn (Ev.const ?_)
    have hle := numN_le l
    unfold numRes numS
    rw [hR]
    by_cases c1 : cntS l = 0 ∨ partAt l (numN l) = true
    · rw [if_pos c1, if_pos c1]
      simp only [numO, if_true]
      rw [if_neg (by decide)]; rfl
    · rw [if_neg c1, if_neg c1]
      by_cases c2 : 18446744073709551616 ≤ numV l
      · rw [if_pos c2, if_pos c2]
        simp only [numO, if_true]
        rw [if_neg (by decide)]; rfl
      · rw [if_neg c2, if_neg c2]
        simp only [numO, if_true]
        have hsz : ((s.extract a s.size).extract 0 (numN l)).size = numN l := by rw [ByteArray.size_extract, hRs]; omega
        have hw : wrap64 ((a : Int) + (numN l : Int)) = (a : Int) + (numN l : Int) := by unfold wrap64; omega
        rw [hsz, hw, if_pos ⟨True.intro, rfl⟩, ext_mk, hR, Nat.mod_eq_of_lt (Nat.lt_of_not_le c2)]
        rfl
  · rw [if_neg h1]
    have h39 : ((l.getD 0 0).toNat : Int) = 39 ↔ l.getD 0 0 = 39 := by
      constructor
      · intro h; apply UInt8.toNat_inj.1; have : (39 : UInt8).toNat = 39 := rfl; omega
      · intro h; rw [h]; rfl
    by_cases h2 : l.getD 0 0 = 39
    · rw [if_pos h2]
      refine Ev.congr (Ev.const ?_) fun k => by rw [hf, if_neg (show ¬ digitB ((l.getD 0 0).toNat : Int) = true from h1), if_pos (h39.2 h2)]
      rw [letterR_eq, hR]
    · rw [if_neg h2]
      by_cases h3 : partU (l.getD 0 0) = true
      · rw [if_pos h3]
        refine Ev.congr (Ev.const ?_) fun k => by rw [hf, if_neg (show ¬ digitB ((l.getD 0 0).toNat : Int) = true from h1), if_neg (fun h => h2 (h39.1 h)), if_pos (show partB ((l.getD 0 0).toNat : Int) = true from h3)]
        unfold wordO nameS
        rw [show (s.extract a s.size).data.toList = l from hR]
        by_cases h4 : 30 < spanL l
        · rw [if_pos h4, if_pos h4]; rfl
        · rw [if_neg h4, if_neg h4, word_of l _ _ hR (by omega)]
          simp only [Option.bind_some, ext_mk, hR]
          rfl
      · rw [if_neg h3]
        refine Ev.congr (Ev.const ?_) fun k => by rw [hf, if_neg (show ¬ digitB ((l.getD 0 0).toNat : Int) = true from h1), if_neg (fun h => h2 (h39.1 h)), if_neg (show ¬ partB ((l.getD 0 0).toNat : Int) = true from h3)]
        rw [signR_eq, hR]

def tok33 (a : Nat) (l : List UInt8) (t : Tk) : S33 := ⟨t.kind, (a : Int), mk (l.take t.n), mk t.suf, (t.num : Int), t.hex⟩
/-- A text's tokens, from a place on; or what is wrong, and where. -/
def lexF : Nat → List UInt8 → Nat → Except (Int × Nat) (List S33)
  | 0, _, _ => .ok []
  | k + 1, l, a =>
    if (gapS l).1 = false then .error (3, a + (gapS l).2)
    else if l.drop (gapS l).2 = [] then .ok []
    else match tokS (l.drop (gapS l).2) with
      | .error e => .error (e, a + (gapS l).2)
      | .ok t => match lexF k (l.drop ((gapS l).2 + t.n)) (a + (gapS l).2 + t.n) with
        | .error x => .error x
        | .ok ts => .ok (tok33 (a + (gapS l).2) (l.drop (gapS l).2) t :: ts)
def outS (out : List S33) : Except (Int × Nat) (List S33) → List S33 × Int × Int
  | .error (e, p) => ([], e, (p : Int))
  | .ok ts => (out ++ ts, 0, 0)

theorem gapS_le (l : List UInt8) : (gapS l).2 ≤ l.length := gapF_le _ _

set_option maxHeartbeats 1000000 in
theorem loop_ev {s : ByteArray} (hs : s.size ≤ 90000) : ∀ (d a : Nat) (out : List S33), s.size - a < d → a ≤ s.size → out.length + (s.size - a) ≤ 6000 → Ev (fun k => Lx.loop k s (a : Int) out) (outS out (lexF d ((Ls s).drop a) a)) := by
  intro d
  induction d with
  | zero => intro a out h; omega
  | succ d ih =>
    intro a out hd ha ho
    have hg := gap_ev s (by omega) s.size a (by omega) ha
    have hle := gapS_le ((Ls s).drop a)
    simp only [List.length_drop, Ls_size] at hle
    have hdr : ((Ls s).drop a).drop (gapS ((Ls s).drop a)).2 = (Ls s).drop (a + (gapS ((Ls s).drop a)).2) := by rw [List.drop_drop]
    simp only [lexF]
    rw [hdr]
    have hdr2 : ∀ m, ((Ls s).drop a).drop ((gapS ((Ls s).drop a)).2 + m) = (Ls s).drop (a + (gapS ((Ls s).drop a)).2 + m) := fun m => by rw [List.drop_drop, Nat.add_assoc]
    generalize hgn : (gapS ((Ls s).drop a)).2 = n at *
    generalize hgb : (gapS ((Ls s).drop a)).1 = b at *
    have hcond : (s.data.toList = s.data.toList ∧ (0 : Int) ≤ ((a + n : Nat) : Int) ∧ ((a + n : Nat) : Int) ≤ (s.size : Int)) := ⟨rfl, n0 _, by omega⟩
    cases b with
    | false =>
      rw [if_pos rfl]
      refine Ev.step (f := fun k => (lex_reader_gap.f k s (a : Int)).bind _) (Ev.bind hg (Ev.congr (Ev.const (x := some (([] : List S33), (3 : Int), ((a + n : Nat) : Int))) rfl) fun k => ?_)) fun k => by rw [Lx.loop]
      dsimp only
      rw [if_pos hcond, if_pos rfl]
    | true =>
      rw [if_neg (by decide)]
      by_cases hend : (Ls s).drop (a + n) = []
      · rw [if_pos hend]
        have hz : a + n = s.size := by
          have := congrArg List.length hend; simp at this; omega
        refine Ev.step (f := fun k => (lex_reader_gap.f k s (a : Int)).bind _) (Ev.bind hg (Ev.congr (Ev.const (x := some (out, (0 : Int), (0 : Int))) (by simp [outS])) fun k => ?_)) fun k => by rw [Lx.loop]
        dsimp only
        rw [if_pos hcond, if_neg (by decide), if_pos (by omega)]
      · rw [if_neg hend]
        have hlt : a + n < s.size := by
          have : ((Ls s).drop (a + n)).length ≠ 0 := fun e => hend (List.length_eq_zero_iff.1 e)
          simp at this; omega
        have ht := tok_ev (s := s) (a := a + n) hs hlt
        have hbody : ∀ (r), Ev (fun k => (Lx.tok k s ((a + n : Nat) : Int)).bind fun r => match r with
            | .error e => if e = 0 then none else some ([], e, ((a + n : Nat) : Int))
            | .ok t => if out.length = 6000 then some ([], 6, ((a + n : Nat) : Int)) else if out.length < 6000 ∧ ((a + n : Nat) : Int) + t.text.size ≤ s.size then Lx.loop k s (((a + n : Nat) : Int) + t.text.size) (out ++ [tkS ((a + n : Nat) : Int) t]) else none) r → Ev (fun k => Lx.loop k s (a : Int) out) r := by
          intro r h
          refine Ev.step (f := fun k => (lex_reader_gap.f k s (a : Int)).bind _) (Ev.bind hg ?_) fun k => by rw [Lx.loop]
          refine Ev.congr h fun k => ?_
          dsimp only
          rw [if_pos hcond, if_neg (by decide), if_neg (by omega)]
          rfl
        refine hbody _ ?_
        cases htk : tokS ((Ls s).drop (a + n)) with
        | error e =>
          rw [htk] at ht
          have he := tokS_err htk
          refine Ev.bind ht (Ev.const ?_)
          rcases he with rfl | rfl <;> rfl
        | ok t =>
          rw [htk] at ht
          have hn := tokS_ok hend htk
          simp only [List.length_drop, Ls_size] at hn
          refine Ev.bind ht ?_
          have htx : (toTK ((Ls s).drop (a + n)) t).text.size = t.n := by
            show (mk (((Ls s).drop (a + n)).take t.n)).size = t.n
            rw [← Ls_size, Ls_mk]; simp; omega
          have hrec := ih (a + n + t.n) (out ++ [tkS ((a + n : Nat) : Int) (toTK ((Ls s).drop (a + n)) t)]) (by omega) (by omega) (by simp; omega)
          dsimp only
          rw [hdr2 t.n]
          have hout : outS out (match lexF d ((Ls s).drop (a + n + t.n)) (a + n + t.n) with
              | .error x => .error x
              | .ok ts => .ok (tok33 (a + n) ((Ls s).drop (a + n)) t :: ts)) = outS (out ++ [tkS ((a + n : Nat) : Int) (toTK ((Ls s).drop (a + n)) t)]) (lexF d ((Ls s).drop (a + n + t.n)) (a + n + t.n)) := by
            cases lexF d ((Ls s).drop (a + n + t.n)) (a + n + t.n) with
            | error x => rfl
            | ok ts => simp [outS]; rfl
          rw [hout]
          refine Ev.congr hrec fun k => ?_
          simp only [toE, htx]
          rw [if_neg (by omega), if_pos ⟨by omega, by omega⟩]
          rfl

/-- What a text is taken apart to. -/
def lexS (l : List UInt8) : List S33 × Int × Int := outS [] (lexF (l.length + 1) l 0)
theorem tokens_ev {s : ByteArray} (hs : s.size ≤ 6000) : Ev (fun k => Lx.Tokens.f k s) (lexS (Ls s)) := by
  have h := loop_ev (s := s) (by omega) (s.size + 1) 0 [] (by omega) (by omega) (by simp; omega)
  rw [List.drop_zero] at h
  unfold lexS
  rw [Ls_size]
  refine Ev.congr h fun k => ?_
  unfold Lx.Tokens.f
  rw [if_neg (by omega)]
  rfl
end
section

theorem leo_more {α : Type} {f : Nat → Option α} (h : ∀ k, LeO (f k) (f (k + 1))) {r : α} {k : Nat} (hk : f k = some r) : Ev f r :=
  ⟨k, fun n hn => by
    obtain ⟨d, rfl⟩ : ∃ d, n = k + d := ⟨n - k, by omega⟩
    clear hn
    induction d with
    | zero => exact hk
    | succ d ih => exact h _ _ ih⟩
theorem awake_at : spokeshavelaw2_awake.f 40 = some true := by kernel_rfl
theorem awake_ev : Ev spokeshavelaw2_awake.f true := leo_more spokeshavelaw2_awake.mono awake_at
theorem awake_ev' : Ev (fun k => (spokeshavelaw2_awake.f k).bind fun t => some t) true := Ev.bind awake_ev (Ev.const rfl)

theorem low_ex (a : Int) (n : Nat) (h0 : 0 < n) (h1 : n < 1000000) : ∃ r : Nat, r < n ∧ spokeshavelaw0_Low.f a (n : Int) = some (r : Int) := by
  have e1 : IntKind.u64.wrap (n : Int) = (n : Int) := by rw [IntKind.wrap_u64]; omega
  obtain ⟨m, hm⟩ : ∃ m : Nat, IntKind.u64.wrap a = (m : Int) := ⟨(IntKind.u64.wrap a).toNat, by rw [IntKind.wrap_u64]; omega⟩
  refine ⟨m % n, Nat.mod_lt _ h0, ?_⟩
  have hlt : m % n < 1000000 := Nat.lt_trans (Nat.mod_lt _ h0) h1
  unfold spokeshavelaw0_Low.f
  rw [e1, hm, if_neg (by omega)]
  have e2 : Int.tmod (m : Int) (n : Int) = ((m % n : Nat) : Int) := rfl
  rw [e2]
  congr 1
  unfold wrap64; omega

/- Facts on gaps and tokens at the beginning of a text. -/
theorem gapS_ws {c : UInt8} {t : List UInt8} (h : ws c = true) : gapS (c :: t) = ((gapS t).1, 1 + (gapS t).2) := by
  show gapF (t.length + 1) (c :: t) = _
  simp only [gapF, h, if_true]
  rfl
theorem gapS_none {c : UInt8} {t : List UInt8} (h : ws c = false) (h47 : c ≠ 47) : gapS (c :: t) = (true, 0) := by
  show gapF (t.length + 1) (c :: t) = _
  have e : (47 == c) = false := by simp; exact fun e => h47 e.symm
  simp [gapF, h, List.isPrefixOf, e]
theorem gapS_nil : gapS [] = (true, 0) := rfl

theorem part_ws : ∀ c : UInt8, partU c = true → ws c = false ∧ c ≠ 47 ∧ c ≠ 39 := by
  have : ∀ n : Fin 256, partU (UInt8.ofNat n.1) = true → ws (UInt8.ofNat n.1) = false ∧ (UInt8.ofNat n.1) ≠ 47 ∧ (UInt8.ofNat n.1) ≠ 39 := by decide +kernel
  intro c h
  have hc := this ⟨c.toNat, c.toNat_lt⟩
  simp only [UInt8.ofNat_toNat] at hc
  exact hc h
theorem spanL_all : ∀ (l r : List UInt8), (∀ c ∈ l, partU c = true) → spanL (l ++ r) = l.length + spanL r
  | [], r, _ => by simp
  | c :: l, r, h => by
    have h1 : partB (c.toNat : Int) = true := h c (by simp)
    have ih := spanL_all l r (fun c hc => h c (by simp [hc]))
    unfold spanL at ih ⊢
    simp only [List.cons_append, List.takeWhile_cons, h1, if_true, List.length_cons, ih]
    omega

/- Words. -/
theorem word_len {l : List UInt8} (h : wordS l = true) : l.length ≤ 8 := by
  unfold wordS at h
  split at h
  · cases h
  · split at h
    · cases h
    · rename_i h0 hsp
      have hno : ∀ c ∈ l, c ≠ 32 := by
        intro c hc e
        subst e
        apply hsp
        unfold Lib.contains
        have : ∀ m : List UInt8, (32 : UInt8) ∈ m → 0 ≤ Lib.index m [32] := by
          intro m
          induction m with
          | nil => intro h; cases h
          | cons b m ih =>
            intro hm
            unfold Lib.index
            split
            · exact Int.le_refl _
            · rename_i hb
              rcases List.mem_cons.1 hm with e | hm
              · exfalso; apply hb; rw [← e]; rfl
              · have := ih hm
                split
                · rename_i hi
                  have : Lib.index m [32] = -1 := by simpa using hi
                  omega
                · omega
        exact decide_eq_true (this l hc)
      unfold Lib.contains at h
      have hi : 0 ≤ Lib.index wordsL (32 :: (l ++ [32])) := of_decide_eq_true h
      have hocc : ∀ (w p : List UInt8), 0 ≤ Lib.index w p → ∃ i, i ≤ w.length ∧ p <+: w.drop i := by
        intro w
        induction w with
        | nil =>
          intro p hp
          unfold Lib.index at hp
          split at hp
          · rename_i he; exact ⟨0, by simp, by rw [List.isEmpty_iff.1 he]; exact List.nil_prefix⟩
          · omega
        | cons b w ih =>
          intro p hp
          unfold Lib.index at hp
          split at hp
          · rename_i hpre; exact ⟨0, by omega, List.isPrefixOf_iff_prefix.1 hpre⟩
          · split at hp
            · omega
            · rename_i hne
              have := Lib.index_ge w p
              have h1 : Lib.index w p ≠ -1 := by simpa using hne
              obtain ⟨i, hi1, hi2⟩ := ih p (by omega)
              exact ⟨i + 1, by simp; omega, by simpa using hi2⟩
      obtain ⟨i, hi1, hi2⟩ := hocc _ _ hi
      have hall : ∀ i : Fin 201, ((wordsL.drop (i.1 + 1)).takeWhile (fun c => c != 32)).length ≤ 8 := by decide +kernel
      have hwl : wordsL.length ≤ 200 := by decide +kernel
      obtain ⟨r, hr⟩ := hi2
      have hd : wordsL.drop (i + 1) = l ++ 32 :: r := by
        have : wordsL.drop (i + 1) = (wordsL.drop i).drop 1 := by rw [List.drop_drop]
        rw [this, ← hr]; simp
      have htw : ∀ (m : List UInt8), (∀ c ∈ m, c ≠ 32) → (m ++ 32 :: r).takeWhile (fun c => c != 32) = m := by
        intro m
        induction m with
        | nil => intro _; simp
        | cons c m ih =>
          intro hm
          have hc : (c != 32) = true := by have := hm c (by simp); simpa using this
          simp only [List.cons_append, List.takeWhile_cons, hc, if_true]
          rw [ih fun c hc => hm c (by simp [hc])]
      have := hall ⟨i, by omega⟩
      rw [hd, htw l hno] at this
      exact this
theorem lexF_tok {k : Nat} {l : List UInt8} {a g : Nat} {t : Tk} {ts : List S33} (hg : gapS l = (true, g)) (hd : l.drop g ≠ []) (ht : tokS (l.drop g) = .ok t)
    (hr : lexF k (l.drop (g + t.n)) (a + g + t.n) = .ok ts) : lexF (k + 1) l a = .ok (tok33 (a + g) (l.drop g) t :: ts) := by
  simp only [lexF, hg]
  rw [if_neg (by decide), if_neg hd, ht]
  simp only [hr]
theorem lexF_err {k : Nat} {l : List UInt8} {a g : Nat} {e : Int} (hg : gapS l = (true, g)) (hd : l.drop g ≠ []) (ht : tokS (l.drop g) = .error e) : lexF (k + 1) l a = .error (e, a + g) := by
  simp only [lexF, hg]
  rw [if_neg (by decide), if_neg hd, ht]
theorem lexF_end {k : Nat} {l : List UInt8} {a g : Nat} (hg : gapS l = (true, g)) (hd : l.drop g = []) : lexF (k + 1) l a = .ok [] := by
  simp only [lexF, hg]
  rw [if_neg (by decide), if_pos hd]

theorem mk_app (a b : List UInt8) : mk a ++ mk b = mk (a ++ b) := by
  apply ba_eq
  simp only [Ls, mk, ByteArray.data_append]; simp
theorem mk_size (l : List UInt8) : (mk l).size = l.length := by rw [← Ls_size, Ls_mk]
end
end Go.Proofs.YtiljijckfkphhaaDoor.PLex
