/- The plain law of LexTells (out of LP12). -/
import Derived.Test.YtiljijckfkphhaaDoorLxPlain
import Derived.Test.YtiljijckfkphhaaDoorPLexTells
namespace Go.Proofs.YtiljijckfkphhaaDoor.PLex
open Go.RowKit Go.Proofs.YtiljijckfkphhaaDoorW.PrintWords Go.Proofs.YtiljijckfkphhaaDoorW.PrintLast Go.Proofs.YtiljijckfkphhaaDoorW.PrintMore
set_option linter.unusedVariables false
set_option linter.unusedSectionVars false
set_option linter.unusedSimpArgs false
section

/- The reference: the byte at a place, the gap. -/
def ch (s : ByteArray) (a : Nat) : UInt8 := (Ls s).getD a 0
theorem at_ev (s : ByteArray) (a : Nat) : spokeshaveref2_at.f s (a : Int) = some (((ch s a).toNat : Nat) : Int) := by
  unfold spokeshaveref2_at.f ch
  by_cases h : a < s.size
  · rw [if_pos (by omega), if_pos (n0 _), bt_L]
  · rw [if_neg (by omega), List.getD_eq_getElem?_getD, List.getElem?_eq_none (by rw [Ls_size]; omega)]; rfl
theorem ch_bt (s : ByteArray) (a : Nat) : bt s (a : Int) = (((ch s a).toNat : Nat) : Int) := bt_L s a
theorem ch_drop (s : ByteArray) (a i : Nat) : ((Ls s).drop a).getD i 0 = ch s (a + i) := by
  unfold ch; simp [List.getD_eq_getElem?_getD]
theorem byte_is (c : UInt8) (n : Int) (v : UInt8) (hv : ((v.toNat : Nat) : Int) = n) : ((c.toNat : Nat) : Int) = n ↔ c = v := by
  constructor
  · intro h; apply UInt8.toNat_inj.1; omega
  · intro h; rw [h, hv]
theorem lineN_nil : lineN [] = 0 := by unfold lineN Lib.indexAny; decide
theorem indexAny_cons (c : UInt8) (t p : List UInt8) : Lib.indexAny (c :: t) p = if p.contains c = true then 0 else if Lib.indexAny t p = -1 then -1 else Lib.indexAny t p + 1 := by
  conv => lhs; unfold Lib.indexAny
  by_cases h : p.contains c = true
  · rw [if_pos h, if_pos h]
  · rw [if_neg h, if_neg h]
    by_cases h1 : Lib.indexAny t p = -1
    · rw [if_pos (by simpa using h1), if_pos h1]
    · rw [if_neg (by simpa using h1), if_neg h1]
theorem lineN_cons (c : UInt8) (t : List UInt8) : lineN (c :: t) = if c = 10 ∨ c = 13 then 0 else 1 + lineN t := by
  unfold lineN
  rw [indexAny_cons]
  have hge := Lib.indexAny_ge [10, 13] t
  by_cases h : c = 10 ∨ c = 13
  · have : ([10, 13] : List UInt8).contains c = true := by rcases h with rfl | rfl <;> decide
    rw [if_pos h, if_pos this]; rfl
  · have : ¬ ([10, 13] : List UInt8).contains c = true := by simp; exact ⟨fun e => h (.inl e), fun e => h (.inr e)⟩
    rw [if_neg h, if_neg this]
    generalize Lib.indexAny t [10, 13] = z at *
    by_cases h1 : z = -1
    · subst h1
      rw [if_pos rfl, if_pos (by decide), if_pos (by decide)]; simp; omega
    · rw [if_neg h1, if_neg (by omega), if_neg (by omega)]; omega
theorem ref_line (s : ByteArray) (hs : s.size ≤ 100000) {r : Int × Bool} : ∀ (d b : Nat), s.size - b ≤ d → b ≤ s.size → Ev (fun k => spokeshaveref2_gap.l0 k s ((b + lineN ((Ls s).drop b) : Nat) : Int)) r → Ev (fun k => spokeshaveref2_gap.l1 k s (b : Int)) r := by
  have fin : ∀ b, b = s.size → Ev (fun k => spokeshaveref2_gap.l0 k s ((b + lineN ((Ls s).drop b) : Nat) : Int)) r → Ev (fun k => spokeshaveref2_gap.l1 k s (b : Int)) r := fun b hb h => by
    subst hb
    have e : (Ls s).drop s.size = [] := by simp
    rw [e, lineN_nil, Nat.add_zero] at h
    exact Ev.step h fun k => by simp only [spokeshaveref2_gap.l1]; rw [if_neg (by omega)]
  intro d
  induction d with
  | zero => intro b hd hb; exact fin b (by omega)
  | succ d ih =>
    intro b hd hb h
    by_cases hlt : b < s.size
    · obtain ⟨c, t, hct⟩ : ∃ c t, (Ls s).drop b = c :: t := by
        cases h : (Ls s).drop b with
        | nil => have := congrArg List.length h; simp at this; omega
        | cons c t => exact ⟨c, t, rfl⟩
      have hc : ch s b = c := by have := ch_drop s b 0; rw [hct] at this; exact this.symm
      have ht : (Ls s).drop (b + 1) = t := by rw [← List.drop_drop, hct]; rfl
      rw [hct, lineN_cons] at h
      have hw : wrap64 ((b : Int) + 1) = ((b + 1 : Nat) : Int) := w64s _ (by omega)
      by_cases h10 : c = 10
      · rw [if_pos (.inl h10), Nat.add_zero] at h
        exact Ev.step h fun k => by
          simp only [spokeshaveref2_gap.l1]
          rw [if_pos (by omega), if_pos (n0 _), ch_bt, hc, if_pos ((byte_is c 10 10 rfl).2 h10)]
      · have n10 : ¬ ((c.toNat : Nat) : Int) = 10 := fun e => h10 ((byte_is c 10 10 rfl).1 e)
        by_cases h13 : c = 13
        · rw [if_pos (.inr h13), Nat.add_zero] at h
          exact Ev.step h fun k => by
            simp only [spokeshaveref2_gap.l1]
            rw [if_pos (by omega), if_pos (n0 _), ch_bt, hc, if_neg n10, if_pos ((byte_is c 13 13 rfl).2 h13)]
        · have n13 : ¬ ((c.toNat : Nat) : Int) = 13 := fun e => h13 ((byte_is c 13 13 rfl).1 e)
          rw [if_neg (by rintro (e | e); exact h10 e; exact h13 e), ← Nat.add_assoc] at h
          refine Ev.step (ih (b + 1) (by omega) (by omega) (by rw [ht]; exact h)) fun k => ?_
          simp only [spokeshaveref2_gap.l1]
          rw [if_pos (by omega), if_pos (n0 _), ch_bt, hc, if_neg n10, if_neg n13, hw]
    · exact fin b (by omega) h
theorem index_cons (c : UInt8) (t p : List UInt8) : Lib.index (c :: t) p = if p.isPrefixOf (c :: t) = true then 0 else if Lib.index t p = -1 then -1 else Lib.index t p + 1 := by
  conv => lhs; unfold Lib.index
  by_cases h : p.isPrefixOf (c :: t) = true
  · rw [if_pos h, if_pos h]
  · rw [if_neg h, if_neg h]
    by_cases h1 : Lib.index t p = -1
    · rw [if_pos (by simpa using h1), if_pos h1]
    · rw [if_neg (by simpa using h1), if_neg h1]
theorem ref_long (s : ByteArray) (hs : s.size ≤ 100000) (a : Nat) {r : Int × Bool} : ∀ (d p : Nat), s.size - p ≤ d → p ≤ s.size →
    (Lib.index ((Ls s).drop p) [42, 47] < 0 → r = ((a : Int), false)) → (0 ≤ Lib.index ((Ls s).drop p) [42, 47] → Ev (fun k => spokeshaveref2_gap.l0 k s ((p + (Lib.index ((Ls s).drop p) [42, 47]).toNat + 2 : Nat) : Int)) r) →
    Ev (fun k => spokeshaveref2_gap.l2 k s (a : Int) (p : Int)) r := by
  have fin : ∀ p, s.size ≤ p + 1 → p ≤ s.size → (Lib.index ((Ls s).drop p) [42, 47] < 0 → r = ((a : Int), false)) → Ev (fun k => spokeshaveref2_gap.l2 k s (a : Int) (p : Int)) r := fun p hp hp2 h1 => by
    have hneg : Lib.index ((Ls s).drop p) [42, 47] < 0 := by
      rcases index_lt [42, 47] ((Ls s).drop p) with h | h
      · exact h
      · have := h.1; have := h.2; simp at this; omega
    have hw : wrap64 ((p : Int) + 1) = ((p + 1 : Nat) : Int) := w64s _ (by omega)
    refine Ev.step (f := fun _ => some ((a : Int), false)) (Ev.const (by rw [h1 hneg])) fun k => ?_
    simp only [spokeshaveref2_gap.l2]
    rw [hw, if_neg (by omega), if_pos (by omega)]
  intro d
  induction d with
  | zero => intro p hd hp h1 _; exact fin p (by omega) hp h1
  | succ d ih =>
    intro p hd hp h1 h2
    by_cases hlt : p + 1 < s.size
    · obtain ⟨c, t, hct⟩ : ∃ c t, (Ls s).drop p = c :: t := by
        cases h : (Ls s).drop p with
        | nil => have := congrArg List.length h; simp at this; omega
        | cons c t => exact ⟨c, t, rfl⟩
      have hc : ch s p = c := by have := ch_drop s p 0; rw [hct] at this; exact this.symm
      have ht : (Ls s).drop (p + 1) = t := by rw [← List.drop_drop, hct]; rfl
      obtain ⟨b, t', htb⟩ : ∃ b t', t = b :: t' := by
        cases t with
        | nil => have := congrArg List.length hct; simp at this; omega
        | cons b t' => exact ⟨b, t', rfl⟩
      have hb : ch s (p + 1) = b := by have := ch_drop s (p + 1) 0; rw [ht, htb] at this; exact this.symm
      have hw : wrap64 ((p : Int) + 1) = ((p + 1 : Nat) : Int) := w64s _ (by omega)
      have hw2 : wrap64 ((p : Int) + 2) = ((p + 2 : Nat) : Int) := by unfold wrap64; omega
      rw [hct, index_cons] at h1 h2
      have hpre : [42, 47].isPrefixOf (c :: t) = true ↔ (c = 42 ∧ b = 47) := by
        rw [htb]; simp [List.isPrefixOf]
        constructor
        · rintro ⟨h, h'⟩; exact ⟨h.symm, h'.symm⟩
        · rintro ⟨h, h'⟩; exact ⟨h.symm, h'.symm⟩
      have next : ¬ (c = 42 ∧ b = 47) → Ev (fun k => spokeshaveref2_gap.l2 k s (a : Int) ((p + 1 : Nat) : Int)) r := fun hn => by
        rw [if_neg (fun h => hn (hpre.1 h))] at h1 h2
        have hge := Lib.index_ge t [42, 47]
        refine ih (p + 1) (by omega) (by omega) ?_ ?_
        · rw [ht]; intro hneg
          have : Lib.index t [42, 47] = -1 := by omega
          rw [if_pos this] at h1; exact h1 (by decide)
        · rw [ht]; intro hpos
          have hne : ¬ Lib.index t [42, 47] = -1 := by omega
          rw [if_neg hne] at h2
          have := h2 (by omega)
          have e : p + (Lib.index t [42, 47] + 1).toNat + 2 = p + 1 + (Lib.index t [42, 47]).toNat + 2 := by omega
          rw [e] at this; exact this
      have hl2 : ∀ k, spokeshaveref2_gap.l2 (k + 1) s (a : Int) (p : Int) = if c = 42 ∧ b = 47 then spokeshaveref2_gap.l0 k s ((p + 2 : Nat) : Int) else spokeshaveref2_gap.l2 k s (a : Int) ((p + 1 : Nat) : Int) := fun k => by
        simp only [spokeshaveref2_gap.l2]
        rw [hw, hw2, if_pos (by omega), if_pos (n0 _), if_pos (by omega), ch_bt, hc]
        by_cases h42 : c = 42
        · rw [if_pos ((byte_is c 42 42 rfl).2 h42), if_pos (n0 _), ch_bt, hb]
          by_cases h47 : b = 47
          · rw [if_pos ((byte_is b 47 47 rfl).2 h47), if_neg (by omega), if_pos ⟨h42, h47⟩]
          · rw [if_neg (fun e => h47 ((byte_is b 47 47 rfl).1 e)), if_neg (fun e => h47 e.2)]
        · rw [if_neg (fun e => h42 ((byte_is c 42 42 rfl).1 e)), if_neg (fun e => h42 e.1)]
      by_cases hcb : c = 42 ∧ b = 47
      · rw [if_pos (hpre.2 hcb)] at h2
        exact Ev.step (h2 (Int.le_refl _)) fun k => by rw [hl2, if_pos hcb]; rfl
      · exact Ev.step (next hcb) fun k => by rw [hl2, if_neg hcb]
    · exact fin p (by omega) hp h1

set_option maxHeartbeats 1000000 in
theorem ref_gap (s : ByteArray) (hs : s.size ≤ 100000) : ∀ (d a : Nat), s.size - a ≤ d → a ≤ s.size → Ev (fun k => spokeshaveref2_gap.l0 k s (a : Int)) (((a + (gapS ((Ls s).drop a)).2 : Nat) : Int), (gapS ((Ls s).drop a)).1) := by
  have fin : ∀ a, a = s.size → Ev (fun k => spokeshaveref2_gap.l0 k s (a : Int)) (((a + (gapS ((Ls s).drop a)).2 : Nat) : Int), (gapS ((Ls s).drop a)).1) := fun a ha => by
    subst ha
    have e : (Ls s).drop s.size = [] := by simp
    rw [e]
    refine Ev.step (f := fun _ => some ((s.size : Int), true)) (Ev.const (by simp [gapS, gapF])) fun k => ?_
    simp only [spokeshaveref2_gap.l0]
    rw [if_neg (by omega)]
  intro d
  induction d with
  | zero => intro a hd ha; exact fin a (by omega)
  | succ d ih =>
    intro a hd ha
    by_cases hlt : a < s.size
    · obtain ⟨c, t, hct⟩ : ∃ c t, (Ls s).drop a = c :: t := by
        cases h : (Ls s).drop a with
        | nil => have := congrArg List.length h; simp at this; omega
        | cons c t => exact ⟨c, t, rfl⟩
      have hc : ch s a = c := by have := ch_drop s a 0; rw [hct] at this; exact this.symm
      have htl : t.length = s.size - a - 1 := by have := congrArg List.length hct; simp at this; omega
      have ht : (Ls s).drop (a + 1) = t := by rw [← List.drop_drop, hct]; rfl
      have hw : wrap64 ((a : Int) + 1) = ((a + 1 : Nat) : Int) := w64s _ (by omega)
      have hw2 : wrap64 ((a : Int) + 2) = ((a + 2 : Nat) : Int) := by unfold wrap64; omega
      have hb : ch s (a + 1) = t.getD 0 0 := by have := ch_drop s (a + 1) 0; rw [ht] at this; exact this.symm
      have hpre : ∀ v : UInt8, v ≠ 0 → ([47, v].isPrefixOf (c :: t) = true ↔ (c = 47 ∧ t.getD 0 0 = v)) := fun v hv => by
        cases t with
        | nil =>
          constructor
          · intro h; simp [List.isPrefixOf] at h
          · rintro ⟨_, h⟩; exact absurd h.symm hv
        | cons b t' =>
          simp [List.isPrefixOf]
          constructor
          · rintro ⟨h, h'⟩; exact ⟨h.symm, h'.symm⟩
          · rintro ⟨h, h'⟩; exact ⟨h.symm, h'.symm⟩
      have hl0 : ∀ k, spokeshaveref2_gap.l0 (k + 1) s (a : Int) = spokeshaveref2_gap.j1 k s (a : Int) (ws c) := fun k => by
        simp only [spokeshaveref2_gap.l0]
        rw [if_pos (by omega), if_pos (n0 _), ch_bt, hc]
        unfold ws
        by_cases e1 : c = 32
        · rw [if_pos ((byte_is c 32 32 rfl).2 e1), e1]; rfl
        · rw [if_neg (fun e => e1 ((byte_is c 32 32 rfl).1 e))]
          by_cases e2 : c = 9
          · rw [if_pos ((byte_is c 9 9 rfl).2 e2), e2]; rfl
          · rw [if_neg (fun e => e2 ((byte_is c 9 9 rfl).1 e))]
            by_cases e3 : c = 10
            · rw [if_pos ((byte_is c 10 10 rfl).2 e3), e3]; rfl
            · rw [if_neg (fun e => e3 ((byte_is c 10 10 rfl).1 e))]
              have : (((c.toNat : Nat) : Int) == 13) = (c == 13) := by
                rw [Bool.eq_iff_iff, beq_iff_eq, beq_iff_eq]; exact byte_is c 13 13 rfl
              have e : (c == 32 || c == 9 || c == 10 || c == 13) = (c == 13) := by
                rw [beq_eq_false_iff_ne.2 e1, beq_eq_false_iff_ne.2 e2, beq_eq_false_iff_ne.2 e3]; rfl
              rw [this, e]
      have hj1 : ∀ k, spokeshaveref2_gap.j1 (k + 1) s (a : Int) false = spokeshaveref2_gap.j2 k s (a : Int) ([47, 47].isPrefixOf (c :: t)) := fun k => by
        simp only [spokeshaveref2_gap.j1]
        rw [if_neg (by decide), if_pos (n0 _), if_pos (by omega), ch_bt, hc, hw, at_ev, hb]
        by_cases e1 : c = 47
        · rw [if_pos ((byte_is c 47 47 rfl).2 e1)]
          simp only [Option.bind_some]
          congr 1
          rw [Bool.eq_iff_iff, beq_iff_eq, hpre 47 (by decide)]
          exact ⟨fun h => ⟨e1, (byte_is _ 47 47 rfl).1 h⟩, fun h => (byte_is _ 47 47 rfl).2 h.2⟩
        · rw [if_neg (fun e => e1 ((byte_is c 47 47 rfl).1 e))]
          congr 1
          rw [eq_comm, Bool.eq_false_iff]; intro h; exact e1 ((hpre 47 (by decide)).1 h).1
      have hj2 : ∀ k, spokeshaveref2_gap.j2 (k + 1) s (a : Int) false = spokeshaveref2_gap.j4 k s (a : Int) ([47, 42].isPrefixOf (c :: t)) := fun k => by
        simp only [spokeshaveref2_gap.j2]
        rw [if_neg (by decide), if_pos (n0 _), if_pos (by omega), ch_bt, hc, hw, at_ev, hb]
        by_cases e1 : c = 47
        · rw [if_pos ((byte_is c 47 47 rfl).2 e1)]
          simp only [Option.bind_some]
          congr 1
          rw [Bool.eq_iff_iff, beq_iff_eq, hpre 42 (by decide)]
          exact ⟨fun h => ⟨e1, (byte_is _ 42 42 rfl).1 h⟩, fun h => (byte_is _ 42 42 rfl).2 h.2⟩
        · rw [if_neg (fun e => e1 ((byte_is c 47 47 rfl).1 e))]
          congr 1
          rw [eq_comm, Bool.eq_false_iff]; intro h; exact e1 ((hpre 42 (by decide)).1 h).1
      have hdrop : ∀ m, (Ls s).drop (a + m) = (c :: t).drop m := fun m => by rw [← List.drop_drop, hct]
      have hg : ∀ m, 1 ≤ m → m ≤ t.length + 1 → gapF t.length ((c :: t).drop m) = gapS ((Ls s).drop (a + m)) := fun m h1 h2 => by
        rw [hdrop]; exact gapS_eq _ (by simp; omega)
      have hgs : gapS ((Ls s).drop a) = gapF (t.length + 1) (c :: t) := by rw [hct]; rfl
      have go : ∀ m, 1 ≤ m → m ≤ t.length + 1 → Ev (fun k => spokeshaveref2_gap.l0 k s ((a + m : Nat) : Int)) (((a + (m + (gapF t.length ((c :: t).drop m)).2) : Nat) : Int), (gapF t.length ((c :: t).drop m)).1) := by
        intro m h1 h2
        rw [hg m h1 h2, ← Nat.add_assoc]
        exact ih (a + m) (by omega) (by omega)
      rw [hgs]
      simp only [gapF]
      by_cases hw0 : ws c = true
      · simp only [hw0, if_true]
        refine Ev.step (Ev.step (f := fun k => spokeshaveref2_gap.l0 k s ((a + 1 : Nat) : Int)) (go 1 (by omega) (by omega)) (F := fun k => spokeshaveref2_gap.j1 k s (a : Int) true) fun k => ?_) fun k => by rw [hl0, hw0]
        simp only [spokeshaveref2_gap.j1]
        rw [if_pos trivial, hw]
      · have hw1 : ws c = false := by simpa using hw0
        simp only [hw1, Bool.false_eq_true, if_false]
        have hp := lineN_pos c t hw1
        have hl := lineN_le (c :: t)
        simp only [List.length_cons] at hl
        by_cases h1 : [47, 47].isPrefixOf (c :: t) = true
        · simp only [h1, if_true]
          have hline := ref_line s hs (s.size - a) a (Nat.le_refl _) ha (r := _) (by rw [hct]; exact go (lineN (c :: t)) hp (by omega))
          refine Ev.step (F := fun k => spokeshaveref2_gap.l0 k s (a : Int)) (Ev.step (F := fun k => spokeshaveref2_gap.j1 k s (a : Int) false) (Ev.step (F := fun k => spokeshaveref2_gap.j2 k s (a : Int) true) hline fun k => ?_) fun k => by rw [hj1, h1]) fun k => by rw [hl0, hw1]
          simp only [spokeshaveref2_gap.j2]
          rw [if_pos trivial]
        · have h1' : [47, 47].isPrefixOf (c :: t) = false := Bool.eq_false_iff.2 h1
          simp only [h1', Bool.false_eq_true, if_false]
          by_cases h2 : [47, 42].isPrefixOf (c :: t) = true
          · simp only [h2, if_true]
            have hlen : 2 ≤ (c :: t).length := (List.isPrefixOf_iff_prefix.1 h2).length_le
            simp only [List.length_cons] at hlen
            have hd2 : (Ls s).drop (a + 2) = t.drop 1 := by rw [hdrop]; rfl
            have hx := index_lt [42, 47] (t.drop 1)
            have hlong : Ev (fun k => spokeshaveref2_gap.l2 k s (a : Int) ((a + 2 : Nat) : Int)) (if Lib.index (t.drop 1) [42, 47] < 0 then ((a : Int), false) else
                (((a + ((Lib.index (t.drop 1) [42, 47]).toNat + 4 + (gapF t.length (t.drop (1 + (Lib.index (t.drop 1) [42, 47]).toNat + 2))).2) : Nat) : Int), (gapF t.length (t.drop (1 + (Lib.index (t.drop 1) [42, 47]).toNat + 2))).1)) := by
              refine ref_long s hs a (s.size - (a + 2)) (a + 2) (Nat.le_refl _) (by omega) ?_ ?_
              · rw [hd2]; intro hneg; rw [if_pos hneg]
              · rw [hd2]; intro hpos
                rw [if_neg (by omega)]
                have hx' : Lib.index (t.drop 1) [42, 47] + 2 ≤ ((t.drop 1).length : Int) := by
                  rcases hx with h | h
                  · omega
                  · exact h.2
                simp only [List.length_drop] at hx'
                have := go ((Lib.index (t.drop 1) [42, 47]).toNat + 4) (by omega) (by omega)
                have e : (c :: t).drop ((Lib.index (t.drop 1) [42, 47]).toNat + 4) = t.drop (1 + (Lib.index (t.drop 1) [42, 47]).toNat + 2) := by
                  rw [show (Lib.index (t.drop 1) [42, 47]).toNat + 4 = (1 + (Lib.index (t.drop 1) [42, 47]).toNat + 2) + 1 by omega]; rfl
                rw [e] at this
                have e2 : a + 2 + (Lib.index (t.drop 1) [42, 47]).toNat + 2 = a + ((Lib.index (t.drop 1) [42, 47]).toNat + 4) := by omega
                rw [e2]; exact this
            have hres : (((a + (if Lib.index (t.drop 1) [42, 47] < 0 then (false, 0) else ((gapF t.length (t.drop (1 + (Lib.index (t.drop 1) [42, 47]).toNat + 2))).1, (Lib.index (t.drop 1) [42, 47]).toNat + 4 + (gapF t.length (t.drop (1 + (Lib.index (t.drop 1) [42, 47]).toNat + 2))).2)).2 : Nat) : Int), (if Lib.index (t.drop 1) [42, 47] < 0 then (false, 0) else ((gapF t.length (t.drop (1 + (Lib.index (t.drop 1) [42, 47]).toNat + 2))).1, (Lib.index (t.drop 1) [42, 47]).toNat + 4 + (gapF t.length (t.drop (1 + (Lib.index (t.drop 1) [42, 47]).toNat + 2))).2)).1) = (if Lib.index (t.drop 1) [42, 47] < 0 then ((a : Int), false) else
                (((a + ((Lib.index (t.drop 1) [42, 47]).toNat + 4 + (gapF t.length (t.drop (1 + (Lib.index (t.drop 1) [42, 47]).toNat + 2))).2) : Nat) : Int), (gapF t.length (t.drop (1 + (Lib.index (t.drop 1) [42, 47]).toNat + 2))).1)) := by
              by_cases hneg : Lib.index (t.drop 1) [42, 47] < 0
              · simp only [hneg, if_true]; rfl
              · simp only [hneg, if_false]
            rw [hres]
            refine Ev.step (F := fun k => spokeshaveref2_gap.l0 k s (a : Int)) (Ev.step (F := fun k => spokeshaveref2_gap.j1 k s (a : Int) false) (Ev.step (F := fun k => spokeshaveref2_gap.j2 k s (a : Int) false) (Ev.step (F := fun k => spokeshaveref2_gap.j4 k s (a : Int) true) hlong fun k => ?_) fun k => by rw [hj2, h2]) fun k => by rw [hj1, h1']) fun k => by rw [hl0, hw1]
            simp only [spokeshaveref2_gap.j4]
            rw [if_pos trivial, hw2]
          · have h2' : [47, 42].isPrefixOf (c :: t) = false := Bool.eq_false_iff.2 h2
            simp only [h2', Bool.false_eq_true, if_false]
            refine Ev.step (F := fun k => spokeshaveref2_gap.l0 k s (a : Int)) (Ev.step (F := fun k => spokeshaveref2_gap.j1 k s (a : Int) false) (Ev.step (F := fun k => spokeshaveref2_gap.j2 k s (a : Int) false) (Ev.step (F := fun k => spokeshaveref2_gap.j4 k s (a : Int) false) (f := fun _ => some ((a : Int), true)) (Ev.const rfl) fun k => ?_) fun k => by rw [hj2, h2']) fun k => by rw [hj1, h1']) fun k => by rw [hl0, hw1]
            simp only [spokeshaveref2_gap.j4]
            rw [if_neg (by decide)]
    · exact fin a (by omega)
end
section

/- The reference: words, signs, letters. -/
def WB : List ByteArray := [(⟨#[118, 111, 105, 100]⟩ : ByteArray), (⟨#[99, 104, 97, 114]⟩ : ByteArray), (⟨#[115, 104, 111, 114, 116]⟩ : ByteArray), (⟨#[105, 110, 116]⟩ : ByteArray), (⟨#[108, 111, 110, 103]⟩ : ByteArray), (⟨#[117, 110, 115, 105, 103, 110, 101, 100]⟩ : ByteArray), (⟨#[115, 116, 114, 117, 99, 116]⟩ : ByteArray), (⟨#[116, 121, 112, 101, 100, 101, 102]⟩ : ByteArray), (⟨#[105, 102]⟩ : ByteArray), (⟨#[101, 108, 115, 101]⟩ : ByteArray), (⟨#[119, 104, 105, 108, 101]⟩ : ByteArray), (⟨#[100, 111]⟩ : ByteArray), (⟨#[102, 111, 114]⟩ : ByteArray), (⟨#[115, 119, 105, 116, 99, 104]⟩ : ByteArray), (⟨#[99, 97, 115, 101]⟩ : ByteArray), (⟨#[100, 101, 102, 97, 117, 108, 116]⟩ : ByteArray), (⟨#[98, 114, 101, 97, 107]⟩ : ByteArray), (⟨#[99, 111, 110, 116, 105, 110, 117, 101]⟩ : ByteArray), (⟨#[114, 101, 116, 117, 114, 110]⟩ : ByteArray), (⟨#[103, 111, 116, 111]⟩ : ByteArray), (⟨#[115, 105, 122, 101, 111, 102]⟩ : ByteArray)]
theorem WB_word : ∀ w ∈ WB.map Ls, wordS w = true := by decide +kernel
theorem word_WB {l : List UInt8} (h : wordS l = true) : l ∈ WB.map Ls := by
  unfold wordS at h
  split at h
  · cases h
  · split at h
    · cases h
    · rename_i h0 hsp
      have hno : ∀ c ∈ l, c ≠ 32 := by
        intro c hc e
        subst e
        apply hsp
        unfold Lib.contains
        have : ∀ m : List UInt8, (32 : UInt8) ∈ m → 0 ≤ Lib.index m [32] := by
          intro m
          induction m with
          | nil => intro h; cases h
          | cons b m ih =>
            intro hm
            rw [index_cons]
            split
            · exact Int.le_refl _
            · rename_i hb
              rcases List.mem_cons.1 hm with e | hm
              · exfalso; apply hb; rw [← e]; rfl
              · have := ih hm
                split
                · rename_i hi; omega
                · omega
        exact decide_eq_true (this l hc)
      unfold Lib.contains at h
      have hi : 0 ≤ Lib.index wordsL (32 :: (l ++ [32])) := of_decide_eq_true h
      have hocc : ∀ (w p : List UInt8), 0 ≤ Lib.index w p → ∃ i, i ≤ w.length ∧ p <+: w.drop i := by
        intro w
        induction w with
        | nil =>
          intro p hp
          unfold Lib.index at hp
          split at hp
          · rename_i he; exact ⟨0, by simp, by rw [List.isEmpty_iff.1 he]; exact List.nil_prefix⟩
          · omega
        | cons b w ih =>
          intro p hp
          rw [index_cons] at hp
          split at hp
          · rename_i hpre; exact ⟨0, by omega, List.isPrefixOf_iff_prefix.1 hpre⟩
          · split at hp
            · omega
            · rename_i hne
              have := Lib.index_ge w p
              obtain ⟨i, hi1, hi2⟩ := ih p (by omega)
              exact ⟨i + 1, by simp; omega, by simpa using hi2⟩
      obtain ⟨i, hi1, hi2⟩ := hocc _ _ hi
      have hall : ∀ i : Fin 201, (wordsL.drop i.1).getD 0 0 = 32 → ((wordsL.drop (i.1 + 1)).takeWhile (fun c => c != 32)) = [] ∨ ((wordsL.drop (i.1 + 1)).takeWhile (fun c => c != 32)) ∈ WB.map Ls := by decide +kernel
      have hwl : wordsL.length ≤ 200 := by decide +kernel
      obtain ⟨r, hr⟩ := hi2
      have hd0 : (wordsL.drop i).getD 0 0 = 32 := by rw [← hr]; rfl
      have hd : wordsL.drop (i + 1) = l ++ 32 :: r := by
        have : wordsL.drop (i + 1) = (wordsL.drop i).drop 1 := by rw [List.drop_drop]
        rw [this, ← hr]; simp
      have htw : ∀ (m : List UInt8), (∀ c ∈ m, c ≠ 32) → (m ++ 32 :: r).takeWhile (fun c => c != 32) = m := by
        intro m
        induction m with
        | nil => intro _; simp
        | cons c m ih =>
          intro hm
          have hc : (c != 32) = true := by have := hm c (by simp); simpa using this
          simp only [List.cons_append, List.takeWhile_cons, hc, if_true]
          rw [ih fun c hc => hm c (by simp [hc])]
      have := hall ⟨i, by omega⟩ hd0
      rw [hd, htw l hno] at this
      rcases this with h1 | h1
      · exact absurd h1 h0
      · exact h1
theorem ref_word_l0 (x : ByteArray) : ∀ (d i : Nat), WB.length - i ≤ d → i ≤ WB.length → Ev (fun k => spokeshaveref2_Word.l0 k x WB (i : Int)) (decide (Ls x ∈ (WB.drop i).map Ls)) := by
  have fin : ∀ i, i = WB.length → Ev (fun k => spokeshaveref2_Word.l0 k x WB (i : Int)) (decide (Ls x ∈ (WB.drop i).map Ls)) := fun i hi => by
    subst hi
    refine Ev.step (f := fun _ => some false) (Ev.const (by simp)) fun k => ?_
    simp only [spokeshaveref2_Word.l0]
    rw [if_neg (by omega)]
  intro d
  induction d with
  | zero => intro i hd hi; exact fin i (by omega)
  | succ d ih =>
    intro i hd hi
    by_cases hlt : i < WB.length
    · have hL : WB.length = 21 := rfl
      have hw : wrap64 ((i : Int) + 1) = ((i + 1 : Nat) : Int) := w64s _ (by omega)
      have hdr : WB.drop i = rdOf ByteArray.empty WB (i : Int) :: WB.drop (i + 1) := by
        rw [List.drop_eq_getElem_cons hlt]
        congr 1
        show _ = WB.getD i ByteArray.empty
        rw [List.getD_eq_getElem?_getD, List.getElem?_eq_getElem hlt]; rfl
      rw [hdr]
      by_cases he : Ls (rdOf ByteArray.empty WB (i : Int)) = Ls x
      · refine Ev.step (f := fun _ => some true) (Ev.const (by simp [he])) fun k => ?_
        simp only [spokeshaveref2_Word.l0]
        rw [if_pos (by omega), if_pos (n0 _), if_pos (by rw [toList_Ls, toList_Ls]; exact he)]
      · have e : decide (Ls x ∈ List.map Ls (rdOf ByteArray.empty WB (i : Int) :: WB.drop (i + 1))) = decide (Ls x ∈ (WB.drop (i + 1)).map Ls) := by
          rw [decide_eq_decide, List.map_cons, List.mem_cons]
          exact ⟨fun h => h.resolve_left (fun h => he h.symm), .inr⟩
        rw [e]
        refine Ev.step (ih (i + 1) (by omega) (by omega)) fun k => ?_
        simp only [spokeshaveref2_Word.l0]
        rw [if_pos (by omega), if_pos (n0 _), if_neg (by rw [toList_Ls, toList_Ls]; exact he), hw]
    · exact fin i (by omega)
theorem ref_word (x : ByteArray) : Ev (fun k => spokeshaveref2_Word.f k x) (wordS (Ls x)) := by
  have h := ref_word_l0 x WB.length 0 (by omega) (by omega)
  have e : decide (Ls x ∈ (WB.drop 0).map Ls) = wordS (Ls x) := by
    rw [List.drop_zero]
    by_cases hm : Ls x ∈ WB.map Ls
    · rw [decide_eq_true hm, WB_word _ hm]
    · rw [decide_eq_false hm]
      cases hw : wordS (Ls x) with
      | false => rfl
      | true => exact absurd (word_WB hw) hm
  rw [e] at h
  exact Ev.congr h fun k => rfl

theorem letter_all : ∀ n : Fin 256, spokeshaveref2_letter.f (n.1 : Int) = some (partU (UInt8.ofNat n.1) && !digU (UInt8.ofNat n.1)) ∧ spokeshaveref2_digit.f (n.1 : Int) = some (digU (UInt8.ofNat n.1)) ∧ (digU (UInt8.ofNat n.1) = true → partU (UInt8.ofNat n.1) = true) ∧ ((UInt8.ofNat n.1) = 39 → partU (UInt8.ofNat n.1) = false) := by decide +kernel
theorem letter_is (c : UInt8) : spokeshaveref2_letter.f ((c.toNat : Nat) : Int) = some (partU c && !digU c) ∧ spokeshaveref2_digit.f ((c.toNat : Nat) : Int) = some (digU c) ∧ (digU c = true → partU c = true) ∧ (c = 39 → partU c = false) := by
  have hc := letter_all ⟨c.toNat, c.toNat_lt⟩
  simp only [UInt8.ofNat_toNat] at hc
  exact hc

def SB : List ByteArray := signs0 ++ (signs1 ++ signs2)
theorem SB_is : spokeshaveref2_signs.f = some SB := rfl
theorem iLe (a b : Nat) (h : a ≤ b) : (a : Int) ≤ (b : Int) := by omega
theorem ap (a n p : Nat) (ha : a ≤ n) (h : p ≤ n - a) : a + p ≤ n := by omega
theorem nGe (a b : Nat) (h : ¬ b ≤ a) : ¬ (a : Int) ≥ (b : Int) := by omega
theorem ref_sign_l0 (s : ByteArray) (hs : s.size ≤ 100000) (a : Nat) (ha : a ≤ s.size) : ∀ (d i : Nat), SB.length - i ≤ d → i ≤ SB.length →
    Ev (fun k => spokeshaveref2_sign.l0 k s (a : Int) SB (i : Int)) (mk (((SB.drop i).map Ls).find? (fun p => p.isPrefixOf ((Ls s).drop a)) |>.getD [])) := by
  have fin : ∀ i, i = SB.length → Ev (fun k => spokeshaveref2_sign.l0 k s (a : Int) SB (i : Int)) (mk (((SB.drop i).map Ls).find? (fun p => p.isPrefixOf ((Ls s).drop a)) |>.getD [])) := fun i hi => by
    subst hi
    refine Ev.step (f := fun _ => some (⟨#[]⟩ : ByteArray)) (Ev.const (by simp; rfl)) fun k => ?_
    simp only [spokeshaveref2_sign.l0]
    rw [if_neg (by omega)]
  have hL : SB.length = 43 := rfl
  have hsz : ∀ p ∈ SB, p.size ≤ 3 := by decide +kernel
  intro d
  induction d with
  | zero => intro i hd hi; exact fin i (by omega)
  | succ d ih =>
    intro i hd hi
    by_cases hlt : i < SB.length
    · have hih := ih (i + 1) (by omega) (by omega)
      clear ih
      have hw : wrap64 ((i : Int) + 1) = ((i + 1 : Nat) : Int) := w64s _ (by omega)
      have hget : SB[i] = rdOf ByteArray.empty SB (i : Int) := by
        show _ = SB.getD i ByteArray.empty
        rw [List.getD_eq_getElem?_getD, List.getElem?_eq_getElem hlt]; rfl
      have hdr : SB.drop i = rdOf ByteArray.empty SB (i : Int) :: SB.drop (i + 1) := by
        rw [List.drop_eq_getElem_cons hlt, hget]
      have hp3 := hsz _ (List.getElem_mem hlt)
      rw [hget] at hp3
      rw [hdr]
      generalize hpe : rdOf ByteArray.empty SB (i : Int) = p at *
      have hwa : wrap64 ((s.size : Int) - (a : Int)) = ((s.size - a : Nat) : Int) := by unfold wrap64; omega
      have hwb : wrap64 ((a : Int) + (p.size : Int)) = ((a + p.size : Nat) : Int) := by unfold wrap64; omega
      have hext : (s.extract a (a + p.size)).toList = p.toList ↔ ((Ls s).drop a).take p.size = Ls p := by
        rw [toList_Ls, toList_Ls, Ls_ext, show a + p.size - a = p.size by omega]
      have hstep : ∀ k, spokeshaveref2_sign.l0 (k + 1) s (a : Int) SB (i : Int) = if (Ls p).isPrefixOf ((Ls s).drop a) = true then some p else spokeshaveref2_sign.l0 k s (a : Int) SB ((i + 1 : Nat) : Int) := fun k => by
        simp only [spokeshaveref2_sign.l0]
        rw [if_pos (nLt _ _ hlt), if_pos (n0 _), hpe, hwa, hwb, hw]
        simp only [Int.toNat_natCast]
        by_cases hle : p.size ≤ s.size - a
        · rw [if_pos (iLe _ _ hle), if_pos (n0 _), if_pos (iLe _ _ (Nat.le_add_right _ _)), if_pos (iLe _ _ (ap _ _ _ ha hle))]
          by_cases he : ((Ls s).drop a).take p.size = Ls p
          · rw [if_pos (hext.2 he), if_pos (by
              rw [List.isPrefixOf_iff_prefix, ← he]; exact List.take_prefix _ _)]
          · rw [if_neg (fun h => he (hext.1 h)), if_neg (fun h => he (by
              rw [List.isPrefixOf_iff_prefix] at h
              have := List.prefix_iff_eq_take.1 h
              rw [Ls_size] at this; exact this.symm))]
        · rw [if_neg (nGe _ _ hle), if_neg (fun h => hle (by
            rw [List.isPrefixOf_iff_prefix] at h
            have := h.length_le
            simp at this; exact this))]
      rw [List.map_cons, List.find?_cons]
      by_cases he : (Ls p).isPrefixOf ((Ls s).drop a) = true
      · simp only [he]
        exact Ev.step (f := fun _ => some p) (Ev.const (by simp; exact (ba_eq (Ls_mk (Ls p))).symm)) fun k => by rw [hstep, if_pos he]
      · have he' : (Ls p).isPrefixOf ((Ls s).drop a) = false := Bool.eq_false_iff.2 he
        simp only [he']
        exact Ev.step hih fun k => by rw [hstep, if_neg he]
    · exact fin i (by omega)
theorem ref_sign (s : ByteArray) (hs : s.size ≤ 100000) (a : Nat) (ha : a ≤ s.size) : Ev (fun k => spokeshaveref2_sign.f k s (a : Int)) (mk ((signsL.find? (fun p => p.isPrefixOf ((Ls s).drop a))).getD [])) := by
  have h := ref_sign_l0 s hs a ha SB.length 0 (by omega) (by omega)
  rw [List.drop_zero] at h
  exact Ev.congr h fun k => by unfold spokeshaveref2_sign.f; rw [SB_is]; rfl
end
section

/- The reference: numbers. -/
abbrev T7 := Int × Int × ByteArray × ByteArray × Int × Bool × Int
def W64 (N : Nat) : Int := ((N % 18446744073709551616 : Nat) : Int)
def ov (N : Nat) : Bool := decide (18446744073709551616 ≤ N)
theorem hex_all : ∀ n : Fin 256, spokeshaveref2_hex.f 2 (n.1 : Int) = some (valI 16 (UInt8.ofNat n.1)) := by decide +kernel
theorem hex_ev (c : UInt8) : Ev (fun k => spokeshaveref2_hex.f k ((c.toNat : Nat) : Int)) (valI 16 c) := by
  have hc := hex_all ⟨c.toNat, c.toNat_lt⟩
  simp only [UInt8.ofNat_toNat] at hc
  exact leo_more (f := fun k => spokeshaveref2_hex.f k ((c.toNat : Nat) : Int)) (fun k => spokeshaveref2_hex.mono _ k) hc
def sufN (r : List UInt8) : Nat := if r.getD 0 0 = 117 then (if r.getD 1 0 = 108 then 2 else 1) else if r.getD 0 0 = 108 then 1 else 0
theorem suf_len (r : List UInt8) : (sufS r).length = sufN r ∧ r.take (sufN r) = sufS r := by
  match r with
  | [] => exact ⟨rfl, rfl⟩
  | [c] =>
    unfold sufS sufN
    by_cases h1 : c = 117
    · subst h1; exact ⟨rfl, rfl⟩
    · by_cases h2 : c = 108
      · subst h2; exact ⟨rfl, rfl⟩
      · have e1 : ¬ [117].isPrefixOf [c] = true := by simp [List.isPrefixOf]; exact fun e => h1 e.symm
        have e2 : ¬ [108].isPrefixOf [c] = true := by simp [List.isPrefixOf]; exact fun e => h2 e.symm
        have e3 : ¬ [117, 108].isPrefixOf [c] = true := by simp [List.isPrefixOf]
        rw [if_neg e3, if_neg e1, if_neg e2, if_neg (show ¬ ([c].getD 0 0 = 117) from h1), if_neg (show ¬ ([c].getD 0 0 = 108) from h2)]
        exact ⟨rfl, rfl⟩
  | c :: d :: t =>
    unfold sufS sufN
    by_cases h1 : c = 117
    · subst h1
      by_cases h2 : d = 108
      · subst h2; exact ⟨rfl, rfl⟩
      · have e3 : ¬ [117, 108].isPrefixOf (117 :: d :: t) = true := by simp [List.isPrefixOf]; exact fun e => h2 e.symm
        rw [if_neg e3, if_pos (show [117].isPrefixOf (117 :: d :: t) = true from rfl), if_pos (show (117 :: d :: t).getD 0 0 = 117 from rfl), if_neg (show ¬ ((117 :: d :: t).getD 1 0 = 108) from h2)]
        exact ⟨rfl, rfl⟩
    · have e1 : ¬ [117].isPrefixOf (c :: d :: t) = true := by simp [List.isPrefixOf]; exact fun e => h1 e.symm
      have e3 : ¬ [117, 108].isPrefixOf (c :: d :: t) = true := by simp [List.isPrefixOf]; intro e; exact absurd e.symm h1
      rw [if_neg e3, if_neg e1, if_neg (show ¬ ((c :: d :: t).getD 0 0 = 117) from h1)]
      by_cases h2 : c = 108
      · subst h2; exact ⟨rfl, rfl⟩
      · have e2 : ¬ [108].isPrefixOf (c :: d :: t) = true := by simp [List.isPrefixOf]; exact fun e => h2 e.symm
        rw [if_neg e2, if_neg (show ¬ ((c :: d :: t).getD 0 0 = 108) from h2)]
        exact ⟨rfl, rfl⟩
theorem part_at (s : ByteArray) (a m : Nat) : partAt ((Ls s).drop a) m = partU (ch s (a + m)) := by
  rw [← ch_drop]
  unfold partAt
  rw [List.getD_eq_getElem?_getD]
  cases ((Ls s).drop a)[m]? with
  | none => show false = partU 0; decide +kernel
  | some c => rfl

section
variable {s : ByteArray} {a : Nat} {f5 : Bool}
/-- What comes of the digits. -/
def numT (s : ByteArray) (a n N : Nat) (f5 : Bool) : T7 :=
  (3, (a : Int), s.extract a (a + n + sufN ((Ls s).drop (a + n))), s.extract (a + n) (a + n + sufN ((Ls s).drop (a + n))), W64 N, f5,
    if partU (ch s (a + n + sufN ((Ls s).drop (a + n)))) = true then 3 else if ov N = true then 6 else 0)
theorem j5_ev (hs : s.size ≤ 100000) (n m N : Nat) (hm : a + n + m ≤ s.size) : Ev (fun k => spokeshaveref2_number.j5 k s (a : Int) ((a + n + m : Nat) : Int) (ov N) ((a + n : Nat) : Int) 3 (a : Int) (⟨#[]⟩ : ByteArray) (⟨#[]⟩ : ByteArray) (W64 N) f5)
    (3, (a : Int), s.extract a (a + n + m), s.extract (a + n) (a + n + m), W64 N, f5, if partU (ch s (a + n + m)) = true then 3 else if ov N = true then 6 else 0) := by
  have hl := letter_is (ch s (a + n + m))
  have h6 : ∀ (p : Bool) (x y : ByteArray), Ev (fun k => spokeshaveref2_number.j6 k (ov N) p 3 (a : Int) x y (W64 N) f5) (3, (a : Int), x, y, W64 N, f5, if p = true then 3 else if ov N = true then 6 else 0) := fun p x y => by
    refine Ev.step (f := fun _ => some (3, (a : Int), x, y, W64 N, f5, if p = true then 3 else if ov N = true then 6 else 0)) (Ev.const rfl) fun k => ?_
    simp only [spokeshaveref2_number.j6]
    cases p <;> cases ov N <;> rfl
  refine Ev.step (f := fun k => spokeshaveref2_number.j6 k (ov N) (partU (ch s (a + n + m))) 3 (a : Int) (s.extract a (a + n + m)) (s.extract (a + n) (a + n + m)) (W64 N) f5) (h6 _ _ _) fun k => ?_
  simp only [spokeshaveref2_number.j5]
  rw [if_pos (n0 _), if_pos (iLe _ _ (Nat.le_add_right _ _)), if_pos (iLe _ _ hm), if_pos (n0 _), if_pos (iLe _ _ (by rw [Nat.add_assoc]; exact Nat.le_add_right _ _)), at_ev]
  simp only [Option.bind_some]
  rw [hl.2.1, hl.1]
  simp only [Option.bind_some, Int.toNat_natCast]
  cases hd : digU (ch s (a + n + m)) with
  | true => rw [if_pos rfl, hl.2.2.1 hd]
  | false => rw [if_neg (by decide)]; simp
theorem sufN_le (r : List UInt8) : sufN r ≤ r.length := by rw [← (suf_len r).1]; exact (sufS_prefix r).length_le
theorem w1 (p : Nat) (h : p ≤ 100000) : wrap64 ((p : Int) + 1) = ((p + 1 : Nat) : Int) := w64s p h
theorem j3_ev (hs : s.size ≤ 100000) (n N : Nat) (hn : a + n ≤ s.size) : Ev (fun k => spokeshaveref2_number.j3 k s (a : Int) ((a + n : Nat) : Int) (ov N) 3 (a : Int) (⟨#[]⟩ : ByteArray) (⟨#[]⟩ : ByteArray) (W64 N) f5) (numT s a n N f5) := by
  have hle := sufN_le ((Ls s).drop (a + n))
  simp only [List.length_drop, Ls_size] at hle
  have h5 := j5_ev (a := a) (f5 := f5) hs n (sufN ((Ls s).drop (a + n))) N (by omega)
  unfold numT
  have e0 : ((Ls s).drop (a + n)).getD 0 0 = ch s (a + n) := ch_drop s (a + n) 0
  have e1 : ((Ls s).drop (a + n)).getD 1 0 = ch s (a + n + 1) := ch_drop s (a + n) 1
  generalize hm : sufN ((Ls s).drop (a + n)) = m at *
  unfold sufN at hm
  rw [e0, e1] at hm
  have b1 : a + n ≤ 100000 := by omega
  have p1 : ((117 : UInt8).toNat : Int) = 117 := rfl
  by_cases hu : ch s (a + n) = 117
  · rw [if_pos hu] at hm
    have hu' := (byte_is (ch s (a + n)) 117 117 rfl).2 hu
    have hlen : a + n < s.size := by
      apply Nat.lt_of_not_le; intro h
      have : ch s (a + n) = 0 := by unfold ch; rw [List.getD_eq_getElem?_getD, List.getElem?_eq_none (by rw [Ls_size]; exact h)]; rfl
      rw [this] at hu; exact absurd hu (by decide)
    have b2 : a + n + 1 ≤ 100000 := by omega
    by_cases hl : ch s (a + n + 1) = 108
    · rw [if_pos hl] at hm; subst hm
      have hl' := (byte_is (ch s (a + n + 1)) 108 108 rfl).2 hl
      refine Ev.step (F := fun k => spokeshaveref2_number.j3 k s (a : Int) ((a + n : Nat) : Int) (ov N) 3 (a : Int) (⟨#[]⟩ : ByteArray) (⟨#[]⟩ : ByteArray) (W64 N) f5) (Ev.step (F := fun k => spokeshaveref2_number.j4 k s (a : Int) ((a + n + 1 : Nat) : Int) (ov N) ((a + n : Nat) : Int) 3 (a : Int) (⟨#[]⟩ : ByteArray) (⟨#[]⟩ : ByteArray) (W64 N) f5) h5 fun k => ?_) fun k => ?_
      · simp only [spokeshaveref2_number.j4]; rw [at_ev]; simp only [Option.bind_some]; rw [if_pos hl', w1 _ b2]
      · simp only [spokeshaveref2_number.j3]; rw [at_ev]; simp only [Option.bind_some]; rw [if_pos hu', w1 _ b1]
    · rw [if_neg hl] at hm; subst hm
      have hl' : ¬ _ := fun e => hl ((byte_is (ch s (a + n + 1)) 108 108 rfl).1 e)
      refine Ev.step (F := fun k => spokeshaveref2_number.j3 k s (a : Int) ((a + n : Nat) : Int) (ov N) 3 (a : Int) (⟨#[]⟩ : ByteArray) (⟨#[]⟩ : ByteArray) (W64 N) f5) (Ev.step (F := fun k => spokeshaveref2_number.j4 k s (a : Int) ((a + n + 1 : Nat) : Int) (ov N) ((a + n : Nat) : Int) 3 (a : Int) (⟨#[]⟩ : ByteArray) (⟨#[]⟩ : ByteArray) (W64 N) f5) h5 fun k => ?_) fun k => ?_
      · simp only [spokeshaveref2_number.j4]; rw [at_ev]; simp only [Option.bind_some]; rw [if_neg hl']
      · simp only [spokeshaveref2_number.j3]; rw [at_ev]; simp only [Option.bind_some]; rw [if_pos hu', w1 _ b1]
  · rw [if_neg hu] at hm
    have hu' : ¬ _ := fun e => hu ((byte_is (ch s (a + n)) 117 117 rfl).1 e)
    by_cases hl : ch s (a + n) = 108
    · rw [if_pos hl] at hm; subst hm
      have hl' := (byte_is (ch s (a + n)) 108 108 rfl).2 hl
      refine Ev.step (F := fun k => spokeshaveref2_number.j3 k s (a : Int) ((a + n : Nat) : Int) (ov N) 3 (a : Int) (⟨#[]⟩ : ByteArray) (⟨#[]⟩ : ByteArray) (W64 N) f5) (Ev.step (F := fun k => spokeshaveref2_number.j4 k s (a : Int) ((a + n : Nat) : Int) (ov N) ((a + n : Nat) : Int) 3 (a : Int) (⟨#[]⟩ : ByteArray) (⟨#[]⟩ : ByteArray) (W64 N) f5) h5 fun k => ?_) fun k => ?_
      · simp only [spokeshaveref2_number.j4]; rw [at_ev]; simp only [Option.bind_some]; rw [if_pos hl', w1 _ b1]
      · simp only [spokeshaveref2_number.j3]; rw [at_ev]; simp only [Option.bind_some]; rw [if_neg hu']
    · rw [if_neg hl] at hm; subst hm
      have hl' : ¬ _ := fun e => hl ((byte_is (ch s (a + n)) 108 108 rfl).1 e)
      refine Ev.step (F := fun k => spokeshaveref2_number.j3 k s (a : Int) ((a + n : Nat) : Int) (ov N) 3 (a : Int) (⟨#[]⟩ : ByteArray) (⟨#[]⟩ : ByteArray) (W64 N) f5) (Ev.step (F := fun k => spokeshaveref2_number.j4 k s (a : Int) ((a + n : Nat) : Int) (ov N) ((a + n : Nat) : Int) 3 (a : Int) (⟨#[]⟩ : ByteArray) (⟨#[]⟩ : ByteArray) (W64 N) f5) h5 fun k => ?_) fun k => ?_
      · simp only [spokeshaveref2_number.j4]; rw [at_ev]; simp only [Option.bind_some]; rw [if_neg hl']; rfl
      · simp only [spokeshaveref2_number.j3]; rw [at_ev]; simp only [Option.bind_some]; rw [if_neg hu']

theorem hex_num (N v : Nat) (hv : v < 16) : IntKind.u64.wrap (IntKind.u64.wrap (W64 N * 16) + IntKind.u64.wrap (v : Int)) = W64 (N * 16 + v) := num_step N 16 v (.inr rfl) hv
theorem dec_num (N v : Nat) (hv : v < 10) : IntKind.u64.wrap (IntKind.u64.wrap (W64 N * 10) + (v : Int)) = W64 (N * 10 + v) := by
  have h := num_step N 10 v (.inl rfl) hv
  have e : IntKind.u64.wrap (v : Int) = (v : Int) := by rw [IntKind.wrap_u64]; omega
  rw [e] at h; exact h
theorem hex_ov (N v : Nat) (hv : v < 16) (h : ov N = false) : decide (W64 N ≥ 1152921504606846976) = ov (N * 16 + v) := by
  have hN : ¬ 18446744073709551616 ≤ N := of_decide_eq_false h
  unfold ov W64
  rw [decide_eq_decide, Nat.mod_eq_of_lt (Nat.lt_of_not_le hN)]
  omega
theorem dec_ov (N v : Nat) (hv : v < 10) (h : ov N = false) : decide (W64 N > ((18446744073709551615 - (v : Int)) / 10)) = ov (N * 10 + v) := by
  have hN : ¬ 18446744073709551616 ≤ N := of_decide_eq_false h
  unfold ov W64
  rw [decide_eq_decide, Nat.mod_eq_of_lt (Nat.lt_of_not_le hN)]
  omega
theorem ov_more (b : Nat) (hb : 1 ≤ b) (N v : Nat) (h : ov N = true) : ov (N * b + v) = true := big_step N b v hb (of_decide_eq_true h)
theorem ch_end {s : ByteArray} {p : Nat} (h : s.size ≤ p) : ch s p = 0 := by unfold ch; rw [List.getD_eq_getElem?_getD, List.getElem?_eq_none (by rw [Ls_size]; exact h)]; rfl
theorem drop_ch {s : ByteArray} {p : Nat} (h : p < s.size) : (Ls s).drop p = ch s p :: (Ls s).drop (p + 1) := by
  have h' : p < (Ls s).length := by rw [Ls_size]; exact h
  rw [List.drop_eq_getElem_cons h']
  congr 1
  unfold ch; rw [List.getD_eq_getElem?_getD, List.getElem?_eq_getElem h']; rfl
theorem hex_loop (hs : s.size ≤ 100000) : ∀ (d n N : Nat), s.size - (a + n) ≤ d → a + n ≤ s.size →
    Ev (fun k => spokeshaveref2_number.l0 k s (a : Int) ((a + n : Nat) : Int) (ov N) 3 (a : Int) (⟨#[]⟩ : ByteArray) (⟨#[]⟩ : ByteArray) (W64 N) f5) (numT s a (n + (((Ls s).drop (a + n)).takeWhile (isV 16)).length) (valN 16 N ((Ls s).drop (a + n))) f5) := by
  have stop : ∀ n N : Nat, a + n ≤ s.size → valS 16 (ch s (a + n)) = none → Ev (fun k => spokeshaveref2_number.l0 k s (a : Int) ((a + n : Nat) : Int) (ov N) 3 (a : Int) (⟨#[]⟩ : ByteArray) (⟨#[]⟩ : ByteArray) (W64 N) f5) (numT s a n N f5) := fun n N hn hv => by
    have hI : valI 16 (ch s (a + n)) = -1 := by unfold valI; rw [hv]
    refine Ev.step (f := fun k => (spokeshaveref2_hex.f k (((ch s (a + n)).toNat : Nat) : Int)).bind _) (Ev.bind (hex_ev _) ?_) fun k => by
      simp only [spokeshaveref2_number.l0]; rw [at_ev]; rfl
    rw [hI]
    exact Ev.congr (j3_ev hs n N hn) fun k => by rw [if_neg (by decide)]
  intro d
  induction d with
  | zero =>
    intro n N hd hn
    have e : (Ls s).drop (a + n) = [] := List.drop_eq_nil_of_le (by rw [Ls_size]; omega)
    rw [e]
    exact stop n N hn (by rw [ch_end (by omega)]; decide +kernel)
  | succ d ih =>
    intro n N hd hn
    by_cases hlt : a + n < s.size
    · rw [drop_ch hlt]
      cases hv : valS 16 (ch s (a + n)) with
      | none =>
        have hi : isV 16 (ch s (a + n)) = false := by unfold isV; rw [hv]; rfl
        rw [List.takeWhile_cons, if_neg (by rw [hi]; decide)]
        simp only [valN, hv]
        exact stop n N hn hv
      | some v =>
        have hi : isV 16 (ch s (a + n)) = true := by unfold isV; rw [hv]; rfl
        have hv16 := valS_lt hv
        have hI : valI 16 (ch s (a + n)) = (v : Int) := by unfold valI; rw [hv]
        rw [List.takeWhile_cons, if_pos hi]
        simp only [valN, hv]
        have hih := ih (n + 1) (N * 16 + v) (by omega) (by omega)
        rw [← Nat.add_assoc] at hih
        have e : n + 1 + (((Ls s).drop (a + n + 1)).takeWhile (isV 16)).length = n + (ch s (a + n) :: ((Ls s).drop (a + n + 1)).takeWhile (isV 16)).length := by simp; omega
        rw [e] at hih
        have hw := w1 (a + n) (by omega)
        clear ih
        refine Ev.step (f := fun k => (spokeshaveref2_hex.f k (((ch s (a + n)).toNat : Nat) : Int)).bind _) (Ev.bind (hex_ev _) ?_) fun k => by
          simp only [spokeshaveref2_number.l0]; rw [at_ev]; rfl
        rw [hI]
        refine Ev.congr (f := fun k => (spokeshaveref2_hex.f k (((ch s (a + n)).toNat : Nat) : Int)).bind fun t => spokeshaveref2_number.l0 k s (a : Int) ((a + n + 1 : Nat) : Int) (ov (N * 16 + v)) 3 (a : Int) (⟨#[]⟩ : ByteArray) (⟨#[]⟩ : ByteArray) (IntKind.u64.wrap ((IntKind.u64.wrap (W64 N * 16)) + (IntKind.u64.wrap t))) f5) (Ev.bind (hex_ev _) (by rw [hI, hex_num N v hv16]; exact hih)) fun k => ?_
        rw [if_pos (nGe0 v), ch_bt, hw]
        cases ho : ov N with
        | true => rw [if_pos rfl, if_pos (n0 _), if_pos (nLt _ _ hlt), ov_more 16 (by decide) N v ho]
        | false => rw [if_neg (by decide), if_pos (n0 _), if_pos (nLt _ _ hlt), hex_ov N v hv16 ho]
    · have e : (Ls s).drop (a + n) = [] := List.drop_eq_nil_of_le (by rw [Ls_size]; omega)
      rw [e]
      exact stop n N hn (by rw [ch_end (by omega)]; decide +kernel)
theorem dig_all : ∀ n : Fin 256, (digU (UInt8.ofNat n.1) = true → valS 10 (UInt8.ofNat n.1) = some (n.1 - 48) ∧ 48 ≤ n.1) ∧ (digU (UInt8.ofNat n.1) = false → valS 10 (UInt8.ofNat n.1) = none) := by decide +kernel
theorem dig_is (c : UInt8) : (digU c = true → valS 10 c = some (c.toNat - 48) ∧ 48 ≤ c.toNat) ∧ (digU c = false → valS 10 c = none) := by
  have hc := dig_all ⟨c.toNat, c.toNat_lt⟩
  simp only [UInt8.ofNat_toNat] at hc
  exact hc
/-- Behind the last digit. -/
theorem dec_loop (hs : s.size ≤ 100000) {first : Int} {x : T7} : ∀ (d n N : Nat), s.size - (a + n) ≤ d → a + n ≤ s.size →
    (first = 48 ∧ 1 < n + (((Ls s).drop (a + n)).takeWhile (isV 10)).length ∧ x = (3, (a : Int), (⟨#[]⟩ : ByteArray), (⟨#[]⟩ : ByteArray), W64 (valN 10 N ((Ls s).drop (a + n))), f5, 3) ∨
     (¬ (first = 48 ∧ 1 < n + (((Ls s).drop (a + n)).takeWhile (isV 10)).length)) ∧ x = numT s a (n + (((Ls s).drop (a + n)).takeWhile (isV 10)).length) (valN 10 N ((Ls s).drop (a + n))) f5) →
    Ev (fun k => spokeshaveref2_number.l1 k s (a : Int) ((a + n : Nat) : Int) (ov N) first 3 (a : Int) (⟨#[]⟩ : ByteArray) (⟨#[]⟩ : ByteArray) (W64 N) f5) x := by
  have stop : ∀ n N : Nat, a + n ≤ s.size → digU (ch s (a + n)) = false → (first = 48 ∧ 1 < n ∧ x = (3, (a : Int), (⟨#[]⟩ : ByteArray), (⟨#[]⟩ : ByteArray), W64 N, f5, 3) ∨ (¬ (first = 48 ∧ 1 < n)) ∧ x = numT s a n N f5) →
      Ev (fun k => spokeshaveref2_number.l1 k s (a : Int) ((a + n : Nat) : Int) (ov N) first 3 (a : Int) (⟨#[]⟩ : ByteArray) (⟨#[]⟩ : ByteArray) (W64 N) f5) x := fun n N hn hd hx => by
    have hw := w1 a (by omega)
    have hu : ∀ k, spokeshaveref2_number.l1 (k + 1) s (a : Int) ((a + n : Nat) : Int) (ov N) first 3 (a : Int) (⟨#[]⟩ : ByteArray) (⟨#[]⟩ : ByteArray) (W64 N) f5 =
        if first = 48 ∧ 1 < n then some (3, (a : Int), (⟨#[]⟩ : ByteArray), (⟨#[]⟩ : ByteArray), W64 N, f5, 3) else spokeshaveref2_number.j3 k s (a : Int) ((a + n : Nat) : Int) (ov N) 3 (a : Int) (⟨#[]⟩ : ByteArray) (⟨#[]⟩ : ByteArray) (W64 N) f5 := fun k => by
      simp only [spokeshaveref2_number.l1]; rw [at_ev]; simp only [Option.bind_some]
      rw [(letter_is _).2.1, hd]; simp only [Option.bind_some]
      rw [if_neg (by decide), hw]
      by_cases hf : first = 48
      · rw [if_pos hf]
        by_cases hn1 : 1 < n
        · rw [if_pos (nLt (a + 1) (a + n) (by omega)), if_pos ⟨hf, hn1⟩]
        · rw [if_neg (nNLt (a + 1) (a + n) (by omega)), if_neg (fun h => hn1 h.2)]
      · rw [if_neg hf, if_neg (fun h => hf h.1)]
    rcases hx with ⟨h1, h2, rfl⟩ | ⟨h1, rfl⟩
    · exact Ev.step (f := fun _ => some _) (Ev.const rfl) fun k => by rw [hu, if_pos ⟨h1, h2⟩]
    · exact Ev.step (j3_ev hs n N hn) fun k => by rw [hu, if_neg h1]
  intro d
  induction d with
  | zero =>
    intro n N hd hn hx
    have e : (Ls s).drop (a + n) = [] := List.drop_eq_nil_of_le (by rw [Ls_size]; omega)
    rw [e] at hx
    exact stop n N hn (by rw [ch_end (by omega)]; decide +kernel) hx
  | succ d ih =>
    intro n N hd hn hx
    by_cases hlt : a + n < s.size
    · rw [drop_ch hlt] at hx
      cases hdg : digU (ch s (a + n)) with
      | false =>
        have hv := (dig_is _).2 hdg
        have hi : isV 10 (ch s (a + n)) = false := by unfold isV; rw [hv]; rfl
        rw [List.takeWhile_cons, if_neg (by rw [hi]; decide)] at hx
        simp only [valN, hv] at hx
        exact stop n N hn hdg hx
      | true =>
        obtain ⟨hv, h48⟩ := (dig_is _).1 hdg
        have hv10 := valS_lt hv
        have hi : isV 10 (ch s (a + n)) = true := by unfold isV; rw [hv]; rfl
        rw [List.takeWhile_cons, if_pos hi] at hx
        simp only [valN, hv] at hx
        have e : n + (ch s (a + n) :: ((Ls s).drop (a + n + 1)).takeWhile (isV 10)).length = n + 1 + (((Ls s).drop (a + n + 1)).takeWhile (isV 10)).length := by simp; omega
        rw [e] at hx
        have hih := ih (n + 1) (N * 10 + ((ch s (a + n)).toNat - 48)) (by omega) (by omega) (by rw [← Nat.add_assoc]; exact hx)
        rw [← Nat.add_assoc] at hih
        have hw := w1 (a + n) (by omega)
        clear ih hx
        have hb : ((((ch s (a + n)).toNat : Nat) : Int) - 48) % 256 = (((ch s (a + n)).toNat - 48 : Nat) : Int) := by have := (ch s (a + n)).toNat_lt; omega
        refine Ev.step hih fun k => ?_
        simp only [spokeshaveref2_number.l1]; rw [at_ev]; simp only [Option.bind_some]
        rw [(letter_is _).2.1, hdg]; simp only [Option.bind_some]
        rw [if_pos trivial, if_pos (n0 _), if_pos (nLt _ _ hlt), ch_bt, hb, hw, dec_num N _ hv10]
        cases ho : ov N with
        | true => rw [if_pos rfl, ov_more 10 (by decide) N _ ho]
        | false => rw [if_neg (by decide), dec_ov N _ hv10 ho]
    · have e : (Ls s).drop (a + n) = [] := List.drop_eq_nil_of_le (by rw [Ls_size]; omega)
      rw [e] at hx
      exact stop n N hn (by rw [ch_end (by omega)]; decide +kernel) hx
end
end
section

/-- What the reference's token says, against ours. -/
def Rel (a : Nat) (l : List UInt8) (r : Except Int Tk) (x : T7) : Prop := match r with
  | .ok t => x = (t.kind, (a : Int), mk (l.take t.n), mk t.suf, (t.num : Int), t.hex, 0)
  | .error e => x.2.2.2.2.2.2 = e
theorem numT_rel {s : ByteArray} {a n : Nat} {f5 : Bool} {N : Nat} (hc : cntS ((Ls s).drop a) ≠ 0) (hn : n = i0S ((Ls s).drop a) + cntS ((Ls s).drop a)) (hN : N = numV ((Ls s).drop a)) (hf : f5 = hexP ((Ls s).drop a)) :
    Rel a ((Ls s).drop a) (numS ((Ls s).drop a)) (numT s a n N f5) := by
  have hd : ((Ls s).drop a).drop n = (Ls s).drop (a + n) := by rw [List.drop_drop]
  have hnum : numN ((Ls s).drop a) = n + sufN ((Ls s).drop (a + n)) := by
    unfold numN; rw [← hn, hd, (suf_len _).1]
  unfold numS
  rw [hnum, part_at, ← hn, hd, ← hN, ← hf, ← Nat.add_assoc]
  unfold numT
  by_cases hp : partU (ch s (a + n + sufN ((Ls s).drop (a + n)))) = true
  · rw [if_pos (.inr hp), if_pos hp]; rfl
  · rw [if_neg (by rintro (h | h); exact hc h; exact hp h), if_neg hp]
    by_cases ho : 18446744073709551616 ≤ N
    · have ho' : ov N = true := decide_eq_true ho
      rw [if_pos ho, if_pos ho']; rfl
    · have ho' : ¬ ov N = true := fun h => ho (of_decide_eq_true h)
      rw [if_neg ho, if_neg ho']
      have e1 : s.extract a (a + n + sufN ((Ls s).drop (a + n))) = mk (((Ls s).drop a).take (n + sufN ((Ls s).drop (a + n)))) := by
        apply ba_eq; rw [Ls_ext, Ls_mk, Nat.add_assoc, Nat.add_sub_cancel_left]
      have e2 : s.extract (a + n) (a + n + sufN ((Ls s).drop (a + n))) = mk (sufS ((Ls s).drop (a + n))) := by
        apply ba_eq; rw [Ls_ext, Ls_mk, Nat.add_sub_cancel_left, (suf_len _).2]
      have e3 : W64 N = (N : Int) := by unfold W64; rw [Nat.mod_eq_of_lt (Nat.lt_of_not_le ho)]
      rw [e1, e2, e3]; rfl
theorem ref_num {s : ByteArray} {a : Nat} (hs : s.size ≤ 90000) (ha : a < s.size) (hd : digU (ch s a) = true) : ∃ x, Ev (fun k => spokeshaveref2_number.f k s (a : Int)) x ∧ Rel a ((Ls s).drop a) (numS ((Ls s).drop a)) x := by
  have hs' : s.size ≤ 100000 := by omega
  have hl := drop_ch ha
  have g1 : ((Ls s).drop a).getD 1 0 = ch s (a + 1) := ch_drop s a 1
  have hw : wrap64 ((a : Int) + 1) = ((a + 1 : Nat) : Int) := w1 a (by omega)
  have hw2 : wrap64 ((a : Int) + 2) = ((a + 2 : Nat) : Int) := by unfold wrap64; omega
  have hx : hexP ((Ls s).drop a) = (decide (ch s a = 48) && decide (ch s (a + 1) = 120)) := by
    rw [hl] at g1 ⊢
    cases ht : (Ls s).drop (a + 1) with
    | nil =>
      rw [ht] at g1
      have : ch s (a + 1) = 0 := g1.symm
      rw [this]; unfold hexP; simp [List.isPrefixOf]
    | cons b t =>
      rw [ht] at g1
      have : ch s (a + 1) = b := g1.symm
      rw [this]; unfold hexP; simp only [List.isPrefixOf, Bool.and_true]
      rw [Bool.eq_iff_iff]
      simp only [Bool.and_eq_true, beq_iff_eq, decide_eq_true_eq]
      exact ⟨fun h => ⟨h.1.symm, h.2.symm⟩, fun h => ⟨h.1.symm, h.2.symm⟩⟩
  have hf : ∀ k, spokeshaveref2_number.f k s (a : Int) = spokeshaveref2_number.j0 k s (a : Int) (a : Int) false (hexP ((Ls s).drop a)) 3 (a : Int) (⟨#[]⟩ : ByteArray) (⟨#[]⟩ : ByteArray) 0 false := fun k => by
    unfold spokeshaveref2_number.f
    rw [if_pos (n0 _), if_pos (nLt _ _ ha), ch_bt, hw, at_ev, hx]
    by_cases h48 : ch s a = 48
    · rw [if_pos ((byte_is _ 48 48 rfl).2 h48)]
      simp only [Option.bind_some]
      congr 1
      rw [decide_eq_true h48, Bool.true_and, Bool.eq_iff_iff, beq_iff_eq, decide_eq_true_eq]
      exact byte_is _ 120 120 rfl
    · rw [if_neg (fun e => h48 ((byte_is _ 48 48 rfl).1 e)), decide_eq_false h48]; rfl
  cases hh : hexP ((Ls s).drop a) with
  | true =>
    have h2 : a + 2 ≤ s.size := by
      have := (List.isPrefixOf_iff_prefix.1 hh).length_le
      simp at this; omega
    have hi0 : i0S ((Ls s).drop a) = 2 := by unfold i0S; rw [hh]; rfl
    have hd2 : ((Ls s).drop a).drop 2 = (Ls s).drop (a + 2) := by rw [List.drop_drop]
    have hz : zeroP ((Ls s).drop a) = false := by unfold zeroP; rw [hh]; rfl
    have hb : baseS ((Ls s).drop a) = 16 := by unfold baseS; rw [hh]; rfl
    have hcnt : cntS ((Ls s).drop a) = (((Ls s).drop (a + 2)).takeWhile (isV 16)).length := by unfold cntS; rw [hz, hi0, hd2, hb]; rfl
    have hnv : numV ((Ls s).drop a) = valN 16 0 ((Ls s).drop (a + 2)) := by unfold numV; rw [hz, hi0, hd2, hb]; rfl
    have hj : ∀ k, spokeshaveref2_number.j0 (k + 1) s (a : Int) (a : Int) false true 3 (a : Int) (⟨#[]⟩ : ByteArray) (⟨#[]⟩ : ByteArray) 0 false = (spokeshaveref2_hex.f k (((ch s (a + 2)).toNat : Nat) : Int)).bind fun t163 => (if t163 < 0 then (some (3, (a : Int), (⟨#[]⟩ : ByteArray), (⟨#[]⟩ : ByteArray), 0, true, 3)) else (spokeshaveref2_number.l0 k s (a : Int) ((a + 2 : Nat) : Int) false 3 (a : Int) (⟨#[]⟩ : ByteArray) (⟨#[]⟩ : ByteArray) 0 true)) := fun k => by
      simp only [spokeshaveref2_number.j0]; rw [if_pos trivial, hw2, at_ev]; rfl
    cases hv : valS 16 (ch s (a + 2)) with
    | none =>
      have hI : valI 16 (ch s (a + 2)) = -1 := by unfold valI; rw [hv]
      refine ⟨(3, (a : Int), (⟨#[]⟩ : ByteArray), (⟨#[]⟩ : ByteArray), 0, true, 3), Ev.congr (Ev.step (Ev.bind (hex_ev (ch s (a + 2))) ?_) hj) fun k => by rw [hf, hh], ?_⟩
      · rw [hI]; exact Ev.congr (Ev.const rfl) fun k => by rw [if_pos (by decide)]
      · have hc0 : cntS ((Ls s).drop a) = 0 := by
          rw [hcnt]
          by_cases hlt : a + 2 < s.size
          · have hi : isV 16 (ch s (a + 2)) = false := by unfold isV; rw [hv]; rfl
            rw [drop_ch hlt, List.takeWhile_cons, if_neg (by rw [hi]; decide)]; rfl
          · rw [List.drop_eq_nil_of_le (by rw [Ls_size]; omega)]; rfl
        unfold numS; rw [if_pos (.inl hc0)]; rfl
    | some v =>
      have hI : valI 16 (ch s (a + 2)) = (v : Int) := by unfold valI; rw [hv]
      have hlt : a + 2 < s.size := by
        apply Nat.lt_of_not_le; intro h
        have e0 : valS 16 0 = none := by decide +kernel
        rw [ch_end h, e0] at hv; cases hv
      have hi : isV 16 (ch s (a + 2)) = true := by unfold isV; rw [hv]; rfl
      refine ⟨_, Ev.congr (Ev.step (Ev.bind (hex_ev (ch s (a + 2))) ?_) hj) fun k => by rw [hf, hh], numT_rel (n := 2 + cntS ((Ls s).drop a)) (f5 := true) (N := numV ((Ls s).drop a)) ?_ (by rw [hi0]) rfl hh.symm⟩
      · rw [hI]
        have := hex_loop (s := s) (a := a) (f5 := true) hs' s.size 2 0 (by omega) h2
        rw [← hcnt, ← hnv] at this
        exact Ev.congr this fun k => by rw [if_neg (by omega)]; rfl
      · rw [hcnt, drop_ch hlt, List.takeWhile_cons, if_pos hi]; simp
  | false =>
    have hi0 : i0S ((Ls s).drop a) = 0 := by unfold i0S; rw [hh]; rfl
    have hb : baseS ((Ls s).drop a) = 10 := by unfold baseS; rw [hh]; rfl
    obtain ⟨hv, h48⟩ := (dig_is _).1 hd
    have hi : isV 10 (ch s a) = true := by unfold isV; rw [hv]; rfl
    have g0 : ((Ls s).drop a).getD 0 0 = ch s a := ch_drop s a 0
    have hz : zeroP ((Ls s).drop a) = decide (ch s a = 48) := by
      unfold zeroP; rw [hh, g0]
      rw [Bool.eq_iff_iff]; simp
    have htw : ((Ls s).drop a).takeWhile (isV 10) = ch s a :: ((Ls s).drop (a + 1)).takeWhile (isV 10) := by rw [hl, List.takeWhile_cons, if_pos hi]
    have hloop := fun x => dec_loop (s := s) (a := a) (f5 := false) hs' (first := (((ch s a).toNat : Nat) : Int)) (x := x) s.size 0 0 (by omega) (by omega)
    simp only [Nat.add_zero, Nat.zero_add] at hloop
    have hjf : ∀ x, Ev (fun k => spokeshaveref2_number.l1 k s (a : Int) (a : Int) (ov 0) (((ch s a).toNat : Nat) : Int) 3 (a : Int) (⟨#[]⟩ : ByteArray) (⟨#[]⟩ : ByteArray) (W64 0) false) x → Ev (fun k => spokeshaveref2_number.f k s (a : Int)) x := fun x h => by
      refine Ev.congr (Ev.step h (F := fun k => spokeshaveref2_number.j0 k s (a : Int) (a : Int) false false 3 (a : Int) (⟨#[]⟩ : ByteArray) (⟨#[]⟩ : ByteArray) 0 false) fun k => ?_) fun k => by rw [hf, hh]
      simp only [spokeshaveref2_number.j0]; rw [if_neg (by decide), if_pos (n0 _), if_pos (nLt _ _ ha), ch_bt]; rfl
    have f48 : (((ch s a).toNat : Nat) : Int) = 48 ↔ ch s a = 48 := byte_is _ 48 48 rfl
    by_cases hc48 : ch s a = 48
    · have hz' : zeroP ((Ls s).drop a) = true := by rw [hz]; exact decide_eq_true hc48
      have hcnt : cntS ((Ls s).drop a) = 1 := by unfold cntS; rw [hz']; rfl
      have hnv : numV ((Ls s).drop a) = 0 := by unfold numV; rw [hz']; rfl
      by_cases hm : 1 < (((Ls s).drop a).takeWhile (isV 10)).length
      · refine ⟨_, hjf _ (hloop _ (.inl ⟨f48.2 hc48, hm, rfl⟩)), ?_⟩
        -- a digit stands behind the nought
        have hdig : isV 10 (ch s (a + 1)) = true := by
          rw [htw] at hm
          by_cases hlt : a + 1 < s.size
          · rw [drop_ch hlt, List.takeWhile_cons] at hm
            by_cases h : isV 10 (ch s (a + 1)) = true
            · exact h
            · rw [if_neg h] at hm; simp at hm
          · rw [List.drop_eq_nil_of_le (by rw [Ls_size]; omega)] at hm; simp at hm
        have hd10 : digU (ch s (a + 1)) = true := by
          cases h : digU (ch s (a + 1)) with
          | true => rfl
          | false => unfold isV at hdig; rw [(dig_is _).2 h] at hdig; cases hdig
        have hn1 : numN ((Ls s).drop a) = 1 := by
          unfold numN; rw [hi0, hcnt, (suf_len _).1]
          have e : ((Ls s).drop a).drop (0 + 1) = (Ls s).drop (a + 1) := by rw [List.drop_drop]
          rw [e]
          have e0 : ((Ls s).drop (a + 1)).getD 0 0 = ch s (a + 1) := ch_drop s (a + 1) 0
          unfold sufN; rw [e0]
          have n1 : ch s (a + 1) ≠ 117 := by intro h; rw [h] at hd10; exact absurd hd10 (by decide +kernel)
          have n2 : ch s (a + 1) ≠ 108 := by intro h; rw [h] at hd10; exact absurd hd10 (by decide +kernel)
          rw [if_neg n1, if_neg n2]
        have hp : partAt ((Ls s).drop a) (numN ((Ls s).drop a)) = true := by
          rw [hn1, part_at]; exact (letter_is _).2.2.1 hd10
        unfold numS; rw [if_pos (.inr hp)]; rfl
      · have hm1 : (((Ls s).drop a).takeWhile (isV 10)).length = 1 := by
          have : 1 ≤ (((Ls s).drop a).takeWhile (isV 10)).length := by rw [htw]; simp
          omega
        have hvn : valN 10 0 ((Ls s).drop a) = 0 := by
          have ht : ((Ls s).drop (a + 1)).takeWhile (isV 10) = [] := by rw [htw] at hm1; simpa using hm1
          have hv0 : valS 10 (ch s a) = some 0 := by rw [hv, hc48]; rfl
          rw [hl]; simp only [valN, hv0]
          cases hr : (Ls s).drop (a + 1) with
          | nil => rfl
          | cons b t =>
            rw [hr, List.takeWhile_cons] at ht
            by_cases h : isV 10 b = true
            · rw [if_pos h] at ht; cases ht
            · have : valS 10 b = none := by unfold isV at h; cases hvb : valS 10 b with
                | none => rfl
                | some v => rw [hvb] at h; exact absurd rfl h
              simp only [valN, this]
        refine ⟨_, hjf _ (hloop _ (.inr ⟨fun h => hm h.2, rfl⟩)), ?_⟩
        exact numT_rel (by rw [hcnt]; decide) (by rw [hi0, hcnt, hm1]) (by rw [hvn, hnv]) hh.symm
    · have hz' : zeroP ((Ls s).drop a) = false := by rw [hz]; exact decide_eq_false hc48
      have hcnt : cntS ((Ls s).drop a) = (((Ls s).drop a).takeWhile (isV 10)).length := by unfold cntS; rw [hz', hi0, hb]; rfl
      have hnv : numV ((Ls s).drop a) = valN 10 0 ((Ls s).drop a) := by unfold numV; rw [hz', hi0, hb]; rfl
      refine ⟨_, hjf _ (hloop _ (.inr ⟨fun h => hc48 (f48.1 h.1), rfl⟩)), ?_⟩
      exact numT_rel (by rw [hcnt, htw]; simp) (by rw [hi0, hcnt, Nat.zero_add]) hnv.symm hh.symm
end
section

/- The reference: letters in quotes. -/
def RelC (a : Nat) (l : List UInt8) (r : Except Int Tk) (x : Int × Int × ByteArray × ByteArray × Int × Bool × Bool) : Prop := match r with
  | .ok t => x = (t.kind, (a : Int), mk (l.take t.n), mk t.suf, (t.num : Int), t.hex, true)
  | .error e => x.2.2.2.2.2.2 = false ∧ e = 3
theorem letS_c {s : ByteArray} {a : Nat} : letS ((Ls s).drop a) = (if ch s (a + 1) = 92 then (if ch s (a + 3) ≠ 39 then .error 3 else if Lib.indexByte [110, 48, 92, 39] (ch s (a + 2)) < 0 then .error 3 else .ok ⟨4, 4, [], escV (ch s (a + 2)), false⟩)
    else if ch s (a + 2) ≠ 39 then .error 3 else if (ch s (a + 1)).toNat < 32 ∨ 126 < (ch s (a + 1)).toNat ∨ ch s (a + 1) = 39 then .error 3 else .ok ⟨4, 3, [], (ch s (a + 1)).toNat, false⟩) := by
  unfold letS
  rw [ch_drop s a 1, ch_drop s a 2, ch_drop s a 3]
  have hlen : ((Ls s).drop a).length = s.size - a := by simp
  have hz : ∀ i : Nat, ch s (a + i) ≠ 0 → i < s.size - a := fun i h => by
    apply Nat.lt_of_not_le; intro hle; exact h (ch_end (by omega))
  rw [hlen]
  by_cases h1 : ch s (a + 1) = 92
  · have l1 := hz 1 (by rw [h1]; decide)
    rw [if_pos ⟨l1, h1⟩, if_pos h1]
    by_cases h3 : ch s (a + 3) ≠ 39
    · rw [if_pos h3]; split <;> rfl
    · have l3 := hz 3 (by rw [Decidable.not_not.1 h3]; decide)
      rw [if_neg h3, if_neg (by omega)]
  · rw [if_neg (fun h => h1 h.2), if_neg h1]
    by_cases h2 : ch s (a + 2) ≠ 39
    · rw [if_pos h2]; split <;> rfl
    · have l2 := hz 2 (by rw [Decidable.not_not.1 h2]; decide)
      rw [if_neg h2, if_neg (by omega)]
theorem esc_not {c : UInt8} (h1 : c ≠ 110) (h2 : c ≠ 48) (h3 : c ≠ 92) (h4 : c ≠ 39) : Lib.indexByte [110, 48, 92, 39] c < 0 := by
  have e : ∀ (a : UInt8), c ≠ a → (a == c) = false := fun a h => by simp; exact fun e => h e.symm
  simp [Lib.indexByte, e 110 h1, e 48 h2, e 92 h3, e 39 h4, h1, h2, h3, h4]
theorem ref_char {s : ByteArray} {a : Nat} (hs : s.size ≤ 90000) (ha : a < s.size) : ∃ x, Ev (fun k => spokeshaveref2_char.f k s (a : Int)) x ∧ RelC a ((Ls s).drop a) (letS ((Ls s).drop a)) x := by
  rw [letS_c]
  have hw1 : wrap64 ((a : Int) + 1) = ((a + 1 : Nat) : Int) := w1 a (by omega)
  have hw2 : wrap64 (((a + 1 : Nat) : Int) + 1) = ((a + 2 : Nat) : Int) := w1 (a + 1) (by omega)
  have hw3 : wrap64 (((a + 2 : Nat) : Int) + 1) = ((a + 3 : Nat) : Int) := w1 (a + 2) (by omega)
  have hw3' : wrap64 (((a + 1 : Nat) : Int) + 2) = ((a + 3 : Nat) : Int) := by unfold wrap64; omega
  have hw4 : wrap64 (((a + 2 : Nat) : Int) + 2) = ((a + 4 : Nat) : Int) := by unfold wrap64; omega
  have hz : ∀ i : Nat, ch s (a + i) ≠ 0 → a + i < s.size := fun i h => by
    apply Nat.lt_of_not_le; intro hle; exact h (ch_end (by omega))
  have hmk : ∀ i : Nat, s.extract a (a + i) = mk (((Ls s).drop a).take i) := fun i => by
    apply ba_eq; rw [Ls_ext, Ls_mk, Nat.add_sub_cancel_left]
  have r1 := at_ev s (a + 1)
  have r2 := at_ev s (a + 2)
  have r3 := at_ev s (a + 3)
  have iff1 : ∀ (n : Int) (v : UInt8), ((v.toNat : Nat) : Int) = n → ((((ch s (a + 1)).toNat : Nat) : Int) = n ↔ ch s (a + 1) = v) := fun n v h => byte_is _ n v h
  have bad : ∀ x, (∀ k, spokeshaveref2_char.f (k + 2) s (a : Int) = some x) → Ev (fun k => spokeshaveref2_char.f k s (a : Int)) x := fun x h => ⟨2, fun k hk => by obtain ⟨m, rfl⟩ : ∃ m, k = m + 2 := ⟨k - 2, by omega⟩; exact h m⟩
  have hI0 : (((ch s (a + 1)).toNat : Nat) : Int) < 32 ↔ (ch s (a + 1)).toNat < 32 := by omega
  have hI1 : (((ch s (a + 1)).toNat : Nat) : Int) > 126 ↔ 126 < (ch s (a + 1)).toNat := by omega
  have b39 : ((((ch s (a + 1)).toNat : Nat) : Int) == 39) = decide (ch s (a + 1) = 39) := by
    rw [Bool.eq_iff_iff, beq_iff_eq, decide_eq_true_eq]; exact byte_is _ 39 39 rfl
  -- the first test
  have hf : ∀ k, spokeshaveref2_char.f k s (a : Int) = spokeshaveref2_char.j0 k s (a : Int) ((a + 1 : Nat) : Int) (((ch s (a + 1)).toNat : Nat) : Int) (decide ((ch s (a + 1)).toNat < 32 ∨ 126 < (ch s (a + 1)).toNat ∨ ch s (a + 1) = 39)) 4 (a : Int) (⟨#[]⟩ : ByteArray) (⟨#[]⟩ : ByteArray) 0 false := fun k => by
    unfold spokeshaveref2_char.f
    rw [hw1, r1]
    simp only [Option.bind_some]
    by_cases h0 : (ch s (a + 1)).toNat < 32
    · rw [decide_eq_true (.inl h0), if_pos (hI0.2 h0)]; split <;> rfl
    · have hlt : a + 1 < s.size := hz 1 (by intro h; rw [h] at h0; exact h0 (by decide))
      rw [if_neg (by have := nNLt s.size (a + 1) (by omega); intro h; exact absurd h (Int.not_le.2 (nLt _ _ hlt))), if_neg (fun h => h0 (hI0.1 h))]
      by_cases h1 : 126 < (ch s (a + 1)).toNat
      · rw [if_pos (hI1.2 h1), decide_eq_true (.inr (.inl h1))]
      · rw [if_neg (fun h => h1 (hI1.1 h)), b39]
        congr 1
        rw [decide_eq_decide]
        exact ⟨fun h => .inr (.inr h), fun h => by rcases h with h | h | h; exact absurd h h0; exact absurd h h1; exact h⟩
  by_cases hr : (ch s (a + 1)).toNat < 32 ∨ 126 < (ch s (a + 1)).toNat ∨ ch s (a + 1) = 39
  · have hx : ∀ k, spokeshaveref2_char.f (k + 2) s (a : Int) = some (4, (a : Int), (⟨#[]⟩ : ByteArray), (⟨#[]⟩ : ByteArray), 0, false, false) := fun k => by
      rw [hf, decide_eq_true hr]; simp only [spokeshaveref2_char.j0]; rw [if_pos trivial]
    refine ⟨_, bad _ hx, ?_⟩
    have h92 : ¬ ch s (a + 1) = 92 := by
      intro h; rw [h] at hr; exact absurd hr (by decide)
    rw [if_neg h92, if_pos hr]
    split <;> exact ⟨rfl, rfl⟩
  · have hj : ∀ k, spokeshaveref2_char.f (k + 2) s (a : Int) = spokeshaveref2_char.j0 (k + 2) s (a : Int) ((a + 1 : Nat) : Int) (((ch s (a + 1)).toNat : Nat) : Int) false 4 (a : Int) (⟨#[]⟩ : ByteArray) (⟨#[]⟩ : ByteArray) 0 false := fun k => by rw [hf, decide_eq_false hr]
    rw [if_neg hr]
    by_cases h92 : ch s (a + 1) = 92
    · rw [if_pos h92]
      have h92' := (byte_is (ch s (a + 1)) 92 92 rfl).2 h92
      -- what each escape gives
      have esc : ∀ (v : Int), (∀ k, spokeshaveref2_char.f (k + 2) s (a : Int) = if (((ch s (a + 3)).toNat : Nat) : Int) = 39 then (if (a + 4 : Nat) ≤ s.size then some (4, (a : Int), s.extract a (a + 4), (⟨#[]⟩ : ByteArray), v, false, true) else none) else some (4, (a : Int), (⟨#[]⟩ : ByteArray), (⟨#[]⟩ : ByteArray), v, false, false)) →
          ¬ Lib.indexByte [110, 48, 92, 39] (ch s (a + 2)) < 0 → v = ((escV (ch s (a + 2)) : Nat) : Int) → ∃ x, Ev (fun k => spokeshaveref2_char.f k s (a : Int)) x ∧ RelC a ((Ls s).drop a) (if ch s (a + 3) ≠ 39 then .error 3 else if Lib.indexByte [110, 48, 92, 39] (ch s (a + 2)) < 0 then .error 3 else .ok ⟨4, 4, [], escV (ch s (a + 2)), false⟩) x := fun v h hi hv => by
        by_cases h3 : ch s (a + 3) = 39
        · have hlt := hz 3 (by rw [h3]; decide)
          refine ⟨(4, (a : Int), s.extract a (a + 4), (⟨#[]⟩ : ByteArray), v, false, true), bad _ fun k => by rw [h, if_pos ((byte_is _ 39 39 rfl).2 h3), if_pos (by omega)], ?_⟩
          rw [if_neg (by rw [h3]; simp), if_neg hi, hv, hmk 4]; rfl
        · refine ⟨(4, (a : Int), (⟨#[]⟩ : ByteArray), (⟨#[]⟩ : ByteArray), v, false, false), bad _ fun k => by rw [h, if_neg (fun e => h3 ((byte_is _ 39 39 rfl).1 e))], ?_⟩
          rw [if_pos h3]; exact ⟨rfl, rfl⟩
      have cnd : ∀ {α : Type} (y : α), (if (0 : Int) ≤ (a : Int) then (if (a : Int) ≤ ((a + 4 : Nat) : Int) then (if ((a + 4 : Nat) : Int) ≤ (s.size : Int) then some y else none) else none) else none) = (if (a + 4 : Nat) ≤ s.size then some y else none) := fun y => by
        rw [if_pos (n0 _), if_pos (iLe _ _ (Nat.le_add_right _ _))]
        by_cases h : a + 4 ≤ s.size
        · rw [if_pos (iLe _ _ h), if_pos h]
        · rw [if_neg (fun e => h (by omega)), if_neg h]
      by_cases e1 : ch s (a + 2) = 110
      · refine esc 10 (fun k => ?_) (by rw [e1]; decide) (by rw [e1]; rfl)
        rw [hj]; simp only [spokeshaveref2_char.j0]
        rw [if_neg (by decide), if_pos h92', hw2, r2, hw3, r3, hw4]
        simp only [Option.bind_some, Int.toNat_natCast]
        rw [if_pos ((byte_is _ 110 110 rfl).2 e1), cnd]
      · have e1' : ¬ _ := fun e => e1 ((byte_is (ch s (a + 2)) 110 110 rfl).1 e)
        by_cases e2 : ch s (a + 2) = 48
        · refine esc 0 (fun k => ?_) (by rw [e2]; decide) (by rw [e2]; rfl)
          rw [hj]; simp only [spokeshaveref2_char.j0]
          rw [if_neg (by decide), if_pos h92', hw2, r2, hw3, r3, hw4]
          simp only [Option.bind_some, Int.toNat_natCast]
          rw [if_neg e1', if_pos ((byte_is _ 48 48 rfl).2 e2), cnd]
        · have e2' : ¬ _ := fun e => e2 ((byte_is (ch s (a + 2)) 48 48 rfl).1 e)
          have j1 : ∀ k, spokeshaveref2_char.f (k + 2) s (a : Int) = spokeshaveref2_char.j1 (k + 1) s (a : Int) ((a + 2 : Nat) : Int) (decide (ch s (a + 2) = 92 ∨ ch s (a + 2) = 39)) 4 (a : Int) (⟨#[]⟩ : ByteArray) (⟨#[]⟩ : ByteArray) 0 false := fun k => by
            rw [hj]; simp only [spokeshaveref2_char.j0]
            rw [if_neg (by decide), if_pos h92', hw2, r2]
            simp only [Option.bind_some]
            rw [if_neg e1', if_neg e2']
            by_cases e3 : ch s (a + 2) = 92
            · rw [if_pos ((byte_is _ 92 92 rfl).2 e3), (byte_is _ 92 92 rfl).2 e3, decide_eq_true (.inl e3)]; rfl
            · rw [if_neg (fun e => e3 ((byte_is _ 92 92 rfl).1 e))]
              congr 1
              rw [Bool.eq_iff_iff, beq_iff_eq, decide_eq_true_eq, byte_is _ 39 39 rfl]
              exact ⟨.inr, fun h => h.resolve_left e3⟩
          by_cases e3 : ch s (a + 2) = 92 ∨ ch s (a + 2) = 39
          · have hlt := hz 2 (by rcases e3 with h | h <;> (rw [h]; decide))
            have hwu : IntKind.u64.wrap (((ch s (a + 2)).toNat : Nat) : Int) = (((ch s (a + 2)).toNat : Nat) : Int) := by
              have := (ch s (a + 2)).toNat_lt; rw [IntKind.wrap_u64]; omega
            refine esc (((ch s (a + 2)).toNat : Nat) : Int) (fun k => ?_) (by rcases e3 with h | h <;> (rw [h]; decide)) (by rcases e3 with h | h <;> (rw [h]; rfl))
            rw [j1, decide_eq_true e3]; simp only [spokeshaveref2_char.j1]
            rw [if_pos trivial, if_pos (n0 _), if_pos (nLt _ _ hlt), hw3, r3, hw4, ch_bt, hwu]
            simp only [Option.bind_some, Int.toNat_natCast]
            rw [cnd]
          · have hx : ∀ k, spokeshaveref2_char.f (k + 2) s (a : Int) = some (4, (a : Int), (⟨#[]⟩ : ByteArray), (⟨#[]⟩ : ByteArray), 0, false, false) := fun k => by
              rw [j1, decide_eq_false e3]; simp only [spokeshaveref2_char.j1]; rw [if_neg (by decide)]
            refine ⟨_, bad _ hx, ?_⟩
            rw [if_pos (esc_not e1 e2 (fun h => e3 (.inl h)) (fun h => e3 (.inr h)))]
            split <;> exact ⟨rfl, rfl⟩
    · rw [if_neg h92]
      have h92' : ¬ _ := fun e => h92 ((byte_is (ch s (a + 1)) 92 92 rfl).1 e)
      have hwu : IntKind.u64.wrap (((ch s (a + 1)).toNat : Nat) : Int) = (((ch s (a + 1)).toNat : Nat) : Int) := by
        have := (ch s (a + 1)).toNat_lt; rw [IntKind.wrap_u64]; omega
      by_cases h2 : ch s (a + 2) = 39
      · have hlt := hz 2 (by rw [h2]; decide)
        have hx : ∀ k, spokeshaveref2_char.f (k + 2) s (a : Int) = some (4, (a : Int), s.extract a (a + 3), (⟨#[]⟩ : ByteArray), (((ch s (a + 1)).toNat : Nat) : Int), false, true) := fun k => by
          rw [hj]; simp only [spokeshaveref2_char.j0]
          rw [if_neg (by decide), if_neg h92', hw2, r2]
          simp only [Option.bind_some]
          rw [if_pos ((byte_is _ 39 39 rfl).2 h2), if_pos (n0 _), hw3', if_pos (iLe _ _ (Nat.le_add_right _ _)), if_pos (iLe _ _ (by omega)), hwu]
          rfl
        refine ⟨_, bad _ hx, ?_⟩
        rw [if_neg (by rw [h2]; simp), hmk 3]; rfl
      · have hx : ∀ k, spokeshaveref2_char.f (k + 2) s (a : Int) = some (4, (a : Int), (⟨#[]⟩ : ByteArray), (⟨#[]⟩ : ByteArray), (((ch s (a + 1)).toNat : Nat) : Int), false, false) := fun k => by
          rw [hj]; simp only [spokeshaveref2_char.j0]
          rw [if_neg (by decide), if_neg h92', hw2, r2]
          simp only [Option.bind_some]
          rw [if_neg (fun e => h2 ((byte_is _ 39 39 rfl).1 e)), hwu]
        refine ⟨_, bad _ hx, ?_⟩
        rw [if_pos h2]; exact ⟨rfl, rfl⟩
end
section

/- The reference: names, one token. -/
def nameX (s : ByteArray) (a e : Nat) : T7 := if wordS (Ls (s.extract a e)) = true then (2, (a : Int), s.extract a e, (⟨#[]⟩ : ByteArray), 0, false, 0)
  else if (((e - a : Nat) : Int)) > 30 then (1, (a : Int), s.extract a e, (⟨#[]⟩ : ByteArray), 0, false, 6) else (1, (a : Int), s.extract a e, (⟨#[]⟩ : ByteArray), 0, false, 0)
theorem part_split (c : UInt8) : partU c = false → digU c = false := fun h => by
  cases hd : digU c with
  | false => rfl
  | true => rw [(letter_is c).2.2.1 hd] at h; cases h
theorem name_loop {s : ByteArray} {a : Nat} (hs : s.size ≤ 90000) : ∀ (d p : Nat), s.size - p ≤ d → a ≤ p → p ≤ s.size → Ev (fun k => spokeshaveref2_one.l0 k s (a : Int) (p : Int)) (nameX s a (p + spanL ((Ls s).drop p))) := by
  have stop : ∀ p, a ≤ p → p ≤ s.size → partU (ch s p) = false → Ev (fun k => spokeshaveref2_one.l0 k s (a : Int) (p : Int)) (nameX s a p) := fun p hap hp hpa => by
    have hl := letter_is (ch s p)
    have hd := part_split _ hpa
    have hw : wrap64 ((p : Int) - (a : Int)) = ((p - a : Nat) : Int) := by unfold wrap64; omega
    refine Ev.step (f := fun k => (spokeshaveref2_Word.f k (s.extract a p)).bind _) (Ev.bind (ref_word _) ?_) fun k => by
      simp only [spokeshaveref2_one.l0]
      rw [at_ev]; simp only [Option.bind_some]
      rw [hl.1, hpa]; simp only [Option.bind_some, Bool.false_and]
      rw [if_neg (by decide), hl.2.1, hd]; simp only [Option.bind_some]
      rw [if_neg (by decide), if_pos (n0 _), if_pos (iLe _ _ hap), if_pos (iLe _ _ hp), hw]
      simp only [Int.toNat_natCast]
      rfl
    refine Ev.const ?_
    unfold nameX
    by_cases h1 : wordS (Ls (s.extract a p)) = true
    · rw [if_pos h1, if_pos h1]
    · rw [if_neg h1, if_neg h1]
      split <;> rfl
  intro d
  induction d with
  | zero =>
    intro p hd hap hp
    have e : (Ls s).drop p = [] := List.drop_eq_nil_of_le (by rw [Ls_size]; omega)
    rw [e]
    exact stop p hap hp (by rw [ch_end (by omega)]; decide +kernel)
  | succ d ih =>
    intro p hd hap hp
    by_cases hlt : p < s.size
    · rw [drop_ch hlt]
      cases hpa : partU (ch s p) with
      | false =>
        have : spanL (ch s p :: (Ls s).drop (p + 1)) = 0 := by
          unfold spanL; rw [List.takeWhile_cons, if_neg (by rw [show partB (((ch s p).toNat : Nat) : Int) = false from hpa]; decide)]; rfl
        rw [this]
        exact stop p hap hp hpa
      | true =>
        have : spanL (ch s p :: (Ls s).drop (p + 1)) = 1 + spanL ((Ls s).drop (p + 1)) := by
          unfold spanL; rw [List.takeWhile_cons, if_pos (show partB (((ch s p).toNat : Nat) : Int) = true from hpa)]; simp; omega
        rw [this, ← Nat.add_assoc]
        have hw := w1 p (by omega)
        have hl := letter_is (ch s p)
        refine Ev.step (ih (p + 1) (by omega) (by omega) (by omega)) fun k => ?_
        simp only [spokeshaveref2_one.l0]
        rw [at_ev]; simp only [Option.bind_some]
        rw [hl.1, hpa, hw, hl.2.1]; simp only [Option.bind_some, Bool.true_and]
        cases hd : digU (ch s p)
        · rw [if_pos (by decide)]
        · rw [if_neg (by decide), if_pos rfl]
    · have e : (Ls s).drop p = [] := List.drop_eq_nil_of_le (by rw [Ls_size]; omega)
      rw [e]
      exact stop p hap hp (by rw [ch_end (by omega)]; decide +kernel)
theorem mk_Ls (s : ByteArray) : mk (Ls s) = s := ba_eq (Ls_mk _)
theorem ref_one {s : ByteArray} {a : Nat} (hs : s.size ≤ 90000) (ha : a < s.size) : ∃ x, Ev (fun k => spokeshaveref2_one.f k s (a : Int)) x ∧ Rel a ((Ls s).drop a) (tokS ((Ls s).drop a)) x := by
  have g0 : ((Ls s).drop a).getD 0 0 = ch s a := ch_drop s a 0
  have hl := letter_is (ch s a)
  unfold tokS
  rw [g0]
  by_cases h1 : digU (ch s a) = true
  · rw [if_pos h1]
    obtain ⟨x, hx, hr⟩ := ref_num hs ha h1
    refine ⟨x, Ev.congr (f := fun k => (spokeshaveref2_number.f k s (a : Int)).bind fun x => some x) (Ev.bind hx (Ev.const rfl)) fun k => ?_, hr⟩
    unfold spokeshaveref2_one.f
    rw [if_pos (n0 _), if_pos (nLt _ _ ha), ch_bt, hl.1, hl.2.1, h1]
    simp only [Option.bind_some, Bool.not_true, Bool.and_false]
    rw [if_neg (by decide), if_pos trivial]
  · rw [if_neg h1]
    have h1' : digU (ch s a) = false := Bool.eq_false_iff.2 h1
    by_cases h39 : ch s a = 39
    · rw [if_pos h39]
      obtain ⟨x, hx, hr⟩ := ref_char hs ha
      have hp := hl.2.2.2 h39
      have hone : ∀ k, spokeshaveref2_one.f k s (a : Int) = (spokeshaveref2_char.f k s (a : Int)).bind fun bt210 => (if bt210.2.2.2.2.2.2 = true then (some (bt210.1, bt210.2.1, bt210.2.2.1, bt210.2.2.2.1, bt210.2.2.2.2.1, bt210.2.2.2.2.2.1, (0 : Int))) else (some (bt210.1, bt210.2.1, bt210.2.2.1, bt210.2.2.2.1, bt210.2.2.2.2.1, bt210.2.2.2.2.2.1, 3))) := fun k => by
        unfold spokeshaveref2_one.f
        rw [if_pos (n0 _), if_pos (nLt _ _ ha), ch_bt, hl.1, hl.2.1, h1', hp]
        simp only [Option.bind_some, Bool.false_and]
        rw [if_neg (by decide), if_neg (by decide), if_pos ((byte_is _ 39 39 rfl).2 h39)]
      cases ht : letS ((Ls s).drop a) with
      | ok t =>
        rw [ht] at hr
        have hr' : x = _ := hr
        subst hr'
        refine ⟨(t.kind, (a : Int), mk (((Ls s).drop a).take t.n), mk t.suf, (t.num : Int), t.hex, 0), Ev.congr (Ev.bind hx ?_) hone, rfl⟩
        exact ⟨0, fun k _ => rfl⟩
      | error e =>
        rw [ht] at hr
        obtain ⟨hr1, rfl⟩ := hr
        refine ⟨(x.1, x.2.1, x.2.2.1, x.2.2.2.1, x.2.2.2.2.1, x.2.2.2.2.2.1, 3), Ev.congr (Ev.bind hx ?_) hone, rfl⟩
        exact ⟨0, fun k _ => by show (if x.2.2.2.2.2.2 = true then _ else _) = _; rw [hr1]; rfl⟩
    · rw [if_neg h39]
      cases hp : partU (ch s a) with
      | true =>
        rw [if_pos rfl]
        have hn := name_loop (a := a) hs s.size a (by omega) (Nat.le_refl _) (by omega)
        refine ⟨_, Ev.congr hn fun k => ?_, ?_⟩
        · unfold spokeshaveref2_one.f
          rw [if_pos (n0 _), if_pos (nLt _ _ ha), ch_bt, hl.1, hp, h1']
          simp only [Option.bind_some, Bool.not_false, Bool.and_true]
          rw [if_pos trivial]
        · have he : s.extract a (a + spanL ((Ls s).drop a)) = mk (((Ls s).drop a).take (spanL ((Ls s).drop a))) := by
            apply ba_eq; rw [Ls_ext, Ls_mk, Nat.add_sub_cancel_left]
          have hle := spanL_le ((Ls s).drop a)
          unfold nameX nameS
          rw [he, Ls_mk, Nat.add_sub_cancel_left]
          by_cases hw : wordS (((Ls s).drop a).take (spanL ((Ls s).drop a))) = true
          · have h8 := word_len hw
            rw [List.length_take] at h8
            rw [if_pos hw, if_neg (by omega)]
            rw [if_pos hw]; rfl
          · rw [if_neg hw]
            by_cases h30 : 30 < spanL ((Ls s).drop a)
            · rw [if_pos h30, if_neg hw, if_pos (show ((spanL ((Ls s).drop a) : Nat) : Int) > 30 by omega)]; rfl
            · rw [if_neg h30, if_neg hw, if_neg (show ¬ ((spanL ((Ls s).drop a) : Nat) : Int) > 30 by omega)]; rfl
      | false =>
        rw [if_neg (by decide)]
        have hsg := ref_sign s (by omega) a (by omega)
        have hone : ∀ k, spokeshaveref2_one.f k s (a : Int) = (spokeshaveref2_sign.f k s (a : Int)).bind fun t218 => (if t218.toList = ([] : List UInt8) then (some (5, (a : Int), t218, (⟨#[]⟩ : ByteArray), (0 : Int), false, (3 : Int))) else (some (5, (a : Int), t218, (⟨#[]⟩ : ByteArray), 0, false, 0))) := fun k => by
          unfold spokeshaveref2_one.f
          rw [if_pos (n0 _), if_pos (nLt _ _ ha), ch_bt, hl.1, hl.2.1, h1', hp]
          simp only [Option.bind_some, Bool.false_and]
          rw [if_neg (by decide), if_neg (by decide), if_neg (fun e => h39 ((byte_is _ 39 39 rfl).1 e))]
        unfold signS
        cases hf : signsL.find? (fun p => p.isPrefixOf ((Ls s).drop a)) with
        | none =>
          rw [hf] at hsg
          exact ⟨(5, (a : Int), mk [], (⟨#[]⟩ : ByteArray), 0, false, 3), Ev.congr (Ev.bind hsg (Ev.const (by simp only [Option.getD_none]; rw [if_pos (by rw [toList_Ls, Ls_mk])]))) hone, rfl⟩
        | some p =>
          rw [hf] at hsg
          have hp1 : p.isPrefixOf ((Ls s).drop a) = true := by have := List.find?_some hf; exact this
          have hp2 := List.prefix_iff_eq_take.1 (List.isPrefixOf_iff_prefix.1 hp1)
          have hp3 : p ≠ [] := by
            have : ∀ q ∈ signsL, q ≠ [] := by decide +kernel
            exact this p (List.mem_of_find?_eq_some hf)
          refine ⟨(5, (a : Int), mk p, (⟨#[]⟩ : ByteArray), 0, false, 0), Ev.congr (Ev.bind hsg (Ev.const (by simp only [Option.getD_some]; rw [if_neg (by rw [toList_Ls, Ls_mk]; exact hp3)]))) hone, ?_⟩
          show _ = ((5 : Int), (a : Int), mk (((Ls s).drop a).take p.length), mk [], ((0 : Nat) : Int), false, (0 : Int))
          rw [← hp2]; rfl
end
section

/- The reference: a text's tokens. -/
theorem len6000 {n : Nat} (h : n < 6000) : ((n : Int) == 6000) = false := beq_eq_false_iff_ne.2 (by omega)
theorem wadd (a b : Nat) (h : a + b ≤ 90000) : wrap64 ((a : Int) + (b : Int)) = ((a + b : Nat) : Int) := by unfold wrap64; omega
set_option maxHeartbeats 1000000 in
theorem ref_loop {s : ByteArray} (hs : s.size ≤ 90000) : ∀ (d a : Nat) (out : List S33), s.size - a < d → a ≤ s.size → out.length + (s.size - a) ≤ 6000 →
    Ev (fun k => spokeshaveref2_Tokens.l0 k s out ((a + (gapS ((Ls s).drop a)).2 : Nat) : Int) (gapS ((Ls s).drop a)).1) (outS out (lexF d ((Ls s).drop a) a)) := by
  intro d
  induction d with
  | zero => intro a out h; omega
  | succ d ih =>
    intro a out hd ha ho
    have hle := gapS_le ((Ls s).drop a)
    simp only [List.length_drop, Ls_size] at hle
    have hdr : ((Ls s).drop a).drop (gapS ((Ls s).drop a)).2 = (Ls s).drop (a + (gapS ((Ls s).drop a)).2) := by rw [List.drop_drop]
    have hdr2 : ∀ m, ((Ls s).drop a).drop ((gapS ((Ls s).drop a)).2 + m) = (Ls s).drop (a + (gapS ((Ls s).drop a)).2 + m) := fun m => by rw [List.drop_drop, Nat.add_assoc]
    simp only [lexF]
    rw [hdr]
    generalize hgn : (gapS ((Ls s).drop a)).2 = n at *
    generalize hgb : (gapS ((Ls s).drop a)).1 = b at *
    cases b with
    | false =>
      rw [if_pos rfl]
      refine Ev.step (F := fun k => spokeshaveref2_Tokens.l0 k s out ((a + n : Nat) : Int) false) (Ev.step (F := fun k => spokeshaveref2_Tokens.j1 k s out ((a + n : Nat) : Int) false false) (f := fun _ => some (([] : List S33), (3 : Int), ((a + n : Nat) : Int))) (Ev.const rfl) fun k => ?_) fun k => ?_
      · simp only [spokeshaveref2_Tokens.j1]; rw [if_neg (by decide), if_neg (by decide)]
      · simp only [spokeshaveref2_Tokens.l0]; rw [if_neg (by decide)]
    | true =>
      rw [if_neg (by decide)]
      have hl0 : ∀ k, spokeshaveref2_Tokens.l0 (k + 1) s out ((a + n : Nat) : Int) true = spokeshaveref2_Tokens.j1 k s out ((a + n : Nat) : Int) true (decide (((a + n : Nat) : Int) < (s.size : Int))) := fun k => by
        simp only [spokeshaveref2_Tokens.l0]; rw [if_pos trivial]
      by_cases hend : (Ls s).drop (a + n) = []
      · have hz : a + n = s.size := by have := congrArg List.length hend; simp at this; omega
        rw [if_pos hend]
        have hdec : decide (((a + n : Nat) : Int) < (s.size : Int)) = false := decide_eq_false (by omega)
        refine Ev.step (F := fun k => spokeshaveref2_Tokens.l0 k s out ((a + n : Nat) : Int) true) (Ev.step (F := fun k => spokeshaveref2_Tokens.j1 k s out ((a + n : Nat) : Int) true false) (f := fun _ => some (out, (0 : Int), (0 : Int))) (Ev.const (by simp [outS])) fun k => ?_) fun k => by rw [hl0, hdec]
        simp only [spokeshaveref2_Tokens.j1]; rw [if_neg (by decide), if_pos trivial]
      · rw [if_neg hend]
        have hlt : a + n < s.size := by
          have : ((Ls s).drop (a + n)).length ≠ 0 := fun e => hend (List.length_eq_zero_iff.1 e)
          simp at this; omega
        have hdec : decide (((a + n : Nat) : Int) < (s.size : Int)) = true := decide_eq_true (nLt _ _ hlt)
        obtain ⟨x, hx, hr⟩ := ref_one hs hlt
        have hA : ∀ m, 1 ≤ m → m ≤ s.size - (a + n) → s.size - (a + n + m) < d ∧ a + n + m ≤ s.size ∧ (out.length + 1) + (s.size - (a + n + m)) ≤ 6000 ∧ a + n + m ≤ 90000 ∧ s.size - (a + n + m) ≤ s.size ∧ s.size ≤ 100000 := fun m h1 h2 => by omega
        have ho6000 : out.length < 6000 := by omega
        clear hd ho
        have ho6 : ((out.length : Int) == 6000) = false := len6000 ho6000
        have ho2 : out.length < 2199023255552 := Nat.lt_trans ho6000 (by decide)
        have hj1 : ∀ k, spokeshaveref2_Tokens.j1 (k + 1) s out ((a + n : Nat) : Int) true true = (spokeshaveref2_one.f k s ((a + n : Nat) : Int)).bind fun y => spokeshaveref2_Tokens.j2 k s out ((a + n : Nat) : Int) y.2.2.2.2.2.2 false y.1 y.2.1 y.2.2.1 y.2.2.2.1 y.2.2.2.2.1 y.2.2.2.2.2.1 := fun k => by
          simp only [spokeshaveref2_Tokens.j1]; rw [if_pos trivial, ho6]
          congr 1
          funext y
          split <;> rfl
        have hbody : ∀ r, Ev (fun k => spokeshaveref2_Tokens.j2 k s out ((a + n : Nat) : Int) x.2.2.2.2.2.2 false x.1 x.2.1 x.2.2.1 x.2.2.2.1 x.2.2.2.2.1 x.2.2.2.2.2.1) r → Ev (fun k => spokeshaveref2_Tokens.l0 k s out ((a + n : Nat) : Int) true) r := fun r h =>
          Ev.step (F := fun k => spokeshaveref2_Tokens.l0 k s out ((a + n : Nat) : Int) true) (Ev.step (F := fun k => spokeshaveref2_Tokens.j1 k s out ((a + n : Nat) : Int) true true) (Ev.bind hx h) hj1) fun k => by rw [hl0, hdec]
        refine hbody _ ?_
        cases htk : tokS ((Ls s).drop (a + n)) with
        | error e =>
          rw [htk] at hr
          have hr' : x.2.2.2.2.2.2 = e := hr
          have he := tokS_err htk
          have he0 : ¬ e = 0 := by rcases he with rfl | rfl <;> decide
          rw [hr']
          refine Ev.step (f := fun _ => some (([] : List S33), e, ((a + n : Nat) : Int))) (Ev.const rfl) fun k => ?_
          simp only [spokeshaveref2_Tokens.j2]
          rw [if_neg (by decide), if_neg he0]
        | ok t =>
          rw [htk] at hr
          have hr' : x = _ := hr
          subst hr'
          have hn := tokS_ok hend htk
          simp only [List.length_drop, Ls_size] at hn
          have htx : (mk (((Ls s).drop (a + n)).take t.n)).size = t.n := by rw [mk_size, List.length_take, List.length_drop, Ls_size]; exact Nat.min_eq_left hn.2
          obtain ⟨q1, q2, q3, q4, q5, q6⟩ := hA t.n hn.1 hn.2
          have hw : wrap64 (((a + n : Nat) : Int) + (t.n : Int)) = ((a + n + t.n : Nat) : Int) := wadd (a + n) t.n q4
          have hrec := ih (a + n + t.n) (out ++ [tok33 (a + n) ((Ls s).drop (a + n)) t]) q1 q2 (by rw [List.length_append]; exact q3)
          have hgap := ref_gap s q6 s.size (a + n + t.n) q5 q2
          clear ih
          dsimp only
          rw [hdr2 t.n]
          have goal' : Ev (fun k => spokeshaveref2_Tokens.j2 k s out ((a + n : Nat) : Int) 0 false t.kind ((a + n : Nat) : Int) (mk (((Ls s).drop (a + n)).take t.n)) (mk t.suf) (t.num : Int) t.hex) (outS (out ++ [tok33 (a + n) ((Ls s).drop (a + n)) t]) (lexF d ((Ls s).drop (a + n + t.n)) (a + n + t.n))) := by
            refine Ev.step (f := fun k => (spokeshaveref2_gap.f k s ((a + n + t.n : Nat) : Int)).bind fun bt239 => (spokeshaveref2_Tokens.l0 k s (out ++ [tok33 (a + n) ((Ls s).drop (a + n)) t]) bt239.1 bt239.2)) (Ev.bind hgap hrec) fun k => ?_
            simp only [spokeshaveref2_Tokens.j2]
            rw [if_neg (by decide), if_pos trivial, if_pos ho2, htx, hw]
            rfl
          clear hrec hgap
          generalize lexF d ((Ls s).drop (a + n + t.n)) (a + n + t.n) = z at *
          cases z with
          | error x => exact goal'
          | ok ts =>
            have e : outS out (.ok (tok33 (a + n) ((Ls s).drop (a + n)) t :: ts)) = outS (out ++ [tok33 (a + n) ((Ls s).drop (a + n)) t]) (.ok ts) := by simp [outS]
            rw [← e] at goal'
            exact goal'
theorem ref_tokens {s : ByteArray} (hs : s.size ≤ 6000) : Ev (fun k => spokeshaveref2_Tokens.f k s) (lexS (Ls s)) := by
  have h := ref_loop (s := s) (by omega) (s.size + 1) 0 [] (by omega) (by omega) (by simp; omega)
  have hg := ref_gap s (by omega) s.size 0 (by omega) (by omega)
  rw [List.drop_zero] at h hg
  unfold lexS
  rw [Ls_size]
  refine Ev.congr (f := fun k => (spokeshaveref2_gap.f k s 0).bind fun bt221 => (spokeshaveref2_Tokens.l0 k s ([] : List S33) bt221.1 bt221.2)) (Ev.bind hg h) fun k => ?_
  unfold spokeshaveref2_Tokens.f
  rw [if_neg (by omega)]
end
section

theorem same_self (ts : List S33) (hl : ts.length ≤ 100000) : Ev (fun k => spokeshavelaw0_SameTokens.f k ts ts) true := by
  have loop : ∀ d i : Nat, ts.length - i ≤ d → i ≤ ts.length → Ev (fun k => spokeshavelaw0_SameTokens.l0 k ts ts (i : Int)) true := by
    have fin : ∀ i : Nat, i = ts.length → Ev (fun k => spokeshavelaw0_SameTokens.l0 k ts ts (i : Int)) true := fun i hi => by
      refine Ev.step (f := fun _ => some true) (Ev.const rfl) fun k => ?_
      simp only [spokeshavelaw0_SameTokens.l0]; rw [if_neg (by omega)]
    intro d
    induction d with
    | zero => intro i hd hi; exact fin i (by omega)
    | succ d ih =>
      intro i hd hi
      by_cases hlt : i < ts.length
      · have hw := w1 i (by omega)
        refine Ev.step (ih (i + 1) (by omega) (by omega)) fun k => ?_
        simp only [spokeshavelaw0_SameTokens.l0]
        rw [if_pos (nLt _ _ hlt), if_pos (n0 _), if_pos (nLt _ _ hlt), if_neg (by simp), hw]
      · exact fin i (by omega)
  refine Ev.congr (loop ts.length 0 (by omega) (by omega)) fun k => ?_
  unfold spokeshavelaw0_SameTokens.f
  rw [if_pos rfl]; rfl
theorem lexF_len : ∀ (d : Nat) (l : List UInt8) (a : Nat) (ts : List S33), lexF d l a = .ok ts → ts.length ≤ d
  | 0, l, a, ts, h => by simp only [lexF] at h; cases h; simp
  | d + 1, l, a, ts, h => by
    simp only [lexF] at h
    split at h
    · cases h
    · split at h
      · cases h; simp
      · split at h
        · cases h
        · split at h
          · cases h
          · rename_i ts' hts
            cases h
            have := lexF_len d _ _ _ hts
            simp; omega
theorem lexS_len (l : List UInt8) : (lexS l).1.length ≤ l.length + 1 := by
  unfold lexS
  cases h : lexF (l.length + 1) l 0 with
  | error e => simp [outS]
  | ok ts => have := lexF_len _ _ _ _ h; simpa [outS] using this
theorem LexTellsP : spokeshavelaw2_LexTells.Pure := by
  intro s _
  refine Ev.some ?_
  by_cases h2 : (s.size : Int) > 2000
  · exact Ev.congr awake_ev' fun k => by unfold spokeshavelaw2_LexTells.f; rw [if_pos h2]
  · have h1 := tokens_ev (s := s) (by omega)
    have h3 := ref_tokens (s := s) (by omega)
    have hlen := lexS_len (Ls s)
    rw [Ls_size] at hlen
    have h4 := same_self (lexS (Ls s)).1 (by omega)
    have h5 : lex_Word.f s = some (wordS (Ls s)) := by have := word_eq (Ls s) (by rw [Ls_size]; omega); rw [mk_Ls] at this; exact this
    refine Ev.congr (f := fun k => (Lx.Tokens.f k s).bind _) (Ev.bind h1 (Ev.bind (f := fun k => spokeshaveref2_Tokens.f k s) h3 (Ev.bind (f := fun k => spokeshavelaw0_SameTokens.f k (lexS (Ls s)).1 (lexS (Ls s)).1) h4 ?_))) fun k => by
      unfold spokeshavelaw2_LexTells.f; rw [if_neg h2]
    refine Ev.congr (f := fun k => (spokeshaveref2_Word.f k s).bind fun t116 => (if (wordS (Ls s) == t116) = true then ((spokeshavelaw2_awake.f k).bind fun t117 => (some t117)) else (none))) (Ev.bind (ref_word s) (Ev.congr awake_ev' fun k => by rw [if_pos (by simp)])) fun k => ?_
    rw [if_pos rfl, if_pos (by simp), h5]
    rfl
end
end Go.Proofs.YtiljijckfkphhaaDoor.PLex
namespace Go.Proofs.YtiljijckfkphhaaDoor.Pure
open Go.Proofs.YtiljijckfkphhaaDoor.PLex
theorem LexTells : spokeshavelaw2_LexTells.Pure := LexTellsP
end Go.Proofs.YtiljijckfkphhaaDoor.Pure
