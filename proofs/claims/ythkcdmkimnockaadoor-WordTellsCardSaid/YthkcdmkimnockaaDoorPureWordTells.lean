/- The plain statement of the law WordTells. -/
import Derived.Test.YthkcdmkimnockaaDoorPWordx19
import Derived.Test.YthkcdmkimnockaaDoorPWordx20
import Derived.Test.YthkcdmkimnockaaDoorPWordx21
import Derived.Test.YthkcdmkimnockaaDoorWordRef
import Derived.Test.YthkcdmkimnockaaDoorWordNot
open Go Go.RowKit Go.Proofs.YthkcdmkimnockaaDoorW.PrintMore Go.Proofs.YthkcdmkimnockaaDoorW.PrintWords
open Go.Proofs.YthkcdmkimnockaaDoor.WordMath
namespace Go.Proofs.YthkcdmkimnockaaDoor.PWord
theorem plain_eq (sub a c : Int) (ha : I64 a) (hc : I64 c) : PlB sub a c = Pl sub a c := by
  have ea : wrap64 a = a := by unfold wrap64; unfold I64 at ha; omega
  have ec : wrap64 c = c := by unfold wrap64; unfold I64 at hc; omega
  have ew : ∀ s, wv 64 s a = a := fun s => by rw [wv_64, ea]
  have ew2 : ∀ s, wv 64 s c = c := fun s => by rw [wv_64, ec]
  have hu : ∀ n, ar 64 false n = (wrap64 n, true) := fun n => by unfold ar; rw [if_neg (by decide), wv_64]
  have h64 : ∀ n : Int, 0 ≤ n % 64 ∧ n % 64 < 64 := fun n => by omega
  have hlt : ∀ a c : Int, tr (decide (a ≤ c)) = tr (!decide (c < a)) := fun a c => by
    congr 1
    by_cases h : a ≤ c
    · rw [decide_eq_true h, decide_eq_false (by omega)]; rfl
    · rw [decide_eq_false h, decide_eq_true (by omega)]; rfl
  have core : ∀ s sub, ¬ (sub = 11 ∨ sub = 12 ∨ sub = 13) → Bin 64 s sub a c = Core 64 s sub a c := fun s sub h => by
    rw [bin_core 64 (.inr rfl) s sub a c h, ew, ew2]
  unfold PlB
  by_cases h4 : sub = 4
  · subst h4
    rw [if_pos (.inl rfl), core _ _ (by decide)]
    have c4 : Core 64 true 4 a c = (if c = 0 then (0, false) else ar 64 true (a.tdiv c)) := by simp [Core]
    have p4 : Pl 4 a c = (if c = 0 ∨ a = -9223372036854775808 ∧ c = -1 then (0, false) else (wrap64 (a.tdiv c), true)) := by simp [Pl]
    rw [c4, p4]
    by_cases h0 : c = 0
    · rw [if_pos h0, if_pos (.inl h0)]
    · rw [if_neg h0]
      by_cases hm : a = -9223372036854775808 ∧ c = -1
      · rw [if_pos (.inr hm)]
        obtain ⟨h1, h2⟩ := hm
        subst h1 h2
        simp [ar, wv, wrap64]
      · rw [if_neg (by omega)]
        have g1 := Int.natAbs_tdiv_le_natAbs a c
        have g2 : c = -1 → a.tdiv c = -a := fun h => by subst h; rw [Int.tdiv_neg, Int.tdiv_one]
        have g3 : c ≠ -1 → a = -9223372036854775808 → a.tdiv c ≠ 9223372036854775808 := fun hc1 hal => tdiv_no a c _ (.inr rfl) h0 hc1 (by omega)
        have hw : wrap64 (a.tdiv c) = a.tdiv c := by unfold wrap64; unfold I64 at ha; omega
        unfold ar
        rw [if_pos rfl, wv_64, hw, if_pos rfl]
  by_cases h5 : sub = 5
  · subst h5
    rw [if_pos (.inr (.inl rfl)), core _ _ (by decide)]
    have c5 : Core 64 true 5 a c = (if c = 0 then (0, false) else if c = -1 ∧ a = least 64 then (0, false) else (a.tmod c, true)) := by simp [Core]
    have p5 : Pl 5 a c = (if c = 0 ∨ a = -9223372036854775808 ∧ c = -1 then (0, false) else (a.tmod c, true)) := by simp [Pl]
    rw [c5, p5]
    have hl : least 64 = -9223372036854775808 := by simp [least]
    rw [hl]
    by_cases h0 : c = 0
    · rw [if_pos h0, if_pos (.inl h0)]
    · rw [if_neg h0]
      by_cases hm : a = -9223372036854775808 ∧ c = -1
      · rw [if_pos (show c = -1 ∧ a = -9223372036854775808 from ⟨hm.2, hm.1⟩), if_pos (show c = 0 ∨ a = -9223372036854775808 ∧ c = -1 from .inr hm)]
      · rw [if_neg (show ¬ (c = -1 ∧ a = -9223372036854775808) from by omega), if_neg (show ¬ (c = 0 ∨ a = -9223372036854775808 ∧ c = -1) from by omega)]
  by_cases h16 : sub = 16
  · subst h16
    rw [if_pos (.inr (.inr (.inl rfl))), core _ _ (by decide)]
    simp [Core, Pl, lessB]
  by_cases h17 : sub = 17
  · subst h17
    rw [if_pos (.inr (.inr (.inr rfl))), core _ _ (by decide)]
    simp only [Core, Pl, lessB, hlt]
    simp
  rw [if_neg (by omega)]
  by_cases h11 : sub = 11
  · subst h11
    rw [if_pos (.inl rfl)]
    unfold Bin Pl
    rw [if_pos (.inr rfl), if_pos rfl, if_pos (h64 c), ew, if_neg (by decide), wv_64]
    simp
  by_cases h12 : sub = 12
  · subst h12
    rw [if_pos (.inr rfl)]
    unfold Bin Pl
    rw [if_pos (.inr rfl), if_neg (by decide), if_pos (.inl rfl), if_pos (h64 c), ew, if_neg (by decide)]
    simp
  rw [if_neg (by omega)]
  by_cases h13 : sub = 13
  · subst h13
    rw [if_pos rfl]
    unfold Bin Pl
    rw [if_pos (.inr rfl), if_neg (by decide), if_pos (.inr rfl), if_pos (h64 c), ew, if_pos (rfl : true = true)]
    simp
  rw [if_neg h13, core _ _ (by omega)]
  unfold Core Pl
  by_cases h1 : sub = 1
  · subst h1; simp [hu]
  by_cases h2 : sub = 2
  · subst h2; simp [hu]
  by_cases h3 : sub = 3
  · subst h3; simp [hu]
  by_cases h6 : sub = 6
  · subst h6; simp
  by_cases h7 : sub = 7
  · subst h7; simp
  by_cases h8 : sub = 8
  · subst h8; simp
  by_cases h9 : sub = 9
  · subst h9; simp
  by_cases h10 : sub = 10
  · subst h10; simp
  by_cases h14 : sub = 14
  · subst h14; simp
  by_cases h15 : sub = 15
  · subst h15; simp
  by_cases h18 : sub = 18
  · subst h18; simp [lessB]
  by_cases h19 : sub = 19
  · subst h19; simp only [lessB, hlt]; simp
  simp [h1, h2, h3, h4, h5, h6, h7, h8, h9, h10, h11, h12, h13, h14, h15, h16, h17, h18, h19]
theorem usual_ref (k : Nat) (b : Int) (s : Bool) (c : Int) (t : Bool) : ∃ r, word_Usual.f (k + 1) b s c t = some r ∧ spokeshaveref1_Usual.f (k + 1) b s c t = some r := by
  have hp : ∀ b s, ∃ r, word_Promote.f b s = some r ∧ spokeshaveref1_Promote.f b s = some r := fun b s => by
    unfold word_Promote.f spokeshaveref1_Promote.f
    by_cases h : b < 32
    · exact ⟨_, if_pos h, if_pos h⟩
    · exact ⟨_, if_neg h, if_neg h⟩
  obtain ⟨p, p1, p2⟩ := hp b s
  obtain ⟨q, q1, q2⟩ := hp c t
  unfold word_Usual.f spokeshaveref1_Usual.f
  rw [may_word, may_word, may_ref, may_ref]
  have hj : ∀ x, ∃ r, word_Usual.j0 (k + 1) x b s c t = some r ∧ spokeshaveref1_Usual.j0 (k + 1) x b s c t = some r := fun x => by
    rw [word_Usual.j0, spokeshaveref1_Usual.j0, p1, p2, q1, q2]
    cases x
    · simp only [Option.bind_some, Bool.false_eq_true, if_false]
      by_cases h1 : p.1 > q.1
      · exact ⟨_, if_pos h1, if_pos h1⟩
      · rw [if_neg h1]
        by_cases h2 : p.1 < q.1
        · exact ⟨_, if_pos h2, if_pos h2⟩
        · rw [if_neg h2]
          by_cases h3 : p.2 = true
          · exact ⟨_, if_pos h3, if_pos h3⟩
          · exact ⟨_, if_neg h3, if_neg h3⟩
    · exact ⟨_, if_pos rfl, if_pos rfl⟩
  simp only [Option.bind_some]
  cases mayb b
  · simp only [Bool.false_eq_true, if_false]; exact hj true
  · simp only [if_true]; exact hj _
theorem promote_ref (b : Int) (s : Bool) : ∃ r, word_Promote.f b s = some r ∧ spokeshaveref1_Promote.f b s = some r := by
  unfold word_Promote.f spokeshaveref1_Promote.f
  by_cases h : b < 32
  · exact ⟨_, if_pos h, if_pos h⟩
  · exact ⟨_, if_neg h, if_neg h⟩
theorem text_ref (k : Nat) (b : Int) (s : Bool) : ∃ r, word_Text.f b s = some r ∧ spokeshaveref1_Text.f (k + 1) b s = some r := by
  unfold word_Text.f spokeshaveref1_Text.f
  rw [may_word, may_ref]
  by_cases h8 : b = 8
  · subst h8; cases s <;> exact ⟨_, rfl, rfl⟩
  by_cases h16 : b = 16
  · subst h16; cases s <;> exact ⟨_, rfl, rfl⟩
  by_cases h32 : b = 32
  · subst h32; cases s <;> exact ⟨_, rfl, rfl⟩
  by_cases h64 : b = 64
  · subst h64; cases s <;> exact ⟨_, rfl, rfl⟩
  have hm : mayb b = false := by unfold mayb; simp [h8, h16, h32, h64]
  rw [hm]
  exact ⟨_, rfl, rfl⟩
/-- the plain statement of WordTells -/
def TellsPure : Prop := ∀ (a0_0 : Int) (a0_1 : Bool) (a1_0 : Int) (a1_1 : Bool) (a2 a3 a4 : Int), I64 a0_0 → I64 a1_0 → I64 a2 → I64 a3 → I64 a4 → ∃ k, spokeshavelaw1_WordTells.f k a0_0 a0_1 a1_0 a1_1 a2 a3 a4 = some true
theorem WordTells : TellsPure := by
  intro v vs b s sub x y hv hb hsub hx hy
  refine ⟨2 + 9, ?_⟩
  unfold spokeshavelaw1_WordTells.f word_Negate.f spokeshaveref1_Negate.f
  rw [bin_ref, bin_ref, show 2 + 9 = 3 + 8 from rfl, bin_word, bin_word, show 3 + 8 = 1 + 10 from rfl, plain_word, plain_eq sub x y hx hy, show 1 + 10 = 10 + 1 from rfl, plain_ref _ _ _ _ hx hy]
  simp only [Option.bind_some]
  have hj : (if b = 32 then spokeshavelaw1_WordTells.j0 (10 + 1) x (Bin b s sub x y).1 (Bin b s sub x y).2 (Bin b s sub x y).1 (Bin b s sub x y).2 (Pl sub x y).1 (Pl sub x y).2 (Pl sub x y).1 (Pl sub x y).2 (Bin b s 2 0 x).1 (Bin b s 2 0 x).2 (Bin b s 2 0 x).1 (Bin b s 2 0 x).2 0 true v vs b s else spokeshavelaw1_WordTells.j0 (10 + 1) x (Bin b s sub x y).1 (Bin b s sub x y).2 (Bin b s sub x y).1 (Bin b s sub x y).2 (Pl sub x y).1 (Pl sub x y).2 (Pl sub x y).1 (Pl sub x y).2 (Bin b s 2 0 x).1 (Bin b s 2 0 x).2 (Bin b s 2 0 x).1 (Bin b s 2 0 x).2 0 (b == 64) v vs b s)
      = spokeshavelaw1_WordTells.j1 10 x (Bin b s sub x y).1 (Bin b s sub x y).2 (Bin b s sub x y).1 (Bin b s sub x y).2 (Pl sub x y).1 (Pl sub x y).2 (Pl sub x y).1 (Pl sub x y).2 (Bin b s 2 0 x).1 (Bin b s 2 0 x).2 (Bin b s 2 0 x).1 (Bin b s 2 0 x).2 (if b = 32 ∨ b = 64 then wv b s (-1 - x) else 0) v vs b s := by
    by_cases h32 : b = 32
    · rw [if_pos h32, spokeshavelaw1_WordTells.j0, if_pos rfl, wrap_ref, not_i64 x hx, if_pos (.inl h32)]
      rfl
    · rw [if_neg h32]
      by_cases h64 : b = 64
      · rw [beq_iff_eq.mpr h64, spokeshavelaw1_WordTells.j0, if_pos rfl, wrap_ref, not_i64 x hx, if_pos (.inr h64)]
        rfl
      · rw [beq_eq_false_iff_ne.mpr h64, spokeshavelaw1_WordTells.j0, if_neg (by decide), if_neg (by omega)]
  rw [hj, show (10 : Nat) = 9 + 1 from rfl, spokeshavelaw1_WordTells.j1, if_pos rfl, if_pos (by simp), if_pos rfl, if_pos (by simp), if_pos rfl, if_pos (by simp), invert_word b s x hx, Option.bind_some, if_pos rfl, wrap_word, wrap_ref, Option.bind_some, Option.bind_some, if_pos rfl, is_word, may_ref, Option.bind_some, Option.bind_some]
  obtain ⟨u, u1, u2⟩ := usual_ref 8 v vs b s
  obtain ⟨p, p1, p2⟩ := promote_ref b s
  obtain ⟨t, t1, t2⟩ := text_ref 8 b s
  rw [show 9 = 8 + 1 from rfl, u1, u2, p1, p2, t1, t2, may_word, show 8 + 1 = 1 + 8 from rfl, awake_true]
  cases mayb b <;> simp
end Go.Proofs.YthkcdmkimnockaaDoor.PWord
