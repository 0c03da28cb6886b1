/- The plain statement of the law WordUsual, and its walk: each input goes one of four ways. -/
import Derived.Test.YthkcdmkimnockaaDoorPWordUA
import Derived.Test.YthkcdmkimnockaaDoorPWordUB
import Derived.Test.YthkcdmkimnockaaDoorPWordUC
import Derived.Test.YthkcdmkimnockaaDoorPWordUD
import Derived.Test.YthkcdmkimnockaaDoorWordMath
import Derived.OpenShut
open Go Go.RowKit Go.Proofs.YthkcdmkimnockaaDoorW.PrintMore Go.Proofs.YthkcdmkimnockaaDoorW.PrintWords
open Go.Proofs.YthkcdmkimnockaaDoor.WordMath
namespace Go.Proofs.YthkcdmkimnockaaDoor.PWord
abbrev I64 (n : Int) : Prop := -9223372036854775808 ≤ n ∧ n ≤ 9223372036854775807
/-- n's lowest b bits, with a sign or without, as an int64. -/
def wv (b : Int) (s : Bool) (n : Int) : Int :=
  if b = 8 then (if s = true then (n + 128) % 256 - 128 else n % 256) else if b = 16 then (if s = true then (n + 32768) % 65536 - 32768 else n % 65536) else if b = 32 then (if s = true then (n + 2147483648) % 4294967296 - 2147483648 else n % 4294967296) else if b = 64 then wrap64 n else 0
def mayb (b : Int) : Bool := b == 8 || b == 16 || b == 32 || b == 64
theorem may_word (b : Int) (s : Bool) : word_May.f b s = some (mayb b) := by
  unfold word_May.f mayb
  by_cases h8 : b = 8
  · subst h8; rfl
  by_cases h16 : b = 16
  · subst h16; rfl
  by_cases h32 : b = 32
  · subst h32; rfl
  simp [h8, h16, h32]
theorem wrap_word (b : Int) (s : Bool) (n : Int) : word_Wrap.f b s n = some (wv b s n) := by
  unfold word_Wrap.f
  rw [may_word]
  unfold mayb wv
  by_cases h8 : b = 8
  · subst h8; cases s <;> simp [shl, shr, i64w, u64w, wrap64, IntKind.bits] <;> omega
  by_cases h16 : b = 16
  · subst h16; cases s <;> simp [shl, shr, i64w, u64w, wrap64, IntKind.bits] <;> omega
  by_cases h32 : b = 32
  · subst h32; cases s <;> simp [shl, shr, i64w, u64w, wrap64, IntKind.bits] <;> omega
  by_cases h64 : b = 64
  · subst h64; cases s <;> simp [shl, shr, i64w, u64w, wrap64, IntKind.bits] <;> omega
  simp [h8, h16, h32, h64]
theorem is_word (b : Int) (s : Bool) (n : Int) : word_Is.f b s n = some (mayb b && wv b s n == n) := by
  unfold word_Is.f
  rw [may_word, wrap_word]
  cases h : mayb b <;> simp
def uv (n : Int) : Int := n % 18446744073709551616
theorem wv_range (b : Int) (s : Bool) (n : Int) : I64 (wv b s n) := by
  unfold wv
  repeat' split
  all_goals first | omega | (unfold wrap64; omega)
theorem usual_i32 (k : Nat) : word_Usual.f (k + 1) 32 true 32 false = some (32, false) := by
  unfold word_Usual.f
  rw [may_word, may_word]
  simp [mayb, word_Usual.j0, word_Promote.f]
theorem text_i32 : word_TextB.f 32 true = some ⟨#[105, 51, 50]⟩ := by
  unfold word_TextB.f
  rw [may_word]
  rfl
theorem awake_true (k : Nat) : spokeshavelaw1_awakeB.f (k + 8) = some true := by
  unfold spokeshavelaw1_awakeB.f
  rw [wrap_word, text_i32, may_word, show k + 8 = (k + 7) + 1 from rfl, usual_i32]
  have e3 : wv 8 false 300 = 44 := by decide
  rw [e3]
  simp [mayb, Aw.word_Binary.f]
theorem low_eq (x n : Int) (_hx : I64 x) (hn : 0 < n ∧ n ≤ 9223372036854775807) : spokeshavelaw0_Low.f x n = some (uv x % n) := by
  unfold spokeshavelaw0_Low.f
  rw [u64w, u64w]
  have e : n % 18446744073709551616 = n := by omega
  rw [e, if_neg (by omega), Int.tmod_eq_emod_of_nonneg (by omega)]
  have h1 := Int.emod_lt_of_pos (uv x) hn.1
  have h2 := Int.emod_nonneg (uv x) (show n ≠ 0 by omega)
  unfold uv at *
  congr 1
  unfold wrap64
  omega
def ws8 : List S26 := [⟨8, true⟩, ⟨8, false⟩, ⟨16, true⟩, ⟨16, false⟩, ⟨32, true⟩, ⟨32, false⟩, ⟨64, true⟩, ⟨64, false⟩]
theorem widths_eq (k : Nat) : spokeshavelaw1_widths.f (k + 5) = some ws8 := by
  unfold spokeshavelaw1_widths.f
  simp [spokeshavelaw1_widths.l0, wrap64, ws8]
theorem i64_wf (n : Int) (h : (Lit.int .i64 n).wf = true) : I64 n := by
  have := bounds_i64 h
  unfold I64
  omega
theorem ws8_at (i : Int) (h0 : 0 ≤ i) (h8 : i < 8) : ∃ b s, rd_T26 ws8 i = ⟨b, s⟩ ∧ (b = 8 ∨ b = 16 ∨ b = 32 ∨ b = 64) := by
  have : i = 0 ∨ i = 1 ∨ i = 2 ∨ i = 3 ∨ i = 4 ∨ i = 5 ∨ i = 6 ∨ i = 7 := by omega
  rcases this with rfl | rfl | rfl | rfl | rfl | rfl | rfl | rfl
  · exact ⟨8, true, rfl, by decide⟩
  · exact ⟨8, false, rfl, by decide⟩
  · exact ⟨16, true, rfl, by decide⟩
  · exact ⟨16, false, rfl, by decide⟩
  · exact ⟨32, true, rfl, by decide⟩
  · exact ⟨32, false, rfl, by decide⟩
  · exact ⟨64, true, rfl, by decide⟩
  · exact ⟨64, false, rfl, by decide⟩
/-- the usual width of two -/
def Us (b : Int) (s : Bool) (c : Int) (t : Bool) : Int × Bool :=
  if (if b < 32 then 32 else b) > (if c < 32 then 32 else c) then (if b < 32 then (32, true) else (b, s))
  else if (if b < 32 then 32 else b) < (if c < 32 then 32 else c) then (if c < 32 then (32, true) else (c, t))
  else (if b < 32 then 32 else b, (if b < 32 then true else s) && (if c < 32 then true else t))
theorem usual_word (k : Nat) (b : Int) (s : Bool) (c : Int) (t : Bool) (hb : b = 8 ∨ b = 16 ∨ b = 32 ∨ b = 64) (hc : c = 8 ∨ c = 16 ∨ c = 32 ∨ c = 64) : word_Usual.f (k + 1) b s c t = some (Us b s c t) := by
  unfold word_Usual.f
  rw [may_word, may_word]
  rcases hb with rfl | rfl | rfl | rfl <;> rcases hc with rfl | rfl | rfl | rfl <;> cases s <;> cases t <;> simp [mayb, word_Usual.j0, word_Promote.f, Us]
/-- what the law asks of the usual width -/
theorem us_facts (b : Int) (s : Bool) (c : Int) (t : Bool) (n : Int) (hb : b = 8 ∨ b = 16 ∨ b = 32 ∨ b = 64) (hc : c = 8 ∨ c = 16 ∨ c = 32 ∨ c = 64) :
    ((Us b s c t).1 = 32 ∨ (Us b s c t).1 = 64) ∧ Us c t b s = Us b s c t ∧ Us (Us b s c t).1 (Us b s c t).2 (Us b s c t).1 (Us b s c t).2 = Us b s c t ∧ Us (Us b s c t).1 (Us b s c t).2 b s = Us b s c t ∧ (Us b s c t).1 ≥ b ∧
      (((Us b s c t).2 = true ∨ 0 ≤ wv b s n ∨ s = false) → wv (Us b s c t).1 (Us b s c t).2 (wv b s n) = wv b s n) := by
  rcases hb with rfl | rfl | rfl | rfl <;> rcases hc with rfl | rfl | rfl | rfl <;> cases s <;> cases t <;> simp [Us, wv, wrap64] <;> omega
theorem usual_all (f : Nat → Int → Int → Int → Option Bool) (i q n : Int) (hi : I64 i) (hq : I64 q) (b : Int) (s : Bool) (c : Int) (t : Bool) (ev : rd_T26 ws8 (uv i % 8) = ⟨b, s⟩) (ew : rd_T26 ws8 (uv q % 8) = ⟨c, t⟩)
    (A C D : Bool)
    (hf : ∀ k i q n, f k i q n = (spokeshavelaw1_widths.f k).bind fun t101 => ((spokeshavelaw0_Low.f i 8).bind fun t104 => (if 0 ≤ t104 then (if t104 < (t101.length : Int) then ((spokeshavelaw0_Low.f q 8).bind fun t106 => (if 0 ≤ t106 then (if t106 < (t101.length : Int) then ((word_Usual.f k ((rd_T26 t101 t104).f0) ((rd_T26 t101 t104).f1) ((rd_T26 t101 t106).f0) ((rd_T26 t101 t106).f1)).bind fun bt110 => ((word_Wrap.f ((rd_T26 t101 t104).f0) ((rd_T26 t101 t104).f1) n).bind fun t113 => ((word_May.f bt110.1 bt110.2).bind fun t114 => (if t114 = true then (if bt110.1 ≥ 32 then ((word_Usual.f k ((rd_T26 t101 t106).f0) ((rd_T26 t101 t106).f1) ((rd_T26 t101 t104).f0) ((rd_T26 t101 t104).f1)).bind fun bt115 => (if (bt110.1 == bt115.1 && (bt110.2 == bt115.2)) = true then ((word_Usual.f k bt110.1 bt110.2 bt110.1 bt110.2).bind fun bt117 => (if (bt117.1 == bt110.1 && (bt117.2 == bt110.2)) = true then ((word_Usual.f k bt110.1 bt110.2 ((rd_T26 t101 t104).f0) ((rd_T26 t101 t104).f1)).bind fun bt119 => (if (bt119.1 == bt110.1 && (bt119.2 == bt110.2)) = true then (if bt110.1 ≥ ((rd_T26 t101 t104).f0) then (if bt110.2 = true then ((word_Is.f bt110.1 bt110.2 t113).bind fun t121 => (if t121 = true then ((spokeshavelaw1_awakeB.f k).bind fun t122 => (if A = true then some t122 else none)) else (none))) else (if t113 < 0 then (if (rd_T26 t101 t104).f1 = true then ((spokeshavelaw1_awakeB.f k).bind fun t123 => (if C = true then some t123 else none)) else ((word_Is.f bt110.1 bt110.2 t113).bind fun t124 => (if t124 = true then ((spokeshavelaw1_awakeB.f k).bind fun t125 => (if D = true then some t125 else none)) else (none)))) else ((word_Is.f bt110.1 bt110.2 t113).bind fun t126 => (if t126 = true then ((spokeshavelaw1_awakeB.f k).bind fun t127 => (if A = true ∨ C = true ∨ D = true then none else some t127)) else (none))))) else (none)) else (none))) else (none))) else (none))) else (none)) else (none))))) else (none)) else (none))) else (none)) else (none))))
    (way : if (Us b s c t).2 = true then A = true else if wv b s n < 0 then (if s = true then C = true else D = true) else A = false ∧ C = false ∧ D = false) :
    f (3 + 5) i q n = some true := by
  rw [hf, widths_eq, Option.bind_some, low_eq i 8 hi (by decide), low_eq q 8 hq (by decide), Option.bind_some, Option.bind_some]
  have i1 := Int.emod_lt_of_pos (uv i) (show (0 : Int) < 8 by decide)
  have i0 := Int.emod_nonneg (uv i) (show (8 : Int) ≠ 0 by decide)
  have k1 := Int.emod_lt_of_pos (uv q) (show (0 : Int) < 8 by decide)
  have k0 := Int.emod_nonneg (uv q) (show (8 : Int) ≠ 0 by decide)
  obtain ⟨b', s', ev', hb⟩ := ws8_at _ i0 i1
  obtain ⟨c', t', ew', hc⟩ := ws8_at _ k0 k1
  obtain ⟨rfl, rfl⟩ : b' = b ∧ s' = s := by rw [ev'] at ev; injection ev with h1 h2; exact ⟨h1, h2⟩
  obtain ⟨rfl, rfl⟩ : c' = c ∧ t' = t := by rw [ew'] at ew; injection ew with h1 h2; exact ⟨h1, h2⟩
  rw [if_pos i0, if_pos (show uv i % 8 < (ws8.length : Int) from i1), if_pos k0, if_pos (show uv q % 8 < (ws8.length : Int) from k1), ev, ew]
  clear ev' ew' ev ew hf
  obtain ⟨h1, h2, h3, h4, h5, h6⟩ := us_facts b' s' c' t' n hb hc
  have hu : (Us b' s' c' t').1 = 8 ∨ (Us b' s' c' t').1 = 16 ∨ (Us b' s' c' t').1 = 32 ∨ (Us b' s' c' t').1 = 64 := by omega
  have hm : mayb (Us b' s' c' t').1 = true := by rcases h1 with h | h <;> rw [h] <;> rfl
  simp only [show 3 + 5 = 7 + 1 from rfl, usual_word _ _ _ _ _ hb hc, usual_word _ _ _ _ _ hc hb, wrap_word, may_word, Option.bind_some, hm, if_true, if_pos (show (Us b' s' c' t').1 ≥ 32 by omega), h2, usual_word _ _ _ _ _ hu hu, usual_word _ _ _ _ _ hu hb, h3, h4, beq_self_eq_true, Bool.and_self, if_pos h5, is_word, Bool.true_and]
  rw [show 7 + 1 = 0 + 8 from rfl, awake_true]
  simp only [Option.bind_some]
  by_cases hs : (Us b' s' c' t').2 = true
  · rw [if_pos hs] at way
    rw [if_pos hs, h6 (.inl hs), beq_self_eq_true, if_pos rfl, if_pos way]
  · rw [if_neg hs] at way
    rw [if_neg hs]
    by_cases h0 : wv b' s' n < 0
    · rw [if_pos h0] at way
      rw [if_pos h0]
      cases s' with
      | true =>
        rw [if_pos rfl] at way
        rw [if_pos rfl, if_pos way]
      | false =>
        rw [if_neg (by decide)] at way
        rw [if_neg (by decide), h6 (.inr (.inr rfl)), beq_self_eq_true, if_pos rfl, if_pos way]
    · rw [if_neg h0] at way
      rw [if_neg h0, h6 (.inr (.inl (by omega))), beq_self_eq_true, if_pos rfl, if_neg (by simp [way])]
theorem WordUsual (i q n : Int) (hi : I64 i) (hq : I64 q) :
    (∃ k, spokeshavelaw1_WordUsualA.f k i q n = some true) ∨ (∃ k, spokeshavelaw1_WordUsualB.f k i q n = some true) ∨ (∃ k, spokeshavelaw1_WordUsualC.f k i q n = some true) ∨ (∃ k, spokeshavelaw1_WordUsualD.f k i q n = some true) := by
  have i1 := Int.emod_lt_of_pos (uv i) (show (0 : Int) < 8 by decide)
  have i0 := Int.emod_nonneg (uv i) (show (8 : Int) ≠ 0 by decide)
  have k1 := Int.emod_lt_of_pos (uv q) (show (0 : Int) < 8 by decide)
  have k0 := Int.emod_nonneg (uv q) (show (8 : Int) ≠ 0 by decide)
  obtain ⟨b, s, ev, hb⟩ := ws8_at _ i0 i1
  obtain ⟨c, t, ew, hc⟩ := ws8_at _ k0 k1
  by_cases hs : (Us b s c t).2 = true
  · refine .inl ⟨_, usual_all _ i q n hi hq b s c t ev ew true false false (fun k i q n => ?_) (by rw [if_pos hs])⟩
    unfold spokeshavelaw1_WordUsualA.f
    simp only [if_true, Bool.false_eq_true, if_false, true_or]
  by_cases h0 : wv b s n < 0
  · cases hsg : s with
    | true =>
      refine .inr (.inl ⟨_, usual_all _ i q n hi hq b s c t ev ew false true false (fun k i q n => ?_) (by rw [if_neg hs, if_pos h0, if_pos hsg])⟩)
      unfold spokeshavelaw1_WordUsualB.f
      simp only [if_true, Bool.false_eq_true, if_false, true_or, or_true]
    | false =>
      refine .inr (.inr (.inl ⟨_, usual_all _ i q n hi hq b s c t ev ew false false true (fun k i q n => ?_) (by rw [if_neg hs, if_pos h0, if_neg (by rw [hsg]; decide)])⟩))
      unfold spokeshavelaw1_WordUsualC.f
      simp only [if_true, Bool.false_eq_true, if_false, or_true]
  · refine .inr (.inr (.inr ⟨_, usual_all _ i q n hi hq b s c t ev ew false false false (fun k i q n => ?_) (by rw [if_neg hs, if_neg h0]; exact ⟨rfl, rfl, rfl⟩)⟩))
    unfold spokeshavelaw1_WordUsualD.f
    simp only [Bool.false_eq_true, if_false, or_self]
theorem usual_walk (a0 a1 a2 : Int) (w : World) (w0 : (Lit.int .i64 a0).wf = true) (w1 : (Lit.int .i64 a1).wf = true) (_w2 : (Lit.int .i64 a2).wf = true) :
    Calls Tryd.prog 5 #[.int .i64 a0, .int .i64 a1, .int .i64 a2] w fun e w' => e = .returned (.bool true) ∧ Below w.heap.size w w' := by
  rcases WordUsual a0 a1 a2 (i64_wf a0 w0) (i64_wf a1 w1) with ⟨k, h⟩ | ⟨k, h⟩ | ⟨k, h⟩ | ⟨k, h⟩
  · exact spokeshavelaw1_WordUsualA.calls k a0 a1 a2 true w h
  · exact spokeshavelaw1_WordUsualB.calls k a0 a1 a2 true w h
  · exact spokeshavelaw1_WordUsualC.calls k a0 a1 a2 true w h
  · exact spokeshavelaw1_WordUsualD.calls k a0 a1 a2 true w h
end Go.Proofs.YthkcdmkimnockaaDoor.PWord
