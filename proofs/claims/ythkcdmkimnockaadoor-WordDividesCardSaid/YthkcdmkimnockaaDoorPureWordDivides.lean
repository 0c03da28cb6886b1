/- The plain statement of the law WordDivides. -/
import Derived.Test.YthkcdmkimnockaaDoorPWordx13
import Derived.Test.YthkcdmkimnockaaDoorWordDiv
open Go Go.RowKit Go.Proofs.YthkcdmkimnockaaDoorW.PrintMore Go.Proofs.YthkcdmkimnockaaDoorW.PrintWords
open Go.Proofs.YthkcdmkimnockaaDoor.WordMath
namespace Go.Proofs.YthkcdmkimnockaaDoor.PWord
theorem div_core (k : Nat) (b : Int) (hb : b = 32 ∨ b = 64) (s : Bool) (a c x3 : Int) (hx : I64 x3) (ha : In b s a) (hc : In b s c) (j0 : Nat → Int → Int → Int → Int → Bool → Int → Bool → Int → Bool → Option Bool) (j1 : Nat → Int → Int → Int → Bool → Option Bool)
    (E0 : ∀ k x1 x2 x3 x10 x11 x12 x58 b s, j0 (k + 1) x1 x2 x3 x10 x11 x12 x58 b s = if x58 = true then (none) else (if x11 = true then ((word_Wrap.f b s (wrap64 ((wrap64 (x10 * x2)) + x12))).bind fun t287 => ((word_Binary.f k b s 16 x12 x2).bind fun bt288 => (if t287 = x1 then (if s = true then (if x12 = 0 then (j1 k x1 x3 b s) else (if ((decide (x12 < 0)) != (decide (x1 < 0))) = true then (none) else (j1 k x1 x3 b s))) else (if bt288.2 = true then (if bt288.1 = 1 then (j1 k x1 x3 b s) else (none)) else (none))) else (none)))) else (j1 k x1 x3 b s)))
    (E1 : ∀ k x1 x3 b s, j1 (k + 1) x1 x3 b s = (spokeshavelaw0_Low.f x3 b).bind fun t290 => ((word_Binary.f k b s 11 x1 t290).bind fun bt291 => ((word_Binary.f k b s 12 bt291.1 t290).bind fun bt293 => (if bt291.2 = true then (if bt293.2 = true then (if s = true then (if bt293.1 = x1 then ((spokeshavelaw1_awake.f k).bind fun t295 => (some t295)) else (none)) else ((spokeshavelaw1_awake.f k).bind fun t296 => (some t296))) else (if s = true then ((spokeshavelaw1_awake.f k).bind fun t297 => (some t297)) else ((spokeshavelaw1_awake.f k).bind fun t298 => (some t298)))) else (if s = true then (if x1 < 0 then ((spokeshavelaw1_awake.f k).bind fun t299 => (some t299)) else (if t290 > 0 then ((spokeshavelaw1_awake.f k).bind fun t300 => (some t300)) else (none))) else ((spokeshavelaw1_awake.f k).bind fun t301 => (some t301))))))) :
    ((word_Binary.f (k + 10) b s 4 a c).bind fun bt283 => ((word_Binary.f (k + 10) b s 5 a c).bind fun bt285 => (if (bt283.2 != bt285.2) = true then (j0 (k + 10) a c x3 bt283.1 bt283.2 bt285.1 true b s) else (if bt283.2 = true then (j0 (k + 10) a c x3 bt283.1 bt283.2 bt285.1 (c == 0) b s) else (j0 (k + 10) a c x3 bt283.1 bt283.2 bt285.1 false b s))))) = some true := by
  rw [show k + 10 = (k + 2) + 8 from rfl, bin_word, bin_word]
  obtain ⟨ok, q, r, e4, e5, hok⟩ := div_mod b hb s a c ha hc
  rw [e4, e5]
  simp only [Option.bind_some, bne_self_eq_false, Bool.false_eq_true, if_false]
  have last : ∀ k, j1 (k + 9) a x3 b s = some true := fun k => by
    rw [show k + 9 = (k + 8) + 1 from rfl, E1, low_eq x3 b hx (by rcases hb with rfl | rfl <;> decide)]
    have hn1 := Int.emod_lt_of_pos (uv x3) (show 0 < b by rcases hb with rfl | rfl <;> decide)
    have hn0 := Int.emod_nonneg (uv x3) (show b ≠ 0 by rcases hb with rfl | rfl <;> decide)
    generalize uv x3 % b = n at *
    obtain ⟨up, fits, down, e11, e12, h1, h2⟩ := shifts b hb s a n ha ⟨hn0, hn1⟩
    simp only [Option.bind_some, bin_word, awake_true, e11, e12, if_true]
    cases fits with
    | true =>
      simp only [if_true]
      cases s with
      | false => simp only [Bool.false_eq_true, if_false]
      | true => simp only [if_true, h1 rfl rfl]
    | false =>
      simp only [Bool.false_eq_true, if_false]
      cases s with
      | false => simp only [Bool.false_eq_true, if_false]
      | true =>
        simp only [if_true]
        rcases h2 rfl rfl with h | h
        · rw [if_pos h]
        · split
          · rfl
          · first | rfl | rw [if_pos (show n > 0 from h)]
  cases ok with
  | false =>
    simp only [Bool.false_eq_true, if_false]
    rw [show k + 2 + 8 = (k + 9) + 1 from rfl, E0, if_neg (by decide), if_neg (by decide)]
    exact last k
  | true =>
    obtain ⟨h0, hback, hs, hu⟩ := hok rfl
    simp only [if_true]
    rw [beq_eq_false_iff_ne.mpr h0, show k + 2 + 8 = (k + 9) + 1 from rfl, E0, if_neg (by decide), if_pos rfl, wrap_word, hback, show k + 9 = (k + 1) + 8 from rfl, bin_word]
    simp only [Option.bind_some, if_true]
    rw [show k + 1 + 8 = k + 9 from rfl]
    cases s with
    | true =>
      simp only [if_true]
      rcases hs rfl with h | h
      · rw [if_pos h]; exact last k
      · rw [h]
        simp only [Bool.false_eq_true, if_false, ite_self]
        exact last k
    | false =>
      rw [hu rfl]
      simp only [Bool.false_eq_true, if_false, if_true]
      exact last k
theorem pureWordDivides : spokeshavelaw1_WordDivides.Pure := by
  intro w x y n _ hx hy hn
  refine ⟨0 + 10, ?_⟩
  have hb := width_of w
  unfold spokeshavelaw1_WordDivides.f
  generalize wrap64 (32 + wrap64 (32 * Go.bits .and .i64 w 1)) = b at *
  by_cases h2 : Go.bits .and .i64 w 2 = 2
  · rw [if_pos h2, wrap_word, wrap_word, Option.bind_some, Option.bind_some]
    exact div_core 0 b hb true _ _ n (i64_wf n hn) (in_wv b hb true x) (in_wv b hb true y) spokeshavelaw1_WordDivides.j0 spokeshavelaw1_WordDivides.j1 (fun _ _ _ _ _ _ _ _ _ _ => by rw [spokeshavelaw1_WordDivides.j0]) (fun _ _ _ _ _ => by rw [spokeshavelaw1_WordDivides.j1])
  · rw [if_neg h2, wrap_word, wrap_word, Option.bind_some, Option.bind_some]
    exact div_core 0 b hb false _ _ n (i64_wf n hn) (in_wv b hb false x) (in_wv b hb false y) spokeshavelaw1_WordDivides.j2 spokeshavelaw1_WordDivides.j3 (fun _ _ _ _ _ _ _ _ _ _ => by rw [spokeshavelaw1_WordDivides.j2]) (fun _ _ _ _ _ => by rw [spokeshavelaw1_WordDivides.j3])
end Go.Proofs.YthkcdmkimnockaaDoor.PWord
namespace Go.Proofs.YthkcdmkimnockaaDoor.Pure
theorem WordDivides : PWord.spokeshavelaw1_WordDivides.Pure := PWord.pureWordDivides
end Go.Proofs.YthkcdmkimnockaaDoor.Pure
