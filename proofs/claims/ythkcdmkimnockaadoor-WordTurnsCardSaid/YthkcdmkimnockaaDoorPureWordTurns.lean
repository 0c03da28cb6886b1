/- The plain statement of the law WordTurns. -/
import Derived.Test.YthkcdmkimnockaaDoorPWordx15
import Derived.Test.YthkcdmkimnockaaDoorWordNot
open Go Go.RowKit Go.Proofs.YthkcdmkimnockaaDoorW.PrintMore Go.Proofs.YthkcdmkimnockaaDoorW.PrintWords
open Go.Proofs.YthkcdmkimnockaaDoor.WordMath
namespace Go.Proofs.YthkcdmkimnockaaDoor.PWord
theorem turn_core (k : Nat) (n : Int) (hn : I64 n) (b : Int) (s : Bool) (hb : b = 8 ∨ b = 16 ∨ b = 32 ∨ b = 64) : spokeshavelaw1_WordTurns.j0 (k + 9) n false b s = some true := by
  rw [spokeshavelaw1_WordTurns.j0, if_neg (by decide), wrap_word]
  simp only [Option.bind_some, bin_word, awake_true]
  have hx := wv_range b s n
  by_cases h32 : b < 32
  · have e : Bin b s 1 1 1 = (0, false) := by unfold Bin; rw [if_neg (by omega)]
    rw [if_pos h32, e, invert_word b s n hn, if_neg (show ¬ (b = 32 ∨ b = 64) by omega)]
    simp
  · have hb2 : b = 32 ∨ b = 64 := by omega
    have hin := in_wv b hb2 s n
    generalize wv b s n = x at *
    have h0 : In b s 0 := in_of b hb2 s 0 (by unfold I64; omega) (fun _ _ => by omega) (fun _ _ => by omega)
    have h2 : wv b s 2 = 2 := (in_of b hb2 s 2 (by unfold I64; omega) (fun _ _ => by omega) (fun _ _ => by omega)).own
    have e2 : Bin b s 2 x x = (0, true) := by
      unfold Bin
      rw [if_pos hb2, if_neg (by decide), if_neg (by decide), if_neg (by decide), if_pos rfl, hin.own, Int.sub_self]
      unfold ar
      rw [h0.own]
      cases s <;> rfl
    have e1 : Bin b s 1 x x = ar b s (x + x) := by
      unfold Bin
      rw [if_pos hb2, if_neg (by decide), if_neg (by decide), if_pos rfl, hin.own]
    have e3 : Bin b s 3 x 2 = ar b s (x + x) := by
      unfold Bin
      rw [if_pos hb2, if_neg (by decide), if_neg (by decide), if_neg (by decide), if_neg (by decide), if_pos rfl, hin.own, h2]
      congr 1
      omega
    have e10 : Bin b s 10 x x = (0, true) := by
      unfold Bin
      rw [if_pos hb2, if_neg (by decide), if_neg (by decide), if_neg (by decide), if_neg (by decide), if_neg (by decide), if_neg (by decide), if_neg (by decide), if_neg (by decide), if_neg (by decide), if_pos rfl, xor_self0]
    have hr := wv_range b s (-1 - x)
    have ei : wv b s (-1 - wv b s (-1 - x)) = x := by
      have h1 := hin.i64
      rcases hb2 with rfl | rfl
      · cases s
        · have := hin.u32 rfl rfl
          rw [wv_32u, wv_32u]; omega
        · have := hin.s32 rfl rfl
          rw [wv_32s, wv_32s]; omega
      · rw [wv_64, wv_64]; unfold wrap64; unfold I64 at h1; omega
    rw [if_neg h32, e2, e1, e3, e10, invert_word b s x hin.i64, if_pos hb2]
    simp only [Option.bind_some]
    rw [invert_word b s _ hr, if_pos hb2, ei]
    simp
theorem pureWordTurns : spokeshavelaw1_WordTurns.Pure := by
  intro i k n hi hk hn
  refine ⟨4 + 5, ?_⟩
  unfold spokeshavelaw1_WordTurns.f
  rw [widths_eq, Option.bind_some, low_eq i 8 (i64_wf i hi) (by decide), low_eq k 8 (i64_wf k hk) (by decide), Option.bind_some, Option.bind_some]
  have i1 := Int.emod_lt_of_pos (uv i) (show (0 : Int) < 8 by decide)
  have i0 := Int.emod_nonneg (uv i) (show (8 : Int) ≠ 0 by decide)
  have k1 := Int.emod_lt_of_pos (uv k) (show (0 : Int) < 8 by decide)
  have k0 := Int.emod_nonneg (uv k) (show (8 : Int) ≠ 0 by decide)
  generalize uv i % 8 = p at *
  generalize uv k % 8 = q at *
  rw [if_pos i0, if_pos (show p < (ws8.length : Int) from i1), if_pos k0, if_pos (show q < (ws8.length : Int) from k1)]
  obtain ⟨b, s, ev, hb⟩ := ws8_at p i0 i1
  obtain ⟨c, t, ew, hc⟩ := ws8_at q k0 k1
  rw [ev, ew]
  simp only [wrap_word, Option.bind_some]
  by_cases h : b ≥ c
  · rw [if_pos h, wv_wv b c s t n hb hc h, bne_self_eq_false]
    exact turn_core 0 n (i64_wf n hn) c t hc
  · rw [if_neg h]
    exact turn_core 0 n (i64_wf n hn) c t hc
end Go.Proofs.YthkcdmkimnockaaDoor.PWord
namespace Go.Proofs.YthkcdmkimnockaaDoor.Pure
theorem WordTurns : PWord.spokeshavelaw1_WordTurns.Pure := PWord.pureWordTurns
end Go.Proofs.YthkcdmkimnockaaDoor.Pure
