/- the order's moves, one behind the other, in plain words. -/
import Derived.Test.YtodnbclphjgofaaMovRings
import Derived.Test.YtodnbclphjgofaaPMovOr
namespace Go.Proofs.Ytodnbclphjgofaa.PMov
open Go Go.RowKit Go.Proofs.YtodnbclphjgofaaW.PrintWords
set_option linter.unusedVariables false
set_option linter.unusedSimpArgs false
/-! ### moves done one behind the other -/
def upd (σ : Int → Int) (p v : Int) : Int → Int := fun q => if q = p then v else σ q
def run (σ : Int → Int) : List S32 → Int → Int
 | [] => σ
 | m :: r => run (upd σ m.f0 (σ m.f1)) r
theorem run_other : ∀ (l : List S32) (σ : Int → Int) (p : Int), (∀ m ∈ l, m.f0 ≠ p) → run σ l p = σ p
 | [], _, _, _ => rfl
 | m :: r, σ, p, h => by
  rw [run, run_other r _ p (fun z hz => h z (List.mem_cons_of_mem _ hz)), upd, if_neg (fun e => h m (List.mem_cons_self ..) e.symm)]
theorem freeIdx_some : ∀ (all r : List S32) (n j : Nat), freeIdx all r n = some j → ∃ d, ∃ hd : d < r.length, j = n + d ∧ readB all r[d].f0 = false
 | _, [], _, _, h => by simp [freeIdx] at h
 | all, m :: r, n, j, h => by
  rw [freeIdx] at h
  split at h
  · obtain ⟨d, hd, e, hr⟩ := freeIdx_some all r _ _ h
    exact ⟨d + 1, by simp only [List.length_cons]; omega, by omega, by simpa using hr⟩
  · rename_i hb
    injection h with h
    exact ⟨0, by simp, by omega, by simpa using hb⟩
theorem freeIdx_none : ∀ (all r : List S32) (n : Nat), freeIdx all r n = none → ∀ m ∈ r, readB all m.f0 = true
 | _, [], _, _, m, hm => by simp at hm
 | all, z :: r, n, h, m, hm => by
  rw [freeIdx] at h
  split at h
  · rename_i hb
    rcases List.mem_cons.1 hm with rfl | hm'
    · exact hb
    · exact freeIdx_none all r _ h m hm'
  · cases h
theorem readB_false {xs : List S32} {p : Int} (h : readB xs p = false) : ∀ m ∈ xs, m.f1 ≠ p := by
 intro m hm e
 unfold readB at h
 rw [List.any_eq_false] at h
 exact h m hm (by simp [e])
theorem readB_true {xs : List S32} {p : Int} (h : readB xs p = true) : ∃ m ∈ xs, m.f1 = p := by
 unfold readB at h
 rw [List.any_eq_true] at h
 obtain ⟨m, hm, e⟩ := h
 exact ⟨m, hm, by simpa using e⟩
theorem mem_erase_of {left : List S32} {i : Nat} (hi : i < left.length) (hnd : (left.map S32.f0).Nodup) {m : S32} (hm : m ∈ left) : m = left[i] ∨ m ∈ left.eraseIdx i := by
 obtain ⟨q, hq, rfl⟩ := List.getElem_of_mem hm
 by_cases e : q = i
 · subst e; exact .inl rfl
 · exact .inr (List.mem_eraseIdx_iff_getElem.2 ⟨q, by omega, by omega, rfl⟩)
theorem not_in_erase {left : List S32} {i : Nat} (hi : i < left.length) (hnd : (left.map S32.f0).Nodup) : ∀ m ∈ left.eraseIdx i, m.f0 ≠ left[i].f0 := by
 intro m hm e
 obtain ⟨q, hq, hqi, rfl⟩ := List.mem_eraseIdx_iff_getElem.1 hm
 rw [List.Nodup, List.pairwise_iff_getElem] at hnd
 rcases Nat.lt_or_gt_of_ne (show q ≠ i by omega) with hlt | hlt
 · have := hnd q i (by simpa using by omega) (by simpa using hi) hlt
   simp at this
   exact this e
 · have := hnd i q (by simpa using hi) (by simpa using by omega) hlt
   simp at this
   exact this e.symm
theorem orderL_spec (sp : Int) : ∀ (N : Nat) (left out : List S32), Okay left sp → left.length + rings left ≤ N → out.length + N < 8796093022208 →
  ∃ out', (∀ k, N < k → orderL k left out sp = some (out ++ out')) ∧ out'.length ≤ left.length + rings left ∧ (∀ m ∈ out', m.f0 ≠ m.f1) ∧
   (∀ m ∈ out', m.f0 = sp ∨ ∃ z ∈ left, z.f0 = m.f0) ∧ ∀ σ, ∀ m ∈ left, run σ out' m.f0 = σ m.f1 := by
 intro N
 induction N with
 | zero =>
  intro left out h hl ho
  have : left = [] := List.eq_nil_of_length_eq_zero (by omega)
  subst this
  refine ⟨[], fun k hk => ?_, Nat.zero_le _, by simp, by simp, by simp⟩
  obtain ⟨k, rfl⟩ : ∃ m, k = m + 1 := ⟨k - 1, by omega⟩
  simp [orderL]
 | succ N ih =>
  intro left out h hl ho
  cases left with
  | nil =>
   refine ⟨[], fun k hk => ?_, Nat.zero_le _, by simp, by simp, by simp⟩
   obtain ⟨k, rfl⟩ : ∃ m, k = m + 1 := ⟨k - 1, by omega⟩
   simp [orderL]
  | cons m0 r =>
   have hor : ∀ k out, orderL (k + 1) (m0 :: r) out sp = if out.length < 8796093022208 then (match freeIdx (m0 :: r) (m0 :: r) 0 with
     | some i => orderL k ((m0 :: r).eraseIdx i) (out ++ [(m0 :: r).getD i z32]) sp
     | none => orderL k (renam (m0 :: r) m0.f0 sp) (out ++ [⟨sp, m0.f0⟩]) sp) else none := fun _ _ => rfl
   have h0 : m0 ∈ m0 :: r := List.mem_cons_self ..
   generalize m0 :: r = left at *
   cases hf : freeIdx left left 0 with
   | some i =>
    obtain ⟨d, hd, e, hr⟩ := freeIdx_some _ _ _ _ hf
    obtain rfl : i = d := by omega
    have hlen : (left.eraseIdx i).length = left.length - 1 := List.length_eraseIdx_of_lt hd
    have hrg := rings_erase h i
    obtain ⟨out', h1, h2, h3, h4, h5⟩ := ih (left.eraseIdx i) (out ++ [left[i]]) (h.erase i) (by omega) (by rw [List.length_append, List.length_singleton]; omega)
    refine ⟨left[i] :: out', fun k hk => ?_, by rw [List.length_cons]; omega, ?_, ?_, ?_⟩
    · obtain ⟨k, rfl⟩ : ∃ m, k = m + 1 := ⟨k - 1, by omega⟩
      have := h1 k (by omega)
      rw [hor, if_pos (by omega)]
      simp only [hf]
      rw [show left.getD i z32 = left[i] by simp [List.getD, List.getElem?_eq_getElem hd], this]
      simp
    · intro m hm
      rcases List.mem_cons.1 hm with rfl | hm'
      · exact (h.el _ (List.getElem_mem hd)).2.2.1
      · exact h3 m hm'
    · intro m hm
      rcases List.mem_cons.1 hm with rfl | hm'
      · exact .inr ⟨_, List.getElem_mem hd, rfl⟩
      · rcases h4 m hm' with e | ⟨z, hz, e⟩
        · exact .inl e
        · exact .inr ⟨z, List.mem_of_mem_eraseIdx hz, e⟩
    · intro σ m hm
      rw [run]
      rcases mem_erase_of hd h.nd hm with rfl | hm'
      · rw [run_other _ _ _ (fun z hz e => ?_), upd, if_pos rfl]
        rcases h4 z hz with e' | ⟨y, hy, e'⟩
        · exact (h.el _ (List.getElem_mem hd)).2.2.2 (by rw [← e, e'])
        · exact not_in_erase hd h.nd y hy (by rw [e', e])
      · rw [h5 _ m hm', upd, if_neg (readB_false hr m hm)]
   | none =>
    have hst : Stuck left := fun m hm => readB_true (freeIdx_none _ _ _ hf m hm)
    have hrg := rings_renam h hst h0
    have hlen : (renam left m0.f0 sp).length = left.length := by rw [renam_eq, List.length_map]
    obtain ⟨out', h1, h2, h3, h4, h5⟩ := ih (renam left m0.f0 sp) (out ++ [⟨sp, m0.f0⟩]) h.renam (by omega) (by rw [List.length_append, List.length_singleton]; omega)
    refine ⟨⟨sp, m0.f0⟩ :: out', fun k hk => ?_, by rw [List.length_cons]; omega, ?_, ?_, ?_⟩
    · obtain ⟨k, rfl⟩ : ∃ m, k = m + 1 := ⟨k - 1, by omega⟩
      have := h1 k (by omega)
      rw [hor, if_pos (by omega)]
      simp only [hf]
      rw [this]
      simp
    · intro m hm
      rcases List.mem_cons.1 hm with rfl | hm'
      · exact (h.el _ h0).2.2.2.symm
      · exact h3 m hm'
    · intro m hm
      rcases List.mem_cons.1 hm with rfl | hm'
      · exact .inl rfl
      · rcases h4 m hm' with e | ⟨z, hz, e⟩
        · exact .inl e
        · rw [renam_eq] at hz
          obtain ⟨y, hy, rfl⟩ := List.mem_map.1 hz
          exact .inr ⟨y, hy, by rw [← e, ren_f0]⟩
    · intro σ m hm
      rw [run]
      have := h5 (upd σ sp (σ m0.f0)) (ren m0.f0 sp m) (by rw [renam_eq]; exact List.mem_map.2 ⟨m, hm, rfl⟩)
      rw [ren_f0, ren_f1] at this
      show run (upd σ sp (σ m0.f0)) out' m.f0 = _
      rw [this]
      by_cases e : m.f1 = m0.f0
      · rw [if_pos e, upd, if_pos rfl, e]
      · rw [if_neg e, upd, if_neg (stuck_ne h hst hm)]
end Go.Proofs.Ytodnbclphjgofaa.PMov
