/- Executor, second make: steps over a memory that is listed. -/
import Derived.Test.YtgjggcgdilahdaaX23
set_option linter.unusedVariables false
set_option linter.unusedSimpArgs false
set_option linter.constructorNameAsVariable false
set_option linter.unusedVariables false
set_option linter.unusedSimpArgs false
namespace Go.Xe
open Go.RowKit

/-- The memory, block by block. -/
structure Rep (S : St) (l : List (Option AO)) : Prop where
  next : S.next = l.length
  get : ∀ i, S.get (.new i) = (l[i]?).join
theorem Rep.add {S l} (h : Rep S l) (ao : AO) : Rep (St.add S ao) (l ++ [some ao]) := by
  refine ⟨by show Nat.succ S.next = _; rw [h.next]; simp, fun i => ?_⟩
  show (S.H.set S.next (some ao)).get i = _
  rw [HM.get_set]
  have hg : S.H.get i = (l[i]?).join := h.get i
  by_cases e : i = S.next
  · subst e; rw [if_pos rfl, h.next]; simp
  · rw [if_neg e, hg]
    rw [h.next] at e
    by_cases hl : i < l.length
    · rw [List.getElem?_append_left hl]
    · have h1 : l.length ≤ i := by omega
      rw [List.getElem?_eq_none h1, List.getElem?_append_right h1]
      have : i - l.length ≠ 0 := by omega
      cases h2 : i - l.length with
      | zero => exact absurd h2 this
      | succ n => simp
theorem Rep.put {S l} (h : Rep S l) (k : Nat) (ao : Option AO) (hk : k < l.length) : Rep (St.put S k ao) (l.set k ao) := by
  refine ⟨by show S.next = _; rw [h.next]; simp, fun i => ?_⟩
  show (S.H.set k ao).get i = _
  rw [HM.get_set]
  have hg : S.H.get i = (l[i]?).join := h.get i
  by_cases e : i = k
  · subst e; rw [if_pos rfl]; simp [hk]
  · rw [if_neg e, hg, List.getElem?_set_ne (Ne.symm e)]
theorem Rep.look {S l} (h : Rep S l) {b : Nat} {ao : AO} (e : l[b]? = some (some ao)) : S.get (.new b) = some ao := by rw [h.get, e]; rfl
theorem Rep.len {l : List (Option AO)} {b : Nat} {x} (e : l[b]? = some x) : b < l.length := (List.getElem?_eq_some_iff.1 e).1
theorem Rep.at {S l} (h : Rep S l) {b o : Nat} {c op} {K : List SV → Prop} (e : l[b]? = some (some (.cells c op))) (k : K (c.drop o)) : St.at S (.new b) o K := by
  unfold St.at; rw [h.look e]; exact k
theorem Rep.wr {S l} (h : Rep S l) {b o : Nat} {c op new} {K : St → Prop} (e : l[b]? = some (some (.cells c op))) (hle : Nat.ble (o + new.length) c.length = true)
    (k : ∀ S', Rep S' (l.set b (some (.cells (c.take o ++ (new ++ c.drop (o + new.length))) op))) → K S') : St.wr S (.new b) o new K := by
  have hg : S.H.get b = some (.cells c op) := h.look e
  unfold St.wr
  dsimp only
  rw [hg]
  dsimp only
  rw [hle]
  exact k _ (h.put b _ (Rep.len e))
theorem Rep.mp {S l} (h : Rep S l) {b : Nat} {es clk} {K : List (V1 × V1 × Nat) → Prop} (e : l[b]? = some (some (.map es clk))) (k : K es) : St.mp S (.mk (.new b)) K := by
  unfold St.mp; dsimp only; rw [h.look e]; exact k
theorem Rep.lookup {P S l} (h : Rep S l) {kt z b k K} {es clk} (e : l[b]? = some (some (.map es clk))) {r} (hr : findA P kt k es 0 = some r) (hk : K ((r.map (·.2)).getD z) (r.map (·.2)).isSome) : St.lookup P S kt z (.mk (.new b)) k K := by
  unfold St.lookup
  dsimp only
  rw [h.look e]
  dsimp only
  refine h.mp e ?_
  show optK (findA P kt k es 0) _
  rw [hr]; exact hk
theorem Rep.mdel {P S l} (h : Rep S l) {kt b k} {K : St → Prop} {es clk r} (e : l[b]? = some (some (.map es clk))) (hr : findA P kt k es 0 = some r)
    (hk : ∀ S', Rep S' (l.set b (some (.map (match r with | some (j, _) => es.eraseIdx j | none => es) clk))) → K S') : St.mdel P S kt (.mk (.new b)) k K := by
  have hg : S.H.get b = some (.map es clk) := h.look e
  unfold St.mdel
  dsimp only
  rw [hg]
  show optK (findA P kt k es 0) _
  rw [hr]
  cases r <;> exact hk _ (h.put b _ (Rep.len e))

/- Steps without memory. -/
theorem ifK_t {c : Bool} {x y : Prop} (h : c = true) (h1 : x) : ifK c x y := by subst h; exact h1
theorem ifK_f {c : Bool} {x y : Prop} (h : c = false) (h1 : y) : ifK c x y := by subst h; exact h1
theorem req_i {c : Bool} {x : Prop} (h : c = true) (h1 : x) : req c x := by subst h; exact h1
theorem cI_i {k n} {K : Int → Prop} (h : K n) : SV.cI k (.int k n) K := by simp only [SV.cI, decide_true]; exact h
end Go.Xe
