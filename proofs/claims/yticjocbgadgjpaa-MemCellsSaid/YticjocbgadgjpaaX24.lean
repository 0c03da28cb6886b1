/- Executor, second make: steps over a memory that is listed. -/
import Derived.Test.YticjocbgadgjpaaX23
set_option linter.unusedVariables false
set_option linter.unusedSimpArgs false
set_option linter.constructorNameAsVariable false
set_option linter.unusedVariables false
set_option linter.unusedSimpArgs false
namespace Go.Xe
open Go.RowKit

/-- The memory, block by block. -/
structure Rep (S : St) (l : List (Option AO)) : Prop where
  next : S.next = l.length
  get : ∀ i, S.get (.new i) = (l[i]?).join
theorem rep0 : Rep S0 [] := ⟨rfl, fun i => by rw [S0_get]; simp⟩
theorem Rep.add {S l} (h : Rep S l) (ao : AO) : Rep (St.add S ao) (l ++ [some ao]) := by
  refine ⟨by show Nat.succ S.next = _; rw [h.next]; simp, fun i => ?_⟩
  show (S.H.set S.next (some ao)).get i = _
  rw [HM.get_set]
  have hg : S.H.get i = (l[i]?).join := h.get i
  by_cases e : i = S.next
  · subst e; rw [if_pos rfl, h.next]; simp
  · rw [if_neg e, hg]
    rw [h.next] at e
    by_cases hl : i < l.length
    · rw [List.getElem?_append_left hl]
    · have h1 : l.length ≤ i := by omega
      rw [List.getElem?_eq_none h1, List.getElem?_append_right h1]
      have : i - l.length ≠ 0 := by omega
      cases h2 : i - l.length with
      | zero => exact absurd h2 this
      | succ n => simp
theorem Rep.put {S l} (h : Rep S l) (k : Nat) (ao : Option AO) (hk : k < l.length) : Rep (St.put S k ao) (l.set k ao) := by
  refine ⟨by show S.next = _; rw [h.next]; simp, fun i => ?_⟩
  show (S.H.set k ao).get i = _
  rw [HM.get_set]
  have hg : S.H.get i = (l[i]?).join := h.get i
  by_cases e : i = k
  · subst e; rw [if_pos rfl]; simp [hk]
  · rw [if_neg e, hg, List.getElem?_set_ne (Ne.symm e)]
theorem Rep.look {S l} (h : Rep S l) {b : Nat} {ao : AO} (e : l[b]? = some (some ao)) : S.get (.new b) = some ao := by rw [h.get, e]; rfl
theorem Rep.len {l : List (Option AO)} {b : Nat} {x} (e : l[b]? = some x) : b < l.length := (List.getElem?_eq_some_iff.1 e).1
theorem Rep.at {S l} (h : Rep S l) {b o : Nat} {c op} {K : List SV → Prop} (e : l[b]? = some (some (.cells c op))) (k : K (c.drop o)) : St.at S (.new b) o K := by
  unfold St.at; rw [h.look e]; exact k
theorem Rep.wr {S l} (h : Rep S l) {b o : Nat} {c op new} {K : St → Prop} (e : l[b]? = some (some (.cells c op))) (hle : Nat.ble (o + new.length) c.length = true)
    (k : ∀ S', Rep S' (l.set b (some (.cells (c.take o ++ (new ++ c.drop (o + new.length))) op))) → K S') : St.wr S (.new b) o new K := by
  have hg : S.H.get b = some (.cells c op) := h.look e
  unfold St.wr
  dsimp only
  rw [hg]
  dsimp only
  rw [hle]
  exact k _ (h.put b _ (Rep.len e))
theorem Rep.mp {S l} (h : Rep S l) {b : Nat} {es clk} {K : List (V1 × V1 × Nat) → Prop} (e : l[b]? = some (some (.map es clk))) (k : K es) : St.mp S (.mk (.new b)) K := by
  unfold St.mp; dsimp only; rw [h.look e]; exact k
theorem Rep.lookup {P S l} (h : Rep S l) {kt z b k K} {es clk} (e : l[b]? = some (some (.map es clk))) {r} (hr : findA P kt k es 0 = some r) (hk : K ((r.map (·.2)).getD z) (r.map (·.2)).isSome) : St.lookup P S kt z (.mk (.new b)) k K := by
  unfold St.lookup
  dsimp only
  rw [h.look e]
  dsimp only
  refine h.mp e ?_
  show optK (findA P kt k es 0) _
  rw [hr]; exact hk
theorem Rep.lookupNil {P S kt z k K} (hr : findA P kt k [] 0 = some none) (hk : K z false) : St.lookup P S kt z .nil k K := by
  unfold St.lookup St.mp
  show optK (findA P kt k [] 0) _
  rw [hr]; exact hk
theorem Rep.mputNew {P S l} (h : Rep S l) {kt b k x} {K : St → Prop} {es clk} (e : l[b]? = some (some (.map es clk))) (hr : findA P kt k es 0 = some none)
    (hk : ∀ S', Rep S' (l.set b (some (.map (es ++ [(k, x, clk)]) (clk + 1)))) → K S') : St.mput P S kt (.mk (.new b)) k x K := by
  have hg : S.H.get b = some (.map es clk) := h.look e
  unfold St.mput
  dsimp only
  rw [hg]
  show optK (findA P kt k es 0) _
  rw [hr]
  exact hk _ (h.put b _ (Rep.len e))
theorem Rep.mputOld {P S l} (h : Rep S l) {kt b k x} {K : St → Prop} {es clk j y} (e : l[b]? = some (some (.map es clk))) (hr : findA P kt k es 0 = some (some (j, y))) (hkey : keyAt es j k = true)
    (hk : ∀ S', Rep S' (l.set b (some (.map (es.set j (k, x, (es.getD j (k, x, 0)).2.2)) clk))) → K S') : St.mput P S kt (.mk (.new b)) k x K := by
  have hg : S.H.get b = some (.map es clk) := h.look e
  unfold St.mput
  dsimp only
  rw [hg]
  show optK (findA P kt k es 0) _
  rw [hr]
  show req (keyAt es j k) _
  rw [hkey]
  exact hk _ (h.put b _ (Rep.len e))
theorem Rep.mdel {P S l} (h : Rep S l) {kt b k} {K : St → Prop} {es clk r} (e : l[b]? = some (some (.map es clk))) (hr : findA P kt k es 0 = some r)
    (hk : ∀ S', Rep S' (l.set b (some (.map (match r with | some (j, _) => es.eraseIdx j | none => es) clk))) → K S') : St.mdel P S kt (.mk (.new b)) k K := by
  have hg : S.H.get b = some (.map es clk) := h.look e
  unfold St.mdel
  dsimp only
  rw [hg]
  show optK (findA P kt k es 0) _
  rw [hr]
  cases r <;> exact hk _ (h.put b _ (Rep.len e))

/- Steps without memory. -/
theorem ifK_i {c : Bool} {x y : Prop} (h1 : c = true → x) (h2 : c = false → y) : ifK c x y := by cases c; exact h2 rfl; exact h1 rfl
theorem ifK_t {c : Bool} {x y : Prop} (h : c = true) (h1 : x) : ifK c x y := by subst h; exact h1
theorem ifK_f {c : Bool} {x y : Prop} (h : c = false) (h1 : y) : ifK c x y := by subst h; exact h1
theorem req_i {c : Bool} {x : Prop} (h : c = true) (h1 : x) : req c x := by subst h; exact h1
theorem cI_i {k n} {K : Int → Prop} (h : K n) : SV.cI k (.int k n) K := by simp only [SV.cI, decide_true]; exact h
theorem cB_i {n} {K : Bool → Prop} (h : K n) : SV.cB (.bool n) K := h
theorem cS_i {n} {K : List Nat → Prop} (h : K n) : SV.cS (.str n) K := h
theorem cP_i {n} {K : PV → Prop} (h : K n) : SV.cP (.ptr n) K := h
theorem cL_i {n} {K : LV → Prop} (h : K n) : SV.cL (.sl n) K := h
theorem cM_i {n} {K : MV → Prop} (h : K n) : SV.cM (.map n) K := h
theorem cF_i {n} {K : FV → Prop} (h : K n) : SV.cF (.fn n) K := h
theorem uncK_i {a r} {K : SV → List SV → Prop} (h : K a r) : uncK (a :: r) K := h
theorem uncV_i {a r} {K : V1 → List V1 → Prop} (h : K a r) : uncV (a :: r) K := h
theorem endL_i {α : Type} {K : Prop} (h : K) : endL ([] : List α) K := h
theorem scK_i {x} {K : SV → Prop} (h : K x) : scK (.one (.s x)) K := h
theorem avT_i {x} {K : List V1 → Prop} (h : K x) : avT (.tup x) K := h
theorem avA_i {x} {K : List SV → Prop} (h : K x) : avA (.one (.agg x)) K := h
theorem v1S_i {x} {K : SV → Prop} (h : K x) : v1S (.s x) K := h
theorem v1A_i {x} {K : List SV → Prop} (h : K x) : v1A (.agg x) K := h
theorem optK_i {α : Type} {x : Option α} {y : α} {K : α → Prop} (e : x = some y) (h : K y) : optK x K := by subst e; exact h
theorem pvcs_i {b o} {K : Bk → Nat → Prop} (h : K b o) : PV.cs (.mk b o) K := h
theorem lvcs_i {b o n c} {K : Bk → Nat → Nat → Nat ⊕ Nat → Prop} (h : K b o n c) : LV.cs (.mk b o n c) K := h
end Go.Xe
