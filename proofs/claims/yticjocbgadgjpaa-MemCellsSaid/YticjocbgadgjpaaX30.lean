/- Executor: a slice of numbers that came in. -/
import Derived.Test.YticjocbgadgjpaaX29
import Derived.ChangeSlices
import Derived.WideShapes
set_option linter.unusedVariables false
set_option linter.unusedSimpArgs false
set_option linter.constructorNameAsVariable false
set_option linter.unusedVariables false
set_option linter.unusedSimpArgs false
namespace Go.Xe
open Go.RowKit
/-- Cells of a block, cut at a place. -/
theorem cells_cut' {c : Array Value} {off : Nat} {vs : List Value} (hn : vs ≠ []) (h : ∀ i, i < vs.length → c[off + i]? = vs[i]?) :
    ∃ pre post : List Value, c = (pre ++ (vs ++ post)).toArray ∧ pre.length = off := by
  have hpos : 0 < vs.length := List.length_pos_iff.2 hn
  have hlast : off + (vs.length - 1) < c.size := by
    have := h (vs.length - 1) (by omega)
    rw [List.getElem?_eq_getElem (show vs.length - 1 < vs.length by omega)] at this
    exact (Array.getElem?_eq_some_iff.1 this).1
  refine ⟨c.toList.take off, c.toList.drop (off + vs.length), ?_, by rw [List.length_take, Array.length_toList]; omega⟩
  have e : vs = (c.toList.drop off).take vs.length := by
    apply List.ext_getElem?
    intro i
    by_cases hi : i < vs.length
    · rw [List.getElem?_take_of_lt hi, List.getElem?_drop, ← h i hi]; simp
    · rw [List.getElem?_eq_none (by omega), List.getElem?_eq_none (by rw [List.length_take]; omega)]
  have e2 : vs ++ c.toList.drop (off + vs.length) = c.toList.drop off := by
    conv => lhs; lhs; rw [e]
    rw [← List.drop_drop, List.take_append_drop]
  rw [e2, List.take_append_drop]
theorem okSlice {P : Program} {w : World} {r : Reach} {base : Nat} {t e : TypeId} {v : Value} (ht : P.underlying t = some (.slice e)) (h : Value.okWide P w r base t v) : ∃ a len cap, v = .slice a len cap ∧ ∀ x, a = some x → x.spot = none := by
  obtain ⟨a, len, cap, rfl⟩ := WideShapes.okWide_slice ht h
  refine ⟨a, len, cap, rfl, ?_⟩
  rintro x rfl
  simp only [Value.okWide, ht, Cell.okWide, Cell.ok] at h
  exact h.2.2.2.1
/-- A slice of numbers that came in. -/
def InsL (i : Nat → Option AO) (l1 : LV) (xs : List Int) : Prop := LV.len l1 = xs.length ∧ ∀ j x, xs[j]? = some x → ∃ r o n cc c op rest, l1 = .mk (.inp r) o n cc ∧ j < n ∧ i r = some (.cells c op) ∧ c.drop (o + j) = .int .i64 x :: rest
def intsI (xs : List Int) (r : Nat) : Option AO := if r = 1000 ∧ xs ≠ [] then some (.cells (xs.map (.int .i64)) .gro) else none
theorem intsI_in (xs : List Int) (cc) : InsL (intsI xs) (.mk (.inp 1000) 0 xs.length cc) xs := by
  refine ⟨rfl, fun j x hj => ⟨1000, 0, xs.length, cc, xs.map (.int .i64), .gro, (xs.map (.int .i64)).drop (j + 1), rfl, (List.getElem?_eq_some_iff.1 hj).1, ?_, ?_⟩⟩
  · unfold intsI
    rw [if_pos ⟨rfl, by rintro rfl; simp at hj⟩]
  · have hlt := (List.getElem?_eq_some_iff.1 hj).1
    rw [Nat.zero_add, List.drop_eq_getElem_cons (by simpa using hlt)]
    congr 1
    rw [List.getElem_map, (List.getElem?_eq_some_iff.1 hj).2]
def qI (x : Nat × Nat × Nat) (r : Nat) : Option (Nat × Nat × Nat) := if r = 1000 then some x else some (r, 0, 0)
theorem qI_low (x) (g : Nat) (hg : Nat.blt g 1000 = true) : ∃ mm, qI x g = some (g, 0, mm) := ⟨0, by unfold qI; rw [if_neg]; rw [blt_iff] at hg; omega⟩
theorem qI_it (x) : ρI (qI x) (.inp 1000) = some x := rfl
theorem ints_in {W : World} {a : Addr} {len cap : Nat} {zs : List Int} (hsp : a.spot = none) (hl : len ≤ cap) (hz : len ≤ zs.length) (hcell : ∀ i, i < zs.length → W.cell? (a.add i) = some (.int .i64 (zs.getD i 0))) :
    ∃ q : Nat → Option (Nat × Nat × Nat), SR (ρI q) (.sl (.mk (.inp 1000) 0 (zs.take len).length (.inl cap))) (.slice (some a) len cap) ∧ (∀ g, Nat.blt g 1000 = true → ∃ mm, q g = some (g, 0, mm)) ∧ ∀ r ao, intsI (zs.take len) r = some ao → ∃ x sh mm, q r = some (x, sh, mm) ∧ OR (ρI q) ao sh mm ((W.heap[x]?).map thaw) := by
  have hlen : (zs.take len).length = len := by rw [List.length_take]; omega
  obtain ⟨b, off, sp⟩ := a
  simp only at hsp
  subst hsp
  have haddr : ∀ i, (⟨b, off, none⟩ : Addr).add i = ⟨b, off + i, none⟩ := fun i => by unfold Addr.add; split <;> simp_all
  by_cases h0 : zs.take len = []
  · have : len = 0 := by rw [← hlen, h0]; rfl
    subst this
    refine ⟨qI (b, off, 0), ⟨b, off, 0, cap, off, qI_it _, by simp, fun _ => rfl, Nat.zero_le _, fun k hk => by cases hk; rfl, fun e he => by cases he⟩, qI_low _, ?_⟩
    intro r ao hr
    unfold intsI at hr
    rw [if_neg (by simp)] at hr
    cases hr
  · have hpos : 0 < len := by
      rw [← hlen]; exact List.length_pos_iff.2 h0
    have hc0 := hcell 0 (by omega)
    obtain ⟨c, ty, fz, hb⟩ : ∃ c ty fz, W.heap[b]? = some (.cells c ty fz) := by
      rw [haddr] at hc0
      unfold World.cell? at hc0
      split at hc0
      · rename_i c ty fz hh
        exact ⟨c, ty, fz, hh⟩
      · cases hc0
    have hget : ∀ i, i < zs.length → c[off + i]? = some (.int .i64 (zs.getD i 0)) := fun i hi => by
      have h1 := hcell i hi
      rw [haddr] at h1
      unfold World.cell? at h1
      rw [hb] at h1
      simpa using h1
    obtain ⟨pre, post, e1, e2⟩ := cells_cut' (c := c) (off := off) (vs := (zs.take len).map (.int .i64)) (by simpa using h0) (fun i hi => by
      have hi' : i < len := by rw [List.length_map, hlen] at hi; exact hi
      rw [hget i (by omega), List.getElem?_map, List.getElem?_take_of_lt hi', List.getElem?_eq_getElem (by omega : i < zs.length)]
      simp [List.getD_eq_getElem?_getD, List.getElem?_eq_getElem (by omega : i < zs.length)])
    refine ⟨qI (b, off, len + post.length), ⟨b, off, len + post.length, cap, off, qI_it _, by rw [hlen], fun _ => rfl, by omega, fun k hk => by cases hk; rfl, fun e he => by cases he⟩, qI_low _, ?_⟩
    intro r ao hr
    unfold intsI at hr
    split at hr
    · rename_i hh
      obtain ⟨rfl, _⟩ := hh
      cases hr
      refine ⟨b, off, _, qI_it _, pre, (zs.take len).map (.int .i64), post, ty, ?_, e2, ?_, by rw [List.length_map, hlen], (fun h => by cases h), (fun tg h => by rcases h with h | h <;> cases h)⟩
      · rw [hb, e1]; rfl
      · have : ∀ l : List Int, All2 (SR (ρI (qI (b, off, len + post.length)))) (l.map (.int .i64)) (l.map (.int .i64)) := by
          intro l
          induction l with
          | nil => exact .nil
          | cons x l ih => exact .cons rfl ih
        exact this _
    · cases hr
end Go.Xe
