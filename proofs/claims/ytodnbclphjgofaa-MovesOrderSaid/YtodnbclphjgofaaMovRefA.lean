/- the document's May, Free, in plain words. -/
import Derived.Test.YtodnbclphjgofaaMovOrdL
import Derived.Test.YtodnbclphjgofaaPureMovesRings
namespace Go.Proofs.Ytodnbclphjgofaa.PMov
open Go Go.RowKit Go.Proofs.YtodnbclphjgofaaW.PrintWords
set_option linter.unusedVariables false
set_option linter.unusedSimpArgs false
/-! ### rounds enough -/
def Ev {α : Type} (g : Nat → Option α) (r : α) : Prop := ∃ K, ∀ k, K ≤ k → g k = some r
theorem Ev.step {α : Type} {g : Nat → Option α} {r : α} (h : Ev (fun k => g (k + 1)) r) : Ev g r := by
 obtain ⟨K, h⟩ := h
 refine ⟨K + 1, fun k hk => ?_⟩
 obtain ⟨k, rfl⟩ : ∃ m, k = m + 1 := ⟨k - 1, by omega⟩
 exact h k (by omega)
theorem Ev.ret {α : Type} (r : α) : Ev (fun _ => some r) r := ⟨0, fun _ _ => rfl⟩
theorem Ev.bind {α β : Type} {g : Nat → Option α} {f : Nat → α → Option β} {a : α} {r : β} (h : Ev g a) (h' : Ev (fun k => f k a) r) : Ev (fun k => (g k).bind (f k)) r := by
 obtain ⟨K, h⟩ := h
 obtain ⟨K', h'⟩ := h'
 exact ⟨K + K', fun k hk => by show (g k).bind (f k) = _; rw [h k (by omega)]; exact h' k (by omega)⟩
theorem w1 (i : Nat) (h : i < 9223372036854775807) : wrap64 ((i : Int) + 1) = ((i + 1 : Nat) : Int) := by unfold wrap64; omega
/-! ### the document's answer, in plain words -/
def cv (m : S32) : S36 := ⟨m.f0, m.f1⟩
theorem rd36 (l : List S36) (i : Nat) (h : i < l.length) : rd_T36 l (i : Int) = l[i] := by simp [rd_T36, List.getD, List.getElem?_eq_getElem h]
theorem rd32 (l : List S32) (i : Nat) (h : i < l.length) : rd_T32 l (i : Int) = l[i] := by simp [rd_T32, List.getD, List.getElem?_eq_getElem h]
theorem of_ev (l : List S32) (hl : l.length < 8796093022208) : Ev (fun k => spokeshavelaw21_of.f k l) (l.map cv) := by
 have : ∀ d i, l.length - i = d → i ≤ l.length → Ev (fun k => spokeshavelaw21_of.l0 k l ((l.take i).map cv) (i : Int)) (l.map cv) := by
  intro d
  induction d with
  | zero =>
   intro i hd hi
   refine Ev.step ?_
   have : i = l.length := by omega
   subst this
   simp only [spokeshavelaw21_of.l0, if_neg (Int.lt_irrefl _), List.take_length]
   exact Ev.ret _
  | succ d ih =>
   intro i hd hi
   refine Ev.step ?_
   have hlt : i < l.length := by omega
   have e : (l.take i).map cv ++ [(⟨(rd_T32 l (i : Int)).f0, (rd_T32 l (i : Int)).f1⟩ : S36)] = (l.take (i + 1)).map cv := by
    rw [List.take_succ_eq_append_getElem hlt, List.map_append, rd32 l i hlt]; rfl
   have hll : ((l.take i).map cv).length < 8796093022208 := by rw [List.length_map, List.length_take]; omega
   simp only [spokeshavelaw21_of.l0, if_pos (show (i : Int) < (l.length : Int) by omega), if_pos (show (0 : Int) ≤ (i : Int) by omega), if_pos hll, e, w1 i (by omega)]
   exact ih (i + 1) (by omega) (by omega)
 exact this l.length 0 (by omega) (by omega)
theorem seen_any (l : List S32) (i : Nat) (x : Int) : (((l.take i).map S32.f0).reverse).contains x = (l.take i).any fun m => m.f0 == x := by
 rw [Bool.eq_iff_iff, List.contains_iff_mem, List.mem_reverse, List.any_eq_true]
 simp only [List.mem_map, beq_iff_eq]
/-- The document's 'may' is the program's. -/
theorem may_ev (l : List S32) (hl : l.length < 8796093022208) : Ev (fun k => spokeshaveref21_May.f k (l.map cv)) (mayL l [] && decide (l.length ≤ 64)) := by
 have hln : (l.map cv).length = l.length := List.length_map ..
 have hrd : ∀ (i : Nat) (h : i < l.length), rd_T36 (l.map cv) (i : Int) = cv l[i] := fun i h => by rw [rd36 _ i (by omega), List.getElem_map]
 have main : ∀ d i, l.length - i = d → i ≤ l.length → Ev (fun k => spokeshaveref21_May.l0 k (l.map cv) (i : Int)) (mayL (l.drop i) ((l.take i).map S32.f0).reverse && decide (l.length ≤ 64)) := by
  intro d
  induction d with
  | zero =>
   intro i hd hi
   refine Ev.step ?_
   have : i = l.length := by omega
   subst this
   simp only [spokeshaveref21_May.l0, hln, if_neg (Int.lt_irrefl _), List.drop_length, mayL, Bool.true_and]
   have : decide ((l.length : Int) ≤ 64) = decide (l.length ≤ 64) := by rw [Bool.eq_iff_iff, decide_eq_true_iff, decide_eq_true_iff]; omega
   rw [this]
   exact Ev.ret _
  | succ d ih =>
   intro i hd hi
   have hlt : i < l.length := by omega
   have hM := mayL_drop l i hlt ((l.take i).map S32.f0).reverse
   rw [rd32 l i hlt] at hM
   have hS := seen_succ l i hlt
   rw [rd32 l i hlt] at hS
   rw [hM]
   refine Ev.step ?_
   simp only [spokeshaveref21_May.l0, hln, if_pos (show (i : Int) < (l.length : Int) by omega), if_pos (show (0 : Int) ≤ (i : Int) by omega), hrd i hlt]
   have inner : ∀ e j, i - j = e → j ≤ i → (((l.take j).any fun m => m.f0 == l[i].f0) = false) →
     Ev (fun k => spokeshaveref21_May.l1 k (l.map cv) (i : Int) (j : Int)) ((if (((l.take i).map S32.f0).reverse).contains l[i].f0 = true then false else mayL (l.drop (i + 1)) (l[i].f0 :: ((l.take i).map S32.f0).reverse)) && decide (l.length ≤ 64)) := by
    intro e
    induction e with
    | zero =>
     intro j he hj hno
     obtain rfl : j = i := by omega
     refine Ev.step ?_
     simp only [spokeshaveref21_May.l1, if_neg (Int.lt_irrefl _), w1 j (by omega)]
     rw [seen_any, hno]
     rw [← hS]
     exact ih (j + 1) (by omega) (by omega)
    | succ e ih2 =>
     intro j he hj hno
     refine Ev.step ?_
     simp only [spokeshaveref21_May.l1, hln, if_pos (show (j : Int) < (i : Int) by omega), if_pos (show (0 : Int) ≤ (j : Int) by omega), if_pos (show (j : Int) < (l.length : Int) by omega), if_pos (show (0 : Int) ≤ (i : Int) by omega), if_pos (show (i : Int) < (l.length : Int) by omega), hrd i hlt, hrd j (by omega), w1 j (by omega)]
     by_cases c : (cv l[j]).f0 = (cv l[i]).f0
     · simp only [if_pos c]
       have : ((l.take i).any fun m => m.f0 == l[i].f0) = true := by
        rw [List.any_eq_true]
        exact ⟨l[j], List.mem_take_iff_getElem.2 ⟨j, by omega, rfl⟩, by simpa [cv] using c⟩
       rw [seen_any, this, if_pos rfl]
       exact Ev.ret _
     · simp only [if_neg c]
       refine ih2 (j + 1) (by omega) (by omega) ?_
       rw [List.take_succ_eq_append_getElem (by omega), List.any_append, hno]
       simpa [cv] using c
   by_cases c0 : l[i].f0 < 0
   · simp only [if_pos (show (cv l[i]).f0 < 0 from c0), if_pos c0]
     refine Ev.step ?_
     simp only [spokeshaveref21_May.j1, if_true]
     exact Ev.ret _
   · simp only [if_neg (show ¬ (cv l[i]).f0 < 0 from c0), if_neg c0]
     by_cases c1 : l[i].f1 < 0
     · simp only [if_pos c1]
       refine Ev.step ?_
       simp only [spokeshaveref21_May.j1, if_pos (decide_eq_true (show (cv l[i]).f1 < 0 from c1))]
       exact Ev.ret _
     · simp only [if_neg c1]
       refine Ev.step ?_
       simp only [spokeshaveref21_May.j1, if_neg (show ¬ decide ((cv l[i]).f1 < 0) = true from fun h => c1 (of_decide_eq_true h))]
       exact inner i 0 (by omega) (by omega) (by simp)
 have := main l.length 0 (by omega) (by omega)
 unfold spokeshaveref21_May.f
 simpa using this
theorem free_ev (l : List S32) (sp : Int) (hl : l.length < 8796093022208) : Ev (fun k => spokeshaveref21_Free.f k (l.map cv) sp) (!(l.any (hits sp)) && decide (0 ≤ sp)) := by
 have hln : (l.map cv).length = l.length := List.length_map ..
 have hrd : ∀ (i : Nat) (h : i < l.length), rd_T36 (l.map cv) (i : Int) = cv l[i] := fun i h => by rw [rd36 _ i (by omega), List.getElem_map]
 have main : ∀ d i, l.length - i = d → i ≤ l.length → Ev (fun k => spokeshaveref21_Free.l0 k (l.map cv) sp (i : Int)) (!((l.drop i).any (hits sp)) && decide (0 ≤ sp)) := by
  intro d
  induction d with
  | zero =>
   intro i hd hi
   refine Ev.step ?_
   have : i = l.length := by omega
   subst this
   simp only [spokeshaveref21_Free.l0, hln, if_neg (Int.lt_irrefl _), List.drop_length, List.any_nil, Bool.not_false, Bool.true_and, ge_iff_le]
   exact Ev.ret _
  | succ d ih =>
   intro i hd hi
   have hlt : i < l.length := by omega
   refine Ev.step ?_
   rw [List.drop_eq_getElem_cons hlt, List.any_cons]
   simp only [spokeshaveref21_Free.l0, hln, if_pos (show (i : Int) < (l.length : Int) by omega), if_pos (show (0 : Int) ≤ (i : Int) by omega), hrd i hlt, w1 i (by omega)]
   by_cases c0 : l[i].f0 = sp
   · simp only [if_pos (show (cv l[i]).f0 = sp from c0), hits, c0, beq_self_eq_true, Bool.true_or, Bool.not_true, Bool.false_and]
     exact Ev.ret _
   · simp only [if_neg (show ¬ (cv l[i]).f0 = sp from c0)]
     by_cases c1 : l[i].f1 = sp
     · simp only [if_pos (show (cv l[i]).f1 = sp from c1), hits, c1, beq_self_eq_true, Bool.or_true, Bool.true_or, Bool.not_true, Bool.false_and]
       exact Ev.ret _
     · simp only [if_neg (show ¬ (cv l[i]).f1 = sp from c1)]
       have : hits sp l[i] = false := by simp [hits, c0, c1]
       rw [this, Bool.false_or]
       exact ih (i + 1) (by omega) (by omega)
 have := main l.length 0 (by omega) (by omega)
 unfold spokeshaveref21_Free.f
 simpa using this
end Go.Proofs.Ytodnbclphjgofaa.PMov
