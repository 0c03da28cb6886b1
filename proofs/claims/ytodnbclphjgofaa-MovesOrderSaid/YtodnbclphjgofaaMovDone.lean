/- the document's Done, in plain words. -/
import Derived.Test.YtodnbclphjgofaaMovLeast
namespace Go.Proofs.Ytodnbclphjgofaa.PMov
open Go Go.RowKit Go.Proofs.YtodnbclphjgofaaW.PrintWords Go.Proofs.YtodnbclphjgofaaW.PrintMore
set_option linter.unusedVariables false
set_option linter.unusedSimpArgs false
/-! ### what each place holds -/
def hasL (H : List S36) (p : Int) : Int := match H.find? (fun h => h.f0 == p) with
 | some h => h.f1
 | none => p
def put1 (p v : Int) (h : S36) : S36 := if h.f0 = p then ⟨h.f0, v⟩ else h
def putL (H : List S36) (p v : Int) : List S36 := if H.any (fun h => h.f0 == p) = true then H.map (put1 p v) else H ++ [⟨p, v⟩]
def doneL : List S36 → List S36 → List S36
 | [], H => H
 | m :: r, H => doneL r (putL H m.f0 (hasL H m.f1))
theorem hasL_cons (h : S36) (H : List S36) (q : Int) : hasL (h :: H) q = if h.f0 = q then h.f1 else hasL H q := by
 unfold hasL
 by_cases e : h.f0 = q
 · rw [List.find?_cons_of_pos (by simp [e]), if_pos e]
 · rw [List.find?_cons_of_neg (by simp [e]), if_neg e]
theorem put1_f0 (p v : Int) (h : S36) : (put1 p v h).f0 = h.f0 := by unfold put1; split <;> rfl
theorem hasL_map (p v : Int) : ∀ (H : List S36) (q : Int), hasL (H.map (put1 p v)) q = if q = p ∧ H.any (fun h => h.f0 == p) = true then v else hasL H q
 | [], q => by simp
 | h :: H, q => by
  rw [List.map_cons, hasL_cons, hasL_cons, put1_f0, hasL_map p v H q, List.any_cons]
  by_cases e : h.f0 = q
  · rw [if_pos e, if_pos e]
    by_cases e2 : q = p
    · rw [if_pos ⟨e2, by simp [e, e2]⟩]; unfold put1; rw [if_pos (by rw [e, e2])]
    · rw [if_neg (fun h => e2 h.1)]; unfold put1; rw [if_neg (by rw [e]; exact e2)]
  · rw [if_neg e, if_neg e]
    by_cases e2 : q = p
    · have : (h.f0 == p) = false := beq_eq_false_iff_ne.2 (by rw [← e2]; exact e)
      rw [this, Bool.false_or]
    · rw [if_neg (fun h => e2 h.1), if_neg (fun h => e2 h.1)]
theorem hasL_append (p v : Int) : ∀ (H : List S36) (q : Int), H.any (fun h => h.f0 == p) = false → hasL (H ++ [⟨p, v⟩]) q = if q = p then v else hasL H q
 | [], q, _ => by
  rw [List.nil_append, hasL_cons]
  by_cases e : p = q
  · rw [if_pos e, if_pos e.symm]
  · rw [if_neg e, if_neg (Ne.symm e)]
 | h :: H, q, hn => by
  rw [List.any_cons, Bool.or_eq_false_iff] at hn
  rw [List.cons_append, hasL_cons, hasL_cons, hasL_append p v H q hn.2]
  by_cases e : h.f0 = q
  · have : ¬ q = p := by have := hn.1; rw [beq_eq_false_iff_ne, e] at this; exact this
    rw [if_pos e, if_pos e, if_neg this]
  · rw [if_neg e, if_neg e]
theorem hasL_put (H : List S36) (p v q : Int) : hasL (putL H p v) q = if q = p then v else hasL H q := by
 unfold putL
 by_cases h : H.any (fun h => h.f0 == p) = true
 · rw [if_pos h, hasL_map]
   by_cases e : q = p
   · rw [if_pos ⟨e, h⟩, if_pos e]
   · rw [if_neg (fun h => e h.1), if_neg e]
 · rw [if_neg h, hasL_append p v H q (by simpa using h)]
theorem doneL_run : ∀ (out : List S32) (H : List S36) (q : Int), hasL (doneL (out.map cv) H) q = run (hasL H) out q
 | [], H, q => rfl
 | m :: r, H, q => by
  rw [List.map_cons, doneL, doneL_run r, run]
  congr 1
  funext q
  rw [hasL_put]; rfl
theorem putL_f0 {H : List S36} {p v : Int} {h : S36} (hm : h ∈ putL H p v) : h.f0 = p ∨ ∃ z ∈ H, z.f0 = h.f0 := by
 unfold putL at hm
 split at hm
 · obtain ⟨z, hz, rfl⟩ := List.mem_map.1 hm
   exact .inr ⟨z, hz, (put1_f0 ..).symm⟩
 · rcases List.mem_append.1 hm with hm | hm
   · exact .inr ⟨h, hm, rfl⟩
   · rw [List.mem_singleton] at hm; exact .inl (by rw [hm])
theorem doneL_f0 : ∀ (out : List S32) (H : List S36) {h : S36}, h ∈ doneL (out.map cv) H → (∃ m ∈ out, m.f0 = h.f0) ∨ ∃ z ∈ H, z.f0 = h.f0
 | [], H, h, hm => .inr ⟨h, hm, rfl⟩
 | m :: r, H, h, hm => by
  rw [List.map_cons, doneL] at hm
  rcases doneL_f0 r _ hm with ⟨z, hz, e⟩ | ⟨z, hz, e⟩
  · exact .inl ⟨z, List.mem_cons_of_mem _ hz, e⟩
  · rcases putL_f0 hz with e2 | ⟨y, hy, e2⟩
    · exact .inl ⟨m, List.mem_cons_self .., by rw [← e, e2]; rfl⟩
    · exact .inr ⟨y, hy, by rw [e2, e]⟩
theorem putL_len (H : List S36) (p v : Int) : (putL H p v).length ≤ H.length + 1 := by unfold putL; split <;> simp
theorem doneL_len : ∀ (ms H : List S36), (doneL ms H).length ≤ ms.length + H.length
 | [], H => by simp [doneL]
 | m :: r, H => by
  have := doneL_len r (putL H m.f0 (hasL H m.f1))
  have := putL_len H m.f0 (hasL H m.f1)
  rw [doneL, List.length_cons]; omega
theorem has_ev (H : List S36) (p : Int) (hl : H.length < 8796093022208) : Ev (fun k => spokeshaveref21_Has.f k H p) (hasL H p) := by
 have main : ∀ d i, H.length - i = d → i ≤ H.length → Ev (fun k => spokeshaveref21_Has.l0 k H p (i : Int)) (hasL (H.drop i) p) := by
  intro d
  induction d with
  | zero =>
   intro i hd hi
   refine Ev.step ?_
   have : i = H.length := by omega
   subst this
   simp only [spokeshaveref21_Has.l0, if_neg (Int.lt_irrefl _), List.drop_length]
   exact Ev.ret _
  | succ d ih =>
   intro i hd hi
   have hlt : i < H.length := by omega
   refine Ev.step ?_
   rw [List.drop_eq_getElem_cons hlt, hasL_cons]
   simp only [spokeshaveref21_Has.l0, if_pos (show (i : Int) < (H.length : Int) by omega), if_pos (show (0 : Int) ≤ (i : Int) by omega), rd36 H i hlt, w1 i (by omega)]
   by_cases c0 : H[i].f0 = p
   · simp only [if_pos c0]; exact Ev.ret _
   · simp only [if_neg c0]; exact ih (i + 1) (by omega) (by omega)
 have := main H.length 0 (by omega) (by omega)
 unfold spokeshaveref21_Has.f
 simpa using this
theorem set_at {α : Type} (y x : α) (b : List α) : ∀ (a : List α), (a ++ x :: b).set a.length y = a ++ y :: b
 | [] => rfl
 | z :: a => by show z :: ((a ++ x :: b).set a.length y) = _; rw [set_at y x b a]; rfl
theorem get_at {α : Type} (x d : α) (b : List α) : ∀ (a : List α), (a ++ x :: b).getD a.length d = x
 | [] => rfl
 | z :: a => by show (a ++ x :: b).getD a.length d = x; exact get_at x d b a
theorem set_mid (H : List S36) (p v : Int) (j : Nat) (hj : j < H.length) :
  ((H.take j).map (put1 p v) ++ H.drop j).set j (put1 p v H[j]) = (H.take (j + 1)).map (put1 p v) ++ H.drop (j + 1) := by
 have hlen : ((H.take j).map (put1 p v)).length = j := by rw [List.length_map, List.length_take]; omega
 have := set_at (put1 p v H[j]) H[j] (H.drop (j + 1)) ((H.take j).map (put1 p v))
 rw [hlen] at this
 rw [List.drop_eq_getElem_cons hj, this, List.take_succ_eq_append_getElem hj, List.map_append, List.append_assoc]
 rfl
theorem get_mid (H : List S36) (p v : Int) (j : Nat) (hj : j < H.length) : ((H.take j).map (put1 p v) ++ H.drop j).getD j z36 = H[j] := by
 have hlen : ((H.take j).map (put1 p v)).length = j := by rw [List.length_map, List.length_take]; omega
 have := get_at H[j] z36 (H.drop (j + 1)) ((H.take j).map (put1 p v))
 rw [hlen] at this
 rw [List.drop_eq_getElem_cons hj, this]
theorem done_ev (ms : List S36) (hl : ms.length < 1000) : Ev (fun k => spokeshaveref21_Done.f k ms) (doneL ms []) := by
 have main : ∀ d i (H : List S36), ms.length - i = d → i ≤ ms.length → H.length ≤ i → Ev (fun k => spokeshaveref21_Done.l0 k ms H (i : Int)) (doneL (ms.drop i) H) := by
  intro d
  induction d with
  | zero =>
   intro i H hd hi hH
   refine Ev.step ?_
   have : i = ms.length := by omega
   subst this
   simp only [spokeshaveref21_Done.l0, if_neg (Int.lt_irrefl _), List.drop_length, doneL]
   exact Ev.ret _
  | succ d ih =>
   intro i H hd hi hH
   have hlt : i < ms.length := by omega
   refine Ev.step ?_
   rw [List.drop_eq_getElem_cons hlt, doneL]
   simp only [spokeshaveref21_Done.l0, if_pos (show (i : Int) < (ms.length : Int) by omega), if_pos (show (0 : Int) ≤ (i : Int) by omega), rd36 ms i hlt]
   refine Ev.bind (has_ev H _ (by omega)) ?_
   generalize hv : hasL H ms[i].f1 = v
   have inner : ∀ e (j : Nat), H.length - j = e → j ≤ H.length →
     Ev (fun k => spokeshaveref21_Done.l1 k ms ((H.take j).map (put1 ms[i].f0 v) ++ H.drop j) (i : Int) v ((H.take j).any fun h => h.f0 == ms[i].f0) (j : Int)) (doneL (ms.drop (i + 1)) (putL H ms[i].f0 v)) := by
    intro e
    induction e with
    | zero =>
     intro j he hj
     obtain rfl : j = H.length := by omega
     refine Ev.step ?_
     have hlen : (H.map (put1 ms[i].f0 v) ++ []).length = H.length := by simp
     rw [List.take_length, List.drop_length]
     simp only [spokeshaveref21_Done.l1, hlen, if_neg (Int.lt_irrefl _), rd36 ms i hlt, w1 i (by omega), if_pos (show (i : Int) < (ms.length : Int) by omega), if_pos (show (0 : Int) ≤ (i : Int) by omega)]
     by_cases c : (H.any fun h => h.f0 == ms[i].f0) = true
     · simp only [if_pos c]
       have := ih (i + 1) (putL H ms[i].f0 v) (by omega) (by omega) (by have := putL_len H ms[i].f0 v; omega)
       rw [List.append_nil]
       unfold putL at this ⊢
       rw [if_pos c] at this ⊢
       exact this
     · simp only [if_neg c]
       have hnone : H.map (put1 ms[i].f0 v) = H := by
        have : ∀ h ∈ H, put1 ms[i].f0 v h = h := fun h hm => by
         unfold put1
         rw [if_neg]
         intro e
         apply c
         rw [List.any_eq_true]
         exact ⟨h, hm, by simp [e]⟩
        exact (List.map_congr_left this).trans (List.map_id' H)
       rw [List.append_nil, hnone, ]
       simp only [if_pos (show H.length < 8796093022208 by omega)]
       have := ih (i + 1) (putL H ms[i].f0 v) (by omega) (by omega) (by have := putL_len H ms[i].f0 v; omega)
       unfold putL at this ⊢
       rw [if_neg c] at this ⊢
       exact this
    | succ e ih2 =>
     intro j he hj
     have hjl : j < H.length := by omega
     refine Ev.step ?_
     have hlen : ((H.take j).map (put1 ms[i].f0 v) ++ H.drop j).length = H.length := by simp; omega
     have hg : rd_T36 ((H.take j).map (put1 ms[i].f0 v) ++ H.drop j) (j : Int) = H[j] := by
      unfold rd_T36; rw [Int.toNat_natCast]; exact get_mid H _ _ j hjl
     have hnx := ih2 (j + 1) (by omega) (by omega)
     rw [← set_mid H ms[i].f0 v j hjl, List.take_succ_eq_append_getElem hjl, List.any_append] at hnx
     simp only [List.any_cons, List.any_nil, Bool.or_false] at hnx
     simp only [spokeshaveref21_Done.l1, hlen, hg, rd36 ms i hlt, w1 j (by omega), if_pos (show (i : Int) < (ms.length : Int) by omega), if_pos (show (0 : Int) ≤ (i : Int) by omega), if_pos (show (j : Int) < (H.length : Int) by omega), if_pos (show (0 : Int) ≤ (j : Int) by omega), Int.toNat_natCast]
     by_cases c : H[j].f0 = ms[i].f0
     · simp only [if_pos c]
       have hp : put1 ms[i].f0 v H[j] = (⟨H[j].f0, v⟩ : S36) := by unfold put1; rw [if_pos c]
       rw [hp, show (H[j].f0 == ms[i].f0) = true from by simp [c], Bool.or_true] at hnx
       exact hnx
     · simp only [if_neg c]
       have hp : put1 ms[i].f0 v H[j] = H[j] := by unfold put1; rw [if_neg c]
       rw [hp, show (H[j].f0 == ms[i].f0) = false from by simp [c], Bool.or_false] at hnx
       have hset : ((H.take j).map (put1 ms[i].f0 v) ++ H.drop j).set j H[j] = (H.take j).map (put1 ms[i].f0 v) ++ H.drop j := by
        have hlen2 : ((H.take j).map (put1 ms[i].f0 v)).length = j := by rw [List.length_map, List.length_take]; omega
        have := set_at H[j] H[j] (H.drop (j + 1)) ((H.take j).map (put1 ms[i].f0 v))
        rw [hlen2] at this
        rw [List.drop_eq_getElem_cons hjl, this]
       rw [hset] at hnx
       exact hnx
   have := inner H.length 0 (by omega) (by omega)
   simpa using this
 have := main ms.length 0 [] (by omega) (by omega) (by simp)
 unfold spokeshaveref21_Done.f
 simpa using this
end Go.Proofs.Ytodnbclphjgofaa.PMov
