import Derived.Test.YtodnbclphjgofaaMovCap
import Derived.Maps.OwnOps
import Derived.Maps.Views
import Derived.Maps.OwnSet
import Derived.WalkSpells
import Derived.Lib.Hide
namespace Go.Proofs.Ytodnbclphjgofaa.PMov
open Go.RowKit Go.Maps Go.Proofs.YtodnbclphjgofaaW.PrintWords Go.Proofs.YtodnbclphjgofaaW.PrintLast Go.Proofs.YtodnbclphjgofaaW.PrintMore Go.Proofs.Ytodnbclphjgofaa.Cap
attribute [local go_sem] max2_int min2_int max_two min_two max_three min_three max_four min_four
set_option linter.unusedVariables false
set_option linter.unusedSimpArgs false
/-- No place twice, and none below 0. -/
def mayL : List S32 → List Int → Bool
 | [], _ => true
 | m :: r, s => if m.f0 < 0 then false else if m.f1 < 0 then false else if s.contains m.f0 then false else mayL r (m.f0 :: s)
def inI (x : Int) : Bool := (Lit.int .i64 x).wf
def Mov.moves_May.f (k : Nat) (l : List S32) : Option Bool := if (decide (l.length ≤ 8796093022208) && l.all fun m => inI m.f0) = true then some (mayL l [] && decide (l.length ≤ 64)) else none

theorem plainElem_bool_inv {P : Program} {e : TypeId} (he : P.underlying e = some .bool) {v : Value} {z : DataW Unit × List MemPlace} (h : plainElem P e v = some z) : ∃ a, v = .bool a ∧ z = (.lit (.bool a), []) := by
 unfold plainElem at h
 rw [he] at h
 cases v <;> simp at h
 exact ⟨_, rfl, h.symm⟩
/-- A lookup of a bool in a map of the call's own. -/
theorem look_bool {P : Program} {w : World} {t k e : TypeId} {b n : Nat} {D : DataW Unit} (h : w.ownsMap P k (plainElem P e) b n D) (K : Keyed P k) (ht : P.underlying t = some (.map k e)) (he : P.underlying e = some .bool) (hz : ∀ w, (zeroValue e).run P w = .ok (.bool false) w)
  {key : Value} {kl : Lit} (hkey : keyOf P k key = some kl) {c : Bool} (hc : D.atKey kl (.lit (.bool false)) = .lit (.bool c)) : (Instr.lookup t (.map (some b)) key false).run P w = .ok (.bool c) w := by
 obtain ⟨v, ps, hrun, hv⟩ := h.lookup K ht (hz w) (plainElem_bool he false) hkey
 obtain ⟨a, rfl, h2⟩ := plainElem_bool_inv he hv
 simp only [Prod.mk.injEq] at h2
 rw [hc] at h2
 have := h2.1
 injection this with this
 injection this with this
 rw [hrun, this]
theorem zero4 : ∀ w, (zeroValue 4).run Try.prog w = .ok (.bool false) w := Try.zeroValue4
theorem mayL_drop (l : List S32) (i : Nat) (h : i < l.length) (s : List Int) : mayL (l.drop i) s = if (rd_T32 l i).f0 < 0 then false else if (rd_T32 l i).f1 < 0 then false else if s.contains (rd_T32 l i).f0 then false else mayL (l.drop (i + 1)) ((rd_T32 l i).f0 :: s) := by
 rw [List.drop_eq_getElem_cons h]
 have : rd_T32 l i = l[i] := by simp [rd_T32, List.getD, List.getElem?_eq_getElem h]
 rw [this]
 rfl
theorem below_blk {W w w1 : World} (hb : Below W.heap.size W w) (hg : w.grownBy w1 (some W.heap.size)) : Below W.heap.size W w1 :=
 hb.grown hg hb.size (fun k hk => by injection hk with hk; omega)
theorem seen_succ (l : List S32) (i : Nat) (h : i < l.length) : ((l.take (i + 1)).map S32.f0).reverse = (rd_T32 l i).f0 :: ((l.take i).map S32.f0).reverse := by
 have : rd_T32 l i = l[i] := by simp [rd_T32, List.getD, List.getElem?_eq_getElem h]
 rw [this, List.take_succ_eq_append_getElem h, List.map_append, List.reverse_append]
 rfl
/-- The map of the places that have been seen. -/
def Seen (wr : World) (b n : Nat) (s : List Int) : Prop := ∃ D : DataW Unit, wr.ownsMap Try.prog 3 (plainElem Try.prog 4) b n D ∧ IsMap D ∧ ∀ x, D.atKey (.int .i64 x) (.lit (.bool false)) = .lit (.bool (s.contains x))
theorem Seen.made (w : World) : Seen (w.alloc (.map #[] 0)) w.heap.size 0 [] := ⟨_, World.ownsMap_made _ _ _ _, isMap_empty, fun x => rfl⟩
set_option maxHeartbeats 8000000 in
set_option maxRecDepth 100000 in
theorem Mov.moves_May.calls (k : Nat) (A0 : Option Addr) (c0 : Nat) (l0 : List S32) (r : Bool) (w : World) (hr0 : Kd.C k32 w A0 l0.length l0) (hc0 : l0.length ≤ c0) (h : Mov.moves_May.f k l0 = some r) :
  Calls Try.prog 10 #[.slice A0 l0.length c0] w fun e w' => e = .returned (.bool r) ∧ Below w.heap.size w w' := by
 have hu32 := Try.underlying32
 have hmm := @run_makeMap Try.prog
 unfold Mov.moves_May.f at h
 split at h
 case isFalse => cases h
 rename_i hlen
 injection h with h
 have HR0 := Aside0.mk hr0
 have HC0 := Aside0.mk hc0
 have HL := Aside0.mk hlen
 have HV := Aside0.mk h
 clear hr0 hc0 hlen h
 go_enter Try.func10, Try.ntmps10
 go_wp2
 go_loopw [9] (fun v9 wr => ∃ i : Nat, v9 = .int .i64 i ∧ Aside0 (i ≤ l0.length) ∧ Aside0 (mayL (l0.drop i) ((l0.take i).map S32.f0).reverse = mayL l0 []) ∧ Aside0 (Seen wr w.heap.size i ((l0.take i).map S32.f0).reverse) ∧ Aside0 (Below w.heap.size w wr)) (fun v9 _ => l0.length - (intOf v9).toNat)
 case atStart => exact ⟨0, rfl, ⟨Nat.zero_le _⟩, ⟨rfl⟩, ⟨Seen.made _⟩, ⟨below_alloc (Below.refl _ _) _⟩⟩
 case round =>
  obtain ⟨i, rfl, HI, HM, HS, HB⟩ := hrel
  have hlen : l0.length ≤ 8796093022208 := by have := HL.out; simp only [Bool.and_eq_true, decide_eq_true_eq] at this; exact this.1
  by_cases hlt : i < l0.length
  · have hi63 : l0.length < 9223372036854775807 := by omega
    obtain ⟨m, hm⟩ : ∃ m, m = rd_T32 l0 i := ⟨_, rfl⟩
    have hin : inI m.f0 = true := by
     have := HL.out
     simp only [Bool.and_eq_true, List.all_eq_true] at this
     refine this.2 m ?_
     rw [hm]
     simp [rd_T32, List.getD, List.getElem?_eq_getElem hlt]
    have hkey : keyOf Try.prog 3 (.int .i64 m.f0) = some (.int .i64 m.f0) := keyOf_int_mk Try.underlying3 hin
    have hM := HM.out
    rw [mayL_drop l0 i hlt] at hM
    obtain ⟨ad, e1, hx0, hx1⟩ := at_T32 HR0.out (i : Int) (by omega) (by omega)
    rw [← hm] at hx0 hx1 hM
    cases e1
    simp only [Int.toNat_natCast] at hx0 hx1
    replace hx0 := (HB.out.cell (World.block_lt_of_cell? w _ hx0)).trans hx0
    replace hx1 := (HB.out.cell (World.block_lt_of_cell? w _ hx1)).trans hx1
    obtain ⟨D, hown, hmap, hat⟩ := HS.out
    have HO := Aside0.mk hown
    have HAt := Aside0.mk hat
    have HMp := Aside0.mk hmap
    have HKy := Aside0.mk hkey
    have HIn := Aside0.mk hin
    have Hm := Aside0.mk hm
    clear hown hat hmap hkey hin hm HS HM
    have HL2 := Aside0.mk hlen
    clear hlen
    by_cases h0 : m.f0 < 0
    · rw [if_pos h0] at hM
      have b0 : decide (m.f0 < 0) = true := decide_eq_true h0
      have HM := Aside0.mk hM
      clear hM h0
      go_wp2
      go_ret
      refine ⟨?_, ?_⟩
      · rw [← HV.out, ← HM.out]; rfl
      · repeat (first | (with_reducible first | exact HB.out | apply below_alloc | apply pw_below_drewN | apply below_drew1 | refine below_set ?_ HB.out.size) | exact HB.out)
    rw [if_neg h0] at hM
    have b0 : decide (m.f0 < 0) = false := decide_eq_false h0
    clear h0
    by_cases h1 : m.f1 < 0
    · rw [if_pos h1] at hM
      have b1 : decide (m.f1 < 0) = true := decide_eq_true h1
      have HM := Aside0.mk hM
      clear hM h1
      go_wp2
      go_ret
      refine ⟨?_, ?_⟩
      · rw [← HV.out, ← HM.out]; rfl
      · repeat (first | (with_reducible first | exact HB.out | apply below_alloc | apply pw_below_drewN | apply below_drew1 | refine below_set ?_ HB.out.size) | exact HB.out)
    rw [if_neg h1] at hM
    have b1 : decide (m.f1 < 0) = false := decide_eq_false h1
    clear h1
    by_cases h2 : (((l0.take i).map S32.f0).reverse).contains m.f0 = true
    · rw [if_pos h2] at hM
      have HM := Aside0.mk hM
      have hlk : ∀ o, (Instr.lookup 41 (.map (some w.heap.size)) (.int .i64 m.f0) false).run Try.prog (wr.alloc o) = .ok (.bool true) (wr.alloc o) := fun o =>
        look_bool (HO.out.alloc o) (int_keyed Try.underlying3) Try.underlying41 Try.underlying4 zero4 HKy.out (by rw [HAt.out, h2])
      clear hM h2
      go_wp2
      go_ret
      refine ⟨?_, ?_⟩
      · rw [← HV.out, ← HM.out]; rfl
      · repeat (first | (with_reducible first | exact HB.out | apply below_alloc | apply pw_below_drewN | apply below_drew1 | refine below_set ?_ HB.out.size) | exact HB.out)
    rw [if_neg h2] at hM
    have h2' : (((l0.take i).map S32.f0).reverse).contains m.f0 = false := by simpa using h2
    have HM := Aside0.mk hM
    have hlk : ∀ o, (Instr.lookup 41 (.map (some w.heap.size)) (.int .i64 m.f0) false).run Try.prog (wr.alloc o) = .ok (.bool false) (wr.alloc o) := fun o =>
        look_bool (HO.out.alloc o) (int_keyed Try.underlying3) Try.underlying41 Try.underlying4 zero4 HKy.out (by rw [HAt.out, h2'])
    have HI2 := Aside0.mk hlt
    clear hM h2 h2'
    go_wp2_with (at_mapUpdate; refine wpList_mapUpdate_own _ rfl _ _ _ 41 rfl 3 4 (int_keyed Try.underlying3) Try.underlying41 _ w.heap.size i D rfl (HO.out.alloc _) (by have := HI2.out; have := HL2.out; unfold maxLen; omega) _ _ _ rfl rfl HKy.out _ [] (plainElem_bool Try.underlying4 true) ?_; intro w1 hown1 hgrow1; have HO1 := Aside0.mk hown1; have HG1 := Aside0.mk hgrow1; clear hown1 hgrow1)
    go_roundw
    case measure => simp [intOf]; have := HI2.out; omega
    case rel =>
     refine ⟨i + 1, by go_num, ⟨HI2.out⟩, ⟨?_⟩, ⟨?_⟩, ⟨?_⟩⟩
     · rw [seen_succ l0 i HI2.out, ← Hm.out]; exact HM.out
     · rw [seen_succ l0 i HI2.out, ← Hm.out]
       refine ⟨_, HO1.out, HMp.out.put _ _, fun x => ?_⟩
       by_cases hx : x = m.f0
       · subst hx
         rw [atKey_put_same HMp.out (by trivial)]
         simp
       · rw [atKey_put_other (by intro h; injection h with _ h; exact hx h), HAt.out]
         rw [List.contains_cons]
         have : (x == m.f0) = false := beq_eq_false_iff_ne.2 hx
         rw [this, Bool.false_or]
     · exact below_blk (below_alloc HB.out _) HG1.out
  · have hi : i = l0.length := by have := HI.out; omega
    go_wp2
    go_ret
    refine ⟨?_, ?_⟩
    · have hM := HM.out
      subst hi
      rw [List.drop_length] at hM
      rw [← HV.out, ← hM]
      simp [mayL]
      first | done | omega | rfl
    · repeat (first | (with_reducible first | exact HB.out | apply below_alloc | apply pw_below_drewN | apply below_drew1 | refine below_set ?_ HB.out.size) | exact HB.out)
theorem may_nil_calls (k : Nat) (r : Bool) (w : World) (h : Mov.moves_May.f k [] = some r) : Calls Try.prog 10 #[.slice none 0 0] w fun e w' => e = .returned (.bool r) ∧ Below w.heap.size w w' :=
 Mov.moves_May.calls k none 0 [] r w (Kd.C_nil _ _) (Nat.le_refl _) h
end Go.Proofs.Ytodnbclphjgofaa.PMov
