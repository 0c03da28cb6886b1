import Derived.Test.YtodnbclphjgofaaMovOrder
import Derived.WalkMore
namespace Go.Proofs.Ytodnbclphjgofaa.PMov
open Go.RowKit Go.Maps Go.Proofs.YtodnbclphjgofaaW.PrintWords Go.Proofs.YtodnbclphjgofaaW.PrintLast Go.Proofs.YtodnbclphjgofaaW.PrintMore Go.Proofs.Ytodnbclphjgofaa.Cap
attribute [local go_sem] max2_int min2_int max_two min_two max_three min_three max_four min_four
set_option linter.unusedVariables false
set_option linter.unusedSimpArgs false
theorem any_take (l : List S32) (f : S32 → Bool) (i : Nat) (h : i < l.length) : (l.take (i + 1)).any f = ((l.take i).any f || f (rd_T32 l i)) := by
 rw [rd_eq l i h, List.take_succ_eq_append_getElem h, List.any_append]; simp
theorem filter_take (l : List S32) (f : S32 → Bool) (i : Nat) (h : i < l.length) : (l.take (i + 1)).filter f = (l.take i).filter f ++ if f (rd_T32 l i) = true then [rd_T32 l i] else [] := by
 rw [rd_eq l i h, List.take_succ_eq_append_getElem h, List.filter_append, List.filter_cons, List.filter_nil]
theorem any_of_take {l : List S32} {f : S32 → Bool} {i : Nat} (h : i < l.length) (hf : f (rd_T32 l i) = true) : l.any f = true := by
 rw [List.any_eq_true]; exact ⟨l[i], by simp, by rw [← rd_eq l i h]; exact hf⟩

theorem orderL_nil {k : Nat} {out o : List S32} {sp : Int} (h : orderL (k + 1) [] out sp = some o) : out = o := by
 simpa [orderL] using h
theorem rd_getD (l : List S32) (i : Nat) : l.getD i z32 = rd_T32 l (i : Int) := by simp [rd_T32]
theorem orderL_cons {k : Nat} {left out o : List S32} {sp : Int} (hne : 0 < left.length) (h : orderL (k + 1) left out sp = some o) : out.length < 8796093022208 ∧
  (∀ i, freeIdx left left 0 = some i → orderL k (left.eraseIdx i) (out ++ [rd_T32 left (i : Int)]) sp = some o) ∧
  (freeIdx left left 0 = none → orderL k (renam left (rd_T32 left 0).f0 sp) (out ++ [⟨sp, (rd_T32 left 0).f0⟩]) sp = some o) := by
 cases left with
 | nil => simp at hne
 | cons m0 t =>
  rw [orderL] at h
  split at h
  case isFalse => cases h
  rename_i hl
  refine ⟨hl, fun i hi => ?_, fun hi => ?_⟩
  · rw [hi] at h
    rw [← rd_getD]
    exact h
  · rw [hi] at h
    exact h
theorem free_succ (left : List S32) (i : Nat) (h : i < left.length) : freeIdx left (left.drop i) i = if readB left (rd_T32 left (i : Int)).f0 = true then freeIdx left (left.drop (i + 1)) (i + 1) else some i := by
 rw [List.drop_eq_getElem_cons h, rd_eq left i h]
 rfl
theorem cutA (g n c i : Nat) (h : i ≤ c) : ∀ W, (Instr.slice 22 (.slice (some ⟨g, 0, none⟩) n c) none (some (.int .i64 (i : Int))) (some (.int .i64 (i : Int)))).run Try.prog W = .ok (.slice (some ⟨g, 0, none⟩) i i) W := by
 intro W
 obtain ⟨i0, hi0, _, hsz, _⟩ := info_parts info32
 have hel : Try.prog.elem 22 = 32 := by simp [Program.elem, Try.underlying22]
 rw [run_slice_hm W 22 (some ⟨g, 0, none⟩) n c (by rw [hel]; exact Try.underlying22) .i64 .i64 i i (by omega) (Int.le_refl _) (by omega), hel]
 simp [sizeOf, typeInfo, hi0, sliced, Result.andThen, Addr.add]
theorem cutB (g n c i : Nat) (h : i < n) (hc : n ≤ c) (hn : n < 9223372036854775807) : ∃ ad : Addr, (i + 1 < n → ad = ⟨g, (i + 1) * 2, none⟩) ∧ ∀ W, (Instr.slice 22 (.slice (some ⟨g, 0, none⟩) n c) (some (.int .i64 (wrap64 ((i : Int) + 1)))) none none).run Try.prog W = .ok (.slice (some ad) (n - (i + 1)) (c - (i + 1))) W := by
 obtain ⟨i0, hi0, _, hsz, _⟩ := info_parts info32
 rw [show wrap64 ((i : Int) + 1) = (i : Int) + 1 by unfold wrap64; omega]
 have hcut := cut_from (P := Try.prog) 22 32 .i64 Try.underlying22 hi0 2 hsz (some ⟨g, 0, none⟩) n c ((i : Int) + 1) (by omega) (by omega)
 have ht : ((i : Int) + 1).toNat = i + 1 := by omega
 rw [ht] at hcut
 by_cases hci : c = i + 1
 · rw [if_pos hci] at hcut
   exact ⟨_, fun h2 => by omega, hcut⟩
 · rw [if_neg hci, Option.map_some] at hcut
   exact ⟨_, fun _ => by simp [add_plain], hcut⟩
/-- What the last loop leaves, round by round. -/
def mixed (left : List S32) (ring sp : Int) (i : Nat) : List S32 := (renam left ring sp).take i ++ left.drop i
theorem mixed_len (left : List S32) (ring sp : Int) (i : Nat) (h : i ≤ left.length) : (mixed left ring sp i).length = left.length := by
 simp [mixed, renam]; omega
theorem mixed_rd (left : List S32) (ring sp : Int) (i : Nat) (h : i < left.length) : rd_T32 (mixed left ring sp i) (i : Int) = rd_T32 left (i : Int) := by
 rw [rd_eq _ i (by rw [mixed_len _ _ _ _ (by omega)]; exact h), rd_eq left i h]
 simp only [mixed]
 rw [List.getElem_append_right (by simp [renam]; omega)]
 simp [renam, Nat.min_eq_left (Nat.le_of_lt h)]
theorem mixed_succ (left : List S32) (ring sp : Int) (i : Nat) (h : i < left.length) : mixed left ring sp (i + 1) = (mixed left ring sp i).set i (if (rd_T32 left (i : Int)).f1 = ring then ⟨(rd_T32 left (i : Int)).f0, sp⟩ else rd_T32 left (i : Int)) := by
 have hl : i < (renam left ring sp).length := by simpa [renam] using h
 have e1 : (renam left ring sp)[i] = (if (rd_T32 left (i : Int)).f1 = ring then ⟨(rd_T32 left (i : Int)).f0, sp⟩ else rd_T32 left (i : Int)) := by
  rw [rd_eq left i h]; simp [renam]
 rw [← e1]
 simp only [mixed]
 rw [List.set_append_right _ _ (by simp [renam]; omega), List.take_succ_eq_append_getElem hl, List.append_assoc]
 congr 1
 have : i - (List.take i (renam left ring sp)).length = 0 := by simp [renam]; omega
 rw [this, List.drop_eq_getElem_cons h]
 rfl
theorem mixed_same (left : List S32) (ring sp : Int) (i : Nat) (h : i < left.length) (hf : ¬ (rd_T32 left (i : Int)).f1 = ring) : mixed left ring sp (i + 1) = mixed left ring sp i := by
 rw [mixed_succ left ring sp i h, if_neg hf, ← mixed_rd left ring sp i h, rd_eq _ i (by rw [mixed_len _ _ _ _ (by omega)]; exact h)]
 exact List.set_getElem_self _
theorem mixed_all (left : List S32) (ring sp : Int) : mixed left ring sp left.length = renam left ring sp := by
 unfold mixed
 rw [List.drop_length, List.append_nil]
 exact List.take_of_length_le (by simp [renam])
/-- What is own is none of what is made, or of another own row. -/
theorem apart_new {W : World} {v v1 : Value} (hat : v1.ownBlock = v.ownBlock ∨ ∃ b, v1.ownBlock = some b ∧ W.heap.size ≤ b) (k : Nat) (h1 : some k ≠ v.ownBlock) (h2 : k < W.heap.size) : some k ≠ v1.ownBlock := by
 rcases hat with h | ⟨b, h, hb⟩
 · rw [h]; exact h1
 · rw [h]; intro e; injection e with e; omega
set_option maxHeartbeats 8000000 in
set_option maxRecDepth 100000 in
theorem Mov.moves_Order.calls (k : Nat) (A0 : Option Addr) (c0 : Nat) (l0 : List S32) (a1 : Int) (r1 : List S32) (r2 : Bool) (w : World) (hr0 : Kd.C k32 w A0 l0.length l0) (hc0 : l0.length ≤ c0) (h : Mov.moves_Order.f k l0 a1 = some (r1, r2)) :
  Calls Try.prog 7 #[.slice A0 l0.length c0, .int .i64 a1] w fun e w' => ∃ v0_ : Value, e = .returned (.tuple #[v0_, .bool r2]) ∧ Kd.R k32 32 w' w.heap.size (fun _ => True) v0_ r1 ∧ Below w.heap.size w w' := by
 have hu32 := Try.underlying32
 unfold Mov.moves_Order.f at h
 obtain ⟨b, hb, h⟩ := Option.bind_eq_some_iff.1 h
 have HR0 := Aside0.mk hr0
 have HC0 := Aside0.mk hc0
 have HMay := Aside0.mk hb
 have hlen : l0.length ≤ 8796093022208 := by
  unfold Mov.moves_May.f at hb
  split at hb
  · rename_i hh; simp only [Bool.and_eq_true, decide_eq_true_eq] at hh; exact hh.1
  · cases hb
 have HL := Aside0.mk hlen
 clear hr0 hc0 hb hlen
 cases b with
 | false =>
  rw [if_pos rfl] at h
  simp only [Option.some.injEq, Prod.mk.injEq] at h
  obtain ⟨rfl, rfl⟩ := h
  go_enter Try.func7, Try.ntmps7
  go_wp2
  go_step3
  go_wp2_with (go_at_call 10; refine (Mov.moves_May.calls k _ _ l0 false _ HR0.out HC0.out HMay.out).mono ?_; rintro e w' ⟨rfl, hb⟩; have HB := Aside0.mk hb; clear hb)
  try rw [Exit.noGoto_ret]
  go_ret2
  exact ⟨_, rfl, Kd.R_nil _ _ _ _ _, HB.out⟩
 | true =>
  rw [if_neg (by decide)] at h
  by_cases hs : a1 < 0
  · rw [if_pos hs] at h
    simp only [Option.some.injEq, Prod.mk.injEq] at h
    obtain ⟨rfl, rfl⟩ := h
    have b0 : decide (a1 < 0) = true := decide_eq_true hs
    clear hs
    go_enter Try.func7, Try.ntmps7
    go_wp2
    go_step3
    go_wp2_with (go_at_call 10; refine (Mov.moves_May.calls k _ _ l0 true _ HR0.out HC0.out HMay.out).mono ?_; rintro e w' ⟨rfl, hb⟩; have HB := Aside0.mk hb; clear hb)
    try rw [Exit.noGoto_ret]
    go_ret2
    exact ⟨_, rfl, Kd.R_nil _ _ _ _ _, HB.out⟩
  rw [if_neg hs] at h
  have b0 : decide (a1 < 0) = false := decide_eq_false hs
  have H := Aside0.mk h
  clear hs h
  go_enter Try.func7, Try.ntmps7
  go_wp2
  go_step3
  go_wp2_with (go_at_call 10; refine (Mov.moves_May.calls k _ _ l0 true _ HR0.out HC0.out HMay.out).mono ?_; rintro e w' ⟨rfl, hb⟩; have HB := Aside0.mk hb; clear hb)
  go_loopw [6, 23] (fun v6 v23 wr => ∃ i : Nat, v23 = .int .i64 i ∧ Aside0 (i ≤ l0.length) ∧ Aside0 ((l0.take i).any (hits a1) = false) ∧ Aside0 (Kd.R k32 32 wr w.heap.size (fun _ => True) v6 ((l0.take i).filter moving)) ∧ Aside0 (Below w.heap.size w wr)) (fun _ v23 _ => l0.length - (intOf v23).toNat)
  case atStart => exact ⟨0, rfl, ⟨Nat.zero_le _⟩, ⟨rfl⟩, ⟨Kd.R_nil _ _ _ _ _⟩, HB⟩
  case round =>
   clear HB
   obtain ⟨i, rfl, HI, HN, HO, HB⟩ := hrel
   by_cases hlt : i < l0.length
   · have hi63 : l0.length < 9223372036854775807 := by have := HL.out; omega
     have HI2 := Aside0.mk hlt
     obtain ⟨m, hm⟩ : ∃ m, m = rd_T32 l0 i := ⟨_, rfl⟩
     obtain ⟨ad, e1, hx0, hx1⟩ := at_T32 HR0.out (i : Int) (by omega) (by omega)
     rw [← hm] at hx0 hx1
     have Hm := Aside0.mk hm
     cases e1
     simp only [Int.toNat_natCast] at hx0 hx1
     replace hx0 := (HB.out.cell (World.block_lt_of_cell? w _ hx0)).trans hx0
     replace hx1 := (HB.out.cell (World.block_lt_of_cell? w _ hx1)).trans hx1
     clear hm
     by_cases h0 : m.f0 = a1
     · have b1 : (m.f0 == a1) = true := beq_iff_eq.mpr h0
       have HH := Aside0.mk (show l0.any (hits a1) = true from any_of_take hlt (by rw [← Hm.out]; simp [hits, h0]))
       clear h0
       go_wp2
       try rw [Exit.noGoto_ret]
       go_ret2
       have hf := H.out
       unfold orderTail at hf
       rw [if_pos HH.out] at hf
       simp only [Option.some.injEq, Prod.mk.injEq] at hf
       obtain ⟨rfl, rfl⟩ := hf
       exact ⟨_, rfl, Kd.R_nil _ _ _ _ _, by repeat (first | (with_reducible first | exact HB.out | apply below_alloc | apply pw_below_drewN | apply below_drew1 | refine below_set ?_ HB.out.size) | exact HB.out)⟩
     have b1 : (m.f0 == a1) = false := beq_eq_false_iff_ne.mpr h0
     by_cases h1 : m.f1 = a1
     · have b2 : (m.f1 == a1) = true := beq_iff_eq.mpr h1
       have HH := Aside0.mk (show l0.any (hits a1) = true from any_of_take hlt (by rw [← Hm.out]; simp [hits, h1]))
       clear h0 h1
       go_wp2
       try rw [Exit.noGoto_ret]
       go_ret2
       have hf := H.out
       unfold orderTail at hf
       rw [if_pos HH.out] at hf
       simp only [Option.some.injEq, Prod.mk.injEq] at hf
       obtain ⟨rfl, rfl⟩ := hf
       exact ⟨_, rfl, Kd.R_nil _ _ _ _ _, by repeat (first | (with_reducible first | exact HB.out | apply below_alloc | apply pw_below_drewN | apply below_drew1 | refine below_set ?_ HB.out.size) | exact HB.out)⟩
     have b2 : (m.f1 == a1) = false := beq_eq_false_iff_ne.mpr h1
     have HN2 := Aside0.mk (show (l0.take (i + 1)).any (hits a1) = false by rw [any_take l0 _ i hlt, HN.out, ← Hm.out]; simp [hits, b1, b2])
     clear h0 h1
     by_cases h2 : m.f0 = m.f1
     · have b3 : (m.f0 != m.f1) = false := bne_eq_false_iff_eq.mpr h2
       have HF := Aside0.mk (show (l0.take (i + 1)).filter moving = (l0.take i).filter moving by rw [filter_take l0 _ i hlt, ← Hm.out]; simp [moving, b3])
       clear h2
       go_wp2
       go_roundw
       case measure => simp [intOf]; have := HI2.out; omega
       case rel => exact ⟨i + 1, by go_num, ⟨HI2.out⟩, HN2, ⟨by rw [HF.out]; (with_reducible repeat (first | apply Kd.R_alloc | apply Kd.R_drewN | apply Kd.R_drew)); exact HO.out⟩, ⟨by repeat (first | (with_reducible first | exact HB.out | apply below_alloc | apply pw_below_drewN | apply below_drew1 | refine below_set ?_ HB.out.size) | exact HB.out)⟩⟩
     · have b3 : (m.f0 != m.f1) = true := bne_iff_ne.mpr h2
       have HF := Aside0.mk (show (l0.take (i + 1)).filter moving = (l0.take i).filter moving ++ [m] by rw [filter_take l0 _ i hlt, ← Hm.out]; simp [moving, b3])
       have HLm := Aside0.mk (show (((l0.take i).filter moving).length + 1) * 16 ≤ 140737488355328 by
        have h1 := List.length_filter_le moving (l0.take i)
        have h2 : (l0.take i).length ≤ i := List.length_take_le _ _
        have := HL.out
        omega)
       clear h2
       go_wp2_with (at_builtin; go_loud (refine Kd.R_append k32 (w0 := w) w.heap.size rfl (.tmp 42) (.tmp 44) 22 32 (.agg #[(.int .i64 0), (.int .i64 0)]) 16 rfl Try.underlying22 info32 rfl (by decide) (by omega) _ ((l0.take i).filter moving) m [.int .i64 m.f0, .int .i64 m.f1] (fun _ => True) (fun _ => False) rfl (by rw [show (wr.alloc (.cells #[.int .i64 m.f0, .int .i64 m.f1] 32)).heap.size = wr.heap.size + 1 from by simp]; rfl) ?aP (fun _ hk => hk.elim) ?aF ?aO ?aB ?aS ?aL ?_); (case aP => exact k32_mkM _ _ _ m); (case aO => exact (by (with_reducible repeat (first | apply Kd.R_alloc | apply Kd.R_drewN | apply Kd.R_drew)); exact HO.out)); (case aB => exact (by repeat (first | (with_reducible first | exact HB.out | apply below_alloc | apply pw_below_drewN | apply below_drew1) | exact HB.out))); (case aF => exact (fun _ _ => trivial)); (case aS => exact (below_size (by repeat (first | (with_reducible first | exact HB.out | apply below_alloc | apply pw_below_drewN | apply below_drew1) | exact HB.out)))); (case aL => exact HLm.out); intro v1 w1 ho hb hg hat; have HO1 := Aside0.mk ho; have HB1 := Aside0.mk hb; clear ho hb hg hat)
       go_roundw
       case measure => simp [intOf]; have := HI2.out; omega
       case rel => exact ⟨i + 1, by go_num, ⟨HI2.out⟩, HN2, ⟨by rw [HF.out]; exact HO1.out⟩, HB1⟩
   · have hi : i = l0.length := by have := HI.out; omega
     subst hi
     have hn := HN.out
     rw [List.take_length] at hn
     have ho := HO.out
     rw [List.take_length] at ho
     have hf := H.out
     unfold orderTail at hf
     rw [if_neg (by rw [hn]; decide)] at hf
     obtain ⟨o, hg, h2⟩ := Option.map_eq_some_iff.1 hf
     simp only [Prod.mk.injEq] at h2
     obtain ⟨rfl, rfl⟩ := h2
     have HF := Aside0.mk hg
     have HO1 := Aside0.mk ho
     clear hf hg hn ho H HN HI HO
     go_wp2
     go_step3
     go_wp2
     go_loopg [6, 7] k (fun kq v6 v7 w' => ∃ (left out : List S32), Aside0 (orderL kq left out a1 = some o) ∧ Aside0 (kq ≤ k) ∧ Aside0 (left.length ≤ l0.length) ∧ Aside0 (Cut k32 32 w' w.heap.size (fun q => some q ≠ v7.ownBlock) v6 left) ∧ Aside0 (Kd.R k32 32 w' w.heap.size (fun q => some q ≠ v6.ownBlock) v7 out) ∧ Aside0 (Below w.heap.size w w'))
     case atStart => exact ⟨_, [], HF, ⟨Nat.le_refl _⟩, ⟨List.length_filter_le _ _⟩, ⟨Cut.mono (Cut.of_R HO1.out) (fun q _ => by simp [Value.ownBlock])⟩, ⟨Kd.R_nil _ _ _ _ _⟩, HB⟩
     case round =>
      clear HF HO1 HB
      obtain ⟨left, out, HA, HK1, HLn, HC, HO, HB⟩ := hrel
      obtain ⟨A, c, c', ev6, hc, hr⟩ := HC.out
      cases gk with
      | zero => exact absurd HA.out (by simp [orderL])
      | succ k1 =>
       by_cases hne : left.length = 0
       · have hl : left = [] := List.eq_nil_of_length_eq_zero hne
         have ho := HA.out
         rw [hl] at ho
         obtain rfl := orderL_nil ho
         subst ev6
         rw [hne]
         go_wp2
         try rw [Exit.noGoto_ret]
         go_ret2
         exact ⟨_, rfl, Kd.R_mono HO.out (fun _ _ => trivial), HB.out⟩
       · have hpos : 0 < left.length := by omega
         have hl63 : left.length < 9223372036854775807 := by have := HLn.out; have := HL.out; omega
         obtain ⟨hol, hstep, hring⟩ := orderL_cons hpos HA.out
         obtain ⟨g, cap, eg, gb, gl, cl, HG⟩ := Kd.R_form hr (by omega)
         injection eg with ea _ ec
         subst ea; subst ec
         subst ev6
         have HP := Aside0.mk hpos
         have HL63 := Aside0.mk hl63
         have HOL := Aside0.mk hol
         have HS := Aside0.mk hstep
         have HRg := Aside0.mk hring
         have HCc := Aside0.mk hc
         have HRr := Aside0.mk hr
         clear hol hstep hring hc hr gb gl cl HG HA HC
         have b4 : decide ((0 : Int) < (left.length : Int)) = true := decide_eq_true (by omega)
         have b5 : decide (0 < left.length) = true := decide_eq_true hpos
         go_wp2
         go_loopg [6, 7, 52] left.length (fun kq v6 v7 v52 w' => ∃ i : Nat, v6 = .slice (some ⟨g, 0, none⟩) left.length c ∧ v7 = u7 ∧ v52 = .int .i64 i ∧ Aside0 (kq + i = left.length) ∧ Aside0 (freeIdx left (left.drop i) i = freeIdx left left 0) ∧ Aside0 (Kd.R k32 32 w' w.heap.size (fun q => some q ≠ u7.ownBlock) (.slice (some ⟨g, 0, none⟩) left.length c') left) ∧ Aside0 (Kd.R k32 32 w' w.heap.size (fun q => some q ≠ (Value.slice (some ⟨g, 0, none⟩) left.length c).ownBlock) u7 out) ∧ Aside0 (Below w.heap.size w w'))
         case atStart => exact ⟨0, rfl, rfl, rfl, ⟨by omega⟩, ⟨rfl⟩, HRr, HO, HB⟩
         case round =>
          clear HRr HO HB
          obtain ⟨i, rfl, rfl, rfl, HI, HFr, HRr, HO, HB⟩ := hrel
          cases gk with
          | zero =>
           have hi : i = left.length := by have := HI.out; omega
           subst hi
           have hfr := HFr.out
           rw [List.drop_length] at hfr
           have HNx := Aside0.mk (HRg.out hfr.symm)
           obtain ⟨m, hm⟩ : ∃ m, m = rd_T32 left 0 := ⟨_, rfl⟩
           have Hm := Aside0.mk hm
           obtain ⟨ad, e1, hx0, hx1⟩ := at_T32 (Kd.R_reads' HRr.out).2.2 (0 : Int) (by omega) (by have := HP.out; omega)
           rw [← hm] at hx0 hx1
           cases e1
           simp only [add_plain, Int.toNat_zero, Nat.zero_mul, Nat.zero_add] at hx0 hx1
           clear hm hfr HFr HI
           have b7 : decide ((left.length : Int) < (left.length : Int)) = false := decide_eq_false (by omega)
           have b8 := HP.out
           have HNy : Aside0 (orderL k1 (renam left m.f0 a1) (out ++ [⟨a1, m.f0⟩]) a1 = some o) := ⟨by rw [Hm.out]; exact HNx.out⟩
           clear HNx
           go_wp2_with (at_builtin; refine Kd.R_append k32 (w0 := w) w.heap.size rfl (.tmp 80) (.tmp 84) 22 32 (.agg #[(.int .i64 0), (.int .i64 0)]) 16 rfl Try.underlying22 info32 rfl (by decide) (by omega) _ out (⟨a1, m.f0⟩ : S32) [.int .i64 a1, .int .i64 m.f0] (fun q => some q ≠ (Value.slice (some ⟨g, 0, none⟩) left.length c).ownBlock) (fun _ => False) rfl rfl ?aP (fun _ hk => hk.elim) ?aF ?aO ?aB ?aS ?aL ?_; (case aP => exact k32_mkM _ _ _ (⟨a1, m.f0⟩ : S32)); (case aO => exact HO.out); (case aB => exact HB.out); (case aF => exact (fun q hq e => by have := Kd.R_lt HRr.out q e.symm; omega)); (case aS => exact HB.out.size); (case aL => have := HOL.out; omega); intro v1 w3 ho hb hg hat; have HO3 := Aside0.mk ho; have HB3 := Aside0.mk hb; have HR3 := Aside0.mk (Kd.R_mono (ok' := fun q => some q ≠ v1.ownBlock) (Kd.R_grown (Kd.R_bound HRr.out) hg (fun q hq => hq.1)) (fun q hq => apart_new hat q hq.1 hq.2.2.1)); clear ho hb hg hat)
           go_loopg [88] left.length (fun kq v88 w' => ∃ i : Nat, v88 = .int .i64 i ∧ Aside0 (kq + i = left.length) ∧ Aside0 (Kd.R k32 32 w' w.heap.size (fun q => some q ≠ v1.ownBlock) (.slice (some ⟨g, 0, none⟩) left.length c') (mixed left m.f0 a1 i)) ∧ Aside0 (Kd.R k32 32 w' w.heap.size (fun q => some q ≠ (Value.slice (some ⟨g, 0, none⟩) left.length c).ownBlock) v1 (out ++ [⟨a1, m.f0⟩])) ∧ Aside0 (Below w.heap.size w w'))
           case atStart => exact ⟨0, rfl, ⟨by omega⟩, HR3, HO3, HB3⟩
           case round =>
            clear HR3 HO3 HB3 HRr HO HB hx0 hx1 b7
            obtain ⟨i, rfl, HI, HRr, HO, HB⟩ := hrel
            cases gk with
            | zero =>
             have hi : i = left.length := by have := HI.out; omega
             subst hi
             have b7 : decide ((left.length : Int) < (left.length : Int)) = false := decide_eq_false (by omega)
             go_wp2
             go_roundg k1
             case measure => have := HK1.out; omega
             case rel =>
              have hl : (renam left m.f0 a1).length = left.length := by simp [renam]
              refine ⟨renam left m.f0 a1, out ++ [⟨a1, m.f0⟩], HNy, ⟨by have := HK1.out; omega⟩, ⟨by rw [hl]; exact HLn.out⟩, ⟨⟨some ⟨g, 0, none⟩, c, c', by rw [hl], by rw [hl]; exact HCc.out, ?_⟩⟩, HO, HB⟩
              rw [hl, ← mixed_all]
              exact HRr.out
            | succ d =>
             have hlt2 : i < left.length := by have := HI.out; omega
             have HI2 := Aside0.mk hlt2
             have hl64 : left.length < 9223372036854775807 := HL63.out
             obtain ⟨x, hx⟩ : ∃ x, x = rd_T32 left (i : Int) := ⟨_, rfl⟩
             have Hx := Aside0.mk hx
             obtain ⟨ad, e1, hx0, hx1⟩ := at_T32 (Kd.R_reads' HRr.out).2.2 (i : Int) (by omega) (by rw [mixed_len _ _ _ _ (by omega)]; omega)
             rw [mixed_rd _ _ _ _ hlt2, ← hx] at hx0 hx1
             cases e1
             simp only [add_plain, Int.toNat_natCast, Nat.zero_add] at hx0 hx1
             have b7 : decide ((i : Int) < (left.length : Int)) = true := decide_eq_true (by omega)
             clear hx
             by_cases hf : x.f1 = m.f0
             · have b9 : (x.f1 == m.f0) = true := beq_iff_eq.mpr hf
               obtain ⟨ce, hcl, hM, hcc, hfr⟩ := Kd.R_elem HRr.out z32 (i : Int) (by omega) (by omega)
               have hM' : k32.M wr w.heap.size (fun k => some k ≠ v1.ownBlock ∧ k ≠ g) x ce := by
                have : (mixed left m.f0 a1 i).getD (i : Int).toNat z32 = x := by rw [Hx.out, ← mixed_rd left m.f0 a1 i HI2.out]; rfl
                rw [this] at hM; exact hM
               obtain rfl := k32_openM hM'
               have HPt := Aside0.mk (Kd.R_seg HRr.out (i : Int) (by omega) (by omega) (seg := [.int .i64 a1]) (j := 1) hcl hcc (show 2 ≤ 2 from by decide) (x' := (⟨x.f0, a1⟩ : S32)) (k32_mkM _ _ _ (⟨x.f0, a1⟩ : S32)) (fun _ hk => hk))
               have hfz := hfr 1
               simp only [show (k32).sz = 2 from rfl, Int.toNat_natCast] at hfz
               have HMx := Aside0.mk (show mixed left m.f0 a1 (i + 1) = (mixed left m.f0 a1 i).set i ⟨x.f0, a1⟩ by rw [mixed_succ left m.f0 a1 i HI2.out, ← Hx.out, if_pos hf])
               clear hcl hM hM' hcc hfr hf
               go_wp2
               go_roundg d
               case measure => omega
               case rel =>
                have h1 := HPt.out
                simp only [Int.toNat_natCast, show (k32).sz = 2 from rfl] at h1
                have hg : wr.grownBy (wr.setCell ⟨g, i * 2 + 1, none⟩ (.int .i64 a1)) (some g) := h1.2
                refine ⟨i + 1, by go_num, ⟨by have := HI.out; omega⟩, ⟨by rw [HMx.out]; exact h1.1⟩, ⟨Kd.R_grown HO.out hg (fun q hq => hq)⟩, ⟨HB.out.grown hg HB.out.size (fun q hq => ?_)⟩⟩
                exact Kd.R_base HRr.out q hq
             · have b9 : (x.f1 == m.f0) = false := beq_eq_false_iff_ne.mpr hf
               have HMx := Aside0.mk (mixed_same left m.f0 a1 i hlt2 (by rw [← Hx.out]; exact hf))
               clear hf
               go_wp2
               go_roundg d
               case measure => omega
               case rel => exact ⟨i + 1, by go_num, ⟨by have := HI.out; omega⟩, ⟨by rw [HMx.out]; exact HRr.out⟩, HO, HB⟩
          | succ d =>
           have hlt : i < left.length := by have := HI.out; omega
           have HI2 := Aside0.mk hlt
           have hl64 : left.length < 9223372036854775807 := HL63.out
           obtain ⟨m, hm⟩ : ∃ m, m = rd_T32 left (i : Int) := ⟨_, rfl⟩
           have Hm := Aside0.mk hm
           obtain ⟨ad, e1, hx0, hx1⟩ := at_T32 (Kd.R_reads' HRr.out).2.2 (i : Int) (by omega) (by omega)
           rw [← hm] at hx0 hx1
           clear hm
           cases e1
           simp only [Int.toNat_natCast, add_plain] at hx0 hx1
           have b6 : decide ((i : Int) < (left.length : Int)) = true := decide_eq_true (by omega)
           have hfr := HFr.out
           rw [free_succ left i hlt, ← Hm.out] at hfr
           by_cases hrd : readB left m.f0 = true
           · rw [if_pos hrd] at hfr
             have HFr2 := Aside0.mk hfr
             have HRd := Aside0.mk hrd
             clear hfr hrd HFr
             go_wp2_with (go_at_call 16; (with_reducible refine (read_any _ _ left m.f0 true _ HRd.out ?side1 ?side2 HL63.out).mono ?_); (case side1 => exact Kd.C_alloc (Kd.R_reads' HRr.out).2.2 _); (case side2 => exact HCc.out); rintro e w2 ⟨rfl, hb⟩; have HW := Aside0.mk (below_step (below_alloc (Below.refl _ _) _) hb); clear hb)
             go_roundg d
             case measure => omega
             case rel => exact ⟨i + 1, rfl, rfl, by go_num, ⟨by have := HI.out; omega⟩, HFr2, ⟨Kd.R_below HRr.out HW.out⟩, ⟨Kd.R_below HO.out HW.out⟩, ⟨below_step HB.out HW.out⟩⟩
           · rw [if_neg hrd] at hfr
             have hrd' : readB left m.f0 = false := by simpa using hrd
             have HRd := Aside0.mk hrd'
             have HNx := Aside0.mk (HS.out i hfr.symm)
             clear hfr hrd hrd' HFr
             go_wp2_with (first | (go_at_call 16; (with_reducible refine (read_any _ _ left m.f0 false _ HRd.out ?side1 ?side2 HL63.out).mono ?_); (case side1 => exact Kd.C_alloc (Kd.R_reads' HRr.out).2.2 _); (case side2 => exact HCc.out); rintro e w2 ⟨rfl, hb⟩; have HW := Aside0.mk (below_step (below_alloc (Below.refl _ _) _) hb); have hbx := (hb.block wr.heap.size (by simp)).trans (blk_new wr _); have hcx0 := blk_cell hbx 0; have hcx1 := blk_cell hbx 1; clear hb hbx; simp only [List.getElem?_toArray, List.getElem?_cons_zero, List.getElem?_cons_succ] at hcx0 hcx1; have HR2 := Aside0.mk (Kd.R_below HRr.out HW.out); have HO2 := Aside0.mk (Kd.R_below HO.out HW.out); have HB2 := Aside0.mk (below_step HB.out HW.out)) | (at_builtin; refine Kd.R_append k32 (w0 := w) w.heap.size rfl (.tmp 62) (.tmp 64) 22 32 (.agg #[(.int .i64 0), (.int .i64 0)]) 16 rfl Try.underlying22 info32 rfl (by decide) (by omega) _ out m [.int .i64 m.f0, .int .i64 m.f1] (fun q => some q ≠ (Value.slice (some ⟨g, 0, none⟩) left.length c).ownBlock) (fun _ => False) rfl rfl ?aP (fun _ hk => hk.elim) ?aF ?aO ?aB ?aS ?aL ?_; (case aP => exact k32_mkM _ _ _ m); (case aO => exact HO2.out); (case aB => exact HB2.out); (case aF => exact (fun q hq e => by have := Kd.R_lt HR2.out q e.symm; omega)); (case aS => exact HB2.out.size); (case aL => have := HOL.out; omega); intro v1 w3 ho hb hg hat; have HO3 := Aside0.mk ho; have HB3 := Aside0.mk hb; have HR3 := Aside0.mk (Kd.R_mono (ok' := fun q => some q ≠ v1.ownBlock) (Kd.R_grown (Kd.R_bound HR2.out) hg (fun q hq => hq.1)) (fun q hq => apart_new hat q hq.1 hq.2.2.1)); have HFs := Aside0.mk (fun q (hq : w3.drew.heap.size ≤ q) (e : some q = v1.ownBlock) => by have h1 := Kd.R_lt ho q e.symm; have h2 : w3.heap.size ≤ q := hq; omega : ∀ q, w3.drew.heap.size ≤ q → some q ≠ v1.ownBlock); clear ho hb hg hat))
             have hcutA := cutA g left.length c i (by have := HI2.out; have := HCc.out; omega)
             obtain ⟨adB, hadB, hcutB⟩ := cutB g left.length c i HI2.out HCc.out HL63.out
             have HadB := Aside0.mk hadB
             clear hadB
             refine start_ (n := 10) (S := fun w' => True) (ds := []) #[false, false, false, false, false, false, false, false, false, false] (by kernel_rfl) rfl rfl trivial (fun hHeld => ?_)
             refine pure_ (i := 0) (N := some 66) (v := ?_) (a' := ?_) #[true, false, false, false, false, false, false, false, false, false] rfl rfl (by kernel_rfl) (fun _ _ _ h => h) (Or.inl ⟨by rfl, ?_⟩) ?_ ?_
             rotate_left
             · intro w'
               go_simp
               with_reducible rfl
             rotate_left
             · simp only [Act.put, List.setIfInBounds_toArray, List.set_cons_zero, List.set_cons_succ, i64_w, i32_w]
               rfl
             refine pure_ (i := 1) (N := some 67) (v := ?_) (a' := ?_) #[true, true, false, false, false, false, false, false, false, false] rfl rfl (by kernel_rfl) (fun _ _ _ h => h) (Or.inl ⟨by rfl, ?_⟩) ?_ ?_
             rotate_left
             · intro w'
               go_simp
               with_reducible rfl
             rotate_left
             · simp only [Act.put, List.setIfInBounds_toArray, List.set_cons_zero, List.set_cons_succ, i64_w, i32_w]
               rfl
             refine pure_ (i := 2) (N := some 68) (v := ?_) (a' := ?_) #[true, true, true, false, false, false, false, false, false, false] rfl rfl (by kernel_rfl) (fun _ _ _ h => h) (Or.inl ⟨by rfl, ?_⟩) ?_ ?_
             rotate_left
             · intro w'
               go_simp
               with_reducible rfl
             rotate_left
             · simp only [Act.put, List.setIfInBounds_toArray, List.set_cons_zero, List.set_cons_succ, i64_w, i32_w]
               rfl
             refine pure_ (i := 3) (N := some 69) (v := ?_) (a' := ?_) #[true, true, true, true, false, false, false, false, false, false] rfl rfl (by kernel_rfl) (fun _ _ _ h => h) (Or.inl ⟨by rfl, ?_⟩) ?_ ?_
             rotate_left
             · intro w'
               go_simp
               with_reducible rfl
             rotate_left
             · simp only [Act.put, List.setIfInBounds_toArray, List.set_cons_zero, List.set_cons_succ, i64_w, i32_w]
               rfl
             refine pure_ (i := 4) (N := some 70) (v := ?_) (a' := ?_) #[true, true, true, true, true, false, false, false, false, false] rfl rfl (by kernel_rfl) (fun _ _ _ h => h) (Or.inl ⟨by rfl, ?_⟩) ?_ ?_
             rotate_left
             · intro w'
               go_simp
               with_reducible rfl
             rotate_left
             · simp only [Act.put, List.setIfInBounds_toArray, List.set_cons_zero, List.set_cons_succ, i64_w, i32_w]
               rfl
             refine pure_ (i := 5) (N := some 71) (v := ?_) (a' := ?_) #[true, true, true, true, true, true, false, false, false, false] rfl rfl (by kernel_rfl) (fun _ _ _ h => h) (Or.inl ⟨by rfl, ?_⟩) ?_ ?_
             rotate_left
             · intro w'
               go_simp
               with_reducible rfl
             rotate_left
             · simp only [Act.put, List.setIfInBounds_toArray, List.set_cons_zero, List.set_cons_succ, i64_w, i32_w]
               rfl
             refine pure_ (i := 6) (N := some 72) (v := ?_) (a' := ?_) #[true, true, true, true, true, true, true, false, false, false] rfl rfl (by kernel_rfl) (fun _ _ _ h => h) (Or.inl ⟨by rfl, ?_⟩) ?_ ?_
             rotate_left
             · intro w'
               go_simp
               with_reducible rfl
             rotate_left
             · simp only [Act.put, List.setIfInBounds_toArray, List.set_cons_zero, List.set_cons_succ, i64_w, i32_w]
               rfl
             refine pure_ (i := 7) (N := some 73) (v := ?_) (a' := ?_) #[true, true, true, true, true, true, true, true, false, false] rfl rfl (by kernel_rfl) (fun _ _ _ h => h) (Or.inl ⟨by rfl, ?_⟩) ?_ ?_
             rotate_left
             · intro w'
               go_simp
               with_reducible rfl
             rotate_left
             · simp only [Act.put, List.setIfInBounds_toArray, List.set_cons_zero, List.set_cons_succ, i64_w, i32_w]
               rfl
             refine one_ (i := 8) (N := some 74) #[true, true, true, true, true, true, true, true, true, false] rfl rfl (by kernel_rfl) (by decide) (fun K hK => ?_)
             refine capcut_step k32 w.heap.size (by rfl) (.tmp 69) (.tmp 73) 22 32 (.agg #[(.int .i64 0), (.int .i64 0)]) 16 rfl Try.underlying22 info32 rfl (by decide) (g := g) (n := left.length) (c' := c') (k := i) adB rfl rfl rfl (Kd.R_drew HR3.out) HI2.out HadB.out ?hby ?hba ?hfr ?_
             (case hby => have := HLn.out; have := HL.out; omega)
             (case hba => exact (below_drew1 HB3.out).size)
             (case hfr => exact HFs.out)
             intro v4 w5 hc4 hg4 hat4
             have HC4 := Aside0.mk hc4
             have HG4 := Aside0.mk hg4
             have HAt4 := Aside0.mk hat4
             clear hc4 hg4 hat4
             refine hK.out _ _ trivial (fun hHeld => ?_)
             clear hK K
             refine norm_ (a' := ?_) ?_ ?_
             rotate_left
             · show Act.put _ (some 74) _ = _
               simp only [Act.put, List.setIfInBounds_toArray, List.set_cons_zero, List.set_cons_succ, i64_w, i32_w]
               rfl
             refine pure_ (i := 9) (N := some 6) (v := ?_) (a' := ?_) #[true, true, true, true, true, true, true, true, true, true] rfl rfl (by kernel_rfl) (fun _ _ _ h => h) (Or.inl ⟨by rfl, ?_⟩) ?_ ?_
             rotate_left
             · intro w'
               go_simp
               with_reducible rfl
             rotate_left
             · simp only [Act.put, List.setIfInBounds_toArray, List.set_cons_zero, List.set_cons_succ, i64_w, i32_w]
               rfl
             refine done_ (by kernel_rfl) ?_
             go_wp2
             go_roundg k1
             case measure => have := HK1.out; omega
             case rel =>
              refine ⟨left.eraseIdx i, out ++ [m], ⟨by rw [Hm.out]; exact HNx.out⟩, ⟨by have := HK1.out; omega⟩, ⟨Nat.le_trans (List.length_eraseIdx_le left i) HLn.out⟩, HC4, ⟨?_⟩, ⟨?_⟩⟩
              · refine Kd.R_mono (Kd.R_grown (Kd.R_bound (Kd.R_drew HO3.out)) HG4.out (fun q _ => by simp)) (fun q hq => ?_)
                rcases HAt4.out with h4 | h4
                · rw [h4]; exact hq.1
                · rw [h4]; intro e; injection e with e; have := hq.2.2.1; omega
              · exact (below_drew1 HB3.out).grown HG4.out (below_drew1 HB3.out).size (fun q hq => by cases hq)
end Go.Proofs.Ytodnbclphjgofaa.PMov
