/- lex.reader.token, a sign: printed by t6.py. -/
import Derived.Test.YtiljijckfkphhaaDoorLxTokD
import Derived.Maps.Views
namespace Go.Proofs.YtiljijckfkphhaaDoor.PLex
open Go.RowKit Go.Proofs.YtiljijckfkphhaaDoorW.PrintWords Go.Proofs.YtiljijckfkphhaaDoorW.PrintLast Go.Proofs.YtiljijckfkphhaaDoorW.PrintMore
set_option linter.unusedVariables false
set_option linter.unusedSectionVars false
set_option linter.unusedSimpArgs false
/-- Does a text begin with another one? -/
def hpB (R p : ByteArray) : Bool := if p.size ≤ R.size then (R.extract 0 p.size).toList == p.toList else false
theorem hp_eq (R p : ByteArray) : strings_HasPrefix.f R p = some (hpB R p) := by
 unfold strings_HasPrefix.f stringslite_HasPrefix.f hpB
 by_cases h : p.size ≤ R.size
 · rw [if_pos (show (R.size : Int) ≥ (p.size : Int) by omega), if_pos (by omega), if_pos (by omega), if_pos h]
   simp
 · rw [if_neg (show ¬ (R.size : Int) ≥ (p.size : Int) by omega), if_neg h]
   rfl
def signL : Nat → List ByteArray
 | 0 => signs0
 | 1 => signs1
 | _ => signs2
/-- The first sign that a text begins with. -/
def signOf (R : ByteArray) : Option ByteArray := (signs0 ++ (signs1 ++ signs2)).find? (hpB R)
def signR (R : ByteArray) : Except Int TK := match signOf R with
 | some p => .ok ⟨5, p, ⟨#[]⟩, 0, false⟩
 | none => .error 3
theorem find_in {R p : ByteArray} : ∀ {l : List ByteArray} {j : Nat} {rest : List ByteArray}, (∀ q ∈ l.take j, hpB R q = false) → l[j]? = some p → hpB R p = true → (l ++ rest).find? (hpB R) = some p
 | [], j, _, _, h, _ => by simp at h
 | q :: l, 0, rest, _, h, hp => by simp at h; subst h; simp [hp]
 | q :: l, j + 1, rest, hn, h, hp => by
  have hq : hpB R q = false := hn q (by simp)
  rw [List.cons_append, List.find?_cons_of_neg (by simp [hq])]
  exact find_in (l := l) (j := j) (fun z hz => hn z (by simp [hz])) (by simpa using h) hp
theorem find_out {R : ByteArray} {rest : List ByteArray} : ∀ {l : List ByteArray}, (∀ q ∈ l, hpB R q = false) → (l ++ rest).find? (hpB R) = rest.find? (hpB R)
 | [], _ => rfl
 | q :: l, hn => by
  have hq : hpB R q = false := hn q (by simp)
  rw [List.cons_append, List.find?_cons_of_neg (by simp [hq])]
  exact find_out (l := l) (fun z hz => hn z (by simp [hz]))
def zero33 : Obj := .cells #[.int .i64 0, .int .i64 0, .string ⟨#[]⟩, .string ⟨#[]⟩, .int .u64 0, .bool false] 33 (0, 0)
/-- What the first i rows of signs have not. -/
def NoSign (R : ByteArray) (i : Nat) : Prop := ∀ k, k < i → ∀ q ∈ signL k, hpB R q = false
section
variable (g : Nat) (s R : ByteArray) (a : Int) (w0 w : World) (hI : IsS45 w0 w g s a) (hB : Below w0.heap.size w0 w)
  (hsl : ∀ w, (Instr.sliceAt 9 (.string s) (some (.int .i64 a)) none none).run Tryd.prog w = .ok (.string R) w) (h1 : 1 ≤ R.size) (c : Int) (hi0 : ∀ w, (Instr.index 9 (.string R) (.int .i64 0)).run Tryd.prog w = .ok (.int .u8 c) w)
include hI hB hsl h1 hi0
set_option maxHeartbeats 8000000 in
set_option maxRecDepth 100000 in
/-- A sign, or nothing that begins so. -/
theorem token_sign (hd : digitB c = false) (hp : partB c = false) (hc39 : c ≠ 39) (hG : GW w0) (ha : 0 ≤ a) (ha2 : a ≤ 20000) : Calls Tryd.prog 18 #[.pointer (some ⟨g, 0, none⟩)] w (TokPost g s a w0 w (signR R)) := by
 have HI0 := Aside0.mk hI
 have HB := Aside0.mk hB
 have HK := Aside0.mk (KeepBut.refl w g none)
 clear hB
 obtain ⟨HGz, hgz⟩ := hI
 have hc0 := cellS45_0 HGz
 have hc1 := cellS45_1 HGz
 have hf0 := blk_frozen HGz 0
 have hf1 := blk_frozen HGz 1
 have hlt : g < w.heap.size := HI0.out.lt
 clear HGz hgz
 have HD := Aside0.mk ((digit_eq c).trans (congrArg some hd))
 have HP := Aside0.mk ((part_eq c).trans (congrArg some hp))
 have HG := Aside0.mk (hG.below (HB.out.mono (Nat.le_refl _)))
 have ne1 : (c == 39) = false := beq_eq_false_iff_ne.2 hc39
 clear hp hd hG
 obtain ⟨⟨mm, hmm⟩, A0, A1, A2, k0, k1, k2, g0, g1, g2, g3, g4, g5⟩ := HG.out
 obtain ⟨ad0, rfl, _⟩ := Kd.at_string g3 0 (by omega) (by omega)
 obtain ⟨ad1, rfl, _⟩ := Kd.at_string g4 0 (by omega) (by omega)
 obtain ⟨ad2, rfl, _⟩ := Kd.at_string g5 0 (by omega) (by omega)
 have HC0 := Aside0.mk g3
 have HC1 := Aside0.mk g4
 have HC2 := Aside0.mk g5
 have lt0 : 0 < w.heap.size := World.block_lt_of_cell? w _ g0
 clear hmm g3 g4 g5
 have i0 : ∀ w, (Instr.index 58 (.agg #[.slice (some ad0) 2 k0, .slice (some ad1) 17 k1, .slice (some ad2) 24 k2]) (.int .i64 0)).run Tryd.prog w = .ok (.slice (some ad0) 2 k0) w := fun _ => by kernel_rfl
 have i1 : ∀ w, (Instr.index 58 (.agg #[.slice (some ad0) 2 k0, .slice (some ad1) 17 k1, .slice (some ad2) 24 k2]) (.int .i64 1)).run Tryd.prog w = .ok (.slice (some ad1) 17 k1) w := fun _ => by kernel_rfl
 have i2 : ∀ w, (Instr.index 58 (.agg #[.slice (some ad0) 2 k0, .slice (some ad1) 17 k1, .slice (some ad2) 24 k2]) (.int .i64 2)).run Tryd.prog w = .ok (.slice (some ad2) 24 k2) w := fun _ => by kernel_rfl
 go_enter Tryd.func18, Tryd.ntmps18
 go_wp2
 go_quiet (fail)
 go_wp2_with (first | (go_at_call 27; (with_reducible refine (lex_digit.calls c false _ HD.out).mono ?_); rintro e w' ⟨rfl, ⟨nd, rfl⟩⟩) | (go_at_call 30; (with_reducible refine (lex_part.calls c false _ HP.out).mono ?_); rintro e w' ⟨rfl, ⟨nd, rfl⟩⟩))
 go_loopg [70] 3 (fun gq v70 wx => ∃ i : Nat, v70 = .int .i64 i ∧ Aside0 (i + gq = 3) ∧ Aside0 (NoSign R i) ∧ Aside0 (Below w.heap.size w wx) ∧ Aside0 (wx.heap[w.heap.size]? = some zero33))
 case atStart => exact ⟨0, rfl, ⟨rfl⟩, ⟨fun k hk => by omega⟩, ⟨by repeat (first | exact Below.refl _ _ | apply below_alloc | apply pw_below_drewN)⟩, ⟨by (with_reducible repeat (first | refine blk_drewN ?_ _)); exact blk_new _ _⟩⟩
 case round =>
  obtain ⟨i, rfl, HI, HNS, HWB, HBK⟩ := hrel
  cases gk with
  | zero =>
   obtain rfl : i = 3 := HI.out
   have hso : signR R = .error 3 := by
    have : signOf R = none := by
     unfold signOf
     rw [find_out (l := signs0) (HNS.out 0 (by omega)), find_out (l := signs1) (HNS.out 1 (by omega)), ← List.append_nil signs2, find_out (l := signs2) (HNS.out 2 (by omega))]
     rfl
    unfold signR
    rw [this]
   have HSO := Aside0.mk hso
   have HII := Aside0.mk (HI0.out.below HWB.out)
   have HBK5 := HBK
   have hbk := HBK.out
   unfold zero33 at hbk
   have z0 := (blk_cell hbk 0).trans rfl
   have z1 := (blk_cell hbk 1).trans rfl
   have z2 := (blk_cell hbk 2).trans rfl
   have z3 := (blk_cell hbk 3).trans rfl
   have z4 := (blk_cell hbk 4).trans rfl
   have z5 := (blk_cell hbk 5).trans rfl
   have y0 := blk_frozen hbk 0
   have y1 := blk_frozen hbk 1
   have y2 := blk_frozen hbk 2
   have y3 := blk_frozen hbk 3
   have y4 := blk_frozen hbk 4
   have y5 := blk_frozen hbk 5
   have hne : g ≠ w.heap.size := Nat.ne_of_lt hlt
   have HB3 := Aside0.mk (Below.trans HB.out (HWB.out.mono HB.out.size))
   have HK3 := Aside0.mk (KeepBut.of_below HWB.out g none)
   clear hbk hso
   go_wp2
   refine bodyPost_ret (v := .tuple #[tokV 0 0 ⟨#[]⟩ ⟨#[]⟩ 0 false, .int .i64 3]) ?_ rfl ?_
   · exact res18 rfl rfl (put6 HBK5.out 0 0 ⟨#[]⟩ ⟨#[]⟩ 0 false)
   · rw [HSO.out]
     refine ⟨?_, ?_, ⟨_, _, _, _, _, _, rfl⟩, ?_⟩
     · with_reducible repeat (first | exact HB3.out | apply below_alloc | refine below_set ?_ HB.out.size)
     · with_reducible repeat (first | exact HK3.out | apply keep_alloc | refine keep_far ?_ (Nat.le_refl _) _)
     · with_reducible repeat (first | exact HII.out | apply IsS45.alloc | refine IsS45.far ?_ hne _)
  | succ gq =>
   have hi3 : i = 0 ∨ i = 1 ∨ i = 2 := by have := HI.out; omega
   rcases hi3 with rfl | rfl | rfl
   · -- row 0
    have hmem : ∀ (j : Nat), j < 2 → ∃ p, signs0[j]? = some p ∧ rdOf ByteArray.empty signs0 (j : Int) = p ∧ p.size ≤ 3 := by
     intro j hj
     have h3 : ∀ q ∈ signs0, q.size ≤ 3 := by decide
     have hl : j < signs0.length := hj
     refine ⟨signs0[j], List.getElem?_eq_getElem hl, ?_, h3 _ (List.getElem_mem hl)⟩
     simp [rdOf, List.getD, List.getElem?_eq_getElem hl]
    have HM := Aside0.mk hmem
    clear hmem
    go_wp2
    go_loopg [75] 2 (fun gj v75 wy => ∃ j : Nat, v75 = .int .i64 j ∧ Aside0 (j + gj = 2) ∧ Aside0 (∀ q ∈ signs0.take j, hpB R q = false) ∧ Aside0 (Below w.heap.size w wy) ∧ Aside0 (wy.heap[w.heap.size]? = some zero33))
    case atStart => exact ⟨0, rfl, ⟨rfl⟩, ⟨by simp⟩, HWB, HBK⟩
    case round =>
     obtain ⟨j, rfl, HJ, HN, HWB, HBK⟩ := hrel
     cases gk with
     | zero =>
      obtain rfl : j = 2 := HJ.out
      go_wp2
      go_roundg gq
      case measure => omega
      case rel => exact ⟨1, rfl, ⟨by have := HI.out; omega⟩, ⟨fun k hk q hq => by
       by_cases e : k = 0
       · subst e; exact HN.out q hq
       · exact HNS.out k (by omega) q hq⟩, HWB, HBK⟩
     | succ gj =>
      obtain ⟨p, hp1, hp2, hp3⟩ := HM.out j (by have := HJ.out; omega)
      have hjn : j < 2 := by have := HJ.out; omega
      obtain ⟨ad, he, hx⟩ := Kd.at_string HC0.out (j : Int) (by omega) (by omega)
      injection he with he
      subst he
      rw [hp2] at hx
      replace hx := (HWB.out.cell (World.block_lt_of_cell? w _ hx)).trans hx
      simp only [Int.toNat_natCast] at hx
      have HP1 := Aside0.mk hp1
      clear hp1 hp2
      cases hpq : hpB R p
      · have HQ := Aside0.mk ((hp_eq R p).trans (congrArg some hpq))
        have HQ2 := Aside0.mk hpq
        clear hpq
        go_wp2_with (go_at_call 24; (with_reducible refine (strings_HasPrefix.calls R p false _ HQ.out).mono ?_); rintro e w' ⟨rfl, ⟨nd, rfl⟩⟩)
        go_roundg gj
        case measure => omega
        case rel => exact ⟨j + 1, by go_num, ⟨by have := HJ.out; omega⟩, ⟨fun q hq => by
         rw [List.take_add_one, HP1.out] at hq
         rcases List.mem_append.1 hq with hq | hq
         · exact HN.out q hq
         · simp at hq; subst hq; exact HQ2.out⟩, ⟨pw_below_drewN HWB.out _⟩, ⟨HBK.out⟩⟩
      · have HQ := Aside0.mk ((hp_eq R p).trans (congrArg some hpq))
        have hso : signR R = .ok ⟨5, p, ⟨#[]⟩, 0, false⟩ := by
         have : signOf R = some p := by
          unfold signOf
          exact find_in HN.out HP1.out hpq
         unfold signR
         rw [this]
        have HSO := Aside0.mk hso
        clear hpq hso
        go_wp2_with (go_at_call 24; (with_reducible refine (strings_HasPrefix.calls R p true _ HQ.out).mono ?_); rintro e w5 ⟨rfl, hd5⟩; have HWB5 : Aside0 (Below w.heap.size w w5) := (by obtain ⟨⟨nd, rfl⟩⟩ := hd5; exact ⟨pw_below_drewN HWB.out _⟩); have HBK5 : Aside0 (w5.heap[w.heap.size]? = some zero33) := (by obtain ⟨⟨nd, rfl⟩⟩ := hd5; exact ⟨HBK.out⟩); clear hd5; have hII : IsS45 w0 _ g s a := HI0.out.below HWB5.out; have HII := Aside0.mk hII; obtain ⟨HGy, _⟩ := hII; have hd0 := cellS45_0 HGy; have hd1 := cellS45_1 HGy; have he0 := blk_frozen HGy 0; have he1 := blk_frozen HGy 1; have hbk := HBK5.out; unfold zero33 at hbk; have z0 := (blk_cell hbk 0).trans rfl; have z1 := (blk_cell hbk 1).trans rfl; have z2 := (blk_cell hbk 2).trans rfl; have z3 := (blk_cell hbk 3).trans rfl; have z4 := (blk_cell hbk 4).trans rfl; have z5 := (blk_cell hbk 5).trans rfl; have y0 := blk_frozen hbk 0; have y1 := blk_frozen hbk 1; have y2 := blk_frozen hbk 2; have y3 := blk_frozen hbk 3; have y4 := blk_frozen hbk 4; have y5 := blk_frozen hbk 5; have hgy := HII.out.lt; have hby := blk_lt hbk; have hne : g ≠ w.heap.size := Nat.ne_of_lt hlt; have HB3 := Aside0.mk (Below.trans HB.out (HWB5.out.mono HB.out.size)); have HK3 := Aside0.mk (KeepBut.of_below HWB5.out g none); clear hbk HGy)
        refine bodyPost_ret (v := .tuple #[tokV 5 a p ⟨#[]⟩ 0 false, .int .i64 0]) ?_ rfl ?_
        · exact res18 rfl rfl (blk_alloc (put6 (blk_far HBK5.out (Ne.symm hne) _) 5 a p ⟨#[]⟩ 0 false) _)
        · rw [HSO.out]
          refine ⟨?_, ?_, rfl, ?_⟩
          · with_reducible repeat (first | exact HB3.out | apply below_alloc | refine below_set ?_ HB.out.size | refine below_set ?_ (IsS45.ge HII.out))
          · with_reducible repeat (first | exact HK3.out | apply keep_alloc | apply KeepBut.set_ | refine keep_far ?_ (Nat.le_refl _) _)
          · with_reducible repeat (first | exact HII.out | apply IsS45.alloc | refine IsS45.set_1 (f1 := a) ?_ _ | refine IsS45.far ?_ hne _)
   · -- row 1
    have hmem : ∀ (j : Nat), j < 17 → ∃ p, signs1[j]? = some p ∧ rdOf ByteArray.empty signs1 (j : Int) = p ∧ p.size ≤ 3 := by
     intro j hj
     have h3 : ∀ q ∈ signs1, q.size ≤ 3 := by decide
     have hl : j < signs1.length := hj
     refine ⟨signs1[j], List.getElem?_eq_getElem hl, ?_, h3 _ (List.getElem_mem hl)⟩
     simp [rdOf, List.getD, List.getElem?_eq_getElem hl]
    have HM := Aside0.mk hmem
    clear hmem
    go_wp2
    go_loopg [75] 17 (fun gj v75 wy => ∃ j : Nat, v75 = .int .i64 j ∧ Aside0 (j + gj = 17) ∧ Aside0 (∀ q ∈ signs1.take j, hpB R q = false) ∧ Aside0 (Below w.heap.size w wy) ∧ Aside0 (wy.heap[w.heap.size]? = some zero33))
    case atStart => exact ⟨0, rfl, ⟨rfl⟩, ⟨by simp⟩, HWB, HBK⟩
    case round =>
     obtain ⟨j, rfl, HJ, HN, HWB, HBK⟩ := hrel
     cases gk with
     | zero =>
      obtain rfl : j = 17 := HJ.out
      go_wp2
      go_roundg gq
      case measure => omega
      case rel => exact ⟨2, rfl, ⟨by have := HI.out; omega⟩, ⟨fun k hk q hq => by
       by_cases e : k = 1
       · subst e; exact HN.out q hq
       · exact HNS.out k (by omega) q hq⟩, HWB, HBK⟩
     | succ gj =>
      obtain ⟨p, hp1, hp2, hp3⟩ := HM.out j (by have := HJ.out; omega)
      have hjn : j < 17 := by have := HJ.out; omega
      obtain ⟨ad, he, hx⟩ := Kd.at_string HC1.out (j : Int) (by omega) (by omega)
      injection he with he
      subst he
      rw [hp2] at hx
      replace hx := (HWB.out.cell (World.block_lt_of_cell? w _ hx)).trans hx
      simp only [Int.toNat_natCast] at hx
      have HP1 := Aside0.mk hp1
      clear hp1 hp2
      cases hpq : hpB R p
      · have HQ := Aside0.mk ((hp_eq R p).trans (congrArg some hpq))
        have HQ2 := Aside0.mk hpq
        clear hpq
        go_wp2_with (go_at_call 24; (with_reducible refine (strings_HasPrefix.calls R p false _ HQ.out).mono ?_); rintro e w' ⟨rfl, ⟨nd, rfl⟩⟩)
        go_roundg gj
        case measure => omega
        case rel => exact ⟨j + 1, by go_num, ⟨by have := HJ.out; omega⟩, ⟨fun q hq => by
         rw [List.take_add_one, HP1.out] at hq
         rcases List.mem_append.1 hq with hq | hq
         · exact HN.out q hq
         · simp at hq; subst hq; exact HQ2.out⟩, ⟨pw_below_drewN HWB.out _⟩, ⟨HBK.out⟩⟩
      · have HQ := Aside0.mk ((hp_eq R p).trans (congrArg some hpq))
        have hso : signR R = .ok ⟨5, p, ⟨#[]⟩, 0, false⟩ := by
         have : signOf R = some p := by
          unfold signOf
          rw [find_out (l := signs0) (HNS.out 0 (by omega))]; exact find_in HN.out HP1.out hpq
         unfold signR
         rw [this]
        have HSO := Aside0.mk hso
        clear hpq hso
        go_wp2_with (go_at_call 24; (with_reducible refine (strings_HasPrefix.calls R p true _ HQ.out).mono ?_); rintro e w5 ⟨rfl, hd5⟩; have HWB5 : Aside0 (Below w.heap.size w w5) := (by obtain ⟨⟨nd, rfl⟩⟩ := hd5; exact ⟨pw_below_drewN HWB.out _⟩); have HBK5 : Aside0 (w5.heap[w.heap.size]? = some zero33) := (by obtain ⟨⟨nd, rfl⟩⟩ := hd5; exact ⟨HBK.out⟩); clear hd5; have hII : IsS45 w0 _ g s a := HI0.out.below HWB5.out; have HII := Aside0.mk hII; obtain ⟨HGy, _⟩ := hII; have hd0 := cellS45_0 HGy; have hd1 := cellS45_1 HGy; have he0 := blk_frozen HGy 0; have he1 := blk_frozen HGy 1; have hbk := HBK5.out; unfold zero33 at hbk; have z0 := (blk_cell hbk 0).trans rfl; have z1 := (blk_cell hbk 1).trans rfl; have z2 := (blk_cell hbk 2).trans rfl; have z3 := (blk_cell hbk 3).trans rfl; have z4 := (blk_cell hbk 4).trans rfl; have z5 := (blk_cell hbk 5).trans rfl; have y0 := blk_frozen hbk 0; have y1 := blk_frozen hbk 1; have y2 := blk_frozen hbk 2; have y3 := blk_frozen hbk 3; have y4 := blk_frozen hbk 4; have y5 := blk_frozen hbk 5; have hgy := HII.out.lt; have hby := blk_lt hbk; have hne : g ≠ w.heap.size := Nat.ne_of_lt hlt; have HB3 := Aside0.mk (Below.trans HB.out (HWB5.out.mono HB.out.size)); have HK3 := Aside0.mk (KeepBut.of_below HWB5.out g none); clear hbk HGy)
        refine bodyPost_ret (v := .tuple #[tokV 5 a p ⟨#[]⟩ 0 false, .int .i64 0]) ?_ rfl ?_
        · exact res18 rfl rfl (blk_alloc (put6 (blk_far HBK5.out (Ne.symm hne) _) 5 a p ⟨#[]⟩ 0 false) _)
        · rw [HSO.out]
          refine ⟨?_, ?_, rfl, ?_⟩
          · with_reducible repeat (first | exact HB3.out | apply below_alloc | refine below_set ?_ HB.out.size | refine below_set ?_ (IsS45.ge HII.out))
          · with_reducible repeat (first | exact HK3.out | apply keep_alloc | apply KeepBut.set_ | refine keep_far ?_ (Nat.le_refl _) _)
          · with_reducible repeat (first | exact HII.out | apply IsS45.alloc | refine IsS45.set_1 (f1 := a) ?_ _ | refine IsS45.far ?_ hne _)
   · -- row 2
    have hmem : ∀ (j : Nat), j < 24 → ∃ p, signs2[j]? = some p ∧ rdOf ByteArray.empty signs2 (j : Int) = p ∧ p.size ≤ 3 := by
     intro j hj
     have h3 : ∀ q ∈ signs2, q.size ≤ 3 := by decide
     have hl : j < signs2.length := hj
     refine ⟨signs2[j], List.getElem?_eq_getElem hl, ?_, h3 _ (List.getElem_mem hl)⟩
     simp [rdOf, List.getD, List.getElem?_eq_getElem hl]
    have HM := Aside0.mk hmem
    clear hmem
    go_wp2
    go_loopg [75] 24 (fun gj v75 wy => ∃ j : Nat, v75 = .int .i64 j ∧ Aside0 (j + gj = 24) ∧ Aside0 (∀ q ∈ signs2.take j, hpB R q = false) ∧ Aside0 (Below w.heap.size w wy) ∧ Aside0 (wy.heap[w.heap.size]? = some zero33))
    case atStart => exact ⟨0, rfl, ⟨rfl⟩, ⟨by simp⟩, HWB, HBK⟩
    case round =>
     obtain ⟨j, rfl, HJ, HN, HWB, HBK⟩ := hrel
     cases gk with
     | zero =>
      obtain rfl : j = 24 := HJ.out
      go_wp2
      go_roundg gq
      case measure => omega
      case rel => exact ⟨3, rfl, ⟨by have := HI.out; omega⟩, ⟨fun k hk q hq => by
       by_cases e : k = 2
       · subst e; exact HN.out q hq
       · exact HNS.out k (by omega) q hq⟩, HWB, HBK⟩
     | succ gj =>
      obtain ⟨p, hp1, hp2, hp3⟩ := HM.out j (by have := HJ.out; omega)
      have hjn : j < 24 := by have := HJ.out; omega
      obtain ⟨ad, he, hx⟩ := Kd.at_string HC2.out (j : Int) (by omega) (by omega)
      injection he with he
      subst he
      rw [hp2] at hx
      replace hx := (HWB.out.cell (World.block_lt_of_cell? w _ hx)).trans hx
      simp only [Int.toNat_natCast] at hx
      have HP1 := Aside0.mk hp1
      clear hp1 hp2
      cases hpq : hpB R p
      · have HQ := Aside0.mk ((hp_eq R p).trans (congrArg some hpq))
        have HQ2 := Aside0.mk hpq
        clear hpq
        go_wp2_with (go_at_call 24; (with_reducible refine (strings_HasPrefix.calls R p false _ HQ.out).mono ?_); rintro e w' ⟨rfl, ⟨nd, rfl⟩⟩)
        go_roundg gj
        case measure => omega
        case rel => exact ⟨j + 1, by go_num, ⟨by have := HJ.out; omega⟩, ⟨fun q hq => by
         rw [List.take_add_one, HP1.out] at hq
         rcases List.mem_append.1 hq with hq | hq
         · exact HN.out q hq
         · simp at hq; subst hq; exact HQ2.out⟩, ⟨pw_below_drewN HWB.out _⟩, ⟨HBK.out⟩⟩
      · have HQ := Aside0.mk ((hp_eq R p).trans (congrArg some hpq))
        have hso : signR R = .ok ⟨5, p, ⟨#[]⟩, 0, false⟩ := by
         have : signOf R = some p := by
          unfold signOf
          rw [find_out (l := signs0) (HNS.out 0 (by omega)), find_out (l := signs1) (HNS.out 1 (by omega)), ← List.append_nil signs2]; exact find_in HN.out HP1.out hpq
         unfold signR
         rw [this]
        have HSO := Aside0.mk hso
        clear hpq hso
        go_wp2_with (go_at_call 24; (with_reducible refine (strings_HasPrefix.calls R p true _ HQ.out).mono ?_); rintro e w5 ⟨rfl, hd5⟩; have HWB5 : Aside0 (Below w.heap.size w w5) := (by obtain ⟨⟨nd, rfl⟩⟩ := hd5; exact ⟨pw_below_drewN HWB.out _⟩); have HBK5 : Aside0 (w5.heap[w.heap.size]? = some zero33) := (by obtain ⟨⟨nd, rfl⟩⟩ := hd5; exact ⟨HBK.out⟩); clear hd5; have hII : IsS45 w0 _ g s a := HI0.out.below HWB5.out; have HII := Aside0.mk hII; obtain ⟨HGy, _⟩ := hII; have hd0 := cellS45_0 HGy; have hd1 := cellS45_1 HGy; have he0 := blk_frozen HGy 0; have he1 := blk_frozen HGy 1; have hbk := HBK5.out; unfold zero33 at hbk; have z0 := (blk_cell hbk 0).trans rfl; have z1 := (blk_cell hbk 1).trans rfl; have z2 := (blk_cell hbk 2).trans rfl; have z3 := (blk_cell hbk 3).trans rfl; have z4 := (blk_cell hbk 4).trans rfl; have z5 := (blk_cell hbk 5).trans rfl; have y0 := blk_frozen hbk 0; have y1 := blk_frozen hbk 1; have y2 := blk_frozen hbk 2; have y3 := blk_frozen hbk 3; have y4 := blk_frozen hbk 4; have y5 := blk_frozen hbk 5; have hgy := HII.out.lt; have hby := blk_lt hbk; have hne : g ≠ w.heap.size := Nat.ne_of_lt hlt; have HB3 := Aside0.mk (Below.trans HB.out (HWB5.out.mono HB.out.size)); have HK3 := Aside0.mk (KeepBut.of_below HWB5.out g none); clear hbk HGy)
        refine bodyPost_ret (v := .tuple #[tokV 5 a p ⟨#[]⟩ 0 false, .int .i64 0]) ?_ rfl ?_
        · exact res18 rfl rfl (blk_alloc (put6 (blk_far HBK5.out (Ne.symm hne) _) 5 a p ⟨#[]⟩ 0 false) _)
        · rw [HSO.out]
          refine ⟨?_, ?_, rfl, ?_⟩
          · with_reducible repeat (first | exact HB3.out | apply below_alloc | refine below_set ?_ HB.out.size | refine below_set ?_ (IsS45.ge HII.out))
          · with_reducible repeat (first | exact HK3.out | apply keep_alloc | apply KeepBut.set_ | refine keep_far ?_ (Nat.le_refl _) _)
          · with_reducible repeat (first | exact HII.out | apply IsS45.alloc | refine IsS45.set_1 (f1 := a) ?_ _ | refine IsS45.far ?_ hne _)
end
end Go.Proofs.YtiljijckfkphhaaDoor.PLex
