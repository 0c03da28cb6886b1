/- lex.Tokens: printed by t8.py. -/
import Derived.Test.YtiljijckfkphhaaDoorLxToken
import Derived.Test.YtiljijckfkphhaaDoorPLexx10
namespace Go.Proofs.YtiljijckfkphhaaDoor.PLex
open Go.RowKit Go.Proofs.YtiljijckfkphhaaDoorW.PrintWords Go.Proofs.YtiljijckfkphhaaDoorW.PrintLast Go.Proofs.YtiljijckfkphhaaDoorW.PrintMore
set_option linter.unusedVariables false
set_option linter.unusedSectionVars false
set_option linter.unusedSimpArgs false
def tkS (a : Int) (t : TK) : S33 := ⟨t.kind, a, t.text, t.suffix, t.num, t.hex⟩
/-- The tokens, one behind the other. -/
def Lx.loop : Nat → ByteArray → Int → List S33 → Option (List S33 × Int × Int)
 | 0, _, _, _ => none
 | k + 1, s, a, out => (lex_reader_gap.f k s a).bind fun p => if p.2.1.data.toList = s.data.toList ∧ 0 ≤ p.2.2 ∧ p.2.2 ≤ s.size then
   (if p.1 = false then some ([], 3, p.2.2) else if p.2.2 = s.size then some (out, 0, 0) else
    (Lx.tok k s p.2.2).bind fun r => match r with
     | .error e => if e = 0 then none else some ([], e, p.2.2)
     | .ok t => if out.length = 6000 then some ([], 6, p.2.2) else if out.length < 6000 ∧ p.2.2 + t.text.size ≤ s.size then Lx.loop k s (p.2.2 + t.text.size) (out ++ [tkS p.2.2 t]) else none) else none
def Lx.Tokens.f (k : Nat) (s : ByteArray) : Option (List S33 × Int × Int) := if (s.size : Int) > 20000 then some ([], 6, 0) else Lx.loop k s 0 []
theorem wrong_calls (a b : Int) (w : World) : Calls Tryd.prog 16 #[.int .i64 a, .int .i64 b] w fun e w' => e = .returned (.agg #[.int .i64 a, .int .i64 b]) ∧ Below w.heap.size w w' := lex_wrong.calls a b a b w rfl
theorem put2 {w : World} {B : Nat} (h : w.heap[B]? = some (.cells #[.int .i64 0, .int .i64 0] 26 (0, 0))) (k b : Int) :
 ((w.setCell ⟨B, 0, none⟩ (.int .i64 k)).setCell ⟨B, 1, none⟩ (.int .i64 b)).heap[B]? = some (.cells #[.int .i64 k, .int .i64 b] 26 (0, 0)) :=
 blk_put (blk_put h 0 _ rfl) 1 _ rfl
theorem res9 {tmps : Array Value} {w : World} {B : Nat} {v : Value} {k b : Int} (h2 : tmps[3]? = some (.pointer (some ⟨B, 0, none⟩))) (h3 : tmps[2]? = some v)
 (hg : w.heap[B]? = some (.cells #[.int .i64 k, .int .i64 b] 26 (0, 0))) : (results Tryd.f9 tmps).run Tryd.prog w = .ok (.tuple #[v, .agg #[.int .i64 k, .int .i64 b]]) w := by
 have := results_tc (P := Tryd.prog) (fn := Tryd.f9) (p := 3) (u := 2) (ty := 26) rfl tmps w B 26 _ (0, 0) _ (by rw [Array.getD_eq_getD_getElem?, h2]; rfl) hg Tryd.underlying26 rfl (by kernel_rfl)
 rw [this, Array.getD_eq_getD_getElem?, h3]
 rfl
def zero26 : Obj := .cells #[.int .i64 0, .int .i64 0] 26 (0, 0)
set_option maxHeartbeats 8000000 in
set_option maxRecDepth 100000 in
theorem Lx.Tokens.calls (k : Nat) (a0 : ByteArray) (r1 : List (S33)) (r2 : Int) (r3 : Int) (w : World) (hG : GW w) (h : Lx.Tokens.f k a0 = some (r1, r2, r3)) :
  Calls Tryd.prog 9 #[.string a0] w fun e w' => ∃ v0_ : Value, e = .returned (.tuple #[v0_, .agg #[.int .i64 r2, .int .i64 r3]]) ∧ Kd.R k33 33 w' w.heap.size (fun _ => True) v0_ r1 ∧ Below w.heap.size w w' := by
 unfold Lx.Tokens.f at h
 have HG := Aside0.mk hG
 clear hG
 split at h
 · rename_i hbig
   have b0 : decide (20000 < (a0.size : Int)) = true := decide_eq_true hbig
   have b1 : decide (20000 < a0.size) = true := decide_eq_true (by omega)
   simp only [Option.some.injEq, Prod.mk.injEq] at h
   obtain ⟨rfl, rfl, rfl⟩ := h
   go_enter Tryd.func9, Tryd.ntmps9
   go_wp2_with (go_at_call 16; (with_reducible refine (wrong_calls 6 0 _).mono ?_); rintro e w5 ⟨rfl, hb5⟩; have hbk := blk_below (blk_new w zero26) hb5; unfold zero26 at hbk; have z0 := (blk_cell hbk 0).trans rfl; have z1 := (blk_cell hbk 1).trans rfl; have y0 := blk_frozen hbk 0; have y1 := blk_frozen hbk 1; have HBK := Aside0.mk hbk; have HB := Aside0.mk (Below.trans (below_alloc (Below.refl w.heap.size w) _) (hb5.mono (by simp))); clear hbk hb5)
   refine bodyPost_ret (v := .tuple #[.slice none 0 0, .agg #[.int .i64 6, .int .i64 0]]) ?_ rfl ?_
   · refine res9 rfl rfl ?_
     with_reducible refine put2 ?_ _ _
     exact HBK.out
   · refine ⟨_, rfl, Kd.R_nil _ _ _ _ _, ?_⟩
     with_reducible repeat (first | exact HB.out | refine below_set ?_ (Nat.le_refl _))
 · rename_i hbig
   have b0 : decide (20000 < (a0.size : Int)) = false := decide_eq_false hbig
   have b1 : decide (20000 < a0.size) = false := decide_eq_false (by omega)
   have hsz : a0.size ≤ 20000 := by omega
   have H := Aside0.mk h
   have HSZ := Aside0.mk hsz
   clear h hbig hsz
   go_enter Tryd.func9, Tryd.ntmps9
   go_wp2
   go_loopg [4] k (fun kq v4 wx => ∃ (a : Int) (xs : List S33), Aside0 (Lx.loop kq a0 a xs = some (r1, r2, r3)) ∧ Aside0 (wx.heap[w.heap.size]? = some zero26) ∧ Aside0 (IsS45 w wx (w.heap.size + 1) a0 a) ∧ Aside0 (Kd.R k33 33 wx w.heap.size (fun _ => True) v4 xs) ∧ Aside0 (Below w.heap.size w wx))
   case atStart => exact ⟨0, [], H, ⟨blk_alloc (blk_new _ _) _⟩, ⟨by have h_ := IsS45.new w (w.alloc (.cells #[.int .i64 0, .int .i64 0] 26)) a0 0 (below_alloc (Below.refl _ _) _); rw [show (w.alloc (.cells #[.int .i64 0, .int .i64 0] 26)).heap.size = w.heap.size + 1 by simp] at h_; exact h_⟩, ⟨Kd.R_nil _ _ _ _ _⟩, ⟨below_alloc (below_alloc (Below.refl _ _) _) _⟩⟩
   case round =>
    obtain ⟨a, xs, H, HBK, HI, HR, HB⟩ := hrel
    cases gk with
    | zero => exact absurd H.out (by simp [Lx.loop])
    | succ k1 =>
     have hh := H.out
     rw [Lx.loop] at hh
     obtain ⟨⟨b, s', a'⟩, hg1, hq⟩ := Option.bind_eq_some_iff.1 hh
     clear hh
     simp only at hq
     split at hq
     case isFalse => cases hq
     rename_i hc
     obtain ⟨hs', ha0, ha1⟩ := hc
     obtain rfl := ba_ext hs'
     have HG1 := Aside0.mk hg1
     clear hg1 hs'
     have hgw := HG
     cases b with
     | false =>
      simp only [if_true] at hq
      simp only [Option.some.injEq, Prod.mk.injEq] at hq
      obtain ⟨rfl, rfl, rfl⟩ := hq
      go_wp2_with (first | (go_at_call 17; (with_reducible refine (lex_reader_gap.calls k1 (w.heap.size + 1) s' a false s' a' w _ HI.out HB.out HG.out HG1.out).mono ?_); rintro e w5 ⟨rfl, hi5, hb5, hk5⟩; have HBK5 := Aside0.mk (hk5.blk HBK.out (by omega) (by simp)); have HI5 := Aside0.mk hi5; have HB5 := Aside0.mk hb5; obtain ⟨HGy, _⟩ := hi5; have hd0 := cellS45_0 HGy; have hd1 := cellS45_1 HGy; have he0 := blk_frozen HGy 0; have he1 := blk_frozen HGy 1; clear HGy hk5 hb5) | (go_at_call 16; (with_reducible refine (wrong_calls 3 a' _).mono ?_); rintro e w6 ⟨rfl, hb6⟩; have hbk := blk_below HBK5.out hb6; unfold zero26 at hbk; have z0 := (blk_cell hbk 0).trans rfl; have z1 := (blk_cell hbk 1).trans rfl; have y0 := blk_frozen hbk 0; have y1 := blk_frozen hbk 1; have HBK6 := Aside0.mk hbk; have HB6 := Aside0.mk (Below.trans HB5.out (hb6.mono HB5.out.size)); clear hbk hb6))
      refine bodyPost_ret (v := .tuple #[.slice none 0 0, .agg #[.int .i64 3, .int .i64 a']]) ?_ rfl ?_
      · refine res9 rfl rfl ?_
        with_reducible refine put2 ?_ _ _
        exact HBK6.out
      · refine ⟨_, rfl, Kd.R_nil _ _ _ _ _, ?_⟩
        with_reducible repeat (first | exact HB6.out | refine below_set ?_ (Nat.le_refl _))
     | true =>
      simp only [Bool.true_eq_false, if_false] at hq
      split at hq
      · rename_i hend
        have e0 : (a' == (s'.size : Int)) = true := beq_iff_eq.2 hend
        simp only [Option.some.injEq, Prod.mk.injEq] at hq
        obtain ⟨rfl, rfl, rfl⟩ := hq
        go_wp2_with (go_at_call 17; (with_reducible refine (lex_reader_gap.calls k1 (w.heap.size + 1) s' a true s' a' w _ HI.out HB.out HG.out HG1.out).mono ?_); rintro e w5 ⟨rfl, hi5, hb5, hk5⟩; have HBK5 := Aside0.mk (hk5.blk HBK.out (by omega) (by simp)); have HR5 := Aside0.mk (Kd.R_mono (Kd.R_keep (HI.out.apart HR.out (by decide)) hk5 (fun k hk => hk.2)) (fun _ _ => trivial)); have HI5 := Aside0.mk hi5; have HB5 := Aside0.mk hb5; obtain ⟨HGy, _⟩ := hi5; have hd0 := cellS45_0 HGy; have hd1 := cellS45_1 HGy; have he0 := blk_frozen HGy 0; have he1 := blk_frozen HGy 1; have hbk := HBK5.out; unfold zero26 at hbk; have z0 := (blk_cell hbk 0).trans rfl; have z1 := (blk_cell hbk 1).trans rfl; have y0 := blk_frozen hbk 0; have y1 := blk_frozen hbk 1; clear HGy hk5 hb5 hbk)
        refine bodyPost_ret (v := .tuple #[u4, .agg #[.int .i64 0, .int .i64 0]]) ?_ rfl ?_
        · refine res9 rfl rfl ?_
          with_reducible refine put2 ?_ _ _
          exact HBK5.out
        · refine ⟨_, rfl, ?_, ?_⟩
          · exact Kd.R_mono (Kd.R_far (Kd.R_far (Kd.R_types HR5.out HBK5.out (by decide)) (p := ⟨w.heap.size, 0, none⟩) (fun k hk => hk.2) _) (p := ⟨w.heap.size, 1, none⟩) (fun k hk => hk.2) _) (fun _ _ => trivial)
          · with_reducible repeat (first | exact HB5.out | refine below_set ?_ (Nat.le_refl _))
      · rename_i hend
        have e0 : (a' == (s'.size : Int)) = false := beq_eq_false_iff_ne.2 hend
        obtain ⟨r, ht, hq2⟩ := Option.bind_eq_some_iff.1 hq
        clear hq
        have HT := Aside0.mk ht
        clear ht
        have hsz2 := HSZ.out
        cases r with
        | error n =>
         simp only at hq2
         split at hq2
         · cases hq2
         rename_i hn
         have n0 : (n != 0) = true := bne_iff_ne.2 hn
         have n1 : (n == 0) = false := beq_eq_false_iff_ne.2 hn
         simp only [Option.some.injEq, Prod.mk.injEq] at hq2
         obtain ⟨rfl, rfl, rfl⟩ := hq2
         go_wp2_with (first | (go_at_call 17; (with_reducible refine (lex_reader_gap.calls k1 (w.heap.size + 1) s' a true s' a' w _ HI.out HB.out HG.out HG1.out).mono ?_); rintro e w5 ⟨rfl, hi5, hb5, hk5⟩; have HBK5 := Aside0.mk (hk5.blk HBK.out (by omega) (by simp)); have HR5 := Aside0.mk (Kd.R_mono (Kd.R_keep (HI.out.apart HR.out (by decide)) hk5 (fun k hk => hk.2)) (fun _ _ => trivial)); have HI5 := Aside0.mk hi5; have HB5 := Aside0.mk hb5; obtain ⟨HGy, _⟩ := hi5; have hd0 := cellS45_0 HGy; have hd1 := cellS45_1 HGy; have he0 := blk_frozen HGy 0; have he1 := blk_frozen HGy 1; have hbk := HBK5.out; unfold zero26 at hbk; have z0 := (blk_cell hbk 0).trans rfl; have z1 := (blk_cell hbk 1).trans rfl; have y0 := blk_frozen hbk 0; have y1 := blk_frozen hbk 1; clear HGy hk5 hb5 hbk) | (go_at_call 18; (with_reducible refine (token_calls k1 (w.heap.size + 1) s' a' (.error n) w _ HI5.out HB5.out HG.out ha0 (by omega) HSZ.out HT.out).mono ?_); rintro e w6 ⟨hb6, hk6, ⟨⟨kq, bq, xq, dq, mq, fq, rfl⟩, hi6⟩⟩; have HBK6 := Aside0.mk (hk6.blk HBK5.out (by omega) (by simp)); have HR6 := Aside0.mk (Kd.R_mono (Kd.R_keep (HI5.out.apart HR5.out (by decide)) hk6 (fun k hk => hk.2)) (fun _ _ => trivial)); have HI6 := Aside0.mk hi6; have HB6 := Aside0.mk hb6; obtain ⟨HGx, _⟩ := hi6; have hp0 := cellS45_0 HGx; have hp1 := cellS45_1 HGx; have hq0 := blk_frozen HGx 0; have hq1 := blk_frozen HGx 1; have hbk := HBK6.out; unfold zero26 at hbk; have x0 := (blk_cell hbk 0).trans rfl; have x1 := (blk_cell hbk 1).trans rfl; have v0 := blk_frozen hbk 0; have v1 := blk_frozen hbk 1; have hgt6 := blk_lt hbk; have hgl6 := HI6.out.lt; clear HGx hk6 hb6 hbk) | (go_at_call 16; (with_reducible refine (wrong_calls n a' _).mono ?_); rintro e w7 ⟨rfl, hb7⟩; have HBK7 := Aside0.mk (blk_below (blk_alloc HBK6.out _) hb7); have HB7 := Aside0.mk (Below.trans (below_alloc HB6.out _) (hb7.mono (by have := HB6.out.size; simp; omega))); have hbk := HBK7.out; unfold zero26 at hbk; have s0 := (blk_cell hbk 0).trans rfl; have s1 := (blk_cell hbk 1).trans rfl; have t0 := blk_frozen hbk 0; have t1 := blk_frozen hbk 1; clear hbk hb7))
         refine bodyPost_ret (v := .tuple #[.slice none 0 0, .agg #[.int .i64 n, .int .i64 a']]) ?_ rfl ?_
         · refine res9 rfl rfl ?_
           with_reducible refine put2 ?_ _ _
           exact HBK7.out
         · refine ⟨_, rfl, Kd.R_nil _ _ _ _ _, ?_⟩
           with_reducible repeat (first | exact HB7.out | refine below_set ?_ (Nat.le_refl _))

        | ok t =>
         simp only at hq2
         obtain ⟨A, c, hv, _, _⟩ := Kd.R_reads HR.out
         subst hv
         split at hq2
         · rename_i hlen
           have l0 : ((xs.length : Int) == 6000) = true := beq_iff_eq.2 (by omega)
           have l1 : (xs.length == 6000) = true := beq_iff_eq.2 hlen
           simp only [Option.some.injEq, Prod.mk.injEq] at hq2
           obtain ⟨rfl, rfl, rfl⟩ := hq2
           have HLEN := Aside0.mk hlen
           clear hlen
           go_wp2_with (first | (go_at_call 17; (with_reducible refine (lex_reader_gap.calls k1 (w.heap.size + 1) s' a true s' a' w _ HI.out HB.out HG.out HG1.out).mono ?_); rintro e w5 ⟨rfl, hi5, hb5, hk5⟩; have HBK5 := Aside0.mk (hk5.blk HBK.out (by omega) (by simp)); have HR5 := Aside0.mk (Kd.R_mono (Kd.R_keep (HI.out.apart HR.out (by decide)) hk5 (fun k hk => hk.2)) (fun _ _ => trivial)); have HI5 := Aside0.mk hi5; have HB5 := Aside0.mk hb5; obtain ⟨HGy, _⟩ := hi5; have hd0 := cellS45_0 HGy; have hd1 := cellS45_1 HGy; have he0 := blk_frozen HGy 0; have he1 := blk_frozen HGy 1; have hbk := HBK5.out; unfold zero26 at hbk; have z0 := (blk_cell hbk 0).trans rfl; have z1 := (blk_cell hbk 1).trans rfl; have y0 := blk_frozen hbk 0; have y1 := blk_frozen hbk 1; clear HGy hk5 hb5 hbk) | (go_at_call 18; (with_reducible refine (token_calls k1 (w.heap.size + 1) s' a' (.ok t) w _ HI5.out HB5.out HG.out ha0 (by omega) HSZ.out HT.out).mono ?_); rintro e w6 ⟨hb6, hk6, ⟨rfl, hi6⟩⟩; have HBK6 := Aside0.mk (hk6.blk HBK5.out (by omega) (by simp)); have HR6 := Aside0.mk (Kd.R_mono (Kd.R_keep (HI5.out.apart HR5.out (by decide)) hk6 (fun k hk => hk.2)) (fun _ _ => trivial)); have HI6 := Aside0.mk hi6; have HB6 := Aside0.mk hb6; obtain ⟨HGx, _⟩ := hi6; have hp0 := cellS45_0 HGx; have hp1 := cellS45_1 HGx; have hq0 := blk_frozen HGx 0; have hq1 := blk_frozen HGx 1; have hbk := HBK6.out; unfold zero26 at hbk; have x0 := (blk_cell hbk 0).trans rfl; have x1 := (blk_cell hbk 1).trans rfl; have v0 := blk_frozen hbk 0; have v1 := blk_frozen hbk 1; have hgt6 := blk_lt hbk; have hgl6 := HI6.out.lt; clear HGx hk6 hb6 hbk) | (go_at_call 16; (with_reducible refine (wrong_calls 6 a' _).mono ?_); rintro e w7 ⟨rfl, hb7⟩; have HBK7 := Aside0.mk (blk_below (blk_alloc HBK6.out _) hb7); have HB7 := Aside0.mk (Below.trans (below_alloc HB6.out _) (hb7.mono (by have := HB6.out.size; simp; omega))); have hbk := HBK7.out; unfold zero26 at hbk; have s0 := (blk_cell hbk 0).trans rfl; have s1 := (blk_cell hbk 1).trans rfl; have t0 := blk_frozen hbk 0; have t1 := blk_frozen hbk 1; clear hbk hb7))
           refine bodyPost_ret (v := .tuple #[.slice none 0 0, .agg #[.int .i64 6, .int .i64 a']]) ?_ rfl ?_
           · refine res9 rfl rfl ?_
             with_reducible refine put2 ?_ _ _
             exact HBK7.out
           · refine ⟨_, rfl, Kd.R_nil _ _ _ _ _, ?_⟩
             with_reducible repeat (first | exact HB7.out | refine below_set ?_ (Nat.le_refl _))

         · rename_i hlen
           split at hq2
           case isFalse => cases hq2
           rename_i hl2
           have l0 : ((xs.length : Int) == 6000) = false := beq_eq_false_iff_ne.2 (by omega)
           have l1 : (xs.length == 6000) = false := beq_eq_false_iff_ne.2 hlen
           have HLN := Aside0.mk hl2.1
           have HQ := Aside0.mk hq2
           clear hq2 hlen hl2
           go_wp2_with (first | (go_at_call 17; (with_reducible refine (lex_reader_gap.calls k1 (w.heap.size + 1) s' a true s' a' w _ HI.out HB.out HG.out HG1.out).mono ?_); rintro e w5 ⟨rfl, hi5, hb5, hk5⟩; have HBK5 := Aside0.mk (hk5.blk HBK.out (by omega) (by simp)); have HR5 := Aside0.mk (Kd.R_mono (Kd.R_keep (HI.out.apart HR.out (by decide)) hk5 (fun k hk => hk.2)) (fun _ _ => trivial)); have HI5 := Aside0.mk hi5; have HB5 := Aside0.mk hb5; obtain ⟨HGy, _⟩ := hi5; have hd0 := cellS45_0 HGy; have hd1 := cellS45_1 HGy; have he0 := blk_frozen HGy 0; have he1 := blk_frozen HGy 1; have hbk := HBK5.out; unfold zero26 at hbk; have z0 := (blk_cell hbk 0).trans rfl; have z1 := (blk_cell hbk 1).trans rfl; have y0 := blk_frozen hbk 0; have y1 := blk_frozen hbk 1; clear HGy hk5 hb5 hbk) | (go_at_call 18; (with_reducible refine (token_calls k1 (w.heap.size + 1) s' a' (.ok t) w _ HI5.out HB5.out HG.out ha0 (by omega) HSZ.out HT.out).mono ?_); rintro e w6 ⟨hb6, hk6, ⟨rfl, hi6⟩⟩; have HBK6 := Aside0.mk (hk6.blk HBK5.out (by omega) (by simp)); have HR6 := Aside0.mk (Kd.R_mono (Kd.R_keep (HI5.out.apart HR5.out (by decide)) hk6 (fun k hk => hk.2)) (fun _ _ => trivial)); have HI6 := Aside0.mk hi6; have HB6 := Aside0.mk hb6; obtain ⟨HGx, _⟩ := hi6; have hp0 := cellS45_0 HGx; have hp1 := cellS45_1 HGx; have hq0 := blk_frozen HGx 0; have hq1 := blk_frozen HGx 1; have hbk := HBK6.out; unfold zero26 at hbk; have x0 := (blk_cell hbk 0).trans rfl; have x1 := (blk_cell hbk 1).trans rfl; have v0 := blk_frozen hbk 0; have v1 := blk_frozen hbk 1; have hgt6 := blk_lt hbk; have hgl6 := HI6.out.lt; clear HGx hk6 hb6 hbk) | ((with_reducible refine gate_builtin (b := .append) (xs := #[.tmp 54, .tmp 56]) rfl ?_); (try (refine gate_guard (by rfl) ?_; dsimp only)); at_builtin; refine Kd.R_append k33 (w0 := w) w.heap.size rfl (.tmp 54) (.tmp 56) 23 33 (.agg #[(.int .i64 0), (.int .i64 0), (.string ⟨#[]⟩), (.string ⟨#[]⟩), (.int .u64 0), (.bool false)]) 64 rfl Tryd.underlying23 info33 rfl (by decide) (by omega) (.slice A xs.length c) xs (tkS a' t) [.int .i64 t.kind, .int .i64 a', .string t.text, .string t.suffix, .int .u64 t.num, .bool t.hex] (fun _ => True) (fun _ => False) rfl ?aX ?aP (fun _ hk => hk.elim) ?aF ?aO ?aB ?aS ?aL ?_; (case aX => rw [show (w6.alloc (.cells #[.int .i64 t.kind, .int .i64 a', .string t.text, .string t.suffix, .int .u64 t.num, .bool t.hex] 33)).heap.size = w6.heap.size + 1 by simp]; rfl); (case aP => exact k33_mkM _ _ _ (tkS a' t)); (case aB => exact (by with_reducible repeat (first | exact HB6.out | apply below_alloc | apply pw_below_drewN | apply below_drew1))); (case aF => exact fun _ _ => trivial); (case aO => exact (by (with_reducible repeat (first | apply Kd.R_alloc | apply Kd.R_drewN | apply Kd.R_drew)); exact HR6.out)); (case aS => exact (below_size (by with_reducible repeat (first | exact HB6.out | apply below_alloc | apply pw_below_drewN | apply below_drew1)))); (case aL => have := HLN.out; omega); intro v24 w24 ho hb hg hat; have HBK8 := Aside0.mk (blk_grown (o := zero26) (by (with_reducible repeat (first | refine blk_drewN ?_ _ | refine blk_drew ?_ | refine blk_alloc ?_ _)); exact HBK6.out) hg (Kd.R_ne HR6.out HBK6.out (by decide))); have HI8 := Aside0.mk (IsS45.grown (w0 := w) (by with_reducible repeat (first | exact HI6.out | apply IsS45.alloc | apply IsS45.drewN | apply IsS45.drew)) hg (IsS45.own_ne HI6.out HR6.out (by decide))); have HB8 := Aside0.mk hb; have HR8 := Aside0.mk ho; clear ho hb hg hat))
           go_roundg k1
           case measure => omega
           case rel => exact ⟨a' + (t.text.size : Int), xs ++ [tkS a' t], HQ, HBK8, HI8, HR8, HB8⟩
end Go.Proofs.YtiljijckfkphhaaDoor.PLex
