import Derived.Test.YtodnbclphjgofaaMovTurnsP
import Derived.Test.YtodnbclphjgofaaPureMovesRings
import Derived.IntWalk
namespace Go.Proofs.Ytodnbclphjgofaa.PMov
open Go.RowKit Go.Maps Go.Proofs.YtodnbclphjgofaaW.PrintWords Go.Proofs.YtodnbclphjgofaaW.PrintLast Go.Proofs.YtodnbclphjgofaaW.PrintMore Go.Proofs.Ytodnbclphjgofaa.Cap
attribute [local go_sem] max2_int min2_int max_two min_two max_three min_three max_four min_four
set_option linter.unusedVariables false
set_option linter.unusedSimpArgs false
theorem turnsMs_succ (many by_ i : Nat) : turnsMs many by_ (i + 1) = turnsMs many by_ i ++ [(⟨(i : Int), (((i + by_) % many : Nat) : Int)⟩ : S32)] := by
 simp [turnsMs, List.range_succ]
theorem turnsMs_len (many by_ i : Nat) : (turnsMs many by_ i).length = i := by simp [turnsMs]
/-- The array of places, whole. -/
def arrOf (xs : List Int) : Array Value := (xs.map (Value.int .i64)).toArray
def Arr (W : World) (b : Nat) (xs : List Int) : Prop := W.heap[b]? = some (.cells (arrOf xs) 40 (0, 0))
theorem Arr.cell {W : World} {b : Nat} {xs : List Int} (h : Arr W b xs) {i : Nat} (hi : i < xs.length) : W.cell? ⟨b, i, none⟩ = some (.int .i64 (xs.getD i 0)) := by
 rw [blk_cell h i]
 simp [arrOf, List.getD, List.getElem?_eq_getElem hi]
theorem Arr.free {W : World} {b : Nat} {xs : List Int} (h : Arr W b xs) (i : Nat) : W.frozen? ⟨b, i, none⟩ = false := blk_frozen h i
theorem Arr.set_ {W : World} {b : Nat} {xs : List Int} (h : Arr W b xs) (i : Nat) (v : Int) : Arr (W.setCell ⟨b, i, none⟩ (.int .i64 v)) b (xs.set i v) := by
 have h1 := blk_set h i (.int .i64 v)
 unfold Arr
 rw [h1]
 simp [arrOf, List.map_set]
theorem Arr.below {W W1 : World} {b : Nat} {xs : List Int} (h : Arr W b xs) (hb : Below W.heap.size W W1) : Arr W1 b xs := (hb.block b (blk_lt h)).trans h
def initL (i : Nat) : List Int := (List.range i).map (fun (j : Nat) => (j : Int)) ++ List.replicate (31 - i) 0
theorem initL_len (i : Nat) (h : i ≤ 31) : (initL i).length = 31 := by simp [initL]; omega
theorem initL_succ (i : Nat) (h : i < 31) : initL (i + 1) = (initL i).set i (i : Int) := by
 unfold initL
 rw [List.set_append_right _ _ (by simp), List.range_succ, List.map_append, List.append_assoc]
 congr 1
 simp only [List.length_map, List.length_range, Nat.sub_self]
 obtain ⟨d, hd⟩ : ∃ d, 31 - i = d + 1 := ⟨30 - i, by omega⟩
 rw [hd, show 31 - (i + 1) = d by omega]
 rfl
theorem initL_all : initL 31 = id31 := by simp [initL, id31]
theorem initL_zero : arrOf (initL 0) = Array.replicate 31 (.int .i64 0) := by rfl
set_option maxHeartbeats 8000000 in
set_option maxRecDepth 100000 in
theorem turns_walk (a0 a1 : Int) (w : World) : Calls Try.prog 5 #[.int .i64 a0, .int .i64 a1] w fun e w' => e = .returned (.bool true) ∧ Below w.heap.size w w' := by
 obtain ⟨m, hm, e0⟩ := low_val a0 24 (by decide) (by decide)
 obtain ⟨u, hu, e1⟩ := low_val a1 (m + 1) (by omega) (by omega)
 obtain ⟨k, hk⟩ : ∃ k : Nat, k = 60 := ⟨_, rfl⟩
 obtain ⟨out, hO, hok, hrd⟩ := turns_told k m u hk hm hu
 have hu32 := Try.underlying32
 have E0 : Aside0 (spokeshavelaw0_Low.f a0 24 = some (m : Int)) := ⟨e0⟩
 have E1 : Aside0 (spokeshavelaw0_Low.f a1 (1 + (m : Int)) = some (u : Int)) := ⟨by rw [show (1 + (m : Int)) = ((m + 1 : Nat) : Int) by omega]; exact e1⟩
 have HOr := Aside0.mk hO
 have HOk := Aside0.mk hok
 have HRd := Aside0.mk hrd
 have HKw : Aside0 (spokeshavelaw21_awake.f k = some true) := ⟨awake_ge k (by omega)⟩
 have HB := Aside0.mk (Below.refl w.heap.size w)
 clear e0 e1 hO hok hrd hk
 go_enter Try.func5, Try.ntmps5
 go_wp2_with (first | (go_at_call 15; (with_reducible refine (spokeshavelaw0_Low.calls a0 24 (m : Int) _ E0.out).mono ?_); rintro e w' ⟨rfl, ⟨nd, rfl⟩⟩) | (go_at_call 15; (with_reducible refine (spokeshavelaw0_Low.calls a1 (1 + (m : Int)) (u : Int) _ E1.out).mono ?_); rintro e w' ⟨rfl, ⟨nd, rfl⟩⟩))
 go_loopw [5, 6] (fun v5 v6 wr => ∃ i : Nat, v6 = .int .i64 i ∧ Aside0 (i ≤ m + 1) ∧ Aside0 (Kd.R k32 32 wr w.heap.size (fun _ => True) v5 (turnsMs (m + 1) u i)) ∧ Aside0 (Below w.heap.size w wr)) (fun _ v6 _ => m + 1 - (intOf v6).toNat)
 case atStart => exact ⟨0, rfl, ⟨by omega⟩, ⟨Kd.R_nil _ _ _ _ _⟩, ⟨by repeat (first | (with_reducible first | exact HB.out | apply below_alloc | apply pw_below_drewN | apply below_drew1) | exact HB.out)⟩⟩
 case round =>
  clear HB
  obtain ⟨i, rfl, HI, HO, HB⟩ := hrel
  by_cases hlt : i < m + 1
  · have b0 : decide ((i : Int) < 1 + (m : Int)) = true := decide_eq_true (by omega)
    have HI2 := Aside0.mk hlt
    have hmod : ((i : Int) + (u : Int)) % (1 + (m : Int)) = (((i + u) % (m + 1) : Nat) : Int) := by rw [show (1 + (m : Int)) = ((m + 1 : Nat) : Int) by omega]; push_cast; rfl
    have HMs := Aside0.mk (show turnsMs (m + 1) u (i + 1) = turnsMs (m + 1) u i ++ [(⟨(i : Int), ((i : Int) + (u : Int)) % ((m : Int) + 1)⟩ : S32)] by rw [turnsMs_succ]; push_cast; rfl)
    go_wp2_with (at_builtin; refine Kd.R_append k32 (w0 := w) w.heap.size rfl (.tmp 25) (.tmp 33) 22 32 (.agg #[(.int .i64 0), (.int .i64 0)]) 16 rfl Try.underlying22 info32 rfl (by decide) (by omega) _ (turnsMs (m + 1) u i) (⟨(i : Int), ((i : Int) + (u : Int)) % ((m : Int) + 1)⟩ : S32) [.int .i64 (i : Int), .int .i64 (((i : Int) + (u : Int)) % ((m : Int) + 1))] (fun _ => True) (fun _ => False) rfl rfl ?aP (fun _ hk => hk.elim) ?aF ?aO ?aB ?aS ?aL ?_; (case aP => exact k32_mkM _ _ _ (⟨(i : Int), ((i : Int) + (u : Int)) % ((m : Int) + 1)⟩ : S32)); (case aO => exact HO.out); (case aB => exact HB.out); (case aF => exact (fun _ _ => trivial)); (case aS => exact HB.out.size); (case aL => rw [turnsMs_len]; have := HI2.out; omega); intro v1 w1 ho hb hg hat; have HO1 := Aside0.mk ho; have HB1 := Aside0.mk hb; clear ho hb hg hat)
    go_roundw
    case measure => simp [intOf]; have := HI2.out; omega
    case rel => exact ⟨i + 1, by go_num, ⟨by have := HI2.out; omega⟩, ⟨by rw [HMs.out]; exact HO1.out⟩, HB1⟩
  · have hi : i = m + 1 := by have := HI.out; omega
    subst hi
    have b0 : decide (((m + 1 : Nat) : Int) < 1 + (m : Int)) = false := decide_eq_false (by omega)
    obtain ⟨A, c, ev⟩ := Kd.R_slice HO.out
    subst ev
    clear hlt
    have hok := HOk.out
    simp only [outOk, Bool.and_eq_true, Bool.or_eq_true, bne_iff_ne, beq_iff_eq, decide_eq_true_eq, ne_eq] at hok
    obtain ⟨⟨h1, h2⟩, h3⟩ := hok
    have HIn := Aside0.mk h3
    have HOl := Aside0.mk (show out.length ≤ 48 by omega)
    have b2 : decide (2 * (1 + (m : Int)) < (out.length : Int)) = false := decide_eq_false (by omega)
    have hcase : ((u : Int) == 0) = false ∨ (((u : Int) == 0) = true ∧ decide (0 < out.length) = false) := by
     by_cases h0 : u = 0
     · right
       refine ⟨by simp [h0], decide_eq_false ?_⟩
       rcases h1 with h1 | h1
       · exact absurd h0 h1
       · omega
     · left; simp [h0]
    clear h1 h2 h3
    rcases hcase with bu | ⟨bu, bl⟩
    rotate_left
    have bl2 : decide ((0 : Int) < (out.length : Int)) = false := decide_eq_false (by have := of_decide_eq_false bl; omega)
    rotate_left
    all_goals
     go_wp2_with (go_at_call 7; (with_reducible refine (Mov.moves_Order.calls k _ _ (turnsMs (m + 1) u (m + 1)) 30 out true _ ?side1 ?side2 HOr.out).mono ?_); (case side1 => exact (Kd.R_reads' HO.out).2.2); (case side2 => exact (Kd.R_reads' HO.out).2.1); rintro e w3 ⟨v3, rfl, ho, hb⟩; have HQ0 := Aside0.mk ho; have HB3 := Aside0.mk (below_step HB.out hb); clear ho hb; obtain ⟨Ao, co, eo⟩ := Kd.R_slice HQ0.out; subst eo)
     have HG0 : Aside0 (w.heap.size ≤ w3.heap.size) := ⟨HB3.out.size⟩
     obtain ⟨b, hb⟩ : ∃ b, b = w3.heap.size := ⟨_, rfl⟩
     rw [← hb] at HG0
     have HG := HG0
     have HArr0 : Aside0 (Arr (w3.alloc (.cells #[.int .i64 0, .int .i64 0, .int .i64 0, .int .i64 0, .int .i64 0, .int .i64 0, .int .i64 0, .int .i64 0, .int .i64 0, .int .i64 0, .int .i64 0, .int .i64 0, .int .i64 0, .int .i64 0, .int .i64 0, .int .i64 0, .int .i64 0, .int .i64 0, .int .i64 0, .int .i64 0, .int .i64 0, .int .i64 0, .int .i64 0, .int .i64 0, .int .i64 0, .int .i64 0, .int .i64 0, .int .i64 0, .int .i64 0, .int .i64 0, .int .i64 0] 40)) b (initL 0)) := ⟨by rw [hb]; exact blk_new w3 _⟩
     have HR0 := Aside0.mk (Kd.R_alloc (Kd.R_lower HQ0.out HB.out.size) (.cells #[.int .i64 0, .int .i64 0, .int .i64 0, .int .i64 0, .int .i64 0, .int .i64 0, .int .i64 0, .int .i64 0, .int .i64 0, .int .i64 0, .int .i64 0, .int .i64 0, .int .i64 0, .int .i64 0, .int .i64 0, .int .i64 0, .int .i64 0, .int .i64 0, .int .i64 0, .int .i64 0, .int .i64 0, .int .i64 0, .int .i64 0, .int .i64 0, .int .i64 0, .int .i64 0, .int .i64 0, .int .i64 0, .int .i64 0, .int .i64 0, .int .i64 0] 40))
     have HB4 := Aside0.mk (below_alloc HB3.out (.cells #[.int .i64 0, .int .i64 0, .int .i64 0, .int .i64 0, .int .i64 0, .int .i64 0, .int .i64 0, .int .i64 0, .int .i64 0, .int .i64 0, .int .i64 0, .int .i64 0, .int .i64 0, .int .i64 0, .int .i64 0, .int .i64 0, .int .i64 0, .int .i64 0, .int .i64 0, .int .i64 0, .int .i64 0, .int .i64 0, .int .i64 0, .int .i64 0, .int .i64 0, .int .i64 0, .int .i64 0, .int .i64 0, .int .i64 0, .int .i64 0, .int .i64 0] 40))
     generalize w3.alloc _ = w4 at HArr0 HR0 HB4 ⊢
     rw [← hb]
     clear hb HG0 HQ0 HB3 HB
     go_loopw [10] (fun v10 wr => ∃ i : Nat, v10 = .int .i64 i ∧ Aside0 (i ≤ 31) ∧ Aside0 (Arr wr b (initL i)) ∧ Aside0 (Kd.R k32 32 wr w.heap.size (fun _ => True) (.slice Ao out.length co) out) ∧ Aside0 (Below w.heap.size w wr)) (fun v10 _ => 31 - (intOf v10).toNat)
     case atStart => exact ⟨0, rfl, ⟨by omega⟩, HArr0, HR0, HB4⟩
     case round =>
      clear HArr0 HR0 HB4
      obtain ⟨i, rfl, HI, HA, HR, HB⟩ := hrel
      by_cases hlt : i < 31
      · have hc := HA.out.cell (i := i) (by rw [initL_len i (by omega)]; exact hlt)
        have hf := HA.out.free i
        have b3 : decide ((i : Int) < 31) = true := decide_eq_true (by omega)
        have HI2 := Aside0.mk hlt
        go_wp2
        go_roundw
        case measure => simp [intOf]; have := HI2.out; omega
        case rel => exact ⟨i + 1, by go_num, ⟨by have := HI2.out; omega⟩, ⟨by rw [initL_succ i HI2.out]; exact HA.out.set_ i i⟩, ⟨Kd.R_set HR.out HA.out (by decide) i _⟩, ⟨below_set HB.out HG.out⟩⟩
      · have hi : i = 31 := by have := HI.out; omega
        subst hi
        have HA31 : Aside0 (Arr wr b (atR out 0)) := ⟨by rw [show atR out 0 = initL 31 from initL_all.symm]; exact HA.out⟩
        clear hlt HA
        go_wp2
        go_loopg [11] (m + 1) (fun kq v11 wr => ∃ r : Nat, v11 = .int .i64 r ∧ Aside0 (1 ≤ r) ∧ Aside0 (kq + r = m + 2) ∧ Aside0 (Arr wr b (atR out (r - 1))) ∧ Aside0 (Kd.R k32 32 wr w.heap.size (fun _ => True) (.slice Ao out.length co) out) ∧ Aside0 (Below w.heap.size w wr))
        case atStart => exact ⟨1, rfl, ⟨by omega⟩, ⟨by omega⟩, HA31, HR, HB⟩
        case round =>
         clear HA31 HR HB HI
         obtain ⟨r, rfl, H1, HI, HA, HR, HB⟩ := hrel
         cases gk with
         | zero =>
          have hr : r = m + 2 := by have := HI.out; omega
          have b3 : decide ((r : Int) ≤ 1 + (m : Int)) = false := decide_eq_false (by omega)
          clear hr
          go_wp2_with (go_at_call 6; (with_reducible refine (spokeshavelaw21_awake.calls k true _ HKw.out).mono ?_); rintro e w5 ⟨rfl, hb⟩; have HB5 := Aside0.mk (below_step HB.out hb); clear hb)
          go_ret
          exact ⟨rfl, HB5.out⟩
         | succ d =>
          have hr1 := H1.out
          have hr : r ≤ m + 1 := by have := HI.out; omega
          have b3 : decide ((r : Int) ≤ 1 + (m : Int)) = true := decide_eq_true (by omega)
          go_wp2
          go_loopg [12] out.length (fun kq v12 wr => ∃ j : Nat, v12 = .int .i64 j ∧ Aside0 (kq + j = out.length) ∧ Aside0 (Arr wr b ((out.take j).foldl stepAt (atR out (r - 1)))) ∧ Aside0 (Kd.R k32 32 wr w.heap.size (fun _ => True) (.slice Ao out.length co) out) ∧ Aside0 (Below w.heap.size w wr))
          case atStart => exact ⟨0, rfl, ⟨by omega⟩, HA, HR, HB⟩
          case round =>
           clear HA HR HB
           obtain ⟨j, rfl, HJ, HA, HR, HB⟩ := hrel
           cases gk with
           | zero =>
            have hj : j = out.length := by have := HJ.out; omega
            subst hj
            have HAr : Aside0 (Arr wr b (atR out r)) := ⟨by
             have h := HA.out
             rw [List.take_length] at h
             obtain ⟨s, hs⟩ : ∃ s, r = s + 1 := ⟨r - 1, by have := H1.out; omega⟩
             rw [hs] at h ⊢
             exact h⟩
            have b4 : decide ((out.length : Int) < (out.length : Int)) = false := decide_eq_false (by omega)
            have b5 : decide (out.length < out.length) = false := decide_eq_false (by omega)
            clear HA
            go_wp2
            go_loopg [13] (m + 1) (fun kq v13 wr => ∃ i : Nat, v13 = .int .i64 i ∧ Aside0 (kq + i = m + 1) ∧ Aside0 (Arr wr b (atR out r)) ∧ Aside0 (Kd.R k32 32 wr w.heap.size (fun _ => True) (.slice Ao out.length co) out) ∧ Aside0 (Below w.heap.size w wr))
            case atStart => exact ⟨0, rfl, ⟨by omega⟩, HAr, HR, HB⟩
            case round =>
             clear HAr HR HB b4 b5
             obtain ⟨i, rfl, HII, HA, HR, HB⟩ := hrel
             cases gk with
             | zero =>
              have hi : i = m + 1 := by have := HII.out; omega
              have b6 : decide ((i : Int) < 1 + (m : Int)) = false := decide_eq_false (by omega)
              clear hi
              go_wp2
              go_roundg d
              case measure => omega
              case rel => exact ⟨r + 1, by go_num, ⟨by omega⟩, ⟨by have := HI.out; omega⟩, HA, HR, HB⟩
             | succ d3 =>
              have hi : i < m + 1 := by have := HII.out; omega
              have b6 : decide ((i : Int) < 1 + (m : Int)) = true := decide_eq_true (by omega)
              have hc := HA.out.cell (i := i) (by rw [atR_len]; omega)
              rw [HRd.out r i hi] at hc
              obtain ⟨Y, hY⟩ : ∃ Y : Int, Y = (((i + r * u) % (m + 1) : Nat) : Int) := ⟨_, rfl⟩
              rw [← hY] at hc
              obtain ⟨z, hz⟩ : ∃ z : Nat, z = r * u := ⟨_, rfl⟩
              have hz600 : z ≤ 600 := by rw [hz]; exact Nat.le_trans (Nat.mul_le_mul hr (Nat.le_of_lt_succ hu)) (by have h1 : (m + 1) * m ≤ 24 * 24 := Nat.mul_le_mul (by omega) (by omega); omega)
              have e0 : (r : Int) * (u : Int) = (z : Int) := by rw [hz]; push_cast; rfl
              have ez : (1 + (m : Int)) = ((m + 1 : Nat) : Int) := by omega
              have ey : ((i : Int) + (z : Int)) = ((i + z : Nat) : Int) := by omega
              have en : (0 : Int) ≤ (i : Int) + (z : Int) := by omega
              have i31 : ((i : Int) < 31) = True := eq_true (by omega)
              have e5 : wrap64 (z : Int) = (z : Int) := by unfold wrap64; omega
              have e6 : wrap64 ((i : Int) + (z : Int)) = (i : Int) + (z : Int) := by unfold wrap64; omega
              have e1 : IntKind.i64.wrap (z : Int) = (z : Int) := IntWalk.i64_in _ (by omega)
              have e2 : IntKind.i64.wrap ((i : Int) + (z : Int)) = (i : Int) + (z : Int) := IntWalk.i64_in _ (by omega)
              have e4 : ((i : Int) + (z : Int)) % (1 + (m : Int)) = Y := by rw [hY, ← hz, ez, ey]; exact (Int.natCast_emod _ _).symm
              have e3 : Int.tmod ((i : Int) + (z : Int)) (1 + (m : Int)) = Y := by rw [Int.tmod_eq_emod_of_nonneg en]; exact e4
              clear ez ey en
              clear hY hz
              go_wp2
              repeat (go_quiet (fail); try go_wp2)
              clear e1 e2 e3 e4 e5 e6 e0
              go_roundg d3
              case measure => omega
              case rel => exact ⟨i + 1, by go_num, ⟨by have := HII.out; omega⟩, HA, HR, ⟨pw_below_drewN HB.out _⟩⟩
           | succ d2 =>
            have hlt : j < out.length := by have := HJ.out; omega
            have hl63 : out.length < 9223372036854775807 := by have := HOl.out; omega
            obtain ⟨x, hx⟩ : ∃ x, x = rd_T32 out (j : Int) := ⟨_, rfl⟩
            have hin : inAt x = true := by
             have := HIn.out
             rw [List.all_eq_true] at this
             refine this x ?_
             rw [hx, rd_eq out j hlt]; simp
            simp only [inAt, Bool.and_eq_true, decide_eq_true_eq] at hin
            obtain ⟨p, hp⟩ : ∃ p : Nat, x.f0 = (p : Int) := ⟨x.f0.toNat, by omega⟩
            obtain ⟨q, hq⟩ : ∃ q : Nat, x.f1 = (q : Int) := ⟨x.f1.toNat, by omega⟩
            rw [hp, hq] at hin
            have hp30 : p ≤ 30 := by omega
            have hq30 : q ≤ 30 := by omega
            obtain ⟨ad, e1, hx0, hx1⟩ := at_T32 (Kd.R_reads' HR.out).2.2 (j : Int) (by omega) (by omega)
            rw [← hx, hp] at hx0
            rw [← hx, hq] at hx1
            cases e1
            simp only [Int.toNat_natCast] at hx0 hx1
            obtain ⟨y, hyy⟩ : ∃ y, y = ((out.take j).foldl stepAt (atR out (r - 1))).getD q 0 := ⟨_, rfl⟩
            have hy := HA.out.cell (i := q) (by rw [fold_len, atR_len]; omega)
            rw [← hyy] at hy
            have hf := HA.out.free p
            have hpc := HA.out.cell (i := p) (by rw [fold_len, atR_len]; omega)
            have HNx : Aside0 ((out.take (j + 1)).foldl stepAt (atR out (r - 1)) = ((out.take j).foldl stepAt (atR out (r - 1))).set p y) := ⟨by
             rw [List.take_succ_eq_append_getElem hlt, List.foldl_append]
             simp only [List.foldl_cons, List.foldl_nil]
             rw [← rd_eq out j hlt, ← hx, hyy]
             simp only [stepAt, hp, hq, Int.toNat_natCast]⟩
            have b4 : decide ((j : Int) < (out.length : Int)) = true := decide_eq_true (by omega)
            have b5 : decide (j < out.length) = true := decide_eq_true hlt
            have q0 : decide ((p : Int) < 0) = false := decide_eq_false (by omega)
            have q1 : decide ((30 : Int) < (p : Int)) = false := decide_eq_false (by omega)
            have q2 : decide ((q : Int) < 0) = false := decide_eq_false (by omega)
            have q3 : decide ((30 : Int) < (q : Int)) = false := decide_eq_false (by omega)
            have p31 : ((p : Int) < 31) = True := eq_true (by omega)
            have q31 : ((q : Int) < 31) = True := eq_true (by omega)
            clear hx hp hq hyy hin
            go_wp2
            refine start_ (n := 14) (S := fun w' => w'.cell? (ad.add (j * 2)) = some (.int .i64 (p : Int)) ∧ w'.cell? ⟨(ad.add (j * 2)).block, (ad.add (j * 2)).off + 1, none⟩ = some (.int .i64 (q : Int)) ∧ w'.cell? ⟨b, q, none⟩ = some (.int .i64 y)) (ds := [13]) #[false, false, false, false, false, false, false, false, false, false, false, false, false, false] (by kernel_rfl) rfl rfl ⟨hx0, hx1, hy⟩ (fun hHeld => ?_)
            refine pure_ (i := 0) (N := some 106) (v := ?_) (a' := ?_) #[true, false, false, false, false, false, false, false, false, false, false, false, false, false] rfl rfl (by kernel_rfl) (fun _ _ _ h => h) (Or.inl ⟨by rfl, ?_⟩) ?_ ?_
            rotate_left
            · intro w'
              go_simp
              with_reducible rfl
            rotate_left
            · simp only [Act.put, List.setIfInBounds_toArray, List.set_cons_zero, List.set_cons_succ, i64_w, i32_w]
              rfl
            refine pure_ (i := 1) (N := some 107) (v := ?_) (a' := ?_) #[true, true, false, false, false, false, false, false, false, false, false, false, false, false] rfl rfl (by kernel_rfl) (fun _ _ _ h => h) (Or.inl ⟨by rfl, ?_⟩) ?_ ?_
            rotate_left
            · intro w'
              go_simp
              with_reducible rfl
            rotate_left
            · simp only [Act.put, List.setIfInBounds_toArray, List.set_cons_zero, List.set_cons_succ, i64_w, i32_w]
              rfl
            refine pure_ (i := 2) (N := some 108) (v := ?_) (a' := ?_) #[true, true, true, false, false, false, false, false, false, false, false, false, false, false] rfl rfl (by kernel_rfl) (fun _ _ _ h => h) (Or.inl ⟨by rfl, ?_⟩) ?_ ?_
            rotate_left
            · intro w'
              go_simp
              with_reducible rfl
            rotate_left
            · simp only [Act.put, List.setIfInBounds_toArray, List.set_cons_zero, List.set_cons_succ, i64_w, i32_w]
              rfl
            refine pure_ (i := 3) (N := some 109) (v := ?_) (a' := ?_) #[true, true, true, true, false, false, false, false, false, false, false, false, false, false] rfl rfl (by kernel_rfl) (fun _ _ _ h => h) (Or.inl ⟨by rfl, ?_⟩) ?_ ?_
            rotate_left
            · intro w'
              go_simp
              with_reducible rfl
            rotate_left
            · simp only [Act.put, List.setIfInBounds_toArray, List.set_cons_zero, List.set_cons_succ, i64_w, i32_w]
              rfl
            refine pure_ (i := 5) (N := some 111) (v := ?_) (a' := ?_) #[true, true, true, true, false, true, false, false, false, false, false, false, false, false] rfl rfl (by kernel_rfl) (fun _ _ _ h => h) (Or.inl ⟨by rfl, ?_⟩) ?_ ?_
            rotate_left
            · intro w'
              go_simp
              with_reducible rfl
            rotate_left
            · simp only [Act.put, List.setIfInBounds_toArray, List.set_cons_zero, List.set_cons_succ, i64_w, i32_w]
              rfl
            refine pure_ (i := 6) (N := some 112) (v := ?_) (a' := ?_) #[true, true, true, true, false, true, true, false, false, false, false, false, false, false] rfl rfl (by kernel_rfl) (fun _ _ _ h => h) (Or.inl ⟨by rfl, ?_⟩) ?_ ?_
            rotate_left
            · intro w'
              go_simp
              with_reducible rfl
            rotate_left
            · simp only [Act.put, List.setIfInBounds_toArray, List.set_cons_zero, List.set_cons_succ, i64_w, i32_w]
              rfl
            refine pure_ (i := 7) (N := some 113) (v := ?_) (a' := ?_) #[true, true, true, true, false, true, true, true, false, false, false, false, false, false] rfl rfl (by kernel_rfl) (fun _ _ _ h => h) (Or.inl ⟨by rfl, ?_⟩) ?_ ?_
            rotate_left
            · intro w'
              go_simp
              with_reducible rfl
            rotate_left
            · simp only [Act.put, List.setIfInBounds_toArray, List.set_cons_zero, List.set_cons_succ, i64_w, i32_w]
              rfl
            refine pure_ (i := 8) (N := some 114) (v := ?_) (a' := ?_) #[true, true, true, true, false, true, true, true, true, false, false, false, false, false] rfl rfl (by kernel_rfl) (fun _ _ _ h => h) (Or.inl ⟨by rfl, ?_⟩) ?_ ?_
            rotate_left
            · intro w'
              go_simp
              with_reducible rfl
            rotate_left
            · simp only [Act.put, List.setIfInBounds_toArray, List.set_cons_zero, List.set_cons_succ, i64_w, i32_w]
              rfl
            refine take_ (i := 4) (N := some 110) (v := ?_) (a' := ?_) #[true, true, true, true, true, true, true, true, true, false, false, false, false, false] rfl rfl (by kernel_rfl) (fun _ _ _ h => h) (Or.inl ⟨by rfl, ?_⟩) hHeld ?_ ?_
            rotate_left
            · rintro w' ⟨s0, s1, s2⟩
              go_simp
              with_reducible rfl
            rotate_left
            · simp only [Act.put, List.setIfInBounds_toArray, List.set_cons_zero, List.set_cons_succ, i64_w, i32_w]
              rfl
            refine take_ (i := 9) (N := some 115) (v := ?_) (a' := ?_) #[true, true, true, true, true, true, true, true, true, true, false, false, false, false] rfl rfl (by kernel_rfl) (fun _ _ _ h => h) (Or.inl ⟨by rfl, ?_⟩) hHeld ?_ ?_
            rotate_left
            · rintro w' ⟨s0, s1, s2⟩
              go_simp
              with_reducible rfl
            rotate_left
            · simp only [Act.put, List.setIfInBounds_toArray, List.set_cons_zero, List.set_cons_succ, i64_w, i32_w]
              rfl
            refine pure_ (i := 10) (N := some 116) (v := ?_) (a' := ?_) #[true, true, true, true, true, true, true, true, true, true, true, false, false, false] rfl rfl (by kernel_rfl) (fun _ _ _ h => h) (Or.inl ⟨by rfl, ?_⟩) ?_ ?_
            rotate_left
            · intro w'
              go_simp
              with_reducible rfl
            rotate_left
            · simp only [Act.put, List.setIfInBounds_toArray, List.set_cons_zero, List.set_cons_succ, i64_w, i32_w]
              rfl
            refine take_ (i := 11) (N := some 117) (v := ?_) (a' := ?_) #[true, true, true, true, true, true, true, true, true, true, true, true, false, false] rfl rfl (by kernel_rfl) (fun _ _ _ h => h) (Or.inl ⟨by rfl, ?_⟩) hHeld ?_ ?_
            rotate_left
            · rintro w' ⟨s0, s1, s2⟩
              go_simp
              with_reducible rfl
            rotate_left
            · simp only [Act.put, List.setIfInBounds_toArray, List.set_cons_zero, List.set_cons_succ, i64_w, i32_w]
              rfl
            refine pure_ (i := 12) (N := some 118) (v := ?_) (a' := ?_) #[true, true, true, true, true, true, true, true, true, true, true, true, true, false] rfl rfl (by kernel_rfl) (fun _ _ _ h => h) (Or.inl ⟨by rfl, ?_⟩) ?_ ?_
            rotate_left
            · intro w'
              go_simp
              with_reducible rfl
            rotate_left
            · simp only [Act.put, List.setIfInBounds_toArray, List.set_cons_zero, List.set_cons_succ, i64_w, i32_w]
              rfl
            refine last_ (i := 13) (N := none) #[true, true, true, true, true, true, true, true, true, true, true, true, true, true] rfl rfl (by kernel_rfl) (by decide) (fun K hK => ?_)
            refine skip_ (w1 := ?_) (by rfl) rfl ?_ ?_
            rotate_left
            · go_simp
              rfl
            refine hK.out _ _ ?_
            clear hK K
            refine done_ (by kernel_rfl) ?_
            try go_wp2
            go_roundg d2
            case measure => omega
            case rel => exact ⟨j + 1, by go_num, ⟨by have := HJ.out; omega⟩, ⟨by rw [HNx.out]; exact HA.out.set_ p y⟩, ⟨Kd.R_drew (Kd.R_set HR.out HA.out (by decide) p _)⟩, ⟨below_drew1 (below_set HB.out HG.out)⟩⟩
end Go.Proofs.Ytodnbclphjgofaa.PMov
