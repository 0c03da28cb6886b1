/- A part of the proof: I6. -/
import Derived.Test.YtgjggcgdilahdaaI5
import Derived.Test.YtgjggcgdilahdaaX31
set_option linter.unusedVariables false
set_option linter.unusedSimpArgs false
set_option linter.constructorNameAsVariable false
set_option linter.unusedVariables false
set_option maxRecDepth 100000
namespace Go.Xe
open Go.RowKit
/-- Rows of the same bytes are the same. -/
theorem bytes_loop {S : St} {b1 b2 : Bk} {o1 o2 n : Nat} {c1 c2 : Nat ⊕ Nat} {L1 L2 : List SV} {p1 p2 : Op2} (g1 : S.get b1 = some (.cells L1 p1)) (g2 : S.get b2 = some (.cells L2 p2)) (hn : n ≤ 1000000) {ys : List Int} (hy : ys.length = n)
    (h1 : (L1.drop o1).take n = ys.map (.int .u8)) (h2 : (L2.drop o2).take n = ys.map (.int .u8)) {K : AV → St → Prop} (hk : K (.one (.s (.bool true))) S) :
    ∀ (d j : Nat), j + d = n → JS44 6 [.one (.s (.sl (.mk b1 o1 n c1))), .one (.s (.sl (.mk b2 o2 n c2))), nm (j : Int)] S K
  | 0, j, hd => by
    refine S44_6 ?_
    unfold F44_6
    repeat (first | ((with_reducible refine letK_i ?_)))
    refine ifK_f (by rw [ilt_eq]; exact decide_eq_false (show ¬ (j : Int) < (n : Int) by omega)) ?_
    exact hk
  | d + 1, j, hd => by
    have cell : ∀ {L : List SV} {o : Nat}, (L.drop o).take n = ys.map (.int .u8) → ∃ r, L.drop (o + ((j : Int).toNat) * 1) = .int .u8 (ys.getD j 0) :: r := by
      intro L o h
      have hj : j < ys.length := by omega
      have e : ((L.drop o).take n).drop j = (ys.map (SV.int .u8)).drop j := by rw [h]
      rw [List.drop_take, List.drop_drop, List.drop_eq_getElem_cons (l := ys.map (SV.int .u8)) (by simpa using hj)] at e
      rw [show o + ((j : Int).toNat) * 1 = o + j by simp]
      cases hL : L.drop (o + j) with
      | nil => rw [hL] at e; simp at e
      | cons x r =>
        rw [hL, show n - j = (n - j - 1) + 1 by omega, List.take_succ_cons] at e
        injection e with e1 e2
        refine ⟨r, ?_⟩
        rw [e1, List.getElem_map, List.getD_eq_getElem?_getD, List.getElem?_eq_getElem hj]; rfl
    obtain ⟨r1, e1⟩ := cell h1
    obtain ⟨r2, e2⟩ := cell h2
    refine S44_6 ?_
    unfold F44_6
    repeat (first | ((with_reducible refine letK_i ?_)))
    refine ifK_t (by rw [ilt_eq]; exact decide_eq_true (show (j : Int) < (n : Int) by omega)) ?_
    repeat (first | ((with_reducible apply lvcs_e); exact rfl))
    refine req_rng (by omega) ?_
    repeat (first | ((with_reducible refine letK_i ?_)))
    refine at_get g1 ?_
    rw [e1]
    repeat (first | ((with_reducible apply uncK_e); exact rfl) | ((with_reducible apply cI_e); exact rfl) | ((with_reducible apply lvcs_e); exact rfl) | ((with_reducible refine G44_q1 ?_); unfold F44_q1))
    refine req_rng (by omega) ?_
    repeat (first | ((with_reducible refine letK_i ?_)))
    refine at_get g2 ?_
    rw [e2]
    repeat (first | ((with_reducible refine letK_i ?_)) | ((with_reducible apply uncK_e); exact rfl) | ((with_reducible apply cI_e); exact rfl))
    rw [ieq_t rfl]
    skip
    refine ifK_f rfl ?_
    repeat (first | ((with_reducible refine letK_i ?_)))
    rw [iw64 (by omega) (by omega)]
    exact bytes_loop g1 g2 hn hy h1 h2 hk d (j + 1) (by omega)
theorem bytes_ok {S : St} {b1 b2 : Bk} {o1 o2 n : Nat} {c1 c2 : Nat ⊕ Nat} {L1 L2 : List SV} {p1 p2 : Op2} (g1 : S.get b1 = some (.cells L1 p1)) (g2 : S.get b2 = some (.cells L2 p2)) (hn : n ≤ 1000000) {ys : List Int} (hy : ys.length = n)
    (h1 : (L1.drop o1).take n = ys.map (.int .u8)) (h2 : (L2.drop o2).take n = ys.map (.int .u8)) {K : AV → St → Prop} (hk : K (.one (.s (.bool true))) S) :
    DSIr 44 [.one (.s (.sl (.mk b1 o1 n c1))), .one (.s (.sl (.mk b2 o2 n c2)))] S K := by
  refine .e (S44 (JS_ok _ _ _ _) ?_)
  unfold F44_0
  repeat (first | ((with_reducible refine letK_i ?_)))
  rw [ieq_t rfl]
  refine ifK_f rfl ?_
  exact bytes_loop g1 g2 hn hy h1 h2 hk n 0 (by omega)
/-- Outcomes of the same fields are the same: a step. -/
noncomputable def outK (args : List AV) (S : St) (K : AV → St → Prop) : Prop :=
  uncA args fun a r => avA a fun l => uncK l fun x l => SV.cI .i64 x fun k1 => uncK l fun x l => SV.cI .i64 x fun c1 => uncK l fun x l => SV.cL x fun s1 => endL l <|
  uncA r fun a r => avA a fun l => uncK l fun x l => SV.cI .i64 x fun k2 => uncK l fun x l => SV.cI .i64 x fun c2 => uncK l fun x l => SV.cL x fun s2 => endL l <| endL r <|
  LV.cs s1 fun b1 o1 n1 q1 => LV.cs s2 fun b2 o2 n2 q2 => req (bkOld b1 S.next) <| req (bkOld b2 S.next) <| req (Nat.beq n1 n2) <| req (Nat.ble n1 1000000) <|
  S.src 1 (.mk b1 o1 n1 q1) fun x1 _ => S.src 1 (.mk b2 o2 n2 q2) fun x2 _ => (k1 = k2 ∧ c1 = c2 ∧ x1 = x2 ∧ ∃ ys : List Int, ys.length = n1 ∧ x1 = ys.map (.int .u8)) ∧ K (.one (.s (.bool true))) ⟨S.inp, S.H, S.next + 2⟩
theorem outK_ok {args : List AV} {S : St} {K : AV → St → Prop} (h : outK args S K) : CallE IrP IrG 23 args S K := by
  unfold outK at h
  obtain ⟨a1, r1, rfl, h1⟩ := uncA_some h
  obtain ⟨l1, rfl, h2⟩ := avA_some h1
  obtain ⟨x1a, l1a, rfl, h3⟩ := uncK_some h2
  obtain ⟨k1, rfl, h4⟩ := cI_some h3
  obtain ⟨x1b, l1b, rfl, h5⟩ := uncK_some h4
  obtain ⟨c1, rfl, h6⟩ := cI_some h5
  obtain ⟨x1c, l1c, rfl, h7⟩ := uncK_some h6
  obtain ⟨s1, rfl, h8⟩ := cL_some h7
  obtain ⟨rfl, h9⟩ := endL_some h8
  obtain ⟨a2, r2, rfl, h10⟩ := uncA_some h9
  obtain ⟨l2, rfl, h11⟩ := avA_some h10
  obtain ⟨x2a, l2a, rfl, h12⟩ := uncK_some h11
  obtain ⟨k2, rfl, h13⟩ := cI_some h12
  obtain ⟨x2b, l2b, rfl, h14⟩ := uncK_some h13
  obtain ⟨c2, rfl, h15⟩ := cI_some h14
  obtain ⟨x2c, l2c, rfl, h16⟩ := uncK_some h15
  obtain ⟨s2, rfl, h17⟩ := cL_some h16
  obtain ⟨rfl, h18⟩ := endL_some h17
  obtain ⟨rfl, h19⟩ := endL_some h18
  obtain ⟨b1, o1, n1, q1, rfl, h20⟩ := LV.cs_mk h19
  obtain ⟨b2, o2, n2, q2, rfl, h21⟩ := LV.cs_mk h20
  obtain ⟨hb1, h22⟩ := req_and h21
  obtain ⟨hb2, h23⟩ := req_and h22
  obtain ⟨hn, h24⟩ := req_and h23
  obtain ⟨hm, h25⟩ := req_and h24
  obtain rfl := Nat.eq_of_beq_eq_true hn
  rcases src_some h25 with ⟨e, _⟩ | ⟨_, _, _, _, L1, p1, e, g1, hl1, hh⟩
  · cases e
  cases e
  rcases src_some hh with ⟨e, _⟩ | ⟨_, _, _, _, L2, p2, e, g2, hl2, hh2⟩
  · cases e
  cases e
  obtain ⟨⟨rfl, rfl, hx, ys, hy, hx1⟩, hk⟩ := hh2
  rw [hx1] at hx
  obtain ⟨i, H, n⟩ := S
  refine CallE.forget (K0 := fun v S2 => v = .one (.s (.bool true)) ∧ S2 = ((St.mk i H n).add (.cells [.int .i64 k1, .int .i64 c1, .sl (.mk b1 o1 n1 q1)] (.ty 57))).add (.cells [.int .i64 k1, .int .i64 c1, .sl (.mk b2 o2 n1 q2)] (.ty 57))) ?_ ?_
  · refine S23 (JS_ok _ _ _ _) ?_
    unfold F23_0
    have e1 : ∀ ao ao', (((St.mk i H n).add ao).add ao').get b1 = some (.cells L1 p1) := fun ao ao' => by
      rw [add_old (bkOld_ne hb1 (Nat.le_succ _)), add_old (bkOld_ne hb1 (Nat.le_refl _)), g1]
    have e2 : ∀ ao ao', (((St.mk i H n).add ao).add ao').get b2 = some (.cells L2 p2) := fun ao ao' => by
      rw [add_old (bkOld_ne hb2 (Nat.le_succ _)), add_old (bkOld_ne hb2 (Nat.le_refl _)), g2]
    have n1' : ∀ ao ao', (((St.mk i H n).add ao).add ao').get (.new n) = some ao := fun ao ao' => by
      rw [add_old (S := (St.mk i H n).add ao) (show Bk.new n ≠ .new (Nat.succ n) from fun e => by injection e with e; omega)]
      exact add_new (St.mk i H n) ao
    have n2' : ∀ ao ao', (((St.mk i H n).add ao).add ao').get (.new (Nat.succ n)) = some ao' := fun ao ao' => add_new ((St.mk i H n).add ao) ao'
    refine letK_i (letK_i ?_)
    refine at_get (n1' _ _) ?_
    repeat (first | ((with_reducible apply uncK_e); exact rfl) | ((with_reducible apply cI_e); exact rfl) | ((with_reducible refine G23_q1 ?_); unfold F23_q1))
    refine at_get (n2' _ _) ?_
    repeat (first | ((with_reducible refine letK_i ?_)) | ((with_reducible apply uncK_e); exact rfl) | ((with_reducible apply cI_e); exact rfl))
    rw [ieq_t rfl]
    repeat (first | ((with_reducible refine ifK_t ?_ ?_); (with_reducible exact rfl)))
    refine at_get (n1' _ _) ?_
    repeat (first | ((with_reducible apply uncK_e); exact rfl) | ((with_reducible apply cI_e); exact rfl))
    refine at_get (n2' _ _) ?_
    repeat (first | ((with_reducible refine letK_i ?_)) | ((with_reducible apply uncK_e); exact rfl) | ((with_reducible apply cI_e); exact rfl) | ((with_reducible refine G23_q0 ?_); unfold F23_q0))
    rw [ieq_t rfl]
    repeat (first | ((with_reducible refine ifK_t ?_ ?_); (with_reducible exact rfl)))
    refine at_get (n1' _ _) ?_
    repeat (first | ((with_reducible apply uncK_e); exact rfl) | ((with_reducible apply cL_e); exact rfl))
    refine at_get (n2' _ _) ?_
    repeat (first | ((with_reducible apply uncK_e); exact rfl) | ((with_reducible apply cL_e); exact rfl))
    refine bytes_ok (e1 _ _) (e2 _ _) (Nat.le_of_ble_eq_true hm) hy (by simpa using hx1) (by simpa using hx.symm) ?_
    repeat (first | ((with_reducible apply scK_e); exact rfl) | ((with_reducible apply cB_e); exact rfl))
    exact ⟨rfl, rfl⟩
  · rintro v S2 ⟨rfl, rfl⟩
    refine ⟨⟨i, H, n + 2⟩, rfl, fun k _ => rfl, fun b ao hb h => ?_, hk⟩
    have hne : ∀ m, n ≤ m → b ≠ .new m := fun m hm e => by have := hb _ e; simp only at this; omega
    rw [add_old (S := (St.mk i H n).add _) (hne _ (Nat.le_succ _)), add_old (hne _ (Nat.le_refl _))]
    exact h
end Go.Xe
