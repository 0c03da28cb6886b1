import Derived.Test.YticjocbgadgjpaaMovR
namespace Go.Xe
set_option maxRecDepth 100000
set_option maxHeartbeats 800000 in
theorem law (k : Nat) (x0 x1 b : Int) (hb : -9223372036854775808 ≤ b) (hb2 : b ≤ 9223372036854775807) : A4_0 (MemE (k + 5)) (J4 (MemE (k + 5)) (k + 5)) [nm x0, nm x1, nm b] S0 (fun v _ => v = .one (.s (.bool true))) := by
  have e : A4_0 (MemE (k + 5)) (J4 (MemE (k + 5)) (k + 5)) [nm x0, nm x1, nm b] S0 (fun v _ => v = .one (.s (.bool true))) = F4_0 (MemE (k + 5)) (J4 (MemE (k + 5)) (k + 5)) x0 x1 b S0 (fun v _ => v = .one (.s (.bool true))) := by kernel_rfl
  rw [e]
  unfold F4_0
  rw [MemE_5]
  refine low_ok (k + 4) (by omega) (by omega) fun r1 h1 h2 => scK_i (cI_i ?_)
  intro n
  have hn : n = 1 + r1 := by show iwrap .i64 (1 + r1) = _; exact i64_id (by omega) (by omega)
  clear_value n
  have hn1 : 1 ≤ n := by omega
  have hn2 : n ≤ 60 := by omega
  rw [MemE_7]
  refine new_ok (k + 4) rep0 fun S1 g1 => scK_i (cP_i ?_)
  refine optK_i (y := false) rfl (ifK_f rfl ?_)
  rw [MemE_8]
  refine add_ok (k + 3) g1 hn1 fun S2 l hl hm => scK_i (cI_i ?_)
  intro n1
  have hn3 : n1 = n + 1 := by show iwrap .i64 (n + 1) = _; exact i64_id (by omega) (by omega)
  clear_value n1
  subst hn3
  rw [MemE_5]
  refine low_ok (k + 4) (by omega) (by omega) fun r h3 h4 => scK_i (cI_i ?_)
  have hr2 : r ≤ n := by omega
  rw [MemE_13]
  have hn0 : 0 < n := by omega
  have hin0 : inn n 0 = true := by unfold inn; simp; omega
  have hinr : inn n r = true := by unfold inn; simp; omega
  refine move_ok (k + 1) hl hm hn0 hin0 fun S3 m3 h5 => ?_
  have hmv : moves n 0 r = true := by
    rw [moves_eq hn1 hn2 (by omega) (by omega) (by omega) (by omega)]; simp; omega
  have e2 : iwrap .i64 (0 + r) = r := by rw [i64_id (by omega) (by omega)]; omega
  unfold movV
  rw [hmv, e2]
  refine avT_i (uncV_i (v1A_i (req_i rfl (uncK_i (cI_i (uncK_i (cI_i (uncK_i (cI_i (uncK_i (cI_i (uncV_i (v1S_i (cB_i (endL_i ?_)))))))))))))))
  have hm3 := hm.ext m3
  have h6 := h5.add (.cells ze4 false)
  intro S4
  change Rep S4 _ at h6
  clear_value S4
  rw [h5.next]
  generalize l ++ m3 = l1 at *
  have e0 := at0 l1 (some (.cells ze4 false)) [] []
  rw [List.append_nil] at e0
  refine h6.wr e0 rfl fun S5 h7 => ?_
  rw [List.set_append_right _ _ (by omega)] at h7
  simp only [Nat.sub_self, List.set_cons_zero] at h7
  have hp := at0 l1 (some (.cells (ptS r) false)) [] []
  rw [List.append_nil] at hp
  have hm5 := hm3.ext [some (.cells (ptS r) false)]
  have h7' : Rep S5 (l1 ++ [some (.cells (ptS r) false)]) := h7
  clear h7
  generalize l1 ++ [some (AO.cells (ptS r) false)] = l2 at *
  refine ifK_f rfl (h7'.at hp (uncK_i (cI_i (uncK_i (cI_i (uncK_i (cI_i (uncK_i (cI_i ?_)))))))))
  rw [MemE_13]
  refine move_ok (k + 1) h7' hm5 hn0 hinr fun S6 m6 h8 => ?_
  have hp6 := ext m6 hp
  have hm6 := hm5.ext m6
  generalize l2 ++ m6 = l3 at *
  have key : ∀ (Q : List SV) (S7 : St), Rep S7 (l3 ++ [some (.cells Q false)]) → Q = (bif moves n r b then ptS (iwrap .i64 (r + b)) else ze4) →
      J4 (MemE (k + 5)) (k + 5) 15 [nm b, mp 2, nm 1, mp l1.length, mp l3.length, .one (.s (.bool (moves n r b))), .one (.s (.bool false))] S7 (fun v _ => v = .one (.s (.bool true))) := by
    intro Q S7 h9 hQ
    have hq := at0 l3 (some (.cells Q false)) [] []
    rw [List.append_nil] at hq
    exact piece15 k h9 (hm6.ext _) hn1 hn2 h3 hr2 hb hb2 (ext _ hp6) hq hQ (k + 4)
  have hme := moves_eq hn1 hn2 h3 hr2 hb hb2
  have run : ∀ (a0 a1 a2 a3 : Int) (c : Bool), c = moves n r b → ([.int .i64 a0, .int .i64 a1, .int .i64 a2, .int .i64 a3] : List SV) = (bif moves n r b then ptS (iwrap .i64 (r + b)) else ze4) →
      (let S437 : St := (St.add S6 (AO.cells ze4 false));
 St.wr S437 (Bk.new (St.next S6)) 0 [(SV.int IntKind.i64 a0), (SV.int IntKind.i64 a1), (SV.int IntKind.i64 a2), (SV.int IntKind.i64 a3)] fun S438 =>
 St.at S438 (Bk.new l1.length) 3 fun y439 =>
 uncK y439 fun v440 y441 =>
 SV.cI IntKind.i64 v440 fun x445 =>
 let x446 : Int := (ineg IntKind.i64 x445);
 let c447 : Bool := (ile x446 b);
 ifK c447
 (St.at S438 (Bk.new l1.length) 3 fun y448 =>
 uncK y448 fun v449 y450 =>
 SV.cI IntKind.i64 v449 fun x454 =>
 let x455 : Int := (iwrap IntKind.i64 (n - x454));
 let c456 : Bool := (ile b x455);
 let c457 : Bool := (Bool.not (BEq.beq c c456));
 J4 (MemE (k + 5)) (k + 5) 15 [nm b, mp 2, nm 1, mp l1.length, (AV.one (V1.s (SV.ptr (PV.mk (Bk.new (St.next S6)) 0)))), .one (.s (.bool c)), .one (.s (.bool c457))] S438 (fun v _ => v = .one (.s (.bool true))))
 (let c463 : Bool := (Bool.not (BEq.beq c Bool.false));
 J4 (MemE (k + 5)) (k + 5) 15 [nm b, mp 2, nm 1, mp l1.length, (AV.one (V1.s (SV.ptr (PV.mk (Bk.new (St.next S6)) 0)))), .one (.s (.bool c)), .one (.s (.bool c463))] S438 (fun v _ => v = .one (.s (.bool true))))) := by
    intro a0 a1 a2 a3 c hc hQ
    subst hc
    have h9 := h8.add (.cells ze4 false)
    intro S437
    change Rep S437 _ at h9
    clear_value S437
    rw [h8.next]
    have e9 := at0 l3 (some (.cells ze4 false)) [] []
    rw [List.append_nil] at e9
    refine h9.wr e9 rfl fun S7 h10 => ?_
    rw [List.set_append_right _ _ (by omega)] at h10
    simp only [Nat.sub_self, List.set_cons_zero] at h10
    have hp7 := ext [some (AO.cells [.int .i64 a0, .int .i64 a1, .int .i64 a2, .int .i64 a3] false)] hp6
    have h10' : Rep S7 (l3 ++ [some (AO.cells [.int .i64 a0, .int .i64 a1, .int .i64 a2, .int .i64 a3] false)]) := h10
    have kk := key _ S7 h10' hQ
    refine h10'.at hp7 (uncK_i (cI_i ?_))
    dsimp only
    rw [ineg_i (by omega) (by omega), ile_eq]
    refine ifK_i (fun hc => ?_) (fun hc => ?_)
    · refine h10'.at hp7 (uncK_i (cI_i ?_))
      rw [i64_id (by omega) (by omega), ile_eq]
      rw [hc, Bool.true_and] at hme
      rw [← hme, show (!(moves n r b == moves n r b)) = false by simp]
      exact kk
    · rw [hc, Bool.false_and] at hme
      rw [hme] at kk ⊢
      exact kk
  unfold movV
  cases hmb : moves n r b with
  | true =>
    refine avT_i (uncV_i (v1A_i (req_i rfl (uncK_i (cI_i (uncK_i (cI_i (uncK_i (cI_i (uncK_i (cI_i (uncV_i (v1S_i (cB_i (endL_i ?_)))))))))))))))
    exact run _ _ _ _ true hmb.symm (by rw [hmb]; rfl)
  | false =>
    refine avT_i (uncV_i (v1A_i (req_i rfl (uncK_i (cI_i (uncK_i (cI_i (uncK_i (cI_i (uncK_i (cI_i (uncV_i (v1S_i (cB_i (endL_i ?_)))))))))))))))
    exact run _ _ _ _ false hmb.symm (by rw [hmb]; rfl)
end Go.Xe
