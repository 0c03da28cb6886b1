/- A part of the proof: I3. -/
import Derived.Test.YtgjggcgdilahdaaI2
set_option linter.unusedVariables false
set_option linter.unusedSimpArgs false
set_option linter.constructorNameAsVariable false
set_option linter.unusedVariables false
set_option maxRecDepth 100000
namespace Go.Xe
open Go.RowKit
variable {i : Nat → Option AO}
theorem ieq_t {a b : Int} (h : a = b) : ieq a b = true := by rw [ieq_eq]; simpa using h
theorem ieq_f {a b : Int} (h : a ≠ b) : ieq a b = false := by rw [ieq_eq]; simpa using h
theorem least_ok {H n M} (hK : Kn H n M) (c : Bool) {K : AV → St → Prop} (hk : ∀ H' n', n ≤ n' → Kn H' n' M → K (nm (-9223372036854775808)) ⟨i, H', n'⟩) : DSIr 92 [wd 64 c] ⟨i, H, n⟩ K := by
  refine .e (S92 (JS_ok _ _ _ _) ?_)
  unfold F92_0
  repeat (first | ((with_reducible refine hK.letS ?_); clear hK; intro H hK) | ((with_reducible refine letK_i ?_)) | ((with_reducible apply uncK_e); exact rfl) | ((with_reducible apply cI_e); exact rfl) | ((with_reducible refine hK.at0 ?_)))
  refine req_i (by kernel_rfl) ?_
  repeat (first | ((with_reducible refine letK_i ?_)))
  rw [show shrI IntKind.i64 (Int.negSucc 9223372036854775807) (iwrap IntKind.i64 (64 - 64)) = -9223372036854775808 from by kernel_rfl]
  refine hk _ _ ?_ ?_ <;> first | omega | exact (by first | exact hK | exact hK.tail | exact hK.tail.tail | exact hK.tail.tail.tail | exact hK.tail.tail.tail.tail | exact hK.tail.tail.tail.tail.tail | exact hK.tail.tail.tail.tail.tail.tail | exact hK.tail.tail.tail.tail.tail.tail.tail | exact hK.tail.tail.tail.tail.tail.tail.tail.tail)
abbrev isRest (s : Int) : Bool := ieq s 5 || ieq s 7
/-- A quotient that there is none of: by 0. -/
theorem quo_zero {H n M} (hK : Kn H n M) (c : Bool) (s a : Int) {K : AV → St → Prop} (hk : ∀ H' n', n ≤ n' → Kn H' n' M → K (two 0 false) ⟨i, H', n'⟩) : DSIr 85 [wd 64 c, nm s, nm a, nm 0] ⟨i, H, n⟩ K := by
  have fin : ∀ {H n r c'}, Kn H n ((r, .cells [.int .i64 64, .bool c] (.ty 23)) :: M) → (∀ H' n', n ≤ n' → Kn H' n' M → K (two 0 false) ⟨i, H', n'⟩) → JS85 2 [nm a, nm 0, .one (.s (.ptr (.mk (.new r) 0))), .one (.s (.bool c'))] ⟨i, H, n⟩ K := by
    intro H n r c' hK hk
    refine S85_2 ?_
    unfold F85_2
    repeat (first | ((with_reducible refine letK_i ?_)))
    refine ifK_t rfl ?_
    refine S85_3 ?_
    unfold F85_3
    refine ifK_t rfl ?_
    refine hk _ _ ?_ ?_ <;> first | omega | exact (by first | exact hK | exact hK.tail | exact hK.tail.tail | exact hK.tail.tail.tail | exact hK.tail.tail.tail.tail | exact hK.tail.tail.tail.tail.tail | exact hK.tail.tail.tail.tail.tail.tail | exact hK.tail.tail.tail.tail.tail.tail.tail | exact hK.tail.tail.tail.tail.tail.tail.tail.tail)
  refine .e (S85 (JS_ok _ _ _ _) ?_)
  unfold F85_0
  repeat (first | ((with_reducible refine hK.letS ?_); clear hK; intro H hK) | ((with_reducible refine letK_i ?_)) | ((with_reducible refine G85_q5 ?_); unfold F85_q5))
  refine ifK_i (fun h => ?_) (fun h => ?_)
  · exact fin hK fun H' n' hn h => hk H' n' (by omega) h
  · repeat (first | ((with_reducible refine letK_i ?_)))
    exact fin hK fun H' n' hn h => hk H' n' (by omega) h
theorem quoU {H n M} (hK : Kn H n M) (s a b : Int) (hb : b ≠ 0) (hu : iwrap .u64 b ≠ 0) {K : AV → St → Prop}
    (hk : ∀ H' n', n ≤ n' → Kn H' n' M → K (two (bif isRest s then iwrap .i64 (Int.tmod (iwrap .u64 a) (iwrap .u64 b)) else iwrap .i64 (iwrap .u64 (Int.tdiv (iwrap .u64 a) (iwrap .u64 b)))) true) ⟨i, H', n'⟩) : DSIr 85 [wd 64 false, nm s, nm a, nm b] ⟨i, H, n⟩ K := by
  have fin : ∀ {H n r c'}, Kn H n ((r, .cells [.int .i64 64, .bool false] (.ty 23)) :: M) → (∀ H' n', n ≤ n' → Kn H' n' M → K (two (bif c' then iwrap .i64 (Int.tmod (iwrap .u64 a) (iwrap .u64 b)) else iwrap .i64 (iwrap .u64 (Int.tdiv (iwrap .u64 a) (iwrap .u64 b)))) true) ⟨i, H', n'⟩) → JS85 2 [nm a, nm b, .one (.s (.ptr (.mk (.new r) 0))), .one (.s (.bool c'))] ⟨i, H, n⟩ K := by
    intro H n r c' hK hk
    refine S85_2 ?_
    unfold F85_2
    repeat (first | ((with_reducible refine letK_i ?_)))
    rw [ieq_f hb]
    refine ifK_f rfl ?_
    repeat (first | ((with_reducible refine letK_i ?_)) | ((with_reducible apply uncK_e); exact rfl) | ((with_reducible apply cB_e); exact rfl) | ((with_reducible refine ifK_f ?_ ?_); (with_reducible exact rfl)) | ((with_reducible refine hK.at0 ?_)) | ((with_reducible refine G85_q7 ?_); unfold F85_q7))
    refine S85_3 ?_
    unfold F85_3
    refine ifK_f rfl ?_
    repeat (first | ((with_reducible refine letK_i ?_)) | ((with_reducible apply uncK_e); exact rfl) | ((with_reducible refine hK.at0 ?_)) | ((with_reducible refine G85_q8 ?_); unfold F85_q8))
    refine ifK_t rfl ?_
    refine S85_7 ?_
    unfold F85_7
    cases c' with
    | true =>
      refine ifK_t rfl ?_
      repeat (first | ((with_reducible refine letK_i ?_)))
      refine req_i (by rw [ieq_f hu]; rfl) ?_
      repeat (first | ((with_reducible refine letK_i ?_)))
      refine hk _ _ ?_ ?_ <;> first | omega | exact (by first | exact hK | exact hK.tail | exact hK.tail.tail | exact hK.tail.tail.tail | exact hK.tail.tail.tail.tail | exact hK.tail.tail.tail.tail.tail | exact hK.tail.tail.tail.tail.tail.tail | exact hK.tail.tail.tail.tail.tail.tail.tail | exact hK.tail.tail.tail.tail.tail.tail.tail.tail)
    | false =>
      refine ifK_f rfl ?_
      repeat (first | ((with_reducible refine letK_i ?_)) | ((with_reducible apply uncK_e); exact rfl) | ((with_reducible refine hK.at0 ?_)) | ((with_reducible refine G85_q9 ?_); unfold F85_q9))
      refine ifK_t rfl ?_
      repeat (first | ((with_reducible refine letK_i ?_)))
      refine req_i (by rw [ieq_f hu]; rfl) ?_
      repeat (first | ((with_reducible refine letK_i ?_)))
      refine hk _ _ ?_ ?_ <;> first | omega | exact (by first | exact hK | exact hK.tail | exact hK.tail.tail | exact hK.tail.tail.tail | exact hK.tail.tail.tail.tail | exact hK.tail.tail.tail.tail.tail | exact hK.tail.tail.tail.tail.tail.tail | exact hK.tail.tail.tail.tail.tail.tail.tail | exact hK.tail.tail.tail.tail.tail.tail.tail.tail)
  refine .e (S85 (JS_ok _ _ _ _) ?_)
  unfold F85_0
  repeat (first | ((with_reducible refine hK.letS ?_); clear hK; intro H hK) | ((with_reducible refine letK_i ?_)) | ((with_reducible refine G85_q5 ?_); unfold F85_q5))
  refine ifK_i (fun h => ?_) (fun h => ?_)
  · refine fin hK fun H' n' hn h' => ?_
    have := hk H' n' (by omega) h'
    unfold isRest at this; rw [h] at this; exact this
  · repeat (first | ((with_reducible refine letK_i ?_)))
    refine fin hK fun H' n' hn h' => ?_
    have := hk H' n' (by omega) h'
    unfold isRest at this; rw [h] at this; exact this
theorem quoS {H n M} (hK : Kn H n M) (s a b : Int) (hb : b ≠ 0) {K : AV → St → Prop}
    (hk : ∀ H' n', n ≤ n' → Kn H' n' M → K (bif ieq b (-1) && ieq a (-9223372036854775808) then two 0 false else two (bif isRest s then Int.tmod a b else iwrap .i64 (Int.tdiv a b)) true) ⟨i, H', n'⟩) : DSIr 85 [wd 64 true, nm s, nm a, nm b] ⟨i, H, n⟩ K := by
  have fin : ∀ {H n r c'}, Kn H n ((r, .cells [.int .i64 64, .bool true] (.ty 23)) :: M) → (∀ H' n', n ≤ n' → Kn H' n' M → K (bif ieq b (-1) && ieq a (-9223372036854775808) then two 0 false else two (bif c' then Int.tmod a b else iwrap .i64 (Int.tdiv a b)) true) ⟨i, H', n'⟩) → JS85 2 [nm a, nm b, .one (.s (.ptr (.mk (.new r) 0))), .one (.s (.bool c'))] ⟨i, H, n⟩ K := by
    intro H n r c' hK hk
    have go : ∀ {H n}, Kn H n ((r, .cells [.int .i64 64, .bool true] (.ty 23)) :: M) → (∀ H' n', n ≤ n' → Kn H' n' M → K (two (bif c' then Int.tmod a b else iwrap .i64 (Int.tdiv a b)) true) ⟨i, H', n'⟩) → JS85 3 [nm a, nm b, .one (.s (.ptr (.mk (.new r) 0))), .one (.s (.bool c')), .one (.s (.bool false))] ⟨i, H, n⟩ K := by
      intro H n hK hk
      refine S85_3 ?_
      unfold F85_3
      refine ifK_f rfl ?_
      repeat (first | ((with_reducible refine letK_i ?_)) | ((with_reducible apply uncK_e); exact rfl) | ((with_reducible refine hK.at0 ?_)) | ((with_reducible refine G85_q8 ?_); unfold F85_q8))
      refine ifK_f rfl ?_
      refine S85_7 ?_
      unfold F85_7
      refine ifK_f rfl ?_
      repeat (first | ((with_reducible refine letK_i ?_)) | ((with_reducible apply uncK_e); exact rfl) | ((with_reducible refine hK.at0 ?_)) | ((with_reducible refine G85_q9 ?_); unfold F85_q9))
      refine ifK_f rfl ?_
      cases c' with
      | true =>
        refine ifK_t rfl ?_
        refine req_i (by rw [ieq_f hb]; rfl) ?_
        repeat (first | ((with_reducible refine letK_i ?_)))
        refine hk _ _ ?_ ?_ <;> first | omega | exact (by first | exact hK | exact hK.tail | exact hK.tail.tail | exact hK.tail.tail.tail | exact hK.tail.tail.tail.tail | exact hK.tail.tail.tail.tail.tail | exact hK.tail.tail.tail.tail.tail.tail | exact hK.tail.tail.tail.tail.tail.tail.tail | exact hK.tail.tail.tail.tail.tail.tail.tail.tail)
      | false =>
        refine ifK_f rfl ?_
        refine req_i (by rw [ieq_f hb]; rfl) ?_
        repeat (first | ((with_reducible refine letK_i ?_)))
        refine hk _ _ ?_ ?_ <;> first | omega | exact (by first | exact hK | exact hK.tail | exact hK.tail.tail | exact hK.tail.tail.tail | exact hK.tail.tail.tail.tail | exact hK.tail.tail.tail.tail.tail | exact hK.tail.tail.tail.tail.tail.tail | exact hK.tail.tail.tail.tail.tail.tail.tail | exact hK.tail.tail.tail.tail.tail.tail.tail.tail)
    refine S85_2 ?_
    unfold F85_2
    repeat (first | ((with_reducible refine letK_i ?_)))
    rw [ieq_f hb]
    refine ifK_f rfl ?_
    repeat (first | ((with_reducible refine letK_i ?_)) | ((with_reducible apply uncK_e); exact rfl) | ((with_reducible apply cB_e); exact rfl) | ((with_reducible refine hK.at0 ?_)) | ((with_reducible refine G85_q7 ?_); unfold F85_q7))
    rw [show Int.negSucc 0 = -1 from rfl]
    cases h1 : ieq b (-1) with
    | false =>
      rw [h1] at hk
      refine ifK_f rfl ?_
      exact go hK hk
    | true =>
      rw [h1] at hk
      refine ifK_t rfl ?_
      repeat (first | ((with_reducible apply uncK_e); exact rfl) | ((with_reducible apply cI_e); exact rfl) | ((with_reducible apply cB_e); exact rfl) | ((with_reducible apply pvcs_e); exact rfl) | ((with_reducible refine hK.at0 ?_)) | ((with_reducible refine G85_q6 ?_); unfold F85_q6))
      refine least_ok hK _ (fun H n' hn hK => ?_)
      repeat (first | ((with_reducible refine letK_i ?_)) | ((with_reducible apply cI_e); exact rfl) | ((with_reducible apply scK_e); exact rfl))
      cases h2 : ieq a (-9223372036854775808) with
      | false =>
        rw [h2] at hk
        exact go hK fun H' n' hn h => hk H' n' (by omega) h
      | true =>
        rw [h2] at hk
        refine S85_3 ?_
        unfold F85_3
        refine ifK_t rfl ?_
        refine hk _ _ ?_ ?_ <;> first | omega | exact (by first | exact hK | exact hK.tail | exact hK.tail.tail | exact hK.tail.tail.tail | exact hK.tail.tail.tail.tail | exact hK.tail.tail.tail.tail.tail | exact hK.tail.tail.tail.tail.tail.tail | exact hK.tail.tail.tail.tail.tail.tail.tail | exact hK.tail.tail.tail.tail.tail.tail.tail.tail)
  refine .e (S85 (JS_ok _ _ _ _) ?_)
  unfold F85_0
  repeat (first | ((with_reducible refine hK.letS ?_); clear hK; intro H hK) | ((with_reducible refine letK_i ?_)) | ((with_reducible refine G85_q5 ?_); unfold F85_q5))
  refine ifK_i (fun h => ?_) (fun h => ?_)
  · refine fin hK fun H' n' hn h' => ?_
    have := hk H' n' (by omega) h'
    unfold isRest at this; rw [h] at this; exact this
  · repeat (first | ((with_reducible refine letK_i ?_)))
    refine fin hK fun H' n' hn h' => ?_
    have := hk H' n' (by omega) h'
    unfold isRest at this; rw [h] at this; exact this
end Go.Xe
