/- The span of a name: digits, parts. -/
import Derived.Test.YtiljijckfkphhaaDoorPLexx2
import Derived.Test.YtiljijckfkphhaaDoorLxSl
import Derived.WalkMore
namespace Go.Proofs.YtiljijckfkphhaaDoor.PLex
open Go.RowKit Go.Proofs.YtiljijckfkphhaaDoorW.PrintWords Go.Proofs.YtiljijckfkphhaaDoorW.PrintLast Go.Proofs.YtiljijckfkphhaaDoorW.PrintMore
set_option linter.unusedVariables false
set_option linter.unusedSectionVars false
set_option linter.unusedSimpArgs false
def digitB (c : Int) : Bool := decide (48 ≤ c) && decide (c ≤ 57)
def partB (c : Int) : Bool := digitB c || (decide (97 ≤ c) && decide (c ≤ 122)) || (decide (65 ≤ c) && decide (c ≤ 90)) || c == 95
theorem digit_eq (c : Int) : lex_digit.f c = some (digitB c) := by
 unfold lex_digit.f digitB
 by_cases h : 48 ≤ c
 · rw [if_pos (show c ≥ 48 from h)]; simp [h]
 · rw [if_neg (show ¬ c ≥ 48 from h)]; simp [h]
theorem part_eq (c : Int) : lex_part.f c = some (partB c) := by
 unfold lex_part.f partB
 rw [digit_eq]
 simp only [Option.bind_some]
 cases digitB c
 · simp only [Bool.false_eq_true, if_false, Bool.false_or]
   by_cases h1 : 97 ≤ c <;> by_cases h2 : c ≤ 122 <;> by_cases h3 : 65 ≤ c <;> by_cases h4 : c ≤ 90 <;> simp [h1, h2, h3, h4]
 · simp
def spanL (l : List UInt8) : Nat := (l.takeWhile fun b => partB (b.toNat : Int)).length
theorem bt_get (R : ByteArray) (i : Nat) (h : i < R.size) : bt R (i : Int) = ((R.data.toList[i]'(by simpa using h)).toNat : Int) := by
 simp [bt, h]
 rfl
theorem span_step (R : ByteArray) (i : Nat) (h : i < R.size) : spanL (R.data.toList.drop i) = if partB (bt R (i : Int)) = true then 1 + spanL (R.data.toList.drop (i + 1)) else 0 := by
 rw [List.drop_eq_getElem_cons (by simpa using h), bt_get R i h]
 unfold spanL
 rw [List.takeWhile_cons]
 split
 · rw [List.length_cons]; omega
 · rfl
set_option maxHeartbeats 1000000 in
set_option maxRecDepth 100000 in
theorem span_calls (R : ByteArray) (w : World) (hR : R.size ≤ 20000) : Calls Tryd.prog 31 #[.string R, .func (.func 30) #[] #[]] w fun e w' => e = .returned (.int .i64 (spanL R.data.toList)) ∧ Drawn0 w w' := by
 go_enter Tryd.func31, Tryd.ntmps31
 go_wp2
 go_loopw [5] (fun v5 wr => ∃ i : Nat, v5 = .int .i64 i ∧ Aside0 (i ≤ R.size) ∧ Aside0 (i + spanL (R.data.toList.drop i) = spanL R.data.toList) ∧ Aside0 (Drawn0 w wr)) (fun v5 _ => R.size - (intOf v5).toNat)
 case atStart => exact ⟨0, rfl, ⟨Nat.zero_le _⟩, ⟨by simp⟩, ⟨Drawn0.refl _⟩⟩
 case round =>
  obtain ⟨i, rfl, HI, HS, HD⟩ := hrel
  by_cases hlt : i < R.size
  · have hst := span_step R i hlt
    have hix := ix_at R (i : Int) (by omega) (by omega)
    obtain ⟨c, hc⟩ : ∃ c, bt R (i : Int) = c := ⟨_, rfl⟩
    rw [hc] at hst hix
    clear hc
    cases hp : partB c
    · rw [hp] at hst
      have HP := Aside0.mk ((part_eq c).trans (congrArg some hp))
      have HT := Aside0.mk hst
      clear hst hp
      go_wp2_with (go_at_call 30; (with_reducible refine (lex_part.calls c false _ HP.out).mono ?_); rintro e w' ⟨rfl, ⟨nd, rfl⟩⟩)
      go_ret
      exact ⟨by have := HS.out; rw [HT.out] at this; simp at this; rw [← this]; rfl, HD.out.step _⟩
    · rw [hp] at hst
      have HP := Aside0.mk ((part_eq c).trans (congrArg some hp))
      have HT := Aside0.mk hst
      clear hst hp
      go_wp2_with (go_at_call 30; (with_reducible refine (lex_part.calls c true _ HP.out).mono ?_); rintro e w' ⟨rfl, ⟨nd, rfl⟩⟩)
      go_roundw
      case rel => exact ⟨i + 1, by go_num, ⟨by omega⟩, ⟨by have := HS.out; rw [HT.out] at this; simp at this; omega⟩, ⟨HD.out.step _⟩⟩
      case measure => simp [intOf]; omega
  · have hi : i = R.size := by have := HI.out; omega
    have HE := Aside0.mk hi
    clear hi
    go_wp2
    go_ret
    exact ⟨by
      have := HS.out
      rw [HE.out, List.drop_eq_nil_of_le (by simp)] at this
      simp [spanL] at this
      rw [HE.out, this]
      rfl, HD.out⟩
end Go.Proofs.YtiljijckfkphhaaDoor.PLex
