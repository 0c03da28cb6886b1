/- lex.reader.token: its answers, and the letter. -/
import Derived.Test.YtiljijckfkphhaaDoorLxSpan
import Derived.Test.YtiljijckfkphhaaDoorLxLetterW
namespace Go.Proofs.YtiljijckfkphhaaDoor.PLex
open Go.RowKit Go.Proofs.YtiljijckfkphhaaDoorW.PrintWords Go.Proofs.YtiljijckfkphhaaDoorW.PrintLast Go.Proofs.YtiljijckfkphhaaDoorW.PrintMore
set_option linter.unusedVariables false
set_option linter.unusedSectionVars false
set_option linter.unusedSimpArgs false
/-- A token that was taken: its kind, text, suffix, number; whether it was told in sixteens. -/
structure TK where
 kind : Int
 text : ByteArray
 suffix : ByteArray
 num : Int
 hex : Bool
/-- What a reader's function leaves: the token, and its place behind it; or what is wrong, and its place as it was. -/
def TokPost (g : Nat) (s : ByteArray) (a : Int) (w0 w : World) (r : Except Int TK) (e : Ending) (w' : World) : Prop :=
 Below w0.heap.size w0 w' ∧ KeepBut w w' g none ∧ match r with
  | .error n => (∃ k b c d m f, e = .returned (.tuple #[tokV k b c d m f, .int .i64 n])) ∧ IsS45 w0 w' g s a
  | .ok t => e = .returned (.tuple #[tokV t.kind a t.text t.suffix t.num t.hex, .int .i64 0]) ∧ IsS45 w0 w' g s (a + t.text.size)
def letterR (R : ByteArray) : Except Int TK :=
 if 1 < R.size ∧ bt R 1 = 92 then
  if R.size < 4 then .error 3 else if bt R 3 ≠ 39 then .error 3 else
  if Lib.indexByte [110, 48, 92, 39] (bt R 2).toNat.toUInt8 < 0 then .error 3 else .ok ⟨4, R.extract 0 4, ⟨#[]⟩, bt ⟨#[10, 0, 92, 39]⟩ (Lib.indexByte [110, 48, 92, 39] (bt R 2).toNat.toUInt8), false⟩
 else if R.size < 3 then .error 3 else if bt R 2 ≠ 39 then .error 3 else
  if bt R 1 < 32 ∨ 126 < bt R 1 ∨ bt R 1 = 39 then .error 3 else .ok ⟨4, R.extract 0 3, ⟨#[]⟩, bt R 1, false⟩
theorem ib_range (c : UInt8) : ∀ l : List UInt8, -1 ≤ Lib.indexByte l c ∧ Lib.indexByte l c < l.length
 | [] => by simp [Lib.indexByte]
 | b :: l => by
  have := ib_range c l
  rw [Lib.indexByte, List.length_cons]
  split
  · omega
  · split <;> omega
theorem ib4_range (c : UInt8) : Lib.indexByte [110, 48, 92, 39] c < 4 := (ib_range c _).2
theorem letter_calls (g : Nat) (s : ByteArray) (a : Int) (w0 w : World) (hI : IsS45 w0 w g s a) (hB : Below w0.heap.size w0 w) (ha : 0 ≤ a) (ha1 : a ≤ s.size) (ha2 : s.size ≤ 20000) (R : ByteArray) (hR : s.extract a.toNat s.size = R) :
  Calls Tryd.prog 29 #[.pointer (some ⟨g, 0, none⟩)] w (TokPost g s a w0 w (letterR R)) := by
 have hsl : ∀ w, (Instr.sliceAt 9 (.string s) (some (.int .i64 a)) none none).run Tryd.prog w = .ok (.string R) w := fun w => by rw [← hR]; exact sl_from s a ha ha1 w
 have er : ∀ {P : Ending → World → Prop}, (∀ e w', (e = .returned (.tuple #[tokV 0 0 ⟨#[]⟩ ⟨#[]⟩ 0 false, .int .i64 3]) ∧ IsS45 w0 w' g s a ∧ Below w0.heap.size w0 w' ∧ KeepBut w w' g none) → TokPost g s a w0 w (.error 3) e w') := fun e w' h => ⟨h.2.2.1, h.2.2.2, ⟨_, _, _, _, _, _, h.1⟩, h.2.1⟩
 have ix : ∀ i : Int, 0 ≤ i → i < R.size → ∀ w, (Instr.index 9 (.string R) (.int .i64 i)).run Tryd.prog w = .ok (.int .u8 (bt R i)) w := fun i h0 h1 w => ix_at R i h0 h1 w
 have ixv : ∀ (i v : Int), 0 ≤ i → i < R.size → bt R i = v → ∀ w, (Instr.index 9 (.string R) (.int .i64 i)).run Tryd.prog w = .ok (.int .u8 v) w := fun i v h0 h1 hv w => by rw [← hv]; exact ix_at R i h0 h1 w
 unfold letterR
 by_cases c1 : 1 < R.size ∧ bt R 1 = 92
 · rw [if_pos c1]
   have i1 := ixv 1 92 (by omega) (by omega) c1.2
   by_cases c2 : R.size < 4
   · rw [if_pos c2]
     exact (letter_a1 g s R a w0 w hI hB hsl c1.1 i1 c2).mono (er (P := fun _ _ => True))
   rw [if_neg c2]
   by_cases c3 : bt R 3 ≠ 39
   · rw [if_pos c3]
     exact (letter_a2 g s R a w0 w hI hB hsl (by omega) (bt R 3) i1 (ix 3 (by omega) (by omega)) c3).mono (er (P := fun _ _ => True))
   rw [if_neg c3]
   have c3' : bt R 3 = 39 := by simpa using c3
   have i3 := ixv 3 39 (by omega) (by omega) c3'
   have i2 := ix 2 (by omega) (by omega)
   have hq : Lx.IndexByte.f ⟨#[110, 48, 92, 39]⟩ (bt R 2) = some (Lib.indexByte [110, 48, 92, 39] (bt R 2).toNat.toUInt8) := rfl
   by_cases c4 : Lib.indexByte [110, 48, 92, 39] (bt R 2).toNat.toUInt8 < 0
   · rw [if_pos c4]
     exact (letter_a3 g s R a w0 w hI hB hsl (by omega) (bt R 2) _ i1 i2 i3 hq c4).mono (er (P := fun _ _ => True))
   · rw [if_neg c4]
     have hb := bt_range ⟨#[10, 0, 92, 39]⟩ (Lib.indexByte [110, 48, 92, 39] (bt R 2).toNat.toUInt8)
     have h4 := ib4_range (bt R 2).toNat.toUInt8
     refine (letter_ok4 g s R a w0 w hI hB hsl (by omega) (bt R 2) _ (bt ⟨#[10, 0, 92, 39]⟩ (Lib.indexByte [110, 48, 92, 39] (bt R 2).toNat.toUInt8)) i1 i2 i3 hq (by omega) hb.1 hb.2 (fun w => ix_at _ _ (by omega) (by show _ < (4 : Int); omega) w) ha (by omega)).mono (fun e w' h => ⟨h.2.2.1, h.2.2.2, h.1, ?_⟩)
     have : ((R.extract 0 4).size : Int) = 4 := by rw [ByteArray.size_extract]; omega
     rw [this]; exact h.2.1
 · rw [if_neg c1]
   by_cases c2 : R.size < 3
   · rw [if_pos c2]
     by_cases c3 : R.size ≤ 1
     · exact (letter_b1 g s R a w0 w hI hB hsl c3).mono (er (P := fun _ _ => True))
     · exact (letter_b2 g s R a w0 w hI hB hsl (by omega) (bt R 1) (ix 1 (by omega) (by omega)) (fun h => c1 ⟨by omega, h⟩)).mono (er (P := fun _ _ => True))
   rw [if_neg c2]
   have n1 : bt R 1 ≠ 92 := fun h => c1 ⟨by omega, h⟩
   have i1 := ix 1 (by omega) (by omega)
   by_cases c3 : bt R 2 ≠ 39
   · rw [if_pos c3]
     exact (letter_b3 g s R a w0 w hI hB hsl (by omega) (bt R 1) (bt R 2) i1 (ix 2 (by omega) (by omega)) n1 c3).mono (er (P := fun _ _ => True))
   rw [if_neg c3]
   have i2 := ixv 2 39 (by omega) (by omega) (by simpa using c3)
   by_cases c4 : bt R 1 < 32 ∨ 126 < bt R 1 ∨ bt R 1 = 39
   · rw [if_pos c4]
     rcases c4 with c4 | c4 | c4
     · exact (letter_b4 g s R a w0 w hI hB hsl (by omega) (bt R 1) i1 i2 n1 c4).mono (er (P := fun _ _ => True))
     · exact (letter_b5 g s R a w0 w hI hB hsl (by omega) (bt R 1) i1 i2 n1 c4).mono (er (P := fun _ _ => True))
     · exact (letter_b6 g s R a w0 w hI hB hsl (by omega) (ixv 1 39 (by omega) (by omega) c4) i2).mono (er (P := fun _ _ => True))
   · rw [if_neg c4]
     refine (letter_ok3 g s R a w0 w hI hB hsl (by omega) (bt R 1) i1 i2 n1 (by omega) (by omega) (by omega) ha (by omega)).mono (fun e w' h => ⟨h.2.2.1, h.2.2.2, h.1, ?_⟩)
     have : ((R.extract 0 3).size : Int) = 3 := by rw [ByteArray.size_extract]; omega
     rw [this]; exact h.2.1
end Go.Proofs.YtiljijckfkphhaaDoor.PLex
