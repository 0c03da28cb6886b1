/- lex.reader.token, whole. -/
import Derived.Test.YtiljijckfkphhaaDoorLxTokN
import Derived.Test.YtiljijckfkphhaaDoorLxTokW
import Derived.Test.YtiljijckfkphhaaDoorLxSign
import Derived.Test.YtiljijckfkphhaaDoorPLexx3
namespace Go.Proofs.YtiljijckfkphhaaDoor.PLex
open Go.RowKit Go.Proofs.YtiljijckfkphhaaDoorW.PrintWords Go.Proofs.YtiljijckfkphhaaDoorW.PrintLast Go.Proofs.YtiljijckfkphhaaDoorW.PrintMore
set_option linter.unusedVariables false
set_option linter.unusedSectionVars false
set_option linter.unusedSimpArgs false
theorem span_le (l : List UInt8) : spanL l ≤ l.length := by
 unfold spanL
 induction l with
 | nil => simp
 | cons b l ih => rw [List.takeWhile_cons]; split
                  · simp only [List.length_cons]; omega
                  · simp
/-- What number answers, as a token. -/
def numO (s : ByteArray) (a : Int) : Int × Int × ByteArray × ByteArray × Int × Bool × Int × ByteArray × Int → Option (Except Int TK)
 | (r1, r2, r3, r4, r5, r6, r7, r8, r9) => if r8.data.toList = s.data.toList then
   (if r7 = 0 then (if r2 = a ∧ r9 = a + r3.size then some (.ok ⟨r1, r3, r4, r5, r6⟩) else none) else if r9 = a then some (.error r7) else none) else none
def wordO (R : ByteArray) : Option (Except Int TK) := if 30 < spanL R.data.toList then some (.error 6) else (lex_Word.f (R.extract 0 (spanL R.data.toList))).bind fun b => some (.ok ⟨if b = true then 2 else 1, R.extract 0 (spanL R.data.toList), ⟨#[]⟩, 0, false⟩)
/-- A token from a place on. -/
def Lx.tok (k : Nat) (s : ByteArray) (a : Int) : Option (Except Int TK) :=
 if digitB (bt (s.extract a.toNat s.size) 0) = true then (lex_reader_number.f k s a).bind (numO s a)
 else if bt (s.extract a.toNat s.size) 0 = 39 then some (letterR (s.extract a.toNat s.size))
 else if partB (bt (s.extract a.toNat s.size) 0) = true then wordO (s.extract a.toNat s.size)
 else some (signR (s.extract a.toNat s.size))
theorem ba_ext {s t : ByteArray} (h : s.data.toList = t.data.toList) : s = t := by
 cases s; cases t
 simp only at h
 congr 1
 exact Array.toList_inj.1 h
theorem token_calls (k : Nat) (g : Nat) (s : ByteArray) (a : Int) (r : Except Int TK) (w0 w : World) (hI : IsS45 w0 w g s a) (hB : Below w0.heap.size w0 w) (hG : GW w0) (ha : 0 ≤ a) (ha1 : a < s.size) (ha2 : s.size ≤ 20000) (h : Lx.tok k s a = some r) :
  Calls Tryd.prog 18 #[.pointer (some ⟨g, 0, none⟩)] w (TokPost g s a w0 w r) := by
 obtain ⟨R, hR⟩ : ∃ R, s.extract a.toNat s.size = R := ⟨_, rfl⟩
 have hsl : ∀ w, (Instr.sliceAt 9 (.string s) (some (.int .i64 a)) none none).run Tryd.prog w = .ok (.string R) w := fun w => by rw [← hR]; exact sl_from s a ha (by omega) w
 have hsz : R.size = s.size - a.toNat := by rw [← hR, ByteArray.size_extract]; omega
 have h1 : 1 ≤ R.size := by omega
 have hi0 := fun w => ix_at R 0 (by omega) (by omega) w
 unfold Lx.tok at h
 rw [hR] at h
 split at h
 · rename_i hd
   obtain ⟨⟨r1, r2, r3, r4, r5, r6, r7, r8, r9⟩, hn, hq⟩ := Option.bind_eq_some_iff.1 h
   clear h
   refine token_number g s R a w0 w hI hB hsl h1 _ hi0 hd r (fun w' hI' hB' => ?_)
   refine (lex_reader_number.calls k g s a r1 r2 r3 r4 r5 r6 r7 r8 r9 w0 w' hI' hB' hn).mono (fun e w2 hp => ?_)
   obtain ⟨he, h2, h3, h4⟩ := hp
   simp only [numO] at hq
   split at hq
   case isFalse => cases hq
   rename_i h8
   have h8' := ba_ext h8
   subst h8'
   split at hq
   · rename_i h7
     split at hq
     case isFalse => cases hq
     rename_i h9
     injection hq with hq
     subst hq
     refine ⟨h3, h4, ?_, ?_⟩
     · rw [he, h7, h9.1]
     · rw [← h9.2]; exact h2
   · rename_i h7
     split at hq
     case isFalse => cases hq
     rename_i h9
     injection hq with hq
     subst hq
     exact ⟨h3, h4, ⟨_, _, _, _, _, _, he⟩, by rw [← h9]; exact h2⟩
 · rename_i hd
   have hd' : digitB (bt R 0) = false := by simpa using hd
   split at h
   · rename_i h39
     injection h with h
     subst h
     exact token_letter g s R a w0 w hI hB hsl h1 _ hi0 h39 _ (fun w' hI' hB' => letter_calls g s a w0 w' hI' hB' ha (by omega) ha2 R hR)
   · rename_i h39
     split at h
     · rename_i hp
       unfold wordO at h
       have hle : spanL R.data.toList ≤ R.size := by have := span_le R.data.toList; simpa using this
       split at h
       · rename_i hn
         injection h with h
         subst h
         exact token_long g s R a w0 w hI hB hsl h1 _ hi0 hp hd' h39 (by omega) hn hle
       · rename_i hn
         obtain ⟨b, hb, h⟩ := Option.bind_eq_some_iff.1 h
         injection h with h
         subst h
         cases b
         · exact token_name g s R a w0 w hI hB hsl h1 _ hi0 hp hd' h39 (by omega) (by omega) hG ha (by omega) hb hle
         · exact token_word g s R a w0 w hI hB hsl h1 _ hi0 hp hd' h39 (by omega) (by omega) hG ha (by omega) hb hle
     · rename_i hp
       injection h with h
       subst h
       exact token_sign g s R a w0 w hI hB hsl h1 _ hi0 hd' (by simpa using hp) h39 hG ha (by omega)
end Go.Proofs.YtiljijckfkphhaaDoor.PLex
