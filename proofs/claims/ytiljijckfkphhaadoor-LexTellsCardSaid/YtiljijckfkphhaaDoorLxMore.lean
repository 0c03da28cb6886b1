/- More rounds of lex.Tokens. -/
import Derived.Test.YtiljijckfkphhaaDoorLxLoop
namespace Go.Proofs.YtiljijckfkphhaaDoor.PLex
open Go.RowKit Go.Proofs.YtiljijckfkphhaaDoorW.PrintWords Go.Proofs.YtiljijckfkphhaaDoorW.PrintLast Go.Proofs.YtiljijckfkphhaaDoorW.PrintMore
theorem Lx.tok_mono (k : Nat) (s : ByteArray) (a : Int) : LeO (Lx.tok k s a) (Lx.tok (k + 1) s a) := by
 unfold Lx.tok
 exact LeO.ite (LeO.bind (lex_reader_number.mono _ _ _) (fun _ => LeO.refl _)) (LeO.refl _)
theorem Lx.loop_mono : ∀ (k : Nat) (s : ByteArray) (a : Int) (out : List S33), LeO (Lx.loop k s a out) (Lx.loop (k + 1) s a out)
 | 0, _, _, _ => LeO.none _
 | k + 1, s, a, out => by
  rw [Lx.loop]
  conv => rhs; rw [Lx.loop]
  refine LeO.bind (lex_reader_gap.mono _ _ _) (fun p => LeO.ite (LeO.ite (LeO.refl _) (LeO.ite (LeO.refl _) (LeO.bind (Lx.tok_mono _ _ _) (fun r => ?_)))) (LeO.refl _))
  cases r with
  | error e => exact LeO.refl _
  | ok t => exact LeO.ite (LeO.refl _) (LeO.ite (Lx.loop_mono k _ _ _) (LeO.refl _))
theorem Lx.Tokens.mono : ∀ a0 k, LeO (Lx.Tokens.f k a0) (Lx.Tokens.f (k + 1) a0) := by
 intro a0 k
 unfold Lx.Tokens.f
 exact LeO.ite (LeO.refl _) (Lx.loop_mono _ _ _ _)
end Go.Proofs.YtiljijckfkphhaaDoor.PLex
