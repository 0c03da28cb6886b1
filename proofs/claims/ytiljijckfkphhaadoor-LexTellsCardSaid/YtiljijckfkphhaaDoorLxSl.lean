/- A text from a place on, and a byte of it: the operations' runs. -/
import Derived.Test.YtiljijckfkphhaaDoorPLexx0
import Derived.Laws.Strings3
namespace Go.Proofs.YtiljijckfkphhaaDoor.PLex
open Go.RowKit Go.Proofs.YtiljijckfkphhaaDoorW.PrintWords
theorem sl_from (s : ByteArray) (a : Int) (h0 : 0 ≤ a) (h1 : a ≤ s.size) (w : World) : (Instr.sliceAt 9 (.string s) (some (.int .i64 a)) none none).run Tryd.prog w = .ok (.string (s.extract a.toNat s.size)) w := by
 have h9 := Tryd.underlying9
 go_simp
theorem ix_at (s : ByteArray) (i : Int) (h0 : 0 ≤ i) (h1 : i < s.size) (w : World) : (Instr.index 9 (.string s) (.int .i64 i)).run Tryd.prog w = .ok (.int .u8 (bt s i)) w := by
 have h9 := Tryd.underlying9
 have hn : i.toNat < s.size := by omega
 go_simp
 simp [bt, hn]
end Go.Proofs.YtiljijckfkphhaaDoor.PLex
