/-
  No cell of these rows narrows 'for every input' (looked for: loops, veiled, ifaces, maps, wideKeys, modest, calm, conditions, laid).
  DERIVED. THE GIVEN ROWS OF THIS SEAT. 5 by the template 'for every input the law returns true; each argument reads behind the call as it read before'; 0 by the template 'total and deterministic' (their statements: YtgjggcgdilahdaaTotals.lean).
  GIVEN WITH THE SEED: the statements are not yours to turn. If you find one false, say at which input.
  Laid BY PROGRAM, IN A SANDBOX (cutbox-rows.mjs): the forced cells as the released guide's own fill.sh prints them over the translation d7372575e97554c8… (all of the seat's roots in one cut). By AI agents, Wed Nov 11 2026. No macro, syntax, notation, axiom, sorry.
-/
import Derived.Test.YtgjggcgdilahdaaChecked
import GoSem.Claim
import GoSem.ClaimJoined
import GoSem.ClaimMapViews
import Derived.JoinedTies
import Derived.KernelRfl
namespace Go.Proofs.Ytgjggcgdilahdaa
/- THE CELL 'sum', in the pinned program and in every row, IS THE sha256 OF THE DUMP (.gsa) THAT YtgjggcgdilahdaaProg.lean LOADS. Nothing in Lean hashes anything: it is a label: what it is worth is what the hold of that sum in a sandbox is worth. -/
noncomputable def Try.pinned : Pinned := { name := "ytgjggcgdilahdaa", sum := "d7372575e97554c809dc3b97ea490514dc6cb0ab29457b055a1468a93285c4c9", checked := Try.checked }
namespace Rows
def none {H : Type} : Left H := { results := [], args := [] }

/-- 'spokeshavelaw8.IrIns': WHATEVER THE INPUT: true; the input reads as it did. -/
def irInsSpec : ChangeSpec := { name := "irIns", fn := fun _ => fun
  | [d] => { results := [.lit (.bool true)], args := [d] }
  | _ => none }
def irInsRow : OpenClaim := { program := "ytgjggcgdilahdaa", sum := "d7372575e97554c809dc3b97ea490514dc6cb0ab29457b055a1468a93285c4c9", func := "spokeshave/spokeshavelaw8.IrIns", spec := "irIns", unfollowed := true, recurses := true, apart := false }
def IrInsSaid : Prop := irInsRow.holds Try.pinned (OpenSpec.ofChange irInsSpec)

/-- ITS FALSE NEIGHBOUR: 'it returns false'. Refute it at one input. -/
def irInsWrong : ChangeSpec := { name := "irIns", fn := fun _ => fun
  | [d] => { results := [.lit (.bool false)], args := [d] }
  | _ => none }
def IrInsWrongFalsely : Prop := irInsRow.holds Try.pinned (OpenSpec.ofChange irInsWrong)

/-- 'spokeshavelaw8.IrSame': WHATEVER THE INPUT: true; the input reads as it did. -/
def irSameSpec : ChangeSpec := { name := "irSame", fn := fun _ => fun
  | [d1, d2, d3] => { results := [.lit (.bool true)], args := [d1, d2, d3] }
  | _ => none }
def irSameRow : OpenClaim := { program := "ytgjggcgdilahdaa", sum := "d7372575e97554c809dc3b97ea490514dc6cb0ab29457b055a1468a93285c4c9", func := "spokeshave/spokeshavelaw8.IrSame", spec := "irSame", unfollowed := true, recurses := true, apart := false }
def IrSameSaid : Prop := irSameRow.holds Try.pinned (OpenSpec.ofChange irSameSpec)

/-- ITS FALSE NEIGHBOUR: 'it returns false'. Refute it at one input. -/
def irSameWrong : ChangeSpec := { name := "irSame", fn := fun _ => fun
  | [d1, d2, d3] => { results := [.lit (.bool false)], args := [d1, d2, d3] }
  | _ => none }
def IrSameWrongFalsely : Prop := irSameRow.holds Try.pinned (OpenSpec.ofChange irSameWrong)

/-- 'spokeshavelaw8.IrWords': WHATEVER THE INPUT: true; the input reads as it did. -/
def irWordsSpec : ChangeSpec := { name := "irWords", fn := fun _ => fun
  | [d1, d2, d3] => { results := [.lit (.bool true)], args := [d1, d2, d3] }
  | _ => none }
def irWordsRow : OpenClaim := { program := "ytgjggcgdilahdaa", sum := "d7372575e97554c809dc3b97ea490514dc6cb0ab29457b055a1468a93285c4c9", func := "spokeshave/spokeshavelaw8.IrWords", spec := "irWords", unfollowed := true, recurses := true, apart := false }
def IrWordsSaid : Prop := irWordsRow.holds Try.pinned (OpenSpec.ofChange irWordsSpec)

/-- ITS FALSE NEIGHBOUR: 'it returns false'. Refute it at one input. -/
def irWordsWrong : ChangeSpec := { name := "irWords", fn := fun _ => fun
  | [d1, d2, d3] => { results := [.lit (.bool false)], args := [d1, d2, d3] }
  | _ => none }
def IrWordsWrongFalsely : Prop := irWordsRow.holds Try.pinned (OpenSpec.ofChange irWordsWrong)

/-- 'spokeshavelaw8.IrMemory': WHATEVER THE INPUT: true; the input reads as it did. -/
def irMemorySpec : ChangeSpec := { name := "irMemory", fn := fun _ => fun
  | [d1, d2, d3, d4] => { results := [.lit (.bool true)], args := [d1, d2, d3, d4] }
  | _ => none }
def irMemoryRow : OpenClaim := { program := "ytgjggcgdilahdaa", sum := "d7372575e97554c809dc3b97ea490514dc6cb0ab29457b055a1468a93285c4c9", func := "spokeshave/spokeshavelaw8.IrMemory", spec := "irMemory", unfollowed := true, recurses := true, apart := false }
def IrMemorySaid : Prop := irMemoryRow.holds Try.pinned (OpenSpec.ofChange irMemorySpec)

/-- ITS FALSE NEIGHBOUR: 'it returns false'. Refute it at one input. -/
def irMemoryWrong : ChangeSpec := { name := "irMemory", fn := fun _ => fun
  | [d1, d2, d3, d4] => { results := [.lit (.bool false)], args := [d1, d2, d3, d4] }
  | _ => none }
def IrMemoryWrongFalsely : Prop := irMemoryRow.holds Try.pinned (OpenSpec.ofChange irMemoryWrong)

/-- 'spokeshavelaw8.IrCalls': WHATEVER THE INPUT: true; the input reads as it did. -/
def irCallsSpec : ChangeSpec := { name := "irCalls", fn := fun _ => fun
  | [d1, d2] => { results := [.lit (.bool true)], args := [d1, d2] }
  | _ => none }
def irCallsRow : OpenClaim := { program := "ytgjggcgdilahdaa", sum := "d7372575e97554c809dc3b97ea490514dc6cb0ab29457b055a1468a93285c4c9", func := "spokeshave/spokeshavelaw8.IrCalls", spec := "irCalls", unfollowed := true, recurses := true, apart := false }
def IrCallsSaid : Prop := irCallsRow.holds Try.pinned (OpenSpec.ofChange irCallsSpec)

/-- ITS FALSE NEIGHBOUR: 'it returns false'. Refute it at one input. -/
def irCallsWrong : ChangeSpec := { name := "irCalls", fn := fun _ => fun
  | [d1, d2] => { results := [.lit (.bool false)], args := [d1, d2] }
  | _ => none }
def IrCallsWrongFalsely : Prop := irCallsRow.holds Try.pinned (OpenSpec.ofChange irCallsWrong)

/- THE SECOND FORM. 'bulk': how many values and letters a reading holds, each counted each time it is reached (what is shared counts as often as it is met; a slice's spare places count too). A statement '..UptoSaid' is the law's where the arguments, and the package variables that the reading takes, are together of bulk at most 1048576: NARROWER than '..Said'. Prove '..Said' where nothing that the law and all that it calls make is longer than what came in: it says more and counts as full. Else prove '..UptoSaid'. A law counts once. -/
mutual
def uptoBulk {H : Type} : DataW H → Nat
  | .lit (.string bytes) => bytes.length + 1
  | .lit _ => 1
  | .nil => 1
  | .ptr d => uptoBulk d + 1
  | .slice elems spare => uptoBulkAll elems + uptoBulkAll spare + 1
  | .agg parts => uptoBulkAll parts + 1
  | .iface _ d => uptoBulk d + 1
  | .map entries => uptoBulkEntries entries + 1
  | .held _ => 1
def uptoBulkAll {H : Type} : List (DataW H) → Nat
  | [] => 0
  | d :: r => uptoBulk d + uptoBulkAll r
def uptoBulkEntries {H : Type} : List (Lit × DataW H) → Nat
  | [] => 0
  | x :: r => uptoBulkEntry x + uptoBulkEntries r
def uptoBulkEntry {H : Type} : Lit × DataW H → Nat
  | (.string bytes, d) => bytes.length + uptoBulk d + 1
  | (_, d) => uptoBulk d + 1
 end
def uptoSmall : (H : Type) → List (DataW H) → Bool := fun _ ds => decide (uptoBulkAll ds ≤ 1048576)
def OpenSpec.upto (s : _root_.Go.ChangeSpec) : _root_.Go.OpenSpec := { _root_.Go.OpenSpec.ofChange s with cond := some uptoSmall }

/-- 'spokeshavelaw8.IrIns', WHERE WHAT IT READS IS OF BULK AT MOST 1048576: true; the input reads as it did. -/
def irInsUptoRow : OpenClaim := { program := "ytgjggcgdilahdaa", sum := "d7372575e97554c809dc3b97ea490514dc6cb0ab29457b055a1468a93285c4c9", func := "spokeshave/spokeshavelaw8.IrIns", spec := "irIns", unfollowed := true, recurses := true, apart := false, narrowed := true }
def IrInsUptoSaid : Prop := irInsUptoRow.holds Try.pinned (OpenSpec.upto irInsSpec)

/-- 'spokeshavelaw8.IrSame', WHERE WHAT IT READS IS OF BULK AT MOST 1048576: true; the input reads as it did. -/
def irSameUptoRow : OpenClaim := { program := "ytgjggcgdilahdaa", sum := "d7372575e97554c809dc3b97ea490514dc6cb0ab29457b055a1468a93285c4c9", func := "spokeshave/spokeshavelaw8.IrSame", spec := "irSame", unfollowed := true, recurses := true, apart := false, narrowed := true }
def IrSameUptoSaid : Prop := irSameUptoRow.holds Try.pinned (OpenSpec.upto irSameSpec)

/-- 'spokeshavelaw8.IrWords', WHERE WHAT IT READS IS OF BULK AT MOST 1048576: true; the input reads as it did. -/
def irWordsUptoRow : OpenClaim := { program := "ytgjggcgdilahdaa", sum := "d7372575e97554c809dc3b97ea490514dc6cb0ab29457b055a1468a93285c4c9", func := "spokeshave/spokeshavelaw8.IrWords", spec := "irWords", unfollowed := true, recurses := true, apart := false, narrowed := true }
def IrWordsUptoSaid : Prop := irWordsUptoRow.holds Try.pinned (OpenSpec.upto irWordsSpec)

/-- 'spokeshavelaw8.IrMemory', WHERE WHAT IT READS IS OF BULK AT MOST 1048576: true; the input reads as it did. -/
def irMemoryUptoRow : OpenClaim := { program := "ytgjggcgdilahdaa", sum := "d7372575e97554c809dc3b97ea490514dc6cb0ab29457b055a1468a93285c4c9", func := "spokeshave/spokeshavelaw8.IrMemory", spec := "irMemory", unfollowed := true, recurses := true, apart := false, narrowed := true }
def IrMemoryUptoSaid : Prop := irMemoryUptoRow.holds Try.pinned (OpenSpec.upto irMemorySpec)

/-- 'spokeshavelaw8.IrCalls', WHERE WHAT IT READS IS OF BULK AT MOST 1048576: true; the input reads as it did. -/
def irCallsUptoRow : OpenClaim := { program := "ytgjggcgdilahdaa", sum := "d7372575e97554c809dc3b97ea490514dc6cb0ab29457b055a1468a93285c4c9", func := "spokeshave/spokeshavelaw8.IrCalls", spec := "irCalls", unfollowed := true, recurses := true, apart := false, narrowed := true }
def IrCallsUptoSaid : Prop := irCallsUptoRow.holds Try.pinned (OpenSpec.upto irCallsSpec)

end Rows
end Go.Proofs.Ytgjggcgdilahdaa
