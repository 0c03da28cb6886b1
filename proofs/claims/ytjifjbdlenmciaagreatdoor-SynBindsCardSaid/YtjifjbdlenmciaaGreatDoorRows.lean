/-
  NARROWER THAN 'FOR EVERY INPUT', by the rows' own cells (each row's printed sentence says how): SynBinds: laid · SynElse: laid · SynDeep: laid · SynTypes: laid · SynBlank: laid.
  DERIVED. THE GIVEN ROWS OF THIS SEAT. 5 by the template 'for every input the law returns true; each argument reads behind the call as it read before'; 0 by the template 'total and deterministic' (their statements: YtjifjbdlenmciaaGreatDoorTotals.lean).
  GIVEN WITH THE SEED: the statements are not yours to turn. If you find one false, say at which input.
  Laid BY PROGRAM, IN A SANDBOX (cutbox-rows.mjs): the forced cells as the released guide's own fill.sh prints them over the translation b62c448534cc4fea… (all of the seat's roots in one cut). By AI agents, Wed Nov 11 2026. No macro, syntax, notation, axiom, sorry.
-/
import Derived.Test.YtjifjbdlenmciaaGreatDoorChecked
import GoSem.Claim
import GoSem.ClaimJoined
import GoSem.ClaimMapViews
import Derived.JoinedTies
import Derived.KernelRfl
namespace Go.Proofs.YtjifjbdlenmciaaGreatDoor
/- THE CELL 'sum', in the pinned program and in every row, IS THE sha256 OF THE DUMP (.gsa) THAT YtjifjbdlenmciaaGreatDoorProg.lean LOADS. Nothing in Lean hashes anything: it is a label: what it is worth is what the hold of that sum in a sandbox is worth. -/
noncomputable def Tryz.pinned : Pinned := { name := "ytjifjbdlenmciaagreatdoor", sum := "b62c448534cc4fea2dd37e15de8c0591f2843aa3f2fdafba7b76c453f8f5d946", checked := Tryz.checked }
namespace Rows
def none {H : Type} : Left H := { results := [], args := [] }

/- WHAT THE LISTED PACKAGE-LEVEL VARIABLES READ AS WHEN THE CALL BEGINS. Each datum BY PROGRAM (the guide's laid-datum.mjs) off the statement by which the dump's own 'gosem.cut.vars' lays the variable. In a bare row this is a premise. The card (YtjifjbdlenmciaaGreatDoorCards.lean) ties it to the program's text. -/
def laid_math_bits_deBruijn32tab {H : Type} : DataW H := .agg [.lit (.int .u8 0), .lit (.int .u8 1), .lit (.int .u8 28), .lit (.int .u8 2), .lit (.int .u8 29), .lit (.int .u8 14), .lit (.int .u8 24), .lit (.int .u8 3), .lit (.int .u8 30), .lit (.int .u8 22), .lit (.int .u8 20), .lit (.int .u8 15), .lit (.int .u8 25), .lit (.int .u8 17), .lit (.int .u8 4), .lit (.int .u8 8), .lit (.int .u8 31), .lit (.int .u8 27), .lit (.int .u8 13), .lit (.int .u8 23), .lit (.int .u8 21), .lit (.int .u8 19), .lit (.int .u8 16), .lit (.int .u8 7), .lit (.int .u8 26), .lit (.int .u8 12), .lit (.int .u8 18), .lit (.int .u8 6), .lit (.int .u8 11), .lit (.int .u8 5), .lit (.int .u8 10), .lit (.int .u8 9)]
def laid_math_bits_deBruijn64tab {H : Type} : DataW H := .agg [.lit (.int .u8 0), .lit (.int .u8 1), .lit (.int .u8 56), .lit (.int .u8 2), .lit (.int .u8 57), .lit (.int .u8 49), .lit (.int .u8 28), .lit (.int .u8 3), .lit (.int .u8 61), .lit (.int .u8 58), .lit (.int .u8 42), .lit (.int .u8 50), .lit (.int .u8 38), .lit (.int .u8 29), .lit (.int .u8 17), .lit (.int .u8 4), .lit (.int .u8 62), .lit (.int .u8 47), .lit (.int .u8 59), .lit (.int .u8 36), .lit (.int .u8 45), .lit (.int .u8 43), .lit (.int .u8 51), .lit (.int .u8 22), .lit (.int .u8 53), .lit (.int .u8 39), .lit (.int .u8 33), .lit (.int .u8 30), .lit (.int .u8 24), .lit (.int .u8 18), .lit (.int .u8 12), .lit (.int .u8 5), .lit (.int .u8 63), .lit (.int .u8 55), .lit (.int .u8 48), .lit (.int .u8 27), .lit (.int .u8 60), .lit (.int .u8 41), .lit (.int .u8 37), .lit (.int .u8 16), .lit (.int .u8 46), .lit (.int .u8 35), .lit (.int .u8 44), .lit (.int .u8 21), .lit (.int .u8 52), .lit (.int .u8 32), .lit (.int .u8 23), .lit (.int .u8 11), .lit (.int .u8 54), .lit (.int .u8 26), .lit (.int .u8 40), .lit (.int .u8 15), .lit (.int .u8 34), .lit (.int .u8 20), .lit (.int .u8 31), .lit (.int .u8 10), .lit (.int .u8 25), .lit (.int .u8 14), .lit (.int .u8 19), .lit (.int .u8 9), .lit (.int .u8 13), .lit (.int .u8 8), .lit (.int .u8 7), .lit (.int .u8 6)]
def laid_internal_strconv_uint64pow10 {H : Type} : DataW H := .agg [.lit (.int .u64 1), .lit (.int .u64 10), .lit (.int .u64 100), .lit (.int .u64 1000), .lit (.int .u64 10000), .lit (.int .u64 100000), .lit (.int .u64 1000000), .lit (.int .u64 10000000), .lit (.int .u64 100000000), .lit (.int .u64 1000000000), .lit (.int .u64 10000000000), .lit (.int .u64 100000000000), .lit (.int .u64 1000000000000), .lit (.int .u64 10000000000000), .lit (.int .u64 100000000000000), .lit (.int .u64 1000000000000000), .lit (.int .u64 10000000000000000), .lit (.int .u64 100000000000000000), .lit (.int .u64 1000000000000000000), .lit (.int .u64 10000000000000000000)]
def laid_spokeshave_lex_signs {H : Type} : DataW H := .agg [.slice [.lit (.string [60, 60, 61]), .lit (.string [62, 62, 61])] [], .slice [.lit (.string [60, 60]), .lit (.string [62, 62]), .lit (.string [60, 61]), .lit (.string [62, 61]), .lit (.string [61, 61]), .lit (.string [33, 61]), .lit (.string [38, 38]), .lit (.string [124, 124]), .lit (.string [45, 62]), .lit (.string [43, 61]), .lit (.string [45, 61]), .lit (.string [42, 61]), .lit (.string [47, 61]), .lit (.string [37, 61]), .lit (.string [38, 61]), .lit (.string [124, 61]), .lit (.string [94, 61])] [], .slice [.lit (.string [43]), .lit (.string [45]), .lit (.string [42]), .lit (.string [47]), .lit (.string [37]), .lit (.string [38]), .lit (.string [124]), .lit (.string [94]), .lit (.string [126]), .lit (.string [33]), .lit (.string [60]), .lit (.string [62]), .lit (.string [61]), .lit (.string [40]), .lit (.string [41]), .lit (.string [91]), .lit (.string [93]), .lit (.string [123]), .lit (.string [125]), .lit (.string [44]), .lit (.string [59]), .lit (.string [58]), .lit (.string [63]), .lit (.string [46])] []]
def laid_spokeshave_syn_bases {H : Type} : DataW H := .map [(.string [99, 104, 97, 114], .lit (.string [105, 56])), (.string [105, 110, 116], .lit (.string [105, 51, 50])), (.string [108, 111, 110, 103], .lit (.string [105, 54, 52])), (.string [115, 104, 111, 114, 116], .lit (.string [105, 49, 54])), (.string [115, 116, 114, 117, 99, 116], .lit (.string [83, 46])), (.string [117, 110, 115, 105, 103, 110, 101, 100], .lit (.string [117, 51, 50])), (.string [118, 111, 105, 100], .lit (.string [118, 111, 105, 100]))]
def laid_spokeshave_syn_levels {H : Type} : DataW H := .slice [.slice [.lit (.string [124, 124])] [], .slice [.lit (.string [38, 38])] [], .slice [.lit (.string [124])] [], .slice [.lit (.string [94])] [], .slice [.lit (.string [38])] [], .slice [.lit (.string [61, 61]), .lit (.string [33, 61])] [], .slice [.lit (.string [60]), .lit (.string [60, 61]), .lit (.string [62]), .lit (.string [62, 61])] [], .slice [.lit (.string [60, 60]), .lit (.string [62, 62])] [], .slice [.lit (.string [43]), .lit (.string [45])] [], .slice [.lit (.string [42]), .lit (.string [47]), .lit (.string [37])] []] []
def laid_spokeshave_syn_sets {H : Type} : DataW H := .slice [.lit (.string [61]), .lit (.string [43, 61]), .lit (.string [45, 61]), .lit (.string [42, 61]), .lit (.string [47, 61]), .lit (.string [37, 61]), .lit (.string [38, 61]), .lit (.string [124, 61]), .lit (.string [94, 61]), .lit (.string [60, 60, 61]), .lit (.string [62, 62, 61])] []

/-- 'spokeshavelaw3.SynBinds': WHATEVER THE INPUT: true; the input reads as it did. -/
def synBindsSpec : ChangeSpec := { name := "synBinds", fn := fun _ => fun
  | [d1, d2] => { results := [.lit (.bool true)], args := [d1, d2] }
  | _ => none }
def synBindsRow : OpenClaim := { program := "ytjifjbdlenmciaagreatdoor", sum := "b62c448534cc4fea2dd37e15de8c0591f2843aa3f2fdafba7b76c453f8f5d946", func := "spokeshave/spokeshavelaw3.SynBinds", spec := "synBinds", inPlace := ["internal/bytealg.IndexByteString", "internal/bytealg.IndexString", "internal/abi.NoEscape", "internal/bytealg.MakeNoZero"], unfollowed := true, recurses := true, named := ["internal/bytealg.MaxLen", "spokeshave/lex.signs", "spokeshave/syn.bases", "spokeshave/syn.sets", "spokeshave/syn.levels", "internal/strconv.uint64pow10", "math/bits.deBruijn32tab", "math/bits.deBruijn64tab"], apart := false, laid := [("math/bits.deBruijn32tab", laid_math_bits_deBruijn32tab), ("math/bits.deBruijn64tab", laid_math_bits_deBruijn64tab), ("internal/strconv.uint64pow10", laid_internal_strconv_uint64pow10), ("spokeshave/lex.signs", laid_spokeshave_lex_signs), ("spokeshave/syn.bases", laid_spokeshave_syn_bases), ("spokeshave/syn.levels", laid_spokeshave_syn_levels), ("spokeshave/syn.sets", laid_spokeshave_syn_sets)] }
def SynBindsSaid : Prop := synBindsRow.holds Tryz.pinned (OpenSpec.ofChange synBindsSpec)

/-- ITS FALSE NEIGHBOUR: 'it returns false'. Refute it at one input. -/
def synBindsWrong : ChangeSpec := { name := "synBinds", fn := fun _ => fun
  | [d1, d2] => { results := [.lit (.bool false)], args := [d1, d2] }
  | _ => none }
def SynBindsWrongFalsely : Prop := synBindsRow.holds Tryz.pinned (OpenSpec.ofChange synBindsWrong)

/-- 'spokeshavelaw3.SynElse': WHATEVER THE INPUT: true; the input reads as it did. -/
def synElseSpec : ChangeSpec := { name := "synElse", fn := fun _ => fun
  | [d1, d2] => { results := [.lit (.bool true)], args := [d1, d2] }
  | _ => none }
def synElseRow : OpenClaim := { program := "ytjifjbdlenmciaagreatdoor", sum := "b62c448534cc4fea2dd37e15de8c0591f2843aa3f2fdafba7b76c453f8f5d946", func := "spokeshave/spokeshavelaw3.SynElse", spec := "synElse", inPlace := ["internal/bytealg.IndexByteString", "internal/bytealg.IndexString", "internal/abi.NoEscape", "internal/bytealg.MakeNoZero"], unfollowed := true, recurses := true, named := ["internal/bytealg.MaxLen", "spokeshave/lex.signs", "spokeshave/syn.bases", "spokeshave/syn.sets", "spokeshave/syn.levels", "internal/strconv.uint64pow10", "math/bits.deBruijn32tab", "math/bits.deBruijn64tab"], apart := false, laid := [("math/bits.deBruijn32tab", laid_math_bits_deBruijn32tab), ("math/bits.deBruijn64tab", laid_math_bits_deBruijn64tab), ("internal/strconv.uint64pow10", laid_internal_strconv_uint64pow10), ("spokeshave/lex.signs", laid_spokeshave_lex_signs), ("spokeshave/syn.bases", laid_spokeshave_syn_bases), ("spokeshave/syn.levels", laid_spokeshave_syn_levels), ("spokeshave/syn.sets", laid_spokeshave_syn_sets)] }
def SynElseSaid : Prop := synElseRow.holds Tryz.pinned (OpenSpec.ofChange synElseSpec)

/-- ITS FALSE NEIGHBOUR: 'it returns false'. Refute it at one input. -/
def synElseWrong : ChangeSpec := { name := "synElse", fn := fun _ => fun
  | [d1, d2] => { results := [.lit (.bool false)], args := [d1, d2] }
  | _ => none }
def SynElseWrongFalsely : Prop := synElseRow.holds Tryz.pinned (OpenSpec.ofChange synElseWrong)

/-- 'spokeshavelaw3.SynDeep': WHATEVER THE INPUT: true; the input reads as it did. -/
def synDeepSpec : ChangeSpec := { name := "synDeep", fn := fun _ => fun
  | [d1, d2] => { results := [.lit (.bool true)], args := [d1, d2] }
  | _ => none }
def synDeepRow : OpenClaim := { program := "ytjifjbdlenmciaagreatdoor", sum := "b62c448534cc4fea2dd37e15de8c0591f2843aa3f2fdafba7b76c453f8f5d946", func := "spokeshave/spokeshavelaw3.SynDeep", spec := "synDeep", inPlace := ["internal/bytealg.IndexByteString", "internal/bytealg.IndexString", "internal/abi.NoEscape", "internal/bytealg.MakeNoZero"], unfollowed := true, recurses := true, named := ["internal/bytealg.MaxLen", "spokeshave/lex.signs", "spokeshave/syn.bases", "spokeshave/syn.sets", "spokeshave/syn.levels", "internal/strconv.uint64pow10", "math/bits.deBruijn32tab", "math/bits.deBruijn64tab"], apart := false, laid := [("math/bits.deBruijn32tab", laid_math_bits_deBruijn32tab), ("math/bits.deBruijn64tab", laid_math_bits_deBruijn64tab), ("internal/strconv.uint64pow10", laid_internal_strconv_uint64pow10), ("spokeshave/lex.signs", laid_spokeshave_lex_signs), ("spokeshave/syn.bases", laid_spokeshave_syn_bases), ("spokeshave/syn.levels", laid_spokeshave_syn_levels), ("spokeshave/syn.sets", laid_spokeshave_syn_sets)] }
def SynDeepSaid : Prop := synDeepRow.holds Tryz.pinned (OpenSpec.ofChange synDeepSpec)

/-- ITS FALSE NEIGHBOUR: 'it returns false'. Refute it at one input. -/
def synDeepWrong : ChangeSpec := { name := "synDeep", fn := fun _ => fun
  | [d1, d2] => { results := [.lit (.bool false)], args := [d1, d2] }
  | _ => none }
def SynDeepWrongFalsely : Prop := synDeepRow.holds Tryz.pinned (OpenSpec.ofChange synDeepWrong)

/-- 'spokeshavelaw3.SynTypes': WHATEVER THE INPUT: true; the input reads as it did. -/
def synTypesSpec : ChangeSpec := { name := "synTypes", fn := fun _ => fun
  | [d1, d2, d3] => { results := [.lit (.bool true)], args := [d1, d2, d3] }
  | _ => none }
def synTypesRow : OpenClaim := { program := "ytjifjbdlenmciaagreatdoor", sum := "b62c448534cc4fea2dd37e15de8c0591f2843aa3f2fdafba7b76c453f8f5d946", func := "spokeshave/spokeshavelaw3.SynTypes", spec := "synTypes", inPlace := ["internal/bytealg.IndexByteString", "internal/bytealg.IndexString", "internal/abi.NoEscape", "internal/bytealg.MakeNoZero"], unfollowed := true, recurses := true, named := ["internal/bytealg.MaxLen", "spokeshave/lex.signs", "spokeshave/syn.bases", "spokeshave/syn.sets", "spokeshave/syn.levels", "internal/strconv.uint64pow10", "math/bits.deBruijn32tab", "math/bits.deBruijn64tab"], apart := false, laid := [("math/bits.deBruijn32tab", laid_math_bits_deBruijn32tab), ("math/bits.deBruijn64tab", laid_math_bits_deBruijn64tab), ("internal/strconv.uint64pow10", laid_internal_strconv_uint64pow10), ("spokeshave/lex.signs", laid_spokeshave_lex_signs), ("spokeshave/syn.bases", laid_spokeshave_syn_bases), ("spokeshave/syn.levels", laid_spokeshave_syn_levels), ("spokeshave/syn.sets", laid_spokeshave_syn_sets)] }
def SynTypesSaid : Prop := synTypesRow.holds Tryz.pinned (OpenSpec.ofChange synTypesSpec)

/-- ITS FALSE NEIGHBOUR: 'it returns false'. Refute it at one input. -/
def synTypesWrong : ChangeSpec := { name := "synTypes", fn := fun _ => fun
  | [d1, d2, d3] => { results := [.lit (.bool false)], args := [d1, d2, d3] }
  | _ => none }
def SynTypesWrongFalsely : Prop := synTypesRow.holds Tryz.pinned (OpenSpec.ofChange synTypesWrong)

/-- 'spokeshavelaw3.SynBlank': WHATEVER THE INPUT: true; the input reads as it did. -/
def synBlankSpec : ChangeSpec := { name := "synBlank", fn := fun _ => fun
  | [d1, d2] => { results := [.lit (.bool true)], args := [d1, d2] }
  | _ => none }
def synBlankRow : OpenClaim := { program := "ytjifjbdlenmciaagreatdoor", sum := "b62c448534cc4fea2dd37e15de8c0591f2843aa3f2fdafba7b76c453f8f5d946", func := "spokeshave/spokeshavelaw3.SynBlank", spec := "synBlank", inPlace := ["internal/bytealg.IndexByteString", "internal/bytealg.IndexString", "internal/abi.NoEscape", "internal/bytealg.MakeNoZero"], unfollowed := true, recurses := true, named := ["internal/bytealg.MaxLen", "spokeshave/lex.signs", "spokeshave/syn.bases", "spokeshave/syn.sets", "spokeshave/syn.levels", "internal/strconv.uint64pow10", "math/bits.deBruijn32tab", "math/bits.deBruijn64tab"], apart := false, laid := [("math/bits.deBruijn32tab", laid_math_bits_deBruijn32tab), ("math/bits.deBruijn64tab", laid_math_bits_deBruijn64tab), ("internal/strconv.uint64pow10", laid_internal_strconv_uint64pow10), ("spokeshave/lex.signs", laid_spokeshave_lex_signs), ("spokeshave/syn.bases", laid_spokeshave_syn_bases), ("spokeshave/syn.levels", laid_spokeshave_syn_levels), ("spokeshave/syn.sets", laid_spokeshave_syn_sets)] }
def SynBlankSaid : Prop := synBlankRow.holds Tryz.pinned (OpenSpec.ofChange synBlankSpec)

/-- ITS FALSE NEIGHBOUR: 'it returns false'. Refute it at one input. -/
def synBlankWrong : ChangeSpec := { name := "synBlank", fn := fun _ => fun
  | [d1, d2] => { results := [.lit (.bool false)], args := [d1, d2] }
  | _ => none }
def SynBlankWrongFalsely : Prop := synBlankRow.holds Tryz.pinned (OpenSpec.ofChange synBlankWrong)

/- THE SECOND FORM. 'bulk': how many values and letters a reading holds, each counted each time it is reached (what is shared counts as often as it is met; a slice's spare places count too). A statement '..UptoSaid' is the law's where the arguments, and the package variables that the reading takes, are together of bulk at most 1048576: NARROWER than '..Said'. Prove '..Said' where nothing that the law and all that it calls make is longer than what came in: it says more and counts as full. Else prove '..UptoSaid'. A law counts once. -/
mutual
def uptoBulk {H : Type} : DataW H → Nat
  | .lit (.string bytes) => bytes.length + 1
  | .lit _ => 1
  | .nil => 1
  | .ptr d => uptoBulk d + 1
  | .slice elems spare => uptoBulkAll elems + uptoBulkAll spare + 1
  | .agg parts => uptoBulkAll parts + 1
  | .iface _ d => uptoBulk d + 1
  | .map entries => uptoBulkEntries entries + 1
  | .held _ => 1
def uptoBulkAll {H : Type} : List (DataW H) → Nat
  | [] => 0
  | d :: r => uptoBulk d + uptoBulkAll r
def uptoBulkEntries {H : Type} : List (Lit × DataW H) → Nat
  | [] => 0
  | x :: r => uptoBulkEntry x + uptoBulkEntries r
def uptoBulkEntry {H : Type} : Lit × DataW H → Nat
  | (.string bytes, d) => bytes.length + uptoBulk d + 1
  | (_, d) => uptoBulk d + 1
 end
def uptoSmall : (H : Type) → List (DataW H) → Bool := fun _ ds => decide (uptoBulkAll ds ≤ 1048576)
def OpenSpec.upto (s : _root_.Go.ChangeSpec) : _root_.Go.OpenSpec := { _root_.Go.OpenSpec.ofChange s with cond := some uptoSmall }

/-- 'spokeshavelaw3.SynBinds', WHERE WHAT IT READS IS OF BULK AT MOST 1048576: true; the input reads as it did. -/
def synBindsUptoRow : OpenClaim := { program := "ytjifjbdlenmciaagreatdoor", sum := "b62c448534cc4fea2dd37e15de8c0591f2843aa3f2fdafba7b76c453f8f5d946", func := "spokeshave/spokeshavelaw3.SynBinds", spec := "synBinds", inPlace := ["internal/bytealg.IndexByteString", "internal/bytealg.IndexString", "internal/abi.NoEscape", "internal/bytealg.MakeNoZero"], unfollowed := true, recurses := true, named := ["internal/bytealg.MaxLen", "spokeshave/lex.signs", "spokeshave/syn.bases", "spokeshave/syn.sets", "spokeshave/syn.levels", "internal/strconv.uint64pow10", "math/bits.deBruijn32tab", "math/bits.deBruijn64tab"], apart := false, laid := [("math/bits.deBruijn32tab", laid_math_bits_deBruijn32tab), ("math/bits.deBruijn64tab", laid_math_bits_deBruijn64tab), ("internal/strconv.uint64pow10", laid_internal_strconv_uint64pow10), ("spokeshave/lex.signs", laid_spokeshave_lex_signs), ("spokeshave/syn.bases", laid_spokeshave_syn_bases), ("spokeshave/syn.levels", laid_spokeshave_syn_levels), ("spokeshave/syn.sets", laid_spokeshave_syn_sets)], narrowed := true }
def SynBindsUptoSaid : Prop := synBindsUptoRow.holds Tryz.pinned (OpenSpec.upto synBindsSpec)

/-- 'spokeshavelaw3.SynElse', WHERE WHAT IT READS IS OF BULK AT MOST 1048576: true; the input reads as it did. -/
def synElseUptoRow : OpenClaim := { program := "ytjifjbdlenmciaagreatdoor", sum := "b62c448534cc4fea2dd37e15de8c0591f2843aa3f2fdafba7b76c453f8f5d946", func := "spokeshave/spokeshavelaw3.SynElse", spec := "synElse", inPlace := ["internal/bytealg.IndexByteString", "internal/bytealg.IndexString", "internal/abi.NoEscape", "internal/bytealg.MakeNoZero"], unfollowed := true, recurses := true, named := ["internal/bytealg.MaxLen", "spokeshave/lex.signs", "spokeshave/syn.bases", "spokeshave/syn.sets", "spokeshave/syn.levels", "internal/strconv.uint64pow10", "math/bits.deBruijn32tab", "math/bits.deBruijn64tab"], apart := false, laid := [("math/bits.deBruijn32tab", laid_math_bits_deBruijn32tab), ("math/bits.deBruijn64tab", laid_math_bits_deBruijn64tab), ("internal/strconv.uint64pow10", laid_internal_strconv_uint64pow10), ("spokeshave/lex.signs", laid_spokeshave_lex_signs), ("spokeshave/syn.bases", laid_spokeshave_syn_bases), ("spokeshave/syn.levels", laid_spokeshave_syn_levels), ("spokeshave/syn.sets", laid_spokeshave_syn_sets)], narrowed := true }
def SynElseUptoSaid : Prop := synElseUptoRow.holds Tryz.pinned (OpenSpec.upto synElseSpec)

/-- 'spokeshavelaw3.SynDeep', WHERE WHAT IT READS IS OF BULK AT MOST 1048576: true; the input reads as it did. -/
def synDeepUptoRow : OpenClaim := { program := "ytjifjbdlenmciaagreatdoor", sum := "b62c448534cc4fea2dd37e15de8c0591f2843aa3f2fdafba7b76c453f8f5d946", func := "spokeshave/spokeshavelaw3.SynDeep", spec := "synDeep", inPlace := ["internal/bytealg.IndexByteString", "internal/bytealg.IndexString", "internal/abi.NoEscape", "internal/bytealg.MakeNoZero"], unfollowed := true, recurses := true, named := ["internal/bytealg.MaxLen", "spokeshave/lex.signs", "spokeshave/syn.bases", "spokeshave/syn.sets", "spokeshave/syn.levels", "internal/strconv.uint64pow10", "math/bits.deBruijn32tab", "math/bits.deBruijn64tab"], apart := false, laid := [("math/bits.deBruijn32tab", laid_math_bits_deBruijn32tab), ("math/bits.deBruijn64tab", laid_math_bits_deBruijn64tab), ("internal/strconv.uint64pow10", laid_internal_strconv_uint64pow10), ("spokeshave/lex.signs", laid_spokeshave_lex_signs), ("spokeshave/syn.bases", laid_spokeshave_syn_bases), ("spokeshave/syn.levels", laid_spokeshave_syn_levels), ("spokeshave/syn.sets", laid_spokeshave_syn_sets)], narrowed := true }
def SynDeepUptoSaid : Prop := synDeepUptoRow.holds Tryz.pinned (OpenSpec.upto synDeepSpec)

/-- 'spokeshavelaw3.SynTypes', WHERE WHAT IT READS IS OF BULK AT MOST 1048576: true; the input reads as it did. -/
def synTypesUptoRow : OpenClaim := { program := "ytjifjbdlenmciaagreatdoor", sum := "b62c448534cc4fea2dd37e15de8c0591f2843aa3f2fdafba7b76c453f8f5d946", func := "spokeshave/spokeshavelaw3.SynTypes", spec := "synTypes", inPlace := ["internal/bytealg.IndexByteString", "internal/bytealg.IndexString", "internal/abi.NoEscape", "internal/bytealg.MakeNoZero"], unfollowed := true, recurses := true, named := ["internal/bytealg.MaxLen", "spokeshave/lex.signs", "spokeshave/syn.bases", "spokeshave/syn.sets", "spokeshave/syn.levels", "internal/strconv.uint64pow10", "math/bits.deBruijn32tab", "math/bits.deBruijn64tab"], apart := false, laid := [("math/bits.deBruijn32tab", laid_math_bits_deBruijn32tab), ("math/bits.deBruijn64tab", laid_math_bits_deBruijn64tab), ("internal/strconv.uint64pow10", laid_internal_strconv_uint64pow10), ("spokeshave/lex.signs", laid_spokeshave_lex_signs), ("spokeshave/syn.bases", laid_spokeshave_syn_bases), ("spokeshave/syn.levels", laid_spokeshave_syn_levels), ("spokeshave/syn.sets", laid_spokeshave_syn_sets)], narrowed := true }
def SynTypesUptoSaid : Prop := synTypesUptoRow.holds Tryz.pinned (OpenSpec.upto synTypesSpec)

/-- 'spokeshavelaw3.SynBlank', WHERE WHAT IT READS IS OF BULK AT MOST 1048576: true; the input reads as it did. -/
def synBlankUptoRow : OpenClaim := { program := "ytjifjbdlenmciaagreatdoor", sum := "b62c448534cc4fea2dd37e15de8c0591f2843aa3f2fdafba7b76c453f8f5d946", func := "spokeshave/spokeshavelaw3.SynBlank", spec := "synBlank", inPlace := ["internal/bytealg.IndexByteString", "internal/bytealg.IndexString", "internal/abi.NoEscape", "internal/bytealg.MakeNoZero"], unfollowed := true, recurses := true, named := ["internal/bytealg.MaxLen", "spokeshave/lex.signs", "spokeshave/syn.bases", "spokeshave/syn.sets", "spokeshave/syn.levels", "internal/strconv.uint64pow10", "math/bits.deBruijn32tab", "math/bits.deBruijn64tab"], apart := false, laid := [("math/bits.deBruijn32tab", laid_math_bits_deBruijn32tab), ("math/bits.deBruijn64tab", laid_math_bits_deBruijn64tab), ("internal/strconv.uint64pow10", laid_internal_strconv_uint64pow10), ("spokeshave/lex.signs", laid_spokeshave_lex_signs), ("spokeshave/syn.bases", laid_spokeshave_syn_bases), ("spokeshave/syn.levels", laid_spokeshave_syn_levels), ("spokeshave/syn.sets", laid_spokeshave_syn_sets)], narrowed := true }
def SynBlankUptoSaid : Prop := synBlankUptoRow.holds Tryz.pinned (OpenSpec.upto synBlankSpec)

end Rows
end Go.Proofs.YtjifjbdlenmciaaGreatDoor
