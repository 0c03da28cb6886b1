/- A part of the proof: M2. -/
import Derived.Test.YtgjggcgdilahdaaM1
set_option linter.unusedVariables false
set_option linter.unusedSimpArgs false
set_option linter.constructorNameAsVariable false
set_option linter.unusedVariables false
set_option maxRecDepth 100000
namespace Go.Xe
open Go.RowKit
abbrev byt (n k : Int) : Int := iwrap .u8 (shrI .u64 (iwrap .u64 n) k)
abbrev orb (acc n k : Int) : Int := ior .u64 acc (shlI .u64 (iwrap .u64 (byt n k)) k)
def bs1 (n : Int) : Int := orb 0 n 0
def bs2 (n : Int) : Int := orb (bs1 n) n 8
def bs3 (n : Int) : Int := orb (bs2 n) n 16
def bs4 (n : Int) : Int := orb (bs3 n) n 24
def bs5 (n : Int) : Int := orb (bs4 n) n 32
def bs6 (n : Int) : Int := orb (bs5 n) n 40
def bs7 (n : Int) : Int := orb (bs6 n) n 48
def bs8 (n : Int) : Int := orb (bs7 n) n 56
abbrev wU (x s : Int) : Int := iwrap .i64 (shrI .u64 (shlI .u64 (iwrap .u64 x) s) s)
abbrev wS (x s : Int) : Int := shrI .i64 (shlI .i64 x s) s
abbrev trueR : Prop := (.one (.s (.bool true)) : AV) = .one (.s (.bool true))
abbrev mR (x1 x2 : Int) (c : Bool) (k : Nat) (n : Int) (P : Prop) : Prop := F6_0 (IrM (k+1000)) (J6 (IrM (k+1000)) (k+1000)) n x1 x2 c S0 isT = P
abbrev sA (a : Int) (P : Prop) : Prop := Sem 1 16777184 a (16777184 + a) true ∧ P
abbrev gA (a : Int) (P : Prop) : Prop := Sem 1 65536 a (65536 + a) true ∧ P
abbrev w0 (n : Int) : Prop := wU (iwrap .i64 (bs1 n)) 56 = wU n 56 ∧ trueR
abbrev w1 (n : Int) : Prop := wU (iwrap .i64 (bs2 n)) 48 = wU n 48 ∧ trueR
abbrev w2 (n : Int) : Prop := wU (iwrap .i64 (bs4 n)) 32 = wU n 32 ∧ trueR
abbrev w3 (n : Int) : Prop := wU (iwrap .i64 (bs8 n)) 0 = wU n 0 ∧ trueR
abbrev w4 (n : Int) : Prop := wS (iwrap .i64 (bs1 n)) 56 = wS n 56 ∧ trueR
abbrev w5 (n : Int) : Prop := wS (iwrap .i64 (bs2 n)) 48 = wS n 48 ∧ trueR
abbrev w6 (n : Int) : Prop := wS (iwrap .i64 (bs4 n)) 32 = wS n 32 ∧ trueR
abbrev w7 (n : Int) : Prop := wS (iwrap .i64 (bs8 n)) 0 = wS n 0 ∧ trueR
end Go.Xe
