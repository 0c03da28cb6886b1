/- A part of the proof: XF_ir_2. -/
import Derived.Test.YtgjggcgdilahdaaXFir0
import Derived.KernelRfl
set_option linter.unusedVariables false
set_option linter.unusedSimpArgs false
set_option linter.constructorNameAsVariable false
set_option linter.unusedVariables false
set_option maxRecDepth 100000
namespace Go.Xe
open Go.RowKit
noncomputable section
noncomputable def plans43 (i : Nat) : Plan := if Nat.beq i 0 then [(0, []), (1, [0]), (2, [1, 0]), (3, [2, 1, 0]), (4, []), (5, [4]), (6, [5, 4]), (7, [6, 5, 4]), (8, [7, 6, 5, 4]), (9, [8, 7, 6, 5, 4]), (10, [3, 9, 2, 8, 1, 7, 0, 6, 5, 4]), (11, [10, 0, 1, 2, 3, 4, 5, 6, 7, 8, 9])] else if Nat.beq i 1 then [(0, []), (1, [0]), (2, [1, 0]), (3, [2, 1, 0]), (4, []), (5, [4]), (6, [5, 4]), (7, [6, 5, 4]), (8, [3, 7, 2, 6, 1, 5, 0, 4]), (9, [8, 3, 7, 2, 6, 1, 5, 0, 4]), (10, [9, 8, 3, 7, 2, 6, 1, 5, 0, 4]), (11, []), (12, [11]), (13, [12, 11]), (14, [13, 12, 11]), (15, [10, 14, 9, 13, 8, 12, 3, 7, 11, 2, 6, 1, 5, 0, 4]), (16, [15, 10, 14, 9, 13, 8, 12, 3, 7, 11, 2, 6, 1, 5, 0, 4]), (17, [16, 15, 10, 14, 9, 13, 8, 12, 3, 7, 11, 2, 6, 1, 5, 0, 4]), (18, []), (19, [18]), (20, [19, 18]), (21, [20, 19, 18]), (22, [17, 21, 16, 20, 15, 19, 10, 14, 18, 9, 13, 8, 12, 3, 7, 11, 2, 6, 1, 5, 0, 4]), (23, [22, 17, 21, 16, 20, 15, 19, 10, 14, 18, 9, 13, 8, 12, 3, 7, 11, 2, 6, 1, 5, 0, 4]), (24, []), (25, [24, 23, 0, 1, 2, 3, 4, 5, 6, 7, 8, 9, 10, 11, 12, 13, 14, 15, 16, 17, 18, 19, 20, 21, 22])] else if Nat.beq i 9 then [(0, []), (1, []), (2, [1]), (3, []), (4, []), (5, [4]), (6, [3, 5, 4]), (7, [6, 3, 5, 4]), (8, [0, 2, 1, 3, 4, 5, 6, 7]), (9, [8, 7, 0, 1, 2, 3, 4, 5, 6])] else if Nat.beq i 11 then [(0, []), (1, [0]), (2, []), (3, []), (4, [3]), (5, [2, 4, 3]), (6, [5, 2, 4, 3]), (7, []), (8, []), (9, [8]), (10, [7, 9, 8]), (11, [10, 7, 9, 8]), (12, [1, 6, 11, 0, 5, 10, 2, 4, 7, 9, 3, 8]), (13, [12, 1, 6, 11, 0, 5, 10, 2, 4, 7, 9, 3, 8]), (14, [13, 12, 1, 6, 11, 0, 5, 10, 2, 4, 7, 9, 3, 8]), (15, [13, 12, 1, 6, 11, 0, 5, 10, 2, 4, 7, 9, 3, 8]), (16, [14, 12, 0, 1, 2, 3, 4, 5, 6, 7, 8, 9, 10, 11, 13]), (17, [15, 16, 0, 1, 2, 3, 4, 5, 6, 7, 8, 9, 10, 11, 12, 13, 14])] else if Nat.beq i 16 then [(0, []), (1, []), (2, [1]), (3, []), (4, [3]), (5, []), (6, []), (7, [6]), (8, [5, 7, 6]), (9, [8, 5, 7, 6]), (10, [4, 9, 3, 8, 5, 7, 6]), (11, [0, 2, 1, 3, 4, 5, 6, 7, 8, 9, 10]), (12, [11, 10, 0, 1, 2, 3, 4, 5, 6, 7, 8, 9])] else if Nat.beq i 19 then [(0, []), (1, []), (2, []), (3, [2]), (4, [1, 3, 2]), (5, [4, 1, 3, 2]), (6, []), (7, [6]), (8, [7, 6]), (9, [8, 7, 6]), (10, [0, 5, 9, 4, 8, 1, 3, 7, 2, 6]), (11, [10, 0, 1, 2, 3, 4, 5, 6, 7, 8, 9])] else if Nat.beq i 24 then [(0, []), (1, []), (2, [1]), (3, []), (4, []), (5, [4]), (6, [3, 5, 4]), (7, [0, 2, 1, 3, 4, 5, 6]), (8, [7, 6, 0, 1, 2, 3, 4, 5])] else if Nat.beq i 27 then [(0, []), (1, [0]), (2, [1, 0]), (3, [2, 1, 0]), (4, []), (5, [4]), (6, [5, 4]), (7, [6, 5, 4]), (8, [3, 7, 2, 6, 1, 5, 0, 4]), (9, [8, 3, 7, 2, 6, 1, 5, 0, 4]), (10, [9, 8, 3, 7, 2, 6, 1, 5, 0, 4]), (11, []), (12, [11]), (13, [12, 11]), (14, [10, 13, 9, 12, 8, 11, 3, 7, 2, 6, 1, 5, 0, 4]), (15, [14, 10, 13, 9, 12, 8, 11, 3, 7, 2, 6, 1, 5, 0, 4]), (16, [])] else if Nat.beq i 34 then [(0, []), (1, []), (2, [1]), (3, []), (4, [3]), (5, [4, 3]), (6, [5, 4, 3]), (7, []), (8, [7]), (9, [6, 8, 5, 7, 4, 3]), (10, [9, 6, 8, 5, 7, 4, 3]), (11, [0, 2, 1, 3, 4, 5, 6, 7, 8, 9, 10]), (12, [11, 10, 0, 1, 2, 3, 4, 5, 6, 7, 8, 9])] else if Nat.beq i 36 then [(0, []), (1, []), (2, [1]), (3, []), (4, [3]), (5, [4, 3]), (6, [0, 2, 1, 3, 4, 5]), (7, [6, 5, 0, 1, 2, 3, 4])] else if Nat.beq i 40 then [(0, []), (1, []), (2, [1]), (3, []), (4, [3]), (5, [4, 3]), (6, [5, 4, 3]), (7, [6, 5, 4, 3]), (8, [7, 6, 5, 4, 3]), (9, [8, 7, 6, 5, 4, 3]), (10, [0, 2, 1, 3, 4, 5, 6, 7, 8, 9]), (11, [10, 9, 0, 1, 2, 3, 4, 5, 6, 7, 8])] else if Nat.beq i 43 then [(0, []), (1, []), (2, [1]), (3, [2, 1]), (4, [3, 2, 1]), (5, [4, 3, 2, 1]), (6, []), (7, []), (8, [7]), (9, [6, 8, 7]), (10, [9, 6, 8, 7]), (11, [10, 9, 6, 8, 7]), (12, [11, 10, 9, 6, 8, 7]), (13, [5, 12, 4, 11, 3, 10, 2, 9, 1, 6, 8, 7]), (14, [0, 1, 2, 3, 4, 5, 6, 7, 8, 9, 10, 11, 12, 13]), (15, [14, 0, 1, 2, 3, 4, 5, 6, 7, 8, 9, 10, 11, 12, 13]), (16, [15, 0, 1, 2, 3, 4, 5, 6, 7, 8, 9, 10, 11, 12, 13, 14]), (17, [16, 13, 0, 1, 2, 3, 4, 5, 6, 7, 8, 9, 10, 11, 12, 15, 14])] else if Nat.beq i 56 then [(0, []), (1, []), (2, []), (3, [2]), (4, []), (5, []), (6, [4, 5]), (7, [3, 6, 2, 4, 5]), (8, [7, 3, 6, 2, 4, 5]), (9, [0, 2, 3, 4, 5, 6, 7, 8]), (10, [9, 0, 2, 3, 4, 5, 6, 7, 8]), (11, [10, 8, 6, 0, 2, 3, 4, 5, 7, 9]), (12, [1, 0, 2, 3, 4, 5, 6, 7, 8, 9, 10, 11]), (13, [12, 0, 1, 2, 3, 4, 5, 6, 7, 8, 9, 10, 11]), (14, [13, 11, 0, 1, 2, 3, 4, 5, 6, 7, 8, 9, 10, 12])] else []
noncomputable def T43 (p : Nat) : List Item × List Nat := bif Nat.beq p 0 then ([.code (match Go.Proofs.Try.f43.body with | some c => c | none => .skip)], [0]) else
  bif Nat.beq p 25 then (navs [.op, .op, .op, .op, .op, .op, .el, .op, .el, .op, .el, .op, .el, .op, .th] [.code (match Go.Proofs.Try.f43.body with | some c => c | none => .skip)], [0, 2, 3, 4, 59, 124]) else
  bif Nat.beq p 38 then (navs [.op, .op, .op, .op, .op, .op, .el, .op, .el, .op, .el, .op, .el, .op, .th, .el, .op, .th, .op, .op] [.code (match Go.Proofs.Try.f43.body with | some c => c | none => .skip)], [3, 4, 8, 182, 183, 184]) else
  bif Nat.beq p 72 then (navs [.op, .op, .op, .op, .op, .op, .el, .op, .el, .op, .el, .op, .el, .op, .th, .el, .op, .el, .op, .el, .op, .el, .op, .el, .op, .el, .op, .el, .op, .el, .op, .th, .op, .op, .th, .op] [.code (match Go.Proofs.Try.f43.body with | some c => c | none => .skip)], [0, 11]) else
  bif Nat.beq p 75 then (navs [.op, .op, .op, .op, .op, .op, .el, .op, .el, .op, .el, .op, .el, .op, .th, .el, .op, .el, .op, .el, .op, .el, .op, .el, .op, .el, .op, .el, .op, .el, .op, .el, .op, .th] [.code (match Go.Proofs.Try.f43.body with | some c => c | none => .skip)], [0, 2, 3, 4, 297]) else
  ([], [])
noncomputable def F43_q48 (D J : Disp) (S : St) (S494 : St) (y505 : LV) (K : AV → St → Prop) : Prop :=
 St.at S494 (Bk.new (St.next S)) 2 fun y514 =>
 uncK y514 fun v515 y516 =>
 SV.cI IntKind.i64 v515 fun x520 =>
 St.at S494 (Bk.new (St.next S)) 5 fun y521 =>
 uncK y521 fun v522 y523 =>
 SV.cI IntKind.i64 v522 fun x527 =>
 LV.cs y505 fun b528 n529 n530 y531 =>
 req (Bool.and (ile (0 : Int) x520) (ilt x520 (Int.ofNat n530))) <|
 letK (α := Nat) ((n529 + ((Int.toNat x520) * 1))) fun n532 =>
 St.wr S494 b528 n532 [(SV.int IntKind.i64 x527)] fun S533 =>
 K ((AV.tup [])) S533
noncomputable def F43_q49 (D J : Disp) (S494 : St) (y505 : LV) (x551 : Int) (x558 : Int) (K : AV → St → Prop) : Prop :=
 LV.cs y505 fun b559 n560 n561 y562 =>
 req (Bool.and (ile (0 : Int) x558) (ilt x558 (Int.ofNat n561))) <|
 letK (α := Nat) ((n560 + ((Int.toNat x558) * 1))) fun n563 =>
 St.at S494 b559 n563 fun y564 =>
 uncK y564 fun v565 y566 =>
 SV.cI IntKind.i64 v565 fun x570 =>
 LV.cs y505 fun b571 n572 n573 y574 =>
 req (Bool.and (ile (0 : Int) x551) (ilt x551 (Int.ofNat n573))) <|
 letK (α := Nat) ((n572 + ((Int.toNat x551) * 1))) fun n575 =>
 St.wr S494 b571 n575 [(SV.int IntKind.i64 x570)] fun S576 =>
 K ((AV.tup [])) S576
noncomputable def F43_q50 (D J : Disp) (S : St) (p0 : PV) (y505 : LV) (S639 : St) (x648 : Int) (c654 : Bool) (K : AV → St → Prop) : Prop :=
 ifK c654
 (D 42 [(AV.one (V1.s (SV.ptr p0))), (AV.one (V1.s (SV.int IntKind.i64 (2 : Int)))), (AV.one (V1.s (SV.int IntKind.i64 (0 : Int))))] S639 fun v655 S656 =>
 avT v655 fun y658 =>
 endL y658 (K ((AV.tup [])) S656))
 (St.at S639 (Bk.new (St.next S)) 2 fun y662 =>
 uncK y662 fun v663 y664 =>
 SV.cI IntKind.i64 v663 fun x668 =>
 LV.cs y505 fun b669 n670 n671 y672 =>
 req (Bool.and (ile (0 : Int) x668) (ilt x668 (Int.ofNat n671))) <|
 letK (α := Nat) ((n670 + ((Int.toNat x668) * 1))) fun n673 =>
 St.wr S639 b669 n673 [(SV.int IntKind.i64 x648)] fun S674 =>
 K ((AV.tup [])) S674)
noncomputable def F43_q51 (D J : Disp) (S : St) (p0 : PV) (S494 : St) (y505 : LV) (x599 : Int) (x618 : Int) (b626 : Bk) (n630 : Nat) (K : AV → St → Prop) : Prop :=
 St.at S494 b626 n630 fun y631 =>
 uncK y631 fun v632 y633 =>
 SV.cI IntKind.i64 v632 fun x637 =>
 D 61 [(AV.one (V1.s (SV.int IntKind.i64 x599))), (AV.one (V1.s (SV.int IntKind.i64 x618))), (AV.one (V1.s (SV.int IntKind.i64 x637)))] S494 fun v638 S639 =>
 avT v638 fun y641 =>
 uncV y641 fun v642 y643 =>
 v1S v642 fun v645 =>
 SV.cI IntKind.i64 v645 fun x648 =>
 uncV y643 fun v649 y650 =>
 v1S v649 fun v652 =>
 SV.cB v652 fun y653 =>
 endL y650 (letK (α := Bool) ((Bool.not y653)) fun c654 =>
 F43_q50 D J S p0 y505 S639 x648 c654 K)
noncomputable def F43_q52 (D J : Disp) (S : St) (p0 : PV) (S494 : St) (y505 : LV) (x599 : Int) (x606 : Int) (K : AV → St → Prop) : Prop :=
 LV.cs y505 fun b607 n608 n609 y610 =>
 req (Bool.and (ile (0 : Int) x606) (ilt x606 (Int.ofNat n609))) <|
 letK (α := Nat) ((n608 + ((Int.toNat x606) * 1))) fun n611 =>
 St.at S494 b607 n611 fun y612 =>
 uncK y612 fun v613 y614 =>
 SV.cI IntKind.i64 v613 fun x618 =>
 St.at S494 (Bk.new (St.next S)) 4 fun y619 =>
 uncK y619 fun v620 y621 =>
 SV.cI IntKind.i64 v620 fun x625 =>
 LV.cs y505 fun b626 n627 n628 y629 =>
 req (Bool.and (ile (0 : Int) x625) (ilt x625 (Int.ofNat n628))) <|
 letK (α := Nat) ((n627 + ((Int.toNat x625) * 1))) fun n630 =>
 F43_q51 D J S p0 S494 y505 x599 x618 b626 n630 K
noncomputable def F43_q53 (D J : Disp) (S : St) (S494 : St) (y505 : LV) (x729 : Int) (x736 : Int) (y740 : Bool) (x759 : Int) (K : AV → St → Prop) : Prop :=
 D 62 [(AV.one (V1.agg [(SV.int IntKind.i64 x736), (SV.bool y740)])), (AV.one (V1.s (SV.int IntKind.i64 x759)))] S494 fun v760 S761 =>
 scK v760 fun v763 =>
 SV.cI IntKind.i64 v763 fun x766 =>
 St.at S761 (Bk.new (St.next S)) 2 fun y767 =>
 uncK y767 fun v768 y769 =>
 SV.cI IntKind.i64 v768 fun x773 =>
 req (sameAV (AV.one (V1.s (SV.int IntKind.i64 x773))) (AV.one (V1.s (SV.int IntKind.i64 x729)))) <|
 LV.cs y505 fun b774 n775 n776 y777 =>
 req (Bool.and (ile (0 : Int) x729) (ilt x729 (Int.ofNat n776))) <|
 letK (α := Nat) ((n775 + ((Int.toNat x729) * 1))) fun n778 =>
 St.wr S761 b774 n778 [(SV.int IntKind.i64 x766)] fun S779 =>
 K ((AV.tup [])) S779
noncomputable def F43_q54 (D J : Disp) (S : St) (S494 : St) (y505 : LV) (x729 : Int) (K : AV → St → Prop) : Prop :=
 St.at S494 (Bk.new (St.next S)) 6 fun y730 =>
 uncK y730 fun v731 y732 =>
 SV.cI IntKind.i64 v731 fun x736 =>
 uncK y732 fun v737 y738 =>
 SV.cB v737 fun y740 =>
 St.at S494 (Bk.new (St.next S)) 3 fun y741 =>
 uncK y741 fun v742 y743 =>
 SV.cI IntKind.i64 v742 fun x747 =>
 LV.cs y505 fun b748 n749 n750 y751 =>
 req (Bool.and (ile (0 : Int) x747) (ilt x747 (Int.ofNat n750))) <|
 letK (α := Nat) ((n749 + ((Int.toNat x747) * 1))) fun n752 =>
 St.at S494 b748 n752 fun y753 =>
 uncK y753 fun v754 y755 =>
 SV.cI IntKind.i64 v754 fun x759 =>
 F43_q53 D J S S494 y505 x729 x736 y740 x759 K
noncomputable def F43_q55 (D J : Disp) (S : St) (p0 : PV) (b328 : Bk) (n332 : Nat) (S494 : St) (y505 : LV) (x512 : Int) (c819 : Bool) (K : AV → St → Prop) : Prop :=
 ifK c819
 (J 25 [(AV.one (V1.s (SV.ptr p0))), (AV.one (V1.s (SV.ptr (PV.mk b328 n332)))), (AV.one (V1.s (SV.ptr (PV.mk (Bk.new (St.next S)) 0)))), (AV.one (V1.s (SV.sl y505))), (AV.one (V1.s (SV.int IntKind.i64 x512))), (AV.one (V1.s (SV.bool c819)))] S494 K)
 (letK (α := Bool) ((ieq x512 (6 : Int))) fun c820 =>
 J 25 [(AV.one (V1.s (SV.ptr p0))), (AV.one (V1.s (SV.ptr (PV.mk b328 n332)))), (AV.one (V1.s (SV.ptr (PV.mk (Bk.new (St.next S)) 0)))), (AV.one (V1.s (SV.sl y505))), (AV.one (V1.s (SV.int IntKind.i64 x512))), (AV.one (V1.s (SV.bool c820)))] S494 K)
noncomputable def F43_q56 (D J : Disp) (S : St) (p0 : PV) (b328 : Bk) (n332 : Nat) (S494 : St) (y505 : LV) (x512 : Int) (c592 : Bool) (K : AV → St → Prop) : Prop :=
 ifK c592
 (St.at S494 (Bk.new (St.next S)) 1 fun y593 =>
 uncK y593 fun v594 y595 =>
 SV.cI IntKind.i64 v594 fun x599 =>
 St.at S494 (Bk.new (St.next S)) 3 fun y600 =>
 uncK y600 fun v601 y602 =>
 SV.cI IntKind.i64 v601 fun x606 =>
 F43_q52 D J S p0 S494 y505 x599 x606 K)
 (letK (α := Bool) ((ieq x512 (4 : Int))) fun c722 =>
 ifK c722
 (St.at S494 (Bk.new (St.next S)) 2 fun y723 =>
 uncK y723 fun v724 y725 =>
 SV.cI IntKind.i64 v724 fun x729 =>
 F43_q54 D J S S494 y505 x729 K)
 (letK (α := Bool) ((ieq x512 (5 : Int))) fun c819 =>
 F43_q55 D J S p0 b328 n332 S494 y505 x512 c819 K))
noncomputable def F43_q57 (D J : Disp) (S : St) (p0 : PV) (b328 : Bk) (n332 : Nat) (S494 : St) (y505 : LV) (x512 : Int) (c513 : Bool) (K : AV → St → Prop) : Prop :=
 ifK c513
 (F43_q48 D J S S494 y505 K)
 (letK (α := Bool) ((ieq x512 (2 : Int))) fun c544 =>
 ifK c544
 (St.at S494 (Bk.new (St.next S)) 2 fun y545 =>
 uncK y545 fun v546 y547 =>
 SV.cI IntKind.i64 v546 fun x551 =>
 St.at S494 (Bk.new (St.next S)) 3 fun y552 =>
 uncK y552 fun v553 y554 =>
 SV.cI IntKind.i64 v553 fun x558 =>
 F43_q49 D J S494 y505 x551 x558 K)
 (letK (α := Bool) ((ieq x512 (3 : Int))) fun c592 =>
 F43_q56 D J S p0 b328 n332 S494 y505 x512 c592 K))
noncomputable def F43_q58 (D J : Disp) (S : St) (p0 : PV) (b328 : Bk) (n332 : Nat) (S483 : St) (x491 : Int) (K : AV → St → Prop) : Prop :=
 letK (α := Int) ((iwrap IntKind.i64 (x491 + (1 : Int)))) fun x492 =>
 letK (α := Nat) ((n332 + 2)) fun n493 =>
 St.wr S483 b328 n493 [(SV.int IntKind.i64 x492)] fun S494 =>
 letK (α := Nat) ((n332 + 3)) fun n495 =>
 St.at S494 b328 n495 fun y496 =>
 uncK y496 fun v497 y498 =>
 SV.cL v497 fun y505 =>
 St.at S494 (Bk.new (St.next S)) 0 fun y506 =>
 uncK y506 fun v507 y508 =>
 SV.cI IntKind.i64 v507 fun x512 =>
 letK (α := Bool) ((ieq x512 (1 : Int))) fun c513 =>
 F43_q57 D J S p0 b328 n332 S494 y505 x512 c513 K
noncomputable def F43_q59 (D J : Disp) (S : St) (p0 : PV) (b328 : Bk) (n332 : Nat) (x413 : Int) (x419 : Int) (x425 : Int) (x431 : Int) (x437 : Int) (x443 : Int) (x449 : Int) (y453 : Bool) (y462 : LV) (y471 : LV) (y480 : LV) (K : AV → St → Prop) : Prop :=
 letK (α := AO) ((AO.cells [(SV.int IntKind.i64 (0 : Int)), (SV.int IntKind.i64 (0 : Int)), (SV.int IntKind.i64 (0 : Int)), (SV.int IntKind.i64 (0 : Int)), (SV.int IntKind.i64 (0 : Int)), (SV.int IntKind.i64 (0 : Int)), (SV.int IntKind.i64 (0 : Int)), (SV.bool Bool.false), (SV.sl LV.nil), (SV.sl LV.nil), (SV.sl LV.nil)] (Op2.ty 27))) fun o481 =>
 letK (α := St) ((St.add S o481)) fun S482 =>
 St.wr S482 (Bk.new (St.next S)) 0 [(SV.int IntKind.i64 x413), (SV.int IntKind.i64 x419), (SV.int IntKind.i64 x425), (SV.int IntKind.i64 x431), (SV.int IntKind.i64 x437), (SV.int IntKind.i64 x443), (SV.int IntKind.i64 x449), (SV.bool y453), (SV.sl y462), (SV.sl y471), (SV.sl y480)] fun S483 =>
 letK (α := Nat) ((n332 + 2)) fun n484 =>
 St.at S483 b328 n484 fun y485 =>
 uncK y485 fun v486 y487 =>
 SV.cI IntKind.i64 v486 fun x491 =>
 F43_q58 D J S p0 b328 n332 S483 x491 K
noncomputable def F43_q60 (D J : Disp) (S : St) (p0 : PV) (b328 : Bk) (n332 : Nat) (b402 : Bk) (n406 : Nat) (K : AV → St → Prop) : Prop :=
 St.at S b402 n406 fun y407 =>
 uncK y407 fun v408 y409 =>
 SV.cI IntKind.i64 v408 fun x413 =>
 uncK y409 fun v414 y415 =>
 SV.cI IntKind.i64 v414 fun x419 =>
 uncK y415 fun v420 y421 =>
 SV.cI IntKind.i64 v420 fun x425 =>
 uncK y421 fun v426 y427 =>
 SV.cI IntKind.i64 v426 fun x431 =>
 uncK y427 fun v432 y433 =>
 SV.cI IntKind.i64 v432 fun x437 =>
 uncK y433 fun v438 y439 =>
 SV.cI IntKind.i64 v438 fun x443 =>
 uncK y439 fun v444 y445 =>
 SV.cI IntKind.i64 v444 fun x449 =>
 uncK y445 fun v450 y451 =>
 SV.cB v450 fun y453 =>
 uncK y451 fun v454 y455 =>
 SV.cL v454 fun y462 =>
 uncK y455 fun v463 y464 =>
 SV.cL v463 fun y471 =>
 uncK y464 fun v472 y473 =>
 SV.cL v472 fun y480 =>
 F43_q59 D J S p0 b328 n332 x413 x419 x425 x431 x437 x443 x449 y453 y462 y471 y480 K
noncomputable def F43_q61 (D J : Disp) (S : St) (p0 : PV) (b328 : Bk) (n332 : Nat) (b378 : Bk) (n382 : Nat) (K : AV → St → Prop) : Prop :=
 letK (α := Nat) ((n382 + 0)) fun n383 =>
 St.at S b378 n383 fun y384 =>
 uncK y384 fun v385 y386 =>
 SV.cL v385 fun y393 =>
 letK (α := Nat) ((n332 + 2)) fun n394 =>
 St.at S b328 n394 fun y395 =>
 uncK y395 fun v396 y397 =>
 SV.cI IntKind.i64 v396 fun x401 =>
 LV.cs y393 fun b402 n403 n404 y405 =>
 req (Bool.and (ile (0 : Int) x401) (ilt x401 (Int.ofNat n404))) <|
 letK (α := Nat) ((n403 + ((Int.toNat x401) * 11))) fun n406 =>
 F43_q60 D J S p0 b328 n332 b402 n406 K
noncomputable def F43_q62 (D J : Disp) (S : St) (p0 : PV) (b328 : Bk) (n332 : Nat) (b354 : Bk) (n358 : Nat) (K : AV → St → Prop) : Prop :=
 letK (α := Nat) ((n358 + 4)) fun n359 =>
 St.at S b354 n359 fun y360 =>
 uncK y360 fun v361 y362 =>
 SV.cL v361 fun y369 =>
 letK (α := Nat) ((n332 + 1)) fun n370 =>
 St.at S b328 n370 fun y371 =>
 uncK y371 fun v372 y373 =>
 SV.cI IntKind.i64 v372 fun x377 =>
 LV.cs y369 fun b378 n379 n380 y381 =>
 req (Bool.and (ile (0 : Int) x377) (ilt x377 (Int.ofNat n380))) <|
 letK (α := Nat) ((n379 + ((Int.toNat x377) * 1))) fun n382 =>
 F43_q61 D J S p0 b328 n332 b378 n382 K
noncomputable def F43_q63 (D J : Disp) (S : St) (p0 : PV) (b328 : Bk) (n332 : Nat) (b333 : Bk) (n334 : Nat) (K : AV → St → Prop) : Prop :=
 letK (α := Nat) ((n334 + 3)) fun n335 =>
 St.at S b333 n335 fun y336 =>
 uncK y336 fun v337 y338 =>
 SV.cL v337 fun y345 =>
 letK (α := Nat) ((n332 + 0)) fun n346 =>
 St.at S b328 n346 fun y347 =>
 uncK y347 fun v348 y349 =>
 SV.cI IntKind.i64 v348 fun x353 =>
 LV.cs y345 fun b354 n355 n356 y357 =>
 req (Bool.and (ile (0 : Int) x353) (ilt x353 (Int.ofNat n356))) <|
 letK (α := Nat) ((n355 + ((Int.toNat x353) * 6))) fun n358 =>
 F43_q62 D J S p0 b328 n332 b354 n358 K
noncomputable def F43_q64 (D J : Disp) (S : St) (p0 : PV) (y312 : LV) (b313 : Bk) (n314 : Nat) (K : AV → St → Prop) : Prop :=
 letK (α := Nat) ((n314 + 8)) fun n315 =>
 St.at S b313 n315 fun y316 =>
 uncK y316 fun v317 y318 =>
 SV.cL v317 fun y325 =>
 letK (α := Int) ((Int.ofNat (LV.len y325))) fun x326 =>
 letK (α := Int) ((iwrap IntKind.i64 (x326 - (1 : Int)))) fun x327 =>
 LV.cs y312 fun b328 n329 n330 y331 =>
 req (Bool.and (ile (0 : Int) x327) (ilt x327 (Int.ofNat n330))) <|
 letK (α := Nat) ((n329 + ((Int.toNat x327) * 6))) fun n332 =>
 PV.cs p0 fun b333 n334 =>
 F43_q63 D J S p0 b328 n332 b333 n334 K
noncomputable def F43_0 (D J : Disp) (p0 : PV) (S : St) (K : AV → St → Prop) : Prop :=
 PV.cs p0 fun b300 n301 =>
 letK (α := Nat) ((n301 + 8)) fun n302 =>
 St.at S b300 n302 fun y303 =>
 uncK y303 fun v304 y305 =>
 SV.cL v304 fun y312 =>
 PV.cs p0 fun b313 n314 =>
 F43_q64 D J S p0 y312 b313 n314 K
noncomputable def X43_0 : X := (.op (.op (.op (.op (.op (.op (.br (.op .ret) (.op (.br (.op .ret) (.op (.br (.op (.op (.br (.op .ret) (.op .ret)))) (.op (.br (.op .ret) (.op (.br (.jmp 25 [0, 2, 3, 4, 59, 124]) (.op (.jmp 25 [0, 2, 3, 4, 59, 124])))))))))))))))))
theorem F43_0_eq (D J : Disp) (p0 : PV) (S : St) (K : AV → St → Prop) : F43_0 D J p0 S K = execK IrP IrG Go.Proofs.Try.f43 (typed IrP D) J plans43 X43_0 (T43 0).1 (envOf (T43 0).2 [(AV.one (V1.s (SV.ptr p0)))]) S K := by kernel_rfl
noncomputable def F43_q65 (D J : Disp) (l4 : LV) (S335 : St) (y343 : LV) (b363 : Bk) (n365 : Nat) (x372 : Int) (x382 : Int) (y386 : Bool) (K : AV → St → Prop) : Prop :=
 D 64 [(AV.one (V1.s (SV.sl y343))), (AV.one (V1.agg [(SV.int IntKind.i64 x382), (SV.bool y386)]))] S335 fun v387 S388 =>
 scK v387 fun v390 =>
 SV.cI IntKind.i64 v390 fun x393 =>
 St.at S388 b363 n365 fun y394 =>
 uncK y394 fun v395 y396 =>
 SV.cI IntKind.i64 v395 fun x400 =>
 req (sameAV (AV.one (V1.s (SV.int IntKind.i64 x400))) (AV.one (V1.s (SV.int IntKind.i64 x372)))) <|
 LV.cs l4 fun b401 n402 n403 y404 =>
 req (Bool.and (ile (0 : Int) x372) (ilt x372 (Int.ofNat n403))) <|
 letK (α := Nat) ((n402 + ((Int.toNat x372) * 1))) fun n405 =>
 St.wr S388 b401 n405 [(SV.int IntKind.i64 x393)] fun S406 =>
 K ((AV.tup [])) S406
noncomputable def F43_q66 (D J : Disp) (l4 : LV) (S335 : St) (y343 : LV) (b436 : Bk) (n438 : Nat) (K : AV → St → Prop) : Prop :=
 St.at S335 b436 n438 fun y439 =>
 uncK y439 fun v440 y441 =>
 SV.cI IntKind.i64 v440 fun x445 =>
 LV.cs l4 fun b446 n447 n448 y449 =>
 req (Bool.and (ile (0 : Int) x445) (ilt x445 (Int.ofNat n448))) <|
 letK (α := Nat) ((n447 + ((Int.toNat x445) * 1))) fun n450 =>
 St.at S335 b446 n450 fun y451 =>
 uncK y451 fun v452 y453 =>
 SV.cI IntKind.i64 v452 fun x457 =>
 D 60 [(AV.one (V1.s (SV.sl y343))), (AV.one (V1.s (SV.int IntKind.i64 x457)))] S335 fun v458 S459 =>
 avT v458 fun y461 =>
 endL y461 (K ((AV.tup [])) S459)
noncomputable def F43_q67 (D J : Disp) (p3 : PV) (l4 : LV) (S335 : St) (y343 : LV) (c362 : Bool) (K : AV → St → Prop) : Prop :=
 ifK c362
 (PV.cs p3 fun b363 n364 =>
 letK (α := Nat) ((n364 + 2)) fun n365 =>
 St.at S335 b363 n365 fun y366 =>
 uncK y366 fun v367 y368 =>
 SV.cI IntKind.i64 v367 fun x372 =>
 PV.cs p3 fun b373 n374 =>
 letK (α := Nat) ((n374 + 6)) fun n375 =>
 St.at S335 b373 n375 fun y376 =>
 uncK y376 fun v377 y378 =>
 SV.cI IntKind.i64 v377 fun x382 =>
 uncK y378 fun v383 y384 =>
 SV.cB v383 fun y386 =>
 F43_q65 D J l4 S335 y343 b363 n365 x372 x382 y386 K)
 (PV.cs p3 fun b436 n437 =>
 letK (α := Nat) ((n437 + 4)) fun n438 =>
 F43_q66 D J l4 S335 y343 b436 n438 K)
noncomputable def F43_q68 (D J : Disp) (p0 : PV) (p3 : PV) (l4 : LV) (S335 : St) (y343 : LV) (y344 : Bool) (K : AV → St → Prop) : Prop :=
 ifK y344
 (D 42 [(AV.one (V1.s (SV.ptr p0))), (AV.one (V1.s (SV.int IntKind.i64 (2 : Int)))), (AV.one (V1.s (SV.int IntKind.i64 (0 : Int))))] S335 fun v345 S346 =>
 avT v345 fun y348 =>
 endL y348 (K ((AV.tup [])) S346))
 (PV.cs p3 fun b352 n353 =>
 letK (α := Nat) ((n353 + 0)) fun n354 =>
 St.at S335 b352 n354 fun y355 =>
 uncK y355 fun v356 y357 =>
 SV.cI IntKind.i64 v356 fun x361 =>
 letK (α := Bool) ((ieq x361 (5 : Int))) fun c362 =>
 F43_q67 D J p3 l4 S335 y343 c362 K)
noncomputable def F43_q69 (D J : Disp) (S : St) (p0 : PV) (p3 : PV) (l4 : LV) (x321 : Int) (b322 : Bk) (n325 : Nat) (K : AV → St → Prop) : Prop :=
 St.at S b322 n325 fun y326 =>
 uncK y326 fun v327 y328 =>
 SV.cI IntKind.i64 v327 fun x332 =>
 letK (α := Int) ((iwrap IntKind.i64 (Int.tdiv x332 (8 : Int)))) fun x333 =>
 D 63 [(AV.one (V1.s (SV.ptr p0))), (AV.one (V1.s (SV.int IntKind.i64 x321))), (AV.one (V1.s (SV.int IntKind.i64 x333)))] S fun v334 S335 =>
 scK v334 fun v337 =>
 SV.cL v337 fun y343 =>
 optK (eqA IrP 1 55 (V1.s (SV.sl y343)) (V1.s (SV.sl LV.nil))) fun y344 =>
 F43_q68 D J p0 p3 l4 S335 y343 y344 K
noncomputable def F43_q70 (D J : Disp) (S : St) (p0 : PV) (p3 : PV) (l4 : LV) (b300 : Bk) (n302 : Nat) (K : AV → St → Prop) : Prop :=
 St.at S b300 n302 fun y303 =>
 uncK y303 fun v304 y305 =>
 SV.cI IntKind.i64 v304 fun x309 =>
 LV.cs l4 fun b310 n311 n312 y313 =>
 req (Bool.and (ile (0 : Int) x309) (ilt x309 (Int.ofNat n312))) <|
 letK (α := Nat) ((n311 + ((Int.toNat x309) * 1))) fun n314 =>
 St.at S b310 n314 fun y315 =>
 uncK y315 fun v316 y317 =>
 SV.cI IntKind.i64 v316 fun x321 =>
 PV.cs p3 fun b322 n323 =>
 letK (α := Nat) ((n323 + 6)) fun n324 =>
 letK (α := Nat) ((n324 + 0)) fun n325 =>
 F43_q69 D J S p0 p3 l4 x321 b322 n325 K
noncomputable def F43_q71 (D J : Disp) (S : St) (p3 : PV) (l4 : LV) (x509 : Int) (y548 : LV) (x559 : Int) (K : AV → St → Prop) : Prop :=
 LV.on y548 (req (Bool.and Bool.true (Bool.and (ile (0 : Int) (oInt (Option.some x559) (0 : Int))) (ile (oInt (Option.some x559) (0 : Int)) (0 : Int)))) <|
 J 38 [(AV.one (V1.s (SV.ptr p3))), (AV.one (V1.s (SV.sl l4))), (AV.one (V1.s (SV.int IntKind.i64 x509))), (AV.one (V1.s (SV.sl LV.nil))), (AV.one (V1.s (SV.int IntKind.i64 (0 : Int)))), (AV.one (V1.s (SV.int IntKind.i64 (0 : Int))))] S K) fun b560 n561 n562 y563 =>
 sumOn y563 (fun n564 =>
 req (Bool.and Bool.true (Bool.and (ile (0 : Int) (oInt (Option.some x559) (Int.ofNat n562))) (ile (oInt (Option.some x559) (Int.ofNat n562)) (Int.ofNat n564)))) <|
 letK (α := Nat) ((n561 + 0)) fun n565 =>
 letK (α := Nat) (((Int.toNat (oInt (Option.some x559) (Int.ofNat n562))) - 0)) fun n566 =>
 letK (α := (Sum Nat Nat)) ((Sum.inl ((Int.toNat (oInt Option.none (Int.ofNat n564))) - 0))) fun d567 =>
 letK (α := Int) ((Int.ofNat (LV.len (LV.mk b560 n565 n566 d567)))) fun x568 =>
 J 38 [(AV.one (V1.s (SV.ptr p3))), (AV.one (V1.s (SV.sl l4))), (AV.one (V1.s (SV.int IntKind.i64 x509))), (AV.one (V1.s (SV.sl (LV.mk b560 n565 n566 d567)))), (AV.one (V1.s (SV.int IntKind.i64 x568))), (AV.one (V1.s (SV.int IntKind.i64 (0 : Int))))] S K) fun y569 =>
 req (Nat.beq 1 y569) <|
 req (Bool.and Bool.true (Bool.and (ile (0 : Int) (oInt (Option.some x559) (Int.ofNat n562))) (ile (oInt (Option.some x559) (Int.ofNat n562)) (Int.ofNat n562)))) <|
 letK (α := Nat) ((n561 + 0)) fun n570 =>
 letK (α := Nat) (((Int.toNat (oInt (Option.some x559) (Int.ofNat n562))) - 0)) fun n571 =>
 letK (α := (Sum Nat Nat)) ((Sum.inr 1)) fun d572 =>
 letK (α := Int) ((Int.ofNat (LV.len (LV.mk b560 n570 n571 d572)))) fun x573 =>
 J 38 [(AV.one (V1.s (SV.ptr p3))), (AV.one (V1.s (SV.sl l4))), (AV.one (V1.s (SV.int IntKind.i64 x509))), (AV.one (V1.s (SV.sl (LV.mk b560 n570 n571 d572)))), (AV.one (V1.s (SV.int IntKind.i64 x573))), (AV.one (V1.s (SV.int IntKind.i64 (0 : Int))))] S K
noncomputable def F43_q72 (D J : Disp) (S : St) (p3 : PV) (l4 : LV) (x509 : Int) (y522 : LV) (x532 : Int) (K : AV → St → Prop) : Prop :=
 LV.cs y522 fun b533 n534 n535 y536 =>
 req (Bool.and (ile (0 : Int) x532) (ilt x532 (Int.ofNat n535))) <|
 letK (α := Nat) ((n534 + ((Int.toNat x532) * 6))) fun n537 =>
 letK (α := Nat) ((n537 + 3)) fun n538 =>
 St.at S b533 n538 fun y539 =>
 uncK y539 fun v540 y541 =>
 SV.cL v540 fun y548 =>
 PV.cs p3 fun b549 n550 =>
 letK (α := Nat) ((n550 + 5)) fun n551 =>
 St.at S b549 n551 fun y552 =>
 uncK y552 fun v553 y554 =>
 SV.cI IntKind.i64 v553 fun x558 =>
 letK (α := Int) ((iwrap IntKind.i64 (x558 + (1 : Int)))) fun x559 =>
 F43_q71 D J S p3 l4 x509 y548 x559 K
noncomputable def F43_q73 (D J : Disp) (S : St) (p0 : PV) (p2 : PV) (p3 : PV) (l4 : LV) (b500 : Bk) (n501 : Nat) (K : AV → St → Prop) : Prop :=
 letK (α := Nat) ((n501 + 5)) fun n502 =>
 St.at S b500 n502 fun y503 =>
 uncK y503 fun v504 y505 =>
 SV.cI IntKind.i64 v504 fun x509 =>
 PV.cs p0 fun b510 n511 =>
 letK (α := Nat) ((n511 + 3)) fun n512 =>
 St.at S b510 n512 fun y513 =>
 uncK y513 fun v514 y515 =>
 SV.cL v514 fun y522 =>
 PV.cs p2 fun b523 n524 =>
 letK (α := Nat) ((n524 + 0)) fun n525 =>
 St.at S b523 n525 fun y526 =>
 uncK y526 fun v527 y528 =>
 SV.cI IntKind.i64 v527 fun x532 =>
 F43_q72 D J S p3 l4 x509 y522 x532 K
noncomputable def F43_q74 (D J : Disp) (S : St) (l4 : LV) (x603 : Int) (y616 : LV) (x626 : Int) (K : AV → St → Prop) : Prop :=
 LV.cs y616 fun b627 n628 n629 y630 =>
 req (Bool.and (ile (0 : Int) x626) (ilt x626 (Int.ofNat n629))) <|
 letK (α := Nat) ((n628 + ((Int.toNat x626) * 1))) fun n631 =>
 St.at S b627 n631 fun y632 =>
 uncK y632 fun v633 y634 =>
 SV.cI IntKind.i64 v633 fun x638 =>
 LV.cs l4 fun b639 n640 n641 y642 =>
 req (Bool.and (ile (0 : Int) x603) (ilt x603 (Int.ofNat n641))) <|
 letK (α := Nat) ((n640 + ((Int.toNat x603) * 1))) fun n643 =>
 St.wr S b639 n643 [(SV.int IntKind.i64 x638)] fun S644 =>
 K ((AV.tup [])) S644
noncomputable def F43_q75 (D J : Disp) (S : St) (p0 : PV) (p3 : PV) (l4 : LV) (K : AV → St → Prop) : Prop :=
 PV.cs p3 fun b594 n595 =>
 letK (α := Nat) ((n595 + 2)) fun n596 =>
 St.at S b594 n596 fun y597 =>
 uncK y597 fun v598 y599 =>
 SV.cI IntKind.i64 v598 fun x603 =>
 PV.cs p0 fun b604 n605 =>
 letK (α := Nat) ((n605 + 4)) fun n606 =>
 St.at S b604 n606 fun y607 =>
 uncK y607 fun v608 y609 =>
 SV.cL v608 fun y616 =>
 PV.cs p3 fun b617 n618 =>
 letK (α := Nat) ((n618 + 5)) fun n619 =>
 St.at S b617 n619 fun y620 =>
 uncK y620 fun v621 y622 =>
 SV.cI IntKind.i64 v621 fun x626 =>
 F43_q74 D J S l4 x603 y616 x626 K
noncomputable def F43_q76 (D J : Disp) (S : St) (l4 : LV) (b663 : Bk) (n665 : Nat) (x672 : Int) (x682 : Int) (K : AV → St → Prop) : Prop :=
 D 59 [(AV.one (V1.s (SV.int IntKind.i64 x682)))] S fun v683 S684 =>
 scK v683 fun v686 =>
 SV.cI IntKind.i64 v686 fun x689 =>
 St.at S684 b663 n665 fun y690 =>
 uncK y690 fun v691 y692 =>
 SV.cI IntKind.i64 v691 fun x696 =>
 req (sameAV (AV.one (V1.s (SV.int IntKind.i64 x696))) (AV.one (V1.s (SV.int IntKind.i64 x672)))) <|
 LV.cs l4 fun b697 n698 n699 y700 =>
 req (Bool.and (ile (0 : Int) x672) (ilt x672 (Int.ofNat n699))) <|
 letK (α := Nat) ((n698 + ((Int.toNat x672) * 1))) fun n701 =>
 St.wr S684 b697 n701 [(SV.int IntKind.i64 x689)] fun S702 =>
 K ((AV.tup [])) S702
noncomputable def F43_q77 (D J : Disp) (p0 : PV) (S798 : St) (y811 : LV) (K : AV → St → Prop) : Prop :=
 LV.cs y811 fun b812 n813 n814 y815 =>
 sumOn y815 (fun n816 =>
 req (Bool.and Bool.true (Bool.and (ile (1 : Int) (oInt Option.none (Int.ofNat n814))) (ile (oInt Option.none (Int.ofNat n814)) (Int.ofNat n816)))) <|
 letK (α := Nat) ((n813 + 1)) fun n817 =>
 letK (α := Nat) (((Int.toNat (oInt Option.none (Int.ofNat n814))) - 1)) fun n818 =>
 letK (α := (Sum Nat Nat)) ((Sum.inl ((Int.toNat (oInt Option.none (Int.ofNat n816))) - 1))) fun d819 =>
 PV.cs p0 fun b820 n821 =>
 letK (α := Nat) ((n821 + 9)) fun n822 =>
 St.wr S798 b820 n822 [(SV.sl (LV.mk b812 n817 n818 d819))] fun S823 =>
 K ((AV.tup [])) S823) fun y824 =>
 req (Nat.beq 1 y824) <|
 req (Bool.and Bool.true (Bool.and (ile (1 : Int) (oInt Option.none (Int.ofNat n814))) (ile (oInt Option.none (Int.ofNat n814)) (Int.ofNat n814)))) <|
 letK (α := Nat) ((n813 + 1)) fun n825 =>
 letK (α := Nat) (((Int.toNat (oInt Option.none (Int.ofNat n814))) - 1)) fun n826 =>
 letK (α := (Sum Nat Nat)) ((Sum.inr 1)) fun d827 =>
 PV.cs p0 fun b828 n829 =>
 letK (α := Nat) ((n829 + 9)) fun n830 =>
 St.wr S798 b828 n830 [(SV.sl (LV.mk b812 n825 n826 d827))] fun S831 =>
 K ((AV.tup [])) S831
noncomputable def F43_q78 (D J : Disp) (p0 : PV) (l4 : LV) (S741 : St) (x766 : Int) (x791 : Int) (K : AV → St → Prop) : Prop :=
 letK (α := Int) ((iwrap IntKind.i64 x791)) fun x792 =>
 LV.cs l4 fun b793 n794 n795 y796 =>
 req (Bool.and (ile (0 : Int) x766) (ilt x766 (Int.ofNat n795))) <|
 letK (α := Nat) ((n794 + ((Int.toNat x766) * 1))) fun n797 =>
 St.wr S741 b793 n797 [(SV.int IntKind.i64 x792)] fun S798 =>
 PV.cs p0 fun b799 n800 =>
 letK (α := Nat) ((n800 + 9)) fun n801 =>
 St.at S798 b799 n801 fun y802 =>
 uncK y802 fun v803 y804 =>
 SV.cL v803 fun y811 =>
 F43_q77 D J p0 S798 y811 K
noncomputable def F43_q79 (D J : Disp) (p0 : PV) (l4 : LV) (S741 : St) (b757 : Bk) (n759 : Nat) (K : AV → St → Prop) : Prop :=
 St.at S741 b757 n759 fun y760 =>
 uncK y760 fun v761 y762 =>
 SV.cI IntKind.i64 v761 fun x766 =>
 PV.cs p0 fun b767 n768 =>
 letK (α := Nat) ((n768 + 9)) fun n769 =>
 St.at S741 b767 n769 fun y770 =>
 uncK y770 fun v771 y772 =>
 SV.cL v771 fun y779 =>
 LV.cs y779 fun b780 n781 n782 y783 =>
 req (Bool.and Bool.true (ilt (0 : Int) (Int.ofNat n782))) <|
 letK (α := Nat) ((n781 + 0)) fun n784 =>
 St.at S741 b780 n784 fun y785 =>
 uncK y785 fun v786 y787 =>
 SV.cI IntKind.u8 v786 fun x791 =>
 F43_q78 D J p0 l4 S741 x766 x791 K
noncomputable def F43_q80 (D J : Disp) (S : St) (p0 : PV) (p3 : PV) (l4 : LV) (x735 : Int) (K : AV → St → Prop) : Prop :=
 LV.cs l4 fun b736 n737 n738 y739 =>
 req (Bool.and (ile (0 : Int) x735) (ilt x735 (Int.ofNat n738))) <|
 letK (α := Nat) ((n737 + ((Int.toNat x735) * 1))) fun n740 =>
 St.wr S b736 n740 [(SV.int IntKind.i64 (Int.negSucc 0))] fun S741 =>
 PV.cs p0 fun b742 n743 =>
 letK (α := Nat) ((n743 + 9)) fun n744 =>
 St.at S741 b742 n744 fun y745 =>
 uncK y745 fun v746 y747 =>
 SV.cL v746 fun y754 =>
 letK (α := Int) ((Int.ofNat (LV.len y754))) fun x755 =>
 letK (α := Bool) ((ilt (0 : Int) x755)) fun c756 =>
 ifK c756
 (PV.cs p3 fun b757 n758 =>
 letK (α := Nat) ((n758 + 2)) fun n759 =>
 F43_q79 D J p0 l4 S741 b757 n759 K)
 (K ((AV.tup [])) S741)
noncomputable def F43_q81 (D J : Disp) (S : St) (p0 : PV) (y867 : LV) (x889 : Int) (K : AV → St → Prop) : Prop :=
 letK (α := Int) ((iwrap IntKind.u8 x889)) fun x890 =>
 letK (α := AO) ((AO.cells [(SV.int IntKind.u8 x890)] Op2.sh)) fun o891 =>
 letK (α := (Sum Nat Nat)) ((Sum.inl 1)) fun d892 =>
 letK (α := St) ((St.add S o891)) fun S893 =>
 St.src S893 1 (LV.mk (Bk.new (St.next S)) 0 1 d892) fun y894 n895 =>
 St.app S893 5 1 1 y867 y894 n895 fun y896 S897 =>
 PV.cs p0 fun b898 n899 =>
 letK (α := Nat) ((n899 + 10)) fun n900 =>
 letK (α := Nat) ((n900 + 2)) fun n901 =>
 St.wr S897 b898 n901 [(SV.sl y896)] fun S902 =>
 K ((AV.tup [])) S902
noncomputable def F43_q82 (D J : Disp) (S : St) (p0 : PV) (p3 : PV) (l4 : LV) (y867 : LV) (K : AV → St → Prop) : Prop :=
 PV.cs p3 fun b868 n869 =>
 letK (α := Nat) ((n869 + 3)) fun n870 =>
 St.at S b868 n870 fun y871 =>
 uncK y871 fun v872 y873 =>
 SV.cI IntKind.i64 v872 fun x877 =>
 LV.cs l4 fun b878 n879 n880 y881 =>
 req (Bool.and (ile (0 : Int) x877) (ilt x877 (Int.ofNat n880))) <|
 letK (α := Nat) ((n879 + ((Int.toNat x877) * 1))) fun n882 =>
 St.at S b878 n882 fun y883 =>
 uncK y883 fun v884 y885 =>
 SV.cI IntKind.i64 v884 fun x889 =>
 F43_q81 D J S p0 y867 x889 K
noncomputable def F43_q83 (D J : Disp) (S : St) (p0 : PV) (l4 : LV) (x925 : Int) (K : AV → St → Prop) : Prop :=
 LV.cs l4 fun b926 n927 n928 y929 =>
 req (Bool.and (ile (0 : Int) x925) (ilt x925 (Int.ofNat n928))) <|
 letK (α := Nat) ((n927 + ((Int.toNat x925) * 1))) fun n930 =>
 St.at S b926 n930 fun y931 =>
 uncK y931 fun v932 y933 =>
 SV.cI IntKind.i64 v932 fun x937 =>
 D 42 [(AV.one (V1.s (SV.ptr p0))), (AV.one (V1.s (SV.int IntKind.i64 (1 : Int)))), (AV.one (V1.s (SV.int IntKind.i64 x937)))] S fun v938 S939 =>
 avT v938 fun y941 =>
 endL y941 (K ((AV.tup [])) S939)
noncomputable def F43_q84 (D J : Disp) (S : St) (p0 : PV) (p3 : PV) (l4 : LV) (K : AV → St → Prop) : Prop :=
 PV.cs p3 fun b975 n976 =>
 letK (α := Nat) ((n976 + 3)) fun n977 =>
 St.at S b975 n977 fun y978 =>
 uncK y978 fun v979 y980 =>
 SV.cI IntKind.i64 v979 fun x984 =>
 LV.cs l4 fun b985 n986 n987 y988 =>
 req (Bool.and (ile (0 : Int) x984) (ilt x984 (Int.ofNat n987))) <|
 letK (α := Nat) ((n986 + ((Int.toNat x984) * 1))) fun n989 =>
 St.at S b985 n989 fun y990 =>
 uncK y990 fun v991 y992 =>
 SV.cI IntKind.i64 v991 fun x996 =>
 J 72 [(AV.one (V1.s (SV.ptr p0))), (AV.one (V1.s (SV.int IntKind.i64 x996)))] S K
noncomputable def F43_q85 (D J : Disp) (S : St) (p0 : PV) (p2 : PV) (p3 : PV) (l4 : LV) (x59 : Int) (c1012 : Bool) (K : AV → St → Prop) : Prop :=
 ifK c1012
 (J 75 [(AV.one (V1.s (SV.ptr p0))), (AV.one (V1.s (SV.ptr p2))), (AV.one (V1.s (SV.ptr p3))), (AV.one (V1.s (SV.sl l4))), (AV.one (V1.s (SV.bool c1012)))] S K)
 (letK (α := Bool) ((ieq x59 (15 : Int))) fun c1013 =>
 ifK c1013
 (J 75 [(AV.one (V1.s (SV.ptr p0))), (AV.one (V1.s (SV.ptr p2))), (AV.one (V1.s (SV.ptr p3))), (AV.one (V1.s (SV.sl l4))), (AV.one (V1.s (SV.bool c1013)))] S K)
 (letK (α := Bool) ((ieq x59 (16 : Int))) fun c1014 =>
 J 75 [(AV.one (V1.s (SV.ptr p0))), (AV.one (V1.s (SV.ptr p2))), (AV.one (V1.s (SV.ptr p3))), (AV.one (V1.s (SV.sl l4))), (AV.one (V1.s (SV.bool c1014)))] S K))
noncomputable def F43_q86 (D J : Disp) (S : St) (p0 : PV) (p2 : PV) (p3 : PV) (l4 : LV) (x59 : Int) (c963 : Bool) (K : AV → St → Prop) : Prop :=
 ifK c963
 (PV.cs p3 fun b964 n965 =>
 letK (α := Nat) ((n965 + 3)) fun n966 =>
 St.at S b964 n966 fun y967 =>
 uncK y967 fun v968 y969 =>
 SV.cI IntKind.i64 v968 fun x973 =>
 letK (α := Bool) ((Bool.not (ieq x973 (Int.negSucc 0)))) fun c974 =>
 ifK c974
 (F43_q84 D J S p0 p3 l4 K)
 (J 72 [(AV.one (V1.s (SV.ptr p0))), (AV.one (V1.s (SV.int IntKind.i64 (0 : Int))))] S K))
 (letK (α := Bool) ((ieq x59 (14 : Int))) fun c1012 =>
 F43_q85 D J S p0 p2 p3 l4 x59 c1012 K)
noncomputable def F43_q87 (D J : Disp) (S : St) (p0 : PV) (p2 : PV) (p3 : PV) (l4 : LV) (x59 : Int) (c915 : Bool) (K : AV → St → Prop) : Prop :=
 ifK c915
 (PV.cs p3 fun b916 n917 =>
 letK (α := Nat) ((n917 + 3)) fun n918 =>
 St.at S b916 n918 fun y919 =>
 uncK y919 fun v920 y921 =>
 SV.cI IntKind.i64 v920 fun x925 =>
 F43_q83 D J S p0 l4 x925 K)
 (letK (α := Bool) ((ieq x59 (21 : Int))) fun c955 =>
 ifK c955
 (D 42 [(AV.one (V1.s (SV.ptr p0))), (AV.one (V1.s (SV.int IntKind.i64 (2 : Int)))), (AV.one (V1.s (SV.int IntKind.i64 (0 : Int))))] S fun v956 S957 =>
 avT v956 fun y959 =>
 endL y959 (K ((AV.tup [])) S957))
 (letK (α := Bool) ((ieq x59 (17 : Int))) fun c963 =>
 F43_q86 D J S p0 p2 p3 l4 x59 c963 K))
noncomputable def F43_q88 (D J : Disp) (S : St) (p0 : PV) (p2 : PV) (p3 : PV) (l4 : LV) (x59 : Int) (c725 : Bool) (K : AV → St → Prop) : Prop :=
 ifK c725
 (PV.cs p3 fun b726 n727 =>
 letK (α := Nat) ((n727 + 2)) fun n728 =>
 St.at S b726 n728 fun y729 =>
 uncK y729 fun v730 y731 =>
 SV.cI IntKind.i64 v730 fun x735 =>
 F43_q80 D J S p0 p3 l4 x735 K)
 (letK (α := Bool) ((ieq x59 (13 : Int))) fun c853 =>
 ifK c853
 (PV.cs p0 fun b854 n855 =>
 letK (α := Nat) ((n855 + 10)) fun n856 =>
 letK (α := Nat) ((n856 + 2)) fun n857 =>
 St.at S b854 n857 fun y858 =>
 uncK y858 fun v859 y860 =>
 SV.cL v859 fun y867 =>
 F43_q82 D J S p0 p3 l4 y867 K)
 (letK (α := Bool) ((ieq x59 (18 : Int))) fun c915 =>
 F43_q87 D J S p0 p2 p3 l4 x59 c915 K))
noncomputable def F43_q89 (D J : Disp) (S : St) (p0 : PV) (p2 : PV) (p3 : PV) (l4 : LV) (x59 : Int) (c662 : Bool) (K : AV → St → Prop) : Prop :=
 ifK c662
 (PV.cs p3 fun b663 n664 =>
 letK (α := Nat) ((n664 + 2)) fun n665 =>
 St.at S b663 n665 fun y666 =>
 uncK y666 fun v667 y668 =>
 SV.cI IntKind.i64 v667 fun x672 =>
 PV.cs p3 fun b673 n674 =>
 letK (α := Nat) ((n674 + 5)) fun n675 =>
 St.at S b673 n675 fun y676 =>
 uncK y676 fun v677 y678 =>
 SV.cI IntKind.i64 v677 fun x682 =>
 F43_q76 D J S l4 b663 n665 x672 x682 K)
 (letK (α := Bool) ((ieq x59 (12 : Int))) fun c725 =>
 F43_q88 D J S p0 p2 p3 l4 x59 c725 K)
noncomputable def F43_25 (D J : Disp) (p0 : PV) (p2 : PV) (p3 : PV) (l4 : LV) (x59 : Int) (c124 : Bool) (S : St) (K : AV → St → Prop) : Prop :=
 ifK c124
 (PV.cs p3 fun b300 n301 =>
 letK (α := Nat) ((n301 + 3)) fun n302 =>
 F43_q70 D J S p0 p3 l4 b300 n302 K)
 (letK (α := Bool) ((ieq x59 (7 : Int))) fun c499 =>
 ifK c499
 (PV.cs p2 fun b500 n501 =>
 F43_q73 D J S p0 p2 p3 l4 b500 n501 K)
 (letK (α := Bool) ((ieq x59 (8 : Int))) fun c593 =>
 ifK c593
 (F43_q75 D J S p0 p3 l4 K)
 (letK (α := Bool) ((ieq x59 (9 : Int))) fun c662 =>
 F43_q89 D J S p0 p2 p3 l4 x59 c662 K)))
noncomputable def X43_25 : X := (.br (.op (.op (.br (.op .ret) (.op (.br (.op .ret) (.op .ret)))))) (.op (.br (.op (.op (.jmp 38 [3, 4, 8, 182, 183, 184]))) (.op (.br (.op .ret) (.op (.br (.op .ret) (.op (.br (.op (.op (.br (.op (.op .ret)) .ret))) (.op (.br (.op .ret) (.op (.br (.op .ret) (.op (.br (.op .ret) (.op (.br (.op (.op (.br (.op (.jmp 72 [0, 11])) (.jmp 72 [0, 11])))) (.op (.br (.jmp 75 [0, 2, 3, 4, 297]) (.op (.br (.jmp 75 [0, 2, 3, 4, 297]) (.op (.jmp 75 [0, 2, 3, 4, 297])))))))))))))))))))))))
theorem F43_25_eq (D J : Disp) (p0 : PV) (p2 : PV) (p3 : PV) (l4 : LV) (x59 : Int) (c124 : Bool) (S : St) (K : AV → St → Prop) : F43_25 D J p0 p2 p3 l4 x59 c124 S K = execK IrP IrG Go.Proofs.Try.f43 (typed IrP D) J plans43 X43_25 (T43 25).1 (envOf (T43 25).2 [(AV.one (V1.s (SV.ptr p0))), (AV.one (V1.s (SV.ptr p2))), (AV.one (V1.s (SV.ptr p3))), (AV.one (V1.s (SV.sl l4))), (AV.one (V1.s (SV.int IntKind.i64 x59))), (AV.one (V1.s (SV.bool c124)))]) S K := by kernel_rfl
noncomputable def F43_q90 (D J : Disp) (S : St) (p3 : PV) (l4 : LV) (x8 : Int) (l182 : LV) (x183 : Int) (x184 : Int) (b301 : Bk) (n305 : Nat) (K : AV → St → Prop) : Prop :=
 St.at S b301 n305 fun y306 =>
 uncK y306 fun v307 y308 =>
 SV.cI IntKind.i64 v307 fun x312 =>
 letK (α := Int) ((iwrap IntKind.i64 (x8 - x312))) fun x313 =>
 letK (α := Int) ((iandNot IntKind.i64 x313 (15 : Int))) fun x314 =>
 letK (α := Int) ((iwrap IntKind.i64 (x184 + (1 : Int)))) fun x315 =>
 J 38 [(AV.one (V1.s (SV.ptr p3))), (AV.one (V1.s (SV.sl l4))), (AV.one (V1.s (SV.int IntKind.i64 x314))), (AV.one (V1.s (SV.sl l182))), (AV.one (V1.s (SV.int IntKind.i64 x183))), (AV.one (V1.s (SV.int IntKind.i64 x315)))] S K
noncomputable def F43_q91 (D J : Disp) (S : St) (p3 : PV) (l4 : LV) (x8 : Int) (l182 : LV) (x183 : Int) (x184 : Int) (c300 : Bool) (K : AV → St → Prop) : Prop :=
 ifK c300
 (LV.cs l182 fun b301 n302 n303 y304 =>
 req (Bool.and (ile (0 : Int) x184) (ilt x184 (Int.ofNat n303))) <|
 letK (α := Nat) ((n302 + ((Int.toNat x184) * 1))) fun n305 =>
 F43_q90 D J S p3 l4 x8 l182 x183 x184 b301 n305 K)
 (PV.cs p3 fun b321 n322 =>
 letK (α := Nat) ((n322 + 2)) fun n323 =>
 St.at S b321 n323 fun y324 =>
 uncK y324 fun v325 y326 =>
 SV.cI IntKind.i64 v325 fun x330 =>
 LV.cs l4 fun b331 n332 n333 y334 =>
 req (Bool.and (ile (0 : Int) x330) (ilt x330 (Int.ofNat n333))) <|
 letK (α := Nat) ((n332 + ((Int.toNat x330) * 1))) fun n335 =>
 St.wr S b331 n335 [(SV.int IntKind.i64 x8)] fun S336 =>
 K ((AV.tup [])) S336)
noncomputable def F43_38 (D J : Disp) (p3 : PV) (l4 : LV) (x8 : Int) (l182 : LV) (x183 : Int) (x184 : Int) (S : St) (K : AV → St → Prop) : Prop :=
 letK (α := Bool) ((ilt x184 x183)) fun c300 =>
 F43_q91 D J S p3 l4 x8 l182 x183 x184 c300 K
noncomputable def X43_38 : X := (.op (.br (.op (.op (.op (.jmp 38 [3, 4, 8, 182, 183, 184])))) (.op .ret)))
theorem F43_38_eq (D J : Disp) (p3 : PV) (l4 : LV) (x8 : Int) (l182 : LV) (x183 : Int) (x184 : Int) (S : St) (K : AV → St → Prop) : F43_38 D J p3 l4 x8 l182 x183 x184 S K = execK IrP IrG Go.Proofs.Try.f43 (typed IrP D) J plans43 X43_38 (T43 38).1 (envOf (T43 38).2 [(AV.one (V1.s (SV.ptr p3))), (AV.one (V1.s (SV.sl l4))), (AV.one (V1.s (SV.int IntKind.i64 x8))), (AV.one (V1.s (SV.sl l182))), (AV.one (V1.s (SV.int IntKind.i64 x183))), (AV.one (V1.s (SV.int IntKind.i64 x184)))]) S K := by kernel_rfl
noncomputable def F43_72 (D J : Disp) (p0 : PV) (x11 : Int) (S : St) (K : AV → St → Prop) : Prop :=
 D 65 [(AV.one (V1.s (SV.ptr p0))), (AV.one (V1.s (SV.int IntKind.i64 x11)))] S fun v300 S301 =>
 avT v300 fun y303 =>
 endL y303 (K ((AV.tup [])) S301)
noncomputable def X43_72 : X := (.op .ret)
theorem F43_72_eq (D J : Disp) (p0 : PV) (x11 : Int) (S : St) (K : AV → St → Prop) : F43_72 D J p0 x11 S K = execK IrP IrG Go.Proofs.Try.f43 (typed IrP D) J plans43 X43_72 (T43 72).1 (envOf (T43 72).2 [(AV.one (V1.s (SV.ptr p0))), (AV.one (V1.s (SV.int IntKind.i64 x11)))]) S K := by kernel_rfl
noncomputable def F43_q92 (D J : Disp) (p2 : PV) (y312 : LV) (S390 : St) (x395 : Int) (K : AV → St → Prop) : Prop :=
 LV.cs y312 fun b406 n407 n408 y409 =>
 req (Bool.and (ile (0 : Int) x395) (ilt x395 (Int.ofNat n408))) <|
 letK (α := Nat) ((n407 + ((Int.toNat x395) * 1))) fun n410 =>
 St.at S390 b406 n410 fun y411 =>
 uncK y411 fun v412 y413 =>
 SV.cI IntKind.i64 v412 fun x417 =>
 PV.cs p2 fun b418 n419 =>
 letK (α := Nat) ((n419 + 1)) fun n420 =>
 St.wr S390 b418 n420 [(SV.int IntKind.i64 x417)] fun S421 =>
 PV.cs p2 fun b422 n423 =>
 letK (α := Nat) ((n423 + 2)) fun n424 =>
 St.wr S421 b422 n424 [(SV.int IntKind.i64 (0 : Int))] fun S425 =>
 K ((AV.tup [])) S425
noncomputable def F43_q93 (D J : Disp) (S : St) (p2 : PV) (l4 : LV) (b300 : Bk) (n302 : Nat) (y312 : LV) (x321 : Int) (x327 : Int) (x333 : Int) (x339 : Int) (x345 : Int) (x351 : Int) (x357 : Int) (y361 : Bool) (y370 : LV) (y379 : LV) (y388 : LV) (K : AV → St → Prop) : Prop :=
 D 66 [(AV.one (V1.agg [(SV.int IntKind.i64 x321), (SV.int IntKind.i64 x327), (SV.int IntKind.i64 x333), (SV.int IntKind.i64 x339), (SV.int IntKind.i64 x345), (SV.int IntKind.i64 x351), (SV.int IntKind.i64 x357), (SV.bool y361), (SV.sl y370), (SV.sl y379), (SV.sl y388)])), (AV.one (V1.s (SV.sl l4)))] S fun v389 S390 =>
 scK v389 fun v392 =>
 SV.cI IntKind.i64 v392 fun x395 =>
 St.at S390 b300 n302 fun y396 =>
 uncK y396 fun v397 y398 =>
 SV.cL v397 fun y405 =>
 req (sameAV (AV.one (V1.s (SV.sl y405))) (AV.one (V1.s (SV.sl y312)))) <|
 F43_q92 D J p2 y312 S390 x395 K
noncomputable def F43_q94 (D J : Disp) (S : St) (p2 : PV) (p3 : PV) (l4 : LV) (b300 : Bk) (n302 : Nat) (y312 : LV) (K : AV → St → Prop) : Prop :=
 PV.cs p3 fun b313 n314 =>
 St.at S b313 n314 fun y315 =>
 uncK y315 fun v316 y317 =>
 SV.cI IntKind.i64 v316 fun x321 =>
 uncK y317 fun v322 y323 =>
 SV.cI IntKind.i64 v322 fun x327 =>
 uncK y323 fun v328 y329 =>
 SV.cI IntKind.i64 v328 fun x333 =>
 uncK y329 fun v334 y335 =>
 SV.cI IntKind.i64 v334 fun x339 =>
 uncK y335 fun v340 y341 =>
 SV.cI IntKind.i64 v340 fun x345 =>
 uncK y341 fun v346 y347 =>
 SV.cI IntKind.i64 v346 fun x351 =>
 uncK y347 fun v352 y353 =>
 SV.cI IntKind.i64 v352 fun x357 =>
 uncK y353 fun v358 y359 =>
 SV.cB v358 fun y361 =>
 uncK y359 fun v362 y363 =>
 SV.cL v362 fun y370 =>
 uncK y363 fun v371 y372 =>
 SV.cL v371 fun y379 =>
 uncK y372 fun v380 y381 =>
 SV.cL v380 fun y388 =>
 F43_q93 D J S p2 l4 b300 n302 y312 x321 x327 x333 x339 x345 x351 x357 y361 y370 y379 y388 K
noncomputable def F43_q95 (D J : Disp) (S : St) (p0 : PV) (p3 : PV) (l4 : LV) (K : AV → St → Prop) : Prop :=
 PV.cs p3 fun b490 n491 =>
 St.at S b490 n491 fun y492 =>
 uncK y492 fun v493 y494 =>
 SV.cI IntKind.i64 v493 fun x498 =>
 uncK y494 fun v499 y500 =>
 SV.cI IntKind.i64 v499 fun x504 =>
 uncK y500 fun v505 y506 =>
 SV.cI IntKind.i64 v505 fun x510 =>
 uncK y506 fun v511 y512 =>
 SV.cI IntKind.i64 v511 fun x516 =>
 uncK y512 fun v517 y518 =>
 SV.cI IntKind.i64 v517 fun x522 =>
 uncK y518 fun v523 y524 =>
 SV.cI IntKind.i64 v523 fun x528 =>
 uncK y524 fun v529 y530 =>
 SV.cI IntKind.i64 v529 fun x534 =>
 uncK y530 fun v535 y536 =>
 SV.cB v535 fun y538 =>
 uncK y536 fun v539 y540 =>
 SV.cL v539 fun y547 =>
 uncK y540 fun v548 y549 =>
 SV.cL v548 fun y556 =>
 uncK y549 fun v557 y558 =>
 SV.cL v557 fun y565 =>
 D 67 [(AV.one (V1.s (SV.ptr p0))), (AV.one (V1.agg [(SV.int IntKind.i64 x498), (SV.int IntKind.i64 x504), (SV.int IntKind.i64 x510), (SV.int IntKind.i64 x516), (SV.int IntKind.i64 x522), (SV.int IntKind.i64 x528), (SV.int IntKind.i64 x534), (SV.bool y538), (SV.sl y547), (SV.sl y556), (SV.sl y565)])), (AV.one (V1.s (SV.sl l4)))] S fun v566 S567 =>
 avT v566 fun y569 =>
 endL y569 (K ((AV.tup [])) S567)
noncomputable def F43_75 (D J : Disp) (p0 : PV) (p2 : PV) (p3 : PV) (l4 : LV) (c297 : Bool) (S : St) (K : AV → St → Prop) : Prop :=
 ifK c297
 (PV.cs p3 fun b300 n301 =>
 letK (α := Nat) ((n301 + 9)) fun n302 =>
 St.at S b300 n302 fun y303 =>
 uncK y303 fun v304 y305 =>
 SV.cL v304 fun y312 =>
 F43_q94 D J S p2 p3 l4 b300 n302 y312 K)
 (F43_q95 D J S p0 p3 l4 K)
noncomputable def X43_75 : X := (.br (.op .ret) (.op .ret))
theorem F43_75_eq (D J : Disp) (p0 : PV) (p2 : PV) (p3 : PV) (l4 : LV) (c297 : Bool) (S : St) (K : AV → St → Prop) : F43_75 D J p0 p2 p3 l4 c297 S K = execK IrP IrG Go.Proofs.Try.f43 (typed IrP D) J plans43 X43_75 (T43 75).1 (envOf (T43 75).2 [(AV.one (V1.s (SV.ptr p0))), (AV.one (V1.s (SV.ptr p2))), (AV.one (V1.s (SV.ptr p3))), (AV.one (V1.s (SV.sl l4))), (AV.one (V1.s (SV.bool c297)))]) S K := by kernel_rfl
noncomputable abbrev A43_0 (D J : Disp) (vals : List AV) (S : St) (K : AV → St → Prop) : Prop :=
  uncA vals fun a9001 r9002 => scK a9001 fun s9004 => SV.cP s9004 fun p0 => endL r9002 <| F43_0 D J p0 S K
theorem A43_0_ok {D J : Disp} (hD : DOK IrP IrG D) (hJ : JOK IrP IrG Go.Proofs.Try.f43 T43 J) {vals : List AV} {S : St} {K : AV → St → Prop} (h0 : A43_0 D J vals S K) : Runs IrP IrG Go.Proofs.Try.f43 (T43 0).1 (envOf (T43 0).2 vals) S K := by
  obtain ⟨a9001, r9002, rfl, h3⟩ := uncA_some h0
  obtain ⟨s9004, rfl, h5⟩ := scK_some h3
  obtain ⟨p0, rfl, h6⟩ := cP_some h5
  obtain ⟨rfl, h7⟩ := endL_some h6
  have hq := Eq.mp (F43_0_eq D J p0 S K) h7
  exact execK_runs hD.typed Ir_zero Ir_mixed hJ X43_0 (T43 0).1 (envOf (T43 0).2 _) S K (chk_of (by kernel_rfl) (by kernel_rfl)) hq
noncomputable abbrev A43_25 (D J : Disp) (vals : List AV) (S : St) (K : AV → St → Prop) : Prop :=
  uncA vals fun a9001 r9002 => scK a9001 fun s9004 => SV.cP s9004 fun p0 => uncA r9002 fun a9007 r9008 => scK a9007 fun s9010 => SV.cP s9010 fun p2 => uncA r9008 fun a9013 r9014 => scK a9013 fun s9016 => SV.cP s9016 fun p3 => uncA r9014 fun a9019 r9020 => scK a9019 fun s9022 => SV.cL s9022 fun l4 => uncA r9020 fun a9025 r9026 => scK a9025 fun s9028 => SV.cI IntKind.i64 s9028 fun x59 => uncA r9026 fun a9031 r9032 => scK a9031 fun s9034 => SV.cB s9034 fun c124 => endL r9032 <| F43_25 D J p0 p2 p3 l4 x59 c124 S K
theorem A43_25_ok {D J : Disp} (hD : DOK IrP IrG D) (hJ : JOK IrP IrG Go.Proofs.Try.f43 T43 J) {vals : List AV} {S : St} {K : AV → St → Prop} (h0 : A43_25 D J vals S K) : Runs IrP IrG Go.Proofs.Try.f43 (T43 25).1 (envOf (T43 25).2 vals) S K := by
  obtain ⟨a9001, r9002, rfl, h3⟩ := uncA_some h0
  obtain ⟨s9004, rfl, h5⟩ := scK_some h3
  obtain ⟨p0, rfl, h6⟩ := cP_some h5
  obtain ⟨a9007, r9008, rfl, h9⟩ := uncA_some h6
  obtain ⟨s9010, rfl, h11⟩ := scK_some h9
  obtain ⟨p2, rfl, h12⟩ := cP_some h11
  obtain ⟨a9013, r9014, rfl, h15⟩ := uncA_some h12
  obtain ⟨s9016, rfl, h17⟩ := scK_some h15
  obtain ⟨p3, rfl, h18⟩ := cP_some h17
  obtain ⟨a9019, r9020, rfl, h21⟩ := uncA_some h18
  obtain ⟨s9022, rfl, h23⟩ := scK_some h21
  obtain ⟨l4, rfl, h24⟩ := cL_some h23
  obtain ⟨a9025, r9026, rfl, h27⟩ := uncA_some h24
  obtain ⟨s9028, rfl, h29⟩ := scK_some h27
  obtain ⟨x59, rfl, h30⟩ := cI_some h29
  obtain ⟨a9031, r9032, rfl, h33⟩ := uncA_some h30
  obtain ⟨s9034, rfl, h35⟩ := scK_some h33
  obtain ⟨c124, rfl, h36⟩ := cB_some h35
  obtain ⟨rfl, h37⟩ := endL_some h36
  have hq := Eq.mp (F43_25_eq D J p0 p2 p3 l4 x59 c124 S K) h37
  exact execK_runs hD.typed Ir_zero Ir_mixed hJ X43_25 (T43 25).1 (envOf (T43 25).2 _) S K (chk_of (by kernel_rfl) (by kernel_rfl)) hq
noncomputable abbrev A43_38 (D J : Disp) (vals : List AV) (S : St) (K : AV → St → Prop) : Prop :=
  uncA vals fun a9001 r9002 => scK a9001 fun s9004 => SV.cP s9004 fun p3 => uncA r9002 fun a9007 r9008 => scK a9007 fun s9010 => SV.cL s9010 fun l4 => uncA r9008 fun a9013 r9014 => scK a9013 fun s9016 => SV.cI IntKind.i64 s9016 fun x8 => uncA r9014 fun a9019 r9020 => scK a9019 fun s9022 => SV.cL s9022 fun l182 => uncA r9020 fun a9025 r9026 => scK a9025 fun s9028 => SV.cI IntKind.i64 s9028 fun x183 => uncA r9026 fun a9031 r9032 => scK a9031 fun s9034 => SV.cI IntKind.i64 s9034 fun x184 => endL r9032 <| F43_38 D J p3 l4 x8 l182 x183 x184 S K
theorem A43_38_ok {D J : Disp} (hD : DOK IrP IrG D) (hJ : JOK IrP IrG Go.Proofs.Try.f43 T43 J) {vals : List AV} {S : St} {K : AV → St → Prop} (h0 : A43_38 D J vals S K) : Runs IrP IrG Go.Proofs.Try.f43 (T43 38).1 (envOf (T43 38).2 vals) S K := by
  obtain ⟨a9001, r9002, rfl, h3⟩ := uncA_some h0
  obtain ⟨s9004, rfl, h5⟩ := scK_some h3
  obtain ⟨p3, rfl, h6⟩ := cP_some h5
  obtain ⟨a9007, r9008, rfl, h9⟩ := uncA_some h6
  obtain ⟨s9010, rfl, h11⟩ := scK_some h9
  obtain ⟨l4, rfl, h12⟩ := cL_some h11
  obtain ⟨a9013, r9014, rfl, h15⟩ := uncA_some h12
  obtain ⟨s9016, rfl, h17⟩ := scK_some h15
  obtain ⟨x8, rfl, h18⟩ := cI_some h17
  obtain ⟨a9019, r9020, rfl, h21⟩ := uncA_some h18
  obtain ⟨s9022, rfl, h23⟩ := scK_some h21
  obtain ⟨l182, rfl, h24⟩ := cL_some h23
  obtain ⟨a9025, r9026, rfl, h27⟩ := uncA_some h24
  obtain ⟨s9028, rfl, h29⟩ := scK_some h27
  obtain ⟨x183, rfl, h30⟩ := cI_some h29
  obtain ⟨a9031, r9032, rfl, h33⟩ := uncA_some h30
  obtain ⟨s9034, rfl, h35⟩ := scK_some h33
  obtain ⟨x184, rfl, h36⟩ := cI_some h35
  obtain ⟨rfl, h37⟩ := endL_some h36
  have hq := Eq.mp (F43_38_eq D J p3 l4 x8 l182 x183 x184 S K) h37
  exact execK_runs hD.typed Ir_zero Ir_mixed hJ X43_38 (T43 38).1 (envOf (T43 38).2 _) S K (chk_of (by kernel_rfl) (by kernel_rfl)) hq
noncomputable abbrev A43_72 (D J : Disp) (vals : List AV) (S : St) (K : AV → St → Prop) : Prop :=
  uncA vals fun a9001 r9002 => scK a9001 fun s9004 => SV.cP s9004 fun p0 => uncA r9002 fun a9007 r9008 => scK a9007 fun s9010 => SV.cI IntKind.i64 s9010 fun x11 => endL r9008 <| F43_72 D J p0 x11 S K
theorem A43_72_ok {D J : Disp} (hD : DOK IrP IrG D) (hJ : JOK IrP IrG Go.Proofs.Try.f43 T43 J) {vals : List AV} {S : St} {K : AV → St → Prop} (h0 : A43_72 D J vals S K) : Runs IrP IrG Go.Proofs.Try.f43 (T43 72).1 (envOf (T43 72).2 vals) S K := by
  obtain ⟨a9001, r9002, rfl, h3⟩ := uncA_some h0
  obtain ⟨s9004, rfl, h5⟩ := scK_some h3
  obtain ⟨p0, rfl, h6⟩ := cP_some h5
  obtain ⟨a9007, r9008, rfl, h9⟩ := uncA_some h6
  obtain ⟨s9010, rfl, h11⟩ := scK_some h9
  obtain ⟨x11, rfl, h12⟩ := cI_some h11
  obtain ⟨rfl, h13⟩ := endL_some h12
  have hq := Eq.mp (F43_72_eq D J p0 x11 S K) h13
  exact execK_runs hD.typed Ir_zero Ir_mixed hJ X43_72 (T43 72).1 (envOf (T43 72).2 _) S K (chk_of (by kernel_rfl) (by kernel_rfl)) hq
noncomputable abbrev A43_75 (D J : Disp) (vals : List AV) (S : St) (K : AV → St → Prop) : Prop :=
  uncA vals fun a9001 r9002 => scK a9001 fun s9004 => SV.cP s9004 fun p0 => uncA r9002 fun a9007 r9008 => scK a9007 fun s9010 => SV.cP s9010 fun p2 => uncA r9008 fun a9013 r9014 => scK a9013 fun s9016 => SV.cP s9016 fun p3 => uncA r9014 fun a9019 r9020 => scK a9019 fun s9022 => SV.cL s9022 fun l4 => uncA r9020 fun a9025 r9026 => scK a9025 fun s9028 => SV.cB s9028 fun c297 => endL r9026 <| F43_75 D J p0 p2 p3 l4 c297 S K
theorem A43_75_ok {D J : Disp} (hD : DOK IrP IrG D) (hJ : JOK IrP IrG Go.Proofs.Try.f43 T43 J) {vals : List AV} {S : St} {K : AV → St → Prop} (h0 : A43_75 D J vals S K) : Runs IrP IrG Go.Proofs.Try.f43 (T43 75).1 (envOf (T43 75).2 vals) S K := by
  obtain ⟨a9001, r9002, rfl, h3⟩ := uncA_some h0
  obtain ⟨s9004, rfl, h5⟩ := scK_some h3
  obtain ⟨p0, rfl, h6⟩ := cP_some h5
  obtain ⟨a9007, r9008, rfl, h9⟩ := uncA_some h6
  obtain ⟨s9010, rfl, h11⟩ := scK_some h9
  obtain ⟨p2, rfl, h12⟩ := cP_some h11
  obtain ⟨a9013, r9014, rfl, h15⟩ := uncA_some h12
  obtain ⟨s9016, rfl, h17⟩ := scK_some h15
  obtain ⟨p3, rfl, h18⟩ := cP_some h17
  obtain ⟨a9019, r9020, rfl, h21⟩ := uncA_some h18
  obtain ⟨s9022, rfl, h23⟩ := scK_some h21
  obtain ⟨l4, rfl, h24⟩ := cL_some h23
  obtain ⟨a9025, r9026, rfl, h27⟩ := uncA_some h24
  obtain ⟨s9028, rfl, h29⟩ := scK_some h27
  obtain ⟨c297, rfl, h30⟩ := cB_some h29
  obtain ⟨rfl, h31⟩ := endL_some h30
  have hq := Eq.mp (F43_75_eq D J p0 p2 p3 l4 c297 S K) h31
  exact execK_runs hD.typed Ir_zero Ir_mixed hJ X43_75 (T43 75).1 (envOf (T43 75).2 _) S K (chk_of (by kernel_rfl) (by kernel_rfl)) hq
noncomputable def J43 (D : Disp) (k : Nat) : Disp := Nat.rec (motive := fun _ => Disp) Disp.no (fun _ ih => Disp.add 0 (A43_0 D ih) <| Disp.add 25 (A43_25 D ih) <| Disp.add 38 (A43_38 D ih) <| Disp.add 72 (A43_72 D ih) <| Disp.add 75 (A43_75 D ih) <| Disp.no) k
theorem J43_ok {D : Disp} (hD : DOK IrP IrG D) : ∀ k, JOK IrP IrG Go.Proofs.Try.f43 T43 (J43 D k)
  | 0 => JOK.no
  | k + 1 => JOK.add (ltB_ok (by kernel_rfl)) (fun vals S K h => A43_0_ok hD (J43_ok hD k) h) <| JOK.add (ltB_ok (by kernel_rfl)) (fun vals S K h => A43_25_ok hD (J43_ok hD k) h) <| JOK.add (ltB_ok (by kernel_rfl)) (fun vals S K h => A43_38_ok hD (J43_ok hD k) h) <| JOK.add (ltB_ok (by kernel_rfl)) (fun vals S K h => A43_72_ok hD (J43_ok hD k) h) <| JOK.add (ltB_ok (by kernel_rfl)) (fun vals S K h => A43_75_ok hD (J43_ok hD k) h) <| JOK.no
theorem E43_ok {D : Disp} (hD : DOK IrP IrG D) (k : Nat) {args : List AV} {S : St} {K : AV → St → Prop} (h : A43_0 D (J43 D k) args S K) : CallE IrP IrG 43 args S K := by
  have hr := A43_0_ok hD (J43_ok hD k) h
  have hl : args.length = 1 := by
    have h0 := h
    obtain ⟨a9001, r9002, rfl, h3⟩ := uncA_some h0
    obtain ⟨s9004, rfl, h5⟩ := scK_some h3
    obtain ⟨p0, rfl, h6⟩ := cP_some h5
    obtain ⟨rfl, h7⟩ := endL_some h6
    rfl
  refine callOK_of (fn := Go.Proofs.Try.f43) (c := (match Go.Proofs.Try.f43.body with | some c => c | none => .skip)) (by kernel_rfl) (by kernel_rfl) (by kernel_rfl) (by rw [hl]; kernel_rfl) (by kernel_rfl) ?_
  rw [hl]
  exact hr
noncomputable def plans44 (i : Nat) : Plan := if Nat.beq i 6 then [(0, []), (1, []), (2, [0, 1]), (3, [2, 0, 1]), (4, []), (5, []), (6, [4, 5]), (7, [6, 4, 5]), (8, [3, 7, 2, 6, 0, 1, 4, 5])] else []
noncomputable def T44 (p : Nat) : List Item × List Nat := bif Nat.beq p 0 then ([.code (match Go.Proofs.Try.f44.body with | some c => c | none => .skip)], [0, 1]) else
  bif Nat.beq p 6 then (navs [.op, .op, .el, .op] [.code (match Go.Proofs.Try.f44.body with | some c => c | none => .skip)], [0, 1, 5]) else
  ([], [])
noncomputable def F44_0 (D J : Disp) (l0 : LV) (l1 : LV) (S : St) (K : AV → St → Prop) : Prop :=
 letK (α := Int) ((Int.ofNat (LV.len l0))) fun x300 =>
 letK (α := Int) ((Int.ofNat (LV.len l1))) fun x301 =>
 letK (α := Bool) ((Bool.not (ieq x300 x301))) fun c302 =>
 ifK c302
 (K ((AV.one (V1.s (SV.bool Bool.false)))) S)
 (J 6 [(AV.one (V1.s (SV.sl l0))), (AV.one (V1.s (SV.sl l1))), (AV.one (V1.s (SV.int IntKind.i64 (0 : Int))))] S K)
noncomputable def X44_0 : X := (.op (.op (.br (.op .ret) (.op (.jmp 6 [0, 1, 5])))))
theorem F44_0_eq (D J : Disp) (l0 : LV) (l1 : LV) (S : St) (K : AV → St → Prop) : F44_0 D J l0 l1 S K = execK IrP IrG Go.Proofs.Try.f44 (typed IrP D) J plans44 X44_0 (T44 0).1 (envOf (T44 0).2 [(AV.one (V1.s (SV.sl l0))), (AV.one (V1.s (SV.sl l1)))]) S K := by kernel_rfl
noncomputable def F44_q1 (D J : Disp) (S : St) (l0 : LV) (l1 : LV) (x5 : Int) (x313 : Int) (K : AV → St → Prop) : Prop :=
 LV.cs l1 fun b314 n315 n316 y317 =>
 req (Bool.and (ile (0 : Int) x5) (ilt x5 (Int.ofNat n316))) <|
 letK (α := Nat) ((n315 + ((Int.toNat x5) * 1))) fun n318 =>
 St.at S b314 n318 fun y319 =>
 uncK y319 fun v320 y321 =>
 SV.cI IntKind.u8 v320 fun x325 =>
 letK (α := Bool) ((Bool.not (ieq x313 x325))) fun c326 =>
 ifK c326
 (K ((AV.one (V1.s (SV.bool Bool.false)))) S)
 (letK (α := Int) ((iwrap IntKind.i64 (x5 + (1 : Int)))) fun x327 =>
 J 6 [(AV.one (V1.s (SV.sl l0))), (AV.one (V1.s (SV.sl l1))), (AV.one (V1.s (SV.int IntKind.i64 x327)))] S K)
noncomputable def F44_6 (D J : Disp) (l0 : LV) (l1 : LV) (x5 : Int) (S : St) (K : AV → St → Prop) : Prop :=
 letK (α := Int) ((Int.ofNat (LV.len l0))) fun x300 =>
 letK (α := Bool) ((ilt x5 x300)) fun c301 =>
 ifK c301
 (LV.cs l0 fun b302 n303 n304 y305 =>
 req (Bool.and (ile (0 : Int) x5) (ilt x5 (Int.ofNat n304))) <|
 letK (α := Nat) ((n303 + ((Int.toNat x5) * 1))) fun n306 =>
 St.at S b302 n306 fun y307 =>
 uncK y307 fun v308 y309 =>
 SV.cI IntKind.u8 v308 fun x313 =>
 F44_q1 D J S l0 l1 x5 x313 K)
 (K ((AV.one (V1.s (SV.bool Bool.true)))) S)
noncomputable def X44_6 : X := (.op (.br (.op (.br (.op .ret) (.op (.jmp 6 [0, 1, 5])))) (.op .ret)))
theorem F44_6_eq (D J : Disp) (l0 : LV) (l1 : LV) (x5 : Int) (S : St) (K : AV → St → Prop) : F44_6 D J l0 l1 x5 S K = execK IrP IrG Go.Proofs.Try.f44 (typed IrP D) J plans44 X44_6 (T44 6).1 (envOf (T44 6).2 [(AV.one (V1.s (SV.sl l0))), (AV.one (V1.s (SV.sl l1))), (AV.one (V1.s (SV.int IntKind.i64 x5)))]) S K := by kernel_rfl
noncomputable abbrev A44_0 (D J : Disp) (vals : List AV) (S : St) (K : AV → St → Prop) : Prop :=
  uncA vals fun a9001 r9002 => scK a9001 fun s9004 => SV.cL s9004 fun l0 => uncA r9002 fun a9007 r9008 => scK a9007 fun s9010 => SV.cL s9010 fun l1 => endL r9008 <| F44_0 D J l0 l1 S K
theorem A44_0_ok {D J : Disp} (hD : DOK IrP IrG D) (hJ : JOK IrP IrG Go.Proofs.Try.f44 T44 J) {vals : List AV} {S : St} {K : AV → St → Prop} (h0 : A44_0 D J vals S K) : Runs IrP IrG Go.Proofs.Try.f44 (T44 0).1 (envOf (T44 0).2 vals) S K := by
  obtain ⟨a9001, r9002, rfl, h3⟩ := uncA_some h0
  obtain ⟨s9004, rfl, h5⟩ := scK_some h3
  obtain ⟨l0, rfl, h6⟩ := cL_some h5
  obtain ⟨a9007, r9008, rfl, h9⟩ := uncA_some h6
  obtain ⟨s9010, rfl, h11⟩ := scK_some h9
  obtain ⟨l1, rfl, h12⟩ := cL_some h11
  obtain ⟨rfl, h13⟩ := endL_some h12
  have hq := Eq.mp (F44_0_eq D J l0 l1 S K) h13
  exact execK_runs hD.typed Ir_zero Ir_mixed hJ X44_0 (T44 0).1 (envOf (T44 0).2 _) S K (chk_of (by kernel_rfl) (by kernel_rfl)) hq
noncomputable abbrev A44_6 (D J : Disp) (vals : List AV) (S : St) (K : AV → St → Prop) : Prop :=
  uncA vals fun a9001 r9002 => scK a9001 fun s9004 => SV.cL s9004 fun l0 => uncA r9002 fun a9007 r9008 => scK a9007 fun s9010 => SV.cL s9010 fun l1 => uncA r9008 fun a9013 r9014 => scK a9013 fun s9016 => SV.cI IntKind.i64 s9016 fun x5 => endL r9014 <| F44_6 D J l0 l1 x5 S K
theorem A44_6_ok {D J : Disp} (hD : DOK IrP IrG D) (hJ : JOK IrP IrG Go.Proofs.Try.f44 T44 J) {vals : List AV} {S : St} {K : AV → St → Prop} (h0 : A44_6 D J vals S K) : Runs IrP IrG Go.Proofs.Try.f44 (T44 6).1 (envOf (T44 6).2 vals) S K := by
  obtain ⟨a9001, r9002, rfl, h3⟩ := uncA_some h0
  obtain ⟨s9004, rfl, h5⟩ := scK_some h3
  obtain ⟨l0, rfl, h6⟩ := cL_some h5
  obtain ⟨a9007, r9008, rfl, h9⟩ := uncA_some h6
  obtain ⟨s9010, rfl, h11⟩ := scK_some h9
  obtain ⟨l1, rfl, h12⟩ := cL_some h11
  obtain ⟨a9013, r9014, rfl, h15⟩ := uncA_some h12
  obtain ⟨s9016, rfl, h17⟩ := scK_some h15
  obtain ⟨x5, rfl, h18⟩ := cI_some h17
  obtain ⟨rfl, h19⟩ := endL_some h18
  have hq := Eq.mp (F44_6_eq D J l0 l1 x5 S K) h19
  exact execK_runs hD.typed Ir_zero Ir_mixed hJ X44_6 (T44 6).1 (envOf (T44 6).2 _) S K (chk_of (by kernel_rfl) (by kernel_rfl)) hq
noncomputable def J44 (D : Disp) (k : Nat) : Disp := Nat.rec (motive := fun _ => Disp) Disp.no (fun _ ih => Disp.add 0 (A44_0 D ih) <| Disp.add 6 (A44_6 D ih) <| Disp.no) k
theorem J44_ok {D : Disp} (hD : DOK IrP IrG D) : ∀ k, JOK IrP IrG Go.Proofs.Try.f44 T44 (J44 D k)
  | 0 => JOK.no
  | k + 1 => JOK.add (ltB_ok (by kernel_rfl)) (fun vals S K h => A44_0_ok hD (J44_ok hD k) h) <| JOK.add (ltB_ok (by kernel_rfl)) (fun vals S K h => A44_6_ok hD (J44_ok hD k) h) <| JOK.no
theorem E44_ok {D : Disp} (hD : DOK IrP IrG D) (k : Nat) {args : List AV} {S : St} {K : AV → St → Prop} (h : A44_0 D (J44 D k) args S K) : CallE IrP IrG 44 args S K := by
  have hr := A44_0_ok hD (J44_ok hD k) h
  have hl : args.length = 2 := by
    have h0 := h
    obtain ⟨a9001, r9002, rfl, h3⟩ := uncA_some h0
    obtain ⟨s9004, rfl, h5⟩ := scK_some h3
    obtain ⟨l0, rfl, h6⟩ := cL_some h5
    obtain ⟨a9007, r9008, rfl, h9⟩ := uncA_some h6
    obtain ⟨s9010, rfl, h11⟩ := scK_some h9
    obtain ⟨l1, rfl, h12⟩ := cL_some h11
    obtain ⟨rfl, h13⟩ := endL_some h12
    rfl
  refine callOK_of (fn := Go.Proofs.Try.f44) (c := (match Go.Proofs.Try.f44.body with | some c => c | none => .skip)) (by kernel_rfl) (by kernel_rfl) (by kernel_rfl) (by rw [hl]; kernel_rfl) (by kernel_rfl) ?_
  rw [hl]
  exact hr
noncomputable def plans45 (i : Nat) : Plan := []
noncomputable def T45 (p : Nat) : List Item × List Nat := bif Nat.beq p 0 then ([.code (match Go.Proofs.Try.f45.body with | some c => c | none => .skip)], [0, 1]) else
  ([], [])
noncomputable def F45_0 (D J : Disp) (x0 : Int) (x1 : Int) (S : St) (K : AV → St → Prop) : Prop :=
 letK (α := Bool) ((ile (0 : Int) x0)) fun c300 =>
 ifK c300
 (letK (α := Bool) ((ilt x0 x1)) fun c301 =>
 K ((AV.one (V1.s (SV.bool c301)))) S)
 (K ((AV.one (V1.s (SV.bool Bool.false)))) S)
noncomputable def X45_0 : X := (.op (.op .ret))
theorem F45_0_eq (D J : Disp) (x0 : Int) (x1 : Int) (S : St) (K : AV → St → Prop) : F45_0 D J x0 x1 S K = execK IrP IrG Go.Proofs.Try.f45 (typed IrP D) J plans45 X45_0 (T45 0).1 (envOf (T45 0).2 [(AV.one (V1.s (SV.int IntKind.i64 x0))), (AV.one (V1.s (SV.int IntKind.i64 x1)))]) S K := by kernel_rfl
noncomputable abbrev A45_0 (D J : Disp) (vals : List AV) (S : St) (K : AV → St → Prop) : Prop :=
  uncA vals fun a9001 r9002 => scK a9001 fun s9004 => SV.cI IntKind.i64 s9004 fun x0 => uncA r9002 fun a9007 r9008 => scK a9007 fun s9010 => SV.cI IntKind.i64 s9010 fun x1 => endL r9008 <| F45_0 D J x0 x1 S K
theorem A45_0_ok {D J : Disp} (hD : DOK IrP IrG D) (hJ : JOK IrP IrG Go.Proofs.Try.f45 T45 J) {vals : List AV} {S : St} {K : AV → St → Prop} (h0 : A45_0 D J vals S K) : Runs IrP IrG Go.Proofs.Try.f45 (T45 0).1 (envOf (T45 0).2 vals) S K := by
  obtain ⟨a9001, r9002, rfl, h3⟩ := uncA_some h0
  obtain ⟨s9004, rfl, h5⟩ := scK_some h3
  obtain ⟨x0, rfl, h6⟩ := cI_some h5
  obtain ⟨a9007, r9008, rfl, h9⟩ := uncA_some h6
  obtain ⟨s9010, rfl, h11⟩ := scK_some h9
  obtain ⟨x1, rfl, h12⟩ := cI_some h11
  obtain ⟨rfl, h13⟩ := endL_some h12
  have hq := Eq.mp (F45_0_eq D J x0 x1 S K) h13
  exact execK_runs hD.typed Ir_zero Ir_mixed hJ X45_0 (T45 0).1 (envOf (T45 0).2 _) S K (chk_of (by kernel_rfl) (by kernel_rfl)) hq
noncomputable def J45 (D : Disp) (k : Nat) : Disp := Nat.rec (motive := fun _ => Disp) Disp.no (fun _ ih => Disp.add 0 (A45_0 D ih) <| Disp.no) k
theorem J45_ok {D : Disp} (hD : DOK IrP IrG D) : ∀ k, JOK IrP IrG Go.Proofs.Try.f45 T45 (J45 D k)
  | 0 => JOK.no
  | k + 1 => JOK.add (ltB_ok (by kernel_rfl)) (fun vals S K h => A45_0_ok hD (J45_ok hD k) h) <| JOK.no
theorem E45_ok {D : Disp} (hD : DOK IrP IrG D) (k : Nat) {args : List AV} {S : St} {K : AV → St → Prop} (h : A45_0 D (J45 D k) args S K) : CallE IrP IrG 45 args S K := by
  have hr := A45_0_ok hD (J45_ok hD k) h
  have hl : args.length = 2 := by
    have h0 := h
    obtain ⟨a9001, r9002, rfl, h3⟩ := uncA_some h0
    obtain ⟨s9004, rfl, h5⟩ := scK_some h3
    obtain ⟨x0, rfl, h6⟩ := cI_some h5
    obtain ⟨a9007, r9008, rfl, h9⟩ := uncA_some h6
    obtain ⟨s9010, rfl, h11⟩ := scK_some h9
    obtain ⟨x1, rfl, h12⟩ := cI_some h11
    obtain ⟨rfl, h13⟩ := endL_some h12
    rfl
  refine callOK_of (fn := Go.Proofs.Try.f45) (c := (match Go.Proofs.Try.f45.body with | some c => c | none => .skip)) (by kernel_rfl) (by kernel_rfl) (by kernel_rfl) (by rw [hl]; kernel_rfl) (by kernel_rfl) ?_
  rw [hl]
  exact hr
noncomputable def plans46 (i : Nat) : Plan := []
noncomputable def T46 (p : Nat) : List Item × List Nat := bif Nat.beq p 0 then ([.code (match Go.Proofs.Try.f46.body with | some c => c | none => .skip)], [0, 1, 2]) else
  bif Nat.beq p 2 then (navs [.op, .op] [.code (match Go.Proofs.Try.f46.body with | some c => c | none => .skip)], [4, 5, 28]) else
  bif Nat.beq p 6 then (navs [.op, .op, .el, .op] [.code (match Go.Proofs.Try.f46.body with | some c => c | none => .skip)], [4, 5, 7]) else
  ([], [])
noncomputable def X46_0 : X := (.op (.op (.jmp 2 [4, 5, 28])))
noncomputable def X46_2 : X := (.br (.op .ret) (.op (.jmp 6 [4, 5, 7])))
noncomputable def X46_6 : X := (.op .ret)
noncomputable def A46_0 (D J : Disp) (vals : List AV) (S : St) (K : AV → St → Prop) : Prop := req (Nat.beq vals.length 3) (execK IrP IrG Go.Proofs.Try.f46 (typed IrP D) J plans46 X46_0 (T46 0).1 (envOf (T46 0).2 vals) S K)
theorem A46_0_ok {D J : Disp} (hD : DOK IrP IrG D) (hJ : JOK IrP IrG Go.Proofs.Try.f46 T46 J) {vals : List AV} {S : St} {K : AV → St → Prop} (h0 : A46_0 D J vals S K) : Runs IrP IrG Go.Proofs.Try.f46 (T46 0).1 (envOf (T46 0).2 vals) S K :=
  execK_runs hD.typed Ir_zero Ir_mixed hJ X46_0 (T46 0).1 (envOf (T46 0).2 vals) S K (chk_of (by kernel_rfl) (by kernel_rfl)) (req_and h0).2
noncomputable def A46_2 (D J : Disp) (vals : List AV) (S : St) (K : AV → St → Prop) : Prop := req (Nat.beq vals.length 3) (execK IrP IrG Go.Proofs.Try.f46 (typed IrP D) J plans46 X46_2 (T46 2).1 (envOf (T46 2).2 vals) S K)
theorem A46_2_ok {D J : Disp} (hD : DOK IrP IrG D) (hJ : JOK IrP IrG Go.Proofs.Try.f46 T46 J) {vals : List AV} {S : St} {K : AV → St → Prop} (h0 : A46_2 D J vals S K) : Runs IrP IrG Go.Proofs.Try.f46 (T46 2).1 (envOf (T46 2).2 vals) S K :=
  execK_runs hD.typed Ir_zero Ir_mixed hJ X46_2 (T46 2).1 (envOf (T46 2).2 vals) S K (chk_of (by kernel_rfl) (by kernel_rfl)) (req_and h0).2
noncomputable def A46_6 (D J : Disp) (vals : List AV) (S : St) (K : AV → St → Prop) : Prop := req (Nat.beq vals.length 3) (execK IrP IrG Go.Proofs.Try.f46 (typed IrP D) J plans46 X46_6 (T46 6).1 (envOf (T46 6).2 vals) S K)
theorem A46_6_ok {D J : Disp} (hD : DOK IrP IrG D) (hJ : JOK IrP IrG Go.Proofs.Try.f46 T46 J) {vals : List AV} {S : St} {K : AV → St → Prop} (h0 : A46_6 D J vals S K) : Runs IrP IrG Go.Proofs.Try.f46 (T46 6).1 (envOf (T46 6).2 vals) S K :=
  execK_runs hD.typed Ir_zero Ir_mixed hJ X46_6 (T46 6).1 (envOf (T46 6).2 vals) S K (chk_of (by kernel_rfl) (by kernel_rfl)) (req_and h0).2
noncomputable def J46 (D : Disp) (k : Nat) : Disp := Nat.rec (motive := fun _ => Disp) Disp.no (fun _ ih => Disp.add 0 (A46_0 D ih) <| Disp.add 2 (A46_2 D ih) <| Disp.add 6 (A46_6 D ih) <| Disp.no) k
theorem J46_ok {D : Disp} (hD : DOK IrP IrG D) : ∀ k, JOK IrP IrG Go.Proofs.Try.f46 T46 (J46 D k)
  | 0 => JOK.no
  | k + 1 => JOK.add (ltB_ok (by kernel_rfl)) (fun vals S K h => A46_0_ok hD (J46_ok hD k) h) <| JOK.add (ltB_ok (by kernel_rfl)) (fun vals S K h => A46_2_ok hD (J46_ok hD k) h) <| JOK.add (ltB_ok (by kernel_rfl)) (fun vals S K h => A46_6_ok hD (J46_ok hD k) h) <| JOK.no
theorem E46_ok {D : Disp} (hD : DOK IrP IrG D) (k : Nat) {args : List AV} {S : St} {K : AV → St → Prop} (h : A46_0 D (J46 D k) args S K) : CallE IrP IrG 46 args S K := by
  have hr := A46_0_ok hD (J46_ok hD k) h
  have hl : args.length = 3 := Nat.eq_of_beq_eq_true (req_and h).1
  refine callOK_of (fn := Go.Proofs.Try.f46) (c := (match Go.Proofs.Try.f46.body with | some c => c | none => .skip)) (by kernel_rfl) (by kernel_rfl) (by kernel_rfl) (by rw [hl]; kernel_rfl) (by kernel_rfl) ?_
  rw [hl]
  exact hr
noncomputable def plans47 (i : Nat) : Plan := []
noncomputable def T47 (p : Nat) : List Item × List Nat := bif Nat.beq p 0 then ([.code (match Go.Proofs.Try.f47.body with | some c => c | none => .skip)], [0, 1]) else
  bif Nat.beq p 2 then (navs [.op, .op] [.code (match Go.Proofs.Try.f47.body with | some c => c | none => .skip)], [2, 3, 12, 13, 14]) else
  bif Nat.beq p 6 then (navs [.op, .op, .op, .th, .op, .op] [.code (match Go.Proofs.Try.f47.body with | some c => c | none => .skip)], [2, 3, 12, 13, 14, 23]) else
  bif Nat.beq p 15 then (navs [.op, .op, .op, .el, .op, .el, .op] [.code (match Go.Proofs.Try.f47.body with | some c => c | none => .skip)], [2, 3, 29, 30, 31]) else
  bif Nat.beq p 19 then (navs [.op, .op, .op, .el, .op, .el, .op, .op, .th, .op, .op] [.code (match Go.Proofs.Try.f47.body with | some c => c | none => .skip)], [2, 3, 29, 30, 31, 36, 37, 38]) else
  ([], [])
noncomputable def F47_q14 (D J : Disp) (S : St) (s1_0 : (List Nat)) (x1_1 : Int) (x1_2 : Int) (l1_3 : LV) (l1_4 : LV) (c1_5 : Bool) (S300 : St) (K : AV → St → Prop) : Prop :=
 letK (α := St) ((St.add S300 (AO.cells [(SV.str s1_0), (SV.int IntKind.i64 x1_1), (SV.int IntKind.i64 x1_2), (SV.sl l1_3), (SV.sl l1_4), (SV.bool c1_5)] (Op2.ty 42)))) fun S301 =>
 St.at S301 (Bk.new (St.next S300)) 3 fun y302 =>
 uncK y302 fun v303 y304 =>
 SV.cL v303 fun y311 =>
 letK (α := Int) ((Int.ofNat (LV.len y311))) fun x312 =>
 J 2 [(AV.one (V1.s (SV.ptr (PV.mk (Bk.new (St.next S)) 0)))), (AV.one (V1.s (SV.ptr (PV.mk (Bk.new (St.next S300)) 0)))), (AV.one (V1.s (SV.sl y311))), (AV.one (V1.s (SV.int IntKind.i64 x312))), (AV.one (V1.s (SV.int IntKind.i64 (0 : Int))))] S301 K
noncomputable def F47_0 (D J : Disp) (l0_0 : LV) (l0_1 : LV) (x0_2 : Int) (s1_0 : (List Nat)) (x1_1 : Int) (x1_2 : Int) (l1_3 : LV) (l1_4 : LV) (c1_5 : Bool) (S : St) (K : AV → St → Prop) : Prop :=
 letK (α := St) ((St.add S (AO.cells [(SV.sl l0_0), (SV.sl l0_1), (SV.int IntKind.i64 x0_2)] (Op2.ty 36)))) fun S300 =>
 F47_q14 D J S s1_0 x1_1 x1_2 l1_3 l1_4 c1_5 S300 K
noncomputable def X47_0 : X := (.op (.op (.jmp 2 [2, 3, 12, 13, 14])))
theorem F47_0_eq (D J : Disp) (l0_0 : LV) (l0_1 : LV) (x0_2 : Int) (s1_0 : (List Nat)) (x1_1 : Int) (x1_2 : Int) (l1_3 : LV) (l1_4 : LV) (c1_5 : Bool) (S : St) (K : AV → St → Prop) : F47_0 D J l0_0 l0_1 x0_2 s1_0 x1_1 x1_2 l1_3 l1_4 c1_5 S K = execK IrP IrG Go.Proofs.Try.f47 (typed IrP D) J plans47 X47_0 (T47 0).1 (envOf (T47 0).2 [(AV.one (V1.agg [(SV.sl l0_0), (SV.sl l0_1), (SV.int IntKind.i64 x0_2)])), (AV.one (V1.agg [(SV.str s1_0), (SV.int IntKind.i64 x1_1), (SV.int IntKind.i64 x1_2), (SV.sl l1_3), (SV.sl l1_4), (SV.bool c1_5)]))]) S K := by kernel_rfl
noncomputable def F47_q15 (D J : Disp) (S : St) (p2 : PV) (p3 : PV) (l12 : LV) (x13 : Int) (x14 : Int) (x312 : Int) (c313 : Bool) (K : AV → St → Prop) : Prop :=
 ifK c313
 (J 6 [(AV.one (V1.s (SV.ptr p2))), (AV.one (V1.s (SV.ptr p3))), (AV.one (V1.s (SV.sl l12))), (AV.one (V1.s (SV.int IntKind.i64 x13))), (AV.one (V1.s (SV.int IntKind.i64 x14))), (AV.one (V1.s (SV.bool Bool.true)))] S K)
 (letK (α := Bool) ((ilt (65536 : Int) x312)) fun c314 =>
 J 6 [(AV.one (V1.s (SV.ptr p2))), (AV.one (V1.s (SV.ptr p3))), (AV.one (V1.s (SV.sl l12))), (AV.one (V1.s (SV.int IntKind.i64 x13))), (AV.one (V1.s (SV.int IntKind.i64 x14))), (AV.one (V1.s (SV.bool c314)))] S K)
noncomputable def F47_q16 (D J : Disp) (p2 : PV) (p3 : PV) (S365 : St) (c369 : Bool) (K : AV → St → Prop) : Prop :=
 ifK c369
 (K ((AV.one (V1.s (SV.bool Bool.false)))) S365)
 (PV.cs p3 fun b370 n371 =>
 letK (α := Nat) ((n371 + 4)) fun n372 =>
 St.at S365 b370 n372 fun y373 =>
 uncK y373 fun v374 y375 =>
 SV.cL v374 fun y382 =>
 letK (α := Int) ((Int.ofNat (LV.len y382))) fun x383 =>
 J 15 [(AV.one (V1.s (SV.ptr p2))), (AV.one (V1.s (SV.ptr p3))), (AV.one (V1.s (SV.sl y382))), (AV.one (V1.s (SV.int IntKind.i64 x383))), (AV.one (V1.s (SV.int IntKind.i64 (0 : Int))))] S365 K)
noncomputable def F47_q17 (D J : Disp) (S : St) (p2 : PV) (p3 : PV) (K : AV → St → Prop) : Prop :=
 PV.cs p3 fun b320 n321 =>
 St.at S b320 n321 fun y322 =>
 uncK y322 fun v323 y324 =>
 SV.cS v323 fun y329 =>
 uncK y324 fun v330 y331 =>
 SV.cI IntKind.i64 v330 fun x335 =>
 uncK y331 fun v336 y337 =>
 SV.cI IntKind.i64 v336 fun x341 =>
 uncK y337 fun v342 y343 =>
 SV.cL v342 fun y350 =>
 uncK y343 fun v351 y352 =>
 SV.cL v351 fun y359 =>
 uncK y352 fun v360 y361 =>
 SV.cB v360 fun y363 =>
 D 68 [(AV.one (V1.agg [(SV.str y329), (SV.int IntKind.i64 x335), (SV.int IntKind.i64 x341), (SV.sl y350), (SV.sl y359), (SV.bool y363)]))] S fun v364 S365 =>
 scK v364 fun v367 =>
 SV.cB v367 fun y368 =>
 letK (α := Bool) ((Bool.not y368)) fun c369 =>
 F47_q16 D J p2 p3 S365 c369 K
noncomputable def F47_2 (D J : Disp) (p2 : PV) (p3 : PV) (l12 : LV) (x13 : Int) (x14 : Int) (S : St) (K : AV → St → Prop) : Prop :=
 letK (α := Bool) ((ilt x14 x13)) fun c300 =>
 ifK c300
 (LV.cs l12 fun b301 n302 n303 y304 =>
 req (Bool.and (ile (0 : Int) x14) (ilt x14 (Int.ofNat n303))) <|
 letK (α := Nat) ((n302 + ((Int.toNat x14) * 1))) fun n305 =>
 St.at S b301 n305 fun y306 =>
 uncK y306 fun v307 y308 =>
 SV.cI IntKind.i64 v307 fun x312 =>
 letK (α := Bool) ((ilt x312 (1 : Int))) fun c313 =>
 F47_q15 D J S p2 p3 l12 x13 x14 x312 c313 K)
 (F47_q17 D J S p2 p3 K)
noncomputable def X47_2 : X := (.op (.br (.op (.op (.jmp 6 [2, 3, 12, 13, 14, 23]))) (.op (.br (.op .ret) (.op (.jmp 15 [2, 3, 29, 30, 31]))))))
theorem F47_2_eq (D J : Disp) (p2 : PV) (p3 : PV) (l12 : LV) (x13 : Int) (x14 : Int) (S : St) (K : AV → St → Prop) : F47_2 D J p2 p3 l12 x13 x14 S K = execK IrP IrG Go.Proofs.Try.f47 (typed IrP D) J plans47 X47_2 (T47 2).1 (envOf (T47 2).2 [(AV.one (V1.s (SV.ptr p2))), (AV.one (V1.s (SV.ptr p3))), (AV.one (V1.s (SV.sl l12))), (AV.one (V1.s (SV.int IntKind.i64 x13))), (AV.one (V1.s (SV.int IntKind.i64 x14)))]) S K := by kernel_rfl
noncomputable def F47_6 (D J : Disp) (p2 : PV) (p3 : PV) (l12 : LV) (x13 : Int) (x14 : Int) (c23 : Bool) (S : St) (K : AV → St → Prop) : Prop :=
 ifK c23
 (K ((AV.one (V1.s (SV.bool Bool.false)))) S)
 (letK (α := Int) ((iwrap IntKind.i64 (x14 + (1 : Int)))) fun x300 =>
 J 2 [(AV.one (V1.s (SV.ptr p2))), (AV.one (V1.s (SV.ptr p3))), (AV.one (V1.s (SV.sl l12))), (AV.one (V1.s (SV.int IntKind.i64 x13))), (AV.one (V1.s (SV.int IntKind.i64 x300)))] S K)
noncomputable def X47_6 : X := (.br (.op .ret) (.op (.jmp 2 [2, 3, 12, 13, 14])))
theorem F47_6_eq (D J : Disp) (p2 : PV) (p3 : PV) (l12 : LV) (x13 : Int) (x14 : Int) (c23 : Bool) (S : St) (K : AV → St → Prop) : F47_6 D J p2 p3 l12 x13 x14 c23 S K = execK IrP IrG Go.Proofs.Try.f47 (typed IrP D) J plans47 X47_6 (T47 6).1 (envOf (T47 6).2 [(AV.one (V1.s (SV.ptr p2))), (AV.one (V1.s (SV.ptr p3))), (AV.one (V1.s (SV.sl l12))), (AV.one (V1.s (SV.int IntKind.i64 x13))), (AV.one (V1.s (SV.int IntKind.i64 x14))), (AV.one (V1.s (SV.bool c23)))]) S K := by kernel_rfl
noncomputable def F47_q18 (D J : Disp) (S : St) (p2 : PV) (p3 : PV) (l29 : LV) (x30 : Int) (x31 : Int) (S317 : St) (K : AV → St → Prop) : Prop :=
 St.at S317 (Bk.new (St.next S)) 0 fun y318 =>
 uncK y318 fun v319 y320 =>
 SV.cL v319 fun y327 =>
 letK (α := Int) ((Int.ofNat (LV.len y327))) fun x328 =>
 J 19 [(AV.one (V1.s (SV.ptr p2))), (AV.one (V1.s (SV.ptr p3))), (AV.one (V1.s (SV.sl l29))), (AV.one (V1.s (SV.int IntKind.i64 x30))), (AV.one (V1.s (SV.int IntKind.i64 x31))), (AV.one (V1.s (SV.sl y327))), (AV.one (V1.s (SV.int IntKind.i64 x328))), (AV.one (V1.s (SV.int IntKind.i64 (0 : Int))))] S317 K
noncomputable def F47_q19 (D J : Disp) (S : St) (p2 : PV) (p3 : PV) (l29 : LV) (x30 : Int) (x31 : Int) (c300 : Bool) (K : AV → St → Prop) : Prop :=
 ifK c300
 (LV.cs l29 fun b301 n302 n303 y304 =>
 req (Bool.and (ile (0 : Int) x31) (ilt x31 (Int.ofNat n303))) <|
 letK (α := Nat) ((n302 + ((Int.toNat x31) * 1))) fun n305 =>
 St.at S b301 n305 fun y306 =>
 uncK y306 fun v307 y308 =>
 SV.cL v307 fun y315 =>
 letK (α := St) ((St.add S (AO.cells [(SV.sl LV.nil)] (Op2.ty 45)))) fun S316 =>
 St.wr S316 (Bk.new (St.next S)) 0 [(SV.sl y315)] fun S317 =>
 F47_q18 D J S p2 p3 l29 x30 x31 S317 K)
 (K ((AV.one (V1.s (SV.bool Bool.true)))) S)
noncomputable def F47_15 (D J : Disp) (p2 : PV) (p3 : PV) (l29 : LV) (x30 : Int) (x31 : Int) (S : St) (K : AV → St → Prop) : Prop :=
 letK (α := Bool) ((ilt x31 x30)) fun c300 =>
 F47_q19 D J S p2 p3 l29 x30 x31 c300 K
noncomputable def X47_15 : X := (.op (.br (.op (.op (.jmp 19 [2, 3, 29, 30, 31, 36, 37, 38]))) (.op .ret)))
theorem F47_15_eq (D J : Disp) (p2 : PV) (p3 : PV) (l29 : LV) (x30 : Int) (x31 : Int) (S : St) (K : AV → St → Prop) : F47_15 D J p2 p3 l29 x30 x31 S K = execK IrP IrG Go.Proofs.Try.f47 (typed IrP D) J plans47 X47_15 (T47 15).1 (envOf (T47 15).2 [(AV.one (V1.s (SV.ptr p2))), (AV.one (V1.s (SV.ptr p3))), (AV.one (V1.s (SV.sl l29))), (AV.one (V1.s (SV.int IntKind.i64 x30))), (AV.one (V1.s (SV.int IntKind.i64 x31)))]) S K := by kernel_rfl
noncomputable def F47_q20 (D J : Disp) (p2 : PV) (p3 : PV) (l29 : LV) (x30 : Int) (x31 : Int) (l36 : LV) (x37 : Int) (x38 : Int) (S528 : St) (y531 : Bool) (K : AV → St → Prop) : Prop :=
 letK (α := Bool) ((Bool.not y531)) fun c532 =>
 ifK c532
 (K ((AV.one (V1.s (SV.bool Bool.false)))) S528)
 (letK (α := Int) ((iwrap IntKind.i64 (x38 + (1 : Int)))) fun x533 =>
 J 19 [(AV.one (V1.s (SV.ptr p2))), (AV.one (V1.s (SV.ptr p3))), (AV.one (V1.s (SV.sl l29))), (AV.one (V1.s (SV.int IntKind.i64 x30))), (AV.one (V1.s (SV.int IntKind.i64 x31))), (AV.one (V1.s (SV.sl l36))), (AV.one (V1.s (SV.int IntKind.i64 x37))), (AV.one (V1.s (SV.int IntKind.i64 x533)))] S528 K)
noncomputable def F47_q21 (D J : Disp) (p2 : PV) (p3 : PV) (l29 : LV) (x30 : Int) (x31 : Int) (l36 : LV) (x37 : Int) (x38 : Int) (S381 : St) (y393 : LV) (y402 : LV) (x408 : Int) (y418 : (List Nat)) (x424 : Int) (x430 : Int) (y439 : LV) (y448 : LV) (y452 : Bool) (x459 : Int) (x465 : Int) (x471 : Int) (x477 : Int) (x483 : Int) (x489 : Int) (x495 : Int) (y499 : Bool) (y508 : LV) (y517 : LV) (y526 : LV) (K : AV → St → Prop) : Prop :=
 D 69 [(AV.one (V1.agg [(SV.sl y393), (SV.sl y402), (SV.int IntKind.i64 x408)])), (AV.one (V1.agg [(SV.str y418), (SV.int IntKind.i64 x424), (SV.int IntKind.i64 x430), (SV.sl y439), (SV.sl y448), (SV.bool y452)])), (AV.one (V1.agg [(SV.int IntKind.i64 x459), (SV.int IntKind.i64 x465), (SV.int IntKind.i64 x471), (SV.int IntKind.i64 x477), (SV.int IntKind.i64 x483), (SV.int IntKind.i64 x489), (SV.int IntKind.i64 x495), (SV.bool y499), (SV.sl y508), (SV.sl y517), (SV.sl y526)]))] S381 fun v527 S528 =>
 scK v527 fun v530 =>
 SV.cB v530 fun y531 =>
 F47_q20 D J p2 p3 l29 x30 x31 l36 x37 x38 S528 y531 K
noncomputable def F47_q22 (D J : Disp) (S : St) (p2 : PV) (p3 : PV) (l29 : LV) (x30 : Int) (x31 : Int) (l36 : LV) (x37 : Int) (x38 : Int) (S381 : St) (y393 : LV) (y402 : LV) (x408 : Int) (y418 : (List Nat)) (x424 : Int) (x430 : Int) (y439 : LV) (y448 : LV) (y452 : Bool) (K : AV → St → Prop) : Prop :=
 St.at S381 (Bk.new (St.next S)) 0 fun y453 =>
 uncK y453 fun v454 y455 =>
 SV.cI IntKind.i64 v454 fun x459 =>
 uncK y455 fun v460 y461 =>
 SV.cI IntKind.i64 v460 fun x465 =>
 uncK y461 fun v466 y467 =>
 SV.cI IntKind.i64 v466 fun x471 =>
 uncK y467 fun v472 y473 =>
 SV.cI IntKind.i64 v472 fun x477 =>
 uncK y473 fun v478 y479 =>
 SV.cI IntKind.i64 v478 fun x483 =>
 uncK y479 fun v484 y485 =>
 SV.cI IntKind.i64 v484 fun x489 =>
 uncK y485 fun v490 y491 =>
 SV.cI IntKind.i64 v490 fun x495 =>
 uncK y491 fun v496 y497 =>
 SV.cB v496 fun y499 =>
 uncK y497 fun v500 y501 =>
 SV.cL v500 fun y508 =>
 uncK y501 fun v509 y510 =>
 SV.cL v509 fun y517 =>
 uncK y510 fun v518 y519 =>
 SV.cL v518 fun y526 =>
 F47_q21 D J p2 p3 l29 x30 x31 l36 x37 x38 S381 y393 y402 x408 y418 x424 x430 y439 y448 y452 x459 x465 x471 x477 x483 x489 x495 y499 y508 y517 y526 K
noncomputable def F47_q23 (D J : Disp) (S : St) (p2 : PV) (p3 : PV) (l29 : LV) (x30 : Int) (x31 : Int) (l36 : LV) (x37 : Int) (x38 : Int) (S381 : St) (y393 : LV) (y402 : LV) (x408 : Int) (K : AV → St → Prop) : Prop :=
 PV.cs p3 fun b409 n410 =>
 St.at S381 b409 n410 fun y411 =>
 uncK y411 fun v412 y413 =>
 SV.cS v412 fun y418 =>
 uncK y413 fun v419 y420 =>
 SV.cI IntKind.i64 v419 fun x424 =>
 uncK y420 fun v425 y426 =>
 SV.cI IntKind.i64 v425 fun x430 =>
 uncK y426 fun v431 y432 =>
 SV.cL v431 fun y439 =>
 uncK y432 fun v440 y441 =>
 SV.cL v440 fun y448 =>
 uncK y441 fun v449 y450 =>
 SV.cB v449 fun y452 =>
 F47_q22 D J S p2 p3 l29 x30 x31 l36 x37 x38 S381 y393 y402 x408 y418 x424 x430 y439 y448 y452 K
noncomputable def F47_q24 (D J : Disp) (S : St) (p2 : PV) (p3 : PV) (l29 : LV) (x30 : Int) (x31 : Int) (l36 : LV) (x37 : Int) (x38 : Int) (x312 : Int) (x318 : Int) (x324 : Int) (x330 : Int) (x336 : Int) (x342 : Int) (x348 : Int) (y352 : Bool) (y361 : LV) (y370 : LV) (y379 : LV) (S380 : St) (K : AV → St → Prop) : Prop :=
 St.wr S380 (Bk.new (St.next S)) 0 [(SV.int IntKind.i64 x312), (SV.int IntKind.i64 x318), (SV.int IntKind.i64 x324), (SV.int IntKind.i64 x330), (SV.int IntKind.i64 x336), (SV.int IntKind.i64 x342), (SV.int IntKind.i64 x348), (SV.bool y352), (SV.sl y361), (SV.sl y370), (SV.sl y379)] fun S381 =>
 PV.cs p2 fun b382 n383 =>
 St.at S381 b382 n383 fun y384 =>
 uncK y384 fun v385 y386 =>
 SV.cL v385 fun y393 =>
 uncK y386 fun v394 y395 =>
 SV.cL v394 fun y402 =>
 uncK y395 fun v403 y404 =>
 SV.cI IntKind.i64 v403 fun x408 =>
 F47_q23 D J S p2 p3 l29 x30 x31 l36 x37 x38 S381 y393 y402 x408 K
noncomputable def F47_q25 (D J : Disp) (S : St) (p2 : PV) (p3 : PV) (l29 : LV) (x30 : Int) (x31 : Int) (l36 : LV) (x37 : Int) (x38 : Int) (x312 : Int) (x318 : Int) (x324 : Int) (x330 : Int) (x336 : Int) (x342 : Int) (x348 : Int) (y352 : Bool) (y361 : LV) (y370 : LV) (y379 : LV) (K : AV → St → Prop) : Prop :=
 letK (α := St) ((St.add S (AO.cells [(SV.int IntKind.i64 (0 : Int)), (SV.int IntKind.i64 (0 : Int)), (SV.int IntKind.i64 (0 : Int)), (SV.int IntKind.i64 (0 : Int)), (SV.int IntKind.i64 (0 : Int)), (SV.int IntKind.i64 (0 : Int)), (SV.int IntKind.i64 (0 : Int)), (SV.bool Bool.false), (SV.sl LV.nil), (SV.sl LV.nil), (SV.sl LV.nil)] (Op2.ty 27)))) fun S380 =>
 F47_q24 D J S p2 p3 l29 x30 x31 l36 x37 x38 x312 x318 x324 x330 x336 x342 x348 y352 y361 y370 y379 S380 K
noncomputable def F47_q26 (D J : Disp) (S : St) (p2 : PV) (p3 : PV) (l29 : LV) (x30 : Int) (x31 : Int) (l36 : LV) (x37 : Int) (x38 : Int) (b301 : Bk) (n305 : Nat) (K : AV → St → Prop) : Prop :=
 St.at S b301 n305 fun y306 =>
 uncK y306 fun v307 y308 =>
 SV.cI IntKind.i64 v307 fun x312 =>
 uncK y308 fun v313 y314 =>
 SV.cI IntKind.i64 v313 fun x318 =>
 uncK y314 fun v319 y320 =>
 SV.cI IntKind.i64 v319 fun x324 =>
 uncK y320 fun v325 y326 =>
 SV.cI IntKind.i64 v325 fun x330 =>
 uncK y326 fun v331 y332 =>
 SV.cI IntKind.i64 v331 fun x336 =>
 uncK y332 fun v337 y338 =>
 SV.cI IntKind.i64 v337 fun x342 =>
 uncK y338 fun v343 y344 =>
 SV.cI IntKind.i64 v343 fun x348 =>
 uncK y344 fun v349 y350 =>
 SV.cB v349 fun y352 =>
 uncK y350 fun v353 y354 =>
 SV.cL v353 fun y361 =>
 uncK y354 fun v362 y363 =>
 SV.cL v362 fun y370 =>
 uncK y363 fun v371 y372 =>
 SV.cL v371 fun y379 =>
 F47_q25 D J S p2 p3 l29 x30 x31 l36 x37 x38 x312 x318 x324 x330 x336 x342 x348 y352 y361 y370 y379 K
noncomputable def F47_q27 (D J : Disp) (S : St) (p2 : PV) (p3 : PV) (l29 : LV) (x30 : Int) (x31 : Int) (l36 : LV) (x37 : Int) (x38 : Int) (c300 : Bool) (K : AV → St → Prop) : Prop :=
 ifK c300
 (LV.cs l36 fun b301 n302 n303 y304 =>
 req (Bool.and (ile (0 : Int) x38) (ilt x38 (Int.ofNat n303))) <|
 letK (α := Nat) ((n302 + ((Int.toNat x38) * 11))) fun n305 =>
 F47_q26 D J S p2 p3 l29 x30 x31 l36 x37 x38 b301 n305 K)
 (letK (α := Int) ((iwrap IntKind.i64 (x31 + (1 : Int)))) fun x673 =>
 J 15 [(AV.one (V1.s (SV.ptr p2))), (AV.one (V1.s (SV.ptr p3))), (AV.one (V1.s (SV.sl l29))), (AV.one (V1.s (SV.int IntKind.i64 x30))), (AV.one (V1.s (SV.int IntKind.i64 x673)))] S K)
noncomputable def F47_19 (D J : Disp) (p2 : PV) (p3 : PV) (l29 : LV) (x30 : Int) (x31 : Int) (l36 : LV) (x37 : Int) (x38 : Int) (S : St) (K : AV → St → Prop) : Prop :=
 letK (α := Bool) ((ilt x38 x37)) fun c300 =>
 F47_q27 D J S p2 p3 l29 x30 x31 l36 x37 x38 c300 K
noncomputable def X47_19 : X := (.op (.br (.op (.op (.br (.op .ret) (.op (.jmp 19 [2, 3, 29, 30, 31, 36, 37, 38]))))) (.op (.jmp 15 [2, 3, 29, 30, 31]))))
theorem F47_19_eq (D J : Disp) (p2 : PV) (p3 : PV) (l29 : LV) (x30 : Int) (x31 : Int) (l36 : LV) (x37 : Int) (x38 : Int) (S : St) (K : AV → St → Prop) : F47_19 D J p2 p3 l29 x30 x31 l36 x37 x38 S K = execK IrP IrG Go.Proofs.Try.f47 (typed IrP D) J plans47 X47_19 (T47 19).1 (envOf (T47 19).2 [(AV.one (V1.s (SV.ptr p2))), (AV.one (V1.s (SV.ptr p3))), (AV.one (V1.s (SV.sl l29))), (AV.one (V1.s (SV.int IntKind.i64 x30))), (AV.one (V1.s (SV.int IntKind.i64 x31))), (AV.one (V1.s (SV.sl l36))), (AV.one (V1.s (SV.int IntKind.i64 x37))), (AV.one (V1.s (SV.int IntKind.i64 x38)))]) S K := by kernel_rfl
noncomputable abbrev A47_0 (D J : Disp) (vals : List AV) (S : St) (K : AV → St → Prop) : Prop :=
  uncA vals fun a9001 r9002 => avA a9001 fun l9004 => uncK l9004 fun s9006 r9007 => SV.cL s9006 fun l0_0 => uncK r9007 fun s9010 r9011 => SV.cL s9010 fun l0_1 => uncK r9011 fun s9014 r9015 => SV.cI IntKind.i64 s9014 fun x0_2 => endL r9015 <| uncA r9002 fun a9019 r9020 => avA a9019 fun l9022 => uncK l9022 fun s9024 r9025 => SV.cS s9024 fun s1_0 => uncK r9025 fun s9028 r9029 => SV.cI IntKind.i64 s9028 fun x1_1 => uncK r9029 fun s9032 r9033 => SV.cI IntKind.i64 s9032 fun x1_2 => uncK r9033 fun s9036 r9037 => SV.cL s9036 fun l1_3 => uncK r9037 fun s9040 r9041 => SV.cL s9040 fun l1_4 => uncK r9041 fun s9044 r9045 => SV.cB s9044 fun c1_5 => endL r9045 <| endL r9020 <| F47_0 D J l0_0 l0_1 x0_2 s1_0 x1_1 x1_2 l1_3 l1_4 c1_5 S K
theorem A47_0_ok {D J : Disp} (hD : DOK IrP IrG D) (hJ : JOK IrP IrG Go.Proofs.Try.f47 T47 J) {vals : List AV} {S : St} {K : AV → St → Prop} (h0 : A47_0 D J vals S K) : Runs IrP IrG Go.Proofs.Try.f47 (T47 0).1 (envOf (T47 0).2 vals) S K := by
  obtain ⟨a9001, r9002, rfl, h3⟩ := uncA_some h0
  obtain ⟨l9004, rfl, h5⟩ := avA_some h3
  obtain ⟨s9006, r9007, rfl, h8⟩ := uncK_some h5
  obtain ⟨l0_0, rfl, h9⟩ := cL_some h8
  obtain ⟨s9010, r9011, rfl, h12⟩ := uncK_some h9
  obtain ⟨l0_1, rfl, h13⟩ := cL_some h12
  obtain ⟨s9014, r9015, rfl, h16⟩ := uncK_some h13
  obtain ⟨x0_2, rfl, h17⟩ := cI_some h16
  obtain ⟨rfl, h18⟩ := endL_some h17
  obtain ⟨a9019, r9020, rfl, h21⟩ := uncA_some h18
  obtain ⟨l9022, rfl, h23⟩ := avA_some h21
  obtain ⟨s9024, r9025, rfl, h26⟩ := uncK_some h23
  obtain ⟨s1_0, rfl, h27⟩ := cS_some h26
  obtain ⟨s9028, r9029, rfl, h30⟩ := uncK_some h27
  obtain ⟨x1_1, rfl, h31⟩ := cI_some h30
  obtain ⟨s9032, r9033, rfl, h34⟩ := uncK_some h31
  obtain ⟨x1_2, rfl, h35⟩ := cI_some h34
  obtain ⟨s9036, r9037, rfl, h38⟩ := uncK_some h35
  obtain ⟨l1_3, rfl, h39⟩ := cL_some h38
  obtain ⟨s9040, r9041, rfl, h42⟩ := uncK_some h39
  obtain ⟨l1_4, rfl, h43⟩ := cL_some h42
  obtain ⟨s9044, r9045, rfl, h46⟩ := uncK_some h43
  obtain ⟨c1_5, rfl, h47⟩ := cB_some h46
  obtain ⟨rfl, h48⟩ := endL_some h47
  obtain ⟨rfl, h49⟩ := endL_some h48
  have hq := Eq.mp (F47_0_eq D J l0_0 l0_1 x0_2 s1_0 x1_1 x1_2 l1_3 l1_4 c1_5 S K) h49
  exact execK_runs hD.typed Ir_zero Ir_mixed hJ X47_0 (T47 0).1 (envOf (T47 0).2 _) S K (chk_of (by kernel_rfl) (by kernel_rfl)) hq
noncomputable abbrev A47_2 (D J : Disp) (vals : List AV) (S : St) (K : AV → St → Prop) : Prop :=
  uncA vals fun a9001 r9002 => scK a9001 fun s9004 => SV.cP s9004 fun p2 => uncA r9002 fun a9007 r9008 => scK a9007 fun s9010 => SV.cP s9010 fun p3 => uncA r9008 fun a9013 r9014 => scK a9013 fun s9016 => SV.cL s9016 fun l12 => uncA r9014 fun a9019 r9020 => scK a9019 fun s9022 => SV.cI IntKind.i64 s9022 fun x13 => uncA r9020 fun a9025 r9026 => scK a9025 fun s9028 => SV.cI IntKind.i64 s9028 fun x14 => endL r9026 <| F47_2 D J p2 p3 l12 x13 x14 S K
theorem A47_2_ok {D J : Disp} (hD : DOK IrP IrG D) (hJ : JOK IrP IrG Go.Proofs.Try.f47 T47 J) {vals : List AV} {S : St} {K : AV → St → Prop} (h0 : A47_2 D J vals S K) : Runs IrP IrG Go.Proofs.Try.f47 (T47 2).1 (envOf (T47 2).2 vals) S K := by
  obtain ⟨a9001, r9002, rfl, h3⟩ := uncA_some h0
  obtain ⟨s9004, rfl, h5⟩ := scK_some h3
  obtain ⟨p2, rfl, h6⟩ := cP_some h5
  obtain ⟨a9007, r9008, rfl, h9⟩ := uncA_some h6
  obtain ⟨s9010, rfl, h11⟩ := scK_some h9
  obtain ⟨p3, rfl, h12⟩ := cP_some h11
  obtain ⟨a9013, r9014, rfl, h15⟩ := uncA_some h12
  obtain ⟨s9016, rfl, h17⟩ := scK_some h15
  obtain ⟨l12, rfl, h18⟩ := cL_some h17
  obtain ⟨a9019, r9020, rfl, h21⟩ := uncA_some h18
  obtain ⟨s9022, rfl, h23⟩ := scK_some h21
  obtain ⟨x13, rfl, h24⟩ := cI_some h23
  obtain ⟨a9025, r9026, rfl, h27⟩ := uncA_some h24
  obtain ⟨s9028, rfl, h29⟩ := scK_some h27
  obtain ⟨x14, rfl, h30⟩ := cI_some h29
  obtain ⟨rfl, h31⟩ := endL_some h30
  have hq := Eq.mp (F47_2_eq D J p2 p3 l12 x13 x14 S K) h31
  exact execK_runs hD.typed Ir_zero Ir_mixed hJ X47_2 (T47 2).1 (envOf (T47 2).2 _) S K (chk_of (by kernel_rfl) (by kernel_rfl)) hq
noncomputable abbrev A47_6 (D J : Disp) (vals : List AV) (S : St) (K : AV → St → Prop) : Prop :=
  uncA vals fun a9001 r9002 => scK a9001 fun s9004 => SV.cP s9004 fun p2 => uncA r9002 fun a9007 r9008 => scK a9007 fun s9010 => SV.cP s9010 fun p3 => uncA r9008 fun a9013 r9014 => scK a9013 fun s9016 => SV.cL s9016 fun l12 => uncA r9014 fun a9019 r9020 => scK a9019 fun s9022 => SV.cI IntKind.i64 s9022 fun x13 => uncA r9020 fun a9025 r9026 => scK a9025 fun s9028 => SV.cI IntKind.i64 s9028 fun x14 => uncA r9026 fun a9031 r9032 => scK a9031 fun s9034 => SV.cB s9034 fun c23 => endL r9032 <| F47_6 D J p2 p3 l12 x13 x14 c23 S K
theorem A47_6_ok {D J : Disp} (hD : DOK IrP IrG D) (hJ : JOK IrP IrG Go.Proofs.Try.f47 T47 J) {vals : List AV} {S : St} {K : AV → St → Prop} (h0 : A47_6 D J vals S K) : Runs IrP IrG Go.Proofs.Try.f47 (T47 6).1 (envOf (T47 6).2 vals) S K := by
  obtain ⟨a9001, r9002, rfl, h3⟩ := uncA_some h0
  obtain ⟨s9004, rfl, h5⟩ := scK_some h3
  obtain ⟨p2, rfl, h6⟩ := cP_some h5
  obtain ⟨a9007, r9008, rfl, h9⟩ := uncA_some h6
  obtain ⟨s9010, rfl, h11⟩ := scK_some h9
  obtain ⟨p3, rfl, h12⟩ := cP_some h11
  obtain ⟨a9013, r9014, rfl, h15⟩ := uncA_some h12
  obtain ⟨s9016, rfl, h17⟩ := scK_some h15
  obtain ⟨l12, rfl, h18⟩ := cL_some h17
  obtain ⟨a9019, r9020, rfl, h21⟩ := uncA_some h18
  obtain ⟨s9022, rfl, h23⟩ := scK_some h21
  obtain ⟨x13, rfl, h24⟩ := cI_some h23
  obtain ⟨a9025, r9026, rfl, h27⟩ := uncA_some h24
  obtain ⟨s9028, rfl, h29⟩ := scK_some h27
  obtain ⟨x14, rfl, h30⟩ := cI_some h29
  obtain ⟨a9031, r9032, rfl, h33⟩ := uncA_some h30
  obtain ⟨s9034, rfl, h35⟩ := scK_some h33
  obtain ⟨c23, rfl, h36⟩ := cB_some h35
  obtain ⟨rfl, h37⟩ := endL_some h36
  have hq := Eq.mp (F47_6_eq D J p2 p3 l12 x13 x14 c23 S K) h37
  exact execK_runs hD.typed Ir_zero Ir_mixed hJ X47_6 (T47 6).1 (envOf (T47 6).2 _) S K (chk_of (by kernel_rfl) (by kernel_rfl)) hq
noncomputable abbrev A47_15 (D J : Disp) (vals : List AV) (S : St) (K : AV → St → Prop) : Prop :=
  uncA vals fun a9001 r9002 => scK a9001 fun s9004 => SV.cP s9004 fun p2 => uncA r9002 fun a9007 r9008 => scK a9007 fun s9010 => SV.cP s9010 fun p3 => uncA r9008 fun a9013 r9014 => scK a9013 fun s9016 => SV.cL s9016 fun l29 => uncA r9014 fun a9019 r9020 => scK a9019 fun s9022 => SV.cI IntKind.i64 s9022 fun x30 => uncA r9020 fun a9025 r9026 => scK a9025 fun s9028 => SV.cI IntKind.i64 s9028 fun x31 => endL r9026 <| F47_15 D J p2 p3 l29 x30 x31 S K
theorem A47_15_ok {D J : Disp} (hD : DOK IrP IrG D) (hJ : JOK IrP IrG Go.Proofs.Try.f47 T47 J) {vals : List AV} {S : St} {K : AV → St → Prop} (h0 : A47_15 D J vals S K) : Runs IrP IrG Go.Proofs.Try.f47 (T47 15).1 (envOf (T47 15).2 vals) S K := by
  obtain ⟨a9001, r9002, rfl, h3⟩ := uncA_some h0
  obtain ⟨s9004, rfl, h5⟩ := scK_some h3
  obtain ⟨p2, rfl, h6⟩ := cP_some h5
  obtain ⟨a9007, r9008, rfl, h9⟩ := uncA_some h6
  obtain ⟨s9010, rfl, h11⟩ := scK_some h9
  obtain ⟨p3, rfl, h12⟩ := cP_some h11
  obtain ⟨a9013, r9014, rfl, h15⟩ := uncA_some h12
  obtain ⟨s9016, rfl, h17⟩ := scK_some h15
  obtain ⟨l29, rfl, h18⟩ := cL_some h17
  obtain ⟨a9019, r9020, rfl, h21⟩ := uncA_some h18
  obtain ⟨s9022, rfl, h23⟩ := scK_some h21
  obtain ⟨x30, rfl, h24⟩ := cI_some h23
  obtain ⟨a9025, r9026, rfl, h27⟩ := uncA_some h24
  obtain ⟨s9028, rfl, h29⟩ := scK_some h27
  obtain ⟨x31, rfl, h30⟩ := cI_some h29
  obtain ⟨rfl, h31⟩ := endL_some h30
  have hq := Eq.mp (F47_15_eq D J p2 p3 l29 x30 x31 S K) h31
  exact execK_runs hD.typed Ir_zero Ir_mixed hJ X47_15 (T47 15).1 (envOf (T47 15).2 _) S K (chk_of (by kernel_rfl) (by kernel_rfl)) hq
noncomputable abbrev A47_19 (D J : Disp) (vals : List AV) (S : St) (K : AV → St → Prop) : Prop :=
  uncA vals fun a9001 r9002 => scK a9001 fun s9004 => SV.cP s9004 fun p2 => uncA r9002 fun a9007 r9008 => scK a9007 fun s9010 => SV.cP s9010 fun p3 => uncA r9008 fun a9013 r9014 => scK a9013 fun s9016 => SV.cL s9016 fun l29 => uncA r9014 fun a9019 r9020 => scK a9019 fun s9022 => SV.cI IntKind.i64 s9022 fun x30 => uncA r9020 fun a9025 r9026 => scK a9025 fun s9028 => SV.cI IntKind.i64 s9028 fun x31 => uncA r9026 fun a9031 r9032 => scK a9031 fun s9034 => SV.cL s9034 fun l36 => uncA r9032 fun a9037 r9038 => scK a9037 fun s9040 => SV.cI IntKind.i64 s9040 fun x37 => uncA r9038 fun a9043 r9044 => scK a9043 fun s9046 => SV.cI IntKind.i64 s9046 fun x38 => endL r9044 <| F47_19 D J p2 p3 l29 x30 x31 l36 x37 x38 S K
theorem A47_19_ok {D J : Disp} (hD : DOK IrP IrG D) (hJ : JOK IrP IrG Go.Proofs.Try.f47 T47 J) {vals : List AV} {S : St} {K : AV → St → Prop} (h0 : A47_19 D J vals S K) : Runs IrP IrG Go.Proofs.Try.f47 (T47 19).1 (envOf (T47 19).2 vals) S K := by
  obtain ⟨a9001, r9002, rfl, h3⟩ := uncA_some h0
  obtain ⟨s9004, rfl, h5⟩ := scK_some h3
  obtain ⟨p2, rfl, h6⟩ := cP_some h5
  obtain ⟨a9007, r9008, rfl, h9⟩ := uncA_some h6
  obtain ⟨s9010, rfl, h11⟩ := scK_some h9
  obtain ⟨p3, rfl, h12⟩ := cP_some h11
  obtain ⟨a9013, r9014, rfl, h15⟩ := uncA_some h12
  obtain ⟨s9016, rfl, h17⟩ := scK_some h15
  obtain ⟨l29, rfl, h18⟩ := cL_some h17
  obtain ⟨a9019, r9020, rfl, h21⟩ := uncA_some h18
  obtain ⟨s9022, rfl, h23⟩ := scK_some h21
  obtain ⟨x30, rfl, h24⟩ := cI_some h23
  obtain ⟨a9025, r9026, rfl, h27⟩ := uncA_some h24
  obtain ⟨s9028, rfl, h29⟩ := scK_some h27
  obtain ⟨x31, rfl, h30⟩ := cI_some h29
  obtain ⟨a9031, r9032, rfl, h33⟩ := uncA_some h30
  obtain ⟨s9034, rfl, h35⟩ := scK_some h33
  obtain ⟨l36, rfl, h36⟩ := cL_some h35
  obtain ⟨a9037, r9038, rfl, h39⟩ := uncA_some h36
  obtain ⟨s9040, rfl, h41⟩ := scK_some h39
  obtain ⟨x37, rfl, h42⟩ := cI_some h41
  obtain ⟨a9043, r9044, rfl, h45⟩ := uncA_some h42
  obtain ⟨s9046, rfl, h47⟩ := scK_some h45
  obtain ⟨x38, rfl, h48⟩ := cI_some h47
  obtain ⟨rfl, h49⟩ := endL_some h48
  have hq := Eq.mp (F47_19_eq D J p2 p3 l29 x30 x31 l36 x37 x38 S K) h49
  exact execK_runs hD.typed Ir_zero Ir_mixed hJ X47_19 (T47 19).1 (envOf (T47 19).2 _) S K (chk_of (by kernel_rfl) (by kernel_rfl)) hq
noncomputable def J47 (D : Disp) (k : Nat) : Disp := Nat.rec (motive := fun _ => Disp) Disp.no (fun _ ih => Disp.add 0 (A47_0 D ih) <| Disp.add 2 (A47_2 D ih) <| Disp.add 6 (A47_6 D ih) <| Disp.add 15 (A47_15 D ih) <| Disp.add 19 (A47_19 D ih) <| Disp.no) k
theorem J47_ok {D : Disp} (hD : DOK IrP IrG D) : ∀ k, JOK IrP IrG Go.Proofs.Try.f47 T47 (J47 D k)
  | 0 => JOK.no
  | k + 1 => JOK.add (ltB_ok (by kernel_rfl)) (fun vals S K h => A47_0_ok hD (J47_ok hD k) h) <| JOK.add (ltB_ok (by kernel_rfl)) (fun vals S K h => A47_2_ok hD (J47_ok hD k) h) <| JOK.add (ltB_ok (by kernel_rfl)) (fun vals S K h => A47_6_ok hD (J47_ok hD k) h) <| JOK.add (ltB_ok (by kernel_rfl)) (fun vals S K h => A47_15_ok hD (J47_ok hD k) h) <| JOK.add (ltB_ok (by kernel_rfl)) (fun vals S K h => A47_19_ok hD (J47_ok hD k) h) <| JOK.no
theorem E47_ok {D : Disp} (hD : DOK IrP IrG D) (k : Nat) {args : List AV} {S : St} {K : AV → St → Prop} (h : A47_0 D (J47 D k) args S K) : CallE IrP IrG 47 args S K := by
  have hr := A47_0_ok hD (J47_ok hD k) h
  have hl : args.length = 2 := by
    have h0 := h
    obtain ⟨a9001, r9002, rfl, h3⟩ := uncA_some h0
    obtain ⟨l9004, rfl, h5⟩ := avA_some h3
    obtain ⟨s9006, r9007, rfl, h8⟩ := uncK_some h5
    obtain ⟨l0_0, rfl, h9⟩ := cL_some h8
    obtain ⟨s9010, r9011, rfl, h12⟩ := uncK_some h9
    obtain ⟨l0_1, rfl, h13⟩ := cL_some h12
    obtain ⟨s9014, r9015, rfl, h16⟩ := uncK_some h13
    obtain ⟨x0_2, rfl, h17⟩ := cI_some h16
    obtain ⟨rfl, h18⟩ := endL_some h17
    obtain ⟨a9019, r9020, rfl, h21⟩ := uncA_some h18
    obtain ⟨l9022, rfl, h23⟩ := avA_some h21
    obtain ⟨s9024, r9025, rfl, h26⟩ := uncK_some h23
    obtain ⟨s1_0, rfl, h27⟩ := cS_some h26
    obtain ⟨s9028, r9029, rfl, h30⟩ := uncK_some h27
    obtain ⟨x1_1, rfl, h31⟩ := cI_some h30
    obtain ⟨s9032, r9033, rfl, h34⟩ := uncK_some h31
    obtain ⟨x1_2, rfl, h35⟩ := cI_some h34
    obtain ⟨s9036, r9037, rfl, h38⟩ := uncK_some h35
    obtain ⟨l1_3, rfl, h39⟩ := cL_some h38
    obtain ⟨s9040, r9041, rfl, h42⟩ := uncK_some h39
    obtain ⟨l1_4, rfl, h43⟩ := cL_some h42
    obtain ⟨s9044, r9045, rfl, h46⟩ := uncK_some h43
    obtain ⟨c1_5, rfl, h47⟩ := cB_some h46
    obtain ⟨rfl, h48⟩ := endL_some h47
    obtain ⟨rfl, h49⟩ := endL_some h48
    rfl
  refine callOK_of (fn := Go.Proofs.Try.f47) (c := (match Go.Proofs.Try.f47.body with | some c => c | none => .skip)) (by kernel_rfl) (by kernel_rfl) (by kernel_rfl) (by rw [hl]; kernel_rfl) (by kernel_rfl) ?_
  rw [hl]
  exact hr
noncomputable def plans48 (i : Nat) : Plan := []
noncomputable def T48 (p : Nat) : List Item × List Nat := bif Nat.beq p 0 then ([.code (match Go.Proofs.Try.f48.body with | some c => c | none => .skip)], [0]) else
  ([], [])
noncomputable def F48_0 (D J : Disp) (l0 : LV) (S : St) (K : AV → St → Prop) : Prop :=
 optK (eqA IrP 1 24 (V1.s (SV.sl l0)) (V1.s (SV.sl LV.nil))) fun y300 =>
 ifK y300
 (K ((AV.one (V1.s (SV.sl LV.nil)))) S)
 (letK (α := (Sum Nat Nat)) ((Sum.inl 0)) fun d301 =>
 letK (α := St) ((St.add S (AO.cells [] Op2.sh))) fun S302 =>
 St.src S302 1 l0 fun y303 n304 =>
 St.app S302 3 1 8 (LV.mk (Bk.new (St.next S)) 0 0 d301) y303 n304 fun y305 S306 =>
 K ((AV.one (V1.s (SV.sl y305)))) S306)
noncomputable def X48_0 : X := (.op (.op (.br (.op .ret) (.op .ret))))
theorem F48_0_eq (D J : Disp) (l0 : LV) (S : St) (K : AV → St → Prop) : F48_0 D J l0 S K = execK IrP IrG Go.Proofs.Try.f48 (typed IrP D) J plans48 X48_0 (T48 0).1 (envOf (T48 0).2 [(AV.one (V1.s (SV.sl l0)))]) S K := by kernel_rfl
noncomputable abbrev A48_0 (D J : Disp) (vals : List AV) (S : St) (K : AV → St → Prop) : Prop :=
  uncA vals fun a9001 r9002 => scK a9001 fun s9004 => SV.cL s9004 fun l0 => endL r9002 <| F48_0 D J l0 S K
theorem A48_0_ok {D J : Disp} (hD : DOK IrP IrG D) (hJ : JOK IrP IrG Go.Proofs.Try.f48 T48 J) {vals : List AV} {S : St} {K : AV → St → Prop} (h0 : A48_0 D J vals S K) : Runs IrP IrG Go.Proofs.Try.f48 (T48 0).1 (envOf (T48 0).2 vals) S K := by
  obtain ⟨a9001, r9002, rfl, h3⟩ := uncA_some h0
  obtain ⟨s9004, rfl, h5⟩ := scK_some h3
  obtain ⟨l0, rfl, h6⟩ := cL_some h5
  obtain ⟨rfl, h7⟩ := endL_some h6
  have hq := Eq.mp (F48_0_eq D J l0 S K) h7
  exact execK_runs hD.typed Ir_zero Ir_mixed hJ X48_0 (T48 0).1 (envOf (T48 0).2 _) S K (chk_of (by kernel_rfl) (by kernel_rfl)) hq
noncomputable def J48 (D : Disp) (k : Nat) : Disp := Nat.rec (motive := fun _ => Disp) Disp.no (fun _ ih => Disp.add 0 (A48_0 D ih) <| Disp.no) k
theorem J48_ok {D : Disp} (hD : DOK IrP IrG D) : ∀ k, JOK IrP IrG Go.Proofs.Try.f48 T48 (J48 D k)
  | 0 => JOK.no
  | k + 1 => JOK.add (ltB_ok (by kernel_rfl)) (fun vals S K h => A48_0_ok hD (J48_ok hD k) h) <| JOK.no
theorem E48_ok {D : Disp} (hD : DOK IrP IrG D) (k : Nat) {args : List AV} {S : St} {K : AV → St → Prop} (h : A48_0 D (J48 D k) args S K) : CallE IrP IrG 48 args S K := by
  have hr := A48_0_ok hD (J48_ok hD k) h
  have hl : args.length = 1 := by
    have h0 := h
    obtain ⟨a9001, r9002, rfl, h3⟩ := uncA_some h0
    obtain ⟨s9004, rfl, h5⟩ := scK_some h3
    obtain ⟨l0, rfl, h6⟩ := cL_some h5
    obtain ⟨rfl, h7⟩ := endL_some h6
    rfl
  refine callOK_of (fn := Go.Proofs.Try.f48) (c := (match Go.Proofs.Try.f48.body with | some c => c | none => .skip)) (by kernel_rfl) (by kernel_rfl) (by kernel_rfl) (by rw [hl]; kernel_rfl) (by kernel_rfl) ?_
  rw [hl]
  exact hr
noncomputable def plans49 (i : Nat) : Plan := if Nat.beq i 5 then [(0, []), (1, [0]), (2, []), (3, [2]), (4, [3, 2]), (5, [1, 4, 3, 0, 2]), (6, [0, 1, 2, 3, 4, 5]), (7, [6, 5, 0, 1, 2, 3, 4])] else []
noncomputable def T49 (p : Nat) : List Item × List Nat := bif Nat.beq p 0 then ([.code (match Go.Proofs.Try.f49.body with | some c => c | none => .skip)], [0]) else
  bif Nat.beq p 3 then (navs [.op, .op, .op] [.code (match Go.Proofs.Try.f49.body with | some c => c | none => .skip)], [2, 3, 8, 9, 10]) else
  ([], [])
noncomputable def F49_q8 (D J : Disp) (S : St) (S300 : St) (S301 : St) (S302 : St) (K : AV → St → Prop) : Prop :=
 St.wr S302 (Bk.new (St.next S301)) 0 [(SV.sl LV.nil)] fun S303 =>
 St.at S303 (Bk.new (St.next S)) 0 fun y304 =>
 uncK y304 fun v305 y306 =>
 SV.cL v305 fun y313 =>
 letK (α := Int) ((Int.ofNat (LV.len y313))) fun x314 =>
 J 3 [(AV.one (V1.s (SV.ptr (PV.mk (Bk.new (St.next S300)) 0)))), (AV.one (V1.s (SV.ptr (PV.mk (Bk.new (St.next S301)) 0)))), (AV.one (V1.s (SV.sl y313))), (AV.one (V1.s (SV.int IntKind.i64 x314))), (AV.one (V1.s (SV.int IntKind.i64 (0 : Int))))] S303 K
noncomputable def F49_0 (D J : Disp) (l0_0 : LV) (S : St) (K : AV → St → Prop) : Prop :=
 letK (α := St) ((St.add S (AO.cells [(SV.sl l0_0)] (Op2.ty 45)))) fun S300 =>
 letK (α := St) ((St.add S300 (AO.cells [(SV.sl LV.nil)] (Op2.ty 45)))) fun S301 =>
 letK (α := St) ((St.add S301 (AO.cells [(SV.sl LV.nil)] (Op2.ty 45)))) fun S302 =>
 F49_q8 D J S S300 S301 S302 K
noncomputable def X49_0 : X := (.op (.op (.op (.jmp 3 [2, 3, 8, 9, 10]))))
theorem F49_0_eq (D J : Disp) (l0_0 : LV) (S : St) (K : AV → St → Prop) : F49_0 D J l0_0 S K = execK IrP IrG Go.Proofs.Try.f49 (typed IrP D) J plans49 X49_0 (T49 0).1 (envOf (T49 0).2 [(AV.one (V1.agg [(SV.sl l0_0)]))]) S K := by kernel_rfl
noncomputable def F49_q9 (D J : Disp) (p2 : PV) (p3 : PV) (l8 : LV) (x9 : Int) (x10 : Int) (y394 : LV) (S470 : St) (x479 : Int) (x485 : Int) (x491 : Int) (x497 : Int) (x503 : Int) (x509 : Int) (x515 : Int) (y519 : Bool) (y528 : LV) (y537 : LV) (y546 : LV) (K : AV → St → Prop) : Prop :=
 letK (α := AO) ((AO.cells [(SV.int IntKind.i64 x479), (SV.int IntKind.i64 x485), (SV.int IntKind.i64 x491), (SV.int IntKind.i64 x497), (SV.int IntKind.i64 x503), (SV.int IntKind.i64 x509), (SV.int IntKind.i64 x515), (SV.bool y519), (SV.sl y528), (SV.sl y537), (SV.sl y546)] Op2.sh)) fun o557 =>
 letK (α := (Sum Nat Nat)) ((Sum.inl 1)) fun d558 =>
 letK (α := St) ((St.add S470 o557)) fun S559 =>
 St.src S559 11 (LV.mk (Bk.new (St.next S470)) 0 1 d558) fun y560 n561 =>
 St.app S559 27 11 136 y394 y560 n561 fun y562 S563 =>
 PV.cs p3 fun b564 n565 =>
 letK (α := Nat) ((n565 + 0)) fun n566 =>
 St.wr S563 b564 n566 [(SV.sl y562)] fun S567 =>
 letK (α := Int) ((iwrap IntKind.i64 (x10 + (1 : Int)))) fun x568 =>
 J 3 [(AV.one (V1.s (SV.ptr p2))), (AV.one (V1.s (SV.ptr p3))), (AV.one (V1.s (SV.sl l8))), (AV.one (V1.s (SV.int IntKind.i64 x9))), (AV.one (V1.s (SV.int IntKind.i64 x568)))] S567 K
noncomputable def F49_q10 (D J : Disp) (p2 : PV) (p3 : PV) (l8 : LV) (x9 : Int) (x10 : Int) (S381 : St) (b382 : Bk) (n384 : Nat) (y394 : LV) (x401 : Int) (x407 : Int) (x413 : Int) (x419 : Int) (x425 : Int) (x431 : Int) (x437 : Int) (y441 : Bool) (y450 : LV) (y459 : LV) (y468 : LV) (K : AV → St → Prop) : Prop :=
 D 70 [(AV.one (V1.agg [(SV.int IntKind.i64 x401), (SV.int IntKind.i64 x407), (SV.int IntKind.i64 x413), (SV.int IntKind.i64 x419), (SV.int IntKind.i64 x425), (SV.int IntKind.i64 x431), (SV.int IntKind.i64 x437), (SV.bool y441), (SV.sl y450), (SV.sl y459), (SV.sl y468)]))] S381 fun v469 S470 =>
 avA v469 fun y473 =>
 req (Nat.beq (List.length y473) 11) <|
 uncK y473 fun v474 y475 =>
 SV.cI IntKind.i64 v474 fun x479 =>
 uncK y475 fun v480 y481 =>
 SV.cI IntKind.i64 v480 fun x485 =>
 uncK y481 fun v486 y487 =>
 SV.cI IntKind.i64 v486 fun x491 =>
 uncK y487 fun v492 y493 =>
 SV.cI IntKind.i64 v492 fun x497 =>
 uncK y493 fun v498 y499 =>
 SV.cI IntKind.i64 v498 fun x503 =>
 uncK y499 fun v504 y505 =>
 SV.cI IntKind.i64 v504 fun x509 =>
 uncK y505 fun v510 y511 =>
 SV.cI IntKind.i64 v510 fun x515 =>
 uncK y511 fun v516 y517 =>
 SV.cB v516 fun y519 =>
 uncK y517 fun v520 y521 =>
 SV.cL v520 fun y528 =>
 uncK y521 fun v529 y530 =>
 SV.cL v529 fun y537 =>
 uncK y530 fun v538 y539 =>
 SV.cL v538 fun y546 =>
 St.at S470 b382 n384 fun y547 =>
 uncK y547 fun v548 y549 =>
 SV.cL v548 fun y556 =>
 req (sameAV (AV.one (V1.s (SV.sl y556))) (AV.one (V1.s (SV.sl y394)))) <|
 F49_q9 D J p2 p3 l8 x9 x10 y394 S470 x479 x485 x491 x497 x503 x509 x515 y519 y528 y537 y546 K
noncomputable def F49_q11 (D J : Disp) (S : St) (p2 : PV) (p3 : PV) (l8 : LV) (x9 : Int) (x10 : Int) (S381 : St) (b382 : Bk) (n384 : Nat) (y394 : LV) (K : AV → St → Prop) : Prop :=
 St.at S381 (Bk.new (St.next S)) 0 fun y395 =>
 uncK y395 fun v396 y397 =>
 SV.cI IntKind.i64 v396 fun x401 =>
 uncK y397 fun v402 y403 =>
 SV.cI IntKind.i64 v402 fun x407 =>
 uncK y403 fun v408 y409 =>
 SV.cI IntKind.i64 v408 fun x413 =>
 uncK y409 fun v414 y415 =>
 SV.cI IntKind.i64 v414 fun x419 =>
 uncK y415 fun v420 y421 =>
 SV.cI IntKind.i64 v420 fun x425 =>
 uncK y421 fun v426 y427 =>
 SV.cI IntKind.i64 v426 fun x431 =>
 uncK y427 fun v432 y433 =>
 SV.cI IntKind.i64 v432 fun x437 =>
 uncK y433 fun v438 y439 =>
 SV.cB v438 fun y441 =>
 uncK y439 fun v442 y443 =>
 SV.cL v442 fun y450 =>
 uncK y443 fun v451 y452 =>
 SV.cL v451 fun y459 =>
 uncK y452 fun v460 y461 =>
 SV.cL v460 fun y468 =>
 F49_q10 D J p2 p3 l8 x9 x10 S381 b382 n384 y394 x401 x407 x413 x419 x425 x431 x437 y441 y450 y459 y468 K
noncomputable def F49_q12 (D J : Disp) (S : St) (p2 : PV) (p3 : PV) (l8 : LV) (x9 : Int) (x10 : Int) (x312 : Int) (x318 : Int) (x324 : Int) (x330 : Int) (x336 : Int) (x342 : Int) (x348 : Int) (y352 : Bool) (y361 : LV) (y370 : LV) (y379 : LV) (S380 : St) (K : AV → St → Prop) : Prop :=
 St.wr S380 (Bk.new (St.next S)) 0 [(SV.int IntKind.i64 x312), (SV.int IntKind.i64 x318), (SV.int IntKind.i64 x324), (SV.int IntKind.i64 x330), (SV.int IntKind.i64 x336), (SV.int IntKind.i64 x342), (SV.int IntKind.i64 x348), (SV.bool y352), (SV.sl y361), (SV.sl y370), (SV.sl y379)] fun S381 =>
 PV.cs p3 fun b382 n383 =>
 letK (α := Nat) ((n383 + 0)) fun n384 =>
 St.at S381 b382 n384 fun y385 =>
 uncK y385 fun v386 y387 =>
 SV.cL v386 fun y394 =>
 F49_q11 D J S p2 p3 l8 x9 x10 S381 b382 n384 y394 K
noncomputable def F49_q13 (D J : Disp) (S : St) (p2 : PV) (p3 : PV) (l8 : LV) (x9 : Int) (x10 : Int) (x312 : Int) (x318 : Int) (x324 : Int) (x330 : Int) (x336 : Int) (x342 : Int) (x348 : Int) (y352 : Bool) (y361 : LV) (y370 : LV) (y379 : LV) (K : AV → St → Prop) : Prop :=
 letK (α := St) ((St.add S (AO.cells [(SV.int IntKind.i64 (0 : Int)), (SV.int IntKind.i64 (0 : Int)), (SV.int IntKind.i64 (0 : Int)), (SV.int IntKind.i64 (0 : Int)), (SV.int IntKind.i64 (0 : Int)), (SV.int IntKind.i64 (0 : Int)), (SV.int IntKind.i64 (0 : Int)), (SV.bool Bool.false), (SV.sl LV.nil), (SV.sl LV.nil), (SV.sl LV.nil)] (Op2.ty 27)))) fun S380 =>
 F49_q12 D J S p2 p3 l8 x9 x10 x312 x318 x324 x330 x336 x342 x348 y352 y361 y370 y379 S380 K
noncomputable def F49_q14 (D J : Disp) (S : St) (p2 : PV) (p3 : PV) (l8 : LV) (x9 : Int) (x10 : Int) (b301 : Bk) (n305 : Nat) (K : AV → St → Prop) : Prop :=
 St.at S b301 n305 fun y306 =>
 uncK y306 fun v307 y308 =>
 SV.cI IntKind.i64 v307 fun x312 =>
 uncK y308 fun v313 y314 =>
 SV.cI IntKind.i64 v313 fun x318 =>
 uncK y314 fun v319 y320 =>
 SV.cI IntKind.i64 v319 fun x324 =>
 uncK y320 fun v325 y326 =>
 SV.cI IntKind.i64 v325 fun x330 =>
 uncK y326 fun v331 y332 =>
 SV.cI IntKind.i64 v331 fun x336 =>
 uncK y332 fun v337 y338 =>
 SV.cI IntKind.i64 v337 fun x342 =>
 uncK y338 fun v343 y344 =>
 SV.cI IntKind.i64 v343 fun x348 =>
 uncK y344 fun v349 y350 =>
 SV.cB v349 fun y352 =>
 uncK y350 fun v353 y354 =>
 SV.cL v353 fun y361 =>
 uncK y354 fun v362 y363 =>
 SV.cL v362 fun y370 =>
 uncK y363 fun v371 y372 =>
 SV.cL v371 fun y379 =>
 F49_q13 D J S p2 p3 l8 x9 x10 x312 x318 x324 x330 x336 x342 x348 y352 y361 y370 y379 K
noncomputable def F49_q15 (D J : Disp) (S : St) (p2 : PV) (p3 : PV) (l8 : LV) (x9 : Int) (x10 : Int) (c300 : Bool) (K : AV → St → Prop) : Prop :=
 ifK c300
 (LV.cs l8 fun b301 n302 n303 y304 =>
 req (Bool.and (ile (0 : Int) x10) (ilt x10 (Int.ofNat n303))) <|
 letK (α := Nat) ((n302 + ((Int.toNat x10) * 11))) fun n305 =>
 F49_q14 D J S p2 p3 l8 x9 x10 b301 n305 K)
 (PV.cs p3 fun b718 n719 =>
 St.at S b718 n719 fun y720 =>
 uncK y720 fun v721 y722 =>
 SV.cL v721 fun y729 =>
 PV.cs p2 fun b730 n731 =>
 St.wr S b730 n731 [(SV.sl y729)] fun S732 =>
 PV.cs p2 fun b733 n734 =>
 St.at S732 b733 n734 fun y735 =>
 uncK y735 fun v736 y737 =>
 SV.cL v736 fun y744 =>
 K ((AV.one (V1.agg [(SV.sl y744)]))) S732)
noncomputable def F49_3 (D J : Disp) (p2 : PV) (p3 : PV) (l8 : LV) (x9 : Int) (x10 : Int) (S : St) (K : AV → St → Prop) : Prop :=
 letK (α := Bool) ((ilt x10 x9)) fun c300 =>
 F49_q15 D J S p2 p3 l8 x9 x10 c300 K
noncomputable def X49_3 : X := (.op (.br (.op (.op (.op (.jmp 3 [2, 3, 8, 9, 10])))) (.op .ret)))
theorem F49_3_eq (D J : Disp) (p2 : PV) (p3 : PV) (l8 : LV) (x9 : Int) (x10 : Int) (S : St) (K : AV → St → Prop) : F49_3 D J p2 p3 l8 x9 x10 S K = execK IrP IrG Go.Proofs.Try.f49 (typed IrP D) J plans49 X49_3 (T49 3).1 (envOf (T49 3).2 [(AV.one (V1.s (SV.ptr p2))), (AV.one (V1.s (SV.ptr p3))), (AV.one (V1.s (SV.sl l8))), (AV.one (V1.s (SV.int IntKind.i64 x9))), (AV.one (V1.s (SV.int IntKind.i64 x10)))]) S K := by kernel_rfl
noncomputable abbrev A49_0 (D J : Disp) (vals : List AV) (S : St) (K : AV → St → Prop) : Prop :=
  uncA vals fun a9001 r9002 => avA a9001 fun l9004 => uncK l9004 fun s9006 r9007 => SV.cL s9006 fun l0_0 => endL r9007 <| endL r9002 <| F49_0 D J l0_0 S K
theorem A49_0_ok {D J : Disp} (hD : DOK IrP IrG D) (hJ : JOK IrP IrG Go.Proofs.Try.f49 T49 J) {vals : List AV} {S : St} {K : AV → St → Prop} (h0 : A49_0 D J vals S K) : Runs IrP IrG Go.Proofs.Try.f49 (T49 0).1 (envOf (T49 0).2 vals) S K := by
  obtain ⟨a9001, r9002, rfl, h3⟩ := uncA_some h0
  obtain ⟨l9004, rfl, h5⟩ := avA_some h3
  obtain ⟨s9006, r9007, rfl, h8⟩ := uncK_some h5
  obtain ⟨l0_0, rfl, h9⟩ := cL_some h8
  obtain ⟨rfl, h10⟩ := endL_some h9
  obtain ⟨rfl, h11⟩ := endL_some h10
  have hq := Eq.mp (F49_0_eq D J l0_0 S K) h11
  exact execK_runs hD.typed Ir_zero Ir_mixed hJ X49_0 (T49 0).1 (envOf (T49 0).2 _) S K (chk_of (by kernel_rfl) (by kernel_rfl)) hq
noncomputable abbrev A49_3 (D J : Disp) (vals : List AV) (S : St) (K : AV → St → Prop) : Prop :=
  uncA vals fun a9001 r9002 => scK a9001 fun s9004 => SV.cP s9004 fun p2 => uncA r9002 fun a9007 r9008 => scK a9007 fun s9010 => SV.cP s9010 fun p3 => uncA r9008 fun a9013 r9014 => scK a9013 fun s9016 => SV.cL s9016 fun l8 => uncA r9014 fun a9019 r9020 => scK a9019 fun s9022 => SV.cI IntKind.i64 s9022 fun x9 => uncA r9020 fun a9025 r9026 => scK a9025 fun s9028 => SV.cI IntKind.i64 s9028 fun x10 => endL r9026 <| F49_3 D J p2 p3 l8 x9 x10 S K
theorem A49_3_ok {D J : Disp} (hD : DOK IrP IrG D) (hJ : JOK IrP IrG Go.Proofs.Try.f49 T49 J) {vals : List AV} {S : St} {K : AV → St → Prop} (h0 : A49_3 D J vals S K) : Runs IrP IrG Go.Proofs.Try.f49 (T49 3).1 (envOf (T49 3).2 vals) S K := by
  obtain ⟨a9001, r9002, rfl, h3⟩ := uncA_some h0
  obtain ⟨s9004, rfl, h5⟩ := scK_some h3
  obtain ⟨p2, rfl, h6⟩ := cP_some h5
  obtain ⟨a9007, r9008, rfl, h9⟩ := uncA_some h6
  obtain ⟨s9010, rfl, h11⟩ := scK_some h9
  obtain ⟨p3, rfl, h12⟩ := cP_some h11
  obtain ⟨a9013, r9014, rfl, h15⟩ := uncA_some h12
  obtain ⟨s9016, rfl, h17⟩ := scK_some h15
  obtain ⟨l8, rfl, h18⟩ := cL_some h17
  obtain ⟨a9019, r9020, rfl, h21⟩ := uncA_some h18
  obtain ⟨s9022, rfl, h23⟩ := scK_some h21
  obtain ⟨x9, rfl, h24⟩ := cI_some h23
  obtain ⟨a9025, r9026, rfl, h27⟩ := uncA_some h24
  obtain ⟨s9028, rfl, h29⟩ := scK_some h27
  obtain ⟨x10, rfl, h30⟩ := cI_some h29
  obtain ⟨rfl, h31⟩ := endL_some h30
  have hq := Eq.mp (F49_3_eq D J p2 p3 l8 x9 x10 S K) h31
  exact execK_runs hD.typed Ir_zero Ir_mixed hJ X49_3 (T49 3).1 (envOf (T49 3).2 _) S K (chk_of (by kernel_rfl) (by kernel_rfl)) hq
noncomputable def J49 (D : Disp) (k : Nat) : Disp := Nat.rec (motive := fun _ => Disp) Disp.no (fun _ ih => Disp.add 0 (A49_0 D ih) <| Disp.add 3 (A49_3 D ih) <| Disp.no) k
theorem J49_ok {D : Disp} (hD : DOK IrP IrG D) : ∀ k, JOK IrP IrG Go.Proofs.Try.f49 T49 (J49 D k)
  | 0 => JOK.no
  | k + 1 => JOK.add (ltB_ok (by kernel_rfl)) (fun vals S K h => A49_0_ok hD (J49_ok hD k) h) <| JOK.add (ltB_ok (by kernel_rfl)) (fun vals S K h => A49_3_ok hD (J49_ok hD k) h) <| JOK.no
theorem E49_ok {D : Disp} (hD : DOK IrP IrG D) (k : Nat) {args : List AV} {S : St} {K : AV → St → Prop} (h : A49_0 D (J49 D k) args S K) : CallE IrP IrG 49 args S K := by
  have hr := A49_0_ok hD (J49_ok hD k) h
  have hl : args.length = 1 := by
    have h0 := h
    obtain ⟨a9001, r9002, rfl, h3⟩ := uncA_some h0
    obtain ⟨l9004, rfl, h5⟩ := avA_some h3
    obtain ⟨s9006, r9007, rfl, h8⟩ := uncK_some h5
    obtain ⟨l0_0, rfl, h9⟩ := cL_some h8
    obtain ⟨rfl, h10⟩ := endL_some h9
    obtain ⟨rfl, h11⟩ := endL_some h10
    rfl
  refine callOK_of (fn := Go.Proofs.Try.f49) (c := (match Go.Proofs.Try.f49.body with | some c => c | none => .skip)) (by kernel_rfl) (by kernel_rfl) (by kernel_rfl) (by rw [hl]; kernel_rfl) (by kernel_rfl) ?_
  rw [hl]
  exact hr
noncomputable def plans52 (i : Nat) : Plan := if Nat.beq i 6 then [(0, []), (1, []), (2, [0, 1]), (3, [2, 0, 1]), (4, []), (5, []), (6, [4, 5]), (7, [6, 4, 5]), (8, [3, 7, 2, 6, 0, 1, 4, 5])] else []
noncomputable def T52 (p : Nat) : List Item × List Nat := bif Nat.beq p 0 then ([.code (match Go.Proofs.Try.f52.body with | some c => c | none => .skip)], [0, 1]) else
  bif Nat.beq p 6 then (navs [.op, .op, .el, .op] [.code (match Go.Proofs.Try.f52.body with | some c => c | none => .skip)], [0, 1, 12, 13]) else
  ([], [])
noncomputable def X52_0 : X := (.op (.op (.br (.op .ret) (.op (.jmp 6 [0, 1, 12, 13])))))
noncomputable def X52_6 : X := (.op (.br (.op (.op (.br (.op .ret) (.op (.jmp 6 [0, 1, 12, 13]))))) (.op .ret)))
noncomputable def A52_0 (D J : Disp) (vals : List AV) (S : St) (K : AV → St → Prop) : Prop := req (Nat.beq vals.length 2) (execK IrP IrG Go.Proofs.Try.f52 (typed IrP D) J plans52 X52_0 (T52 0).1 (envOf (T52 0).2 vals) S K)
theorem A52_0_ok {D J : Disp} (hD : DOK IrP IrG D) (hJ : JOK IrP IrG Go.Proofs.Try.f52 T52 J) {vals : List AV} {S : St} {K : AV → St → Prop} (h0 : A52_0 D J vals S K) : Runs IrP IrG Go.Proofs.Try.f52 (T52 0).1 (envOf (T52 0).2 vals) S K :=
  execK_runs hD.typed Ir_zero Ir_mixed hJ X52_0 (T52 0).1 (envOf (T52 0).2 vals) S K (chk_of (by kernel_rfl) (by kernel_rfl)) (req_and h0).2
noncomputable def A52_6 (D J : Disp) (vals : List AV) (S : St) (K : AV → St → Prop) : Prop := req (Nat.beq vals.length 4) (execK IrP IrG Go.Proofs.Try.f52 (typed IrP D) J plans52 X52_6 (T52 6).1 (envOf (T52 6).2 vals) S K)
theorem A52_6_ok {D J : Disp} (hD : DOK IrP IrG D) (hJ : JOK IrP IrG Go.Proofs.Try.f52 T52 J) {vals : List AV} {S : St} {K : AV → St → Prop} (h0 : A52_6 D J vals S K) : Runs IrP IrG Go.Proofs.Try.f52 (T52 6).1 (envOf (T52 6).2 vals) S K :=
  execK_runs hD.typed Ir_zero Ir_mixed hJ X52_6 (T52 6).1 (envOf (T52 6).2 vals) S K (chk_of (by kernel_rfl) (by kernel_rfl)) (req_and h0).2
noncomputable def J52 (D : Disp) (k : Nat) : Disp := Nat.rec (motive := fun _ => Disp) Disp.no (fun _ ih => Disp.add 0 (A52_0 D ih) <| Disp.add 6 (A52_6 D ih) <| Disp.no) k
theorem J52_ok {D : Disp} (hD : DOK IrP IrG D) : ∀ k, JOK IrP IrG Go.Proofs.Try.f52 T52 (J52 D k)
  | 0 => JOK.no
  | k + 1 => JOK.add (ltB_ok (by kernel_rfl)) (fun vals S K h => A52_0_ok hD (J52_ok hD k) h) <| JOK.add (ltB_ok (by kernel_rfl)) (fun vals S K h => A52_6_ok hD (J52_ok hD k) h) <| JOK.no
theorem E52_ok {D : Disp} (hD : DOK IrP IrG D) (k : Nat) {args : List AV} {S : St} {K : AV → St → Prop} (h : A52_0 D (J52 D k) args S K) : CallE IrP IrG 52 args S K := by
  have hr := A52_0_ok hD (J52_ok hD k) h
  have hl : args.length = 2 := Nat.eq_of_beq_eq_true (req_and h).1
  refine callOK_of (fn := Go.Proofs.Try.f52) (c := (match Go.Proofs.Try.f52.body with | some c => c | none => .skip)) (by kernel_rfl) (by kernel_rfl) (by kernel_rfl) (by rw [hl]; kernel_rfl) (by kernel_rfl) ?_
  rw [hl]
  exact hr
noncomputable def plans53 (i : Nat) : Plan := []
noncomputable def T53 (p : Nat) : List Item × List Nat := bif Nat.beq p 0 then ([.code (match Go.Proofs.Try.f53.body with | some c => c | none => .skip)], [0, 1, 2]) else
  bif Nat.beq p 6 then (navs [.op, .op, .el, .op] [.code (match Go.Proofs.Try.f53.body with | some c => c | none => .skip)], [1, 2, 15, 16, 17]) else
  ([], [])
noncomputable def X53_0 : X := (.op (.op (.br (.op .ret) (.op (.jmp 6 [1, 2, 15, 16, 17])))))
noncomputable def X53_6 : X := (.op (.br (.op (.op (.op (.br (.op .ret) (.op (.jmp 6 [1, 2, 15, 16, 17])))))) (.op .ret)))
noncomputable def A53_0 (D J : Disp) (vals : List AV) (S : St) (K : AV → St → Prop) : Prop := req (Nat.beq vals.length 3) (execK IrP IrG Go.Proofs.Try.f53 (typed IrP D) J plans53 X53_0 (T53 0).1 (envOf (T53 0).2 vals) S K)
theorem A53_0_ok {D J : Disp} (hD : DOK IrP IrG D) (hJ : JOK IrP IrG Go.Proofs.Try.f53 T53 J) {vals : List AV} {S : St} {K : AV → St → Prop} (h0 : A53_0 D J vals S K) : Runs IrP IrG Go.Proofs.Try.f53 (T53 0).1 (envOf (T53 0).2 vals) S K :=
  execK_runs hD.typed Ir_zero Ir_mixed hJ X53_0 (T53 0).1 (envOf (T53 0).2 vals) S K (chk_of (by kernel_rfl) (by kernel_rfl)) (req_and h0).2
noncomputable def A53_6 (D J : Disp) (vals : List AV) (S : St) (K : AV → St → Prop) : Prop := req (Nat.beq vals.length 5) (execK IrP IrG Go.Proofs.Try.f53 (typed IrP D) J plans53 X53_6 (T53 6).1 (envOf (T53 6).2 vals) S K)
theorem A53_6_ok {D J : Disp} (hD : DOK IrP IrG D) (hJ : JOK IrP IrG Go.Proofs.Try.f53 T53 J) {vals : List AV} {S : St} {K : AV → St → Prop} (h0 : A53_6 D J vals S K) : Runs IrP IrG Go.Proofs.Try.f53 (T53 6).1 (envOf (T53 6).2 vals) S K :=
  execK_runs hD.typed Ir_zero Ir_mixed hJ X53_6 (T53 6).1 (envOf (T53 6).2 vals) S K (chk_of (by kernel_rfl) (by kernel_rfl)) (req_and h0).2
noncomputable def J53 (D : Disp) (k : Nat) : Disp := Nat.rec (motive := fun _ => Disp) Disp.no (fun _ ih => Disp.add 0 (A53_0 D ih) <| Disp.add 6 (A53_6 D ih) <| Disp.no) k
theorem J53_ok {D : Disp} (hD : DOK IrP IrG D) : ∀ k, JOK IrP IrG Go.Proofs.Try.f53 T53 (J53 D k)
  | 0 => JOK.no
  | k + 1 => JOK.add (ltB_ok (by kernel_rfl)) (fun vals S K h => A53_0_ok hD (J53_ok hD k) h) <| JOK.add (ltB_ok (by kernel_rfl)) (fun vals S K h => A53_6_ok hD (J53_ok hD k) h) <| JOK.no
theorem E53_ok {D : Disp} (hD : DOK IrP IrG D) (k : Nat) {args : List AV} {S : St} {K : AV → St → Prop} (h : A53_0 D (J53 D k) args S K) : CallE IrP IrG 53 args S K := by
  have hr := A53_0_ok hD (J53_ok hD k) h
  have hl : args.length = 3 := Nat.eq_of_beq_eq_true (req_and h).1
  refine callOK_of (fn := Go.Proofs.Try.f53) (c := (match Go.Proofs.Try.f53.body with | some c => c | none => .skip)) (by kernel_rfl) (by kernel_rfl) (by kernel_rfl) (by rw [hl]; kernel_rfl) (by kernel_rfl) ?_
  rw [hl]
  exact hr
noncomputable def plans54 (i : Nat) : Plan := []
noncomputable def T54 (p : Nat) : List Item × List Nat := bif Nat.beq p 0 then ([.code (match Go.Proofs.Try.f54.body with | some c => c | none => .skip)], [0, 1]) else
  ([], [])
noncomputable def X54_0 : X := (.op (.op .ret))
noncomputable def A54_0 (D J : Disp) (vals : List AV) (S : St) (K : AV → St → Prop) : Prop := req (Nat.beq vals.length 2) (execK IrP IrG Go.Proofs.Try.f54 (typed IrP D) J plans54 X54_0 (T54 0).1 (envOf (T54 0).2 vals) S K)
theorem A54_0_ok {D J : Disp} (hD : DOK IrP IrG D) (hJ : JOK IrP IrG Go.Proofs.Try.f54 T54 J) {vals : List AV} {S : St} {K : AV → St → Prop} (h0 : A54_0 D J vals S K) : Runs IrP IrG Go.Proofs.Try.f54 (T54 0).1 (envOf (T54 0).2 vals) S K :=
  execK_runs hD.typed Ir_zero Ir_mixed hJ X54_0 (T54 0).1 (envOf (T54 0).2 vals) S K (chk_of (by kernel_rfl) (by kernel_rfl)) (req_and h0).2
noncomputable def J54 (D : Disp) (k : Nat) : Disp := Nat.rec (motive := fun _ => Disp) Disp.no (fun _ ih => Disp.add 0 (A54_0 D ih) <| Disp.no) k
theorem J54_ok {D : Disp} (hD : DOK IrP IrG D) : ∀ k, JOK IrP IrG Go.Proofs.Try.f54 T54 (J54 D k)
  | 0 => JOK.no
  | k + 1 => JOK.add (ltB_ok (by kernel_rfl)) (fun vals S K h => A54_0_ok hD (J54_ok hD k) h) <| JOK.no
theorem E54_ok {D : Disp} (hD : DOK IrP IrG D) (k : Nat) {args : List AV} {S : St} {K : AV → St → Prop} (h : A54_0 D (J54 D k) args S K) : CallE IrP IrG 54 args S K := by
  have hr := A54_0_ok hD (J54_ok hD k) h
  have hl : args.length = 2 := Nat.eq_of_beq_eq_true (req_and h).1
  refine callOK_of (fn := Go.Proofs.Try.f54) (c := (match Go.Proofs.Try.f54.body with | some c => c | none => .skip)) (by kernel_rfl) (by kernel_rfl) (by kernel_rfl) (by rw [hl]; kernel_rfl) (by kernel_rfl) ?_
  rw [hl]
  exact hr
noncomputable def plans55 (i : Nat) : Plan := []
noncomputable def T55 (p : Nat) : List Item × List Nat := bif Nat.beq p 0 then ([.code (match Go.Proofs.Try.f55.body with | some c => c | none => .skip)], [0, 1, 2]) else
  bif Nat.beq p 6 then (navs [.op, .op, .el, .op] [.code (match Go.Proofs.Try.f55.body with | some c => c | none => .skip)], [1, 2, 15, 16, 17]) else
  ([], [])
noncomputable def X55_0 : X := (.op (.op (.br (.op .ret) (.op (.jmp 6 [1, 2, 15, 16, 17])))))
noncomputable def X55_6 : X := (.op (.br (.op (.op (.op (.br (.op .ret) (.op (.jmp 6 [1, 2, 15, 16, 17])))))) (.op .ret)))
noncomputable def A55_0 (D J : Disp) (vals : List AV) (S : St) (K : AV → St → Prop) : Prop := req (Nat.beq vals.length 3) (execK IrP IrG Go.Proofs.Try.f55 (typed IrP D) J plans55 X55_0 (T55 0).1 (envOf (T55 0).2 vals) S K)
theorem A55_0_ok {D J : Disp} (hD : DOK IrP IrG D) (hJ : JOK IrP IrG Go.Proofs.Try.f55 T55 J) {vals : List AV} {S : St} {K : AV → St → Prop} (h0 : A55_0 D J vals S K) : Runs IrP IrG Go.Proofs.Try.f55 (T55 0).1 (envOf (T55 0).2 vals) S K :=
  execK_runs hD.typed Ir_zero Ir_mixed hJ X55_0 (T55 0).1 (envOf (T55 0).2 vals) S K (chk_of (by kernel_rfl) (by kernel_rfl)) (req_and h0).2
noncomputable def A55_6 (D J : Disp) (vals : List AV) (S : St) (K : AV → St → Prop) : Prop := req (Nat.beq vals.length 5) (execK IrP IrG Go.Proofs.Try.f55 (typed IrP D) J plans55 X55_6 (T55 6).1 (envOf (T55 6).2 vals) S K)
theorem A55_6_ok {D J : Disp} (hD : DOK IrP IrG D) (hJ : JOK IrP IrG Go.Proofs.Try.f55 T55 J) {vals : List AV} {S : St} {K : AV → St → Prop} (h0 : A55_6 D J vals S K) : Runs IrP IrG Go.Proofs.Try.f55 (T55 6).1 (envOf (T55 6).2 vals) S K :=
  execK_runs hD.typed Ir_zero Ir_mixed hJ X55_6 (T55 6).1 (envOf (T55 6).2 vals) S K (chk_of (by kernel_rfl) (by kernel_rfl)) (req_and h0).2
noncomputable def J55 (D : Disp) (k : Nat) : Disp := Nat.rec (motive := fun _ => Disp) Disp.no (fun _ ih => Disp.add 0 (A55_0 D ih) <| Disp.add 6 (A55_6 D ih) <| Disp.no) k
theorem J55_ok {D : Disp} (hD : DOK IrP IrG D) : ∀ k, JOK IrP IrG Go.Proofs.Try.f55 T55 (J55 D k)
  | 0 => JOK.no
  | k + 1 => JOK.add (ltB_ok (by kernel_rfl)) (fun vals S K h => A55_0_ok hD (J55_ok hD k) h) <| JOK.add (ltB_ok (by kernel_rfl)) (fun vals S K h => A55_6_ok hD (J55_ok hD k) h) <| JOK.no
theorem E55_ok {D : Disp} (hD : DOK IrP IrG D) (k : Nat) {args : List AV} {S : St} {K : AV → St → Prop} (h : A55_0 D (J55 D k) args S K) : CallE IrP IrG 55 args S K := by
  have hr := A55_0_ok hD (J55_ok hD k) h
  have hl : args.length = 3 := Nat.eq_of_beq_eq_true (req_and h).1
  refine callOK_of (fn := Go.Proofs.Try.f55) (c := (match Go.Proofs.Try.f55.body with | some c => c | none => .skip)) (by kernel_rfl) (by kernel_rfl) (by kernel_rfl) (by rw [hl]; kernel_rfl) (by kernel_rfl) ?_
  rw [hl]
  exact hr
noncomputable def plans56 (i : Nat) : Plan := []
noncomputable def T56 (p : Nat) : List Item × List Nat := bif Nat.beq p 0 then ([.code (match Go.Proofs.Try.f56.body with | some c => c | none => .skip)], [0, 1]) else
  ([], [])
noncomputable def X56_0 : X := (.op (.op .ret))
noncomputable def A56_0 (D J : Disp) (vals : List AV) (S : St) (K : AV → St → Prop) : Prop := req (Nat.beq vals.length 2) (execK IrP IrG Go.Proofs.Try.f56 (typed IrP D) J plans56 X56_0 (T56 0).1 (envOf (T56 0).2 vals) S K)
theorem A56_0_ok {D J : Disp} (hD : DOK IrP IrG D) (hJ : JOK IrP IrG Go.Proofs.Try.f56 T56 J) {vals : List AV} {S : St} {K : AV → St → Prop} (h0 : A56_0 D J vals S K) : Runs IrP IrG Go.Proofs.Try.f56 (T56 0).1 (envOf (T56 0).2 vals) S K :=
  execK_runs hD.typed Ir_zero Ir_mixed hJ X56_0 (T56 0).1 (envOf (T56 0).2 vals) S K (chk_of (by kernel_rfl) (by kernel_rfl)) (req_and h0).2
noncomputable def J56 (D : Disp) (k : Nat) : Disp := Nat.rec (motive := fun _ => Disp) Disp.no (fun _ ih => Disp.add 0 (A56_0 D ih) <| Disp.no) k
theorem J56_ok {D : Disp} (hD : DOK IrP IrG D) : ∀ k, JOK IrP IrG Go.Proofs.Try.f56 T56 (J56 D k)
  | 0 => JOK.no
  | k + 1 => JOK.add (ltB_ok (by kernel_rfl)) (fun vals S K h => A56_0_ok hD (J56_ok hD k) h) <| JOK.no
theorem E56_ok {D : Disp} (hD : DOK IrP IrG D) (k : Nat) {args : List AV} {S : St} {K : AV → St → Prop} (h : A56_0 D (J56 D k) args S K) : CallE IrP IrG 56 args S K := by
  have hr := A56_0_ok hD (J56_ok hD k) h
  have hl : args.length = 2 := Nat.eq_of_beq_eq_true (req_and h).1
  refine callOK_of (fn := Go.Proofs.Try.f56) (c := (match Go.Proofs.Try.f56.body with | some c => c | none => .skip)) (by kernel_rfl) (by kernel_rfl) (by kernel_rfl) (by rw [hl]; kernel_rfl) (by kernel_rfl) ?_
  rw [hl]
  exact hr
noncomputable def plans58 (i : Nat) : Plan := []
noncomputable def T58 (p : Nat) : List Item × List Nat := bif Nat.beq p 0 then ([.code (match Go.Proofs.Try.f58.body with | some c => c | none => .skip)], [0]) else
  bif Nat.beq p 4 then (navs [.op, .op, .op, .op] [.code (match Go.Proofs.Try.f58.body with | some c => c | none => .skip)], [1, 2, 3, 17, 18]) else
  bif Nat.beq p 11 then (navs [.op, .op, .op, .op, .op, .el, .op, .op] [.code (match Go.Proofs.Try.f58.body with | some c => c | none => .skip)], [1, 2, 3, 5, 27, 28, 29]) else
  bif Nat.beq p 15 then (navs [.op, .op, .op, .op, .op, .el, .op, .op, .op, .th, .op, .op] [.code (match Go.Proofs.Try.f58.body with | some c => c | none => .skip)], [1, 2, 3, 5, 7, 27, 28, 29, 35, 36]) else
  bif Nat.beq p 20 then (navs [.op, .op, .op, .op, .op, .el, .op, .op, .op, .th, .op, .op, .op, .th, .op, .op, .op] [.code (match Go.Proofs.Try.f58.body with | some c => c | none => .skip)], [1, 2, 3, 5, 7, 9, 10, 27, 28, 29, 35, 36]) else
  bif Nat.beq p 24 then (navs [.op, .op, .op, .op, .op, .el, .op, .op, .op, .th, .op, .op, .op, .th, .op, .op, .op, .op, .op, .th, .op] [.code (match Go.Proofs.Try.f58.body with | some c => c | none => .skip)], [1, 2, 3, 5, 7, 9, 10, 11, 27, 28, 29, 35, 36]) else
  bif Nat.beq p 27 then (navs [.op, .op, .op, .op, .op, .el, .op, .op, .op, .th, .op, .op, .op, .th, .op, .op, .op, .op, .op, .th, .op, .op, .th, .op] [.code (match Go.Proofs.Try.f58.body with | some c => c | none => .skip)], [1, 2, 3, 5, 7, 9, 10, 27, 28, 29, 35, 36]) else
  bif Nat.beq p 28 then (navs [.op, .op, .op, .op, .op, .el, .op, .op, .op, .th, .op, .op, .op, .th, .op, .op, .op, .op, .op, .th, .op, .op, .th, .op, .op] [.code (match Go.Proofs.Try.f58.body with | some c => c | none => .skip)], [1, 2, 3, 5, 7, 9, 10, 27, 28, 29, 35, 36, 100]) else
  bif Nat.beq p 30 then (navs [.op, .op, .op, .op, .op, .el, .op, .op, .op, .th, .op, .op, .op, .th, .op, .op, .op, .op, .op, .th, .op, .op, .th, .op, .op, .th, .op] [.code (match Go.Proofs.Try.f58.body with | some c => c | none => .skip)], [1, 2, 3, 5, 7, 9, 10, 27, 28, 29, 35, 36]) else
  bif Nat.beq p 31 then (navs [.op, .op, .op, .op, .op, .el, .op, .op, .op, .th, .op, .op, .op, .th, .op, .op, .op, .op, .op, .th, .op, .op, .th, .op, .op, .th, .op, .op] [.code (match Go.Proofs.Try.f58.body with | some c => c | none => .skip)], [1, 2, 3, 5, 7, 9, 10, 27, 28, 29, 35, 36, 110, 111]) else
  bif Nat.beq p 37 then (navs [.op, .op, .op, .op, .op, .el, .op, .op, .op, .th, .op, .op, .op, .th, .op, .op, .op, .op, .op, .th, .op, .op, .th, .op, .op, .th, .op, .op, .op, .th, .op, .op, .th, .op] [.code (match Go.Proofs.Try.f58.body with | some c => c | none => .skip)], [1, 2, 3, 5, 7, 9, 10, 27, 28, 29, 35, 36, 110, 111]) else
  bif Nat.beq p 41 then (navs [.op, .op, .op, .op, .op, .el, .op, .op, .op, .th, .op, .op, .op, .th, .op, .op, .op, .op, .op, .th, .op, .op, .th, .op, .op, .th, .op, .op, .op, .el, .op, .th, .op] [.code (match Go.Proofs.Try.f58.body with | some c => c | none => .skip)], [1, 2, 3, 5, 7, 27, 28, 29, 35, 36]) else
  ([], [])
noncomputable def F58_q38 (D J : Disp) (S : St) (S300 : St) (S390 : St) (S391 : St) (S392 : St) (K : AV → St → Prop) : Prop :=
 St.wr S392 (Bk.new (St.next S391)) 0 [(SV.map (MV.mk (Bk.new (St.next S390))))] fun S393 =>
 St.at S393 (Bk.new (St.next S)) 1 fun y394 =>
 uncK y394 fun v395 y396 =>
 SV.cI IntKind.i64 v395 fun x400 =>
 J 4 [(AV.one (V1.s (SV.ptr (PV.mk (Bk.new (St.next S)) 0)))), (AV.one (V1.s (SV.ptr (PV.mk (Bk.new (St.next S300)) 0)))), (AV.one (V1.s (SV.ptr (PV.mk (Bk.new (St.next S391)) 0)))), (AV.one (V1.s (SV.int IntKind.i64 x400))), (AV.one (V1.s (SV.int IntKind.i64 (0 : Int))))] S393 K
noncomputable def F58_q39 (D J : Disp) (S : St) (S300 : St) (S301 : St) (y309 : (List Nat)) (x315 : Int) (x321 : Int) (y330 : LV) (y339 : LV) (y343 : Bool) (K : AV → St → Prop) : Prop :=
 D 31 [(AV.one (V1.agg [(SV.str y309), (SV.int IntKind.i64 x315), (SV.int IntKind.i64 x321), (SV.sl y330), (SV.sl y339), (SV.bool y343)]))] S301 fun v344 S345 =>
 avA v344 fun y348 =>
 req (Nat.beq (List.length y348) 6) <|
 uncK y348 fun v349 y350 =>
 SV.cS v349 fun y355 =>
 uncK y350 fun v356 y357 =>
 SV.cI IntKind.i64 v356 fun x361 =>
 uncK y357 fun v362 y363 =>
 SV.cI IntKind.i64 v362 fun x367 =>
 uncK y363 fun v368 y369 =>
 SV.cL v368 fun y376 =>
 uncK y369 fun v377 y378 =>
 SV.cL v377 fun y385 =>
 uncK y378 fun v386 y387 =>
 SV.cB v386 fun y389 =>
 St.wr S345 (Bk.new (St.next S)) 0 [(SV.str y355), (SV.int IntKind.i64 x361), (SV.int IntKind.i64 x367), (SV.sl y376), (SV.sl y385), (SV.bool y389)] fun S390 =>
 letK (α := St) ((St.add S390 (AO.map [] 0))) fun S391 =>
 letK (α := St) ((St.add S391 (AO.cells [(SV.map MV.nil)] (Op2.ty 111)))) fun S392 =>
 F58_q38 D J S S300 S390 S391 S392 K
noncomputable def F58_q40 (D J : Disp) (S : St) (S300 : St) (S301 : St) (K : AV → St → Prop) : Prop :=
 St.at S301 (Bk.new (St.next S)) 0 fun y302 =>
 uncK y302 fun v303 y304 =>
 SV.cS v303 fun y309 =>
 uncK y304 fun v310 y311 =>
 SV.cI IntKind.i64 v310 fun x315 =>
 uncK y311 fun v316 y317 =>
 SV.cI IntKind.i64 v316 fun x321 =>
 uncK y317 fun v322 y323 =>
 SV.cL v322 fun y330 =>
 uncK y323 fun v331 y332 =>
 SV.cL v331 fun y339 =>
 uncK y332 fun v340 y341 =>
 SV.cB v340 fun y343 =>
 F58_q39 D J S S300 S301 y309 x315 x321 y330 y339 y343 K
noncomputable def F58_0 (D J : Disp) (s0_0 : (List Nat)) (x0_1 : Int) (x0_2 : Int) (l0_3 : LV) (l0_4 : LV) (c0_5 : Bool) (S : St) (K : AV → St → Prop) : Prop :=
 letK (α := St) ((St.add S (AO.cells [(SV.str s0_0), (SV.int IntKind.i64 x0_1), (SV.int IntKind.i64 x0_2), (SV.sl l0_3), (SV.sl l0_4), (SV.bool c0_5)] (Op2.ty 42)))) fun S300 =>
 letK (α := St) ((St.add S300 (AO.cells [(SV.str []), (SV.int IntKind.i64 (0 : Int)), (SV.int IntKind.i64 (0 : Int)), (SV.sl LV.nil), (SV.sl LV.nil), (SV.bool Bool.false)] (Op2.ty 42)))) fun S301 =>
 F58_q40 D J S S300 S301 K
noncomputable def X58_0 : X := (.op (.op (.op (.op (.jmp 4 [1, 2, 3, 17, 18])))))
theorem F58_0_eq (D J : Disp) (s0_0 : (List Nat)) (x0_1 : Int) (x0_2 : Int) (l0_3 : LV) (l0_4 : LV) (c0_5 : Bool) (S : St) (K : AV → St → Prop) : F58_0 D J s0_0 x0_1 x0_2 l0_3 l0_4 c0_5 S K = execK IrP IrG Go.Proofs.Try.f58 (typed IrP D) J plans58 X58_0 (T58 0).1 (envOf (T58 0).2 [(AV.one (V1.agg [(SV.str s0_0), (SV.int IntKind.i64 x0_1), (SV.int IntKind.i64 x0_2), (SV.sl l0_3), (SV.sl l0_4), (SV.bool c0_5)]))]) S K := by kernel_rfl
noncomputable def F58_q41 (D J : Disp) (S : St) (p1 : PV) (p2 : PV) (p3 : PV) (x17 : Int) (x18 : Int) (K : AV → St → Prop) : Prop :=
 PV.cs p3 fun b301 n302 =>
 St.at S b301 n302 fun y303 =>
 uncK y303 fun v304 y305 =>
 SV.cM v304 fun y313 =>
 St.mput IrP S 3 y313 (V1.s (SV.int IntKind.i64 x18)) (V1.s (SV.int IntKind.i64 x18)) fun S314 =>
 letK (α := Int) ((iwrap IntKind.i64 (x18 + (1 : Int)))) fun x315 =>
 J 4 [(AV.one (V1.s (SV.ptr p1))), (AV.one (V1.s (SV.ptr p2))), (AV.one (V1.s (SV.ptr p3))), (AV.one (V1.s (SV.int IntKind.i64 x17))), (AV.one (V1.s (SV.int IntKind.i64 x315)))] S314 K
noncomputable def F58_q42 (D J : Disp) (S : St) (p1 : PV) (p2 : PV) (p3 : PV) (b317 : Bk) (n318 : Nat) (K : AV → St → Prop) : Prop :=
 PV.cs p1 fun b319 n320 =>
 letK (α := Nat) ((n320 + 4)) fun n321 =>
 St.at S b319 n321 fun y322 =>
 uncK y322 fun v323 y324 =>
 SV.cL v323 fun y331 =>
 letK (α := Int) ((Int.ofNat (LV.len y331))) fun x332 =>
 J 11 [(AV.one (V1.s (SV.ptr p1))), (AV.one (V1.s (SV.ptr p2))), (AV.one (V1.s (SV.ptr p3))), (AV.one (V1.s (SV.fn (FV.mk (Fn.func 72) [] [(Prod.mk b317 n318)])))), (AV.one (V1.s (SV.sl y331))), (AV.one (V1.s (SV.int IntKind.i64 x332))), (AV.one (V1.s (SV.int IntKind.i64 (0 : Int))))] S K
noncomputable def F58_4 (D J : Disp) (p1 : PV) (p2 : PV) (p3 : PV) (x17 : Int) (x18 : Int) (S : St) (K : AV → St → Prop) : Prop :=
 letK (α := Bool) ((ilt x18 x17)) fun c300 =>
 ifK c300
 (F58_q41 D J S p1 p2 p3 x17 x18 K)
 (PV.cs p3 fun b317 n318 =>
 F58_q42 D J S p1 p2 p3 b317 n318 K)
noncomputable def X58_4 : X := (.op (.br (.op (.op (.op (.jmp 4 [1, 2, 3, 17, 18])))) (.op (.op (.jmp 11 [1, 2, 3, 5, 27, 28, 29])))))
theorem F58_4_eq (D J : Disp) (p1 : PV) (p2 : PV) (p3 : PV) (x17 : Int) (x18 : Int) (S : St) (K : AV → St → Prop) : F58_4 D J p1 p2 p3 x17 x18 S K = execK IrP IrG Go.Proofs.Try.f58 (typed IrP D) J plans58 X58_4 (T58 4).1 (envOf (T58 4).2 [(AV.one (V1.s (SV.ptr p1))), (AV.one (V1.s (SV.ptr p2))), (AV.one (V1.s (SV.ptr p3))), (AV.one (V1.s (SV.int IntKind.i64 x17))), (AV.one (V1.s (SV.int IntKind.i64 x18)))]) S K := by kernel_rfl
noncomputable def F58_q43 (D J : Disp) (S : St) (p1 : PV) (p2 : PV) (p3 : PV) (f5 : FV) (l27 : LV) (x28 : Int) (x29 : Int) (S317 : St) (y327 : LV) (K : AV → St → Prop) : Prop :=
 letK (α := Int) ((Int.ofNat (LV.len y327))) fun x328 =>
 J 15 [(AV.one (V1.s (SV.ptr p1))), (AV.one (V1.s (SV.ptr p2))), (AV.one (V1.s (SV.ptr p3))), (AV.one (V1.s (SV.fn f5))), (AV.one (V1.s (SV.ptr (PV.mk (Bk.new (St.next S)) 0)))), (AV.one (V1.s (SV.sl l27))), (AV.one (V1.s (SV.int IntKind.i64 x28))), (AV.one (V1.s (SV.int IntKind.i64 x29))), (AV.one (V1.s (SV.int IntKind.i64 x328))), (AV.one (V1.s (SV.int IntKind.i64 (0 : Int))))] S317 K
noncomputable def F58_q44 (D J : Disp) (S : St) (p1 : PV) (p2 : PV) (p3 : PV) (f5 : FV) (l27 : LV) (x28 : Int) (x29 : Int) (K : AV → St → Prop) : Prop :=
 LV.cs l27 fun b301 n302 n303 y304 =>
 req (Bool.and (ile (0 : Int) x29) (ilt x29 (Int.ofNat n303))) <|
 letK (α := Nat) ((n302 + ((Int.toNat x29) * 1))) fun n305 =>
 St.at S b301 n305 fun y306 =>
 uncK y306 fun v307 y308 =>
 SV.cL v307 fun y315 =>
 letK (α := St) ((St.add S (AO.cells [(SV.sl LV.nil)] (Op2.ty 45)))) fun S316 =>
 St.wr S316 (Bk.new (St.next S)) 0 [(SV.sl y315)] fun S317 =>
 St.at S317 (Bk.new (St.next S)) 0 fun y318 =>
 uncK y318 fun v319 y320 =>
 SV.cL v319 fun y327 =>
 F58_q43 D J S p1 p2 p3 f5 l27 x28 x29 S317 y327 K
noncomputable def F58_q45 (D J : Disp) (p2 : PV) (S398 : St) (K : AV → St → Prop) : Prop :=
 PV.cs p2 fun b399 n400 =>
 St.at S398 b399 n400 fun y401 =>
 uncK y401 fun v402 y403 =>
 SV.cS v402 fun y408 =>
 uncK y403 fun v409 y410 =>
 SV.cI IntKind.i64 v409 fun x414 =>
 uncK y410 fun v415 y416 =>
 SV.cI IntKind.i64 v415 fun x420 =>
 uncK y416 fun v421 y422 =>
 SV.cL v421 fun y429 =>
 uncK y422 fun v430 y431 =>
 SV.cL v430 fun y438 =>
 uncK y431 fun v439 y440 =>
 SV.cB v439 fun y442 =>
 K ((AV.one (V1.agg [(SV.str y408), (SV.int IntKind.i64 x414), (SV.int IntKind.i64 x420), (SV.sl y429), (SV.sl y438), (SV.bool y442)]))) S398
noncomputable def F58_q46 (D J : Disp) (p1 : PV) (p2 : PV) (S351 : St) (K : AV → St → Prop) : Prop :=
 PV.cs p1 fun b352 n353 =>
 St.at S351 b352 n353 fun y354 =>
 uncK y354 fun v355 y356 =>
 SV.cS v355 fun y361 =>
 uncK y356 fun v362 y363 =>
 SV.cI IntKind.i64 v362 fun x367 =>
 uncK y363 fun v368 y369 =>
 SV.cI IntKind.i64 v368 fun x373 =>
 uncK y369 fun v374 y375 =>
 SV.cL v374 fun y382 =>
 uncK y375 fun v383 y384 =>
 SV.cL v383 fun y391 =>
 uncK y384 fun v392 y393 =>
 SV.cB v392 fun y395 =>
 PV.cs p2 fun b396 n397 =>
 St.wr S351 b396 n397 [(SV.str y361), (SV.int IntKind.i64 x367), (SV.int IntKind.i64 x373), (SV.sl y382), (SV.sl y391), (SV.bool y395)] fun S398 =>
 F58_q45 D J p2 S398 K
noncomputable def F58_11 (D J : Disp) (p1 : PV) (p2 : PV) (p3 : PV) (f5 : FV) (l27 : LV) (x28 : Int) (x29 : Int) (S : St) (K : AV → St → Prop) : Prop :=
 letK (α := Bool) ((ilt x29 x28)) fun c300 =>
 ifK c300
 (F58_q44 D J S p1 p2 p3 f5 l27 x28 x29 K)
 (PV.cs p3 fun b333 n334 =>
 St.at S b333 n334 fun y335 =>
 uncK y335 fun v336 y337 =>
 SV.cM v336 fun y345 =>
 St.mp S y345 fun y346 =>
 letK (α := Int) ((Int.ofNat (List.length y346))) fun x347 =>
 PV.cs p1 fun b348 n349 =>
 letK (α := Nat) ((n349 + 2)) fun n350 =>
 St.wr S b348 n350 [(SV.int IntKind.i64 x347)] fun S351 =>
 F58_q46 D J p1 p2 S351 K)
noncomputable def X58_11 : X := (.op (.br (.op (.op (.jmp 15 [1, 2, 3, 5, 7, 27, 28, 29, 35, 36]))) (.op (.op .ret))))
theorem F58_11_eq (D J : Disp) (p1 : PV) (p2 : PV) (p3 : PV) (f5 : FV) (l27 : LV) (x28 : Int) (x29 : Int) (S : St) (K : AV → St → Prop) : F58_11 D J p1 p2 p3 f5 l27 x28 x29 S K = execK IrP IrG Go.Proofs.Try.f58 (typed IrP D) J plans58 X58_11 (T58 11).1 (envOf (T58 11).2 [(AV.one (V1.s (SV.ptr p1))), (AV.one (V1.s (SV.ptr p2))), (AV.one (V1.s (SV.ptr p3))), (AV.one (V1.s (SV.fn f5))), (AV.one (V1.s (SV.sl l27))), (AV.one (V1.s (SV.int IntKind.i64 x28))), (AV.one (V1.s (SV.int IntKind.i64 x29)))]) S K := by kernel_rfl
noncomputable def F58_q47 (D J : Disp) (S : St) (p1 : PV) (p2 : PV) (p3 : PV) (f5 : FV) (p7 : PV) (l27 : LV) (x28 : Int) (x29 : Int) (x35 : Int) (x36 : Int) (b314 : Bk) (n318 : Nat) (K : AV → St → Prop) : Prop :=
 J 20 [(AV.one (V1.s (SV.ptr p1))), (AV.one (V1.s (SV.ptr p2))), (AV.one (V1.s (SV.ptr p3))), (AV.one (V1.s (SV.fn f5))), (AV.one (V1.s (SV.ptr p7))), (AV.one (V1.s (SV.ptr (PV.mk b314 n318)))), (AV.one (V1.s (SV.bool Bool.true))), (AV.one (V1.s (SV.sl l27))), (AV.one (V1.s (SV.int IntKind.i64 x28))), (AV.one (V1.s (SV.int IntKind.i64 x29))), (AV.one (V1.s (SV.int IntKind.i64 x35))), (AV.one (V1.s (SV.int IntKind.i64 x36)))] S K
noncomputable def F58_q48 (D J : Disp) (S : St) (p1 : PV) (p2 : PV) (p3 : PV) (f5 : FV) (p7 : PV) (l27 : LV) (x28 : Int) (x29 : Int) (x35 : Int) (x36 : Int) (b314 : Bk) (n318 : Nat) (K : AV → St → Prop) : Prop :=
 J 20 [(AV.one (V1.s (SV.ptr p1))), (AV.one (V1.s (SV.ptr p2))), (AV.one (V1.s (SV.ptr p3))), (AV.one (V1.s (SV.fn f5))), (AV.one (V1.s (SV.ptr p7))), (AV.one (V1.s (SV.ptr (PV.mk b314 n318)))), (AV.one (V1.s (SV.bool Bool.true))), (AV.one (V1.s (SV.sl l27))), (AV.one (V1.s (SV.int IntKind.i64 x28))), (AV.one (V1.s (SV.int IntKind.i64 x29))), (AV.one (V1.s (SV.int IntKind.i64 x35))), (AV.one (V1.s (SV.int IntKind.i64 x36)))] S K
noncomputable def F58_q49 (D J : Disp) (S : St) (p1 : PV) (p2 : PV) (p3 : PV) (f5 : FV) (p7 : PV) (l27 : LV) (x28 : Int) (x29 : Int) (x35 : Int) (x36 : Int) (b314 : Bk) (n318 : Nat) (K : AV → St → Prop) : Prop :=
 J 20 [(AV.one (V1.s (SV.ptr p1))), (AV.one (V1.s (SV.ptr p2))), (AV.one (V1.s (SV.ptr p3))), (AV.one (V1.s (SV.fn f5))), (AV.one (V1.s (SV.ptr p7))), (AV.one (V1.s (SV.ptr (PV.mk b314 n318)))), (AV.one (V1.s (SV.bool Bool.true))), (AV.one (V1.s (SV.sl l27))), (AV.one (V1.s (SV.int IntKind.i64 x28))), (AV.one (V1.s (SV.int IntKind.i64 x29))), (AV.one (V1.s (SV.int IntKind.i64 x35))), (AV.one (V1.s (SV.int IntKind.i64 x36)))] S K
noncomputable def F58_q50 (D J : Disp) (S : St) (p1 : PV) (p2 : PV) (p3 : PV) (f5 : FV) (p7 : PV) (l27 : LV) (x28 : Int) (x29 : Int) (x35 : Int) (x36 : Int) (b314 : Bk) (n318 : Nat) (c354 : Bool) (K : AV → St → Prop) : Prop :=
 J 20 [(AV.one (V1.s (SV.ptr p1))), (AV.one (V1.s (SV.ptr p2))), (AV.one (V1.s (SV.ptr p3))), (AV.one (V1.s (SV.fn f5))), (AV.one (V1.s (SV.ptr p7))), (AV.one (V1.s (SV.ptr (PV.mk b314 n318)))), (AV.one (V1.s (SV.bool c354))), (AV.one (V1.s (SV.sl l27))), (AV.one (V1.s (SV.int IntKind.i64 x28))), (AV.one (V1.s (SV.int IntKind.i64 x29))), (AV.one (V1.s (SV.int IntKind.i64 x35))), (AV.one (V1.s (SV.int IntKind.i64 x36)))] S K
noncomputable def F58_q51 (D J : Disp) (S : St) (p1 : PV) (p2 : PV) (p3 : PV) (f5 : FV) (p7 : PV) (l27 : LV) (x28 : Int) (x29 : Int) (x35 : Int) (x36 : Int) (b314 : Bk) (n318 : Nat) (n337 : Nat) (K : AV → St → Prop) : Prop :=
 St.at S b314 n337 fun y338 =>
 uncK y338 fun v339 y340 =>
 SV.cI IntKind.i64 v339 fun x344 =>
 letK (α := Bool) ((ieq x344 (19 : Int))) fun c345 =>
 ifK c345
 (F58_q49 D J S p1 p2 p3 f5 p7 l27 x28 x29 x35 x36 b314 n318 K)
 (letK (α := Nat) ((n318 + 0)) fun n346 =>
 St.at S b314 n346 fun y347 =>
 uncK y347 fun v348 y349 =>
 SV.cI IntKind.i64 v348 fun x353 =>
 letK (α := Bool) ((ieq x353 (20 : Int))) fun c354 =>
 F58_q50 D J S p1 p2 p3 f5 p7 l27 x28 x29 x35 x36 b314 n318 c354 K)
noncomputable def F58_q52 (D J : Disp) (S : St) (p1 : PV) (p2 : PV) (p3 : PV) (f5 : FV) (p7 : PV) (l27 : LV) (x28 : Int) (x29 : Int) (x35 : Int) (x36 : Int) (b314 : Bk) (n318 : Nat) (x326 : Int) (K : AV → St → Prop) : Prop :=
 letK (α := Bool) ((ieq x326 (10 : Int))) fun c327 =>
 ifK c327
 (F58_q47 D J S p1 p2 p3 f5 p7 l27 x28 x29 x35 x36 b314 n318 K)
 (letK (α := Nat) ((n318 + 0)) fun n328 =>
 St.at S b314 n328 fun y329 =>
 uncK y329 fun v330 y331 =>
 SV.cI IntKind.i64 v330 fun x335 =>
 letK (α := Bool) ((ieq x335 (11 : Int))) fun c336 =>
 ifK c336
 (F58_q48 D J S p1 p2 p3 f5 p7 l27 x28 x29 x35 x36 b314 n318 K)
 (letK (α := Nat) ((n318 + 0)) fun n337 =>
 F58_q51 D J S p1 p2 p3 f5 p7 l27 x28 x29 x35 x36 b314 n318 n337 K))
noncomputable def F58_q53 (D J : Disp) (S : St) (p1 : PV) (p2 : PV) (p3 : PV) (f5 : FV) (p7 : PV) (l27 : LV) (x28 : Int) (x29 : Int) (x35 : Int) (x36 : Int) (b301 : Bk) (n303 : Nat) (K : AV → St → Prop) : Prop :=
 St.at S b301 n303 fun y304 =>
 uncK y304 fun v305 y306 =>
 SV.cL v305 fun y313 =>
 LV.cs y313 fun b314 n315 n316 y317 =>
 req (Bool.and (ile (0 : Int) x36) (ilt x36 (Int.ofNat n316))) <|
 letK (α := Nat) ((n315 + ((Int.toNat x36) * 11))) fun n318 =>
 letK (α := Nat) ((n318 + 0)) fun n319 =>
 St.at S b314 n319 fun y320 =>
 uncK y320 fun v321 y322 =>
 SV.cI IntKind.i64 v321 fun x326 =>
 F58_q52 D J S p1 p2 p3 f5 p7 l27 x28 x29 x35 x36 b314 n318 x326 K
noncomputable def F58_q54 (D J : Disp) (S : St) (p1 : PV) (p2 : PV) (p3 : PV) (f5 : FV) (p7 : PV) (l27 : LV) (x28 : Int) (x29 : Int) (x35 : Int) (x36 : Int) (c300 : Bool) (K : AV → St → Prop) : Prop :=
 ifK c300
 (PV.cs p7 fun b301 n302 =>
 letK (α := Nat) ((n302 + 0)) fun n303 =>
 F58_q53 D J S p1 p2 p3 f5 p7 l27 x28 x29 x35 x36 b301 n303 K)
 (letK (α := Int) ((iwrap IntKind.i64 (x29 + (1 : Int)))) fun x377 =>
 J 11 [(AV.one (V1.s (SV.ptr p1))), (AV.one (V1.s (SV.ptr p2))), (AV.one (V1.s (SV.ptr p3))), (AV.one (V1.s (SV.fn f5))), (AV.one (V1.s (SV.sl l27))), (AV.one (V1.s (SV.int IntKind.i64 x28))), (AV.one (V1.s (SV.int IntKind.i64 x377)))] S K)
noncomputable def F58_15 (D J : Disp) (p1 : PV) (p2 : PV) (p3 : PV) (f5 : FV) (p7 : PV) (l27 : LV) (x28 : Int) (x29 : Int) (x35 : Int) (x36 : Int) (S : St) (K : AV → St → Prop) : Prop :=
 letK (α := Bool) ((ilt x36 x35)) fun c300 =>
 F58_q54 D J S p1 p2 p3 f5 p7 l27 x28 x29 x35 x36 c300 K
noncomputable def X58_15 : X := (.op (.br (.op (.op (.op (.jmp 20 [1, 2, 3, 5, 7, 9, 10, 27, 28, 29, 35, 36])))) (.op (.jmp 11 [1, 2, 3, 5, 27, 28, 29]))))
theorem F58_15_eq (D J : Disp) (p1 : PV) (p2 : PV) (p3 : PV) (f5 : FV) (p7 : PV) (l27 : LV) (x28 : Int) (x29 : Int) (x35 : Int) (x36 : Int) (S : St) (K : AV → St → Prop) : F58_15 D J p1 p2 p3 f5 p7 l27 x28 x29 x35 x36 S K = execK IrP IrG Go.Proofs.Try.f58 (typed IrP D) J plans58 X58_15 (T58 15).1 (envOf (T58 15).2 [(AV.one (V1.s (SV.ptr p1))), (AV.one (V1.s (SV.ptr p2))), (AV.one (V1.s (SV.ptr p3))), (AV.one (V1.s (SV.fn f5))), (AV.one (V1.s (SV.ptr p7))), (AV.one (V1.s (SV.sl l27))), (AV.one (V1.s (SV.int IntKind.i64 x28))), (AV.one (V1.s (SV.int IntKind.i64 x29))), (AV.one (V1.s (SV.int IntKind.i64 x35))), (AV.one (V1.s (SV.int IntKind.i64 x36)))]) S K := by kernel_rfl
noncomputable def F58_q55 (D J : Disp) (p1 : PV) (p2 : PV) (p3 : PV) (f5 : FV) (p7 : PV) (p9 : PV) (c10 : Bool) (l27 : LV) (x28 : Int) (x29 : Int) (x35 : Int) (x36 : Int) (S377 : St) (x401 : Int) (K : AV → St → Prop) : Prop :=
 J 24 [(AV.one (V1.s (SV.ptr p1))), (AV.one (V1.s (SV.ptr p2))), (AV.one (V1.s (SV.ptr p3))), (AV.one (V1.s (SV.fn f5))), (AV.one (V1.s (SV.ptr p7))), (AV.one (V1.s (SV.ptr p9))), (AV.one (V1.s (SV.bool c10))), (AV.one (V1.s (SV.int IntKind.i64 x401))), (AV.one (V1.s (SV.sl l27))), (AV.one (V1.s (SV.int IntKind.i64 x28))), (AV.one (V1.s (SV.int IntKind.i64 x29))), (AV.one (V1.s (SV.int IntKind.i64 x35))), (AV.one (V1.s (SV.int IntKind.i64 x36)))] S377 K
noncomputable def F58_q56 (D J : Disp) (p1 : PV) (p2 : PV) (p3 : PV) (f5 : FV) (p7 : PV) (p9 : PV) (c10 : Bool) (l27 : LV) (x28 : Int) (x29 : Int) (x35 : Int) (x36 : Int) (S377 : St) (x386 : Int) (K : AV → St → Prop) : Prop :=
 J 24 [(AV.one (V1.s (SV.ptr p1))), (AV.one (V1.s (SV.ptr p2))), (AV.one (V1.s (SV.ptr p3))), (AV.one (V1.s (SV.fn f5))), (AV.one (V1.s (SV.ptr p7))), (AV.one (V1.s (SV.ptr p9))), (AV.one (V1.s (SV.bool c10))), (AV.one (V1.s (SV.int IntKind.i64 x386))), (AV.one (V1.s (SV.sl l27))), (AV.one (V1.s (SV.int IntKind.i64 x28))), (AV.one (V1.s (SV.int IntKind.i64 x29))), (AV.one (V1.s (SV.int IntKind.i64 x35))), (AV.one (V1.s (SV.int IntKind.i64 x36)))] S377 K
noncomputable def F58_q57 (D J : Disp) (p1 : PV) (p2 : PV) (p3 : PV) (f5 : FV) (p7 : PV) (p9 : PV) (c10 : Bool) (l27 : LV) (x28 : Int) (x29 : Int) (x35 : Int) (x36 : Int) (S377 : St) (y385 : LV) (K : AV → St → Prop) : Prop :=
 letK (α := Int) ((Int.ofNat (LV.len y385))) fun x386 =>
 ifK c10
 (PV.cs p9 fun b387 n388 =>
 letK (α := Nat) ((n388 + 8)) fun n389 =>
 St.at S377 b387 n389 fun y390 =>
 uncK y390 fun v391 y392 =>
 SV.cL v391 fun y399 =>
 letK (α := Int) ((Int.ofNat (LV.len y399))) fun x400 =>
 letK (α := Int) ((iwrap IntKind.i64 (x386 - x400))) fun x401 =>
 F58_q55 D J p1 p2 p3 f5 p7 p9 c10 l27 x28 x29 x35 x36 S377 x401 K)
 (F58_q56 D J p1 p2 p3 f5 p7 p9 c10 l27 x28 x29 x35 x36 S377 x386 K)
noncomputable def F58_q58 (D J : Disp) (S : St) (p1 : PV) (p2 : PV) (p3 : PV) (f5 : FV) (p7 : PV) (p9 : PV) (c10 : Bool) (l27 : LV) (x28 : Int) (x29 : Int) (x35 : Int) (x36 : Int) (x308 : Int) (x314 : Int) (x320 : Int) (x326 : Int) (x332 : Int) (x338 : Int) (x344 : Int) (y348 : Bool) (y357 : LV) (y366 : LV) (y375 : LV) (K : AV → St → Prop) : Prop :=
 D 9 [(AV.one (V1.agg [(SV.int IntKind.i64 x308), (SV.int IntKind.i64 x314), (SV.int IntKind.i64 x320), (SV.int IntKind.i64 x326), (SV.int IntKind.i64 x332), (SV.int IntKind.i64 x338), (SV.int IntKind.i64 x344), (SV.bool y348), (SV.sl y357), (SV.sl y366), (SV.sl y375)]))] S fun v376 S377 =>
 scK v376 fun v379 =>
 SV.cL v379 fun y385 =>
 F58_q57 D J p1 p2 p3 f5 p7 p9 c10 l27 x28 x29 x35 x36 S377 y385 K
noncomputable def F58_q59 (D J : Disp) (S : St) (p1 : PV) (p2 : PV) (p3 : PV) (f5 : FV) (p7 : PV) (p9 : PV) (c10 : Bool) (l27 : LV) (x28 : Int) (x29 : Int) (x35 : Int) (x36 : Int) (b300 : Bk) (n301 : Nat) (K : AV → St → Prop) : Prop :=
 St.at S b300 n301 fun y302 =>
 uncK y302 fun v303 y304 =>
 SV.cI IntKind.i64 v303 fun x308 =>
 uncK y304 fun v309 y310 =>
 SV.cI IntKind.i64 v309 fun x314 =>
 uncK y310 fun v315 y316 =>
 SV.cI IntKind.i64 v315 fun x320 =>
 uncK y316 fun v321 y322 =>
 SV.cI IntKind.i64 v321 fun x326 =>
 uncK y322 fun v327 y328 =>
 SV.cI IntKind.i64 v327 fun x332 =>
 uncK y328 fun v333 y334 =>
 SV.cI IntKind.i64 v333 fun x338 =>
 uncK y334 fun v339 y340 =>
 SV.cI IntKind.i64 v339 fun x344 =>
 uncK y340 fun v345 y346 =>
 SV.cB v345 fun y348 =>
 uncK y346 fun v349 y350 =>
 SV.cL v349 fun y357 =>
 uncK y350 fun v358 y359 =>
 SV.cL v358 fun y366 =>
 uncK y359 fun v367 y368 =>
 SV.cL v367 fun y375 =>
 F58_q58 D J S p1 p2 p3 f5 p7 p9 c10 l27 x28 x29 x35 x36 x308 x314 x320 x326 x332 x338 x344 y348 y357 y366 y375 K
noncomputable def F58_20 (D J : Disp) (p1 : PV) (p2 : PV) (p3 : PV) (f5 : FV) (p7 : PV) (p9 : PV) (c10 : Bool) (l27 : LV) (x28 : Int) (x29 : Int) (x35 : Int) (x36 : Int) (S : St) (K : AV → St → Prop) : Prop :=
 PV.cs p9 fun b300 n301 =>
 F58_q59 D J S p1 p2 p3 f5 p7 p9 c10 l27 x28 x29 x35 x36 b300 n301 K
noncomputable def X58_20 : X := (.op (.op (.br (.op (.jmp 24 [1, 2, 3, 5, 7, 9, 10, 11, 27, 28, 29, 35, 36])) (.jmp 24 [1, 2, 3, 5, 7, 9, 10, 11, 27, 28, 29, 35, 36]))))
theorem F58_20_eq (D J : Disp) (p1 : PV) (p2 : PV) (p3 : PV) (f5 : FV) (p7 : PV) (p9 : PV) (c10 : Bool) (l27 : LV) (x28 : Int) (x29 : Int) (x35 : Int) (x36 : Int) (S : St) (K : AV → St → Prop) : F58_20 D J p1 p2 p3 f5 p7 p9 c10 l27 x28 x29 x35 x36 S K = execK IrP IrG Go.Proofs.Try.f58 (typed IrP D) J plans58 X58_20 (T58 20).1 (envOf (T58 20).2 [(AV.one (V1.s (SV.ptr p1))), (AV.one (V1.s (SV.ptr p2))), (AV.one (V1.s (SV.ptr p3))), (AV.one (V1.s (SV.fn f5))), (AV.one (V1.s (SV.ptr p7))), (AV.one (V1.s (SV.ptr p9))), (AV.one (V1.s (SV.bool c10))), (AV.one (V1.s (SV.sl l27))), (AV.one (V1.s (SV.int IntKind.i64 x28))), (AV.one (V1.s (SV.int IntKind.i64 x29))), (AV.one (V1.s (SV.int IntKind.i64 x35))), (AV.one (V1.s (SV.int IntKind.i64 x36)))]) S K := by kernel_rfl
noncomputable def F58_q60 (D J : Disp) (S : St) (p1 : PV) (p2 : PV) (p3 : PV) (f5 : FV) (p7 : PV) (p9 : PV) (c10 : Bool) (l27 : LV) (x28 : Int) (x29 : Int) (x35 : Int) (x36 : Int) (b301 : Bk) (n303 : Nat) (K : AV → St → Prop) : Prop :=
 FV.cs f5 fun y304 y305 y306 =>
 fnF y304 fun y307 =>
 optK (GetElem?.getElem? (Program.funcs IrP) y307) fun y308 =>
 ifK (zeroable IrP (Array.toList (Func.resultTypes y308)))
 (D y307 ((List.map ptrAV y305) ++ ([(AV.one (V1.s (SV.ptr (PV.mk b301 n303))))] ++ (List.map ptrAV y306))) S fun v311 S312 =>
 shapeK IrP (Array.toList (Func.resultTypes y308)) v311 fun v313 =>
 J 27 [(AV.one (V1.s (SV.ptr p1))), (AV.one (V1.s (SV.ptr p2))), (AV.one (V1.s (SV.ptr p3))), (AV.one (V1.s (SV.fn f5))), (AV.one (V1.s (SV.ptr p7))), (AV.one (V1.s (SV.ptr p9))), (AV.one (V1.s (SV.bool c10))), (AV.one (V1.s (SV.sl l27))), (AV.one (V1.s (SV.int IntKind.i64 x28))), (AV.one (V1.s (SV.int IntKind.i64 x29))), (AV.one (V1.s (SV.int IntKind.i64 x35))), (AV.one (V1.s (SV.int IntKind.i64 x36)))] S312 K)
 (D y307 ((List.map ptrAV y305) ++ ([(AV.one (V1.s (SV.ptr (PV.mk b301 n303))))] ++ (List.map ptrAV y306))) S fun v309 S310 =>
 J 27 [(AV.one (V1.s (SV.ptr p1))), (AV.one (V1.s (SV.ptr p2))), (AV.one (V1.s (SV.ptr p3))), (AV.one (V1.s (SV.fn f5))), (AV.one (V1.s (SV.ptr p7))), (AV.one (V1.s (SV.ptr p9))), (AV.one (V1.s (SV.bool c10))), (AV.one (V1.s (SV.sl l27))), (AV.one (V1.s (SV.int IntKind.i64 x28))), (AV.one (V1.s (SV.int IntKind.i64 x29))), (AV.one (V1.s (SV.int IntKind.i64 x35))), (AV.one (V1.s (SV.int IntKind.i64 x36)))] S310 K)
noncomputable def F58_q61 (D J : Disp) (S : St) (p1 : PV) (p2 : PV) (p3 : PV) (f5 : FV) (p7 : PV) (p9 : PV) (c10 : Bool) (l27 : LV) (x28 : Int) (x29 : Int) (x35 : Int) (x36 : Int) (c300 : Bool) (K : AV → St → Prop) : Prop :=
 ifK c300
 (PV.cs p9 fun b301 n302 =>
 letK (α := Nat) ((n302 + 3)) fun n303 =>
 F58_q60 D J S p1 p2 p3 f5 p7 p9 c10 l27 x28 x29 x35 x36 b301 n303 K)
 (J 27 [(AV.one (V1.s (SV.ptr p1))), (AV.one (V1.s (SV.ptr p2))), (AV.one (V1.s (SV.ptr p3))), (AV.one (V1.s (SV.fn f5))), (AV.one (V1.s (SV.ptr p7))), (AV.one (V1.s (SV.ptr p9))), (AV.one (V1.s (SV.bool c10))), (AV.one (V1.s (SV.sl l27))), (AV.one (V1.s (SV.int IntKind.i64 x28))), (AV.one (V1.s (SV.int IntKind.i64 x29))), (AV.one (V1.s (SV.int IntKind.i64 x35))), (AV.one (V1.s (SV.int IntKind.i64 x36)))] S K)
noncomputable def F58_24 (D J : Disp) (p1 : PV) (p2 : PV) (p3 : PV) (f5 : FV) (p7 : PV) (p9 : PV) (c10 : Bool) (x11 : Int) (l27 : LV) (x28 : Int) (x29 : Int) (x35 : Int) (x36 : Int) (S : St) (K : AV → St → Prop) : Prop :=
 letK (α := Bool) ((ilt (0 : Int) x11)) fun c300 =>
 F58_q61 D J S p1 p2 p3 f5 p7 p9 c10 l27 x28 x29 x35 x36 c300 K
noncomputable def X58_24 : X := (.op (.br (.op (.jmp 27 [1, 2, 3, 5, 7, 9, 10, 27, 28, 29, 35, 36])) (.jmp 27 [1, 2, 3, 5, 7, 9, 10, 27, 28, 29, 35, 36])))
theorem F58_24_eq (D J : Disp) (p1 : PV) (p2 : PV) (p3 : PV) (f5 : FV) (p7 : PV) (p9 : PV) (c10 : Bool) (x11 : Int) (l27 : LV) (x28 : Int) (x29 : Int) (x35 : Int) (x36 : Int) (S : St) (K : AV → St → Prop) : F58_24 D J p1 p2 p3 f5 p7 p9 c10 x11 l27 x28 x29 x35 x36 S K = execK IrP IrG Go.Proofs.Try.f58 (typed IrP D) J plans58 X58_24 (T58 24).1 (envOf (T58 24).2 [(AV.one (V1.s (SV.ptr p1))), (AV.one (V1.s (SV.ptr p2))), (AV.one (V1.s (SV.ptr p3))), (AV.one (V1.s (SV.fn f5))), (AV.one (V1.s (SV.ptr p7))), (AV.one (V1.s (SV.ptr p9))), (AV.one (V1.s (SV.bool c10))), (AV.one (V1.s (SV.int IntKind.i64 x11))), (AV.one (V1.s (SV.sl l27))), (AV.one (V1.s (SV.int IntKind.i64 x28))), (AV.one (V1.s (SV.int IntKind.i64 x29))), (AV.one (V1.s (SV.int IntKind.i64 x35))), (AV.one (V1.s (SV.int IntKind.i64 x36)))]) S K := by kernel_rfl
noncomputable def F58_q62 (D J : Disp) (S : St) (p1 : PV) (p2 : PV) (p3 : PV) (f5 : FV) (p7 : PV) (p9 : PV) (c10 : Bool) (l27 : LV) (x28 : Int) (x29 : Int) (x35 : Int) (x36 : Int) (K : AV → St → Prop) : Prop :=
 J 28 [(AV.one (V1.s (SV.ptr p1))), (AV.one (V1.s (SV.ptr p2))), (AV.one (V1.s (SV.ptr p3))), (AV.one (V1.s (SV.fn f5))), (AV.one (V1.s (SV.ptr p7))), (AV.one (V1.s (SV.ptr p9))), (AV.one (V1.s (SV.bool c10))), (AV.one (V1.s (SV.sl l27))), (AV.one (V1.s (SV.int IntKind.i64 x28))), (AV.one (V1.s (SV.int IntKind.i64 x29))), (AV.one (V1.s (SV.int IntKind.i64 x35))), (AV.one (V1.s (SV.int IntKind.i64 x36))), (AV.one (V1.s (SV.bool Bool.true)))] S K
noncomputable def F58_q63 (D J : Disp) (S : St) (p1 : PV) (p2 : PV) (p3 : PV) (f5 : FV) (p7 : PV) (p9 : PV) (c10 : Bool) (l27 : LV) (x28 : Int) (x29 : Int) (x35 : Int) (x36 : Int) (c321 : Bool) (K : AV → St → Prop) : Prop :=
 J 28 [(AV.one (V1.s (SV.ptr p1))), (AV.one (V1.s (SV.ptr p2))), (AV.one (V1.s (SV.ptr p3))), (AV.one (V1.s (SV.fn f5))), (AV.one (V1.s (SV.ptr p7))), (AV.one (V1.s (SV.ptr p9))), (AV.one (V1.s (SV.bool c10))), (AV.one (V1.s (SV.sl l27))), (AV.one (V1.s (SV.int IntKind.i64 x28))), (AV.one (V1.s (SV.int IntKind.i64 x29))), (AV.one (V1.s (SV.int IntKind.i64 x35))), (AV.one (V1.s (SV.int IntKind.i64 x36))), (AV.one (V1.s (SV.bool c321)))] S K
noncomputable def F58_q64 (D J : Disp) (S : St) (p1 : PV) (p2 : PV) (p3 : PV) (f5 : FV) (p7 : PV) (p9 : PV) (c10 : Bool) (l27 : LV) (x28 : Int) (x29 : Int) (x35 : Int) (x36 : Int) (b300 : Bk) (n302 : Nat) (K : AV → St → Prop) : Prop :=
 St.at S b300 n302 fun y303 =>
 uncK y303 fun v304 y305 =>
 SV.cI IntKind.i64 v304 fun x309 =>
 letK (α := Bool) ((ieq x309 (3 : Int))) fun c310 =>
 ifK c310
 (F58_q62 D J S p1 p2 p3 f5 p7 p9 c10 l27 x28 x29 x35 x36 K)
 (PV.cs p9 fun b311 n312 =>
 letK (α := Nat) ((n312 + 0)) fun n313 =>
 St.at S b311 n313 fun y314 =>
 uncK y314 fun v315 y316 =>
 SV.cI IntKind.i64 v315 fun x320 =>
 letK (α := Bool) ((ieq x320 (6 : Int))) fun c321 =>
 F58_q63 D J S p1 p2 p3 f5 p7 p9 c10 l27 x28 x29 x35 x36 c321 K)
noncomputable def F58_27 (D J : Disp) (p1 : PV) (p2 : PV) (p3 : PV) (f5 : FV) (p7 : PV) (p9 : PV) (c10 : Bool) (l27 : LV) (x28 : Int) (x29 : Int) (x35 : Int) (x36 : Int) (S : St) (K : AV → St → Prop) : Prop :=
 PV.cs p9 fun b300 n301 =>
 letK (α := Nat) ((n301 + 0)) fun n302 =>
 F58_q64 D J S p1 p2 p3 f5 p7 p9 c10 l27 x28 x29 x35 x36 b300 n302 K
noncomputable def X58_27 : X := (.op (.jmp 28 [1, 2, 3, 5, 7, 9, 10, 27, 28, 29, 35, 36, 100]))
theorem F58_27_eq (D J : Disp) (p1 : PV) (p2 : PV) (p3 : PV) (f5 : FV) (p7 : PV) (p9 : PV) (c10 : Bool) (l27 : LV) (x28 : Int) (x29 : Int) (x35 : Int) (x36 : Int) (S : St) (K : AV → St → Prop) : F58_27 D J p1 p2 p3 f5 p7 p9 c10 l27 x28 x29 x35 x36 S K = execK IrP IrG Go.Proofs.Try.f58 (typed IrP D) J plans58 X58_27 (T58 27).1 (envOf (T58 27).2 [(AV.one (V1.s (SV.ptr p1))), (AV.one (V1.s (SV.ptr p2))), (AV.one (V1.s (SV.ptr p3))), (AV.one (V1.s (SV.fn f5))), (AV.one (V1.s (SV.ptr p7))), (AV.one (V1.s (SV.ptr p9))), (AV.one (V1.s (SV.bool c10))), (AV.one (V1.s (SV.sl l27))), (AV.one (V1.s (SV.int IntKind.i64 x28))), (AV.one (V1.s (SV.int IntKind.i64 x29))), (AV.one (V1.s (SV.int IntKind.i64 x35))), (AV.one (V1.s (SV.int IntKind.i64 x36)))]) S K := by kernel_rfl
noncomputable def F58_q65 (D J : Disp) (S : St) (p1 : PV) (p2 : PV) (p3 : PV) (f5 : FV) (p7 : PV) (p9 : PV) (c10 : Bool) (l27 : LV) (x28 : Int) (x29 : Int) (x35 : Int) (x36 : Int) (b300 : Bk) (n302 : Nat) (K : AV → St → Prop) : Prop :=
 FV.cs f5 fun y303 y304 y305 =>
 fnF y303 fun y306 =>
 optK (GetElem?.getElem? (Program.funcs IrP) y306) fun y307 =>
 ifK (zeroable IrP (Array.toList (Func.resultTypes y307)))
 (D y306 ((List.map ptrAV y304) ++ ([(AV.one (V1.s (SV.ptr (PV.mk b300 n302))))] ++ (List.map ptrAV y305))) S fun v310 S311 =>
 shapeK IrP (Array.toList (Func.resultTypes y307)) v310 fun v312 =>
 J 30 [(AV.one (V1.s (SV.ptr p1))), (AV.one (V1.s (SV.ptr p2))), (AV.one (V1.s (SV.ptr p3))), (AV.one (V1.s (SV.fn f5))), (AV.one (V1.s (SV.ptr p7))), (AV.one (V1.s (SV.ptr p9))), (AV.one (V1.s (SV.bool c10))), (AV.one (V1.s (SV.sl l27))), (AV.one (V1.s (SV.int IntKind.i64 x28))), (AV.one (V1.s (SV.int IntKind.i64 x29))), (AV.one (V1.s (SV.int IntKind.i64 x35))), (AV.one (V1.s (SV.int IntKind.i64 x36)))] S311 K)
 (D y306 ((List.map ptrAV y304) ++ ([(AV.one (V1.s (SV.ptr (PV.mk b300 n302))))] ++ (List.map ptrAV y305))) S fun v308 S309 =>
 J 30 [(AV.one (V1.s (SV.ptr p1))), (AV.one (V1.s (SV.ptr p2))), (AV.one (V1.s (SV.ptr p3))), (AV.one (V1.s (SV.fn f5))), (AV.one (V1.s (SV.ptr p7))), (AV.one (V1.s (SV.ptr p9))), (AV.one (V1.s (SV.bool c10))), (AV.one (V1.s (SV.sl l27))), (AV.one (V1.s (SV.int IntKind.i64 x28))), (AV.one (V1.s (SV.int IntKind.i64 x29))), (AV.one (V1.s (SV.int IntKind.i64 x35))), (AV.one (V1.s (SV.int IntKind.i64 x36)))] S309 K)
noncomputable def F58_28 (D J : Disp) (p1 : PV) (p2 : PV) (p3 : PV) (f5 : FV) (p7 : PV) (p9 : PV) (c10 : Bool) (l27 : LV) (x28 : Int) (x29 : Int) (x35 : Int) (x36 : Int) (c100 : Bool) (S : St) (K : AV → St → Prop) : Prop :=
 ifK c100
 (PV.cs p9 fun b300 n301 =>
 letK (α := Nat) ((n301 + 4)) fun n302 =>
 F58_q65 D J S p1 p2 p3 f5 p7 p9 c10 l27 x28 x29 x35 x36 b300 n302 K)
 (J 30 [(AV.one (V1.s (SV.ptr p1))), (AV.one (V1.s (SV.ptr p2))), (AV.one (V1.s (SV.ptr p3))), (AV.one (V1.s (SV.fn f5))), (AV.one (V1.s (SV.ptr p7))), (AV.one (V1.s (SV.ptr p9))), (AV.one (V1.s (SV.bool c10))), (AV.one (V1.s (SV.sl l27))), (AV.one (V1.s (SV.int IntKind.i64 x28))), (AV.one (V1.s (SV.int IntKind.i64 x29))), (AV.one (V1.s (SV.int IntKind.i64 x35))), (AV.one (V1.s (SV.int IntKind.i64 x36)))] S K)
noncomputable def X58_28 : X := (.br (.op (.jmp 30 [1, 2, 3, 5, 7, 9, 10, 27, 28, 29, 35, 36])) (.jmp 30 [1, 2, 3, 5, 7, 9, 10, 27, 28, 29, 35, 36]))
theorem F58_28_eq (D J : Disp) (p1 : PV) (p2 : PV) (p3 : PV) (f5 : FV) (p7 : PV) (p9 : PV) (c10 : Bool) (l27 : LV) (x28 : Int) (x29 : Int) (x35 : Int) (x36 : Int) (c100 : Bool) (S : St) (K : AV → St → Prop) : F58_28 D J p1 p2 p3 f5 p7 p9 c10 l27 x28 x29 x35 x36 c100 S K = execK IrP IrG Go.Proofs.Try.f58 (typed IrP D) J plans58 X58_28 (T58 28).1 (envOf (T58 28).2 [(AV.one (V1.s (SV.ptr p1))), (AV.one (V1.s (SV.ptr p2))), (AV.one (V1.s (SV.ptr p3))), (AV.one (V1.s (SV.fn f5))), (AV.one (V1.s (SV.ptr p7))), (AV.one (V1.s (SV.ptr p9))), (AV.one (V1.s (SV.bool c10))), (AV.one (V1.s (SV.sl l27))), (AV.one (V1.s (SV.int IntKind.i64 x28))), (AV.one (V1.s (SV.int IntKind.i64 x29))), (AV.one (V1.s (SV.int IntKind.i64 x35))), (AV.one (V1.s (SV.int IntKind.i64 x36))), (AV.one (V1.s (SV.bool c100)))]) S K := by kernel_rfl
noncomputable def F58_q66 (D J : Disp) (S : St) (p1 : PV) (p2 : PV) (p3 : PV) (f5 : FV) (p7 : PV) (p9 : PV) (c10 : Bool) (l27 : LV) (x28 : Int) (x29 : Int) (x35 : Int) (x36 : Int) (x313 : Int) (K : AV → St → Prop) : Prop :=
 J 31 [(AV.one (V1.s (SV.ptr p1))), (AV.one (V1.s (SV.ptr p2))), (AV.one (V1.s (SV.ptr p3))), (AV.one (V1.s (SV.fn f5))), (AV.one (V1.s (SV.ptr p7))), (AV.one (V1.s (SV.ptr p9))), (AV.one (V1.s (SV.bool c10))), (AV.one (V1.s (SV.sl l27))), (AV.one (V1.s (SV.int IntKind.i64 x28))), (AV.one (V1.s (SV.int IntKind.i64 x29))), (AV.one (V1.s (SV.int IntKind.i64 x35))), (AV.one (V1.s (SV.int IntKind.i64 x36))), (AV.one (V1.s (SV.int IntKind.i64 x313))), (AV.one (V1.s (SV.int IntKind.i64 (0 : Int))))] S K
noncomputable def F58_30 (D J : Disp) (p1 : PV) (p2 : PV) (p3 : PV) (f5 : FV) (p7 : PV) (p9 : PV) (c10 : Bool) (l27 : LV) (x28 : Int) (x29 : Int) (x35 : Int) (x36 : Int) (S : St) (K : AV → St → Prop) : Prop :=
 PV.cs p9 fun b300 n301 =>
 letK (α := Nat) ((n301 + 8)) fun n302 =>
 St.at S b300 n302 fun y303 =>
 uncK y303 fun v304 y305 =>
 SV.cL v304 fun y312 =>
 letK (α := Int) ((Int.ofNat (LV.len y312))) fun x313 =>
 F58_q66 D J S p1 p2 p3 f5 p7 p9 c10 l27 x28 x29 x35 x36 x313 K
noncomputable def X58_30 : X := (.op (.jmp 31 [1, 2, 3, 5, 7, 9, 10, 27, 28, 29, 35, 36, 110, 111]))
theorem F58_30_eq (D J : Disp) (p1 : PV) (p2 : PV) (p3 : PV) (f5 : FV) (p7 : PV) (p9 : PV) (c10 : Bool) (l27 : LV) (x28 : Int) (x29 : Int) (x35 : Int) (x36 : Int) (S : St) (K : AV → St → Prop) : F58_30 D J p1 p2 p3 f5 p7 p9 c10 l27 x28 x29 x35 x36 S K = execK IrP IrG Go.Proofs.Try.f58 (typed IrP D) J plans58 X58_30 (T58 30).1 (envOf (T58 30).2 [(AV.one (V1.s (SV.ptr p1))), (AV.one (V1.s (SV.ptr p2))), (AV.one (V1.s (SV.ptr p3))), (AV.one (V1.s (SV.fn f5))), (AV.one (V1.s (SV.ptr p7))), (AV.one (V1.s (SV.ptr p9))), (AV.one (V1.s (SV.bool c10))), (AV.one (V1.s (SV.sl l27))), (AV.one (V1.s (SV.int IntKind.i64 x28))), (AV.one (V1.s (SV.int IntKind.i64 x29))), (AV.one (V1.s (SV.int IntKind.i64 x35))), (AV.one (V1.s (SV.int IntKind.i64 x36)))]) S K := by kernel_rfl
noncomputable def F58_q67 (D J : Disp) (p1 : PV) (p2 : PV) (p3 : PV) (f5 : FV) (p7 : PV) (p9 : PV) (c10 : Bool) (l27 : LV) (x28 : Int) (x29 : Int) (x35 : Int) (x36 : Int) (x110 : Int) (x111 : Int) (S325 : St) (K : AV → St → Prop) : Prop :=
 J 37 [(AV.one (V1.s (SV.ptr p1))), (AV.one (V1.s (SV.ptr p2))), (AV.one (V1.s (SV.ptr p3))), (AV.one (V1.s (SV.fn f5))), (AV.one (V1.s (SV.ptr p7))), (AV.one (V1.s (SV.ptr p9))), (AV.one (V1.s (SV.bool c10))), (AV.one (V1.s (SV.sl l27))), (AV.one (V1.s (SV.int IntKind.i64 x28))), (AV.one (V1.s (SV.int IntKind.i64 x29))), (AV.one (V1.s (SV.int IntKind.i64 x35))), (AV.one (V1.s (SV.int IntKind.i64 x36))), (AV.one (V1.s (SV.int IntKind.i64 x110))), (AV.one (V1.s (SV.int IntKind.i64 x111)))] S325 K
noncomputable def F58_q68 (D J : Disp) (p1 : PV) (p2 : PV) (p3 : PV) (f5 : FV) (p7 : PV) (p9 : PV) (c10 : Bool) (l27 : LV) (x28 : Int) (x29 : Int) (x35 : Int) (x36 : Int) (x110 : Int) (x111 : Int) (S327 : St) (K : AV → St → Prop) : Prop :=
 J 37 [(AV.one (V1.s (SV.ptr p1))), (AV.one (V1.s (SV.ptr p2))), (AV.one (V1.s (SV.ptr p3))), (AV.one (V1.s (SV.fn f5))), (AV.one (V1.s (SV.ptr p7))), (AV.one (V1.s (SV.ptr p9))), (AV.one (V1.s (SV.bool c10))), (AV.one (V1.s (SV.sl l27))), (AV.one (V1.s (SV.int IntKind.i64 x28))), (AV.one (V1.s (SV.int IntKind.i64 x29))), (AV.one (V1.s (SV.int IntKind.i64 x35))), (AV.one (V1.s (SV.int IntKind.i64 x36))), (AV.one (V1.s (SV.int IntKind.i64 x110))), (AV.one (V1.s (SV.int IntKind.i64 x111)))] S327 K
noncomputable def F58_q69 (D J : Disp) (S : St) (p1 : PV) (p2 : PV) (p3 : PV) (f5 : FV) (p7 : PV) (p9 : PV) (c10 : Bool) (l27 : LV) (x28 : Int) (x29 : Int) (x35 : Int) (x36 : Int) (x110 : Int) (x111 : Int) (b314 : Bk) (n318 : Nat) (K : AV → St → Prop) : Prop :=
 FV.cs f5 fun y319 y320 y321 =>
 fnF y319 fun y322 =>
 optK (GetElem?.getElem? (Program.funcs IrP) y322) fun y323 =>
 ifK (zeroable IrP (Array.toList (Func.resultTypes y323)))
 (D y322 ((List.map ptrAV y320) ++ ([(AV.one (V1.s (SV.ptr (PV.mk b314 n318))))] ++ (List.map ptrAV y321))) S fun v326 S327 =>
 shapeK IrP (Array.toList (Func.resultTypes y323)) v326 fun v328 =>
 F58_q68 D J p1 p2 p3 f5 p7 p9 c10 l27 x28 x29 x35 x36 x110 x111 S327 K)
 (D y322 ((List.map ptrAV y320) ++ ([(AV.one (V1.s (SV.ptr (PV.mk b314 n318))))] ++ (List.map ptrAV y321))) S fun v324 S325 =>
 F58_q67 D J p1 p2 p3 f5 p7 p9 c10 l27 x28 x29 x35 x36 x110 x111 S325 K)
noncomputable def F58_q70 (D J : Disp) (S : St) (p1 : PV) (p2 : PV) (p3 : PV) (f5 : FV) (p7 : PV) (p9 : PV) (c10 : Bool) (l27 : LV) (x28 : Int) (x29 : Int) (x35 : Int) (x36 : Int) (x110 : Int) (x111 : Int) (K : AV → St → Prop) : Prop :=
 J 37 [(AV.one (V1.s (SV.ptr p1))), (AV.one (V1.s (SV.ptr p2))), (AV.one (V1.s (SV.ptr p3))), (AV.one (V1.s (SV.fn f5))), (AV.one (V1.s (SV.ptr p7))), (AV.one (V1.s (SV.ptr p9))), (AV.one (V1.s (SV.bool c10))), (AV.one (V1.s (SV.sl l27))), (AV.one (V1.s (SV.int IntKind.i64 x28))), (AV.one (V1.s (SV.int IntKind.i64 x29))), (AV.one (V1.s (SV.int IntKind.i64 x35))), (AV.one (V1.s (SV.int IntKind.i64 x36))), (AV.one (V1.s (SV.int IntKind.i64 x110))), (AV.one (V1.s (SV.int IntKind.i64 x111)))] S K
noncomputable def F58_q71 (D J : Disp) (S : St) (p1 : PV) (p2 : PV) (p3 : PV) (f5 : FV) (p7 : PV) (p9 : PV) (c10 : Bool) (l27 : LV) (x28 : Int) (x29 : Int) (x35 : Int) (x36 : Int) (x110 : Int) (x111 : Int) (K : AV → St → Prop) : Prop :=
 ifK c10
 (PV.cs p9 fun b301 n302 =>
 letK (α := Nat) ((n302 + 8)) fun n303 =>
 St.at S b301 n303 fun y304 =>
 uncK y304 fun v305 y306 =>
 SV.cL v305 fun y313 =>
 LV.cs y313 fun b314 n315 n316 y317 =>
 req (Bool.and (ile (0 : Int) x111) (ilt x111 (Int.ofNat n316))) <|
 letK (α := Nat) ((n315 + ((Int.toNat x111) * 1))) fun n318 =>
 F58_q69 D J S p1 p2 p3 f5 p7 p9 c10 l27 x28 x29 x35 x36 x110 x111 b314 n318 K)
 (F58_q70 D J S p1 p2 p3 f5 p7 p9 c10 l27 x28 x29 x35 x36 x110 x111 K)
noncomputable def F58_q72 (D J : Disp) (p1 : PV) (p2 : PV) (p3 : PV) (f5 : FV) (p7 : PV) (l27 : LV) (x28 : Int) (x29 : Int) (x35 : Int) (x36 : Int) (S416 : St) (b420 : Bk) (n422 : Nat) (K : AV → St → Prop) : Prop :=
 FV.cs f5 fun y423 y424 y425 =>
 fnF y423 fun y426 =>
 optK (GetElem?.getElem? (Program.funcs IrP) y426) fun y427 =>
 ifK (zeroable IrP (Array.toList (Func.resultTypes y427)))
 (D y426 ((List.map ptrAV y424) ++ ([(AV.one (V1.s (SV.ptr (PV.mk b420 n422))))] ++ (List.map ptrAV y425))) S416 fun v430 S431 =>
 shapeK IrP (Array.toList (Func.resultTypes y427)) v430 fun v432 =>
 J 41 [(AV.one (V1.s (SV.ptr p1))), (AV.one (V1.s (SV.ptr p2))), (AV.one (V1.s (SV.ptr p3))), (AV.one (V1.s (SV.fn f5))), (AV.one (V1.s (SV.ptr p7))), (AV.one (V1.s (SV.sl l27))), (AV.one (V1.s (SV.int IntKind.i64 x28))), (AV.one (V1.s (SV.int IntKind.i64 x29))), (AV.one (V1.s (SV.int IntKind.i64 x35))), (AV.one (V1.s (SV.int IntKind.i64 x36)))] S431 K)
 (D y426 ((List.map ptrAV y424) ++ ([(AV.one (V1.s (SV.ptr (PV.mk b420 n422))))] ++ (List.map ptrAV y425))) S416 fun v428 S429 =>
 J 41 [(AV.one (V1.s (SV.ptr p1))), (AV.one (V1.s (SV.ptr p2))), (AV.one (V1.s (SV.ptr p3))), (AV.one (V1.s (SV.fn f5))), (AV.one (V1.s (SV.ptr p7))), (AV.one (V1.s (SV.sl l27))), (AV.one (V1.s (SV.int IntKind.i64 x28))), (AV.one (V1.s (SV.int IntKind.i64 x29))), (AV.one (V1.s (SV.int IntKind.i64 x35))), (AV.one (V1.s (SV.int IntKind.i64 x36)))] S429 K)
noncomputable def F58_q73 (D J : Disp) (p1 : PV) (p2 : PV) (p3 : PV) (f5 : FV) (p7 : PV) (p9 : PV) (l27 : LV) (x28 : Int) (x29 : Int) (x35 : Int) (x36 : Int) (S416 : St) (y419 : Bool) (K : AV → St → Prop) : Prop :=
 ifK y419
 (PV.cs p9 fun b420 n421 =>
 letK (α := Nat) ((n421 + 2)) fun n422 =>
 F58_q72 D J p1 p2 p3 f5 p7 l27 x28 x29 x35 x36 S416 b420 n422 K)
 (J 41 [(AV.one (V1.s (SV.ptr p1))), (AV.one (V1.s (SV.ptr p2))), (AV.one (V1.s (SV.ptr p3))), (AV.one (V1.s (SV.fn f5))), (AV.one (V1.s (SV.ptr p7))), (AV.one (V1.s (SV.sl l27))), (AV.one (V1.s (SV.int IntKind.i64 x28))), (AV.one (V1.s (SV.int IntKind.i64 x29))), (AV.one (V1.s (SV.int IntKind.i64 x35))), (AV.one (V1.s (SV.int IntKind.i64 x36)))] S416 K)
noncomputable def F58_q74 (D J : Disp) (S : St) (p1 : PV) (p2 : PV) (p3 : PV) (f5 : FV) (p7 : PV) (p9 : PV) (l27 : LV) (x28 : Int) (x29 : Int) (x35 : Int) (x36 : Int) (b339 : Bk) (n340 : Nat) (K : AV → St → Prop) : Prop :=
 St.at S b339 n340 fun y341 =>
 uncK y341 fun v342 y343 =>
 SV.cI IntKind.i64 v342 fun x347 =>
 uncK y343 fun v348 y349 =>
 SV.cI IntKind.i64 v348 fun x353 =>
 uncK y349 fun v354 y355 =>
 SV.cI IntKind.i64 v354 fun x359 =>
 uncK y355 fun v360 y361 =>
 SV.cI IntKind.i64 v360 fun x365 =>
 uncK y361 fun v366 y367 =>
 SV.cI IntKind.i64 v366 fun x371 =>
 uncK y367 fun v372 y373 =>
 SV.cI IntKind.i64 v372 fun x377 =>
 uncK y373 fun v378 y379 =>
 SV.cI IntKind.i64 v378 fun x383 =>
 uncK y379 fun v384 y385 =>
 SV.cB v384 fun y387 =>
 uncK y385 fun v388 y389 =>
 SV.cL v388 fun y396 =>
 uncK y389 fun v397 y398 =>
 SV.cL v397 fun y405 =>
 uncK y398 fun v406 y407 =>
 SV.cL v406 fun y414 =>
 D 73 [(AV.one (V1.agg [(SV.int IntKind.i64 x347), (SV.int IntKind.i64 x353), (SV.int IntKind.i64 x359), (SV.int IntKind.i64 x365), (SV.int IntKind.i64 x371), (SV.int IntKind.i64 x377), (SV.int IntKind.i64 x383), (SV.bool y387), (SV.sl y396), (SV.sl y405), (SV.sl y414)]))] S fun v415 S416 =>
 scK v415 fun v418 =>
 SV.cB v418 fun y419 =>
 F58_q73 D J p1 p2 p3 f5 p7 p9 l27 x28 x29 x35 x36 S416 y419 K
noncomputable def F58_31 (D J : Disp) (p1 : PV) (p2 : PV) (p3 : PV) (f5 : FV) (p7 : PV) (p9 : PV) (c10 : Bool) (l27 : LV) (x28 : Int) (x29 : Int) (x35 : Int) (x36 : Int) (x110 : Int) (x111 : Int) (S : St) (K : AV → St → Prop) : Prop :=
 letK (α := Bool) ((ilt x111 x110)) fun c300 =>
 ifK c300
 (F58_q71 D J S p1 p2 p3 f5 p7 p9 c10 l27 x28 x29 x35 x36 x110 x111 K)
 (PV.cs p9 fun b339 n340 =>
 F58_q74 D J S p1 p2 p3 f5 p7 p9 l27 x28 x29 x35 x36 b339 n340 K)
noncomputable def X58_31 : X := (.op (.br (.op (.op (.br (.op (.jmp 37 [1, 2, 3, 5, 7, 9, 10, 27, 28, 29, 35, 36, 110, 111])) (.jmp 37 [1, 2, 3, 5, 7, 9, 10, 27, 28, 29, 35, 36, 110, 111])))) (.op (.br (.op (.jmp 41 [1, 2, 3, 5, 7, 27, 28, 29, 35, 36])) (.jmp 41 [1, 2, 3, 5, 7, 27, 28, 29, 35, 36])))))
theorem F58_31_eq (D J : Disp) (p1 : PV) (p2 : PV) (p3 : PV) (f5 : FV) (p7 : PV) (p9 : PV) (c10 : Bool) (l27 : LV) (x28 : Int) (x29 : Int) (x35 : Int) (x36 : Int) (x110 : Int) (x111 : Int) (S : St) (K : AV → St → Prop) : F58_31 D J p1 p2 p3 f5 p7 p9 c10 l27 x28 x29 x35 x36 x110 x111 S K = execK IrP IrG Go.Proofs.Try.f58 (typed IrP D) J plans58 X58_31 (T58 31).1 (envOf (T58 31).2 [(AV.one (V1.s (SV.ptr p1))), (AV.one (V1.s (SV.ptr p2))), (AV.one (V1.s (SV.ptr p3))), (AV.one (V1.s (SV.fn f5))), (AV.one (V1.s (SV.ptr p7))), (AV.one (V1.s (SV.ptr p9))), (AV.one (V1.s (SV.bool c10))), (AV.one (V1.s (SV.sl l27))), (AV.one (V1.s (SV.int IntKind.i64 x28))), (AV.one (V1.s (SV.int IntKind.i64 x29))), (AV.one (V1.s (SV.int IntKind.i64 x35))), (AV.one (V1.s (SV.int IntKind.i64 x36))), (AV.one (V1.s (SV.int IntKind.i64 x110))), (AV.one (V1.s (SV.int IntKind.i64 x111)))]) S K := by kernel_rfl
noncomputable def F58_q75 (D J : Disp) (S : St) (p1 : PV) (p2 : PV) (p3 : PV) (f5 : FV) (p7 : PV) (p9 : PV) (c10 : Bool) (l27 : LV) (x28 : Int) (x29 : Int) (x35 : Int) (x36 : Int) (x110 : Int) (x300 : Int) (K : AV → St → Prop) : Prop :=
 J 31 [(AV.one (V1.s (SV.ptr p1))), (AV.one (V1.s (SV.ptr p2))), (AV.one (V1.s (SV.ptr p3))), (AV.one (V1.s (SV.fn f5))), (AV.one (V1.s (SV.ptr p7))), (AV.one (V1.s (SV.ptr p9))), (AV.one (V1.s (SV.bool c10))), (AV.one (V1.s (SV.sl l27))), (AV.one (V1.s (SV.int IntKind.i64 x28))), (AV.one (V1.s (SV.int IntKind.i64 x29))), (AV.one (V1.s (SV.int IntKind.i64 x35))), (AV.one (V1.s (SV.int IntKind.i64 x36))), (AV.one (V1.s (SV.int IntKind.i64 x110))), (AV.one (V1.s (SV.int IntKind.i64 x300)))] S K
noncomputable def F58_37 (D J : Disp) (p1 : PV) (p2 : PV) (p3 : PV) (f5 : FV) (p7 : PV) (p9 : PV) (c10 : Bool) (l27 : LV) (x28 : Int) (x29 : Int) (x35 : Int) (x36 : Int) (x110 : Int) (x111 : Int) (S : St) (K : AV → St → Prop) : Prop :=
 letK (α := Int) ((iwrap IntKind.i64 (x111 + (1 : Int)))) fun x300 =>
 F58_q75 D J S p1 p2 p3 f5 p7 p9 c10 l27 x28 x29 x35 x36 x110 x300 K
noncomputable def X58_37 : X := (.op (.jmp 31 [1, 2, 3, 5, 7, 9, 10, 27, 28, 29, 35, 36, 110, 111]))
theorem F58_37_eq (D J : Disp) (p1 : PV) (p2 : PV) (p3 : PV) (f5 : FV) (p7 : PV) (p9 : PV) (c10 : Bool) (l27 : LV) (x28 : Int) (x29 : Int) (x35 : Int) (x36 : Int) (x110 : Int) (x111 : Int) (S : St) (K : AV → St → Prop) : F58_37 D J p1 p2 p3 f5 p7 p9 c10 l27 x28 x29 x35 x36 x110 x111 S K = execK IrP IrG Go.Proofs.Try.f58 (typed IrP D) J plans58 X58_37 (T58 37).1 (envOf (T58 37).2 [(AV.one (V1.s (SV.ptr p1))), (AV.one (V1.s (SV.ptr p2))), (AV.one (V1.s (SV.ptr p3))), (AV.one (V1.s (SV.fn f5))), (AV.one (V1.s (SV.ptr p7))), (AV.one (V1.s (SV.ptr p9))), (AV.one (V1.s (SV.bool c10))), (AV.one (V1.s (SV.sl l27))), (AV.one (V1.s (SV.int IntKind.i64 x28))), (AV.one (V1.s (SV.int IntKind.i64 x29))), (AV.one (V1.s (SV.int IntKind.i64 x35))), (AV.one (V1.s (SV.int IntKind.i64 x36))), (AV.one (V1.s (SV.int IntKind.i64 x110))), (AV.one (V1.s (SV.int IntKind.i64 x111)))]) S K := by kernel_rfl
noncomputable def F58_41 (D J : Disp) (p1 : PV) (p2 : PV) (p3 : PV) (f5 : FV) (p7 : PV) (l27 : LV) (x28 : Int) (x29 : Int) (x35 : Int) (x36 : Int) (S : St) (K : AV → St → Prop) : Prop :=
 letK (α := Int) ((iwrap IntKind.i64 (x36 + (1 : Int)))) fun x300 =>
 J 15 [(AV.one (V1.s (SV.ptr p1))), (AV.one (V1.s (SV.ptr p2))), (AV.one (V1.s (SV.ptr p3))), (AV.one (V1.s (SV.fn f5))), (AV.one (V1.s (SV.ptr p7))), (AV.one (V1.s (SV.sl l27))), (AV.one (V1.s (SV.int IntKind.i64 x28))), (AV.one (V1.s (SV.int IntKind.i64 x29))), (AV.one (V1.s (SV.int IntKind.i64 x35))), (AV.one (V1.s (SV.int IntKind.i64 x300)))] S K
noncomputable def X58_41 : X := (.op (.jmp 15 [1, 2, 3, 5, 7, 27, 28, 29, 35, 36]))
theorem F58_41_eq (D J : Disp) (p1 : PV) (p2 : PV) (p3 : PV) (f5 : FV) (p7 : PV) (l27 : LV) (x28 : Int) (x29 : Int) (x35 : Int) (x36 : Int) (S : St) (K : AV → St → Prop) : F58_41 D J p1 p2 p3 f5 p7 l27 x28 x29 x35 x36 S K = execK IrP IrG Go.Proofs.Try.f58 (typed IrP D) J plans58 X58_41 (T58 41).1 (envOf (T58 41).2 [(AV.one (V1.s (SV.ptr p1))), (AV.one (V1.s (SV.ptr p2))), (AV.one (V1.s (SV.ptr p3))), (AV.one (V1.s (SV.fn f5))), (AV.one (V1.s (SV.ptr p7))), (AV.one (V1.s (SV.sl l27))), (AV.one (V1.s (SV.int IntKind.i64 x28))), (AV.one (V1.s (SV.int IntKind.i64 x29))), (AV.one (V1.s (SV.int IntKind.i64 x35))), (AV.one (V1.s (SV.int IntKind.i64 x36)))]) S K := by kernel_rfl
noncomputable abbrev A58_0 (D J : Disp) (vals : List AV) (S : St) (K : AV → St → Prop) : Prop :=
  uncA vals fun a9001 r9002 => avA a9001 fun l9004 => uncK l9004 fun s9006 r9007 => SV.cS s9006 fun s0_0 => uncK r9007 fun s9010 r9011 => SV.cI IntKind.i64 s9010 fun x0_1 => uncK r9011 fun s9014 r9015 => SV.cI IntKind.i64 s9014 fun x0_2 => uncK r9015 fun s9018 r9019 => SV.cL s9018 fun l0_3 => uncK r9019 fun s9022 r9023 => SV.cL s9022 fun l0_4 => uncK r9023 fun s9026 r9027 => SV.cB s9026 fun c0_5 => endL r9027 <| endL r9002 <| F58_0 D J s0_0 x0_1 x0_2 l0_3 l0_4 c0_5 S K
theorem A58_0_ok {D J : Disp} (hD : DOK IrP IrG D) (hJ : JOK IrP IrG Go.Proofs.Try.f58 T58 J) {vals : List AV} {S : St} {K : AV → St → Prop} (h0 : A58_0 D J vals S K) : Runs IrP IrG Go.Proofs.Try.f58 (T58 0).1 (envOf (T58 0).2 vals) S K := by
  obtain ⟨a9001, r9002, rfl, h3⟩ := uncA_some h0
  obtain ⟨l9004, rfl, h5⟩ := avA_some h3
  obtain ⟨s9006, r9007, rfl, h8⟩ := uncK_some h5
  obtain ⟨s0_0, rfl, h9⟩ := cS_some h8
  obtain ⟨s9010, r9011, rfl, h12⟩ := uncK_some h9
  obtain ⟨x0_1, rfl, h13⟩ := cI_some h12
  obtain ⟨s9014, r9015, rfl, h16⟩ := uncK_some h13
  obtain ⟨x0_2, rfl, h17⟩ := cI_some h16
  obtain ⟨s9018, r9019, rfl, h20⟩ := uncK_some h17
  obtain ⟨l0_3, rfl, h21⟩ := cL_some h20
  obtain ⟨s9022, r9023, rfl, h24⟩ := uncK_some h21
  obtain ⟨l0_4, rfl, h25⟩ := cL_some h24
  obtain ⟨s9026, r9027, rfl, h28⟩ := uncK_some h25
  obtain ⟨c0_5, rfl, h29⟩ := cB_some h28
  obtain ⟨rfl, h30⟩ := endL_some h29
  obtain ⟨rfl, h31⟩ := endL_some h30
  have hq := Eq.mp (F58_0_eq D J s0_0 x0_1 x0_2 l0_3 l0_4 c0_5 S K) h31
  exact execK_runs hD.typed Ir_zero Ir_mixed hJ X58_0 (T58 0).1 (envOf (T58 0).2 _) S K (chk_of (by kernel_rfl) (by kernel_rfl)) hq
noncomputable abbrev A58_4 (D J : Disp) (vals : List AV) (S : St) (K : AV → St → Prop) : Prop :=
  uncA vals fun a9001 r9002 => scK a9001 fun s9004 => SV.cP s9004 fun p1 => uncA r9002 fun a9007 r9008 => scK a9007 fun s9010 => SV.cP s9010 fun p2 => uncA r9008 fun a9013 r9014 => scK a9013 fun s9016 => SV.cP s9016 fun p3 => uncA r9014 fun a9019 r9020 => scK a9019 fun s9022 => SV.cI IntKind.i64 s9022 fun x17 => uncA r9020 fun a9025 r9026 => scK a9025 fun s9028 => SV.cI IntKind.i64 s9028 fun x18 => endL r9026 <| F58_4 D J p1 p2 p3 x17 x18 S K
theorem A58_4_ok {D J : Disp} (hD : DOK IrP IrG D) (hJ : JOK IrP IrG Go.Proofs.Try.f58 T58 J) {vals : List AV} {S : St} {K : AV → St → Prop} (h0 : A58_4 D J vals S K) : Runs IrP IrG Go.Proofs.Try.f58 (T58 4).1 (envOf (T58 4).2 vals) S K := by
  obtain ⟨a9001, r9002, rfl, h3⟩ := uncA_some h0
  obtain ⟨s9004, rfl, h5⟩ := scK_some h3
  obtain ⟨p1, rfl, h6⟩ := cP_some h5
  obtain ⟨a9007, r9008, rfl, h9⟩ := uncA_some h6
  obtain ⟨s9010, rfl, h11⟩ := scK_some h9
  obtain ⟨p2, rfl, h12⟩ := cP_some h11
  obtain ⟨a9013, r9014, rfl, h15⟩ := uncA_some h12
  obtain ⟨s9016, rfl, h17⟩ := scK_some h15
  obtain ⟨p3, rfl, h18⟩ := cP_some h17
  obtain ⟨a9019, r9020, rfl, h21⟩ := uncA_some h18
  obtain ⟨s9022, rfl, h23⟩ := scK_some h21
  obtain ⟨x17, rfl, h24⟩ := cI_some h23
  obtain ⟨a9025, r9026, rfl, h27⟩ := uncA_some h24
  obtain ⟨s9028, rfl, h29⟩ := scK_some h27
  obtain ⟨x18, rfl, h30⟩ := cI_some h29
  obtain ⟨rfl, h31⟩ := endL_some h30
  have hq := Eq.mp (F58_4_eq D J p1 p2 p3 x17 x18 S K) h31
  exact execK_runs hD.typed Ir_zero Ir_mixed hJ X58_4 (T58 4).1 (envOf (T58 4).2 _) S K (chk_of (by kernel_rfl) (by kernel_rfl)) hq
noncomputable abbrev A58_11 (D J : Disp) (vals : List AV) (S : St) (K : AV → St → Prop) : Prop :=
  uncA vals fun a9001 r9002 => scK a9001 fun s9004 => SV.cP s9004 fun p1 => uncA r9002 fun a9007 r9008 => scK a9007 fun s9010 => SV.cP s9010 fun p2 => uncA r9008 fun a9013 r9014 => scK a9013 fun s9016 => SV.cP s9016 fun p3 => uncA r9014 fun a9019 r9020 => scK a9019 fun s9022 => SV.cF s9022 fun f5 => uncA r9020 fun a9025 r9026 => scK a9025 fun s9028 => SV.cL s9028 fun l27 => uncA r9026 fun a9031 r9032 => scK a9031 fun s9034 => SV.cI IntKind.i64 s9034 fun x28 => uncA r9032 fun a9037 r9038 => scK a9037 fun s9040 => SV.cI IntKind.i64 s9040 fun x29 => endL r9038 <| F58_11 D J p1 p2 p3 f5 l27 x28 x29 S K
theorem A58_11_ok {D J : Disp} (hD : DOK IrP IrG D) (hJ : JOK IrP IrG Go.Proofs.Try.f58 T58 J) {vals : List AV} {S : St} {K : AV → St → Prop} (h0 : A58_11 D J vals S K) : Runs IrP IrG Go.Proofs.Try.f58 (T58 11).1 (envOf (T58 11).2 vals) S K := by
  obtain ⟨a9001, r9002, rfl, h3⟩ := uncA_some h0
  obtain ⟨s9004, rfl, h5⟩ := scK_some h3
  obtain ⟨p1, rfl, h6⟩ := cP_some h5
  obtain ⟨a9007, r9008, rfl, h9⟩ := uncA_some h6
  obtain ⟨s9010, rfl, h11⟩ := scK_some h9
  obtain ⟨p2, rfl, h12⟩ := cP_some h11
  obtain ⟨a9013, r9014, rfl, h15⟩ := uncA_some h12
  obtain ⟨s9016, rfl, h17⟩ := scK_some h15
  obtain ⟨p3, rfl, h18⟩ := cP_some h17
  obtain ⟨a9019, r9020, rfl, h21⟩ := uncA_some h18
  obtain ⟨s9022, rfl, h23⟩ := scK_some h21
  obtain ⟨f5, rfl, h24⟩ := cF_some h23
  obtain ⟨a9025, r9026, rfl, h27⟩ := uncA_some h24
  obtain ⟨s9028, rfl, h29⟩ := scK_some h27
  obtain ⟨l27, rfl, h30⟩ := cL_some h29
  obtain ⟨a9031, r9032, rfl, h33⟩ := uncA_some h30
  obtain ⟨s9034, rfl, h35⟩ := scK_some h33
  obtain ⟨x28, rfl, h36⟩ := cI_some h35
  obtain ⟨a9037, r9038, rfl, h39⟩ := uncA_some h36
  obtain ⟨s9040, rfl, h41⟩ := scK_some h39
  obtain ⟨x29, rfl, h42⟩ := cI_some h41
  obtain ⟨rfl, h43⟩ := endL_some h42
  have hq := Eq.mp (F58_11_eq D J p1 p2 p3 f5 l27 x28 x29 S K) h43
  exact execK_runs hD.typed Ir_zero Ir_mixed hJ X58_11 (T58 11).1 (envOf (T58 11).2 _) S K (chk_of (by kernel_rfl) (by kernel_rfl)) hq
noncomputable abbrev A58_15 (D J : Disp) (vals : List AV) (S : St) (K : AV → St → Prop) : Prop :=
  uncA vals fun a9001 r9002 => scK a9001 fun s9004 => SV.cP s9004 fun p1 => uncA r9002 fun a9007 r9008 => scK a9007 fun s9010 => SV.cP s9010 fun p2 => uncA r9008 fun a9013 r9014 => scK a9013 fun s9016 => SV.cP s9016 fun p3 => uncA r9014 fun a9019 r9020 => scK a9019 fun s9022 => SV.cF s9022 fun f5 => uncA r9020 fun a9025 r9026 => scK a9025 fun s9028 => SV.cP s9028 fun p7 => uncA r9026 fun a9031 r9032 => scK a9031 fun s9034 => SV.cL s9034 fun l27 => uncA r9032 fun a9037 r9038 => scK a9037 fun s9040 => SV.cI IntKind.i64 s9040 fun x28 => uncA r9038 fun a9043 r9044 => scK a9043 fun s9046 => SV.cI IntKind.i64 s9046 fun x29 => uncA r9044 fun a9049 r9050 => scK a9049 fun s9052 => SV.cI IntKind.i64 s9052 fun x35 => uncA r9050 fun a9055 r9056 => scK a9055 fun s9058 => SV.cI IntKind.i64 s9058 fun x36 => endL r9056 <| F58_15 D J p1 p2 p3 f5 p7 l27 x28 x29 x35 x36 S K
theorem A58_15_ok {D J : Disp} (hD : DOK IrP IrG D) (hJ : JOK IrP IrG Go.Proofs.Try.f58 T58 J) {vals : List AV} {S : St} {K : AV → St → Prop} (h0 : A58_15 D J vals S K) : Runs IrP IrG Go.Proofs.Try.f58 (T58 15).1 (envOf (T58 15).2 vals) S K := by
  obtain ⟨a9001, r9002, rfl, h3⟩ := uncA_some h0
  obtain ⟨s9004, rfl, h5⟩ := scK_some h3
  obtain ⟨p1, rfl, h6⟩ := cP_some h5
  obtain ⟨a9007, r9008, rfl, h9⟩ := uncA_some h6
  obtain ⟨s9010, rfl, h11⟩ := scK_some h9
  obtain ⟨p2, rfl, h12⟩ := cP_some h11
  obtain ⟨a9013, r9014, rfl, h15⟩ := uncA_some h12
  obtain ⟨s9016, rfl, h17⟩ := scK_some h15
  obtain ⟨p3, rfl, h18⟩ := cP_some h17
  obtain ⟨a9019, r9020, rfl, h21⟩ := uncA_some h18
  obtain ⟨s9022, rfl, h23⟩ := scK_some h21
  obtain ⟨f5, rfl, h24⟩ := cF_some h23
  obtain ⟨a9025, r9026, rfl, h27⟩ := uncA_some h24
  obtain ⟨s9028, rfl, h29⟩ := scK_some h27
  obtain ⟨p7, rfl, h30⟩ := cP_some h29
  obtain ⟨a9031, r9032, rfl, h33⟩ := uncA_some h30
  obtain ⟨s9034, rfl, h35⟩ := scK_some h33
  obtain ⟨l27, rfl, h36⟩ := cL_some h35
  obtain ⟨a9037, r9038, rfl, h39⟩ := uncA_some h36
  obtain ⟨s9040, rfl, h41⟩ := scK_some h39
  obtain ⟨x28, rfl, h42⟩ := cI_some h41
  obtain ⟨a9043, r9044, rfl, h45⟩ := uncA_some h42
  obtain ⟨s9046, rfl, h47⟩ := scK_some h45
  obtain ⟨x29, rfl, h48⟩ := cI_some h47
  obtain ⟨a9049, r9050, rfl, h51⟩ := uncA_some h48
  obtain ⟨s9052, rfl, h53⟩ := scK_some h51
  obtain ⟨x35, rfl, h54⟩ := cI_some h53
  obtain ⟨a9055, r9056, rfl, h57⟩ := uncA_some h54
  obtain ⟨s9058, rfl, h59⟩ := scK_some h57
  obtain ⟨x36, rfl, h60⟩ := cI_some h59
  obtain ⟨rfl, h61⟩ := endL_some h60
  have hq := Eq.mp (F58_15_eq D J p1 p2 p3 f5 p7 l27 x28 x29 x35 x36 S K) h61
  exact execK_runs hD.typed Ir_zero Ir_mixed hJ X58_15 (T58 15).1 (envOf (T58 15).2 _) S K (chk_of (by kernel_rfl) (by kernel_rfl)) hq
noncomputable abbrev A58_20 (D J : Disp) (vals : List AV) (S : St) (K : AV → St → Prop) : Prop :=
  uncA vals fun a9001 r9002 => scK a9001 fun s9004 => SV.cP s9004 fun p1 => uncA r9002 fun a9007 r9008 => scK a9007 fun s9010 => SV.cP s9010 fun p2 => uncA r9008 fun a9013 r9014 => scK a9013 fun s9016 => SV.cP s9016 fun p3 => uncA r9014 fun a9019 r9020 => scK a9019 fun s9022 => SV.cF s9022 fun f5 => uncA r9020 fun a9025 r9026 => scK a9025 fun s9028 => SV.cP s9028 fun p7 => uncA r9026 fun a9031 r9032 => scK a9031 fun s9034 => SV.cP s9034 fun p9 => uncA r9032 fun a9037 r9038 => scK a9037 fun s9040 => SV.cB s9040 fun c10 => uncA r9038 fun a9043 r9044 => scK a9043 fun s9046 => SV.cL s9046 fun l27 => uncA r9044 fun a9049 r9050 => scK a9049 fun s9052 => SV.cI IntKind.i64 s9052 fun x28 => uncA r9050 fun a9055 r9056 => scK a9055 fun s9058 => SV.cI IntKind.i64 s9058 fun x29 => uncA r9056 fun a9061 r9062 => scK a9061 fun s9064 => SV.cI IntKind.i64 s9064 fun x35 => uncA r9062 fun a9067 r9068 => scK a9067 fun s9070 => SV.cI IntKind.i64 s9070 fun x36 => endL r9068 <| F58_20 D J p1 p2 p3 f5 p7 p9 c10 l27 x28 x29 x35 x36 S K
theorem A58_20_ok {D J : Disp} (hD : DOK IrP IrG D) (hJ : JOK IrP IrG Go.Proofs.Try.f58 T58 J) {vals : List AV} {S : St} {K : AV → St → Prop} (h0 : A58_20 D J vals S K) : Runs IrP IrG Go.Proofs.Try.f58 (T58 20).1 (envOf (T58 20).2 vals) S K := by
  obtain ⟨a9001, r9002, rfl, h3⟩ := uncA_some h0
  obtain ⟨s9004, rfl, h5⟩ := scK_some h3
  obtain ⟨p1, rfl, h6⟩ := cP_some h5
  obtain ⟨a9007, r9008, rfl, h9⟩ := uncA_some h6
  obtain ⟨s9010, rfl, h11⟩ := scK_some h9
  obtain ⟨p2, rfl, h12⟩ := cP_some h11
  obtain ⟨a9013, r9014, rfl, h15⟩ := uncA_some h12
  obtain ⟨s9016, rfl, h17⟩ := scK_some h15
  obtain ⟨p3, rfl, h18⟩ := cP_some h17
  obtain ⟨a9019, r9020, rfl, h21⟩ := uncA_some h18
  obtain ⟨s9022, rfl, h23⟩ := scK_some h21
  obtain ⟨f5, rfl, h24⟩ := cF_some h23
  obtain ⟨a9025, r9026, rfl, h27⟩ := uncA_some h24
  obtain ⟨s9028, rfl, h29⟩ := scK_some h27
  obtain ⟨p7, rfl, h30⟩ := cP_some h29
  obtain ⟨a9031, r9032, rfl, h33⟩ := uncA_some h30
  obtain ⟨s9034, rfl, h35⟩ := scK_some h33
  obtain ⟨p9, rfl, h36⟩ := cP_some h35
  obtain ⟨a9037, r9038, rfl, h39⟩ := uncA_some h36
  obtain ⟨s9040, rfl, h41⟩ := scK_some h39
  obtain ⟨c10, rfl, h42⟩ := cB_some h41
  obtain ⟨a9043, r9044, rfl, h45⟩ := uncA_some h42
  obtain ⟨s9046, rfl, h47⟩ := scK_some h45
  obtain ⟨l27, rfl, h48⟩ := cL_some h47
  obtain ⟨a9049, r9050, rfl, h51⟩ := uncA_some h48
  obtain ⟨s9052, rfl, h53⟩ := scK_some h51
  obtain ⟨x28, rfl, h54⟩ := cI_some h53
  obtain ⟨a9055, r9056, rfl, h57⟩ := uncA_some h54
  obtain ⟨s9058, rfl, h59⟩ := scK_some h57
  obtain ⟨x29, rfl, h60⟩ := cI_some h59
  obtain ⟨a9061, r9062, rfl, h63⟩ := uncA_some h60
  obtain ⟨s9064, rfl, h65⟩ := scK_some h63
  obtain ⟨x35, rfl, h66⟩ := cI_some h65
  obtain ⟨a9067, r9068, rfl, h69⟩ := uncA_some h66
  obtain ⟨s9070, rfl, h71⟩ := scK_some h69
  obtain ⟨x36, rfl, h72⟩ := cI_some h71
  obtain ⟨rfl, h73⟩ := endL_some h72
  have hq := Eq.mp (F58_20_eq D J p1 p2 p3 f5 p7 p9 c10 l27 x28 x29 x35 x36 S K) h73
  exact execK_runs hD.typed Ir_zero Ir_mixed hJ X58_20 (T58 20).1 (envOf (T58 20).2 _) S K (chk_of (by kernel_rfl) (by kernel_rfl)) hq
noncomputable abbrev A58_24 (D J : Disp) (vals : List AV) (S : St) (K : AV → St → Prop) : Prop :=
  uncA vals fun a9001 r9002 => scK a9001 fun s9004 => SV.cP s9004 fun p1 => uncA r9002 fun a9007 r9008 => scK a9007 fun s9010 => SV.cP s9010 fun p2 => uncA r9008 fun a9013 r9014 => scK a9013 fun s9016 => SV.cP s9016 fun p3 => uncA r9014 fun a9019 r9020 => scK a9019 fun s9022 => SV.cF s9022 fun f5 => uncA r9020 fun a9025 r9026 => scK a9025 fun s9028 => SV.cP s9028 fun p7 => uncA r9026 fun a9031 r9032 => scK a9031 fun s9034 => SV.cP s9034 fun p9 => uncA r9032 fun a9037 r9038 => scK a9037 fun s9040 => SV.cB s9040 fun c10 => uncA r9038 fun a9043 r9044 => scK a9043 fun s9046 => SV.cI IntKind.i64 s9046 fun x11 => uncA r9044 fun a9049 r9050 => scK a9049 fun s9052 => SV.cL s9052 fun l27 => uncA r9050 fun a9055 r9056 => scK a9055 fun s9058 => SV.cI IntKind.i64 s9058 fun x28 => uncA r9056 fun a9061 r9062 => scK a9061 fun s9064 => SV.cI IntKind.i64 s9064 fun x29 => uncA r9062 fun a9067 r9068 => scK a9067 fun s9070 => SV.cI IntKind.i64 s9070 fun x35 => uncA r9068 fun a9073 r9074 => scK a9073 fun s9076 => SV.cI IntKind.i64 s9076 fun x36 => endL r9074 <| F58_24 D J p1 p2 p3 f5 p7 p9 c10 x11 l27 x28 x29 x35 x36 S K
theorem A58_24_ok {D J : Disp} (hD : DOK IrP IrG D) (hJ : JOK IrP IrG Go.Proofs.Try.f58 T58 J) {vals : List AV} {S : St} {K : AV → St → Prop} (h0 : A58_24 D J vals S K) : Runs IrP IrG Go.Proofs.Try.f58 (T58 24).1 (envOf (T58 24).2 vals) S K := by
  obtain ⟨a9001, r9002, rfl, h3⟩ := uncA_some h0
  obtain ⟨s9004, rfl, h5⟩ := scK_some h3
  obtain ⟨p1, rfl, h6⟩ := cP_some h5
  obtain ⟨a9007, r9008, rfl, h9⟩ := uncA_some h6
  obtain ⟨s9010, rfl, h11⟩ := scK_some h9
  obtain ⟨p2, rfl, h12⟩ := cP_some h11
  obtain ⟨a9013, r9014, rfl, h15⟩ := uncA_some h12
  obtain ⟨s9016, rfl, h17⟩ := scK_some h15
  obtain ⟨p3, rfl, h18⟩ := cP_some h17
  obtain ⟨a9019, r9020, rfl, h21⟩ := uncA_some h18
  obtain ⟨s9022, rfl, h23⟩ := scK_some h21
  obtain ⟨f5, rfl, h24⟩ := cF_some h23
  obtain ⟨a9025, r9026, rfl, h27⟩ := uncA_some h24
  obtain ⟨s9028, rfl, h29⟩ := scK_some h27
  obtain ⟨p7, rfl, h30⟩ := cP_some h29
  obtain ⟨a9031, r9032, rfl, h33⟩ := uncA_some h30
  obtain ⟨s9034, rfl, h35⟩ := scK_some h33
  obtain ⟨p9, rfl, h36⟩ := cP_some h35
  obtain ⟨a9037, r9038, rfl, h39⟩ := uncA_some h36
  obtain ⟨s9040, rfl, h41⟩ := scK_some h39
  obtain ⟨c10, rfl, h42⟩ := cB_some h41
  obtain ⟨a9043, r9044, rfl, h45⟩ := uncA_some h42
  obtain ⟨s9046, rfl, h47⟩ := scK_some h45
  obtain ⟨x11, rfl, h48⟩ := cI_some h47
  obtain ⟨a9049, r9050, rfl, h51⟩ := uncA_some h48
  obtain ⟨s9052, rfl, h53⟩ := scK_some h51
  obtain ⟨l27, rfl, h54⟩ := cL_some h53
  obtain ⟨a9055, r9056, rfl, h57⟩ := uncA_some h54
  obtain ⟨s9058, rfl, h59⟩ := scK_some h57
  obtain ⟨x28, rfl, h60⟩ := cI_some h59
  obtain ⟨a9061, r9062, rfl, h63⟩ := uncA_some h60
  obtain ⟨s9064, rfl, h65⟩ := scK_some h63
  obtain ⟨x29, rfl, h66⟩ := cI_some h65
  obtain ⟨a9067, r9068, rfl, h69⟩ := uncA_some h66
  obtain ⟨s9070, rfl, h71⟩ := scK_some h69
  obtain ⟨x35, rfl, h72⟩ := cI_some h71
  obtain ⟨a9073, r9074, rfl, h75⟩ := uncA_some h72
  obtain ⟨s9076, rfl, h77⟩ := scK_some h75
  obtain ⟨x36, rfl, h78⟩ := cI_some h77
  obtain ⟨rfl, h79⟩ := endL_some h78
  have hq := Eq.mp (F58_24_eq D J p1 p2 p3 f5 p7 p9 c10 x11 l27 x28 x29 x35 x36 S K) h79
  exact execK_runs hD.typed Ir_zero Ir_mixed hJ X58_24 (T58 24).1 (envOf (T58 24).2 _) S K (chk_of (by kernel_rfl) (by kernel_rfl)) hq
noncomputable abbrev A58_27 (D J : Disp) (vals : List AV) (S : St) (K : AV → St → Prop) : Prop :=
  uncA vals fun a9001 r9002 => scK a9001 fun s9004 => SV.cP s9004 fun p1 => uncA r9002 fun a9007 r9008 => scK a9007 fun s9010 => SV.cP s9010 fun p2 => uncA r9008 fun a9013 r9014 => scK a9013 fun s9016 => SV.cP s9016 fun p3 => uncA r9014 fun a9019 r9020 => scK a9019 fun s9022 => SV.cF s9022 fun f5 => uncA r9020 fun a9025 r9026 => scK a9025 fun s9028 => SV.cP s9028 fun p7 => uncA r9026 fun a9031 r9032 => scK a9031 fun s9034 => SV.cP s9034 fun p9 => uncA r9032 fun a9037 r9038 => scK a9037 fun s9040 => SV.cB s9040 fun c10 => uncA r9038 fun a9043 r9044 => scK a9043 fun s9046 => SV.cL s9046 fun l27 => uncA r9044 fun a9049 r9050 => scK a9049 fun s9052 => SV.cI IntKind.i64 s9052 fun x28 => uncA r9050 fun a9055 r9056 => scK a9055 fun s9058 => SV.cI IntKind.i64 s9058 fun x29 => uncA r9056 fun a9061 r9062 => scK a9061 fun s9064 => SV.cI IntKind.i64 s9064 fun x35 => uncA r9062 fun a9067 r9068 => scK a9067 fun s9070 => SV.cI IntKind.i64 s9070 fun x36 => endL r9068 <| F58_27 D J p1 p2 p3 f5 p7 p9 c10 l27 x28 x29 x35 x36 S K
theorem A58_27_ok {D J : Disp} (hD : DOK IrP IrG D) (hJ : JOK IrP IrG Go.Proofs.Try.f58 T58 J) {vals : List AV} {S : St} {K : AV → St → Prop} (h0 : A58_27 D J vals S K) : Runs IrP IrG Go.Proofs.Try.f58 (T58 27).1 (envOf (T58 27).2 vals) S K := by
  obtain ⟨a9001, r9002, rfl, h3⟩ := uncA_some h0
  obtain ⟨s9004, rfl, h5⟩ := scK_some h3
  obtain ⟨p1, rfl, h6⟩ := cP_some h5
  obtain ⟨a9007, r9008, rfl, h9⟩ := uncA_some h6
  obtain ⟨s9010, rfl, h11⟩ := scK_some h9
  obtain ⟨p2, rfl, h12⟩ := cP_some h11
  obtain ⟨a9013, r9014, rfl, h15⟩ := uncA_some h12
  obtain ⟨s9016, rfl, h17⟩ := scK_some h15
  obtain ⟨p3, rfl, h18⟩ := cP_some h17
  obtain ⟨a9019, r9020, rfl, h21⟩ := uncA_some h18
  obtain ⟨s9022, rfl, h23⟩ := scK_some h21
  obtain ⟨f5, rfl, h24⟩ := cF_some h23
  obtain ⟨a9025, r9026, rfl, h27⟩ := uncA_some h24
  obtain ⟨s9028, rfl, h29⟩ := scK_some h27
  obtain ⟨p7, rfl, h30⟩ := cP_some h29
  obtain ⟨a9031, r9032, rfl, h33⟩ := uncA_some h30
  obtain ⟨s9034, rfl, h35⟩ := scK_some h33
  obtain ⟨p9, rfl, h36⟩ := cP_some h35
  obtain ⟨a9037, r9038, rfl, h39⟩ := uncA_some h36
  obtain ⟨s9040, rfl, h41⟩ := scK_some h39
  obtain ⟨c10, rfl, h42⟩ := cB_some h41
  obtain ⟨a9043, r9044, rfl, h45⟩ := uncA_some h42
  obtain ⟨s9046, rfl, h47⟩ := scK_some h45
  obtain ⟨l27, rfl, h48⟩ := cL_some h47
  obtain ⟨a9049, r9050, rfl, h51⟩ := uncA_some h48
  obtain ⟨s9052, rfl, h53⟩ := scK_some h51
  obtain ⟨x28, rfl, h54⟩ := cI_some h53
  obtain ⟨a9055, r9056, rfl, h57⟩ := uncA_some h54
  obtain ⟨s9058, rfl, h59⟩ := scK_some h57
  obtain ⟨x29, rfl, h60⟩ := cI_some h59
  obtain ⟨a9061, r9062, rfl, h63⟩ := uncA_some h60
  obtain ⟨s9064, rfl, h65⟩ := scK_some h63
  obtain ⟨x35, rfl, h66⟩ := cI_some h65
  obtain ⟨a9067, r9068, rfl, h69⟩ := uncA_some h66
  obtain ⟨s9070, rfl, h71⟩ := scK_some h69
  obtain ⟨x36, rfl, h72⟩ := cI_some h71
  obtain ⟨rfl, h73⟩ := endL_some h72
  have hq := Eq.mp (F58_27_eq D J p1 p2 p3 f5 p7 p9 c10 l27 x28 x29 x35 x36 S K) h73
  exact execK_runs hD.typed Ir_zero Ir_mixed hJ X58_27 (T58 27).1 (envOf (T58 27).2 _) S K (chk_of (by kernel_rfl) (by kernel_rfl)) hq
noncomputable abbrev A58_28 (D J : Disp) (vals : List AV) (S : St) (K : AV → St → Prop) : Prop :=
  uncA vals fun a9001 r9002 => scK a9001 fun s9004 => SV.cP s9004 fun p1 => uncA r9002 fun a9007 r9008 => scK a9007 fun s9010 => SV.cP s9010 fun p2 => uncA r9008 fun a9013 r9014 => scK a9013 fun s9016 => SV.cP s9016 fun p3 => uncA r9014 fun a9019 r9020 => scK a9019 fun s9022 => SV.cF s9022 fun f5 => uncA r9020 fun a9025 r9026 => scK a9025 fun s9028 => SV.cP s9028 fun p7 => uncA r9026 fun a9031 r9032 => scK a9031 fun s9034 => SV.cP s9034 fun p9 => uncA r9032 fun a9037 r9038 => scK a9037 fun s9040 => SV.cB s9040 fun c10 => uncA r9038 fun a9043 r9044 => scK a9043 fun s9046 => SV.cL s9046 fun l27 => uncA r9044 fun a9049 r9050 => scK a9049 fun s9052 => SV.cI IntKind.i64 s9052 fun x28 => uncA r9050 fun a9055 r9056 => scK a9055 fun s9058 => SV.cI IntKind.i64 s9058 fun x29 => uncA r9056 fun a9061 r9062 => scK a9061 fun s9064 => SV.cI IntKind.i64 s9064 fun x35 => uncA r9062 fun a9067 r9068 => scK a9067 fun s9070 => SV.cI IntKind.i64 s9070 fun x36 => uncA r9068 fun a9073 r9074 => scK a9073 fun s9076 => SV.cB s9076 fun c100 => endL r9074 <| F58_28 D J p1 p2 p3 f5 p7 p9 c10 l27 x28 x29 x35 x36 c100 S K
theorem A58_28_ok {D J : Disp} (hD : DOK IrP IrG D) (hJ : JOK IrP IrG Go.Proofs.Try.f58 T58 J) {vals : List AV} {S : St} {K : AV → St → Prop} (h0 : A58_28 D J vals S K) : Runs IrP IrG Go.Proofs.Try.f58 (T58 28).1 (envOf (T58 28).2 vals) S K := by
  obtain ⟨a9001, r9002, rfl, h3⟩ := uncA_some h0
  obtain ⟨s9004, rfl, h5⟩ := scK_some h3
  obtain ⟨p1, rfl, h6⟩ := cP_some h5
  obtain ⟨a9007, r9008, rfl, h9⟩ := uncA_some h6
  obtain ⟨s9010, rfl, h11⟩ := scK_some h9
  obtain ⟨p2, rfl, h12⟩ := cP_some h11
  obtain ⟨a9013, r9014, rfl, h15⟩ := uncA_some h12
  obtain ⟨s9016, rfl, h17⟩ := scK_some h15
  obtain ⟨p3, rfl, h18⟩ := cP_some h17
  obtain ⟨a9019, r9020, rfl, h21⟩ := uncA_some h18
  obtain ⟨s9022, rfl, h23⟩ := scK_some h21
  obtain ⟨f5, rfl, h24⟩ := cF_some h23
  obtain ⟨a9025, r9026, rfl, h27⟩ := uncA_some h24
  obtain ⟨s9028, rfl, h29⟩ := scK_some h27
  obtain ⟨p7, rfl, h30⟩ := cP_some h29
  obtain ⟨a9031, r9032, rfl, h33⟩ := uncA_some h30
  obtain ⟨s9034, rfl, h35⟩ := scK_some h33
  obtain ⟨p9, rfl, h36⟩ := cP_some h35
  obtain ⟨a9037, r9038, rfl, h39⟩ := uncA_some h36
  obtain ⟨s9040, rfl, h41⟩ := scK_some h39
  obtain ⟨c10, rfl, h42⟩ := cB_some h41
  obtain ⟨a9043, r9044, rfl, h45⟩ := uncA_some h42
  obtain ⟨s9046, rfl, h47⟩ := scK_some h45
  obtain ⟨l27, rfl, h48⟩ := cL_some h47
  obtain ⟨a9049, r9050, rfl, h51⟩ := uncA_some h48
  obtain ⟨s9052, rfl, h53⟩ := scK_some h51
  obtain ⟨x28, rfl, h54⟩ := cI_some h53
  obtain ⟨a9055, r9056, rfl, h57⟩ := uncA_some h54
  obtain ⟨s9058, rfl, h59⟩ := scK_some h57
  obtain ⟨x29, rfl, h60⟩ := cI_some h59
  obtain ⟨a9061, r9062, rfl, h63⟩ := uncA_some h60
  obtain ⟨s9064, rfl, h65⟩ := scK_some h63
  obtain ⟨x35, rfl, h66⟩ := cI_some h65
  obtain ⟨a9067, r9068, rfl, h69⟩ := uncA_some h66
  obtain ⟨s9070, rfl, h71⟩ := scK_some h69
  obtain ⟨x36, rfl, h72⟩ := cI_some h71
  obtain ⟨a9073, r9074, rfl, h75⟩ := uncA_some h72
  obtain ⟨s9076, rfl, h77⟩ := scK_some h75
  obtain ⟨c100, rfl, h78⟩ := cB_some h77
  obtain ⟨rfl, h79⟩ := endL_some h78
  have hq := Eq.mp (F58_28_eq D J p1 p2 p3 f5 p7 p9 c10 l27 x28 x29 x35 x36 c100 S K) h79
  exact execK_runs hD.typed Ir_zero Ir_mixed hJ X58_28 (T58 28).1 (envOf (T58 28).2 _) S K (chk_of (by kernel_rfl) (by kernel_rfl)) hq
noncomputable abbrev A58_30 (D J : Disp) (vals : List AV) (S : St) (K : AV → St → Prop) : Prop :=
  uncA vals fun a9001 r9002 => scK a9001 fun s9004 => SV.cP s9004 fun p1 => uncA r9002 fun a9007 r9008 => scK a9007 fun s9010 => SV.cP s9010 fun p2 => uncA r9008 fun a9013 r9014 => scK a9013 fun s9016 => SV.cP s9016 fun p3 => uncA r9014 fun a9019 r9020 => scK a9019 fun s9022 => SV.cF s9022 fun f5 => uncA r9020 fun a9025 r9026 => scK a9025 fun s9028 => SV.cP s9028 fun p7 => uncA r9026 fun a9031 r9032 => scK a9031 fun s9034 => SV.cP s9034 fun p9 => uncA r9032 fun a9037 r9038 => scK a9037 fun s9040 => SV.cB s9040 fun c10 => uncA r9038 fun a9043 r9044 => scK a9043 fun s9046 => SV.cL s9046 fun l27 => uncA r9044 fun a9049 r9050 => scK a9049 fun s9052 => SV.cI IntKind.i64 s9052 fun x28 => uncA r9050 fun a9055 r9056 => scK a9055 fun s9058 => SV.cI IntKind.i64 s9058 fun x29 => uncA r9056 fun a9061 r9062 => scK a9061 fun s9064 => SV.cI IntKind.i64 s9064 fun x35 => uncA r9062 fun a9067 r9068 => scK a9067 fun s9070 => SV.cI IntKind.i64 s9070 fun x36 => endL r9068 <| F58_30 D J p1 p2 p3 f5 p7 p9 c10 l27 x28 x29 x35 x36 S K
theorem A58_30_ok {D J : Disp} (hD : DOK IrP IrG D) (hJ : JOK IrP IrG Go.Proofs.Try.f58 T58 J) {vals : List AV} {S : St} {K : AV → St → Prop} (h0 : A58_30 D J vals S K) : Runs IrP IrG Go.Proofs.Try.f58 (T58 30).1 (envOf (T58 30).2 vals) S K := by
  obtain ⟨a9001, r9002, rfl, h3⟩ := uncA_some h0
  obtain ⟨s9004, rfl, h5⟩ := scK_some h3
  obtain ⟨p1, rfl, h6⟩ := cP_some h5
  obtain ⟨a9007, r9008, rfl, h9⟩ := uncA_some h6
  obtain ⟨s9010, rfl, h11⟩ := scK_some h9
  obtain ⟨p2, rfl, h12⟩ := cP_some h11
  obtain ⟨a9013, r9014, rfl, h15⟩ := uncA_some h12
  obtain ⟨s9016, rfl, h17⟩ := scK_some h15
  obtain ⟨p3, rfl, h18⟩ := cP_some h17
  obtain ⟨a9019, r9020, rfl, h21⟩ := uncA_some h18
  obtain ⟨s9022, rfl, h23⟩ := scK_some h21
  obtain ⟨f5, rfl, h24⟩ := cF_some h23
  obtain ⟨a9025, r9026, rfl, h27⟩ := uncA_some h24
  obtain ⟨s9028, rfl, h29⟩ := scK_some h27
  obtain ⟨p7, rfl, h30⟩ := cP_some h29
  obtain ⟨a9031, r9032, rfl, h33⟩ := uncA_some h30
  obtain ⟨s9034, rfl, h35⟩ := scK_some h33
  obtain ⟨p9, rfl, h36⟩ := cP_some h35
  obtain ⟨a9037, r9038, rfl, h39⟩ := uncA_some h36
  obtain ⟨s9040, rfl, h41⟩ := scK_some h39
  obtain ⟨c10, rfl, h42⟩ := cB_some h41
  obtain ⟨a9043, r9044, rfl, h45⟩ := uncA_some h42
  obtain ⟨s9046, rfl, h47⟩ := scK_some h45
  obtain ⟨l27, rfl, h48⟩ := cL_some h47
  obtain ⟨a9049, r9050, rfl, h51⟩ := uncA_some h48
  obtain ⟨s9052, rfl, h53⟩ := scK_some h51
  obtain ⟨x28, rfl, h54⟩ := cI_some h53
  obtain ⟨a9055, r9056, rfl, h57⟩ := uncA_some h54
  obtain ⟨s9058, rfl, h59⟩ := scK_some h57
  obtain ⟨x29, rfl, h60⟩ := cI_some h59
  obtain ⟨a9061, r9062, rfl, h63⟩ := uncA_some h60
  obtain ⟨s9064, rfl, h65⟩ := scK_some h63
  obtain ⟨x35, rfl, h66⟩ := cI_some h65
  obtain ⟨a9067, r9068, rfl, h69⟩ := uncA_some h66
  obtain ⟨s9070, rfl, h71⟩ := scK_some h69
  obtain ⟨x36, rfl, h72⟩ := cI_some h71
  obtain ⟨rfl, h73⟩ := endL_some h72
  have hq := Eq.mp (F58_30_eq D J p1 p2 p3 f5 p7 p9 c10 l27 x28 x29 x35 x36 S K) h73
  exact execK_runs hD.typed Ir_zero Ir_mixed hJ X58_30 (T58 30).1 (envOf (T58 30).2 _) S K (chk_of (by kernel_rfl) (by kernel_rfl)) hq
noncomputable abbrev A58_31 (D J : Disp) (vals : List AV) (S : St) (K : AV → St → Prop) : Prop :=
  uncA vals fun a9001 r9002 => scK a9001 fun s9004 => SV.cP s9004 fun p1 => uncA r9002 fun a9007 r9008 => scK a9007 fun s9010 => SV.cP s9010 fun p2 => uncA r9008 fun a9013 r9014 => scK a9013 fun s9016 => SV.cP s9016 fun p3 => uncA r9014 fun a9019 r9020 => scK a9019 fun s9022 => SV.cF s9022 fun f5 => uncA r9020 fun a9025 r9026 => scK a9025 fun s9028 => SV.cP s9028 fun p7 => uncA r9026 fun a9031 r9032 => scK a9031 fun s9034 => SV.cP s9034 fun p9 => uncA r9032 fun a9037 r9038 => scK a9037 fun s9040 => SV.cB s9040 fun c10 => uncA r9038 fun a9043 r9044 => scK a9043 fun s9046 => SV.cL s9046 fun l27 => uncA r9044 fun a9049 r9050 => scK a9049 fun s9052 => SV.cI IntKind.i64 s9052 fun x28 => uncA r9050 fun a9055 r9056 => scK a9055 fun s9058 => SV.cI IntKind.i64 s9058 fun x29 => uncA r9056 fun a9061 r9062 => scK a9061 fun s9064 => SV.cI IntKind.i64 s9064 fun x35 => uncA r9062 fun a9067 r9068 => scK a9067 fun s9070 => SV.cI IntKind.i64 s9070 fun x36 => uncA r9068 fun a9073 r9074 => scK a9073 fun s9076 => SV.cI IntKind.i64 s9076 fun x110 => uncA r9074 fun a9079 r9080 => scK a9079 fun s9082 => SV.cI IntKind.i64 s9082 fun x111 => endL r9080 <| F58_31 D J p1 p2 p3 f5 p7 p9 c10 l27 x28 x29 x35 x36 x110 x111 S K
theorem A58_31_ok {D J : Disp} (hD : DOK IrP IrG D) (hJ : JOK IrP IrG Go.Proofs.Try.f58 T58 J) {vals : List AV} {S : St} {K : AV → St → Prop} (h0 : A58_31 D J vals S K) : Runs IrP IrG Go.Proofs.Try.f58 (T58 31).1 (envOf (T58 31).2 vals) S K := by
  obtain ⟨a9001, r9002, rfl, h3⟩ := uncA_some h0
  obtain ⟨s9004, rfl, h5⟩ := scK_some h3
  obtain ⟨p1, rfl, h6⟩ := cP_some h5
  obtain ⟨a9007, r9008, rfl, h9⟩ := uncA_some h6
  obtain ⟨s9010, rfl, h11⟩ := scK_some h9
  obtain ⟨p2, rfl, h12⟩ := cP_some h11
  obtain ⟨a9013, r9014, rfl, h15⟩ := uncA_some h12
  obtain ⟨s9016, rfl, h17⟩ := scK_some h15
  obtain ⟨p3, rfl, h18⟩ := cP_some h17
  obtain ⟨a9019, r9020, rfl, h21⟩ := uncA_some h18
  obtain ⟨s9022, rfl, h23⟩ := scK_some h21
  obtain ⟨f5, rfl, h24⟩ := cF_some h23
  obtain ⟨a9025, r9026, rfl, h27⟩ := uncA_some h24
  obtain ⟨s9028, rfl, h29⟩ := scK_some h27
  obtain ⟨p7, rfl, h30⟩ := cP_some h29
  obtain ⟨a9031, r9032, rfl, h33⟩ := uncA_some h30
  obtain ⟨s9034, rfl, h35⟩ := scK_some h33
  obtain ⟨p9, rfl, h36⟩ := cP_some h35
  obtain ⟨a9037, r9038, rfl, h39⟩ := uncA_some h36
  obtain ⟨s9040, rfl, h41⟩ := scK_some h39
  obtain ⟨c10, rfl, h42⟩ := cB_some h41
  obtain ⟨a9043, r9044, rfl, h45⟩ := uncA_some h42
  obtain ⟨s9046, rfl, h47⟩ := scK_some h45
  obtain ⟨l27, rfl, h48⟩ := cL_some h47
  obtain ⟨a9049, r9050, rfl, h51⟩ := uncA_some h48
  obtain ⟨s9052, rfl, h53⟩ := scK_some h51
  obtain ⟨x28, rfl, h54⟩ := cI_some h53
  obtain ⟨a9055, r9056, rfl, h57⟩ := uncA_some h54
  obtain ⟨s9058, rfl, h59⟩ := scK_some h57
  obtain ⟨x29, rfl, h60⟩ := cI_some h59
  obtain ⟨a9061, r9062, rfl, h63⟩ := uncA_some h60
  obtain ⟨s9064, rfl, h65⟩ := scK_some h63
  obtain ⟨x35, rfl, h66⟩ := cI_some h65
  obtain ⟨a9067, r9068, rfl, h69⟩ := uncA_some h66
  obtain ⟨s9070, rfl, h71⟩ := scK_some h69
  obtain ⟨x36, rfl, h72⟩ := cI_some h71
  obtain ⟨a9073, r9074, rfl, h75⟩ := uncA_some h72
  obtain ⟨s9076, rfl, h77⟩ := scK_some h75
  obtain ⟨x110, rfl, h78⟩ := cI_some h77
  obtain ⟨a9079, r9080, rfl, h81⟩ := uncA_some h78
  obtain ⟨s9082, rfl, h83⟩ := scK_some h81
  obtain ⟨x111, rfl, h84⟩ := cI_some h83
  obtain ⟨rfl, h85⟩ := endL_some h84
  have hq := Eq.mp (F58_31_eq D J p1 p2 p3 f5 p7 p9 c10 l27 x28 x29 x35 x36 x110 x111 S K) h85
  exact execK_runs hD.typed Ir_zero Ir_mixed hJ X58_31 (T58 31).1 (envOf (T58 31).2 _) S K (chk_of (by kernel_rfl) (by kernel_rfl)) hq
noncomputable abbrev A58_37 (D J : Disp) (vals : List AV) (S : St) (K : AV → St → Prop) : Prop :=
  uncA vals fun a9001 r9002 => scK a9001 fun s9004 => SV.cP s9004 fun p1 => uncA r9002 fun a9007 r9008 => scK a9007 fun s9010 => SV.cP s9010 fun p2 => uncA r9008 fun a9013 r9014 => scK a9013 fun s9016 => SV.cP s9016 fun p3 => uncA r9014 fun a9019 r9020 => scK a9019 fun s9022 => SV.cF s9022 fun f5 => uncA r9020 fun a9025 r9026 => scK a9025 fun s9028 => SV.cP s9028 fun p7 => uncA r9026 fun a9031 r9032 => scK a9031 fun s9034 => SV.cP s9034 fun p9 => uncA r9032 fun a9037 r9038 => scK a9037 fun s9040 => SV.cB s9040 fun c10 => uncA r9038 fun a9043 r9044 => scK a9043 fun s9046 => SV.cL s9046 fun l27 => uncA r9044 fun a9049 r9050 => scK a9049 fun s9052 => SV.cI IntKind.i64 s9052 fun x28 => uncA r9050 fun a9055 r9056 => scK a9055 fun s9058 => SV.cI IntKind.i64 s9058 fun x29 => uncA r9056 fun a9061 r9062 => scK a9061 fun s9064 => SV.cI IntKind.i64 s9064 fun x35 => uncA r9062 fun a9067 r9068 => scK a9067 fun s9070 => SV.cI IntKind.i64 s9070 fun x36 => uncA r9068 fun a9073 r9074 => scK a9073 fun s9076 => SV.cI IntKind.i64 s9076 fun x110 => uncA r9074 fun a9079 r9080 => scK a9079 fun s9082 => SV.cI IntKind.i64 s9082 fun x111 => endL r9080 <| F58_37 D J p1 p2 p3 f5 p7 p9 c10 l27 x28 x29 x35 x36 x110 x111 S K
theorem A58_37_ok {D J : Disp} (hD : DOK IrP IrG D) (hJ : JOK IrP IrG Go.Proofs.Try.f58 T58 J) {vals : List AV} {S : St} {K : AV → St → Prop} (h0 : A58_37 D J vals S K) : Runs IrP IrG Go.Proofs.Try.f58 (T58 37).1 (envOf (T58 37).2 vals) S K := by
  obtain ⟨a9001, r9002, rfl, h3⟩ := uncA_some h0
  obtain ⟨s9004, rfl, h5⟩ := scK_some h3
  obtain ⟨p1, rfl, h6⟩ := cP_some h5
  obtain ⟨a9007, r9008, rfl, h9⟩ := uncA_some h6
  obtain ⟨s9010, rfl, h11⟩ := scK_some h9
  obtain ⟨p2, rfl, h12⟩ := cP_some h11
  obtain ⟨a9013, r9014, rfl, h15⟩ := uncA_some h12
  obtain ⟨s9016, rfl, h17⟩ := scK_some h15
  obtain ⟨p3, rfl, h18⟩ := cP_some h17
  obtain ⟨a9019, r9020, rfl, h21⟩ := uncA_some h18
  obtain ⟨s9022, rfl, h23⟩ := scK_some h21
  obtain ⟨f5, rfl, h24⟩ := cF_some h23
  obtain ⟨a9025, r9026, rfl, h27⟩ := uncA_some h24
  obtain ⟨s9028, rfl, h29⟩ := scK_some h27
  obtain ⟨p7, rfl, h30⟩ := cP_some h29
  obtain ⟨a9031, r9032, rfl, h33⟩ := uncA_some h30
  obtain ⟨s9034, rfl, h35⟩ := scK_some h33
  obtain ⟨p9, rfl, h36⟩ := cP_some h35
  obtain ⟨a9037, r9038, rfl, h39⟩ := uncA_some h36
  obtain ⟨s9040, rfl, h41⟩ := scK_some h39
  obtain ⟨c10, rfl, h42⟩ := cB_some h41
  obtain ⟨a9043, r9044, rfl, h45⟩ := uncA_some h42
  obtain ⟨s9046, rfl, h47⟩ := scK_some h45
  obtain ⟨l27, rfl, h48⟩ := cL_some h47
  obtain ⟨a9049, r9050, rfl, h51⟩ := uncA_some h48
  obtain ⟨s9052, rfl, h53⟩ := scK_some h51
  obtain ⟨x28, rfl, h54⟩ := cI_some h53
  obtain ⟨a9055, r9056, rfl, h57⟩ := uncA_some h54
  obtain ⟨s9058, rfl, h59⟩ := scK_some h57
  obtain ⟨x29, rfl, h60⟩ := cI_some h59
  obtain ⟨a9061, r9062, rfl, h63⟩ := uncA_some h60
  obtain ⟨s9064, rfl, h65⟩ := scK_some h63
  obtain ⟨x35, rfl, h66⟩ := cI_some h65
  obtain ⟨a9067, r9068, rfl, h69⟩ := uncA_some h66
  obtain ⟨s9070, rfl, h71⟩ := scK_some h69
  obtain ⟨x36, rfl, h72⟩ := cI_some h71
  obtain ⟨a9073, r9074, rfl, h75⟩ := uncA_some h72
  obtain ⟨s9076, rfl, h77⟩ := scK_some h75
  obtain ⟨x110, rfl, h78⟩ := cI_some h77
  obtain ⟨a9079, r9080, rfl, h81⟩ := uncA_some h78
  obtain ⟨s9082, rfl, h83⟩ := scK_some h81
  obtain ⟨x111, rfl, h84⟩ := cI_some h83
  obtain ⟨rfl, h85⟩ := endL_some h84
  have hq := Eq.mp (F58_37_eq D J p1 p2 p3 f5 p7 p9 c10 l27 x28 x29 x35 x36 x110 x111 S K) h85
  exact execK_runs hD.typed Ir_zero Ir_mixed hJ X58_37 (T58 37).1 (envOf (T58 37).2 _) S K (chk_of (by kernel_rfl) (by kernel_rfl)) hq
noncomputable abbrev A58_41 (D J : Disp) (vals : List AV) (S : St) (K : AV → St → Prop) : Prop :=
  uncA vals fun a9001 r9002 => scK a9001 fun s9004 => SV.cP s9004 fun p1 => uncA r9002 fun a9007 r9008 => scK a9007 fun s9010 => SV.cP s9010 fun p2 => uncA r9008 fun a9013 r9014 => scK a9013 fun s9016 => SV.cP s9016 fun p3 => uncA r9014 fun a9019 r9020 => scK a9019 fun s9022 => SV.cF s9022 fun f5 => uncA r9020 fun a9025 r9026 => scK a9025 fun s9028 => SV.cP s9028 fun p7 => uncA r9026 fun a9031 r9032 => scK a9031 fun s9034 => SV.cL s9034 fun l27 => uncA r9032 fun a9037 r9038 => scK a9037 fun s9040 => SV.cI IntKind.i64 s9040 fun x28 => uncA r9038 fun a9043 r9044 => scK a9043 fun s9046 => SV.cI IntKind.i64 s9046 fun x29 => uncA r9044 fun a9049 r9050 => scK a9049 fun s9052 => SV.cI IntKind.i64 s9052 fun x35 => uncA r9050 fun a9055 r9056 => scK a9055 fun s9058 => SV.cI IntKind.i64 s9058 fun x36 => endL r9056 <| F58_41 D J p1 p2 p3 f5 p7 l27 x28 x29 x35 x36 S K
theorem A58_41_ok {D J : Disp} (hD : DOK IrP IrG D) (hJ : JOK IrP IrG Go.Proofs.Try.f58 T58 J) {vals : List AV} {S : St} {K : AV → St → Prop} (h0 : A58_41 D J vals S K) : Runs IrP IrG Go.Proofs.Try.f58 (T58 41).1 (envOf (T58 41).2 vals) S K := by
  obtain ⟨a9001, r9002, rfl, h3⟩ := uncA_some h0
  obtain ⟨s9004, rfl, h5⟩ := scK_some h3
  obtain ⟨p1, rfl, h6⟩ := cP_some h5
  obtain ⟨a9007, r9008, rfl, h9⟩ := uncA_some h6
  obtain ⟨s9010, rfl, h11⟩ := scK_some h9
  obtain ⟨p2, rfl, h12⟩ := cP_some h11
  obtain ⟨a9013, r9014, rfl, h15⟩ := uncA_some h12
  obtain ⟨s9016, rfl, h17⟩ := scK_some h15
  obtain ⟨p3, rfl, h18⟩ := cP_some h17
  obtain ⟨a9019, r9020, rfl, h21⟩ := uncA_some h18
  obtain ⟨s9022, rfl, h23⟩ := scK_some h21
  obtain ⟨f5, rfl, h24⟩ := cF_some h23
  obtain ⟨a9025, r9026, rfl, h27⟩ := uncA_some h24
  obtain ⟨s9028, rfl, h29⟩ := scK_some h27
  obtain ⟨p7, rfl, h30⟩ := cP_some h29
  obtain ⟨a9031, r9032, rfl, h33⟩ := uncA_some h30
  obtain ⟨s9034, rfl, h35⟩ := scK_some h33
  obtain ⟨l27, rfl, h36⟩ := cL_some h35
  obtain ⟨a9037, r9038, rfl, h39⟩ := uncA_some h36
  obtain ⟨s9040, rfl, h41⟩ := scK_some h39
  obtain ⟨x28, rfl, h42⟩ := cI_some h41
  obtain ⟨a9043, r9044, rfl, h45⟩ := uncA_some h42
  obtain ⟨s9046, rfl, h47⟩ := scK_some h45
  obtain ⟨x29, rfl, h48⟩ := cI_some h47
  obtain ⟨a9049, r9050, rfl, h51⟩ := uncA_some h48
  obtain ⟨s9052, rfl, h53⟩ := scK_some h51
  obtain ⟨x35, rfl, h54⟩ := cI_some h53
  obtain ⟨a9055, r9056, rfl, h57⟩ := uncA_some h54
  obtain ⟨s9058, rfl, h59⟩ := scK_some h57
  obtain ⟨x36, rfl, h60⟩ := cI_some h59
  obtain ⟨rfl, h61⟩ := endL_some h60
  have hq := Eq.mp (F58_41_eq D J p1 p2 p3 f5 p7 l27 x28 x29 x35 x36 S K) h61
  exact execK_runs hD.typed Ir_zero Ir_mixed hJ X58_41 (T58 41).1 (envOf (T58 41).2 _) S K (chk_of (by kernel_rfl) (by kernel_rfl)) hq
noncomputable def J58 (D : Disp) (k : Nat) : Disp := Nat.rec (motive := fun _ => Disp) Disp.no (fun _ ih => Disp.add 0 (A58_0 D ih) <| Disp.add 4 (A58_4 D ih) <| Disp.add 11 (A58_11 D ih) <| Disp.add 15 (A58_15 D ih) <| Disp.add 20 (A58_20 D ih) <| Disp.add 24 (A58_24 D ih) <| Disp.add 27 (A58_27 D ih) <| Disp.add 28 (A58_28 D ih) <| Disp.add 30 (A58_30 D ih) <| Disp.add 31 (A58_31 D ih) <| Disp.add 37 (A58_37 D ih) <| Disp.add 41 (A58_41 D ih) <| Disp.no) k
theorem J58_ok {D : Disp} (hD : DOK IrP IrG D) : ∀ k, JOK IrP IrG Go.Proofs.Try.f58 T58 (J58 D k)
  | 0 => JOK.no
  | k + 1 => JOK.add (ltB_ok (by kernel_rfl)) (fun vals S K h => A58_0_ok hD (J58_ok hD k) h) <| JOK.add (ltB_ok (by kernel_rfl)) (fun vals S K h => A58_4_ok hD (J58_ok hD k) h) <| JOK.add (ltB_ok (by kernel_rfl)) (fun vals S K h => A58_11_ok hD (J58_ok hD k) h) <| JOK.add (ltB_ok (by kernel_rfl)) (fun vals S K h => A58_15_ok hD (J58_ok hD k) h) <| JOK.add (ltB_ok (by kernel_rfl)) (fun vals S K h => A58_20_ok hD (J58_ok hD k) h) <| JOK.add (ltB_ok (by kernel_rfl)) (fun vals S K h => A58_24_ok hD (J58_ok hD k) h) <| JOK.add (ltB_ok (by kernel_rfl)) (fun vals S K h => A58_27_ok hD (J58_ok hD k) h) <| JOK.add (ltB_ok (by kernel_rfl)) (fun vals S K h => A58_28_ok hD (J58_ok hD k) h) <| JOK.add (ltB_ok (by kernel_rfl)) (fun vals S K h => A58_30_ok hD (J58_ok hD k) h) <| JOK.add (ltB_ok (by kernel_rfl)) (fun vals S K h => A58_31_ok hD (J58_ok hD k) h) <| JOK.add (ltB_ok (by kernel_rfl)) (fun vals S K h => A58_37_ok hD (J58_ok hD k) h) <| JOK.add (ltB_ok (by kernel_rfl)) (fun vals S K h => A58_41_ok hD (J58_ok hD k) h) <| JOK.no
theorem E58_ok {D : Disp} (hD : DOK IrP IrG D) (k : Nat) {args : List AV} {S : St} {K : AV → St → Prop} (h : A58_0 D (J58 D k) args S K) : CallE IrP IrG 58 args S K := by
  have hr := A58_0_ok hD (J58_ok hD k) h
  have hl : args.length = 1 := by
    have h0 := h
    obtain ⟨a9001, r9002, rfl, h3⟩ := uncA_some h0
    obtain ⟨l9004, rfl, h5⟩ := avA_some h3
    obtain ⟨s9006, r9007, rfl, h8⟩ := uncK_some h5
    obtain ⟨s0_0, rfl, h9⟩ := cS_some h8
    obtain ⟨s9010, r9011, rfl, h12⟩ := uncK_some h9
    obtain ⟨x0_1, rfl, h13⟩ := cI_some h12
    obtain ⟨s9014, r9015, rfl, h16⟩ := uncK_some h13
    obtain ⟨x0_2, rfl, h17⟩ := cI_some h16
    obtain ⟨s9018, r9019, rfl, h20⟩ := uncK_some h17
    obtain ⟨l0_3, rfl, h21⟩ := cL_some h20
    obtain ⟨s9022, r9023, rfl, h24⟩ := uncK_some h21
    obtain ⟨l0_4, rfl, h25⟩ := cL_some h24
    obtain ⟨s9026, r9027, rfl, h28⟩ := uncK_some h25
    obtain ⟨c0_5, rfl, h29⟩ := cB_some h28
    obtain ⟨rfl, h30⟩ := endL_some h29
    obtain ⟨rfl, h31⟩ := endL_some h30
    rfl
  refine callOK_of (fn := Go.Proofs.Try.f58) (c := (match Go.Proofs.Try.f58.body with | some c => c | none => .skip)) (by kernel_rfl) (by kernel_rfl) (by kernel_rfl) (by rw [hl]; kernel_rfl) (by kernel_rfl) ?_
  rw [hl]
  exact hr
noncomputable def plans59 (i : Nat) : Plan := []
noncomputable def T59 (p : Nat) : List Item × List Nat := bif Nat.beq p 0 then ([.code (match Go.Proofs.Try.f59.body with | some c => c | none => .skip)], [0]) else
  ([], [])
noncomputable def X59_0 : X := (.op (.op .ret))
noncomputable def A59_0 (D J : Disp) (vals : List AV) (S : St) (K : AV → St → Prop) : Prop := req (Nat.beq vals.length 1) (execK IrP IrG Go.Proofs.Try.f59 (typed IrP D) J plans59 X59_0 (T59 0).1 (envOf (T59 0).2 vals) S K)
theorem A59_0_ok {D J : Disp} (hD : DOK IrP IrG D) (hJ : JOK IrP IrG Go.Proofs.Try.f59 T59 J) {vals : List AV} {S : St} {K : AV → St → Prop} (h0 : A59_0 D J vals S K) : Runs IrP IrG Go.Proofs.Try.f59 (T59 0).1 (envOf (T59 0).2 vals) S K :=
  execK_runs hD.typed Ir_zero Ir_mixed hJ X59_0 (T59 0).1 (envOf (T59 0).2 vals) S K (chk_of (by kernel_rfl) (by kernel_rfl)) (req_and h0).2
noncomputable def J59 (D : Disp) (k : Nat) : Disp := Nat.rec (motive := fun _ => Disp) Disp.no (fun _ ih => Disp.add 0 (A59_0 D ih) <| Disp.no) k
theorem J59_ok {D : Disp} (hD : DOK IrP IrG D) : ∀ k, JOK IrP IrG Go.Proofs.Try.f59 T59 (J59 D k)
  | 0 => JOK.no
  | k + 1 => JOK.add (ltB_ok (by kernel_rfl)) (fun vals S K h => A59_0_ok hD (J59_ok hD k) h) <| JOK.no
theorem E59_ok {D : Disp} (hD : DOK IrP IrG D) (k : Nat) {args : List AV} {S : St} {K : AV → St → Prop} (h : A59_0 D (J59 D k) args S K) : CallE IrP IrG 59 args S K := by
  have hr := A59_0_ok hD (J59_ok hD k) h
  have hl : args.length = 1 := Nat.eq_of_beq_eq_true (req_and h).1
  refine callOK_of (fn := Go.Proofs.Try.f59) (c := (match Go.Proofs.Try.f59.body with | some c => c | none => .skip)) (by kernel_rfl) (by kernel_rfl) (by kernel_rfl) (by rw [hl]; kernel_rfl) (by kernel_rfl) ?_
  rw [hl]
  exact hr
noncomputable def plans60 (i : Nat) : Plan := []
noncomputable def T60 (p : Nat) : List Item × List Nat := bif Nat.beq p 0 then ([.code (match Go.Proofs.Try.f60.body with | some c => c | none => .skip)], [0, 1]) else
  bif Nat.beq p 1 then (navs [.op] [.code (match Go.Proofs.Try.f60.body with | some c => c | none => .skip)], [0, 1, 6, 7]) else
  ([], [])
noncomputable def F60_0 (D J : Disp) (l0 : LV) (x1 : Int) (S : St) (K : AV → St → Prop) : Prop :=
 letK (α := Int) ((Int.ofNat (LV.len l0))) fun x300 =>
 J 1 [(AV.one (V1.s (SV.sl l0))), (AV.one (V1.s (SV.int IntKind.i64 x1))), (AV.one (V1.s (SV.int IntKind.i64 x300))), (AV.one (V1.s (SV.int IntKind.i64 (0 : Int))))] S K
noncomputable def X60_0 : X := (.op (.jmp 1 [0, 1, 6, 7]))
theorem F60_0_eq (D J : Disp) (l0 : LV) (x1 : Int) (S : St) (K : AV → St → Prop) : F60_0 D J l0 x1 S K = execK IrP IrG Go.Proofs.Try.f60 (typed IrP D) J plans60 X60_0 (T60 0).1 (envOf (T60 0).2 [(AV.one (V1.s (SV.sl l0))), (AV.one (V1.s (SV.int IntKind.i64 x1)))]) S K := by kernel_rfl
noncomputable def F60_q1 (D J : Disp) (S : St) (l0 : LV) (x1 : Int) (x6 : Int) (x7 : Int) (x304 : Int) (K : AV → St → Prop) : Prop :=
 LV.cs l0 fun b305 n306 n307 y308 =>
 req (Bool.and (ile (0 : Int) x7) (ilt x7 (Int.ofNat n307))) <|
 letK (α := Nat) ((n306 + ((Int.toNat x7) * 1))) fun n309 =>
 St.wr S b305 n309 [(SV.int IntKind.u8 x304)] fun S310 =>
 letK (α := Int) ((iwrap IntKind.i64 (x7 + (1 : Int)))) fun x311 =>
 J 1 [(AV.one (V1.s (SV.sl l0))), (AV.one (V1.s (SV.int IntKind.i64 x1))), (AV.one (V1.s (SV.int IntKind.i64 x6))), (AV.one (V1.s (SV.int IntKind.i64 x311)))] S310 K
noncomputable def F60_1 (D J : Disp) (l0 : LV) (x1 : Int) (x6 : Int) (x7 : Int) (S : St) (K : AV → St → Prop) : Prop :=
 letK (α := Bool) ((ilt x7 x6)) fun c300 =>
 ifK c300
 (letK (α := Int) ((iwrap IntKind.u64 x1)) fun x301 =>
 letK (α := Int) ((iwrap IntKind.i64 ((8 : Int) * x7))) fun x302 =>
 req (ile (0 : Int) x302) <|
 letK (α := Int) ((shrI IntKind.u64 x301 x302)) fun x303 =>
 letK (α := Int) ((iwrap IntKind.u8 x303)) fun x304 =>
 F60_q1 D J S l0 x1 x6 x7 x304 K)
 (K ((AV.tup [])) S)
noncomputable def X60_1 : X := (.op (.br (.op (.op (.op (.jmp 1 [0, 1, 6, 7])))) .ret))
theorem F60_1_eq (D J : Disp) (l0 : LV) (x1 : Int) (x6 : Int) (x7 : Int) (S : St) (K : AV → St → Prop) : F60_1 D J l0 x1 x6 x7 S K = execK IrP IrG Go.Proofs.Try.f60 (typed IrP D) J plans60 X60_1 (T60 1).1 (envOf (T60 1).2 [(AV.one (V1.s (SV.sl l0))), (AV.one (V1.s (SV.int IntKind.i64 x1))), (AV.one (V1.s (SV.int IntKind.i64 x6))), (AV.one (V1.s (SV.int IntKind.i64 x7)))]) S K := by kernel_rfl
noncomputable abbrev A60_0 (D J : Disp) (vals : List AV) (S : St) (K : AV → St → Prop) : Prop :=
  uncA vals fun a9001 r9002 => scK a9001 fun s9004 => SV.cL s9004 fun l0 => uncA r9002 fun a9007 r9008 => scK a9007 fun s9010 => SV.cI IntKind.i64 s9010 fun x1 => endL r9008 <| F60_0 D J l0 x1 S K
theorem A60_0_ok {D J : Disp} (hD : DOK IrP IrG D) (hJ : JOK IrP IrG Go.Proofs.Try.f60 T60 J) {vals : List AV} {S : St} {K : AV → St → Prop} (h0 : A60_0 D J vals S K) : Runs IrP IrG Go.Proofs.Try.f60 (T60 0).1 (envOf (T60 0).2 vals) S K := by
  obtain ⟨a9001, r9002, rfl, h3⟩ := uncA_some h0
  obtain ⟨s9004, rfl, h5⟩ := scK_some h3
  obtain ⟨l0, rfl, h6⟩ := cL_some h5
  obtain ⟨a9007, r9008, rfl, h9⟩ := uncA_some h6
  obtain ⟨s9010, rfl, h11⟩ := scK_some h9
  obtain ⟨x1, rfl, h12⟩ := cI_some h11
  obtain ⟨rfl, h13⟩ := endL_some h12
  have hq := Eq.mp (F60_0_eq D J l0 x1 S K) h13
  exact execK_runs hD.typed Ir_zero Ir_mixed hJ X60_0 (T60 0).1 (envOf (T60 0).2 _) S K (chk_of (by kernel_rfl) (by kernel_rfl)) hq
noncomputable abbrev A60_1 (D J : Disp) (vals : List AV) (S : St) (K : AV → St → Prop) : Prop :=
  uncA vals fun a9001 r9002 => scK a9001 fun s9004 => SV.cL s9004 fun l0 => uncA r9002 fun a9007 r9008 => scK a9007 fun s9010 => SV.cI IntKind.i64 s9010 fun x1 => uncA r9008 fun a9013 r9014 => scK a9013 fun s9016 => SV.cI IntKind.i64 s9016 fun x6 => uncA r9014 fun a9019 r9020 => scK a9019 fun s9022 => SV.cI IntKind.i64 s9022 fun x7 => endL r9020 <| F60_1 D J l0 x1 x6 x7 S K
theorem A60_1_ok {D J : Disp} (hD : DOK IrP IrG D) (hJ : JOK IrP IrG Go.Proofs.Try.f60 T60 J) {vals : List AV} {S : St} {K : AV → St → Prop} (h0 : A60_1 D J vals S K) : Runs IrP IrG Go.Proofs.Try.f60 (T60 1).1 (envOf (T60 1).2 vals) S K := by
  obtain ⟨a9001, r9002, rfl, h3⟩ := uncA_some h0
  obtain ⟨s9004, rfl, h5⟩ := scK_some h3
  obtain ⟨l0, rfl, h6⟩ := cL_some h5
  obtain ⟨a9007, r9008, rfl, h9⟩ := uncA_some h6
  obtain ⟨s9010, rfl, h11⟩ := scK_some h9
  obtain ⟨x1, rfl, h12⟩ := cI_some h11
  obtain ⟨a9013, r9014, rfl, h15⟩ := uncA_some h12
  obtain ⟨s9016, rfl, h17⟩ := scK_some h15
  obtain ⟨x6, rfl, h18⟩ := cI_some h17
  obtain ⟨a9019, r9020, rfl, h21⟩ := uncA_some h18
  obtain ⟨s9022, rfl, h23⟩ := scK_some h21
  obtain ⟨x7, rfl, h24⟩ := cI_some h23
  obtain ⟨rfl, h25⟩ := endL_some h24
  have hq := Eq.mp (F60_1_eq D J l0 x1 x6 x7 S K) h25
  exact execK_runs hD.typed Ir_zero Ir_mixed hJ X60_1 (T60 1).1 (envOf (T60 1).2 _) S K (chk_of (by kernel_rfl) (by kernel_rfl)) hq
noncomputable def J60 (D : Disp) (k : Nat) : Disp := Nat.rec (motive := fun _ => Disp) Disp.no (fun _ ih => Disp.add 0 (A60_0 D ih) <| Disp.add 1 (A60_1 D ih) <| Disp.no) k
theorem J60_ok {D : Disp} (hD : DOK IrP IrG D) : ∀ k, JOK IrP IrG Go.Proofs.Try.f60 T60 (J60 D k)
  | 0 => JOK.no
  | k + 1 => JOK.add (ltB_ok (by kernel_rfl)) (fun vals S K h => A60_0_ok hD (J60_ok hD k) h) <| JOK.add (ltB_ok (by kernel_rfl)) (fun vals S K h => A60_1_ok hD (J60_ok hD k) h) <| JOK.no
theorem E60_ok {D : Disp} (hD : DOK IrP IrG D) (k : Nat) {args : List AV} {S : St} {K : AV → St → Prop} (h : A60_0 D (J60 D k) args S K) : CallE IrP IrG 60 args S K := by
  have hr := A60_0_ok hD (J60_ok hD k) h
  have hl : args.length = 2 := by
    have h0 := h
    obtain ⟨a9001, r9002, rfl, h3⟩ := uncA_some h0
    obtain ⟨s9004, rfl, h5⟩ := scK_some h3
    obtain ⟨l0, rfl, h6⟩ := cL_some h5
    obtain ⟨a9007, r9008, rfl, h9⟩ := uncA_some h6
    obtain ⟨s9010, rfl, h11⟩ := scK_some h9
    obtain ⟨x1, rfl, h12⟩ := cI_some h11
    obtain ⟨rfl, h13⟩ := endL_some h12
    rfl
  refine callOK_of (fn := Go.Proofs.Try.f60) (c := (match Go.Proofs.Try.f60.body with | some c => c | none => .skip)) (by kernel_rfl) (by kernel_rfl) (by kernel_rfl) (by rw [hl]; kernel_rfl) (by kernel_rfl) ?_
  rw [hl]
  exact hr
end
end Go.Xe
