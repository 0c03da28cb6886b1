/- The row of the law MovesOrder: for every slice of moves and every number it returns true; the arguments read as before. -/
import Derived.Test.YtodnbclphjgofaaRows
import Derived.Test.YtodnbclphjgofaaPureMovesOrder
import Derived.WalkKit
import Derived.ProofKit
import Derived.OpenShut
import Derived.ShutString
import Derived.ChangeOld
import Derived.Below
import Derived.SizedLaws
import Derived.ChangeSlices
import Derived.Deep.Slices
import Derived.Deep.Fields
import Derived.ChangeSame
namespace Go.Proofs.Ytodnbclphjgofaa.movesOrder
open Go.ChangeShapes Go.WideShapes Go.ChangeAt Go.RowKit Go.Deep
open Go.ChangeMaps (open_string shut_string)
open Go.Proofs.YtodnbclphjgofaaW.PrintWords Go.Proofs.YtodnbclphjgofaaW.PrintLast Go.Proofs.YtodnbclphjgofaaW.PrintMore Go.Proofs.Ytodnbclphjgofaa.PMov
set_option linter.unusedVariables false
theorem own : ownKnob Try.prog.godebug = none := by kernel_rfl
theorem laidOut : laidOutB Try.prog = true := by kernel_rfl
section
variable {H : Type} {enc : TypeId × Value → H} {P : Program} {w : World} {base : Nat} {spare : Nat → Bool} {held : Bool}
/-- A slice of structs of two numbers that came in, read. -/
theorem open_pairs {t e : TypeId} {f0 f1 : Field} {a : Option Addr} {len cap : Nat} {d : DataW H} {p : List MemPlace} (ht : P.underlying t = some (.slice e)) (he : P.underlying e = some (.struct #[f0, f1]))
    (hone : oneCellFields P #[f0, f1] = true) (hC : P.cellsOf e = 2) (h0 : P.underlying f0.type = some (.int .i64)) (h1 : P.underlying f1.type = some (.int .i64)) (h : DataW.Trod enc P w base spare held t (.slice a len cap) d p) :
    ∃ l : List S32, Kd.C k32 w a l.length l ∧ l.length = len ∧ len ≤ cap ∧ (l.all fun m => inI m.f0) = true := by
  obtain ⟨fuel, hf⟩ := h
  rcases open_slice ht hf with ⟨hcs, _⟩ | ⟨x, l, c, m, n, D, Pl, hcs, _, hl, hm, hmm, _, hi⟩
  · simp [Value.cells] at hcs
    obtain ⟨rfl, rfl, rfl⟩ := hcs
    exact ⟨[], Kd.C_nil _ _, rfl, Nat.le_refl _, rfl⟩
  · simp [Value.cells] at hcs
    obtain ⟨rfl, rfl, rfl⟩ := hcs
    have hlm : len ≤ m := by rw [hmm]; split; exact hl; exact Nat.le_refl _
    have each : ∀ i, i < len → ∃ s : S32, w.cell? (x.add (i * 2)) = some (.int .i64 s.f0) ∧ w.cell? (x.add (i * 2 + 1)) = some (.int .i64 s.f1) ∧ inI s.f0 = true := by
      intro i hil
      obtain ⟨cs', hc, ht'⟩ := hi i (by omega)
      rw [hC] at hc
      obtain ⟨ys, n', hn', hy, hlen, hyl, hfl⟩ := DataW.trod_struct he ht'
      obtain ⟨_, hcl, hat⟩ := World.cells?_some hc
      obtain ⟨o0, k0⟩ := hone_of hone 0 f0 rfl
      obtain ⟨o1, k1⟩ := hone_of hone 1 f1 rfl
      have z0 := hfl 0 f0 rfl
      have z1 := hfl 1 f1 rfl
      rw [o0, k0] at z0
      rw [o1, k1] at z1
      match cs', hcl with
      | [c0, c1], _ =>
        have y0 : ys[0]? = some (ys[0]'(by rw [hyl]; simp)) := List.getElem?_eq_getElem _
        have y1 : ys[1]? = some (ys[1]'(by rw [hyl]; simp)) := List.getElem?_eq_getElem _
        rw [y0] at z0
        rw [y1] at z1
        obtain ⟨n0, e0, _, w0⟩ := DataW.trod_int h0 z0
        obtain ⟨n1, e1, _, w1⟩ := DataW.trod_int h1 z1
        simp at e0 e1
        subst e0; subst e1
        have a0 := hat 0 (by decide)
        have a1 := hat 1 (by decide)
        simp only [List.getElem?_cons_zero, List.getElem?_cons_succ] at a0 a1
        rw [Go.Deep.add_add, Nat.add_zero] at a0
        rw [Go.Deep.add_add] at a1
        exact ⟨⟨n0, n1⟩, a0, a1, w0⟩
    have all : ∀ n, n ≤ len → ∃ l : List S32, l.length = n ∧ ∀ (i : Nat) (s : S32), l[i]? = some s → w.cell? (x.add (i * 2)) = some (.int .i64 s.f0) ∧ w.cell? (x.add (i * 2 + 1)) = some (.int .i64 s.f1) ∧ inI s.f0 = true := by
      intro n
      induction n with
      | zero => exact fun _ => ⟨[], rfl, fun i s hs => by simp at hs⟩
      | succ n ih =>
        intro hn
        obtain ⟨l, hl1, hl2⟩ := ih (by omega)
        obtain ⟨s0, hs0⟩ := each n (by omega)
        refine ⟨l ++ [s0], by simp [hl1], fun i s hs => ?_⟩
        by_cases hlt : i < l.length
        · rw [List.getElem?_append_left hlt] at hs
          exact hl2 i s hs
        · have hil := (List.getElem?_eq_some_iff.1 hs).1
          rw [List.length_append, List.length_singleton] at hil
          obtain rfl : i = n := by omega
          rw [List.getElem?_append_right (by omega), hl1, Nat.sub_self] at hs
          simp at hs
          subst hs
          exact hs0
    obtain ⟨l, hl1, hl2⟩ := all len (Nat.le_refl _)
    refine ⟨l, ⟨rfl, by rw [hl1]; unfold maxLen at hm; omega, fun _ => ⟨x, rfl, fun j s hs => ?_⟩⟩, hl1, hl, ?_⟩
    · obtain ⟨b0, b1, _⟩ := hl2 j s hs
      refine ⟨[.int .i64 s.f0, .int .i64 s.f1], rfl, k32_mk w s, fun i u hu => ?_⟩
      show w.cell? (x.add (j * 2 + i)) = some u
      match i, hu with
      | 0, hu => simp at hu; subst hu; exact b0
      | 1, hu => simp at hu; subst hu; exact b1
      | i + 2, hu => simp at hu
    · rw [List.all_eq_true]
      intro s hs
      obtain ⟨i, hi', rfl⟩ := List.getElem_of_mem hs
      exact (hl2 i _ (List.getElem?_eq_getElem hi')).2.2
end
set_option maxRecDepth 100000 in
theorem lifted (os : Os) (started : os.Started) (H : Type) (enc : TypeId × Value → H) :
    ReturnsInHanded {} Try.checked os 3 .any (Rows.movesOrderSpec.pre6 enc Try.prog Try.f3 Rows.movesOrderRow.domain false) (Rows.movesOrderSpec.post enc Try.prog Try.f3 false true false false) := by
  refine returnsInHanded_of_change_sized (C := Try.checked) own started (by kernel_rfl) Try.func3
    (ChangeSpec.witness6 (enc := enc) (C := Try.checked) false ⟨#[], #[.slice none 0 0, .int .i64 0], []⟩ 8 (by kernel_rfl) (by kernel_rfl) (by kernel_rfl) (by kernel_rfl)) ?_
  intro W base args ds gs before hval0 hW hcnd hsz0 _
  have hsz : (DataW.weightsEach Try.prog (Try.f3.params.toList ++ Rows.movesOrderSpec.plain.varTypes Try.prog) (ds ++ gs)).all (· ≤ reachBytes) = true := hsz0
  have hval : ∀ (j : Nat) t v, Try.f3.params[j]? = some t → args[j]? = some v → Value.okWide Try.prog W .any base t v := hval0
  have hW' := hW
  obtain ⟨p, q, hA0, hV, rfl, hfz, hnd⟩ := hW
  have hA : DataW.TrodAll enc Try.prog W 0 (fun _ => true) true Try.f3.params.toList args.toList ds p := hA0
  rw [Try.params3] at hA hval hsz
  obtain ⟨v0, vs0, d0, ds0, p0, q0, hargs, rfl, rfl, h0, r0⟩ := trodAll_cons hA
  obtain ⟨v1, vs1, d1, ds1, p1, q1, rfl, rfl, rfl, h1, r1⟩ := trodAll_cons r0
  obtain ⟨rfl, rfl, rfl⟩ := trodAll_nil r1
  obtain rfl : args = #[v0, v1] := by cases args; simp_all
  obtain ⟨rfl, rfl⟩ := trodVars_none hV
  obtain ⟨a0, len0, cap0, rfl⟩ := okWide_slice Try.underlying22 (hval 0 22 v0 rfl rfl)
  have k0 := h0
  have lt0 : ∀ x ∈ p0, x.block < W.heap.size := by obtain ⟨m, hm⟩ := k0; exact DataW.trod_lt m _ _ _ hm
  obtain ⟨l, hC, hl, hcap, hin⟩ := open_pairs Try.underlying22 Try.underlying32 (by kernel_rfl) (by kernel_rfl) Try.underlying3 Try.underlying3 h0
  obtain ⟨a1, rfl, rfl, rfl, w1⟩ := open_int Try.underlying3 (hval 1 3 v1 rfl rfl) h1
  clear hA0 hval0 hsz0 hsz
  obtain ⟨k, hk⟩ := order_ev l a1 hin
  subst hl
  refine (spokeshavelaw21_MovesOrder.calls k a0 cap0 l a1 true W hC hcap hk).mono fun e W' ⟨he, bel⟩ => ?_
  subst he
  exact ⟨_, rfl, _, _, _, [], _, [], hW', trodAll_mk1 (shut_bool Try.underlying4 _), (trodAll_cons_mk (Below.trod laidOut (by kernel_rfl) (of_decide_eq_true (by kernel_rfl)) k0 bel lt0) (trodAll_cons_mk (shut_int Try.underlying3 w1) trodAll_mk0)), rfl, bel.frame _, fun h => by cases h⟩
theorem over : Rows.movesOrderRow.holds Try.pinned (OpenSpec.ofChange Rows.movesOrderSpec) :=
  OpenClaim.holds_of_wide 3 Try.f3 rfl rfl rfl rfl rfl rfl rfl ⟨rfl, rfl, rfl, rfl, rfl⟩ rfl rfl rfl rfl rfl (by kernel_rfl) Try.func3 (by kernel_rfl)
    (of_decide_eq_true (by kernel_rfl)) (by unfold Func.isWrapper; first | (rw [if_pos (by decide +kernel)]; kernel_rfl) | (rw [if_neg (by decide +kernel)]; exact ⟨rfl, rfl⟩))
    (fun os started H enc _ => lifted os started H enc)
theorem proved : Rows.MovesOrderSaid := over
#print axioms proved
end Go.Proofs.Ytodnbclphjgofaa.movesOrder
namespace Go.Proofs.Ytodnbclphjgofaa
/-- The row, under a short name, for the claim. -/
theorem movesOrder_holds : Rows.MovesOrderSaid := movesOrder.proved
end Go.Proofs.Ytodnbclphjgofaa
