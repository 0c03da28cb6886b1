/- For every argument the law MemCells returns true; the arguments read as before. -/
import Derived.Test.YticjocbgadgjpaaRows
import Derived.Test.YticjocbgadgjpaaC8
import Derived.WalkKit
import Derived.ProofKit
import Derived.OpenShut
import Derived.ShutString
import Derived.ChangeOld
import Derived.Below
import Derived.SizedLaws
import Derived.ChangeSlices
import Derived.ChangeSame
namespace Go.Proofs.Yticjocbgadgjpaa.memCells
open Go.ChangeShapes Go.WideShapes Go.ChangeAt Go.RowKit
open Go.ChangeMaps (open_string shut_string)
set_option linter.unusedVariables false
theorem own : ownKnob Try.prog.godebug = none := by kernel_rfl
theorem laidOut : laidOutB Try.prog = true := by kernel_rfl
set_option maxRecDepth 100000 in
theorem lifted (os : Os) (started : os.Started) (H : Type) (enc : TypeId × Value → H) :
    ReturnsInHanded {} Try.checked os 3 .any (Rows.memCellsSpec.pre6 enc Try.prog Try.f3 Rows.memCellsRow.domain false) (Rows.memCellsSpec.post enc Try.prog Try.f3 false true false false) := by
  refine returnsInHanded_of_change_sized (C := Try.checked) own started (by kernel_rfl) Try.func3
    (ChangeSpec.witness6 (enc := enc) (C := Try.checked) false ⟨#[], #[.int .i64 0, .slice none 0 0], []⟩ 8 (by kernel_rfl) (by kernel_rfl) (by kernel_rfl) (by kernel_rfl)) ?_
  intro W base args ds gs before hval0 hW hcnd hsz0 _
  have hsz : (DataW.weightsEach Try.prog (Try.f3.params.toList ++ Rows.memCellsSpec.plain.varTypes Try.prog) (ds ++ gs)).all (· ≤ reachBytes) = true := hsz0
  have hval : ∀ (j : Nat) t v, Try.f3.params[j]? = some t → args[j]? = some v → Value.okWide Try.prog W .any base t v := hval0
  have hW' := hW
  obtain ⟨p, q, hA0, hV, rfl, hfz, hnd⟩ := hW
  have hA : DataW.TrodAll enc Try.prog W 0 (fun _ => true) true Try.f3.params.toList args.toList ds p := hA0
  rw [Try.params3] at hA hval hsz
  obtain ⟨v0, vs0, d0, ds0, p0, q0, hargs, rfl, rfl, h0, r0⟩ := trodAll_cons hA
  obtain ⟨v1, vs1, d1, ds1, p1, q1, rfl, rfl, rfl, h1, r1⟩ := trodAll_cons r0
  obtain ⟨rfl, rfl, rfl⟩ := trodAll_nil r1
  obtain rfl : args = #[v0, v1] := by cases args; simp_all
  obtain ⟨rfl, rfl⟩ := trodVars_none hV
  obtain ⟨a0, rfl, rfl, rfl, w0⟩ := open_int Try.underlying3 (hval 0 3 v0 rfl rfl) h0
  obtain ⟨a1, len1, cap1, rfl, hsp1⟩ := Go.Xe.okSlice Try.underlying22 (hval 1 22 v1 rfl rfl)
  have k1 := h1
  have lt1 : ∀ x ∈ p1, x.block < W.heap.size := by obtain ⟨m, hm⟩ := k1; exact DataW.trod_lt m _ _ _ hm
  obtain ⟨ii, qq, ll, xs, hl, hv, hq, hm⟩ : ∃ (ii : Nat → Option Go.Xe.AO) (qq : Nat → Option (Nat × Nat × Nat)) (ll : Go.Xe.LV) (xs : List Int), Go.Xe.InsL ii ll xs ∧ Go.Xe.SR (Go.Xe.ρI qq) (.sl ll) (.slice a1 len1 cap1) ∧ (∀ g, Nat.blt g 1000 = true → ∃ mm, qq g = some (g, 0, mm)) ∧
      ∀ r ao, ii r = some ao → ∃ x sh mm, qq r = some (x, sh, mm) ∧ Go.Xe.OR (Go.Xe.ρI qq) ao sh mm ((W.heap[x]?).map Go.Xe.thaw) := by
    obtain ⟨fuel, hf⟩ := h1
    rcases open_ints Try.underlying22 Try.underlying3 (by kernel_rfl) hf with ⟨hcs, _⟩ | ⟨x, l, c, zs, hcs, _, hl, hm, hz, _, hcell, hwz⟩
    · simp [Value.cells] at hcs
      obtain ⟨rfl, rfl, rfl⟩ := hcs
      exact ⟨fun _ => none, Go.Xe.qI (0, 0, 0), .nil, [], ⟨rfl, fun j x hj => by simp at hj⟩, rfl, Go.Xe.qI_low _, fun r ao h => by cases h⟩
    · simp [Value.cells] at hcs
      obtain ⟨rfl, rfl, rfl⟩ := hcs
      obtain ⟨qq, g1, g2, g3⟩ := Go.Xe.ints_in (W := W) (hsp1 _ rfl) hl (by rw [hz]; simp; omega) hcell
      exact ⟨_, qq, _, zs.take len1, Go.Xe.intsI_in _ _, g1, g2, g3⟩
  clear hA0 hval0 hsz0 hsz
  refine (Go.Xe.cells_walk a0 hl hv W hq hm).mono fun e W' ⟨he, bel⟩ => ?_
  subst he
  exact ⟨_, rfl, _, _, _, [], _, [], hW', trodAll_mk1 (shut_bool Try.underlying4 _), (trodAll_cons_mk (shut_int Try.underlying3 w0) (trodAll_cons_mk (Below.trod laidOut (by kernel_rfl) (of_decide_eq_true (by kernel_rfl)) k1 bel lt1) trodAll_mk0)), rfl, bel.frame _, fun h => by cases h⟩
theorem over : Rows.memCellsRow.holds Try.pinned (OpenSpec.ofChange Rows.memCellsSpec) :=
  OpenClaim.holds_of_wide 3 Try.f3 rfl rfl rfl rfl rfl rfl rfl ⟨rfl, rfl, rfl, rfl, rfl⟩ rfl rfl rfl rfl rfl (by kernel_rfl) Try.func3 (by kernel_rfl)
    (of_decide_eq_true (by kernel_rfl)) (by unfold Func.isWrapper; first | (rw [if_pos (by decide +kernel)]; kernel_rfl) | (rw [if_neg (by decide +kernel)]; exact ⟨rfl, rfl⟩))
    (fun os started H enc _ => lifted os started H enc)
theorem proved : Rows.MemCellsSaid := over
#print axioms proved
end Go.Proofs.Yticjocbgadgjpaa.memCells
namespace Go.Proofs.Yticjocbgadgjpaa
/-- The row, under a short name, for the claim. -/
theorem memCells_holds : Rows.MemCellsSaid := memCells.proved
end Go.Proofs.Yticjocbgadgjpaa
