/- What is known of the package-level variables (GW), out of what the row lists of them (lex.signs) and of the world's shape (MaxLen); the wrap that hands both. -/
import Derived.Test.YtiljijckfkphhaaDoorLxStr
import Derived.Test.YtiljijckfkphhaaDoorRows
import Derived.Laws.IdiomArrays
import Derived.Deep.Strs
import Derived.Handed
import Derived.Shelf.Vars
namespace Go.Proofs.YtiljijckfkphhaaDoor.PLex
open Go.RowKit Go.ChangeShapes Go.Proofs.YtiljijckfkphhaaDoorW.PrintWords
set_option linter.unusedVariables false
theorem strs_of_laid {w : World} {c : Value} {L : List ByteArray} {fuel : Nat} {q : List MemPlace} (hL : L ≠ [])
    (h : DataW.trod (fun _ => ()) Tryd.prog w 0 (fun _ => true) false fuel 34 [c] = some (.slice (L.map fun s => .lit (.string s.data.toList)) [], q)) :
    ∃ A k, c = .slice A L.length k ∧ Kd.C Kd.string w A L.length L := by
  rcases Deep.open_strs (show Tryd.prog.underlying 34 = some (.slice 9) by kernel_rfl) (show Tryd.prog.underlying 9 = some .string by kernel_rfl) (by kernel_rfl) h with ⟨_, h2⟩ | ⟨a, len, cap, m, Sx, hc, _, hl, hm, hmm, hx, hcell⟩
  · simp at h2
  · simp only [Prod.mk.injEq, DataW.slice.injEq] at hx
    obtain ⟨⟨h1, h2⟩, _⟩ := hx
    have hlen : len = L.length := by have := congrArg List.length h1; simpa using this.symm
    subst hlen
    have hS : ∀ i, i < L.length → Sx i = L.getD i ⟨#[]⟩ := fun i hi => by
      have := congrArg (fun l => l[i]?) h1
      simp only [List.getElem?_map, List.getElem?_range hi, List.getElem?_eq_getElem hi, Option.map_some, Option.some.injEq, DataW.lit.injEq, Lit.string.injEq] at this
      rw [List.getD_eq_getElem?_getD, List.getElem?_eq_getElem hi]
      exact (show ∀ {s t : ByteArray}, s.data.toList = t.data.toList → s = t from fun {s t} e => by cases s; cases t; simpa [Array.toList_inj] using e) this.symm
    refine ⟨some a, cap, by simpa using hc, ?_⟩
    have hL0 : L.length ≤ 9223372036854775807 := by unfold maxLen at hm; omega
    refine ⟨rfl, hL0, fun _ => ⟨a, rfl, fun j p hj => ⟨[.string p], rfl, rfl, fun i u hi => ?_⟩⟩⟩
    have hjl : j < L.length := (List.getElem?_eq_some_iff.1 hj).1
    have hjm : j < m := by rw [hmm]; split <;> omega
    cases i with
    | zero =>
      simp only [List.getElem?_cons_zero, Option.some.injEq] at hi
      subst hi
      have e : Kd.string.sz = 1 := rfl
      rw [e, Nat.mul_one, Nat.add_zero, (hcell j hjm).1, hS j hjl, List.getD_eq_getElem?_getD, hj]
      rfl
    | succ i => simp at hi
theorem gw_of {w : World} (h : laidMetH Tryd.prog [("spokeshave/lex.signs", Rows.laid_spokeshave_lex_signs)] w) (hs : w.ShapedOpen Tryd.prog) : GW w := by
  have h : laidMet Tryd.prog [("spokeshave/lex.signs", Rows.laid_spokeshave_lex_signs)] w := h
  obtain ⟨ps, ⟨g, t, cs, fuel, p, q, hg, ht, hv, htr, _, _⟩, _, _⟩ := h
  have hg0 : Tryd.prog.globalNamed "spokeshave/lex.signs" = some 0 := by kernel_rfl
  have e0 : g = 0 := Option.some.inj (hg.symm.trans hg0)
  subst e0
  have ht0 : (Tryd.prog.globals[0]?).map (·.type) = some 58 := by kernel_rfl
  have e1 : t = 58 := Option.some.inj (ht.symm.trans ht0)
  subst e1
  have hu : Tryd.prog.underlying 58 = some (.array 3 34) := by kernel_rfl
  have hc1 : Tryd.prog.cellsOf 34 = 1 := by kernel_rfl
  have hc3 : Tryd.prog.cellsOf 58 = 3 := by kernel_rfl
  have hlen : cs.toList.length = 3 := by
    cases fuel with
    | zero => simp [DataW.trod] at htr
    | succ n =>
      unfold DataW.trod at htr
      rw [hu] at htr
      simp only [hc3] at htr
      split at htr
      · assumption
      · cases htr
  obtain ⟨c0, c1, c2, hcs⟩ : ∃ c0 c1 c2, cs.toList = [c0, c1, c2] := by
    match h : cs.toList, hlen with
    | [c0, c1, c2], _ => exact ⟨c0, c1, c2, rfl⟩
  rw [hcs] at htr
  obtain ⟨y0, y1, y2, n, hx, h0, h1, h2⟩ := trod_array3 hu hc1 htr
  simp only [Prod.mk.injEq] at hx
  have hx1 := hx.1
  unfold Rows.laid_spokeshave_lex_signs at hx1
  simp only [DataW.agg.injEq, List.cons.injEq] at hx1
  obtain ⟨e0, e1, e2, _⟩ := hx1
  obtain ⟨A0, k0, rfl, K0⟩ := strs_of_laid (L := signs0) (by decide) (c := c0) (q := y0.2) (h0.trans (by rw [show y0 = (y0.1, y0.2) from rfl, ← e0]; rfl))
  obtain ⟨A1, k1, rfl, K1⟩ := strs_of_laid (L := signs1) (by decide) (c := c1) (q := y1.2) (h1.trans (by rw [show y1 = (y1.1, y1.2) from rfl, ← e1]; rfl))
  obtain ⟨A2, k2, rfl, K2⟩ := strs_of_laid (L := signs2) (by decide) (c := c2) (q := y2.2) (h2.trans (by rw [show y2 = (y2.1, y2.2) from rfl, ← e2]; rfl))
  have hcell : ∀ (i : Nat) v, cs[i]? = some v → w.cell? ⟨0, i, none⟩ = some v := fun i v hi => by
    unfold World.var? at hv
    rw [hg0] at hv
    simp only [Option.bind_some] at hv
    split at hv
    · rename_i cs' _ _ hh
      cases hv
      unfold World.cell?
      simp only [hh]
      exact hi
    · cases hv
  have hcs' : ∀ i : Nat, cs[i]? = ([.slice A0 signs0.length k0, .slice A1 signs1.length k1, .slice A2 signs2.length k2] : List Value)[i]? := fun i => by rw [← hcs]; simp
  refine ⟨cell_of_shapedOpen_int (P := Tryd.prog) (g := 1) (t := 3) hs (of_decide_eq_true (by kernel_rfl)) (zero := #[.int .i64 0]) (by kernel_rfl) rfl (by kernel_rfl) (by kernel_rfl) (by kernel_rfl), A0, A1, A2, k0, k1, k2, hcell 0 _ (by rw [hcs']; rfl), hcell 1 _ (by rw [hcs']; rfl), hcell 2 _ (by rw [hcs']; rfl), K0, K1, K2⟩
/-- The wrap that hands the world's shape and one thing more. -/
theorem returnsInHanded_and_shaped {H : Type} {enc : TypeId × Value → H} {a : Assume} {C : Checked} {os : Os} {f : FuncId} {fn : Func} {s : ChangeSpec} {conds : List PathCond} {apart fresh handsOn again : Bool} {X : World → Array Value → Prop}
    (hX : ∀ (w w' : World) (args : Array Value), w.heap = w'.heap → X w args → X w' args)
    (own : ownKnob C.prog.godebug = none) (started : os.Started) (noInit : C.prog.inits.idxOf? f = none) (hfn : C.prog.funcs[f]? = some fn)
    (witness : ∃ (w : World) (tape : Tape) (i : Input), w.os = os ∧ (w.forCall tape i).Shaped C.prog ∧ i.vars = [] ∧ Input.okWide C.prog (w.forCall tape i) .any w.heap.size f i ∧
      ((s.pre enc C.prog fn conds apart (w.forCall tape i).memory i.args ∧ X (w.forCall tape i).memory i.args) ∧ sizedMet enc C.prog fn (OpenSpec.ofChange s) apart (w.forCall tape i).memory i.args) ∧ a.holds C.prog (lone (Frame.enter C.prog f i.args .normal) [] (w.forCall tape i)))
    (contract : ∀ (W : World) (base : Nat) (args : Array Value) (ds gs : List (DataW H)) (before : List MemPlace),
      (∀ (j : Nat) t v, fn.params[j]? = some t → args[j]? = some v → Value.okWide C.prog W .any base t v) →
      DataW.Whole enc C.prog fn.params.toList s.vars apart W args.toList ds gs before →
      conds.all (PathCond.test C.prog ⟨fn.params.toList, ds, s.plain.varTypes C.prog, gs⟩) = true →
      (DataW.weightsEach C.prog (fn.params.toList ++ s.plain.varTypes C.prog) (ds ++ gs)).all (· ≤ reachBytes) = true → X W args → W.ShapedOpen C.prog →
      a.holds C.prog (lone (Frame.enter C.prog f args .normal) [] W) →
      Calls C.prog f args W fun e W' => ∃ v, e = .returned v ∧ s.post enc C.prog fn apart fresh handsOn again W args v W') :
    ReturnsInHanded a C os f .any (fun w args => (s.pre enc C.prog fn conds apart w args ∧ X w args) ∧ sizedMet enc C.prog fn (OpenSpec.ofChange s) apart w args) (s.post enc C.prog fn apart fresh handsOn again) := by
  refine returnsInHanded_of_calls own started noInit witness ?_
  intro w tape i _ hsh _ hok hpre hholds
  obtain ⟨_, _, _, fn', hfn', _, _, _, _, hval⟩ := hok
  have e : fn' = fn := Option.some.inj (hfn'.symm.trans hfn)
  subst e
  obtain ⟨⟨⟨ds, gs, before, hw, hc⟩, hx⟩, hz⟩ := hpre
  have hw' := DataW.Whole.of_heap (w' := w.forCall tape i) (by rfl) hw
  refine (contract (w.forCall tape i) w.heap.size i.args ds gs before hval hw' hc (hz.weights hw) (hX _ _ _ (by rfl) hx) hsh hholds).mono fun e W' ⟨v, he, hp⟩ => ?_
  subst he
  exact ChangeSpec.post_blind hp
end Go.Proofs.YtiljijckfkphhaaDoor.PLex
