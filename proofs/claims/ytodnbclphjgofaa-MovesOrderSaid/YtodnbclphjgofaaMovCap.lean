import Derived.Test.YtodnbclphjgofaaPMovx0
/-! 'xs = append(xs[:k:k], xs[k+1:]...)': an element taken out of a row of one's own, into a new row (or by a cut alone, if it was the last one). -/
namespace Go.Proofs.Ytodnbclphjgofaa.Cap
open Go.RowKit Go.Proofs.YtodnbclphjgofaaW.PrintWords Go.Proofs.YtodnbclphjgofaaW.PrintLast Go.Proofs.YtodnbclphjgofaaW.PrintMore
set_option linter.unusedVariables false
/-- A row of one's own whose capacity may be told as less than its block has. -/
def Cut {α : Type} (d : Kd α) (e : Nat) (W : World) (base : Nat) (ok : Nat → Prop) (v : Value) (xs : List α) : Prop :=
  ∃ A c c', v = .slice A xs.length c ∧ xs.length ≤ c ∧ d.R e W base ok (.slice A xs.length c') xs
section
variable {P : Program} {α : Type} {d : Kd α} {e base : Nat} {W W1 : World} {ok ok' : Nat → Prop} {v : Value} {xs : List α}
theorem Cut.of_R (h : d.R e W base ok v xs) : Cut d e W base ok v xs := by
  obtain ⟨A, c, rfl, hl, _⟩ := Kd.R_reads h
  exact ⟨A, c, c, rfl, hl, h⟩
theorem Cut.below (h : Cut d e W base ok v xs) (hb : Below W.heap.size W W1) : Cut d e W1 base ok v xs := by
  obtain ⟨A, c, c', rfl, hl, hr⟩ := h
  exact ⟨A, c, c', rfl, hl, Kd.R_below hr hb⟩
theorem Cut.mono (h : Cut d e W base ok v xs) (hok : ∀ k, ok k → ok' k) : Cut d e W base ok' v xs := by
  obtain ⟨A, c, c', rfl, hl, hr⟩ := h
  exact ⟨A, c, c', rfl, hl, Kd.R_mono hr hok⟩
theorem Cut.grown (h : Cut d e W base ok v xs) {row : Option Nat} (hg : W.grownBy W1 row) (hok : ∀ k, ok k → some k ≠ row) : Cut d e W1 base ok v xs := by
  obtain ⟨A, c, c', rfl, hl, hr⟩ := h
  exact ⟨A, c, c', rfl, hl, Kd.R_grown hr hg hok⟩
theorem Cut.lt (h : Cut d e W base ok v xs) : ∀ k, v.ownBlock = some k → base ≤ k ∧ k < W.heap.size := by
  obtain ⟨A, c, c', rfl, hl, hr⟩ := h
  intro k hk
  obtain ⟨inner, ho⟩ := Kd.R_own hr
  exact ho.lt k (by cases A <;> simp [Value.ownBlock] at hk ⊢; exact hk)
theorem Cut.new_ (h : Cut d e W base ok v xs) : Cut d e W base (fun k => ok k ∧ k < W.heap.size) v xs := by
  obtain ⟨A, c, c', rfl, hl, hr⟩ := h
  exact ⟨A, c, c', rfl, hl, Kd.R_mono (Kd.R_bound hr) (fun k hk => ⟨hk.1, hk.2.2.1⟩)⟩
theorem capcut_run (d : Kd α) {W : World} (base : Nat) (t ty e : TypeId) (i : TypeInfo) (z : Value) (ht : P.underlying t = some (.slice e)) (hi : P.info? e = some i) (hz : i.zero = some z)
    (hzs : z.cells.size = d.sz) (hsz : i.size = d.sz) {g n c' k c2 : Nat} {xs : List α} {ok : Nat → Prop} (a : Addr) (HO : d.R e W base ok (.slice (some ⟨g, 0, none⟩) n c') xs) (hk : k < n)
    (hA : k + 1 < n → a = ⟨g, (k + 1) * d.sz, none⟩) (hbytes : n * i.bytes ≤ 140737488355328) (hb0 : 0 < i.bytes) (hbase : base ≤ W.heap.size) (hfresh : ∀ b, W.heap.size ≤ b → ok b) :
    ∃ v1 w1, (Builtin.append_ #[t, t] ty #[.slice (some ⟨g, 0, none⟩) k k, .slice (some a) (n - (k + 1)) c2]).run P W = .ok v1 w1 ∧ Cut d e w1 base ok v1 (xs.eraseIdx k) ∧ W.grownBy w1 none ∧
      (v1.ownBlock = some g ∨ v1.ownBlock = some W.heap.size) := by
  have HO0 := HO
  obtain ⟨hn, hnc, _⟩ := Kd.R_reads' HO
  obtain ⟨hok, inner, hown, hr⟩ := HO
  have hin : inner.length = n * d.sz := by rw [hr.1, hn]
  have hel : (xs.eraseIdx k).length = n - 1 := by rw [List.length_eraseIdx_of_lt (by omega), hn]
  by_cases hlast : k + 1 = n
  · have hrun := run_append_room_cells (P := P) (w := W) t ty e i ht hi g 0 k k a (n - (k + 1)) c2 [] (by rw [show n - (k + 1) = 0 by omega]; simp) (by simp) (by simp) (by omega) (by simp) (by simp)
    refine ⟨_, _, hrun, ?_, ⟨rfl, rfl, rfl, Nat.le_refl _, fun _ _ _ => rfl⟩, .inl rfl⟩
    have ht := Kd.R_take (m := k) HO0 (by omega)
    have he : xs.eraseIdx k = xs.take k := by
      rw [List.eraseIdx_eq_take_drop_succ, List.drop_eq_nil_of_le (by omega), List.append_nil]
    refine ⟨some ⟨g, 0, none⟩, k, c', by rw [hel, show k + (n - (k + 1)) = n - 1 by omega], by omega, ?_⟩
    rw [he, List.length_take, Nat.min_eq_left (by omega)]
    exact ht
  · have hlt : k + 1 < n := by omega
    have ha := hA hlt
    subst ha
    rcases hown.2 with ⟨hv, _⟩ | ⟨g', cap', cur, hv, hb, hh, _, hcm, hcs, htake⟩
    · cases hv
    injection hv with ha _ hc
    injection ha with ha
    injection ha with hg
    subst hg; subst hc
    rw [← hn] at htake
    have hle : (k + 1) * d.sz ≤ n * d.sz := Nat.mul_le_mul_right _ hk
    have hks : (k + 1) * d.sz = k * d.sz + d.sz := Nat.succ_mul _ _
    have hsub : (n - (k + 1)) * d.sz = n * d.sz - (k + 1) * d.sz := Nat.sub_mul _ _ _
    have hcell : ∀ q u, inner[q]? = some u → W.cell? ⟨g, q, none⟩ = some u := by
      intro q u hu
      rw [cell_of_row W g q cur e (0, 0) hh, ← Array.getElem?_toList]
      rw [← htake, List.getElem?_take] at hu
      split at hu
      · exact hu
      · cases hu
    have hold : ∀ j u, (inner.take (k * d.sz))[j]? = some u → W.cell? ((⟨g, 0, none⟩ : Addr).add j) = some u := by
      intro j u hu
      rw [List.getElem?_take] at hu
      split at hu
      · rw [add_at, Nat.zero_add]; exact hcell _ _ hu
      · cases hu
    have hnew : ∀ j u, (inner.drop ((k + 1) * d.sz))[j]? = some u → W.cell? ((⟨g, (k + 1) * d.sz, none⟩ : Addr).add j) = some u := by
      intro j u hu
      rw [List.getElem?_drop] at hu
      rw [add_at]; exact hcell _ _ hu
    have hlo : (inner.take (k * d.sz)).length = k * i.size := by rw [List.length_take, hin, hsz]; omega
    have hln : (inner.drop ((k + 1) * d.sz)).length = (n - (k + 1)) * i.size := by rw [List.length_drop, hin, hsz]; omega
    have hN : k + (n - (k + 1)) = n - 1 := by omega
    have hbb : (n - 1) * i.bytes ≤ 140737488355328 := Nat.le_trans (Nat.mul_le_mul_right _ (Nat.sub_le _ _)) hbytes
    have hmax : n - 1 ≤ maxLen := by
      have h1 := Nat.le_mul_of_pos_right (n - 1) hb0
      simp only [maxLen]; omega
    have hrun := run_append_grow (P := P) W t ty e i z ht hi hz ⟨g, 0, none⟩ k k (inner.take (k * d.sz)) hlo hold ⟨g, (k + 1) * d.sz, none⟩ (n - (k + 1)) c2 (inner.drop ((k + 1) * d.sz)) hln hnew (by omega)
      (by simp only [maxLen] at hmax; omega) (by rw [hN]; exact growslice_fits (by omega) hbb)
    rw [hN] at hrun
    have hge := grownCap_ge W (n - 1) k e
    have hcm2 : grownCap W (n - 1) k e ≤ maxLen := grownCap_le_maxLen W (n - 1) k e hmax
    have hgr : W.grownBy (W.drew.alloc (.cells ((inner.take (k * d.sz)).toArray ++ (inner.drop ((k + 1) * d.sz)).toArray ++ Builtin.zeroCells z.cells (grownCap W (n - 1) k e - (n - 1))) e)) none :=
      ⟨rfl, rfl, rfl, by simp, fun q hq _ => heap_alloc_old W.drew _ (r := q) hq⟩
    refine ⟨_, _, hrun, ?_, hgr, .inr rfl⟩
    refine ⟨some ⟨W.heap.size, 0, none⟩, grownCap W (n - 1) k e, grownCap W (n - 1) k e, by rw [hel], by omega, ?_⟩
    have hmul : (n - 1) * d.sz = n * d.sz - d.sz := by rw [Nat.sub_mul, Nat.one_mul]
    refine ⟨fun b hb => hfresh b (by simp [Value.ownBlock] at hb; omega), inner.take (k * d.sz) ++ inner.drop ((k + 1) * d.sz), ⟨?_, .inr ⟨W.heap.size, _, _, rfl, hbase, heap_alloc_new W.drew _, by omega, hcm2, ?_, ?_⟩⟩, ?_⟩
    · rw [List.length_append, hlo, hln, ← Nat.add_mul, hN, hel, hsz]
    · simp only [Array.size_append, List.size_toArray, size_zeroCells, hzs, hlo, hln, ← Nat.add_mul, hsz]
      congr 1
      omega
    · rw [hel]
      simp only [Array.toList_append, List.append_assoc]
      rw [← List.append_assoc]
      exact List.take_left' (by rw [List.length_append, hlo, hln, ← Nat.add_mul, hN, hsz])
    · rw [List.eraseIdx_eq_take_drop_succ]
      have hmv : ∀ p q, d.M W base (fun k' => ok k' ∧ some k' ≠ (Value.slice (some ⟨g, 0, none⟩) n c').ownBlock) p q →
          d.M (W.drew.alloc (.cells ((inner.take (k * d.sz)).toArray ++ (inner.drop ((k + 1) * d.sz)).toArray ++ Builtin.zeroCells z.cells (grownCap W (n - 1) k e - (n - 1))) e)) base
            (fun k' => ok k' ∧ some k' ≠ (Value.slice (some ⟨W.heap.size, 0, none⟩) (xs.eraseIdx k).length (grownCap W (n - 1) k e)).ownBlock) p q := fun p q hp =>
        d.M_mono (fun k' hk' => ⟨hk'.1.1, fun he => by simp [Value.ownBlock] at he; have := hk'.2.2.1; omega⟩) (d.M_move (fun k' hk' => hgr.block k' hk'.2.2.1 (by simp)) (d.M_bound hp))
      exact Kd.reps_append ((Kd.reps_take hr (by omega)).imp_ hmv) ((Kd.reps_drop hr).imp_ hmv)
end
section
variable {P : Program} {ops : Array Oper} {o : Oper} {a : Act} {Q : Exit → Act → World → Prop} {Kc : Act → World → Prop} {α : Type}
theorem capcut_step (d : Kd α) {W : World} (base : Nat) (hw : Region.wanted o (yielded ops a.tmps) = true) (s x : Operand) (t e : TypeId) (z : Value) (bytes : Nat) (ho : o.op = .call { callee := .builtin .append, args := #[s, x], argTypes := #[t, t] })
    (ht : P.underlying t = some (.slice e)) (hinfo : (P.info? e).map (fun i => (i.zero, i.size, i.bytes)) = some (some z, d.sz, bytes)) (hzs : z.cells.size = d.sz) (hb0 : 0 < bytes) {g n c' k m c2 : Nat} {xs : List α} {ok : Nat → Prop} (ad : Addr)
    (hs : a.eval s = .slice (some ⟨g, 0, none⟩) k k) (hx : a.eval x = .slice (some ad) m c2) (hm : m = n - (k + 1)) (HO : d.R e W base ok (.slice (some ⟨g, 0, none⟩) n c') xs) (hk : k < n)
    (hA : k + 1 < n → ad = ⟨g, (k + 1) * d.sz, none⟩) (hbytes : n * bytes ≤ 140737488355328) (hbase : base ≤ W.heap.size) (hfresh : ∀ b, W.heap.size ≤ b → ok b)
    (h : ∀ v1 w1, Cut d e w1 base ok v1 (xs.eraseIdx k) → W.grownBy w1 none → (v1.ownBlock = some g ∨ v1.ownBlock = some W.heap.size) → Kc (a.put o.dst v1) w1) :
    if Region.wanted o (yielded ops a.tmps) = true then Oper.wp P o a W Kc Q else Kc (a.put o.dst undef) W := by
  obtain ⟨i0, hi, hzz⟩ := Option.map_eq_some_iff.1 hinfo
  simp only [Prod.mk.injEq] at hzz
  obtain ⟨hz0, hz1, hz2⟩ := hzz
  subst hm; subst hz2
  obtain ⟨v1, w1, hr, h1, h2, h3⟩ := capcut_run (P := P) d base t o.type e i0 z ht hi hz0 hzs hz1 ad HO hk hA hbytes hb0 hbase hfresh (c2 := c2)
  rw [if_pos hw]
  unfold Oper.wp execOp
  simp only [ho, resolve, invoke, builtin, Sem.run_bind, Sem.run_pure, Result.andThen_ok, List.map_toArray, List.map_cons, List.map_nil, hs, hx, hr]
  exact h v1 w1 h1 h2 h3
end
end Go.Proofs.Ytodnbclphjgofaa.Cap
