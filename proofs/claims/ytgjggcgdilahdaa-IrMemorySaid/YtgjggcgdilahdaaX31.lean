/- Executor: some of what a call leaves is forgotten. -/
import Derived.Test.YtgjggcgdilahdaaX30
set_option linter.unusedVariables false
set_option linter.unusedSimpArgs false
set_option linter.constructorNameAsVariable false
set_option linter.unusedVariables false
set_option linter.unusedSimpArgs false
namespace Go.Xe
open Go.RowKit
/-- Some of what a call leaves is forgotten. -/
theorem CallE.forget {P G f args S} {K0 K : AV → St → Prop} (h : CallE P G f args S K0)
    (hK : ∀ v S2, K0 v S2 → ∃ S1 : St, S1.next = S2.next ∧ (∀ k, S.next ≤ k → S1.get (.new k) = S.get (.new k)) ∧ (∀ b ao, (∀ k, b = .new k → k < S.next) → S1.get b = some ao → S2.get b = some ao) ∧ K v S1) : CallE P G f args S K := by
  refine ⟨h.1, fun base ρ w vs hs hG hvs => (h.2 base ρ w vs hs hG hvs).mono ?_⟩
  rintro e w' ⟨v, S2, cv, ρ', k, rfl, hv, hn⟩
  obtain ⟨S1, h1, h2, h3, hk⟩ := hK v S2 k
  have sub : ∀ b ao, S1.get b = some ao → S2.get b = some ao := by
    intro b ao hb
    refine h3 b ao (fun k hk => ?_) hb
    subst hk
    by_cases hlt : k < S.next
    · exact hlt
    · rw [h2 k (by omega)] at hb
      obtain ⟨r, sh, m, hρ, _⟩ := hs.obj _ _ hb
      rw [hs.fresh k (by omega)] at hρ
      cases hρ
  refine ⟨v, S1, cv, ρ', hk, rfl, hv, ?_⟩
  refine ⟨hn.le, ⟨fun b ao hb => hn.sim.obj b ao (sub b ao hb), fun b k ao ao' x x' hb hk => hn.sim.inj b k ao ao' x x' (sub _ _ hb) (sub _ _ hk), by rw [h1]; exact hn.sim.fresh, hn.sim.lows, hn.sim.size⟩, hn.below, hn.frame, ?_, hn.ids, by rw [h1]; exact hn.up⟩
  intro r hi hr
  refine hn.img r ?_ hr
  obtain ⟨b, ao, x, e1, e2, e3⟩ := hi
  exact ⟨b, ao, x, sub _ _ e1, e2, e3⟩
theorem at_get {S : St} {b : Bk} {l : List SV} {op : Op2} {o : Nat} {K : List SV → Prop} (h : S.get b = some (.cells l op)) (hk : K (l.drop o)) : St.at S b o K := by
  unfold St.at; rw [h]; exact hk
theorem add_new (S : St) (ao : AO) : (S.add ao).get (.new S.next) = some ao := by rw [St.add_get]; simp [gset]
theorem add_old {S : St} {ao : AO} {b : Bk} (h : b ≠ .new S.next) : (S.add ao).get b = S.get b := by rw [St.add_get]; simp [gset, h]
noncomputable abbrev bkOld (b : Bk) (n : Nat) : Bool := Bk.rec (motive := fun _ => Bool) (fun _ => true) (fun k => Nat.blt k n) b
theorem bkOld_ne {b : Bk} {n : Nat} (h : bkOld b n = true) {m : Nat} (hm : n ≤ m) : b ≠ .new m := by
  rintro rfl
  have : Nat.blt m n = true := h
  rw [blt_iff] at this; omega
theorem src_some {S : St} {z : Nat} {x : LV} {K : List SV → Nat → Prop} (h : S.src z x K) : (x = .nil ∧ K [] 0) ∨ ∃ b o n c l op, x = .mk b o n c ∧ S.get b = some (.cells l op) ∧ o + n * z ≤ l.length ∧ K ((l.drop o).take (n * z)) n := by
  unfold St.src at h
  cases x with
  | nil => exact .inl ⟨rfl, h⟩
  | mk b o n c =>
    refine .inr ?_
    dsimp only at h
    split at h
    · rename_i l op hg
      obtain ⟨h1, h2⟩ := req_and h
      exact ⟨b, o, n, c, l, op, rfl, hg, Nat.le_of_ble_eq_true h1, h2⟩
    · exact h.elim
end Go.Xe
