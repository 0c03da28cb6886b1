/- Executor, second make: a block that is gone; a beginning with blocks that came in. -/
import Derived.Test.YticjocbgadgjpaaX26
set_option linter.unusedVariables false
set_option linter.unusedSimpArgs false
set_option linter.constructorNameAsVariable false
set_option linter.unusedVariables false
set_option linter.unusedSimpArgs false
namespace Go.Xe
open Go.RowKit

/-- A block is turned and forgotten. -/
theorem Sim.kill {base ρ w w'} {S : St} (h : Sim base ρ S.get S.next w) {kb : Nat} {ao0 : AO} (hb : S.get (.new kb) = some ao0) {r sh m : Nat} (hρ : ρ (.new kb) = some (r, sh, m))
    (hs : w'.heap.size = w.heap.size) (ho : ∀ k, k ≠ r → w'.heap[k]? = w.heap[k]?) (hx : w'.os = w.os ∧ w'.tape = w.tape ∧ w'.output = w.output) :
    Next base ρ S.get S.next w (S.put kb none).get (S.put kb none).next ρ w' := by
  have hbr : base ≤ r := h.lows _ _ hρ
  rw [S.put_get]
  have hlive : ∀ j a, gset S.get (.new kb) none j = some a → S.get j = some a ∧ j ≠ .new kb := by
    intro j a hj; unfold gset at hj; by_cases e : j = .new kb
    · rw [if_pos e] at hj; cases hj
    · rw [if_neg e] at hj; exact ⟨hj, e⟩
  refine ⟨.refl _, ⟨?_, ?_, h.fresh, h.lows, by rw [hs]; exact h.size⟩, ⟨hx.1, hx.2.1, hx.2.2, by omega, fun k hk => ho _ (by omega)⟩, ?_, ?_, fun _ _ h0 => h0, Nat.le_refl _⟩
  · intro j a hj
    obtain ⟨h1, h2⟩ := hlive _ _ hj
    obtain ⟨r', sh', m', g1, g2⟩ := h.obj _ _ h1
    refine ⟨r', sh', m', g1, ?_⟩
    have : r' ≠ r := fun e' => h2 (h.inj _ _ _ _ _ _ h1 hb g1 hρ (by simpa using e'))
    rw [ho _ this]; exact g2
  · intro j jn a a' x x' hj hj' hx hx' he
    exact h.inj _ _ _ _ _ _ (hlive _ _ hj).1 (hlive _ _ hj').1 hx hx' he
  · intro k _ hi
    exact ho k fun e => hi ⟨.new kb, ao0, (r, sh, m), hb, hρ, e.symm⟩
  · rintro k ⟨j, a, x, hj, hx, rfl⟩ _
    exact ⟨j, a, x, (hlive _ _ hj).1, hx, rfl⟩

/-- The memory at the beginning: what came in. -/
noncomputable def SI (m : Nat → Option AO) : St := ⟨m, HM.e, 0⟩
def ρI (q : Nat → Option (Nat × Nat × Nat)) : Ren := fun b => match b with | .inp r => q r | .new _ => none
theorem SI_new (m : Nat → Option AO) (k : Nat) : (SI m).get (.new k) = none := HM.get_e k
theorem simI {m : Nat → Option AO} {q : Nat → Option (Nat × Nat × Nat)} {w : World} (h : ∀ r ao, m r = some ao → ∃ x sh mm, q r = some (x, sh, mm) ∧ OR (ρI q) ao sh mm ((w.heap[x]?).map thaw)) :
    Sim w.heap.size (ρI q) (SI m).get (SI m).next w :=
  { obj := fun b ao hb => by
      cases b with
      | inp r => exact h r ao hb
      | new k => rw [SI_new] at hb; cases hb
    inj := fun b k ao ao' x x' _ hb => by rw [SI_new] at hb; cases hb
    fresh := fun n _ => rfl
    lows := fun n x h => by cases h
    size := Nat.le_refl _ }
/-- A law's call. -/
theorem CallE.runsI {P G f args} {m : Nat → Option AO} {q : Nat → Option (Nat × Nat × Nat)} {K : AV → St → Prop} (h : CallE P G f args (SI m) K) (W : World) (hq : ∀ g, G g = true → ∃ mm, q g = some (g, 0, mm))
    (hm : ∀ r ao, m r = some ao → ∃ x sh mm, q r = some (x, sh, mm) ∧ OR (ρI q) ao sh mm ((W.heap[x]?).map thaw)) {vs : List Value} (hvs : All2 (VR (ρI q)) args vs) {R : Ending → World → Prop}
    (hR : ∀ v S' cv ρ' W', K v S' → VR ρ' v cv → Below W.heap.size W W' → R (.returned cv) W') : Calls P f vs.toArray W R := by
  refine (h.2 W.heap.size (ρI q) W vs (simI hm) hq hvs).mono ?_
  rintro e w' ⟨v, S', cv, ρ', k, rfl, hv, hn⟩
  exact hR v S' cv ρ' w' k hv hn.below

/-- Does a value lead to new blocks? -/
def oldSV : SV → Bool
  | .ptr (.mk (.new _) _) => false
  | .sl (.mk (.new _) _ _ _) => false
  | .map (.mk (.new _)) => false
  | .fn (.mk _ _ _) => false
  | _ => true
def oldV1 : V1 → Bool
  | .s v => oldSV v
  | .agg l => l.all oldSV
def oldAO : AO → Bool
  | .cells l _ => l.all oldSV
  | .dict es => es.all fun e => oldV1 e.1 && oldV1 e.2
  | _ => false
theorem oldSV_ok {ρ ρ' : Ren} (hρ : ∀ r, ρ (.inp r) = ρ' (.inp r)) {v : SV} {cv : Value} (h : oldSV v = true) (hr : SR ρ v cv) : SR ρ' v cv := by
  rcases v with b | ⟨k, n⟩ | s | (_ | ⟨(b | b), o⟩) | (_ | ⟨(b | b), o, n, c⟩) | (_ | (b | b)) | (_ | ⟨f, a, c⟩) <;> first | exact hr | (cases h; done) | skip
  · obtain ⟨r, sh, m, h1, h2⟩ := hr; exact ⟨r, sh, m, by rw [← hρ]; exact h1, h2⟩
  · obtain ⟨r, sh, m, cc, o', h1, h2⟩ := hr; exact ⟨r, sh, m, cc, o', by rw [← hρ]; exact h1, h2⟩
  · obtain ⟨r, sh, m, h1, h2⟩ := hr; exact ⟨r, sh, m, by rw [← hρ]; exact h1, h2⟩
theorem oldSL_ok {ρ ρ' : Ren} (hρ : ∀ r, ρ (.inp r) = ρ' (.inp r)) : ∀ {l : List SV} {vs : List Value}, l.all oldSV = true → All2 (SR ρ) l vs → All2 (SR ρ') l vs
  | _, _, _, .nil => .nil
  | _, _, h, .cons a t => by
    simp only [List.all_cons, Bool.and_eq_true] at h
    exact .cons (oldSV_ok hρ h.1 a) (oldSL_ok hρ h.2 t)
theorem oldV1_ok {ρ ρ' : Ren} (hρ : ∀ r, ρ (.inp r) = ρ' (.inp r)) {v : V1} {cv : Value} (h : oldV1 v = true) (hr : VR1 ρ v cv) : VR1 ρ' v cv := by
  cases v with
  | s v => exact oldSV_ok hρ h hr
  | agg l => obtain ⟨vs, e, hr⟩ := hr; exact ⟨vs, e, oldSL_ok hρ h hr⟩
theorem oldE_ok {ρ ρ' : Ren} (hρ : ∀ r, ρ (.inp r) = ρ' (.inp r)) : ∀ {es : List (V1 × V1 × Nat)} {xs : List MapEntry}, (∀ e ∈ es, oldV1 e.1 = true ∧ oldV1 e.2.1 = true) → All2 (ER1 ρ) es xs → All2 (ER1 ρ') es xs
  | _, _, _, .nil => .nil
  | _, _, h, .cons a t => .cons ⟨oldV1_ok hρ (h _ (by simp)).1 a.1, oldV1_ok hρ (h _ (by simp)).2 a.2.1, a.2.2⟩ (oldE_ok hρ (fun e he => h e (by simp [he])) t)
theorem oldAO_ok {ρ ρ' : Ren} (hρ : ∀ r, ρ (.inp r) = ρ' (.inp r)) {ao : AO} {sh m o} (h : oldAO ao = true) (hr : OR ρ ao sh m o) : OR ρ' ao sh m o := by
  cases ao with
  | cells l op => obtain ⟨pre, vs, post, t, h1, h2, h3, h4⟩ := hr; exact ⟨pre, vs, post, t, h1, h2, oldSL_ok hρ h h3, h4⟩
  | dict es =>
    obtain ⟨xs, c, es', h1, h2, h3⟩ := hr
    refine ⟨xs, c, es', h1, oldE_ok hρ (fun e he => ?_) h2, h3⟩
    have hm : (e.1, e.2.1) ∈ es := h3.mem_iff.1 (List.mem_map_of_mem he)
    have := List.all_eq_true.1 h _ hm
    simpa using this
  | wide => cases h
  | map => cases h
  | iter => cases h
/-- What a function does with plain arguments and what came in alone, it does in any memory with the same that came in. -/
theorem CallE.aloneI {P G f args S} {m : Nat → Option AO} {K0 K : AV → St → Prop} (ha : args.all flatAV = true) (hS : ∀ r, S.inp r = m r) (hm : ∀ r ao, m r = some ao → oldAO ao = true) (h : CallE P G f args (SI m) K0) (hK : ∀ v S', K0 v S' → flatAV v = true ∧ K v S) : CallE P G f args S K := by
  refine ⟨h.1, fun base ρ w vs hs hG hvs => ?_⟩
  let q : Nat → Option (Nat × Nat × Nat) := fun r => ρ (.inp r)
  have hsim : Sim w.heap.size (ρI q) (SI m).get (SI m).next w := simI fun r ao hr => by
    obtain ⟨x, sh, mm, h1, h2⟩ := hs.obj (.inp r) ao (by show S.inp r = _; rw [hS]; exact hr)
    have h2 : OR ρ ao sh mm ((w.heap[x]?).map thaw) := h2
    exact ⟨x, sh, mm, h1, oldAO_ok (ρ := ρ) (ρ' := ρI q) (fun r => rfl) (hm r ao hr) h2⟩
  refine (h.2 w.heap.size (ρI q) w vs hsim hG (flats_ok ha hvs)).mono ?_
  rintro e w' ⟨v, S', cv, ρ', k, rfl, hv, hn⟩
  obtain ⟨hf, hk⟩ := hK v S' k
  exact ⟨v, S, cv, ρ, hk, rfl, flatAV_ok hf hv, Next.beyond hs hn.below⟩
end Go.Xe
