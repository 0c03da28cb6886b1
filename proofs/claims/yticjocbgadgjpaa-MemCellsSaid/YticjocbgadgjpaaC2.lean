/- A part of the proof: C2. -/
import Derived.Test.YticjocbgadgjpaaC1
set_option linter.unusedVariables false
set_option linter.unusedSimpArgs false
set_option linter.constructorNameAsVariable false
set_option linter.unusedVariables false
set_option maxRecDepth 100000
namespace Go.Xe
open Go.RowKit
variable {i : Nat → Option AO}
abbrev i32s : List Nat := [105, 51, 50]
def flatC : Nat → List SV
  | 0 => []
  | k + 1 => flatC k ++ [.int .i64 (4 * (k : Int)), .str i32s]
def intsC : Nat → List SV
  | 0 => []
  | k + 1 => intsC k ++ [.int .i64 (4 * (k : Int))]
def kindV (x : Int) : Int := if x = 0 then 0 else 1
def entC (v : Nat → Int) (k : Nat) : V1 × V1 × Nat := (spotV 1 (4 * (k : Int)), .agg (heldV i32s (kindV (v k)) (v k) 0 0), k)
def entsC (v : Nat → Int) : Nat → List (V1 × V1 × Nat)
  | 0 => []
  | k + 1 => entsC v k ++ [entC v k]
theorem flatC_len : ∀ k, (flatC k).length = k * 2
  | 0 => rfl
  | k + 1 => by simp [flatC, flatC_len k]; omega
theorem intsC_len : ∀ k, (intsC k).length = k
  | 0 => rfl
  | k + 1 => by simp [intsC, intsC_len k]
theorem entsC_len (v) : ∀ k, (entsC v k).length = k
  | 0 => rfl
  | k + 1 => by simp [entsC, entsC_len v k]
theorem flatC_drop : ∀ {m k : Nat}, k < m → ∃ r, (flatC m).drop (k * 2) = .int .i64 (4 * (k : Int)) :: .str i32s :: r
  | 0, k, h => by omega
  | m + 1, k, h => by
    show ∃ r, (flatC m ++ _).drop (k * 2) = _
    by_cases e : k = m
    · subst e
      rw [List.drop_append, flatC_len, List.drop_eq_nil_of_le (by rw [flatC_len]; exact Nat.le_refl _)]
      exact ⟨[], by simp⟩
    · obtain ⟨r, hr⟩ := flatC_drop (m := m) (k := k) (by omega)
      rw [List.drop_append_of_le_length (by rw [flatC_len]; omega), hr]
      exact ⟨_, rfl⟩
theorem intsC_drop : ∀ {m k : Nat}, k < m → ∃ r, (intsC m).drop k = .int .i64 (4 * (k : Int)) :: r
  | 0, k, h => by omega
  | m + 1, k, h => by
    show ∃ r, (intsC m ++ _).drop k = _
    by_cases e : k = m
    · subst e
      rw [List.drop_append, intsC_len, List.drop_eq_nil_of_le (by rw [intsC_len]; exact Nat.le_refl _)]
      exact ⟨[], by simp⟩
    · obtain ⟨r, hr⟩ := intsC_drop (m := m) (k := k) (by omega)
      rw [List.drop_append_of_le_length (by rw [intsC_len]; omega), hr]
      exact ⟨_, rfl⟩
theorem eq_spot (a b c d : Int) : eqA MemP 50 54 (spotV a b) (spotV c d) = some (ieq a c && (ieq b d && true)) := by kernel_rfl
theorem find_ff {P kt key} {e : V1 × V1 × Nat} {es : List (V1 × V1 × Nat)} {j} (h : eqA P 50 kt key e.1 = some false) : findA P kt key (e :: es) j = findA P kt key es (j + 1) := by
  show (match eqA P 50 kt key e.1 with | some true => _ | some false => _ | none => _) = _
  rw [h]
theorem find_tt {P kt key} {e : V1 × V1 × Nat} {es : List (V1 × V1 × Nat)} {j} (h : eqA P 50 kt key e.1 = some true) : findA P kt key (e :: es) j = some (some (j, e.2.1)) := by
  show (match eqA P 50 kt key e.1 with | some true => _ | some false => _ | none => _) = _
  rw [h]
theorem find_nn {P kt key} {e : V1 × V1 × Nat} {es : List (V1 × V1 × Nat)} {j} (h : eqA P 50 kt key e.1 = none) : findA P kt key (e :: es) j = none := by
  show (match eqA P 50 kt key e.1 with | some true => _ | some false => _ | none => _) = _
  rw [h]
theorem find_app {P kt key} : ∀ {es es' : List (V1 × V1 × Nat)} {j}, findA P kt key es j = some none → findA P kt key (es ++ es') j = findA P kt key es' (j + es.length)
  | [], es', j, h => by simp
  | e :: es, es', j, h => by
    rw [List.cons_append]
    cases hq : eqA P 50 kt key e.1 with
    | none => rw [find_nn hq] at h; cases h
    | some b =>
      cases b with
      | true => rw [find_tt hq] at h; cases h
      | false =>
        rw [find_ff hq] at h ⊢
        rw [find_app h, show j + (e :: es).length = j + 1 + es.length by simp only [List.length_cons]; omega]
theorem find_app2 {P kt key} : ∀ {es es' : List (V1 × V1 × Nat)} {j r}, findA P kt key es j = some (some r) → findA P kt key (es ++ es') j = some (some r)
  | [], es', j, r, h => by cases h
  | e :: es, es', j, r, h => by
    rw [List.cons_append]
    cases hq : eqA P 50 kt key e.1 with
    | none => rw [find_nn hq] at h; cases h
    | some b =>
      cases b with
      | true => rw [find_tt hq] at h ⊢; exact h
      | false => rw [find_ff hq] at h ⊢; exact find_app2 h
theorem find_no (v : Nat → Int) {off : Int} : ∀ {m : Nat} {j}, (∀ k : Nat, k < m → off ≠ 4 * (k : Int)) → findA MemP 54 (spotV 1 off) (entsC v m) j = some none
  | 0, j, _ => rfl
  | m + 1, j, h => by
    show findA MemP 54 (spotV 1 off) (entsC v m ++ [entC v m]) j = _
    rw [find_app (find_no v fun k hk => h k (by omega))]
    exact find_ff ((eq_spot _ _ _ _).trans (by rw [ieq_eq off, show (off == 4 * (m : Int)) = false from by simpa using h m (by omega)]; rfl))
theorem find_yes (v : Nat → Int) : ∀ {m k : Nat}, k < m → findA MemP 54 (spotV 1 (4 * (k : Int))) (entsC v m) 0 = some (some (k, .agg (heldV i32s (kindV (v k)) (v k) 0 0)))
  | 0, k, h => by omega
  | m + 1, k, h => by
    show findA MemP 54 (spotV 1 (4 * (k : Int))) (entsC v m ++ [entC v m]) 0 = _
    by_cases e : k = m
    · subst e
      rw [find_app (find_no v fun j hj => by omega), entsC_len]
      rw [Nat.zero_add]
      exact find_tt ((eq_spot _ _ _ _).trans (by rw [ieq_eq (4 * (k : Int)), show (4 * (k : Int) == 4 * (k : Int)) = true from by simp]; rfl))
    · exact find_app2 (find_yes v (m := m) (k := k) (by omega))
end Go.Xe
