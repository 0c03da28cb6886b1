/- Executor, second make: a piece's check, reckoned. -/
import Derived.Test.YtgjggcgdilahdaaX21
set_option linter.unusedVariables false
set_option linter.unusedSimpArgs false
set_option linter.constructorNameAsVariable false
set_option linter.unusedVariables false
set_option linter.unusedSimpArgs false
namespace Go.Xe
open Go.RowKit

def chkB (P : Program) (n : Nat) (plans : Nat → Plan) : X → List Item → Bool
  | .op x, todo => (match nrm nrmK todo with
    | .code (.region id ops draw) :: r => (match draw with | false => dstOK n ops.toList | true => planB2 P n ops (plans id)) && chkB P n plans x r
    | _ => false)
  | .br x y, todo => (match nrm nrmK todo with
    | .code (.cond _ a b) :: r => chkB P n plans x (.code a :: r) && chkB P n plans y (.code b :: r)
    | _ => false)
  | .ret, _ => true
  | .jmp _ _, _ => true
def jmps : X → List Item → List (Nat × List Item × List Nat)
  | .op x, todo => (match nrm nrmK todo with
    | .code (.region id ops draw) :: r => jmps x r
    | _ => [])
  | .br x y, todo => (match nrm nrmK todo with
    | .code (.cond _ a b) :: r => jmps x (.code a :: r) ++ jmps y (.code b :: r)
    | _ => [])
  | .ret, _ => []
  | .jmp p live, todo => [(p, nrm nrmK todo, live)]
def ptsX : X → List Nat
  | .op x => ptsX x
  | .br x y => ptsX x ++ ptsX y
  | .ret => []
  | .jmp p _ => [p]
theorem chk_jm {P n plans T} : ∀ (x : X) (todo : List Item), chkB P n plans x todo = true → (∀ q ∈ jmps x todo, T q.1 = q.2) → Chk P n plans T x todo
  | .op x, todo, h, hj => by
    unfold Chk
    unfold chkB at h
    unfold jmps at hj
    split at h
    · rename_i id ops draw r he
      rw [he] at hj
      rw [he]
      simp only [Bool.and_eq_true] at h
      refine ⟨?_, chk_jm x r h.2 hj⟩
      cases draw
      · exact h.1
      · exact h.1
    · cases h
  | .br x y, todo, h, hj => by
    unfold Chk
    unfold chkB at h
    unfold jmps at hj
    split at h
    · rename_i c a b r he
      rw [he] at hj
      rw [he]
      simp only [Bool.and_eq_true] at h
      exact ⟨chk_jm x _ h.1 fun q hq => hj q (List.mem_append_left _ hq), chk_jm y _ h.2 fun q hq => hj q (List.mem_append_right _ hq)⟩
    · cases h
  | .ret, _, _, _ => trivial
  | .jmp p live, todo, h, hj => by
    have := hj (p, nrm nrmK todo, live) (by simp [jmps])
    exact this
theorem chk_of {P n plans T x todo} (h : chkB P n plans x todo = true) (hj : jmps x todo = (ptsX x).map fun p => (p, T p)) : Chk P n plans T x todo := by
  refine chk_jm x todo h fun q hq => ?_
  rw [hj] at hq
  obtain ⟨p, _, rfl⟩ := List.mem_map.1 hq
  rfl

def ltB (n : Nat) : List Nat → Bool
  | [] => true
  | t :: l => Nat.blt t n && ltB n l
theorem ltB_ok {n : Nat} : ∀ {l : List Nat}, ltB n l = true → ∀ t ∈ l, t < n
  | [], _ => by simp
  | a :: l, h => by
    simp only [ltB, Bool.and_eq_true] at h
    intro t ht
    rcases List.mem_cons.1 ht with rfl | ht
    · exact blt_iff.1 h.1
    · exact ltB_ok h.2 t ht
end Go.Xe
