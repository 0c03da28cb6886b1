/- The plain statement of the law MovesRings: at most 209 cases, each reckoned by the kernel. -/
import Derived.Test.YtodnbclphjgofaaPMovRi
import Derived.Test.YtodnbclphjgofaaPMovx3
namespace Go.Proofs.Ytodnbclphjgofaa.PMov
open Go Go.RowKit Go.Proofs.YtodnbclphjgofaaW.PrintWords
set_option maxRecDepth 100000
theorem low_val (x : Int) (n : Nat) (h0 : 0 < n) (h1 : n ≤ 1000) : ∃ u : Nat, u < n ∧ spokeshavelaw0_Low.f x (n : Int) = some (u : Int) := by
 unfold spokeshavelaw0_Low.f
 have u64w : ∀ y : Int, IntKind.u64.wrap y = y % 18446744073709551616 := fun y => by simp [IntKind.wrap, IntKind.bits, IntKind.signed]
 rw [u64w, u64w]
 have e : (n : Int) % 18446744073709551616 = n := by omega
 rw [e, if_neg (by omega), Int.tmod_eq_emod_of_nonneg (by omega)]
 have h2 := Int.emod_lt_of_pos (x % 18446744073709551616) (show (0 : Int) < n by omega)
 have h3 := Int.emod_nonneg (x % 18446744073709551616) (show (n : Int) ≠ 0 by omega)
 refine ⟨(x % 18446744073709551616 % n).toNat, by omega, ?_⟩
 congr 1
 unfold wrap64
 omega
theorem awake10 : spokeshavelaw21_awake.f 10 = some true := by decide +kernel
theorem awake_ge (k : Nat) (h : 10 ≤ k) : spokeshavelaw21_awake.f k = some true := at_rounds (fun k => spokeshavelaw21_awake.mono k) h awake10
/-- Rings, its second number told. -/
def ringsL : Nat → Int → Int → List S32 → Int → Option Bool
 | 0, _, _, _, _ => none
 | k + 1, x0, u, x5, x6 => if x6 < x0 then (if x0 = 0 then none else if x5.length < 8796093022208 then ringsL k x0 u (x5 ++ [(⟨x6, Int.tmod (wrap64 (x6 + 1)) x0⟩ : S32)]) (wrap64 (x6 + 1)) else none) else ((Mov.moves_Order.f k x5 99).bind fun bt105 => if x5.length < 8796093022208 then ((Mov.moves_Order.f k (x5 ++ [(⟨50, u⟩ : S32)]) 99).bind fun bt113 => (if bt105.2 = true then (if bt113.2 = true then (if (bt105.1.length : Int) = (wrap64 (x0 + 1)) then (if (bt113.1.length : Int) ≥ (wrap64 (x0 + 1)) then (if (bt113.1.length : Int) ≤ (wrap64 (x0 + 2)) then (if 10 ≤ k then some true else none) else (none)) else (none)) else (none)) else (none)) else (none))) else none)
theorem ringsL_of : ∀ (k : Nat) (x0 x1 u : Int) (x5 : List S32) (x6 : Int), spokeshavelaw0_Low.f x1 x0 = some u → ringsL k x0 u x5 x6 = some true → spokeshavelaw21_MovesRings.l0 k x0 x1 x5 x6 = some true
 | 0, _, _, _, _, _, _, h => by simp [ringsL] at h
 | k + 1, x0, x1, u, x5, x6, hu, h => by
  simp only [ringsL] at h
  simp only [spokeshavelaw21_MovesRings.l0]
  by_cases c1 : x6 < x0
  · rw [if_pos c1] at h ⊢
    by_cases c2 : x0 = 0
    · rw [if_pos c2] at h; cases h
    · rw [if_neg c2] at h ⊢
      by_cases c3 : x5.length < 8796093022208
      · rw [if_pos c3] at h ⊢
        exact ringsL_of k x0 x1 u _ _ hu h
      · rw [if_neg c3] at h; cases h
  · rw [if_neg c1] at h ⊢
    obtain ⟨t, ht, h⟩ := Option.bind_eq_some_iff.1 h
    rw [ht, hu]
    simp only [Option.bind_some]
    split at h
    case isFalse => cases h
    rename_i c3
    rw [if_pos c3]
    obtain ⟨s, hs, h⟩ := Option.bind_eq_some_iff.1 h
    rw [hs]
    simp only [Option.bind_some]
    by_cases c4 : t.2 = true
    · rw [if_pos c4] at h ⊢
      by_cases c5 : s.2 = true
      · rw [if_pos c5] at h ⊢
        by_cases c6 : (t.1.length : Int) = wrap64 (x0 + 1)
        · rw [if_pos c6] at h ⊢
          by_cases c7 : (s.1.length : Int) ≥ wrap64 (x0 + 1)
          · rw [if_pos c7] at h ⊢
            by_cases c8 : (s.1.length : Int) ≤ wrap64 (x0 + 2)
            · rw [if_pos c8] at h ⊢
              by_cases c9 : 10 ≤ k
              · rw [awake_ge k c9]; rfl
              · rw [if_neg c9] at h; cases h
            · rw [if_neg c8] at h; cases h
          · rw [if_neg c7] at h; cases h
        · rw [if_neg c6] at h; cases h
      · rw [if_neg c5] at h; cases h
    · rw [if_neg c4] at h; cases h
theorem rings_all : ∀ m : Nat, m < 19 → ∀ u : Nat, u < m + 2 → ringsL 60 ((m + 2 : Nat) : Int) (u : Int) [] 0 = some true := by decide +kernel
end Go.Proofs.Ytodnbclphjgofaa.PMov
namespace Go.Proofs.Ytodnbclphjgofaa.Pure
open Go Go.RowKit Go.Proofs.Ytodnbclphjgofaa.PMov Go.Proofs.YtodnbclphjgofaaW.PrintWords Go.Proofs.YtodnbclphjgofaaW.PrintLast
theorem MovesRings : spokeshavelaw21_MovesRings.Pure := by
  intro a0 a1 _ _
  obtain ⟨m, hm, e⟩ := low_val a0 19 (by decide) (by decide)
  obtain ⟨k, hk⟩ : ∃ k : Nat, k = 60 := ⟨_, rfl⟩
  refine ⟨k, ?_⟩
  unfold spokeshavelaw21_MovesRings.f
  rw [show (19 : Int) = ((19 : Nat) : Int) from rfl, e]
  simp only [Option.bind_some]
  have hw : wrap64 (2 + (m : Int)) = ((m + 2 : Nat) : Int) := by unfold wrap64; omega
  rw [hw]
  obtain ⟨u, hu, e2⟩ := low_val a1 (m + 2) (by omega) (by omega)
  exact ringsL_of k _ _ _ _ _ e2 (by rw [hk]; exact rings_all m hm u hu)
end Go.Proofs.Ytodnbclphjgofaa.Pure
