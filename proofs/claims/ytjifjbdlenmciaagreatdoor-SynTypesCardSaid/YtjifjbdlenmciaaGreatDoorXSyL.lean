/- Syn: what Low does, and the laws' arguments cut down to cases. -/
import Derived.Test.YtjifjbdlenmciaaGreatDoorXSy0
set_option linter.unusedVariables false
set_option linter.unusedSimpArgs false
set_option linter.constructorNameAsVariable false
set_option linter.unusedVariables false
set_option linter.unusedSimpArgs false
namespace Go.Xe
open Go.RowKit
set_option maxRecDepth 100000
def lowS (x n : Int) : Int := iwrap .i64 (Int.tmod (iwrap .u64 x) (iwrap .u64 n))
theorem u64_nnS (x : Int) : 0 ≤ iwrap .u64 x := by
  rw [iwrap_eq]; simp [IntKind.wrap, IntKind.bits, IntKind.signed, IntKind.min, IntKind.max]; omega
theorem lowS_rng (x : Int) {y : Int} (hy : 0 < y) (hy2 : y ≤ 1000000) : 0 ≤ lowS x y ∧ lowS x y < y := by
  have e1 : iwrap .u64 y = y := by rw [iwrap_eq]; exact wrap_id .u64 y (show (0:Int) ≤ y by omega) (show y ≤ 18446744073709551615 by omega)
  have p1 := u64_nnS x
  unfold lowS
  rw [e1]
  have h1 : 0 ≤ (iwrap .u64 x).tmod y := Int.tmod_nonneg y p1
  have h2 : (iwrap .u64 x).tmod y < y := Int.tmod_lt_of_pos _ hy
  rw [iwrap_eq, wrap_id .i64 _ (show (-9223372036854775808:Int) ≤ _ by omega) (show _ ≤ (9223372036854775807:Int) by omega)]
  exact ⟨h1, h2⟩
theorem lowS_id {n : Int} (hn : 0 ≤ n) {y : Int} (hy : n < y) (hy2 : y ≤ 1000000) : lowS n y = n := by
  unfold lowS
  rw [iwrap_eq, iwrap_eq, iwrap_eq, wrap_id .u64 n (show (0:Int) ≤ n by omega) (show n ≤ 18446744073709551615 by omega), wrap_id .u64 y (show (0:Int) ≤ y by omega) (show y ≤ 18446744073709551615 by omega), Int.tmod_eq_of_lt hn hy]
  exact wrap_id .i64 _ (show (-9223372036854775808:Int) ≤ _ by omega) (show _ ≤ (9223372036854775807:Int) by omega)
theorem lowF {D J : Disp} {x y : Int} (hy : 0 < y) (hy2 : y ≤ 1000000) {S : St} {K : AV → St → Prop} : F11_0 D J x y S K = K (nmS (lowS x y)) S := by
  unfold F11_0
  have e1 : iwrap .u64 y = y := by rw [iwrap_eq]; exact wrap_id .u64 y (show (0:Int) ≤ y by omega) (show y ≤ 18446744073709551615 by omega)
  have hne : y ≠ 0 := by omega
  have e2 : Bool.not (ieq (iwrap .u64 y) 0) = true := by rw [e1, ieq_eq]; simp [hne]
  dsimp only
  rw [e2]
  rfl
theorem SynE_11 (mx : Int) (cp : Nat → Nat) (k : Nat) (args : List AV) (S : St) (K : AV → St → Prop) : SynE mx cp k 11 args S K = SynD SynB k 11 args S K := rfl
theorem SynE_8 (mx : Int) (cp : Nat → Nat) (k : Nat) (args : List AV) (S : St) (K : AV → St → Prop) : SynE mx cp k 8 args S K = SynD SynB k 8 args S K := rfl
theorem low_eqD (k : Nat) {x y : Int} (hy : 0 < y) (hy2 : y ≤ 1000000) (S : St) (K : AV → St → Prop) : SynD SynB (k + 1) 11 [nmS x, nmS y] S K = K (nmS (lowS x y)) S := by
  rw [SynD_11, lowF hy hy2]
theorem low_eqE (mx : Int) (cp : Nat → Nat) (k : Nat) {x y : Int} (hy : 0 < y) (hy2 : y ≤ 1000000) (S : St) (K : AV → St → Prop) : SynE mx cp (k + 1) 11 [nmS x, nmS y] S K = K (nmS (lowS x y)) S := by
  rw [SynE_11, low_eqD k hy hy2]
/-- `binary` sees its argument only through `Low`. -/
theorem bin_eq (mx : Int) (cp : Nat → Nat) (k : Nat) (x : Int) : SynE mx cp (k + 2) 8 [nmS x] = SynE mx cp (k + 2) 8 [nmS (lowS x 10)] := by
  have hr := lowS_rng x (y := 10) (by decide) (by decide)
  funext S K
  rw [SynE_8, SynE_8, show k + 2 = (k + 1) + 1 from rfl, SynD_8, SynD_8]
  unfold F8_0
  dsimp only
  unfold F8_q0
  rw [low_eqD k (x := x) (y := 10) (by decide) (by decide), low_eqD k (x := lowS x 10) (y := 10) (by decide) (by decide), lowS_id hr.1 hr.2 (by decide)]
theorem binds_red {D J : Disp} {x0 x1 r s : Int} (h1 : D 8 [nmS x0] = D 8 [nmS r]) (h2 : D 8 [nmS x1] = D 8 [nmS s]) (h3 : D 11 [nmS x0, nmS 10] = D 11 [nmS r, nmS 10]) (h4 : D 11 [nmS x1, nmS 10] = D 11 [nmS s, nmS 10]) (S : St) (K : AV → St → Prop) : F3_0 D J x0 x1 S K = F3_0 D J r s S K := by
  unfold F3_0 F3_q13 F3_q12 F3_q11 F3_q10 F3_q9
  rw [h1, h2, h3, h4]
theorem else_red {D J : Disp} {x0 x1 r s : Int} {S : St} (h1 : ∀ K : AV → St → Prop, D 11 [nmS x0, nmS 8] S K = K (nmS r) S) (h2 : ∀ K : AV → St → Prop, D 11 [nmS r, nmS 8] S K = K (nmS r) S)
    (h3 : ∀ K : AV → St → Prop, D 11 [nmS x1, nmS (iwrap .i64 (iwrap .i64 (1 + r) + 1))] S K = K (nmS s) S) (h4 : ∀ K : AV → St → Prop, D 11 [nmS s, nmS (iwrap .i64 (iwrap .i64 (1 + r) + 1))] S K = K (nmS s) S) (K : AV → St → Prop) :
    F4_0 D J x0 x1 S K = F4_0 D J r s S K := by
  unfold F4_0
  rw [h1, h2]
  unfold F4_q7
  show D 11 [nmS x1, nmS (iwrap .i64 (iwrap .i64 (1 + r) + 1))] S _ = D 11 [nmS s, nmS (iwrap .i64 (iwrap .i64 (1 + r) + 1))] S _
  rw [h3, h4]
theorem blank_red {D J : Disp} {x0 x1 r s : Int} (h1 : D 11 [nmS x0, nmS 7] = D 11 [nmS r, nmS 7]) (h2 : D 11 [nmS x1, nmS 7] = D 11 [nmS s, nmS 7]) (S : St) (K : AV → St → Prop) : F7_0 D J x0 x1 S K = F7_0 D J r s S K := by
  unfold F7_0 F7_q12
  dsimp only
  unfold F7_q11
  rw [h1]
  unfold F7_q10
  rw [h2]
theorem low_step (mx : Int) (cp : Nat → Nat) (k : Nat) (x : Int) {y : Int} (hy : 0 < y) (hy2 : y ≤ 1000000) : SynE mx cp (k + 1) 11 [nmS x, nmS y] = SynE mx cp (k + 1) 11 [nmS (lowS x y), nmS y] := by
  have hr := lowS_rng x hy hy2
  funext S K
  rw [low_eqE mx cp k hy hy2, low_eqE mx cp k hy hy2, lowS_id hr.1 hr.2 hy2]
theorem fineI (mx : Int) (cp : Nat → Nat) : fine mx cp := ⟨rfl, rfl⟩
/-- What a law gives at the program. -/
abbrev SynLaw (f : Nat) : Prop := ∀ (mx : Int) (cp : Nat → Nat) (x0 x1 : Int), CallE SynP SynG f [nmS x0, nmS x1] (SynS mx cp) isTrue
theorem binds_law (h : ∀ (k : Nat) (mx : Int) (cp : Nat → Nat) (r s : Int), 0 ≤ r → r < 10 → 0 ≤ s → s < 10 → A3_0 (SynE mx cp (k+4000)) (J3 (SynE mx cp (k+4000)) (k+4000)) [nmS r, nmS s] (SynS mx cp) isTrue = fine mx cp) : SynLaw 3 := by
  intro mx cp x0 x1
  have ha := lowS_rng x0 (y := 10) (by decide) (by decide)
  have hb := lowS_rng x1 (y := 10) (by decide) (by decide)
  have red := binds_red (D := SynE mx cp (0 + 4000)) (J := J3 (SynE mx cp (0 + 4000)) (0 + 4000)) (bin_eq mx cp 3998 x0) (bin_eq mx cp 3998 x1) (low_step mx cp 3999 x0 (y := 10) (by decide) (by decide)) (low_step mx cp 3999 x1 (y := 10) (by decide) (by decide)) (SynS mx cp) isTrue
  refine E3_ok (SynE_ok mx cp (0 + 4000)) (0 + 4000) ?_
  show F3_0 (SynE mx cp (0 + 4000)) (J3 (SynE mx cp (0 + 4000)) (0 + 4000)) x0 x1 (SynS mx cp) isTrue
  rw [red]
  have hc := h 0 mx cp _ _ ha.1 ha.2 hb.1 hb.2
  show A3_0 (SynE mx cp (0+4000)) (J3 (SynE mx cp (0+4000)) (0+4000)) [nmS (lowS x0 10), nmS (lowS x1 10)] (SynS mx cp) isTrue
  rw [hc]; exact fineI mx cp
theorem blank_law (h : ∀ (k : Nat) (mx : Int) (cp : Nat → Nat) (r s : Int), 0 ≤ r → r < 7 → 0 ≤ s → s < 7 → A7_0 (SynE mx cp (k+4000)) (J7 (SynE mx cp (k+4000)) (k+4000)) [nmS r, nmS s] (SynS mx cp) isTrue = fine mx cp) : SynLaw 7 := by
  intro mx cp x0 x1
  have ha := lowS_rng x0 (y := 7) (by decide) (by decide)
  have hb := lowS_rng x1 (y := 7) (by decide) (by decide)
  have red := blank_red (D := SynE mx cp (0 + 4000)) (J := J7 (SynE mx cp (0 + 4000)) (0 + 4000)) (low_step mx cp 3999 x0 (y := 7) (by decide) (by decide)) (low_step mx cp 3999 x1 (y := 7) (by decide) (by decide)) (SynS mx cp) isTrue
  refine E7_ok (SynE_ok mx cp (0 + 4000)) (0 + 4000) ?_
  show F7_0 (SynE mx cp (0 + 4000)) (J7 (SynE mx cp (0 + 4000)) (0 + 4000)) x0 x1 (SynS mx cp) isTrue
  rw [red]
  have hc := h 0 mx cp _ _ ha.1 ha.2 hb.1 hb.2
  show A7_0 (SynE mx cp (0+4000)) (J7 (SynE mx cp (0+4000)) (0+4000)) [nmS (lowS x0 7), nmS (lowS x1 7)] (SynS mx cp) isTrue
  rw [hc]; exact fineI mx cp
theorem else_law (h : ∀ (k : Nat) (mx : Int) (cp : Nat → Nat) (r s : Int), 0 ≤ r → r < 8 → 0 ≤ s → s ≤ r + 1 → A4_0 (SynE mx cp (k+4000)) (J4 (SynE mx cp (k+4000)) (k+4000)) [nmS r, nmS s] (SynS mx cp) isTrue = fine mx cp) : SynLaw 4 := by
  intro mx cp x0 x1
  have ha := lowS_rng x0 (y := 8) (by decide) (by decide)
  generalize hr : lowS x0 8 = r at ha
  have e1 : iwrap .i64 (1 + r) = 1 + r := by rw [iwrap_eq]; exact wrap_id .i64 _ (show (-9223372036854775808:Int) ≤ _ by omega) (show _ ≤ (9223372036854775807:Int) by omega)
  have e2 : iwrap .i64 (1 + r + 1) = r + 2 := by rw [iwrap_eq, show 1 + r + 1 = r + 2 by omega]; exact wrap_id .i64 _ (show (-9223372036854775808:Int) ≤ _ by omega) (show _ ≤ (9223372036854775807:Int) by omega)
  have hb := lowS_rng x1 (y := r + 2) (by omega) (by omega)
  generalize hs : lowS x1 (r + 2) = s at hb
  have red := else_red (D := SynE mx cp (0 + 4000)) (J := J4 (SynE mx cp (0 + 4000)) (0 + 4000)) (x0 := x0) (x1 := x1) (r := r) (s := s) (S := SynS mx cp)
    (fun K => by rw [show 0 + 4000 = 3999 + 1 from rfl, low_eqE mx cp 3999 (by decide) (by decide), hr])
    (fun K => by rw [show 0 + 4000 = 3999 + 1 from rfl, low_eqE mx cp 3999 (by decide) (by decide), lowS_id ha.1 ha.2 (by decide)])
    (fun K => by rw [show 0 + 4000 = 3999 + 1 from rfl, e1, e2, low_eqE mx cp 3999 (by omega) (by omega), hs])
    (fun K => by rw [show 0 + 4000 = 3999 + 1 from rfl, e1, e2, low_eqE mx cp 3999 (by omega) (by omega), lowS_id hb.1 (by omega) (by omega)]) isTrue
  refine E4_ok (SynE_ok mx cp (0 + 4000)) (0 + 4000) ?_
  show F4_0 (SynE mx cp (0 + 4000)) (J4 (SynE mx cp (0 + 4000)) (0 + 4000)) x0 x1 (SynS mx cp) isTrue
  rw [red]
  have hc := h 0 mx cp r s ha.1 ha.2 hb.1 (by omega)
  show A4_0 (SynE mx cp (0+4000)) (J4 (SynE mx cp (0+4000)) (0+4000)) [nmS r, nmS s] (SynS mx cp) isTrue
  rw [hc]; exact fineI mx cp
end Go.Xe
