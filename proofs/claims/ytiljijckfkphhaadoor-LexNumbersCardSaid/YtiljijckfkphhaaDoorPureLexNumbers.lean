/- The plain law of LexNumbers (out of LP11). -/
import Derived.Laws.BitsAllLaws
import Derived.OpenShut
import Derived.Test.YtiljijckfkphhaaDoorLxPlain
import Derived.Test.YtiljijckfkphhaaDoorPLexNumbers
namespace Go.Proofs.YtiljijckfkphhaaDoor.PLex
open Go.RowKit Go.Proofs.YtiljijckfkphhaaDoorW.PrintWords Go.Proofs.YtiljijckfkphhaaDoorW.PrintLast Go.Proofs.YtiljijckfkphhaaDoorW.PrintMore
set_option linter.unusedVariables false
set_option linter.unusedSectionVars false
set_option linter.unusedSimpArgs false
section

/- Digits. -/
def digC (v : Nat) : UInt8 := UInt8.ofNat (48 + v)
theorem digC_10 : ∀ v : Fin 10, valS 10 (digC v.1) = some v.1 ∧ digU (digC v.1) = true ∧ partU (digC v.1) = true ∧ (v.1 ≠ 0 → digC v.1 ≠ 48) ∧ digC v.1 ≠ 120 ∧ digC v.1 ≠ 108 ∧ digC v.1 ≠ 117 := by decide +kernel
theorem valN_app (b : Nat) : ∀ (l r : List UInt8) (n : Nat), (∀ c ∈ l, isV b c = true) → valN b n (l ++ r) = valN b (valN b n l) r
  | [], r, n, _ => rfl
  | c :: l, r, n, h => by
    have hc := h c (by simp)
    unfold isV at hc
    obtain ⟨v, hv⟩ := Option.isSome_iff_exists.1 hc
    simp only [List.cons_append, valN, hv]
    exact valN_app b l r _ fun c hc => h c (by simp [hc])
/-- A number's digits. -/
structure Dec (n : Nat) (L : List UInt8) : Prop where
  all : ∀ c ∈ L, isV 10 c = true
  val : valN 10 0 L = n
  head : L = [] ∨ L.getD 0 0 ≠ 48
theorem wr48 (x : Nat) : (IntKind.u64.wrap (48 + Int.tmod (x : Int) 10)) % 256 = ((48 + x % 10 : Nat) : Int) := by
  have e : Int.tmod (x : Int) 10 = ((x % 10 : Nat) : Int) := rfl
  rw [e, IntKind.wrap_u64]; omega
theorem wr10 (x : Nat) (h : x < 18446744073709551616) : IntKind.u64.wrap (Int.tdiv (x : Int) 10) = ((x / 10 : Nat) : Int) := by
  have e : Int.tdiv (x : Int) 10 = ((x / 10 : Nat) : Int) := rfl
  rw [e, IntKind.wrap_u64]; omega
theorem son (m : Nat) : strOfNums [((48 + m : Nat) : Int)] = mk [digC m] := by
  apply ba_eq; rw [Ls_mk]
  show [UInt8.ofNat ((48 + m : Nat) : Int).toNat] = [digC m]
  rw [Int.toNat_natCast]; rfl
theorem dig_loop : ∀ (d x : Nat) (acc : List UInt8), x < 10 ^ d → d ≤ 20 → x < 18446744073709551616 → acc.length + d ≤ 100 → (acc ≠ [] ∨ x ≠ 0) → ∃ L, Dec x L ∧ L.length ≤ d ∧ Ev (fun k => spokeshaveref3_Digits.l0 k (x : Int) (mk acc)) (mk (L ++ acc)) := by
  intro d
  induction d with
  | zero =>
    intro x acc hx _ _ _ hne
    have : x = 0 := by simp at hx; omega
    subst this
    have ha : acc ≠ [] := by rcases hne with h | h; exact h; exact absurd rfl h
    refine ⟨[], ⟨by simp, rfl, .inl rfl⟩, Nat.le_refl _, Ev.step (f := fun _ => some (mk acc)) (Ev.const rfl) fun k => ?_⟩
    simp only [spokeshaveref3_Digits.l0]
    rw [if_neg (by decide), if_neg (by rw [toList_Ls, Ls_mk]; exact ha)]
  | succ d ih =>
    intro x acc hx hd hx64 hacc hne
    by_cases h0 : x = 0
    · subst h0
      have ha : acc ≠ [] := by rcases hne with h | h; exact h; exact absurd rfl h
      refine ⟨[], ⟨by simp, rfl, .inl rfl⟩, Nat.zero_le _, Ev.step (f := fun _ => some (mk acc)) (Ev.const rfl) fun k => ?_⟩
      simp only [spokeshaveref3_Digits.l0]
      rw [if_neg (by decide), if_neg (by rw [toList_Ls, Ls_mk]; exact ha)]
    · have hxd : x / 10 < 10 ^ d := by
        rw [Nat.pow_succ] at hx
        exact Nat.div_lt_of_lt_mul (by rw [Nat.mul_comm]; exact hx)
      obtain ⟨L, hL, hl, hev⟩ := ih (x / 10) (digC (x % 10) :: acc) hxd (by omega) (by omega) (by simp; omega) (.inl (by simp))
      have hm := digC_10 ⟨x % 10, Nat.mod_lt _ (by decide)⟩
      refine ⟨L ++ [digC (x % 10)], ⟨?_, ?_, ?_⟩, by simp; omega, ?_⟩
      · intro c hc
        rcases List.mem_append.1 hc with h | h
        · exact hL.all c h
        · obtain rfl := List.mem_singleton.1 h
          unfold isV; rw [hm.1]; rfl
      · rw [valN_app 10 L _ 0 hL.all, hL.val]
        simp only [valN, hm.1]
        omega
      · right
        cases L with
        | nil =>
          have hz : x / 10 = 0 := by have := hL.val; simp [valN] at this; omega
          show digC (x % 10) ≠ 48
          exact hm.2.2.2.1 (by show x % 10 ≠ 0; omega)
        | cons c t =>
          rcases hL.head with h | h
          · cases h
          · exact h
      · rw [List.append_assoc]
        refine Ev.step hev fun k => ?_
        simp only [spokeshaveref3_Digits.l0]
        rw [if_pos (by omega : (x : Int) > 0), wr48, wr10 x hx64]
        simp only [Option.bind_some]
        rw [son, mk_app, mk_size, mk_size, if_pos (Nat.le_trans (show [digC (x % 10)].length + acc.length ≤ 1000 by simp; omega) (by decide))]
        rfl
/-- What Digits answers. -/
structure DecT (n : Nat) (D : List UInt8) : Prop where
  ne : D ≠ []
  all : ∀ c ∈ D, isV 10 c = true
  val : valN 10 0 D = n
  head : D = [48] ∨ D.getD 0 0 ≠ 48
  len : D.length ≤ 21
theorem dig_ev (n : Nat) (hn : n < 18446744073709551616) : ∃ D, DecT n D ∧ Ev (fun k => spokeshaveref3_Digits.f k (n : Int)) (mk D) := by
  by_cases h0 : n = 0
  · subst h0
    refine ⟨[48], ⟨by simp, by decide +kernel, by decide +kernel, .inl rfl, by simp⟩, ?_⟩
    have h48 : Ev (fun k => spokeshaveref3_Digits.l0 k 0 (mk [48])) (mk [48]) := Ev.step (f := fun _ => some (mk [48])) (Ev.const rfl) fun k => by
      simp only [spokeshaveref3_Digits.l0]
      rw [if_neg (by decide), if_neg (by rw [toList_Ls, Ls_mk]; simp)]
    exact Ev.step h48 fun k => by
      show spokeshaveref3_Digits.l0 (k + 1) 0 (⟨#[]⟩ : ByteArray) = _
      have e : (IntKind.u64.wrap (48 + Int.tmod 0 10)) % 256 = ((48 + 0 : Nat) : Int) := wr48 0
      have e2 : IntKind.u64.wrap (Int.tdiv 0 10) = 0 := wr10 0 (by decide)
      simp only [spokeshaveref3_Digits.l0]
      rw [if_neg (by decide), if_pos (by rw [toList_Ls]), e, e2]
      simp only [Option.bind_some]
      rw [son]
      exact if_pos (by decide)
  · obtain ⟨L, hL, hl, hev⟩ := dig_loop 20 n [] (Nat.lt_trans hn (by decide)) (Nat.le_refl _) hn (by simp) (.inr h0)
    have hne : L ≠ [] := fun e => by subst e; have := hL.val; simp [valN] at this; omega
    refine ⟨L, ⟨hne, hL.all, hL.val, ?_, by omega⟩, ?_⟩
    · rcases hL.head with h | h
      · exact absurd h hne
      · exact .inr h
    · rw [List.append_nil] at hev; exact hev

/- Numbers as tokens. -/
theorem v10_all : ∀ c : UInt8, isV 10 c = true → digU c = true ∧ ws c = false ∧ c ≠ 47 ∧ c ≠ 120 ∧ partU c = true ∧ c ≠ 108 := by
  have : ∀ n : Fin 256, isV 10 (UInt8.ofNat n.1) = true → digU (UInt8.ofNat n.1) = true ∧ ws (UInt8.ofNat n.1) = false ∧ (UInt8.ofNat n.1) ≠ 47 ∧ (UInt8.ofNat n.1) ≠ 120 ∧ partU (UInt8.ofNat n.1) = true ∧ (UInt8.ofNat n.1) ≠ 108 := by decide +kernel
  intro c h
  have hc := this ⟨c.toNat, c.toNat_lt⟩
  simp only [UInt8.ofNat_toNat] at hc
  exact hc h
/-- What may follow: no digit, no 'x'. -/
def okR (b : Nat) (r : List UInt8) : Prop := r = [] ∨ (isV b (r.getD 0 0) = false ∧ r.getD 0 0 ≠ 120)
theorem tw_all {p : UInt8 → Bool} : ∀ (l r : List UInt8), (∀ c ∈ l, p c = true) → (r = [] ∨ p (r.getD 0 0) = false) → (l ++ r).takeWhile p = l
  | [], r, _, h => by
    rcases h with rfl | h
    · rfl
    · cases r with
      | nil => rfl
      | cons c r => rw [List.nil_append, List.takeWhile_cons, if_neg (by rw [show p c = false from h]; decide)]
  | c :: l, r, h, h2 => by
    rw [List.cons_append, List.takeWhile_cons, if_pos (h c (by simp)), tw_all l r (fun c hc => h c (by simp [hc])) h2]
theorem valN_stop (b : Nat) (n : Nat) (r : List UInt8) (h : r = [] ∨ isV b (r.getD 0 0) = false) : valN b n r = n := by
  cases r with
  | nil => rfl
  | cons c r =>
    rcases h with h | h
    · cases h
    · have h' : isV b c = false := h
      unfold isV at h'
      have : valS b c = none := by cases hv : valS b c with
        | none => rfl
        | some v => rw [hv] at h'; cases h'
      simp only [valN, this]
theorem okR_1 {b : Nat} {r : List UInt8} (h : okR b r) : r = [] ∨ isV b (r.getD 0 0) = false := h.imp id (·.1)
theorem dec_hex {n : Nat} {D : List UInt8} (h : DecT n D) {r : List UInt8} (hr : r = [] ∨ r.getD 0 0 ≠ 120) : hexP (D ++ r) = false := by
  cases D with
  | nil => exact absurd rfl h.ne
  | cons c D =>
    cases D with
    | nil =>
      cases r with
      | nil => unfold hexP; simp [List.isPrefixOf]
      | cons b r =>
        have hb : b ≠ 120 := by rcases hr with h | h; cases h; exact h
        unfold hexP; simp [List.isPrefixOf]; intro _ e; exact hb e.symm
    | cons d D =>
      have hd := (v10_all d (h.all d (by simp))).2.2.2.1
      unfold hexP; simp [List.isPrefixOf]; intro _ e; exact hd e.symm
theorem dec_cnt {n : Nat} {D : List UInt8} (h : DecT n D) {r : List UInt8} (hr : okR 10 r) : hexP (D ++ r) = false ∧ cntS (D ++ r) = D.length ∧ numV (D ++ r) = n := by
  have hx := dec_hex h (hr.imp id (·.2))
  refine ⟨hx, ?_⟩
  have hb : baseS (D ++ r) = 10 := by unfold baseS; rw [hx]; rfl
  have hi : i0S (D ++ r) = 0 := by unfold i0S; rw [hx]; rfl
  have hg : (D ++ r).getD 0 0 = D.getD 0 0 := by
    cases D with
    | nil => exact absurd rfl h.ne
    | cons c D => rfl
  unfold cntS numV
  rw [hb, hi]
  unfold zeroP
  rw [hx, hg]
  rcases h.head with rfl | hne
  · rw [← h.val]
    exact ⟨rfl, rfl⟩
  · have : (!false && D.getD 0 0 == 48) = false := by simpa using hne
    rw [this, List.drop_zero]
    refine ⟨?_, ?_⟩
    · rw [if_neg (by decide), tw_all D r h.all (okR_1 hr)]
    · rw [if_neg (by decide), valN_app 10 D r 0 h.all, h.val, valN_stop 10 n r (okR_1 hr)]
def sufL : List (List UInt8) := [[], [117], [108], [117, 108]]
theorem sufL_all : ∀ s ∈ sufL, sufS s = s ∧ s.length ≤ 2 ∧ (s = [] ∨ ((isV 10 (s.getD 0 0) = false ∧ isV 16 (s.getD 0 0) = false) ∧ s.getD 0 0 ≠ 120)) := by decide +kernel
theorem sufL_d : ∀ s ∈ sufL, ∀ v : Fin 10, sufS (s ++ [digC v.1, 120]) = s := by decide +kernel
theorem okR_suf {s : List UInt8} (h : s ∈ sufL) : okR 10 s ∧ okR 16 s := by
  rcases (sufL_all s h).2.2 with h | h
  · exact ⟨.inl h, .inl h⟩
  · exact ⟨.inr ⟨h.1.1, h.2⟩, .inr ⟨h.1.2, h.2⟩⟩
theorem tok_num {l : List UInt8} (h : digU (l.getD 0 0) = true) : tokS l = numS l := by unfold tokS; rw [if_pos h]
theorem dig_head {n : Nat} {D r : List UInt8} (h : DecT n D) : digU ((D ++ r).getD 0 0) = true ∧ gapS (D ++ r) = (true, 0) := by
  cases D with
  | nil => exact absurd rfl h.ne
  | cons c D =>
    have hc := v10_all c (h.all c (by simp))
    exact ⟨hc.1, gapS_none hc.2.1 hc.2.2.1⟩
/-- One token, all of the text. -/
theorem one_lex {l : List UInt8} {t : Tk} (hg : gapS l = (true, 0)) (hne : l ≠ []) (ht : tokS l = .ok t) (hn : t.n = l.length) : lexS l = ([tok33 0 l t], 0, 0) := by
  have hlen : 1 ≤ l.length := by cases l with | nil => exact absurd rfl hne | cons c l => simp
  obtain ⟨m, hm⟩ : ∃ m, l.length = m + 1 := ⟨l.length - 1, by omega⟩
  unfold lexS
  rw [hm, lexF_tok (k := m + 1) (g := 0) hg (by rw [List.drop_zero]; exact hne) (by rw [List.drop_zero]; exact ht) (by rw [Nat.zero_add, hn, List.drop_length]; exact lexF_end (g := 0) rfl rfl)]
  rw [List.drop_zero]
  rfl
theorem dec_lex {n : Nat} {D s : List UInt8} (h : DecT n D) (hs : s ∈ sufL) (hn : n < 18446744073709551616) : lexS (D ++ s) = ([tok33 0 (D ++ s) ⟨3, (D ++ s).length, s, n, false⟩], 0, 0) := by
  obtain ⟨hx, hc, hv⟩ := dec_cnt h (okR_suf hs).1
  have hh := dig_head (r := s) h
  have hi : i0S (D ++ s) = 0 := by unfold i0S; rw [hx]; rfl
  have hne : D ++ s ≠ [] := by simp [h.ne]
  have hD1 : D.length ≠ 0 := fun e => h.ne (List.length_eq_zero_iff.1 e)
  have hnum : numN (D ++ s) = (D ++ s).length := by
    unfold numN; rw [hi, hc, Nat.zero_add, List.drop_left, (sufL_all s hs).1]; simp
  refine one_lex hh.2 hne ?_ rfl
  rw [tok_num hh.1]
  unfold numS
  rw [hnum, hc, hv, hi, hx, Nat.zero_add, List.drop_left, (sufL_all s hs).1]
  have hp : partAt (D ++ s) (D ++ s).length = false := by unfold partAt; simp
  rw [if_neg (by rw [hp]; simp [hD1]), if_neg (by omega)]
theorem err_lex {l : List UInt8} (hg : gapS l = (true, 0)) (hne : l ≠ []) (ht : tokS l = .error 3) : lexS l = ([], 3, 0) := by
  unfold lexS
  rw [lexF_err hg (by rw [List.drop_zero]; exact hne) (by rw [List.drop_zero]; exact ht)]
  rfl
theorem bad_lex {n : Nat} {D s : List UInt8} (h : DecT n D) (hs : s ∈ sufL) (v : Fin 10) : lexS (D ++ (s ++ [digC v.1, 120])) = ([], 3, 0) := by
  have hv := digC_10 v
  have hvd : isV 10 (digC v.1) = true := by unfold isV; rw [hv.1]; rfl
  have hh := dig_head (r := s ++ [digC v.1, 120]) h
  have hD1 : 1 ≤ D.length := by cases D with | nil => exact absurd rfl h.ne | cons c D => simp
  refine err_lex hh.2 (by simp [h.ne]) ?_
  rw [tok_num hh.1]
  -- enough: what stands behind the number is a letter or a digit
  have key : partAt (D ++ (s ++ [digC v.1, 120])) (numN (D ++ (s ++ [digC v.1, 120]))) = true := by
    have hx : hexP (D ++ (s ++ [digC v.1, 120])) = false := dec_hex h (by
      right
      rcases (sufL_all s hs).2.2 with rfl | h2
      · exact hv.2.2.2.2.1
      · cases s with
        | nil => exact hv.2.2.2.2.1
        | cons c s => exact h2.2)
    have hi : i0S (D ++ (s ++ [digC v.1, 120])) = 0 := by unfold i0S; rw [hx]; rfl
    have short : cntS (D ++ (s ++ [digC v.1, 120])) = D.length → partAt (D ++ (s ++ [digC v.1, 120])) (numN (D ++ (s ++ [digC v.1, 120]))) = true := fun hc => by
      unfold numN
      rw [hi, hc, Nat.zero_add, List.drop_left, sufL_d s hs v]
      unfold partAt
      rw [List.getElem?_append_right (by omega), show D.length + s.length - D.length = s.length by omega, List.getElem?_append_right (Nat.le_refl _), Nat.sub_self]
      exact hv.2.2.1
    by_cases hs0 : s = []
    · subst hs0
      rcases h.head with rfl | hne
      · exact short (by unfold cntS zeroP; rw [hx]; rfl)
      · have hg : (D ++ ([] ++ [digC v.1, 120])).getD 0 0 = D.getD 0 0 := by
          cases D with
          | nil => exact absurd rfl h.ne
          | cons c D => rfl
        have hb : baseS (D ++ ([] ++ [digC v.1, 120])) = 10 := by unfold baseS; rw [hx]; rfl
        have hc : cntS (D ++ ([] ++ [digC v.1, 120])) = D.length + 1 := by
          unfold cntS zeroP
          rw [hx, hg, hb, hi]
          have : (!false && D.getD 0 0 == 48) = false := by simpa using hne
          rw [this, if_neg (by decide), List.drop_zero]
          have e : D ++ ([] ++ [digC v.1, 120]) = (D ++ [digC v.1]) ++ [120] := by simp
          rw [e, tw_all (D ++ [digC v.1]) [120] (by
            intro c hc
            rcases List.mem_append.1 hc with h1 | h1
            · exact h.all c h1
            · obtain rfl := List.mem_singleton.1 h1; exact hvd) (.inr (by decide +kernel))]
          simp
        unfold numN
        rw [hi, hc, Nat.zero_add]
        have e : D ++ ([] ++ [digC v.1, 120]) = (D ++ [digC v.1]) ++ [120] := by simp
        have hdl : (D ++ [digC v.1]).length = D.length + 1 := by simp
        rw [e, ← hdl, List.drop_left]
        have hsu : sufS [120] = [] := by decide +kernel
        rw [hsu]
        unfold partAt
        rw [List.length_nil, Nat.add_zero, List.getElem?_append_right (Nat.le_refl _), Nat.sub_self]
        show partU 120 = true
        decide +kernel
    · have hr : okR 10 (s ++ [digC v.1, 120]) := by
        right
        rcases (sufL_all s hs).2.2 with h2 | h2
        · exact absurd h2 hs0
        · cases s with
          | nil => exact absurd rfl hs0
          | cons c s => exact ⟨h2.1.1, h2.2⟩
      exact short (dec_cnt h hr).2.1
  unfold numS
  rw [if_pos (.inr key)]
theorem hex_lex {n : Nat} {H s : List UInt8} (hall : ∀ c ∈ H, isV 16 c = true) (hval : valN 16 0 H = n) (hH : H ≠ []) (hs : s ∈ sufL) (hn : n < 18446744073709551616) :
    lexS (48 :: 120 :: (H ++ s)) = ([tok33 0 (48 :: 120 :: (H ++ s)) ⟨3, (48 :: 120 :: (H ++ s)).length, s, n, true⟩], 0, 0) := by
  have hx : hexP (48 :: 120 :: (H ++ s)) = true := rfl
  have hr := okR_1 (okR_suf hs).2
  have hc : cntS (48 :: 120 :: (H ++ s)) = H.length := by
    unfold cntS zeroP
    rw [hx]
    show ((H ++ s).takeWhile (isV 16)).length = _
    rw [tw_all H s hall hr]
  have hv : numV (48 :: 120 :: (H ++ s)) = n := by
    unfold numV zeroP
    rw [hx]
    show valN 16 0 (H ++ s) = n
    rw [valN_app 16 H s 0 hall, hval, valN_stop 16 n s hr]
  have hi : i0S (48 :: 120 :: (H ++ s)) = 2 := rfl
  have hd : (48 :: 120 :: (H ++ s)).drop (2 + H.length) = s := by
    rw [Nat.add_comm, List.drop_succ_cons, List.drop_succ_cons, List.drop_left]
  have hnum : numN (48 :: 120 :: (H ++ s)) = (48 :: 120 :: (H ++ s)).length := by
    unfold numN; rw [hi, hc, hd, (sufL_all s hs).1]; simp; omega
  have hH1 : H.length ≠ 0 := fun e => hH (List.length_eq_zero_iff.1 e)
  refine one_lex (gapS_none (by decide) (by decide)) (by simp) ?_ rfl
  rw [tok_num (show digU ((48 :: 120 :: (H ++ s)).getD 0 0) = true from show digU 48 = true by decide +kernel)]
  unfold numS
  rw [hnum, hc, hv, hi, hd, (sufL_all s hs).1, hx]
  have hp : partAt (48 :: 120 :: (H ++ s)) (48 :: 120 :: (H ++ s)).length = false := by unfold partAt; simp
  rw [if_neg (by rw [hp]; simp [hH1]), if_neg (by omega)]

/- The hexadecimal text. -/
def HXC : ByteArray := ⟨#[48, 49, 50, 51, 52, 53, 54, 55, 56, 57, 97, 98, 99, 100, 101, 102]⟩
def hexC (v : Nat) : UInt8 := (Ls HXC).getD v 0
theorem hexC_all : ∀ v : Fin 16, valS 16 (hexC v.1) = some v.1 ∧ ((Ls HXC).drop v.1).take 1 = [hexC v.1] := by decide +kernel
theorem HX_ext (r : Nat) (h : r < 16) : HXC.extract r (r + 1) = mk [hexC r] := by
  apply ba_eq
  rw [Ls_ext, Ls_mk, show r + 1 - r = 1 by omega]
  exact (hexC_all ⟨r, h⟩).2
theorem hex_dig (n j : Nat) (hj : j ≤ 15) (hn : n < 18446744073709551616) : wrap64 (Go.bits .and .u64 (shr .u64 (n : Int) ((4 * j : Nat) : Int)) 15) = ((n / 16 ^ j % 16 : Nat) : Int) := by
  have e1 : shr .u64 (n : Int) ((4 * j : Nat) : Int) = ((n / 16 ^ j : Nat) : Int) := by
    unfold shr
    have : min ((4 * j : Nat) : Int).toNat (IntKind.bits .u64) = 4 * j := by
      have : IntKind.bits .u64 = 64 := rfl
      rw [this, Int.toNat_natCast]; omega
    rw [this]
    have h16 : (16 : Nat) ^ j = 2 ^ (4 * j) := by rw [Nat.pow_mul]
    rw [h16]
    norm_cast
  have hle : n / 16 ^ j ≤ n := Nat.div_le_self _ _
  rw [e1]
  generalize n / 16 ^ j = m at *
  rw [u64_and (m : Int) 15 (by omega) (by omega) (by omega) (by omega)]
  have e : (15 : Int).toNat = 2 ^ 4 - 1 := rfl
  rw [e, Nat.and_two_pow_sub_one_eq_mod, Int.toNat_natCast]
  unfold wrap64
  omega
theorem hex_div (n j : Nat) : n / 16 ^ j = n / 16 ^ (j + 1) * 16 + n / 16 ^ j % 16 := by
  rw [Nat.pow_succ, ← Nat.div_div_eq_div_mul]; omega
theorem hex_wr (j : Nat) (hj : j ≤ 15) : wrap64 (((4 * (j + 1) : Nat) : Int) - 4 - 4) = ((4 * j : Nat) : Int) - 4 := by unfold wrap64; omega
theorem hex_step (n j : Nat) (hj : j ≤ 15) (hn : n < 18446744073709551616) (x2 : Int) (x7 x8 : ByteArray) (X : List UInt8) (hX : X.length ≤ 100) (k : Nat) :
    spokeshavelaw2_LexNumbers.l0 (k + 1) (n : Int) x2 x7 x8 (mk X) (((4 * (j + 1) : Nat) : Int) - 4) = spokeshavelaw2_LexNumbers.l0 k (n : Int) x2 x7 x8 (mk (X ++ [hexC (n / 16 ^ j % 16)])) (((4 * j : Nat) : Int) - 4) := by
  have hd := hex_dig n j hj hn
  have e4 : (((4 * (j + 1) : Nat) : Int) - 4) = ((4 * j : Nat) : Int) := by omega
  have hw := hex_wr j hj
  rw [e4] at hw ⊢
  have hlt : n / 16 ^ j % 16 < 16 := Nat.mod_lt _ (by decide)
  generalize n / 16 ^ j % 16 = q at *
  have hw2 : wrap64 ((q : Int) + 1) = ((q + 1 : Nat) : Int) := w64s _ (by omega)
  have hs : (mk X).size + (HXC.extract q (q + 1)).size ≤ 9223372036854775807 := by
    rw [HX_ext q hlt, mk_size, mk_size]; exact Nat.le_trans (show X.length + [hexC q].length ≤ 1000 by simp; omega) (by decide)
  have C2 : ((q + 1 : Nat) : Int) ≤ 16 := by omega
  have hz : ((4 * j : Nat) : Int) ≥ 0 := by omega
  have hm : mk X ++ HXC.extract q (q + 1) = mk (X ++ [hexC q]) := by rw [HX_ext q hlt, mk_app]
  simp only [spokeshavelaw2_LexNumbers.l0]
  rw [if_pos hz, if_pos (show (0 : Int) ≤ ((4 * j : Nat) : Int) from hz), hd, hw2, hw, if_pos (n0 _), if_pos (by omega : (q : Int) ≤ ((q + 1 : Nat) : Int)), if_pos C2]
  simp only [Int.toNat_natCast]
  exact (if_pos hs).trans (by rw [← hm]; rfl)
def SUF : List ByteArray := [(⟨#[]⟩ : ByteArray), (⟨#[117]⟩ : ByteArray), (⟨#[108]⟩ : ByteArray), (⟨#[117, 108]⟩ : ByteArray)]
theorem SUF_mem (q : Nat) (h : q < 4) : Ls (rdOf ByteArray.empty SUF (q : Int)) ∈ sufL := by
  have : ∀ q : Fin 4, Ls (SUF.getD q.1 ByteArray.empty) ∈ sufL := by decide +kernel
  exact this ⟨q, h⟩
theorem num_last {n : Nat} {D H : List UInt8} {S : ByteArray} {v : Fin 10} {x2 : Int} (hn : n < 18446744073709551616) (hD : DecT n D) (hS : Ls S ∈ sufL) (hall : ∀ c ∈ H, isV 16 c = true) (hval : valN 16 0 H = n) (hH : H.length = 16)
    (hv : (48 + Int.tmod x2 10) % 256 = ((48 + v.1 : Nat) : Int)) :
    Ev (fun k => spokeshavelaw2_LexNumbers.l0 k (n : Int) x2 S (mk D ++ S) (mk (48 :: 120 :: H)) (((4 * 0 : Nat) : Int) - 4)) true := by
  have hSl := (sufL_all _ hS).2.1
  obtain ⟨s, hs⟩ : ∃ s, Ls S = s := ⟨_, rfl⟩
  have hSm : S = mk s := ba_eq (by rw [hs, Ls_mk])
  rw [hs] at hS hSl
  subst hSm
  have hDl := hD.len
  have T1 := tokens_ev (s := mk D ++ mk s) (by rw [mk_app, mk_size, List.length_append]; omega)
  have T2 := tokens_ev (s := mk (48 :: 120 :: H) ++ mk s) (by rw [mk_app, mk_size, List.length_append]; simp; omega)
  have T3 := tokens_ev (s := ((mk D ++ mk s) ++ mk [digC v.1]) ++ mk [120]) (by rw [mk_app, mk_app, mk_app, mk_size]; simp; omega)
  rw [mk_app, Ls_mk, dec_lex hD hS hn] at T1
  rw [mk_app, Ls_mk] at T2
  have hne : H ≠ [] := fun e => by subst e; simp at hH
  have T2b := hex_lex hall hval hne hS hn
  have eH : (48 :: 120 :: H) ++ s = 48 :: 120 :: (H ++ s) := rfl
  rw [eH, T2b] at T2
  rw [mk_app, mk_app, mk_app, Ls_mk] at T3
  have eD : ((D ++ s) ++ [digC v.1]) ++ [120] = D ++ (s ++ [digC v.1, 120]) := by simp
  rw [eD, bad_lex hD hS v] at T3
  have c1 : (mk (48 :: 120 :: H)).size + (mk s).size ≤ 9223372036854775807 := by rw [mk_size, mk_size]; exact Nat.le_trans (show (48 :: 120 :: H).length + s.length ≤ 1000 by simp; omega) (by decide)
  have c2 : (mk D ++ mk s).size + (mk [digC v.1]).size ≤ 9223372036854775807 := by rw [mk_app, mk_size, mk_size]; exact Nat.le_trans (show (D ++ s).length + [digC v.1].length ≤ 1000 by simp; omega) (by decide)
  have c3 : ((mk D ++ mk s) ++ mk [digC v.1]).size + 1 ≤ 9223372036854775807 := by rw [mk_app, mk_app, mk_size]; exact Nat.le_trans (show ((D ++ s) ++ [digC v.1]).length + 1 ≤ 1000 by simp; omega) (by decide)
  have hneg : ¬ ((((4 * 0 : Nat) : Int) - 4) ≥ 0) := by decide
  have e120 : (⟨#[120]⟩ : ByteArray) = mk [120] := rfl
  refine Ev.step (f := fun k => (Lx.Tokens.f k (mk D ++ mk s)).bind _) (Ev.bind (by rw [mk_app]; exact T1) ?_) fun k => by
    simp only [spokeshavelaw2_LexNumbers.l0]
    rw [if_neg hneg]
  refine Ev.congr (f := fun k => (Lx.Tokens.f k (mk (48 :: 120 :: H) ++ mk s)).bind _) (Ev.bind (by rw [mk_app]; exact T2) ?_) fun k => by rw [if_pos c1]
  refine Ev.congr (f := fun k => (Lx.Tokens.f k (((mk D ++ mk s) ++ mk [digC v.1]) ++ mk [120])).bind _) (Ev.bind (by rw [mk_app, mk_app, mk_app, eD]; exact T3) ?_) fun k => by
    rw [hv]
    simp only [Option.bind_some]
    rw [son, if_pos c2, if_pos c3, e120]
  refine Ev.congr awake_ev' fun k => ?_
  have q : (mk s).toList = s := by rw [toList_Ls, Ls_mk]
  simp [rd_T33, tok33, q]
theorem num_loop {n : Nat} {D : List UInt8} {S : ByteArray} {v : Fin 10} {x2 : Int} (hn : n < 18446744073709551616) (hD : DecT n D) (hS : Ls S ∈ sufL) (hv : (48 + Int.tmod x2 10) % 256 = ((48 + v.1 : Nat) : Int)) :
    ∀ (j : Nat) (H : List UInt8), j ≤ 16 → (∀ c ∈ H, isV 16 c = true) → valN 16 0 H = n / 16 ^ j → H.length = 16 - j →
    Ev (fun k => spokeshavelaw2_LexNumbers.l0 k (n : Int) x2 S (mk D ++ S) (mk (48 :: 120 :: H)) (((4 * j : Nat) : Int) - 4)) true := by
  intro j
  induction j with
  | zero =>
    intro H _ hall hval hH
    exact num_last hn hD hS hall (by simpa using hval) hH hv
  | succ j ih =>
    intro H hj hall hval hH
    have hx := hexC_all ⟨n / 16 ^ j % 16, Nat.mod_lt _ (by decide)⟩
    refine Ev.step (ih (H ++ [hexC (n / 16 ^ j % 16)]) (by omega) ?_ ?_ (by simp; omega)) (hex_step n j (by omega) hn x2 S (mk D ++ S) (48 :: 120 :: H) (by simp; omega))
    · intro c hc
      rcases List.mem_append.1 hc with h | h
      · exact hall c h
      · obtain rfl := List.mem_singleton.1 h
        unfold isV; rw [hx.1]; rfl
    · rw [valN_app 16 H _ 0 hall, hval]
      simp only [valN, hx.1]
      exact (hex_div n j).symm
theorem LexNumbersP : spokeshavelaw2_LexNumbers.Pure := by
  intro a0 a1 a2 h0 _ h2
  have b0 := bounds_u64 h0
  have b2 := bounds_u8 h2
  obtain ⟨n, rfl⟩ : ∃ n : Nat, a0 = n := ⟨a0.toNat, by omega⟩
  obtain ⟨c, rfl⟩ : ∃ c : Nat, a2 = c := ⟨a2.toNat, by omega⟩
  have hn : n < 18446744073709551616 := by omega
  have hv : (48 + Int.tmod (c : Int) 10) % 256 = ((48 + (⟨c % 10, Nat.mod_lt _ (by decide)⟩ : Fin 10).1 : Nat) : Int) := by
    have e : Int.tmod (c : Int) 10 = ((c % 10 : Nat) : Int) := rfl
    rw [e]; show _ = ((48 + c % 10 : Nat) : Int); omega
  refine Ev.some ?_
  obtain ⟨q, hq, hlow⟩ := low_ex a1 4 (by decide) (by decide)
  obtain ⟨D, hD, hev⟩ := dig_ev n hn
  have hS := SUF_mem q hq
  have hSl : (rdOf ByteArray.empty SUF (q : Int)).size ≤ 2 := by rw [← Ls_size]; exact (sufL_all _ hS).2.1
  have hloop := num_loop hn hD hS hv 16 [] (Nat.le_refl _) (by simp) (by
    show 0 = n / 16 ^ 16
    rw [Nat.div_eq_of_lt]; exact hn) rfl
  have hf : ∀ k, spokeshavelaw2_LexNumbers.f k (n : Int) a1 (c : Int) = (spokeshaveref3_Digits.f k (n : Int)).bind fun t106 => (if t106.size + (rdOf ByteArray.empty SUF (q : Int)).size ≤ 9223372036854775807 then (spokeshavelaw2_LexNumbers.l0 k (n : Int) (c : Int) (rdOf ByteArray.empty SUF (q : Int)) (t106 ++ (rdOf ByteArray.empty SUF (q : Int))) (⟨#[48, 120]⟩ : ByteArray) 60) else (none)) := fun k => by
    unfold spokeshavelaw2_LexNumbers.f
    simp only [Option.bind_some]
    have hlow' : spokeshavelaw0_Low.f a1 4 = some (q : Int) := hlow
    rw [hlow']
    simp only [Option.bind_some]
    rw [if_pos (n0 _)]
    exact (if_pos (show (q : Int) < ((SUF.length : Nat) : Int) from nLt q 4 hq)).trans rfl
  refine Ev.congr (Ev.bind hev ?_) hf
  have hc : (mk D).size + (rdOf ByteArray.empty SUF (q : Int)).size ≤ 9223372036854775807 := by
    have := hD.len
    rw [mk_size]; exact Nat.le_trans (show D.length + (rdOf ByteArray.empty SUF (q : Int)).size ≤ 1000 by omega) (by decide)
  exact Ev.congr hloop fun k => by rw [if_pos hc]; rfl
end
end Go.Proofs.YtiljijckfkphhaaDoor.PLex
namespace Go.Proofs.YtiljijckfkphhaaDoor.Pure
open Go.Proofs.YtiljijckfkphhaaDoor.PLex
theorem LexNumbers : spokeshavelaw2_LexNumbers.Pure := LexNumbersP
end Go.Proofs.YtiljijckfkphhaaDoor.Pure
