/- The plain law of LexNames (out of LP9). -/
import Derived.Test.YtiljijckfkphhaaDoorLxPlain
import Derived.Test.YtiljijckfkphhaaDoorPLexNames
namespace Go.Proofs.YtiljijckfkphhaaDoor.PLex
open Go.RowKit Go.Proofs.YtiljijckfkphhaaDoorW.PrintWords Go.Proofs.YtiljijckfkphhaaDoorW.PrintLast Go.Proofs.YtiljijckfkphhaaDoorW.PrintMore
set_option linter.unusedVariables false
set_option linter.unusedSectionVars false
set_option linter.unusedSimpArgs false
section

theorem lexF_tok {k : Nat} {l : List UInt8} {a g : Nat} {t : Tk} {ts : List S33} (hg : gapS l = (true, g)) (hd : l.drop g ≠ []) (ht : tokS (l.drop g) = .ok t)
    (hr : lexF k (l.drop (g + t.n)) (a + g + t.n) = .ok ts) : lexF (k + 1) l a = .ok (tok33 (a + g) (l.drop g) t :: ts) := by
  simp only [lexF, hg]
  rw [if_neg (by decide), if_neg hd, ht]
  simp only [hr]
theorem lexF_err {k : Nat} {l : List UInt8} {a g : Nat} {e : Int} (hg : gapS l = (true, g)) (hd : l.drop g ≠ []) (ht : tokS (l.drop g) = .error e) : lexF (k + 1) l a = .error (e, a + g) := by
  simp only [lexF, hg]
  rw [if_neg (by decide), if_neg hd, ht]
theorem lexF_end {k : Nat} {l : List UInt8} {a g : Nat} (hg : gapS l = (true, g)) (hd : l.drop g = []) : lexF (k + 1) l a = .ok [] := by
  simp only [lexF, hg]
  rw [if_neg (by decide), if_pos hd]

/- A name between blanks, and a semicolon. -/
theorem tail_lex (a k : Nat) : lexF (k + 2) [32, 59] a = .ok [tok33 (a + 1) [59] ⟨5, 1, [], 0, false⟩] :=
  lexF_tok (g := 1) (t := ⟨5, 1, [], 0, false⟩) (by decide +kernel) (by decide) (by kernel_rfl) (lexF_end (g := 0) (by decide +kernel) rfl)
theorem span_sp (l r : List UInt8) (h : ∀ c ∈ l, partU c = true) : spanL (l ++ 32 :: r) = l.length := by
  rw [spanL_all l _ h]
  have : spanL (32 :: r) = 0 := by
    unfold spanL
    have : partB (((32 : UInt8).toNat : Nat) : Int) = false := by decide
    rw [List.takeWhile_cons, if_neg (by rw [this]; decide)]; rfl
  omega
def nameT (l : List UInt8) : Tk := ⟨if wordS l = true then 2 else 1, l.length, [], 0, false⟩
theorem name_tok {l : List UInt8} (r : List UInt8) (h0 : l ≠ []) (hp : ∀ c ∈ l, partU c = true) (hd : digU (l.getD 0 0) = false) : tokS (l ++ 32 :: r) = if 30 < l.length then .error 6 else .ok (nameT l) := by
  obtain ⟨c, m, rfl⟩ : ∃ c m, l = c :: m := by cases l with | nil => exact absurd rfl h0 | cons c m => exact ⟨c, m, rfl⟩
  have hc : partU c = true := hp c (by simp)
  have hw := part_ws c hc
  have e0 : ((c :: m) ++ 32 :: r).getD 0 0 = c := rfl
  have hd' : digU c = false := hd
  unfold tokS
  rw [e0, if_neg (by rw [hd']; decide), if_neg hw.2.2, if_pos hc]
  unfold nameS
  rw [span_sp _ _ hp]
  by_cases h : 30 < (c :: m).length
  · rw [if_pos h, if_pos h]
  · rw [if_neg h, if_neg h]
    have : ((c :: m) ++ 32 :: r).take (c :: m).length = c :: m := List.take_left
    rw [this]; rfl
theorem name_lex {l : List UInt8} (h0 : l ≠ []) (hp : ∀ c ∈ l, partU c = true) (hd : digU (l.getD 0 0) = false) :
    lexS (32 :: (l ++ [32, 59])) = if 30 < l.length then ([], 6, 1) else ([tok33 1 (l ++ [32, 59]) (nameT l), tok33 (l.length + 2) [59] ⟨5, 1, [], 0, false⟩], 0, 0) := by
  obtain ⟨c, m, rfl⟩ : ∃ c m, l = c :: m := by cases l with | nil => exact absurd rfl h0 | cons c m => exact ⟨c, m, rfl⟩
  have hc : partU c = true := hp c (by simp)
  have hw := part_ws c hc
  have hg : gapS (32 :: ((c :: m) ++ [32, 59])) = (true, 1) := by
    rw [gapS_ws (by decide)]
    have : gapS ((c :: m) ++ [32, 59]) = (true, 0) := gapS_none hw.1 hw.2.1
    rw [this]; rfl
  have ht := name_tok [59] h0 hp hd
  unfold lexS
  by_cases h : 30 < (c :: m).length
  · rw [if_pos h] at ht ⊢
    rw [lexF_err hg (by simp) ht]; rfl
  · rw [if_neg h] at ht ⊢
    have hdr : (32 :: ((c :: m) ++ [32, 59])).drop (1 + (nameT (c :: m)).n) = [32, 59] := by
      show (32 :: ((c :: m) ++ [32, 59])).drop (1 + (c :: m).length) = [32, 59]
      rw [Nat.add_comm, List.drop_succ_cons, List.drop_left]
    have hlen : (32 :: ((c :: m) ++ [32, 59])).length = (m.length + 2) + 2 := by simp
    rw [hlen, lexF_tok (k := (m.length + 2) + 2) (g := 1) hg (by simp) ht (by rw [hdr]; exact tail_lex _ _)]
    have : 0 + 1 + (nameT (c :: m)).n + 1 = (c :: m).length + 2 := by show 0 + 1 + (c :: m).length + 1 = _; omega
    rw [this]; rfl

/- The loop. -/
def LT : ByteArray := ⟨#[97, 98, 99, 100, 101, 102, 103, 104, 105, 106, 107, 108, 109, 110, 111, 112, 113, 114, 115, 116, 117, 118, 119, 120, 121, 122, 65, 66, 67, 68, 69, 70, 71, 72, 73, 74, 75, 76, 77, 78, 79, 80, 81, 82, 83, 84, 85, 86, 87, 88, 89, 90, 95, 48, 49, 50, 51, 52, 53, 54, 55, 56, 57]⟩
theorem LT_all : ∀ r : Fin 63, ((Ls LT).drop r.1).take 1 = [(Ls LT).getD r.1 0] ∧ partU ((Ls LT).getD r.1 0) = true ∧ (r.1 < 53 → digU ((Ls LT).getD r.1 0) = false) := by decide +kernel
theorem LT_ext (r : Nat) (h : r < 63) : LT.extract r (r + 1) = mk [(Ls LT).getD r 0] := by
  apply ba_eq
  rw [Ls_ext, Ls_mk, show r + 1 - r = 1 by omega]
  exact (LT_all ⟨r, h⟩).1
theorem mk_app (a b : List UInt8) : mk a ++ mk b = mk (a ++ b) := by
  apply ba_eq
  simp only [Ls, mk, ByteArray.data_append]; simp
theorem mk_size (l : List UInt8) : (mk l).size = l.length := by rw [← Ls_size, Ls_mk]
theorem low63 (a : Int) : ∃ r : Nat, r < 63 ∧ spokeshavelaw0_Low.f a 63 = some (r : Int) := low_ex a 63 (by decide) (by decide)
theorem LT_size (r : Nat) (h : r < 63) : (LT.extract r (r + 1)).size = 1 := by rw [LT_ext r h, mk_size]; rfl
theorem iLe (a b : Nat) (h : a ≤ b) : (a : Int) ≤ (b : Int) := by omega

theorem names_step {x0 : List Int} (l : List UInt8) (h40 : x0.length ≤ 40) (hlt : l.length < x0.length) :
    ∃ c, partU c = true ∧ (l = [] → digU c = false) ∧ ∀ k, spokeshavelaw2_LexNames.l0 (k + 1) x0 (mk l) (l.length : Int) = spokeshavelaw2_LexNames.l0 k x0 (mk (l ++ [c])) ((l ++ [c]).length : Int) := by
  obtain ⟨r, hr, hlow⟩ := low63 (rd x0 (l.length : Int))
  have hw : wrap64 ((l.length : Int) + 1) = ((l.length + 1 : Nat) : Int) := w64s _ (by omega)
  have hunf : ∀ k, spokeshavelaw2_LexNames.l0 (k + 1) x0 (mk l) (l.length : Int) = if (l.length : Int) = 0 then spokeshavelaw2_LexNames.l0 k x0 (mk l ++ LT.extract (r % 53) (r % 53 + 1)) ((l.length + 1 : Nat) : Int) else spokeshavelaw2_LexNames.l0 k x0 (mk l ++ LT.extract r (r + 1)) ((l.length + 1 : Nat) : Int) := by
    intro k
    have e3 : Int.tmod (r : Int) 53 = ((r % 53 : Nat) : Int) := rfl
    have hm : r % 53 < 53 := Nat.mod_lt _ (by decide)
    have e4 : wrap64 (((r % 53 : Nat) : Int) + 1) = ((r % 53 + 1 : Nat) : Int) := w64s _ (by omega)
    have e5 : wrap64 ((r : Int) + 1) = ((r + 1 : Nat) : Int) := w64s _ (by omega)
    simp only [spokeshavelaw2_LexNames.l0]
    rw [if_pos (nLt _ _ hlt), if_pos (n0 _), hlow]
    simp only [Option.bind_some]
    rw [e3, e4, e5, hw]
    generalize r % 53 = q at *
    simp only [Int.toNat_natCast]
    have s1 : (LT.extract q (q + 1)).size = 1 := LT_size q (by omega)
    have s2 : (LT.extract r (r + 1)).size = 1 := LT_size r hr
    have hs : (mk l).size = l.length := mk_size l
    have A : ∀ n : Nat, (0 : Int) ≤ (n : Int) := fun n => n0 n
    have B : ∀ n : Nat, (n : Int) ≤ ((n + 1 : Nat) : Int) := fun n => iLe _ _ (by omega)
    have C1 : ((q + 1 : Nat) : Int) ≤ 63 := iLe (q + 1) 63 (by omega)
    have C2 : ((r + 1 : Nat) : Int) ≤ 63 := iLe (r + 1) 63 (by omega)
    have D1 : (mk l).size + (LT.extract q (q + 1)).size ≤ 9223372036854775807 := by rw [hs, s1]; exact Nat.le_trans (show l.length + 1 ≤ 100 by omega) (by decide)
    have D2 : (mk l).size + (LT.extract r (r + 1)).size ≤ 9223372036854775807 := by rw [hs, s2]; exact Nat.le_trans (show l.length + 1 ≤ 100 by omega) (by decide)
    by_cases h0 : (l.length : Int) = 0
    · rw [if_pos h0, if_pos h0, if_pos (A _), if_pos (B _), if_pos C1]
      exact if_pos D1
    · rw [if_neg h0, if_neg h0, if_pos (A _), if_pos (B _), if_pos C2]
      exact if_pos D2
  by_cases h0 : l = []
  · subst h0
    have hm : r % 53 < 53 := Nat.mod_lt _ (by decide)
    have hL := LT_all ⟨r % 53, by omega⟩
    refine ⟨(Ls LT).getD (r % 53) 0, hL.2.1, fun _ => hL.2.2 hm, fun k => ?_⟩
    rw [hunf, if_pos (show (([] : List UInt8).length : Int) = 0 from rfl), LT_ext _ (by omega), mk_app]; rfl
  · have hL := LT_all ⟨r, hr⟩
    refine ⟨(Ls LT).getD r 0, hL.2.1, fun h => absurd h h0, fun k => ?_⟩
    rw [hunf, if_neg (nNe0 _ fun h => h0 (List.length_eq_zero_iff.1 h)), LT_ext _ hr, mk_app, List.length_append]; rfl

/- Its end. -/
theorem names_last {x0 : List Int} (l : List UInt8) (h40 : x0.length ≤ 40) (hl : x0.length = l.length) (h0 : l ≠ []) (hp : ∀ c ∈ l, partU c = true) (hd : digU (l.getD 0 0) = false) :
    Ev (fun k => spokeshavelaw2_LexNames.l0 k x0 (mk l) (l.length : Int)) true := by
  have hs : (mk l).size = l.length := mk_size l
  have et : ((⟨#[32]⟩ : ByteArray) ++ mk l) ++ (⟨#[32, 59]⟩ : ByteArray) = mk (32 :: (l ++ [32, 59])) := by
    have e1 : (⟨#[32]⟩ : ByteArray) = mk [32] := rfl
    have e2 : (⟨#[32, 59]⟩ : ByteArray) = mk [32, 59] := rfl
    rw [e1, e2, mk_app, mk_app]; rfl
  have hlen : l.length ≤ 40 := by omega
  have hsz : (mk (32 :: (l ++ [32, 59]))).size ≤ 6000 := by rw [mk_size]; simp; omega
  have hT := tokens_ev hsz
  rw [Ls_mk, name_lex h0 hp hd, ← et] at hT
  refine Ev.step (f := fun k => (Lx.Tokens.f k (((⟨#[32]⟩ : ByteArray) ++ mk l) ++ (⟨#[32, 59]⟩ : ByteArray))).bind _) (Ev.bind hT ?_) fun k => by
    simp only [spokeshavelaw2_LexNames.l0]
    rw [if_neg (nNLt _ _ (by omega)), if_pos (by rw [hs]; exact Nat.le_trans (show 1 + l.length ≤ 100 by omega) (by decide)), if_pos (by
      rw [ByteArray.size_append, hs]; have : (⟨#[32]⟩ : ByteArray).size = 1 := rfl
      rw [this]; exact Nat.le_trans (show 1 + l.length + 2 ≤ 100 by omega) (by decide))]
  have hword : lex_Word.f (mk l) = some (wordS l) := word_eq l (by omega)
  refine Ev.congr (F := _) (f := fun k => (spokeshavelaw2_awake.f k).bind fun t => some t) awake_ev' fun k => ?_
  rw [hword]
  simp only [Option.bind_some]
  have ht33 : tok33 1 (l ++ [32, 59]) (nameT l) = ⟨if wordS l = true then 2 else 1, 1, mk l, mk [], 0, false⟩ := by
    unfold tok33 nameT
    simp only [List.take_left]
    rfl
  by_cases hw : wordS l = true
  · have h8 := word_len hw
    rw [if_pos hw, if_neg (show ¬ 30 < l.length by omega), ht33]
    simp [rd_T33, hw]
  · rw [if_neg hw]
    by_cases h30 : 30 < l.length
    · rw [if_pos h30]
      rw [if_pos (show ((mk l).size : Int) > 30 by rw [hs]; omega)]
      rw [if_pos (by decide)]
    · rw [if_neg h30]
      rw [if_neg (show ¬ ((mk l).size : Int) > 30 by rw [hs]; omega), ht33, hs]
      have hw2 : wrap64 ((l.length : Int) + 2) = ((l.length + 2 : Nat) : Int) := by unfold wrap64; omega
      rw [hw2]
      have e0 : (mk []).toList = [] := by rw [toList_Ls, Ls_mk]
      have e1 : ∀ m : List UInt8, (tok33 (l.length + 2) m ⟨5, 1, [], 0, false⟩).f1 = (l.length : Int) + 2 := fun m => by show ((l.length + 2 : Nat) : Int) = _; omega
      simp [rd_T33, hw, e0, e1]
theorem names_loop {x0 : List Int} (h40 : x0.length ≤ 40) (hx : x0.length ≠ 0) : ∀ (d : Nat) (l : List UInt8), x0.length - l.length ≤ d → l.length ≤ x0.length → (∀ c ∈ l, partU c = true) → (l ≠ [] → digU (l.getD 0 0) = false) →
    Ev (fun k => spokeshavelaw2_LexNames.l0 k x0 (mk l) (l.length : Int)) true := by
  intro d
  induction d with
  | zero =>
    intro l hd hle hp hd0
    have : l ≠ [] := fun e => by subst e; simp only [List.length_nil] at hd hle; omega
    exact names_last l h40 (by omega) this hp (hd0 this)
  | succ d ih =>
    intro l hd hle hp hd0
    by_cases hlt : l.length < x0.length
    · obtain ⟨c, hc, hc0, hk⟩ := names_step l h40 hlt
      refine Ev.step (ih (l ++ [c]) (by simp; omega) (by simp; omega) ?_ ?_) hk
      · intro b hb
        rcases List.mem_append.1 hb with h | h
        · exact hp b h
        · obtain rfl := List.mem_singleton.1 h; exact hc
      · intro _
        cases l with
        | nil => exact hc0 rfl
        | cons b m => exact hd0 (by simp)
    · exact ih l (by omega) hle hp hd0
theorem LexNamesP : spokeshavelaw2_LexNames.Pure := by
  intro x0 _ _ _
  refine Ev.some ?_
  have hj : Ev (fun k => spokeshavelaw2_LexNames.j0 k x0 true) true := Ev.step awake_ev' fun k => by simp only [spokeshavelaw2_LexNames.j0]; rw [if_pos trivial]
  by_cases h0 : (x0.length : Int) = 0
  · exact Ev.congr hj fun k => by unfold spokeshavelaw2_LexNames.f; rw [if_pos h0]
  · by_cases h40 : (x0.length : Int) > 40
    · exact Ev.congr hj fun k => by unfold spokeshavelaw2_LexNames.f; rw [if_neg h0, decide_eq_true h40]
    · refine Ev.congr (f := fun k => spokeshavelaw2_LexNames.j0 k x0 false) ?_ fun k => by unfold spokeshavelaw2_LexNames.f; rw [if_neg h0, decide_eq_false h40]
      exact Ev.step (names_loop (x0 := x0) (by omega) (by omega) x0.length [] (by simp) (by simp) (by simp) (fun h => absurd rfl h)) fun k => by
        simp only [spokeshavelaw2_LexNames.j0]; rw [if_neg (by decide)]; rfl
end
end Go.Proofs.YtiljijckfkphhaaDoor.PLex
namespace Go.Proofs.YtiljijckfkphhaaDoor.Pure
open Go.Proofs.YtiljijckfkphhaaDoor.PLex
theorem LexNames : spokeshavelaw2_LexNames.Pure := LexNamesP
end Go.Proofs.YtiljijckfkphhaaDoor.Pure
