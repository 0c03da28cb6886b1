/- The plain law of LexSigns (out of LP10). -/
import Derived.Test.YtiljijckfkphhaaDoorLxPlain
import Derived.Test.YtiljijckfkphhaaDoorPLexSigns
namespace Go.Proofs.YtiljijckfkphhaaDoor.PLex
open Go.RowKit Go.Proofs.YtiljijckfkphhaaDoorW.PrintWords Go.Proofs.YtiljijckfkphhaaDoorW.PrintLast Go.Proofs.YtiljijckfkphhaaDoorW.PrintMore
set_option linter.unusedVariables false
set_option linter.unusedSectionVars false
set_option linter.unusedSimpArgs false
section

/- Texts of signs. -/
def AL : List ByteArray := [(⟨#[60]⟩ : ByteArray), (⟨#[61]⟩ : ByteArray), (⟨#[62]⟩ : ByteArray), (⟨#[38]⟩ : ByteArray), (⟨#[124]⟩ : ByteArray), (⟨#[45]⟩ : ByteArray), (⟨#[43]⟩ : ByteArray), (⟨#[33]⟩ : ByteArray), (⟨#[60, 60]⟩ : ByteArray), (⟨#[62, 61]⟩ : ByteArray), (⟨#[45, 62]⟩ : ByteArray), (⟨#[38, 38]⟩ : ByteArray), (⟨#[40]⟩ : ByteArray), (⟨#[91]⟩ : ByteArray), (⟨#[59]⟩ : ByteArray), (⟨#[126]⟩ : ByteArray)]
def SGL : List (List UInt8) := AL.map Ls
def AC : List UInt8 := [60, 61, 62, 38, 124, 45, 43, 33, 40, 91, 59, 126]
theorem AC_all : ∀ c ∈ AC, ws c = false ∧ c ≠ 47 ∧ digU c = false ∧ c ≠ 39 ∧ partU c = false ∧ [c] ∈ signsL := by decide +kernel
theorem SGL_all : ∀ q ∈ SGL, q ∈ signsL ∧ 1 ≤ q.length ∧ q.length ≤ 2 ∧ ∀ c ∈ q, c ∈ AC := by decide +kernel
theorem signs_down : signsL.Pairwise (fun a b => b.length ≤ a.length) := by decide +kernel
theorem signs_short : ∀ q ∈ signsL, 1 ≤ q.length ∧ q.length ≤ 3 := by decide +kernel
theorem find_long {α : Type} (len : α → Nat) (P : α → Bool) : ∀ (L : List α), L.Pairwise (fun a b => len b ≤ len a) → ∀ q ∈ L, P q = true → ∃ p, L.find? P = some p ∧ len q ≤ len p
  | [], _, q, hq, _ => by cases hq
  | a :: L, h, q, hq, hp => by
    rw [List.find?_cons]
    cases ha : P a with
    | true =>
      refine ⟨a, rfl, ?_⟩
      rcases List.mem_cons.1 hq with rfl | hq
      · exact Nat.le_refl _
      · exact (List.pairwise_cons.1 h).1 q hq
    | false =>
      rcases List.mem_cons.1 hq with rfl | hq
      · rw [ha] at hp; cases hp
      · exact find_long len P L (List.pairwise_cons.1 h).2 q hq hp
/- A sign at the front: the token is a sign at least as long. -/
theorem sign_tok {c : UInt8} {t q : List UInt8} (hc : c ∈ AC) (hq : q ∈ signsL) (hp : q <+: c :: t) :
    ∃ p, tokS (c :: t) = .ok ⟨5, p.length, [], 0, false⟩ ∧ p <+: c :: t ∧ q.length ≤ p.length ∧ p.length ≤ 3 := by
  obtain ⟨h1, h2, h3, h4, h5, h6⟩ := AC_all c hc
  obtain ⟨p, hf, hl⟩ := find_long List.length (fun p => p.isPrefixOf (c :: t)) signsL signs_down q hq (List.isPrefixOf_iff_prefix.2 hp)
  have hpre : p.isPrefixOf (c :: t) = true := by have := List.find?_some hf; exact this
  refine ⟨p, ?_, List.isPrefixOf_iff_prefix.1 hpre, hl, (signs_short p (List.mem_of_find?_eq_some hf)).2⟩
  unfold tokS
  have e0 : (c :: t).getD 0 0 = c := rfl
  rw [e0, if_neg (by rw [h3]; decide), if_neg h4, if_neg (by rw [h5]; decide)]
  unfold signS
  rw [hf]
def catB (ts : List S33) : List UInt8 := (ts.map fun t => Ls t.f2).flatten
theorem cut_pieces : ∀ (ps : List (List UInt8)) (m : Nat), (∀ q ∈ ps, q ∈ SGL) → ∃ (r : List UInt8) (ps' : List (List UInt8)), ps.flatten.drop m = r ++ ps'.flatten ∧ r.length ≤ 1 ∧ r.length + ps'.length ≤ ps.length ∧ (∀ c ∈ r, c ∈ AC) ∧ ∀ q ∈ ps', q ∈ SGL
  | [], m, _ => ⟨[], [], by simp, by simp, by simp, by simp, by simp⟩
  | q :: ps, m, h => by
    have hq := SGL_all q (h q (by simp))
    by_cases hm : q.length ≤ m
    · obtain ⟨r, ps', h1, h2, h3, h4, h5⟩ := cut_pieces ps (m - q.length) (fun x hx => h x (by simp [hx]))
      refine ⟨r, ps', ?_, h2, by simp; omega, h4, h5⟩
      rw [List.flatten_cons, List.drop_append, List.drop_eq_nil_of_le hm, List.nil_append, h1]
    · by_cases h0 : m = 0
      · subst h0; exact ⟨[], q :: ps, by simp, by simp, by simp, by simp, h⟩
      · refine ⟨q.drop m, ps, ?_, by simp; omega, by simp; omega, fun c hc => hq.2.2.2 c (List.mem_of_mem_drop hc), fun x hx => h x (by simp [hx])⟩
        rw [List.flatten_cons, List.drop_append, show m - q.length = 0 by omega, List.drop_zero]
/- A text of pieces, one after the other: signs, no more than pieces, which make the text. -/
theorem tight_lex : ∀ (n : Nat) (r : List UInt8) (ps : List (List UInt8)) (k a : Nat), (r ++ ps.flatten).length ≤ n → r.length ≤ 1 → (∀ c ∈ r, c ∈ AC) → (∀ q ∈ ps, q ∈ SGL) → (r ++ ps.flatten).length < k →
    ∃ ts, lexF k (r ++ ps.flatten) a = .ok ts ∧ (∀ t ∈ ts, t.f0 = 5) ∧ catB ts = r ++ ps.flatten ∧ ts.length ≤ r.length + ps.length := by
  intro n
  induction n with
  | zero =>
    intro r ps k a hn _ _ _ hk
    obtain ⟨k, rfl⟩ : ∃ j, k = j + 1 := ⟨k - 1, by omega⟩
    have e : r ++ ps.flatten = [] := List.length_eq_zero_iff.1 (by omega)
    rw [e]
    exact ⟨[], lexF_end (g := 0) rfl rfl, by simp, rfl, by simp⟩
  | succ n ih =>
    intro r ps k a hn hr1 hrc hps hk
    obtain ⟨k, rfl⟩ : ∃ j, k = j + 1 := ⟨k - 1, by omega⟩
    by_cases he : r ++ ps.flatten = []
    · rw [he]
      exact ⟨[], lexF_end (g := 0) rfl rfl, by simp, rfl, by simp⟩
    · -- the piece at the front, a sign
      obtain ⟨q, ps2, hq, hqA, heq, hcnt, hps2⟩ : ∃ (q : List UInt8) (ps2 : List (List UInt8)), q ∈ signsL ∧ (∀ c ∈ q, c ∈ AC) ∧ r ++ ps.flatten = q ++ ps2.flatten ∧ 1 + ps2.length ≤ r.length + ps.length ∧ ∀ q ∈ ps2, q ∈ SGL := by
        cases r with
        | cons c r' =>
          have : r' = [] := List.length_eq_zero_iff.1 (by simp only [List.length_cons] at hr1; omega)
          subst this
          exact ⟨[c], ps, (AC_all c (hrc c (by simp))).2.2.2.2.2, hrc, rfl, by simp, hps⟩
        | nil =>
          cases ps with
          | nil => exact absurd rfl he
          | cons q ps2 =>
            have hq := SGL_all q (hps q (by simp))
            exact ⟨q, ps2, hq.1, hq.2.2.2, rfl, by simp; omega, fun x hx => hps x (by simp [hx])⟩
      have hq1 := signs_short q hq
      obtain ⟨c, t, hct⟩ : ∃ c t, q ++ ps2.flatten = c :: t := by
        cases h : q ++ ps2.flatten with
        | nil => exact absurd (heq.trans h) he
        | cons c t => exact ⟨c, t, rfl⟩
      have hcA : c ∈ AC := by
        cases q with
        | nil => simp at hq1
        | cons b q' => simp at hct; rw [← hct.1]; exact hqA b (by simp)
      obtain ⟨p, ht, hpp, hpl, _⟩ := sign_tok (t := t) hcA hq ⟨ps2.flatten, hct⟩
      have hA := AC_all c hcA
      obtain ⟨r', ps', h1, h2, h3, h4, h5⟩ := cut_pieces ps2 (p.length - q.length) hps2
      have hdrop : (c :: t).drop p.length = r' ++ ps'.flatten := by
        rw [← hct, List.drop_append, List.drop_eq_nil_of_le hpl, List.nil_append, h1]
      rw [heq, hct] at hn hk ⊢
      have hlen : (r' ++ ps'.flatten).length + p.length = (c :: t).length := by
        rw [← hdrop, List.length_drop]; have := hpp.length_le; omega
      obtain ⟨ts, e1, e2, e3, e4⟩ := ih r' ps' k (a + 0 + p.length) (by omega) h2 h4 h5 (by omega)
      refine ⟨_, lexF_tok (g := 0) (t := ⟨5, p.length, [], 0, false⟩) (gapS_none hA.1 hA.2.1) (by simp) (by rw [List.drop_zero]; exact ht) (by rw [Nat.zero_add]; rw [hdrop]; exact e1), ?_, ?_, ?_⟩
      · intro x hx
        rcases List.mem_cons.1 hx with rfl | hx
        · rfl
        · exact e2 x hx
      · show Ls (mk (((c :: t).drop 0).take p.length)) ++ catB ts = _
        rw [Ls_mk, e3, ← hdrop, List.drop_zero, List.take_append_drop]
      · simp only [List.length_cons]; omega

/- The same with blanks between. -/
def loo (ps : List (List UInt8)) : List UInt8 := (ps.map fun q => q ++ [32]).flatten
theorem loose_tok : ∀ q ∈ SGL, ∀ r, tokS (q ++ 32 :: r) = .ok ⟨5, q.length, [], 0, false⟩ := by
  intro q hq r
  unfold SGL AL at hq
  simp only [List.map_cons, List.map_nil, List.mem_cons, List.not_mem_nil, or_false] at hq
  rcases hq with rfl | rfl | rfl | rfl | rfl | rfl | rfl | rfl | rfl | rfl | rfl | rfl | rfl | rfl | rfl | rfl <;> rfl
theorem loose_lex : ∀ (ps : List (List UInt8)) (b : Bool) (k a : Nat), (∀ q ∈ ps, q ∈ SGL) → ps.length < k →
    ∃ ts, lexF k ((if b = true then [32] else []) ++ loo ps) a = .ok ts ∧ ts.map (fun t => Ls t.f2) = ps := by
  intro ps
  induction ps with
  | nil =>
    intro b k a _ hk
    obtain ⟨k, rfl⟩ : ∃ j, k = j + 1 := ⟨k - 1, by omega⟩
    cases b
    · exact ⟨[], lexF_end (g := 0) rfl rfl, rfl⟩
    · exact ⟨[], lexF_end (g := 1) (by decide +kernel) rfl, rfl⟩
  | cons q ps ih =>
    intro b k a h hk
    obtain ⟨k, rfl⟩ : ∃ j, k = j + 1 := ⟨k - 1, by omega⟩
    have hq := h q (by simp)
    have hqa := SGL_all q hq
    have hloo : loo (q :: ps) = q ++ 32 :: loo ps := by unfold loo; simp
    rw [hloo]
    have ht := loose_tok q hq (loo ps)
    have hg0 : gapS (q ++ 32 :: loo ps) = (true, 0) := by
      cases q with
      | nil => simp at hqa
      | cons c q' =>
        have hA := AC_all c (hqa.2.2.2 c (by simp))
        exact gapS_none hA.1 hA.2.1
    have hne : q ++ 32 :: loo ps ≠ [] := by simp
    have htake : (q ++ 32 :: loo ps).take q.length = q := List.take_left
    have hrest : ∀ a', ∃ ts, lexF k (32 :: loo ps) a' = .ok ts ∧ ts.map (fun t => Ls t.f2) = ps := fun a' => ih true k a' (fun x hx => h x (by simp [hx])) (by simp at hk; omega)
    cases b
    · obtain ⟨ts, e1, e2⟩ := hrest (a + 0 + q.length)
      refine ⟨_, lexF_tok (g := 0) (t := ⟨5, q.length, [], 0, false⟩) (l := q ++ 32 :: loo ps) hg0 (by rw [List.drop_zero]; exact hne) (by rw [List.drop_zero]; exact ht) (by rw [Nat.zero_add, List.drop_left]; exact e1), ?_⟩
      show Ls (mk (((q ++ 32 :: loo ps).drop 0).take q.length)) :: ts.map (fun t => Ls t.f2) = _
      rw [Ls_mk, List.drop_zero, htake, e2]
    · obtain ⟨ts, e1, e2⟩ := hrest (a + 1 + q.length)
      have hg1 : gapS (32 :: (q ++ 32 :: loo ps)) = (true, 1) := by rw [gapS_ws (by decide), hg0]; rfl
      have hd1 : (32 :: (q ++ 32 :: loo ps)).drop (1 + q.length) = 32 :: loo ps := by rw [Nat.add_comm, List.drop_succ_cons, List.drop_left]
      refine ⟨_, lexF_tok (g := 1) (t := ⟨5, q.length, [], 0, false⟩) (l := 32 :: (q ++ 32 :: loo ps)) hg1 (by simp) (by simpa using ht) (by rw [hd1]; exact e1), ?_⟩
      show Ls (mk (((32 :: (q ++ 32 :: loo ps)).drop 1).take q.length)) :: ts.map (fun t => Ls t.f2) = _
      rw [Ls_mk, List.drop_one, List.tail_cons, htake, e2]

/- The loops. -/
def lowN (a : Int) (n : Nat) : Nat := (IntKind.u64.wrap a).toNat % n
theorem low_is (a : Int) (n : Nat) (h0 : 0 < n) (h1 : n < 1000000) : lowN a n < n ∧ spokeshavelaw0_Low.f a (n : Int) = some ((lowN a n : Nat) : Int) := by
  have e1 : IntKind.u64.wrap (n : Int) = (n : Int) := by rw [IntKind.wrap_u64]; omega
  have hm : IntKind.u64.wrap a = ((IntKind.u64.wrap a).toNat : Int) := by rw [IntKind.wrap_u64]; omega
  unfold lowN
  generalize (IntKind.u64.wrap a).toNat = m at *
  refine ⟨Nat.mod_lt _ h0, ?_⟩
  have hlt : m % n < 1000000 := Nat.lt_trans (Nat.mod_lt _ h0) h1
  unfold spokeshavelaw0_Low.f
  rw [e1, hm, if_neg (by omega)]
  have e2 : Int.tmod (m : Int) (n : Int) = ((m % n : Nat) : Int) := rfl
  rw [e2]
  congr 1
  unfold wrap64; omega
theorem low16 (a : Int) : lowN a 16 < 16 ∧ spokeshavelaw0_Low.f a 16 = some ((lowN a 16 : Nat) : Int) := low_is a 16 (by decide) (by decide)
def pcB (x : Int) : ByteArray := AL.getD (lowN x 16) ByteArray.empty
def pc (x : Int) : List UInt8 := Ls (pcB x)
theorem pc_mem (x : Int) : pc x ∈ SGL := by
  have h := (low16 x).1
  unfold pc pcB SGL
  have hl : lowN x 16 < AL.length := h
  rw [List.getD_eq_getElem?_getD, List.getElem?_eq_getElem hl]
  exact List.mem_map_of_mem (List.getElem_mem hl)
theorem mk_Ls (s : ByteArray) : mk (Ls s) = s := ba_eq (Ls_mk _)
theorem pcB_size (x : Int) : (pcB x).size ≤ 2 := by rw [← Ls_size]; exact (SGL_all _ (pc_mem x)).2.2.1
theorem rd_pc (x : Int) : rdOf ByteArray.empty AL ((lowN x 16 : Nat) : Int) = pcB x := rfl
theorem big9 {n : Nat} (h : n ≤ 1000) : n ≤ 9223372036854775807 := Nat.le_trans h (by decide)
theorem sg_step {x0 : List Int} {i : Nat} (hi : i < x0.length) (h12 : x0.length ≤ 12) (x4 x5 : ByteArray) (h4 : x4.size ≤ 100) (h5 : x5.size ≤ 100) (k : Nat) :
    spokeshavelaw2_LexSigns.l0 (k + 1) x0 AL x4 x5 (i : Int) = spokeshavelaw2_LexSigns.l0 k x0 AL (x4 ++ pcB (rd x0 (i : Int))) ((x5 ++ pcB (rd x0 (i : Int))) ++ (⟨#[32]⟩ : ByteArray)) ((i + 1 : Nat) : Int) := by
  obtain ⟨hr, hlow⟩ := low16 (rd x0 (i : Int))
  have hw : wrap64 ((i : Int) + 1) = ((i + 1 : Nat) : Int) := w64s _ (by omega)
  have hp := pcB_size (rd x0 (i : Int))
  have hlt : ((lowN (rd x0 (i : Int)) 16 : Nat) : Int) < (AL.length : Int) := nLt _ _ hr
  simp only [spokeshavelaw2_LexSigns.l0]
  rw [if_pos (nLt _ _ hi), if_pos (n0 _), hlow]
  simp only [Option.bind_some]
  rw [if_pos (n0 _), if_pos hlt, rd_pc]
  rw [if_pos (big9 (show x4.size + (pcB (rd x0 (i : Int))).size ≤ 1000 by omega))]
  rw [if_pos (n0 _), if_pos hlt]
  rw [if_pos (big9 (show x5.size + (pcB (rd x0 (i : Int))).size ≤ 1000 by omega))]
  rw [if_pos (big9 (show (x5 ++ pcB (rd x0 (i : Int))).size + 1 ≤ 1000 by rw [ByteArray.size_append]; omega)), hw]
theorem rd_some {x0 : List Int} {i : Nat} (hi : i < x0.length) : x0[i]? = some (rd x0 (i : Int)) := by
  show _ = some (x0.getD i 0)
  rw [List.getD_eq_getElem?_getD, List.getElem?_eq_getElem hi]; rfl
theorem take_rd {x0 : List Int} {i : Nat} (hi : i < x0.length) : x0.take (i + 1) = x0.take i ++ [rd x0 (i : Int)] := by
  rw [List.take_add_one, rd_some hi]; rfl
theorem Ls_app (a b : ByteArray) : Ls (a ++ b) = Ls a ++ Ls b := by simp [Ls, ByteArray.data_append]
theorem sg_l2 {x0 : List Int} {x4 : ByteArray} {bs : List S33} (h12 : x0.length ≤ 12) (hb : bs.map (fun t => Ls t.f2) = x0.map pc) : ∀ d i : Nat, x0.length - i ≤ d → i ≤ x0.length → Ev (fun k => spokeshavelaw2_LexSigns.l2 k x0 AL x4 bs x4 (i : Int)) true := by
  have hbl : bs.length = x0.length := by have := congrArg List.length hb; simpa using this
  have fin : ∀ i : Nat, x0.length ≤ i → Ev (fun k => spokeshavelaw2_LexSigns.l2 k x0 AL x4 bs x4 (i : Int)) true := fun i hi =>
    Ev.step awake_ev' fun k => by
      simp only [spokeshavelaw2_LexSigns.l2]
      rw [if_neg (nNLt _ _ (by omega)), if_pos trivial]
  intro d
  induction d with
  | zero => intro i hd hi; exact fin i (by omega)
  | succ d ih =>
    intro i hd hi
    by_cases hlt : i < x0.length
    · refine Ev.step (ih (i + 1) (by omega) (by omega)) fun k => ?_
      obtain ⟨hr, hlow⟩ := low16 (rd x0 (i : Int))
      have hw : wrap64 ((i : Int) + 1) = ((i + 1 : Nat) : Int) := w64s _ (by omega)
      have hlt2 : ((lowN (rd x0 (i : Int)) 16 : Nat) : Int) < (AL.length : Int) := nLt _ _ hr
      have he : ((rd_T33 bs (i : Int)).f2).toList = (pcB (rd x0 (i : Int))).toList := by
        rw [toList_Ls, toList_Ls]
        have h1 := congrArg (fun l => l[i]?) hb
        simp only [List.getElem?_map, rd_some hlt, Option.map_some] at h1
        have hib : i < bs.length := by omega
        rw [List.getElem?_eq_getElem hib] at h1
        simp only [Option.map_some, Option.some.injEq] at h1
        show Ls (bs.getD i z33).f2 = _
        rw [List.getD_eq_getElem?_getD, List.getElem?_eq_getElem hib]
        exact h1
      simp only [spokeshavelaw2_LexSigns.l2]
      rw [if_pos (nLt _ _ (by omega)), if_pos (n0 _), if_pos (nLt _ _ hlt), hlow]
      simp only [Option.bind_some]
      rw [if_pos (n0 _), if_pos hlt2, rd_pc, if_pos he, hw]
    · exact fin i (by omega)
theorem sg_l1 {x0 : List Int} {x4 : ByteArray} {ts bs : List S33} (h12 : x0.length ≤ 12) (hb : bs.map (fun t => Ls t.f2) = x0.map pc) (h5 : ∀ t ∈ ts, t.f0 = 5) (hc : catB ts = Ls x4) (hs : x4.size ≤ 1000) (htl : ts.length ≤ 100) :
    ∀ (d i : Nat) (x11 : ByteArray), ts.length - i ≤ d → i ≤ ts.length → Ls x11 = catB (ts.take i) → Ev (fun k => spokeshavelaw2_LexSigns.l1 k x0 AL x4 ts bs x11 (i : Int)) true := by
  have fin : ∀ (i : Nat) (x11 : ByteArray), ts.length ≤ i → Ls x11 = catB (ts.take i) → Ev (fun k => spokeshavelaw2_LexSigns.l1 k x0 AL x4 ts bs x11 (i : Int)) true := fun i x11 hi h11 => by
    have : x11 = x4 := ba_eq (by rw [h11, List.take_of_length_le hi, hc])
    subst this
    exact Ev.step (sg_l2 h12 hb x0.length 0 (by omega) (by omega)) fun k => by
      simp only [spokeshavelaw2_LexSigns.l1]
      rw [if_neg (nNLt _ _ (by omega))]; rfl
  intro d
  induction d with
  | zero => intro i x11 hd hi h; exact fin i x11 (by omega) h
  | succ d ih =>
    intro i x11 hd hi h
    by_cases hlt : i < ts.length
    · have hget : ts[i]? = some (rd_T33 ts (i : Int)) := by
        show _ = some (ts.getD i z33)
        rw [List.getD_eq_getElem?_getD, List.getElem?_eq_getElem hlt]; rfl
      have hcat : catB (ts.take (i + 1)) = catB (ts.take i) ++ Ls (rd_T33 ts (i : Int)).f2 := by
        rw [List.take_add_one, hget]; simp [catB]
      have hle : (catB (ts.take (i + 1))).length ≤ 1000 := by
        have : catB ts = catB (ts.take (i + 1)) ++ catB (ts.drop (i + 1)) := by
          unfold catB; rw [← List.flatten_append, ← List.map_append, List.take_append_drop]
        have h2 := congrArg List.length this
        rw [hc, Ls_size, List.length_append] at h2
        omega
      have h11 : x11.size + (rd_T33 ts (i : Int)).f2.size ≤ 1000 := by
        rw [hcat, List.length_append, ← h, Ls_size, Ls_size] at hle; exact hle
      have hw : wrap64 ((i : Int) + 1) = ((i + 1 : Nat) : Int) := w64s _ (by omega)
      have h50 : (rd_T33 ts (i : Int)).f0 = 5 := h5 _ (List.mem_of_getElem? hget)
      refine Ev.step (ih (i + 1) (x11 ++ (rd_T33 ts (i : Int)).f2) (by omega) (by omega) (by rw [Ls_app, h, hcat])) fun k => ?_
      simp only [spokeshavelaw2_LexSigns.l1]
      rw [if_pos (nLt _ _ hlt), if_pos (n0 _), if_pos (big9 h11), if_pos h50, hw]
    · exact fin i x11 (by omega) h
theorem lexS_ok {l : List UInt8} {ts : List S33} (h : lexF (l.length + 1) l 0 = .ok ts) : lexS l = (ts, 0, 0) := by unfold lexS; rw [h]; simp [outS]
theorem sg_last {x0 : List Int} {x4 x5 : ByteArray} (h12 : x0.length ≤ 12) (h4 : Ls x4 = (x0.map pc).flatten) (h5 : Ls x5 = loo (x0.map pc)) (s4 : x4.size ≤ 2 * x0.length) (s5 : x5.size ≤ 3 * x0.length) :
    Ev (fun k => spokeshavelaw2_LexSigns.l0 k x0 AL x4 x5 (x0.length : Int)) true := by
  have hps : ∀ q ∈ x0.map pc, q ∈ SGL := fun q hq => by obtain ⟨x, _, rfl⟩ := List.mem_map.1 hq; exact pc_mem x
  obtain ⟨ts, e1, e2, e3, e4⟩ := tight_lex ((Ls x4).length) [] (x0.map pc) ((Ls x4).length + 1) 0 (by rw [List.nil_append, h4]; exact Nat.le_refl _) (by simp) (by simp) hps (by rw [List.nil_append, h4]; omega)
  rw [List.nil_append, ← h4] at e1 e3
  have hll : ∀ ps : List (List UInt8), (∀ q ∈ ps, q ∈ SGL) → ps.length ≤ (loo ps).length := by
    intro ps
    induction ps with
    | nil => intro _; simp
    | cons q ps ih => intro h; have := ih fun x hx => h x (by simp [hx]); unfold loo at this ⊢; simp only [List.map_cons, List.flatten_cons, List.length_append, List.length_cons, List.length_nil]; omega
  obtain ⟨bs, f1, f2⟩ := loose_lex (x0.map pc) false ((Ls x5).length + 1) 0 hps (by rw [h5]; have := hll _ hps; omega)
  simp only [Bool.false_eq_true, if_false, List.nil_append] at f1
  rw [← h5] at f1
  have hT4 := tokens_ev (s := x4) (by omega)
  have hT5 := tokens_ev (s := x5) (by omega)
  rw [lexS_ok e1] at hT4
  rw [lexS_ok f1] at hT5
  have hbl : bs.length = x0.length := by have := congrArg List.length f2; simpa using this
  have htl : ts.length ≤ x0.length := by simpa using e4
  refine Ev.step (f := fun k => (Lx.Tokens.f k x4).bind _) (Ev.bind hT4 (Ev.bind (f := fun k => Lx.Tokens.f k x5) hT5 ?_)) fun k => by
    simp only [spokeshavelaw2_LexSigns.l0]
    rw [if_neg (nNLt _ _ (Nat.lt_irrefl _))]
  refine Ev.congr (f := fun k => spokeshavelaw2_LexSigns.j1 k x0 AL x4 ts bs false) ?_ fun k => by
    simp only [if_true]
    rw [hbl, if_pos rfl, decide_eq_false (by omega)]
  exact Ev.step (sg_l1 h12 f2 e2 e3 (by omega) (by omega) ts.length 0 ⟨#[]⟩ (by omega) (by omega) rfl) fun k => by
    simp only [spokeshavelaw2_LexSigns.j1]; rw [if_neg (by decide)]; rfl
theorem sg_loop {x0 : List Int} (h12 : x0.length ≤ 12) : ∀ (d i : Nat) (x4 x5 : ByteArray), x0.length - i ≤ d → i ≤ x0.length → Ls x4 = ((x0.take i).map pc).flatten → Ls x5 = loo ((x0.take i).map pc) → x4.size ≤ 2 * i → x5.size ≤ 3 * i →
    Ev (fun k => spokeshavelaw2_LexSigns.l0 k x0 AL x4 x5 (i : Int)) true := by
  have fin : ∀ (i : Nat) (x4 x5 : ByteArray), i = x0.length → Ls x4 = ((x0.take i).map pc).flatten → Ls x5 = loo ((x0.take i).map pc) → x4.size ≤ 2 * i → x5.size ≤ 3 * i →
      Ev (fun k => spokeshavelaw2_LexSigns.l0 k x0 AL x4 x5 (i : Int)) true := fun i x4 x5 hi h4 h5 s4 s5 => by
    subst hi
    rw [List.take_length] at h4 h5
    exact sg_last h12 h4 h5 s4 s5
  intro d
  induction d with
  | zero => intro i x4 x5 hd hi; exact fin i x4 x5 (by omega)
  | succ d ih =>
    intro i x4 x5 hd hi h4 h5 s4 s5
    by_cases hlt : i < x0.length
    · have hp := pcB_size (rd x0 (i : Int))
      refine Ev.step (ih (i + 1) (x4 ++ pcB (rd x0 (i : Int))) ((x5 ++ pcB (rd x0 (i : Int))) ++ (⟨#[32]⟩ : ByteArray)) (by omega) (by omega) ?_ ?_ ?_ ?_) (sg_step hlt h12 x4 x5 (by omega) (by omega))
      · rw [Ls_app, h4, take_rd hlt]; simp; rfl
      · rw [Ls_app, Ls_app, h5, take_rd hlt]; unfold loo; simp; rfl
      · rw [ByteArray.size_append]; omega
      · rw [ByteArray.size_append, ByteArray.size_append]; have : (⟨#[32]⟩ : ByteArray).size = 1 := rfl; omega
    · exact fin i x4 x5 (by omega) h4 h5 s4 s5
theorem LexSignsP : spokeshavelaw2_LexSigns.Pure := by
  intro x0 _ _ _
  refine Ev.some ?_
  by_cases h12 : (x0.length : Int) > 12
  · exact Ev.congr awake_ev' fun k => by unfold spokeshavelaw2_LexSigns.f; rw [if_pos h12]
  · refine Ev.congr (sg_loop (x0 := x0) (by omega) x0.length 0 ⟨#[]⟩ ⟨#[]⟩ (by omega) (by omega) rfl rfl (Nat.le_refl _) (Nat.le_refl _)) fun k => by unfold spokeshavelaw2_LexSigns.f; rw [if_neg h12]; rfl
end
end Go.Proofs.YtiljijckfkphhaaDoor.PLex
namespace Go.Proofs.YtiljijckfkphhaaDoor.Pure
open Go.Proofs.YtiljijckfkphhaaDoor.PLex
theorem LexSigns : spokeshavelaw2_LexSigns.Pure := LexSignsP
end Go.Proofs.YtiljijckfkphhaaDoor.Pure
