/- Executor: steps over a memory of which some blocks are told (newest first), without fuel. -/
import Derived.Test.YticjocbgadgjpaaX28
import Derived.Test.YticjocbgadgjpaaX24
import Derived.Test.YticjocbgadgjpaaXLet
set_option linter.unusedVariables false
set_option linter.unusedSimpArgs false
set_option linter.constructorNameAsVariable false
set_option linter.unusedVariables false
set_option linter.unusedSimpArgs false
namespace Go.Xe
open Go.RowKit
/-- Some blocks below n, newest first. -/
inductive Kn (H : HM AO) : Nat → List (Nat × AO) → Prop
  | nil {n} : Kn H n []
  | cons {n b ao M} : b < n → H.get b = some ao → Kn H b M → Kn H n ((b, ao) :: M)
theorem Kn.up {H n M} (h : Kn H n M) {m : Nat} (hm : n ≤ m) : Kn H m M := by
  cases h with
  | nil => exact .nil
  | cons h1 h2 h3 => exact .cons (by omega) h2 h3
theorem Kn.uncons {H n b ao M} (h : Kn H n ((b, ao) :: M)) : b < n ∧ H.get b = some ao ∧ Kn H b M := by cases h with | cons h1 h2 h3 => exact ⟨h1, h2, h3⟩
theorem Kn.tail {H n p M} (h : Kn H n (p :: M)) : Kn H n M := by
  obtain ⟨b, ao⟩ := p
  exact h.uncons.2.2.up (by have := h.uncons.1; omega)
theorem Kn.keep {H H' : HM AO} : ∀ {M n}, Kn H n M → (∀ b, b < n → H'.get b = H.get b) → Kn H' n M
  | [], _, _, _ => .nil
  | (b, ao) :: M, n, h, hk => by
    obtain ⟨h1, h2, h3⟩ := h.uncons
    exact .cons h1 (by rw [hk b h1]; exact h2) (h3.keep fun c hc => hk c (by omega))
theorem Kn.mem {H} : ∀ {M n}, Kn H n M → ∀ {b ao}, (b, ao) ∈ M → b < n ∧ H.get b = some ao
  | [], _, _, _, _, h => by simp at h
  | (b, ao) :: M, n, h, c, a, hm => by
    obtain ⟨h1, h2, h3⟩ := h.uncons
    rcases List.mem_cons.1 hm with e | hm
    · cases e; exact ⟨h1, h2⟩
    · have := h3.mem hm; exact ⟨by omega, this.2⟩
theorem Kn.sub {H} {M M' : List (Nat × AO)} (s : M'.Sublist M) : ∀ {n}, Kn H n M → Kn H n M' := by
  induction s with
  | slnil => exact fun h => h
  | cons a s ih => exact fun h => ih h.tail
  | cons_cons a s ih =>
    intro n h
    obtain ⟨b, ao⟩ := a
    obtain ⟨h1, h2, h3⟩ := h.uncons
    exact .cons h1 h2 (ih h3)
theorem Kn.sub' {H n} {M M' : List (Nat × AO)} (h : Kn H n M) (s : M'.Sublist M) : Kn H n M' := Kn.sub s h
/-- A told block is another one. -/
def setM (M : List (Nat × AO)) (b : Nat) (ao : AO) : List (Nat × AO) := M.map fun p => if p.1 = b then (b, ao) else p
theorem setM_low {H : HM AO} : ∀ {M : List (Nat × AO)} {n}, Kn H n M → ∀ {b}, n ≤ b → ∀ ao, setM M b ao = M
  | [], _, _, _, _, _ => rfl
  | (c, a) :: M, n, h, b, hb, ao => by
    obtain ⟨h1, h2, h3⟩ := h.uncons
    unfold setM
    rw [List.map_cons, if_neg (by show ¬ c = b; omega)]
    congr 1
    exact setM_low h3 (by omega) ao
theorem Kn.set {H} : ∀ {M n}, Kn H n M → ∀ (b : Nat) (ao : AO), Kn (H.set b (some ao)) n (setM M b ao)
  | [], _, _, _, _ => .nil
  | (c, a) :: M, n, h, b, ao => by
    obtain ⟨h1, h2, h3⟩ := h.uncons
    unfold setM
    rw [List.map_cons]
    by_cases e : c = b
    · subst e
      rw [if_pos rfl]
      refine .cons h1 (by rw [HM.get_set, if_pos rfl]) ?_
      have : List.map (fun p => if p.1 = c then (c, ao) else p) M = M := setM_low h3 (Nat.le_refl _) ao
      rw [this]
      exact h3.keep fun d hd => by rw [HM.get_set, if_neg (by omega)]
    · rw [if_neg e]
      exact .cons h1 (by rw [HM.get_set, if_neg e]; exact h2) (h3.set b ao)
theorem Kn.kill {H} : ∀ {M n}, Kn H n M → ∀ (b : Nat) (x : Option AO), (∀ p ∈ M, p.1 ≠ b) → Kn (H.set b x) n M
  | [], _, _, _, _, _ => .nil
  | (c, a) :: M, n, h, b, x, hb => by
    obtain ⟨h1, h2, h3⟩ := h.uncons
    have hc : c ≠ b := hb (c, a) (by simp)
    exact .cons h1 (by rw [HM.get_set, if_neg hc]; exact h2) (h3.kill b x fun p hp => hb p (by simp [hp]))
theorem Kn.ne_head {H n b ao M} (h : Kn H n ((b, ao) :: M)) : ∀ p ∈ M, p.1 ≠ b := fun p hp => by
  have := (h.uncons.2.2.mem (b := p.1) (ao := p.2) hp).1; omega
theorem Kn.new {H n M} (h : Kn H n M) (ao : AO) : Kn (H.set n (some ao)) (n + 1) ((n, ao) :: M) :=
  .cons (Nat.lt_succ_self _) (by rw [HM.get_set, if_pos rfl]) (h.keep fun b hb => by rw [HM.get_set, if_neg (by omega)])
theorem Kn.addE {i : Nat → Option AO} {H n M} (h : Kn H n M) {ao : AO} {S : St} (e : S = St.add ⟨i, H, n⟩ ao) : ∃ H', S = ⟨i, H', n + 1⟩ ∧ Kn H' (n + 1) ((n, ao) :: M) := ⟨_, e, h.new ao⟩
theorem Kn.add {i : Nat → Option AO} {H n M} (h : Kn H n M) {ao : AO} {P : St → Prop} (k : ∀ H', Kn H' (n + 1) ((n, ao) :: M) → P ⟨i, H', n + 1⟩) : P (St.add ⟨i, H, n⟩ ao) := k _ (h.new ao)
theorem Kn.letS {i : Nat → Option AO} {H n M} (h : Kn H n M) {ao : AO} {P : St → Prop} (k : ∀ H', Kn H' (n + 1) ((n, ao) :: M) → P ⟨i, H', n + 1⟩) : letK (St.add ⟨i, H, n⟩ ao) P := k _ (h.new ao)
theorem oneK_i {x} {K : V1 → Prop} (h : K x) : oneK (.one x) K := h
theorem uncK_e {l a r} {K : SV → List SV → Prop} (e : l = a :: r) (h : K a r) : uncK l K := by subst e; exact h
theorem req_len {α : Type} {l : List α} {n : Nat} {K : Prop} (e : l.length = n) (h : K) : req (Nat.beq l.length n) K := by subst e; rw [show Nat.beq l.length l.length = true from Nat.beq_refl _]; exact h
theorem bkEq_refl (b : Bk) : bkEq b b = true := by cases b <;> exact Nat.beq_refl _
theorem cpEq_refl (c : Nat ⊕ Nat) : cpEq c c = true := by cases c <;> exact Nat.beq_refl _
def noFn : SV → Bool
  | .fn (.mk _ _ _) => false
  | _ => true
theorem sameSV_refl (a : SV) (h : noFn a = true) : sameSV a a = true := by
  rcases a with b | ⟨k, n⟩ | s | (_ | ⟨b, o⟩) | (_ | ⟨b, o, n, c⟩) | (_ | b) | (_ | ⟨f, a, c⟩) <;> simp [sameSV, ieq_eq, leq_eq, pvEq, lvEq, mvEq, fvEq, bkEq_refl, cpEq_refl, noFn] at h ⊢
theorem sameSL_refl : ∀ (l : List SV), l.all noFn = true → sameSL l l = true
  | [], _ => rfl
  | a :: l, h => by
    simp only [List.all_cons, Bool.and_eq_true] at h
    simp only [sameSL, sameSV_refl a h.1, sameSL_refl l h.2, Bool.and_self]
theorem req_sameS {a : SV} {K : Prop} (e : noFn a = true) (h : K) : req (sameAV (.one (.s a)) (.one (.s a))) K := by
  rw [show sameAV (.one (.s a)) (.one (.s a)) = true from sameSV_refl a e]; exact h
theorem req_sameL {l : List SV} {K : Prop} (e : l.all noFn = true) (h : K) : req (sameAV (.one (.agg l)) (.one (.agg l))) K := by
  rw [show sameAV (.one (.agg l)) (.one (.agg l)) = true from sameSL_refl l e]; exact h
theorem optK_pn {P : Program} {d t : Nat} {p : PV} {c : Bool} {K : Bool → Prop} (e : eqA P d t (.s (.ptr p)) (.s (.ptr .nil)) = some c) (h : K c) : optK (eqA P d t (.s (.ptr p)) (.s (.ptr .nil))) K := by rw [e]; exact h
theorem ifK_1 {x y : Prop} (h : x) : ifK true x y := h
theorem ifK_0 {x y : Prop} (h : y) : ifK false x y := h
theorem ifK_n1 {x y : Prop} (h : y) : ifK (Bool.not true) x y := h
theorem ifK_n0 {x y : Prop} (h : x) : ifK (Bool.not false) x y := h
theorem cI_e {k v n} {K : Int → Prop} (e : v = .int k n) (h : K n) : SV.cI k v K := by subst e; exact cI_i h
theorem cB_e {v n} {K : Bool → Prop} (e : v = .bool n) (h : K n) : SV.cB v K := by subst e; exact h
theorem cS_e {v n} {K : List Nat → Prop} (e : v = .str n) (h : K n) : SV.cS v K := by subst e; exact h
theorem cP_e {v n} {K : PV → Prop} (e : v = .ptr n) (h : K n) : SV.cP v K := by subst e; exact h
theorem cL_e {v n} {K : LV → Prop} (e : v = .sl n) (h : K n) : SV.cL v K := by subst e; exact h
theorem cM_e {v n} {K : MV → Prop} (e : v = .map n) (h : K n) : SV.cM v K := by subst e; exact h
theorem cF_e {v n} {K : FV → Prop} (e : v = .fn n) (h : K n) : SV.cF v K := by subst e; exact h
theorem uncV_e {v a r} {K : V1 → List V1 → Prop} (e : v = a :: r) (h : K a r) : uncV v K := by subst e; exact h
theorem scK_e {v x} {K : SV → Prop} (e : v = .one (.s x)) (h : K x) : scK v K := by subst e; exact h
theorem oneK_e {v x} {K : V1 → Prop} (e : v = .one x) (h : K x) : oneK v K := by subst e; exact h
theorem avT_e {v x} {K : List V1 → Prop} (e : v = .tup x) (h : K x) : avT v K := by subst e; exact h
theorem avA_e {v x} {K : List SV → Prop} (e : v = .one (.agg x)) (h : K x) : avA v K := by subst e; exact h
theorem v1S_e {v x} {K : SV → Prop} (e : v = .s x) (h : K x) : v1S v K := by subst e; exact h
theorem v1A_e {v x} {K : List SV → Prop} (e : v = .agg x) (h : K x) : v1A v K := by subst e; exact h
theorem pvcs_e {v b o} {K : Bk → Nat → Prop} (e : v = .mk b o) (h : K b o) : PV.cs v K := by subst e; exact h
theorem lvcs_e {v b o n c} {K : Bk → Nat → Nat → Nat ⊕ Nat → Prop} (e : v = .mk b o n c) (h : K b o n c) : LV.cs v K := by subst e; exact h
theorem req_rng {k m : Nat} {K : Prop} (h : k < m) (hk : K) : req (Bool.and (ile 0 (k : Int)) (ilt (k : Int) (Int.ofNat m))) K := by
  refine req_i ?_ hk
  rw [ile_eq, ilt_eq, decide_eq_true (Int.natCast_nonneg k), show decide ((k : Int) < Int.ofNat m) = true from decide_eq_true (Int.ofNat_lt.2 h)]; rfl
theorem fits_ok {b n : Nat} (hb : b ≤ 100000) (hn : n ≤ 1000000000) : fits b n = true := by
  unfold fits; rw [Nat.ble_eq_true_of_le hb, Nat.ble_eq_true_of_le hn]; rfl
theorem ble_f {a b : Nat} (h : b < a) : Nat.ble a b = false := by
  cases hh : Nat.ble a b with
  | false => rfl
  | true => have := Nat.le_of_ble_eq_true hh; omega
theorem ble_t {a b : Nat} (h : a ≤ b) : Nat.ble a b = true := Nat.ble_eq_true_of_le h
theorem endL_e {α : Type} {l : List α} {K : Prop} (e : l = []) (h : K) : endL l K := by subst e; exact h
variable {i : Nat → Option AO}
theorem Kn.atm {H n M} (hk : Kn H n M) {b o : Nat} {c op} {K : List SV → Prop} (hm : (b, .cells c op) ∈ M) (k : K (c.drop o)) : St.at ⟨i, H, n⟩ (.new b) o K := by
  unfold St.at; rw [show (St.mk i H n).get (.new b) = some (.cells c op) from (hk.mem hm).2]; exact k
theorem setM_mem {M : List (Nat × AO)} {b c : Nat} {a ao : AO} (h : (c, a) ∈ M) (hne : c ≠ b) : (c, a) ∈ setM M b ao := by
  unfold setM
  exact List.mem_map.2 ⟨(c, a), h, by rw [if_neg hne]⟩
theorem setM_self {M : List (Nat × AO)} {b : Nat} {a ao : AO} (h : (b, a) ∈ M) : (b, ao) ∈ setM M b ao := by
  unfold setM
  exact List.mem_map.2 ⟨(b, a), h, by rw [if_pos rfl]⟩
theorem Kn.inpAt {H n} {r o : Nat} {c op} {K : List SV → Prop} (h : i r = some (.cells c op)) (k : K (c.drop o)) : St.at ⟨i, H, n⟩ (.inp r) o K := by
  unfold St.at; rw [show (St.mk i H n).get (.inp r) = some (.cells c op) from h]; exact k
theorem Kn.atG {H n} {b o : Nat} {c op} {K : List SV → Prop} (h : H.get b = some (.cells c op)) (k : K (c.drop o)) : St.at ⟨i, H, n⟩ (.new b) o K := by
  unfold St.at; rw [show (St.mk i H n).get (.new b) = some (.cells c op) from h]; exact k
theorem Kn.wrG {H n M} (hk : Kn H n M) {b o : Nat} {c op new} {K : St → Prop} (h : H.get b = some (.cells c op)) (hle : Nat.ble (o + new.length) c.length = true)
    (k : ∀ H', Kn H' n (setM M b (.cells (c.take o ++ (new ++ c.drop (o + new.length))) op)) → K ⟨i, H', n⟩) : St.wr ⟨i, H, n⟩ (.new b) o new K := by
  unfold St.wr
  dsimp only
  rw [h]
  dsimp only
  rw [hle]
  exact k _ (hk.set b _)
theorem Kn.mpG {H n} {b : Nat} {es clk} {K : List (V1 × V1 × Nat) → Prop} (h : H.get b = some (.map es clk)) (k : K es) : St.mp ⟨i, H, n⟩ (.mk (.new b)) K := by
  unfold St.mp; dsimp only; rw [show (St.mk i H n).get (.new b) = some (.map es clk) from h]; exact k
theorem Kn.lookupG {P H n} {kt z b k K} {es clk} (h : H.get b = some (.map es clk)) {r} (hr : findA P kt k es 0 = some r) (hk : K ((r.map (·.2)).getD z) (r.map (·.2)).isSome) : St.lookup P ⟨i, H, n⟩ kt z (.mk (.new b)) k K := by
  unfold St.lookup
  dsimp only
  rw [show (St.mk i H n).get (.new b) = some (.map es clk) from h]
  dsimp only
  refine Kn.mpG h ?_
  show optK (findA P kt k es 0) _
  rw [hr]; exact hk
theorem Kn.mputNewG {P H n M} (hk : Kn H n M) {kt b k x} {K : St → Prop} {es clk} (h : H.get b = some (.map es clk)) (hr : findA P kt k es 0 = some none)
    (kk : ∀ H', Kn H' n (setM M b (.map (es ++ [(k, x, clk)]) (clk + 1))) → K ⟨i, H', n⟩) : St.mput P ⟨i, H, n⟩ kt (.mk (.new b)) k x K := by
  unfold St.mput
  dsimp only
  rw [h]
  show optK (findA P kt k es 0) _
  rw [hr]
  exact kk _ (hk.set b _)
theorem Kn.mputOldG {P H n M} (hk : Kn H n M) {kt b k x} {K : St → Prop} {es clk j y} (h : H.get b = some (.map es clk)) (hr : findA P kt k es 0 = some (some (j, y))) (hkey : keyAt es j k = true)
    (kk : ∀ H', Kn H' n (setM M b (.map (es.set j (k, x, (es.getD j (k, x, 0)).2.2)) clk)) → K ⟨i, H', n⟩) : St.mput P ⟨i, H, n⟩ kt (.mk (.new b)) k x K := by
  unfold St.mput
  dsimp only
  rw [h]
  show optK (findA P kt k es 0) _
  rw [hr]
  show req (keyAt es j k) _
  rw [hkey]
  exact kk _ (hk.set b _)
def delE (es : List (V1 × V1 × Nat)) (r : Option (Nat × V1)) : List (V1 × V1 × Nat) := match r with | some (j, _) => es.eraseIdx j | none => es
theorem Kn.mdelG {P H n M} (hk : Kn H n M) {kt b k} {K : St → Prop} {es clk r} (h : H.get b = some (.map es clk)) (hr : findA P kt k es 0 = some r)
    (kk : ∀ H', Kn H' n (setM M b (.map (delE es r) clk)) → K ⟨i, H', n⟩) : St.mdel P ⟨i, H, n⟩ kt (.mk (.new b)) k K := by
  unfold St.mdel
  dsimp only
  rw [h]
  show optK (findA P kt k es 0) _
  rw [hr]
  cases r <;> exact kk _ (hk.set b _)
theorem Kn.srcG {H n} {b o m : Nat} {cc c op z} {K : List SV → Nat → Prop} (h : H.get b = some (.cells c op)) (hle : Nat.ble (o + m * z) c.length = true) (k : K ((c.drop o).take (m * z)) m) : St.src ⟨i, H, n⟩ z (.mk (.new b) o m cc) K := by
  unfold St.src; dsimp only; rw [show (St.mk i H n).get (.new b) = some (.cells c op) from h]; dsimp only; rw [hle]; exact k
theorem Kn.srcI {H n} {r o m : Nat} {cc c op z} {K : List SV → Nat → Prop} (h : i r = some (.cells c op)) (hle : Nat.ble (o + m * z) c.length = true) (k : K ((c.drop o).take (m * z)) m) : St.src ⟨i, H, n⟩ z (.mk (.inp r) o m cc) K := by
  unfold St.src; dsimp only; rw [show (St.mk i H n).get (.inp r) = some (.cells c op) from h]; dsimp only; rw [hle]; exact k
theorem src_nil {S : St} {z} {K : List SV → Nat → Prop} (k : K [] 0) : St.src S z .nil K := k
/-- append to nothing. -/
theorem Kn.appNil {H n M} (hk : Kn H n M) {e : TypeId} {z by_ m : Nat} {new : List SV} {K : LV → St → Prop} (hm : Nat.beq m 0 = false) (hf : fits by_ m = true)
    (k : ∀ H', Kn H' (n + 1) ((n, .cells new (.gt e)) :: M) → K (.mk (.new n) 0 m (.inr z)) ⟨i, H', n + 1⟩) : St.app ⟨i, H, n⟩ e z by_ .nil new m K := by
  unfold St.app
  rw [hm]
  show req (fits by_ m) _
  rw [hf]
  exact k _ (hk.new _)
theorem app_zero {S : St} {e : TypeId} {z by_ : Nat} {s : LV} {new : List SV} {K : LV → St → Prop} (k : K s S) : St.app S e z by_ s new 0 K := k
theorem setM_ne {M : List (Nat × AO)} {b : Nat} {ao : AO} {c : Nat} {a : AO} (h : c ≠ b) : setM ((c, a) :: M) b ao = (c, a) :: setM M b ao := by
  unfold setM; rw [List.map_cons, if_neg h]
theorem Kn.setM_head {H : HM AO} {n b a M} (h : Kn H n ((b, a) :: M)) (ao : AO) : setM ((b, a) :: M) b ao = (b, ao) :: M := by
  have : setM ((b, a) :: M) b ao = (b, ao) :: setM M b ao := by unfold setM; rw [List.map_cons, if_pos rfl]
  rw [this, setM_low h.uncons.2.2 (Nat.le_refl _)]
theorem Kn.head_ne {H : HM AO} {n c a M b ao} (h : Kn H n ((c, a) :: M)) (hm : (b, ao) ∈ M) : c ≠ b := by
  have := (h.uncons.2.2.mem hm).1; omega
/-- append to an open row that ends where its block ends: it goes on under a new number. -/
theorem Kn.appGro {H n M M'} (hk : Kn H n M) {e : TypeId} {z by_ b o len m : Nat} {l new : List SV} {op : Op2} {K : LV → St → Prop} (h : H.get b = some (.cells l op)) (hb : ∀ p ∈ M', p.1 ≠ b) (hM : M'.Sublist M) (hm : Nat.beq m 0 = false) (hf : fits by_ (len + m) = true)
    (hop : op.b = true) (hl : o + len * z = l.length) (hlt : Nat.ble (o + (len + m) * z) l.length = false)
    (k : ∀ H', Kn H' (n + 1) ((n, .cells (l.drop o ++ new) (growOp op o e)) :: M') → K (.mk (.new n) 0 (len + m) (.inr z)) ⟨i, H', n + 1⟩) : St.app ⟨i, H, n⟩ e z by_ (.mk (.new b) o len (.inr z)) new m K := by
  unfold St.app
  rw [hm]
  show req (fits by_ (len + m)) _
  rw [hf]
  show (match (St.mk i H n).get (.new b) with | some (.cells l op) => _ | _ => False)
  rw [show (St.mk i H n).get (.new b) = some (.cells l op) from h]
  show req (Nat.ble (o + len * z) l.length) _
  rw [show Nat.ble (o + len * z) l.length = true by rw [hl]; exact Nat.ble_eq_true_of_le (Nat.le_refl _)]
  show req (Nat.beq z z) _
  rw [show Nat.beq z z = true from Nat.beq_refl z]
  dsimp only
  rw [hlt]
  dsimp only
  rw [hop]
  dsimp only
  rw [show Nat.beq (o + len * z) l.length = true by rw [hl]; exact Nat.beq_refl _]
  exact k _ (Kn.new ((hk.sub' hM).kill b none hb) _)
/-- append to a row that has no room: a copy. -/
theorem Kn.appCopy {H n M} (hk : Kn H n M) {e : TypeId} {z by_ b o len m k0 : Nat} {l new : List SV} {op : Op2} {K : LV → St → Prop} (h : H.get b = some (.cells l op)) (hm : Nat.beq m 0 = false) (hf : fits by_ (len + m) = true)
    (hl : Nat.ble (o + len * z) l.length = true) (hlt : Nat.ble (len + m) k0 = false)
    (k : ∀ H', Kn H' (n + 1) ((n, .cells ((l.drop o).take (len * z) ++ new) (.gt e)) :: M) → K (.mk (.new n) 0 (len + m) (.inr z)) ⟨i, H', n + 1⟩) : St.app ⟨i, H, n⟩ e z by_ (.mk (.new b) o len (.inl k0)) new m K := by
  unfold St.app
  rw [hm]
  show req (fits by_ (len + m)) _
  rw [hf]
  show (match (St.mk i H n).get (.new b) with | some (.cells l op) => _ | _ => False)
  rw [show (St.mk i H n).get (.new b) = some (.cells l op) from h]
  show req (Nat.ble (o + len * z) l.length) _
  rw [hl]
  dsimp only
  rw [hlt]
  exact k _ (hk.new _)
theorem Kn.lkm {P H n M b es clk kt z key r} {K : V1 → Bool → Prop} (hk : Kn H n M) (hm : (b, .map es clk) ∈ M) (hr : findA P kt key es 0 = some r) (k : K ((r.map (·.2)).getD z) (r.map (·.2)).isSome) : St.lookup P ⟨i, H, n⟩ kt z (.mk (.new b)) key K := Kn.lookupG (hk.mem hm).2 hr k
theorem Kn.wrm {H n M b o c op new} {K : St → Prop} (hk : Kn H n M) (hm : (b, .cells c op) ∈ M) (hle : Nat.ble (o + new.length) c.length = true) (k : ∀ H', Kn H' n (setM M b (.cells (c.take o ++ (new ++ c.drop (o + new.length))) op)) → K ⟨i, H', n⟩) : St.wr ⟨i, H, n⟩ (.new b) o new K := hk.wrG (hk.mem hm).2 hle k
theorem Kn.mnm {P H n M b es clk kt key x} {K : St → Prop} (hk : Kn H n M) (hm : (b, .map es clk) ∈ M) (hr : findA P kt key es 0 = some none) (k : ∀ H', Kn H' n (setM M b (.map (es ++ [(key, x, clk)]) (clk + 1))) → K ⟨i, H', n⟩) : St.mput P ⟨i, H, n⟩ kt (.mk (.new b)) key x K := hk.mputNewG (hk.mem hm).2 hr k
theorem Kn.mom {P H n M b es clk kt key x j y} {K : St → Prop} (hk : Kn H n M) (hm : (b, .map es clk) ∈ M) (hr : findA P kt key es 0 = some (some (j, y))) (hkey : keyAt es j key = true) (k : ∀ H', Kn H' n (setM M b (.map (es.set j (key, x, (es.getD j (key, x, 0)).2.2)) clk)) → K ⟨i, H', n⟩) : St.mput P ⟨i, H, n⟩ kt (.mk (.new b)) key x K := hk.mputOldG (hk.mem hm).2 hr hkey k
theorem Kn.mdm {P H n M b es clk kt key r} {K : St → Prop} (hk : Kn H n M) (hm : (b, .map es clk) ∈ M) (hr : findA P kt key es 0 = some r) (k : ∀ H', Kn H' n (setM M b (.map (delE es r) clk)) → K ⟨i, H', n⟩) : St.mdel P ⟨i, H, n⟩ kt (.mk (.new b)) key K := hk.mdelG (hk.mem hm).2 hr k
theorem setM_cons {M : List (Nat × AO)} {H : HM AO} {n b : Nat} {ao : AO} {c : Nat} {a x : AO} (h : Kn H n ((c, a) :: M)) (hm : (b, x) ∈ M) : setM ((c, a) :: M) b ao = (c, a) :: setM M b ao := setM_ne (h.head_ne hm)
theorem Kn.ne0 {H n  b ao M} (hk : Kn H n ((b, ao) :: M)) : ∀ p ∈ (M), p.1 ≠ b := by
  exact hk.ne_head
theorem Kn.ne1 {H n p0 b ao M} (hk : Kn H n (p0 :: (b, ao) :: M)) : ∀ p ∈ (p0 :: M), p.1 ≠ b := by
  intro p hp
  rcases List.mem_cons.1 hp with rfl | hp
  · exact Kn.head_ne (c := p.1) (a := p.2) hk (b := b) (ao := ao) (by simp)
  · exact hk.tail.ne0 p hp
theorem Kn.ne2 {H n p0 p1 b ao M} (hk : Kn H n (p0 :: p1 :: (b, ao) :: M)) : ∀ p ∈ (p0 :: p1 :: M), p.1 ≠ b := by
  intro p hp
  rcases List.mem_cons.1 hp with rfl | hp
  · exact Kn.head_ne (c := p.1) (a := p.2) hk (b := b) (ao := ao) (by simp)
  · exact hk.tail.ne1 p hp
theorem Kn.ne3 {H n p0 p1 p2 b ao M} (hk : Kn H n (p0 :: p1 :: p2 :: (b, ao) :: M)) : ∀ p ∈ (p0 :: p1 :: p2 :: M), p.1 ≠ b := by
  intro p hp
  rcases List.mem_cons.1 hp with rfl | hp
  · exact Kn.head_ne (c := p.1) (a := p.2) hk (b := b) (ao := ao) (by simp)
  · exact hk.tail.ne2 p hp
theorem Kn.ne4 {H n p0 p1 p2 p3 b ao M} (hk : Kn H n (p0 :: p1 :: p2 :: p3 :: (b, ao) :: M)) : ∀ p ∈ (p0 :: p1 :: p2 :: p3 :: M), p.1 ≠ b := by
  intro p hp
  rcases List.mem_cons.1 hp with rfl | hp
  · exact Kn.head_ne (c := p.1) (a := p.2) hk (b := b) (ao := ao) (by simp)
  · exact hk.tail.ne3 p hp
theorem Kn.ne5 {H n p0 p1 p2 p3 p4 b ao M} (hk : Kn H n (p0 :: p1 :: p2 :: p3 :: p4 :: (b, ao) :: M)) : ∀ p ∈ (p0 :: p1 :: p2 :: p3 :: p4 :: M), p.1 ≠ b := by
  intro p hp
  rcases List.mem_cons.1 hp with rfl | hp
  · exact Kn.head_ne (c := p.1) (a := p.2) hk (b := b) (ao := ao) (by simp)
  · exact hk.tail.ne4 p hp
theorem Kn.ne6 {H n p0 p1 p2 p3 p4 p5 b ao M} (hk : Kn H n (p0 :: p1 :: p2 :: p3 :: p4 :: p5 :: (b, ao) :: M)) : ∀ p ∈ (p0 :: p1 :: p2 :: p3 :: p4 :: p5 :: M), p.1 ≠ b := by
  intro p hp
  rcases List.mem_cons.1 hp with rfl | hp
  · exact Kn.head_ne (c := p.1) (a := p.2) hk (b := b) (ao := ao) (by simp)
  · exact hk.tail.ne5 p hp
theorem Kn.ne7 {H n p0 p1 p2 p3 p4 p5 p6 b ao M} (hk : Kn H n (p0 :: p1 :: p2 :: p3 :: p4 :: p5 :: p6 :: (b, ao) :: M)) : ∀ p ∈ (p0 :: p1 :: p2 :: p3 :: p4 :: p5 :: p6 :: M), p.1 ≠ b := by
  intro p hp
  rcases List.mem_cons.1 hp with rfl | hp
  · exact Kn.head_ne (c := p.1) (a := p.2) hk (b := b) (ao := ao) (by simp)
  · exact hk.tail.ne6 p hp
theorem Kn.ne8 {H n p0 p1 p2 p3 p4 p5 p6 p7 b ao M} (hk : Kn H n (p0 :: p1 :: p2 :: p3 :: p4 :: p5 :: p6 :: p7 :: (b, ao) :: M)) : ∀ p ∈ (p0 :: p1 :: p2 :: p3 :: p4 :: p5 :: p6 :: p7 :: M), p.1 ≠ b := by
  intro p hp
  rcases List.mem_cons.1 hp with rfl | hp
  · exact Kn.head_ne (c := p.1) (a := p.2) hk (b := b) (ao := ao) (by simp)
  · exact hk.tail.ne7 p hp
theorem Kn.ne9 {H n p0 p1 p2 p3 p4 p5 p6 p7 p8 b ao M} (hk : Kn H n (p0 :: p1 :: p2 :: p3 :: p4 :: p5 :: p6 :: p7 :: p8 :: (b, ao) :: M)) : ∀ p ∈ (p0 :: p1 :: p2 :: p3 :: p4 :: p5 :: p6 :: p7 :: p8 :: M), p.1 ≠ b := by
  intro p hp
  rcases List.mem_cons.1 hp with rfl | hp
  · exact Kn.head_ne (c := p.1) (a := p.2) hk (b := b) (ao := ao) (by simp)
  · exact hk.tail.ne8 p hp
theorem Kn.ne10 {H n p0 p1 p2 p3 p4 p5 p6 p7 p8 p9 b ao M} (hk : Kn H n (p0 :: p1 :: p2 :: p3 :: p4 :: p5 :: p6 :: p7 :: p8 :: p9 :: (b, ao) :: M)) : ∀ p ∈ (p0 :: p1 :: p2 :: p3 :: p4 :: p5 :: p6 :: p7 :: p8 :: p9 :: M), p.1 ≠ b := by
  intro p hp
  rcases List.mem_cons.1 hp with rfl | hp
  · exact Kn.head_ne (c := p.1) (a := p.2) hk (b := b) (ao := ao) (by simp)
  · exact hk.tail.ne9 p hp
theorem Kn.ne11 {H n p0 p1 p2 p3 p4 p5 p6 p7 p8 p9 p10 b ao M} (hk : Kn H n (p0 :: p1 :: p2 :: p3 :: p4 :: p5 :: p6 :: p7 :: p8 :: p9 :: p10 :: (b, ao) :: M)) : ∀ p ∈ (p0 :: p1 :: p2 :: p3 :: p4 :: p5 :: p6 :: p7 :: p8 :: p9 :: p10 :: M), p.1 ≠ b := by
  intro p hp
  rcases List.mem_cons.1 hp with rfl | hp
  · exact Kn.head_ne (c := p.1) (a := p.2) hk (b := b) (ao := ao) (by simp)
  · exact hk.tail.ne10 p hp
theorem Kn.ne12 {H n p0 p1 p2 p3 p4 p5 p6 p7 p8 p9 p10 p11 b ao M} (hk : Kn H n (p0 :: p1 :: p2 :: p3 :: p4 :: p5 :: p6 :: p7 :: p8 :: p9 :: p10 :: p11 :: (b, ao) :: M)) : ∀ p ∈ (p0 :: p1 :: p2 :: p3 :: p4 :: p5 :: p6 :: p7 :: p8 :: p9 :: p10 :: p11 :: M), p.1 ≠ b := by
  intro p hp
  rcases List.mem_cons.1 hp with rfl | hp
  · exact Kn.head_ne (c := p.1) (a := p.2) hk (b := b) (ao := ao) (by simp)
  · exact hk.tail.ne11 p hp
theorem Kn.ne13 {H n p0 p1 p2 p3 p4 p5 p6 p7 p8 p9 p10 p11 p12 b ao M} (hk : Kn H n (p0 :: p1 :: p2 :: p3 :: p4 :: p5 :: p6 :: p7 :: p8 :: p9 :: p10 :: p11 :: p12 :: (b, ao) :: M)) : ∀ p ∈ (p0 :: p1 :: p2 :: p3 :: p4 :: p5 :: p6 :: p7 :: p8 :: p9 :: p10 :: p11 :: p12 :: M), p.1 ≠ b := by
  intro p hp
  rcases List.mem_cons.1 hp with rfl | hp
  · exact Kn.head_ne (c := p.1) (a := p.2) hk (b := b) (ao := ao) (by simp)
  · exact hk.tail.ne12 p hp
theorem Kn.ne14 {H n p0 p1 p2 p3 p4 p5 p6 p7 p8 p9 p10 p11 p12 p13 b ao M} (hk : Kn H n (p0 :: p1 :: p2 :: p3 :: p4 :: p5 :: p6 :: p7 :: p8 :: p9 :: p10 :: p11 :: p12 :: p13 :: (b, ao) :: M)) : ∀ p ∈ (p0 :: p1 :: p2 :: p3 :: p4 :: p5 :: p6 :: p7 :: p8 :: p9 :: p10 :: p11 :: p12 :: p13 :: M), p.1 ≠ b := by
  intro p hp
  rcases List.mem_cons.1 hp with rfl | hp
  · exact Kn.head_ne (c := p.1) (a := p.2) hk (b := b) (ao := ao) (by simp)
  · exact hk.tail.ne13 p hp
theorem Kn.ne15 {H n p0 p1 p2 p3 p4 p5 p6 p7 p8 p9 p10 p11 p12 p13 p14 b ao M} (hk : Kn H n (p0 :: p1 :: p2 :: p3 :: p4 :: p5 :: p6 :: p7 :: p8 :: p9 :: p10 :: p11 :: p12 :: p13 :: p14 :: (b, ao) :: M)) : ∀ p ∈ (p0 :: p1 :: p2 :: p3 :: p4 :: p5 :: p6 :: p7 :: p8 :: p9 :: p10 :: p11 :: p12 :: p13 :: p14 :: M), p.1 ≠ b := by
  intro p hp
  rcases List.mem_cons.1 hp with rfl | hp
  · exact Kn.head_ne (c := p.1) (a := p.2) hk (b := b) (ao := ao) (by simp)
  · exact hk.tail.ne14 p hp
theorem Kn.g0 {H n  b ao M} (hk : Kn H n ((b, ao) :: M)) : H.get b = some ao := (hk.mem (by simp)).2
theorem Kn.at0 {H n  b o c op M} {K : List SV → Prop} (hk : Kn H n ((b, .cells c op) :: M)) (k : K (c.drop o)) : St.at ⟨i, H, n⟩ (.new b) o K := Kn.atG hk.g0 k
theorem Kn.s0 {H n  b ao M} (hk : Kn H n ((b, ao) :: M)) (ao' : AO) : setM ((b, ao) :: M) b ao' = (b, ao') :: M := by
  exact hk.setM_head ao'
theorem Kn.wr0 {H n  b o c op new M} {K : St → Prop} (hk : Kn H n ((b, .cells c op) :: M)) (hle : Nat.ble (o + new.length) c.length = true) (k : ∀ H', Kn H' n ((b, .cells (c.take o ++ (new ++ c.drop (o + new.length))) op) :: M) → K ⟨i, H', n⟩) : St.wr ⟨i, H, n⟩ (.new b) o new K :=
  hk.wrG hk.g0 hle fun H' h => k H' (by rw [hk.s0] at h; exact h)
theorem Kn.lk0 {P H n  b es clk M kt z key r} {K : V1 → Bool → Prop} (hk : Kn H n ((b, .map es clk) :: M)) (hr : findA P kt key es 0 = some r) (k : K ((r.map (·.2)).getD z) (r.map (·.2)).isSome) : St.lookup P ⟨i, H, n⟩ kt z (.mk (.new b)) key K := Kn.lookupG hk.g0 hr k
theorem Kn.mn0 {P H n  b es clk M kt key x} {K : St → Prop} (hk : Kn H n ((b, .map es clk) :: M)) (hr : findA P kt key es 0 = some none) (k : ∀ H', Kn H' n ((b, .map (es ++ [(key, x, clk)]) (clk + 1)) :: M) → K ⟨i, H', n⟩) : St.mput P ⟨i, H, n⟩ kt (.mk (.new b)) key x K :=
  hk.mputNewG hk.g0 hr fun H' h => k H' (by rw [hk.s0] at h; exact h)
theorem Kn.mo0 {P H n  b es clk M kt key x j y} {K : St → Prop} (hk : Kn H n ((b, .map es clk) :: M)) (hr : findA P kt key es 0 = some (some (j, y))) (hkey : keyAt es j key = true) (k : ∀ H', Kn H' n ((b, .map (es.set j (key, x, (es.getD j (key, x, 0)).2.2)) clk) :: M) → K ⟨i, H', n⟩) : St.mput P ⟨i, H, n⟩ kt (.mk (.new b)) key x K :=
  hk.mputOldG hk.g0 hr hkey fun H' h => k H' (by rw [hk.s0] at h; exact h)
theorem Kn.md0 {P H n  b es clk M kt key r} {K : St → Prop} (hk : Kn H n ((b, .map es clk) :: M)) (hr : findA P kt key es 0 = some r) (k : ∀ H', Kn H' n ((b, .map (delE es r) clk) :: M) → K ⟨i, H', n⟩) : St.mdel P ⟨i, H, n⟩ kt (.mk (.new b)) key K :=
  hk.mdelG hk.g0 hr fun H' h => k H' (by rw [hk.s0] at h; exact h)
theorem Kn.sr0 {H n  b o m cc c op M z} {K : List SV → Nat → Prop} (hk : Kn H n ((b, .cells c op) :: M)) (hle : Nat.ble (o + m * z) c.length = true) (k : K ((c.drop o).take (m * z)) m) : St.src ⟨i, H, n⟩ z (.mk (.new b) o m cc) K := Kn.srcG hk.g0 hle k
theorem Kn.ag0 {H n  b o len m l op M} {e : TypeId} {z by_ : Nat} {new : List SV} {K : LV → St → Prop} (hk : Kn H n ((b, .cells l op) :: M)) (hm : Nat.beq m 0 = false) (hf : fits by_ (len + m) = true) (hop : op.b = true) (hl : o + len * z = l.length) (hlt : Nat.ble (o + (len + m) * z) l.length = false)
    (k : ∀ H', Kn H' (n + 1) ((n, .cells (l.drop o ++ new) (growOp op o e)) :: M) → K (.mk (.new n) 0 (len + m) (.inr z)) ⟨i, H', n + 1⟩) : St.app ⟨i, H, n⟩ e z by_ (.mk (.new b) o len (.inr z)) new m K :=
  hk.appGro hk.g0 (hk.ne0) (by repeat (first | exact List.sublist_cons_self _ _ | refine List.Sublist.cons_cons _ ?_)) hm hf hop hl hlt k
theorem Kn.g1 {H n p0 b ao M} (hk : Kn H n (p0 :: (b, ao) :: M)) : H.get b = some ao := (hk.mem (by simp)).2
theorem Kn.at1 {H n p0 b o c op M} {K : List SV → Prop} (hk : Kn H n (p0 :: (b, .cells c op) :: M)) (k : K (c.drop o)) : St.at ⟨i, H, n⟩ (.new b) o K := Kn.atG hk.g1 k
theorem Kn.s1 {H n p0 b ao M} (hk : Kn H n (p0 :: (b, ao) :: M)) (ao' : AO) : setM (p0 :: (b, ao) :: M) b ao' = p0 :: (b, ao') :: M := by
  obtain ⟨c, a⟩ := p0
  rw [setM_ne (hk.head_ne (b := b) (ao := ao) (by simp)), hk.tail.s0 ao']
theorem Kn.wr1 {H n p0 b o c op new M} {K : St → Prop} (hk : Kn H n (p0 :: (b, .cells c op) :: M)) (hle : Nat.ble (o + new.length) c.length = true) (k : ∀ H', Kn H' n (p0 :: (b, .cells (c.take o ++ (new ++ c.drop (o + new.length))) op) :: M) → K ⟨i, H', n⟩) : St.wr ⟨i, H, n⟩ (.new b) o new K :=
  hk.wrG hk.g1 hle fun H' h => k H' (by rw [hk.s1] at h; exact h)
theorem Kn.lk1 {P H n p0 b es clk M kt z key r} {K : V1 → Bool → Prop} (hk : Kn H n (p0 :: (b, .map es clk) :: M)) (hr : findA P kt key es 0 = some r) (k : K ((r.map (·.2)).getD z) (r.map (·.2)).isSome) : St.lookup P ⟨i, H, n⟩ kt z (.mk (.new b)) key K := Kn.lookupG hk.g1 hr k
theorem Kn.mn1 {P H n p0 b es clk M kt key x} {K : St → Prop} (hk : Kn H n (p0 :: (b, .map es clk) :: M)) (hr : findA P kt key es 0 = some none) (k : ∀ H', Kn H' n (p0 :: (b, .map (es ++ [(key, x, clk)]) (clk + 1)) :: M) → K ⟨i, H', n⟩) : St.mput P ⟨i, H, n⟩ kt (.mk (.new b)) key x K :=
  hk.mputNewG hk.g1 hr fun H' h => k H' (by rw [hk.s1] at h; exact h)
theorem Kn.mo1 {P H n p0 b es clk M kt key x j y} {K : St → Prop} (hk : Kn H n (p0 :: (b, .map es clk) :: M)) (hr : findA P kt key es 0 = some (some (j, y))) (hkey : keyAt es j key = true) (k : ∀ H', Kn H' n (p0 :: (b, .map (es.set j (key, x, (es.getD j (key, x, 0)).2.2)) clk) :: M) → K ⟨i, H', n⟩) : St.mput P ⟨i, H, n⟩ kt (.mk (.new b)) key x K :=
  hk.mputOldG hk.g1 hr hkey fun H' h => k H' (by rw [hk.s1] at h; exact h)
theorem Kn.md1 {P H n p0 b es clk M kt key r} {K : St → Prop} (hk : Kn H n (p0 :: (b, .map es clk) :: M)) (hr : findA P kt key es 0 = some r) (k : ∀ H', Kn H' n (p0 :: (b, .map (delE es r) clk) :: M) → K ⟨i, H', n⟩) : St.mdel P ⟨i, H, n⟩ kt (.mk (.new b)) key K :=
  hk.mdelG hk.g1 hr fun H' h => k H' (by rw [hk.s1] at h; exact h)
theorem Kn.sr1 {H n p0 b o m cc c op M z} {K : List SV → Nat → Prop} (hk : Kn H n (p0 :: (b, .cells c op) :: M)) (hle : Nat.ble (o + m * z) c.length = true) (k : K ((c.drop o).take (m * z)) m) : St.src ⟨i, H, n⟩ z (.mk (.new b) o m cc) K := Kn.srcG hk.g1 hle k
theorem Kn.ag1 {H n p0 b o len m l op M} {e : TypeId} {z by_ : Nat} {new : List SV} {K : LV → St → Prop} (hk : Kn H n (p0 :: (b, .cells l op) :: M)) (hm : Nat.beq m 0 = false) (hf : fits by_ (len + m) = true) (hop : op.b = true) (hl : o + len * z = l.length) (hlt : Nat.ble (o + (len + m) * z) l.length = false)
    (k : ∀ H', Kn H' (n + 1) ((n, .cells (l.drop o ++ new) (growOp op o e)) :: p0 :: M) → K (.mk (.new n) 0 (len + m) (.inr z)) ⟨i, H', n + 1⟩) : St.app ⟨i, H, n⟩ e z by_ (.mk (.new b) o len (.inr z)) new m K :=
  hk.appGro hk.g1 (hk.ne1) (by repeat (first | exact List.sublist_cons_self _ _ | refine List.Sublist.cons_cons _ ?_)) hm hf hop hl hlt k
theorem Kn.g2 {H n p0 p1 b ao M} (hk : Kn H n (p0 :: p1 :: (b, ao) :: M)) : H.get b = some ao := (hk.mem (by simp)).2
theorem Kn.at2 {H n p0 p1 b o c op M} {K : List SV → Prop} (hk : Kn H n (p0 :: p1 :: (b, .cells c op) :: M)) (k : K (c.drop o)) : St.at ⟨i, H, n⟩ (.new b) o K := Kn.atG hk.g2 k
theorem Kn.s2 {H n p0 p1 b ao M} (hk : Kn H n (p0 :: p1 :: (b, ao) :: M)) (ao' : AO) : setM (p0 :: p1 :: (b, ao) :: M) b ao' = p0 :: p1 :: (b, ao') :: M := by
  obtain ⟨c, a⟩ := p0
  rw [setM_ne (hk.head_ne (b := b) (ao := ao) (by simp)), hk.tail.s1 ao']
theorem Kn.wr2 {H n p0 p1 b o c op new M} {K : St → Prop} (hk : Kn H n (p0 :: p1 :: (b, .cells c op) :: M)) (hle : Nat.ble (o + new.length) c.length = true) (k : ∀ H', Kn H' n (p0 :: p1 :: (b, .cells (c.take o ++ (new ++ c.drop (o + new.length))) op) :: M) → K ⟨i, H', n⟩) : St.wr ⟨i, H, n⟩ (.new b) o new K :=
  hk.wrG hk.g2 hle fun H' h => k H' (by rw [hk.s2] at h; exact h)
theorem Kn.lk2 {P H n p0 p1 b es clk M kt z key r} {K : V1 → Bool → Prop} (hk : Kn H n (p0 :: p1 :: (b, .map es clk) :: M)) (hr : findA P kt key es 0 = some r) (k : K ((r.map (·.2)).getD z) (r.map (·.2)).isSome) : St.lookup P ⟨i, H, n⟩ kt z (.mk (.new b)) key K := Kn.lookupG hk.g2 hr k
theorem Kn.mn2 {P H n p0 p1 b es clk M kt key x} {K : St → Prop} (hk : Kn H n (p0 :: p1 :: (b, .map es clk) :: M)) (hr : findA P kt key es 0 = some none) (k : ∀ H', Kn H' n (p0 :: p1 :: (b, .map (es ++ [(key, x, clk)]) (clk + 1)) :: M) → K ⟨i, H', n⟩) : St.mput P ⟨i, H, n⟩ kt (.mk (.new b)) key x K :=
  hk.mputNewG hk.g2 hr fun H' h => k H' (by rw [hk.s2] at h; exact h)
theorem Kn.mo2 {P H n p0 p1 b es clk M kt key x j y} {K : St → Prop} (hk : Kn H n (p0 :: p1 :: (b, .map es clk) :: M)) (hr : findA P kt key es 0 = some (some (j, y))) (hkey : keyAt es j key = true) (k : ∀ H', Kn H' n (p0 :: p1 :: (b, .map (es.set j (key, x, (es.getD j (key, x, 0)).2.2)) clk) :: M) → K ⟨i, H', n⟩) : St.mput P ⟨i, H, n⟩ kt (.mk (.new b)) key x K :=
  hk.mputOldG hk.g2 hr hkey fun H' h => k H' (by rw [hk.s2] at h; exact h)
theorem Kn.md2 {P H n p0 p1 b es clk M kt key r} {K : St → Prop} (hk : Kn H n (p0 :: p1 :: (b, .map es clk) :: M)) (hr : findA P kt key es 0 = some r) (k : ∀ H', Kn H' n (p0 :: p1 :: (b, .map (delE es r) clk) :: M) → K ⟨i, H', n⟩) : St.mdel P ⟨i, H, n⟩ kt (.mk (.new b)) key K :=
  hk.mdelG hk.g2 hr fun H' h => k H' (by rw [hk.s2] at h; exact h)
theorem Kn.sr2 {H n p0 p1 b o m cc c op M z} {K : List SV → Nat → Prop} (hk : Kn H n (p0 :: p1 :: (b, .cells c op) :: M)) (hle : Nat.ble (o + m * z) c.length = true) (k : K ((c.drop o).take (m * z)) m) : St.src ⟨i, H, n⟩ z (.mk (.new b) o m cc) K := Kn.srcG hk.g2 hle k
theorem Kn.ag2 {H n p0 p1 b o len m l op M} {e : TypeId} {z by_ : Nat} {new : List SV} {K : LV → St → Prop} (hk : Kn H n (p0 :: p1 :: (b, .cells l op) :: M)) (hm : Nat.beq m 0 = false) (hf : fits by_ (len + m) = true) (hop : op.b = true) (hl : o + len * z = l.length) (hlt : Nat.ble (o + (len + m) * z) l.length = false)
    (k : ∀ H', Kn H' (n + 1) ((n, .cells (l.drop o ++ new) (growOp op o e)) :: p0 :: p1 :: M) → K (.mk (.new n) 0 (len + m) (.inr z)) ⟨i, H', n + 1⟩) : St.app ⟨i, H, n⟩ e z by_ (.mk (.new b) o len (.inr z)) new m K :=
  hk.appGro hk.g2 (hk.ne2) (by repeat (first | exact List.sublist_cons_self _ _ | refine List.Sublist.cons_cons _ ?_)) hm hf hop hl hlt k
theorem Kn.g3 {H n p0 p1 p2 b ao M} (hk : Kn H n (p0 :: p1 :: p2 :: (b, ao) :: M)) : H.get b = some ao := (hk.mem (by simp)).2
theorem Kn.at3 {H n p0 p1 p2 b o c op M} {K : List SV → Prop} (hk : Kn H n (p0 :: p1 :: p2 :: (b, .cells c op) :: M)) (k : K (c.drop o)) : St.at ⟨i, H, n⟩ (.new b) o K := Kn.atG hk.g3 k
theorem Kn.s3 {H n p0 p1 p2 b ao M} (hk : Kn H n (p0 :: p1 :: p2 :: (b, ao) :: M)) (ao' : AO) : setM (p0 :: p1 :: p2 :: (b, ao) :: M) b ao' = p0 :: p1 :: p2 :: (b, ao') :: M := by
  obtain ⟨c, a⟩ := p0
  rw [setM_ne (hk.head_ne (b := b) (ao := ao) (by simp)), hk.tail.s2 ao']
theorem Kn.wr3 {H n p0 p1 p2 b o c op new M} {K : St → Prop} (hk : Kn H n (p0 :: p1 :: p2 :: (b, .cells c op) :: M)) (hle : Nat.ble (o + new.length) c.length = true) (k : ∀ H', Kn H' n (p0 :: p1 :: p2 :: (b, .cells (c.take o ++ (new ++ c.drop (o + new.length))) op) :: M) → K ⟨i, H', n⟩) : St.wr ⟨i, H, n⟩ (.new b) o new K :=
  hk.wrG hk.g3 hle fun H' h => k H' (by rw [hk.s3] at h; exact h)
theorem Kn.lk3 {P H n p0 p1 p2 b es clk M kt z key r} {K : V1 → Bool → Prop} (hk : Kn H n (p0 :: p1 :: p2 :: (b, .map es clk) :: M)) (hr : findA P kt key es 0 = some r) (k : K ((r.map (·.2)).getD z) (r.map (·.2)).isSome) : St.lookup P ⟨i, H, n⟩ kt z (.mk (.new b)) key K := Kn.lookupG hk.g3 hr k
theorem Kn.mn3 {P H n p0 p1 p2 b es clk M kt key x} {K : St → Prop} (hk : Kn H n (p0 :: p1 :: p2 :: (b, .map es clk) :: M)) (hr : findA P kt key es 0 = some none) (k : ∀ H', Kn H' n (p0 :: p1 :: p2 :: (b, .map (es ++ [(key, x, clk)]) (clk + 1)) :: M) → K ⟨i, H', n⟩) : St.mput P ⟨i, H, n⟩ kt (.mk (.new b)) key x K :=
  hk.mputNewG hk.g3 hr fun H' h => k H' (by rw [hk.s3] at h; exact h)
theorem Kn.mo3 {P H n p0 p1 p2 b es clk M kt key x j y} {K : St → Prop} (hk : Kn H n (p0 :: p1 :: p2 :: (b, .map es clk) :: M)) (hr : findA P kt key es 0 = some (some (j, y))) (hkey : keyAt es j key = true) (k : ∀ H', Kn H' n (p0 :: p1 :: p2 :: (b, .map (es.set j (key, x, (es.getD j (key, x, 0)).2.2)) clk) :: M) → K ⟨i, H', n⟩) : St.mput P ⟨i, H, n⟩ kt (.mk (.new b)) key x K :=
  hk.mputOldG hk.g3 hr hkey fun H' h => k H' (by rw [hk.s3] at h; exact h)
theorem Kn.md3 {P H n p0 p1 p2 b es clk M kt key r} {K : St → Prop} (hk : Kn H n (p0 :: p1 :: p2 :: (b, .map es clk) :: M)) (hr : findA P kt key es 0 = some r) (k : ∀ H', Kn H' n (p0 :: p1 :: p2 :: (b, .map (delE es r) clk) :: M) → K ⟨i, H', n⟩) : St.mdel P ⟨i, H, n⟩ kt (.mk (.new b)) key K :=
  hk.mdelG hk.g3 hr fun H' h => k H' (by rw [hk.s3] at h; exact h)
theorem Kn.sr3 {H n p0 p1 p2 b o m cc c op M z} {K : List SV → Nat → Prop} (hk : Kn H n (p0 :: p1 :: p2 :: (b, .cells c op) :: M)) (hle : Nat.ble (o + m * z) c.length = true) (k : K ((c.drop o).take (m * z)) m) : St.src ⟨i, H, n⟩ z (.mk (.new b) o m cc) K := Kn.srcG hk.g3 hle k
theorem Kn.ag3 {H n p0 p1 p2 b o len m l op M} {e : TypeId} {z by_ : Nat} {new : List SV} {K : LV → St → Prop} (hk : Kn H n (p0 :: p1 :: p2 :: (b, .cells l op) :: M)) (hm : Nat.beq m 0 = false) (hf : fits by_ (len + m) = true) (hop : op.b = true) (hl : o + len * z = l.length) (hlt : Nat.ble (o + (len + m) * z) l.length = false)
    (k : ∀ H', Kn H' (n + 1) ((n, .cells (l.drop o ++ new) (growOp op o e)) :: p0 :: p1 :: p2 :: M) → K (.mk (.new n) 0 (len + m) (.inr z)) ⟨i, H', n + 1⟩) : St.app ⟨i, H, n⟩ e z by_ (.mk (.new b) o len (.inr z)) new m K :=
  hk.appGro hk.g3 (hk.ne3) (by repeat (first | exact List.sublist_cons_self _ _ | refine List.Sublist.cons_cons _ ?_)) hm hf hop hl hlt k
theorem Kn.g4 {H n p0 p1 p2 p3 b ao M} (hk : Kn H n (p0 :: p1 :: p2 :: p3 :: (b, ao) :: M)) : H.get b = some ao := (hk.mem (by simp)).2
theorem Kn.at4 {H n p0 p1 p2 p3 b o c op M} {K : List SV → Prop} (hk : Kn H n (p0 :: p1 :: p2 :: p3 :: (b, .cells c op) :: M)) (k : K (c.drop o)) : St.at ⟨i, H, n⟩ (.new b) o K := Kn.atG hk.g4 k
theorem Kn.s4 {H n p0 p1 p2 p3 b ao M} (hk : Kn H n (p0 :: p1 :: p2 :: p3 :: (b, ao) :: M)) (ao' : AO) : setM (p0 :: p1 :: p2 :: p3 :: (b, ao) :: M) b ao' = p0 :: p1 :: p2 :: p3 :: (b, ao') :: M := by
  obtain ⟨c, a⟩ := p0
  rw [setM_ne (hk.head_ne (b := b) (ao := ao) (by simp)), hk.tail.s3 ao']
theorem Kn.wr4 {H n p0 p1 p2 p3 b o c op new M} {K : St → Prop} (hk : Kn H n (p0 :: p1 :: p2 :: p3 :: (b, .cells c op) :: M)) (hle : Nat.ble (o + new.length) c.length = true) (k : ∀ H', Kn H' n (p0 :: p1 :: p2 :: p3 :: (b, .cells (c.take o ++ (new ++ c.drop (o + new.length))) op) :: M) → K ⟨i, H', n⟩) : St.wr ⟨i, H, n⟩ (.new b) o new K :=
  hk.wrG hk.g4 hle fun H' h => k H' (by rw [hk.s4] at h; exact h)
theorem Kn.lk4 {P H n p0 p1 p2 p3 b es clk M kt z key r} {K : V1 → Bool → Prop} (hk : Kn H n (p0 :: p1 :: p2 :: p3 :: (b, .map es clk) :: M)) (hr : findA P kt key es 0 = some r) (k : K ((r.map (·.2)).getD z) (r.map (·.2)).isSome) : St.lookup P ⟨i, H, n⟩ kt z (.mk (.new b)) key K := Kn.lookupG hk.g4 hr k
theorem Kn.mn4 {P H n p0 p1 p2 p3 b es clk M kt key x} {K : St → Prop} (hk : Kn H n (p0 :: p1 :: p2 :: p3 :: (b, .map es clk) :: M)) (hr : findA P kt key es 0 = some none) (k : ∀ H', Kn H' n (p0 :: p1 :: p2 :: p3 :: (b, .map (es ++ [(key, x, clk)]) (clk + 1)) :: M) → K ⟨i, H', n⟩) : St.mput P ⟨i, H, n⟩ kt (.mk (.new b)) key x K :=
  hk.mputNewG hk.g4 hr fun H' h => k H' (by rw [hk.s4] at h; exact h)
theorem Kn.mo4 {P H n p0 p1 p2 p3 b es clk M kt key x j y} {K : St → Prop} (hk : Kn H n (p0 :: p1 :: p2 :: p3 :: (b, .map es clk) :: M)) (hr : findA P kt key es 0 = some (some (j, y))) (hkey : keyAt es j key = true) (k : ∀ H', Kn H' n (p0 :: p1 :: p2 :: p3 :: (b, .map (es.set j (key, x, (es.getD j (key, x, 0)).2.2)) clk) :: M) → K ⟨i, H', n⟩) : St.mput P ⟨i, H, n⟩ kt (.mk (.new b)) key x K :=
  hk.mputOldG hk.g4 hr hkey fun H' h => k H' (by rw [hk.s4] at h; exact h)
theorem Kn.md4 {P H n p0 p1 p2 p3 b es clk M kt key r} {K : St → Prop} (hk : Kn H n (p0 :: p1 :: p2 :: p3 :: (b, .map es clk) :: M)) (hr : findA P kt key es 0 = some r) (k : ∀ H', Kn H' n (p0 :: p1 :: p2 :: p3 :: (b, .map (delE es r) clk) :: M) → K ⟨i, H', n⟩) : St.mdel P ⟨i, H, n⟩ kt (.mk (.new b)) key K :=
  hk.mdelG hk.g4 hr fun H' h => k H' (by rw [hk.s4] at h; exact h)
theorem Kn.sr4 {H n p0 p1 p2 p3 b o m cc c op M z} {K : List SV → Nat → Prop} (hk : Kn H n (p0 :: p1 :: p2 :: p3 :: (b, .cells c op) :: M)) (hle : Nat.ble (o + m * z) c.length = true) (k : K ((c.drop o).take (m * z)) m) : St.src ⟨i, H, n⟩ z (.mk (.new b) o m cc) K := Kn.srcG hk.g4 hle k
theorem Kn.ag4 {H n p0 p1 p2 p3 b o len m l op M} {e : TypeId} {z by_ : Nat} {new : List SV} {K : LV → St → Prop} (hk : Kn H n (p0 :: p1 :: p2 :: p3 :: (b, .cells l op) :: M)) (hm : Nat.beq m 0 = false) (hf : fits by_ (len + m) = true) (hop : op.b = true) (hl : o + len * z = l.length) (hlt : Nat.ble (o + (len + m) * z) l.length = false)
    (k : ∀ H', Kn H' (n + 1) ((n, .cells (l.drop o ++ new) (growOp op o e)) :: p0 :: p1 :: p2 :: p3 :: M) → K (.mk (.new n) 0 (len + m) (.inr z)) ⟨i, H', n + 1⟩) : St.app ⟨i, H, n⟩ e z by_ (.mk (.new b) o len (.inr z)) new m K :=
  hk.appGro hk.g4 (hk.ne4) (by repeat (first | exact List.sublist_cons_self _ _ | refine List.Sublist.cons_cons _ ?_)) hm hf hop hl hlt k
theorem Kn.g5 {H n p0 p1 p2 p3 p4 b ao M} (hk : Kn H n (p0 :: p1 :: p2 :: p3 :: p4 :: (b, ao) :: M)) : H.get b = some ao := (hk.mem (by simp)).2
theorem Kn.at5 {H n p0 p1 p2 p3 p4 b o c op M} {K : List SV → Prop} (hk : Kn H n (p0 :: p1 :: p2 :: p3 :: p4 :: (b, .cells c op) :: M)) (k : K (c.drop o)) : St.at ⟨i, H, n⟩ (.new b) o K := Kn.atG hk.g5 k
theorem Kn.s5 {H n p0 p1 p2 p3 p4 b ao M} (hk : Kn H n (p0 :: p1 :: p2 :: p3 :: p4 :: (b, ao) :: M)) (ao' : AO) : setM (p0 :: p1 :: p2 :: p3 :: p4 :: (b, ao) :: M) b ao' = p0 :: p1 :: p2 :: p3 :: p4 :: (b, ao') :: M := by
  obtain ⟨c, a⟩ := p0
  rw [setM_ne (hk.head_ne (b := b) (ao := ao) (by simp)), hk.tail.s4 ao']
theorem Kn.wr5 {H n p0 p1 p2 p3 p4 b o c op new M} {K : St → Prop} (hk : Kn H n (p0 :: p1 :: p2 :: p3 :: p4 :: (b, .cells c op) :: M)) (hle : Nat.ble (o + new.length) c.length = true) (k : ∀ H', Kn H' n (p0 :: p1 :: p2 :: p3 :: p4 :: (b, .cells (c.take o ++ (new ++ c.drop (o + new.length))) op) :: M) → K ⟨i, H', n⟩) : St.wr ⟨i, H, n⟩ (.new b) o new K :=
  hk.wrG hk.g5 hle fun H' h => k H' (by rw [hk.s5] at h; exact h)
theorem Kn.lk5 {P H n p0 p1 p2 p3 p4 b es clk M kt z key r} {K : V1 → Bool → Prop} (hk : Kn H n (p0 :: p1 :: p2 :: p3 :: p4 :: (b, .map es clk) :: M)) (hr : findA P kt key es 0 = some r) (k : K ((r.map (·.2)).getD z) (r.map (·.2)).isSome) : St.lookup P ⟨i, H, n⟩ kt z (.mk (.new b)) key K := Kn.lookupG hk.g5 hr k
theorem Kn.mn5 {P H n p0 p1 p2 p3 p4 b es clk M kt key x} {K : St → Prop} (hk : Kn H n (p0 :: p1 :: p2 :: p3 :: p4 :: (b, .map es clk) :: M)) (hr : findA P kt key es 0 = some none) (k : ∀ H', Kn H' n (p0 :: p1 :: p2 :: p3 :: p4 :: (b, .map (es ++ [(key, x, clk)]) (clk + 1)) :: M) → K ⟨i, H', n⟩) : St.mput P ⟨i, H, n⟩ kt (.mk (.new b)) key x K :=
  hk.mputNewG hk.g5 hr fun H' h => k H' (by rw [hk.s5] at h; exact h)
theorem Kn.mo5 {P H n p0 p1 p2 p3 p4 b es clk M kt key x j y} {K : St → Prop} (hk : Kn H n (p0 :: p1 :: p2 :: p3 :: p4 :: (b, .map es clk) :: M)) (hr : findA P kt key es 0 = some (some (j, y))) (hkey : keyAt es j key = true) (k : ∀ H', Kn H' n (p0 :: p1 :: p2 :: p3 :: p4 :: (b, .map (es.set j (key, x, (es.getD j (key, x, 0)).2.2)) clk) :: M) → K ⟨i, H', n⟩) : St.mput P ⟨i, H, n⟩ kt (.mk (.new b)) key x K :=
  hk.mputOldG hk.g5 hr hkey fun H' h => k H' (by rw [hk.s5] at h; exact h)
theorem Kn.md5 {P H n p0 p1 p2 p3 p4 b es clk M kt key r} {K : St → Prop} (hk : Kn H n (p0 :: p1 :: p2 :: p3 :: p4 :: (b, .map es clk) :: M)) (hr : findA P kt key es 0 = some r) (k : ∀ H', Kn H' n (p0 :: p1 :: p2 :: p3 :: p4 :: (b, .map (delE es r) clk) :: M) → K ⟨i, H', n⟩) : St.mdel P ⟨i, H, n⟩ kt (.mk (.new b)) key K :=
  hk.mdelG hk.g5 hr fun H' h => k H' (by rw [hk.s5] at h; exact h)
theorem Kn.sr5 {H n p0 p1 p2 p3 p4 b o m cc c op M z} {K : List SV → Nat → Prop} (hk : Kn H n (p0 :: p1 :: p2 :: p3 :: p4 :: (b, .cells c op) :: M)) (hle : Nat.ble (o + m * z) c.length = true) (k : K ((c.drop o).take (m * z)) m) : St.src ⟨i, H, n⟩ z (.mk (.new b) o m cc) K := Kn.srcG hk.g5 hle k
theorem Kn.ag5 {H n p0 p1 p2 p3 p4 b o len m l op M} {e : TypeId} {z by_ : Nat} {new : List SV} {K : LV → St → Prop} (hk : Kn H n (p0 :: p1 :: p2 :: p3 :: p4 :: (b, .cells l op) :: M)) (hm : Nat.beq m 0 = false) (hf : fits by_ (len + m) = true) (hop : op.b = true) (hl : o + len * z = l.length) (hlt : Nat.ble (o + (len + m) * z) l.length = false)
    (k : ∀ H', Kn H' (n + 1) ((n, .cells (l.drop o ++ new) (growOp op o e)) :: p0 :: p1 :: p2 :: p3 :: p4 :: M) → K (.mk (.new n) 0 (len + m) (.inr z)) ⟨i, H', n + 1⟩) : St.app ⟨i, H, n⟩ e z by_ (.mk (.new b) o len (.inr z)) new m K :=
  hk.appGro hk.g5 (hk.ne5) (by repeat (first | exact List.sublist_cons_self _ _ | refine List.Sublist.cons_cons _ ?_)) hm hf hop hl hlt k
theorem Kn.g6 {H n p0 p1 p2 p3 p4 p5 b ao M} (hk : Kn H n (p0 :: p1 :: p2 :: p3 :: p4 :: p5 :: (b, ao) :: M)) : H.get b = some ao := (hk.mem (by simp)).2
theorem Kn.at6 {H n p0 p1 p2 p3 p4 p5 b o c op M} {K : List SV → Prop} (hk : Kn H n (p0 :: p1 :: p2 :: p3 :: p4 :: p5 :: (b, .cells c op) :: M)) (k : K (c.drop o)) : St.at ⟨i, H, n⟩ (.new b) o K := Kn.atG hk.g6 k
theorem Kn.s6 {H n p0 p1 p2 p3 p4 p5 b ao M} (hk : Kn H n (p0 :: p1 :: p2 :: p3 :: p4 :: p5 :: (b, ao) :: M)) (ao' : AO) : setM (p0 :: p1 :: p2 :: p3 :: p4 :: p5 :: (b, ao) :: M) b ao' = p0 :: p1 :: p2 :: p3 :: p4 :: p5 :: (b, ao') :: M := by
  obtain ⟨c, a⟩ := p0
  rw [setM_ne (hk.head_ne (b := b) (ao := ao) (by simp)), hk.tail.s5 ao']
theorem Kn.wr6 {H n p0 p1 p2 p3 p4 p5 b o c op new M} {K : St → Prop} (hk : Kn H n (p0 :: p1 :: p2 :: p3 :: p4 :: p5 :: (b, .cells c op) :: M)) (hle : Nat.ble (o + new.length) c.length = true) (k : ∀ H', Kn H' n (p0 :: p1 :: p2 :: p3 :: p4 :: p5 :: (b, .cells (c.take o ++ (new ++ c.drop (o + new.length))) op) :: M) → K ⟨i, H', n⟩) : St.wr ⟨i, H, n⟩ (.new b) o new K :=
  hk.wrG hk.g6 hle fun H' h => k H' (by rw [hk.s6] at h; exact h)
theorem Kn.lk6 {P H n p0 p1 p2 p3 p4 p5 b es clk M kt z key r} {K : V1 → Bool → Prop} (hk : Kn H n (p0 :: p1 :: p2 :: p3 :: p4 :: p5 :: (b, .map es clk) :: M)) (hr : findA P kt key es 0 = some r) (k : K ((r.map (·.2)).getD z) (r.map (·.2)).isSome) : St.lookup P ⟨i, H, n⟩ kt z (.mk (.new b)) key K := Kn.lookupG hk.g6 hr k
theorem Kn.mn6 {P H n p0 p1 p2 p3 p4 p5 b es clk M kt key x} {K : St → Prop} (hk : Kn H n (p0 :: p1 :: p2 :: p3 :: p4 :: p5 :: (b, .map es clk) :: M)) (hr : findA P kt key es 0 = some none) (k : ∀ H', Kn H' n (p0 :: p1 :: p2 :: p3 :: p4 :: p5 :: (b, .map (es ++ [(key, x, clk)]) (clk + 1)) :: M) → K ⟨i, H', n⟩) : St.mput P ⟨i, H, n⟩ kt (.mk (.new b)) key x K :=
  hk.mputNewG hk.g6 hr fun H' h => k H' (by rw [hk.s6] at h; exact h)
theorem Kn.mo6 {P H n p0 p1 p2 p3 p4 p5 b es clk M kt key x j y} {K : St → Prop} (hk : Kn H n (p0 :: p1 :: p2 :: p3 :: p4 :: p5 :: (b, .map es clk) :: M)) (hr : findA P kt key es 0 = some (some (j, y))) (hkey : keyAt es j key = true) (k : ∀ H', Kn H' n (p0 :: p1 :: p2 :: p3 :: p4 :: p5 :: (b, .map (es.set j (key, x, (es.getD j (key, x, 0)).2.2)) clk) :: M) → K ⟨i, H', n⟩) : St.mput P ⟨i, H, n⟩ kt (.mk (.new b)) key x K :=
  hk.mputOldG hk.g6 hr hkey fun H' h => k H' (by rw [hk.s6] at h; exact h)
theorem Kn.md6 {P H n p0 p1 p2 p3 p4 p5 b es clk M kt key r} {K : St → Prop} (hk : Kn H n (p0 :: p1 :: p2 :: p3 :: p4 :: p5 :: (b, .map es clk) :: M)) (hr : findA P kt key es 0 = some r) (k : ∀ H', Kn H' n (p0 :: p1 :: p2 :: p3 :: p4 :: p5 :: (b, .map (delE es r) clk) :: M) → K ⟨i, H', n⟩) : St.mdel P ⟨i, H, n⟩ kt (.mk (.new b)) key K :=
  hk.mdelG hk.g6 hr fun H' h => k H' (by rw [hk.s6] at h; exact h)
theorem Kn.sr6 {H n p0 p1 p2 p3 p4 p5 b o m cc c op M z} {K : List SV → Nat → Prop} (hk : Kn H n (p0 :: p1 :: p2 :: p3 :: p4 :: p5 :: (b, .cells c op) :: M)) (hle : Nat.ble (o + m * z) c.length = true) (k : K ((c.drop o).take (m * z)) m) : St.src ⟨i, H, n⟩ z (.mk (.new b) o m cc) K := Kn.srcG hk.g6 hle k
theorem Kn.ag6 {H n p0 p1 p2 p3 p4 p5 b o len m l op M} {e : TypeId} {z by_ : Nat} {new : List SV} {K : LV → St → Prop} (hk : Kn H n (p0 :: p1 :: p2 :: p3 :: p4 :: p5 :: (b, .cells l op) :: M)) (hm : Nat.beq m 0 = false) (hf : fits by_ (len + m) = true) (hop : op.b = true) (hl : o + len * z = l.length) (hlt : Nat.ble (o + (len + m) * z) l.length = false)
    (k : ∀ H', Kn H' (n + 1) ((n, .cells (l.drop o ++ new) (growOp op o e)) :: p0 :: p1 :: p2 :: p3 :: p4 :: p5 :: M) → K (.mk (.new n) 0 (len + m) (.inr z)) ⟨i, H', n + 1⟩) : St.app ⟨i, H, n⟩ e z by_ (.mk (.new b) o len (.inr z)) new m K :=
  hk.appGro hk.g6 (hk.ne6) (by repeat (first | exact List.sublist_cons_self _ _ | refine List.Sublist.cons_cons _ ?_)) hm hf hop hl hlt k
theorem Kn.g7 {H n p0 p1 p2 p3 p4 p5 p6 b ao M} (hk : Kn H n (p0 :: p1 :: p2 :: p3 :: p4 :: p5 :: p6 :: (b, ao) :: M)) : H.get b = some ao := (hk.mem (by simp)).2
theorem Kn.at7 {H n p0 p1 p2 p3 p4 p5 p6 b o c op M} {K : List SV → Prop} (hk : Kn H n (p0 :: p1 :: p2 :: p3 :: p4 :: p5 :: p6 :: (b, .cells c op) :: M)) (k : K (c.drop o)) : St.at ⟨i, H, n⟩ (.new b) o K := Kn.atG hk.g7 k
theorem Kn.s7 {H n p0 p1 p2 p3 p4 p5 p6 b ao M} (hk : Kn H n (p0 :: p1 :: p2 :: p3 :: p4 :: p5 :: p6 :: (b, ao) :: M)) (ao' : AO) : setM (p0 :: p1 :: p2 :: p3 :: p4 :: p5 :: p6 :: (b, ao) :: M) b ao' = p0 :: p1 :: p2 :: p3 :: p4 :: p5 :: p6 :: (b, ao') :: M := by
  obtain ⟨c, a⟩ := p0
  rw [setM_ne (hk.head_ne (b := b) (ao := ao) (by simp)), hk.tail.s6 ao']
theorem Kn.wr7 {H n p0 p1 p2 p3 p4 p5 p6 b o c op new M} {K : St → Prop} (hk : Kn H n (p0 :: p1 :: p2 :: p3 :: p4 :: p5 :: p6 :: (b, .cells c op) :: M)) (hle : Nat.ble (o + new.length) c.length = true) (k : ∀ H', Kn H' n (p0 :: p1 :: p2 :: p3 :: p4 :: p5 :: p6 :: (b, .cells (c.take o ++ (new ++ c.drop (o + new.length))) op) :: M) → K ⟨i, H', n⟩) : St.wr ⟨i, H, n⟩ (.new b) o new K :=
  hk.wrG hk.g7 hle fun H' h => k H' (by rw [hk.s7] at h; exact h)
theorem Kn.lk7 {P H n p0 p1 p2 p3 p4 p5 p6 b es clk M kt z key r} {K : V1 → Bool → Prop} (hk : Kn H n (p0 :: p1 :: p2 :: p3 :: p4 :: p5 :: p6 :: (b, .map es clk) :: M)) (hr : findA P kt key es 0 = some r) (k : K ((r.map (·.2)).getD z) (r.map (·.2)).isSome) : St.lookup P ⟨i, H, n⟩ kt z (.mk (.new b)) key K := Kn.lookupG hk.g7 hr k
theorem Kn.mn7 {P H n p0 p1 p2 p3 p4 p5 p6 b es clk M kt key x} {K : St → Prop} (hk : Kn H n (p0 :: p1 :: p2 :: p3 :: p4 :: p5 :: p6 :: (b, .map es clk) :: M)) (hr : findA P kt key es 0 = some none) (k : ∀ H', Kn H' n (p0 :: p1 :: p2 :: p3 :: p4 :: p5 :: p6 :: (b, .map (es ++ [(key, x, clk)]) (clk + 1)) :: M) → K ⟨i, H', n⟩) : St.mput P ⟨i, H, n⟩ kt (.mk (.new b)) key x K :=
  hk.mputNewG hk.g7 hr fun H' h => k H' (by rw [hk.s7] at h; exact h)
theorem Kn.mo7 {P H n p0 p1 p2 p3 p4 p5 p6 b es clk M kt key x j y} {K : St → Prop} (hk : Kn H n (p0 :: p1 :: p2 :: p3 :: p4 :: p5 :: p6 :: (b, .map es clk) :: M)) (hr : findA P kt key es 0 = some (some (j, y))) (hkey : keyAt es j key = true) (k : ∀ H', Kn H' n (p0 :: p1 :: p2 :: p3 :: p4 :: p5 :: p6 :: (b, .map (es.set j (key, x, (es.getD j (key, x, 0)).2.2)) clk) :: M) → K ⟨i, H', n⟩) : St.mput P ⟨i, H, n⟩ kt (.mk (.new b)) key x K :=
  hk.mputOldG hk.g7 hr hkey fun H' h => k H' (by rw [hk.s7] at h; exact h)
theorem Kn.md7 {P H n p0 p1 p2 p3 p4 p5 p6 b es clk M kt key r} {K : St → Prop} (hk : Kn H n (p0 :: p1 :: p2 :: p3 :: p4 :: p5 :: p6 :: (b, .map es clk) :: M)) (hr : findA P kt key es 0 = some r) (k : ∀ H', Kn H' n (p0 :: p1 :: p2 :: p3 :: p4 :: p5 :: p6 :: (b, .map (delE es r) clk) :: M) → K ⟨i, H', n⟩) : St.mdel P ⟨i, H, n⟩ kt (.mk (.new b)) key K :=
  hk.mdelG hk.g7 hr fun H' h => k H' (by rw [hk.s7] at h; exact h)
theorem Kn.sr7 {H n p0 p1 p2 p3 p4 p5 p6 b o m cc c op M z} {K : List SV → Nat → Prop} (hk : Kn H n (p0 :: p1 :: p2 :: p3 :: p4 :: p5 :: p6 :: (b, .cells c op) :: M)) (hle : Nat.ble (o + m * z) c.length = true) (k : K ((c.drop o).take (m * z)) m) : St.src ⟨i, H, n⟩ z (.mk (.new b) o m cc) K := Kn.srcG hk.g7 hle k
theorem Kn.ag7 {H n p0 p1 p2 p3 p4 p5 p6 b o len m l op M} {e : TypeId} {z by_ : Nat} {new : List SV} {K : LV → St → Prop} (hk : Kn H n (p0 :: p1 :: p2 :: p3 :: p4 :: p5 :: p6 :: (b, .cells l op) :: M)) (hm : Nat.beq m 0 = false) (hf : fits by_ (len + m) = true) (hop : op.b = true) (hl : o + len * z = l.length) (hlt : Nat.ble (o + (len + m) * z) l.length = false)
    (k : ∀ H', Kn H' (n + 1) ((n, .cells (l.drop o ++ new) (growOp op o e)) :: p0 :: p1 :: p2 :: p3 :: p4 :: p5 :: p6 :: M) → K (.mk (.new n) 0 (len + m) (.inr z)) ⟨i, H', n + 1⟩) : St.app ⟨i, H, n⟩ e z by_ (.mk (.new b) o len (.inr z)) new m K :=
  hk.appGro hk.g7 (hk.ne7) (by repeat (first | exact List.sublist_cons_self _ _ | refine List.Sublist.cons_cons _ ?_)) hm hf hop hl hlt k
theorem Kn.g8 {H n p0 p1 p2 p3 p4 p5 p6 p7 b ao M} (hk : Kn H n (p0 :: p1 :: p2 :: p3 :: p4 :: p5 :: p6 :: p7 :: (b, ao) :: M)) : H.get b = some ao := (hk.mem (by simp)).2
theorem Kn.at8 {H n p0 p1 p2 p3 p4 p5 p6 p7 b o c op M} {K : List SV → Prop} (hk : Kn H n (p0 :: p1 :: p2 :: p3 :: p4 :: p5 :: p6 :: p7 :: (b, .cells c op) :: M)) (k : K (c.drop o)) : St.at ⟨i, H, n⟩ (.new b) o K := Kn.atG hk.g8 k
theorem Kn.s8 {H n p0 p1 p2 p3 p4 p5 p6 p7 b ao M} (hk : Kn H n (p0 :: p1 :: p2 :: p3 :: p4 :: p5 :: p6 :: p7 :: (b, ao) :: M)) (ao' : AO) : setM (p0 :: p1 :: p2 :: p3 :: p4 :: p5 :: p6 :: p7 :: (b, ao) :: M) b ao' = p0 :: p1 :: p2 :: p3 :: p4 :: p5 :: p6 :: p7 :: (b, ao') :: M := by
  obtain ⟨c, a⟩ := p0
  rw [setM_ne (hk.head_ne (b := b) (ao := ao) (by simp)), hk.tail.s7 ao']
theorem Kn.wr8 {H n p0 p1 p2 p3 p4 p5 p6 p7 b o c op new M} {K : St → Prop} (hk : Kn H n (p0 :: p1 :: p2 :: p3 :: p4 :: p5 :: p6 :: p7 :: (b, .cells c op) :: M)) (hle : Nat.ble (o + new.length) c.length = true) (k : ∀ H', Kn H' n (p0 :: p1 :: p2 :: p3 :: p4 :: p5 :: p6 :: p7 :: (b, .cells (c.take o ++ (new ++ c.drop (o + new.length))) op) :: M) → K ⟨i, H', n⟩) : St.wr ⟨i, H, n⟩ (.new b) o new K :=
  hk.wrG hk.g8 hle fun H' h => k H' (by rw [hk.s8] at h; exact h)
theorem Kn.lk8 {P H n p0 p1 p2 p3 p4 p5 p6 p7 b es clk M kt z key r} {K : V1 → Bool → Prop} (hk : Kn H n (p0 :: p1 :: p2 :: p3 :: p4 :: p5 :: p6 :: p7 :: (b, .map es clk) :: M)) (hr : findA P kt key es 0 = some r) (k : K ((r.map (·.2)).getD z) (r.map (·.2)).isSome) : St.lookup P ⟨i, H, n⟩ kt z (.mk (.new b)) key K := Kn.lookupG hk.g8 hr k
theorem Kn.mn8 {P H n p0 p1 p2 p3 p4 p5 p6 p7 b es clk M kt key x} {K : St → Prop} (hk : Kn H n (p0 :: p1 :: p2 :: p3 :: p4 :: p5 :: p6 :: p7 :: (b, .map es clk) :: M)) (hr : findA P kt key es 0 = some none) (k : ∀ H', Kn H' n (p0 :: p1 :: p2 :: p3 :: p4 :: p5 :: p6 :: p7 :: (b, .map (es ++ [(key, x, clk)]) (clk + 1)) :: M) → K ⟨i, H', n⟩) : St.mput P ⟨i, H, n⟩ kt (.mk (.new b)) key x K :=
  hk.mputNewG hk.g8 hr fun H' h => k H' (by rw [hk.s8] at h; exact h)
theorem Kn.mo8 {P H n p0 p1 p2 p3 p4 p5 p6 p7 b es clk M kt key x j y} {K : St → Prop} (hk : Kn H n (p0 :: p1 :: p2 :: p3 :: p4 :: p5 :: p6 :: p7 :: (b, .map es clk) :: M)) (hr : findA P kt key es 0 = some (some (j, y))) (hkey : keyAt es j key = true) (k : ∀ H', Kn H' n (p0 :: p1 :: p2 :: p3 :: p4 :: p5 :: p6 :: p7 :: (b, .map (es.set j (key, x, (es.getD j (key, x, 0)).2.2)) clk) :: M) → K ⟨i, H', n⟩) : St.mput P ⟨i, H, n⟩ kt (.mk (.new b)) key x K :=
  hk.mputOldG hk.g8 hr hkey fun H' h => k H' (by rw [hk.s8] at h; exact h)
theorem Kn.md8 {P H n p0 p1 p2 p3 p4 p5 p6 p7 b es clk M kt key r} {K : St → Prop} (hk : Kn H n (p0 :: p1 :: p2 :: p3 :: p4 :: p5 :: p6 :: p7 :: (b, .map es clk) :: M)) (hr : findA P kt key es 0 = some r) (k : ∀ H', Kn H' n (p0 :: p1 :: p2 :: p3 :: p4 :: p5 :: p6 :: p7 :: (b, .map (delE es r) clk) :: M) → K ⟨i, H', n⟩) : St.mdel P ⟨i, H, n⟩ kt (.mk (.new b)) key K :=
  hk.mdelG hk.g8 hr fun H' h => k H' (by rw [hk.s8] at h; exact h)
theorem Kn.sr8 {H n p0 p1 p2 p3 p4 p5 p6 p7 b o m cc c op M z} {K : List SV → Nat → Prop} (hk : Kn H n (p0 :: p1 :: p2 :: p3 :: p4 :: p5 :: p6 :: p7 :: (b, .cells c op) :: M)) (hle : Nat.ble (o + m * z) c.length = true) (k : K ((c.drop o).take (m * z)) m) : St.src ⟨i, H, n⟩ z (.mk (.new b) o m cc) K := Kn.srcG hk.g8 hle k
theorem Kn.ag8 {H n p0 p1 p2 p3 p4 p5 p6 p7 b o len m l op M} {e : TypeId} {z by_ : Nat} {new : List SV} {K : LV → St → Prop} (hk : Kn H n (p0 :: p1 :: p2 :: p3 :: p4 :: p5 :: p6 :: p7 :: (b, .cells l op) :: M)) (hm : Nat.beq m 0 = false) (hf : fits by_ (len + m) = true) (hop : op.b = true) (hl : o + len * z = l.length) (hlt : Nat.ble (o + (len + m) * z) l.length = false)
    (k : ∀ H', Kn H' (n + 1) ((n, .cells (l.drop o ++ new) (growOp op o e)) :: p0 :: p1 :: p2 :: p3 :: p4 :: p5 :: p6 :: p7 :: M) → K (.mk (.new n) 0 (len + m) (.inr z)) ⟨i, H', n + 1⟩) : St.app ⟨i, H, n⟩ e z by_ (.mk (.new b) o len (.inr z)) new m K :=
  hk.appGro hk.g8 (hk.ne8) (by repeat (first | exact List.sublist_cons_self _ _ | refine List.Sublist.cons_cons _ ?_)) hm hf hop hl hlt k
theorem Kn.g9 {H n p0 p1 p2 p3 p4 p5 p6 p7 p8 b ao M} (hk : Kn H n (p0 :: p1 :: p2 :: p3 :: p4 :: p5 :: p6 :: p7 :: p8 :: (b, ao) :: M)) : H.get b = some ao := (hk.mem (by simp)).2
theorem Kn.at9 {H n p0 p1 p2 p3 p4 p5 p6 p7 p8 b o c op M} {K : List SV → Prop} (hk : Kn H n (p0 :: p1 :: p2 :: p3 :: p4 :: p5 :: p6 :: p7 :: p8 :: (b, .cells c op) :: M)) (k : K (c.drop o)) : St.at ⟨i, H, n⟩ (.new b) o K := Kn.atG hk.g9 k
theorem Kn.s9 {H n p0 p1 p2 p3 p4 p5 p6 p7 p8 b ao M} (hk : Kn H n (p0 :: p1 :: p2 :: p3 :: p4 :: p5 :: p6 :: p7 :: p8 :: (b, ao) :: M)) (ao' : AO) : setM (p0 :: p1 :: p2 :: p3 :: p4 :: p5 :: p6 :: p7 :: p8 :: (b, ao) :: M) b ao' = p0 :: p1 :: p2 :: p3 :: p4 :: p5 :: p6 :: p7 :: p8 :: (b, ao') :: M := by
  obtain ⟨c, a⟩ := p0
  rw [setM_ne (hk.head_ne (b := b) (ao := ao) (by simp)), hk.tail.s8 ao']
theorem Kn.wr9 {H n p0 p1 p2 p3 p4 p5 p6 p7 p8 b o c op new M} {K : St → Prop} (hk : Kn H n (p0 :: p1 :: p2 :: p3 :: p4 :: p5 :: p6 :: p7 :: p8 :: (b, .cells c op) :: M)) (hle : Nat.ble (o + new.length) c.length = true) (k : ∀ H', Kn H' n (p0 :: p1 :: p2 :: p3 :: p4 :: p5 :: p6 :: p7 :: p8 :: (b, .cells (c.take o ++ (new ++ c.drop (o + new.length))) op) :: M) → K ⟨i, H', n⟩) : St.wr ⟨i, H, n⟩ (.new b) o new K :=
  hk.wrG hk.g9 hle fun H' h => k H' (by rw [hk.s9] at h; exact h)
theorem Kn.lk9 {P H n p0 p1 p2 p3 p4 p5 p6 p7 p8 b es clk M kt z key r} {K : V1 → Bool → Prop} (hk : Kn H n (p0 :: p1 :: p2 :: p3 :: p4 :: p5 :: p6 :: p7 :: p8 :: (b, .map es clk) :: M)) (hr : findA P kt key es 0 = some r) (k : K ((r.map (·.2)).getD z) (r.map (·.2)).isSome) : St.lookup P ⟨i, H, n⟩ kt z (.mk (.new b)) key K := Kn.lookupG hk.g9 hr k
theorem Kn.mn9 {P H n p0 p1 p2 p3 p4 p5 p6 p7 p8 b es clk M kt key x} {K : St → Prop} (hk : Kn H n (p0 :: p1 :: p2 :: p3 :: p4 :: p5 :: p6 :: p7 :: p8 :: (b, .map es clk) :: M)) (hr : findA P kt key es 0 = some none) (k : ∀ H', Kn H' n (p0 :: p1 :: p2 :: p3 :: p4 :: p5 :: p6 :: p7 :: p8 :: (b, .map (es ++ [(key, x, clk)]) (clk + 1)) :: M) → K ⟨i, H', n⟩) : St.mput P ⟨i, H, n⟩ kt (.mk (.new b)) key x K :=
  hk.mputNewG hk.g9 hr fun H' h => k H' (by rw [hk.s9] at h; exact h)
theorem Kn.mo9 {P H n p0 p1 p2 p3 p4 p5 p6 p7 p8 b es clk M kt key x j y} {K : St → Prop} (hk : Kn H n (p0 :: p1 :: p2 :: p3 :: p4 :: p5 :: p6 :: p7 :: p8 :: (b, .map es clk) :: M)) (hr : findA P kt key es 0 = some (some (j, y))) (hkey : keyAt es j key = true) (k : ∀ H', Kn H' n (p0 :: p1 :: p2 :: p3 :: p4 :: p5 :: p6 :: p7 :: p8 :: (b, .map (es.set j (key, x, (es.getD j (key, x, 0)).2.2)) clk) :: M) → K ⟨i, H', n⟩) : St.mput P ⟨i, H, n⟩ kt (.mk (.new b)) key x K :=
  hk.mputOldG hk.g9 hr hkey fun H' h => k H' (by rw [hk.s9] at h; exact h)
theorem Kn.md9 {P H n p0 p1 p2 p3 p4 p5 p6 p7 p8 b es clk M kt key r} {K : St → Prop} (hk : Kn H n (p0 :: p1 :: p2 :: p3 :: p4 :: p5 :: p6 :: p7 :: p8 :: (b, .map es clk) :: M)) (hr : findA P kt key es 0 = some r) (k : ∀ H', Kn H' n (p0 :: p1 :: p2 :: p3 :: p4 :: p5 :: p6 :: p7 :: p8 :: (b, .map (delE es r) clk) :: M) → K ⟨i, H', n⟩) : St.mdel P ⟨i, H, n⟩ kt (.mk (.new b)) key K :=
  hk.mdelG hk.g9 hr fun H' h => k H' (by rw [hk.s9] at h; exact h)
theorem Kn.sr9 {H n p0 p1 p2 p3 p4 p5 p6 p7 p8 b o m cc c op M z} {K : List SV → Nat → Prop} (hk : Kn H n (p0 :: p1 :: p2 :: p3 :: p4 :: p5 :: p6 :: p7 :: p8 :: (b, .cells c op) :: M)) (hle : Nat.ble (o + m * z) c.length = true) (k : K ((c.drop o).take (m * z)) m) : St.src ⟨i, H, n⟩ z (.mk (.new b) o m cc) K := Kn.srcG hk.g9 hle k
theorem Kn.ag9 {H n p0 p1 p2 p3 p4 p5 p6 p7 p8 b o len m l op M} {e : TypeId} {z by_ : Nat} {new : List SV} {K : LV → St → Prop} (hk : Kn H n (p0 :: p1 :: p2 :: p3 :: p4 :: p5 :: p6 :: p7 :: p8 :: (b, .cells l op) :: M)) (hm : Nat.beq m 0 = false) (hf : fits by_ (len + m) = true) (hop : op.b = true) (hl : o + len * z = l.length) (hlt : Nat.ble (o + (len + m) * z) l.length = false)
    (k : ∀ H', Kn H' (n + 1) ((n, .cells (l.drop o ++ new) (growOp op o e)) :: p0 :: p1 :: p2 :: p3 :: p4 :: p5 :: p6 :: p7 :: p8 :: M) → K (.mk (.new n) 0 (len + m) (.inr z)) ⟨i, H', n + 1⟩) : St.app ⟨i, H, n⟩ e z by_ (.mk (.new b) o len (.inr z)) new m K :=
  hk.appGro hk.g9 (hk.ne9) (by repeat (first | exact List.sublist_cons_self _ _ | refine List.Sublist.cons_cons _ ?_)) hm hf hop hl hlt k
theorem Kn.g10 {H n p0 p1 p2 p3 p4 p5 p6 p7 p8 p9 b ao M} (hk : Kn H n (p0 :: p1 :: p2 :: p3 :: p4 :: p5 :: p6 :: p7 :: p8 :: p9 :: (b, ao) :: M)) : H.get b = some ao := (hk.mem (by simp)).2
theorem Kn.at10 {H n p0 p1 p2 p3 p4 p5 p6 p7 p8 p9 b o c op M} {K : List SV → Prop} (hk : Kn H n (p0 :: p1 :: p2 :: p3 :: p4 :: p5 :: p6 :: p7 :: p8 :: p9 :: (b, .cells c op) :: M)) (k : K (c.drop o)) : St.at ⟨i, H, n⟩ (.new b) o K := Kn.atG hk.g10 k
theorem Kn.s10 {H n p0 p1 p2 p3 p4 p5 p6 p7 p8 p9 b ao M} (hk : Kn H n (p0 :: p1 :: p2 :: p3 :: p4 :: p5 :: p6 :: p7 :: p8 :: p9 :: (b, ao) :: M)) (ao' : AO) : setM (p0 :: p1 :: p2 :: p3 :: p4 :: p5 :: p6 :: p7 :: p8 :: p9 :: (b, ao) :: M) b ao' = p0 :: p1 :: p2 :: p3 :: p4 :: p5 :: p6 :: p7 :: p8 :: p9 :: (b, ao') :: M := by
  obtain ⟨c, a⟩ := p0
  rw [setM_ne (hk.head_ne (b := b) (ao := ao) (by simp)), hk.tail.s9 ao']
theorem Kn.wr10 {H n p0 p1 p2 p3 p4 p5 p6 p7 p8 p9 b o c op new M} {K : St → Prop} (hk : Kn H n (p0 :: p1 :: p2 :: p3 :: p4 :: p5 :: p6 :: p7 :: p8 :: p9 :: (b, .cells c op) :: M)) (hle : Nat.ble (o + new.length) c.length = true) (k : ∀ H', Kn H' n (p0 :: p1 :: p2 :: p3 :: p4 :: p5 :: p6 :: p7 :: p8 :: p9 :: (b, .cells (c.take o ++ (new ++ c.drop (o + new.length))) op) :: M) → K ⟨i, H', n⟩) : St.wr ⟨i, H, n⟩ (.new b) o new K :=
  hk.wrG hk.g10 hle fun H' h => k H' (by rw [hk.s10] at h; exact h)
theorem Kn.lk10 {P H n p0 p1 p2 p3 p4 p5 p6 p7 p8 p9 b es clk M kt z key r} {K : V1 → Bool → Prop} (hk : Kn H n (p0 :: p1 :: p2 :: p3 :: p4 :: p5 :: p6 :: p7 :: p8 :: p9 :: (b, .map es clk) :: M)) (hr : findA P kt key es 0 = some r) (k : K ((r.map (·.2)).getD z) (r.map (·.2)).isSome) : St.lookup P ⟨i, H, n⟩ kt z (.mk (.new b)) key K := Kn.lookupG hk.g10 hr k
theorem Kn.mn10 {P H n p0 p1 p2 p3 p4 p5 p6 p7 p8 p9 b es clk M kt key x} {K : St → Prop} (hk : Kn H n (p0 :: p1 :: p2 :: p3 :: p4 :: p5 :: p6 :: p7 :: p8 :: p9 :: (b, .map es clk) :: M)) (hr : findA P kt key es 0 = some none) (k : ∀ H', Kn H' n (p0 :: p1 :: p2 :: p3 :: p4 :: p5 :: p6 :: p7 :: p8 :: p9 :: (b, .map (es ++ [(key, x, clk)]) (clk + 1)) :: M) → K ⟨i, H', n⟩) : St.mput P ⟨i, H, n⟩ kt (.mk (.new b)) key x K :=
  hk.mputNewG hk.g10 hr fun H' h => k H' (by rw [hk.s10] at h; exact h)
theorem Kn.mo10 {P H n p0 p1 p2 p3 p4 p5 p6 p7 p8 p9 b es clk M kt key x j y} {K : St → Prop} (hk : Kn H n (p0 :: p1 :: p2 :: p3 :: p4 :: p5 :: p6 :: p7 :: p8 :: p9 :: (b, .map es clk) :: M)) (hr : findA P kt key es 0 = some (some (j, y))) (hkey : keyAt es j key = true) (k : ∀ H', Kn H' n (p0 :: p1 :: p2 :: p3 :: p4 :: p5 :: p6 :: p7 :: p8 :: p9 :: (b, .map (es.set j (key, x, (es.getD j (key, x, 0)).2.2)) clk) :: M) → K ⟨i, H', n⟩) : St.mput P ⟨i, H, n⟩ kt (.mk (.new b)) key x K :=
  hk.mputOldG hk.g10 hr hkey fun H' h => k H' (by rw [hk.s10] at h; exact h)
theorem Kn.md10 {P H n p0 p1 p2 p3 p4 p5 p6 p7 p8 p9 b es clk M kt key r} {K : St → Prop} (hk : Kn H n (p0 :: p1 :: p2 :: p3 :: p4 :: p5 :: p6 :: p7 :: p8 :: p9 :: (b, .map es clk) :: M)) (hr : findA P kt key es 0 = some r) (k : ∀ H', Kn H' n (p0 :: p1 :: p2 :: p3 :: p4 :: p5 :: p6 :: p7 :: p8 :: p9 :: (b, .map (delE es r) clk) :: M) → K ⟨i, H', n⟩) : St.mdel P ⟨i, H, n⟩ kt (.mk (.new b)) key K :=
  hk.mdelG hk.g10 hr fun H' h => k H' (by rw [hk.s10] at h; exact h)
theorem Kn.sr10 {H n p0 p1 p2 p3 p4 p5 p6 p7 p8 p9 b o m cc c op M z} {K : List SV → Nat → Prop} (hk : Kn H n (p0 :: p1 :: p2 :: p3 :: p4 :: p5 :: p6 :: p7 :: p8 :: p9 :: (b, .cells c op) :: M)) (hle : Nat.ble (o + m * z) c.length = true) (k : K ((c.drop o).take (m * z)) m) : St.src ⟨i, H, n⟩ z (.mk (.new b) o m cc) K := Kn.srcG hk.g10 hle k
theorem Kn.ag10 {H n p0 p1 p2 p3 p4 p5 p6 p7 p8 p9 b o len m l op M} {e : TypeId} {z by_ : Nat} {new : List SV} {K : LV → St → Prop} (hk : Kn H n (p0 :: p1 :: p2 :: p3 :: p4 :: p5 :: p6 :: p7 :: p8 :: p9 :: (b, .cells l op) :: M)) (hm : Nat.beq m 0 = false) (hf : fits by_ (len + m) = true) (hop : op.b = true) (hl : o + len * z = l.length) (hlt : Nat.ble (o + (len + m) * z) l.length = false)
    (k : ∀ H', Kn H' (n + 1) ((n, .cells (l.drop o ++ new) (growOp op o e)) :: p0 :: p1 :: p2 :: p3 :: p4 :: p5 :: p6 :: p7 :: p8 :: p9 :: M) → K (.mk (.new n) 0 (len + m) (.inr z)) ⟨i, H', n + 1⟩) : St.app ⟨i, H, n⟩ e z by_ (.mk (.new b) o len (.inr z)) new m K :=
  hk.appGro hk.g10 (hk.ne10) (by repeat (first | exact List.sublist_cons_self _ _ | refine List.Sublist.cons_cons _ ?_)) hm hf hop hl hlt k
theorem Kn.g11 {H n p0 p1 p2 p3 p4 p5 p6 p7 p8 p9 p10 b ao M} (hk : Kn H n (p0 :: p1 :: p2 :: p3 :: p4 :: p5 :: p6 :: p7 :: p8 :: p9 :: p10 :: (b, ao) :: M)) : H.get b = some ao := (hk.mem (by simp)).2
theorem Kn.at11 {H n p0 p1 p2 p3 p4 p5 p6 p7 p8 p9 p10 b o c op M} {K : List SV → Prop} (hk : Kn H n (p0 :: p1 :: p2 :: p3 :: p4 :: p5 :: p6 :: p7 :: p8 :: p9 :: p10 :: (b, .cells c op) :: M)) (k : K (c.drop o)) : St.at ⟨i, H, n⟩ (.new b) o K := Kn.atG hk.g11 k
theorem Kn.s11 {H n p0 p1 p2 p3 p4 p5 p6 p7 p8 p9 p10 b ao M} (hk : Kn H n (p0 :: p1 :: p2 :: p3 :: p4 :: p5 :: p6 :: p7 :: p8 :: p9 :: p10 :: (b, ao) :: M)) (ao' : AO) : setM (p0 :: p1 :: p2 :: p3 :: p4 :: p5 :: p6 :: p7 :: p8 :: p9 :: p10 :: (b, ao) :: M) b ao' = p0 :: p1 :: p2 :: p3 :: p4 :: p5 :: p6 :: p7 :: p8 :: p9 :: p10 :: (b, ao') :: M := by
  obtain ⟨c, a⟩ := p0
  rw [setM_ne (hk.head_ne (b := b) (ao := ao) (by simp)), hk.tail.s10 ao']
theorem Kn.wr11 {H n p0 p1 p2 p3 p4 p5 p6 p7 p8 p9 p10 b o c op new M} {K : St → Prop} (hk : Kn H n (p0 :: p1 :: p2 :: p3 :: p4 :: p5 :: p6 :: p7 :: p8 :: p9 :: p10 :: (b, .cells c op) :: M)) (hle : Nat.ble (o + new.length) c.length = true) (k : ∀ H', Kn H' n (p0 :: p1 :: p2 :: p3 :: p4 :: p5 :: p6 :: p7 :: p8 :: p9 :: p10 :: (b, .cells (c.take o ++ (new ++ c.drop (o + new.length))) op) :: M) → K ⟨i, H', n⟩) : St.wr ⟨i, H, n⟩ (.new b) o new K :=
  hk.wrG hk.g11 hle fun H' h => k H' (by rw [hk.s11] at h; exact h)
theorem Kn.lk11 {P H n p0 p1 p2 p3 p4 p5 p6 p7 p8 p9 p10 b es clk M kt z key r} {K : V1 → Bool → Prop} (hk : Kn H n (p0 :: p1 :: p2 :: p3 :: p4 :: p5 :: p6 :: p7 :: p8 :: p9 :: p10 :: (b, .map es clk) :: M)) (hr : findA P kt key es 0 = some r) (k : K ((r.map (·.2)).getD z) (r.map (·.2)).isSome) : St.lookup P ⟨i, H, n⟩ kt z (.mk (.new b)) key K := Kn.lookupG hk.g11 hr k
theorem Kn.mn11 {P H n p0 p1 p2 p3 p4 p5 p6 p7 p8 p9 p10 b es clk M kt key x} {K : St → Prop} (hk : Kn H n (p0 :: p1 :: p2 :: p3 :: p4 :: p5 :: p6 :: p7 :: p8 :: p9 :: p10 :: (b, .map es clk) :: M)) (hr : findA P kt key es 0 = some none) (k : ∀ H', Kn H' n (p0 :: p1 :: p2 :: p3 :: p4 :: p5 :: p6 :: p7 :: p8 :: p9 :: p10 :: (b, .map (es ++ [(key, x, clk)]) (clk + 1)) :: M) → K ⟨i, H', n⟩) : St.mput P ⟨i, H, n⟩ kt (.mk (.new b)) key x K :=
  hk.mputNewG hk.g11 hr fun H' h => k H' (by rw [hk.s11] at h; exact h)
theorem Kn.mo11 {P H n p0 p1 p2 p3 p4 p5 p6 p7 p8 p9 p10 b es clk M kt key x j y} {K : St → Prop} (hk : Kn H n (p0 :: p1 :: p2 :: p3 :: p4 :: p5 :: p6 :: p7 :: p8 :: p9 :: p10 :: (b, .map es clk) :: M)) (hr : findA P kt key es 0 = some (some (j, y))) (hkey : keyAt es j key = true) (k : ∀ H', Kn H' n (p0 :: p1 :: p2 :: p3 :: p4 :: p5 :: p6 :: p7 :: p8 :: p9 :: p10 :: (b, .map (es.set j (key, x, (es.getD j (key, x, 0)).2.2)) clk) :: M) → K ⟨i, H', n⟩) : St.mput P ⟨i, H, n⟩ kt (.mk (.new b)) key x K :=
  hk.mputOldG hk.g11 hr hkey fun H' h => k H' (by rw [hk.s11] at h; exact h)
theorem Kn.md11 {P H n p0 p1 p2 p3 p4 p5 p6 p7 p8 p9 p10 b es clk M kt key r} {K : St → Prop} (hk : Kn H n (p0 :: p1 :: p2 :: p3 :: p4 :: p5 :: p6 :: p7 :: p8 :: p9 :: p10 :: (b, .map es clk) :: M)) (hr : findA P kt key es 0 = some r) (k : ∀ H', Kn H' n (p0 :: p1 :: p2 :: p3 :: p4 :: p5 :: p6 :: p7 :: p8 :: p9 :: p10 :: (b, .map (delE es r) clk) :: M) → K ⟨i, H', n⟩) : St.mdel P ⟨i, H, n⟩ kt (.mk (.new b)) key K :=
  hk.mdelG hk.g11 hr fun H' h => k H' (by rw [hk.s11] at h; exact h)
theorem Kn.sr11 {H n p0 p1 p2 p3 p4 p5 p6 p7 p8 p9 p10 b o m cc c op M z} {K : List SV → Nat → Prop} (hk : Kn H n (p0 :: p1 :: p2 :: p3 :: p4 :: p5 :: p6 :: p7 :: p8 :: p9 :: p10 :: (b, .cells c op) :: M)) (hle : Nat.ble (o + m * z) c.length = true) (k : K ((c.drop o).take (m * z)) m) : St.src ⟨i, H, n⟩ z (.mk (.new b) o m cc) K := Kn.srcG hk.g11 hle k
theorem Kn.ag11 {H n p0 p1 p2 p3 p4 p5 p6 p7 p8 p9 p10 b o len m l op M} {e : TypeId} {z by_ : Nat} {new : List SV} {K : LV → St → Prop} (hk : Kn H n (p0 :: p1 :: p2 :: p3 :: p4 :: p5 :: p6 :: p7 :: p8 :: p9 :: p10 :: (b, .cells l op) :: M)) (hm : Nat.beq m 0 = false) (hf : fits by_ (len + m) = true) (hop : op.b = true) (hl : o + len * z = l.length) (hlt : Nat.ble (o + (len + m) * z) l.length = false)
    (k : ∀ H', Kn H' (n + 1) ((n, .cells (l.drop o ++ new) (growOp op o e)) :: p0 :: p1 :: p2 :: p3 :: p4 :: p5 :: p6 :: p7 :: p8 :: p9 :: p10 :: M) → K (.mk (.new n) 0 (len + m) (.inr z)) ⟨i, H', n + 1⟩) : St.app ⟨i, H, n⟩ e z by_ (.mk (.new b) o len (.inr z)) new m K :=
  hk.appGro hk.g11 (hk.ne11) (by repeat (first | exact List.sublist_cons_self _ _ | refine List.Sublist.cons_cons _ ?_)) hm hf hop hl hlt k
theorem Kn.g12 {H n p0 p1 p2 p3 p4 p5 p6 p7 p8 p9 p10 p11 b ao M} (hk : Kn H n (p0 :: p1 :: p2 :: p3 :: p4 :: p5 :: p6 :: p7 :: p8 :: p9 :: p10 :: p11 :: (b, ao) :: M)) : H.get b = some ao := (hk.mem (by simp)).2
theorem Kn.at12 {H n p0 p1 p2 p3 p4 p5 p6 p7 p8 p9 p10 p11 b o c op M} {K : List SV → Prop} (hk : Kn H n (p0 :: p1 :: p2 :: p3 :: p4 :: p5 :: p6 :: p7 :: p8 :: p9 :: p10 :: p11 :: (b, .cells c op) :: M)) (k : K (c.drop o)) : St.at ⟨i, H, n⟩ (.new b) o K := Kn.atG hk.g12 k
theorem Kn.s12 {H n p0 p1 p2 p3 p4 p5 p6 p7 p8 p9 p10 p11 b ao M} (hk : Kn H n (p0 :: p1 :: p2 :: p3 :: p4 :: p5 :: p6 :: p7 :: p8 :: p9 :: p10 :: p11 :: (b, ao) :: M)) (ao' : AO) : setM (p0 :: p1 :: p2 :: p3 :: p4 :: p5 :: p6 :: p7 :: p8 :: p9 :: p10 :: p11 :: (b, ao) :: M) b ao' = p0 :: p1 :: p2 :: p3 :: p4 :: p5 :: p6 :: p7 :: p8 :: p9 :: p10 :: p11 :: (b, ao') :: M := by
  obtain ⟨c, a⟩ := p0
  rw [setM_ne (hk.head_ne (b := b) (ao := ao) (by simp)), hk.tail.s11 ao']
theorem Kn.wr12 {H n p0 p1 p2 p3 p4 p5 p6 p7 p8 p9 p10 p11 b o c op new M} {K : St → Prop} (hk : Kn H n (p0 :: p1 :: p2 :: p3 :: p4 :: p5 :: p6 :: p7 :: p8 :: p9 :: p10 :: p11 :: (b, .cells c op) :: M)) (hle : Nat.ble (o + new.length) c.length = true) (k : ∀ H', Kn H' n (p0 :: p1 :: p2 :: p3 :: p4 :: p5 :: p6 :: p7 :: p8 :: p9 :: p10 :: p11 :: (b, .cells (c.take o ++ (new ++ c.drop (o + new.length))) op) :: M) → K ⟨i, H', n⟩) : St.wr ⟨i, H, n⟩ (.new b) o new K :=
  hk.wrG hk.g12 hle fun H' h => k H' (by rw [hk.s12] at h; exact h)
theorem Kn.lk12 {P H n p0 p1 p2 p3 p4 p5 p6 p7 p8 p9 p10 p11 b es clk M kt z key r} {K : V1 → Bool → Prop} (hk : Kn H n (p0 :: p1 :: p2 :: p3 :: p4 :: p5 :: p6 :: p7 :: p8 :: p9 :: p10 :: p11 :: (b, .map es clk) :: M)) (hr : findA P kt key es 0 = some r) (k : K ((r.map (·.2)).getD z) (r.map (·.2)).isSome) : St.lookup P ⟨i, H, n⟩ kt z (.mk (.new b)) key K := Kn.lookupG hk.g12 hr k
theorem Kn.mn12 {P H n p0 p1 p2 p3 p4 p5 p6 p7 p8 p9 p10 p11 b es clk M kt key x} {K : St → Prop} (hk : Kn H n (p0 :: p1 :: p2 :: p3 :: p4 :: p5 :: p6 :: p7 :: p8 :: p9 :: p10 :: p11 :: (b, .map es clk) :: M)) (hr : findA P kt key es 0 = some none) (k : ∀ H', Kn H' n (p0 :: p1 :: p2 :: p3 :: p4 :: p5 :: p6 :: p7 :: p8 :: p9 :: p10 :: p11 :: (b, .map (es ++ [(key, x, clk)]) (clk + 1)) :: M) → K ⟨i, H', n⟩) : St.mput P ⟨i, H, n⟩ kt (.mk (.new b)) key x K :=
  hk.mputNewG hk.g12 hr fun H' h => k H' (by rw [hk.s12] at h; exact h)
theorem Kn.mo12 {P H n p0 p1 p2 p3 p4 p5 p6 p7 p8 p9 p10 p11 b es clk M kt key x j y} {K : St → Prop} (hk : Kn H n (p0 :: p1 :: p2 :: p3 :: p4 :: p5 :: p6 :: p7 :: p8 :: p9 :: p10 :: p11 :: (b, .map es clk) :: M)) (hr : findA P kt key es 0 = some (some (j, y))) (hkey : keyAt es j key = true) (k : ∀ H', Kn H' n (p0 :: p1 :: p2 :: p3 :: p4 :: p5 :: p6 :: p7 :: p8 :: p9 :: p10 :: p11 :: (b, .map (es.set j (key, x, (es.getD j (key, x, 0)).2.2)) clk) :: M) → K ⟨i, H', n⟩) : St.mput P ⟨i, H, n⟩ kt (.mk (.new b)) key x K :=
  hk.mputOldG hk.g12 hr hkey fun H' h => k H' (by rw [hk.s12] at h; exact h)
theorem Kn.md12 {P H n p0 p1 p2 p3 p4 p5 p6 p7 p8 p9 p10 p11 b es clk M kt key r} {K : St → Prop} (hk : Kn H n (p0 :: p1 :: p2 :: p3 :: p4 :: p5 :: p6 :: p7 :: p8 :: p9 :: p10 :: p11 :: (b, .map es clk) :: M)) (hr : findA P kt key es 0 = some r) (k : ∀ H', Kn H' n (p0 :: p1 :: p2 :: p3 :: p4 :: p5 :: p6 :: p7 :: p8 :: p9 :: p10 :: p11 :: (b, .map (delE es r) clk) :: M) → K ⟨i, H', n⟩) : St.mdel P ⟨i, H, n⟩ kt (.mk (.new b)) key K :=
  hk.mdelG hk.g12 hr fun H' h => k H' (by rw [hk.s12] at h; exact h)
theorem Kn.sr12 {H n p0 p1 p2 p3 p4 p5 p6 p7 p8 p9 p10 p11 b o m cc c op M z} {K : List SV → Nat → Prop} (hk : Kn H n (p0 :: p1 :: p2 :: p3 :: p4 :: p5 :: p6 :: p7 :: p8 :: p9 :: p10 :: p11 :: (b, .cells c op) :: M)) (hle : Nat.ble (o + m * z) c.length = true) (k : K ((c.drop o).take (m * z)) m) : St.src ⟨i, H, n⟩ z (.mk (.new b) o m cc) K := Kn.srcG hk.g12 hle k
theorem Kn.ag12 {H n p0 p1 p2 p3 p4 p5 p6 p7 p8 p9 p10 p11 b o len m l op M} {e : TypeId} {z by_ : Nat} {new : List SV} {K : LV → St → Prop} (hk : Kn H n (p0 :: p1 :: p2 :: p3 :: p4 :: p5 :: p6 :: p7 :: p8 :: p9 :: p10 :: p11 :: (b, .cells l op) :: M)) (hm : Nat.beq m 0 = false) (hf : fits by_ (len + m) = true) (hop : op.b = true) (hl : o + len * z = l.length) (hlt : Nat.ble (o + (len + m) * z) l.length = false)
    (k : ∀ H', Kn H' (n + 1) ((n, .cells (l.drop o ++ new) (growOp op o e)) :: p0 :: p1 :: p2 :: p3 :: p4 :: p5 :: p6 :: p7 :: p8 :: p9 :: p10 :: p11 :: M) → K (.mk (.new n) 0 (len + m) (.inr z)) ⟨i, H', n + 1⟩) : St.app ⟨i, H, n⟩ e z by_ (.mk (.new b) o len (.inr z)) new m K :=
  hk.appGro hk.g12 (hk.ne12) (by repeat (first | exact List.sublist_cons_self _ _ | refine List.Sublist.cons_cons _ ?_)) hm hf hop hl hlt k
theorem Kn.g13 {H n p0 p1 p2 p3 p4 p5 p6 p7 p8 p9 p10 p11 p12 b ao M} (hk : Kn H n (p0 :: p1 :: p2 :: p3 :: p4 :: p5 :: p6 :: p7 :: p8 :: p9 :: p10 :: p11 :: p12 :: (b, ao) :: M)) : H.get b = some ao := (hk.mem (by simp)).2
theorem Kn.at13 {H n p0 p1 p2 p3 p4 p5 p6 p7 p8 p9 p10 p11 p12 b o c op M} {K : List SV → Prop} (hk : Kn H n (p0 :: p1 :: p2 :: p3 :: p4 :: p5 :: p6 :: p7 :: p8 :: p9 :: p10 :: p11 :: p12 :: (b, .cells c op) :: M)) (k : K (c.drop o)) : St.at ⟨i, H, n⟩ (.new b) o K := Kn.atG hk.g13 k
theorem Kn.s13 {H n p0 p1 p2 p3 p4 p5 p6 p7 p8 p9 p10 p11 p12 b ao M} (hk : Kn H n (p0 :: p1 :: p2 :: p3 :: p4 :: p5 :: p6 :: p7 :: p8 :: p9 :: p10 :: p11 :: p12 :: (b, ao) :: M)) (ao' : AO) : setM (p0 :: p1 :: p2 :: p3 :: p4 :: p5 :: p6 :: p7 :: p8 :: p9 :: p10 :: p11 :: p12 :: (b, ao) :: M) b ao' = p0 :: p1 :: p2 :: p3 :: p4 :: p5 :: p6 :: p7 :: p8 :: p9 :: p10 :: p11 :: p12 :: (b, ao') :: M := by
  obtain ⟨c, a⟩ := p0
  rw [setM_ne (hk.head_ne (b := b) (ao := ao) (by simp)), hk.tail.s12 ao']
theorem Kn.wr13 {H n p0 p1 p2 p3 p4 p5 p6 p7 p8 p9 p10 p11 p12 b o c op new M} {K : St → Prop} (hk : Kn H n (p0 :: p1 :: p2 :: p3 :: p4 :: p5 :: p6 :: p7 :: p8 :: p9 :: p10 :: p11 :: p12 :: (b, .cells c op) :: M)) (hle : Nat.ble (o + new.length) c.length = true) (k : ∀ H', Kn H' n (p0 :: p1 :: p2 :: p3 :: p4 :: p5 :: p6 :: p7 :: p8 :: p9 :: p10 :: p11 :: p12 :: (b, .cells (c.take o ++ (new ++ c.drop (o + new.length))) op) :: M) → K ⟨i, H', n⟩) : St.wr ⟨i, H, n⟩ (.new b) o new K :=
  hk.wrG hk.g13 hle fun H' h => k H' (by rw [hk.s13] at h; exact h)
theorem Kn.lk13 {P H n p0 p1 p2 p3 p4 p5 p6 p7 p8 p9 p10 p11 p12 b es clk M kt z key r} {K : V1 → Bool → Prop} (hk : Kn H n (p0 :: p1 :: p2 :: p3 :: p4 :: p5 :: p6 :: p7 :: p8 :: p9 :: p10 :: p11 :: p12 :: (b, .map es clk) :: M)) (hr : findA P kt key es 0 = some r) (k : K ((r.map (·.2)).getD z) (r.map (·.2)).isSome) : St.lookup P ⟨i, H, n⟩ kt z (.mk (.new b)) key K := Kn.lookupG hk.g13 hr k
theorem Kn.mn13 {P H n p0 p1 p2 p3 p4 p5 p6 p7 p8 p9 p10 p11 p12 b es clk M kt key x} {K : St → Prop} (hk : Kn H n (p0 :: p1 :: p2 :: p3 :: p4 :: p5 :: p6 :: p7 :: p8 :: p9 :: p10 :: p11 :: p12 :: (b, .map es clk) :: M)) (hr : findA P kt key es 0 = some none) (k : ∀ H', Kn H' n (p0 :: p1 :: p2 :: p3 :: p4 :: p5 :: p6 :: p7 :: p8 :: p9 :: p10 :: p11 :: p12 :: (b, .map (es ++ [(key, x, clk)]) (clk + 1)) :: M) → K ⟨i, H', n⟩) : St.mput P ⟨i, H, n⟩ kt (.mk (.new b)) key x K :=
  hk.mputNewG hk.g13 hr fun H' h => k H' (by rw [hk.s13] at h; exact h)
theorem Kn.mo13 {P H n p0 p1 p2 p3 p4 p5 p6 p7 p8 p9 p10 p11 p12 b es clk M kt key x j y} {K : St → Prop} (hk : Kn H n (p0 :: p1 :: p2 :: p3 :: p4 :: p5 :: p6 :: p7 :: p8 :: p9 :: p10 :: p11 :: p12 :: (b, .map es clk) :: M)) (hr : findA P kt key es 0 = some (some (j, y))) (hkey : keyAt es j key = true) (k : ∀ H', Kn H' n (p0 :: p1 :: p2 :: p3 :: p4 :: p5 :: p6 :: p7 :: p8 :: p9 :: p10 :: p11 :: p12 :: (b, .map (es.set j (key, x, (es.getD j (key, x, 0)).2.2)) clk) :: M) → K ⟨i, H', n⟩) : St.mput P ⟨i, H, n⟩ kt (.mk (.new b)) key x K :=
  hk.mputOldG hk.g13 hr hkey fun H' h => k H' (by rw [hk.s13] at h; exact h)
theorem Kn.md13 {P H n p0 p1 p2 p3 p4 p5 p6 p7 p8 p9 p10 p11 p12 b es clk M kt key r} {K : St → Prop} (hk : Kn H n (p0 :: p1 :: p2 :: p3 :: p4 :: p5 :: p6 :: p7 :: p8 :: p9 :: p10 :: p11 :: p12 :: (b, .map es clk) :: M)) (hr : findA P kt key es 0 = some r) (k : ∀ H', Kn H' n (p0 :: p1 :: p2 :: p3 :: p4 :: p5 :: p6 :: p7 :: p8 :: p9 :: p10 :: p11 :: p12 :: (b, .map (delE es r) clk) :: M) → K ⟨i, H', n⟩) : St.mdel P ⟨i, H, n⟩ kt (.mk (.new b)) key K :=
  hk.mdelG hk.g13 hr fun H' h => k H' (by rw [hk.s13] at h; exact h)
theorem Kn.sr13 {H n p0 p1 p2 p3 p4 p5 p6 p7 p8 p9 p10 p11 p12 b o m cc c op M z} {K : List SV → Nat → Prop} (hk : Kn H n (p0 :: p1 :: p2 :: p3 :: p4 :: p5 :: p6 :: p7 :: p8 :: p9 :: p10 :: p11 :: p12 :: (b, .cells c op) :: M)) (hle : Nat.ble (o + m * z) c.length = true) (k : K ((c.drop o).take (m * z)) m) : St.src ⟨i, H, n⟩ z (.mk (.new b) o m cc) K := Kn.srcG hk.g13 hle k
theorem Kn.ag13 {H n p0 p1 p2 p3 p4 p5 p6 p7 p8 p9 p10 p11 p12 b o len m l op M} {e : TypeId} {z by_ : Nat} {new : List SV} {K : LV → St → Prop} (hk : Kn H n (p0 :: p1 :: p2 :: p3 :: p4 :: p5 :: p6 :: p7 :: p8 :: p9 :: p10 :: p11 :: p12 :: (b, .cells l op) :: M)) (hm : Nat.beq m 0 = false) (hf : fits by_ (len + m) = true) (hop : op.b = true) (hl : o + len * z = l.length) (hlt : Nat.ble (o + (len + m) * z) l.length = false)
    (k : ∀ H', Kn H' (n + 1) ((n, .cells (l.drop o ++ new) (growOp op o e)) :: p0 :: p1 :: p2 :: p3 :: p4 :: p5 :: p6 :: p7 :: p8 :: p9 :: p10 :: p11 :: p12 :: M) → K (.mk (.new n) 0 (len + m) (.inr z)) ⟨i, H', n + 1⟩) : St.app ⟨i, H, n⟩ e z by_ (.mk (.new b) o len (.inr z)) new m K :=
  hk.appGro hk.g13 (hk.ne13) (by repeat (first | exact List.sublist_cons_self _ _ | refine List.Sublist.cons_cons _ ?_)) hm hf hop hl hlt k
theorem Kn.g14 {H n p0 p1 p2 p3 p4 p5 p6 p7 p8 p9 p10 p11 p12 p13 b ao M} (hk : Kn H n (p0 :: p1 :: p2 :: p3 :: p4 :: p5 :: p6 :: p7 :: p8 :: p9 :: p10 :: p11 :: p12 :: p13 :: (b, ao) :: M)) : H.get b = some ao := (hk.mem (by simp)).2
theorem Kn.at14 {H n p0 p1 p2 p3 p4 p5 p6 p7 p8 p9 p10 p11 p12 p13 b o c op M} {K : List SV → Prop} (hk : Kn H n (p0 :: p1 :: p2 :: p3 :: p4 :: p5 :: p6 :: p7 :: p8 :: p9 :: p10 :: p11 :: p12 :: p13 :: (b, .cells c op) :: M)) (k : K (c.drop o)) : St.at ⟨i, H, n⟩ (.new b) o K := Kn.atG hk.g14 k
theorem Kn.s14 {H n p0 p1 p2 p3 p4 p5 p6 p7 p8 p9 p10 p11 p12 p13 b ao M} (hk : Kn H n (p0 :: p1 :: p2 :: p3 :: p4 :: p5 :: p6 :: p7 :: p8 :: p9 :: p10 :: p11 :: p12 :: p13 :: (b, ao) :: M)) (ao' : AO) : setM (p0 :: p1 :: p2 :: p3 :: p4 :: p5 :: p6 :: p7 :: p8 :: p9 :: p10 :: p11 :: p12 :: p13 :: (b, ao) :: M) b ao' = p0 :: p1 :: p2 :: p3 :: p4 :: p5 :: p6 :: p7 :: p8 :: p9 :: p10 :: p11 :: p12 :: p13 :: (b, ao') :: M := by
  obtain ⟨c, a⟩ := p0
  rw [setM_ne (hk.head_ne (b := b) (ao := ao) (by simp)), hk.tail.s13 ao']
theorem Kn.wr14 {H n p0 p1 p2 p3 p4 p5 p6 p7 p8 p9 p10 p11 p12 p13 b o c op new M} {K : St → Prop} (hk : Kn H n (p0 :: p1 :: p2 :: p3 :: p4 :: p5 :: p6 :: p7 :: p8 :: p9 :: p10 :: p11 :: p12 :: p13 :: (b, .cells c op) :: M)) (hle : Nat.ble (o + new.length) c.length = true) (k : ∀ H', Kn H' n (p0 :: p1 :: p2 :: p3 :: p4 :: p5 :: p6 :: p7 :: p8 :: p9 :: p10 :: p11 :: p12 :: p13 :: (b, .cells (c.take o ++ (new ++ c.drop (o + new.length))) op) :: M) → K ⟨i, H', n⟩) : St.wr ⟨i, H, n⟩ (.new b) o new K :=
  hk.wrG hk.g14 hle fun H' h => k H' (by rw [hk.s14] at h; exact h)
theorem Kn.lk14 {P H n p0 p1 p2 p3 p4 p5 p6 p7 p8 p9 p10 p11 p12 p13 b es clk M kt z key r} {K : V1 → Bool → Prop} (hk : Kn H n (p0 :: p1 :: p2 :: p3 :: p4 :: p5 :: p6 :: p7 :: p8 :: p9 :: p10 :: p11 :: p12 :: p13 :: (b, .map es clk) :: M)) (hr : findA P kt key es 0 = some r) (k : K ((r.map (·.2)).getD z) (r.map (·.2)).isSome) : St.lookup P ⟨i, H, n⟩ kt z (.mk (.new b)) key K := Kn.lookupG hk.g14 hr k
theorem Kn.mn14 {P H n p0 p1 p2 p3 p4 p5 p6 p7 p8 p9 p10 p11 p12 p13 b es clk M kt key x} {K : St → Prop} (hk : Kn H n (p0 :: p1 :: p2 :: p3 :: p4 :: p5 :: p6 :: p7 :: p8 :: p9 :: p10 :: p11 :: p12 :: p13 :: (b, .map es clk) :: M)) (hr : findA P kt key es 0 = some none) (k : ∀ H', Kn H' n (p0 :: p1 :: p2 :: p3 :: p4 :: p5 :: p6 :: p7 :: p8 :: p9 :: p10 :: p11 :: p12 :: p13 :: (b, .map (es ++ [(key, x, clk)]) (clk + 1)) :: M) → K ⟨i, H', n⟩) : St.mput P ⟨i, H, n⟩ kt (.mk (.new b)) key x K :=
  hk.mputNewG hk.g14 hr fun H' h => k H' (by rw [hk.s14] at h; exact h)
theorem Kn.mo14 {P H n p0 p1 p2 p3 p4 p5 p6 p7 p8 p9 p10 p11 p12 p13 b es clk M kt key x j y} {K : St → Prop} (hk : Kn H n (p0 :: p1 :: p2 :: p3 :: p4 :: p5 :: p6 :: p7 :: p8 :: p9 :: p10 :: p11 :: p12 :: p13 :: (b, .map es clk) :: M)) (hr : findA P kt key es 0 = some (some (j, y))) (hkey : keyAt es j key = true) (k : ∀ H', Kn H' n (p0 :: p1 :: p2 :: p3 :: p4 :: p5 :: p6 :: p7 :: p8 :: p9 :: p10 :: p11 :: p12 :: p13 :: (b, .map (es.set j (key, x, (es.getD j (key, x, 0)).2.2)) clk) :: M) → K ⟨i, H', n⟩) : St.mput P ⟨i, H, n⟩ kt (.mk (.new b)) key x K :=
  hk.mputOldG hk.g14 hr hkey fun H' h => k H' (by rw [hk.s14] at h; exact h)
theorem Kn.md14 {P H n p0 p1 p2 p3 p4 p5 p6 p7 p8 p9 p10 p11 p12 p13 b es clk M kt key r} {K : St → Prop} (hk : Kn H n (p0 :: p1 :: p2 :: p3 :: p4 :: p5 :: p6 :: p7 :: p8 :: p9 :: p10 :: p11 :: p12 :: p13 :: (b, .map es clk) :: M)) (hr : findA P kt key es 0 = some r) (k : ∀ H', Kn H' n (p0 :: p1 :: p2 :: p3 :: p4 :: p5 :: p6 :: p7 :: p8 :: p9 :: p10 :: p11 :: p12 :: p13 :: (b, .map (delE es r) clk) :: M) → K ⟨i, H', n⟩) : St.mdel P ⟨i, H, n⟩ kt (.mk (.new b)) key K :=
  hk.mdelG hk.g14 hr fun H' h => k H' (by rw [hk.s14] at h; exact h)
theorem Kn.sr14 {H n p0 p1 p2 p3 p4 p5 p6 p7 p8 p9 p10 p11 p12 p13 b o m cc c op M z} {K : List SV → Nat → Prop} (hk : Kn H n (p0 :: p1 :: p2 :: p3 :: p4 :: p5 :: p6 :: p7 :: p8 :: p9 :: p10 :: p11 :: p12 :: p13 :: (b, .cells c op) :: M)) (hle : Nat.ble (o + m * z) c.length = true) (k : K ((c.drop o).take (m * z)) m) : St.src ⟨i, H, n⟩ z (.mk (.new b) o m cc) K := Kn.srcG hk.g14 hle k
theorem Kn.ag14 {H n p0 p1 p2 p3 p4 p5 p6 p7 p8 p9 p10 p11 p12 p13 b o len m l op M} {e : TypeId} {z by_ : Nat} {new : List SV} {K : LV → St → Prop} (hk : Kn H n (p0 :: p1 :: p2 :: p3 :: p4 :: p5 :: p6 :: p7 :: p8 :: p9 :: p10 :: p11 :: p12 :: p13 :: (b, .cells l op) :: M)) (hm : Nat.beq m 0 = false) (hf : fits by_ (len + m) = true) (hop : op.b = true) (hl : o + len * z = l.length) (hlt : Nat.ble (o + (len + m) * z) l.length = false)
    (k : ∀ H', Kn H' (n + 1) ((n, .cells (l.drop o ++ new) (growOp op o e)) :: p0 :: p1 :: p2 :: p3 :: p4 :: p5 :: p6 :: p7 :: p8 :: p9 :: p10 :: p11 :: p12 :: p13 :: M) → K (.mk (.new n) 0 (len + m) (.inr z)) ⟨i, H', n + 1⟩) : St.app ⟨i, H, n⟩ e z by_ (.mk (.new b) o len (.inr z)) new m K :=
  hk.appGro hk.g14 (hk.ne14) (by repeat (first | exact List.sublist_cons_self _ _ | refine List.Sublist.cons_cons _ ?_)) hm hf hop hl hlt k
theorem Kn.g15 {H n p0 p1 p2 p3 p4 p5 p6 p7 p8 p9 p10 p11 p12 p13 p14 b ao M} (hk : Kn H n (p0 :: p1 :: p2 :: p3 :: p4 :: p5 :: p6 :: p7 :: p8 :: p9 :: p10 :: p11 :: p12 :: p13 :: p14 :: (b, ao) :: M)) : H.get b = some ao := (hk.mem (by simp)).2
theorem Kn.at15 {H n p0 p1 p2 p3 p4 p5 p6 p7 p8 p9 p10 p11 p12 p13 p14 b o c op M} {K : List SV → Prop} (hk : Kn H n (p0 :: p1 :: p2 :: p3 :: p4 :: p5 :: p6 :: p7 :: p8 :: p9 :: p10 :: p11 :: p12 :: p13 :: p14 :: (b, .cells c op) :: M)) (k : K (c.drop o)) : St.at ⟨i, H, n⟩ (.new b) o K := Kn.atG hk.g15 k
theorem Kn.s15 {H n p0 p1 p2 p3 p4 p5 p6 p7 p8 p9 p10 p11 p12 p13 p14 b ao M} (hk : Kn H n (p0 :: p1 :: p2 :: p3 :: p4 :: p5 :: p6 :: p7 :: p8 :: p9 :: p10 :: p11 :: p12 :: p13 :: p14 :: (b, ao) :: M)) (ao' : AO) : setM (p0 :: p1 :: p2 :: p3 :: p4 :: p5 :: p6 :: p7 :: p8 :: p9 :: p10 :: p11 :: p12 :: p13 :: p14 :: (b, ao) :: M) b ao' = p0 :: p1 :: p2 :: p3 :: p4 :: p5 :: p6 :: p7 :: p8 :: p9 :: p10 :: p11 :: p12 :: p13 :: p14 :: (b, ao') :: M := by
  obtain ⟨c, a⟩ := p0
  rw [setM_ne (hk.head_ne (b := b) (ao := ao) (by simp)), hk.tail.s14 ao']
theorem Kn.wr15 {H n p0 p1 p2 p3 p4 p5 p6 p7 p8 p9 p10 p11 p12 p13 p14 b o c op new M} {K : St → Prop} (hk : Kn H n (p0 :: p1 :: p2 :: p3 :: p4 :: p5 :: p6 :: p7 :: p8 :: p9 :: p10 :: p11 :: p12 :: p13 :: p14 :: (b, .cells c op) :: M)) (hle : Nat.ble (o + new.length) c.length = true) (k : ∀ H', Kn H' n (p0 :: p1 :: p2 :: p3 :: p4 :: p5 :: p6 :: p7 :: p8 :: p9 :: p10 :: p11 :: p12 :: p13 :: p14 :: (b, .cells (c.take o ++ (new ++ c.drop (o + new.length))) op) :: M) → K ⟨i, H', n⟩) : St.wr ⟨i, H, n⟩ (.new b) o new K :=
  hk.wrG hk.g15 hle fun H' h => k H' (by rw [hk.s15] at h; exact h)
theorem Kn.lk15 {P H n p0 p1 p2 p3 p4 p5 p6 p7 p8 p9 p10 p11 p12 p13 p14 b es clk M kt z key r} {K : V1 → Bool → Prop} (hk : Kn H n (p0 :: p1 :: p2 :: p3 :: p4 :: p5 :: p6 :: p7 :: p8 :: p9 :: p10 :: p11 :: p12 :: p13 :: p14 :: (b, .map es clk) :: M)) (hr : findA P kt key es 0 = some r) (k : K ((r.map (·.2)).getD z) (r.map (·.2)).isSome) : St.lookup P ⟨i, H, n⟩ kt z (.mk (.new b)) key K := Kn.lookupG hk.g15 hr k
theorem Kn.mn15 {P H n p0 p1 p2 p3 p4 p5 p6 p7 p8 p9 p10 p11 p12 p13 p14 b es clk M kt key x} {K : St → Prop} (hk : Kn H n (p0 :: p1 :: p2 :: p3 :: p4 :: p5 :: p6 :: p7 :: p8 :: p9 :: p10 :: p11 :: p12 :: p13 :: p14 :: (b, .map es clk) :: M)) (hr : findA P kt key es 0 = some none) (k : ∀ H', Kn H' n (p0 :: p1 :: p2 :: p3 :: p4 :: p5 :: p6 :: p7 :: p8 :: p9 :: p10 :: p11 :: p12 :: p13 :: p14 :: (b, .map (es ++ [(key, x, clk)]) (clk + 1)) :: M) → K ⟨i, H', n⟩) : St.mput P ⟨i, H, n⟩ kt (.mk (.new b)) key x K :=
  hk.mputNewG hk.g15 hr fun H' h => k H' (by rw [hk.s15] at h; exact h)
theorem Kn.mo15 {P H n p0 p1 p2 p3 p4 p5 p6 p7 p8 p9 p10 p11 p12 p13 p14 b es clk M kt key x j y} {K : St → Prop} (hk : Kn H n (p0 :: p1 :: p2 :: p3 :: p4 :: p5 :: p6 :: p7 :: p8 :: p9 :: p10 :: p11 :: p12 :: p13 :: p14 :: (b, .map es clk) :: M)) (hr : findA P kt key es 0 = some (some (j, y))) (hkey : keyAt es j key = true) (k : ∀ H', Kn H' n (p0 :: p1 :: p2 :: p3 :: p4 :: p5 :: p6 :: p7 :: p8 :: p9 :: p10 :: p11 :: p12 :: p13 :: p14 :: (b, .map (es.set j (key, x, (es.getD j (key, x, 0)).2.2)) clk) :: M) → K ⟨i, H', n⟩) : St.mput P ⟨i, H, n⟩ kt (.mk (.new b)) key x K :=
  hk.mputOldG hk.g15 hr hkey fun H' h => k H' (by rw [hk.s15] at h; exact h)
theorem Kn.md15 {P H n p0 p1 p2 p3 p4 p5 p6 p7 p8 p9 p10 p11 p12 p13 p14 b es clk M kt key r} {K : St → Prop} (hk : Kn H n (p0 :: p1 :: p2 :: p3 :: p4 :: p5 :: p6 :: p7 :: p8 :: p9 :: p10 :: p11 :: p12 :: p13 :: p14 :: (b, .map es clk) :: M)) (hr : findA P kt key es 0 = some r) (k : ∀ H', Kn H' n (p0 :: p1 :: p2 :: p3 :: p4 :: p5 :: p6 :: p7 :: p8 :: p9 :: p10 :: p11 :: p12 :: p13 :: p14 :: (b, .map (delE es r) clk) :: M) → K ⟨i, H', n⟩) : St.mdel P ⟨i, H, n⟩ kt (.mk (.new b)) key K :=
  hk.mdelG hk.g15 hr fun H' h => k H' (by rw [hk.s15] at h; exact h)
theorem Kn.sr15 {H n p0 p1 p2 p3 p4 p5 p6 p7 p8 p9 p10 p11 p12 p13 p14 b o m cc c op M z} {K : List SV → Nat → Prop} (hk : Kn H n (p0 :: p1 :: p2 :: p3 :: p4 :: p5 :: p6 :: p7 :: p8 :: p9 :: p10 :: p11 :: p12 :: p13 :: p14 :: (b, .cells c op) :: M)) (hle : Nat.ble (o + m * z) c.length = true) (k : K ((c.drop o).take (m * z)) m) : St.src ⟨i, H, n⟩ z (.mk (.new b) o m cc) K := Kn.srcG hk.g15 hle k
theorem Kn.ag15 {H n p0 p1 p2 p3 p4 p5 p6 p7 p8 p9 p10 p11 p12 p13 p14 b o len m l op M} {e : TypeId} {z by_ : Nat} {new : List SV} {K : LV → St → Prop} (hk : Kn H n (p0 :: p1 :: p2 :: p3 :: p4 :: p5 :: p6 :: p7 :: p8 :: p9 :: p10 :: p11 :: p12 :: p13 :: p14 :: (b, .cells l op) :: M)) (hm : Nat.beq m 0 = false) (hf : fits by_ (len + m) = true) (hop : op.b = true) (hl : o + len * z = l.length) (hlt : Nat.ble (o + (len + m) * z) l.length = false)
    (k : ∀ H', Kn H' (n + 1) ((n, .cells (l.drop o ++ new) (growOp op o e)) :: p0 :: p1 :: p2 :: p3 :: p4 :: p5 :: p6 :: p7 :: p8 :: p9 :: p10 :: p11 :: p12 :: p13 :: p14 :: M) → K (.mk (.new n) 0 (len + m) (.inr z)) ⟨i, H', n + 1⟩) : St.app ⟨i, H, n⟩ e z by_ (.mk (.new b) o len (.inr z)) new m K :=
  hk.appGro hk.g15 (hk.ne15) (by repeat (first | exact List.sublist_cons_self _ _ | refine List.Sublist.cons_cons _ ?_)) hm hf hop hl hlt k
/- The semantic tables: functions and pieces are what they come to. -/
theorem DS_ok (P : Program) (G : Nat → Bool) : DOK P G (CallOK P G) := fun _ _ _ _ h => h
def JS (P : Program) (G : Nat → Bool) (fn : Func) (T : Nat → List Item × List Nat) : Disp := fun p vals S K => (∀ t ∈ (T p).2, t < 256) ∧ Runs P G fn (T p).1 (envOf (T p).2 vals) S K
theorem JS_ok (P : Program) (G : Nat → Bool) (fn : Func) (T : Nat → List Item × List Nat) : JOK P G fn T (JS P G fn T) := fun _ _ _ _ h => h
theorem CallOK.e {P G f args S K} (h : CallE P G f args S K) : CallOK P G f args S K := .inl h
theorem iw64 {n : Int} (h0 : -9223372036854775808 ≤ n) (h1 : n ≤ 9223372036854775807) : iwrap .i64 n = n := by rw [iwrap_eq]; exact wrap_id .i64 _ h0 h1
end Go.Xe
