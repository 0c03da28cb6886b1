/- Executor, second make: operations that come to one thing alone. -/
import Derived.Test.YtgjggcgdilahdaaX14
set_option linter.unusedVariables false
set_option linter.unusedSimpArgs false
set_option linter.constructorNameAsVariable false
set_option linter.unusedVariables false
set_option linter.unusedSimpArgs false
namespace Go.Xe
open Go.RowKit

def Det {α : Type} (T : (α → Prop) → Prop) : Prop := ∀ K, T K → ∃ v, K v ∧ T fun x => x = v
section
variable {α β : Type}
theorem det_k (a : α) : Det (fun K : α → Prop => K a) := fun K h => ⟨a, h, rfl⟩
theorem det_false : Det (fun _ : α → Prop => False) := fun K h => h.elim
theorem det_opt (x : Option β) {T : β → (α → Prop) → Prop} (h : ∀ a, Det (T a)) : Det (fun K => optK x fun a => T a K) := by
  intro K hh; cases x; exact hh.elim; exact h _ K hh
theorem det_req (c : Bool) {T : (α → Prop) → Prop} (h : Det T) : Det (fun K => req c (T K)) := by
  intro K hh; cases c; exact hh.elim; exact h K hh
theorem det_pv (p : PV) {T : Bk → Nat → (α → Prop) → Prop} (h : ∀ b o, Det (T b o)) : Det (fun K => p.cs fun b o => T b o K) := by
  intro K hh; cases p; exact hh.elim; exact h _ _ K hh
theorem det_lv (p : LV) {T : Bk → Nat → Nat → Nat ⊕ Nat → (α → Prop) → Prop} (h : ∀ b o n c, Det (T b o n c)) : Det (fun K => p.cs fun b o n c => T b o n c K) := by
  intro K hh; cases p; exact hh.elim; exact h _ _ _ _ K hh
theorem det_sc (x : AV) {T : SV → (α → Prop) → Prop} (h : ∀ v, Det (T v)) : Det (fun K => scK x fun v => T v K) := by
  intro K hh
  obtain ⟨v, rfl, h1⟩ := scK_some hh
  exact h v K h1
theorem det_one (x : AV) {T : V1 → (α → Prop) → Prop} (h : ∀ v, Det (T v)) : Det (fun K => oneK x fun v => T v K) := by
  intro K hh
  obtain ⟨v, rfl, h1⟩ := oneK_some hh
  exact h v K h1
theorem det_at (S : St) (b : Bk) (o : Nat) {T : List SV → (α → Prop) → Prop} (h : ∀ l, Det (T l)) : Det (fun K => S.at b o fun l => T l K) := by
  intro K hh
  unfold St.at at hh ⊢
  split at hh
  · exact h _ K hh
  · exact (det_req _ (h _)) K hh
  · exact hh.elim
theorem det_mp (S : St) (m : MV) {T : List (V1 × V1 × Nat) → (α → Prop) → Prop} (h : ∀ l, Det (T l)) : Det (fun K => S.mp m fun l => T l K) := by
  intro K hh
  unfold St.mp at hh ⊢
  cases m with
  | nil => exact h _ K hh
  | mk b =>
    dsimp only at hh ⊢
    split at hh
    · exact h _ K hh
    · exact hh.elim
theorem det_tk (z v : SV) {T : SV → (α → Prop) → Prop} (h : ∀ v, Det (T v)) : Det (fun K => tkK z v fun x => T x K) := by
  cases z <;> cases v <;> first | exact det_false | exact h _ | exact det_req _ (h _)
theorem det_unc (l : List SV) {T : SV → List SV → (α → Prop) → Prop} (h : ∀ v r, Det (T v r)) : Det (fun K => uncK l fun v r => T v r K) := by
  intro K hh; cases l; exact hh.elim; exact h _ _ K hh
theorem det_take : ∀ (zs l : List SV) {T : List SV → (α → Prop) → Prop} (_ : ∀ v, Det (T v)), Det (fun K => takeK zs l fun vs => T vs K)
  | [], l, T, h => h []
  | z :: zs, l, T, h => det_unc l fun v r => det_tk z v fun v => det_take zs r fun vs => h (v :: vs)
theorem det_take1 (z v : V1) {T : V1 → (α → Prop) → Prop} (h : ∀ v, Det (T v)) : Det (fun K => take1K z v fun x => T x K) := by
  cases z <;> cases v <;> first | exact det_false | exact det_tk _ _ fun v => h _ | exact det_req _ (det_take _ _ fun v => h _)
end
theorem det_gv (r : Option (Bool × SV)) : Det (gvK r) := by
  cases r with
  | none => exact det_false
  | some p => exact det_req _ (det_k _)
theorem det_eq (op : BinOp) (r : Option Bool) : Det (eqK op r) := by
  cases op <;> first | exact det_false | exact det_opt _ fun b => det_k _
theorem det_bin (P : Program) (op : BinOp) (t : TypeId) (x y : V1) : Det (binK P op t x y) := by
  rcases x with x | x <;> rcases y with y | y
  · cases x <;> cases y <;> first | exact det_eq _ _ | exact det_gv _ | (intro K h; unfold binK at h ⊢; dsimp only at h ⊢; split at h; exact det_gv _ K h; split at h; exact det_gv _ K h; exact h.elim)
  · cases x <;> exact det_eq _ _
  · exact det_eq _ _
  · intro K h; unfold binK at h ⊢; dsimp only at h ⊢; split at h
    · exact h.elim
    · exact det_eq _ _ K h
theorem det_un (op : UnOp) (x : SV) : Det (unK op x) := by
  cases op <;> cases x <;> first | exact det_false | exact det_k _
theorem det_conv (P : Program) (s d : TypeId) (x : SV) : Det (convK P s d x) := by
  intro K h
  unfold convK at h ⊢
  split at h
  · split at h
    · exact ⟨_, h, rfl⟩
    · exact h.elim
  · split at h
    · exact ⟨_, h, rfl⟩
    · exact h.elim
  · exact h.elim
theorem det_fieldAddr (P : Program) (s : TypeId) (x : SV) (f : Nat) : Det (fieldAddrK P s x f) := by
  cases x <;> first | exact det_false | exact det_opt _ fun off => det_pv _ fun b o => det_k _
theorem det_indexAddr (P : Program) (t : TypeId) (x i : SV) : Det (indexAddrK P t x i) := by
  cases i <;> try exact det_false
  rename_i k i
  intro K h
  unfold indexAddrK at h ⊢
  dsimp only at h ⊢
  split at h
  · exact (det_opt _ fun z => det_pv _ fun b o => det_req _ (det_k _)) K h
  · exact (det_opt _ fun z => det_lv _ fun b o n c => det_req _ (det_k _)) K h
  · exact h.elim
theorem det_index (P : Program) (t : TypeId) (x : V1) (i : SV) : Det (indexK P t x i) := by
  cases i <;> try exact det_false
  rename_i k i
  intro K h
  unfold indexK at h ⊢
  dsimp only at h ⊢
  split at h
  · exact (det_req _ (det_k _)) K h
  · exact (det_opt _ fun z => det_req _ (det_opt _ fun v => det_k _)) K h
  · exact h.elim
theorem det_field (P : Program) (t : TypeId) (x : V1) (f : Nat) : Det (fieldK P t x f) := by
  cases x with
  | s v => exact det_false
  | agg cs =>
    intro K h
    unfold fieldK at h ⊢
    dsimp only at h ⊢
    split at h
    · split at h
      · exact (det_opt _ fun v => det_k _) K h
      · exact h.elim
    · exact h.elim
theorem det_extract (x : AV) (i : Nat) : Det (extractK x i) := by
  cases x <;> first | exact det_false | exact det_opt _ fun v => det_k _
theorem det_bnd {α : Type} (e : Ev) (x : Option Operand) {T : Option Int → (α → Prop) → Prop} (h : ∀ v, Det (T v)) : Det (fun K => bndK e x fun v => T v K) := by
  cases x with
  | none => exact h none
  | some x =>
    intro K hh
    unfold bndK at hh ⊢
    dsimp only at hh ⊢
    split at hh
    · exact h _ K hh
    · exact hh.elim
theorem det_slice (P : Program) (t : TypeId) (x : SV) (lo hi mx : Option Int) : Det (sliceK P t x lo hi mx) := by
  intro K h
  unfold sliceK at h ⊢
  split at h
  · cases mx with
    | some m => exact h.elim
    | none => exact (det_req _ (det_k _)) K h
  · rename_i e s h1
    generalize sizeA P e = q at h ⊢
    cases q with
    | none => exact h.elim
    | some z =>
      cases s with
      | nil => exact (det_req _ (det_k _)) K h
      | mk b o n c =>
        cases c with
        | inl c => exact (det_req _ (det_k _)) K h
        | inr z' =>
          cases mx with
          | none => exact (det_req _ (det_req _ (det_k _))) K h
          | some m => exact (det_req _ (det_req _ (det_k _))) K h
  · exact h.elim
theorem det_ptrs {α : Type} (e : Ev) : ∀ (l : List Operand) {T : List (Bk × Nat) → (α → Prop) → Prop} (_ : ∀ v, Det (T v)), Det (fun K => ptrsK e l fun v => T v K)
  | [], T, h => h []
  | x :: l, T, h => det_sc _ fun v => by
    cases v <;> first | exact det_false | exact det_pv _ fun b o => det_ptrs e l fun m => h _
theorem det_pure (P : Program) (e : Ev) (o : Op) : Det (pureK P e o) := by
  intro K h
  unfold pureK at h ⊢
  split at h
  · exact ⟨_, h, rfl⟩
  · exact ⟨_, h, rfl⟩
  · obtain ⟨v, hv, h⟩ := scK_some h
    rw [hv]
    cases v <;> try exact h.elim
    rename_i b; cases b <;> exact ⟨_, h, rfl⟩
  · exact (det_one _ fun a => det_one _ fun b => det_bin _ _ _ _ _) K h
  · exact (det_sc _ fun a => det_un _ _) K h
  · exact (det_sc _ fun a => det_conv _ _ _ _) K h
  · exact (det_sc _ fun a => det_fieldAddr _ _ _ _) K h
  · exact (det_sc _ fun a => det_sc _ fun b => det_indexAddr _ _ _ _) K h
  · exact (det_one _ fun a => det_sc _ fun b => det_index _ _ _ _) K h
  · exact (det_one _ fun a => det_field _ _ _ _) K h
  · exact (det_extract _ _) K h
  · exact (det_opt _ fun m => det_opt _ fun v => det_k _) K h
  · exact (det_sc _ fun a => det_bnd _ _ fun l => det_bnd _ _ fun h => det_bnd _ _ fun m => det_slice _ _ _ _ _ _) K h
  · obtain ⟨v, hv, h⟩ := scK_some h
    rw [hv]
    cases v <;> try exact h.elim
    · exact (det_pv _ fun b o => det_k _) K h
    · rename_i f
      cases f with
      | nil => exact h.elim
      | mk g a c => cases g <;> first | exact h.elim | exact ⟨_, h, rfl⟩
  · exact (det_ptrs _ _ fun x => det_ptrs _ _ fun y => det_k _) K h
  · split at h
    · skip
      obtain ⟨v, hv, h⟩ := scK_some h
      obtain ⟨u, hu, h⟩ := scK_some h
      rw [hv, hu]
      cases v <;> cases u <;> first | exact h.elim | exact ⟨_, h, rfl⟩
    · exact h.elim
  · split at h
    · skip
      obtain ⟨v, hv, h⟩ := scK_some h
      obtain ⟨u, hu, h⟩ := scK_some h
      rw [hv, hu]
      cases v <;> cases u <;> first | exact h.elim | exact ⟨_, h, rfl⟩
    · exact h.elim
  · exact h.elim

/- Reads. -/
noncomputable abbrev readK (P : Program) (S : St) (e : Ev) (ty : TypeId) (o : Op) (K : AV → Prop) : Prop :=
  match o with
  | .load t x => scK (e x) fun a => loadK P S t a K
  | .lookup t m k ok => scK (e m) fun a => oneK (e k) fun b => lookupK P S t a b ok K
  | .convert s d x => scK (e x) fun a => bytesK P S s d a K
  | .entry it => scK (e it) fun a => entryK P S ty a K
  | .call ⟨.builtin .len, args, ts⟩ => (match args.toList, ts.toList with
    | [x], [t] => oneK (e x) fun a => lenK P S t a K
    | _, _ => False)
  | _ => False
theorem det_load (P : Program) (S : St) (t : TypeId) (x : SV) : Det (loadK P S t x) := by
  intro K h
  unfold loadK at h ⊢
  split at h
  · split at h
    · obtain ⟨n, hn, h⟩ := optK_some h
      obtain ⟨z, hz, h⟩ := optK_some h
      rw [hn, hz]
      cases z with
      | s v => exact h.elim
      | agg zs => exact (det_req _ (det_pv _ fun b o => det_at _ _ _ fun l => det_take _ _ fun vs => det_k _)) K h
    · obtain ⟨z, hz, h⟩ := optK_some h
      rw [hz]
      cases z with
      | s v => exact (det_pv _ fun b o => det_at _ _ _ fun l => det_unc _ fun v r => det_tk _ _ fun v => det_k _) K h
      | agg zs => exact h.elim
    · exact h.elim
  · exact h.elim
theorem det_look {α : Type} (P : Program) (S : St) (kt : TypeId) (z : V1) (m : MV) (k : V1) {T : V1 → Bool → (α → Prop) → Prop} (hT : ∀ v is, Det (T v is)) : Det (fun K => S.lookup P kt z m k fun v is => T v is K) := by
  intro K h
  unfold St.lookup at h ⊢
  cases m with
  | nil =>
    exact (det_mp S .nil fun es => det_opt (findA P kt k es 0) fun r => hT _ _) K h
  | mk b =>
    dsimp only at h ⊢
    cases hg : S.get b with
    | none =>
      rw [hg] at h
      exact (det_mp S (.mk b) fun es => det_opt (findA P kt k es 0) fun r => hT _ _) K h
    | some ao =>
      rw [hg] at h
      cases ao with
      | dict es => exact (det_opt (dictA P kt k es) fun r => hT _ _) K h
      | cells l op => exact (det_mp S (.mk b) fun es => det_opt (findA P kt k es 0) fun r => hT _ _) K h
      | wide n z t => exact (det_mp S (.mk b) fun es => det_opt (findA P kt k es 0) fun r => hT _ _) K h
      | map es c => exact (det_mp S (.mk b) fun es => det_opt (findA P kt k es 0) fun r => hT _ _) K h
      | iter a b c d => exact (det_mp S (.mk _) fun es => det_opt (findA P kt k es 0) fun r => hT _ _) K h
theorem det_lookup (P : Program) (S : St) (t : TypeId) (m : SV) (k : V1) (ok : Bool) : Det (lookupK P S t m k ok) := by
  intro K h
  unfold lookupK at h ⊢
  split at h
  · obtain ⟨z, hz, h⟩ := optK_some h
    rw [hz]
    split at h
    · obtain ⟨v, h2, h3⟩ := (det_look P S _ z _ k fun v is => det_take1 z v fun v => det_k (okV ok v is)) K h
      exact ⟨v, h2, h3⟩
    · exact h.elim
  · exact h.elim
theorem det_len (P : Program) (S : St) (t : TypeId) (x : V1) : Det (lenK P S t x) := by
  intro K h
  unfold lenK at h ⊢
  split at h
  · obtain ⟨y, rfl, h1⟩ := v1S_some h
    obtain ⟨s, rfl, h2⟩ := cS_some h1
    exact ⟨_, h2, rfl⟩
  · obtain ⟨y, rfl, h1⟩ := v1S_some h
    obtain ⟨s, rfl, h2⟩ := cL_some h1
    exact ⟨_, h2, rfl⟩
  · exact ⟨_, h, rfl⟩
  · obtain ⟨y, rfl, h1⟩ := v1S_some h
    obtain ⟨s, rfl, h2⟩ := cM_some h1
    obtain ⟨v, h3, h4⟩ := (det_mp S s fun es => det_k (AV.one (V1.s (SV.int .i64 (Int.ofNat es.length))))) K h2
    exact ⟨v, h3, h4⟩
  · exact h.elim
theorem det_bytes (P : Program) (S : St) (s d : TypeId) (x : SV) : Det (bytesK P S s d x) := by
  intro K h
  unfold bytesK at h ⊢
  split at h
  · skip
    split at h
    · skip
      unfold St.text at h ⊢
      split at h
      · exact ⟨_, h, rfl⟩
      · split at h
        · skip
          exact (det_req _ (det_opt _ fun m => det_k _)) K h
        · exact h.elim
    · exact h.elim
  · exact h.elim
theorem det_ent {α : Type} (S : St) (b : Bk) {T : Ent → (α → Prop) → Prop} (h : ∀ e, Det (T e)) : Det (fun K => S.ent b fun e => T e K) := by
  intro K hh
  unfold St.ent at hh ⊢
  cases b with
  | inp r => exact hh.elim
  | new k =>
    dsimp only at hh ⊢
    split at hh
    · skip
      split at hh
      · skip
        obtain ⟨h3, h4⟩ := req_and hh
        rw [h3]
        split at h4
        · exact (det_opt _ fun e => h e) K h4
        · exact h4.elim
      · exact hh.elim
    · exact hh.elim
theorem det_entry (P : Program) (S : St) (ty : TypeId) (x : SV) : Det (entryK P S ty x) := by
  cases x <;> try exact det_false
  refine det_pv _ fun b o => det_req _ ?_
  intro K h
  split at h
  · skip
    split at h
    · exact (det_opt _ fun zk => det_opt _ fun zv => det_ent _ _ fun e => det_take1 _ _ fun k => det_take1 _ _ fun v => det_k _) K h
    · exact h.elim
  · exact h.elim
theorem det_read (P : Program) (S : St) (e : Ev) (ty : TypeId) (o : Op) : Det (readK P S e ty o) := by
  intro K h
  unfold readK at h ⊢
  split at h
  · exact (det_sc _ fun a => det_load _ _ _ _) K h
  · exact (det_sc _ fun a => det_one _ fun b => det_lookup _ _ _ _ _ _) K h
  · exact (det_sc _ fun a => det_bytes _ _ _ _ _) K h
  · exact (det_sc _ fun a => det_entry _ _ _ _) K h
  · split at h
    · exact (det_one _ fun a => det_len _ _ _ _) K h
    · exact h.elim
  · exact h.elim
theorem readK_run {P S e} {o : Oper} {K} (h : readK P S e o.type o.op K) {ρ c} (he : EvR ρ e c) {base next w} (hw : Sim base ρ S.get next w) : ∃ v cv, K v ∧ VR ρ v cv ∧ (execOp c o).run P w = .ok (.value cv) w := by
  have reads : ∀ {s : Sem Value}, Reads base P ρ S K s → execOp c o = (do pure (.value (← s))) → ∃ v cv, K v ∧ VR ρ v cv ∧ (execOp c o).run P w = .ok (.value cv) w := by
    rintro s ⟨v, h1, h2⟩ he
    obtain ⟨cv, h3, h4⟩ := h2 _ _ hw
    exact ⟨v, cv, h1, h3, by rw [he]; simp [h4]⟩
  obtain ⟨dst, op, ty, pos, aft, gd⟩ := o
  unfold readK at h
  simp only at h
  split at h
  · obtain ⟨v, hv, h⟩ := scK_some h
    exact reads (loadK_run h (he.sc hv) base) rfl
  · obtain ⟨v, hv, h⟩ := scK_some h
    obtain ⟨u, hu, h⟩ := oneK_some h
    exact reads (lookupK_run h (he.sc hv) (he.one hu) base) rfl
  · obtain ⟨v, hv, h⟩ := scK_some h
    exact reads (bytesK_run h (he.sc hv) base) rfl
  · obtain ⟨v, hv, h⟩ := scK_some h
    exact reads (entryK_run h (he.sc hv) base) rfl
  · split at h
    · rename_i x t hl ht
      obtain ⟨v, hv, h⟩ := oneK_some h
      obtain rfl := toList1 hl
      obtain rfl := toList1 ht
      exact reads (lenK_run h (he.one hv) base ty) (by simp [execOp, resolve, invoke, builtin])
    · exact h.elim
  · exact h.elim

/- New memory. -/
structure Made where
  ao : AO
  v : Bk → SV
noncomputable abbrev madeK (P : Program) (e : Ev) (o : Op) (K : Made → Prop) : Prop :=
  match o with
  | .alloc t => optK (zeroA P t) fun z => K ⟨.cells z.cells (.ty t), fun b => .ptr (.mk b 0)⟩
  | .box t x => oneK (e x) fun a => K ⟨.cells a.cells (.ty t), fun b => .ptr (.mk b 0)⟩
  | .buildSlice t len ps => optK (evParts e ps.toList) fun m => (match P.underlying t with
    | some (.slice el) => optK (sizeA P el) fun z => optK (zeroA P el) fun zv => req (Nat.beq zv.cells.length z && Nat.blt (len * z) 16777217)
        (optK (fillA (fun i => some (i * z, z)) (rep zv.cells len) m) fun l => K ⟨.cells l .sh, fun b => .sl (.mk b 0 len (.inl len))⟩)
    | _ => False)
  | .makeMap t none => K ⟨.map [] 0, fun b => .map (.mk b)⟩
  | .makeSlice t l c => scK (e l) fun l => scK (e c) fun c => (match P.underlying t, l, c with
    | some (.slice el), .int .i64 l, .int .i64 c => optK (sizeA P el) fun z => optK (zeroA P el) fun zv => optK (P.info? el) fun i =>
      req (Nat.beq zv.cells.length z && Nat.ble i.bytes 100000) (req (ile 0 l && (ile l c && ile c 2000000)) (K ⟨rowAO zv.cells c.toNat, fun b => .sl (.mk b 0 l.toNat (.inl c.toNat))⟩))
    | _, _, _ => False)
  | _ => False
theorem det_made (P : Program) (e : Ev) (o : Op) : Det (madeK P e o) := by
  intro K h
  unfold madeK at h ⊢
  split at h
  · exact (det_opt _ fun z => det_k _) K h
  · exact (det_one _ fun z => det_k _) K h
  · obtain ⟨m, hm, h⟩ := optK_some h
    rw [hm]
    dsimp only
    split at h
    · exact (det_opt _ fun z => det_opt _ fun zv => det_req _ (det_opt _ fun l => det_k _)) K h
    · exact h.elim
  · exact ⟨_, h, rfl⟩
  · obtain ⟨l, hl, h⟩ := scK_some h
    obtain ⟨c, hc, h⟩ := scK_some h
    rw [hl, hc]
    dsimp only
    split at h
    · have hpu := ‹P.underlying _ = some (TypeDesc.slice _)›
      obtain ⟨v, h2, h3⟩ := (det_opt _ fun z => det_opt _ fun zv => det_opt _ fun i => det_req _ (det_req _ (det_k _))) K h
      refine ⟨v, h2, ?_⟩
      dsimp only [scK]
      rw [hpu]
      exact h3
    · exact h.elim
  · exact h.elim
end Go.Xe
