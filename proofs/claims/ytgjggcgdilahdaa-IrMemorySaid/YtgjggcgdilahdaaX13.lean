/- Executor, second make: one operation; a row of operations. -/
import Derived.Test.YtgjggcgdilahdaaX12
set_option linter.unusedVariables false
set_option linter.unusedSimpArgs false
set_option linter.constructorNameAsVariable false
set_option linter.unusedVariables false
set_option linter.unusedSimpArgs false
namespace Go.Xe
open Go.RowKit

/-- What functions come to: by their number, of what is handed in, in a memory. -/
abbrev Disp := Nat → List AV → St → (AV → St → Prop) → Prop

def Post (base : Nat) (ρ : Ren) (S : St) (w : World) (K : AV → St → Prop) : Ending → World → Prop := fun e w' =>
  ∃ v S' cv ρ', K v S' ∧ e = .returned cv ∧ VR ρ' v cv ∧ Next base ρ S.get S.next w S'.get S'.next ρ' w'
def Enters (P : Program) (f : Nat) : Prop := ∃ fn, P.funcs[f]? = some fn ∧ (fn.name == "runtime.NumGoroutine") = false ∧ fn.body.isNone = false
def CallE (P : Program) (G : Nat → Bool) (f : Nat) (args : List AV) (S : St) (K : AV → St → Prop) : Prop :=
  Enters P f ∧ ∀ base ρ w (vs : List Value), Sim base ρ S.get S.next w → GOK G ρ → All2 (VR ρ) args vs → Calls P f vs.toArray w (Post base ρ S w K)
/-- A function without a body, that the model carries out at once. -/
def CallX (P : Program) (G : Nat → Bool) (f : Nat) (args : List AV) (S : St) (K : AV → St → Prop) : Prop :=
  ∀ base ρ w (vs : List Value), Sim base ρ S.get S.next w → GOK G ρ → All2 (VR ρ) args vs → ∃ cv w', (callFunc f vs.toArray).run P w = .ok (.value cv) w' ∧ Post base ρ S w K (.returned cv) w'
def CallOK (P : Program) (G : Nat → Bool) (f : Nat) (args : List AV) (S : St) (K : AV → St → Prop) : Prop :=
  CallE P G f args S K ∨ CallX P G f args S K
def DOK (P : Program) (G : Nat → Bool) (D : Disp) : Prop := ∀ f args S K, D f args S K → CallOK P G f args S K
theorem CallE.mono {P G f args S K K'} (h : CallE P G f args S K) (hK : ∀ v S', K v S' → K' v S') : CallE P G f args S K' :=
  ⟨h.1, fun base ρ w vs h1 h2 h3 => (h.2 base ρ w vs h1 h2 h3).mono fun e w' ⟨v, S', cv, ρ', k, r⟩ => ⟨v, S', cv, ρ', hK _ _ k, r⟩⟩
theorem CallOK.mono {P G f args S K K'} (h : CallOK P G f args S K) (hK : ∀ v S', K v S' → K' v S') : CallOK P G f args S K' := by
  rcases h with h | h
  · exact .inl (h.mono hK)
  · refine .inr fun base ρ w vs h1 h2 h3 => ?_
    obtain ⟨cv, w', g1, v, S', cv', ρ', k, r⟩ := h base ρ w vs h1 h2 h3
    exact ⟨cv, w', g1, v, S', cv', ρ', hK _ _ k, r⟩

def ptrAV (p : Bk × Nat) : AV := .one (.s (.ptr (.mk p.1 p.2)))
theorem ptrAV_ok {ρ : Ren} : ∀ {l : List (Bk × Nat)} {vs : List Value}, All2 (PtrR ρ) l vs → All2 (VR ρ) (l.map ptrAV) vs
  | _, _, .nil => .nil
  | _, _, .cons h t => .cons h (ptrAV_ok t)

/-- A map's entry that was stepped to last. -/
def St.ent (S : St) (it : Bk) (K : Ent → Prop) : Prop := match it with
  | .inp _ => False
  | .new k => match S.H.get k with
    | some (.iter (.mk b) since seen last) => (match S.get b with
      | some (.map es clk) => req (Nat.beq clk last) (match seen.getLast? with
        | some stamp => optK (es.find? fun e => Nat.beq e.2.2 stamp) K
        | none => False)
      | _ => False)
    | _ => False
noncomputable abbrev entryK (P : Program) (S : St) (ty : TypeId) (it : SV) (K : AV → Prop) : Prop :=
  match it with
  | .ptr p => PV.cs p fun b o => req (Nat.beq o 0) (match P.underlying ty with
    | some (.tuple ts) => (match ts.toList with
      | [k, v] => optK (zeroA P k) fun zk => optK (zeroA P v) fun zv => S.ent b fun e => take1K zk e.1 fun k => take1K zv e.2.1 fun v => K (.tup [k, v])
      | _ => False)
    | _ => False)
  | _ => False
theorem find_rel {ρ : Ren} {f : Ent → Bool} {g : MapEntry → Bool} (hfg : ∀ e x, ER1 ρ e x → f e = g x) : ∀ {es : List Ent} {xs : List MapEntry}, All2 (ER1 ρ) es xs → ∀ {e}, es.find? f = some e → ∃ x, xs.find? g = some x ∧ ER1 ρ e x
  | _, _, .nil, e, h => by simp at h
  | a :: es, x :: xs, .cons h t, e, hf => by
    have := hfg a x h
    cases hb : f a with
    | true => rw [List.find?_cons_of_pos hb] at hf; cases hf; exact ⟨x, by rw [List.find?_cons_of_pos (by rw [← this]; exact hb)], h⟩
    | false =>
      rw [List.find?_cons_of_neg (by simp [hb])] at hf
      obtain ⟨y, h1, h2⟩ := find_rel hfg t hf
      exact ⟨y, by rw [List.find?_cons_of_neg (by rw [← this]; simp [hb])]; exact h1, h2⟩
theorem entryK_run {P S ty it K} (h : entryK P S ty it K) {ρ : Ren} {ci} (hi : SR ρ it ci) (base : Nat) : Reads base P ρ S K (Instr.entry ci) := by
  unfold entryK at h
  split at h
  · obtain ⟨b, o, rfl, hq⟩ := PV.cs_mk h
    clear h
    obtain ⟨ho, h⟩ := req_and hq
    obtain rfl := Nat.eq_of_beq_eq_true ho
    split at h
    case h_2 => exact h.elim
    split at h
    · obtain ⟨zk, _, h⟩ := optK_some h
      obtain ⟨zv, _, h⟩ := optK_some h
      unfold St.ent at h
      cases b with
      | inp _ => exact h.elim
      | new k =>
        dsimp only at h
        split at h
        · rename_i b since seen last hb
          split at h
          · rename_i es clk hg
            obtain ⟨hcl, hq2⟩ := req_and h
            clear h hq
            obtain rfl := Nat.eq_of_beq_eq_true hcl
            have h := hq2
            clear hq2
            split at h
            · rename_i stamp hs
              obtain ⟨e, hf, h⟩ := optK_some h
              have h10 := take1K_some (take1K_some h)
              refine ⟨_, h10, fun next w hw => ?_⟩
              obtain ⟨r, sh, m, h1, rfl⟩ := hi
              obtain ⟨r', sh', m', h2, mm, h3, ⟨rm, shm, mmm, h4, rfl⟩, h5⟩ := hw.obj (.new k) _ hb
              rw [h1] at h2; cases h2
              subst h5
              obtain ⟨r'', sh'', m'', h6, xs, h7, h8⟩ := hw.objM hg
              rw [h4] at h6; cases h6
              obtain ⟨x, g1, g2⟩ := find_rel (g := fun e : MapEntry => e.born == stamp) (fun e x her => by rw [her.2.2]; rw [beq_eq, Bool.eq_iff_iff]; simp) h8 hf
              refine ⟨.tuple #[x.key, x.val], ⟨[x.key, x.val], rfl, .cons g2.1 (.cons g2.2.1 .nil)⟩, ?_⟩
              have hsb : seen.toArray.back? = some stamp := by simpa using hs
              have hfx : xs.toArray.find? (fun e => e.born == stamp) = some x := by simpa using g1
              simp [Instr.entry, getObj, Sem.run, h3, h7, hs, hfx]
            · exact h.elim
          · exact h.elim
        · exact h.elim
    · exact h.elim
  · exact h.elim

/-- A call. -/
noncomputable abbrev callK (D : Disp) (S : St) (e : Ev) (f : Operand) (args : List Operand) (K : AV → St → Prop) : Prop :=
  scK (e f) fun a => (match a with
    | .fn g => FV.cs g fun f a c => (match f with | .func k => D k (a.map ptrAV ++ (evList e args ++ c.map ptrAV)) S K | _ => False)
    | _ => False)
theorem callK_wp {P D G} (hD : DOK P G D) {e S K} {dst ty pos aft gd} {g : Operand} {args : Array Operand} {ts} (h : callK D S e g args.toList K) {a : Act} {ρ : Ren} (he : EvR ρ e a.eval) (hG : GOK G ρ) {base w} (hw : Sim base ρ S.get S.next w)
    {KA : Act → World → Prop} {Q : Exit → Act → World → Prop} (hK : ∀ v S' cv ρ' w', K v S' → VR ρ' v cv → Next base ρ S.get S.next w S'.get S'.next ρ' w' → KA (a.put dst cv) w') : (⟨dst, .call ⟨.value g, args, ts⟩, ty, pos, aft, gd⟩ : Oper).wp P a w KA Q := by
  obtain ⟨v, hv, h⟩ := scK_some h
  split at h
  · obtain ⟨f, l, c, rfl, hq⟩ := FV.cs_mk h
    clear h
    split at hq
    · rename_i k
      obtain ⟨xs, ys, h1, h2, h3⟩ := he.sc hv
      have h4 : All2 (VR ρ) (evList e args.toList) (args.toList.map a.eval) := evList_ok he
      have e1 : (xs ++ (args.toList.map a.eval ++ ys)).toArray = xs.toArray ++ args.map a.eval ++ ys.toArray := by apply Array.ext'; simp
      rcases hD _ _ _ _ hq with ⟨hent, hc⟩ | hx
      case inr =>
        obtain ⟨cv, w', g1, v, S', cv', ρ', k1, k0, k2, k3⟩ := hx base ρ w _ hw hG ((ptrAV_ok h2).append (h4.append (ptrAV_ok h3)))
        cases k0
        rw [e1] at g1
        unfold Oper.wp
        have hrun : (execOp a.eval (⟨dst, .call ⟨.value g, args, ts⟩, ty, pos, aft, gd⟩ : Oper)).run P w = .ok (.value cv) w' := by
          simp only [execOp, resolve, h1, Deferred.ofValue, Sem.run_bind, Sem.run_pure, Result.andThen_ok, invoke]
          exact g1
        rw [hrun]
        exact hK v S' cv ρ' w' k1 k2 k3
      have hcall := hc base ρ w _ hw hG ((ptrAV_ok h2).append (h4.append (ptrAV_ok h3)))
      obtain ⟨fn, g1, g2, g3⟩ := hent
      rw [e1] at hcall
      have g2' : ¬ fn.name = "runtime.NumGoroutine" := by simpa using g2
      have g3' : ¬ fn.body = none := by intro e; rw [e] at g3; cases g3
      unfold Oper.wp
      have hx : (execOp a.eval (⟨dst, .call ⟨.value g, args, ts⟩, ty, pos, aft, gd⟩ : Oper)).run P w = .ok (.enter k (xs.toArray ++ args.map a.eval ++ ys.toArray)) w := by
        simp [execOp, resolve, h1, Deferred.ofValue, invoke, callFunc, g1, g2', g3']
      rw [hx, Oper.upon_enter]
      refine hcall.mono ?_
      rintro ed w' ⟨v, S', cv, ρ', k1, rfl, k2, k3⟩
      exact hK v S' cv ρ' w' k1 k2 k3
    · exact hq.elim
  · exact h.elim

/-- One operation. -/
noncomputable abbrev stepK (P : Program) (D : Disp) (S : St) (e : Ev) (o : Oper) (K : AV → St → Prop) : Prop :=
  match o.op with
  | .load t x => scK (e x) fun a => loadK P S t a fun v => K v S
  | .lookup t m k ok => scK (e m) fun a => oneK (e k) fun b => lookupK P S t a b ok fun v => K v S
  | .convert s d x => (match P.underlying s with
    | some (.slice _) => scK (e x) fun a => bytesK P S s d a fun v => K v S
    | _ => scK (e x) fun a => convK P s d a fun v => K v S)
  | .alloc t => allocK P S t K
  | .box t x => oneK (e x) fun a => boxK S t a K
  | .buildSlice t len ps => optK (evParts e ps.toList) fun m => buildSliceK P S t len m K
  | .makeMap t none => makeMapK S K
  | .makeSlice t l c => scK (e l) fun a => scK (e c) fun b => makeSliceK P S t a b K
  | .store t x v => scK (e x) fun a => oneK (e v) fun b => storeK P S t a b K
  | .mapUpdate t m k v => scK (e m) fun a => oneK (e k) fun b => oneK (e v) fun d => mputK P S t a b d K
  | .insert t m k v => scK (e m) fun a => oneK (e k) fun b => oneK (e v) fun d => mputK P S t a b d K
  | .range t x => scK (e x) fun a => rangeK P S t a K
  | .next it false => scK (e it) fun a => nextK P S o.type a K
  | .entry it => scK (e it) fun a => entryK P S o.type a fun v => K v S
  | .call ⟨.value f, args, _⟩ => callK D S e f args.toList K
  | .call ⟨.builtin .len, args, ts⟩ => (match args.toList, ts.toList with
    | [x], [t] => oneK (e x) fun a => lenK P S t a fun v => K v S
    | _, _ => False)
  | .call ⟨.builtin .cap, args, ts⟩ => (match args.toList, ts.toList with
    | [x], [t] => oneK (e x) fun a => capK P t a fun v => K v S
    | _, _ => False)
  | .call ⟨.builtin .append, args, ts⟩ => (match args.toList, ts.toList with
    | [x, y], [t, u] => scK (e x) fun a => scK (e y) fun b => appendK P S t u a b K
    | _, _ => False)
  | .call ⟨.builtin .copy, args, ts⟩ => (match args.toList, ts.toList with
    | [x, y], [t, u] => scK (e x) fun a => scK (e y) fun b => copyK P S t a b K
    | _, _ => False)
  | .call ⟨.builtin .clear, args, ts⟩ => (match args.toList, ts.toList with
    | [x], [t] => scK (e x) fun a => clearK P S t a K
    | _, _ => False)
  | .call ⟨.builtin .delete, args, ts⟩ => (match args.toList, ts.toList with
    | [x, y], [t, u] => scK (e x) fun a => oneK (e y) fun b => mdelK P S t a b K
    | _, _ => False)
  | _ => pureK P e o.op fun v => K v S

theorem toList1 {α : Type} {a : Array α} {x : α} (h : a.toList = [x]) : a = #[x] := by apply Array.ext'; simpa using h
theorem toList2 {α : Type} {a : Array α} {x y : α} (h : a.toList = [x, y]) : a = #[x, y] := by apply Array.ext'; simpa using h

set_option maxHeartbeats 2000000 in
theorem stepK_wp {P D G} (hD : DOK P G D) (hz : ZeroOK P) {e S o K} (h : stepK P D S e o K) {a : Act} {ρ : Ren} (he : EvR ρ e a.eval) (hG : GOK G ρ) {base w} (hw : Sim base ρ S.get S.next w)
    {KA : Act → World → Prop} {Q : Exit → Act → World → Prop} (hK : ∀ v S' cv ρ' w', K v S' → VR ρ' v cv → Next base ρ S.get S.next w S'.get S'.next ρ' w' → KA (a.put o.dst cv) w') : o.wp P a w KA Q := by
  have reads : ∀ {s : Sem Value}, Reads base P ρ S (fun v => K v S) s → execOp a.eval o = (do pure (.value (← s))) → o.wp P a w KA Q := by
    rintro s ⟨v, h1, h2⟩ he
    obtain ⟨cv, h3, h4⟩ := h2 _ _ hw
    unfold Oper.wp
    rw [he]
    simp only [Sem.run_bind, h4, Result.andThen_ok, Sem.run_pure]
    exact hK _ _ cv ρ w h1 h3 (.refl hw)
  have turns : ∀ {s : Sem Value}, Turn base P ρ S w K s → execOp a.eval o = (do pure (.value (← s))) → o.wp P a w KA Q := by
    rintro s ⟨v, S', cv, ρ', w', h1, h2, h3, h4⟩ he
    unfold Oper.wp
    rw [he]
    simp only [Sem.run_bind, h2, Result.andThen_ok, Sem.run_pure]
    exact hK _ _ cv ρ' w' h1 h3 h4
  have snd : ∀ {s : Sem Value}, Snd P ρ (fun v => K v S) s → execOp a.eval o = (do pure (.value (← s))) → o.wp P a w KA Q := by
    rintro s ⟨v, cv, h1, h2, h3⟩ he
    unfold Oper.wp
    rw [he]
    simp only [Sem.run_bind, h3 w, Result.andThen_ok, Sem.run_pure]
    exact hK _ _ cv ρ w h1 h2 (.refl hw)
  obtain ⟨dst, op, ty, pos, aft, gd⟩ := o
  unfold stepK at h
  simp only at h
  split at h
  · rename_i t x
    obtain ⟨v, hv, h⟩ := scK_some h
    exact reads (loadK_run h (he.sc hv) base) rfl
  · rename_i t m k ok
    obtain ⟨v, hv, h⟩ := scK_some h
    obtain ⟨u, hu, h⟩ := oneK_some h
    exact reads (lookupK_run h (he.sc hv) (he.one hu) base) rfl
  · rename_i s d x
    split at h
    · obtain ⟨v, hv, h⟩ := scK_some h
      exact reads (bytesK_run h (he.sc hv) base) rfl
    · obtain ⟨v, hv, h⟩ := scK_some h
      exact snd (convK_run h (he.sc hv)) rfl
  · exact turns (allocK_run h hw) rfl
  · rename_i t x
    obtain ⟨v, hv, h⟩ := oneK_some h
    exact turns (boxK_run h (he.one hv) hw) rfl
  · rename_i t len ps
    obtain ⟨m, hm, h⟩ := optK_some h
    exact turns (buildSliceK_run h (cps := ps.map fun (i, x) => (i, a.eval x)) (by rw [Array.toList_map]; exact evParts_ok he hm) hw) rfl
  · rename_i t
    exact turns (makeMapK_run h t hw) rfl
  · rename_i t l c
    obtain ⟨v, hv, h⟩ := scK_some h
    obtain ⟨u, hu, h⟩ := scK_some h
    exact turns (makeSliceK_run h (he.sc hv) (he.sc hu) hw) rfl
  · rename_i t x y
    obtain ⟨v, hv, h⟩ := scK_some h
    obtain ⟨u, hu, h⟩ := oneK_some h
    obtain ⟨S', w', h1, h2, h3⟩ := storeK_run h (he.sc hv) (he.one hu) hw
    unfold Oper.wp
    simp only [execOp, Sem.run_bind, h2, Result.andThen_ok, Sem.run_pure]
    exact hK _ _ undef ρ w' h1 (undef_ok _) h3
  · rename_i t m k x
    obtain ⟨v, hv, h⟩ := scK_some h
    obtain ⟨u, hu, h⟩ := oneK_some h
    obtain ⟨d, hd, h⟩ := oneK_some h
    obtain ⟨S', w', h1, h2, h3⟩ := mputK_run h (he.sc hv) (he.one hu) (he.one hd) hw
    unfold Oper.wp
    simp only [execOp, Sem.run_bind, h2, Result.andThen_ok, Sem.run_pure]
    exact hK _ _ undef ρ w' h1 (undef_ok _) h3
  · rename_i t m k x
    obtain ⟨v, hv, h⟩ := scK_some h
    obtain ⟨u, hu, h⟩ := oneK_some h
    obtain ⟨d, hd, h⟩ := oneK_some h
    obtain ⟨S', w', h1, h2, h3⟩ := mputK_run h (he.sc hv) (he.one hu) (he.one hd) hw
    unfold Oper.wp
    simp only [execOp, Sem.run_bind, h2, Result.andThen_ok, Sem.run_pure]
    exact hK _ _ undef ρ w' h1 (undef_ok _) h3
  · rename_i t x
    obtain ⟨v, hv, h⟩ := scK_some h
    exact turns (rangeK_run h (he.sc hv) hw) rfl
  · rename_i it
    obtain ⟨v, hv, h⟩ := scK_some h
    exact turns (nextK_run h (he.sc hv) hw) rfl
  · rename_i it
    obtain ⟨v, hv, h⟩ := scK_some h
    exact reads (entryK_run h (he.sc hv) base) rfl
  · rename_i g args ts
    exact callK_wp hD h he hG hw hK
  · rename_i args ts
    split at h
    · rename_i x t hl ht
      obtain ⟨v, hv, h⟩ := oneK_some h
      obtain rfl := toList1 hl
      obtain rfl := toList1 ht
      exact reads (lenK_run h (he.one hv) base ty) (by simp [execOp, resolve, invoke, builtin])
    · exact h.elim
  · rename_i args ts
    split at h
    · rename_i x t hl ht
      obtain ⟨v, hv, h⟩ := oneK_some h
      obtain rfl := toList1 hl
      obtain rfl := toList1 ht
      exact snd (capK_run h (he.one hv) ty) (by simp [execOp, resolve, invoke, builtin])
    · exact h.elim
  · rename_i args ts
    split at h
    · rename_i x y t u hl ht
      obtain ⟨v, hv, h⟩ := scK_some h
      obtain ⟨v', hv', h⟩ := scK_some h
      obtain rfl := toList2 hl
      obtain rfl := toList2 ht
      exact turns (appendK_run h (he.sc hv) (he.sc hv') hw hz ty) (by simp [execOp, resolve, invoke, builtin])
    · exact h.elim
  · rename_i args ts
    split at h
    · rename_i x y t u hl ht
      obtain ⟨v, hv, h⟩ := scK_some h
      obtain ⟨v', hv', h⟩ := scK_some h
      obtain rfl := toList2 hl
      obtain rfl := toList2 ht
      exact turns (copyK_run h (he.sc hv) (he.sc hv') hw u ty) (by simp [execOp, resolve, invoke, builtin])
    · exact h.elim
  · rename_i args ts
    split at h
    · rename_i x t hl ht
      obtain ⟨v, hv, h⟩ := scK_some h
      obtain rfl := toList1 hl
      obtain rfl := toList1 ht
      exact turns (clearK_run h (he.sc hv) hw ty hz) (by simp [execOp, resolve, invoke, builtin])
    · exact h.elim
  · rename_i args ts
    split at h
    · rename_i x y t u hl ht
      obtain ⟨v, hv, h⟩ := scK_some h
      obtain ⟨v', hv', h⟩ := oneK_some h
      obtain rfl := toList2 hl
      obtain rfl := toList2 ht
      exact turns (mdelK_run h (he.sc hv) (he.one hv') hw u ty) (by simp [execOp, resolve, invoke, builtin])
    · exact h.elim
  · obtain ⟨v, cv, h1, h2, h3⟩ := pureK_run (o := ⟨dst, op, ty, pos, aft, gd⟩) h he
    unfold Oper.wp
    rw [h3]
    exact hK _ _ cv ρ w h1 h2 (.refl hw)
end Go.Xe
