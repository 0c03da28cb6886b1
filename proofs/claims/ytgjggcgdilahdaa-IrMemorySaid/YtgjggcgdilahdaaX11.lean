/- Executor, second make: copy, clear, maps that are written, steps over maps. -/
import Derived.Test.YtgjggcgdilahdaaX10
set_option linter.unusedVariables false
set_option linter.unusedSimpArgs false
set_option linter.constructorNameAsVariable false
set_option linter.unusedVariables false
set_option linter.unusedSimpArgs false
namespace Go.Xe
open Go.RowKit

/- copy -/
noncomputable abbrev copyM (n : Nat) (d : LV) : Nat := Nat.min n d.len
/-- So many cells are laid into a slice. -/
def St.lay (S : St) (d : LV) (m : Nat) (new : List SV) (K : St → Prop) : Prop := match Nat.beq m 0 with
  | true => K S
  | false => match d with
    | .nil => False
    | .mk b o _ _ => S.wr b o new K
def St.first (S : St) (z : Nat) (x : LV) (m : Nat) (K : List SV → Prop) : Prop := match Nat.beq m 0 with
  | true => K []
  | false => match x with
    | .nil => False
    | .mk b o _ _ => match S.get b with
      | some (.cells l _) => req (Nat.ble (o + m * z) l.length) (K ((l.drop o).take (m * z)))
      | _ => False
noncomputable abbrev copyK (P : Program) (S : St) (t : TypeId) (d x : SV) (K : AV → St → Prop) : Prop :=
  match P.underlying t, d, x with
  | some (.slice e), .sl d, .sl x => optK (sizeA P e) fun z => S.first z x (copyM x.len d) fun new => S.lay d (copyM x.len d) new fun S' => K (.one (.s (.int .i64 (Int.ofNat (copyM x.len d))))) S'
  | some (.slice e), .sl d, .str s => optK (sizeA P e) fun z => req (Nat.beq z 1) (S.lay d (copyM s.length d) (byteCells (s.take (copyM s.length d))) fun S' => K (.one (.s (.int .i64 (Int.ofNat (copyM s.length d))))) S')
  | _, _, _ => False

theorem copyK_run {P S t d x K} (h : copyK P S t d x K) {ρ : Ren} {cd cx} (hd : SR ρ d cd) (hx : SR ρ x cx) {base w} (hw : Sim base ρ S.get S.next w) (xt ty : TypeId) :
    Turn base P ρ S w K (Builtin.copy_ #[t, xt] ty #[cd, cx]) := by
  unfold copyK at h
  have lay : ∀ {e z} (hu : P.underlying t = some (.slice e)) (hz : sizeA P e = some z) (d : LV) (hd : SR ρ (.sl d) cd) (m : Nat) (hm : m ≤ d.len) (n : Nat) (hmn : m = Nat.min n d.len) (new : List SV) (vs : List Value) (hv : All2 (SR ρ) new vs) (hvm : m = 0 → vs = [])
      (hlen : (Builtin.lenOf cx).run P w = .ok n w) (hf : (Builtin.firstCells z m cx).run P w = .ok vs.toArray w) (hl : S.lay d m new fun S' => K (.one (.s (.int .i64 (Int.ofNat m)))) S'), Turn base P ρ S w K (Builtin.copy_ #[t, xt] ty #[cd, cx]) := by
    intro e z hu hz d hd m hm n hmn new vs hv hvm hlen hf hl
    obtain ⟨hz0, hzr⟩ := sizeA_run hz
    unfold St.lay at hl
    split at hl
    · rename_i hb
      have h0 := Nat.eq_of_beq_eq_true hb
      refine ⟨_, _, .int .i64 (m : Int), ρ, w, hl, ?_, rfl, .refl hw⟩
      have := hvm h0
      subst this
      cases d with
      | nil =>
        cases hd
        subst h0
        simp [Builtin.copy_, run_underlying hu, hlen, hzr, hf, goInt]
      | mk b o n' c =>
        obtain ⟨r, sh, m', cc, o', h1, rfl, _⟩ := hd
        simp only [LV.len] at hmn
        simp [Builtin.copy_, run_underlying hu, hlen, hzr, ← hmn, hf, goInt, storeCells]
    · rename_i hb
      have h0 : m ≠ 0 := by rintro rfl; simp [Nat.beq] at hb
      cases d with
      | nil => exact hl.elim
      | mk b o n' c =>
        obtain ⟨r, sh, m', cc, o', h1, rfl, ho, hnc, _⟩ := hd
        simp only [LV.len] at hmn hm
        obtain rfl := ho (by omega)
        obtain ⟨S', w', k0, k1, k2⟩ := St.wr_run hl hw h1 hv P
        refine ⟨_, _, .int .i64 (m : Int), ρ, w', k0, ?_, rfl, k2⟩
        simp [Builtin.copy_, run_underlying hu, hlen, hzr, ← hmn, hf, goInt, k1]
  split at h
  · rename_i e d x hu
    obtain ⟨z, hz, h⟩ := optK_some h
    have hmin : copyM x.len d ≤ d.len := Nat.min_le_right _ _
    have hmin2 : copyM x.len d ≤ x.len := Nat.min_le_left _ _
    have hlen : (Builtin.lenOf cx).run P w = .ok x.len w := by
      cases x with
      | nil => cases hx; simp [Builtin.lenOf, LV.len]
      | mk b o n c => obtain ⟨_, _, _, _, _, _, rfl, _⟩ := hx; simp [Builtin.lenOf, LV.len]
    unfold St.first at h
    split at h
    · rename_i hb
      have h0 := Nat.eq_of_beq_eq_true hb
      refine lay hu hz d hd _ hmin _ rfl _ [] .nil (fun _ => rfl) hlen ?_ h
      rw [h0]
      cases x with
      | nil => cases hx; simp [Builtin.firstCells]
      | mk b o n c => obtain ⟨_, _, _, _, _, _, rfl, _⟩ := hx; simp only [Builtin.firstCells, Nat.zero_mul]; exact loadCells_none _
    · rename_i hb
      have h0 : copyM x.len d ≠ 0 := by intro e; rw [e] at hb; simp [Nat.beq] at hb
      cases x with
      | nil => exact h.elim
      | mk b o n c =>
        dsimp only at h
        split at h
        · rename_i l op hg
          obtain ⟨hle, h⟩ := req_and h
          obtain ⟨r, sh, m', cc, o', h1, rfl, ho, hnc, _⟩ := hx
          simp only [LV.len] at hmin2 h0
          obtain rfl := ho (by omega)
          obtain ⟨vs, h4, h5⟩ := hw.readAll hg h1 o _ (Nat.le_of_ble_eq_true hle) P
          exact lay hu hz d hd _ hmin _ rfl _ vs h4 (fun e => absurd e h0) hlen (by simp only [Builtin.firstCells]; exact h5 w rfl) h
        · exact h.elim
  · rename_i e d s hu
    obtain ⟨z, hz, h⟩ := optK_some h
    obtain ⟨hz1, h⟩ := req_and h
    obtain rfl := Nat.eq_of_beq_eq_true hz1
    obtain ⟨u, rfl, hs⟩ := hx
    have hsz := strOf_size hs
    have hmin : copyM s.length d ≤ d.len := Nat.min_le_right _ _
    have hmin2 : copyM s.length d ≤ s.length := Nat.min_le_left _ _
    have hs' : strOf (s.take (copyM s.length d)) (u.extract 0 (copyM s.length d)) := by
      have := strOf_extract hs 0 (copyM s.length d)
      simpa using this
    have hsz' := strOf_size hs'
    refine lay hu hz d hd _ hmin _ rfl _ ((u.extract 0 (copyM s.length d)).data.toList.map fun b => Value.int .u8 b.toNat) ?_ ?_ (by simp [Builtin.lenOf, hsz]) ?_ h
    · have := hs'; unfold strOf at this; rw [← this]; exact byteCells_ok _
    · intro e
      have h0 : (u.extract 0 (copyM s.length d)).data.toList.length = 0 := by
        have h1 := List.length_take_of_le hmin2
        have h2 : (u.extract 0 (copyM s.length d)).data.toList.length = (u.extract 0 (copyM s.length d)).size := by rw [Array.length_toList]; rfl
        omega
      rw [List.length_eq_zero_iff.1 h0]; rfl
    · simp [Builtin.firstCells]
      apply Array.ext'
      simp
  · exact h.elim

/- clear -/
theorem rep_nil : ∀ n, rep [] n = []
  | 0 => rfl
  | n + 1 => rep_nil n
noncomputable abbrev clearK (P : Program) (S : St) (t : TypeId) (x : SV) (K : AV → St → Prop) : Prop :=
  match P.underlying t, x with
  | some (.slice e), .sl s => optK (zeroA P e) fun z => S.lay s s.len (rep z.cells s.len) fun S' => K (.tup []) S'
  | _, _ => False
theorem clearK_run {P S t x K} (h : clearK P S t x K) {ρ : Ren} {cx} (hx : SR ρ x cx) {base w} (hw : Sim base ρ S.get S.next w) (ty : TypeId) (hzero : ZeroOK P) :
    Turn base P ρ S w K (Builtin.clear_ #[t] ty #[cx]) := by
  unfold clearK at h
  split at h
  · rename_i e s hu
    obtain ⟨z, hz, h⟩ := optK_some h
    unfold St.lay at h
    cases s with
    | nil =>
      cases hx
      refine ⟨_, _, .tuple #[], ρ, w, h, ?_, ⟨[], rfl, .nil⟩, .refl hw⟩
      simp [Builtin.clear_, run_underlying hu]
    | mk b o n c =>
      obtain ⟨r, sh, m', cc, o', h1, rfl, ho, hnc, _⟩ := hx
      simp only [LV.len] at h
      split at h
      · rename_i hb
        have hq := h
        clear h
        obtain rfl := Nat.eq_of_beq_eq_true hb
        refine ⟨.tup [], _, .tuple #[], ρ, w, hq, ?_, ⟨[], rfl, .nil⟩, .refl hw⟩
        simp [Builtin.clear_, run_underlying hu]
      · rename_i hb
        have h0 : n ≠ 0 := by rintro rfl; simp [Nat.beq] at hb
        obtain rfl := ho (by omega)
        obtain ⟨cz, h2, h3⟩ := zeroA_run hz ρ
        obtain ⟨zs, h4, h5⟩ := h2.cells
        by_cases hz0 : z.cells = []
        · have hzs : zs = [] := by have := h5.length; rw [hz0] at this; cases zs; rfl; simp at this
          have hr : rep z.cells n = [] := by rw [hz0]; exact rep_nil n
          rw [hr] at h
          obtain ⟨S', w', k0, k1, k2⟩ := St.wr_run h hw h1 .nil P
          refine ⟨_, _, .tuple #[], ρ, w', k0, ?_, ⟨[], rfl, .nil⟩, k2⟩
          have hzc : (Builtin.zeroCells cz.cells n).toList = [] := by rw [h4, hzs]; simp [Builtin.zeroCells]
          cases n with
          | zero => exact absurd rfl h0
          | succ n => simp [Builtin.clear_, run_underlying hu, h3, hzc, k1]
        · have hrep := rep_rel h5 n hz0
          obtain ⟨S', w', k0, k1, k2⟩ := St.wr_run h hw h1 hrep P
          refine ⟨_, _, .tuple #[], ρ, w', k0, ?_, ⟨[], rfl, .nil⟩, k2⟩
          have hzl : zs.length = z.cells.length := by have := h5.length; omega
          have hzc : (Builtin.zeroCells cz.cells n).toList = (Array.map (fun x => zs.toArray[x % zs.toArray.size]!) (Array.range (n * z.cells.length))).toList := by
            rw [h4]; simp only [Builtin.zeroCells, ← hzl]; simp
          cases n with
          | zero => exact absurd rfl h0
          | succ n => simp only [Builtin.clear_, run_underlying hu]; simp [run_underlying hu, h3]; rw [hzc, k1]; rfl
  · exact h.elim
end Go.Xe
