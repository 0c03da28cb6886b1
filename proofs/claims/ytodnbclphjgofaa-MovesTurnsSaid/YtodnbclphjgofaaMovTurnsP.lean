import Derived.Test.YtodnbclphjgofaaMovWalk
namespace Go.Proofs.Ytodnbclphjgofaa.PMov
open Go Go.RowKit Go.Proofs.YtodnbclphjgofaaW.PrintWords
set_option maxRecDepth 100000
/-- Places turned round by so many. -/
def turnsMs (many by_ i : Nat) : List S32 := (List.range i).map fun (j : Nat) => (⟨(j : Int), (((j + by_) % many : Nat) : Int)⟩ : S32)
def stepAt (at_ : List Int) (m : S32) : List Int := at_.set m.f0.toNat (at_.getD m.f1.toNat 0)
def id31 : List Int := (List.range 31).map fun (j : Nat) => (j : Int)
def atR (out : List S32) : Nat → List Int
 | 0 => id31
 | r + 1 => out.foldl stepAt (atR out r)
def inAt (m : S32) : Bool := decide (0 ≤ m.f0) && decide (m.f0 ≤ 30) && decide (0 ≤ m.f1) && decide (m.f1 ≤ 30)
def outOk (many by_ : Nat) (out : List S32) : Bool := (by_ != 0 || out.length == 0) && decide (out.length ≤ 2 * many) && out.all inAt
def sigmaOk (many by_ : Nat) (s : List Int) : Bool := (List.range many).all fun i => s.getD i 0 == (((i + by_) % many : Nat) : Int)
def turnsOk (k many by_ : Nat) : Bool := match Mov.moves_Order.f k (turnsMs many by_ many) 30 with
 | some (out, true) => outOk many by_ out && sigmaOk many by_ (out.foldl stepAt id31)
 | _ => false
def turnsRow (m : Nat) : Bool := (List.range (m + 1)).all fun u => turnsOk 60 (m + 1) u
theorem row0 : turnsRow 0 = true := by kernel_rfl
theorem row1 : turnsRow 1 = true := by kernel_rfl
theorem row2 : turnsRow 2 = true := by kernel_rfl
theorem row3 : turnsRow 3 = true := by kernel_rfl
theorem row4 : turnsRow 4 = true := by kernel_rfl
theorem row5 : turnsRow 5 = true := by kernel_rfl
theorem row6 : turnsRow 6 = true := by kernel_rfl
theorem row7 : turnsRow 7 = true := by kernel_rfl
theorem row8 : turnsRow 8 = true := by kernel_rfl
theorem row9 : turnsRow 9 = true := by kernel_rfl
theorem row10 : turnsRow 10 = true := by kernel_rfl
theorem row11 : turnsRow 11 = true := by kernel_rfl
theorem row12 : turnsRow 12 = true := by kernel_rfl
theorem row13 : turnsRow 13 = true := by kernel_rfl
theorem row14 : turnsRow 14 = true := by kernel_rfl
theorem row15 : turnsRow 15 = true := by kernel_rfl
theorem row16 : turnsRow 16 = true := by kernel_rfl
theorem row17 : turnsRow 17 = true := by kernel_rfl
theorem row18 : turnsRow 18 = true := by kernel_rfl
theorem row19 : turnsRow 19 = true := by kernel_rfl
theorem row20 : turnsRow 20 = true := by kernel_rfl
theorem row21 : turnsRow 21 = true := by kernel_rfl
theorem row22 : turnsRow 22 = true := by kernel_rfl
theorem row23 : turnsRow 23 = true := by kernel_rfl
theorem turnsRows : ∀ m : Nat, m < 24 → turnsRow m = true
 | 0, _ => row0
 | 1, _ => row1
 | 2, _ => row2
 | 3, _ => row3
 | 4, _ => row4
 | 5, _ => row5
 | 6, _ => row6
 | 7, _ => row7
 | 8, _ => row8
 | 9, _ => row9
 | 10, _ => row10
 | 11, _ => row11
 | 12, _ => row12
 | 13, _ => row13
 | 14, _ => row14
 | 15, _ => row15
 | 16, _ => row16
 | 17, _ => row17
 | 18, _ => row18
 | 19, _ => row19
 | 20, _ => row20
 | 21, _ => row21
 | 22, _ => row22
 | 23, _ => row23
 | n + 24, h => absurd h (by omega)
theorem turns_all (m : Nat) (hm : m < 24) (u : Nat) (hu : u < m + 1) : turnsOk 60 (m + 1) u = true := by
 have h := turnsRows m hm
 unfold turnsRow at h
 rw [List.all_eq_true] at h
 exact h u (List.mem_range.2 hu)
/-! ### one round tells all -/
theorem step_map (f : Int → Int) (s : List Int) (m : S32) (hs : s.length = 31) (hm : inAt m = true) : stepAt (s.map f) m = (stepAt s m).map f := by
 simp only [inAt, Bool.and_eq_true, decide_eq_true_eq] at hm
 have hj : m.f1.toNat < s.length := by omega
 unfold stepAt
 rw [List.map_set]
 congr 1
 simp [List.getD, List.getElem?_eq_getElem hj]
theorem step_len (s : List Int) (m : S32) : (stepAt s m).length = s.length := by simp [stepAt]
theorem fold_len (out : List S32) : ∀ s : List Int, (out.foldl stepAt s).length = s.length := by
 induction out with
 | nil => intro s; rfl
 | cons m r ih => intro s; rw [List.foldl_cons, ih, step_len]
theorem fold_map (f : Int → Int) (out : List S32) : ∀ s : List Int, s.length = 31 → out.all inAt = true → out.foldl stepAt (s.map f) = (out.foldl stepAt s).map f := by
 induction out with
 | nil => intro s _ _; rfl
 | cons m r ih =>
  intro s hs hm
  rw [List.all_cons, Bool.and_eq_true] at hm
  rw [List.foldl_cons, List.foldl_cons, step_map f s m hs hm.1, ih _ (by rw [step_len]; exact hs) hm.2]
theorem atR_len (out : List S32) : ∀ r, (atR out r).length = 31
 | 0 => by simp [atR, id31]
 | r + 1 => by rw [atR, fold_len]; exact atR_len out r
theorem as_map (s : List Int) (hs : s.length = 31) : s = id31.map fun j => s.getD j.toNat 0 := by
 apply List.ext_getElem
 · simp [id31, hs]
 · intro i h1 h2
   simp [id31, List.getD, List.getElem?_eq_getElem h1]
theorem rounds_ok (many by_ : Nat) (hmany : 0 < many) (hle : many ≤ 31) (out : List S32) (ha : out.all inAt = true) (hs : sigmaOk many by_ (out.foldl stepAt id31) = true) : ∀ r i, i < many → (atR out r).getD i 0 = (((i + r * by_) % many : Nat) : Int) := by
 intro r
 induction r with
 | zero =>
  intro i hi
  simp [atR, id31, List.getD, show i < 31 by omega, Nat.mod_eq_of_lt hi]
 | succ r ih =>
  intro i hi
  rw [atR]
  have h1 := fold_map (fun j => (atR out r).getD j.toNat 0) out id31 (by simp [id31]) ha
  rw [← as_map _ (atR_len out r)] at h1
  rw [h1]
  unfold sigmaOk at hs
  rw [List.all_eq_true] at hs
  have h2 := hs i (List.mem_range.2 hi)
  have hl : i < (out.foldl stepAt id31).length := by rw [fold_len]; simp [id31]; omega
  have h3 : (out.foldl stepAt id31)[i] = (((i + by_) % many : Nat) : Int) := by
   have := beq_iff_eq.1 h2
   rw [List.getD_eq_getElem?_getD, List.getElem?_eq_getElem hl] at this
   exact this
  rw [List.getD_eq_getElem?_getD, List.getElem?_map, List.getElem?_eq_getElem hl]
  simp only [Option.map_some, Option.getD_some]
  rw [h3, Int.toNat_natCast, ih _ (Nat.mod_lt _ hmany)]
  congr 1
  rw [Nat.mod_add_mod, Nat.succ_mul]
  congr 1
  omega
theorem turns_told (k m u : Nat) (hk : k = 60) (hm : m < 24) (hu : u < m + 1) : ∃ out, Mov.moves_Order.f k (turnsMs (m + 1) u (m + 1)) 30 = some (out, true) ∧ outOk (m + 1) u out = true ∧ ∀ r i, i < m + 1 → (atR out r).getD i 0 = (((i + r * u) % (m + 1) : Nat) : Int) := by
 have h := turns_all m hm u hu
 rw [← hk] at h
 unfold turnsOk at h
 split at h
 · rename_i out hO
   simp only [Bool.and_eq_true] at h
   have h1 := h.1
   simp only [outOk, Bool.and_eq_true] at h1
   exact ⟨out, hO, h.1, rounds_ok (m + 1) u (by omega) (by omega) out h1.2 h.2⟩
 · cases h
end Go.Proofs.Ytodnbclphjgofaa.PMov
