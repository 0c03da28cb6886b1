/- What strings' functions answer here, as the printed texts ask for it; what is known of the package-level variables (GW). -/
import Derived.Test.YtiljijckfkphhaaDoorLxAny
import Derived.Test.YtiljijckfkphhaaDoorWMoreS
import Derived.Below
import Derived.Deep.Draws
namespace Go.Proofs.YtiljijckfkphhaaDoor.PLex
open Go.RowKit Go.Proofs.YtiljijckfkphhaaDoorW.PrintWords
set_option linter.unusedVariables false
/- The language's signs, the longer ones first. -/
def signs0 : List ByteArray := [⟨#[60, 60, 61]⟩, ⟨#[62, 62, 61]⟩]
def signs1 : List ByteArray := [⟨#[60, 60]⟩, ⟨#[62, 62]⟩, ⟨#[60, 61]⟩, ⟨#[62, 61]⟩, ⟨#[61, 61]⟩, ⟨#[33, 61]⟩, ⟨#[38, 38]⟩, ⟨#[124, 124]⟩, ⟨#[45, 62]⟩, ⟨#[43, 61]⟩, ⟨#[45, 61]⟩, ⟨#[42, 61]⟩, ⟨#[47, 61]⟩, ⟨#[37, 61]⟩, ⟨#[38, 61]⟩, ⟨#[124, 61]⟩, ⟨#[94, 61]⟩]
def signs2 : List ByteArray := [⟨#[43]⟩, ⟨#[45]⟩, ⟨#[42]⟩, ⟨#[47]⟩, ⟨#[37]⟩, ⟨#[38]⟩, ⟨#[124]⟩, ⟨#[94]⟩, ⟨#[126]⟩, ⟨#[33]⟩, ⟨#[60]⟩, ⟨#[62]⟩, ⟨#[61]⟩, ⟨#[40]⟩, ⟨#[41]⟩, ⟨#[91]⟩, ⟨#[93]⟩, ⟨#[123]⟩, ⟨#[125]⟩, ⟨#[44]⟩, ⟨#[59]⟩, ⟨#[58]⟩, ⟨#[63]⟩, ⟨#[46]⟩]
/-- What is known of the package-level variables: the library's bound holds some number; the signs lie in three rows of strings. -/
structure GW (w : World) : Prop where
 maxLen : ∃ m, w.cell? ⟨1, 0, none⟩ = some (.int .i64 m)
 signs : ∃ A0 A1 A2 c0 c1 c2, w.cell? ⟨0, 0, none⟩ = some (.slice A0 2 c0) ∧ w.cell? ⟨0, 1, none⟩ = some (.slice A1 17 c1) ∧ w.cell? ⟨0, 2, none⟩ = some (.slice A2 24 c2) ∧
  Kd.C Kd.string w A0 2 signs0 ∧ Kd.C Kd.string w A1 17 signs1 ∧ Kd.C Kd.string w A2 24 signs2
theorem GW.below {w w1 : World} (h : GW w) (hb : Below w.heap.size w w1) : GW w1 := by
 obtain ⟨⟨m, hm⟩, A0, A1, A2, c0, c1, c2, h0, h1, h2, h3, h4, h5⟩ := h
 have mv : ∀ {p : Addr} {v : Value}, w.cell? p = some v → w1.cell? p = some v := fun h => (hb.cell (World.block_lt_of_cell? w _ h)).trans h
 exact ⟨⟨m, mv hm⟩, A0, A1, A2, c0, c1, c2, mv h0, mv h1, mv h2, Kd.C_below h3 hb, Kd.C_below h4 hb, Kd.C_below h5 hb⟩
def Lx.IndexByte.f (s : ByteArray) (c : Int) : Option Int := some (Lib.indexByte s.data.toList c.toNat.toUInt8)
theorem Lx.IndexByte.calls (s : ByteArray) (c r : Int) (w : World) (h : Lx.IndexByte.f s c = some r) :
  Calls Tryd.prog 23 #[.string s, .int .u8 c] w fun e w' => e = .returned (.int .i64 r) ∧ ∃ nd, w' = w.drewN nd := by
 unfold Lx.IndexByte.f at h
 injection h with h
 subst h
 exact (Tryd.strings_IndexByte s c w).mono fun e w' ⟨he, hw⟩ => ⟨he, 0, hw⟩
def Lx.Index.f (s sub : ByteArray) : Option Int := if s.size < 4294967281 then some (Lib.index s.data.toList sub.data.toList) else none
theorem Lx.Index.calls (s sub : ByteArray) (r : Int) (w : World) (hG : GW w) (h : Lx.Index.f s sub = some r) :
  Calls Tryd.prog 26 #[.string s, .string sub] w fun e w' => e = .returned (.int .i64 r) ∧ ∃ nd, w' = w.drewN nd := by
 unfold Lx.Index.f at h
 split at h
 · injection h with h
   subst h
   obtain ⟨m, hm⟩ := hG.maxLen
   exact (Tryd.strings_Index s sub m w (by assumption) hm).mono fun e w' ⟨he, hw⟩ => ⟨he, 0, hw⟩
 · cases h
def Lx.Contains.f (s sub : ByteArray) : Option Bool := if s.size < 4294967281 then some (Lib.contains s.data.toList sub.data.toList) else none
theorem Lx.Contains.calls (s sub : ByteArray) (r : Bool) (w : World) (hG : GW w) (h : Lx.Contains.f s sub = some r) :
  Calls Tryd.prog 21 #[.string s, .string sub] w fun e w' => e = .returned (.bool r) ∧ ∃ nd, w' = w.drewN nd := by
 unfold Lx.Contains.f at h
 split at h
 · injection h with h
   subst h
   obtain ⟨m, hm⟩ := hG.maxLen
   exact (Tryd.strings_Contains s sub m w (by assumption) hm).mono fun e w' ⟨he, hw⟩ => ⟨he, 0, hw⟩
 · cases h
def Lx.IndexAny.f (s chars : ByteArray) : Option Int := if s.size < 4294967281 ∧ chars = ⟨#[10, 13]⟩ then some (Lib.indexAny s.data.toList [10, 13]) else none
theorem Lx.IndexAny.calls (s chars : ByteArray) (r : Int) (w : World) (h : Lx.IndexAny.f s chars = some r) :
  Calls Tryd.prog 25 #[.string s, .string chars] w fun e w' => e = .returned (.int .i64 r) ∧ Below w.heap.size w w' := by
 unfold Lx.IndexAny.f at h
 split at h
 case isFalse => cases h
 rename_i hc
 obtain ⟨hs, rfl⟩ := hc
 injection h with h
 subst h
 have hac : ∀ (j : Nat) b, (⟨#[10, 13]⟩ : ByteArray).data.toList[j]? = some b → b.toNat < 128 := by
  intro j b hb
  match j, hb with
  | 0, hb => simp at hb; subst hb; decide
  | 1, hb => simp at hb; subst hb; decide
  | j + 2, hb => simp at hb
 have h116 : (Tryd.prog.info? 66).map (fun i => (i.zero, i.size)) = some (some (.agg (Array.replicate 256 (.bool false))), 256) := by kernel_rfl
 by_cases h8 : s.size ≤ 8
 · exact any_short s w h8
 · refine (Tryd.strings_IndexAny_long (zero_of_info h116).1 s ⟨#[10, 13]⟩ w (by decide) (by omega) hs (by decide) hac).mono fun e w' ⟨he, hw⟩ => ⟨he, ?_⟩
   subst hw
   exact below_alloc (below_alloc (Below.refl _ _) _) _
end Go.Proofs.YtiljijckfkphhaaDoor.PLex
