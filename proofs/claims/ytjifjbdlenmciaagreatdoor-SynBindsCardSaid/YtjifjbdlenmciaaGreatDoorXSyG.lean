/- Syn: what the package-level variables hold, out of what the row lists of them and of the world's shape. -/
import Derived.Test.YtjifjbdlenmciaaGreatDoorXSyL
import Derived.LaidMore
import Derived.Deep.Strs
import Derived.Laws.IdiomArrays
import Derived.Maps.StringElems
import Derived.Sort.KeysCollected
import Derived.Shelf.Vars
import Derived.Test.YtjifjbdlenmciaaGreatDoorRows
set_option linter.unusedVariables false
set_option linter.unusedSimpArgs false
set_option linter.constructorNameAsVariable false
set_option linter.unusedVariables false
set_option linter.unusedSimpArgs false
namespace Go.Xe
open Go.RowKit Go.ChangeShapes Go.WideShapes
set_option maxRecDepth 100000
/-- Cells of a block, cut at a place. -/
theorem cells_cut {c : Array Value} {off : Nat} {vs : List Value} (hn : vs ≠ []) (h : ∀ i, i < vs.length → c[off + i]? = vs[i]?) :
    ∃ pre post : List Value, c = (pre ++ (vs ++ post)).toArray ∧ pre.length = off := by
  have hpos : 0 < vs.length := List.length_pos_iff.2 hn
  have hlast : off + (vs.length - 1) < c.size := by
    have := h (vs.length - 1) (by omega)
    rw [List.getElem?_eq_getElem (show vs.length - 1 < vs.length by omega)] at this
    exact (Array.getElem?_eq_some_iff.1 this).1
  refine ⟨c.toList.take off, c.toList.drop (off + vs.length), ?_, by rw [List.length_take, Array.length_toList]; omega⟩
  have e : vs = (c.toList.drop off).take vs.length := by
    apply List.ext_getElem?
    intro i
    by_cases hi : i < vs.length
    · rw [List.getElem?_take_of_lt hi, List.getElem?_drop, ← h i hi]; simp
    · rw [List.getElem?_eq_none (by omega), List.getElem?_eq_none (by rw [List.length_take]; omega)]
  have e2 : vs ++ c.toList.drop (off + vs.length) = c.toList.drop off := by
    conv => lhs; lhs; rw [e]
    rw [← List.drop_drop, List.take_append_drop]
  rw [e2, List.take_append_drop]
/-- A slice without spare, of elements of one cell each, that is not empty. -/
theorem open_sl {H : Type} {enc : TypeId × Value → H} {P : Program} {w : World} {base : Nat} {sp : Nat → Bool} {held : Bool} {t e : TypeId} {fuel : Nat} {cs : List Value} {ds : List (DataW H)} {p : List MemPlace} (hd : ds ≠ []) (ht : P.underlying t = some (.slice e)) (hc : P.cellsOf e = 1)
    (h : DataW.trod enc P w base sp held fuel t cs = some (.slice ds [], p)) :
    ∃ (b off cap : Nat) (vs : List Value) (pre post : List Value) (ty : TypeId) (fz : Nat × Nat), cs = [.slice (some ⟨b, off, none⟩) ds.length cap] ∧ ds.length ≤ cap ∧ w.heap[b]? = some (.cells (pre ++ (vs ++ post)).toArray ty fz) ∧ pre.length = off ∧
      All2 (fun d v => ∃ n q, DataW.trod enc P w base sp held n e [v] = some (d, q)) ds vs := by
  obtain ⟨a, cap, rfl, hle, hel⟩ := open_row ht hc h
  have hex : ∀ i, i < ds.length → ∃ v, w.cell? (a.add i) = some v ∧ ∀ d, ds[i]? = some d → ∃ n q, DataW.trod enc P w base sp held n e [v] = some (d, q) := fun i hi => by
    obtain ⟨v, n, q, h1, h2⟩ := hel i ds[i] (List.getElem?_eq_getElem hi)
    exact ⟨v, h1, fun d hd => by rw [List.getElem?_eq_getElem hi] at hd; cases hd; exact ⟨n, q, h2⟩⟩
  obtain ⟨V, hV⟩ := Deep.choose_lt (α := Value) hex
  have hpos : 0 < ds.length := List.length_pos_iff.2 hd
  have h0 := (hV 0 hpos).1
  obtain ⟨b, off, spot⟩ := a
  obtain ⟨c, ty, fz, hb, hs⟩ : ∃ c ty fz, w.heap[b]? = some (.cells c ty fz) ∧ spot = none := by
    unfold World.cell? at h0
    have h0 : (match w.heap[b]? with | some (.cells c _ _) => if spot.isSome then none else c[off + 0]? | _ => none) = some (V 0) := h0
    split at h0
    · rename_i c ty fz hh
      cases spot with
      | none => exact ⟨c, ty, fz, hh, rfl⟩
      | some _ => simp at h0
    · cases h0
  subst hs
  have hcell : ∀ i, i < ds.length → c[off + i]? = some (V i) := fun i hi => by
    have h1 := (hV i hi).1
    rw [show (⟨b, off, none⟩ : Addr).add i = ⟨b, off + i, none⟩ from by unfold Addr.add; split <;> simp_all] at h1
    unfold World.cell? at h1
    rw [hb] at h1
    simpa using h1
  obtain ⟨pre, post, e1, e2⟩ := cells_cut (c := c) (off := off) (vs := (List.range ds.length).map V) (by simp; omega) (fun i hi => by
    have hi' : i < ds.length := by simpa using hi
    rw [hcell i hi']; simp [hi'])
  refine ⟨b, off, cap, _, pre, post, ty, fz, rfl, hle, by rw [hb, e1], e2, ?_⟩
  have gen : ∀ (l : List (DataW H)) (f : Nat → Value), (∀ i d, l[i]? = some d → ∃ n q, DataW.trod enc P w base sp held n e [f i] = some (d, q)) → All2 (fun d v => ∃ n q, DataW.trod enc P w base sp held n e [v] = some (d, q)) l ((List.range l.length).map f) := by
    intro l
    induction l with
    | nil => intro f _; exact .nil
    | cons d l ih =>
      intro f hf
      rw [List.length_cons, List.range_succ_eq_map, List.map_cons, List.map_map]
      exact .cons (hf 0 d rfl) (ih (f ∘ Nat.succ) (fun i d' hd' => hf (i + 1) d' (by simpa using hd')))
  exact gen ds V (fun i d hd => (hV i (List.getElem?_eq_some_iff.1 hd).1).2 d hd)
/-- A slice of strings, and where it lies. -/
structure Sl (W : World) (v : Value) (n : Nat) (l : List SV) (x : Nat × Nat × Nat × Nat) : Prop where
  val : v = .slice (some ⟨x.1, x.2.1, none⟩) n x.2.2.1
  le : n ≤ x.2.2.1
  obj : ∀ ρ, OR ρ (.cells l .gro) x.2.1 x.2.2.2 ((W.heap[x.1]?).map thaw)
abbrev litS (l : List UInt8) : DataW Unit := .lit (.string l)
abbrev bytN (l : List UInt8) : SV := .str (l.map UInt8.toNat)
theorem strs_of {W : World} {v : Value} {L : List (List UInt8)} {fuel : Nat} {q : List MemPlace} (hL : L ≠ [])
    (h : DataW.trod (fun _ => ()) SynP W 0 (fun _ => true) false fuel 32 [v] = some (.slice (L.map litS) [], q)) : ∃ x, Sl W v L.length (L.map bytN) x := by
  obtain ⟨b, off, cap, vs, pre, post, ty, fz, h1, h2, h3, h4, h5⟩ := open_sl (by simpa using hL) (show SynP.underlying 32 = some (.slice 9) by kernel_rfl) (by kernel_rfl) h
  rw [List.length_map] at h1 h2
  refine ⟨(b, off, cap, vs.length + post.length), ⟨by simpa using h1, h2, fun ρ => ?_⟩⟩
  have gen : ∀ (L : List (List UInt8)) (vs : List Value), All2 (fun d v => ∃ n q, DataW.trod (fun _ => ()) SynP W 0 (fun _ => true) false n 9 [v] = some (d, q)) (L.map litS) vs → All2 (SR ρ) (L.map bytN) vs := by
    intro L
    induction L with
    | nil => intro vs h5; cases h5; exact .nil
    | cons s L ih =>
      intro vs h5
      cases h5 with
      | @cons _ c0 _ cr ha hr =>
        obtain ⟨n, q, ha⟩ := ha
        obtain ⟨s', hs, hx, _⟩ := DataW.trod_string (show SynP.underlying 9 = some .string by kernel_rfl) ha
        refine .cons ⟨s', by simpa using hs, ?_⟩ (ih _ hr)
        simp only [Prod.mk.injEq, DataW.lit.injEq, Lit.string.injEq] at hx
        show s'.data.toList.map UInt8.toNat = s.map UInt8.toNat
        rw [← hx.1]
  exact ⟨pre, vs, post, ty, by rw [h3]; rfl, h4, gen L vs h5, rfl, (fun h => by cases h), (fun tg h => by rcases h with h | h <;> cases h)⟩
/-- Five names for the tuple's parts. -/
theorem slSR {W : World} {v : Value} {n : Nat} {l : List SV} {x : Nat × Nat × Nat × Nat} (h : Sl W v n l x) {q : Nat → Option (Nat × Nat × Nat)} {r : Nat} (hq : q r = some (x.1, x.2.1, x.2.2.2)) {c : Nat} (hc : c = x.2.2.1) :
    SR (ρI q) (.sl (.mk (.inp r) 0 n (.inl c))) v := by
  subst hc
  exact ⟨x.1, x.2.1, x.2.2.2, x.2.2.1, x.2.1, hq, h.val, fun _ => rfl, h.le, fun k hk => by cases hk; rfl, fun e he => by cases he⟩
/-- What a map of strings to strings holds. -/
def dictOf (e : Lit × DataW Unit) : V1 × V1 := (.s (.str (match e.1 with | .string l => l.map UInt8.toNat | _ => [])), .s (.str (match e.2 with | .lit (.string l) => l.map UInt8.toNat | _ => [])))
theorem dict_of {W : World} {v : Value} {E : List (Lit × DataW Unit)} {fuel : Nat} {q : List MemPlace}
    (h : DataW.trod (fun _ => ()) SynP W 0 (fun _ => true) false fuel 112 [v] = some (.map E, q)) : ∃ b, v = .map (some b) ∧ ∀ ρ sh m, OR ρ (.dict (E.map dictOf)) sh m ((W.heap[b]?).map thaw) := by
  rcases Go.WideElems.open_map (show SynP.underlying 112 = some (.map 9 9) by kernel_rfl) h with ⟨_, h2⟩ | ⟨b, es, clock, n, _, hc, hb, _, F, hx⟩
  · simp at h2
  · simp only [Prod.mk.injEq, DataW.map.injEq] at hx
    obtain ⟨hE, _⟩ := hx
    refine ⟨b, by simpa using hc, fun ρ sh m => ?_⟩
    refine ⟨es.toList, clock, es.toList.map fun x => ((dictOf (Go.WideElems.rg SynP 9 (Go.WideElems.elemAt (fun _ => ()) SynP W 0 (fun _ => true) false n 9) x)).1, (dictOf (Go.WideElems.rg SynP 9 (Go.WideElems.elemAt (fun _ => ()) SynP W 0 (fun _ => true) false n 9) x)).2, x.born), by rw [hb]; rfl, ?_, ?_⟩
    · have hr := F.reads
      revert hr
      generalize es.toList = xs
      intro hr
      induction xs with
      | nil => exact .nil
      | cons x xs ih =>
        refine .cons ?_ (ih fun y hy => hr y (List.mem_cons_of_mem _ hy))
        obtain ⟨y, hy⟩ := hr x (by simp)
        dsimp only
        rw [Go.WideElems.rg_of hy]
        obtain ⟨s, hk, hkl, _⟩ := Go.Maps.keyOf_str (show SynP.underlying 9 = some .string by kernel_rfl) (Go.WideElems.rd_key hy)
        obtain ⟨z, hz, hyz⟩ := Go.WideElems.rd_val hy
        obtain ⟨s2, hv, hz2, _⟩ := Go.WideElems.elemAt_string (show SynP.underlying 9 = some .string by kernel_rfl) hz
        obtain ⟨y1, y2⟩ := y
        simp only at hkl hyz
        subst hkl hyz hz2
        refine ⟨⟨_, hk, ?_⟩, ⟨_, hv, ?_⟩, rfl⟩
        · show (_ : List UInt8).map UInt8.toNat = s.map UInt8.toNat
          simp
        · rfl
    · rw [hE, List.map_map]
      have h1 := ((sorted_perm (es.toList.map (Go.WideElems.rg SynP 9 (Go.WideElems.elemAt (fun _ => ()) SynP W 0 (fun _ => true) false n 9)))).map dictOf).symm
      rw [List.map_map] at h1
      exact h1
/-- One package-level variable of those that the row lists: its cells, and what they read as. -/
theorem var_of {W : World} {n : String} {d : DataW Unit} {g t : Nat} (hg : SynP.globalNamed n = some g) (ht : (SynP.globals[g]?).map (·.type) = some t) {r : List (String × DataW Unit)} {ps : List MemPlace} (h : DataW.LaidVars SynP W ((n, d) :: r) ps) :
    (∃ (cs : Array Value) (ty : TypeId) (fz : Nat × Nat) (fuel : Nat) (p : List MemPlace), W.heap[g]? = some (.cells cs ty fz) ∧ DataW.trod (fun _ => ()) SynP W 0 (fun _ => true) false fuel t cs.toList = some (d, p)) ∧ ∃ qs, DataW.LaidVars SynP W r qs := by
  obtain ⟨g', t', cs, fuel, p, q, hg', ht', hv, htr, hrest, _⟩ := h
  obtain rfl : g' = g := Option.some.inj (hg'.symm.trans hg)
  obtain rfl : t' = t := Option.some.inj (ht'.symm.trans ht)
  refine ⟨?_, q, hrest⟩
  unfold World.var? at hv
  rw [hg] at hv
  simp only [Option.bind_some] at hv
  split at hv
  · rename_i cs' ty fz hh
    cases hv
    exact ⟨_, ty, fz, fuel, p, hh, htr⟩
  · cases hv
theorem skip_of {W : World} {x : String × DataW Unit} {r : List (String × DataW Unit)} {ps : List MemPlace} (h : DataW.LaidVars SynP W (x :: r) ps) : ∃ qs, DataW.LaidVars SynP W r qs := by
  obtain ⟨g', t', cs, fuel, p, q, hg', ht', hv, htr, hrest, _⟩ := h
  exact ⟨q, hrest⟩
/-- What is known of the memory that comes in. -/
structure SynGW (W : World) (mx : Int) (cp : Nat → Nat) (q : Nat → Option (Nat × Nat × Nat)) : Prop where
  glob : ∀ g, SynG g = true → ∃ mm, q g = some (g, 0, mm)
  mem : ∀ r ao, synM mx cp r = some ao → ∃ x sh mm, q r = some (x, sh, mm) ∧ OR (ρI q) ao sh mm ((W.heap[x]?).map thaw)
def szOf (W : World) (g : Nat) : Nat := match W.heap[g]? with | some (.cells c _ _) => c.size | _ => 0
def lookN (r : Nat) : List (Nat × (Nat × Nat × Nat)) → Option (Nat × Nat × Nat)
  | [] => none
  | p :: l => if r = p.1 then some p.2 else lookN r l
abbrev tri (x : Nat × Nat × Nat × Nat) : Nat × Nat × Nat := (x.1, x.2.1, x.2.2.2)
/-- A variable's cells. -/
theorem or_var {W : World} {ρ : Ren} {g : Nat} {cs : List Value} {ca : Array Value} {ty : TypeId} {fz : Nat × Nat} {l : List SV} (hh : W.heap[g]? = some (.cells ca ty fz)) (hc : ca.toList = cs) (h : All2 (SR ρ) l cs) : OR ρ (.cells l .gro) 0 (szOf W g) ((W.heap[g]?).map thaw) := by
  subst hc
  refine ⟨[], ca.toList, [], ty, by rw [hh]; simp [thaw], rfl, h, by simp [szOf, hh], (fun h => by cases h), (fun tg h => by rcases h with h | h <;> cases h)⟩
def synQ (W : World) (l : List (Nat × (Nat × Nat × Nat))) (r : Nat) : Option (Nat × Nat × Nat) := if r < 1000 then some (r, 0, szOf W r) else lookN r l
theorem synQ_lt {W : World} {l : List (Nat × (Nat × Nat × Nat))} {r : Nat} (h : r < 1000) : synQ W l r = some (r, 0, szOf W r) := by unfold synQ; rw [if_pos h]
def sg0L : List (List UInt8) := [[60, 60, 61], [62, 62, 61]]
def sg1L : List (List UInt8) := [[60, 60], [62, 62], [60, 61], [62, 61], [61, 61], [33, 61], [38, 38], [124, 124], [45, 62], [43, 61], [45, 61], [42, 61], [47, 61], [37, 61], [38, 61], [124, 61], [94, 61]]
def sg2L : List (List UInt8) := [[43], [45], [42], [47], [37], [38], [124], [94], [126], [33], [60], [62], [61], [40], [41], [91], [93], [123], [125], [44], [59], [58], [63], [46]]
def lv0L : List (List UInt8) := [[124, 124]]
def lv1L : List (List UInt8) := [[38, 38]]
def lv2L : List (List UInt8) := [[124]]
def lv3L : List (List UInt8) := [[94]]
def lv4L : List (List UInt8) := [[38]]
def lv5L : List (List UInt8) := [[61, 61], [33, 61]]
def lv6L : List (List UInt8) := [[60], [60, 61], [62], [62, 61]]
def lv7L : List (List UInt8) := [[60, 60], [62, 62]]
def lv8L : List (List UInt8) := [[43], [45]]
def lv9L : List (List UInt8) := [[42], [47], [37]]
def setsL : List (List UInt8) := [[61], [43, 61], [45, 61], [42, 61], [47, 61], [37, 61], [38, 61], [124, 61], [94, 61], [60, 60, 61], [62, 62, 61]]
theorem gw_of {W : World} (h : laidMetH SynP Go.Proofs.YtjifjbdlenmciaaGreatDoor.Rows.synBindsRow.laid W) (hs : W.ShapedOpen SynP) : ∃ mx cp q, SynGW W mx cp q := by
  have h : laidMet SynP Go.Proofs.YtjifjbdlenmciaaGreatDoor.Rows.synBindsRow.laid W := h
  obtain ⟨ps, h, _, _⟩ := h
  obtain ⟨p1, h1⟩ := skip_of h
  obtain ⟨p2, h2⟩ := skip_of h1
  obtain ⟨p3, h3⟩ := skip_of h2
  obtain ⟨⟨cs0, ty0, fz0, fu0, pp0, hh0, ht0⟩, p4, h4⟩ := var_of (g := 0) (t := 109) (by kernel_rfl) (by kernel_rfl) h3
  obtain ⟨⟨cs1, ty1, fz1, fu1, pp1, hh1, ht1⟩, p5, h5⟩ := var_of (g := 1) (t := 112) (by kernel_rfl) (by kernel_rfl) h4
  obtain ⟨⟨cs2, ty2, fz2, fu2, pp2, hh2, ht2⟩, p6, h6⟩ := var_of (g := 2) (t := 131) (by kernel_rfl) (by kernel_rfl) h5
  obtain ⟨⟨cs3, ty3, fz3, fu3, pp3, hh3, ht3⟩, p7, h7⟩ := var_of (g := 3) (t := 32) (by kernel_rfl) (by kernel_rfl) h6
  obtain ⟨mx, hmx⟩ := Go.Proofs.cell_of_shapedOpen_int (P := SynP) (g := 4) (t := 3) hs (of_decide_eq_true (by kernel_rfl)) (zero := #[.int .i64 0]) (by kernel_rfl) rfl (by kernel_rfl) (by kernel_rfl) (by kernel_rfl)
  -- lex.signs
  obtain ⟨c0, c1, c2, hcs0⟩ : ∃ c0 c1 c2, cs0.toList = [c0, c1, c2] := by
    have hlen : cs0.toList.length = 3 := by
      cases fu0 with
      | zero => simp [DataW.trod] at ht0
      | succ n =>
        unfold DataW.trod at ht0
        rw [show SynP.underlying 109 = some (.array 3 32) by kernel_rfl] at ht0
        simp only [show SynP.cellsOf 109 = 3 by kernel_rfl] at ht0
        split at ht0
        · assumption
        · cases ht0
    match h : cs0.toList, hlen with
    | [c0, c1, c2], _ => exact ⟨c0, c1, c2, rfl⟩
  rw [hcs0] at ht0
  obtain ⟨y0, y1, y2, n, hx, ha0, ha1, ha2⟩ := trod_array3 (show SynP.underlying 109 = some (.array 3 32) by kernel_rfl) (show SynP.cellsOf 32 = 1 by kernel_rfl) ht0
  simp only [Prod.mk.injEq] at hx
  have hx1 := hx.1
  unfold Go.Proofs.YtjifjbdlenmciaaGreatDoor.Rows.laid_spokeshave_lex_signs at hx1
  simp only [DataW.agg.injEq, List.cons.injEq] at hx1
  obtain ⟨e0, e1, e2, _⟩ := hx1
  obtain ⟨z0, Z0⟩ := strs_of (L := sg0L) (by decide) (v := c0) (q := y0.2) (ha0.trans (by rw [show y0 = (y0.1, y0.2) from rfl, ← e0]; rfl))
  obtain ⟨z1, Z1⟩ := strs_of (L := sg1L) (by decide) (v := c1) (q := y1.2) (ha1.trans (by rw [show y1 = (y1.1, y1.2) from rfl, ← e1]; rfl))
  obtain ⟨z2, Z2⟩ := strs_of (L := sg2L) (by decide) (v := c2) (q := y2.2) (ha2.trans (by rw [show y2 = (y2.1, y2.2) from rfl, ← e2]; rfl))
  -- syn.bases
  obtain ⟨m1, hcs1⟩ : ∃ c, cs1.toList = [c] := by
    rcases Go.WideElems.open_map (show SynP.underlying 112 = some (.map 9 9) by kernel_rfl) ht1 with ⟨h1, _⟩ | ⟨b, _, _, _, _, h1, _⟩
    · exact ⟨_, h1⟩
    · exact ⟨_, h1⟩
  rw [hcs1] at ht1
  obtain ⟨bm, hbm, OM⟩ := dict_of (E := _) (show DataW.trod (fun _ => ()) SynP W 0 (fun _ => true) false fu1 112 [m1] = some (.map _, pp1) from ht1)
  -- syn.levels
  obtain ⟨bl, ofl, cal, vsl, prel, postl, tyl, fzl, hcs2, hle2, hbl, hprel, hel⟩ := open_sl (by simp [Go.Proofs.YtjifjbdlenmciaaGreatDoor.Rows.laid_spokeshave_syn_levels]) (show SynP.underlying 131 = some (.slice 32) by kernel_rfl) (show SynP.cellsOf 32 = 1 by kernel_rfl) (show DataW.trod (fun _ => ()) SynP W 0 (fun _ => true) false fu2 131 cs2.toList = some (.slice _ [], pp2) from ht2)
  obtain _ | ⟨⟨nl0, ql0, gl0⟩, hel0⟩ := hel
  obtain _ | ⟨⟨nl1, ql1, gl1⟩, hel1⟩ := hel0
  obtain _ | ⟨⟨nl2, ql2, gl2⟩, hel2⟩ := hel1
  obtain _ | ⟨⟨nl3, ql3, gl3⟩, hel3⟩ := hel2
  obtain _ | ⟨⟨nl4, ql4, gl4⟩, hel4⟩ := hel3
  obtain _ | ⟨⟨nl5, ql5, gl5⟩, hel5⟩ := hel4
  obtain _ | ⟨⟨nl6, ql6, gl6⟩, hel6⟩ := hel5
  obtain _ | ⟨⟨nl7, ql7, gl7⟩, hel7⟩ := hel6
  obtain _ | ⟨⟨nl8, ql8, gl8⟩, hel8⟩ := hel7
  obtain _ | ⟨⟨nl9, ql9, gl9⟩, hel9⟩ := hel8
  cases hel9
  obtain ⟨w0, W0⟩ := strs_of (L := lv0L) (by decide) gl0
  obtain ⟨w1, W1⟩ := strs_of (L := lv1L) (by decide) gl1
  obtain ⟨w2, W2⟩ := strs_of (L := lv2L) (by decide) gl2
  obtain ⟨w3, W3⟩ := strs_of (L := lv3L) (by decide) gl3
  obtain ⟨w4, W4⟩ := strs_of (L := lv4L) (by decide) gl4
  obtain ⟨w5, W5⟩ := strs_of (L := lv5L) (by decide) gl5
  obtain ⟨w6, W6⟩ := strs_of (L := lv6L) (by decide) gl6
  obtain ⟨w7, W7⟩ := strs_of (L := lv7L) (by decide) gl7
  obtain ⟨w8, W8⟩ := strs_of (L := lv8L) (by decide) gl8
  obtain ⟨w9, W9⟩ := strs_of (L := lv9L) (by decide) gl9
  -- syn.sets
  obtain ⟨v3, hcs3⟩ : ∃ c, cs3.toList = [c] := by
    obtain ⟨b, off, cap, vs, pre, post, ty, fz, h1, _⟩ := open_sl (by simp [setsL]) (show SynP.underlying 32 = some (.slice 9) by kernel_rfl) (show SynP.cellsOf 9 = 1 by kernel_rfl) (show DataW.trod (fun _ => ()) SynP W 0 (fun _ => true) false fu3 32 cs3.toList = some (.slice (setsL.map litS) [], pp3) from ht3)
    exact ⟨_, h1⟩
  rw [hcs3] at ht3
  obtain ⟨z3, Z3⟩ := strs_of (L := setsL) (by decide) (v := v3) (q := pp3) ht3
  -- MaxLen
  obtain ⟨cs4, ty4, fz4, hh4, h40⟩ : ∃ cs ty fz, W.heap[4]? = some (.cells cs ty fz) ∧ cs[0]? = some (.int .i64 mx) := by
    unfold World.cell? at hmx
    split at hmx
    · rename_i c ty fz hh
      exact ⟨c, ty, fz, hh, by simpa using hmx⟩
    · cases hmx
  refine ⟨mx, fun j => [z0.2.2.1, z1.2.2.1, z2.2.2.1, cal, w0.2.2.1, w1.2.2.1, w2.2.2.1, w3.2.2.1, w4.2.2.1, w5.2.2.1, w6.2.2.1, w7.2.2.1, w8.2.2.1, w9.2.2.1, z3.2.2.1].getD j 0, synQ W [(1000, tri z0), (1001, tri z1), (1002, tri z2), (1003, (bm, 0, 0)), (1004, (bl, ofl, 10 + postl.length)), (1005, tri w0), (1006, tri w1), (1007, tri w2), (1008, tri w3), (1009, tri w4), (1010, tri w5), (1011, tri w6), (1012, tri w7), (1013, tri w8), (1014, tri w9), (1015, tri z3)], fun g hg => ⟨szOf W g, synQ_lt (by simpa [SynG] using hg)⟩, fun r ao h => ?_⟩
  have hm := lookA_mem h
  unfold synL at hm
  simp only [List.mem_cons, List.not_mem_nil, or_false, Prod.mk.injEq] at hm
  rcases hm with ⟨rfl, rfl⟩ | ⟨rfl, rfl⟩ | ⟨rfl, rfl⟩ | ⟨rfl, rfl⟩ | ⟨rfl, rfl⟩ | ⟨rfl, rfl⟩ | ⟨rfl, rfl⟩ | ⟨rfl, rfl⟩ | ⟨rfl, rfl⟩ | ⟨rfl, rfl⟩ | ⟨rfl, rfl⟩ | ⟨rfl, rfl⟩ | ⟨rfl, rfl⟩ | ⟨rfl, rfl⟩ | ⟨rfl, rfl⟩ | ⟨rfl, rfl⟩ | ⟨rfl, rfl⟩ | ⟨rfl, rfl⟩ | ⟨rfl, rfl⟩ | ⟨rfl, rfl⟩ | ⟨rfl, rfl⟩
  · exact ⟨0, 0, _, synQ_lt (by decide), or_var hh0 hcs0 (.cons (slSR Z0 rfl rfl) (.cons (slSR Z1 rfl rfl) (.cons (slSR Z2 rfl rfl) .nil)))⟩
  · exact ⟨1, 0, _, synQ_lt (by decide), or_var hh1 hcs1 (.cons ⟨bm, 0, 0, rfl, hbm⟩ .nil)⟩
  · exact ⟨2, 0, _, synQ_lt (by decide), or_var hh2 hcs2 (.cons ⟨bl, ofl, 10 + postl.length, cal, ofl, rfl, rfl, fun _ => rfl, hle2, fun k hk => by cases hk; rfl, fun e he => by cases he⟩ .nil)⟩
  · exact ⟨3, 0, _, synQ_lt (by decide), or_var hh3 hcs3 (.cons (slSR Z3 rfl rfl) .nil)⟩
  · obtain ⟨pre, post, hc4, hp4⟩ := cells_cut (c := cs4) (off := 0) (vs := [.int .i64 mx]) (by simp) (fun i hi => by
      obtain rfl : i = 0 := by simpa using hi
      simpa using h40)
    refine ⟨4, 0, _, synQ_lt (by decide), pre, [.int .i64 mx], post, ty4, by rw [hh4, hc4]; rfl, hp4, .cons rfl .nil, ?_, (fun h => by cases h), (fun tg h => by rcases h with h | h <;> cases h)⟩
    simp [szOf, hh4, hc4, List.eq_nil_of_length_eq_zero hp4]
    try omega
  · exact ⟨_, _, _, rfl, Z0.obj _⟩
  · exact ⟨_, _, _, rfl, Z1.obj _⟩
  · exact ⟨_, _, _, rfl, Z2.obj _⟩
  · exact ⟨bm, 0, 0, rfl, OM _ _ _⟩
  · refine ⟨bl, ofl, 10 + postl.length, rfl, prel, _, postl, tyl, by rw [hbl]; rfl, hprel, (.cons (slSR W0 rfl rfl) (.cons (slSR W1 rfl rfl) (.cons (slSR W2 rfl rfl) (.cons (slSR W3 rfl rfl) (.cons (slSR W4 rfl rfl) (.cons (slSR W5 rfl rfl) (.cons (slSR W6 rfl rfl) (.cons (slSR W7 rfl rfl) (.cons (slSR W8 rfl rfl) (.cons (slSR W9 rfl rfl) .nil)))))))))), rfl, (fun h => by cases h), (fun tg h => by rcases h with h | h <;> cases h)⟩
  · exact ⟨_, _, _, rfl, W0.obj _⟩
  · exact ⟨_, _, _, rfl, W1.obj _⟩
  · exact ⟨_, _, _, rfl, W2.obj _⟩
  · exact ⟨_, _, _, rfl, W3.obj _⟩
  · exact ⟨_, _, _, rfl, W4.obj _⟩
  · exact ⟨_, _, _, rfl, W5.obj _⟩
  · exact ⟨_, _, _, rfl, W6.obj _⟩
  · exact ⟨_, _, _, rfl, W7.obj _⟩
  · exact ⟨_, _, _, rfl, W8.obj _⟩
  · exact ⟨_, _, _, rfl, W9.obj _⟩
  · exact ⟨_, _, _, rfl, Z3.obj _⟩
end Go.Xe
