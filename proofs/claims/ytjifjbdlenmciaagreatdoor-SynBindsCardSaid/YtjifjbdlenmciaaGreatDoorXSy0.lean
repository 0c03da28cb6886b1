/- Syn: what came in, the table of functions, awake. -/
import Derived.Test.YtjifjbdlenmciaaGreatDoorXF
import Derived.Test.YtjifjbdlenmciaaGreatDoorXSyC
set_option linter.unusedVariables false
set_option linter.unusedSimpArgs false
set_option linter.constructorNameAsVariable false
set_option linter.unusedVariables false
set_option linter.unusedSimpArgs false
namespace Go.Xe
open Go.RowKit
set_option maxRecDepth 100000
noncomputable def lookA (r : Nat) (l : List (Nat × AO)) : Option AO := List.rec (motive := fun _ => Option AO) none (fun p _ ih => cond (Nat.beq r p.1) (some p.2) ih) l
theorem lookA_mem {r : Nat} : ∀ {l : List (Nat × AO)} {ao}, lookA r l = some ao → (r, ao) ∈ l
  | [], ao, h => by cases h
  | p :: l, ao, h => by
    have h : (cond (Nat.beq r p.1) (some p.2) (lookA r l)) = some ao := h
    cases hb : Nat.beq r p.1 with
    | true =>
      rw [hb] at h
      obtain rfl := Nat.eq_of_beq_eq_true hb
      cases h; simp
    | false => rw [hb] at h; exact List.mem_cons_of_mem _ (lookA_mem h)
def synL (mx : Int) (cp : Nat → Nat) : List (Nat × AO) := [(0, .cells [.sl (.mk (.inp 1000) 0 2 (.inl (cp 0))), .sl (.mk (.inp 1001) 0 17 (.inl (cp 1))), .sl (.mk (.inp 1002) 0 24 (.inl (cp 2)))] .gro),
  (1, .cells [.map (.mk (.inp 1003))] .gro),
  (2, .cells [.sl (.mk (.inp 1004) 0 10 (.inl (cp 3)))] .gro),
  (3, .cells [.sl (.mk (.inp 1015) 0 11 (.inl (cp 14)))] .gro),
  (4, .cells [.int .i64 mx] .gro),
  (1000, .cells [.str [60, 60, 61], .str [62, 62, 61]] .gro),
  (1001, .cells [.str [60, 60], .str [62, 62], .str [60, 61], .str [62, 61], .str [61, 61], .str [33, 61], .str [38, 38], .str [124, 124], .str [45, 62], .str [43, 61], .str [45, 61], .str [42, 61], .str [47, 61], .str [37, 61], .str [38, 61], .str [124, 61], .str [94, 61]] .gro),
  (1002, .cells [.str [43], .str [45], .str [42], .str [47], .str [37], .str [38], .str [124], .str [94], .str [126], .str [33], .str [60], .str [62], .str [61], .str [40], .str [41], .str [91], .str [93], .str [123], .str [125], .str [44], .str [59], .str [58], .str [63], .str [46]] .gro),
  (1003, .dict [(.s (.str [99, 104, 97, 114]), .s (.str [105, 56])), (.s (.str [105, 110, 116]), .s (.str [105, 51, 50])), (.s (.str [108, 111, 110, 103]), .s (.str [105, 54, 52])), (.s (.str [115, 104, 111, 114, 116]), .s (.str [105, 49, 54])), (.s (.str [115, 116, 114, 117, 99, 116]), .s (.str [83, 46])), (.s (.str [117, 110, 115, 105, 103, 110, 101, 100]), .s (.str [117, 51, 50])), (.s (.str [118, 111, 105, 100]), .s (.str [118, 111, 105, 100]))]),
  (1004, .cells [.sl (.mk (.inp 1005) 0 1 (.inl (cp 4))), .sl (.mk (.inp 1006) 0 1 (.inl (cp 5))), .sl (.mk (.inp 1007) 0 1 (.inl (cp 6))), .sl (.mk (.inp 1008) 0 1 (.inl (cp 7))), .sl (.mk (.inp 1009) 0 1 (.inl (cp 8))), .sl (.mk (.inp 1010) 0 2 (.inl (cp 9))), .sl (.mk (.inp 1011) 0 4 (.inl (cp 10))), .sl (.mk (.inp 1012) 0 2 (.inl (cp 11))), .sl (.mk (.inp 1013) 0 2 (.inl (cp 12))), .sl (.mk (.inp 1014) 0 3 (.inl (cp 13)))] .gro),
  (1005, .cells [.str [124, 124]] .gro),
  (1006, .cells [.str [38, 38]] .gro),
  (1007, .cells [.str [124]] .gro),
  (1008, .cells [.str [94]] .gro),
  (1009, .cells [.str [38]] .gro),
  (1010, .cells [.str [61, 61], .str [33, 61]] .gro),
  (1011, .cells [.str [60], .str [60, 61], .str [62], .str [62, 61]] .gro),
  (1012, .cells [.str [60, 60], .str [62, 62]] .gro),
  (1013, .cells [.str [43], .str [45]] .gro),
  (1014, .cells [.str [42], .str [47], .str [37]] .gro),
  (1015, .cells [.str [61], .str [43, 61], .str [45, 61], .str [42, 61], .str [47, 61], .str [37, 61], .str [38, 61], .str [124, 61], .str [94, 61], .str [60, 60, 61], .str [62, 62, 61]] .gro)]
noncomputable def synM (mx : Int) (cp : Nat → Nat) (r : Nat) : Option AO := lookA r (synL mx cp)
theorem synM_old (mx : Int) (cp : Nat → Nat) (r : Nat) (ao : AO) (h : synM mx cp r = some ao) : oldAO ao = true := by
  have hm := lookA_mem h
  have hall : (synL mx cp).all (fun p => oldAO p.2) = true := by rfl
  exact List.all_eq_true.1 hall _ hm
noncomputable abbrev SynS (mx : Int) (cp : Nat → Nat) : St := SI (synM mx cp)
noncomputable def SynB : Disp := Disp.add 49 idxByteK <| Disp.add 76 hasStrK <| Disp.add 52 indexStrK <| Disp.add 66 repeatK <| Disp.add 64 joinK <| Disp.add 65 ccK <| Disp.add 22 stringK Disp.no
theorem SynB_ok : DOK SynP SynG SynB :=
  DOK.add (fun _ _ _ h => .inl (idxByteK_ok h)) <| DOK.add (fun _ _ _ h => .inl (hasStrK_ok h)) <| DOK.add (fun _ _ _ h => .inl (indexStrK_ok h)) <| DOK.add (fun _ _ _ h => .inl (repeatK_ok h)) <|
  DOK.add (fun _ _ _ h => .inl (joinK_ok h)) <| DOK.add (fun _ _ _ h => .inl (ccK_ok h)) <| DOK.add (fun _ _ _ h => .inl (stringK_ok h)) DOK.no
abbrev isTrue : AV → St → Prop := fun v _ => v = .one (.s (.bool true))
theorem syn_awake_run (k : Nat) (mx : Int) (cp : Nat → Nat) : A12_0 (SynD SynB (k+4000)) (J12 (SynD SynB (k+4000)) (k+4000)) [] (SynS mx cp) isTrue = ((.one (.s (.bool true)) : AV) = .one (.s (.bool true))) := by kernel_rfl
theorem syn_awake_of {D : Disp} (hD : DOK SynP SynG D) {k : Nat} {S : St} {K : AV → St → Prop} {p : Prop} (hp : p) (h : A12_0 D (J12 D k) [] S K = p) : CallE SynP SynG 12 [] S K := by
  rw [← h] at hp
  exact E12_ok hD k hp
theorem syn_awake (mx : Int) (cp : Nat → Nat) : CallE SynP SynG 12 [] (SynS mx cp) isTrue :=
  syn_awake_of (SynD_ok SynB_ok (0 + 4000)) (k := 0 + 4000) rfl (syn_awake_run 0 mx cp)
noncomputable def SynE (mx : Int) (cp : Nat → Nat) (k : Nat) : Disp := Disp.add 12 (fun args S K => endL args (S.inp = synM mx cp ∧ K (.one (.s (.bool true))) S)) (SynD SynB k)
theorem SynE_ok (mx : Int) (cp : Nat → Nat) (k : Nat) : DOK SynP SynG (SynE mx cp k) :=
  DOK.add (fun args S K h => by
    obtain ⟨rfl, hS, hk⟩ := endL_some h
    refine .inl (CallE.aloneI rfl (fun r => by rw [hS]) (synM_old mx cp) (syn_awake mx cp) ?_)
    rintro v S' rfl
    exact ⟨rfl, hk⟩) (SynD_ok SynB_ok k)
abbrev nmS (x : Int) : AV := .one (.s (.int .i64 x))
/-- What a case comes to. -/
abbrev fine (mx : Int) (cp : Nat → Nat) : Prop := synM mx cp = synM mx cp ∧ (.one (.s (.bool true)) : AV) = .one (.s (.bool true))
end Go.Xe
