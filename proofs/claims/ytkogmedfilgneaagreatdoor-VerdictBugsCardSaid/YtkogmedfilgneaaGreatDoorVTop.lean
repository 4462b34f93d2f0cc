/- The statement VerdictBugsCardSaid is proved: VerdictBugs returns true for every input, and its arguments read afterwards as they did before; the listed package variables hold what the program's text lays. No condition beyond the card's own. -/
import Derived.Test.YtkogmedfilgneaaGreatDoorP12
import Derived.Test.YtkogmedfilgneaaGreatDoorP13
import Derived.Test.YtkogmedfilgneaaGreatDoorP14
import Derived.Test.YtkogmedfilgneaaGreatDoorP15
import Derived.Test.YtkogmedfilgneaaGreatDoorP16
import Derived.Test.YtkogmedfilgneaaGreatDoorP17
import Derived.Test.YtkogmedfilgneaaGreatDoorP18
import Derived.Test.YtkogmedfilgneaaGreatDoorP19
import Derived.ProofKit
import Derived.LaidMore
import Derived.OpenShut
import Derived.Stop.Joined
import Derived.Test.YtkogmedfilgneaaGreatDoorCards
import Derived.Test.YtkogmedfilgneaaGreatDoorTie
namespace Go.Proofs.YtkogmedfilgneaaGreatDoor
open Go.ChangeShapes Go.WideShapes Go.RowKit Go.Am
set_option linter.unusedVariables false

theorem own : ownKnob Tryz.prog.godebug = none := by kernel_rfl
theorem laidOut : laidOutB Tryz.prog = true := by kernel_rfl

theorem list_of {T : Dat → Prop} {α : Type} {f : α → Dat} (hf : ∀ d, T d → ∃ a, d = f a) : ∀ (l : List Dat), (∀ d ∈ l, T d) → ∃ xs : List α, l = xs.map f
  | [], _ => ⟨[], rfl⟩
  | d :: l, h => by
    obtain ⟨a, ha⟩ := hf d (h d (by simp))
    obtain ⟨xs, hx⟩ := list_of hf l fun d hd => h d (by simp [hd])
    exact ⟨a :: xs, by rw [ha, hx]; rfl⟩

theorem nums_of {D : Dat} (h : IsSl (IsInt .i64) D) : ∃ l : List Int, D = .sl (l.map Nn) := by
  obtain ⟨l, rfl, h, _⟩ := h
  obtain ⟨xs, rfl⟩ := list_of (f := Nn) (fun d hd => by obtain ⟨n, rfl, _⟩ := hd; exact ⟨n, rfl⟩) l h
  exact ⟨xs, rfl⟩

theorem races_of {D : Dat} (h : IsSl (IsAgg [IsInt .i64, IsInt .i64]) D) : ∃ l : List (Int × Int), D = .sl (l.map Rr) := by
  obtain ⟨l, rfl, h, _⟩ := h
  obtain ⟨xs, rfl⟩ := list_of (f := Rr) (fun d hd => by
    obtain ⟨ds, rfl, hl, ht⟩ := hd
    match ds, hl with
    | [d1, d2], _ =>
      obtain ⟨n, h1, _⟩ := ht 0 _ d1 rfl rfl
      obtain ⟨m, h2, _⟩ := ht 1 _ d2 rfl rfl
      exact ⟨(n, m), by rw [h1, h2]; rfl⟩) l h
  exact ⟨xs, rfl⟩

abbrev VdT : List (Dat → Prop) := [IsSl (IsInt .i64), IsSl (IsInt .i64), IsSl (IsInt .i64), IsSl (IsInt .i64), IsSl (IsAgg [IsInt .i64, IsInt .i64])]

theorem verdict_of {D : Dat} (h : IsAgg VdT D) : ∃ v : Vd, D = v.dat := by
  obtain ⟨ds, rfl, hl, ht⟩ := h
  match ds, hl with
  | [d1, d2, d3, d4, d5], _ =>
    obtain ⟨a, h1⟩ := nums_of (ht 0 _ d1 rfl rfl)
    obtain ⟨b, h2⟩ := nums_of (ht 1 _ d2 rfl rfl)
    obtain ⟨c, h3⟩ := nums_of (ht 2 _ d3 rfl rfl)
    obtain ⟨d, h4⟩ := nums_of (ht 3 _ d4 rfl rfl)
    obtain ⟨e, h5⟩ := races_of (ht 4 _ d5 rfl rfl)
    exact ⟨⟨a, b, c, d, e⟩, by rw [h1, h2, h3, h4, h5]; rfl⟩

theorem rdNums (w : World) : ReadsAs Tryz.prog w 22 (IsSl (IsInt .i64)) := reads_slice Tryz.underlying22 (of_decide_eq_true (by kernel_rfl)) (reads_int Tryz.underlying3)

theorem rdRaces (w : World) : ReadsAs Tryz.prog w 23 (IsSl (IsAgg [IsInt .i64, IsInt .i64])) :=
  reads_slice Tryz.underlying23 (of_decide_eq_true (by kernel_rfl)) (reads_struct Tryz.underlying71 (by kernel_rfl) rfl fun i f T hf hT => by
    match i, hf, hT with
    | 0, hf, hT => cases hf; cases hT; exact reads_int Tryz.underlying3
    | 1, hf, hT => cases hf; cases hT; exact reads_int Tryz.underlying3)

theorem argV : ArgOK Tryz.prog 25 (IsAgg VdT) :=
  argStruct Tryz.underlying25 (by kernel_rfl) rfl (fun w i f T hf hT => by
    match i, hf, hT with
    | 0, hf, hT => cases hf; cases hT; exact rdNums w
    | 1, hf, hT => cases hf; cases hT; exact rdNums w
    | 2, hf, hT => cases hf; cases hT; exact rdNums w
    | 3, hf, hT => cases hf; cases hT; exact rdNums w
    | 4, hf, hT => cases hf; cases hT; exact rdRaces w) (by kernel_rfl) (of_decide_eq_true (by kernel_rfl))

theorem all3 {A B C : Dat → Prop} (Ds : List Dat) (h : AllD [A, B, C] Ds) : ∃ a b c, Ds = [a, b, c] ∧ A a ∧ B b ∧ C c := by
  match Ds, h with
  | [a, b, c], h => exact ⟨a, b, c, rfl, h.1, h.2.1, h.2.2.1⟩

theorem law_runs (Ds : List Dat) (h : AllD [IsAgg VdT, IsAgg VdT, IsInt .i64] Ds) : ∃ os', callT tblV 3 (Ds.map .dat) [] = some (.dat (.bool true), os') := by
  obtain ⟨D1, D2, D3, rfl, h1, h2, h3⟩ := all3 Ds h
  obtain ⟨a, rfl⟩ := verdict_of h1
  obtain ⟨b, rfl⟩ := verdict_of h2
  obtain ⟨n, rfl, _⟩ := h3
  exact ⟨_, law3 a b n⟩

/-- The door's own heap meets the condition. -/
theorem door_met (os : Os) (args : Array Value) : laidMetH Tryz.prog vlaid ((World.doorLaid Tryz.prog 400 os).forCall (fun _ _ => 0) ⟨#[], args, []⟩).memory :=
  laidMetH_of_parts3 (fuel := 8) (laidMet_of_run' 8 (by kernel_rfl) (by kernel_rfl)) (by kernel_rfl) (by kernel_rfl)

abbrev v0 : Value := .agg #[.slice none 0 0, .slice none 0 0, .slice none 0 0, .slice none 0 0, .slice none 0 0]

set_option maxRecDepth 100000 in
theorem lifted (os : Os) (started : os.Started) (H : Type) (enc : TypeId × Value → H) :
    ReturnsInHanded {} Tryz.checked os 3 .any (fun w args => (Rows.verdictBugsSpec.pre enc Tryz.prog Tryz.f3 [] false w args ∧ laidMetH Tryz.prog vlaid w) ∧ sizedMet enc Tryz.prog Tryz.f3 (OpenSpec.ofChange Rows.verdictBugsSpec) false w args)
      (Rows.verdictBugsSpec.post enc Tryz.prog Tryz.f3 false true false false) := by
  refine returnsInHanded_of_change_and (C := Tryz.checked) (X := fun w _ => laidMetH Tryz.prog vlaid w) (fun _ _ _ hh h => h.of_heap hh) own started (by kernel_rfl) Tryz.func3
    (ChangeSpec.witness_shaped (enc := enc) (C := Tryz.checked) (os := os) (X := fun w _ => laidMetH Tryz.prog vlaid w) false (World.doorLaid Tryz.prog 400 os) #[v0, v0, .int .i64 0] 8 rfl (World.shaped_of_RefB (by kernel_rfl) (by kernel_rfl)) (by kernel_rfl) (by kernel_rfl) (by kernel_rfl) (door_met os _)) ?_
  intro W base args ds gs before hval hW _ _ hL _
  refine law_contract (Ts := [IsAgg VdT, IsAgg VdT, IsInt .i64]) tblV_ok laidOut (by rw [Tryz.params3]; exact ⟨argV, argV, argInt Tryz.underlying26 (by kernel_rfl) (of_decide_eq_true (by kernel_rfl)), trivial⟩) Tryz.underlying4 (by kernel_rfl) rfl ?_ (globOK_of_laid hL) ?_ hval hW
  · intro H ds h
    match ds, h with
    | [d1, d2, d3], _ => rfl
  · exact fun Ds h _ => law_runs Ds h

theorem jf : joinedFacts Tryz.prog 3 Tryz.f3 Rows.verdictBugsSpec Rows.verdictBugsRow = true := by
  unfold joinedFacts
  simp only [Bool.and_eq_true]
  exact ⟨⟨⟨⟨⟨⟨⟨⟨⟨⟨⟨⟨⟨⟨⟨⟨⟨⟨⟨⟨⟨⟨⟨⟨⟨⟨⟨⟨⟨⟨⟨vk1, vk2⟩, vk3⟩, vk4⟩, vk5⟩, vk6⟩, vk7⟩, vk8⟩, vk9⟩, vk10⟩, vk11⟩, vk12⟩, vk13⟩, vk14⟩, vk15⟩, vk16⟩, vk17⟩, vk18⟩, vk19⟩, vk20⟩, vk21⟩, vk22⟩, vk23⟩, vk24⟩, vk25⟩, vk26⟩, vk27⟩, vk28⟩, (by kernel_rfl)⟩, vk30⟩, vk31⟩, vk32⟩

theorem verdictBugs_row : Rows.VerdictBugsSaid :=
  OpenClaim.holds_of_wide 3 Tryz.f3 rfl rfl rfl rfl rfl rfl rfl ⟨rfl, rfl, rfl, rfl, rfl⟩ rfl rfl rfl rfl rfl va6 Tryz.func3 jf va7 va8
    (fun os started H enc _ => lifted os started H enc)

theorem verdictBugs_holds : Rows.VerdictBugsCardSaid :=
  Claim7.holds_tied_plain_at .later [] [.data, .data, .data] true (true, "26df014c139842711850b35034f5437e81c774227359981e26bdce19debfa390") false
    verdictBugs_row (fun _ h => by cases h) vc1 (fun _ h => by cases h) verdictBugs_row_tie rfl ⟨rfl, rfl⟩ vc2 rfl
    (fun f fn hf hfn => by
      obtain rfl : f = 3 := Option.some.inj (va6.symm.trans hf) |>.symm
      obtain rfl : fn = Tryz.f3 := (Option.some.inj (Tryz.func3.symm.trans hfn)).symm
      exact ⟨vc3, fun j t ht => by
        rw [Tryz.params3] at ht
        match j, ht with
        | 0, ht => simp at ht; subst ht; exact vc4
        | 1, ht => simp at ht; subst ht; exact vc4
        | 2, ht => simp at ht; subst ht; exact vc5
        | j + 3, ht => simp at ht⟩)
    vc6
#print axioms verdictBugs_holds
end Go.Proofs.YtkogmedfilgneaaGreatDoor
