/- The statement RaceClocksCardSaid is proved: RaceClocks returns true for every input, and its argument reads afterwards as it did before; the listed package variables hold what the program's text lays. No condition beyond the card's own. -/
import Derived.Test.YtgaeajfoiigbkaaGreatDoorP26
import Derived.Test.YtgaeajfoiigbkaaGreatDoorP42
import Derived.Test.YtgaeajfoiigbkaaGreatDoorP44
import Derived.Test.YtgaeajfoiigbkaaGreatDoorP45
import Derived.Test.YtgaeajfoiigbkaaGreatDoorP46
import Derived.Test.YtgaeajfoiigbkaaGreatDoorP47
import Derived.Test.YtgaeajfoiigbkaaGreatDoorP48
import Derived.Test.YtgaeajfoiigbkaaGreatDoorP49
import Derived.Test.YtgaeajfoiigbkaaGreatDoorP50
import Derived.ProofKit
import Derived.LaidMore
import Derived.OpenShut
import Derived.Stop.Joined
import Derived.Test.YtgaeajfoiigbkaaGreatDoorCards
import Derived.Test.YtgaeajfoiigbkaaGreatDoorTie
namespace Go.Proofs.YtgaeajfoiigbkaaGreatDoor
open Go.ChangeShapes Go.WideShapes Go.RowKit Go.Am Go.Rc
set_option linter.unusedVariables false

theorem own : ownKnob Tryz.prog.godebug = none := by kernel_rfl
theorem laidOut : laidOutB Tryz.prog = true := by kernel_rfl

abbrev EvT : List (Dat → Prop) := [IsInt .i64, IsInt .i64, IsInt .i64, IsInt .i64, IsInt .i64, IsInt .i64, IsInt .i64, IsInt .i64, IsInt .i64]

theorem ev_of {D : Dat} (h : IsAgg EvT D) : ∃ e : Evt, D = W.ED e ∧ -9223372036854775808 ≤ e.ag ∧ e.ag < 9223372036854775808 := by
  obtain ⟨ds, rfl, hl, ht⟩ := h
  match ds, hl with
  | [d1, d2, d3, d4, d5, d6, d7, d8, d9], _ =>
    obtain ⟨n1, h1, g1⟩ := ht 0 _ d1 rfl rfl
    obtain ⟨n2, h2, _⟩ := ht 1 _ d2 rfl rfl
    obtain ⟨n3, h3, _⟩ := ht 2 _ d3 rfl rfl
    obtain ⟨n4, h4, _⟩ := ht 3 _ d4 rfl rfl
    obtain ⟨n5, h5, _⟩ := ht 4 _ d5 rfl rfl
    obtain ⟨n6, h6, _⟩ := ht 5 _ d6 rfl rfl
    obtain ⟨n7, h7, _⟩ := ht 6 _ d7 rfl rfl
    obtain ⟨n8, h8, _⟩ := ht 7 _ d8 rfl rfl
    obtain ⟨n9, h9, _⟩ := ht 8 _ d9 rfl rfl
    have hb := bounds_i64 g1
    exact ⟨⟨n1, n2, n3, n4, n5, n6, n7, n8, n9⟩, by rw [h1, h2, h3, h4, h5, h6, h7, h8, h9]; rfl, hb.1, by have := hb.2; simp only; omega⟩

theorem evs_of : ∀ (l : List Dat), (∀ d ∈ l, IsAgg EvT d) → ∃ es : List Evt, l = es.map W.ED ∧ W.InA es
  | [], _ => ⟨[], rfl, by simp [W.InA]⟩
  | d :: l, h => by
    obtain ⟨e, h1, h2⟩ := ev_of (h d (by simp))
    obtain ⟨es, h3, h4⟩ := evs_of l fun d hd => h d (by simp [hd])
    refine ⟨e :: es, by rw [h1, h3]; rfl, fun x hx => ?_⟩
    rcases List.mem_cons.1 hx with rfl | hx
    · exact h2
    · exact h4 x hx

theorem argEs : ArgOK Tryz.prog 34 (IsSl (IsAgg EvT)) :=
  argSlice Tryz.underlying34 (of_decide_eq_true (by kernel_rfl)) (fun w => reads_struct Tryz.underlying83 (by kernel_rfl) rfl fun i f T hf hT => by
    match i, hf, hT with
    | 0, hf, hT => cases hf; cases hT; exact reads_int Tryz.underlying3
    | 1, hf, hT => cases hf; cases hT; exact reads_int Tryz.underlying3
    | 2, hf, hT => cases hf; cases hT; exact reads_int Tryz.underlying81
    | 3, hf, hT => cases hf; cases hT; exact reads_int Tryz.underlying3
    | 4, hf, hT => cases hf; cases hT; exact reads_int Tryz.underlying3
    | 5, hf, hT => cases hf; cases hT; exact reads_int Tryz.underlying3
    | 6, hf, hT => cases hf; cases hT; exact reads_int Tryz.underlying62
    | 7, hf, hT => cases hf; cases hT; exact reads_int Tryz.underlying3
    | 8, hf, hT => cases hf; cases hT; exact reads_int Tryz.underlying3) (by kernel_rfl) (of_decide_eq_true (by kernel_rfl))

theorem law_runs (Ds : List Dat) (h : AllD [IsSl (IsAgg EvT)] Ds) : ∃ os', callT Go.Am.W.tblR 5 (Ds.map .dat) [] = some (.dat (.bool true), os') := by
  match Ds, h with
  | [D], h =>
    obtain ⟨l, rfl, h1, _⟩ := h.1
    obtain ⟨es, rfl, hA⟩ := evs_of l h1
    exact ⟨_, Go.Am.W.run5 es hA⟩

/-- The door's own heap meets the condition. -/
theorem door_met (os : Os) (args : Array Value) : laidMetH Tryz.prog vlaid ((World.doorLaid Tryz.prog 400 os).forCall (fun _ _ => 0) ⟨#[], args, []⟩).memory :=
  laidMetH_of_parts3 (fuel := 8) (laidMet_of_run' 8 (by kernel_rfl) (by kernel_rfl)) (by kernel_rfl) (by kernel_rfl)

set_option maxRecDepth 100000 in
theorem lifted (os : Os) (started : os.Started) (H : Type) (enc : TypeId × Value → H) :
    ReturnsInHanded {} Tryz.checked os 5 .any (fun w args => (Rows.raceClocksSpec.pre enc Tryz.prog Tryz.f5 [] false w args ∧ laidMetH Tryz.prog vlaid w) ∧ sizedMet enc Tryz.prog Tryz.f5 (OpenSpec.ofChange Rows.raceClocksSpec) false w args)
      (Rows.raceClocksSpec.post enc Tryz.prog Tryz.f5 false true false false) := by
  refine returnsInHanded_of_change_and (C := Tryz.checked) (X := fun w _ => laidMetH Tryz.prog vlaid w) (fun _ _ _ hh h => h.of_heap hh) own started (by kernel_rfl) Tryz.func5
    (ChangeSpec.witness_shaped (enc := enc) (C := Tryz.checked) (os := os) (X := fun w _ => laidMetH Tryz.prog vlaid w) false (World.doorLaid Tryz.prog 400 os) #[.slice none 0 0] 8 rfl (World.shaped_of_RefB (by kernel_rfl) (by kernel_rfl)) (by kernel_rfl) (by kernel_rfl) (by kernel_rfl) (door_met os _)) ?_
  intro W base args ds gs before hval hW _ _ hL _
  refine law_contract (Ts := [IsSl (IsAgg EvT)]) (Go.Am.W.tblR_ok ex_ok) laidOut (by rw [Tryz.params5]; exact ⟨argEs, trivial⟩) Tryz.underlying4 (by kernel_rfl) rfl ?_ (globOK_of_laid hL) ?_ hval hW
  · intro H ds h
    match ds, h with
    | [d1], _ => rfl
  · exact fun Ds h _ => law_runs Ds h

theorem jf : joinedFacts Tryz.prog 5 Tryz.f5 Rows.raceClocksSpec Rows.raceClocksRow = true := by
  unfold joinedFacts
  simp only [Bool.and_eq_true]
  exact ⟨⟨⟨⟨⟨⟨⟨⟨⟨⟨⟨⟨⟨⟨⟨⟨⟨⟨⟨⟨⟨⟨⟨⟨⟨⟨⟨⟨⟨⟨⟨vk1, vk2⟩, vk3⟩, vk4⟩, vk5⟩, vk6⟩, vk7⟩, vk8⟩, vk9⟩, vk10⟩, vk11⟩, vk12⟩, vk13⟩, vk14⟩, vk15⟩, vk16⟩, vk17⟩, vk18⟩, vk19⟩, vk20⟩, vk21⟩, vk22⟩, vk23⟩, vk24⟩, vk25⟩, vk26⟩, vk27⟩, vk28⟩, (by kernel_rfl)⟩, vk30⟩, vk31⟩, vk32⟩

theorem raceClocks_row : Rows.RaceClocksSaid :=
  OpenClaim.holds_of_wide 5 Tryz.f5 rfl rfl rfl rfl rfl rfl rfl ⟨rfl, rfl, rfl, rfl, rfl⟩ rfl rfl rfl rfl rfl va6 Tryz.func5 jf va7 va8
    (fun os started H enc _ => lifted os started H enc)

theorem raceClocks_holds : Rows.RaceClocksCardSaid :=
  Claim7.holds_tied_plain_at .later [] [.data, .data, .data] true (true, "26df014c139842711850b35034f5437e81c774227359981e26bdce19debfa390") false
    raceClocks_row (fun _ h => by cases h) vc1 (fun _ h => by cases h) raceClocks_row_tie rfl ⟨rfl, rfl⟩ vc2 rfl
    (fun f fn hf hfn => by
      obtain rfl : f = 5 := Option.some.inj (va6.symm.trans hf) |>.symm
      obtain rfl : fn = Tryz.f5 := (Option.some.inj (Tryz.func5.symm.trans hfn)).symm
      exact ⟨vc3, fun j t ht => by
        rw [Tryz.params5] at ht
        match j, ht with
        | 0, ht => simp at ht; subst ht; exact vc4
        | j + 1, ht => simp at ht⟩)
    vc6
#print axioms raceClocks_holds
end Go.Proofs.YtgaeajfoiigbkaaGreatDoor
