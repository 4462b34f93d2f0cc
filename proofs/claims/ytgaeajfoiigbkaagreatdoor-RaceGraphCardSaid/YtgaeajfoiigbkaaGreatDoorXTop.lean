/- The statement RaceGraphCardSaid is proved: RaceGraph returns true for every input, and its argument reads afterwards as it did before; the listed package variables hold what the program's text lays. No condition beyond the card's own. -/
import Derived.Test.YtgaeajfoiigbkaaGreatDoorP20
import Derived.Test.YtgaeajfoiigbkaaGreatDoorP22
import Derived.Test.YtgaeajfoiigbkaaGreatDoorP39
import Derived.Test.YtgaeajfoiigbkaaGreatDoorP40
import Derived.Test.YtgaeajfoiigbkaaGreatDoorP41
import Derived.Test.YtgaeajfoiigbkaaGreatDoorP42
import Derived.Test.YtgaeajfoiigbkaaGreatDoorP43
import Derived.Test.YtgaeajfoiigbkaaGreatDoorP44
import Derived.Test.YtgaeajfoiigbkaaGreatDoorP45
import Derived.Test.YtgaeajfoiigbkaaGreatDoorP46
import Derived.ProofKit
import Derived.LaidMore
import Derived.OpenShut
import Derived.Stop.Joined
import Derived.Test.YtgaeajfoiigbkaaGreatDoorCards
import Derived.Test.YtgaeajfoiigbkaaGreatDoorTie
namespace Go.Proofs.YtgaeajfoiigbkaaGreatDoor
open Go.ChangeShapes Go.WideShapes Go.RowKit Go.Am Go.Rc
set_option linter.unusedVariables false

theorem own : ownKnob Tryz.prog.godebug = none := by kernel_rfl
theorem laidOut : laidOutB Tryz.prog = true := by kernel_rfl

abbrev I64 : Dat → Prop := IsInt .i64
abbrev EvT : List (Dat → Prop) := [I64, I64, I64, I64, I64, I64, I64, I64, I64]
abbrev GrT : Dat → Prop := IsAgg [IsSl (IsAgg EvT), IsSl I64, IsSl (IsSl I64)]

theorem map_of {α : Type} {f : α → Dat} {T : Dat → Prop} (h : ∀ d, T d → ∃ x, d = f x) : ∀ l : List Dat, (∀ d ∈ l, T d) → ∃ xs : List α, l = xs.map f
  | [], _ => ⟨[], rfl⟩
  | d :: r, hl => by
    obtain ⟨x, rfl⟩ := h d (hl d (by simp))
    obtain ⟨xs, rfl⟩ := map_of h r fun e he => hl e (by simp [he])
    exact ⟨x :: xs, rfl⟩
theorem int_of {D : Dat} (h : I64 D) : ∃ n : Int, D = E.Nn n := ⟨h.choose, h.choose_spec.1⟩
theorem ev_of {D : Dat} (h : IsAgg EvT D) : ∃ e : Evt, D = e.dat := by
  obtain ⟨ds, rfl, hl, ht⟩ := h
  match ds, hl with
  | [d1, d2, d3, d4, d5, d6, d7, d8, d9], _ =>
    obtain ⟨n1, h1⟩ := int_of (ht 0 _ d1 rfl rfl)
    obtain ⟨n2, h2⟩ := int_of (ht 1 _ d2 rfl rfl)
    obtain ⟨n3, h3⟩ := int_of (ht 2 _ d3 rfl rfl)
    obtain ⟨n4, h4⟩ := int_of (ht 3 _ d4 rfl rfl)
    obtain ⟨n5, h5⟩ := int_of (ht 4 _ d5 rfl rfl)
    obtain ⟨n6, h6⟩ := int_of (ht 5 _ d6 rfl rfl)
    obtain ⟨n7, h7⟩ := int_of (ht 6 _ d7 rfl rfl)
    obtain ⟨n8, h8⟩ := int_of (ht 7 _ d8 rfl rfl)
    obtain ⟨n9, h9⟩ := int_of (ht 8 _ d9 rfl rfl)
    exact ⟨⟨n1, n2, n3, n4, n5, n6, n7, n8, n9⟩, by rw [h1, h2, h3, h4, h5, h6, h7, h8, h9]; rfl⟩
theorem lists_of : ∀ l : List Dat, (∀ d ∈ l, IsSl I64 d) → ∃ ms : List (List Int), l = E.moD ms ∧ ∀ m ∈ ms, m.length ≤ 9223372036854775807
  | [], _ => ⟨[], rfl, by simp⟩
  | d :: r, hl => by
    obtain ⟨m, rfl, h1, h2⟩ := hl d (by simp)
    obtain ⟨xs, rfl⟩ := map_of (fun d h => int_of h) m h1
    obtain ⟨ms, rfl, h3⟩ := lists_of r fun e he => hl e (by simp [he])
    refine ⟨xs :: ms, rfl, fun m hm => ?_⟩
    rcases List.mem_cons.1 hm with rfl | hm
    · simpa [maxLen] using h2
    · exact h3 m hm
theorem gr_of {D : Dat} (h : GrT D) : ∃ (es : List Evt) (rf : List Int) (ms : List (List Int)), D = E.GD es (E.nnI rf) (E.moD ms) ∧ ∀ m ∈ ms, m.length ≤ 9223372036854775807 := by
  obtain ⟨ds, rfl, hl, ht⟩ := h
  match ds, hl with
  | [d1, d2, d3], _ =>
    obtain ⟨l1, rfl, h1, _⟩ := ht 0 _ d1 rfl rfl
    obtain ⟨l2, rfl, h2, _⟩ := ht 1 _ d2 rfl rfl
    obtain ⟨l3, rfl, h3, _⟩ := ht 2 _ d3 rfl rfl
    obtain ⟨es, rfl⟩ := map_of (fun d h => ev_of h) l1 h1
    obtain ⟨rf, rfl⟩ := map_of (fun d h => int_of h) l2 h2
    obtain ⟨ms, rfl, h4⟩ := lists_of l3 h3
    exact ⟨es, rf, ms, rfl, h4⟩

theorem rdI (w : World) : zgf7 Tryz.prog w 3 I64 := zuc7 Tryz.underlying3
theorem rdIs (w : World) : zgf7 Tryz.prog w 22 (IsSl I64) := reads_slice Tryz.underlying22 (of_decide_eq_true (by kernel_rfl)) (rdI w)
theorem rdEv (w : World) : zgf7 Tryz.prog w 83 (IsAgg EvT) := reads_struct Tryz.underlying83 (by kernel_rfl) rfl fun i f T hf hT => by
  match i, hf, hT with
  | 0, hf, hT => cases hf; cases hT; exact zuc7 Tryz.underlying3
  | 1, hf, hT => cases hf; cases hT; exact zuc7 Tryz.underlying3
  | 2, hf, hT => cases hf; cases hT; exact zuc7 Tryz.underlying81
  | 3, hf, hT => cases hf; cases hT; exact zuc7 Tryz.underlying3
  | 4, hf, hT => cases hf; cases hT; exact zuc7 Tryz.underlying3
  | 5, hf, hT => cases hf; cases hT; exact zuc7 Tryz.underlying3
  | 6, hf, hT => cases hf; cases hT; exact zuc7 Tryz.underlying62
  | 7, hf, hT => cases hf; cases hT; exact zuc7 Tryz.underlying3
  | 8, hf, hT => cases hf; cases hT; exact zuc7 Tryz.underlying3
theorem argGr : ArgOK Tryz.prog 37 GrT :=
  argStruct Tryz.underlying37 (by kernel_rfl) rfl (fun w i f T hf hT => by
    match i, hf, hT with
    | 0, hf, hT => cases hf; cases hT; exact reads_slice Tryz.underlying34 (of_decide_eq_true (by kernel_rfl)) (rdEv w)
    | 1, hf, hT => cases hf; cases hT; exact rdIs w
    | 2, hf, hT => cases hf; cases hT; exact reads_slice Tryz.underlying35 (of_decide_eq_true (by kernel_rfl)) (rdIs w)) (by kernel_rfl) (of_decide_eq_true (by kernel_rfl))

theorem law_runs (Ds : List Dat) (h : AllD [GrT] Ds) : ∃ os', callT Go.Am.E.tblE 4 (Ds.map .dat) [] = some (.dat (.bool true), os') := by
  match Ds, h with
  | [D], h =>
    obtain ⟨es, rf, ms, rfl, h1⟩ := gr_of h.1
    exact ⟨_, Go.Am.E.run4 es rf ms h1⟩

/-- The door's own heap meets the condition. -/
theorem door_met (os : Os) (args : Array Value) : laidMetH Tryz.prog vlaid ((World.doorLaid Tryz.prog 400 os).forCall (fun _ _ => 0) ⟨#[], args, []⟩).memory :=
  laidMetH_of_parts3 (fuel := 8) (laidMet_of_run' 8 (by kernel_rfl) (by kernel_rfl)) (by kernel_rfl) (by kernel_rfl)

set_option maxRecDepth 100000 in
theorem lifted (os : Os) (started : os.Started) (H : Type) (enc : TypeId × Value → H) :
    ReturnsInHanded {} Tryz.checked os 4 .any (fun w args => (Rows.raceGraphSpec.pre enc Tryz.prog Tryz.f4 [] false w args ∧ laidMetH Tryz.prog vlaid w) ∧ sizedMet enc Tryz.prog Tryz.f4 (OpenSpec.ofChange Rows.raceGraphSpec) false w args)
      (Rows.raceGraphSpec.post enc Tryz.prog Tryz.f4 false true false false) := by
  refine returnsInHanded_of_change_and (C := Tryz.checked) (X := fun w _ => laidMetH Tryz.prog vlaid w) (fun _ _ _ hh h => h.of_heap hh) own started (by kernel_rfl) Tryz.func4
    (ChangeSpec.witness_shaped (enc := enc) (C := Tryz.checked) (os := os) (X := fun w _ => laidMetH Tryz.prog vlaid w) false (World.doorLaid Tryz.prog 400 os) #[.agg #[.slice none 0 0, .slice none 0 0, .slice none 0 0]] 8 rfl (World.shaped_of_RefB (by kernel_rfl) (by kernel_rfl)) (by kernel_rfl) (by kernel_rfl) (by kernel_rfl) (door_met os _)) ?_
  intro W base args ds gs before hval hW _ _ hL _
  refine law_contract (Ts := [GrT]) (Go.Am.E.tblE_ok ex_ok) laidOut (by rw [Tryz.params4]; exact ⟨argGr, trivial⟩) Tryz.underlying4 (by kernel_rfl) rfl ?_ (globOK_of_laid hL) ?_ hval hW
  · intro H ds h
    match ds, h with
    | [d1], _ => rfl
  · exact fun Ds h _ => law_runs Ds h

theorem jf : joinedFacts Tryz.prog 4 Tryz.f4 Rows.raceGraphSpec Rows.raceGraphRow = true := by
  unfold joinedFacts
  simp only [Bool.and_eq_true]
  exact ⟨⟨⟨⟨⟨⟨⟨⟨⟨⟨⟨⟨⟨⟨⟨⟨⟨⟨⟨⟨⟨⟨⟨⟨⟨⟨⟨⟨⟨⟨⟨vk1, vk2⟩, vk3⟩, vk4⟩, vk5⟩, vk6⟩, vk7⟩, vk8⟩, vk9⟩, vk10⟩, vk11⟩, vk12⟩, vk13⟩, vk14⟩, vk15⟩, vk16⟩, vk17⟩, vk18⟩, vk19⟩, vk20⟩, vk21⟩, vk22⟩, vk23⟩, vk24⟩, vk25⟩, vk26⟩, vk27⟩, vk28⟩, (by kernel_rfl)⟩, vk30⟩, vk31⟩, vk32⟩

theorem raceGraph_row : Rows.RaceGraphSaid :=
  OpenClaim.holds_of_wide 4 Tryz.f4 rfl rfl rfl rfl rfl rfl rfl ⟨rfl, rfl, rfl, rfl, rfl⟩ rfl rfl rfl rfl rfl va6 Tryz.func4 jf va7 va8
    (fun os started H enc _ => lifted os started H enc)

theorem raceGraph_holds : Rows.RaceGraphCardSaid :=
  Claim7.holds_tied_plain_at .later [] [.data, .data, .data] true (true, "26df014c139842711850b35034f5437e81c774227359981e26bdce19debfa390") false
    raceGraph_row (fun _ h => by cases h) vc1 (fun _ h => by cases h) raceGraph_row_tie rfl ⟨rfl, rfl⟩ vc2 rfl
    (fun f fn hf hfn => by
      obtain rfl : f = 4 := Option.some.inj (va6.symm.trans hf) |>.symm
      obtain rfl : fn = Tryz.f4 := (Option.some.inj (Tryz.func4.symm.trans hfn)).symm
      exact ⟨vc3, fun j t ht => by
        rw [Tryz.params4] at ht
        match j, ht with
        | 0, ht => simp at ht; subst ht; exact vc4
        | j + 1, ht => simp at ht⟩)
    vc6
#print axioms raceGraph_holds
end Go.Proofs.YtgaeajfoiigbkaaGreatDoor
