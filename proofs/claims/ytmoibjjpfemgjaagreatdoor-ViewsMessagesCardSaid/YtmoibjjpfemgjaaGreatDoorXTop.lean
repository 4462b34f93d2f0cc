/- The statement ViewsMessagesCardSaid is proved: ViewsMessages returns true for every input, and its argument reads afterwards as it did before; the listed package variables hold what the program's text lays. No condition beyond the card's own. -/
import Derived.Test.YtmoibjjpfemgjaaGreatDoorP35
import Derived.Test.YtmoibjjpfemgjaaGreatDoorP36
import Derived.Test.YtmoibjjpfemgjaaGreatDoorP43
import Derived.Test.YtmoibjjpfemgjaaGreatDoorP44
import Derived.Test.YtmoibjjpfemgjaaGreatDoorP45
import Derived.Test.YtmoibjjpfemgjaaGreatDoorP46
import Derived.Test.YtmoibjjpfemgjaaGreatDoorP47
import Derived.Test.YtmoibjjpfemgjaaGreatDoorP48
import Derived.Test.YtmoibjjpfemgjaaGreatDoorP49
import Derived.Test.YtmoibjjpfemgjaaGreatDoorP50
import Derived.Test.YtmoibjjpfemgjaaGreatDoorP51
import Derived.ProofKit
import Derived.LaidMore
import Derived.OpenShut
import Derived.Stop.Joined
import Derived.Test.YtmoibjjpfemgjaaGreatDoorCards
import Derived.Test.YtmoibjjpfemgjaaGreatDoorTie
namespace Go.Proofs.YtmoibjjpfemgjaaGreatDoor
open Go.ChangeShapes Go.WideShapes Go.RowKit Go.Am Go.Rc Go.Ex
set_option linter.unusedVariables false

theorem own : ownKnob Tryz.prog.godebug = none := by kernel_rfl
theorem laidOut : laidOutB Tryz.prog = true := by kernel_rfl

abbrev I64 : Dat → Prop := IsInt .i64
abbrev VarT : Dat → Prop := IsAgg [IsStr, I64]
abbrev InT : Dat → Prop := IsAgg [I64, I64, I64, I64, I64, I64, I64, I64]
abbrev FnT : Dat → Prop := IsAgg [IsStr, IsSl InT]
abbrev StT : Dat → Prop := IsAgg [I64, I64]
abbrev PgT : Dat → Prop := IsAgg [IsSl VarT, IsSl IsStr, IsSl IsStr, IsSl FnT, IsSl StT]
abbrev JbT : Dat → Prop := IsAgg [PgT, I64, IsSl StT]

theorem map_of {α : Type} {f : α → Dat} {T : Dat → Prop} (h : ∀ d, T d → ∃ x, d = f x) : ∀ l : List Dat, (∀ d ∈ l, T d) → ∃ xs : List α, l = xs.map f
  | [], _ => ⟨[], rfl⟩
  | d :: r, hl => by
    obtain ⟨x, rfl⟩ := h d (hl d (by simp))
    obtain ⟨xs, rfl⟩ := map_of h r fun e he => hl e (by simp [he])
    exact ⟨x :: xs, rfl⟩
theorem sl_of {α : Type} {f : α → Dat} {T : Dat → Prop} (h : ∀ d, T d → ∃ x, d = f x) {D : Dat} (hD : IsSl T D) : ∃ xs : List α, D = .sl (xs.map f) := by
  obtain ⟨l, rfl, h1, _⟩ := hD
  obtain ⟨xs, rfl⟩ := map_of h l h1
  exact ⟨xs, rfl⟩
theorem int_of {D : Dat} (h : I64 D) : ∃ n : Int, D = N n := ⟨h.choose, h.choose_spec.1⟩
theorem str_of {D : Dat} (h : IsStr D) : ∃ s : Str, D = S s := ⟨h.choose, h.choose_spec.1⟩
theorem var_of {D : Dat} (h : VarT D) : ∃ v : Str × Int, D = VD v := by
  obtain ⟨ds, rfl, hl, ht⟩ := h
  match ds, hl with
  | [d1, d2], _ =>
    obtain ⟨s, h1⟩ := str_of (ht 0 _ d1 rfl rfl)
    obtain ⟨n, h2⟩ := int_of (ht 1 _ d2 rfl rfl)
    exact ⟨(s, n), by rw [h1, h2]; rfl⟩
theorem st_of {D : Dat} (h : StT D) : ∃ v : Int × Int, D = NP v := by
  obtain ⟨ds, rfl, hl, ht⟩ := h
  match ds, hl with
  | [d1, d2], _ =>
    obtain ⟨s, h1⟩ := int_of (ht 0 _ d1 rfl rfl)
    obtain ⟨n, h2⟩ := int_of (ht 1 _ d2 rfl rfl)
    exact ⟨(s, n), by rw [h1, h2]; rfl⟩
theorem in_of {D : Dat} (h : InT D) : ∃ i : In, D = ID i := by
  obtain ⟨ds, rfl, hl, ht⟩ := h
  match ds, hl with
  | [d1, d2, d3, d4, d5, d6, d7, d8], _ =>
    obtain ⟨n1, h1⟩ := int_of (ht 0 _ d1 rfl rfl)
    obtain ⟨n2, h2⟩ := int_of (ht 1 _ d2 rfl rfl)
    obtain ⟨n3, h3⟩ := int_of (ht 2 _ d3 rfl rfl)
    obtain ⟨n4, h4⟩ := int_of (ht 3 _ d4 rfl rfl)
    obtain ⟨n5, h5⟩ := int_of (ht 4 _ d5 rfl rfl)
    obtain ⟨n6, h6⟩ := int_of (ht 5 _ d6 rfl rfl)
    obtain ⟨n7, h7⟩ := int_of (ht 6 _ d7 rfl rfl)
    obtain ⟨n8, h8⟩ := int_of (ht 7 _ d8 rfl rfl)
    exact ⟨⟨n1, n2, n3, n4, n5, n6, n7, n8⟩, by rw [h1, h2, h3, h4, h5, h6, h7, h8]; rfl⟩
theorem fn_of {D : Dat} (h : FnT D) : ∃ f : Str × List In, D = FD f := by
  obtain ⟨ds, rfl, hl, ht⟩ := h
  match ds, hl with
  | [d1, d2], _ =>
    obtain ⟨s, h1⟩ := str_of (ht 0 _ d1 rfl rfl)
    obtain ⟨l, h2⟩ := sl_of (fun d hd => in_of hd) (ht 1 _ d2 rfl rfl)
    exact ⟨(s, l), by rw [h1, h2]; rfl⟩
theorem pg_of {D : Dat} (h : PgT D) : ∃ p : Pg, D = PD p := by
  obtain ⟨ds, rfl, hl, ht⟩ := h
  match ds, hl with
  | [d1, d2, d3, d4, d5], _ =>
    obtain ⟨l1, h1⟩ := sl_of (fun d hd => var_of hd) (ht 0 _ d1 rfl rfl)
    obtain ⟨l2, h2⟩ := sl_of (fun d hd => str_of hd) (ht 1 _ d2 rfl rfl)
    obtain ⟨l3, h3⟩ := sl_of (fun d hd => str_of hd) (ht 2 _ d3 rfl rfl)
    obtain ⟨l4, h4⟩ := sl_of (fun d hd => fn_of hd) (ht 3 _ d4 rfl rfl)
    obtain ⟨l5, h5⟩ := sl_of (fun d hd => st_of hd) (ht 4 _ d5 rfl rfl)
    exact ⟨⟨l1, l2, l3, l4, l5⟩, by rw [h1, h2, h3, h4, h5]; rfl⟩
theorem jb_of {D : Dat} (h : JbT D) : ∃ (p : Pg) (bd : Int) (l : List (Int × Int)), D = .agg (Go.Am.E.WDl p bd l) := by
  obtain ⟨ds, rfl, hl, ht⟩ := h
  match ds, hl with
  | [d1, d2, d3], _ =>
    obtain ⟨p, h1⟩ := pg_of (ht 0 _ d1 rfl rfl)
    obtain ⟨c, h2⟩ := int_of (ht 1 _ d2 rfl rfl)
    obtain ⟨a, h3⟩ := sl_of (fun d hd => st_of hd) (ht 2 _ d3 rfl rfl)
    exact ⟨p, c, a, by rw [h1, h2, h3]; rfl⟩

theorem rdSt (w : World) : zzd7 Tryz.prog w 107 StT := zgc7 Tryz.underlying107 (by kernel_rfl) rfl fun i f T hf hT => by
  match i, hf, hT with
  | 0, hf, hT => cases hf; cases hT; exact zub7 Tryz.underlying3
  | 1, hf, hT => cases hf; cases hT; exact zub7 Tryz.underlying3
theorem rdPk (w : World) : zzd7 Tryz.prog w 43 StT := zgc7 Tryz.underlying43 (by kernel_rfl) rfl fun i f T hf hT => by
  match i, hf, hT with
  | 0, hf, hT => cases hf; cases hT; exact zub7 Tryz.underlying3
  | 1, hf, hT => cases hf; cases hT; exact zub7 Tryz.underlying3
theorem rdVar (w : World) : zzd7 Tryz.prog w 70 VarT := zgc7 Tryz.underlying70 (by kernel_rfl) rfl fun i f T hf hT => by
  match i, hf, hT with
  | 0, hf, hT => cases hf; cases hT; exact zke7 Tryz.underlying9
  | 1, hf, hT => cases hf; cases hT; exact zub7 Tryz.underlying3
theorem rdInst (w : World) : zzd7 Tryz.prog w 87 InT := zgc7 Tryz.underlying87 (by kernel_rfl) rfl fun i f T hf hT => by
  match i, hf, hT with
  | 0, hf, hT => cases hf; cases hT; exact zub7 Tryz.underlying84
  | 1, hf, hT => cases hf; cases hT; exact zub7 Tryz.underlying3
  | 2, hf, hT => cases hf; cases hT; exact zub7 Tryz.underlying3
  | 3, hf, hT => cases hf; cases hT; exact zub7 Tryz.underlying3
  | 4, hf, hT => cases hf; cases hT; exact zub7 Tryz.underlying3
  | 5, hf, hT => cases hf; cases hT; exact zub7 Tryz.underlying3
  | 6, hf, hT => cases hf; cases hT; exact zub7 Tryz.underlying85
  | 7, hf, hT => cases hf; cases hT; exact zub7 Tryz.underlying51
theorem rdFn (w : World) : zzd7 Tryz.prog w 119 FnT := zgc7 Tryz.underlying119 (by kernel_rfl) rfl fun i f T hf hT => by
  match i, hf, hT with
  | 0, hf, hT => cases hf; cases hT; exact zke7 Tryz.underlying9
  | 1, hf, hT => cases hf; cases hT; exact zvc7 Tryz.underlying117 (of_decide_eq_true (by kernel_rfl)) (rdInst w)
theorem rdPg (w : World) : zzd7 Tryz.prog w 27 PgT := zgc7 Tryz.underlying27 (by kernel_rfl) rfl fun i f T hf hT => by
  match i, hf, hT with
  | 0, hf, hT => cases hf; cases hT; exact zvc7 Tryz.underlying22 (of_decide_eq_true (by kernel_rfl)) (rdVar w)
  | 1, hf, hT => cases hf; cases hT; exact zvc7 Tryz.underlying23 (of_decide_eq_true (by kernel_rfl)) (zke7 Tryz.underlying9)
  | 2, hf, hT => cases hf; cases hT; exact zvc7 Tryz.underlying23 (of_decide_eq_true (by kernel_rfl)) (zke7 Tryz.underlying9)
  | 3, hf, hT => cases hf; cases hT; exact zvc7 Tryz.underlying24 (of_decide_eq_true (by kernel_rfl)) (rdFn w)
  | 4, hf, hT => cases hf; cases hT; exact zvc7 Tryz.underlying25 (of_decide_eq_true (by kernel_rfl)) (rdSt w)
theorem argJb : ArgOK Tryz.prog 30 JbT :=
  argStruct Tryz.underlying30 (by kernel_rfl) rfl (fun w i f T hf hT => by
    match i, hf, hT with
    | 0, hf, hT => cases hf; cases hT; exact rdPg w
    | 1, hf, hT => cases hf; cases hT; exact zub7 Tryz.underlying3
    | 2, hf, hT => cases hf; cases hT; exact zvc7 Tryz.underlying28 (of_decide_eq_true (by kernel_rfl)) (rdPk w)) (by kernel_rfl) (of_decide_eq_true (by kernel_rfl))

theorem law_runs (Ds : List Dat) (h : AllD [JbT] Ds) : ∃ os', callT Go.Am.E.tblE 7 (Ds.map .dat) [] = some (.dat (.bool true), os') := by
  match Ds, h with
  | [D1], h =>
    obtain ⟨p, c, a, rfl⟩ := jb_of h.1
    exact ⟨_, Go.Am.E.run7 p c a⟩

/-- The door's own heap meets the condition. -/
theorem door_met (os : Os) (args : Array Value) : laidMetH Tryz.prog vlaid ((World.doorLaid Tryz.prog 400 os).forCall (fun _ _ => 0) ⟨#[], args, []⟩).memory :=
  laidMetH_of_parts3 (fuel := 8) (laidMet_of_run' 8 (by kernel_rfl) (by kernel_rfl)) (by kernel_rfl) (by kernel_rfl)

set_option maxRecDepth 100000 in
theorem lifted (os : Os) (started : os.Started) (H : Type) (enc : TypeId × Value → H) :
    ReturnsInHanded {} Tryz.checked os 7 .any (fun w args => (Rows.viewsMessagesSpec.pre enc Tryz.prog Tryz.f7 [] false w args ∧ laidMetH Tryz.prog vlaid w) ∧ sizedMet enc Tryz.prog Tryz.f7 (OpenSpec.ofChange Rows.viewsMessagesSpec) false w args)
      (Rows.viewsMessagesSpec.post enc Tryz.prog Tryz.f7 false true false false) := by
  refine returnsInHanded_of_change_and (C := Tryz.checked) (X := fun w _ => laidMetH Tryz.prog vlaid w) (fun _ _ _ hh h => h.of_heap hh) own started (by kernel_rfl) Tryz.func7
    (ChangeSpec.witness_shaped (enc := enc) (C := Tryz.checked) (os := os) (X := fun w _ => laidMetH Tryz.prog vlaid w) false (World.doorLaid Tryz.prog 400 os) #[.agg #[.slice none 0 0, .slice none 0 0, .slice none 0 0, .slice none 0 0, .slice none 0 0, .int .i64 0, .slice none 0 0]] 8 rfl (World.shaped_of_RefB (by kernel_rfl) (by kernel_rfl)) (by kernel_rfl) (by kernel_rfl) (by kernel_rfl) (door_met os _)) ?_
  intro W base args ds gs before hval hW _ _ hL _
  refine law_contract (Ts := [JbT]) (Go.Am.E.tblE_ok ex_ok) laidOut (by rw [Tryz.params7]; exact ⟨argJb, trivial⟩) Tryz.underlying4 (by kernel_rfl) rfl ?_ (globOK_of_laid hL) ?_ hval hW
  · intro H ds h
    match ds, h with
    | [d1], _ => rfl
  · exact fun Ds h _ => law_runs Ds h

theorem jf : joinedFacts Tryz.prog 7 Tryz.f7 Rows.viewsMessagesSpec Rows.viewsMessagesRow = true := by
  unfold joinedFacts
  simp only [Bool.and_eq_true]
  exact ⟨⟨⟨⟨⟨⟨⟨⟨⟨⟨⟨⟨⟨⟨⟨⟨⟨⟨⟨⟨⟨⟨⟨⟨⟨⟨⟨⟨⟨⟨⟨vk1, vk2⟩, vk3⟩, vk4⟩, vk5⟩, vk6⟩, vk7⟩, vk8⟩, vk9⟩, vk10⟩, vk11⟩, vk12⟩, vk13⟩, vk14⟩, vk15⟩, vk16⟩, vk17⟩, vk18⟩, vk19⟩, vk20⟩, vk21⟩, vk22⟩, vk23⟩, vk24⟩, vk25⟩, vk26⟩, vk27⟩, vk28⟩, (by kernel_rfl)⟩, vk30⟩, vk31⟩, vk32⟩

theorem viewsMessages_row : Rows.ViewsMessagesSaid :=
  OpenClaim.holds_of_wide 7 Tryz.f7 rfl rfl rfl rfl rfl rfl rfl ⟨rfl, rfl, rfl, rfl, rfl⟩ rfl rfl rfl rfl rfl va6 Tryz.func7 jf va7 va8
    (fun os started H enc _ => lifted os started H enc)

theorem viewsMessages_holds : Rows.ViewsMessagesCardSaid :=
  Claim7.holds_tied_plain_at .later [] [.data, .data] true (true, "639749a6064ee359833ff3b777cd1101689e0e46572cd7e4cf3b5b058dcaaba2") false
    viewsMessages_row (fun _ h => by cases h) vc1 (fun _ h => by cases h) viewsMessages_row_tie rfl ⟨rfl, rfl⟩ vc2 rfl
    (fun f fn hf hfn => by
      obtain rfl : f = 7 := Option.some.inj (va6.symm.trans hf) |>.symm
      obtain rfl : fn = Tryz.f7 := (Option.some.inj (Tryz.func7.symm.trans hfn)).symm
      exact ⟨vc3, fun j t ht => by
        rw [Tryz.params7] at ht
        match j, ht with
        | 0, ht => simp at ht; subst ht; exact vc4
        | j + 1, ht => simp at ht⟩)
    vc6
#print axioms viewsMessages_holds
end Go.Proofs.YtmoibjjpfemgjaaGreatDoor
