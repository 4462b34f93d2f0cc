/-
  NARROWER THAN 'FOR EVERY INPUT', by the rows' own cells (each row's printed sentence says how): ViewsSteps: laid · ViewsWalks: laid · ViewsMonotone: laid · ViewsCoherent: laid · ViewsMessages: laid · ViewsRuns: laid.
  DERIVED. THE GIVEN ROWS OF THIS SEAT. 6 by the template 'for every input the law returns true; each argument reads behind the call as it read before'; 0 by the template 'total and deterministic' (their statements: YtmoibjjpfemgjaaGreatDoorTotals.lean).
  GIVEN WITH THE SEED: the statements are not yours to turn. If you find one false, say at which input.
  Laid BY PROGRAM, IN A SANDBOX (cutbox-rows.mjs): the forced cells as the released guide's own fill.sh prints them over the translation 51edf316eb8d8cec… (all of the seat's roots in one cut). By AI agents, Wed Nov 11 2026. No macro, syntax, notation, axiom, sorry.
-/
import Derived.Test.YtmoibjjpfemgjaaGreatDoorChecked
import GoSem.Claim
import GoSem.ClaimJoined
import GoSem.ClaimMapViews
import Derived.JoinedTies
import Derived.KernelRfl
namespace Go.Proofs.YtmoibjjpfemgjaaGreatDoor
/- THE CELL 'sum', in the pinned program and in every row, IS THE sha256 OF THE DUMP (.gsa) THAT YtmoibjjpfemgjaaGreatDoorProg.lean LOADS. Nothing in Lean hashes anything: it is a label: what it is worth is what the hold of that sum in a sandbox is worth. -/
noncomputable def Tryz.pinned : Pinned := { name := "ytmoibjjpfemgjaagreatdoor", sum := "51edf316eb8d8cecdb0f5d9312a7ed83e62f1fc443f35986389fb01ccbb57e6b", checked := Tryz.checked }
namespace Rows
def none {H : Type} : Left H := { results := [], args := [] }

/- WHAT THE LISTED PACKAGE-LEVEL VARIABLES READ AS WHEN THE CALL BEGINS. Each datum BY PROGRAM (the guide's laid-datum.mjs) off the statement by which the dump's own 'gosem.cut.vars' lays the variable. In a bare row this is a premise. The card (YtmoibjjpfemgjaaGreatDoorCards.lean) ties it to the program's text. -/
def laid_modelcheck_value_names {H : Type} : DataW H := .agg [.lit (.string [97, 100, 100]), .lit (.string [115, 117, 98]), .lit (.string [109, 117, 108]), .lit (.string [97, 110, 100]), .lit (.string [111, 114]), .lit (.string [120, 111, 114]), .lit (.string [101, 113]), .lit (.string [110, 101]), .lit (.string [108, 116]), .lit (.string [108, 101])]
def laid_modelcheck_inst_rows {H : Type} : DataW H := .agg [.agg [.lit (.string [99, 111, 110, 115, 116]), .agg [.lit (.bool true), .lit (.bool false), .lit (.bool false), .lit (.bool false), .lit (.bool true), .lit (.bool false), .lit (.bool false)]], .agg [.lit (.string [99, 111, 112, 121]), .agg [.lit (.bool true), .lit (.bool true), .lit (.bool false), .lit (.bool false), .lit (.bool false), .lit (.bool false), .lit (.bool false)]], .agg [.lit (.string [99, 97, 108, 99]), .agg [.lit (.bool true), .lit (.bool true), .lit (.bool true), .lit (.bool false), .lit (.bool false), .lit (.bool true), .lit (.bool false)]], .agg [.lit (.string [106, 117, 109, 112]), .agg [.lit (.bool false), .lit (.bool false), .lit (.bool false), .lit (.bool false), .lit (.bool true), .lit (.bool false), .lit (.bool false)]], .agg [.lit (.string [98, 114, 97, 110, 99, 104]), .agg [.lit (.bool false), .lit (.bool true), .lit (.bool false), .lit (.bool false), .lit (.bool true), .lit (.bool false), .lit (.bool false)]], .agg [.lit (.string [97, 115, 115, 101, 114, 116]), .agg [.lit (.bool false), .lit (.bool true), .lit (.bool false), .lit (.bool false), .lit (.bool false), .lit (.bool false), .lit (.bool false)]], .agg [.lit (.string [115, 116, 111, 112]), .agg [.lit (.bool false), .lit (.bool false), .lit (.bool false), .lit (.bool false), .lit (.bool false), .lit (.bool false), .lit (.bool false)]], .agg [.lit (.string [108, 111, 97, 100]), .agg [.lit (.bool true), .lit (.bool false), .lit (.bool false), .lit (.bool true), .lit (.bool false), .lit (.bool false), .lit (.bool true)]], .agg [.lit (.string [115, 116, 111, 114, 101]), .agg [.lit (.bool false), .lit (.bool true), .lit (.bool false), .lit (.bool true), .lit (.bool false), .lit (.bool false), .lit (.bool true)]], .agg [.lit (.string [115, 119, 97, 112]), .agg [.lit (.bool true), .lit (.bool true), .lit (.bool false), .lit (.bool true), .lit (.bool false), .lit (.bool false), .lit (.bool true)]], .agg [.lit (.string [102, 101, 116, 99, 104, 97, 100, 100]), .agg [.lit (.bool true), .lit (.bool true), .lit (.bool false), .lit (.bool true), .lit (.bool false), .lit (.bool false), .lit (.bool true)]], .agg [.lit (.string [99, 97, 115]), .agg [.lit (.bool true), .lit (.bool true), .lit (.bool true), .lit (.bool true), .lit (.bool false), .lit (.bool false), .lit (.bool true)]], .agg [.lit (.string [102, 101, 110, 99, 101]), .agg [.lit (.bool false), .lit (.bool false), .lit (.bool false), .lit (.bool false), .lit (.bool false), .lit (.bool false), .lit (.bool false)]], .agg [.lit (.string [97, 119, 97, 105, 116]), .agg [.lit (.bool true), .lit (.bool true), .lit (.bool false), .lit (.bool true), .lit (.bool false), .lit (.bool true), .lit (.bool true)]], .agg [.lit (.string [108, 111, 99, 107]), .agg [.lit (.bool false), .lit (.bool false), .lit (.bool false), .lit (.bool true), .lit (.bool false), .lit (.bool false), .lit (.bool false)]], .agg [.lit (.string [117, 110, 108, 111, 99, 107]), .agg [.lit (.bool false), .lit (.bool false), .lit (.bool false), .lit (.bool true), .lit (.bool false), .lit (.bool false), .lit (.bool false)]], .agg [.lit (.string [116, 114, 121, 108, 111, 99, 107]), .agg [.lit (.bool true), .lit (.bool false), .lit (.bool false), .lit (.bool true), .lit (.bool false), .lit (.bool false), .lit (.bool false)]], .agg [.lit (.string [119, 97, 105, 116]), .agg [.lit (.bool false), .lit (.bool false), .lit (.bool false), .lit (.bool true), .lit (.bool true), .lit (.bool false), .lit (.bool false)]], .agg [.lit (.string [115, 105, 103, 110, 97, 108]), .agg [.lit (.bool false), .lit (.bool false), .lit (.bool false), .lit (.bool true), .lit (.bool false), .lit (.bool false), .lit (.bool false)]], .agg [.lit (.string [98, 114, 111, 97, 100, 99, 97, 115, 116]), .agg [.lit (.bool false), .lit (.bool false), .lit (.bool false), .lit (.bool true), .lit (.bool false), .lit (.bool false), .lit (.bool false)]], .agg [.lit (.string [115, 112, 97, 119, 110]), .agg [.lit (.bool true), .lit (.bool true), .lit (.bool false), .lit (.bool true), .lit (.bool false), .lit (.bool false), .lit (.bool false)]], .agg [.lit (.string [106, 111, 105, 110]), .agg [.lit (.bool false), .lit (.bool true), .lit (.bool false), .lit (.bool false), .lit (.bool false), .lit (.bool false), .lit (.bool false)]]]

/-- 'modelchecklaw38.ViewsSteps': WHATEVER THE INPUT: true; the input reads as it did. -/
def viewsStepsSpec : ChangeSpec := { name := "viewsSteps", fn := fun _ => fun
  | [d1, d2, d3] => { results := [.lit (.bool true)], args := [d1, d2, d3] }
  | _ => none }
def viewsStepsRow : OpenClaim := { program := "ytmoibjjpfemgjaagreatdoor", sum := "51edf316eb8d8cecdb0f5d9312a7ed83e62f1fc443f35986389fb01ccbb57e6b", func := "modelcheck/modelchecklaw38.ViewsSteps", spec := "viewsSteps", inPlace := ["slices.overlaps[modelcheck/api.Thread]", "slices.overlaps[[]int]", "slices.overlaps[modelcheck/api.Message]", "slices.overlaps[int]"], unfollowed := true, recurses := true, named := ["modelcheck/inst.rows", "modelcheck/value.names"], apart := false, laid := [("modelcheck/value.names", laid_modelcheck_value_names), ("modelcheck/inst.rows", laid_modelcheck_inst_rows)] }
def ViewsStepsSaid : Prop := viewsStepsRow.holds Tryz.pinned (OpenSpec.ofChange viewsStepsSpec)

/-- ITS FALSE NEIGHBOUR: 'it returns false'. Refute it at one input. -/
def viewsStepsWrong : ChangeSpec := { name := "viewsSteps", fn := fun _ => fun
  | [d1, d2, d3] => { results := [.lit (.bool false)], args := [d1, d2, d3] }
  | _ => none }
def ViewsStepsWrongFalsely : Prop := viewsStepsRow.holds Tryz.pinned (OpenSpec.ofChange viewsStepsWrong)

/-- 'modelchecklaw38.ViewsWalks': WHATEVER THE INPUT: true; the input reads as it did. -/
def viewsWalksSpec : ChangeSpec := { name := "viewsWalks", fn := fun _ => fun
  | [d] => { results := [.lit (.bool true)], args := [d] }
  | _ => none }
def viewsWalksRow : OpenClaim := { program := "ytmoibjjpfemgjaagreatdoor", sum := "51edf316eb8d8cecdb0f5d9312a7ed83e62f1fc443f35986389fb01ccbb57e6b", func := "modelcheck/modelchecklaw38.ViewsWalks", spec := "viewsWalks", inPlace := ["slices.overlaps[modelcheck/api.Thread]", "slices.overlaps[[]int]", "slices.overlaps[modelcheck/api.Message]", "slices.overlaps[int]"], unfollowed := true, recurses := true, named := ["modelcheck/inst.rows", "modelcheck/value.names"], apart := false, laid := [("modelcheck/value.names", laid_modelcheck_value_names), ("modelcheck/inst.rows", laid_modelcheck_inst_rows)] }
def ViewsWalksSaid : Prop := viewsWalksRow.holds Tryz.pinned (OpenSpec.ofChange viewsWalksSpec)

/-- ITS FALSE NEIGHBOUR: 'it returns false'. Refute it at one input. -/
def viewsWalksWrong : ChangeSpec := { name := "viewsWalks", fn := fun _ => fun
  | [d] => { results := [.lit (.bool false)], args := [d] }
  | _ => none }
def ViewsWalksWrongFalsely : Prop := viewsWalksRow.holds Tryz.pinned (OpenSpec.ofChange viewsWalksWrong)

/-- 'modelchecklaw38.ViewsMonotone': WHATEVER THE INPUT: true; the input reads as it did. -/
def viewsMonotoneSpec : ChangeSpec := { name := "viewsMonotone", fn := fun _ => fun
  | [d] => { results := [.lit (.bool true)], args := [d] }
  | _ => none }
def viewsMonotoneRow : OpenClaim := { program := "ytmoibjjpfemgjaagreatdoor", sum := "51edf316eb8d8cecdb0f5d9312a7ed83e62f1fc443f35986389fb01ccbb57e6b", func := "modelcheck/modelchecklaw38.ViewsMonotone", spec := "viewsMonotone", inPlace := ["slices.overlaps[modelcheck/api.Thread]", "slices.overlaps[[]int]", "slices.overlaps[modelcheck/api.Message]", "slices.overlaps[int]"], unfollowed := true, recurses := true, named := ["modelcheck/inst.rows", "modelcheck/value.names"], apart := false, laid := [("modelcheck/value.names", laid_modelcheck_value_names), ("modelcheck/inst.rows", laid_modelcheck_inst_rows)] }
def ViewsMonotoneSaid : Prop := viewsMonotoneRow.holds Tryz.pinned (OpenSpec.ofChange viewsMonotoneSpec)

/-- ITS FALSE NEIGHBOUR: 'it returns false'. Refute it at one input. -/
def viewsMonotoneWrong : ChangeSpec := { name := "viewsMonotone", fn := fun _ => fun
  | [d] => { results := [.lit (.bool false)], args := [d] }
  | _ => none }
def ViewsMonotoneWrongFalsely : Prop := viewsMonotoneRow.holds Tryz.pinned (OpenSpec.ofChange viewsMonotoneWrong)

/-- 'modelchecklaw38.ViewsCoherent': WHATEVER THE INPUT: true; the input reads as it did. -/
def viewsCoherentSpec : ChangeSpec := { name := "viewsCoherent", fn := fun _ => fun
  | [d] => { results := [.lit (.bool true)], args := [d] }
  | _ => none }
def viewsCoherentRow : OpenClaim := { program := "ytmoibjjpfemgjaagreatdoor", sum := "51edf316eb8d8cecdb0f5d9312a7ed83e62f1fc443f35986389fb01ccbb57e6b", func := "modelcheck/modelchecklaw38.ViewsCoherent", spec := "viewsCoherent", inPlace := ["slices.overlaps[modelcheck/api.Thread]", "slices.overlaps[[]int]", "slices.overlaps[modelcheck/api.Message]", "slices.overlaps[int]"], unfollowed := true, recurses := true, named := ["modelcheck/inst.rows", "modelcheck/value.names"], apart := false, laid := [("modelcheck/value.names", laid_modelcheck_value_names), ("modelcheck/inst.rows", laid_modelcheck_inst_rows)] }
def ViewsCoherentSaid : Prop := viewsCoherentRow.holds Tryz.pinned (OpenSpec.ofChange viewsCoherentSpec)

/-- ITS FALSE NEIGHBOUR: 'it returns false'. Refute it at one input. -/
def viewsCoherentWrong : ChangeSpec := { name := "viewsCoherent", fn := fun _ => fun
  | [d] => { results := [.lit (.bool false)], args := [d] }
  | _ => none }
def ViewsCoherentWrongFalsely : Prop := viewsCoherentRow.holds Tryz.pinned (OpenSpec.ofChange viewsCoherentWrong)

/-- 'modelchecklaw38.ViewsMessages': WHATEVER THE INPUT: true; the input reads as it did. -/
def viewsMessagesSpec : ChangeSpec := { name := "viewsMessages", fn := fun _ => fun
  | [d] => { results := [.lit (.bool true)], args := [d] }
  | _ => none }
def viewsMessagesRow : OpenClaim := { program := "ytmoibjjpfemgjaagreatdoor", sum := "51edf316eb8d8cecdb0f5d9312a7ed83e62f1fc443f35986389fb01ccbb57e6b", func := "modelcheck/modelchecklaw38.ViewsMessages", spec := "viewsMessages", inPlace := ["slices.overlaps[modelcheck/api.Thread]", "slices.overlaps[[]int]", "slices.overlaps[modelcheck/api.Message]", "slices.overlaps[int]"], unfollowed := true, recurses := true, named := ["modelcheck/inst.rows", "modelcheck/value.names"], apart := false, laid := [("modelcheck/value.names", laid_modelcheck_value_names), ("modelcheck/inst.rows", laid_modelcheck_inst_rows)] }
def ViewsMessagesSaid : Prop := viewsMessagesRow.holds Tryz.pinned (OpenSpec.ofChange viewsMessagesSpec)

/-- ITS FALSE NEIGHBOUR: 'it returns false'. Refute it at one input. -/
def viewsMessagesWrong : ChangeSpec := { name := "viewsMessages", fn := fun _ => fun
  | [d] => { results := [.lit (.bool false)], args := [d] }
  | _ => none }
def ViewsMessagesWrongFalsely : Prop := viewsMessagesRow.holds Tryz.pinned (OpenSpec.ofChange viewsMessagesWrong)

/-- 'modelchecklaw38.ViewsRuns': WHATEVER THE INPUT: true; the input reads as it did. -/
def viewsRunsSpec : ChangeSpec := { name := "viewsRuns", fn := fun _ => fun
  | [d] => { results := [.lit (.bool true)], args := [d] }
  | _ => none }
def viewsRunsRow : OpenClaim := { program := "ytmoibjjpfemgjaagreatdoor", sum := "51edf316eb8d8cecdb0f5d9312a7ed83e62f1fc443f35986389fb01ccbb57e6b", func := "modelcheck/modelchecklaw38.ViewsRuns", spec := "viewsRuns", inPlace := ["slices.overlaps[modelcheck/api.Thread]", "slices.overlaps[[]int]", "slices.overlaps[modelcheck/api.Message]", "slices.overlaps[int]"], unfollowed := true, recurses := true, named := ["modelcheck/inst.rows", "modelcheck/value.names"], apart := false, laid := [("modelcheck/value.names", laid_modelcheck_value_names), ("modelcheck/inst.rows", laid_modelcheck_inst_rows)] }
def ViewsRunsSaid : Prop := viewsRunsRow.holds Tryz.pinned (OpenSpec.ofChange viewsRunsSpec)

/-- ITS FALSE NEIGHBOUR: 'it returns false'. Refute it at one input. -/
def viewsRunsWrong : ChangeSpec := { name := "viewsRuns", fn := fun _ => fun
  | [d] => { results := [.lit (.bool false)], args := [d] }
  | _ => none }
def ViewsRunsWrongFalsely : Prop := viewsRunsRow.holds Tryz.pinned (OpenSpec.ofChange viewsRunsWrong)

/- THE SECOND FORM. 'bulk': how many values and letters a reading holds, each counted each time it is reached (what is shared counts as often as it is met; a slice's spare places count too). A statement '..UptoSaid' is the law's where the arguments, and the package variables that the reading takes, are together of bulk at most 1048576: NARROWER than '..Said'. Prove '..Said' where nothing that the law and all that it calls make is longer than what came in: it says more and counts as full. Else prove '..UptoSaid'. A law counts once. -/
mutual
def uptoBulk {H : Type} : DataW H → Nat
  | .lit (.string bytes) => bytes.length + 1
  | .lit _ => 1
  | .nil => 1
  | .ptr d => uptoBulk d + 1
  | .slice elems spare => uptoBulkAll elems + uptoBulkAll spare + 1
  | .agg parts => uptoBulkAll parts + 1
  | .iface _ d => uptoBulk d + 1
  | .map entries => uptoBulkEntries entries + 1
  | .held _ => 1
def uptoBulkAll {H : Type} : List (DataW H) → Nat
  | [] => 0
  | d :: r => uptoBulk d + uptoBulkAll r
def uptoBulkEntries {H : Type} : List (Lit × DataW H) → Nat
  | [] => 0
  | x :: r => uptoBulkEntry x + uptoBulkEntries r
def uptoBulkEntry {H : Type} : Lit × DataW H → Nat
  | (.string bytes, d) => bytes.length + uptoBulk d + 1
  | (_, d) => uptoBulk d + 1
 end
def uptoSmall : (H : Type) → List (DataW H) → Bool := fun _ ds => decide (uptoBulkAll ds ≤ 1048576)
def OpenSpec.upto (s : _root_.Go.ChangeSpec) : _root_.Go.OpenSpec := { _root_.Go.OpenSpec.ofChange s with cond := some uptoSmall }

/-- 'modelchecklaw38.ViewsSteps', WHERE WHAT IT READS IS OF BULK AT MOST 1048576: true; the input reads as it did. -/
def viewsStepsUptoRow : OpenClaim := { program := "ytmoibjjpfemgjaagreatdoor", sum := "51edf316eb8d8cecdb0f5d9312a7ed83e62f1fc443f35986389fb01ccbb57e6b", func := "modelcheck/modelchecklaw38.ViewsSteps", spec := "viewsSteps", inPlace := ["slices.overlaps[modelcheck/api.Thread]", "slices.overlaps[[]int]", "slices.overlaps[modelcheck/api.Message]", "slices.overlaps[int]"], unfollowed := true, recurses := true, named := ["modelcheck/inst.rows", "modelcheck/value.names"], apart := false, laid := [("modelcheck/value.names", laid_modelcheck_value_names), ("modelcheck/inst.rows", laid_modelcheck_inst_rows)], narrowed := true }
def ViewsStepsUptoSaid : Prop := viewsStepsUptoRow.holds Tryz.pinned (OpenSpec.upto viewsStepsSpec)

/-- 'modelchecklaw38.ViewsWalks', WHERE WHAT IT READS IS OF BULK AT MOST 1048576: true; the input reads as it did. -/
def viewsWalksUptoRow : OpenClaim := { program := "ytmoibjjpfemgjaagreatdoor", sum := "51edf316eb8d8cecdb0f5d9312a7ed83e62f1fc443f35986389fb01ccbb57e6b", func := "modelcheck/modelchecklaw38.ViewsWalks", spec := "viewsWalks", inPlace := ["slices.overlaps[modelcheck/api.Thread]", "slices.overlaps[[]int]", "slices.overlaps[modelcheck/api.Message]", "slices.overlaps[int]"], unfollowed := true, recurses := true, named := ["modelcheck/inst.rows", "modelcheck/value.names"], apart := false, laid := [("modelcheck/value.names", laid_modelcheck_value_names), ("modelcheck/inst.rows", laid_modelcheck_inst_rows)], narrowed := true }
def ViewsWalksUptoSaid : Prop := viewsWalksUptoRow.holds Tryz.pinned (OpenSpec.upto viewsWalksSpec)

/-- 'modelchecklaw38.ViewsMonotone', WHERE WHAT IT READS IS OF BULK AT MOST 1048576: true; the input reads as it did. -/
def viewsMonotoneUptoRow : OpenClaim := { program := "ytmoibjjpfemgjaagreatdoor", sum := "51edf316eb8d8cecdb0f5d9312a7ed83e62f1fc443f35986389fb01ccbb57e6b", func := "modelcheck/modelchecklaw38.ViewsMonotone", spec := "viewsMonotone", inPlace := ["slices.overlaps[modelcheck/api.Thread]", "slices.overlaps[[]int]", "slices.overlaps[modelcheck/api.Message]", "slices.overlaps[int]"], unfollowed := true, recurses := true, named := ["modelcheck/inst.rows", "modelcheck/value.names"], apart := false, laid := [("modelcheck/value.names", laid_modelcheck_value_names), ("modelcheck/inst.rows", laid_modelcheck_inst_rows)], narrowed := true }
def ViewsMonotoneUptoSaid : Prop := viewsMonotoneUptoRow.holds Tryz.pinned (OpenSpec.upto viewsMonotoneSpec)

/-- 'modelchecklaw38.ViewsCoherent', WHERE WHAT IT READS IS OF BULK AT MOST 1048576: true; the input reads as it did. -/
def viewsCoherentUptoRow : OpenClaim := { program := "ytmoibjjpfemgjaagreatdoor", sum := "51edf316eb8d8cecdb0f5d9312a7ed83e62f1fc443f35986389fb01ccbb57e6b", func := "modelcheck/modelchecklaw38.ViewsCoherent", spec := "viewsCoherent", inPlace := ["slices.overlaps[modelcheck/api.Thread]", "slices.overlaps[[]int]", "slices.overlaps[modelcheck/api.Message]", "slices.overlaps[int]"], unfollowed := true, recurses := true, named := ["modelcheck/inst.rows", "modelcheck/value.names"], apart := false, laid := [("modelcheck/value.names", laid_modelcheck_value_names), ("modelcheck/inst.rows", laid_modelcheck_inst_rows)], narrowed := true }
def ViewsCoherentUptoSaid : Prop := viewsCoherentUptoRow.holds Tryz.pinned (OpenSpec.upto viewsCoherentSpec)

/-- 'modelchecklaw38.ViewsMessages', WHERE WHAT IT READS IS OF BULK AT MOST 1048576: true; the input reads as it did. -/
def viewsMessagesUptoRow : OpenClaim := { program := "ytmoibjjpfemgjaagreatdoor", sum := "51edf316eb8d8cecdb0f5d9312a7ed83e62f1fc443f35986389fb01ccbb57e6b", func := "modelcheck/modelchecklaw38.ViewsMessages", spec := "viewsMessages", inPlace := ["slices.overlaps[modelcheck/api.Thread]", "slices.overlaps[[]int]", "slices.overlaps[modelcheck/api.Message]", "slices.overlaps[int]"], unfollowed := true, recurses := true, named := ["modelcheck/inst.rows", "modelcheck/value.names"], apart := false, laid := [("modelcheck/value.names", laid_modelcheck_value_names), ("modelcheck/inst.rows", laid_modelcheck_inst_rows)], narrowed := true }
def ViewsMessagesUptoSaid : Prop := viewsMessagesUptoRow.holds Tryz.pinned (OpenSpec.upto viewsMessagesSpec)

/-- 'modelchecklaw38.ViewsRuns', WHERE WHAT IT READS IS OF BULK AT MOST 1048576: true; the input reads as it did. -/
def viewsRunsUptoRow : OpenClaim := { program := "ytmoibjjpfemgjaagreatdoor", sum := "51edf316eb8d8cecdb0f5d9312a7ed83e62f1fc443f35986389fb01ccbb57e6b", func := "modelcheck/modelchecklaw38.ViewsRuns", spec := "viewsRuns", inPlace := ["slices.overlaps[modelcheck/api.Thread]", "slices.overlaps[[]int]", "slices.overlaps[modelcheck/api.Message]", "slices.overlaps[int]"], unfollowed := true, recurses := true, named := ["modelcheck/inst.rows", "modelcheck/value.names"], apart := false, laid := [("modelcheck/value.names", laid_modelcheck_value_names), ("modelcheck/inst.rows", laid_modelcheck_inst_rows)], narrowed := true }
def ViewsRunsUptoSaid : Prop := viewsRunsUptoRow.holds Tryz.pinned (OpenSpec.upto viewsRunsSpec)

end Rows
end Go.Proofs.YtmoibjjpfemgjaaGreatDoor
