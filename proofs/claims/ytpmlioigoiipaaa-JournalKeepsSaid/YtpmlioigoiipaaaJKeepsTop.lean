/- The statement JournalKeepsSaid is proved: JournalKeeps returns true for every input, and its arguments read afterwards as they did before. No condition. -/
import Derived.Test.YtpmlioigoiipaaaJKeeps
import Derived.Test.YtpmlioigoiipaaaJTops
namespace Go.Proofs.Ytpmlioigoiipaaa
open Go.ChangeShapes Go.WideShapes Go.RowKit Go.Am
set_option linter.unusedVariables false

theorem args7 : ArgsOK Try.prog [24, 4] [IsSl (IsSl (IsInt .u8)), IsBool] :=
  ⟨argSlice (e := 29) Try.underlying24 (of_decide_eq_true (by kernel_rfl)) (fun w => reads_slice Try.underlying29 (of_decide_eq_true (by kernel_rfl)) (reads_int Try.underlying5)) (by kernel_rfl) (of_decide_eq_true (by kernel_rfl)),
   argBool Try.underlying4 (by kernel_rfl) (of_decide_eq_true (by kernel_rfl)), trivial⟩

theorem keeps_runs (Ds : List Dat) (h : AllD [IsSl (IsSl (IsInt .u8)), IsBool] Ds) : ∃ os', callT tblJ 7 (Ds.map .dat) [] = some (.dat (.bool true), os') := by
  obtain ⟨D1, D2, rfl, h1, h2⟩ := all2 h
  obtain ⟨l, h1, hl, _⟩ := h1
  obtain ⟨c, h2⟩ := h2
  obtain ⟨xs, hx⟩ := list_of (f := Bs) (fun d hd => bytes_of hd) l hl
  rw [h1, h2, hx]
  exact ⟨_, journalKeeps_run lives_run xs c⟩

set_option maxRecDepth 100000 in
theorem keeps_lifted (os : Os) (started : os.Started) (H : Type) (enc : TypeId × Value → H) :
    ReturnsInHanded {} Try.checked os 7 .any (Rows.journalKeepsSpec.pre6 enc Try.prog Try.f7 Rows.journalKeepsRow.domain false) (Rows.journalKeepsSpec.post enc Try.prog Try.f7 false true false false) := by
  refine returnsInHanded_of_change (C := Try.checked) own started (by kernel_rfl) Try.func7
    (ChangeSpec.witness6 (enc := enc) (C := Try.checked) false ⟨#[], #[.slice none 0 0, .bool false], []⟩ 8 (by kernel_rfl) (by kernel_rfl) (by kernel_rfl) (by kernel_rfl)) ?_
  intro W base args ds gs before hval hW _ _
  refine law_contract (Ts := [IsSl (IsSl (IsInt .u8)), IsBool]) tblJ_ok laidOut (by rw [Try.params7]; exact args7) Try.underlying4 rfl rfl ?_ ?_ hval hW
  · intro H ds h
    match ds, h with
    | [d1, d2], _ => rfl
  · exact fun Ds h _ => keeps_runs Ds h

theorem journalKeeps_holds : Rows.JournalKeepsSaid :=
  OpenClaim.holds_of_wide 7 Try.f7 rfl rfl rfl rfl rfl rfl rfl ⟨rfl, rfl, rfl, rfl, rfl⟩ rfl rfl rfl rfl rfl (by kernel_rfl) Try.func7 (by kernel_rfl)
    (of_decide_eq_true (by kernel_rfl)) (by unfold Func.isWrapper; first | (rw [if_pos (by decide +kernel)]; kernel_rfl) | (rw [if_neg (by decide +kernel)]; exact ⟨rfl, rfl⟩))
    (fun os started H enc _ => keeps_lifted os started H enc)
end Go.Proofs.Ytpmlioigoiipaaa
