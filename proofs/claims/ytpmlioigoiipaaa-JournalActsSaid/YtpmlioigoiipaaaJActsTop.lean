/- The statement JournalActsSaid is proved: JournalActs returns true for every input, and its arguments read afterwards as they did before. No condition. -/
import Derived.Test.YtpmlioigoiipaaaP7
namespace Go.Proofs.Ytpmlioigoiipaaa
open Go.ChangeShapes Go.WideShapes Go.RowKit Go.Am
set_option linter.unusedVariables false

theorem acts_runs (Ds : List Dat) (h : AllD [IsInt .i64, IsSl (IsAgg ActT)] Ds) : ∃ os', callT tblJ 5 (Ds.map .dat) [] = some (.dat (.bool true), os') := by
  obtain ⟨n, l, rfl⟩ := acts_of h
  exact ⟨_, journalActs_run lives_run n l⟩

set_option maxRecDepth 100000 in
theorem acts_lifted (os : Os) (started : os.Started) (H : Type) (enc : TypeId × Value → H) :
    ReturnsInHanded {} Try.checked os 5 .any (Rows.journalActsSpec.pre6 enc Try.prog Try.f5 Rows.journalActsRow.domain false) (Rows.journalActsSpec.post enc Try.prog Try.f5 false true false false) := by
  refine returnsInHanded_of_change (C := Try.checked) own started (by kernel_rfl) Try.func5
    (ChangeSpec.witness6 (enc := enc) (C := Try.checked) false ⟨#[], #[.int .i64 0, .slice none 0 0], []⟩ 8 (by kernel_rfl) (by kernel_rfl) (by kernel_rfl) (by kernel_rfl)) ?_
  intro W base args ds gs before hval hW _ _
  refine law_contract (Ts := [IsInt .i64, IsSl (IsAgg ActT)]) tblJ_ok laidOut (by rw [Try.params5]; exact argsA) Try.underlying4 rfl rfl ?_ ?_ hval hW
  · intro H ds h
    match ds, h with
    | [d1, d2], _ => rfl
  · exact fun Ds h _ => acts_runs Ds h

theorem journalActs_holds : Rows.JournalActsSaid :=
  OpenClaim.holds_of_wide 5 Try.f5 rfl rfl rfl rfl rfl rfl rfl ⟨rfl, rfl, rfl, rfl, rfl⟩ rfl rfl rfl rfl rfl (by kernel_rfl) Try.func5 (by kernel_rfl)
    (of_decide_eq_true (by kernel_rfl)) (by unfold Func.isWrapper; first | (rw [if_pos (by decide +kernel)]; kernel_rfl) | (rw [if_neg (by decide +kernel)]; exact ⟨rfl, rfl⟩))
    (fun os started H enc _ => acts_lifted os started H enc)
end Go.Proofs.Ytpmlioigoiipaaa
