/- The statement JournalDisksSaid is proved: JournalDisks returns true for every input, and its arguments read afterwards as they did before. No condition. -/
import Derived.Test.YtpmlioigoiipaaaP6
namespace Go.Proofs.Ytpmlioigoiipaaa
open Go.ChangeShapes Go.WideShapes Go.RowKit Go.Am
set_option linter.unusedVariables false

theorem disks_runs (Ds : List Dat) (h : AllD [IsInt .i64, IsSl (IsAgg ActT)] Ds) : ∃ os', callT tblJ 4 (Ds.map .dat) [] = some (.dat (.bool true), os') := by
  obtain ⟨n, l, rfl⟩ := acts_of h
  exact ⟨_, journalDisks_run lives_run n l⟩

set_option maxRecDepth 100000 in
theorem disks_lifted (os : Os) (started : os.Started) (H : Type) (enc : TypeId × Value → H) :
    ReturnsInHanded {} Try.checked os 4 .any (Rows.journalDisksSpec.pre6 enc Try.prog Try.f4 Rows.journalDisksRow.domain false) (Rows.journalDisksSpec.post enc Try.prog Try.f4 false true false false) := by
  refine returnsInHanded_of_change (C := Try.checked) own started (by kernel_rfl) Try.func4
    (ChangeSpec.witness6 (enc := enc) (C := Try.checked) false ⟨#[], #[.int .i64 0, .slice none 0 0], []⟩ 8 (by kernel_rfl) (by kernel_rfl) (by kernel_rfl) (by kernel_rfl)) ?_
  intro W base args ds gs before hval hW _ _
  refine law_contract (Ts := [IsInt .i64, IsSl (IsAgg ActT)]) tblJ_ok laidOut (by rw [Try.params4]; exact argsA) Try.underlying4 rfl rfl ?_ ?_ hval hW
  · intro H ds h
    match ds, h with
    | [d1, d2], _ => rfl
  · exact fun Ds h _ => disks_runs Ds h

theorem journalDisks_holds : Rows.JournalDisksSaid :=
  OpenClaim.holds_of_wide 4 Try.f4 rfl rfl rfl rfl rfl rfl rfl ⟨rfl, rfl, rfl, rfl, rfl⟩ rfl rfl rfl rfl rfl (by kernel_rfl) Try.func4 (by kernel_rfl)
    (of_decide_eq_true (by kernel_rfl)) (by unfold Func.isWrapper; first | (rw [if_pos (by decide +kernel)]; kernel_rfl) | (rw [if_neg (by decide +kernel)]; exact ⟨rfl, rfl⟩))
    (fun os started H enc _ => disks_lifted os started H enc)
end Go.Proofs.Ytpmlioigoiipaaa
