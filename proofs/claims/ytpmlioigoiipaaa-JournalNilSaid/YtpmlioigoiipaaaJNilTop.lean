/- The statement JournalNilSaid is proved: JournalNil returns true for every input, and its arguments read afterwards as they did before. No condition. -/
import Derived.Test.YtpmlioigoiipaaaJNil
import Derived.Test.YtpmlioigoiipaaaJLives
import Derived.Test.YtpmlioigoiipaaaAmLaw
import Derived.Test.YtpmlioigoiipaaaRows
namespace Go.Proofs.Ytpmlioigoiipaaa
open Go.ChangeShapes Go.WideShapes Go.RowKit Go.Am
set_option linter.unusedVariables false

theorem own : ownKnob Try.prog.godebug = none := by kernel_rfl
theorem laidOut : laidOutB Try.prog = true := by kernel_rfl

theorem args6 : ArgsOK Try.prog [3, 29] [IsInt .i64, IsSl (IsInt .u8)] :=
  ⟨argInt Try.underlying3 (by kernel_rfl) (of_decide_eq_true (by kernel_rfl)),
   argSlice (e := 5) Try.underlying29 (of_decide_eq_true (by kernel_rfl)) (fun w => reads_int Try.underlying5) (by kernel_rfl) (of_decide_eq_true (by kernel_rfl)), trivial⟩

theorem all2 {T1 T2 : Dat → Prop} {Ds : List Dat} (h : AllD [T1, T2] Ds) : ∃ D1 D2, Ds = [D1, D2] ∧ T1 D1 ∧ T2 D2 := by
  match Ds, h with
  | [D1, D2], h => exact ⟨D1, D2, rfl, h.1, h.2.1⟩
theorem nil_runs (Ds : List Dat) (h : AllD [IsInt .i64, IsSl (IsInt .u8)] Ds) : ∃ os', callT tblJ 6 (Ds.map .dat) [] = some (.dat (.bool true), os') := by
  obtain ⟨D1, D2, rfl, h1, h2⟩ := all2 h
  obtain ⟨i, h1, _⟩ := h1
  obtain ⟨b, h2, _⟩ := h2
  rw [h1, h2]
  exact ⟨_, journalNil_run lives_run i b⟩

set_option maxRecDepth 100000 in
theorem nil_lifted (os : Os) (started : os.Started) (H : Type) (enc : TypeId × Value → H) :
    ReturnsInHanded {} Try.checked os 6 .any (Rows.journalNilSpec.pre6 enc Try.prog Try.f6 Rows.journalNilRow.domain false) (Rows.journalNilSpec.post enc Try.prog Try.f6 false true false false) := by
  refine returnsInHanded_of_change (C := Try.checked) own started (by kernel_rfl) Try.func6
    (ChangeSpec.witness6 (enc := enc) (C := Try.checked) false ⟨#[], #[.int .i64 0, .slice none 0 0], []⟩ 8 (by kernel_rfl) (by kernel_rfl) (by kernel_rfl) (by kernel_rfl)) ?_
  intro W base args ds gs before hval hW _ _
  refine law_contract (Ts := [IsInt .i64, IsSl (IsInt .u8)]) tblJ_ok laidOut (by rw [Try.params6]; exact args6) Try.underlying4 rfl rfl ?_ ?_ hval hW
  · intro H ds h
    match ds, h with
    | [d1, d2], _ => rfl
  · exact fun Ds h _ => nil_runs Ds h

theorem journalNil_holds : Rows.JournalNilSaid :=
  OpenClaim.holds_of_wide 6 Try.f6 rfl rfl rfl rfl rfl rfl rfl ⟨rfl, rfl, rfl, rfl, rfl⟩ rfl rfl rfl rfl rfl (by kernel_rfl) Try.func6 (by kernel_rfl)
    (of_decide_eq_true (by kernel_rfl)) (by unfold Func.isWrapper; first | (rw [if_pos (by decide +kernel)]; kernel_rfl) | (rw [if_neg (by decide +kernel)]; exact ⟨rfl, rfl⟩))
    (fun os started H enc _ => nil_lifted os started H enc)

end Go.Proofs.Ytpmlioigoiipaaa
