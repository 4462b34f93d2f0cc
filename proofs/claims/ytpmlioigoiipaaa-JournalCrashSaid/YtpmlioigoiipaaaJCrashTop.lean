/- The statement JournalCrashSaid is proved: JournalCrash returns true for every input, and its argument reads afterwards as it did before. No condition. -/
import Derived.Test.YtpmlioigoiipaaaJCrash3
import Derived.Test.YtpmlioigoiipaaaJTops
namespace Go.Proofs.Ytpmlioigoiipaaa
open Go.ChangeShapes Go.WideShapes Go.RowKit Go.Am
set_option linter.unusedVariables false

theorem reads32 (w : World) : ReadsAs Try.prog w 32 (IsAgg [IsSl (IsInt .u8), IsInt .u32]) :=
  reads_struct Try.underlying32 (by kernel_rfl) rfl fun i f T hf hT => by
    match i, hf, hT with
    | 0, hf, hT =>
      cases hf; cases hT
      exact reads_slice Try.underlying29 (of_decide_eq_true (by kernel_rfl)) (reads_int Try.underlying5)
    | 1, hf, hT =>
      cases hf; cases hT
      exact reads_int Try.underlying30

theorem fail_of {D : Dat} (h : IsAgg [IsSl (IsInt .u8), IsInt .u32] D) : ∃ x : { x : List UInt8 × Nat // x.2 < 4294967296 }, D = Fl x.1 := by
  obtain ⟨ds, rfl, hl, ht⟩ := h
  match ds, hl with
  | [d1, d2], _ =>
    obtain ⟨l, h1⟩ := bytes_of (ht 0 _ d1 rfl rfl)
    obtain ⟨n, h2, hw⟩ := ht 1 _ d2 rfl rfl
    have : 0 ≤ n ∧ n ≤ 4294967295 := by simpa [Lit.wf, IntKind.min, IntKind.max, IntKind.signed, IntKind.bits] using hw
    refine ⟨⟨(l, n.toNat), by show n.toNat < 4294967296; omega⟩, ?_⟩
    have e : ((n.toNat : Nat) : Int) = n := by omega
    rw [h1, h2]
    simp [Fl, e]

theorem args3 : ArgsOK Try.prog [22] [IsSl (IsAgg [IsSl (IsInt .u8), IsInt .u32])] :=
  ⟨argSlice (e := 32) Try.underlying22 (of_decide_eq_true (by kernel_rfl)) reads32 (by kernel_rfl) (of_decide_eq_true (by kernel_rfl)), trivial⟩

theorem crash_runs (Ds : List Dat) (h : AllD [IsSl (IsAgg [IsSl (IsInt .u8), IsInt .u32])] Ds) : ∃ os', callT tblJ 3 (Ds.map .dat) [] = some (.dat (.bool true), os') := by
  obtain ⟨D1, rfl, h1⟩ := all1 h
  obtain ⟨l, h1, hl, _⟩ := h1
  obtain ⟨xs, hx⟩ := list_of (f := fun x : { x : List UInt8 × Nat // x.2 < 4294967296 } => Fl x.1) (fun d hd => fail_of hd) l hl
  have e : xs.map (fun x : { x : List UInt8 × Nat // x.2 < 4294967296 } => Fl x.1) = (xs.map Subtype.val).map Fl := by rw [List.map_map]; rfl
  rw [h1, hx, e]
  refine ⟨_, journalCrash_run lives_run (xs.map Subtype.val) fun x hx => ?_⟩
  obtain ⟨y, _, rfl⟩ := List.mem_map.1 hx
  exact y.2

set_option maxRecDepth 100000 in
theorem crash_lifted (os : Os) (started : os.Started) (H : Type) (enc : TypeId × Value → H) :
    ReturnsInHanded {} Try.checked os 3 .any (Rows.journalCrashSpec.pre6 enc Try.prog Try.f3 Rows.journalCrashRow.domain false) (Rows.journalCrashSpec.post enc Try.prog Try.f3 false true false false) := by
  refine returnsInHanded_of_change (C := Try.checked) own started (by kernel_rfl) Try.func3
    (ChangeSpec.witness6 (enc := enc) (C := Try.checked) false ⟨#[], #[.slice none 0 0], []⟩ 8 (by kernel_rfl) (by kernel_rfl) (by kernel_rfl) (by kernel_rfl)) ?_
  intro W base args ds gs before hval hW _ _
  refine law_contract (Ts := [IsSl (IsAgg [IsSl (IsInt .u8), IsInt .u32])]) tblJ_ok laidOut (by rw [Try.params3]; exact args3) Try.underlying4 rfl rfl ?_ ?_ hval hW
  · intro H ds h
    match ds, h with
    | [d1], _ => rfl
  · exact fun Ds h _ => crash_runs Ds h

theorem journalCrash_holds : Rows.JournalCrashSaid :=
  OpenClaim.holds_of_wide 3 Try.f3 rfl rfl rfl rfl rfl rfl rfl ⟨rfl, rfl, rfl, rfl, rfl⟩ rfl rfl rfl rfl rfl (by kernel_rfl) Try.func3 (by kernel_rfl)
    (of_decide_eq_true (by kernel_rfl)) (by unfold Func.isWrapper; first | (rw [if_pos (by decide +kernel)]; kernel_rfl) | (rw [if_neg (by decide +kernel)]; exact ⟨rfl, rfl⟩))
    (fun os started H enc _ => crash_lifted os started H enc)
end Go.Proofs.Ytpmlioigoiipaaa
