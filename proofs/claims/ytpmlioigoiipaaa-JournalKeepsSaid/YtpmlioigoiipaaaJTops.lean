/- What a law is handed, as bytes and numbers; the seat's common facts. -/
import Derived.Test.YtpmlioigoiipaaaJMath
import Derived.Test.YtpmlioigoiipaaaAmLaw
import Derived.Test.YtpmlioigoiipaaaJLives
import Derived.Test.YtpmlioigoiipaaaRows
set_option linter.unusedVariables false
namespace Go.Am

@[simp] def Bs' (l : List UInt8) : Dat := .sl (l.map B)

theorem byte_of {D : Dat} (h : IsInt .u8 D) : ∃ b, D = B b := by
  obtain ⟨n, rfl, hw⟩ := h
  have : 0 ≤ n ∧ n ≤ 255 := by simpa [Lit.wf, IntKind.min, IntKind.max, IntKind.signed, IntKind.bits] using hw
  refine ⟨UInt8.ofNat n.toNat, ?_⟩
  rw [B, UInt8.toNat_ofNat']
  congr 1
  omega

theorem list_of {T : Dat → Prop} {α : Type} {f : α → Dat} (hf : ∀ d, T d → ∃ a, d = f a) : ∀ (l : List Dat), (∀ d ∈ l, T d) → ∃ xs : List α, l = xs.map f
  | [], _ => ⟨[], rfl⟩
  | d :: l, h => by
    obtain ⟨a, ha⟩ := hf d (h d (by simp))
    obtain ⟨xs, hx⟩ := list_of hf l fun d hd => h d (by simp [hd])
    exact ⟨a :: xs, by rw [ha, hx]; rfl⟩

theorem bytes_of {D : Dat} (h : IsSl (IsInt .u8) D) : ∃ l : List UInt8, D = .sl (l.map B) := by
  obtain ⟨l, rfl, h, _⟩ := h
  obtain ⟨xs, rfl⟩ := list_of (fun d hd => byte_of hd) l h
  exact ⟨xs, rfl⟩

theorem all1 {T1 : Dat → Prop} {Ds : List Dat} (h : AllD [T1] Ds) : ∃ D1, Ds = [D1] ∧ T1 D1 := by
  match Ds, h with
  | [D1], h => exact ⟨D1, rfl, h.1⟩
theorem all2 {T1 T2 : Dat → Prop} {Ds : List Dat} (h : AllD [T1, T2] Ds) : ∃ D1 D2, Ds = [D1, D2] ∧ T1 D1 ∧ T2 D2 := by
  match Ds, h with
  | [D1, D2], h => exact ⟨D1, D2, rfl, h.1, h.2.1⟩
theorem all3 {T1 T2 T3 : Dat → Prop} {Ds : List Dat} (h : AllD [T1, T2, T3] Ds) : ∃ D1 D2 D3, Ds = [D1, D2, D3] ∧ T1 D1 ∧ T2 D2 ∧ T3 D3 := by
  match Ds, h with
  | [D1, D2, D3], h => exact ⟨D1, D2, D3, rfl, h.1, h.2.1, h.2.2.1⟩
end Go.Am
namespace Go.Proofs.Ytpmlioigoiipaaa
theorem own : ownKnob Try.prog.godebug = none := by kernel_rfl
theorem laidOut : laidOutB Try.prog = true := by kernel_rfl
end Go.Proofs.Ytpmlioigoiipaaa
