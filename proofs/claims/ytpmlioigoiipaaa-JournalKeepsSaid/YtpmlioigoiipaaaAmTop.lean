/- The abstract machine: a law's call over the world that it is handed. -/
import Derived.Test.YtpmlioigoiipaaaAmLim
import Derived.RowKit3
set_option linter.unusedVariables false
namespace Go.Am
open Go.RowKit

/-- all the cells of a world, as they are -/
def allF (W : World) : Froz := fun b o => W.cell? ⟨b, o, none⟩

/-- the context over a world in which nothing is owned -/
def ctx0 (W : World) : Ctx := { w := W, F := allF W, μ := fun _ => ⟨0, 0, 0⟩, ρ := fun _ => none }

theorem ctx0_inv (W : World) : Inv ⟨(ctx0 W).w, (ctx0 W).F, OwnSet (ctx0 W)⟩ (ctx0 W) := by
  refine ⟨fun id o h => ?_, fun id id' o o' h => ?_, fun id o h => ?_, Kept.refl _ _, fun b o v h => h, fun _ _ _ h => h, fun _ _ _ h => .inl h⟩ <;> cases h

/-- WHAT THE ABSTRACT MACHINE ANSWERS, THE LAW ANSWERS; and the world has only grown. -/
theorem top_calls {P : Program} {tbl : FuncId → Option AFun} (ht : TblOK P tbl) {f : FuncId} {args : List AVal} {t : Bool} {os' : List Obj} (h : callT tbl f args [] = some (.dat (.bool t), os')) {W : World} {vals : Array Value}
    (hr : RepL (ctx0 W) args vals.toList) : Calls P f vals W fun e W' => e = .returned (.bool t) ∧ Grown W W' := by
  have hc := callT_sound ht f args [] _ _ h (ctx0 W) vals (by funext id; simp [ctx0, posLook]) (ctx0_inv W) hr
  refine hc.mono fun e W' ⟨val, C', h1, h2, _, h4, h5, _⟩ => ?_
  have hk := h4.kept
  have hno : ∀ b x, ¬ OwnSet (ctx0 W) b x := by
    rintro b x ⟨id, ob, q, _⟩
    cases q
  refine ⟨by rw [h1, rep_bool h5], ?_⟩
  rw [← h2]
  refine ⟨World.keptBut_mono (fun p hp => ?_) hk.but, hk.frozen, hk.size⟩
  obtain ⟨b, o, _, hT⟩ := hp
  exact hno b o hT

end Go.Am
