/- Parts of the proofs of the statement, joined and made short: ACode0. -/
import Derived.Test.YtgaeajfoiigbkaaGreatDoorP2
import Derived.Test.YtgaeajfoiigbkaaGreatDoorP1
import Derived.Test.YtgaeajfoiigbkaaGreatDoorP4
set_option linter.unusedVariables false
set_option linter.unusedSimpArgs false
set_option linter.unusedSectionVars false
namespace Go.Am
abbrev A (id : Nat) (live drop : List Nat) (marks : List (Nat × Mk)) : RAnn:=⟨id,live,drop,marks⟩
def getF {α : Type} [Inhabited α] (o : Option α) : α:=o.getD default
theorem zaa7 {α : Type} [Inhabited α] {o : Option α} (h : o.isSome = true) : o = some (getF o):=by
 cases o with
 | none => cases h
 | some a => rfl
end Go.Am
