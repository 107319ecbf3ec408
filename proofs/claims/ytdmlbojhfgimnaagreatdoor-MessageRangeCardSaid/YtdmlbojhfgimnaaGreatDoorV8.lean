/-
  Laws over rows, at the model's level.
-/
import Derived.Test.YtdmlbojhfgimnaaGreatDoorV7
import Derived.ChangeArms
import Derived.Test.YtdmlbojhfgimnaaGreatDoorV5
import Derived.Deep.Slices
set_option linter.unusedVariables false
set_option linter.unusedSimpArgs false
/-! A law over a row, at the model's level: the argument's row lies in the world. -/
namespace Go.Vm.R
noncomputable section
variable {P : Program}

/-- where the row lies -/
structure RowAt (W : World) (B : Base) (p : Pl) (cells : List V) (e z : Nat) : Prop where
  lie : ∃ cs fr, W.heap[p.B]? = some (.cells cs e fr) ∧ cs.size = p.N ∧ p.b + cells.length ≤ p.N ∧ fr.2 ≤ p.b + z ∧ ∀ i v, cells[i]? = some v → ∃ x, cs[p.b + i]? = some x ∧ VRel noRho noH v x
  ne : ∀ y ∈ B, y.1 ≠ p.B

end
end Go.Vm.R

/-! An argument that is a slice of records of two texts: its row; and that it reads behind the call as it read. -/
namespace Go.Vm.R
noncomputable section
open Go.Deep
variable {H : Type} {enc : TypeId × Value → H} {P : Program}

/-- what such a type is made of -/
structure EntT (P : Program) (t e : TypeId) : Prop where
  sl : P.underlying t = some (.slice e)
  two : ∃ f0 f1 : Field, P.underlying e = some (.struct #[f0, f1]) ∧ P.underlying f0.type = some .string ∧ P.underlying f1.type = some .string ∧ f0.offset = 0 ∧ f1.offset = 1 ∧ P.cellsOf f0.type = 1 ∧ P.cellsOf f1.type = 1
  cells : P.cellsOf e = 2
  plain : plainT P 8 e = true

end
end Go.Vm.R

/-! A slice that may be nil, as two cases. -/
namespace Go.Vm.R
noncomputable section

end
end Go.Vm.R

set_option linter.unusedVariables false
namespace Go.Vm.R
open Go.Proofs
noncomputable section
end
end Go.Vm.R
