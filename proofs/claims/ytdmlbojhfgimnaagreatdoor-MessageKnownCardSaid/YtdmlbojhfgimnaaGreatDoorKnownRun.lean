/-
  The run of MessageKnown, by the evaluator: it answers true.
-/
import Derived.Test.YtdmlbojhfgimnaaGreatDoorTab
import Derived.Test.YtdmlbojhfgimnaaGreatDoorVmLaw
import Derived.KernelRfl
namespace Go.Proofs.YtdmlbojhfgimnaaGreatDoor.fnMessageKnown
set_option maxRecDepth 100000 in
theorem runs : Vm.yes (Vm.call (Vm.tabOf Vm.YtdmlbojhfgimnaaGreatDoor.all) 1000 8 [] ⟨4, .lf, 0⟩) = true := by kernel_rfl
end Go.Proofs.YtdmlbojhfgimnaaGreatDoor.fnMessageKnown
