/-
  The run of the law BufferKnown, by the evaluator: it answers true.
-/
import Derived.Test.YtkjjpmbpjfmbcaaGreatDoorTabK
import Derived.Test.YtkjjpmbpjfmbcaaGreatDoorV4
import Derived.KernelRfl
namespace Go.Vm.YtkjjpmbpjfmbcaaGreatDoor
open Go.Proofs
def base : Base := []
set_option maxRecDepth 100000 in
theorem runBufferKnown (el : Nat → Nat) : resIs isTrue (callOF noO (tabOf all) 1000 9 [] (baseH 7 base el)) = true := by kernel_rfl
end Go.Vm.YtkjjpmbpjfmbcaaGreatDoor
