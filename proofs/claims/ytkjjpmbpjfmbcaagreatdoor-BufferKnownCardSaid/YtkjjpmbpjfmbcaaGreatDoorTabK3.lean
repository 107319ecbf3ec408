/-
  Functions of the program, as the evaluator reads them.
-/
import Derived.Test.YtkjjpmbpjfmbcaaGreatDoorV1
import Derived.Test.YtkjjpmbpjfmbcaaGreatDoorProg
import Derived.KernelRfl
namespace Go.Vm.YtkjjpmbpjfmbcaaGreatDoor
open Go.Proofs
noncomputable def c197 : CFn := ⟨17, [(.t 2)], (.seq (.ops [⟨(some 2), (.mv (.c (.bool false))), none⟩]) (.seq (.block 0 (.seq (.ops [⟨(some 4), (.mv (.t 0)), none⟩, ⟨(some 5), (.bin .leq (.c (.int .i32 0)) (.t 4)), none⟩, ⟨(some 6), (.mv (.t 5)), none⟩, ⟨(some 7), (.mv (.t 0)), (some (6, true))⟩, ⟨(some 8), (.bin .lss (.t 7) (.c (.int .i32 55296))), (some (6, true))⟩, ⟨(some 9), (.pick (.t 6) (.t 8) (.c (.bool false))), none⟩, ⟨(some 3), (.mv (.t 9)), none⟩]) (.cond (.t 3) (.seq (.ops [⟨(some 2), (.mv (.c (.bool true))), none⟩]) .ret) (.seq (.ops [⟨(some 11), (.mv (.t 0)), none⟩, ⟨(some 12), (.bin .lss (.c (.int .i32 57343)) (.t 11)), none⟩, ⟨(some 13), (.mv (.t 12)), none⟩, ⟨(some 14), (.mv (.t 0)), (some (13, true))⟩, ⟨(some 15), (.bin .leq (.t 14) (.c (.int .i32 1114111))), (some (13, true))⟩, ⟨(some 16), (.pick (.t 13) (.t 15) (.c (.bool false))), none⟩, ⟨(some 10), (.mv (.t 16)), none⟩]) (.cond (.t 10) (.seq (.ops [⟨(some 2), (.mv (.c (.bool true))), none⟩]) .ret) .skip))))) (.seq (.ops [⟨(some 2), (.mv (.c (.bool false))), none⟩]) .ret)))⟩
set_option maxRecDepth 100000 in
theorem t197 : fnOf Tryz.prog 197 = some c197 := by kernel_rfl
noncomputable def c198 : CFn := ⟨6, [(.t 2)], (.seq (.ops [⟨(some 2), (.mv (.c (.int .i64 0))), none⟩]) (.seq (.ops [⟨(some 3), (.mv (.t 0)), none⟩, ⟨(some 4), (.bin .add (.t 3) (.c (.int .i64 16))), none⟩, ⟨(some 5), (.bin .quo (.t 4) (.c (.int .i64 8))), none⟩, ⟨(some 2), (.mv (.t 5)), none⟩]) .ret))⟩
set_option maxRecDepth 100000 in
theorem t198 : fnOf Tryz.prog 198 = some c198 := by kernel_rfl
noncomputable def c200 : CFn := ⟨8, [(.t 4)], (.seq (.ops [⟨(some 4), (.mv (.c (.int .i64 0))), none⟩]) (.seq (.ops [⟨(some 5), (.mv (.t 0)), none⟩, ⟨(some 6), (.mv (.t 1)), none⟩, ⟨(some 7), .stop, none⟩, ⟨(some 4), (.mv (.t 7)), none⟩]) .ret))⟩
set_option maxRecDepth 100000 in
theorem t200 : fnOf Tryz.prog 200 = some c200 := by kernel_rfl
end Go.Vm.YtkjjpmbpjfmbcaaGreatDoor
