/-
  The witness of the law BufferKnown: the world that holds the tables alone.
-/
import Derived.Test.YtkjjpmbpjfmbcaaGreatDoorCards
import Derived.WalkKit
import Derived.ProofKit
import Derived.OpenShut
import Derived.Deep.DeepHandedRow
import Derived.Deep.DeepWitnessRowRef
import Derived.LaidMore
import Derived.Lay
import Derived.Stop.Joined
import Derived.KernelRfl
namespace Go.Proofs.YtkjjpmbpjfmbcaaGreatDoor.fnBufferKnown
open Go.ChangeShapes Go.WideShapes Go.ChangeAt Go.RowKit

theorem reads (os : Os) {H : Type} (enc : TypeId × Value → H) : ∃ places, DataW.whole enc Tryz.prog ((World.laidAll Tryz.prog os Rows.bufferKnownRow.laid).forCall (fun _ _ => 0) ⟨#[], #[], []⟩).memory Tryz.f9.params.toList Rows.bufferKnownSpec.vars false (#[] : Array Value).toList 8 = some ([], [], places) :=
  ⟨[], by kernel_rfl⟩

theorem laid_met (os : Os) : laidMetH Tryz.prog Rows.bufferKnownRow.laid ((World.laidAll Tryz.prog os Rows.bufferKnownRow.laid).forCall (fun _ _ => 0) ⟨#[], #[], []⟩).memory := by
  rw [MakeChecks.laidMetH_plain _ _ _ (by kernel_rfl)]
  exact laidMet_laidAll _ (by kernel_rfl) (by kernel_rfl)

end Go.Proofs.YtkjjpmbpjfmbcaaGreatDoor.fnBufferKnown
