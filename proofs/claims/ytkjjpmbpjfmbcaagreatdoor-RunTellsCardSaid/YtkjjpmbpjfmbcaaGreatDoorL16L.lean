/-
  Same, where one is nil; the table for RunParts.
-/
import Derived.Test.YtkjjpmbpjfmbcaaGreatDoorL16J
import Derived.Test.YtkjjpmbpjfmbcaaGreatDoorL16K
set_option linter.unusedVariables false
set_option linter.unusedSimpArgs false
namespace Go.Vm.YtkjjpmbpjfmbcaaGreatDoor
open Go.Proofs Go.Vm.R
noncomputable section
def out37n (full : List Ent) (j n : Nat) : RD := .need (okN full j n) (.v (.bool (Nat.beq n 0)) [])
theorem run37nl (j n c : Nat) (ex : Bool) (full : List Ent) (sp : Bool) (el : R.EL) : runD C Y0 (fun _ => none) 100 c37 [.nils, .rs 0 j n c 2 ex] [.r .ent full sp el] =
    cond (!decide ((0 : Int) = (n : Int))) (some (R.DV.bool false, (mkD [DO.r RK.ent full sp el] 1))) (some (R.DV.bool true, (mkD [DO.r RK.ent full sp el] 1))) := by kernel_rfl
theorem law37nl (j n c : Nat) (ex : Bool) (full : List Ent) (sp : Bool) (el : R.EL) : LawOk C.G C.O C.tab 37 101 [.r .ent full sp el] [.nils, .rs 0 j n c 2 ex] (out37n full j n) := by
  refine law_of C Y0 (fun _ => none) rfl rfl (fun n hn p _ ld e => by cases e) fun z hz => ?_
  obtain ⟨hp, hz⟩ := R.ev_need hz
  refine (run37nl j n c ex full sp el).trans (Eq.trans ?_ hz)
  show _ = some (R.DV.bool (Nat.beq n 0), mkD [DO.r RK.ent full sp el] 1)
  cases n with
  | zero => rfl
  | succ m => rw [show (!decide ((0 : Int) = ((m + 1 : Nat) : Int))) = true by simp; omega]; rfl
def g27 : List R.DV → List R.DO → Option RD := fun l ao => match l, ao with
  | [.rs 0 j n c 2 ex], [.r .ent full sp el] => some (out27 full j n)
  | [.nils], [] => some (.v (.int .i64 0) [])
  | _, _ => none
def g51 : List R.DV → List R.DO → Option RD := fun l ao => match l, ao with
  | [.rs 0 j n c 2 ex, .str x, .str y, .int .i64 mo], [.r .ent full sp el] => some (out51b full j n x y mo)
  | [.nils, .str x, .str y, .int .i64 mo], [] => some (.v .nils [])
  | _, _ => none
def g37b : List R.DV → List R.DO → Option RD := fun l ao => match l, ao with
  | [.rs 0 j n c 2 ex, .rs 1 j1 n1 c1 2 ex1], [.r .ent full sp el, .r .ent full1 sp1 el1] => some (out37 full j n full1 j1 n1)
  | [.nils, .rs 0 j n c 2 ex], [.r .ent full sp el] => some (out37n full j n)
  | [.nils, .nils], [] => some (.v (.bool true) [])
  | _, _ => none
theorem g27_ok (l : List R.DV) (ao : List R.DO) (out : RD) (h : g27 l ao = some out) : LawOk C.G C.O C.tab 27 101 ao l out := by
  unfold g27 at h
  split at h
  · cases h; exact law27 _ _ _ _ _ _ _
  · cases h; exact law27n
  · cases h
theorem g51_ok (l : List R.DV) (ao : List R.DO) (out : RD) (h : g51 l ao = some out) : LawOk C.G C.O C.tab 51 101 ao l out := by
  unfold g51 at h
  split at h
  · cases h; exact law51 _ _ _ _ _ _ _ _ _ _
  · cases h; exact law51n _ _ _
  · cases h
theorem g37b_ok (l : List R.DV) (ao : List R.DO) (out : RD) (h : g37b l ao = some out) : LawOk C.G C.O C.tab 37 101 ao l out := by
  unfold g37b at h
  split at h
  · cases h; exact law37 _ _ _ _ _ _ _ _ _ _ _ _ _ _
  · cases h; exact law37nl _ _ _ _ _ _ _
  · cases h; exact law37n
  · cases h
def Y3 : C.RL := (((Y0.add 31 101 g31 g31_ok).add 27 101 g27 g27_ok).add 51 101 g51 g51_ok).add 37 101 g37b g37b_ok
end
end Go.Vm.YtkjjpmbpjfmbcaaGreatDoor
