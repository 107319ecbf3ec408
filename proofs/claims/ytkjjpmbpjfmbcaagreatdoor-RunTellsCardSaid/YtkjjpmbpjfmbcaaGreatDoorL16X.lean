/-
  The document's functions where one is nil; the table for RunTells.
-/
import Derived.Test.YtkjjpmbpjfmbcaaGreatDoorL16W
set_option linter.unusedVariables false
set_option linter.unusedSimpArgs false
namespace Go.Vm.YtkjjpmbpjfmbcaaGreatDoor
open Go.Proofs Go.Vm.R
noncomputable section
theorem law25n : LawOk C.G C.O C.tab 25 101 [] [.nils, .nils] (.v (.bool true) []) := by
  refine law_of C Y0 (fun _ => none) rfl rfl (fun n hn p _ ld e => by cases e) fun z hz => ?_
  refine Eq.trans ?_ hz
  kernel_rfl
theorem run25nl (j n c : Nat) (ex : Bool) (full : List Ent) (sp : Bool) (el : R.EL) : runD C Y0 (fun _ => none) 100 c25 [.nils, .rs 0 j n c 2 ex] [.r .ent full sp el] =
    cond (!decide ((0 : Int) = (n : Int))) (some (R.DV.bool false, (mkD [DO.r RK.ent full sp el] 1))) (some (R.DV.bool true, (mkD [DO.r RK.ent full sp el] 1))) := by kernel_rfl
theorem law25nl (j n c : Nat) (ex : Bool) (full : List Ent) (sp : Bool) (el : R.EL) : LawOk C.G C.O C.tab 25 101 [.r .ent full sp el] [.nils, .rs 0 j n c 2 ex] (out37n full j n) := by
  refine law_of C Y0 (fun _ => none) rfl rfl (fun n hn p _ ld e => by cases e) fun z hz => ?_
  obtain ⟨hp, hz⟩ := R.ev_need hz
  refine (run25nl j n c ex full sp el).trans (Eq.trans ?_ hz)
  show _ = some (R.DV.bool (Nat.beq n 0), mkD [DO.r RK.ent full sp el] 1)
  cases n with
  | zero => rfl
  | succ m => rw [show (!decide ((0 : Int) = ((m + 1 : Nat) : Int))) = true by simp; omega]; rfl
theorem run25nr (j n c : Nat) (ex : Bool) (full : List Ent) (sp : Bool) (el : R.EL) : runD C Y0 (fun _ => none) 100 c25 [.rs 0 j n c 2 ex, .nils] [.r .ent full sp el] =
    cond (!decide ((n : Int) = (0 : Int))) (some (R.DV.bool false, (mkD [DO.r RK.ent full sp el] 1))) (cond (decide ((0 : Int) < (n : Int))) (cond (decide (0 < n)) (cond (Nat.blt (j + 0) full.length) none none) none) (some (R.DV.bool true, (mkD [DO.r RK.ent full sp el] 1)))) := by kernel_rfl
theorem law25nr (j n c : Nat) (ex : Bool) (full : List Ent) (sp : Bool) (el : R.EL) : LawOk C.G C.O C.tab 25 101 [.r .ent full sp el] [.rs 0 j n c 2 ex, .nils] (out37n full j n) := by
  refine law_of C Y0 (fun _ => none) rfl rfl (fun n hn p _ ld e => by cases e) fun z hz => ?_
  obtain ⟨hp, hz⟩ := R.ev_need hz
  refine (run25nr j n c ex full sp el).trans (Eq.trans ?_ hz)
  show _ = some (R.DV.bool (Nat.beq n 0), mkD [DO.r RK.ent full sp el] 1)
  cases n with
  | zero => rfl
  | succ m => rw [show (!decide (((m + 1 : Nat) : Int) = (0 : Int))) = true by simp; omega]; rfl
theorem law54n : LawOk C.G C.O C.tab 54 101 [] [.nils] (.v (.int .i64 0) []) := by
  refine law_of C Y0 (fun _ => none) rfl rfl (fun n hn p _ ld e => by cases e) fun z hz => ?_
  refine Eq.trans ?_ hz
  kernel_rfl
theorem law52n (k : List UInt8) : LawOk C.G C.O C.tab 52 101 [] [.nils, .str k] (.v (.tup [.str [], .bool false]) []) := by
  refine law_of C Y0 (fun _ => none) rfl rfl (fun n hn p _ ld e => by cases e) fun z hz => ?_
  refine Eq.trans ?_ hz
  kernel_rfl
def g25 : List R.DV → List R.DO → Option RD := fun l ao => match l, ao with
  | [.rs 0 j n c 2 ex, .rs 1 j1 n1 c1 2 ex1], [.r .ent full sp el, .r .ent full1 sp1 el1] => some (out37 full j n full1 j1 n1)
  | [.nils, .rs 0 j n c 2 ex], [.r .ent full sp el] => some (out37n full j n)
  | [.rs 0 j n c 2 ex, .nils], [.r .ent full sp el] => some (out37n full j n)
  | [.nils, .nils], [] => some (.v (.bool true) [])
  | _, _ => none
theorem g25_ok (l : List R.DV) (ao : List R.DO) (out : RD) (h : g25 l ao = some out) : LawOk C.G C.O C.tab 25 101 ao l out := by
  unfold g25 at h
  split at h
  · cases h; exact law25 _ _ _ _ _ _ _ _ _ _ _ _ _ _
  · cases h; exact law25nl _ _ _ _ _ _ _
  · cases h; exact law25nr _ _ _ _ _ _ _
  · cases h; exact law25n
  · cases h
def g54 : List R.DV → List R.DO → Option RD := fun l ao => match l, ao with
  | [.rs 0 j n c 2 ex], [.r .ent full sp el] => some (out27 full j n)
  | [.nils], [] => some (.v (.int .i64 0) [])
  | _, _ => none
theorem g54_ok (l : List R.DV) (ao : List R.DO) (out : RD) (h : g54 l ao = some out) : LawOk C.G C.O C.tab 54 101 ao l out := by
  unfold g54 at h
  split at h
  · cases h; exact law54 _ _ _ _ _ _ _
  · cases h; exact law54n
  · cases h
def g52 : List R.DV → List R.DO → Option RD := fun l ao => match l, ao with
  | [.rs 0 j n c 2 ex, .str k], [.r .ent full sp el] => some (out28 full j n k)
  | [.nils, .str k], [] => some (.v (.tup [.str [], .bool false]) [])
  | _, _ => none
theorem g52_ok (l : List R.DV) (ao : List R.DO) (out : RD) (h : g52 l ao = some out) : LawOk C.G C.O C.tab 52 101 ao l out := by
  unfold g52 at h
  split at h
  · cases h; exact law52 _ _ _ _ _ _ _ _
  · cases h; exact law52n _
  · cases h
theorem g28_ok (l : List R.DV) (ao : List R.DO) (out : RD) (h : g52 l ao = some out) : LawOk C.G C.O C.tab 28 111 ao l out := by
  unfold g52 at h
  split at h
  · cases h; exact law28 _ _ _ _ _ _ _ _
  · cases h; exact law28n _
  · cases h
theorem g56_ok (l : List R.DV) (ao : List R.DO) (out : RD) (h : g51 l ao = some out) : LawOk C.G C.O C.tab 56 101 ao l out := by
  unfold g51 at h
  split at h
  · cases h; exact law56 _ _ _ _ _ _ _ _ _ _
  · cases h; exact law56n _ _ _
  · cases h
def g34 : List R.DV → List R.DO → Option RD := fun l ao => match l, ao with
  | [.rs 0 j n c 2 ex], [.r .ent full sp el] => some (out34 full j n)
  | [.nils], [] => some (.v .nils [])
  | _, _ => none
theorem g34_ok (l : List R.DV) (ao : List R.DO) (out : RD) (h : g34 l ao = some out) : LawOk C.G C.O C.tab 34 111 ao l out := by
  unfold g34 at h
  split at h
  · cases h; exact law34 _ _ _ _ _ _ _
  · cases h; exact law34n
  · cases h
def g53 : List R.DV → List R.DO → Option RD := fun l ao => match l, ao with
  | [.rs 0 j n c 2 ex], [.r .ent full sp el] => some (out53 full j n c)
  | [.nils], [] => some (.v (.int .i64 0) [])
  | _, _ => none
theorem g53_ok (l : List R.DV) (ao : List R.DO) (out : RD) (h : g53 l ao = some out) : LawOk C.G C.O C.tab 53 111 ao l out := by
  unfold g53 at h
  split at h
  · cases h; exact law53 _ _ _ _ _ _ _
  · cases h; exact law53n
  · cases h
def Y6 : C.RL := ((((((((((((Y0.add 31 101 g31 g31_ok).add 34 111 g34 g34_ok).add 28 111 g52 g28_ok).add 52 101 g52 g52_ok).add 49 111 g49 g49_ok).add 53 111 g53 g53_ok).add 27 101 g27 g27_ok).add 54 101 g54 g54_ok).add 50 101 g50 g50_ok).add 55 101 g55 g55_ok).add 25 101 g25 g25_ok).add 51 101 g51 g51_ok).add 56 101 g51 g56_ok
end
end Go.Vm.YtkjjpmbpjfmbcaaGreatDoor
