/-
  The law of Clone; the table of the small ones.
-/
import Derived.Test.YtkjjpmbpjfmbcaaGreatDoorL16C
set_option linter.unusedVariables false
set_option linter.unusedSimpArgs false
namespace Go.Vm.YtkjjpmbpjfmbcaaGreatDoor
open Go.Proofs Go.Vm.R
noncomputable section
theorem room_small {n : Nat} (h : n < 99) : roomFor n 32 = true := by
  unfold roomFor
  rw [Nat.ble_eq_true_of_le (by omega), Nat.ble_eq_true_of_le (by omega)]; rfl
def out69 (full : List Ent) (j n : Nat) : RD := .need (okN full j n) (.br (Nat.beq n 0) (.v (.rs 1 0 0 0 2 true) [.r .ent [] false 41]) (.v (.rs 1 0 n n 2 false) [.r .ent (seg full j n) true 41]))
theorem run69 (j n c : Nat) (ex : Bool) (full : List Ent) (sp : Bool) (el : R.EL) : runD C Y0 (fun _ => none) 100 c69 [.rs 0 j n c 2 ex] [.r .ent full sp el] =
    cond (true && Nat.ble (j + n) (List.length full)) (cond (decide (0 + List.length (List.take n (List.drop j full)) ≤ 0)) (cond (decide (List.length (List.take n (List.drop j full)) = 0)) (some (DV.rs 1 0 0 0 2 true, (mkD [DO.r RK.ent full sp el, DO.r RK.ent [] false 41] 1))) (cond (decide (0 + List.length (List.take n (List.drop j full)) ≤ 0)) (some (DV.rs 1 0 (0 + List.length (List.take n (List.drop j full))) 0 2 true, (mkD [DO.r RK.ent full sp el, DO.r RK.ent (List.take 0 [] ++ List.take n (List.drop j full) ++ List.drop (0 + List.length (List.take n (List.drop j full))) []) false 41] 1))) none)) (cond (roomFor (0 + List.length (List.take n (List.drop j full))) 32 && true) (some (DV.rs 1 0 (0 + List.length (List.take n (List.drop j full))) (0 + List.length (List.take n (List.drop j full))) 2 false, (mkD [DO.r RK.ent full sp el, DO.r RK.ent (List.take 0 (List.drop 0 []) ++ List.take n (List.drop j full)) true 41] 1))) none)) none := by kernel_rfl
theorem law69 (j n c : Nat) (ex : Bool) (full : List Ent) (sp : Bool) (el : R.EL) : LawOk C.G C.O C.tab 69 101 [.r .ent full sp el] [.rs 0 j n c 2 ex] (out69 full j n) := by
  refine law_of C Y0 (fun _ => none) rfl rfl (fun n hn p _ ld e => by cases e) fun z hz => ?_
  obtain ⟨hp, hz⟩ := R.ev_need hz
  refine (run69 j n c ex full sp el).trans ?_
  obtain ⟨p1, p2⟩ := okN_iff.1 hp
  have hl := seg_len p1
  have hs : List.take n (List.drop j full) = seg full j n := rfl
  have hb : Nat.ble (j + n) full.length = true := Nat.ble_eq_true_of_le p1
  rw [hs, hl, hb, Nat.zero_add]
  refine Eq.trans ?_ hz
  show _ = (R.Tree.br (Nat.beq n 0) (.ok (.rs 1 0 0 0 2 true) (mkD [DO.r RK.ent full sp el, DO.r RK.ent [] false 41] 1)) (.ok (.rs 1 0 n n 2 false) (mkD [DO.r RK.ent full sp el, DO.r RK.ent (seg full j n) true 41] 1))).ev
  rw [ev_br]
  cases n with
  | zero => rfl
  | succ m =>
    rw [show roomFor (m + 1) 32 = true from room_small p2, cF (show ¬ m + 1 ≤ 0 by omega)]; rfl
theorem law69n : LawOk C.G C.O C.tab 69 101 [] [.nils] (.v .nils []) := by
  refine law_of C Y0 (fun _ => none) rfl rfl (fun n hn p _ ld e => by cases e) fun z hz => ?_
  refine Eq.trans ?_ hz
  kernel_rfl

def g31 : List R.DV → List R.DO → Option RD := fun l ao => match l, ao with
  | [.rs 0 j n c 2 ex], [.r .ent full sp el] => some (out31 full j n)
  | [.nils], [] => some (.v (.bool true) [])
  | _, _ => none
def g50 : List R.DV → List R.DO → Option RD := fun l ao => match l, ao with
  | [.rs 0 j n c 2 ex], [.r .ent full sp el] => some (out50 full j n)
  | [.nils], [] => some (.v (.int .i64 0) [])
  | _, _ => none
def g37 : List R.DV → List R.DO → Option RD := fun l ao => match l, ao with
  | [.rs 0 j n c 2 ex, .rs 1 j1 n1 c1 2 ex1], [.r .ent full sp el, .r .ent full1 sp1 el1] => some (out37 full j n full1 j1 n1)
  | [.nils, .nils], [] => some (.v (.bool true) [])
  | _, _ => none
def g69 : List R.DV → List R.DO → Option RD := fun l ao => match l, ao with
  | [.rs 0 j n c 2 ex], [.r .ent full sp el] => some (out69 full j n)
  | [.nils], [] => some (.v .nils [])
  | _, _ => none
theorem g31_ok (l : List R.DV) (ao : List R.DO) (out : RD) (h : g31 l ao = some out) : LawOk C.G C.O C.tab 31 101 ao l out := by
  unfold g31 at h
  split at h
  · cases h; exact law31 _ _ _ _ _ _ _
  · cases h; exact law31n
  · cases h
theorem g50_ok (l : List R.DV) (ao : List R.DO) (out : RD) (h : g50 l ao = some out) : LawOk C.G C.O C.tab 50 101 ao l out := by
  unfold g50 at h
  split at h
  · cases h; exact law50 _ _ _ _ _ _ _
  · cases h; exact law50n
  · cases h
theorem g37_ok (l : List R.DV) (ao : List R.DO) (out : RD) (h : g37 l ao = some out) : LawOk C.G C.O C.tab 37 101 ao l out := by
  unfold g37 at h
  split at h
  · cases h; exact law37 _ _ _ _ _ _ _ _ _ _ _ _ _ _
  · cases h; exact law37n
  · cases h
theorem g69_ok (l : List R.DV) (ao : List R.DO) (out : RD) (h : g69 l ao = some out) : LawOk C.G C.O C.tab 69 101 ao l out := by
  unfold g69 at h
  split at h
  · cases h; exact law69 _ _ _ _ _ _ _
  · cases h; exact law69n
  · cases h
def Y1 : C.RL := (((Y0.add 31 101 g31 g31_ok).add 50 101 g50 g50_ok).add 37 101 g37 g37_ok).add 69 101 g69 g69_ok
end
end Go.Vm.YtkjjpmbpjfmbcaaGreatDoor
