/-
  Layer 17: the laws that the statements' functions stand over.
-/
import Derived.Test.YtkjjpmbpjfmbcaaGreatDoorL17R
set_option linter.unusedVariables false
set_option linter.unusedSimpArgs false
namespace Go.Vm.R
theorem law_mono {G : Gl} {O : Nat → List V → H → Res} {tab : Nat → Option CFn} {f T T' : Nat} {ao : List DO} {l : List DV} {t : RD} (h : LawOk G O tab f T ao l t) (hT : T ≤ T') : LawOk G O tab f T' ao l t := by
  intro n hn kk L h' R wf g hw z hz
  exact h n (Nat.le_trans hT hn) kk L h' R wf g hw z hz
end Go.Vm.R
namespace Go.Vm.YtkjjpmbpjfmbcaaGreatDoor
open Go.Proofs Go.Vm.R
noncomputable section
def gH17 : List R.DV → List R.DO → Option RD := fun l ao => match l, ao with
  | [.rs 0 j n c 4 ex, .str x, .str y], [.r .msg full sp el] => some (outP17 full j n x y)
  | [.nils, .str x, .str y], [] => some (.v (.tup [.nils, .nils]) [])
  | _, _ => none
theorem gH17_ok (l : List R.DV) (ao : List R.DO) (out : RD) (h : gH17 l ao = some out) : LawOk C.G C.O C.tab 17 111 ao l out := by
  unfold gH17 at h
  split at h
  · cases h; exact law17 _ _ _ _ _ _ _ _ _
  · cases h; exact law17n _ _
  · cases h
def gH18 : List R.DV → List R.DO → Option RD := fun l ao => match l, ao with
  | [.rs 0 j n c 4 ex, .str x, .str y], [.r .msg full sp el] => some (outP18 full j n x y)
  | [.nils, .str x, .str y], [] => some (.v (.tup [.nils, .nils]) [])
  | _, _ => none
theorem gH18_ok (l : List R.DV) (ao : List R.DO) (out : RD) (h : gH18 l ao = some out) : LawOk C.G C.O C.tab 18 111 ao l out := by
  unfold gH18 at h
  split at h
  · cases h; exact law18 _ _ _ _ _ _ _ _ _
  · cases h; exact law18n _ _
  · cases h
def gH20 : List R.DV → List R.DO → Option RD := fun l ao => match l, ao with
  | [.rs 0 j n c 4 ex, .str x, .str y], [.r .msg full sp el] => some (out20 full j n x y)
  | [.nils, .str x, .str y], [] => some (.v (.tup [valM zeroM, .nils, .bool false]) [])
  | _, _ => none
theorem gH20_ok (l : List R.DV) (ao : List R.DO) (out : RD) (h : gH20 l ao = some out) : LawOk C.G C.O C.tab 20 111 ao l out := by
  unfold gH20 at h
  split at h
  · cases h; exact lawF20 _ _ _ _ _ _ _ _ _
  · cases h; exact lawF20n _ _
  · cases h
def gH21 : List R.DV → List R.DO → Option RD := fun l ao => match l, ao with
  | [.rs 0 j n c 4 ex, .rs 1 j1 n1 c1 4 ex1], [.r .msg full sp el, .r .msg full1 sp1 el1] => some (out37 full j n full1 j1 n1)
  | [.nils, .rs 0 j n c 4 ex], [.r .msg full sp el] => some (out37n full j n)
  | [.rs 0 j n c 4 ex, .nils], [.r .msg full sp el] => some (out37n full j n)
  | [.ns 0 n 4, .ns 1 n1 4], [.rn .msg a 31, .rn .msg b 31] => some (outSa n a n1 b)
  | [.rs 0 j n c 4 ex, .ns 1 n1 4], [.r .msg full sp el, .rn .msg b 31] => some (outSb j n full n1 b)
  | [.nils, .ns 0 n1 4], [.rn .msg b 31] => some (.need (Nat.ble n1 b.length) (.v (.bool (Nat.beq n1 0)) []))
  | [.nils, .nils], [] => some (.v (.bool true) [])
  | _, _ => none
theorem gH21_ok (l : List R.DV) (ao : List R.DO) (out : RD) (h : gH21 l ao = some out) : LawOk C.G C.O C.tab 21 401 ao l out := by
  unfold gH21 at h
  split at h
  · cases h; exact law_mono (lawS _ _ _ _ _ _ _ _ _ _ _ _ _ _) (by omega)
  · cases h; exact law_mono (lawSnl _ _ _ _ _ _ _) (by omega)
  · cases h; exact law_mono (lawSnr _ _ _ _ _ _ _) (by omega)
  · cases h; exact lawSa _ _ _ _
  · cases h; exact lawSb _ _ _ _ _ _ _ _ _
  · cases h; exact lawSc _ _
  · cases h; exact law_mono lawSn (by omega)
  · cases h
def Y4 : C.RL := (((((Y0.add 14 101 g14 g14_ok).add 17 111 gH17 gH17_ok).add 18 111 gH18 gH18_ok).add 19 121 gH19 gH19_ok).add 20 111 gH20 gH20_ok).add 21 401 gH21 gH21_ok
end
end Go.Vm.YtkjjpmbpjfmbcaaGreatDoor
