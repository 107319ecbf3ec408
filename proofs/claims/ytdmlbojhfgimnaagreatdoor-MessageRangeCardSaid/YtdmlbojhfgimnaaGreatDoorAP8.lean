/-
  Blocks: the loops, a turn of each.
-/
import Derived.Test.YtdmlbojhfgimnaaGreatDoorL17H
set_option linter.unusedVariables false
set_option linter.unusedSimpArgs false
namespace Go.Vm.YtdmlbojhfgimnaaGreatDoor
open Go.Proofs Go.Vm.R
noncomputable section
abbrev Txt := List UInt8
def b119 : CC := match loopsIn none c80.body with | [(_, b)] => b | _ => .skip
def b184 : CC := match loopsIn none c133.body with | [(_, b)] => b | _ => .skip
def b139 : CC := match loopsIn none c102.body with | [(_, b)] => b | _ => .skip
def b95a : CC := match loopsIn none c47.body with | [(_, b), _, _] => b | _ => .skip
def b95b : CC := match loopsIn none c47.body with | [_, (_, b), _] => b | _ => .skip
def b95c : CC := match loopsIn none c47.body with | [_, _, (_, b)] => b | _ => .skip
def ld119 (P : Txt → Int → Bool) (S : Txt → Int → Int) : LoopD := ⟨[(0, none), (3, none)], [(0, none), (3, none)], [], fun vs ao => match vs, ao with
  | [.str s, .int .i64 z], [] => some (z.toNat, .need (P s z) (.exit 0 [.str s, .int .i64 (S s z)] []))
  | _, _ => none⟩
def ld184 (P : Txt → Int → Bool) (S : Txt → Int → Txt) : LoopD := ⟨[(0, none), (1, none)], [(0, none)], [], fun vs ao => match vs, ao with
  | [.str s, .int .u8 c], [] => some (s.length, .need (P s c) (.exit 0 [.str (S s c)] []))
  | _, _ => none⟩
def ld139 (P : Txt → Int → Txt → Int → Int → Bool) (S : Txt → Int → Txt → Int → Int → Txt) : LoopD := ⟨[(0, none), (1, none), (7, some (.byte, 5)), (15, none), (16, none)], [(7, some (.byte, 5))], [], fun vs ao => match vs, ao with
  | [.str v, .int .i64 f, .ns 0 a 1, .int .i64 n, .int .i64 z], [.rn .byte b 5] => some (n.toNat - z.toNat, .need (Nat.beq a (List.length (α := UInt8) b) && P v f b n z) (.exit 0 [.ns 0 (S v f b n z).length 1] [.rn .byte (S v f b n z) 5]))
  | _, _ => none⟩
def ld95a (P : Txt → Txt → Int → Bool) (S : Txt → Txt → Int → Txt) : LoopD := ⟨[(0, none), (3, none), (5, none), (6, none)], [(3, none), (5, none)], [], fun vs ao => match vs, ao with
  | [.str v, .ptr 0 0, .ep 1 0 1 0, .int .i64 z], [.c [.bool cu, .int .i64 a, .int .i64 n, .str s] false 73, .r .byte l false ⟨130, 0⟩] => some (64 - z.toNat, .need (P v l z) (.exit 0 [.ptr 0 0, .ep 1 0 1 0] [.c [.bool cu, .int .i64 a, .int .i64 n, .str s] false 73, .r .byte (S v l z) false ⟨130, 0⟩]))
  | _, _ => none⟩
def ld95b (P : Txt → Int → Bool) (S : Txt → Int → Txt) : LoopD := ⟨[(3, none), (5, none), (7, none)], [(3, none), (5, none)], [], fun vs ao => match vs, ao with
  | [.ptr 0 0, .ep 1 0 1 0, .int .i64 z], [.c [.bool cu, .int .i64 a, .int .i64 n, .str s] false 73, .r .byte l false ⟨130, 0⟩] => some (64 - z.toNat, .need (P l z) (.exit 2 [.ptr 0 0, .ep 1 0 1 0] [.c [.bool cu, .int .i64 a, .int .i64 n, .str s] false 73, .r .byte (S l z) false ⟨130, 0⟩]))
  | _, _ => none⟩
def ld95c (P : Int → Txt → Txt → Int → Bool) (S : Int → Txt → Txt → Int → Txt) : LoopD := ⟨[(3, none), (5, none), (8, none)], [(5, none)], [], fun vs ao => match vs, ao with
  | [.ptr 0 0, .ep 1 0 1 0, .int .i64 z], [.c [.bool cu, .int .i64 at', .int .i64 n, .str s] false 73, .r .byte l false ⟨130, 0⟩] => some (s.length - z.toNat, .need (P at' s l z) (.exit 4 [.ep 0 0 1 0] [.r .byte (S at' s l z) false ⟨130, 0⟩]))
  | _, _ => none⟩
theorem turn119 (P : Txt → Int → Bool) (S : Txt → Int → Int) (s : Txt) (z : Int) (m : Nat) (rd k1 : R.EK) (y : List (Nat × R.EK)) :
    (turnD CB YB0 (fun _ => none) 100 20 0 0 b119 (ld119 P S) m [.str s, .int .i64 z] [] rd k1 y).ev =
    cond (decide (0 < z)) (cond (decide (0 ≤ IntKind.wrap IntKind.i64 (z - 1)) && decide (IntKind.wrap IntKind.i64 (z - 1) < (↑(List.length s) : Int))) (cond (decide ((↑(UInt8.toNat (List.getD s (Int.toNat (IntKind.wrap IntKind.i64 (z - 1))) 0)) : Int) = 0)) (cond (decide (Int.toNat (IntKind.wrap IntKind.i64 (z - 1)) < m)) (cond (P s (IntKind.wrap IntKind.i64 (z - 1))) ((k1 (envZ [0, 3] [R.DV.str s, R.DV.int IntKind.i64 (S s (IntKind.wrap IntKind.i64 (z - 1)))]) (mkD [] 0)).ev) none) none) ((k1 (envZ [0, 3] [R.DV.str s, R.DV.int IntKind.i64 z]) (mkD [] 0)).ev)) none) ((k1 (envZ [0, 3] [R.DV.str s, R.DV.int IntKind.i64 z]) (mkD [] 0)).ev) := by kernel_rfl

theorem turn184 (P : Txt → Int → Bool) (S : Txt → Int → Txt) (s : Txt) (c : Int) (m : Nat) (rd k1 : R.EK) (y : List (Nat × R.EK)) :
    (turnD CB YB0 (fun _ => none) 100 23 0 0 b184 (ld184 P S) m [.str s, .int .u8 c] [] rd k1 y).ev =
    cond (decide (0 < (↑(List.length s) : Int))) (cond (decide (0 ≤ IntKind.wrap IntKind.i64 ((↑(List.length s) : Int) - 1)) && decide (IntKind.wrap IntKind.i64 ((↑(List.length s) : Int) - 1) < (↑(List.length s) : Int))) (cond (decide ((↑(UInt8.toNat (List.getD s (Int.toNat (IntKind.wrap IntKind.i64 ((↑(List.length s) : Int) - 1))) 0)) : Int) = c)) (cond (decide (0 ≤ IntKind.wrap IntKind.i64 ((↑(List.length s) : Int) - 1)) && decide (IntKind.wrap IntKind.i64 ((↑(List.length s) : Int) - 1) ≤ (↑(List.length s) : Int))) (cond (decide (List.length (List.take (Int.toNat (IntKind.wrap IntKind.i64 ((↑(List.length s) : Int) - 1))) s) < m)) (cond (P (List.take (Int.toNat (IntKind.wrap IntKind.i64 ((↑(List.length s) : Int) - 1))) s) c) ((k1 (envZ [0] [R.DV.str (S (List.take (Int.toNat (IntKind.wrap IntKind.i64 ((↑(List.length s) : Int) - 1))) s) c)]) (mkD [] 0)).ev) none) none) none) ((k1 (envZ [0] [R.DV.str s]) (mkD [] 0)).ev)) none) ((k1 (envZ [0] [R.DV.str s]) (mkD [] 0)).ev) := by kernel_rfl

theorem turn139 (P : Txt → Int → Txt → Int → Int → Bool) (S : Txt → Int → Txt → Int → Int → Txt) (v : Txt) (f : Int) (b : Txt) (n z : Int) (m : Nat) (rd k1 : R.EK) (y : List (Nat × R.EK)) :
    (turnD CB YB0 (fun _ => none) 100 43 0 0 b139 (ld139 P S) m [.str v, .int .i64 f, .ns 0 b.length 1, .int .i64 n, .int .i64 z] [.rn .byte b 5] rd k1 y).ev =
    cond (decide (z < n)) (cond (decide (f < (↑(List.length v) : Int))) (cond (decide (z < IntKind.wrap IntKind.i64 ((↑(List.length v) : Int) - f))) (cond (decide (0 ≤ IntKind.wrap IntKind.i64 (f + z)) && decide (IntKind.wrap IntKind.i64 (f + z) < (↑(List.length v) : Int))) (cond (decide ((↑(UInt8.toNat (List.getD v (Int.toNat (IntKind.wrap IntKind.i64 (f + z))) 0)) : Int) < 256) && true) (cond (Nat.ble (List.length b) (List.length b)) (cond (roomFor (List.length b + List.length (List.take 1 (List.drop 0 [UInt8.ofNat (Int.toNat (↑(UInt8.toNat (List.getD v (Int.toNat (IntKind.wrap IntKind.i64 (f + z))) 0)) : Int))]))) 1) (cond (decide (List.length b + List.length (List.take 1 (List.drop 0 [UInt8.ofNat (Int.toNat (↑(UInt8.toNat (List.getD v (Int.toNat (IntKind.wrap IntKind.i64 (f + z))) 0)) : Int))])) = List.length (List.take (List.length b) b ++ List.take 1 (List.drop 0 [UInt8.ofNat (Int.toNat (↑(UInt8.toNat (List.getD v (Int.toNat (IntKind.wrap IntKind.i64 (f + z))) 0)) : Int))]))) && (decide (List.length b + List.length (List.take 1 (List.drop 0 [UInt8.ofNat (Int.toNat (↑(UInt8.toNat (List.getD v (Int.toNat (IntKind.wrap IntKind.i64 (f + z))) 0)) : Int))])) = List.length b + List.length (List.take 1 (List.drop 0 [UInt8.ofNat (Int.toNat (↑(UInt8.toNat (List.getD v (Int.toNat (IntKind.wrap IntKind.i64 (f + z))) 0)) : Int))]))) && true)) (cond (decide (Int.toNat n - Int.toNat (IntKind.wrap IntKind.i64 (z + 1)) < m)) (cond (Nat.beq (List.length b + List.length (List.take 1 (List.drop 0 [UInt8.ofNat (Int.toNat (↑(UInt8.toNat (List.getD v (Int.toNat (IntKind.wrap IntKind.i64 (f + z))) 0)) : Int))]))) (List.length (List.take (List.length b) b ++ List.take 1 (List.drop 0 [UInt8.ofNat (Int.toNat (↑(UInt8.toNat (List.getD v (Int.toNat (IntKind.wrap IntKind.i64 (f + z))) 0)) : Int))]))) && P v f (List.take (List.length b) b ++ List.take 1 (List.drop 0 [UInt8.ofNat (Int.toNat (↑(UInt8.toNat (List.getD v (Int.toNat (IntKind.wrap IntKind.i64 (f + z))) 0)) : Int))])) n (IntKind.wrap IntKind.i64 (z + 1))) ((k1 (envZ [7] [DV.ns 0 (List.length (S v f (List.take (List.length b) b ++ List.take 1 (List.drop 0 [UInt8.ofNat (Int.toNat (↑(UInt8.toNat (List.getD v (Int.toNat (IntKind.wrap IntKind.i64 (f + z))) 0)) : Int))])) n (IntKind.wrap IntKind.i64 (z + 1)))) 1]) (mkD [DO.rn RK.byte (S v f (List.take (List.length b) b ++ List.take 1 (List.drop 0 [UInt8.ofNat (Int.toNat (↑(UInt8.toNat (List.getD v (Int.toNat (IntKind.wrap IntKind.i64 (f + z))) 0)) : Int))])) n (IntKind.wrap IntKind.i64 (z + 1))) 5] 0)).ev) none) none) none) none) none) none) none) (cond (Nat.ble (List.length b) (List.length b)) (cond (roomFor (List.length b + 1) 1) (cond (decide (List.length b + 1 = List.length (List.take (List.length b) b ++ List.take 1 (List.drop 0 [UInt8.ofNat 0]))) && (decide (List.length b + 1 = List.length b + 1) && true)) (cond (decide (Int.toNat n - Int.toNat (IntKind.wrap IntKind.i64 (z + 1)) < m)) (cond (Nat.beq (List.length b + 1) (List.length (List.take (List.length b) b ++ List.take 1 (List.drop 0 [UInt8.ofNat 0]))) && P v f (List.take (List.length b) b ++ List.take 1 (List.drop 0 [UInt8.ofNat 0])) n (IntKind.wrap IntKind.i64 (z + 1))) ((k1 (envZ [7] [DV.ns 0 (List.length (S v f (List.take (List.length b) b ++ List.take 1 (List.drop 0 [UInt8.ofNat 0])) n (IntKind.wrap IntKind.i64 (z + 1)))) 1]) (mkD [DO.rn RK.byte (S v f (List.take (List.length b) b ++ List.take 1 (List.drop 0 [UInt8.ofNat 0])) n (IntKind.wrap IntKind.i64 (z + 1))) 5] 0)).ev) none) none) none) none) none)) (cond (Nat.ble (List.length b) (List.length b)) (cond (roomFor (List.length b + 1) 1) (cond (decide (List.length b + 1 = List.length (List.take (List.length b) b ++ List.take 1 (List.drop 0 [UInt8.ofNat 0]))) && (decide (List.length b + 1 = List.length b + 1) && true)) (cond (decide (Int.toNat n - Int.toNat (IntKind.wrap IntKind.i64 (z + 1)) < m)) (cond (Nat.beq (List.length b + 1) (List.length (List.take (List.length b) b ++ List.take 1 (List.drop 0 [UInt8.ofNat 0]))) && P v f (List.take (List.length b) b ++ List.take 1 (List.drop 0 [UInt8.ofNat 0])) n (IntKind.wrap IntKind.i64 (z + 1))) ((k1 (envZ [7] [DV.ns 0 (List.length (S v f (List.take (List.length b) b ++ List.take 1 (List.drop 0 [UInt8.ofNat 0])) n (IntKind.wrap IntKind.i64 (z + 1)))) 1]) (mkD [DO.rn RK.byte (S v f (List.take (List.length b) b ++ List.take 1 (List.drop 0 [UInt8.ofNat 0])) n (IntKind.wrap IntKind.i64 (z + 1))) 5] 0)).ev) none) none) none) none) none)) ((k1 (envZ [7] [DV.ns 0 (List.length b) 1]) (mkD [DO.rn RK.byte b 5] 0)).ev) := by kernel_rfl

theorem turn95a (P : Txt → Txt → Int → Bool) (S : Txt → Txt → Int → Txt) (v : Txt) (cu : Bool) (a n : Int) (s l : Txt) (z : Int) (m : Nat) (rd k1 : R.EK) (y : List (Nat × R.EK)) :
    (turnD CB YB0 (fun _ => none) 120 58 0 0 b95a (ld95a P S) m [.str v, .ptr 0 0, .ep 1 0 1 0, .int .i64 z] [.c [.bool cu, .int .i64 a, .int .i64 n, .str s] false 73, .r .byte l false 130] rd k1 y).ev =
    cond (decide (z < 64)) (cond (decide (z < (↑(List.length v) : Int))) (cond (decide (0 ≤ z) && decide (z < (↑(List.length v) : Int))) (cond (decide (0 ≤ z) && decide (Int.toNat z < 64)) (cond (Nat.blt (0 + Int.toNat z) (List.length l) && decide ((↑(UInt8.toNat (List.getD v (Int.toNat z) 0)) : Int) < 256)) (cond (decide (64 - Int.toNat (IntKind.wrap IntKind.i64 (z + 1)) < m)) (cond (P v (List.set l (0 + Int.toNat z) (UInt8.ofNat (Int.toNat (↑(UInt8.toNat (List.getD v (Int.toNat z) 0)) : Int)))) (IntKind.wrap IntKind.i64 (z + 1))) ((k1 (envZ [3, 5] [R.DV.ptr 0 0, DV.ep 1 0 1 0]) (mkD [R.DO.c [R.DV.bool cu, R.DV.int IntKind.i64 a, R.DV.int IntKind.i64 n, R.DV.str s] false 73, DO.r RK.byte (S v (List.set l (0 + Int.toNat z) (UInt8.ofNat (Int.toNat (↑(UInt8.toNat (List.getD v (Int.toNat z) 0)) : Int)))) (IntKind.wrap IntKind.i64 (z + 1))) false { e := 130, z := 0 }] 0)).ev) none) none) none) none) none) (cond (decide (0 ≤ z) && decide (Int.toNat z < 64)) (cond (Nat.blt (0 + Int.toNat z) (List.length l) && true) (cond (decide (64 - Int.toNat (IntKind.wrap IntKind.i64 (z + 1)) < m)) (cond (P v (List.set l (0 + Int.toNat z) (UInt8.ofNat 0)) (IntKind.wrap IntKind.i64 (z + 1))) ((k1 (envZ [3, 5] [R.DV.ptr 0 0, DV.ep 1 0 1 0]) (mkD [R.DO.c [R.DV.bool cu, R.DV.int IntKind.i64 a, R.DV.int IntKind.i64 n, R.DV.str s] false 73, DO.r RK.byte (S v (List.set l (0 + Int.toNat z) (UInt8.ofNat 0)) (IntKind.wrap IntKind.i64 (z + 1))) false { e := 130, z := 0 }] 0)).ev) none) none) none) none)) ((k1 (envZ [3, 5] [R.DV.ptr 0 0, DV.ep 1 0 1 0]) (mkD [R.DO.c [R.DV.bool cu, R.DV.int IntKind.i64 a, R.DV.int IntKind.i64 n, R.DV.str s] false 73, DO.r RK.byte l false 130] 0)).ev) := by kernel_rfl

theorem turn95b (P : Txt → Int → Bool) (S : Txt → Int → Txt) (cu : Bool) (a n : Int) (s l : Txt) (z : Int) (m : Nat) (rd k1 : R.EK) (y : List (Nat × R.EK)) :
    (turnD CB YB0 (fun _ => none) 120 58 0 2 b95b (ld95b P S) m [.ptr 0 0, .ep 1 0 1 0, .int .i64 z] [.c [.bool cu, .int .i64 a, .int .i64 n, .str s] false 73, .r .byte l false 130] rd k1 y).ev =
    cond (decide (z < 64)) (cond (decide (0 ≤ z) && decide (Int.toNat z < 64)) (cond (Nat.blt (0 + Int.toNat z) (List.length l) && true) (cond (decide (64 - Int.toNat (IntKind.wrap IntKind.i64 (z + 1)) < m)) (cond (P (List.set l (0 + Int.toNat z) (UInt8.ofNat 0)) (IntKind.wrap IntKind.i64 (z + 1))) ((k1 (envZ [3, 5] [R.DV.ptr 0 0, DV.ep 1 0 1 0]) (mkD [R.DO.c [R.DV.bool cu, R.DV.int IntKind.i64 a, R.DV.int IntKind.i64 n, R.DV.str s] false 73, DO.r RK.byte (S (List.set l (0 + Int.toNat z) (UInt8.ofNat 0)) (IntKind.wrap IntKind.i64 (z + 1))) false { e := 130, z := 0 }] 0)).ev) none) none) none) none) ((k1 (envZ [3, 5] [R.DV.ptr 0 0, DV.ep 1 0 1 0]) (mkD [R.DO.c [R.DV.bool cu, R.DV.int IntKind.i64 a, R.DV.int IntKind.i64 n, R.DV.str s] false 73, DO.r RK.byte l false 130] 0)).ev) := by kernel_rfl

theorem turn95c (P : Int → Txt → Txt → Int → Bool) (S : Int → Txt → Txt → Int → Txt) (cu : Bool) (a n : Int) (s l : Txt) (z : Int) (m : Nat) (rd k1 : R.EK) (y : List (Nat × R.EK)) :
    (turnD CB YB0 (fun _ => none) 120 58 0 4 b95c (ld95c P S) m [.ptr 0 0, .ep 1 0 1 0, .int .i64 z] [.c [.bool cu, .int .i64 a, .int .i64 n, .str s] false 73, .r .byte l false 130] rd k1 y).ev =
    cond (decide (z < (↑(List.length s) : Int))) (cond (decide (0 ≤ z) && decide (z < (↑(List.length s) : Int))) (cond (decide (0 ≤ IntKind.wrap IntKind.i64 (a + z)) && decide (Int.toNat (IntKind.wrap IntKind.i64 (a + z)) < 64)) (cond (Nat.blt (0 + Int.toNat (IntKind.wrap IntKind.i64 (a + z))) (List.length l) && decide ((↑(UInt8.toNat (List.getD s (Int.toNat z) 0)) : Int) < 256)) (cond (decide (List.length s - Int.toNat (IntKind.wrap IntKind.i64 (z + 1)) < m)) (cond (P a s (List.set l (0 + Int.toNat (IntKind.wrap IntKind.i64 (a + z))) (UInt8.ofNat (Int.toNat (↑(UInt8.toNat (List.getD s (Int.toNat z) 0)) : Int)))) (IntKind.wrap IntKind.i64 (z + 1))) ((k1 (envZ [5] [DV.ep 0 0 1 0]) (mkD [DO.r RK.byte (S a s (List.set l (0 + Int.toNat (IntKind.wrap IntKind.i64 (a + z))) (UInt8.ofNat (Int.toNat (↑(UInt8.toNat (List.getD s (Int.toNat z) 0)) : Int)))) (IntKind.wrap IntKind.i64 (z + 1))) false { e := 130, z := 0 }] 0)).ev) none) none) none) none) none) ((k1 (envZ [5] [DV.ep 0 0 1 0]) (mkD [DO.r RK.byte l false 130] 0)).ev) := by kernel_rfl

/-! ### trimming -/
def trimL (s : Txt) : Nat → Nat
  | 0 => 0
  | n + 1 => cond (decide (((s.getD n 0).toNat : Int) = 0)) (trimL s n) (n + 1)
def trimS (s : Txt) : Txt := s.take (trimL s s.length)
theorem trimL_le (s : Txt) : ∀ n, trimL s n ≤ n
  | 0 => Nat.le_refl _
  | n + 1 => by
    have := trimL_le s n
    unfold trimL
    cases decide (((s.getD n 0).toNat : Int) = 0)
    · exact Nat.le_refl _
    · exact Nat.le_succ_of_le this
theorem trimL_take (s : Txt) (n : Nat) : ∀ m, m ≤ n → trimL (s.take n) m = trimL s m
  | 0, _ => rfl
  | m + 1, h => by
    unfold trimL
    have e : (s.take n).getD m 0 = s.getD m 0 := by
      rw [List.getD_eq_getElem?_getD, List.getD_eq_getElem?_getD, List.getElem?_take, if_pos (by omega)]
    rw [e, trimL_take s n m (by omega)]
def P119 (s : Txt) (z : Int) : Bool := decide (0 ≤ z ∧ z ≤ s.length ∧ s.length < 9223372036854775808)
def S119 (s : Txt) (z : Int) : Int := (trimL s z.toNat : Nat)
theorem step119 (s : Txt) (z : Int) (rd k1 : R.EK) (y : List (Nat × R.EK)) (w : R.DV × R.DH) (hp : P119 s z = true) (hw : (k1 (envZ [0, 3] [R.DV.str s, R.DV.int .i64 (S119 s z)]) (mkD [] 0)).ev = some w) :
    (turnD CB YB0 (fun _ => none) 100 20 0 0 b119 (ld119 P119 S119) z.toNat [.str s, .int .i64 z] [] rd k1 y).ev = some w := by
  unfold P119 at hp
  rw [decide_eq_true_eq] at hp
  obtain ⟨p0, p1, p2⟩ := hp
  rw [turn119]
  by_cases h1 : 0 < z
  · obtain ⟨n, rfl⟩ : ∃ n : Nat, z = ((n + 1 : Nat) : Int) := ⟨z.toNat - 1, by omega⟩
    have e1 : IntKind.wrap .i64 (((n + 1 : Nat) : Int) - 1) = (n : Int) := by rw [show ((n + 1 : Nat) : Int) - 1 = (n : Int) by omega]; exact wrap_i64 (by omega) (by omega)
    rw [cT h1, e1, cA (by omega) (by omega)]
    unfold S119 at hw
    rw [Int.toNat_natCast] at hw ⊢
    by_cases h2 : ((s.getD n 0).toNat : Int) = 0
    · have hP : P119 s (n : Int) = true := by unfold P119; rw [decide_eq_true_eq]; omega
      rw [cT h2, cT (by omega), hP]
      rw [show trimL s (n + 1) = trimL s n by unfold trimL; rw [decide_eq_true h2]; cases n <;> rfl] at hw
      unfold S119
      rw [Int.toNat_natCast]
      exact hw
    · rw [cF h2]
      rw [show trimL s (n + 1) = n + 1 by unfold trimL; rw [decide_eq_false h2]; rfl] at hw
      exact hw
  · rw [cF h1]
    obtain rfl : z = 0 := by omega
    exact hw
theorem loop119 {n : Nat} (hn : 100 ≤ n) : LoopOk CB.G 0 (callO noTmps CB.O CB.tab n) n 100 20 0 b119 (ld119 P119 S119) := by
  refine loop_of CB YB0 (lh := fun _ => none) hn ?_ (fun p _ ld h => by cases h) ?_
  · exact wf_loops _ none (wf_body (f := 80) rfl) (0, b119) (by rw [show loopsIn none c80.body = [(0, b119)] from rfl]; exact List.mem_cons_self)
  intro vs ao m t hs rd k1 y w hw
  unfold ld119 at hs
  simp only at hs
  split at hs
  case h_2 => cases hs
  cases hs
  have hp := lt_need hw
  exact step119 _ _ _ _ _ _ hp.1 hp.2
def P184 (s : Txt) (c : Int) : Bool := decide (c = 0 ∧ s.length < 9223372036854775808)
def S184 (s : Txt) (c : Int) : Txt := trimS s
theorem step184 (s : Txt) (c : Int) (rd k1 : R.EK) (y : List (Nat × R.EK)) (w : R.DV × R.DH) (hp : P184 s c = true) (hw : (k1 (envZ [0] [R.DV.str (S184 s c)]) (mkD [] 0)).ev = some w) :
    (turnD CB YB0 (fun _ => none) 100 23 0 0 b184 (ld184 P184 S184) s.length [.str s, .int .u8 c] [] rd k1 y).ev = some w := by
  unfold P184 at hp
  rw [decide_eq_true_eq] at hp
  obtain ⟨rfl, p2⟩ := hp
  rw [turn184]
  unfold S184 trimS at hw
  by_cases h1 : 0 < (s.length : Int)
  · obtain ⟨n, hn⟩ : ∃ n : Nat, s.length = n + 1 := ⟨s.length - 1, by omega⟩
    have e1 : IntKind.wrap .i64 ((s.length : Int) - 1) = (n : Int) := by rw [show (s.length : Int) - 1 = (n : Int) by omega]; exact wrap_i64 (by omega) (by omega)
    rw [cT h1, e1, cA (by omega) (by omega), Int.toNat_natCast]
    rw [hn] at hw
    have hl : (s.take n).length = n := by rw [List.length_take]; omega
    by_cases h2 : ((s.getD n 0).toNat : Int) = 0
    · have hP : P184 (s.take n) 0 = true := by unfold P184; rw [decide_eq_true_eq]; omega
      rw [cT h2, cA (by omega) (by omega), cT (by omega), hP]
      rw [show trimL s (n + 1) = trimL s n by unfold trimL; rw [decide_eq_true h2]; cases n <;> rfl] at hw
      have e2 : S184 (s.take n) 0 = s.take (trimL s n) := by
        unfold S184 trimS
        rw [hl, trimL_take s n n (Nat.le_refl _), List.take_take, Nat.min_eq_left (trimL_le s n)]
      rw [e2]
      exact hw
    · rw [cF h2]
      rw [show trimL s (n + 1) = n + 1 by unfold trimL; rw [decide_eq_false h2]; rfl, List.take_of_length_le (by omega)] at hw
      exact hw
  · rw [cF h1]
    have h0 : s = [] := List.eq_nil_of_length_eq_zero (by omega)
    subst h0
    exact hw
theorem loop184 {n : Nat} (hn : 100 ≤ n) : LoopOk CB.G 0 (callO noTmps CB.O CB.tab n) n 100 23 0 b184 (ld184 P184 S184) := by
  refine loop_of CB YB0 (lh := fun _ => none) hn ?_ (fun p _ ld h => by cases h) ?_
  · exact wf_loops _ none (wf_body (f := 133) rfl) (0, b184) (by rw [show loopsIn none c133.body = [(0, b184)] from rfl]; exact List.mem_cons_self)
  intro vs ao m t hs rd k1 y w hw
  unfold ld184 at hs
  simp only at hs
  split at hs
  case h_2 => cases hs
  cases hs
  have hp := lt_need hw
  exact step184 _ _ _ _ _ _ hp.1 hp.2
end
end Go.Vm.YtdmlbojhfgimnaaGreatDoor
