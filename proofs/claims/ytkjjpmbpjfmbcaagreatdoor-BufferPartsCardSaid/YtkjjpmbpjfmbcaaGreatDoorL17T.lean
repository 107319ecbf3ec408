/-
  Layer 17: BufferParts: its two clearing loops.
-/
import Derived.Test.YtkjjpmbpjfmbcaaGreatDoorL17S
set_option linter.unusedVariables false
set_option linter.unusedSimpArgs false
namespace Go.Vm.YtkjjpmbpjfmbcaaGreatDoor
open Go.Proofs Go.Vm.R
noncomputable section
def b3a : CC := match loopsIn none c3.body with | (_, b) :: _ => b | _ => .skip
def b3b : CC := match loopsIn none c3.body with | [_, (_, b)] => b | _ => .skip
def lt3a (j n c : Nat) (ex : Bool) (j1 n1 c1 : Nat) (ex1 : Bool) (m k : Nat) (z : Int) (full own out rest : List Msg) (sp osp : Bool) (el oel : R.EL) : LT :=
  .need (Nat.beq k rest.length && decide (0 ≤ z ∧ k < 200)) (.exit 0 [.rs 0 j n c 4 ex, .rs 1 j1 n1 c1 4 ex1, .ns 2 m 4] [.r .msg full sp el, .r .msg own osp oel, .rn .msg out 31])
def ld3a : LoopD := ⟨[(0, none), (5, none), (7, some (.msg, 31)), (11, some (.msg, 31)), (16, none)], [(0, none), (5, none), (7, some (.msg, 31))], [], fun vs ao => match vs, ao with
  | [.rs 0 j n c 4 ex, .rs 1 j1 n1 c1 4 ex1, .ns 2 m 4, .ns 3 k 4, .int .i64 z], [.r .msg full sp el, .r .msg own osp oel, .rn .msg out 31, .rn .msg rest 31] => some (k - z.toNat, lt3a j n c ex j1 n1 c1 ex1 m k z full own out rest sp osp el oel)
  | _, _ => none⟩
def lt3b (j n c : Nat) (ex : Bool) (j1 n1 c1 : Nat) (ex1 : Bool) (k : Nat) (z : Int) (full own out : List Msg) (sp osp : Bool) (el oel : R.EL) : LT :=
  .need (Nat.beq k out.length && decide (0 ≤ z ∧ k < 200)) (.exit 2 [.rs 0 j n c 4 ex, .rs 1 j1 n1 c1 4 ex1] [.r .msg full sp el, .r .msg own osp oel])
def ld3b : LoopD := ⟨[(0, none), (5, none), (7, some (.msg, 31)), (17, none)], [(0, none), (5, none)], [], fun vs ao => match vs, ao with
  | [.rs 0 j n c 4 ex, .rs 1 j1 n1 c1 4 ex1, .ns 2 k 4, .int .i64 z], [.r .msg full sp el, .r .msg own osp oel, .rn .msg out 31] => some (k - z.toNat, lt3b j n c ex j1 n1 c1 ex1 k z full own out sp osp el oel)
  | _, _ => none⟩
theorem turn3a (j n c : Nat) (ex : Bool) (j1 n1 c1 : Nat) (ex1 : Bool) (m : Nat) (z : Int) (full own out rest : List Msg) (sp osp : Bool) (el oel : R.EL) (mm : Nat) (rd k1 : R.EK) (y : List (Nat × R.EK)) :
    (turnD C Y4 (fun _ => none) 410 120 1 0 b3a ld3a mm [.rs 0 j n c 4 ex, .rs 1 j1 n1 c1 4 ex1, .ns 2 m 4, .ns 3 rest.length 4, .int .i64 z] [.r .msg full sp el, .r .msg own osp oel, .rn .msg out 31, .rn .msg rest 31] rd k1 y).ev =
    cond (Nat.ble (List.length rest) (List.length rest)) (cond (decide (z < (↑(List.length rest) : Int))) (cond (Nat.ble (List.length rest) (List.length rest)) (cond (decide (0 ≤ z) && decide (Int.toNat z < List.length rest)) (cond (Nat.blt (Int.toNat z) (List.length rest) && true) (cond (decide (List.length rest - Int.toNat (IntKind.wrap IntKind.i64 (z + 1)) < mm)) (cond (Nat.beq (List.length rest) (List.length (List.set rest (Int.toNat z) (0, [], [], []))) && decide (0 ≤ IntKind.wrap IntKind.i64 (z + 1) ∧ List.length rest < 200)) ((k1 (envZ [0, 5, 7] [DV.rs 0 j n c 4 ex, DV.rs 1 j1 n1 c1 4 ex1, DV.ns 2 m 4]) (mkD [DO.r RK.msg full sp el, DO.r RK.msg own osp oel, DO.rn RK.msg out 31] 1)).ev) none) none) none) none) none) ((k1 (envZ [0, 5, 7] [DV.rs 0 j n c 4 ex, DV.rs 1 j1 n1 c1 4 ex1, DV.ns 2 m 4]) (mkD [DO.r RK.msg full sp el, DO.r RK.msg own osp oel, DO.rn RK.msg out 31] 1)).ev)) none := by kernel_rfl
theorem turn3b (j n c : Nat) (ex : Bool) (j1 n1 c1 : Nat) (ex1 : Bool) (z : Int) (full own out : List Msg) (sp osp : Bool) (el oel : R.EL) (mm : Nat) (rd k1 : R.EK) (y : List (Nat × R.EK)) :
    (turnD C Y4 (fun _ => none) 410 120 1 2 b3b ld3b mm [.rs 0 j n c 4 ex, .rs 1 j1 n1 c1 4 ex1, .ns 2 out.length 4, .int .i64 z] [.r .msg full sp el, .r .msg own osp oel, .rn .msg out 31] rd k1 y).ev =
    cond (Nat.ble (List.length out) (List.length out)) (cond (decide (z < (↑(List.length out) : Int))) (cond (Nat.ble (List.length out) (List.length out)) (cond (decide (0 ≤ z) && decide (Int.toNat z < List.length out)) (cond (Nat.blt (Int.toNat z) (List.length out) && true) (cond (decide (List.length out - Int.toNat (IntKind.wrap IntKind.i64 (z + 1)) < mm)) (cond (Nat.beq (List.length out) (List.length (List.set out (Int.toNat z) (0, [], [], []))) && decide (0 ≤ IntKind.wrap IntKind.i64 (z + 1) ∧ List.length out < 200)) ((k1 (envZ [0, 5] [DV.rs 0 j n c 4 ex, DV.rs 1 j1 n1 c1 4 ex1]) (mkD [DO.r RK.msg full sp el, DO.r RK.msg own osp oel] 1)).ev) none) none) none) none) none) ((k1 (envZ [0, 5] [DV.rs 0 j n c 4 ex, DV.rs 1 j1 n1 c1 4 ex1]) (mkD [DO.r RK.msg full sp el, DO.r RK.msg own osp oel] 1)).ev)) none := by kernel_rfl
theorem step3a (j n c : Nat) (ex : Bool) (j1 n1 c1 : Nat) (ex1 : Bool) (m : Nat) (z : Int) (full own out rest : List Msg) (sp osp : Bool) (el oel : R.EL) (rd k1 : R.EK) (y : List (Nat × R.EK)) (w : R.DV × R.DH) (hw : ((lt3a j n c ex j1 n1 c1 ex1 m rest.length z full own out rest sp osp el oel).tree 1 ld3a rd ((0, k1) :: y)).ev = some w) :
    (turnD C Y4 (fun _ => none) 410 120 1 0 b3a ld3a (rest.length - z.toNat) [.rs 0 j n c 4 ex, .rs 1 j1 n1 c1 4 ex1, .ns 2 m 4, .ns 3 rest.length 4, .int .i64 z] [.r .msg full sp el, .r .msg own osp oel, .rn .msg out 31, .rn .msg rest 31] rd k1 y).ev = some w := by
  replace hw := lt_need hw
  obtain ⟨hp, hw⟩ := hw
  rw [Nat.beq_refl, Bool.true_and, decide_eq_true_eq] at hp
  obtain ⟨p3, p4⟩ := hp
  replace hw : (k1 (envZ [0, 5, 7] [.rs 0 j n c 4 ex, .rs 1 j1 n1 c1 4 ex1, .ns 2 m 4]) (mkD [.r .msg full sp el, .r .msg own osp oel, .rn .msg out 31] 1)).ev = some w := hw
  rw [turn3a]
  have lO : Nat.ble rest.length rest.length = true := Nat.ble_eq_true_of_le (Nat.le_refl _)
  rw [lO]
  by_cases h1 : z < (rest.length : Int)
  · have cz : (decide (0 ≤ z) && decide (z.toNat < rest.length)) = true := by rw [decide_eq_true p3, decide_eq_true (show z.toNat < rest.length by omega)]; rfl
    have cz2 : Nat.blt z.toNat rest.length = true := by
      have : z.toNat < rest.length := by omega
      simpa using this
    rw [cT h1, nextI p3 h1 (by omega), cz, cz2, List.length_set, Nat.beq_refl, decide_eq_true (show rest.length - (z + 1).toNat < rest.length - z.toNat by omega), decide_eq_true (show 0 ≤ z + 1 ∧ rest.length < 200 from ⟨by omega, p4⟩)]
    exact hw
  · rw [cF h1]
    exact hw
theorem loop3a {n : Nat} (hn : 410 ≤ n) : LoopOk C.G 1 (callO noTmps C.O C.tab n) n 410 120 0 b3a ld3a := by
  refine loop_of C Y4 (lh := fun _ => none) hn ?_ (fun p _ ld h => by cases h) ?_
  · exact wf_loops _ none (wf_body (f := 3) rfl) (0, b3a) (by rw [show loopsIn none c3.body = [(0, b3a), (2, b3b)] from rfl]; simp)
  intro vs ao m t hs rd k1 y w hw
  unfold ld3a at hs
  simp only at hs
  split at hs
  case h_2 => cases hs
  cases hs
  have hp := (lt_need hw).1
  simp only [Bool.and_eq_true] at hp
  obtain ⟨h1, _⟩ := hp
  have h1 := Nat.eq_of_beq_eq_true h1
  subst h1
  exact step3a _ _ _ _ _ _ _ _ _ _ _ _ _ _ _ _ _ _ _ _ _ _ hw
theorem step3b (j n c : Nat) (ex : Bool) (j1 n1 c1 : Nat) (ex1 : Bool) (z : Int) (full own out : List Msg) (sp osp : Bool) (el oel : R.EL) (rd k1 : R.EK) (y : List (Nat × R.EK)) (w : R.DV × R.DH) (hw : ((lt3b j n c ex j1 n1 c1 ex1  out.length z full own out sp osp el oel).tree 1 ld3b rd ((2, k1) :: y)).ev = some w) :
    (turnD C Y4 (fun _ => none) 410 120 1 2 b3b ld3b (out.length - z.toNat) [.rs 0 j n c 4 ex, .rs 1 j1 n1 c1 4 ex1, .ns 2 out.length 4, .int .i64 z] [.r .msg full sp el, .r .msg own osp oel, .rn .msg out 31] rd k1 y).ev = some w := by
  replace hw := lt_need hw
  obtain ⟨hp, hw⟩ := hw
  rw [Nat.beq_refl, Bool.true_and, decide_eq_true_eq] at hp
  obtain ⟨p3, p4⟩ := hp
  replace hw : (k1 (envZ [0, 5] [.rs 0 j n c 4 ex, .rs 1 j1 n1 c1 4 ex1]) (mkD [.r .msg full sp el, .r .msg own osp oel] 1)).ev = some w := hw
  rw [turn3b]
  have lO : Nat.ble out.length out.length = true := Nat.ble_eq_true_of_le (Nat.le_refl _)
  rw [lO]
  by_cases h1 : z < (out.length : Int)
  · have cz : (decide (0 ≤ z) && decide (z.toNat < out.length)) = true := by rw [decide_eq_true p3, decide_eq_true (show z.toNat < out.length by omega)]; rfl
    have cz2 : Nat.blt z.toNat out.length = true := by
      have : z.toNat < out.length := by omega
      simpa using this
    rw [cT h1, nextI p3 h1 (by omega), cz, cz2, List.length_set, Nat.beq_refl, decide_eq_true (show out.length - (z + 1).toNat < out.length - z.toNat by omega), decide_eq_true (show 0 ≤ z + 1 ∧ out.length < 200 from ⟨by omega, p4⟩)]
    exact hw
  · rw [cF h1]
    exact hw
theorem loop3b {n : Nat} (hn : 410 ≤ n) : LoopOk C.G 1 (callO noTmps C.O C.tab n) n 410 120 2 b3b ld3b := by
  refine loop_of C Y4 (lh := fun _ => none) hn ?_ (fun p _ ld h => by cases h) ?_
  · exact wf_loops _ none (wf_body (f := 3) rfl) (2, b3b) (by rw [show loopsIn none c3.body = [(0, b3a), (2, b3b)] from rfl]; simp)
  intro vs ao m t hs rd k1 y w hw
  unfold ld3b at hs
  simp only at hs
  split at hs
  case h_2 => cases hs
  cases hs
  have hp := (lt_need hw).1
  simp only [Bool.and_eq_true] at hp
  obtain ⟨h1, _⟩ := hp
  have h1 := Nat.eq_of_beq_eq_true h1
  subst h1
  exact step3b _ _ _ _ _ _ _ _ _ _ _ _ _ _ _ _ _ _ _ _ hw
def lh3 : Nat → Option LoopD := fun i => match i with
  | 0 => some ld3a
  | 2 => some ld3b
  | _ => none
theorem loops3 {n : Nat} (hn : 410 ≤ n) : ∀ p ∈ loopsIn none c3.body, ∀ ld, lh3 p.1 = some ld → LoopOk C.G 1 (callO noTmps C.O C.tab n) n 410 120 p.1 p.2 ld := by
  rw [show loopsIn none c3.body = [(0, b3a), (2, b3b)] from rfl]
  intro p hp ld he
  rw [List.mem_cons, List.mem_singleton] at hp
  rcases hp with rfl | rfl
  · cases he; exact loop3a hn
  · cases he; exact loop3b hn
end
end Go.Vm.YtkjjpmbpjfmbcaaGreatDoor
