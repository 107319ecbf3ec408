/-
  RunHalves.
-/
import Derived.Test.YtkjjpmbpjfmbcaaGreatDoorL16E
set_option linter.unusedVariables false
set_option linter.unusedSimpArgs false
namespace Go.Vm.YtkjjpmbpjfmbcaaGreatDoor
open Go.Proofs Go.Vm.R
noncomputable section
/-- the larger of two -/
def mx1 (s e : Int) : Int := if true = true then if e > s then e else s else if e < s then e else s
def mxL : Int → List Ent → Int
  | s, [] => s
  | s, e :: r => mxL (mx1 s (size1 e)) r
theorem mx1_ge (s e : Int) : s ≤ mx1 s e ∧ e ≤ mx1 s e ∧ (mx1 s e = s ∨ mx1 s e = e) := by
  unfold mx1
  rw [if_pos rfl]
  split <;> omega
theorem mxL_ge : ∀ (l : List Ent) (s : Int), s ≤ mxL s l
  | [], s => Int.le_refl _
  | e :: r, s => by
    have h1 := mxL_ge r (mx1 s (size1 e))
    have h2 := mx1_ge s (size1 e)
    show s ≤ mxL (mx1 s (size1 e)) r
    omega
theorem mxL_mem : ∀ (l : List Ent) (s : Int) (e : Ent), e ∈ l → size1 e ≤ mxL s l
  | a :: r, s, e, h => by
    show size1 e ≤ mxL (mx1 s (size1 a)) r
    rcases List.mem_cons.1 h with rfl | h
    · have h1 := mxL_ge r (mx1 s (size1 e))
      have h2 := mx1_ge s (size1 e)
      omega
    · exact mxL_mem r _ e h
theorem mxL_le : ∀ (l : List Ent) (s : Int), 0 ≤ s → mxL s l ≤ s + sizeL l
  | [], s, h => by show s ≤ s + 0; omega
  | e :: r, s, h => by
    have h2 := mx1_ge s (size1 e)
    have h3 := size1_pos e
    have h1 := mxL_le r (mx1 s (size1 e)) (by omega)
    show mxL (mx1 s (size1 e)) r ≤ s + (size1 e + sizeL r)
    omega

def b10 : CC := lp (bl (at3 (fl (at3 (at3 (at3 (at3 (at3 (at3 c10.body)))))))))
def P10 (j n c : Nat) (full : List Ent) (s z : Int) : Bool := decide (j + n ≤ full.length ∧ n < 99 ∧ n ≤ c ∧ 0 ≤ z ∧ z ≤ n ∧ sizeL ((seg full j n).drop z.toNat) < 1152921504606846976)
def S10 (j n : Nat) (full : List Ent) (s z : Int) : Int := mxL s ((seg full j n).drop z.toNat)
def lt10 (j n c : Nat) (ex : Bool) (j1 n1 c1 : Nat) (ex1 : Bool) (j2 n2 c2 : Nat) (ex2 : Bool) (s z : Int) (full full1 full2 : List Ent) (sp sp1 sp2 : Bool) (el el1 el2 : R.EL) : LT := .need (P10 j n c full s z) (.exit 0 [.rs 0 j n c 2 ex, .rs 1 j1 n1 c1 2 ex1, .rs 2 j2 n2 c2 2 ex2, .int .i64 (S10 j n full s z)] [.r .ent full sp el, .r .ent full1 sp1 el1, .r .ent full2 sp2 el2])
def ld10 : LoopD := ⟨[(0, none), (3, none), (4, none), (6, none), (7, none)], [(0, none), (3, none), (4, none), (6, none)], [], fun vs ao => match vs, ao with
  | [.rs 0 j n c 2 ex, .rs 1 j1 n1 c1 2 ex1, .rs 2 j2 n2 c2 2 ex2, .int .i64 s, .int .i64 z], [.r .ent full sp el, .r .ent full1 sp1 el1, .r .ent full2 sp2 el2] => some (n - z.toNat, lt10 j n c ex j1 n1 c1 ex1 j2 n2 c2 ex2 s z full full1 full2 sp sp1 sp2 el el1 el2)
  | _, _ => none⟩
theorem turn10 (j n c : Nat) (ex : Bool) (j1 n1 c1 : Nat) (ex1 : Bool) (j2 n2 c2 : Nat) (ex2 : Bool) (s z : Int) (full full1 full2 : List Ent) (sp sp1 sp2 : Bool) (el el1 el2 : R.EL) (m : Nat) (rd k1 : R.EK) (y : List (Nat × R.EK)) :
    (turnD C Y2 (fun _ => none) 120 94 1 0 b10 ld10 m [.rs 0 j n c 2 ex, .rs 1 j1 n1 c1 2 ex1, .rs 2 j2 n2 c2 2 ex2, .int .i64 s, .int .i64 z] [.r .ent full sp el, .r .ent full1 sp1 el1, .r .ent full2 sp2 el2] rd k1 y).ev =
    cond (decide (z < (↑n : Int))) (cond (decide (0 ≤ IntKind.wrap IntKind.i64 (z + 1)) && (decide (0 ≤ z) && (decide (c ≤ c) && (decide (Int.toNat (IntKind.wrap IntKind.i64 (z + 1)) ≤ c) && (decide (Int.toNat z ≤ Int.toNat (IntKind.wrap IntKind.i64 (z + 1))) && true))))) (cond (okZ full (j + Int.toNat z) (Int.toNat (IntKind.wrap IntKind.i64 (z + 1)) - Int.toNat z)) (cond (decide (n - Int.toNat (IntKind.wrap IntKind.i64 (z + 1)) < m)) (cond (P10 j n c full (mx1 s (sizeL (seg full (j + Int.toNat z) (Int.toNat (IntKind.wrap IntKind.i64 (z + 1)) - Int.toNat z)))) (IntKind.wrap IntKind.i64 (z + 1))) ((k1 (envZ [0, 3, 4, 6] [DV.rs 0 j n c 2 ex, DV.rs 1 j1 n1 c1 2 ex1, DV.rs 2 j2 n2 c2 2 ex2, R.DV.int IntKind.i64 (S10 j n full (mx1 s (sizeL (seg full (j + Int.toNat z) (Int.toNat (IntKind.wrap IntKind.i64 (z + 1)) - Int.toNat z)))) (IntKind.wrap IntKind.i64 (z + 1)))]) (mkD [DO.r RK.ent full sp el, DO.r RK.ent full1 sp1 el1, DO.r RK.ent full2 sp2 el2] 1)).ev) none) none) none) none) ((k1 (envZ [0, 3, 4, 6] [DV.rs 0 j n c 2 ex, DV.rs 1 j1 n1 c1 2 ex1, DV.rs 2 j2 n2 c2 2 ex2, R.DV.int IntKind.i64 s]) (mkD [DO.r RK.ent full sp el, DO.r RK.ent full1 sp1 el1, DO.r RK.ent full2 sp2 el2] 1)).ev) := by kernel_rfl
theorem step10 (j n c : Nat) (ex : Bool) (j1 n1 c1 : Nat) (ex1 : Bool) (j2 n2 c2 : Nat) (ex2 : Bool) (s z : Int) (full full1 full2 : List Ent) (sp sp1 sp2 : Bool) (el el1 el2 : R.EL) (rd k1 : R.EK) (y : List (Nat × R.EK)) (w : R.DV × R.DH) (hw : ((lt10 j n c ex j1 n1 c1 ex1 j2 n2 c2 ex2 s z full full1 full2 sp sp1 sp2 el el1 el2).tree 1 ld10 rd ((0, k1) :: y)).ev = some w) :
    (turnD C Y2 (fun _ => none) 120 94 1 0 b10 ld10 (n - z.toNat) [.rs 0 j n c 2 ex, .rs 1 j1 n1 c1 2 ex1, .rs 2 j2 n2 c2 2 ex2, .int .i64 s, .int .i64 z] [.r .ent full sp el, .r .ent full1 sp1 el1, .r .ent full2 sp2 el2] rd k1 y).ev = some w := by
  replace hw := lt_need hw
  obtain ⟨hp, hw⟩ := hw
  simp only [P10, decide_eq_true_eq] at hp
  obtain ⟨p1, p2, pc, p3, p4, p6⟩ := hp
  replace hw : (k1 (envZ [0, 3, 4, 6] [R.DV.rs 0 j n c 2 ex, R.DV.rs 1 j1 n1 c1 2 ex1, R.DV.rs 2 j2 n2 c2 2 ex2, R.DV.int IntKind.i64 (S10 j n full s z)]) (mkD [DO.r RK.ent full sp el, DO.r RK.ent full1 sp1 el1, DO.r RK.ent full2 sp2 el2] 1)).ev = some w := hw
  rw [turn10]
  unfold S10 at hw
  by_cases h1 : z < n
  · have b1 : z.toNat < n := by omega
    have e := seg_drop p1 p3 h1
    rw [e] at hw p6
    have q1 := sizeL_nn ((seg full j n).drop (z + 1).toNat)
    have q2 : sizeL (rec full j z :: (seg full j n).drop (z + 1).toNat) = size1 (rec full j z) + sizeL ((seg full j n).drop (z + 1).toNat) := rfl
    rw [q2] at p6
    have q3 := size1_pos (rec full j z)
    have e1 : (z + 1).toNat - z.toNat = 1 := by omega
    rw [cT h1, nextI p3 h1 (by omega), e1, seg_one p1 p3 h1]
    have e2 : sizeL [rec full j z] = size1 (rec full j z) := by simp [sizeL]
    have e4 : P10 j n c full (mx1 s (size1 (rec full j z))) (z + 1) = true := by
      simp only [P10, decide_eq_true_eq]
      refine ⟨p1, p2, pc, ?_, ?_, ?_⟩ <;> omega
    have e5 : okZ full (j + z.toNat) 1 = true := by
      simp only [okZ, decide_eq_true_eq]
      rw [seg_one p1 p3 h1, e2]
      refine ⟨?_, ?_, ?_⟩ <;> omega
    have e6 : (decide (0 ≤ z + 1) && (decide (0 ≤ z) && (decide (c ≤ c) && (decide ((z + 1).toNat ≤ c) && (decide (z.toNat ≤ (z + 1).toNat) && true))))) = true := by
      rw [decide_eq_true (show 0 ≤ z + 1 by omega), decide_eq_true p3, decide_eq_true (Nat.le_refl c), decide_eq_true (show (z + 1).toNat ≤ c by omega), decide_eq_true (show z.toNat ≤ (z + 1).toNat by omega)]; rfl
    rw [e2, e4, e5, e6, cT (show n - (z + 1).toNat < n - z.toNat by omega)]
    exact hw
  · rw [cF h1]
    rw [seg_end p1 h1 p3] at hw
    exact hw
theorem loop10 {n : Nat} (hn : 120 ≤ n) : LoopOk C.G 1 (callO noTmps C.O C.tab n) n 120 94 0 b10 ld10 := by
  refine loop_of C Y2 (lh := fun _ => none) hn ?_ (fun p _ ld h => by cases h) ?_
  · exact wf_lp (wf_bl (wf_at3 (wf_fl (wf_at3 (wf_at3 (wf_at3 (wf_at3 (wf_at3 (wf_at3 (wf_body (f := 10) rfl))))))))))
  intro vs ao m t hs rd k1 y w hw
  unfold ld10 at hs
  simp only at hs
  split at hs
  case h_2 => cases hs
  cases hs
  exact step10 _ _ _ _ _ _ _ _ _ _ _ _ _ _ _ _ _ _ _ _ _ _ _ _ _ _ _ hw
end
end Go.Vm.YtkjjpmbpjfmbcaaGreatDoor
