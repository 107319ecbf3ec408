/-
  The document's Size.
-/
import Derived.Test.YtkjjpmbpjfmbcaaGreatDoorL16Q
set_option linter.unusedVariables false
set_option linter.unusedSimpArgs false
namespace Go.Vm.YtkjjpmbpjfmbcaaGreatDoor
open Go.Proofs Go.Vm.R
noncomputable section
def b55 : CC := lp (bl (at3 (fl (at3 (at3 c55.body)))))
def P55 (j n : Nat) (full : List Ent) (s z : Int) : Bool := decide (j + n ≤ full.length ∧ n < 99 ∧ 0 ≤ z ∧ z ≤ n ∧ 0 ≤ s ∧ s + sizeL ((seg full j n).drop z.toNat) < 1152921504606846976)
def lt55 (j n c : Nat) (ex : Bool) (s z : Int) (full : List Ent) (sp : Bool) (el : R.EL) : LT := .need (P55 j n full s z) (.exit 0 [.int .i64 (S50 j n full s z)] [.r .ent full sp el])
def ld55 : LoopD := ⟨[(0, none), (3, none), (4, none)], [(3, none)], [], fun vs ao => match vs, ao with
  | [.rs 0 j n c 2 ex, .int .i64 s, .int .i64 z], [.r .ent full sp el] => some (n - z.toNat, lt55 j n c ex s z full sp el)
  | _, _ => none⟩
theorem turn55 (j n c : Nat) (ex : Bool) (s z : Int) (full : List Ent) (sp : Bool) (el : R.EL) (m : Nat) (rd k1 : R.EK) (y : List (Nat × R.EK)) :
    (turnD C Y0 (fun _ => none) 100 28 1 0 b55 ld55 m [.rs 0 j n c 2 ex, .int .i64 s, .int .i64 z] [.r .ent full sp el] rd k1 y).ev =
    cond (decide (z < (↑n : Int))) (cond (decide (0 ≤ z) && decide (Int.toNat z < n)) (cond (Nat.blt (j + Int.toNat z) (List.length full)) (cond (decide (0 ≤ z) && decide (Int.toNat z < n)) (cond (Nat.blt (j + Int.toNat z) (List.length full)) (cond (decide (n - Int.toNat (IntKind.wrap IntKind.i64 (z + 1)) < m)) (cond (P55 j n full (IntKind.wrap IntKind.i64 (IntKind.wrap IntKind.i64 (IntKind.wrap IntKind.i64 (s + (↑(List.length (Prod.fst (List.getD full (j + Int.toNat z) (RK.zero RK.ent)))) : Int)) + (↑(List.length (Prod.snd (List.getD full (j + Int.toNat z) (RK.zero RK.ent)))) : Int)) + 4)) (IntKind.wrap IntKind.i64 (z + 1))) ((k1 (envZ [3] [R.DV.int IntKind.i64 (S50 j n full (IntKind.wrap IntKind.i64 (IntKind.wrap IntKind.i64 (IntKind.wrap IntKind.i64 (s + (↑(List.length (Prod.fst (List.getD full (j + Int.toNat z) (RK.zero RK.ent)))) : Int)) + (↑(List.length (Prod.snd (List.getD full (j + Int.toNat z) (RK.zero RK.ent)))) : Int)) + 4)) (IntKind.wrap IntKind.i64 (z + 1)))]) (mkD [DO.r RK.ent full sp el] 1)).ev) none) none) none) none) none) none) ((k1 (envZ [3] [R.DV.int IntKind.i64 s]) (mkD [DO.r RK.ent full sp el] 1)).ev) := by kernel_rfl
theorem step55 (j n c : Nat) (ex : Bool) (s z : Int) (full : List Ent) (sp : Bool) (el : R.EL) (rd k1 : R.EK) (y : List (Nat × R.EK)) (w : R.DV × R.DH) (hw : ((lt55 j n c ex s z full sp el).tree 1 ld55 rd ((0, k1) :: y)).ev = some w) :
    (turnD C Y0 (fun _ => none) 100 28 1 0 b55 ld55 (n - z.toNat) [.rs 0 j n c 2 ex, .int .i64 s, .int .i64 z] [.r .ent full sp el] rd k1 y).ev = some w := by
  replace hw := lt_need hw
  obtain ⟨hp, hw⟩ := hw
  simp only [P55, decide_eq_true_eq] at hp
  obtain ⟨p1, p2, p3, p4, p5, p6⟩ := hp
  replace hw : (k1 (envZ [3] [R.DV.int IntKind.i64 (S50 j n full s z)]) (mkD [DO.r RK.ent full sp el] 1)).ev = some w := hw
  rw [turn55]
  unfold S50 at hw
  by_cases h1 : z < n
  · have b1 : z.toNat < n := by omega
    have e := seg_drop p1 p3 h1
    rw [e] at hw p6
    have q1 := sizeL_nn ((seg full j n).drop (z + 1).toNat)
    have q2 : sizeL (rec full j z :: (seg full j n).drop (z + 1).toNat) = size1 (rec full j z) + sizeL ((seg full j n).drop (z + 1).toNat) := rfl
    rw [q2] at hw p6
    have q3 : size1 (rec full j z) = ((rec full j z).1.length : Int) + ((rec full j z).2.length : Int) + 4 := rfl
    rw [cT h1, cA p3 b1, cB (show j + z.toNat < full.length by omega), cA p3 b1, cB (show j + z.toNat < full.length by omega), nextI p3 h1 (by omega), cT (by omega)]
    have e1 : IntKind.wrap IntKind.i64 (s + ((rec full j z).1.length : Int)) = s + ((rec full j z).1.length : Int) := wrap_i64 (by omega) (by omega)
    have e2 : IntKind.wrap IntKind.i64 (s + ((rec full j z).1.length : Int) + ((rec full j z).2.length : Int)) = s + ((rec full j z).1.length : Int) + ((rec full j z).2.length : Int) := wrap_i64 (by omega) (by omega)
    have e3 : IntKind.wrap IntKind.i64 (s + ((rec full j z).1.length : Int) + ((rec full j z).2.length : Int) + 4) = s + size1 (rec full j z) := (wrap_i64 (by omega) (by omega)).trans (by omega)
    have e4 : P55 j n full (s + size1 (rec full j z)) (z + 1) = true := by
      simp only [P55, decide_eq_true_eq]
      refine ⟨p1, p2, ?_, ?_, ?_, ?_⟩ <;> omega
    show cond (P55 j n full (IntKind.wrap IntKind.i64 (IntKind.wrap IntKind.i64 (IntKind.wrap IntKind.i64 (s + ((rec full j z).1.length : Int)) + ((rec full j z).2.length : Int)) + 4)) (z + 1)) (k1 (envZ [3] [R.DV.int IntKind.i64 (S50 j n full (IntKind.wrap IntKind.i64 (IntKind.wrap IntKind.i64 (IntKind.wrap IntKind.i64 (s + ((rec full j z).1.length : Int)) + ((rec full j z).2.length : Int)) + 4)) (z + 1))]) (mkD [DO.r RK.ent full sp el] 1)).ev none = some w
    rw [e1, e2, e3, e4]
    unfold S50
    rw [show s + size1 (rec full j z) + sizeL ((seg full j n).drop (z + 1).toNat) = s + (size1 (rec full j z) + sizeL ((seg full j n).drop (z + 1).toNat)) by omega]
    exact hw
  · rw [cF h1]
    rw [seg_end p1 h1 p3, show s + sizeL [] = s by simp [sizeL]] at hw
    exact hw
theorem loop55 {n : Nat} (hn : 100 ≤ n) : LoopOk C.G 1 (callO noTmps C.O C.tab n) n 100 28 0 b55 ld55 := by
  refine loop_of C Y0 (lh := fun _ => none) hn ?_ (fun p _ ld h => by cases h) ?_
  · exact wf_lp (wf_bl (wf_at3 (wf_fl (wf_at3 (wf_at3 (wf_body (f := 55) rfl))))))
  intro vs ao m t hs rd k1 y w hw
  unfold ld55 at hs
  simp only at hs
  split at hs
  case h_2 => cases hs
  cases hs
  exact step55 _ _ _ _ _ _ _ _ _ _ _ _ _ hw
theorem run55 (j n c : Nat) (ex : Bool) (full : List Ent) (sp : Bool) (el : R.EL) : runD C Y0 (lhX ld55) 100 c55 [.rs 0 j n c 2 ex] [.r .ent full sp el] =
    cond (decide (n - 0 < 100)) (cond (P55 j n full 0 0) (some (R.DV.int IntKind.i64 (S50 j n full 0 0), (mkD [DO.r RK.ent full sp el] 1))) none) none := by kernel_rfl
theorem law55 (j n c : Nat) (ex : Bool) (full : List Ent) (sp : Bool) (el : R.EL) : LawOk C.G C.O C.tab 55 101 [.r .ent full sp el] [.rs 0 j n c 2 ex] (out50 full j n) := by
  refine law_of C Y0 (lhX ld55) rfl rfl (fun n hn => lhX_ok (Q := fun i b ld => LoopOk C.G 1 (callO noTmps C.O C.tab n) n 100 28 i b ld) rfl (loop55 hn)) fun z hz => ?_
  obtain ⟨hp, hz⟩ := R.ev_need hz
  refine (run55 j n c ex full sp el).trans ?_
  simp only [okZ, decide_eq_true_eq] at hp
  obtain ⟨p1, p2, p3⟩ := hp
  have e4 : P55 j n full 0 0 = true := by
    simp only [P55, decide_eq_true_eq]
    refine ⟨p1, p2, ?_, ?_, ?_, ?_⟩ <;> first | omega | (show 0 + sizeL (seg full j n) < _; omega)
  rw [cT (show n - 0 < 100 by omega), e4]
  refine Eq.trans ?_ hz
  show some (R.DV.int .i64 (0 + sizeL (seg full j n)), _) = some _
  rw [Int.zero_add]; rfl
end
end Go.Vm.YtkjjpmbpjfmbcaaGreatDoor
