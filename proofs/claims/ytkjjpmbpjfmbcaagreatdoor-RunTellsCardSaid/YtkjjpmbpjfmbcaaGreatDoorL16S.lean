/-
  The document's Same.
-/
import Derived.Test.YtkjjpmbpjfmbcaaGreatDoorL16R
set_option linter.unusedVariables false
set_option linter.unusedSimpArgs false
namespace Go.Vm.YtkjjpmbpjfmbcaaGreatDoor
open Go.Proofs Go.Vm.R
noncomputable section
def b25 : CC := lp (bl (at3 (fl (at3 (at3 c25.body)))))
def P25 (j n : Nat) (full : List Ent) (j1 n1 : Nat) (full1 : List Ent) (z : Int) : Bool := decide (n1 = n ∧ j + n ≤ full.length ∧ j1 + n1 ≤ full1.length ∧ n < 99 ∧ 0 ≤ z ∧ z ≤ n)
def S25 (j n : Nat) (full : List Ent) (j1 n1 : Nat) (full1 : List Ent) (z : Int) : Bool := decide ((seg full j n).drop z.toNat = (seg full1 j1 n1).drop z.toNat)
def lt25 (j n c : Nat) (ex : Bool) (j1 n1 c1 : Nat) (ex1 : Bool) (z : Int) (full full1 : List Ent) (sp sp1 : Bool) (el el1 : R.EL) : LT := .need (P25 j n full j1 n1 full1 z) (.br (S25 j n full j1 n1 full1 z) (.exit 0 [] [.r .ent full sp el, .r .ent full1 sp1 el1]) (.ret [.bool false] [.r .ent full sp el, .r .ent full1 sp1 el1]))
def ld25 : LoopD := ⟨[(0, none), (1, none), (5, none)], [], [(4, none)], fun vs ao => match vs, ao with
  | [.rs 0 j n c 2 ex, .rs 1 j1 n1 c1 2 ex1, .int .i64 z], [.r .ent full sp el, .r .ent full1 sp1 el1] => some (n - z.toNat, lt25 j n c ex j1 n1 c1 ex1 z full full1 sp sp1 el el1)
  | _, _ => none⟩
theorem turn25 (j n c : Nat) (ex : Bool) (j1 n1 c1 : Nat) (ex1 : Bool) (z : Int) (full full1 : List Ent) (sp sp1 : Bool) (el el1 : R.EL) (m : Nat) (rd k1 : R.EK) (y : List (Nat × R.EK)) :
    (turnD C Y0 (fun _ => none) 100 41 2 0 b25 ld25 m [.rs 0 j n c 2 ex, .rs 1 j1 n1 c1 2 ex1, .int .i64 z] [.r .ent full sp el, .r .ent full1 sp1 el1] rd k1 y).ev =
    cond (decide (z < (↑n : Int))) (cond (decide (0 ≤ z) && decide (Int.toNat z < n)) (cond (Nat.blt (j + Int.toNat z) (List.length full)) (cond (decide (0 ≤ z) && decide (Int.toNat z < n1)) (cond (Nat.blt (j1 + Int.toNat z) (List.length full1)) (cond (!decide (Prod.fst (List.getD full (j + Int.toNat z) (RK.zero RK.ent)) = Prod.fst (List.getD full1 (j1 + Int.toNat z) (RK.zero RK.ent)))) ((rd (envZ [4] [R.DV.bool false]) (mkD [DO.r RK.ent full sp el, DO.r RK.ent full1 sp1 el1] 2)).ev) (cond (decide (0 ≤ z) && decide (Int.toNat z < n)) (cond (Nat.blt (j + Int.toNat z) (List.length full)) (cond (decide (0 ≤ z) && decide (Int.toNat z < n1)) (cond (Nat.blt (j1 + Int.toNat z) (List.length full1)) (cond (!decide (Prod.snd (List.getD full (j + Int.toNat z) (RK.zero RK.ent)) = Prod.snd (List.getD full1 (j1 + Int.toNat z) (RK.zero RK.ent)))) ((rd (envZ [4] [R.DV.bool false]) (mkD [DO.r RK.ent full sp el, DO.r RK.ent full1 sp1 el1] 2)).ev) (cond (decide (n - Int.toNat (IntKind.wrap IntKind.i64 (z + 1)) < m)) (cond (P25 j n full j1 n1 full1 (IntKind.wrap IntKind.i64 (z + 1))) (cond (S25 j n full j1 n1 full1 (IntKind.wrap IntKind.i64 (z + 1))) ((k1 (envZ [] []) (mkD [DO.r RK.ent full sp el, DO.r RK.ent full1 sp1 el1] 2)).ev) ((rd (envZ [4] [R.DV.bool false]) (mkD [DO.r RK.ent full sp el, DO.r RK.ent full1 sp1 el1] 2)).ev)) none) none)) none) none) none) none)) none) none) none) none) ((k1 (envZ [] []) (mkD [DO.r RK.ent full sp el, DO.r RK.ent full1 sp1 el1] 2)).ev) := by kernel_rfl
theorem step25 (j n c : Nat) (ex : Bool) (j1 n1 c1 : Nat) (ex1 : Bool) (z : Int) (full full1 : List Ent) (sp sp1 : Bool) (el el1 : R.EL) (rd k1 : R.EK) (y : List (Nat × R.EK)) (w : R.DV × R.DH) (hw : ((lt25 j n c ex j1 n1 c1 ex1 z full full1 sp sp1 el el1).tree 2 ld25 rd ((0, k1) :: y)).ev = some w) :
    (turnD C Y0 (fun _ => none) 100 41 2 0 b25 ld25 (n - z.toNat) [.rs 0 j n c 2 ex, .rs 1 j1 n1 c1 2 ex1, .int .i64 z] [.r .ent full sp el, .r .ent full1 sp1 el1] rd k1 y).ev = some w := by
  replace hw := lt_need hw
  obtain ⟨hp, hw⟩ := hw
  simp only [P25, decide_eq_true_eq] at hp
  obtain ⟨rfl, p1, p2, p3, p4, p5⟩ := hp
  rw [lt_br] at hw
  replace hw : cond (S25 j n1 full j1 n1 full1 z) (k1 (envZ [] []) (mkD [DO.r RK.ent full sp el, DO.r RK.ent full1 sp1 el1] 2)).ev (rd (envZ [4] [R.DV.bool false]) (mkD [DO.r RK.ent full sp el, DO.r RK.ent full1 sp1 el1] 2)).ev = some w := hw
  rw [turn25]
  by_cases h1 : z < n1
  · have b1 : z.toNat < n1 := by omega
    have e4 : P25 j n1 full j1 n1 full1 (z + 1) = true := by
      simp only [P25, decide_eq_true_eq]
      refine ⟨trivial, p1, p2, p3, ?_, ?_⟩ <;> omega
    rw [cT h1, cA p4 b1, cB (show j + z.toNat < full.length by omega), cA p4 b1, cB (show j1 + z.toNat < full1.length by omega), cA p4 b1, cB (show j + z.toNat < full.length by omega), cA p4 b1, cB (show j1 + z.toNat < full1.length by omega), nextI p4 h1 (by omega), cT (show n1 - (z + 1).toNat < n1 - z.toNat by omega), e4]
    have e5 : S25 j n1 full j1 n1 full1 z = ((decide ((rec full j z).1 = (rec full1 j1 z).1) && (decide ((rec full j z).2 = (rec full1 j1 z).2) && true)) && S25 j n1 full j1 n1 full1 (z + 1)) := by
      unfold S25
      rw [seg_drop p1 p4 h1, seg_drop p2 p4 h1]
      rw [Bool.eq_iff_iff]
      simp only [decide_eq_true_eq, Bool.and_eq_true, List.cons.injEq, and_true, Prod.ext_iff]
    rw [e5] at hw
    revert hw
    show _ → cond (!decide ((rec full j z).1 = (rec full1 j1 z).1)) _ (cond (!decide ((rec full j z).2 = (rec full1 j1 z).2)) _ _) = _
    cases decide ((rec full j z).1 = (rec full1 j1 z).1) <;> cases decide ((rec full j z).2 = (rec full1 j1 z).2) <;> exact id
  · rw [cF h1]
    have e5 : S25 j n1 full j1 n1 full1 z = true := by
      unfold S25
      rw [seg_end p1 h1 p4, seg_end p2 h1 p4]; rfl
    rw [e5] at hw
    exact hw
theorem loop25 {n : Nat} (hn : 100 ≤ n) : LoopOk C.G 2 (callO noTmps C.O C.tab n) n 100 41 0 b25 ld25 := by
  refine loop_of C Y0 (lh := fun _ => none) hn ?_ (fun p _ ld h => by cases h) ?_
  · exact wf_lp (wf_bl (wf_at3 (wf_fl (wf_at3 (wf_at3 (wf_body (f := 25) rfl))))))
  intro vs ao m t hs rd k1 y w hw
  unfold ld25 at hs
  simp only at hs
  split at hs
  case h_2 => cases hs
  cases hs
  exact step25 _ _ _ _ _ _ _ _ _ _ _ _ _ _ _ _ _ _ _ hw
theorem run25 (j n c : Nat) (ex : Bool) (j1 n1 c1 : Nat) (ex1 : Bool) (full full1 : List Ent) (sp sp1 : Bool) (el el1 : R.EL) : runD C Y0 (lhX ld25) 100 c25 [.rs 0 j n c 2 ex, .rs 1 j1 n1 c1 2 ex1] [.r .ent full sp el, .r .ent full1 sp1 el1] =
    cond (!decide ((↑n : Int) = (↑n1 : Int))) (some (R.DV.bool false, (mkD [DO.r RK.ent full sp el, DO.r RK.ent full1 sp1 el1] 2))) (cond (decide (n - 0 < 100)) (cond (P25 j n full j1 n1 full1 0) (cond (S25 j n full j1 n1 full1 0) (some (R.DV.bool true, (mkD [DO.r RK.ent full sp el, DO.r RK.ent full1 sp1 el1] 2))) (some (R.DV.bool false, (mkD [DO.r RK.ent full sp el, DO.r RK.ent full1 sp1 el1] 2)))) none) none) := by kernel_rfl
theorem law25 (j n c : Nat) (ex : Bool) (j1 n1 c1 : Nat) (ex1 : Bool) (full full1 : List Ent) (sp sp1 : Bool) (el el1 : R.EL) : LawOk C.G C.O C.tab 25 101 [.r .ent full sp el, .r .ent full1 sp1 el1] [.rs 0 j n c 2 ex, .rs 1 j1 n1 c1 2 ex1] (out37 full j n full1 j1 n1) := by
  refine law_of C Y0 (lhX ld25) rfl rfl (fun n hn => lhX_ok (Q := fun i b ld => LoopOk C.G 2 (callO noTmps C.O C.tab n) n 100 41 i b ld) rfl (loop25 hn)) fun z hz => ?_
  obtain ⟨hp, hz⟩ := R.ev_need hz
  refine (run25 j n c ex j1 n1 c1 ex1 full full1 sp sp1 el el1).trans ?_
  simp only [Bool.and_eq_true, okN_iff] at hp
  obtain ⟨⟨p1, p2⟩, p3, p4⟩ := hp
  refine Eq.trans ?_ hz
  show _ = some (R.DV.bool (sameL (seg full j n) (seg full1 j1 n1)), mkD [DO.r RK.ent full sp el, DO.r RK.ent full1 sp1 el1] 2)
  by_cases h : n = n1
  · subst h
    have e4 : P25 j n full j1 n full1 0 = true := by
      simp only [P25, decide_eq_true_eq]
      refine ⟨trivial, p1, p3, p2, ?_, ?_⟩ <;> omega
    rw [show (!decide ((n : Int) = (n : Int))) = false by simp, cT (show n - 0 < 100 by omega), e4]
    have e5 : S25 j n full j1 n full1 0 = sameL (seg full j n) (seg full1 j1 n) := rfl
    rw [e5]
    cases sameL (seg full j n) (seg full1 j1 n) <;> rfl
  · have e5 : sameL (seg full j n) (seg full1 j1 n1) = false := by
      unfold sameL
      rw [decide_eq_false_iff_not]
      intro he
      have := congrArg List.length he
      rw [seg_len p1, seg_len p3] at this
      exact h this
    rw [show (!decide ((n : Int) = (n1 : Int))) = true by simp; omega, e5]; rfl
end
end Go.Vm.YtkjjpmbpjfmbcaaGreatDoor
