/-
  Layer 17: the document's Same.
-/
import Derived.Test.YtkjjpmbpjfmbcaaGreatDoorL17D
set_option linter.unusedVariables false
set_option linter.unusedSimpArgs false
namespace Go.Vm.YtkjjpmbpjfmbcaaGreatDoor
open Go.Proofs Go.Vm.R
noncomputable section
def sameL (a b : List Msg) : Bool := decide (a = b)
def out37 (full : List Msg) (j n : Nat) (full1 : List Msg) (j1 n1 : Nat) : RD := .need (okG full j n && okG full1 j1 n1) (.v (.bool (sameL (seg full j n) (seg full1 j1 n1))) [])
def out37n (full : List Msg) (j n : Nat) : RD := .need (okG full j n) (.v (.bool (Nat.beq n 0)) [])
def b21 : CC := match loopsIn none c21.body with | [(_, b)] => b | _ => .skip
def P21 (j n : Nat) (full : List Msg) (j1 n1 : Nat) (full1 : List Msg) (z : Int) : Bool := decide (n1 = n ∧ j + n ≤ full.length ∧ j1 + n1 ≤ full1.length ∧ n < 99 ∧ 0 ≤ z ∧ z ≤ n)
def S21 (j n : Nat) (full : List Msg) (j1 n1 : Nat) (full1 : List Msg) (z : Int) : Bool := decide ((seg full j n).drop z.toNat = (seg full1 j1 n1).drop z.toNat)
def lt21 (j n c : Nat) (ex : Bool) (j1 n1 c1 : Nat) (ex1 : Bool) (z : Int) (full full1 : List Msg) (sp sp1 : Bool) (el el1 : R.EL) : LT := .need (P21 j n full j1 n1 full1 z) (.br (S21 j n full j1 n1 full1 z) (.exit 0 [] [.r .msg full sp el, .r .msg full1 sp1 el1]) (.ret [.bool false] [.r .msg full sp el, .r .msg full1 sp1 el1]))
def ld21 : LoopD := ⟨[(0, none), (1, none), (5, none)], [], [(4, none)], fun vs ao => match vs, ao with
  | [.rs 0 j n c 4 ex, .rs 1 j1 n1 c1 4 ex1, .int .i64 z], [.r .msg full sp el, .r .msg full1 sp1 el1] => some (n - z.toNat, lt21 j n c ex j1 n1 c1 ex1 z full full1 sp sp1 el el1)
  | _, _ => none⟩
theorem turn21 (j n c : Nat) (ex : Bool) (j1 n1 c1 : Nat) (ex1 : Bool) (z : Int) (full full1 : List Msg) (sp sp1 : Bool) (el el1 : R.EL) (m : Nat) (rd k1 : R.EK) (y : List (Nat × R.EK)) :
    (turnD C Y0 (fun _ => none) 100 26 2 0 b21 ld21 m [.rs 0 j n c 4 ex, .rs 1 j1 n1 c1 4 ex1, .int .i64 z] [.r .msg full sp el, .r .msg full1 sp1 el1] rd k1 y).ev =
    cond (decide (z < (↑n : Int))) (cond (decide (0 ≤ z) && decide (Int.toNat z < n)) (cond (Nat.blt (j + Int.toNat z) (List.length full)) (cond (decide (0 ≤ z) && decide (Int.toNat z < n1)) (cond (Nat.blt (j1 + Int.toNat z) (List.length full1)) (cond ((decide (Prod.fst (List.getD full (j + Int.toNat z) (RK.zero RK.msg)) = Prod.fst (List.getD full1 (j1 + Int.toNat z) (RK.zero RK.msg))) && (decide (Prod.fst (Prod.snd (List.getD full (j + Int.toNat z) (RK.zero RK.msg))) = Prod.fst (Prod.snd (List.getD full1 (j1 + Int.toNat z) (RK.zero RK.msg)))) && (decide (Prod.fst (Prod.snd (Prod.snd (List.getD full (j + Int.toNat z) (RK.zero RK.msg)))) = Prod.fst (Prod.snd (Prod.snd (List.getD full1 (j1 + Int.toNat z) (RK.zero RK.msg))))) && (decide (Prod.snd (Prod.snd (Prod.snd (List.getD full (j + Int.toNat z) (RK.zero RK.msg)))) = Prod.snd (Prod.snd (Prod.snd (List.getD full1 (j1 + Int.toNat z) (RK.zero RK.msg))))) && true)))) != true) ((rd (envZ [4] [R.DV.bool false]) (mkD [DO.r RK.msg full sp el, DO.r RK.msg full1 sp1 el1] 2)).ev) (cond (decide (n - Int.toNat (IntKind.wrap IntKind.i64 (z + 1)) < m)) (cond (P21 j n full j1 n1 full1 (IntKind.wrap IntKind.i64 (z + 1))) (cond (S21 j n full j1 n1 full1 (IntKind.wrap IntKind.i64 (z + 1))) ((k1 (envZ [] []) (mkD [DO.r RK.msg full sp el, DO.r RK.msg full1 sp1 el1] 2)).ev) ((rd (envZ [4] [R.DV.bool false]) (mkD [DO.r RK.msg full sp el, DO.r RK.msg full1 sp1 el1] 2)).ev)) none) none)) none) none) none) none) ((k1 (envZ [] []) (mkD [DO.r RK.msg full sp el, DO.r RK.msg full1 sp1 el1] 2)).ev) := by kernel_rfl
theorem step21 (j n c : Nat) (ex : Bool) (j1 n1 c1 : Nat) (ex1 : Bool) (z : Int) (full full1 : List Msg) (sp sp1 : Bool) (el el1 : R.EL) (rd k1 : R.EK) (y : List (Nat × R.EK)) (w : R.DV × R.DH) (hw : ((lt21 j n c ex j1 n1 c1 ex1 z full full1 sp sp1 el el1).tree 2 ld21 rd ((0, k1) :: y)).ev = some w) :
    (turnD C Y0 (fun _ => none) 100 26 2 0 b21 ld21 (n - z.toNat) [.rs 0 j n c 4 ex, .rs 1 j1 n1 c1 4 ex1, .int .i64 z] [.r .msg full sp el, .r .msg full1 sp1 el1] rd k1 y).ev = some w := by
  replace hw := lt_need hw
  obtain ⟨hp, hw⟩ := hw
  simp only [P21, decide_eq_true_eq] at hp
  obtain ⟨rfl, p1, p2, p3, p4, p5⟩ := hp
  rw [lt_br] at hw
  replace hw : cond (S21 j n1 full j1 n1 full1 z) (k1 (envZ [] []) (mkD [DO.r RK.msg full sp el, DO.r RK.msg full1 sp1 el1] 2)).ev (rd (envZ [4] [R.DV.bool false]) (mkD [DO.r RK.msg full sp el, DO.r RK.msg full1 sp1 el1] 2)).ev = some w := hw
  rw [turn21]
  by_cases h1 : z < n1
  · have b1 : z.toNat < n1 := by omega
    have e4 : P21 j n1 full j1 n1 full1 (z + 1) = true := by
      simp only [P21, decide_eq_true_eq]
      refine ⟨trivial, p1, p2, p3, ?_, ?_⟩ <;> omega
    rw [cT h1, cA p4 b1, cB (show j + z.toNat < full.length by omega), cA p4 b1, cB (show j1 + z.toNat < full1.length by omega), nextI p4 h1 (by omega), cT (show n1 - (z + 1).toNat < n1 - z.toNat by omega), e4]
    have e5 : S21 j n1 full j1 n1 full1 z = ((decide ((rec full j z).1 = (rec full1 j1 z).1) && (decide ((rec full j z).2.1 = (rec full1 j1 z).2.1) && (decide ((rec full j z).2.2.1 = (rec full1 j1 z).2.2.1) && (decide ((rec full j z).2.2.2 = (rec full1 j1 z).2.2.2) && true)))) && S21 j n1 full j1 n1 full1 (z + 1)) := by
      unfold S21
      rw [seg_rec p1 p4 h1, seg_rec p2 p4 h1]
      rw [Bool.eq_iff_iff]
      simp only [decide_eq_true_eq, Bool.and_eq_true, List.cons.injEq, and_true, Prod.ext_iff]
    rw [e5] at hw
    revert hw
    show _ → cond ((decide ((rec full j z).1 = (rec full1 j1 z).1) && (decide ((rec full j z).2.1 = (rec full1 j1 z).2.1) && (decide ((rec full j z).2.2.1 = (rec full1 j1 z).2.2.1) && (decide ((rec full j z).2.2.2 = (rec full1 j1 z).2.2.2) && true)))) != true) _ _ = _
    cases decide ((rec full j z).1 = (rec full1 j1 z).1) && (decide ((rec full j z).2.1 = (rec full1 j1 z).2.1) && (decide ((rec full j z).2.2.1 = (rec full1 j1 z).2.2.1) && (decide ((rec full j z).2.2.2 = (rec full1 j1 z).2.2.2) && true))) <;> exact id
  · rw [cF h1]
    have e5 : S21 j n1 full j1 n1 full1 z = true := by
      unfold S21
      rw [seg_end p1 h1 p4, seg_end p2 h1 p4]; rfl
    rw [e5] at hw
    exact hw
theorem loop21 {n : Nat} (hn : 100 ≤ n) : LoopOk C.G 2 (callO noTmps C.O C.tab n) n 100 26 0 b21 ld21 := by
  refine loop_of C Y0 (lh := fun _ => none) hn ?_ (fun p _ ld h => by cases h) ?_
  · exact wf_loops _ none (wf_body (f := 21) rfl) (0, b21) (by rw [show loopsIn none c21.body = [(0, b21)] from rfl]; exact List.mem_cons_self)
  intro vs ao m t hs rd k1 y w hw
  unfold ld21 at hs
  simp only at hs
  split at hs
  case h_2 => cases hs
  cases hs
  exact step21 _ _ _ _ _ _ _ _ _ _ _ _ _ _ _ _ _ _ _ hw
theorem run21 (j n c : Nat) (ex : Bool) (j1 n1 c1 : Nat) (ex1 : Bool) (full full1 : List Msg) (sp sp1 : Bool) (el el1 : R.EL) : runD C Y0 (lhX ld21) 100 c21 [.rs 0 j n c 4 ex, .rs 1 j1 n1 c1 4 ex1] [.r .msg full sp el, .r .msg full1 sp1 el1] =
    cond (!decide ((↑n : Int) = (↑n1 : Int))) (some (R.DV.bool false, (mkD [DO.r RK.msg full sp el, DO.r RK.msg full1 sp1 el1] 2))) (cond (decide (n - 0 < 100)) (cond (P21 j n full j1 n1 full1 0) (cond (S21 j n full j1 n1 full1 0) (some (R.DV.bool true, (mkD [DO.r RK.msg full sp el, DO.r RK.msg full1 sp1 el1] 2))) (some (R.DV.bool false, (mkD [DO.r RK.msg full sp el, DO.r RK.msg full1 sp1 el1] 2)))) none) none) := by kernel_rfl
theorem lawS (j n c : Nat) (ex : Bool) (j1 n1 c1 : Nat) (ex1 : Bool) (full full1 : List Msg) (sp sp1 : Bool) (el el1 : R.EL) : LawOk C.G C.O C.tab 21 101 [.r .msg full sp el, .r .msg full1 sp1 el1] [.rs 0 j n c 4 ex, .rs 1 j1 n1 c1 4 ex1] (out37 full j n full1 j1 n1) := by
  refine law_of C Y0 (lhX ld21) rfl rfl (fun n hn => lhX_ok (Q := fun i b ld => LoopOk C.G 2 (callO noTmps C.O C.tab n) n 100 26 i b ld) rfl (loop21 hn)) fun z hz => ?_
  obtain ⟨hp, hz⟩ := R.ev_need hz
  refine (run21 j n c ex j1 n1 c1 ex1 full full1 sp sp1 el el1).trans ?_
  simp only [Bool.and_eq_true, okG_iff] at hp
  obtain ⟨⟨p1, p2⟩, p3, p4⟩ := hp
  refine Eq.trans ?_ hz
  show _ = some (R.DV.bool (sameL (seg full j n) (seg full1 j1 n1)), mkD [DO.r RK.msg full sp el, DO.r RK.msg full1 sp1 el1] 2)
  by_cases h : n = n1
  · subst h
    have e4 : P21 j n full j1 n full1 0 = true := by
      simp only [P21, decide_eq_true_eq]
      refine ⟨trivial, p1, p3, p2, ?_, ?_⟩ <;> omega
    rw [show (!decide ((n : Int) = (n : Int))) = false by simp, cT (show n - 0 < 100 by omega), e4]
    have e5 : S21 j n full j1 n full1 0 = sameL (seg full j n) (seg full1 j1 n) := rfl
    rw [e5]
    cases sameL (seg full j n) (seg full1 j1 n) <;> rfl
  · have e5 : sameL (seg full j n) (seg full1 j1 n1) = false := by
      unfold sameL
      rw [decide_eq_false_iff_not]
      intro he
      have := congrArg List.length he
      rw [seg_len p1, seg_len p3] at this
      exact h this
    rw [show (!decide ((n : Int) = (n1 : Int))) = true by simp; omega, e5]; rfl
theorem lawSn : LawOk C.G C.O C.tab 21 101 [] [.nils, .nils] (.v (.bool true) []) := by
  refine law_of C Y0 (fun _ => none) rfl rfl (fun n hn p _ ld e => by cases e) fun z hz => ?_
  refine Eq.trans ?_ hz
  kernel_rfl
theorem run21nl (j n c : Nat) (ex : Bool) (full : List Msg) (sp : Bool) (el : R.EL) : runD C Y0 (fun _ => none) 100 c21 [.nils, .rs 0 j n c 4 ex] [.r .msg full sp el] =
    cond (!decide ((0 : Int) = (n : Int))) (some (R.DV.bool false, (mkD [DO.r RK.msg full sp el] 1))) (some (R.DV.bool true, (mkD [DO.r RK.msg full sp el] 1))) := by kernel_rfl
theorem lawSnl (j n c : Nat) (ex : Bool) (full : List Msg) (sp : Bool) (el : R.EL) : LawOk C.G C.O C.tab 21 101 [.r .msg full sp el] [.nils, .rs 0 j n c 4 ex] (out37n full j n) := by
  refine law_of C Y0 (fun _ => none) rfl rfl (fun n hn p _ ld e => by cases e) fun z hz => ?_
  obtain ⟨hp, hz⟩ := R.ev_need hz
  refine (run21nl j n c ex full sp el).trans (Eq.trans ?_ hz)
  show _ = some (R.DV.bool (Nat.beq n 0), mkD [DO.r RK.msg full sp el] 1)
  cases n with
  | zero => rfl
  | succ m => rw [show (!decide ((0 : Int) = ((m + 1 : Nat) : Int))) = true by simp; omega]; rfl
theorem run21nr (j n c : Nat) (ex : Bool) (full : List Msg) (sp : Bool) (el : R.EL) : runD C Y0 (fun _ => none) 100 c21 [.rs 0 j n c 4 ex, .nils] [.r .msg full sp el] =
    cond (!decide ((n : Int) = (0 : Int))) (some (R.DV.bool false, (mkD [DO.r RK.msg full sp el] 1))) (cond (decide ((0 : Int) < (n : Int))) (cond (decide (0 < n)) (cond (Nat.blt (j + 0) full.length) none none) none) (some (R.DV.bool true, (mkD [DO.r RK.msg full sp el] 1)))) := by kernel_rfl
theorem lawSnr (j n c : Nat) (ex : Bool) (full : List Msg) (sp : Bool) (el : R.EL) : LawOk C.G C.O C.tab 21 101 [.r .msg full sp el] [.rs 0 j n c 4 ex, .nils] (out37n full j n) := by
  refine law_of C Y0 (fun _ => none) rfl rfl (fun n hn p _ ld e => by cases e) fun z hz => ?_
  obtain ⟨hp, hz⟩ := R.ev_need hz
  refine (run21nr j n c ex full sp el).trans (Eq.trans ?_ hz)
  show _ = some (R.DV.bool (Nat.beq n 0), mkD [DO.r RK.msg full sp el] 1)
  cases n with
  | zero => rfl
  | succ m => rw [show (!decide (((m + 1 : Nat) : Int) = (0 : Int))) = true by simp; omega]; rfl
end
end Go.Vm.YtkjjpmbpjfmbcaaGreatDoor
