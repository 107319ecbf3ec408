/-
  The document's Check.
-/
import Derived.Test.YtkjjpmbpjfmbcaaGreatDoorL16T
import Derived.Test.YtkjjpmbpjfmbcaaGreatDoorL16M
set_option linter.unusedVariables false
set_option linter.unusedSimpArgs false
namespace Go.Vm.YtkjjpmbpjfmbcaaGreatDoor
open Go.Proofs Go.Vm.R
noncomputable section
def b54 : CC := lp (bl (at3 (fl (at3 c54.body))))
def lt54 (j n c : Nat) (ex : Bool) (z : Int) (full : List Ent) (sp : Bool) (el : R.EL) : LT := .need (P52 j n full z) (.br (S27 j n full z) (.exit 0 [] [.r .ent full sp el]) (.ret [.int .i64 4] [.r .ent full sp el]))
def ld54 : LoopD := ⟨[(0, none), (3, none)], [], [(2, none)], fun vs ao => match vs, ao with
  | [.rs 0 j n c 2 ex, .int .i64 z], [.r .ent full sp el] => some (n - z.toNat, lt54 j n c ex z full sp el)
  | _, _ => none⟩
theorem turn54 (j n c : Nat) (ex : Bool) (z : Int) (full : List Ent) (sp : Bool) (el : R.EL) (m : Nat) (rd k1 : R.EK) (y : List (Nat × R.EK)) :
    (turnD C Y0 (fun _ => none) 100 51 1 0 b54 ld54 m [.rs 0 j n c 2 ex, .int .i64 z] [.r .ent full sp el] rd k1 y).ev =
    cond (decide (z < (↑n : Int))) (cond (decide (0 ≤ z) && decide (Int.toNat z < n)) (cond (Nat.blt (j + Int.toNat z) (List.length full)) (cond (decide ((↑(List.length (Prod.fst (List.getD full (j + Int.toNat z) (RK.zero RK.ent)))) : Int) < 1)) ((rd (envZ [2] [R.DV.int IntKind.i64 4]) (mkD [DO.r RK.ent full sp el] 1)).ev) (cond (decide (0 ≤ z) && decide (Int.toNat z < n)) (cond (Nat.blt (j + Int.toNat z) (List.length full)) (cond (decide (108 < (↑(List.length (Prod.fst (List.getD full (j + Int.toNat z) (RK.zero RK.ent)))) : Int))) ((rd (envZ [2] [R.DV.int IntKind.i64 4]) (mkD [DO.r RK.ent full sp el] 1)).ev) (cond (decide (0 ≤ z) && decide (Int.toNat z < n)) (cond (Nat.blt (j + Int.toNat z) (List.length full)) (cond (decide (64 < (↑(List.length (Prod.snd (List.getD full (j + Int.toNat z) (RK.zero RK.ent)))) : Int))) ((rd (envZ [2] [R.DV.int IntKind.i64 4]) (mkD [DO.r RK.ent full sp el] 1)).ev) (cond (decide (0 < z)) (cond (decide (0 ≤ z) && decide (Int.toNat z < n)) (cond (Nat.blt (j + Int.toNat z) (List.length full)) (cond (decide (0 ≤ IntKind.wrap IntKind.i64 (z - 1)) && decide (Int.toNat (IntKind.wrap IntKind.i64 (z - 1)) < n)) (cond (Nat.blt (j + Int.toNat (IntKind.wrap IntKind.i64 (z - 1))) (List.length full)) (cond (Op.bytesLess (Prod.fst (List.getD full (j + Int.toNat z) (RK.zero RK.ent))) (Prod.fst (List.getD full (j + Int.toNat (IntKind.wrap IntKind.i64 (z - 1))) (RK.zero RK.ent))) || decide (Prod.fst (List.getD full (j + Int.toNat z) (RK.zero RK.ent)) = Prod.fst (List.getD full (j + Int.toNat (IntKind.wrap IntKind.i64 (z - 1))) (RK.zero RK.ent)))) ((rd (envZ [2] [R.DV.int IntKind.i64 4]) (mkD [DO.r RK.ent full sp el] 1)).ev) (cond (decide (n - Int.toNat (IntKind.wrap IntKind.i64 (z + 1)) < m)) (cond (P52 j n full (IntKind.wrap IntKind.i64 (z + 1))) (cond (S27 j n full (IntKind.wrap IntKind.i64 (z + 1))) ((k1 (envZ [] []) (mkD [DO.r RK.ent full sp el] 1)).ev) ((rd (envZ [2] [R.DV.int IntKind.i64 4]) (mkD [DO.r RK.ent full sp el] 1)).ev)) none) none)) none) none) none) none) (cond (decide (n - Int.toNat (IntKind.wrap IntKind.i64 (z + 1)) < m)) (cond (P52 j n full (IntKind.wrap IntKind.i64 (z + 1))) (cond (S27 j n full (IntKind.wrap IntKind.i64 (z + 1))) ((k1 (envZ [] []) (mkD [DO.r RK.ent full sp el] 1)).ev) ((rd (envZ [2] [R.DV.int IntKind.i64 4]) (mkD [DO.r RK.ent full sp el] 1)).ev)) none) none))) none) none)) none) none)) none) none) ((k1 (envZ [] []) (mkD [DO.r RK.ent full sp el] 1)).ev) := by kernel_rfl
/-- not above, as told the other way round -/
theorem leq_not (a b : List UInt8) : (Op.bytesLess a b || decide (a = b)) = !Op.bytesLess b a := by
  cases h : Op.bytesLess b a with
  | true =>
    have h1 : Op.bytesLess a b = false := by
      cases h2 : Op.bytesLess a b with
      | false => rfl
      | true => have := less_trans _ _ _ h h2; rw [less_irrefl] at this; cases this
    have h3 : decide (a = b) = false := by
      rw [decide_eq_false_iff_not]; rintro rfl; rw [less_irrefl] at h; cases h
    rw [h1, h3]; rfl
  | false =>
    cases h2 : Op.bytesLess a b with
    | true => rfl
    | false => rw [decide_eq_true (less_total _ _ h2 h)]; rfl
theorem step54 (j n c : Nat) (ex : Bool) (z : Int) (full : List Ent) (sp : Bool) (el : R.EL) (rd k1 : R.EK) (y : List (Nat × R.EK)) (w : R.DV × R.DH) (hw : ((lt54 j n c ex z full sp el).tree 1 ld54 rd ((0, k1) :: y)).ev = some w) :
    (turnD C Y0 (fun _ => none) 100 51 1 0 b54 ld54 (n - z.toNat) [.rs 0 j n c 2 ex, .int .i64 z] [.r .ent full sp el] rd k1 y).ev = some w := by
  replace hw := lt_need hw
  obtain ⟨hp, hw⟩ := hw
  simp only [P52, decide_eq_true_eq] at hp
  obtain ⟨p1, p2, p3, p4⟩ := hp
  rw [lt_br] at hw
  replace hw : cond (S27 j n full z) (k1 (envZ [] []) (mkD [DO.r RK.ent full sp el] 1)).ev (rd (envZ [2] [R.DV.int IntKind.i64 4]) (mkD [DO.r RK.ent full sp el] 1)).ev = some w := hw
  rw [turn54]
  unfold S27 at hw
  by_cases h1 : z < n
  · have b1 : z.toNat < n := by omega
    have e4 : P52 j n full (z + 1) = true := by
      simp only [P52, decide_eq_true_eq]
      refine ⟨p1, p2, ?_, ?_⟩ <;> omega
    have e5 : S27 j n full (z + 1) = chkL (some (rec full j z)) ((seg full j n).drop (z + 1).toNat) := by
      unfold S27 before
      rw [if_pos (by omega), show z + 1 - 1 = z by omega]
    have cz : (decide (0 ≤ z) && decide (z.toNat < n)) = true := by rw [decide_eq_true p3, decide_eq_true b1]; rfl
    have cz2 : Nat.blt (j + z.toNat) full.length = true := by
      have : j + z.toNat < full.length := by omega
      simpa using this
    rw [cT h1, nextI p3 h1 (by omega), e4, e5, cT (show n - (z + 1).toNat < n - z.toNat by omega), cz, cz2]
    rw [seg_drop p1 p3 h1] at hw
    rw [show chkL (before full j z) (rec full j z :: (seg full j n).drop (z + 1).toNat) = cond (decide ((rec full j z).1 = [])) false (cond (decide (108 < ((rec full j z).1.length : Int))) false (cond (decide (64 < ((rec full j z).2.length : Int))) false (cond (rises (before full j z) (rec full j z)) (chkL (some (rec full j z)) ((seg full j n).drop (z + 1).toNat)) false))) from rfl] at hw
    have a0 : decide (((rec full j z).1.length : Int) < 1) = decide ((rec full j z).1 = []) := by
      rw [Bool.eq_iff_iff, decide_eq_true_eq, decide_eq_true_eq, ← List.length_eq_zero_iff]; omega
    show cond (decide (((rec full j z).1.length : Int) < 1)) _ _ = _
    rw [a0]
    by_cases a1 : (rec full j z).1 = []
    · rw [cT a1] at hw; exact (cT a1).trans hw
    rw [cF a1] at hw; refine (cF a1).trans ?_
    by_cases a2 : 108 < ((rec full j z).1.length : Int)
    · rw [cT a2] at hw; exact (cT a2).trans hw
    rw [cF a2] at hw; refine (cF a2).trans ?_
    by_cases a3 : 64 < ((rec full j z).2.length : Int)
    · rw [cT a3] at hw; exact (cT a3).trans hw
    rw [cF a3] at hw; refine (cF a3).trans ?_
    by_cases h2 : 0 < z
    · have ew : IntKind.wrap IntKind.i64 (z - 1) = z - 1 := wrap_i64 (by omega) (by omega)
      rw [cT h2, ew, cA (show 0 ≤ z - 1 by omega) (show (z - 1).toNat < n by omega), cB (show j + (z - 1).toNat < full.length by omega)]
      have eb : before full j z = some (rec full j (z - 1)) := if_pos h2
      rw [eb] at hw
      show cond (Op.bytesLess (rec full j z).1 (rec full j (z - 1)).1 || decide ((rec full j z).1 = (rec full j (z - 1)).1)) _ _ = _
      rw [leq_not]
      have ea : rises (some (rec full j (z - 1))) (rec full j z) = Op.bytesLess (rec full j (z - 1)).1 (rec full j z).1 := rfl
      rw [ea] at hw
      revert hw
      cases Op.bytesLess (rec full j (z - 1)).1 (rec full j z).1 <;> exact id
    · rw [cF h2]
      have eb : before full j z = none := if_neg h2
      rw [eb] at hw
      exact hw
  · rw [cF h1]
    rw [seg_end p1 h1 p3] at hw
    exact hw
theorem loop54 {n : Nat} (hn : 100 ≤ n) : LoopOk C.G 1 (callO noTmps C.O C.tab n) n 100 51 0 b54 ld54 := by
  refine loop_of C Y0 (lh := fun _ => none) hn ?_ (fun p _ ld h => by cases h) ?_
  · exact wf_lp (wf_bl (wf_at3 (wf_fl (wf_at3 (wf_body (f := 54) rfl)))))
  intro vs ao m t hs rd k1 y w hw
  unfold ld54 at hs
  simp only at hs
  split at hs
  case h_2 => cases hs
  cases hs
  exact step54 _ _ _ _ _ _ _ _ _ _ _ _ hw
theorem run54 (j n c : Nat) (ex : Bool) (full : List Ent) (sp : Bool) (el : R.EL) : runD C Y0 (lhX ld54) 100 c54 [.rs 0 j n c 2 ex] [.r .ent full sp el] =
    cond (decide (n - 0 < 100)) (cond (P52 j n full 0) (cond (S27 j n full 0) (some (R.DV.int IntKind.i64 0, (mkD [DO.r RK.ent full sp el] 1))) (some (R.DV.int IntKind.i64 4, (mkD [DO.r RK.ent full sp el] 1)))) none) none := by kernel_rfl
theorem law54 (j n c : Nat) (ex : Bool) (full : List Ent) (sp : Bool) (el : R.EL) : LawOk C.G C.O C.tab 54 101 [.r .ent full sp el] [.rs 0 j n c 2 ex] (out27 full j n) := by
  refine law_of C Y0 (lhX ld54) rfl rfl (fun n hn => lhX_ok (Q := fun i b ld => LoopOk C.G 1 (callO noTmps C.O C.tab n) n 100 51 i b ld) rfl (loop54 hn)) fun z hz => ?_
  obtain ⟨hp, hz⟩ := R.ev_need hz
  refine (run54 j n c ex full sp el).trans ?_
  obtain ⟨p1, p2⟩ := okN_iff.1 hp
  have e4 : P52 j n full 0 = true := by
    simp only [P52, decide_eq_true_eq]
    refine ⟨p1, p2, ?_, ?_⟩ <;> omega
  rw [e4, cT (show n - 0 < 100 by omega)]
  have e5 : S27 j n full 0 = chkB (seg full j n) := rfl
  rw [e5]
  refine Eq.trans ?_ hz
  show _ = (R.Tree.br (chkB (seg full j n)) (.ok _ _) (.ok _ _)).ev
  rw [ev_br]
  cases chkB (seg full j n) <;> rfl
end
end Go.Vm.YtkjjpmbpjfmbcaaGreatDoor
