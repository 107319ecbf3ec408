/-
  The law of Check.
-/
import Derived.Test.YtkjjpmbpjfmbcaaGreatDoorL16D
set_option linter.unusedVariables false
set_option linter.unusedSimpArgs false
namespace Go.Vm.YtkjjpmbpjfmbcaaGreatDoor
open Go.Proofs Go.Vm.R
noncomputable section
def rises : Option Ent → Ent → Bool
  | none, _ => true
  | some p, e => Op.bytesLess p.1 e.1
/-- may these entries follow that one? -/
def chkL : Option Ent → List Ent → Bool
  | _, [] => true
  | p, e :: r => cond (decide (e.1 = [])) false (cond (decide (108 < (e.1.length : Int))) false (cond (decide (64 < (e.2.length : Int))) false (cond (rises p e) (chkL (some e) r) false)))
def before (full : List Ent) (j : Nat) (z : Int) : Option Ent := if 0 < z then some (rec full j (z - 1)) else none
def b27 : CC := lp (bl (at3 (fl (at3 c27.body))))
def P27 (j n : Nat) (full : List Ent) (n' z : Int) : Bool := decide (n' = n ∧ j + n ≤ full.length ∧ n < 99 ∧ 0 ≤ z ∧ z ≤ n)
def S27 (j n : Nat) (full : List Ent) (z : Int) : Bool := chkL (before full j z) ((seg full j n).drop z.toNat)
def lt27 (j n c : Nat) (ex : Bool) (j1 n1 c1 : Nat) (ex1 : Bool) (n' z : Int) (full : List Ent) (sp : Bool) (el : R.EL) : LT := .need (Nat.beq j1 j && (Nat.beq n1 n && P27 j n full n' z)) (.br (S27 j n full z) (.exit 0 [] [.r .ent full sp el]) (.ret [.int .i64 4] [.r .ent full sp el]))
def ld27 : LoopD := ⟨[(0, none), (5, none), (6, none), (7, none)], [], [(2, none)], fun vs ao => match vs, ao with
  | [.rs 0 j n c 2 ex, .rs 0 j1 n1 c1 2 ex1, .int .i64 n', .int .i64 z], [.r .ent full sp el] => some (n - z.toNat, lt27 j n c ex j1 n1 c1 ex1 n' z full sp el)
  | _, _ => none⟩
theorem turn27 (j n c : Nat) (ex : Bool) (c1 : Nat) (ex1 : Bool) (n' z : Int) (full : List Ent) (sp : Bool) (el : R.EL) (m : Nat) (rd k1 : R.EK) (y : List (Nat × R.EK)) :
    (turnD C Y0 (fun _ => none) 100 43 1 0 b27 ld27 m [.rs 0 j n c 2 ex, .rs 0 j n c1 2 ex1, .int .i64 n', .int .i64 z] [.r .ent full sp el] rd k1 y).ev =
    cond (decide (z < n')) (cond (decide (0 ≤ z) && decide (Int.toNat z < n)) (cond (Nat.blt (j + Int.toNat z) (List.length full)) (cond (decide (Prod.fst (List.getD full (j + Int.toNat z) (RK.zero RK.ent)) = [])) ((rd (envZ [2] [R.DV.int IntKind.i64 4]) (mkD [DO.r RK.ent full sp el] 1)).ev) (cond (decide (108 < (↑(List.length (Prod.fst (List.getD full (j + Int.toNat z) (RK.zero RK.ent)))) : Int))) ((rd (envZ [2] [R.DV.int IntKind.i64 4]) (mkD [DO.r RK.ent full sp el] 1)).ev) (cond (decide (64 < (↑(List.length (Prod.snd (List.getD full (j + Int.toNat z) (RK.zero RK.ent)))) : Int))) ((rd (envZ [2] [R.DV.int IntKind.i64 4]) (mkD [DO.r RK.ent full sp el] 1)).ev) (cond (decide (0 < z)) (cond (decide (0 ≤ IntKind.wrap IntKind.i64 (z - 1)) && decide (Int.toNat (IntKind.wrap IntKind.i64 (z - 1)) < n)) (cond (Nat.blt (j + Int.toNat (IntKind.wrap IntKind.i64 (z - 1))) (List.length full)) (cond (!Op.bytesLess (Prod.fst (List.getD full (j + Int.toNat (IntKind.wrap IntKind.i64 (z - 1))) (RK.zero RK.ent))) (Prod.fst (List.getD full (j + Int.toNat z) (RK.zero RK.ent)))) ((rd (envZ [2] [R.DV.int IntKind.i64 4]) (mkD [DO.r RK.ent full sp el] 1)).ev) (cond (decide (n - Int.toNat (IntKind.wrap IntKind.i64 (z + 1)) < m)) (cond (Nat.beq j j && (Nat.beq n n && P27 j n full n' (IntKind.wrap IntKind.i64 (z + 1)))) (cond (S27 j n full (IntKind.wrap IntKind.i64 (z + 1))) ((k1 (envZ [] []) (mkD [DO.r RK.ent full sp el] 1)).ev) ((rd (envZ [2] [R.DV.int IntKind.i64 4]) (mkD [DO.r RK.ent full sp el] 1)).ev)) none) none)) none) none) (cond (decide (n - Int.toNat (IntKind.wrap IntKind.i64 (z + 1)) < m)) (cond (Nat.beq j j && (Nat.beq n n && P27 j n full n' (IntKind.wrap IntKind.i64 (z + 1)))) (cond (S27 j n full (IntKind.wrap IntKind.i64 (z + 1))) ((k1 (envZ [] []) (mkD [DO.r RK.ent full sp el] 1)).ev) ((rd (envZ [2] [R.DV.int IntKind.i64 4]) (mkD [DO.r RK.ent full sp el] 1)).ev)) none) none))))) none) none) ((k1 (envZ [] []) (mkD [DO.r RK.ent full sp el] 1)).ev) := by kernel_rfl
theorem step27 (j n c : Nat) (ex : Bool) (c1 : Nat) (ex1 : Bool) (n' z : Int) (full : List Ent) (sp : Bool) (el : R.EL) (rd k1 : R.EK) (y : List (Nat × R.EK)) (w : R.DV × R.DH) (hw : ((lt27 j n c ex j n c1 ex1 n' z full sp el).tree 1 ld27 rd ((0, k1) :: y)).ev = some w) :
    (turnD C Y0 (fun _ => none) 100 43 1 0 b27 ld27 (n - z.toNat) [.rs 0 j n c 2 ex, .rs 0 j n c1 2 ex1, .int .i64 n', .int .i64 z] [.r .ent full sp el] rd k1 y).ev = some w := by
  replace hw := lt_need hw
  obtain ⟨hp, hw⟩ := hw
  have hjj : Nat.beq j j = true := Nat.beq_refl j
  have hnn : Nat.beq n n = true := Nat.beq_refl n
  rw [hjj, hnn] at hp
  simp only [Bool.true_and, P27, decide_eq_true_eq] at hp
  obtain ⟨rfl, p1, p2, p3, p4⟩ := hp
  rw [lt_br] at hw
  replace hw : cond (S27 j n full z) (k1 (envZ [] []) (mkD [DO.r RK.ent full sp el] 1)).ev (rd (envZ [2] [R.DV.int IntKind.i64 4]) (mkD [DO.r RK.ent full sp el] 1)).ev = some w := hw
  rw [turn27, hjj, hnn]
  unfold S27 at hw
  by_cases h1 : z < n
  · have b1 : z.toNat < n := by omega
    have e4 : P27 j n full n (z + 1) = true := by
      simp only [P27, decide_eq_true_eq]
      refine ⟨trivial, p1, p2, ?_, ?_⟩ <;> omega
    have e5 : S27 j n full (z + 1) = chkL (some (rec full j z)) ((seg full j n).drop (z + 1).toNat) := by
      unfold S27 before
      rw [if_pos (by omega), show z + 1 - 1 = z by omega]
    rw [cT h1, cA p3 b1, cB (show j + z.toNat < full.length by omega), nextI p3 h1 (by omega), e4, e5, cT (show n - (z + 1).toNat < n - z.toNat by omega)]
    rw [seg_drop p1 p3 h1] at hw
    rw [show chkL (before full j z) (rec full j z :: (seg full j n).drop (z + 1).toNat) = cond (decide ((rec full j z).1 = [])) false (cond (decide (108 < ((rec full j z).1.length : Int))) false (cond (decide (64 < ((rec full j z).2.length : Int))) false (cond (rises (before full j z) (rec full j z)) (chkL (some (rec full j z)) ((seg full j n).drop (z + 1).toNat)) false))) from rfl] at hw
    by_cases a1 : (rec full j z).1 = []
    · rw [cT a1] at hw; exact (cT a1).trans hw
    rw [cF a1] at hw; refine (cF a1).trans ?_
    by_cases a2 : 108 < ((rec full j z).1.length : Int)
    · rw [cT a2] at hw; exact (cT a2).trans hw
    rw [cF a2] at hw; refine (cF a2).trans ?_
    by_cases a3 : 64 < ((rec full j z).2.length : Int)
    · rw [cT a3] at hw; exact (cT a3).trans hw
    rw [cF a3] at hw; refine (cF a3).trans ?_
    by_cases h2 : 0 < z
    · have ew : IntKind.wrap IntKind.i64 (z - 1) = z - 1 := wrap_i64 (by omega) (by omega)
      rw [cT h2, ew, cA (show 0 ≤ z - 1 by omega) (show (z - 1).toNat < n by omega), cB (show j + (z - 1).toNat < full.length by omega)]
      have eb : before full j z = some (rec full j (z - 1)) := if_pos h2
      rw [eb] at hw
      show cond (!Op.bytesLess (rec full j (z - 1)).1 (rec full j z).1) _ _ = _
      have ea : rises (some (rec full j (z - 1))) (rec full j z) = Op.bytesLess (rec full j (z - 1)).1 (rec full j z).1 := rfl
      rw [ea] at hw
      revert hw
      cases Op.bytesLess (rec full j (z - 1)).1 (rec full j z).1 <;> exact id
    · rw [cF h2]
      have eb : before full j z = none := if_neg h2
      rw [eb] at hw
      exact hw
  · rw [cF h1]
    rw [seg_end p1 h1 p3] at hw
    exact hw
theorem loop27 {n : Nat} (hn : 100 ≤ n) : LoopOk C.G 1 (callO noTmps C.O C.tab n) n 100 43 0 b27 ld27 := by
  refine loop_of C Y0 (lh := fun _ => none) hn ?_ (fun p _ ld h => by cases h) ?_
  · exact wf_lp (wf_bl (wf_at3 (wf_fl (wf_at3 (wf_body (f := 27) rfl)))))
  intro vs ao m t hs rd k1 y w hw
  unfold ld27 at hs
  simp only at hs
  split at hs
  case h_2 => cases hs
  cases hs
  rename_i j n c ex j1 n1 c1 ex1 n' z full sp el
  have hp := (lt_need hw).1
  simp only [Bool.and_eq_true] at hp
  obtain ⟨h1, h2, _⟩ := hp
  have h1 := Nat.eq_of_beq_eq_true h1
  have h2 := Nat.eq_of_beq_eq_true h2
  subst h1 h2
  exact step27 _ _ _ _ _ _ _ _ _ _ _ _ _ _ _ hw
def chkB (l : List Ent) : Bool := chkL none l
def out27 (full : List Ent) (j n : Nat) : RD := .need (okN full j n) (.br (chkB (seg full j n)) (.v (.int .i64 0) []) (.v (.int .i64 4) []))
theorem run27 (j n c : Nat) (ex : Bool) (full : List Ent) (sp : Bool) (el : R.EL) : runD C Y0 (lhX ld27) 100 c27 [.rs 0 j n c 2 ex] [.r .ent full sp el] =
    cond (decide (n - 0 < 100)) (cond (Nat.beq j j && (Nat.beq n n && P27 j n full (↑n : Int) 0)) (cond (S27 j n full 0) (some (R.DV.int IntKind.i64 0, (mkD [DO.r RK.ent full sp el] 1))) (some (R.DV.int IntKind.i64 4, (mkD [DO.r RK.ent full sp el] 1)))) none) none := by kernel_rfl
theorem law27 (j n c : Nat) (ex : Bool) (full : List Ent) (sp : Bool) (el : R.EL) : LawOk C.G C.O C.tab 27 101 [.r .ent full sp el] [.rs 0 j n c 2 ex] (out27 full j n) := by
  refine law_of C Y0 (lhX ld27) rfl rfl (fun n hn => lhX_ok (Q := fun i b ld => LoopOk C.G 1 (callO noTmps C.O C.tab n) n 100 43 i b ld) rfl (loop27 hn)) fun z hz => ?_
  obtain ⟨hp, hz⟩ := R.ev_need hz
  refine (run27 j n c ex full sp el).trans ?_
  obtain ⟨p1, p2⟩ := okN_iff.1 hp
  have hjj : Nat.beq j j = true := Nat.beq_refl j
  have hnn : Nat.beq n n = true := Nat.beq_refl n
  have e4 : P27 j n full n 0 = true := by
    simp only [P27, decide_eq_true_eq]
    refine ⟨trivial, p1, p2, ?_, ?_⟩ <;> omega
  rw [hjj, hnn, e4, cT (show n - 0 < 100 by omega)]
  have e5 : S27 j n full 0 = chkB (seg full j n) := rfl
  rw [e5]
  refine Eq.trans ?_ hz
  show _ = (R.Tree.br (chkB (seg full j n)) (.ok _ _) (.ok _ _)).ev
  rw [ev_br]
  cases chkB (seg full j n) <;> rfl
theorem law27n : LawOk C.G C.O C.tab 27 101 [] [.nils] (.v (.int .i64 0) []) := by
  refine law_of C Y0 (fun _ => none) rfl rfl (fun n hn p _ ld e => by cases e) fun z hz => ?_
  refine Eq.trans ?_ hz
  kernel_rfl
end
end Go.Vm.YtkjjpmbpjfmbcaaGreatDoor
