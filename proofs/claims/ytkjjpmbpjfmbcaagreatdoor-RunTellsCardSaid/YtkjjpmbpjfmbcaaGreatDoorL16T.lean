/-
  The document's Get.
-/
import Derived.Test.YtkjjpmbpjfmbcaaGreatDoorL16S
set_option linter.unusedVariables false
set_option linter.unusedSimpArgs false
namespace Go.Vm.YtkjjpmbpjfmbcaaGreatDoor
open Go.Proofs Go.Vm.R
noncomputable section
def b52 : CC := lp (bl (at3 (fl (at3 c52.body))))
def P52 (j n : Nat) (full : List Ent) (z : Int) : Bool := decide (j + n ≤ full.length ∧ n < 99 ∧ 0 ≤ z ∧ z ≤ n)
def V52 (j n : Nat) (full : List Ent) (k : List UInt8) (z : Int) : List UInt8 := (getK k ((seg full j n).drop z.toNat)).1
def lt52 (j n c : Nat) (ex : Bool) (k : List UInt8) (z : Int) (full : List Ent) (sp : Bool) (el : R.EL) : LT := .need (P52 j n full z) (.br (S70 j n full k z) (.exit 0 [] [.r .ent full sp el]) (.ret [.str (V52 j n full k z), .bool true] [.r .ent full sp el]))
def ld52 : LoopD := ⟨[(0, none), (1, none), (6, none)], [], [(4, none), (5, none)], fun vs ao => match vs, ao with
  | [.rs 0 j n c 2 ex, .str k, .int .i64 z], [.r .ent full sp el] => some (n - z.toNat, lt52 j n c ex k z full sp el)
  | _, _ => none⟩
theorem turn52 (j n c : Nat) (ex : Bool) (k : List UInt8) (z : Int) (full : List Ent) (sp : Bool) (el : R.EL) (m : Nat) (rd k1 : R.EK) (y : List (Nat × R.EK)) :
    (turnD C Y0 (fun _ => none) 100 25 1 0 b52 ld52 m [.rs 0 j n c 2 ex, .str k, .int .i64 z] [.r .ent full sp el] rd k1 y).ev =
    cond (decide (z < (↑n : Int))) (cond (decide (0 ≤ z) && decide (Int.toNat z < n)) (cond (Nat.blt (j + Int.toNat z) (List.length full)) (cond (decide (Prod.fst (List.getD full (j + Int.toNat z) (RK.zero RK.ent)) = k)) (cond (decide (0 ≤ z) && decide (Int.toNat z < n)) (cond (Nat.blt (j + Int.toNat z) (List.length full)) ((rd (envZ [4, 5] [R.DV.str (Prod.snd (List.getD full (j + Int.toNat z) (RK.zero RK.ent))), R.DV.bool true]) (mkD [DO.r RK.ent full sp el] 1)).ev) none) none) (cond (decide (n - Int.toNat (IntKind.wrap IntKind.i64 (z + 1)) < m)) (cond (P52 j n full (IntKind.wrap IntKind.i64 (z + 1))) (cond (S70 j n full k (IntKind.wrap IntKind.i64 (z + 1))) ((k1 (envZ [] []) (mkD [DO.r RK.ent full sp el] 1)).ev) ((rd (envZ [4, 5] [R.DV.str (V52 j n full k (IntKind.wrap IntKind.i64 (z + 1))), R.DV.bool true]) (mkD [DO.r RK.ent full sp el] 1)).ev)) none) none)) none) none) ((k1 (envZ [] []) (mkD [DO.r RK.ent full sp el] 1)).ev) := by kernel_rfl
theorem step52 (j n c : Nat) (ex : Bool) (k : List UInt8) (z : Int) (full : List Ent) (sp : Bool) (el : R.EL) (rd k1 : R.EK) (y : List (Nat × R.EK)) (w : R.DV × R.DH) (hw : ((lt52 j n c ex k z full sp el).tree 1 ld52 rd ((0, k1) :: y)).ev = some w) :
    (turnD C Y0 (fun _ => none) 100 25 1 0 b52 ld52 (n - z.toNat) [.rs 0 j n c 2 ex, .str k, .int .i64 z] [.r .ent full sp el] rd k1 y).ev = some w := by
  replace hw := lt_need hw
  obtain ⟨hp, hw⟩ := hw
  simp only [P52, decide_eq_true_eq] at hp
  obtain ⟨p1, p2, p3, p4⟩ := hp
  rw [lt_br] at hw
  replace hw : cond (S70 j n full k z) (k1 (envZ [] []) (mkD [DO.r RK.ent full sp el] 1)).ev (rd (envZ [4, 5] [R.DV.str (V52 j n full k z), R.DV.bool true]) (mkD [DO.r RK.ent full sp el] 1)).ev = some w := hw
  rw [turn52]
  unfold S70 V52 at hw
  by_cases h1 : z < n
  · have b1 : z.toNat < n := by omega
    have e4 : P52 j n full (z + 1) = true := by
      simp only [P52, decide_eq_true_eq]
      refine ⟨p1, p2, ?_, ?_⟩ <;> omega
    rw [cT h1, cA p3 b1, cB (show j + z.toNat < full.length by omega), cA p3 b1, cB (show j + z.toNat < full.length by omega), nextI p3 h1 (by omega), e4, cT (show n - (z + 1).toNat < n - z.toNat by omega)]
    rw [seg_drop p1 p3 h1] at hw
    rw [show noK k (rec full j z :: (seg full j n).drop (z + 1).toNat) = cond (decide ((rec full j z).1 = k)) false (noK k ((seg full j n).drop (z + 1).toNat)) from rfl,
      show getK k (rec full j z :: (seg full j n).drop (z + 1).toNat) = cond (decide ((rec full j z).1 = k)) ((rec full j z).2, true) (getK k ((seg full j n).drop (z + 1).toNat)) from rfl] at hw
    by_cases a1 : (rec full j z).1 = k
    · rw [cT a1, cT a1] at hw; exact (cT a1).trans hw
    · rw [cF a1, cF a1] at hw; exact (cF a1).trans hw
  · rw [cF h1]
    rw [seg_end p1 h1 p3] at hw
    exact hw
theorem loop52 {n : Nat} (hn : 100 ≤ n) : LoopOk C.G 1 (callO noTmps C.O C.tab n) n 100 25 0 b52 ld52 := by
  refine loop_of C Y0 (lh := fun _ => none) hn ?_ (fun p _ ld h => by cases h) ?_
  · exact wf_lp (wf_bl (wf_at3 (wf_fl (wf_at3 (wf_body (f := 52) rfl)))))
  intro vs ao m t hs rd k1 y w hw
  unfold ld52 at hs
  simp only at hs
  split at hs
  case h_2 => cases hs
  cases hs
  exact step52 _ _ _ _ _ _ _ _ _ _ _ _ _ hw
theorem run52 (j n c : Nat) (ex : Bool) (k : List UInt8) (full : List Ent) (sp : Bool) (el : R.EL) : runD C Y0 (lhX ld52) 100 c52 [.rs 0 j n c 2 ex, .str k] [.r .ent full sp el] =
    cond (decide (n - 0 < 100)) (cond (P52 j n full 0) (cond (S70 j n full k 0) (some (R.DV.tup [R.DV.str [], R.DV.bool false], (mkD [DO.r RK.ent full sp el] 1))) (some (R.DV.tup [R.DV.str (V52 j n full k 0), R.DV.bool true], (mkD [DO.r RK.ent full sp el] 1)))) none) none := by kernel_rfl
theorem law52 (j n c : Nat) (ex : Bool) (k : List UInt8) (full : List Ent) (sp : Bool) (el : R.EL) : LawOk C.G C.O C.tab 52 101 [.r .ent full sp el] [.rs 0 j n c 2 ex, .str k] (out28 full j n k) := by
  refine law_of C Y0 (lhX ld52) rfl rfl (fun n hn => lhX_ok (Q := fun i b ld => LoopOk C.G 1 (callO noTmps C.O C.tab n) n 100 25 i b ld) rfl (loop52 hn)) fun z hz => ?_
  obtain ⟨hp, hz⟩ := R.ev_need hz
  refine (run52 j n c ex k full sp el).trans (Eq.trans ?_ hz)
  show _ = some (R.DV.tup [.str (getK k (seg full j n)).1, .bool (getK k (seg full j n)).2], mkD [DO.r RK.ent full sp el] 1)
  obtain ⟨p1, p2⟩ := okN_iff.1 hp
  have e4 : P52 j n full 0 = true := by
    simp only [P52, decide_eq_true_eq]
    refine ⟨p1, p2, ?_, ?_⟩ <;> omega
  rw [e4, cT (show n - 0 < 100 by omega)]
  have e5 : S70 j n full k 0 = noK k (seg full j n) := rfl
  have e6 : V52 j n full k 0 = (getK k (seg full j n)).1 := rfl
  rw [e5, e6]
  cases hn : noK k (seg full j n) with
  | true => rw [get_no k _ hn]; rfl
  | false =>
    obtain ⟨_, _, h3⟩ := get_idx k (seg full j n) 0 hn
    rw [h3]; rfl
end
end Go.Vm.YtkjjpmbpjfmbcaaGreatDoor
