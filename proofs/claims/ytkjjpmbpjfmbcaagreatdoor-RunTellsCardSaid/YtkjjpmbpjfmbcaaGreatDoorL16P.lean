/-
  The laws of IndexFunc (with Get's closure).
-/
import Derived.Test.YtkjjpmbpjfmbcaaGreatDoorL16L
set_option linter.unusedVariables false
set_option linter.unusedSimpArgs false
namespace Go.Vm.YtkjjpmbpjfmbcaaGreatDoor
open Go.Proofs Go.Vm.R
noncomputable section
def noK (k : List UInt8) : List Ent → Bool
  | [] => true
  | e :: r => cond (decide (e.1 = k)) false (noK k r)
def idxK (k : List UInt8) : List Ent → Int → Int
  | [], z => z
  | e :: r, z => cond (decide (e.1 = k)) z (idxK k r (z + 1))
def b70 : CC := lp (bl (at3 (fl (at3 c70.body))))
def P70 (j n : Nat) (full : List Ent) (n' z : Int) : Bool := decide (n' = n ∧ j + n ≤ full.length ∧ n < 99 ∧ 0 ≤ z ∧ z ≤ n)
def S70 (j n : Nat) (full : List Ent) (k : List UInt8) (z : Int) : Bool := noK k ((seg full j n).drop z.toNat)
def I70 (j n : Nat) (full : List Ent) (k : List UInt8) (z : Int) : Int := idxK k ((seg full j n).drop z.toNat) z
def lt70 (j n c : Nat) (ex : Bool) (j1 n1 c1 : Nat) (ex1 : Bool) (n' z : Int) (k : List UInt8) (full : List Ent) (sp : Bool) (el : R.EL) : LT := .need (Nat.beq j1 j && (Nat.beq n1 n && P70 j n full n' z)) (.br (S70 j n full k z) (.exit 0 [] [.r .ent full sp el, .c [.str k] false 9]) (.ret [.int .i64 (I70 j n full k z)] [.r .ent full sp el, .c [.str k] false 9]))
def ld70 : LoopD := ⟨[(0, none), (1, none), (6, none), (7, none), (8, none)], [], [(4, none)], fun vs ao => match vs, ao with
  | [.rs 0 j n c 2 ex, .fn 71 [.ptr 1 0], .rs 0 j1 n1 c1 2 ex1, .int .i64 n', .int .i64 z], [.r .ent full sp el, .c [.str k] false 9] => some (n - z.toNat, lt70 j n c ex j1 n1 c1 ex1 n' z k full sp el)
  | _, _ => none⟩
theorem turn70 (j n c : Nat) (ex : Bool) (c1 : Nat) (ex1 : Bool) (n' z : Int) (k : List UInt8) (full : List Ent) (sp : Bool) (el : R.EL) (m : Nat) (rd k1 : R.EK) (y : List (Nat × R.EK)) :
    (turnD C Y0 (fun _ => none) 100 19 2 0 b70 ld70 m [.rs 0 j n c 2 ex, .fn 71 [.ptr 1 0], .rs 0 j n c1 2 ex1, .int .i64 n', .int .i64 z] [.r .ent full sp el, .c [.str k] false 9] rd k1 y).ev =
    cond (decide (z < n')) (cond (decide (0 ≤ z) && decide (Int.toNat z < n)) (cond (Nat.blt (j + Int.toNat z) (List.length full)) (cond (decide (Prod.fst (List.getD full (j + Int.toNat z) (RK.zero RK.ent)) = k)) ((rd (envZ [4] [R.DV.int IntKind.i64 z]) (mkD [DO.r RK.ent full sp el, R.DO.c [R.DV.str k] false 9] 2)).ev) (cond (decide (n - Int.toNat (IntKind.wrap IntKind.i64 (z + 1)) < m)) (cond (Nat.beq j j && (Nat.beq n n && P70 j n full n' (IntKind.wrap IntKind.i64 (z + 1)))) (cond (S70 j n full k (IntKind.wrap IntKind.i64 (z + 1))) ((k1 (envZ [] []) (mkD [DO.r RK.ent full sp el, R.DO.c [R.DV.str k] false 9] 2)).ev) ((rd (envZ [4] [R.DV.int IntKind.i64 (I70 j n full k (IntKind.wrap IntKind.i64 (z + 1)))]) (mkD [DO.r RK.ent full sp el, R.DO.c [R.DV.str k] false 9] 2)).ev)) none) none)) none) none) ((k1 (envZ [] []) (mkD [DO.r RK.ent full sp el, R.DO.c [R.DV.str k] false 9] 2)).ev) := by kernel_rfl
theorem step70 (j n c : Nat) (ex : Bool) (c1 : Nat) (ex1 : Bool) (n' z : Int) (k : List UInt8) (full : List Ent) (sp : Bool) (el : R.EL) (rd k1 : R.EK) (y : List (Nat × R.EK)) (w : R.DV × R.DH) (hw : ((lt70 j n c ex j n c1 ex1 n' z k full sp el).tree 2 ld70 rd ((0, k1) :: y)).ev = some w) :
    (turnD C Y0 (fun _ => none) 100 19 2 0 b70 ld70 (n - z.toNat) [.rs 0 j n c 2 ex, .fn 71 [.ptr 1 0], .rs 0 j n c1 2 ex1, .int .i64 n', .int .i64 z] [.r .ent full sp el, .c [.str k] false 9] rd k1 y).ev = some w := by
  replace hw := lt_need hw
  obtain ⟨hp, hw⟩ := hw
  have hjj : Nat.beq j j = true := Nat.beq_refl j
  have hnn : Nat.beq n n = true := Nat.beq_refl n
  rw [hjj, hnn] at hp
  simp only [Bool.true_and, P70, decide_eq_true_eq] at hp
  obtain ⟨rfl, p1, p2, p3, p4⟩ := hp
  rw [lt_br] at hw
  replace hw : cond (S70 j n full k z) (k1 (envZ [] []) (mkD [DO.r RK.ent full sp el, R.DO.c [R.DV.str k] false 9] 2)).ev (rd (envZ [4] [R.DV.int IntKind.i64 (I70 j n full k z)]) (mkD [DO.r RK.ent full sp el, R.DO.c [R.DV.str k] false 9] 2)).ev = some w := hw
  rw [turn70, hjj, hnn]
  unfold S70 I70 at hw
  by_cases h1 : z < n
  · have b1 : z.toNat < n := by omega
    have e4 : P70 j n full n (z + 1) = true := by
      simp only [P70, decide_eq_true_eq]
      refine ⟨trivial, p1, p2, ?_, ?_⟩ <;> omega
    rw [cT h1, cA p3 b1, cB (show j + z.toNat < full.length by omega), nextI p3 h1 (by omega), e4, cT (show n - (z + 1).toNat < n - z.toNat by omega)]
    rw [seg_drop p1 p3 h1] at hw
    rw [show noK k (rec full j z :: (seg full j n).drop (z + 1).toNat) = cond (decide ((rec full j z).1 = k)) false (noK k ((seg full j n).drop (z + 1).toNat)) from rfl,
      show idxK k (rec full j z :: (seg full j n).drop (z + 1).toNat) z = cond (decide ((rec full j z).1 = k)) z (idxK k ((seg full j n).drop (z + 1).toNat) (z + 1)) from rfl] at hw
    by_cases a1 : (rec full j z).1 = k
    · rw [cT a1, cT a1] at hw; exact (cT a1).trans hw
    · rw [cF a1, cF a1] at hw; exact (cF a1).trans hw
  · rw [cF h1]
    rw [seg_end p1 h1 p3] at hw
    exact hw
theorem loop70 {n : Nat} (hn : 100 ≤ n) : LoopOk C.G 2 (callO noTmps C.O C.tab n) n 100 19 0 b70 ld70 := by
  refine loop_of C Y0 (lh := fun _ => none) hn ?_ (fun p _ ld h => by cases h) ?_
  · exact wf_lp (wf_bl (wf_at3 (wf_fl (wf_at3 (wf_body (f := 70) rfl)))))
  intro vs ao m t hs rd k1 y w hw
  unfold ld70 at hs
  simp only at hs
  split at hs
  case h_2 => cases hs
  cases hs
  have hp := (lt_need hw).1
  simp only [Bool.and_eq_true] at hp
  obtain ⟨h1, h2, _⟩ := hp
  have h1 := Nat.eq_of_beq_eq_true h1
  have h2 := Nat.eq_of_beq_eq_true h2
  subst h1 h2
  exact step70 _ _ _ _ _ _ _ _ _ _ _ _ _ _ _ _ hw
def out70 (full : List Ent) (j n : Nat) (k : List UInt8) : RD := .need (okN full j n) (.br (noK k (seg full j n)) (.v (.int .i64 (-1)) []) (.v (.int .i64 (idxK k (seg full j n) 0)) []))
theorem run70 (j n c : Nat) (ex : Bool) (k : List UInt8) (full : List Ent) (sp : Bool) (el : R.EL) : runD C Y0 (lhX ld70) 100 c70 [.rs 0 j n c 2 ex, .fn 71 [.ptr 1 0]] [.r .ent full sp el, .c [.str k] false 9] =
    cond (decide (n - 0 < 100)) (cond (Nat.beq j j && (Nat.beq n n && P70 j n full (↑n : Int) 0)) (cond (S70 j n full k 0) (some (R.DV.int IntKind.i64 (-1), (mkD [DO.r RK.ent full sp el, R.DO.c [R.DV.str k] false 9] 2))) (some (R.DV.int IntKind.i64 (I70 j n full k 0), (mkD [DO.r RK.ent full sp el, R.DO.c [R.DV.str k] false 9] 2)))) none) none := by kernel_rfl
theorem law70 (j n c : Nat) (ex : Bool) (k : List UInt8) (full : List Ent) (sp : Bool) (el : R.EL) : LawOk C.G C.O C.tab 70 101 [.r .ent full sp el, .c [.str k] false 9] [.rs 0 j n c 2 ex, .fn 71 [.ptr 1 0]] (out70 full j n k) := by
  refine law_of C Y0 (lhX ld70) rfl rfl (fun n hn => lhX_ok (Q := fun i b ld => LoopOk C.G 2 (callO noTmps C.O C.tab n) n 100 19 i b ld) rfl (loop70 hn)) fun z hz => ?_
  obtain ⟨hp, hz⟩ := R.ev_need hz
  refine (run70 j n c ex k full sp el).trans ?_
  obtain ⟨p1, p2⟩ := okN_iff.1 hp
  have hjj : Nat.beq j j = true := Nat.beq_refl j
  have hnn : Nat.beq n n = true := Nat.beq_refl n
  have e4 : P70 j n full n 0 = true := by
    simp only [P70, decide_eq_true_eq]
    refine ⟨trivial, p1, p2, ?_, ?_⟩ <;> omega
  rw [hjj, hnn, e4, cT (show n - 0 < 100 by omega)]
  have e5 : S70 j n full k 0 = noK k (seg full j n) := rfl
  have e6 : I70 j n full k 0 = idxK k (seg full j n) 0 := rfl
  rw [e5, e6]
  refine Eq.trans ?_ hz
  show _ = (R.Tree.br (noK k (seg full j n)) (.ok _ _) (.ok _ _)).ev
  rw [ev_br]
  cases noK k (seg full j n) <;> rfl
def g70 : List R.DV → List R.DO → Option RD := fun l ao => match l, ao with
  | [.rs 0 j n c 2 ex, .fn 71 [.ptr 1 0]], [.r .ent full sp el, .c [.str k] false 9] => some (out70 full j n k)
  | _, _ => none
theorem g70_ok (l : List R.DV) (ao : List R.DO) (out : RD) (h : g70 l ao = some out) : LawOk C.G C.O C.tab 70 101 ao l out := by
  unfold g70 at h
  split at h
  · cases h; exact law70 _ _ _ _ _ _ _ _
  · cases h
def Y4 : C.RL := Y3.add 70 101 g70 g70_ok
end
end Go.Vm.YtkjjpmbpjfmbcaaGreatDoor
