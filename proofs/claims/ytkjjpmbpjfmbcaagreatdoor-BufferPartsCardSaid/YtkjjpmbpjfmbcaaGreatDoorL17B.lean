/-
  Layer 17: few; what is left of a message.
-/
import Derived.Test.YtkjjpmbpjfmbcaaGreatDoorL17H
set_option linter.unusedVariables false
set_option linter.unusedSimpArgs false
namespace Go.Vm.YtkjjpmbpjfmbcaaGreatDoor
open Go.Proofs Go.Vm.R
noncomputable section
def rec (full : List Msg) (j : Nat) (z : Int) : Msg := full.getD (j + z.toNat) (0, [], [], [])
theorem seg_rec {full : List Msg} {j n : Nat} {z : Int} (h : j + n ≤ full.length) (h0 : 0 ≤ z) (h1 : z < n) : (seg full j n).drop z.toNat = rec full j z :: (seg full j n).drop (z + 1).toNat := seg_drop h h0 h1
/-- what is asked of a slice and a place in it -/
def okS (full : List Msg) (j n : Nat) (z : Int) : Bool := decide (0 ≤ z ∧ z ≤ n ∧ j + n ≤ full.length ∧ n < 9223372036854775808)
theorem okS_iff {full : List Msg} {j n : Nat} {z : Int} : okS full j n z = true ↔ (0 ≤ z ∧ z ≤ n ∧ j + n ≤ full.length ∧ n < 9223372036854775808) := by simp [okS]
def P14 (j n : Nat) (full : List Msg) (z : Int) : Bool := okS full j n z && decide (z ≤ 70)
/-- none of the messages from z on is long -/
def shortL (full : List Msg) (j n : Nat) : Nat → Int → Bool
  | 0, _ => true
  | m + 1, z => cond (decide (z < n)) (cond (decide (z < 70)) (cond (decide (300 < ((rec full j z).2.1.length : Int))) false (cond (decide (300 < ((rec full j z).2.2.1.length : Int))) false (cond (decide (300 < ((rec full j z).2.2.2.length : Int))) false (shortL full j n m (z + 1))))) true) true
def S14 (j n : Nat) (full : List Msg) (z : Int) : Bool := shortL full j n (71 - z.toNat) z
def b14 : CC := match loopsIn none c14.body with | [(_, b)] => b | _ => .skip
def lt14 (j n c : Nat) (ex : Bool) (z : Int) (full : List Msg) (sp : Bool) (el : R.EL) : LT := .need (P14 j n full z) (.br (S14 j n full z) (.exit 0 [.rs 0 j n c 4 ex] [.r .msg full sp el]) (.ret [.bool false] [.r .msg full sp el]))
def ld14 : LoopD := ⟨[(0, none), (3, none)], [(0, none)], [(2, none)], fun vs ao => match vs, ao with
  | [.rs 0 j n c 4 ex, .int .i64 z], [.r .msg full sp el] => some (71 - z.toNat, lt14 j n c ex z full sp el)
  | _, _ => none⟩
theorem turn14 (j n c : Nat) (ex : Bool) (z : Int) (full : List Msg) (sp : Bool) (el : R.EL) (m : Nat) (rd k1 : R.EK) (y : List (Nat × R.EK)) :
    (turnD C Y0 (fun _ => none) 100 42 1 0 b14 ld14 m [.rs 0 j n c 4 ex, .int .i64 z] [.r .msg full sp el] rd k1 y).ev =
    cond (decide (z < (↑n : Int))) (cond (decide (z < 70)) (cond (decide (0 ≤ z) && decide (Int.toNat z < n)) (cond (Nat.blt (j + Int.toNat z) (List.length full)) (cond (decide (300 < (↑(List.length (Prod.fst (Prod.snd (List.getD full (j + Int.toNat z) (RK.zero RK.msg))))) : Int))) ((rd (envZ [2] [R.DV.bool false]) (mkD [DO.r RK.msg full sp el] 1)).ev) (cond (decide (0 ≤ z) && decide (Int.toNat z < n)) (cond (Nat.blt (j + Int.toNat z) (List.length full)) (cond (decide (300 < (↑(List.length (Prod.fst (Prod.snd (Prod.snd (List.getD full (j + Int.toNat z) (RK.zero RK.msg)))))) : Int))) ((rd (envZ [2] [R.DV.bool false]) (mkD [DO.r RK.msg full sp el] 1)).ev) (cond (decide (0 ≤ z) && decide (Int.toNat z < n)) (cond (Nat.blt (j + Int.toNat z) (List.length full)) (cond (decide (300 < (↑(List.length (Prod.snd (Prod.snd (Prod.snd (List.getD full (j + Int.toNat z) (RK.zero RK.msg)))))) : Int))) ((rd (envZ [2] [R.DV.bool false]) (mkD [DO.r RK.msg full sp el] 1)).ev) (cond (decide (71 - Int.toNat (IntKind.wrap IntKind.i64 (z + 1)) < m)) (cond (P14 j n full (IntKind.wrap IntKind.i64 (z + 1))) (cond (S14 j n full (IntKind.wrap IntKind.i64 (z + 1))) ((k1 (envZ [0] [DV.rs 0 j n c 4 ex]) (mkD [DO.r RK.msg full sp el] 1)).ev) ((rd (envZ [2] [R.DV.bool false]) (mkD [DO.r RK.msg full sp el] 1)).ev)) none) none)) none) none)) none) none)) none) none) ((k1 (envZ [0] [DV.rs 0 j n c 4 ex]) (mkD [DO.r RK.msg full sp el] 1)).ev)) ((k1 (envZ [0] [DV.rs 0 j n c 4 ex]) (mkD [DO.r RK.msg full sp el] 1)).ev) := by kernel_rfl
theorem step14 (j n c : Nat) (ex : Bool) (z : Int) (full : List Msg) (sp : Bool) (el : R.EL) (rd k1 : R.EK) (y : List (Nat × R.EK)) (w : R.DV × R.DH) (hw : ((lt14 j n c ex z full sp el).tree 1 ld14 rd ((0, k1) :: y)).ev = some w) :
    (turnD C Y0 (fun _ => none) 100 42 1 0 b14 ld14 (71 - z.toNat) [.rs 0 j n c 4 ex, .int .i64 z] [.r .msg full sp el] rd k1 y).ev = some w := by
  replace hw := lt_need hw
  obtain ⟨hp, hw⟩ := hw
  simp only [P14, Bool.and_eq_true, decide_eq_true_eq] at hp
  obtain ⟨hp, hz⟩ := hp
  obtain ⟨p0, p1, p2, p3⟩ := okS_iff.1 hp
  rw [turn14]
  rw [lt_br] at hw
  replace hw : cond (shortL full j n (71 - z.toNat) z) ((k1 (envZ [0] [R.DV.rs 0 j n c 4 ex]) (mkD [DO.r RK.msg full sp el] 1)).ev) ((rd (envZ [2] [R.DV.bool false]) (mkD [DO.r RK.msg full sp el] 1)).ev) = some w := hw
  rw [show 71 - z.toNat = (70 - z.toNat) + 1 by omega] at hw
  rw [show shortL full j n (70 - z.toNat + 1) z = cond (decide (z < n)) (cond (decide (z < 70)) (cond (decide (300 < ((rec full j z).2.1.length : Int))) false (cond (decide (300 < ((rec full j z).2.2.1.length : Int))) false (cond (decide (300 < ((rec full j z).2.2.2.length : Int))) false (shortL full j n (70 - z.toNat) (z + 1))))) true) true from rfl] at hw
  by_cases h1 : z < n
  · rw [cT h1] at hw ⊢
    by_cases h2 : z < 70
    · rw [cT h2] at hw ⊢
      have b1 : z.toNat < n := by omega
      have hP : P14 j n full (z + 1) = true := by
        simp only [P14, Bool.and_eq_true, decide_eq_true_eq]
        exact ⟨okS_iff.2 (by omega), by omega⟩
      have hS : S14 j n full (z + 1) = shortL full j n (70 - z.toNat) (z + 1) := by
        unfold S14
        rw [show 71 - (z + 1).toNat = 70 - z.toNat by omega]
      rw [cA p0 b1, cB (show j + z.toNat < full.length by omega), cA p0 b1, cB (show j + z.toNat < full.length by omega), cA p0 b1, cB (show j + z.toNat < full.length by omega), nextI p0 h1 p3, hP, hS, cT (show 71 - (z + 1).toNat < 71 - z.toNat by omega)]
      revert hw
      show _ → cond (decide (300 < ((rec full j z).2.1.length : Int))) _ (cond (decide (300 < ((rec full j z).2.2.1.length : Int))) _ (cond (decide (300 < ((rec full j z).2.2.2.length : Int))) _ _)) = _
      cases decide (300 < ((rec full j z).2.1.length : Int)) <;> cases decide (300 < ((rec full j z).2.2.1.length : Int)) <;> cases decide (300 < ((rec full j z).2.2.2.length : Int)) <;> exact id
    · rw [cF h2] at hw ⊢
      exact hw
  · rw [cF h1] at hw ⊢
    exact hw
theorem loop14 {n : Nat} (hn : 100 ≤ n) : LoopOk C.G 1 (callO noTmps C.O C.tab n) n 100 42 0 b14 ld14 := by
  refine loop_of C Y0 (lh := fun _ => none) hn ?_ (fun p _ ld h => by cases h) ?_
  · exact wf_loops _ none (wf_body (f := 14) rfl) (0, b14) (by rw [show loopsIn none c14.body = [(0, b14)] from rfl]; exact List.mem_cons_self)
  intro vs ao m t hs rd k1 y w hw
  unfold ld14 at hs
  simp only at hs
  split at hs
  case h_2 => cases hs
  cases hs
  exact step14 _ _ _ _ _ _ _ _ _ _ _ _ hw
def shortM (m : Msg) : Bool := !decide (300 < (m.2.1.length : Int)) && (!decide (300 < (m.2.2.1.length : Int)) && !decide (300 < (m.2.2.2.length : Int)))
def fewL (l : List Msg) : Bool := l.all shortM && decide ((l.length : Int) ≤ 60)
theorem shortL_all {full : List Msg} {j n : Nat} (hj : j + n ≤ full.length) (hn : n ≤ 60) : ∀ (m : Nat) (z : Int), 0 ≤ z → z ≤ n → n < m + z → shortL full j n m z = ((seg full j n).drop z.toNat).all shortM
  | 0, z, h0, h1, h2 => by omega
  | m + 1, z, h0, h1, h2 => by
    show cond (decide (z < n)) (cond (decide (z < 70)) _ true) true = _
    by_cases h3 : z < n
    · rw [cT h3, cT (show z < 70 by omega), seg_rec hj h0 h3, List.all_cons, ← shortL_all hj hn m (z + 1) (by omega) (by omega) (by omega)]
      unfold shortM
      cases decide (300 < ((rec full j z).2.1.length : Int)) <;> cases decide (300 < ((rec full j z).2.2.1.length : Int)) <;> cases decide (300 < ((rec full j z).2.2.2.length : Int)) <;> rfl
    · rw [cF h3, seg_end hj h3 h0]; rfl
theorem few_eq {full : List Msg} {j n : Nat} (hj : j + n ≤ full.length) : cond (S14 j n full 0) (decide ((n : Int) ≤ 60)) false = fewL (seg full j n) := by
  unfold fewL
  rw [seg_len hj, show S14 j n full 0 = shortL full j n 71 0 from rfl]
  by_cases hn : n ≤ 60
  · rw [shortL_all hj hn 71 0 (by omega) (by omega) (by omega)]
    show cond ((seg full j n).all shortM) _ _ = _
    cases (seg full j n).all shortM <;> rfl
  · rw [show decide ((n : Int) ≤ 60) = false by simp; omega, Bool.and_false]
    cases shortL full j n 71 0 <;> rfl
def out14 (full : List Msg) (j n : Nat) : RD := .need (okS full j n 0) (.v (.bool (fewL (seg full j n))) [])
theorem run14 (j n c : Nat) (ex : Bool) (full : List Msg) (sp : Bool) (el : R.EL) : runD C Y0 (lhX ld14) 100 c14 [.rs 0 j n c 4 ex] [.r .msg full sp el] =
    cond (P14 j n full 0) (cond (S14 j n full 0) (some (R.DV.bool (decide ((↑n : Int) ≤ 60)), (mkD [DO.r RK.msg full sp el] 1))) (some (R.DV.bool false, (mkD [DO.r RK.msg full sp el] 1)))) none := by kernel_rfl
theorem law14 (j n c : Nat) (ex : Bool) (full : List Msg) (sp : Bool) (el : R.EL) : LawOk C.G C.O C.tab 14 101 [.r .msg full sp el] [.rs 0 j n c 4 ex] (out14 full j n) := by
  refine law_of C Y0 (lhX ld14) rfl rfl (fun n hn => lhX_ok (Q := fun i b ld => LoopOk C.G 1 (callO noTmps C.O C.tab n) n 100 42 i b ld) rfl (loop14 hn)) fun z hz => ?_
  obtain ⟨hp, hz⟩ := R.ev_need hz
  refine (run14 j n c ex full sp el).trans ?_
  have hP : P14 j n full 0 = true := by
    simp only [P14, Bool.and_eq_true]
    exact ⟨hp, rfl⟩
  rw [hP]
  have := few_eq (okS_iff.1 hp).2.2.1
  cases hs : S14 j n full 0 <;> rw [hs] at this <;> (refine Eq.trans ?_ hz) <;> show some _ = some _ <;> rw [← this] <;> rfl
theorem law14n : LawOk C.G C.O C.tab 14 101 [] [.nils] (.v (.bool true) []) := by
  refine law_of C Y0 (fun _ => none) rfl rfl (fun n hn p _ ld e => by cases e) fun z hz => ?_
  refine Eq.trans ?_ hz
  kernel_rfl
/-! ### what is left of a message -/
def leftL (m : Msg) (a b : Txt) : List Msg := cond (decide (m.1 = 3)) (cond (!decide (a = []) && partOk m [] a) [partM m [] a] [] ++ cond (!decide (b = []) && partOk m b []) [partM m b []] []) []
def leftR (m : Msg) (a b : Txt) : List Msg := cond (decide (m.1 = 3)) (cond (Op.bytesLess m.2.1 a) [(3, m.2.1, a, [])] [] ++ cond (!decide (b = []) && Op.bytesLess b m.2.2.1) [(3, b, m.2.2.1, [])] []) []
def outL (l : List Msg) : RD := .br (Nat.beq l.length 0) (.v .nils []) (.v (.rs 0 0 l.length l.length 4 false) [.r .msg l true 31])
theorem run61 (op : Int) (k t v a b : Txt) : runD C Y0 (fun _ => none) 100 c61 [.agg [.int .i64 op, .str k, .str t, .str v], .str a, .str b] [] =
    cond (!decide (op = 3)) (some (R.DV.nils, (mkD [] 0))) (cond (!decide (a = [])) (cond (partOk (op, k, t, v) [] a) (cond (!decide (b = [])) (cond (partOk (op, k, t, v) b []) (some (DV.rs 0 0 2 2 4 false, (mkD [DO.r RK.msg (List.take (List.length (List.take 1 (List.drop 0 [(op, Prod.fst (Prod.snd (partM (op, k, t, v) [] a)), Prod.fst (Prod.snd (Prod.snd (partM (op, k, t, v) [] a))), v)]))) (List.drop 0 (List.take 1 (List.drop 0 [(op, Prod.fst (Prod.snd (partM (op, k, t, v) [] a)), Prod.fst (Prod.snd (Prod.snd (partM (op, k, t, v) [] a))), v)]))) ++ List.take 1 (List.drop 0 [(op, Prod.fst (Prod.snd (partM (op, k, t, v) b [])), Prod.fst (Prod.snd (Prod.snd (partM (op, k, t, v) b []))), v)])) true { e := 31, z := 0 }] 0))) (some (DV.rs 0 0 1 1 4 false, (mkD [DO.r RK.msg (List.take 1 (List.drop 0 [(op, Prod.fst (Prod.snd (partM (op, k, t, v) [] a)), Prod.fst (Prod.snd (Prod.snd (partM (op, k, t, v) [] a))), v)])) true { e := 31, z := 0 }] 0)))) (some (DV.rs 0 0 1 1 4 false, (mkD [DO.r RK.msg (List.take 1 (List.drop 0 [(op, Prod.fst (Prod.snd (partM (op, k, t, v) [] a)), Prod.fst (Prod.snd (Prod.snd (partM (op, k, t, v) [] a))), v)])) true { e := 31, z := 0 }] 0)))) (cond (!decide (b = [])) (cond (partOk (op, k, t, v) b []) (some (DV.rs 0 0 1 1 4 false, (mkD [DO.r RK.msg (List.take 1 (List.drop 0 [(op, Prod.fst (Prod.snd (partM (op, k, t, v) b [])), Prod.fst (Prod.snd (Prod.snd (partM (op, k, t, v) b []))), v)])) true { e := 31, z := 0 }] 0))) (some (R.DV.nils, (mkD [] 0)))) (some (R.DV.nils, (mkD [] 0))))) (cond (!decide (b = [])) (cond (partOk (op, k, t, v) b []) (some (DV.rs 0 0 1 1 4 false, (mkD [DO.r RK.msg (List.take 1 (List.drop 0 [(op, Prod.fst (Prod.snd (partM (op, k, t, v) b [])), Prod.fst (Prod.snd (Prod.snd (partM (op, k, t, v) b []))), v)])) true { e := 31, z := 0 }] 0))) (some (R.DV.nils, (mkD [] 0)))) (some (R.DV.nils, (mkD [] 0))))) := by kernel_rfl
theorem law61 (op : Int) (k t v a b : Txt) : LawOk C.G C.O C.tab 61 101 [] [.agg [.int .i64 op, .str k, .str t, .str v], .str a, .str b] (outL (leftL (op, k, t, v) a b)) := by
  refine law_of C Y0 (fun _ => none) rfl rfl (fun n hn p _ ld e => by cases e) fun z hz => ?_
  refine (run61 op k t v a b).trans (Eq.trans ?_ hz)
  unfold leftL
  show _ = (R.Tree.br _ _ _).ev
  show cond (!decide (op = 3)) _ _ = _
  cases decide (op = 3) <;> cases decide (a = []) <;> cases partOk (op, k, t, v) [] a <;> cases decide (b = []) <;> cases partOk (op, k, t, v) b [] <;> rfl
def outR (m : Msg) (a b : Txt) : RD := .br (partOk m a b) (outL (leftR m a b)) (.v (.rs 0 0 1 1 4 true) [.r .msg [m] false 31])
theorem run63 (op : Int) (k t v a b : Txt) : runD C Y0 (fun _ => none) 100 c63 [.agg [.int .i64 op, .str k, .str t, .str v], .str a, .str b] [] =
    cond (partOk (op, k, t, v) a b) (cond (!decide (op = 3)) (some (R.DV.nils, (mkD [] 0))) (cond (Op.bytesLess k a) (cond (!decide (b = [])) (cond (Op.bytesLess b t) (some (DV.rs 0 0 2 2 4 false, (mkD [DO.r RK.msg (List.take (List.length (List.take 1 (List.drop 0 [((3, k, a, []) : Msg)]))) (List.drop 0 (List.take 1 (List.drop 0 [((3, k, a, []) : Msg)]))) ++ List.take 1 (List.drop 0 [((3, b, t, []) : Msg)])) true { e := 31, z := 0 }] 0))) (some (DV.rs 0 0 1 1 4 false, (mkD [DO.r RK.msg (List.take 1 (List.drop 0 [((3, k, a, []) : Msg)])) true { e := 31, z := 0 }] 0)))) (some (DV.rs 0 0 1 1 4 false, (mkD [DO.r RK.msg (List.take 1 (List.drop 0 [((3, k, a, []) : Msg)])) true { e := 31, z := 0 }] 0)))) (cond (!decide (b = [])) (cond (Op.bytesLess b t) (some (DV.rs 0 0 1 1 4 false, (mkD [DO.r RK.msg (List.take 1 (List.drop 0 [((3, b, t, []) : Msg)])) true { e := 31, z := 0 }] 0))) (some (R.DV.nils, (mkD [] 0)))) (some (R.DV.nils, (mkD [] 0)))))) (some (DV.rs 0 0 1 1 4 true, (mkD [DO.r RK.msg [(op, k, t, v)] false { e := 31, z := 0 }] 0))) := by kernel_rfl
theorem law63 (op : Int) (k t v a b : Txt) : LawOk C.G C.O C.tab 63 101 [] [.agg [.int .i64 op, .str k, .str t, .str v], .str a, .str b] (outR (op, k, t, v) a b) := by
  refine law_of C Y0 (fun _ => none) rfl rfl (fun n hn p _ ld e => by cases e) fun z hz => ?_
  refine (run63 op k t v a b).trans (Eq.trans ?_ hz)
  unfold outR leftR
  show cond (partOk (op, k, t, v) a b) (cond (!decide (op = 3)) _ (cond (Op.bytesLess k a) _ _)) _ = _
  cases partOk (op, k, t, v) a b <;> cases decide (op = 3) <;> cases Op.bytesLess k a <;> cases decide (b = []) <;> cases Op.bytesLess b t <;> rfl
def g61 : List R.DV → List R.DO → Option RD := fun l ao => match l, ao with
  | [.agg [.int .i64 op, .str k, .str t, .str v], .str a, .str b], [] => some (outL (leftL (op, k, t, v) a b))
  | _, _ => none
theorem g61_ok (l : List R.DV) (ao : List R.DO) (out : RD) (h : g61 l ao = some out) : LawOk C.G C.O C.tab 61 101 ao l out := by
  unfold g61 at h
  split at h
  · cases h; exact law61 _ _ _ _ _ _
  · cases h
def g63 : List R.DV → List R.DO → Option RD := fun l ao => match l, ao with
  | [.agg [.int .i64 op, .str k, .str t, .str v], .str a, .str b], [] => some (outR (op, k, t, v) a b)
  | _, _ => none
theorem g63_ok (l : List R.DV) (ao : List R.DO) (out : RD) (h : g63 l ao = some out) : LawOk C.G C.O C.tab 63 101 ao l out := by
  unfold g63 at h
  split at h
  · cases h; exact law63 _ _ _ _ _ _
  · cases h
def g14 : List R.DV → List R.DO → Option RD := fun l ao => match l, ao with
  | [.rs 0 j n c 4 ex], [.r .msg full sp el] => some (out14 full j n)
  | [.nils], [] => some (.v (.bool true) [])
  | _, _ => none
theorem g14_ok (l : List R.DV) (ao : List R.DO) (out : RD) (h : g14 l ao = some out) : LawOk C.G C.O C.tab 14 101 ao l out := by
  unfold g14 at h
  split at h
  · cases h; exact law14 _ _ _ _ _ _ _
  · cases h; exact law14n
  · cases h
def Y1 : C.RL := (Y0.add 61 101 g61 g61_ok).add 63 101 g63 g63_ok
end
end Go.Vm.YtkjjpmbpjfmbcaaGreatDoor
