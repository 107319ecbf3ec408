/-
  Layer 17: what lies in a range, and what is left.
-/
import Derived.Test.YtkjjpmbpjfmbcaaGreatDoorL17B
set_option linter.unusedVariables false
set_option linter.unusedSimpArgs false
namespace Go.Vm.YtkjjpmbpjfmbcaaGreatDoor
open Go.Proofs Go.Vm.R
noncomputable section
def okG (full : List Msg) (j n : Nat) : Bool := decide (j + n ≤ full.length ∧ n < 99)
theorem okG_iff {full : List Msg} {j n : Nat} : okG full j n = true ↔ (j + n ≤ full.length ∧ n < 99) := by simp [okG]
/-- what of these lies in a range -/
def inL (x y : Txt) : List Msg → List Msg
  | [] => []
  | m :: r => cond (partOk m x y) (partM m x y :: inL x y r) (inL x y r)
/-- .. and what is left -/
def restL (lf : Msg → Txt → Txt → List Msg) (x y : Txt) : List Msg → List Msg
  | [] => []
  | m :: r => cond (partOk m x y) (lf m x y) [m] ++ restL lf x y r
def SI (j n : Nat) (full : List Msg) (z : Int) (x y : Txt) (inn : List Msg) : List Msg := inn ++ inL x y ((seg full j n).drop z.toNat)
def SO (lf : Msg → Txt → Txt → List Msg) (j n : Nat) (full : List Msg) (z : Int) (x y : Txt) (out : List Msg) : List Msg := out ++ restL lf x y ((seg full j n).drop z.toNat)
def P17 (j n : Nat) (full : List Msg) (n' z : Int) (inn out : List Msg) : Bool := decide (n' = n ∧ j + n ≤ full.length ∧ n < 99 ∧ 0 ≤ z ∧ z ≤ n ∧ (inn.length : Int) ≤ z ∧ (out.length : Int) ≤ 2 * z)
theorem leftL_len (m : Msg) (x y : Txt) : (leftL m x y).length ≤ 2 := by
  unfold leftL
  cases decide (m.1 = 3) <;> cases !decide (x = []) && partOk m [] x <;> cases !decide (y = []) && partOk m y [] <;> simp
theorem leftR_len (m : Msg) (x y : Txt) : (leftR m x y).length ≤ 2 := by
  unfold leftR
  cases decide (m.1 = 3) <;> cases Op.bytesLess m.2.1 x <;> cases !decide (y = []) && Op.bytesLess y m.2.2.1 <;> simp
theorem SI_step {full inn : List Msg} {j n : Nat} {z : Int} {x y : Txt} (p1 : j + n ≤ full.length) (p3 : 0 ≤ z) (h1 : z < n) : SI j n full z x y inn = SI j n full (z + 1) x y (cond (partOk (rec full j z) x y) (inn ++ [partM (rec full j z) x y]) inn) := by
  unfold SI
  rw [seg_rec p1 p3 h1]
  show inn ++ cond (partOk (rec full j z) x y) _ _ = _
  cases partOk (rec full j z) x y <;> simp
theorem SO_step {lf : Msg → Txt → Txt → List Msg} {full out : List Msg} {j n : Nat} {z : Int} {x y : Txt} (p1 : j + n ≤ full.length) (p3 : 0 ≤ z) (h1 : z < n) : SO lf j n full z x y out = SO lf j n full (z + 1) x y (out ++ cond (partOk (rec full j z) x y) (lf (rec full j z) x y) [rec full j z]) := by
  unfold SO
  rw [seg_rec p1 p3 h1, List.append_assoc]
  rfl

def b17 : CC := match loopsIn none c17.body with | [(_, b)] => b | _ => .skip
def lt17 (a b j n c : Nat) (ex : Bool) (x y : Txt) (n' z : Int) (full inn out : List Msg) (sp : Bool) (el : R.EL) : LT := .need (Nat.beq a inn.length && (Nat.beq b out.length && P17 j n full n' z inn out)) (.exit 0 [.ns 1 (SI j n full z x y inn).length 4, .ns 2 (SO leftL j n full z x y out).length 4] [.r .msg full sp el, .rn .msg (SI j n full z x y inn) 31, .rn .msg (SO leftL j n full z x y out) 31])
def ld17 : LoopD := ⟨[(1, none), (2, none), (6, some (.msg, 31)), (7, some (.msg, 31)), (12, none), (13, none), (14, none)], [(6, some (.msg, 31)), (7, some (.msg, 31))], [], fun vs ao => match vs, ao with
  | [.str x, .str y, .ns 1 a 4, .ns 2 b 4, .rs 0 j n c 4 ex, .int .i64 n', .int .i64 z], [.r .msg full sp el, .rn .msg inn 31, .rn .msg out 31] => some (n - z.toNat, lt17 a b j n c ex x y n' z full inn out sp el)
  | _, _ => none⟩
theorem turn17 (j n c : Nat) (ex : Bool) (x0 y0 : Txt) (n' z : Int) (full inn out : List Msg) (sp : Bool) (el : R.EL) (m : Nat) (rd k1 : R.EK) (y : List (Nat × R.EK)) :
    (turnD C Y1 (fun _ => none) 110 44 1 0 b17 ld17 m [.str x0, .str y0, .ns 1 inn.length 4, .ns 2 out.length 4, .rs 0 j n c 4 ex, .int .i64 n', .int .i64 z] [.r .msg full sp el, .rn .msg inn 31, .rn .msg out 31] rd k1 y).ev =
    cond (decide (z < n')) (cond (decide (0 ≤ z) && decide (Int.toNat z < n)) (cond (Nat.blt (j + Int.toNat z) (List.length full)) (cond (partOk (rec full j z) x0 y0) (cond (Nat.ble (List.length inn) (List.length inn)) (cond (Nat.ble (List.length inn) (List.length inn)) (cond (roomFor (List.length inn + List.length ([partM (rec full j z) x0 y0])) 56) (cond (Nat.beq (List.length (leftL (rec full j z) x0 y0)) 0) (cond (Nat.ble (List.length out) (List.length out)) (cond (decide (List.length inn + List.length ([partM (rec full j z) x0 y0]) = List.length (List.take (List.length inn) inn ++ [partM (rec full j z) x0 y0])) && (decide (List.length inn + List.length ([partM (rec full j z) x0 y0]) = List.length inn + List.length ([partM (rec full j z) x0 y0])) && true)) (cond (decide (n - Int.toNat (IntKind.wrap IntKind.i64 (z + 1)) < m)) (cond (Nat.beq (List.length inn + List.length ([partM (rec full j z) x0 y0])) (List.length (List.take (List.length inn) inn ++ [partM (rec full j z) x0 y0])) && (Nat.beq (List.length out) (List.length out) && P17 j n full n' (IntKind.wrap IntKind.i64 (z + 1)) (List.take (List.length inn) inn ++ [partM (rec full j z) x0 y0]) out)) ((k1 (envZ [6, 7] [DV.ns 1 (List.length (SI j n full (IntKind.wrap IntKind.i64 (z + 1)) x0 y0 (List.take (List.length inn) inn ++ [partM (rec full j z) x0 y0]))) 4, DV.ns 2 (List.length (SO leftL j n full (IntKind.wrap IntKind.i64 (z + 1)) x0 y0 out)) 4]) (mkD [DO.r RK.msg full sp el, DO.rn RK.msg (SI j n full (IntKind.wrap IntKind.i64 (z + 1)) x0 y0 (List.take (List.length inn) inn ++ [partM (rec full j z) x0 y0])) 31, DO.rn RK.msg (SO leftL j n full (IntKind.wrap IntKind.i64 (z + 1)) x0 y0 out) 31] 1)).ev) none) none) none) none) (cond (Nat.ble (0 + List.length (leftL (rec full j z) x0 y0)) (List.length (leftL (rec full j z) x0 y0))) (cond (Nat.ble (List.length out) (List.length out)) (cond (decide (List.length (List.take (List.length (leftL (rec full j z) x0 y0)) (List.drop 0 (leftL (rec full j z) x0 y0))) = 0)) (cond (decide (List.length inn + List.length ([partM (rec full j z) x0 y0]) = List.length (List.take (List.length inn) inn ++ [partM (rec full j z) x0 y0])) && (decide (List.length inn + List.length ([partM (rec full j z) x0 y0]) = List.length inn + List.length ([partM (rec full j z) x0 y0])) && true)) (cond (decide (n - Int.toNat (IntKind.wrap IntKind.i64 (z + 1)) < m)) (cond (Nat.beq (List.length inn + List.length ([partM (rec full j z) x0 y0])) (List.length (List.take (List.length inn) inn ++ [partM (rec full j z) x0 y0])) && (Nat.beq (List.length out) (List.length out) && P17 j n full n' (IntKind.wrap IntKind.i64 (z + 1)) (List.take (List.length inn) inn ++ [partM (rec full j z) x0 y0]) out)) ((k1 (envZ [6, 7] [DV.ns 1 (List.length (SI j n full (IntKind.wrap IntKind.i64 (z + 1)) x0 y0 (List.take (List.length inn) inn ++ [partM (rec full j z) x0 y0]))) 4, DV.ns 2 (List.length (SO leftL j n full (IntKind.wrap IntKind.i64 (z + 1)) x0 y0 out)) 4]) (mkD [DO.r RK.msg full sp el, DO.rn RK.msg (SI j n full (IntKind.wrap IntKind.i64 (z + 1)) x0 y0 (List.take (List.length inn) inn ++ [partM (rec full j z) x0 y0])) 31, DO.rn RK.msg (SO leftL j n full (IntKind.wrap IntKind.i64 (z + 1)) x0 y0 out) 31] 1)).ev) none) none) none) (cond (roomFor (List.length out + List.length (List.take (List.length (leftL (rec full j z) x0 y0)) (List.drop 0 (leftL (rec full j z) x0 y0)))) 56) (cond (decide (List.length inn + List.length ([partM (rec full j z) x0 y0]) = List.length (List.take (List.length inn) inn ++ [partM (rec full j z) x0 y0])) && (decide (List.length inn + List.length ([partM (rec full j z) x0 y0]) = List.length inn + List.length ([partM (rec full j z) x0 y0])) && true)) (cond (decide (List.length out + List.length (List.take (List.length (leftL (rec full j z) x0 y0)) (List.drop 0 (leftL (rec full j z) x0 y0))) = List.length (List.take (List.length out) out ++ List.take (List.length (leftL (rec full j z) x0 y0)) (List.drop 0 (leftL (rec full j z) x0 y0)))) && (decide (List.length out + List.length (List.take (List.length (leftL (rec full j z) x0 y0)) (List.drop 0 (leftL (rec full j z) x0 y0))) = List.length out + List.length (List.take (List.length (leftL (rec full j z) x0 y0)) (List.drop 0 (leftL (rec full j z) x0 y0)))) && !decide (List.length out + List.length (List.take (List.length (leftL (rec full j z) x0 y0)) (List.drop 0 (leftL (rec full j z) x0 y0))) = 0))) (cond (decide (n - Int.toNat (IntKind.wrap IntKind.i64 (z + 1)) < m)) (cond (Nat.beq (List.length inn + List.length ([partM (rec full j z) x0 y0])) (List.length (List.take (List.length inn) inn ++ [partM (rec full j z) x0 y0])) && (Nat.beq (List.length out + List.length (List.take (List.length (leftL (rec full j z) x0 y0)) (List.drop 0 (leftL (rec full j z) x0 y0)))) (List.length (List.take (List.length out) out ++ List.take (List.length (leftL (rec full j z) x0 y0)) (List.drop 0 (leftL (rec full j z) x0 y0)))) && P17 j n full n' (IntKind.wrap IntKind.i64 (z + 1)) (List.take (List.length inn) inn ++ [partM (rec full j z) x0 y0]) (List.take (List.length out) out ++ List.take (List.length (leftL (rec full j z) x0 y0)) (List.drop 0 (leftL (rec full j z) x0 y0))))) ((k1 (envZ [6, 7] [DV.ns 1 (List.length (SI j n full (IntKind.wrap IntKind.i64 (z + 1)) x0 y0 (List.take (List.length inn) inn ++ [partM (rec full j z) x0 y0]))) 4, DV.ns 2 (List.length (SO leftL j n full (IntKind.wrap IntKind.i64 (z + 1)) x0 y0 (List.take (List.length out) out ++ List.take (List.length (leftL (rec full j z) x0 y0)) (List.drop 0 (leftL (rec full j z) x0 y0))))) 4]) (mkD [DO.r RK.msg full sp el, DO.rn RK.msg (SI j n full (IntKind.wrap IntKind.i64 (z + 1)) x0 y0 (List.take (List.length inn) inn ++ [partM (rec full j z) x0 y0])) 31, DO.rn RK.msg (SO leftL j n full (IntKind.wrap IntKind.i64 (z + 1)) x0 y0 (List.take (List.length out) out ++ List.take (List.length (leftL (rec full j z) x0 y0)) (List.drop 0 (leftL (rec full j z) x0 y0)))) 31] 1)).ev) none) none) none) none) none)) none) none)) none) none) none) (cond (Nat.ble (List.length out) (List.length out)) (cond (roomFor (List.length out + List.length ([(rec full j z)])) 56) (cond (decide (List.length out + List.length ([(rec full j z)]) = List.length (List.take (List.length out) out ++ [(rec full j z)])) && (decide (List.length out + List.length ([(rec full j z)]) = List.length out + List.length ([(rec full j z)])) && true)) (cond (decide (n - Int.toNat (IntKind.wrap IntKind.i64 (z + 1)) < m)) (cond (Nat.beq (List.length inn) (List.length inn) && (Nat.beq (List.length out + List.length ([(rec full j z)])) (List.length (List.take (List.length out) out ++ [(rec full j z)])) && P17 j n full n' (IntKind.wrap IntKind.i64 (z + 1)) inn (List.take (List.length out) out ++ [(rec full j z)]))) ((k1 (envZ [6, 7] [DV.ns 1 (List.length (SI j n full (IntKind.wrap IntKind.i64 (z + 1)) x0 y0 inn)) 4, DV.ns 2 (List.length (SO leftL j n full (IntKind.wrap IntKind.i64 (z + 1)) x0 y0 (List.take (List.length out) out ++ [(rec full j z)]))) 4]) (mkD [DO.r RK.msg full sp el, DO.rn RK.msg (SI j n full (IntKind.wrap IntKind.i64 (z + 1)) x0 y0 inn) 31, DO.rn RK.msg (SO leftL j n full (IntKind.wrap IntKind.i64 (z + 1)) x0 y0 (List.take (List.length out) out ++ [(rec full j z)])) 31] 1)).ev) none) none) none) none) none)) none) none) ((k1 (envZ [6, 7] [DV.ns 1 (List.length inn) 4, DV.ns 2 (List.length out) 4]) (mkD [DO.r RK.msg full sp el, DO.rn RK.msg inn 31, DO.rn RK.msg out 31] 1)).ev) := by kernel_rfl
theorem step17 (j n c : Nat) (ex : Bool) (x0 y0 : Txt) (n' z : Int) (full inn out : List Msg) (sp : Bool) (el : R.EL) (rd k1 : R.EK) (y : List (Nat × R.EK)) (w : R.DV × R.DH) (hw : ((lt17 inn.length out.length j n c ex x0 y0 n' z full inn out sp el).tree 1 ld17 rd ((0, k1) :: y)).ev = some w) :
    (turnD C Y1 (fun _ => none) 110 44 1 0 b17 ld17 (n - z.toNat) [.str x0, .str y0, .ns 1 inn.length 4, .ns 2 out.length 4, .rs 0 j n c 4 ex, .int .i64 n', .int .i64 z] [.r .msg full sp el, .rn .msg inn 31, .rn .msg out 31] rd k1 y).ev = some w := by
  replace hw := lt_need hw
  obtain ⟨hp, hw⟩ := hw
  have bI : Nat.beq inn.length inn.length = true := Nat.beq_refl _
  have bO : Nat.beq out.length out.length = true := Nat.beq_refl _
  rw [bI, bO] at hp
  simp only [Bool.true_and, P17, decide_eq_true_eq] at hp
  obtain ⟨rfl, p1, p2, p3, p4, p5, p6⟩ := hp
  replace hw : (k1 (envZ [6, 7] [.ns 1 (SI j n full z x0 y0 inn).length 4, .ns 2 (SO leftL j n full z x0 y0 out).length 4]) (mkD [.r .msg full sp el, .rn .msg (SI j n full z x0 y0 inn) 31, .rn .msg (SO leftL j n full z x0 y0 out) 31] 1)).ev = some w := hw
  rw [turn17]
  by_cases h1 : z < n
  · have cz : (decide (0 ≤ z) && decide (z.toNat < n)) = true := by rw [decide_eq_true p3, decide_eq_true (show z.toNat < n by omega)]; rfl
    have cz2 : Nat.blt (j + z.toNat) full.length = true := by
      have : j + z.toNat < full.length := by omega
      simpa using this
    have lI : Nat.ble inn.length inn.length = true := Nat.ble_eq_true_of_le (Nat.le_refl _)
    have lO : Nat.ble out.length out.length = true := Nat.ble_eq_true_of_le (Nat.le_refl _)
    have hm : decide (n - (z + 1).toNat < n - z.toNat) = true := decide_eq_true (by omega)
    have bI1 : Nat.beq (inn.length + 1) (inn.length + 1) = true := Nat.beq_refl _
    have bO1 : Nat.beq (out.length + 1) (out.length + 1) = true := Nat.beq_refl _
    have r1 : roomFor (inn.length + 1) 56 = true := room_msg (by omega)
    have r2 : roomFor (out.length + 1) 56 = true := room_msg (by omega)
    have ne1 : decide (inn.length + 1 = 0) = false := rfl
    have ne2 : decide (out.length + 1 = 0) = false := rfl
    have len2 := leftL_len (rec full j z) x0 y0
    have eI := SI_step (inn := inn) (x := x0) (y := y0) p1 p3 h1
    have eO := SO_step (lf := leftL) (out := out) (x := x0) (y := y0) p1 p3 h1
    rw [eI, eO] at hw
    rw [cT h1, nextI p3 h1 (by omega)]
    cases hp : partOk (rec full j z) x0 y0 with
    | false =>
      rw [hp] at hw
      have hP : P17 j n full n (z + 1) inn (out ++ [rec full j z]) = true := by
        simp only [P17, decide_eq_true_eq]
        refine ⟨trivial, p1, p2, ?_, ?_, ?_, ?_⟩ <;> first | omega | (rw [List.length_append]; simp; omega)
      simp only [cz, cz2, hp, lI, lO, hm, bI, bO, bO1, r2, ne2, hP, List.take_length, List.length_append, List.length_cons, List.length_nil, Nat.zero_add, decide_true, Bool.true_and, Bool.and_true, Bool.not_false, cond_true, cond_false]
      exact hw
    | true =>
      rw [hp] at hw
      have hP : P17 j n full n (z + 1) (inn ++ [partM (rec full j z) x0 y0]) (out ++ leftL (rec full j z) x0 y0) = true := by
        simp only [P17, decide_eq_true_eq]
        refine ⟨trivial, p1, p2, ?_, ?_, ?_, ?_⟩ <;> first | omega | (rw [List.length_append]; simp; omega)
      cases hL : Nat.beq (leftL (rec full j z) x0 y0).length 0 with
      | true =>
        have h0 : leftL (rec full j z) x0 y0 = [] := List.length_eq_zero_iff.1 (Nat.eq_of_beq_eq_true hL)
        rw [h0, List.append_nil] at hP
        rw [show cond true (leftL (rec full j z) x0 y0) [rec full j z] = leftL (rec full j z) x0 y0 from rfl, h0, List.append_nil] at hw
        simp only [cz, cz2, hp, hL, lI, lO, hm, bI, bO, bI1, r1, ne1, hP, List.take_length, List.length_append, List.length_cons, List.length_nil, Nat.zero_add, decide_true, Bool.true_and, Bool.and_true, Bool.not_false, cond_true, cond_false]
        exact hw
      | false =>
        have h0 : (leftL (rec full j z) x0 y0).length ≠ 0 := fun e => by rw [e] at hL; cases hL
        have hne : decide ((leftL (rec full j z) x0 y0).length = 0) = false := decide_eq_false h0
        have hne2 : decide (out.length + (leftL (rec full j z) x0 y0).length = 0) = false := decide_eq_false (by omega)
        have lL : Nat.ble (leftL (rec full j z) x0 y0).length (leftL (rec full j z) x0 y0).length = true := Nat.ble_eq_true_of_le (Nat.le_refl _)
        have r3 : roomFor (out.length + (leftL (rec full j z) x0 y0).length) 56 = true := room_msg (by omega)
        have bL : Nat.beq (out.length + (leftL (rec full j z) x0 y0).length) (out.length + (leftL (rec full j z) x0 y0).length) = true := Nat.beq_refl _
        simp only [cz, cz2, hp, hL, hne, hne2, lL, lI, lO, hm, bI, bO, bI1, bL, r1, r3, ne1, hP, List.drop_zero, List.take_length, List.length_append, List.length_cons, List.length_nil, Nat.zero_add, decide_true, Bool.true_and, Bool.and_true, Bool.not_false, cond_true, cond_false]
        exact hw
  · rw [cF h1]
    have eI : SI j n full z x0 y0 inn = inn := by
      unfold SI
      rw [seg_end p1 h1 p3]; exact List.append_nil _
    have eO : SO leftL j n full z x0 y0 out = out := by
      unfold SO
      rw [seg_end p1 h1 p3]; exact List.append_nil _
    rw [eI, eO] at hw
    exact hw
theorem loop17 {n : Nat} (hn : 110 ≤ n) : LoopOk C.G 1 (callO noTmps C.O C.tab n) n 110 44 0 b17 ld17 := by
  refine loop_of C Y1 (lh := fun _ => none) hn ?_ (fun p _ ld h => by cases h) ?_
  · exact wf_loops _ none (wf_body (f := 17) rfl) (0, b17) (by rw [show loopsIn none c17.body = [(0, b17)] from rfl]; exact List.mem_cons_self)
  intro vs ao m t hs rd k1 y w hw
  unfold ld17 at hs
  simp only at hs
  split at hs
  case h_2 => cases hs
  cases hs
  have hp := (lt_need hw).1
  simp only [Bool.and_eq_true] at hp
  obtain ⟨h1, h2, _⟩ := hp
  have h1 := Nat.eq_of_beq_eq_true h1
  have h2 := Nat.eq_of_beq_eq_true h2
  subst h1 h2
  exact step17 _ _ _ _ _ _ _ _ _ _ _ _ _ _ _ _ _ hw
def outP17 (full : List Msg) (j n : Nat) (x y : Txt) : RD := .need (okG full j n) (.v (.tup [.ns 1 (inL x y (seg full j n)).length 4, .ns 2 (restL leftL x y (seg full j n)).length 4]) [.rn .msg (inL x y (seg full j n)) 31, .rn .msg (restL leftL x y (seg full j n)) 31])
theorem run17 (j n c : Nat) (ex : Bool) (x0 y0 : Txt) (full : List Msg) (sp : Bool) (el : R.EL) : runD C Y1 (lhX ld17) 110 c17 [.rs 0 j n c 4 ex, .str x0, .str y0] [.r .msg full sp el] =
    cond (decide (n - 0 < 110)) (cond (P17 j n full (↑n : Int) 0 [] []) (some (R.DV.tup [DV.ns 1 (List.length (SI j n full 0 x0 y0 [])) 4, DV.ns 2 (List.length (SO leftL j n full 0 x0 y0 [])) 4], (mkD [DO.r RK.msg full sp el, DO.rn RK.msg (SI j n full 0 x0 y0 []) 31, DO.rn RK.msg (SO leftL j n full 0 x0 y0 []) 31] 1))) none) none := by kernel_rfl
theorem law17 (j n c : Nat) (ex : Bool) (x0 y0 : Txt) (full : List Msg) (sp : Bool) (el : R.EL) : LawOk C.G C.O C.tab 17 111 [.r .msg full sp el] [.rs 0 j n c 4 ex, .str x0, .str y0] (outP17 full j n x0 y0) := by
  refine law_of C Y1 (lhX ld17) rfl rfl (fun n hn => lhX_ok (Q := fun i b ld => LoopOk C.G 1 (callO noTmps C.O C.tab n) n 110 44 i b ld) rfl (loop17 hn)) fun z hz => ?_
  obtain ⟨hp, hz⟩ := R.ev_need hz
  refine (run17 j n c ex x0 y0 full sp el).trans ?_
  obtain ⟨p1, p2⟩ := okG_iff.1 hp
  have e4 : P17 j n full n 0 [] [] = true := by
    simp only [P17, decide_eq_true_eq]
    refine ⟨trivial, p1, p2, ?_, ?_, ?_, ?_⟩ <;> first | omega | simp
  rw [e4, cT (show n - 0 < 110 by omega)]
  exact Eq.trans rfl hz
theorem law17n (x0 y0 : Txt) : LawOk C.G C.O C.tab 17 111 [] [.nils, .str x0, .str y0] (.v (.tup [.nils, .nils]) []) := by
  refine law_of C Y1 (fun _ => none) rfl rfl (fun n hn p _ ld e => by cases e) fun z hz => ?_
  refine Eq.trans ?_ hz
  kernel_rfl

def b18 : CC := match loopsIn none c18.body with | [(_, b)] => b | _ => .skip
def lt18 (a b j n c : Nat) (ex : Bool) (x y : Txt) (z : Int) (full inn out : List Msg) (sp : Bool) (el : R.EL) : LT := .need (Nat.beq a inn.length && (Nat.beq b out.length && P17 j n full n z inn out)) (.exit 0 [.ns 1 (SI j n full z x y inn).length 4, .ns 2 (SO leftR j n full z x y out).length 4] [.r .msg full sp el, .rn .msg (SI j n full z x y inn) 31, .rn .msg (SO leftR j n full z x y out) 31])
def ld18 : LoopD := ⟨[(0, none), (1, none), (2, none), (8, some (.msg, 31)), (9, some (.msg, 31)), (10, none)], [(8, some (.msg, 31)), (9, some (.msg, 31))], [], fun vs ao => match vs, ao with
  | [.rs 0 j n c 4 ex, .str x, .str y, .ns 1 a 4, .ns 2 b 4, .int .i64 z], [.r .msg full sp el, .rn .msg inn 31, .rn .msg out 31] => some (n - z.toNat, lt18 a b j n c ex x y z full inn out sp el)
  | _, _ => none⟩
theorem turn18 (j n c : Nat) (ex : Bool) (x0 y0 : Txt) (z : Int) (full inn out : List Msg) (sp : Bool) (el : R.EL) (m : Nat) (rd k1 : R.EK) (y : List (Nat × R.EK)) :
    (turnD C Y1 (fun _ => none) 110 45 1 0 b18 ld18 m [.rs 0 j n c 4 ex, .str x0, .str y0, .ns 1 inn.length 4, .ns 2 out.length 4, .int .i64 z] [.r .msg full sp el, .rn .msg inn 31, .rn .msg out 31] rd k1 y).ev =
    cond (decide (z < (↑n : Int))) (cond (decide (0 ≤ z) && decide (Int.toNat z < n)) (cond (Nat.blt (j + Int.toNat z) (List.length full)) (cond (partOk (rec full j z) x0 y0) (cond (Nat.ble (List.length inn) (List.length inn)) (cond (roomFor (List.length inn + List.length ([partM (rec full j z) x0 y0])) 56) (cond (decide (0 ≤ z) && decide (Int.toNat z < n)) (cond (Nat.blt (j + Int.toNat z) (List.length full)) (cond (partOk (rec full j z) x0 y0) (cond (Nat.beq (List.length (leftR (rec full j z) x0 y0)) 0) (cond (Nat.ble (List.length out) (List.length out)) (cond (decide (List.length inn + List.length ([partM (rec full j z) x0 y0]) = List.length (List.take (List.length inn) inn ++ [partM (rec full j z) x0 y0])) && (decide (List.length inn + List.length ([partM (rec full j z) x0 y0]) = List.length inn + List.length ([partM (rec full j z) x0 y0])) && true)) (cond (decide (n - Int.toNat (IntKind.wrap IntKind.i64 (z + 1)) < m)) (cond (Nat.beq (List.length inn + List.length ([partM (rec full j z) x0 y0])) (List.length (List.take (List.length inn) inn ++ [partM (rec full j z) x0 y0])) && (Nat.beq (List.length out) (List.length out) && P17 j n full n (IntKind.wrap IntKind.i64 (z + 1)) (List.take (List.length inn) inn ++ [partM (rec full j z) x0 y0]) out)) ((k1 (envZ [8, 9] [DV.ns 1 (List.length (SI j n full (IntKind.wrap IntKind.i64 (z + 1)) x0 y0 (List.take (List.length inn) inn ++ [partM (rec full j z) x0 y0]))) 4, DV.ns 2 (List.length (SO leftR j n full (IntKind.wrap IntKind.i64 (z + 1)) x0 y0 out)) 4]) (mkD [DO.r RK.msg full sp el, DO.rn RK.msg (SI j n full (IntKind.wrap IntKind.i64 (z + 1)) x0 y0 (List.take (List.length inn) inn ++ [partM (rec full j z) x0 y0])) 31, DO.rn RK.msg (SO leftR j n full (IntKind.wrap IntKind.i64 (z + 1)) x0 y0 out) 31] 1)).ev) none) none) none) none) (cond (Nat.ble (0 + List.length (leftR (rec full j z) x0 y0)) (List.length (leftR (rec full j z) x0 y0))) (cond (Nat.ble (List.length out) (List.length out)) (cond (decide (List.length (List.take (List.length (leftR (rec full j z) x0 y0)) (List.drop 0 (leftR (rec full j z) x0 y0))) = 0)) (cond (decide (List.length inn + List.length ([partM (rec full j z) x0 y0]) = List.length (List.take (List.length inn) inn ++ [partM (rec full j z) x0 y0])) && (decide (List.length inn + List.length ([partM (rec full j z) x0 y0]) = List.length inn + List.length ([partM (rec full j z) x0 y0])) && true)) (cond (decide (n - Int.toNat (IntKind.wrap IntKind.i64 (z + 1)) < m)) (cond (Nat.beq (List.length inn + List.length ([partM (rec full j z) x0 y0])) (List.length (List.take (List.length inn) inn ++ [partM (rec full j z) x0 y0])) && (Nat.beq (List.length out) (List.length out) && P17 j n full n (IntKind.wrap IntKind.i64 (z + 1)) (List.take (List.length inn) inn ++ [partM (rec full j z) x0 y0]) out)) ((k1 (envZ [8, 9] [DV.ns 1 (List.length (SI j n full (IntKind.wrap IntKind.i64 (z + 1)) x0 y0 (List.take (List.length inn) inn ++ [partM (rec full j z) x0 y0]))) 4, DV.ns 2 (List.length (SO leftR j n full (IntKind.wrap IntKind.i64 (z + 1)) x0 y0 out)) 4]) (mkD [DO.r RK.msg full sp el, DO.rn RK.msg (SI j n full (IntKind.wrap IntKind.i64 (z + 1)) x0 y0 (List.take (List.length inn) inn ++ [partM (rec full j z) x0 y0])) 31, DO.rn RK.msg (SO leftR j n full (IntKind.wrap IntKind.i64 (z + 1)) x0 y0 out) 31] 1)).ev) none) none) none) (cond (roomFor (List.length out + List.length (List.take (List.length (leftR (rec full j z) x0 y0)) (List.drop 0 (leftR (rec full j z) x0 y0)))) 56) (cond (decide (List.length inn + List.length ([partM (rec full j z) x0 y0]) = List.length (List.take (List.length inn) inn ++ [partM (rec full j z) x0 y0])) && (decide (List.length inn + List.length ([partM (rec full j z) x0 y0]) = List.length inn + List.length ([partM (rec full j z) x0 y0])) && true)) (cond (decide (List.length out + List.length (List.take (List.length (leftR (rec full j z) x0 y0)) (List.drop 0 (leftR (rec full j z) x0 y0))) = List.length (List.take (List.length out) out ++ List.take (List.length (leftR (rec full j z) x0 y0)) (List.drop 0 (leftR (rec full j z) x0 y0)))) && (decide (List.length out + List.length (List.take (List.length (leftR (rec full j z) x0 y0)) (List.drop 0 (leftR (rec full j z) x0 y0))) = List.length out + List.length (List.take (List.length (leftR (rec full j z) x0 y0)) (List.drop 0 (leftR (rec full j z) x0 y0)))) && !decide (List.length out + List.length (List.take (List.length (leftR (rec full j z) x0 y0)) (List.drop 0 (leftR (rec full j z) x0 y0))) = 0))) (cond (decide (n - Int.toNat (IntKind.wrap IntKind.i64 (z + 1)) < m)) (cond (Nat.beq (List.length inn + List.length ([partM (rec full j z) x0 y0])) (List.length (List.take (List.length inn) inn ++ [partM (rec full j z) x0 y0])) && (Nat.beq (List.length out + List.length (List.take (List.length (leftR (rec full j z) x0 y0)) (List.drop 0 (leftR (rec full j z) x0 y0)))) (List.length (List.take (List.length out) out ++ List.take (List.length (leftR (rec full j z) x0 y0)) (List.drop 0 (leftR (rec full j z) x0 y0)))) && P17 j n full n (IntKind.wrap IntKind.i64 (z + 1)) (List.take (List.length inn) inn ++ [partM (rec full j z) x0 y0]) (List.take (List.length out) out ++ List.take (List.length (leftR (rec full j z) x0 y0)) (List.drop 0 (leftR (rec full j z) x0 y0))))) ((k1 (envZ [8, 9] [DV.ns 1 (List.length (SI j n full (IntKind.wrap IntKind.i64 (z + 1)) x0 y0 (List.take (List.length inn) inn ++ [partM (rec full j z) x0 y0]))) 4, DV.ns 2 (List.length (SO leftR j n full (IntKind.wrap IntKind.i64 (z + 1)) x0 y0 (List.take (List.length out) out ++ List.take (List.length (leftR (rec full j z) x0 y0)) (List.drop 0 (leftR (rec full j z) x0 y0))))) 4]) (mkD [DO.r RK.msg full sp el, DO.rn RK.msg (SI j n full (IntKind.wrap IntKind.i64 (z + 1)) x0 y0 (List.take (List.length inn) inn ++ [partM (rec full j z) x0 y0])) 31, DO.rn RK.msg (SO leftR j n full (IntKind.wrap IntKind.i64 (z + 1)) x0 y0 (List.take (List.length out) out ++ List.take (List.length (leftR (rec full j z) x0 y0)) (List.drop 0 (leftR (rec full j z) x0 y0)))) 31] 1)).ev) none) none) none) none) none)) none) none)) (cond (Nat.ble (List.length out) (List.length out)) (cond (roomFor (List.length out + List.length ([(rec full j z)])) 56) (cond (decide (List.length inn + List.length ([partM (rec full j z) x0 y0]) = List.length (List.take (List.length inn) inn ++ [partM (rec full j z) x0 y0])) && (decide (List.length inn + List.length ([partM (rec full j z) x0 y0]) = List.length inn + List.length ([partM (rec full j z) x0 y0])) && true)) (cond (decide (List.length out + List.length ([(rec full j z)]) = List.length (List.take (List.length out) out ++ [(rec full j z)])) && (decide (List.length out + List.length ([(rec full j z)]) = List.length out + List.length ([(rec full j z)])) && true)) (cond (decide (n - Int.toNat (IntKind.wrap IntKind.i64 (z + 1)) < m)) (cond (Nat.beq (List.length inn + List.length ([partM (rec full j z) x0 y0])) (List.length (List.take (List.length inn) inn ++ [partM (rec full j z) x0 y0])) && (Nat.beq (List.length out + List.length ([(rec full j z)])) (List.length (List.take (List.length out) out ++ [(rec full j z)])) && P17 j n full n (IntKind.wrap IntKind.i64 (z + 1)) (List.take (List.length inn) inn ++ [partM (rec full j z) x0 y0]) (List.take (List.length out) out ++ [(rec full j z)]))) ((k1 (envZ [8, 9] [DV.ns 1 (List.length (SI j n full (IntKind.wrap IntKind.i64 (z + 1)) x0 y0 (List.take (List.length inn) inn ++ [partM (rec full j z) x0 y0]))) 4, DV.ns 2 (List.length (SO leftR j n full (IntKind.wrap IntKind.i64 (z + 1)) x0 y0 (List.take (List.length out) out ++ [(rec full j z)]))) 4]) (mkD [DO.r RK.msg full sp el, DO.rn RK.msg (SI j n full (IntKind.wrap IntKind.i64 (z + 1)) x0 y0 (List.take (List.length inn) inn ++ [partM (rec full j z) x0 y0])) 31, DO.rn RK.msg (SO leftR j n full (IntKind.wrap IntKind.i64 (z + 1)) x0 y0 (List.take (List.length out) out ++ [(rec full j z)])) 31] 1)).ev) none) none) none) none) none) none)) none) none) none) none) (cond (decide (0 ≤ z) && decide (Int.toNat z < n)) (cond (Nat.blt (j + Int.toNat z) (List.length full)) (cond (partOk (rec full j z) x0 y0) (cond (Nat.beq (List.length (leftR (rec full j z) x0 y0)) 0) (cond (Nat.ble (List.length out) (List.length out)) (cond (decide (n - Int.toNat (IntKind.wrap IntKind.i64 (z + 1)) < m)) (cond (Nat.beq (List.length inn) (List.length inn) && (Nat.beq (List.length out) (List.length out) && P17 j n full n (IntKind.wrap IntKind.i64 (z + 1)) inn out)) ((k1 (envZ [8, 9] [DV.ns 1 (List.length (SI j n full (IntKind.wrap IntKind.i64 (z + 1)) x0 y0 inn)) 4, DV.ns 2 (List.length (SO leftR j n full (IntKind.wrap IntKind.i64 (z + 1)) x0 y0 out)) 4]) (mkD [DO.r RK.msg full sp el, DO.rn RK.msg (SI j n full (IntKind.wrap IntKind.i64 (z + 1)) x0 y0 inn) 31, DO.rn RK.msg (SO leftR j n full (IntKind.wrap IntKind.i64 (z + 1)) x0 y0 out) 31] 1)).ev) none) none) none) (cond (Nat.ble (0 + List.length (leftR (rec full j z) x0 y0)) (List.length (leftR (rec full j z) x0 y0))) (cond (Nat.ble (List.length out) (List.length out)) (cond (decide (List.length (List.take (List.length (leftR (rec full j z) x0 y0)) (List.drop 0 (leftR (rec full j z) x0 y0))) = 0)) (cond (decide (n - Int.toNat (IntKind.wrap IntKind.i64 (z + 1)) < m)) (cond (Nat.beq (List.length inn) (List.length inn) && (Nat.beq (List.length out) (List.length out) && P17 j n full n (IntKind.wrap IntKind.i64 (z + 1)) inn out)) ((k1 (envZ [8, 9] [DV.ns 1 (List.length (SI j n full (IntKind.wrap IntKind.i64 (z + 1)) x0 y0 inn)) 4, DV.ns 2 (List.length (SO leftR j n full (IntKind.wrap IntKind.i64 (z + 1)) x0 y0 out)) 4]) (mkD [DO.r RK.msg full sp el, DO.rn RK.msg (SI j n full (IntKind.wrap IntKind.i64 (z + 1)) x0 y0 inn) 31, DO.rn RK.msg (SO leftR j n full (IntKind.wrap IntKind.i64 (z + 1)) x0 y0 out) 31] 1)).ev) none) none) (cond (roomFor (List.length out + List.length (List.take (List.length (leftR (rec full j z) x0 y0)) (List.drop 0 (leftR (rec full j z) x0 y0)))) 56) (cond (decide (List.length out + List.length (List.take (List.length (leftR (rec full j z) x0 y0)) (List.drop 0 (leftR (rec full j z) x0 y0))) = List.length (List.take (List.length out) out ++ List.take (List.length (leftR (rec full j z) x0 y0)) (List.drop 0 (leftR (rec full j z) x0 y0)))) && (decide (List.length out + List.length (List.take (List.length (leftR (rec full j z) x0 y0)) (List.drop 0 (leftR (rec full j z) x0 y0))) = List.length out + List.length (List.take (List.length (leftR (rec full j z) x0 y0)) (List.drop 0 (leftR (rec full j z) x0 y0)))) && !decide (List.length out + List.length (List.take (List.length (leftR (rec full j z) x0 y0)) (List.drop 0 (leftR (rec full j z) x0 y0))) = 0))) (cond (decide (n - Int.toNat (IntKind.wrap IntKind.i64 (z + 1)) < m)) (cond (Nat.beq (List.length inn) (List.length inn) && (Nat.beq (List.length out + List.length (List.take (List.length (leftR (rec full j z) x0 y0)) (List.drop 0 (leftR (rec full j z) x0 y0)))) (List.length (List.take (List.length out) out ++ List.take (List.length (leftR (rec full j z) x0 y0)) (List.drop 0 (leftR (rec full j z) x0 y0)))) && P17 j n full n (IntKind.wrap IntKind.i64 (z + 1)) inn (List.take (List.length out) out ++ List.take (List.length (leftR (rec full j z) x0 y0)) (List.drop 0 (leftR (rec full j z) x0 y0))))) ((k1 (envZ [8, 9] [DV.ns 1 (List.length (SI j n full (IntKind.wrap IntKind.i64 (z + 1)) x0 y0 inn)) 4, DV.ns 2 (List.length (SO leftR j n full (IntKind.wrap IntKind.i64 (z + 1)) x0 y0 (List.take (List.length out) out ++ List.take (List.length (leftR (rec full j z) x0 y0)) (List.drop 0 (leftR (rec full j z) x0 y0))))) 4]) (mkD [DO.r RK.msg full sp el, DO.rn RK.msg (SI j n full (IntKind.wrap IntKind.i64 (z + 1)) x0 y0 inn) 31, DO.rn RK.msg (SO leftR j n full (IntKind.wrap IntKind.i64 (z + 1)) x0 y0 (List.take (List.length out) out ++ List.take (List.length (leftR (rec full j z) x0 y0)) (List.drop 0 (leftR (rec full j z) x0 y0)))) 31] 1)).ev) none) none) none) none)) none) none)) (cond (Nat.ble (List.length out) (List.length out)) (cond (roomFor (List.length out + List.length ([(rec full j z)])) 56) (cond (decide (List.length out + List.length ([(rec full j z)]) = List.length (List.take (List.length out) out ++ [(rec full j z)])) && (decide (List.length out + List.length ([(rec full j z)]) = List.length out + List.length ([(rec full j z)])) && true)) (cond (decide (n - Int.toNat (IntKind.wrap IntKind.i64 (z + 1)) < m)) (cond (Nat.beq (List.length inn) (List.length inn) && (Nat.beq (List.length out + List.length ([(rec full j z)])) (List.length (List.take (List.length out) out ++ [(rec full j z)])) && P17 j n full n (IntKind.wrap IntKind.i64 (z + 1)) inn (List.take (List.length out) out ++ [(rec full j z)]))) ((k1 (envZ [8, 9] [DV.ns 1 (List.length (SI j n full (IntKind.wrap IntKind.i64 (z + 1)) x0 y0 inn)) 4, DV.ns 2 (List.length (SO leftR j n full (IntKind.wrap IntKind.i64 (z + 1)) x0 y0 (List.take (List.length out) out ++ [(rec full j z)]))) 4]) (mkD [DO.r RK.msg full sp el, DO.rn RK.msg (SI j n full (IntKind.wrap IntKind.i64 (z + 1)) x0 y0 inn) 31, DO.rn RK.msg (SO leftR j n full (IntKind.wrap IntKind.i64 (z + 1)) x0 y0 (List.take (List.length out) out ++ [(rec full j z)])) 31] 1)).ev) none) none) none) none) none)) none) none)) none) none) ((k1 (envZ [8, 9] [DV.ns 1 (List.length inn) 4, DV.ns 2 (List.length out) 4]) (mkD [DO.r RK.msg full sp el, DO.rn RK.msg inn 31, DO.rn RK.msg out 31] 1)).ev) := by kernel_rfl
theorem step18 (j n c : Nat) (ex : Bool) (x0 y0 : Txt) (z : Int) (full inn out : List Msg) (sp : Bool) (el : R.EL) (rd k1 : R.EK) (y : List (Nat × R.EK)) (w : R.DV × R.DH) (hw : ((lt18 inn.length out.length j n c ex x0 y0 z full inn out sp el).tree 1 ld18 rd ((0, k1) :: y)).ev = some w) :
    (turnD C Y1 (fun _ => none) 110 45 1 0 b18 ld18 (n - z.toNat) [.rs 0 j n c 4 ex, .str x0, .str y0, .ns 1 inn.length 4, .ns 2 out.length 4, .int .i64 z] [.r .msg full sp el, .rn .msg inn 31, .rn .msg out 31] rd k1 y).ev = some w := by
  replace hw := lt_need hw
  obtain ⟨hp, hw⟩ := hw
  have bI : Nat.beq inn.length inn.length = true := Nat.beq_refl _
  have bO : Nat.beq out.length out.length = true := Nat.beq_refl _
  rw [bI, bO] at hp
  simp only [Bool.true_and, P17, decide_eq_true_eq] at hp
  obtain ⟨_, p1, p2, p3, p4, p5, p6⟩ := hp
  replace hw : (k1 (envZ [8, 9] [.ns 1 (SI j n full z x0 y0 inn).length 4, .ns 2 (SO leftR j n full z x0 y0 out).length 4]) (mkD [.r .msg full sp el, .rn .msg (SI j n full z x0 y0 inn) 31, .rn .msg (SO leftR j n full z x0 y0 out) 31] 1)).ev = some w := hw
  rw [turn18]
  by_cases h1 : z < n
  · have cz : (decide (0 ≤ z) && decide (z.toNat < n)) = true := by rw [decide_eq_true p3, decide_eq_true (show z.toNat < n by omega)]; rfl
    have cz2 : Nat.blt (j + z.toNat) full.length = true := by
      have : j + z.toNat < full.length := by omega
      simpa using this
    have lI : Nat.ble inn.length inn.length = true := Nat.ble_eq_true_of_le (Nat.le_refl _)
    have lO : Nat.ble out.length out.length = true := Nat.ble_eq_true_of_le (Nat.le_refl _)
    have hm : decide (n - (z + 1).toNat < n - z.toNat) = true := decide_eq_true (by omega)
    have bI1 : Nat.beq (inn.length + 1) (inn.length + 1) = true := Nat.beq_refl _
    have bO1 : Nat.beq (out.length + 1) (out.length + 1) = true := Nat.beq_refl _
    have r1 : roomFor (inn.length + 1) 56 = true := room_msg (by omega)
    have r2 : roomFor (out.length + 1) 56 = true := room_msg (by omega)
    have ne1 : decide (inn.length + 1 = 0) = false := rfl
    have ne2 : decide (out.length + 1 = 0) = false := rfl
    have len2 := leftR_len (rec full j z) x0 y0
    have eI := SI_step (inn := inn) (x := x0) (y := y0) p1 p3 h1
    have eO := SO_step (lf := leftR) (out := out) (x := x0) (y := y0) p1 p3 h1
    rw [eI, eO] at hw
    rw [cT h1, nextI p3 h1 (by omega)]
    cases hp : partOk (rec full j z) x0 y0 with
    | false =>
      rw [hp] at hw
      have hP : P17 j n full n (z + 1) inn (out ++ [rec full j z]) = true := by
        simp only [P17, decide_eq_true_eq]
        refine ⟨trivial, p1, p2, ?_, ?_, ?_, ?_⟩ <;> first | omega | (rw [List.length_append]; simp; omega)
      simp only [cz, cz2, hp, lI, lO, hm, bI, bO, bO1, r2, ne2, hP, List.take_length, List.length_append, List.length_cons, List.length_nil, Nat.zero_add, decide_true, Bool.true_and, Bool.and_true, Bool.not_false, cond_true, cond_false]
      exact hw
    | true =>
      rw [hp] at hw
      have hP : P17 j n full n (z + 1) (inn ++ [partM (rec full j z) x0 y0]) (out ++ leftR (rec full j z) x0 y0) = true := by
        simp only [P17, decide_eq_true_eq]
        refine ⟨trivial, p1, p2, ?_, ?_, ?_, ?_⟩ <;> first | omega | (rw [List.length_append]; simp; omega)
      cases hL : Nat.beq (leftR (rec full j z) x0 y0).length 0 with
      | true =>
        have h0 : leftR (rec full j z) x0 y0 = [] := List.length_eq_zero_iff.1 (Nat.eq_of_beq_eq_true hL)
        rw [h0, List.append_nil] at hP
        rw [show cond true (leftR (rec full j z) x0 y0) [rec full j z] = leftR (rec full j z) x0 y0 from rfl, h0, List.append_nil] at hw
        simp only [cz, cz2, hp, hL, lI, lO, hm, bI, bO, bI1, r1, ne1, hP, List.take_length, List.length_append, List.length_cons, List.length_nil, Nat.zero_add, decide_true, Bool.true_and, Bool.and_true, Bool.not_false, cond_true, cond_false]
        exact hw
      | false =>
        have h0 : (leftR (rec full j z) x0 y0).length ≠ 0 := fun e => by rw [e] at hL; cases hL
        have hne : decide ((leftR (rec full j z) x0 y0).length = 0) = false := decide_eq_false h0
        have hne2 : decide (out.length + (leftR (rec full j z) x0 y0).length = 0) = false := decide_eq_false (by omega)
        have lL : Nat.ble (leftR (rec full j z) x0 y0).length (leftR (rec full j z) x0 y0).length = true := Nat.ble_eq_true_of_le (Nat.le_refl _)
        have r3 : roomFor (out.length + (leftR (rec full j z) x0 y0).length) 56 = true := room_msg (by omega)
        have bL : Nat.beq (out.length + (leftR (rec full j z) x0 y0).length) (out.length + (leftR (rec full j z) x0 y0).length) = true := Nat.beq_refl _
        simp only [cz, cz2, hp, hL, hne, hne2, lL, lI, lO, hm, bI, bO, bI1, bL, r1, r3, ne1, hP, List.drop_zero, List.take_length, List.length_append, List.length_cons, List.length_nil, Nat.zero_add, decide_true, Bool.true_and, Bool.and_true, Bool.not_false, cond_true, cond_false]
        exact hw
  · rw [cF h1]
    have eI : SI j n full z x0 y0 inn = inn := by
      unfold SI
      rw [seg_end p1 h1 p3]; exact List.append_nil _
    have eO : SO leftR j n full z x0 y0 out = out := by
      unfold SO
      rw [seg_end p1 h1 p3]; exact List.append_nil _
    rw [eI, eO] at hw
    exact hw
theorem loop18 {n : Nat} (hn : 110 ≤ n) : LoopOk C.G 1 (callO noTmps C.O C.tab n) n 110 45 0 b18 ld18 := by
  refine loop_of C Y1 (lh := fun _ => none) hn ?_ (fun p _ ld h => by cases h) ?_
  · exact wf_loops _ none (wf_body (f := 18) rfl) (0, b18) (by rw [show loopsIn none c18.body = [(0, b18)] from rfl]; exact List.mem_cons_self)
  intro vs ao m t hs rd k1 y w hw
  unfold ld18 at hs
  simp only at hs
  split at hs
  case h_2 => cases hs
  cases hs
  have hp := (lt_need hw).1
  simp only [Bool.and_eq_true] at hp
  obtain ⟨h1, h2, _⟩ := hp
  have h1 := Nat.eq_of_beq_eq_true h1
  have h2 := Nat.eq_of_beq_eq_true h2
  subst h1 h2
  exact step18 _ _ _ _ _ _ _ _ _ _ _ _ _ _ _ _ hw
def outP18 (full : List Msg) (j n : Nat) (x y : Txt) : RD := .need (okG full j n) (.v (.tup [.ns 1 (inL x y (seg full j n)).length 4, .ns 2 (restL leftR x y (seg full j n)).length 4]) [.rn .msg (inL x y (seg full j n)) 31, .rn .msg (restL leftR x y (seg full j n)) 31])
theorem run18 (j n c : Nat) (ex : Bool) (x0 y0 : Txt) (full : List Msg) (sp : Bool) (el : R.EL) : runD C Y1 (lhX ld18) 110 c18 [.rs 0 j n c 4 ex, .str x0, .str y0] [.r .msg full sp el] =
    cond (decide (n - 0 < 110)) (cond (P17 j n full n 0 [] []) (some (R.DV.tup [DV.ns 1 (List.length (SI j n full 0 x0 y0 [])) 4, DV.ns 2 (List.length (SO leftR j n full 0 x0 y0 [])) 4], (mkD [DO.r RK.msg full sp el, DO.rn RK.msg (SI j n full 0 x0 y0 []) 31, DO.rn RK.msg (SO leftR j n full 0 x0 y0 []) 31] 1))) none) none := by kernel_rfl
theorem law18 (j n c : Nat) (ex : Bool) (x0 y0 : Txt) (full : List Msg) (sp : Bool) (el : R.EL) : LawOk C.G C.O C.tab 18 111 [.r .msg full sp el] [.rs 0 j n c 4 ex, .str x0, .str y0] (outP18 full j n x0 y0) := by
  refine law_of C Y1 (lhX ld18) rfl rfl (fun n hn => lhX_ok (Q := fun i b ld => LoopOk C.G 1 (callO noTmps C.O C.tab n) n 110 45 i b ld) rfl (loop18 hn)) fun z hz => ?_
  obtain ⟨hp, hz⟩ := R.ev_need hz
  refine (run18 j n c ex x0 y0 full sp el).trans ?_
  obtain ⟨p1, p2⟩ := okG_iff.1 hp
  have e4 : P17 j n full n 0 [] [] = true := by
    simp only [P17, decide_eq_true_eq]
    refine ⟨trivial, p1, p2, ?_, ?_, ?_, ?_⟩ <;> first | omega | simp
  rw [e4, cT (show n - 0 < 110 by omega)]
  exact Eq.trans rfl hz
theorem law18n (x0 y0 : Txt) : LawOk C.G C.O C.tab 18 111 [] [.nils, .str x0, .str y0] (.v (.tup [.nils, .nils]) []) := by
  refine law_of C Y1 (fun _ => none) rfl rfl (fun n hn p _ ld e => by cases e) fun z hz => ?_
  refine Eq.trans ?_ hz
  kernel_rfl
end
end Go.Vm.YtkjjpmbpjfmbcaaGreatDoor
