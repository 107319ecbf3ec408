/-
  Layer 17: the document's First.
-/
import Derived.Test.YtkjjpmbpjfmbcaaGreatDoorL17E
set_option linter.unusedVariables false
set_option linter.unusedSimpArgs false
namespace Go.Vm.YtkjjpmbpjfmbcaaGreatDoor
open Go.Proofs Go.Vm.R
noncomputable section
/-- the first part -/
def firstM (x y : Txt) : List Msg → Msg → Msg
  | [], m => m
  | e :: r, m => cond (partOk e x y) (partM e x y) (firstM x y r m)
/-- what is left behind the first part -/
def restF (lf : Msg → Txt → Txt → List Msg) (x y : Txt) : List Msg → List Msg
  | [] => []
  | e :: r => cond (partOk e x y) (lf e x y ++ r) (e :: restF lf x y r)
def SM (j n : Nat) (full : List Msg) (z : Int) (x y : Txt) (m : Msg) (fo : Bool) : Msg := cond fo m (firstM x y ((seg full j n).drop z.toNat) m)
def SR (j n : Nat) (full : List Msg) (z : Int) (x y : Txt) (rest : List Msg) (fo : Bool) : List Msg := rest ++ cond fo ((seg full j n).drop z.toNat) (restF leftR x y ((seg full j n).drop z.toNat))
def SF (j n : Nat) (full : List Msg) (z : Int) (x y : Txt) (fo : Bool) : Bool := fo || !noP x y ((seg full j n).drop z.toNat)
def P20 (j n : Nat) (full : List Msg) (z : Int) (rest : List Msg) : Bool := decide (j + n ≤ full.length ∧ n < 99 ∧ 0 ≤ z ∧ z ≤ n ∧ (rest.length : Int) ≤ 2 * z)
def b20 : CC := match loopsIn none c20.body with | [(_, b)] => b | _ => .skip
def cellM (m : Msg) : R.DO := .c [.int .i64 m.1, .str m.2.1, .str m.2.2.1, .str m.2.2.2] false 31
def lt20 (a j n c : Nat) (ex : Bool) (x y : Txt) (fo : Bool) (z : Int) (full rest : List Msg) (q m : Msg) (sp : Bool) (el : R.EL) : LT := .need (Nat.beq a rest.length && P20 j n full z rest) (.exit 0 [.ptr 1 0, .ns 2 (SR j n full z x y rest fo).length 4, .ptr 3 0, .bool (SF j n full z x y fo)] [.r .msg full sp el, cellM q, .rn .msg (SR j n full z x y rest fo) 31, cellM (SM j n full z x y m fo)])
def ld20 : LoopD := ⟨[(0, none), (1, none), (2, none), (6, none), (9, some (.msg, 31)), (10, none), (11, none), (12, none)], [(6, none), (9, some (.msg, 31)), (10, none), (11, none)], [], fun vs ao => match vs, ao with
  | [.rs 0 j n c 4 ex, .str x, .str y, .ptr 1 0, .ns 2 a 4, .ptr 3 0, .bool fo, .int .i64 z], [.r .msg full sp el, .c [.int .i64 q0, .str q1, .str q2, .str q3] false 31, .rn .msg rest 31, .c [.int .i64 o, .str k, .str t, .str v] false 31] => some (n - z.toNat, lt20 a j n c ex x y fo z full rest (q0, q1, q2, q3) (o, k, t, v) sp el)
  | _, _ => none⟩
theorem turn20 (j n c : Nat) (ex : Bool) (x0 y0 : Txt) (fo : Bool) (z : Int) (full rest : List Msg) (q0 o : Int) (q1 q2 q3 k t v : Txt) (sp : Bool) (el : R.EL) (m : Nat) (rd k1 : R.EK) (y : List (Nat × R.EK)) :
    (turnD C Y1 (fun _ => none) 110 57 1 0 b20 ld20 m [.rs 0 j n c 4 ex, .str x0, .str y0, .ptr 1 0, .ns 2 rest.length 4, .ptr 3 0, .bool fo, .int .i64 z] [.r .msg full sp el, .c [.int .i64 q0, .str q1, .str q2, .str q3] false 31, .rn .msg rest 31, .c [.int .i64 o, .str k, .str t, .str v] false 31] rd k1 y).ev =
    cond (decide (z < (↑n : Int))) (cond (decide (0 ≤ z) && decide (Int.toNat z < n)) (cond (Nat.blt (j + Int.toNat z) (List.length full)) (cond (partOk (rec full j z) x0 y0) (cond (!fo) (cond (decide (0 ≤ z) && decide (Int.toNat z < n)) (cond (Nat.blt (j + Int.toNat z) (List.length full)) (cond (partOk (rec full j z) x0 y0) (cond (Nat.beq (List.length (leftR (rec full j z) x0 y0)) 0) (cond (Nat.ble (List.length rest) (List.length rest)) (cond (decide (n - Int.toNat (IntKind.wrap IntKind.i64 (z + 1)) < m)) (cond (Nat.beq (List.length rest) (List.length rest) && P20 j n full (IntKind.wrap IntKind.i64 (z + 1)) rest) ((k1 (envZ [6, 9, 10, 11] [R.DV.ptr 1 0, DV.ns 2 (List.length (SR j n full (IntKind.wrap IntKind.i64 (z + 1)) x0 y0 rest true)) 4, R.DV.ptr 3 0, R.DV.bool (SF j n full (IntKind.wrap IntKind.i64 (z + 1)) x0 y0 true)]) (mkD [DO.r RK.msg full sp el, R.DO.c [R.DV.int IntKind.i64 q0, R.DV.str q1, R.DV.str q2, R.DV.str q3] false 31, DO.rn RK.msg (SR j n full (IntKind.wrap IntKind.i64 (z + 1)) x0 y0 rest true) 31, R.DO.c [R.DV.int IntKind.i64 (Prod.fst (SM j n full (IntKind.wrap IntKind.i64 (z + 1)) x0 y0 (partM (rec full j z) x0 y0) true)), R.DV.str (Prod.fst (Prod.snd (SM j n full (IntKind.wrap IntKind.i64 (z + 1)) x0 y0 (partM (rec full j z) x0 y0) true))), R.DV.str (Prod.fst (Prod.snd (Prod.snd (SM j n full (IntKind.wrap IntKind.i64 (z + 1)) x0 y0 (partM (rec full j z) x0 y0) true)))), R.DV.str (Prod.snd (Prod.snd (Prod.snd (SM j n full (IntKind.wrap IntKind.i64 (z + 1)) x0 y0 (partM (rec full j z) x0 y0) true))))] false 31] 1)).ev) none) none) none) (cond (Nat.ble (0 + List.length (leftR (rec full j z) x0 y0)) (List.length (leftR (rec full j z) x0 y0))) (cond (Nat.ble (List.length rest) (List.length rest)) (cond (decide (List.length (List.take (List.length (leftR (rec full j z) x0 y0)) (List.drop 0 (leftR (rec full j z) x0 y0))) = 0)) (cond (decide (n - Int.toNat (IntKind.wrap IntKind.i64 (z + 1)) < m)) (cond (Nat.beq (List.length rest) (List.length rest) && P20 j n full (IntKind.wrap IntKind.i64 (z + 1)) rest) ((k1 (envZ [6, 9, 10, 11] [R.DV.ptr 1 0, DV.ns 2 (List.length (SR j n full (IntKind.wrap IntKind.i64 (z + 1)) x0 y0 rest true)) 4, R.DV.ptr 3 0, R.DV.bool (SF j n full (IntKind.wrap IntKind.i64 (z + 1)) x0 y0 true)]) (mkD [DO.r RK.msg full sp el, R.DO.c [R.DV.int IntKind.i64 q0, R.DV.str q1, R.DV.str q2, R.DV.str q3] false 31, DO.rn RK.msg (SR j n full (IntKind.wrap IntKind.i64 (z + 1)) x0 y0 rest true) 31, R.DO.c [R.DV.int IntKind.i64 (Prod.fst (SM j n full (IntKind.wrap IntKind.i64 (z + 1)) x0 y0 (partM (rec full j z) x0 y0) true)), R.DV.str (Prod.fst (Prod.snd (SM j n full (IntKind.wrap IntKind.i64 (z + 1)) x0 y0 (partM (rec full j z) x0 y0) true))), R.DV.str (Prod.fst (Prod.snd (Prod.snd (SM j n full (IntKind.wrap IntKind.i64 (z + 1)) x0 y0 (partM (rec full j z) x0 y0) true)))), R.DV.str (Prod.snd (Prod.snd (Prod.snd (SM j n full (IntKind.wrap IntKind.i64 (z + 1)) x0 y0 (partM (rec full j z) x0 y0) true))))] false 31] 1)).ev) none) none) (cond (roomFor (List.length rest + List.length (List.take (List.length (leftR (rec full j z) x0 y0)) (List.drop 0 (leftR (rec full j z) x0 y0)))) 56) (cond (decide (List.length rest + List.length (List.take (List.length (leftR (rec full j z) x0 y0)) (List.drop 0 (leftR (rec full j z) x0 y0))) = List.length (List.take (List.length rest) rest ++ List.take (List.length (leftR (rec full j z) x0 y0)) (List.drop 0 (leftR (rec full j z) x0 y0)))) && (decide (List.length rest + List.length (List.take (List.length (leftR (rec full j z) x0 y0)) (List.drop 0 (leftR (rec full j z) x0 y0))) = List.length rest + List.length (List.take (List.length (leftR (rec full j z) x0 y0)) (List.drop 0 (leftR (rec full j z) x0 y0)))) && !decide (List.length rest + List.length (List.take (List.length (leftR (rec full j z) x0 y0)) (List.drop 0 (leftR (rec full j z) x0 y0))) = 0))) (cond (decide (n - Int.toNat (IntKind.wrap IntKind.i64 (z + 1)) < m)) (cond (Nat.beq (List.length rest + List.length (List.take (List.length (leftR (rec full j z) x0 y0)) (List.drop 0 (leftR (rec full j z) x0 y0)))) (List.length (List.take (List.length rest) rest ++ List.take (List.length (leftR (rec full j z) x0 y0)) (List.drop 0 (leftR (rec full j z) x0 y0)))) && P20 j n full (IntKind.wrap IntKind.i64 (z + 1)) (List.take (List.length rest) rest ++ List.take (List.length (leftR (rec full j z) x0 y0)) (List.drop 0 (leftR (rec full j z) x0 y0)))) ((k1 (envZ [6, 9, 10, 11] [R.DV.ptr 1 0, DV.ns 2 (List.length (SR j n full (IntKind.wrap IntKind.i64 (z + 1)) x0 y0 (List.take (List.length rest) rest ++ List.take (List.length (leftR (rec full j z) x0 y0)) (List.drop 0 (leftR (rec full j z) x0 y0))) true)) 4, R.DV.ptr 3 0, R.DV.bool (SF j n full (IntKind.wrap IntKind.i64 (z + 1)) x0 y0 true)]) (mkD [DO.r RK.msg full sp el, R.DO.c [R.DV.int IntKind.i64 q0, R.DV.str q1, R.DV.str q2, R.DV.str q3] false 31, DO.rn RK.msg (SR j n full (IntKind.wrap IntKind.i64 (z + 1)) x0 y0 (List.take (List.length rest) rest ++ List.take (List.length (leftR (rec full j z) x0 y0)) (List.drop 0 (leftR (rec full j z) x0 y0))) true) 31, R.DO.c [R.DV.int IntKind.i64 (Prod.fst (SM j n full (IntKind.wrap IntKind.i64 (z + 1)) x0 y0 (partM (rec full j z) x0 y0) true)), R.DV.str (Prod.fst (Prod.snd (SM j n full (IntKind.wrap IntKind.i64 (z + 1)) x0 y0 (partM (rec full j z) x0 y0) true))), R.DV.str (Prod.fst (Prod.snd (Prod.snd (SM j n full (IntKind.wrap IntKind.i64 (z + 1)) x0 y0 (partM (rec full j z) x0 y0) true)))), R.DV.str (Prod.snd (Prod.snd (Prod.snd (SM j n full (IntKind.wrap IntKind.i64 (z + 1)) x0 y0 (partM (rec full j z) x0 y0) true))))] false 31] 1)).ev) none) none) none) none)) none) none)) (cond (Nat.ble (List.length rest) (List.length rest)) (cond (roomFor (List.length rest + List.length ([(rec full j z)])) 56) (cond (decide (List.length rest + List.length ([(rec full j z)]) = List.length (List.take (List.length rest) rest ++ [(rec full j z)])) && (decide (List.length rest + List.length ([(rec full j z)]) = List.length rest + List.length ([(rec full j z)])) && true)) (cond (decide (n - Int.toNat (IntKind.wrap IntKind.i64 (z + 1)) < m)) (cond (Nat.beq (List.length rest + List.length ([(rec full j z)])) (List.length (List.take (List.length rest) rest ++ [(rec full j z)])) && P20 j n full (IntKind.wrap IntKind.i64 (z + 1)) (List.take (List.length rest) rest ++ [(rec full j z)])) ((k1 (envZ [6, 9, 10, 11] [R.DV.ptr 1 0, DV.ns 2 (List.length (SR j n full (IntKind.wrap IntKind.i64 (z + 1)) x0 y0 (List.take (List.length rest) rest ++ [(rec full j z)]) true)) 4, R.DV.ptr 3 0, R.DV.bool (SF j n full (IntKind.wrap IntKind.i64 (z + 1)) x0 y0 true)]) (mkD [DO.r RK.msg full sp el, R.DO.c [R.DV.int IntKind.i64 q0, R.DV.str q1, R.DV.str q2, R.DV.str q3] false 31, DO.rn RK.msg (SR j n full (IntKind.wrap IntKind.i64 (z + 1)) x0 y0 (List.take (List.length rest) rest ++ [(rec full j z)]) true) 31, R.DO.c [R.DV.int IntKind.i64 (Prod.fst (SM j n full (IntKind.wrap IntKind.i64 (z + 1)) x0 y0 (partM (rec full j z) x0 y0) true)), R.DV.str (Prod.fst (Prod.snd (SM j n full (IntKind.wrap IntKind.i64 (z + 1)) x0 y0 (partM (rec full j z) x0 y0) true))), R.DV.str (Prod.fst (Prod.snd (Prod.snd (SM j n full (IntKind.wrap IntKind.i64 (z + 1)) x0 y0 (partM (rec full j z) x0 y0) true)))), R.DV.str (Prod.snd (Prod.snd (Prod.snd (SM j n full (IntKind.wrap IntKind.i64 (z + 1)) x0 y0 (partM (rec full j z) x0 y0) true))))] false 31] 1)).ev) none) none) none) none) none)) none) none) (cond (decide (0 ≤ z) && decide (Int.toNat z < n)) (cond (Nat.blt (j + Int.toNat z) (List.length full)) (cond (Nat.ble (List.length rest) (List.length rest)) (cond (roomFor (List.length rest + List.length ([(rec full j z)])) 56) (cond (decide (List.length rest + List.length ([(rec full j z)]) = List.length (List.take (List.length rest) rest ++ [(rec full j z)])) && (decide (List.length rest + List.length ([(rec full j z)]) = List.length rest + List.length ([(rec full j z)])) && true)) (cond (decide (n - Int.toNat (IntKind.wrap IntKind.i64 (z + 1)) < m)) (cond (Nat.beq (List.length rest + List.length ([(rec full j z)])) (List.length (List.take (List.length rest) rest ++ [(rec full j z)])) && P20 j n full (IntKind.wrap IntKind.i64 (z + 1)) (List.take (List.length rest) rest ++ [(rec full j z)])) ((k1 (envZ [6, 9, 10, 11] [R.DV.ptr 1 0, DV.ns 2 (List.length (SR j n full (IntKind.wrap IntKind.i64 (z + 1)) x0 y0 (List.take (List.length rest) rest ++ [(rec full j z)]) fo)) 4, R.DV.ptr 3 0, R.DV.bool (SF j n full (IntKind.wrap IntKind.i64 (z + 1)) x0 y0 fo)]) (mkD [DO.r RK.msg full sp el, R.DO.c [R.DV.int IntKind.i64 q0, R.DV.str q1, R.DV.str q2, R.DV.str q3] false 31, DO.rn RK.msg (SR j n full (IntKind.wrap IntKind.i64 (z + 1)) x0 y0 (List.take (List.length rest) rest ++ [(rec full j z)]) fo) 31, R.DO.c [R.DV.int IntKind.i64 (Prod.fst (SM j n full (IntKind.wrap IntKind.i64 (z + 1)) x0 y0 (o, k, t, v) fo)), R.DV.str (Prod.fst (Prod.snd (SM j n full (IntKind.wrap IntKind.i64 (z + 1)) x0 y0 (o, k, t, v) fo))), R.DV.str (Prod.fst (Prod.snd (Prod.snd (SM j n full (IntKind.wrap IntKind.i64 (z + 1)) x0 y0 (o, k, t, v) fo)))), R.DV.str (Prod.snd (Prod.snd (Prod.snd (SM j n full (IntKind.wrap IntKind.i64 (z + 1)) x0 y0 (o, k, t, v) fo))))] false 31] 1)).ev) none) none) none) none) none) none) none)) (cond (decide (0 ≤ z) && decide (Int.toNat z < n)) (cond (Nat.blt (j + Int.toNat z) (List.length full)) (cond (Nat.ble (List.length rest) (List.length rest)) (cond (roomFor (List.length rest + List.length ([(rec full j z)])) 56) (cond (decide (List.length rest + List.length ([(rec full j z)]) = List.length (List.take (List.length rest) rest ++ [(rec full j z)])) && (decide (List.length rest + List.length ([(rec full j z)]) = List.length rest + List.length ([(rec full j z)])) && true)) (cond (decide (n - Int.toNat (IntKind.wrap IntKind.i64 (z + 1)) < m)) (cond (Nat.beq (List.length rest + List.length ([(rec full j z)])) (List.length (List.take (List.length rest) rest ++ [(rec full j z)])) && P20 j n full (IntKind.wrap IntKind.i64 (z + 1)) (List.take (List.length rest) rest ++ [(rec full j z)])) ((k1 (envZ [6, 9, 10, 11] [R.DV.ptr 1 0, DV.ns 2 (List.length (SR j n full (IntKind.wrap IntKind.i64 (z + 1)) x0 y0 (List.take (List.length rest) rest ++ [(rec full j z)]) fo)) 4, R.DV.ptr 3 0, R.DV.bool (SF j n full (IntKind.wrap IntKind.i64 (z + 1)) x0 y0 fo)]) (mkD [DO.r RK.msg full sp el, R.DO.c [R.DV.int IntKind.i64 q0, R.DV.str q1, R.DV.str q2, R.DV.str q3] false 31, DO.rn RK.msg (SR j n full (IntKind.wrap IntKind.i64 (z + 1)) x0 y0 (List.take (List.length rest) rest ++ [(rec full j z)]) fo) 31, R.DO.c [R.DV.int IntKind.i64 (Prod.fst (SM j n full (IntKind.wrap IntKind.i64 (z + 1)) x0 y0 (o, k, t, v) fo)), R.DV.str (Prod.fst (Prod.snd (SM j n full (IntKind.wrap IntKind.i64 (z + 1)) x0 y0 (o, k, t, v) fo))), R.DV.str (Prod.fst (Prod.snd (Prod.snd (SM j n full (IntKind.wrap IntKind.i64 (z + 1)) x0 y0 (o, k, t, v) fo)))), R.DV.str (Prod.snd (Prod.snd (Prod.snd (SM j n full (IntKind.wrap IntKind.i64 (z + 1)) x0 y0 (o, k, t, v) fo))))] false 31] 1)).ev) none) none) none) none) none) none) none)) none) none) ((k1 (envZ [6, 9, 10, 11] [R.DV.ptr 1 0, DV.ns 2 (List.length rest) 4, R.DV.ptr 3 0, R.DV.bool fo]) (mkD [DO.r RK.msg full sp el, R.DO.c [R.DV.int IntKind.i64 q0, R.DV.str q1, R.DV.str q2, R.DV.str q3] false 31, DO.rn RK.msg rest 31, R.DO.c [R.DV.int IntKind.i64 o, R.DV.str k, R.DV.str t, R.DV.str v] false 31] 1)).ev) := by kernel_rfl
theorem S20_step {full : List Msg} {j n : Nat} {z : Int} {x y : Txt} {m : Msg} {rest : List Msg} {fo : Bool} (p1 : j + n ≤ full.length) (p3 : 0 ≤ z) (h1 : z < n) :
    SM j n full z x y m fo = SM j n full (z + 1) x y (cond (partOk (rec full j z) x y && !fo) (partM (rec full j z) x y) m) (fo || partOk (rec full j z) x y) ∧
    SF j n full z x y fo = SF j n full (z + 1) x y (fo || partOk (rec full j z) x y) ∧
    SR j n full z x y rest fo = SR j n full (z + 1) x y (rest ++ cond (partOk (rec full j z) x y && !fo) (leftR (rec full j z) x y) [rec full j z]) (fo || partOk (rec full j z) x y) := by
  unfold SM SF SR
  rw [seg_rec p1 p3 h1]
  generalize (seg full j n).drop (z + 1).toNat = r
  rw [show firstM x y (rec full j z :: r) m = cond (partOk (rec full j z) x y) (partM (rec full j z) x y) (firstM x y r m) from rfl,
    show noP x y (rec full j z :: r) = cond (partOk (rec full j z) x y) false (noP x y r) from rfl,
    show restF leftR x y (rec full j z :: r) = cond (partOk (rec full j z) x y) (leftR (rec full j z) x y ++ r) (rec full j z :: restF leftR x y r) from rfl]
  cases fo <;> cases partOk (rec full j z) x y <;> simp
theorem step20 (j n c : Nat) (ex : Bool) (x0 y0 : Txt) (fo : Bool) (z : Int) (full rest : List Msg) (q0 o : Int) (q1 q2 q3 k t v : Txt) (sp : Bool) (el : R.EL) (rd k1 : R.EK) (y : List (Nat × R.EK)) (w : R.DV × R.DH) (hw : ((lt20 rest.length j n c ex x0 y0 fo z full rest (q0, q1, q2, q3) (o, k, t, v) sp el).tree 1 ld20 rd ((0, k1) :: y)).ev = some w) :
    (turnD C Y1 (fun _ => none) 110 57 1 0 b20 ld20 (n - z.toNat) [.rs 0 j n c 4 ex, .str x0, .str y0, .ptr 1 0, .ns 2 rest.length 4, .ptr 3 0, .bool fo, .int .i64 z] [.r .msg full sp el, .c [.int .i64 q0, .str q1, .str q2, .str q3] false 31, .rn .msg rest 31, .c [.int .i64 o, .str k, .str t, .str v] false 31] rd k1 y).ev = some w := by
  replace hw := lt_need hw
  obtain ⟨hp, hw⟩ := hw
  have bO : Nat.beq rest.length rest.length = true := Nat.beq_refl _
  rw [bO] at hp
  simp only [Bool.true_and, P20, decide_eq_true_eq] at hp
  obtain ⟨p1, p2, p3, p4, p6⟩ := hp
  replace hw : (k1 (envZ [6, 9, 10, 11] [.ptr 1 0, .ns 2 (SR j n full z x0 y0 rest fo).length 4, .ptr 3 0, .bool (SF j n full z x0 y0 fo)]) (mkD [.r .msg full sp el, cellM (q0, q1, q2, q3), .rn .msg (SR j n full z x0 y0 rest fo) 31, cellM (SM j n full z x0 y0 (o, k, t, v) fo)] 1)).ev = some w := hw
  rw [turn20]
  by_cases h1 : z < n
  · have cz : (decide (0 ≤ z) && decide (z.toNat < n)) = true := by rw [decide_eq_true p3, decide_eq_true (show z.toNat < n by omega)]; rfl
    have cz2 : Nat.blt (j + z.toNat) full.length = true := by
      have : j + z.toNat < full.length := by omega
      simpa using this
    have lO : Nat.ble rest.length rest.length = true := Nat.ble_eq_true_of_le (Nat.le_refl _)
    have hm : decide (n - (z + 1).toNat < n - z.toNat) = true := decide_eq_true (by omega)
    have bO1 : Nat.beq (rest.length + 1) (rest.length + 1) = true := Nat.beq_refl _
    have r2 : roomFor (rest.length + 1) 56 = true := room_msg (by omega)
    have ne2 : decide (rest.length + 1 = 0) = false := rfl
    have len2 := leftR_len (rec full j z) x0 y0
    obtain ⟨eM, eF, eR⟩ := S20_step (m := (o, k, t, v)) (rest := rest) (fo := fo) (x := x0) (y := y0) p1 p3 h1
    rw [eM, eF, eR] at hw
    rw [cT h1, nextI p3 h1 (by omega)]
    have hP1 : P20 j n full (z + 1) (rest ++ [rec full j z]) = true := by
      simp only [P20, decide_eq_true_eq]
      refine ⟨p1, p2, ?_, ?_, ?_⟩ <;> first | omega | (rw [List.length_append]; simp; omega)
    have hP2 : P20 j n full (z + 1) (rest ++ leftR (rec full j z) x0 y0) = true := by
      simp only [P20, decide_eq_true_eq]
      refine ⟨p1, p2, ?_, ?_, ?_⟩ <;> first | omega | (rw [List.length_append]; simp; omega)
    cases hp : partOk (rec full j z) x0 y0 with
    | false =>
      rw [hp] at hw
      simp only [Bool.or_false, Bool.false_and, cond_false] at hw
      simp only [cz, cz2, hp, lO, hm, bO, bO1, r2, ne2, hP1, List.take_length, List.length_append, List.length_cons, List.length_nil, Nat.zero_add, decide_true, Bool.true_and, Bool.and_true, Bool.not_false, cond_true, cond_false]
      exact hw
    | true =>
      rw [hp] at hw
      cases fo with
      | true =>
        simp only [Bool.or_true, Bool.not_true, Bool.and_false, cond_false] at hw
        simp only [cz, cz2, hp, lO, hm, bO, bO1, r2, ne2, hP1, List.take_length, List.length_append, List.length_cons, List.length_nil, Nat.zero_add, decide_true, Bool.true_and, Bool.and_true, Bool.not_false, Bool.not_true, cond_true, cond_false]
        exact hw
      | false =>
        simp only [Bool.or_true, Bool.not_false, Bool.and_true, cond_true] at hw
        cases hL : Nat.beq (leftR (rec full j z) x0 y0).length 0 with
        | true =>
          have h0 : leftR (rec full j z) x0 y0 = [] := List.length_eq_zero_iff.1 (Nat.eq_of_beq_eq_true hL)
          rw [h0, List.append_nil] at hP2 hw
          simp only [cz, cz2, hp, hL, lO, hm, bO, hP2, List.take_length, List.length_append, List.length_cons, List.length_nil, Nat.zero_add, decide_true, Bool.true_and, Bool.and_true, Bool.not_false, cond_true, cond_false]
          exact hw
        | false =>
          have h0 : (leftR (rec full j z) x0 y0).length ≠ 0 := fun e => by rw [e] at hL; cases hL
          have hne : decide ((leftR (rec full j z) x0 y0).length = 0) = false := decide_eq_false h0
          have hne2 : decide (rest.length + (leftR (rec full j z) x0 y0).length = 0) = false := decide_eq_false (by omega)
          have lL : Nat.ble (leftR (rec full j z) x0 y0).length (leftR (rec full j z) x0 y0).length = true := Nat.ble_eq_true_of_le (Nat.le_refl _)
          have r3 : roomFor (rest.length + (leftR (rec full j z) x0 y0).length) 56 = true := room_msg (by omega)
          have bL : Nat.beq (rest.length + (leftR (rec full j z) x0 y0).length) (rest.length + (leftR (rec full j z) x0 y0).length) = true := Nat.beq_refl _
          simp only [cz, cz2, hp, hL, hne, hne2, lL, lO, hm, bO, bL, r3, hP2, List.drop_zero, List.take_length, List.length_append, List.length_cons, List.length_nil, Nat.zero_add, decide_true, Bool.true_and, Bool.and_true, Bool.not_false, cond_true, cond_false]
          exact hw
  · rw [cF h1]
    have e := seg_end p1 h1 p3
    have eM : SM j n full z x0 y0 (o, k, t, v) fo = (o, k, t, v) := by
      unfold SM; rw [e]; cases fo <;> rfl
    have eR : SR j n full z x0 y0 rest fo = rest := by
      unfold SR; rw [e]; cases fo <;> exact List.append_nil _
    have eF : SF j n full z x0 y0 fo = fo := by
      unfold SF; rw [e]; cases fo <;> rfl
    rw [eM, eR, eF] at hw
    exact hw
theorem loop20 {n : Nat} (hn : 110 ≤ n) : LoopOk C.G 1 (callO noTmps C.O C.tab n) n 110 57 0 b20 ld20 := by
  refine loop_of C Y1 (lh := fun _ => none) hn ?_ (fun p _ ld h => by cases h) ?_
  · exact wf_loops _ none (wf_body (f := 20) rfl) (0, b20) (by rw [show loopsIn none c20.body = [(0, b20)] from rfl]; exact List.mem_cons_self)
  intro vs ao m t hs rd k1 y w hw
  unfold ld20 at hs
  simp only at hs
  split at hs
  case h_2 => cases hs
  cases hs
  have hp := (lt_need hw).1
  simp only [Bool.and_eq_true] at hp
  obtain ⟨h1, _⟩ := hp
  have h1 := Nat.eq_of_beq_eq_true h1
  subst h1
  exact step20 _ _ _ _ _ _ _ _ _ _ _ _ _ _ _ _ _ _ _ _ _ _ _ _ hw
def zeroM : Msg := (0, [], [], [])
def valM (m : Msg) : R.DV := .agg [.int .i64 m.1, .str m.2.1, .str m.2.2.1, .str m.2.2.2]
def out20 (full : List Msg) (j n : Nat) (x y : Txt) : RD := .need (okG full j n) (.v (.tup [valM (firstM x y (seg full j n) zeroM), .ns 1 (restF leftR x y (seg full j n)).length 4, .bool (!noP x y (seg full j n))]) [.rn .msg (restF leftR x y (seg full j n)) 31])
theorem run20 (j n c : Nat) (ex : Bool) (x0 y0 : Txt) (full : List Msg) (sp : Bool) (el : R.EL) : runD C Y1 (lhX ld20) 110 c20 [.rs 0 j n c 4 ex, .str x0, .str y0] [.r .msg full sp el] =
    cond (decide (n - 0 < 110)) (cond (P20 j n full 0 []) (some (R.DV.tup [R.DV.agg [R.DV.int IntKind.i64 (Prod.fst (SM j n full 0 x0 y0 (0, [], [], []) false)), R.DV.str (Prod.fst (Prod.snd (SM j n full 0 x0 y0 (0, [], [], []) false))), R.DV.str (Prod.fst (Prod.snd (Prod.snd (SM j n full 0 x0 y0 (0, [], [], []) false)))), R.DV.str (Prod.snd (Prod.snd (Prod.snd (SM j n full 0 x0 y0 (0, [], [], []) false))))], DV.ns 1 (List.length (SR j n full 0 x0 y0 [] false)) 4, R.DV.bool (SF j n full 0 x0 y0 false)], (mkD [DO.r RK.msg full sp el, DO.rn RK.msg (SR j n full 0 x0 y0 [] false) 31] 1))) none) none := by kernel_rfl
theorem lawF20 (j n c : Nat) (ex : Bool) (x0 y0 : Txt) (full : List Msg) (sp : Bool) (el : R.EL) : LawOk C.G C.O C.tab 20 111 [.r .msg full sp el] [.rs 0 j n c 4 ex, .str x0, .str y0] (out20 full j n x0 y0) := by
  refine law_of C Y1 (lhX ld20) rfl rfl (fun n hn => lhX_ok (Q := fun i b ld => LoopOk C.G 1 (callO noTmps C.O C.tab n) n 110 57 i b ld) rfl (loop20 hn)) fun z hz => ?_
  obtain ⟨hp, hz⟩ := R.ev_need hz
  refine (run20 j n c ex x0 y0 full sp el).trans ?_
  obtain ⟨p1, p2⟩ := okG_iff.1 hp
  have e4 : P20 j n full 0 [] = true := by
    simp only [P20, decide_eq_true_eq]
    refine ⟨p1, p2, ?_, ?_, ?_⟩ <;> first | omega | simp
  rw [e4, cT (show n - 0 < 110 by omega)]
  exact Eq.trans rfl hz
theorem lawF20n (x0 y0 : Txt) : LawOk C.G C.O C.tab 20 111 [] [.nils, .str x0, .str y0] (.v (.tup [valM zeroM, .nils, .bool false]) []) := by
  refine law_of C Y1 (fun _ => none) rfl rfl (fun n hn p _ ld e => by cases e) fun z hz => ?_
  refine Eq.trans ?_ hz
  kernel_rfl
theorem less_trans : ∀ a b c : List UInt8, Op.bytesLess a b = true → Op.bytesLess b c = true → Op.bytesLess a c = true
  | [], [], _, h, _ => by simp [Op.bytesLess] at h
  | [], _ :: _, [], _, h => by simp [Op.bytesLess] at h
  | [], _ :: _, _ :: _, _, _ => rfl
  | _ :: _, [], _, h, _ => by simp [Op.bytesLess] at h
  | _ :: _, _ :: _, [], _, h => by simp [Op.bytesLess] at h
  | a :: x, b :: y, c :: z, h1, h2 => by
    simp only [Op.bytesLess, Bool.or_eq_true, decide_eq_true_eq, Bool.and_eq_true, beq_iff_eq] at h1 h2 ⊢
    rcases h1 with h1 | ⟨rfl, h1⟩ <;> rcases h2 with h2 | ⟨rfl, h2⟩
    · exact .inl (UInt8.lt_trans h1 h2)
    · exact .inl h1
    · exact .inl h2
    · exact .inr ⟨rfl, less_trans x y z h1 h2⟩
theorem less_tot : ∀ a b : List UInt8, Op.bytesLess a b = false → Op.bytesLess b a = false → a = b
  | [], [], _, _ => rfl
  | [], _ :: _, h, _ => by simp [Op.bytesLess] at h
  | _ :: _, [], _, h => by simp [Op.bytesLess] at h
  | a :: x, b :: y, h1, h2 => by
    simp only [Op.bytesLess, Bool.or_eq_false_iff, decide_eq_false_iff_not] at h1 h2
    have e : a = b := by
      have := h1.1
      have := h2.1
      rcases UInt8.lt_or_lt_of_ne (a := a) (b := b) with h
      by_cases hab : a = b
      · exact hab
      · rcases UInt8.lt_or_lt_of_ne hab with h | h
        · exact absurd h h1.1
        · exact absurd h h2.1
    subst e
    have h3 := h1.2
    have h4 := h2.2
    simp only [beq_self_eq_true, Bool.true_and] at h3 h4
    rw [less_tot x y h3 h4]
/-- not below one that is not below another -/
theorem ge_trans {a b c : List UInt8} (h1 : Op.bytesLess a b = false) (h2 : Op.bytesLess b c = false) : Op.bytesLess a c = false := by
  cases h : Op.bytesLess a c with
  | false => rfl
  | true =>
    exfalso
    cases hcb : Op.bytesLess c b with
    | true => rw [less_trans _ _ _ h hcb] at h1; cases h1
    | false =>
      have := less_tot _ _ h2 hcb
      subst this
      rw [h] at h1; cases h1
theorem less_nilT (a : Txt) : Op.bytesLess a [] = false := by cases a <;> rfl
theorem may_clear {k t v : Txt} (h : mayB 3 k t v = true) : v = [] ∧ Op.bytesLess k t = true := by
  unfold mayB at h
  revert h
  cases decide (k.length < 1) <;> cases decide (108 < k.length) <;> cases hv : decide (v.length = 0) <;> cases decide (t.length = 0) <;> cases decide (t.length ≤ 108) <;> cases Op.bytesLess k t <;> intro h <;> first | (cases h; done) | exact ⟨List.length_eq_zero_iff.1 (of_decide_eq_true hv), rfl⟩
/-- what both take for what is left of a message that has a part -/
theorem left_eq {m : Msg} {x y : Txt} (h : partOk m x y = true) : leftL m x y = leftR m x y := by
  obtain ⟨op, k, t, v⟩ := m
  unfold leftL leftR
  by_cases h3 : op = 3
  · subst h3
    simp only [partOk, Bool.and_eq_true] at h
    obtain ⟨hm, hc⟩ := h
    obtain ⟨rfl, hkt⟩ := may_clear hm
    simp only [decide_true, cond_true] at hc
    show cond (!decide (x = []) && partOk (3, k, t, []) [] x) [partM (3, k, t, []) [] x] [] ++ cond (!decide (y = []) && partOk (3, k, t, []) y []) [partM (3, k, t, []) y []] [] = cond (Op.bytesLess k x) [(3, k, x, [])] [] ++ cond (!decide (y = []) && Op.bytesLess y t) [(3, y, t, [])] []
    congr 1
    · cases hkx : Op.bytesLess k x with
      | true =>
        rw [hkx] at hc
        have hx : x ≠ [] := fun e => by rw [e, less_nilT] at hkx; cases hkx
        have hxt : Op.bytesLess x t = true := by
          revert hc
          cases decide (y = [])
          · cases hyt : Op.bytesLess y t
            · exact id
            · exact fun hc => less_trans _ _ _ hc hyt
          · exact id
        have e1 : partOk (3, k, t, []) [] x = true := by
          unfold partOk
          simp only [hm, less_nilT, decide_eq_false hx, hxt, hkx, cond_true, cond_false, Bool.and_true, decide_true]
        rw [e1, decide_eq_false hx]
        simp only [partM, less_nilT, decide_eq_false hx, hxt, cond_true, cond_false, decide_true, Bool.not_false, Bool.and_true]
      | false =>
        by_cases hx : x = []
        · rw [decide_eq_true hx]; rfl
        · have e1 : partOk (3, k, t, []) [] x = false := by
            unfold partOk
            cases hxt : Op.bytesLess x t with
            | true => simp only [hm, less_nilT, decide_eq_false hx, hxt, hkx, cond_true, cond_false, Bool.and_false, decide_true]
            | false =>
              have := ge_trans hkx hxt
              rw [this] at hkt; cases hkt
          rw [e1, Bool.and_false]; rfl
    · by_cases hy : y = []
      · rw [decide_eq_true hy]; rfl
      · rw [decide_eq_false hy] at hc ⊢
        simp only [Bool.not_false, Bool.true_and, cond_false] at hc ⊢
        cases hyt : Op.bytesLess y t with
        | true =>
          rw [hyt] at hc
          have hky : Op.bytesLess k y = true := by
            revert hc
            cases hkx : Op.bytesLess k x
            · exact id
            · exact fun hc => less_trans _ _ _ hkx hc
          have e1 : partOk (3, k, t, []) y [] = true := by
            unfold partOk
            simp only [hm, hky, hyt, cond_true, cond_false, Bool.and_true, decide_true]
          rw [e1]
          simp only [partM, hky, cond_true, cond_false, decide_true]
        | false =>
          have e1 : partOk (3, k, t, []) y [] = false := by
            unfold partOk
            cases hky : Op.bytesLess k y with
            | true => simp only [hm, hky, hyt, cond_true, cond_false, Bool.and_false, decide_true]
            | false =>
              have := ge_trans hky hyt
              rw [this] at hkt; cases hkt
          rw [e1]; rfl
  · rw [show decide (((op, k, t, v) : Msg).1 = 3) = false from decide_eq_false h3]
    rfl
theorem rest_eq {x y : Txt} : ∀ l : List Msg, restL leftL x y l = restL leftR x y l
  | [] => rfl
  | m :: r => by
    show cond (partOk m x y) (leftL m x y) [m] ++ restL leftL x y r = cond (partOk m x y) (leftR m x y) [m] ++ restL leftR x y r
    rw [rest_eq r]
    cases h : partOk m x y with
    | false => rfl
    | true => rw [left_eq h]
end
end Go.Vm.YtkjjpmbpjfmbcaaGreatDoor
