/-
  What a step makes of a mark, as the program and as the document's answer tell it.
-/
import Derived.Test.YtdmlbojhfgimnaaGreatDoorAP1
set_option linter.unusedVariables false
set_option linter.unusedSimpArgs false
namespace Go.Vm.YtdmlbojhfgimnaaGreatDoor
open Go.Proofs
noncomputable section
set_option maxRecDepth 10000 in
theorem tNum (q o b : Nat → Nat) (hq : q = qN) (ho : o = ordN) (hb : b = backN) (x : Nat) (op : Int) (y : Nat) : treeOf (lawsA1 q o b hq ho hb) tab [110, 124, 127, 128] 4 200 110 [.int .u64 (.ofNat x), .agg [.int .u8 op, .int .u64 (.ofNat y)]] =
    cond (decide (op = 1)) (some (DV.tup [DV.int .u64 (Int.ofNat (q y)), DV.int .i64 0])) (cond (decide (op = 2)) (cond (Option.isSome (farD BinOp.add (Int.toNat (Int.ofNat x)) (Int.toNat (Int.ofNat y)))) (some (DV.tup [DV.int .u64 (Int.ofNat (q (Option.getD (farD BinOp.add (Int.toNat (Int.ofNat x)) (Int.toNat (Int.ofNat y))) 0))), DV.int .i64 0])) (some (DV.tup [DV.int .u64 9221120237041090561, DV.int .i64 0]))) (cond (decide (op = 5)) (cond (Option.isSome (farD BinOp.mul (Int.toNat (Int.ofNat x)) (Int.toNat (Int.ofNat y)))) (some (DV.tup [DV.int .u64 (Int.ofNat (q (Option.getD (farD BinOp.mul (Int.toNat (Int.ofNat x)) (Int.toNat (Int.ofNat y))) 0))), DV.int .i64 0])) (some (DV.tup [DV.int .u64 9221120237041090561, DV.int .i64 0]))) (cond (decide (op = 3)) (cond (small (q x)) (cond (small (q y)) (cond (decide (0 ≤ if true = true then if Int.ofNat (o (q y)) > Int.ofNat (o (q x)) then Int.ofNat (o (q y)) else Int.ofNat (o (q x)) else if Int.ofNat (o (q y)) < Int.ofNat (o (q x)) then Int.ofNat (o (q y)) else Int.ofNat (o (q x))) && small (Int.toNat (if true = true then if Int.ofNat (o (q y)) > Int.ofNat (o (q x)) then Int.ofNat (o (q y)) else Int.ofNat (o (q x)) else if Int.ofNat (o (q y)) < Int.ofNat (o (q x)) then Int.ofNat (o (q y)) else Int.ofNat (o (q x))))) (some (DV.tup [DV.int .u64 (Int.ofNat (b (Int.toNat (if true = true then if Int.ofNat (o (q y)) > Int.ofNat (o (q x)) then Int.ofNat (o (q y)) else Int.ofNat (o (q x)) else if Int.ofNat (o (q y)) < Int.ofNat (o (q x)) then Int.ofNat (o (q y)) else Int.ofNat (o (q x)))))), DV.int .i64 0])) none) none) none) (cond (decide (op = 4)) (cond (small (q x)) (cond (small (q y)) (cond (decide (0 ≤ if false = true then if Int.ofNat (o (q y)) > Int.ofNat (o (q x)) then Int.ofNat (o (q y)) else Int.ofNat (o (q x)) else if Int.ofNat (o (q y)) < Int.ofNat (o (q x)) then Int.ofNat (o (q y)) else Int.ofNat (o (q x))) && small (Int.toNat (if false = true then if Int.ofNat (o (q y)) > Int.ofNat (o (q x)) then Int.ofNat (o (q y)) else Int.ofNat (o (q x)) else if Int.ofNat (o (q y)) < Int.ofNat (o (q x)) then Int.ofNat (o (q y)) else Int.ofNat (o (q x))))) (some (DV.tup [DV.int .u64 (Int.ofNat (b (Int.toNat (if false = true then if Int.ofNat (o (q y)) > Int.ofNat (o (q x)) then Int.ofNat (o (q y)) else Int.ofNat (o (q x)) else if Int.ofNat (o (q y)) < Int.ofNat (o (q x)) then Int.ofNat (o (q y)) else Int.ofNat (o (q x)))))), DV.int .i64 0])) none) none) none) (some (DV.tup [DV.int .u64 0, DV.int .i64 2])))))) := by kernel_rfl
set_option maxRecDepth 10000 in
theorem tNumR (q o b : Nat → Nat) (hq : q = qN) (ho : o = ordN) (hb : b = backN) (x : Nat) (op : Int) (y : Nat) : treeOf (lawsA1 q o b hq ho hb) tab [84, 112, 113] 4 200 84 [.int .u64 (.ofNat x), .int .u8 op, .int .u64 (.ofNat y)] =
    cond (decide (op = 1)) (some (DV.tup [DV.int .u64 (Int.ofNat (q y)), DV.int .i64 0])) (cond (decide (op = 2)) (cond (Option.isSome (farD BinOp.add (Int.toNat (Int.ofNat x)) (Int.toNat (Int.ofNat y)))) (some (DV.tup [DV.int .u64 (Int.ofNat (q (Option.getD (farD BinOp.add (Int.toNat (Int.ofNat x)) (Int.toNat (Int.ofNat y))) 0))), DV.int .i64 0])) (some (DV.tup [DV.int .u64 9221120237041090561, DV.int .i64 0]))) (cond (decide (op = 5)) (cond (Option.isSome (farD BinOp.mul (Int.toNat (Int.ofNat x)) (Int.toNat (Int.ofNat y)))) (some (DV.tup [DV.int .u64 (Int.ofNat (q (Option.getD (farD BinOp.mul (Int.toNat (Int.ofNat x)) (Int.toNat (Int.ofNat y))) 0))), DV.int .i64 0])) (some (DV.tup [DV.int .u64 9221120237041090561, DV.int .i64 0]))) (cond (decide (op = 3)) (cond (small (q y)) (cond (small (q x)) (cond (decide (Int.ofNat (o (q x)) < Int.ofNat (o (q y)))) (some (DV.tup [DV.int .u64 (Int.ofNat (q y)), DV.int .i64 0])) (some (DV.tup [DV.int .u64 (Int.ofNat (q x)), DV.int .i64 0]))) none) none) (cond (decide (op = 4)) (cond (small (q y)) (cond (small (q x)) (cond (decide (Int.ofNat (o (q y)) < Int.ofNat (o (q x)))) (some (DV.tup [DV.int .u64 (Int.ofNat (q y)), DV.int .i64 0])) (some (DV.tup [DV.int .u64 (Int.ofNat (q x)), DV.int .i64 0]))) none) none) (some (DV.tup [DV.int .u64 0, DV.int .i64 2])))))) := by kernel_rfl
theorem q_lt {n : Nat} (h : n < 18446744073709551616) : qN n < 18446744073709551616 := by unfold qN; cases nanN n <;> simp <;> omega
/-- a sum, a product -/
def farN (op : BinOp) (x y : Nat) : Nat := cond (farD op x y).isSome (qN ((farD op x y).getD 0)) 9221120237041090561
def stepN (x : Nat) (op : Int) (y : Nat) : Nat := cond (decide (op = 1)) (qN y) (cond (decide (op = 2)) (farN .add x y) (cond (decide (op = 5)) (farN .mul x y)
  (cond (decide (op = 3)) (cond (decide (ordN (qN x) < ordN (qN y))) (qN y) (qN x)) (cond (decide (op = 4)) (cond (decide (ordN (qN y) < ordN (qN x))) (qN y) (qN x)) 0))))
def stepE (op : Int) : Int := cond (decide (1 ≤ op ∧ op ≤ 5)) 0 2
def numD (st : Nat → Int → Nat → Nat) (x : Nat) (op : Int) (y : Nat) : PD := .need (small x && small y) (.v (.tup [.int .u64 (.ofNat (st x op y)), .int .i64 (stepE op)]))
theorem write_lt (d : Ieee.Datum) : FloatKind.f64.format.write d < 18446744073709551616 := by
  have e1 : FloatKind.f64.format.signWeight = 9223372036854775808 := rfl
  have e2 : FloatKind.f64.format.infRung = 9218868437227405312 := rfl
  have e3 : FloatKind.f64.format.binade = 4503599627370496 := rfl
  have w : ∀ (neg : Bool) (r : Nat), r < 9223372036854775808 → FloatKind.f64.format.word neg r < 18446744073709551616 := by
    intro neg r h
    unfold Ieee.Format.word
    rw [e1]
    split <;> omega
  cases d with
  | number s m p =>
    show FloatKind.f64.format.nearest s m p < _
    unfold Ieee.Format.nearest
    split
    · exact w _ _ (by omega)
    · refine w _ _ ?_
      rw [e2]
      exact Nat.lt_of_le_of_lt (Nat.min_le_right _ _) (by omega)
  | infinity s =>
    refine w _ _ ?_
    rw [e2]; omega
  | nan s f =>
    refine w _ _ ?_
    rw [e2, e3]
    omega
theorem far_lt (op : BinOp) (x y : Nat) : farN op x y < 18446744073709551616 := by
  unfold farN
  cases h : farD op x y with
  | none => decide
  | some z =>
    refine q_lt ?_
    show z < _
    have key : ∀ o : Option Ieee.Datum, o.map FloatKind.f64.format.write = some z → z < 18446744073709551616 := by
      intro o ho
      cases o with
      | none => cases ho
      | some d => cases ho; exact write_lt d
    unfold farD at h
    split at h
    · exact key _ h
    · exact key _ h
    · exact key _ h
    · cases h
theorem step_lt {x : Nat} {op : Int} {y : Nat} (hx : x < 18446744073709551616) (hy : y < 18446744073709551616) : stepN x op y < 18446744073709551616 := by
  have h1 := q_lt hx
  have h2 := q_lt hy
  have h3 := far_lt .add x y
  have h4 := far_lt .mul x y
  unfold stepN
  cases decide (op = 1) <;> cases decide (op = 2) <;> cases decide (op = 5) <;> cases decide (op = 3) <;> cases decide (op = 4) <;> cases decide (ordN (qN x) < ordN (qN y)) <;> cases decide (ordN (qN y) < ordN (qN x)) <;> simp only [cond_true, cond_false] <;> first | assumption | decide
theorem stepE_of {op : Int} : stepE op = cond (decide (op = 1)) 0 (cond (decide (op = 2)) 0 (cond (decide (op = 5)) 0 (cond (decide (op = 3)) 0 (cond (decide (op = 4)) 0 2)))) := by
  unfold stepE
  by_cases h1 : op = 1
  · subst h1; rfl
  by_cases h2 : op = 2
  · subst h2; rfl
  by_cases h3 : op = 3
  · subst h3; rfl
  by_cases h4 : op = 4
  · subst h4; rfl
  by_cases h5 : op = 5
  · subst h5; rfl
  rw [decide_eq_false h1, decide_eq_false h2, decide_eq_false h3, decide_eq_false h4, decide_eq_false h5, decide_eq_false (by omega)]; rfl
theorem max_of (a b : Nat) : (if true = true then if Int.ofNat b > Int.ofNat a then Int.ofNat b else Int.ofNat a else if Int.ofNat b < Int.ofNat a then Int.ofNat b else Int.ofNat a) = Int.ofNat (cond (decide (a < b)) b a) := by
  rw [if_pos rfl]
  by_cases h : a < b
  · rw [decide_eq_true h, if_pos (show Int.ofNat _ < Int.ofNat _ from Int.ofNat_lt.2 h)]; rfl
  · rw [decide_eq_false h, if_neg (fun e : Int.ofNat _ < Int.ofNat _ => h (Int.ofNat_lt.1 e))]; rfl
theorem min_of (a b : Nat) : (if false = true then if Int.ofNat b > Int.ofNat a then Int.ofNat b else Int.ofNat a else if Int.ofNat b < Int.ofNat a then Int.ofNat b else Int.ofNat a) = Int.ofNat (cond (decide (b < a)) b a) := by
  rw [if_neg (by decide)]
  by_cases h : b < a
  · rw [decide_eq_true h, if_pos (show Int.ofNat _ < Int.ofNat _ from Int.ofNat_lt.2 h)]; rfl
  · rw [decide_eq_false h, if_neg (fun e : Int.ofNat _ < Int.ofNat _ => h (Int.ofNat_lt.1 e))]; rfl
theorem sm {n : Nat} (h : n < 18446744073709551616) : small n = true := decide_eq_true h
theorem lt_of (a b : Nat) : decide (Int.ofNat a < Int.ofNat b) = decide (a < b) := by
  by_cases h : a < b
  · rw [decide_eq_true h, decide_eq_true (show Int.ofNat _ < Int.ofNat _ from Int.ofNat_lt.2 h)]
  · rw [decide_eq_false h, decide_eq_false (fun e : Int.ofNat _ < Int.ofNat _ => h (Int.ofNat_lt.1 e))]
theorem back_pick {c : Bool} {x y : Nat} (hx : x < 18446744073709551616) (hy : y < 18446744073709551616) : backN (cond c (ordN y) (ordN x)) = cond c y x := by
  cases c
  · exact back_ord hx
  · exact back_ord hy
theorem ok_pick {c : Bool} {x y : Nat} (hx : x < 18446744073709551616) (hy : y < 18446744073709551616) : (decide (0 ≤ Int.ofNat (cond c (ordN y) (ordN x))) && small (Int.toNat (Int.ofNat (cond c (ordN y) (ordN x))))) = true := by
  have h1 := ord_lt hx
  have h2 := ord_lt hy
  rw [show Int.toNat (Int.ofNat (cond c (ordN y) (ordN x))) = cond c (ordN y) (ordN x) from rfl, Bool.and_eq_true]
  refine ⟨decide_eq_true (Int.natCast_nonneg _), sm ?_⟩
  cases c
  · exact h1
  · exact h2
theorem law149 (x : Nat) (op : Int) (y : Nat) (hx : x < 18446744073709551616) (hy : y < 18446744073709551616) : treeOf (lawsA1 qN ordN backN rfl rfl rfl) tab [110, 124, 127, 128] 4 200 110 [.int .u64 (.ofNat x), .agg [.int .u8 op, .int .u64 (.ofNat y)]] = some (numD stepN x op y).val := by
  rw [tNum, max_of, min_of, ok_pick (q_lt hx) (q_lt hy), ok_pick (q_lt hx) (q_lt hy), sm (q_lt hx), sm (q_lt hy)]
  simp only [Int.ofNat_eq_natCast, Int.toNat_natCast]
  rw [back_pick (q_lt hx) (q_lt hy), back_pick (q_lt hx) (q_lt hy)]
  unfold numD
  rw [PD.val_need, PD.val_v, stepE_of]
  unfold stepN farN
  generalize decide (op = 1) = a
  generalize decide (op = 2) = b
  generalize decide (op = 5) = c
  generalize decide (op = 3) = d
  generalize decide (op = 4) = e
  cases a <;> cases b <;> cases c <;> cases d <;> cases e <;> simp only [cond_true, cond_false] <;> first | rfl | (cases (farD .add x y).isSome <;> rfl) | (cases (farD .mul x y).isSome <;> rfl)
theorem law124 (x : Nat) (op : Int) (y : Nat) (hx : x < 18446744073709551616) (hy : y < 18446744073709551616) : treeOf (lawsA1 qN ordN backN rfl rfl rfl) tab [84, 112, 113] 4 200 84 [.int .u64 (.ofNat x), .int .u8 op, .int .u64 (.ofNat y)] = some (numD stepN x op y).val := by
  rw [tNumR, lt_of, lt_of, sm (q_lt hx), sm (q_lt hy)]
  simp only [Int.ofNat_eq_natCast, Int.toNat_natCast]
  unfold numD
  rw [PD.val_need, PD.val_v, stepE_of]
  unfold stepN farN
  generalize decide (op = 1) = a
  generalize decide (op = 2) = b
  generalize decide (op = 5) = c
  generalize decide (op = 3) = d
  generalize decide (op = 4) = e
  cases a <;> cases b <;> cases c <;> cases d <;> cases e <;> simp only [cond_true, cond_false] <;> first | rfl | (cases (farD .add x y).isSome <;> rfl) | (cases (farD .mul x y).isSome <;> rfl) | (cases decide (ordN (qN x) < ordN (qN y)) <;> rfl) | (cases decide (ordN (qN y) < ordN (qN x)) <;> rfl)
def g149 (st : Nat → Int → Nat → Nat) : List DV → Option PD := fun l => match l with
  | [.int .u64 (.ofNat x), .agg [.int .u8 op, .int .u64 (.ofNat y)]] => some (numD st x op y)
  | _ => none
def g124 (st : Nat → Int → Nat → Nat) : List DV → Option PD := fun l => match l with
  | [.int .u64 (.ofNat x), .int .u8 op, .int .u64 (.ofNat y)] => some (numD st x op y)
  | _ => none
theorem num_lt {st : Nat → Int → Nat → Nat} {x : Nat} {op : Int} {y : Nat} (h : (numD st x op y).ok = true) : x < 18446744073709551616 ∧ y < 18446744073709551616 := by
  unfold numD at h
  simp only [PD.ok_need, Bool.and_eq_true] at h
  exact ⟨of_decide_eq_true h.1.1, of_decide_eq_true h.1.2⟩
theorem g149_ok (st : Nat → Int → Nat → Nat) (hs : st = stepN) : ∀ l d, g149 st l = some d → d.ok = true → PlainCall Tryz.prog [] 110 (toVs l) (toV d.val) ∧ ofVs (toVs l) = some l := by
  intro l d h hk
  subst hs
  unfold g149 at h
  split at h
  · cases h
    obtain ⟨hx, hy⟩ := num_lt hk
    exact ⟨plain_by _ tab_ok globals4 (by kernel_rfl) (law149 _ _ _ hx hy) ⟨trivial, ⟨trivial, trivial, trivial⟩, trivial⟩ ⟨trivial, trivial, trivial⟩, rfl⟩
  · cases h
theorem g124_ok (st : Nat → Int → Nat → Nat) (hs : st = stepN) : ∀ l d, g124 st l = some d → d.ok = true → PlainCall Tryz.prog [] 84 (toVs l) (toV d.val) ∧ ofVs (toVs l) = some l := by
  intro l d h hk
  subst hs
  unfold g124 at h
  split at h
  · cases h
    obtain ⟨hx, hy⟩ := num_lt hk
    exact ⟨plain_by _ tab_ok globals4 (by kernel_rfl) (law124 _ _ _ hx hy) ⟨trivial, trivial, trivial, trivial⟩ ⟨trivial, trivial, trivial⟩, rfl⟩
  · cases h
def lawsA2 (st : Nat → Int → Nat → Nat) (hs : st = stepN) : Laws Tryz.prog := ((lawsA1 qN ordN backN rfl rfl rfl).add 110 (g149 st) (g149_ok st hs)).add 84 (g124 st) (g124_ok st hs)
end
end Go.Vm.YtdmlbojhfgimnaaGreatDoor
