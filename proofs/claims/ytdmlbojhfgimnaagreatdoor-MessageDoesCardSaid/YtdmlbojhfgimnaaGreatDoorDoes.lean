/-
  The law MessageDoes, as a plain call: it answers true, whatever the message, the key and the value.
-/
import Derived.Test.YtdmlbojhfgimnaaGreatDoorAP15
set_option linter.unusedVariables false
set_option linter.unusedSimpArgs false
namespace Go.Vm.YtdmlbojhfgimnaaGreatDoor
open Go.Proofs
noncomputable section
set_option maxRecDepth 10000 in
theorem tDoes (mf : MF) (h : mf = applyM) (op : Int) (k t w x v : Txt) (th : Bool) : treeOf (lawsG mf h) tab [5] 4 200 5 [.agg [.int .i64 op, .str k, .str t, .str w], .agg [.str x, .str v, .bool th]] =
    cond (!fewB k t w) (some (DV.bool true)) (cond (decide (1000 < (↑(List.length x) : Int))) (some (DV.bool true)) (cond (decide (1000 < (↑(List.length v) : Int))) (some (DV.bool true)) (cond (decide (List.length v < 4611686018427387904)) (cond (decide (List.length v < 4611686018427387904)) (cond (decide (Prod.fst (mf op k t w x v th) = Prod.fst (mf op k t w x v th))) (cond ((Prod.snd (mf op k t w x v th) == Prod.snd (mf op k t w x v th)) != false) (some (DV.bool true)) (some (DV.bool false))) (some (DV.bool false))) none) none))) := by kernel_rfl
theorem law5 (op : Int) (k t w x v : Txt) (th : Bool) : treeOf (lawsG applyM rfl) tab [5] 4 200 5 [.agg [.int .i64 op, .str k, .str t, .str w], .agg [.str x, .str v, .bool th]] = some (.bool true) := by
  refine (tDoes applyM rfl op k t w x v th).trans ?_
  generalize applyM op k t w x v th = p
  cases fewB k t w with
  | false => rfl
  | true =>
    by_cases hx : 1000 < (x.length : Int)
    · rw [decide_eq_true hx]; rfl
    · rw [decide_eq_false hx]
      by_cases hv : 1000 < (v.length : Int)
      · rw [decide_eq_true hv]; rfl
      · rw [decide_eq_false hv, decide_eq_true (show v.length < 4611686018427387904 by omega), decide_eq_true (rfl : p.1 = p.1)]
        cases p.2 <;> rfl
theorem plain5 (op : Int) (k t w x v : Txt) (th : Bool) : PlainCall Tryz.prog [] 5 (toVs [.agg [.int .i64 op, .str k, .str t, .str w], .agg [.str x, .str v, .bool th]]) (.bool true) :=
  plain_by (v := .bool true) _ tab_ok globals4 (by kernel_rfl) (law5 op k t w x v th) ⟨⟨trivial, trivial, trivial, trivial, trivial⟩, ⟨trivial, trivial, trivial, trivial⟩, trivial⟩ trivial
end
end Go.Vm.YtdmlbojhfgimnaaGreatDoor
