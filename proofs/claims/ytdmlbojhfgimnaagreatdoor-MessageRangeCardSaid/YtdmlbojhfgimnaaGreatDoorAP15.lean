/-
  What a message makes of a key's value.
-/
import Derived.Test.YtdmlbojhfgimnaaGreatDoorAP14
set_option linter.unusedVariables false
set_option linter.unusedSimpArgs false
namespace Go.Vm.YtdmlbojhfgimnaaGreatDoor
open Go.Proofs
noncomputable section
set_option maxRecDepth 10000 in
theorem tApp (pf : PF) (h : pf = patchDo) (op : Int) (k t w x v : Txt) (th : Bool) : treeOf (lawsF2 pf h) tab [17, 21, 52] 4 200 17 [.agg [.int .i64 op, .str k, .str t, .str w], .str x, .str v, .bool th] =
    cond (!th) (cond (mayB op k t w) (cond (decide (op = 3)) (cond (!Op.bytesLess x k) (cond (!Op.bytesLess x t) (some (DV.tup [DV.str [], DV.bool th])) (cond (decide (op = 1)) (some (DV.tup [DV.str w, DV.bool true])) (cond (decide (op = 4)) (cond (decide (0 < List.length k) && true) (some (DV.tup [DV.str (Prod.fst (pf k w [] th)), DV.bool (Prod.snd (pf k w [] th))])) none) (some (DV.tup [DV.str [], DV.bool false]))))) (some (DV.tup [DV.str [], DV.bool th]))) (cond (!decide (x = k)) (some (DV.tup [DV.str [], DV.bool th])) (cond (decide (op = 1)) (some (DV.tup [DV.str w, DV.bool true])) (cond (decide (op = 4)) (cond (decide (0 < List.length k) && true) (some (DV.tup [DV.str (Prod.fst (pf k w [] th)), DV.bool (Prod.snd (pf k w [] th))])) none) (some (DV.tup [DV.str [], DV.bool false])))))) (some (DV.tup [DV.str [], DV.bool th]))) (cond (mayB op k t w) (cond (decide (op = 3)) (cond (!Op.bytesLess x k) (cond (!Op.bytesLess x t) (some (DV.tup [DV.str v, DV.bool th])) (cond (decide (op = 1)) (some (DV.tup [DV.str w, DV.bool true])) (cond (decide (op = 4)) (cond (decide (0 < List.length k) && decide (List.length v < 4611686018427387904)) (some (DV.tup [DV.str (Prod.fst (pf k w v th)), DV.bool (Prod.snd (pf k w v th))])) none) (some (DV.tup [DV.str [], DV.bool false]))))) (some (DV.tup [DV.str v, DV.bool th]))) (cond (!decide (x = k)) (some (DV.tup [DV.str v, DV.bool th])) (cond (decide (op = 1)) (some (DV.tup [DV.str w, DV.bool true])) (cond (decide (op = 4)) (cond (decide (0 < List.length k) && decide (List.length v < 4611686018427387904)) (some (DV.tup [DV.str (Prod.fst (pf k w v th)), DV.bool (Prod.snd (pf k w v th))])) none) (some (DV.tup [DV.str [], DV.bool false])))))) (some (DV.tup [DV.str v, DV.bool th]))) := by kernel_rfl
/-- .. of a key that is touched -/
def makeM (op : Int) (k w v : Txt) (th : Bool) : Txt × Bool := cond (decide (op = 1)) (w, true) (cond (decide (op = 4)) (patchDo k w v th) ([], false))
def applyM (op : Int) (k t w x v : Txt) (th : Bool) : Txt × Bool := cond (touchB op k t w x) (makeM op k w (cond th v []) th) (cond th v [], th)
theorem may_len {op : Int} {k t w : Txt} (h : mayB op k t w = true) : 0 < k.length := by
  unfold mayB at h
  by_cases h1 : k.length < 1
  · rw [decide_eq_true h1] at h; cases h
  · omega
theorem len_and {n : Nat} (h : 0 < n) : (decide (0 < n) && true) = true := by rw [decide_eq_true h]; rfl
theorem lawP39 (op : Int) (k t w x v : Txt) (th : Bool) (hv : v.length < 4611686018427387904) : treeOf (lawsF2 patchDo rfl) tab [17, 21, 52] 4 200 17 [.agg [.int .i64 op, .str k, .str t, .str w], .str x, .str v, .bool th] = some (tbV (applyM op k t w x v th)) := by
  rw [tApp, decide_eq_true hv]
  unfold applyM touchB makeM
  cases hm : mayB op k t w with
  | false => cases th <;> rfl
  | true =>
    have hk := may_len hm
    rw [len_and hk]
    by_cases h3 : op = 3
    · subst h3
      cases th <;> cases Op.bytesLess x k <;> cases Op.bytesLess x t <;> rfl
    · rw [decide_eq_false h3]
      by_cases hx : x = k
      · subst hx
        rw [decide_eq_true rfl]
        cases th <;> cases decide (op = 1) <;> cases decide (op = 4) <;> rfl
      · rw [decide_eq_false hx]
        cases th <;> rfl
abbrev MF := Int → Txt → Txt → Txt → Txt → Txt → Bool → Txt × Bool
def mfD (mf : MF) (op : Int) (k t w x v : Txt) (th : Bool) : PD := .need (decide (v.length < 4611686018427387904)) (.v (tbV (mf op k t w x v th)))
def gmf (mf : MF) : List DV → Option PD := fun l => match l with
  | [.agg [.int .i64 op, .str k, .str t, .str w], .str x, .str v, .bool th] => some (mfD mf op k t w x v th)
  | _ => none
theorem dec_mf (op : Int) (k t w x v : Txt) (th : Bool) : ofVs (toVs [.agg [.int .i64 op, .str k, .str t, .str w], .str x, .str v, .bool th]) = some [.agg [.int .i64 op, .str k, .str t, .str w], .str x, .str v, .bool th] := by
  simp only [toVs, toV, ofVs, ofV, ofV_sv]
theorem gmf39_ok (mf : MF) (h : mf = applyM) : ∀ l d, gmf mf l = some d → d.ok = true → PlainCall Tryz.prog [] 17 (toVs l) (toV d.val) ∧ ofVs (toVs l) = some l := by
  intro l d hg hk
  subst h
  unfold gmf at hg
  split at hg
  · cases hg
    unfold mfD at hk
    simp only [PD.ok_need, PD.ok_v, Bool.and_true] at hk
    exact ⟨plain_by _ tab_ok globals4 (by kernel_rfl) (lawP39 _ _ _ _ _ _ _ (of_decide_eq_true hk)) ⟨⟨trivial, trivial, trivial, trivial, trivial⟩, trivial, trivial, trivial, trivial⟩ ⟨trivial, trivial, trivial⟩, dec_mf _ _ _ _ _ _ _⟩
  · cases hg
/-- messages' laws, what a message makes of a value too -/
def lawsG (mf : MF) (h : mf = applyM) : Laws Tryz.prog := laws10.add 17 (gmf mf) (gmf39_ok mf h)
end
end Go.Vm.YtdmlbojhfgimnaaGreatDoor
