/-
  Parts and touches as one answer each; the table for MessageRange.
-/
import Derived.Test.YtdmlbojhfgimnaaGreatDoorRK
set_option linter.unusedVariables false
set_option linter.unusedSimpArgs false
namespace Go.Vm.YtdmlbojhfgimnaaGreatDoor
open Go.Proofs
noncomputable section
abbrev PR := Msg → Txt → Txt → Msg
abbrev PO := Msg → Txt → Txt → Bool
abbrev TF := Msg → Txt → Bool
def partV (m : Msg) (b : Bool) : DV := .tup [.agg [.int .i64 m.1, .str m.2.1, .str m.2.2.1, .str m.2.2.2], .bool b]
def gprt (pr : PR) (po : PO) : List DV → Option PD := fun l => match l with
  | [.agg [.int .i64 op, .str k, .str t, .str v], .str a, .str b] => some (.v (partV (pr (op, k, t, v) a b) (po (op, k, t, v) a b)))
  | _ => none
theorem partD_okk (op : Int) (k t v a b : Txt) : (partD op k t v a b).ok = true := by
  unfold partD
  simp only [PD.ok_br, PD.ok_v]
  cases mayB op k t v <;> cases decide (op = 3) <;> cases Op.bytesLess k a <;> cases decide (b = []) <;> cases Op.bytesLess k b <;> simp only [cond_true, cond_false, Bool.cond_self]
theorem gprt_ok (pr : PR) (po : PO) (h1 : pr = prM) (h2 : po = partOk) : ∀ l d, gprt pr po l = some d → d.ok = true → PlainCall Tryz.prog [] 19 (toVs l) (toV d.val) ∧ ofVs (toVs l) = some l := by
  intro l d h hk
  subst h1 h2
  unfold gprt at h
  split at h
  · rename_i op k t v a b
    cases h
    have := g19_ok [.agg [.int .i64 op, .str k, .str t, .str v], .str a, .str b] (partD op k t v a b) rfl (partD_okk op k t v a b)
    rw [← part2_val] at this
    have e : (part2 op k t v a b).val = partV (prM (op, k, t, v) a b) (partOk (op, k, t, v) a b) := by
      unfold part2 prM
      rw [PD.val_br]
      cases hO : partOk (op, k, t, v) a b <;> rfl
    rw [e] at this
    exact this
  · cases h
def gtch (tf : TF) : List DV → Option PD := fun l => match l with
  | [.agg [.int .i64 op, .str k, .str t, .str v], .str x] => some (.v (.bool (tf (op, k, t, v) x)))
  | _ => none
theorem gtch_ok (tf : TF) (h : tf = tM) : ∀ l d, gtch tf l = some d → d.ok = true → PlainCall Tryz.prog [] 21 (toVs l) (toV d.val) ∧ ofVs (toVs l) = some l := by
  intro l d hg hk
  subst h
  unfold gtch at hg
  split at hg
  · rename_i op k t v x
    cases hg
    exact g21_ok [.agg [.int .i64 op, .str k, .str t, .str v], .str x] _ rfl rfl
  · cases hg
def apM (m : Msg) (x v : Txt) (th : Bool) : Txt × Bool := applyM m.1 m.2.1 m.2.2.1 m.2.2.2 x v th
def lawsR (mf : MF) (h : mf = applyM) (pr : PR) (po : PO) (tf : TF) (h1 : pr = prM) (h2 : po = partOk) (h3 : tf = tM) : Laws Tryz.prog := ((lawsG mf h).add 19 (gprt pr po) (gprt_ok pr po h1 h2)).add 21 (gtch tf) (gtch_ok tf h3)
theorem ap_part {m : Msg} {a b x v : Txt} {th : Bool} (ha : a.length ≤ 108) (hb : b.length ≤ 108) (hi : inB x a b = true) : apM (prM m a b) x v th = apM m x v th := by
  have ht := touch_part m a b x ha hb
  rw [hi, Bool.and_true] at ht
  unfold apM applyM
  have e1 : touchB (prM m a b).1 (prM m a b).2.1 (prM m a b).2.2.1 (prM m a b).2.2.2 x = tM m x := ht
  have e2 : touchB m.1 m.2.1 m.2.2.1 m.2.2.2 x = tM m x := rfl
  rw [e1, e2]
  cases hT : tM m x with
  | false => rfl
  | true =>
    rw [hT] at ht
    have hO : partOk m a b = true := by
      cases hO : partOk m a b with
      | true => rfl
      | false =>
        have : prM m a b = zeroM := by unfold prM; rw [hO]; rfl
        rw [this] at ht; cases ht
    have eP : prM m a b = partM m a b := by unfold prM; rw [hO]; rfl
    rw [eP]
    obtain ⟨op, k, t, w⟩ := m
    by_cases h3 : op = 3
    · subst h3; rfl
    · have : partM (op, k, t, w) a b = (op, k, t, w) := by
        unfold partM
        rw [decide_eq_false h3]; rfl
      rw [this]
end
end Go.Vm.YtdmlbojhfgimnaaGreatDoor
