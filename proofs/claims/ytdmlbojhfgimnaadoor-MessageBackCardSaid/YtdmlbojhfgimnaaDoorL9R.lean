/-
  The law MessageTakes, as a plain call: it answers true, whatever the text.
-/
import Derived.Test.YtdmlbojhfgimnaaDoorL9Q
set_option linter.unusedVariables false
set_option linter.unusedSimpArgs false
namespace Go.Vm.YtdmlbojhfgimnaaDoor
open Go.Proofs
noncomputable section

theorem wf_errT (e : Int) : wf 0 (toV (errT e)) := ⟨⟨trivial, trivial, trivial, trivial, trivial⟩, trivial, trivial⟩
theorem wf_mayT (op : Int) (k t v : List UInt8) : wf 0 (toV (mayT op k t v).val) := by
  unfold mayT
  simp only [PD.val]
  split
  · exact ⟨⟨trivial, trivial, trivial, trivial, trivial⟩, trivial, trivial⟩
  · exact wf_errT 4
theorem wf_tailD (s : List UInt8) (q : Nat) (f : List UInt8 → PD) (hf : ∀ t, wf 0 (toV (f t).val)) : wf 0 (toV (tailD s q f).val) := by
  unfold tailD
  simp only [PD.val]
  repeat' first | exact wf_errT _ | exact hf _ | split
theorem wf_take (s : List UInt8) : wf 0 (toV (takeD s).val) := by
  unfold takeD
  simp only [PD.val]
  repeat' first | exact wf_errT _ | exact wf_mayT _ _ _ _ | exact wf_tailD _ _ _ (fun _ => wf_mayT _ _ _ _) | split
noncomputable def gtake : List DV → Option PD := fun l => match l with
  | [.str s] => some (.need (decide (s.length ≤ 1000)) (takeD s))
  | _ => none
theorem gtake_ok (f : Nat) (h : ∀ s : List UInt8, s.length ≤ 1000 → PlainCall Tryd.prog [] f (toVs [.str s]) (toV (takeD s).val)) : ∀ l d, gtake l = some d → d.ok = true → PlainCall Tryd.prog [] f (toVs l) (toV d.val) ∧ ofVs (toVs l) = some l := by
  intro l d hl ho
  unfold gtake at hl
  split at hl
  · rename_i s
    cases hl
    simp only [PD.ok_need, Bool.and_eq_true, decide_eq_true_eq] at ho
    exact ⟨h s ho.1, dec_s s⟩
  · cases hl
theorem g15_ok : ∀ l d, gtake l = some d → d.ok = true → PlainCall Tryd.prog [] 7 (toVs l) (toV d.val) ∧ ofVs (toVs l) = some l :=
  gtake_ok 7 fun s hs => plain_by _ tab_ok globals4 (by kernel_rfl) (law15 s hs) ⟨trivial, trivial⟩ (wf_take s)
noncomputable def laws17 : Laws Tryd.prog := (laws13.add 7 gtake g15_ok)
/-- what Take answers, as one thing that is not looked into -/
noncomputable def takeV (op : Int) (k t v : List UInt8) (e : Int) : DV := .tup [.agg [.int .i64 op, .str k, .str t, .str v], .int .i64 e]
theorem take_some (s : List UInt8) : ∃ op k t v e, (takeD s).val = takeV op k t v e := by
  have hT : ∀ e, ∃ op k t v e', errT e = takeV op k t v e' := fun e => ⟨_, _, _, _, _, rfl⟩
  have hM : ∀ op k t v, ∃ op' k' t' v' e', (mayT op k t v).val = takeV op' k' t' v' e' := by
    intro op k t v
    unfold mayT
    simp only [PD.val]
    split
    · exact ⟨_, _, _, _, _, rfl⟩
    · exact hT 4
  have hL : ∀ q (f : List UInt8 → PD), (∀ t, ∃ op' k' t' v' e', (f t).val = takeV op' k' t' v' e') → ∃ op' k' t' v' e', (tailD s q f).val = takeV op' k' t' v' e' := by
    intro q f hf
    unfold tailD
    simp only [PD.val]
    repeat' first | exact hT _ | exact hf _ | split
  unfold takeD
  simp only [PD.val]
  repeat' first | exact hT _ | exact hM _ _ _ _ | exact hL _ _ (fun _ => hM _ _ _ _) | split
noncomputable def isTake (s : List UInt8) (op : Int) (k t v : List UInt8) (e : Int) : Bool := decide (s.length ≤ 1000) && @decide ((takeD s).val = takeV op k t v e) (Classical.propDecidable _)
theorem isTake_of {s : List UInt8} {op : Int} {k t v : List UInt8} {e : Int} (hl : s.length ≤ 1000) (h : (takeD s).val = takeV op k t v e) : isTake s op k t v e = true := by
  unfold isTake
  rw [Bool.and_eq_true]
  exact ⟨decide_eq_true hl, @decide_eq_true _ (Classical.propDecidable _) h⟩
noncomputable def gtakeV (op : Int) (k t v : List UInt8) (e : Int) : List DV → Option PD := fun l => match l with
  | [.str s] => some (.need (isTake s op k t v e) (.v (.tup [.agg [.int .i64 op, .str k, .str t, .str v], .int .i64 e])))
  | _ => none
theorem gtakeV_ok (f : Nat) (h : ∀ s : List UInt8, s.length ≤ 1000 → PlainCall Tryd.prog [] f (toVs [.str s]) (toV (takeD s).val)) (op : Int) (k t v : List UInt8) (e : Int) : ∀ l d, gtakeV op k t v e l = some d → d.ok = true → PlainCall Tryd.prog [] f (toVs l) (toV d.val) ∧ ofVs (toVs l) = some l := by
  intro l d hl ho
  unfold gtakeV at hl
  split at hl
  · rename_i s
    cases hl
    simp only [PD.ok_need, PD.ok_v, Bool.and_true] at ho
    unfold isTake at ho
    rw [Bool.and_eq_true] at ho
    have h1 := of_decide_eq_true ho.1
    have h2 := @of_decide_eq_true _ (Classical.propDecidable _) ho.2
    refine ⟨?_, dec_s s⟩
    have := h s h1
    rw [h2] at this
    exact this
  · cases hl
theorem call15 (s : List UInt8) (hs : s.length ≤ 1000) : PlainCall Tryd.prog [] 7 (toVs [.str s]) (toV (takeD s).val) := plain_by _ tab_ok globals4 (by kernel_rfl) (law15 s hs) ⟨trivial, trivial⟩ (wf_take s)
end
end Go.Vm.YtdmlbojhfgimnaaDoor
