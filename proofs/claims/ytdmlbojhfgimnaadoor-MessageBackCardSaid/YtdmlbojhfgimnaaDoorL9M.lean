/-
  A message's text, as the document's answer makes it.
-/
import Derived.Test.YtdmlbojhfgimnaaDoorL9L
set_option linter.unusedVariables false
set_option linter.unusedSimpArgs false
namespace Go.Vm.YtdmlbojhfgimnaaDoor
open Go.Proofs
noncomputable section

/-- the text of a message that may be -/
noncomputable def putS (op : Int) (k t v : List UInt8) : List UInt8 := UInt8.ofNat op.toNat :: (be2 k.length ++ (k ++ cond (decide (op = 3)) (be2 t.length ++ t) (cond (decide (op = 2)) [] (be2 v.length ++ v))))
noncomputable def putP (op : Int) (k t v : List UInt8) : PD := .br (mayB op k t v) (.v (.tup [.str (putS op k t v), .int .i64 0])) (.v (.tup [.str [], .int .i64 4]))
theorem few_len {k t v : List UInt8} (h : fewB k t v = true) : k.length ≤ 1000 ∧ t.length ≤ 1000 ∧ v.length ≤ 1000 := by
  unfold fewB at h
  simp only [cond_dec] at h
  by_cases h1 : (k.length : Int) ≤ 1000
  · rw [if_pos h1] at h
    by_cases h2 : (t.length : Int) ≤ 1000
    · rw [if_pos h2] at h
      have h3 := of_decide_eq_true h
      omega
    · rw [if_neg h2] at h; cases h
  · rw [if_neg h1] at h; cases h
theorem may_op {op : Int} {k t v : List UInt8} (h : mayB op k t v = true) : (op = 1 ∨ op = 2 ∨ op = 3 ∨ op = 4) ∧ 1 ≤ k.length := by
  unfold mayB at h
  simp only [cond_dec] at h
  split at h
  · cases h
  · split at h
    · cases h
    · refine ⟨?_, by omega⟩
      by_cases h3 : op = 3
      · omega
      · rw [if_neg h3] at h
        split at h
        · split at h
          · omega
          · split at h
            · omega
            · split at h
              · omega
              · cases h
        · cases h
theorem be2_len (n : Nat) : (be2 n).length = 2 := rfl

set_option maxRecDepth 10000 in
set_option maxHeartbeats 2000000 in
theorem wf_put (op : Int) (k t v : List UInt8) : wf 0 (toV (putP op k t v).val) := by
  unfold putP
  simp only [PD.val]
  split <;> exact ⟨trivial, trivial, trivial⟩
noncomputable def gput : List DV → Option PD := fun l => match l with
  | [.agg [.int .i64 op, .str k, .str t, .str v]] => some (.need (fewB k t v) (putP op k t v))
  | _ => none
noncomputable def laws12 : Laws Tryd.prog := laws11
end
end Go.Vm.YtdmlbojhfgimnaaDoor
