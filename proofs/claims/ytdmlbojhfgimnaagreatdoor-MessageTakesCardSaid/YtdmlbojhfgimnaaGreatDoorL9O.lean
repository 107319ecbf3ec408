/-
  The law MessagePuts, as a plain call: it answers true, whatever the message.
-/
import Derived.Test.YtdmlbojhfgimnaaGreatDoorL9N
set_option linter.unusedVariables false
set_option linter.unusedSimpArgs false
namespace Go.Vm.YtdmlbojhfgimnaaGreatDoor
open Go.Proofs
noncomputable section

theorem g11_ok : ∀ l d, gput l = some d → d.ok = true → PlainCall Tryz.prog [] 11 (toVs l) (toV d.val) ∧ ofVs (toVs l) = some l := by
  intro l d h ho
  unfold gput at h
  split at h
  · rename_i op k t v
    cases h
    have hf : fewB k t v = true := by
      simp only [PD.ok_need, Bool.and_eq_true] at ho
      exact ho.1
    exact ⟨plain_by _ tab_ok globals4 (by kernel_rfl) (law11 op k t v hf) ⟨⟨trivial, trivial, trivial, trivial, trivial⟩, trivial⟩ (wf_put op k t v), dec_msg op k t v⟩
  · cases h
noncomputable def laws13 : Laws Tryz.prog := laws12.add 11 gput g11_ok

set_option maxRecDepth 10000 in
theorem tree3 (op : Int) (k t v : List UInt8) : treeOf laws13 tab [3, 14] 4 200 3 [.agg [.int .i64 op, .str k, .str t, .str v]] =
    cond (!fewB k t v) (some (DV.bool true)) (cond (fewB k t v) (cond (mayB op k t v) (cond (fewB k t v) (cond (mayB op k t v) (cond (decide (putS op k t v = putS op k t v)) (cond (mayB op k t v) (cond (fewB k t v) (cond (mayB op k t v) (cond (decide ((↑(List.length (putS op k t v)) : Int) = (↑(List.length (putS op k t v)) : Int))) (some (DV.bool true)) (some (DV.bool false))) (some (DV.bool false))) none) (some (DV.bool false))) (some (DV.bool false))) (some (DV.bool false))) none) (cond (fewB k t v) (cond (mayB op k t v) (some (DV.bool false)) (cond (mayB op k t v) (some (DV.bool false)) (cond (fewB k t v) (cond (mayB op k t v) (some (DV.bool false)) (some (DV.bool true))) none))) none)) none) := by kernel_rfl

set_option maxHeartbeats 2000000 in
theorem law3 (op : Int) (k t v : List UInt8) : treeOf laws13 tab [3, 14] 4 200 3 [.agg [.int .i64 op, .str k, .str t, .str v]] = some (.bool true) := by
  rw [tree3]
  cases hf : fewB k t v <;> simp only [Bool.not_true, Bool.not_false, cond_true, cond_false]
  cases hm : mayB op k t v <;> simp
theorem plain3 (op : Int) (k t v : List UInt8) : PlainCall Tryz.prog [] 3 (toVs [.agg [.int .i64 op, .str k, .str t, .str v]]) (.bool true) :=
  plain_by (v := .bool true) _ tab_ok globals4 (by kernel_rfl) (law3 op k t v) ⟨⟨trivial, trivial, trivial, trivial, trivial⟩, trivial⟩ trivial

end
end Go.Vm.YtdmlbojhfgimnaaGreatDoor
