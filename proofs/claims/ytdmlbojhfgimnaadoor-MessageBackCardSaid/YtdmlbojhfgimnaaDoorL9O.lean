/-
  The law MessagePuts, as a plain call: it answers true, whatever the message.
-/
import Derived.Test.YtdmlbojhfgimnaaDoorL9N
set_option linter.unusedVariables false
set_option linter.unusedSimpArgs false
namespace Go.Vm.YtdmlbojhfgimnaaDoor
open Go.Proofs
noncomputable section

theorem g11_ok : ∀ l d, gput l = some d → d.ok = true → PlainCall Tryd.prog [] 6 (toVs l) (toV d.val) ∧ ofVs (toVs l) = some l := by
  intro l d h ho
  unfold gput at h
  split at h
  · rename_i op k t v
    cases h
    have hf : fewB k t v = true := by
      simp only [PD.ok_need, Bool.and_eq_true] at ho
      exact ho.1
    exact ⟨plain_by _ tab_ok globals4 (by kernel_rfl) (law11 op k t v hf) ⟨⟨trivial, trivial, trivial, trivial, trivial⟩, trivial⟩ (wf_put op k t v), dec_msg op k t v⟩
  · cases h
noncomputable def laws13 : Laws Tryd.prog := (laws12.add 6 gput g11_ok)

set_option maxRecDepth 10000 in
set_option maxHeartbeats 2000000 in
end
end Go.Vm.YtdmlbojhfgimnaaDoor
