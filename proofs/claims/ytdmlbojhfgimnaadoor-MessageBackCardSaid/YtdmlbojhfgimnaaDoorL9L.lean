/-
  Texts with their lengths ahead; whether a message may be, as an error.
-/
import Derived.Test.YtdmlbojhfgimnaaDoorL9J
set_option linter.unusedVariables false
set_option linter.unusedSimpArgs false
namespace Go.Vm.YtdmlbojhfgimnaaDoor
open Go.Proofs
noncomputable section

/-- two bytes of a number -/
noncomputable def be2 (n : Nat) : List UInt8 := [UInt8.ofNat (n / 256), UInt8.ofNat (n % 256)]
/-- a text, its length ahead -/
noncomputable def textD (s : List UInt8) : PD := .br (decide (65535 < (s.length : Int))) (.v (.tup [.str [], .bool false])) (.v (.tup [.str (be2 s.length ++ s), .bool true]))
set_option maxRecDepth 10000 in
theorem wf_text (s : List UInt8) : wf 0 (toV (textD s).val) := by
  unfold textD
  simp only [PD.val_br, PD.val_v]
  cases decide (65535 < (s.length : Int)) <;> exact ⟨trivial, trivial, trivial⟩
noncomputable def gtext : List DV → Option PD := fun l => match l with
  | [.str s] => some (textD s)
  | _ => none
noncomputable def checkD (op : Int) (k t v : List UInt8) : PD := .br (mayB op k t v) (.v (.int .i64 0)) (.v (.int .i64 4))
set_option maxRecDepth 10000 in
theorem tree13 (op : Int) (k t v : List UInt8) : treeOf laws10 tab [25] 4 200 25 [.agg [.int .i64 op, .str k, .str t, .str v]] =
    cond (!mayB op k t v) (some (DV.int .i64 4)) (some (DV.int .i64 0)) := by kernel_rfl

theorem law13 (op : Int) (k t v : List UInt8) : treeOf laws10 tab [25] 4 200 25 [.agg [.int .i64 op, .str k, .str t, .str v]] = some (checkD op k t v).val := by
  rw [tree13]
  unfold checkD
  simp only [pd_br, pd_v, cond_nn]
theorem wf_check (op : Int) (k t v : List UInt8) : wf 0 (toV (checkD op k t v).val) := by
  unfold checkD
  simp only [PD.val]
  split <;> trivial
noncomputable def gcheck : List DV → Option PD := fun l => match l with
  | [.agg [.int .i64 op, .str k, .str t, .str v]] => some (checkD op k t v)
  | _ => none
theorem g13_ok : ∀ l d, gcheck l = some d → d.ok = true → PlainCall Tryd.prog [] 25 (toVs l) (toV d.val) ∧ ofVs (toVs l) = some l := by
  intro l d h ho
  unfold gcheck at h
  split at h
  · rename_i op k t v
    cases h
    exact ⟨plain_by _ tab_ok globals4 (by kernel_rfl) (law13 op k t v) ⟨⟨trivial, trivial, trivial, trivial, trivial⟩, trivial⟩ (wf_check op k t v), dec_msg op k t v⟩
  · cases h
noncomputable def laws11 : Laws Tryd.prog := (laws10.add 25 gcheck g13_ok)
end
end Go.Vm.YtdmlbojhfgimnaaDoor
