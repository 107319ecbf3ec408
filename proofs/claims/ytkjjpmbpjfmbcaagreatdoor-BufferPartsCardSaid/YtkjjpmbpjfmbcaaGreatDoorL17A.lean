/-
  What the laws of layer 17 stand over: the functions, what is known of messages, and that the closing examples hold.
-/
import Derived.Test.YtkjjpmbpjfmbcaaGreatDoorL9J
import Derived.Test.YtkjjpmbpjfmbcaaGreatDoorV8
set_option linter.unusedVariables false
set_option linter.unusedSimpArgs false
namespace Go.Vm.YtkjjpmbpjfmbcaaGreatDoor
open Go.Proofs
noncomputable section
abbrev Txt := List UInt8
abbrev Msg := Int × Txt × Txt × Txt
/-- has a message a part in a range? -/
def partOk (m : Msg) (a b : Txt) : Bool := mayB m.1 m.2.1 m.2.2.1 m.2.2.2 && cond (decide (m.1 = 3))
  (Op.bytesLess (cond (Op.bytesLess m.2.1 a) a m.2.1) (cond (decide (b = [])) m.2.2.1 (cond (Op.bytesLess b m.2.2.1) b m.2.2.1)))
  (!Op.bytesLess m.2.1 a && (decide (b = []) || Op.bytesLess m.2.1 b))
/-- .. which -/
def partM (m : Msg) (a b : Txt) : Msg := (m.1, cond (decide (m.1 = 3)) (cond (Op.bytesLess m.2.1 a) a m.2.1) m.2.1, cond (decide (m.1 = 3)) (cond (decide (b = [])) m.2.2.1 (cond (Op.bytesLess b m.2.2.1) b m.2.2.1)) m.2.2.1, m.2.2.2)
def part2 (op : Int) (k t v a b : Txt) : PD := .br (partOk (op, k, t, v) a b)
  (.v (someV op (partM (op, k, t, v) a b).2.1 (partM (op, k, t, v) a b).2.2.1 v)) (.v noneV)
theorem part2_val (op : Int) (k t v a b : Txt) : (part2 op k t v a b).val = (partD op k t v a b).val := by
  unfold part2 partD partOk partM
  simp only [pd_br, pd_v, PD.val_br, PD.val_v]
  cases mayB op k t v <;> cases decide (op = 3) <;> cases Op.bytesLess k a <;> cases decide (b = []) <;> cases Op.bytesLess b t <;> cases Op.bytesLess k b <;>
    simp only [Bool.true_and, Bool.false_and, Bool.and_false, Bool.and_true, Bool.or_true, Bool.or_false, Bool.true_or, Bool.false_or, Bool.not_true, Bool.not_false, cond_true, cond_false, if_true, if_false, Bool.false_eq_true]
noncomputable def gpart2 : List DV → Option PD := fun l => match l with
  | [.agg [.int .i64 op, .str k, .str t, .str v], .str a, .str b] => some (part2 op k t v a b)
  | _ => none
theorem partD_ok (op : Int) (k t v a b : Txt) : (partD op k t v a b).ok = true := by
  unfold partD
  simp only [PD.ok_br, PD.ok_v]
  cases mayB op k t v <;> cases decide (op = 3) <;> cases Op.bytesLess k a <;> cases decide (b = []) <;> cases Op.bytesLess k b <;> simp only [cond_true, cond_false, Bool.cond_self]
theorem p60_ok : ∀ l d, gpart2 l = some d → d.ok = true → PlainCall Tryz.prog [] 60 (toVs l) (toV d.val) ∧ ofVs (toVs l) = some l := by
  intro l d h ho
  unfold gpart2 at h
  split at h
  · rename_i op k t v a b
    cases h
    rw [part2_val]
    exact g19_ok _ _ rfl (partD_ok op k t v a b)
  · cases h
theorem p62_ok : ∀ l d, gpart2 l = some d → d.ok = true → PlainCall Tryz.prog [] 62 (toVs l) (toV d.val) ∧ ofVs (toVs l) = some l := by
  intro l d h ho
  unfold gpart2 at h
  split at h
  · rename_i op k t v a b
    cases h
    rw [part2_val]
    exact g20_ok _ _ rfl (partD_ok op k t v a b)
  · cases h
set_option maxRecDepth 100000 in
theorem run16 (el : Nat → Nat) : resIs isTrue (callOF noO (tabOf all) 1000 16 [] (baseH 7 [] el)) = true := by kernel_rfl
def gawake16 : List DV → Option PD := fun l => match l with
  | [] => some (.v (.bool true))
  | _ => none
theorem g16_ok : ∀ l d, gawake16 l = some d → d.ok = true → PlainCall Tryz.prog [] 16 (toVs l) (toV d.val) ∧ ofVs (toVs l) = some l := by
  intro l d h ho
  unfold gawake16 at h
  split at h
  · cases h
    refine ⟨plain_of_run noTmps_ok noO_good noO_sim tab_ok (n := 1000) ⟨fun x hx => (by cases hx), fun x hx => (by cases hx)⟩ (fun el => ?_) trivial trivial, rfl⟩
    rw [globals4, ← callOF_eq]
    exact resIs_true (run16 el)
  · cases h
def X : Laws Tryz.prog := ((laws10.add 60 gpart2 p60_ok).add 62 gpart2 p62_ok).add 16 gawake16 g16_ok
theorem above : R.Above X X.O := ⟨X.O_good, fun _ _ _ _ _ e => e⟩
def kn : Nat → Bool := fun f => X.dom.any (Nat.beq f)
theorem kn_no : ∀ f, kn f = false → ∀ a h, X.O f a h = .no := by
  intro f hf a h
  refine X.O_no (fun hm => ?_) a h
  have : kn f = true := List.any_eq_true.2 ⟨f, hm, Nat.beq_refl f⟩
  rw [this] at hf; cases hf
def kd : R.Kd := ⟨fun el => match Nat.beq el 41 with
  | true => some .ent
  | false => match Nat.beq el 31 with
    | true => some .msg
    | false => match Nat.beq el 5 with
      | true => some .byte
      | false => none, fun _ => none⟩
def base : Base := []
theorem base_ok : BaseOk Tryz.prog.globals.size base := ⟨fun x hx => (by cases hx), fun x hx => (by cases hx)⟩
def gl : R.Gl := R.glBase 7 base (fun x hx => by cases hx)
def C : R.Ctx Tryz.prog := ⟨X, gl, globals4.symm, X.O, above, tab, tab_ok, kn, kn_no, kd⟩
def Y0 : C.RL := R.RLaws.none C.G C.O C.tab
end
end Go.Vm.YtkjjpmbpjfmbcaaGreatDoor
