/-
  The reader of package codec: numbers, by trees.
-/
import Derived.Test.YtdmlbojhfgimnaaGreatDoorL9A
set_option linter.unusedVariables false
set_option linter.unusedSimpArgs false
namespace Go.Vm.YtdmlbojhfgimnaaGreatDoor
open Go.Proofs
noncomputable section

/-- what reading a number of w bytes makes of a reader -/
noncomputable def getD (kd : IntKind) (w : Nat) (s : List UInt8) (z : Int) : OD :=
  .br (!decide (z = 0)) (.v (.int kd 0) [.str s, .int .i64 z]) (.br (decide ((s.length : Int) < (w : Int))) (.v (.int kd 0) [.str [], .int .i64 10])
    (.v (.int kd (numOf (s.take w) : Int)) [.str (s.drop w), .int .i64 z]))
theorem wf_get (kd : IntKind) (w : Nat) (s : List UInt8) (z : Int) : (getD kd w s z).val.2.length = 2 ∧ wfs 0 (toVs (getD kd w s z).val.2) ∧ wf 0 (toV (getD kd w s z).val.1) := by
  unfold getD
  simp only [OD.val]
  split
  · exact ⟨rfl, ⟨trivial, trivial, trivial⟩, trivial⟩
  · split
    · exact ⟨rfl, ⟨trivial, trivial, trivial⟩, trivial⟩
    · exact ⟨rfl, ⟨trivial, trivial, trivial⟩, trivial⟩
theorem get_short (kd : IntKind) (w : Nat) (s : List UInt8) (z : Int) (h : s.length < w) : cond (!decide (z = 0)) (some (DV.tup [.int kd 0, .agg [.str s, .int .i64 z]])) (some (.tup [.int kd 0, .agg [.str [], .int .i64 10]])) =
    some (.tup [(getD kd w s z).val.1, .agg (getD kd w s z).val.2]) := by
  unfold getD
  simp only [OD.val]
  rw [show decide ((s.length : Int) < (w : Int)) = true by simpa using h]
  cases !decide (z = 0) <;> rfl
theorem get_long (kd : IntKind) (w : Nat) (s : List UInt8) (z x : Int) (h : w ≤ s.length) (hx : x = (numOf (s.take w) : Int)) :
    cond (!decide (z = 0)) (some (DV.tup [.int kd 0, .agg [.str s, .int .i64 z]])) (cond (decide ((s.length : Int) < (w : Int))) (some (.tup [.int kd 0, .agg [.str [], .int .i64 10]])) (some (.tup [.int kd x, .agg [.str (s.drop w), .int .i64 z]]))) =
    some (.tup [(getD kd w s z).val.1, .agg (getD kd w s z).val.2]) := by
  unfold getD
  simp only [OD.val]
  rw [show decide ((s.length : Int) < (w : Int)) = false by simpa using h, hx]
  cases !decide (z = 0) <;> rfl
theorem num_le (l : List UInt8) (w : Nat) (h : l.length = w) : (numOf l : Int) < ((256 ^ w : Nat) : Int) := by
  have := numOf_lt l
  rw [h] at this
  exact_mod_cast this

theorem tree67_0 (z : Int) : treeObj laws1 tab [67] 4 200 67 110 [.str [], .int .i64 z] [.int .i64 1] = cond (!decide (z = 0)) (some (DV.tup [.int .u8 0, .agg [.str [], .int .i64 z]])) (some (.tup [.int .u8 0, .agg [.str [], .int .i64 10]])) := by kernel_rfl
theorem tree67_long (b0 : UInt8) (r : List UInt8) (z : Int) : treeObj laws1 tab [67] 4 200 67 110 [.str (b0 :: r), .int .i64 z] [.int .i64 1] =
    cond (!decide (z = 0)) (some (DV.tup [.int .u8 0, .agg [.str (b0 :: r), .int .i64 z]])) (cond (decide (((b0 :: r).length : Int) < 1)) (some (.tup [.int .u8 0, .agg [.str [], .int .i64 10]])) (some (.tup [.int .u8 (IntKind.wrap .u8 (gfold 0 [b0])), .agg [.str r, .int .i64 z]]))) := by kernel_rfl
theorem law67 (s : List UInt8) (z : Int) : treeObj laws1 tab [67] 4 200 67 110 [.str s, .int .i64 z] [.int .i64 1] = some (.tup [(getD .u8 1 s z).val.1, .agg (getD .u8 1 s z).val.2]) := match s with
  | [] => (tree67_0  z).trans (get_short .u8 1 [] z (by simp))
  | b0 :: r => (tree67_long b0 r z).trans (get_long .u8 1 (b0 :: r) z _ (by simp) (by
      have e : (numOf ((b0 :: r).take 1) : Int) = numOf [b0] := rfl
      have h1 := num_le [b0] 1 rfl
      rw [e, gfold_num [b0] (by simp)]
      rw [wrap_u8 (by omega) (by simp at h1; omega)]))

noncomputable def g67 : Nat → List DV → List DV → Option OD := fun el l r => match el, l, r with
  | 110, [.str s, .int .i64 z], [.int .i64 1] => some (getD .u8 1 s z)
  | _, _, _ => none
theorem g67_ok : ∀ el l r d, g67 el l r = some d → d.ok = true → ObjCall Tryz.prog 67 el (toVs l) (toVs r) (toV d.val.1) (toVs d.val.2) ∧ ofVs (toVs l) = some l ∧ ofVs (toVs r) = some r := by
  intro el l r d h ho
  unfold g67 at h
  split at h
  · rename_i s z
    cases h
    obtain ⟨h1, h2, h3⟩ := wf_get .u8 1 s z
    exact ⟨obj_by _ tab_ok globals4 (by kernel_rfl) (law67 s z) h1 ⟨trivial, trivial, trivial⟩ h2 ⟨trivial, trivial⟩ h3, dec_rd s z, rfl⟩
  · cases h

theorem tree99_0 (z : Int) : treeObj laws1 tab [99] 4 200 99 110 [.str [], .int .i64 z] [.int .i64 2] = cond (!decide (z = 0)) (some (DV.tup [.int .u16 0, .agg [.str [], .int .i64 z]])) (some (.tup [.int .u16 0, .agg [.str [], .int .i64 10]])) := by kernel_rfl
theorem tree99_1 (b0 : UInt8) (z : Int) : treeObj laws1 tab [99] 4 200 99 110 [.str [b0], .int .i64 z] [.int .i64 2] = cond (!decide (z = 0)) (some (DV.tup [.int .u16 0, .agg [.str [b0], .int .i64 z]])) (some (.tup [.int .u16 0, .agg [.str [], .int .i64 10]])) := by kernel_rfl
theorem tree99_long (b0 b1 : UInt8) (r : List UInt8) (z : Int) : treeObj laws1 tab [99] 4 200 99 110 [.str (b0 :: b1 :: r), .int .i64 z] [.int .i64 2] =
    cond (!decide (z = 0)) (some (DV.tup [.int .u16 0, .agg [.str (b0 :: b1 :: r), .int .i64 z]])) (cond (decide (((b0 :: b1 :: r).length : Int) < 2)) (some (.tup [.int .u16 0, .agg [.str [], .int .i64 10]])) (some (.tup [.int .u16 (IntKind.wrap .u16 (gfold 0 [b0, b1])), .agg [.str r, .int .i64 z]]))) := by kernel_rfl
theorem law99 (s : List UInt8) (z : Int) : treeObj laws1 tab [99] 4 200 99 110 [.str s, .int .i64 z] [.int .i64 2] = some (.tup [(getD .u16 2 s z).val.1, .agg (getD .u16 2 s z).val.2]) := match s with
  | [] => (tree99_0  z).trans (get_short .u16 2 [] z (by simp))
  | [b0] => (tree99_1 b0 z).trans (get_short .u16 2 [b0] z (by simp))
  | b0 :: b1 :: r => (tree99_long b0 b1 r z).trans (get_long .u16 2 (b0 :: b1 :: r) z _ (by simp) (by
      have e : (numOf ((b0 :: b1 :: r).take 2) : Int) = numOf [b0, b1] := rfl
      have h1 := num_le [b0, b1] 2 rfl
      rw [e, gfold_num [b0, b1] (by simp)]
      rw [wrap_u16 (by omega) (by simp at h1; omega)]))

noncomputable def g99 : Nat → List DV → List DV → Option OD := fun el l r => match el, l, r with
  | 110, [.str s, .int .i64 z], [.int .i64 2] => some (getD .u16 2 s z)
  | _, _, _ => none
theorem g99_ok : ∀ el l r d, g99 el l r = some d → d.ok = true → ObjCall Tryz.prog 99 el (toVs l) (toVs r) (toV d.val.1) (toVs d.val.2) ∧ ofVs (toVs l) = some l ∧ ofVs (toVs r) = some r := by
  intro el l r d h ho
  unfold g99 at h
  split at h
  · rename_i s z
    cases h
    obtain ⟨h1, h2, h3⟩ := wf_get .u16 2 s z
    exact ⟨obj_by _ tab_ok globals4 (by kernel_rfl) (law99 s z) h1 ⟨trivial, trivial, trivial⟩ h2 ⟨trivial, trivial⟩ h3, dec_rd s z, rfl⟩
  · cases h

theorem tree119_0 (z : Int) : treeObj laws1 tab [119] 4 200 119 110 [.str [], .int .i64 z] [.int .i64 4] = cond (!decide (z = 0)) (some (DV.tup [.int .u32 0, .agg [.str [], .int .i64 z]])) (some (.tup [.int .u32 0, .agg [.str [], .int .i64 10]])) := by kernel_rfl
theorem tree119_1 (b0 : UInt8) (z : Int) : treeObj laws1 tab [119] 4 200 119 110 [.str [b0], .int .i64 z] [.int .i64 4] = cond (!decide (z = 0)) (some (DV.tup [.int .u32 0, .agg [.str [b0], .int .i64 z]])) (some (.tup [.int .u32 0, .agg [.str [], .int .i64 10]])) := by kernel_rfl
theorem tree119_2 (b0 b1 : UInt8) (z : Int) : treeObj laws1 tab [119] 4 200 119 110 [.str [b0, b1], .int .i64 z] [.int .i64 4] = cond (!decide (z = 0)) (some (DV.tup [.int .u32 0, .agg [.str [b0, b1], .int .i64 z]])) (some (.tup [.int .u32 0, .agg [.str [], .int .i64 10]])) := by kernel_rfl
theorem tree119_3 (b0 b1 b2 : UInt8) (z : Int) : treeObj laws1 tab [119] 4 200 119 110 [.str [b0, b1, b2], .int .i64 z] [.int .i64 4] = cond (!decide (z = 0)) (some (DV.tup [.int .u32 0, .agg [.str [b0, b1, b2], .int .i64 z]])) (some (.tup [.int .u32 0, .agg [.str [], .int .i64 10]])) := by kernel_rfl
theorem tree119_long (b0 b1 b2 b3 : UInt8) (r : List UInt8) (z : Int) : treeObj laws1 tab [119] 4 200 119 110 [.str (b0 :: b1 :: b2 :: b3 :: r), .int .i64 z] [.int .i64 4] =
    cond (!decide (z = 0)) (some (DV.tup [.int .u32 0, .agg [.str (b0 :: b1 :: b2 :: b3 :: r), .int .i64 z]])) (cond (decide (((b0 :: b1 :: b2 :: b3 :: r).length : Int) < 4)) (some (.tup [.int .u32 0, .agg [.str [], .int .i64 10]])) (some (.tup [.int .u32 (IntKind.wrap .u32 (gfold 0 [b0, b1, b2, b3])), .agg [.str r, .int .i64 z]]))) := by kernel_rfl
theorem law119 (s : List UInt8) (z : Int) : treeObj laws1 tab [119] 4 200 119 110 [.str s, .int .i64 z] [.int .i64 4] = some (.tup [(getD .u32 4 s z).val.1, .agg (getD .u32 4 s z).val.2]) := match s with
  | [] => (tree119_0  z).trans (get_short .u32 4 [] z (by simp))
  | [b0] => (tree119_1 b0 z).trans (get_short .u32 4 [b0] z (by simp))
  | [b0, b1] => (tree119_2 b0 b1 z).trans (get_short .u32 4 [b0, b1] z (by simp))
  | [b0, b1, b2] => (tree119_3 b0 b1 b2 z).trans (get_short .u32 4 [b0, b1, b2] z (by simp))
  | b0 :: b1 :: b2 :: b3 :: r => (tree119_long b0 b1 b2 b3 r z).trans (get_long .u32 4 (b0 :: b1 :: b2 :: b3 :: r) z _ (by simp) (by
      have e : (numOf ((b0 :: b1 :: b2 :: b3 :: r).take 4) : Int) = numOf [b0, b1, b2, b3] := rfl
      have h1 := num_le [b0, b1, b2, b3] 4 rfl
      rw [e, gfold_num [b0, b1, b2, b3] (by simp)]
      rw [wrap_u32 (by omega) (by simp at h1; omega)]))

noncomputable def g119 : Nat → List DV → List DV → Option OD := fun el l r => match el, l, r with
  | 110, [.str s, .int .i64 z], [.int .i64 4] => some (getD .u32 4 s z)
  | _, _, _ => none
theorem g119_ok : ∀ el l r d, g119 el l r = some d → d.ok = true → ObjCall Tryz.prog 119 el (toVs l) (toVs r) (toV d.val.1) (toVs d.val.2) ∧ ofVs (toVs l) = some l ∧ ofVs (toVs r) = some r := by
  intro el l r d h ho
  unfold g119 at h
  split at h
  · rename_i s z
    cases h
    obtain ⟨h1, h2, h3⟩ := wf_get .u32 4 s z
    exact ⟨obj_by _ tab_ok globals4 (by kernel_rfl) (law119 s z) h1 ⟨trivial, trivial, trivial⟩ h2 ⟨trivial, trivial⟩ h3, dec_rd s z, rfl⟩
  · cases h

theorem tree120_0 (z : Int) : treeObj laws1 tab [120] 4 200 120 110 [.str [], .int .i64 z] [.int .i64 8] = cond (!decide (z = 0)) (some (DV.tup [.int .u64 0, .agg [.str [], .int .i64 z]])) (some (.tup [.int .u64 0, .agg [.str [], .int .i64 10]])) := by kernel_rfl
theorem tree120_1 (b0 : UInt8) (z : Int) : treeObj laws1 tab [120] 4 200 120 110 [.str [b0], .int .i64 z] [.int .i64 8] = cond (!decide (z = 0)) (some (DV.tup [.int .u64 0, .agg [.str [b0], .int .i64 z]])) (some (.tup [.int .u64 0, .agg [.str [], .int .i64 10]])) := by kernel_rfl
theorem tree120_2 (b0 b1 : UInt8) (z : Int) : treeObj laws1 tab [120] 4 200 120 110 [.str [b0, b1], .int .i64 z] [.int .i64 8] = cond (!decide (z = 0)) (some (DV.tup [.int .u64 0, .agg [.str [b0, b1], .int .i64 z]])) (some (.tup [.int .u64 0, .agg [.str [], .int .i64 10]])) := by kernel_rfl
theorem tree120_3 (b0 b1 b2 : UInt8) (z : Int) : treeObj laws1 tab [120] 4 200 120 110 [.str [b0, b1, b2], .int .i64 z] [.int .i64 8] = cond (!decide (z = 0)) (some (DV.tup [.int .u64 0, .agg [.str [b0, b1, b2], .int .i64 z]])) (some (.tup [.int .u64 0, .agg [.str [], .int .i64 10]])) := by kernel_rfl
theorem tree120_4 (b0 b1 b2 b3 : UInt8) (z : Int) : treeObj laws1 tab [120] 4 200 120 110 [.str [b0, b1, b2, b3], .int .i64 z] [.int .i64 8] = cond (!decide (z = 0)) (some (DV.tup [.int .u64 0, .agg [.str [b0, b1, b2, b3], .int .i64 z]])) (some (.tup [.int .u64 0, .agg [.str [], .int .i64 10]])) := by kernel_rfl
theorem tree120_5 (b0 b1 b2 b3 b4 : UInt8) (z : Int) : treeObj laws1 tab [120] 4 200 120 110 [.str [b0, b1, b2, b3, b4], .int .i64 z] [.int .i64 8] = cond (!decide (z = 0)) (some (DV.tup [.int .u64 0, .agg [.str [b0, b1, b2, b3, b4], .int .i64 z]])) (some (.tup [.int .u64 0, .agg [.str [], .int .i64 10]])) := by kernel_rfl
theorem tree120_6 (b0 b1 b2 b3 b4 b5 : UInt8) (z : Int) : treeObj laws1 tab [120] 4 200 120 110 [.str [b0, b1, b2, b3, b4, b5], .int .i64 z] [.int .i64 8] = cond (!decide (z = 0)) (some (DV.tup [.int .u64 0, .agg [.str [b0, b1, b2, b3, b4, b5], .int .i64 z]])) (some (.tup [.int .u64 0, .agg [.str [], .int .i64 10]])) := by kernel_rfl
theorem tree120_7 (b0 b1 b2 b3 b4 b5 b6 : UInt8) (z : Int) : treeObj laws1 tab [120] 4 200 120 110 [.str [b0, b1, b2, b3, b4, b5, b6], .int .i64 z] [.int .i64 8] = cond (!decide (z = 0)) (some (DV.tup [.int .u64 0, .agg [.str [b0, b1, b2, b3, b4, b5, b6], .int .i64 z]])) (some (.tup [.int .u64 0, .agg [.str [], .int .i64 10]])) := by kernel_rfl
theorem tree120_long (b0 b1 b2 b3 b4 b5 b6 b7 : UInt8) (r : List UInt8) (z : Int) : treeObj laws1 tab [120] 4 200 120 110 [.str (b0 :: b1 :: b2 :: b3 :: b4 :: b5 :: b6 :: b7 :: r), .int .i64 z] [.int .i64 8] =
    cond (!decide (z = 0)) (some (DV.tup [.int .u64 0, .agg [.str (b0 :: b1 :: b2 :: b3 :: b4 :: b5 :: b6 :: b7 :: r), .int .i64 z]])) (cond (decide (((b0 :: b1 :: b2 :: b3 :: b4 :: b5 :: b6 :: b7 :: r).length : Int) < 8)) (some (.tup [.int .u64 0, .agg [.str [], .int .i64 10]])) (some (.tup [.int .u64 (gfold 0 [b0, b1, b2, b3, b4, b5, b6, b7]), .agg [.str r, .int .i64 z]]))) := by kernel_rfl
theorem law120 (s : List UInt8) (z : Int) : treeObj laws1 tab [120] 4 200 120 110 [.str s, .int .i64 z] [.int .i64 8] = some (.tup [(getD .u64 8 s z).val.1, .agg (getD .u64 8 s z).val.2]) := match s with
  | [] => (tree120_0  z).trans (get_short .u64 8 [] z (by simp))
  | [b0] => (tree120_1 b0 z).trans (get_short .u64 8 [b0] z (by simp))
  | [b0, b1] => (tree120_2 b0 b1 z).trans (get_short .u64 8 [b0, b1] z (by simp))
  | [b0, b1, b2] => (tree120_3 b0 b1 b2 z).trans (get_short .u64 8 [b0, b1, b2] z (by simp))
  | [b0, b1, b2, b3] => (tree120_4 b0 b1 b2 b3 z).trans (get_short .u64 8 [b0, b1, b2, b3] z (by simp))
  | [b0, b1, b2, b3, b4] => (tree120_5 b0 b1 b2 b3 b4 z).trans (get_short .u64 8 [b0, b1, b2, b3, b4] z (by simp))
  | [b0, b1, b2, b3, b4, b5] => (tree120_6 b0 b1 b2 b3 b4 b5 z).trans (get_short .u64 8 [b0, b1, b2, b3, b4, b5] z (by simp))
  | [b0, b1, b2, b3, b4, b5, b6] => (tree120_7 b0 b1 b2 b3 b4 b5 b6 z).trans (get_short .u64 8 [b0, b1, b2, b3, b4, b5, b6] z (by simp))
  | b0 :: b1 :: b2 :: b3 :: b4 :: b5 :: b6 :: b7 :: r => (tree120_long b0 b1 b2 b3 b4 b5 b6 b7 r z).trans (get_long .u64 8 (b0 :: b1 :: b2 :: b3 :: b4 :: b5 :: b6 :: b7 :: r) z _ (by simp) (by
      have e : (numOf ((b0 :: b1 :: b2 :: b3 :: b4 :: b5 :: b6 :: b7 :: r).take 8) : Int) = numOf [b0, b1, b2, b3, b4, b5, b6, b7] := rfl
      have h1 := num_le [b0, b1, b2, b3, b4, b5, b6, b7] 8 rfl
      rw [e, gfold_num [b0, b1, b2, b3, b4, b5, b6, b7] (by simp)]))

noncomputable def g120 : Nat → List DV → List DV → Option OD := fun el l r => match el, l, r with
  | 110, [.str s, .int .i64 z], [.int .i64 8] => some (getD .u64 8 s z)
  | _, _, _ => none
theorem g120_ok : ∀ el l r d, g120 el l r = some d → d.ok = true → ObjCall Tryz.prog 120 el (toVs l) (toVs r) (toV d.val.1) (toVs d.val.2) ∧ ofVs (toVs l) = some l ∧ ofVs (toVs r) = some r := by
  intro el l r d h ho
  unfold g120 at h
  split at h
  · rename_i s z
    cases h
    obtain ⟨h1, h2, h3⟩ := wf_get .u64 8 s z
    exact ⟨obj_by _ tab_ok globals4 (by kernel_rfl) (law120 s z) h1 ⟨trivial, trivial, trivial⟩ h2 ⟨trivial, trivial⟩ h3, dec_rd s z, rfl⟩
  · cases h

noncomputable def laws2 : Laws Tryz.prog := (((laws1.addO 67 g67 g67_ok).addO 99 g99 g99_ok).addO 119 g119 g119_ok).addO 120 g120 g120_ok
end
end Go.Vm.YtdmlbojhfgimnaaGreatDoor
