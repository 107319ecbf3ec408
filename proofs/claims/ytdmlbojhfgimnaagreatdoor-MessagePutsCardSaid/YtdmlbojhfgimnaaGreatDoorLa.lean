/-
  The reader of package codec, NaN, numbers: what they make of their arguments.
-/
import Derived.Test.YtdmlbojhfgimnaaGreatDoorTab
import Derived.Test.YtdmlbojhfgimnaaGreatDoorV5
import Derived.KernelRfl
set_option linter.unusedVariables false
set_option linter.unusedSimpArgs false
set_option linter.unusedVariables false
set_option linter.unusedSimpArgs false
namespace Go.Vm.YtdmlbojhfgimnaaGreatDoor
open Go.Proofs
noncomputable section

theorem globals4 : Tryz.prog.globals.size = 4 := by kernel_rfl
noncomputable abbrev tab := tabOf all

/-! ### bytes of a number -/
noncomputable def gstep (a b : Int) : Int := IntKind.wrap .u64 ((BitVec.ofInt 64 (IntKind.wrap .u64 (a * 256)) ||| BitVec.ofInt 64 (IntKind.wrap .u64 b)).toNat)
theorem gstep_eq {a b : Int} (h0 : 0 ≤ a) (h1 : a < 72057594037927936) (h2 : 0 ≤ b) (h3 : b < 256) : gstep a b = a * 256 + b := by
  unfold gstep
  rw [wrap_u64 (z := a * 256) (by omega) (by omega), wrap_u64 (z := b) h2 (by omega)]
  obtain ⟨m, rfl⟩ : ∃ m : Nat, a = m := ⟨a.toNat, by omega⟩
  obtain ⟨n, rfl⟩ : ∃ n : Nat, b = n := ⟨b.toNat, by omega⟩
  have e1 : BitVec.ofInt 64 ((m : Int) * 256) = BitVec.ofNat 64 (m * 256) := by
    rw [show (m : Int) * 256 = ((m * 256 : Nat) : Int) by simp, BitVec.ofInt_natCast]
  have e2 : BitVec.ofInt 64 (n : Int) = BitVec.ofNat 64 n := BitVec.ofInt_natCast ..
  rw [e1, e2, BitVec.toNat_or, BitVec.toNat_ofNat, BitVec.toNat_ofNat, Nat.mod_eq_of_lt (by omega), Nat.mod_eq_of_lt (by omega)]
  have e3 : m * 256 ||| n = m * 256 + n := by
    have := Nat.two_pow_add_eq_or_of_lt (i := 8) (b := n) (by omega) m
    simp only [show (2:Nat) ^ 8 = 256 from rfl] at this
    rw [Nat.mul_comm m 256, this]
  rw [e3, wrap_u64 (by omega) (by omega)]
  simp
noncomputable def gfold : Int → List UInt8 → Int
  | a, [] => a
  | a, b :: r => gfold (gstep a b.toNat) r
theorem gfold_eq : ∀ (l : List UInt8) (a : Nat), l.length ≤ 8 → a < 256 ^ (8 - l.length) → gfold a l = ((l.foldl (fun a b => a * 256 + b.toNat) a : Nat) : Int)
  | [], a, _, _ => rfl
  | b :: r, a, h, ha => by
    have hb := b.toNat_lt
    have hl : (b :: r).length = r.length + 1 := rfl
    rw [hl] at h ha
    have hp : 256 ^ (8 - (r.length + 1)) ≤ 256 ^ 7 := Nat.pow_le_pow_right (by omega) (by omega)
    have e7 : (256:Nat) ^ 7 = 72057594037927936 := rfl
    show gfold (gstep a b.toNat) r = _
    rw [gstep_eq (by omega) (by omega) (by omega) (by omega)]
    have e : (a : Int) * 256 + (b.toNat : Int) = ((a * 256 + b.toNat : Nat) : Int) := by simp
    rw [e, gfold_eq r (a * 256 + b.toNat) (by omega) ?_]
    · rfl
    · have e1 : 8 - r.length = (8 - (r.length + 1)) + 1 := by omega
      rw [e1, Nat.pow_succ]
      omega
theorem gfold_num (l : List UInt8) (h : l.length ≤ 8) : gfold 0 l = (numOf l : Int) :=
  gfold_eq l 0 h (Nat.pos_of_ne_zero (by simp))

/-! ### Fixed -/
/-- what Fixed makes of a reader -/
noncomputable def fixedD (s : List UInt8) (z w : Int) : OD :=
  .br (!decide (z = 0)) (.v (.str []) [.str s, .int .i64 z]) (.br (decide (w ≤ 0)) (.v (.str []) [.str s, .int .i64 z])
    (.br (decide ((s.length : Int) < w)) (.v (.str []) [.str [], .int .i64 10]) (.v (.str (s.take w.toNat)) [.str (s.drop w.toNat), .int .i64 z])))
theorem tree68 (s : List UInt8) (z w : Int) : treeObj (Laws.none Tryz.prog) tab [68] 4 200 68 110 [.str s, .int .i64 z] [.int .i64 w] =
    cond (!decide (z = 0)) (some (.tup [.str [], .agg [.str s, .int .i64 z]])) (cond (decide (w ≤ 0)) (some (.tup [.str [], .agg [.str s, .int .i64 z]]))
      (cond (decide ((s.length : Int) < w)) (some (.tup [.str [], .agg [.str [], .int .i64 10]]))
        (cond (decide (0 ≤ w) && decide (w ≤ (s.length : Int))) (cond (decide (0 ≤ w) && decide (w ≤ (s.length : Int))) (some (.tup [.str (s.take w.toNat), .agg [.str (s.drop w.toNat), .int .i64 z]])) none) none))) := by kernel_rfl
theorem law68 (s : List UInt8) (z w : Int) : treeObj (Laws.none Tryz.prog) tab [68] 4 200 68 110 [.str s, .int .i64 z] [.int .i64 w] = some (.tup [(fixedD s z w).val.1, .agg (fixedD s z w).val.2]) := by
  rw [tree68]
  unfold fixedD
  simp only [OD.val]
  cases h1 : !decide (z = 0) with
  | true => rfl
  | false =>
    cases h2 : decide (w ≤ 0) with
    | true => rfl
    | false =>
      cases h3 : decide ((s.length : Int) < w) with
      | true => rfl
      | false =>
        simp only [decide_eq_false_iff_not] at h2 h3
        rw [show (decide (0 ≤ w) && decide (w ≤ (s.length : Int))) = true by simp; omega]
        rfl

theorem wf_fixed (s : List UInt8) (z w : Int) : (fixedD s z w).val.2.length = 2 ∧ wfs 0 (toVs (fixedD s z w).val.2) ∧ wf 0 (toV (fixedD s z w).val.1) := by
  unfold fixedD
  simp only [OD.val]
  split
  · exact ⟨rfl, ⟨trivial, trivial, trivial⟩, trivial⟩
  · split
    · exact ⟨rfl, ⟨trivial, trivial, trivial⟩, trivial⟩
    · split
      · exact ⟨rfl, ⟨trivial, trivial, trivial⟩, trivial⟩
      · exact ⟨rfl, ⟨trivial, trivial, trivial⟩, trivial⟩

theorem dec_rd (s : List UInt8) (z : Int) : ofVs (toVs [.str s, .int .i64 z]) = some [.str s, .int .i64 z] := by
  show (match ofV (sv s), ofVs [.int .i64 z] with | some x, some l => some (x :: l) | _, _ => .none) = _
  rw [ofV_sv]; rfl

noncomputable def g68 : Nat → List DV → List DV → Option OD := fun el l r => match el, l, r with
  | 110, [.str s, .int .i64 z], [.int .i64 w] => some (fixedD s z w)
  | _, _, _ => none
theorem g68_ok : ∀ el l r d, g68 el l r = some d → d.ok = true → ObjCall Tryz.prog 68 el (toVs l) (toVs r) (toV d.val.1) (toVs d.val.2) ∧ ofVs (toVs l) = some l ∧ ofVs (toVs r) = some r := by
  intro el l r d h ho
  unfold g68 at h
  split at h
  · rename_i s z w
    cases h
    obtain ⟨h1, h2, h3⟩ := wf_fixed s z w
    exact ⟨obj_by _ tab_ok globals4 (by kernel_rfl) (law68 s z w) h1 ⟨trivial, trivial, trivial⟩ h2 ⟨trivial, trivial⟩ h3, dec_rd s z, rfl⟩
  · cases h
noncomputable def laws1 : Laws Tryz.prog := (Laws.none _).addO 68 g68 g68_ok
end
end Go.Vm.YtdmlbojhfgimnaaGreatDoor

set_option linter.unusedVariables false
set_option linter.unusedSimpArgs false
namespace Go.Vm.YtdmlbojhfgimnaaGreatDoor
open Go.Proofs
noncomputable section

/-- what reading a number of w bytes makes of a reader -/
noncomputable def getD (kd : IntKind) (w : Nat) (s : List UInt8) (z : Int) : OD :=
  .br (!decide (z = 0)) (.v (.int kd 0) [.str s, .int .i64 z]) (.br (decide ((s.length : Int) < (w : Int))) (.v (.int kd 0) [.str [], .int .i64 10])
    (.v (.int kd (numOf (s.take w) : Int)) [.str (s.drop w), .int .i64 z]))
theorem wf_get (kd : IntKind) (w : Nat) (s : List UInt8) (z : Int) : (getD kd w s z).val.2.length = 2 ∧ wfs 0 (toVs (getD kd w s z).val.2) ∧ wf 0 (toV (getD kd w s z).val.1) := by
  unfold getD
  simp only [OD.val]
  split
  · exact ⟨rfl, ⟨trivial, trivial, trivial⟩, trivial⟩
  · split
    · exact ⟨rfl, ⟨trivial, trivial, trivial⟩, trivial⟩
    · exact ⟨rfl, ⟨trivial, trivial, trivial⟩, trivial⟩
theorem get_short (kd : IntKind) (w : Nat) (s : List UInt8) (z : Int) (h : s.length < w) : cond (!decide (z = 0)) (some (DV.tup [.int kd 0, .agg [.str s, .int .i64 z]])) (some (.tup [.int kd 0, .agg [.str [], .int .i64 10]])) =
    some (.tup [(getD kd w s z).val.1, .agg (getD kd w s z).val.2]) := by
  unfold getD
  simp only [OD.val]
  rw [show decide ((s.length : Int) < (w : Int)) = true by simpa using h]
  cases !decide (z = 0) <;> rfl
theorem get_long (kd : IntKind) (w : Nat) (s : List UInt8) (z x : Int) (h : w ≤ s.length) (hx : x = (numOf (s.take w) : Int)) :
    cond (!decide (z = 0)) (some (DV.tup [.int kd 0, .agg [.str s, .int .i64 z]])) (cond (decide ((s.length : Int) < (w : Int))) (some (.tup [.int kd 0, .agg [.str [], .int .i64 10]])) (some (.tup [.int kd x, .agg [.str (s.drop w), .int .i64 z]]))) =
    some (.tup [(getD kd w s z).val.1, .agg (getD kd w s z).val.2]) := by
  unfold getD
  simp only [OD.val]
  rw [show decide ((s.length : Int) < (w : Int)) = false by simpa using h, hx]
  cases !decide (z = 0) <;> rfl
theorem num_le (l : List UInt8) (w : Nat) (h : l.length = w) : (numOf l : Int) < ((256 ^ w : Nat) : Int) := by
  have := numOf_lt l
  rw [h] at this
  exact_mod_cast this

theorem tree67_0 (z : Int) : treeObj laws1 tab [67] 4 200 67 110 [.str [], .int .i64 z] [.int .i64 1] = cond (!decide (z = 0)) (some (DV.tup [.int .u8 0, .agg [.str [], .int .i64 z]])) (some (.tup [.int .u8 0, .agg [.str [], .int .i64 10]])) := by kernel_rfl
theorem tree67_long (b0 : UInt8) (r : List UInt8) (z : Int) : treeObj laws1 tab [67] 4 200 67 110 [.str (b0 :: r), .int .i64 z] [.int .i64 1] =
    cond (!decide (z = 0)) (some (DV.tup [.int .u8 0, .agg [.str (b0 :: r), .int .i64 z]])) (cond (decide (((b0 :: r).length : Int) < 1)) (some (.tup [.int .u8 0, .agg [.str [], .int .i64 10]])) (some (.tup [.int .u8 (IntKind.wrap .u8 (gfold 0 [b0])), .agg [.str r, .int .i64 z]]))) := by kernel_rfl
theorem law67 (s : List UInt8) (z : Int) : treeObj laws1 tab [67] 4 200 67 110 [.str s, .int .i64 z] [.int .i64 1] = some (.tup [(getD .u8 1 s z).val.1, .agg (getD .u8 1 s z).val.2]) := match s with
  | [] => (tree67_0  z).trans (get_short .u8 1 [] z (by simp))
  | b0 :: r => (tree67_long b0 r z).trans (get_long .u8 1 (b0 :: r) z _ (by simp) (by
      have e : (numOf ((b0 :: r).take 1) : Int) = numOf [b0] := rfl
      have h1 := num_le [b0] 1 rfl
      rw [e, gfold_num [b0] (by simp)]
      rw [wrap_u8 (by omega) (by simp at h1; omega)]))

noncomputable def g67 : Nat → List DV → List DV → Option OD := fun el l r => match el, l, r with
  | 110, [.str s, .int .i64 z], [.int .i64 1] => some (getD .u8 1 s z)
  | _, _, _ => none
theorem g67_ok : ∀ el l r d, g67 el l r = some d → d.ok = true → ObjCall Tryz.prog 67 el (toVs l) (toVs r) (toV d.val.1) (toVs d.val.2) ∧ ofVs (toVs l) = some l ∧ ofVs (toVs r) = some r := by
  intro el l r d h ho
  unfold g67 at h
  split at h
  · rename_i s z
    cases h
    obtain ⟨h1, h2, h3⟩ := wf_get .u8 1 s z
    exact ⟨obj_by _ tab_ok globals4 (by kernel_rfl) (law67 s z) h1 ⟨trivial, trivial, trivial⟩ h2 ⟨trivial, trivial⟩ h3, dec_rd s z, rfl⟩
  · cases h

theorem tree99_0 (z : Int) : treeObj laws1 tab [99] 4 200 99 110 [.str [], .int .i64 z] [.int .i64 2] = cond (!decide (z = 0)) (some (DV.tup [.int .u16 0, .agg [.str [], .int .i64 z]])) (some (.tup [.int .u16 0, .agg [.str [], .int .i64 10]])) := by kernel_rfl
theorem tree99_1 (b0 : UInt8) (z : Int) : treeObj laws1 tab [99] 4 200 99 110 [.str [b0], .int .i64 z] [.int .i64 2] = cond (!decide (z = 0)) (some (DV.tup [.int .u16 0, .agg [.str [b0], .int .i64 z]])) (some (.tup [.int .u16 0, .agg [.str [], .int .i64 10]])) := by kernel_rfl
theorem tree99_long (b0 b1 : UInt8) (r : List UInt8) (z : Int) : treeObj laws1 tab [99] 4 200 99 110 [.str (b0 :: b1 :: r), .int .i64 z] [.int .i64 2] =
    cond (!decide (z = 0)) (some (DV.tup [.int .u16 0, .agg [.str (b0 :: b1 :: r), .int .i64 z]])) (cond (decide (((b0 :: b1 :: r).length : Int) < 2)) (some (.tup [.int .u16 0, .agg [.str [], .int .i64 10]])) (some (.tup [.int .u16 (IntKind.wrap .u16 (gfold 0 [b0, b1])), .agg [.str r, .int .i64 z]]))) := by kernel_rfl
theorem law99 (s : List UInt8) (z : Int) : treeObj laws1 tab [99] 4 200 99 110 [.str s, .int .i64 z] [.int .i64 2] = some (.tup [(getD .u16 2 s z).val.1, .agg (getD .u16 2 s z).val.2]) := match s with
  | [] => (tree99_0  z).trans (get_short .u16 2 [] z (by simp))
  | [b0] => (tree99_1 b0 z).trans (get_short .u16 2 [b0] z (by simp))
  | b0 :: b1 :: r => (tree99_long b0 b1 r z).trans (get_long .u16 2 (b0 :: b1 :: r) z _ (by simp) (by
      have e : (numOf ((b0 :: b1 :: r).take 2) : Int) = numOf [b0, b1] := rfl
      have h1 := num_le [b0, b1] 2 rfl
      rw [e, gfold_num [b0, b1] (by simp)]
      rw [wrap_u16 (by omega) (by simp at h1; omega)]))

noncomputable def g99 : Nat → List DV → List DV → Option OD := fun el l r => match el, l, r with
  | 110, [.str s, .int .i64 z], [.int .i64 2] => some (getD .u16 2 s z)
  | _, _, _ => none
theorem g99_ok : ∀ el l r d, g99 el l r = some d → d.ok = true → ObjCall Tryz.prog 99 el (toVs l) (toVs r) (toV d.val.1) (toVs d.val.2) ∧ ofVs (toVs l) = some l ∧ ofVs (toVs r) = some r := by
  intro el l r d h ho
  unfold g99 at h
  split at h
  · rename_i s z
    cases h
    obtain ⟨h1, h2, h3⟩ := wf_get .u16 2 s z
    exact ⟨obj_by _ tab_ok globals4 (by kernel_rfl) (law99 s z) h1 ⟨trivial, trivial, trivial⟩ h2 ⟨trivial, trivial⟩ h3, dec_rd s z, rfl⟩
  · cases h

theorem tree119_0 (z : Int) : treeObj laws1 tab [119] 4 200 119 110 [.str [], .int .i64 z] [.int .i64 4] = cond (!decide (z = 0)) (some (DV.tup [.int .u32 0, .agg [.str [], .int .i64 z]])) (some (.tup [.int .u32 0, .agg [.str [], .int .i64 10]])) := by kernel_rfl
theorem tree119_1 (b0 : UInt8) (z : Int) : treeObj laws1 tab [119] 4 200 119 110 [.str [b0], .int .i64 z] [.int .i64 4] = cond (!decide (z = 0)) (some (DV.tup [.int .u32 0, .agg [.str [b0], .int .i64 z]])) (some (.tup [.int .u32 0, .agg [.str [], .int .i64 10]])) := by kernel_rfl
theorem tree119_2 (b0 b1 : UInt8) (z : Int) : treeObj laws1 tab [119] 4 200 119 110 [.str [b0, b1], .int .i64 z] [.int .i64 4] = cond (!decide (z = 0)) (some (DV.tup [.int .u32 0, .agg [.str [b0, b1], .int .i64 z]])) (some (.tup [.int .u32 0, .agg [.str [], .int .i64 10]])) := by kernel_rfl
theorem tree119_3 (b0 b1 b2 : UInt8) (z : Int) : treeObj laws1 tab [119] 4 200 119 110 [.str [b0, b1, b2], .int .i64 z] [.int .i64 4] = cond (!decide (z = 0)) (some (DV.tup [.int .u32 0, .agg [.str [b0, b1, b2], .int .i64 z]])) (some (.tup [.int .u32 0, .agg [.str [], .int .i64 10]])) := by kernel_rfl
theorem tree119_long (b0 b1 b2 b3 : UInt8) (r : List UInt8) (z : Int) : treeObj laws1 tab [119] 4 200 119 110 [.str (b0 :: b1 :: b2 :: b3 :: r), .int .i64 z] [.int .i64 4] =
    cond (!decide (z = 0)) (some (DV.tup [.int .u32 0, .agg [.str (b0 :: b1 :: b2 :: b3 :: r), .int .i64 z]])) (cond (decide (((b0 :: b1 :: b2 :: b3 :: r).length : Int) < 4)) (some (.tup [.int .u32 0, .agg [.str [], .int .i64 10]])) (some (.tup [.int .u32 (IntKind.wrap .u32 (gfold 0 [b0, b1, b2, b3])), .agg [.str r, .int .i64 z]]))) := by kernel_rfl
theorem law119 (s : List UInt8) (z : Int) : treeObj laws1 tab [119] 4 200 119 110 [.str s, .int .i64 z] [.int .i64 4] = some (.tup [(getD .u32 4 s z).val.1, .agg (getD .u32 4 s z).val.2]) := match s with
  | [] => (tree119_0  z).trans (get_short .u32 4 [] z (by simp))
  | [b0] => (tree119_1 b0 z).trans (get_short .u32 4 [b0] z (by simp))
  | [b0, b1] => (tree119_2 b0 b1 z).trans (get_short .u32 4 [b0, b1] z (by simp))
  | [b0, b1, b2] => (tree119_3 b0 b1 b2 z).trans (get_short .u32 4 [b0, b1, b2] z (by simp))
  | b0 :: b1 :: b2 :: b3 :: r => (tree119_long b0 b1 b2 b3 r z).trans (get_long .u32 4 (b0 :: b1 :: b2 :: b3 :: r) z _ (by simp) (by
      have e : (numOf ((b0 :: b1 :: b2 :: b3 :: r).take 4) : Int) = numOf [b0, b1, b2, b3] := rfl
      have h1 := num_le [b0, b1, b2, b3] 4 rfl
      rw [e, gfold_num [b0, b1, b2, b3] (by simp)]
      rw [wrap_u32 (by omega) (by simp at h1; omega)]))

noncomputable def g119 : Nat → List DV → List DV → Option OD := fun el l r => match el, l, r with
  | 110, [.str s, .int .i64 z], [.int .i64 4] => some (getD .u32 4 s z)
  | _, _, _ => none
theorem g119_ok : ∀ el l r d, g119 el l r = some d → d.ok = true → ObjCall Tryz.prog 119 el (toVs l) (toVs r) (toV d.val.1) (toVs d.val.2) ∧ ofVs (toVs l) = some l ∧ ofVs (toVs r) = some r := by
  intro el l r d h ho
  unfold g119 at h
  split at h
  · rename_i s z
    cases h
    obtain ⟨h1, h2, h3⟩ := wf_get .u32 4 s z
    exact ⟨obj_by _ tab_ok globals4 (by kernel_rfl) (law119 s z) h1 ⟨trivial, trivial, trivial⟩ h2 ⟨trivial, trivial⟩ h3, dec_rd s z, rfl⟩
  · cases h

theorem tree120_0 (z : Int) : treeObj laws1 tab [120] 4 200 120 110 [.str [], .int .i64 z] [.int .i64 8] = cond (!decide (z = 0)) (some (DV.tup [.int .u64 0, .agg [.str [], .int .i64 z]])) (some (.tup [.int .u64 0, .agg [.str [], .int .i64 10]])) := by kernel_rfl
theorem tree120_1 (b0 : UInt8) (z : Int) : treeObj laws1 tab [120] 4 200 120 110 [.str [b0], .int .i64 z] [.int .i64 8] = cond (!decide (z = 0)) (some (DV.tup [.int .u64 0, .agg [.str [b0], .int .i64 z]])) (some (.tup [.int .u64 0, .agg [.str [], .int .i64 10]])) := by kernel_rfl
theorem tree120_2 (b0 b1 : UInt8) (z : Int) : treeObj laws1 tab [120] 4 200 120 110 [.str [b0, b1], .int .i64 z] [.int .i64 8] = cond (!decide (z = 0)) (some (DV.tup [.int .u64 0, .agg [.str [b0, b1], .int .i64 z]])) (some (.tup [.int .u64 0, .agg [.str [], .int .i64 10]])) := by kernel_rfl
theorem tree120_3 (b0 b1 b2 : UInt8) (z : Int) : treeObj laws1 tab [120] 4 200 120 110 [.str [b0, b1, b2], .int .i64 z] [.int .i64 8] = cond (!decide (z = 0)) (some (DV.tup [.int .u64 0, .agg [.str [b0, b1, b2], .int .i64 z]])) (some (.tup [.int .u64 0, .agg [.str [], .int .i64 10]])) := by kernel_rfl
theorem tree120_4 (b0 b1 b2 b3 : UInt8) (z : Int) : treeObj laws1 tab [120] 4 200 120 110 [.str [b0, b1, b2, b3], .int .i64 z] [.int .i64 8] = cond (!decide (z = 0)) (some (DV.tup [.int .u64 0, .agg [.str [b0, b1, b2, b3], .int .i64 z]])) (some (.tup [.int .u64 0, .agg [.str [], .int .i64 10]])) := by kernel_rfl
theorem tree120_5 (b0 b1 b2 b3 b4 : UInt8) (z : Int) : treeObj laws1 tab [120] 4 200 120 110 [.str [b0, b1, b2, b3, b4], .int .i64 z] [.int .i64 8] = cond (!decide (z = 0)) (some (DV.tup [.int .u64 0, .agg [.str [b0, b1, b2, b3, b4], .int .i64 z]])) (some (.tup [.int .u64 0, .agg [.str [], .int .i64 10]])) := by kernel_rfl
theorem tree120_6 (b0 b1 b2 b3 b4 b5 : UInt8) (z : Int) : treeObj laws1 tab [120] 4 200 120 110 [.str [b0, b1, b2, b3, b4, b5], .int .i64 z] [.int .i64 8] = cond (!decide (z = 0)) (some (DV.tup [.int .u64 0, .agg [.str [b0, b1, b2, b3, b4, b5], .int .i64 z]])) (some (.tup [.int .u64 0, .agg [.str [], .int .i64 10]])) := by kernel_rfl
theorem tree120_7 (b0 b1 b2 b3 b4 b5 b6 : UInt8) (z : Int) : treeObj laws1 tab [120] 4 200 120 110 [.str [b0, b1, b2, b3, b4, b5, b6], .int .i64 z] [.int .i64 8] = cond (!decide (z = 0)) (some (DV.tup [.int .u64 0, .agg [.str [b0, b1, b2, b3, b4, b5, b6], .int .i64 z]])) (some (.tup [.int .u64 0, .agg [.str [], .int .i64 10]])) := by kernel_rfl
theorem tree120_long (b0 b1 b2 b3 b4 b5 b6 b7 : UInt8) (r : List UInt8) (z : Int) : treeObj laws1 tab [120] 4 200 120 110 [.str (b0 :: b1 :: b2 :: b3 :: b4 :: b5 :: b6 :: b7 :: r), .int .i64 z] [.int .i64 8] =
    cond (!decide (z = 0)) (some (DV.tup [.int .u64 0, .agg [.str (b0 :: b1 :: b2 :: b3 :: b4 :: b5 :: b6 :: b7 :: r), .int .i64 z]])) (cond (decide (((b0 :: b1 :: b2 :: b3 :: b4 :: b5 :: b6 :: b7 :: r).length : Int) < 8)) (some (.tup [.int .u64 0, .agg [.str [], .int .i64 10]])) (some (.tup [.int .u64 (gfold 0 [b0, b1, b2, b3, b4, b5, b6, b7]), .agg [.str r, .int .i64 z]]))) := by kernel_rfl
theorem law120 (s : List UInt8) (z : Int) : treeObj laws1 tab [120] 4 200 120 110 [.str s, .int .i64 z] [.int .i64 8] = some (.tup [(getD .u64 8 s z).val.1, .agg (getD .u64 8 s z).val.2]) := match s with
  | [] => (tree120_0  z).trans (get_short .u64 8 [] z (by simp))
  | [b0] => (tree120_1 b0 z).trans (get_short .u64 8 [b0] z (by simp))
  | [b0, b1] => (tree120_2 b0 b1 z).trans (get_short .u64 8 [b0, b1] z (by simp))
  | [b0, b1, b2] => (tree120_3 b0 b1 b2 z).trans (get_short .u64 8 [b0, b1, b2] z (by simp))
  | [b0, b1, b2, b3] => (tree120_4 b0 b1 b2 b3 z).trans (get_short .u64 8 [b0, b1, b2, b3] z (by simp))
  | [b0, b1, b2, b3, b4] => (tree120_5 b0 b1 b2 b3 b4 z).trans (get_short .u64 8 [b0, b1, b2, b3, b4] z (by simp))
  | [b0, b1, b2, b3, b4, b5] => (tree120_6 b0 b1 b2 b3 b4 b5 z).trans (get_short .u64 8 [b0, b1, b2, b3, b4, b5] z (by simp))
  | [b0, b1, b2, b3, b4, b5, b6] => (tree120_7 b0 b1 b2 b3 b4 b5 b6 z).trans (get_short .u64 8 [b0, b1, b2, b3, b4, b5, b6] z (by simp))
  | b0 :: b1 :: b2 :: b3 :: b4 :: b5 :: b6 :: b7 :: r => (tree120_long b0 b1 b2 b3 b4 b5 b6 b7 r z).trans (get_long .u64 8 (b0 :: b1 :: b2 :: b3 :: b4 :: b5 :: b6 :: b7 :: r) z _ (by simp) (by
      have e : (numOf ((b0 :: b1 :: b2 :: b3 :: b4 :: b5 :: b6 :: b7 :: r).take 8) : Int) = numOf [b0, b1, b2, b3, b4, b5, b6, b7] := rfl
      have h1 := num_le [b0, b1, b2, b3, b4, b5, b6, b7] 8 rfl
      rw [e, gfold_num [b0, b1, b2, b3, b4, b5, b6, b7] (by simp)]))

noncomputable def g120 : Nat → List DV → List DV → Option OD := fun el l r => match el, l, r with
  | 110, [.str s, .int .i64 z], [.int .i64 8] => some (getD .u64 8 s z)
  | _, _, _ => none
theorem g120_ok : ∀ el l r d, g120 el l r = some d → d.ok = true → ObjCall Tryz.prog 120 el (toVs l) (toVs r) (toV d.val.1) (toVs d.val.2) ∧ ofVs (toVs l) = some l ∧ ofVs (toVs r) = some r := by
  intro el l r d h ho
  unfold g120 at h
  split at h
  · rename_i s z
    cases h
    obtain ⟨h1, h2, h3⟩ := wf_get .u64 8 s z
    exact ⟨obj_by _ tab_ok globals4 (by kernel_rfl) (law120 s z) h1 ⟨trivial, trivial, trivial⟩ h2 ⟨trivial, trivial⟩ h3, dec_rd s z, rfl⟩
  · cases h

noncomputable def laws2 : Laws Tryz.prog := (((laws1.addO 67 g67 g67_ok).addO 99 g99 g99_ok).addO 119 g119 g119_ok).addO 120 g120 g120_ok
end
end Go.Vm.YtdmlbojhfgimnaaGreatDoor

set_option linter.unusedVariables false
set_option linter.unusedSimpArgs false
namespace Go.Vm.YtdmlbojhfgimnaaGreatDoor
open Go.Proofs
noncomputable section

/-- is it NaN? -/
noncomputable def nanN (m : Nat) : Bool := decide (9218868437227405312 < m % 9223372036854775808)

theorem order_nan (m : Nat) : (FloatKind.f64.format.order m m != some .eq) = nanN m := by
  have key : ∀ d : Ieee.Datum, (d.order d != some .eq) = d.isNaN := by
    intro d
    cases d with
    | nan s f => rfl
    | infinity s => cases s <;> rfl
    | number s a i =>
      simp only [Ieee.Datum.order, Ieee.Datum.isNaN]
      have : ∀ z : Int, compare z z = .eq := fun z => by simp [compare, compareOfLessAndEq]
      rw [this]; rfl
  show ((FloatKind.f64.format.read m).order (FloatKind.f64.format.read m) != some .eq) = _
  rw [key]
  unfold Ieee.Format.read nanN
  have e1 : FloatKind.f64.format.signWeight = 9223372036854775808 := rfl
  have e2 : FloatKind.f64.format.infRung = 9218868437227405312 := rfl
  have e3 : FloatKind.f64.format.binade = 4503599627370496 := rfl
  simp only [e1, e2, e3]
  split
  · rename_i h; simp only [Ieee.Datum.isNaN]; symm; simpa using by omega
  · split
    · rename_i h; simp only [Ieee.Datum.isNaN]; symm; simpa using by omega
    · split
      · rename_i h; simp only [Ieee.Datum.isNaN]; symm; simpa using by omega
      · rename_i h; simp only [Ieee.Datum.isNaN]; symm; simpa using by omega

noncomputable def quietD (n : Nat) : PD := .br (nanN n) (.v (.int .u64 9221120237041090561)) (.v (.int .u64 (n : Int)))

theorem tree121 (n : Nat) : treeOf laws2 tab [121] 4 200 121 [.int .u64 (.ofNat n)] = cond (FloatKind.f64.format.order n n != some .eq) (some (.int .u64 9221120237041090561)) (some (.int .u64 (.ofNat n))) := by kernel_rfl
theorem law121 (n : Nat) : treeOf laws2 tab [121] 4 200 121 [.int .u64 (.ofNat n)] = some (quietD n).val := by
  rw [tree121, order_nan]
  unfold quietD
  simp only [PD.val]
  cases nanN n <;> rfl
theorem wf_quiet (n : Nat) : wf 0 (toV (quietD n).val) := by
  unfold quietD
  simp only [PD.val]
  split <;> trivial
noncomputable def g121 : List DV → Option PD := fun l => match l with
  | [.int .u64 (.ofNat n)] => some (quietD n)
  | _ => none
theorem g121_ok : ∀ l d, g121 l = some d → d.ok = true → PlainCall Tryz.prog [] 121 (toVs l) (toV d.val) ∧ ofVs (toVs l) = some l := by
  intro l d h ho
  unfold g121 at h
  split at h
  · rename_i n
    cases h
    exact ⟨plain_by _ tab_ok globals4 (by kernel_rfl) (law121 n) ⟨trivial, trivial⟩ (wf_quiet n), rfl⟩
  · cases h

theorem tree111 (n : Nat) : treeOf laws2 tab [111, 131] 4 200 111 [.int .u64 (.ofNat n)] =
    cond (decide (IntKind.wrap .u64 ↑(BitVec.ofInt 64 (Int.fdiv (.ofNat n) 4503599627370496) &&& BitVec.ofInt 64 2047).toNat = 2047))
      (cond (!decide (IntKind.wrap .u64 ((.ofNat n) * 4096) = 0)) (some (.int .u64 9221120237041090561)) (some (.int .u64 (.ofNat n)))) (some (.int .u64 (.ofNat n))) := by kernel_rfl
theorem nan_bits (n : Nat) : (decide (IntKind.wrap .u64 ↑(BitVec.ofInt 64 (Int.fdiv (.ofNat n) 4503599627370496) &&& BitVec.ofInt 64 2047).toNat = 2047) && !decide (IntKind.wrap .u64 ((.ofNat n) * 4096) = 0)) = nanN n := by
  have e1 : Int.fdiv (.ofNat n) 4503599627370496 = ((n / 4503599627370496 : Nat) : Int) := by
    rw [Int.fdiv_eq_ediv_of_nonneg _ (by omega)]; show (n : Int) / 4503599627370496 = _; omega
  have e2 : BitVec.ofInt 64 ((n / 4503599627370496 : Nat) : Int) = BitVec.ofNat 64 (n / 4503599627370496) := BitVec.ofInt_natCast ..
  have e3 : BitVec.ofInt 64 2047 = BitVec.ofNat 64 2047 := rfl
  have e4 : (BitVec.ofNat 64 (n / 4503599627370496) &&& BitVec.ofNat 64 2047).toNat = n / 4503599627370496 % 2048 := by
    rw [BitVec.toNat_and, BitVec.toNat_ofNat, BitVec.toNat_ofNat, show 2047 % 2 ^ 64 = 2 ^ 11 - 1 from rfl, Nat.and_two_pow_sub_one_eq_mod]
    omega
  rw [e1, e2, e3, e4, wrap_u64 (by omega) (by omega)]
  have e5 : IntKind.wrap .u64 ((.ofNat n) * 4096) = (Int.ofNat n * 4096) % 18446744073709551616 := rfl
  rw [e5]
  unfold nanN
  have e6 : Int.ofNat n = (n : Int) := rfl
  rw [e6, Bool.eq_iff_iff]
  simp only [Bool.and_eq_true, decide_eq_true_eq, Bool.not_eq_true', decide_eq_false_iff_not]
  omega
theorem law111 (n : Nat) : treeOf laws2 tab [111, 131] 4 200 111 [.int .u64 (.ofNat n)] = some (quietD n).val := by
  rw [tree111]
  have := nan_bits n
  unfold quietD
  simp only [PD.val]
  rw [← this]
  generalize decide (IntKind.wrap .u64 ↑(BitVec.ofInt 64 (Int.fdiv (.ofNat n) 4503599627370496) &&& BitVec.ofInt 64 2047).toNat = 2047) = a
  generalize (!decide (IntKind.wrap .u64 ((.ofNat n) * 4096) = 0)) = b
  cases a <;> cases b <;> rfl
noncomputable def g111 : List DV → Option PD := g121
theorem g111_ok : ∀ l d, g111 l = some d → d.ok = true → PlainCall Tryz.prog [] 111 (toVs l) (toV d.val) ∧ ofVs (toVs l) = some l := by
  intro l d h ho
  unfold g111 g121 at h
  split at h
  · rename_i n
    cases h
    exact ⟨plain_by _ tab_ok globals4 (by kernel_rfl) (law111 n) ⟨trivial, trivial⟩ (wf_quiet n), rfl⟩
  · cases h
noncomputable def laws3 : Laws Tryz.prog := (laws2.add 121 g121 g121_ok).add 111 g111 g111_ok
end
end Go.Vm.YtdmlbojhfgimnaaGreatDoor

set_option linter.unusedVariables false
set_option linter.unusedSimpArgs false
namespace Go.Vm.YtdmlbojhfgimnaaGreatDoor
open Go.Proofs
noncomputable section

noncomputable def hstep (a b : Int) : Int := IntKind.wrap .u64 (IntKind.wrap .u64 (a * 256) + IntKind.wrap .u64 b)
theorem hstep_eq {a b : Int} (h0 : 0 ≤ a) (h1 : a < 72057594037927936) (h2 : 0 ≤ b) (h3 : b < 256) : hstep a b = a * 256 + b := by
  unfold hstep
  rw [wrap_u64 (z := a * 256) (by omega) (by omega), wrap_u64 (z := b) h2 (by omega), wrap_u64 (by omega) (by omega)]
noncomputable def hfold : Int → List UInt8 → Int
  | a, [] => a
  | a, b :: r => hfold (hstep a b.toNat) r
theorem hfold_eq : ∀ (l : List UInt8) (a : Nat), l.length ≤ 8 → a < 256 ^ (8 - l.length) → hfold a l = ((l.foldl (fun a b => a * 256 + b.toNat) a : Nat) : Int)
  | [], a, _, _ => rfl
  | b :: r, a, h, ha => by
    have hb := b.toNat_lt
    have hl : (b :: r).length = r.length + 1 := rfl
    rw [hl] at h ha
    have hp : 256 ^ (8 - (r.length + 1)) ≤ 256 ^ 7 := Nat.pow_le_pow_right (by omega) (by omega)
    have e7 : (256:Nat) ^ 7 = 72057594037927936 := rfl
    show hfold (hstep a b.toNat) r = _
    rw [hstep_eq (by omega) (by omega) (by omega) (by omega)]
    have e : (a : Int) * 256 + (b.toNat : Int) = ((a * 256 + b.toNat : Nat) : Int) := by simp
    rw [e, hfold_eq r (a * 256 + b.toNat) (by omega) ?_]
    · rfl
    · have e1 : 8 - r.length = (8 - (r.length + 1)) + 1 := by omega
      rw [e1, Nat.pow_succ]
      omega
theorem hfold_num (l : List UInt8) (h : l.length ≤ 8) : hfold 0 l = (numOf l : Int) :=
  hfold_eq l 0 h (Nat.pos_of_ne_zero (by simp))

/-- so many bytes from a place on -/
noncomputable def piece (s : List UInt8) (a : Nat) : Nat → List UInt8
  | 0 => []
  | n + 1 => s.getD a 0 :: piece s (a + 1) n
theorem piece_eq (s : List UInt8) : ∀ (n a : Nat), a + n ≤ s.length → piece s a n = (s.drop a).take n
  | 0, a, _ => by simp [piece]
  | n + 1, a, h => by
    rw [List.drop_eq_getElem_cons (by omega), List.take_succ_cons, piece, piece_eq s n (a + 1) (by omega), List.getD_eq_getElem?_getD, List.getElem?_eq_getElem (by omega)]
    rfl
theorem piece_len (s : List UInt8) : ∀ (n a : Nat), (piece s a n).length = n
  | 0, a => rfl
  | n + 1, a => by simp [piece, piece_len s n (a + 1)]

noncomputable def num81 (s : List UInt8) (a b : Nat) : PD := .need (decide (b ≤ s.length)) (.v (.int .u64 (numOf ((s.drop a).take (b - a)) : Int)))

theorem tree81_1_5 (s : List UInt8) : treeOf laws3 tab [81] 4 200 81 [.str s, .int .i64 (.ofNat 1), .int .i64 (.ofNat 5)] =
    cond (decide ((0:Int) ≤ 1) && decide ((1:Int) < (s.length : Int))) (cond (decide ((0:Int) ≤ 2) && decide ((2:Int) < (s.length : Int))) (cond (decide ((0:Int) ≤ 3) && decide ((3:Int) < (s.length : Int))) (cond (decide ((0:Int) ≤ 4) && decide ((4:Int) < (s.length : Int))) (some (.int .u64 (hfold 0 (piece s 1 4)))) none) none) none) none := by kernel_rfl
theorem law81_1_5 (s : List UInt8) (h : 5 ≤ s.length) : treeOf laws3 tab [81] 4 200 81 [.str s, .int .i64 (.ofNat 1), .int .i64 (.ofNat 5)] = some (num81 s 1 5).val := by
  rw [tree81_1_5, hfold_num _ (by rw [piece_len]; omega), piece_eq s 4 1 (by omega)]
  simp [num81, PD.val, show ((1:Int) < (s.length : Int)) by omega, show ((2:Int) < (s.length : Int)) by omega, show ((3:Int) < (s.length : Int)) by omega, show ((4:Int) < (s.length : Int)) by omega]

theorem tree81_5_13 (s : List UInt8) : treeOf laws3 tab [81] 4 200 81 [.str s, .int .i64 (.ofNat 5), .int .i64 (.ofNat 13)] =
    cond (decide ((0:Int) ≤ 5) && decide ((5:Int) < (s.length : Int))) (cond (decide ((0:Int) ≤ 6) && decide ((6:Int) < (s.length : Int))) (cond (decide ((0:Int) ≤ 7) && decide ((7:Int) < (s.length : Int))) (cond (decide ((0:Int) ≤ 8) && decide ((8:Int) < (s.length : Int))) (cond (decide ((0:Int) ≤ 9) && decide ((9:Int) < (s.length : Int))) (cond (decide ((0:Int) ≤ 10) && decide ((10:Int) < (s.length : Int))) (cond (decide ((0:Int) ≤ 11) && decide ((11:Int) < (s.length : Int))) (cond (decide ((0:Int) ≤ 12) && decide ((12:Int) < (s.length : Int))) (some (.int .u64 (hfold 0 (piece s 5 8)))) none) none) none) none) none) none) none) none := by kernel_rfl
theorem law81_5_13 (s : List UInt8) (h : 13 ≤ s.length) : treeOf laws3 tab [81] 4 200 81 [.str s, .int .i64 (.ofNat 5), .int .i64 (.ofNat 13)] = some (num81 s 5 13).val := by
  rw [tree81_5_13, hfold_num _ (by rw [piece_len]; omega), piece_eq s 8 5 (by omega)]
  simp [num81, PD.val, show ((5:Int) < (s.length : Int)) by omega, show ((6:Int) < (s.length : Int)) by omega, show ((7:Int) < (s.length : Int)) by omega, show ((8:Int) < (s.length : Int)) by omega, show ((9:Int) < (s.length : Int)) by omega, show ((10:Int) < (s.length : Int)) by omega, show ((11:Int) < (s.length : Int)) by omega, show ((12:Int) < (s.length : Int)) by omega]

theorem tree81_13_21 (s : List UInt8) : treeOf laws3 tab [81] 4 200 81 [.str s, .int .i64 (.ofNat 13), .int .i64 (.ofNat 21)] =
    cond (decide ((0:Int) ≤ 13) && decide ((13:Int) < (s.length : Int))) (cond (decide ((0:Int) ≤ 14) && decide ((14:Int) < (s.length : Int))) (cond (decide ((0:Int) ≤ 15) && decide ((15:Int) < (s.length : Int))) (cond (decide ((0:Int) ≤ 16) && decide ((16:Int) < (s.length : Int))) (cond (decide ((0:Int) ≤ 17) && decide ((17:Int) < (s.length : Int))) (cond (decide ((0:Int) ≤ 18) && decide ((18:Int) < (s.length : Int))) (cond (decide ((0:Int) ≤ 19) && decide ((19:Int) < (s.length : Int))) (cond (decide ((0:Int) ≤ 20) && decide ((20:Int) < (s.length : Int))) (some (.int .u64 (hfold 0 (piece s 13 8)))) none) none) none) none) none) none) none) none := by kernel_rfl
theorem law81_13_21 (s : List UInt8) (h : 21 ≤ s.length) : treeOf laws3 tab [81] 4 200 81 [.str s, .int .i64 (.ofNat 13), .int .i64 (.ofNat 21)] = some (num81 s 13 21).val := by
  rw [tree81_13_21, hfold_num _ (by rw [piece_len]; omega), piece_eq s 8 13 (by omega)]
  simp [num81, PD.val, show ((13:Int) < (s.length : Int)) by omega, show ((14:Int) < (s.length : Int)) by omega, show ((15:Int) < (s.length : Int)) by omega, show ((16:Int) < (s.length : Int)) by omega, show ((17:Int) < (s.length : Int)) by omega, show ((18:Int) < (s.length : Int)) by omega, show ((19:Int) < (s.length : Int)) by omega, show ((20:Int) < (s.length : Int)) by omega]

theorem tree81_2_10 (s : List UInt8) : treeOf laws3 tab [81] 4 200 81 [.str s, .int .i64 (.ofNat 2), .int .i64 (.ofNat 10)] =
    cond (decide ((0:Int) ≤ 2) && decide ((2:Int) < (s.length : Int))) (cond (decide ((0:Int) ≤ 3) && decide ((3:Int) < (s.length : Int))) (cond (decide ((0:Int) ≤ 4) && decide ((4:Int) < (s.length : Int))) (cond (decide ((0:Int) ≤ 5) && decide ((5:Int) < (s.length : Int))) (cond (decide ((0:Int) ≤ 6) && decide ((6:Int) < (s.length : Int))) (cond (decide ((0:Int) ≤ 7) && decide ((7:Int) < (s.length : Int))) (cond (decide ((0:Int) ≤ 8) && decide ((8:Int) < (s.length : Int))) (cond (decide ((0:Int) ≤ 9) && decide ((9:Int) < (s.length : Int))) (some (.int .u64 (hfold 0 (piece s 2 8)))) none) none) none) none) none) none) none) none := by kernel_rfl
theorem law81_2_10 (s : List UInt8) (h : 10 ≤ s.length) : treeOf laws3 tab [81] 4 200 81 [.str s, .int .i64 (.ofNat 2), .int .i64 (.ofNat 10)] = some (num81 s 2 10).val := by
  rw [tree81_2_10, hfold_num _ (by rw [piece_len]; omega), piece_eq s 8 2 (by omega)]
  simp [num81, PD.val, show ((2:Int) < (s.length : Int)) by omega, show ((3:Int) < (s.length : Int)) by omega, show ((4:Int) < (s.length : Int)) by omega, show ((5:Int) < (s.length : Int)) by omega, show ((6:Int) < (s.length : Int)) by omega, show ((7:Int) < (s.length : Int)) by omega, show ((8:Int) < (s.length : Int)) by omega, show ((9:Int) < (s.length : Int)) by omega]

theorem tree81_1_9 (s : List UInt8) : treeOf laws3 tab [81] 4 200 81 [.str s, .int .i64 (.ofNat 1), .int .i64 (.ofNat 9)] =
    cond (decide ((0:Int) ≤ 1) && decide ((1:Int) < (s.length : Int))) (cond (decide ((0:Int) ≤ 2) && decide ((2:Int) < (s.length : Int))) (cond (decide ((0:Int) ≤ 3) && decide ((3:Int) < (s.length : Int))) (cond (decide ((0:Int) ≤ 4) && decide ((4:Int) < (s.length : Int))) (cond (decide ((0:Int) ≤ 5) && decide ((5:Int) < (s.length : Int))) (cond (decide ((0:Int) ≤ 6) && decide ((6:Int) < (s.length : Int))) (cond (decide ((0:Int) ≤ 7) && decide ((7:Int) < (s.length : Int))) (cond (decide ((0:Int) ≤ 8) && decide ((8:Int) < (s.length : Int))) (some (.int .u64 (hfold 0 (piece s 1 8)))) none) none) none) none) none) none) none) none := by kernel_rfl
theorem law81_1_9 (s : List UInt8) (h : 9 ≤ s.length) : treeOf laws3 tab [81] 4 200 81 [.str s, .int .i64 (.ofNat 1), .int .i64 (.ofNat 9)] = some (num81 s 1 9).val := by
  rw [tree81_1_9, hfold_num _ (by rw [piece_len]; omega), piece_eq s 8 1 (by omega)]
  simp [num81, PD.val, show ((1:Int) < (s.length : Int)) by omega, show ((2:Int) < (s.length : Int)) by omega, show ((3:Int) < (s.length : Int)) by omega, show ((4:Int) < (s.length : Int)) by omega, show ((5:Int) < (s.length : Int)) by omega, show ((6:Int) < (s.length : Int)) by omega, show ((7:Int) < (s.length : Int)) by omega, show ((8:Int) < (s.length : Int)) by omega]

noncomputable def g81 : List DV → Option PD := fun l => match l with
  | [.str s, .int .i64 (.ofNat 1), .int .i64 (.ofNat 5)] => some (num81 s 1 5)
  | [.str s, .int .i64 (.ofNat 5), .int .i64 (.ofNat 13)] => some (num81 s 5 13)
  | [.str s, .int .i64 (.ofNat 13), .int .i64 (.ofNat 21)] => some (num81 s 13 21)
  | [.str s, .int .i64 (.ofNat 2), .int .i64 (.ofNat 10)] => some (num81 s 2 10)
  | [.str s, .int .i64 (.ofNat 1), .int .i64 (.ofNat 9)] => some (num81 s 1 9)
  | _ => none
theorem g81_ok : ∀ l d, g81 l = some d → d.ok = true → PlainCall Tryz.prog [] 81 (toVs l) (toV d.val) ∧ ofVs (toVs l) = some l := by
  intro l d h ho
  unfold g81 at h
  split at h
  · rename_i s
    cases h
    have hb : 5 ≤ s.length := by simpa [num81, PD.ok] using ho
    exact ⟨plain_by _ tab_ok globals4 (by kernel_rfl) (law81_1_5 s hb) ⟨trivial, trivial, trivial, trivial⟩ trivial, by
      show (match ofV (sv s), ofVs [.int .i64 (.ofNat 1), .int .i64 (.ofNat 5)] with | some x, some l => some (x :: l) | _, _ => .none) = _
      rw [ofV_sv]; rfl⟩
  · rename_i s
    cases h
    have hb : 13 ≤ s.length := by simpa [num81, PD.ok] using ho
    exact ⟨plain_by _ tab_ok globals4 (by kernel_rfl) (law81_5_13 s hb) ⟨trivial, trivial, trivial, trivial⟩ trivial, by
      show (match ofV (sv s), ofVs [.int .i64 (.ofNat 5), .int .i64 (.ofNat 13)] with | some x, some l => some (x :: l) | _, _ => .none) = _
      rw [ofV_sv]; rfl⟩
  · rename_i s
    cases h
    have hb : 21 ≤ s.length := by simpa [num81, PD.ok] using ho
    exact ⟨plain_by _ tab_ok globals4 (by kernel_rfl) (law81_13_21 s hb) ⟨trivial, trivial, trivial, trivial⟩ trivial, by
      show (match ofV (sv s), ofVs [.int .i64 (.ofNat 13), .int .i64 (.ofNat 21)] with | some x, some l => some (x :: l) | _, _ => .none) = _
      rw [ofV_sv]; rfl⟩
  · rename_i s
    cases h
    have hb : 10 ≤ s.length := by simpa [num81, PD.ok] using ho
    exact ⟨plain_by _ tab_ok globals4 (by kernel_rfl) (law81_2_10 s hb) ⟨trivial, trivial, trivial, trivial⟩ trivial, by
      show (match ofV (sv s), ofVs [.int .i64 (.ofNat 2), .int .i64 (.ofNat 10)] with | some x, some l => some (x :: l) | _, _ => .none) = _
      rw [ofV_sv]; rfl⟩
  · rename_i s
    cases h
    have hb : 9 ≤ s.length := by simpa [num81, PD.ok] using ho
    exact ⟨plain_by _ tab_ok globals4 (by kernel_rfl) (law81_1_9 s hb) ⟨trivial, trivial, trivial, trivial⟩ trivial, by
      show (match ofV (sv s), ofVs [.int .i64 (.ofNat 1), .int .i64 (.ofNat 9)] with | some x, some l => some (x :: l) | _, _ => .none) = _
      rw [ofV_sv]; rfl⟩
  · cases h
noncomputable def laws4 : Laws Tryz.prog := laws3.add 81 g81 g81_ok
end
end Go.Vm.YtdmlbojhfgimnaaGreatDoor
