/-
  The reader of package codec: its parts, by trees.
-/
import Derived.Test.YtdmlbojhfgimnaaGreatDoorTabM
import Derived.Test.YtdmlbojhfgimnaaGreatDoorV5
import Derived.KernelRfl
set_option linter.unusedVariables false
set_option linter.unusedSimpArgs false
namespace Go.Vm.YtdmlbojhfgimnaaGreatDoor
open Go.Proofs
noncomputable section

theorem globals4 : Tryz.prog.globals.size = 4 := by kernel_rfl
noncomputable abbrev tab := tabOf all

/-! ### bytes of a number -/
noncomputable def gstep (a b : Int) : Int := IntKind.wrap .u64 ((BitVec.ofInt 64 (IntKind.wrap .u64 (a * 256)) ||| BitVec.ofInt 64 (IntKind.wrap .u64 b)).toNat)
theorem gstep_eq {a b : Int} (h0 : 0 ≤ a) (h1 : a < 72057594037927936) (h2 : 0 ≤ b) (h3 : b < 256) : gstep a b = a * 256 + b := by
  unfold gstep
  rw [wrap_u64 (z := a * 256) (by omega) (by omega), wrap_u64 (z := b) h2 (by omega)]
  obtain ⟨m, rfl⟩ : ∃ m : Nat, a = m := ⟨a.toNat, by omega⟩
  obtain ⟨n, rfl⟩ : ∃ n : Nat, b = n := ⟨b.toNat, by omega⟩
  have e1 : BitVec.ofInt 64 ((m : Int) * 256) = BitVec.ofNat 64 (m * 256) := by
    rw [show (m : Int) * 256 = ((m * 256 : Nat) : Int) by simp, BitVec.ofInt_natCast]
  have e2 : BitVec.ofInt 64 (n : Int) = BitVec.ofNat 64 n := BitVec.ofInt_natCast ..
  rw [e1, e2, BitVec.toNat_or, BitVec.toNat_ofNat, BitVec.toNat_ofNat, Nat.mod_eq_of_lt (by omega), Nat.mod_eq_of_lt (by omega)]
  have e3 : m * 256 ||| n = m * 256 + n := by
    have := Nat.two_pow_add_eq_or_of_lt (i := 8) (b := n) (by omega) m
    simp only [show (2:Nat) ^ 8 = 256 from rfl] at this
    rw [Nat.mul_comm m 256, this]
  rw [e3, wrap_u64 (by omega) (by omega)]
  simp
noncomputable def gfold : Int → List UInt8 → Int
  | a, [] => a
  | a, b :: r => gfold (gstep a b.toNat) r
theorem gfold_eq : ∀ (l : List UInt8) (a : Nat), l.length ≤ 8 → a < 256 ^ (8 - l.length) → gfold a l = ((l.foldl (fun a b => a * 256 + b.toNat) a : Nat) : Int)
  | [], a, _, _ => rfl
  | b :: r, a, h, ha => by
    have hb := b.toNat_lt
    have hl : (b :: r).length = r.length + 1 := rfl
    rw [hl] at h ha
    have hp : 256 ^ (8 - (r.length + 1)) ≤ 256 ^ 7 := Nat.pow_le_pow_right (by omega) (by omega)
    have e7 : (256:Nat) ^ 7 = 72057594037927936 := rfl
    show gfold (gstep a b.toNat) r = _
    rw [gstep_eq (by omega) (by omega) (by omega) (by omega)]
    have e : (a : Int) * 256 + (b.toNat : Int) = ((a * 256 + b.toNat : Nat) : Int) := by simp
    rw [e, gfold_eq r (a * 256 + b.toNat) (by omega) ?_]
    · rfl
    · have e1 : 8 - r.length = (8 - (r.length + 1)) + 1 := by omega
      rw [e1, Nat.pow_succ]
      omega
theorem gfold_num (l : List UInt8) (h : l.length ≤ 8) : gfold 0 l = (numOf l : Int) :=
  gfold_eq l 0 h (Nat.pos_of_ne_zero (by simp))

/-! ### Fixed -/
/-- what Fixed makes of a reader -/
noncomputable def fixedD (s : List UInt8) (z w : Int) : OD :=
  .br (!decide (z = 0)) (.v (.str []) [.str s, .int .i64 z]) (.br (decide (w ≤ 0)) (.v (.str []) [.str s, .int .i64 z])
    (.br (decide ((s.length : Int) < w)) (.v (.str []) [.str [], .int .i64 10]) (.v (.str (s.take w.toNat)) [.str (s.drop w.toNat), .int .i64 z])))
theorem tree68 (s : List UInt8) (z w : Int) : treeObj (Laws.none Tryz.prog) tab [68] 4 200 68 110 [.str s, .int .i64 z] [.int .i64 w] =
    cond (!decide (z = 0)) (some (.tup [.str [], .agg [.str s, .int .i64 z]])) (cond (decide (w ≤ 0)) (some (.tup [.str [], .agg [.str s, .int .i64 z]]))
      (cond (decide ((s.length : Int) < w)) (some (.tup [.str [], .agg [.str [], .int .i64 10]]))
        (cond (decide (0 ≤ w) && decide (w ≤ (s.length : Int))) (cond (decide (0 ≤ w) && decide (w ≤ (s.length : Int))) (some (.tup [.str (s.take w.toNat), .agg [.str (s.drop w.toNat), .int .i64 z]])) none) none))) := by kernel_rfl
theorem law68 (s : List UInt8) (z w : Int) : treeObj (Laws.none Tryz.prog) tab [68] 4 200 68 110 [.str s, .int .i64 z] [.int .i64 w] = some (.tup [(fixedD s z w).val.1, .agg (fixedD s z w).val.2]) := by
  rw [tree68]
  unfold fixedD
  simp only [OD.val]
  cases h1 : !decide (z = 0) with
  | true => rfl
  | false =>
    cases h2 : decide (w ≤ 0) with
    | true => rfl
    | false =>
      cases h3 : decide ((s.length : Int) < w) with
      | true => rfl
      | false =>
        simp only [decide_eq_false_iff_not] at h2 h3
        rw [show (decide (0 ≤ w) && decide (w ≤ (s.length : Int))) = true by simp; omega]
        rfl

theorem wf_fixed (s : List UInt8) (z w : Int) : (fixedD s z w).val.2.length = 2 ∧ wfs 0 (toVs (fixedD s z w).val.2) ∧ wf 0 (toV (fixedD s z w).val.1) := by
  unfold fixedD
  simp only [OD.val]
  split
  · exact ⟨rfl, ⟨trivial, trivial, trivial⟩, trivial⟩
  · split
    · exact ⟨rfl, ⟨trivial, trivial, trivial⟩, trivial⟩
    · split
      · exact ⟨rfl, ⟨trivial, trivial, trivial⟩, trivial⟩
      · exact ⟨rfl, ⟨trivial, trivial, trivial⟩, trivial⟩

theorem dec_rd (s : List UInt8) (z : Int) : ofVs (toVs [.str s, .int .i64 z]) = some [.str s, .int .i64 z] := by
  show (match ofV (sv s), ofVs [.int .i64 z] with | some x, some l => some (x :: l) | _, _ => .none) = _
  rw [ofV_sv]; rfl

noncomputable def g68 : Nat → List DV → List DV → Option OD := fun el l r => match el, l, r with
  | 110, [.str s, .int .i64 z], [.int .i64 w] => some (fixedD s z w)
  | _, _, _ => none
theorem g68_ok : ∀ el l r d, g68 el l r = some d → d.ok = true → ObjCall Tryz.prog 68 el (toVs l) (toVs r) (toV d.val.1) (toVs d.val.2) ∧ ofVs (toVs l) = some l ∧ ofVs (toVs r) = some r := by
  intro el l r d h ho
  unfold g68 at h
  split at h
  · rename_i s z w
    cases h
    obtain ⟨h1, h2, h3⟩ := wf_fixed s z w
    exact ⟨obj_by _ tab_ok globals4 (by kernel_rfl) (law68 s z w) h1 ⟨trivial, trivial, trivial⟩ h2 ⟨trivial, trivial⟩ h3, dec_rd s z, rfl⟩
  · cases h
noncomputable def laws1 : Laws Tryz.prog := (Laws.none _).addO 68 g68 g68_ok
end
end Go.Vm.YtdmlbojhfgimnaaGreatDoor
