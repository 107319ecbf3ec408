/-
  Marks: which are NaN, as the program and as the document's answer tell it.
-/
import Derived.Test.YtdmlbojhfgimnaaGreatDoorL9B
set_option linter.unusedVariables false
set_option linter.unusedSimpArgs false
namespace Go.Vm.YtdmlbojhfgimnaaGreatDoor
open Go.Proofs
noncomputable section

/-- is it NaN? -/
noncomputable def nanN (m : Nat) : Bool := decide (9218868437227405312 < m % 9223372036854775808)

theorem order_nan (m : Nat) : (FloatKind.f64.format.order m m != some .eq) = nanN m := by
  have key : ∀ d : Ieee.Datum, (d.order d != some .eq) = d.isNaN := by
    intro d
    cases d with
    | nan s f => rfl
    | infinity s => cases s <;> rfl
    | number s a i =>
      simp only [Ieee.Datum.order, Ieee.Datum.isNaN]
      have : ∀ z : Int, compare z z = .eq := fun z => by simp [compare, compareOfLessAndEq]
      rw [this]; rfl
  show ((FloatKind.f64.format.read m).order (FloatKind.f64.format.read m) != some .eq) = _
  rw [key]
  unfold Ieee.Format.read nanN
  have e1 : FloatKind.f64.format.signWeight = 9223372036854775808 := rfl
  have e2 : FloatKind.f64.format.infRung = 9218868437227405312 := rfl
  have e3 : FloatKind.f64.format.binade = 4503599627370496 := rfl
  simp only [e1, e2, e3]
  split
  · rename_i h; simp only [Ieee.Datum.isNaN]; symm; simpa using by omega
  · split
    · rename_i h; simp only [Ieee.Datum.isNaN]; symm; simpa using by omega
    · split
      · rename_i h; simp only [Ieee.Datum.isNaN]; symm; simpa using by omega
      · rename_i h; simp only [Ieee.Datum.isNaN]; symm; simpa using by omega

noncomputable def quietD (n : Nat) : PD := .br (nanN n) (.v (.int .u64 9221120237041090561)) (.v (.int .u64 (n : Int)))

theorem tree121 (n : Nat) : treeOf laws2 tab [121] 4 200 121 [.int .u64 (.ofNat n)] = cond (FloatKind.f64.format.order n n != some .eq) (some (.int .u64 9221120237041090561)) (some (.int .u64 (.ofNat n))) := by kernel_rfl
theorem law121 (n : Nat) : treeOf laws2 tab [121] 4 200 121 [.int .u64 (.ofNat n)] = some (quietD n).val := by
  rw [tree121, order_nan]
  unfold quietD
  simp only [PD.val]
  cases nanN n <;> rfl
theorem wf_quiet (n : Nat) : wf 0 (toV (quietD n).val) := by
  unfold quietD
  simp only [PD.val]
  split <;> trivial
noncomputable def g121 : List DV → Option PD := fun l => match l with
  | [.int .u64 (.ofNat n)] => some (quietD n)
  | _ => none
theorem g121_ok : ∀ l d, g121 l = some d → d.ok = true → PlainCall Tryz.prog [] 121 (toVs l) (toV d.val) ∧ ofVs (toVs l) = some l := by
  intro l d h ho
  unfold g121 at h
  split at h
  · rename_i n
    cases h
    exact ⟨plain_by _ tab_ok globals4 (by kernel_rfl) (law121 n) ⟨trivial, trivial⟩ (wf_quiet n), rfl⟩
  · cases h

theorem tree111 (n : Nat) : treeOf laws2 tab [111, 131] 4 200 111 [.int .u64 (.ofNat n)] =
    cond (decide (IntKind.wrap .u64 ↑(BitVec.ofInt 64 (Int.fdiv (.ofNat n) 4503599627370496) &&& BitVec.ofInt 64 2047).toNat = 2047))
      (cond (!decide (IntKind.wrap .u64 ((.ofNat n) * 4096) = 0)) (some (.int .u64 9221120237041090561)) (some (.int .u64 (.ofNat n)))) (some (.int .u64 (.ofNat n))) := by kernel_rfl
theorem nan_bits (n : Nat) : (decide (IntKind.wrap .u64 ↑(BitVec.ofInt 64 (Int.fdiv (.ofNat n) 4503599627370496) &&& BitVec.ofInt 64 2047).toNat = 2047) && !decide (IntKind.wrap .u64 ((.ofNat n) * 4096) = 0)) = nanN n := by
  have e1 : Int.fdiv (.ofNat n) 4503599627370496 = ((n / 4503599627370496 : Nat) : Int) := by
    rw [Int.fdiv_eq_ediv_of_nonneg _ (by omega)]; show (n : Int) / 4503599627370496 = _; omega
  have e2 : BitVec.ofInt 64 ((n / 4503599627370496 : Nat) : Int) = BitVec.ofNat 64 (n / 4503599627370496) := BitVec.ofInt_natCast ..
  have e3 : BitVec.ofInt 64 2047 = BitVec.ofNat 64 2047 := rfl
  have e4 : (BitVec.ofNat 64 (n / 4503599627370496) &&& BitVec.ofNat 64 2047).toNat = n / 4503599627370496 % 2048 := by
    rw [BitVec.toNat_and, BitVec.toNat_ofNat, BitVec.toNat_ofNat, show 2047 % 2 ^ 64 = 2 ^ 11 - 1 from rfl, Nat.and_two_pow_sub_one_eq_mod]
    omega
  rw [e1, e2, e3, e4, wrap_u64 (by omega) (by omega)]
  have e5 : IntKind.wrap .u64 ((.ofNat n) * 4096) = (Int.ofNat n * 4096) % 18446744073709551616 := rfl
  rw [e5]
  unfold nanN
  have e6 : Int.ofNat n = (n : Int) := rfl
  rw [e6, Bool.eq_iff_iff]
  simp only [Bool.and_eq_true, decide_eq_true_eq, Bool.not_eq_true', decide_eq_false_iff_not]
  omega
theorem law111 (n : Nat) : treeOf laws2 tab [111, 131] 4 200 111 [.int .u64 (.ofNat n)] = some (quietD n).val := by
  rw [tree111]
  have := nan_bits n
  unfold quietD
  simp only [PD.val]
  rw [← this]
  generalize decide (IntKind.wrap .u64 ↑(BitVec.ofInt 64 (Int.fdiv (.ofNat n) 4503599627370496) &&& BitVec.ofInt 64 2047).toNat = 2047) = a
  generalize (!decide (IntKind.wrap .u64 ((.ofNat n) * 4096) = 0)) = b
  cases a <;> cases b <;> rfl
noncomputable def g111 : List DV → Option PD := g121
theorem g111_ok : ∀ l d, g111 l = some d → d.ok = true → PlainCall Tryz.prog [] 111 (toVs l) (toV d.val) ∧ ofVs (toVs l) = some l := by
  intro l d h ho
  unfold g111 g121 at h
  split at h
  · rename_i n
    cases h
    exact ⟨plain_by _ tab_ok globals4 (by kernel_rfl) (law111 n) ⟨trivial, trivial⟩ (wf_quiet n), rfl⟩
  · cases h
noncomputable def laws3 : Laws Tryz.prog := (laws2.add 121 g121 g121_ok).add 111 g111 g111_ok
end
end Go.Vm.YtdmlbojhfgimnaaGreatDoor
