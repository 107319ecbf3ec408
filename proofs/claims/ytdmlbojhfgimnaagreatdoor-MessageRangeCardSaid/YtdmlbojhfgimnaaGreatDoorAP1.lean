/-
  Marks: their order, and what a step makes of one, as the program and as the document's answer tell it.
-/
import Derived.Test.YtdmlbojhfgimnaaGreatDoorL9J
set_option linter.unusedVariables false
set_option linter.unusedSimpArgs false
namespace Go.Vm
theorem plain_nani {P : Program} {B : Base} {f : Nat} {v : V} (h : ∀ b, NaN64 b → PlainCall P B f [.int .u64 (.ofNat b)] v) : PlainCall P B f [.nani] v := by
  have h0 := h (0 * 9223372036854775808 + 9218868437227405312 + 1 + 0) ⟨0, 0, by omega, by omega, rfl⟩
  refine ⟨⟨trivial, trivial⟩, h0.wfr, h0.base, fun W vs el hW hvs => ?_⟩
  cases hvs with
  | cons hv t =>
    cases t
    cases hv with
    | nani hb => exact (h _ hb).runs W _ el hW (.cons (.int _ _) .nil)
end Go.Vm
namespace Go.Vm.YtdmlbojhfgimnaaGreatDoor
open Go.Proofs
noncomputable section

theorem nan_nan {b : Nat} (h : NaN64 b) : nanN b = true := by
  obtain ⟨s, t, hs, ht, rfl⟩ := h
  unfold nanN
  rw [decide_eq_true_eq]
  omega
def qNaN : PD := .v (.int .u64 9221120237041090561)
theorem quiet_nan {b : Nat} (h : NaN64 b) : (quietD b).val = .int .u64 9221120237041090561 := by
  unfold quietD
  rw [PD.val_br, nan_nan h]; rfl
def qN (n : Nat) : Nat := cond (nanN n) 9221120237041090561 n
theorem quiet_q (n : Nat) : (quietD n).val = .int .u64 (.ofNat (qN n)) := by
  unfold quietD qN
  rw [PD.val_br]
  cases nanN n <;> rfl
def gquiet (q : Nat → Nat) : List DV → Option PD := fun l => match l with
  | [.int .u64 (.ofNat n)] => some (.v (.int .u64 (.ofNat (q n))))
  | [.nani] => some qNaN
  | _ => none
theorem gq_ok (q : Nat → Nat) (hq : q = qN) (f : Nat) (hf : ∀ l d, g121 l = some d → d.ok = true → PlainCall Tryz.prog [] f (toVs l) (toV d.val) ∧ ofVs (toVs l) = some l) :
    ∀ l d, gquiet q l = some d → d.ok = true → PlainCall Tryz.prog [] f (toVs l) (toV d.val) ∧ ofVs (toVs l) = some l := by
  intro l d h ho
  subst hq
  unfold gquiet at h
  split at h
  · rename_i n
    cases h
    have := (hf [.int .u64 (.ofNat n)] (quietD n) rfl (by unfold quietD; simp only [PD.ok_br, PD.ok_v, Bool.cond_self])).1
    rw [quiet_q] at this
    exact ⟨this, rfl⟩
  · cases h
    refine ⟨plain_nani fun b hb => ?_, rfl⟩
    have := (hf [.int .u64 (.ofNat b)] (quietD b) rfl (by unfold quietD; simp only [PD.ok_br, PD.ok_v, Bool.cond_self])).1
    rw [quiet_nan hb] at this
    exact this
  · cases h
def lawsA0 (q : Nat → Nat) (hq : q = qN) : Laws Tryz.prog := (laws10.add 121 (gquiet q) (gq_ok q hq 121 g121_ok)).add 111 (gquiet q) (gq_ok q hq 111 g111_ok)

def ordN (n : Nat) : Nat := if 9223372036854775808 ≤ n then 18446744073709551615 - n else n + 9223372036854775808
def backN (n : Nat) : Nat := if 9223372036854775808 ≤ n then n - 9223372036854775808 else 18446744073709551615 - n
def small (n : Nat) : Bool := decide (n < 18446744073709551616)
theorem ord_lt {n : Nat} (h : n < 18446744073709551616) : ordN n < 18446744073709551616 := by unfold ordN; split <;> omega
theorem back_ord {n : Nat} (h : n < 18446744073709551616) : backN (ordN n) = n := by
  unfold backN ordN
  split <;> split <;> omega
theorem bv_of (n : Nat) : BitVec.ofInt 64 (Int.ofNat n) = BitVec.ofNat 64 n := BitVec.ofInt_natCast ..
theorem bv_sign : BitVec.ofInt 64 9223372036854775808 = BitVec.ofNat 64 9223372036854775808 := rfl
theorem bv_ones : BitVec.ofInt 64 18446744073709551615 = BitVec.allOnes 64 := rfl
theorem bv_and {n : Nat} (h : n < 18446744073709551616) : (BitVec.ofInt 64 (Int.ofNat n) &&& BitVec.ofInt 64 9223372036854775808).toNat = if 9223372036854775808 ≤ n then 9223372036854775808 else 0 := by
  rw [bv_of, bv_sign, BitVec.toNat_and, BitVec.toNat_ofNat, BitVec.toNat_ofNat, Nat.mod_eq_of_lt h, Nat.mod_eq_of_lt (by omega)]
  apply Nat.eq_of_testBit_eq
  intro i
  rw [Nat.testBit_and, show (9223372036854775808 : Nat) = 2 ^ 63 from rfl, Nat.testBit_two_pow]
  have hb : n.testBit 63 = decide (2 ^ 63 ≤ n) := by
    rw [Nat.testBit_eq_decide_div_mod_eq, Bool.eq_iff_iff, decide_eq_true_eq, decide_eq_true_eq]
    omega
  by_cases hi : 63 = i
  · subst hi
    rw [hb]
    by_cases hn : 2 ^ 63 ≤ n
    · rw [if_pos hn, decide_eq_true hn, Nat.testBit_two_pow]; rfl
    · rw [if_neg hn, decide_eq_false hn, Nat.zero_testBit]; rfl
  · rw [decide_eq_false hi, Bool.and_false]
    split
    · rw [Nat.testBit_two_pow, decide_eq_false hi]
    · rw [Nat.zero_testBit]
theorem bv_xor {n : Nat} (h : n < 18446744073709551616) : (BitVec.ofInt 64 18446744073709551615 ^^^ BitVec.ofInt 64 (Int.ofNat n)).toNat = 18446744073709551615 - n := by
  rw [bv_of, bv_ones, BitVec.allOnes_xor, BitVec.toNat_not, BitVec.toNat_ofNat, Nat.mod_eq_of_lt h]
theorem bv_or {n : Nat} (h : n < 9223372036854775808) : (BitVec.ofInt 64 (Int.ofNat n) ||| BitVec.ofInt 64 9223372036854775808).toNat = n + 9223372036854775808 := by
  rw [bv_of, bv_sign, BitVec.toNat_or, BitVec.toNat_ofNat, BitVec.toNat_ofNat, Nat.mod_eq_of_lt (by omega), Nat.mod_eq_of_lt (by omega), Nat.or_comm]
  have := Nat.two_pow_add_eq_or_of_lt (i := 63) (b := n) (by omega) 1
  simp only [show (2:Nat) ^ 63 = 9223372036854775808 from rfl, Nat.mul_one] at this
  omega
theorem bv_andnot {n : Nat} (h : n < 18446744073709551616) : (BitVec.ofInt 64 (Int.ofNat n) &&& ~~~BitVec.ofInt 64 9223372036854775808).toNat = n % 9223372036854775808 := by
  rw [bv_of, bv_sign, BitVec.toNat_and, BitVec.toNat_not, BitVec.toNat_ofNat, BitVec.toNat_ofNat, Nat.mod_eq_of_lt h, Nat.mod_eq_of_lt (by omega)]
  have := Nat.and_two_pow_sub_one_eq_mod n 63
  simp only [show (2:Nat) ^ 63 = 9223372036854775808 from rfl] at this
  exact this
def ordD (o : Nat → Nat) (n : Nat) : PD := .need (small n) (.v (.int .u64 (.ofNat (o n))))
def g175 (o : Nat → Nat) : List DV → Option PD := fun l => match l with
  | [.int .u64 (.ofNat n)] => some (ordD o n)
  | _ => none
set_option maxRecDepth 10000 in
theorem tOrd (n : Nat) : treeOf laws10 tab [130] 4 200 130 [.int .u64 (.ofNat n)] =
    cond (!decide (IntKind.wrap .u64 (↑(BitVec.toNat (BitVec.ofInt 64 (Int.ofNat n) &&& BitVec.ofInt 64 9223372036854775808)) : Int) = 0)) (some (DV.int .u64 (IntKind.wrap .u64 (↑(BitVec.toNat (BitVec.ofInt 64 18446744073709551615 ^^^ BitVec.ofInt 64 (Int.ofNat n))) : Int)))) (some (DV.int .u64 (IntKind.wrap .u64 (↑(BitVec.toNat (BitVec.ofInt 64 (Int.ofNat n) ||| BitVec.ofInt 64 9223372036854775808)) : Int)))) := by kernel_rfl
set_option maxRecDepth 10000 in
theorem tBack (n : Nat) : treeOf laws10 tab [129] 4 200 129 [.int .u64 (.ofNat n)] =
    cond (!decide (IntKind.wrap .u64 (↑(BitVec.toNat (BitVec.ofInt 64 (Int.ofNat n) &&& BitVec.ofInt 64 9223372036854775808)) : Int) = 0)) (some (DV.int .u64 (IntKind.wrap .u64 (↑(BitVec.toNat (BitVec.ofInt 64 (Int.ofNat n) &&& ~~~BitVec.ofInt 64 9223372036854775808)) : Int)))) (some (DV.int .u64 (IntKind.wrap .u64 (↑(BitVec.toNat (BitVec.ofInt 64 18446744073709551615 ^^^ BitVec.ofInt 64 (Int.ofNat n))) : Int)))) := by kernel_rfl
set_option maxRecDepth 10000 in
theorem tOrdR (n : Nat) : treeOf laws10 tab [114] 4 200 114 [.int .u64 (.ofNat n)] =
    cond (decide (9223372036854775808 ≤ Int.ofNat n)) (some (DV.int .u64 (IntKind.wrap .u64 (18446744073709551615 - Int.ofNat n)))) (some (DV.int .u64 (IntKind.wrap .u64 (Int.ofNat n + 9223372036854775808)))) := by kernel_rfl
theorem law175 (n : Nat) (h : n < 18446744073709551616) : treeOf laws10 tab [130] 4 200 130 [.int .u64 (.ofNat n)] = some (ordD ordN n).val := by
  rw [tOrd]
  rw [bv_and h, bv_xor h]
  show _ = some (DV.int .u64 (Int.ofNat (ordN n)))
  unfold ordN
  by_cases hn : 9223372036854775808 ≤ n
  · rw [if_pos hn, if_pos hn, wrap_u64 (z := ((9223372036854775808 : Nat) : Int)) (by omega) (by omega), wrap_u64 (by omega) (by omega)]; rfl
  · rw [if_neg hn, if_neg hn, bv_or (by omega), wrap_u64 (z := ((0 : Nat) : Int)) (by omega) (by omega), wrap_u64 (z := ((n + 9223372036854775808 : Nat) : Int)) (by omega) (by omega)]; rfl
theorem law174 (n : Nat) (h : n < 18446744073709551616) : treeOf laws10 tab [129] 4 200 129 [.int .u64 (.ofNat n)] = some (ordD backN n).val := by
  rw [tBack]
  rw [bv_and h, bv_xor h, bv_andnot h]
  show _ = some (DV.int .u64 (Int.ofNat (backN n)))
  unfold backN
  by_cases hn : 9223372036854775808 ≤ n
  · rw [if_pos hn, if_pos hn, wrap_u64 (z := ((9223372036854775808 : Nat) : Int)) (by omega) (by omega), wrap_u64 (by omega) (by omega)]
    have : n % 9223372036854775808 = n - 9223372036854775808 := by omega
    rw [this]; rfl
  · rw [if_neg hn, if_neg hn, wrap_u64 (z := ((0 : Nat) : Int)) (by omega) (by omega), wrap_u64 (z := ((18446744073709551615 - n : Nat) : Int)) (by omega) (by omega)]; rfl
theorem law157 (n : Nat) (h : n < 18446744073709551616) : treeOf laws10 tab [114] 4 200 114 [.int .u64 (.ofNat n)] = some (ordD ordN n).val := by
  rw [tOrdR]
  show _ = some (DV.int .u64 (Int.ofNat (ordN n)))
  unfold ordN
  have e6 : Int.ofNat n = (n : Int) := rfl
  by_cases hn : 9223372036854775808 ≤ n
  · rw [if_pos hn, decide_eq_true (by rw [e6]; omega), e6, wrap_u64 (z := 18446744073709551615 - (n : Int)) (by omega) (by omega)]
    show some (DV.int .u64 _) = some (DV.int .u64 _)
    congr 2
    show _ = ((18446744073709551615 - n : Nat) : Int)
    omega
  · rw [if_neg hn, decide_eq_false (by rw [e6]; omega), e6, wrap_u64 (z := (n : Int) + 9223372036854775808) (by omega) (by omega)]; rfl
theorem need_lt {n : Nat} {p : PD} (ho : (PD.need (small n) p).ok = true) : n < 18446744073709551616 := by
  simp only [PD.ok_need, Bool.and_eq_true] at ho
  exact of_decide_eq_true ho.1
theorem g175_ok (o : Nat → Nat) (ho : o = ordN) : ∀ l d, g175 o l = some d → d.ok = true → PlainCall Tryz.prog [] 130 (toVs l) (toV d.val) ∧ ofVs (toVs l) = some l := by
  intro l d h hk
  subst ho
  unfold g175 at h
  split at h
  · rename_i n
    cases h
    exact ⟨plain_by _ tab_ok globals4 (by kernel_rfl) (law175 n (need_lt hk)) ⟨trivial, trivial⟩ trivial, rfl⟩
  · cases h
theorem g157_ok (o : Nat → Nat) (ho : o = ordN) : ∀ l d, g175 o l = some d → d.ok = true → PlainCall Tryz.prog [] 114 (toVs l) (toV d.val) ∧ ofVs (toVs l) = some l := by
  intro l d h hk
  subst ho
  unfold g175 at h
  split at h
  · rename_i n
    cases h
    exact ⟨plain_by _ tab_ok globals4 (by kernel_rfl) (law157 n (need_lt hk)) ⟨trivial, trivial⟩ trivial, rfl⟩
  · cases h
def gback (b : Nat → Nat) : List DV → Option PD := fun l => match l with
  | [.int .u64 z] => some (.need (decide (0 ≤ z) && small z.toNat) (.v (.int .u64 (.ofNat (b z.toNat)))))
  | _ => none
theorem g174_ok (o : Nat → Nat) (ho : o = backN) : ∀ l d, gback o l = some d → d.ok = true → PlainCall Tryz.prog [] 129 (toVs l) (toV d.val) ∧ ofVs (toVs l) = some l := by
  intro l d h hk
  subst ho
  unfold gback at h
  split at h
  · rename_i z
    cases h
    simp only [PD.ok_need, Bool.and_eq_true, decide_eq_true_eq] at hk
    obtain ⟨⟨h0, h1⟩, _⟩ := hk
    obtain ⟨n, rfl⟩ : ∃ n : Nat, z = .ofNat n := ⟨z.toNat, by show z = ((z.toNat : Nat) : Int); omega⟩
    exact ⟨plain_by _ tab_ok globals4 (by kernel_rfl) (law174 n (of_decide_eq_true h1)) ⟨trivial, trivial⟩ trivial, rfl⟩
  · cases h
def lawsA1 (q o b : Nat → Nat) (hq : q = qN) (ho : o = ordN) (hb : b = backN) : Laws Tryz.prog := (((lawsA0 q hq).add 130 (g175 o) (g175_ok o ho)).add 129 (gback b) (g174_ok b hb)).add 114 (g175 o) (g157_ok o ho)
end
end Go.Vm.YtdmlbojhfgimnaaGreatDoor
