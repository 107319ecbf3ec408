/-
  RunTells: the plain law.
-/
import Derived.Test.YtkjjpmbpjfmbcaaGreatDoorL16Y
set_option linter.unusedVariables false
set_option linter.unusedSimpArgs false
namespace Go.Vm.YtkjjpmbpjfmbcaaGreatDoor
open Go.Proofs Go.Vm.R
noncomputable section
theorem rngL_len (x y : List UInt8) (mo : Int) : ∀ (l out : List Ent), (rngL x y mo l out).length ≤ out.length + l.length
  | [], out => Nat.le_refl _
  | e :: r, out => by
    rw [rngL_cons]
    have h1 := rngL_len x y mo r (out ++ [e])
    have h2 := rngL_len x y mo r out
    rw [List.length_append, List.length_singleton] at h1
    rw [List.length_cons]
    cases decide (0 < mo) && decide ((out.length : Int) = mo) <;> cases inR x y e <;> simp only [cond_true, cond_false] <;> omega
theorem rngB_len (x y : List UInt8) (mo : Int) (l : List Ent) : (rngB x y mo l).length ≤ l.length := by
  have := rngL_len x y mo l []
  rw [List.length_nil, Nat.zero_add] at this
  exact this
theorem seg_seg0 {full : List Ent} {j n h : Nat} (hh : h ≤ n) : seg (seg full j n) 0 h = seg full j h := by
  unfold seg
  rw [List.drop_zero, List.take_take, Nat.min_eq_left hh]
theorem seg_segd {full : List Ent} {j n h : Nat} : seg (seg full j n) h (n - h) = seg full (j + h) (n - h) := by
  unfold seg
  rw [List.drop_take, List.drop_drop, List.take_take, Nat.min_self]
theorem same_self (l : List Ent) : sameL l l = true := by simp [sameL]
theorem tree12_ok {j n c : Nat} {x y z : List UInt8} {mo : Int} {full : List Ent} {sp : Bool} {el : R.EL} (p1 : j + n ≤ full.length) (p2 : n ≤ c) (p3 : n < 9223372036854775808) : tree12 j n c x y z mo full sp el = some (R.DV.bool true, mkD [DO.r RK.ent full sp el] 1) := by
  unfold tree12
  have f1 : okS full j n 0 = true := okS_iff.2 (by omega)
  have hl := seg_len p1
  cases f2 : fewL (seg full j n) with
  | false => rw [f1]; rfl
  | true =>
  obtain ⟨q1, q2⟩ := size_few f2
  rw [hl] at q1
  have f4 : okN full j n = true := okN_iff.2 (by omega)
  cases f5 : decide (300 < (x.length : Int)) with
  | true => rw [f1]; rfl
  | false =>
  cases f6 : decide (300 < (y.length : Int)) with
  | true => rw [f1]; rfl
  | false =>
  cases f7 : decide (300 < (z.length : Int)) with
  | true => rw [f1]; rfl
  | false =>
  have k1 : seg (seg full j n) 0 n = seg full j n := seg_seg0 (Nat.le_refl n)
  have g1 : okH full j n c = true := by
    simp only [okH, decide_eq_true_eq]
    refine ⟨p1, ?_, p2, ?_⟩ <;> omega
  have g2 : okN (seg full j n) 0 n = true := okN_iff.2 (by omega)
  have g3 : okH (seg full j n) 0 n n = true := by
    simp only [okH, decide_eq_true_eq, k1]
    refine ⟨?_, ?_, ?_, ?_⟩ <;> omega
  have g4 : okZ full j n = true := by
    simp only [okZ, decide_eq_true_eq]
    refine ⟨p1, ?_, ?_⟩ <;> omega
  have g5 : okZ (seg full j n) 0 n = true := by
    simp only [okZ, decide_eq_true_eq, k1]
    refine ⟨?_, ?_, ?_⟩ <;> omega
  have hh := halfN_le (seg full j n)
  have hR := rngB_len y z mo (seg full j n)
  rw [hl] at hh hR
  cases hn0 : Nat.beq n 0 with
  | true =>
    have n0 : n = 0 := Nat.eq_of_beq_eq_true hn0
    subst n0
    have e0 : seg full j 0 = [] := List.length_eq_zero_iff.1 hl
    have b1 : halfN ([] : List Ent) = 0 := rfl
    have b2 : rngB y z mo ([] : List Ent) = [] := rfl
    have b3 : chkB [] = true := rfl
    have b4 : getK x [] = ([], false) := rfl
    have b5 : sizeL [] = 0 := rfl
    have b6 : okN full j 0 = true := f4
    have b0 : Nat.beq 0 0 = true := rfl
    have z0 : (((0 : Nat) : Int)).toNat = 0 := rfl
    rw [f1, e0]
    simp only [e0, b1, b2, b3, b4, b5, b6, b0, z0, f2, f4, f5, f6, f7, g1, g2, g3, g4, g5, hn0, k1, List.length_nil, Nat.add_zero, Nat.sub_zero, Nat.le_refl, Nat.zero_le, decide_true, Bool.and_true, Bool.true_and, Bool.not_true, Bool.not_false, cond_true, cond_false, beq_self_eq_true, bne_self_eq_false, bne]
  | false =>
    have hnp : 0 < n := by
      rcases Nat.eq_zero_or_pos n with h | h
      · rw [h] at hn0; cases hn0
      · exact h
    have k5 : okN full j (halfN (seg full j n)) = true := okN_iff.2 (by omega)
    have k6 : okN full (j + halfN (seg full j n)) (n - halfN (seg full j n)) = true := okN_iff.2 (by omega)
    have k7 : decide (halfN (seg full j n) ≤ c) = true := decide_eq_true (by omega)
    have k8 : decide (halfN (seg full j n) ≤ n) = true := decide_eq_true hh
    have k9 : decide (n ≤ c) = true := decide_eq_true p2
    have l1 := seg_len (full := full) (j := j) (n := halfN (seg full j n)) (by omega)
    have l2 := seg_len (full := full) (j := j + halfN (seg full j n)) (n := n - halfN (seg full j n)) (by omega)
    have m1 : okN (seg full j (halfN (seg full j n))) 0 (halfN (seg full j n)) = true := okN_iff.2 (by omega)
    have m2 : okN (seg full (j + halfN (seg full j n)) (n - halfN (seg full j n))) 0 (n - halfN (seg full j n)) = true := okN_iff.2 (by omega)
    have m3 : P12 0 (halfN (seg full j n)) (seg full j (halfN (seg full j n))) 0 = true := by
      simp only [P12, decide_eq_true_eq]
      refine ⟨?_, ?_, ?_, ?_⟩ <;> omega
    have m4 : decide (halfN (seg full j n) < 120) = true := decide_eq_true (by omega)
    have m5 : okN (rngB y z mo (seg full j n)) 0 (rngB y z mo (seg full j n)).length = true := okN_iff.2 (by omega)
    have m6 : P12 0 (rngB y z mo (seg full j n)).length (rngB y z mo (seg full j n)) 0 = true := by
      simp only [P12, decide_eq_true_eq]
      refine ⟨?_, ?_, ?_, ?_⟩ <;> omega
    have m7 : decide ((rngB y z mo (seg full j n)).length < 120) = true := decide_eq_true (by omega)
    have s1 : seg (seg full j n) 0 (halfN (seg full j n)) = seg full j (halfN (seg full j n)) := seg_seg0 hh
    have s2 : seg (seg full j (halfN (seg full j n))) 0 (halfN (seg full j n)) = seg full j (halfN (seg full j n)) := seg_seg0 (Nat.le_refl _)
    have s3 : seg (seg full j n) (halfN (seg full j n)) (n - halfN (seg full j n)) = seg full (j + halfN (seg full j n)) (n - halfN (seg full j n)) := seg_segd
    have s4 : seg (seg full (j + halfN (seg full j n)) (n - halfN (seg full j n))) 0 (n - halfN (seg full j n)) = seg full (j + halfN (seg full j n)) (n - halfN (seg full j n)) := seg_seg0 (Nat.le_refl _)
    have s5 : seg (rngB y z mo (seg full j n)) 0 (rngB y z mo (seg full j n)).length = rngB y z mo (seg full j n) := by simp [seg]
    have b0 : Nat.beq 0 0 = true := rfl
    cases t1 : Nat.beq (n - halfN (seg full j n)) 0 with
    | true =>
      have t2 : n - halfN (seg full j n) = 0 := Nat.eq_of_beq_eq_true t1
      have s6 : seg full (j + halfN (seg full j n)) 0 = [] := by unfold seg; rw [List.take_zero]
      have s7 : seg ([] : List Ent) 0 0 = [] := rfl
      have k6' : okN full (j + halfN (seg full j n)) 0 = true := okN_iff.2 (by omega)
      cases t3 : Nat.beq (rngB y z mo (seg full j n)).length 0 <;> cases t4 : chkB (seg full j n) <;>
      simp only [f1, f2, f4, f5, f6, f7, g1, g2, g3, g4, g5, hn0, k1, k5, k6, k6', k7, k8, k9, m1, m2, m3, m4, m5, m6, m7, s1, s2, s3, s4, s5, s6, s7, t1, t2, t3, t4, same_self, b0, Int.toNat_natCast, Nat.add_zero, Nat.zero_add, Nat.sub_zero, Nat.le_refl, decide_true, Bool.and_true, Bool.true_and, Bool.not_true, Bool.not_false, cond_true, cond_false, beq_self_eq_true, bne_self_eq_false, bne]
    | false =>
      cases t3 : Nat.beq (rngB y z mo (seg full j n)).length 0 <;> cases t4 : chkB (seg full j n) <;>
      simp only [f1, f2, f4, f5, f6, f7, g1, g2, g3, g4, g5, hn0, k1, k5, k6, k7, k8, k9, m1, m2, m3, m4, m5, m6, m7, s1, s2, s3, s4, s5, t1, t3, t4, same_self, b0, Int.toNat_natCast, Nat.add_zero, Nat.zero_add, Nat.sub_zero, Nat.le_refl, decide_true, Bool.and_true, Bool.true_and, Bool.not_true, Bool.not_false, cond_true, cond_false, beq_self_eq_true, bne_self_eq_false, bne]
theorem law12 (j n c : Nat) (ex : Bool) (x y z : List UInt8) (mo : Int) (full : List Ent) (sp : Bool) (el : R.EL) : LawOk C.G C.O C.tab 12 121 [.r .ent full sp el] [.rs 0 j n c 2 ex, .agg [.str x, .str y, .str z], .int .i64 mo] (out10 full j n c) := by
  refine law_of C Y6 (lh2 ld12a ld12b) rfl rfl (fun n hn => lh2_ok (Q := fun i b ld => LoopOk C.G 1 (callO noTmps C.O C.tab n) n 120 144 i b ld) rfl (loop12a hn) (loop12b hn)) fun w hz => ?_
  obtain ⟨hp, hz⟩ := R.ev_need hz
  simp only [okA, decide_eq_true_eq] at hp
  obtain ⟨p1, p2, p3⟩ := hp
  refine Eq.trans ?_ hz
  exact (run12 j n c ex x y z mo full sp el).trans (tree12_ok p1 p2 p3)
theorem law12n (x y z : List UInt8) (mo : Int) : LawOk C.G C.O C.tab 12 121 [] [.nils, .agg [.str x, .str y, .str z], .int .i64 mo] (.v (.bool true) []) := by
  refine law_of C Y6 (fun _ => none) rfl rfl (fun n hn p _ ld e => by cases e) fun w hz => ?_
  refine Eq.trans ?_ hz
  refine (run12n x y z mo).trans ?_
  cases decide (300 < (x.length : Int)) <;> cases decide (300 < (y.length : Int)) <;> cases decide (300 < (z.length : Int)) <;> rfl
end
end Go.Vm.YtkjjpmbpjfmbcaaGreatDoor
