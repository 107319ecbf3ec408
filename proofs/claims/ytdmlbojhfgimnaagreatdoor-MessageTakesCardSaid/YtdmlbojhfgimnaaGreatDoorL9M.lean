/-
  A message's text, as the document's answer makes it.
-/
import Derived.Test.YtdmlbojhfgimnaaGreatDoorL9L
set_option linter.unusedVariables false
set_option linter.unusedSimpArgs false
namespace Go.Vm.YtdmlbojhfgimnaaGreatDoor
open Go.Proofs
noncomputable section

/-- the text of a message that may be -/
noncomputable def putS (op : Int) (k t v : List UInt8) : List UInt8 := UInt8.ofNat op.toNat :: (be2 k.length ++ (k ++ cond (decide (op = 3)) (be2 t.length ++ t) (cond (decide (op = 2)) [] (be2 v.length ++ v))))
noncomputable def putP (op : Int) (k t v : List UInt8) : PD := .br (mayB op k t v) (.v (.tup [.str (putS op k t v), .int .i64 0])) (.v (.tup [.str [], .int .i64 4]))
theorem few_len {k t v : List UInt8} (h : fewB k t v = true) : k.length ≤ 1000 ∧ t.length ≤ 1000 ∧ v.length ≤ 1000 := by
  unfold fewB at h
  simp only [cond_dec] at h
  by_cases h1 : (k.length : Int) ≤ 1000
  · rw [if_pos h1] at h
    by_cases h2 : (t.length : Int) ≤ 1000
    · rw [if_pos h2] at h
      have h3 := of_decide_eq_true h
      omega
    · rw [if_neg h2] at h; cases h
  · rw [if_neg h1] at h; cases h
theorem may_op {op : Int} {k t v : List UInt8} (h : mayB op k t v = true) : (op = 1 ∨ op = 2 ∨ op = 3 ∨ op = 4) ∧ 1 ≤ k.length := by
  unfold mayB at h
  simp only [cond_dec] at h
  split at h
  · cases h
  · split at h
    · cases h
    · refine ⟨?_, by omega⟩
      by_cases h3 : op = 3
      · omega
      · rw [if_neg h3] at h
        split at h
        · split at h
          · omega
          · split at h
            · omega
            · split at h
              · omega
              · cases h
        · cases h
theorem be2_len (n : Nat) : (be2 n).length = 2 := rfl

set_option maxRecDepth 10000 in
theorem tree12 (op : Int) (k t v : List UInt8) : treeOf laws11 tab [12] 4 200 12 [.agg [.int .i64 op, .str k, .str t, .str v]] =
    cond (!mayB op k t v) (some (DV.tup [DV.str [], DV.int .i64 4])) (cond (decide (65535 < (↑(List.length k) : Int))) (cond (decide (65535 < (↑(List.length v) : Int))) (cond (decide (65535 < (↑(List.length t) : Int))) (cond (Nat.ble 1 (List.length [DV.int .u8 (IntKind.wrap .u8 op)]) && (decide (0 ≤ IntKind.wrap .u8 op) && (decide (IntKind.wrap .u8 op < 256) && true))) (cond (decide (op = 1)) (some (DV.tup [DV.str ([UInt8.ofNat (Int.toNat (IntKind.wrap .u8 op))] ++ [] ++ []), DV.int .i64 0])) (cond (decide (op = 4)) (some (DV.tup [DV.str ([UInt8.ofNat (Int.toNat (IntKind.wrap .u8 op))] ++ [] ++ []), DV.int .i64 0])) (cond (decide (op = 3)) (some (DV.tup [DV.str ([UInt8.ofNat (Int.toNat (IntKind.wrap .u8 op))] ++ [] ++ []), DV.int .i64 0])) (some (DV.tup [DV.str ([UInt8.ofNat (Int.toNat (IntKind.wrap .u8 op))] ++ []), DV.int .i64 0]))))) none) (cond (Nat.ble 1 (List.length [DV.int .u8 (IntKind.wrap .u8 op)]) && (decide (0 ≤ IntKind.wrap .u8 op) && (decide (IntKind.wrap .u8 op < 256) && true))) (cond (decide (op = 1)) (some (DV.tup [DV.str ([UInt8.ofNat (Int.toNat (IntKind.wrap .u8 op))] ++ [] ++ []), DV.int .i64 0])) (cond (decide (op = 4)) (some (DV.tup [DV.str ([UInt8.ofNat (Int.toNat (IntKind.wrap .u8 op))] ++ [] ++ []), DV.int .i64 0])) (cond (decide (op = 3)) (cond (decide (List.length ([UInt8.ofNat (Int.toNat (IntKind.wrap .u8 op))] ++ []) + List.length (be2 (List.length t) ++ t) ≤ 9223372036854775807)) (some (DV.tup [DV.str ([UInt8.ofNat (Int.toNat (IntKind.wrap .u8 op))] ++ [] ++ (be2 (List.length t) ++ t)), DV.int .i64 0])) none) (some (DV.tup [DV.str ([UInt8.ofNat (Int.toNat (IntKind.wrap .u8 op))] ++ []), DV.int .i64 0]))))) none)) (cond (decide (65535 < (↑(List.length t) : Int))) (cond (Nat.ble 1 (List.length [DV.int .u8 (IntKind.wrap .u8 op)]) && (decide (0 ≤ IntKind.wrap .u8 op) && (decide (IntKind.wrap .u8 op < 256) && true))) (cond (decide (op = 1)) (cond (decide (List.length ([UInt8.ofNat (Int.toNat (IntKind.wrap .u8 op))] ++ []) + List.length (be2 (List.length v) ++ v) ≤ 9223372036854775807)) (some (DV.tup [DV.str ([UInt8.ofNat (Int.toNat (IntKind.wrap .u8 op))] ++ [] ++ (be2 (List.length v) ++ v)), DV.int .i64 0])) none) (cond (decide (op = 4)) (cond (decide (List.length ([UInt8.ofNat (Int.toNat (IntKind.wrap .u8 op))] ++ []) + List.length (be2 (List.length v) ++ v) ≤ 9223372036854775807)) (some (DV.tup [DV.str ([UInt8.ofNat (Int.toNat (IntKind.wrap .u8 op))] ++ [] ++ (be2 (List.length v) ++ v)), DV.int .i64 0])) none) (cond (decide (op = 3)) (some (DV.tup [DV.str ([UInt8.ofNat (Int.toNat (IntKind.wrap .u8 op))] ++ [] ++ []), DV.int .i64 0])) (some (DV.tup [DV.str ([UInt8.ofNat (Int.toNat (IntKind.wrap .u8 op))] ++ []), DV.int .i64 0]))))) none) (cond (Nat.ble 1 (List.length [DV.int .u8 (IntKind.wrap .u8 op)]) && (decide (0 ≤ IntKind.wrap .u8 op) && (decide (IntKind.wrap .u8 op < 256) && true))) (cond (decide (op = 1)) (cond (decide (List.length ([UInt8.ofNat (Int.toNat (IntKind.wrap .u8 op))] ++ []) + List.length (be2 (List.length v) ++ v) ≤ 9223372036854775807)) (some (DV.tup [DV.str ([UInt8.ofNat (Int.toNat (IntKind.wrap .u8 op))] ++ [] ++ (be2 (List.length v) ++ v)), DV.int .i64 0])) none) (cond (decide (op = 4)) (cond (decide (List.length ([UInt8.ofNat (Int.toNat (IntKind.wrap .u8 op))] ++ []) + List.length (be2 (List.length v) ++ v) ≤ 9223372036854775807)) (some (DV.tup [DV.str ([UInt8.ofNat (Int.toNat (IntKind.wrap .u8 op))] ++ [] ++ (be2 (List.length v) ++ v)), DV.int .i64 0])) none) (cond (decide (op = 3)) (cond (decide (List.length ([UInt8.ofNat (Int.toNat (IntKind.wrap .u8 op))] ++ []) + List.length (be2 (List.length t) ++ t) ≤ 9223372036854775807)) (some (DV.tup [DV.str ([UInt8.ofNat (Int.toNat (IntKind.wrap .u8 op))] ++ [] ++ (be2 (List.length t) ++ t)), DV.int .i64 0])) none) (some (DV.tup [DV.str ([UInt8.ofNat (Int.toNat (IntKind.wrap .u8 op))] ++ []), DV.int .i64 0]))))) none))) (cond (decide (65535 < (↑(List.length v) : Int))) (cond (decide (65535 < (↑(List.length t) : Int))) (cond (Nat.ble 1 (List.length [DV.int .u8 (IntKind.wrap .u8 op)]) && (decide (0 ≤ IntKind.wrap .u8 op) && (decide (IntKind.wrap .u8 op < 256) && true))) (cond (decide (List.length [UInt8.ofNat (Int.toNat (IntKind.wrap .u8 op))] + List.length (be2 (List.length k) ++ k) ≤ 9223372036854775807)) (cond (decide (op = 1)) (cond (decide (List.length ([UInt8.ofNat (Int.toNat (IntKind.wrap .u8 op))] ++ (be2 (List.length k) ++ k)) + 0 ≤ 9223372036854775807)) (some (DV.tup [DV.str ([UInt8.ofNat (Int.toNat (IntKind.wrap .u8 op))] ++ (be2 (List.length k) ++ k) ++ []), DV.int .i64 0])) none) (cond (decide (op = 4)) (cond (decide (List.length ([UInt8.ofNat (Int.toNat (IntKind.wrap .u8 op))] ++ (be2 (List.length k) ++ k)) + 0 ≤ 9223372036854775807)) (some (DV.tup [DV.str ([UInt8.ofNat (Int.toNat (IntKind.wrap .u8 op))] ++ (be2 (List.length k) ++ k) ++ []), DV.int .i64 0])) none) (cond (decide (op = 3)) (cond (decide (List.length ([UInt8.ofNat (Int.toNat (IntKind.wrap .u8 op))] ++ (be2 (List.length k) ++ k)) + 0 ≤ 9223372036854775807)) (some (DV.tup [DV.str ([UInt8.ofNat (Int.toNat (IntKind.wrap .u8 op))] ++ (be2 (List.length k) ++ k) ++ []), DV.int .i64 0])) none) (some (DV.tup [DV.str ([UInt8.ofNat (Int.toNat (IntKind.wrap .u8 op))] ++ (be2 (List.length k) ++ k)), DV.int .i64 0]))))) none) none) (cond (Nat.ble 1 (List.length [DV.int .u8 (IntKind.wrap .u8 op)]) && (decide (0 ≤ IntKind.wrap .u8 op) && (decide (IntKind.wrap .u8 op < 256) && true))) (cond (decide (List.length [UInt8.ofNat (Int.toNat (IntKind.wrap .u8 op))] + List.length (be2 (List.length k) ++ k) ≤ 9223372036854775807)) (cond (decide (op = 1)) (cond (decide (List.length ([UInt8.ofNat (Int.toNat (IntKind.wrap .u8 op))] ++ (be2 (List.length k) ++ k)) + 0 ≤ 9223372036854775807)) (some (DV.tup [DV.str ([UInt8.ofNat (Int.toNat (IntKind.wrap .u8 op))] ++ (be2 (List.length k) ++ k) ++ []), DV.int .i64 0])) none) (cond (decide (op = 4)) (cond (decide (List.length ([UInt8.ofNat (Int.toNat (IntKind.wrap .u8 op))] ++ (be2 (List.length k) ++ k)) + 0 ≤ 9223372036854775807)) (some (DV.tup [DV.str ([UInt8.ofNat (Int.toNat (IntKind.wrap .u8 op))] ++ (be2 (List.length k) ++ k) ++ []), DV.int .i64 0])) none) (cond (decide (op = 3)) (cond (decide (List.length ([UInt8.ofNat (Int.toNat (IntKind.wrap .u8 op))] ++ (be2 (List.length k) ++ k)) + List.length (be2 (List.length t) ++ t) ≤ 9223372036854775807)) (some (DV.tup [DV.str ([UInt8.ofNat (Int.toNat (IntKind.wrap .u8 op))] ++ (be2 (List.length k) ++ k) ++ (be2 (List.length t) ++ t)), DV.int .i64 0])) none) (some (DV.tup [DV.str ([UInt8.ofNat (Int.toNat (IntKind.wrap .u8 op))] ++ (be2 (List.length k) ++ k)), DV.int .i64 0]))))) none) none)) (cond (decide (65535 < (↑(List.length t) : Int))) (cond (Nat.ble 1 (List.length [DV.int .u8 (IntKind.wrap .u8 op)]) && (decide (0 ≤ IntKind.wrap .u8 op) && (decide (IntKind.wrap .u8 op < 256) && true))) (cond (decide (List.length [UInt8.ofNat (Int.toNat (IntKind.wrap .u8 op))] + List.length (be2 (List.length k) ++ k) ≤ 9223372036854775807)) (cond (decide (op = 1)) (cond (decide (List.length ([UInt8.ofNat (Int.toNat (IntKind.wrap .u8 op))] ++ (be2 (List.length k) ++ k)) + List.length (be2 (List.length v) ++ v) ≤ 9223372036854775807)) (some (DV.tup [DV.str ([UInt8.ofNat (Int.toNat (IntKind.wrap .u8 op))] ++ (be2 (List.length k) ++ k) ++ (be2 (List.length v) ++ v)), DV.int .i64 0])) none) (cond (decide (op = 4)) (cond (decide (List.length ([UInt8.ofNat (Int.toNat (IntKind.wrap .u8 op))] ++ (be2 (List.length k) ++ k)) + List.length (be2 (List.length v) ++ v) ≤ 9223372036854775807)) (some (DV.tup [DV.str ([UInt8.ofNat (Int.toNat (IntKind.wrap .u8 op))] ++ (be2 (List.length k) ++ k) ++ (be2 (List.length v) ++ v)), DV.int .i64 0])) none) (cond (decide (op = 3)) (cond (decide (List.length ([UInt8.ofNat (Int.toNat (IntKind.wrap .u8 op))] ++ (be2 (List.length k) ++ k)) + 0 ≤ 9223372036854775807)) (some (DV.tup [DV.str ([UInt8.ofNat (Int.toNat (IntKind.wrap .u8 op))] ++ (be2 (List.length k) ++ k) ++ []), DV.int .i64 0])) none) (some (DV.tup [DV.str ([UInt8.ofNat (Int.toNat (IntKind.wrap .u8 op))] ++ (be2 (List.length k) ++ k)), DV.int .i64 0]))))) none) none) (cond (Nat.ble 1 (List.length [DV.int .u8 (IntKind.wrap .u8 op)]) && (decide (0 ≤ IntKind.wrap .u8 op) && (decide (IntKind.wrap .u8 op < 256) && true))) (cond (decide (List.length [UInt8.ofNat (Int.toNat (IntKind.wrap .u8 op))] + List.length (be2 (List.length k) ++ k) ≤ 9223372036854775807)) (cond (decide (op = 1)) (cond (decide (List.length ([UInt8.ofNat (Int.toNat (IntKind.wrap .u8 op))] ++ (be2 (List.length k) ++ k)) + List.length (be2 (List.length v) ++ v) ≤ 9223372036854775807)) (some (DV.tup [DV.str ([UInt8.ofNat (Int.toNat (IntKind.wrap .u8 op))] ++ (be2 (List.length k) ++ k) ++ (be2 (List.length v) ++ v)), DV.int .i64 0])) none) (cond (decide (op = 4)) (cond (decide (List.length ([UInt8.ofNat (Int.toNat (IntKind.wrap .u8 op))] ++ (be2 (List.length k) ++ k)) + List.length (be2 (List.length v) ++ v) ≤ 9223372036854775807)) (some (DV.tup [DV.str ([UInt8.ofNat (Int.toNat (IntKind.wrap .u8 op))] ++ (be2 (List.length k) ++ k) ++ (be2 (List.length v) ++ v)), DV.int .i64 0])) none) (cond (decide (op = 3)) (cond (decide (List.length ([UInt8.ofNat (Int.toNat (IntKind.wrap .u8 op))] ++ (be2 (List.length k) ++ k)) + List.length (be2 (List.length t) ++ t) ≤ 9223372036854775807)) (some (DV.tup [DV.str ([UInt8.ofNat (Int.toNat (IntKind.wrap .u8 op))] ++ (be2 (List.length k) ++ k) ++ (be2 (List.length t) ++ t)), DV.int .i64 0])) none) (some (DV.tup [DV.str ([UInt8.ofNat (Int.toNat (IntKind.wrap .u8 op))] ++ (be2 (List.length k) ++ k)), DV.int .i64 0]))))) none) none)))) := by kernel_rfl

set_option maxHeartbeats 2000000 in
theorem law12 (op : Int) (k t v : List UInt8) (hf : fewB k t v = true) : treeOf laws11 tab [12] 4 200 12 [.agg [.int .i64 op, .str k, .str t, .str v]] = some (putP op k t v).val := by
  rw [tree12]
  obtain ⟨f1, f2, f3⟩ := few_len hf
  unfold putP
  simp only [pd_br, pd_v]
  cases hm : mayB op k t v with
  | false => simp only [Bool.not_false, cond_true, cond_false]
  | true =>
    obtain ⟨ho, hk⟩ := may_op hm
    have q1 : decide (65535 < (k.length : Int)) = false := decide_eq_false (by omega)
    have q2 : decide (65535 < (t.length : Int)) = false := decide_eq_false (by omega)
    have q3 : decide (65535 < (v.length : Int)) = false := decide_eq_false (by omega)
    simp only [Bool.not_true, cond_true, cond_false, q1, q2, q3]
    have w1 : IntKind.wrap .u8 (1:Int) = 1 := rfl
    have w2 : IntKind.wrap .u8 (2:Int) = 2 := rfl
    have w3 : IntKind.wrap .u8 (3:Int) = 3 := rfl
    have w4 : IntKind.wrap .u8 (4:Int) = 4 := rfl
    rcases ho with rfl | rfl | rfl | rfl
    all_goals
      simp only [w1, w2, w3, w4, List.length_cons, List.length_nil, List.length_append, be2_len, Nat.zero_add, putS]
      simp
      simp only [show Nat.ble 1 1 = true from rfl, cond_true, cond_dec]
      repeat rw [if_pos (by omega)]

theorem wf_put (op : Int) (k t v : List UInt8) : wf 0 (toV (putP op k t v).val) := by
  unfold putP
  simp only [PD.val]
  split <;> exact ⟨trivial, trivial, trivial⟩
noncomputable def gput : List DV → Option PD := fun l => match l with
  | [.agg [.int .i64 op, .str k, .str t, .str v]] => some (.need (fewB k t v) (putP op k t v))
  | _ => none
theorem g12_ok : ∀ l d, gput l = some d → d.ok = true → PlainCall Tryz.prog [] 12 (toVs l) (toV d.val) ∧ ofVs (toVs l) = some l := by
  intro l d h ho
  unfold gput at h
  split at h
  · rename_i op k t v
    cases h
    have hf : fewB k t v = true := by
      simp only [PD.ok_need, Bool.and_eq_true] at ho
      exact ho.1
    exact ⟨plain_by _ tab_ok globals4 (by kernel_rfl) (law12 op k t v hf) ⟨⟨trivial, trivial, trivial, trivial, trivial⟩, trivial⟩ (wf_put op k t v), dec_msg op k t v⟩
  · cases h
noncomputable def laws12 : Laws Tryz.prog := laws11.add 12 gput g12_ok
end
end Go.Vm.YtdmlbojhfgimnaaGreatDoor
