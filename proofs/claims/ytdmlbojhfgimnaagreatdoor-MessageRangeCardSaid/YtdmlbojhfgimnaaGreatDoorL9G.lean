/-
  Patches of blocks: what a text's patch is, as the program and as the document's answer tell it.
-/
import Derived.Test.YtdmlbojhfgimnaaGreatDoorL9F
set_option linter.unusedVariables false
set_option linter.unusedSimpArgs false
namespace Go.Vm.YtdmlbojhfgimnaaGreatDoor
open Go.Proofs
noncomputable section

noncomputable def errP (e : Int) : DV := .tup [.agg [.bool false, .int .i64 0, .int .i64 0, .str []], .int .i64 e]
noncomputable def okP (c : Bool) (a n : Int) (t : List UInt8) : DV := .tup [.agg [.bool c, .int .i64 a, .int .i64 n, .str t], .int .i64 0]
noncomputable def patchD (s : List UInt8) : PD := .br (decide (s.length = 0)) (.v (errP 10)) (.br (decide (numOf (s.take 1) = 2))
    (.br (decide (s.length < 2)) (.v (errP 10)) (.br (decide (2 < s.length)) (.v (errP 4)) (.br (decide (numOf ((s.drop 1).take 1) < 64)) (.v (okP true 0 (numOf ((s.drop 1).take 1)) [])) (.v (errP 4)))))
    (.br (decide (numOf (s.take 1) = 1))
      (.br (decide (s.length < 4)) (.v (errP 10)) (.br (decide (s.length < 4 + numOf ((s.drop 2).take 2))) (.v (errP 10)) (.br (decide (4 + numOf ((s.drop 2).take 2) < s.length)) (.v (errP 4))
        (.br (decide (1 ≤ numOf ((s.drop 2).take 2))) (.br (decide (numOf ((s.drop 2).take 2) ≤ 64)) (.br (decide (numOf ((s.drop 1).take 1) + numOf ((s.drop 2).take 2) ≤ 64))
          (.v (okP false (numOf ((s.drop 1).take 1)) 0 ((s.drop 4).take (numOf ((s.drop 2).take 2))))) (.v (errP 4))) (.v (errP 4))) (.v (errP 4))))))
      (.v (errP 4))))

set_option maxRecDepth 10000 in
theorem tree72 (s : List UInt8) : treeOf laws6 tab [38, 39, 40, 41, 42, 69, 72, 100] 4 200 72 [.str s] =
    cond (decide ((↑(List.length s) : Int) < (↑1 : Int))) (some (.tup [.agg [.bool false, .int .i64 0, .int .i64 0, .str []], .int .i64 10])) (cond (decide ((↑(numOf (List.take 1 s)) : Int) = 2)) (cond (decide ((↑(List.length (List.drop 1 s)) : Int) < (↑1 : Int))) (some (.tup [.agg [.bool false, .int .i64 0, .int .i64 0, .str []], .int .i64 10])) (cond (!decide (List.drop 1 (List.drop 1 s) = [])) (some (.tup [.agg [.bool false, .int .i64 0, .int .i64 0, .str []], .int .i64 4])) (cond (decide (0 ≤ IntKind.wrap .i64 (↑(numOf (List.take 1 (List.drop 1 s))) : Int))) (cond (decide (IntKind.wrap .i64 (↑(numOf (List.take 1 (List.drop 1 s))) : Int) < 64)) (some (.tup [.agg [.bool true, .int .i64 0, .int .i64 (IntKind.wrap .i64 (↑(numOf (List.take 1 (List.drop 1 s))) : Int)), .str []], .int .i64 0])) (some (.tup [.agg [.bool false, .int .i64 0, .int .i64 0, .str []], .int .i64 4]))) (some (.tup [.agg [.bool false, .int .i64 0, .int .i64 0, .str []], .int .i64 4]))))) (cond (decide ((↑(numOf (List.take 1 s)) : Int) = 1)) (cond (decide ((↑(List.length (List.drop 1 s)) : Int) < (↑1 : Int))) (some (.tup [.agg [.bool false, .int .i64 0, .int .i64 0, .str []], .int .i64 10])) (cond (decide ((↑(List.length (List.drop 1 (List.drop 1 s))) : Int) < (↑2 : Int))) (some (.tup [.agg [.bool false, .int .i64 0, .int .i64 0, .str []], .int .i64 10])) (cond (decide (IntKind.wrap .i64 (↑(numOf (List.take 2 (List.drop 1 (List.drop 1 s)))) : Int) ≤ 0)) (cond (!decide (List.drop 2 (List.drop 1 (List.drop 1 s)) = [])) (some (.tup [.agg [.bool false, .int .i64 0, .int .i64 0, .str []], .int .i64 4])) (some (.tup [.agg [.bool false, .int .i64 0, .int .i64 0, .str []], .int .i64 4]))) (cond (decide ((↑(List.length (List.drop 2 (List.drop 1 (List.drop 1 s)))) : Int) < IntKind.wrap .i64 (↑(numOf (List.take 2 (List.drop 1 (List.drop 1 s)))) : Int))) (some (.tup [.agg [.bool false, .int .i64 0, .int .i64 0, .str []], .int .i64 10])) (cond (!decide (List.drop (Int.toNat (IntKind.wrap .i64 (↑(numOf (List.take 2 (List.drop 1 (List.drop 1 s)))) : Int))) (List.drop 2 (List.drop 1 (List.drop 1 s))) = [])) (some (.tup [.agg [.bool false, .int .i64 0, .int .i64 0, .str []], .int .i64 4])) (cond (!decide (List.take (Int.toNat (IntKind.wrap .i64 (↑(numOf (List.take 2 (List.drop 1 (List.drop 1 s)))) : Int))) (List.drop 2 (List.drop 1 (List.drop 1 s))) = [])) (cond (decide ((↑(List.length (List.take (Int.toNat (IntKind.wrap .i64 (↑(numOf (List.take 2 (List.drop 1 (List.drop 1 s)))) : Int))) (List.drop 2 (List.drop 1 (List.drop 1 s))))) : Int) ≤ 64)) (cond (decide (0 ≤ IntKind.wrap .i64 (↑(numOf (List.take 1 (List.drop 1 s))) : Int))) (cond (decide (IntKind.wrap .i64 (↑(numOf (List.take 1 (List.drop 1 s))) : Int) ≤ IntKind.wrap .i64 (64 - (↑(List.length (List.take (Int.toNat (IntKind.wrap .i64 (↑(numOf (List.take 2 (List.drop 1 (List.drop 1 s)))) : Int))) (List.drop 2 (List.drop 1 (List.drop 1 s))))) : Int)))) (some (.tup [.agg [.bool false, .int .i64 (IntKind.wrap .i64 (↑(numOf (List.take 1 (List.drop 1 s))) : Int)), .int .i64 0, .str (List.take (Int.toNat (IntKind.wrap .i64 (↑(numOf (List.take 2 (List.drop 1 (List.drop 1 s)))) : Int))) (List.drop 2 (List.drop 1 (List.drop 1 s))))], .int .i64 0])) (some (.tup [.agg [.bool false, .int .i64 0, .int .i64 0, .str []], .int .i64 4]))) (some (.tup [.agg [.bool false, .int .i64 0, .int .i64 0, .str []], .int .i64 4]))) (some (.tup [.agg [.bool false, .int .i64 0, .int .i64 0, .str []], .int .i64 4]))) (some (.tup [.agg [.bool false, .int .i64 0, .int .i64 0, .str []], .int .i64 4])))))))) (some (.tup [.agg [.bool false, .int .i64 0, .int .i64 0, .str []], .int .i64 4])))) := by kernel_rfl

theorem law72 (s : List UInt8) : treeOf laws6 tab [38, 39, 40, 41, 42, 69, 72, 100] 4 200 72 [.str s] = some (patchD s).val := by
  rw [tree72]
  unfold patchD errP okP
  have b1 := num_take1 s
  have b2 := num_take1 (s.drop 1)
  have b4 := num_take2 (s.drop 2)
  simp only [List.drop_drop, Nat.reduceAdd]
  rw [wrap_i64 (z := (numOf ((s.drop 2).take 2) : Int)) (by omega) (by omega), wrap_i64 (z := (numOf ((s.drop 1).take 1) : Int)) (by omega) (by omega)]
  simp only [nil_len, pd_br, pd_v, List.drop_drop, Nat.reduceAdd, List.length_drop, List.length_take, cond_and, cond_or, cond_nn, cond_dec, cond_ndec, if_true, if_false, cond_true, cond_false, Int.toNat_natCast]
  rw [wrap_i64 (z := 64 - ((min (numOf ((s.drop 2).take 2)) (s.length - 4) : Nat) : Int)) (by omega) (by omega)]
  repeat' (first | with_reducible rfl | (refine ite_l (fun _ => ?_) (fun _ => ?_)) | (refine ite_r (fun _ => ?_) (fun _ => ?_)) | (exfalso; omega))

theorem two_bytes (s : List UInt8) (h : 3 < s.length) : 256 * (s.getD 2 0).toNat + (s.getD 3 0).toNat = numOf ((s.drop 2).take 2) := by
  rw [List.drop_eq_getElem_cons (show 2 < s.length by omega), List.take_succ_cons, List.drop_eq_getElem_cons h, List.take_succ_cons, List.take_zero, List.getD_eq_getElem?_getD, List.getElem?_eq_getElem (show 2 < s.length by omega), List.getD_eq_getElem?_getD, List.getElem?_eq_getElem h]
  simp [numOf]
  omega

set_option maxRecDepth 10000 in
theorem tree46 (s : List UInt8) : treeOf laws6 tab [46, 78] 4 200 46 [.str s] =
    cond (decide ((↑(List.length s) : Int) = 0)) (some (.tup [.agg [.bool false, .int .i64 0, .int .i64 0, .str []], .int .i64 10])) (cond (true && decide (0 < (↑(List.length s) : Int))) (cond (!decide ((↑(UInt8.toNat (List.getD s 0 0)) : Int) = 1)) (cond (true && decide (0 < (↑(List.length s) : Int))) (cond (!decide ((↑(UInt8.toNat (List.getD s 0 0)) : Int) = 2)) (some (.tup [.agg [.bool false, .int .i64 0, .int .i64 0, .str []], .int .i64 4])) (cond (true && decide (0 < (↑(List.length s) : Int))) (cond (decide ((↑(UInt8.toNat (List.getD s 0 0)) : Int) = 2)) (cond (decide ((↑(List.length s) : Int) < 2)) (some (.tup [.agg [.bool false, .int .i64 0, .int .i64 0, .str []], .int .i64 10])) (cond (true && decide (1 < (↑(List.length s) : Int))) (cond (decide (2 < (↑(List.length s) : Int))) (some (.tup [.agg [.bool false, .int .i64 0, .int .i64 0, .str []], .int .i64 4])) (cond (decide (0 ≤ IntKind.wrap .i64 (↑(UInt8.toNat (List.getD s 1 0)) : Int))) (cond (decide (IntKind.wrap .i64 (↑(UInt8.toNat (List.getD s 1 0)) : Int) < 64)) (some (.tup [.agg [.bool true, .int .i64 0, .int .i64 (IntKind.wrap .i64 (↑(UInt8.toNat (List.getD s 1 0)) : Int)), .str []], .int .i64 0])) (some (.tup [.agg [.bool false, .int .i64 0, .int .i64 0, .str []], .int .i64 4]))) (some (.tup [.agg [.bool false, .int .i64 0, .int .i64 0, .str []], .int .i64 4])))) none)) (cond (decide ((↑(List.length s) : Int) < 4)) (some (.tup [.agg [.bool false, .int .i64 0, .int .i64 0, .str []], .int .i64 10])) (cond (true && decide (2 < (↑(List.length s) : Int))) (cond (true && decide (3 < (↑(List.length s) : Int))) (cond (decide ((↑(List.length s) : Int) < IntKind.wrap .i64 (IntKind.wrap .i64 (4 + IntKind.wrap .i64 (256 * IntKind.wrap .i64 (↑(UInt8.toNat (List.getD s 2 0)) : Int))) + IntKind.wrap .i64 (↑(UInt8.toNat (List.getD s 3 0)) : Int)))) (some (.tup [.agg [.bool false, .int .i64 0, .int .i64 0, .str []], .int .i64 10])) (cond (true && decide (1 < (↑(List.length s) : Int))) (cond (true && (decide (4 ≤ IntKind.wrap .i64 (IntKind.wrap .i64 (4 + IntKind.wrap .i64 (256 * IntKind.wrap .i64 (↑(UInt8.toNat (List.getD s 2 0)) : Int))) + IntKind.wrap .i64 (↑(UInt8.toNat (List.getD s 3 0)) : Int))) && decide (IntKind.wrap .i64 (IntKind.wrap .i64 (4 + IntKind.wrap .i64 (256 * IntKind.wrap .i64 (↑(UInt8.toNat (List.getD s 2 0)) : Int))) + IntKind.wrap .i64 (↑(UInt8.toNat (List.getD s 3 0)) : Int)) ≤ (↑(List.length s) : Int)))) (cond (decide (IntKind.wrap .i64 (IntKind.wrap .i64 (4 + IntKind.wrap .i64 (256 * IntKind.wrap .i64 (↑(UInt8.toNat (List.getD s 2 0)) : Int))) + IntKind.wrap .i64 (↑(UInt8.toNat (List.getD s 3 0)) : Int)) < (↑(List.length s) : Int))) (some (.tup [.agg [.bool false, .int .i64 0, .int .i64 0, .str []], .int .i64 4])) (cond (decide (1 ≤ (↑(List.length (List.drop 4 (List.take (Int.toNat (IntKind.wrap .i64 (IntKind.wrap .i64 (4 + IntKind.wrap .i64 (256 * IntKind.wrap .i64 (↑(UInt8.toNat (List.getD s 2 0)) : Int))) + IntKind.wrap .i64 (↑(UInt8.toNat (List.getD s 3 0)) : Int)))) s))) : Int))) (cond (decide ((↑(List.length (List.drop 4 (List.take (Int.toNat (IntKind.wrap .i64 (IntKind.wrap .i64 (4 + IntKind.wrap .i64 (256 * IntKind.wrap .i64 (↑(UInt8.toNat (List.getD s 2 0)) : Int))) + IntKind.wrap .i64 (↑(UInt8.toNat (List.getD s 3 0)) : Int)))) s))) : Int) ≤ 64)) (cond (decide (0 ≤ IntKind.wrap .i64 (↑(UInt8.toNat (List.getD s 1 0)) : Int))) (cond (decide (IntKind.wrap .i64 (↑(UInt8.toNat (List.getD s 1 0)) : Int) ≤ IntKind.wrap .i64 (64 - (↑(List.length (List.drop 4 (List.take (Int.toNat (IntKind.wrap .i64 (IntKind.wrap .i64 (4 + IntKind.wrap .i64 (256 * IntKind.wrap .i64 (↑(UInt8.toNat (List.getD s 2 0)) : Int))) + IntKind.wrap .i64 (↑(UInt8.toNat (List.getD s 3 0)) : Int)))) s))) : Int)))) (some (.tup [.agg [.bool false, .int .i64 (IntKind.wrap .i64 (↑(UInt8.toNat (List.getD s 1 0)) : Int)), .int .i64 0, .str (List.drop 4 (List.take (Int.toNat (IntKind.wrap .i64 (IntKind.wrap .i64 (4 + IntKind.wrap .i64 (256 * IntKind.wrap .i64 (↑(UInt8.toNat (List.getD s 2 0)) : Int))) + IntKind.wrap .i64 (↑(UInt8.toNat (List.getD s 3 0)) : Int)))) s))], .int .i64 0])) (some (.tup [.agg [.bool false, .int .i64 0, .int .i64 0, .str []], .int .i64 4]))) (some (.tup [.agg [.bool false, .int .i64 0, .int .i64 0, .str []], .int .i64 4]))) (some (.tup [.agg [.bool false, .int .i64 0, .int .i64 0, .str []], .int .i64 4]))) (some (.tup [.agg [.bool false, .int .i64 0, .int .i64 0, .str []], .int .i64 4])))) none) none)) none) none))) none)) none) (cond (true && decide (0 < (↑(List.length s) : Int))) (cond (decide ((↑(UInt8.toNat (List.getD s 0 0)) : Int) = 2)) (cond (decide ((↑(List.length s) : Int) < 2)) (some (.tup [.agg [.bool false, .int .i64 0, .int .i64 0, .str []], .int .i64 10])) (cond (true && decide (1 < (↑(List.length s) : Int))) (cond (decide (2 < (↑(List.length s) : Int))) (some (.tup [.agg [.bool false, .int .i64 0, .int .i64 0, .str []], .int .i64 4])) (cond (decide (0 ≤ IntKind.wrap .i64 (↑(UInt8.toNat (List.getD s 1 0)) : Int))) (cond (decide (IntKind.wrap .i64 (↑(UInt8.toNat (List.getD s 1 0)) : Int) < 64)) (some (.tup [.agg [.bool true, .int .i64 0, .int .i64 (IntKind.wrap .i64 (↑(UInt8.toNat (List.getD s 1 0)) : Int)), .str []], .int .i64 0])) (some (.tup [.agg [.bool false, .int .i64 0, .int .i64 0, .str []], .int .i64 4]))) (some (.tup [.agg [.bool false, .int .i64 0, .int .i64 0, .str []], .int .i64 4])))) none)) (cond (decide ((↑(List.length s) : Int) < 4)) (some (.tup [.agg [.bool false, .int .i64 0, .int .i64 0, .str []], .int .i64 10])) (cond (true && decide (2 < (↑(List.length s) : Int))) (cond (true && decide (3 < (↑(List.length s) : Int))) (cond (decide ((↑(List.length s) : Int) < IntKind.wrap .i64 (IntKind.wrap .i64 (4 + IntKind.wrap .i64 (256 * IntKind.wrap .i64 (↑(UInt8.toNat (List.getD s 2 0)) : Int))) + IntKind.wrap .i64 (↑(UInt8.toNat (List.getD s 3 0)) : Int)))) (some (.tup [.agg [.bool false, .int .i64 0, .int .i64 0, .str []], .int .i64 10])) (cond (true && decide (1 < (↑(List.length s) : Int))) (cond (true && (decide (4 ≤ IntKind.wrap .i64 (IntKind.wrap .i64 (4 + IntKind.wrap .i64 (256 * IntKind.wrap .i64 (↑(UInt8.toNat (List.getD s 2 0)) : Int))) + IntKind.wrap .i64 (↑(UInt8.toNat (List.getD s 3 0)) : Int))) && decide (IntKind.wrap .i64 (IntKind.wrap .i64 (4 + IntKind.wrap .i64 (256 * IntKind.wrap .i64 (↑(UInt8.toNat (List.getD s 2 0)) : Int))) + IntKind.wrap .i64 (↑(UInt8.toNat (List.getD s 3 0)) : Int)) ≤ (↑(List.length s) : Int)))) (cond (decide (IntKind.wrap .i64 (IntKind.wrap .i64 (4 + IntKind.wrap .i64 (256 * IntKind.wrap .i64 (↑(UInt8.toNat (List.getD s 2 0)) : Int))) + IntKind.wrap .i64 (↑(UInt8.toNat (List.getD s 3 0)) : Int)) < (↑(List.length s) : Int))) (some (.tup [.agg [.bool false, .int .i64 0, .int .i64 0, .str []], .int .i64 4])) (cond (decide (1 ≤ (↑(List.length (List.drop 4 (List.take (Int.toNat (IntKind.wrap .i64 (IntKind.wrap .i64 (4 + IntKind.wrap .i64 (256 * IntKind.wrap .i64 (↑(UInt8.toNat (List.getD s 2 0)) : Int))) + IntKind.wrap .i64 (↑(UInt8.toNat (List.getD s 3 0)) : Int)))) s))) : Int))) (cond (decide ((↑(List.length (List.drop 4 (List.take (Int.toNat (IntKind.wrap .i64 (IntKind.wrap .i64 (4 + IntKind.wrap .i64 (256 * IntKind.wrap .i64 (↑(UInt8.toNat (List.getD s 2 0)) : Int))) + IntKind.wrap .i64 (↑(UInt8.toNat (List.getD s 3 0)) : Int)))) s))) : Int) ≤ 64)) (cond (decide (0 ≤ IntKind.wrap .i64 (↑(UInt8.toNat (List.getD s 1 0)) : Int))) (cond (decide (IntKind.wrap .i64 (↑(UInt8.toNat (List.getD s 1 0)) : Int) ≤ IntKind.wrap .i64 (64 - (↑(List.length (List.drop 4 (List.take (Int.toNat (IntKind.wrap .i64 (IntKind.wrap .i64 (4 + IntKind.wrap .i64 (256 * IntKind.wrap .i64 (↑(UInt8.toNat (List.getD s 2 0)) : Int))) + IntKind.wrap .i64 (↑(UInt8.toNat (List.getD s 3 0)) : Int)))) s))) : Int)))) (some (.tup [.agg [.bool false, .int .i64 (IntKind.wrap .i64 (↑(UInt8.toNat (List.getD s 1 0)) : Int)), .int .i64 0, .str (List.drop 4 (List.take (Int.toNat (IntKind.wrap .i64 (IntKind.wrap .i64 (4 + IntKind.wrap .i64 (256 * IntKind.wrap .i64 (↑(UInt8.toNat (List.getD s 2 0)) : Int))) + IntKind.wrap .i64 (↑(UInt8.toNat (List.getD s 3 0)) : Int)))) s))], .int .i64 0])) (some (.tup [.agg [.bool false, .int .i64 0, .int .i64 0, .str []], .int .i64 4]))) (some (.tup [.agg [.bool false, .int .i64 0, .int .i64 0, .str []], .int .i64 4]))) (some (.tup [.agg [.bool false, .int .i64 0, .int .i64 0, .str []], .int .i64 4]))) (some (.tup [.agg [.bool false, .int .i64 0, .int .i64 0, .str []], .int .i64 4])))) none) none)) none) none))) none)) none) := by kernel_rfl

set_option maxHeartbeats 4000000 in
theorem law46 (s : List UInt8) : treeOf laws6 tab [46, 78] 4 200 46 [.str s] = some (patchD s).val := by
  rw [tree46]
  unfold patchD errP okP
  have b1 := num_take1 s
  have b2 := num_take1 (s.drop 1)
  have b4 := num_take2 (s.drop 2)
  by_cases hl : 0 < s.length
  · have hb := byte_at s 0 hl
    rw [List.drop_zero] at hb
    by_cases hl1 : 1 < s.length
    · have hb1 := byte_at s 1 hl1
      by_cases hl3 : 3 < s.length
      · have ht := two_bytes s hl3
        have q2 := (s.getD 2 0).toNat_lt
        have q3 := (s.getD 3 0).toNat_lt
        rw [wrap_i64 (z := ((s.getD 2 0).toNat : Int)) (by omega) (by omega), wrap_i64 (z := ((s.getD 3 0).toNat : Int)) (by omega) (by omega), wrap_i64 (z := 256 * ((s.getD 2 0).toNat : Int)) (by omega) (by omega),
          wrap_i64 (z := 4 + 256 * ((s.getD 2 0).toNat : Int)) (by omega) (by omega), show 4 + 256 * ((s.getD 2 0).toNat : Int) + ((s.getD 3 0).toNat : Int) = ((4 + numOf ((s.drop 2).take 2) : Nat) : Int) by omega,
          wrap_i64 (z := ((4 + numOf ((s.drop 2).take 2) : Nat) : Int)) (by omega) (by omega)]
        simp only [hb, hb1]
        rw [wrap_i64 (z := (numOf ((s.drop 1).take 1) : Int)) (by omega) (by omega)]
        simp only [Int.toNat_natCast, List.drop_take, Nat.add_sub_cancel_left, nil_len, pd_br, pd_v, List.length_drop, List.length_take, cond_and, cond_or, cond_nn, cond_dec, cond_ndec, if_true, if_false, cond_true, cond_false]
        rw [wrap_i64 (z := 64 - ((min (numOf ((s.drop 2).take 2)) (s.length - 4) : Nat) : Int)) (by omega) (by omega)]
        repeat' (first | with_reducible rfl | (refine ite_l (fun _ => ?_) (fun _ => ?_)) | (refine ite_r (fun _ => ?_) (fun _ => ?_)) | (exfalso; omega))
      · simp only [hb, hb1]
        rw [wrap_i64 (z := (numOf ((s.drop 1).take 1) : Int)) (by omega) (by omega)]
        simp only [nil_len, pd_br, pd_v, cond_and, cond_or, cond_nn, cond_dec, cond_ndec, if_true, if_false, cond_true, cond_false]
        repeat' (first | with_reducible rfl | (refine ite_l (fun _ => ?_) (fun _ => ?_)) | (refine ite_r (fun _ => ?_) (fun _ => ?_)) | (exfalso; omega))
    · simp only [hb, nil_len, pd_br, pd_v, cond_and, cond_or, cond_nn, cond_dec, cond_ndec, if_true, if_false, cond_true, cond_false]
      repeat' (first | with_reducible rfl | (refine ite_l (fun _ => ?_) (fun _ => ?_)) | (refine ite_r (fun _ => ?_) (fun _ => ?_)) | (exfalso; omega))
  · simp only [nil_len, pd_br, pd_v, cond_dec]
    rw [if_pos (by omega), if_pos (by omega)]
theorem wf_patch (s : List UInt8) : wf 0 (toV (patchD s).val) := by
  unfold patchD
  simp only [PD.val_br, PD.val_v, cond_dec]
  repeat' first | exact ⟨⟨trivial, trivial, trivial, trivial, trivial⟩, trivial, trivial⟩ | split
noncomputable def gpatch : List DV → Option PD := fun l => match l with
  | [.str s] => some (patchD s)
  | _ => none
theorem g72_ok : ∀ l d, gpatch l = some d → d.ok = true → PlainCall Tryz.prog [] 72 (toVs l) (toV d.val) ∧ ofVs (toVs l) = some l := by
  intro l d h ho
  unfold gpatch at h
  split at h
  · rename_i s
    cases h
    exact ⟨plain_by _ tab_ok globals4 (by kernel_rfl) (law72 s) ⟨trivial, trivial⟩ (wf_patch s), dec_s s⟩
  · cases h
theorem g46_ok : ∀ l d, gpatch l = some d → d.ok = true → PlainCall Tryz.prog [] 46 (toVs l) (toV d.val) ∧ ofVs (toVs l) = some l := by
  intro l d h ho
  unfold gpatch at h
  split at h
  · rename_i s
    cases h
    exact ⟨plain_by _ tab_ok globals4 (by kernel_rfl) (law46 s) ⟨trivial, trivial⟩ (wf_patch s), dec_s s⟩
  · cases h

noncomputable def laws7 : Laws Tryz.prog := (laws6.add 72 gpatch g72_ok).add 46 gpatch g46_ok
end
end Go.Vm.YtdmlbojhfgimnaaGreatDoor
