/-
  Changes and blocks: what a text's change is, and whether a text is a block's, as the program and as the document's answer tell it.
-/
import Derived.Test.YtdmlbojhfgimnaaDoorL9E
set_option linter.unusedVariables false
set_option linter.unusedSimpArgs false
namespace Go.Vm.YtdmlbojhfgimnaaDoor
open Go.Proofs
noncomputable section

theorem cond_beq {α : Type} (a b : Nat) (x y : α) : cond (Nat.beq a b) x y = if a = b then x else y := by
  by_cases h : a = b
  · subst h; simp
  · have hb : Nat.beq a b = false := by
      cases hb : Nat.beq a b with
      | false => rfl
      | true => exact absurd (Nat.eq_of_beq_eq_true hb) h
    rw [hb, if_neg h]; rfl
noncomputable def errC (e : Int) : DV := .tup [.agg [.int .u8 0, .int .u64 0, .int .u8 0, .int .u64 0], .int .i64 e]
noncomputable def okC (w n op by_ : Int) : DV := .tup [.agg [.int .u8 w, .int .u64 n, .int .u8 op, .int .u64 by_], .int .i64 0]
noncomputable def changeD (s : List UInt8) : PD := .br (decide (s.length = 0)) (.v (errC 10)) (.br (decide (numOf (s.take 1) < 1)) (.v (errC 4)) (.br (decide (4 < numOf (s.take 1))) (.v (errC 4))
  (.br (decide (numOf (s.take 1) = 3))
    (.br (decide (s.length < 10)) (.v (errC 10)) (.br (decide (10 < s.length)) (.v (errC 4)) (.br (decide (1 ≤ numOf ((s.drop 1).take 1))) (.br (decide (numOf ((s.drop 1).take 1) ≤ 5)) (.v (okC (numOf (s.take 1)) 0 (numOf ((s.drop 1).take 1)) (numOf ((s.drop 2).take 8)))) (.v (errC 4))) (.v (errC 4)))))
    (.br (decide (numOf (s.take 1) = 4))
      (.br (decide (s.length < 9)) (.v (errC 10)) (.br (decide (9 < s.length)) (.v (errC 4)) (.v (okC (numOf (s.take 1)) (numOf ((s.drop 1).take 8)) 0 0))))
      (.br (decide (s.length < 5)) (.v (errC 10)) (.br (decide (5 < s.length)) (.v (errC 4)) (.br (decide (numOf ((s.drop 1).take 4) ≤ 2048)) (.v (okC (numOf (s.take 1)) (numOf ((s.drop 1).take 4)) 0 0)) (.v (errC 4))))))))) 
theorem nil_len (s : List UInt8) : (s = []) = (s.length = 0) := by simp

set_option maxRecDepth 10000 in
theorem tree75 (s : List UInt8) : treeOf laws5 tab [19, 20, 22, 23, 40, 52, 53, 54, 56] 4 200 40 [.str s] =
    cond (decide (s = [])) (some (.tup [.agg [.int .u8 0, .int .u64 0, .int .u8 0, .int .u64 0], .int .i64 10])) (cond (decide ((↑(List.length s) : Int) < (↑1 : Int))) (some (.tup [.agg [.int .u8 0, .int .u64 0, .int .u8 0, .int .u64 0], .int .i64 4])) (cond (decide ((↑(numOf (List.take 1 s)) : Int) = 1)) (cond (decide ((↑(List.length (List.drop 1 s)) : Int) < (↑4 : Int))) (some (.tup [.agg [.int .u8 0, .int .u64 0, .int .u8 0, .int .u64 0], .int .i64 10])) (cond (!decide (List.drop 4 (List.drop 1 s) = [])) (some (.tup [.agg [.int .u8 0, .int .u64 0, .int .u8 0, .int .u64 0], .int .i64 4])) (cond (decide ((↑(numOf (List.take 1 s)) : Int) = 1)) (cond (decide (2048 < IntKind.wrap .u64 (↑(numOf (List.take 4 (List.drop 1 s))) : Int))) (some (.tup [.agg [.int .u8 0, .int .u64 0, .int .u8 0, .int .u64 0], .int .i64 4])) (some (.tup [.agg [.int .u8 (↑(numOf (List.take 1 s)) : Int), .int .u64 (IntKind.wrap .u64 (↑(numOf (List.take 4 (List.drop 1 s))) : Int)), .int .u8 0, .int .u64 0], .int .i64 0]))) (cond (decide ((↑(numOf (List.take 1 s)) : Int) = 2)) (cond (decide (2048 < IntKind.wrap .u64 (↑(numOf (List.take 4 (List.drop 1 s))) : Int))) (some (.tup [.agg [.int .u8 0, .int .u64 0, .int .u8 0, .int .u64 0], .int .i64 4])) (some (.tup [.agg [.int .u8 (↑(numOf (List.take 1 s)) : Int), .int .u64 (IntKind.wrap .u64 (↑(numOf (List.take 4 (List.drop 1 s))) : Int)), .int .u8 0, .int .u64 0], .int .i64 0]))) (cond (decide ((↑(numOf (List.take 1 s)) : Int) = 4)) (some (.tup [.agg [.int .u8 (↑(numOf (List.take 1 s)) : Int), .int .u64 (IntKind.wrap .u64 (↑(numOf (List.take 4 (List.drop 1 s))) : Int)), .int .u8 0, .int .u64 0], .int .i64 0])) (cond (decide ((↑(numOf (List.take 1 s)) : Int) = 3)) (cond (decide (IntKind.wrap .u64 (↑(numOf (List.take 4 (List.drop 1 s))) : Int) = 0)) (some (.tup [.agg [.int .u8 0, .int .u64 0, .int .u8 0, .int .u64 0], .int .i64 4])) (some (.tup [.agg [.int .u8 0, .int .u64 0, .int .u8 0, .int .u64 0], .int .i64 4]))) (some (.tup [.agg [.int .u8 0, .int .u64 0, .int .u8 0, .int .u64 0], .int .i64 4])))))))) (cond (decide ((↑(numOf (List.take 1 s)) : Int) = 2)) (cond (decide ((↑(List.length (List.drop 1 s)) : Int) < (↑4 : Int))) (some (.tup [.agg [.int .u8 0, .int .u64 0, .int .u8 0, .int .u64 0], .int .i64 10])) (cond (!decide (List.drop 4 (List.drop 1 s) = [])) (some (.tup [.agg [.int .u8 0, .int .u64 0, .int .u8 0, .int .u64 0], .int .i64 4])) (cond (decide ((↑(numOf (List.take 1 s)) : Int) = 1)) (cond (decide (2048 < IntKind.wrap .u64 (↑(numOf (List.take 4 (List.drop 1 s))) : Int))) (some (.tup [.agg [.int .u8 0, .int .u64 0, .int .u8 0, .int .u64 0], .int .i64 4])) (some (.tup [.agg [.int .u8 (↑(numOf (List.take 1 s)) : Int), .int .u64 (IntKind.wrap .u64 (↑(numOf (List.take 4 (List.drop 1 s))) : Int)), .int .u8 0, .int .u64 0], .int .i64 0]))) (cond (decide ((↑(numOf (List.take 1 s)) : Int) = 2)) (cond (decide (2048 < IntKind.wrap .u64 (↑(numOf (List.take 4 (List.drop 1 s))) : Int))) (some (.tup [.agg [.int .u8 0, .int .u64 0, .int .u8 0, .int .u64 0], .int .i64 4])) (some (.tup [.agg [.int .u8 (↑(numOf (List.take 1 s)) : Int), .int .u64 (IntKind.wrap .u64 (↑(numOf (List.take 4 (List.drop 1 s))) : Int)), .int .u8 0, .int .u64 0], .int .i64 0]))) (cond (decide ((↑(numOf (List.take 1 s)) : Int) = 4)) (some (.tup [.agg [.int .u8 (↑(numOf (List.take 1 s)) : Int), .int .u64 (IntKind.wrap .u64 (↑(numOf (List.take 4 (List.drop 1 s))) : Int)), .int .u8 0, .int .u64 0], .int .i64 0])) (cond (decide ((↑(numOf (List.take 1 s)) : Int) = 3)) (cond (decide (IntKind.wrap .u64 (↑(numOf (List.take 4 (List.drop 1 s))) : Int) = 0)) (some (.tup [.agg [.int .u8 0, .int .u64 0, .int .u8 0, .int .u64 0], .int .i64 4])) (some (.tup [.agg [.int .u8 0, .int .u64 0, .int .u8 0, .int .u64 0], .int .i64 4]))) (some (.tup [.agg [.int .u8 0, .int .u64 0, .int .u8 0, .int .u64 0], .int .i64 4])))))))) (cond (decide ((↑(numOf (List.take 1 s)) : Int) = 4)) (cond (decide ((↑(List.length (List.drop 1 s)) : Int) < (↑8 : Int))) (some (.tup [.agg [.int .u8 0, .int .u64 0, .int .u8 0, .int .u64 0], .int .i64 10])) (cond (!decide (List.drop 8 (List.drop 1 s) = [])) (some (.tup [.agg [.int .u8 0, .int .u64 0, .int .u8 0, .int .u64 0], .int .i64 4])) (cond (decide ((↑(numOf (List.take 1 s)) : Int) = 1)) (cond (decide (2048 < (↑(numOf (List.take 8 (List.drop 1 s))) : Int))) (some (.tup [.agg [.int .u8 0, .int .u64 0, .int .u8 0, .int .u64 0], .int .i64 4])) (some (.tup [.agg [.int .u8 (↑(numOf (List.take 1 s)) : Int), .int .u64 (↑(numOf (List.take 8 (List.drop 1 s))) : Int), .int .u8 0, .int .u64 0], .int .i64 0]))) (cond (decide ((↑(numOf (List.take 1 s)) : Int) = 2)) (cond (decide (2048 < (↑(numOf (List.take 8 (List.drop 1 s))) : Int))) (some (.tup [.agg [.int .u8 0, .int .u64 0, .int .u8 0, .int .u64 0], .int .i64 4])) (some (.tup [.agg [.int .u8 (↑(numOf (List.take 1 s)) : Int), .int .u64 (↑(numOf (List.take 8 (List.drop 1 s))) : Int), .int .u8 0, .int .u64 0], .int .i64 0]))) (cond (decide ((↑(numOf (List.take 1 s)) : Int) = 4)) (some (.tup [.agg [.int .u8 (↑(numOf (List.take 1 s)) : Int), .int .u64 (↑(numOf (List.take 8 (List.drop 1 s))) : Int), .int .u8 0, .int .u64 0], .int .i64 0])) (cond (decide ((↑(numOf (List.take 1 s)) : Int) = 3)) (cond (decide ((↑(numOf (List.take 8 (List.drop 1 s))) : Int) = 0)) (some (.tup [.agg [.int .u8 0, .int .u64 0, .int .u8 0, .int .u64 0], .int .i64 4])) (some (.tup [.agg [.int .u8 0, .int .u64 0, .int .u8 0, .int .u64 0], .int .i64 4]))) (some (.tup [.agg [.int .u8 0, .int .u64 0, .int .u8 0, .int .u64 0], .int .i64 4])))))))) (cond (decide ((↑(numOf (List.take 1 s)) : Int) = 3)) (cond (decide ((↑(List.length (List.drop 1 s)) : Int) < (↑1 : Int))) (some (.tup [.agg [.int .u8 0, .int .u64 0, .int .u8 0, .int .u64 0], .int .i64 10])) (cond (decide ((↑(List.length (List.drop 1 (List.drop 1 s))) : Int) < (↑8 : Int))) (some (.tup [.agg [.int .u8 0, .int .u64 0, .int .u8 0, .int .u64 0], .int .i64 10])) (cond (!decide (List.drop 8 (List.drop 1 (List.drop 1 s)) = [])) (some (.tup [.agg [.int .u8 0, .int .u64 0, .int .u8 0, .int .u64 0], .int .i64 4])) (cond (decide ((↑(numOf (List.take 1 s)) : Int) = 1)) (cond (!(decide ((↑(numOf (List.take 1 (List.drop 1 s))) : Int) = 0) && (decide ((↑(numOf (List.take 8 (List.drop 1 (List.drop 1 s)))) : Int) = 0) && true)) != false) (some (.tup [.agg [.int .u8 0, .int .u64 0, .int .u8 0, .int .u64 0], .int .i64 4])) (some (.tup [.agg [.int .u8 (↑(numOf (List.take 1 s)) : Int), .int .u64 0, .int .u8 (↑(numOf (List.take 1 (List.drop 1 s))) : Int), .int .u64 (↑(numOf (List.take 8 (List.drop 1 (List.drop 1 s)))) : Int)], .int .i64 0]))) (cond (decide ((↑(numOf (List.take 1 s)) : Int) = 2)) (cond (!(decide ((↑(numOf (List.take 1 (List.drop 1 s))) : Int) = 0) && (decide ((↑(numOf (List.take 8 (List.drop 1 (List.drop 1 s)))) : Int) = 0) && true)) != false) (some (.tup [.agg [.int .u8 0, .int .u64 0, .int .u8 0, .int .u64 0], .int .i64 4])) (some (.tup [.agg [.int .u8 (↑(numOf (List.take 1 s)) : Int), .int .u64 0, .int .u8 (↑(numOf (List.take 1 (List.drop 1 s))) : Int), .int .u64 (↑(numOf (List.take 8 (List.drop 1 (List.drop 1 s)))) : Int)], .int .i64 0]))) (cond (decide ((↑(numOf (List.take 1 s)) : Int) = 4)) (cond (!(decide ((↑(numOf (List.take 1 (List.drop 1 s))) : Int) = 0) && (decide ((↑(numOf (List.take 8 (List.drop 1 (List.drop 1 s)))) : Int) = 0) && true)) != false) (some (.tup [.agg [.int .u8 0, .int .u64 0, .int .u8 0, .int .u64 0], .int .i64 4])) (some (.tup [.agg [.int .u8 (↑(numOf (List.take 1 s)) : Int), .int .u64 0, .int .u8 (↑(numOf (List.take 1 (List.drop 1 s))) : Int), .int .u64 (↑(numOf (List.take 8 (List.drop 1 (List.drop 1 s)))) : Int)], .int .i64 0]))) (cond (decide ((↑(numOf (List.take 1 s)) : Int) = 3)) (cond (decide (1 ≤ (↑(numOf (List.take 1 (List.drop 1 s))) : Int))) (cond (!decide ((↑(numOf (List.take 1 (List.drop 1 s))) : Int) ≤ 5)) (some (.tup [.agg [.int .u8 0, .int .u64 0, .int .u8 0, .int .u64 0], .int .i64 4])) (some (.tup [.agg [.int .u8 (↑(numOf (List.take 1 s)) : Int), .int .u64 0, .int .u8 (↑(numOf (List.take 1 (List.drop 1 s))) : Int), .int .u64 (↑(numOf (List.take 8 (List.drop 1 (List.drop 1 s)))) : Int)], .int .i64 0]))) (some (.tup [.agg [.int .u8 0, .int .u64 0, .int .u8 0, .int .u64 0], .int .i64 4]))) (some (.tup [.agg [.int .u8 0, .int .u64 0, .int .u8 0, .int .u64 0], .int .i64 4]))))))))) (some (.tup [.agg [.int .u8 0, .int .u64 0, .int .u8 0, .int .u64 0], .int .i64 4]))))))) := by kernel_rfl

theorem law75 (s : List UInt8) : treeOf laws5 tab [19, 20, 22, 23, 40, 52, 53, 54, 56] 4 200 40 [.str s] = some (changeD s).val := by
  rw [tree75]
  unfold changeD errC okC
  have b1 := num_take1 s
  have b2 := num_take1 (s.drop 1)
  have b4 := num_take4 (s.drop 1)
  simp only [nil_len, pd_br, pd_v, List.drop_drop, Nat.reduceAdd, List.length_drop, cond_and, cond_or, cond_nn, cond_dec, cond_ndec, List.drop_eq_nil_iff, if_true, if_false, cond_true, cond_false]
  rw [wrap_u64 (z := (numOf ((s.drop 1).take 4) : Int)) (by omega) (by omega)]
  repeat' (first | with_reducible rfl | (refine ite_l (fun _ => ?_) (fun _ => ?_)) | (refine ite_r (fun _ => ?_) (fun _ => ?_)) | (exfalso; omega))

set_option maxRecDepth 10000 in
set_option maxHeartbeats 4000000 in
theorem wf_change (s : List UInt8) : wf 0 (toV (changeD s).val) := by
  unfold changeD
  simp only [PD.val_br, PD.val_v, cond_dec]
  repeat' first | exact ⟨⟨trivial, trivial, trivial, trivial, trivial⟩, trivial, trivial⟩ | split
noncomputable def gchange : List DV → Option PD := fun l => match l with
  | [.str s] => some (changeD s)
  | _ => none
theorem g75_ok : ∀ l d, gchange l = some d → d.ok = true → PlainCall Tryd.prog [] 40 (toVs l) (toV d.val) ∧ ofVs (toVs l) = some l := by
  intro l d h ho
  unfold gchange at h
  split at h
  · rename_i s
    cases h
    exact ⟨plain_by _ tab_ok globals4 (by kernel_rfl) (law75 s) ⟨trivial, trivial⟩ (wf_change s), dec_s s⟩
  · cases h
/-- may a block be? -/
noncomputable def blockOk (s : List UInt8) : Bool := decide (0 < s.length) && (decide (s.length ≤ 64) && decide ((s.getD (s.length - 1) 0).toNat ≠ 0))
noncomputable def blockD (s : List UInt8) : PD := .br (blockOk s) (.v (.int .i64 0)) (.v (.int .i64 4))
set_option maxRecDepth 10000 in
theorem tree93 (s : List UInt8) : treeOf laws5 tab [42] 4 200 42 [.str s] =
    cond (decide (s = [])) (some (.int .i64 4)) (cond (decide (64 < (↑(List.length s) : Int))) (some (.int .i64 4)) (cond (decide (0 ≤ IntKind.wrap .i64 ((↑(List.length s) : Int) - 1)) && decide (IntKind.wrap .i64 ((↑(List.length s) : Int) - 1) < (↑(List.length s) : Int))) (cond (decide ((↑(UInt8.toNat (List.getD s (Int.toNat (IntKind.wrap .i64 ((↑(List.length s) : Int) - 1))) 0)) : Int) = 0)) (some (.int .i64 4)) (some (.int .i64 0))) none)) := by kernel_rfl

theorem law93 (s : List UInt8) : treeOf laws5 tab [42] 4 200 42 [.str s] = some (blockD s).val := by
  rw [tree93]
  unfold blockD blockOk
  simp only [nil_len, pd_br, pd_v, cond_and, cond_dec]
  by_cases h : 64 < s.length
  · repeat' (first | with_reducible rfl | (refine ite_l (fun _ => ?_) (fun _ => ?_)) | (refine ite_r (fun _ => ?_) (fun _ => ?_)) | (exfalso; omega))
  · rw [wrap_i64 (by omega) (by omega), show ((s.length : Int) - 1).toNat = s.length - 1 by omega]
    repeat' (first | with_reducible rfl | (refine ite_l (fun _ => ?_) (fun _ => ?_)) | (refine ite_r (fun _ => ?_) (fun _ => ?_)) | (exfalso; omega))
set_option maxRecDepth 10000 in
theorem wf_block (s : List UInt8) : wf 0 (toV (blockD s).val) := by
  unfold blockD
  simp only [PD.val]
  split <;> trivial
noncomputable def gblock : List DV → Option PD := fun l => match l with
  | [.str s] => some (blockD s)
  | _ => none
theorem g93_ok : ∀ l d, gblock l = some d → d.ok = true → PlainCall Tryd.prog [] 42 (toVs l) (toV d.val) ∧ ofVs (toVs l) = some l := by
  intro l d h ho
  unfold gblock at h
  split at h
  · rename_i s
    cases h
    exact ⟨plain_by _ tab_ok globals4 (by kernel_rfl) (law93 s) ⟨trivial, trivial⟩ (wf_block s), dec_s s⟩
  · cases h
noncomputable def laws6 : Laws Tryd.prog := ((laws5.add 40 gchange g75_ok).add 42 gblock g93_ok)
end
end Go.Vm.YtdmlbojhfgimnaaDoor
