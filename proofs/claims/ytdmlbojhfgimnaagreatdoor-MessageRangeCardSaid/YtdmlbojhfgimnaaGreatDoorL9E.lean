/-
  Metas: what a text's meta is, as the program and as the document's answer tell it.
-/
import Derived.Test.YtdmlbojhfgimnaaGreatDoorL9D
set_option linter.unusedVariables false
set_option linter.unusedSimpArgs false
namespace Go.Vm.YtdmlbojhfgimnaaGreatDoor
open Go.Proofs
noncomputable section

theorem cond_dec {α : Type} {p : Prop} [Decidable p] (a b : α) : cond (decide p) a b = if p then a else b := by by_cases h : p <;> simp [h]
theorem cond_ndec {α : Type} {p : Prop} [Decidable p] (a b : α) : cond (!decide p) a b = if p then b else a := by by_cases h : p <;> simp [h]
theorem cond_and {α : Type} (x y : Bool) (a b : α) : cond (x && y) a b = cond x (cond y a b) b := by cases x <;> rfl
theorem cond_or {α : Type} (x y : Bool) (a b : α) : cond (x || y) a b = cond x a (cond y a b) := by cases x <;> rfl
theorem cond_nn {α : Type} (x : Bool) (a b : α) : cond (!x) a b = cond x b a := by cases x <;> rfl
theorem ite_l {α : Type} {c : Prop} [Decidable c] {a b r : α} (ht : c → a = r) (hf : ¬ c → b = r) : (if c then a else b) = r := by
  by_cases h : c
  · rw [if_pos h]; exact ht h
  · rw [if_neg h]; exact hf h
theorem ite_r {α : Type} {c : Prop} [Decidable c] {a b r : α} (ht : c → r = a) (hf : ¬ c → r = b) : r = (if c then a else b) := by
  by_cases h : c
  · rw [if_pos h]; exact ht h
  · rw [if_neg h]; exact hf h
theorem pd_v {x : DV} : some (PD.v x).val = some x := rfl
theorem pd_br {b : Bool} {t f : PD} : some (PD.br b t f).val = cond b (some t.val) (some f.val) := by cases b <;> rfl
theorem num_take (l : List UInt8) (n : Nat) : numOf (l.take n) < 256 ^ n := by
  have := numOf_lt (l.take n)
  exact Nat.lt_of_lt_of_le this (Nat.pow_le_pow_right (by omega) (by simp; omega))
theorem num_take1 (l : List UInt8) : numOf (l.take 1) < 256 := num_take l 1
theorem num_take2 (l : List UInt8) : numOf (l.take 2) < 65536 := num_take l 2
theorem num_take4 (l : List UInt8) : numOf (l.take 4) < 4294967296 := num_take l 4
theorem byte_at (s : List UInt8) (i : Nat) (h : i < s.length) : (s.getD i 0).toNat = numOf ((s.drop i).take 1) := by
  rw [List.drop_eq_getElem_cons h, List.take_succ_cons, List.take_zero, List.getD_eq_getElem?_getD, List.getElem?_eq_getElem h]
  simp [numOf]

noncomputable def errM (e : Int) : DV := .tup [.agg [.int .u8 0, .int .u32 0, .int .u64 0, .int .u64 0], .int .i64 e]
noncomputable def okM (k z m t : Nat) : DV := .tup [.agg [.int .u8 (k : Int), .int .u32 (z : Int), .int .u64 (m : Int), .int .u64 (t : Int)], .int .i64 0]
/-- may a meta be? -/
noncomputable def metaMay (k z m : Nat) : Bool := decide (k = 1 ∧ z ≤ 2048 ∨ k = 2 ∧ z = 0) && (!nanN m || decide (m = 9221120237041090561))
/-- is a text a meta's? -/
noncomputable def metaOk (s : List UInt8) : Bool := metaMay (numOf (s.take 1)) (numOf ((s.drop 1).take 4)) (numOf ((s.drop 5).take 8))
noncomputable def metaD (s : List UInt8) : PD := .br (decide (s.length < 21)) (.v (errM 10)) (.br (decide (21 < s.length)) (.v (errM 4))
  (.br (metaOk s) (.v (okM (numOf (s.take 1)) (numOf ((s.drop 1).take 4)) (numOf ((s.drop 5).take 8)) (numOf ((s.drop 13).take 8)))) (.v (errM 4))))

set_option maxRecDepth 10000 in
theorem tree74 (s : List UInt8) : treeOf laws4 tab [38, 39, 41, 42, 74, 103, 104, 105, 106] 4 200 74 [.str s] =
    cond (decide ((↑(List.length s) : Int) < (↑1 : Int))) (some (.tup [.agg [.int .u8 0, .int .u32 0, .int .u64 0, .int .u64 0], .int .i64 10])) (cond (decide ((↑(List.length (List.drop 1 s)) : Int) < (↑4 : Int))) (some (.tup [.agg [.int .u8 0, .int .u32 0, .int .u64 0, .int .u64 0], .int .i64 10])) (cond (decide ((↑(List.length (List.drop 4 (List.drop 1 s))) : Int) < (↑8 : Int))) (some (.tup [.agg [.int .u8 0, .int .u32 0, .int .u64 0, .int .u64 0], .int .i64 10])) (cond (decide ((↑(List.length (List.drop 8 (List.drop 4 (List.drop 1 s)))) : Int) < (↑8 : Int))) (some (.tup [.agg [.int .u8 0, .int .u32 0, .int .u64 0, .int .u64 0], .int .i64 10])) (cond (!decide (List.drop 8 (List.drop 8 (List.drop 4 (List.drop 1 s))) = [])) (some (.tup [.agg [.int .u8 0, .int .u32 0, .int .u64 0, .int .u64 0], .int .i64 4])) (cond (!decide ((↑(numOf (List.take 1 s)) : Int) = 1)) (cond (!decide ((↑(numOf (List.take 1 s)) : Int) = 2)) (some (.tup [.agg [.int .u8 0, .int .u32 0, .int .u64 0, .int .u64 0], .int .i64 4])) (cond (decide (2048 < (↑(numOf (List.take 4 (List.drop 1 s))) : Int))) (some (.tup [.agg [.int .u8 0, .int .u32 0, .int .u64 0, .int .u64 0], .int .i64 4])) (cond (decide ((↑(numOf (List.take 1 s)) : Int) = 2)) (cond (decide (0 < (↑(numOf (List.take 4 (List.drop 1 s))) : Int))) (some (.tup [.agg [.int .u8 0, .int .u32 0, .int .u64 0, .int .u64 0], .int .i64 4])) (cond (nanN (numOf (List.take 8 (List.drop 4 (List.drop 1 s))))) (cond (!decide (9221120237041090561 = (↑(numOf (List.take 8 (List.drop 4 (List.drop 1 s)))) : Int))) (some (.tup [.agg [.int .u8 0, .int .u32 0, .int .u64 0, .int .u64 0], .int .i64 4])) (some (.tup [.agg [.int .u8 (↑(numOf (List.take 1 s)) : Int), .int .u32 (↑(numOf (List.take 4 (List.drop 1 s))) : Int), .int .u64 (↑(numOf (List.take 8 (List.drop 4 (List.drop 1 s)))) : Int), .int .u64 (↑(numOf (List.take 8 (List.drop 8 (List.drop 4 (List.drop 1 s))))) : Int)], .int .i64 0]))) (cond (!decide ((↑(numOf (List.take 8 (List.drop 4 (List.drop 1 s)))) : Int) = (↑(numOf (List.take 8 (List.drop 4 (List.drop 1 s)))) : Int))) (some (.tup [.agg [.int .u8 0, .int .u32 0, .int .u64 0, .int .u64 0], .int .i64 4])) (some (.tup [.agg [.int .u8 (↑(numOf (List.take 1 s)) : Int), .int .u32 (↑(numOf (List.take 4 (List.drop 1 s))) : Int), .int .u64 (↑(numOf (List.take 8 (List.drop 4 (List.drop 1 s)))) : Int), .int .u64 (↑(numOf (List.take 8 (List.drop 8 (List.drop 4 (List.drop 1 s))))) : Int)], .int .i64 0]))))) (cond (nanN (numOf (List.take 8 (List.drop 4 (List.drop 1 s))))) (cond (!decide (9221120237041090561 = (↑(numOf (List.take 8 (List.drop 4 (List.drop 1 s)))) : Int))) (some (.tup [.agg [.int .u8 0, .int .u32 0, .int .u64 0, .int .u64 0], .int .i64 4])) (some (.tup [.agg [.int .u8 (↑(numOf (List.take 1 s)) : Int), .int .u32 (↑(numOf (List.take 4 (List.drop 1 s))) : Int), .int .u64 (↑(numOf (List.take 8 (List.drop 4 (List.drop 1 s)))) : Int), .int .u64 (↑(numOf (List.take 8 (List.drop 8 (List.drop 4 (List.drop 1 s))))) : Int)], .int .i64 0]))) (cond (!decide ((↑(numOf (List.take 8 (List.drop 4 (List.drop 1 s)))) : Int) = (↑(numOf (List.take 8 (List.drop 4 (List.drop 1 s)))) : Int))) (some (.tup [.agg [.int .u8 0, .int .u32 0, .int .u64 0, .int .u64 0], .int .i64 4])) (some (.tup [.agg [.int .u8 (↑(numOf (List.take 1 s)) : Int), .int .u32 (↑(numOf (List.take 4 (List.drop 1 s))) : Int), .int .u64 (↑(numOf (List.take 8 (List.drop 4 (List.drop 1 s)))) : Int), .int .u64 (↑(numOf (List.take 8 (List.drop 8 (List.drop 4 (List.drop 1 s))))) : Int)], .int .i64 0]))))))) (cond (decide (2048 < (↑(numOf (List.take 4 (List.drop 1 s))) : Int))) (some (.tup [.agg [.int .u8 0, .int .u32 0, .int .u64 0, .int .u64 0], .int .i64 4])) (cond (decide ((↑(numOf (List.take 1 s)) : Int) = 2)) (cond (decide (0 < (↑(numOf (List.take 4 (List.drop 1 s))) : Int))) (some (.tup [.agg [.int .u8 0, .int .u32 0, .int .u64 0, .int .u64 0], .int .i64 4])) (cond (nanN (numOf (List.take 8 (List.drop 4 (List.drop 1 s))))) (cond (!decide (9221120237041090561 = (↑(numOf (List.take 8 (List.drop 4 (List.drop 1 s)))) : Int))) (some (.tup [.agg [.int .u8 0, .int .u32 0, .int .u64 0, .int .u64 0], .int .i64 4])) (some (.tup [.agg [.int .u8 (↑(numOf (List.take 1 s)) : Int), .int .u32 (↑(numOf (List.take 4 (List.drop 1 s))) : Int), .int .u64 (↑(numOf (List.take 8 (List.drop 4 (List.drop 1 s)))) : Int), .int .u64 (↑(numOf (List.take 8 (List.drop 8 (List.drop 4 (List.drop 1 s))))) : Int)], .int .i64 0]))) (cond (!decide ((↑(numOf (List.take 8 (List.drop 4 (List.drop 1 s)))) : Int) = (↑(numOf (List.take 8 (List.drop 4 (List.drop 1 s)))) : Int))) (some (.tup [.agg [.int .u8 0, .int .u32 0, .int .u64 0, .int .u64 0], .int .i64 4])) (some (.tup [.agg [.int .u8 (↑(numOf (List.take 1 s)) : Int), .int .u32 (↑(numOf (List.take 4 (List.drop 1 s))) : Int), .int .u64 (↑(numOf (List.take 8 (List.drop 4 (List.drop 1 s)))) : Int), .int .u64 (↑(numOf (List.take 8 (List.drop 8 (List.drop 4 (List.drop 1 s))))) : Int)], .int .i64 0]))))) (cond (nanN (numOf (List.take 8 (List.drop 4 (List.drop 1 s))))) (cond (!decide (9221120237041090561 = (↑(numOf (List.take 8 (List.drop 4 (List.drop 1 s)))) : Int))) (some (.tup [.agg [.int .u8 0, .int .u32 0, .int .u64 0, .int .u64 0], .int .i64 4])) (some (.tup [.agg [.int .u8 (↑(numOf (List.take 1 s)) : Int), .int .u32 (↑(numOf (List.take 4 (List.drop 1 s))) : Int), .int .u64 (↑(numOf (List.take 8 (List.drop 4 (List.drop 1 s)))) : Int), .int .u64 (↑(numOf (List.take 8 (List.drop 8 (List.drop 4 (List.drop 1 s))))) : Int)], .int .i64 0]))) (cond (!decide ((↑(numOf (List.take 8 (List.drop 4 (List.drop 1 s)))) : Int) = (↑(numOf (List.take 8 (List.drop 4 (List.drop 1 s)))) : Int))) (some (.tup [.agg [.int .u8 0, .int .u32 0, .int .u64 0, .int .u64 0], .int .i64 4])) (some (.tup [.agg [.int .u8 (↑(numOf (List.take 1 s)) : Int), .int .u32 (↑(numOf (List.take 4 (List.drop 1 s))) : Int), .int .u64 (↑(numOf (List.take 8 (List.drop 4 (List.drop 1 s)))) : Int), .int .u64 (↑(numOf (List.take 8 (List.drop 8 (List.drop 4 (List.drop 1 s))))) : Int)], .int .i64 0]))))))))))) := by kernel_rfl

theorem law74 (s : List UInt8) : treeOf laws4 tab [38, 39, 41, 42, 74, 103, 104, 105, 106] 4 200 74 [.str s] = some (metaD s).val := by
  rw [tree74]
  unfold metaD metaOk metaMay errM okM
  simp only [pd_br, pd_v, List.drop_drop, Nat.reduceAdd, List.length_drop, cond_and, cond_or, cond_nn, cond_dec, cond_ndec, List.drop_eq_nil_iff, if_true, if_false]
  cases nanN (numOf ((s.drop 5).take 8)) <;> simp only [cond_true, cond_false]
  all_goals repeat' (first | with_reducible rfl | (refine ite_l (fun _ => ?_) (fun _ => ?_)) | (refine ite_r (fun _ => ?_) (fun _ => ?_)) | (exfalso; omega))

set_option maxRecDepth 10000 in
theorem tree48 (s : List UInt8) : treeOf laws4 tab [48, 82] 4 200 48 [.str s] =
    cond (decide ((↑(List.length s) : Int) < 21)) (some (.tup [.agg [.int .u8 0, .int .u32 0, .int .u64 0, .int .u64 0], .int .i64 10])) (cond (decide (0 ≤ 0) && decide (0 < (↑(List.length s) : Int))) (cond (decide (5 ≤ List.length s)) (cond (decide (13 ≤ List.length s)) (cond (decide (21 ≤ List.length s)) (cond (decide (21 < (↑(List.length s) : Int))) (some (.tup [.agg [.int .u8 0, .int .u32 0, .int .u64 0, .int .u64 0], .int .i64 4])) (cond (decide ((↑(UInt8.toNat (List.getD s (Int.toNat 0) 0)) : Int) = 2)) (cond (decide (IntKind.wrap .u32 (↑(numOf (List.take (5 - 1) (List.drop 1 s))) : Int) = 0)) (cond (nanN (numOf (List.take (13 - 5) (List.drop 5 s)))) (cond (!decide (9221120237041090561 = (↑(numOf (List.take (13 - 5) (List.drop 5 s))) : Int))) (some (.tup [.agg [.int .u8 0, .int .u32 0, .int .u64 0, .int .u64 0], .int .i64 4])) (some (.tup [.agg [.int .u8 (↑(UInt8.toNat (List.getD s (Int.toNat 0) 0)) : Int), .int .u32 (IntKind.wrap .u32 (↑(numOf (List.take (5 - 1) (List.drop 1 s))) : Int)), .int .u64 (↑(numOf (List.take (13 - 5) (List.drop 5 s))) : Int), .int .u64 (↑(numOf (List.take (21 - 13) (List.drop 13 s))) : Int)], .int .i64 0]))) (cond (!decide ((↑(numOf (List.take (13 - 5) (List.drop 5 s))) : Int) = (↑(numOf (List.take (13 - 5) (List.drop 5 s))) : Int))) (some (.tup [.agg [.int .u8 0, .int .u32 0, .int .u64 0, .int .u64 0], .int .i64 4])) (some (.tup [.agg [.int .u8 (↑(UInt8.toNat (List.getD s (Int.toNat 0) 0)) : Int), .int .u32 (IntKind.wrap .u32 (↑(numOf (List.take (5 - 1) (List.drop 1 s))) : Int)), .int .u64 (↑(numOf (List.take (13 - 5) (List.drop 5 s))) : Int), .int .u64 (↑(numOf (List.take (21 - 13) (List.drop 13 s))) : Int)], .int .i64 0])))) (some (.tup [.agg [.int .u8 0, .int .u32 0, .int .u64 0, .int .u64 0], .int .i64 4]))) (cond (decide ((↑(UInt8.toNat (List.getD s (Int.toNat 0) 0)) : Int) = 1)) (cond (decide (IntKind.wrap .u32 (↑(numOf (List.take (5 - 1) (List.drop 1 s))) : Int) ≤ 2048)) (cond (nanN (numOf (List.take (13 - 5) (List.drop 5 s)))) (cond (!decide (9221120237041090561 = (↑(numOf (List.take (13 - 5) (List.drop 5 s))) : Int))) (some (.tup [.agg [.int .u8 0, .int .u32 0, .int .u64 0, .int .u64 0], .int .i64 4])) (some (.tup [.agg [.int .u8 (↑(UInt8.toNat (List.getD s (Int.toNat 0) 0)) : Int), .int .u32 (IntKind.wrap .u32 (↑(numOf (List.take (5 - 1) (List.drop 1 s))) : Int)), .int .u64 (↑(numOf (List.take (13 - 5) (List.drop 5 s))) : Int), .int .u64 (↑(numOf (List.take (21 - 13) (List.drop 13 s))) : Int)], .int .i64 0]))) (cond (!decide ((↑(numOf (List.take (13 - 5) (List.drop 5 s))) : Int) = (↑(numOf (List.take (13 - 5) (List.drop 5 s))) : Int))) (some (.tup [.agg [.int .u8 0, .int .u32 0, .int .u64 0, .int .u64 0], .int .i64 4])) (some (.tup [.agg [.int .u8 (↑(UInt8.toNat (List.getD s (Int.toNat 0) 0)) : Int), .int .u32 (IntKind.wrap .u32 (↑(numOf (List.take (5 - 1) (List.drop 1 s))) : Int)), .int .u64 (↑(numOf (List.take (13 - 5) (List.drop 5 s))) : Int), .int .u64 (↑(numOf (List.take (21 - 13) (List.drop 13 s))) : Int)], .int .i64 0])))) (some (.tup [.agg [.int .u8 0, .int .u32 0, .int .u64 0, .int .u64 0], .int .i64 4]))) (some (.tup [.agg [.int .u8 0, .int .u32 0, .int .u64 0, .int .u64 0], .int .i64 4]))))) none) none) none) none) := by kernel_rfl

theorem law48 (s : List UInt8) : treeOf laws4 tab [48, 82] 4 200 48 [.str s] = some (metaD s).val := by
  rw [tree48]
  unfold metaD metaOk metaMay errM okM
  have b4 := num_take4 (s.drop 1)
  have e0 : ((0:Int).toNat) = 0 := rfl
  simp only [pd_br, pd_v, Nat.reduceSub, cond_and, cond_or, cond_nn, cond_dec, cond_ndec, e0, if_true, if_false]
  rw [wrap_u32 (z := (numOf ((s.drop 1).take 4) : Int)) (by omega) (by omega)]
  by_cases hl : 0 < s.length
  · have hb := byte_at s 0 hl
    rw [List.drop_zero] at hb
    rw [hb]
    cases nanN (numOf ((s.drop 5).take 8)) <;> simp only [cond_true, cond_false]
    all_goals repeat' (first | with_reducible rfl | (refine ite_l (fun _ => ?_) (fun _ => ?_)) | (refine ite_r (fun _ => ?_) (fun _ => ?_)) | (exfalso; omega))
  · cases nanN (numOf ((s.drop 5).take 8)) <;> simp only [cond_true, cond_false]
    all_goals repeat' (first | with_reducible rfl | (refine ite_l (fun _ => ?_) (fun _ => ?_)) | (refine ite_r (fun _ => ?_) (fun _ => ?_)) | (exfalso; omega))

theorem wf_meta (s : List UInt8) : wf 0 (toV (metaD s).val) := by
  unfold metaD
  simp only [PD.val_br, PD.val_v, cond_and, cond_or, cond_nn, cond_dec]
  repeat' first | exact ⟨⟨trivial, trivial, trivial, trivial, trivial⟩, trivial, trivial⟩ | split | (cases metaOk s)
theorem dec_s (s : List UInt8) : ofVs (toVs [.str s]) = some [.str s] := by
  show (match ofV (sv s), ofVs [] with | some x, some l => some (x :: l) | _, _ => .none) = _
  rw [ofV_sv]; rfl
noncomputable def g74 : List DV → Option PD := fun l => match l with
  | [.str s] => some (metaD s)
  | _ => none
theorem g74_ok : ∀ l d, g74 l = some d → d.ok = true → PlainCall Tryz.prog [] 74 (toVs l) (toV d.val) ∧ ofVs (toVs l) = some l := by
  intro l d h ho
  unfold g74 at h
  split at h
  · rename_i s
    cases h
    exact ⟨plain_by _ tab_ok globals4 (by kernel_rfl) (law74 s) ⟨trivial, trivial⟩ (wf_meta s), dec_s s⟩
  · cases h
theorem g48_ok : ∀ l d, g74 l = some d → d.ok = true → PlainCall Tryz.prog [] 48 (toVs l) (toV d.val) ∧ ofVs (toVs l) = some l := by
  intro l d h ho
  unfold g74 at h
  split at h
  · rename_i s
    cases h
    exact ⟨plain_by _ tab_ok globals4 (by kernel_rfl) (law48 s) ⟨trivial, trivial⟩ (wf_meta s), dec_s s⟩
  · cases h
noncomputable def laws5 : Laws Tryz.prog := (laws4.add 74 g74 g74_ok).add 48 g74 g48_ok
end
end Go.Vm.YtdmlbojhfgimnaaGreatDoor
