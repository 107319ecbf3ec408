/-
  The reader of the document's answer: its parts, by trees.
-/
import Derived.Test.YtdmlbojhfgimnaaGreatDoorL9O
set_option linter.unusedVariables false
set_option linter.unusedSimpArgs false
namespace Go.Vm.YtdmlbojhfgimnaaGreatDoor
open Go.Proofs
noncomputable section

noncomputable def rd3 (s : List UInt8) (a : Nat) (b : Bool) : List DV := [.str s, .int .i64 (.ofNat a), .bool b]
/-- what Fixed makes of a reader -/
noncomputable def fixed3 (s : List UInt8) (a : Nat) (b : Bool) (n : Int) : OD := .need (decide (a ≤ s.length) && decide (s.length ≤ 4000000000)) (.br b (.v (.str []) (rd3 s a b)) (.br (decide (n ≤ 0)) (.v (.str []) (rd3 s a b))
  (.br (decide ((s.length : Int) - a < n)) (.v (.str []) (rd3 s a true)) (.v (.str ((s.drop a).take n.toNat)) (rd3 s (a + n.toNat) b)))))
theorem tree71 (s : List UInt8) (a : Nat) (b : Bool) (n : Int) : treeObj laws13 tab [71] 4 200 71 70 [.str s, .int .i64 (.ofNat a), .bool b] [.int .i64 n] =
    cond b (some (DV.tup [DV.str [], DV.agg [DV.str s, DV.int .i64 (Int.ofNat a), DV.bool b]])) (cond (decide (n ≤ 0)) (some (DV.tup [DV.str [], DV.agg [DV.str s, DV.int .i64 (Int.ofNat a), DV.bool b]]))
      (cond (decide (IntKind.wrap .i64 ((s.length : Int) - Int.ofNat a) < n)) (some (DV.tup [DV.str [], DV.agg [DV.str s, DV.int .i64 (Int.ofNat a), DV.bool true]]))
        (cond (decide (0 ≤ IntKind.wrap .i64 (IntKind.wrap .i64 (Int.ofNat a + n) - n)) && (decide (IntKind.wrap .i64 (IntKind.wrap .i64 (Int.ofNat a + n) - n) ≤ IntKind.wrap .i64 (Int.ofNat a + n)) && decide (IntKind.wrap .i64 (Int.ofNat a + n) ≤ (s.length : Int))))
          (some (DV.tup [DV.str (List.drop (Int.toNat (IntKind.wrap .i64 (IntKind.wrap .i64 (Int.ofNat a + n) - n))) (List.take (Int.toNat (IntKind.wrap .i64 (Int.ofNat a + n))) s)), DV.agg [DV.str s, DV.int .i64 (IntKind.wrap .i64 (Int.ofNat a + n)), DV.bool b]])) none))) := by kernel_rfl
theorem law71 (s : List UInt8) (a : Nat) (b : Bool) (n : Int) (ha : a ≤ s.length) (hs : s.length ≤ 4000000000) :
    treeObj laws13 tab [71] 4 200 71 70 [.str s, .int .i64 (.ofNat a), .bool b] [.int .i64 n] = some (.tup [(fixed3 s a b n).val.1, .agg (fixed3 s a b n).val.2]) := by
  rw [tree71]
  unfold fixed3 rd3
  simp only [OD.val]
  cases b with
  | true => rfl
  | false =>
    cases h2 : decide (n ≤ 0) with
    | true => rfl
    | false =>
      have h2 := of_decide_eq_false h2
      have e0 : (Int.ofNat a : Int) = (a : Int) := rfl
      rw [e0, wrap_i64 (z := (s.length : Int) - a) (by omega) (by omega)]
      cases h3 : decide ((s.length : Int) - a < n) with
      | true => rfl
      | false =>
        have h3 := of_decide_eq_false h3
        obtain ⟨m, rfl⟩ : ∃ m : Nat, n = m := ⟨n.toNat, by omega⟩
        rw [wrap_i64 (z := (a : Int) + m) (by omega) (by omega), show (a : Int) + m - m = a by omega, wrap_i64 (z := (a : Int)) (by omega) (by omega)]
        rw [show (decide ((0:Int) ≤ (a : Int)) && (decide ((a : Int) ≤ (a : Int) + m) && decide ((a : Int) + m ≤ (s.length : Int)))) = true by simp only [Bool.and_eq_true, decide_eq_true_eq]; omega]
        simp only [cond_true, cond_false]
        rw [show ((a : Int) + m).toNat = a + m by omega, show ((a : Int)).toNat = a by omega, List.drop_take, Nat.add_sub_cancel_left, Int.toNat_natCast]
        rfl
theorem tree44 (s : List UInt8) (a : Nat) (b : Bool) : treeObj laws13 tab [44] 4 200 44 70 [.str s, .int .i64 (.ofNat a), .bool b] [] =
    cond b (some (DV.tup [DV.str [], DV.agg [DV.str s, DV.int .i64 (Int.ofNat a), DV.bool b]]))
      (cond (decide (0 ≤ Int.ofNat a) && decide (Int.ofNat a ≤ (s.length : Int))) (some (DV.tup [DV.str (List.drop a s), DV.agg [DV.str s, DV.int .i64 (Int.ofNat a), DV.bool b]])) none) := by kernel_rfl
theorem wf_rd3 (s : List UInt8) (a : Nat) (b : Bool) : wfs 0 (toVs (rd3 s a b)) := ⟨trivial, trivial, trivial, trivial⟩
theorem dec_rd3 (s : List UInt8) (a : Nat) (b : Bool) : ofVs (toVs (rd3 s a b)) = some (rd3 s a b) := by
  show (match ofV (sv s), ofVs [.int .i64 (.ofNat a), .bool b] with | some x, some l => some (x :: l) | _, _ => .none) = _
  rw [ofV_sv]; rfl
theorem wf_fixed3 (s : List UInt8) (a : Nat) (b : Bool) (n : Int) : (fixed3 s a b n).val.2.length = 3 ∧ wfs 0 (toVs (fixed3 s a b n).val.2) ∧ wf 0 (toV (fixed3 s a b n).val.1) := by
  unfold fixed3
  simp only [OD.val]
  split
  · exact ⟨rfl, wf_rd3 _ _ _, trivial⟩
  · split
    · exact ⟨rfl, wf_rd3 _ _ _, trivial⟩
    · split
      · exact ⟨rfl, wf_rd3 _ _ _, trivial⟩
      · exact ⟨rfl, wf_rd3 _ _ _, trivial⟩
theorem call71 (s : List UInt8) (a : Nat) (b : Bool) (n : Int) (ha : a ≤ s.length) (hs : s.length ≤ 4000000000) :
    ObjCall Tryz.prog 71 70 (toVs (rd3 s a b)) (toVs [.int .i64 n]) (toV (fixed3 s a b n).val.1) (toVs (fixed3 s a b n).val.2) := by
  obtain ⟨h1, h2, h3⟩ := wf_fixed3 s a b n
  exact obj_by _ tab_ok globals4 (by kernel_rfl) (law71 s a b n ha hs) h1 (wf_rd3 _ _ _) h2 ⟨trivial, trivial⟩ h3
noncomputable def g71 : Nat → List DV → List DV → Option OD := fun el l r => match el, l, r with
  | 70, [.str s, .int .i64 (.ofNat a), .bool b], [.int .i64 n] => some (fixed3 s a b n)
  | _, _, _ => none
theorem g71_ok : ∀ el l r d, g71 el l r = some d → d.ok = true → ObjCall Tryz.prog 71 el (toVs l) (toVs r) (toV d.val.1) (toVs d.val.2) ∧ ofVs (toVs l) = some l ∧ ofVs (toVs r) = some r := by
  intro el l r d h ho
  unfold g71 at h
  split at h
  · rename_i s a b n
    cases h
    simp only [fixed3, OD.ok_need, Bool.and_eq_true, decide_eq_true_eq] at ho
    exact ⟨call71 s a b n ho.1.1 ho.1.2, dec_rd3 s a b, rfl⟩
  · cases h
/-- Fixed(2), where two bytes are not there -/
noncomputable def gshort : Nat → List DV → List DV → Option OD := fun el l r => match el, l, r with
  | 70, [.str s, .int .i64 (.ofNat a), .bool false], [.int .i64 2] => some (.need (decide (a ≤ s.length) && (decide (s.length ≤ 4000000000) && decide ((s.length : Int) - a < 2))) (.v (.str []) (rd3 s a true)))
  | _, _, _ => none
theorem gshort_ok : ∀ el l r d, gshort el l r = some d → d.ok = true → ObjCall Tryz.prog 71 el (toVs l) (toVs r) (toV d.val.1) (toVs d.val.2) ∧ ofVs (toVs l) = some l ∧ ofVs (toVs r) = some r := by
  intro el l r d h ho
  unfold gshort at h
  split at h
  · rename_i s a
    cases h
    simp only [OD.ok_need, OD.ok_v, Bool.and_eq_true, decide_eq_true_eq, and_true] at ho
    obtain ⟨h1, h2, h3⟩ := ho
    have hc := call71 s a false 2 h1 h2
    have e : (fixed3 s a false 2).val = (.str [], rd3 s a true) := by
      unfold fixed3
      simp only [OD.val]
      rw [show decide ((2:Int) ≤ 0) = false from rfl, show decide ((s.length : Int) - a < 2) = true from decide_eq_true h3]
    rw [e] at hc
    exact ⟨hc, dec_rd3 s a false, rfl⟩
  · cases h
/-- Fixed(2), where these two bytes are there -/
noncomputable def glong (c0 c1 : UInt8) : Nat → List DV → List DV → Option OD := fun el l r => match el, l, r with
  | 70, [.str s, .int .i64 (.ofNat a), .bool false], [.int .i64 2] => some (.need (decide (s.length ≤ 4000000000) && decide ((s.drop a).take 2 = [c0, c1])) (.v (.str [c0, c1]) (rd3 s (a + 2) false)))
  | _, _, _ => none
theorem glong_ok (c0 c1 : UInt8) : ∀ el l r d, glong c0 c1 el l r = some d → d.ok = true → ObjCall Tryz.prog 71 el (toVs l) (toVs r) (toV d.val.1) (toVs d.val.2) ∧ ofVs (toVs l) = some l ∧ ofVs (toVs r) = some r := by
  intro el l r d h ho
  unfold glong at h
  split at h
  · rename_i s a
    cases h
    simp only [OD.ok_need, OD.ok_v, Bool.and_eq_true, decide_eq_true_eq, and_true] at ho
    obtain ⟨h2, h3⟩ := ho
    have hl : a + 2 ≤ s.length := by
      have := congrArg List.length h3
      simp only [List.length_take, List.length_drop, List.length_cons, List.length_nil] at this
      omega
    have hc := call71 s a false 2 (by omega) h2
    have e : (fixed3 s a false 2).val = (.str [c0, c1], rd3 s (a + 2) false) := by
      unfold fixed3
      simp only [OD.val]
      rw [show decide ((2:Int) ≤ 0) = false from rfl, show decide ((s.length : Int) - a < 2) = false from decide_eq_false (by omega)]
      simp only [Int.reduceToNat, h3]
    rw [e] at hc
    exact ⟨hc, dec_rd3 s a false, rfl⟩
  · cases h
noncomputable def laws14 : Laws Tryz.prog := laws13.addO 71 g71 g71_ok
noncomputable def lawsS : Laws Tryz.prog := laws13.addO 71 gshort gshort_ok
noncomputable def lawsL (c0 c1 : UInt8) : Laws Tryz.prog := laws13.addO 71 (glong c0 c1) (glong_ok c0 c1)
/-- what Number(2) makes of a reader -/
noncomputable def num3 (s : List UInt8) (a : Nat) (b : Bool) : OD := .need (decide (a ≤ s.length) && decide (s.length ≤ 4000000000)) (.br b (.v (.int .u64 0) (rd3 s a b))
  (.br (decide ((s.length : Int) - a < 2)) (.v (.int .u64 0) (rd3 s a true)) (.v (.int .u64 (numOf ((s.drop a).take 2) : Int)) (rd3 s (a + 2) b))))
theorem tree70T (s : List UInt8) (a : Nat) : treeObj laws14 tab [70] 4 200 70 70 [.str s, .int .i64 (.ofNat a), .bool true] [.int .i64 2] =
    cond (decide (a ≤ s.length) && decide (s.length ≤ 4000000000)) (some (DV.tup [DV.int .u64 0, DV.agg (rd3 s a true)])) none := by kernel_rfl
theorem tree70S (s : List UInt8) (a : Nat) : treeObj lawsS tab [70] 4 200 70 70 [.str s, .int .i64 (.ofNat a), .bool false] [.int .i64 2] =
    cond (decide (a ≤ s.length) && (decide (s.length ≤ 4000000000) && decide ((s.length : Int) - a < 2))) (some (DV.tup [DV.int .u64 0, DV.agg (rd3 s a true)])) none := by kernel_rfl
theorem tree70L (c0 c1 : UInt8) (s : List UInt8) (a : Nat) : treeObj (lawsL c0 c1) tab [70] 4 200 70 70 [.str s, .int .i64 (.ofNat a), .bool false] [.int .i64 2] =
    cond (decide (s.length ≤ 4000000000) && decide ((s.drop a).take 2 = [c0, c1])) (some (DV.tup [DV.int .u64 (hfold 0 [c0, c1]), DV.agg (rd3 s (a + 2) false)])) none := by kernel_rfl
theorem call70 (s : List UInt8) (a : Nat) (b : Bool) (ha : a ≤ s.length) (hs : s.length ≤ 4000000000) :
    ObjCall Tryz.prog 70 70 (toVs (rd3 s a b)) (toVs [.int .i64 2]) (toV (num3 s a b).val.1) (toVs (num3 s a b).val.2) := by
  unfold num3
  simp only [OD.val]
  cases b with
  | true =>
    refine obj_by laws14 tab_ok globals4 (by kernel_rfl) ((tree70T s a).trans ?_) rfl (wf_rd3 _ _ _) (wf_rd3 _ _ _) ⟨trivial, trivial⟩ trivial
    rw [show (decide (a ≤ s.length) && decide (s.length ≤ 4000000000)) = true by simp [ha, hs]]; rfl
  | false =>
    cases h2 : decide ((s.length : Int) - a < 2) with
    | true =>
      refine obj_by lawsS tab_ok globals4 (by kernel_rfl) ((tree70S s a).trans ?_) rfl (wf_rd3 _ _ _) (wf_rd3 _ _ _) ⟨trivial, trivial⟩ trivial
      rw [show (decide (a ≤ s.length) && (decide (s.length ≤ 4000000000) && decide ((s.length : Int) - a < 2))) = true by rw [h2]; simp [ha, hs]]; rfl
    | false =>
      have h2 := of_decide_eq_false h2
      obtain ⟨c0, c1, hc⟩ : ∃ c0 c1, (s.drop a).take 2 = [c0, c1] := by
        have : ((s.drop a).take 2).length = 2 := by simp only [List.length_take, List.length_drop]; omega
        match hx : (s.drop a).take 2, this with
        | [x, y], _ => exact ⟨x, y, rfl⟩
      refine obj_by (lawsL c0 c1) tab_ok globals4 (by kernel_rfl) ((tree70L c0 c1 s a).trans ?_) rfl (wf_rd3 _ _ _) (wf_rd3 _ _ _) ⟨trivial, trivial⟩ trivial
      rw [show (decide (s.length ≤ 4000000000) && decide ((s.drop a).take 2 = [c0, c1])) = true by simp [hs, hc], hfold_num [c0, c1] (by simp), hc]
      rfl
noncomputable def g70 : Nat → List DV → List DV → Option OD := fun el l r => match el, l, r with
  | 70, [.str s, .int .i64 (.ofNat a), .bool b], [.int .i64 2] => some (num3 s a b)
  | _, _, _ => none
theorem g70_ok : ∀ el l r d, g70 el l r = some d → d.ok = true → ObjCall Tryz.prog 70 el (toVs l) (toVs r) (toV d.val.1) (toVs d.val.2) ∧ ofVs (toVs l) = some l ∧ ofVs (toVs r) = some r := by
  intro el l r d h ho
  unfold g70 at h
  split at h
  · rename_i s a b
    cases h
    simp only [num3, OD.ok_need, Bool.and_eq_true, decide_eq_true_eq] at ho
    exact ⟨call70 s a b ho.1.1 ho.1.2, dec_rd3 s a b, rfl⟩
  · cases h
/-- what Rest makes of a reader -/
noncomputable def rest3 (s : List UInt8) (a : Nat) (b : Bool) : OD := .need (decide (a ≤ s.length)) (.br b (.v (.str []) (rd3 s a b)) (.v (.str (s.drop a)) (rd3 s a b)))
theorem law44 (s : List UInt8) (a : Nat) (b : Bool) (ha : a ≤ s.length) : treeObj laws13 tab [44] 4 200 44 70 [.str s, .int .i64 (.ofNat a), .bool b] [] = some (.tup [(rest3 s a b).val.1, .agg (rest3 s a b).val.2]) := by
  rw [tree44]
  unfold rest3 rd3
  simp only [OD.val]
  have e0 : (Int.ofNat a : Int) = (a : Int) := rfl
  rw [e0, show (decide ((0:Int) ≤ (a : Int)) && decide ((a : Int) ≤ (s.length : Int))) = true by simp only [Bool.and_eq_true, decide_eq_true_eq]; omega]
  cases b <;> rfl
noncomputable def g44 : Nat → List DV → List DV → Option OD := fun el l r => match el, l, r with
  | 70, [.str s, .int .i64 (.ofNat a), .bool b], [] => some (rest3 s a b)
  | _, _, _ => none
theorem g44_ok : ∀ el l r d, g44 el l r = some d → d.ok = true → ObjCall Tryz.prog 44 el (toVs l) (toVs r) (toV d.val.1) (toVs d.val.2) ∧ ofVs (toVs l) = some l ∧ ofVs (toVs r) = some r := by
  intro el l r d h ho
  unfold g44 at h
  split at h
  · rename_i s a b
    cases h
    have ha : a ≤ s.length := by
      simp only [rest3, OD.ok_need, Bool.and_eq_true, decide_eq_true_eq] at ho
      exact ho.1
    refine ⟨?_, dec_rd3 s a b, rfl⟩
    refine obj_by laws13 tab_ok globals4 (by kernel_rfl) (law44 s a b ha) ?_ (wf_rd3 s a b) ?_ trivial ?_
    all_goals
      unfold rest3
      simp only [OD.val]
      cases b
    · rfl
    · rfl
    · exact wf_rd3 _ _ _
    · exact wf_rd3 _ _ _
    · trivial
    · trivial
  · cases h
noncomputable def laws15 : Laws Tryz.prog := (laws14.addO 70 g70 g70_ok).addO 44 g44 g44_ok
/-- what Text makes of a reader -/
noncomputable def text3 (s : List UInt8) (a : Nat) (b : Bool) : OD := .need (decide (a ≤ s.length) && decide (s.length ≤ 4000000000)) (.br b (.v (.str []) (rd3 s a b)) (.br (decide ((s.length : Int) - a < 2)) (.v (.str []) (rd3 s a true))
  (.br (decide (numOf ((s.drop a).take 2) = 0)) (.v (.str []) (rd3 s (a + 2) b)) (.br (decide (s.length < a + 2 + numOf ((s.drop a).take 2))) (.v (.str []) (rd3 s (a + 2) true))
    (.v (.str ((s.drop (a + 2)).take (numOf ((s.drop a).take 2)))) (rd3 s (a + 2 + numOf ((s.drop a).take 2)) b))))))
theorem tree43 (s : List UInt8) (a : Nat) (b : Bool) : treeObj laws15 tab [43] 4 200 43 70 [.str s, .int .i64 (.ofNat a), .bool b] [] =
    cond (decide (a ≤ List.length s) && decide (List.length s ≤ 4000000000)) (cond (b) (cond (decide (a ≤ List.length s) && decide (List.length s ≤ 4000000000)) (cond (b) (some (DV.tup [DV.str [], DV.agg [DV.str s, DV.int .i64 (Int.ofNat a), DV.bool b]])) (some (DV.tup [DV.str [], DV.agg [DV.str s, DV.int .i64 (Int.ofNat a), DV.bool b]]))) none) (cond (decide ((↑(List.length s) : Int) - (↑a : Int) < 2)) (cond (decide (a ≤ List.length s) && decide (List.length s ≤ 4000000000)) (some (DV.tup [DV.str [], DV.agg [DV.str s, DV.int .i64 (Int.ofNat a), DV.bool true]])) none) (cond (decide (a + 2 ≤ List.length s) && decide (List.length s ≤ 4000000000)) (cond (b) (some (DV.tup [DV.str [], DV.agg [DV.str s, DV.int .i64 (Int.ofNat (a + 2)), DV.bool b]])) (cond (decide (IntKind.wrap .i64 (↑(numOf (List.take 2 (List.drop a s))) : Int) ≤ 0)) (some (DV.tup [DV.str [], DV.agg [DV.str s, DV.int .i64 (Int.ofNat (a + 2)), DV.bool b]])) (cond (decide ((↑(List.length s) : Int) - (↑(a + 2) : Int) < IntKind.wrap .i64 (↑(numOf (List.take 2 (List.drop a s))) : Int))) (some (DV.tup [DV.str [], DV.agg [DV.str s, DV.int .i64 (Int.ofNat (a + 2)), DV.bool true]])) (some (DV.tup [DV.str (List.take (Int.toNat (IntKind.wrap .i64 (↑(numOf (List.take 2 (List.drop a s))) : Int))) (List.drop (a + 2) s)), DV.agg [DV.str s, DV.int .i64 (Int.ofNat (a + 2 + Int.toNat (IntKind.wrap .i64 (↑(numOf (List.take 2 (List.drop a s))) : Int)))), DV.bool b]]))))) none))) none := by kernel_rfl
theorem law43 (s : List UInt8) (a : Nat) (b : Bool) (ha : a ≤ s.length) (hs : s.length ≤ 4000000000) : treeObj laws15 tab [43] 4 200 43 70 [.str s, .int .i64 (.ofNat a), .bool b] [] = some (.tup [(text3 s a b).val.1, .agg (text3 s a b).val.2]) := by
  rw [tree43]
  unfold text3 rd3
  simp only [OD.val]
  have hk := num_take2 (s.drop a)
  rw [wrap_i64 (z := (numOf ((s.drop a).take 2) : Int)) (by omega) (by omega), show (decide (a ≤ s.length) && decide (s.length ≤ 4000000000)) = true by simp [ha, hs]]
  cases b with
  | true => rfl
  | false =>
    cases h2 : decide ((s.length : Int) - a < 2) with
    | true => rfl
    | false =>
      have h2 := of_decide_eq_false h2
      rw [show (decide (a + 2 ≤ s.length) && decide (s.length ≤ 4000000000)) = true by simp only [Bool.and_eq_true, decide_eq_true_eq]; omega]
      simp only [cond_true, cond_false, Int.toNat_natCast, cond_dec]
      by_cases h3 : numOf ((s.drop a).take 2) = 0
      · rw [if_pos (by omega), show decide (numOf ((s.drop a).take 2) = 0) = true from decide_eq_true h3]
      · rw [if_neg (by omega), show decide (numOf ((s.drop a).take 2) = 0) = false from decide_eq_false h3]
        by_cases h4 : s.length < a + 2 + numOf ((s.drop a).take 2)
        · rw [if_pos (by omega), show decide (s.length < a + 2 + numOf ((s.drop a).take 2)) = true from decide_eq_true h4]
        · rw [if_neg (by omega), show decide (s.length < a + 2 + numOf ((s.drop a).take 2)) = false from decide_eq_false h4]
theorem wf_text3 (s : List UInt8) (a : Nat) (b : Bool) : (text3 s a b).val.2.length = 3 ∧ wfs 0 (toVs (text3 s a b).val.2) ∧ wf 0 (toV (text3 s a b).val.1) := by
  unfold text3
  simp only [OD.val]
  repeat' first | exact ⟨rfl, wf_rd3 _ _ _, trivial⟩ | split
noncomputable def g43 : Nat → List DV → List DV → Option OD := fun el l r => match el, l, r with
  | 70, [.str s, .int .i64 (.ofNat a), .bool b], [] => some (text3 s a b)
  | _, _, _ => none
theorem g43_ok : ∀ el l r d, g43 el l r = some d → d.ok = true → ObjCall Tryz.prog 43 el (toVs l) (toVs r) (toV d.val.1) (toVs d.val.2) ∧ ofVs (toVs l) = some l ∧ ofVs (toVs r) = some r := by
  intro el l r d h ho
  unfold g43 at h
  split at h
  · rename_i s a b
    cases h
    have hb : a ≤ s.length ∧ s.length ≤ 4000000000 := by
      simp only [text3, OD.ok_need, Bool.and_eq_true, decide_eq_true_eq] at ho
      exact ho.1
    obtain ⟨h1, h2, h3⟩ := wf_text3 s a b
    exact ⟨obj_by laws15 tab_ok globals4 (by kernel_rfl) (law43 s a b hb.1 hb.2) h1 (wf_rd3 s a b) h2 trivial h3, dec_rd3 s a b, rfl⟩
  · cases h
noncomputable def laws16 : Laws Tryz.prog := laws15.addO 43 g43 g43_ok
end
end Go.Vm.YtdmlbojhfgimnaaGreatDoor
