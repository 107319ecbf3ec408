/-
  What a message touches, and what of it lies in a range, as the program and as the document's answer tell it.
-/
import Derived.Test.YtdmlbojhfgimnaaGreatDoorL9I
set_option linter.unusedVariables false
set_option linter.unusedSimpArgs false
namespace Go.Vm.YtdmlbojhfgimnaaGreatDoor
open Go.Proofs
noncomputable section

theorem dec_cons (a : DV) (l : List DV) (ha : ofV (toV a) = some a) (hl : ofVs (toVs l) = some l) : ofVs (toVs (a :: l)) = some (a :: l) := by
  show (match ofV (toV a), ofVs (toVs l) with | some x, some l => some (x :: l) | _, _ => .none) = _
  rw [ha, hl]
theorem dec_m (op : Int) (k t v : List UInt8) : ofV (toV (msgV op k t v)) = some (msgV op k t v) := by
  have := dec_msg op k t v
  have e : ofVs (toVs [msgV op k t v]) = (match ofV (toV (msgV op k t v)) with | some x => some [x] | .none => .none) := by
    show (match ofV (toV (msgV op k t v)), ofVs [] with | some x, some l => some (x :: l) | _, _ => .none) = _
    cases ofV (toV (msgV op k t v)) <;> rfl
  have h2 : ofVs (toVs [msgV op k t v]) = some [msgV op k t v] := this
  rw [e] at h2
  split at h2
  · rename_i x hx; cases h2; exact hx
  · cases h2
/-- does it touch a key? -/
noncomputable def touchB (op : Int) (k t v x : List UInt8) : Bool := cond (mayB op k t v) (cond (decide (op = 3)) (cond (!Op.bytesLess x k) (Op.bytesLess x t) false) (decide (x = k))) false
set_option maxRecDepth 10000 in
theorem tree21 (op : Int) (k t v x : List UInt8) : treeOf laws9 tab [21, 52] 4 200 21 [.agg [.int .i64 op, .str k, .str t, .str v], .str x] =
    cond (mayB op k t v) (cond (decide (op = 3)) (cond (!Op.bytesLess x k) (some (.bool (Op.bytesLess x t))) (some (.bool false))) (some (.bool (decide (x = k))))) (some (.bool false)) := by kernel_rfl

theorem law21 (op : Int) (k t v x : List UInt8) : treeOf laws9 tab [21, 52] 4 200 21 [.agg [.int .i64 op, .str k, .str t, .str v], .str x] = some (PD.v (.bool (touchB op k t v x))).val := by
  rw [tree21]
  unfold touchB
  simp only [pd_v, some_cond]
noncomputable def gtouch : List DV → Option PD := fun l => match l with
  | [.agg [.int .i64 op, .str k, .str t, .str v], .str x] => some (.v (.bool (touchB op k t v x)))
  | _ => none
theorem g21_ok : ∀ l d, gtouch l = some d → d.ok = true → PlainCall Tryz.prog [] 21 (toVs l) (toV d.val) ∧ ofVs (toVs l) = some l := by
  intro l d h ho
  unfold gtouch at h
  split at h
  · rename_i op k t v x
    cases h
    exact ⟨plain_by _ tab_ok globals4 (by kernel_rfl) (law21 op k t v x) ⟨⟨trivial, trivial, trivial, trivial, trivial⟩, trivial, trivial⟩ trivial, dec_cons _ _ (dec_m op k t v) (dec_s x)⟩
  · cases h

noncomputable def noneV : DV := .tup [.agg [.int .i64 0, .str [], .str [], .str []], .bool false]
noncomputable def someV (op : Int) (k t v : List UInt8) : DV := .tup [.agg [.int .i64 op, .str k, .str t, .str v], .bool true]
/-- what of it lies in a range -/
noncomputable def partD (op : Int) (k t v a b : List UInt8) : PD := .br (mayB op k t v)
  (.br (decide (op = 3))
    (.br (Op.bytesLess (cond (Op.bytesLess k a) a k) (cond (decide (b = [])) t (cond (Op.bytesLess b t) b t)))
      (.v (someV op (cond (Op.bytesLess k a) a k) (cond (decide (b = [])) t (cond (Op.bytesLess b t) b t)) v)) (.v noneV))
    (.br (Op.bytesLess k a) (.v noneV) (.br (decide (b = [])) (.v (someV op k t v)) (.br (Op.bytesLess k b) (.v (someV op k t v)) (.v noneV)))))
  (.v noneV)
theorem less_or (a b : List UInt8) : (Op.bytesLess a b || decide (a = b)) = !Op.bytesLess b a := by
  have := less_total a b
  rw [← this, Bool.not_not]

set_option maxRecDepth 10000 in
theorem tree19 (op : Int) (k t v a b : List UInt8) : treeOf laws9 tab [19] 4 200 19 [.agg [.int .i64 op, .str k, .str t, .str v], .str a, .str b] =
    cond (!mayB op k t v) (some (.tup [.agg [.int .i64 0, .str [], .str [], .str []], .bool false])) (cond (decide (op = 3)) (cond (!decide (b = [])) (cond (!Op.bytesLess
    (match true with
    | true =>
      match Op.bytesLess k a with
      | true => a
      | false => k
    | false =>
      match Op.bytesLess k a || decide (k = a) with
      | true => k
      | false => a)
    (match false with
    | true =>
      match Op.bytesLess t b with
      | true => b
      | false => t
    | false =>
      match Op.bytesLess t b || decide (t = b) with
      | true => t
      | false => b)) (some (.tup [.agg [.int .i64 0, .str [], .str [], .str []], .bool false])) (some (.tup
  [.agg
      [.int .i64 op,
        .str
          (match true with
          | true =>
            match Op.bytesLess k a with
            | true => a
            | false => k
          | false =>
            match Op.bytesLess k a || decide (k = a) with
            | true => k
            | false => a),
        .str
          (match false with
          | true =>
            match Op.bytesLess t b with
            | true => b
            | false => t
          | false =>
            match Op.bytesLess t b || decide (t = b) with
            | true => t
            | false => b),
        .str v],
    .bool true]))) (cond (!Op.bytesLess
    (match true with
    | true =>
      match Op.bytesLess k a with
      | true => a
      | false => k
    | false =>
      match Op.bytesLess k a || decide (k = a) with
      | true => k
      | false => a)
    t) (some (.tup [.agg [.int .i64 0, .str [], .str [], .str []], .bool false])) (some (.tup
  [.agg
      [.int .i64 op,
        .str
          (match true with
          | true =>
            match Op.bytesLess k a with
            | true => a
            | false => k
          | false =>
            match Op.bytesLess k a || decide (k = a) with
            | true => k
            | false => a),
        .str t, .str v],
    .bool true])))) (cond (Op.bytesLess k a) (some (.tup [.agg [.int .i64 0, .str [], .str [], .str []], .bool false])) (cond (!decide (b = [])) (cond (!Op.bytesLess k b) (some (.tup [.agg [.int .i64 0, .str [], .str [], .str []], .bool false])) (some (.tup [.agg [.int .i64 op, .str k, .str t, .str v], .bool true]))) (some (.tup [.agg [.int .i64 op, .str k, .str t, .str v], .bool true]))))) := by kernel_rfl

theorem law19 (op : Int) (k t v a b : List UInt8) : treeOf laws9 tab [19] 4 200 19 [.agg [.int .i64 op, .str k, .str t, .str v], .str a, .str b] = some (partD op k t v a b).val := by
  rw [tree19]
  unfold partD someV noneV
  simp only [pd_br, pd_v, less_or]
  cases mayB op k t v <;> cases decide (op = 3) <;> cases Op.bytesLess k a <;> cases decide (b = []) <;> cases Op.bytesLess b t <;> simp only [Bool.not_true, Bool.not_false, cond_true, cond_false, cond_nn]
set_option maxRecDepth 10000 in
theorem wf_part (op : Int) (k t v a b : List UInt8) : wf 0 (toV (partD op k t v a b).val) := by
  unfold partD someV noneV
  simp only [PD.val_br, PD.val_v]
  cases mayB op k t v <;> cases decide (op = 3) <;> cases Op.bytesLess k a <;> cases decide (b = []) <;> cases Op.bytesLess k b <;> simp only [cond_true, cond_false] <;> first | exact ⟨⟨trivial, trivial, trivial, trivial, trivial⟩, trivial, trivial⟩ | skip
  all_goals
    cases Op.bytesLess _ _ <;> exact ⟨⟨trivial, trivial, trivial, trivial, trivial⟩, trivial, trivial⟩
noncomputable def gpart : List DV → Option PD := fun l => match l with
  | [.agg [.int .i64 op, .str k, .str t, .str v], .str a, .str b] => some (partD op k t v a b)
  | _ => none
theorem g19_ok : ∀ l d, gpart l = some d → d.ok = true → PlainCall Tryz.prog [] 19 (toVs l) (toV d.val) ∧ ofVs (toVs l) = some l := by
  intro l d h ho
  unfold gpart at h
  split at h
  · rename_i op k t v a b
    cases h
    exact ⟨plain_by _ tab_ok globals4 (by kernel_rfl) (law19 op k t v a b) ⟨⟨trivial, trivial, trivial, trivial, trivial⟩, trivial, trivial, trivial⟩ (wf_part op k t v a b), dec_cons _ _ (dec_m op k t v) (dec_2 a b)⟩
  · cases h

noncomputable def fewB (k t v : List UInt8) : Bool := cond (decide ((↑(List.length k) : Int) ≤ 1000)) (cond (decide ((↑(List.length t) : Int) ≤ 1000)) (decide ((↑(List.length v) : Int) ≤ 1000)) false) false
set_option maxRecDepth 10000 in
theorem tree9 (op : Int) (k t v : List UInt8) : treeOf laws9 tab [9] 4 200 9 [.agg [.int .i64 op, .str k, .str t, .str v]] =
    cond (decide ((↑(List.length k) : Int) ≤ 1000)) (cond (decide ((↑(List.length t) : Int) ≤ 1000)) (some (.bool (decide ((↑(List.length v) : Int) ≤ 1000)))) (some (.bool false))) (some (.bool false)) := by kernel_rfl

theorem law9 (op : Int) (k t v : List UInt8) : treeOf laws9 tab [9] 4 200 9 [.agg [.int .i64 op, .str k, .str t, .str v]] = some (PD.v (.bool (fewB k t v))).val := by
  rw [tree9]
  unfold fewB
  simp only [pd_v, some_cond]
noncomputable def gfew : List DV → Option PD := fun l => match l with
  | [.agg [.int .i64 op, .str k, .str t, .str v]] => some (.v (.bool (fewB k t v)))
  | _ => none
theorem g9_ok : ∀ l d, gfew l = some d → d.ok = true → PlainCall Tryz.prog [] 9 (toVs l) (toV d.val) ∧ ofVs (toVs l) = some l := by
  intro l d h ho
  unfold gfew at h
  split at h
  · rename_i op k t v
    cases h
    exact ⟨plain_by _ tab_ok globals4 (by kernel_rfl) (law9 op k t v) ⟨⟨trivial, trivial, trivial, trivial, trivial⟩, trivial⟩ trivial, dec_msg op k t v⟩
  · cases h

set_option maxRecDepth 100000 in
theorem run10 (el : Nat → Nat) : resIs isTrue (callOF noO (tabOf all) 1000 10 [] (baseH 4 [] el)) = true := by kernel_rfl
noncomputable def gawake : List DV → Option PD := fun l => match l with
  | [] => some (.v (.bool true))
  | _ => none
theorem g10_ok : ∀ l d, gawake l = some d → d.ok = true → PlainCall Tryz.prog [] 10 (toVs l) (toV d.val) ∧ ofVs (toVs l) = some l := by
  intro l d h ho
  unfold gawake at h
  split at h
  · cases h
    refine ⟨plain_of_run noTmps_ok noO_good noO_sim tab_ok (n := 1000) ⟨fun x hx => (by cases hx), fun x hx => (by cases hx)⟩ (fun el => ?_) trivial trivial, rfl⟩
    rw [globals4, ← callOF_eq]
    exact resIs_true (run10 el)
  · cases h
noncomputable def laws10 : Laws Tryz.prog := ((laws9.add 19 gpart g19_ok).add 9 gfew g9_ok).add 10 gawake g10_ok
end
end Go.Vm.YtdmlbojhfgimnaaGreatDoor
