/-
  Which messages may be, as the program and as the document's answer tell it.
-/
import Derived.Test.YtdmlbojhfgimnaaGreatDoorL9H
set_option linter.unusedVariables false
set_option linter.unusedSimpArgs false
namespace Go.Vm.YtdmlbojhfgimnaaGreatDoor
open Go.Proofs
noncomputable section

theorem less_total : ∀ a b : List UInt8, (!(Op.bytesLess a b || decide (a = b))) = Op.bytesLess b a
  | [], [] => rfl
  | [], b :: y => by simp [Op.bytesLess]
  | a :: x, [] => by simp [Op.bytesLess]
  | a :: x, b :: y => by
    have ih := less_total x y
    simp only [Op.bytesLess]
    rcases Nat.lt_trichotomy a.toNat b.toNat with h | h | h
    · have h1 : a < b := h
      have h2 : ¬ b < a := fun h' => by have : b.toNat < a.toNat := h'; omega
      have h3 : a ≠ b := fun e => by subst e; omega
      have h4 : b ≠ a := fun e => h3 e.symm
      simp [h1, h2, h4]
    · have e : a = b := UInt8.toNat_inj.1 h
      subst e
      have h2 : ¬ a < a := fun h' => by have : a.toNat < a.toNat := h'; omega
      simp only [h2, decide_false, Bool.false_or, beq_self_eq_true, Bool.true_and, List.cons.injEq, true_and]
      exact ih
    · have h1 : b < a := h
      have h2 : ¬ a < b := fun h' => by have : a.toNat < b.toNat := h'; omega
      have h3 : a ≠ b := fun e => by subst e; omega
      simp [h1, h2, h3]
theorem cond_tf (b : Bool) : cond b true false = b := by cases b <;> rfl
theorem less_nil (k : List UInt8) : Op.bytesLess k [] = false := by cases k <;> rfl

noncomputable def msgV (op : Int) (k t v : List UInt8) : DV := .agg [.int .i64 op, .str k, .str t, .str v]
/-- may a message be? -/
noncomputable def mayB (op : Int) (k t v : List UInt8) : Bool := cond (decide (k.length < 1)) false (cond (decide (108 < k.length)) false
  (cond (decide (op = 3)) (cond (decide (v.length = 0)) (cond (decide (t.length = 0)) false (cond (decide (t.length ≤ 108)) (Op.bytesLess k t) false)) false)
    (cond (decide (t.length = 0)) (cond (decide (op = 1)) (valOk k v) (cond (decide (op = 4)) (patOk k v) (cond (decide (op = 2)) (decide (v.length = 0)) false))) false)))
theorem dec_msg (op : Int) (k t v : List UInt8) : ofVs (toVs [.agg [.int .i64 op, .str k, .str t, .str v]]) = some [.agg [.int .i64 op, .str k, .str t, .str v]] := by
  have e : ofVs [sv k, sv t, sv v] = some [.str k, .str t, .str v] := by
    show (match ofV (sv k), (match ofV (sv t), (match ofV (sv v), ofVs [] with | some x, some l => some (x :: l) | _, _ => .none) with | some x, some l => some (x :: l) | _, _ => .none) with | some x, some l => some (x :: l) | _, _ => .none) = _
    rw [ofV_sv, ofV_sv, ofV_sv]; rfl
  show (match (match (match ofV (.int .i64 op), ofVs [sv k, sv t, sv v] with | some x, some l => some (x :: l) | _, _ => .none) with | some r => some (DV.agg r) | .none => .none), ofVs [] with | some x, some l => some (x :: l) | _, _ => .none) = _
  rw [e]; rfl

set_option maxRecDepth 10000 in
theorem tree32 (op : Int) (k t v : List UInt8) : treeOf laws8 tab [32, 59, 60] 4 200 32 [.agg [.int .i64 op, .str k, .str t, .str v]] =
    cond (!decide (k = [])) (cond (!decide ((↑(List.length k) : Int) ≤ 108)) (some (.bool false)) (cond (true && decide (0 < (↑(List.length k) : Int))) (cond (decide ((↑(UInt8.toNat (List.getD k 0 0)) : Int) = 109)) (cond (decide (op = 1)) (cond (decide (t = [])) (some (.bool (fine (metaD v)))) (some (.bool false))) (cond (decide (op = 4)) (cond (decide (t = [])) (some (.bool (fine (changeD v)))) (some (.bool false))) (cond (decide (op = 2)) (cond (decide (t = [])) (some (.bool (decide (v = [])))) (some (.bool false))) (cond (decide (op = 3)) (cond (decide (v = [])) (cond (!decide (t = [])) (cond (decide ((↑(List.length t) : Int) ≤ 108)) (some (.bool (Op.bytesLess k t))) (some (.bool false))) (some (.bool false))) (some (.bool false))) (some (.bool false)))))) (cond (decide ((↑(UInt8.toNat (List.getD k 0 0)) : Int) = 100)) (cond (decide (op = 1)) (cond (decide (t = [])) (some (.bool (blockOk v))) (some (.bool false))) (cond (decide (op = 4)) (cond (decide (t = [])) (some (.bool (fine (patchD v)))) (some (.bool false))) (cond (decide (op = 2)) (cond (decide (t = [])) (some (.bool (decide (v = [])))) (some (.bool false))) (cond (decide (op = 3)) (cond (decide (v = [])) (cond (!decide (t = [])) (cond (decide ((↑(List.length t) : Int) ≤ 108)) (some (.bool (Op.bytesLess k t))) (some (.bool false))) (some (.bool false))) (some (.bool false))) (some (.bool false)))))) (cond (decide (op = 1)) (cond (decide (t = [])) (some (.bool (decide ((↑(List.length v) : Int) ≤ 64)))) (some (.bool false))) (cond (decide (op = 4)) (cond (decide (t = [])) (some (.bool false)) (some (.bool false))) (cond (decide (op = 2)) (cond (decide (t = [])) (some (.bool (decide (v = [])))) (some (.bool false))) (cond (decide (op = 3)) (cond (decide (v = [])) (cond (!decide (t = [])) (cond (decide ((↑(List.length t) : Int) ≤ 108)) (some (.bool (Op.bytesLess k t))) (some (.bool false))) (some (.bool false))) (some (.bool false))) (some (.bool false)))))))) none)) (some (.bool false)) := by kernel_rfl

set_option maxHeartbeats 4000000 in
theorem law32 (op : Int) (k t v : List UInt8) : treeOf laws8 tab [32, 59, 60] 4 200 32 [.agg [.int .i64 op, .str k, .str t, .str v]] = some (PD.v (.bool (mayB op k t v))).val := by
  rw [tree32]
  unfold mayB valOk patOk
  simp only [pd_v, cond_tf, some_cond]
  simp only [nil_len, cond_and, cond_or, cond_nn, cond_dec, cond_ndec, if_true, if_false, cond_true, cond_false]
  repeat' (first | (exfalso; omega) | with_reducible rfl | (refine ite_l (fun _ => ?_) (fun _ => ?_)) | (refine ite_r (fun _ => ?_) (fun _ => ?_)))

set_option maxRecDepth 10000 in
theorem tree36 (op : Int) (k t v : List UInt8) : treeOf laws8 tab [36] 4 200 36 [.agg [.int .i64 op, .str k, .str t, .str v]] =
    cond (decide ((↑(List.length k) : Int) < 1)) (some (.bool false)) (cond (decide (108 < (↑(List.length k) : Int))) (some (.bool false)) (cond (decide (op < 1)) (some (.bool false)) (cond (decide (4 < op)) (some (.bool false)) (cond (decide (op = 3)) (cond (decide (v = [])) (cond (decide ((↑(List.length t) : Int) ≤ 108)) (some (.bool !(Op.bytesLess t k || decide (t = k)))) (some (.bool false))) (some (.bool false))) (cond (!decide (t = [])) (some (.bool false)) (cond (decide (op = 1)) (cond (decide (0 < List.length k)) (some (.bool (valOk k v))) none) (cond (decide (op = 4)) (cond (decide (0 < List.length k)) (some (.bool (patOk k v))) none) (some (.bool (decide (v = []))))))))))) := by kernel_rfl

set_option maxHeartbeats 4000000 in
theorem law36 (op : Int) (k t v : List UInt8) : treeOf laws8 tab [36] 4 200 36 [.agg [.int .i64 op, .str k, .str t, .str v]] = some (PD.v (.bool (mayB op k t v))).val := by
  rw [tree36, less_total]
  unfold mayB
  by_cases ht : t = []
  · subst ht
    simp only [pd_v, some_cond]
    simp only [less_nil, List.length_nil, nil_len, cond_and, cond_or, cond_nn, cond_dec, cond_ndec, if_true, if_false, cond_true, cond_false]
    repeat' (first | (exfalso; omega) | with_reducible rfl | (refine ite_l (fun _ => ?_) (fun _ => ?_)) | (refine ite_r (fun _ => ?_) (fun _ => ?_)))
  · rw [nil_len] at ht
    simp only [pd_v, some_cond]
    simp only [nil_len, cond_and, cond_or, cond_nn, cond_dec, cond_ndec, if_true, if_false, cond_true, cond_false]
    repeat' (first | (exfalso; omega) | with_reducible rfl | (refine ite_l (fun _ => ?_) (fun _ => ?_)) | (refine ite_r (fun _ => ?_) (fun _ => ?_)))

noncomputable def gmay : List DV → Option PD := fun l => match l with
  | [.agg [.int .i64 op, .str k, .str t, .str v]] => some (.v (.bool (mayB op k t v)))
  | _ => none
theorem g32_ok : ∀ l d, gmay l = some d → d.ok = true → PlainCall Tryz.prog [] 32 (toVs l) (toV d.val) ∧ ofVs (toVs l) = some l := by
  intro l d h ho
  unfold gmay at h
  split at h
  · rename_i op k t v
    cases h
    exact ⟨plain_by _ tab_ok globals4 (by kernel_rfl) (law32 op k t v) ⟨⟨trivial, trivial, trivial, trivial, trivial⟩, trivial⟩ trivial, dec_msg op k t v⟩
  · cases h

theorem g36_ok : ∀ l d, gmay l = some d → d.ok = true → PlainCall Tryz.prog [] 36 (toVs l) (toV d.val) ∧ ofVs (toVs l) = some l := by
  intro l d h ho
  unfold gmay at h
  split at h
  · rename_i op k t v
    cases h
    exact ⟨plain_by _ tab_ok globals4 (by kernel_rfl) (law36 op k t v) ⟨⟨trivial, trivial, trivial, trivial, trivial⟩, trivial⟩ trivial, dec_msg op k t v⟩
  · cases h

noncomputable def laws9 : Laws Tryz.prog := (laws8.add 32 gmay g32_ok).add 36 gmay g36_ok
end
end Go.Vm.YtdmlbojhfgimnaaGreatDoor
