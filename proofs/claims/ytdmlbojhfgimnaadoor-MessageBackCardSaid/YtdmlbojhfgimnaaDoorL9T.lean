/-
  The law MessageBack, as a plain call: it answers true, whatever the message and the text.
-/
import Derived.Test.YtdmlbojhfgimnaaDoorL9S
set_option linter.unusedVariables false
set_option linter.unusedSimpArgs false
namespace Go.Vm.YtdmlbojhfgimnaaDoor
open Go.Proofs
noncomputable section

/-- the answers of Take at two texts -/
noncomputable def gtakeB (s : List UInt8) (op : Int) (k t v : List UInt8) (op' : Int) (k' t' v' : List UInt8) (e' : Int) : List DV → Option PD := fun l => match l with
  | [.str x] => some (.br (decide (x = s)) (.need (isTake x op' k' t' v' e') (.v (.tup [.agg [.int .i64 op', .str k', .str t', .str v'], .int .i64 e'])))
      (.need (isTake x op k t v 0) (.v (.tup [.agg [.int .i64 op, .str k, .str t, .str v], .int .i64 0]))))
  | _ => none
theorem gtakeB_ok (s : List UInt8) (op : Int) (k t v : List UInt8) (op' : Int) (k' t' v' : List UInt8) (e' : Int) : ∀ l d, gtakeB s op k t v op' k' t' v' e' l = some d → d.ok = true → PlainCall Tryd.prog [] 7 (toVs l) (toV d.val) ∧ ofVs (toVs l) = some l := by
  intro l d hl ho
  unfold gtakeB at hl
  split at hl
  · rename_i x
    cases hl
    have key : ∀ op k t v e, isTake x op k t v e = true → PlainCall Tryd.prog [] 7 (toVs [.str x]) (toV (.tup [.agg [.int .i64 op, .str k, .str t, .str v], .int .i64 e])) := by
      intro op k t v e ho
      unfold isTake at ho
      rw [Bool.and_eq_true] at ho
      have h1 := of_decide_eq_true ho.1
      have h2 := @of_decide_eq_true _ (Classical.propDecidable _) ho.2
      have := call15 x h1
      rw [h2] at this
      exact this
    refine ⟨?_, dec_s x⟩
    simp only [PD.ok, PD.val] at ho ⊢
    split
    · rename_i hb
      rw [hb] at ho
      simp only [Bool.and_true] at ho
      exact key _ _ _ _ _ ho
    · rename_i hb
      rw [hb] at ho
      simp only [Bool.and_true] at ho
      exact key _ _ _ _ _ ho
  · cases hl
noncomputable def lawsB (s : List UInt8) (op : Int) (k t v : List UInt8) (op' : Int) (k' t' v' : List UInt8) (e' : Int) : Laws Tryd.prog := laws13.add 7 (gtakeB s op k t v op' k' t' v' e') (gtakeB_ok s op k t v op' k' t' v' e')
set_option maxRecDepth 10000 in
theorem tree3 (s : List UInt8) (op : Int) (k t v : List UInt8) (op' : Int) (k' t' v' : List UInt8) (e' : Int) : treeOf (lawsB s op k t v op' k' t' v' e') tab [3] 4 200 3 [.agg [.int .i64 op, .str k, .str t, .str v], .str s] =
    cond (!fewB k t v) (some (DV.bool true)) (cond (decide (1000 < (↑(List.length s) : Int))) (some (DV.bool true)) (cond (fewB k t v) (cond (mayB op k t v) (cond (decide (putS op k t v = s)) (cond (isTake (putS op k t v) op' k' t' v' e') (cond (!decide (e' = 0)) (some (DV.bool false)) (cond ((decide (op' = op) && (decide (k' = k) && (decide (t' = t) && (decide (v' = v) && true)))) != true) (some (DV.bool false)) (cond (decide (221 < (↑(List.length (putS op k t v)) : Int))) (some (DV.bool false)) (cond (decide (s = s)) (cond (isTake s op' k' t' v' e') (cond (!decide (e' = 0)) (cond ((decide (op' = 0) && (decide (k' = []) && (decide (t' = []) && (decide (v' = []) && true)))) != false) (some (DV.bool true)) (some (DV.bool false))) (cond (fewB k' t' v') (cond (mayB op' k' t' v') (cond (decide (putS op' k' t' v' = s)) (some (DV.bool true)) (some (DV.bool false))) (cond (decide ([] = s)) (some (DV.bool false)) (some (DV.bool false)))) none)) none) (cond (isTake s op k t v 0) (cond (fewB k t v) (cond (mayB op k t v) (cond (decide (putS op k t v = s)) (some (DV.bool true)) (some (DV.bool false))) (cond (decide ([] = s)) (some (DV.bool false)) (some (DV.bool false)))) none) none))))) none) (cond (isTake (putS op k t v) op k t v 0) (cond ((decide (op = op) && (decide (k = k) && (decide (t = t) && (decide (v = v) && true)))) != true) (some (DV.bool false)) (cond (decide (221 < (↑(List.length (putS op k t v)) : Int))) (some (DV.bool false)) (cond (decide (s = s)) (cond (isTake s op' k' t' v' e') (cond (!decide (e' = 0)) (cond ((decide (op' = 0) && (decide (k' = []) && (decide (t' = []) && (decide (v' = []) && true)))) != false) (some (DV.bool true)) (some (DV.bool false))) (cond (fewB k' t' v') (cond (mayB op' k' t' v') (cond (decide (putS op' k' t' v' = s)) (some (DV.bool true)) (some (DV.bool false))) (cond (decide ([] = s)) (some (DV.bool false)) (some (DV.bool false)))) none)) none) (cond (isTake s op k t v 0) (cond (fewB k t v) (cond (mayB op k t v) (cond (decide (putS op k t v = s)) (some (DV.bool true)) (some (DV.bool false))) (cond (decide ([] = s)) (some (DV.bool false)) (some (DV.bool false)))) none) none)))) none)) (cond (decide (s = s)) (cond (isTake s op' k' t' v' e') (cond (!decide (e' = 0)) (cond ((decide (op' = 0) && (decide (k' = []) && (decide (t' = []) && (decide (v' = []) && true)))) != false) (some (DV.bool true)) (some (DV.bool false))) (cond (fewB k' t' v') (cond (mayB op' k' t' v') (cond (decide (putS op' k' t' v' = s)) (some (DV.bool true)) (some (DV.bool false))) (cond (decide ([] = s)) (some (DV.bool false)) (some (DV.bool false)))) none)) none) (cond (isTake s op k t v 0) (cond (fewB k t v) (cond (mayB op k t v) (cond (decide (putS op k t v = s)) (some (DV.bool true)) (some (DV.bool false))) (cond (decide ([] = s)) (some (DV.bool false)) (some (DV.bool false)))) none) none))) none)) := by kernel_rfl
theorem plain3 (op : Int) (k t v s : List UInt8) : PlainCall Tryd.prog [] 3 (toVs [.agg [.int .i64 op, .str k, .str t, .str v], .str s]) (.bool true) := by
  have fin : ∀ op' k' t' v' e', treeOf (lawsB s op k t v op' k' t' v' e') tab [3] 4 200 3 [.agg [.int .i64 op, .str k, .str t, .str v], .str s] = some (.bool true) → PlainCall Tryd.prog [] 3 (toVs [.agg [.int .i64 op, .str k, .str t, .str v], .str s]) (.bool true) := fun op' k' t' v' e' h =>
    plain_by (v := .bool true) _ tab_ok globals4 (inl := [3]) (n := 200) (by kernel_rfl) h ⟨⟨trivial, trivial, trivial, trivial, trivial⟩, trivial, trivial⟩ trivial
  cases hf : fewB k t v with
  | false =>
    refine fin 0 [] [] [] 0 ?_
    rw [tree3, hf]; rfl
  | true =>
    by_cases hs : s.length ≤ 1000
    · have hb : decide (1000 < (s.length : Int)) = false := decide_eq_false (by omega)
      have hl : mayB op k t v = true → decide (221 < (↑(List.length (putS op k t v)) : Int)) = false := fun hm => decide_eq_false (by have := put_len hm; omega)
      have hi : mayB op k t v = true → isTake (putS op k t v) op k t v 0 = true := fun hm => isTake_of (by have := put_len hm; omega) (take_put hm)
      rcases put_take s hs with ⟨e, he, ht⟩ | ⟨op', k', t', v', ht, hm', hp', hf'⟩
      · refine fin 0 [] [] [] e ?_
        have hi' : isTake s 0 [] [] [] e = true := isTake_of hs ht
        rw [tree3, hf, hb, hi']
        cases hm : mayB op k t v with
        | false => simp [he]
        | true =>
          have hne : putS op k t v ≠ s := by
            intro e2
            have := take_put hm
            rw [e2, ht] at this
            unfold errT okT at this
            injection this with this
            simp at this
            exact he this.2
          simp [he, hl hm, hi hm, hne]
      · refine fin op' k' t' v' 0 ?_
        have hi' : isTake s op' k' t' v' 0 = true := isTake_of hs ht
        rw [tree3, hf, hb, hi', hf', hm', hp']
        cases hm : mayB op k t v with
        | false => simp
        | true =>
          by_cases e2 : putS op k t v = s
          · have h3 := take_put hm
            rw [e2, ht] at h3
            unfold okT at h3
            injection h3 with h3
            simp at h3
            obtain ⟨rfl, rfl, rfl, rfl⟩ := h3
            simp [hl hm, hi hm, e2, hi', hs]
            have h4 := put_len hm
            rw [e2] at h4
            rw [show decide (221 < (s.length : Int)) = false from decide_eq_false (by omega)]; rfl
          · simp [hl hm, hi hm, e2]
    · refine fin 0 [] [] [] 0 ?_
      rw [tree3, hf, show decide (1000 < (s.length : Int)) = true from decide_eq_true (by omega)]; rfl
end
end Go.Vm.YtdmlbojhfgimnaaDoor
