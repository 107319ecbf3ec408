/-
  Layer 17: where the first part lies, and what is left behind it; First, done again and again.
-/
import Derived.Test.YtkjjpmbpjfmbcaaGreatDoorL17I
set_option linter.unusedVariables false
set_option linter.unusedSimpArgs false
namespace Go.Vm.YtkjjpmbpjfmbcaaGreatDoor
open Go.Proofs Go.Vm.R
noncomputable section
theorem no_first {x y : Txt} (lf : Msg → Txt → Txt → List Msg) : ∀ (l : List Msg) (m : Msg), noP x y l = true → firstM x y l m = m ∧ restF lf x y l = l
  | [], _, _ => ⟨rfl, rfl⟩
  | e :: r, m, h => by
    have h : cond (partOk e x y) false (noP x y r) = true := h
    show cond (partOk e x y) _ (firstM x y r m) = m ∧ cond (partOk e x y) _ (e :: restF lf x y r) = e :: r
    cases hp : partOk e x y with
    | true => rw [hp] at h; cases h
    | false =>
      rw [hp] at h
      obtain ⟨h1, h2⟩ := no_first lf r m h
      exact ⟨h1, by show e :: restF lf x y r = _; rw [h2]⟩
theorem idxP_shift (x y : Txt) : ∀ (l : List Msg) (z : Int), idxP x y l (z + 1) = idxP x y l z + 1
  | [], _ => rfl
  | e :: r, z => by
    show cond (partOk e x y) (z + 1) (idxP x y r (z + 1 + 1)) = cond (partOk e x y) z (idxP x y r (z + 1)) + 1
    rw [idxP_shift x y r (z + 1)]
    cases partOk e x y <;> rfl
/-- the first part's place: it is there, it has a part, and what First leaves is what lies before it, what is left of it, and what lies behind -/
theorem at_first {x y : Txt} (lf : Msg → Txt → Txt → List Msg) : ∀ (l : List Msg) (m : Msg), noP x y l = false → ∃ i : Nat, idxP x y l 0 = i ∧ i < l.length ∧ partOk (l.getD i (0, [], [], [])) x y = true ∧
    firstM x y l m = partM (l.getD i (0, [], [], [])) x y ∧ restF lf x y l = l.take i ++ (lf (l.getD i (0, [], [], [])) x y ++ l.drop (i + 1))
  | [], _, h => by cases h
  | e :: r, m, h => by
    have h : cond (partOk e x y) false (noP x y r) = false := h
    have e1 : idxP x y (e :: r) 0 = cond (partOk e x y) 0 (idxP x y r (0 + 1)) := rfl
    have e2 : firstM x y (e :: r) m = cond (partOk e x y) (partM e x y) (firstM x y r m) := rfl
    have e3 : restF lf x y (e :: r) = cond (partOk e x y) (lf e x y ++ r) (e :: restF lf x y r) := rfl
    rw [e1, e2, e3]
    cases hp : partOk e x y with
    | true => exact ⟨0, rfl, Nat.zero_lt_succ _, hp, rfl, rfl⟩
    | false =>
      rw [hp] at h
      obtain ⟨i, h1, h2, h3, h4, h5⟩ := at_first lf r m h
      refine ⟨i + 1, ?_, by rw [List.length_cons]; omega, h3, h4, ?_⟩
      · show idxP x y r (0 + 1) = _
        rw [idxP_shift, h1]; rfl
      · show e :: restF lf x y r = _
        rw [h5]; rfl
theorem restF_eq {x y : Txt} : ∀ l : List Msg, restF leftL x y l = restF leftR x y l
  | [] => rfl
  | e :: r => by
    show cond (partOk e x y) (leftL e x y ++ r) (e :: restF leftL x y r) = cond (partOk e x y) (leftR e x y ++ r) (e :: restF leftR x y r)
    rw [restF_eq r]
    cases h : partOk e x y with
    | false => rfl
    | true => rw [left_eq h]
theorem restF_len {lf : Msg → Txt → Txt → List Msg} (hl : ∀ m x y, (lf m x y).length ≤ 2) (x y : Txt) : ∀ l : List Msg, (restF lf x y l).length ≤ l.length + 1
  | [] => Nat.zero_le _
  | e :: r => by
    have := restF_len hl x y r
    have h2 := hl e x y
    show (cond (partOk e x y) (lf e x y ++ r) (e :: restF lf x y r)).length ≤ _
    rw [List.length_cons]
    cases partOk e x y
    · show (e :: restF lf x y r).length ≤ _
      rw [List.length_cons]; omega
    · show (lf e x y ++ r).length ≤ _
      rw [List.length_append]; omega
theorem restL_len {lf : Msg → Txt → Txt → List Msg} (hl : ∀ m x y, (lf m x y).length ≤ 2) (x y : Txt) : ∀ l : List Msg, (restL lf x y l).length ≤ 2 * l.length
  | [] => Nat.zero_le _
  | e :: r => by
    have := restL_len hl x y r
    have h2 := hl e x y
    show (cond (partOk e x y) (lf e x y) [e] ++ restL lf x y r).length ≤ _
    rw [List.length_append, List.length_cons]
    cases partOk e x y
    · show [e].length + _ ≤ _
      rw [List.length_singleton]; omega
    · show (lf e x y).length + _ ≤ _
      omega
theorem inL_len (x y : Txt) : ∀ l : List Msg, (inL x y l).length ≤ l.length
  | [] => Nat.zero_le _
  | e :: r => by
    have := inL_len x y r
    show (cond (partOk e x y) (partM e x y :: inL x y r) (inL x y r)).length ≤ _
    rw [List.length_cons]
    cases partOk e x y
    · show (inL x y r).length ≤ _; omega
    · show (partM e x y :: inL x y r).length ≤ _
      rw [List.length_cons]; omega
end
end Go.Vm.YtkjjpmbpjfmbcaaGreatDoor
