/-
  One way through a tree.
-/
import Derived.Test.YtkjjpmbpjfmbcaaGreatDoorL17J
set_option linter.unusedVariables false
set_option linter.unusedSimpArgs false
namespace Go.Vm.R
/-- where these answers lead -/
def Tree.go : List Bool → Tree → Tree
  | true :: r, .br _ t _ => Tree.go r t
  | false :: r, .br _ _ f => Tree.go r f
  | true :: r, .need _ t => Tree.go r t
  | _, x => x
/-- .. if they are the tree's -/
def Tree.cks : List Bool → Tree → Bool
  | true :: r, .br b t _ => b && Tree.cks r t
  | false :: r, .br b _ f => !b && Tree.cks r f
  | true :: r, .need b t => b && Tree.cks r t
  | [], _ => true
  | _, _ => false
theorem Tree.ev_go : ∀ (p : List Bool) (x : Tree), Tree.cks p x = true → x.ev = (Tree.go p x).ev
  | [], x, _ => by cases x <;> rfl
  | true :: r, .br b t f, h => by
    have h : (b && Tree.cks r t) = true := h
    rw [Bool.and_eq_true] at h
    obtain ⟨rfl, h⟩ := h
    exact Tree.ev_go r t h
  | false :: r, .br b t f, h => by
    have h : (!b && Tree.cks r f) = true := h
    rw [Bool.and_eq_true, Bool.not_eq_true'] at h
    obtain ⟨rfl, h⟩ := h
    exact Tree.ev_go r f h
  | true :: r, .need b t, h => by
    have h : (b && Tree.cks r t) = true := h
    rw [Bool.and_eq_true] at h
    obtain ⟨rfl, h⟩ := h
    exact Tree.ev_go r t h
  | false :: r, .need b t, h => by cases h
  | true :: r, .ok v d, h => by cases h
  | false :: r, .ok v d, h => by cases h
  | true :: r, .no, h => by cases h
  | false :: r, .no, h => by cases h
end Go.Vm.R
