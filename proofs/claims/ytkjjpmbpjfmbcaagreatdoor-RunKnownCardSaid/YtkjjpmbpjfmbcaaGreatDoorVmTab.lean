/-
  A table of compiled functions.
-/
import Derived.Test.YtkjjpmbpjfmbcaaGreatDoorVmExec3
set_option linter.unusedVariables false
set_option linter.unusedSimpArgs false
namespace Go.Vm

def tabOf : List (Nat × CFn) → Nat → Option CFn
  | [], _ => none
  | (g, c) :: r, f => match Nat.beq g f with
    | true => some c
    | false => tabOf r f

theorem tab_of {P : Program} {l : List (Nat × CFn)} (h : ∀ x ∈ l, fnOf P x.1 = some x.2) : Tab P (tabOf l) := by
  intro f c hf
  induction l with
  | nil => cases hf
  | cons x r ih =>
    obtain ⟨g, d⟩ := x
    simp only [tabOf] at hf
    split at hf
    · rename_i hb
      have := Nat.eq_of_beq_eq_true hb
      subst this
      simp only [Option.some.injEq] at hf
      subst hf
      exact h _ List.mem_cons_self
    · exact ih (fun y hy => h y (List.mem_cons_of_mem _ hy)) hf

end Go.Vm
