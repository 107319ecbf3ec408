/-
  The context of MessageRange's walk, and its pieces.
-/
import Derived.Test.YtdmlbojhfgimnaaGreatDoorRng
import Derived.Test.YtdmlbojhfgimnaaGreatDoorCUT
set_option linter.unusedVariables false
set_option linter.unusedSimpArgs false
namespace Go.Vm.YtdmlbojhfgimnaaGreatDoor
open Go.Proofs Go.Vm.R
noncomputable section
/-- what messages do, as functions that no run opens -/
structure FN where
  mf : MF
  h : mf = applyM
  pr : PR
  po : PO
  tf : TF
  h1 : pr = prM
  h2 : po = partOk
  h3 : tf = tM
def LR (A : FN) : Laws Tryz.prog := lawsR A.mf A.h A.pr A.po A.tf A.h1 A.h2 A.h3
section
variable (A : FN)
theorem aboveR : R.Above (LR A) (LR A).O := ⟨(LR A).O_good, fun _ _ _ _ _ e => e⟩
def knR : Nat → Bool := fun f => (LR A).dom.any (Nat.beq f)
theorem knR_no : ∀ f, knR A f = false → ∀ a w, (LR A).O f a w = .no := by
  intro f hf a w
  refine (LR A).O_no (fun hm => ?_) a w
  have : knR A f = true := List.any_eq_true.2 ⟨f, hm, Nat.beq_refl f⟩
  rw [this] at hf; cases hf
def CR : R.Ctx Tryz.prog := ⟨LR A, glB, globals4.symm, (LR A).O, aboveR A, tab, tab_ok, knR A, knR_no A, kdB⟩
def YR : (CR A).RL := R.RLaws.none (CR A).G (CR A).O (CR A).tab
end
def headC : CC → CC | .seq a _ => a | c => c
def tailC : CC → CC | .seq _ b => b | c => c
def pc (n : Nat) : CC := n.rec c7.body fun _ r => tailC r
def hn (l : List Nat) : List R.Hint := l.map fun t => (t, none)
def cuts7 : List (Option (List R.Hint)) := [some (hn [3, 4, 5]), some (hn [3, 4, 5]), some (hn [3, 4, 7, 8, 9]), some (hn [3, 4, 7, 8, 9]), some (hn [3, 4, 7, 8, 9, 10]), some (hn [3, 4, 7, 8, 9, 10, 11]), some (hn [3, 4, 7, 8, 9, 10, 11]), some (hn [3, 4, 7, 8, 9, 10, 11, 13, 14]), some (hn [3, 4, 7, 8, 9, 10, 13, 14, 15, 16]), some (hn [3, 4, 7, 8, 9, 10, 13, 14]), some (hn [3, 4, 7, 8, 9, 10, 13, 14, 17, 18]), some (hn [3, 4, 8, 9, 10, 13, 14, 17, 18]), some (hn [3, 4, 10, 13, 14, 17, 18]), some (hn [3, 4, 13, 14]), some (hn [3, 13, 14])]
abbrev RR : R.EK := R.resultsD [.t 6] (R.finK 0 R.okK)
abbrev clR (A : FN) : R.DC := R.callD (hookOf (LR A) (YR A)) kdB (knR A) tab 200
/-- one piece -/
def sg (A : FN) (n : Nat) (e : T R.DV) (d : R.DH) (k : R.EK) : R.Tree := R.execD kdB (clR A) (fun _ => none) 200 244 0 (headC (pc n)) e d RR [] k
/-- from the piece of this number on -/
def rs (A : FN) (n : Nat) : R.EK := fun e d => cutD kdB (clR A) (fun _ => none) 200 244 0 (cuts7.drop n) (pc n) e d RR [] RR
def ce (n : Nat) : List R.Hint := match cuts7[n]? with
  | some (some l) => l
  | _ => []
end
end Go.Vm.YtdmlbojhfgimnaaGreatDoor
