/-
  Loops over rows of records: what the laws share.
-/
import Derived.Test.YtdmlbojhfgimnaaGreatDoorAP7
set_option linter.unusedVariables false
set_option linter.unusedSimpArgs false
namespace Go.Vm.YtdmlbojhfgimnaaGreatDoor
open Go.Proofs Go.Vm.R
noncomputable section
def fl : CC → CC | .seq a _ => a | c => c
def bl : CC → CC | .block _ b => b | c => c
theorem cT {α : Type} {p : Prop} [Decidable p] {a b : α} (h : p) : cond (decide p) a b = a := by rw [decide_eq_true h]; rfl
theorem cF {α : Type} {p : Prop} [Decidable p] {a b : α} (h : ¬ p) : cond (decide p) a b = b := by rw [decide_eq_false h]; rfl
theorem cA {α : Type} {p q : Prop} [Decidable p] [Decidable q] {a b : α} (h1 : p) (h2 : q) : cond (decide p && decide q) a b = a := by rw [decide_eq_true h1, decide_eq_true h2]; rfl
theorem ev_br (b : Bool) (t f : R.Tree) : (R.Tree.br b t f).ev = cond b t.ev f.ev := by cases b <;> rfl
theorem lt_need {N : Nat} {ld : LoopD} {rd : R.EK} {y : List (Nat × R.EK)} {b : Bool} {t : LT} {z : R.DV × R.DH} (h : ((LT.need b t).tree N ld rd y).ev = some z) : b = true ∧ (t.tree N ld rd y).ev = some z := by
  rw [LT.tree] at h; exact R.ev_need h
theorem wf_body {f : Nat} {c : CFn} (h : tab f = some c) : ccWf Tryz.prog.globals.size c.body := by
  obtain ⟨fn, b, _, _, _, _, _, h7⟩ := fnOf_some (tab_ok f c h)
  rw [h7]; exact codeOf_wf Tryz.prog b
theorem wf_loops {G : Nat} : ∀ (c : CC) (hd : Option Nat), ccWf G c → ∀ p ∈ loopsIn hd c, ccWf G p.2
  | .seq a b, hd, h, p, hp => by
    rcases List.mem_append.1 hp with hp | hp
    · exact wf_loops a hd h.1 p hp
    · exact wf_loops b hd h.2 p hp
  | .cond _ a b, hd, h, p, hp => by
    rcases List.mem_append.1 hp with hp | hp
    · exact wf_loops a hd h.1 p hp
    · exact wf_loops b hd h.2 p hp
  | .block id b, _, h, p, hp => wf_loops b (some id) h p hp
  | .loop b, some id, h, p, hp => by
    rcases List.mem_append.1 hp with hp | hp
    · cases List.mem_singleton.1 hp; exact h
    · exact wf_loops b (some id) h p hp
  | .loop b, none, h, p, hp => by
    rcases List.mem_append.1 hp with hp | hp
    · cases hp
    · exact wf_loops b none h p hp
  | .skip, _, _, _, hp | .ops _, _, _, _, hp | .draw .., _, _, _, hp | .exit _, _, _, _, hp | .ret, _, _, _, hp | .bad, _, _, _, hp => by cases hp
def lhX (ld : LoopD) : Nat → Option LoopD := fun id => match Nat.beq id 0 with
  | true => some ld
  | false => none
theorem lhX_ok {Q : Nat → CC → LoopD → Prop} {ld : LoopD} {l : List (Nat × CC)} {b : CC} (hl : l = [(0, b)]) (h : Q 0 b ld) : ∀ p ∈ l, ∀ d, lhX ld p.1 = some d → Q p.1 p.2 d := by
  subst hl
  intro p hp d e
  cases List.mem_singleton.1 hp
  cases e
  exact h
end
end Go.Vm.YtdmlbojhfgimnaaGreatDoor
