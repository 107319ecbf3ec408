/-
  Loops over rows of records: what the laws share.
-/
import Derived.Test.YtkjjpmbpjfmbcaaGreatDoorL17A
set_option linter.unusedVariables false
set_option linter.unusedSimpArgs false
namespace Go.Vm.YtkjjpmbpjfmbcaaGreatDoor
open Go.Proofs Go.Vm.R
noncomputable section
def fl : CC → CC | .seq a _ => a | c => c
def bl : CC → CC | .block _ b => b | c => c
theorem cT {α : Type} {p : Prop} [Decidable p] {a b : α} (h : p) : cond (decide p) a b = a := by rw [decide_eq_true h]; rfl
theorem cF {α : Type} {p : Prop} [Decidable p] {a b : α} (h : ¬ p) : cond (decide p) a b = b := by rw [decide_eq_false h]; rfl
theorem cA {α : Type} {p q : Prop} [Decidable p] [Decidable q] {a b : α} (h1 : p) (h2 : q) : cond (decide p && decide q) a b = a := by rw [decide_eq_true h1, decide_eq_true h2]; rfl
theorem cB {α : Type} {m n : Nat} {a b : α} (h : m < n) : cond (Nat.blt m n) a b = a := by rw [show Nat.blt m n = true by simpa using h]; rfl
theorem ev_br (b : Bool) (t f : R.Tree) : (R.Tree.br b t f).ev = cond b t.ev f.ev := by cases b <;> rfl
theorem nextI {z : Int} {n : Nat} (h0 : 0 ≤ z) (h1 : z < n) (h2 : n < 9223372036854775808) : IntKind.wrap IntKind.i64 (z + 1) = z + 1 := wrap_i64 (by omega) (by omega)

theorem lt_need {N : Nat} {ld : LoopD} {rd : R.EK} {y : List (Nat × R.EK)} {b : Bool} {t : LT} {z : R.DV × R.DH} (h : ((LT.need b t).tree N ld rd y).ev = some z) : b = true ∧ (t.tree N ld rd y).ev = some z := by
  rw [LT.tree] at h; exact R.ev_need h
theorem lt_br {N : Nat} {ld : LoopD} {rd : R.EK} {y : List (Nat × R.EK)} (b : Bool) (t f : LT) : ((LT.br b t f).tree N ld rd y).ev = cond b (t.tree N ld rd y).ev (f.tree N ld rd y).ev := by
  rw [LT.tree]; exact ev_br ..
theorem wf_body {f : Nat} {c : CFn} (h : tab f = some c) : ccWf Tryz.prog.globals.size c.body := by
  obtain ⟨fn, b, _, _, _, _, _, h7⟩ := fnOf_some (tab_ok f c h)
  rw [h7]; exact codeOf_wf Tryz.prog b
theorem wf_loops {G : Nat} : ∀ (c : CC) (hd : Option Nat), ccWf G c → ∀ p ∈ loopsIn hd c, ccWf G p.2
  | .seq a b, hd, h, p, hp => by
    rcases List.mem_append.1 hp with hp | hp
    · exact wf_loops a hd h.1 p hp
    · exact wf_loops b hd h.2 p hp
  | .cond _ a b, hd, h, p, hp => by
    rcases List.mem_append.1 hp with hp | hp
    · exact wf_loops a hd h.1 p hp
    · exact wf_loops b hd h.2 p hp
  | .block id b, _, h, p, hp => wf_loops b (some id) h p hp
  | .loop b, some id, h, p, hp => by
    rcases List.mem_append.1 hp with hp | hp
    · cases List.mem_singleton.1 hp; exact h
    · exact wf_loops b (some id) h p hp
  | .loop b, none, h, p, hp => by
    rcases List.mem_append.1 hp with hp | hp
    · cases hp
    · exact wf_loops b none h p hp
  | .skip, _, _, _, hp | .ops _, _, _, _, hp | .draw .., _, _, _, hp | .exit _, _, _, _, hp | .ret, _, _, _, hp | .bad, _, _, _, hp => by cases hp
/-- the records of a slice -/
def seg {α : Type} (full : List α) (j n : Nat) : List α := (full.drop j).take n
theorem seg_len {α : Type} {full : List α} {j n : Nat} (h : j + n ≤ full.length) : (seg full j n).length = n := by
  simp [seg]; omega
theorem seg_drop {α : Type} {d : α} {full : List α} {j n : Nat} {z : Int} (h : j + n ≤ full.length) (h0 : 0 ≤ z) (h1 : z < n) : (seg full j n).drop z.toNat = full.getD (j + z.toNat) d :: (seg full j n).drop (z + 1).toNat := by
  have hl := seg_len h
  rw [show (z + 1).toNat = z.toNat + 1 by omega, List.drop_eq_getElem_cons (by omega)]
  congr 1
  have : (seg full j n)[z.toNat]? = full[j + z.toNat]? := by
    unfold seg
    rw [List.getElem?_take_of_lt (by omega), List.getElem?_drop]
  rw [List.getD_eq_getElem?_getD, ← this, List.getElem?_eq_getElem (by omega)]; rfl
theorem seg_end {α : Type} {full : List α} {j n : Nat} {z : Int} (h : j + n ≤ full.length) (h1 : ¬ z < n) (h0 : 0 ≤ z) : (seg full j n).drop z.toNat = [] := by
  have hl := seg_len h
  exact List.drop_eq_nil_of_le (by omega)

def lhX (ld : LoopD) : Nat → Option LoopD := fun id => match Nat.beq id 0 with
  | true => some ld
  | false => none
theorem lhX_ok {Q : Nat → CC → LoopD → Prop} {ld : LoopD} {l : List (Nat × CC)} {b : CC} (hl : l = [(0, b)]) (h : Q 0 b ld) : ∀ p ∈ l, ∀ d, lhX ld p.1 = some d → Q p.1 p.2 d := by
  subst hl
  intro p hp d e
  cases List.mem_singleton.1 hp
  cases e
  exact h
theorem room_msg {n : Nat} (h : n < 9999) : roomFor n 56 = true := by
  unfold roomFor
  rw [Nat.ble_eq_true_of_le (by omega), Nat.ble_eq_true_of_le (by omega)]; rfl
end
end Go.Vm.YtkjjpmbpjfmbcaaGreatDoor
