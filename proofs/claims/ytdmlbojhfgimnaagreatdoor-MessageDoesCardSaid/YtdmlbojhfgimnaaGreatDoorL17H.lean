/-
  Loops over rows of records: what the laws share.
-/
import Derived.Test.YtdmlbojhfgimnaaGreatDoorAP7
set_option linter.unusedVariables false
set_option linter.unusedSimpArgs false
namespace Go.Vm.YtdmlbojhfgimnaaGreatDoor
open Go.Proofs Go.Vm.R
noncomputable section
def at3 : CC → CC | .seq _ b => b | c => c
def fl : CC → CC | .seq a _ => a | c => c
def bl : CC → CC | .block _ b => b | c => c
def lp : CC → CC | .loop b => b | c => c
def thn : CC → CC | .cond _ a _ => a | c => c
def els : CC → CC | .cond _ _ b => b | c => c

theorem cT {α : Type} {p : Prop} [Decidable p] {a b : α} (h : p) : cond (decide p) a b = a := by rw [decide_eq_true h]; rfl
theorem cF {α : Type} {p : Prop} [Decidable p] {a b : α} (h : ¬ p) : cond (decide p) a b = b := by rw [decide_eq_false h]; rfl
theorem cA {α : Type} {p q : Prop} [Decidable p] [Decidable q] {a b : α} (h1 : p) (h2 : q) : cond (decide p && decide q) a b = a := by rw [decide_eq_true h1, decide_eq_true h2]; rfl
theorem cB {α : Type} {m n : Nat} {a b : α} (h : m < n) : cond (Nat.blt m n) a b = a := by rw [show Nat.blt m n = true by simpa using h]; rfl
theorem ev_br (b : Bool) (t f : R.Tree) : (R.Tree.br b t f).ev = cond b t.ev f.ev := by cases b <;> rfl
theorem ev_nd (b : Bool) (t : R.Tree) : (R.Tree.need b t).ev = cond b t.ev none := by cases b <;> rfl
theorem nextI {z : Int} {n : Nat} (h0 : 0 ≤ z) (h1 : z < n) (h2 : n < 9223372036854775808) : IntKind.wrap IntKind.i64 (z + 1) = z + 1 := wrap_i64 (by omega) (by omega)

theorem lt_need {N : Nat} {ld : LoopD} {rd : R.EK} {y : List (Nat × R.EK)} {b : Bool} {t : LT} {z : R.DV × R.DH} (h : ((LT.need b t).tree N ld rd y).ev = some z) : b = true ∧ (t.tree N ld rd y).ev = some z := by
  rw [LT.tree] at h; exact R.ev_need h
theorem lt_br {N : Nat} {ld : LoopD} {rd : R.EK} {y : List (Nat × R.EK)} (b : Bool) (t f : LT) : ((LT.br b t f).tree N ld rd y).ev = cond b (t.tree N ld rd y).ev (f.tree N ld rd y).ev := by
  rw [LT.tree]; exact ev_br ..
theorem wf_body {f : Nat} {c : CFn} (h : tab f = some c) : ccWf Tryz.prog.globals.size c.body := by
  obtain ⟨fn, b, _, _, _, _, _, h7⟩ := fnOf_some (tab_ok f c h)
  rw [h7]; exact codeOf_wf Tryz.prog b
theorem wf_at3 {G : Nat} : ∀ {c : CC}, ccWf G c → ccWf G (at3 c)
  | .seq _ _, h => h.2
  | .skip, h | .ops _, h | .draw .., h | .cond .., h | .block .., h | .loop _, h | .exit _, h | .ret, h | .bad, h => h
theorem wf_fl {G : Nat} : ∀ {c : CC}, ccWf G c → ccWf G (fl c)
  | .seq _ _, h => h.1
  | .skip, h | .ops _, h | .draw .., h | .cond .., h | .block .., h | .loop _, h | .exit _, h | .ret, h | .bad, h => h
theorem wf_thn {G : Nat} : ∀ {c : CC}, ccWf G c → ccWf G (thn c)
  | .cond _ _ _, h => h.1
  | .skip, h | .ops _, h | .draw .., h | .seq .., h | .block .., h | .loop _, h | .exit _, h | .ret, h | .bad, h => h
theorem wf_els {G : Nat} : ∀ {c : CC}, ccWf G c → ccWf G (els c)
  | .cond _ _ _, h => h.2
  | .skip, h | .ops _, h | .draw .., h | .seq .., h | .block .., h | .loop _, h | .exit _, h | .ret, h | .bad, h => h
theorem wf_bl {G : Nat} : ∀ {c : CC}, ccWf G c → ccWf G (bl c)
  | .block _ _, h => h
  | .skip, h | .ops _, h | .draw .., h | .seq .., h | .cond .., h | .loop _, h | .exit _, h | .ret, h | .bad, h => h
theorem wf_lp {G : Nat} : ∀ {c : CC}, ccWf G c → ccWf G (lp c)
  | .loop _, h => h
  | .skip, h | .ops _, h | .draw .., h | .seq .., h | .cond .., h | .block .., h | .exit _, h | .ret, h | .bad, h => h

theorem wf_loops {G : Nat} : ∀ (c : CC) (hd : Option Nat), ccWf G c → ∀ p ∈ loopsIn hd c, ccWf G p.2
  | .seq a b, hd, h, p, hp => by
    rcases List.mem_append.1 hp with hp | hp
    · exact wf_loops a hd h.1 p hp
    · exact wf_loops b hd h.2 p hp
  | .cond _ a b, hd, h, p, hp => by
    rcases List.mem_append.1 hp with hp | hp
    · exact wf_loops a hd h.1 p hp
    · exact wf_loops b hd h.2 p hp
  | .block id b, _, h, p, hp => wf_loops b (some id) h p hp
  | .loop b, some id, h, p, hp => by
    rcases List.mem_append.1 hp with hp | hp
    · cases List.mem_singleton.1 hp; exact h
    · exact wf_loops b (some id) h p hp
  | .loop b, none, h, p, hp => by
    rcases List.mem_append.1 hp with hp | hp
    · cases hp
    · exact wf_loops b none h p hp
  | .skip, _, _, _, hp | .ops _, _, _, _, hp | .draw .., _, _, _, hp | .exit _, _, _, _, hp | .ret, _, _, _, hp | .bad, _, _, _, hp => by cases hp
/-- the records of a slice -/
def seg {α : Type} (full : List α) (j n : Nat) : List α := (full.drop j).take n
theorem seg_len {α : Type} {full : List α} {j n : Nat} (h : j + n ≤ full.length) : (seg full j n).length = n := by
  simp [seg]; omega
theorem seg_drop {α : Type} {d : α} {full : List α} {j n : Nat} {z : Int} (h : j + n ≤ full.length) (h0 : 0 ≤ z) (h1 : z < n) : (seg full j n).drop z.toNat = full.getD (j + z.toNat) d :: (seg full j n).drop (z + 1).toNat := by
  have hl := seg_len h
  rw [show (z + 1).toNat = z.toNat + 1 by omega, List.drop_eq_getElem_cons (by omega)]
  congr 1
  have : (seg full j n)[z.toNat]? = full[j + z.toNat]? := by
    unfold seg
    rw [List.getElem?_take_of_lt (by omega), List.getElem?_drop]
  rw [List.getD_eq_getElem?_getD, ← this, List.getElem?_eq_getElem (by omega)]; rfl
theorem seg_end {α : Type} {full : List α} {j n : Nat} {z : Int} (h : j + n ≤ full.length) (h1 : ¬ z < n) (h0 : 0 ≤ z) : (seg full j n).drop z.toNat = [] := by
  have hl := seg_len h
  exact List.drop_eq_nil_of_le (by omega)

def lhX (ld : LoopD) : Nat → Option LoopD := fun id => match Nat.beq id 0 with
  | true => some ld
  | false => none
theorem lhX_ok {Q : Nat → CC → LoopD → Prop} {ld : LoopD} {l : List (Nat × CC)} {b : CC} (hl : l = [(0, b)]) (h : Q 0 b ld) : ∀ p ∈ l, ∀ d, lhX ld p.1 = some d → Q p.1 p.2 d := by
  subst hl
  intro p hp d e
  cases List.mem_singleton.1 hp
  cases e
  exact h
def lh2 (a b : LoopD) : Nat → Option LoopD := fun id => match Nat.beq id 0 with
  | true => some a
  | false => match Nat.beq id 2 with
    | true => some b
    | false => none
theorem lh2_ok {Q : Nat → CC → LoopD → Prop} {la lb : LoopD} {l : List (Nat × CC)} {a b : CC} (hl : l = [(0, a), (2, b)]) (ha : Q 0 a la) (hb : Q 2 b lb) : ∀ p ∈ l, ∀ d, lh2 la lb p.1 = some d → Q p.1 p.2 d := by
  subst hl
  intro p hp d e
  rcases List.mem_cons.1 hp with rfl | hp
  · cases e; exact ha
  · cases List.mem_singleton.1 hp
    cases e; exact hb
/-- what is asked of a slice: it lies in its row, and is short -/
def okN {α : Type} (full : List α) (j n : Nat) : Bool := decide (j + n ≤ full.length ∧ n < 999)
theorem okN_iff {α : Type} {full : List α} {j n : Nat} : okN full j n = true ↔ (j + n ≤ full.length ∧ n < 999) := by simp [okN]
theorem seg_whole {α : Type} {l : List α} {n : Nat} (h : l.length = n) : seg l 0 n = l := by subst h; simp [seg]
theorem room_msg {n : Nat} (h : n < 9999) : roomFor n 56 = true := by
  unfold roomFor
  rw [Nat.ble_eq_true_of_le (by omega), Nat.ble_eq_true_of_le (by omega)]; rfl
end
end Go.Vm.YtdmlbojhfgimnaaGreatDoor
