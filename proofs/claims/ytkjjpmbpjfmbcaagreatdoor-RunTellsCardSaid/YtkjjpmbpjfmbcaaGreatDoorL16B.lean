/-
  few: may a list be gone through?
-/
import Derived.Test.YtkjjpmbpjfmbcaaGreatDoorL16A
set_option linter.unusedVariables false
set_option linter.unusedSimpArgs false
namespace Go.Vm.YtkjjpmbpjfmbcaaGreatDoor
open Go.Proofs Go.Vm.R
noncomputable section
abbrev Ent := List UInt8 × List UInt8
def at3 : CC → CC | .seq _ b => b | c => c
def fl : CC → CC | .seq a _ => a | c => c
def bl : CC → CC | .block _ b => b | c => c
def lp : CC → CC | .loop b => b | c => c
def thn : CC → CC | .cond _ a _ => a | c => c
def els : CC → CC | .cond _ _ b => b | c => c

theorem cT {α : Type} {p : Prop} [Decidable p] {a b : α} (h : p) : cond (decide p) a b = a := by rw [decide_eq_true h]; rfl
theorem cF {α : Type} {p : Prop} [Decidable p] {a b : α} (h : ¬ p) : cond (decide p) a b = b := by rw [decide_eq_false h]; rfl
theorem cA {α : Type} {p q : Prop} [Decidable p] [Decidable q] {a b : α} (h1 : p) (h2 : q) : cond (decide p && decide q) a b = a := by rw [decide_eq_true h1, decide_eq_true h2]; rfl
theorem cB {α : Type} {m n : Nat} {a b : α} (h : m < n) : cond (Nat.blt m n) a b = a := by rw [show Nat.blt m n = true by simpa using h]; rfl
theorem ev_br (b : Bool) (t f : R.Tree) : (R.Tree.br b t f).ev = cond b t.ev f.ev := by cases b <;> rfl
theorem ev_nd (b : Bool) (t : R.Tree) : (R.Tree.need b t).ev = cond b t.ev none := by cases b <;> rfl
theorem nextI {z : Int} {n : Nat} (h0 : 0 ≤ z) (h1 : z < n) (h2 : n < 9223372036854775808) : IntKind.wrap IntKind.i64 (z + 1) = z + 1 := wrap_i64 (by omega) (by omega)

theorem lt_need {N : Nat} {ld : LoopD} {rd : R.EK} {y : List (Nat × R.EK)} {b : Bool} {t : LT} {z : R.DV × R.DH} (h : ((LT.need b t).tree N ld rd y).ev = some z) : b = true ∧ (t.tree N ld rd y).ev = some z := by
  rw [LT.tree] at h; exact R.ev_need h
theorem lt_br {N : Nat} {ld : LoopD} {rd : R.EK} {y : List (Nat × R.EK)} (b : Bool) (t f : LT) : ((LT.br b t f).tree N ld rd y).ev = cond b (t.tree N ld rd y).ev (f.tree N ld rd y).ev := by
  rw [LT.tree]; exact ev_br ..
theorem wf_body {f : Nat} {c : CFn} (h : tab f = some c) : ccWf Tryz.prog.globals.size c.body := by
  obtain ⟨fn, b, _, _, _, _, _, h7⟩ := fnOf_some (tab_ok f c h)
  rw [h7]; exact codeOf_wf Tryz.prog b
theorem wf_at3 {G : Nat} : ∀ {c : CC}, ccWf G c → ccWf G (at3 c)
  | .seq _ _, h => h.2
  | .skip, h | .ops _, h | .draw .., h | .cond .., h | .block .., h | .loop _, h | .exit _, h | .ret, h | .bad, h => h
theorem wf_fl {G : Nat} : ∀ {c : CC}, ccWf G c → ccWf G (fl c)
  | .seq _ _, h => h.1
  | .skip, h | .ops _, h | .draw .., h | .cond .., h | .block .., h | .loop _, h | .exit _, h | .ret, h | .bad, h => h
theorem wf_thn {G : Nat} : ∀ {c : CC}, ccWf G c → ccWf G (thn c)
  | .cond _ _ _, h => h.1
  | .skip, h | .ops _, h | .draw .., h | .seq .., h | .block .., h | .loop _, h | .exit _, h | .ret, h | .bad, h => h
theorem wf_els {G : Nat} : ∀ {c : CC}, ccWf G c → ccWf G (els c)
  | .cond _ _ _, h => h.2
  | .skip, h | .ops _, h | .draw .., h | .seq .., h | .block .., h | .loop _, h | .exit _, h | .ret, h | .bad, h => h
theorem wf_bl {G : Nat} : ∀ {c : CC}, ccWf G c → ccWf G (bl c)
  | .block _ _, h => h
  | .skip, h | .ops _, h | .draw .., h | .seq .., h | .cond .., h | .loop _, h | .exit _, h | .ret, h | .bad, h => h
theorem wf_lp {G : Nat} : ∀ {c : CC}, ccWf G c → ccWf G (lp c)
  | .loop _, h => h
  | .skip, h | .ops _, h | .draw .., h | .seq .., h | .cond .., h | .block .., h | .exit _, h | .ret, h | .bad, h => h

/-- what is asked of a slice and a place in it -/
def okS (full : List Ent) (j n : Nat) (z : Int) : Bool := decide (0 ≤ z ∧ z ≤ n ∧ j + n ≤ full.length ∧ n < 9223372036854775808)
theorem okS_iff {full : List Ent} {j n : Nat} {z : Int} : okS full j n z = true ↔ (0 ≤ z ∧ z ≤ n ∧ j + n ≤ full.length ∧ n < 9223372036854775808) := by simp [okS]
def rec (full : List Ent) (j : Nat) (z : Int) : Ent := full.getD (j + z.toNat) ([], [])

/-- none of the entries from z on is long -/
def shortL (full : List Ent) (j n : Nat) : Nat → Int → Bool
  | 0, _ => true
  | m + 1, z => cond (decide (z < n)) (cond (decide (z < 70)) (cond (decide (300 < ((rec full j z).1.length : Int))) false (cond (decide (300 < ((rec full j z).2.length : Int))) false (shortL full j n m (z + 1)))) true) true

theorem shortL_succ (full : List Ent) (j n m : Nat) (z : Int) : shortL full j n (m + 1) z = cond (decide (z < n)) (cond (decide (z < 70)) (cond (decide (300 < ((rec full j z).1.length : Int))) false (cond (decide (300 < ((rec full j z).2.length : Int))) false (shortL full j n m (z + 1)))) true) true := rfl

def b31 : CC := lp (bl (at3 (fl (at3 c31.body))))
def lt31 (j n c : Nat) (ex : Bool) (z : Int) (full : List Ent) (sp : Bool) (el : R.EL) : LT := .need (okS full j n z && decide (z ≤ 70)) (.br (shortL full j n (71 - z.toNat) z) (.exit 0 [.rs 0 j n c 2 ex] [.r .ent full sp el]) (.ret [.bool false] [.r .ent full sp el]))
def ld31 : LoopD := ⟨[(0, none), (3, none)], [(0, none)], [(2, none)], fun vs ao => match vs, ao with
  | [.rs 0 j n c 2 ex, .int .i64 z], [.r .ent full sp el] => some (71 - z.toNat, lt31 j n c ex z full sp el)
  | _, _ => none⟩
theorem turn31 (j n c : Nat) (ex : Bool) (z : Int) (full : List Ent) (sp : Bool) (el : R.EL) (m : Nat) (rd k1 : R.EK) (y : List (Nat × R.EK)) :
    (turnD C Y0 (fun _ => none) 100 33 1 0 b31 ld31 m [.rs 0 j n c 2 ex, .int .i64 z] [.r .ent full sp el] rd k1 y).ev =
    cond (decide (z < (↑n : Int))) (cond (decide (z < 70)) (cond (decide (0 ≤ z) && decide (Int.toNat z < n)) (cond (Nat.blt (j + Int.toNat z) (List.length full)) (cond (decide (300 < (↑(List.length (Prod.fst (List.getD full (j + Int.toNat z) (RK.zero RK.ent)))) : Int))) ((rd (envZ [2] [R.DV.bool false]) (mkD [DO.r RK.ent full sp el] 1)).ev) (cond (decide (0 ≤ z) && decide (Int.toNat z < n)) (cond (Nat.blt (j + Int.toNat z) (List.length full)) (cond (decide (300 < (↑(List.length (Prod.snd (List.getD full (j + Int.toNat z) (RK.zero RK.ent)))) : Int))) ((rd (envZ [2] [R.DV.bool false]) (mkD [DO.r RK.ent full sp el] 1)).ev) (cond (decide (71 - Int.toNat (IntKind.wrap IntKind.i64 (z + 1)) < m)) (cond (okS full j n (IntKind.wrap IntKind.i64 (z + 1)) && decide (IntKind.wrap IntKind.i64 (z + 1) ≤ 70)) (cond (shortL full j n (71 - Int.toNat (IntKind.wrap IntKind.i64 (z + 1))) (IntKind.wrap IntKind.i64 (z + 1))) ((k1 (envZ [0] [R.DV.rs 0 j n c 2 ex]) (mkD [DO.r RK.ent full sp el] 1)).ev) ((rd (envZ [2] [R.DV.bool false]) (mkD [DO.r RK.ent full sp el] 1)).ev)) none) none)) none) none)) none) none) ((k1 (envZ [0] [R.DV.rs 0 j n c 2 ex]) (mkD [DO.r RK.ent full sp el] 1)).ev)) ((k1 (envZ [0] [R.DV.rs 0 j n c 2 ex]) (mkD [DO.r RK.ent full sp el] 1)).ev) := by kernel_rfl
theorem step31 (j n c : Nat) (ex : Bool) (z : Int) (full : List Ent) (sp : Bool) (el : R.EL) (rd k1 : R.EK) (y : List (Nat × R.EK)) (w : R.DV × R.DH) (hw : ((lt31 j n c ex z full sp el).tree 1 ld31 rd ((0, k1) :: y)).ev = some w) :
    (turnD C Y0 (fun _ => none) 100 33 1 0 b31 ld31 (71 - z.toNat) [.rs 0 j n c 2 ex, .int .i64 z] [.r .ent full sp el] rd k1 y).ev = some w := by
  replace hw := lt_need hw
  obtain ⟨hp, hw⟩ := hw
  simp only [Bool.and_eq_true, decide_eq_true_eq] at hp
  obtain ⟨hp, hz⟩ := hp
  obtain ⟨p0, p1, p2, p3⟩ := okS_iff.1 hp
  rw [turn31]
  rw [lt_br] at hw
  replace hw : cond (shortL full j n (71 - z.toNat) z) ((k1 (envZ [0] [R.DV.rs 0 j n c 2 ex]) (mkD [DO.r RK.ent full sp el] 1)).ev) ((rd (envZ [2] [R.DV.bool false]) (mkD [DO.r RK.ent full sp el] 1)).ev) = some w := hw
  rw [show 71 - z.toNat = (70 - z.toNat) + 1 by omega, shortL_succ] at hw
  by_cases h1 : z < n
  · rw [cT h1] at hw ⊢
    by_cases h2 : z < 70
    · rw [cT h2] at hw ⊢
      have b1 : z.toNat < n := by omega
      rw [cA p0 b1, cB (show j + z.toNat < full.length by omega), cA p0 b1, cB (show j + z.toNat < full.length by omega), nextI p0 h1 p3]
      by_cases h3 : 300 < ((rec full j z).1.length : Int)
      · rw [cT h3] at hw
        exact (cT h3).trans hw
      · rw [cF h3] at hw
        refine (cF h3).trans ?_
        by_cases h4 : 300 < ((rec full j z).2.length : Int)
        · rw [cT h4] at hw
          exact (cT h4).trans hw
        · rw [cF h4] at hw
          refine (cF h4).trans ?_
          rw [cT (by omega), show 71 - (z + 1).toNat = 70 - z.toNat by omega, (show okS full j n (z + 1) = true from okS_iff.2 (by omega)), (show (decide (z + 1 ≤ 70)) = true by simp; omega)]
          exact hw
    · rw [cF h2] at hw ⊢
      exact hw
  · rw [cF h1] at hw ⊢
    exact hw
theorem loop31 {n : Nat} (hn : 100 ≤ n) : LoopOk C.G 1 (callO noTmps C.O C.tab n) n 100 33 0 b31 ld31 := by
  refine loop_of C Y0 (lh := fun _ => none) hn ?_ (fun p _ ld h => by cases h) ?_
  · exact wf_lp (wf_bl (wf_at3 (wf_fl (wf_at3 (wf_body (f := 31) rfl)))))
  intro vs ao m t hs rd k1 y w hw
  unfold ld31 at hs
  simp only at hs
  split at hs
  case h_2 => cases hs
  cases hs
  exact step31 _ _ _ _ _ _ _ _ _ _ _ _ hw
end
end Go.Vm.YtkjjpmbpjfmbcaaGreatDoor
