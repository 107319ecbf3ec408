/-
  The order of texts, as ranks among a few; a message's part, and what it touches.
-/
import Derived.Test.YtdmlbojhfgimnaaGreatDoorAP15
set_option linter.unusedVariables false
set_option linter.unusedSimpArgs false
namespace Go.Vm.YtdmlbojhfgimnaaGreatDoor
open Go.Proofs
noncomputable section
abbrev Msg := Int × Txt × Txt × Txt
/-- has a message a part in a range? -/
def partOk (m : Msg) (a b : Txt) : Bool := mayB m.1 m.2.1 m.2.2.1 m.2.2.2 && cond (decide (m.1 = 3))
  (Op.bytesLess (cond (Op.bytesLess m.2.1 a) a m.2.1) (cond (decide (b = [])) m.2.2.1 (cond (Op.bytesLess b m.2.2.1) b m.2.2.1)))
  (!Op.bytesLess m.2.1 a && (decide (b = []) || Op.bytesLess m.2.1 b))
/-- .. which -/
def partM (m : Msg) (a b : Txt) : Msg := (m.1, cond (decide (m.1 = 3)) (cond (Op.bytesLess m.2.1 a) a m.2.1) m.2.1, cond (decide (m.1 = 3)) (cond (decide (b = [])) m.2.2.1 (cond (Op.bytesLess b m.2.2.1) b m.2.2.1)) m.2.2.1, m.2.2.2)
def part2 (op : Int) (k t v a b : Txt) : PD := .br (partOk (op, k, t, v) a b)
  (.v (someV op (partM (op, k, t, v) a b).2.1 (partM (op, k, t, v) a b).2.2.1 v)) (.v noneV)
theorem part2_val (op : Int) (k t v a b : Txt) : (part2 op k t v a b).val = (partD op k t v a b).val := by
  unfold part2 partD partOk partM
  simp only [pd_br, pd_v, PD.val_br, PD.val_v]
  cases mayB op k t v <;> cases decide (op = 3) <;> cases Op.bytesLess k a <;> cases decide (b = []) <;> cases Op.bytesLess b t <;> cases Op.bytesLess k b <;>
    simp only [Bool.true_and, Bool.false_and, Bool.and_false, Bool.and_true, Bool.or_true, Bool.or_false, Bool.true_or, Bool.false_or, Bool.not_true, Bool.not_false, cond_true, cond_false, if_true, if_false, Bool.false_eq_true]
theorem less_irrefl : ∀ a : List UInt8, Op.bytesLess a a = false
  | [] => rfl
  | a :: x => by
    simp only [Op.bytesLess, less_irrefl x, Bool.and_false, Bool.or_false, decide_eq_false_iff_not]
    exact UInt8.lt_irrefl a
theorem less_trans : ∀ a b c : List UInt8, Op.bytesLess a b = true → Op.bytesLess b c = true → Op.bytesLess a c = true
  | [], [], _, h, _ => by simp [Op.bytesLess] at h
  | [], _ :: _, [], _, h => by simp [Op.bytesLess] at h
  | [], _ :: _, _ :: _, _, _ => rfl
  | _ :: _, [], _, h, _ => by simp [Op.bytesLess] at h
  | _ :: _, _ :: _, [], _, h => by simp [Op.bytesLess] at h
  | a :: x, b :: y, c :: z, h1, h2 => by
    simp only [Op.bytesLess, Bool.or_eq_true, decide_eq_true_eq, Bool.and_eq_true, beq_iff_eq] at h1 h2 ⊢
    rcases h1 with h1 | ⟨rfl, h1⟩ <;> rcases h2 with h2 | ⟨rfl, h2⟩
    · exact .inl (UInt8.lt_trans h1 h2)
    · exact .inl h1
    · exact .inl h2
    · exact .inr ⟨rfl, less_trans x y z h1 h2⟩
theorem less_tot : ∀ a b : List UInt8, Op.bytesLess a b = false → Op.bytesLess b a = false → a = b
  | [], [], _, _ => rfl
  | [], _ :: _, h, _ => by simp [Op.bytesLess] at h
  | _ :: _, [], _, h => by simp [Op.bytesLess] at h
  | a :: x, b :: y, h1, h2 => by
    simp only [Op.bytesLess, Bool.or_eq_false_iff, decide_eq_false_iff_not] at h1 h2
    have e : a = b := by
      have := h1.1
      have := h2.1
      rcases UInt8.lt_or_lt_of_ne (a := a) (b := b) with h
      by_cases hab : a = b
      · exact hab
      · rcases UInt8.lt_or_lt_of_ne hab with h | h
        · exact absurd h h1.1
        · exact absurd h h2.1
    subst e
    have h3 := h1.2
    have h4 := h2.2
    simp only [beq_self_eq_true, Bool.true_and] at h3 h4
    rw [less_tot x y h3 h4]
theorem lt_of_lt_ge {a b c : List UInt8} (h1 : Op.bytesLess a b = true) (h2 : Op.bytesLess c b = false) : Op.bytesLess a c = true := by
  cases hbc : Op.bytesLess b c with
  | true => exact less_trans _ _ _ h1 hbc
  | false =>
    have := less_tot _ _ h2 hbc
    subst this
    exact h1
theorem less_nilT (a : Txt) : Op.bytesLess a [] = false := by cases a <;> rfl
theorem may_clear {k t v : Txt} (h : mayB 3 k t v = true) : v = [] ∧ Op.bytesLess k t = true := by
  unfold mayB at h
  revert h
  cases decide (k.length < 1) <;> cases decide (108 < k.length) <;> cases hv : decide (v.length = 0) <;> cases decide (t.length = 0) <;> cases decide (t.length ≤ 108) <;> cases Op.bytesLess k t <;> intro h <;> first | (cases h; done) | exact ⟨List.length_eq_zero_iff.1 (of_decide_eq_true hv), rfl⟩

/-! ### ranks -/
def rank (S : List Txt) (a : Txt) : Nat := (S.filter fun s => Op.bytesLess s a).length
theorem rank_le {a b : Txt} (h : Op.bytesLess a b = false) : ∀ S, rank S b ≤ rank S a
  | [] => Nat.le_refl _
  | s :: S => by
    have ih := rank_le h S
    unfold rank at ih ⊢
    simp only [List.filter_cons]
    cases hb : Op.bytesLess s b with
    | false =>
      cases ha : Op.bytesLess s a with
      | false => simpa using ih
      | true => simp only [if_true, Bool.false_eq_true, if_false, List.length_cons]; omega
    | true =>
      rw [lt_of_lt_ge hb h]
      simp only [if_true, List.length_cons]; omega
theorem rank_lt {a b : Txt} (h : Op.bytesLess a b = true) : ∀ S, a ∈ S → rank S a < rank S b
  | [], hm => by cases hm
  | s :: S, hm => by
    have hba : Op.bytesLess b a = false := by
      cases hc : Op.bytesLess b a with
      | false => rfl
      | true => have := less_trans _ _ _ h hc; rw [less_irrefl] at this; cases this
    have le := rank_le hba S
    have split : rank (s :: S) a = (if Op.bytesLess s a = true then 1 else 0) + rank S a ∧ rank (s :: S) b = (if Op.bytesLess s b = true then 1 else 0) + rank S b := by
      unfold rank
      simp only [List.filter_cons]
      constructor <;> split <;> (try simp only [List.length_cons]) <;> omega
    rw [split.1, split.2]
    rcases List.mem_cons.1 hm with rfl | hm
    · rw [less_irrefl, h, if_neg (by decide), if_pos rfl]; omega
    · have := rank_lt h S hm
      cases ha : Op.bytesLess s a with
      | false => rw [if_neg (by decide)]; omega
      | true => rw [less_trans _ _ _ ha h, if_pos rfl]; omega
theorem less_rank (S : List Txt) {a b : Txt} (ha : a ∈ S) : Op.bytesLess a b = decide (rank S a < rank S b) := by
  cases h : Op.bytesLess a b with
  | true => rw [decide_eq_true (rank_lt h S ha)]
  | false => rw [decide_eq_false (by have := rank_le h S; omega)]
theorem eq_rank (S : List Txt) {a b : Txt} (ha : a ∈ S) (hb : b ∈ S) : decide (a = b) = decide (rank S a = rank S b) := by
  by_cases h : a = b
  · subst h; rw [decide_eq_true rfl, decide_eq_true rfl]
  · rw [decide_eq_false h]
    cases hab : Op.bytesLess a b with
    | true => rw [decide_eq_false (by have := rank_lt hab S ha; omega)]
    | false =>
      cases hba : Op.bytesLess b a with
      | true => rw [decide_eq_false (by have := rank_lt hba S hb; omega)]
      | false => exact absurd (less_tot _ _ hab hba) h
theorem rank_nil (S : List Txt) : rank S [] = 0 := by
  unfold rank
  rw [List.filter_eq_nil_iff.2 (fun s _ => by rw [less_nilT]; decide)]; rfl
theorem nil_rank (S : List Txt) {a : Txt} (ha : a ∈ S) (hn : [] ∈ S) : decide (a = []) = decide (rank S a = 0) := by
  rw [eq_rank S ha hn, rank_nil]

/-! ### parts -/
def zeroM : Msg := (0, [], [], [])
def prM (m : Msg) (a b : Txt) : Msg := cond (partOk m a b) (partM m a b) zeroM
def tM (m : Msg) (x : Txt) : Bool := touchB m.1 m.2.1 m.2.2.1 m.2.2.2 x
def inB (x a b : Txt) : Bool := !Op.bytesLess x a && (decide (b = []) || Op.bytesLess x b)
theorem may_op {op : Int} {k t v : Txt} (h : mayB op k t v = true) : 0 < k.length ∧ k.length ≤ 108 ∧ t.length ≤ 108 := by
  unfold mayB at h
  by_cases h1 : k.length < 1
  · rw [decide_eq_true h1] at h; cases h
  rw [decide_eq_false h1] at h
  by_cases h2 : 108 < k.length
  · rw [decide_eq_true h2] at h; cases h
  rw [decide_eq_false h2] at h
  refine ⟨by omega, by omega, ?_⟩
  by_cases h3 : t.length = 0
  · omega
  · rw [decide_eq_false h3] at h
    by_cases h4 : t.length ≤ 108
    · exact h4
    · rw [decide_eq_false h4] at h
      exfalso
      revert h
      cases decide (op = 3) <;> cases decide (v.length = 0) <;> simp
theorem mayB_clear {k t : Txt} (h1 : 0 < k.length) (h2 : k.length ≤ 108) (h3 : t.length ≤ 108) (h : Op.bytesLess k t = true) : mayB 3 k t [] = true := by
  unfold mayB
  rw [decide_eq_false (by omega), decide_eq_false (by omega), decide_eq_true h3, h]
  have : t.length ≠ 0 := fun e => by rw [List.eq_nil_of_length_eq_zero e, less_nilT] at h; cases h
  rw [decide_eq_false this]; rfl
theorem touch_part (m : Msg) (a b x : Txt) (ha : a.length ≤ 108) (hb : b.length ≤ 108) : tM (prM m a b) x = (tM m x && inB x a b) := by
  obtain ⟨op, k, t, v⟩ := m
  unfold prM
  cases hm : mayB op k t v with
  | false =>
    have e1 : partOk (op, k, t, v) a b = false := by unfold partOk; rw [hm]; rfl
    have e2 : tM (op, k, t, v) x = false := by show touchB op k t v x = false; unfold touchB; rw [hm]; rfl
    rw [e1, e2]; rfl
  | true =>
    by_cases h3 : op = 3
    · subst h3
      obtain ⟨rfl, hkt⟩ := may_clear hm
      obtain ⟨l1, l2, l3⟩ := may_op hm
      let S : List Txt := [k, t, a, b, x, []]
      have mk : k ∈ S := by simp [S]
      have mt : t ∈ S := by simp [S]
      have ma : a ∈ S := by simp [S]
      have mb : b ∈ S := by simp [S]
      have mx : x ∈ S := by simp [S]
      have mn : ([] : Txt) ∈ S := by simp [S]
      have eT : ∀ k' t', mayB 3 k' t' [] = true → tM (3, k', t', []) x = (!Op.bytesLess x k' && Op.bytesLess x t') := fun k' t' h => by
        show touchB 3 k' t' [] x = _
        unfold touchB
        rw [h]
        cases Op.bytesLess x k' <;> rfl
      rw [eT k t hm]
      have eM : partM (3, k, t, []) a b = (3, cond (Op.bytesLess k a) a k, cond (decide (b = [])) t (cond (Op.bytesLess b t) b t), []) := rfl
      have eO : partOk (3, k, t, []) a b = Op.bytesLess (cond (Op.bytesLess k a) a k) (cond (decide (b = [])) t (cond (Op.bytesLess b t) b t)) := by
        unfold partOk; rw [hm]; rfl
      unfold inB
      cases hO : partOk (3, k, t, []) a b with
      | false =>
        rw [eO] at hO
        show false = _
        symm
        revert hO
        rw [less_rank S mk, less_rank S mb, nil_rank S mb mn, less_rank S mx, less_rank S mx, less_rank S mx, less_rank S mx]
        cases h1 : decide (rank S k < rank S a) <;> cases h2 : decide (rank S b = 0) <;> cases h4 : decide (rank S b < rank S t) <;> simp only [cond_true, cond_false] <;>
          (first | rw [less_rank S mk] | rw [less_rank S ma]) <;> intro hO <;>
          simp only [decide_eq_true_eq, decide_eq_false_iff_not] at h1 h2 h4 hO <;>
          (rw [Bool.and_eq_false_iff]; simp only [Bool.and_eq_false_iff, Bool.or_eq_false_iff, Bool.not_eq_false', decide_eq_true_eq, decide_eq_false_iff_not, Bool.false_or, Bool.true_or, Bool.and_true]; omega)
      | true =>
        have hO' := hO
        rw [eO] at hO
        rw [show cond true (partM (3, k, t, []) a b) zeroM = partM (3, k, t, []) a b from rfl, eM]
        have hmay : mayB 3 (cond (Op.bytesLess k a) a k) (cond (decide (b = [])) t (cond (Op.bytesLess b t) b t)) [] = true := by
          have q1 : 0 < (cond (Op.bytesLess k a) a k).length ∧ (cond (Op.bytesLess k a) a k).length ≤ 108 := by
            cases h : Op.bytesLess k a with
            | false => exact ⟨l1, l2⟩
            | true =>
              refine ⟨?_, ha⟩
              cases a with
              | nil => rw [less_nilT] at h; cases h
              | cons _ _ => simp
          have q2 : (cond (decide (b = [])) t (cond (Op.bytesLess b t) b t)).length ≤ 108 := by
            cases decide (b = []) <;> cases Op.bytesLess b t <;> first | exact l3 | exact hb
          exact mayB_clear q1.1 q1.2 q2 hO
        rw [eT _ _ hmay]
        revert hO
        rw [less_rank S mk, less_rank S mb, nil_rank S mb mn]
        cases h1 : decide (rank S k < rank S a) <;> cases h2 : decide (rank S b = 0) <;> cases h4 : decide (rank S b < rank S t) <;> simp only [cond_true, cond_false] <;>
          (first | rw [less_rank S mk] | rw [less_rank S ma]) <;> rw [less_rank S mx, less_rank S mx, less_rank S mx] <;> (try rw [less_rank S mx]) <;> intro hO <;>
          simp only [decide_eq_true_eq, decide_eq_false_iff_not] at h1 h2 h4 hO <;>
          (rw [Bool.eq_iff_iff]; simp only [Bool.and_eq_true, Bool.or_eq_true, Bool.not_eq_true', decide_eq_true_eq, decide_eq_false_iff_not, Bool.false_or, Bool.true_or, Bool.and_true, Bool.false_eq_true, false_or, true_or]; omega)
    · have eO : partOk (op, k, t, v) a b = inB k a b := by
        unfold partOk inB
        rw [hm, decide_eq_false h3]; rfl
      have eM : partM (op, k, t, v) a b = (op, k, t, v) := by
        unfold partM
        rw [decide_eq_false h3]; rfl
      have eT : tM (op, k, t, v) x = decide (x = k) := by
        show touchB op k t v x = _
        unfold touchB
        rw [hm, decide_eq_false h3]; rfl
      rw [eO, eM, eT]
      by_cases hx : x = k
      · subst hx
        cases inB x a b with
        | false => rw [decide_eq_true rfl]; rfl
        | true => show tM (op, x, t, v) x = _; rw [eT]; simp
      · rw [decide_eq_false hx]
        cases inB k a b with
        | false => rfl
        | true => show tM (op, k, t, v) x = _; rw [eT, decide_eq_false hx]; rfl
end
end Go.Vm.YtdmlbojhfgimnaaGreatDoor
