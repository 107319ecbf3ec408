/-
  Ranges that follow each other: the plain law.
-/
import Derived.Test.YtkjjpmbpjfmbcaaGreatDoorL16L
set_option linter.unusedVariables false
set_option linter.unusedSimpArgs false
namespace Go.Vm.YtkjjpmbpjfmbcaaGreatDoor
open Go.Proofs Go.Vm.R
noncomputable section
theorem less_irrefl : ∀ a : List UInt8, Op.bytesLess a a = false
  | [] => rfl
  | a :: x => by
    simp only [Op.bytesLess, less_irrefl x, Bool.and_false, Bool.or_false, decide_eq_false_iff_not]
    exact UInt8.lt_irrefl a
theorem less_trans : ∀ a b c : List UInt8, Op.bytesLess a b = true → Op.bytesLess b c = true → Op.bytesLess a c = true
  | [], [], _, h, _ => by simp [Op.bytesLess] at h
  | [], _ :: _, [], _, h => by simp [Op.bytesLess] at h
  | [], _ :: _, _ :: _, _, _ => rfl
  | _ :: _, [], _, h, _ => by simp [Op.bytesLess] at h
  | _ :: _, _ :: _, [], _, h => by simp [Op.bytesLess] at h
  | a :: x, b :: y, c :: z, h1, h2 => by
    simp only [Op.bytesLess, Bool.or_eq_true, decide_eq_true_eq, Bool.and_eq_true, beq_iff_eq] at h1 h2 ⊢
    rcases h1 with h1 | ⟨rfl, h1⟩ <;> rcases h2 with h2 | ⟨rfl, h2⟩
    · exact .inl (UInt8.lt_trans h1 h2)
    · exact .inl h1
    · exact .inl h2
    · exact .inr ⟨rfl, less_trans x y z h1 h2⟩
theorem less_total : ∀ a b : List UInt8, Op.bytesLess a b = false → Op.bytesLess b a = false → a = b
  | [], [], _, _ => rfl
  | [], _ :: _, h, _ => by simp [Op.bytesLess] at h
  | _ :: _, [], _, h => by simp [Op.bytesLess] at h
  | a :: x, b :: y, h1, h2 => by
    simp only [Op.bytesLess, Bool.or_eq_false_iff, decide_eq_false_iff_not] at h1 h2
    have e : a = b := by
      have := h1.1
      have := h2.1
      rcases UInt8.lt_or_lt_of_ne (a := a) (b := b) with h
      by_cases hab : a = b
      · exact hab
      · rcases UInt8.lt_or_lt_of_ne hab with h | h
        · exact absurd h h1.1
        · exact absurd h h2.1
    subst e
    have h3 := h1.2
    have h4 := h2.2
    simp only [beq_self_eq_true, Bool.true_and] at h3 h4
    rw [less_total x y h3 h4]
def inR (x y : List UInt8) (e : Ent) : Bool := !Op.bytesLess e.1 x && (decide (y = []) || Op.bytesLess e.1 y)
theorem rng_zero (x y : List UInt8) : ∀ (l out : List Ent), rngL x y 0 l out = out ++ l.filter (inR x y)
  | [], out => by simp [rngL]
  | e :: r, out => by
    have e1 : rngL x y 0 (e :: r) out = cond (!Op.bytesLess e.1 x) (cond (decide (y = [])) (rngL x y 0 r (out ++ [e])) (cond (Op.bytesLess e.1 y) (rngL x y 0 r (out ++ [e])) (rngL x y 0 r out))) (rngL x y 0 r out) := rfl
    rw [e1, rng_zero x y r, rng_zero x y r, List.filter_cons]
    unfold inR
    cases Op.bytesLess e.1 x <;> cases decide (y = []) <;> cases Op.bytesLess e.1 y <;> simp
theorem rng_all (l : List Ent) : rngB [] [] 0 l = l := by
  unfold rngB
  rw [rng_zero, List.nil_append]
  refine List.filter_eq_self.2 fun e _ => ?_
  have : Op.bytesLess e.1 [] = false := by cases e.1 <;> rfl
  simp [inR, this]
theorem rising : ∀ (l : List Ent) (e : Ent), chkL (some e) l = true → ∀ a ∈ l, Op.bytesLess e.1 a.1 = true
  | b :: r, e, h, a, ha => by
    rw [show chkL (some e) (b :: r) = cond (decide (b.1 = [])) false (cond (decide (108 < (b.1.length : Int))) false (cond (decide (64 < (b.2.length : Int))) false (cond (Op.bytesLess e.1 b.1) (chkL (some b) r) false))) from rfl] at h
    have h1 : Op.bytesLess e.1 b.1 = true ∧ chkL (some b) r = true := by
      revert h
      cases decide (b.1 = []) <;> cases decide (108 < (b.1.length : Int)) <;> cases decide (64 < (b.2.length : Int)) <;> cases Op.bytesLess e.1 b.1 <;> simp
    rcases List.mem_cons.1 ha with rfl | ha
    · exact h1.1
    · exact less_trans _ _ _ h1.1 (rising r b h1.2 a ha)
theorem chk_tail {p : Option Ent} {e : Ent} {r : List Ent} (h : chkL p (e :: r) = true) : chkL (some e) r = true := by
  rw [show chkL p (e :: r) = cond (decide (e.1 = [])) false (cond (decide (108 < (e.1.length : Int))) false (cond (decide (64 < (e.2.length : Int))) false (cond (rises p e) (chkL (some e) r) false))) from rfl] at h
  revert h
  cases decide (e.1 = []) <;> cases decide (108 < (e.1.length : Int)) <;> cases decide (64 < (e.2.length : Int)) <;> cases rises p e <;> simp
/-- not below one that is not below another -/
theorem ge_trans {a b c : List UInt8} (h1 : Op.bytesLess a b = false) (h2 : Op.bytesLess b c = false) : Op.bytesLess a c = false := by
  cases h : Op.bytesLess a c with
  | false => rfl
  | true =>
    exfalso
    cases hcb : Op.bytesLess c b with
    | true => rw [less_trans _ _ _ h hcb] at h1; cases h1
    | false =>
      have := less_total _ _ h2 hcb
      subst this
      rw [h] at h1; cases h1
theorem lt_of_lt_ge {a b c : List UInt8} (h1 : Op.bytesLess a b = true) (h2 : Op.bytesLess c b = false) : Op.bytesLess a c = true := by
  cases hbc : Op.bytesLess b c with
  | true => exact less_trans _ _ _ h1 hbc
  | false =>
    have := less_total _ _ h2 hbc
    subst this
    exact h1
theorem parts_hi {x y z : List UInt8} (hxy : Op.bytesLess y x = false) (hy : y ≠ []) : ∀ l : List Ent, (∀ a ∈ l, Op.bytesLess a.1 y = false) → l.filter (inR x y) = [] ∧ l.filter (inR y z) = l.filter (inR x z)
  | [], _ => ⟨rfl, rfl⟩
  | e :: r, h => by
    obtain ⟨h1, h2⟩ := parts_hi (z := z) hxy hy r (fun a ha => h a (List.mem_cons_of_mem _ ha))
    have he := h e List.mem_cons_self
    have hex := ge_trans he hxy
    have e1 : inR x y e = false := by unfold inR; rw [he, hex, decide_eq_false hy]; rfl
    have e2 : inR y z e = inR x z e := by unfold inR; rw [he, hex]
    rw [List.filter_cons, List.filter_cons, List.filter_cons, e1, e2, h1, h2]
    exact ⟨rfl, rfl⟩
/-- THE PLAIN LAW -/
theorem parts {x y z : List UInt8} (hxy : Op.bytesLess y x = false) (hyz : Op.bytesLess z y = false) (hy : y ≠ []) : ∀ (l : List Ent) (p : Option Ent), chkL p l = true → l.filter (inR x y) ++ l.filter (inR y z) = l.filter (inR x z)
  | [], _, _ => rfl
  | e :: r, p, h => by
    have ht := chk_tail h
    cases he : Op.bytesLess e.1 y with
    | true =>
      have ih := parts hxy hyz hy r (some e) ht
      have hez := lt_of_lt_ge he hyz
      have e1 : inR y z e = false := by unfold inR; rw [he]; rfl
      have e2 : inR x z e = inR x y e := by unfold inR; rw [he, hez, Bool.or_true, Bool.or_true]
      rw [List.filter_cons, List.filter_cons, List.filter_cons, e1, e2, ← ih]
      cases inR x y e <;> simp
    | false =>
      have hall : ∀ a ∈ e :: r, Op.bytesLess a.1 y = false := by
        intro a ha
        rcases List.mem_cons.1 ha with rfl | ha
        · exact he
        · have h1 := rising r e ht a ha
          cases h2 : Op.bytesLess a.1 y with
          | false => rfl
          | true => rw [less_trans _ _ _ h1 h2] at he; cases he
      obtain ⟨h1, h2⟩ := parts_hi (z := z) hxy hy (e :: r) hall
      rw [h1, h2]; rfl
theorem rng_parts {x y z : List UInt8} (hxy : Op.bytesLess y x = false) (hyz : Op.bytesLess z y = false) (hy : y ≠ []) {l : List Ent} (h : chkB l = true) : rngB x y 0 l ++ rngB y z 0 l = rngB x z 0 l := by
  unfold rngB
  rw [rng_zero, rng_zero, rng_zero]
  simp only [List.nil_append]
  exact parts hxy hyz hy l none h
theorem rng_len (x y : List UInt8) (l : List Ent) : (rngB x y 0 l).length ≤ l.length := by
  unfold rngB
  rw [rng_zero, List.nil_append]
  exact List.length_filter_le ..
end
end Go.Vm.YtkjjpmbpjfmbcaaGreatDoor
