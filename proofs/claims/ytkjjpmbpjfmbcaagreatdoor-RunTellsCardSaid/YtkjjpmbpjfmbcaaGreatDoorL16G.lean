/-
  RunHalves: its law.
-/
import Derived.Test.YtkjjpmbpjfmbcaaGreatDoorL16F
set_option linter.unusedVariables false
set_option linter.unusedSimpArgs false
namespace Go.Vm.YtkjjpmbpjfmbcaaGreatDoor
open Go.Proofs Go.Vm.R
noncomputable section
/-! ### the halves -/
theorem hv_stop (h : Int) : ∀ (l : List Ent) (s : Int) (k : Nat), hv h s l k = k + l.length ∨ (0 < hv h s l k ∧ h ≤ s + sizeL (l.take (hv h s l k - k)))
  | [], s, k => .inl rfl
  | e :: r, s, k => by
    have ih := hv_stop h r (s + size1 e) (k + 1)
    have hb := hv_le h r (s + size1 e) (k + 1)
    have go : hv h s (e :: r) k = hv h (s + size1 e) r (k + 1) → hv h s (e :: r) k = k + (e :: r).length ∨ (0 < hv h s (e :: r) k ∧ h ≤ s + sizeL ((e :: r).take (hv h s (e :: r) k - k))) := by
      intro hh
      rw [hh, List.length_cons]
      rcases ih with h1 | ⟨h1, h2⟩
      · exact .inl (by omega)
      · refine .inr ⟨h1, ?_⟩
        rw [show hv h (s + size1 e) r (k + 1) - k = (hv h (s + size1 e) r (k + 1) - (k + 1)) + 1 by omega, List.take_succ_cons]
        show h ≤ s + (size1 e + sizeL _)
        omega
    by_cases h0 : k = 0
    · refine go ?_
      show cond (decide (k = 0)) _ _ = _
      rw [cT h0]
    · by_cases h1 : s < h
      · refine go ?_
        show cond (decide (k = 0)) _ (cond (decide (s < h)) _ _) = _
        rw [cF h0, cT h1]
      · have e1 : hv h s (e :: r) k = k := by
          show cond (decide (k = 0)) _ (cond (decide (s < h)) _ _) = _
          rw [cF h0, cF h1]
        rw [e1]
        refine .inr ⟨by omega, ?_⟩
        rw [Nat.sub_self, List.take_zero]
        show h ≤ s + 0
        omega
theorem hv_last (h : Int) : ∀ (l : List Ent) (s : Int) (k : Nat), hv h s l k = k ∨ (k = 0 ∧ hv h s l k = 1) ∨ s + sizeL (l.take (hv h s l k - k - 1)) < h
  | [], s, k => .inl rfl
  | e :: r, s, k => by
    have ih := hv_last h r (s + size1 e) (k + 1)
    have hb := hv_le h r (s + size1 e) (k + 1)
    have go : hv h s (e :: r) k = hv h (s + size1 e) r (k + 1) → (k = 0 ∨ s < h) → hv h s (e :: r) k = k ∨ (k = 0 ∧ hv h s (e :: r) k = 1) ∨ s + sizeL ((e :: r).take (hv h s (e :: r) k - k - 1)) < h := by
      intro hh hk
      rw [hh]
      rcases ih with h1 | ⟨h1, _⟩ | h2
      · by_cases hk0 : k = 0
        · exact .inr (.inl ⟨hk0, by omega⟩)
        · refine .inr (.inr ?_)
          rw [h1, show k + 1 - k - 1 = 0 by omega, List.take_zero]
          show s + 0 < h
          omega
      · omega
      · by_cases hc : hv h (s + size1 e) r (k + 1) = k + 1
        · by_cases hk0 : k = 0
          · exact .inr (.inl ⟨hk0, by omega⟩)
          · refine .inr (.inr ?_)
            rw [hc, show k + 1 - k - 1 = 0 by omega, List.take_zero]
            show s + 0 < h
            omega
        · refine .inr (.inr ?_)
          rw [show hv h (s + size1 e) r (k + 1) - k - 1 = (hv h (s + size1 e) r (k + 1) - (k + 1) - 1) + 1 by omega, List.take_succ_cons]
          show s + (size1 e + sizeL _) < h
          omega
    by_cases h0 : k = 0
    · refine go ?_ (.inl h0)
      show cond (decide (k = 0)) _ _ = _
      rw [cT h0]
    · by_cases h1 : s < h
      · refine go ?_ (.inr h1)
        show cond (decide (k = 0)) _ (cond (decide (s < h)) _ _) = _
        rw [cF h0, cT h1]
      · refine .inl ?_
        show cond (decide (k = 0)) _ (cond (decide (s < h)) _ _) = _
        rw [cF h0, cF h1]
theorem take_last : ∀ (l : List Ent) (k : Nat), k < l.length → ∃ e, e ∈ l ∧ sizeL (l.take (k + 1)) = sizeL (l.take k) + size1 e
  | [], k, h => by simp at h
  | a :: r, 0, _ => ⟨a, List.mem_cons_self, by simp [sizeL]⟩
  | a :: r, k + 1, h => by
    obtain ⟨e, h1, h2⟩ := take_last r k (by simpa using h)
    refine ⟨e, List.mem_cons_of_mem _ h1, ?_⟩
    rw [List.take_succ_cons, List.take_succ_cons]
    show size1 a + _ = size1 a + _ + _
    omega
theorem size_split (l : List Ent) (k : Nat) : sizeL l = sizeL (l.take k) + sizeL (l.drop k) := by
  rw [← sizeL_app, List.take_append_drop]
/-- neither half is larger than half of all, and the largest entry -/
theorem halves {l : List Ent} (h2 : 2 ≤ l.length) : 1 ≤ halfN l ∧ halfN l < l.length ∧ sizeL (l.take (halfN l)) ≤ Int.tdiv (sizeL l) 2 + mxL 0 l ∧ sizeL (l.drop (halfN l)) ≤ Int.tdiv (sizeL l) 2 + mxL 0 l := by
  have hne : l ≠ [] := by intro h; rw [h] at h2; simp at h2
  have hp := halfN_pos hne
  have hnn := sizeL_nn l
  have hh : Int.tdiv (sizeL l) 2 = sizeL l / 2 := Int.tdiv_eq_ediv_of_nonneg hnn
  have hb := hv_le (Int.tdiv (sizeL l) 2) l 0 0
  have s1 := hv_stop (Int.tdiv (sizeL l) 2) l 0 0
  have s2 := hv_last (Int.tdiv (sizeL l) 2) l 0 0
  have hk1 : 1 ≤ hv (Int.tdiv (sizeL l) 2) 0 l 0 := by
    cases l with
    | nil => exact absurd rfl hne
    | cons e r => exact hv_pos _ _ _ _
  have hm0 := mxL_ge l 0
  obtain ⟨a0, ha0⟩ : ∃ a, a ∈ l := by
    cases l with
    | nil => exact absurd rfl hne
    | cons e r => exact ⟨e, List.mem_cons_self⟩
  have hm1 := mxL_mem l 0 a0 ha0
  have hm2 : 4 ≤ size1 a0 := by unfold size1; omega
  by_cases hc : ((hv (Int.tdiv (sizeL l) 2) 0 l 0 : Nat) : Int) = (l.length : Int)
  · have e : halfN l = hv (Int.tdiv (sizeL l) 2) 0 l 0 - 1 := by
      unfold halfN; simp only
      rw [cT hc, cT (by omega)]
    have ek : hv (Int.tdiv (sizeL l) 2) 0 l 0 = l.length := by omega
    rw [e]
    rw [ek] at s2 ⊢
    obtain ⟨x, hx1, hx2⟩ := take_last l (l.length - 1) (by omega)
    rw [show l.length - 1 + 1 = l.length by omega, List.take_length] at hx2
    have hx3 := mxL_mem l 0 x hx1
    have sp := size_split l (l.length - 1)
    refine ⟨by omega, by omega, ?_, by omega⟩
    rcases s2 with h | ⟨_, h⟩ | h
    · omega
    · omega
    · rw [show l.length - 0 - 1 = l.length - 1 by omega] at h
      omega
  · have e : halfN l = hv (Int.tdiv (sizeL l) 2) 0 l 0 := by
      unfold halfN; simp only
      rw [cF hc]
    rw [e]
    have sp := size_split l (hv (Int.tdiv (sizeL l) 2) 0 l 0)
    rcases s1 with h | ⟨_, h⟩
    · omega
    · rw [Nat.sub_zero] at h
      obtain ⟨x, hx1, hx2⟩ := take_last l (hv (Int.tdiv (sizeL l) 2) 0 l 0 - 1) (by omega)
      rw [show hv (Int.tdiv (sizeL l) 2) 0 l 0 - 1 + 1 = hv (Int.tdiv (sizeL l) 2) 0 l 0 by omega] at hx2
      have hx3 := mxL_mem l 0 x hx1
      refine ⟨hk1, by omega, ?_, by omega⟩
      rcases s2 with h | ⟨_, h⟩ | h
      · omega
      · rw [h] at hx2 ⊢
        rw [show 1 - 1 = 0 from rfl, List.take_zero] at hx2
        have : sizeL [] = 0 := rfl
        omega
      · rw [Nat.sub_zero] at h
        omega
end
end Go.Vm.YtkjjpmbpjfmbcaaGreatDoor
