/-
  What is put is taken as what it was; what is taken has that text: plain laws.
-/
import Derived.Test.YtdmlbojhfgimnaaDoorL9R
set_option linter.unusedVariables false
set_option linter.unusedSimpArgs false
namespace Go.Vm.YtdmlbojhfgimnaaDoor
open Go.Proofs
noncomputable section

theorem be2_num (n : Nat) (h : n < 65536) : numOf (be2 n) = n := by
  simp only [be2, numOf_cons, numOf_nil, List.length_cons, List.length_nil, UInt8.toNat_ofNat']
  omega
theorem num_be2 : ∀ (l : List UInt8), l.length = 2 → be2 (numOf l) = l
  | [a, b], _ => by
    have ha := a.toNat_lt
    have hb := b.toNat_lt
    simp only [be2, numOf_cons, numOf_nil, List.length_cons, List.length_nil]
    have e1 : (a.toNat * 256 ^ (0 + 1) + (b.toNat * 256 ^ 0 + 0)) / 256 = a.toNat := by omega
    have e2 : (a.toNat * 256 ^ (0 + 1) + (b.toNat * 256 ^ 0 + 0)) % 256 = b.toNat := by omega
    rw [e1, e2, UInt8.ofNat_toNat, UInt8.ofNat_toNat]
theorem num1 : ∀ (l : List UInt8), l.length = 1 → [UInt8.ofNat (numOf l)] = l
  | [a], _ => by simp [numOf_cons, numOf_nil]

theorem meta_len {s : List UInt8} (h : fine (metaD s) = true) : s.length = 21 := by
  unfold metaD errM okM at h
  simp only [fine, fineV, cond_dec, show decide ((10:Int) = 0) = false from rfl, show decide ((4:Int) = 0) = false from rfl] at h
  split at h
  · cases h
  · split at h
    · cases h
    · omega
theorem change_len {s : List UInt8} (h : fine (changeD s) = true) : s.length ≤ 10 := by
  unfold changeD errC okC at h
  simp only [fine, fineV, cond_dec, show decide ((10:Int) = 0) = false from rfl, show decide ((4:Int) = 0) = false from rfl] at h
  repeat' split at h
  all_goals first | omega | cases h
theorem patch_len {s : List UInt8} (h : fine (patchD s) = true) : s.length ≤ 68 := by
  unfold patchD errP okP at h
  simp only [fine, fineV, cond_dec, show decide ((10:Int) = 0) = false from rfl, show decide ((4:Int) = 0) = false from rfl] at h
  repeat' split at h
  all_goals first | omega | cases h
theorem block_len {s : List UInt8} (h : blockOk s = true) : s.length ≤ 64 := by
  unfold blockOk at h
  simp only [Bool.and_eq_true, decide_eq_true_eq] at h
  exact h.2.1
theorem val_len {k s : List UInt8} (h : valOk k s = true) : s.length ≤ 68 := by
  unfold valOk at h
  simp only [cond_dec] at h
  split at h
  · have := meta_len h; omega
  · split at h
    · cases hb : blockOk s with
      | true => have := block_len hb; omega
      | false => rw [hb] at h; cases h
    · have := of_decide_eq_true h; omega
theorem pat_len {k s : List UInt8} (h : patOk k s = true) : s.length ≤ 68 := by
  unfold patOk at h
  simp only [cond_dec] at h
  split at h
  · have := change_len h; omega
  · split at h
    · exact patch_len h
    · cases h
theorem may_len {op : Int} {k t v : List UInt8} (h : mayB op k t v = true) : k.length ≤ 108 ∧ ((op = 3 ∧ v = [] ∧ 1 ≤ t.length ∧ t.length ≤ 108) ∨ (op ≠ 3 ∧ t = [] ∧ v.length ≤ 68 ∧ (op = 2 → v = []))) := by
  unfold mayB at h
  simp only [cond_dec] at h
  split at h
  · cases h
  · split at h
    · cases h
    · refine ⟨by omega, ?_⟩
      split at h
      · rename_i h3
        split at h
        · rename_i hv
          split at h
          · cases h
          · split at h
            · exact .inl ⟨h3, List.eq_nil_of_length_eq_zero hv, by omega, by omega⟩
            · cases h
        · cases h
      · rename_i h3
        split at h
        · rename_i ht
          refine .inr ⟨h3, List.eq_nil_of_length_eq_zero ht, ?_⟩
          split at h
          · exact ⟨val_len h, fun e => by omega⟩
          · split at h
            · exact ⟨pat_len h, fun e => by omega⟩
            · split at h
              · have := of_decide_eq_true h
                exact ⟨by omega, fun _ => List.eq_nil_of_length_eq_zero this⟩
              · cases h
        · cases h

theorem put_len {op : Int} {k t v : List UInt8} (h : mayB op k t v = true) : (putS op k t v).length ≤ 221 := by
  obtain ⟨h1, h2⟩ := may_len h
  unfold putS
  simp only [List.length_cons, List.length_append, be2_len, cond_dec]
  rcases h2 with ⟨h3, rfl, h4, h5⟩ | ⟨h3, rfl, h4, _⟩
  · rw [if_pos h3]; simp only [List.length_append, be2_len]; omega
  · rw [if_neg h3]; split <;> simp only [List.length_append, be2_len, List.length_nil] <;> omega

theorem take_app {α : Type} (a b : List α) (n : Nat) (h : a.length = n) : (a ++ b).take n = a := by subst h; simp
theorem drop_app {α : Type} (a b : List α) (n : Nat) (h : a.length = n) : (a ++ b).drop n = b := by subst h; simp

/-- TAKE OF PUT -/
theorem take_put {op : Int} {k t v : List UInt8} (h : mayB op k t v = true) : (takeD (putS op k t v)).val = okT op k t v := by
  obtain ⟨ho, hk1⟩ := may_op h
  obtain ⟨hk2, hl⟩ := may_len h
  obtain ⟨x, hx⟩ : ∃ x : List UInt8, x = cond (decide (op = 3)) (be2 t.length ++ t) (cond (decide (op = 2)) [] (be2 v.length ++ v)) := ⟨_, rfl⟩
  have hs : putS op k t v = UInt8.ofNat op.toNat :: (be2 k.length ++ (k ++ x)) := by rw [hx]; rfl
  have hne : putS op k t v ≠ [] := by rw [hs]; exact List.cons_ne_nil _ _
  have e1 : numOf ((putS op k t v).take 1) = op.toNat := by
    rw [hs]
    simp only [List.take_succ_cons, List.take_zero, numOf_cons, numOf_nil, List.length_nil, UInt8.toNat_ofNat']
    omega
  have d1 : (putS op k t v).drop 1 = be2 k.length ++ (k ++ x) := by rw [hs]; rfl
  have e2 : num2 (putS op k t v) 1 = k.length := by
    unfold num2
    rw [d1, take_app _ _ 2 (be2_len _), be2_num _ (by omega)]
  have d3 : (putS op k t v).drop 3 = k ++ x := by
    rw [show (3:Nat) = 1 + 2 by rfl, ← List.drop_drop, d1, drop_app _ _ 2 (be2_len _)]
  have e3 : ((putS op k t v).drop 3).take k.length = k := by rw [d3, take_app _ _ _ rfl]
  have dk : (putS op k t v).drop (3 + k.length) = x := by rw [← List.drop_drop, d3, drop_app _ _ _ rfl]
  have hlen : (putS op k t v).length = 3 + k.length + x.length := by
    rw [hs]; simp only [List.length_cons, List.length_append, be2_len]; omega
  have tail : ∀ (y : List UInt8) (f : List UInt8 → PD), y.length ≤ 1000 → x = be2 y.length ++ y → (tailD (putS op k t v) (3 + k.length) f).val = (f y).val := by
    intro y f hy hxy
    have xl : x.length = 2 + y.length := by rw [hxy, List.length_append, be2_len]
    have n2 : num2 (putS op k t v) (3 + k.length) = y.length := by
      unfold num2
      rw [dk, hxy, take_app _ _ 2 (be2_len _), be2_num _ (by omega)]
    have dy : ((putS op k t v).drop (3 + k.length + 2)).take y.length = y := by
      rw [← List.drop_drop, dk, hxy, drop_app _ _ 2 (be2_len _), List.take_of_length_le (Nat.le_refl _)]
    unfold tailD
    rw [n2, e2, dy, hlen, xl]
    simp only [PD.val_br, PD.val_v, cond_dec]
    rw [if_neg (by omega), if_neg (by omega), if_neg (by omega), if_neg (by omega)]
    split
    · rename_i h0
      rw [List.eq_nil_of_length_eq_zero h0]
    · rfl
  have mayV : ∀ t' v' : List UInt8, t' = t → v' = v → (mayT (op.toNat : Int) k t' v').val = okT op k t v := by
    intro t' v' ht hv
    subst ht hv
    have : (op.toNat : Int) = op := by omega
    rw [this]
    unfold mayT
    simp only [PD.val_br, h, cond_true, PD.val_v]
  unfold takeD
  rw [e1, e2, e3, hlen]
  simp only [PD.val_br, PD.val_v, cond_dec]
  rw [if_neg hne, if_neg (by omega), if_neg (by omega), if_neg (by omega), if_neg (by omega)]
  by_cases h2 : op = 2
  · have hx2 : x = [] := by rw [hx]; simp [h2]
    rw [if_pos (by omega), hx2]
    rcases hl with ⟨h3, _⟩ | ⟨_, rfl, _, hv⟩
    · omega
    · rw [if_neg (by simp), if_neg (by omega)]
      exact mayV _ _ rfl (hv h2).symm
  · rw [if_neg (by omega)]
    by_cases h3 : op = 3
    · rw [if_pos (by omega)]
      rcases hl with ⟨_, rfl, _, ht⟩ | ⟨h3', _⟩
      · rw [tail t _ (by omega) (by rw [hx]; simp [h3])]
        exact mayV _ _ rfl rfl
      · exact absurd h3 h3'
    · rw [if_neg (by omega)]
      rcases hl with ⟨h3', _⟩ | ⟨_, rfl, hv, _⟩
      · exact absurd h3' h3
      · rw [tail v _ (by omega) (by rw [hx]; simp [h2, h3])]
        exact mayV _ _ rfl rfl

/-- PUT OF TAKE -/
theorem put_take (s : List UInt8) (hs : s.length ≤ 1000) : (∃ e, e ≠ 0 ∧ (takeD s).val = errT e) ∨ ∃ op k t v, (takeD s).val = okT op k t v ∧ mayB op k t v = true ∧ putS op k t v = s ∧ fewB k t v = true := by
  have E10 : ∃ e : Int, e ≠ 0 ∧ errT 10 = errT e := ⟨10, by decide, rfl⟩
  have E4 : ∃ e : Int, e ≠ 0 ∧ errT 4 = errT e := ⟨4, by decide, rfl⟩
  have few : ∀ k t v : List UInt8, k.length ≤ 1000 → t.length ≤ 1000 → v.length ≤ 1000 → fewB k t v = true := by
    intro k t v h1 h2 h3
    unfold fewB
    simp only [cond_dec]
    rw [if_pos (by omega), if_pos (by omega)]
    exact decide_eq_true (by omega)
  have M : ∀ (op : Int) (k t v : List UInt8), k.length ≤ 1000 → t.length ≤ 1000 → v.length ≤ 1000 → (mayB op k t v = true → putS op k t v = s) → (∃ e, e ≠ 0 ∧ (mayT op k t v).val = errT e) ∨ ∃ op' k' t' v', (mayT op k t v).val = okT op' k' t' v' ∧ mayB op' k' t' v' = true ∧ putS op' k' t' v' = s ∧ fewB k' t' v' = true := by
    intro op k t v h1 h2 h3 hp
    unfold mayT
    simp only [PD.val_br, PD.val_v]
    cases hm : mayB op k t v with
    | true => exact .inr ⟨op, k, t, v, rfl, hm, hp hm, few k t v h1 h2 h3⟩
    | false => exact .inl E4
  unfold takeD
  simp only [PD.val_br, PD.val_v, cond_dec]
  split
  · exact .inl E10
  rename_i hne
  split
  · exact .inl E4
  rename_i o1
  split
  · exact .inl E4
  rename_i o4
  split
  · exact .inl E10
  rename_i l3
  split
  · exact .inl E10
  rename_i l4
  -- the text's parts
  have kl : ((s.drop 3).take (num2 s 1)).length = num2 s 1 := by simp only [List.length_take, List.length_drop]; omega
  have head : s = s.take 1 ++ ((s.drop 1).take 2 ++ ((s.drop 3).take (num2 s 1) ++ s.drop (3 + num2 s 1))) := by
    rw [← List.drop_drop, List.take_append_drop, show (3:Nat) = 1 + 2 by rfl, ← List.drop_drop, List.take_append_drop, List.take_append_drop]
  have t1 : s.take 1 = [UInt8.ofNat (numOf (s.take 1))] := (num1 _ (by simp only [List.length_take]; omega)).symm
  have t2 : (s.drop 1).take 2 = be2 (num2 s 1) := (num_be2 _ (by simp only [List.length_take, List.length_drop]; omega)).symm
  have mk : ∀ (t v : List UInt8), s.drop (3 + num2 s 1) = cond (decide (((numOf (s.take 1) : Nat) : Int) = 3)) (be2 t.length ++ t) (cond (decide (((numOf (s.take 1) : Nat) : Int) = 2)) [] (be2 v.length ++ v)) → putS (numOf (s.take 1)) ((s.drop 3).take (num2 s 1)) t v = s := by
    intro t v hd
    unfold putS
    rw [← hd, kl, Int.toNat_natCast]
    conv => rhs; rw [head, t1, t2]
    rfl
  have tl : ∀ (f : List UInt8 → PD), (∀ y : List UInt8, y.length ≤ 1000 → s.drop (3 + num2 s 1) = be2 y.length ++ y → (∃ e, e ≠ 0 ∧ (f y).val = errT e) ∨ ∃ op' k' t' v', (f y).val = okT op' k' t' v' ∧ mayB op' k' t' v' = true ∧ putS op' k' t' v' = s ∧ fewB k' t' v' = true) →
      (∃ e, e ≠ 0 ∧ (tailD s (3 + num2 s 1) f).val = errT e) ∨ ∃ op' k' t' v', (tailD s (3 + num2 s 1) f).val = okT op' k' t' v' ∧ mayB op' k' t' v' = true ∧ putS op' k' t' v' = s ∧ fewB k' t' v' = true := by
    intro f hf
    unfold tailD
    simp only [PD.val_br, PD.val_v, cond_dec]
    split
    · exact .inl E10
    rename_i q1
    split
    · exact .inl E10
    rename_i q2
    split
    · exact .inl E4
    rename_i q3
    split
    · exact .inl E4
    have yl : ((s.drop (3 + num2 s 1 + 2)).take (num2 s (3 + num2 s 1))).length = num2 s (3 + num2 s 1) := by simp only [List.length_take, List.length_drop]; omega
    have yd : s.drop (3 + num2 s 1) = be2 (num2 s (3 + num2 s 1)) ++ (s.drop (3 + num2 s 1 + 2)).take (num2 s (3 + num2 s 1)) := by
      have b : be2 (num2 s (3 + num2 s 1)) = (s.drop (3 + num2 s 1)).take 2 := num_be2 _ (by simp only [List.length_take, List.length_drop]; omega)
      rw [b, List.take_of_length_le (l := s.drop (3 + num2 s 1 + 2)) (by simp only [List.length_drop]; omega), ← List.drop_drop (i := 2), List.take_append_drop]
    split
    · rename_i z
      refine hf [] (by simp) ?_
      rw [yd, z]; simp
    · refine hf _ (by rw [yl]; omega) ?_
      rw [yl]; exact yd
  split
  · rename_i o2
    split
    · exact .inl E4
    rename_i q
    split
    · exact .inl E4
    refine M _ _ _ _ (by rw [kl]; omega) (by simp) (by simp) fun _ => mk _ _ ?_
    rw [show decide (((numOf (s.take 1) : Nat) : Int) = 3) = false from decide_eq_false (by omega), show decide (((numOf (s.take 1) : Nat) : Int) = 2) = true from decide_eq_true (by omega)]
    exact List.drop_eq_nil_of_le (by omega)
  · rename_i o2
    split
    · rename_i o3
      refine tl _ fun y hy hd => M _ _ _ _ (by rw [kl]; omega) hy (by simp) fun _ => mk _ _ ?_
      rw [show decide (((numOf (s.take 1) : Nat) : Int) = 3) = true from decide_eq_true (by omega)]
      exact hd
    · rename_i o3
      refine tl _ fun y hy hd => M _ _ _ _ (by rw [kl]; omega) (by simp) hy fun _ => mk _ _ ?_
      rw [show decide (((numOf (s.take 1) : Nat) : Int) = 3) = false from decide_eq_false (by omega), show decide (((numOf (s.take 1) : Nat) : Int) = 2) = false from decide_eq_false (by omega)]
      exact hd
end
end Go.Vm.YtdmlbojhfgimnaaDoor
