/-
  The orders in which the model may run a region.
-/
import Derived.Test.YtkjjpmbpjfmbcaaGreatDoorVmComp
set_option linter.unusedVariables false
set_option linter.unusedSimpArgs false
namespace Go.Vm
open Region

theorem nodup_le : ∀ (n : Nat) (l : List Nat), l.Nodup → (∀ i ∈ l, i < n) → l.length ≤ n
  | 0, l, _, h => by
    cases l with
    | nil => simp
    | cons x r => exact absurd (h x (by simp)) (by omega)
  | n + 1, l, hn, h => by
    by_cases hm : n ∈ l
    · have h1 := nodup_le n (l.erase n) (hn.erase n) (fun i hi => by
        have := (hn.mem_erase_iff).1 hi
        have := h i this.2
        omega)
      rw [List.length_erase_of_mem hm] at h1
      omega
    · have h1 := nodup_le n l hn (fun i hi => by
        have := h i hi
        have : i ≠ n := fun e => hm (e ▸ hi)
        omega)
      omega

theorem full_of_nodup : ∀ (n : Nat) (l : List Nat), l.Nodup → (∀ i ∈ l, i < n) → l.length = n → ∀ i, i < n → i ∈ l
  | 0, _, _, _, _, i, hi => by omega
  | n + 1, l, hn, h, hl, i, hi => by
    by_cases hm : n ∈ l
    · by_cases hin : i = n
      · exact hin ▸ hm
      · have h1 := full_of_nodup n (l.erase n) (hn.erase n) (fun j hj => by
          have := (hn.mem_erase_iff).1 hj
          have := h j this.2
          omega) (by rw [List.length_erase_of_mem hm]; omega) i (by omega)
        exact List.mem_of_mem_erase h1
    · have h1 := nodup_le n l hn (fun j hj => by
        have := h j hj
        have : j ≠ n := fun e => hm (e ▸ hj)
        omega)
      omega

/-- what is listed so far -/
structure LInv (md : Region.Mode) (ops : Array Oper) (listed : Array Bool) (acc : List Nat) : Prop where
  sz : listed.size = ops.size
  lt : ∀ i ∈ acc, i < ops.size
  nd : acc.Nodup
  li : ∀ i, listed.getD i false = true ↔ i ∈ acc
  ord : ∀ l1 i l2, acc.reverse = l1 ++ i :: l2 → ∀ e ∈ (ops.getD i default).after.toList, binds md e = true → e.on ∈ l1

def readies (md : Region.Mode) (ops : Array Oper) (listed : Array Bool) : List Nat := (List.range ops.size).filter fun i =>
  !listed.getD i true && ((ops[i]?).map (·.after.all fun e => !binds md e || listed.getD e.on false)).getD false

theorem getD_lt {ops : Array Oper} {i : Nat} (hi : i < ops.size) : ops[i]? = some (ops.getD i default) := by
  rw [Array.getD_eq_getD_getElem?, Array.getElem?_eq_getElem hi]; rfl

theorem readies_mem {md : Region.Mode} {ops : Array Oper} {listed : Array Bool} {i : Nat} : i ∈ readies md ops listed ↔ i < ops.size ∧ listed.getD i true = false ∧ ∀ e ∈ (ops.getD i default).after.toList, binds md e = true → listed.getD e.on false = true := by
  unfold readies
  rw [List.mem_filter, List.mem_range]
  refine ⟨fun ⟨h1, h2⟩ => ?_, fun ⟨h1, h2, h3⟩ => ⟨h1, ?_⟩⟩
  · rw [getD_lt h1] at h2
    simp only [Option.map_some, Option.getD_some, Bool.and_eq_true, Bool.not_eq_true', Array.all_eq_true_iff_forall_mem] at h2
    refine ⟨h1, h2.1, fun e he hb => ?_⟩
    have := h2.2 e (by simpa using he)
    simpa [hb] using this
  · rw [getD_lt h1]
    simp only [Option.map_some, Option.getD_some, Bool.and_eq_true, Bool.not_eq_true', Array.all_eq_true_iff_forall_mem]
    refine ⟨h2, fun e he => ?_⟩
    cases hb : binds md e with
    | false => rfl
    | true => simpa using h3 e (by simpa using he) hb

theorem LInv.step {md : Region.Mode} {ops : Array Oper} {listed : Array Bool} {acc : List Nat} (v : LInv md ops listed acc) {i : Nat} (hi : i ∈ readies md ops listed) : LInv md ops (listed.setIfInBounds i true) (i :: acc) := by
  obtain ⟨h1, h2, h3⟩ := readies_mem.1 hi
  have hnl : i ∉ acc := by
    intro hm
    have h4 := (v.li i).2 hm
    rw [Array.getD_eq_getD_getElem?] at h2 h4
    cases hx : listed[i]? with
    | none => rw [hx] at h2; cases h2
    | some b => rw [hx] at h2 h4; simp at h2 h4; rw [h2] at h4; cases h4
  refine ⟨by simp [v.sz], ?_, List.nodup_cons.2 ⟨hnl, v.nd⟩, ?_, ?_⟩
  · intro j hj
    rcases List.mem_cons.1 hj with rfl | hj
    · exact h1
    · exact v.lt j hj
  · intro j
    rw [Array.getD_eq_getD_getElem?, Array.getElem?_setIfInBounds]
    by_cases hij : i = j
    · subst hij
      simp [v.sz, h1]
    · rw [if_neg hij]
      have := v.li j
      rw [Array.getD_eq_getD_getElem?] at this
      rw [this]
      simp only [List.mem_cons]
      exact ⟨.inr, fun h => h.elim (fun e => absurd e.symm hij) id⟩
  · intro l1 j l2 hl e he hb
    simp only [List.reverse_cons] at hl
    rcases List.eq_nil_or_concat l2 with rfl | ⟨l2', x, rfl⟩
    · have := List.append_inj' hl rfl
      obtain ⟨ha, hb'⟩ := this
      simp only [List.cons.injEq, and_true] at hb'
      subst hb' ha
      have := (v.li e.on).1 (h3 e he hb)
      simpa using this
    · have hl' : acc.reverse ++ [i] = (l1 ++ j :: l2') ++ [x] := by rw [hl]; simp
      obtain ⟨ha, _⟩ := List.append_inj' hl' rfl
      exact v.ord l1 j l2' ha e he hb

theorem go_spec {md : Region.Mode} {ops : Array Oper} : ∀ (fuel t : Nat) (listed : Array Bool) (acc : List Nat), LInv md ops listed acc →
    ∃ listed' acc', LInv md ops listed' acc' ∧ linearise.go md ops fuel t listed acc = acc'.reverse ∧ (acc'.length = acc.length + fuel ∨ readies md ops listed' = [])
  | 0, t, listed, acc, v => ⟨listed, acc, v, by simp [linearise.go], .inl rfl⟩
  | fuel + 1, t, listed, acc, v => by
    have hgo : linearise.go md ops (fuel + 1) t listed acc = (match (readies md ops listed)[t % (readies md ops listed).length]? with
      | some i => linearise.go md ops fuel (t / (readies md ops listed).length) (listed.setIfInBounds i true) (i :: acc)
      | none => acc.reverse) := rfl
    rw [hgo]
    split
    · rename_i i hi
      have hm : i ∈ readies md ops listed := List.mem_of_getElem? hi
      obtain ⟨l', a', v', e, h⟩ := go_spec fuel (t / (readies md ops listed).length) _ _ (v.step hm)
      refine ⟨l', a', v', e, ?_⟩
      rcases h with h | h
      · exact .inl (by rw [h]; simp; omega)
      · exact .inr h
    · rename_i hn
      refine ⟨listed, acc, v, rfl, .inr ?_⟩
      cases hr : readies md ops listed with
      | nil => rfl
      | cons x r =>
        rw [hr] at hn
        have : t % (x :: r).length < (x :: r).length := Nat.mod_lt _ (by simp)
        rw [List.getElem?_eq_getElem this] at hn
        cases hn

theorem LInv.init (md : Region.Mode) (ops : Array Oper) : LInv md ops (Array.replicate ops.size false) [] := by
  refine ⟨by simp, by simp, by simp, ?_, ?_⟩
  · intro i
    simp only [List.not_mem_nil, iff_false, Array.getD_eq_getD_getElem?, Array.getElem?_replicate]
    split <;> simp
  · intro l1 i l2 h
    simp at h

/-- an order of all the operations, each behind those on which it waits -/
structure Order (md : Region.Mode) (ops : Array Oper) (l : List Nat) : Prop where
  lt : ∀ i ∈ l, i < ops.size
  nd : l.Nodup
  all : ∀ i, i < ops.size → i ∈ l
  ord : ∀ l1 i l2, l = l1 ++ i :: l2 → ∀ e ∈ (ops.getD i default).after.toList, binds md e = true → e.on ∈ l1

theorem linearise_lt (md : Region.Mode) (ops : Array Oper) (t : Nat) : ∀ i ∈ linearise md ops t, i < ops.size := by
  obtain ⟨listed, acc, v, e, _⟩ := go_spec ops.size t _ _ (LInv.init md ops)
  intro i hi
  have : linearise md ops t = acc.reverse := e
  rw [this] at hi
  exact v.lt i (by simpa using hi)

theorem zipIdx_split {α : Type} (l1 : List α) (x : α) (l2 : List α) : (x, l1.length) ∈ (l1 ++ x :: l2).zipIdx := by
  rw [List.mem_zipIdx_iff_getElem?]
  simp

theorem order_of {md : Region.Mode} {ops : Array Oper} {l0 : List Nat} (hr : respects md ops l0 = true) (hlt : ∀ i ∈ l0, i < ops.size) (t : Nat) : Order md ops (linearise md ops t) := by
  obtain ⟨listed, acc, v, e, hend⟩ := go_spec ops.size t _ _ (LInv.init md ops)
  have he : linearise md ops t = acc.reverse := e
  simp only [respects, Bool.and_eq_true, List.all_eq_true, List.mem_range, List.contains_iff_mem] at hr
  obtain ⟨hall, hedge⟩ := hr
  have hfull : ∀ i, i < ops.size → i ∈ acc := by
    rcases hend with h | h
    · exact full_of_nodup ops.size acc v.nd v.lt (by simpa using h)
    · -- the first of l0 that is not listed would be ready
      have key : ∀ (l2 l1 : List Nat), l0 = l1 ++ l2 → (∀ i ∈ l1, i ∈ acc) → ∀ i ∈ l0, i ∈ acc := by
        intro l2
        induction l2 with
        | nil => intro l1 h1 h2; rw [h1, List.append_nil]; exact h2
        | cons x r ih =>
          intro l1 h1 h2
          refine ih (l1 ++ [x]) (by rw [h1]; simp) ?_
          intro i hi
          rcases List.mem_append.1 hi with hi | hi
          · exact h2 i hi
          · simp only [List.mem_singleton] at hi
            subst hi
            by_cases hm : i ∈ acc
            · exact hm
            · exfalso
              have hlt' : i < ops.size := hlt i (by rw [h1]; simp)
              have : i ∈ readies md ops listed := by
                refine readies_mem.2 ⟨hlt', ?_, ?_⟩
                · have hf : listed.getD i false = false := by
                    cases hx : listed.getD i false with
                    | false => rfl
                    | true => exact absurd ((v.li i).1 hx) hm
                  rw [Array.getD_eq_getD_getElem?] at hf ⊢
                  have : i < listed.size := by rw [v.sz]; exact hlt'
                  rw [Array.getElem?_eq_getElem this] at hf ⊢
                  exact hf
                · intro ed hed hb
                  have h3 := hedge (i, l1.length) (by rw [h1]; exact zipIdx_split l1 i r)
                  simp only [List.all_eq_true, Bool.or_eq_true, Bool.not_eq_true', List.contains_iff_mem] at h3
                  rcases h3 ed hed with h4 | h4
                  · rw [hb] at h4; cases h4
                  · rw [h1] at h4
                    simp only [List.take_left] at h4
                    exact (v.li ed.on).2 (h2 _ h4)
              rw [h] at this
              cases this
      intro i hi
      exact key l0 [] rfl (by simp) i (hall i hi)
  rw [he]
  refine ⟨fun i hi => v.lt i (by simpa using hi), (by unfold List.Nodup at *; rw [List.pairwise_reverse]; exact v.nd.imp fun h => h.symm), fun i hi => by simpa using hfull i hi, v.ord⟩

theorem binds_any {md : Region.Mode} {e : Edge} (h : binds .any e = true) : binds md e = true := by
  unfold binds at *
  split at h
  · cases h
  · cases h
  · rfl

theorem Order.any {md : Region.Mode} {ops : Array Oper} {l : List Nat} (o : Order md ops l) : Order Region.Mode.any ops l :=
  ⟨o.lt, o.nd, o.all, fun l1 i l2 h e he hb => o.ord l1 i l2 h e he (binds_any hb)⟩

theorem schedule_order {ops : Array Oper} (h1 : respects .any ops (List.range ops.size) = true) (h2 : respects .text ops (List.range ops.size) = true) (h3 : respects .gc ops (linearise .gc ops 0) = true) (mixed : Bool) (t : Nat) :
    Order Region.Mode.any ops (schedule mixed ops t) := by
  unfold schedule
  split
  · exact order_of h1 (fun i hi => List.mem_range.1 hi) t
  · split
    · exact (order_of h2 (fun i hi => List.mem_range.1 hi) (t / 2)).any
    · exact (order_of h3 (linearise_lt .gc ops 0) (t / 2)).any

/-! what comes before what -/
theorem fold_bit (acc : List Nat) (i : Nat) : ∀ (l : List Edge) (s : Nat), (l.foldl (fun s e => if binds .any e then s ||| 2 ^ e.on ||| acc.getD e.on 0 else s) s).testBit i = true →
    s.testBit i = true ∨ ∃ e ∈ l, binds .any e = true ∧ (i = e.on ∨ (acc.getD e.on 0).testBit i = true)
  | [], s, h => .inl h
  | e :: l, s, h => by
    simp only [List.foldl_cons] at h
    rcases fold_bit acc i l _ h with h | ⟨e', he', h'⟩
    · split at h
      · rename_i hb
        simp only [Nat.testBit_or, Bool.or_eq_true, Nat.testBit_two_pow, decide_eq_true_eq] at h
        rcases h with (h | h) | h
        · exact .inl h
        · exact .inr ⟨e, by simp, hb, .inl h.symm⟩
        · exact .inr ⟨e, by simp, hb, .inr h⟩
      · exact .inl h
    · exact .inr ⟨e', by simp [he'], h'⟩

theorem befGo_spec : ∀ (r : List Oper) (acc : List Nat), (befGo r acc).length = acc.length + r.length ∧ (∀ k, k < acc.length → (befGo r acc).getD k 0 = acc.getD k 0) ∧
    ∀ k o i, r[k]? = some o → ((befGo r acc).getD (acc.length + k) 0).testBit i = true → ∃ e ∈ o.after.toList, binds .any e = true ∧ (i = e.on ∨ (e.on < acc.length + k ∧ ((befGo r acc).getD e.on 0).testBit i = true))
  | [], acc => ⟨rfl, fun _ _ => rfl, fun k o i h => by simp at h⟩
  | o :: r, acc => by
    simp only [befGo]
    generalize hx : o.after.toList.foldl (fun s e => if binds .any e then s ||| 2 ^ e.on ||| acc.getD e.on 0 else s) 0 = x
    obtain ⟨h1, h2, h3⟩ := befGo_spec r (acc ++ [x])
    have hl : (acc ++ [x]).length = acc.length + 1 := by simp
    have hkeep : ∀ k, k < acc.length → (befGo r (acc ++ [x])).getD k 0 = acc.getD k 0 := by
      intro k hk
      rw [h2 k (by omega), List.getD_eq_getElem?_getD, List.getD_eq_getElem?_getD, List.getElem?_append_left hk]
    refine ⟨by rw [h1]; simp; omega, hkeep, ?_⟩
    intro k o' i ho hb
    cases k with
    | zero =>
      simp only [List.getElem?_cons_zero, Option.some.injEq] at ho
      subst ho
      rw [Nat.add_zero, h2 _ (by omega), List.getD_eq_getElem?_getD, List.getElem?_append_right (Nat.le_refl _)] at hb
      simp only [Nat.sub_self, List.getElem?_cons_zero, Option.getD_some] at hb
      rw [← hx] at hb
      rcases fold_bit acc i _ 0 hb with h | ⟨e, he, hbe, h⟩
      · simp at h
      · refine ⟨e, he, hbe, ?_⟩
        rcases h with h | h
        · exact .inl h
        · have hlt : e.on < acc.length := by
            rcases Nat.lt_or_ge e.on acc.length with hlt | hge
            · exact hlt
            · rw [List.getD_eq_getElem?_getD, List.getElem?_eq_none hge] at h
              simp at h
          exact .inr ⟨by omega, by rw [hkeep _ hlt]; exact h⟩
    | succ k =>
      obtain ⟨e, he, hbe, h⟩ := h3 k o' i (by simpa using ho) (by rw [hl]; rw [show acc.length + 1 + k = acc.length + (k + 1) by omega]; exact hb)
      refine ⟨e, he, hbe, ?_⟩
      rcases h with h | ⟨h, h'⟩
      · exact .inl h
      · exact .inr ⟨by rw [hl] at h; omega, h'⟩

theorem before_of {ops : Array Oper} {l : List Nat} (o : Order Region.Mode.any ops l) : ∀ (k i : Nat), ((befGo ops.toList []).getD k 0).testBit i = true → ∀ l1 l2, l = l1 ++ k :: l2 → i ∈ l1 := by
  intro k
  induction k using Nat.strongRecOn with
  | _ k ih =>
    intro i hb l1 l2 hl
    have hk : k < ops.size := o.lt k (by rw [hl]; simp)
    obtain ⟨_, _, h3⟩ := befGo_spec ops.toList []
    have hget : ops.toList[k]? = some (ops.getD k default) := by
      rw [Array.getElem?_toList]; exact getD_lt hk
    obtain ⟨e, he, hbe, h⟩ := h3 k _ i hget (by simpa using hb)
    have hon := o.ord l1 k l2 hl e he hbe
    rcases h with rfl | ⟨hlt, h⟩
    · exact hon
    · obtain ⟨a, b, hab⟩ := List.append_of_mem hon
      have hlt' : e.on < k := by simpa using hlt
      have := ih e.on hlt' i h a (b ++ k :: l2) (by rw [hl, hab]; simp)
      rw [hab]
      exact List.mem_append_left _ this

end Go.Vm
