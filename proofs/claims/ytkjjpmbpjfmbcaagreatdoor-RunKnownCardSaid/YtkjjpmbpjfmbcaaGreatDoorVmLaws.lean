/-
  Plain laws: trees, rows of cells, texts as numbers.
-/
import Derived.Test.YtkjjpmbpjfmbcaaGreatDoorVmComp
set_option linter.unusedVariables false
set_option linter.unusedSimpArgs false
namespace Go.Vm

section tree
variable {α : Type} (d : α)

theorem T.get_lf (i : Nat) : (T.lf : T α).get d i = d := rfl

theorem T.get_nd (v : α) (l r : T α) (i : Nat) :
    (T.nd v l r).get d i = if i = 0 then v else if (i - 1) % 2 = 0 then l.get d ((i - 1) / 2) else r.get d ((i - 1) / 2) := by
  cases i with
  | zero => rfl
  | succ j =>
    have e : (T.nd v l r).get d (j + 1) = match j % 2 with
      | 0 => l.get d (j / 2)
      | _ + 1 => r.get d (j / 2) := T.get_succ d v l r j
    rw [e]
    rcases h : j % 2 with _ | k <;> simp [h]

theorem T.make_succ (f i : Nat) (x : α) :
    T.make d (f + 1) i x = if i = 0 then .nd x .lf .lf else if (i - 1) % 2 = 0 then .nd d (T.make d f ((i - 1) / 2) x) .lf else .nd d .lf (T.make d f ((i - 1) / 2) x) := by
  cases i with
  | zero => rfl
  | succ j =>
    have e : T.make d (f + 1) (j + 1) x = match j % 2 with
      | 0 => .nd d (T.make d f (j / 2) x) .lf
      | _ + 1 => .nd d .lf (T.make d f (j / 2) x) := rfl
    rw [e]
    rcases h : j % 2 with _ | k <;> simp [h]

theorem T.set_nd (v : α) (l r : T α) (i : Nat) (x : α) :
    (T.nd v l r).set d i x = if i = 0 then .nd x l r else if (i - 1) % 2 = 0 then .nd v (l.set d ((i - 1) / 2) x) r else .nd v l (r.set d ((i - 1) / 2) x) := by
  cases i with
  | zero => rfl
  | succ j =>
    have e : (T.nd v l r).set d (j + 1) x = match j % 2 with
      | 0 => .nd v (l.set d (j / 2) x) r
      | _ + 1 => .nd v l (r.set d (j / 2) x) := T.set_succ d v l r j x
    rw [e]
    rcases h : j % 2 with _ | k <;> simp [h]

theorem T.get_make : ∀ (f i j : Nat) (x : α), i < f → (T.make d f i x).get d j = if i = j then x else d := by
  intro f
  induction f with
  | zero => intro i j x h; omega
  | succ f ih =>
    intro i j x h
    rw [T.make_succ]
    by_cases hi : i = 0
    · subst hi
      simp only [if_true, T.get_nd, T.get_lf]
      by_cases hj : j = 0
      · subst hj; simp
      · have : ¬ (0 = j) := fun e => hj e.symm
        simp [hj, this]
    · simp only [hi, if_false]
      by_cases hm : (i - 1) % 2 = 0
      · simp only [hm, if_true, T.get_nd, T.get_lf]
        by_cases hj : j = 0
        · subst hj; simp [hi]
        · simp only [hj, if_false]
          by_cases hk : (j - 1) % 2 = 0
          · simp only [hk, if_true]
            rw [ih _ _ _ (by omega)]
            have : ((i - 1) / 2 = (j - 1) / 2) ↔ i = j := by omega
            simp [this]
          · simp only [hk, if_false]
            have : ¬ i = j := by intro e; subst e; exact hk hm
            simp [this]
      · simp only [hm, if_false, T.get_nd, T.get_lf]
        by_cases hj : j = 0
        · subst hj; simp [hi]
        · simp only [hj, if_false]
          by_cases hk : (j - 1) % 2 = 0
          · simp only [hk, if_true]
            have : ¬ i = j := by intro e; subst e; exact hm hk
            simp [this]
          · simp only [hk, if_false]
            rw [ih _ _ _ (by omega)]
            have : ((i - 1) / 2 = (j - 1) / 2) ↔ i = j := by omega
            simp [this]

theorem T.get_set : ∀ (t : T α) (i j : Nat) (x : α), (t.set d i x).get d j = if i = j then x else t.get d j := by
  intro t
  induction t with
  | lf => intro i j x; rw [show (T.lf : T α).set d i x = T.make d (i + 1) i x from rfl, T.get_make d _ _ _ _ (by omega), T.get_lf]
  | nd v l r ihl ihr =>
    intro i j x
    rw [T.set_nd]
    by_cases hi : i = 0
    · subst hi
      simp only [if_true, T.get_nd]
      by_cases hj : j = 0
      · subst hj; simp
      · have : ¬ (0 = j) := fun e => hj e.symm
        simp [hj, this]
    · simp only [hi, if_false]
      by_cases hm : (i - 1) % 2 = 0
      · simp only [hm, if_true, T.get_nd]
        by_cases hj : j = 0
        · subst hj; simp [hi]
        · simp only [hj, if_false]
          by_cases hk : (j - 1) % 2 = 0
          · simp only [hk, if_true]
            rw [ihl]
            have : ((i - 1) / 2 = (j - 1) / 2) ↔ i = j := by omega
            simp [this]
          · simp only [hk, if_false]
            have : ¬ i = j := by intro e; subst e; exact hk hm
            simp [this]
      · simp only [hm, if_false, T.get_nd]
        by_cases hj : j = 0
        · subst hj; simp [hi]
        · simp only [hj, if_false]
          by_cases hk : (j - 1) % 2 = 0
          · simp only [hk, if_true]
            have : ¬ i = j := by intro e; subst e; exact hm hk
            simp [this]
          · simp only [hk, if_false]
            rw [ihr]
            have : ((i - 1) / 2 = (j - 1) / 2) ↔ i = j := by omega
            simp [this]
end tree

theorem length_readCells (t : T V) : ∀ (n i : Nat), (readCells t i n).length = n
  | 0, _ => rfl
  | n + 1, i => by simp [readCells, length_readCells t n (i + 1)]

theorem getElem_readCells (t : T V) : ∀ (n i j : Nat), j < n → (readCells t i n)[j]? = some (t.get .bot (i + j))
  | 0, _, _, h => by omega
  | n + 1, i, 0, _ => by simp [readCells]
  | n + 1, i, j + 1, h => by
    simp only [readCells, List.getElem?_cons_succ]
    rw [getElem_readCells t n (i + 1) j (by omega)]
    congr 2; omega

theorem get_writeCells : ∀ (l : List V) (t : T V) (i j : Nat),
    (writeCells t i l).get .bot j = if i ≤ j ∧ j < i + l.length then l.getD (j - i) .bot else t.get .bot j
  | [], t, i, j => by
    simp only [writeCells, List.length_nil, Nat.add_zero]
    rw [if_neg (by omega)]
  | v :: r, t, i, j => by
    simp only [writeCells]
    rw [get_writeCells r (t.set .bot i v) (i + 1) j, T.get_set]
    simp only [List.length_cons]
    by_cases h1 : i = j
    · subst h1
      rw [if_neg (by omega), if_pos rfl, if_pos (by omega)]
      simp
    · rw [if_neg h1]
      by_cases h2 : i + 1 ≤ j ∧ j < i + 1 + r.length
      · rw [if_pos h2, if_pos (by omega)]
        have : j - i = (j - (i + 1)) + 1 := by omega
        rw [this, List.getD_cons_succ]
      · rw [if_neg h2, if_neg (by omega)]

theorem getD_of_getElem? {α : Type} {l : List α} {i : Nat} {x d : α} (h : l[i]? = some x) : l.getD i d = x := by
  simp [List.getD, h]

@[simp] theorem H.get_set (h : H) (o p : Nat) (x : Obj) : (h.set o x).get p = if o = p then x else h.get p := T.get_set _ _ _ _ _
@[simp] theorem H.get_push (h : H) (p : Nat) (x : Obj) : (h.push x).get p = if h.n = p then x else h.get p := T.get_set _ _ _ _ _
@[simp] theorem H.n_set (h : H) (o : Nat) (x : Obj) : (h.set o x).n = h.n := rfl
@[simp] theorem H.n_push (h : H) (x : Obj) : (h.push x).n = h.n + 1 := rfl
@[simp] theorem H.fl_set (h : H) (o : Nat) (x : Obj) : (h.set o x).fl = h.fl := rfl
@[simp] theorem H.fl_push (h : H) (x : Obj) : (h.push x).fl = h.fl := rfl

theorem length_setRange (l : List V) (off : Nat) (c : List V) (h : off + c.length ≤ l.length) : (setRange l off c).length = l.length := by
  simp only [setRange, List.length_append, List.length_take, List.length_drop]; omega

theorem getElem?_setRange (l : List V) (off : Nat) (c : List V) (h : off + c.length ≤ l.length) (i : Nat) :
    (setRange l off c)[i]? = if off ≤ i ∧ i < off + c.length then c[i - off]? else l[i]? := by
  simp only [setRange]
  rw [List.append_assoc, List.getElem?_append]
  simp only [List.length_take]
  by_cases h1 : i < off
  · rw [if_pos (by omega), List.getElem?_take, if_pos h1, if_neg (by omega)]
  · rw [if_neg (by omega), List.getElem?_append]
    have e : min off l.length = off := by omega
    rw [e]
    by_cases h2 : i - off < c.length
    · rw [if_pos h2, if_pos (by omega)]
    · rw [if_neg h2, if_neg (by omega), List.getElem?_drop]
      congr 1; omega

/-! ### texts -/

theorem numOf_append (a b : List UInt8) : numOf (a ++ b) = numOf a * 256 ^ b.length + numOf b := by
  suffices h : ∀ (b : List UInt8) (k : Nat), b.foldl (fun a b => a * 256 + b.toNat) k = k * 256 ^ b.length + numOf b by
    unfold numOf; rw [List.foldl_append, h b]; rfl
  intro b
  induction b with
  | nil => intro k; simp [numOf]
  | cons x r ih =>
    intro k
    simp only [List.foldl_cons, List.length_cons, numOf]
    rw [ih, ih]
    simp only [Nat.zero_mul, Nat.zero_add]
    rw [Nat.pow_succ, Nat.add_mul]
    rw [show k * (256 ^ r.length * 256) = k * 256 * 256 ^ r.length by rw [Nat.mul_comm (256 ^ r.length) 256, ← Nat.mul_assoc], Nat.add_assoc]

theorem numOf_cons (x : UInt8) (l : List UInt8) : numOf (x :: l) = x.toNat * 256 ^ l.length + numOf l := by
  have := numOf_append [x] l
  simpa [numOf] using this

theorem numOf_nil : numOf [] = 0 := rfl

theorem numOf_lt (l : List UInt8) : numOf l < 256 ^ l.length := by
  induction l with
  | nil => simp [numOf]
  | cons x r ih =>
    rw [numOf_cons, List.length_cons, Nat.pow_succ]
    have hx : x.toNat < 256 := x.toNat_lt
    have : (x.toNat + 1) * 256 ^ r.length ≤ 256 * 256 ^ r.length := Nat.mul_le_mul_right _ (by omega)
    rw [Nat.add_mul, Nat.one_mul] at this
    rw [Nat.mul_comm (256 ^ r.length) 256]
    omega

theorem numOf_inj : ∀ (a b : List UInt8), a.length = b.length → numOf a = numOf b → a = b := by
  intro a
  induction a with
  | nil => intro b h _; cases b with
    | nil => rfl
    | cons _ _ => simp at h
  | cons x r ih =>
    intro b h e
    cases b with
    | nil => simp at h
    | cons y s =>
      simp only [List.length_cons, Nat.add_right_cancel_iff] at h
      rw [numOf_cons, numOf_cons, h] at e
      have h1 := numOf_lt r
      have h2 := numOf_lt s
      rw [h] at h1
      have hd : x.toNat = y.toNat := by
        have e1 : (x.toNat * 256 ^ s.length + numOf r) / 256 ^ s.length = x.toNat := by
          rw [Nat.mul_comm, Nat.mul_add_div (Nat.pos_of_ne_zero (by simp)), Nat.div_eq_of_lt h1, Nat.add_zero]
        have e2 : (y.toNat * 256 ^ s.length + numOf s) / 256 ^ s.length = y.toNat := by
          rw [Nat.mul_comm, Nat.mul_add_div (Nat.pos_of_ne_zero (by simp)), Nat.div_eq_of_lt h2, Nat.add_zero]
        rw [← e1, ← e2, e]
      have hxy : x = y := UInt8.toNat_inj.1 hd
      subst hxy
      have : numOf r = numOf s := by omega
      rw [ih s h this]

theorem numOf_div (a b : List UInt8) : numOf (a ++ b) / 256 ^ b.length = numOf a := by
  rw [numOf_append, Nat.mul_comm, Nat.mul_add_div (Nat.pos_of_ne_zero (by simp)), Nat.div_eq_of_lt (numOf_lt b), Nat.add_zero]

theorem numOf_mod (a b : List UInt8) : numOf (a ++ b) % 256 ^ b.length = numOf b := by
  rw [numOf_append, Nat.mul_comm, Nat.mul_add_mod, Nat.mod_eq_of_lt (numOf_lt b)]

/-- a middle piece -/
theorem strSub_numOf (l : List UInt8) (lo hi : Nat) (h1 : lo ≤ hi) (h2 : hi ≤ l.length) :
    strSub l.length (numOf l) lo hi = numOf ((l.take hi).drop lo) := by
  have e1 : l = l.take hi ++ l.drop hi := (List.take_append_drop hi l).symm
  have e2 : l.take hi = (l.take hi).take lo ++ (l.take hi).drop lo := (List.take_append_drop lo _).symm
  have hl : (l.drop hi).length = l.length - hi := List.length_drop ..
  have hm : ((l.take hi).drop lo).length = hi - lo := by simp [List.length_drop, List.length_take]; omega
  show (numOf l / 256 ^ (l.length - hi)) % 256 ^ (hi - lo) = _
  have : numOf l / 256 ^ (l.length - hi) = numOf (l.take hi) := by
    have := numOf_div (l.take hi) (l.drop hi)
    rw [← e1, hl] at this
    exact this
  rw [this]
  have := numOf_mod ((l.take hi).take lo) ((l.take hi).drop lo)
  rw [← e2, hm] at this
  exact this

theorem strAt_numOf (l : List UInt8) (i : Nat) (h : i < l.length) : strAt l.length (numOf l) i = (l[i]).toNat := by
  have := strSub_numOf l i (i + 1) (by omega) (by omega)
  have e : strAt l.length (numOf l) i = strSub l.length (numOf l) i (i + 1) := by
    show _ % 256 = _ % 256 ^ (i + 1 - i)
    have h1 : l.length - 1 - i = l.length - (i + 1) := by omega
    have h2 : i + 1 - i = 1 := by omega
    rw [h2]
    show (numOf l / 256 ^ (l.length - 1 - i)) % 256 = (numOf l / 256 ^ (l.length - (i + 1))) % 256 ^ 1
    rw [h1, Nat.pow_one]
  rw [e, this]
  have : (l.take (i + 1)).drop i = [l[i]] := by
    rw [List.take_succ_eq_append_getElem h, List.drop_append_of_le_length (by simp; omega)]
    simp
  rw [this]
  simp [numOf]

theorem strCat_numOf (a b : List UInt8) : strCat (numOf a) b.length (numOf b) = numOf (a ++ b) := by
  rw [numOf_append]; rfl

theorem strEq_numOf (a b : List UInt8) : strEq a.length (numOf a) b.length (numOf b) = (a == b) := by
  have h : strEq a.length (numOf a) b.length (numOf b) = (decide (a.length = b.length) && decide (numOf a = numOf b)) := by
    unfold strEq
    congr 1 <;> (rw [Bool.eq_iff_iff, Nat.beq_eq]; simp)
  rw [h, Bool.eq_iff_iff]
  simp only [Bool.and_eq_true, decide_eq_true_eq, beq_iff_eq]
  constructor
  · rintro ⟨h1, h2⟩; exact numOf_inj a b h1 h2
  · rintro rfl; exact ⟨rfl, rfl⟩

theorem bytesLess_same_length : ∀ (a b : List UInt8), a.length = b.length → (Op.bytesLess a b = true ↔ numOf a < numOf b) := by
  intro a
  induction a with
  | nil => intro b h; cases b with
    | nil => simp [Op.bytesLess, numOf]
    | cons _ _ => simp at h
  | cons x r ih =>
    intro b h
    cases b with
    | nil => simp at h
    | cons y s =>
      simp only [List.length_cons, Nat.add_right_cancel_iff] at h
      rw [numOf_cons, numOf_cons, h]
      have h1 := numOf_lt r
      have h2 := numOf_lt s
      rw [h] at h1
      simp only [Op.bytesLess, Bool.or_eq_true, decide_eq_true_eq, Bool.and_eq_true, beq_iff_eq]
      rw [ih s h]
      have hlt : (x < y) ↔ x.toNat < y.toNat := UInt8.lt_iff_toNat_lt
      have heq : (x = y) ↔ x.toNat = y.toNat := UInt8.toNat_inj.symm
      rw [hlt, heq]
      constructor
      · rintro (hx | ⟨hx, hr⟩)
        · have : (x.toNat + 1) * 256 ^ s.length ≤ y.toNat * 256 ^ s.length := Nat.mul_le_mul_right _ hx
          rw [Nat.add_mul, Nat.one_mul] at this
          omega
        · rw [hx]; omega
      · intro hlt
        rcases Nat.lt_trichotomy x.toNat y.toNat with hx | hx | hx
        · exact .inl hx
        · exact .inr ⟨hx, by rw [hx] at hlt; omega⟩
        · have : (y.toNat + 1) * 256 ^ s.length ≤ x.toNat * 256 ^ s.length := Nat.mul_le_mul_right _ hx
          rw [Nat.add_mul, Nat.one_mul] at this
          omega

theorem bytesLess_take : ∀ (a b : List UInt8), Op.bytesLess a b =
    (Op.bytesLess (a.take (min a.length b.length)) (b.take (min a.length b.length)) ||
     (a.take (min a.length b.length) == b.take (min a.length b.length) && decide (a.length < b.length))) := by
  intro a
  induction a with
  | nil => intro b; cases b <;> simp [Op.bytesLess]
  | cons x r ih =>
    intro b
    cases b with
    | nil => simp [Op.bytesLess]
    | cons y s =>
      have e : min (x :: r).length (y :: s).length = min r.length s.length + 1 := by simp only [List.length_cons]; omega
      rw [e]
      simp only [List.take_succ_cons, Op.bytesLess]
      rw [ih s]
      simp only [List.length_cons, Nat.add_lt_add_iff_right, List.cons_beq_cons]
      cases decide (x < y) <;> cases (x == y) <;> simp

theorem strLt_numOf (a b : List UInt8) : strLt a.length (numOf a) b.length (numOf b) = Op.bytesLess a b := by
  rw [bytesLess_take]
  have hm : Nat.min a.length b.length = min a.length b.length := rfl
  have e1 : strSub a.length (numOf a) 0 (min a.length b.length) = numOf (a.take (min a.length b.length)) := by
    rw [strSub_numOf a 0 _ (by omega) (by omega)]; simp
  have e2 : strSub b.length (numOf b) 0 (min a.length b.length) = numOf (b.take (min a.length b.length)) := by
    rw [strSub_numOf b 0 _ (by omega) (by omega)]; simp
  unfold strLt
  simp only [hm, e1, e2]
  have hl : (a.take (min a.length b.length)).length = (b.take (min a.length b.length)).length := by simp [List.length_take]
  have h1 := bytesLess_same_length _ _ hl
  have h2 : (Nat.blt (numOf (a.take (min a.length b.length))) (numOf (b.take (min a.length b.length)))) = Op.bytesLess (a.take (min a.length b.length)) (b.take (min a.length b.length)) := by
    rw [Bool.eq_iff_iff, h1, Nat.blt_eq]
  have h3 : (Nat.beq (numOf (a.take (min a.length b.length))) (numOf (b.take (min a.length b.length)))) = (a.take (min a.length b.length) == b.take (min a.length b.length)) := by
    rw [Bool.eq_iff_iff, Nat.beq_eq, beq_iff_eq]
    exact ⟨fun h => numOf_inj _ _ hl h, fun h => by rw [h]⟩
  have h4 : Nat.blt a.length b.length = decide (a.length < b.length) := by rw [Bool.eq_iff_iff, Nat.blt_eq]; simp
  rw [h2, h3, h4]

end Go.Vm
