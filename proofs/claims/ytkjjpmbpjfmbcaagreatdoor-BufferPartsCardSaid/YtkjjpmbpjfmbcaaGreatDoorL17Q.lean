/-
  Layer 17: the law of First.
-/
import Derived.Test.YtkjjpmbpjfmbcaaGreatDoorL17P
set_option linter.unusedVariables false
set_option linter.unusedSimpArgs false
namespace Go.Vm.YtkjjpmbpjfmbcaaGreatDoor
open Go.Proofs Go.Vm.R
noncomputable section
theorem seg_getD {full : List Msg} {j n i : Nat} (h : i < n) (p1 : j + n ≤ full.length) : (seg full j n).getD i (0, [], [], []) = full.getD (j + i) (0, [], [], []) := by
  unfold seg
  rw [List.getD_eq_getElem?_getD, List.getD_eq_getElem?_getD, List.getElem?_take_of_lt h, List.getElem?_drop]
theorem put0 {q rep : List Msg} : List.take 0 rep ++ q ++ List.drop q.length rep = q ++ rep.drop q.length := by
  rw [List.take_zero, List.nil_append]
theorem put_at {p q rep : List Msg} : List.take p.length (p ++ rep.drop p.length) ++ q ++ List.drop (p.length + q.length) (p ++ rep.drop p.length) = (p ++ q) ++ rep.drop (p ++ q).length := by
  rw [List.take_left, ← List.drop_drop, List.drop_left, List.drop_drop, List.length_append]
theorem lapp (p q : List Msg) : (p ++ q).length = p.length + q.length := List.length_append
theorem drop_all {rep : List Msg} {k : Nat} (h : rep.length = k) : rep.drop k = [] := List.drop_eq_nil_of_le (by omega)
/-- what the run's parts are -/
theorem parts19 {j n : Nat} {x0 y0 : Txt} {full : List Msg} (p1 : j + n ≤ full.length) (p2 : n < 99) (h : noP x0 y0 (seg full j n) = false) :
    ∃ i : Nat, i < n ∧ ix19 j n x0 y0 full = i ∧ partOk (msg19 j n x0 y0 full) x0 y0 = true ∧ firstM x0 y0 (seg full j n) zeroM = partM (msg19 j n x0 y0 full) x0 y0 ∧
      restF leftL x0 y0 (seg full j n) = hd19 j n x0 y0 full ++ (lf19 j n x0 y0 full ++ tl19 j n x0 y0 full) ∧ lg19 j n x0 y0 full = lf19 j n x0 y0 full ∧
      (hd19 j n x0 y0 full).length = i ∧ (lf19 j n x0 y0 full).length ≤ 2 ∧ (tl19 j n x0 y0 full).length = n - (i + 1) ∧ z19 j n x0 y0 full = i + (lf19 j n x0 y0 full).length + (n - (i + 1)) ∧
      sz19 j n x0 y0 full = ((i + (lf19 j n x0 y0 full).length + (n - (i + 1)) : Nat) : Int) ∧ (rep19 j n x0 y0 full).length = i + (lf19 j n x0 y0 full).length + (n - (i + 1)) := by
  have hl := seg_len p1
  obtain ⟨i, h1, h2, h3, h4, h5⟩ := at_first leftL (seg full j n) zeroM h
  rw [hl] at h2
  have hg := seg_getD h2 p1
  have hix : ix19 j n x0 y0 full = i := h1
  have hm : msg19 j n x0 y0 full = (seg full j n).getD i (0, [], [], []) := by
    rw [hg]; unfold msg19; rw [hix, Int.toNat_natCast]
  have w1 : IntKind.wrap IntKind.i64 ((i : Int) + 1) = ((i + 1 : Nat) : Int) := (wrap_i64 (by omega) (by omega)).trans (by omega)
  have hhd : hd19 j n x0 y0 full = (seg full j n).take i := by
    unfold hd19 seg
    rw [hix, Int.toNat_natCast, Nat.sub_zero, Nat.add_zero, List.take_take, Nat.min_eq_left (by omega)]
  have htl : tl19 j n x0 y0 full = (seg full j n).drop (i + 1) := by
    unfold tl19 seg
    rw [hix, w1, Int.toNat_natCast, List.drop_take, List.drop_drop]
  have llf : (lf19 j n x0 y0 full).length ≤ 2 := leftL_len _ _ _
  have lhd : (hd19 j n x0 y0 full).length = i := by rw [hhd, List.length_take, hl]; omega
  have ltl : (tl19 j n x0 y0 full).length = n - (i + 1) := by rw [htl, List.length_drop, hl]
  have hsz : sz19 j n x0 y0 full = ((i + (lf19 j n x0 y0 full).length + (n - (i + 1)) : Nat) : Int) := by
    unfold sz19
    rw [hix, w1, Int.toNat_natCast, Int.toNat_natCast, Nat.sub_zero]
    rw [wrap_i64 (z := 0 + (i : Int)) (by omega) (by omega), wrap_i64 (z := 0 + (i : Int) + ((lf19 j n x0 y0 full).length : Int)) (by omega) (by omega), wrap_i64 (by omega) (by omega)]
    omega
  have hz : z19 j n x0 y0 full = i + (lf19 j n x0 y0 full).length + (n - (i + 1)) := by
    unfold z19
    rw [hsz, wrap_i64 (by omega) (by omega)]; omega
  refine ⟨i, h2, hix, by rw [hm]; exact h3, by rw [hm]; exact h4, ?_, List.take_length, lhd, llf, ltl, hz, hsz, ?_⟩
  · rw [h5, hhd, htl, ← hm]; rfl
  · unfold rep19; rw [List.length_replicate, hz]
def ok19 (full : List Msg) (j n c : Nat) : Bool := decide (j + n ≤ full.length ∧ n < 99 ∧ n ≤ c)
set_option maxHeartbeats 1000000 in
theorem w19r0 {j n c : Nat} (ex : Bool) {x0 y0 : Txt} {full : List Msg} (sp : Bool) (el : R.EL) (p1 : j + n ≤ full.length) (p2 : n < 99) (pc : n ≤ c) (h : noP x0 y0 (seg full j n) = false) (h0 : (hd19 j n x0 y0 full).length ≠ 0) (h1 : (lf19 j n x0 y0 full).length ≠ 0) (h2 : (tl19 j n x0 y0 full).length ≠ 0) :
    (T19 j n c ex x0 y0 full sp el).ev = some (R.DV.tup [valM (firstM x0 y0 (seg full j n) zeroM), .rs 1 0 (restF leftL x0 y0 (seg full j n)).length (restF leftL x0 y0 (seg full j n)).length 4 false, .bool true], mkD [DO.r RK.msg full sp el, DO.r RK.msg (restF leftL x0 y0 (seg full j n)) true 31] 1) := by
  obtain ⟨i, hi, hix, hpo, hf, hr, hlg, lhd, llf, ltl, hz, hsz, hrep⟩ := parts19 p1 p2 h
  have w1 : IntKind.wrap IntKind.i64 ((i : Int) + 1) = ((i + 1 : Nat) : Int) := (wrap_i64 (by omega) (by omega)).trans (by omega)
  have w2 : IntKind.wrap IntKind.i64 (0 + ((i : Nat) : Int)) = ((i : Nat) : Int) := (wrap_i64 (by omega) (by omega)).trans (by omega)
  have w3 : IntKind.wrap IntKind.i64 ((i : Int) + ((lf19 j n x0 y0 full).length : Int)) = ((i + (lf19 j n x0 y0 full).length : Nat) : Int) := (wrap_i64 (by omega) (by omega)).trans (by omega)
  have w4 : IntKind.wrap IntKind.i64 (((i + (lf19 j n x0 y0 full).length + (n - (i + 1)) : Nat) : Int) - 0) = ((i + (lf19 j n x0 y0 full).length + (n - (i + 1)) : Nat) : Int) := (wrap_i64 (by omega) (by omega)).trans (by omega)
  have hok : okG full j n = true := okG_iff.2 ⟨p1, p2⟩
  have hck : R.Tree.cks p19r0 (T19 j n c ex x0 y0 full sp el) = true := by
    rw [c19r0, hok, h, hpo, hix, hsz, hz, hlg, Int.toNat_natCast, w1, Int.toNat_natCast, Nat.sub_zero, w2, w3, w4]
    simp only [List.length_append, List.length_take, List.length_drop, hrep, lhd, ltl, Bool.and_eq_true, Bool.not_eq_true', decide_eq_true_eq, decide_eq_false_iff_not, Nat.ble_eq, Nat.blt_eq, and_true, true_and, Bool.not_false]
    have hroom : roomFor (i + (lf19 j n x0 y0 full).length + (n - (i + 1))) 56 = true := room_msg (by omega)
    rw [lhd] at h0
    rw [ltl] at h2
    and_intros <;> first | omega | exact hroom
  rw [R.Tree.ev_go _ _ hck, l19r0]
  have hlen : (restF leftL x0 y0 (seg full j n)).length = i + (lf19 j n x0 y0 full).length + (n - (i + 1)) := by
    rw [hr, List.length_append, List.length_append, lhd, ltl]; omega
  have hrow : restF leftL x0 y0 (seg full j n) = (List.take (0 + ((0 + (hd19 j n x0 y0 full).length) + (lg19 j n x0 y0 full).length)) (List.take (0 + (0 + (hd19 j n x0 y0 full).length)) (List.take 0 (rep19 j n x0 y0 full) ++ hd19 j n x0 y0 full ++ List.drop (0 + (hd19 j n x0 y0 full).length) (rep19 j n x0 y0 full)) ++ lg19 j n x0 y0 full ++ List.drop (0 + (0 + (hd19 j n x0 y0 full).length) + (lg19 j n x0 y0 full).length) (List.take 0 (rep19 j n x0 y0 full) ++ hd19 j n x0 y0 full ++ List.drop (0 + (hd19 j n x0 y0 full).length) (rep19 j n x0 y0 full))) ++ tl19 j n x0 y0 full ++ List.drop (0 + ((0 + (hd19 j n x0 y0 full).length) + (lg19 j n x0 y0 full).length) + (tl19 j n x0 y0 full).length) (List.take (0 + (0 + (hd19 j n x0 y0 full).length)) (List.take 0 (rep19 j n x0 y0 full) ++ hd19 j n x0 y0 full ++ List.drop (0 + (hd19 j n x0 y0 full).length) (rep19 j n x0 y0 full)) ++ lg19 j n x0 y0 full ++ List.drop (0 + (0 + (hd19 j n x0 y0 full).length) + (lg19 j n x0 y0 full).length) (List.take 0 (rep19 j n x0 y0 full) ++ hd19 j n x0 y0 full ++ List.drop (0 + (hd19 j n x0 y0 full).length) (rep19 j n x0 y0 full)))) := by
    rw [hr]
    try rw [hlg]
    simp only [Nat.zero_add]
    rw [put0]
    rw [put_at]
    rw [← lapp (hd19 j n x0 y0 full) (lf19 j n x0 y0 full), put_at]
    rw [drop_all (by simp only [List.length_append, hrep, lhd, ltl] <;> omega)]
    try simp
  rw [hf, ← hrow]
  try rw [hlg]
  rw [hz, Nat.sub_zero, hlen]
  rw [show 0 + (hd19 j n x0 y0 full).length + (lf19 j n x0 y0 full).length + (tl19 j n x0 y0 full).length = i + (lf19 j n x0 y0 full).length + (n - (i + 1)) by omega]
  rfl
set_option maxHeartbeats 1000000 in
theorem w19r1 {j n c : Nat} (ex : Bool) {x0 y0 : Txt} {full : List Msg} (sp : Bool) (el : R.EL) (p1 : j + n ≤ full.length) (p2 : n < 99) (pc : n ≤ c) (h : noP x0 y0 (seg full j n) = false) (h0 : (hd19 j n x0 y0 full).length = 0) (h1 : (lf19 j n x0 y0 full).length ≠ 0) (h2 : (tl19 j n x0 y0 full).length ≠ 0) :
    (T19 j n c ex x0 y0 full sp el).ev = some (R.DV.tup [valM (firstM x0 y0 (seg full j n) zeroM), .rs 1 0 (restF leftL x0 y0 (seg full j n)).length (restF leftL x0 y0 (seg full j n)).length 4 false, .bool true], mkD [DO.r RK.msg full sp el, DO.r RK.msg (restF leftL x0 y0 (seg full j n)) true 31] 1) := by
  obtain ⟨i, hi, hix, hpo, hf, hr, hlg, lhd, llf, ltl, hz, hsz, hrep⟩ := parts19 p1 p2 h
  have w1 : IntKind.wrap IntKind.i64 ((i : Int) + 1) = ((i + 1 : Nat) : Int) := (wrap_i64 (by omega) (by omega)).trans (by omega)
  have w2 : IntKind.wrap IntKind.i64 (0 + ((i : Nat) : Int)) = ((i : Nat) : Int) := (wrap_i64 (by omega) (by omega)).trans (by omega)
  have w3 : IntKind.wrap IntKind.i64 ((i : Int) + ((lf19 j n x0 y0 full).length : Int)) = ((i + (lf19 j n x0 y0 full).length : Nat) : Int) := (wrap_i64 (by omega) (by omega)).trans (by omega)
  have w4 : IntKind.wrap IntKind.i64 (((i + (lf19 j n x0 y0 full).length + (n - (i + 1)) : Nat) : Int) - 0) = ((i + (lf19 j n x0 y0 full).length + (n - (i + 1)) : Nat) : Int) := (wrap_i64 (by omega) (by omega)).trans (by omega)
  have hok : okG full j n = true := okG_iff.2 ⟨p1, p2⟩
  have hck : R.Tree.cks p19r1 (T19 j n c ex x0 y0 full sp el) = true := by
    rw [c19r1, hok, h, hpo, hix, hsz, hz, hlg, Int.toNat_natCast, w1, Int.toNat_natCast, Nat.sub_zero, w2, w3, w4]
    simp only [List.length_append, List.length_take, List.length_drop, hrep, lhd, ltl, Bool.and_eq_true, Bool.not_eq_true', decide_eq_true_eq, decide_eq_false_iff_not, Nat.ble_eq, Nat.blt_eq, and_true, true_and, Bool.not_false]
    have hroom : roomFor (i + (lf19 j n x0 y0 full).length + (n - (i + 1))) 56 = true := room_msg (by omega)
    rw [lhd] at h0
    rw [ltl] at h2
    and_intros <;> first | omega | exact hroom
  rw [R.Tree.ev_go _ _ hck, l19r1]
  have hlen : (restF leftL x0 y0 (seg full j n)).length = i + (lf19 j n x0 y0 full).length + (n - (i + 1)) := by
    rw [hr, List.length_append, List.length_append, lhd, ltl]; omega
  have hrow : restF leftL x0 y0 (seg full j n) = (List.take (0 + (0 + (lg19 j n x0 y0 full).length)) (List.take 0 (rep19 j n x0 y0 full) ++ lg19 j n x0 y0 full ++ List.drop (0 + (lg19 j n x0 y0 full).length) (rep19 j n x0 y0 full)) ++ tl19 j n x0 y0 full ++ List.drop (0 + (0 + (lg19 j n x0 y0 full).length) + (tl19 j n x0 y0 full).length) (List.take 0 (rep19 j n x0 y0 full) ++ lg19 j n x0 y0 full ++ List.drop (0 + (lg19 j n x0 y0 full).length) (rep19 j n x0 y0 full))) := by
    rw [hr]
    have z0 : hd19 j n x0 y0 full = [] := List.length_eq_zero_iff.1 h0
    try rw [hlg]
    simp only [Nat.zero_add]
    rw [z0]
    rw [put0]
    rw [put_at]
    rw [drop_all (by simp only [List.length_append, hrep, lhd, ltl] <;> omega)]
    try simp
  rw [hf, ← hrow]
  try rw [hlg]
  rw [hz, Nat.sub_zero, hlen]
  rw [show 0 + (lf19 j n x0 y0 full).length + (tl19 j n x0 y0 full).length = i + (lf19 j n x0 y0 full).length + (n - (i + 1)) by omega]
  rfl
set_option maxHeartbeats 1000000 in
theorem w19r2 {j n c : Nat} (ex : Bool) {x0 y0 : Txt} {full : List Msg} (sp : Bool) (el : R.EL) (p1 : j + n ≤ full.length) (p2 : n < 99) (pc : n ≤ c) (h : noP x0 y0 (seg full j n) = false) (h0 : (hd19 j n x0 y0 full).length ≠ 0) (h1 : (lf19 j n x0 y0 full).length = 0) (h2 : (tl19 j n x0 y0 full).length ≠ 0) :
    (T19 j n c ex x0 y0 full sp el).ev = some (R.DV.tup [valM (firstM x0 y0 (seg full j n) zeroM), .rs 1 0 (restF leftL x0 y0 (seg full j n)).length (restF leftL x0 y0 (seg full j n)).length 4 false, .bool true], mkD [DO.r RK.msg full sp el, DO.r RK.msg (restF leftL x0 y0 (seg full j n)) true 31] 1) := by
  obtain ⟨i, hi, hix, hpo, hf, hr, hlg, lhd, llf, ltl, hz, hsz, hrep⟩ := parts19 p1 p2 h
  have w1 : IntKind.wrap IntKind.i64 ((i : Int) + 1) = ((i + 1 : Nat) : Int) := (wrap_i64 (by omega) (by omega)).trans (by omega)
  have w2 : IntKind.wrap IntKind.i64 (0 + ((i : Nat) : Int)) = ((i : Nat) : Int) := (wrap_i64 (by omega) (by omega)).trans (by omega)
  have w3 : IntKind.wrap IntKind.i64 ((i : Int) + ((lf19 j n x0 y0 full).length : Int)) = ((i + (lf19 j n x0 y0 full).length : Nat) : Int) := (wrap_i64 (by omega) (by omega)).trans (by omega)
  have w4 : IntKind.wrap IntKind.i64 (((i + (lf19 j n x0 y0 full).length + (n - (i + 1)) : Nat) : Int) - 0) = ((i + (lf19 j n x0 y0 full).length + (n - (i + 1)) : Nat) : Int) := (wrap_i64 (by omega) (by omega)).trans (by omega)
  have hok : okG full j n = true := okG_iff.2 ⟨p1, p2⟩
  have hck : R.Tree.cks p19r2 (T19 j n c ex x0 y0 full sp el) = true := by
    rw [c19r2, hok, h, hpo, hix, hsz, hz, hlg, Int.toNat_natCast, w1, Int.toNat_natCast, Nat.sub_zero, w2, w3, w4]
    simp only [List.length_append, List.length_take, List.length_drop, hrep, lhd, ltl, Bool.and_eq_true, Bool.not_eq_true', decide_eq_true_eq, decide_eq_false_iff_not, Nat.ble_eq, Nat.blt_eq, and_true, true_and, Bool.not_false]
    have hroom : roomFor (i + (lf19 j n x0 y0 full).length + (n - (i + 1))) 56 = true := room_msg (by omega)
    rw [lhd] at h0
    rw [ltl] at h2
    and_intros <;> first | omega | exact hroom
  rw [R.Tree.ev_go _ _ hck, l19r2]
  have hlen : (restF leftL x0 y0 (seg full j n)).length = i + (lf19 j n x0 y0 full).length + (n - (i + 1)) := by
    rw [hr, List.length_append, List.length_append, lhd, ltl]; omega
  have hrow : restF leftL x0 y0 (seg full j n) = (List.take (0 + (0 + (hd19 j n x0 y0 full).length)) (List.take 0 (rep19 j n x0 y0 full) ++ hd19 j n x0 y0 full ++ List.drop (0 + (hd19 j n x0 y0 full).length) (rep19 j n x0 y0 full)) ++ tl19 j n x0 y0 full ++ List.drop (0 + (0 + (hd19 j n x0 y0 full).length) + (tl19 j n x0 y0 full).length) (List.take 0 (rep19 j n x0 y0 full) ++ hd19 j n x0 y0 full ++ List.drop (0 + (hd19 j n x0 y0 full).length) (rep19 j n x0 y0 full))) := by
    rw [hr]
    have z1 : lf19 j n x0 y0 full = [] := List.length_eq_zero_iff.1 h1
    try rw [hlg]
    simp only [Nat.zero_add]
    rw [z1]
    rw [put0]
    rw [put_at]
    rw [drop_all (by simp only [List.length_append, hrep, lhd, ltl] <;> omega)]
    try simp
  rw [hf, ← hrow]
  try rw [hlg]
  rw [hz, Nat.sub_zero, hlen]
  rw [show 0 + (hd19 j n x0 y0 full).length + (tl19 j n x0 y0 full).length = i + (lf19 j n x0 y0 full).length + (n - (i + 1)) by omega]
  rfl
set_option maxHeartbeats 1000000 in
theorem w19r3 {j n c : Nat} (ex : Bool) {x0 y0 : Txt} {full : List Msg} (sp : Bool) (el : R.EL) (p1 : j + n ≤ full.length) (p2 : n < 99) (pc : n ≤ c) (h : noP x0 y0 (seg full j n) = false) (h0 : (hd19 j n x0 y0 full).length = 0) (h1 : (lf19 j n x0 y0 full).length = 0) (h2 : (tl19 j n x0 y0 full).length ≠ 0) :
    (T19 j n c ex x0 y0 full sp el).ev = some (R.DV.tup [valM (firstM x0 y0 (seg full j n) zeroM), .rs 1 0 (restF leftL x0 y0 (seg full j n)).length (restF leftL x0 y0 (seg full j n)).length 4 false, .bool true], mkD [DO.r RK.msg full sp el, DO.r RK.msg (restF leftL x0 y0 (seg full j n)) true 31] 1) := by
  obtain ⟨i, hi, hix, hpo, hf, hr, hlg, lhd, llf, ltl, hz, hsz, hrep⟩ := parts19 p1 p2 h
  have w1 : IntKind.wrap IntKind.i64 ((i : Int) + 1) = ((i + 1 : Nat) : Int) := (wrap_i64 (by omega) (by omega)).trans (by omega)
  have w2 : IntKind.wrap IntKind.i64 (0 + ((i : Nat) : Int)) = ((i : Nat) : Int) := (wrap_i64 (by omega) (by omega)).trans (by omega)
  have w3 : IntKind.wrap IntKind.i64 ((i : Int) + ((lf19 j n x0 y0 full).length : Int)) = ((i + (lf19 j n x0 y0 full).length : Nat) : Int) := (wrap_i64 (by omega) (by omega)).trans (by omega)
  have w4 : IntKind.wrap IntKind.i64 (((i + (lf19 j n x0 y0 full).length + (n - (i + 1)) : Nat) : Int) - 0) = ((i + (lf19 j n x0 y0 full).length + (n - (i + 1)) : Nat) : Int) := (wrap_i64 (by omega) (by omega)).trans (by omega)
  have hok : okG full j n = true := okG_iff.2 ⟨p1, p2⟩
  have hck : R.Tree.cks p19r3 (T19 j n c ex x0 y0 full sp el) = true := by
    rw [c19r3, hok, h, hpo, hix, hsz, hz, hlg, Int.toNat_natCast, w1, Int.toNat_natCast, Nat.sub_zero, w2, w3, w4]
    simp only [List.length_append, List.length_take, List.length_drop, hrep, lhd, ltl, Bool.and_eq_true, Bool.not_eq_true', decide_eq_true_eq, decide_eq_false_iff_not, Nat.ble_eq, Nat.blt_eq, and_true, true_and, Bool.not_false]
    have hroom : roomFor (i + (lf19 j n x0 y0 full).length + (n - (i + 1))) 56 = true := room_msg (by omega)
    rw [lhd] at h0
    rw [ltl] at h2
    and_intros <;> first | omega | exact hroom
  rw [R.Tree.ev_go _ _ hck, l19r3]
  have hlen : (restF leftL x0 y0 (seg full j n)).length = i + (lf19 j n x0 y0 full).length + (n - (i + 1)) := by
    rw [hr, List.length_append, List.length_append, lhd, ltl]; omega
  have hrow : restF leftL x0 y0 (seg full j n) = (List.take 0 (rep19 j n x0 y0 full) ++ tl19 j n x0 y0 full ++ List.drop (0 + (tl19 j n x0 y0 full).length) (rep19 j n x0 y0 full)) := by
    rw [hr]
    have z0 : hd19 j n x0 y0 full = [] := List.length_eq_zero_iff.1 h0
    have z1 : lf19 j n x0 y0 full = [] := List.length_eq_zero_iff.1 h1
    try rw [hlg]
    simp only [Nat.zero_add]
    rw [z0, z1]
    rw [put0]
    rw [drop_all (by simp only [List.length_append, hrep, lhd, ltl] <;> omega)]
    try simp
  rw [hf, ← hrow]
  try rw [hlg]
  rw [hz, Nat.sub_zero, hlen]
  rw [show 0 + (tl19 j n x0 y0 full).length = i + (lf19 j n x0 y0 full).length + (n - (i + 1)) by omega]
  rfl
set_option maxHeartbeats 1000000 in
theorem w19r4 {j n c : Nat} (ex : Bool) {x0 y0 : Txt} {full : List Msg} (sp : Bool) (el : R.EL) (p1 : j + n ≤ full.length) (p2 : n < 99) (pc : n ≤ c) (h : noP x0 y0 (seg full j n) = false) (h0 : (hd19 j n x0 y0 full).length ≠ 0) (h1 : (lf19 j n x0 y0 full).length ≠ 0) (h2 : (tl19 j n x0 y0 full).length = 0) :
    (T19 j n c ex x0 y0 full sp el).ev = some (R.DV.tup [valM (firstM x0 y0 (seg full j n) zeroM), .rs 1 0 (restF leftL x0 y0 (seg full j n)).length (restF leftL x0 y0 (seg full j n)).length 4 false, .bool true], mkD [DO.r RK.msg full sp el, DO.r RK.msg (restF leftL x0 y0 (seg full j n)) true 31] 1) := by
  obtain ⟨i, hi, hix, hpo, hf, hr, hlg, lhd, llf, ltl, hz, hsz, hrep⟩ := parts19 p1 p2 h
  have w1 : IntKind.wrap IntKind.i64 ((i : Int) + 1) = ((i + 1 : Nat) : Int) := (wrap_i64 (by omega) (by omega)).trans (by omega)
  have w2 : IntKind.wrap IntKind.i64 (0 + ((i : Nat) : Int)) = ((i : Nat) : Int) := (wrap_i64 (by omega) (by omega)).trans (by omega)
  have w3 : IntKind.wrap IntKind.i64 ((i : Int) + ((lf19 j n x0 y0 full).length : Int)) = ((i + (lf19 j n x0 y0 full).length : Nat) : Int) := (wrap_i64 (by omega) (by omega)).trans (by omega)
  have w4 : IntKind.wrap IntKind.i64 (((i + (lf19 j n x0 y0 full).length + (n - (i + 1)) : Nat) : Int) - 0) = ((i + (lf19 j n x0 y0 full).length + (n - (i + 1)) : Nat) : Int) := (wrap_i64 (by omega) (by omega)).trans (by omega)
  have hok : okG full j n = true := okG_iff.2 ⟨p1, p2⟩
  have hck : R.Tree.cks p19r4 (T19 j n c ex x0 y0 full sp el) = true := by
    rw [c19r4, hok, h, hpo, hix, hsz, hz, hlg, Int.toNat_natCast, w1, Int.toNat_natCast, Nat.sub_zero, w2, w3, w4]
    simp only [List.length_append, List.length_take, List.length_drop, hrep, lhd, ltl, Bool.and_eq_true, Bool.not_eq_true', decide_eq_true_eq, decide_eq_false_iff_not, Nat.ble_eq, Nat.blt_eq, and_true, true_and, Bool.not_false]
    have hroom : roomFor (i + (lf19 j n x0 y0 full).length + (n - (i + 1))) 56 = true := room_msg (by omega)
    rw [lhd] at h0
    rw [ltl] at h2
    and_intros <;> first | omega | exact hroom
  rw [R.Tree.ev_go _ _ hck, l19r4]
  have hlen : (restF leftL x0 y0 (seg full j n)).length = i + (lf19 j n x0 y0 full).length + (n - (i + 1)) := by
    rw [hr, List.length_append, List.length_append, lhd, ltl]; omega
  have hrow : restF leftL x0 y0 (seg full j n) = (List.take (0 + (0 + (hd19 j n x0 y0 full).length)) (List.take 0 (rep19 j n x0 y0 full) ++ hd19 j n x0 y0 full ++ List.drop (0 + (hd19 j n x0 y0 full).length) (rep19 j n x0 y0 full)) ++ lg19 j n x0 y0 full ++ List.drop (0 + (0 + (hd19 j n x0 y0 full).length) + (lg19 j n x0 y0 full).length) (List.take 0 (rep19 j n x0 y0 full) ++ hd19 j n x0 y0 full ++ List.drop (0 + (hd19 j n x0 y0 full).length) (rep19 j n x0 y0 full))) := by
    rw [hr]
    have z2 : tl19 j n x0 y0 full = [] := List.length_eq_zero_iff.1 h2
    try rw [hlg]
    simp only [Nat.zero_add]
    rw [z2]
    rw [put0]
    rw [put_at]
    rw [drop_all (by simp only [List.length_append, hrep, lhd, ltl] <;> omega)]
    try simp
  rw [hf, ← hrow]
  try rw [hlg]
  rw [hz, Nat.sub_zero, hlen]
  rw [show 0 + (hd19 j n x0 y0 full).length + (lf19 j n x0 y0 full).length = i + (lf19 j n x0 y0 full).length + (n - (i + 1)) by omega]
  rfl
set_option maxHeartbeats 1000000 in
theorem w19r5 {j n c : Nat} (ex : Bool) {x0 y0 : Txt} {full : List Msg} (sp : Bool) (el : R.EL) (p1 : j + n ≤ full.length) (p2 : n < 99) (pc : n ≤ c) (h : noP x0 y0 (seg full j n) = false) (h0 : (hd19 j n x0 y0 full).length = 0) (h1 : (lf19 j n x0 y0 full).length ≠ 0) (h2 : (tl19 j n x0 y0 full).length = 0) :
    (T19 j n c ex x0 y0 full sp el).ev = some (R.DV.tup [valM (firstM x0 y0 (seg full j n) zeroM), .rs 1 0 (restF leftL x0 y0 (seg full j n)).length (restF leftL x0 y0 (seg full j n)).length 4 false, .bool true], mkD [DO.r RK.msg full sp el, DO.r RK.msg (restF leftL x0 y0 (seg full j n)) true 31] 1) := by
  obtain ⟨i, hi, hix, hpo, hf, hr, hlg, lhd, llf, ltl, hz, hsz, hrep⟩ := parts19 p1 p2 h
  have w1 : IntKind.wrap IntKind.i64 ((i : Int) + 1) = ((i + 1 : Nat) : Int) := (wrap_i64 (by omega) (by omega)).trans (by omega)
  have w2 : IntKind.wrap IntKind.i64 (0 + ((i : Nat) : Int)) = ((i : Nat) : Int) := (wrap_i64 (by omega) (by omega)).trans (by omega)
  have w3 : IntKind.wrap IntKind.i64 ((i : Int) + ((lf19 j n x0 y0 full).length : Int)) = ((i + (lf19 j n x0 y0 full).length : Nat) : Int) := (wrap_i64 (by omega) (by omega)).trans (by omega)
  have w4 : IntKind.wrap IntKind.i64 (((i + (lf19 j n x0 y0 full).length + (n - (i + 1)) : Nat) : Int) - 0) = ((i + (lf19 j n x0 y0 full).length + (n - (i + 1)) : Nat) : Int) := (wrap_i64 (by omega) (by omega)).trans (by omega)
  have hok : okG full j n = true := okG_iff.2 ⟨p1, p2⟩
  have hck : R.Tree.cks p19r5 (T19 j n c ex x0 y0 full sp el) = true := by
    rw [c19r5, hok, h, hpo, hix, hsz, hz, hlg, Int.toNat_natCast, w1, Int.toNat_natCast, Nat.sub_zero, w2, w3, w4]
    simp only [List.length_append, List.length_take, List.length_drop, hrep, lhd, ltl, Bool.and_eq_true, Bool.not_eq_true', decide_eq_true_eq, decide_eq_false_iff_not, Nat.ble_eq, Nat.blt_eq, and_true, true_and, Bool.not_false]
    have hroom : roomFor (i + (lf19 j n x0 y0 full).length + (n - (i + 1))) 56 = true := room_msg (by omega)
    rw [lhd] at h0
    rw [ltl] at h2
    and_intros <;> first | omega | exact hroom
  rw [R.Tree.ev_go _ _ hck, l19r5]
  have hlen : (restF leftL x0 y0 (seg full j n)).length = i + (lf19 j n x0 y0 full).length + (n - (i + 1)) := by
    rw [hr, List.length_append, List.length_append, lhd, ltl]; omega
  have hrow : restF leftL x0 y0 (seg full j n) = (List.take 0 (rep19 j n x0 y0 full) ++ lg19 j n x0 y0 full ++ List.drop (0 + (lg19 j n x0 y0 full).length) (rep19 j n x0 y0 full)) := by
    rw [hr]
    have z0 : hd19 j n x0 y0 full = [] := List.length_eq_zero_iff.1 h0
    have z2 : tl19 j n x0 y0 full = [] := List.length_eq_zero_iff.1 h2
    try rw [hlg]
    simp only [Nat.zero_add]
    rw [z0, z2]
    rw [put0]
    rw [drop_all (by simp only [List.length_append, hrep, lhd, ltl] <;> omega)]
    try simp
  rw [hf, ← hrow]
  try rw [hlg]
  rw [hz, Nat.sub_zero, hlen]
  rw [show 0 + (lf19 j n x0 y0 full).length = i + (lf19 j n x0 y0 full).length + (n - (i + 1)) by omega]
  rfl
set_option maxHeartbeats 1000000 in
theorem w19r6 {j n c : Nat} (ex : Bool) {x0 y0 : Txt} {full : List Msg} (sp : Bool) (el : R.EL) (p1 : j + n ≤ full.length) (p2 : n < 99) (pc : n ≤ c) (h : noP x0 y0 (seg full j n) = false) (h0 : (hd19 j n x0 y0 full).length ≠ 0) (h1 : (lf19 j n x0 y0 full).length = 0) (h2 : (tl19 j n x0 y0 full).length = 0) :
    (T19 j n c ex x0 y0 full sp el).ev = some (R.DV.tup [valM (firstM x0 y0 (seg full j n) zeroM), .rs 1 0 (restF leftL x0 y0 (seg full j n)).length (restF leftL x0 y0 (seg full j n)).length 4 false, .bool true], mkD [DO.r RK.msg full sp el, DO.r RK.msg (restF leftL x0 y0 (seg full j n)) true 31] 1) := by
  obtain ⟨i, hi, hix, hpo, hf, hr, hlg, lhd, llf, ltl, hz, hsz, hrep⟩ := parts19 p1 p2 h
  have w1 : IntKind.wrap IntKind.i64 ((i : Int) + 1) = ((i + 1 : Nat) : Int) := (wrap_i64 (by omega) (by omega)).trans (by omega)
  have w2 : IntKind.wrap IntKind.i64 (0 + ((i : Nat) : Int)) = ((i : Nat) : Int) := (wrap_i64 (by omega) (by omega)).trans (by omega)
  have w3 : IntKind.wrap IntKind.i64 ((i : Int) + ((lf19 j n x0 y0 full).length : Int)) = ((i + (lf19 j n x0 y0 full).length : Nat) : Int) := (wrap_i64 (by omega) (by omega)).trans (by omega)
  have w4 : IntKind.wrap IntKind.i64 (((i + (lf19 j n x0 y0 full).length + (n - (i + 1)) : Nat) : Int) - 0) = ((i + (lf19 j n x0 y0 full).length + (n - (i + 1)) : Nat) : Int) := (wrap_i64 (by omega) (by omega)).trans (by omega)
  have hok : okG full j n = true := okG_iff.2 ⟨p1, p2⟩
  have hck : R.Tree.cks p19r6 (T19 j n c ex x0 y0 full sp el) = true := by
    rw [c19r6, hok, h, hpo, hix, hsz, hz, hlg, Int.toNat_natCast, w1, Int.toNat_natCast, Nat.sub_zero, w2, w3, w4]
    simp only [List.length_append, List.length_take, List.length_drop, hrep, lhd, ltl, Bool.and_eq_true, Bool.not_eq_true', decide_eq_true_eq, decide_eq_false_iff_not, Nat.ble_eq, Nat.blt_eq, and_true, true_and, Bool.not_false]
    have hroom : roomFor (i + (lf19 j n x0 y0 full).length + (n - (i + 1))) 56 = true := room_msg (by omega)
    rw [lhd] at h0
    rw [ltl] at h2
    and_intros <;> first | omega | exact hroom
  rw [R.Tree.ev_go _ _ hck, l19r6]
  have hlen : (restF leftL x0 y0 (seg full j n)).length = i + (lf19 j n x0 y0 full).length + (n - (i + 1)) := by
    rw [hr, List.length_append, List.length_append, lhd, ltl]; omega
  have hrow : restF leftL x0 y0 (seg full j n) = (List.take 0 (rep19 j n x0 y0 full) ++ hd19 j n x0 y0 full ++ List.drop (0 + (hd19 j n x0 y0 full).length) (rep19 j n x0 y0 full)) := by
    rw [hr]
    have z1 : lf19 j n x0 y0 full = [] := List.length_eq_zero_iff.1 h1
    have z2 : tl19 j n x0 y0 full = [] := List.length_eq_zero_iff.1 h2
    try rw [hlg]
    simp only [Nat.zero_add]
    rw [z1, z2]
    rw [put0]
    rw [drop_all (by simp only [List.length_append, hrep, lhd, ltl] <;> omega)]
    try simp
  rw [hf, ← hrow]
  try rw [hlg]
  rw [hz, Nat.sub_zero, hlen]
  rw [show 0 + (hd19 j n x0 y0 full).length = i + (lf19 j n x0 y0 full).length + (n - (i + 1)) by omega]
  rfl
set_option maxHeartbeats 1000000 in
theorem w19n {j n c : Nat} (ex : Bool) {x0 y0 : Txt} {full : List Msg} (sp : Bool) (el : R.EL) (p1 : j + n ≤ full.length) (p2 : n < 99) (pc : n ≤ c) (h : noP x0 y0 (seg full j n) = false) (h0 : (hd19 j n x0 y0 full).length = 0) (h1 : (lf19 j n x0 y0 full).length = 0) (h2 : (tl19 j n x0 y0 full).length = 0) :
    (T19 j n c ex x0 y0 full sp el).ev = some (R.DV.tup [valM (firstM x0 y0 (seg full j n) zeroM), .nils, .bool true], mkD [DO.r RK.msg full sp el] 1) := by
  obtain ⟨i, hi, hix, hpo, hf, hr, hlg, lhd, llf, ltl, hz, hsz, hrep⟩ := parts19 p1 p2 h
  have w1 : IntKind.wrap IntKind.i64 ((i : Int) + 1) = ((i + 1 : Nat) : Int) := (wrap_i64 (by omega) (by omega)).trans (by omega)
  have w2 : IntKind.wrap IntKind.i64 (0 + ((i : Nat) : Int)) = ((i : Nat) : Int) := (wrap_i64 (by omega) (by omega)).trans (by omega)
  have w3 : IntKind.wrap IntKind.i64 ((i : Int) + ((lf19 j n x0 y0 full).length : Int)) = ((i + (lf19 j n x0 y0 full).length : Nat) : Int) := (wrap_i64 (by omega) (by omega)).trans (by omega)
  have w4 : IntKind.wrap IntKind.i64 (((i + (lf19 j n x0 y0 full).length + (n - (i + 1)) : Nat) : Int) - 0) = ((i + (lf19 j n x0 y0 full).length + (n - (i + 1)) : Nat) : Int) := (wrap_i64 (by omega) (by omega)).trans (by omega)
  have hok : okG full j n = true := okG_iff.2 ⟨p1, p2⟩
  have hck : R.Tree.cks p19n (T19 j n c ex x0 y0 full sp el) = true := by
    rw [c19n, hok, h, hpo, hix, hsz, hlg, Int.toNat_natCast, w1, Int.toNat_natCast, Nat.sub_zero, w2, w3, w4]
    simp only [List.length_append, List.length_take, List.length_drop, hrep, lhd, ltl, Bool.and_eq_true, Bool.not_eq_true', decide_eq_true_eq, decide_eq_false_iff_not, Nat.ble_eq, Nat.blt_eq, and_true, true_and, Bool.not_false]
    have hroom : roomFor (i + (lf19 j n x0 y0 full).length + (n - (i + 1))) 56 = true := room_msg (by omega)
    rw [lhd] at h0
    rw [ltl] at h2
    and_intros <;> first | omega | exact hroom
  rw [R.Tree.ev_go _ _ hck, l19n]
  rw [hf]; rfl
end
end Go.Vm.YtkjjpmbpjfmbcaaGreatDoor
