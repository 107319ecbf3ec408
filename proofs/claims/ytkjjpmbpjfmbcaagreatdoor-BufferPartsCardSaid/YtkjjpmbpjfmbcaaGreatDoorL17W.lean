/-
  Layer 17: the law of BufferParts.
-/
import Derived.Test.YtkjjpmbpjfmbcaaGreatDoorL17U
set_option linter.unusedVariables false
set_option linter.unusedSimpArgs false
namespace Go.Vm.YtkjjpmbpjfmbcaaGreatDoor
open Go.Proofs Go.Vm.R
noncomputable section
theorem same_self (l : List Msg) : sameL l l = true := decide_eq_true rfl
theorem few_len {full : List Msg} {n : Nat} (p1 : n ≤ full.length) (h : fewL (seg full 0 n) = true) : n ≤ 60 := by
  unfold fewL at h
  rw [Bool.and_eq_true] at h
  have h2 := of_decide_eq_true h.2
  rw [seg_len (by omega)] at h2
  omega
theorem ev3 (n c : Nat) (ex : Bool) (a b k v : Txt) (th : Bool) (full : List Msg) (sp : Bool) (el : R.EL) (p1 : n ≤ full.length) (p2 : n < 9223372036854775808) (p0 : n ≠ 0) :
    (T3 n c ex a b k v th full sp el).ev = some (R.DV.bool true, mkD [DO.r RK.msg full sp el] 1) := by
  have hS : okS full 0 n 0 = true := by
    unfold okS
    rw [decide_eq_true_eq]
    refine ⟨?_, ?_, ?_, p2⟩ <;> omega
  cases hf : fewL (seg full 0 n) with
  | false =>
    have hck : R.Tree.cks p3w (T3 n c ex a b k v th full sp el) = true := by rw [c3w, hS, hf]; rfl
    rw [R.Tree.ev_go _ _ hck, l3w]
  | true =>
    have h60 := few_len p1 hf
    cases ha : decide ((a.length : Int) ≤ 300) with
    | false =>
      have hck : R.Tree.cks p3a (T3 n c ex a b k v th full sp el) = true := by rw [c3a, hS, hf, ha]; rfl
      rw [R.Tree.ev_go _ _ hck, l3a]
    | true =>
    cases hb : decide ((b.length : Int) ≤ 300) with
    | false =>
      have hck : R.Tree.cks p3b (T3 n c ex a b k v th full sp el) = true := by rw [c3b, hS, hf, ha, hb]; rfl
      rw [R.Tree.ev_go _ _ hck, l3b]
    | true =>
    cases hk : decide ((k.length : Int) ≤ 300) with
    | false =>
      have hck : R.Tree.cks p3k (T3 n c ex a b k v th full sp el) = true := by rw [c3k, hS, hf, ha, hb, hk]; rfl
      rw [R.Tree.ev_go _ _ hck, l3k]
    | true =>
    cases hv : decide ((v.length : Int) ≤ 300) with
    | false =>
      have hck : R.Tree.cks p3v (T3 n c ex a b k v th full sp el) = true := by rw [c3v, hS, hf, ha, hb, hk, hv]; rfl
      rw [R.Tree.ev_go _ _ hck, l3v]
    | true =>
      have hl : (seg full 0 n).length = n := seg_len (by omega)
      have eS : List.take n (List.drop 0 full) = seg full 0 n := rfl
      have eO : seg (seg full 0 n) 0 n = seg full 0 n := by
        show List.take n (List.drop 0 (seg full 0 n)) = _
        rw [List.drop_zero]
        exact List.take_of_length_le (by omega)
      have k1 : okG (seg full 0 n) 0 n = true := okG_iff.2 ⟨by omega, by omega⟩
      have k2 : okG full 0 n = true := okG_iff.2 ⟨by omega, by omega⟩
      have k3 : ok19 (seg full 0 n) 0 n n = true := by
        unfold ok19
        rw [decide_eq_true_eq]
        refine ⟨?_, ?_, ?_⟩ <;> omega
      have k4 : Nat.beq n 0 = false := by cases n with | zero => exact absurd rfl p0 | succ m => rfl
      have b1 := inL_len a b (seg full 0 n)
      have b2 := restL_len (lf := leftR) (fun m x y => leftR_len m x y) a b (seg full 0 n)
      have b3 := restF_len (lf := leftR) (fun m x y => leftR_len m x y) a b (seg full 0 n)
      rw [hl] at b1 b2 b3
      have k5 : ∀ l : List Msg, l.length ≤ 120 → okSa l.length l l.length l = true := by
        intro l h
        unfold okSa
        rw [decide_eq_true_eq]
        refine ⟨?_, ?_, ?_⟩ <;> omega
      have k6 : roomFor n 56 = true := room_msg (by omega)
      have k7 : Nat.ble (0 + n) full.length = true := Nat.ble_eq_true_of_le (by omega)
      have hck : R.Tree.cks p3m (T3 n c ex a b k v th full sp el) = true := by
        rw [c3m, hS, hf, ha, hb, hk, hv, eS, hl, eO, k1, k2, k3, k4, k6, k7, rest_eq, restF_eq, k5 _ (by omega), k5 _ (by omega), k5 _ (by omega), same_self, same_self, same_self, same_self, decide_eq_false p0,
          Nat.beq_refl, Nat.beq_refl, decide_eq_true (show (restF leftR a b (seg full 0 n)).length - 0 < 410 by omega), decide_eq_true (show (restL leftR a b (seg full 0 n)).length - 0 < 410 by omega),
          decide_eq_true (show (0 : Int) ≤ 0 ∧ (restF leftR a b (seg full 0 n)).length < 200 by omega), decide_eq_true (show (0 : Int) ≤ 0 ∧ (restL leftR a b (seg full 0 n)).length < 200 by omega)]
        simp
      rw [R.Tree.ev_go _ _ hck, l3m]
theorem run3z (c : Nat) (ex : Bool) (a b k v : Txt) (th : Bool) (full : List Msg) (sp : Bool) (el : R.EL) : runD C Y4 (fun _ => none) 410 c3 [.rs 0 0 0 c 4 ex, .agg [.str a, .str b, .str k, .str v, .bool th]] [.r .msg full sp el] =
    cond (decide ((↑(List.length a) : Int) ≤ 300)) (cond (decide ((↑(List.length b) : Int) ≤ 300)) (cond (decide ((↑(List.length k) : Int) ≤ 300)) (cond (!decide ((↑(List.length v) : Int) ≤ 300)) (some (R.DV.bool true, (mkD [DO.r RK.msg full sp el] 1))) (some (R.DV.bool true, (mkD [DO.r RK.msg full sp el] 1)))) (some (R.DV.bool true, (mkD [DO.r RK.msg full sp el] 1)))) (some (R.DV.bool true, (mkD [DO.r RK.msg full sp el] 1)))) (some (R.DV.bool true, (mkD [DO.r RK.msg full sp el] 1))) := by kernel_rfl
theorem run3n (a b k v : Txt) (th : Bool) : runD C Y4 (fun _ => none) 410 c3 [.nils, .agg [.str a, .str b, .str k, .str v, .bool th]] [] =
    cond (decide ((↑(List.length a) : Int) ≤ 300)) (cond (decide ((↑(List.length b) : Int) ≤ 300)) (cond (decide ((↑(List.length k) : Int) ≤ 300)) (cond (!decide ((↑(List.length v) : Int) ≤ 300)) (some (R.DV.bool true, (mkD [] 0))) (some (R.DV.bool true, (mkD [] 0)))) (some (R.DV.bool true, (mkD [] 0)))) (some (R.DV.bool true, (mkD [] 0)))) (some (R.DV.bool true, (mkD [] 0))) := by kernel_rfl
theorem law3m (n c : Nat) (ex : Bool) (a b k v : Txt) (th : Bool) (full : List Msg) (sp : Bool) (el : R.EL) (p1 : n ≤ full.length) (p2 : n < 9223372036854775808) :
    LawOk C.G C.O C.tab 3 411 [.r .msg full sp el] [.rs 0 0 n c 4 ex, .agg [.str a, .str b, .str k, .str v, .bool th]] (.v (.bool true) []) := by
  by_cases p0 : n = 0
  · subst p0
    refine law_of C Y4 (fun _ => none) rfl rfl (fun n hn p _ ld e => by cases e) fun z hz => ?_
    refine (run3z c ex a b k v th full sp el).trans (Eq.trans ?_ hz)
    cases decide ((a.length : Int) ≤ 300) <;> cases decide ((b.length : Int) ≤ 300) <;> cases decide ((k.length : Int) ≤ 300) <;> cases decide ((v.length : Int) ≤ 300) <;> rfl
  · refine law_of C Y4 lh3 rfl rfl (fun n hn => loops3 hn) fun z hz => ?_
    exact Eq.trans (ev3 n c ex a b k v th full sp el p1 p2 p0) hz
theorem law3n (a b k v : Txt) (th : Bool) : LawOk C.G C.O C.tab 3 411 [] [.nils, .agg [.str a, .str b, .str k, .str v, .bool th]] (.v (.bool true) []) := by
  refine law_of C Y4 (fun _ => none) rfl rfl (fun n hn p _ ld e => by cases e) fun z hz => ?_
  refine (run3n a b k v th).trans (Eq.trans ?_ hz)
  cases decide ((a.length : Int) ≤ 300) <;> cases decide ((b.length : Int) ≤ 300) <;> cases decide ((k.length : Int) ≤ 300) <;> cases decide ((v.length : Int) ≤ 300) <;> rfl
end
end Go.Vm.YtkjjpmbpjfmbcaaGreatDoor
