/-
  The laws of Get and copied.
-/
import Derived.Test.YtkjjpmbpjfmbcaaGreatDoorL16P
set_option linter.unusedVariables false
set_option linter.unusedSimpArgs false
namespace Go.Vm.YtkjjpmbpjfmbcaaGreatDoor
open Go.Proofs Go.Vm.R
noncomputable section
def getK (k : List UInt8) : List Ent → List UInt8 × Bool
  | [] => ([], false)
  | e :: r => cond (decide (e.1 = k)) (e.2, true) (getK k r)
theorem get_no (k : List UInt8) : ∀ l : List Ent, noK k l = true → getK k l = ([], false)
  | [], _ => rfl
  | e :: r, h => by
    have h : cond (decide (e.1 = k)) false (noK k r) = true := h
    show cond (decide (e.1 = k)) (e.2, true) (getK k r) = _
    cases hd : decide (e.1 = k) with
    | true => rw [hd] at h; cases h
    | false => rw [hd] at h; exact get_no k r h
theorem get_idx (k : List UInt8) : ∀ (l : List Ent) (z : Int), noK k l = false → z ≤ idxK k l z ∧ idxK k l z < z + l.length ∧ getK k l = ((l.getD (idxK k l z - z).toNat ([], [])).2, true)
  | [], _, h => by cases h
  | e :: r, z, h => by
    have h : cond (decide (e.1 = k)) false (noK k r) = false := h
    have e1 : idxK k (e :: r) z = cond (decide (e.1 = k)) z (idxK k r (z + 1)) := rfl
    have e2 : getK k (e :: r) = cond (decide (e.1 = k)) (e.2, true) (getK k r) := rfl
    rw [e1, e2]
    cases hd : decide (e.1 = k) with
    | true =>
      refine ⟨Int.le_refl _, by show z < z + ((r.length + 1 : Nat) : Int); omega, ?_⟩
      show (e.2, true) = (((e :: r).getD (z - z).toNat ([], [])).2, true)
      rw [show (z - z).toNat = 0 by omega]; rfl
    | false =>
      rw [hd] at h
      obtain ⟨h1, h2, h3⟩ := get_idx k r (z + 1) h
      refine ⟨by show z ≤ idxK k r (z + 1); omega, by show idxK k r (z + 1) < z + ((r.length + 1 : Nat) : Int); omega, ?_⟩
      show getK k r = (((e :: r).getD (idxK k r (z + 1) - z).toNat ([], [])).2, true)
      rw [h3, show (idxK k r (z + 1) - z).toNat = (idxK k r (z + 1) - (z + 1)).toNat + 1 by omega]; rfl
theorem seg_at {full : List Ent} {j n : Nat} {i : Int} (p1 : j + n ≤ full.length) (h0 : 0 ≤ i) (h1 : i < n) : (seg full j n).getD i.toNat ([], []) = rec full j i := by
  have h := seg_drop p1 h0 h1
  have hl := seg_len p1
  rw [List.drop_eq_getElem_cons (by omega)] at h
  rw [List.getD_eq_getElem?_getD, List.getElem?_eq_getElem (by omega)]
  exact (List.cons.inj h).1
def out28 (full : List Ent) (j n : Nat) (k : List UInt8) : RD := .need (okN full j n) (.v (.tup [.str (getK k (seg full j n)).1, .bool (getK k (seg full j n)).2]) [])
theorem run28 (j n c : Nat) (ex : Bool) (k : List UInt8) (full : List Ent) (sp : Bool) (el : R.EL) : runD C Y4 (fun _ => none) 110 c28 [.rs 0 j n c 2 ex, .str k] [.r .ent full sp el] =
    cond (okN full j n) (cond (noK k (seg full j n)) (some (R.DV.tup [R.DV.str [], R.DV.bool false], (mkD [DO.r RK.ent full sp el] 1))) (cond (decide (idxK k (seg full j n) 0 < 0)) (some (R.DV.tup [R.DV.str [], R.DV.bool false], (mkD [DO.r RK.ent full sp el] 1))) (cond (decide (0 ≤ idxK k (seg full j n) 0) && decide (Int.toNat (idxK k (seg full j n) 0) < n)) (cond (Nat.blt (j + Int.toNat (idxK k (seg full j n) 0)) (List.length full)) (some (R.DV.tup [R.DV.str (Prod.snd (List.getD full (j + Int.toNat (idxK k (seg full j n) 0)) (RK.zero RK.ent))), R.DV.bool true], (mkD [DO.r RK.ent full sp el] 1))) none) none))) none := by kernel_rfl
theorem law28 (j n c : Nat) (ex : Bool) (k : List UInt8) (full : List Ent) (sp : Bool) (el : R.EL) : LawOk C.G C.O C.tab 28 111 [.r .ent full sp el] [.rs 0 j n c 2 ex, .str k] (out28 full j n k) := by
  refine law_of C Y4 (fun _ => none) rfl rfl (fun n hn p _ ld e => by cases e) fun z hz => ?_
  obtain ⟨hp, hz⟩ := R.ev_need hz
  refine (run28 j n c ex k full sp el).trans (Eq.trans ?_ hz)
  show _ = some (R.DV.tup [.str (getK k (seg full j n)).1, .bool (getK k (seg full j n)).2], mkD [DO.r RK.ent full sp el] 1)
  obtain ⟨p1, p2⟩ := okN_iff.1 hp
  have hl := seg_len p1
  rw [hp]
  cases hn : noK k (seg full j n) with
  | true => rw [get_no k _ hn]; rfl
  | false =>
    obtain ⟨h1, h2, h3⟩ := get_idx k (seg full j n) 0 hn
    rw [hl] at h2
    rw [Int.sub_zero, seg_at p1 h1 (by omega)] at h3
    rw [h3, cF (show ¬ idxK k (seg full j n) 0 < 0 by omega), cA h1 (show (idxK k (seg full j n) 0).toNat < n by omega), cB (show j + (idxK k (seg full j n) 0).toNat < full.length by omega)]
    rfl
theorem law28n (k : List UInt8) : LawOk C.G C.O C.tab 28 111 [] [.nils, .str k] (.v (.tup [.str [], .bool false]) []) := by
  refine law_of C Y4 (fun _ => none) rfl rfl (fun n hn p _ ld e => by cases e) fun z hz => ?_
  refine Eq.trans ?_ hz
  kernel_rfl
def out34 (full : List Ent) (j n : Nat) : RD := .need (okN full j n) (.br (Nat.beq n 0) (.v .nils []) (.v (.rs 1 0 n n 2 false) [.r .ent (seg full j n) true 41]))
theorem run34 (j n c : Nat) (ex : Bool) (full : List Ent) (sp : Bool) (el : R.EL) : runD C Y4 (fun _ => none) 110 c34 [.rs 0 j n c 2 ex] [.r .ent full sp el] =
    cond (Nat.ble (j + n) (List.length full)) (cond (decide (List.length (List.take n (List.drop j full)) = 0)) (some (R.DV.nils, (mkD [DO.r RK.ent full sp el] 1))) (cond (roomFor (List.length (List.take n (List.drop j full))) 32) (some (DV.rs 1 0 (List.length (List.take n (List.drop j full))) (List.length (List.take n (List.drop j full))) 2 false, (mkD [DO.r RK.ent full sp el, DO.r RK.ent (List.take n (List.drop j full)) true { e := 41, z := 0 }] 1))) none)) none := by kernel_rfl
theorem law34 (j n c : Nat) (ex : Bool) (full : List Ent) (sp : Bool) (el : R.EL) : LawOk C.G C.O C.tab 34 111 [.r .ent full sp el] [.rs 0 j n c 2 ex] (out34 full j n) := by
  refine law_of C Y4 (fun _ => none) rfl rfl (fun n hn p _ ld e => by cases e) fun z hz => ?_
  obtain ⟨hp, hz⟩ := R.ev_need hz
  refine (run34 j n c ex full sp el).trans (Eq.trans ?_ hz)
  obtain ⟨p1, p2⟩ := okN_iff.1 hp
  have hl := seg_len p1
  have hs : List.take n (List.drop j full) = seg full j n := rfl
  have hb : Nat.ble (j + n) full.length = true := Nat.ble_eq_true_of_le p1
  rw [hs, hl, hb]
  show _ = (R.Tree.br (Nat.beq n 0) (.ok .nils (mkD [DO.r RK.ent full sp el] 1)) (.ok (.rs 1 0 n n 2 false) (mkD [DO.r RK.ent full sp el, DO.r RK.ent (seg full j n) true 41] 1))).ev
  rw [ev_br]
  cases n with
  | zero => rfl
  | succ m => rw [show roomFor (m + 1) 32 = true from room_small p2]; rfl
theorem law34n : LawOk C.G C.O C.tab 34 111 [] [.nils] (.v .nils []) := by
  refine law_of C Y4 (fun _ => none) rfl rfl (fun n hn p _ ld e => by cases e) fun z hz => ?_
  refine Eq.trans ?_ hz
  kernel_rfl
end
end Go.Vm.YtkjjpmbpjfmbcaaGreatDoor
