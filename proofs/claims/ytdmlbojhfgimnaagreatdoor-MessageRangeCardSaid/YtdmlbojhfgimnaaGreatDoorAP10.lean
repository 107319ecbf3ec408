/-
  Blocks: trimming, and so many bytes from a place on.
-/
import Derived.Test.YtdmlbojhfgimnaaGreatDoorAP9
set_option linter.unusedVariables false
set_option linter.unusedSimpArgs false
namespace Go.Vm.YtdmlbojhfgimnaaGreatDoor
open Go.Proofs Go.Vm.R
noncomputable section
def lhB (a b c : LoopD) : Nat → Option LoopD := fun id => match Nat.beq id 0 with
  | true => some a
  | false => match Nat.beq id 2 with
    | true => some b
    | false => match Nat.beq id 4 with
      | true => some c
      | false => none

theorem run119 (P : Txt → Int → Bool) (S : Txt → Int → Int) (s : Txt) : runD CB YB0 (lhX (ld119 P S)) 100 c80 [.str s] [] =
    cond (decide (Int.toNat (↑(List.length s) : Int) < 100)) (cond (P s (↑(List.length s) : Int)) (cond (decide (0 ≤ S s (↑(List.length s) : Int)) && decide (S s (↑(List.length s) : Int) ≤ (↑(List.length s) : Int))) (some (R.DV.str (List.take (Int.toNat (S s (↑(List.length s) : Int))) s), (mkD [] 0))) none) none) none := by kernel_rfl
def outT (ts : Txt → Txt) (s : Txt) : RD := .need (decide (s.length < 100)) (.v (.str (ts s)) [])
theorem lawT119 (s : Txt) : LawOk CB.G CB.O CB.tab 80 101 [] [.str s] (outT trimS s) := by
  refine law_of CB YB0 (lhX (ld119 P119 S119)) rfl rfl (fun n hn => lhX_ok (Q := fun i b ld => LoopOk CB.G 0 (callO noTmps CB.O CB.tab n) n 100 20 i b ld) rfl (loop119 hn)) fun z hz => ?_
  obtain ⟨hp, hz⟩ := R.ev_need hz
  have hp := of_decide_eq_true hp
  refine (run119 P119 S119 s).trans ?_
  have h1 : P119 s s.length = true := by unfold P119; rw [decide_eq_true_eq]; omega
  have h2 := trimL_le s s.length
  rw [Int.toNat_natCast, h1, cT hp]
  unfold S119
  rw [Int.toNat_natCast, cA (by omega) (by omega), Int.toNat_natCast]
  exact hz
theorem run184 (P : Txt → Int → Bool) (S : Txt → Int → Txt) (s : Txt) : runD CB YB0 (lhX (ld184 P S)) 100 c133 [.str s, .int .u8 0] [] =
    cond (decide (List.length s < 100)) (cond (P s 0) (some (R.DV.str (S s 0), (mkD [] 0))) none) none := by kernel_rfl
theorem law184 (s : Txt) : LawOk CB.G CB.O CB.tab 133 101 [] [.str s, .int .u8 (.ofNat 0)] (outT trimS s) := by
  refine law_of CB YB0 (lhX (ld184 P184 S184)) rfl rfl (fun n hn => lhX_ok (Q := fun i b ld => LoopOk CB.G 0 (callO noTmps CB.O CB.tab n) n 100 23 i b ld) rfl (loop184 hn)) fun z hz => ?_
  obtain ⟨hp, hz⟩ := R.ev_need hz
  have hp := of_decide_eq_true hp
  refine (run184 P184 S184 s).trans ?_
  have h1 : P184 s 0 = true := by unfold P184; rw [decide_eq_true_eq]; omega
  rw [h1, cT hp]
  exact hz
theorem run139 (P : Txt → Int → Txt → Int → Int → Bool) (S : Txt → Int → Txt → Int → Int → Txt) (v : Txt) (f n : Int) : runD CB YB0 (lhX (ld139 P S)) 100 c102 [.str v, .int .i64 f, .int .i64 n] [] =
    cond (decide (Int.toNat (if true = true then if (if false = true then if 64 > n then 64 else n else if 64 < n then 64 else n) > 0 then if false = true then if 64 > n then 64 else n else if 64 < n then 64 else n else 0 else if (if false = true then if 64 > n then 64 else n else if 64 < n then 64 else n) < 0 then if false = true then if 64 > n then 64 else n else if 64 < n then 64 else n else 0) - 0 < 100)) (cond (P v (if true = true then if f > 0 then f else 0 else if f < 0 then f else 0) [] (if true = true then if (if false = true then if 64 > n then 64 else n else if 64 < n then 64 else n) > 0 then if false = true then if 64 > n then 64 else n else if 64 < n then 64 else n else 0 else if (if false = true then if 64 > n then 64 else n else if 64 < n then 64 else n) < 0 then if false = true then if 64 > n then 64 else n else if 64 < n then 64 else n else 0) 0) (cond (Nat.ble (List.length (S v (if true = true then if f > 0 then f else 0 else if f < 0 then f else 0) [] (if true = true then if (if false = true then if 64 > n then 64 else n else if 64 < n then 64 else n) > 0 then if false = true then if 64 > n then 64 else n else if 64 < n then 64 else n else 0 else if (if false = true then if 64 > n then 64 else n else if 64 < n then 64 else n) < 0 then if false = true then if 64 > n then 64 else n else if 64 < n then 64 else n else 0) 0)) (List.length (S v (if true = true then if f > 0 then f else 0 else if f < 0 then f else 0) [] (if true = true then if (if false = true then if 64 > n then 64 else n else if 64 < n then 64 else n) > 0 then if false = true then if 64 > n then 64 else n else if 64 < n then 64 else n else 0 else if (if false = true then if 64 > n then 64 else n else if 64 < n then 64 else n) < 0 then if false = true then if 64 > n then 64 else n else if 64 < n then 64 else n else 0) 0))) (some (R.DV.str (List.take (List.length (S v (if true = true then if f > 0 then f else 0 else if f < 0 then f else 0) [] (if true = true then if (if false = true then if 64 > n then 64 else n else if 64 < n then 64 else n) > 0 then if false = true then if 64 > n then 64 else n else if 64 < n then 64 else n else 0 else if (if false = true then if 64 > n then 64 else n else if 64 < n then 64 else n) < 0 then if false = true then if 64 > n then 64 else n else if 64 < n then 64 else n else 0) 0)) (S v (if true = true then if f > 0 then f else 0 else if f < 0 then f else 0) [] (if true = true then if (if false = true then if 64 > n then 64 else n else if 64 < n then 64 else n) > 0 then if false = true then if 64 > n then 64 else n else if 64 < n then 64 else n else 0 else if (if false = true then if 64 > n then 64 else n else if 64 < n then 64 else n) < 0 then if false = true then if 64 > n then 64 else n else if 64 < n then 64 else n else 0) 0)), (mkD [] 0))) none) none) none := by kernel_rfl
def okAt (v : Txt) (f n : Int) : Bool := decide (0 ≤ f ∧ 0 ≤ n ∧ n ≤ 64 ∧ v.length < 4611686018427387904)
def atS (v : Txt) (f n : Int) : Txt := tabF (fun i => v.getD (f.toNat + i) 0) 0 n.toNat
def outAt (at' : Txt → Int → Int → Txt) (v : Txt) (f n : Int) : RD := .need (okAt v f n) (.v (.str (at' v f n)) [])
theorem law139 (v : Txt) (f n : Int) : LawOk CB.G CB.O CB.tab 102 101 [] [.str v, .int .i64 f, .int .i64 n] (outAt atS v f n) := by
  refine law_of CB YB0 (lhX (ld139 P139 S139)) rfl rfl (fun n hn => lhX_ok (Q := fun i b ld => LoopOk CB.G 0 (callO noTmps CB.O CB.tab n) n 100 43 i b ld) rfl (loop139 hn)) fun z hz => ?_
  obtain ⟨hp, hz⟩ := R.ev_need hz
  unfold okAt at hp
  rw [decide_eq_true_eq] at hp
  obtain ⟨p0, p1, p2, p3⟩ := hp
  refine (run139 P139 S139 v f n).trans ?_
  have e1 : (if f > 0 then f else 0) = f := by split <;> omega
  have e2 : (if 64 < n then 64 else n) = n := by split <;> omega
  have e3 : (if n > 0 then n else 0) = n := by split <;> omega
  simp only [if_true, if_false, Bool.false_eq_true, e1, e2, e3]
  have h1 : P139 v f [] n 0 = true := by
    unfold P139; rw [decide_eq_true_eq]
    exact ⟨p0, by omega, p1, p2, Int.le_refl 0, p3⟩
  have eS : S139 v f [] n 0 = atS v f n := rfl
  have lb : ∀ x : Txt, Nat.ble x.length x.length = true := fun x => Nat.ble_eq_true_of_le (Nat.le_refl _)
  rw [h1, cT (by omega), eS]
  simp only [lb, Nat.beq_refl, Bool.and_true, cond_true, List.take_length]
  exact hz
end
end Go.Vm.YtdmlbojhfgimnaaGreatDoor
