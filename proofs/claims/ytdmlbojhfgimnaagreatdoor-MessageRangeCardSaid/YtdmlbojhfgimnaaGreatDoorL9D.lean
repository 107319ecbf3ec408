/-
  Numbers out of texts, as the document's answer reads them.
-/
import Derived.Test.YtdmlbojhfgimnaaGreatDoorL9C
set_option linter.unusedVariables false
set_option linter.unusedSimpArgs false
namespace Go.Vm.YtdmlbojhfgimnaaGreatDoor
open Go.Proofs
noncomputable section

noncomputable def hstep (a b : Int) : Int := IntKind.wrap .u64 (IntKind.wrap .u64 (a * 256) + IntKind.wrap .u64 b)
theorem hstep_eq {a b : Int} (h0 : 0 ≤ a) (h1 : a < 72057594037927936) (h2 : 0 ≤ b) (h3 : b < 256) : hstep a b = a * 256 + b := by
  unfold hstep
  rw [wrap_u64 (z := a * 256) (by omega) (by omega), wrap_u64 (z := b) h2 (by omega), wrap_u64 (by omega) (by omega)]
noncomputable def hfold : Int → List UInt8 → Int
  | a, [] => a
  | a, b :: r => hfold (hstep a b.toNat) r
theorem hfold_eq : ∀ (l : List UInt8) (a : Nat), l.length ≤ 8 → a < 256 ^ (8 - l.length) → hfold a l = ((l.foldl (fun a b => a * 256 + b.toNat) a : Nat) : Int)
  | [], a, _, _ => rfl
  | b :: r, a, h, ha => by
    have hb := b.toNat_lt
    have hl : (b :: r).length = r.length + 1 := rfl
    rw [hl] at h ha
    have hp : 256 ^ (8 - (r.length + 1)) ≤ 256 ^ 7 := Nat.pow_le_pow_right (by omega) (by omega)
    have e7 : (256:Nat) ^ 7 = 72057594037927936 := rfl
    show hfold (hstep a b.toNat) r = _
    rw [hstep_eq (by omega) (by omega) (by omega) (by omega)]
    have e : (a : Int) * 256 + (b.toNat : Int) = ((a * 256 + b.toNat : Nat) : Int) := by simp
    rw [e, hfold_eq r (a * 256 + b.toNat) (by omega) ?_]
    · rfl
    · have e1 : 8 - r.length = (8 - (r.length + 1)) + 1 := by omega
      rw [e1, Nat.pow_succ]
      omega
theorem hfold_num (l : List UInt8) (h : l.length ≤ 8) : hfold 0 l = (numOf l : Int) :=
  hfold_eq l 0 h (Nat.pos_of_ne_zero (by simp))

/-- so many bytes from a place on -/
noncomputable def piece (s : List UInt8) (a : Nat) : Nat → List UInt8
  | 0 => []
  | n + 1 => s.getD a 0 :: piece s (a + 1) n
theorem piece_eq (s : List UInt8) : ∀ (n a : Nat), a + n ≤ s.length → piece s a n = (s.drop a).take n
  | 0, a, _ => by simp [piece]
  | n + 1, a, h => by
    rw [List.drop_eq_getElem_cons (by omega), List.take_succ_cons, piece, piece_eq s n (a + 1) (by omega), List.getD_eq_getElem?_getD, List.getElem?_eq_getElem (by omega)]
    rfl
theorem piece_len (s : List UInt8) : ∀ (n a : Nat), (piece s a n).length = n
  | 0, a => rfl
  | n + 1, a => by simp [piece, piece_len s n (a + 1)]

noncomputable def num81 (s : List UInt8) (a b : Nat) : PD := .need (decide (b ≤ s.length)) (.v (.int .u64 (numOf ((s.drop a).take (b - a)) : Int)))

theorem tree81_1_5 (s : List UInt8) : treeOf laws3 tab [81] 4 200 81 [.str s, .int .i64 (.ofNat 1), .int .i64 (.ofNat 5)] =
    cond (decide ((0:Int) ≤ 1) && decide ((1:Int) < (s.length : Int))) (cond (decide ((0:Int) ≤ 2) && decide ((2:Int) < (s.length : Int))) (cond (decide ((0:Int) ≤ 3) && decide ((3:Int) < (s.length : Int))) (cond (decide ((0:Int) ≤ 4) && decide ((4:Int) < (s.length : Int))) (some (.int .u64 (hfold 0 (piece s 1 4)))) none) none) none) none := by kernel_rfl
theorem law81_1_5 (s : List UInt8) (h : 5 ≤ s.length) : treeOf laws3 tab [81] 4 200 81 [.str s, .int .i64 (.ofNat 1), .int .i64 (.ofNat 5)] = some (num81 s 1 5).val := by
  rw [tree81_1_5, hfold_num _ (by rw [piece_len]; omega), piece_eq s 4 1 (by omega)]
  simp [num81, PD.val, show ((1:Int) < (s.length : Int)) by omega, show ((2:Int) < (s.length : Int)) by omega, show ((3:Int) < (s.length : Int)) by omega, show ((4:Int) < (s.length : Int)) by omega]

theorem tree81_5_13 (s : List UInt8) : treeOf laws3 tab [81] 4 200 81 [.str s, .int .i64 (.ofNat 5), .int .i64 (.ofNat 13)] =
    cond (decide ((0:Int) ≤ 5) && decide ((5:Int) < (s.length : Int))) (cond (decide ((0:Int) ≤ 6) && decide ((6:Int) < (s.length : Int))) (cond (decide ((0:Int) ≤ 7) && decide ((7:Int) < (s.length : Int))) (cond (decide ((0:Int) ≤ 8) && decide ((8:Int) < (s.length : Int))) (cond (decide ((0:Int) ≤ 9) && decide ((9:Int) < (s.length : Int))) (cond (decide ((0:Int) ≤ 10) && decide ((10:Int) < (s.length : Int))) (cond (decide ((0:Int) ≤ 11) && decide ((11:Int) < (s.length : Int))) (cond (decide ((0:Int) ≤ 12) && decide ((12:Int) < (s.length : Int))) (some (.int .u64 (hfold 0 (piece s 5 8)))) none) none) none) none) none) none) none) none := by kernel_rfl
theorem law81_5_13 (s : List UInt8) (h : 13 ≤ s.length) : treeOf laws3 tab [81] 4 200 81 [.str s, .int .i64 (.ofNat 5), .int .i64 (.ofNat 13)] = some (num81 s 5 13).val := by
  rw [tree81_5_13, hfold_num _ (by rw [piece_len]; omega), piece_eq s 8 5 (by omega)]
  simp [num81, PD.val, show ((5:Int) < (s.length : Int)) by omega, show ((6:Int) < (s.length : Int)) by omega, show ((7:Int) < (s.length : Int)) by omega, show ((8:Int) < (s.length : Int)) by omega, show ((9:Int) < (s.length : Int)) by omega, show ((10:Int) < (s.length : Int)) by omega, show ((11:Int) < (s.length : Int)) by omega, show ((12:Int) < (s.length : Int)) by omega]

theorem tree81_13_21 (s : List UInt8) : treeOf laws3 tab [81] 4 200 81 [.str s, .int .i64 (.ofNat 13), .int .i64 (.ofNat 21)] =
    cond (decide ((0:Int) ≤ 13) && decide ((13:Int) < (s.length : Int))) (cond (decide ((0:Int) ≤ 14) && decide ((14:Int) < (s.length : Int))) (cond (decide ((0:Int) ≤ 15) && decide ((15:Int) < (s.length : Int))) (cond (decide ((0:Int) ≤ 16) && decide ((16:Int) < (s.length : Int))) (cond (decide ((0:Int) ≤ 17) && decide ((17:Int) < (s.length : Int))) (cond (decide ((0:Int) ≤ 18) && decide ((18:Int) < (s.length : Int))) (cond (decide ((0:Int) ≤ 19) && decide ((19:Int) < (s.length : Int))) (cond (decide ((0:Int) ≤ 20) && decide ((20:Int) < (s.length : Int))) (some (.int .u64 (hfold 0 (piece s 13 8)))) none) none) none) none) none) none) none) none := by kernel_rfl
theorem law81_13_21 (s : List UInt8) (h : 21 ≤ s.length) : treeOf laws3 tab [81] 4 200 81 [.str s, .int .i64 (.ofNat 13), .int .i64 (.ofNat 21)] = some (num81 s 13 21).val := by
  rw [tree81_13_21, hfold_num _ (by rw [piece_len]; omega), piece_eq s 8 13 (by omega)]
  simp [num81, PD.val, show ((13:Int) < (s.length : Int)) by omega, show ((14:Int) < (s.length : Int)) by omega, show ((15:Int) < (s.length : Int)) by omega, show ((16:Int) < (s.length : Int)) by omega, show ((17:Int) < (s.length : Int)) by omega, show ((18:Int) < (s.length : Int)) by omega, show ((19:Int) < (s.length : Int)) by omega, show ((20:Int) < (s.length : Int)) by omega]

theorem tree81_2_10 (s : List UInt8) : treeOf laws3 tab [81] 4 200 81 [.str s, .int .i64 (.ofNat 2), .int .i64 (.ofNat 10)] =
    cond (decide ((0:Int) ≤ 2) && decide ((2:Int) < (s.length : Int))) (cond (decide ((0:Int) ≤ 3) && decide ((3:Int) < (s.length : Int))) (cond (decide ((0:Int) ≤ 4) && decide ((4:Int) < (s.length : Int))) (cond (decide ((0:Int) ≤ 5) && decide ((5:Int) < (s.length : Int))) (cond (decide ((0:Int) ≤ 6) && decide ((6:Int) < (s.length : Int))) (cond (decide ((0:Int) ≤ 7) && decide ((7:Int) < (s.length : Int))) (cond (decide ((0:Int) ≤ 8) && decide ((8:Int) < (s.length : Int))) (cond (decide ((0:Int) ≤ 9) && decide ((9:Int) < (s.length : Int))) (some (.int .u64 (hfold 0 (piece s 2 8)))) none) none) none) none) none) none) none) none := by kernel_rfl
theorem law81_2_10 (s : List UInt8) (h : 10 ≤ s.length) : treeOf laws3 tab [81] 4 200 81 [.str s, .int .i64 (.ofNat 2), .int .i64 (.ofNat 10)] = some (num81 s 2 10).val := by
  rw [tree81_2_10, hfold_num _ (by rw [piece_len]; omega), piece_eq s 8 2 (by omega)]
  simp [num81, PD.val, show ((2:Int) < (s.length : Int)) by omega, show ((3:Int) < (s.length : Int)) by omega, show ((4:Int) < (s.length : Int)) by omega, show ((5:Int) < (s.length : Int)) by omega, show ((6:Int) < (s.length : Int)) by omega, show ((7:Int) < (s.length : Int)) by omega, show ((8:Int) < (s.length : Int)) by omega, show ((9:Int) < (s.length : Int)) by omega]

theorem tree81_1_9 (s : List UInt8) : treeOf laws3 tab [81] 4 200 81 [.str s, .int .i64 (.ofNat 1), .int .i64 (.ofNat 9)] =
    cond (decide ((0:Int) ≤ 1) && decide ((1:Int) < (s.length : Int))) (cond (decide ((0:Int) ≤ 2) && decide ((2:Int) < (s.length : Int))) (cond (decide ((0:Int) ≤ 3) && decide ((3:Int) < (s.length : Int))) (cond (decide ((0:Int) ≤ 4) && decide ((4:Int) < (s.length : Int))) (cond (decide ((0:Int) ≤ 5) && decide ((5:Int) < (s.length : Int))) (cond (decide ((0:Int) ≤ 6) && decide ((6:Int) < (s.length : Int))) (cond (decide ((0:Int) ≤ 7) && decide ((7:Int) < (s.length : Int))) (cond (decide ((0:Int) ≤ 8) && decide ((8:Int) < (s.length : Int))) (some (.int .u64 (hfold 0 (piece s 1 8)))) none) none) none) none) none) none) none) none := by kernel_rfl
theorem law81_1_9 (s : List UInt8) (h : 9 ≤ s.length) : treeOf laws3 tab [81] 4 200 81 [.str s, .int .i64 (.ofNat 1), .int .i64 (.ofNat 9)] = some (num81 s 1 9).val := by
  rw [tree81_1_9, hfold_num _ (by rw [piece_len]; omega), piece_eq s 8 1 (by omega)]
  simp [num81, PD.val, show ((1:Int) < (s.length : Int)) by omega, show ((2:Int) < (s.length : Int)) by omega, show ((3:Int) < (s.length : Int)) by omega, show ((4:Int) < (s.length : Int)) by omega, show ((5:Int) < (s.length : Int)) by omega, show ((6:Int) < (s.length : Int)) by omega, show ((7:Int) < (s.length : Int)) by omega, show ((8:Int) < (s.length : Int)) by omega]

noncomputable def g81 : List DV → Option PD := fun l => match l with
  | [.str s, .int .i64 (.ofNat 1), .int .i64 (.ofNat 5)] => some (num81 s 1 5)
  | [.str s, .int .i64 (.ofNat 5), .int .i64 (.ofNat 13)] => some (num81 s 5 13)
  | [.str s, .int .i64 (.ofNat 13), .int .i64 (.ofNat 21)] => some (num81 s 13 21)
  | [.str s, .int .i64 (.ofNat 2), .int .i64 (.ofNat 10)] => some (num81 s 2 10)
  | [.str s, .int .i64 (.ofNat 1), .int .i64 (.ofNat 9)] => some (num81 s 1 9)
  | _ => none
theorem g81_ok : ∀ l d, g81 l = some d → d.ok = true → PlainCall Tryz.prog [] 81 (toVs l) (toV d.val) ∧ ofVs (toVs l) = some l := by
  intro l d h ho
  unfold g81 at h
  split at h
  · rename_i s
    cases h
    have hb : 5 ≤ s.length := by simpa [num81, PD.ok] using ho
    exact ⟨plain_by _ tab_ok globals4 (by kernel_rfl) (law81_1_5 s hb) ⟨trivial, trivial, trivial, trivial⟩ trivial, by
      show (match ofV (sv s), ofVs [.int .i64 (.ofNat 1), .int .i64 (.ofNat 5)] with | some x, some l => some (x :: l) | _, _ => .none) = _
      rw [ofV_sv]; rfl⟩
  · rename_i s
    cases h
    have hb : 13 ≤ s.length := by simpa [num81, PD.ok] using ho
    exact ⟨plain_by _ tab_ok globals4 (by kernel_rfl) (law81_5_13 s hb) ⟨trivial, trivial, trivial, trivial⟩ trivial, by
      show (match ofV (sv s), ofVs [.int .i64 (.ofNat 5), .int .i64 (.ofNat 13)] with | some x, some l => some (x :: l) | _, _ => .none) = _
      rw [ofV_sv]; rfl⟩
  · rename_i s
    cases h
    have hb : 21 ≤ s.length := by simpa [num81, PD.ok] using ho
    exact ⟨plain_by _ tab_ok globals4 (by kernel_rfl) (law81_13_21 s hb) ⟨trivial, trivial, trivial, trivial⟩ trivial, by
      show (match ofV (sv s), ofVs [.int .i64 (.ofNat 13), .int .i64 (.ofNat 21)] with | some x, some l => some (x :: l) | _, _ => .none) = _
      rw [ofV_sv]; rfl⟩
  · rename_i s
    cases h
    have hb : 10 ≤ s.length := by simpa [num81, PD.ok] using ho
    exact ⟨plain_by _ tab_ok globals4 (by kernel_rfl) (law81_2_10 s hb) ⟨trivial, trivial, trivial, trivial⟩ trivial, by
      show (match ofV (sv s), ofVs [.int .i64 (.ofNat 2), .int .i64 (.ofNat 10)] with | some x, some l => some (x :: l) | _, _ => .none) = _
      rw [ofV_sv]; rfl⟩
  · rename_i s
    cases h
    have hb : 9 ≤ s.length := by simpa [num81, PD.ok] using ho
    exact ⟨plain_by _ tab_ok globals4 (by kernel_rfl) (law81_1_9 s hb) ⟨trivial, trivial, trivial, trivial⟩ trivial, by
      show (match ofV (sv s), ofVs [.int .i64 (.ofNat 1), .int .i64 (.ofNat 9)] with | some x, some l => some (x :: l) | _, _ => .none) = _
      rw [ofV_sv]; rfl⟩
  · cases h
noncomputable def laws4 : Laws Tryz.prog := laws3.add 81 g81 g81_ok
end
end Go.Vm.YtdmlbojhfgimnaaGreatDoor
