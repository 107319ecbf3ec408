/-
  Texts with their lengths ahead; whether a message may be, as an error.
-/
import Derived.Test.YtdmlbojhfgimnaaGreatDoorL9J
set_option linter.unusedVariables false
set_option linter.unusedSimpArgs false
namespace Go.Vm.YtdmlbojhfgimnaaGreatDoor
open Go.Proofs
noncomputable section

/-- two bytes of a number -/
noncomputable def be2 (n : Nat) : List UInt8 := [UInt8.ofNat (n / 256), UInt8.ofNat (n % 256)]
/-- a text, its length ahead -/
noncomputable def textD (s : List UInt8) : PD := .br (decide (65535 < (s.length : Int))) (.v (.tup [.str [], .bool false])) (.v (.tup [.str (be2 s.length ++ s), .bool true]))
set_option maxRecDepth 10000 in
theorem tree37 (s : List UInt8) : treeOf laws10 tab [37, 66] 4 200 37 [.str s] =
    cond (decide (65535 < (↑(List.length s) : Int))) (some (DV.tup [DV.str [], DV.bool false])) (cond (Nat.ble 2 (List.length [DV.int .u8 (IntKind.wrap .u8 (Int.tmod (IntKind.wrap .u64 (Int.tdiv (IntKind.wrap .u64 (↑(List.length s) : Int)) 256)) 256)), DV.int .u8 (IntKind.wrap .u8 (Int.tmod (IntKind.wrap .u64 (↑(List.length s) : Int)) 256))]) && (decide (0 ≤ IntKind.wrap .u8 (Int.tmod (IntKind.wrap .u64 (Int.tdiv (IntKind.wrap .u64 (↑(List.length s) : Int)) 256)) 256)) && (decide (IntKind.wrap .u8 (Int.tmod (IntKind.wrap .u64 (Int.tdiv (IntKind.wrap .u64 (↑(List.length s) : Int)) 256)) 256) < 256) && (decide (0 ≤ IntKind.wrap .u8 (Int.tmod (IntKind.wrap .u64 (↑(List.length s) : Int)) 256)) && (decide (IntKind.wrap .u8 (Int.tmod (IntKind.wrap .u64 (↑(List.length s) : Int)) 256) < 256) && true))))) (cond (decide (List.length [UInt8.ofNat (Int.toNat (IntKind.wrap .u8 (Int.tmod (IntKind.wrap .u64 (Int.tdiv (IntKind.wrap .u64 (↑(List.length s) : Int)) 256)) 256))), UInt8.ofNat (Int.toNat (IntKind.wrap .u8 (Int.tmod (IntKind.wrap .u64 (↑(List.length s) : Int)) 256)))] + List.length s ≤ 9223372036854775807)) (some (DV.tup [DV.str ([UInt8.ofNat (Int.toNat (IntKind.wrap .u8 (Int.tmod (IntKind.wrap .u64 (Int.tdiv (IntKind.wrap .u64 (↑(List.length s) : Int)) 256)) 256))), UInt8.ofNat (Int.toNat (IntKind.wrap .u8 (Int.tmod (IntKind.wrap .u64 (↑(List.length s) : Int)) 256)))] ++ s), DV.bool true])) none) none) := by kernel_rfl

theorem law37 (s : List UInt8) : treeOf laws10 tab [37, 66] 4 200 37 [.str s] = some (textD s).val := by
  rw [tree37]
  unfold textD
  simp only [pd_br, pd_v]
  cases hl : decide (65535 < (s.length : Int)) with
  | true => simp only [cond_true]
  | false =>
    have hl : s.length ≤ 65535 := by have := of_decide_eq_false hl; omega
    have e0 : IntKind.wrap .u64 (s.length : Int) = (s.length : Int) := wrap_u64 (by omega) (by omega)
    have e1 : Int.tdiv (s.length : Int) 256 = ((s.length / 256 : Nat) : Int) := rfl
    have e2 : IntKind.wrap .u64 ((s.length / 256 : Nat) : Int) = ((s.length / 256 : Nat) : Int) := wrap_u64 (by omega) (by omega)
    have e3 : Int.tmod ((s.length / 256 : Nat) : Int) 256 = ((s.length / 256 % 256 : Nat) : Int) := rfl
    have e4 : Int.tmod (s.length : Int) 256 = ((s.length % 256 : Nat) : Int) := rfl
    have e5 : s.length / 256 % 256 = s.length / 256 := Nat.mod_eq_of_lt (by omega)
    have e6 : IntKind.wrap .u8 ((s.length / 256 : Nat) : Int) = ((s.length / 256 : Nat) : Int) := wrap_u8 (by omega) (by omega)
    have e7 : IntKind.wrap .u8 ((s.length % 256 : Nat) : Int) = ((s.length % 256 : Nat) : Int) := wrap_u8 (by omega) (by omega)
    rw [e0, e1, e2, e3, e4, e5, e6, e7]
    have c1 : decide ((0:Int) ≤ ((s.length / 256 : Nat) : Int)) = true := by simp only [decide_eq_true_eq]; omega
    have c2 : decide (((s.length / 256 : Nat) : Int) < 256) = true := by simp only [decide_eq_true_eq]; omega
    have c3 : decide ((0:Int) ≤ ((s.length % 256 : Nat) : Int)) = true := by simp only [decide_eq_true_eq]; omega
    have c4 : decide (((s.length % 256 : Nat) : Int) < 256) = true := by simp only [decide_eq_true_eq]; omega
    have c5 : decide (List.length [UInt8.ofNat (Int.toNat ((s.length / 256 : Nat) : Int)), UInt8.ofNat (Int.toNat ((s.length % 256 : Nat) : Int))] + s.length ≤ 9223372036854775807) = true := by
      simp only [List.length_cons, List.length_nil, decide_eq_true_eq]; omega
    rw [c1, c2, c3, c4, c5]
    rfl
theorem wf_text (s : List UInt8) : wf 0 (toV (textD s).val) := by
  unfold textD
  simp only [PD.val_br, PD.val_v]
  cases decide (65535 < (s.length : Int)) <;> exact ⟨trivial, trivial, trivial⟩
noncomputable def gtext : List DV → Option PD := fun l => match l with
  | [.str s] => some (textD s)
  | _ => none
theorem g37_ok : ∀ l d, gtext l = some d → d.ok = true → PlainCall Tryz.prog [] 37 (toVs l) (toV d.val) ∧ ofVs (toVs l) = some l := by
  intro l d h ho
  unfold gtext at h
  split at h
  · rename_i s
    cases h
    exact ⟨plain_by _ tab_ok globals4 (by kernel_rfl) (law37 s) ⟨trivial, trivial⟩ (wf_text s), dec_s s⟩
  · cases h

noncomputable def checkD (op : Int) (k t v : List UInt8) : PD := .br (mayB op k t v) (.v (.int .i64 0)) (.v (.int .i64 4))
set_option maxRecDepth 10000 in
theorem tree13 (op : Int) (k t v : List UInt8) : treeOf laws10 tab [13] 4 200 13 [.agg [.int .i64 op, .str k, .str t, .str v]] =
    cond (!mayB op k t v) (some (DV.int .i64 4)) (some (DV.int .i64 0)) := by kernel_rfl

theorem law13 (op : Int) (k t v : List UInt8) : treeOf laws10 tab [13] 4 200 13 [.agg [.int .i64 op, .str k, .str t, .str v]] = some (checkD op k t v).val := by
  rw [tree13]
  unfold checkD
  simp only [pd_br, pd_v, cond_nn]
theorem wf_check (op : Int) (k t v : List UInt8) : wf 0 (toV (checkD op k t v).val) := by
  unfold checkD
  simp only [PD.val]
  split <;> trivial
noncomputable def gcheck : List DV → Option PD := fun l => match l with
  | [.agg [.int .i64 op, .str k, .str t, .str v]] => some (checkD op k t v)
  | _ => none
theorem g13_ok : ∀ l d, gcheck l = some d → d.ok = true → PlainCall Tryz.prog [] 13 (toVs l) (toV d.val) ∧ ofVs (toVs l) = some l := by
  intro l d h ho
  unfold gcheck at h
  split at h
  · rename_i op k t v
    cases h
    exact ⟨plain_by _ tab_ok globals4 (by kernel_rfl) (law13 op k t v) ⟨⟨trivial, trivial, trivial, trivial, trivial⟩, trivial⟩ (wf_check op k t v), dec_msg op k t v⟩
  · cases h
noncomputable def laws11 : Laws Tryz.prog := (laws10.add 37 gtext g37_ok).add 13 gcheck g13_ok
end
end Go.Vm.YtdmlbojhfgimnaaGreatDoor
