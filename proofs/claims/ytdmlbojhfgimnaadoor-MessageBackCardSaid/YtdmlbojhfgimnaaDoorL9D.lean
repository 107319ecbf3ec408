/-
  Numbers out of texts, as the document's answer reads them.
-/
import Derived.Test.YtdmlbojhfgimnaaDoorL9C
set_option linter.unusedVariables false
set_option linter.unusedSimpArgs false
namespace Go.Vm.YtdmlbojhfgimnaaDoor
open Go.Proofs
noncomputable section

noncomputable def hstep (a b : Int) : Int := IntKind.wrap .u64 (IntKind.wrap .u64 (a * 256) + IntKind.wrap .u64 b)
theorem hstep_eq {a b : Int} (h0 : 0 ≤ a) (h1 : a < 72057594037927936) (h2 : 0 ≤ b) (h3 : b < 256) : hstep a b = a * 256 + b := by
  unfold hstep
  rw [wrap_u64 (z := a * 256) (by omega) (by omega), wrap_u64 (z := b) h2 (by omega), wrap_u64 (by omega) (by omega)]
noncomputable def hfold : Int → List UInt8 → Int
  | a, [] => a
  | a, b :: r => hfold (hstep a b.toNat) r
theorem hfold_eq : ∀ (l : List UInt8) (a : Nat), l.length ≤ 8 → a < 256 ^ (8 - l.length) → hfold a l = ((l.foldl (fun a b => a * 256 + b.toNat) a : Nat) : Int)
  | [], a, _, _ => rfl
  | b :: r, a, h, ha => by
    have hb := b.toNat_lt
    have hl : (b :: r).length = r.length + 1 := rfl
    rw [hl] at h ha
    have hp : 256 ^ (8 - (r.length + 1)) ≤ 256 ^ 7 := Nat.pow_le_pow_right (by omega) (by omega)
    have e7 : (256:Nat) ^ 7 = 72057594037927936 := rfl
    show hfold (hstep a b.toNat) r = _
    rw [hstep_eq (by omega) (by omega) (by omega) (by omega)]
    have e : (a : Int) * 256 + (b.toNat : Int) = ((a * 256 + b.toNat : Nat) : Int) := by simp
    rw [e, hfold_eq r (a * 256 + b.toNat) (by omega) ?_]
    · rfl
    · have e1 : 8 - r.length = (8 - (r.length + 1)) + 1 := by omega
      rw [e1, Nat.pow_succ]
      omega
theorem hfold_num (l : List UInt8) (h : l.length ≤ 8) : hfold 0 l = (numOf l : Int) :=
  hfold_eq l 0 h (Nat.pos_of_ne_zero (by simp))

/-- so many bytes from a place on -/
noncomputable def piece (s : List UInt8) (a : Nat) : Nat → List UInt8
  | 0 => []
  | n + 1 => s.getD a 0 :: piece s (a + 1) n
theorem piece_eq (s : List UInt8) : ∀ (n a : Nat), a + n ≤ s.length → piece s a n = (s.drop a).take n
  | 0, a, _ => by simp [piece]
  | n + 1, a, h => by
    rw [List.drop_eq_getElem_cons (by omega), List.take_succ_cons, piece, piece_eq s n (a + 1) (by omega), List.getD_eq_getElem?_getD, List.getElem?_eq_getElem (by omega)]
    rfl
theorem piece_len (s : List UInt8) : ∀ (n a : Nat), (piece s a n).length = n
  | 0, a => rfl
  | n + 1, a => by simp [piece, piece_len s n (a + 1)]

noncomputable def num81 (s : List UInt8) (a b : Nat) : PD := .need (decide (b ≤ s.length)) (.v (.int .u64 (numOf ((s.drop a).take (b - a)) : Int)))

noncomputable def g81 : List DV → Option PD := fun l => match l with
  | [.str s, .int .i64 (.ofNat 1), .int .i64 (.ofNat 5)] => some (num81 s 1 5)
  | [.str s, .int .i64 (.ofNat 5), .int .i64 (.ofNat 13)] => some (num81 s 5 13)
  | [.str s, .int .i64 (.ofNat 13), .int .i64 (.ofNat 21)] => some (num81 s 13 21)
  | [.str s, .int .i64 (.ofNat 2), .int .i64 (.ofNat 10)] => some (num81 s 2 10)
  | [.str s, .int .i64 (.ofNat 1), .int .i64 (.ofNat 9)] => some (num81 s 1 9)
  | _ => none
noncomputable def laws4 : Laws Tryd.prog := laws3
end
end Go.Vm.YtdmlbojhfgimnaaDoor
