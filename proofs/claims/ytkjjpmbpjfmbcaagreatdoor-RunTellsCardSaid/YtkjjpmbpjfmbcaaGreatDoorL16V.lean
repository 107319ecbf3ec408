/-
  The document's Range.
-/
import Derived.Test.YtkjjpmbpjfmbcaaGreatDoorL16U
set_option linter.unusedVariables false
set_option linter.unusedSimpArgs false
namespace Go.Vm.YtkjjpmbpjfmbcaaGreatDoor
open Go.Proofs Go.Vm.R
noncomputable section
/-- what the document takes of these entries, behind those -/
def rngR (x y : List UInt8) (mo : Int) : List Ent → List Ent → List Ent
  | [], out => out
  | e :: r, out => cond (inR x y e && (decide (mo < 1) || decide ((out.length : Int) < mo))) (rngR x y mo r (out ++ [e])) (rngR x y mo r out)
theorem rngR_full {x y : List UInt8} {mo : Int} (h1 : 1 ≤ mo) : ∀ (l out : List Ent), (out.length : Int) = mo → rngR x y mo l out = out
  | [], _, _ => rfl
  | e :: r, out, h => by
    show cond (inR x y e && (decide (mo < 1) || decide ((out.length : Int) < mo))) _ _ = _
    rw [decide_eq_false (show ¬ mo < 1 by omega), decide_eq_false (show ¬ (out.length : Int) < mo by omega), Bool.or_false, Bool.and_false]
    exact rngR_full h1 r out h
theorem rngL_cons (x y : List UInt8) (mo : Int) (e : Ent) (r out : List Ent) : rngL x y mo (e :: r) out = cond (decide (0 < mo) && decide ((out.length : Int) = mo)) out (cond (inR x y e) (rngL x y mo r (out ++ [e])) (rngL x y mo r out)) := by
  show cond (decide (0 < mo)) (cond (decide ((out.length : Int) = mo)) out (cond (!Op.bytesLess e.1 x) (cond (decide (y = [])) (rngL x y mo r (out ++ [e])) (cond (Op.bytesLess e.1 y) (rngL x y mo r (out ++ [e])) (rngL x y mo r out))) (rngL x y mo r out)))
      (cond (!Op.bytesLess e.1 x) (cond (decide (y = [])) (rngL x y mo r (out ++ [e])) (cond (Op.bytesLess e.1 y) (rngL x y mo r (out ++ [e])) (rngL x y mo r out))) (rngL x y mo r out)) = _
  unfold inR
  cases decide (0 < mo) <;> cases decide ((out.length : Int) = mo) <;> cases Op.bytesLess e.1 x <;> cases decide (y = []) <;> cases Op.bytesLess e.1 y <;> rfl
theorem rngR_eq (x y : List UInt8) (mo : Int) : ∀ (l out : List Ent), (1 ≤ mo → (out.length : Int) ≤ mo) → rngR x y mo l out = rngL x y mo l out
  | [], _, _ => rfl
  | e :: r, out, h => by
    rw [rngL_cons]
    show cond (inR x y e && (decide (mo < 1) || decide ((out.length : Int) < mo))) (rngR x y mo r (out ++ [e])) (rngR x y mo r out) = _
    by_cases h1 : mo < 1
    · rw [decide_eq_true h1, decide_eq_false (show ¬ 0 < mo by omega), Bool.true_or, Bool.and_true, Bool.false_and]
      rw [rngR_eq x y mo r (out ++ [e]) (by omega), rngR_eq x y mo r out (by omega)]; rfl
    · rw [decide_eq_false h1, decide_eq_true (show 0 < mo by omega), Bool.false_or, Bool.true_and]
      have h2 := h (by omega)
      by_cases h3 : (out.length : Int) = mo
      · rw [decide_eq_true h3, decide_eq_false (show ¬ (out.length : Int) < mo by omega), Bool.and_false]
        exact rngR_full (by omega) r out h3
      · rw [decide_eq_false h3, decide_eq_true (show (out.length : Int) < mo by omega), Bool.and_true]
        rw [rngR_eq x y mo r (out ++ [e]) (by intro _; rw [List.length_append]; simp; omega), rngR_eq x y mo r out (by intro _; omega)]; rfl
def b56 : CC := lp (bl (at3 (fl (at3 (at3 c56.body)))))
def P56 (j n : Nat) (full : List Ent) (z : Int) (out : List Ent) : Bool := decide (j + n ≤ full.length ∧ n < 99 ∧ 0 ≤ z ∧ z ≤ n ∧ (out.length : Int) ≤ z)
def S56 (j n : Nat) (full : List Ent) (z : Int) (x y : List UInt8) (mo : Int) (out : List Ent) : List Ent := rngR x y mo ((seg full j n).drop z.toNat) out
def lt56 (x0 y0 : List UInt8) (mo : Int) (m j n c : Nat) (ex : Bool) (z : Int) (full out : List Ent) (sp : Bool) (el : R.EL) : LT := .need (Nat.beq m out.length && P56 j n full z out) (.exit 0 [.ns 1 (S56 j n full z x0 y0 mo out).length 2] [.r .ent full sp el, .rn .ent (S56 j n full z x0 y0 mo out) 41])
def ld56 : LoopD := ⟨[(0, none), (1, none), (2, none), (3, none), (9, some (.ent, 41)), (10, none)], [(9, some (.ent, 41))], [], fun vs ao => match vs, ao with
  | [.rs 0 j n c 2 ex, .str x, .str y, .int .i64 mo, .ns 1 m 2, .int .i64 z], [.r .ent full sp el, .rn .ent out 41] => some (n - z.toNat, lt56 x y mo m j n c ex z full out sp el)
  | _, _ => none⟩
theorem turn56 (j n c : Nat) (ex : Bool) (x0 y0 : List UInt8) (mo z : Int) (full out : List Ent) (sp : Bool) (el : R.EL) (m : Nat) (rd k1 : R.EK) (y : List (Nat × R.EK)) :
    (turnD C Y0 (fun _ => none) 100 43 1 0 b56 ld56 m [.rs 0 j n c 2 ex, .str x0, .str y0, .int .i64 mo, .ns 1 out.length 2, .int .i64 z] [.r .ent full sp el, .rn .ent out 41] rd k1 y).ev =
    cond (decide (z < (↑n : Int))) (cond (decide (0 ≤ z) && decide (Int.toNat z < n)) (cond (Nat.blt (j + Int.toNat z) (List.length full)) (cond (!Op.bytesLess (Prod.fst (List.getD full (j + Int.toNat z) (RK.zero RK.ent))) x0) (cond (decide ((↑(List.length y0) : Int) = 0)) (cond (decide (mo < 1)) (cond (decide (0 ≤ z) && decide (Int.toNat z < n)) (cond (Nat.blt (j + Int.toNat z) (List.length full)) (cond (Nat.ble (List.length out) (List.length out)) (cond (roomFor (List.length out + List.length (List.take 1 (List.drop 0 [(Prod.fst (List.getD full (j + Int.toNat z) (RK.zero RK.ent)), Prod.snd (List.getD full (j + Int.toNat z) (RK.zero RK.ent)))]))) 32) (cond (decide (List.length out + List.length (List.take 1 (List.drop 0 [(Prod.fst (List.getD full (j + Int.toNat z) (RK.zero RK.ent)), Prod.snd (List.getD full (j + Int.toNat z) (RK.zero RK.ent)))])) = List.length (List.take (List.length out) out ++ List.take 1 (List.drop 0 [(Prod.fst (List.getD full (j + Int.toNat z) (RK.zero RK.ent)), Prod.snd (List.getD full (j + Int.toNat z) (RK.zero RK.ent)))]))) && (decide (List.length out + List.length (List.take 1 (List.drop 0 [(Prod.fst (List.getD full (j + Int.toNat z) (RK.zero RK.ent)), Prod.snd (List.getD full (j + Int.toNat z) (RK.zero RK.ent)))])) = List.length out + List.length (List.take 1 (List.drop 0 [(Prod.fst (List.getD full (j + Int.toNat z) (RK.zero RK.ent)), Prod.snd (List.getD full (j + Int.toNat z) (RK.zero RK.ent)))]))) && true)) (cond (decide (n - Int.toNat (IntKind.wrap IntKind.i64 (z + 1)) < m)) (cond (Nat.beq (List.length out + List.length (List.take 1 (List.drop 0 [(Prod.fst (List.getD full (j + Int.toNat z) (RK.zero RK.ent)), Prod.snd (List.getD full (j + Int.toNat z) (RK.zero RK.ent)))]))) (List.length (List.take (List.length out) out ++ List.take 1 (List.drop 0 [(Prod.fst (List.getD full (j + Int.toNat z) (RK.zero RK.ent)), Prod.snd (List.getD full (j + Int.toNat z) (RK.zero RK.ent)))]))) && P56 j n full (IntKind.wrap IntKind.i64 (z + 1)) (List.take (List.length out) out ++ List.take 1 (List.drop 0 [(Prod.fst (List.getD full (j + Int.toNat z) (RK.zero RK.ent)), Prod.snd (List.getD full (j + Int.toNat z) (RK.zero RK.ent)))]))) ((k1 (envZ [9] [DV.ns 1 (List.length (S56 j n full (IntKind.wrap IntKind.i64 (z + 1)) x0 y0 mo (List.take (List.length out) out ++ List.take 1 (List.drop 0 [(Prod.fst (List.getD full (j + Int.toNat z) (RK.zero RK.ent)), Prod.snd (List.getD full (j + Int.toNat z) (RK.zero RK.ent)))])))) 2]) (mkD [DO.r RK.ent full sp el, DO.rn RK.ent (S56 j n full (IntKind.wrap IntKind.i64 (z + 1)) x0 y0 mo (List.take (List.length out) out ++ List.take 1 (List.drop 0 [(Prod.fst (List.getD full (j + Int.toNat z) (RK.zero RK.ent)), Prod.snd (List.getD full (j + Int.toNat z) (RK.zero RK.ent)))]))) 41] 1)).ev) none) none) none) none) none) none) none) (cond (Nat.ble (List.length out) (List.length out)) (cond (decide ((↑(List.length out) : Int) < mo)) (cond (decide (0 ≤ z) && decide (Int.toNat z < n)) (cond (Nat.blt (j + Int.toNat z) (List.length full)) (cond (Nat.ble (List.length out) (List.length out)) (cond (roomFor (List.length out + List.length (List.take 1 (List.drop 0 [(Prod.fst (List.getD full (j + Int.toNat z) (RK.zero RK.ent)), Prod.snd (List.getD full (j + Int.toNat z) (RK.zero RK.ent)))]))) 32) (cond (decide (List.length out + List.length (List.take 1 (List.drop 0 [(Prod.fst (List.getD full (j + Int.toNat z) (RK.zero RK.ent)), Prod.snd (List.getD full (j + Int.toNat z) (RK.zero RK.ent)))])) = List.length (List.take (List.length out) out ++ List.take 1 (List.drop 0 [(Prod.fst (List.getD full (j + Int.toNat z) (RK.zero RK.ent)), Prod.snd (List.getD full (j + Int.toNat z) (RK.zero RK.ent)))]))) && (decide (List.length out + List.length (List.take 1 (List.drop 0 [(Prod.fst (List.getD full (j + Int.toNat z) (RK.zero RK.ent)), Prod.snd (List.getD full (j + Int.toNat z) (RK.zero RK.ent)))])) = List.length out + List.length (List.take 1 (List.drop 0 [(Prod.fst (List.getD full (j + Int.toNat z) (RK.zero RK.ent)), Prod.snd (List.getD full (j + Int.toNat z) (RK.zero RK.ent)))]))) && true)) (cond (decide (n - Int.toNat (IntKind.wrap IntKind.i64 (z + 1)) < m)) (cond (Nat.beq (List.length out + List.length (List.take 1 (List.drop 0 [(Prod.fst (List.getD full (j + Int.toNat z) (RK.zero RK.ent)), Prod.snd (List.getD full (j + Int.toNat z) (RK.zero RK.ent)))]))) (List.length (List.take (List.length out) out ++ List.take 1 (List.drop 0 [(Prod.fst (List.getD full (j + Int.toNat z) (RK.zero RK.ent)), Prod.snd (List.getD full (j + Int.toNat z) (RK.zero RK.ent)))]))) && P56 j n full (IntKind.wrap IntKind.i64 (z + 1)) (List.take (List.length out) out ++ List.take 1 (List.drop 0 [(Prod.fst (List.getD full (j + Int.toNat z) (RK.zero RK.ent)), Prod.snd (List.getD full (j + Int.toNat z) (RK.zero RK.ent)))]))) ((k1 (envZ [9] [DV.ns 1 (List.length (S56 j n full (IntKind.wrap IntKind.i64 (z + 1)) x0 y0 mo (List.take (List.length out) out ++ List.take 1 (List.drop 0 [(Prod.fst (List.getD full (j + Int.toNat z) (RK.zero RK.ent)), Prod.snd (List.getD full (j + Int.toNat z) (RK.zero RK.ent)))])))) 2]) (mkD [DO.r RK.ent full sp el, DO.rn RK.ent (S56 j n full (IntKind.wrap IntKind.i64 (z + 1)) x0 y0 mo (List.take (List.length out) out ++ List.take 1 (List.drop 0 [(Prod.fst (List.getD full (j + Int.toNat z) (RK.zero RK.ent)), Prod.snd (List.getD full (j + Int.toNat z) (RK.zero RK.ent)))]))) 41] 1)).ev) none) none) none) none) none) none) none) (cond (decide (n - Int.toNat (IntKind.wrap IntKind.i64 (z + 1)) < m)) (cond (Nat.beq (List.length out) (List.length out) && P56 j n full (IntKind.wrap IntKind.i64 (z + 1)) out) ((k1 (envZ [9] [DV.ns 1 (List.length (S56 j n full (IntKind.wrap IntKind.i64 (z + 1)) x0 y0 mo out)) 2]) (mkD [DO.r RK.ent full sp el, DO.rn RK.ent (S56 j n full (IntKind.wrap IntKind.i64 (z + 1)) x0 y0 mo out) 41] 1)).ev) none) none)) none)) (cond (Op.bytesLess (Prod.fst (List.getD full (j + Int.toNat z) (RK.zero RK.ent))) y0) (cond (decide (mo < 1)) (cond (decide (0 ≤ z) && decide (Int.toNat z < n)) (cond (Nat.blt (j + Int.toNat z) (List.length full)) (cond (Nat.ble (List.length out) (List.length out)) (cond (roomFor (List.length out + List.length (List.take 1 (List.drop 0 [(Prod.fst (List.getD full (j + Int.toNat z) (RK.zero RK.ent)), Prod.snd (List.getD full (j + Int.toNat z) (RK.zero RK.ent)))]))) 32) (cond (decide (List.length out + List.length (List.take 1 (List.drop 0 [(Prod.fst (List.getD full (j + Int.toNat z) (RK.zero RK.ent)), Prod.snd (List.getD full (j + Int.toNat z) (RK.zero RK.ent)))])) = List.length (List.take (List.length out) out ++ List.take 1 (List.drop 0 [(Prod.fst (List.getD full (j + Int.toNat z) (RK.zero RK.ent)), Prod.snd (List.getD full (j + Int.toNat z) (RK.zero RK.ent)))]))) && (decide (List.length out + List.length (List.take 1 (List.drop 0 [(Prod.fst (List.getD full (j + Int.toNat z) (RK.zero RK.ent)), Prod.snd (List.getD full (j + Int.toNat z) (RK.zero RK.ent)))])) = List.length out + List.length (List.take 1 (List.drop 0 [(Prod.fst (List.getD full (j + Int.toNat z) (RK.zero RK.ent)), Prod.snd (List.getD full (j + Int.toNat z) (RK.zero RK.ent)))]))) && true)) (cond (decide (n - Int.toNat (IntKind.wrap IntKind.i64 (z + 1)) < m)) (cond (Nat.beq (List.length out + List.length (List.take 1 (List.drop 0 [(Prod.fst (List.getD full (j + Int.toNat z) (RK.zero RK.ent)), Prod.snd (List.getD full (j + Int.toNat z) (RK.zero RK.ent)))]))) (List.length (List.take (List.length out) out ++ List.take 1 (List.drop 0 [(Prod.fst (List.getD full (j + Int.toNat z) (RK.zero RK.ent)), Prod.snd (List.getD full (j + Int.toNat z) (RK.zero RK.ent)))]))) && P56 j n full (IntKind.wrap IntKind.i64 (z + 1)) (List.take (List.length out) out ++ List.take 1 (List.drop 0 [(Prod.fst (List.getD full (j + Int.toNat z) (RK.zero RK.ent)), Prod.snd (List.getD full (j + Int.toNat z) (RK.zero RK.ent)))]))) ((k1 (envZ [9] [DV.ns 1 (List.length (S56 j n full (IntKind.wrap IntKind.i64 (z + 1)) x0 y0 mo (List.take (List.length out) out ++ List.take 1 (List.drop 0 [(Prod.fst (List.getD full (j + Int.toNat z) (RK.zero RK.ent)), Prod.snd (List.getD full (j + Int.toNat z) (RK.zero RK.ent)))])))) 2]) (mkD [DO.r RK.ent full sp el, DO.rn RK.ent (S56 j n full (IntKind.wrap IntKind.i64 (z + 1)) x0 y0 mo (List.take (List.length out) out ++ List.take 1 (List.drop 0 [(Prod.fst (List.getD full (j + Int.toNat z) (RK.zero RK.ent)), Prod.snd (List.getD full (j + Int.toNat z) (RK.zero RK.ent)))]))) 41] 1)).ev) none) none) none) none) none) none) none) (cond (Nat.ble (List.length out) (List.length out)) (cond (decide ((↑(List.length out) : Int) < mo)) (cond (decide (0 ≤ z) && decide (Int.toNat z < n)) (cond (Nat.blt (j + Int.toNat z) (List.length full)) (cond (Nat.ble (List.length out) (List.length out)) (cond (roomFor (List.length out + List.length (List.take 1 (List.drop 0 [(Prod.fst (List.getD full (j + Int.toNat z) (RK.zero RK.ent)), Prod.snd (List.getD full (j + Int.toNat z) (RK.zero RK.ent)))]))) 32) (cond (decide (List.length out + List.length (List.take 1 (List.drop 0 [(Prod.fst (List.getD full (j + Int.toNat z) (RK.zero RK.ent)), Prod.snd (List.getD full (j + Int.toNat z) (RK.zero RK.ent)))])) = List.length (List.take (List.length out) out ++ List.take 1 (List.drop 0 [(Prod.fst (List.getD full (j + Int.toNat z) (RK.zero RK.ent)), Prod.snd (List.getD full (j + Int.toNat z) (RK.zero RK.ent)))]))) && (decide (List.length out + List.length (List.take 1 (List.drop 0 [(Prod.fst (List.getD full (j + Int.toNat z) (RK.zero RK.ent)), Prod.snd (List.getD full (j + Int.toNat z) (RK.zero RK.ent)))])) = List.length out + List.length (List.take 1 (List.drop 0 [(Prod.fst (List.getD full (j + Int.toNat z) (RK.zero RK.ent)), Prod.snd (List.getD full (j + Int.toNat z) (RK.zero RK.ent)))]))) && true)) (cond (decide (n - Int.toNat (IntKind.wrap IntKind.i64 (z + 1)) < m)) (cond (Nat.beq (List.length out + List.length (List.take 1 (List.drop 0 [(Prod.fst (List.getD full (j + Int.toNat z) (RK.zero RK.ent)), Prod.snd (List.getD full (j + Int.toNat z) (RK.zero RK.ent)))]))) (List.length (List.take (List.length out) out ++ List.take 1 (List.drop 0 [(Prod.fst (List.getD full (j + Int.toNat z) (RK.zero RK.ent)), Prod.snd (List.getD full (j + Int.toNat z) (RK.zero RK.ent)))]))) && P56 j n full (IntKind.wrap IntKind.i64 (z + 1)) (List.take (List.length out) out ++ List.take 1 (List.drop 0 [(Prod.fst (List.getD full (j + Int.toNat z) (RK.zero RK.ent)), Prod.snd (List.getD full (j + Int.toNat z) (RK.zero RK.ent)))]))) ((k1 (envZ [9] [DV.ns 1 (List.length (S56 j n full (IntKind.wrap IntKind.i64 (z + 1)) x0 y0 mo (List.take (List.length out) out ++ List.take 1 (List.drop 0 [(Prod.fst (List.getD full (j + Int.toNat z) (RK.zero RK.ent)), Prod.snd (List.getD full (j + Int.toNat z) (RK.zero RK.ent)))])))) 2]) (mkD [DO.r RK.ent full sp el, DO.rn RK.ent (S56 j n full (IntKind.wrap IntKind.i64 (z + 1)) x0 y0 mo (List.take (List.length out) out ++ List.take 1 (List.drop 0 [(Prod.fst (List.getD full (j + Int.toNat z) (RK.zero RK.ent)), Prod.snd (List.getD full (j + Int.toNat z) (RK.zero RK.ent)))]))) 41] 1)).ev) none) none) none) none) none) none) none) (cond (decide (n - Int.toNat (IntKind.wrap IntKind.i64 (z + 1)) < m)) (cond (Nat.beq (List.length out) (List.length out) && P56 j n full (IntKind.wrap IntKind.i64 (z + 1)) out) ((k1 (envZ [9] [DV.ns 1 (List.length (S56 j n full (IntKind.wrap IntKind.i64 (z + 1)) x0 y0 mo out)) 2]) (mkD [DO.r RK.ent full sp el, DO.rn RK.ent (S56 j n full (IntKind.wrap IntKind.i64 (z + 1)) x0 y0 mo out) 41] 1)).ev) none) none)) none)) (cond (decide (n - Int.toNat (IntKind.wrap IntKind.i64 (z + 1)) < m)) (cond (Nat.beq (List.length out) (List.length out) && P56 j n full (IntKind.wrap IntKind.i64 (z + 1)) out) ((k1 (envZ [9] [DV.ns 1 (List.length (S56 j n full (IntKind.wrap IntKind.i64 (z + 1)) x0 y0 mo out)) 2]) (mkD [DO.r RK.ent full sp el, DO.rn RK.ent (S56 j n full (IntKind.wrap IntKind.i64 (z + 1)) x0 y0 mo out) 41] 1)).ev) none) none))) (cond (decide (n - Int.toNat (IntKind.wrap IntKind.i64 (z + 1)) < m)) (cond (Nat.beq (List.length out) (List.length out) && P56 j n full (IntKind.wrap IntKind.i64 (z + 1)) out) ((k1 (envZ [9] [DV.ns 1 (List.length (S56 j n full (IntKind.wrap IntKind.i64 (z + 1)) x0 y0 mo out)) 2]) (mkD [DO.r RK.ent full sp el, DO.rn RK.ent (S56 j n full (IntKind.wrap IntKind.i64 (z + 1)) x0 y0 mo out) 41] 1)).ev) none) none)) none) none) ((k1 (envZ [9] [DV.ns 1 (List.length out) 2]) (mkD [DO.r RK.ent full sp el, DO.rn RK.ent out 41] 1)).ev) := by kernel_rfl
theorem step56 (x0 y0 : List UInt8) (mo : Int) (j n c : Nat) (ex : Bool) (z : Int) (full out : List Ent) (sp : Bool) (el : R.EL) (rd k1 : R.EK) (y : List (Nat × R.EK)) (w : R.DV × R.DH) (hw : ((lt56 x0 y0 mo out.length j n c ex z full out sp el).tree 1 ld56 rd ((0, k1) :: y)).ev = some w) :
    (turnD C Y0 (fun _ => none) 100 43 1 0 b56 ld56 (n - z.toNat) [.rs 0 j n c 2 ex, .str x0, .str y0, .int .i64 mo, .ns 1 out.length 2, .int .i64 z] [.r .ent full sp el, .rn .ent out 41] rd k1 y).ev = some w := by
  replace hw := lt_need hw
  obtain ⟨hp, hw⟩ := hw
  have hb0 : Nat.beq out.length out.length = true := Nat.beq_refl _
  have hble : Nat.ble out.length out.length = true := Nat.ble_eq_true_of_le (Nat.le_refl _)
  rw [hb0] at hp
  simp only [Bool.true_and, P56, decide_eq_true_eq] at hp
  obtain ⟨p1, p2, p3, p4, p5⟩ := hp
  replace hw : (k1 (envZ [9] [.ns 1 (S56 j n full z x0 y0 mo out).length 2]) (mkD [.r .ent full sp el, .rn .ent (S56 j n full z x0 y0 mo out) 41] 1)).ev = some w := hw
  rw [turn56]
  by_cases h1 : z < n
  · have t0 : (List.getD full (j + Int.toNat z) (RK.zero RK.ent) : Ent) = rec full j z := rfl
    have t1 : List.take out.length out = out := List.take_length
    have t2 : ∀ p : Ent, List.take 1 (List.drop 0 [p]) = [p] := fun _ => rfl
    have t3 : ((rec full j z).1, (rec full j z).2) = rec full j z := rfl
    have hroom : roomFor (out.length + 1) 32 = true := room_small (by omega)
    have hm : decide (n - (z + 1).toNat < n - z.toNat) = true := decide_eq_true (by omega)
    have hne : decide (out.length + 1 = 0) = false := rfl
    have hb1 : Nat.beq (out.length + 1) (out.length + 1) = true := Nat.beq_refl _
    have hP1 : P56 j n full (z + 1) (out ++ [rec full j z]) = true := by
      simp only [P56, decide_eq_true_eq]
      refine ⟨p1, p2, ?_, ?_, ?_⟩ <;> first | omega | (rw [List.length_append]; simp; omega)
    have hP0 : P56 j n full (z + 1) out = true := by
      simp only [P56, decide_eq_true_eq]
      refine ⟨p1, p2, ?_, ?_, ?_⟩ <;> omega
    have a0 : decide ((y0.length : Int) = 0) = decide (y0 = []) := by
      rw [Bool.eq_iff_iff, decide_eq_true_eq, decide_eq_true_eq, ← List.length_eq_zero_iff]; omega
    rw [cT h1]
    have cz : (decide (0 ≤ z) && decide (z.toNat < n)) = true := by rw [decide_eq_true p3, decide_eq_true (show z.toNat < n by omega)]; rfl
    have cz2 : Nat.blt (j + z.toNat) full.length = true := by
      have : j + z.toNat < full.length := by omega
      simpa using this
    simp only [cz, cz2, a0, nextI p3 h1 (show n < 9223372036854775808 by omega), t0, t1, t2, t3, List.length_append, List.length_cons, List.length_nil, Nat.zero_add, hble, hroom, hm, hne, hb1, hb0, hP1, hP0, decide_true, Bool.true_and, Bool.and_true, Bool.not_false, cond_true]
    have e5 : S56 j n full z x0 y0 mo out = cond (inR x0 y0 (rec full j z) && (decide (mo < 1) || decide ((out.length : Int) < mo))) (S56 j n full (z + 1) x0 y0 mo (out ++ [rec full j z])) (S56 j n full (z + 1) x0 y0 mo out) := by
      unfold S56
      rw [seg_drop p1 p3 h1]; rfl
    rw [e5] at hw
    revert hw
    unfold inR
    cases decide (mo < 1) <;> cases decide ((out.length : Int) < mo) <;> cases Op.bytesLess (rec full j z).1 x0 <;> cases decide (y0 = []) <;> cases Op.bytesLess (rec full j z).1 y0 <;> exact id
  · rw [cF h1]
    have e5 : S56 j n full z x0 y0 mo out = out := by
      unfold S56
      rw [seg_end p1 h1 p3]; rfl
    rw [e5] at hw
    exact hw
theorem loop56 {n : Nat} (hn : 100 ≤ n) : LoopOk C.G 1 (callO noTmps C.O C.tab n) n 100 43 0 b56 ld56 := by
  refine loop_of C Y0 (lh := fun _ => none) hn ?_ (fun p _ ld h => by cases h) ?_
  · exact wf_lp (wf_bl (wf_at3 (wf_fl (wf_at3 (wf_at3 (wf_body (f := 56) rfl))))))
  intro vs ao m t hs rd k1 y w hw
  unfold ld56 at hs
  simp only at hs
  split at hs
  case h_2 => cases hs
  cases hs
  have hp := (lt_need hw).1
  simp only [Bool.and_eq_true] at hp
  obtain ⟨h1, _⟩ := hp
  have h1 := Nat.eq_of_beq_eq_true h1
  subst h1
  exact step56 _ _ _ _ _ _ _ _ _ _ _ _ _ _ _ _ hw
theorem run56 (j n c : Nat) (ex : Bool) (x0 y0 : List UInt8) (mo : Int) (full : List Ent) (sp : Bool) (el : R.EL) : runD C Y0 (lhX ld56) 100 c56 [.rs 0 j n c 2 ex, .str x0, .str y0, .int .i64 mo] [.r .ent full sp el] =
    cond (decide (n - 0 < 100)) (cond (P56 j n full 0 []) (some (DV.ns 1 (List.length (S56 j n full 0 x0 y0 mo [])) 2, (mkD [DO.r RK.ent full sp el, DO.rn RK.ent (S56 j n full 0 x0 y0 mo []) 41] 1))) none) none := by kernel_rfl
theorem law56a (j n c : Nat) (ex : Bool) (x0 y0 : List UInt8) (mo : Int) (full : List Ent) (sp : Bool) (el : R.EL) : LawOk C.G C.O C.tab 56 101 [.r .ent full sp el] [.rs 0 j n c 2 ex, .str x0, .str y0, .int .i64 mo] (out51 full j n x0 y0 mo) := by
  refine law_of C Y0 (lhX ld56) rfl rfl (fun n hn => lhX_ok (Q := fun i b ld => LoopOk C.G 1 (callO noTmps C.O C.tab n) n 100 43 i b ld) rfl (loop56 hn)) fun z hz => ?_
  obtain ⟨hp, hz⟩ := R.ev_need hz
  refine (run56 j n c ex x0 y0 mo full sp el).trans ?_
  obtain ⟨p1, p2⟩ := okN_iff.1 hp
  have e4 : P56 j n full 0 [] = true := by
    simp only [P56, decide_eq_true_eq]
    refine ⟨p1, p2, ?_, ?_, ?_⟩ <;> first | omega | simp
  have e5 : S56 j n full 0 x0 y0 mo [] = rngB x0 y0 mo (seg full j n) := rngR_eq x0 y0 mo _ _ (fun h => by show (0 : Int) ≤ mo; omega)
  rw [e4, cT (show n - 0 < 100 by omega), e5]
  exact Eq.trans rfl hz
theorem law56 (j n c : Nat) (ex : Bool) (x0 y0 : List UInt8) (mo : Int) (full : List Ent) (sp : Bool) (el : R.EL) : LawOk C.G C.O C.tab 56 101 [.r .ent full sp el] [.rs 0 j n c 2 ex, .str x0, .str y0, .int .i64 mo] (out51b full j n x0 y0 mo) :=
  law_ns (ao := [.r .ent full sp el]) (k := .ent) (r := rngB x0 y0 mo (seg full j n)) (el := 41) (law56a j n c ex x0 y0 mo full sp el)
theorem law56n (x0 y0 : List UInt8) (mo : Int) : LawOk C.G C.O C.tab 56 101 [] [.nils, .str x0, .str y0, .int .i64 mo] (.v .nils []) := by
  refine law_of C Y0 (fun _ => none) rfl rfl (fun n hn p _ ld e => by cases e) fun z hz => ?_
  refine Eq.trans ?_ hz
  kernel_rfl
end
end Go.Vm.YtkjjpmbpjfmbcaaGreatDoor
