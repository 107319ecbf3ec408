/-
  The law of Range.
-/
import Derived.Test.YtkjjpmbpjfmbcaaGreatDoorL16D
import Derived.Test.YtkjjpmbpjfmbcaaGreatDoorV8
set_option linter.unusedVariables false
set_option linter.unusedSimpArgs false
namespace Go.Vm.YtkjjpmbpjfmbcaaGreatDoor
open Go.Proofs Go.Vm.R
noncomputable section
/-- what is taken of these entries, behind those -/
def rngL (x y : List UInt8) (mo : Int) : List Ent → List Ent → List Ent
  | [], out => out
  | e :: r, out => cond (decide (0 < mo)) (cond (decide ((out.length : Int) = mo)) out (cond (!Op.bytesLess e.1 x) (cond (decide (y = [])) (rngL x y mo r (out ++ [e])) (cond (Op.bytesLess e.1 y) (rngL x y mo r (out ++ [e])) (rngL x y mo r out))) (rngL x y mo r out)))
      (cond (!Op.bytesLess e.1 x) (cond (decide (y = [])) (rngL x y mo r (out ++ [e])) (cond (Op.bytesLess e.1 y) (rngL x y mo r (out ++ [e])) (rngL x y mo r out))) (rngL x y mo r out))
def b51 : CC := lp (bl (at3 (fl (at3 (at3 c51.body)))))
def P51 (j n : Nat) (full : List Ent) (n' z : Int) (out : List Ent) : Bool := decide (n' = n ∧ j + n ≤ full.length ∧ n < 99 ∧ 0 ≤ z ∧ z ≤ n ∧ (out.length : Int) ≤ z)
def S51 (j n : Nat) (full : List Ent) (z : Int) (x y : List UInt8) (mo : Int) (out : List Ent) : List Ent := rngL x y mo ((seg full j n).drop z.toNat) out
def lt51 (x0 y0 : List UInt8) (mo : Int) (m j n c : Nat) (ex : Bool) (n' z : Int) (full out : List Ent) (sp : Bool) (el : R.EL) : LT := .need (Nat.beq m out.length && P51 j n full n' z out) (.exit 0 [.ns 1 (S51 j n full z x0 y0 mo out).length 2] [.r .ent full sp el, .rn .ent (S51 j n full z x0 y0 mo out) 41])
def ld51 : LoopD := ⟨[(1, none), (2, none), (3, none), (9, some (.ent, 41)), (12, none), (13, none), (14, none)], [(9, some (.ent, 41))], [], fun vs ao => match vs, ao with
  | [.str x, .str y, .int .i64 mo, .ns 1 m 2, .rs 0 j n c 2 ex, .int .i64 n', .int .i64 z], [.r .ent full sp el, .rn .ent out 41] => some (n - z.toNat, lt51 x y mo m j n c ex n' z full out sp el)
  | _, _ => none⟩
def tail51 (j n : Nat) (full : List Ent) (x0 y0 : List UInt8) (mo n' z : Int) (out : List Ent) (sp : Bool) (el : R.EL) (m : Nat) (k1 : R.EK) : Option (R.DV × R.DH) :=
    cond (!Op.bytesLess (Prod.fst (List.getD full (j + Int.toNat z) (RK.zero RK.ent))) x0) (cond (decide (y0 = [])) (cond (Nat.ble (List.length out) (List.length out)) (cond (roomFor (List.length out + List.length (List.take 1 (List.drop 0 [(Prod.fst (List.getD full (j + Int.toNat z) (RK.zero RK.ent)), Prod.snd (List.getD full (j + Int.toNat z) (RK.zero RK.ent)))]))) 32) (cond (decide (List.length out + List.length (List.take 1 (List.drop 0 [(Prod.fst (List.getD full (j + Int.toNat z) (RK.zero RK.ent)), Prod.snd (List.getD full (j + Int.toNat z) (RK.zero RK.ent)))])) = List.length (List.take (List.length out) out ++ List.take 1 (List.drop 0 [(Prod.fst (List.getD full (j + Int.toNat z) (RK.zero RK.ent)), Prod.snd (List.getD full (j + Int.toNat z) (RK.zero RK.ent)))]))) && (decide (List.length out + List.length (List.take 1 (List.drop 0 [(Prod.fst (List.getD full (j + Int.toNat z) (RK.zero RK.ent)), Prod.snd (List.getD full (j + Int.toNat z) (RK.zero RK.ent)))])) = List.length out + List.length (List.take 1 (List.drop 0 [(Prod.fst (List.getD full (j + Int.toNat z) (RK.zero RK.ent)), Prod.snd (List.getD full (j + Int.toNat z) (RK.zero RK.ent)))]))) && true)) (cond (decide (n - Int.toNat (IntKind.wrap IntKind.i64 (z + 1)) < m)) (cond (Nat.beq (List.length out + List.length (List.take 1 (List.drop 0 [(Prod.fst (List.getD full (j + Int.toNat z) (RK.zero RK.ent)), Prod.snd (List.getD full (j + Int.toNat z) (RK.zero RK.ent)))]))) (List.length (List.take (List.length out) out ++ List.take 1 (List.drop 0 [(Prod.fst (List.getD full (j + Int.toNat z) (RK.zero RK.ent)), Prod.snd (List.getD full (j + Int.toNat z) (RK.zero RK.ent)))]))) && P51 j n full n' (IntKind.wrap IntKind.i64 (z + 1)) (List.take (List.length out) out ++ List.take 1 (List.drop 0 [(Prod.fst (List.getD full (j + Int.toNat z) (RK.zero RK.ent)), Prod.snd (List.getD full (j + Int.toNat z) (RK.zero RK.ent)))]))) ((k1 (envZ [9] [DV.ns 1 (List.length (S51 j n full (IntKind.wrap IntKind.i64 (z + 1)) x0 y0 mo (List.take (List.length out) out ++ List.take 1 (List.drop 0 [(Prod.fst (List.getD full (j + Int.toNat z) (RK.zero RK.ent)), Prod.snd (List.getD full (j + Int.toNat z) (RK.zero RK.ent)))])))) 2]) (mkD [DO.r RK.ent full sp el, DO.rn RK.ent (S51 j n full (IntKind.wrap IntKind.i64 (z + 1)) x0 y0 mo (List.take (List.length out) out ++ List.take 1 (List.drop 0 [(Prod.fst (List.getD full (j + Int.toNat z) (RK.zero RK.ent)), Prod.snd (List.getD full (j + Int.toNat z) (RK.zero RK.ent)))]))) 41] 1)).ev) none) none) none) none) none) (cond (Op.bytesLess (Prod.fst (List.getD full (j + Int.toNat z) (RK.zero RK.ent))) y0) (cond (Nat.ble (List.length out) (List.length out)) (cond (roomFor (List.length out + List.length (List.take 1 (List.drop 0 [(Prod.fst (List.getD full (j + Int.toNat z) (RK.zero RK.ent)), Prod.snd (List.getD full (j + Int.toNat z) (RK.zero RK.ent)))]))) 32) (cond (decide (List.length out + List.length (List.take 1 (List.drop 0 [(Prod.fst (List.getD full (j + Int.toNat z) (RK.zero RK.ent)), Prod.snd (List.getD full (j + Int.toNat z) (RK.zero RK.ent)))])) = List.length (List.take (List.length out) out ++ List.take 1 (List.drop 0 [(Prod.fst (List.getD full (j + Int.toNat z) (RK.zero RK.ent)), Prod.snd (List.getD full (j + Int.toNat z) (RK.zero RK.ent)))]))) && (decide (List.length out + List.length (List.take 1 (List.drop 0 [(Prod.fst (List.getD full (j + Int.toNat z) (RK.zero RK.ent)), Prod.snd (List.getD full (j + Int.toNat z) (RK.zero RK.ent)))])) = List.length out + List.length (List.take 1 (List.drop 0 [(Prod.fst (List.getD full (j + Int.toNat z) (RK.zero RK.ent)), Prod.snd (List.getD full (j + Int.toNat z) (RK.zero RK.ent)))]))) && true)) (cond (decide (n - Int.toNat (IntKind.wrap IntKind.i64 (z + 1)) < m)) (cond (Nat.beq (List.length out + List.length (List.take 1 (List.drop 0 [(Prod.fst (List.getD full (j + Int.toNat z) (RK.zero RK.ent)), Prod.snd (List.getD full (j + Int.toNat z) (RK.zero RK.ent)))]))) (List.length (List.take (List.length out) out ++ List.take 1 (List.drop 0 [(Prod.fst (List.getD full (j + Int.toNat z) (RK.zero RK.ent)), Prod.snd (List.getD full (j + Int.toNat z) (RK.zero RK.ent)))]))) && P51 j n full n' (IntKind.wrap IntKind.i64 (z + 1)) (List.take (List.length out) out ++ List.take 1 (List.drop 0 [(Prod.fst (List.getD full (j + Int.toNat z) (RK.zero RK.ent)), Prod.snd (List.getD full (j + Int.toNat z) (RK.zero RK.ent)))]))) ((k1 (envZ [9] [DV.ns 1 (List.length (S51 j n full (IntKind.wrap IntKind.i64 (z + 1)) x0 y0 mo (List.take (List.length out) out ++ List.take 1 (List.drop 0 [(Prod.fst (List.getD full (j + Int.toNat z) (RK.zero RK.ent)), Prod.snd (List.getD full (j + Int.toNat z) (RK.zero RK.ent)))])))) 2]) (mkD [DO.r RK.ent full sp el, DO.rn RK.ent (S51 j n full (IntKind.wrap IntKind.i64 (z + 1)) x0 y0 mo (List.take (List.length out) out ++ List.take 1 (List.drop 0 [(Prod.fst (List.getD full (j + Int.toNat z) (RK.zero RK.ent)), Prod.snd (List.getD full (j + Int.toNat z) (RK.zero RK.ent)))]))) 41] 1)).ev) none) none) none) none) none) (cond (decide (n - Int.toNat (IntKind.wrap IntKind.i64 (z + 1)) < m)) (cond (Nat.beq (List.length out) (List.length out) && P51 j n full n' (IntKind.wrap IntKind.i64 (z + 1)) out) ((k1 (envZ [9] [DV.ns 1 (List.length (S51 j n full (IntKind.wrap IntKind.i64 (z + 1)) x0 y0 mo out)) 2]) (mkD [DO.r RK.ent full sp el, DO.rn RK.ent (S51 j n full (IntKind.wrap IntKind.i64 (z + 1)) x0 y0 mo out) 41] 1)).ev) none) none))) (cond (decide (n - Int.toNat (IntKind.wrap IntKind.i64 (z + 1)) < m)) (cond (Nat.beq (List.length out) (List.length out) && P51 j n full n' (IntKind.wrap IntKind.i64 (z + 1)) out) ((k1 (envZ [9] [DV.ns 1 (List.length (S51 j n full (IntKind.wrap IntKind.i64 (z + 1)) x0 y0 mo out)) 2]) (mkD [DO.r RK.ent full sp el, DO.rn RK.ent (S51 j n full (IntKind.wrap IntKind.i64 (z + 1)) x0 y0 mo out) 41] 1)).ev) none) none)
theorem turn51 (j n c : Nat) (ex : Bool) (x0 y0 : List UInt8) (mo n' z : Int) (full out : List Ent) (sp : Bool) (el : R.EL) (m : Nat) (rd k1 : R.EK) (y : List (Nat × R.EK)) :
    (turnD C Y0 (fun _ => none) 100 46 1 0 b51 ld51 m [.str x0, .str y0, .int .i64 mo, .ns 1 out.length 2, .rs 0 j n c 2 ex, .int .i64 n', .int .i64 z] [.r .ent full sp el, .rn .ent out 41] rd k1 y).ev =
    cond (decide (z < n')) (cond (decide (0 ≤ z) && decide (Int.toNat z < n)) (cond (Nat.blt (j + Int.toNat z) (List.length full)) (cond (decide (0 < mo)) (cond (Nat.ble (List.length out) (List.length out)) (cond (decide ((↑(List.length out) : Int) = mo)) ((k1 (envZ [9] [DV.ns 1 (List.length out) 2]) (mkD [DO.r RK.ent full sp el, DO.rn RK.ent out 41] 1)).ev) (tail51 j n full x0 y0 mo n' z out sp el m k1)) none) (tail51 j n full x0 y0 mo n' z out sp el m k1)) none) none) ((k1 (envZ [9] [DV.ns 1 (List.length out) 2]) (mkD [DO.r RK.ent full sp el, DO.rn RK.ent out 41] 1)).ev) := by kernel_rfl
theorem tail51_eq {j n : Nat} {full : List Ent} {x0 y0 : List UInt8} {mo z : Int} {out : List Ent} {sp : Bool} {el : R.EL} {k1 : R.EK} (p1 : j + n ≤ full.length) (p2 : n < 99) (p3 : 0 ≤ z) (p4 : z < n) (p5 : (out.length : Int) ≤ z) :
    tail51 j n full x0 y0 mo n z out sp el (n - z.toNat) k1 = cond (!Op.bytesLess (rec full j z).1 x0) (cond (decide (y0 = [])) (k1 (envZ [9] [.ns 1 (S51 j n full (z + 1) x0 y0 mo (out ++ [rec full j z])).length 2]) (mkD [.r .ent full sp el, .rn .ent (S51 j n full (z + 1) x0 y0 mo (out ++ [rec full j z])) 41] 1)).ev
      (cond (Op.bytesLess (rec full j z).1 y0) (k1 (envZ [9] [.ns 1 (S51 j n full (z + 1) x0 y0 mo (out ++ [rec full j z])).length 2]) (mkD [.r .ent full sp el, .rn .ent (S51 j n full (z + 1) x0 y0 mo (out ++ [rec full j z])) 41] 1)).ev
        (k1 (envZ [9] [.ns 1 (S51 j n full (z + 1) x0 y0 mo out).length 2]) (mkD [.r .ent full sp el, .rn .ent (S51 j n full (z + 1) x0 y0 mo out) 41] 1)).ev))
      (k1 (envZ [9] [.ns 1 (S51 j n full (z + 1) x0 y0 mo out).length 2]) (mkD [.r .ent full sp el, .rn .ent (S51 j n full (z + 1) x0 y0 mo out) 41] 1)).ev := by
  unfold tail51
  have t0 : (List.getD full (j + Int.toNat z) (RK.zero RK.ent) : Ent) = rec full j z := rfl
  have t1 : List.take out.length out = out := List.take_length
  have t2 : ∀ p : Ent, List.take 1 (List.drop 0 [p]) = [p] := fun _ => rfl
  have t3 : ((rec full j z).1, (rec full j z).2) = rec full j z := rfl
  have hble : Nat.ble out.length out.length = true := Nat.ble_eq_true_of_le (Nat.le_refl _)
  have hroom : roomFor (out.length + 1) 32 = true := room_small (by omega)
  have hm : decide (n - (z + 1).toNat < n - z.toNat) = true := decide_eq_true (by omega)
  have hne : decide (out.length + 1 = 0) = false := rfl
  have hb1 : Nat.beq (out.length + 1) (out.length + 1) = true := Nat.beq_refl _
  have hb0 : Nat.beq out.length out.length = true := Nat.beq_refl _
  have hP1 : P51 j n full n (z + 1) (out ++ [rec full j z]) = true := by
    simp only [P51, decide_eq_true_eq]
    refine ⟨trivial, p1, p2, ?_, ?_, ?_⟩ <;> first | omega | (rw [List.length_append]; simp; omega)
  have hP0 : P51 j n full n (z + 1) out = true := by
    simp only [P51, decide_eq_true_eq]
    refine ⟨trivial, p1, p2, ?_, ?_, ?_⟩ <;> omega
  simp only [nextI p3 p4 (show n < 9223372036854775808 by omega), t0, t1, t2, t3, List.length_append, List.length_cons, List.length_nil, Nat.zero_add, hble, hroom, hm, hne, hb1, hb0, hP1, hP0, decide_true, Bool.true_and, Bool.and_true, Bool.not_false, cond_true]
theorem step51 (x0 y0 : List UInt8) (mo : Int) (j n c : Nat) (ex : Bool) (n' z : Int) (full out : List Ent) (sp : Bool) (el : R.EL) (rd k1 : R.EK) (y : List (Nat × R.EK)) (w : R.DV × R.DH) (hw : ((lt51 x0 y0 mo out.length j n c ex n' z full out sp el).tree 1 ld51 rd ((0, k1) :: y)).ev = some w) :
    (turnD C Y0 (fun _ => none) 100 46 1 0 b51 ld51 (n - z.toNat) [.str x0, .str y0, .int .i64 mo, .ns 1 out.length 2, .rs 0 j n c 2 ex, .int .i64 n', .int .i64 z] [.r .ent full sp el, .rn .ent out 41] rd k1 y).ev = some w := by
  replace hw := lt_need hw
  obtain ⟨hp, hw⟩ := hw
  have hb0 : Nat.beq out.length out.length = true := Nat.beq_refl _
  have hble : Nat.ble out.length out.length = true := Nat.ble_eq_true_of_le (Nat.le_refl _)
  rw [hb0] at hp
  simp only [Bool.true_and, P51, decide_eq_true_eq] at hp
  obtain ⟨rfl, p1, p2, p3, p4, p5⟩ := hp
  replace hw : (k1 (envZ [9] [.ns 1 (S51 j n full z x0 y0 mo out).length 2]) (mkD [.r .ent full sp el, .rn .ent (S51 j n full z x0 y0 mo out) 41] 1)).ev = some w := hw
  rw [turn51]
  by_cases h1 : z < n
  · rw [cT h1, cA p3 (show z.toNat < n by omega), cB (show j + z.toNat < full.length by omega), tail51_eq p1 p2 p3 h1 p5, hble]
    have e5 : S51 j n full z x0 y0 mo out = cond (decide (0 < mo)) (cond (decide ((out.length : Int) = mo)) out (cond (!Op.bytesLess (rec full j z).1 x0) (cond (decide (y0 = [])) (S51 j n full (z + 1) x0 y0 mo (out ++ [rec full j z])) (cond (Op.bytesLess (rec full j z).1 y0) (S51 j n full (z + 1) x0 y0 mo (out ++ [rec full j z])) (S51 j n full (z + 1) x0 y0 mo out))) (S51 j n full (z + 1) x0 y0 mo out)))
      (cond (!Op.bytesLess (rec full j z).1 x0) (cond (decide (y0 = [])) (S51 j n full (z + 1) x0 y0 mo (out ++ [rec full j z])) (cond (Op.bytesLess (rec full j z).1 y0) (S51 j n full (z + 1) x0 y0 mo (out ++ [rec full j z])) (S51 j n full (z + 1) x0 y0 mo out))) (S51 j n full (z + 1) x0 y0 mo out)) := by
      unfold S51
      rw [seg_drop p1 p3 h1]; rfl
    rw [e5] at hw
    revert hw
    cases decide (0 < mo) <;> cases decide ((out.length : Int) = mo) <;> cases Op.bytesLess (rec full j z).1 x0 <;> cases decide (y0 = []) <;> cases Op.bytesLess (rec full j z).1 y0 <;> exact id
  · rw [cF h1]
    have e5 : S51 j n full z x0 y0 mo out = out := by
      unfold S51
      rw [seg_end p1 h1 p3]; rfl
    rw [e5] at hw
    exact hw
theorem loop51 {n : Nat} (hn : 100 ≤ n) : LoopOk C.G 1 (callO noTmps C.O C.tab n) n 100 46 0 b51 ld51 := by
  refine loop_of C Y0 (lh := fun _ => none) hn ?_ (fun p _ ld h => by cases h) ?_
  · exact wf_lp (wf_bl (wf_at3 (wf_fl (wf_at3 (wf_at3 (wf_body (f := 51) rfl))))))
  intro vs ao m t hs rd k1 y w hw
  unfold ld51 at hs
  simp only at hs
  split at hs
  case h_2 => cases hs
  cases hs
  have hp := (lt_need hw).1
  simp only [Bool.and_eq_true] at hp
  obtain ⟨h1, _⟩ := hp
  have h1 := Nat.eq_of_beq_eq_true h1
  subst h1
  exact step51 _ _ _ _ _ _ _ _ _ _ _ _ _ _ _ _ _ hw
/-- the entries of a range -/
def rngB (x y : List UInt8) (mo : Int) (l : List Ent) : List Ent := rngL x y mo l []
def out51 (full : List Ent) (j n : Nat) (x y : List UInt8) (mo : Int) : RD := .need (okN full j n) (.v (.ns 1 (rngB x y mo (seg full j n)).length 2) [.rn .ent (rngB x y mo (seg full j n)) 41])
def out51b (full : List Ent) (j n : Nat) (x y : List UInt8) (mo : Int) : RD := .need (okN full j n) (.br (Nat.beq (rngB x y mo (seg full j n)).length 0) (.v .nils []) (.v (.rs 1 0 (rngB x y mo (seg full j n)).length (rngB x y mo (seg full j n)).length 2 false) [.r .ent (rngB x y mo (seg full j n)) true 41]))
theorem run51 (j n c : Nat) (ex : Bool) (x0 y0 : List UInt8) (mo : Int) (full : List Ent) (sp : Bool) (el : R.EL) : runD C Y0 (lhX ld51) 100 c51 [.rs 0 j n c 2 ex, .str x0, .str y0, .int .i64 mo] [.r .ent full sp el] =
    cond (decide (n - 0 < 100)) (cond (P51 j n full (↑n : Int) 0 []) (some (DV.ns 1 (List.length (S51 j n full 0 x0 y0 mo [])) 2, (mkD [DO.r RK.ent full sp el, DO.rn RK.ent (S51 j n full 0 x0 y0 mo []) 41] 1))) none) none := by kernel_rfl
theorem law51a (j n c : Nat) (ex : Bool) (x0 y0 : List UInt8) (mo : Int) (full : List Ent) (sp : Bool) (el : R.EL) : LawOk C.G C.O C.tab 51 101 [.r .ent full sp el] [.rs 0 j n c 2 ex, .str x0, .str y0, .int .i64 mo] (out51 full j n x0 y0 mo) := by
  refine law_of C Y0 (lhX ld51) rfl rfl (fun n hn => lhX_ok (Q := fun i b ld => LoopOk C.G 1 (callO noTmps C.O C.tab n) n 100 46 i b ld) rfl (loop51 hn)) fun z hz => ?_
  obtain ⟨hp, hz⟩ := R.ev_need hz
  refine (run51 j n c ex x0 y0 mo full sp el).trans ?_
  obtain ⟨p1, p2⟩ := okN_iff.1 hp
  have e4 : P51 j n full n 0 [] = true := by
    simp only [P51, decide_eq_true_eq]
    refine ⟨trivial, p1, p2, ?_, ?_, ?_⟩ <;> first | omega | simp
  rw [e4, cT (show n - 0 < 100 by omega)]
  exact Eq.trans rfl hz
theorem law51 (j n c : Nat) (ex : Bool) (x0 y0 : List UInt8) (mo : Int) (full : List Ent) (sp : Bool) (el : R.EL) : LawOk C.G C.O C.tab 51 101 [.r .ent full sp el] [.rs 0 j n c 2 ex, .str x0, .str y0, .int .i64 mo] (out51b full j n x0 y0 mo) :=
  law_ns (ao := [.r .ent full sp el]) (k := .ent) (r := rngB x0 y0 mo (seg full j n)) (el := 41) (law51a j n c ex x0 y0 mo full sp el)
theorem law51n (x0 y0 : List UInt8) (mo : Int) : LawOk C.G C.O C.tab 51 101 [] [.nils, .str x0, .str y0, .int .i64 mo] (.v .nils []) := by
  refine law_of C Y0 (fun _ => none) rfl rfl (fun n hn p _ ld e => by cases e) fun z hz => ?_
  refine Eq.trans ?_ hz
  kernel_rfl
end
end Go.Vm.YtkjjpmbpjfmbcaaGreatDoor
