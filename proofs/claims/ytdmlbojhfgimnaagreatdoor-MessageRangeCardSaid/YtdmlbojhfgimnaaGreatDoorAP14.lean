/-
  What a patch makes of a value, as the program tells it.
-/
import Derived.Test.YtdmlbojhfgimnaaGreatDoorAP13
set_option linter.unusedVariables false
set_option linter.unusedSimpArgs false
namespace Go.Vm.YtdmlbojhfgimnaaGreatDoor
open Go.Proofs
noncomputable section
set_option maxRecDepth 10000 in
theorem tPat (F : AFn) (hF : F = F0) (op : Int) (k t w v : Txt) (th : Bool) : treeOf (lawsF1 F hF) tab [45] 4 200 45 [.agg [.int .i64 op, .str k, .str t, .str w], .str v, .bool th] =
    cond (true && decide (0 < (↑(List.length k) : Int))) (cond (decide ((↑(UInt8.toNat (List.getD k 0 0)) : Int) = 100)) (cond (decide (List.length v < 4611686018427387904)) (some (DV.tup [DV.str (AFn.bd F v (Prod.fst (AFn.p F w)) (Prod.fst (Prod.snd (AFn.p F w))) (Prod.fst (Prod.snd (Prod.snd (AFn.p F w)))) (Prod.fst (Prod.snd (Prod.snd (Prod.snd (AFn.p F w)))))), DV.bool !decide (AFn.bd F v (Prod.fst (AFn.p F w)) (Prod.fst (Prod.snd (AFn.p F w))) (Prod.fst (Prod.snd (Prod.snd (AFn.p F w)))) (Prod.fst (Prod.snd (Prod.snd (Prod.snd (AFn.p F w))))) = [])])) none) (cond (!th) (some (DV.tup [DV.str v, DV.bool th])) (cond (!decide (Prod.snd (Prod.snd (Prod.snd (Prod.snd (AFn.m F v)))) = 0)) (some (DV.tup [DV.str v, DV.bool th])) (cond (small (Prod.fst (Prod.snd (Prod.snd (AFn.m F v)))) && small (Prod.fst (Prod.snd (Prod.snd (Prod.snd (AFn.c F w)))))) (cond (putOk (Prod.fst (AFn.m F v)) (AFn.zf F (Int.ofNat (Prod.fst (AFn.m F v))) (Prod.fst (Prod.snd (AFn.m F v))) (Prod.fst (Prod.snd (Prod.snd (AFn.m F v)))) (Prod.fst (Prod.snd (Prod.snd (Prod.snd (AFn.m F v))))) (Prod.fst (AFn.c F w)) (Prod.fst (Prod.snd (AFn.c F w))) (Prod.fst (Prod.snd (Prod.snd (AFn.c F w)))) (Prod.fst (Prod.snd (Prod.snd (Prod.snd (AFn.c F w)))))) (AFn.mf F (Int.ofNat (Prod.fst (AFn.m F v))) (Prod.fst (Prod.snd (AFn.m F v))) (Prod.fst (Prod.snd (Prod.snd (AFn.m F v)))) (Prod.fst (Prod.snd (Prod.snd (Prod.snd (AFn.m F v))))) (Prod.fst (AFn.c F w)) (Prod.fst (Prod.snd (AFn.c F w))) (Prod.fst (Prod.snd (Prod.snd (AFn.c F w)))) (Prod.fst (Prod.snd (Prod.snd (Prod.snd (AFn.c F w)))))) (AFn.tf F (Int.ofNat (Prod.fst (AFn.m F v))) (Prod.fst (Prod.snd (AFn.m F v))) (Prod.fst (Prod.snd (Prod.snd (AFn.m F v)))) (Prod.fst (Prod.snd (Prod.snd (Prod.snd (AFn.m F v))))) (Prod.fst (AFn.c F w)) (Prod.fst (Prod.snd (AFn.c F w))) (Prod.fst (Prod.snd (Prod.snd (AFn.c F w)))) (Prod.fst (Prod.snd (Prod.snd (Prod.snd (AFn.c F w))))))) (cond (AFn.mm F (Int.ofNat (Prod.fst (AFn.m F v))) (AFn.zf F (Int.ofNat (Prod.fst (AFn.m F v))) (Prod.fst (Prod.snd (AFn.m F v))) (Prod.fst (Prod.snd (Prod.snd (AFn.m F v)))) (Prod.fst (Prod.snd (Prod.snd (Prod.snd (AFn.m F v))))) (Prod.fst (AFn.c F w)) (Prod.fst (Prod.snd (AFn.c F w))) (Prod.fst (Prod.snd (Prod.snd (AFn.c F w)))) (Prod.fst (Prod.snd (Prod.snd (Prod.snd (AFn.c F w)))))) (AFn.mf F (Int.ofNat (Prod.fst (AFn.m F v))) (Prod.fst (Prod.snd (AFn.m F v))) (Prod.fst (Prod.snd (Prod.snd (AFn.m F v)))) (Prod.fst (Prod.snd (Prod.snd (Prod.snd (AFn.m F v))))) (Prod.fst (AFn.c F w)) (Prod.fst (Prod.snd (AFn.c F w))) (Prod.fst (Prod.snd (Prod.snd (AFn.c F w)))) (Prod.fst (Prod.snd (Prod.snd (Prod.snd (AFn.c F w))))))) (some (DV.tup [DV.str (AFn.ms F (Prod.fst (AFn.m F v)) (AFn.zf F (Int.ofNat (Prod.fst (AFn.m F v))) (Prod.fst (Prod.snd (AFn.m F v))) (Prod.fst (Prod.snd (Prod.snd (AFn.m F v)))) (Prod.fst (Prod.snd (Prod.snd (Prod.snd (AFn.m F v))))) (Prod.fst (AFn.c F w)) (Prod.fst (Prod.snd (AFn.c F w))) (Prod.fst (Prod.snd (Prod.snd (AFn.c F w)))) (Prod.fst (Prod.snd (Prod.snd (Prod.snd (AFn.c F w)))))) (AFn.mf F (Int.ofNat (Prod.fst (AFn.m F v))) (Prod.fst (Prod.snd (AFn.m F v))) (Prod.fst (Prod.snd (Prod.snd (AFn.m F v)))) (Prod.fst (Prod.snd (Prod.snd (Prod.snd (AFn.m F v))))) (Prod.fst (AFn.c F w)) (Prod.fst (Prod.snd (AFn.c F w))) (Prod.fst (Prod.snd (Prod.snd (AFn.c F w)))) (Prod.fst (Prod.snd (Prod.snd (Prod.snd (AFn.c F w)))))) (AFn.tf F (Int.ofNat (Prod.fst (AFn.m F v))) (Prod.fst (Prod.snd (AFn.m F v))) (Prod.fst (Prod.snd (Prod.snd (AFn.m F v)))) (Prod.fst (Prod.snd (Prod.snd (Prod.snd (AFn.m F v))))) (Prod.fst (AFn.c F w)) (Prod.fst (Prod.snd (AFn.c F w))) (Prod.fst (Prod.snd (Prod.snd (AFn.c F w)))) (Prod.fst (Prod.snd (Prod.snd (Prod.snd (AFn.c F w))))))), DV.bool true])) (some (DV.tup [DV.str [], DV.bool true]))) none) none)))) none := by kernel_rfl
abbrev M5 := Nat × Nat × Nat × Nat × Int
abbrev C5 := Int × Nat × Int × Nat × Int
def zV (m : M5) (c : C5) : Nat := zA (.ofNat m.1) m.2.1 m.2.2.1 m.2.2.2.1 c.1 c.2.1 c.2.2.1 c.2.2.2.1
def mkV (m : M5) (c : C5) : Nat := mA (.ofNat m.1) m.2.1 m.2.2.1 m.2.2.2.1 c.1 c.2.1 c.2.2.1 c.2.2.2.1
def tV (m : M5) (c : C5) : Nat := tA (.ofNat m.1) m.2.1 m.2.2.1 m.2.2.2.1 c.1 c.2.1 c.2.2.1 c.2.2.2.1
/-- a record's text behind a change -/
def metaDo (m : M5) (c : C5) : Txt := cond (mM (.ofNat m.1) (zV m c) (mkV m c)) (metaS m.1 (zV m c) (mkV m c) (tV m c)) []
theorem zA_lt {k : Int} {z m t : Nat} {w : Int} {n : Nat} {op : Int} {y : Nat} (h : z < 4294967296) : zA k z m t w n op y < 4294967296 := by
  unfold zA
  cases hm : mM k z m with
  | false => exact h
  | true =>
    cases hc : cM w (Int.ofNat n) op y with
    | false => exact h
    | true =>
      have e : (decide (w = 1) || decide (w = 2)) = true → n ≤ 2048 := fun hw => by
        unfold cM at hc
        rw [hw] at hc
        simp only [cond_true, Bool.and_eq_true, decide_eq_true_eq] at hc
        have h3 : (n : Int) ≤ 2048 := hc.1
        omega
      simp only [Bool.and_self, cond_true]
      by_cases w1 : w = 1
      · subst w1
        have := e rfl
        cases decide (k = 1) <;> cases decide (z < n) <;> simp <;> omega
      · rw [decide_eq_false w1]
        by_cases w2 : w = 2
        · subst w2
          have := e rfl
          cases decide (k = 1) <;> simp <;> omega
        · rw [decide_eq_false w2]; exact h
theorem mA_lt {k : Int} {z m t : Nat} {w : Int} {n : Nat} {op : Int} {y : Nat} (h : m < 18446744073709551616) (hy : y < 18446744073709551616) : mA k z m t w n op y < 18446744073709551616 := by
  have := step_lt (op := op) h hy
  unfold mA
  cases (mM k z m && cM w (Int.ofNat n) op y)
  · exact h
  · cases decide (w = 3)
    · exact h
    · exact this
theorem tA_lt {k : Int} {z m t : Nat} {w : Int} {n : Nat} {op : Int} {y : Nat} (h : t < 18446744073709551616) (hn : n < 18446744073709551616) : tA k z m t w n op y < 18446744073709551616 := by
  unfold tA
  cases (mM k z m && cM w (Int.ofNat n) op y)
  · exact h
  · cases decide (w = 4)
    · exact h
    · exact hn
theorem change_n (s : Txt) : (getC (changeD s).val).2.1 < 18446744073709551616 := by
  unfold changeD
  simp only [PD.val_br, PD.val_v, cond_dec]
  have h8 := num_lt1 (s.drop 1) 8
  have h4 : numOf ((s.drop 1).take 4) < 18446744073709551616 := Nat.lt_of_lt_of_le (num_lt1 (s.drop 1) 4) (by decide)
  have h0 : 0 < 18446744073709551616 := by decide
  repeat' first | exact h0 | exact h8 | exact h4 | split
def mOf (v : Txt) : M5 := getM (metaD v).val
def cOf (w : Txt) : C5 := getC (changeD w).val
def pOf (w : Txt) : Bool × Int × Int × Txt × Int := getP (patchD w).val
theorem put_ok (v w : Txt) : (small (mOf v).2.2.1 && small (cOf w).2.2.2.1) = true ∧ putOk (mOf v).1 (zV (mOf v) (cOf w)) (mkV (mOf v) (cOf w)) (tV (mOf v) (cOf w)) = true := by
  obtain ⟨h1, h2, h3, h4⟩ := (meta_form v).2
  have h5 := (change_form w).2
  have h6 := change_n w
  refine ⟨by rw [Bool.and_eq_true]; exact ⟨sm h3, sm h5⟩, ?_⟩
  unfold putOk
  rw [Bool.and_eq_true, Bool.and_eq_true, Bool.and_eq_true]
  exact ⟨decide_eq_true h1, decide_eq_true (zA_lt h2), sm (mA_lt h3 h5), sm (tA_lt h4 h6)⟩
/-- what a patch w makes of a key's value v -/
def blkDo (v w : Txt) : Txt := blockDo v (pOf w).1 (pOf w).2.1 (pOf w).2.2.1 (pOf w).2.2.2.1
def patchDo (k w v : Txt) (th : Bool) : Txt × Bool := cond (decide ((((k.getD 0 0).toNat : Nat) : Int) = 100)) (blkDo v w, !decide (blkDo v w = []))
  (cond (!th) (v, th) (cond (!decide ((mOf v).2.2.2.2 = 0)) (v, th) (metaDo (mOf v) (cOf w), true)))
def tbV (p : Txt × Bool) : DV := .tup [.str p.1, .bool p.2]
theorem some_tb {c : Bool} {a b : Txt × Bool} : cond c (some (tbV a)) (some (tbV b)) = some (tbV (cond c a b)) := by cases c <;> rfl
theorem lawP77 (op : Int) (k t w v : Txt) (th : Bool) (hk : 0 < k.length) (hv : v.length < 4611686018427387904) : treeOf (lawsF1 F0 rfl) tab [45] 4 200 45 [.agg [.int .i64 op, .str k, .str t, .str w], .str v, .bool th] = some (tbV (patchDo k w v th)) := by
  rw [tPat]
  obtain ⟨q1, q2⟩ := put_ok v w
  have e0 : (true && decide (0 < (k.length : Int))) = true := by rw [decide_eq_true (by omega)]; rfl
  rw [e0, decide_eq_true hv]
  show cond true (cond (decide ((((k.getD 0 0).toNat : Nat) : Int) = 100)) (some (tbV (blkDo v w, !decide (blkDo v w = [])))) (cond (!th) (some (tbV (v, th))) (cond (!decide ((mOf v).2.2.2.2 = 0)) (some (tbV (v, th)))
    (cond (small (mOf v).2.2.1 && small (cOf w).2.2.2.1) (cond (putOk (mOf v).1 (zV (mOf v) (cOf w)) (mkV (mOf v) (cOf w)) (tV (mOf v) (cOf w))) (cond (mM (.ofNat (mOf v).1) (zV (mOf v) (cOf w)) (mkV (mOf v) (cOf w))) (some (tbV (metaS (mOf v).1 (zV (mOf v) (cOf w)) (mkV (mOf v) (cOf w)) (tV (mOf v) (cOf w)), true))) (some (tbV ([], true)))) none) none)))) none = _
  rw [q1, q2, some_tb]
  simp only [cond_true, some_tb]
  unfold patchDo metaDo
  cases decide ((((k.getD 0 0).toNat : Nat) : Int) = 100) <;> cases th <;> cases decide ((mOf v).2.2.2.2 = 0) <;> cases mM (.ofNat (mOf v).1) (zV (mOf v) (cOf w)) (mkV (mOf v) (cOf w)) <;> rfl
abbrev PF := Txt → Txt → Txt → Bool → Txt × Bool
def patD (pf : PF) (k w v : Txt) (th : Bool) : PD := .need (decide (0 < k.length) && decide (v.length < 4611686018427387904)) (.v (tbV (pf k w v th)))
def g77 (pf : PF) : List DV → Option PD := fun l => match l with
  | [.agg [.int .i64 op, .str k, .str t, .str w], .str v, .bool th] => some (patD pf k w v th)
  | _ => none
theorem dec_77 (op : Int) (k t w v : Txt) (th : Bool) : ofVs (toVs [.agg [.int .i64 op, .str k, .str t, .str w], .str v, .bool th]) = some [.agg [.int .i64 op, .str k, .str t, .str w], .str v, .bool th] := by
  simp only [toVs, toV, ofVs, ofV, ofV_sv]
theorem g77_ok (pf : PF) (h : pf = patchDo) : ∀ l d, g77 pf l = some d → d.ok = true → PlainCall Tryz.prog [] 45 (toVs l) (toV d.val) ∧ ofVs (toVs l) = some l := by
  intro l d hg hk
  subst h
  unfold g77 at hg
  split at hg
  · cases hg
    unfold patD at hk
    simp only [PD.ok_need, PD.ok_v, Bool.and_true, Bool.and_eq_true] at hk
    exact ⟨plain_by _ tab_ok globals4 (by kernel_rfl) (lawP77 _ _ _ _ _ _ (of_decide_eq_true hk.1) (of_decide_eq_true hk.2)) ⟨⟨trivial, trivial, trivial, trivial, trivial⟩, trivial, trivial, trivial⟩ ⟨trivial, trivial, trivial⟩, dec_77 _ _ _ _ _ _⟩
  · cases hg
def lawsF2 (pf : PF) (h : pf = patchDo) : Laws Tryz.prog := (lawsF1 F0 rfl).add 45 (g77 pf) (g77_ok pf h)
end
end Go.Vm.YtdmlbojhfgimnaaGreatDoor
