/-
  The law MessageRange, as a plain call.
-/
import Derived.Test.YtdmlbojhfgimnaaGreatDoorRNGC
set_option linter.unusedVariables false
set_option linter.unusedSimpArgs false
namespace Go.Vm.YtdmlbojhfgimnaaGreatDoor
open Go.Proofs Go.Vm.R
noncomputable section
set_option maxRecDepth 10000
abbrev yes : Option (R.DV × R.DH) := some (R.DV.bool true, mkD [] 0)
abbrev no : Option (R.DV × R.DH) := some (R.DV.bool false, mkD [] 0)
abbrev P0 : R.DV := .ptr 0 0
abbrev P1 : R.DV := .ptr 1 0
abbrev mC (m : Msg) : R.DO := R.DO.c [R.DV.int IntKind.i64 m.1, R.DV.str m.2.1, R.DV.str m.2.2.1, R.DV.str m.2.2.2] false 23
abbrev xC (x v : Txt) (th : Bool) : R.DO := R.DO.c [R.DV.str x, R.DV.str v, R.DV.bool th] false 39
abbrev rC (a b c : Txt) : R.DO := R.DO.c [R.DV.str a, R.DV.str b, R.DV.str c] false 48
def minT (a b : Txt) : Txt := cond (Op.bytesLess a b || decide (a = b)) a b
def maxT (a b : Txt) : Txt := cond (Op.bytesLess a b) b a
section
variable (A : FN) (op : Int) (k t w x v : Txt) (th : Bool) (kk : R.EK)
theorem gseg0 (a b c : Txt) : (sg A 0 (R.envOfD [.agg [.int .i64 op, .str k, .str t, .str w], .agg [.str x, .str v, .bool th], .agg [.str a, .str b, .str c]] 0 .lf) (mkD [] 0) (neatK 0 (ce 0) kk)).ev =
    (kk (envZ [3, 4, 5] [P0, P1, .ptr 2 0]) (mkD [mC (op, k, t, w), xC x v th, rC a b c] 0)).ev := by kernel_rfl
theorem gseg1 (a b c : Txt) : (sg A 1 (envZ [3,4,5] [P0, P1, .ptr 2 0]) (mkD [mC (op, k, t, w), xC x v th, rC a b c] 0) (neatK 0 (ce 1) kk)).ev =
    cond (!fewB k t w) (yes) (cond (decide (1000 < (↑(List.length x) : Int))) (yes) (cond (decide (1000 < (↑(List.length v) : Int))) (yes) (cond (decide (108 < (↑(List.length a) : Int))) (yes) (cond (decide (108 < (↑(List.length b) : Int))) (yes) (cond (decide (108 < (↑(List.length c) : Int))) (yes) ((kk (envZ [3, 4, 5] [P0, P1, .ptr 2 0]) (mkD [mC (op, k, t, w), xC x v th, rC a b c] 0)).ev)))))) := by kernel_rfl
theorem gseg2 (a b c : Txt) : (sg A 2 (envZ [3,4,5] [P0, P1, .ptr 2 0]) (mkD [mC (op, k, t, w), xC x v th, rC a b c] 0) (neatK 0 (ce 2) kk)).ev =
    (kk (envZ [3, 4, 7, 8, 9] [P0, P1, .str (minT a b), .str (maxT a b), .str c]) (mkD [mC (op, k, t, w), xC x v th] 0)).ev := by kernel_rfl
theorem gseg3 (fr mi to : Txt) : (sg A 3 (envZ [3,4,7,8,9] [P0, P1, .str fr, .str mi, .str to]) (mkD [mC (op, k, t, w), xC x v th] 0) (neatK 0 (ce 3) kk)).ev =
    cond (!decide (to = [])) (cond (Op.bytesLess to mi) (yes) ((kk (envZ [3, 4, 7, 8, 9] [P0, P1, .str fr, .str mi, .str to]) (mkD [mC (op, k, t, w), xC x v th] 0)).ev)) ((kk (envZ [3, 4, 7, 8, 9] [P0, P1, .str fr, .str mi, .str to]) (mkD [mC (op, k, t, w), xC x v th] 0)).ev) := by kernel_rfl
theorem gseg4 (fr mi to : Txt) : (sg A 4 (envZ [3,4,7,8,9] [P0, P1, .str fr, .str mi, .str to]) (mkD [mC (op, k, t, w), xC x v th] 0) (neatK 0 (ce 4) kk)).ev =
    cond (!Op.bytesLess x fr) (cond (decide (to = [])) ((kk (envZ [3, 4, 7, 8, 9, 10] [P0, P1, .str fr, .str mi, .str to, .bool true]) (mkD [mC (op, k, t, w), xC x v th] 0)).ev) ((kk (envZ [3, 4, 7, 8, 9, 10] [P0, P1, .str fr, .str mi, .str to, .bool (Op.bytesLess x to)]) (mkD [mC (op, k, t, w), xC x v th] 0)).ev)) ((kk (envZ [3, 4, 7, 8, 9, 10] [P0, P1, .str fr, .str mi, .str to, .bool false]) (mkD [mC (op, k, t, w), xC x v th] 0)).ev) := by kernel_rfl
theorem gseg5 (fr mi to : Txt) (I : Bool) : (sg A 5 (envZ [3,4,7,8,9,10] [P0, P1, .str fr, .str mi, .str to, .bool I]) (mkD [mC (op, k, t, w), xC x v th] 0) (neatK 0 (ce 5) kk)).ev =
    (kk (envZ [3, 4, 7, 8, 9, 10, 11] [P0, P1, .str fr, .str mi, .str to, .bool I, .ptr 2 0]) (mkD [mC (op, k, t, w), xC x v th, mC (A.pr (op, k, t, w) fr to)] 0)).ev := by kernel_rfl
theorem gseg6 (fr mi to : Txt) (I : Bool) (q : Msg) : (sg A 6 (envZ [3,4,7,8,9,10,11] [P0, P1, .str fr, .str mi, .str to, .bool I, .ptr 2 0]) (mkD [mC (op, k, t, w), xC x v th, mC q] 0) (neatK 0 (ce 6) kk)).ev =
    cond (I) (cond ((I == ((A.tf (op, k, t, w) x == A.tf q x) != false)) != true) (no) (cond (!I) (cond (A.tf q x) (no) ((kk (envZ [3, 4, 7, 8, 9, 10, 11] [P0, P1, .str fr, .str mi, .str to, .bool I, .ptr 2 0]) (mkD [mC (op, k, t, w), xC x v th, mC q] 0)).ev)) ((kk (envZ [3, 4, 7, 8, 9, 10, 11] [P0, P1, .str fr, .str mi, .str to, .bool I, .ptr 2 0]) (mkD [mC (op, k, t, w), xC x v th, mC q] 0)).ev))) (cond ((I == false) != true) (no) (cond (!I) (cond (A.tf q x) (no) ((kk (envZ [3, 4, 7, 8, 9, 10, 11] [P0, P1, .str fr, .str mi, .str to, .bool I, .ptr 2 0]) (mkD [mC (op, k, t, w), xC x v th, mC q] 0)).ev)) ((kk (envZ [3, 4, 7, 8, 9, 10, 11] [P0, P1, .str fr, .str mi, .str to, .bool I, .ptr 2 0]) (mkD [mC (op, k, t, w), xC x v th, mC q] 0)).ev))) := by kernel_rfl
theorem gseg7 (fr mi to : Txt) (I : Bool) (q : Msg) : (sg A 7 (envZ [3,4,7,8,9,10,11] [P0, P1, .str fr, .str mi, .str to, .bool I, .ptr 2 0]) (mkD [mC (op, k, t, w), xC x v th, mC q] 0) (neatK 0 (ce 7) kk)).ev =
    cond (decide (List.length v < 4611686018427387904)) ((kk (envZ [3, 4, 7, 8, 9, 10, 11, 13, 14] [P0, P1, .str fr, .str mi, .str to, .bool I, .ptr 2 0, .str (Prod.fst (A.mf op k t w x v th)), .bool (Prod.snd (A.mf op k t w x v th))]) (mkD [mC (op, k, t, w), xC x v th, mC q] 0)).ev) none := by kernel_rfl
theorem gseg8 (fr mi to : Txt) (I : Bool) (q : Msg) (y : Txt) (z : Bool) : (sg A 8 (envZ [3,4,7,8,9,10,11,13,14] [P0, P1, .str fr, .str mi, .str to, .bool I, .ptr 2 0, .str y, .bool z]) (mkD [mC (op, k, t, w), xC x v th, mC q] 0) (neatK 0 (ce 8) kk)).ev =
    cond (decide (List.length v < 4611686018427387904)) ((kk (envZ [3, 4, 7, 8, 9, 10, 13, 14, 15, 16] [P0, P1, .str fr, .str mi, .str to, .bool I, .str y, .bool z, .str (Prod.fst (A.mf (Prod.fst q) (Prod.fst (Prod.snd q)) (Prod.fst (Prod.snd (Prod.snd q))) (Prod.snd (Prod.snd (Prod.snd q))) x v th)), .bool (Prod.snd (A.mf (Prod.fst q) (Prod.fst (Prod.snd q)) (Prod.fst (Prod.snd (Prod.snd q))) (Prod.snd (Prod.snd (Prod.snd q))) x v th))]) (mkD [mC (op, k, t, w), xC x v th] 0)).ev) none := by kernel_rfl
theorem gseg9 (fr mi to : Txt) (I : Bool) (y : Txt) (z : Bool) (y2 : Txt) (z2 : Bool) : (sg A 9 (envZ [3,4,7,8,9,10,13,14,15,16] [P0, P1, .str fr, .str mi, .str to, .bool I, .str y, .bool z, .str y2, .bool z2]) (mkD [mC (op, k, t, w), xC x v th] 0) (neatK 0 (ce 9) kk)).ev =
    cond (I) (cond (!decide (y = y2)) (no) (cond ((z == z2) != true) (no) ((kk (envZ [3, 4, 7, 8, 9, 10, 13, 14] [P0, P1, .str fr, .str mi, .str to, .bool I, .str y, .bool z]) (mkD [mC (op, k, t, w), xC x v th] 0)).ev))) ((kk (envZ [3, 4, 7, 8, 9, 10, 13, 14] [P0, P1, .str fr, .str mi, .str to, .bool I, .str y, .bool z]) (mkD [mC (op, k, t, w), xC x v th] 0)).ev) := by kernel_rfl
theorem gseg10 (fr mi to : Txt) (I : Bool) (y : Txt) (z : Bool) : (sg A 10 (envZ [3,4,7,8,9,10,13,14] [P0, P1, .str fr, .str mi, .str to, .bool I, .str y, .bool z]) (mkD [mC (op, k, t, w), xC x v th] 0) (neatK 0 (ce 10) kk)).ev =
    (kk (envZ [3, 4, 7, 8, 9, 10, 13, 14, 17, 18] [P0, P1, .str fr, .str mi, .str to, .bool I, .str y, .bool z, .ptr 2 0, .ptr 3 0]) (mkD [mC (op, k, t, w), xC x v th, mC zeroM, mC zeroM] 0)).ev := by kernel_rfl
theorem gseg11 (fr mi to : Txt) (I : Bool) (y : Txt) (z : Bool) (lo hi : Msg) : (sg A 11 (envZ [3,4,7,8,9,10,13,14,17,18] [P0, P1, .str fr, .str mi, .str to, .bool I, .str y, .bool z, .ptr 2 0, .ptr 3 0]) (mkD [mC (op, k, t, w), xC x v th, mC lo, mC hi] 0) (neatK 0 (ce 11) kk)).ev =
    cond (!decide (mi = [])) ((kk (envZ [3, 4, 8, 9, 10, 13, 14, 17, 18] [P0, P1, .str mi, .str to, .bool I, .str y, .bool z, .ptr 2 0, .ptr 3 0]) (mkD [mC (op, k, t, w), xC x v th, mC (A.pr (op, k, t, w) fr mi), mC hi] 0)).ev) ((kk (envZ [3, 4, 8, 9, 10, 13, 14, 17, 18] [P0, P1, .str mi, .str to, .bool I, .str y, .bool z, .ptr 2 0, .ptr 3 0]) (mkD [mC (op, k, t, w), xC x v th, mC lo, mC hi] 0)).ev) := by kernel_rfl
theorem gseg12 (mi to : Txt) (I : Bool) (y : Txt) (z : Bool) (lo hi : Msg) : (sg A 12 (envZ [3,4,8,9,10,13,14,17,18] [P0, P1, .str mi, .str to, .bool I, .str y, .bool z, .ptr 2 0, .ptr 3 0]) (mkD [mC (op, k, t, w), xC x v th, mC lo, mC hi] 0) (neatK 0 (ce 12) kk)).ev =
    (kk (envZ [3, 4, 10, 13, 14, 17, 18] [P0, P1, .bool I, .str y, .bool z, .ptr 2 0, .ptr 3 0]) (mkD [mC (op, k, t, w), xC x v th, mC lo, mC (A.pr (op, k, t, w) mi to)] 0)).ev := by kernel_rfl
theorem gseg13 (I : Bool) (y : Txt) (z : Bool) (lo hi : Msg) : (sg A 13 (envZ [3,4,10,13,14,17,18] [P0, P1, .bool I, .str y, .bool z, .ptr 2 0, .ptr 3 0]) (mkD [mC (op, k, t, w), xC x v th, mC lo, mC hi] 0) (neatK 0 (ce 13) kk)).ev =
    cond (I) (cond (A.tf lo x) (cond ((true == A.tf (op, k, t, w) x) != true) (no) (cond (A.tf lo x) (cond (A.tf hi x) (no) ((kk (envZ [3, 4, 13, 14] [P0, P1, .str y, .bool z]) (mkD [mC (op, k, t, w), xC x v th] 0)).ev)) ((kk (envZ [3, 4, 13, 14] [P0, P1, .str y, .bool z]) (mkD [mC (op, k, t, w), xC x v th] 0)).ev))) (cond ((A.tf hi x == A.tf (op, k, t, w) x) != true) (no) (cond (A.tf lo x) (cond (A.tf hi x) (no) ((kk (envZ [3, 4, 13, 14] [P0, P1, .str y, .bool z]) (mkD [mC (op, k, t, w), xC x v th] 0)).ev)) ((kk (envZ [3, 4, 13, 14] [P0, P1, .str y, .bool z]) (mkD [mC (op, k, t, w), xC x v th] 0)).ev)))) (cond (A.tf lo x) (cond (A.tf hi x) (no) ((kk (envZ [3, 4, 13, 14] [P0, P1, .str y, .bool z]) (mkD [mC (op, k, t, w), xC x v th] 0)).ev)) ((kk (envZ [3, 4, 13, 14] [P0, P1, .str y, .bool z]) (mkD [mC (op, k, t, w), xC x v th] 0)).ev)) := by kernel_rfl
theorem gseg14 (y : Txt) (z : Bool) : (sg A 14 (envZ [3,4,13,14] [P0, P1, .str y, .bool z]) (mkD [mC (op, k, t, w), xC x v th] 0) (neatK 0 (ce 14) kk)).ev =
    cond (!A.tf (op, k, t, w) x) (cond ((z == th) != false) (yes) (no)) ((kk (envZ [3, 13, 14] [.ptr 0 0, .str y, .bool z]) (mkD [mC (op, k, t, w)] 0)).ev) := by kernel_rfl
theorem gseg15 (y : Txt) (z : Bool) : (sg A 15 (envZ [3,13,14] [.ptr 0 0, .str y, .bool z]) (mkD [mC (op, k, t, w)] 0) RR).ev =
    cond (!decide (op = 1)) (cond (!decide (op = 2)) (cond (!decide (op = 3)) (yes) (cond (!z) (cond (decide (y = [])) (yes) (no)) (no))) (cond (!z) (cond (decide (y = [])) (yes) (no)) (no))) (cond (z) (cond (decide (y = w)) (cond (!decide (op = 2)) (cond (!decide (op = 3)) (yes) (cond (!z) (cond (decide (y = [])) (yes) (no)) (no))) (cond (!z) (cond (decide (y = [])) (yes) (no)) (no))) (no)) (no)) := by kernel_rfl
end
theorem rs0 (A : FN) (e : T R.DV) (d : R.DH) : rs A 0 e d = sg A 0 e d (neatK 0 (ce 0) (rs A 1)) := by kernel_rfl
theorem rs1 (A : FN) (e : T R.DV) (d : R.DH) : rs A 1 e d = sg A 1 e d (neatK 0 (ce 1) (rs A 2)) := by kernel_rfl
theorem rs2 (A : FN) (e : T R.DV) (d : R.DH) : rs A 2 e d = sg A 2 e d (neatK 0 (ce 2) (rs A 3)) := by kernel_rfl
theorem rs3 (A : FN) (e : T R.DV) (d : R.DH) : rs A 3 e d = sg A 3 e d (neatK 0 (ce 3) (rs A 4)) := by kernel_rfl
theorem rs4 (A : FN) (e : T R.DV) (d : R.DH) : rs A 4 e d = sg A 4 e d (neatK 0 (ce 4) (rs A 5)) := by kernel_rfl
theorem rs5 (A : FN) (e : T R.DV) (d : R.DH) : rs A 5 e d = sg A 5 e d (neatK 0 (ce 5) (rs A 6)) := by kernel_rfl
theorem rs6 (A : FN) (e : T R.DV) (d : R.DH) : rs A 6 e d = sg A 6 e d (neatK 0 (ce 6) (rs A 7)) := by kernel_rfl
theorem rs7 (A : FN) (e : T R.DV) (d : R.DH) : rs A 7 e d = sg A 7 e d (neatK 0 (ce 7) (rs A 8)) := by kernel_rfl
theorem rs8 (A : FN) (e : T R.DV) (d : R.DH) : rs A 8 e d = sg A 8 e d (neatK 0 (ce 8) (rs A 9)) := by kernel_rfl
theorem rs9 (A : FN) (e : T R.DV) (d : R.DH) : rs A 9 e d = sg A 9 e d (neatK 0 (ce 9) (rs A 10)) := by kernel_rfl
theorem rs10 (A : FN) (e : T R.DV) (d : R.DH) : rs A 10 e d = sg A 10 e d (neatK 0 (ce 10) (rs A 11)) := by kernel_rfl
theorem rs11 (A : FN) (e : T R.DV) (d : R.DH) : rs A 11 e d = sg A 11 e d (neatK 0 (ce 11) (rs A 12)) := by kernel_rfl
theorem rs12 (A : FN) (e : T R.DV) (d : R.DH) : rs A 12 e d = sg A 12 e d (neatK 0 (ce 12) (rs A 13)) := by kernel_rfl
theorem rs13 (A : FN) (e : T R.DV) (d : R.DH) : rs A 13 e d = sg A 13 e d (neatK 0 (ce 13) (rs A 14)) := by kernel_rfl
theorem rs14 (A : FN) (e : T R.DV) (d : R.DH) : rs A 14 e d = sg A 14 e d (neatK 0 (ce 14) (rs A 15)) := by kernel_rfl
theorem rs15 (A : FN) (e : T R.DV) (d : R.DH) : rs A 15 e d = sg A 15 e d RR := by kernel_rfl
theorem min_max (a b : Txt) : (minT a b = a ∨ minT a b = b) ∧ (maxT a b = a ∨ maxT a b = b) ∧ Op.bytesLess (maxT a b) (minT a b) = false := by
  unfold minT maxT
  cases h : Op.bytesLess a b with
  | true => 
    refine ⟨.inl rfl, .inr rfl, ?_⟩
    show Op.bytesLess b a = false
    cases h2 : Op.bytesLess b a with
    | false => rfl
    | true => have := less_trans a b a h h2; rw [less_irrefl] at this; cases this
  | false =>
    by_cases e : a = b
    · subst e; rw [decide_eq_true rfl]; exact ⟨.inl rfl, .inl rfl, less_irrefl a⟩
    · rw [decide_eq_false e]; exact ⟨.inr rfl, .inl rfl, h⟩
theorem ord_cut (fr mi to x : Txt) (hfm : Op.bytesLess mi fr = false) (hto : decide (to = []) = false → Op.bytesLess to mi = false) :
    (decide (mi = []) = false → inB x fr to = true → (inB x fr mi || inB x mi to) = true) ∧ (decide (mi = []) = false → (inB x fr mi && inB x mi to) = false) ∧ (decide (mi = []) = true → (inB x fr to = true → inB x mi to = true) ∧ True) := by
  unfold inB
  refine ⟨fun h0 hi => ?_, fun h0 => ?_, fun h0 => ⟨fun hi => ?_, trivial⟩⟩
  · rw [h0]
    revert hi
    cases Op.bytesLess x fr <;> cases Op.bytesLess x mi <;> cases decide (to = []) <;> cases Op.bytesLess x to <;> intro hi <;> first | rfl | (cases hi; done)
  · rw [h0]
    cases Op.bytesLess x fr <;> cases Op.bytesLess x mi <;> cases decide (to = []) <;> cases Op.bytesLess x to <;> rfl
  · have e : mi = [] := of_decide_eq_true h0
    rw [e, less_nilT]
    revert hi
    cases Op.bytesLess x fr <;> cases decide (to = []) <;> cases Op.bytesLess x to <;> intro hi <;> first | rfl | (cases hi; done)
theorem app_at {m : Msg} {x v : Txt} {th : Bool} : (tM m x = false → (apM m x v th).2 = th) ∧ (tM m x = true → (m.1 = 1 → (apM m x v th).1 = m.2.2.2 ∧ (apM m x v th).2 = true) ∧ (m.1 = 2 ∨ m.1 = 3 → (apM m x v th).1 = [] ∧ (apM m x v th).2 = false)) := by
  have e : apM m x v th = cond (tM m x) (makeM m.1 m.2.1 m.2.2.2 (cond th v []) th) (cond th v [], th) := rfl
  rw [e]
  refine ⟨fun h => by rw [h]; rfl, fun h => ?_⟩
  rw [h]
  show (_ → (makeM m.1 m.2.1 m.2.2.2 (cond th v []) th).1 = _ ∧ (makeM m.1 m.2.1 m.2.2.2 (cond th v []) th).2 = _) ∧ (_ → (makeM m.1 m.2.1 m.2.2.2 (cond th v []) th).1 = _ ∧ (makeM m.1 m.2.1 m.2.2.2 (cond th v []) th).2 = _)
  unfold makeM
  refine ⟨fun h1 => by rw [h1]; exact ⟨rfl, rfl⟩, fun h1 => ?_⟩
  rcases h1 with h1 | h1 <;> rw [h1] <;> exact ⟨rfl, rfl⟩
section
variable (A : FN) (op : Int) (k t w x v : Txt) (th : Bool)
theorem e15 (y : Txt) (z : Bool) (hy1 : op = 1 → y = w ∧ z = true) (hy2 : op = 2 ∨ op = 3 → y = [] ∧ z = false) :
    (rs A 15 (envZ [3, 13, 14] [.ptr 0 0, .str y, .bool z]) (mkD [mC (op, k, t, w)] 0)).ev = yes := by
  refine (congrArg R.Tree.ev (rs15 A _ _)).trans ((gseg15 A op k t w y z).trans ?_)
  by_cases o1 : op = 1
  · obtain ⟨rfl, rfl⟩ := hy1 o1
    subst o1
    rw [decide_eq_true (rfl : y = y)]; rfl
  · by_cases o2 : op = 2
    · obtain ⟨rfl, rfl⟩ := hy2 (.inl o2)
      subst o2; rfl
    · by_cases o3 : op = 3
      · obtain ⟨rfl, rfl⟩ := hy2 (.inr o3)
        subst o3; rfl
      · rw [decide_eq_false o1, decide_eq_false o2, decide_eq_false o3]; rfl
theorem e14 (y : Txt) (z : Bool) (hn : A.tf (op, k, t, w) x = false → z = th) (hy : A.tf (op, k, t, w) x = true → (op = 1 → y = w ∧ z = true) ∧ (op = 2 ∨ op = 3 → y = [] ∧ z = false)) :
    (rs A 14 (envZ [3, 4, 13, 14] [P0, P1, .str y, .bool z]) (mkD [mC (op, k, t, w), xC x v th] 0)).ev = yes := by
  refine (congrArg R.Tree.ev (rs14 A _ _)).trans ((gseg14 A op k t w x v th (rs A 15) y z).trans ?_)
  cases hT : A.tf (op, k, t, w) x with
  | false => rw [hn hT]; cases th <;> rfl
  | true => rw [Bool.not_true, cond_false]; exact e15 A op k t w y z (hy hT).1 (hy hT).2
theorem e13 (I : Bool) (y : Txt) (z : Bool) (lo hi : Msg) (hI : I = true → (A.tf lo x || A.tf hi x) = A.tf (op, k, t, w) x) (hn : (A.tf lo x && A.tf hi x) = false)
    (E : (rs A 14 (envZ [3, 4, 13, 14] [P0, P1, .str y, .bool z]) (mkD [mC (op, k, t, w), xC x v th] 0)).ev = yes) :
    (rs A 13 (envZ [3, 4, 10, 13, 14, 17, 18] [P0, P1, .bool I, .str y, .bool z, .ptr 2 0, .ptr 3 0]) (mkD [mC (op, k, t, w), xC x v th, mC lo, mC hi] 0)).ev = yes := by
  refine (congrArg R.Tree.ev (rs13 A _ _)).trans ((gseg13 A op k t w x v th (rs A 14) I y z lo hi).trans ?_)
  rw [E]
  revert hI hn
  generalize A.tf lo x = L
  generalize A.tf hi x = B
  generalize A.tf (op, k, t, w) x = T
  cases I <;> cases L <;> cases B <;> cases T <;> intro hI hn <;> first | rfl | (cases hn; done) | (cases hI rfl; done)
theorem e12 (mi to : Txt) (I : Bool) (y : Txt) (z : Bool) (lo hi : Msg)
    (E : (rs A 13 (envZ [3, 4, 10, 13, 14, 17, 18] [P0, P1, .bool I, .str y, .bool z, .ptr 2 0, .ptr 3 0]) (mkD [mC (op, k, t, w), xC x v th, mC lo, mC (A.pr (op, k, t, w) mi to)] 0)).ev = yes) :
    (rs A 12 (envZ [3, 4, 8, 9, 10, 13, 14, 17, 18] [P0, P1, .str mi, .str to, .bool I, .str y, .bool z, .ptr 2 0, .ptr 3 0]) (mkD [mC (op, k, t, w), xC x v th, mC lo, mC hi] 0)).ev = yes :=
  (congrArg R.Tree.ev (rs12 A _ _)).trans ((gseg12 A op k t w x v th (rs A 13) mi to I y z lo hi).trans E)
theorem e10 (fr mi to : Txt) (I : Bool) (y : Txt) (z : Bool)
    (E : (rs A 13 (envZ [3, 4, 10, 13, 14, 17, 18] [P0, P1, .bool I, .str y, .bool z, .ptr 2 0, .ptr 3 0]) (mkD [mC (op, k, t, w), xC x v th, mC (cond (!decide (mi = [])) (A.pr (op, k, t, w) fr mi) zeroM), mC (A.pr (op, k, t, w) mi to)] 0)).ev = yes) :
    (rs A 10 (envZ [3, 4, 7, 8, 9, 10, 13, 14] [P0, P1, .str fr, .str mi, .str to, .bool I, .str y, .bool z]) (mkD [mC (op, k, t, w), xC x v th] 0)).ev = yes := by
  refine (congrArg R.Tree.ev (rs10 A _ _)).trans ((gseg10 A op k t w x v th (rs A 11) fr mi to I y z).trans ?_)
  refine (congrArg R.Tree.ev (rs11 A _ _)).trans ((gseg11 A op k t w x v th (rs A 12) fr mi to I y z zeroM zeroM).trans ?_)
  cases hm : decide (mi = []) with
  | false => rw [hm, Bool.not_false, cond_true] at E; rw [Bool.not_false, cond_true]; exact e12 A op k t w x v th mi to I y z _ _ E
  | true => rw [hm, Bool.not_true, cond_false] at E; rw [Bool.not_true, cond_false]; exact e12 A op k t w x v th mi to I y z _ _ E
theorem e7 (fr mi to : Txt) (I : Bool) (q : Msg) (hv : v.length < 4611686018427387904) (hI : I = true → A.mf q.1 q.2.1 q.2.2.1 q.2.2.2 x v th = A.mf op k t w x v th)
    (E : (rs A 10 (envZ [3, 4, 7, 8, 9, 10, 13, 14] [P0, P1, .str fr, .str mi, .str to, .bool I, .str (A.mf op k t w x v th).1, .bool (A.mf op k t w x v th).2]) (mkD [mC (op, k, t, w), xC x v th] 0)).ev = yes) :
    (rs A 7 (envZ [3, 4, 7, 8, 9, 10, 11] [P0, P1, .str fr, .str mi, .str to, .bool I, .ptr 2 0]) (mkD [mC (op, k, t, w), xC x v th, mC q] 0)).ev = yes := by
  refine (congrArg R.Tree.ev (rs7 A _ _)).trans ((gseg7 A op k t w x v th (rs A 8) fr mi to I q).trans ?_)
  rw [decide_eq_true hv, cond_true]
  refine (congrArg R.Tree.ev (rs8 A _ _)).trans ((gseg8 A op k t w x v th (rs A 9) fr mi to I q _ _).trans ?_)
  rw [decide_eq_true hv, cond_true]
  refine (congrArg R.Tree.ev (rs9 A _ _)).trans ((gseg9 A op k t w x v th (rs A 10) fr mi to I _ _ _ _).trans ?_)
  rw [E]
  cases I with
  | false => rfl
  | true =>
    rw [hI rfl, decide_eq_true (rfl : (A.mf op k t w x v th).1 = (A.mf op k t w x v th).1)]
    cases (A.mf op k t w x v th).2 <;> rfl
theorem e6 (fr mi to : Txt) (I : Bool) (q : Msg) (hq : A.tf q x = (A.tf (op, k, t, w) x && I))
    (E : (rs A 7 (envZ [3, 4, 7, 8, 9, 10, 11] [P0, P1, .str fr, .str mi, .str to, .bool I, .ptr 2 0]) (mkD [mC (op, k, t, w), xC x v th, mC q] 0)).ev = yes) :
    (rs A 6 (envZ [3, 4, 7, 8, 9, 10, 11] [P0, P1, .str fr, .str mi, .str to, .bool I, .ptr 2 0]) (mkD [mC (op, k, t, w), xC x v th, mC q] 0)).ev = yes := by
  refine (congrArg R.Tree.ev (rs6 A _ _)).trans ((gseg6 A op k t w x v th (rs A 7) fr mi to I q).trans ?_)
  rw [E, hq]
  cases I <;> cases A.tf (op, k, t, w) x <;> rfl
/-- from a range in order on -/
theorem e3 (fr mi to : Txt) (hv : v.length < 4611686018427387904) (hf : fr.length ≤ 108) (hm : mi.length ≤ 108) (ht : to.length ≤ 108) (hfm : Op.bytesLess mi fr = false) :
    (rs A 3 (envZ [3, 4, 7, 8, 9] [P0, P1, .str fr, .str mi, .str to]) (mkD [mC (op, k, t, w), xC x v th] 0)).ev = yes := by
  refine (congrArg R.Tree.ev (rs3 A _ _)).trans ((gseg3 A op k t w x v th (rs A 4) fr mi to).trans ?_)
  -- once the range is one
  have main : (decide (to = []) = false → Op.bytesLess to mi = false) → (rs A 4 (envZ [3, 4, 7, 8, 9] [P0, P1, .str fr, .str mi, .str to]) (mkD [mC (op, k, t, w), xC x v th] 0)).ev = yes := by
    intro hto
    have go : (rs A 5 (envZ [3, 4, 7, 8, 9, 10] [P0, P1, .str fr, .str mi, .str to, .bool (inB x fr to)]) (mkD [mC (op, k, t, w), xC x v th] 0)).ev = yes := by
      refine (congrArg R.Tree.ev (rs5 A _ _)).trans ((gseg5 A op k t w x v th (rs A 6) fr mi to _).trans ?_)
      refine e6 A op k t w x v th fr mi to _ _ (by rw [A.h1, A.h3]; exact touch_part _ _ _ _ hf ht) ?_
      refine e7 A op k t w x v th fr mi to _ _ hv (fun hi => by rw [A.h, A.h1]; exact ap_part hf ht hi) ?_
      refine e10 A op k t w x v th fr mi to _ _ _ ?_
      have hhi : A.tf (A.pr (op, k, t, w) mi to) x = (A.tf (op, k, t, w) x && inB x mi to) := by rw [A.h1, A.h3]; exact touch_part _ _ _ _ hm ht
      have hlo : decide (mi = []) = false → A.tf (A.pr (op, k, t, w) fr mi) x = (A.tf (op, k, t, w) x && inB x fr mi) := fun _ => by rw [A.h1, A.h3]; exact touch_part _ _ _ _ hf hm
      have hz : A.tf zeroM x = false := by rw [A.h3]; rfl
      have ord := ord_cut fr mi to x hfm hto
      refine e13 A op k t w x v th _ _ _ _ _ (fun hi => ?_) ?_ ?_
      · rw [hhi]
        cases hm0 : decide (mi = []) with
        | true =>
          show (A.tf zeroM x || _) = _
          rw [hz, (ord.2.2 hm0).1 hi, Bool.false_or, Bool.and_true]
        | false =>
          show (A.tf (A.pr (op, k, t, w) fr mi) x || _) = _
          rw [hlo hm0]
          have := ord.1 hm0 hi
          revert this
          cases A.tf (op, k, t, w) x <;> cases inB x fr mi <;> cases inB x mi to <;> intro this <;> first | rfl | (cases this; done)
      · rw [hhi]
        cases hm0 : decide (mi = []) with
        | true =>
          show (A.tf zeroM x && _) = _
          rw [hz]; rfl
        | false =>
          show (A.tf (A.pr (op, k, t, w) fr mi) x && _) = _
          rw [hlo hm0]
          have := ord.2.1 hm0
          revert this
          cases A.tf (op, k, t, w) x <;> cases inB x fr mi <;> cases inB x mi to <;> intro this <;> first | rfl | (cases this; done)
      · have ha := app_at (m := (op, k, t, w)) (x := x) (v := v) (th := th)
        exact e14 A op k t w x v th _ _ (by rw [A.h, A.h3]; exact ha.1) (by rw [A.h, A.h3]; exact ha.2)
    refine (congrArg R.Tree.ev (rs4 A _ _)).trans ((gseg4 A op k t w x v th (rs A 5) fr mi to).trans ?_)
    revert go
    unfold inB
    cases Op.bytesLess x fr with
    | true => rw [Bool.not_true, Bool.false_and, cond_false]; exact id
    | false =>
      rw [Bool.not_false, Bool.true_and, cond_true]
      cases decide (to = []) with
      | true => rw [Bool.true_or, cond_true]; exact id
      | false => rw [Bool.false_or, cond_false]; exact id
  cases hd : decide (to = []) with
  | true => rw [Bool.not_true, cond_false]; exact main (fun e => by rw [hd] at e; cases e)
  | false =>
    rw [Bool.not_false, cond_true]
    cases hl : Op.bytesLess to mi with
    | true => rfl
    | false => rw [cond_false]; exact main (fun _ => hl)
theorem run7 (a b c : Txt) : runC (CR A) (YR A) (fun _ => none) 200 cuts7 c7 [.agg [.int .i64 op, .str k, .str t, .str w], .agg [.str x, .str v, .bool th], .agg [.str a, .str b, .str c]] [] = yes := by
  refine (show _ = (rs A 0 (R.envOfD [.agg [.int .i64 op, .str k, .str t, .str w], .agg [.str x, .str v, .bool th], .agg [.str a, .str b, .str c]] 0 .lf) (mkD [] 0)).ev from by kernel_rfl).trans ?_
  refine (congrArg R.Tree.ev (rs0 A _ _)).trans ((gseg0 A op k t w x v th (rs A 1) a b c).trans ?_)
  refine (congrArg R.Tree.ev (rs1 A _ _)).trans ((gseg1 A op k t w x v th (rs A 2) a b c).trans ?_)
  cases fewB k t w with
  | false => rfl
  | true =>
    rw [Bool.not_true, cond_false]
    by_cases hx : 1000 < (x.length : Int)
    · rw [decide_eq_true hx]; rfl
    · rw [decide_eq_false hx, cond_false]
      by_cases hv : 1000 < (v.length : Int)
      · rw [decide_eq_true hv]; rfl
      · rw [decide_eq_false hv, cond_false]
        by_cases ha : 108 < (a.length : Int)
        · rw [decide_eq_true ha]; rfl
        · rw [decide_eq_false ha, cond_false]
          by_cases hb : 108 < (b.length : Int)
          · rw [decide_eq_true hb]; rfl
          · rw [decide_eq_false hb, cond_false]
            by_cases hc : 108 < (c.length : Int)
            · rw [decide_eq_true hc]; rfl
            · rw [decide_eq_false hc, cond_false]
              refine (congrArg R.Tree.ev (rs2 A _ _)).trans ((gseg2 A op k t w x v th (rs A 3) a b c).trans ?_)
              obtain ⟨q1, q2, q3⟩ := min_max a b
              exact e3 A op k t w x v th _ _ c (by omega) (by rcases q1 with q | q <;> rw [q] <;> omega) (by rcases q2 with q | q <;> rw [q] <;> omega) (by omega) q3
end
def A0 : FN := ⟨applyM, rfl, prM, partOk, tM, rfl, rfl, rfl⟩
theorem law7 (op : Int) (k t w x v : Txt) (th : Bool) (a b c : Txt) : LawOk (CR A0).G (CR A0).O (CR A0).tab 7 201 [] [.agg [.int .i64 op, .str k, .str t, .str w], .agg [.str x, .str v, .bool th], .agg [.str a, .str b, .str c]] (.v (.bool true) []) := by
  refine law_cut (CR A0) (YR A0) (fun _ => none) cuts7 (by kernel_rfl) rfl (fun n hn p _ ld e => by cases e) fun z hz => ?_
  exact (run7 A0 op k t w x v th a b c).trans hz
theorem plain7 (op : Int) (k t w x v : Txt) (th : Bool) (a b c : Txt) : PlainCall Tryz.prog [] 7 (toVs [.agg [.int .i64 op, .str k, .str t, .str w], .agg [.str x, .str v, .bool th], .agg [.str a, .str b, .str c]]) (.bool true) :=
  R.plain_of_law (CR A0) (B := baseB) (hlt := base_ltB) (gl_eqB _ globals4 _) baseB_ok (LR A0).O_sim (fun el => rfl) (law7 op k t w x v th a b c) (d := mkD [] 0) (v := .bool true) (v0 := .bool true) rfl rfl rfl ⟨⟨trivial, trivial, trivial, trivial, trivial⟩, ⟨trivial, trivial, trivial, trivial⟩, ⟨trivial, trivial, trivial, trivial⟩, trivial⟩ trivial
end
end Go.Vm.YtdmlbojhfgimnaaGreatDoor
