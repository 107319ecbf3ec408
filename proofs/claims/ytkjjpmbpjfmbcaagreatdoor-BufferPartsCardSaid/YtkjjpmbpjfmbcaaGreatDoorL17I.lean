/-
  Layer 17: the document's Same, where a slice may be nil.
-/
import Derived.Test.YtkjjpmbpjfmbcaaGreatDoorL17G
set_option linter.unusedVariables false
set_option linter.unusedSimpArgs false
namespace Go.Vm.YtkjjpmbpjfmbcaaGreatDoor
open Go.Proofs Go.Vm.R
noncomputable section
def recA (a : List Msg) (z : Int) : Msg := a.getD z.toNat (0, [], [], [])
theorem take_rec {a : List Msg} {n : Nat} {z : Int} (h : n ≤ a.length) (h0 : 0 ≤ z) (h1 : z < n) : (a.take n).drop z.toNat = recA a z :: (a.take n).drop (z + 1).toNat := by
  have := seg_rec (full := a) (j := 0) (n := n) (z := z) (by omega) h0 h1
  unfold rec at this
  rw [Nat.zero_add] at this
  exact this
theorem take_end {a : List Msg} {n : Nat} {z : Int} (h : n ≤ a.length) (h1 : ¬ z < n) (h0 : 0 ≤ z) : (a.take n).drop z.toNat = [] := seg_end (full := a) (j := 0) (n := n) (by omega) h1 h0
def sameE (a b : Msg) : Bool := decide (a.1 = b.1) && (decide (a.2.1 = b.2.1) && (decide (a.2.2.1 = b.2.2.1) && (decide (a.2.2.2 = b.2.2.2) && true)))
theorem same_cons (a b : Msg) (x y : List Msg) : sameL (a :: x) (b :: y) = (sameE a b && sameL x y) := by
  unfold sameL sameE
  rw [Bool.eq_iff_iff]
  simp only [decide_eq_true_eq, Bool.and_eq_true, List.cons.injEq, and_true, Prod.ext_iff]

def PSa (n : Nat) (a : List Msg) (n1 : Nat) (b : List Msg) (z : Int) : Bool := decide (n1 = n ∧ n ≤ a.length ∧ n1 ≤ b.length ∧ n < 399 ∧ 0 ≤ z ∧ z ≤ n)
def SSa (n : Nat) (a : List Msg) (n1 : Nat) (b : List Msg) (z : Int) : Bool := sameL ((a.take n).drop z.toNat) ((b.take n1).drop z.toNat)
def ltSa (n n1 : Nat) (z : Int) (a b : List Msg) : LT := .need (PSa n a n1 b z) (.br (SSa n a n1 b z) (.exit 0 [] [.rn .msg a 31, .rn .msg b 31]) (.ret [.bool false] [.rn .msg a 31, .rn .msg b 31]))
def ldSa : LoopD := ⟨[(0, none), (1, none), (5, none)], [], [(4, none)], fun vs ao => match vs, ao with
  | [.ns 0 n 4, .ns 1 n1 4, .int .i64 z], [.rn .msg a 31, .rn .msg b 31] => some (n - z.toNat, ltSa n n1 z a b)
  | _, _ => none⟩
theorem turnSa (n n1 : Nat) (z : Int) (a b : List Msg) (m : Nat) (rd k1 : R.EK) (y : List (Nat × R.EK)) :
    (turnD C Y0 (fun _ => none) 400 26 2 0 b21 ldSa m [.ns 0 n 4, .ns 1 n1 4, .int .i64 z] [.rn .msg a 31, .rn .msg b 31] rd k1 y).ev =
    cond (Nat.ble n (List.length a)) (cond (decide (z < (↑n : Int))) (cond (Nat.ble n (List.length a)) (cond (decide (0 ≤ z) && decide (Int.toNat z < n)) (cond (Nat.blt (Int.toNat z) (List.length a)) (cond (Nat.ble n1 (List.length b)) (cond (decide (0 ≤ z) && decide (Int.toNat z < n1)) (cond (Nat.blt (Int.toNat z) (List.length b)) (cond ((decide (Prod.fst (recA a z) = Prod.fst (recA b z)) && (decide (Prod.fst (Prod.snd (recA a z)) = Prod.fst (Prod.snd (recA b z))) && (decide (Prod.fst (Prod.snd (Prod.snd (recA a z))) = Prod.fst (Prod.snd (Prod.snd (recA b z)))) && (decide (Prod.snd (Prod.snd (Prod.snd (recA a z))) = Prod.snd (Prod.snd (Prod.snd (recA b z)))) && true)))) != true) ((rd (envZ [4] [R.DV.bool false]) (mkD [DO.rn RK.msg a 31, DO.rn RK.msg b 31] 2)).ev) (cond (decide (n - Int.toNat (IntKind.wrap IntKind.i64 (z + 1)) < m)) (cond (PSa n a n1 b (IntKind.wrap IntKind.i64 (z + 1))) (cond (SSa n a n1 b (IntKind.wrap IntKind.i64 (z + 1))) ((k1 (envZ [] []) (mkD [DO.rn RK.msg a 31, DO.rn RK.msg b 31] 2)).ev) ((rd (envZ [4] [R.DV.bool false]) (mkD [DO.rn RK.msg a 31, DO.rn RK.msg b 31] 2)).ev)) none) none)) none) none) none) none) none) none) ((k1 (envZ [] []) (mkD [DO.rn RK.msg a 31, DO.rn RK.msg b 31] 2)).ev)) none := by kernel_rfl
theorem stepSa (n n1 : Nat) (z : Int) (a b : List Msg) (rd k1 : R.EK) (y : List (Nat × R.EK)) (w : R.DV × R.DH) (hw : ((ltSa n n1 z a b).tree 2 ldSa rd ((0, k1) :: y)).ev = some w) :
    (turnD C Y0 (fun _ => none) 400 26 2 0 b21 ldSa (n - z.toNat) [.ns 0 n 4, .ns 1 n1 4, .int .i64 z] [.rn .msg a 31, .rn .msg b 31] rd k1 y).ev = some w := by
  replace hw := lt_need hw
  obtain ⟨hp, hw⟩ := hw
  simp only [PSa, decide_eq_true_eq] at hp
  obtain ⟨rfl, p1, p2, p3, p4, p5⟩ := hp
  rw [lt_br] at hw
  replace hw : cond (SSa n1 a n1 b z) (k1 (envZ [] []) (mkD [.rn .msg a 31, .rn .msg b 31] 2)).ev (rd (envZ [4] [R.DV.bool false]) (mkD [.rn .msg a 31, .rn .msg b 31] 2)).ev = some w := hw
  rw [turnSa]
  by_cases h1 : z < n1
  · have cz : (decide (0 ≤ z) && decide (z.toNat < n1)) = true := by rw [decide_eq_true p4, decide_eq_true (show z.toNat < n1 by omega)]; rfl
    have cz1 : Nat.blt z.toNat a.length = true := by
      have : z.toNat < a.length := by omega
      simpa using this
    have cn1 : Nat.ble n1 a.length = true := Nat.ble_eq_true_of_le p1
    have cz2 : Nat.blt z.toNat b.length = true := by
      have : z.toNat < b.length := by omega
      simpa using this
    have cn2 : Nat.ble n1 b.length = true := Nat.ble_eq_true_of_le p2
    have hm : decide (n1 - (z + 1).toNat < n1 - z.toNat) = true := decide_eq_true (by omega)
    have hP : PSa n1 a n1 b (z + 1) = true := by
      simp only [PSa, decide_eq_true_eq]
      refine ⟨trivial, p1, p2, p3, ?_, ?_⟩ <;> omega
    have e5 : SSa n1 a n1 b z = (sameE (recA a z) (recA b z) && SSa n1 a n1 b (z + 1)) := by
      unfold SSa
      rw [take_rec p1 p4 h1, take_rec p2 p4 h1, same_cons]
    rw [e5] at hw
    rw [cT h1, nextI p4 h1 (by omega)]
    simp only [cz, cz1, cz2, cn1, cn2, hm, hP, cond_true]
    revert hw
    show _ → cond (sameE (recA a z) (recA b z) != true) _ _ = _
    cases sameE (recA a z) (recA b z) <;> exact id
  · have cn1 : Nat.ble n1 a.length = true := Nat.ble_eq_true_of_le p1
    rw [cn1, cF h1]
    have e5 : SSa n1 a n1 b z = true := by
      unfold SSa
      rw [take_end p1 h1 p4, take_end p2 h1 p4]; rfl
    rw [e5] at hw
    exact hw
theorem loopSa {n : Nat} (hn : 400 ≤ n) : LoopOk C.G 2 (callO noTmps C.O C.tab n) n 400 26 0 b21 ldSa := by
  refine loop_of C Y0 (lh := fun _ => none) hn ?_ (fun p _ ld h => by cases h) ?_
  · exact wf_loops _ none (wf_body (f := 21) rfl) (0, b21) (by rw [show loopsIn none c21.body = [(0, b21)] from rfl]; exact List.mem_cons_self)
  intro vs ao m t hs rd k1 y w hw
  unfold ldSa at hs
  simp only at hs
  split at hs
  case h_2 => cases hs
  cases hs
  exact stepSa _ _ _ _ _ _ _ _ _ hw
def okSa (n : Nat) (a : List Msg) (n1 : Nat) (b : List Msg) : Bool := decide (n ≤ a.length ∧ n1 ≤ b.length ∧ n < 399)
def outSa (n : Nat) (a : List Msg) (n1 : Nat) (b : List Msg) : RD := .need (okSa n a n1 b) (.v (.bool (sameL (a.take n) (b.take n1))) [])
theorem runSa (n n1 : Nat) (a b : List Msg) : runD C Y0 (lhX ldSa) 400 c21 [.ns 0 n 4, .ns 1 n1 4] [.rn .msg a 31, .rn .msg b 31] =
    cond (Nat.ble n (List.length a)) (cond (Nat.ble n1 (List.length b)) (cond (!decide ((↑n : Int) = (↑n1 : Int))) (some (R.DV.bool false, (mkD [DO.rn RK.msg a 31, DO.rn RK.msg b 31] 2))) (cond (decide (n - 0 < 400)) (cond (PSa n a n1 b 0) (cond (SSa n a n1 b 0) (some (R.DV.bool true, (mkD [DO.rn RK.msg a 31, DO.rn RK.msg b 31] 2))) (some (R.DV.bool false, (mkD [DO.rn RK.msg a 31, DO.rn RK.msg b 31] 2)))) none) none)) none) none := by kernel_rfl
theorem lawSa (n n1 : Nat) (a b : List Msg) : LawOk C.G C.O C.tab 21 401 [.rn .msg a 31, .rn .msg b 31] [.ns 0 n 4, .ns 1 n1 4] (outSa n a n1 b) := by
  refine law_of C Y0 (lhX ldSa) rfl rfl (fun n hn => lhX_ok (Q := fun i b ld => LoopOk C.G 2 (callO noTmps C.O C.tab n) n 400 26 i b ld) rfl (loopSa hn)) fun z hz => ?_
  obtain ⟨hp, hz⟩ := R.ev_need hz
  refine (runSa n n1 a b).trans ?_
  simp only [okSa, decide_eq_true_eq] at hp
  obtain ⟨p1, p2, p3⟩ := hp
  have cn2 : Nat.ble n1 b.length = true := Nat.ble_eq_true_of_le p2
  have cn1 : Nat.ble n a.length = true := Nat.ble_eq_true_of_le p1
  refine Eq.trans ?_ hz
  show _ = some (R.DV.bool (sameL (a.take n) (b.take n1)), mkD [.rn .msg a 31, .rn .msg b 31] 2)
  rw [cn1, cn2]
  by_cases h : n = n1
  · subst h
    have e4 : PSa n a n b 0 = true := by
      simp only [PSa, decide_eq_true_eq]
      refine ⟨trivial, p1, p2, p3, ?_, ?_⟩ <;> omega
    rw [show (!decide ((n : Int) = (n : Int))) = false by simp, cT (show n - 0 < 400 by omega), e4]
    have e5 : SSa n a n b 0 = sameL (a.take n) (b.take n) := rfl
    rw [e5]
    cases sameL (a.take n) (b.take n) <;> rfl
  · have e5 : sameL (a.take n) (b.take n1) = false := by
      unfold sameL
      rw [decide_eq_false_iff_not]
      intro he
      have := congrArg List.length he
      rw [show (a.take n).length = n from by rw [List.length_take, Nat.min_eq_left p1], List.length_take, Nat.min_eq_left p2] at this
      exact h this
    rw [show (!decide ((n : Int) = (n1 : Int))) = true by simp; omega, e5]; rfl

def PSb (j n : Nat) (full : List Msg) (n1 : Nat) (b : List Msg) (z : Int) : Bool := decide (n1 = n ∧ j + n ≤ full.length ∧ n1 ≤ b.length ∧ n < 399 ∧ 0 ≤ z ∧ z ≤ n)
def SSb (j n : Nat) (full : List Msg) (n1 : Nat) (b : List Msg) (z : Int) : Bool := sameL ((seg full j n).drop z.toNat) ((b.take n1).drop z.toNat)
def ltSb (j n c : Nat) (ex : Bool) (n1 : Nat) (z : Int) (full b : List Msg) (sp : Bool) (el : R.EL) : LT := .need (PSb j n full n1 b z) (.br (SSb j n full n1 b z) (.exit 0 [] [.r .msg full sp el, .rn .msg b 31]) (.ret [.bool false] [.r .msg full sp el, .rn .msg b 31]))
def ldSb : LoopD := ⟨[(0, none), (1, none), (5, none)], [], [(4, none)], fun vs ao => match vs, ao with
  | [.rs 0 j n c 4 ex, .ns 1 n1 4, .int .i64 z], [.r .msg full sp el, .rn .msg b 31] => some (n - z.toNat, ltSb j n c ex n1 z full b sp el)
  | _, _ => none⟩
theorem turnSb (j n c : Nat) (ex : Bool) (n1 : Nat) (z : Int) (full b : List Msg) (sp : Bool) (el : R.EL) (m : Nat) (rd k1 : R.EK) (y : List (Nat × R.EK)) :
    (turnD C Y0 (fun _ => none) 400 26 2 0 b21 ldSb m [.rs 0 j n c 4 ex, .ns 1 n1 4, .int .i64 z] [.r .msg full sp el, .rn .msg b 31] rd k1 y).ev =
    cond (decide (z < (↑n : Int))) (cond (decide (0 ≤ z) && decide (Int.toNat z < n)) (cond (Nat.blt (j + Int.toNat z) (List.length full)) (cond (Nat.ble n1 (List.length b)) (cond (decide (0 ≤ z) && decide (Int.toNat z < n1)) (cond (Nat.blt (Int.toNat z) (List.length b)) (cond ((decide (Prod.fst (rec full j z) = Prod.fst (recA b z)) && (decide (Prod.fst (Prod.snd (rec full j z)) = Prod.fst (Prod.snd (recA b z))) && (decide (Prod.fst (Prod.snd (Prod.snd (rec full j z))) = Prod.fst (Prod.snd (Prod.snd (recA b z)))) && (decide (Prod.snd (Prod.snd (Prod.snd (rec full j z))) = Prod.snd (Prod.snd (Prod.snd (recA b z)))) && true)))) != true) ((rd (envZ [4] [R.DV.bool false]) (mkD [DO.r RK.msg full sp el, DO.rn RK.msg b 31] 2)).ev) (cond (decide (n - Int.toNat (IntKind.wrap IntKind.i64 (z + 1)) < m)) (cond (PSb j n full n1 b (IntKind.wrap IntKind.i64 (z + 1))) (cond (SSb j n full n1 b (IntKind.wrap IntKind.i64 (z + 1))) ((k1 (envZ [] []) (mkD [DO.r RK.msg full sp el, DO.rn RK.msg b 31] 2)).ev) ((rd (envZ [4] [R.DV.bool false]) (mkD [DO.r RK.msg full sp el, DO.rn RK.msg b 31] 2)).ev)) none) none)) none) none) none) none) none) ((k1 (envZ [] []) (mkD [DO.r RK.msg full sp el, DO.rn RK.msg b 31] 2)).ev) := by kernel_rfl
theorem stepSb (j n c : Nat) (ex : Bool) (n1 : Nat) (z : Int) (full b : List Msg) (sp : Bool) (el : R.EL) (rd k1 : R.EK) (y : List (Nat × R.EK)) (w : R.DV × R.DH) (hw : ((ltSb j n c ex n1 z full b sp el).tree 2 ldSb rd ((0, k1) :: y)).ev = some w) :
    (turnD C Y0 (fun _ => none) 400 26 2 0 b21 ldSb (n - z.toNat) [.rs 0 j n c 4 ex, .ns 1 n1 4, .int .i64 z] [.r .msg full sp el, .rn .msg b 31] rd k1 y).ev = some w := by
  replace hw := lt_need hw
  obtain ⟨hp, hw⟩ := hw
  simp only [PSb, decide_eq_true_eq] at hp
  obtain ⟨rfl, p1, p2, p3, p4, p5⟩ := hp
  rw [lt_br] at hw
  replace hw : cond (SSb j n1 full n1 b z) (k1 (envZ [] []) (mkD [.r .msg full sp el, .rn .msg b 31] 2)).ev (rd (envZ [4] [R.DV.bool false]) (mkD [.r .msg full sp el, .rn .msg b 31] 2)).ev = some w := hw
  rw [turnSb]
  by_cases h1 : z < n1
  · have cz : (decide (0 ≤ z) && decide (z.toNat < n1)) = true := by rw [decide_eq_true p4, decide_eq_true (show z.toNat < n1 by omega)]; rfl
    have cz1 : Nat.blt (j + z.toNat) full.length = true := by
      have : j + z.toNat < full.length := by omega
      simpa using this
    have cz2 : Nat.blt z.toNat b.length = true := by
      have : z.toNat < b.length := by omega
      simpa using this
    have cn2 : Nat.ble n1 b.length = true := Nat.ble_eq_true_of_le p2
    have hm : decide (n1 - (z + 1).toNat < n1 - z.toNat) = true := decide_eq_true (by omega)
    have hP : PSb j n1 full n1 b (z + 1) = true := by
      simp only [PSb, decide_eq_true_eq]
      refine ⟨trivial, p1, p2, p3, ?_, ?_⟩ <;> omega
    have e5 : SSb j n1 full n1 b z = (sameE (rec full j z) (recA b z) && SSb j n1 full n1 b (z + 1)) := by
      unfold SSb
      rw [seg_rec p1 p4 h1, take_rec p2 p4 h1, same_cons]
    rw [e5] at hw
    rw [cT h1, nextI p4 h1 (by omega)]
    simp only [cz, cz1, cz2, cn2, hm, hP, cond_true]
    revert hw
    show _ → cond (sameE (rec full j z) (recA b z) != true) _ _ = _
    cases sameE (rec full j z) (recA b z) <;> exact id
  · skip
    rw [cF h1]
    have e5 : SSb j n1 full n1 b z = true := by
      unfold SSb
      rw [seg_end p1 h1 p4, take_end p2 h1 p4]; rfl
    rw [e5] at hw
    exact hw
theorem loopSb {n : Nat} (hn : 400 ≤ n) : LoopOk C.G 2 (callO noTmps C.O C.tab n) n 400 26 0 b21 ldSb := by
  refine loop_of C Y0 (lh := fun _ => none) hn ?_ (fun p _ ld h => by cases h) ?_
  · exact wf_loops _ none (wf_body (f := 21) rfl) (0, b21) (by rw [show loopsIn none c21.body = [(0, b21)] from rfl]; exact List.mem_cons_self)
  intro vs ao m t hs rd k1 y w hw
  unfold ldSb at hs
  simp only at hs
  split at hs
  case h_2 => cases hs
  cases hs
  exact stepSb _ _ _ _ _ _ _ _ _ _ _ _ _ _ hw
def okSb (j n : Nat) (full : List Msg) (n1 : Nat) (b : List Msg) : Bool := decide (j + n ≤ full.length ∧ n1 ≤ b.length ∧ n < 399)
def outSb (j n : Nat) (full : List Msg) (n1 : Nat) (b : List Msg) : RD := .need (okSb j n full n1 b) (.v (.bool (sameL (seg full j n) (b.take n1))) [])
theorem runSb (j n c : Nat) (ex : Bool) (n1 : Nat) (full b : List Msg) (sp : Bool) (el : R.EL) : runD C Y0 (lhX ldSb) 400 c21 [.rs 0 j n c 4 ex, .ns 1 n1 4] [.r .msg full sp el, .rn .msg b 31] =
    cond (Nat.ble n1 (List.length b)) (cond (!decide ((↑n : Int) = (↑n1 : Int))) (some (R.DV.bool false, (mkD [DO.r RK.msg full sp el, DO.rn RK.msg b 31] 2))) (cond (decide (n - 0 < 400)) (cond (PSb j n full n1 b 0) (cond (SSb j n full n1 b 0) (some (R.DV.bool true, (mkD [DO.r RK.msg full sp el, DO.rn RK.msg b 31] 2))) (some (R.DV.bool false, (mkD [DO.r RK.msg full sp el, DO.rn RK.msg b 31] 2)))) none) none)) none := by kernel_rfl
theorem lawSb (j n c : Nat) (ex : Bool) (n1 : Nat) (full b : List Msg) (sp : Bool) (el : R.EL) : LawOk C.G C.O C.tab 21 401 [.r .msg full sp el, .rn .msg b 31] [.rs 0 j n c 4 ex, .ns 1 n1 4] (outSb j n full n1 b) := by
  refine law_of C Y0 (lhX ldSb) rfl rfl (fun n hn => lhX_ok (Q := fun i b ld => LoopOk C.G 2 (callO noTmps C.O C.tab n) n 400 26 i b ld) rfl (loopSb hn)) fun z hz => ?_
  obtain ⟨hp, hz⟩ := R.ev_need hz
  refine (runSb j n c ex n1 full b sp el).trans ?_
  simp only [okSb, decide_eq_true_eq] at hp
  obtain ⟨p1, p2, p3⟩ := hp
  have cn2 : Nat.ble n1 b.length = true := Nat.ble_eq_true_of_le p2
  skip
  refine Eq.trans ?_ hz
  show _ = some (R.DV.bool (sameL (seg full j n) (b.take n1)), mkD [.r .msg full sp el, .rn .msg b 31] 2)
  rw [cn2]
  by_cases h : n = n1
  · subst h
    have e4 : PSb j n full n b 0 = true := by
      simp only [PSb, decide_eq_true_eq]
      refine ⟨trivial, p1, p2, p3, ?_, ?_⟩ <;> omega
    rw [show (!decide ((n : Int) = (n : Int))) = false by simp, cT (show n - 0 < 400 by omega), e4]
    have e5 : SSb j n full n b 0 = sameL (seg full j n) (b.take n) := rfl
    rw [e5]
    cases sameL (seg full j n) (b.take n) <;> rfl
  · have e5 : sameL (seg full j n) (b.take n1) = false := by
      unfold sameL
      rw [decide_eq_false_iff_not]
      intro he
      have := congrArg List.length he
      rw [show (seg full j n).length = n from seg_len p1, List.length_take, Nat.min_eq_left p2] at this
      exact h this
    rw [show (!decide ((n : Int) = (n1 : Int))) = true by simp; omega, e5]; rfl

theorem runSc (n1 : Nat) (b : List Msg) : runD C Y0 (fun _ => none) 400 c21 [.nils, .ns 0 n1 4] [.rn .msg b 31] =
    cond (Nat.ble n1 (List.length b)) (cond (!decide (0 = (↑n1 : Int))) (some (R.DV.bool false, (mkD [DO.rn RK.msg b 31] 1))) (some (R.DV.bool true, (mkD [DO.rn RK.msg b 31] 1)))) none := by kernel_rfl
theorem lawSc (n1 : Nat) (b : List Msg) : LawOk C.G C.O C.tab 21 401 [.rn .msg b 31] [.nils, .ns 0 n1 4] (.need (Nat.ble n1 b.length) (.v (.bool (Nat.beq n1 0)) [])) := by
  refine law_of C Y0 (fun _ => none) rfl rfl (fun n hn p _ ld e => by cases e) fun z hz => ?_
  obtain ⟨hp, hz⟩ := R.ev_need hz
  refine (runSc n1 b).trans (Eq.trans ?_ hz)
  rw [hp]
  show _ = some (R.DV.bool (Nat.beq n1 0), mkD [DO.rn RK.msg b 31] 1)
  cases n1 with
  | zero => rfl
  | succ m => rw [show (!decide ((0 : Int) = ((m + 1 : Nat) : Int))) = true by simp; omega]; rfl
end
end Go.Vm.YtkjjpmbpjfmbcaaGreatDoor
