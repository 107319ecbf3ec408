/-
  The laws of few, Size, Same and Clone.
-/
import Derived.Test.YtkjjpmbpjfmbcaaGreatDoorL16B
set_option linter.unusedVariables false
set_option linter.unusedSimpArgs false
namespace Go.Vm.YtkjjpmbpjfmbcaaGreatDoor
open Go.Proofs Go.Vm.R
noncomputable section

/-- the entries of a slice -/
def seg (full : List Ent) (j n : Nat) : List Ent := (full.drop j).take n
theorem seg_len {full : List Ent} {j n : Nat} (h : j + n ≤ full.length) : (seg full j n).length = n := by
  simp [seg]; omega
theorem seg_drop {full : List Ent} {j n : Nat} {z : Int} (h : j + n ≤ full.length) (h0 : 0 ≤ z) (h1 : z < n) : (seg full j n).drop z.toNat = rec full j z :: (seg full j n).drop (z + 1).toNat := by
  have hl := seg_len h
  rw [show (z + 1).toNat = z.toNat + 1 by omega, List.drop_eq_getElem_cons (by omega)]
  congr 1
  have : (seg full j n)[z.toNat]? = full[j + z.toNat]? := by
    unfold seg
    rw [List.getElem?_take_of_lt (by omega), List.getElem?_drop]
  unfold rec
  rw [List.getD_eq_getElem?_getD, ← this, List.getElem?_eq_getElem (by omega)]; rfl
theorem seg_end {full : List Ent} {j n : Nat} {z : Int} (h : j + n ≤ full.length) (h1 : ¬ z < n) (h0 : 0 ≤ z) : (seg full j n).drop z.toNat = [] := by
  have hl := seg_len h
  exact List.drop_eq_nil_of_le (by omega)

/-! ### few -/
def shortE (e : Ent) : Bool := !decide (300 < (e.1.length : Int)) && !decide (300 < (e.2.length : Int))
def fewL (l : List Ent) : Bool := l.all shortE && decide ((l.length : Int) ≤ 60)
theorem shortL_all {full : List Ent} {j n : Nat} (hj : j + n ≤ full.length) (hn : n ≤ 60) : ∀ (m : Nat) (z : Int), 0 ≤ z → z ≤ n → n < m + z → shortL full j n m z = ((seg full j n).drop z.toNat).all shortE
  | 0, z, h0, h1, h2 => by omega
  | m + 1, z, h0, h1, h2 => by
    rw [shortL_succ]
    by_cases h3 : z < n
    · rw [cT h3, cT (show z < 70 by omega), seg_drop hj h0 h3, List.all_cons, ← shortL_all hj hn m (z + 1) (by omega) (by omega) (by omega)]
      unfold shortE
      cases decide (300 < ((rec full j z).1.length : Int)) <;> cases decide (300 < ((rec full j z).2.length : Int)) <;> rfl
    · rw [cF h3, seg_end hj h3 h0]; rfl
theorem few_eq {full : List Ent} {j n : Nat} (hj : j + n ≤ full.length) : cond (shortL full j n 71 0) (decide ((n : Int) ≤ 60)) false = fewL (seg full j n) := by
  unfold fewL
  rw [seg_len hj]
  by_cases hn : n ≤ 60
  · rw [shortL_all hj hn 71 0 (by omega) (by omega) (by omega)]
    show cond ((seg full j n).all shortE) _ _ = _
    cases (seg full j n).all shortE <;> rfl
  · rw [show decide ((n : Int) ≤ 60) = false by simp; omega, Bool.and_false]
    cases shortL full j n 71 0 <;> rfl

def lhX (ld : LoopD) : Nat → Option LoopD := fun id => match Nat.beq id 0 with
  | true => some ld
  | false => none
theorem lhX_ok {Q : Nat → CC → LoopD → Prop} {ld : LoopD} {l : List (Nat × CC)} {b : CC} (hl : l = [(0, b)]) (h : Q 0 b ld) : ∀ p ∈ l, ∀ d, lhX ld p.1 = some d → Q p.1 p.2 d := by
  subst hl
  intro p hp d e
  cases List.mem_singleton.1 hp
  cases e
  exact h
def out31 (full : List Ent) (j n : Nat) : RD := .need (okS full j n 0) (.v (.bool (fewL (seg full j n))) [])
theorem run31 (j n c : Nat) (ex : Bool) (full : List Ent) (sp : Bool) (el : R.EL) : runD C Y0 (lhX ld31) 100 c31 [.rs 0 j n c 2 ex] [.r .ent full sp el] =
    cond (okS full j n 0 && true) (cond (shortL full j n 71 0) (some (R.DV.bool (decide ((↑n : Int) ≤ 60)), (mkD [DO.r RK.ent full sp el] 1))) (some (R.DV.bool false, (mkD [DO.r RK.ent full sp el] 1)))) none := by kernel_rfl
theorem law31 (j n c : Nat) (ex : Bool) (full : List Ent) (sp : Bool) (el : R.EL) : LawOk C.G C.O C.tab 31 101 [.r .ent full sp el] [.rs 0 j n c 2 ex] (out31 full j n) := by
  refine law_of C Y0 (lhX ld31) rfl rfl (fun n hn => lhX_ok (Q := fun i b ld => LoopOk C.G 1 (callO noTmps C.O C.tab n) n 100 33 i b ld) rfl (loop31 hn)) fun z hz => ?_
  obtain ⟨hp, hz⟩ := R.ev_need hz
  refine (run31 j n c ex full sp el).trans ?_
  rw [hp]
  have := few_eq (okS_iff.1 hp).2.2.1
  cases hs : shortL full j n 71 0 <;> rw [hs] at this <;> (refine Eq.trans ?_ hz) <;> show some _ = some _ <;> rw [← this] <;> rfl
theorem law31n : LawOk C.G C.O C.tab 31 101 [] [.nils] (.v (.bool true) []) := by
  refine law_of C Y0 (fun _ => none) rfl rfl (fun n hn p _ ld e => by cases e) fun z hz => ?_
  refine Eq.trans ?_ hz
  kernel_rfl

/-! ### Size -/
def size1 (e : Ent) : Int := (e.1.length : Int) + (e.2.length : Int) + 4
def sizeL : List Ent → Int
  | [] => 0
  | e :: r => size1 e + sizeL r
theorem size1_pos (e : Ent) : 0 < size1 e := by unfold size1; omega
theorem sizeL_nn : ∀ l, 0 ≤ sizeL l
  | [] => Int.le_refl _
  | e :: r => by have := sizeL_nn r; have := size1_pos e; show 0 ≤ size1 e + sizeL r; omega
theorem sizeL_app : ∀ a b, sizeL (a ++ b) = sizeL a + sizeL b
  | [], b => by simp [sizeL]
  | e :: r, b => by simp only [List.cons_append, sizeL, sizeL_app r b]; omega
def okN (full : List Ent) (j n : Nat) : Bool := decide (j + n ≤ full.length ∧ n < 99)
theorem okN_iff {full : List Ent} {j n : Nat} : okN full j n = true ↔ (j + n ≤ full.length ∧ n < 99) := by simp [okN]

def b50 : CC := lp (bl (at3 (fl (at3 c50.body))))
def P50 (j n : Nat) (full : List Ent) (n' s z : Int) : Bool := decide (n' = n ∧ j + n ≤ full.length ∧ n < 99 ∧ 0 ≤ z ∧ z ≤ n ∧ 0 ≤ s ∧ s + sizeL ((seg full j n).drop z.toNat) < 1152921504606846976)
def S50 (j n : Nat) (full : List Ent) (s z : Int) : Int := s + sizeL ((seg full j n).drop z.toNat)
def lt50 (j n c : Nat) (ex : Bool) (s n' z : Int) (full : List Ent) (sp : Bool) (el : R.EL) : LT := .need (P50 j n full n' s z) (.exit 0 [.int .i64 (S50 j n full s z)] [.r .ent full sp el])
def ld50 : LoopD := ⟨[(2, none), (5, none), (6, none), (7, none)], [(2, none)], [], fun vs ao => match vs, ao with
  | [.int .i64 s, .rs 0 j n c 2 ex, .int .i64 n', .int .i64 z], [.r .ent full sp el] => some (n - z.toNat, lt50 j n c ex s n' z full sp el)
  | _, _ => none⟩
theorem turn50 (j n c : Nat) (ex : Bool) (s n' z : Int) (full : List Ent) (sp : Bool) (el : R.EL) (m : Nat) (rd k1 : R.EK) (y : List (Nat × R.EK)) :
    (turnD C Y0 (fun _ => none) 100 23 1 0 b50 ld50 m [.int .i64 s, .rs 0 j n c 2 ex, .int .i64 n', .int .i64 z] [.r .ent full sp el] rd k1 y).ev =
    cond (decide (z < n')) (cond (decide (0 ≤ z) && decide (Int.toNat z < n)) (cond (Nat.blt (j + Int.toNat z) (List.length full)) (cond (decide (n - Int.toNat (IntKind.wrap IntKind.i64 (z + 1)) < m)) (cond (P50 j n full n' (IntKind.wrap IntKind.i64 (s + IntKind.wrap IntKind.i64 (IntKind.wrap IntKind.i64 ((↑(List.length (Prod.fst (List.getD full (j + Int.toNat z) (RK.zero RK.ent)))) : Int) + (↑(List.length (Prod.snd (List.getD full (j + Int.toNat z) (RK.zero RK.ent)))) : Int)) + 4))) (IntKind.wrap IntKind.i64 (z + 1))) ((k1 (envZ [2] [R.DV.int IntKind.i64 (S50 j n full (IntKind.wrap IntKind.i64 (s + IntKind.wrap IntKind.i64 (IntKind.wrap IntKind.i64 ((↑(List.length (Prod.fst (List.getD full (j + Int.toNat z) (RK.zero RK.ent)))) : Int) + (↑(List.length (Prod.snd (List.getD full (j + Int.toNat z) (RK.zero RK.ent)))) : Int)) + 4))) (IntKind.wrap IntKind.i64 (z + 1)))]) (mkD [DO.r RK.ent full sp el] 1)).ev) none) none) none) none) ((k1 (envZ [2] [R.DV.int IntKind.i64 s]) (mkD [DO.r RK.ent full sp el] 1)).ev) := by kernel_rfl
theorem step50 (j n c : Nat) (ex : Bool) (s n' z : Int) (full : List Ent) (sp : Bool) (el : R.EL) (rd k1 : R.EK) (y : List (Nat × R.EK)) (w : R.DV × R.DH) (hw : ((lt50 j n c ex s n' z full sp el).tree 1 ld50 rd ((0, k1) :: y)).ev = some w) :
    (turnD C Y0 (fun _ => none) 100 23 1 0 b50 ld50 (n - z.toNat) [.int .i64 s, .rs 0 j n c 2 ex, .int .i64 n', .int .i64 z] [.r .ent full sp el] rd k1 y).ev = some w := by
  replace hw := lt_need hw
  obtain ⟨hp, hw⟩ := hw
  have hp' := hp
  simp only [P50, decide_eq_true_eq] at hp
  obtain ⟨rfl, p1, p2, p3, p4, p5, p6⟩ := hp
  replace hw : (k1 (envZ [2] [R.DV.int IntKind.i64 (S50 j n full s z)]) (mkD [DO.r RK.ent full sp el] 1)).ev = some w := hw
  rw [turn50]
  unfold S50 at hw
  by_cases h1 : z < n
  · have b1 : z.toNat < n := by omega
    have e := seg_drop p1 p3 h1
    rw [e] at hw p6
    have q1 := sizeL_nn ((seg full j n).drop (z + 1).toNat)
    have q2 : sizeL (rec full j z :: (seg full j n).drop (z + 1).toNat) = size1 (rec full j z) + sizeL ((seg full j n).drop (z + 1).toNat) := rfl
    rw [q2] at hw p6
    have q3 : size1 (rec full j z) = ((rec full j z).1.length : Int) + ((rec full j z).2.length : Int) + 4 := rfl
    rw [cT h1, cA p3 b1, cB (show j + z.toNat < full.length by omega), nextI p3 h1 (by omega), cT (by omega)]
    have e1 : IntKind.wrap IntKind.i64 (((rec full j z).1.length : Int) + ((rec full j z).2.length : Int)) = ((rec full j z).1.length : Int) + ((rec full j z).2.length : Int) := wrap_i64 (by omega) (by omega)
    have e2 : IntKind.wrap IntKind.i64 (((rec full j z).1.length : Int) + ((rec full j z).2.length : Int) + 4) = size1 (rec full j z) := wrap_i64 (by omega) (by omega)
    have e3 : IntKind.wrap IntKind.i64 (s + size1 (rec full j z)) = s + size1 (rec full j z) := wrap_i64 (by omega) (by omega)
    have e4 : P50 j n full n (s + size1 (rec full j z)) (z + 1) = true := by
      simp only [P50, decide_eq_true_eq]
      refine ⟨trivial, p1, p2, ?_, ?_, ?_, ?_⟩ <;> omega
    show cond (P50 j n full n (IntKind.wrap IntKind.i64 (s + IntKind.wrap IntKind.i64 (IntKind.wrap IntKind.i64 (((rec full j z).1.length : Int) + ((rec full j z).2.length : Int)) + 4))) (z + 1)) (k1 (envZ [2] [R.DV.int IntKind.i64 (S50 j n full (IntKind.wrap IntKind.i64 (s + IntKind.wrap IntKind.i64 (IntKind.wrap IntKind.i64 (((rec full j z).1.length : Int) + ((rec full j z).2.length : Int)) + 4))) (z + 1))]) (mkD [DO.r RK.ent full sp el] 1)).ev none = some w
    rw [e1, e2, e3, e4]
    unfold S50
    rw [show s + size1 (rec full j z) + sizeL ((seg full j n).drop (z + 1).toNat) = s + (size1 (rec full j z) + sizeL ((seg full j n).drop (z + 1).toNat)) by omega]
    exact hw
  · rw [cF h1]
    rw [seg_end p1 h1 p3, show s + sizeL [] = s by simp [sizeL]] at hw
    exact hw
theorem loop50 {n : Nat} (hn : 100 ≤ n) : LoopOk C.G 1 (callO noTmps C.O C.tab n) n 100 23 0 b50 ld50 := by
  refine loop_of C Y0 (lh := fun _ => none) hn ?_ (fun p _ ld h => by cases h) ?_
  · exact wf_lp (wf_bl (wf_at3 (wf_fl (wf_at3 (wf_body (f := 50) rfl)))))
  intro vs ao m t hs rd k1 y w hw
  unfold ld50 at hs
  simp only at hs
  split at hs
  case h_2 => cases hs
  cases hs
  exact step50 _ _ _ _ _ _ _ _ _ _ _ _ _ _ hw
def okZ (full : List Ent) (j n : Nat) : Bool := decide (j + n ≤ full.length ∧ n < 99 ∧ sizeL (seg full j n) < 1152921504606846976)
def out50 (full : List Ent) (j n : Nat) : RD := .need (okZ full j n) (.v (.int .i64 (sizeL (seg full j n))) [])
theorem run50 (j n c : Nat) (ex : Bool) (full : List Ent) (sp : Bool) (el : R.EL) : runD C Y0 (lhX ld50) 100 c50 [.rs 0 j n c 2 ex] [.r .ent full sp el] =
    cond (decide (n - 0 < 100)) (cond (P50 j n full (↑n : Int) 0 0) (some (R.DV.int IntKind.i64 (S50 j n full 0 0), (mkD [DO.r RK.ent full sp el] 1))) none) none := by kernel_rfl
theorem law50 (j n c : Nat) (ex : Bool) (full : List Ent) (sp : Bool) (el : R.EL) : LawOk C.G C.O C.tab 50 101 [.r .ent full sp el] [.rs 0 j n c 2 ex] (out50 full j n) := by
  refine law_of C Y0 (lhX ld50) rfl rfl (fun n hn => lhX_ok (Q := fun i b ld => LoopOk C.G 1 (callO noTmps C.O C.tab n) n 100 23 i b ld) rfl (loop50 hn)) fun z hz => ?_
  obtain ⟨hp, hz⟩ := R.ev_need hz
  refine (run50 j n c ex full sp el).trans ?_
  simp only [okZ, decide_eq_true_eq] at hp
  obtain ⟨p1, p2, p3⟩ := hp
  have e4 : P50 j n full n 0 0 = true := by
    simp only [P50, decide_eq_true_eq]
    refine ⟨trivial, p1, p2, ?_, ?_, ?_, ?_⟩ <;> first | omega | (show 0 + sizeL (seg full j n) < _; omega)
  rw [cT (show n - 0 < 100 by omega), e4]
  refine Eq.trans ?_ hz
  show some (R.DV.int .i64 (0 + sizeL (seg full j n)), _) = some _
  rw [Int.zero_add]; rfl
theorem law50n : LawOk C.G C.O C.tab 50 101 [] [.nils] (.v (.int .i64 0) []) := by
  refine law_of C Y0 (fun _ => none) rfl rfl (fun n hn p _ ld e => by cases e) fun z hz => ?_
  refine Eq.trans ?_ hz
  kernel_rfl

/-! ### Same -/
def b37 : CC := lp (bl (at3 (fl (at3 (at3 c37.body)))))
def P37 (j n : Nat) (full : List Ent) (j1 n1 : Nat) (full1 : List Ent) (n' z : Int) : Bool := decide (n' = n ∧ n1 = n ∧ j + n ≤ full.length ∧ j1 + n1 ≤ full1.length ∧ n < 99 ∧ 0 ≤ z ∧ z ≤ n)
def S37 (j n : Nat) (full : List Ent) (j1 n1 : Nat) (full1 : List Ent) (z : Int) : Bool := decide ((seg full j n).drop z.toNat = (seg full1 j1 n1).drop z.toNat)
def lt37 (j n c : Nat) (ex : Bool) (j1 n1 c1 : Nat) (ex1 : Bool) (n' z : Int) (full full1 : List Ent) (sp sp1 : Bool) (el el1 : R.EL) : LT := .need (P37 j n full j1 n1 full1 n' z) (.br (S37 j n full j1 n1 full1 z) (.exit 0 [] [.r .ent full sp el, .r .ent full1 sp1 el1]) (.ret [.bool false] [.r .ent full sp el, .r .ent full1 sp1 el1]))
def ld37 : LoopD := ⟨[(0, none), (1, none), (12, none), (13, none)], [], [(4, none)], fun vs ao => match vs, ao with
  | [.rs 0 j n c 2 ex, .rs 1 j1 n1 c1 2 ex1, .int .i64 n', .int .i64 z], [.r .ent full sp el, .r .ent full1 sp1 el1] => some (n - z.toNat, lt37 j n c ex j1 n1 c1 ex1 n' z full full1 sp sp1 el el1)
  | _, _ => none⟩
theorem turn37 (j n c : Nat) (ex : Bool) (j1 n1 c1 : Nat) (ex1 : Bool) (n' z : Int) (full full1 : List Ent) (sp sp1 : Bool) (el el1 : R.EL) (m : Nat) (rd k1 : R.EK) (y : List (Nat × R.EK)) :
    (turnD C Y0 (fun _ => none) 100 26 2 0 b37 ld37 m [.rs 0 j n c 2 ex, .rs 1 j1 n1 c1 2 ex1, .int .i64 n', .int .i64 z] [.r .ent full sp el, .r .ent full1 sp1 el1] rd k1 y).ev =
    cond (decide (z < n')) (cond (decide (0 ≤ z) && decide (Int.toNat z < n)) (cond (Nat.blt (j + Int.toNat z) (List.length full)) (cond (decide (0 ≤ z) && decide (Int.toNat z < n1)) (cond (Nat.blt (j1 + Int.toNat z) (List.length full1)) (cond ((decide (Prod.fst (List.getD full (j + Int.toNat z) (RK.zero RK.ent)) = Prod.fst (List.getD full1 (j1 + Int.toNat z) (RK.zero RK.ent))) && (decide (Prod.snd (List.getD full (j + Int.toNat z) (RK.zero RK.ent)) = Prod.snd (List.getD full1 (j1 + Int.toNat z) (RK.zero RK.ent))) && true)) != true) ((rd (envZ [4] [R.DV.bool false]) (mkD [DO.r RK.ent full sp el, DO.r RK.ent full1 sp1 el1] 2)).ev) (cond (decide (n - Int.toNat (IntKind.wrap IntKind.i64 (z + 1)) < m)) (cond (P37 j n full j1 n1 full1 n' (IntKind.wrap IntKind.i64 (z + 1))) (cond (S37 j n full j1 n1 full1 (IntKind.wrap IntKind.i64 (z + 1))) ((k1 (envZ [] []) (mkD [DO.r RK.ent full sp el, DO.r RK.ent full1 sp1 el1] 2)).ev) ((rd (envZ [4] [R.DV.bool false]) (mkD [DO.r RK.ent full sp el, DO.r RK.ent full1 sp1 el1] 2)).ev)) none) none)) none) none) none) none) ((k1 (envZ [] []) (mkD [DO.r RK.ent full sp el, DO.r RK.ent full1 sp1 el1] 2)).ev) := by kernel_rfl
theorem step37 (j n c : Nat) (ex : Bool) (j1 n1 c1 : Nat) (ex1 : Bool) (n' z : Int) (full full1 : List Ent) (sp sp1 : Bool) (el el1 : R.EL) (rd k1 : R.EK) (y : List (Nat × R.EK)) (w : R.DV × R.DH) (hw : ((lt37 j n c ex j1 n1 c1 ex1 n' z full full1 sp sp1 el el1).tree 2 ld37 rd ((0, k1) :: y)).ev = some w) :
    (turnD C Y0 (fun _ => none) 100 26 2 0 b37 ld37 (n - z.toNat) [.rs 0 j n c 2 ex, .rs 1 j1 n1 c1 2 ex1, .int .i64 n', .int .i64 z] [.r .ent full sp el, .r .ent full1 sp1 el1] rd k1 y).ev = some w := by
  replace hw := lt_need hw
  obtain ⟨hp, hw⟩ := hw
  simp only [P37, decide_eq_true_eq] at hp
  obtain ⟨rfl, rfl, p1, p2, p3, p4, p5⟩ := hp
  rw [lt_br] at hw
  replace hw : cond (S37 j n1 full j1 n1 full1 z) (k1 (envZ [] []) (mkD [DO.r RK.ent full sp el, DO.r RK.ent full1 sp1 el1] 2)).ev (rd (envZ [4] [R.DV.bool false]) (mkD [DO.r RK.ent full sp el, DO.r RK.ent full1 sp1 el1] 2)).ev = some w := hw
  rw [turn37]
  by_cases h1 : z < n1
  · have b1 : z.toNat < n1 := by omega
    have e4 : P37 j n1 full j1 n1 full1 n1 (z + 1) = true := by
      simp only [P37, decide_eq_true_eq]
      refine ⟨trivial, trivial, p1, p2, p3, ?_, ?_⟩ <;> omega
    rw [cT h1, cA p4 b1, cB (show j + z.toNat < full.length by omega), cA p4 b1, cB (show j1 + z.toNat < full1.length by omega), nextI p4 h1 (by omega), cT (show n1 - (z + 1).toNat < n1 - z.toNat by omega), e4]
    have e5 : S37 j n1 full j1 n1 full1 z = ((decide ((rec full j z).1 = (rec full1 j1 z).1) && (decide ((rec full j z).2 = (rec full1 j1 z).2) && true)) && S37 j n1 full j1 n1 full1 (z + 1)) := by
      unfold S37
      rw [seg_drop p1 p4 h1, seg_drop p2 p4 h1]
      rw [Bool.eq_iff_iff]
      simp only [decide_eq_true_eq, Bool.and_eq_true, List.cons.injEq, and_true, Prod.ext_iff]
    rw [e5] at hw
    show cond ((decide ((rec full j z).1 = (rec full1 j1 z).1) && (decide ((rec full j z).2 = (rec full1 j1 z).2) && true)) != true) _ _ = _
    revert hw
    cases (decide ((rec full j z).1 = (rec full1 j1 z).1) && (decide ((rec full j z).2 = (rec full1 j1 z).2) && true)) <;> exact id
  · rw [cF h1]
    have e5 : S37 j n1 full j1 n1 full1 z = true := by
      unfold S37
      rw [seg_end p1 h1 p4, seg_end p2 h1 p4]; rfl
    rw [e5] at hw
    exact hw
theorem loop37 {n : Nat} (hn : 100 ≤ n) : LoopOk C.G 2 (callO noTmps C.O C.tab n) n 100 26 0 b37 ld37 := by
  refine loop_of C Y0 (lh := fun _ => none) hn ?_ (fun p _ ld h => by cases h) ?_
  · exact wf_lp (wf_bl (wf_at3 (wf_fl (wf_at3 (wf_at3 (wf_body (f := 37) rfl))))))
  intro vs ao m t hs rd k1 y w hw
  unfold ld37 at hs
  simp only at hs
  split at hs
  case h_2 => cases hs
  cases hs
  exact step37 _ _ _ _ _ _ _ _ _ _ _ _ _ _ _ _ _ _ _ _ hw
def sameL (a b : List Ent) : Bool := decide (a = b)
def out37 (full : List Ent) (j n : Nat) (full1 : List Ent) (j1 n1 : Nat) : RD := .need (okN full j n && okN full1 j1 n1) (.v (.bool (sameL (seg full j n) (seg full1 j1 n1))) [])
theorem run37 (j n c : Nat) (ex : Bool) (j1 n1 c1 : Nat) (ex1 : Bool) (full full1 : List Ent) (sp sp1 : Bool) (el el1 : R.EL) : runD C Y0 (lhX ld37) 100 c37 [.rs 0 j n c 2 ex, .rs 1 j1 n1 c1 2 ex1] [.r .ent full sp el, .r .ent full1 sp1 el1] =
    cond (!decide ((↑n : Int) = (↑n1 : Int))) (some (R.DV.bool false, (mkD [DO.r RK.ent full sp el, DO.r RK.ent full1 sp1 el1] 2))) (cond (decide (n - 0 < 100)) (cond (P37 j n full j1 n1 full1 (↑n : Int) 0) (cond (S37 j n full j1 n1 full1 0) (some (R.DV.bool true, (mkD [DO.r RK.ent full sp el, DO.r RK.ent full1 sp1 el1] 2))) (some (R.DV.bool false, (mkD [DO.r RK.ent full sp el, DO.r RK.ent full1 sp1 el1] 2)))) none) none) := by kernel_rfl
theorem law37 (j n c : Nat) (ex : Bool) (j1 n1 c1 : Nat) (ex1 : Bool) (full full1 : List Ent) (sp sp1 : Bool) (el el1 : R.EL) : LawOk C.G C.O C.tab 37 101 [.r .ent full sp el, .r .ent full1 sp1 el1] [.rs 0 j n c 2 ex, .rs 1 j1 n1 c1 2 ex1] (out37 full j n full1 j1 n1) := by
  refine law_of C Y0 (lhX ld37) rfl rfl (fun n hn => lhX_ok (Q := fun i b ld => LoopOk C.G 2 (callO noTmps C.O C.tab n) n 100 26 i b ld) rfl (loop37 hn)) fun z hz => ?_
  obtain ⟨hp, hz⟩ := R.ev_need hz
  refine (run37 j n c ex j1 n1 c1 ex1 full full1 sp sp1 el el1).trans ?_
  simp only [Bool.and_eq_true, okN_iff] at hp
  obtain ⟨⟨p1, p2⟩, p3, p4⟩ := hp
  refine Eq.trans ?_ hz
  show _ = some (R.DV.bool (sameL (seg full j n) (seg full1 j1 n1)), mkD [DO.r RK.ent full sp el, DO.r RK.ent full1 sp1 el1] 2)
  by_cases h : n = n1
  · subst h
    have e4 : P37 j n full j1 n full1 n 0 = true := by
      simp only [P37, decide_eq_true_eq]
      refine ⟨trivial, trivial, p1, p3, p2, ?_, ?_⟩ <;> omega
    rw [show (!decide ((n : Int) = (n : Int))) = false by simp, cT (show n - 0 < 100 by omega), e4]
    have e5 : S37 j n full j1 n full1 0 = sameL (seg full j n) (seg full1 j1 n) := rfl
    rw [e5]
    cases sameL (seg full j n) (seg full1 j1 n) <;> rfl
  · have e5 : sameL (seg full j n) (seg full1 j1 n1) = false := by
      unfold sameL
      rw [decide_eq_false_iff_not]
      intro he
      have := congrArg List.length he
      rw [seg_len p1, seg_len p3] at this
      exact h this
    rw [show (!decide ((n : Int) = (n1 : Int))) = true by simp; omega, e5]; rfl
theorem law37n : LawOk C.G C.O C.tab 37 101 [] [.nils, .nils] (.v (.bool true) []) := by
  refine law_of C Y0 (fun _ => none) rfl rfl (fun n hn p _ ld e => by cases e) fun z hz => ?_
  refine Eq.trans ?_ hz
  kernel_rfl
end
end Go.Vm.YtkjjpmbpjfmbcaaGreatDoor
