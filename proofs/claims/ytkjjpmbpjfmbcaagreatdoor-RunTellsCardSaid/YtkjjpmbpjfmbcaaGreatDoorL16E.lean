/-
  The law of Halve.
-/
import Derived.Test.YtkjjpmbpjfmbcaaGreatDoorL16D
set_option linter.unusedVariables false
set_option linter.unusedSimpArgs false
namespace Go.Vm.YtkjjpmbpjfmbcaaGreatDoor
open Go.Proofs Go.Vm.R
noncomputable section
/-- how many entries are taken until half is reached -/
def hv (h : Int) : Int → List Ent → Nat → Nat
  | _, [], k => k
  | s, e :: r, k => cond (decide (k = 0)) (hv h (s + size1 e) r (k + 1)) (cond (decide (s < h)) (hv h (s + size1 e) r (k + 1)) k)
theorem hv_le (h : Int) : ∀ (l : List Ent) (s : Int) (k : Nat), k ≤ hv h s l k ∧ hv h s l k ≤ k + l.length
  | [], s, k => ⟨Nat.le_refl _, Nat.le_refl _⟩
  | e :: r, s, k => by
    have := hv_le h r (s + size1 e) (k + 1)
    unfold hv
    rw [List.length_cons]
    cases decide (k = 0)
    · cases decide (s < h)
      · exact ⟨Nat.le_refl _, by show k ≤ _; omega⟩
      · exact ⟨by show k ≤ hv _ _ _ _; omega, by show hv _ _ _ _ ≤ _; omega⟩
    · exact ⟨by show k ≤ hv _ _ _ _; omega, by show hv _ _ _ _ ≤ _; omega⟩
theorem hv_pos (h s : Int) (e : Ent) (r : List Ent) : 1 ≤ hv h s (e :: r) 0 := by
  show 1 ≤ hv h (s + size1 e) r 1
  exact (hv_le h r _ 1).1
/-- how many entries the first half has -/
def halfN (l : List Ent) : Nat :=
  let k := hv (Int.tdiv (sizeL l) 2) 0 l 0
  cond (decide ((k : Int) = (l.length : Int))) (cond (decide (1 < (k : Int))) (k - 1) k) k
theorem halfN_le (l : List Ent) : halfN l ≤ l.length := by
  have := (hv_le (Int.tdiv (sizeL l) 2) l 0 0).2
  unfold halfN
  simp only
  cases decide ((hv (Int.tdiv (sizeL l) 2) 0 l 0 : Int) = (l.length : Int))
  · show hv _ _ _ _ ≤ _; omega
  · cases decide (1 < (hv (Int.tdiv (sizeL l) 2) 0 l 0 : Int))
    · show hv _ _ _ _ ≤ _; omega
    · show hv _ _ _ _ - 1 ≤ _; omega
theorem halfN_pos {l : List Ent} (h : l ≠ []) : 1 ≤ halfN l := by
  cases l with
  | nil => exact absurd rfl h
  | cons e r =>
    have := hv_pos (Int.tdiv (sizeL (e :: r)) 2) 0 e r
    unfold halfN
    simp only
    cases decide ((hv (Int.tdiv (sizeL (e :: r)) 2) 0 (e :: r) 0 : Int) = ((e :: r).length : Int))
    · exact this
    · by_cases h2 : 1 < (hv (Int.tdiv (sizeL (e :: r)) 2) 0 (e :: r) 0 : Int)
      · rw [cT h2]; show 1 ≤ hv _ _ _ _ - 1; omega
      · rw [cF h2]; exact this

theorem seg_one {full : List Ent} {j n : Nat} {z : Int} (h : j + n ≤ full.length) (h0 : 0 ≤ z) (h1 : z < n) : seg full (j + z.toNat) 1 = [rec full j z] := by
  have hl : (seg full (j + z.toNat) 1).length = 1 := seg_len (by omega)
  have e := seg_drop (full := full) (j := j + z.toNat) (n := 1) (z := 0) (by omega) (by omega) (by omega)
  have e2 : rec full (j + z.toNat) 0 = rec full j z := rfl
  rw [e2] at e
  have e3 : (seg full (j + z.toNat) 1).drop (0 + 1 : Int).toNat = [] := List.drop_eq_nil_of_le (by rw [hl]; decide)
  rw [e3] at e
  exact e
def b49 : CC := lp (bl (fl (at3 (at3 (at3 c49.body)))))
def P49 (j n c : Nat) (full : List Ent) (h s z : Int) : Bool := decide (j + n ≤ full.length ∧ n < 99 ∧ n ≤ c ∧ 0 ≤ z ∧ z ≤ n ∧ 0 ≤ s ∧ s + sizeL ((seg full j n).drop z.toNat) < 1152921504606846976)
def S49 (j n : Nat) (full : List Ent) (h s z : Int) : Int := (hv h s ((seg full j n).drop z.toNat) z.toNat : Nat)
def lt49 (j n c : Nat) (ex : Bool) (h s z : Int) (full : List Ent) (sp : Bool) (el : R.EL) : LT := .need (P49 j n c full h s z) (.exit 0 [.rs 0 j n c 2 ex, .int .i64 (S49 j n full h s z)] [.r .ent full sp el])
def ld49 : LoopD := ⟨[(0, none), (4, none), (5, none), (6, none)], [(0, none), (6, none)], [], fun vs ao => match vs, ao with
  | [.rs 0 j n c 2 ex, .int .i64 h, .int .i64 s, .int .i64 z], [.r .ent full sp el] => some (n - z.toNat, lt49 j n c ex h s z full sp el)
  | _, _ => none⟩
theorem turn49 (j n c : Nat) (ex : Bool) (h s z : Int) (full : List Ent) (sp : Bool) (el : R.EL) (m : Nat) (rd k1 : R.EK) (y : List (Nat × R.EK)) :
    (turnD C Y1 (fun _ => none) 110 51 1 0 b49 ld49 m [.rs 0 j n c 2 ex, .int .i64 h, .int .i64 s, .int .i64 z] [.r .ent full sp el] rd k1 y).ev =
    cond (decide (z < (↑n : Int))) (cond (decide (z = 0)) (cond (decide (0 ≤ IntKind.wrap IntKind.i64 (z + 1)) && (decide (0 ≤ z) && (decide (c ≤ c) && (decide (Int.toNat (IntKind.wrap IntKind.i64 (z + 1)) ≤ c) && (decide (Int.toNat z ≤ Int.toNat (IntKind.wrap IntKind.i64 (z + 1))) && true))))) (cond (okZ full (j + Int.toNat z) (Int.toNat (IntKind.wrap IntKind.i64 (z + 1)) - Int.toNat z)) (cond (decide (n - Int.toNat (IntKind.wrap IntKind.i64 (z + 1)) < m)) (cond (P49 j n c full h (IntKind.wrap IntKind.i64 (s + sizeL (seg full (j + Int.toNat z) (Int.toNat (IntKind.wrap IntKind.i64 (z + 1)) - Int.toNat z)))) (IntKind.wrap IntKind.i64 (z + 1))) ((k1 (envZ [0, 6] [DV.rs 0 j n c 2 ex, R.DV.int IntKind.i64 (S49 j n full h (IntKind.wrap IntKind.i64 (s + sizeL (seg full (j + Int.toNat z) (Int.toNat (IntKind.wrap IntKind.i64 (z + 1)) - Int.toNat z)))) (IntKind.wrap IntKind.i64 (z + 1)))]) (mkD [DO.r RK.ent full sp el] 1)).ev) none) none) none) none) (cond (decide (s < h)) (cond (decide (0 ≤ IntKind.wrap IntKind.i64 (z + 1)) && (decide (0 ≤ z) && (decide (c ≤ c) && (decide (Int.toNat (IntKind.wrap IntKind.i64 (z + 1)) ≤ c) && (decide (Int.toNat z ≤ Int.toNat (IntKind.wrap IntKind.i64 (z + 1))) && true))))) (cond (okZ full (j + Int.toNat z) (Int.toNat (IntKind.wrap IntKind.i64 (z + 1)) - Int.toNat z)) (cond (decide (n - Int.toNat (IntKind.wrap IntKind.i64 (z + 1)) < m)) (cond (P49 j n c full h (IntKind.wrap IntKind.i64 (s + sizeL (seg full (j + Int.toNat z) (Int.toNat (IntKind.wrap IntKind.i64 (z + 1)) - Int.toNat z)))) (IntKind.wrap IntKind.i64 (z + 1))) ((k1 (envZ [0, 6] [DV.rs 0 j n c 2 ex, R.DV.int IntKind.i64 (S49 j n full h (IntKind.wrap IntKind.i64 (s + sizeL (seg full (j + Int.toNat z) (Int.toNat (IntKind.wrap IntKind.i64 (z + 1)) - Int.toNat z)))) (IntKind.wrap IntKind.i64 (z + 1)))]) (mkD [DO.r RK.ent full sp el] 1)).ev) none) none) none) none) ((k1 (envZ [0, 6] [DV.rs 0 j n c 2 ex, R.DV.int IntKind.i64 z]) (mkD [DO.r RK.ent full sp el] 1)).ev))) ((k1 (envZ [0, 6] [DV.rs 0 j n c 2 ex, R.DV.int IntKind.i64 z]) (mkD [DO.r RK.ent full sp el] 1)).ev) := by kernel_rfl
theorem step49 (j n c : Nat) (ex : Bool) (h s z : Int) (full : List Ent) (sp : Bool) (el : R.EL) (rd k1 : R.EK) (y : List (Nat × R.EK)) (w : R.DV × R.DH) (hw : ((lt49 j n c ex h s z full sp el).tree 1 ld49 rd ((0, k1) :: y)).ev = some w) :
    (turnD C Y1 (fun _ => none) 110 51 1 0 b49 ld49 (n - z.toNat) [.rs 0 j n c 2 ex, .int .i64 h, .int .i64 s, .int .i64 z] [.r .ent full sp el] rd k1 y).ev = some w := by
  replace hw := lt_need hw
  obtain ⟨hp, hw⟩ := hw
  simp only [P49, decide_eq_true_eq] at hp
  obtain ⟨p1, p2, pc, p3, p4, p5, p6⟩ := hp
  replace hw : (k1 (envZ [0, 6] [R.DV.rs 0 j n c 2 ex, R.DV.int IntKind.i64 (S49 j n full h s z)]) (mkD [DO.r RK.ent full sp el] 1)).ev = some w := hw
  rw [turn49]
  unfold S49 at hw
  by_cases h1 : z < n
  · have b1 : z.toNat < n := by omega
    have e := seg_drop p1 p3 h1
    rw [e] at hw p6
    have q1 := sizeL_nn ((seg full j n).drop (z + 1).toNat)
    have q2 : sizeL (rec full j z :: (seg full j n).drop (z + 1).toNat) = size1 (rec full j z) + sizeL ((seg full j n).drop (z + 1).toNat) := rfl
    rw [q2] at p6
    have q3 := size1_pos (rec full j z)
    have e1 : (z + 1).toNat - z.toNat = 1 := by omega
    rw [cT h1, nextI p3 h1 (by omega), e1, seg_one p1 p3 h1]
    have e2 : sizeL [rec full j z] = size1 (rec full j z) := by simp [sizeL]
    have e3 : IntKind.wrap IntKind.i64 (s + size1 (rec full j z)) = s + size1 (rec full j z) := wrap_i64 (by omega) (by omega)
    have e4 : P49 j n c full h (s + size1 (rec full j z)) (z + 1) = true := by
      simp only [P49, decide_eq_true_eq]
      refine ⟨p1, p2, pc, ?_, ?_, ?_, ?_⟩ <;> omega
    have e5 : okZ full (j + z.toNat) 1 = true := by
      simp only [okZ, decide_eq_true_eq]
      rw [seg_one p1 p3 h1, e2]
      refine ⟨?_, ?_, ?_⟩ <;> omega
    have e6 : (decide (0 ≤ z + 1) && (decide (0 ≤ z) && (decide (c ≤ c) && (decide ((z + 1).toNat ≤ c) && (decide (z.toNat ≤ (z + 1).toNat) && true))))) = true := by
      rw [decide_eq_true (show 0 ≤ z + 1 by omega), decide_eq_true p3, decide_eq_true (Nat.le_refl c), decide_eq_true (show (z + 1).toNat ≤ c by omega), decide_eq_true (show z.toNat ≤ (z + 1).toNat by omega)]; rfl
    rw [e2, e3, e4, e5, e6, cT (show n - (z + 1).toNat < n - z.toNat by omega)]
    rw [show hv h s (rec full j z :: (seg full j n).drop (z + 1).toNat) z.toNat = cond (decide (z.toNat = 0)) (hv h (s + size1 (rec full j z)) ((seg full j n).drop (z + 1).toNat) (z.toNat + 1)) (cond (decide (s < h)) (hv h (s + size1 (rec full j z)) ((seg full j n).drop (z + 1).toNat) (z.toNat + 1)) z.toNat) from rfl, show z.toNat + 1 = (z + 1).toNat by omega] at hw
    by_cases h2 : z = 0
    · rw [cT (show z.toNat = 0 by omega)] at hw
      rw [cT h2]
      exact hw
    · rw [cF (show ¬ z.toNat = 0 by omega)] at hw
      rw [cF h2]
      by_cases h3 : s < h
      · rw [cT h3] at hw ⊢
        exact hw
      · rw [cF h3, show (z.toNat : Int) = z by omega] at hw
        rw [cF h3]
        exact hw
  · rw [cF h1]
    rw [seg_end p1 h1 p3, show ((hv h s [] z.toNat : Nat) : Int) = z by show ((z.toNat : Nat) : Int) = z; omega] at hw
    exact hw
theorem loop49 {n : Nat} (hn : 110 ≤ n) : LoopOk C.G 1 (callO noTmps C.O C.tab n) n 110 51 0 b49 ld49 := by
  refine loop_of C Y1 (lh := fun _ => none) hn ?_ (fun p _ ld h => by cases h) ?_
  · exact wf_lp (wf_bl (wf_fl (wf_at3 (wf_at3 (wf_at3 (wf_body (f := 49) rfl))))))
  intro vs ao m t hs rd k1 y w hw
  unfold ld49 at hs
  simp only at hs
  split at hs
  case h_2 => cases hs
  cases hs
  exact step49 _ _ _ _ _ _ _ _ _ _ _ _ _ _ hw

def tail49 (j n c : Nat) (full : List Ent) (sp : Bool) (el : R.EL) (K : Int) : Option (R.DV × R.DH) :=
    cond (decide (0 ≤ K) && (decide (c ≤ c) && (decide (Int.toNat (K) ≤ c) && true))) (cond (okN full (j + 0) (Int.toNat (K) - 0)) (cond (Nat.beq (Int.toNat (K) - 0) 0) (cond (decide (0 ≤ K) && (decide (c ≤ c) && (decide (n ≤ c) && (decide (Int.toNat (K) ≤ n) && true)))) (cond (okN full (j + Int.toNat (K)) (n - Int.toNat (K))) (cond (Nat.beq (n - Int.toNat (K)) 0) (some (R.DV.tup [DV.rs 1 0 0 0 2 true, DV.rs 2 0 0 0 2 true], (mkD [DO.r RK.ent full sp el, DO.r RK.ent [] false 41, DO.r RK.ent [] false 41] 1))) (some (R.DV.tup [DV.rs 1 0 0 0 2 true, DV.rs 2 0 (n - Int.toNat (K)) (n - Int.toNat (K)) 2 false], (mkD [DO.r RK.ent full sp el, DO.r RK.ent [] false 41, DO.r RK.ent (seg full (j + Int.toNat (K)) (n - Int.toNat (K))) true 41] 1)))) none) none) (cond (decide (0 ≤ K) && (decide (c ≤ c) && (decide (n ≤ c) && (decide (Int.toNat (K) ≤ n) && true)))) (cond (okN full (j + Int.toNat (K)) (n - Int.toNat (K))) (cond (Nat.beq (n - Int.toNat (K)) 0) (some (R.DV.tup [DV.rs 1 0 (Int.toNat (K) - 0) (Int.toNat (K) - 0) 2 false, DV.rs 2 0 0 0 2 true], (mkD [DO.r RK.ent full sp el, DO.r RK.ent (seg full (j + 0) (Int.toNat (K) - 0)) true 41, DO.r RK.ent [] false 41] 1))) (some (R.DV.tup [DV.rs 1 0 (Int.toNat (K) - 0) (Int.toNat (K) - 0) 2 false, DV.rs 2 0 (n - Int.toNat (K)) (n - Int.toNat (K)) 2 false], (mkD [DO.r RK.ent full sp el, DO.r RK.ent (seg full (j + 0) (Int.toNat (K) - 0)) true 41, DO.r RK.ent (seg full (j + Int.toNat (K)) (n - Int.toNat (K))) true 41] 1)))) none) none)) none) none
theorem run49 (j n c : Nat) (ex : Bool) (full : List Ent) (sp : Bool) (el : R.EL) : runD C Y1 (lhX ld49) 110 c49 [.rs 0 j n c 2 ex] [.r .ent full sp el] =
    cond (okZ full j n) (cond (decide (n - 0 < 110)) (cond (P49 j n c full (IntKind.wrap IntKind.i64 (Int.tdiv (sizeL (seg full j n)) 2)) 0 0) (cond (decide (S49 j n full (IntKind.wrap IntKind.i64 (Int.tdiv (sizeL (seg full j n)) 2)) 0 0 = (↑n : Int))) (cond (decide (1 < S49 j n full (IntKind.wrap IntKind.i64 (Int.tdiv (sizeL (seg full j n)) 2)) 0 0)) (tail49 j n c full sp el (IntKind.wrap IntKind.i64 (S49 j n full (IntKind.wrap IntKind.i64 (Int.tdiv (sizeL (seg full j n)) 2)) 0 0 - 1))) (tail49 j n c full sp el (S49 j n full (IntKind.wrap IntKind.i64 (Int.tdiv (sizeL (seg full j n)) 2)) 0 0))) (tail49 j n c full sp el (S49 j n full (IntKind.wrap IntKind.i64 (Int.tdiv (sizeL (seg full j n)) 2)) 0 0))) none) none) none := by kernel_rfl
def okH (full : List Ent) (j n c : Nat) : Bool := decide (j + n ≤ full.length ∧ n < 99 ∧ n ≤ c ∧ sizeL (seg full j n) < 1152921504606846976)
def out49 (full : List Ent) (j n c : Nat) : RD := .need (okH full j n c) (.br (Nat.beq n 0) (.v (.tup [.rs 1 0 0 0 2 true, .rs 2 0 0 0 2 true]) [.r .ent [] false 41, .r .ent [] false 41])
  (.br (Nat.beq (n - halfN (seg full j n)) 0) (.v (.tup [.rs 1 0 (halfN (seg full j n)) (halfN (seg full j n)) 2 false, .rs 2 0 0 0 2 true]) [.r .ent (seg full j (halfN (seg full j n))) true 41, .r .ent [] false 41])
    (.v (.tup [.rs 1 0 (halfN (seg full j n)) (halfN (seg full j n)) 2 false, .rs 2 0 (n - halfN (seg full j n)) (n - halfN (seg full j n)) 2 false]) [.r .ent (seg full j (halfN (seg full j n))) true 41, .r .ent (seg full (j + halfN (seg full j n)) (n - halfN (seg full j n))) true 41])))
theorem tail49_eq {j n c : Nat} {full : List Ent} {sp : Bool} {el : R.EL} {K : Int} (p1 : j + n ≤ full.length) (p2 : n < 99) (p3 : n ≤ c) (h0 : 0 ≤ K) (h1 : K ≤ n) :
    tail49 j n c full sp el K = cond (Nat.beq K.toNat 0) (cond (Nat.beq (n - K.toNat) 0) (some (R.DV.tup [DV.rs 1 0 0 0 2 true, DV.rs 2 0 0 0 2 true], (mkD [DO.r RK.ent full sp el, DO.r RK.ent [] false 41, DO.r RK.ent [] false 41] 1))) (some (R.DV.tup [DV.rs 1 0 0 0 2 true, DV.rs 2 0 (n - Int.toNat (K)) (n - Int.toNat (K)) 2 false], (mkD [DO.r RK.ent full sp el, DO.r RK.ent [] false 41, DO.r RK.ent (seg full (j + Int.toNat (K)) (n - Int.toNat (K))) true 41] 1))))
      (cond (Nat.beq (n - K.toNat) 0) (some (R.DV.tup [DV.rs 1 0 K.toNat K.toNat 2 false, DV.rs 2 0 0 0 2 true], (mkD [DO.r RK.ent full sp el, DO.r RK.ent (seg full j K.toNat) true 41, DO.r RK.ent [] false 41] 1))) (some (R.DV.tup [DV.rs 1 0 K.toNat K.toNat 2 false, DV.rs 2 0 (n - Int.toNat (K)) (n - Int.toNat (K)) 2 false], (mkD [DO.r RK.ent full sp el, DO.r RK.ent (seg full j K.toNat) true 41, DO.r RK.ent (seg full (j + Int.toNat (K)) (n - Int.toNat (K))) true 41] 1)))) := by
  unfold tail49
  have e1 : (decide (0 ≤ K) && (decide (c ≤ c) && (decide (Int.toNat K ≤ c) && true))) = true := by
    rw [decide_eq_true h0, decide_eq_true (Nat.le_refl c), decide_eq_true (show K.toNat ≤ c by omega)]; rfl
  have e2 : (decide (0 ≤ K) && (decide (c ≤ c) && (decide (n ≤ c) && (decide (Int.toNat K ≤ n) && true)))) = true := by
    rw [decide_eq_true h0, decide_eq_true (Nat.le_refl c), decide_eq_true (show K.toNat ≤ n by omega), decide_eq_true p3]; rfl
  have e3 : okN full (j + 0) (K.toNat - 0) = true := okN_iff.2 (by omega)
  have e4 : okN full (j + K.toNat) (n - K.toNat) = true := okN_iff.2 (by omega)
  rw [e1, e2, e3, e4]
  rfl
theorem law49 (j n c : Nat) (ex : Bool) (full : List Ent) (sp : Bool) (el : R.EL) : LawOk C.G C.O C.tab 49 111 [.r .ent full sp el] [.rs 0 j n c 2 ex] (out49 full j n c) := by
  refine law_of C Y1 (lhX ld49) rfl rfl (fun n hn => lhX_ok (Q := fun i b ld => LoopOk C.G 1 (callO noTmps C.O C.tab n) n 110 51 i b ld) rfl (loop49 hn)) fun z hz => ?_
  obtain ⟨hp, hz⟩ := R.ev_need hz
  refine (run49 j n c ex full sp el).trans ?_
  simp only [okH, decide_eq_true_eq] at hp
  obtain ⟨p1, p2, pc, p3⟩ := hp
  have hnn := sizeL_nn (seg full j n)
  have hl := seg_len p1
  have e0 : IntKind.wrap IntKind.i64 (Int.tdiv (sizeL (seg full j n)) 2) = Int.tdiv (sizeL (seg full j n)) 2 := by
    rw [Int.tdiv_eq_ediv_of_nonneg hnn]
    exact wrap_i64 (by omega) (by omega)
  have e1 : okZ full j n = true := by simp only [okZ, decide_eq_true_eq]; exact ⟨p1, p2, p3⟩
  have e2 : P49 j n c full (Int.tdiv (sizeL (seg full j n)) 2) 0 0 = true := by
    simp only [P49, decide_eq_true_eq]
    refine ⟨p1, p2, pc, ?_, ?_, ?_, ?_⟩ <;> first | omega | (show 0 + sizeL (seg full j n) < _; omega)
  have e3 : S49 j n full (Int.tdiv (sizeL (seg full j n)) 2) 0 0 = (hv (Int.tdiv (sizeL (seg full j n)) 2) 0 (seg full j n) 0 : Nat) := rfl
  rw [e0, e1, e2, e3, cT (show n - 0 < 110 by omega)]
  have hb := hv_le (Int.tdiv (sizeL (seg full j n)) 2) (seg full j n) 0 0
  rw [hl] at hb
  -- the place
  have e5 : cond (decide (((hv (Int.tdiv (sizeL (seg full j n)) 2) 0 (seg full j n) 0 : Nat) : Int) = (n : Int))) (cond (decide (1 < ((hv (Int.tdiv (sizeL (seg full j n)) 2) 0 (seg full j n) 0 : Nat) : Int))) (tail49 j n c full sp el (IntKind.wrap IntKind.i64 (((hv (Int.tdiv (sizeL (seg full j n)) 2) 0 (seg full j n) 0 : Nat) : Int) - 1))) (tail49 j n c full sp el ((hv (Int.tdiv (sizeL (seg full j n)) 2) 0 (seg full j n) 0 : Nat) : Int))) (tail49 j n c full sp el ((hv (Int.tdiv (sizeL (seg full j n)) 2) 0 (seg full j n) 0 : Nat) : Int)) = tail49 j n c full sp el (halfN (seg full j n) : Nat) := by
    unfold halfN
    simp only
    rw [hl]
    by_cases h1 : ((hv (Int.tdiv (sizeL (seg full j n)) 2) 0 (seg full j n) 0 : Nat) : Int) = (n : Int)
    · rw [cT h1, cT h1]
      by_cases h2 : 1 < ((hv (Int.tdiv (sizeL (seg full j n)) 2) 0 (seg full j n) 0 : Nat) : Int)
      · rw [cT h2, cT h2, wrap_i64 (by omega) (by omega)]
        congr 1; omega
      · rw [cF h2, cF h2]
    · rw [cF h1, cF h1]
  refine Eq.trans e5 ?_
  have h2 := halfN_le (seg full j n)
  rw [hl] at h2
  rw [tail49_eq p1 p2 pc (by omega) (by omega)]
  rw [show ((halfN (seg full j n) : Nat) : Int).toNat = halfN (seg full j n) from Int.toNat_natCast _]
  refine Eq.trans ?_ hz
  show _ = (R.Tree.br (Nat.beq n 0) (.ok _ _) (R.Tree.br (Nat.beq (n - halfN (seg full j n)) 0) (.ok _ _) (.ok _ _))).ev
  rw [ev_br, ev_br]
  cases n with
  | zero =>
    have : halfN (seg full j 0) = 0 := by omega
    rw [this]; rfl
  | succ m =>
    have h3 : 1 ≤ halfN (seg full j (m + 1)) := halfN_pos (by intro h; rw [h] at hl; cases hl)
    have h4 : Nat.beq (halfN (seg full j (m + 1))) 0 = false := by
      cases hh : halfN (seg full j (m + 1)) with
      | zero => omega
      | succ q => rfl
    rw [h4]; rfl
theorem law49n : LawOk C.G C.O C.tab 49 111 [] [.nils] (.v (.tup [.nils, .nils]) []) := by
  refine law_of C Y1 (fun _ => none) rfl rfl (fun n hn p _ ld e => by cases e) fun z hz => ?_
  refine Eq.trans ?_ hz
  kernel_rfl
def g49 : List R.DV → List R.DO → Option RD := fun l ao => match l, ao with
  | [.rs 0 j n c 2 ex], [.r .ent full sp el] => some (out49 full j n c)
  | [.nils], [] => some (.v (.tup [.nils, .nils]) [])
  | _, _ => none
theorem g49_ok (l : List R.DV) (ao : List R.DO) (out : RD) (h : g49 l ao = some out) : LawOk C.G C.O C.tab 49 111 ao l out := by
  unfold g49 at h
  split at h
  · cases h; exact law49 _ _ _ _ _ _ _
  · cases h; exact law49n
  · cases h
def Y2 : C.RL := Y1.add 49 111 g49 g49_ok
end
end Go.Vm.YtkjjpmbpjfmbcaaGreatDoor
