/-
  The document's Halve.
-/
import Derived.Test.YtkjjpmbpjfmbcaaGreatDoorL16V
import Derived.Test.YtkjjpmbpjfmbcaaGreatDoorL16H
set_option linter.unusedVariables false
set_option linter.unusedSimpArgs false
namespace Go.Vm.YtkjjpmbpjfmbcaaGreatDoor
open Go.Proofs Go.Vm.R
noncomputable section
/-- the first place at which half is reached -/
def hk (h : Int) : Int → List Ent → Nat → Option Nat
  | _, [], _ => none
  | s, e :: r, k => cond (decide (h ≤ s)) (some k) (hk h (s + size1 e) r (k + 1))
theorem hv_hk (h : Int) : ∀ (l : List Ent) (s : Int) (k : Nat), 1 ≤ k → hv h s l k = (hk h s l k).getD (k + l.length)
  | [], _, _, _ => rfl
  | e :: r, s, k, hk1 => by
    show cond (decide (k = 0)) _ (cond (decide (s < h)) (hv h (s + size1 e) r (k + 1)) k) = (cond (decide (h ≤ s)) (some k) (hk h (s + size1 e) r (k + 1))).getD _
    rw [cF (show ¬ k = 0 by omega)]
    by_cases h1 : h ≤ s
    · rw [cT h1, cF (show ¬ s < h by omega)]; rfl
    · rw [cF h1, cT (show s < h by omega), hv_hk h r _ _ (by omega)]
      rw [List.length_cons, show k + 1 + r.length = k + (r.length + 1) by omega]
theorem hk_lt (h : Int) : ∀ (l : List Ent) (s : Int) (k i : Nat), hk h s l k = some i → k ≤ i ∧ i < k + l.length
  | [], _, _, _, e => by cases e
  | a :: r, s, k, i, e => by
    have e : cond (decide (h ≤ s)) (some k) (hk h (s + size1 a) r (k + 1)) = some i := e
    rw [List.length_cons]
    by_cases h1 : h ≤ s
    · rw [cT h1] at e; cases e; omega
    · rw [cF h1] at e
      have := hk_lt h r _ _ _ e
      omega
theorem half_small {l : List Ent} (h : l.length < 2) : halfN l = l.length := by
  have h1 := halfN_le l
  cases l with
  | nil => exact Nat.eq_zero_of_le_zero h1
  | cons e r =>
    have h2 := halfN_pos (l := e :: r) (by simp)
    rw [List.length_cons] at h h1 ⊢
    omega
theorem half_hk {l : List Ent} (h : 2 ≤ l.length) : halfN l = (hk (Int.tdiv (sizeL l) 2) (sizeL (l.take 1)) (l.drop 1) 1).getD (l.length - 1) := by
  cases l with
  | nil => cases h
  | cons e r =>
    rw [List.length_cons] at h ⊢
    have e1 : hv (Int.tdiv (sizeL (e :: r)) 2) 0 (e :: r) 0 = hv (Int.tdiv (sizeL (e :: r)) 2) (0 + size1 e) r 1 := rfl
    have e2 : sizeL (List.take 1 (e :: r)) = 0 + size1 e := by simp [sizeL]
    rw [e2]
    show _ = (hk (Int.tdiv (sizeL (e :: r)) 2) (0 + size1 e) r 1).getD (r.length + 1 - 1)
    unfold halfN
    simp only
    rw [e1, hv_hk _ _ _ _ (Nat.le_refl 1), List.length_cons]
    cases hq : hk (Int.tdiv (sizeL (e :: r)) 2) (0 + size1 e) r 1 with
    | none =>
      show cond (decide (((1 + r.length : Nat) : Int) = ((r.length + 1 : Nat) : Int))) (cond (decide (1 < ((1 + r.length : Nat) : Int))) (1 + r.length - 1) _) _ = r.length + 1 - 1
      rw [cT (by omega), cT (by omega)]; omega
    | some i =>
      have := hk_lt _ _ _ _ _ hq
      show cond (decide ((i : Int) = ((r.length + 1 : Nat) : Int))) _ i = i
      rw [cF (by omega)]
theorem seg_takeN {full : List Ent} {j n k : Nat} (h : k ≤ n) : seg full j k = (seg full j n).take k := by
  unfold seg
  rw [List.take_take, Nat.min_eq_left h]
theorem size_step {full : List Ent} {j n : Nat} {z : Int} (p1 : j + n ≤ full.length) (p3 : 0 ≤ z) (h1 : z < n) : sizeL (seg full j (z + 1).toNat) = sizeL (seg full j z.toNat) + size1 (rec full j z) := by
  rw [seg_takeN (n := n) (show (z + 1).toNat ≤ n by omega), seg_takeN (n := n) (show z.toNat ≤ n by omega)]
  have e1 := size_split (seg full j n) z.toNat
  have e2 := size_split (seg full j n) (z + 1).toNat
  rw [seg_drop p1 p3 h1] at e1
  have e3 : sizeL (rec full j z :: (seg full j n).drop (z + 1).toNat) = size1 (rec full j z) + sizeL ((seg full j n).drop (z + 1).toNat) := rfl
  omega
theorem size_part {full : List Ent} {j n k : Nat} (h : k ≤ n) : sizeL (seg full j k) ≤ sizeL (seg full j n) := by
  rw [seg_takeN h]
  have e1 := size_split (seg full j n) k
  have := sizeL_nn ((seg full j n).drop k)
  omega
def g55 : List R.DV → List R.DO → Option RD := fun l ao => match l, ao with
  | [.rs 0 j n c 2 ex], [.r .ent full sp el] => some (out50 full j n)
  | [.nils], [] => some (.v (.int .i64 0) [])
  | _, _ => none
theorem law55n : LawOk C.G C.O C.tab 55 101 [] [.nils] (.v (.int .i64 0) []) := by
  refine law_of C Y0 (fun _ => none) rfl rfl (fun n hn p _ ld e => by cases e) fun z hz => ?_
  refine Eq.trans ?_ hz
  kernel_rfl
theorem g55_ok (l : List R.DV) (ao : List R.DO) (out : RD) (h : g55 l ao = some out) : LawOk C.G C.O C.tab 55 101 ao l out := by
  unfold g55 at h
  split at h
  · cases h; exact law55 _ _ _ _ _ _ _
  · cases h; exact law55n
  · cases h
def Y5 : C.RL := Y0.add 55 101 g55 g55_ok
def b53 : CC := lp (bl (at3 (fl (at3 (at3 c53.body)))))
def P53 (j n c : Nat) (full : List Ent) (z : Int) : Bool := decide (j + n ≤ full.length ∧ n < 99 ∧ n ≤ c ∧ 1 ≤ z ∧ z ≤ n ∧ sizeL (seg full j n) < 1152921504606846976)
def K53 (j n : Nat) (full : List Ent) (z : Int) : Option Nat := hk (Int.tdiv (sizeL (seg full j n)) 2) (sizeL (seg full j z.toNat)) ((seg full j n).drop z.toNat) z.toNat
def F53 (j n c : Nat) (full : List Ent) (z : Int) : Bool := (K53 j n full z).isSome
def H53 (j n : Nat) (full : List Ent) (z : Int) : Int := ((K53 j n full z).getD 0 : Nat)
def lt53 (j n c : Nat) (ex : Bool) (z : Int) (full : List Ent) (sp : Bool) (el : R.EL) : LT := .need (P53 j n c full z) (.br (F53 j n c full z) (.ret [.int .i64 (H53 j n full z)] [.r .ent full sp el]) (.exit 0 [.rs 0 j n c 2 ex] [.r .ent full sp el]))
def ld53 : LoopD := ⟨[(0, none), (3, none)], [(0, none)], [(2, none)], fun vs ao => match vs, ao with
  | [.rs 0 j n c 2 ex, .int .i64 z], [.r .ent full sp el] => some (n - z.toNat, lt53 j n c ex z full sp el)
  | _, _ => none⟩
theorem turn53 (j n c : Nat) (ex : Bool) (z : Int) (full : List Ent) (sp : Bool) (el : R.EL) (m : Nat) (rd k1 : R.EK) (y : List (Nat × R.EK)) :
    (turnD C Y5 (fun _ => none) 110 27 1 0 b53 ld53 m [.rs 0 j n c 2 ex, .int .i64 z] [.r .ent full sp el] rd k1 y).ev =
    cond (decide (z < (↑n : Int))) (cond (decide (0 ≤ z) && (decide (c ≤ c) && (decide (Int.toNat z ≤ c) && true))) (cond (okZ full (j + 0) (Int.toNat z - 0)) (cond (okZ full j n) (cond (decide (IntKind.wrap IntKind.i64 (Int.tdiv (sizeL (seg full j n)) 2) ≤ sizeL (seg full (j + 0) (Int.toNat z - 0)))) ((rd (envZ [2] [R.DV.int IntKind.i64 z]) (mkD [DO.r RK.ent full sp el] 1)).ev) (cond (decide (n - Int.toNat (IntKind.wrap IntKind.i64 (z + 1)) < m)) (cond (P53 j n c full (IntKind.wrap IntKind.i64 (z + 1))) (cond (F53 j n c full (IntKind.wrap IntKind.i64 (z + 1))) ((rd (envZ [2] [R.DV.int IntKind.i64 (H53 j n full (IntKind.wrap IntKind.i64 (z + 1)))]) (mkD [DO.r RK.ent full sp el] 1)).ev) ((k1 (envZ [0] [DV.rs 0 j n c 2 ex]) (mkD [DO.r RK.ent full sp el] 1)).ev)) none) none)) none) none) none) ((k1 (envZ [0] [DV.rs 0 j n c 2 ex]) (mkD [DO.r RK.ent full sp el] 1)).ev) := by kernel_rfl
theorem step53 (j n c : Nat) (ex : Bool) (z : Int) (full : List Ent) (sp : Bool) (el : R.EL) (rd k1 : R.EK) (y : List (Nat × R.EK)) (w : R.DV × R.DH) (hw : ((lt53 j n c ex z full sp el).tree 1 ld53 rd ((0, k1) :: y)).ev = some w) :
    (turnD C Y5 (fun _ => none) 110 27 1 0 b53 ld53 (n - z.toNat) [.rs 0 j n c 2 ex, .int .i64 z] [.r .ent full sp el] rd k1 y).ev = some w := by
  replace hw := lt_need hw
  obtain ⟨hp, hw⟩ := hw
  simp only [P53, decide_eq_true_eq] at hp
  obtain ⟨p1, p2, pc, p3, p4, p5⟩ := hp
  rw [lt_br] at hw
  replace hw : cond (F53 j n c full z) (rd (envZ [2] [R.DV.int IntKind.i64 (H53 j n full z)]) (mkD [DO.r RK.ent full sp el] 1)).ev (k1 (envZ [0] [.rs 0 j n c 2 ex]) (mkD [DO.r RK.ent full sp el] 1)).ev = some w := hw
  rw [turn53]
  by_cases h1 : z < n
  · have e4 : P53 j n c full (z + 1) = true := by
      simp only [P53, decide_eq_true_eq]
      refine ⟨p1, p2, pc, ?_, ?_, p5⟩ <;> omega
    have hnn := sizeL_nn (seg full j n)
    have q1 := size_part (full := full) (j := j) (show z.toNat ≤ n by omega)
    have e0 : IntKind.wrap IntKind.i64 (Int.tdiv (sizeL (seg full j n)) 2) = Int.tdiv (sizeL (seg full j n)) 2 := by
      rw [Int.tdiv_eq_ediv_of_nonneg hnn]
      exact wrap_i64 (by omega) (by omega)
    have e1 : okZ full j n = true := by simp only [okZ, decide_eq_true_eq]; exact ⟨p1, p2, p5⟩
    have e2 : okZ full j z.toNat = true := by simp only [okZ, decide_eq_true_eq]; refine ⟨?_, ?_, ?_⟩ <;> omega
    have e3 : (decide (0 ≤ z) && (decide (c ≤ c) && (decide (z.toNat ≤ c) && true))) = true := by
      rw [decide_eq_true (show 0 ≤ z by omega), decide_eq_true (Nat.le_refl c), decide_eq_true (show z.toNat ≤ c by omega)]; rfl
    have e6 : K53 j n full z = cond (decide (Int.tdiv (sizeL (seg full j n)) 2 ≤ sizeL (seg full j z.toNat))) (some z.toNat) (K53 j n full (z + 1)) := by
      unfold K53
      rw [seg_drop p1 (show 0 ≤ z by omega) h1, size_step p1 (show 0 ≤ z by omega) h1, show (z + 1).toNat = z.toNat + 1 by omega]; rfl
    simp only [Nat.add_zero, Nat.sub_zero, e0, e1, e2, e3, e4, nextI (show 0 ≤ z by omega) h1 (by omega), decide_eq_true (show n - (z + 1).toNat < n - z.toNat by omega), decide_eq_true h1, cond_true]
    unfold F53 H53 at hw ⊢
    rw [e6] at hw
    by_cases h2 : Int.tdiv (sizeL (seg full j n)) 2 ≤ sizeL (seg full j z.toNat)
    · rw [cT h2] at hw
      rw [cT h2]
      rw [show ((some z.toNat).getD 0 : Nat) = z.toNat from rfl, show ((z.toNat : Nat) : Int) = z by omega] at hw
      exact hw
    · rw [cF h2] at hw
      rw [cF h2]
      exact hw
  · rw [cF h1]
    have e6 : K53 j n full z = none := by
      unfold K53
      rw [seg_end p1 h1 (show 0 ≤ z by omega)]; rfl
    unfold F53 at hw
    rw [e6] at hw
    exact hw
theorem loop53 {n : Nat} (hn : 110 ≤ n) : LoopOk C.G 1 (callO noTmps C.O C.tab n) n 110 27 0 b53 ld53 := by
  refine loop_of C Y5 (lh := fun _ => none) hn ?_ (fun p _ ld h => by cases h) ?_
  · exact wf_lp (wf_bl (wf_at3 (wf_fl (wf_at3 (wf_at3 (wf_body (f := 53) rfl))))))
  intro vs ao m t hs rd k1 y w hw
  unfold ld53 at hs
  simp only at hs
  split at hs
  case h_2 => cases hs
  cases hs
  exact step53 _ _ _ _ _ _ _ _ _ _ _ _ hw
def out53 (full : List Ent) (j n c : Nat) : RD := .need (okH full j n c) (.v (.int .i64 (halfN (seg full j n) : Nat)) [])
theorem run53 (j n c : Nat) (ex : Bool) (full : List Ent) (sp : Bool) (el : R.EL) : runD C Y5 (lhX ld53) 110 c53 [.rs 0 j n c 2 ex] [.r .ent full sp el] =
    cond (decide ((↑n : Int) < 2)) (some (R.DV.int IntKind.i64 (↑n : Int), (mkD [DO.r RK.ent full sp el] 1))) (cond (decide (n - 1 < 110)) (cond (P53 j n c full 1) (cond (F53 j n c full 1) (some (R.DV.int IntKind.i64 (H53 j n full 1), (mkD [DO.r RK.ent full sp el] 1))) (some (R.DV.int IntKind.i64 (IntKind.wrap IntKind.i64 ((↑n : Int) - 1)), (mkD [DO.r RK.ent full sp el] 1)))) none) none) := by kernel_rfl
theorem law53 (j n c : Nat) (ex : Bool) (full : List Ent) (sp : Bool) (el : R.EL) : LawOk C.G C.O C.tab 53 111 [.r .ent full sp el] [.rs 0 j n c 2 ex] (out53 full j n c) := by
  refine law_of C Y5 (lhX ld53) rfl rfl (fun n hn => lhX_ok (Q := fun i b ld => LoopOk C.G 1 (callO noTmps C.O C.tab n) n 110 27 i b ld) rfl (loop53 hn)) fun z hz => ?_
  obtain ⟨hp, hz⟩ := R.ev_need hz
  refine (run53 j n c ex full sp el).trans (Eq.trans ?_ hz)
  show _ = some (R.DV.int .i64 (halfN (seg full j n) : Nat), mkD [DO.r RK.ent full sp el] 1)
  simp only [okH, decide_eq_true_eq] at hp
  obtain ⟨p1, p2, pc, p3⟩ := hp
  have hl := seg_len p1
  by_cases h : (n : Int) < 2
  · rw [cT h, half_small (by rw [hl]; omega), hl]
  · rw [cF h]
    have e4 : P53 j n c full 1 = true := by
      simp only [P53, decide_eq_true_eq]
      refine ⟨p1, p2, pc, ?_, ?_, p3⟩ <;> omega
    rw [e4, cT (show n - 1 < 110 by omega)]
    rw [half_hk (by rw [hl]; omega)]
    unfold F53 H53
    have e6 : K53 j n full 1 = hk (Int.tdiv (sizeL (seg full j n)) 2) (sizeL ((seg full j n).take 1)) ((seg full j n).drop 1) 1 := by
      unfold K53
      rw [seg_takeN (n := n) (show (1 : Int).toNat ≤ n by omega)]; rfl
    rw [← e6, hl]
    cases K53 j n full 1 with
    | some i => rfl
    | none =>
      show some (R.DV.int .i64 (IntKind.wrap IntKind.i64 ((n : Int) - 1)), _) = some (R.DV.int .i64 ((n - 1 : Nat) : Int), _)
      rw [wrap_i64 (by omega) (by omega), show ((n - 1 : Nat) : Int) = (n : Int) - 1 by omega]
theorem law53n : LawOk C.G C.O C.tab 53 111 [] [.nils] (.v (.int .i64 0) []) := by
  refine law_of C Y5 (fun _ => none) rfl rfl (fun n hn p _ ld e => by cases e) fun z hz => ?_
  refine Eq.trans ?_ hz
  kernel_rfl
end
end Go.Vm.YtkjjpmbpjfmbcaaGreatDoor
