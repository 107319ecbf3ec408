/-
  Blocks: the loops that fill a row.
-/
import Derived.Test.YtdmlbojhfgimnaaGreatDoorAP8
set_option linter.unusedVariables false
set_option linter.unusedSimpArgs false
namespace Go.Vm.YtdmlbojhfgimnaaGreatDoor
open Go.Proofs Go.Vm.R
noncomputable section
/-- so many bytes, told by a function, from a place on -/
def tabF (g : Nat → UInt8) : Nat → Nat → Txt
  | _, 0 => []
  | z, k + 1 => g z :: tabF g (z + 1) k
theorem tabF_len (g : Nat → UInt8) : ∀ k z, (tabF g z k).length = k
  | 0, _ => rfl
  | k + 1, z => by show (tabF g (z + 1) k).length + 1 = _; rw [tabF_len g k]
theorem tabF_succ (g : Nat → UInt8) (z k : Nat) (h : z < k) : tabF g z (k - z) = g z :: tabF g (z + 1) (k - (z + 1)) := by
  obtain ⟨n, hn⟩ : ∃ n, k - z = n + 1 := ⟨k - z - 1, by omega⟩
  rw [hn, show k - (z + 1) = n by omega]; rfl
theorem tabF_end (g : Nat → UInt8) (z k : Nat) (h : ¬ z < k) : tabF g z (k - z) = [] := by
  rw [show k - z = 0 by omega]; rfl
theorem tabF_get (g : Nat → UInt8) : ∀ k z i, i < k → (tabF g z k)[i]? = some (g (z + i))
  | 0, _, _, h => by omega
  | k + 1, z, 0, _ => rfl
  | k + 1, z, i + 1, h => by
    show (tabF g (z + 1) k)[i]? = _
    rw [tabF_get g k (z + 1) i (by omega), Nat.add_right_comm, Nat.add_assoc]
theorem ub_of (x : UInt8) : UInt8.ofNat (Int.toNat (↑(UInt8.toNat x) : Int)) = x := by rw [Int.toNat_natCast, UInt8.ofNat_toNat]
theorem u_lt (x : UInt8) : decide ((↑(UInt8.toNat x) : Int) < 256) = true := decide_eq_true (by have := x.toNat_lt; omega)
theorem getD_out {s : Txt} {i : Nat} (h : s.length ≤ i) : s.getD i 0 = 0 := by
  rw [List.getD_eq_getElem?_getD, List.getElem?_eq_none h]; rfl
theorem room1 {n : Nat} (h : n < 9999) : roomFor n 1 = true := by
  unfold roomFor
  rw [Bool.and_eq_true]
  exact ⟨Nat.ble_eq_true_of_le (by omega), Nat.ble_eq_true_of_le (by omega)⟩

def P139 (v : Txt) (f : Int) (b : Txt) (n z : Int) : Bool := decide (0 ≤ f ∧ 0 ≤ z ∧ z ≤ n ∧ n ≤ 64 ∧ b.length ≤ z ∧ v.length < 4611686018427387904)
def S139 (v : Txt) (f : Int) (b : Txt) (n z : Int) : Txt := b ++ tabF (fun i => v.getD (f.toNat + i) 0) z.toNat (n.toNat - z.toNat)
theorem step139 (v : Txt) (f : Int) (b : Txt) (n z : Int) (rd k1 : R.EK) (y : List (Nat × R.EK)) (w : R.DV × R.DH) (hp : P139 v f b n z = true) (hw : (k1 (envZ [7] [R.DV.ns 0 (S139 v f b n z).length 1]) (mkD [DO.rn RK.byte (S139 v f b n z) 5] 0)).ev = some w) :
    (turnD CB YB0 (fun _ => none) 100 43 0 0 b139 (ld139 P139 S139) (n.toNat - z.toNat) [.str v, .int .i64 f, .ns 0 b.length 1, .int .i64 n, .int .i64 z] [.rn .byte b 5] rd k1 y).ev = some w := by
  unfold P139 at hp
  rw [decide_eq_true_eq] at hp
  obtain ⟨p0, p1, p2, p3, p4, p5⟩ := hp
  rw [turn139]
  by_cases h1 : z < n
  · have ez : (z + 1).toNat = z.toNat + 1 := by omega
    have hP : ∀ x : UInt8, P139 v f (b ++ [x]) n (z + 1) = true := fun x => by
      unfold P139; rw [decide_eq_true_eq, List.length_append]
      exact ⟨p0, by omega, by omega, p3, by rw [List.length_singleton]; omega, p5⟩
    have eS : S139 v f b n z = S139 v f (b ++ [v.getD (f.toNat + z.toNat) 0]) n (z + 1) := by
      unfold S139
      rw [tabF_succ _ _ _ (by omega), ez, List.append_assoc]; rfl
    have hm : decide (n.toNat - (z + 1).toNat < n.toNat - z.toNat) = true := decide_eq_true (by omega)
    have r1 : roomFor (b.length + 1) 1 = true := room1 (by omega)
    have nz : IntKind.wrap .i64 (z + 1) = z + 1 := wrap_i64 (by omega) (by omega)
    have lb : Nat.ble b.length b.length = true := Nat.ble_eq_true_of_le (Nat.le_refl _)
    have bb : Nat.beq (b.length + 1) (b.length + 1) = true := Nat.beq_refl _
    have db : decide (b.length + 1 = b.length + 1) = true := decide_eq_true rfl
    rw [eS] at hw
    rw [cT h1, nz]
    by_cases h2 : f < v.length
    · rw [cT h2, wrap_i64 (z := (v.length : Int) - f) (by omega) (by omega)]
      by_cases h3 : z < (v.length : Int) - f
      · have e1 : IntKind.wrap .i64 (f + z) = f + z := wrap_i64 (by omega) (by omega)
        have e2 : (f + z).toNat = f.toNat + z.toNat := by omega
        rw [cT h3, e1, cA (by omega) (by omega), e2]
        simp only [ub_of, u_lt, List.drop_zero, List.take_succ_cons, List.take_zero, List.take_length, List.length_append, List.length_cons, List.length_nil, Nat.zero_add, lb, bb, db, r1, hm, hP, Bool.and_true, Bool.true_and, Bool.and_self, cond_true]
        exact hw
      · have e3 : v.getD (f.toNat + z.toNat) 0 = 0 := getD_out (by omega)
        rw [e3] at hw
        rw [cF h3]
        have e0 : (UInt8.ofNat 0) = 0 := rfl
        simp only [e0, ub_of, u_lt, List.drop_zero, List.take_succ_cons, List.take_zero, List.take_length, List.length_append, List.length_cons, List.length_nil, Nat.zero_add, lb, bb, db, r1, hm, hP, Bool.and_true, Bool.true_and, Bool.and_self, cond_true]
        exact hw
    · have e3 : v.getD (f.toNat + z.toNat) 0 = 0 := getD_out (by omega)
      rw [e3] at hw
      rw [cF h2]
      have e0 : (UInt8.ofNat 0) = 0 := rfl
      simp only [e0, ub_of, u_lt, List.drop_zero, List.take_succ_cons, List.take_zero, List.take_length, List.length_append, List.length_cons, List.length_nil, Nat.zero_add, lb, bb, db, r1, hm, hP, Bool.and_true, Bool.true_and, Bool.and_self, cond_true]
      exact hw
  · rw [cF h1]
    have eS : S139 v f b n z = b := by
      unfold S139
      rw [tabF_end _ _ _ (by omega), List.append_nil]
    rw [eS] at hw
    exact hw
theorem loop139 {n : Nat} (hn : 100 ≤ n) : LoopOk CB.G 0 (callO noTmps CB.O CB.tab n) n 100 43 0 b139 (ld139 P139 S139) := by
  refine loop_of CB YB0 (lh := fun _ => none) hn ?_ (fun p _ ld h => by cases h) ?_
  · exact wf_loops _ none (wf_body (f := 102) rfl) (0, b139) (by rw [show loopsIn none c102.body = [(0, b139)] from rfl]; exact List.mem_cons_self)
  intro vs ao m t hs rd k1 y w hw
  unfold ld139 at hs
  simp only at hs
  split at hs
  case h_2 => cases hs
  cases hs
  have hp := lt_need hw
  obtain ⟨h1, h2⟩ := hp
  rw [Bool.and_eq_true] at h1
  have h3 := Nat.eq_of_beq_eq_true h1.1
  subst h3
  exact step139 _ _ _ _ _ _ _ _ _ h1.2 h2

/-! ### the document's answer: over 64 bytes -/
def okA (l : Txt) (z : Int) : Bool := decide (l.length = 64 ∧ 0 ≤ z ∧ z ≤ 64)
theorem okA_iff {l : Txt} {z : Int} : okA l z = true ↔ (l.length = 64 ∧ 0 ≤ z ∧ z ≤ 64) := by simp [okA]
def upd (g : Nat → UInt8) (l : Txt) (z : Int) : Txt := l.take z.toNat ++ tabF g z.toNat (64 - z.toNat)
theorem upd_end {g : Nat → UInt8} {l : Txt} {z : Int} (hl : l.length = 64) (h : ¬ z < 64) : upd g l z = l := by
  unfold upd
  rw [tabF_end _ _ _ (by omega), List.append_nil, List.take_of_length_le (by omega)]
theorem set_take {l : Txt} {n : Nat} {x : UInt8} (h : n < l.length) : (l.set n x).take (n + 1) = l.take n ++ [x] := by
  rw [List.take_succ_eq_append_getElem (by simpa using h), List.take_set_of_le (Nat.le_refl _)]
  simp
theorem upd_step {g : Nat → UInt8} {l : Txt} {z : Int} (hl : l.length = 64) (h0 : 0 ≤ z) (h : z < 64) : upd g (l.set z.toNat (g z.toNat)) (z + 1) = upd g l z := by
  unfold upd
  rw [show (z + 1).toNat = z.toNat + 1 by omega, set_take (by omega), tabF_succ g z.toNat 64 (by omega), List.append_assoc]; rfl
def P95a (v l : Txt) (z : Int) : Bool := okA l z
def S95a (v l : Txt) (z : Int) : Txt := upd (fun i => v.getD i 0) l z
theorem step95a (v : Txt) (cu : Bool) (a n : Int) (s l : Txt) (z : Int) (rd k1 : R.EK) (y : List (Nat × R.EK)) (w : R.DV × R.DH) (hp : P95a v l z = true)
    (hw : (k1 (envZ [3, 5] [R.DV.ptr 0 0, DV.ep 1 0 1 0]) (mkD [R.DO.c [R.DV.bool cu, R.DV.int IntKind.i64 a, R.DV.int IntKind.i64 n, R.DV.str s] false 73, DO.r RK.byte (S95a v l z) false 130] 0)).ev = some w) :
    (turnD CB YB0 (fun _ => none) 120 58 0 0 b95a (ld95a P95a S95a) (64 - z.toNat) [.str v, .ptr 0 0, .ep 1 0 1 0, .int .i64 z] [.c [.bool cu, .int .i64 a, .int .i64 n, .str s] false 73, .r .byte l false 130] rd k1 y).ev = some w := by
  unfold P95a at hp
  obtain ⟨p0, p1, p2⟩ := okA_iff.1 hp
  rw [turn95a]
  by_cases h1 : z < 64
  · have nz : IntKind.wrap .i64 (z + 1) = z + 1 := wrap_i64 (by omega) (by omega)
    have hP : ∀ x, P95a v (l.set z.toNat x) (z + 1) = true := fun x => okA_iff.2 ⟨by rw [List.length_set]; exact p0, by omega, by omega⟩
    have e := upd_step (g := fun i => v.getD i 0) p0 p1 h1
    have hb : Nat.blt z.toNat l.length = true := by
      have : z.toNat < l.length := by omega
      simpa using this
    have hm : decide (64 - (z + 1).toNat < 64 - z.toNat) = true := decide_eq_true (by omega)
    have hw2 : (k1 (envZ [3, 5] [R.DV.ptr 0 0, DV.ep 1 0 1 0]) (mkD [R.DO.c [R.DV.bool cu, R.DV.int IntKind.i64 a, R.DV.int IntKind.i64 n, R.DV.str s] false 73, DO.r RK.byte (S95a v (l.set z.toNat (v.getD z.toNat 0)) (z + 1)) false 130] 0)).ev = some w := by
      unfold S95a at hw ⊢
      rw [e]; exact hw
    rw [cT h1, nz]
    by_cases h2 : z < v.length
    · rw [cT h2, cA p1 h2, cA p1 (by omega)]
      simp only [ub_of, u_lt, hm, hP, Nat.zero_add, hb, Bool.and_true, cond_true]
      exact hw2
    · rw [cF h2, cA p1 (by omega)]
      rw [getD_out (by omega)] at hw2
      simp only [hm, hP, Nat.zero_add, hb, Bool.and_true, cond_true]
      exact hw2
  · rw [cF h1]
    unfold S95a at hw
    rw [upd_end p0 h1] at hw
    exact hw
def P95b (l : Txt) (z : Int) : Bool := okA l z
def S95b (l : Txt) (z : Int) : Txt := upd (fun _ => 0) l z
theorem step95b (cu : Bool) (a n : Int) (s l : Txt) (z : Int) (rd k1 : R.EK) (y : List (Nat × R.EK)) (w : R.DV × R.DH) (hp : P95b l z = true)
    (hw : (k1 (envZ [3, 5] [R.DV.ptr 0 0, DV.ep 1 0 1 0]) (mkD [R.DO.c [R.DV.bool cu, R.DV.int IntKind.i64 a, R.DV.int IntKind.i64 n, R.DV.str s] false 73, DO.r RK.byte (S95b l z) false 130] 0)).ev = some w) :
    (turnD CB YB0 (fun _ => none) 120 58 0 2 b95b (ld95b P95b S95b) (64 - z.toNat) [.ptr 0 0, .ep 1 0 1 0, .int .i64 z] [.c [.bool cu, .int .i64 a, .int .i64 n, .str s] false 73, .r .byte l false 130] rd k1 y).ev = some w := by
  unfold P95b at hp
  obtain ⟨p0, p1, p2⟩ := okA_iff.1 hp
  rw [turn95b]
  by_cases h1 : z < 64
  · have nz : IntKind.wrap .i64 (z + 1) = z + 1 := wrap_i64 (by omega) (by omega)
    have hP : ∀ x, P95b (l.set z.toNat x) (z + 1) = true := fun x => okA_iff.2 ⟨by rw [List.length_set]; exact p0, by omega, by omega⟩
    have e := upd_step (g := fun _ => 0) p0 p1 h1
    have hb : Nat.blt z.toNat l.length = true := by
      have : z.toNat < l.length := by omega
      simpa using this
    have hm : decide (64 - (z + 1).toNat < 64 - z.toNat) = true := decide_eq_true (by omega)
    unfold S95b at hw
    rw [← e] at hw
    rw [cT h1, nz, cA p1 (by omega)]
    simp only [hm, hP, Nat.zero_add, hb, Bool.and_true, cond_true]
    exact hw
  · rw [cF h1]
    unfold S95b at hw
    rw [upd_end p0 h1] at hw
    exact hw
def P95c (a : Int) (s l : Txt) (z : Int) : Bool := decide (l.length = 64 ∧ 0 ≤ z ∧ z ≤ s.length ∧ 0 ≤ a ∧ a + s.length ≤ 64)
def S95c (a : Int) (s l : Txt) (z : Int) : Txt := l.take (a.toNat + z.toNat) ++ (s.drop z.toNat ++ l.drop (a.toNat + s.length))
theorem step95c (cu : Bool) (a n : Int) (s l : Txt) (z : Int) (rd k1 : R.EK) (y : List (Nat × R.EK)) (w : R.DV × R.DH) (hp : P95c a s l z = true)
    (hw : (k1 (envZ [5] [DV.ep 0 0 1 0]) (mkD [DO.r RK.byte (S95c a s l z) false 130] 0)).ev = some w) :
    (turnD CB YB0 (fun _ => none) 120 58 0 4 b95c (ld95c P95c S95c) (s.length - z.toNat) [.ptr 0 0, .ep 1 0 1 0, .int .i64 z] [.c [.bool cu, .int .i64 a, .int .i64 n, .str s] false 73, .r .byte l false 130] rd k1 y).ev = some w := by
  unfold P95c at hp
  rw [decide_eq_true_eq] at hp
  obtain ⟨p0, p1, p2, p3, p4⟩ := hp
  rw [turn95c]
  by_cases h1 : z < s.length
  · have nz : IntKind.wrap .i64 (z + 1) = z + 1 := wrap_i64 (by omega) (by omega)
    have na : IntKind.wrap .i64 (a + z) = a + z := wrap_i64 (by omega) (by omega)
    have ea : (a + z).toNat = a.toNat + z.toNat := by omega
    have hP : ∀ i x, P95c a s (l.set i x) (z + 1) = true := fun i x => by
      unfold P95c; rw [decide_eq_true_eq, List.length_set]
      exact ⟨p0, by omega, by omega, p3, p4⟩
    have hb : Nat.blt (a.toNat + z.toNat) l.length = true := by
      have : a.toNat + z.toNat < l.length := by omega
      simpa using this
    have hm : decide (s.length - (z + 1).toNat < s.length - z.toNat) = true := decide_eq_true (by omega)
    have e : S95c a s l z = S95c a s (l.set (a.toNat + z.toNat) (s.getD z.toNat 0)) (z + 1) := by
      unfold S95c
      rw [show (z + 1).toNat = z.toNat + 1 by omega, ← Nat.add_assoc, set_take (by omega), List.append_assoc]
      congr 1
      rw [List.drop_set, if_pos (by omega)]
      have : s.drop z.toNat = s.getD z.toNat 0 :: s.drop (z.toNat + 1) := by
        rw [List.drop_eq_getElem_cons (by omega), List.getD_eq_getElem?_getD, List.getElem?_eq_getElem (by omega)]; rfl
      rw [this]; rfl
    rw [e] at hw
    rw [cT h1, nz, na, cA p1 h1, ea, cA (by omega) (by omega)]
    simp only [ub_of, u_lt, hm, hP, Nat.zero_add, hb, Bool.and_true, cond_true]
    exact hw
  · rw [cF h1]
    have e : S95c a s l z = l := by
      unfold S95c
      rw [List.drop_eq_nil_of_le (by omega), List.nil_append, show a.toNat + z.toNat = a.toNat + s.length by omega, List.take_append_drop]
    rw [e] at hw
    exact hw
theorem loop95a {n : Nat} (hn : 120 ≤ n) : LoopOk CB.G 0 (callO noTmps CB.O CB.tab n) n 120 58 0 b95a (ld95a P95a S95a) := by
  refine loop_of CB YB0 (lh := fun _ => none) hn ?_ (fun p _ ld h => by cases h) ?_
  · exact wf_loops _ none (wf_body (f := 47) rfl) (0, b95a) (by rw [show loopsIn none c47.body = [(0, b95a), (2, b95b), (4, b95c)] from rfl]; exact List.mem_cons_self)
  intro vs ao m t hs rd k1 y w hw
  unfold ld95a at hs
  simp only at hs
  split at hs
  case h_2 => cases hs
  cases hs
  have hp := lt_need hw
  exact step95a _ _ _ _ _ _ _ _ _ _ _ hp.1 hp.2

theorem loop95b {n : Nat} (hn : 120 ≤ n) : LoopOk CB.G 0 (callO noTmps CB.O CB.tab n) n 120 58 2 b95b (ld95b P95b S95b) := by
  refine loop_of CB YB0 (lh := fun _ => none) hn ?_ (fun p _ ld h => by cases h) ?_
  · exact wf_loops _ none (wf_body (f := 47) rfl) (2, b95b) (by rw [show loopsIn none c47.body = [(0, b95a), (2, b95b), (4, b95c)] from rfl]; exact List.mem_cons_of_mem _ List.mem_cons_self)
  intro vs ao m t hs rd k1 y w hw
  unfold ld95b at hs
  simp only at hs
  split at hs
  case h_2 => cases hs
  cases hs
  have hp := lt_need hw
  exact step95b _ _ _ _ _ _ _ _ _ _ hp.1 hp.2

theorem loop95c {n : Nat} (hn : 120 ≤ n) : LoopOk CB.G 0 (callO noTmps CB.O CB.tab n) n 120 58 4 b95c (ld95c P95c S95c) := by
  refine loop_of CB YB0 (lh := fun _ => none) hn ?_ (fun p _ ld h => by cases h) ?_
  · exact wf_loops _ none (wf_body (f := 47) rfl) (4, b95c) (by rw [show loopsIn none c47.body = [(0, b95a), (2, b95b), (4, b95c)] from rfl]; exact List.mem_cons_of_mem _ (List.mem_cons_of_mem _ List.mem_cons_self))
  intro vs ao m t hs rd k1 y w hw
  unfold ld95c at hs
  simp only at hs
  split at hs
  case h_2 => cases hs
  cases hs
  have hp := lt_need hw
  exact step95c _ _ _ _ _ _ _ _ _ _ hp.1 hp.2
end
end Go.Vm.YtdmlbojhfgimnaaGreatDoor
