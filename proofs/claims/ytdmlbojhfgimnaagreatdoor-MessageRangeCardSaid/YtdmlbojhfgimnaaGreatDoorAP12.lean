/-
  What a patch makes of a block, as the program and as the document's answer tell it.
-/
import Derived.Test.YtdmlbojhfgimnaaGreatDoorAP11
set_option linter.unusedVariables false
set_option linter.unusedSimpArgs false
namespace Go.Vm.YtdmlbojhfgimnaaGreatDoor
open Go.Proofs Go.Vm.R
noncomputable section
theorem tabF_take (g : Nat → UInt8) : ∀ k z m, m ≤ k → (tabF g z k).take m = tabF g z m
  | _, _, 0, _ => by rw [List.take_zero]; rfl
  | 0, _, m + 1, h => by omega
  | k + 1, z, m + 1, h => by
    show (g z :: tabF g (z + 1) k).take (m + 1) = g z :: tabF g (z + 1) m
    rw [List.take_succ_cons, tabF_take g k (z + 1) m (by omega)]
theorem tabF_drop (g : Nat → UInt8) : ∀ m k z, m ≤ k → (tabF g z k).drop m = tabF g (z + m) (k - m)
  | 0, _, _, _ => rfl
  | m + 1, 0, _, h => by omega
  | m + 1, k + 1, z, h => by
    show (g z :: tabF g (z + 1) k).drop (m + 1) = _
    rw [List.drop_succ_cons, tabF_drop g m k (z + 1) (by omega), Nat.add_right_comm, Nat.add_assoc z m 1, Nat.succ_sub_succ]
theorem tabF_ext {g h : Nat → UInt8} : ∀ k z, (∀ i, z ≤ i → i < z + k → g i = h i) → tabF g z k = tabF h z k
  | 0, _, _ => rfl
  | k + 1, z, e => by
    show g z :: tabF g (z + 1) k = h z :: tabF h (z + 1) k
    rw [e z (Nat.le_refl _) (by omega), tabF_ext k (z + 1) (fun i h1 h2 => e i (by omega) (by omega))]
theorem tabF_shift (g : Nat → UInt8) (f : Nat) : ∀ k z, tabF (fun i => g (f + i)) z k = tabF g (f + z) k
  | 0, _ => rfl
  | k + 1, z => by
    show g (f + z) :: tabF (fun i => g (f + i)) (z + 1) k = g (f + z) :: tabF g (f + z + 1) k
    rw [tabF_shift g f k (z + 1)]; rfl
theorem take_getD (v : Txt) {i n : Nat} (h : i < n) : (v.take n).getD i 0 = v.getD i 0 := by
  rw [List.getD_eq_getElem?_getD, List.getD_eq_getElem?_getD, List.getElem?_take, if_pos h]
theorem trimL_zero {s : Txt} {n : Nat} : ∀ k, (∀ i, n ≤ i → i < n + k → s.getD i 0 = 0) → trimL s (n + k) = trimL s n
  | 0, _ => rfl
  | k + 1, h => by
    show trimL s (n + k + 1) = _
    rw [show trimL s (n + k + 1) = cond (decide (((s.getD (n + k) 0).toNat : Int) = 0)) (trimL s (n + k)) (n + k + 1) from rfl, h (n + k) (by omega) (by omega)]
    exact trimL_zero k (fun i h1 h2 => h i h1 (by omega))
theorem trim_zeros (x : Txt) (z k : Nat) : trimS (x ++ tabF (fun _ => 0) z k) = trimS x := by
  have e1 : trimL (x ++ tabF (fun _ => 0) z k) (x.length + k) = trimL x x.length := by
    rw [trimL_zero k ?_]
    · have := trimL_take (x ++ tabF (fun _ => 0) z k) x.length x.length (Nat.le_refl _)
      rw [List.take_append_of_le_length (Nat.le_refl _), List.take_of_length_le (Nat.le_refl _)] at this
      exact this.symm
    · intro i h1 h2
      rw [List.getD_eq_getElem?_getD, List.getElem?_append_right h1, tabF_get _ _ _ _ (by omega)]; rfl
  unfold trimS
  rw [List.length_append, tabF_len, e1, List.take_append_of_le_length (trimL_le x x.length)]
/-- a value's 64 bytes -/
def allV (v : Txt) : Txt := tabF (fun i => v.getD i 0) 0 64
theorem allV_len (v : Txt) : (allV v).length = 64 := tabF_len _ _ _
theorem allV_eq (v : Txt) : allV v = v.take 64 ++ tabF (fun _ => 0) 0 (64 - (v.take 64).length) := by
  have hl : (v.take 64).length ≤ 64 := by rw [List.length_take]; omega
  apply List.ext_getElem?
  intro i
  by_cases h64 : i < 64
  · rw [show (allV v)[i]? = some (v.getD (0 + i) 0) from tabF_get _ _ _ _ h64, Nat.zero_add]
    by_cases hi : i < (v.take 64).length
    · rw [List.getElem?_append_left hi, List.getElem?_take, if_pos h64, List.getD_eq_getElem?_getD, List.getElem?_eq_getElem (by rw [List.length_take] at hi; omega)]; rfl
    · rw [List.getElem?_append_right (by omega), tabF_get _ _ _ _ (by omega), getD_out (by rw [List.length_take] at hi; omega)]
  · rw [List.getElem?_eq_none (by rw [allV_len]; omega), List.getElem?_eq_none (by rw [List.length_append, tabF_len]; omega)]
def blockDo (v : Txt) (cu : Bool) (a n : Int) (s : Txt) : Txt := cond (pM cu a n s)
  (cond cu (trimS (atS (v.take 64) 0 n)) (trimS (atS (v.take 64) 0 a ++ (s ++ atS (v.take 64) (a + s.length) (64 - (a + s.length)))))) (trimS (v.take 64))
theorem pM_cut {a n : Int} {s : Txt} (h : pM true a n s = true) : 0 ≤ n ∧ n < 64 := by
  unfold pM at h
  simp only [cond_true, Bool.and_eq_true, decide_eq_true_eq] at h
  exact ⟨h.1, h.2.1⟩
theorem pM_spl {a n : Int} {s : Txt} (h : pM false a n s = true) : 0 < s.length ∧ s.length ≤ 64 ∧ 0 ≤ a ∧ a + s.length ≤ 64 := by
  unfold pM at h
  simp only [cond_false, Bool.and_eq_true, decide_eq_true_eq, Bool.not_eq_true', decide_eq_false_iff_not] at h
  obtain ⟨h1, h2, h3, h4, _⟩ := h
  have : s.length ≠ 0 := fun e => h1 (List.eq_nil_of_length_eq_zero e)
  omega
theorem at_len (v : Txt) (f n : Int) : (atS v f n).length = n.toNat := tabF_len _ _ _
theorem at_of (v : Txt) (f n : Int) (h : f.toNat + n.toNat ≤ 64) : atS (v.take 64) f n = tabF (fun i => v.getD i 0) f.toNat n.toNat := by
  unfold atS
  rw [tabF_shift (fun i => (v.take 64).getD i 0), Nat.add_zero]
  exact tabF_ext _ _ (fun i h1 h2 => take_getD v (by omega))
theorem trim_nil {x : Txt} (h : x = []) : trimS x = [] := by subst h; rfl
theorem ns_if {c : Bool} {x : Txt} {w : R.DH} (hc : c = true) : cond (decide (x = [])) (some (R.DV.str x, w)) (cond c (some (R.DV.str (trimS x), w)) none) = some (R.DV.str (trimS x), w) := by
  by_cases h : x = []
  · rw [decide_eq_true h, trim_nil h, h]; rfl
  · rw [decide_eq_false h, hc]; rfl
def outB (v : Txt) (cu : Bool) (a n : Int) (s : Txt) : RD := .need (decide (v.length < 4611686018427387904)) (.v (.str (blockDo v cu a n s)) [])
theorem run103 (ts : Txt → Txt) (at' : Txt → Int → Int → Txt) (jn : Txt → Txt → Txt → Txt) (h1 : ts = trimS) (h2 : at' = atS) (h3 : jn = fun a b c => a ++ (b ++ c)) (v : Txt) (cu : Bool) (a n : Int) (s : Txt) :
    runD CB (YB1 ts at' jn h1 h2 h3) (fun _ => none) 120 c73 [.str v, .agg [.bool cu, .int .i64 a, .int .i64 n, .str s]] [] =
    cond (decide (0 ≤ if false = true then if 64 > (↑(List.length v) : Int) then 64 else (↑(List.length v) : Int) else if 64 < (↑(List.length v) : Int) then 64 else (↑(List.length v) : Int)) && decide ((if false = true then if 64 > (↑(List.length v) : Int) then 64 else (↑(List.length v) : Int) else if 64 < (↑(List.length v) : Int) then 64 else (↑(List.length v) : Int)) ≤ (↑(List.length v) : Int))) (cond (!pM cu a n s) (cond (decide (List.take (Int.toNat (if false = true then if 64 > (↑(List.length v) : Int) then 64 else (↑(List.length v) : Int) else if 64 < (↑(List.length v) : Int) then 64 else (↑(List.length v) : Int))) v = [])) (some (R.DV.str (List.take (Int.toNat (if false = true then if 64 > (↑(List.length v) : Int) then 64 else (↑(List.length v) : Int) else if 64 < (↑(List.length v) : Int) then 64 else (↑(List.length v) : Int))) v), (mkD [] 0))) (cond (decide (List.length (List.take (Int.toNat (if false = true then if 64 > (↑(List.length v) : Int) then 64 else (↑(List.length v) : Int) else if 64 < (↑(List.length v) : Int) then 64 else (↑(List.length v) : Int))) v) < 100)) (some (R.DV.str (ts (List.take (Int.toNat (if false = true then if 64 > (↑(List.length v) : Int) then 64 else (↑(List.length v) : Int) else if 64 < (↑(List.length v) : Int) then 64 else (↑(List.length v) : Int))) v)), (mkD [] 0))) none)) (cond (cu) (cond (okAt (List.take (Int.toNat (if false = true then if 64 > (↑(List.length v) : Int) then 64 else (↑(List.length v) : Int) else if 64 < (↑(List.length v) : Int) then 64 else (↑(List.length v) : Int))) v) 0 n) (cond (decide (at' (List.take (Int.toNat (if false = true then if 64 > (↑(List.length v) : Int) then 64 else (↑(List.length v) : Int) else if 64 < (↑(List.length v) : Int) then 64 else (↑(List.length v) : Int))) v) 0 n = [])) (some (R.DV.str (at' (List.take (Int.toNat (if false = true then if 64 > (↑(List.length v) : Int) then 64 else (↑(List.length v) : Int) else if 64 < (↑(List.length v) : Int) then 64 else (↑(List.length v) : Int))) v) 0 n), (mkD [] 0))) (cond (decide (List.length (at' (List.take (Int.toNat (if false = true then if 64 > (↑(List.length v) : Int) then 64 else (↑(List.length v) : Int) else if 64 < (↑(List.length v) : Int) then 64 else (↑(List.length v) : Int))) v) 0 n) < 100)) (some (R.DV.str (ts (at' (List.take (Int.toNat (if false = true then if 64 > (↑(List.length v) : Int) then 64 else (↑(List.length v) : Int) else if 64 < (↑(List.length v) : Int) then 64 else (↑(List.length v) : Int))) v) 0 n)), (mkD [] 0))) none)) none) (cond (okAt (List.take (Int.toNat (if false = true then if 64 > (↑(List.length v) : Int) then 64 else (↑(List.length v) : Int) else if 64 < (↑(List.length v) : Int) then 64 else (↑(List.length v) : Int))) v) 0 a) (cond (okAt (List.take (Int.toNat (if false = true then if 64 > (↑(List.length v) : Int) then 64 else (↑(List.length v) : Int) else if 64 < (↑(List.length v) : Int) then 64 else (↑(List.length v) : Int))) v) (IntKind.wrap IntKind.i64 (a + (↑(List.length s) : Int))) (IntKind.wrap IntKind.i64 (64 - IntKind.wrap IntKind.i64 (a + (↑(List.length s) : Int))))) (cond (decide (0 < List.length s ∧ List.length (at' (List.take (Int.toNat (if false = true then if 64 > (↑(List.length v) : Int) then 64 else (↑(List.length v) : Int) else if 64 < (↑(List.length v) : Int) then 64 else (↑(List.length v) : Int))) v) 0 a) + List.length s + List.length (at' (List.take (Int.toNat (if false = true then if 64 > (↑(List.length v) : Int) then 64 else (↑(List.length v) : Int) else if 64 < (↑(List.length v) : Int) then 64 else (↑(List.length v) : Int))) v) (IntKind.wrap IntKind.i64 (a + (↑(List.length s) : Int))) (IntKind.wrap IntKind.i64 (64 - IntKind.wrap IntKind.i64 (a + (↑(List.length s) : Int))))) ≤ 1000)) (cond (decide (jn (at' (List.take (Int.toNat (if false = true then if 64 > (↑(List.length v) : Int) then 64 else (↑(List.length v) : Int) else if 64 < (↑(List.length v) : Int) then 64 else (↑(List.length v) : Int))) v) 0 a) s (at' (List.take (Int.toNat (if false = true then if 64 > (↑(List.length v) : Int) then 64 else (↑(List.length v) : Int) else if 64 < (↑(List.length v) : Int) then 64 else (↑(List.length v) : Int))) v) (IntKind.wrap IntKind.i64 (a + (↑(List.length s) : Int))) (IntKind.wrap IntKind.i64 (64 - IntKind.wrap IntKind.i64 (a + (↑(List.length s) : Int))))) = [])) (some (R.DV.str (jn (at' (List.take (Int.toNat (if false = true then if 64 > (↑(List.length v) : Int) then 64 else (↑(List.length v) : Int) else if 64 < (↑(List.length v) : Int) then 64 else (↑(List.length v) : Int))) v) 0 a) s (at' (List.take (Int.toNat (if false = true then if 64 > (↑(List.length v) : Int) then 64 else (↑(List.length v) : Int) else if 64 < (↑(List.length v) : Int) then 64 else (↑(List.length v) : Int))) v) (IntKind.wrap IntKind.i64 (a + (↑(List.length s) : Int))) (IntKind.wrap IntKind.i64 (64 - IntKind.wrap IntKind.i64 (a + (↑(List.length s) : Int)))))), (mkD [] 0))) (cond (decide (List.length (jn (at' (List.take (Int.toNat (if false = true then if 64 > (↑(List.length v) : Int) then 64 else (↑(List.length v) : Int) else if 64 < (↑(List.length v) : Int) then 64 else (↑(List.length v) : Int))) v) 0 a) s (at' (List.take (Int.toNat (if false = true then if 64 > (↑(List.length v) : Int) then 64 else (↑(List.length v) : Int) else if 64 < (↑(List.length v) : Int) then 64 else (↑(List.length v) : Int))) v) (IntKind.wrap IntKind.i64 (a + (↑(List.length s) : Int))) (IntKind.wrap IntKind.i64 (64 - IntKind.wrap IntKind.i64 (a + (↑(List.length s) : Int)))))) < 100)) (some (R.DV.str (ts (jn (at' (List.take (Int.toNat (if false = true then if 64 > (↑(List.length v) : Int) then 64 else (↑(List.length v) : Int) else if 64 < (↑(List.length v) : Int) then 64 else (↑(List.length v) : Int))) v) 0 a) s (at' (List.take (Int.toNat (if false = true then if 64 > (↑(List.length v) : Int) then 64 else (↑(List.length v) : Int) else if 64 < (↑(List.length v) : Int) then 64 else (↑(List.length v) : Int))) v) (IntKind.wrap IntKind.i64 (a + (↑(List.length s) : Int))) (IntKind.wrap IntKind.i64 (64 - IntKind.wrap IntKind.i64 (a + (↑(List.length s) : Int))))))), (mkD [] 0))) none)) none) none) none))) none := by kernel_rfl
theorem lawB103 (v : Txt) (cu : Bool) (a n : Int) (s : Txt) : LawOk CB.G CB.O CB.tab 73 121 [] [.str v, .agg [.bool cu, .int .i64 a, .int .i64 n, .str s]] (outB v cu a n s) := by
  refine law_of CB (YB1 trimS atS (fun a b c => a ++ (b ++ c)) rfl rfl rfl) (fun _ => none) rfl rfl (fun n hn p _ ld e => by cases e) fun z hz => ?_
  obtain ⟨hp, hz⟩ := R.ev_need hz
  have hp := of_decide_eq_true hp
  refine (run103 trimS atS (fun a b c => a ++ (b ++ c)) rfl rfl rfl v cu a n s).trans ?_
  have em : (if false = true then if 64 > (v.length : Int) then 64 else (v.length : Int) else if 64 < (v.length : Int) then 64 else (v.length : Int)) = ((v.take 64).length : Int) := by
    rw [List.length_take, if_neg (by decide)]
    split <;> omega
  have et : v.take (v.take 64).length = v.take 64 := by
    rw [List.length_take, List.take_eq_take_iff]; omega
  have hl : (v.take 64).length ≤ 64 := by rw [List.length_take]; omega
  have hl2 : (v.take 64).length ≤ v.length := by rw [List.length_take]; omega
  rw [em, Int.toNat_natCast, et, cA (by omega) (by omega)]
  have hz : some (R.DV.str (blockDo v cu a n s), mkD [] 0) = some z := hz
  rw [← hz]
  unfold blockDo
  cases hm : pM cu a n s with
  | false => exact ns_if (decide_eq_true (by omega))
  | true =>
    cases cu with
    | true =>
      obtain ⟨q1, q2⟩ := pM_cut hm
      have k1 : okAt (v.take 64) 0 n = true := by unfold okAt; rw [decide_eq_true_eq]; omega
      show cond (okAt (v.take 64) 0 n) _ _ = _
      rw [k1]
      exact ns_if (decide_eq_true (by rw [at_len]; omega))
    | false =>
      obtain ⟨q1, q2, q3, q4⟩ := pM_spl hm
      have w1 : IntKind.wrap .i64 (a + (s.length : Int)) = a + s.length := wrap_i64 (by omega) (by omega)
      have w2 : IntKind.wrap .i64 (64 - (a + (s.length : Int))) = 64 - (a + s.length) := wrap_i64 (by omega) (by omega)
      rw [w1, w2]
      have k1 : okAt (v.take 64) 0 a = true := by unfold okAt; rw [decide_eq_true_eq]; omega
      have k2 : okAt (v.take 64) (a + s.length) (64 - (a + s.length)) = true := by unfold okAt; rw [decide_eq_true_eq]; omega
      have k3 : decide (0 < s.length ∧ (atS (v.take 64) 0 a).length + s.length + (atS (v.take 64) (a + s.length) (64 - (a + s.length))).length ≤ 1000) = true := decide_eq_true (by rw [at_len, at_len]; omega)
      rw [k1, k2, k3]
      exact ns_if (decide_eq_true (by rw [List.length_append, List.length_append, at_len, at_len]; omega))
theorem run95 (ts : Txt → Txt) (at' : Txt → Int → Int → Txt) (jn : Txt → Txt → Txt → Txt) (h1 : ts = trimS) (h2 : at' = atS) (h3 : jn = fun a b c => a ++ (b ++ c)) (Pa : Txt → Txt → Int → Bool) (Sa : Txt → Txt → Int → Txt) (Pb : Txt → Int → Bool) (Sb : Txt → Int → Txt) (Pc : Int → Txt → Txt → Int → Bool) (Sc : Int → Txt → Txt → Int → Txt) (zr : Txt) (hzr : zr = List.replicate 64 0) (v : Txt) (cu : Bool) (a n : Int) (s : Txt) :
    runD CB (YB1 ts at' jn h1 h2 h3) (lhB (ld95a Pa Sa) (ld95b Pb Sb) (ld95c Pc Sc)) 120 c47 [.str v, .agg [.bool cu, .int .i64 a, .int .i64 n, .str s]] [] =
    cond (Pa v zr 0) (cond (pM cu a n s) (cond (cu) (cond (decide (64 - Int.toNat n < 120)) (cond (Pb (Sa v zr 0) n) (cond (pM cu a n s) (cond (!cu) (cond (decide (List.length s - 0 < 120)) (cond (Pc a s (Sb (Sa v zr 0) n) 0) (cond (Nat.ble 64 (List.length (Sc a s (Sb (Sa v zr 0) n) 0))) (cond (Nat.ble 64 (List.length (Sc a s (Sb (Sa v zr 0) n) 0))) (cond (decide (List.length (List.take 64 (List.drop 0 (Sc a s (Sb (Sa v zr 0) n) 0))) < 100)) (some (R.DV.str (ts (List.take 64 (List.drop 0 (Sc a s (Sb (Sa v zr 0) n) 0)))), (mkD [] 0))) none) none) none) none) none) (cond (Nat.ble 64 (List.length (Sb (Sa v zr 0) n))) (cond (Nat.ble 64 (List.length (Sb (Sa v zr 0) n))) (cond (decide (List.length (List.take 64 (List.drop 0 (Sb (Sa v zr 0) n))) < 100)) (some (R.DV.str (ts (List.take 64 (List.drop 0 (Sb (Sa v zr 0) n)))), (mkD [] 0))) none) none) none)) (cond (Nat.ble 64 (List.length (Sb (Sa v zr 0) n))) (cond (Nat.ble 64 (List.length (Sb (Sa v zr 0) n))) (cond (decide (List.length (List.take 64 (List.drop 0 (Sb (Sa v zr 0) n))) < 100)) (some (R.DV.str (ts (List.take 64 (List.drop 0 (Sb (Sa v zr 0) n)))), (mkD [] 0))) none) none) none)) none) none) (cond (pM cu a n s) (cond (!cu) (cond (decide (List.length s - 0 < 120)) (cond (Pc a s (Sa v zr 0) 0) (cond (Nat.ble 64 (List.length (Sc a s (Sa v zr 0) 0))) (cond (Nat.ble 64 (List.length (Sc a s (Sa v zr 0) 0))) (cond (decide (List.length (List.take 64 (List.drop 0 (Sc a s (Sa v zr 0) 0))) < 100)) (some (R.DV.str (ts (List.take 64 (List.drop 0 (Sc a s (Sa v zr 0) 0)))), (mkD [] 0))) none) none) none) none) none) (cond (Nat.ble 64 (List.length (Sa v zr 0))) (cond (Nat.ble 64 (List.length (Sa v zr 0))) (cond (decide (List.length (List.take 64 (List.drop 0 (Sa v zr 0))) < 100)) (some (R.DV.str (ts (List.take 64 (List.drop 0 (Sa v zr 0)))), (mkD [] 0))) none) none) none)) (cond (Nat.ble 64 (List.length (Sa v zr 0))) (cond (Nat.ble 64 (List.length (Sa v zr 0))) (cond (decide (List.length (List.take 64 (List.drop 0 (Sa v zr 0))) < 100)) (some (R.DV.str (ts (List.take 64 (List.drop 0 (Sa v zr 0)))), (mkD [] 0))) none) none) none))) (cond (pM cu a n s) (cond (!cu) (cond (decide (List.length s - 0 < 120)) (cond (Pc a s (Sa v zr 0) 0) (cond (Nat.ble 64 (List.length (Sc a s (Sa v zr 0) 0))) (cond (Nat.ble 64 (List.length (Sc a s (Sa v zr 0) 0))) (cond (decide (List.length (List.take 64 (List.drop 0 (Sc a s (Sa v zr 0) 0))) < 100)) (some (R.DV.str (ts (List.take 64 (List.drop 0 (Sc a s (Sa v zr 0) 0)))), (mkD [] 0))) none) none) none) none) none) (cond (Nat.ble 64 (List.length (Sa v zr 0))) (cond (Nat.ble 64 (List.length (Sa v zr 0))) (cond (decide (List.length (List.take 64 (List.drop 0 (Sa v zr 0))) < 100)) (some (R.DV.str (ts (List.take 64 (List.drop 0 (Sa v zr 0)))), (mkD [] 0))) none) none) none)) (cond (Nat.ble 64 (List.length (Sa v zr 0))) (cond (Nat.ble 64 (List.length (Sa v zr 0))) (cond (decide (List.length (List.take 64 (List.drop 0 (Sa v zr 0))) < 100)) (some (R.DV.str (ts (List.take 64 (List.drop 0 (Sa v zr 0)))), (mkD [] 0))) none) none) none))) none := by
  subst hzr
  kernel_rfl
theorem loops95 {n : Nat} (hn : 120 ≤ n) : ∀ p ∈ loopsIn none c47.body, ∀ ld, lhB (ld95a P95a S95a) (ld95b P95b S95b) (ld95c P95c S95c) p.1 = some ld → LoopOk CB.G 0 (callO noTmps CB.O CB.tab n) n 120 58 p.1 p.2 ld := by
  intro p hp ld e
  rw [show loopsIn none c47.body = [(0, b95a), (2, b95b), (4, b95c)] from rfl] at hp
  rcases List.mem_cons.1 hp with rfl | hp
  · cases e; exact loop95a hn
  rcases List.mem_cons.1 hp with rfl | hp
  · cases e; exact loop95b hn
  rcases List.mem_cons.1 hp with rfl | hp
  · cases e; exact loop95c hn
  · cases hp
theorem fin95 {x : Txt} (hx : x.length = 64) : cond (Nat.ble 64 x.length) (cond (Nat.ble 64 x.length) (cond (decide ((List.take 64 (List.drop 0 x)).length < 100)) (some (R.DV.str (trimS (List.take 64 (List.drop 0 x))), mkD [] 0)) none) none) none = some (R.DV.str (trimS x), mkD [] 0) := by
  have e1 : List.take 64 (List.drop 0 x) = x := by rw [List.drop_zero]; exact List.take_of_length_le (by omega)
  rw [e1, hx]; rfl
theorem lawB95 (v : Txt) (cu : Bool) (a n : Int) (s : Txt) : LawOk CB.G CB.O CB.tab 47 121 [] [.str v, .agg [.bool cu, .int .i64 a, .int .i64 n, .str s]] (outB v cu a n s) := by
  refine law_of CB (YB1 trimS atS (fun a b c => a ++ (b ++ c)) rfl rfl rfl) (lhB (ld95a P95a S95a) (ld95b P95b S95b) (ld95c P95c S95c)) rfl rfl (fun n hn => loops95 hn) fun z hz => ?_
  obtain ⟨hp, hz⟩ := R.ev_need hz
  refine (run95 trimS atS (fun a b c => a ++ (b ++ c)) rfl rfl rfl P95a S95a P95b S95b P95c S95c _ rfl v cu a n s).trans ?_
  have hz : some (R.DV.str (blockDo v cu a n s), mkD [] 0) = some z := hz
  rw [← hz]
  have l0 : (List.replicate 64 (0 : UInt8)).length = 64 := List.length_replicate
  have p0 : P95a v (List.replicate 64 0) 0 = true := okA_iff.2 ⟨l0, by omega, by omega⟩
  have eA : S95a v (List.replicate 64 0) 0 = allV v := rfl
  rw [p0, eA]
  have lA := allV_len v
  unfold blockDo
  cases hm : pM cu a n s with
  | false =>
    have e : trimS (allV v) = trimS (v.take 64) := by rw [allV_eq, trim_zeros]
    show _ = some (R.DV.str (trimS (v.take 64)), mkD [] 0)
    rw [← e]
    exact fin95 lA
  | true =>
    cases cu with
    | true =>
      obtain ⟨q1, q2⟩ := pM_cut hm
      have p1 : P95b (allV v) n = true := okA_iff.2 ⟨lA, q1, by omega⟩
      have e : S95b (allV v) n = atS (v.take 64) 0 n ++ tabF (fun _ => 0) n.toNat (64 - n.toNat) := by
        unfold S95b upd
        congr 1
        rw [at_of _ _ _ (by omega)]
        exact tabF_take _ _ _ _ (by omega)
      have lB : (S95b (allV v) n).length = 64 := by rw [e, List.length_append, at_len, tabF_len]; omega
      show cond (decide (64 - n.toNat < 120)) _ _ = some (R.DV.str (trimS (atS (v.take 64) 0 n)), mkD [] 0)
      rw [decide_eq_true (show 64 - n.toNat < 120 by omega), p1, ← trim_zeros (atS (v.take 64) 0 n) n.toNat (64 - n.toNat), ← e]
      exact fin95 lB
    | false =>
      obtain ⟨q1, q2, q3, q4⟩ := pM_spl hm
      have p1 : P95c a s (allV v) 0 = true := by unfold P95c; rw [decide_eq_true_eq]; omega
      have e : S95c a s (allV v) 0 = atS (v.take 64) 0 a ++ (s ++ atS (v.take 64) (a + s.length) (64 - (a + s.length))) := by
        unfold S95c
        rw [at_of _ _ _ (by omega), at_of _ _ _ (by omega)]
        congr 1
        · exact tabF_take _ _ _ _ (by omega)
        · congr 1
          have := tabF_drop (fun i => v.getD i 0) (a.toNat + s.length) 64 0 (by omega)
          rw [Nat.zero_add] at this
          rw [show (a + (s.length : Int)).toNat = a.toNat + s.length by omega, show (64 - (a + (s.length : Int))).toNat = 64 - (a.toNat + s.length) by omega]
          exact this
      have lC : (S95c a s (allV v) 0).length = 64 := by rw [e, List.length_append, List.length_append, at_len, at_len]; omega
      show cond (decide (s.length - 0 < 120)) _ _ = some (R.DV.str (trimS (atS (v.take 64) 0 a ++ (s ++ atS (v.take 64) (a + s.length) (64 - (a + s.length))))), mkD [] 0)
      rw [decide_eq_true (show s.length - 0 < 120 by omega), p1, ← e]
      exact fin95 lC
end
end Go.Vm.YtdmlbojhfgimnaaGreatDoor
