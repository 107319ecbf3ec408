/-
  A file's record as a text, the document's answer; the table of these laws.
-/
import Derived.Test.YtdmlbojhfgimnaaGreatDoorAP5
set_option linter.unusedVariables false
set_option linter.unusedSimpArgs false
namespace Go.Vm.YtdmlbojhfgimnaaGreatDoor
open Go.Proofs
noncomputable section
set_option maxRecDepth 10000 in
theorem tPutR (b4 b8 : Nat → List UInt8) (h4 : b4 = be4) (h8 : b8 = be8) (k z m t : Nat) : treeOf (lawsA5 b4 b8 h4 h8) tab [50] 4 200 50 [.agg [.int .u8 (.ofNat k), .int .u32 (.ofNat z), .int .u64 (.ofNat m), .int .u64 (.ofNat t)]] =
    cond (!mM (Int.ofNat k) z m) (some (DV.tup [DV.str [], DV.int .i64 4])) (cond (Nat.ble 1 (List.length [DV.int .u8 (Int.ofNat k)]) && (decide (0 ≤ Int.ofNat k) && (decide (Int.ofNat k < 256) && true))) (cond (small (z % 18446744073709551616)) (cond (decide (List.length [UInt8.ofNat (Int.toNat (Int.ofNat k))] + List.length (b4 (z % 18446744073709551616)) ≤ 9223372036854775807)) (cond (small m) (cond (decide (List.length ([UInt8.ofNat (Int.toNat (Int.ofNat k))] ++ b4 (z % 18446744073709551616)) + List.length (b8 m) ≤ 9223372036854775807)) (cond (small t) (cond (decide (List.length ([UInt8.ofNat (Int.toNat (Int.ofNat k))] ++ b4 (z % 18446744073709551616) ++ b8 m) + List.length (b8 t) ≤ 9223372036854775807)) (some (DV.tup [DV.str ([UInt8.ofNat (Int.toNat (Int.ofNat k))] ++ b4 (z % 18446744073709551616) ++ b8 m ++ b8 t), DV.int .i64 0])) none) none) none) none) none) none) none) := by kernel_rfl
theorem lawA98 (k z m t : Nat) (hk : k < 256) (hz : z < 4294967296) (hm : m < 18446744073709551616) (ht : t < 18446744073709551616) :
    treeOf (lawsA5 be4 be8 rfl rfl) tab [50] 4 200 50 [.agg [.int .u8 (.ofNat k), .int .u32 (.ofNat z), .int .u64 (.ofNat m), .int .u64 (.ofNat t)]] = some (putD mM metaS k z m t).val := by
  refine (tPutR be4 be8 rfl rfl k z m t).trans ?_
  show _ = some (PD.val (.br (mM (Int.ofNat k) z m) (.v (.tup [.str (metaS k z m t), .int .i64 0])) (.v (.tup [.str [], .int .i64 4]))))
  rw [Nat.mod_eq_of_lt (show z < 18446744073709551616 by omega), sm (show z < 18446744073709551616 by omega), sm hm, sm ht]
  have e0 : decide (Int.ofNat k < 256) = true := decide_eq_true (by show (k : Int) < 256; omega)
  have e1 : decide (0 ≤ Int.ofNat k) = true := decide_eq_true (by show (0 : Int) ≤ (k : Int); omega)
  rw [e0, e1]
  have e2 : UInt8.ofNat (Int.toNat (Int.ofNat k)) = bq k 1 := by
    show UInt8.ofNat k = UInt8.ofNat (k / 1 % 256)
    rw [Nat.div_one, Nat.mod_eq_of_lt hk]
  rw [e2]
  generalize mM (Int.ofNat k) z m = b
  cases b with
  | false => rfl
  | true =>
    simp only [metaS, List.append_assoc]
    rfl
def gput2 (mm : MM) (ms : Nat → Nat → Nat → Nat → List UInt8) : List DV → Option PD := fun l => match l with
  | [.agg [.int .u8 (.ofNat k), .int .u32 (.ofNat z), .int .u64 (.ofNat m), .int .u64 (.ofNat t)]] => some (putD mm ms k z m t)
  | _ => none
theorem put_lt {mm : MM} {ms : Nat → Nat → Nat → Nat → List UInt8} {k z m t : Nat} (h : (putD mm ms k z m t).ok = true) : k < 256 ∧ z < 4294967296 ∧ m < 18446744073709551616 ∧ t < 18446744073709551616 := by
  unfold putD putOk at h
  simp only [PD.ok_need, Bool.and_eq_true] at h
  exact ⟨of_decide_eq_true h.1.1, of_decide_eq_true h.1.2.1, of_decide_eq_true h.1.2.2.1, of_decide_eq_true h.1.2.2.2⟩
theorem wf_put (k z m t : Nat) : wf 0 (toV (putD mM metaS k z m t).val) := by
  show wf 0 (toV (PD.val (.br (mM (Int.ofNat k) z m) (.v (.tup [.str (metaS k z m t), .int .i64 0])) (.v (.tup [.str [], .int .i64 4])))))
  generalize mM (Int.ofNat k) z m = b
  cases b <;> exact ⟨trivial, trivial, trivial⟩
theorem gA106_ok (mm : MM) (ms : Nat → Nat → Nat → Nat → List UInt8) (h1 : mm = mM) (h2 : ms = metaS) : ∀ l d, gput2 mm ms l = some d → d.ok = true → PlainCall Tryz.prog [] 76 (toVs l) (toV d.val) ∧ ofVs (toVs l) = some l := by
  intro l d h hk
  subst h1 h2
  unfold gput2 at h
  split at h
  · cases h
    obtain ⟨a, b, c, d⟩ := put_lt hk
    exact ⟨plain_by _ tab_ok globals4 (by kernel_rfl) (lawA106 _ _ _ _ a b c d) ⟨⟨trivial, trivial, trivial, trivial, trivial⟩, trivial⟩ (wf_put _ _ _ _), rfl⟩
  · cases h
theorem gA98_ok (mm : MM) (ms : Nat → Nat → Nat → Nat → List UInt8) (h1 : mm = mM) (h2 : ms = metaS) : ∀ l d, gput2 mm ms l = some d → d.ok = true → PlainCall Tryz.prog [] 50 (toVs l) (toV d.val) ∧ ofVs (toVs l) = some l := by
  intro l d h hk
  subst h1 h2
  unfold gput2 at h
  split at h
  · cases h
    obtain ⟨a, b, c, d⟩ := put_lt hk
    exact ⟨plain_by _ tab_ok globals4 (by kernel_rfl) (lawA98 _ _ _ _ a b c d) ⟨⟨trivial, trivial, trivial, trivial, trivial⟩, trivial⟩ (wf_put _ _ _ _), rfl⟩
  · cases h
def lawsA6 : Laws Tryz.prog := ((lawsA4 zA mA tA rfl rfl rfl mM rfl).add 76 (gput2 mM metaS) (gA106_ok mM metaS rfl rfl)).add 50 (gput2 mM metaS) (gA98_ok mM metaS rfl rfl)
set_option maxRecDepth 10000 in
theorem tPm (cu : Bool) (a n : Int) (s : List UInt8) : treeOf lawsA6 tab [100] 4 200 100 [.agg [.bool cu, .int .i64 a, .int .i64 n, .str s]] =
    cond (cu) (cond (decide (0 ≤ n)) (cond (decide (n < 64)) (cond (decide (a = 0)) (some (DV.bool (decide (s = [])))) (some (DV.bool false))) (some (DV.bool false))) (some (DV.bool false))) (cond (!decide (s = [])) (cond (decide ((↑(List.length s) : Int) ≤ 64)) (cond (decide (0 ≤ a)) (cond (decide (a ≤ IntKind.wrap .i64 (64 - (↑(List.length s) : Int)))) (some (DV.bool (decide (n = 0)))) (some (DV.bool false))) (some (DV.bool false))) (some (DV.bool false))) (some (DV.bool false))) := by kernel_rfl
set_option maxRecDepth 10000 in
theorem tPmR (cu : Bool) (a n : Int) (s : List UInt8) : treeOf lawsA6 tab [78] 4 200 78 [.agg [.bool cu, .int .i64 a, .int .i64 n, .str s]] =
    cond (cu) (cond (decide (0 ≤ n)) (cond (decide (n < 64)) (cond (decide (a = 0)) (some (DV.bool (decide ((↑(List.length s) : Int) = 0)))) (some (DV.bool false))) (some (DV.bool false))) (some (DV.bool false))) (cond (decide (1 ≤ (↑(List.length s) : Int))) (cond (decide ((↑(List.length s) : Int) ≤ 64)) (cond (decide (0 ≤ a)) (cond (decide (a ≤ IntKind.wrap .i64 (64 - (↑(List.length s) : Int)))) (some (DV.bool (decide (n = 0)))) (some (DV.bool false))) (some (DV.bool false))) (some (DV.bool false))) (some (DV.bool false))) := by kernel_rfl
def pM (cu : Bool) (a n : Int) (s : List UInt8) : Bool := cond cu (decide (0 ≤ n) && (decide (n < 64) && (decide (a = 0) && decide (s = [])))) (!decide (s = []) && (decide ((s.length : Int) ≤ 64) && (decide (0 ≤ a) && (decide (a + s.length ≤ 64) && decide (n = 0)))))
theorem law137 (cu : Bool) (a n : Int) (s : List UInt8) : treeOf lawsA6 tab [100] 4 200 100 [.agg [.bool cu, .int .i64 a, .int .i64 n, .str s]] = some (.bool (pM cu a n s)) := by
  rw [tPm]
  unfold pM
  cases cu with
  | true => cases decide (0 ≤ n) <;> cases decide (n < 64) <;> cases decide (a = 0) <;> rfl
  | false =>
    by_cases h : (s.length : Int) ≤ 64
    · rw [wrap_i64 (z := 64 - (s.length : Int)) (by omega) (by omega), show decide (a ≤ 64 - (s.length : Int)) = decide (a + s.length ≤ 64) by rw [Bool.eq_iff_iff, decide_eq_true_eq, decide_eq_true_eq]; omega]
      cases decide (s = []) <;> cases decide ((s.length : Int) ≤ 64) <;> cases decide (0 ≤ a) <;> cases decide (a + s.length ≤ 64) <;> rfl
    · rw [decide_eq_false h]
      cases decide (s = []) <;> rfl
theorem pm_nil (s : List UInt8) : decide ((s.length : Int) = 0) = decide (s = []) := by
  rw [Bool.eq_iff_iff, decide_eq_true_eq, decide_eq_true_eq, ← List.length_eq_zero_iff]
  omega
theorem pm_nil1 (s : List UInt8) : decide (1 ≤ (s.length : Int)) = !decide (s = []) := by
  rw [← pm_nil]
  by_cases h : (s.length : Int) = 0
  · rw [decide_eq_true h, decide_eq_false (by omega)]; rfl
  · rw [decide_eq_false h, decide_eq_true (by omega)]; rfl
theorem law117 (cu : Bool) (a n : Int) (s : List UInt8) : treeOf lawsA6 tab [78] 4 200 78 [.agg [.bool cu, .int .i64 a, .int .i64 n, .str s]] = some (.bool (pM cu a n s)) := by
  rw [tPmR, pm_nil, pm_nil1]
  unfold pM
  cases cu with
  | true => cases decide (0 ≤ n) <;> cases decide (n < 64) <;> cases decide (a = 0) <;> rfl
  | false =>
    by_cases h : (s.length : Int) ≤ 64
    · rw [wrap_i64 (z := 64 - (s.length : Int)) (by omega) (by omega), show decide (a ≤ 64 - (s.length : Int)) = decide (a + s.length ≤ 64) by rw [Bool.eq_iff_iff, decide_eq_true_eq, decide_eq_true_eq]; omega]
      cases decide (s = []) <;> cases decide ((s.length : Int) ≤ 64) <;> cases decide (0 ≤ a) <;> cases decide (a + s.length ≤ 64) <;> rfl
    · rw [decide_eq_false h]
      cases decide (s = []) <;> rfl
def gpm : List DV → Option PD := fun l => match l with
  | [.agg [.bool cu, .int .i64 a, .int .i64 n, .str s]] => some (.v (.bool (pM cu a n s)))
  | _ => none
theorem dec_pm (cu : Bool) (a n : Int) (s : List UInt8) : ofVs (toVs [.agg [.bool cu, .int .i64 a, .int .i64 n, .str s]]) = some [.agg [.bool cu, .int .i64 a, .int .i64 n, .str s]] := by
  show (match ofV (toV (.agg [.bool cu, .int .i64 a, .int .i64 n, .str s])), ofVs [] with | some x, some l => some (x :: l) | _, _ => none) = _
  have : ofV (toV (.agg [.bool cu, .int .i64 a, .int .i64 n, .str s])) = some (.agg [.bool cu, .int .i64 a, .int .i64 n, .str s]) := by
    simp only [toV, toVs, ofV, ofVs, ofV_sv]
  rw [this]; rfl
theorem g137_ok : ∀ l d, gpm l = some d → d.ok = true → PlainCall Tryz.prog [] 100 (toVs l) (toV d.val) ∧ ofVs (toVs l) = some l := by
  intro l d h hk
  unfold gpm at h
  split at h
  · cases h
    exact ⟨plain_by _ tab_ok globals4 (by kernel_rfl) (law137 _ _ _ _) ⟨⟨trivial, trivial, trivial, trivial, trivial⟩, trivial⟩ trivial, dec_pm _ _ _ _⟩
  · cases h
theorem g117_ok : ∀ l d, gpm l = some d → d.ok = true → PlainCall Tryz.prog [] 78 (toVs l) (toV d.val) ∧ ofVs (toVs l) = some l := by
  intro l d h hk
  unfold gpm at h
  split at h
  · cases h
    exact ⟨plain_by _ tab_ok globals4 (by kernel_rfl) (law117 _ _ _ _) ⟨⟨trivial, trivial, trivial, trivial, trivial⟩, trivial⟩ trivial, dec_pm _ _ _ _⟩
  · cases h
def lawsA7 : Laws Tryz.prog := (lawsA6.add 100 gpm g137_ok).add 78 gpm g117_ok
end
end Go.Vm.YtdmlbojhfgimnaaGreatDoor
