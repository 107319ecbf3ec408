/-
  Whether a record of a file, or a change of one, may be: as the program and as the document's answer tell it.
-/
import Derived.Test.YtdmlbojhfgimnaaGreatDoorAP2
set_option linter.unusedVariables false
set_option linter.unusedSimpArgs false
namespace Go.Vm.YtdmlbojhfgimnaaGreatDoor
open Go.Proofs
noncomputable section
set_option maxRecDepth 10000 in
theorem tMc (st : Nat → Int → Nat → Nat) (hs : st = stepN) (k : Int) (z m : Nat) (t : Int) : treeOf (lawsA2 st hs) tab [106] 4 200 106 [.agg [.int .u8 k, .int .u32 (.ofNat z), .int .u64 (.ofNat m), .int .u64 t]] =
    cond (!decide (k = 1)) (cond (!decide (k = 2)) (some (DV.int .i64 4)) (cond (decide (2048 < Int.ofNat z)) (some (DV.int .i64 4)) (cond (decide (k = 2)) (cond (decide (0 < Int.ofNat z)) (some (DV.int .i64 4)) (cond (!decide (Int.ofNat (qN m) = Int.ofNat m)) (some (DV.int .i64 4)) (some (DV.int .i64 0)))) (cond (!decide (Int.ofNat (qN m) = Int.ofNat m)) (some (DV.int .i64 4)) (some (DV.int .i64 0)))))) (cond (decide (2048 < Int.ofNat z)) (some (DV.int .i64 4)) (cond (decide (k = 2)) (cond (decide (0 < Int.ofNat z)) (some (DV.int .i64 4)) (cond (!decide (Int.ofNat (qN m) = Int.ofNat m)) (some (DV.int .i64 4)) (some (DV.int .i64 0)))) (cond (!decide (Int.ofNat (qN m) = Int.ofNat m)) (some (DV.int .i64 4)) (some (DV.int .i64 0))))) := by kernel_rfl
set_option maxRecDepth 10000 in
theorem tMcR (st : Nat → Int → Nat → Nat) (hs : st = stepN) (k : Int) (z m : Nat) (t : Int) : treeOf (lawsA2 st hs) tab [82] 4 200 82 [.agg [.int .u8 k, .int .u32 (.ofNat z), .int .u64 (.ofNat m), .int .u64 t]] =
    cond (decide (k = 2)) (cond (decide (Int.ofNat z = 0)) (some (DV.bool (decide (Int.ofNat (qN m) = Int.ofNat m)))) (some (DV.bool false))) (cond (decide (k = 1)) (cond (decide (Int.ofNat z ≤ 2048)) (some (DV.bool (decide (Int.ofNat (qN m) = Int.ofNat m)))) (some (DV.bool false))) (some (DV.bool false))) := by kernel_rfl
set_option maxRecDepth 10000 in
theorem tCm (st : Nat → Int → Nat → Nat) (hs : st = stepN) (w n op : Int) (y : Nat) : treeOf (lawsA2 st hs) tab [107] 4 200 107 [.agg [.int .u8 w, .int .u64 n, .int .u8 op, .int .u64 (.ofNat y)]] =
    cond (decide (w = 1)) (cond (decide (2048 < n)) (some (DV.bool false)) (some (DV.bool ((decide (op = 0) && (decide (Int.ofNat y = 0) && true)) != false)))) (cond (decide (w = 2)) (cond (decide (2048 < n)) (some (DV.bool false)) (some (DV.bool ((decide (op = 0) && (decide (Int.ofNat y = 0) && true)) != false)))) (cond (decide (w = 4)) (some (DV.bool ((decide (op = 0) && (decide (Int.ofNat y = 0) && true)) != false))) (cond (decide (w = 3)) (cond (decide (n = 0)) (cond (decide (1 ≤ op)) (some (DV.bool (decide (op ≤ 5)))) (some (DV.bool false))) (some (DV.bool false))) (some (DV.bool false))))) := by kernel_rfl
set_option maxRecDepth 10000 in
theorem tCmR (st : Nat → Int → Nat → Nat) (hs : st = stepN) (w n op : Int) (y : Nat) : treeOf (lawsA2 st hs) tab [83] 4 200 83 [.agg [.int .u8 w, .int .u64 n, .int .u8 op, .int .u64 (.ofNat y)]] =
    cond (decide (w = 1)) (cond (decide (n ≤ 2048)) (cond (decide (op = 0)) (some (DV.bool (decide (Int.ofNat y = 0)))) (some (DV.bool false))) (some (DV.bool false))) (cond (decide (w = 2)) (cond (decide (n ≤ 2048)) (cond (decide (op = 0)) (some (DV.bool (decide (Int.ofNat y = 0)))) (some (DV.bool false))) (some (DV.bool false))) (cond (decide (w = 3)) (cond (decide (n = 0)) (cond (decide (1 ≤ op)) (some (DV.bool (decide (op ≤ 5)))) (some (DV.bool false))) (some (DV.bool false))) (cond (decide (w = 4)) (cond (decide (op = 0)) (some (DV.bool (decide (Int.ofNat y = 0)))) (some (DV.bool false))) (some (DV.bool false))))) := by kernel_rfl
def mM (k : Int) (z m : Nat) : Bool := cond (decide (k = 2)) (decide (z = 0)) (cond (decide (k = 1)) (decide (z ≤ 2048)) false) && decide (qN m = m)
def cM (w n op : Int) (y : Nat) : Bool := cond (decide (w = 1) || decide (w = 2)) (decide (n ≤ 2048) && (decide (op = 0) && decide (y = 0))) (cond (decide (w = 3)) (decide (n = 0) && (decide (1 ≤ op) && decide (op ≤ 5)))
  (cond (decide (w = 4)) (decide (op = 0) && decide (y = 0)) false))
theorem nat_eq (a b : Nat) : decide (Int.ofNat a = Int.ofNat b) = decide (a = b) := by
  by_cases h : a = b
  · subst h; simp
  · rw [decide_eq_false h, decide_eq_false (fun e => h (Int.ofNat.inj e))]
theorem nat_zero (a : Nat) : decide (Int.ofNat a = 0) = decide (a = 0) := nat_eq a 0
theorem nat_big (a : Nat) : decide (2048 < Int.ofNat a) = !decide (a ≤ 2048) := by
  rw [show decide (2048 < Int.ofNat a) = decide (2048 < a) from lt_of 2048 a]
  by_cases h : a ≤ 2048
  · rw [decide_eq_true h, decide_eq_false (by omega)]; rfl
  · rw [decide_eq_false h, decide_eq_true (by omega)]; rfl
theorem nat_pos (a : Nat) : decide (0 < Int.ofNat a) = !decide (a = 0) := by
  rw [show decide (0 < Int.ofNat a) = decide (0 < a) from lt_of 0 a]
  by_cases h : a = 0
  · rw [decide_eq_true h, decide_eq_false (by omega)]; rfl
  · rw [decide_eq_false h, decide_eq_true (by omega)]; rfl
theorem nat_le (a : Nat) : decide (Int.ofNat a ≤ 2048) = decide (a ≤ 2048) := by
  by_cases h : a ≤ 2048
  · rw [decide_eq_true h, decide_eq_true (show Int.ofNat a ≤ 2048 from Int.ofNat_le.2 h)]
  · rw [decide_eq_false h, decide_eq_false (fun e : Int.ofNat a ≤ 2048 => h (Int.ofNat_le.1 e))]
theorem int_le (a : Int) : decide (2048 < a) = !decide (a ≤ 2048) := by
  by_cases h : a ≤ 2048
  · rw [decide_eq_true h, decide_eq_false (by omega)]; rfl
  · rw [decide_eq_false h, decide_eq_true (by omega)]; rfl
theorem bne_false' (b : Bool) : (b != false) = b := by cases b <;> rfl
def mcD (b : Bool) : PD := .br b (.v (.int .i64 0)) (.v (.int .i64 4))
theorem law143 (k : Int) (z m : Nat) (t : Int) : treeOf (lawsA2 stepN rfl) tab [106] 4 200 106 [.agg [.int .u8 k, .int .u32 (.ofNat z), .int .u64 (.ofNat m), .int .u64 t]] = some (mcD (mM k z m)).val := by
  rw [tMc, nat_eq, nat_big, nat_pos]
  unfold mcD mM
  rw [PD.val_br]
  by_cases h1 : k = 1
  · subst h1
    cases decide (z ≤ 2048) <;> cases decide (z = 0) <;> cases decide (qN m = m) <;> rfl
  · by_cases h2 : k = 2
    · subst h2
      by_cases h0 : z = 0
      · subst h0
        cases decide (qN m = m) <;> rfl
      · rw [decide_eq_false h0]
        cases decide (z ≤ 2048) <;> cases decide (qN m = m) <;> rfl
    · rw [decide_eq_false h1, decide_eq_false h2]; rfl
theorem law121' (k : Int) (z m : Nat) (t : Int) : treeOf (lawsA2 stepN rfl) tab [82] 4 200 82 [.agg [.int .u8 k, .int .u32 (.ofNat z), .int .u64 (.ofNat m), .int .u64 t]] = some (.bool (mM k z m)) := by
  rw [tMcR, nat_eq, nat_zero, nat_le]
  unfold mM
  cases decide (k = 2) <;> cases decide (k = 1) <;> cases decide (z ≤ 2048) <;> cases decide (z = 0) <;> cases decide (qN m = m) <;> rfl
theorem law144 (w n op : Int) (y : Nat) : treeOf (lawsA2 stepN rfl) tab [107] 4 200 107 [.agg [.int .u8 w, .int .u64 n, .int .u8 op, .int .u64 (.ofNat y)]] = some (.bool (cM w n op y)) := by
  rw [tCm, nat_zero, int_le, bne_false', Bool.and_true]
  unfold cM
  by_cases h1 : w = 1
  · subst h1; cases decide (n ≤ 2048) <;> cases decide (op = 0) <;> cases decide (y = 0) <;> rfl
  by_cases h2 : w = 2
  · subst h2; cases decide (n ≤ 2048) <;> cases decide (op = 0) <;> cases decide (y = 0) <;> rfl
  by_cases h3 : w = 3
  · subst h3; cases decide (n = 0) <;> cases decide (1 ≤ op) <;> cases decide (op ≤ 5) <;> rfl
  by_cases h4 : w = 4
  · subst h4; cases decide (op = 0) <;> cases decide (y = 0) <;> rfl
  rw [decide_eq_false h1, decide_eq_false h2, decide_eq_false h3, decide_eq_false h4]; rfl
theorem law122 (w n op : Int) (y : Nat) : treeOf (lawsA2 stepN rfl) tab [83] 4 200 83 [.agg [.int .u8 w, .int .u64 n, .int .u8 op, .int .u64 (.ofNat y)]] = some (.bool (cM w n op y)) := by
  rw [tCmR, nat_zero]
  unfold cM
  cases decide (w = 1) <;> cases decide (w = 2) <;> cases decide (w = 3) <;> cases decide (w = 4) <;> cases decide (n ≤ 2048) <;> cases decide (op = 0) <;> cases decide (y = 0) <;> cases decide (n = 0) <;> cases decide (1 ≤ op) <;> cases decide (op ≤ 5) <;> rfl
abbrev MM := Int → Nat → Nat → Bool
abbrev CM := Int → Int → Int → Nat → Bool
abbrev ST := Nat → Int → Nat → Nat
def g143 (mm : MM) : List DV → Option PD := fun l => match l with
  | [.agg [.int .u8 k, .int .u32 (.ofNat z), .int .u64 (.ofNat m), .int .u64 t]] => some (mcD (mm k z m))
  | _ => none
def g121b (mm : MM) : List DV → Option PD := fun l => match l with
  | [.agg [.int .u8 k, .int .u32 (.ofNat z), .int .u64 (.ofNat m), .int .u64 t]] => some (.v (.bool (mm k z m)))
  | _ => none
def g144 (cm : CM) : List DV → Option PD := fun l => match l with
  | [.agg [.int .u8 w, .int .u64 n, .int .u8 op, .int .u64 (.ofNat y)]] => some (.v (.bool (cm w n op y)))
  | _ => none
theorem wf_mc (b : Bool) : wf 0 (toV (mcD b).val) := by cases b <;> trivial
theorem g143_ok (mm : MM) (hm : mm = mM) : ∀ l d, g143 mm l = some d → d.ok = true → PlainCall Tryz.prog [] 106 (toVs l) (toV d.val) ∧ ofVs (toVs l) = some l := by
  intro l d h hk
  subst hm
  unfold g143 at h
  split at h
  · cases h
    exact ⟨plain_by _ tab_ok globals4 (by kernel_rfl) (law143 _ _ _ _) ⟨⟨trivial, trivial, trivial, trivial, trivial⟩, trivial⟩ (wf_mc _), rfl⟩
  · cases h
theorem g121b_ok (mm : MM) (hm : mm = mM) : ∀ l d, g121b mm l = some d → d.ok = true → PlainCall Tryz.prog [] 82 (toVs l) (toV d.val) ∧ ofVs (toVs l) = some l := by
  intro l d h hk
  subst hm
  unfold g121b at h
  split at h
  · cases h
    exact ⟨plain_by _ tab_ok globals4 (by kernel_rfl) (law121' _ _ _ _) ⟨⟨trivial, trivial, trivial, trivial, trivial⟩, trivial⟩ trivial, rfl⟩
  · cases h
theorem g144_ok (cm : CM) (hc : cm = cM) : ∀ l d, g144 cm l = some d → d.ok = true → PlainCall Tryz.prog [] 107 (toVs l) (toV d.val) ∧ ofVs (toVs l) = some l := by
  intro l d h hk
  subst hc
  unfold g144 at h
  split at h
  · cases h
    exact ⟨plain_by _ tab_ok globals4 (by kernel_rfl) (law144 _ _ _ _) ⟨⟨trivial, trivial, trivial, trivial, trivial⟩, trivial⟩ trivial, rfl⟩
  · cases h
theorem g122_ok (cm : CM) (hc : cm = cM) : ∀ l d, g144 cm l = some d → d.ok = true → PlainCall Tryz.prog [] 83 (toVs l) (toV d.val) ∧ ofVs (toVs l) = some l := by
  intro l d h hk
  subst hc
  unfold g144 at h
  split at h
  · cases h
    exact ⟨plain_by _ tab_ok globals4 (by kernel_rfl) (law122 _ _ _ _) ⟨⟨trivial, trivial, trivial, trivial, trivial⟩, trivial⟩ trivial, rfl⟩
  · cases h
def lawsA3 (st : ST) (mm : MM) (cm : CM) (hs : st = stepN) (hm : mm = mM) (hc : cm = cM) : Laws Tryz.prog := ((((lawsA2 st hs).add 106 (g143 mm) (g143_ok mm hm)).add 82 (g121b mm) (g121b_ok mm hm)).add 107 (g144 cm) (g144_ok cm hc)).add 83 (g144 cm) (g122_ok cm hc)
end
end Go.Vm.YtdmlbojhfgimnaaGreatDoor
