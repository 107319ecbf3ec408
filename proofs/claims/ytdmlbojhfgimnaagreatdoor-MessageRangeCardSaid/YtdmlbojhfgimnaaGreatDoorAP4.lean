/-
  What a change makes of a file's record: as the program and as the document's answer tell it.
-/
import Derived.Test.YtdmlbojhfgimnaaGreatDoorAP3
set_option linter.unusedVariables false
set_option linter.unusedSimpArgs false
namespace Go.Vm.YtdmlbojhfgimnaaGreatDoor
open Go.Proofs
noncomputable section
set_option maxRecDepth 10000 in
theorem tMet (st : ST) (mm : MM) (cm : CM) (hs : st = stepN) (hm : mm = mM) (hc : cm = cM) (k : Int) (z m t : Nat) (w : Int) (n : Nat) (op : Int) (y : Nat) : treeOf (lawsA3 st mm cm hs hm hc) tab [77] 4 200 77 [.agg [.int .u8 k, .int .u32 (.ofNat z), .int .u64 (.ofNat m), .int .u64 (.ofNat t)], .agg [.int .u8 w, .int .u64 (.ofNat n), .int .u8 op, .int .u64 (.ofNat y)]] =
    cond (mm k z m) (cond (!cm w (Int.ofNat n) op y) (some (DV.agg [DV.int .u8 k, DV.int .u32 (Int.ofNat z), DV.int .u64 (Int.ofNat m), DV.int .u64 (Int.ofNat t)])) (cond (decide (w = 1)) (cond (decide (k = 1)) (some (DV.agg [DV.int .u8 k, DV.int .u32 (if true = true then if IntKind.wrap .u32 (Int.ofNat n) > Int.ofNat z then IntKind.wrap .u32 (Int.ofNat n) else Int.ofNat z else if IntKind.wrap .u32 (Int.ofNat n) < Int.ofNat z then IntKind.wrap .u32 (Int.ofNat n) else Int.ofNat z), DV.int .u64 (Int.ofNat m), DV.int .u64 (Int.ofNat t)])) (cond (decide (w = 2)) (cond (decide (k = 1)) (some (DV.agg [DV.int .u8 k, DV.int .u32 (IntKind.wrap .u32 (Int.ofNat n)), DV.int .u64 (Int.ofNat m), DV.int .u64 (Int.ofNat t)])) (cond (decide (w = 3)) (cond (small m && small y) (some (DV.agg [DV.int .u8 k, DV.int .u32 (Int.ofNat z), DV.int .u64 (Int.ofNat (st m op y)), DV.int .u64 (Int.ofNat t)])) none) (cond (decide (w = 4)) (some (DV.agg [DV.int .u8 k, DV.int .u32 (Int.ofNat z), DV.int .u64 (Int.ofNat m), DV.int .u64 (Int.ofNat n)])) (some (DV.agg [DV.int .u8 k, DV.int .u32 (Int.ofNat z), DV.int .u64 (Int.ofNat m), DV.int .u64 (Int.ofNat t)]))))) (cond (decide (w = 3)) (cond (small m && small y) (some (DV.agg [DV.int .u8 k, DV.int .u32 (Int.ofNat z), DV.int .u64 (Int.ofNat (st m op y)), DV.int .u64 (Int.ofNat t)])) none) (cond (decide (w = 4)) (some (DV.agg [DV.int .u8 k, DV.int .u32 (Int.ofNat z), DV.int .u64 (Int.ofNat m), DV.int .u64 (Int.ofNat n)])) (some (DV.agg [DV.int .u8 k, DV.int .u32 (Int.ofNat z), DV.int .u64 (Int.ofNat m), DV.int .u64 (Int.ofNat t)])))))) (cond (decide (w = 2)) (cond (decide (k = 1)) (some (DV.agg [DV.int .u8 k, DV.int .u32 (IntKind.wrap .u32 (Int.ofNat n)), DV.int .u64 (Int.ofNat m), DV.int .u64 (Int.ofNat t)])) (cond (decide (w = 3)) (cond (small m && small y) (some (DV.agg [DV.int .u8 k, DV.int .u32 (Int.ofNat z), DV.int .u64 (Int.ofNat (st m op y)), DV.int .u64 (Int.ofNat t)])) none) (cond (decide (w = 4)) (some (DV.agg [DV.int .u8 k, DV.int .u32 (Int.ofNat z), DV.int .u64 (Int.ofNat m), DV.int .u64 (Int.ofNat n)])) (some (DV.agg [DV.int .u8 k, DV.int .u32 (Int.ofNat z), DV.int .u64 (Int.ofNat m), DV.int .u64 (Int.ofNat t)]))))) (cond (decide (w = 3)) (cond (small m && small y) (some (DV.agg [DV.int .u8 k, DV.int .u32 (Int.ofNat z), DV.int .u64 (Int.ofNat (st m op y)), DV.int .u64 (Int.ofNat t)])) none) (cond (decide (w = 4)) (some (DV.agg [DV.int .u8 k, DV.int .u32 (Int.ofNat z), DV.int .u64 (Int.ofNat m), DV.int .u64 (Int.ofNat n)])) (some (DV.agg [DV.int .u8 k, DV.int .u32 (Int.ofNat z), DV.int .u64 (Int.ofNat m), DV.int .u64 (Int.ofNat t)]))))))) (some (DV.agg [DV.int .u8 k, DV.int .u32 (Int.ofNat z), DV.int .u64 (Int.ofNat m), DV.int .u64 (Int.ofNat t)])) := by kernel_rfl
set_option maxRecDepth 10000 in
theorem tMetR (st : ST) (mm : MM) (cm : CM) (hs : st = stepN) (hm : mm = mM) (hc : cm = cM) (k : Int) (z m t : Nat) (w : Int) (n : Nat) (op : Int) (y : Nat) : treeOf (lawsA3 st mm cm hs hm hc) tab [51] 4 200 51 [.agg [.int .u8 k, .int .u32 (.ofNat z), .int .u64 (.ofNat m), .int .u64 (.ofNat t)], .agg [.int .u8 w, .int .u64 (.ofNat n), .int .u8 op, .int .u64 (.ofNat y)]] =
    cond (!mm k z m) (some (DV.agg [DV.int .u8 k, DV.int .u32 (Int.ofNat z), DV.int .u64 (Int.ofNat m), DV.int .u64 (Int.ofNat t)])) (cond (!cm w (Int.ofNat n) op y) (some (DV.agg [DV.int .u8 k, DV.int .u32 (Int.ofNat z), DV.int .u64 (Int.ofNat m), DV.int .u64 (Int.ofNat t)])) (cond (decide (w = 1)) (cond (decide (k = 1)) (cond (decide (Int.ofNat z < IntKind.wrap .u32 (Int.ofNat n))) (some (DV.agg [DV.int .u8 k, DV.int .u32 (IntKind.wrap .u32 (Int.ofNat n)), DV.int .u64 (Int.ofNat m), DV.int .u64 (Int.ofNat t)])) (some (DV.agg [DV.int .u8 k, DV.int .u32 (Int.ofNat z), DV.int .u64 (Int.ofNat m), DV.int .u64 (Int.ofNat t)]))) (some (DV.agg [DV.int .u8 k, DV.int .u32 (Int.ofNat z), DV.int .u64 (Int.ofNat m), DV.int .u64 (Int.ofNat t)]))) (cond (decide (w = 2)) (cond (decide (k = 1)) (some (DV.agg [DV.int .u8 k, DV.int .u32 (IntKind.wrap .u32 (Int.ofNat n)), DV.int .u64 (Int.ofNat m), DV.int .u64 (Int.ofNat t)])) (some (DV.agg [DV.int .u8 k, DV.int .u32 (Int.ofNat z), DV.int .u64 (Int.ofNat m), DV.int .u64 (Int.ofNat t)]))) (cond (decide (w = 3)) (cond (small m && small y) (some (DV.agg [DV.int .u8 k, DV.int .u32 (Int.ofNat z), DV.int .u64 (Int.ofNat (st m op y)), DV.int .u64 (Int.ofNat t)])) none) (cond (decide (w = 4)) (some (DV.agg [DV.int .u8 k, DV.int .u32 (Int.ofNat z), DV.int .u64 (Int.ofNat m), DV.int .u64 (Int.ofNat n)])) (some (DV.agg [DV.int .u8 k, DV.int .u32 (Int.ofNat z), DV.int .u64 (Int.ofNat m), DV.int .u64 (Int.ofNat t)]))))))) := by kernel_rfl
abbrev AF := Int → Nat → Nat → Nat → Int → Nat → Int → Nat → Nat
def zA : AF := fun k z m t w n op y => cond (mM k z m && cM w (Int.ofNat n) op y) (cond (decide (w = 1)) (cond (decide (k = 1)) (cond (decide (z < n)) n z) z) (cond (decide (w = 2)) (cond (decide (k = 1)) n z) z)) z
def mA : AF := fun k z m t w n op y => cond (mM k z m && cM w (Int.ofNat n) op y) (cond (decide (w = 3)) (stepN m op y) m) m
def tA : AF := fun k z m t w n op y => cond (mM k z m && cM w (Int.ofNat n) op y) (cond (decide (w = 4)) n t) t
def applyD (zf mf tf : AF) (k : Int) (z m t : Nat) (w : Int) (n : Nat) (op : Int) (y : Nat) : PD := .need (small m && small y) (.v (.agg [.int .u8 k, .int .u32 (.ofNat (zf k z m t w n op y)), .int .u64 (.ofNat (mf k z m t w n op y)), .int .u64 (.ofNat (tf k z m t w n op y))]))
theorem wrap_u32 {z : Int} (h0 : 0 ≤ z) (h1 : z < 4294967296) : IntKind.wrap .u32 z = z := by
  show z % 4294967296 = z
  omega
theorem max_n (n z : Nat) : (if true = true then if Int.ofNat n > Int.ofNat z then Int.ofNat n else Int.ofNat z else if Int.ofNat n < Int.ofNat z then Int.ofNat n else Int.ofNat z) = Int.ofNat (cond (decide (z < n)) n z) := max_of z n
theorem lt_n (n z : Nat) : decide (Int.ofNat z < Int.ofNat n) = decide (z < n) := lt_of z n
theorem lawA107 (k : Int) (z m t : Nat) (w : Int) (n : Nat) (op : Int) (y : Nat) (hx : m < 18446744073709551616) (hy : y < 18446744073709551616) : treeOf (lawsA3 stepN mM cM rfl rfl rfl) tab [77] 4 200 77 [.agg [.int .u8 k, .int .u32 (.ofNat z), .int .u64 (.ofNat m), .int .u64 (.ofNat t)], .agg [.int .u8 w, .int .u64 (.ofNat n), .int .u8 op, .int .u64 (.ofNat y)]] = some (applyD zA mA tA k z m t w n op y).val := by
  rw [tMet, sm hx, sm hy]
  unfold applyD
  rw [PD.val_need, PD.val_v]
  unfold zA mA tA
  cases h1 : mM k z m with
  | false => rfl
  | true =>
    cases h2 : cM w (Int.ofNat n) op y with
    | false => rfl
    | true =>
      have e : (decide (w = 1) || decide (w = 2)) = true → IntKind.wrap .u32 (Int.ofNat n) = Int.ofNat n := fun hw => by
        unfold cM at h2
        rw [hw] at h2
        simp only [cond_true, Bool.and_eq_true, decide_eq_true_eq] at h2
        have h3 : (n : Int) ≤ 2048 := h2.1
        exact wrap_u32 (z := (n : Int)) (by omega) (by omega)
      by_cases w1 : w = 1
      · subst w1
        rw [e rfl, max_n]
        cases decide (k = 1) <;> cases decide (z < n) <;> rfl
      · by_cases w2 : w = 2
        · subst w2
          rw [e rfl]
          cases decide (k = 1) <;> rfl
        · rw [decide_eq_false w1, decide_eq_false w2]
          by_cases w3 : w = 3
          · subst w3; rfl
          · rw [decide_eq_false w3]
            cases decide (w = 4) <;> rfl
theorem lawA99 (k : Int) (z m t : Nat) (w : Int) (n : Nat) (op : Int) (y : Nat) (hx : m < 18446744073709551616) (hy : y < 18446744073709551616) : treeOf (lawsA3 stepN mM cM rfl rfl rfl) tab [51] 4 200 51 [.agg [.int .u8 k, .int .u32 (.ofNat z), .int .u64 (.ofNat m), .int .u64 (.ofNat t)], .agg [.int .u8 w, .int .u64 (.ofNat n), .int .u8 op, .int .u64 (.ofNat y)]] = some (applyD zA mA tA k z m t w n op y).val := by
  rw [tMetR, sm hx, sm hy]
  unfold applyD
  rw [PD.val_need, PD.val_v]
  unfold zA mA tA
  cases h1 : mM k z m with
  | false => rfl
  | true =>
    cases h2 : cM w (Int.ofNat n) op y with
    | false => rfl
    | true =>
      have e : (decide (w = 1) || decide (w = 2)) = true → IntKind.wrap .u32 (Int.ofNat n) = Int.ofNat n := fun hw => by
        unfold cM at h2
        rw [hw] at h2
        simp only [cond_true, Bool.and_eq_true, decide_eq_true_eq] at h2
        have h3 : (n : Int) ≤ 2048 := h2.1
        exact wrap_u32 (z := (n : Int)) (by omega) (by omega)
      by_cases w1 : w = 1
      · subst w1
        rw [e rfl, lt_n]
        cases decide (k = 1) <;> cases decide (z < n) <;> rfl
      · by_cases w2 : w = 2
        · subst w2
          rw [e rfl]
          cases decide (k = 1) <;> rfl
        · rw [decide_eq_false w1, decide_eq_false w2]
          by_cases w3 : w = 3
          · subst w3; rfl
          · rw [decide_eq_false w3]
            cases decide (w = 4) <;> rfl

def gA107 (zf mf tf : AF) : List DV → Option PD := fun l => match l with
  | [.agg [.int .u8 k, .int .u32 (.ofNat z), .int .u64 (.ofNat m), .int .u64 (.ofNat t)], .agg [.int .u8 w, .int .u64 (.ofNat n), .int .u8 op, .int .u64 (.ofNat y)]] => some (applyD zf mf tf k z m t w n op y)
  | _ => none
theorem app_lt {zf mf tf : AF} {k : Int} {z m t : Nat} {w : Int} {n : Nat} {op : Int} {y : Nat} (h : (applyD zf mf tf k z m t w n op y).ok = true) : m < 18446744073709551616 ∧ y < 18446744073709551616 := by
  unfold applyD at h
  simp only [PD.ok_need, Bool.and_eq_true] at h
  exact ⟨of_decide_eq_true h.1.1, of_decide_eq_true h.1.2⟩
theorem gA107_ok (zf mf tf : AF) (h1 : zf = zA) (h2 : mf = mA) (h3 : tf = tA) : ∀ l d, gA107 zf mf tf l = some d → d.ok = true → PlainCall Tryz.prog [] 77 (toVs l) (toV d.val) ∧ ofVs (toVs l) = some l := by
  intro l d h hk
  subst h1 h2 h3
  unfold gA107 at h
  split at h
  · cases h
    obtain ⟨hx, hy⟩ := app_lt hk
    exact ⟨plain_by _ tab_ok globals4 (by kernel_rfl) (lawA107 _ _ _ _ _ _ _ _ hx hy) ⟨⟨trivial, trivial, trivial, trivial, trivial⟩, ⟨trivial, trivial, trivial, trivial, trivial⟩, trivial⟩ ⟨trivial, trivial, trivial, trivial, trivial⟩, rfl⟩
  · cases h
theorem gA99_ok (zf mf tf : AF) (h1 : zf = zA) (h2 : mf = mA) (h3 : tf = tA) : ∀ l d, gA107 zf mf tf l = some d → d.ok = true → PlainCall Tryz.prog [] 51 (toVs l) (toV d.val) ∧ ofVs (toVs l) = some l := by
  intro l d h hk
  subst h1 h2 h3
  unfold gA107 at h
  split at h
  · cases h
    obtain ⟨hx, hy⟩ := app_lt hk
    exact ⟨plain_by _ tab_ok globals4 (by kernel_rfl) (lawA99 _ _ _ _ _ _ _ _ hx hy) ⟨⟨trivial, trivial, trivial, trivial, trivial⟩, ⟨trivial, trivial, trivial, trivial, trivial⟩, trivial⟩ ⟨trivial, trivial, trivial, trivial, trivial⟩, rfl⟩
  · cases h
def lawsA4 (zf mf tf : AF) (h1 : zf = zA) (h2 : mf = mA) (h3 : tf = tA) (mm : MM) (hm : mm = mM) : Laws Tryz.prog := ((lawsA3 stepN mm cM rfl hm rfl).add 77 (gA107 zf mf tf) (gA107_ok zf mf tf h1 h2 h3)).add 51 (gA107 zf mf tf) (gA99_ok zf mf tf h1 h2 h3)
end
end Go.Vm.YtdmlbojhfgimnaaGreatDoor
