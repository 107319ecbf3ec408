/-
  What the last laws of messages stand over: each answer by its parts.
-/
import Derived.Test.YtdmlbojhfgimnaaGreatDoorAP12
set_option linter.unusedVariables false
set_option linter.unusedSimpArgs false
namespace Go.Vm.YtdmlbojhfgimnaaGreatDoor
open Go.Proofs
noncomputable section
def pV (p : Bool × Int × Int × Txt × Int) : DV := .tup [.agg [.bool p.1, .int .i64 p.2.1, .int .i64 p.2.2.1, .str p.2.2.2.1], .int .i64 p.2.2.2.2]
def getP : DV → Bool × Int × Int × Txt × Int
  | .tup [.agg [.bool c, .int .i64 a, .int .i64 n, .str t], .int .i64 e] => (c, a, n, t, e)
  | _ => (false, 0, 0, [], 0)
def mV (p : Nat × Nat × Nat × Nat × Int) : DV := .tup [.agg [.int .u8 (.ofNat p.1), .int .u32 (.ofNat p.2.1), .int .u64 (.ofNat p.2.2.1), .int .u64 (.ofNat p.2.2.2.1)], .int .i64 p.2.2.2.2]
def getM : DV → Nat × Nat × Nat × Nat × Int
  | .tup [.agg [.int .u8 k, .int .u32 z, .int .u64 m, .int .u64 t], .int .i64 e] => (k.toNat, z.toNat, m.toNat, t.toNat, e)
  | _ => (0, 0, 0, 0, 0)
def cV (p : Int × Nat × Int × Nat × Int) : DV := .tup [.agg [.int .u8 p.1, .int .u64 (.ofNat p.2.1), .int .u8 p.2.2.1, .int .u64 (.ofNat p.2.2.2.1)], .int .i64 p.2.2.2.2]
def getC : DV → Int × Nat × Int × Nat × Int
  | .tup [.agg [.int .u8 w, .int .u64 n, .int .u8 o, .int .u64 y], .int .i64 e] => (w, n.toNat, o, y.toNat, e)
  | _ => (0, 0, 0, 0, 0)
def mB (p : Nat × Nat × Nat × Nat × Int) : Prop := p.1 < 256 ∧ p.2.1 < 4294967296 ∧ p.2.2.1 < 18446744073709551616 ∧ p.2.2.2.1 < 18446744073709551616
theorem patch_form (s : Txt) : (patchD s).val = pV (getP (patchD s).val) := by
  unfold patchD
  simp only [PD.val_br, PD.val_v, cond_dec]
  repeat' first | rfl | split
theorem num_lt1 (s : Txt) (n : Nat) : numOf (s.take n) < 256 ^ n := by
  have h1 := numOf_lt (s.take n)
  have h2 : (s.take n).length ≤ n := by rw [List.length_take]; omega
  exact Nat.lt_of_lt_of_le h1 (Nat.pow_le_pow_right (by decide) h2)
theorem meta_form (s : Txt) : (metaD s).val = mV (getM (metaD s).val) ∧ mB (getM (metaD s).val) := by
  unfold metaD
  simp only [PD.val_br, PD.val_v, cond_dec]
  have h0 : mB (0, 0, 0, 0, 10) := ⟨by decide, by decide, by decide, by decide⟩
  have h4 : mB (0, 0, 0, 0, 4) := ⟨by decide, by decide, by decide, by decide⟩
  split
  · exact ⟨rfl, h0⟩
  · split
    · exact ⟨rfl, h4⟩
    · cases metaOk s with
      | false => exact ⟨rfl, h4⟩
      | true => exact ⟨rfl, num_lt1 _ 1, num_lt1 _ 4, num_lt1 _ 8, num_lt1 _ 8⟩
theorem change_form (s : Txt) : (changeD s).val = cV (getC (changeD s).val) ∧ (getC (changeD s).val).2.2.2.1 < 18446744073709551616 := by
  unfold changeD
  simp only [PD.val_br, PD.val_v, cond_dec]
  have h8 := num_lt1 (s.drop 2) 8
  have h0 : 0 < 18446744073709551616 := by decide
  repeat' first | exact ⟨rfl, h0⟩ | exact ⟨rfl, h8⟩ | split
/-- all that these laws name -/
structure AFn where
  p : Txt → Bool × Int × Int × Txt × Int
  m : Txt → Nat × Nat × Nat × Nat × Int
  c : Txt → Int × Nat × Int × Nat × Int
  zf : AF
  mf : AF
  tf : AF
  mm : MM
  ms : Nat → Nat → Nat → Nat → Txt
  bd : Txt → Bool → Int → Int → Txt → Txt
def F0 : AFn := ⟨fun s => getP (patchD s).val, fun s => getM (metaD s).val, fun s => getC (changeD s).val, zA, mA, tA, mM, metaS, blockDo⟩
def gP (F : AFn) : List DV → Option PD := fun l => match l with
  | [.str s] => some (.v (pV (F.p s)))
  | _ => none
def gM (F : AFn) : List DV → Option PD := fun l => match l with
  | [.str s] => some (.v (mV (F.m s)))
  | _ => none
def gC (F : AFn) : List DV → Option PD := fun l => match l with
  | [.str s] => some (.v (cV (F.c s)))
  | _ => none
theorem gP_ok (F : AFn) (hF : F = F0) (f : Nat) (hf : ∀ s, PlainCall Tryz.prog [] f (toVs [.str s]) (toV (patchD s).val)) : ∀ l d, gP F l = some d → d.ok = true → PlainCall Tryz.prog [] f (toVs l) (toV d.val) ∧ ofVs (toVs l) = some l := by
  intro l d h ho
  subst hF
  unfold gP at h
  split at h
  · rename_i s
    cases h
    have := hf s
    rw [patch_form] at this
    exact ⟨this, dec_s s⟩
  · cases h
theorem gM_ok (F : AFn) (hF : F = F0) (f : Nat) (hf : ∀ s, PlainCall Tryz.prog [] f (toVs [.str s]) (toV (metaD s).val)) : ∀ l d, gM F l = some d → d.ok = true → PlainCall Tryz.prog [] f (toVs l) (toV d.val) ∧ ofVs (toVs l) = some l := by
  intro l d h ho
  subst hF
  unfold gM at h
  split at h
  · rename_i s
    cases h
    have := hf s
    rw [(meta_form s).1] at this
    exact ⟨this, dec_s s⟩
  · cases h
theorem gC_ok (F : AFn) (hF : F = F0) (f : Nat) (hf : ∀ s, PlainCall Tryz.prog [] f (toVs [.str s]) (toV (changeD s).val)) : ∀ l d, gC F l = some d → d.ok = true → PlainCall Tryz.prog [] f (toVs l) (toV d.val) ∧ ofVs (toVs l) = some l := by
  intro l d h ho
  subst hF
  unfold gC at h
  split at h
  · rename_i s
    cases h
    have := hf s
    rw [(change_form s).1] at this
    exact ⟨this, dec_s s⟩
  · cases h
theorem ok_meta (s : Txt) : (metaD s).ok = true := by
  unfold metaD
  simp only [PD.ok_br, PD.ok_v, Bool.cond_self]
theorem ok_change (s : Txt) : (changeD s).ok = true := by
  unfold changeD
  simp only [PD.ok_br, PD.ok_v, Bool.cond_self]
theorem ok_patch (s : Txt) : (patchD s).ok = true := by
  unfold patchD
  simp only [PD.ok_br, PD.ok_v, Bool.cond_self]
def bdD (F : AFn) (v : Txt) (cu : Bool) (a n : Int) (s : Txt) : PD := .need (decide (v.length < 4611686018427387904)) (.v (.str (F.bd v cu a n s)))
def gBd (F : AFn) : List DV → Option PD := fun l => match l with
  | [.str v, .agg [.bool cu, .int .i64 a, .int .i64 n, .str s]] => some (bdD F v cu a n s)
  | _ => none
theorem dec_bd (v : Txt) (cu : Bool) (a n : Int) (s : Txt) : ofVs (toVs [.str v, .agg [.bool cu, .int .i64 a, .int .i64 n, .str s]]) = some [.str v, .agg [.bool cu, .int .i64 a, .int .i64 n, .str s]] := by
  simp only [toVs, toV, ofVs, ofV, ofV_sv]
theorem gBd_ok (F : AFn) (hF : F = F0) (f : Nat) (hf : ∀ v cu a n s, R.LawOk CB.G CB.O CB.tab f 121 [] [.str v, .agg [.bool cu, .int .i64 a, .int .i64 n, .str s]] (outB v cu a n s)) :
    ∀ l d, gBd F l = some d → d.ok = true → PlainCall Tryz.prog [] f (toVs l) (toV d.val) ∧ ofVs (toVs l) = some l := by
  intro l d h ho
  subst hF
  unfold gBd at h
  split at h
  · rename_i v cu a n s
    cases h
    have hl : decide (v.length < 4611686018427387904) = true := by
      unfold bdD at ho
      simp only [PD.ok_need, PD.ok_v, Bool.and_true] at ho
      exact ho
    refine ⟨plainB (v := .str (blockDo v cu a n s)) (v0 := .str (blockDo v cu a n s)) (d := R.mkD [] 0) (hf v cu a n s) ?_ rfl rfl ⟨trivial, ⟨trivial, trivial, trivial, trivial, trivial⟩, trivial⟩ trivial, dec_bd v cu a n s⟩
    show (R.Tree.need (decide (v.length < 4611686018427387904)) _).ev = _
    rw [hl]; rfl
  · cases h
def lawsF (F : AFn) (hF : F = F0) : Laws Tryz.prog := (((((((((lawsA7.add 72 (gP F) (gP_ok F hF 72 fun s => (g72_ok _ _ rfl (ok_patch s)).1)).add 46 (gP F) (gP_ok F hF 46 fun s => (g46_ok _ _ rfl (ok_patch s)).1)).add 74 (gM F) (gM_ok F hF 74 fun s => (g74_ok _ _ rfl (ok_meta s)).1)).add 48 (gM F) (gM_ok F hF 48 fun s => (g48_ok _ _ rfl (ok_meta s)).1)).add 75 (gC F) (gC_ok F hF 75 fun s => (g75_ok _ _ rfl (ok_change s)).1)).add 49 (gC F) (gC_ok F hF 49 fun s => (g49_ok _ _ rfl (ok_change s)).1)).add 77 (gA107 F.zf F.mf F.tf) (gA107_ok F.zf F.mf F.tf (by rw [hF]; rfl) (by rw [hF]; rfl) (by rw [hF]; rfl))).add 51 (gA107 F.zf F.mf F.tf) (gA99_ok F.zf F.mf F.tf (by rw [hF]; rfl) (by rw [hF]; rfl) (by rw [hF]; rfl))).add 73 (gBd F) (gBd_ok F hF 73 lawB103)).add 47 (gBd F) (gBd_ok F hF 47 lawB95)
def lawsF1 (F : AFn) (hF : F = F0) : Laws Tryz.prog := ((lawsF F hF).add 76 (gput2 F.mm F.ms) (gA106_ok F.mm F.ms (by rw [hF]; rfl) (by rw [hF]; rfl))).add 50 (gput2 F.mm F.ms) (gA98_ok F.mm F.ms (by rw [hF]; rfl) (by rw [hF]; rfl))
end
end Go.Vm.YtdmlbojhfgimnaaGreatDoor
