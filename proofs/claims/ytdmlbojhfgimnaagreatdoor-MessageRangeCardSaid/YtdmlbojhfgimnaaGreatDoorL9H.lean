/-
  Which values and patches suit a key, as the program and as the document's answer tell it.
-/
import Derived.Test.YtdmlbojhfgimnaaGreatDoorL9G
set_option linter.unusedVariables false
set_option linter.unusedSimpArgs false
namespace Go.Vm.YtdmlbojhfgimnaaGreatDoor
open Go.Proofs
noncomputable section

/-- is the error none? -/
noncomputable def fineV : DV → Bool
  | .tup [_, .int _ e] => decide (e = 0)
  | _ => false
noncomputable def fine : PD → Bool
  | .v x => fineV x
  | .br b t f => cond b (fine t) (fine f)
  | .need _ t => fine t
theorem some_cond (b x y : Bool) : some (DV.bool (cond b x y)) = cond b (some (.bool x)) (some (.bool y)) := by cases b <;> rfl
theorem bool_br (b : Bool) (t f : PD) : some (DV.bool (fine (.br b t f))) = cond b (some (.bool (fine t))) (some (.bool (fine f))) := some_cond _ _ _
theorem some_b (b : Bool) : cond b (some (DV.bool true)) (some (.bool false)) = some (.bool b) := by cases b <;> rfl
theorem dec_2 (k s : List UInt8) : ofVs (toVs [.str k, .str s]) = some [.str k, .str s] := by
  show (match ofV (sv k), (match ofV (sv s), ofVs [] with | some x, some l => some (x :: l) | _, _ => .none) with | some x, some l => some (x :: l) | _, _ => .none) = _
  rw [ofV_sv, ofV_sv]; rfl

set_option maxRecDepth 10000 in
theorem tree90 (s : List UInt8) : treeOf laws7 tab [90] 4 200 90 [.str s] =
    cond (decide (List.length s < 21)) (some (.bool false)) (cond (decide (21 < List.length s)) (some (.bool false)) (cond (metaOk s) (some (.bool true)) (some (.bool false)))) := by kernel_rfl

theorem law90 (s : List UInt8) : treeOf laws7 tab [90] 4 200 90 [.str s] = some (.bool (fine (metaD s))) := by
  rw [tree90]
  unfold metaD; simp only [bool_br]; rfl

set_option maxRecDepth 10000 in
theorem tree91 (s : List UInt8) : treeOf laws7 tab [91] 4 200 91 [.str s] =
    cond (decide (List.length s = 0)) (some (.bool false)) (cond (decide (numOf (List.take 1 s) < 1)) (some (.bool false)) (cond (decide (4 < numOf (List.take 1 s))) (some (.bool false)) (cond (decide (numOf (List.take 1 s) = 3)) (cond (decide (List.length s < 10)) (some (.bool false)) (cond (decide (10 < List.length s)) (some (.bool false)) (cond (decide (1 ≤ numOf (List.take 1 (List.drop 1 s)))) (cond (decide (numOf (List.take 1 (List.drop 1 s)) ≤ 5)) (some (.bool true)) (some (.bool false))) (some (.bool false))))) (cond (decide (numOf (List.take 1 s) = 4)) (cond (decide (List.length s < 9)) (some (.bool false)) (cond (decide (9 < List.length s)) (some (.bool false)) (some (.bool true)))) (cond (decide (List.length s < 5)) (some (.bool false)) (cond (decide (5 < List.length s)) (some (.bool false)) (cond (decide (numOf (List.take 4 (List.drop 1 s)) ≤ 2048)) (some (.bool true)) (some (.bool false))))))))) := by kernel_rfl

theorem law91 (s : List UInt8) : treeOf laws7 tab [91] 4 200 91 [.str s] = some (.bool (fine (changeD s))) := by
  rw [tree91]
  unfold changeD; simp only [bool_br]; rfl

set_option maxRecDepth 10000 in
theorem tree92 (s : List UInt8) : treeOf laws7 tab [92] 4 200 92 [.str s] =
    cond (blockOk s) (some (.bool true)) (some (.bool false)) := by kernel_rfl

theorem law92 (s : List UInt8) : treeOf laws7 tab [92] 4 200 92 [.str s] = some (.bool (blockOk s)) := by
  rw [tree92]
  exact some_b _

set_option maxRecDepth 10000 in
theorem tree94 (s : List UInt8) : treeOf laws7 tab [94] 4 200 94 [.str s] =
    cond (decide (List.length s = 0)) (some (.bool false)) (cond (decide (numOf (List.take 1 s) = 2)) (cond (decide (List.length s < 2)) (some (.bool false)) (cond (decide (2 < List.length s)) (some (.bool false)) (cond (decide (numOf (List.take 1 (List.drop 1 s)) < 64)) (some (.bool true)) (some (.bool false))))) (cond (decide (numOf (List.take 1 s) = 1)) (cond (decide (List.length s < 4)) (some (.bool false)) (cond (decide (List.length s < 4 + numOf (List.take 2 (List.drop 2 s)))) (some (.bool false)) (cond (decide (4 + numOf (List.take 2 (List.drop 2 s)) < List.length s)) (some (.bool false)) (cond (decide (1 ≤ numOf (List.take 2 (List.drop 2 s)))) (cond (decide (numOf (List.take 2 (List.drop 2 s)) ≤ 64)) (cond (decide (numOf (List.take 1 (List.drop 1 s)) + numOf (List.take 2 (List.drop 2 s)) ≤ 64)) (some (.bool true)) (some (.bool false))) (some (.bool false))) (some (.bool false)))))) (some (.bool false)))) := by kernel_rfl

theorem law94 (s : List UInt8) : treeOf laws7 tab [94] 4 200 94 [.str s] = some (.bool (fine (patchD s))) := by
  rw [tree94]
  unfold patchD; simp only [bool_br]; rfl

set_option maxRecDepth 10000 in
theorem tree95 (s : List UInt8) : treeOf laws7 tab [95] 4 200 95 [.str s] =
    some (.bool (decide ((↑(List.length s) : Int) ≤ 64))) := by kernel_rfl

theorem law95 (s : List UInt8) : treeOf laws7 tab [95] 4 200 95 [.str s] = some (.bool (decide ((↑(List.length s) : Int) ≤ 64))) := by
  rw [tree95]
  skip

set_option maxRecDepth 10000 in
theorem tree96 (s : List UInt8) : treeOf laws7 tab [96] 4 200 96 [.str s] =
    some (.bool false) := by kernel_rfl

theorem law96 (s : List UInt8) : treeOf laws7 tab [96] 4 200 96 [.str s] = some (.bool (false)) := by
  rw [tree96]
  skip

noncomputable def g90 : List DV → Option PD := fun l => match l with
  | [.str s] => some (.v (.bool (fine (metaD s))))
  | _ => none
theorem g90_ok : ∀ l d, g90 l = some d → d.ok = true → PlainCall Tryz.prog [] 90 (toVs l) (toV d.val) ∧ ofVs (toVs l) = some l := by
  intro l d h ho
  unfold g90 at h
  split at h
  · rename_i s
    cases h
    exact ⟨plain_by _ tab_ok globals4 (by kernel_rfl) (law90 s) ⟨trivial, trivial⟩ trivial, dec_s s⟩
  · cases h

noncomputable def g91 : List DV → Option PD := fun l => match l with
  | [.str s] => some (.v (.bool (fine (changeD s))))
  | _ => none
theorem g91_ok : ∀ l d, g91 l = some d → d.ok = true → PlainCall Tryz.prog [] 91 (toVs l) (toV d.val) ∧ ofVs (toVs l) = some l := by
  intro l d h ho
  unfold g91 at h
  split at h
  · rename_i s
    cases h
    exact ⟨plain_by _ tab_ok globals4 (by kernel_rfl) (law91 s) ⟨trivial, trivial⟩ trivial, dec_s s⟩
  · cases h

noncomputable def g92 : List DV → Option PD := fun l => match l with
  | [.str s] => some (.v (.bool (blockOk s)))
  | _ => none
theorem g92_ok : ∀ l d, g92 l = some d → d.ok = true → PlainCall Tryz.prog [] 92 (toVs l) (toV d.val) ∧ ofVs (toVs l) = some l := by
  intro l d h ho
  unfold g92 at h
  split at h
  · rename_i s
    cases h
    exact ⟨plain_by _ tab_ok globals4 (by kernel_rfl) (law92 s) ⟨trivial, trivial⟩ trivial, dec_s s⟩
  · cases h

noncomputable def g94 : List DV → Option PD := fun l => match l with
  | [.str s] => some (.v (.bool (fine (patchD s))))
  | _ => none
theorem g94_ok : ∀ l d, g94 l = some d → d.ok = true → PlainCall Tryz.prog [] 94 (toVs l) (toV d.val) ∧ ofVs (toVs l) = some l := by
  intro l d h ho
  unfold g94 at h
  split at h
  · rename_i s
    cases h
    exact ⟨plain_by _ tab_ok globals4 (by kernel_rfl) (law94 s) ⟨trivial, trivial⟩ trivial, dec_s s⟩
  · cases h

noncomputable def g95 : List DV → Option PD := fun l => match l with
  | [.str s] => some (.v (.bool (decide ((↑(List.length s) : Int) ≤ 64))))
  | _ => none
theorem g95_ok : ∀ l d, g95 l = some d → d.ok = true → PlainCall Tryz.prog [] 95 (toVs l) (toV d.val) ∧ ofVs (toVs l) = some l := by
  intro l d h ho
  unfold g95 at h
  split at h
  · rename_i s
    cases h
    exact ⟨plain_by _ tab_ok globals4 (by kernel_rfl) (law95 s) ⟨trivial, trivial⟩ trivial, dec_s s⟩
  · cases h

noncomputable def g96 : List DV → Option PD := fun l => match l with
  | [.str s] => some (.v (.bool (false)))
  | _ => none
theorem g96_ok : ∀ l d, g96 l = some d → d.ok = true → PlainCall Tryz.prog [] 96 (toVs l) (toV d.val) ∧ ofVs (toVs l) = some l := by
  intro l d h ho
  unfold g96 at h
  split at h
  · rename_i s
    cases h
    exact ⟨plain_by _ tab_ok globals4 (by kernel_rfl) (law96 s) ⟨trivial, trivial⟩ trivial, dec_s s⟩
  · cases h


/-- does a value suit a key? -/
noncomputable def valOk (k s : List UInt8) : Bool := cond (decide ((↑(UInt8.toNat (List.getD k 0 0)) : Int) = 109)) (fine (metaD s)) (cond (decide ((↑(UInt8.toNat (List.getD k 0 0)) : Int) = 100)) (cond (blockOk s) true false) (decide ((↑(List.length s) : Int) ≤ 64)))
/-- does a patch suit a key? -/
noncomputable def patOk (k s : List UInt8) : Bool := cond (decide ((↑(UInt8.toNat (List.getD k 0 0)) : Int) = 109)) (fine (changeD s)) (cond (decide ((↑(UInt8.toNat (List.getD k 0 0)) : Int) = 100)) (fine (patchD s)) false)
set_option maxRecDepth 10000 in
theorem tree64 (k s : List UInt8) : treeOf laws7 tab [64] 4 200 64 [.str k, .str s] =
    cond (true && decide (0 < (↑(List.length k) : Int))) (cond (decide ((↑(UInt8.toNat (List.getD k 0 0)) : Int) = 109)) (cond (decide (List.length s < 21)) (some (.bool false)) (cond (decide (21 < List.length s)) (some (.bool false)) (cond (metaOk s) (some (.bool true)) (some (.bool false))))) (cond (true && decide (0 < (↑(List.length k) : Int))) (cond (decide ((↑(UInt8.toNat (List.getD k 0 0)) : Int) = 100)) (cond (blockOk s) (some (.bool true)) (some (.bool false))) (some (.bool (decide ((↑(List.length s) : Int) ≤ 64))))) none)) none := by kernel_rfl

theorem law64 (k s : List UInt8) (hk : 0 < k.length) : treeOf laws7 tab [64] 4 200 64 [.str k, .str s] = some (.bool (valOk k s)) := by
  rw [tree64]
  unfold valOk metaD
  simp only [show decide (0 < (k.length : Int)) = true by simpa using hk, Bool.and_self, cond_true, some_cond, bool_br]
  rfl
noncomputable def g64 : List DV → Option PD := fun l => match l with
  | [.str k, .str s] => some (.need (decide (0 < k.length)) (.v (.bool (valOk k s))))
  | _ => none
theorem g64_ok : ∀ l d, g64 l = some d → d.ok = true → PlainCall Tryz.prog [] 64 (toVs l) (toV d.val) ∧ ofVs (toVs l) = some l := by
  intro l d h ho
  unfold g64 at h
  split at h
  · rename_i k s
    cases h
    have hk : 0 < k.length := by simpa [PD.ok] using ho
    exact ⟨plain_by _ tab_ok globals4 (by kernel_rfl) (law64 k s hk) ⟨trivial, trivial, trivial⟩ trivial, dec_2 k s⟩
  · cases h

set_option maxRecDepth 10000 in
theorem tree65 (k s : List UInt8) : treeOf laws7 tab [65] 4 200 65 [.str k, .str s] =
    cond (true && decide (0 < (↑(List.length k) : Int))) (cond (decide ((↑(UInt8.toNat (List.getD k 0 0)) : Int) = 109)) (cond (decide (List.length s = 0)) (some (.bool false)) (cond (decide (numOf (List.take 1 s) < 1)) (some (.bool false)) (cond (decide (4 < numOf (List.take 1 s))) (some (.bool false)) (cond (decide (numOf (List.take 1 s) = 3)) (cond (decide (List.length s < 10)) (some (.bool false)) (cond (decide (10 < List.length s)) (some (.bool false)) (cond (decide (1 ≤ numOf (List.take 1 (List.drop 1 s)))) (cond (decide (numOf (List.take 1 (List.drop 1 s)) ≤ 5)) (some (.bool true)) (some (.bool false))) (some (.bool false))))) (cond (decide (numOf (List.take 1 s) = 4)) (cond (decide (List.length s < 9)) (some (.bool false)) (cond (decide (9 < List.length s)) (some (.bool false)) (some (.bool true)))) (cond (decide (List.length s < 5)) (some (.bool false)) (cond (decide (5 < List.length s)) (some (.bool false)) (cond (decide (numOf (List.take 4 (List.drop 1 s)) ≤ 2048)) (some (.bool true)) (some (.bool false)))))))))) (cond (true && decide (0 < (↑(List.length k) : Int))) (cond (decide ((↑(UInt8.toNat (List.getD k 0 0)) : Int) = 100)) (cond (decide (List.length s = 0)) (some (.bool false)) (cond (decide (numOf (List.take 1 s) = 2)) (cond (decide (List.length s < 2)) (some (.bool false)) (cond (decide (2 < List.length s)) (some (.bool false)) (cond (decide (numOf (List.take 1 (List.drop 1 s)) < 64)) (some (.bool true)) (some (.bool false))))) (cond (decide (numOf (List.take 1 s) = 1)) (cond (decide (List.length s < 4)) (some (.bool false)) (cond (decide (List.length s < 4 + numOf (List.take 2 (List.drop 2 s)))) (some (.bool false)) (cond (decide (4 + numOf (List.take 2 (List.drop 2 s)) < List.length s)) (some (.bool false)) (cond (decide (1 ≤ numOf (List.take 2 (List.drop 2 s)))) (cond (decide (numOf (List.take 2 (List.drop 2 s)) ≤ 64)) (cond (decide (numOf (List.take 1 (List.drop 1 s)) + numOf (List.take 2 (List.drop 2 s)) ≤ 64)) (some (.bool true)) (some (.bool false))) (some (.bool false))) (some (.bool false)))))) (some (.bool false))))) (some (.bool false))) none)) none := by kernel_rfl

theorem law65 (k s : List UInt8) (hk : 0 < k.length) : treeOf laws7 tab [65] 4 200 65 [.str k, .str s] = some (.bool (patOk k s)) := by
  rw [tree65]
  unfold patOk changeD patchD
  simp only [show decide (0 < (k.length : Int)) = true by simpa using hk, Bool.and_self, cond_true, some_cond, bool_br]
  rfl
noncomputable def g65 : List DV → Option PD := fun l => match l with
  | [.str k, .str s] => some (.need (decide (0 < k.length)) (.v (.bool (patOk k s))))
  | _ => none
theorem g65_ok : ∀ l d, g65 l = some d → d.ok = true → PlainCall Tryz.prog [] 65 (toVs l) (toV d.val) ∧ ofVs (toVs l) = some l := by
  intro l d h ho
  unfold g65 at h
  split at h
  · rename_i k s
    cases h
    have hk : 0 < k.length := by simpa [PD.ok] using ho
    exact ⟨plain_by _ tab_ok globals4 (by kernel_rfl) (law65 k s hk) ⟨trivial, trivial, trivial⟩ trivial, dec_2 k s⟩
  · cases h

noncomputable def laws8 : Laws Tryz.prog := (((((((laws7.add 90 g90 g90_ok).add 91 g91 g91_ok).add 92 g92 g92_ok).add 94 g94 g94_ok).add 95 g95 g95_ok).add 96 g96 g96_ok).add 64 g64 g64_ok).add 65 g65 g65_ok
end
end Go.Vm.YtdmlbojhfgimnaaGreatDoor
