/-
  The laws of layer 16 at the model's level: what the shells share.
-/
import Derived.Test.YtkjjpmbpjfmbcaaGreatDoorL16A
import Derived.Test.YtkjjpmbpjfmbcaaGreatDoorV8
import Derived.Test.YtkjjpmbpjfmbcaaGreatDoorRows
set_option linter.unusedVariables false
set_option linter.unusedSimpArgs false
namespace Go.Vm.YtkjjpmbpjfmbcaaGreatDoor
open Go.Proofs Go.Proofs.YtkjjpmbpjfmbcaaGreatDoor Go.Vm.R
noncomputable section
theorem base_lt : ∀ x ∈ base, x.1 < Tryz.prog.globals.size := base_ok.lt
theorem gl_eq (n : Nat) (h : n = 7) (hlt : ∀ x ∈ base, x.1 < n) : gl = glBase n base hlt := by subst h; rfl
theorem G_eq : C.G = glBase Tryz.prog.globals.size base base_lt := gl_eq _ globals7 _
theorem base_meets (el : Nat → Nat) : meets (baseH Tryz.prog.globals.size base el) base = true := by
  rw [globals7]; kernel_rfl
theorem base_ints : ∀ y ∈ base, ∀ v ∈ y.2, ∃ k z, v = .int k z := by
  intro y hy v hv
  obtain rfl : y = (0, z0.map fun z => .int .u8 z) := List.mem_singleton.1 hy
  obtain ⟨z, _, rfl⟩ := List.mem_map.1 hv
  exact ⟨_, _, rfl⟩
noncomputable def fld (i : Nat) : Field := match Tryz.prog.underlying 41 with
  | some (.struct fs) => fs.getD i ⟨"", 0, 0, false, "", "", 0⟩
  | _ => ⟨"", 0, 0, false, "", "", 0⟩
theorem ent_t {t : Nat} (h : Tryz.prog.underlying t = some (.slice 41)) : EntT Tryz.prog t 41 where
  sl := h
  two := ⟨fld 0, fld 1, (by kernel_rfl), (by kernel_rfl), (by kernel_rfl), (by kernel_rfl), (by kernel_rfl), (by kernel_rfl), (by kernel_rfl)⟩
  cells := by kernel_rfl
  plain := by kernel_rfl
theorem base_of {W : World} {laid : List (String × DataW Unit)} (hm : laidMet Tryz.prog laid W) (hi : ("strings.asciiSpace", Lib.tabData .u8 z0) ∈ laid) : ∃ el, BaseAt base el W := by
  obtain ⟨e0, h0⟩ := base_of_laid (P := Tryz.prog) hm (name := "strings.asciiSpace") (k := .u8) (zs := z0) (g := 0) (t := 143) (e := 5) (n := 256) (by kernel_rfl) (by kernel_rfl) (by kernel_rfl) (by kernel_rfl) (by kernel_rfl) (by kernel_rfl) (by decide +kernel) hi
  exact ⟨_, (baseAt_cons (baseAt_nil W) h0 (fun _ h => by cases h))⟩
theorem other_of {W : World} (h : W.ShapedOpen Tryz.prog) : ∃ g cs e fr, W.heap[g]? = some (.cells cs e fr) ∧ ∀ y ∈ base, y.1 ≠ g := by
  have hr : (((begin Tryz.prog (fun _ _ => 0) default).world.heap[1]?).bind Obj.row?).isSome = true := by kernel_rfl
  obtain ⟨⟨zero, t⟩, hr⟩ := Option.isSome_iff_exists.1 hr
  obtain ⟨cs, hc, _⟩ := h.1 1 zero t (by rw [globals7]; decide) hr
  refine ⟨1, cs, t, _, hc, fun y hy => ?_⟩
  obtain rfl : y = (0, z0.map fun z => .int .u8 z) := List.mem_singleton.1 hy
  decide
end
end Go.Vm.YtkjjpmbpjfmbcaaGreatDoor
