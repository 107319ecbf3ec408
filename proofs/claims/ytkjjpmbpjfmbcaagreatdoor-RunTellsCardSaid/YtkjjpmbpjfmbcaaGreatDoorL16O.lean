/-
  An argument that is an array of three texts.
-/
import Derived.Test.YtkjjpmbpjfmbcaaGreatDoorL16I
set_option linter.unusedVariables false
set_option linter.unusedSimpArgs false
namespace Go.Vm.YtkjjpmbpjfmbcaaGreatDoor
open Go.Proofs Go.Proofs.YtkjjpmbpjfmbcaaGreatDoor
section
variable {H : Type} {enc : TypeId × Value → H} {w : World} {base : Nat} {sp : Nat → Bool} {hd : Bool} {v : Value} {d : DataW H} {ps : List MemPlace}
theorem agg3 (h : v.cells.toList.length = 3) : ∃ a b c, v = .agg #[a, b, c] := by
  obtain ⟨cs, rfl, hl⟩ := Vm.agg_of_cells (n := 1) h
  obtain ⟨l⟩ := cs
  match l, hl with
  | [a, b, c], _ => exact ⟨a, b, c, rfl⟩
theorem u67 : Tryz.prog.underlying 67 = some (.array 3 9) := by kernel_rfl
theorem u9 : Tryz.prog.underlying 9 = some .string := by kernel_rfl
theorem c67 : Tryz.prog.cellsOf 67 = 3 := by kernel_rfl
theorem c9 : Tryz.prog.cellsOf 9 = 1 := by kernel_rfl
set_option maxRecDepth 100000 in
theorem arr3_of (h : DataW.Trod enc Tryz.prog w base sp hd 67 v d ps) : ∃ a b c, v = .agg #[.string a, .string b, .string c] := by
  obtain ⟨fuel, hf⟩ := h
  obtain ⟨xs, n, rfl, hx, hl, hxl, hall⟩ := DataW.trod_array u67 hf
  rw [c67] at hl
  obtain ⟨v0, v1, v2, hv⟩ := agg3 hl
  subst hv
  match xs, hxl with
  | [y0, y1, y2], _ =>
    have f0 : DataW.trod enc Tryz.prog w base sp hd n 9 (([v0, v1, v2].drop (0 * Tryz.prog.cellsOf 9)).take (Tryz.prog.cellsOf 9)) = some y0 := hall 0 (by omega)
    have f1 : DataW.trod enc Tryz.prog w base sp hd n 9 (([v0, v1, v2].drop (1 * Tryz.prog.cellsOf 9)).take (Tryz.prog.cellsOf 9)) = some y1 := hall 1 (by omega)
    have f2 : DataW.trod enc Tryz.prog w base sp hd n 9 (([v0, v1, v2].drop (2 * Tryz.prog.cellsOf 9)).take (Tryz.prog.cellsOf 9)) = some y2 := hall 2 (by omega)
    rw [c9] at f0 f1 f2
    obtain ⟨k, e1, _⟩ := DataW.trod_string u9 f0
    obtain ⟨t, e2, _⟩ := DataW.trod_string u9 f1
    obtain ⟨s, e3, _⟩ := DataW.trod_string u9 f2
    simp at e1 e2 e3
    exact ⟨k, t, s, by rw [e1, e2, e3]⟩
end
end Go.Vm.YtkjjpmbpjfmbcaaGreatDoor
