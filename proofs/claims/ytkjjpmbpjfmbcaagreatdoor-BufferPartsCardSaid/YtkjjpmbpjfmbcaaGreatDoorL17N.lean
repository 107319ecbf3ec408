/-
  Layer 17: what the statements' calls stand over: the world's blocks, and an argument that is a Range.
-/
import Derived.Test.YtkjjpmbpjfmbcaaGreatDoorL17O
set_option linter.unusedVariables false
set_option linter.unusedSimpArgs false
namespace Go.Vm.YtkjjpmbpjfmbcaaGreatDoor
open Go.Proofs Go.Vm.R Go.Deep
noncomputable section
theorem base_lt : ∀ x ∈ base, x.1 < Tryz.prog.globals.size := fun x hx => by cases hx
theorem gl_eq (n : Nat) (h : n = 7) (hlt : ∀ x ∈ base, x.1 < n) : gl = glBase n base hlt := by subst h; rfl
theorem G_eq : C.G = glBase Tryz.prog.globals.size base base_lt := gl_eq _ globals4 _
theorem base_meets (el : Nat → Nat) : meets (baseH Tryz.prog.globals.size base el) base = true := rfl
theorem other_of {W : World} (h : W.ShapedOpen Tryz.prog) : ∃ g cs e fr, W.heap[g]? = some (.cells cs e fr) ∧ ∀ y ∈ base, y.1 ≠ g := by
  have hr : (((begin Tryz.prog (fun _ _ => 0) default).world.heap[1]?).bind Obj.row?).isSome = true := by kernel_rfl
  obtain ⟨⟨zero, t⟩, hr⟩ := Option.isSome_iff_exists.1 hr
  obtain ⟨cs, hc, _⟩ := h.1 1 zero t (by rw [globals4]; decide) hr
  exact ⟨1, cs, t, _, hc, fun y hy => by cases hy⟩
section
variable {H : Type} {enc : TypeId × Value → H} {w : World} {b0 : Nat} {sp : Nat → Bool} {hd : Bool} {v : Value} {d : DataW H} {ps : List MemPlace}
theorem agg5 (h : v.cells.toList.length = 5) : ∃ a b c d e, v = .agg #[a, b, c, d, e] := by
  obtain ⟨cs, rfl, hl⟩ := Vm.agg_of_cells (n := 3) h
  obtain ⟨l⟩ := cs
  match l, hl with
  | [a, b, c, d, e], _ => exact ⟨a, b, c, d, e, rfl⟩
theorem c24n : Tryz.prog.cellsOf 24 = 5 := by kernel_rfl
theorem c4n : Tryz.prog.cellsOf 4 = 1 := by kernel_rfl
set_option maxRecDepth 100000 in
theorem rng_of (h : DataW.Trod enc Tryz.prog w b0 sp hd 24 v d ps) : ∃ (s1 s2 s3 s4 : ByteArray) (b : Bool), v = .agg #[.string s1, .string s2, .string s3, .string s4, .bool b] := by
  obtain ⟨fuel, hf⟩ := h
  obtain ⟨xs, n, rfl, hx, hl, hxl, hall⟩ := DataW.trod_struct Tryz.underlying24 hf
  rw [c24n] at hl
  obtain ⟨v0, v1, v2, v3, v4, hv⟩ := agg5 hl
  subst hv
  match xs, hxl with
  | [y0, y1, y2, y3, y4], _ =>
    have f0 : DataW.trod enc Tryz.prog w b0 sp hd n 9 (([v0, v1, v2, v3, v4].drop 0).take (Tryz.prog.cellsOf 9)) = some y0 := hall 0 _ rfl
    have f1 : DataW.trod enc Tryz.prog w b0 sp hd n 9 (([v0, v1, v2, v3, v4].drop 1).take (Tryz.prog.cellsOf 9)) = some y1 := hall 1 _ rfl
    have f2 : DataW.trod enc Tryz.prog w b0 sp hd n 9 (([v0, v1, v2, v3, v4].drop 2).take (Tryz.prog.cellsOf 9)) = some y2 := hall 2 _ rfl
    have f3 : DataW.trod enc Tryz.prog w b0 sp hd n 9 (([v0, v1, v2, v3, v4].drop 3).take (Tryz.prog.cellsOf 9)) = some y3 := hall 3 _ rfl
    have f4 : DataW.trod enc Tryz.prog w b0 sp hd n 4 (([v0, v1, v2, v3, v4].drop 4).take (Tryz.prog.cellsOf 4)) = some y4 := hall 4 _ rfl
    rw [c9n] at f0 f1 f2 f3
    rw [c4n] at f4
    obtain ⟨s1, e1, _⟩ := DataW.trod_string Tryz.underlying9 f0
    obtain ⟨s2, e2, _⟩ := DataW.trod_string Tryz.underlying9 f1
    obtain ⟨s3, e3, _⟩ := DataW.trod_string Tryz.underlying9 f2
    obtain ⟨s4, e4, _⟩ := DataW.trod_string Tryz.underlying9 f3
    obtain ⟨b, e5, _⟩ := DataW.trod_bool Tryz.underlying4 f4
    simp at e1 e2 e3 e4 e5
    exact ⟨s1, s2, s3, s4, b, by rw [e1, e2, e3, e4, e5]⟩
end
end
end Go.Vm.YtkjjpmbpjfmbcaaGreatDoor
