/-
  How messages, texts and pairs of texts stand in memory: what an argument of these types is.
-/
import Derived.Test.YtdmlbojhfgimnaaGreatDoorV5
import Derived.Test.YtdmlbojhfgimnaaGreatDoorProg
import Derived.KernelRfl
import Derived.ChangeMaps5
namespace Go.Vm.YtdmlbojhfgimnaaGreatDoor
open Go.Proofs
variable {H : Type} {enc : TypeId × Value → H} {w : World} {base : Nat} {sp : Nat → Bool} {hd : Bool} {v : Value} {d : DataW H} {ps : List MemPlace}
theorem cells23 : Tryz.prog.cellsOf 23 = 4 := by kernel_rfl
theorem cells9 : Tryz.prog.cellsOf 9 = 1 := by kernel_rfl
theorem cells3 : Tryz.prog.cellsOf 3 = 1 := by kernel_rfl
theorem list4 {α : Type} {l : List α} (h : l.length = 4) : ∃ a b c d, l = [a, b, c, d] := match l, h with
  | [a, b, c, d], _ => ⟨a, b, c, d, rfl⟩
theorem agg4 {v : Value} (h : v.cells.toList.length = 4) : ∃ a b c d, v = .agg #[a, b, c, d] := by
  obtain ⟨cs, rfl, hlen⟩ := agg_of_cells (n := 2) h
  obtain ⟨cs⟩ := cs
  obtain ⟨a, b, c, d, rfl⟩ := list4 hlen
  exact ⟨a, b, c, d, rfl⟩
set_option maxRecDepth 100000 in
theorem msg_of (h : DataW.Trod enc Tryz.prog w base sp hd 23 v d ps) : ∃ op k t x, v = .agg #[.int .i64 op, .string k, .string t, .string x] := by
  obtain ⟨fuel, hf⟩ := h
  obtain ⟨xs, n, rfl, hx, hl, hxl, hall⟩ := DataW.trod_struct Tryz.underlying23 hf
  rw [cells23] at hl
  obtain ⟨c0, c1, c2, c3, hv⟩ := agg4 hl
  obtain ⟨y0, y1, y2, y3, hy⟩ := list4 hxl
  subst hv
  subst hy
  · · skip
      have f0 : DataW.trod enc Tryz.prog w base sp hd n 3 (([c0, c1, c2, c3].drop 0).take (Tryz.prog.cellsOf 3)) = some y0 := hall 0 _ rfl
      have f1 : DataW.trod enc Tryz.prog w base sp hd n 9 (([c0, c1, c2, c3].drop 1).take (Tryz.prog.cellsOf 9)) = some y1 := hall 1 _ rfl
      have f2 : DataW.trod enc Tryz.prog w base sp hd n 9 (([c0, c1, c2, c3].drop 2).take (Tryz.prog.cellsOf 9)) = some y2 := hall 2 _ rfl
      have f3 : DataW.trod enc Tryz.prog w base sp hd n 9 (([c0, c1, c2, c3].drop 3).take (Tryz.prog.cellsOf 9)) = some y3 := hall 3 _ rfl
      rw [cells3] at f0
      rw [cells9] at f1 f2 f3
      obtain ⟨op, e0, _⟩ := DataW.trod_int Tryz.underlying3 f0
      obtain ⟨k, e1, _⟩ := DataW.trod_string Tryz.underlying9 f1
      obtain ⟨t, e2, _⟩ := DataW.trod_string Tryz.underlying9 f2
      obtain ⟨x, e3, _⟩ := DataW.trod_string Tryz.underlying9 f3
      simp at e0 e1 e2 e3
      exact ⟨op, k, t, x, by rw [e0, e1, e2, e3]⟩
theorem cells39 : Tryz.prog.cellsOf 39 = 3 := by kernel_rfl
theorem cells48 : Tryz.prog.cellsOf 48 = 3 := by kernel_rfl
theorem cells4b : Tryz.prog.cellsOf 4 = 1 := by kernel_rfl
theorem list3 {α : Type} {l : List α} (h : l.length = 3) : ∃ a b c, l = [a, b, c] := match l, h with
  | [a, b, c], _ => ⟨a, b, c, rfl⟩
theorem agg3 {v : Value} (h : v.cells.toList.length = 3) : ∃ a b c, v = .agg #[a, b, c] := by
  obtain ⟨cs, rfl, hlen⟩ := agg_of_cells (n := 1) h
  obtain ⟨cs⟩ := cs
  obtain ⟨a, b, c, rfl⟩ := list3 hlen
  exact ⟨a, b, c, rfl⟩
set_option maxRecDepth 100000 in
theorem key_of (h : DataW.Trod enc Tryz.prog w base sp hd 39 v d ps) : ∃ (k x : ByteArray) (b : Bool), v = .agg #[.string k, .string x, .bool b] := by
  obtain ⟨fuel, hf⟩ := h
  obtain ⟨xs, n, rfl, hx, hl, hxl, hall⟩ := DataW.trod_struct Tryz.underlying39 hf
  rw [cells39] at hl
  obtain ⟨c0, c1, c2, hv⟩ := agg3 hl
  obtain ⟨y0, y1, y2, hy⟩ := list3 hxl
  subst hv
  subst hy
  · · skip
      have f0 : DataW.trod enc Tryz.prog w base sp hd n 9 (([c0, c1, c2].drop 0).take (Tryz.prog.cellsOf 9)) = some y0 := hall 0 _ rfl
      have f1 : DataW.trod enc Tryz.prog w base sp hd n 9 (([c0, c1, c2].drop 1).take (Tryz.prog.cellsOf 9)) = some y1 := hall 1 _ rfl
      have f2 : DataW.trod enc Tryz.prog w base sp hd n 4 (([c0, c1, c2].drop 2).take (Tryz.prog.cellsOf 4)) = some y2 := hall 2 _ rfl
      rw [cells9] at f0 f1
      rw [cells4b] at f2
      obtain ⟨k, e0, _⟩ := DataW.trod_string Tryz.underlying9 f0
      obtain ⟨x, e1, _⟩ := DataW.trod_string Tryz.underlying9 f1
      obtain ⟨b, e2, _⟩ := DataW.trod_bool Tryz.underlying4 f2
      simp at e0 e1 e2
      exact ⟨k, x, b, by rw [e0, e1, e2]⟩
set_option maxRecDepth 100000 in
theorem arr3_of (h : DataW.Trod enc Tryz.prog w base sp hd 48 v d ps) : ∃ a b c, v = .agg #[.string a, .string b, .string c] := by
  obtain ⟨fuel, hf⟩ := h
  obtain ⟨xs, n, rfl, hx, hl, hxl, hall⟩ := DataW.trod_array Tryz.underlying48 hf
  rw [cells48] at hl
  obtain ⟨c0, c1, c2, hv⟩ := agg3 hl
  obtain ⟨y0, y1, y2, hy⟩ := list3 hxl
  subst hv
  subst hy
  · · skip
      have f0 : DataW.trod enc Tryz.prog w base sp hd n 9 (([c0, c1, c2].drop (0 * Tryz.prog.cellsOf 9)).take (Tryz.prog.cellsOf 9)) = some y0 := hall 0 (by omega)
      have f1 : DataW.trod enc Tryz.prog w base sp hd n 9 (([c0, c1, c2].drop (1 * Tryz.prog.cellsOf 9)).take (Tryz.prog.cellsOf 9)) = some y1 := hall 1 (by omega)
      have f2 : DataW.trod enc Tryz.prog w base sp hd n 9 (([c0, c1, c2].drop (2 * Tryz.prog.cellsOf 9)).take (Tryz.prog.cellsOf 9)) = some y2 := hall 2 (by omega)
      rw [cells9] at f0 f1 f2
      obtain ⟨k, e1, _⟩ := DataW.trod_string Tryz.underlying9 f0
      obtain ⟨t, e2, _⟩ := DataW.trod_string Tryz.underlying9 f1
      obtain ⟨u, e3, _⟩ := DataW.trod_string Tryz.underlying9 f2
      simp at e1 e2 e3
      exact ⟨k, t, u, by rw [e1, e2, e3]⟩
end Go.Vm.YtdmlbojhfgimnaaGreatDoor
