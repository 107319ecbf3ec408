/-
  How messages, texts and pairs of texts stand in memory: what an argument of these types is.
-/
import Derived.Test.YtdmlbojhfgimnaaDoorV5
import Derived.Test.YtdmlbojhfgimnaaDoorProg
import Derived.KernelRfl
import Derived.ChangeMaps5
namespace Go.Vm.YtdmlbojhfgimnaaDoor
open Go.Proofs
variable {H : Type} {enc : TypeId × Value → H} {w : World} {base : Nat} {sp : Nat → Bool} {hd : Bool} {v : Value} {d : DataW H} {ps : List MemPlace}
theorem cells23 : Tryd.prog.cellsOf 23 = 4 := by kernel_rfl
theorem cells9 : Tryd.prog.cellsOf 9 = 1 := by kernel_rfl
theorem cells3 : Tryd.prog.cellsOf 3 = 1 := by kernel_rfl
set_option maxRecDepth 100000 in
theorem str_of {r : Reach} {b0 : Nat} (hval : Value.okWide Tryd.prog w r b0 9 v) (h : DataW.Trod enc Tryd.prog w base sp hd 9 v d ps) : ∃ s, v = .string s := by
  have := ChangeMaps.open_string Tryd.underlying9 hval h
  exact this.elim fun s hs => ⟨s, hs.1⟩
theorem list2 {α : Type} {l : List α} (h : l.length = 2) : ∃ a b, l = [a, b] := match l, h with
  | [a, b], _ => ⟨a, b, rfl⟩
theorem list4 {α : Type} {l : List α} (h : l.length = 4) : ∃ a b c d, l = [a, b, c, d] := match l, h with
  | [a, b, c, d], _ => ⟨a, b, c, d, rfl⟩
theorem agg4 {v : Value} (h : v.cells.toList.length = 4) : ∃ a b c d, v = .agg #[a, b, c, d] := by
  obtain ⟨cs, rfl, hlen⟩ := agg_of_cells (n := 2) h
  obtain ⟨cs⟩ := cs
  obtain ⟨a, b, c, d, rfl⟩ := list4 hlen
  exact ⟨a, b, c, d, rfl⟩
theorem agg2 {v : Value} (h : v.cells.toList.length = 2) : ∃ a b, v = .agg #[a, b] := by
  obtain ⟨cs, rfl, hlen⟩ := agg_of_cells (n := 0) h
  obtain ⟨cs⟩ := cs
  obtain ⟨a, b, rfl⟩ := list2 hlen
  exact ⟨a, b, rfl⟩
set_option maxRecDepth 100000 in
theorem msg_of (h : DataW.Trod enc Tryd.prog w base sp hd 23 v d ps) : ∃ op k t x, v = .agg #[.int .i64 op, .string k, .string t, .string x] := by
  obtain ⟨fuel, hf⟩ := h
  obtain ⟨xs, n, rfl, hx, hl, hxl, hall⟩ := DataW.trod_struct Tryd.underlying23 hf
  rw [cells23] at hl
  obtain ⟨c0, c1, c2, c3, hv⟩ := agg4 hl
  obtain ⟨y0, y1, y2, y3, hy⟩ := list4 hxl
  subst hv
  subst hy
  · · skip
      have f0 : DataW.trod enc Tryd.prog w base sp hd n 3 (([c0, c1, c2, c3].drop 0).take (Tryd.prog.cellsOf 3)) = some y0 := hall 0 _ rfl
      have f1 : DataW.trod enc Tryd.prog w base sp hd n 9 (([c0, c1, c2, c3].drop 1).take (Tryd.prog.cellsOf 9)) = some y1 := hall 1 _ rfl
      have f2 : DataW.trod enc Tryd.prog w base sp hd n 9 (([c0, c1, c2, c3].drop 2).take (Tryd.prog.cellsOf 9)) = some y2 := hall 2 _ rfl
      have f3 : DataW.trod enc Tryd.prog w base sp hd n 9 (([c0, c1, c2, c3].drop 3).take (Tryd.prog.cellsOf 9)) = some y3 := hall 3 _ rfl
      rw [cells3] at f0
      rw [cells9] at f1 f2 f3
      obtain ⟨op, e0, _⟩ := DataW.trod_int Tryd.underlying3 f0
      obtain ⟨k, e1, _⟩ := DataW.trod_string Tryd.underlying9 f1
      obtain ⟨t, e2, _⟩ := DataW.trod_string Tryd.underlying9 f2
      obtain ⟨x, e3, _⟩ := DataW.trod_string Tryd.underlying9 f3
      simp at e0 e1 e2 e3
      exact ⟨op, k, t, x, by rw [e0, e1, e2, e3]⟩
end Go.Vm.YtdmlbojhfgimnaaDoor
