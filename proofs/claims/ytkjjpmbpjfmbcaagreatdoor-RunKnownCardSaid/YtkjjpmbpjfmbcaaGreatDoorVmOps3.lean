/-
  Each operation of the model does what the evaluator says: new rows, loads, stores, places.
-/
import Derived.Test.YtkjjpmbpjfmbcaaGreatDoorVmOps2
set_option linter.unusedVariables false
set_option linter.unusedSimpArgs false
namespace Go.Vm
section
variable {P : Program} {ρ : Rho} {h : H} {w : World} {e : T V} {a : Act} {o : Oper}

/-- a new row of cells, and a pointer to it -/
theorem sim_new (c : Cx P ρ h w e a) {l : List V} {cs : Array Value} {el : Nat} (hl : VRels ρ h l cs.toList)
    (hrun : (execOp a.eval o).run P w = .ok (.value (.pointer (some ⟨w.heap.size, 0, none⟩))) { w with heap := w.heap.push (.cells cs el) }) :
    OpSim P ρ h w a o (.ptr h.n 0) (newCells h l false el (some 0)) := by
  refine ⟨_, _, ρ.add h.n ⟨w.heap.size, 0, cs.toList.length + ([] : List Value).length⟩, .inl hrun, ?_, ?_⟩
  · have := VRel.ptr (ρ := ρ.add h.n ⟨w.heap.size, 0, cs.toList.length + ([] : List Value).length⟩) (h := newCells h l false el (some 0)) (o := h.n) (i := 0) (p := ⟨w.heap.size, 0, cs.toList.length + ([] : List Value).length⟩) (by simp [Rho.add])
    simpa using this
  · exact new_post c.r c.wh hl (rest := []) (fr := (0, 0)) (fun _ => rfl) (Nat.zero_le _) rfl rfl rfl (by simp)

theorem sim_alc (c : Cx P ρ h w e a) {t : Nat} {z : List V} (hop : o.op = .alloc t) (hz : zeroOf P t = some z) :
    OpSim P ρ h w a o (.ptr h.n 0) (newCells h z false t (some 0)) := by
  obtain ⟨i, v, hi, hv, hvs, hlen⟩ := zeroOf_some hz
  refine sim_new (cs := v.cells) c (ofValues_rel ρ h _ _ hvs) ?_
  simp [execOp, hop, Instr.alloc, run_zero hi hv, newVar, newRow]

theorem sim_box (c : Cx P ρ h w e a) {t : Nat} {x : Operand} {x' : Opd} (hop : o.op = .box t x) (hx : opdOf P x = some x') {v : V} {h' : H} (hs : sBox h t (Vm.opd e x') = .ok v h') :
    OpSim P ρ h w a o v h' := by
  unfold sBox at hs
  split at hs
  · rename_i l hl
    injection hs with h1 h2; subst h1 h2
    refine sim_new (cs := (a.eval x).cells) c (vrel_cells (c.opd hx) hl) ?_
    simp [execOp, hop, Instr.box, newVar, newRow]
  · cases hs

/-! parts of a literal -/
theorem foldl_set_size : ∀ (l : List (Value × Nat)) (off : Nat) (cs : Array Value), (l.foldl (fun cs (c, j) => cs.setIfInBounds (off + j) c) cs).size = cs.size
  | [], _, _ => rfl
  | (x, j) :: l, off, cs => by
    rw [List.foldl_cons, foldl_set_size l off _]; simp

theorem foldl_set_get : ∀ (l : List Value) (k off : Nat) (cs : Array Value) (i : Nat), off + k + l.length ≤ cs.size →
    ((l.zipIdx k).foldl (fun cs (x : Value × Nat) => cs.setIfInBounds (off + x.2) x.1) cs)[i]? = if off + k ≤ i ∧ i < off + k + l.length then l[i - (off + k)]? else cs[i]?
  | [], k, off, cs, i, _ => by simp; intro _ _; omega
  | v :: l, k, off, cs, i, hle => by
    simp only [List.zipIdx_cons, List.foldl_cons]
    simp only [List.length_cons] at hle
    rw [foldl_set_get l (k + 1) off _ i (by simp; omega)]
    rw [Array.getElem?_setIfInBounds]
    simp only [List.length_cons]
    by_cases h1 : off + k = i
    · subst h1
      rw [if_neg (by omega), if_pos rfl, if_pos (by omega), if_pos (by omega)]
      simp
    · by_cases h2 : off + (k + 1) ≤ i ∧ i < off + (k + 1) + l.length
      · rw [if_pos h2, if_pos (by omega)]
        have : i - (off + k) = (i - (off + (k + 1))) + 1 := by omega
        rw [this, List.getElem?_cons_succ]
      · rw [if_neg h2, if_neg h1, if_neg (by omega)]

theorem fill_sim (c : Cx P ρ h w e a) (place : Nat → Option (Nat × Nat)) : ∀ (ps : List (Nat × Operand)) (l : List (Nat × Nat × Opd)) (z z' : List V) (cs : Array Value),
    partsOf P place ps = some l → VRels ρ h z cs.toList → fill e z l = some z' →
    ∃ cs' : Array Value, Instr.fill place cs (ps.map fun x => (x.1, a.eval x.2)) = some cs' ∧ VRels ρ h z' cs'.toList ∧ z'.length = z.length
  | [], l, z, z', cs, hp, hz, hf => by
    simp only [partsOf, Option.some.injEq] at hp; subst hp
    simp only [fill, Option.some.injEq] at hf; subst hf
    exact ⟨cs, rfl, hz, rfl⟩
  | (i, x) :: ps, l, z, z', cs, hp, hz, hf => by
    simp only [partsOf] at hp
    split at hp
    · rename_i off n y l' hpl hx hr
      simp only [Option.some.injEq] at hp; subst hp
      simp only [fill] at hf
      split at hf
      · rename_i cc hcc
        split at hf
        · rename_i hle
          have hc := vrel_cells (c.opd hx) hcc
          have hlen := hc.length
          have hzl := hz.length
          simp only [Array.length_toList] at hlen hzl
          have hz' : VRels ρ h (setRange z off cc) (((a.eval x).cells.zipIdx.foldl (fun cs (x : Value × Nat) => cs.setIfInBounds (off + x.2) x.1) cs)).toList := by
            have hfold : (a.eval x).cells.zipIdx.foldl (fun cs (x : Value × Nat) => cs.setIfInBounds (off + x.2) x.1) cs = (((a.eval x).cells.toList.zipIdx 0).foldl (fun cs (x : Value × Nat) => cs.setIfInBounds (off + x.2) x.1) cs) := by
              rw [← Array.foldl_toList]; simp
            rw [hfold]
            refine VRels.of_get ?_ ?_
            · rw [Array.length_toList, foldl_set_size, length_setRange _ _ _ (by omega)]; omega
            · intro j v y hv hy
              rw [Array.getElem?_toList, foldl_set_get _ 0 off cs j (by simp; omega)] at hy
              rw [getElem?_setRange _ _ _ (by omega)] at hv
              simp only [Nat.add_zero, Array.length_toList] at hy
              by_cases hj : off ≤ j ∧ j < off + cc.length
              · rw [if_pos hj] at hv
                rw [if_pos (by omega)] at hy
                obtain ⟨y', hy', hr'⟩ := hc.get hv
                rw [hy'] at hy; simp only [Option.some.injEq] at hy; subst hy; exact hr'
              · rw [if_neg hj] at hv
                rw [if_neg (by omega)] at hy
                obtain ⟨y', hy', hr'⟩ := hz.get hv
                rw [Array.getElem?_toList, hy] at hy'; simp only [Option.some.injEq] at hy'; subst hy'; exact hr'
          obtain ⟨cs', h1, h2, h3⟩ := fill_sim c place ps l' _ z' _ hr hz' hf
          refine ⟨cs', ?_, h2, by rw [h3, length_setRange _ _ _ (by omega)]⟩
          simp only [List.map_cons, Instr.fill, hpl]
          rw [if_neg (by simp; omega)]
          exact h1
        · cases hf
      · cases hf
    · cases hp

theorem run_fieldPlaces {fs : Array Field} (w : World) : ∀ (l : List Field), (∀ f ∈ l, (sizeAt P f.type).isSome) →
    (l.mapM fun f => do pure (f.offset, ← Go.sizeOf f.type) : Sem (List (Nat × Nat))).run P w = .ok (l.map fun f => (f.offset, (sizeAt P f.type).getD 0)) w
  | [], _ => by simp
  | f :: l, hl => by
    have h0 := hl f (by simp)
    obtain ⟨n, hn⟩ := Option.isSome_iff_exists.1 h0
    have ih := run_fieldPlaces (fs := fs) w l (fun g hg => hl g (by simp [hg]))
    simp only [List.mapM_cons, Sem.run_bind, run_sizeAt hn, Result.andThen_ok, Sem.run_pure, ih, List.map_cons, hn, Option.getD_some]

end
end Go.Vm
