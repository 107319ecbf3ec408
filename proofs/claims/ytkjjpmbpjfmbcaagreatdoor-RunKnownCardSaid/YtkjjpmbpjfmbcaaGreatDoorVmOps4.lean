/-
  Each operation of the model does what the evaluator says: literals, loads, stores, places.
-/
import Derived.Test.YtkjjpmbpjfmbcaaGreatDoorVmOps3
set_option linter.unusedVariables false
set_option linter.unusedSimpArgs false
namespace Go.Vm
section
variable {P : Program} {ρ : Rho} {h : H} {w : World} {e : T V} {a : Act} {o : Oper}

theorem sim_bld_struct (c : Cx P ρ h w e a) {t : Nat} {ps : Array (Nat × Operand)} {fs : Array Field} {z : List V} {l : List (Nat × Nat × Opd)} (hop : o.op = .build t ps) (hz : zeroOf P t = some z) (hu : P.underlying t = some (.struct fs))
    (hfs : fs.toList.all (fun f => (sizeAt P f.type).isSome) = true) (hl : partsOf P (fieldPlaces P fs) ps.toList = some l) {v : V} {h' : H} (hs : sBld e h z l = .ok v h') : OpSim P ρ h w a o v h' := by
  obtain ⟨i, zv, hi, hv, hvs, hlen⟩ := zeroOf_some hz
  unfold sBld at hs
  split at hs
  · rename_i l' hf
    injection hs with h1 h2; subst h1 h2
    obtain ⟨cs', g1, g2, _⟩ := fill_sim c (fieldPlaces P fs) ps.toList l z l' zv.cells hl (ofValues_rel ρ h _ _ hvs) hf
    refine opsim_val (v' := .agg cs') c.r ?_ (.agg g2)
    have hall : ∀ f ∈ fs.toList, (sizeAt P f.type).isSome := List.all_eq_true.1 hfs
    have hm : (fs.mapM fun f => do pure (f.offset, ← Go.sizeOf f.type) : Sem (Array (Nat × Nat))).run P w = .ok (fs.map fun f => (f.offset, (sizeAt P f.type).getD 0)) w := by
      rw [Array.mapM_eq_mapM_toList, Sem.run_map, run_fieldPlaces (fs := fs) w _ hall]
      simp only [Result.andThen_ok]
      congr 1
      apply Array.ext'
      simp
    have hpl : (fun i => (fs.map fun f => (f.offset, (sizeAt P f.type).getD 0))[i]?) = fieldPlaces P fs := by
      funext i
      simp only [fieldPlaces, Array.getElem?_map]
      cases hf : fs[i]? with
      | none => rfl
      | some f =>
        have hmem : f ∈ fs.toList := by rw [Array.mem_toList_iff]; exact Array.mem_of_getElem? hf
        obtain ⟨n, hn⟩ := Option.isSome_iff_exists.1 (hall f hmem)
        simp [hn]
    simp only [execOp, hop, Instr.build, Sem.run_bind, run_zero hi hv, Result.andThen_ok, run_underlying hu, hm, hpl]
    have hps : (ps.map fun x => (x.1, a.eval x.2)).toList = ps.toList.map fun x => (x.1, a.eval x.2) := by simp
    have : (ps.map fun (i, x) => (i, a.eval x)) = ps.map fun x => (x.1, a.eval x.2) := rfl
    rw [this, hps, g1]
    simp
  · cases hs

theorem sim_bld_array (c : Cx P ρ h w e a) {t el n s : Nat} {ps : Array (Nat × Operand)} {z : List V} {l : List (Nat × Nat × Opd)} (hop : o.op = .build t ps) (hz : zeroOf P t = some z) (hu : P.underlying t = some (.array n el))
    (hsz : sizeAt P el = some s) (hl : partsOf P (fun i => some (i * s, s)) ps.toList = some l) {v : V} {h' : H} (hs : sBld e h z l = .ok v h') : OpSim P ρ h w a o v h' := by
  obtain ⟨i, zv, hi, hv, hvs, hlen⟩ := zeroOf_some hz
  unfold sBld at hs
  split at hs
  · rename_i l' hf
    injection hs with h1 h2; subst h1 h2
    obtain ⟨cs', g1, g2, _⟩ := fill_sim c (fun i => some (i * s, s)) ps.toList l z l' zv.cells hl (ofValues_rel ρ h _ _ hvs) hf
    refine opsim_val (v' := .agg cs') c.r ?_ (.agg g2)
    simp only [execOp, hop, Instr.build, Sem.run_bind, run_zero hi hv, Result.andThen_ok, run_underlying hu, run_sizeAt hsz]
    have hps : (ps.map fun x => (x.1, a.eval x.2)).toList = ps.toList.map fun x => (x.1, a.eval x.2) := by simp
    have : (ps.map fun (i, x) => (i, a.eval x)) = ps.map fun x => (x.1, a.eval x.2) := rfl
    rw [this, hps, g1]
    simp
  · cases hs

theorem repl_rel {z : List V} {cs : List Value} (hz : VRels ρ h z cs) (hlen : 0 < z.length) : ∀ n, VRels ρ h (repl z n) ((List.range (n * z.length)).map fun i => cs[i % z.length]?.getD undef)
  | 0 => by simp; exact .nil
  | n + 1 => by
    have hcs := hz.length
    have : (List.range ((n + 1) * z.length)).map (fun i => cs[i % z.length]?.getD undef) = cs ++ (List.range (n * z.length)).map (fun i => cs[i % z.length]?.getD undef) := by
      rw [show (n + 1) * z.length = z.length + n * z.length by rw [Nat.add_mul]; omega, List.range_add, List.map_append]
      congr 1
      · apply List.ext_getElem?
        intro i
        by_cases hi : i < z.length
        · rw [List.getElem?_map, List.getElem?_range hi]
          simp [Nat.mod_eq_of_lt hi, List.getElem?_eq_getElem (show i < cs.length by omega)]
        · rw [List.getElem?_eq_none (by simp; omega), List.getElem?_eq_none (by omega)]
      · rw [List.map_map]
        apply List.map_congr_left
        intro i _
        simp [Nat.add_mod_left]
    rw [this]
    exact hz.append (repl_rel hz hlen n)

theorem length_repl (z : List V) : ∀ n, (repl z n).length = n * z.length
  | 0 => by simp [repl]
  | n + 1 => by simp [repl, length_repl z n, Nat.add_mul]; omega

/-- the model's row of zero cells -/
theorem zero_row {z : List V} {cs : Array Value} (hz : VRels ρ h z cs.toList) (hlen : 0 < z.length) (n : Nat) :
    VRels ρ h (repl z n) ((Array.range (n * z.length)).map (cs[· % cs.size]!)).toList := by
  have hc := hz.length
  simp only [Array.length_toList] at hc
  have := repl_rel hz hlen n
  refine cast ?_ this
  congr 1
  simp only [Array.toList_map, Array.toList_range]
  apply List.map_congr_left
  intro i _
  have hm : i % z.length < cs.size := by rw [hc]; exact Nat.mod_lt _ hlen
  rw [hc]
  simp [Array.getElem?_toList, hm, getElem!_pos cs (i % z.length) hm]

theorem sim_bsl (c : Cx P ρ h w e a) {t len el s : Nat} {ps : Array (Nat × Operand)} {z : List V} {l : List (Nat × Nat × Opd)} (hop : o.op = .buildSlice t len ps) (hu : P.underlying t = some (.slice el)) (hz : zeroOf P el = some z)
    (hsz : sizeAt P el = some (s + 1)) (hl : partsOf P (fun i => some (i * (s + 1), s + 1)) ps.toList = some l) (hle : len * (s + 1) ≤ 16777216) {v : V} {h' : H} (hs : sBsl e h z len (s + 1) el l = .ok v h') : OpSim P ρ h w a o v h' := by
  obtain ⟨i, zv, hi, hv, hvs, hlen⟩ := zeroOf_some hz
  obtain ⟨i', hi', hsize⟩ := sizeAt_some hsz
  rw [hi, Option.some.injEq] at hi'
  subst hi'
  rw [hsize] at hlen
  unfold sBsl at hs
  split at hs
  · rename_i l' hf
    injection hs with h1 h2; subst h1 h2
    have hzr := ofValues_rel ρ h _ _ hvs
    have hrow := zero_row hzr (by omega) len
    obtain ⟨cs', g1, g2, g3⟩ := fill_sim c (fun i => some (i * (s + 1), s + 1)) ps.toList l _ l' _ hl hrow hf
    rw [length_repl, hlen] at g3
    have hcsz : zv.cells.size = s + 1 := by have := hzr.length; simp only [Array.length_toList] at this; omega
    have hps : (ps.map fun x => (x.1, a.eval x.2)).toList = ps.toList.map fun x => (x.1, a.eval x.2) := by simp
    have hpe : (ps.map fun (i, x) => (i, a.eval x)) = ps.map fun x => (x.1, a.eval x.2) := rfl
    have hbig : ¬ len * (s + 1) > 2 ^ 24 := by omega
    have hcs := g2.length
    simp only [Array.length_toList] at hcs
    have hrun : (execOp a.eval o).run P w = .ok (.value (.slice (some ⟨w.heap.size, 0, none⟩) len len)) { w with heap := w.heap.push (.cells cs' el) } := by
      simp only [execOp, hop, Instr.buildSlice, Sem.run_bind, run_underlying hu, Result.andThen_ok, run_sizeAt hsz, Sem.run_ite, hbig, if_false]
      by_cases h0 : len * (s + 1) = 0
      · have hl0 : len = 0 := by rcases Nat.mul_eq_zero.1 h0 with h | h <;> omega
        subst hl0
        simp only [Nat.zero_mul, if_true, Sem.run_pure, Result.andThen_ok]
        rw [hpe, hps]
        have e0 : ∀ f : Nat → Value, (Array.range 0).map f = #[] := fun f => by simp
        rw [e0]
        rw [Nat.zero_mul, e0] at g1
        rw [g1]
        simp [newRow]
      · simp only [h0, if_false, Sem.run_bind, run_zero hi hv, Result.andThen_ok, Sem.run_pure]
        rw [hpe, hps]
        rw [hlen] at g1
        rw [g1]
        simp [newRow]
    refine ⟨_, _, ρ.add h.n ⟨w.heap.size, 0, cs'.toList.length + ([] : List Value).length⟩, .inl hrun, ?_, ?_⟩
    · refine .sl (p := ⟨w.heap.size, 0, cs'.toList.length + ([] : List Value).length⟩) (by simp [Rho.add]) (Nat.le_refl _) (Nat.le_refl _) (fun _ => rfl) (fun _ => rfl) ?_
      simp only [Nat.zero_add, Array.length_toList, List.length_nil, Nat.add_zero]
      omega
    · exact new_post c.r c.wh g2 (rest := []) (fr := (0, 0)) (fun _ => rfl) (Nat.zero_le _) rfl rfl rfl (by simp)
  · cases hs

theorem sim_ld (c : Cx P ρ h w e a) {t : Nat} {x : Operand} {x' : Opd} (hop : o.op = .load t x) (hx : opdOf P x = some x') (ha : isAg P t = some false) {v : V} {h' : H} (hs : sLd h (Vm.opd e x') = .ok v h') : OpSim P ρ h w a o v h' := by
  have rx := c.opd hx
  unfold sLd at hs
  split at hs
  · rename_i q i hb
    rw [hb] at rx
    split at hs
    · rename_i u hl
      injection hs with h1 h2; subst h1 h2
      obtain ⟨m, t', sp, el, fz, hg, _, _⟩ := loadN_some hl
      obtain ⟨p, hp, hxe⟩ := vrel_ptr rx (by rw [hg]; simp)
      obtain ⟨vs, r1, r2, r3, r4⟩ := load_sim (P := P) c.r hp hl
      cases r1 with
      | cons r1a r1b =>
        cases r1b
        have hc := r4 0 _ rfl
        simp only [Nat.add_zero] at hc
        exact opsim_val c.r (by simp [execOp, hop, hxe, Instr.loadAt, Instr.sureAddr, loadVar, run_isAg ha, hc]) r1a
    · cases hs
  · cases hs

theorem sim_ldn (c : Cx P ρ h w e a) {t n : Nat} {x : Operand} {x' : Opd} (hop : o.op = .load t x) (hx : opdOf P x = some x') (ha : isAg P t = some true) (hn : sizeAt P t = some n) {v : V} {h' : H} (hs : sLdn h n (Vm.opd e x') = .ok v h') : OpSim P ρ h w a o v h' := by
  have rx := c.opd hx
  unfold sLdn at hs
  split at hs
  · rename_i q i hb
    rw [hb] at rx
    split at hs
    · rename_i u hl
      injection hs with h1 h2; subst h1 h2
      obtain ⟨m, t', sp, el, fz, hg, _, _⟩ := loadN_some hl
      obtain ⟨p, hp, hxe⟩ := vrel_ptr rx (by rw [hg]; simp)
      obtain ⟨vs, r1, r2, r3, r4⟩ := load_sim (P := P) c.r hp hl
      exact opsim_val (v' := .agg vs.toArray) c.r (by simp [execOp, hop, hxe, Instr.loadAt, Instr.sureAddr, loadVar, run_isAg ha, run_sizeAt hn, r3]) (.agg (by simpa using r1))
    · cases hs
  · cases hs

theorem sim_st (c : Cx P ρ h w e a) {t n : Nat} {x y : Operand} {x' y' : Opd} (hop : o.op = .store t x y) (hx : opdOf P x = some x') (hy : opdOf P y = some y') (hn : sizeAt P t = some n) {v : V} {h' : H} (hs : sSt h n (Vm.opd e x') (Vm.opd e y') = .ok v h') : OpSim P ρ h w a o v h' := by
  have rx := c.opd hx
  have ry := c.opd hy
  unfold sSt at hs
  split at hs
  · rename_i q i hb
    rw [hb] at rx
    split at hs
    · rename_i l hl
      split at hs
      · rename_i hlen
        split at hs
        · rename_i h1 hst
          injection hs with e1 e2; subst e1 e2
          obtain ⟨m, t', sp, el, fz, hg, _⟩ := storeN_some hst
          obtain ⟨p, hp, hxe⟩ := vrel_ptr rx (by rw [hg]; simp)
          have hc := vrel_cells ry hl
          obtain ⟨w', hr, hpost⟩ := store_sim (P := P) c.r hp hc hst
          have hsz := hc.length
          simp only [Array.length_toList] at hsz
          refine ⟨undef, w', ρ, .inr ⟨?_, rfl⟩, .tup .nil, hpost⟩
          have hne : ¬ ((a.eval y).cells.size ≠ n) := by omega
          simp [execOp, hop, hxe, Instr.storeAt, Instr.sureAddr, storeVar, run_sizeAt hn, hne, hr]
        · cases hs
      · cases hs
    · cases hs
  · cases hs

theorem sim_nck (c : Cx P ρ h w e a) {x : Operand} {x' : Opd} (hop : o.op = .nilCheck x) (hx : opdOf P x = some x') {v : V} {h' : H} (hs : sNck h (Vm.opd e x') = .ok v h') : OpSim P ρ h w a o v h' := by
  have rx := c.opd hx
  unfold sNck at hs
  split at hs
  · rename_i q i hb
    rw [hb] at rx
    split at hs
    · rename_i hal
      injection hs with h1 h2; subst h1 h2
      obtain ⟨p, hp, hxe⟩ := vrel_ptr rx (alive_ne hal)
      exact opsim_val c.r (by simp [execOp, hop, hxe]) (hxe ▸ rx)
    · cases hs
  · rename_i f l hb
    rw [hb] at rx
    injection hs with h1 h2; subst h1 h2
    obtain ⟨cs, hxe, _⟩ := vrel_fn rx
    exact opsim_val c.r (by simp [execOp, hop, hxe]) (hxe ▸ rx)
  · cases hs

theorem sim_fad (c : Cx P ρ h w e a) {t f n : Nat} {fs : Array Field} {fl : Field} {x : Operand} {x' : Opd} (hop : o.op = .fieldAddr t x f) (hu : P.underlying t = some (.struct fs)) (hf : fs[f]? = some fl) (hn : sizeAt P fl.type = some (n + 1)) (hx : opdOf P x = some x')
    {v : V} {h' : H} (hs : sFad h fl.offset (Vm.opd e x') = .ok v h') : OpSim P ρ h w a o v h' := by
  have rx := c.opd hx
  unfold sFad at hs
  split at hs
  · rename_i q i hb
    rw [hb] at rx
    split at hs
    · rename_i hal
      injection hs with h1 h2; subst h1 h2
      obtain ⟨p, hp, hxe⟩ := vrel_ptr rx (alive_ne hal)
      refine opsim_val (v' := .pointer (some ⟨p.B, p.b + (i + fl.offset), none⟩)) c.r ?_ (.ptr hp)
      simp [execOp, hop, hxe, Instr.fieldAt, run_underlying hu, hf, Instr.sureAddr, fieldPlace, run_sizeAt hn, addr_add, Nat.add_assoc]
    · cases hs
  · cases hs

/-- a part of a value -/
theorem part_sim (c : Cx P ρ h w e a) {l : List V} {cs : Array Value} (hr : VRels ρ h l cs.toList) {t off n : Nat} {ag : Bool} (hn : sizeAt P t = some n) (ha : isAg P t = some ag) (h1 : ag = false → n = 1 ∨ True) {v : V} {h' : H}
    (hs : partOf h l off (if ag then n else 1) ag = .ok v h') : h' = h ∧ ∃ v', (part t cs off).run P w = .ok v' w ∧ VRel ρ h v v' := by
  unfold partOf at hs
  cases ag with
  | true =>
    simp only [if_true] at hs
    split at hs
    · injection hs with e1 e2; subst e1 e2
      refine ⟨rfl, .agg (cs.extract off (off + n)), by simp [part, run_isAg ha, run_sizeAt hn], .agg ?_⟩
      have : (cs.extract off (off + n)).toList = (cs.toList.drop off).take n := by
        simp [Array.toList_extract, List.extract_eq_take_drop]
      rw [this]
      exact (hr.drop off).take n
    · cases hs
  | false =>
    simp only [Bool.false_eq_true, if_false] at hs
    split at hs
    · split at hs
      · rename_i u hu
        injection hs with e1 e2; subst e1 e2
        obtain ⟨y, hy, hyr⟩ := hr.get hu
        rw [Array.getElem?_toList] at hy
        exact ⟨rfl, y, by simp [part, run_isAg ha, hy], hyr⟩
      · cases hs
    · cases hs

theorem sim_fld (c : Cx P ρ h w e a) {t f n : Nat} {fs : Array Field} {fl : Field} {ag : Bool} {x : Operand} {x' : Opd} (hop : o.op = .field t x f) (hu : P.underlying t = some (.struct fs)) (hf : fs[f]? = some fl) (hn : sizeAt P fl.type = some n) (ha : isAg P fl.type = some ag) (hx : opdOf P x = some x')
    {v : V} {h' : H} (hs : sFld h fl.offset (if ag then n else 1) ag (Vm.opd e x') = .ok v h') : OpSim P ρ h w a o v h' := by
  have rx := c.opd hx
  unfold sFld at hs
  split at hs
  · rename_i l hb
    rw [hb] at rx
    obtain ⟨cs, hxe, hr⟩ := vrel_agg rx
    obtain ⟨rfl, v', h1, h2⟩ := part_sim c hr hn ha (fun _ => .inr trivial) hs
    exact opsim_val c.r (by simp [execOp, hop, hxe, Instr.field, run_underlying hu, hf, asAgg, h1]) h2
  · cases hs

theorem sim_ixa (c : Cx P ρ h w e a) {t el n s : Nat} {ag : Bool} {x y : Operand} {x' y' : Opd} (hop : o.op = .index t x y) (hu : P.underlying t = some (.array n el)) (hn : sizeAt P el = some s) (ha : isAg P el = some ag) (h1 : ag = false → s = 1) (hx : opdOf P x = some x') (hy : opdOf P y = some y')
    {v : V} {h' : H} (hs : sIxa h s n ag (Vm.opd e x') (Vm.opd e y') = .ok v h') : OpSim P ρ h w a o v h' := by
  have rx := c.opd hx
  have ry := c.opd hy
  unfold sIxa at hs
  split at hs
  · rename_i l k hb hk
    rw [hb] at rx
    obtain ⟨cs, hxe, hr⟩ := vrel_agg rx
    obtain ⟨kk, hye⟩ := natOf_rel ry hk
    split at hs
    · rename_i hlt
      have hs' : partOf h l (k * s) (if ag then s else 1) ag = .ok v h' := by
        cases ag with
        | true => exact hs
        | false => rw [h1 rfl] at hs ⊢; exact hs
      obtain ⟨rfl, v', r1, r2⟩ := part_sim c hr hn ha (fun _ => .inr trivial) hs'
      refine opsim_val c.r ?_ r2
      have hlt' : (0 : Int) ≤ (k : Int) ∧ (k : Int) < (n : Int) := by omega
      simp [execOp, hop, hxe, hye, Instr.index, asIntOf, run_underlying hu, hlt', run_sizeAt hn, r1, hlt]
    · cases hs
  · cases hs

theorem sim_ixs (c : Cx P ρ h w e a) {t el s : Nat} {x y : Operand} {x' y' : Opd} (hop : o.op = .indexAddr t x y) (hu : P.underlying t = some (.slice el)) (hn : sizeAt P el = some s) (hx : opdOf P x = some x') (hy : opdOf P y = some y')
    {v : V} {h' : H} (hs : sIxs h s (Vm.opd e x') (Vm.opd e y') = .ok v h') : OpSim P ρ h w a o v h' := by
  have rx := c.opd hx
  have ry := c.opd hy
  unfold sIxs at hs
  split at hs
  · rename_i q j n cc s' ex k hb hk
    rw [hb] at rx
    obtain ⟨kk, hye⟩ := natOf_rel ry hk
    split at hs
    · rename_i hc
      obtain ⟨rfl, hlt, hal⟩ := hc
      injection hs with e1 e2; subst e1 e2
      obtain ⟨p, ad, c', hp, hxe, g1, g2, g3, g4, g5⟩ := vrel_sl rx (alive_ne hal)
      have := g4 (by omega)
      subst this
      refine opsim_val (v' := .pointer (some ⟨p.B, p.b + (j + k * s'), none⟩)) c.r ?_ (.ptr hp)
      have hlt' : (0 : Int) ≤ (k : Int) ∧ (k : Int) < (n : Int) := by omega
      simp [execOp, hop, hxe, hye, Instr.indexAt, asIntOf, run_underlying hu, run_sizeAt hn, addr_add, Nat.add_assoc, hlt]
    · cases hs
  · cases hs

theorem sim_ixp (c : Cx P ρ h w e a) {t el n s : Nat} {x y : Operand} {x' y' : Opd} (hop : o.op = .indexAddr t x y) (hu : P.underlying t = some (.array n el)) (hn : sizeAt P el = some s) (hx : opdOf P x = some x') (hy : opdOf P y = some y')
    {v : V} {h' : H} (hs : sIxp h s n (Vm.opd e x') (Vm.opd e y') = .ok v h') : OpSim P ρ h w a o v h' := by
  have rx := c.opd hx
  have ry := c.opd hy
  unfold sIxp at hs
  split at hs
  · rename_i q j k hb hk
    rw [hb] at rx
    obtain ⟨kk, hye⟩ := natOf_rel ry hk
    split at hs
    · rename_i hc
      obtain ⟨hlt, hal⟩ := hc
      injection hs with e1 e2; subst e1 e2
      obtain ⟨p, hp, hxe⟩ := vrel_ptr rx (alive_ne hal)
      refine opsim_val (v' := .pointer (some ⟨p.B, p.b + (j + k * s), none⟩)) c.r ?_ (.ptr hp)
      simp [execOp, hop, hxe, hye, Instr.indexAt, Instr.sureAddr, asIntOf, run_underlying hu, run_sizeAt hn, addr_add, Nat.add_assoc, hlt]
    · cases hs
  · cases hs

theorem sim_len (c : Cx P ρ h w e a) {t el : Nat} {cl : Call} {x : Operand} {x' : Opd} (hop : o.op = .call cl) (hcl : cl.callee = .builtin .len) (hat : cl.argTypes[0]? = some t) (hu : P.underlying t = some (.slice el)) (har : cl.args = #[x]) (hx : opdOf P x = some x')
    {v : V} {h' : H} (hs : sLen h (Vm.opd e x') = .ok v h') : OpSim P ρ h w a o v h' := by
  have rx := c.opd hx
  unfold sLen at hs
  split at hs
  · rename_i hb
    rw [hb] at rx
    injection hs with e1 e2; subst e1 e2
    exact opsim_val c.r (by simp [execOp, hop, resolve, hcl, har, invoke, builtin, Builtin.len_, hat, run_underlying hu, vrel_nils rx, goInt]) (.int _ _)
  · rename_i hb
    rw [hb] at rx
    split at hs
    · rename_i hal
      injection hs with e1 e2; subst e1 e2
      obtain ⟨p, ad, c', hp, hxe, _⟩ := vrel_sl rx (alive_ne hal)
      exact opsim_val c.r (by simp [execOp, hop, resolve, hcl, har, invoke, builtin, Builtin.len_, hat, run_underlying hu, hxe, goInt]) (.int _ _)
    · cases hs
  · cases hs

theorem sim_lnt (c : Cx P ρ h w e a) {t : Nat} {cl : Call} {x : Operand} {x' : Opd} (hop : o.op = .call cl) (hcl : cl.callee = .builtin .len) (hat : cl.argTypes[0]? = some t) (hu : P.underlying t = some .string) (har : cl.args = #[x]) (hx : opdOf P x = some x')
    {v : V} {h' : H} (hs : sLnt h (Vm.opd e x') = .ok v h') : OpSim P ρ h w a o v h' := by
  have rx := c.opd hx
  unfold sLnt at hs
  split at hs
  · rename_i hb
    rw [hb] at rx
    injection hs with e1 e2; subst e1 e2
    obtain ⟨s, hs1, hs2, _⟩ := vrel_str rx
    subst hs2
    exact opsim_val (v' := .int .i64 s.data.toList.length) c.r (by simp [execOp, hop, resolve, hcl, har, invoke, builtin, Builtin.len_, hat, run_underlying hu, hs1, goInt]) (.int _ _)
  · cases hs

theorem sim_lenc (c : Cx P ρ h w e a) {t n : Nat} {cl : Call} {x : Operand} (hop : o.op = .call cl) (hcl : cl.callee = .builtin .len) (hat : cl.argTypes[0]? = some t) (har : cl.args = #[x])
    (hu : (∃ el, P.underlying t = some (.array n el)) ∨ ∃ ar el, P.underlying t = some (.pointer ar) ∧ P.underlying ar = some (.array n el)) : OpSim P ρ h w a o (.int .i64 n) h := by
  rcases hu with ⟨el, hu⟩ | ⟨ar, el, hu, hu'⟩
  · exact opsim_val (v' := .int .i64 n) c.r (by simp [execOp, hop, resolve, hcl, har, invoke, builtin, Builtin.len_, hat, run_underlying hu, goInt]) (.int _ _)
  · exact opsim_val (v' := .int .i64 n) c.r (by simp [execOp, hop, resolve, hcl, har, invoke, builtin, Builtin.len_, hat, run_underlying hu, run_underlying hu', goInt]) (.int _ _)

theorem sim_cap (c : Cx P ρ h w e a) {t el : Nat} {cl : Call} {x : Operand} {x' : Opd} (hop : o.op = .call cl) (hcl : cl.callee = .builtin .cap) (hat : cl.argTypes[0]? = some t) (hu : P.underlying t = some (.slice el)) (har : cl.args = #[x]) (hx : opdOf P x = some x')
    {v : V} {h' : H} (hs : sCap h (Vm.opd e x') = .ok v h') : OpSim P ρ h w a o v h' := by
  have rx := c.opd hx
  unfold sCap at hs
  split at hs
  · rename_i hb
    rw [hb] at rx
    injection hs with e1 e2; subst e1 e2
    exact opsim_val c.r (by simp [execOp, hop, resolve, hcl, har, invoke, builtin, Builtin.cap_, hat, run_underlying hu, vrel_nils rx, goInt]) (.int _ _)
  · rename_i hb
    rw [hb] at rx
    split at hs
    · rename_i hal
      injection hs with e1 e2; subst e1 e2
      obtain ⟨p, ad, c', hp, hxe, _, _, hex, _⟩ := vrel_sl rx (alive_ne hal)
      have := hex rfl
      subst this
      exact opsim_val c.r (by simp [execOp, hop, resolve, hcl, har, invoke, builtin, Builtin.cap_, hat, run_underlying hu, hxe, goInt]) (.int _ _)
    · cases hs
  · cases hs

end
end Go.Vm
