/-
  Each operation of the model does what the evaluator says: copy, make, conversions, comparisons, and what has no Go body.
-/
import Derived.Test.YtkjjpmbpjfmbcaaGreatDoorVmOps5
import Derived.Laws.MakeOwn
import Derived.Laws.BytesString
import Derived.Laws.Externs
import Derived.Lib.MakeNoZero
import Derived.Lib.UnsafeStr
set_option linter.unusedVariables false
set_option linter.unusedSimpArgs false
namespace Go.Vm
section
variable {P : Program} {ρ : Rho} {h : H} {w : World} {e : T V} {a : Act} {o : Oper}

/-- the first elements of a source -/
theorem src_take (r : HRel ρ h w) {s m : Nat} {v : V} {x : Value} {l : List V} (rx : VRel ρ h v x) (hs : srcCells h s v = some (m, l)) {k : Nat} (hk : k ≤ m) :
    ∃ vs : List Value, VRels ρ h (l.take (k * s)) vs ∧ vs.length = k * s ∧ (∀ (P : Program), (Builtin.lenOf x).run P w = .ok m w) ∧
      ∀ (P : Program), (Builtin.firstCells s k x).run P w = .ok vs.toArray w := by
  obtain ⟨vs, v1, v2, v3, v4⟩ := src_sim r rx hs
  have hks : k * s ≤ m * s := Nat.mul_le_mul_right _ hk
  refine ⟨vs.take (k * s), v1.take _, by rw [List.length_take]; omega, v3, fun P => ?_⟩
  unfold srcCells at hs
  split at hs
  · simp only [Option.some.injEq, Prod.mk.injEq] at hs
    obtain ⟨rfl, rfl⟩ := hs
    obtain rfl : k = 0 := by omega
    rw [vrel_nils rx]
    simp [Builtin.firstCells]
  · rename_i q i n cc s' ex
    split at hs
    · rename_i l' hl
      simp only [Option.some.injEq, Prod.mk.injEq] at hs
      obtain ⟨rfl, rfl⟩ := hs
      obtain ⟨_, _, _, _, _, hg, _⟩ := loadN_some hl
      obtain ⟨p, ad, c', hp, hxe, f1, f2, f3, f4, f5⟩ := vrel_sl rx (by rw [hg]; simp)
      obtain ⟨us, r1, r2, _, r4⟩ := load_sim (P := default) r hp hl
      rw [hxe]
      simp only [Builtin.firstCells]
      by_cases hc : 0 < c'
      · have e1 : us = vs := by
          have h1 := run_loadCells_list (P := default) w ⟨p.B, p.b + i, none⟩ us (fun j v hv => by rw [addr_add]; exact r4 j v hv)
          have h2 := v4 default w rfl
          rw [hxe] at h2
          simp only [Builtin.firstCells, f4 hc] at h2
          rw [r2] at h1
          rw [h1] at h2
          injection h2 with h2
          have := congrArg Array.toList h2
          simpa using this
        subst e1
        rw [f4 hc]
        have := run_loadCells_list (P := P) w ⟨p.B, p.b + i, none⟩ (us.take (k * s)) (fun j v hv => by
          rw [addr_add]
          rw [List.getElem?_take] at hv
          split at hv
          · exact r4 j v hv
          · cases hv)
        rw [List.length_take, show min (k * s) us.length = k * s by omega] at this
        exact this
      · have hn : n = 0 := by omega
        subst hn
        obtain rfl : k = 0 := by omega
        simp [loadCells, loadCellsFrom]
    · cases hs
  · split at hs
    · rename_i h1
      subst h1
      simp only [Option.some.injEq, Prod.mk.injEq] at hs
      obtain ⟨rfl, rfl⟩ := hs
      obtain ⟨b, hb1, hb2, hb3⟩ := vrel_str rx
      have h2 := v4 P w rfl
      rw [hb1] at h2 ⊢
      simp only [Builtin.firstCells, Sem.run_pure] at h2 ⊢
      injection h2 with h2
      congr 1
      apply Array.ext'
      have h3 := congrArg Array.toList h2
      simp only [Array.toList_map] at h3 ⊢
      rw [← h3, extract_toList b 0 k (Nat.zero_le _), ← List.map_take]
      congr 1
      rw [extract_toList b 0 _ (Nat.zero_le _), List.drop_zero, List.drop_zero, Nat.mul_one, List.take_take]
      congr 1; omega
    · cases hs
  · cases hs

theorem sim_cpy (c : Cx P ρ h w e a) {t el s : Nat} {cl : Call} {x y : Operand} {x' y' : Opd} (hop : o.op = .call cl) (hcl : cl.callee = .builtin .copy) (h0 : cl.argTypes[0]? = some t)
    (ht : P.underlying t = some (.slice el)) (hn : sizeAt P el = some s) (har : cl.args = #[x, y]) (hx : opdOf P x = some x') (hy : opdOf P y = some y')
    {v : V} {h' : H} (hs : sCopy h s (Vm.opd e x') (Vm.opd e y') = .ok v h') : OpSim P ρ h w a o v h' := by
  have rx := c.opd hx
  have ry := c.opd hy
  have hexec : ∀ v' w', (Builtin.copy_ cl.argTypes o.type #[a.eval x, a.eval y]).run P w = .ok v' w' → (execOp a.eval o).run P w = .ok (.value v') w' := by
    intro v' w' hr
    simp [execOp, hop, resolve, hcl, har, invoke, builtin, hr]
  unfold sCopy at hs
  split at hs
  · rename_i r hb hsrc
    obtain ⟨m, l⟩ := r
    rw [hb] at rx
    injection hs with e1 e2; subst e1 e2
    obtain ⟨vs, v1, v2, v3, v4⟩ := src_take c.r ry hsrc (k := 0) (Nat.zero_le _)
    refine opsim_val c.r (hexec _ _ ?_) (.int _ _)
    have hm : Nat.min m 0 = 0 := Nat.min_zero _
    simp [vrel_nils rx, Builtin.copy_, h0, run_underlying ht, v3 P, run_sizeAt hn, v4 P, goInt]
  · rename_i q i n cc s' ex m l hb hsrc
    rw [hb] at rx
    split at hs
    · rename_i hc
      obtain ⟨rfl, hal⟩ := hc
      obtain ⟨p, ad, c', hp, hxe, f1, f2, f3, f4, f5⟩ := vrel_sl rx (alive_ne hal)
      obtain ⟨vs, v1, v2, v3, v4⟩ := src_take c.r ry hsrc (k := Nat.min m n) (Nat.min_le_left _ _)
      split at hs
      · rename_i hmin
        injection hs with e1 e2; subst e1 e2
        rw [hmin] at v1 v2 v4
        have : vs = [] := by simp only [Nat.zero_mul] at v2; exact List.length_eq_zero_iff.1 v2
        subst this
        refine opsim_val c.r (hexec _ _ ?_) (.int _ _)
        have hmin' : Nat.min m n = 0 := hmin
        have hmin2 : min m n = 0 := hmin
        simp [hxe, Builtin.copy_, h0, run_underlying ht, v3 P, run_sizeAt hn, hmin2, v4 P, goInt, storeCells]
      · rename_i hmin
        split at hs
        · rename_i h2 hst
          injection hs with e1 e2; subst e1 e2
          obtain ⟨w', r1, r2⟩ := store_sim (P := P) c.r hp v1 hst
          have had := f4 (by have : Nat.min m n ≤ n := Nat.min_le_right _ _; omega)
          refine ⟨.int .i64 (Nat.min m n), w', ρ, .inl (hexec _ _ ?_), .int _ _, r2⟩
          have hv4 : (Builtin.firstCells s' (min m n) (a.eval y)).run P w = .ok vs.toArray w := v4 P
          simp only [hxe, Builtin.copy_, h0, List.getElem?_toArray, List.getElem?_cons_zero, List.getElem?_cons_succ, Sem.run_bind, run_underlying ht, Result.andThen_ok, v3 P, run_sizeAt hn]
          rw [show Nat.min m n = min m n from rfl, hv4]
          simp only [Result.andThen_ok, had, r1]
          rfl
        · cases hs
    · cases hs
  · cases hs

theorem sim_mks (c : Cx P ρ h w e a) {t el : Nat} {x y : Operand} {x' y' : Opd} {ti : TypeInfo} {z : List V} (hop : o.op = .makeSlice t x y) (hu : P.underlying t = some (.slice el)) (hi : P.info? el = some ti) (hz : zeroOf P el = some z) (hpos : 0 < ti.size)
    (hx : opdOf P x = some x') (hy : opdOf P y = some y') {v : V} {h' : H} (hs : sMks h z ti.size ti.bytes el (Vm.opd e x') (Vm.opd e y') = .ok v h') : OpSim P ρ h w a o v h' := by
  have rx := c.opd hx
  have ry := c.opd hy
  obtain ⟨i', zv, hi', hzv, hzvs, hzlen⟩ := zeroOf_some hz
  rw [hi, Option.some.injEq] at hi'
  subst hi'
  unfold sMks at hs
  split at hs
  · rename_i l cc hl hcp
    obtain ⟨k1, h1⟩ := natOf_rel rx hl
    obtain ⟨k2, h2⟩ := natOf_rel ry hcp
    split at hs
    · rename_i hc
      obtain ⟨hle, hroom⟩ := hc
      obtain ⟨q1, q2⟩ := room_ok hroom
      injection hs with e1 e2; subst e1 e2
      have hb : (ti.bytes : Int) * (cc : Int) ≤ 281474976710656 := by
        have : ((ti.bytes * cc : Nat) : Int) ≤ 281474976710656 := by rw [Nat.mul_comm]; omega
        rwa [Int.natCast_mul] at this
      have hrun := run_make (P := P) w t el ti zv hu hi hzv k1 k2 (l : Int) (cc : Int) (by omega) (by omega) hb (by omega)
      simp only [Int.toNat_natCast] at hrun
      have hrow := zero_row (ofValues_rel ρ h _ _ hzvs) (by omega) cc
      rw [hzlen] at hrow
      have hmade : madeCells zv.cells (cc * ti.size) = (Array.range (cc * ti.size)).map (zv.cells[· % zv.cells.size]!) := rfl
      rw [← hmade] at hrow
      refine ⟨.slice (some ⟨w.heap.size, 0, none⟩) l cc, w.alloc (.cells (madeCells zv.cells (cc * ti.size)) el), ρ.add h.n ⟨w.heap.size, 0, (madeCells zv.cells (cc * ti.size)).toList.length + ([] : List Value).length⟩, .inl ?_, ?_, new_post (sp := false) (el := el) (fz := some 0) c.r c.wh hrow (rest := []) (fr := (0, 0)) (fun _ => rfl) (Nat.zero_le _) rfl rfl rfl (by rw [List.append_nil, Array.toArray_toList]; rfl)⟩
      · simp [execOp, hop, h1, h2, hrun]
      · refine .sl (p := ⟨w.heap.size, 0, (madeCells zv.cells (cc * ti.size)).toList.length + ([] : List Value).length⟩) (by simp [Rho.add]) hle (Nat.le_refl _) (fun _ => rfl) (fun _ => rfl) ?_
        have := hrow.length
        rw [length_repl, hzlen] at this
        simp only [Nat.zero_add, List.length_nil, Nat.add_zero]
        omega
    · cases hs
  · cases hs

/-! bytes and texts -/
theorem bytesFrom_rel : ∀ (l : List V) (vs : List Value) (n x m y : Nat), VRels ρ h l vs → bytesFrom n x l = some (m, y) →
    ∃ bs : List UInt8, vs = bs.map (fun b => Value.int .u8 b.toNat) ∧ m = n + bs.length ∧ y = x * 256 ^ bs.length + numOf bs
  | [], _, n, x, m, y, .nil, e => by
    simp only [bytesFrom, Option.some.injEq, Prod.mk.injEq] at e
    obtain ⟨rfl, rfl⟩ := e
    exact ⟨[], rfl, rfl, by simp [numOf]⟩
  | v :: l, _, n, x, m, y, .cons hv t, e => by
    simp only [bytesFrom] at e
    split at e
    · rename_i b
      split at e
      · rename_i hb
        obtain ⟨bs, h1, h2, h3⟩ := bytesFrom_rel l _ _ _ _ _ t e
        refine ⟨UInt8.ofNat b :: bs, ?_, ?_, ?_⟩
        · rw [vrel_int hv, h1]
          have : (UInt8.ofNat b).toNat = b := by simp; omega
          simp [this]
        · rw [h2, List.length_cons]; omega
        · have : (UInt8.ofNat b).toNat = b := by simp; omega
          rw [h3, numOf_cons, this, List.length_cons, Nat.pow_succ, Nat.add_mul]
          rw [show x * 256 * 256 ^ bs.length = x * (256 ^ bs.length * 256) by rw [Nat.mul_comm (256 ^ bs.length) 256, ← Nat.mul_assoc]]
          omega
      · cases e
    · cases e

theorem push_bytes : ∀ (bs : List UInt8) (r : ByteArray), (bs.map (fun b => (b.toNat : Int))).foldl (fun (r : ByteArray) n => r.push (UInt8.ofNat n.toNat)) r = ⟨r.data ++ bs.toArray⟩
  | [], r => by simp
  | b :: bs, r => by
    simp only [List.map_cons, List.foldl_cons]
    rw [push_bytes bs]
    have : UInt8.ofNat ((b.toNat : Int).toNat) = b := by simp
    rw [this]
    congr 1
    apply Array.ext'
    simp [ByteArray.push]

theorem sim_b2s (c : Cx P ρ h w e a) {s d el : Nat} {x : Operand} {x' : Opd} (hop : o.op = .convert s d x) (hsu : P.underlying s = some (.slice el)) (hdu : P.underlying d = some .string) (hel : P.underlying el = some (.int .u8)) (hx : opdOf P x = some x')
    {v : V} {h' : H} (hs : sB2s h (Vm.opd e x') = .ok v h') : OpSim P ρ h w a o v h' := by
  have rx := c.opd hx
  unfold sB2s at hs
  split at hs
  · rename_i hb
    rw [hb] at rx
    injection hs with e1 e2; subst e1 e2
    refine opsim_val (v' := .string .empty) c.r ?_ ?_
    · simp [execOp, hop, vrel_nils rx, run_convert_bytes_string w s d el none 0 0 hsu hel hdu, Conv.bytesToString]
    · exact VRel.str ByteArray.empty
  · rename_i q i n cc s' ex hb
    rw [hb] at rx
    split at hs
    · rename_i hs1
      subst hs1
      split at hs
      · rename_i l hl
        split at hs
        · rename_i m y hby
          injection hs with e1 e2; subst e1 e2
          obtain ⟨_, _, _, _, _, hg, _⟩ := loadN_some hl
          obtain ⟨p, ad, c', hp, hxe, f1, f2, f3, f4, f5⟩ := vrel_sl rx (by rw [hg]; simp)
          obtain ⟨vs, r1, r2, r3, r4⟩ := load_sim (P := P) c.r hp hl
          obtain ⟨bs, b1, b2, b3⟩ := bytesFrom_rel _ _ _ _ _ _ r1 hby
          have hld : (loadCells ad n).run P w = .ok ((bs.map (fun b => (b.toNat : Int))).map (Value.int .u8)).toArray w := by
            rw [List.map_map]
            by_cases hc : 0 < c'
            · rw [f4 hc, r3, b1]; rfl
            · obtain rfl : n = 0 := by omega
              have : vs = [] := List.length_eq_zero_iff.1 r2
              rw [this] at b1
              have : bs = [] := by simpa using b1.symm
              subst this
              simp [loadCells, loadCellsFrom]
          have hrun := run_bytesToString (P := P) w ad n c' _ hld
          rw [push_bytes] at hrun
          refine opsim_val (v' := .string ⟨ByteArray.empty.data ++ bs.toArray⟩) c.r ?_ ?_
          · simp [execOp, hop, hxe, run_convert_bytes_string w s d el (some ad) n c' hsu hel hdu, hrun]
          · have := VRel.str (ρ := ρ) (h := h) ⟨ByteArray.empty.data ++ bs.toArray⟩
            have e1 : (ByteArray.mk (ByteArray.empty.data ++ bs.toArray)).data.toList = bs := by simp
            rw [e1] at this
            rw [b2, b3]
            simpa using this
        · cases hs
      · cases hs
    · cases hs
  · cases hs

theorem sim_mm (c : Cx P ρ h w e a) {cl : Call} {xs : List Operand} {l : List Opd} {mx : Bool} (hop : o.op = .call cl) (hcl : cl.callee = .builtin (if mx then .max else .min)) (har : cl.args.toList = xs) (hl : opdsOf P xs = some l)
    {v : V} {h' : H} (hs : sMm h mx (l.map (Vm.opd e)) = .ok v h') : OpSim P ρ h w a o v h' := by
  have hr := opds_rel c.er c.gr hl
  have step : ∀ (x y z : V) (x' y' : Value), VRel ρ h x x' → VRel ρ h y y' → mmV mx x y = some z → ∃ z', (if mx then Builtin.max2 x' y' else Builtin.min2 x' y').run P w = .ok z' w ∧ VRel ρ h z z' := by
    intro x y z x' y' rx ry hz
    unfold mmV at hz
    split at hz
    · simp only [Option.some.injEq] at hz; subst hz
      rw [vrel_int rx, vrel_int ry]
      cases mx <;> exact ⟨_, rfl, .int _ _⟩
    · obtain ⟨s, hs1, hs2, hs3⟩ := vrel_str rx
      obtain ⟨u, hu1, hu2, hu3⟩ := vrel_str ry
      rw [hs2, hs3, hu2, hu3, strLt_numOf, strEq_numOf] at hz
      cases mx
      · simp only [Bool.false_eq_true, if_false] at hz ⊢
        have hq : (Builtin.min2 x' y').run P w = .ok (.string (if (Op.bytesLess s.data.toList u.data.toList || (s.data.toList == u.data.toList)) = true then s else u)) w := by
          rw [hs1, hu1]
          simp [Builtin.min2, Op.stringOp, asBool, bytes_toList]
        rw [hq]
        split at hz
        · rename_i hc
          simp only [Option.some.injEq] at hz; subst hz
          refine ⟨_, rfl, ?_⟩
          rw [if_pos hc]; exact .str s
        · rename_i hc
          simp only [Option.some.injEq] at hz; subst hz
          refine ⟨_, rfl, ?_⟩
          rw [if_neg hc]; exact .str u
      · simp only [if_true] at hz ⊢
        have hq : (Builtin.max2 x' y').run P w = .ok (.string (if (!Op.bytesLess s.data.toList u.data.toList) = true then s else u)) w := by
          rw [hs1, hu1]
          simp [Builtin.max2, Op.stringOp, asBool, bytes_toList]
        rw [hq]
        split at hz
        · rename_i hc
          simp only [Option.some.injEq] at hz; subst hz
          refine ⟨_, rfl, ?_⟩
          rw [if_neg (by simp [hc])]; exact .str u
        · rename_i hc
          simp only [Option.some.injEq] at hz; subst hz
          refine ⟨_, rfl, ?_⟩
          rw [if_pos (by simpa using hc)]; exact .str s
    · cases hz
  have fold : ∀ (l : List V) (vs : List Value) (x z : V) (x' : Value), VRels ρ h l vs → VRel ρ h x x' → mmL mx x l = some z → ∃ z', (vs.foldlM (fun a b => if mx then Builtin.max2 a b else Builtin.min2 a b) x').run P w = .ok z' w ∧ VRel ρ h z z' := by
    intro l
    induction l with
    | nil =>
      intro vs x z x' hl hx hz
      cases hl
      simp only [mmL, Option.some.injEq] at hz; subst hz
      exact ⟨x', rfl, hx⟩
    | cons y l ih =>
      intro vs x z x' hl hx hz
      cases hl with
      | cons hy ht =>
        simp only [mmL] at hz
        split at hz
        · rename_i w1 hw1
          obtain ⟨z1, q1, q2⟩ := step _ _ _ _ _ hx hy hw1
          obtain ⟨z', p1, p2⟩ := ih _ _ _ _ ht q2 hz
          refine ⟨z', ?_, p2⟩
          rw [List.foldlM_cons, Sem.run_bind, q1]
          exact p1
        · cases hz
  generalize l.map (Vm.opd e) = L at hr hs
  unfold sMm at hs
  split at hs
  · cases hs
  · rename_i x r
    have har' : (cl.args.map a.eval).toList = xs.map a.eval := by rw [Array.toList_map, har]
    generalize xs.map a.eval = XS at hr har'
    cases hr with
    | cons hx ht =>
      rename_i x' xs'
      unfold give at hs
      split at hs
      · rename_i z hz
        injection hs with e1 e2; subst e1 e2
        obtain ⟨z', q1, q2⟩ := fold _ _ _ _ _ ht hx hz
        refine opsim_val (v' := z') c.r ?_ q2
        cases mx
        · simp only [Bool.false_eq_true, if_false] at hcl q1
          simp [execOp, hop, resolve, hcl, invoke, builtin, Builtin.min_]
          rw [show (cl.args.toList.map a.eval) = (cl.args.map a.eval).toList by simp, har']
          simp [q1]
        · simp only [if_true] at hcl q1
          simp [execOp, hop, resolve, hcl, invoke, builtin, Builtin.max_]
          rw [show (cl.args.toList.map a.eval) = (cl.args.map a.eval).toList by simp, har']
          simp [q1]
      · cases hs

end
end Go.Vm
