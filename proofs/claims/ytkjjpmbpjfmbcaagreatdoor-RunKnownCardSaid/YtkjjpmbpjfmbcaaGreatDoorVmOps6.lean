/-
  Each operation of the model does what the evaluator says: append, copy.
-/
import Derived.Test.YtkjjpmbpjfmbcaaGreatDoorVmOps5
set_option linter.unusedVariables false
set_option linter.unusedSimpArgs false
namespace Go.Vm
section
variable {P : Program} {ρ : Rho} {h : H} {w : World} {e : T V} {a : Act} {o : Oper}

/-- an object that lies in a block in which none lies -/
theorem at_rel (r : HRel ρ h w) {w' : World} {x : Obj} {p : Pl} (hfree : ∀ o q, ρ o = some q → q.B ≠ p.B)
    (hother : ∀ B, B ≠ p.B → w'.heap[B]? = w.heap[B]?)
    (hself : ∀ ρ' h', (∀ v y, VRel ρ h v y → VRel ρ' h' v y) → ORel ρ' h' w' p x) : HRel (ρ.add h.n p) (h.push x) w' := by
  have hm : ∀ v y, VRel ρ h v y → VRel (ρ.add h.n p) (h.push x) v y := fun v y hv =>
    VRel.mono (ρ' := ρ.add h.n p) (h' := h.push x) r.lt (Nat.le_succ _) (fun q hq hd => by rw [H.get_push, if_neg (by omega)]; exact hd) (fun q hq => .inl (by unfold Rho.add; rw [if_neg (by omega)])) hv
  refine ⟨?_, ?_, ?_⟩
  · intro q pq hq
    rw [H.n_push]
    unfold Rho.add at hq
    split at hq
    · omega
    · have := r.lt q pq hq; omega
  · intro q pq hq
    rw [H.get_push]
    unfold Rho.add at hq
    split at hq
    · rename_i e
      simp only [Option.some.injEq] at hq
      subst hq e
      rw [if_pos rfl]
      exact hself _ _ hm
    · rename_i hne
      rw [if_neg (fun e => hne e.symm)]
      have hs := hfree q pq hq
      have := r.obj q pq hq
      revert this
      cases h.get q with
      | c n t sp el fz =>
        rintro ⟨cs, fr, h1, h2, h3, h4, h5, h6⟩
        exact ⟨cs, fr, (hother _ hs).trans h1, h2, h3, h4, fun i hi => let ⟨v, hv, hr⟩ := h5 i hi; ⟨v, hv, hm _ _ hr⟩, h6⟩
      | si n x pos => rintro ⟨s, h1, h2⟩; exact ⟨s, (hother _ hs).trans h1, h2⟩
      | m es => exact id
      | dead => exact id
  · intro q q' pq pq' hq hq' hb
    unfold Rho.add at hq hq'
    split at hq <;> split at hq'
    · omega
    · simp only [Option.some.injEq] at hq; subst hq
      exact absurd hb.symm (hfree q' pq' hq')
    · simp only [Option.some.injEq] at hq'; subst hq'
      exact absurd hb (hfree q pq hq)
    · exact r.inj q q' pq pq' hq hq' hb

/-- what append's model does once it knows its operands: where there is room -/
theorem append_room {ats : Array TypeId} {t u ty el n s m c' : Nat} {ti : TypeInfo} {du : TypeDesc} {base : Option Addr} {x : Value} {vs : List Value} {w' : World} (h0 : ats[0]? = some t) (h1 : ats[1]? = some u)
    (ht : P.underlying t = some (.slice el)) (hu : P.underlying u = some du) (hdu : ∀ k, du ≠ .int k) (hi : P.info? el = some ti) (hsz : ti.size = s)
    (hl : (Builtin.lenOf x).run P w = .ok m w) (hf : (Builtin.firstCells s m x).run P w = .ok vs.toArray w) (hle : n + m ≤ c')
    (hst : ∀ ad, base = some ad → (storeCells (ad.add (n * s)) vs).run P w = .ok () w') (hnone : base = none → w' = w) :
    (Builtin.append_ ats ty #[.slice base n c', x]).run P w = .ok (.slice base (n + m) c') w' := by
  unfold Builtin.append_
  cases du <;> first
    | exact absurd rfl (hdu _)
    | (simp only [h0, h1, List.getElem?_toArray, List.getElem?_cons_zero, List.getElem?_cons_succ, Sem.run_bind, run_underlying ht, run_underlying hu, Result.andThen_ok, Go.sizeOf, typeInfo, run_program, hi, hsz, Sem.run_pure, Bool.false_eq_true, if_false, hl, Sem.run_ite, hle, if_true, Bool.not_false]
       rw [hf]
       simp only [Result.andThen_ok]
       cases base with
       | none => rw [hnone rfl]; rfl
       | some ad =>
         simp only [Sem.run_bind, hst ad rfl, Result.andThen_ok]
         rfl)

/-- where there is none: a new row -/
theorem append_grows {ats : Array TypeId} {t u ty el s n m c' : Nat} {ti : TypeInfo} {du : TypeDesc} {z : Value} {base : Option Addr} {x : Value} {us vs : List Value} (h0 : ats[0]? = some t) (h1 : ats[1]? = some u)
    (ht : P.underlying t = some (.slice el)) (hu : P.underlying u = some du) (hdu : ∀ k, du ≠ .int k) (hi : P.info? el = some ti) (hsz : ti.size = s) (hz : ti.zero = some z)
    (hl : (Builtin.lenOf x).run P w = .ok m w) (hold : (Builtin.firstCells s n (.slice base n c')).run P w.drew = .ok us.toArray w.drew) (hf : (Builtin.firstCells s m x).run P w.drew = .ok vs.toArray w.drew)
    (hlt : ¬ n + m ≤ c') (hroom : roomFor (n + m) ti.bytes = true) :
    ∃ cap, n + m ≤ cap ∧ (Builtin.append_ ats ty #[.slice base n c', x]).run P w = .ok (.slice (some ⟨w.heap.size, 0, none⟩) (n + m) cap) { w.drew with heap := w.heap.push (.cells (us ++ vs ++ (Builtin.zeroCells z.cells (cap - (n + m))).toList).toArray el) } := by
  refine ⟨(Question.appendCap (n + m) c' el).cut (w.tape w.drawn (.appendCap (n + m) c' el)), Nat.le_add_right _ _, ?_⟩
  have hbig := nextcap_room (need := n + m) (cc := c') (by omega) hroom
  have h63 : ¬ (((n + m : Nat) : Int) > IntKind.i64.max ∧ (False ∨ ti.bytes = 0)) := by
    have : IntKind.i64.max = 9223372036854775807 := rfl
    have := (room_ok hroom).2
    omega
  have hforced : (Question.appendCap (n + m) c' el).forced = false := rfl
  generalize hcap : (Question.appendCap (n + m) c' el).cut (w.tape w.drawn (.appendCap (n + m) c' el)) = cap
  have hch : (choose (.appendCap (n + m) c' el)).run P w = .ok cap w.drew := by rw [← hcap]; rfl
  have harr : us.toArray ++ vs.toArray ++ Builtin.zeroCells z.cells (cap - (n + m)) = (us ++ vs ++ (Builtin.zeroCells z.cells (cap - (n + m))).toList).toArray := by apply Array.ext'; simp
  unfold Builtin.append_
  cases du <;> first
    | exact absurd rfl (hdu _)
    | (simp only [h0, h1, List.getElem?_toArray, List.getElem?_cons_zero, List.getElem?_cons_succ, Sem.run_bind, run_underlying ht, run_underlying hu, Result.andThen_ok, Go.sizeOf, typeInfo, run_program, hi, hsz, Sem.run_pure, Bool.false_eq_true, if_false, hl, Sem.run_ite, hlt, Bool.not_false, if_true, hbig, hch, run_askRoom, hold, hf, zeroValue, hz, newRow, run_newObj]
       rw [harr, if_neg h63]
       rfl)

/-- the new row's place, and the slice over it -/
theorem grown_sim (r : HRel ρ h w) (wh : wfh h) {l : List V} {us vs : List Value} {n m s cap el : Nat} {z : Array Value} (fz : Option Nat) (hz : z.size = s) (hl : VRels ρ h l (us ++ vs)) (hus : us.length = n * s) (hvs : vs.length = m * s) (hcap : n + m ≤ cap) {w' : World}
    (hw : w' = { w.drew with heap := w.heap.push (.cells (us ++ vs ++ (Builtin.zeroCells z (cap - (n + m))).toList).toArray el) }) :
    ∃ ρ', VRel ρ' (newCells h l true el fz) (.sl h.n 0 (n + m) (n + m) s false) (.slice (some ⟨w.heap.size, 0, none⟩) (n + m) cap) ∧ Post ρ h w ρ' (newCells h l true el fz) w' := by
  subst hw
  refine ⟨ρ.add h.n ⟨w.heap.size, 0, (us ++ vs).length + (Builtin.zeroCells z (cap - (n + m))).toList.length⟩, ?_, ?_⟩
  · refine .sl (p := ⟨w.heap.size, 0, (us ++ vs).length + (Builtin.zeroCells z (cap - (n + m))).toList.length⟩) (by simp [Rho.add]) (Nat.le_refl _) hcap (fun h => by cases h) (fun _ => rfl) ?_
    simp only [Nat.zero_add, List.length_append, Array.length_toList, zeroCells_size, hz, hus, hvs]
    have : n * s + m * s + (cap - (n + m)) * s = cap * s := by
      rw [← Nat.add_mul, ← Nat.add_mul]; congr 1; omega
    omega
  · exact new_post r wh hl (rest := (Builtin.zeroCells z (cap - (n + m))).toList) (fr := (0, 0)) (fun h => by cases h) (by cases fz with
      | none => exact .inr (Nat.zero_le _)
      | some k => exact Nat.zero_le _) rfl rfl rfl rfl

theorem readCells_append_get {t : T V} : ∀ (n i : Nat), (readCells t i n).length = n := fun n i => length_readCells t n i

theorem sim_app (c : Cx P ρ h w e a) {t u el : Nat} {cl : Call} {x y : Operand} {x' y' : Opd} {ti : TypeInfo} {du : TypeDesc} {zs : List V} (hop : o.op = .call cl) (hcl : cl.callee = .builtin .append) (h0 : cl.argTypes[0]? = some t) (h1 : cl.argTypes[1]? = some u)
    (ht : P.underlying t = some (.slice el)) (hu : P.underlying u = some du) (hdu : ∀ k, du ≠ .int k) (hi : P.info? el = some ti) (hz : zeroOf P el = some zs) (hpos : 0 < ti.size) (har : cl.args = #[x, y]) (hx : opdOf P x = some x') (hy : opdOf P y = some y')
    {v : V} {h' : H} (hs : sAppend h ti.size ti.bytes el (Vm.opd e x') (Vm.opd e y') = .ok v h') : OpSim P ρ h w a o v h' := by
  have rx := c.opd hx
  have ry := c.opd hy
  obtain ⟨i', zv, hi', hzv, hzvs, hzlen⟩ := zeroOf_some hz
  rw [hi, Option.some.injEq] at hi'
  subst hi'
  have hzsz : zv.cells.size = ti.size := by
    have := (ofValues_rel ρ h _ _ hzvs).length
    simp only [Array.length_toList] at this; omega
  have hexec : ∀ v' w', (Builtin.append_ cl.argTypes o.type #[a.eval x, a.eval y]).run P w = .ok v' w' → (execOp a.eval o).run P w = .ok (.value v') w' := by
    intro v' w' hr
    simp [execOp, hop, resolve, hcl, har, invoke, builtin, hr]
  unfold sAppend at hs
  split at hs
  · rename_i m l hsrc
    obtain ⟨vs, v1, v2, v3, v4⟩ := src_sim c.r ry hsrc
    unfold doAppend at hs
    split at hs
    · -- nothing there yet
      rename_i hb
      rw [hb] at rx
      split at hs
      · rename_i hm
        injection hs with e1 e2; subst e1 e2
        subst hm
        have hvs0 : vs = [] := by have := v2; simp only [Nat.zero_mul] at this; exact List.length_eq_zero_iff.1 this
        subst hvs0
        have := append_room (ty := o.type) (n := 0) (c' := 0) (base := none) (w' := w) h0 h1 ht hu hdu hi rfl (v3 P) (v4 P w rfl) (Nat.le_refl _) (fun ad h => by cases h) (fun _ => rfl)
        refine opsim_val c.r (hexec _ _ ?_) .nils
        rw [vrel_nils rx]; simpa using this
      · split at hs
        · rename_i hm hroom
          injection hs with e1 e2; subst e1 e2
          obtain ⟨cap, g1, g2⟩ := append_grows (P := P) (w := w) (ty := o.type) (n := 0) (m := m) (c' := 0) (base := none) (x := a.eval y) (us := []) (vs := vs) h0 h1 ht hu hdu hi rfl hzv (v3 P) rfl (v4 P w.drew rfl) (by omega) (by simpa using hroom)
          obtain ⟨ρ', q1, q2⟩ := grown_sim (el := el) c.r c.wh (some 0) hzsz (us := []) (n := 0) (m := m) (l := l) (vs := vs) (by simpa using v1) (by simp) v2 g1 rfl
          simp only [Nat.zero_add] at g2 q1 q2
          exact ⟨_, _, ρ', .inl (hexec _ _ (by rw [vrel_nils rx]; exact g2)), q1, q2⟩
        · cases hs
    · rename_i q i n cc s' ex hb
      rw [hb] at rx
      split at hs
      · rename_i k tt sp el' fz hg
        split at hs
        · rename_i hse
          subst hse
          obtain ⟨p, ad, c', hp, hxe, f1, f2, f3, f4, f5⟩ := vrel_sl rx (by rw [hg]; simp)
          split at hs
          · rename_i hfit
            split at hs
            · rename_i hm
              injection hs with e1 e2; subst e1 e2
              subst hm
              have hvs0 : vs = [] := by have := v2; simp only [Nat.zero_mul] at this; exact List.length_eq_zero_iff.1 this
              subst hvs0
              have := append_room (ty := o.type) (n := n) (c' := c') (base := some ad) (w' := w) h0 h1 ht hu hdu hi rfl (v3 P) (v4 P w rfl) (by omega) (fun ad h => rfl) (fun h => by cases h)
              exact opsim_val c.r (hexec _ _ (by rw [hxe]; simpa using this)) (hxe ▸ rx)
            · rename_i hm
              split at hs
              · rename_i h2 hst
                injection hs with e1 e2; subst e1 e2
                obtain ⟨w', r1, r2⟩ := store_sim (P := P) c.r hp v1 hst
                have had := f4 (by omega)
                have := append_room (ty := o.type) (n := n) (c' := c') (base := some ad) (w' := w') h0 h1 ht hu hdu hi rfl (v3 P) (v4 P w rfl) (by omega) (fun ad' h => by
                  simp only [Option.some.injEq] at h
                  subst h
                  rw [had, addr_add, Nat.add_assoc]; exact r1) (fun h => by cases h)
                exact ⟨_, _, ρ, .inl (hexec _ _ (by rw [hxe]; exact this)), .sl hp hfit f2 f3 (fun h => f4 h) f5, r2⟩
              · cases hs
          · rename_i hfit
            split at hs
            · rename_i hroom
              split at hs
              · rename_i hik
                have hload : loadN h q i (n * ti.size) = some (readCells tt i (n * ti.size)) := by
                  unfold loadN; rw [hg]; simp [hik]
                obtain ⟨us, u1, u2, _, u4⟩ := load_sim (P := P) c.r hp hload
                have hold : ∀ (w' : World), w'.heap = w.heap → (Builtin.firstCells ti.size n (.slice (some ad) n c')).run P w' = .ok us.toArray w' := by
                  intro w' hw'
                  simp only [Builtin.firstCells]
                  by_cases hc : 0 < c'
                  · rw [f4 hc]
                    have := run_loadCells_list (P := P) w' ⟨p.B, p.b + i, none⟩ us (fun j v hv => by
                      rw [addr_add]
                      have := u4 j v hv
                      simp only [World.cell?, hw'] at this ⊢
                      exact this)
                    rw [u2] at this
                    exact this
                  · have hn : n = 0 := by omega
                    subst hn
                    simp only [Nat.zero_mul] at u2 ⊢
                    have : us = [] := List.length_eq_zero_iff.1 u2
                    subst this
                    rfl
                have grow : ¬ n + m ≤ c' → ∃ cap, n + m ≤ cap ∧ (execOp a.eval o).run P w = .ok (.value (.slice (some ⟨w.heap.size, 0, none⟩) (n + m) cap)) { w.drew with heap := w.heap.push (.cells (us ++ vs ++ (Builtin.zeroCells zv.cells (cap - (n + m))).toList).toArray el) } := by
                  intro hlt
                  obtain ⟨cap, g1, g2⟩ := append_grows (P := P) (w := w) (ty := o.type) (n := n) (m := m) (c' := c') (base := some ad) (x := a.eval y) (us := us) (vs := vs) h0 h1 ht hu hdu hi rfl hzv (v3 P) (hold _ rfl) (v4 P w.drew rfl) hlt hroom
                  exact ⟨cap, g1, hexec _ _ (by rw [hxe]; exact g2)⟩
                split at hs
                · rename_i hex
                  injection hs with e1 e2; subst e1 e2
                  obtain ⟨cap, g1, g2⟩ := grow (by have := f3 hex; omega)
                  obtain ⟨ρ', q1, q2⟩ := grown_sim (el := el) c.r c.wh (some 0) hzsz (us := us) (n := n) (m := m) (vs := vs) (u1.append v1) u2 v2 g1 rfl
                  exact ⟨_, _, ρ', .inl g2, q1, q2⟩
                · split at hs
                  · rename_i hc
                    obtain ⟨hsp, hfz, hfl, hel, hone⟩ := hc
                    subst hel
                    injection hs with e1 e2; subst e1 e2
                    have hk := kill_post c.r hp hfl
                    have hw1 : wfh (h.set q .dead) := wfh_set c.wh trivial
                    have u1' := hk.vrels c.r.lt u1
                    have v1' := hk.vrels c.r.lt v1
                    by_cases hlt : n + m ≤ c'
                    · -- in place
                      have had := f4 (by omega)
                      have hfit' : i + n * ti.size + m * ti.size ≤ i + c' * ti.size := by
                        have : (n + m) * ti.size ≤ c' * ti.size := Nat.mul_le_mul_right _ hlt
                        rw [Nat.add_mul] at this; omega
                      have ho := c.r.obj _ _ hp
                      rw [hg] at ho
                      obtain ⟨cs, fr, b1, b2, b3, b4, b5, b6⟩ := ho
                      have hclen : vs.length = m * ti.size := v2
                      have hstore : ∃ w', (storeCells ⟨p.B, p.b + i + n * ti.size, none⟩ vs).run P w = .ok () w' ∧ w' = w.setRow p.B (cs.toList.take (p.b + i + n * ti.size) ++ vs ++ cs.toList.drop (p.b + i + n * ti.size + vs.length)).toArray := by
                        refine ⟨_, ?_, rfl⟩
                        exact run_storeCells_free b1 (by
                          cases fz with
                          | none => exact b6.elim (fun h => .inr (b2 ▸ h)) (fun h => .inl (by omega))
                          | some kk => simp only [Option.getD_some] at hfz; have : fr.2 ≤ p.b + kk := b6; exact .inl (by omega)) (by omega) (vrels_one v1 hone)
                      obtain ⟨w', r1, r2⟩ := hstore
                      have hrun := append_room (ty := o.type) (n := n) (c' := c') (base := some ad) (w' := w') h0 h1 ht hu hdu hi rfl (v3 P) (v4 P w rfl) hlt (fun ad' h => by
                        simp only [Option.some.injEq] at h
                        subst h
                        rw [had, addr_add]; exact r1) (fun h => by cases h)
                      have hcl' : p.b + i + n * ti.size + vs.length ≤ cs.toList.length := by simp only [Array.length_toList]; omega
                      have hrel : HRel ((ρ.kill q).add h.n ⟨p.B, p.b + i, p.N⟩) (newCells (h.set q .dead) (readCells tt i (n * ti.size) ++ l) true el' (fz.map (· - i))) w' := by
                        refine at_rel hk.rel ?_ (fun B hB => by rw [r2]; exact heap_setRow_ne _ _ _ hB) ?_
                        · intro o' q' ho' hB
                          unfold Rho.kill at ho'
                          split at ho'
                          · cases ho'
                          · rename_i hne; exact hne (c.r.inj _ _ _ _ ho' hp hB)
                        · intro ρ' h'' hv
                          refine ⟨(cs.toList.take (p.b + i + n * ti.size) ++ vs ++ cs.toList.drop (p.b + i + n * ti.size + vs.length)).toArray, fr, by rw [r2]; exact setRow_heap w p.B cs _ el' fr b1, ?_, ?_, (fun h => nomatch h), ?_, ?_⟩
                          · simp only [List.size_toArray, List.length_append, List.length_take, List.length_drop]
                            simp only [Array.length_toList] at hcl' ⊢
                            omega
                          · have := v1.length
                            simp only [List.length_append, length_readCells]
                            omega
                          · intro j hj
                            simp only [List.length_append, length_readCells] at hj
                            have hll := v1.length
                            rw [get_writeCells, if_pos (by simp only [List.length_append, length_readCells]; omega)]
                            simp only [Nat.sub_zero, List.getElem?_toArray]
                            rw [list_splice_get _ _ _ hcl']
                            by_cases hj1 : j < n * ti.size
                            · rw [if_neg (by omega), Array.getElem?_toList]
                              obtain ⟨xv, hxv, hr⟩ := b5 (i + j) (by omega)
                              refine ⟨xv, by rw [← hxv]; congr 1; omega, hv _ _ (hk.vrel c.r.lt ?_)⟩
                              rw [List.getD_eq_getElem?_getD, List.getElem?_append_left (by rw [length_readCells]; exact hj1), getElem_readCells tt _ _ _ hj1]
                              exact hr
                            · rw [if_pos (by omega)]
                              have hjl : j - n * ti.size < l.length := by omega
                              obtain ⟨xv, hxv, hr⟩ := v1'.get (List.getElem?_eq_getElem hjl)
                              refine ⟨xv, by rw [← hxv]; congr 1; omega, hv _ _ ?_⟩
                              rw [List.getD_eq_getElem?_getD, List.getElem?_append_right (by rw [length_readCells]; omega), length_readCells, List.getElem?_eq_getElem hjl]
                              exact hr
                          · cases fz with
                            | none => exact b6.imp id (fun h => Nat.le_trans h (Nat.le_add_right _ _))
                            | some kk => have : fr.2 ≤ p.b + kk := b6; show fr.2 ≤ p.b + i + (kk - i); omega
                      have hfr : Fr ρ h ((ρ.kill q).add h.n ⟨p.B, p.b + i, p.N⟩) (newCells (h.set q .dead) (readCells tt i (n * ti.size) ++ l) true el' (fz.map (· - i))) w w' := by
                        refine ⟨by rw [r2]; rfl, by rw [r2]; rfl, by rw [r2]; rfl, by rw [r2, size_setRow]; exact Nat.le_refl _, ?_, ?_, ?_⟩
                        · intro B hB hf
                          by_cases he : p.B = B
                          · have := hf q p hp he; omega
                          · rw [r2]; exact heap_setRow_ne _ _ _ (fun e => he e.symm)
                        · intro o' ho'
                          unfold Rho.add Rho.kill
                          rw [if_neg (by omega)]
                          split
                          · rename_i he
                            subst he
                            refine .inr ⟨rfl, ?_⟩
                            unfold newCells
                            rw [H.get_push, H.n_set, if_neg (by omega), H.get_set, if_pos rfl]
                          · exact .inl rfl
                        · intro o' p' ho' hp'
                          unfold Rho.add Rho.kill at hp'
                          split at hp'
                          · simp only [Option.some.injEq] at hp'
                            subst hp'
                            exact .inr ⟨q, p, hfl, hp, rfl⟩
                          · split at hp'
                            · cases hp'
                            · have := c.r.lt o' p' hp'; omega
                      have habs : Abs h (newCells (h.set q .dead) (readCells tt i (n * ti.size) ++ l) true el' (fz.map (· - i))) := hk.abs.trans (.push hw1.1 _)
                      refine ⟨_, _, _, .inl (hexec _ _ (by rw [hxe]; exact hrun)), ?_, habs, hrel, hfr⟩
                      exact .sl (p := ⟨p.B, p.b + i, p.N⟩) (by simp [Rho.add]) (Nat.le_refl _) hlt (fun h => by cases h) (fun _ => had) (by simp only [Nat.add_zero]; exact f5)
                    · obtain ⟨cap, g1, g2⟩ := grow hlt
                      obtain ⟨ρ', q1, q2⟩ := grown_sim (el := el') hk.rel hw1 (fz.map (· - i)) hzsz (us := us) (n := n) (m := m) (vs := vs) (u1'.append v1') u2 v2 g1 rfl
                      exact ⟨_, _, ρ', .inl g2, q1, hk.trans q2⟩
                  · cases hs
              · cases hs
            · cases hs
        · cases hs
      · cases hs
    · cases hs
  · cases hs

end
end Go.Vm
