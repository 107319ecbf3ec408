/-
  Each operation of the model does what the evaluator says: structs compared.
-/
import Derived.Test.YtkjjpmbpjfmbcaaGreatDoorVmOps8
set_option linter.unusedVariables false
set_option linter.unusedSimpArgs false
namespace Go.Vm
section
variable {P : Program} {ρ : Rho} {h : H} {w : World} {e : T V} {a : Act} {o : Oper}

theorem leafEq_append (a b : List V) : ∀ (l r : List (Nat × LK)), leafEq a b (l ++ r) = match leafEq a b l with
    | some true => leafEq a b r
    | some false => some false
    | none => none
  | [], r => by simp [leafEq]
  | (i, k) :: l, r => by
    simp only [List.cons_append, leafEq]
    split
    · split
      · exact leafEq_append a b l r
      · rfl
      · rfl
    · rfl

/-- x is what lies of a type at a place of some cells -/
def Sub (P : Program) (t : Nat) (cs : Array Value) (base : Nat) (x : Value) : Prop :=
  (isAg P t = some true ∧ ∃ xs n, x = .agg xs ∧ sizeAt P t = some n ∧ ∀ j, j < n → xs[j]? = cs[base + j]?) ∨ (isAg P t = some false ∧ cs[base]? = some x)

theorem isAg_scalar {t : Nat} {u : TypeDesc} (hu : P.underlying t = some u) (h1 : ∀ fs, u ≠ .struct fs) (h2 : ∀ n el, u ≠ .array n el) : isAg P t = some false := by
  unfold isAg
  rw [hu]
  split
  · rename_i e; simp only [Option.some.injEq] at e; exact absurd e (h1 _)
  · rename_i e; simp only [Option.some.injEq] at e; exact absurd e (h2 _ _)
  · rfl
  · rename_i e; cases e

theorem sub_scalar {t base : Nat} {cs : Array Value} {x : Value} (hag : isAg P t = some false) (hx : Sub P t cs base x) : cs[base]? = some x := by
  rcases hx with ⟨hx, _⟩ | ⟨_, hx⟩
  · rw [hag] at hx; cases hx
  · exact hx

theorem scalar_sim {A B : List V} {cs cs' : Array Value} (ra : VRels ρ h A cs.toList) (rb : VRels ρ h B cs'.toList) {t base : Nat} {k : LK} {x y : Value} {r : Bool} (hag : isAg P t = some false) (hx : Sub P t cs base x) (hy : Sub P t cs' base y)
    (hr : leafEq A B [(base, k)] = some r) : ∃ p q, VRel ρ h p x ∧ VRel ρ h q y ∧ cellEq k p q = some r := by
  have hx' := sub_scalar hag hx
  have hy' := sub_scalar hag hy
  simp only [leafEq] at hr
  split at hr
  · rename_i p q hp hq
    obtain ⟨p', hp', rp⟩ := ra.get hp
    obtain ⟨q', hq', rq⟩ := rb.get hq
    rw [Array.getElem?_toList, hx', Option.some.injEq] at hp'
    rw [Array.getElem?_toList, hy', Option.some.injEq] at hq'
    subst hp' hq'
    refine ⟨p, q, rp, rq, ?_⟩
    split at hr
    · rename_i hc; rw [hc]; exact hr
    · rename_i hc; rw [hc]; exact hr
    · cases hr
  · cases hr

/-- the leaves of a type: one, or those of a struct's fields -/
theorem leaves_ag {d t base : Nat} {l : List (Nat × LK)} (hl : leaves P d t base = some l) : (isAg P t = some false ∧ ∃ k, l = [(base, k)]) ∨ isAg P t = some true := by
  cases d with
  | zero => simp [leaves] at hl
  | succ d =>
    simp only [leaves] at hl
    split at hl
    · rename_i hu; simp only [Option.some.injEq] at hl; exact .inl ⟨isAg_scalar hu (by simp) (by simp), _, hl.symm⟩
    · rename_i hu; simp only [Option.some.injEq] at hl; exact .inl ⟨isAg_scalar hu (by simp) (by simp), _, hl.symm⟩
    · rename_i hu; simp only [Option.some.injEq] at hl; exact .inl ⟨isAg_scalar hu (by simp) (by simp), _, hl.symm⟩
    · rename_i hu; exact .inr (by unfold isAg; rw [hu])
    · cases hl

theorem part_of {f : Field} {zs c0 : Array Value} {base n s : Nat} {ag : Bool} (hz : ∀ j, j < n → zs[j]? = c0[base + j]?) (hag : isAg P f.type = some ag) (hs : sizeAt P f.type = some s) (hle : f.offset + s ≤ n) (hpos : 0 < s) (w : World) :
    (∃ z, (part f.type zs f.offset).run P w = .ok z w ∧ Sub P f.type c0 (base + f.offset) z) ∨ (isAg P f.type = some false ∧ c0[base + f.offset]? = none) := by
  cases ag with
  | true =>
    refine .inl ⟨.agg (zs.extract f.offset (f.offset + s)), by simp [part, run_isAg hag, run_sizeAt hs], .inl ⟨hag, _, s, rfl, hs, ?_⟩⟩
    intro j hj
    have h1 := hz (f.offset + j) (by omega)
    have e : (zs.extract f.offset (f.offset + s))[j]? = zs[f.offset + j]? := by
      rw [← Array.getElem?_toList, Array.toList_extract, List.extract_eq_take_drop, List.getElem?_take, if_pos (by omega), List.getElem?_drop, Array.getElem?_toList]
    rw [e, h1]
    congr 1; omega
  | false =>
    have hz0 := hz f.offset (by omega)
    cases hc : c0[base + f.offset]? with
    | none => exact .inr ⟨hag, rfl⟩
    | some z => exact .inl ⟨z, by simp [part, run_isAg hag, hz0, hc], .inr ⟨hag, hc⟩⟩

theorem no_leaf {c0 : Array Value} {A0 : List V} {i : Nat} (rr : VRels ρ h A0 c0.toList) (hnone : c0[i]? = none) : A0[i]? = none := by
  have := rr.length
  simp only [Array.length_toList] at this
  rw [List.getElem?_eq_none_iff, ← this]
  exact Array.getElem?_eq_none_iff.1 hnone

theorem fields_sim {A B : List V} {cs cs' : Array Value} (ra : VRels ρ h A cs.toList) (rb : VRels ρ h B cs'.toList) {d n base d' : Nat} {xs ys : Array Value}
    (ih : ∀ (t base : Nat) (offs : List (Nat × LK)), leaves P d t base = some offs → ∀ (x y : Value) (r : Bool), Sub P t cs base x → Sub P t cs' base y → leafEq A B offs = some r → (Op.equalIn d' t x y).run P w = .ok r w)
    (hxs : ∀ j, j < n → xs[j]? = cs[base + j]?) (hys : ∀ j, j < n → ys[j]? = cs'[base + j]?) : ∀ (L : List Field) (offs : List (Nat × LK)) (r : Bool),
    L.foldr (fun f acc => if f.name = "_" then none else match acc, leaves P d f.type (base + f.offset), sizeAt P f.type with
      | some r, some l, some s => if f.offset + s ≤ n ∧ 0 < s then some (l ++ r) else none
      | _, _, _ => none) (some []) = some offs → leafEq A B offs = some r → (Op.eqFields d' xs ys L).run P w = .ok r w
  | [], offs, r, hl, hr => by
    simp only [List.foldr_nil, Option.some.injEq] at hl
    subst hl
    simp only [leafEq, Option.some.injEq] at hr
    subst hr
    simp [Op.eqFields]
  | f :: L, offs, r, hl, hr => by
    simp only [List.foldr_cons] at hl
    split at hl
    · cases hl
    · rename_i hname
      split at hl
      · rename_i r' l s hr' hl' hs'
        split at hl
        · rename_i hle
          simp only [Option.some.injEq] at hl
          subst hl
          rw [leafEq_append] at hr
          have hname' : f.name ≠ "_" := hname
          rw [Op.eqFields, if_pos hname']
          have hag : ∃ ag, isAg P f.type = some ag := (leaves_ag hl').elim (fun h => ⟨_, h.1⟩) (fun h => ⟨_, h⟩)
          obtain ⟨ag, hag⟩ := hag
          rcases part_of hxs hag hs' hle.1 hle.2 w with ⟨zx, px, sx⟩ | ⟨hag', hnone⟩
          · rcases part_of hys hag hs' hle.1 hle.2 w with ⟨zy, py, sy⟩ | ⟨hag', hnone⟩
            · simp only [Sem.run_bind, px, py, Result.andThen_ok]
              cases hle2 : leafEq A B l with
              | none => rw [hle2] at hr; cases hr
              | some r1 =>
                have h1 := ih f.type (base + f.offset) l hl' zx zy r1 sx sy hle2
                rw [h1]
                rw [hle2] at hr
                cases r1 with
                | true =>
                  simp only [Result.andThen_ok, Bool.not_true, Bool.false_eq_true, if_false]
                  exact fields_sim ra rb ih hxs hys L r' r hr' hr
                | false =>
                  simp only [Option.some.injEq] at hr
                  subst hr
                  simp
            · rcases leaves_ag hl' with ⟨_, k, rfl⟩ | h1
              · simp only [leafEq] at hr
                rw [no_leaf rb hnone] at hr
                simp at hr
              · rw [h1] at hag'; cases hag'
          · rcases leaves_ag hl' with ⟨_, k, rfl⟩ | h1
            · simp only [leafEq] at hr
              rw [no_leaf ra hnone] at hr
              simp at hr
            · rw [h1] at hag'; cases hag'
        · cases hl
      · cases hl

theorem leaves_sim {A B : List V} {cs cs' : Array Value} (ra : VRels ρ h A cs.toList) (rb : VRels ρ h B cs'.toList) : ∀ (d t base : Nat) (offs : List (Nat × LK)), leaves P d t base = some offs →
    ∀ (d' : Nat) (x y : Value) (r : Bool), Sub P t cs base x → Sub P t cs' base y → leafEq A B offs = some r → d ≤ d' → (Op.equalIn d' t x y).run P w = .ok r w := by
  intro d
  induction d with
  | zero => intro t base offs hl; simp [leaves] at hl
  | succ d ih =>
    intro t base offs hl d' x y r hx hy hr hd
    obtain ⟨d', rfl⟩ : ∃ k, d' = k + 1 := ⟨d' - 1, by omega⟩
    simp only [leaves] at hl
    split at hl
    · rename_i kk hu
      simp only [Option.some.injEq] at hl
      subst hl
      obtain ⟨p, q, rp, rq, hc⟩ := scalar_sim ra rb (isAg_scalar hu (by simp) (by simp)) hx hy hr
      unfold cellEq at hc
      split at hc <;> try (exfalso; simp_all; done)
      split at hc
      · rename_i hkk
        subst hkk
        simp only [Option.some.injEq] at hc; subst hc
        rw [vrel_int rp, vrel_int rq]
        exact run_equalIn_int w d' t _ kk _ _ hu
      · cases hc
    · rename_i hu
      simp only [Option.some.injEq] at hl
      subst hl
      obtain ⟨p, q, rp, rq, hc⟩ := scalar_sim ra rb (isAg_scalar hu (by simp) (by simp)) hx hy hr
      unfold cellEq at hc
      split at hc <;> try (exfalso; simp_all; done)
      simp only [Option.some.injEq] at hc; subst hc
      rw [vrel_bool rp, vrel_bool rq]
      exact run_equalIn_bool' w d' t _ _ hu
    · rename_i hu
      simp only [Option.some.injEq] at hl
      subst hl
      obtain ⟨p, q, rp, rq, hc⟩ := scalar_sim ra rb (isAg_scalar hu (by simp) (by simp)) hx hy hr
      unfold cellEq at hc
      split at hc <;> try (exfalso; simp_all; done)
      simp only [Option.some.injEq] at hc
      obtain ⟨s, hs1, hs2, hs3⟩ := vrel_str rp
      obtain ⟨u, hu1, hu2, hu3⟩ := vrel_str rq
      rw [hs2, hs3, hu2, hu3, strEq_numOf] at hc
      subst hc
      rw [hs1, hu1, run_equalIn_string w d' t _ _ hu, bytes_toList, bytes_toList]
    · rename_i fs hu
      split at hl
      · rename_i hst
        split at hl
        · rename_i n hn
          have hag : isAg P t = some true := by unfold isAg; rw [hu]
          obtain ⟨xs, hxe, hxs⟩ : ∃ xs, x = .agg xs ∧ ∀ j, j < n → xs[j]? = cs[base + j]? := by
            rcases hx with ⟨_, xs, n', e1, e2, e3⟩ | ⟨hx, _⟩
            · rw [hn, Option.some.injEq] at e2; subst e2; exact ⟨xs, e1, e3⟩
            · rw [hag] at hx; cases hx
          obtain ⟨ys, hye, hys⟩ : ∃ ys, y = .agg ys ∧ ∀ j, j < n → ys[j]? = cs'[base + j]? := by
            rcases hy with ⟨_, xs, n', e1, e2, e3⟩ | ⟨hy, _⟩
            · rw [hn, Option.some.injEq] at e2; subst e2; exact ⟨xs, e1, e3⟩
            · rw [hag] at hy; cases hy
          have hf : P.fieldsOf t = fs := by simp [Program.fieldsOf, hu]
          rw [hxe, hye, run_equalIn_struct w d' t xs ys (by rw [hf]; exact hu) hst, hf]
          exact fields_sim ra rb (fun t b offs hl x y r sx sy hr => ih t b offs hl d' x y r sx sy hr (by omega)) hxs hys _ _ _ hl hr
        · cases hl
      · cases hl
    · cases hl

theorem leaves_size {d t base : Nat} {fs : Array Field} {offs : List (Nat × LK)} (hu : P.underlying t = some (.struct fs)) (hl : leaves P (d + 1) t base = some offs) : ∃ n, sizeAt P t = some n := by
  simp only [leaves] at hl
  rw [hu] at hl
  simp only at hl
  split at hl
  · split at hl
    · exact ⟨_, by assumption⟩
    · cases hl
  · cases hl

theorem sim_eqs (c : Cx P ρ h w e a) {t yt : Nat} {x y : Operand} {x' y' : Opd} {neg : Bool} {fs : Array Field} {offs : List (Nat × LK)} (hop : o.op = .binOp (if neg then .neq else .eql) t x y yt) (hu : P.underlying t = some (.struct fs))
    (hl : leaves P 20 t 0 = some offs) (hg : P.eqGuardType P.depth t = false) (hx : opdOf P x = some x') (hy : opdOf P y = some y')
    {v : V} {h' : H} (hs : sEqs h neg offs (Vm.opd e x') (Vm.opd e y') = .ok v h') : OpSim P ρ h w a o v h' := by
  have rx := c.opd hx
  have ry := c.opd hy
  unfold sEqs at hs
  split at hs
  · rename_i A B ha hb
    rw [ha] at rx; rw [hb] at ry
    split at hs
    · rename_i r hr
      injection hs with e1 e2; subst e1 e2
      obtain ⟨cs, hxe, ra⟩ := vrel_agg rx
      obtain ⟨cs', hye, rb⟩ := vrel_agg ry
      obtain ⟨n, hn⟩ := leaves_size (d := 19) hu hl
      have hag : isAg P t = some true := by unfold isAg; rw [hu]
      have heq : (Op.equal t (.agg cs) (.agg cs')).run P w = .ok r w := by
        have : Op.equal t (.agg cs) (.agg cs') = Op.equalIn 10000 t (.agg cs) (.agg cs') := rfl
        rw [this]
        exact leaves_sim ra rb 20 t 0 offs hl 10000 _ _ r (.inl ⟨hag, cs, n, rfl, hn, fun j _ => by rw [Nat.zero_add]⟩) (.inl ⟨hag, cs', n, rfl, hn, fun j _ => by rw [Nat.zero_add]⟩) hr (by omega)
      refine opsim_val (v' := .bool (r != neg)) c.r ?_ (.bool _)
      have hge : (eqGuard (if neg then .neq else .eql) t x y (.agg cs) (.agg cs')).run P w = .ok () w := run_eqGuard_agg w _ t x y cs cs' hg
      have hbe := run_binEq (P := P) (w := w) (x := .agg cs) (y := .agg cs') neg heq trivial
      simp only [execOp, hop, hxe, hye, Sem.run_bind, hge, Result.andThen_ok, hbe, Sem.run_pure]
    · cases hs
  · cases hs

end
end Go.Vm
