/-
  One operation in its region; calls.
-/
import Derived.Test.YtkjjpmbpjfmbcaaGreatDoorVmOps11
import Derived.ScopeJumps
import Derived.Scope
set_option linter.unusedVariables false
set_option linter.unusedSimpArgs false
namespace Go.Vm

/-- the function has a text of its own -/
def Own (P : Program) (f : Nat) : Prop := ∃ fn, P.funcs[f]? = some fn ∧ fn.name ≠ "runtime.NumGoroutine" ∧ fn.body.isSome = true

/-- what a call comes to -/
def Ends (P : Program) (ρ : Rho) (h : H) (w : World) : Res → Ending → World → Prop
  | .ok v h', .returned x, w' => ∃ ρ', VRel ρ' h' v x ∧ Post ρ h w ρ' h' w'
  | .pan v h', .panicked ch, w' => ∃ x ρ', ch = [{ v := x, recovered := false }] ∧ VRel ρ' h' v x ∧ Post ρ h w ρ' h' w'
  | _, _, _ => False

def CallSim (P : Program) (call : Nat → List V → H → Res) : Prop :=
  ∀ f args h ρ w vs, HRel ρ h w → wfh h → GRel P.globals.size ρ h → wfs h.n args → VRels ρ h args vs → call f args h ≠ .no →
    Own P f ∧ Calls P f vs.toArray w (Ends P ρ h w (call f args h))

theorem GRel.post {G : Nat} {ρ : Rho} {h : H} {w : World} {ρ' : Rho} {h' : H} {w' : World} (g : GRel G ρ h) (p : Post ρ h w ρ' h' w') : GRel G ρ' h' := by
  refine ⟨Nat.le_trans g.1 p.abs.n, fun i hi => ?_⟩
  have hn : i < h.n := Nat.lt_of_lt_of_le hi g.1
  rcases g.2 i hi with ⟨N, hN⟩ | ⟨h1, h2⟩
  · rcases p.fr.keep i hn with e | ⟨e1, e2⟩
    · exact .inl ⟨N, e.trans hN⟩
    · exact .inr ⟨e1, e2⟩
  · rcases p.fr.keep i hn with e | ⟨e1, e2⟩
    · exact .inr ⟨e.trans h1, p.abs.dead i hn h2⟩
    · exact .inr ⟨e1, e2⟩

section
variable {P : Program} {ρ : Rho} {h : H} {w : World} {e : T V} {a : Act} {o : Oper} {call : Nat → List V → H → Res} {nt : Nat}

theorem Cx.post {ρ' : Rho} {h' : H} {w' : World} (c : Cx P ρ h w e a) (p : Post ρ h w ρ' h' w') (wh : wfh h') : Cx P ρ' h' w' e a :=
  ⟨p.rel, wh, wfe_mono p.abs.n c.we, fun i => p.vrel c.r.lt (c.er i), c.gr.post p⟩

theorem ERel.put {tm : Array Value} {v : V} {x : Value} (r : ERel ρ h e tm) (hs : tm.size = nt) (hv : VRel ρ h v x) (d : Nat) : ERel ρ h (Vm.put nt e (some d) v) (tm.setIfInBounds d x) := by
  intro i
  have hi := r i
  simp only [Array.getD_eq_getD_getElem?] at hi
  simp only [Vm.put, Array.getD_eq_getD_getElem?, Array.getElem?_setIfInBounds]
  by_cases hd : d < nt
  · rw [if_pos hd, T.get_set]
    by_cases hid : i = d
    · subst hid
      simp [hs, hd, hv]
    · have : ¬ d = i := fun e => hid e.symm
      simp only [this, if_false, hid, if_false]
      exact hi
  · rw [if_neg hd]
    by_cases hid : d = i
    · subst hid
      have : tm[d]? = none := by simp [hs]; omega
      rw [this] at hi
      simp [hs, hd]
      exact hi
    · simp only [hid, if_false]
      exact hi

theorem Cx.put {v : V} {x : Value} (c : Cx P ρ h w e a) (hs : a.tmps.size = nt) (hv : VRel ρ h v x) (wv : wf h.n v) (d : Option Nat) : Cx P ρ h w (Vm.put nt e d v) (a.put d x) := by
  cases d with
  | none => exact c
  | some d => exact ⟨c.r, c.wh, wfe_put c.we wv _, c.er.put hs hv d, c.gr⟩

theorem put_size (d : Option Nat) (x : Value) : (a.put d x).tmps.size = a.tmps.size := by
  cases d <;> simp [Act.put]

theorem put_defers (d : Option Nat) (x : Value) : (a.put d x).defers = a.defers := by
  cases d <;> rfl

/-- the run of an operation that enters a function -/
theorem wp_enter {f : Nat} {vs : Array Value} {next : Act → World → Prop} {Q : Exit → Act → World → Prop} {r : Res} (hr : (execOp a.eval o).run P w = .ok (.enter f vs) w) (hc : Calls P f vs w (Ends P ρ h w r))
    (hok : ∀ v h' x w' ρ', r = .ok v h' → VRel ρ' h' v x → Post ρ h w ρ' h' w' → next (a.put o.dst x) w')
    (hpan : ∀ v h' x w' ρ', r = .pan v h' → VRel ρ' h' v x → Post ρ h w ρ' h' w' → Q (.panic [{ v := x, recovered := false }]) a w') : o.wp P a w next Q := by
  unfold Oper.wp
  rw [hr]
  refine hc.mono fun en w' he => ?_
  cases r with
  | ok v h' =>
    cases en with
    | returned x => obtain ⟨ρ', h1, h2⟩ := he; exact hok v h' x w' ρ' rfl h1 h2
    | panicked ch => exact he.elim
    | outgrown => exact he.elim
  | pan v h' =>
    cases en with
    | returned x => exact he.elim
    | panicked ch => obtain ⟨x, ρ', rfl, h1, h2⟩ := he; exact hpan v h' x w' ρ' rfl h1 h2
    | outgrown => exact he.elim
  | no => cases en <;> exact he.elim

theorem run_enter {f : Nat} {vs : Array Value} (ho : Own P f) (w : World) : (callFunc f vs).run P w = .ok (.enter f vs) w := by
  obtain ⟨fn, hf, hn, hb⟩ := ho
  have : fn.body ≠ none := by intro h; simp [h] at hb
  simp [callFunc, hf, hn, this]

theorem step_pan {cp : COp} {v : V} {h' : H} (hn : isCall cp = false) (hst : step call e h cp = .pan v h') : ∃ y, cp = .pan y := by
  cases cp
  case pan y => exact ⟨y, rfl⟩
  case calf => cases hn
  case calv => cases hn
  all_goals
    exfalso
    simp only [step, give, sPick, sBox, sBld, sBsl, sLd, sLdn, sSt, sNck, sEq, sEqs, sCvi, sCvs, sB2s, sS2b, sMks, sSlt, sSls, sSlp, sFad, sFld, partOf, sIxs, sIxp, sIxa, sIxt, sExt, sAppend, doAppend, sCopy, sLen, sLnt, sCap, sMm, sRng, sNxt, sUsd, sUst, sFbits, sBitsf, sMkz, sP2u, sU2p] at hst
    repeat' (first | cases hst | split at hst)

theorem copOf_pan {y : Opd} (hc : copOf P o = some (.pan y)) : ∃ x y', o.op = .panic x ∧ opdOf P x = some y' ∧ COp.pan y = .pan y' := by
  unfold copOf at hc
  split at hc
  case h_26 x hop =>
    split at hc
    · rename_i y' hy
      injection hc with hc
      exact ⟨x, y', hop, hy, hc.symm⟩
    · cases hc
  all_goals
    exfalso
    try simp only [binOf, convOf, sliceOf, callOf, externOf] at hc
    repeat' (first | cases hc | split at hc)

theorem copOf_call {cp : COp} (hn : isCall cp = true) (hc : copOf P o = some cp) : ∃ cl args, o.op = .call cl ∧ opdsOf P cl.args.toList = some args ∧
    ((∃ f, cl.callee = .value (.func f) ∧ cp = .calf f args) ∨ ∃ x y, cl.callee = .value x ∧ opdOf P x = some y ∧ cp = .calv y args) := by
  unfold copOf at hc
  split at hc
  case h_23 cl hop =>
    unfold callOf at hc
    split at hc
    · cases hc
    · rename_i args ha
      refine ⟨cl, args, hop, ha, ?_⟩
      split at hc
      · rename_i f hcl
        split at hc
        · split at hc
          · cases hc
          · split at hc
            · injection hc with hc
              exact .inl ⟨f, hcl, hc.symm⟩
            · exfalso
              unfold externOf at hc
              repeat' (first | (injection hc with hc; subst hc; cases hn; done) | (cases hc; done) | split at hc)
        · cases hc
      · rename_i x _ hcl
        split at hc
        · rename_i y hy
          injection hc with hc
          exact .inr ⟨x, y, hcl, hy, hc.symm⟩
        · cases hc
      · cases hc
      · exfalso
        repeat' (first | (injection hc with hc; subst hc; cases hn; done) | (cases hc; done) | split at hc)
  all_goals
    exfalso
    try simp only [binOf, convOf, sliceOf] at hc
    repeat' (first | (injection hc with hc; subst hc; cases hn; done) | (cases hc; done) | split at hc)

theorem op_wp (hcall : CallSim P call) (c : Cx P ρ h w e a) {next : Act → World → Prop} {Q : Exit → Act → World → Prop} (hno : step call e h (copAt P o) ≠ .no)
    (hok : ∀ v h' x w' ρ', step call e h (copAt P o) = .ok v h' → VRel ρ' h' v x → Post ρ h w ρ' h' w' → next (a.put o.dst x) w')
    (hpan : ∀ v h' x w' ρ', step call e h (copAt P o) = .pan v h' → VRel ρ' h' v x → Post ρ h w ρ' h' w' → Q (.panic [{ v := x, recovered := false }]) a w') : o.wp P a w next Q := by
  have hwf := copAt_wf P o
  revert hno hok hpan hwf
  unfold copAt
  split
  · rename_i cp hc
    split
    · intro hno hok hpan hwf
      cases hn : isCall cp with
      | false =>
        cases hst : step call e h cp with
        | no => exact absurd hst hno
        | ok v h' =>
          obtain ⟨x, w', ρ', h1, h2, h3⟩ := op_sim c hc hn hst
          exact wp_of_out h1 (hok v h' x w' ρ' hst h2 h3)
        | pan v h' =>
          -- only 'panic' comes to this
          have hpn : ∃ x y, o.op = .panic x ∧ opdOf P x = some y ∧ cp = .pan y := by
            obtain ⟨y, rfl⟩ := step_pan hn hst
            exact copOf_pan hc
          obtain ⟨x, y, hop, hy, rfl⟩ := hpn
          have rx := c.opd hy
          simp only [step] at hst
          have hst' := hst
          unfold sPan at hst'
          split at hst'
          · rename_i t u hu
            injection hst' with e1 e2
            subst e1 e2
            rw [hu] at rx
            obtain ⟨z, hz, hzr⟩ := vrel_ifc rx
            have hrun : (execOp a.eval o).run P w = .halt (.panic (.iface t z)) w := by
              simp [execOp, hop, hz, Instr.panic]
            unfold Oper.wp
            rw [hrun]
            exact hpan _ _ _ _ _ hst (.ifc hzr) (.refl c.r)
          · cases hst'
      | true =>
        obtain ⟨cl, args, hop, hargs, hcase⟩ := copOf_call hn hc
        have hvs : VRels ρ h (args.map (Vm.opd e)) (cl.args.map a.eval).toList := by
          rw [Array.toList_map]; exact opds_rel c.er c.gr hargs
        rcases hcase with ⟨f, hcl, rfl⟩ | ⟨x, y, hcl, hy, rfl⟩
        · have hwa : wfs h.n (args.map (Vm.opd e)) := wfs_opds c.we (fun z hz => (copWf_mono c.gr.1 hwf).1 z (by simpa [COp.opds] using hz))
          obtain ⟨how, hcs⟩ := hcall f _ h ρ w _ c.r c.wh c.gr hwa hvs hno
          refine wp_enter (f := f) (vs := cl.args.map a.eval) ?_ (by rw [Array.toArray_toList] at hcs; exact hcs) hok hpan
          have h1 : a.eval (.func f) = .func (.func f) #[] #[] := rfl
          simp [execOp, hop, resolve, hcl, Deferred.ofValue, h1, invoke, run_enter how]
        · have rx := c.opd hy
          simp only [step] at hno hok hpan
          cases hx : Vm.opd e y with
          | fn f caps =>
            rw [hx] at rx hno hok hpan
            simp only [sCalv] at hno hok hpan
            obtain ⟨cs, hxe, hcr⟩ := vrel_fn rx
            have hwa : wfs h.n (args.map (Vm.opd e) ++ caps) := by
              refine wfs_append.2 ⟨wfs_opds c.we (fun z hz => (copWf_mono c.gr.1 hwf).1 z (by simp [COp.opds, hz])), ?_⟩
              have := wf_opd' c.we ((copWf_mono c.gr.1 hwf).1 y (by simp [COp.opds]))
              rw [hx] at this
              exact this
            obtain ⟨how, hcs⟩ := hcall f _ h ρ w _ c.r c.wh c.gr hwa (hvs.append hcr) hno
            refine wp_enter (f := f) (vs := cl.args.map a.eval ++ cs) ?_ (by
              have : ((cl.args.map a.eval).toList ++ cs.toList).toArray = cl.args.map a.eval ++ cs := by
                apply Array.ext'; simp
              rw [this] at hcs; exact hcs) hok hpan
            simp [execOp, hop, resolve, hcl, Deferred.ofValue, hxe, invoke, run_enter how]
          | _ => rw [hx] at hno; exact absurd rfl hno
    · intro hno; exact absurd rfl hno
  · intro hno; exact absurd rfl hno

end
end Go.Vm
