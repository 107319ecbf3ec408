/-
  Each operation of the model does what the evaluator says: comparisons, iterators, what has no Go body.
-/
import Derived.Test.YtkjjpmbpjfmbcaaGreatDoorVmOps7
import Derived.LaidEql
set_option linter.unusedVariables false
set_option linter.unusedSimpArgs false
namespace Go.Vm
section
variable {P : Program} {ρ : Rho} {h : H} {w : World} {e : T V} {a : Act} {o : Oper}

theorem run_equalIn_of {d : Nat} {t : TypeId} {u : TypeDesc} (hu : P.underlying t = some u) (x y : Value) (b : Bool) (w : World)
    (hb : match u, x, y with
      | .bool, .bool p, .bool q => b = (p == q)
      | .pointer _, .pointer none, .pointer q => b = q.isNone
      | .pointer _, .pointer (some _), .pointer none => b = false
      | .slice _, .slice none _ _, .slice q _ _ => b = q.isNone
      | .slice _, .slice (some _) _ _, .slice none _ _ => b = false
      | .func _ _ _, .nilFunc, .nilFunc => b = true
      | .func _ _ _, .nilFunc, .func _ _ _ => b = false
      | .func _ _ _, .func _ _ _, .nilFunc => b = false
      | .interface _, .nilIface, .nilIface => b = true
      | .interface _, .nilIface, .iface _ _ => b = false
      | .interface _, .iface _ _, .nilIface => b = false
      | _, _, _ => False) : (Op.equalIn (d + 1) t x y).run P w = .ok b w := by
  unfold Op.equalIn
  simp only [Sem.run_bind, run_underlying hu, Result.andThen_ok]
  split at hb <;> first | (subst hb; rfl) | exact hb.elim

theorem run_equal_of {t : TypeId} {x y : Value} {b : Bool} {w : World} (h1 : ∀ d, (Op.equalIn (d + 1) t x y).run P w = .ok b w) : (Op.equal t x y).run P w = .ok b w := by
  have : Op.equal t x y = Op.equalIn (9999 + 1) t x y := rfl
  rw [this]; exact h1 9999

/-- neither two numbers nor two texts -/
def Other (u v : Value) : Prop := match u, v with
  | .int _ _, .int _ _ => False
  | .float _ _, .float _ _ => False
  | .complex _ _ _, .complex _ _ _ => False
  | .string _, .string _ => False
  | _, _ => True

theorem run_binEq (neg : Bool) {t : TypeId} {x y : Value} {b : Bool} {w : World} (h1 : (Op.equal t x y).run P w = .ok b w)
    (hx : Other x y) :
    (binOp (if neg then .neq else .eql) t x y).run P w = .ok (.bool (b != neg)) w := by
  cases neg
  · simp only [Bool.false_eq_true, if_false]
    have : binOp .eql t x y = (do pure (.bool (← Op.equal t x y))) := by
      unfold Other at hx
      unfold binOp
      split <;> simp_all
    rw [this]
    simp [h1]
  · simp only [if_true]
    have : binOp .neq t x y = (do pure (.bool (!(← Op.equal t x y)))) := by
      unfold Other at hx
      unfold binOp
      split <;> simp_all
    rw [this]
    simp [h1]

theorem run_sameAddr_same {B i j : Nat} (w : World) : (sameAddr ⟨B, i, none⟩ ⟨B, j, none⟩).run P w = .ok (i == j) w := by
  have hd : decide ((⟨B, i, none⟩ : Addr) = ⟨B, j, none⟩) = (i == j) := by
    rw [Bool.eq_iff_iff]; simp
  unfold sameAddr
  simp only [beq_self_eq_true, if_true, Sem.run_pure]
  congr 1

theorem frozen_free {w : World} {B j : Nat} {cs : Array Value} {el : TypeId} {fr : Nat × Nat} (hb : w.heap[B]? = some (.cells cs el fr)) (hj : fr.2 ≤ j) : w.frozen? ⟨B, j, none⟩ = false := by
  obtain ⟨lo, hi⟩ := fr
  simp only [World.frozen?, hb, Bool.and_eq_false_iff, decide_eq_false_iff_not]
  right; simp only at hj; omega

theorem run_sameAddr_diff {B B' i j : Nat} {w : World} {cs cs' : Array Value} {el el' : TypeId} {fr fr' : Nat × Nat} (hne : B ≠ B') (hb : w.heap[B]? = some (.cells cs el fr)) (hb' : w.heap[B']? = some (.cells cs' el' fr'))
    (h1 : fr.2 ≤ i) (h2 : fr.2 ≤ cs.size) (h3 : fr'.2 ≤ j) (h4 : fr'.2 ≤ cs'.size) : (sameAddr ⟨B, i, none⟩ ⟨B', j, none⟩).run P w = .ok false w := by
  have hbe : (B == B') = false := by simpa using hne
  have s1 : w.shape? B = some (el, cs.size) := by simp [World.shape?, hb]
  have s2 : w.shape? B' = some (el', cs'.size) := by simp [World.shape?, hb']
  have f1 := frozen_free hb h1
  have f2 := frozen_free hb' h3
  have f3 := frozen_free hb h2
  have f4 := frozen_free hb' h4
  have st1 : (stringish ⟨B, i, none⟩).run P w = .ok false w := by
    simp [stringish, f1, s1, f3]
  have st2 : (stringish ⟨B', j, none⟩).run P w = .ok false w := by
    simp [stringish, f2, s2, f4]
  have nv1 : (noView ⟨B, i, none⟩).run P w = .ok () w := by simp [noView, viewAt, s1]
  have nv2 : (noView ⟨B', j, none⟩).run P w = .ok () w := by simp [noView, viewAt, s2]
  have mb : (mayBeOne ⟨B, i, none⟩ ⟨B', j, none⟩).run P w = .ok false w := by
    simp [mayBeOne, st1, st2, s1, s2]
  unfold sameAddr
  simp [hbe, f1, nv1, nv2, mb]

theorem run_eqGuard_nil (op : BinOp) (t : TypeId) (x y : Operand) (ms : Array (String × TypeId)) (w : World) (hu : P.underlying t = some (.interface ms)) (hc : (isC x || isC y || ms.isEmpty) = true) : (eqGuard op t x y .nilIface .nilIface).run P w = .ok () w := by
  have hin : (Op.eqGuardIn Op.maxDepth t .nilIface .nilIface).run P w = .ok (!ms.isEmpty) w := by
    have : Op.eqGuardIn Op.maxDepth t .nilIface .nilIface = Op.eqGuardIn (9999 + 1) t .nilIface .nilIface := rfl
    rw [this]
    unfold Op.eqGuardIn
    simp [run_underlying hu]
  unfold eqGuard
  cases op <;> first
    | rfl
    | (simp only [Bool.not_true, Bool.false_eq_true, if_false, Sem.run_ite, Sem.run_bind, hin, Result.andThen_ok]
       cases x <;> cases y <;> simp_all [isC])

theorem run_eqGuard_other (op : BinOp) (t : TypeId) (x y : Operand) (u v : Value) (w : World) (h1 : ∀ cs, u ≠ .agg cs) (h2 : u ≠ .nilIface ∨ v ≠ .nilIface) : (eqGuard op t x y u v).run P w = .ok () w := by
  unfold eqGuard
  cases op <;> (first | rfl | (simp only [Bool.not_true, Bool.false_eq_true, if_false]; split <;> first | exact absurd rfl (h1 _) | (rcases h2 with h2 | h2 <;> exact absurd rfl h2) | rfl))

theorem sim_eq (c : Cx P ρ h w e a) {t yt : Nat} {x y : Operand} {x' y' : Opd} {k : EqK} {neg : Bool} (hop : o.op = .binOp (if neg then .neq else .eql) t x y yt) (hk : eqKind P t (isC x || isC y) = some k) (hx : opdOf P x = some x') (hy : opdOf P y = some y')
    {v : V} {h' : H} (hs : sEq h k neg (Vm.opd e x') (Vm.opd e y') = .ok v h') : OpSim P ρ h w a o v h' := by
  have rx := c.opd hx
  have ry := c.opd hy
  unfold sEq at hs
  split at hs
  · rename_i r hr
    injection hs with e1 e2; subst e1 e2
    have fin : ∀ u u', a.eval x = u → a.eval y = u' → (eqGuard (if neg then .neq else .eql) t x y u u').run P w = .ok () w → (Op.equal t u u').run P w = .ok r w →
        Other u u' → OpSim P ρ h w a o (.bool (r != neg)) h := by
      intro u u' hu hu' hg he hm
      refine opsim_val (v' := .bool (r != neg)) c.r ?_ (.bool _)
      simp [execOp, hop, hu, hu', hg, run_binEq neg he hm]
    have dead : ∀ {q : Nat}, (if alive h q = true then some false else none : Option Bool) = some r → h.get q ≠ .dead ∧ r = false := by
      intro q hq
      split at hq
      · rename_i hal; simp only [Option.some.injEq] at hq; exact ⟨alive_ne hal, hq.symm⟩
      · cases hq
    unfold eqKind at hk
    split at hk
    · -- bool
      rename_i hu
      simp only [Option.some.injEq] at hk; subst hk
      unfold eqOf at hr
      split at hr <;> try (exfalso; simp_all; done)
      · rename_i p q e1 e2 e3
        simp only [Option.some.injEq] at hr; subst hr
        rw [e2] at rx; rw [e3] at ry
        exact fin _ _ (vrel_bool rx) (vrel_bool ry) (run_eqGuard_other _ _ _ _ _ _ _ (by simp) (.inl (by simp))) (run_equal_of fun d => run_equalIn_of hu _ _ _ _ rfl) trivial
    · -- pointer
      rename_i el hu
      split at hk
      · rename_i n hsz
        simp only [Option.some.injEq] at hk; subst hk
        unfold eqOf at hr
        split at hr <;> try (exfalso; simp_all; done)
        · rename_i e1 e2 e3
          rw [e2] at rx; rw [e3] at ry
          simp only [Option.some.injEq] at hr; subst hr
          exact fin _ _ (vrel_nil rx) (vrel_nil ry) (run_eqGuard_other _ _ _ _ _ _ _ (by simp) (.inl (by simp))) (run_equal_of fun d => run_equalIn_of hu _ _ _ _ rfl) trivial
        · rename_i q i e1 e2 e3
          rw [e2] at rx; rw [e3] at ry
          obtain ⟨hal, rfl⟩ := dead hr
          obtain ⟨p, hp, hye⟩ := vrel_ptr ry hal
          exact fin _ _ (vrel_nil rx) hye (run_eqGuard_other _ _ _ _ _ _ _ (by simp) (.inl (by simp))) (run_equal_of fun d => run_equalIn_of hu _ _ _ _ rfl) trivial
        · rename_i q i e1 e2 e3
          rw [e2] at rx; rw [e3] at ry
          obtain ⟨hal, rfl⟩ := dead hr
          obtain ⟨p, hp, hxe⟩ := vrel_ptr rx hal
          exact fin _ _ hxe (vrel_nil ry) (run_eqGuard_other _ _ _ _ _ _ _ (by simp) (.inl (by simp))) (run_equal_of fun d => run_equalIn_of hu _ _ _ _ rfl) trivial
        · rename_i q i q2 j e1 e2 e3
          rw [e2] at rx; rw [e3] at ry
          split at hr
          · rename_i hal
            simp only [Bool.and_eq_true] at hal
            obtain ⟨p, hp, hxe⟩ := vrel_ptr rx (alive_ne hal.1)
            obtain ⟨p2, hp2, hye⟩ := vrel_ptr ry (alive_ne hal.2)
            have hsame : ∀ d, (Op.equalIn (d + 1) t (.pointer (some ⟨p.B, p.b + i, none⟩)) (.pointer (some ⟨p2.B, p2.b + j, none⟩))).run P w = (sameAddr ⟨p.B, p.b + i, none⟩ ⟨p2.B, p2.b + j, none⟩).run P w := by
              intro d
              unfold Op.equalIn
              simp [run_underlying hu, run_sizeAt hsz]
            have hfin : (sameAddr ⟨p.B, p.b + i, none⟩ ⟨p2.B, p2.b + j, none⟩).run P w = .ok r w := by
              unfold ptrEq at hr
              split at hr
              · rename_i hqq
                subst hqq
                rw [hp, Option.some.injEq] at hp2
                subst hp2
                simp only [Option.some.injEq] at hr
                rw [run_sameAddr_same, ← hr]
                congr 1
                rw [Bool.eq_iff_iff]; simp
              · rename_i hqq
                split at hr
                · rename_i n1 t1 s1 l1 n2 t2 s2 l2 g1 g2
                  simp only [Option.some.injEq] at hr; subst hr
                  have o1 := c.r.obj _ _ hp
                  have o2 := c.r.obj _ _ hp2
                  rw [g1] at o1; rw [g2] at o2
                  obtain ⟨cs, fr, b1, b2, b3, _, _, b6⟩ := o1
                  obtain ⟨cs', fr', d1, d2, d3, _, _, d6⟩ := o2
                  have b6' : fr.2 ≤ p.b + 0 := b6
                  have d6' : fr'.2 ≤ p2.b + 0 := d6
                  exact run_sameAddr_diff (fun hB => hqq (c.r.inj _ _ _ _ hp hp2 hB)) b1 d1 (by omega) (by omega) (by omega) (by omega)
                · cases hr
            exact fin _ _ hxe hye (run_eqGuard_other _ _ _ _ _ _ _ (by simp) (.inl (by simp))) (run_equal_of fun d => by rw [hsame d]; exact hfin) trivial
          · cases hr
      · cases hk
    · -- slice
      rename_i el hu
      simp only [Option.some.injEq] at hk; subst hk
      unfold eqOf at hr
      split at hr <;> try (exfalso; simp_all; done)
      · rename_i e1 e2 e3
        rw [e2] at rx; rw [e3] at ry
        simp only [Option.some.injEq] at hr; subst hr
        exact fin _ _ (vrel_nils rx) (vrel_nils ry) (run_eqGuard_other _ _ _ _ _ _ _ (by simp) (.inl (by simp))) (run_equal_of fun d => run_equalIn_of hu _ _ _ _ rfl) trivial
      · rename_i e1 e2 e3
        rw [e2] at rx; rw [e3] at ry
        obtain ⟨hal, rfl⟩ := dead hr
        obtain ⟨p, ad, c', hp, hye, _⟩ := vrel_sl ry hal
        exact fin _ _ (vrel_nils rx) hye (run_eqGuard_other _ _ _ _ _ _ _ (by simp) (.inl (by simp))) (run_equal_of fun d => run_equalIn_of hu _ _ _ _ rfl) trivial
      · rename_i e1 e2 e3
        rw [e2] at rx; rw [e3] at ry
        obtain ⟨hal, rfl⟩ := dead hr
        obtain ⟨p, ad, c', hp, hxe, _⟩ := vrel_sl rx hal
        exact fin _ _ hxe (vrel_nils ry) (run_eqGuard_other _ _ _ _ _ _ _ (by simp) (.inl (by simp))) (run_equal_of fun d => run_equalIn_of hu _ _ _ _ rfl) trivial
    · -- func
      rename_i hu
      simp only [Option.some.injEq] at hk; subst hk
      unfold eqOf at hr
      split at hr <;> try (exfalso; simp_all; done)
      · rename_i e1 e2 e3
        rw [e2] at rx; rw [e3] at ry
        simp only [Option.some.injEq] at hr; subst hr
        exact fin _ _ (vrel_nilf rx) (vrel_nilf ry) (run_eqGuard_other _ _ _ _ _ _ _ (by simp) (.inl (by simp))) (run_equal_of fun d => run_equalIn_of hu _ _ _ _ rfl) trivial
      · rename_i e1 e2 e3
        rw [e2] at rx; rw [e3] at ry
        simp only [Option.some.injEq] at hr; subst hr
        obtain ⟨cs, hye, _⟩ := vrel_fn ry
        exact fin _ _ (vrel_nilf rx) hye (run_eqGuard_other _ _ _ _ _ _ _ (by simp) (.inl (by simp))) (run_equal_of fun d => run_equalIn_of hu _ _ _ _ rfl) trivial
      · rename_i e1 e2 e3
        rw [e2] at rx; rw [e3] at ry
        simp only [Option.some.injEq] at hr; subst hr
        obtain ⟨cs, hxe, _⟩ := vrel_fn rx
        exact fin _ _ hxe (vrel_nilf ry) (run_eqGuard_other _ _ _ _ _ _ _ (by simp) (.inl (by simp))) (run_equal_of fun d => run_equalIn_of hu _ _ _ _ rfl) trivial
    · -- interface
      rename_i ms hu
      simp only [Option.some.injEq] at hk; subst hk
      unfold eqOf at hr
      split at hr <;> try (exfalso; simp_all; done)
      · rename_i cc e1 e2 e3
        rw [e2] at rx; rw [e3] at ry
        injection e1 with e1
        split at hr
        · rename_i hcc
          simp only [Option.some.injEq] at hr; subst hr
          exact fin _ _ (vrel_nili rx) (vrel_nili ry) (run_eqGuard_nil _ _ _ _ ms _ hu (by rw [e1]; exact hcc)) (run_equal_of fun d => run_equalIn_of hu _ _ _ _ rfl) trivial
        · cases hr
      · rename_i e1 e2 e3
        rw [e2] at rx; rw [e3] at ry
        simp only [Option.some.injEq] at hr; subst hr
        obtain ⟨z, hye, _⟩ := vrel_ifc ry
        exact fin _ _ (vrel_nili rx) hye (run_eqGuard_other _ _ _ _ _ _ _ (by simp) (.inr (by simp))) (run_equal_of fun d => run_equalIn_of hu _ _ _ _ rfl) trivial
      · rename_i e1 e2 e3
        rw [e2] at rx; rw [e3] at ry
        simp only [Option.some.injEq] at hr; subst hr
        obtain ⟨z, hxe, _⟩ := vrel_ifc rx
        exact fin _ _ hxe (vrel_nili ry) (run_eqGuard_other _ _ _ _ _ _ _ (by simp) (.inl (by simp))) (run_equal_of fun d => run_equalIn_of hu _ _ _ _ rfl) trivial
    · cases hk
  · cases hs

end
end Go.Vm
