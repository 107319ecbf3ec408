/-
  Calls.
-/
import Derived.Test.YtkjjpmbpjfmbcaaGreatDoorVmExec2
set_option linter.unusedVariables false
set_option linter.unusedSimpArgs false
namespace Go.Vm
section
variable {P : Program} {ρ : Rho} {h : H} {w : World} {e : T V} {a : Act}

theorem erel_envOf : ∀ (l : List V) (vs : List Value) (i : Nat) (e : T V) (tm : Array Value), VRels ρ h l vs → (∀ j, j < i → VRel ρ h (e.get .bot j) (tm.getD j undef)) → (∀ j, i ≤ j → e.get .bot j = .bot) →
    (∀ j v, vs[j]? = some v → tm[i + j]? = some v) → ERel ρ h (envOf l i e) tm
  | [], vs, i, e, tm, _, h1, h2, _ => fun j => by
    simp only [envOf]
    by_cases hj : j < i
    · exact h1 j hj
    · rw [h2 j (by omega)]; exact .bot _
  | v :: l, x :: vs, i, e, tm, .cons hv hl, h1, h2, h3 => by
    simp only [envOf]
    refine erel_envOf l vs (i + 1) _ tm hl ?_ ?_ ?_
    · intro j hj
      rw [T.get_set]
      by_cases hji : j = i
      · subst hji
        rw [if_pos rfl, Array.getD_eq_getD_getElem?]
        have := h3 0 x rfl
        rw [Nat.add_zero] at this
        rw [this]; exact hv
      · rw [if_neg (fun e => hji e.symm)]; exact h1 j (by omega)
    · intro j hj
      rw [T.get_set, if_neg (by omega)]
      exact h2 j (by omega)
    · intro j y hy
      have := h3 (j + 1) y (by simpa using hy)
      rwa [show i + 1 + j = i + (j + 1) by omega]

theorem run_loadVar_ag {t n : Nat} {o i : Nat} {l : List V} {p : Pl} (r : HRel ρ h w) (hp : ρ o = some p) (ha : isAg P t = some true) (hn : sizeAt P t = some n) (hl : loadN h o i n = some l) :
    ∃ vs, (Go.loadVar t ⟨p.B, p.b + i, none⟩).run P w = .ok (.agg vs) w ∧ VRels ρ h l vs.toList := by
  obtain ⟨vs, v1, v2, v3, v4⟩ := load_sim (P := P) r hp hl
  exact ⟨vs.toArray, by simp [Go.loadVar, run_isAg ha, run_sizeAt hn, v3], by simpa using v1⟩

def resultRun (a : Act) : ResultVar → Sem Value
  | .tmp t => pure (a.tmps.getD t undef)
  | .cell b t => do Go.loadVar t (← asAddr (a.tmps.getD b undef))

theorem results_list (c : Cx P ρ h w e a) : ∀ (rs : List ResultVar) (cs : List CR) (l : List V), resOf P rs = some cs → resL e h cs = some l →
    ∃ vs, (rs.mapM (resultRun a) : Sem (List Value)).run P w = .ok vs w ∧ VRels ρ h l vs
  | [], cs, l, h1, h2 => by
    simp only [resOf, Option.some.injEq] at h1; subst h1
    simp only [resL, Option.some.injEq] at h2; subst h2
    exact ⟨[], by simp, .nil⟩
  | .tmp t :: r, cs, l, h1, h2 => by
    simp only [resOf] at h1
    split at h1
    · rename_i cs' hcs
      simp only [Option.some.injEq] at h1; subst h1
      simp only [resL, resV] at h2
      split at h2
      · rename_i v l' hv hl
        simp only [Option.some.injEq] at h2 hv; subst h2 hv
        obtain ⟨vs, q1, q2⟩ := results_list c r cs' l' hcs hl
        exact ⟨_ :: vs, by simp only [List.mapM_cons, resultRun, Sem.run_bind, Sem.run_pure, Result.andThen_ok]; rw [q1]; rfl, .cons (c.er t) q2⟩
      · cases h2
    · cases h1
  | .cell b t :: r, cs, l, h1, h2 => by
    simp only [resOf] at h1
    split at h1
    · rename_i n cs' ha hn hcs
      simp only [Option.some.injEq] at h1; subst h1
      simp only [resL] at h2
      split at h2
      · rename_i v l' hv hl
        simp only [Option.some.injEq] at h2; subst h2
        obtain ⟨vs, q1, q2⟩ := results_list c r cs' l' hcs hl
        simp only [resV] at hv
        split at hv
        · rename_i o j hb
          split at hv
          · rename_i lc hlc
            simp only [Option.some.injEq] at hv; subst hv
            have rx := c.er b
            rw [hb] at rx
            obtain ⟨m, tt, sp, el, fz, hg, _⟩ := loadN_some hlc
            obtain ⟨p, hp, hxe⟩ := vrel_ptr rx (by rw [hg]; simp)
            obtain ⟨xs, x1, x2⟩ := run_loadVar_ag (P := P) c.r hp ha hn hlc
            have ha' : (asAddr (a.tmps.getD b undef)).run P w = .ok ⟨p.B, p.b + j, none⟩ w := by rw [hxe]; rfl
            exact ⟨_ :: vs, by simp only [List.mapM_cons, resultRun, Sem.run_bind, ha', Sem.run_pure, Result.andThen_ok, x1]; rw [q1]; rfl, .cons (.agg x2) q2⟩
          · cases hv
        · cases hv
      · cases h2
    · rename_i n cs' ha hn hcs
      simp only [Option.some.injEq] at h1; subst h1
      simp only [resL] at h2
      split at h2
      · rename_i v l' hv hl
        simp only [Option.some.injEq] at h2; subst h2
        obtain ⟨vs, q1, q2⟩ := results_list c r cs' l' hcs hl
        simp only [resV] at hv
        split at hv
        · rename_i o j hb
          split at hv
          · rename_i v' hlc
            simp only [Option.some.injEq] at hv; subst hv
            have rx := c.er b
            rw [hb] at rx
            obtain ⟨m, tt, sp, el, fz, hg, _⟩ := loadN_some hlc
            obtain ⟨p, hp, hxe⟩ := vrel_ptr rx (by rw [hg]; simp)
            obtain ⟨xs, v1, v2, v3, v4⟩ := load_sim (P := P) c.r hp hlc
            cases v1 with
            | cons hv1 hv2 =>
              rename_i x xs
              have hc := v4 0 x rfl
              rw [Nat.add_zero] at hc
              refine ⟨x :: vs, ?_, .cons hv1 q2⟩
              have ha' : (asAddr (a.tmps.getD b undef)).run P w = .ok ⟨p.B, p.b + j, none⟩ w := by rw [hxe]; rfl
              have x1 : (Go.loadVar t ⟨p.B, p.b + j, none⟩).run P w = .ok x w := by
                simp only [Go.loadVar, Sem.run_bind, run_isAg ha, Result.andThen_ok, Bool.false_eq_true, if_false, run_load, hc]
              simp only [List.mapM_cons, resultRun, Sem.run_bind, ha', Sem.run_pure, Result.andThen_ok, x1]
              rw [q1]; rfl
          · cases hv
        · cases hv
      · cases h2
    · cases h1

theorem results_sim (c : Cx P ρ h w e a) {fn : Func} {cs : List CR} (hcs : resOf P fn.results.toList = some cs) {R : Res} (hr : Vm.results cs e h = R) (hR : R ≠ .no) :
    ∃ v x, R = .ok v h ∧ (Go.results fn a.tmps).run P w = .ok x w ∧ VRel ρ h v x := by
  unfold Vm.results at hr
  split at hr
  · rename_i v hl
    obtain ⟨vs, q1, q2⟩ := results_list c _ cs _ hcs hl
    cases q2 with
    | cons hv hn =>
      cases hn
      rename_i x
      refine ⟨v, x, hr.symm, ?_, hv⟩
      have hdef : Go.results fn a.tmps = (do let vs ← fn.results.mapM (resultRun a); pure (if h : vs.size = 1 then vs[0] else .tuple vs)) := rfl
      rw [hdef]
      simp only [Array.mapM_eq_mapM_toList, Sem.run_bind, Sem.run_map]
      rw [q1]
      rfl
  · rename_i l hne hl
    obtain ⟨vs, q1, q2⟩ := results_list c _ cs _ hcs hl
    refine ⟨.tup l, .tuple vs.toArray, hr.symm, ?_, .tup (by simpa using q2)⟩
    have hdef : Go.results fn a.tmps = (do let vs ← fn.results.mapM (resultRun a); pure (if h : vs.size = 1 then vs[0] else .tuple vs)) := rfl
    rw [hdef]
    simp only [Array.mapM_eq_mapM_toList, Sem.run_bind, Sem.run_map]
    rw [q1]
    have hlen := q2.length
    have : ¬ vs.toArray.size = 1 := by
      intro h1
      have h1 : vs.length = 1 := by simpa using h1
      rw [hlen] at h1
      match l, h1 with
      | [v], _ => exact hne v rfl
    simp only [Result.andThen_ok, Sem.run_pure, this, dif_neg, not_false_eq_true]
  · exact absurd hr.symm hR

theorem fnOf_some {f : Nat} {c : CFn} (hc : fnOf P f = some c) : ∃ fn b, P.funcs[f]? = some fn ∧ fn.body = some b ∧ fn.name ≠ "runtime.NumGoroutine" ∧ resOf P fn.results.toList = some c.res ∧ c.nt = fn.ntmps ∧ c.body = codeOf P b := by
  unfold fnOf at hc
  split at hc
  · cases hc
  · rename_i fn hf
    split at hc
    · cases hc
    · rename_i b hb
      split at hc
      · cases hc
      · rename_i hn
        split at hc
        · rename_i r hr
          simp only [Option.some.injEq] at hc; subst hc
          exact ⟨fn, b, hf, hb, hn, hr, rfl, rfl⟩
        · cases hc

theorem cisWf_of {ops : Array Oper} : ∀ (l : List Oper) (cs : List CI), cisOf P ops l = some cs → cisWf P.globals.size cs
  | [], cs, h => by simp only [cisOf, Option.some.injEq] at h; subst h; intro i hi; cases hi
  | o :: r, cs, h => by
    simp only [cisOf] at h
    split at h
    · rename_i c l hc hl
      simp only [Option.some.injEq] at h; subst h
      intro i hi
      rcases List.mem_cons.1 hi with rfl | hi
      · rw [(ciOf_some hc).2.1]; exact copAt_wf P o
      · exact cisWf_of r l hl i hi
    · cases h

theorem drawOf_some {ops : Array Oper} {m : Nat} {al ord : List Nat} {l : List CI} (hd : drawOf P ops = some (m, al, ord, l)) : cisOf P ops (ordered ops ord) = some l ∧ drawOk ops ord m al l = true := by
  unfold drawOf at hd
  simp only at hd
  split at hd
  · rename_i r hr
    simp only [Option.some.injEq] at hd
    subst hd
    split at hr
    · rename_i l' hl
      split at hr
      · rename_i hok
        simp only [Option.some.injEq, Prod.mk.injEq] at hr
        obtain ⟨rfl, rfl, rfl, rfl⟩ := hr
        exact ⟨hl, hok⟩
      · cases hr
    · cases hr
  · split at hd
    · rename_i l' hl
      split at hd
      · rename_i hok
        simp only [Option.some.injEq, Prod.mk.injEq] at hd
        obtain ⟨rfl, rfl, rfl, rfl⟩ := hd
        exact ⟨hl, hok⟩
      · cases hd
    · cases hd

theorem codeOf_wf (P : Program) (c : Code) : ccWf P.globals.size (codeOf P c) := by
  induction c with
  | region id ops d =>
    simp only [codeOf]
    split
    · split
      · rename_i hd
        exact cisWf_of _ _ (drawOf_some hd).1
      · trivial
    · split
      · exact cisWf_of _ _ (by assumption)
      · trivial
  | seq a b iha ihb => exact ⟨iha, ihb⟩
  | cond c a b iha ihb =>
    simp only [codeOf]
    split
    · exact ⟨iha, ihb⟩
    · trivial
  | block id b ih => exact ih
  | loop b ih => exact ih
  | scope b ih => exact ih
  | _ => trivial

/-- a table of the program's functions: compiled -/
def Tab (P : Program) (tab : Nat → Option CFn) : Prop := ∀ f c, tab f = some c → fnOf P f = some c

theorem tab_good {tab : Nat → Option CFn} (ht : Tab P tab) (n : Nat) : CallGood P.globals.size (Vm.call tab n) :=
  call_good (fun f c hc => by
    obtain ⟨fn, b, _, _, _, _, _, h7⟩ := fnOf_some (ht f c hc)
    rw [h7]; exact codeOf_wf P b) n

theorem call_sound {tab : Nat → Option CFn} (ht : Tab P tab) (hdraw : ∀ call, CallGood P.globals.size call → CallSim P call → DrawSim P call) : ∀ n, CallSim P (Vm.call tab n)
  | 0 => fun f args h ρ w vs _ _ _ _ _ hno => absurd rfl hno
  | n + 1 => by
    intro f args h ρ w vs r wh g hwa hvs hno
    have hgood := tab_good ht n
    have hcall := call_sound ht hdraw n
    have hd := hdraw _ hgood hcall
    generalize hR : Vm.call tab (n + 1) f args h = R at hno ⊢
    simp only [Vm.call] at hR
    split at hR
    · exact absurd hR.symm hno
    · rename_i c hc
      obtain ⟨fn, b, h1, h2, h3, h4, h5, h6⟩ := fnOf_some (ht f c hc)
      split at hR
      · rename_i hlen
        refine ⟨⟨fn, h1, h3, by rw [h2]; rfl⟩, calls_of_wp h1 h2 ?_⟩
        have hvl := hvs.length
        have hsz : (vs.toArray ++ Array.replicate (fn.ntmps - vs.toArray.size) undef).size = c.nt := by
          simp; omega
        have her : ERel ρ h (envOf args 0 .lf) (vs.toArray ++ Array.replicate (fn.ntmps - vs.toArray.size) undef) := by
          refine erel_envOf args vs 0 .lf _ hvs (fun j hj => by omega) (fun j _ => T.get_lf _ _) ?_
          intro j v hv
          have hj : j < vs.length := (List.getElem?_eq_some_iff.1 hv).1
          rw [Nat.zero_add, Array.getElem?_append_left (by simpa using hj)]
          simpa using hv
        have hcx : Cx P ρ h w (envOf args 0 .lf) { tmps := vs.toArray ++ Array.replicate (fn.ntmps - vs.toArray.size) undef, defers := [] } :=
          ⟨r, wh, wfe_envOf args 0 _ hwa (fun i => by rw [T.get_lf]; trivial), her, g⟩
        rw [h6] at hR
        have hwp := exec_sound (P := P) (nt := c.nt) (ds := []) (fuel := n) hgood hcall hd b ρ h w (envOf args 0 .lf) _ R _ [] _ hno ⟨hcx, .refl r, hsz, rfl⟩ hR
        refine wp_mono hwp ?_
        intro ex a1 w1 hq
        cases ex with
        | normal =>
          obtain ⟨ρ1, h1', e1, s1, hk⟩ := hq
          obtain ⟨v, x, hRe, hrun, hv⟩ := results_sim s1.cx h4 hk hno
          refine ⟨s1.df, x, hrun, ?_⟩
          rw [hRe]
          exact ⟨ρ1, hv, s1.post⟩
        | ret =>
          obtain ⟨ρ1, h1', e1, s1, hk⟩ := hq
          obtain ⟨v, x, hRe, hrun, hv⟩ := results_sim s1.cx h4 hk hno
          refine ⟨s1.df, x, hrun, ?_⟩
          rw [hRe]
          exact ⟨ρ1, hv, s1.post⟩
        | exit id =>
          obtain ⟨ρ1, h1', e1, k', s1, hl, hk⟩ := hq
          cases hl
        | panic ch =>
          obtain ⟨v, y, ρ1, h1', hRe, hch, hv, hpo, hdf⟩ := hq
          refine ⟨hdf, ?_⟩
          rw [hRe]
          exact ⟨y, ρ1, hch, hv, hpo⟩
        | goto l => exact hq.elim
        | outgrown => exact hq.elim
      · exact absurd hR.symm hno

end
end Go.Vm
