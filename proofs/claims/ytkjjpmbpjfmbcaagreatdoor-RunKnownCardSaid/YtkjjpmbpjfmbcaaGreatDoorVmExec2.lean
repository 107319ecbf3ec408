/-
  Code and calls.
-/
import Derived.Test.YtkjjpmbpjfmbcaaGreatDoorVmExec1
set_option linter.unusedVariables false
set_option linter.unusedSimpArgs false
namespace Go.Vm

/-- where a run of a function's text stands, after it began at (ρ0, h0, w0) -/
structure St (P : Program) (nt : Nat) (ds : List Deferred) (ρ0 : Rho) (h0 : H) (w0 : World) (ρ : Rho) (h : H) (w : World) (e : T V) (a : Act) : Prop where
  cx : Cx P ρ h w e a
  post : Post ρ0 h0 w0 ρ h w
  sz : a.tmps.size = nt
  df : a.defers = ds

section
variable {P : Program} {nt : Nat} {ds : List Deferred} {ρ0 : Rho} {h0 : H} {w0 : World} {ρ : Rho} {h : H} {w : World} {e : T V} {a : Act} {call : Nat → List V → H → Res} {fuel : Nat}

theorem St.put (s : St P nt ds ρ0 h0 w0 ρ h w e a) {v : V} {x : Value} {ρ' : Rho} {h' : H} {w' : World} (hv : VRel ρ' h' v x) (p : Post ρ h w ρ' h' w') (wh : wfh h') (wv : wf h'.n v) (d : Option Nat) :
    St P nt ds ρ0 h0 w0 ρ' h' w' (Vm.put nt e d v) (a.put d x) :=
  ⟨(s.cx.post p wh).put s.sz hv wv d, s.post.trans p, (put_size d x).trans s.sz, (put_defers d x).trans s.df⟩

theorem put_size' (d : Option Nat) (x : Value) : (a.put d x).tmps.size = a.tmps.size := put_size d x

/-- an operation's guard -/
structure GRelOf (ops : Array Oper) (o : Oper) (g : Option (Nat × Bool)) : Prop where
  none : o.guard = none → g = none
  some : ∀ j b, o.guard = some (j, b) → ∃ p d, ops[j]? = some p ∧ p.dst = some d ∧ g = some (d, b)

theorem ciOf_some {ops : Array Oper} {o : Oper} {i : CI} (hc : ciOf P ops o = some i) : i.dst = o.dst ∧ i.op = copAt P o ∧ GRelOf ops o i.g := by
  unfold ciOf at hc
  split at hc
  · rename_i hg
    simp only [Option.some.injEq] at hc; subst hc
    exact ⟨rfl, rfl, ⟨fun _ => rfl, fun j b h => by rw [hg] at h; cases h⟩⟩
  · rename_i j b hg
    split at hc
    · rename_i p hp
      split at hc
      · rename_i d hd
        simp only [Option.some.injEq] at hc; subst hc
        refine ⟨rfl, rfl, ⟨fun h => (by rw [hg] at h; cases h), fun j' b' h => ?_⟩⟩
        rw [hg] at h
        simp only [Option.some.injEq, Prod.mk.injEq] at h
        obtain ⟨rfl, rfl⟩ := h
        exact ⟨p, d, hp, hd, rfl⟩
      · cases hc
    · cases hc

theorem wanted_rel {ops : Array Oper} {o : Oper} {g : Option (Nat × Bool)} (hg : GRelOf ops o g) (er : ERel ρ h e a.tmps) (hk : known e g = true) : Region.wanted o (yielded ops a.tmps) = want e g := by
  unfold Region.wanted
  cases hgu : o.guard with
  | none => rw [hg.none hgu]; rfl
  | some jb =>
    obtain ⟨j, b⟩ := jb
    obtain ⟨p, d, hp, hd, rfl⟩ := hg.some j b hgu
    have r := er d
    simp only [known] at hk
    simp only [want, yielded, hp, Option.bind_some, hd]
    rw [Array.getD_eq_getD_getElem?] at r
    cases hv : T.get .bot e d with
    | bool t =>
      rw [hv] at r
      have := vrel_bool r
      cases hx : a.tmps[d]? with
      | none => rw [hx] at this; cases this
      | some x =>
        rw [hx] at this
        simp only [Option.getD_some] at this
        subst this
        cases t <;> cases b <;> rfl
    | tup l =>
      rw [hv] at r
      obtain ⟨cs, hcs, _⟩ := vrel_tup r
      cases hx : a.tmps[d]? with
      | none => rfl
      | some x =>
        rw [hx] at hcs
        simp only [Option.getD_some] at hcs
        subst hcs
        rfl
    | _ => rw [hv] at hk; cases hk

theorem undef_rel : VRel ρ h (.tup []) undef := .tup .nil

/-- the operations of a region, in an order -/
theorem ops_sound (hgood : CallGood P.globals.size call) (hcall : CallSim P call) {ops : Array Oper} {Q : Exit → Act → World → Prop} {k : K} {R : Res} (hR : R ≠ .no)
    (hn : ∀ ρ h w e a, St P nt ds ρ0 h0 w0 ρ h w e a → k e h = R → Q .normal a w)
    (hp : ∀ v x ρ h w a, R = .pan v h → VRel ρ h v x → Post ρ0 h0 w0 ρ h w → a.defers = ds → Q (.panic [{ v := x, recovered := false }]) a w) :
    ∀ (idx : List Nat) (l : List CI) (ρ : Rho) (h : H) (w : World) (e : T V) (a : Act), (∀ i ∈ idx, i < ops.size) → cisOf P ops (idx.map fun i => ops.getD i default) = some l →
      St P nt ds ρ0 h0 w0 ρ h w e a → runOps call nt l e h k = R → wpOps P ops Q idx a w
  | [], l, ρ, h, w, e, a, _, hl, s, hr => by
    simp only [List.map_nil, cisOf, Option.some.injEq] at hl
    subst hl
    exact hn ρ h w e a s hr
  | i :: idx, l, ρ, h, w, e, a, hidx, hl, s, hr => by
    have hi : i < ops.size := hidx i (by simp)
    have hget : ops[i]? = some (ops.getD i default) := by
      rw [Array.getD_eq_getD_getElem?, Array.getElem?_eq_getElem hi]; rfl
    simp only [List.map_cons, cisOf] at hl
    generalize ops.getD i default = o at hget hl
    split at hl
    · rename_i c l' hci hcis
      simp only [Option.some.injEq] at hl
      subst hl
      have hgo : cisOf P ops (idx.map fun i => ops.getD i default) = some l' := hcis
      obtain ⟨e1, e2, e3⟩ := ciOf_some hci
      have IH := fun ρ h w e a => ops_sound hgood hcall hR hn hp idx l' ρ h w e a (fun j hj => hidx j (by simp [hj])) hgo
      simp only [runOps] at hr
      simp only [wpOps, hget]
      split at hr
      · exact absurd hr.symm hR
      · rename_i hk
        have hk : known e c.g = true := by simpa using hk
        rw [wanted_rel e3 s.cx.er hk]
        split at hr
        · rename_i hw
          rw [if_pos hw]
          refine .inl ?_
          have hgd := step_good hgood s.cx.gr.1 s.cx.wh s.cx.we (c := c.op) (by rw [e2]; exact copWf_mono s.cx.gr.1 (copAt_wf P o))
          rw [e2] at hr hgd
          refine op_wp hcall s.cx ?_ ?_ ?_
          · intro hno
            rw [hno] at hr
            exact hR hr.symm
          · intro v h' x w' ρ' hst hv hpo
            rw [hst] at hr hgd
            have := IH ρ' h' w' _ _ (s.put hv hpo hgd.2.1 hgd.2.2 c.dst) hr
            rwa [e1] at this
          · intro v h' x w' ρ' hst hv hpo
            rw [hst] at hr
            exact hp v x ρ' h' w' a hr.symm hv (s.post.trans hpo) s.df
        · rename_i hw
          rw [if_neg hw]
          have := IH ρ h w _ _ (s.put (undef_rel) (.refl s.cx.r) s.cx.wh trivial c.dst) hr
          rwa [e1] at this
    · cases hl

/-- how code ends, where the whole run comes to R -/
def Ex (P : Program) (nt : Nat) (ds : List Deferred) (ρ0 : Rho) (h0 : H) (w0 : World) (R : Res) (rk : K) (x : List (Nat × K)) (k : K) : Exit → Act → World → Prop
  | .normal, a, w => ∃ ρ h e, St P nt ds ρ0 h0 w0 ρ h w e a ∧ k e h = R
  | .ret, a, w => ∃ ρ h e, St P nt ds ρ0 h0 w0 ρ h w e a ∧ rk e h = R
  | .exit id, a, w => ∃ ρ h e k', St P nt ds ρ0 h0 w0 ρ h w e a ∧ look id x = some k' ∧ k' e h = R
  | .panic ch, a, w => ∃ v y ρ h, R = .pan v h ∧ ch = [{ v := y, recovered := false }] ∧ VRel ρ h v y ∧ Post ρ0 h0 w0 ρ h w ∧ a.defers = ds
  | _, _, _ => False

/-- what a region whose order is open comes to -/
def DrawSim (P : Program) (call : Nat → List V → H → Res) : Prop :=
  ∀ (id : Nat) (ops : Array Oper) (m : Nat) (al ord : List Nat) (l : List CI), drawOf P ops = some (m, al, ord, l) →
    ∀ (nt : Nat) (ds : List Deferred) (ρ0 : Rho) (h0 : H) (w0 : World) (ρ : Rho) (h : H) (w : World) (e : T V) (a : Act) (R : Res) (rk : K) (x : List (Nat × K)) (k : K), R ≠ .no →
      St P nt ds ρ0 h0 w0 ρ h w e a → runDraw call nt al l m e h k = R → (Code.region id ops true).wp P (Ex P nt ds ρ0 h0 w0 R rk x k) a w

theorem wp_loop_n {c : Code} {Q : Exit → Act → World → Prop} (J : Nat → Act → World → Prop) {n : Nat} {a : Act} {w : World} (hj : J n a w)
    (round : ∀ n a w, J n a w → c.wp P (Exit.then (fun a' w' => ∃ m, m < n ∧ J m a' w') Q) a w) : (Code.loop c).wp P Q a w := by
  intro b k cs
  have key : ∀ n a w, J n a w → ∃ e a' w', Q e a' w' ∧ Arrives P (lone (b.at a (.code c :: .inLoop c :: k)) cs w) b k cs e a' w' := by
    intro n
    induction n using Nat.strongRecOn with
    | _ n ih =>
      intro a w hI
      obtain ⟨e, a₁, w₁, hq, harr⟩ := round n a w hI b (.inLoop c :: k) cs
      cases e with
      | normal =>
        obtain ⟨m, hlt, hI₁⟩ := hq
        obtain ⟨e₂, a₂, w₂, hq₂, harr₂⟩ := ih m hlt a₁ w₁ hI₁
        exact ⟨e₂, a₂, w₂, hq₂, .of_steps (Steps.trans harr (.one step_inLoop)) harr₂⟩
      | exit id => exact ⟨_, a₁, w₁, hq, .pass (x := .inLoop c) rfl (fun _ _ => .inl (by simp)) harr⟩
      | goto l => exact ⟨_, a₁, w₁, hq, .pass (x := .inLoop c) rfl (fun _ _ => .inl (by simp)) harr⟩
      | ret => exact ⟨_, a₁, w₁, hq, .pass (x := .inLoop c) rfl (fun _ _ => .inl (by simp)) harr⟩
      | panic ch => exact ⟨_, a₁, w₁, hq, .pass (x := .inLoop c) rfl (fun _ _ => .inl (by simp)) harr⟩
      | outgrown => exact ⟨_, a₁, w₁, hq, .pass (x := .inLoop c) rfl (fun _ _ => .inl (by simp)) harr⟩
  obtain ⟨e, a', w', hq, harr⟩ := key _ a w hj
  exact ⟨e, a', w', hq, .of_steps (.one step_loop) harr⟩

theorem range_getD (ops : Array Oper) : (List.range ops.size).map (fun i => ops.getD i default) = ops.toList := by
  apply List.ext_getElem?
  intro i
  rw [List.getElem?_map]
  by_cases hi : i < ops.size
  · rw [List.getElem?_range hi]
    simp [Array.getD_eq_getD_getElem?, hi]
  · have h1 : (List.range ops.size)[i]? = none := by simp; omega
    have h2 : ops.toList[i]? = none := by simp; omega
    rw [h1, h2]; rfl

theorem exec_sound (hgood : CallGood P.globals.size call) (hcall : CallSim P call) (hdraw : DrawSim P call) : ∀ (c : Code) (ρ : Rho) (h : H) (w : World) (e : T V) (a : Act) (R : Res) (rk : K) (x : List (Nat × K)) (k : K), R ≠ .no →
    St P nt ds ρ0 h0 w0 ρ h w e a → exec call fuel nt (codeOf P c) e h rk x k = R → c.wp P (Ex P nt ds ρ0 h0 w0 R rk x k) a w := by
  intro c
  induction c with
  | skip => intro ρ h w e a R rk x k hR s hr; exact wp_skip ⟨ρ, h, e, s, hr⟩
  | region id ops d =>
    intro ρ h w e a R rk x k hR s hr
    cases d with
    | true =>
      simp only [codeOf, if_true] at hr
      split at hr
      · rename_i m al ord l hd
        exact hdraw id ops m al ord l hd nt ds ρ0 h0 w0 ρ h w e a R rk x k hR s hr
      · exact absurd hr.symm hR
    | false =>
      simp only [codeOf, Bool.false_eq_true, if_false] at hr
      split at hr
      · rename_i l hl
        refine wp_region (ops_sound hgood hcall hR ?_ ?_ (List.range ops.size) l ρ h w e a (fun i hi => List.mem_range.1 hi) (by rw [range_getD]; exact hl) s hr)
        · intro ρ h w e a s hk; exact ⟨ρ, h, e, s, hk⟩
        · intro v y ρ h w a h1 h2 h3 h4; exact ⟨v, y, ρ, h, h1, rfl, h2, h3, h4⟩
      · exact absurd hr.symm hR
  | seq c d ihc ihd =>
    intro ρ h w e a R rk x k hR s hr
    refine wp_seq (wp_mono (ihc ρ h w e a R rk x _ hR s hr) ?_)
    intro ex a1 w1 hq
    cases ex with
    | normal => obtain ⟨ρ1, h1, e1, s1, hk⟩ := hq; exact ihd ρ1 h1 w1 e1 a1 R rk x k hR s1 hk
    | _ => exact hq
  | cond o c d ihc ihd =>
    intro ρ h w e a R rk x k hR s hr
    simp only [codeOf] at hr
    split at hr
    · rename_i y hy
      have rx := s.cx.opd hy
      simp only [exec] at hr
      split at hr
      · rename_i hb; rw [hb] at rx
        exact wp_cond_true (vrel_bool rx) (ihc ρ h w e a R rk x k hR s hr)
      · rename_i hb; rw [hb] at rx
        exact wp_cond_false (vrel_bool rx) (ihd ρ h w e a R rk x k hR s hr)
      · exact absurd hr.symm hR
    · exact absurd hr.symm hR
  | block id c ih =>
    intro ρ h w e a R rk x k hR s hr
    refine wp_block (wp_mono (ih ρ h w e a R rk _ k hR s hr) ?_)
    intro ex a1 w1 hq
    cases ex with
    | exit id' =>
      obtain ⟨ρ1, h1, e1, k', s1, hl, hk⟩ := hq
      simp only [look] at hl
      simp only [Exit.inBlock]
      by_cases hid : id' = id
      · subst hid
        simp only [if_true, Option.some.injEq] at hl ⊢
        subst hl
        exact ⟨ρ1, h1, e1, s1, hk⟩
      · have hid' : ¬ id = id' := fun h => hid h.symm
        rw [if_neg hid'] at hl
        rw [if_neg hid]
        exact ⟨ρ1, h1, e1, k', s1, hl, hk⟩
    | _ => exact hq
  | loop c ih =>
    intro ρ h w e a R rk x k hR s hr
    refine wp_loop_n (fun n a w => ∃ ρ h e, St P nt ds ρ0 h0 w0 ρ h w e a ∧ loopN (fun e h k' => exec call fuel nt (codeOf P c) e h rk x k') n e h = R) ⟨ρ, h, e, s, hr⟩ ?_
    rintro n a w ⟨ρ, h, e, s, hr⟩
    cases n with
    | zero => exact absurd hr.symm hR
    | succ n =>
      simp only [loopN] at hr
      refine wp_mono (ih ρ h w e a R rk x _ hR s hr) ?_
      intro ex a1 w1 hq
      cases ex with
      | normal => obtain ⟨ρ1, h1, e1, s1, hk⟩ := hq; exact ⟨n, Nat.lt_succ_self n, ρ1, h1, e1, s1, hk⟩
      | _ => exact hq
  | rangeFunc f ps c d => intro ρ h w e a R rk x k hR s hr; exact absurd hr.symm hR
  | exit id =>
    intro ρ h w e a R rk x k hR s hr
    simp only [codeOf, exec] at hr
    split at hr
    · rename_i k' hk'
      exact wp_exit ⟨ρ, h, e, k', s, hk', hr⟩
    · exact absurd hr.symm hR
  | scope c ih =>
    intro ρ h w e a R rk x k hR s hr
    refine wp_scope_straight (wp_mono (ih ρ h w e a R rk x k hR s hr) ?_)
    intro ex a1 w1 hq
    cases ex <;> exact hq
  | label l => intro ρ h w e a R rk x k hR s hr; exact wp_label ⟨ρ, h, e, s, hr⟩
  | goto l => intro ρ h w e a R rk x k hR s hr; exact absurd hr.symm hR
  | ret => intro ρ h w e a R rk x k hR s hr; exact wp_ret ⟨ρ, h, e, s, hr⟩
  | refuse why => intro ρ h w e a R rk x k hR s hr; exact absurd hr.symm hR

end
end Go.Vm
