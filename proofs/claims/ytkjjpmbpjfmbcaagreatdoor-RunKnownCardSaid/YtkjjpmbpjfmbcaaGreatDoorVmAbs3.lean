/-
  Code and calls keep the heap in order.
-/
import Derived.Test.YtkjjpmbpjfmbcaaGreatDoorVmAbs2
set_option linter.unusedVariables false
set_option linter.unusedSimpArgs false
namespace Go.Vm

theorem Good.trans {h h1 : H} {r : Res} (a : Abs h h1) (g : Good h1 r) : Good h r := by
  cases r with
  | ok v h' => exact ⟨a.trans g.1, g.2⟩
  | pan v h' => exact ⟨a.trans g.1, g.2⟩
  | no => trivial

def KGood (h : H) (k : K) : Prop := ∀ e1 h1, Abs h h1 → wfh h1 → wfe h1.n e1 → Good h1 (k e1 h1)

theorem KGood.later {h h1 : H} {k : K} (g : KGood h k) (a : Abs h h1) : KGood h1 k := fun e2 h2 b w we => g e2 h2 (a.trans b) w we

theorem wfe_put {n nt : Nat} {e : T V} (we : wfe n e) {v : V} (hv : wf n v) (d : Option Nat) : wfe n (put nt e d v) := by
  unfold put
  split
  · split
    · intro i
      rw [T.get_set]
      split
      · exact hv
      · exact we i
    · exact we
  · exact we

def cisWf (G : Nat) (l : List CI) : Prop := ∀ i ∈ l, copWf G i.op

theorem runOps_good {G : Nat} {call : Nat → List V → H → Res} (hcall : CallGood G call) (nt : Nat) :
    ∀ (l : List CI) (e : T V) (h : H) (k : K), cisWf G l → G ≤ h.n → wfh h → wfe h.n e → KGood h k → Good h (runOps call nt l e h k)
  | [], e, h, k, _, _, w, we, hk => hk e h (.refl h) w we
  | i :: l, e, h, k, hl, hG, w, we, hk => by
    simp only [runOps]
    split
    · trivial
    · split
      · have := step_good hcall hG w we (copWf_mono hG (hl i (by simp)))
        revert this
        cases step call e h i.op with
        | ok v h' =>
          rintro ⟨a, w', hv⟩
          exact Good.trans a (runOps_good hcall nt l _ h' k (fun j hj => hl j (by simp [hj])) (Nat.le_trans hG a.n) w' (wfe_put (wfe_mono a.n we) hv _) (hk.later a))
        | pan v h' => exact id
        | no => exact id
      · exact runOps_good hcall nt l _ h k (fun j hj => hl j (by simp [hj])) hG w (wfe_put we (show wf h.n (.tup []) from trivial) _) hk

theorem wfh_top {h : H} (w : wfh h) (m : Nat) : wfh (h.top m) := by
  cases m
  · exact w
  · exact ⟨Nat.le_refl _, w.2⟩

theorem top_n (h : H) (m : Nat) : (h.top m).n = h.n := by cases m <;> rfl
theorem top_get (h : H) (m o : Nat) : (h.top m).get o = h.get o := by cases m <;> rfl

theorem abs_lower {h h' : H} {m : Nat} (w : wfh h) (a : Abs (h.top m) h') : Abs h (h'.lower h.fl) := by
  cases m with
  | zero => exact ⟨a.n, rfl, a.low, a.dead⟩
  | succ m => exact ⟨a.n, rfl, fun o ho => a.low o (Nat.lt_of_lt_of_le ho w.1), fun o ho e => a.dead o ho e⟩

theorem wfh_lower {h h' : H} {m : Nat} (w : wfh h) (a : Abs (h.top m) h') (w' : wfh h') : wfh (h'.lower h.fl) := ⟨Nat.le_trans w.1 (abs_lower w a).n, w'.2⟩

theorem good_if {h : H} {b : Bool} {r : Res} (g : Good h r) : Good h (if b then r else .no) := by
  cases b
  · exact trivial
  · exact g

theorem runDraw_good {G : Nat} {call : Nat → List V → H → Res} (hcall : CallGood G call) (nt : Nat) (al : List Nat) :
    ∀ (l : List CI) (m : Nat) (e : T V) (h : H) (k : K), cisWf G l → G ≤ h.n → wfh h → wfe h.n e → KGood h k → Good h (runDraw call nt al l m e h k)
  | [], m, e, h, k, _, _, w, we, hk => by
    simp only [runDraw]
    exact good_if (hk e h (.refl h) w we)
  | i :: l, m, e, h, k, hl, hG, w, we, hk => by
    simp only [runDraw]
    split
    · trivial
    · split
      · have := step_good hcall (h := h.top m) (by rw [top_n]; exact hG) (wfh_top w m) (by rw [top_n]; exact we) (copWf_mono (by rw [top_n]; exact hG) (hl i (by simp)))
        revert this
        cases step call e (h.top m) i.op with
        | ok v h' =>
          rintro ⟨a, w', hv⟩
          have b := abs_lower w a
          have we' : wfe h'.n e := wfe_mono (by have := a.n; rw [top_n] at this; exact this) we
          exact Good.trans b (runDraw_good hcall nt al l _ _ _ k (fun j hj => hl j (by simp [hj])) (Nat.le_trans hG b.n) (wfh_lower w a w') (wfe_put we' hv _) (hk.later b))
        | pan v h' => exact fun _ => trivial
        | no => exact id
      · exact runDraw_good hcall nt al l _ _ h k (fun j hj => hl j (by simp [hj])) hG w (wfe_put we (show wf h.n (.tup []) from trivial) _) hk

def ccWf (G : Nat) : CC → Prop
  | .ops l => cisWf G l
  | .draw _ _ l => cisWf G l
  | .seq a b => ccWf G a ∧ ccWf G b
  | .cond _ a b => ccWf G a ∧ ccWf G b
  | .block _ b => ccWf G b
  | .loop b => ccWf G b
  | _ => True

theorem look_mem {id : Nat} : ∀ {x : List (Nat × K)} {k : K}, look id x = some k → (id, k) ∈ x
  | [], _, h => by cases h
  | (i, k') :: r, k, h => by
    simp only [look] at h
    split at h
    · rename_i hi
      simp only [Option.some.injEq] at h
      subst hi h
      exact List.mem_cons_self
    · exact List.mem_cons_of_mem _ (look_mem h)

theorem exec_good {G : Nat} {call : Nat → List V → H → Res} (hcall : CallGood G call) (fuel nt : Nat) :
    ∀ (c : CC) (e : T V) (h : H) (r : K) (x : List (Nat × K)) (k : K), ccWf G c → G ≤ h.n → wfh h → wfe h.n e →
      KGood h r → (∀ p ∈ x, KGood h p.2) → KGood h k → Good h (exec call fuel nt c e h r x k) := by
  intro c
  induction c with
  | skip => intro e h r x k _ _ w we _ _ hk; exact hk e h (.refl h) w we
  | ops l => intro e h r x k hc hG w we _ _ hk; exact runOps_good hcall nt l e h k hc hG w we hk
  | draw m al l => intro e h r x k hc hG w we _ _ hk; exact runDraw_good hcall nt al l m e h k hc hG w we hk
  | seq a b iha ihb =>
    intro e h r x k hc hG w we hr hx hk
    exact iha e h r x _ hc.1 hG w we hr hx fun e1 h1 a1 w1 we1 =>
      ihb e1 h1 r x k hc.2 (Nat.le_trans hG a1.n) w1 we1 (hr.later a1) (fun p hp => (hx p hp).later a1) (hk.later a1)
  | cond c a b iha ihb =>
    intro e h r x k hc hG w we hr hx hk
    simp only [exec]
    split
    · exact iha e h r x k hc.1 hG w we hr hx hk
    · exact ihb e h r x k hc.2 hG w we hr hx hk
    · trivial
  | block id b ih =>
    intro e h r x k hc hG w we hr hx hk
    exact ih e h r _ k hc hG w we hr (fun p hp => by
      rcases List.mem_cons.1 hp with rfl | hp
      · exact hk
      · exact hx p hp) hk
  | loop b ih =>
    intro e h r x k hc hG w we hr hx hk
    simp only [exec]
    suffices hs : ∀ (n : Nat) (e1 : T V) (h1 : H), Abs h h1 → wfh h1 → wfe h1.n e1 →
        Good h1 (loopN (fun e h k' => exec call fuel nt b e h r x k') n e1 h1) from hs fuel e h (.refl h) w we
    intro n
    induction n with
    | zero => intro _ _ _ _ _; trivial
    | succ n ihn =>
      intro e1 h1 a1 w1 we1
      simp only [loopN]
      exact ih e1 h1 r x _ hc (Nat.le_trans hG a1.n) w1 we1 (hr.later a1) (fun p hp => (hx p hp).later a1) fun e2 h2 a2 w2 we2 => ihn e2 h2 (a1.trans a2) w2 we2
  | exit id =>
    intro e h r x k hc hG w we hr hx hk
    simp only [exec]
    split
    · rename_i k' hk'
      exact hx _ (look_mem hk') e h (.refl h) w we
    · trivial
  | ret => intro e h r x k _ _ w we hr _ _; exact hr e h (.refl h) w we
  | bad => intro e h r x k _ _ _ _ _ _ _; trivial

theorem wfe_envOf {n : Nat} : ∀ (l : List V) (i : Nat) (e : T V), wfs n l → wfe n e → wfe n (envOf l i e)
  | [], _, e, _, we => we
  | v :: r, i, e, hl, we => wfe_envOf r (i + 1) _ hl.2 fun j => by
    rw [T.get_set]
    split
    · exact hl.1
    · exact we j

theorem wf_resV {h : H} (w : wfh h) {e : T V} (we : wfe h.n e) {c : CR} {v : V} (hv : resV e h c = some v) : wf h.n v := by
  unfold resV at hv
  split at hv
  · simp only [Option.some.injEq] at hv; exact hv ▸ we _
  · split at hv
    · split at hv
      · rename_i hl
        simp only [Option.some.injEq] at hv; exact hv ▸ (wfs_loadN w hl).1
      · cases hv
    · cases hv
  · split at hv
    · split at hv
      · rename_i hl
        simp only [Option.some.injEq] at hv; exact hv ▸ wfs_loadN w hl
      · cases hv
    · cases hv

theorem wfs_resL {h : H} (w : wfh h) {e : T V} (we : wfe h.n e) : ∀ (l : List CR) (vs : List V), resL e h l = some vs → wfs h.n vs
  | [], vs, hv => by simp only [resL, Option.some.injEq] at hv; exact hv ▸ trivial
  | c :: r, vs, hv => by
    simp only [resL] at hv
    split at hv
    · rename_i h1 h2
      simp only [Option.some.injEq] at hv
      exact hv ▸ ⟨wf_resV w we h1, wfs_resL w we r _ h2⟩
    · cases hv

theorem results_good {h : H} (w : wfh h) {e : T V} (we : wfe h.n e) (l : List CR) : Good h (results l e h) := by
  unfold results
  split
  · rename_i hl; exact good_same w (wfs_resL w we _ _ hl).1
  · rename_i hl; exact good_same w (wfs_resL w we _ _ hl)
  · trivial

theorem call_good {G : Nat} {tab : Nat → Option CFn} (ht : ∀ f c, tab f = some c → ccWf G c.body) : ∀ n, CallGood G (call tab n)
  | 0, _, _, _, _, _, _ => trivial
  | n + 1, f, args, h, hG, w, ha => by
    simp only [call]
    split
    · trivial
    · rename_i c hc
      split
      · have hk : KGood h (fun e h => results c.res e h) := fun e1 h1 _ w1 we1 => results_good w1 we1 _
        exact exec_good (call_good ht n) n c.nt c.body _ h _ _ _ (ht f c hc) hG w (wfe_envOf args 0 _ ha fun i => by rw [T.get_lf]; trivial) hk (fun p hp => by cases hp) hk
      · trivial

end Go.Vm
