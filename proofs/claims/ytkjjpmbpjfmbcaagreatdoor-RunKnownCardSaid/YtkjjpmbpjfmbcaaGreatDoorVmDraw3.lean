/-
  A region whose order is open: one operation after the other.
-/
import Derived.Test.YtkjjpmbpjfmbcaaGreatDoorVmDraw2
set_option linter.unusedVariables false
set_option linter.unusedSimpArgs false
namespace Go.Vm
section
variable {P : Program} {call : Nat → List V → H → Res} {nt m : Nat} {ds : List Deferred} {l : List CI} {al : List Nat} {E : Nat → T V} {G : Nat → H} {v : Nat → V} {B : Nat → Nat → Prop} {full : List Nat} {ρ1 : Rho} {w1 : World}
variable {dn τ : List Nat} {q r : Nat} {ρ : Rho} {w : World} {a : Act} {c : CI}

theorem pure_or (c : CI) : pureOp c.op = true ∨ pureOp c.op = false := by cases pureOp c.op <;> simp

/-- an operation that turns nothing, or one that is not run -/
theorem DInv.same (t : TrG call nt m l E G v) (s : Side m l B full) (hf : full = dn ++ q :: τ) (hc : l[q]? = some c) (i : DInv P nt ds m l E G v ρ1 w1 dn r ρ w a) {w' : World} {x : Value}
    (hp : pureOp c.op = true ∨ want (E q) c.g = false) (post : Post ρ (G r) w ρ (G r) w') (hv : VRel ρ (G r) (v q) x) (wv : wf (G r).n (v q)) :
    ∃ r', DInv P nt ds m l E G v ρ1 w1 (dn ++ [q]) r' ρ w' (a.put c.dst x) := by
  have hq := lget hc
  have hne : ∀ q', q' ∈ dn ++ [q] ↔ q' ∈ dn ∨ q' = q := fun q' => by simp
  have hG : G (q + 1) = G q := by
    rcases hp with h | h
    · exact t.tr.pure hc h
    · exact (t.tr.skip q c hc h).2
  by_cases hB : m ≤ q ∧ pureOp c.op = false
  · -- one of the later ones, not run
    obtain ⟨hmq, hpf⟩ := hB
    have hrq : r ≤ q := by
      have := (i.don q c hmq hc hpf)
      have hn := s.notin hf
      rcases Nat.lt_or_ge q r with h | h
      · exact absurd (this.2 h) hn
      · exact h
    have bef : ∀ p b, p < q → l[p]? = some b → pureOp b.op = false → p ∈ dn := by
      intro p b hpq hb hbf
      rcases s.pr p q b c hpq hb hc with h | ⟨_, _, h | h | h⟩
      · exact s.ord dn q τ hf p (lget hb) h
      · omega
      · rw [hbf] at h; cases h
      · rw [hpf] at h; cases h
    have hGr : ∀ d, r + d ≤ q → G (r + d) = G r := by
      intro d
      induction d with
      | zero => intro _; rfl
      | succ d ih =>
        intro hd
        have hget : l[r + d]? = some l[r + d] := List.getElem?_eq_getElem (by omega)
        have h1 := ih (by omega)
        rcases pure_or l[r + d] with h | h
        · rw [show r + (d + 1) = r + d + 1 by omega, t.tr.pure hget h, h1]
        · have h2 := bef (r + d) _ (by omega) hget h
          have h3 := (i.don (r + d) _ (by have := i.rm; omega) hget h).1 h2
          omega
    have hGq : G (q + 1) = G r := by
      rw [hG]
      have := hGr (q - r) (by omega)
      rwa [show r + (q - r) = q by omega] at this
    refine ⟨q + 1, i.next t s hf hc (by omega) (by omega) ?_ ?_ ?_ ?_ ?_ ?_ ?_ ?_ ?_⟩
    · intro q' c' hm' hc' hp'
      rw [hne]
      constructor
      · rintro (h | h)
        · have := (i.don q' c' hm' hc' hp').1 h; omega
        · omega
      · intro h
        by_cases hqq : q' = q
        · exact .inr hqq
        · exact .inl (bef q' c' (by omega) hc' hp')
    · intro _ q' c' hm' hc' hp'
      rw [hne]
      exact .inl (bef q' c' (by omega) hc' hp')
    · intro q' hm' hnot o h1 h2
      rw [hne] at hnot
      exact i.un q' hm' (fun h => hnot (.inl h)) o h1 h2
    · rw [hGq]; exact i.gr
    · rw [hGq]; exact i.post.trans post
    · rw [hGq]; exact fun u y _ h => h
    · rw [hGq]; exact Nat.le_refl _
    · rw [hGq]; exact hv
    · rw [hGq]; exact wv
  · refine ⟨r, i.next t s hf hc i.rm i.rn ?_ ?_ ?_ i.gr (i.post.trans post) (fun u y _ h => h) (Nat.le_refl _) hv wv⟩
    · intro q' c' hm' hc' hp'
      rw [hne, ← i.don q' c' hm' hc' hp']
      refine ⟨fun h => h.elim id fun e => ?_, .inl⟩
      subst e
      rw [hc] at hc'
      simp only [Option.some.injEq] at hc'
      subst hc'
      exact absurd ⟨hm', hp'⟩ hB
    · intro h q' c' hm' hc' hp'
      rw [hne]
      exact .inl (i.rA h q' c' hm' hc' hp')
    · intro q' hm' hnot o h1 h2
      rw [hne] at hnot
      exact i.un q' hm' (fun h => hnot (.inl h)) o h1 h2

/-- what an operation reads, and nothing else -/
theorem DInv.cx (t : TrG call nt m l E G v) (s : Side m l B full) (hf : full = dn ++ q :: τ) (hc : l[q]? = some c) (i : DInv P nt ds m l E G v ρ1 w1 dn r ρ w a) : Cx P ρ (G r) w (mask (E q) c.reads) a := by
  refine ⟨i.rel, t.wh r i.rn, ?_, ?_, i.gr⟩
  · intro d
    by_cases hd : d ∈ c.reads
    · rw [(get_mask _ _ _).1 hd]; exact (i.read t s hf hc (reads_names hd)).2
    · rw [(get_mask _ _ _).2 hd]; trivial
  · intro d
    by_cases hd : d ∈ c.reads
    · rw [(get_mask _ _ _).1 hd]; exact (i.read t s hf hc (reads_names hd)).1
    · rw [(get_mask _ _ _).2 hd]; exact .bot _

theorem wf_opd_of {n : Nat} {e : T V} {x : Opd} {o j : Nat} (h : opd e x = .ptr o j) (hw : opdWf n x) (we : ∀ i, x = .t i → wf n (e.get .bot i)) : o < n := by
  cases x with
  | t i => have := we i rfl; rw [show opd e (.t i) = e.get .bot i from rfl] at h; rw [h] at this; exact this
  | c u => rw [show opd e (.c u) = u from rfl] at h; subst h; exact hw

variable {o : Oper} {Q : Exit → Act → World → Prop} {next : Act → World → Prop}

/-- an operation that neither reads nor turns memory, whenever it is run -/
theorem DInv.pure (hgood : CallGood P.globals.size call) (hcall : CallSim P call) (t : TrG call nt m l E G v) (s : Side m l B full) (hf : full = dn ++ q :: τ) (hc : l[q]? = some c) (i : DInv P nt ds m l E G v ρ1 w1 dn r ρ w a)
    (hal : aliveAt nt (E l.length) (G l.length) al = true) (hala : ptrOp c.op = true → ∃ d, c.dst = some d ∧ d ∈ al) (ho : c.op = copAt P o) (hd : c.dst = o.dst)
    (hp : pureOp c.op = true) (hw : want (E q) c.g = true) (hn : ∀ r' ρ' w' x, DInv P nt ds m l E G v ρ1 w1 (dn ++ [q]) r' ρ' w' (a.put o.dst x) → next (a.put o.dst x) w') : o.wp P a w next Q := by
  have hq := lget hc
  have cx := i.cx t s hf hc
  have hwf : copWf (G r).n c.op := by rw [ho]; exact copWf_mono i.gr.1 (copAt_wf P o)
  obtain ⟨h', hst, _⟩ := t.tr.stp q c hc hw
  obtain ⟨_, hX⟩ := pure_step hp hst
  have hstep : step call (E q) (G r) c.op = .ok (v q) (G r) := by
    refine hX (G r) fun hptr o' j hv => ?_
    obtain ⟨d, hd1, hd2⟩ := hala hptr
    have hdn : d < nt := alive_lt hal hd2
    have hend : (E l.length).get .bot d = .ptr o' j := by
      rw [t.tr.hit hc hd1 hdn (fun q' b hne hb => s.dst q q' c b d (fun e => hne e.symm) hc hb hd1) l.length hq (Nat.le_refl _), hv]
    have ha := (alive_of_end t hal hd2 hend).2
    rw [hv] at hst
    obtain ⟨x, hx, j', hx'⟩ := ptr_from hptr hst
    have hlt : o' < (G r).n := wf_opd_of hx' (hwf.1 x hx) fun k hk => (i.read t s hf hc (reads_names (by
      unfold CI.reads
      exact List.mem_append_left _ (List.mem_filterMap.2 ⟨x, hx, by rw [hk]; rfl⟩)))).2
    cases hal' : alive (G r) o' with
    | true => rfl
    | false =>
      have hdead : (G r).get o' = .dead := by
        unfold alive at hal'
        split at hal'
        · assumption
        · cases hal'
      have hdead' := (t.abs' i.rn (Nat.le_refl _)).dead o' hlt hdead
      unfold alive at ha
      rw [hdead'] at ha
      cases ha
  have hmask : step call (mask (E q) c.reads) (G r) c.op = .ok (v q) (G r) := by
    rw [step_congr (fun x hx => mask_opd hx)]; exact hstep
  have hg := step_good hgood i.gr.1 cx.wh cx.we hwf
  rw [hmask] at hg
  rw [ho] at hmask
  refine op_wp hcall cx (by rw [hmask]; intro h; cases h) ?_ ?_
  · intro u h'' x w' ρ' hs hv hpo
    rw [hmask] at hs
    injection hs with e1 e2
    subst e1 e2
    have hρ := kept i.rel hpo
    subst hρ
    obtain ⟨r', hi⟩ := i.same t s hf hc (.inl hp) hpo hv hg.2.2
    rw [hd] at hi
    exact hn r' _ _ _ hi
  · intro u h'' x w' ρ' hs
    rw [hmask] at hs
    cases hs

/-- one of the later operations -/
theorem DInv.late (hgood : CallGood P.globals.size call) (hcall : CallSim P call) (t : TrG call nt m l E G v) (s : Side m l B full) (hf : full = dn ++ q :: τ) (hc : l[q]? = some c) (i : DInv P nt ds m l E G v ρ1 w1 dn r ρ w a)
    (ho : c.op = copAt P o) (hd : c.dst = o.dst) (hpf : pureOp c.op = false) (hmq : m ≤ q) (hw : want (E q) c.g = true)
    (hn : ∀ r' ρ' w' x, DInv P nt ds m l E G v ρ1 w1 (dn ++ [q]) r' ρ' w' (a.put o.dst x) → next (a.put o.dst x) w') : o.wp P a w next Q := by
  have hq := lget hc
  have cx := i.cx t s hf hc
  have hwf : copWf (G r).n c.op := by rw [ho]; exact copWf_mono i.gr.1 (copAt_wf P o)
  have hne : ∀ q', q' ∈ dn ++ [q] ↔ q' ∈ dn ∨ q' = q := fun q' => by simp
  have hrq : r ≤ q := by
    have := (i.don q c hmq hc hpf)
    have hn := s.notin hf
    rcases Nat.lt_or_ge q r with h | h
    · exact absurd (this.2 h) hn
    · exact h
  have bef : ∀ p b, p < q → l[p]? = some b → pureOp b.op = false → p ∈ dn := by
    intro p b hpq hb hbf
    rcases s.pr p q b c hpq hb hc with h | ⟨_, _, h | h | h⟩
    · exact s.ord dn q τ hf p (lget hb) h
    · omega
    · rw [hbf] at h; cases h
    · rw [hpf] at h; cases h
  have hGr : ∀ d, r + d ≤ q → G (r + d) = G r := by
    intro d
    induction d with
    | zero => intro _; rfl
    | succ d ih =>
      intro hd
      have hget : l[r + d]? = some l[r + d] := List.getElem?_eq_getElem (by omega)
      have h1 := ih (by omega)
      rcases pure_or l[r + d] with h | h
      · rw [show r + (d + 1) = r + d + 1 by omega, t.tr.pure hget h, h1]
      · have h2 := bef (r + d) _ (by omega) hget h
        have h3 := (i.don (r + d) _ (by have := i.rm; omega) hget h).1 h2
        omega
  have hGq : G q = G r := by
    have := hGr (q - r) (by omega)
    rwa [show r + (q - r) = q by omega] at this
  obtain ⟨h', hst, hG'⟩ := t.tr.stp q c hc hw
  rw [show m - q = 0 by omega, show (G q).top 0 = G q from rfl, hGq] at hst
  rw [hGq] at hG'
  have hmask : step call (mask (E q) c.reads) (G r) c.op = .ok (v q) h' := by
    rw [step_congr (fun x hx => mask_opd hx)]; exact hst
  have hg := step_good hgood i.gr.1 cx.wh cx.we hwf
  rw [hmask] at hg
  have hGe : G (q + 1) = h' := by
    rw [hG']
    have := hg.1.fl
    cases h'
    simp only at this
    simp only [H.lower, this]
  rw [ho] at hmask
  refine op_wp hcall cx (by rw [hmask]; intro h; cases h) ?_ ?_
  · intro u h'' x w' ρ' hs hv hpo
    rw [hmask] at hs
    injection hs with e1 e2
    subst e1 e2
    have hi := i.next t s hf hc (r' := q + 1) (ρ' := ρ') (w' := w') (x := x) (by omega) (by omega)
      (by
        intro q' c' hm' hc' hp'
        rw [hne]
        constructor
        · rintro (h | h)
          · have := (i.don q' c' hm' hc' hp').1 h; omega
          · omega
        · intro h
          by_cases hqq : q' = q
          · exact .inr hqq
          · exact .inl (bef q' c' (by omega) hc' hp'))
      (by
        intro _ q' c' hm' hc' hp'
        rw [hne]
        exact .inl (bef q' c' (by omega) hc' hp'))
      (by
        intro q' hm' hnot o' h1 h2
        rw [hne] at hnot
        have hget : l[q']? = some l[q'] := List.getElem?_eq_getElem (by omega)
        rcases pure_or l[q'] with h | h
        · rw [t.tr.pure hget h] at h2; omega
        · exact absurd (.inl (bef q' _ (by omega) hget h)) hnot)
      (by rw [hGe]; exact i.gr.post hpo) (by rw [hGe]; exact i.post.trans hpo)
      (by rw [hGe]; exact fun u y _ h => hpo.vrel i.rel.lt h) (by rw [hGe]; exact hpo.abs.n) (by rw [hGe]; exact hv) (by rw [hGe]; exact hg.2.2)
    rw [hd] at hi
    exact hn _ _ _ _ hi
  · intro u h'' x w' ρ' hs
    rw [hmask] at hs
    cases hs

end
end Go.Vm
