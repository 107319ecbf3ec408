/-
  A region whose order is open: one of the first operations.
-/
import Derived.Test.YtkjjpmbpjfmbcaaGreatDoorVmDraw3
set_option linter.unusedVariables false
set_option linter.unusedSimpArgs false
namespace Go.Vm
section
variable {P : Program} {call : Nat → List V → H → Res} {nt m : Nat} {ds : List Deferred} {l : List CI} {al : List Nat} {E : Nat → T V} {G : Nat → H} {v : Nat → V} {B : Nat → Nat → Prop} {full : List Nat} {ρ1 : Rho} {w1 : World}
variable {dn τ : List Nat} {q r : Nat} {ρ : Rho} {w : World} {a : Act} {c : CI} {o : Oper} {Q : Exit → Act → World → Prop} {next : Act → World → Prop}

/-- what lies below n -/
def upto (n : Nat) (ρ : Rho) : Rho := fun o => if o < n then ρ o else none
/-- below n the one, from n on the other -/
def over (n : Nat) (ρ' ρ : Rho) : Rho := fun o => if o < n then ρ' o else ρ o

theorem DInv.early (hgood : CallGood P.globals.size call) (hcall : CallSim P call) (hG0 : P.globals.size ≤ (G 0).n) (t : TrG call nt m l E G v) (s : Side m l B full) (hf : full = dn ++ q :: τ) (hc : l[q]? = some c) (i : DInv P nt ds m l E G v ρ1 w1 dn r ρ w a)
    (ho : c.op = copAt P o) (hd : c.dst = o.dst) (hpf : pureOp c.op = false) (hqm : q < m) (hw : want (E q) c.g = true)
    (hn : ∀ r' ρ' w' x, DInv P nt ds m l E G v ρ1 w1 (dn ++ [q]) r' ρ' w' (a.put o.dst x) → next (a.put o.dst x) w') : o.wp P a w next Q := by
  have hq := lget hc
  have hmle := s.mle
  have hnot := s.notin hf
  have hr : r = m := by
    have := i.rm
    rcases Nat.lt_or_ge m r with h | h
    · exact absurd (i.rA h q c hqm hc hpf) hnot
    · omega
  subst hr
  have hne : ∀ q', q' ∈ dn ++ [q] ↔ q' ∈ dn ∨ q' = q := fun q' => by simp
  -- the evaluator's heaps
  have hGqr := t.abs' (p := q) (q := r) (by omega) hmle
  have hGq1 := t.abs' (p := q + 1) (q := r) (by omega) hmle
  have hGqq := t.abs q hq
  have hG0q := t.abs' (p := 0) (q := q) (by omega) (by omega)
  have lowq : ∀ o, o < (G q).n → (G r).get o = (G q).get o := fun o ho => t.low' (by omega) hmle (Nat.le_refl _) o ho
  have lowq1 : ∀ o, o < (G (q + 1)).n → (G r).get o = (G (q + 1)).get o := fun o ho => t.low' (by omega) hmle (Nat.le_refl _) o ho
  obtain ⟨h', hst, hG'⟩ := t.tr.stp q c hc hw
  obtain ⟨j, hj⟩ : ∃ j, r - q = j + 1 := ⟨r - q - 1, by omega⟩
  rw [hj] at hst
  have htop : (G q).top (j + 1) = (G q).raise := rfl
  rw [htop] at hst
  have hh'n : (G (q + 1)).n = h'.n := by rw [hG']; rfl
  have hh'g : ∀ o, (G (q + 1)).get o = h'.get o := by intro o; rw [hG']; rfl
  have agq : ∀ o, o < (G q).n → upto (G q).n ρ o = ρ o ∧ (G q).raise.get o = (G r).get o := fun o ho => ⟨by simp [upto, ho], (lowq o ho).symm⟩
  have hle : (G q).n ≤ (G q).raise.n := Nat.le_refl _
  -- what is there of them
  have rel0 : HRel (upto (G q).n ρ) (G q).raise w := by
    refine ⟨?_, ?_, ?_⟩
    · intro o p ho
      unfold upto at ho
      split at ho
      · assumption
      · cases ho
    · intro o p ho
      unfold upto at ho
      split at ho
      · rename_i hlt
        have h1 := i.rel.obj o p ho
        rw [lowq o hlt] at h1
        refine h1.map (ρ' := upto (G q).n ρ) (h' := (G q).raise) rfl ?_
        intro n tt sp el fz hx k y hy
        have hwo := (t.wh q (by omega)).2 o
        rw [hx] at hwo
        exact hy.congr (n := (G q).n) agq hle (hwo k)
      · cases ho
    · intro o o' p p' ho ho' hB
      unfold upto at ho ho'
      split at ho
      · split at ho'
        · exact i.rel.inj o o' p p' ho ho' hB
        · cases ho'
      · cases ho
  have gr0 : GRel P.globals.size (upto (G q).n ρ) (G q).raise := by
    refine ⟨Nat.le_trans hG0 hG0q.n, fun g hg => ?_⟩
    have hgq : g < (G q).n := Nat.lt_of_lt_of_le hg (Nat.le_trans hG0 hG0q.n)
    have hu : upto (G q).n ρ g = ρ g := by simp [upto, hgq]
    rw [hu]
    rcases i.gr.2 g hg with h | ⟨h1, h2⟩
    · exact .inl h
    · exact .inr ⟨h1, by rw [show (G q).raise.get g = (G q).get g from rfl, ← lowq g hgq]; exact h2⟩
  have cx : Cx P (upto (G q).n ρ) (G q).raise w (mask (E q) c.reads) a := by
    refine ⟨rel0, ⟨Nat.le_refl _, (t.wh q (by omega)).2⟩, ?_, ?_, gr0⟩
    · intro d
      by_cases hd : d ∈ c.reads
      · rw [(get_mask _ _ _).1 hd]; exact t.we q (by omega) d
      · rw [(get_mask _ _ _).2 hd]; trivial
    · intro d
      by_cases hd : d ∈ c.reads
      · rw [(get_mask _ _ _).1 hd]
        exact (i.read t s hf hc (reads_names hd)).1.congr (n := (G q).n) agq hle (t.we q (by omega) d)
      · rw [(get_mask _ _ _).2 hd]; exact .bot _
  have hwf : copWf (G q).raise.n c.op := by rw [ho]; exact copWf_mono gr0.1 (copAt_wf P o)
  have hmask : step call (mask (E q) c.reads) (G q).raise c.op = .ok (v q) h' := by
    rw [step_congr (fun x hx => mask_opd hx)]; exact hst
  have hg := step_good hgood gr0.1 cx.wh cx.we hwf
  rw [hmask] at hg
  rw [ho] at hmask
  refine op_wp hcall cx (by rw [hmask]; intro h; cases h) ?_ ?_
  · intro u h'' x w' ρ' hs hv hpo
    rw [hmask] at hs
    injection hs with e1 e2
    subst e1 e2
    -- what the operation left
    have F1 : ∀ o, o < (G q).n → ρ' o = ρ o := by
      intro o ho
      have hu : upto (G q).n ρ o = ρ o := by simp [upto, ho]
      rcases hpo.fr.keep o ho with h | ⟨h1, h2⟩
      · rw [h, hu]
      · have h3 := hpo.abs.low o ho
        rw [h2] at h3
        rw [h1, ← hu]
        cases hx : upto (G q).n ρ o with
        | none => rfl
        | some p => exact absurd h3.symm (rel0.alive hx)
    have F2 : ∀ o p, (G q).n ≤ o → ρ' o = some p → w.heap.size ≤ p.B := by
      intro o p ho hp
      rcases hpo.fr.new o p ho hp with h | ⟨o', p', h1, h2, _⟩
      · exact h
      · have := rel0.lt o' p' h2
        exact absurd (show (G q).raise.fl ≤ o' from h1) (by show ¬ (G q).n ≤ o'; exact Nat.not_le.2 this)
    have F3 : ∀ b, b < w.heap.size → w'.heap[b]? = w.heap[b]? := by
      intro b hb
      exact hpo.fr.old b hb fun o p h _ => rel0.lt o p h
    have F4 : ∀ o p, ρ' o = some p → o < (G (q + 1)).n := fun o p h => by rw [hh'n]; exact hpo.rel.lt o p h
    have hnn : (G q).n ≤ (G (q + 1)).n := hGqq.n
    have ov1 : ∀ o, o < (G (q + 1)).n → over (G (q + 1)).n ρ' ρ o = ρ' o := fun o ho => by simp [over, ho]
    have ov2 : ∀ o, (G (q + 1)).n ≤ o → over (G (q + 1)).n ρ' ρ o = ρ o := fun o ho => by unfold over; rw [if_neg (by omega)]
    have ov0 : ∀ o, o < (G q).n → over (G (q + 1)).n ρ' ρ o = ρ o := fun o ho => by rw [ov1 o (by omega), F1 o ho]
    have mid : ∀ o, (G q).n ≤ o → o < (G (q + 1)).n → ρ o = none := fun o h1 h2 => i.un q hqm hnot o h1 h2
    have M1 : ∀ o p, ρ o = some p → over (G (q + 1)).n ρ' ρ o = some p := by
      intro o p hp
      rcases Nat.lt_or_ge o (G q).n with h | h
      · rw [ov0 o h]; exact hp
      · rcases Nat.lt_or_ge o (G (q + 1)).n with h2 | h2
        · rw [mid o h h2] at hp; cases hp
        · rw [ov2 o h2]; exact hp
    have M2 : ∀ o, o < (G r).n → ρ o = none → (G r).get o = .dead → o < (G r).n ∧ over (G (q + 1)).n ρ' ρ o = none ∧ (G r).get o = .dead := by
      intro o ho hno hdd
      refine ⟨ho, ?_, hdd⟩
      rcases Nat.lt_or_ge o (G (q + 1)).n with h2 | h2
      · rw [ov1 o h2]
        cases hx : ρ' o with
        | none => rfl
        | some p =>
          have := hpo.rel.alive hx
          rw [lowq1 o h2, hh'g] at hdd
          exact absurd hdd this
      · rw [ov2 o h2]; exact hno
    have ag : ∀ o, o < (G (q + 1)).n → over (G (q + 1)).n ρ' ρ o = ρ' o ∧ (G r).get o = h'.get o := fun o ho => ⟨ov1 o ho, by rw [lowq1 o ho, hh'g]⟩
    have rel' : HRel (over (G (q + 1)).n ρ' ρ) (G r) w' := by
      refine ⟨?_, ?_, ?_⟩
      · intro o p hp
        rcases Nat.lt_or_ge o (G (q + 1)).n with h2 | h2
        · exact Nat.lt_of_lt_of_le h2 hGq1.n
        · rw [ov2 o h2] at hp; exact i.rel.lt o p hp
      · intro o p hp
        rcases Nat.lt_or_ge o (G (q + 1)).n with h2 | h2
        · rw [ov1 o h2] at hp
          have h1 := hpo.rel.obj o p hp
          rw [(ag o h2).2]
          refine h1.map rfl ?_
          intro n tt sp el fz hx k y hy
          have hwo := hg.2.1.2 o
          rw [hx] at hwo
          refine hy.congr (n := h'.n) (fun o ho => ag o (by rw [hh'n]; exact ho)) (by rw [← hh'n]; exact hGq1.n) (hwo k)
        · rw [ov2 o h2] at hp
          have h1 := i.rel.obj o p hp
          exact h1.map (F3 _ h1.size) (fun _ _ _ _ _ _ k y hy => hy.more M1 M2)
      · intro o o' p p' hp hp' hB
        have old : ∀ o p, ρ o = some p → p.B < w.heap.size := fun o p h => (i.rel.obj o p h).size
        rcases Nat.lt_or_ge o (G (q + 1)).n with h2 | h2 <;> rcases Nat.lt_or_ge o' (G (q + 1)).n with h3 | h3
        · rw [ov1 o h2] at hp
          rw [ov1 o' h3] at hp'
          exact hpo.rel.inj o o' p p' hp hp' hB
        · rw [ov1 o h2] at hp
          rw [ov2 o' h3] at hp'
          rcases Nat.lt_or_ge o (G q).n with h4 | h4
          · rw [F1 o h4] at hp; exact i.rel.inj o o' p p' hp hp' hB
          · have := F2 o p h4 hp; have := old o' p' hp'; omega
        · rw [ov2 o h2] at hp
          rw [ov1 o' h3] at hp'
          rcases Nat.lt_or_ge o' (G q).n with h4 | h4
          · rw [F1 o' h4] at hp'; exact i.rel.inj o o' p p' hp hp' hB
          · have := F2 o' p' h4 hp'; have := old o p hp; omega
        · rw [ov2 o h2] at hp
          rw [ov2 o' h3] at hp'
          exact i.rel.inj o o' p p' hp hp' hB
    have gr' : GRel P.globals.size (over (G (q + 1)).n ρ' ρ) (G r) := by
      refine ⟨i.gr.1, fun g hg => ?_⟩
      rw [ov0 g (Nat.lt_of_lt_of_le hg (Nat.le_trans hG0 hG0q.n))]
      exact i.gr.2 g hg
    have post' : Post ρ1 (G 0) w1 (over (G (q + 1)).n ρ' ρ) (G r) w' := by
      have fr := i.post.fr
      refine ⟨i.post.abs, rel', hpo.fr.os.trans fr.os, hpo.fr.tape.trans fr.tape, hpo.fr.output.trans fr.output, Nat.le_trans fr.size hpo.fr.size, ?_, ?_, ?_⟩
      · intro b hb hx
        rw [F3 b (Nat.lt_of_lt_of_le hb fr.size)]
        exact fr.old b hb hx
      · intro o ho
        rw [ov0 o (Nat.lt_of_lt_of_le ho hG0q.n)]
        exact fr.keep o ho
      · intro o p ho hp
        rcases Nat.lt_or_ge o (G (q + 1)).n with h2 | h2
        · rw [ov1 o h2] at hp
          rcases Nat.lt_or_ge o (G q).n with h4 | h4
          · rw [F1 o h4] at hp; exact fr.new o p ho hp
          · exact .inl (Nat.le_trans fr.size (F2 o p h4 hp))
        · rw [ov2 o h2] at hp; exact fr.new o p ho hp
    have hv' : VRel (over (G (q + 1)).n ρ' ρ) (G r) (v q) x := hv.congr (n := h'.n) (fun o ho => ag o (by rw [hh'n]; exact ho)) (by rw [← hh'n]; exact hGq1.n) hg.2.2
    have hi := i.next t s hf hc (r' := r) (ρ' := over (G (q + 1)).n ρ' ρ) (w' := w') (x := x) i.rm i.rn
      (by
        intro q' c' hm' hc' hp'
        rw [hne, ← i.don q' c' hm' hc' hp']
        exact ⟨fun h => h.elim id fun e => absurd e (by omega), .inl⟩)
      (fun h => absurd h (Nat.lt_irrefl _))
      (by
        intro q' hm' hno' o' h1 h2
        rw [hne] at hno'
        have hu := i.un q' hm' (fun h => hno' (.inl h)) o' h1 h2
        have hqq : q' ≠ q := fun e => hno' (.inr e)
        rcases Nat.lt_or_ge q' q with h | h
        · have := (t.abs' (p := q' + 1) (q := q) (by omega) (by omega)).n
          rw [ov0 o' (by omega)]
          exact hu
        · have := (t.abs' (p := q + 1) (q := q') (by omega) (by omega)).n
          rw [ov2 o' (by omega)]
          exact hu)
      gr' post' (fun u y _ h => h.more M1 M2) (Nat.le_refl _) hv' (wf_mono (by rw [← hh'n]; exact hGq1.n) _ hg.2.2)
    rw [hd] at hi
    exact hn _ _ _ _ hi
  · intro u h'' x w' ρ' hs
    rw [hmask] at hs
    cases hs

end
end Go.Vm
