/-
  The run of a region whose order is open: the evaluator's own, step by step.
-/
import Derived.Test.YtkjjpmbpjfmbcaaGreatDoorVmExec3
import Derived.Test.YtkjjpmbpjfmbcaaGreatDoorVmOrder
set_option linter.unusedVariables false
set_option linter.unusedSimpArgs false
namespace Go.Vm
section
variable {call : Nat → List V → H → Res} {nt m : Nat} {l : List CI} {al : List Nat} {k : K} {R : Res}

/-! what an operation reads -/
theorem fill_congr {e e' : T V} : ∀ (ps : List (Nat × Nat × Opd)) (z : List V), (∀ p ∈ ps, opd e' p.2.2 = opd e p.2.2) → fill e' z ps = fill e z ps
  | [], z, _ => rfl
  | (off, n, x) :: r, z, h => by
    have h1 : opd e' x = opd e x := h (off, n, x) (by simp)
    simp only [fill, h1]
    split
    · split
      · exact fill_congr r _ (fun p hp => h p (by simp [hp]))
      · rfl
    · rfl

theorem natOr_congr {e e' : T V} {d : Nat} {x : Option Opd} (h : ∀ y ∈ x.toList, opd e' y = opd e y) : natOr e' d x = natOr e d x := by
  cases x with
  | none => rfl
  | some y => simp only [natOr, h y (by simp)]

theorem bounds_congr {e e' : T V} {n c : Nat} {lo hi mx : Option Opd} (h1 : ∀ y ∈ lo.toList, opd e' y = opd e y) (h2 : ∀ y ∈ hi.toList, opd e' y = opd e y) (h3 : ∀ y ∈ mx.toList, opd e' y = opd e y) : bounds e' n c lo hi mx = bounds e n c lo hi mx := by
  simp only [bounds, natOr_congr h1, natOr_congr h2, natOr_congr h3]

theorem step_congr {e e' : T V} {h : H} {c : COp} (O : ∀ x ∈ c.opds, opd e' x = opd e x) : step call e' h c = step call e h c := by
  cases c
  case bld z ps =>
    have : fill e' z ps = fill e z ps := fill_congr ps z (fun p hp => O _ (by simp only [COp.opds]; exact List.mem_map.2 ⟨p, hp, rfl⟩))
    simp only [step, sBld, this]
  case bsl z len s el ps =>
    have : fill e' (repl z len) ps = fill e (repl z len) ps := fill_congr ps _ (fun p hp => O _ (by simp only [COp.opds]; exact List.mem_map.2 ⟨p, hp, rfl⟩))
    simp only [step, sBsl, this]
  case mkf f l =>
    have : l.map (opd e') = l.map (opd e) := List.map_congr_left O
    simp only [step, this]
  case calf f l =>
    have : l.map (opd e') = l.map (opd e) := List.map_congr_left O
    simp only [step, this]
  case mm b l =>
    have : l.map (opd e') = l.map (opd e) := List.map_congr_left O
    simp only [step, this]
  case calv f l =>
    have h1 : opd e' f = opd e f := O f (by simp [COp.opds])
    have : l.map (opd e') = l.map (opd e) := List.map_congr_left (fun x hx => O x (by simp [COp.opds, hx]))
    simp only [step, this, h1]
  case slt x lo hi =>
    have h1 : opd e' x = opd e x := O x (by simp [COp.opds])
    have h2 : ∀ n c, bounds e' n c lo hi none = bounds e n c lo hi none := fun n c => bounds_congr (fun y hy => O y (by simp only [COp.opds, List.mem_append, List.mem_cons]; exact .inl (.inr hy))) (fun y hy => O y (by simp only [COp.opds, List.mem_append, List.mem_cons]; exact .inr hy)) (fun y hy => by cases hy)
    simp only [step, sSlt, h1, h2]
  case sls s x lo hi mx =>
    have h1 : opd e' x = opd e x := O x (by simp [COp.opds])
    have h2 : ∀ n c, bounds e' n c lo hi mx = bounds e n c lo hi mx := fun n c => bounds_congr (fun y hy => O y (by simp only [COp.opds, List.mem_append, List.mem_cons]; exact .inl (.inl (.inr hy)))) (fun y hy => O y (by simp only [COp.opds, List.mem_append, List.mem_cons]; exact .inl (.inr hy))) (fun y hy => O y (by simp only [COp.opds, List.mem_append, List.mem_cons]; exact .inr hy))
    simp only [step, sSls, h1, h2]
  case slp s n x lo hi mx =>
    have h1 : opd e' x = opd e x := O x (by simp [COp.opds])
    have h2 : ∀ n c, bounds e' n c lo hi mx = bounds e n c lo hi mx := fun n c => bounds_congr (fun y hy => O y (by simp only [COp.opds, List.mem_append, List.mem_cons]; exact .inl (.inl (.inr hy)))) (fun y hy => O y (by simp only [COp.opds, List.mem_append, List.mem_cons]; exact .inl (.inr hy))) (fun y hy => O y (by simp only [COp.opds, List.mem_append, List.mem_cons]; exact .inr hy))
    simp only [step, sSlp, h1, h2]
  all_goals
    simp only [COp.opds, List.mem_cons, List.not_mem_nil, or_false, forall_eq_or_imp, forall_eq] at O
    simp only [step, O]

/-- an operation that neither reads nor turns memory does so in whatever heap -/
theorem pure_step {e : T V} {h h1 : H} {c : COp} {v : V} (hp : pureOp c = true) (hs : step call e h c = .ok v h1) :
    h1 = h ∧ ∀ hX : H, (ptrOp c = true → ∀ o i, v = .ptr o i → alive hX o = true) → step call e hX c = .ok v hX := by
  cases c <;> simp only [pureOp, Bool.false_eq_true] at hp
  case nck x =>
    simp only [step, sNck] at hs ⊢
    split at hs
    · rename_i o i hx
      split at hs
      · injection hs with e1 e2
        exact ⟨e2.symm, fun hX ha => by rw [ha rfl o i e1.symm]; simp [e1]⟩
      · cases hs
    · injection hs with e1 e2
      exact ⟨e2.symm, fun hX _ => by rw [e1]⟩
    · cases hs
  case fad off x =>
    simp only [step, sFad] at hs ⊢
    split at hs
    · rename_i o i hx
      split at hs
      · injection hs with e1 e2
        exact ⟨e2.symm, fun hX ha => by rw [ha rfl o (i + off) e1.symm]; simp [e1]⟩
      · cases hs
    · cases hs
  all_goals
    simp only [step, give, sPick, sBld, sEqs, sCvi, sCvs, sSlt, sFld, partOf, sIxa, sIxt, sExt, sLnt, sMm] at hs ⊢
    refine ⟨?_, fun hX _ => ?_⟩
    · repeat' (first | (injection hs with e1 e2; exact e2.symm) | (cases hs; done) | split at hs)
    · repeat' (first | (injection hs with e1 e2; subst e1; first | rfl | (simp_all; done)) | (cases hs; done) | split at hs)

theorem ptr_from {e : T V} {h h1 : H} {c : COp} {o i : Nat} (hp : ptrOp c = true) (hs : step call e h c = .ok (.ptr o i) h1) : ∃ x ∈ c.opds, ∃ j, opd e x = .ptr o j := by
  cases c <;> simp only [ptrOp, Bool.false_eq_true] at hp
  case nck x =>
    simp only [step, sNck] at hs
    split at hs
    · rename_i o' i' hx
      split at hs
      · injection hs with e1 e2
        injection e1 with e1 e3
        subst e1
        exact ⟨x, by simp [COp.opds], i', hx⟩
      · cases hs
    · injection hs with e1 e2; cases e1
    · cases hs
  case fad off x =>
    simp only [step, sFad] at hs
    split at hs
    · rename_i o' i' hx
      split at hs
      · injection hs with e1 e2
        injection e1 with e1 e3
        subst e1
        exact ⟨x, by simp [COp.opds], i', hx⟩
      · cases hs
    · cases hs

/-- the run, step by step -/
structure Tr (call : Nat → List V → H → Res) (nt m : Nat) (l : List CI) (E : Nat → T V) (G : Nat → H) (v : Nat → V) : Prop where
  kn : ∀ q c, l[q]? = some c → known (E q) c.g = true
  env : ∀ q c, l[q]? = some c → E (q + 1) = put nt (E q) c.dst (v q)
  skip : ∀ q c, l[q]? = some c → want (E q) c.g = false → v q = .tup [] ∧ G (q + 1) = G q
  stp : ∀ q c, l[q]? = some c → want (E q) c.g = true → ∃ h', step call (E q) ((G q).top (m - q)) c.op = .ok (v q) h' ∧ G (q + 1) = h'.lower (G q).fl

def fore {α : Type} (x : α) (f : Nat → α) : Nat → α
  | 0 => x
  | n + 1 => f n

theorem runDraw_tr : ∀ (l : List CI) (m : Nat) (e : T V) (h : H), runDraw call nt al l m e h k = R → R ≠ .no →
    ∃ E G v, E 0 = e ∧ G 0 = h ∧ Tr call nt m l E G v ∧ aliveAt nt (E l.length) (G l.length) al = true ∧ k (E l.length) (G l.length) = R
  | [], m, e, h, hr, hR => by
    simp only [runDraw] at hr
    split at hr
    · rename_i ha
      exact ⟨fun _ => e, fun _ => h, fun _ => .bot, rfl, rfl, ⟨fun q c h => by simp at h, fun q c h => by simp at h, fun q c h => by simp at h, fun q c h => by simp at h⟩, ha, hr⟩
    · exact absurd hr.symm hR
  | i :: l, m, e, h, hr, hR => by
    simp only [runDraw] at hr
    split at hr
    · exact absurd hr.symm hR
    · rename_i hk
      have hk : known e i.g = true := by simpa using hk
      split at hr
      · rename_i hw
        split at hr
        · rename_i u h' hst
          obtain ⟨E, G, v, h0, h1, t, ha, hkk⟩ := runDraw_tr l (m - 1) _ _ hr hR
          refine ⟨fore e E, fore h G, fore u v, rfl, rfl, ⟨?_, ?_, ?_, ?_⟩, ha, hkk⟩
          · intro q c hc
            cases q with
            | zero => simp at hc; subst hc; exact hk
            | succ q => exact t.kn q c (by simpa using hc)
          · intro q c hc
            cases q with
            | zero => simp at hc; subst hc; exact h0
            | succ q => exact t.env q c (by simpa using hc)
          · intro q c hc hww
            cases q with
            | zero => simp at hc; subst hc; rw [show fore e E 0 = e from rfl, hw] at hww; cases hww
            | succ q => exact t.skip q c (by simpa using hc) hww
          · intro q c hc hww
            cases q with
            | zero => simp at hc; subst hc; exact ⟨h', hst, h1⟩
            | succ q =>
              have := t.stp q c (by simpa using hc) hww
              rw [show m - 1 - q = m - (q + 1) by omega] at this
              exact this
        · exact absurd hr.symm hR
      · rename_i hw
        obtain ⟨E, G, v, h0, h1, t, ha, hkk⟩ := runDraw_tr l (m - 1) _ _ hr hR
        refine ⟨fore e E, fore h G, fore (.tup []) v, rfl, rfl, ⟨?_, ?_, ?_, ?_⟩, ha, hkk⟩
        · intro q c hc
          cases q with
          | zero => simp at hc; subst hc; exact hk
          | succ q => exact t.kn q c (by simpa using hc)
        · intro q c hc
          cases q with
          | zero => simp at hc; subst hc; exact h0
          | succ q => exact t.env q c (by simpa using hc)
        · intro q c hc hww
          cases q with
          | zero => simp at hc; subst hc; exact ⟨rfl, h1⟩
          | succ q => exact t.skip q c (by simpa using hc) hww
        · intro q c hc hww
          cases q with
          | zero => simp at hc; subst hc; exact absurd hww hw
          | succ q =>
            have := t.stp q c (by simpa using hc) hww
            rw [show m - 1 - q = m - (q + 1) by omega] at this
            exact this

/-- .. and in order -/
structure TrG (call : Nat → List V → H → Res) (nt m : Nat) (l : List CI) (E : Nat → T V) (G : Nat → H) (v : Nat → V) : Prop where
  tr : Tr call nt m l E G v
  wh : ∀ q, q ≤ l.length → wfh (G q)
  we : ∀ q, q ≤ l.length → wfe (G q).n (E q)
  abs : ∀ q, q < l.length → Abs (G q) (G (q + 1))
  wv : ∀ q, q < l.length → wf (G (q + 1)).n (v q)
  low : ∀ q, q < l.length → q < m → ∀ o, o < (G q).n → (G (q + 1)).get o = (G q).get o

variable {E : Nat → T V} {G : Nat → H} {v : Nat → V}

theorem Tr.good {GG : Nat} (t : Tr call nt m l E G v) (hgood : CallGood GG call) (hl : cisWf GG l) (hG : GG ≤ (G 0).n) (w : wfh (G 0)) (we : wfe (G 0).n (E 0)) : TrG call nt m l E G v := by
  have one : ∀ q c, l[q]? = some c → GG ≤ (G q).n → wfh (G q) → wfe (G q).n (E q) → Abs (G q) (G (q + 1)) ∧ wfh (G (q + 1)) ∧ wf (G (q + 1)).n (v q) ∧ wfe (G (q + 1)).n (E (q + 1)) ∧ (q < m → ∀ o, o < (G q).n → (G (q + 1)).get o = (G q).get o) := by
    intro q c hc hG w we
    have henv := t.env q c hc
    cases hw : want (E q) c.g with
    | false =>
      obtain ⟨h1, h2⟩ := t.skip q c hc hw
      rw [h2, henv, h1]
      exact ⟨.refl _, w, trivial, wfe_put we (show wf _ (.tup []) from trivial) _, fun _ _ _ => rfl⟩
    | true =>
      obtain ⟨h', h1, h2⟩ := t.stp q c hc hw
      have hg := step_good hgood (h := (G q).top (m - q)) (by rw [top_n]; exact hG) (wfh_top w _) (by rw [top_n]; exact we) (copWf_mono (by rw [top_n]; exact hG) (hl c (List.mem_of_getElem? hc)))
      rw [h1] at hg
      obtain ⟨a, w', hv⟩ := hg
      have b := abs_lower w a
      rw [h2, henv]
      refine ⟨b, wfh_lower w a w', hv, wfe_put (wfe_mono b.n we) hv _, ?_⟩
      intro hqm o ho
      have : ∃ j, m - q = j + 1 := ⟨m - q - 1, by omega⟩
      obtain ⟨j, hj⟩ := this
      rw [hj] at a
      exact a.low o ho
  have all : ∀ q, q ≤ l.length → GG ≤ (G q).n ∧ wfh (G q) ∧ wfe (G q).n (E q) := by
    intro q
    induction q with
    | zero => exact fun _ => ⟨hG, w, we⟩
    | succ q ih =>
      intro hq
      obtain ⟨a, b, c⟩ := ih (by omega)
      have hget : l[q]? = some l[q] := List.getElem?_eq_getElem (by omega)
      obtain ⟨x1, x2, x3, x4, _⟩ := one q _ hget a b c
      exact ⟨Nat.le_trans a x1.n, x2, x4⟩
  have one' : ∀ q, q < l.length → _ := fun q hq => one q l[q] (List.getElem?_eq_getElem hq) (all q (by omega)).1 (all q (by omega)).2.1 (all q (by omega)).2.2
  exact ⟨t, fun q hq => (all q hq).2.1, fun q hq => (all q hq).2.2, fun q hq => (one' q hq).1, fun q hq => (one' q hq).2.2.1, fun q hq => (one' q hq).2.2.2.2⟩

theorem TrG.abs_le (t : TrG call nt m l E G v) : ∀ (d q : Nat), q + d ≤ l.length → Abs (G q) (G (q + d))
  | 0, q, _ => .refl _
  | d + 1, q, h => (t.abs_le d q (by omega)).trans (t.abs (q + d) (by omega))

theorem TrG.abs' (t : TrG call nt m l E G v) {p q : Nat} (hpq : p ≤ q) (hq : q ≤ l.length) : Abs (G p) (G q) := by
  have := t.abs_le (q - p) p (by omega)
  rwa [show p + (q - p) = q by omega] at this

/-- among the first m, what is there stays as it is -/
theorem TrG.low_le (t : TrG call nt m l E G v) : ∀ (d q : Nat), q + d ≤ l.length → q + d ≤ m → ∀ o, o < (G q).n → (G (q + d)).get o = (G q).get o
  | 0, q, _, _, o, _ => rfl
  | d + 1, q, h, hm, o, ho => by
    have h1 := t.low_le d q (by omega) (by omega) o ho
    have h2 := t.low (q + d) (by omega) (by omega) o (Nat.lt_of_lt_of_le ho (t.abs_le d q (by omega)).n)
    rw [show q + (d + 1) = q + d + 1 by omega, h2, h1]

theorem TrG.low' (t : TrG call nt m l E G v) {p q : Nat} (hpq : p ≤ q) (hq : q ≤ l.length) (hm : q ≤ m) (o : Nat) (ho : o < (G p).n) : (G q).get o = (G p).get o := by
  have := t.low_le (q - p) p (by omega) (by omega) o ho
  rwa [show p + (q - p) = q by omega] at this

theorem lower_top (h : H) (m : Nat) : (h.top m).lower h.fl = h := by cases h; cases m <;> rfl

theorem Tr.pure (t : Tr call nt m l E G v) {q : Nat} {c : CI} (hc : l[q]? = some c) (hp : pureOp c.op = true) : G (q + 1) = G q := by
  cases hw : want (E q) c.g with
  | false => exact (t.skip q c hc hw).2
  | true =>
    obtain ⟨h', h1, h2⟩ := t.stp q c hc hw
    obtain ⟨h3, _⟩ := pure_step hp h1
    rw [h2, h3, lower_top]

/-- what the environment holds -/
theorem Tr.hit (t : Tr call nt m l E G v) {p : Nat} {a : CI} {d : Nat} (hp : l[p]? = some a) (hd : a.dst = some d) (hlt : d < nt) (hne : ∀ q b, q ≠ p → l[q]? = some b → b.dst ≠ some d) :
    ∀ q, p < q → q ≤ l.length → (E q).get .bot d = v p := by
  intro q
  induction q with
  | zero => intro h; omega
  | succ q ih =>
    intro hpq hq
    have hget : l[q]? = some l[q] := List.getElem?_eq_getElem (by omega)
    rw [t.env q _ hget]
    by_cases hqp : q = p
    · subst hqp
      rw [hp] at hget
      simp only [Option.some.injEq] at hget
      rw [← hget, hd]
      simp [put, hlt, T.get_set]
    · have h1 := hne q _ hqp hget
      have h2 := ih (by omega) (by omega)
      unfold put
      split
      · rename_i d' hd'
        split
        · rw [T.get_set, if_neg (fun e => h1 (by rw [hd', e])), h2]
        · exact h2
      · exact h2

theorem Tr.miss (t : Tr call nt m l E G v) {d : Nat} : ∀ q, q ≤ l.length → ((∀ p b, p < q → l[p]? = some b → b.dst ≠ some d) ∨ nt ≤ d) → (E q).get .bot d = (E 0).get .bot d := by
  intro q
  induction q with
  | zero => intros; rfl
  | succ q ih =>
    intro hq h
    have hget : l[q]? = some l[q] := List.getElem?_eq_getElem (by omega)
    have h2 := ih (by omega) (h.imp (fun h p b hp => h p b (by omega)) id)
    rw [t.env q _ hget]
    unfold put
    split
    · rename_i d' hd'
      split
      · rename_i hlt
        rw [T.get_set, if_neg ?_, h2]
        intro e
        subst e
        rcases h with h | h
        · exact h q _ (by omega) hget hd'
        · omega
      · exact h2
    · exact h2

/-! a part of an environment -/
noncomputable def mask (e : T V) : List Nat → T V
  | [] => .lf
  | i :: r => (mask e r).set .bot i (e.get .bot i)

theorem get_mask (e : T V) (i : Nat) : ∀ (l : List Nat), (i ∈ l → (mask e l).get .bot i = e.get .bot i) ∧ (i ∉ l → (mask e l).get .bot i = .bot)
  | [] => ⟨fun h => (by cases h), fun _ => T.get_lf _ _⟩
  | j :: r => by
    obtain ⟨h1, h2⟩ := get_mask e i r
    simp only [mask, T.get_set]
    by_cases hij : j = i
    · subst hij
      exact ⟨fun _ => by simp, fun h => absurd (by simp) h⟩
    · rw [if_neg hij]
      refine ⟨fun h => h1 ?_, fun h => h2 fun hm => h (by simp [hm])⟩
      rcases List.mem_cons.1 h with rfl | h
      · exact absurd rfl hij
      · exact h

def CI.reads (c : CI) : List Nat := c.op.opds.filterMap tmpOf ++ (match c.g with
  | some (t, _) => [t]
  | none => [])

theorem reads_names {c : CI} {d : Nat} (h : d ∈ c.reads) : d ∈ c.names := by
  unfold CI.reads at h
  unfold CI.names
  rcases List.mem_append.1 h with h | h
  · exact List.mem_append_left _ (List.mem_append_right _ h)
  · exact List.mem_append_right _ h

theorem mask_opd {e : T V} {c : CI} {x : Opd} (hx : x ∈ c.op.opds) : opd (mask e c.reads) x = opd e x := by
  cases x with
  | c v => rfl
  | t i =>
    refine (get_mask e i c.reads).1 ?_
    unfold CI.reads
    exact List.mem_append_left _ (List.mem_filterMap.2 ⟨_, hx, rfl⟩)

theorem mask_guard {e : T V} {c : CI} : known (mask e c.reads) c.g = known e c.g ∧ want (mask e c.reads) c.g = want e c.g := by
  cases hg : c.g with
  | none => exact ⟨rfl, rfl⟩
  | some tb =>
    obtain ⟨t, b⟩ := tb
    have : t ∈ c.reads := by unfold CI.reads; rw [hg]; simp
    simp only [known, want, (get_mask e t c.reads).1 this, and_self]

end
end Go.Vm
