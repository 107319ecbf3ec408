/-
  A region whose order is open: whatever order is drawn, it comes to what the evaluator says.
-/
import Derived.Test.YtkjjpmbpjfmbcaaGreatDoorVmDraw1
set_option linter.unusedVariables false
set_option linter.unusedSimpArgs false
namespace Go.Vm

mutual
theorem VRel.congr {ρ : Rho} {h : H} {ρ' : Rho} {h' : H} {n : Nat} (ag : ∀ o, o < n → ρ' o = ρ o ∧ h'.get o = h.get o) (hn : n ≤ h'.n) : ∀ {v : V} {x : Value}, VRel ρ h v x → wf n v → VRel ρ' h' v x
  | _, _, .int k n, _ => .int k n
  | _, _, .bool b, _ => .bool b
  | _, _, .str s, _ => .str s
  | _, _, .flt x, _ => .flt x
  | _, _, .ptr (o := o) (p := p) e, w => .ptr ((ag o w).1.trans e)
  | _, _, .ptrD (o := o) e1 e2 e3, w => .ptrD (Nat.lt_of_lt_of_le w hn) ((ag o w).1.trans e2) ((ag o w).2.trans e3)
  | _, _, .nil, _ => .nil
  | _, _, .sl (o := o) (p := p) e1 e2 e3 e4 e5 e6, w => .sl ((ag o w).1.trans e1) e2 e3 e4 e5 e6
  | _, _, .slD (o := o) e1 e2 e3, w => .slD (Nat.lt_of_lt_of_le w hn) ((ag o w).1.trans e2) ((ag o w).2.trans e3)
  | _, _, .nils, _ => .nils
  | _, _, .nilm, _ => .nilm
  | _, _, .fn e, w => .fn (VRels.congr ag hn e w)
  | _, _, .nilf, _ => .nilf
  | _, _, .ifc e, w => .ifc (VRel.congr ag hn e w)
  | _, _, .nili, _ => .nili
  | _, _, .agg e, w => .agg (VRels.congr ag hn e w)
  | _, _, .tup e, w => .tup (VRels.congr ag hn e w)
  | _, _, .bot x, _ => .bot x
theorem VRels.congr {ρ : Rho} {h : H} {ρ' : Rho} {h' : H} {n : Nat} (ag : ∀ o, o < n → ρ' o = ρ o ∧ h'.get o = h.get o) (hn : n ≤ h'.n) : ∀ {l : List V} {xs : List Value}, VRels ρ h l xs → wfs n l → VRels ρ' h' l xs
  | _, _, .nil, _ => .nil
  | _, _, .cons a b, w => .cons (VRel.congr ag hn a w.1) (VRels.congr ag hn b w.2)
end

mutual
theorem VRel.more {ρ : Rho} {h : H} {ρ' : Rho} {h' : H} (hs : ∀ o p, ρ o = some p → ρ' o = some p) (hd : ∀ o, o < h.n → ρ o = none → h.get o = .dead → o < h'.n ∧ ρ' o = none ∧ h'.get o = .dead) : ∀ {v : V} {x : Value}, VRel ρ h v x → VRel ρ' h' v x
  | _, _, .int k n => .int k n
  | _, _, .bool b => .bool b
  | _, _, .str s => .str s
  | _, _, .flt x => .flt x
  | _, _, .ptr (o := o) (p := p) e => .ptr (hs o _ e)
  | _, _, .ptrD (o := o) e1 e2 e3 => let ⟨a, b, c⟩ := hd o e1 e2 e3; .ptrD a b c
  | _, _, .nil => .nil
  | _, _, .sl (o := o) (p := p) e1 e2 e3 e4 e5 e6 => .sl (hs o _ e1) e2 e3 e4 e5 e6
  | _, _, .slD (o := o) e1 e2 e3 => let ⟨a, b, c⟩ := hd o e1 e2 e3; .slD a b c
  | _, _, .nils => .nils
  | _, _, .nilm => .nilm
  | _, _, .fn e => .fn (VRels.more hs hd e)
  | _, _, .nilf => .nilf
  | _, _, .ifc e => .ifc (VRel.more hs hd e)
  | _, _, .nili => .nili
  | _, _, .agg e => .agg (VRels.more hs hd e)
  | _, _, .tup e => .tup (VRels.more hs hd e)
  | _, _, .bot x => .bot x
theorem VRels.more {ρ : Rho} {h : H} {ρ' : Rho} {h' : H} (hs : ∀ o p, ρ o = some p → ρ' o = some p) (hd : ∀ o, o < h.n → ρ o = none → h.get o = .dead → o < h'.n ∧ ρ' o = none ∧ h'.get o = .dead) : ∀ {l : List V} {xs : List Value}, VRels ρ h l xs → VRels ρ' h' l xs
  | _, _, .nil => .nil
  | _, _, .cons a b => .cons (VRel.more hs hd a) (VRels.more hs hd b)
end

theorem ORel.map {ρ : Rho} {h : H} {w : World} {ρ' : Rho} {h' : H} {w' : World} {p : Pl} {x : Obj} (r : ORel ρ h w p x) (hb : w'.heap[p.B]? = w.heap[p.B]?)
    (T : ∀ n t sp el fz, x = .c n t sp el fz → ∀ i y, VRel ρ h (t.get .bot i) y → VRel ρ' h' (t.get .bot i) y) : ORel ρ' h' w' p x := by
  cases x with
  | c n t sp el fz =>
    obtain ⟨cs, fr, b1, b2, b3, b4, b5, b6⟩ := r
    exact ⟨cs, fr, hb.trans b1, b2, b3, b4, fun i hi => let ⟨y, y1, y2⟩ := b5 i hi; ⟨y, y1, T n t sp el fz rfl i y y2⟩, b6⟩
  | si n z pos =>
    obtain ⟨s, b1, b2⟩ := r
    exact ⟨s, hb.trans b1, b2⟩
  | m es => exact r.elim
  | dead => exact r.elim

theorem getD_put {a : Act} {dst : Option Nat} {x : Value} {d : Nat} : (a.put dst x).tmps.getD d undef = if dst = some d ∧ d < a.tmps.size then x else a.tmps.getD d undef := by
  cases dst with
  | none => simp [Act.put]
  | some d' =>
    simp only [Act.put, Array.getD_eq_getD_getElem?, Array.getElem?_setIfInBounds, Option.some.injEq]
    by_cases h : d' = d
    · subst h
      by_cases hs : d' < a.tmps.size
      · simp [hs]
      · simp [hs]
    · simp [h]

/-- what is known of a region and of an order in which it runs -/
structure Side (m : Nat) (l : List CI) (B : Nat → Nat → Prop) (full : List Nat) : Prop where
  mle : m ≤ l.length
  dst : ∀ (p q : Nat) (a b : CI) (d : Nat), p ≠ q → l[p]? = some a → l[q]? = some b → a.dst = some d → b.dst ≠ some d
  pr : ∀ (p q : Nat) (a b : CI), p < q → l[p]? = some a → l[q]? = some b → B p q ∨ (writes a b = false ∧ writes b a = false ∧ (q < m ∨ pureOp a.op = true ∨ pureOp b.op = true))
  nd : full.Nodup
  lt : ∀ q ∈ full, q < l.length
  all : ∀ q, q < l.length → q ∈ full
  ord : ∀ l1 q l2, full = l1 ++ q :: l2 → ∀ p, p < l.length → B p q → p ∈ l1

section
variable {P : Program} {call : Nat → List V → H → Res} {nt m : Nat} {ds : List Deferred} {l : List CI} {al : List Nat} {E : Nat → T V} {G : Nat → H} {v : Nat → V} {B : Nat → Nat → Prop} {full : List Nat} {ρ1 : Rho} {w1 : World}

/-- where the run stands, some of the operations done -/
structure DInv (P : Program) (nt : Nat) (ds : List Deferred) (m : Nat) (l : List CI) (E : Nat → T V) (G : Nat → H) (v : Nat → V) (ρ1 : Rho) (w1 : World) (dn : List Nat) (r : Nat) (ρ : Rho) (w : World) (a : Act) : Prop where
  rm : m ≤ r
  rn : r ≤ l.length
  don : ∀ q c, m ≤ q → l[q]? = some c → pureOp c.op = false → (q ∈ dn ↔ q < r)
  rA : m < r → ∀ q c, q < m → l[q]? = some c → pureOp c.op = false → q ∈ dn
  un : ∀ q, q < m → q ∉ dn → ∀ o, (G q).n ≤ o → o < (G (q + 1)).n → ρ o = none
  rel : HRel ρ (G r) w
  gr : GRel P.globals.size ρ (G r)
  post : Post ρ1 (G 0) w1 ρ (G r) w
  sz : a.tmps.size = nt
  df : a.defers = ds
  tmD : ∀ q c d, q ∈ dn → l[q]? = some c → c.dst = some d → d < nt → VRel ρ (G r) (v q) (a.tmps.getD d undef) ∧ wf (G r).n (v q)
  tmO : ∀ d, ((∀ q c, q ∈ dn → l[q]? = some c → c.dst ≠ some d) ∨ nt ≤ d) → VRel ρ (G r) ((E 0).get .bot d) (a.tmps.getD d undef)

theorem lget {c : CI} {q : Nat} (h : l[q]? = some c) : q < l.length := (List.getElem?_eq_some_iff.1 h).1

theorem Side.notin (s : Side m l B full) {dn τ : List Nat} {q : Nat} (hf : full = dn ++ q :: τ) : q ∉ dn := by
  intro hq
  have := s.nd
  rw [hf, List.nodup_append] at this
  exact this.2.2 q hq q (by simp) rfl

theorem Side.after (s : Side m l B full) {dn τ : List Nat} {q p : Nat} (hf : full = dn ++ q :: τ) (hq : q < l.length) (hb : B q p) : p ∉ dn := by
  intro hp
  obtain ⟨x, y, rfl⟩ := List.append_of_mem hp
  have := s.ord x p (y ++ q :: τ) (by rw [hf]; simp) q hq hb
  exact s.notin hf (List.mem_append_left _ this)

theorem writes_of {a b : CI} {d : Nat} (h1 : a.dst = some d) (h2 : d ∈ b.names) : writes a b = true := by
  simp [writes, h1, h2]

/-- what an operation reads is there -/
theorem DInv.read (t : TrG call nt m l E G v) (s : Side m l B full) {dn τ : List Nat} {q r : Nat} {ρ : Rho} {w : World} {a : Act} {c : CI} (hf : full = dn ++ q :: τ) (hc : l[q]? = some c)
    (i : DInv P nt ds m l E G v ρ1 w1 dn r ρ w a) {d : Nat} (hd : d ∈ c.names) : VRel ρ (G r) ((E q).get .bot d) (a.tmps.getD d undef) ∧ wf (G r).n ((E q).get .bot d) := by
  have hq := lget hc
  have h0 : wf (G r).n ((E 0).get .bot d) := wf_mono i.post.abs.n _ (t.we 0 (Nat.zero_le _) d)
  by_cases hex : ∃ (p : Nat) (b : CI), l[p]? = some b ∧ b.dst = some d ∧ d < nt
  · obtain ⟨p, b, hp, hbd, hlt⟩ := hex
    have hw : writes b c = true := writes_of hbd hd
    rcases Nat.lt_trichotomy p q with h | h | h
    · rcases s.pr p q b c h hp hc with hb | ⟨hb, _⟩
      · have hin := s.ord dn q τ hf p (lget hp) hb
        rw [t.tr.hit hp hbd hlt (fun q' b' hne hb' => s.dst p q' b b' d (fun e => hne e.symm) hp hb' hbd) q h (by omega)]
        exact i.tmD p b d hin hp hbd hlt
      · rw [hw] at hb; cases hb
    · subst h
      rw [t.tr.miss p (by omega) (.inl fun p' b' hlt' hb' => s.dst p p' b b' d (by omega) hp hb' hbd)]
      refine ⟨i.tmO d (.inl fun q' c' hq' hc' => s.dst p q' b c' d (fun e => s.notin hf (e ▸ hq')) hp hc' hbd), h0⟩
    · rcases s.pr q p c b h hc hp with hb | ⟨_, hb, _⟩
      · have hno := s.after hf hq hb
        rw [t.tr.miss q (by omega) (.inl fun p' b' hlt' hb' => s.dst p p' b b' d (by omega) hp hb' hbd)]
        refine ⟨i.tmO d (.inl fun q' c' hq' hc' => s.dst p q' b c' d (fun e => hno (e ▸ hq')) hp hc' hbd), h0⟩
      · rw [hw] at hb; cases hb
  · have hall : (∀ (p : Nat) (b : CI), l[p]? = some b → b.dst ≠ some d) ∨ nt ≤ d := by
      by_cases hlt : d < nt
      · exact .inl fun p b hp hbd => hex ⟨p, b, hp, hbd, hlt⟩
      · exact .inr (by omega)
    rw [t.tr.miss q (by omega) (hall.imp (fun h p b _ hb => h p b hb) id)]
    exact ⟨i.tmO d (hall.imp (fun h q' c' _ hc' => h q' c' hc') id), h0⟩

/-- one more operation is done -/
theorem DInv.next (t : TrG call nt m l E G v) (s : Side m l B full) {dn τ : List Nat} {q r : Nat} {ρ : Rho} {w : World} {a : Act} {c : CI} (hf : full = dn ++ q :: τ) (hc : l[q]? = some c)
    (i : DInv P nt ds m l E G v ρ1 w1 dn r ρ w a) {r' : Nat} {ρ' : Rho} {w' : World} {x : Value}
    (rm : m ≤ r') (rn : r' ≤ l.length)
    (don : ∀ q' c', m ≤ q' → l[q']? = some c' → pureOp c'.op = false → (q' ∈ dn ++ [q] ↔ q' < r'))
    (rA : m < r' → ∀ q' c', q' < m → l[q']? = some c' → pureOp c'.op = false → q' ∈ dn ++ [q])
    (un : ∀ q', q' < m → q' ∉ dn ++ [q] → ∀ o, (G q').n ≤ o → o < (G (q' + 1)).n → ρ' o = none)
    (gr : GRel P.globals.size ρ' (G r')) (post : Post ρ1 (G 0) w1 ρ' (G r') w')
    (T : ∀ u y, wf (G r).n u → VRel ρ (G r) u y → VRel ρ' (G r') u y) (hn : (G r).n ≤ (G r').n)
    (hv : VRel ρ' (G r') (v q) x) (wv : wf (G r').n (v q)) : DInv P nt ds m l E G v ρ1 w1 (dn ++ [q]) r' ρ' w' (a.put c.dst x) := by
  refine ⟨rm, rn, don, rA, un, post.rel, gr, post, (put_size _ _).trans i.sz, (put_defers _ _).trans i.df, ?_, ?_⟩
  · intro q' c' d hq' hc' hd hlt
    rw [getD_put]
    rcases List.mem_append.1 hq' with hq' | hq'
    · have hne : c.dst ≠ some d := s.dst q' q c' c d (fun e => s.notin hf (e ▸ hq')) hc' hc hd
      rw [if_neg (fun h => hne h.1)]
      obtain ⟨h1, h2⟩ := i.tmD q' c' d hq' hc' hd hlt
      exact ⟨T _ _ h2 h1, wf_mono hn _ h2⟩
    · simp only [List.mem_singleton] at hq'
      subst hq'
      rw [hc] at hc'
      simp only [Option.some.injEq] at hc'
      subst hc'
      rw [if_pos ⟨hd, by rw [i.sz]; exact hlt⟩]
      exact ⟨hv, wv⟩
  · intro d hd
    have h0 : wf (G r).n ((E 0).get .bot d) := wf_mono i.post.abs.n _ (t.we 0 (Nat.zero_le _) d)
    rw [getD_put, if_neg ?_]
    · exact T _ _ h0 (i.tmO d (hd.imp (fun h q' c' hq' => h q' c' (List.mem_append_left _ hq')) id))
    · rintro ⟨h1, h2⟩
      rw [i.sz] at h2
      rcases hd with h | h
      · exact h q c (by simp) hc h1
      · omega

theorem kept {ρ : Rho} {h : H} {w : World} {ρ' : Rho} {w' : World} (r : HRel ρ h w) (p : Post ρ h w ρ' h w') : ρ' = ρ := by
  funext o
  by_cases ho : o < h.n
  · rcases p.fr.keep o ho with e | ⟨e1, e2⟩
    · exact e
    · rw [e1]
      cases hr : ρ o with
      | none => rfl
      | some q => exact absurd e2 (r.alive hr)
  · have h1 : ρ o = none := by
      cases hr : ρ o with
      | none => rfl
      | some q => exact absurd (r.lt o q hr) ho
    have h2 : ρ' o = none := by
      cases hr : ρ' o with
      | none => rfl
      | some q => exact absurd (p.rel.lt o q hr) ho
    rw [h1, h2]

theorem alive_of_end (t : TrG call nt m l E G v) (ha : aliveAt nt (E l.length) (G l.length) al = true) {d o i : Nat} (hd : d ∈ al) (hv : (E l.length).get .bot d = .ptr o i) : d < nt ∧ alive (G l.length) o = true := by
  clear t
  induction al with
  | nil => cases hd
  | cons x r ih =>
    simp only [aliveAt] at ha
    split at ha
    · rename_i hx
      rcases List.mem_cons.1 hd with rfl | hd
      · rw [hv] at ha
        simp only [Bool.and_eq_true] at ha
        exact ⟨(by simpa using hx), ha.1⟩
      · split at ha
        · simp only [Bool.and_eq_true] at ha
          exact ih ha.2 hd
        · exact ih ha hd
    · cases ha

theorem alive_lt (t : aliveAt nt (E l.length) (G l.length) al = true) {d : Nat} (hd : d ∈ al) : d < nt := by
  induction al with
  | nil => cases hd
  | cons x r ih =>
    simp only [aliveAt] at t
    split at t
    · rename_i hx
      rcases List.mem_cons.1 hd with rfl | hd
      · exact (by simpa using hx)
      · split at t
        · simp only [Bool.and_eq_true] at t
          exact ih t.2 hd
        · exact ih t hd
    · cases t

end
end Go.Vm
