/-
  A region whose order is open: the whole.
-/
import Derived.Test.YtkjjpmbpjfmbcaaGreatDoorVmDraw4
set_option linter.unusedVariables false
set_option linter.unusedSimpArgs false
namespace Go.Vm
section
variable {P : Program} {call : Nat → List V → H → Res} {nt m : Nat} {ds : List Deferred} {l : List CI} {al : List Nat} {E : Nat → T V} {G : Nat → H} {v : Nat → V} {B : Nat → Nat → Prop} {full : List Nat} {ρ1 : Rho} {w1 : World}

/-- all are done -/
theorem DInv.done (t : TrG call nt m l E G v) (s : Side m l B full) {r : Nat} {ρ : Rho} {w : World} {a : Act} (i : DInv P nt ds m l E G v ρ1 w1 full r ρ w a) :
    Cx P ρ (G l.length) w (E l.length) a ∧ Post ρ1 (G 0) w1 ρ (G l.length) w := by
  have hpure : ∀ d, r + d ≤ l.length → G (r + d) = G r := by
    intro d
    induction d with
    | zero => intro _; rfl
    | succ d ih =>
      intro hd
      have hget : l[r + d]? = some l[r + d] := List.getElem?_eq_getElem (by omega)
      have h1 := ih (by omega)
      rcases pure_or l[r + d] with h | h
      · rw [show r + (d + 1) = r + d + 1 by omega, t.tr.pure hget h, h1]
      · have h3 := (i.don (r + d) _ (by have := i.rm; omega) hget h).1 (s.all _ (by omega))
        omega
  have hG : G l.length = G r := by
    have := hpure (l.length - r) (by have := i.rn; omega)
    rwa [show r + (l.length - r) = l.length by have := i.rn; omega] at this
  rw [hG]
  refine ⟨⟨i.rel, t.wh r i.rn, by rw [← hG]; exact t.we _ (Nat.le_refl _), ?_, i.gr⟩, i.post⟩
  intro d
  by_cases hex : ∃ (p : Nat) (b : CI), l[p]? = some b ∧ b.dst = some d ∧ d < nt
  · obtain ⟨p, b, hp, hbd, hlt⟩ := hex
    rw [t.tr.hit hp hbd hlt (fun q' b' hne hb' => s.dst p q' b b' d (fun e => hne e.symm) hp hb' hbd) l.length (lget hp) (Nat.le_refl _)]
    exact (i.tmD p b d (s.all p (lget hp)) hp hbd hlt).1
  · have hall : (∀ (p : Nat) (b : CI), l[p]? = some b → b.dst ≠ some d) ∨ nt ≤ d := by
      by_cases hlt : d < nt
      · exact .inl fun p b hp hbd => hex ⟨p, b, hp, hbd, hlt⟩
      · exact .inr (by omega)
    rw [t.tr.miss l.length (Nat.le_refl _) (hall.imp (fun h p b _ hb => h p b hb) id)]
    exact i.tmO d (hall.imp (fun h q' c' _ hc' => h q' c' hc') id)

theorem draw_run (hgood : CallGood P.globals.size call) (hcall : CallSim P call) (hG0 : P.globals.size ≤ (G 0).n) (t : TrG call nt m l E G v) (s : Side m l B full)
    (hal : aliveAt nt (E l.length) (G l.length) al = true) (hala : ∀ c ∈ l, ptrOp c.op = true → ∃ d, c.dst = some d ∧ d ∈ al)
    {ops : Array Oper} {f : Nat → Nat} (hci : ∀ q c, l[q]? = some c → f q < ops.size ∧ ciOf P ops (ops.getD (f q) default) = some c) {Q : Exit → Act → World → Prop}
    (hn : ∀ r ρ w a, DInv P nt ds m l E G v ρ1 w1 full r ρ w a → Q .normal a w) :
    ∀ (τ dn : List Nat) (r : Nat) (ρ : Rho) (w : World) (a : Act), full = dn ++ τ → DInv P nt ds m l E G v ρ1 w1 dn r ρ w a → wpOps P ops Q (τ.map f) a w
  | [], dn, r, ρ, w, a, hf, i => by
    rw [List.append_nil] at hf
    subst hf
    exact hn r ρ w a i
  | q :: τ, dn, r, ρ, w, a, hf, i => by
    have hq : q < l.length := s.lt q (by rw [hf]; simp)
    have hc : l[q]? = some l[q] := List.getElem?_eq_getElem hq
    generalize l[q] = c at hc
    obtain ⟨hlt, hci'⟩ := hci q c hc
    obtain ⟨e1, e2, e3⟩ := ciOf_some hci'
    have hget := getD_lt hlt
    generalize ops.getD (f q) default = o at *
    have IH := fun r ρ w a => draw_run hgood hcall hG0 t s hal hala hci hn τ (dn ++ [q]) r ρ w a (by rw [hf]; simp)
    simp only [List.map_cons, wpOps, hget]
    have cx := i.cx t s hf hc
    have hk := t.tr.kn q c hc
    have hwant : Region.wanted o (yielded ops a.tmps) = want (E q) c.g := by
      rw [wanted_rel e3 cx.er (by rw [mask_guard.1]; exact hk), mask_guard.2]
    rw [hwant]
    cases hw : want (E q) c.g with
    | false =>
      simp only [Bool.false_eq_true, if_false]
      obtain ⟨h1, h2⟩ := t.tr.skip q c hc hw
      obtain ⟨r', hi⟩ := i.same t s hf hc (.inr hw) (.refl i.rel) (x := undef) (by rw [h1]; exact undef_rel) (by rw [h1]; trivial)
      rw [e1] at hi
      exact IH r' ρ w _ hi
    | true =>
      simp only [if_true]
      refine .inl ?_
      rcases pure_or c with hp | hp
      · exact i.pure hgood hcall t s hf hc hal (hala c (List.mem_of_getElem? hc)) e2 e1 hp hw fun r' ρ' w' x hi => IH r' ρ' w' _ hi
      · rcases Nat.lt_or_ge q m with hm | hm
        · exact i.early hgood hcall hG0 t s hf hc e2 e1 hp hm hw fun r' ρ' w' x hi => IH r' ρ' w' _ hi
        · exact i.late hgood hcall t s hf hc e2 e1 hp hm hw fun r' ρ' w' x hi => IH r' ρ' w' _ hi

theorem cisOf_get {ops : Array Oper} : ∀ (L : List Oper) (l : List CI), cisOf P ops L = some l → l.length = L.length ∧ ∀ (q : Nat) (c : CI), l[q]? = some c → ∃ o, L[q]? = some o ∧ ciOf P ops o = some c
  | [], l, h => by simp only [cisOf, Option.some.injEq] at h; subst h; exact ⟨rfl, fun q c h => by simp at h⟩
  | o :: L, l, h => by
    simp only [cisOf] at h
    split at h
    · rename_i c l' hc hl
      simp only [Option.some.injEq] at h; subst h
      obtain ⟨h1, h2⟩ := cisOf_get L l' hl
      refine ⟨by simp [h1], fun q c' hq => ?_⟩
      cases q with
      | zero => simp at hq; subst hq; exact ⟨o, rfl, hc⟩
      | succ q => simpa using h2 q c' (by simpa using hq)
    · cases h

theorem pairsOk_spec {bs : List Nat} : ∀ (L : List (Nat × CI)) (p0 : Nat), pairsOk bs m p0 L = true → ∀ (p q i k : Nat) (a b : CI), p < q → L[p]? = some (i, a) → L[q]? = some (k, b) → pairOk bs m (p0 + q) i k a b = true
  | [], _, _, p, q, i, k, a, b, _, h, _ => by simp at h
  | (i0, a0) :: L, p0, hp, p, q, i, k, a, b, hpq, h1, h2 => by
    simp only [pairsOk, Bool.and_eq_true, List.all_eq_true] at hp
    obtain ⟨hp1, hp2⟩ := hp
    cases q with
    | zero => omega
    | succ q =>
      cases p with
      | zero =>
        simp only [List.getElem?_cons_zero, Option.some.injEq, Prod.mk.injEq] at h1
        obtain ⟨rfl, rfl⟩ := h1
        have h2' : L[q]? = some (k, b) := by simpa using h2
        have := hp1 ((k, b), p0 + 1 + q) (by rw [List.mk_mem_zipIdx_iff_le_and_getElem?_sub]; exact ⟨by omega, by rw [show p0 + 1 + q - (p0 + 1) = q by omega]; exact h2'⟩)
        simpa [show p0 + 1 + q = p0 + (q + 1) by omega] using this
      | succ p =>
        have := pairsOk_spec L (p0 + 1) hp2 p q i k a b (by omega) (by simpa using h1) (by simpa using h2)
        rwa [show p0 + 1 + q = p0 + (q + 1) by omega] at this

theorem getD_idxOf {l : List Nat} {i : Nat} (h : i ∈ l) : l.getD (l.idxOf i) 0 = i ∧ l.idxOf i < l.length := by
  have hlt : l.idxOf i < l.length := List.idxOf_lt_length_iff.2 h
  refine ⟨?_, hlt⟩
  rw [List.getD_eq_getElem?_getD, List.getElem?_eq_getElem hlt, Option.getD_some]
  exact List.getElem_idxOf hlt

theorem draw_sound (hgood : CallGood P.globals.size call) (hcall : CallSim P call) : DrawSim P call := by
  intro id ops m al ord l hd nt ds ρ0 h0 w0 ρ h w e a R rk x k hR s hr
  obtain ⟨hcis, hok⟩ := drawOf_some hd
  simp only [drawOk, Bool.and_eq_true] at hok
  obtain ⟨⟨⟨⟨⟨⟨⟨⟨o1, o2⟩, o3⟩, o4⟩, o5⟩, o6⟩, o7⟩, o8⟩, o9⟩ := hok
  have o4 : ord.length = ops.size := by simpa using o4
  have o5 : m ≤ ops.size := by simpa using o5
  have o6 : ∀ i, i < ops.size → i ∈ ord := by
    simp only [List.all_eq_true, List.mem_range, List.contains_iff_mem] at o6; exact o6
  have o7 : ∀ i ∈ ord, i < ops.size := by
    simp only [List.all_eq_true] at o7; intro i hi; simpa using o7 i hi
  obtain ⟨hlen, hget⟩ := cisOf_get _ _ hcis
  have hlen : l.length = ord.length := by rw [hlen]; simp [ordered]
  have hord : ∀ q, q < l.length → ord[q]? = some (ord.getD q 0) := fun q hq => by
    rw [List.getD_eq_getElem?_getD, List.getElem?_eq_getElem (by omega)]; rfl
  have hci : ∀ q c, l[q]? = some c → ord.getD q 0 < ops.size ∧ ciOf P ops (ops.getD (ord.getD q 0) default) = some c := by
    intro q c hc
    obtain ⟨o, ho, hco⟩ := hget q c hc
    have := hord q (lget hc)
    simp only [ordered, List.getElem?_map, this, Option.map_some, Option.some.injEq] at ho
    subst ho
    exact ⟨o7 _ (List.mem_of_getElem? this), hco⟩
  have hzip : ∀ q c, l[q]? = some c → (ord.zip l)[q]? = some (ord.getD q 0, c) := by
    intro q c hc
    rw [List.getElem?_zip_eq_some]
    exact ⟨hord q (lget hc), hc⟩
  have hpair : ∀ (p q : Nat) (a b : CI), p < q → l[p]? = some a → l[q]? = some b → pairOk (befGo ops.toList []) m q (ord.getD p 0) (ord.getD q 0) a b = true := by
    intro p q a b hpq hp hq
    have := pairsOk_spec (ord.zip l) 0 o8 p q _ _ a b hpq (hzip p a hp) (hzip q b hq)
    rwa [Nat.zero_add] at this
  have hinj : ∀ p q, p < q → q < l.length → ord.getD p 0 ≠ ord.getD q 0 := by
    intro p q hpq hq
    have := hpair p q _ _ hpq (List.getElem?_eq_getElem (by omega)) (List.getElem?_eq_getElem hq)
    simp only [pairOk, Bool.and_eq_true, Bool.not_eq_true'] at this
    intro he
    have h1 := this.1.1
    rw [he] at h1
    simp at h1
  have hinj' : ∀ p q, p < l.length → q < l.length → ord.getD p 0 = ord.getD q 0 → p = q := by
    intro p q hp hq he
    rcases Nat.lt_trichotomy p q with h | h | h
    · exact absurd he (hinj p q h hq)
    · exact h
    · exact absurd he.symm (hinj q p h hp)
  obtain ⟨E, G, v, hE, hG, t, hal, hk⟩ := runDraw_tr l m e h hr hR
  have hcw : cisWf P.globals.size l := cisWf_of _ _ hcis
  subst hE hG
  have tg := t.good hgood hcw s.cx.gr.1 s.cx.wh s.cx.we
  refine wp_region_draw fun tt => ?_
  generalize hσ : Region.schedule (P.follows .mixedOrders) ops tt = σ
  have hO : Order .any ops σ := by rw [← hσ]; exact schedule_order o1 o2 o3 _ _
  have hmap : (σ.map ord.idxOf).map (fun q => ord.getD q 0) = σ := by
    rw [List.map_map]
    have : ∀ i ∈ σ, ((fun q => ord.getD q 0) ∘ ord.idxOf) i = i := fun i hi => (getD_idxOf (o6 i (hO.lt i hi))).1
    rw [List.map_congr_left this, List.map_id']
  have side : Side m l (fun p q => ((befGo ops.toList []).getD (ord.getD q 0) 0).testBit (ord.getD p 0) = true) (σ.map ord.idxOf) := by
    refine ⟨by omega, ?_, ?_, ?_, ?_, ?_, ?_⟩
    · have lt' : ∀ (p q : Nat) (a b : CI), p < q → l[p]? = some a → l[q]? = some b → sameDst a b = false := by
        intro p q a b hpq hp hq
        have := hpair p q a b hpq hp hq
        simp only [pairOk, Bool.and_eq_true, Bool.not_eq_true'] at this
        exact this.1.2
      intro p q a b d hne hp hq had hbd
      rcases Nat.lt_or_ge p q with h | h
      · have := lt' p q a b h hp hq
        simp [sameDst, had, hbd] at this
      · have := lt' q p b a (by omega) hq hp
        simp [sameDst, had, hbd] at this
    · intro p q a b hpq hp hq
      have := hpair p q a b hpq hp hq
      simp only [pairOk, Bool.and_eq_true, Bool.or_eq_true, Bool.not_eq_true'] at this
      rcases this.2 with h | ⟨⟨h1, h2⟩, h3⟩
      · exact .inl h
      · refine .inr ⟨h1, h2, ?_⟩
        rcases h3 with (h3 | h3) | h3
        · exact .inl (by simpa using h3)
        · exact .inr (.inl h3)
        · exact .inr (.inr h3)
    · have h1 : ((σ.map ord.idxOf).map (fun q => ord.getD q 0)).Nodup := by rw [hmap]; exact hO.nd
      unfold List.Nodup at h1 ⊢
      rw [List.pairwise_map] at h1
      exact h1.imp fun hne he => hne (by rw [he])
    · intro q hq
      obtain ⟨i, hi, rfl⟩ := List.mem_map.1 hq
      rw [hlen]
      exact (getD_idxOf (o6 i (hO.lt i hi))).2
    · intro q hq
      have hm : ord.getD q 0 ∈ ord := List.mem_of_getElem? (hord q hq)
      refine List.mem_map.2 ⟨ord.getD q 0, hO.all _ (o7 _ hm), ?_⟩
      obtain ⟨h1, h2⟩ := getD_idxOf hm
      exact hinj' _ _ (by omega) hq h1
    · intro l1 q l2 hfull p hp hb
      have hs : σ = l1.map (fun q => ord.getD q 0) ++ ord.getD q 0 :: l2.map (fun q => ord.getD q 0) := by
        rw [← hmap, hfull]; simp
      have := before_of hO _ _ hb _ _ hs
      obtain ⟨p', hp', he⟩ := List.mem_map.1 this
      have hlt : p' < l.length := by
        have : p' ∈ σ.map ord.idxOf := by rw [hfull]; exact List.mem_append_left _ hp'
        obtain ⟨i, hi, rfl⟩ := List.mem_map.1 this
        rw [hlen]
        exact (getD_idxOf (o6 i (hO.lt i hi))).2
      have := hinj' p' p hlt hp he
      exact this ▸ hp'
  rw [← hmap]
  have hml : m ≤ l.length := by omega
  have low : ∀ o, o < (G 0).n → (G m).get o = (G 0).get o := fun o ho => tg.low' (Nat.zero_le _) hml (Nat.le_refl _) o ho
  have abs0 := tg.abs' (p := 0) (q := m) (Nat.zero_le _) hml
  have dr := drew_post (h := G 0) s.cx.r
  have init : DInv P nt ds m l E G v ρ { w with drawn := w.drawn + 1 } [] m ρ { w with drawn := w.drawn + 1 } a := by
    have rel : HRel ρ (G m) { w with drawn := w.drawn + 1 } := by
      refine ⟨fun o p ho => Nat.lt_of_lt_of_le (s.cx.r.lt o p ho) abs0.n, ?_, s.cx.r.inj⟩
      intro o p ho
      have hlt := s.cx.r.lt o p ho
      rw [low o hlt]
      refine (dr.rel.obj o p ho).map rfl ?_
      intro n tt sp el fz hx j y hy
      have hwo := s.cx.wh.2 o
      rw [hx] at hwo
      exact hy.congr (n := (G 0).n) (fun o ho => ⟨rfl, low o ho⟩) abs0.n (hwo j)
    refine ⟨Nat.le_refl _, hml, ?_, ?_, ?_, rel, ?_, ?_, s.sz, s.df, ?_, ?_⟩
    · intro q c hm hc _
      exact ⟨fun h => (by cases h), fun h => (by omega)⟩
    · intro h; omega
    · intro q hq _ o h1 h2
      cases hx : ρ o with
      | none => rfl
      | some p =>
        have := s.cx.r.lt o p hx
        have := (tg.abs' (p := 0) (q := q) (Nat.zero_le _) (by omega)).n
        omega
    · refine ⟨Nat.le_trans s.cx.gr.1 abs0.n, fun g hg => ?_⟩
      have hg' := Nat.lt_of_lt_of_le hg s.cx.gr.1
      rcases s.cx.gr.2 g hg with h | ⟨h1, h2⟩
      · exact .inl h
      · exact .inr ⟨h1, by rw [low g hg']; exact h2⟩
    · refine ⟨abs0, rel, rfl, rfl, rfl, Nat.le_refl _, fun _ _ _ => rfl, fun _ _ => .inl rfl, fun o p ho hp => ?_⟩
      have := s.cx.r.lt o p hp
      omega
    · intro q c d hq; cases hq
    · intro d _
      exact (s.cx.er d).congr (n := (G 0).n) (fun o ho => ⟨rfl, low o ho⟩) abs0.n (s.cx.we d)
  refine draw_run hgood hcall s.cx.gr.1 tg side hal ?_ hci ?_ (σ.map ord.idxOf) [] m ρ _ a rfl init
  · intro c hc hp
    simp only [List.all_eq_true] at o9
    have := o9 c hc
    rw [hp] at this
    simp only [Bool.not_true, Bool.false_or] at this
    split at this
    · rename_i d hd
      exact ⟨d, hd, by simpa using this⟩
    · cases this
  · intro r ρ' w' a' hi
    obtain ⟨hcx, hpo⟩ := hi.done tg side
    exact ⟨ρ', G l.length, E l.length, ⟨hcx, (s.post.trans dr).trans hpo, hi.sz, hi.df⟩, hk⟩

/-- CALLS: what the evaluator says of a call is what the model does. -/
theorem sound {P : Program} {tab : Nat → Option CFn} (ht : Tab P tab) (n : Nat) : CallSim P (Vm.call tab n) :=
  call_sound ht (fun _ hg hc => draw_sound hg hc) n

end
end Go.Vm
