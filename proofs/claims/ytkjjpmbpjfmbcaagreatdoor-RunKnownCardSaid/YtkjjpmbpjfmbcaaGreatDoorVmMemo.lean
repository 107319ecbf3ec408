/-
  Calls over a base: what is known of some calls need not be run.
-/
import Derived.Test.YtkjjpmbpjfmbcaaGreatDoorVmGlob
import Derived.Test.YtkjjpmbpjfmbcaaGreatDoorVmLaw
set_option linter.unusedVariables false
set_option linter.unusedSimpArgs false
namespace Go.Vm
noncomputable section

def bodyO (ih : Nat → List V → H → Res) (n : Nat) (c : Option CFn) (args : List V) (h : H) : Res := match c with
  | none => .no
  | some c => if args.length ≤ c.nt then
      exec ih n c.nt c.body (envOf args 0 .lf) h (fun e h => results c.res e h) [] (fun e h => results c.res e h)
    else .no

def orElse (a b : Res) : Res := match a with
  | .no => b
  | r => r

theorem orElse_no (b : Res) : orElse .no b = b := rfl
theorem orElse_of {a b : Res} (h : a ≠ .no) : orElse a b = a := by
  cases a with
  | no => exact absurd rfl h
  | _ => rfl

def callO (O : Nat → List V → H → Res) (tab : Nat → Option CFn) : Nat → Nat → List V → H → Res
  | 0, f, args, h => O f args h
  | n + 1, f, args, h => orElse (O f args h) (bodyO (callO O tab n) n (tab f) args h)

variable {P : Program}

theorem bodyO_good {G : Nat} {cl : Nat → List V → H → Res} (hcl : CallGood G cl) (n : Nat) {c : Option CFn} (hc : ∀ x, c = some x → ccWf G x.body)
    {args : List V} {h : H} (hG : G ≤ h.n) (w : wfh h) (ha : wfs h.n args) : Good h (bodyO cl n c args h) := by
  unfold bodyO
  split
  · trivial
  · rename_i c
    split
    · have hk : KGood h (fun e h => results c.res e h) := fun e1 h1 _ w1 we1 => results_good w1 we1 _
      exact exec_good hcl n c.nt c.body _ h _ _ _ (hc c rfl) hG w (wfe_envOf args 0 _ ha fun i => by rw [T.get_lf]; trivial) hk (fun p hp => by cases hp) hk
    · trivial

theorem callO_good {O : Nat → List V → H → Res} {tab : Nat → Option CFn} (gO : CallGood P.globals.size O) (ht : Tab P tab) : ∀ n, CallGood P.globals.size (callO O tab n)
  | 0 => gO
  | n + 1 => fun f args h hG w ha => by
    show Good h (orElse _ _)
    have hb := bodyO_good (callO_good gO ht n) n (c := tab f) (fun c hc => by
      obtain ⟨fn, b, _, _, _, _, _, h7⟩ := fnOf_some (ht f c hc)
      rw [h7]; exact codeOf_wf P b) hG w ha
    have ho := gO f args h hG w ha
    generalize O f args h = a at ho
    cases a with
    | no => exact hb
    | _ => exact ho

theorem bodyO_sound {cl : Nat → List V → H → Res} (hgood : CallGood P.globals.size cl) (hcall : CallSim P cl) (n : Nat) {tab : Nat → Option CFn} (ht : Tab P tab)
    {f : Nat} {args : List V} {h : H} {ρ : Rho} {w : World} {vs : List Value} (r : HRel ρ h w) (wh : wfh h) (g : GRel P.globals.size ρ h) (hwa : wfs h.n args) (hvs : VRels ρ h args vs)
    (hno : bodyO cl n (tab f) args h ≠ .no) : Own P f ∧ Calls P f vs.toArray w (Ends P ρ h w (bodyO cl n (tab f) args h)) := by
  have hd := draw_sound hgood hcall
  generalize hR : bodyO cl n (tab f) args h = R at hno ⊢
  simp only [bodyO] at hR
  split at hR
  · exact absurd hR.symm hno
  · rename_i c hc
    obtain ⟨fn, b, h1, h2, h3, h4, h5, h6⟩ := fnOf_some (ht f c hc)
    split at hR
    · rename_i hlen
      refine ⟨⟨fn, h1, h3, by rw [h2]; rfl⟩, calls_of_wp h1 h2 ?_⟩
      have hvl := hvs.length
      have hsz : (vs.toArray ++ Array.replicate (fn.ntmps - vs.toArray.size) undef).size = c.nt := by
        simp; omega
      have her : ERel ρ h (envOf args 0 .lf) (vs.toArray ++ Array.replicate (fn.ntmps - vs.toArray.size) undef) := by
        refine erel_envOf args vs 0 .lf _ hvs (fun j hj => by omega) (fun j _ => T.get_lf _ _) ?_
        intro j v hv
        have hj : j < vs.length := (List.getElem?_eq_some_iff.1 hv).1
        rw [Nat.zero_add, Array.getElem?_append_left (by simpa using hj)]
        simpa using hv
      have hcx : Cx P ρ h w (envOf args 0 .lf) { tmps := vs.toArray ++ Array.replicate (fn.ntmps - vs.toArray.size) undef, defers := [] } :=
        ⟨r, wh, wfe_envOf args 0 _ hwa (fun i => by rw [T.get_lf]; trivial), her, g⟩
      rw [h6] at hR
      have hwp := exec_sound (P := P) (nt := c.nt) (ds := []) (fuel := n) hgood hcall hd b ρ h w (envOf args 0 .lf) _ R _ [] _ hno ⟨hcx, .refl r, hsz, rfl⟩ hR
      refine wp_mono hwp ?_
      intro ex a1 w1 hq
      cases ex with
      | normal =>
        obtain ⟨ρ1, h1', e1, s1, hk⟩ := hq
        obtain ⟨v, x, hRe, hrun, hv⟩ := results_sim s1.cx h4 hk hno
        refine ⟨s1.df, x, hrun, ?_⟩
        rw [hRe]
        exact ⟨ρ1, hv, s1.post⟩
      | ret =>
        obtain ⟨ρ1, h1', e1, s1, hk⟩ := hq
        obtain ⟨v, x, hRe, hrun, hv⟩ := results_sim s1.cx h4 hk hno
        refine ⟨s1.df, x, hrun, ?_⟩
        rw [hRe]
        exact ⟨ρ1, hv, s1.post⟩
      | exit id =>
        obtain ⟨ρ1, h1', e1, k', s1, hl, hk⟩ := hq
        cases hl
      | panic ch =>
        obtain ⟨v, y, ρ1, h1', hRe, hch, hv, hpo, hdf⟩ := hq
        refine ⟨hdf, ?_⟩
        rw [hRe]
        exact ⟨y, ρ1, hch, hv, hpo⟩
      | goto l => exact hq.elim
      | outgrown => exact hq.elim
    · exact absurd hR.symm hno

/-- CALLS over a base that is sound -/
theorem soundO {O : Nat → List V → H → Res} {tab : Nat → Option CFn} (gO : CallGood P.globals.size O) (hO : CallSim P O) (ht : Tab P tab) : ∀ n, CallSim P (callO O tab n)
  | 0 => hO
  | n + 1 => by
    intro f args h ρ w vs r wh g hwa hvs hno
    have hq := hO f args h ρ w vs r wh g hwa hvs
    have hb := bodyO_sound (callO_good gO ht n) (soundO gO hO ht n) n ht (f := f) r wh g hwa hvs
    have he : callO O tab (n + 1) f args h = orElse (O f args h) (bodyO (callO O tab n) n (tab f) args h) := rfl
    rw [he] at hno ⊢
    generalize O f args h = a at hq hno ⊢
    cases a with
    | no => exact hb hno
    | _ => exact hq (by intro h; cases h)

/-! ### plain calls: neither arguments nor result name an object, and what was there stays -/

structure Same (W W' : World) : Prop where
  os : W'.os = W.os
  tape : W'.tape = W.tape
  output : W'.output = W.output
  size : W.heap.size ≤ W'.heap.size
  heap : ∀ B, B < W.heap.size → W'.heap[B]? = W.heap[B]?

abbrev noRho : Rho := fun _ => none
abbrev noH : H := ⟨0, .lf, 0⟩

/-- the same integer -/
def sameInt : V → V → Bool
  | .int k a, .int k' b => k == k' && a == b
  | _, _ => false

def sameInts : List V → List V → Bool
  | [], [] => true
  | a :: r, b :: t => sameInt a b && sameInts r t
  | _, _ => false

theorem sameInts_eq : ∀ {a b : List V}, sameInts a b = true → a = b
  | [], [], _ => rfl
  | [], _ :: _, h => by cases h
  | _ :: _, [], h => by cases h
  | a :: r, b :: t, h => by
    simp only [sameInts, Bool.and_eq_true] at h
    obtain ⟨h1, h2⟩ := h
    have := sameInts_eq h2
    subst this
    unfold sameInt at h1
    split at h1
    · simp only [Bool.and_eq_true, beq_iff_eq] at h1
      obtain ⟨rfl, rfl⟩ := h1
      rfl
    · cases h1

/-- do the variables hold these cells? -/
def meets (h : H) : Base → Bool
  | [] => true
  | (g, l) :: r => (match h.get g with
    | .c n t sp _ (some 0) => Nat.beq n l.length && !sp && sameInts (readCells t 0 n) l
    | _ => false) && meets h r

structure PlainCall (P : Program) (B : Base) (f : Nat) (args : List V) (v : V) : Prop where
  wfa : wfs 0 args
  wfr : wf 0 v
  base : BaseOk P.globals.size B
  runs : ∀ (W : World) (vs : List Value) (el : Nat → Nat), BaseAt B el W → VRels noRho noH args vs → Own P f ∧ Calls P f vs.toArray W fun e W' => ∃ x, e = .returned x ∧ VRel noRho noH v x ∧ Same W W'

/-- a base of plain calls -/
def plainO (B : Base) (S : Nat → List V → Option V) : Nat → List V → H → Res := fun f args h => match S f args with
  | some v => match meets h B with
    | true => .ok v h
    | false => .no
  | none => .no

theorem Same.post {W W' : World} (s : Same W W') {ρ : Rho} {h : H} (r : HRel ρ h W) : Post ρ h W ρ h W' := by
  refine ⟨.refl h, ⟨r.lt, fun o p e => ?_, r.inj⟩, ⟨s.os, s.tape, s.output, s.size, fun B hB _ => s.heap B hB, fun _ _ => .inl rfl, fun o p ho e => absurd (r.lt o p e) (by omega)⟩⟩
  have ho := r.obj o p e
  have hlt := ho.size
  have hb := s.heap p.B hlt
  revert ho
  cases h.get o with
  | dead => exact id
  | m es => exact id
  | c n t sp el fz => rintro ⟨cs, fr, h1, h2⟩; exact ⟨cs, fr, hb.trans h1, h2⟩
  | si n x pos => rintro ⟨t, h1, h2⟩; exact ⟨t, hb.trans h1, h2⟩

theorem plainO_good {B : Base} {S : Nat → List V → Option V} (hS : ∀ f args v, S f args = some v → PlainCall P B f args v) : CallGood P.globals.size (plainO B S) := by
  intro f args h hG w ha
  unfold plainO
  split
  · rename_i v e
    split
    · exact good_same w (wf_mono (Nat.zero_le _) _ (hS f args v e).wfr)
    · trivial
  · trivial

theorem meets_at {ρ : Rho} {h : H} {W : World} (r : HRel ρ h W) (g : GRel P.globals.size ρ h) : ∀ {B : Base}, BaseOk P.globals.size B → meets h B = true → ∃ el, BaseAt B el W
  | [], _, _ => ⟨fun _ => 0, fun x hx => by cases hx⟩
  | (b, l) :: B, hB, hm => by
    simp only [meets, Bool.and_eq_true] at hm
    obtain ⟨hm1, hm2⟩ := hm
    obtain ⟨el, hel⟩ := meets_at r g (B := B) ⟨fun x hx => hB.lt x (List.mem_cons_of_mem _ hx), fun x hx => hB.wf x (List.mem_cons_of_mem _ hx)⟩ hm2
    split at hm1
    · rename_i n t sp el1 hget
      simp only [Bool.and_eq_true, Bool.not_eq_true'] at hm1
      obtain ⟨⟨h1, h2⟩, h3⟩ := hm1
      have hn : n = l.length := Nat.eq_of_beq_eq_true h1
      have hl := sameInts_eq h3
      subst h2
      have hlt := hB.lt _ List.mem_cons_self
      rcases g.2 b hlt with ⟨N, hN⟩ | ⟨_, hd⟩
      · have ho := r.obj _ _ hN
        rw [hget] at ho
        obtain ⟨cs, fr, hw, hs, hle, hsp, hcell, hfr⟩ := ho
        obtain ⟨_, hnN⟩ := hsp rfl
        refine ⟨fun x => if x = b then el1 else el x, fun x hx => ?_⟩
        by_cases e : x.1 = b
        · have : ∃ cs fr, W.heap[b]? = some (.cells cs el1 fr) ∧ fr.2 = 0 ∧ VRels (fun _ => none) ⟨0, .lf, 0⟩ x.2 cs.toList := by
            rcases List.mem_cons.1 hx with e1 | e1
            · subst e1
              refine ⟨cs, fr, hw, ?_, ?_⟩
              · have : fr.2 ≤ 0 + 0 := hfr
                omega
              · have hs' : cs.size = N := hs
                have hnN' : n = N := hnN
                refine VRels.of_get (by simp; omega) fun i v x hv hx => ?_
                have hi : i < n := by
                  have : i < l.length := (List.getElem?_eq_some_iff.1 hv).1
                  omega
                obtain ⟨y, hy, hvy⟩ := hcell i hi
                have hx' : cs[i]? = some x := by simpa using hx
                rw [Nat.zero_add, hx'] at hy
                obtain rfl := Option.some.inj hy
                have hv' := hv
                rw [← hl, getElem_readCells _ _ _ _ hi, Nat.zero_add] at hv'
                obtain rfl := Option.some.inj hv'
                exact vrel_plain _ _ ((wfs_iff 0 l).1 (hB.wf _ List.mem_cons_self) _ (List.mem_of_getElem? hv)) hvy
            · obtain ⟨cs', fr', a1, a2, a3⟩ := hel x e1
              rw [e, hw] at a1
              have he : el1 = el b := by injection a1 with a1; injection a1
              rw [he]
              exact ⟨cs', fr', by rw [hw, a1], a2, a3⟩
          simpa [e] using this
        · rcases List.mem_cons.1 hx with e1 | e1
          · subst e1; exact absurd rfl e
          · simpa [e] using hel x e1
      · rw [hget] at hd; cases hd
    · cases hm1

theorem plainO_sim {B : Base} {S : Nat → List V → Option V} (hS : ∀ f args v, S f args = some v → PlainCall P B f args v) : CallSim P (plainO B S) := by
  intro f args h ρ w vs r wh g hwa hvs hno
  unfold plainO at hno ⊢
  split at hno
  · rename_i v e
    have hp := hS f args v e
    split at hno
    · rename_i hm
      obtain ⟨el, hel⟩ := meets_at r g hp.base hm
      obtain ⟨ho, hc⟩ := hp.runs w vs el hel (vrels_plain _ _ hp.wfa hvs)
      refine ⟨ho, hc.mono fun e W' he => ?_⟩
      obtain ⟨x, rfl, hx, hs⟩ := he
      exact ⟨ρ, vrel_plain _ _ hp.wfr hx, hs.post r⟩
    · exact absurd rfl hno
  · exact absurd rfl hno

/-- no base at all -/
def noO : Nat → List V → H → Res := fun _ _ _ => .no
theorem noO_good {G : Nat} : CallGood G noO := fun _ _ _ _ _ _ => trivial
theorem noO_sim : CallSim P noO := fun _ _ _ _ _ _ _ _ _ _ _ h => absurd rfl h

/-- one base, then another -/
def bothO (O O' : Nat → List V → H → Res) : Nat → List V → H → Res := fun f args h => orElse (O f args h) (O' f args h)
theorem bothO_good {G : Nat} {O O' : Nat → List V → H → Res} (h1 : CallGood G O) (h2 : CallGood G O') : CallGood G (bothO O O') := by
  intro f args h hG w ha
  have a := h1 f args h hG w ha
  have b := h2 f args h hG w ha
  show Good h (orElse _ _)
  generalize O f args h = x at a
  cases x with
  | no => exact b
  | _ => exact a
theorem bothO_sim {O O' : Nat → List V → H → Res} (h1 : CallSim P O) (h2 : CallSim P O') : CallSim P (bothO O O') := by
  intro f args h ρ w vs r wh g hwa hvs hno
  have a := h1 f args h ρ w vs r wh g hwa hvs
  have b := h2 f args h ρ w vs r wh g hwa hvs
  have he : bothO O O' f args h = orElse (O f args h) (O' f args h) := rfl
  rw [he] at hno ⊢
  generalize O f args h = x at a hno ⊢
  cases x with
  | no => exact b hno
  | _ => exact a (by intro h; cases h)

/-- a run over the variables alone tells a plain call -/
theorem plain_of_run {B : Base} {O : Nat → List V → H → Res} {tab : Nat → Option CFn} (gO : CallGood P.globals.size O) (hO : CallSim P O) (ht : Tab P tab) {n f : Nat} {args : List V} {v : V}
    (hB : BaseOk P.globals.size B) (hr : ∀ el, ∃ h', callO O tab n f args (baseH P.globals.size B el) = .ok v h') (ha : wfs 0 args) (hv : wf 0 v) : PlainCall P B f args v := by
  refine ⟨ha, hv, hB, ?_⟩
  intro W vs el hW hvs
  obtain ⟨h', hr⟩ := hr el
  have hrel := baseH_rel hB hW
  obtain ⟨ho, hc⟩ := soundO gO hO ht n f args _ _ W vs hrel (baseH_wfh hB el) (baseH_gr B el) (wfs_mono (Nat.zero_le _) _ ha) (vrels_plain _ _ ha hvs) (by rw [hr]; intro h; cases h)
  rw [hr] at hc
  refine ⟨ho, hc.mono fun e W' he => ?_⟩
  cases e with
  | returned x =>
    obtain ⟨ρ', hv', hp⟩ := he
    refine ⟨x, rfl, vrel_plain _ _ hv hv', hp.fr.os, hp.fr.tape, hp.fr.output, hp.fr.size, fun B' hB' => hp.fr.old B' hB' fun o p h _ => ?_⟩
    exact hrel.lt o p h
  | panicked ch => exact he.elim
  | outgrown => exact he.elim

theorem Same.kept {W W' : World} (s : Same W W') : Kept W W' := ⟨s.os, s.output, s.heap⟩

/-- a plain call that answers true -/
theorem PlainCall.law {B : Base} {f : Nat} {args : List V} (h : PlainCall P B f args (.bool true)) {W : World} {el : Nat → Nat} (hW : BaseAt B el W) {vs : List Value} (hvs : VRels noRho noH args vs) :
    Calls P f vs.toArray W fun e W' => e = .returned (.bool true) ∧ Kept W W' := by
  refine (h.runs W vs el hW hvs).2.mono fun e W' he => ?_
  obtain ⟨x, rfl, hx, hs⟩ := he
  rw [vrel_bool hx]
  exact ⟨rfl, hs.kept⟩

/-! ### the same, as the kernel likes it -/

def callOF (O : Nat → List V → H → Res) (tab : Nat → Option CFn) (n : Nat) : Nat → List V → H → Res :=
  Nat.rec (motive := fun _ => Nat → List V → H → Res) O (fun n ih f args h => orElse (O f args h) (callBodyF ih n args h (tab f))) n

theorem callOF_eq (O : Nat → List V → H → Res) (tab : Nat → Option CFn) : ∀ n, callOF O tab n = callO O tab n
  | 0 => rfl
  | n + 1 => by
    funext f args h
    have : callOF O tab (n + 1) f args h = orElse (O f args h) (callBodyF (callOF O tab n) n args h (tab f)) := rfl
    rw [this, callOF_eq O tab n]
    show _ = orElse _ _
    congr 1
    simp only [callBodyF, bodyO]
    cases tab f with
    | none => rfl
    | some c =>
      simp only [execF_eq]
      by_cases hl : args.length ≤ c.nt
      · have : Nat.ble args.length c.nt = true := by simpa using hl
        rw [this, if_pos hl]
      · have : Nat.ble args.length c.nt = false := by
          cases hb : Nat.ble args.length c.nt with
          | false => rfl
          | true => exact absurd (by simpa using hb) hl
        rw [this, if_neg hl]

/-- what came of a run -/
def resIs (v : V → Bool) : Res → Bool
  | .ok x _ => v x
  | _ => false

def isTrue : V → Bool
  | .bool true => true
  | _ => false

theorem resIs_true {r : Res} (h : resIs isTrue r = true) : ∃ h', r = .ok (.bool true) h' := by
  unfold resIs at h
  split at h
  · unfold isTrue at h
    split at h
    · exact ⟨_, rfl⟩
    · cases h
  · cases h

end
end Go.Vm
