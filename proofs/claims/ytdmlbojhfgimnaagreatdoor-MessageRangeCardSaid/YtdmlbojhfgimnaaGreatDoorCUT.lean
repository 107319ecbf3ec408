/-
  Code cut behind some of its pieces: there the state is put in order.
-/
import Derived.Test.YtdmlbojhfgimnaaGreatDoorV8
set_option linter.unusedVariables false
namespace Go.Vm.R
noncomputable section
variable {P : Program}
/-- the right spine's pieces, one behind the other; behind a piece with hints the state is put in order -/
def cutD (K : Kd) (cl : DC) (lh : Nat → Option LoopD) (lev nt N : Nat) : List (Option (List Hint)) → CC → T DV → DH → EK → List (Nat × EK) → EK → Tree
  | x :: l, c, e, h, r, y, k => match c with
    | .seq a b => match x with
      | some hs => execD K cl lh lev nt N a e h r y (neatK N hs fun e h => cutD K cl lh lev nt N l b e h r y k)
      | none => execD K cl lh lev nt N a e h r y (fun e h => cutD K cl lh lev nt N l b e h r y k)
    | c => execD K cl lh lev nt N c e h r y k
  | [], c, e, h, r, y, k => execD K cl lh lev nt N c e h r y k
theorem cutD_ok {G : Gl} {N : Nat} {call : Nat → List V → H → Res} {cl : DC} (hgood : CallGood G.n call) (hcl : ClOk G call cl) (K : Kd) {lh : Nat → Option LoopD} {n lev nt : Nat} (hlev : lev ≤ n) {k : DK} {r : Vm.K} {rd : EK} (hr : KOk G N k r rd) {hd : Option Nat} {x : List (Nat × Vm.K)} {y : List (Nat × EK)} (hy : headOf y = hd) (hx : XOk G N k x y) {kk : Vm.K} {kd : EK} (hk : KOk G N k kk kd) :
    ∀ (cs : List (Option (List Hint))) (c : CC), ccWf G.n c → (∀ p ∈ loopsIn hd c, ∀ ld, lh p.1 = some ld → LoopOk G N call n lev nt p.1 p.2 ld) →
    KOk G N k (fun e h => exec call n nt c e h r x kk) (fun e h => cutD K cl lh lev nt N cs c e h rd y kd) := by
  intro cs
  induction cs with
  | nil => intro c hw hl; exact execD_ok hgood hcl K hlev hr c hd x y kk kd hw hy hl hx hk
  | cons o l ih =>
    intro c hw hl
    cases c with
    | seq a b =>
      have ib := ih b hw.2 (fun p hp => hl p (List.mem_append_right _ hp))
      have la : ∀ p ∈ loopsIn hd a, ∀ ld, lh p.1 = some ld → LoopOk G N call n lev nt p.1 p.2 ld := fun p hp => hl p (List.mem_append_left _ hp)
      cases o with
      | none => exact execD_ok hgood hcl K hlev hr a hd x y _ _ hw.1 hy la hx ib
      | some hs => exact execD_ok hgood hcl K hlev hr a hd x y _ _ hw.1 hy la hx (neatK_ok hs ib)
    | skip => exact execD_ok hgood hcl K hlev hr _ hd x y kk kd hw hy hl hx hk
    | ops l' => exact execD_ok hgood hcl K hlev hr _ hd x y kk kd hw hy hl hx hk
    | draw m al l' => exact execD_ok hgood hcl K hlev hr _ hd x y kk kd hw hy hl hx hk
    | cond c a b => exact execD_ok hgood hcl K hlev hr _ hd x y kk kd hw hy hl hx hk
    | block id b => exact execD_ok hgood hcl K hlev hr _ hd x y kk kd hw hy hl hx hk
    | loop b => exact execD_ok hgood hcl K hlev hr _ hd x y kk kd hw hy hl hx hk
    | exit id => exact execD_ok hgood hcl K hlev hr _ hd x y kk kd hw hy hl hx hk
    | ret => exact execD_ok hgood hcl K hlev hr _ hd x y kk kd hw hy hl hx hk
    | bad => exact execD_ok hgood hcl K hlev hr _ hd x y kk kd hw hy hl hx hk

def topC (K : Kd) (cl : DC) (lh : Nat → Option LoopD) (lev : Nat) (cs : List (Option (List Hint))) (c : CFn) (l : List DV) (d : DH) (k : DK) : Tree := match Nat.ble l.length c.nt with
  | true => cutD K cl lh lev c.nt d.n cs c.body (envOfD l 0 .lf) d (resultsD c.res k) [] (resultsD c.res k)
  | false => .no
theorem topC_ok {G : Gl} (hG : G.n = P.globals.size) {O : Nat → List V → H → Res} {tab : Nat → Option CFn} (ht : Tab P tab) {n lev f : Nat} {c : CFn} {cl : DC} (gO : CallGood P.globals.size O) (hcl : ClOk G (callO noTmps O tab n) cl) (K : Kd) {lh : Nat → Option LoopD} (cs : List (Option (List Hint)))
    (hlev : lev ≤ n) (hO : ∀ a h, O f a h = .no) (hc : tab f = some c) {l : List DV} {d : DH} (hl : ∀ p ∈ loopsIn none c.body, ∀ ld, lh p.1 = some ld → LoopOk G d.n (callO noTmps O tab n) n lev c.nt p.1 p.2 ld)
    {k : DK} {L : Nat → Nat} {h : H} (R : Rep L d h) (w : wfh h) (g : G.J h) (hw : wfs h.n (toVs L l)) : Tells d.n L d h (callO noTmps O tab (n + 1) f (toVs L l) h) k (topC K cl lh lev cs c l d k) := by
  unfold topC
  split
  · rename_i hb
    have hle := Nat.le_of_ble_eq_true hb
    rw [c_succ, hO, orElse_no, hc, b_some, if_pos (by rw [toVs_len]; exact hle)]
    have hcw : ccWf G.n c.body := by
      rw [hG]
      obtain ⟨fn, b, _, _, _, _, _, h7⟩ := fnOf_some (ht f c hc)
      rw [h7]; exact codeOf_wf P b
    exact cutD_ok (by rw [hG]; exact callO_good noTmps_ok gO ht n) hcl K hlev (resultsD_ok c.res k) rfl .nil (resultsD_ok c.res k) cs c.body hcw hl L _ d _ h (Nat.le_refl _)
      ⟨envOfD_to l 0 .lf .lf ⟨fun i => .inl (T.get_lf _ _), fun i => by rw [T.get_lf]; trivial⟩ hw, R, w, g⟩
  · exact tells_no
def runC (C : Ctx P) (Y : C.RL) (lh : Nat → Option LoopD) (lev : Nat) (cs : List (Option (List Hint))) (c : CFn) (l : List DV) (ao : List DO) : Option (DV × DH) :=
  (topC C.K (callD (hookOf C.X Y) C.K C.kn C.tab lev) lh lev cs c l (mkD ao ao.length) (finK ao.length okK)).ev
theorem law_cut (C : Ctx P) (Y : C.RL) {lev f : Nat} {c : CFn} {ao : List DO} {l : List DV} {out : RD} (lh : Nat → Option LoopD) (cs : List (Option (List Hint))) (hf : C.kn f = false) (hc : C.tab f = some c)
    (hl : ∀ n, lev ≤ n → ∀ p ∈ loopsIn none c.body, ∀ ld, lh p.1 = some ld → LoopOk C.G ao.length (callO noTmps C.O C.tab n) n lev c.nt p.1 p.2 ld)
    (he : ∀ z, (out.tree ao ao.length okK).ev = some z → runC C Y lh lev cs c l ao = some z) : LawOk C.G C.O C.tab f (lev + 1) ao l out := by
  intro n hn k L h R w g hw z hz
  obtain ⟨n', rfl⟩ : ∃ n', n = n' + 1 := ⟨n - 1, by omega⟩
  obtain ⟨x, d, h1, h2⟩ := tree_ok out hz
  have := topC_ok C.hG C.ht C.hX.good (callD_ok C.hG C.ht C.hX.good C.K (hookOf_ok C.X C.hG C.hX C.ht Y C.hk) lev n' (by omega)) C.K (f := f) (c := c) (lh := lh) cs (by omega) (C.hk f hf) hc (d := mkD ao ao.length) (hl n' (by omega)) (k := finK ao.length okK) R w g hw
  obtain ⟨w1, d1, L1, h1', e1, R1, x1, hz1⟩ := this _ (he _ h1)
  unfold finK at hz1
  split at hz1
  · rename_i hb
    simp only [Bool.and_eq_true] at hb
    obtain ⟨b1, b2, b3⟩ := hb
    have b1 := Nat.le_of_ble_eq_true b1
    have b2 := Nat.le_of_ble_eq_true b2
    split at hz1
    · rename_i w' σ hr
      have hq : (w', gathered ao.length d1 σ d1.fl) = (x, d) := Option.some.inj hz1
      obtain ⟨rfl, rfl⟩ := Prod.mk.inj hq
      obtain ⟨_, kr⟩ := renV_to (L := L1) hr
      have sk := renV_ok hr .nil
      have R2 := gather_rep R1 b1 sk b3 (Nat.le_refl _) b2 (.inl rfl)
      have x2 := gather_step R1 b1 sk
      exact ⟨w', _, _, h1', by rw [kr _ (renL_ren _ _ _ _)]; exact e1, R2, x1.trans x2, h2⟩
    · cases hz1
  · cases hz1
end
end Go.Vm.R
