/-
  Laws over rows, at the model's level.
-/
import Derived.Test.YtkjjpmbpjfmbcaaGreatDoorV7
import Derived.ChangeArms
import Derived.Test.YtkjjpmbpjfmbcaaGreatDoorV5
import Derived.Deep.Slices
set_option linter.unusedVariables false
set_option linter.unusedSimpArgs false
/-! A law over a row, at the model's level: the argument's row lies in the world. -/
namespace Go.Vm.R
noncomputable section
variable {P : Program}

/-- the heap at the start: the variables that are told, and a row that is only read -/
def rowH (n : Nat) (B : Base) (el : Nat → Nat) (x : Obj) : H := ⟨n + 1, (baseT el B).set .dead n x, n + 1⟩
theorem rowH_get (n : Nat) (B : Base) (el : Nat → Nat) (x : Obj) (o : Nat) : (rowH n B el x).get o = if n = o then x else (baseT el B).get .dead o := by
  show T.get _ (T.set _ _ _ _) _ = _
  rw [T.get_set]
def rowRho (n : Nat) (B : Base) (p : Pl) : Rho := fun o => if o = n then some p else rhoB B o

/-- where the row lies -/
structure RowAt (W : World) (B : Base) (p : Pl) (cells : List V) (e z : Nat) : Prop where
  lie : ∃ cs fr, W.heap[p.B]? = some (.cells cs e fr) ∧ cs.size = p.N ∧ p.b + cells.length ≤ p.N ∧ fr.2 ≤ p.b + z ∧ ∀ i v, cells[i]? = some v → ∃ x, cs[p.b + i]? = some x ∧ VRel noRho noH v x
  ne : ∀ y ∈ B, y.1 ≠ p.B

theorem rowH_rel {n : Nat} {B : Base} (hB : BaseOk n B) {el : Nat → Nat} {W : World} (hW : BaseAt B el W) {p : Pl} {cells : List V} {e z : Nat} (hp : RowAt W B p cells e z) (hc : wfs 0 cells) :
    HRel (rowRho n B p) (rowH n B el (ob cells true e (some z))) W := by
  have hb := baseH_rel hB hW
  refine ⟨fun o q h => ?_, fun o q h => ?_, fun o o' q q' h h' e => ?_⟩
  · unfold rowRho at h
    show o < n + 1
    split at h
    · omega
    · have := hb.lt o q h
      have : o < n := this
      omega
  · unfold rowRho at h
    rw [rowH_get]
    split at h
    · rename_i e1
      cases h
      rw [if_pos e1.symm]
      obtain ⟨cs, fr, h1, h2, h3, h4, h5⟩ := hp.lie
      refine ⟨cs, fr, h1, h2, h3, (fun h => nomatch h), fun i hi => ?_, h4⟩
      have hi : i < cells.length := hi
      obtain ⟨x, hx, hv⟩ := h5 i cells[i] (List.getElem?_eq_getElem hi)
      refine ⟨x, hx, ?_⟩
      rw [row_get hi, List.getD_eq_getElem?_getD, List.getElem?_eq_getElem hi]
      exact vrel_plain _ _ ((wfs_iff 0 cells).1 hc _ (List.getElem_mem hi)) hv
    · rename_i e1
      rw [if_neg (fun e2 => e1 e2.symm)]
      have ho := hb.obj o q h
      obtain ⟨l, hm, _, hg⟩ := rhoB_some (el := el) h
      have e2 : (baseH n B el).get o = (baseT el B).get .dead o := rfl
      rw [e2] at ho
      rw [hg] at ho ⊢
      obtain ⟨cs, fr, h1, h2, h3, h4, h5, h6⟩ := ho
      refine ⟨cs, fr, h1, h2, h3, h4, fun i hi => ?_, h6⟩
      obtain ⟨x, hx, hv⟩ := h5 i hi
      refine ⟨x, hx, ?_⟩
      have hi' : i < l.length := hi
      rw [get_writeCells, if_pos ⟨Nat.zero_le _, by omega⟩] at hv ⊢
      refine vrel_plain _ _ ?_ hv
      rw [List.getD_eq_getElem?_getD, List.getElem?_eq_getElem (by omega)]
      exact (wfs_iff 0 l).1 (hB.wf _ hm) _ (List.getElem_mem _)
  · unfold rowRho at h h'
    split at h <;> split at h'
    · omega
    · cases h
      obtain ⟨l, hm, hq, _⟩ := rhoB_some (el := el) h'
      exact absurd (show o' = p.B by rw [e, hq]) (hp.ne _ hm)
    · cases h'
      obtain ⟨l, hm, hq, _⟩ := rhoB_some (el := el) h
      exact absurd (show o = p.B by rw [← e, hq]) (hp.ne _ hm)
    · exact hb.inj o o' q q' h h' e

theorem rowH_wfh {n : Nat} {B : Base} (hB : BaseOk n B) (el : Nat → Nat) {cells : List V} {e z : Nat} (hc : wfs 0 cells) : wfh (rowH n B el (ob cells true e (some z))) := by
  refine ⟨Nat.le_refl _, fun o => ?_⟩
  rw [rowH_get]
  show wfo (n + 1) _
  split
  · intro i
    rcases Nat.lt_or_ge i cells.length with hi | hi
    · rw [row_get hi, List.getD_eq_getElem?_getD, List.getElem?_eq_getElem hi]
      exact wf_mono (Nat.zero_le _) _ ((wfs_iff 0 cells).1 hc _ (List.getElem_mem hi))
    · show wf (n + 1) ((writeCells .lf 0 cells).get .bot i)
      rw [get_writeCells, if_neg (by omega), T.get_lf]
      trivial
  · have := (baseH_wfh hB el).2 o
    have h2 : wfo n ((baseT el B).get .dead o) := this
    cases hr : rhoB B o with
    | none => rw [rhoB_none hr]; trivial
    | some q =>
      obtain ⟨l, hm, _, hg⟩ := rhoB_some (el := el) hr
      rw [hg]
      intro i
      exact wf_writeCells (fun i => by rw [T.get_lf]; trivial) (wfs_mono (Nat.zero_le _) _ (hB.wf _ hm)) 0 i

theorem rowH_gr {n : Nat} (B : Base) (el : Nat → Nat) (p : Pl) (x : Obj) : GRel n (rowRho n B p) (rowH n B el x) := by
  refine ⟨Nat.le_succ n, fun g hg => ?_⟩
  have e1 : rowRho n B p g = rhoB B g := if_neg (by omega)
  have e2 : (rowH n B el x).get g = (baseH n B el).get g := by rw [rowH_get, if_neg (by omega)]; rfl
  rw [e1, e2]
  exact (baseH_gr B el).2 g hg

/-- THE LAW, AT THE MODEL'S LEVEL: a call whose arguments name one row answers true, and leaves what was there -/
theorem row_call (C : Ctx P) {B : Base} {hlt : ∀ x ∈ B, x.1 < P.globals.size} (hG : C.G = glBase P.globals.size B hlt) (hB : BaseOk P.globals.size B) (hS : CallSim P C.O) (hm : ∀ el, meets (baseH P.globals.size B el) B = true)
    {f T : Nat} {k : RK} {full : List k.T} {e z : Nat} {l : List DV} {out : RD} {d : DH} (law : LawOk C.G C.O C.tab f T [.r k full true ⟨e, z⟩] l out) (ho : (out.tree [.r k full true ⟨e, z⟩] 1 okK).ev = some (.bool true, d))
    {W : World} {el : Nat → Nat} (hW : BaseAt B el W) {p : Pl} (hp : RowAt W B p (rowV k full) e z) {vs : List Value}
    (hwf : wfs (P.globals.size + 1) (toVs (fun s => P.globals.size + s) l))
    (hvs : ∀ ρ h, ρ P.globals.size = some p → VRels ρ h (toVs (fun s => P.globals.size + s) l) vs) :
    Calls P f vs.toArray W fun e W' => e = .returned (.bool true) ∧ Kept W W' := by
  have hc : wfs 0 (rowV k full) := rowV_wf 0 full
  have R : Rep (fun s => P.globals.size + s) (mkD [.r k full true ⟨e, z⟩] 1) (rowH P.globals.size B el (ob (rowV k full) true e (some z))) := by
    have key : ∀ s, Here ((mkD [.r k full true ⟨e, z⟩] 1).get s) → s = 0 := by
      intro s hs
      rw [mkD_get] at hs
      cases s with
      | zero => rfl
      | succ s => exact hs.elim
    refine ⟨fun s hs => ?_, fun s hs => ?_, fun s s' hs hs' _ => ?_, fun j => ?_, fun s hs hl => ?_⟩
    · obtain rfl := key s hs
      rw [rowH_get, if_pos (Nat.add_zero _).symm]; rfl
    · obtain rfl := key s hs
      exact ⟨Nat.lt_succ_self 0, Nat.lt_succ_self _⟩
    · rw [key s hs, key s' hs']
    · show P.globals.size + (1 + j) = P.globals.size + 1 + j
      omega
    · obtain rfl := key s hs
      exact absurd hl (by show ¬ 1 ≤ 0; omega)
  have wh := rowH_wfh (z := z) hB el hc (e := e)
  have hj : C.G.J (rowH P.globals.size B el (ob (rowV k full) true e (some z))) := by
    rw [hG]
    refine ⟨Nat.le_succ _, Nat.le_succ _, meets_same (fun x hx => ?_) (hm el)⟩
    rw [rowH_get, if_neg (by have := hlt x hx; omega)]; rfl
  obtain ⟨w, d', L', h', e1, _, _, hz⟩ := law T (Nat.le_refl _) okK _ _ R wh hj hwf _ ho
  have hw : w = .bool true := congrArg Prod.fst (Option.some.inj hz)
  subst hw
  have hrel := rowH_rel hB hW hp hc
  obtain ⟨_, hq⟩ := soundO noTmps_ok C.hX.good hS C.ht T f _ _ _ W vs hrel wh (rowH_gr B el p _) hwf (hvs _ _ (if_pos rfl)) (by rw [e1]; intro h; cases h)
  rw [e1] at hq
  refine hq.mono fun x W' he => ?_
  cases x with
  | returned x =>
    obtain ⟨ρ', hv, hpo⟩ := he
    rw [vrel_bool hv]
    exact ⟨rfl, hpo.fr.os, hpo.fr.output, fun B' hB' => hpo.fr.old B' hB' fun o p h _ => hrel.lt o p h⟩
  | panicked ch => exact he.elim
  | outgrown => exact he.elim

/-- .. of a call whose arguments name no row -/
theorem plain_call (C : Ctx P) {B : Base} {hlt : ∀ x ∈ B, x.1 < P.globals.size} (hG : C.G = glBase P.globals.size B hlt) (hB : BaseOk P.globals.size B) (hS : CallSim P C.O) (hm : ∀ el, meets (baseH P.globals.size B el) B = true)
    {f T : Nat} {l : List DV} {out : RD} {d : DH} (law : LawOk C.G C.O C.tab f T [] l out) (ho : (out.tree [] 0 okK).ev = some (.bool true, d))
    {W : World} {el : Nat → Nat} (hW : BaseAt B el W) {vs : List Value}
    (hwf : wfs P.globals.size (toVs (fun s => P.globals.size + s) l)) (hvs : ∀ ρ h, VRels ρ h (toVs (fun s => P.globals.size + s) l) vs) :
    Calls P f vs.toArray W fun e W' => e = .returned (.bool true) ∧ Kept W W' := by
  have no : ∀ s, ¬ Here ((mkD [] 0).get s) := by
    intro s hs
    rw [mkD_get] at hs
    exact hs.elim
  have R : Rep (fun s => P.globals.size + s) (mkD [] 0) (baseH P.globals.size B el) :=
    ⟨fun s hs => absurd hs (no s), fun s hs => absurd hs (no s), fun s _ hs => absurd hs (no s), fun j => by show P.globals.size + (0 + j) = P.globals.size + j; omega, fun s hs => absurd hs (no s)⟩
  have wh := baseH_wfh hB el
  have hj : C.G.J (baseH P.globals.size B el) := by
    rw [hG]
    exact ⟨Nat.le_refl _, Nat.le_refl _, hm el⟩
  obtain ⟨w, d', L', h', e1, _, _, hz⟩ := law T (Nat.le_refl _) okK _ _ R wh hj hwf _ ho
  have hw : w = .bool true := congrArg Prod.fst (Option.some.inj hz)
  subst hw
  have hrel := baseH_rel hB hW
  obtain ⟨_, hq⟩ := soundO noTmps_ok C.hX.good hS C.ht T f _ _ _ W vs hrel wh (baseH_gr B el) hwf (hvs _ _) (by rw [e1]; intro h; cases h)
  rw [e1] at hq
  refine hq.mono fun x W' he => ?_
  cases x with
  | returned x =>
    obtain ⟨ρ', hv, hpo⟩ := he
    rw [vrel_bool hv]
    exact ⟨rfl, hpo.fr.os, hpo.fr.output, fun B' hB' => hpo.fr.old B' hB' fun o p h _ => hrel.lt o p h⟩
  | panicked ch => exact he.elim
  | outgrown => exact he.elim
end
end Go.Vm.R

/-! An argument that is a slice of records of two texts: its row; and that it reads behind the call as it read. -/
namespace Go.Vm.R
noncomputable section
open Go.Deep
variable {H : Type} {enc : TypeId × Value → H} {P : Program}

theorem cells_kept {W W' : World} (k : Kept W W') {a : Addr} {n : Nat} {cs : List Value} (h : W.cells? 0 a n = some cs) (hb : a.block < W.heap.size) : W'.cells? 0 a n = some cs := by
  have e : ∀ i, W'.cell? (a.add i) = W.cell? (a.add i) := by
    intro i
    have : (a.add i).block = a.block := by unfold Addr.add; split <;> rfl
    unfold World.cell?
    rw [this, k.heap _ hb]
  unfold World.cells? at h ⊢
  simp only [e]
  exact h

/-- what such a type is made of -/
structure EntT (P : Program) (t e : TypeId) : Prop where
  sl : P.underlying t = some (.slice e)
  two : ∃ f0 f1 : Field, P.underlying e = some (.struct #[f0, f1]) ∧ P.underlying f0.type = some .string ∧ P.underlying f1.type = some .string ∧ f0.offset = 0 ∧ f1.offset = 1 ∧ P.cellsOf f0.type = 1 ∧ P.cellsOf f1.type = 1
  cells : P.cellsOf e = 2
  plain : plainT P 8 e = true

end
end Go.Vm.R

/-! A slice that may be nil, as two cases. -/
namespace Go.Vm.R
noncomputable section

theorem rep_like {L : Nat → Nat} {d d2 : DH} {h : H} (R : Rep L d h) (hn : d2.n = d.n) (hf : d2.fl = d.fl) (hs : ∀ s, Here (d2.get s) → Here (d.get s) ∧ toO L (d2.get s) = toO L (d.get s)) : Rep L d2 h where
  get := fun s h2 => by rw [(hs s h2).2]; exact R.get s (hs s h2).1
  lt := fun s h2 => by rw [hn]; exact R.lt s (hs s h2).1
  inj := fun s s' h2 h2' e => R.inj s s' (hs s h2).1 (hs s' h2').1 e
  fut := fun j => by rw [hn]; exact R.fut j
  fl := fun s h2 hl => R.fl s (hs s h2).1 (by rw [← hf]; exact hl)

end
end Go.Vm.R

set_option linter.unusedVariables false
namespace Go.Vm.R
open Go.Proofs
noncomputable section
/-- a slice that may be nil, within a tuple, told as one value -/
theorem law_sn3 {G : Gl} {O : Nat → List V → H → Res} {tab : Nat → Option CFn} {f T : Nat} {ao : List DO} {l : List DV} {k : RK} {r : List k.T} {el : Nat} {a b : DV} {bb : Bool}
    (hao : ∀ o ∈ ao, ∀ L L' : Nat → Nat, toO L o = toO L' o) (ha : ∀ L L' : Nat → Nat, toV L a = toV L' a) (hb : ∀ L L' : Nat → Nat, toV L b = toV L' b)
    (law : LawOk G O tab f T ao l (.need bb (.br (Nat.beq r.length 0) (.v (.tup [a, .nils, b]) []) (.v (.tup [a, .rs ao.length 0 r.length r.length k.w false, b]) [.r k r true el])))) :
    LawOk G O tab f T ao l (.need bb (.v (.tup [a, .ns ao.length r.length k.w, b]) [.rn k r el])) := by
  intro n hn kk L h R wf g hw z hz
  obtain ⟨rfl, hz⟩ := ev_need hz
  have hz : (kk (.tup [a, .ns ao.length r.length k.w, b]) (mkD (ao ++ [.rn k r el]) ao.length)).ev = some z := hz
  cases hr : Nat.beq r.length 0 with
  | true =>
    have h0 : r.length = 0 := Nat.eq_of_beq_eq_true hr
    obtain ⟨x, d', L', h', e1, R1, st, hx⟩ := law n hn okK L h R wf g hw (.tup [a, .nils, b], mkD (ao ++ []) ao.length) (by
      show (Tree.need true (Tree.br (Nat.beq r.length 0) (.ok (.tup [a, .nils, b]) (mkD (ao ++ []) ao.length)) (.ok (.tup [a, .rs ao.length 0 r.length r.length k.w false, b]) (mkD (ao ++ [.r k r true el]) ao.length)))).ev = _
      rw [hr]; rfl)
    have hq := Option.some.inj hx
    obtain ⟨rfl, rfl⟩ := Prod.mk.inj hq
    rw [List.append_nil] at R1 st
    have low : ∀ s, Here ((mkD (ao ++ [.rn k r el]) ao.length).get s) → s < ao.length ∧ (mkD (ao ++ [.rn k r el]) ao.length).get s = (mkD ao ao.length).get s := by
      intro s hs
      rw [mkD_get] at hs
      rcases Nat.lt_trichotomy s ao.length with h | h | h
      · refine ⟨h, ?_⟩
        rw [mkD_get, mkD_get, List.getD_eq_getElem?_getD, List.getD_eq_getElem?_getD, List.getElem?_append_left h]
      · subst h
        rw [List.getD_eq_getElem?_getD, List.getElem?_append_right (Nat.le_refl _), Nat.sub_self] at hs
        have : 0 < r.length := hs
        omega
      · rw [List.getD_eq_getElem?_getD, List.getElem?_eq_none (by simp; omega)] at hs
        exact hs.elim
    refine ⟨.tup [a, .ns ao.length r.length k.w, b], mkD (ao ++ [.rn k r el]) ao.length, fun s => if s < ao.length then L' s else h'.n + (s - (ao.length + 1)), h', ?_, ?_, ?_, hz⟩
    · rw [e1]
      congr 1
      show V.tup [toV L' a, .nils, toV L' b] = V.tup [toV _ a, nsV _ _ _, toV _ b]
      rw [h0, ha L', hb L']; rfl
    · have hL : ∀ s, s < ao.length → (fun s => if s < ao.length then L' s else h'.n + (s - (ao.length + 1))) s = L' s := fun s hs => if_pos hs
      have htoO : ∀ s, s < ao.length → Here ((mkD ao ao.length).get s) → toO (fun s => if s < ao.length then L' s else h'.n + (s - (ao.length + 1))) ((mkD ao ao.length).get s) = toO L' ((mkD ao ao.length).get s) := by
        intro s hs _
        rw [mkD_get, List.getD_eq_getElem?_getD, List.getElem?_eq_getElem hs]
        exact hao _ (List.getElem_mem hs) _ _
      refine ⟨fun s hs => ?_, fun s hs => ?_, fun s s' hs hs' e => ?_, fun j => ?_, fun s hs hl => ?_⟩
      · obtain ⟨h1, h2⟩ := low s hs
        rw [h2] at hs ⊢
        rw [htoO s h1 hs]
        simp only [if_pos h1]
        exact R1.get s hs
      · obtain ⟨h1, h2⟩ := low s hs
        rw [h2] at hs
        refine ⟨by show s < (ao ++ [DO.rn k r el]).length; simp; omega, ?_⟩
        simp only [if_pos h1]
        exact (R1.lt s hs).2
      · obtain ⟨h1, h2⟩ := low s hs
        obtain ⟨h1', h2'⟩ := low s' hs'
        rw [h2] at hs
        rw [h2'] at hs'
        simp only [if_pos h1, if_pos h1'] at e
        exact R1.inj s s' hs hs' e
      · show (if (ao ++ [DO.rn k r el]).length + j < ao.length then _ else h'.n + ((ao ++ [DO.rn k r el]).length + j - (ao.length + 1))) = h'.n + j
        rw [if_neg (by simp; omega)]
        simp
      · obtain ⟨h1, h2⟩ := low s hs
        exact absurd hl (by show ¬ ao.length ≤ s; omega)
    · refine ⟨fun s hs => ?_, by show ao.length ≤ (ao ++ [DO.rn k r el]).length; simp, st.hn, rfl, st.hfl, st.frame, fun s hs hh => ?_, fun s hs hh => ?_⟩
      · simp only [if_pos hs]
        exact st.agree s hs
      · obtain ⟨h1, h2⟩ := low s hh
        rw [h2] at hh
        exact hh
      · exact absurd (low s hh).1 (by omega)
  | false =>
    have h0 : 0 < r.length := by
      rcases Nat.eq_zero_or_pos r.length with h | h
      · rw [h] at hr; cases hr
      · exact h
    obtain ⟨x, d', L', h', e1, R1, st, hx⟩ := law n hn okK L h R wf g hw (.tup [a, .rs ao.length 0 r.length r.length k.w false, b], mkD (ao ++ [.r k r true el]) ao.length) (by
      show (Tree.need true (Tree.br (Nat.beq r.length 0) (.ok (.tup [a, .nils, b]) (mkD (ao ++ []) ao.length)) (.ok (.tup [a, .rs ao.length 0 r.length r.length k.w false, b]) (mkD (ao ++ [.r k r true el]) ao.length)))).ev = _
      rw [hr]; rfl)
    have hq := Option.some.inj hx
    obtain ⟨rfl, rfl⟩ := Prod.mk.inj hq
    have same : ∀ s, (Here ((mkD (ao ++ [.rn k r el]) ao.length).get s) → Here ((mkD (ao ++ [.r k r true el]) ao.length).get s)) ∧ toO L' ((mkD (ao ++ [.rn k r el]) ao.length).get s) = toO L' ((mkD (ao ++ [.r k r true el]) ao.length).get s) := by
      intro s
      rw [mkD_get, mkD_get]
      rcases Nat.lt_trichotomy s ao.length with h | h | h
      · rw [List.getD_eq_getElem?_getD, List.getD_eq_getElem?_getD, List.getElem?_append_left h, List.getElem?_append_left h]
        exact ⟨id, rfl⟩
      · subst h
        rw [List.getD_eq_getElem?_getD, List.getD_eq_getElem?_getD, List.getElem?_append_right (Nat.le_refl _), List.getElem?_append_right (Nat.le_refl _), Nat.sub_self]
        exact ⟨fun _ => trivial, rfl⟩
      · rw [List.getD_eq_getElem?_getD, List.getD_eq_getElem?_getD, List.getElem?_eq_none (by simp; omega), List.getElem?_eq_none (by simp; omega)]
        exact ⟨id, rfl⟩
    refine ⟨.tup [a, .ns ao.length r.length k.w, b], mkD (ao ++ [.rn k r el]) ao.length, L', h', ?_, rep_like R1 (by simp [mkD_n]) rfl (fun s hs => ⟨(same s).1 hs, (same s).2⟩), ?_, hz⟩
    · rw [e1]
      congr 1
      obtain ⟨m, hm⟩ : ∃ m, r.length = m + 1 := ⟨r.length - 1, by omega⟩
      show V.tup [toV L' a, V.sl _ (0 * k.w) _ _ _ _, toV L' b] = V.tup [toV L' a, nsV _ _ _, toV L' b]
      rw [hm, Nat.zero_mul]; rfl
    · exact ⟨st.agree, by show ao.length ≤ (ao ++ [DO.rn k r el]).length; simp, st.hn, rfl, st.hfl, st.frame, fun s hs hh => st.here s hs ((same s).1 hh), fun s hs hh => st.new s hs ((same s).1 hh)⟩
/-- an argument that is a slice that may be nil: out of the law where there is a row, and of that where there is none -/
theorem law_as3 {G : Gl} {O : Nat → List V → H → Res} {tab : Nat → Option CFn} {f T : Nat} {l : List DV} {k k' : RK} {r : List k.T} {r' : List k'.T} {el el' : Nat} {a b : DV} {bb : Bool}
    (hl : ∀ L L' : Nat → Nat, toVs L l = toVs L' l) (ha : ∀ L L' : Nat → Nat, toV L a = toV L' a) (hb : ∀ L L' : Nat → Nat, toV L b = toV L' b)
    (lawR : r.length ≠ 0 → LawOk G O tab f T [.r k r true el] (.rs 0 0 r.length r.length k.w false :: l) (.need bb (.v (.tup [a, .ns 1 r'.length k'.w, b]) [.rn k' r' el'])))
    (lawN : r.length = 0 → r'.length = 0 ∧ LawOk G O tab f T [] (.nils :: l) (.need bb (.v (.tup [a, .nils, b]) []))) :
    LawOk G O tab f T [.rn k r el] (.ns 0 r.length k.w :: l) (.need bb (.v (.tup [a, .ns 1 r'.length k'.w, b]) [.rn k' r' el'])) := by
  intro n hn kk L h R wf g hw z hz
  obtain ⟨rfl, hz⟩ := ev_need hz
  have hz : (kk (.tup [a, .ns 1 r'.length k'.w, b]) (mkD [.rn k r el, .rn k' r' el'] 1)).ev = some z := hz
  by_cases h0 : r.length = 0
  · obtain ⟨hr', law⟩ := lawN h0
    have no : ∀ (rest : List DO) (s : Nat), s < 1 → ¬ Here ((mkD (DO.rn k r el :: rest) 1).get s) := by
      intro rest s hs hh
      rw [mkD_get, show s = 0 by omega] at hh
      have hh : 0 < r.length := hh
      omega
    have R0 : Rep (fun s => h.n + s) (mkD [] 0) h := ⟨fun s hs => by rw [mkD_get] at hs; cases s <;> exact hs.elim, fun s hs => by rw [mkD_get] at hs; cases s <;> exact hs.elim,
      fun s s' hs => by rw [mkD_get] at hs; cases s <;> exact hs.elim, fun j => by show h.n + (0 + j) = _; omega, fun s hs => by rw [mkD_get] at hs; cases s <;> exact hs.elim⟩
    have ev : toVs L (.ns 0 r.length k.w :: l) = toVs (fun s => h.n + s) (.nils :: l) := by
      show nsV _ _ _ :: toVs L l = V.nils :: toVs _ l
      rw [h0, hl L]; rfl
    rw [ev] at hw ⊢
    obtain ⟨x, d', L', h', e1, R1, st, hx⟩ := law n hn okK _ h R0 wf g hw (.tup [a, .nils, b], mkD [] 0) rfl
    have hq := Option.some.inj hx
    obtain ⟨rfl, rfl⟩ := Prod.mk.inj hq
    have no2 : ∀ s : Nat, ¬ Here ((mkD [.rn k r el, .rn k' r' el'] 1).get s) := by
      intro s hs
      rw [mkD_get] at hs
      match s, hs with
      | 0, hs => have : 0 < r.length := hs; omega
      | 1, hs => have : 0 < r'.length := hs; omega
      | s + 2, hs => exact hs
    refine ⟨.tup [a, .ns 1 r'.length k'.w, b], mkD [.rn k r el, .rn k' r' el'] 1, fun s => match s with | 0 => L 0 | s + 1 => h'.n + (s - 1), h', ?_, ?_, ?_, hz⟩
    · rw [e1]
      congr 1
      show V.tup [toV L' a, .nils, toV L' b] = V.tup [toV _ a, nsV _ _ _, toV _ b]
      rw [hr', ha L', hb L']; rfl
    · exact ⟨fun s hs => (no2 s hs).elim, fun s hs => (no2 s hs).elim, fun s s' hs => (no2 s hs).elim, fun j => by
        show (match 2 + j with | 0 => L 0 | s + 1 => h'.n + (s - 1)) = h'.n + j
        rw [show 2 + j = j + 1 + 1 by omega]; rfl, fun s hs => (no2 s hs).elim⟩
    · refine ⟨fun s hs => ?_, by show 1 ≤ 2; omega, st.hn, rfl, st.hfl, fun o ho hf => st.frame o ho fun s hs => ?_, fun s hs hh => (no2 s hh).elim, fun s hs hh => (no2 s hh).elim⟩
      · rw [show s = 0 by have : s < 1 := hs; omega]
      · rw [mkD_get] at hs; cases s <;> exact hs.elim
  · have law := lawR h0
    have like : ∀ (rest : List DO) (s : Nat), (Here ((mkD (DO.rn k r el :: rest) 1).get s) ↔ Here ((mkD (DO.r k r true el :: rest) 1).get s)) ∧ ∀ L : Nat → Nat, toO L ((mkD (DO.rn k r el :: rest) 1).get s) = toO L ((mkD (DO.r k r true el :: rest) 1).get s) := by
      intro rest s
      rw [mkD_get, mkD_get]
      cases s with
      | zero => exact ⟨⟨fun _ => trivial, fun _ => by show 0 < r.length; omega⟩, fun _ => rfl⟩
      | succ s => exact ⟨Iff.rfl, fun _ => rfl⟩
    have R0 : Rep L (mkD [.r k r true el] 1) h := rep_like R rfl rfl fun s hs => ⟨((like [] s).1).2 hs, ((like [] s).2 L).symm⟩
    have ev : toVs L (.ns 0 r.length k.w :: l) = toVs L (.rs 0 0 r.length r.length k.w false :: l) := by
      obtain ⟨m, hm⟩ : ∃ m, r.length = m + 1 := ⟨r.length - 1, by omega⟩
      show nsV _ _ _ :: _ = V.sl _ (0 * k.w) _ _ _ _ :: _
      rw [hm, Nat.zero_mul]; rfl
    rw [ev] at hw ⊢
    obtain ⟨x, d', L', h', e1, R1, st, hx⟩ := law n hn okK _ h R0 wf g hw (.tup [a, .ns 1 r'.length k'.w, b], mkD [.r k r true el, .rn k' r' el'] 1) rfl
    have hq := Option.some.inj hx
    obtain ⟨rfl, rfl⟩ := Prod.mk.inj hq
    refine ⟨_, mkD [.rn k r el, .rn k' r' el'] 1, L', h', e1, rep_like R1 rfl rfl fun s hs => ⟨((like _ s).1).1 hs, (like _ s).2 L'⟩, ?_, hz⟩
    exact ⟨st.agree, by show 1 ≤ 2; omega, st.hn, rfl, st.hfl, fun o ho hf => st.frame o ho fun s hs => hf s (((like [] s).1).2 hs), fun s hs hh => ((like [] s).1).2 (st.here s hs (((like _ s).1).1 hh)),
      fun s hs hh => by
        rcases st.new s hs (((like _ s).1).1 hh) with h | ⟨s0, h1, h2, h3⟩
        · exact .inl h
        · exact .inr ⟨s0, h1, ((like [] s0).1).2 h2, h3⟩⟩
end
end Go.Vm.R
