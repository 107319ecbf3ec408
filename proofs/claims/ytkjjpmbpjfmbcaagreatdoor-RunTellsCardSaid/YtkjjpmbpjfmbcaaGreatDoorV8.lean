/-
  Laws over rows, at the model's level.
-/
import Derived.Test.YtkjjpmbpjfmbcaaGreatDoorV7
import Derived.ChangeArms
import Derived.Test.YtkjjpmbpjfmbcaaGreatDoorV5
import Derived.Deep.Slices
set_option linter.unusedVariables false
set_option linter.unusedSimpArgs false
/-! A law over a row, at the model's level: the argument's row lies in the world. -/
namespace Go.Vm.R
noncomputable section
variable {P : Program}

/-- the heap at the start: the variables that are told, and a row that is only read -/
def rowH (n : Nat) (B : Base) (el : Nat → Nat) (x : Obj) : H := ⟨n + 1, (baseT el B).set .dead n x, n + 1⟩
theorem rowH_get (n : Nat) (B : Base) (el : Nat → Nat) (x : Obj) (o : Nat) : (rowH n B el x).get o = if n = o then x else (baseT el B).get .dead o := by
  show T.get _ (T.set _ _ _ _) _ = _
  rw [T.get_set]
theorem baseT_low {n : Nat} {B : Base} (hB : BaseOk n B) (el : Nat → Nat) {o : Nat} (ho : n ≤ o) : (baseT el B).get .dead o = .dead := by
  refine rhoB_none ?_
  cases h : rhoB B o with
  | none => rfl
  | some p =>
    obtain ⟨l, hm, _, _⟩ := rhoB_some (el := el) h
    have := hB.lt _ hm
    simp only at this
    omega
def rowRho (n : Nat) (B : Base) (p : Pl) : Rho := fun o => if o = n then some p else rhoB B o

/-- where the row lies -/
structure RowAt (W : World) (B : Base) (p : Pl) (cells : List V) (e z : Nat) : Prop where
  lie : ∃ cs fr, W.heap[p.B]? = some (.cells cs e fr) ∧ cs.size = p.N ∧ p.b + cells.length ≤ p.N ∧ fr.2 ≤ p.b + z ∧ ∀ i v, cells[i]? = some v → ∃ x, cs[p.b + i]? = some x ∧ VRel noRho noH v x
  ne : ∀ y ∈ B, y.1 ≠ p.B

theorem rowH_rel {n : Nat} {B : Base} (hB : BaseOk n B) {el : Nat → Nat} {W : World} (hW : BaseAt B el W) {p : Pl} {cells : List V} {e z : Nat} (hp : RowAt W B p cells e z) (hc : wfs 0 cells) :
    HRel (rowRho n B p) (rowH n B el (ob cells true e (some z))) W := by
  have hb := baseH_rel hB hW
  refine ⟨fun o q h => ?_, fun o q h => ?_, fun o o' q q' h h' e => ?_⟩
  · unfold rowRho at h
    show o < n + 1
    split at h
    · omega
    · have := hb.lt o q h
      have : o < n := this
      omega
  · unfold rowRho at h
    rw [rowH_get]
    split at h
    · rename_i e1
      cases h
      rw [if_pos e1.symm]
      obtain ⟨cs, fr, h1, h2, h3, h4, h5⟩ := hp.lie
      refine ⟨cs, fr, h1, h2, h3, (fun h => nomatch h), fun i hi => ?_, h4⟩
      have hi : i < cells.length := hi
      obtain ⟨x, hx, hv⟩ := h5 i cells[i] (List.getElem?_eq_getElem hi)
      refine ⟨x, hx, ?_⟩
      rw [row_get hi, List.getD_eq_getElem?_getD, List.getElem?_eq_getElem hi]
      exact vrel_plain _ _ ((wfs_iff 0 cells).1 hc _ (List.getElem_mem hi)) hv
    · rename_i e1
      rw [if_neg (fun e2 => e1 e2.symm)]
      have ho := hb.obj o q h
      obtain ⟨l, hm, _, hg⟩ := rhoB_some (el := el) h
      have e2 : (baseH n B el).get o = (baseT el B).get .dead o := rfl
      rw [e2] at ho
      rw [hg] at ho ⊢
      obtain ⟨cs, fr, h1, h2, h3, h4, h5, h6⟩ := ho
      refine ⟨cs, fr, h1, h2, h3, h4, fun i hi => ?_, h6⟩
      obtain ⟨x, hx, hv⟩ := h5 i hi
      refine ⟨x, hx, ?_⟩
      have hi' : i < l.length := hi
      rw [get_writeCells, if_pos ⟨Nat.zero_le _, by omega⟩] at hv ⊢
      refine vrel_plain _ _ ?_ hv
      rw [List.getD_eq_getElem?_getD, List.getElem?_eq_getElem (by omega)]
      exact (wfs_iff 0 l).1 (hB.wf _ hm) _ (List.getElem_mem _)
  · unfold rowRho at h h'
    split at h <;> split at h'
    · omega
    · cases h
      obtain ⟨l, hm, hq, _⟩ := rhoB_some (el := el) h'
      exact absurd (show o' = p.B by rw [e, hq]) (hp.ne _ hm)
    · cases h'
      obtain ⟨l, hm, hq, _⟩ := rhoB_some (el := el) h
      exact absurd (show o = p.B by rw [← e, hq]) (hp.ne _ hm)
    · exact hb.inj o o' q q' h h' e

theorem rowH_wfh {n : Nat} {B : Base} (hB : BaseOk n B) (el : Nat → Nat) {cells : List V} {e z : Nat} (hc : wfs 0 cells) : wfh (rowH n B el (ob cells true e (some z))) := by
  refine ⟨Nat.le_refl _, fun o => ?_⟩
  rw [rowH_get]
  show wfo (n + 1) _
  split
  · intro i
    rcases Nat.lt_or_ge i cells.length with hi | hi
    · rw [row_get hi, List.getD_eq_getElem?_getD, List.getElem?_eq_getElem hi]
      exact wf_mono (Nat.zero_le _) _ ((wfs_iff 0 cells).1 hc _ (List.getElem_mem hi))
    · show wf (n + 1) ((writeCells .lf 0 cells).get .bot i)
      rw [get_writeCells, if_neg (by omega), T.get_lf]
      trivial
  · have := (baseH_wfh hB el).2 o
    have h2 : wfo n ((baseT el B).get .dead o) := this
    cases hr : rhoB B o with
    | none => rw [rhoB_none hr]; trivial
    | some q =>
      obtain ⟨l, hm, _, hg⟩ := rhoB_some (el := el) hr
      rw [hg]
      intro i
      exact wf_writeCells (fun i => by rw [T.get_lf]; trivial) (wfs_mono (Nat.zero_le _) _ (hB.wf _ hm)) 0 i

theorem rowH_gr {n : Nat} (B : Base) (el : Nat → Nat) (p : Pl) (x : Obj) : GRel n (rowRho n B p) (rowH n B el x) := by
  refine ⟨Nat.le_succ n, fun g hg => ?_⟩
  have e1 : rowRho n B p g = rhoB B g := if_neg (by omega)
  have e2 : (rowH n B el x).get g = (baseH n B el).get g := by rw [rowH_get, if_neg (by omega)]; rfl
  rw [e1, e2]
  exact (baseH_gr B el).2 g hg

/-- THE LAW, AT THE MODEL'S LEVEL: a call whose arguments name one row answers true, and leaves what was there -/
theorem row_call (C : Ctx P) {B : Base} {hlt : ∀ x ∈ B, x.1 < P.globals.size} (hG : C.G = glBase P.globals.size B hlt) (hB : BaseOk P.globals.size B) (hS : CallSim P C.O) (hm : ∀ el, meets (baseH P.globals.size B el) B = true)
    {f T : Nat} {k : RK} {full : List k.T} {e z : Nat} {l : List DV} {out : RD} {d : DH} (law : LawOk C.G C.O C.tab f T [.r k full true ⟨e, z⟩] l out) (ho : (out.tree [.r k full true ⟨e, z⟩] 1 okK).ev = some (.bool true, d))
    {W : World} {el : Nat → Nat} (hW : BaseAt B el W) {p : Pl} (hp : RowAt W B p (rowV k full) e z) {vs : List Value}
    (hwf : wfs (P.globals.size + 1) (toVs (fun s => P.globals.size + s) l))
    (hvs : ∀ ρ h, ρ P.globals.size = some p → VRels ρ h (toVs (fun s => P.globals.size + s) l) vs) :
    Calls P f vs.toArray W fun e W' => e = .returned (.bool true) ∧ Kept W W' := by
  have hc : wfs 0 (rowV k full) := rowV_wf 0 full
  have R : Rep (fun s => P.globals.size + s) (mkD [.r k full true ⟨e, z⟩] 1) (rowH P.globals.size B el (ob (rowV k full) true e (some z))) := by
    have key : ∀ s, Here ((mkD [.r k full true ⟨e, z⟩] 1).get s) → s = 0 := by
      intro s hs
      rw [mkD_get] at hs
      cases s with
      | zero => rfl
      | succ s => exact hs.elim
    refine ⟨fun s hs => ?_, fun s hs => ?_, fun s s' hs hs' _ => ?_, fun j => ?_, fun s hs hl => ?_⟩
    · obtain rfl := key s hs
      rw [rowH_get, if_pos (Nat.add_zero _).symm]; rfl
    · obtain rfl := key s hs
      exact ⟨Nat.lt_succ_self 0, Nat.lt_succ_self _⟩
    · rw [key s hs, key s' hs']
    · show P.globals.size + (1 + j) = P.globals.size + 1 + j
      omega
    · obtain rfl := key s hs
      exact absurd hl (by show ¬ 1 ≤ 0; omega)
  have wh := rowH_wfh (z := z) hB el hc (e := e)
  have hj : C.G.J (rowH P.globals.size B el (ob (rowV k full) true e (some z))) := by
    rw [hG]
    refine ⟨Nat.le_succ _, Nat.le_succ _, meets_same (fun x hx => ?_) (hm el)⟩
    rw [rowH_get, if_neg (by have := hlt x hx; omega)]; rfl
  obtain ⟨w, d', L', h', e1, _, _, hz⟩ := law T (Nat.le_refl _) okK _ _ R wh hj hwf _ ho
  have hw : w = .bool true := congrArg Prod.fst (Option.some.inj hz)
  subst hw
  have hrel := rowH_rel hB hW hp hc
  obtain ⟨_, hq⟩ := soundO noTmps_ok C.hX.good hS C.ht T f _ _ _ W vs hrel wh (rowH_gr B el p _) hwf (hvs _ _ (if_pos rfl)) (by rw [e1]; intro h; cases h)
  rw [e1] at hq
  refine hq.mono fun x W' he => ?_
  cases x with
  | returned x =>
    obtain ⟨ρ', hv, hpo⟩ := he
    rw [vrel_bool hv]
    exact ⟨rfl, hpo.fr.os, hpo.fr.output, fun B' hB' => hpo.fr.old B' hB' fun o p h _ => hrel.lt o p h⟩
  | panicked ch => exact he.elim
  | outgrown => exact he.elim

/-- .. of a call whose arguments name no row -/
theorem plain_call (C : Ctx P) {B : Base} {hlt : ∀ x ∈ B, x.1 < P.globals.size} (hG : C.G = glBase P.globals.size B hlt) (hB : BaseOk P.globals.size B) (hS : CallSim P C.O) (hm : ∀ el, meets (baseH P.globals.size B el) B = true)
    {f T : Nat} {l : List DV} {out : RD} {d : DH} (law : LawOk C.G C.O C.tab f T [] l out) (ho : (out.tree [] 0 okK).ev = some (.bool true, d))
    {W : World} {el : Nat → Nat} (hW : BaseAt B el W) {vs : List Value}
    (hwf : wfs P.globals.size (toVs (fun s => P.globals.size + s) l)) (hvs : ∀ ρ h, VRels ρ h (toVs (fun s => P.globals.size + s) l) vs) :
    Calls P f vs.toArray W fun e W' => e = .returned (.bool true) ∧ Kept W W' := by
  have no : ∀ s, ¬ Here ((mkD [] 0).get s) := by
    intro s hs
    rw [mkD_get] at hs
    exact hs.elim
  have R : Rep (fun s => P.globals.size + s) (mkD [] 0) (baseH P.globals.size B el) :=
    ⟨fun s hs => absurd hs (no s), fun s hs => absurd hs (no s), fun s _ hs => absurd hs (no s), fun j => by show P.globals.size + (0 + j) = P.globals.size + j; omega, fun s hs => absurd hs (no s)⟩
  have wh := baseH_wfh hB el
  have hj : C.G.J (baseH P.globals.size B el) := by
    rw [hG]
    exact ⟨Nat.le_refl _, Nat.le_refl _, hm el⟩
  obtain ⟨w, d', L', h', e1, _, _, hz⟩ := law T (Nat.le_refl _) okK _ _ R wh hj hwf _ ho
  have hw : w = .bool true := congrArg Prod.fst (Option.some.inj hz)
  subst hw
  have hrel := baseH_rel hB hW
  obtain ⟨_, hq⟩ := soundO noTmps_ok C.hX.good hS C.ht T f _ _ _ W vs hrel wh (baseH_gr B el) hwf (hvs _ _) (by rw [e1]; intro h; cases h)
  rw [e1] at hq
  refine hq.mono fun x W' he => ?_
  cases x with
  | returned x =>
    obtain ⟨ρ', hv, hpo⟩ := he
    rw [vrel_bool hv]
    exact ⟨rfl, hpo.fr.os, hpo.fr.output, fun B' hB' => hpo.fr.old B' hB' fun o p h _ => hrel.lt o p h⟩
  | panicked ch => exact he.elim
  | outgrown => exact he.elim
end
end Go.Vm.R

/-! An argument that is a slice of records of two texts: its row; and that it reads behind the call as it read. -/
namespace Go.Vm.R
noncomputable section
open Go.Deep
variable {H : Type} {enc : TypeId × Value → H} {P : Program}

theorem cell_at {W : World} {a : Addr} {v : Value} (h : W.cell? a = some v) : a.spot = none ∧ ∃ cs e fr, W.heap[a.block]? = some (.cells cs e fr) ∧ cs[a.off]? = some v := by
  unfold World.cell? at h
  split at h
  · rename_i c e fr hb
    split at h
    · cases h
    · rename_i hs
      refine ⟨by simpa using hs, c, e, fr, hb, h⟩
  · cases h

theorem cells_kept {W W' : World} (k : Kept W W') {a : Addr} {n : Nat} {cs : List Value} (h : W.cells? 0 a n = some cs) (hb : a.block < W.heap.size) : W'.cells? 0 a n = some cs := by
  have e : ∀ i, W'.cell? (a.add i) = W.cell? (a.add i) := by
    intro i
    have : (a.add i).block = a.block := by unfold Addr.add; split <;> rfl
    unfold World.cell?
    rw [this, k.heap _ hb]
  unfold World.cells? at h ⊢
  simp only [e]
  exact h

/-- what such a type is made of -/
structure EntT (P : Program) (t e : TypeId) : Prop where
  sl : P.underlying t = some (.slice e)
  two : ∃ f0 f1 : Field, P.underlying e = some (.struct #[f0, f1]) ∧ P.underlying f0.type = some .string ∧ P.underlying f1.type = some .string ∧ f0.offset = 0 ∧ f1.offset = 1 ∧ P.cellsOf f0.type = 1 ∧ P.cellsOf f1.type = 1
  cells : P.cellsOf e = 2
  plain : plainT P 8 e = true

theorem trod_ent {t e : TypeId} (T : EntT P t e) {w : World} {base : Nat} {sp : Nat → Bool} {hd : Bool} {fuel : Nat} {cs : List Value} {x : DataW H × List MemPlace} (h : DataW.trod enc P w base sp hd fuel e cs = some x) :
    ∃ s0 s1 : ByteArray, cs = [.string s0, .string s1] := by
  obtain ⟨f0, f1, h1, h2, h3, h4, h5, h6, h7⟩ := T.two
  obtain ⟨y0, y1, n, _, hl, r0, r1⟩ := ChangeShapes.trod_struct2 h1 h
  rw [h4, h6] at r0
  rw [h5, h7] at r1
  rw [T.cells] at hl
  obtain ⟨s0, e0, _⟩ := DataW.trod_string h2 r0
  obtain ⟨s1, e1, _⟩ := DataW.trod_string h3 r1
  match cs, hl with
  | [a, b], _ =>
    simp at e0 e1
    exact ⟨s0, s1, by rw [e0, e1]⟩

theorem rowV_ent_get (full : List RK.ent.T) (i : Nat) (hi : i < full.length) (x : List UInt8 × List UInt8) (hx : full[i]? = some x) : (rowV .ent full)[2 * i]? = some (sv x.1) ∧ (rowV .ent full)[2 * i + 1]? = some (sv x.2) := by
  induction full generalizing i with
  | nil => simp at hi
  | cons y r ih =>
    cases i with
    | zero =>
      have : y = x := Option.some.inj hx
      subst this
      exact ⟨rfl, rfl⟩
    | succ i =>
      have := ih i (by simpa using hi) (by simpa using hx)
      exact this

theorem open_ents {t e : TypeId} (T : EntT P t e) {W : World} {v : Value} {d : DataW H} {ps : List MemPlace} (h : DataW.Trod enc P W 0 (fun _ => true) true t v d ps) {base : Nat} (hval : Value.okWide P W .any base t v) :
    (v = .slice none 0 0 ∧ ∀ (W' : World) (sp : Nat → Bool), DataW.Trod enc P W' 0 sp true t v d ps) ∨
    ∃ (a : Addr) (len cap : Nat) (full : List RK.ent.T) (cs : Array Value) (row : TypeId) (fr : Nat × Nat), v = .slice (some a) len cap ∧ a.spot = none ∧ len ≤ cap ∧ cap ≤ maxLen ∧ full.length = cap ∧
      W.heap[a.block]? = some (.cells cs row fr) ∧ (∀ i v, (rowV .ent full)[i]? = some v → ∃ s : ByteArray, cs[a.off + i]? = some (.string s) ∧ v = sv s.data.toList) ∧
      ∀ W', Kept W W' → ∀ sp : Nat → Bool, (∀ p ∈ ps, sp p.block = true) → DataW.Trod enc P W' 0 sp true t v d ps := by
  have hc : Cell.ok P W .any base t v := by
    unfold Value.okWide at hval
    rw [T.sl] at hval
    simp only at hval
    unfold Cell.okWide at hval
    rw [T.sl] at hval
    exact hval
  obtain ⟨fuel, h⟩ := h
  rcases open_slice T.sl h with ⟨hcs, hx⟩ | ⟨a, len, cap, m, n, D, Pl, hcs, _, hlc, hm, hmm, hx, hel⟩
  · left
    unfold Cell.ok at hc
    rw [T.sl] at hc
    have hv : v = .slice none 0 0 := by
      cases v <;> first | exact hc.elim | skip
      rename_i a l c
      have : [Value.slice a l c] = [.slice none 0 0] := hcs
      simpa using this
    refine ⟨hv, fun W' sp => ⟨1, ?_⟩⟩
    rw [hcs, hx]
    unfold DataW.trod
    simp only [T.sl]
  · right
    have hm' : m = cap := hmm
    subst hm'
    have hv : v = .slice (some a) len m := by
      unfold Cell.ok at hc
      rw [T.sl] at hc
      cases v <;> first | exact hc.elim | skip
      rename_i a' l c
      have : [Value.slice a' l c] = [.slice (some a) len m] := hcs
      simpa using this
    subst hv
    unfold Cell.ok at hc
    rw [T.sl] at hc
    obtain ⟨_, _, _, hspot, row, cells, hsh, _⟩ := hc
    obtain ⟨cs, fr, hb⟩ : ∃ cs fr, W.heap[a.block]? = some (.cells cs row fr) := by
      unfold World.shape? at hsh
      split at hsh
      · rename_i c el fr hb
        cases hsh
        exact ⟨c, fr, hb⟩
      · cases hsh
    have hlt : a.block < W.heap.size := (Array.getElem?_eq_some_iff.1 hb).1
    rw [T.cells] at hel
    obtain ⟨S, hS⟩ := choose_lt (α := ByteArray × ByteArray) (n := m) (p := fun i s => W.cells? 0 (a.add (i * 2)) 2 = some [.string s.1, .string s.2] ∧ DataW.trod enc P W 0 (fun _ => true) true n e [.string s.1, .string s.2] = some (D i, Pl i)) (fun i hi => by
      obtain ⟨cs', h1, h2⟩ := hel i hi
      obtain ⟨s0, s1, rfl⟩ := trod_ent T h2
      exact ⟨(s0, s1), h1, h2⟩)
    have hcell : ∀ i, i < m → cs[a.off + 2 * i]? = some (.string (S i).1) ∧ cs[a.off + (2 * i + 1)]? = some (.string (S i).2) := by
      intro i hi
      obtain ⟨_, _, h3⟩ := World.cells?_some (hS i hi).1
      have hadd : ∀ j, a.add j = ⟨a.block, a.off + j, none⟩ := by
        intro j
        obtain ⟨b, o, sp⟩ := a
        have : sp = none := hspot
        subst this
        exact WideShapes.add_plain b o j
      have c0 := h3 0 (by omega)
      have c1 := h3 1 (by omega)
      rw [hadd, WideShapes.add_plain] at c0 c1
      simp only [World.cell?, hb] at c0 c1
      refine ⟨?_, ?_⟩
      · rw [show a.off + 2 * i = a.off + i * 2 + 0 by omega]; simpa using c0
      · rw [show a.off + (2 * i + 1) = a.off + i * 2 + 1 by omega]; simpa using c1
    have ex : ∃ full : List (List UInt8 × List UInt8), full.length = m ∧ ∀ k, k < m → full[k]? = some ((S k).1.data.toList, (S k).2.data.toList) :=
      ⟨(List.range m).map (fun i => ((S i).1.data.toList, (S i).2.data.toList)), by simp, fun k hk => by simp [hk]⟩
    obtain ⟨full, hfl, hfg⟩ : ∃ full : List RK.ent.T, full.length = m ∧ ∀ k, k < m → full[k]? = some ((S k).1.data.toList, (S k).2.data.toList) := ex
    refine ⟨a, len, m, full, cs, row, fr, rfl, hspot, hlc, hm, hfl, hb, ?_, ?_⟩
    · intro i v hiv
      have hlen : i < m * 2 := by
        have := (List.getElem?_eq_some_iff.1 hiv).1
        rw [rowV_len, hfl] at this
        exact this
      have hk : i / 2 < m := by omega
      have hg := rowV_ent_get full (i / 2) (by rw [hfl]; exact hk) ((S (i / 2)).1.data.toList, (S (i / 2)).2.data.toList) (hfg _ hk)
      have hcc := hcell (i / 2) hk
      rcases Nat.mod_two_eq_zero_or_one i with h0 | h0
      · have hi2 : i = 2 * (i / 2) := by omega
        generalize i / 2 = q at *
        subst hi2
        rw [hg.1] at hiv
        exact ⟨(S q).1, hcc.1, (Option.some.inj hiv).symm⟩
      · have hi2 : i = 2 * (i / 2) + 1 := by omega
        rw [hi2] at hiv ⊢
        rw [hg.2] at hiv
        exact ⟨(S (i / 2)).2, hcc.2, (Option.some.inj hiv).symm⟩
    · intro W' k sp hsp
      have hx1 := congrArg Prod.fst hx
      have hx2 := congrArg Prod.snd hx
      simp only at hx1 hx2
      have hread : ∀ i, i < m → ∃ cs' n', W'.cells? 0 (a.add (i * P.cellsOf e)) (P.cellsOf e) = some cs' ∧ DataW.trod enc P W' 0 sp true n' e cs' = some (D i, Pl i) := by
        intro i hi
        obtain ⟨h1, h2⟩ := hS i hi
        refine ⟨_, n, ?_, (trod_plain n 8 e _ _ T.plain h2).1⟩
        rw [T.cells]
        refine cells_kept k h1 ?_
        have : (a.add (i * 2)).block = a.block := by unfold Addr.add; split <;> rfl
        rw [this]; exact hlt
      rw [hx1, hx2]
      cases hs : sp a.block with
      | true => exact shut_slice_whole T.sl (Nat.zero_le _) hlc hm hs D Pl hread
      | false =>
        have h0 : m = 0 := by
          rcases Nat.eq_zero_or_pos m with h | h
          · exact h
          · exfalso
            have hmem : MemPlace.cell a.block a.off ∈ ps := by
              rw [hx2, T.cells]
              refine List.mem_append_left _ ?_
              unfold MemPlace.row
              simp only [List.mem_map, List.mem_range]
              exact ⟨0, by omega, by simp⟩
            have := hsp _ hmem
            rw [show (MemPlace.cell a.block a.off).block = a.block from rfl, hs] at this
            cases this
        subst h0
        obtain rfl : len = 0 := by omega
        exact shut_slice T.sl (Nat.zero_le _) hlc hm hs D Pl (fun i hi => absurd hi (by omega))

/-- where the row of such an argument lies: the variables that are told hold integers, and there is another block than theirs -/
theorem ent_at {W : World} {B : Base} {el : Nat → Nat} (hW : BaseAt B el W) (hint : ∀ y ∈ B, ∀ v ∈ y.2, ∃ k z, v = .int k z) (hother : ∃ g cs e fr, W.heap[g]? = some (.cells cs e fr) ∧ ∀ y ∈ B, y.1 ≠ g)
    {a : Addr} {len cap : Nat} {full : List RK.ent.T} {cs : Array Value} {row : TypeId} {fr : Nat × Nat} (hspot : a.spot = none) (hlc : len ≤ cap) (hfl : full.length = cap) (hb : W.heap[a.block]? = some (.cells cs row fr))
    (hc : ∀ i v, (rowV .ent full)[i]? = some v → ∃ s : ByteArray, cs[a.off + i]? = some (.string s) ∧ v = sv s.data.toList) (n : Nat) :
    ∃ (p : Pl) (e z : Nat), RowAt W B p (rowV .ent full) e z ∧ ∀ ρ h, ρ n = some p → VRel ρ h (toV (fun s => n + s) (.rs 0 0 len cap 2 true)) (.slice (some a) len cap) := by
  have hlen : (rowV .ent full).length = cap * 2 := by rw [rowV_len, hfl]; rfl
  rcases Nat.eq_zero_or_pos cap with h0 | h0
  · obtain ⟨g, cs2, e2, fr2, hg, hne⟩ := hother
    refine ⟨⟨g, 0, cs2.size⟩, e2, fr2.2, ⟨⟨cs2, fr2, hg, rfl, ?_, ?_, ?_⟩, hne⟩, fun ρ h hρ => ?_⟩
    · rw [hlen, h0]; show 0 + 0 * 2 ≤ cs2.size; omega
    · show fr2.2 ≤ 0 + fr2.2; omega
    · intro i v hiv
      have := (List.getElem?_eq_some_iff.1 hiv).1
      omega
    · subst h0
      obtain rfl : len = 0 := by omega
      exact .sl (p := ⟨g, 0, cs2.size⟩) hρ (Nat.le_refl _) (Nat.le_refl _) (fun _ => rfl) (fun h => absurd h (Nat.lt_irrefl 0)) (by show 0 + 0 * 2 + 0 * 2 ≤ cs2.size; omega)
  · have hlast : a.off + cap * 2 ≤ cs.size := by
      have hi : cap * 2 - 1 < (rowV .ent full).length := by omega
      obtain ⟨s, hs, _⟩ := hc (cap * 2 - 1) _ (List.getElem?_eq_getElem hi)
      have := (Array.getElem?_eq_some_iff.1 hs).1
      omega
    refine ⟨⟨a.block, a.off, cs.size⟩, row, fr.2, ⟨⟨cs, fr, hb, rfl, ?_, ?_, ?_⟩, ?_⟩, fun ρ h hρ => ?_⟩
    · rw [hlen]; exact hlast
    · show fr.2 ≤ a.off + fr.2; omega
    · intro i v hiv
      obtain ⟨s, hs, rfl⟩ := hc i v hiv
      exact ⟨_, hs, .str s⟩
    · intro y hy he
      obtain ⟨cs0, fr0, h1, _, h3⟩ := hW y hy
      rw [he, hb] at h1
      cases h1
      have hi : 0 < (rowV .ent full).length := by omega
      obtain ⟨s, hs, _⟩ := hc 0 _ (List.getElem?_eq_getElem hi)
      have hl := h3.length
      have hlt := (Array.getElem?_eq_some_iff.1 hs).1
      have hlt2 : a.off + 0 < y.2.length := by rw [← hl]; simpa using hlt
      obtain ⟨x, hx, hv⟩ := h3.get (List.getElem?_eq_getElem hlt2)
      obtain ⟨k, z, hk⟩ := hint y hy _ (List.getElem_mem hlt2)
      rw [hk] at hv
      have hx2 : cs[a.off + 0]? = some x := by simpa using hx
      rw [hs] at hx2
      cases hx2
      cases hv
    · obtain ⟨b, o, sp⟩ := a
      have : sp = none := hspot
      subst this
      refine .sl (p := ⟨b, o, cs.size⟩) hρ hlc (Nat.le_refl _) (fun _ => rfl) (fun _ => ?_) ?_
      · show (⟨b, o, none⟩ : Addr) = ⟨b, o + 0 * 2, none⟩
        rw [Nat.zero_mul, Nat.add_zero]
      · show o + 0 * 2 + cap * 2 ≤ cs.size
        have : o + cap * 2 ≤ cs.size := hlast
        omega
end
end Go.Vm.R

/-! A slice that may be nil, as two cases. -/
namespace Go.Vm.R
noncomputable section

theorem rep_like {L : Nat → Nat} {d d2 : DH} {h : H} (R : Rep L d h) (hn : d2.n = d.n) (hf : d2.fl = d.fl) (hs : ∀ s, Here (d2.get s) → Here (d.get s) ∧ toO L (d2.get s) = toO L (d.get s)) : Rep L d2 h where
  get := fun s h2 => by rw [(hs s h2).2]; exact R.get s (hs s h2).1
  lt := fun s h2 => by rw [hn]; exact R.lt s (hs s h2).1
  inj := fun s s' h2 h2' e => R.inj s s' (hs s h2).1 (hs s' h2').1 e
  fut := fun j => by rw [hn]; exact R.fut j
  fl := fun s h2 hl => R.fl s (hs s h2).1 (by rw [← hf]; exact hl)

/-- where the answer is a slice that is nil if it is empty: either nil, or a row -/
theorem law_ns {G : Gl} {O : Nat → List V → H → Res} {tab : Nat → Option CFn} {f T : Nat} {ao : List DO} {l : List DV} {b : Bool} {k : RK} {r : List k.T} {el : Nat}
    (law : LawOk G O tab f T ao l (.need b (.v (.ns ao.length r.length k.w) [.rn k r el]))) :
    LawOk G O tab f T ao l (.need b (.br (Nat.beq r.length 0) (.v .nils []) (.v (.rs ao.length 0 r.length r.length k.w false) [.r k r true el]))) := by
  intro n hn kk L h R wf g hw z hz
  obtain ⟨rfl, hz⟩ := ev_need hz
  obtain ⟨x, d', L', h', e1, R1, st, hx⟩ := law n hn okK L h R wf g hw _ (show (Tree.need true (.ok (.ns ao.length r.length k.w) (mkD (ao ++ [.rn k r el]) ao.length))).ev = some (.ns ao.length r.length k.w, mkD (ao ++ [.rn k r el]) ao.length) from rfl)
  have hq := Option.some.inj hx
  obtain ⟨rfl, rfl⟩ := Prod.mk.inj hq
  cases hr : Nat.beq r.length 0 with
  | true =>
    have h0 : r.length = 0 := Nat.eq_of_beq_eq_true hr
    have hz : (kk .nils (mkD (ao ++ []) ao.length)).ev = some z := by
      have : (Tree.br (Nat.beq r.length 0) (kk .nils (mkD (ao ++ []) ao.length)) (kk (.rs ao.length 0 r.length r.length k.w false) (mkD (ao ++ [.r k r true el]) ao.length))).ev = some z := hz
      rw [hr] at this
      exact this
    have key : ∀ s, Here ((mkD (ao ++ []) ao.length).get s) → s < ao.length ∧ (mkD (ao ++ []) ao.length).get s = (mkD (ao ++ [.rn k r el]) ao.length).get s := by
      intro s hs
      rw [mkD_get] at hs
      have hlt : s < ao.length := by
        rcases Nat.lt_or_ge s ao.length with h | h
        · exact h
        · rw [List.append_nil, List.getD_eq_getElem?_getD, List.getElem?_eq_none h] at hs
          exact hs.elim
      refine ⟨hlt, ?_⟩
      rw [mkD_get, mkD_get, List.append_nil, List.getD_eq_getElem?_getD, List.getD_eq_getElem?_getD, List.getElem?_append_left hlt]
    let L2 : Nat → Nat := fun s => if s < ao.length then L' s else h'.n + (s - ao.length)
    have low : ∀ s, s < ao.length → L2 s = L' s := fun s hs => if_pos hs
    have hR1n : (mkD (ao ++ [.rn k r el]) ao.length).n = ao.length + 1 := by simp [mkD]
    have gd := wf
    refine ⟨.nils, _, L2, h', ?_, ?_, ?_, hz⟩
    · rw [e1]
      congr 1
      show nsV _ _ _ = _
      rw [h0]; rfl
    · refine ⟨fun s hs => ?_, fun s hs => ?_, fun s s' hs hs' e => ?_, fun j => ?_, fun s hs hl => ?_⟩
      · obtain ⟨h1, h2⟩ := key s hs
        rw [low s h1]
        have hs1 := hs
        rw [h2] at hs1 ⊢
        rw [R1.get s hs1]
        -- the arguments' objects name nothing that is new
        cases hg : (mkD (ao ++ [.rn k r el]) ao.length).get s with
        | c lc sp ee =>
          show ob (toVs L' lc) sp ee (some 0) = ob (toVs L2 lc) sp ee (some 0)
          have hL : ∀ s', s' < ao.length → L' s' = L s' := st.agree
          have hold : h'.get (L' s) = toO L' (.c lc sp ee) := by rw [← hg]; exact R1.get s hs1
          -- as at the start
          have hsa : Here ((mkD ao ao.length).get s) := by
            have : (mkD ao ao.length).get s = (mkD (ao ++ []) ao.length).get s := by rw [List.append_nil]
            rw [this]; exact hs
          have hga : (mkD ao ao.length).get s = .c lc sp ee := by
            have : (mkD ao ao.length).get s = (mkD (ao ++ []) ao.length).get s := by rw [List.append_nil]
            rw [this, h2, hg]
          have h3 := R.get s hsa
          rw [hga] at h3
          have hw2 := wf.2 (L s)
          rw [h3] at hw2
          have hwl : wfs h.n (toVs L lc) := by
            rw [wfs_iff]
            intro v hv
            obtain ⟨i, hi, rfl⟩ := List.mem_iff_getElem.1 hv
            have := hw2 i
            rw [row_get hi, List.getD_eq_getElem?_getD, List.getElem?_eq_getElem hi] at this
            exact this
          have fu : ∀ s', ao.length ≤ s' → h.n ≤ L s' := fun s' hs' => R.fut' s' hs'
          have a1 : toVs L' lc = toVs L lc := toVs_agree hL fu lc hwl
          have a2 : toVs L2 lc = toVs L lc := toVs_agree (fun s' hs' => (low s' hs').trans (hL s' hs')) fu lc hwl
          rw [a1, a2]
        | _ => rfl
      · obtain ⟨h1, h2⟩ := key s hs
        rw [h2] at hs
        rw [low s h1]
        exact ⟨by show s < (ao ++ []).length; rw [List.append_nil]; exact h1, (R1.lt s hs).2⟩
      · obtain ⟨h1, h2⟩ := key s hs
        obtain ⟨h1', h2'⟩ := key s' hs'
        rw [h2] at hs
        rw [h2'] at hs'
        rw [low s h1, low s' h1'] at e
        exact R1.inj s s' hs hs' e
      · have hnn : (mkD (ao ++ []) ao.length).n = ao.length := by simp [mkD]
        rw [hnn]
        show (if ao.length + j < ao.length then _ else h'.n + (ao.length + j - ao.length)) = _
        rw [if_neg (by omega)]; omega
      · obtain ⟨h1, _⟩ := key s hs
        exact absurd h1 (by have : ao.length ≤ s := hl; omega)
    · refine ⟨fun s hs => (low s hs).trans (st.agree s hs), by show ao.length ≤ (ao ++ []).length; rw [List.append_nil]; exact Nat.le_refl _, st.hn, rfl, st.hfl, st.frame, fun s hs hh => ?_, fun s hs hh => ?_⟩
      · obtain ⟨_, h2⟩ := key s hh
        rw [h2] at hh
        exact st.here s hs hh
      · obtain ⟨h1, _⟩ := key s hh
        omega
  | false =>
    have h0 : 0 < r.length := by
      rcases Nat.eq_zero_or_pos r.length with h | h
      · rw [h] at hr; cases hr
      · exact h
    have hz : (kk (.rs ao.length 0 r.length r.length k.w false) (mkD (ao ++ [.r k r true el]) ao.length)).ev = some z := by
      have : (Tree.br (Nat.beq r.length 0) (kk .nils (mkD (ao ++ []) ao.length)) (kk (.rs ao.length 0 r.length r.length k.w false) (mkD (ao ++ [.r k r true el]) ao.length))).ev = some z := hz
      rw [hr] at this
      exact this
    have same : ∀ s, (Here ((mkD (ao ++ [.r k r true el]) ao.length).get s) → Here ((mkD (ao ++ [.rn k r el]) ao.length).get s)) ∧ toO L' ((mkD (ao ++ [.r k r true el]) ao.length).get s) = toO L' ((mkD (ao ++ [.rn k r el]) ao.length).get s) := by
      intro s
      rw [mkD_get, mkD_get, List.getD_eq_getElem?_getD, List.getD_eq_getElem?_getD]
      rcases Nat.lt_trichotomy s ao.length with h | h | h
      · rw [List.getElem?_append_left h, List.getElem?_append_left h]
        exact ⟨id, rfl⟩
      · subst h
        rw [List.getElem?_append_right (Nat.le_refl _), List.getElem?_append_right (Nat.le_refl _), Nat.sub_self]
        exact ⟨fun _ => h0, rfl⟩
      · rw [List.getElem?_eq_none (by simp; omega), List.getElem?_eq_none (by simp; omega)]
        exact ⟨id, rfl⟩
    refine ⟨.rs ao.length 0 r.length r.length k.w false, mkD (ao ++ [.r k r true el]) ao.length, L', h', ?_, rep_like R1 (by simp [mkD]) rfl (fun s hs => ⟨(same s).1 hs, (same s).2⟩), ?_, hz⟩
    · rw [e1]
      congr 1
      obtain ⟨m, hm⟩ : ∃ m, r.length = m + 1 := ⟨r.length - 1, by omega⟩
      show nsV _ _ _ = V.sl _ (0 * k.w) _ _ _ _
      rw [hm, Nat.zero_mul]; rfl
    · exact ⟨st.agree, by simp [mkD], st.hn, rfl, st.hfl, st.frame, fun s hs hh => st.here s hs ((same s).1 hh), fun s hs hh => st.new s hs ((same s).1 hh)⟩
end
end Go.Vm.R
