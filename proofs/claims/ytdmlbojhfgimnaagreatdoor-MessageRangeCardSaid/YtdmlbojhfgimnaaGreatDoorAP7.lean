/-
  A law over rows that names no row, as a plain law; what the laws of blocks stand over.
-/
import Derived.Test.YtdmlbojhfgimnaaGreatDoorAP6
import Derived.Test.YtdmlbojhfgimnaaGreatDoorV8
set_option linter.unusedVariables false
set_option linter.unusedSimpArgs false
namespace Go.Vm.R
noncomputable section
theorem plain_of_law {P : Program} (C : Ctx P) {B : Base} {hlt : ∀ x ∈ B, x.1 < P.globals.size} (hG : C.G = glBase P.globals.size B hlt) (hB : BaseOk P.globals.size B) (hS : CallSim P C.O) (hm : ∀ el, meets (baseH P.globals.size B el) B = true)
    {f T : Nat} {l : List DV} {l0 : List Vm.DV} {v : DV} {v0 : Vm.DV} {out : RD} {d : DH} (law : LawOk C.G C.O C.tab f T [] l out) (ho : (out.tree [] 0 okK).ev = some (v, d))
    (hl : fromV.fromVs l = some l0) (hv : fromV v = some v0) (ha : wfs 0 (Vm.toVs l0)) (hw : wf 0 (Vm.toV v0)) : PlainCall P B f (Vm.toVs l0) (Vm.toV v0) := by
  refine plain_of_run noTmps_ok C.hX.good hS C.ht (n := T) hB (fun el => ?_) ha hw
  have no : ∀ s, ¬ Here ((mkD [] 0).get s) := by
    intro s hs
    rw [mkD_get] at hs
    exact hs.elim
  have R : Rep (fun s => P.globals.size + s) (mkD [] 0) (baseH P.globals.size B el) :=
    ⟨fun s hs => absurd hs (no s), fun s hs => absurd hs (no s), fun s _ hs => absurd hs (no s), fun j => by show P.globals.size + (0 + j) = P.globals.size + j; omega, fun s hs => absurd hs (no s)⟩
  have wh := baseH_wfh hB el
  have hj : C.G.J (baseH P.globals.size B el) := by
    rw [hG]
    exact ⟨Nat.le_refl _, Nat.le_refl _, hm el⟩
  have e0 : toVs (fun s => P.globals.size + s) l = Vm.toVs l0 := (fromVs_to l hl).symm
  obtain ⟨w, d', L', h', e1, _, _, hz⟩ := law T (Nat.le_refl _) okK _ _ R wh hj (by rw [e0]; exact wfs_mono (Nat.zero_le _) _ ha) _ ho
  have hw : w = v := congrArg Prod.fst (Option.some.inj hz)
  subst hw
  rw [e0, ← fromV_to (L := L') w hv] at e1
  exact ⟨h', e1⟩
end
end Go.Vm.R
namespace Go.Vm.YtdmlbojhfgimnaaGreatDoor
open Go.Proofs Go.Vm.R
noncomputable section
theorem aboveB : R.Above lawsA7 lawsA7.O := ⟨lawsA7.O_good, fun _ _ _ _ _ e => e⟩
def knB : Nat → Bool := fun f => lawsA7.dom.any (Nat.beq f)
theorem knB_no : ∀ f, knB f = false → ∀ a h, lawsA7.O f a h = .no := by
  intro f hf a h
  refine lawsA7.O_no (fun hm => ?_) a h
  have : knB f = true := List.any_eq_true.2 ⟨f, hm, Nat.beq_refl f⟩
  rw [this] at hf; cases hf
def kdB : R.Kd := ⟨fun el => match Nat.beq el 5 with
  | true => some .byte
  | false => none, fun t => match Nat.beq t 130 with
  | true => some .byte
  | false => none⟩
def baseB : Base := []
theorem baseB_ok : BaseOk Tryz.prog.globals.size baseB := ⟨fun x hx => (by cases hx), fun x hx => (by cases hx)⟩
def glB : R.Gl := R.glBase 4 baseB (fun x hx => by cases hx)
def CB : R.Ctx Tryz.prog := ⟨lawsA7, glB, globals4.symm, lawsA7.O, aboveB, tab, tab_ok, knB, knB_no, kdB⟩
def YB0 : CB.RL := R.RLaws.none CB.G CB.O CB.tab
theorem base_ltB : ∀ x ∈ baseB, x.1 < Tryz.prog.globals.size := fun x hx => by cases hx
theorem gl_eqB (n : Nat) (h : n = 4) (hb : ∀ x ∈ baseB, x.1 < n) : glB = R.glBase n baseB hb := by subst h; rfl
theorem plainB {f T : Nat} {l : List R.DV} {l0 : List DV} {v : R.DV} {v0 : DV} {out : RD} {d : R.DH} (law : LawOk CB.G CB.O CB.tab f T [] l out) (ho : (out.tree [] 0 okK).ev = some (v, d))
    (hl : fromV.fromVs l = some l0) (hv : fromV v = some v0) (ha : wfs 0 (toVs l0)) (hw : wf 0 (toV v0)) : PlainCall Tryz.prog [] f (toVs l0) (toV v0) :=
  R.plain_of_law CB (B := baseB) (hlt := base_ltB) (gl_eqB _ globals4 _) baseB_ok lawsA7.O_sim (fun el => rfl) law ho hl hv ha hw
end
end Go.Vm.YtdmlbojhfgimnaaGreatDoor
