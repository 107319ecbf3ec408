/-
  What a closed run gives: the call answers, and what was there stays.
-/
import Derived.Test.YtkjjpmbpjfmbcaaGreatDoorVmDraw5
import Derived.ChangeSame
import Derived.ChangeShapes
set_option linter.unusedVariables false
set_option linter.unusedSimpArgs false
namespace Go.Vm
open Go.ChangeShapes

def yes : Res → Bool
  | .ok (.bool true) _ => true
  | _ => false

theorem yes_ok {r : Res} (h : yes r = true) : ∃ h', r = .ok (.bool true) h' := by
  unfold yes at h
  split at h
  · exact ⟨_, rfl⟩
  · cases h

/-- all that was there is as it was -/
structure Kept (W W' : World) : Prop where
  os : W'.os = W.os
  output : W'.output = W.output
  heap : ∀ B, B < W.heap.size → W'.heap[B]? = W.heap[B]?

theorem Kept.keptBut {W W' : World} (k : Kept W W') (may : MemPlace → Prop) : W.keptBut W' may := by
  refine ⟨k.os, k.output, fun i hi => ?_⟩
  rw [k.heap i hi]
  cases W.heap[i]? with
  | none => rfl
  | some o =>
    cases o <;> first
      | exact ⟨rfl, rfl, rfl, fun _ _ => rfl⟩
      | exact .inr ⟨rfl, rfl⟩
      | rfl

/-- a call with no argument, in whatever world -/
theorem closed_run {P : Program} {tab : Nat → Option CFn} (ht : Tab P tab) {n f : Nat} (hy : yes (Vm.call tab n f [] ⟨P.globals.size, .lf, 0⟩) = true) (W : World) :
    Calls P f #[] W fun e W' => e = .returned (.bool true) ∧ Kept W W' := by
  obtain ⟨h', hr⟩ := yes_ok hy
  have hd : ∀ o, H.get ⟨P.globals.size, .lf, 0⟩ o = .dead := fun o => T.get_lf _ _
  have hrel : HRel (fun _ => none) ⟨P.globals.size, .lf, 0⟩ W := ⟨fun o p h => (by cases h), fun o p h => (by cases h), fun o o1 p p1 h => (by cases h)⟩
  have hwf : wfh ⟨P.globals.size, .lf, 0⟩ := ⟨Nat.zero_le _, fun o => by rw [hd]; trivial⟩
  have hgr : GRel P.globals.size (fun _ => none) ⟨P.globals.size, .lf, 0⟩ := ⟨Nat.le_refl _, fun g _ => .inr ⟨rfl, hd g⟩⟩
  obtain ⟨_, hc⟩ := sound ht n f [] ⟨P.globals.size, .lf, 0⟩ (fun _ => none) W [] hrel hwf hgr trivial .nil (by rw [hr]; intro h; cases h)
  rw [hr] at hc
  refine hc.mono fun e W' he => ?_
  cases e with
  | returned x =>
    obtain ⟨ρ', hv, hp⟩ := he
    rw [vrel_bool hv]
    exact ⟨rfl, hp.fr.os, hp.fr.output, fun B hB => hp.fr.old B hB fun o p h => by cases h⟩
  | panicked ch => exact he.elim
  | outgrown => exact he.elim

/-- what was there reads as it read -/
theorem post_of_kept {H : Type} {enc : TypeId × Value → H} {P : Program} {f : Func} {s : ChangeSpec} {apart fresh handsOn again : Bool} {W W' : World} {args : Array Value} {v : Value} {ds gs : List (DataW H)} {before pa pv : List MemPlace}
    (hW : DataW.Whole enc P f.params.toList s.vars apart W args.toList ds gs before)
    (hres : ∀ (b : Nat) (sp : Nat → Bool) (hd : Bool), DataW.TrodAll enc P W' b sp hd f.resultTypes.toList (v.resultList f.resultTypes.size) (s.fn H (ds ++ gs)).results [])
    (hargs : ∀ sp : Nat → Bool, (∀ p ∈ before, sp p.block = true) → DataW.TrodAll enc P W' 0 sp true f.params.toList args.toList (s.fn H (ds ++ gs)).args pa)
    (hvars : ∀ sp : Nat → Bool, (∀ p ∈ before, sp p.block = true) → DataW.TrodVars enc P W' sp s.vars (s.fn H (ds ++ gs)).vars pv)
    (hps : before = pa ++ pv) (hk : Kept W W')
    (hok : ∀ (j : Nat) (t : TypeId) (r : Value), f.resultTypes[j]? = some t → (v.resultList f.resultTypes.size)[j]? = some r → Value.okWide P W' .any 0 t r) :
    s.post enc P f apart fresh handsOn again W args v W' := by
  have hlt : ∀ p ∈ before, p.block < W.heap.size := hW.lt
  have hold : ∀ p ∈ before, (fun b => decide (b < W.heap.size)) p.block = true := fun p hp => by simpa using hlt p hp
  refine ⟨ds, gs, before, [], pa, pv, hW, hres _ _ _, hargs _ hold, hvars _ hold, World.keptBut_mono (fun p hp => ⟨hp, ?_⟩) (hk.keptBut (· ∈ before)), fun _ => ?_⟩
  · rw [hps, List.mem_append] at hp
    exact Or.inr hp
  · obtain ⟨_, _, _, _, _, hz, hn⟩ := hW
    refine ⟨hok, _, _, ([] ++ pa) ++ pv, ⟨[] ++ pa, pv, trodAll_append (hargs _ (fun _ _ => rfl)) (hres _ _ _), hvars _ (fun _ _ => rfl), rfl, ?_, ?_⟩, ?_⟩
    · intro b off hp
      have hp' : MemPlace.cell b off ∈ before := by rw [hps]; simpa using hp
      have hb : b < W.heap.size := hlt _ hp'
      have : W'.frozen? ⟨b, off, none⟩ = W.frozen? ⟨b, off, none⟩ := by
        unfold World.frozen?
        rw [hk.heap b hb]
      rw [this]
      exact hz b off hp'
    · intro ha
      have := hn ha
      rw [hps] at this
      simpa using this
    · intro p hp _
      rw [hps]
      simpa using hp

end Go.Vm
