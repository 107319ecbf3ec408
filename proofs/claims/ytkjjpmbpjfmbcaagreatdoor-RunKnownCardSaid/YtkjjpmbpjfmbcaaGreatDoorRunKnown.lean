/-
  The law RunKnown holds: the call, with no argument, answers true, and leaves what was there as it was. Under the row's own condition alone: the library's tables hold what they hold at the start.
-/
import Derived.Test.YtkjjpmbpjfmbcaaGreatDoorRunKnownRun
import Derived.Test.YtkjjpmbpjfmbcaaGreatDoorRunKnownMet
import Derived.Test.YtkjjpmbpjfmbcaaGreatDoorCards
import Derived.Test.YtkjjpmbpjfmbcaaGreatDoorTie
import Derived.WalkKit
import Derived.ProofKit
import Derived.OpenShut
import Derived.Deep.DeepHandedRow
import Derived.Deep.DeepWitnessRowRef
import Derived.LaidMore
import Derived.Lay
import Derived.Stop.Joined
namespace Go.Proofs.YtkjjpmbpjfmbcaaGreatDoor.fnRunKnown
open Go.ChangeShapes Go.WideShapes Go.ChangeAt Go.RowKit Go.Vm Go.Vm.YtkjjpmbpjfmbcaaGreatDoor

theorem own : ownKnob Tryz.prog.godebug = none := by kernel_rfl
theorem globalsN : Tryz.prog.globals.size = 7 := by kernel_rfl

theorem base_ok : BaseOk Tryz.prog.globals.size base := ⟨(List.forall_mem_cons.2 ⟨by rw [globalsN]; decide, (fun _ h => by cases h)⟩), (List.forall_mem_cons.2 ⟨wfs_ints 0 _ _, (fun _ h => by cases h)⟩)⟩

theorem base_at {W : World} (hm : laidMet Tryz.prog Rows.runKnownRow.laid W) : ∃ el, BaseAt base el W := by
  obtain ⟨e0, h0⟩ := base_of_laid (P := Tryz.prog) hm (name := "strings.asciiSpace") (k := .u8) (zs := z0) (g := 0) (t := 143) (e := 5) (n := 256) (by kernel_rfl) (by kernel_rfl) (by kernel_rfl) (by kernel_rfl) (by kernel_rfl) (by kernel_rfl) (by decide +kernel) (List.mem_of_getElem? (i := 2) (by kernel_rfl))
  exact ⟨_, (baseAt_cons (baseAt_nil W) h0 (fun _ h => by cases h))⟩

theorem plainCall : PlainCall Tryz.prog base 13 [] (.bool true) :=
  plain_of_run noO_good noO_sim tab_ok base_ok (fun el => by
    rw [globalsN, ← callOF_eq]
    exact resIs_true (runRunKnown el)) trivial trivial

set_option maxRecDepth 100000 in
theorem contract (H : Type) (enc : TypeId × Value → H) (W : World) (args : Array Value) (ds gs : List (DataW H)) (before : List MemPlace)
    (hW : DataW.Whole enc Tryz.prog Tryz.f13.params.toList Rows.runKnownSpec.vars false W args.toList ds gs before) (hl : laidMetH Tryz.prog Rows.runKnownRow.laid W) :
    Calls Tryz.prog 13 args W fun e W' => ∃ v, e = .returned v ∧ Rows.runKnownSpec.post enc Tryz.prog Tryz.f13 false true false false W args v W' := by
  have hW' := hW
  obtain ⟨p, q, hA0, hV, rfl, hfz, hnd⟩ := hW
  have hA : DataW.TrodAll enc Tryz.prog W 0 (fun _ => true) true Tryz.f13.params.toList args.toList ds p := hA0
  rw [Tryz.params13] at hA
  obtain ⟨hargs, rfl, rfl⟩ := trodAll_nil hA
  obtain rfl : args = #[] := by cases args; simp_all
  obtain ⟨rfl, rfl⟩ := trodVars_none hV
  simp only [List.append_nil] at hW'
  rw [MakeChecks.laidMetH_plain _ _ _ (by kernel_rfl)] at hl
  obtain ⟨el, hel⟩ := base_at hl
  refine (plainCall.law hel (vs := []) .nil).mono fun e W' ⟨he, hk⟩ => ?_
  subst he
  exact ⟨_, rfl, Vm.post_of_kept (pa := []) (pv := []) hW' (fun _ _ _ => trodAll_cons_mk (shut_bool Tryz.underlying4 _) trodAll_mk0) (fun _ _ => trodAll_mk0) (fun _ _ => rfl) rfl hk (ok_one (by kernel_rfl) rfl (okWide_bool_mk Tryz.underlying4 _))⟩

set_option maxRecDepth 100000 in
theorem lifted (os : Os) (started : os.Started) (H : Type) (enc : TypeId × Value → H) (F : Stop.Interp) :
    ReturnsInHanded {} Tryz.checked os 13 .any ((OpenSpec.ofChange Rows.runKnownSpec).preRow enc Tryz.prog Tryz.f13 Rows.runKnownRow.domain false Rows.runKnownRow.laid) (((OpenSpec.ofChange Rows.runKnownSpec).at F).post enc Tryz.prog Tryz.f13 false true false false) := by
  obtain ⟨places, hx⟩ := reads os enc
  refine returnsInHanded_of_row (C := Tryz.checked) (s := OpenSpec.ofChange Rows.runKnownSpec) own started (by kernel_rfl) Tryz.func13
    (witness_row_atRef (enc := enc) (C := Tryz.checked) false (World.laidAll Tryz.prog os Rows.runKnownRow.laid) #[] (World.laidAll_os _ _ _) (by kernel_rfl) (by kernel_rfl) (by kernel_rfl)
      (OpenSpec.preRow_of_cond 8 hx (by kernel_rfl) (fun k hk => by cases hk) (by kernel_rfl) (laid_met os))) ?_
  intro W base args ds gs before _ hW _ _ _ hl _ _
  exact contract H enc W args ds gs before hW hl

theorem said : Rows.RunKnownSaid :=
  OpenClaim.holds_of_cond 13 Tryz.f13 rfl rfl rfl rfl rfl rfl rfl ⟨rfl, rfl, rfl, rfl, rfl⟩ rfl rfl rfl rfl rfl (by kernel_rfl) Tryz.func13 (by kernel_rfl)
    (of_decide_eq_true (by kernel_rfl)) (by unfold Func.isWrapper; first | (rw [if_pos (by decide +kernel)]; kernel_rfl) | (rw [if_neg (by decide +kernel)]; exact ⟨rfl, rfl⟩))
    (fun os started H enc _ F => by rw [OpenClaim.pre_eq_preRow]; exact lifted os started H enc F)

theorem plain (f : FuncId) (fn : Func) (hf : Tryz.pinned.checked.prog.funcNamed "rillbed/rillbedlaw16.RunKnown" = some f) (hfn : Tryz.pinned.checked.prog.funcs[f]? = some fn) :
    false = Tryz.pinned.checked.prog.looks [] ∧ ∀ (j : Nat) t, fn.params[j]? = some t → Tryz.pinned.checked.prog.wantsStandIn t = false := by
  obtain rfl : f = 13 := Option.some.inj ((show Tryz.prog.funcNamed "rillbed/rillbedlaw16.RunKnown" = some 13 by kernel_rfl).symm.trans hf) |>.symm
  obtain rfl : fn = Tryz.f13 := (Option.some.inj (Tryz.func13.symm.trans hfn)).symm
  refine ⟨by kernel_rfl, fun j t ht => ?_⟩
  rw [Tryz.params13] at ht
  simp at ht

/-- THE CARD -/
theorem card : Rows.RunKnownCardSaid :=
  Claim7.holds_tied_plain_at .later [] _ _ _ _ said (fun _ h => by cases h) (by kernel_rfl) (fun _ h => by cases h) runKnown_row_tie rfl ⟨rfl, rfl⟩ (by kernel_rfl) rfl plain (by kernel_rfl)
end Go.Proofs.YtkjjpmbpjfmbcaaGreatDoor.fnRunKnown
