/-
  The law RunTells holds: whatever the arguments, the call answers true, and leaves what was there as it was. Under the row's own condition alone: the library's tables hold what they hold at the start.
-/
import Derived.Test.YtkjjpmbpjfmbcaaGreatDoorL16Z
import Derived.Test.YtkjjpmbpjfmbcaaGreatDoorL16O
import Derived.Test.YtkjjpmbpjfmbcaaGreatDoorCards
import Derived.Test.YtkjjpmbpjfmbcaaGreatDoorTie
import Derived.WalkKit
import Derived.ProofKit
import Derived.OpenShut
import Derived.Deep.DeepHandedRow
import Derived.Deep.DeepWitnessRowRef
import Derived.LaidMore
import Derived.Lay
import Derived.Stop.Joined
namespace Go.Proofs.YtkjjpmbpjfmbcaaGreatDoor.fnRunTells
open Go.ChangeShapes Go.WideShapes Go.ChangeAt Go.RowKit Go.Vm Go.Vm.R Go.Vm.YtkjjpmbpjfmbcaaGreatDoor

theorem own : ownKnob Tryz.prog.godebug = none := by kernel_rfl

/-- over a row -/
theorem call_row {W : World} {el : Nat → Nat} (hW : BaseAt base el W) {p : Pl} {e z len cap : Nat} {full : List RK.ent.T} (hp : RowAt W base p (rowV .ent full) e z) (hfl : full.length = cap) (hlc : len ≤ cap) (hm : cap ≤ maxLen) {v : Value}
    (hv : ∀ ρ h, ρ Tryz.prog.globals.size = some p → VRel ρ h (toV (fun s => Tryz.prog.globals.size + s) (.rs 0 0 len cap 2 true)) v) (x y t : ByteArray) (mo : Int) :
    Calls Tryz.prog 12 #[v, .agg #[.string x, .string y, .string t], .int .i64 mo] W fun e W' => e = .returned (.bool true) ∧ Kept W W' := by
  have hok : okA full 0 len cap = true := by
    simp only [okA, decide_eq_true_eq]
    have : maxLen = 9223372036854775807 := rfl
    refine ⟨Nat.le_trans (show 0 + len ≤ cap by omega) (Nat.le_of_eq hfl.symm), hlc, by omega⟩
  refine row_call C G_eq base_ok O_sim base_meets (law12 0 len cap true x.data.toList y.data.toList t.data.toList mo full true ⟨e, z⟩) (d := mkD [.r .ent full true ⟨e, z⟩] 1) ?_ hW hp (vs := [v, .agg #[.string x, .string y, .string t], .int .i64 mo]) ?_
    (fun ρ h hρ => .cons (hv ρ h hρ) (.cons (.agg (.cons (.str x) (.cons (.str y) (.cons (.str t) .nil)))) (.cons (.int .i64 mo) .nil)))
  · show (R.Tree.need (okA full 0 len cap) (.ok (.bool true) (mkD [.r .ent full true ⟨e, z⟩] 1))).ev = _
    rw [hok]; rfl
  · exact ⟨Nat.lt_succ_self _, ⟨trivial, trivial, trivial, trivial⟩, trivial, trivial⟩
/-- no row -/
theorem call_nil {W : World} {el : Nat → Nat} (hW : BaseAt base el W) (x y t : ByteArray) (mo : Int) : Calls Tryz.prog 12 #[.slice none 0 0, .agg #[.string x, .string y, .string t], .int .i64 mo] W fun e W' => e = .returned (.bool true) ∧ Kept W W' :=
  plain_call C G_eq base_ok O_sim base_meets (law12n x.data.toList y.data.toList t.data.toList mo) (d := mkD [] 0) rfl hW (vs := [.slice none 0 0, .agg #[.string x, .string y, .string t], .int .i64 mo]) ⟨trivial, ⟨trivial, trivial, trivial, trivial⟩, trivial, trivial⟩
    (fun _ _ => .cons .nils (.cons (.agg (.cons (.str x) (.cons (.str y) (.cons (.str t) .nil)))) (.cons (.int .i64 mo) .nil)))

set_option maxRecDepth 100000 in
theorem contract (H : Type) (enc : TypeId × Value → H) (W : World) (args : Array Value) (ds gs : List (DataW H)) (before : List MemPlace)
    (hW : DataW.Whole enc Tryz.prog Tryz.f12.params.toList Rows.runTellsSpec.vars false W args.toList ds gs before)
    (bs : Nat) (hval : ∀ (j : Nat) t v, Tryz.f12.params[j]? = some t → args[j]? = some v → Value.okWide Tryz.prog W .any bs t v)
    (hl : laidMetH Tryz.prog Rows.runTellsRow.laid W) (hsh : W.ShapedOpen Tryz.prog) :
    Calls Tryz.prog 12 args W fun e W' => ∃ v, e = .returned v ∧ Rows.runTellsSpec.post enc Tryz.prog Tryz.f12 false true false false W args v W' := by
  have hW' := hW
  obtain ⟨p, q, hA0, hV, rfl, hfz, hnd⟩ := hW
  have hA : DataW.TrodAll enc Tryz.prog W 0 (fun _ => true) true Tryz.f12.params.toList args.toList ds p := hA0
  obtain ⟨rfl, rfl⟩ := trodVars_none hV
  rw [Tryz.params12] at hA hval
  obtain ⟨v0, v1, v2, d0, d1, d2, p0, p1, p2, rfl, rfl, rfl, h0, h1, h2⟩ := trodAll_three hA
  obtain ⟨x, y, t, rfl⟩ := arr3_of h1
  obtain ⟨mo, hv2, _, _, _⟩ := open_int Tryz.underlying3 (hval 2 3 v2 rfl rfl) h2
  subst hv2
  have hpl : ∀ (W' : World) (sp : Nat → Bool), DataW.Trod enc Tryz.prog W' 0 sp true 67 (.agg #[.string x, .string y, .string t]) d1 p1 ∧ p1 = [] := fun W' sp => Trod_plain (m := 8) (by kernel_rfl) h1
  obtain rfl : p1 = [] := (hpl W (fun _ => true)).2
  have hpi : ∀ (W' : World) (sp : Nat → Bool), DataW.Trod enc Tryz.prog W' 0 sp true 3 (.int .i64 mo) d2 p2 ∧ p2 = [] := fun W' sp => Trod_plain (m := 8) (by kernel_rfl) h2
  obtain rfl : p2 = [] := (hpi W (fun _ => true)).2
  simp only [List.append_nil] at hW'
  rw [MakeChecks.laidMetH_plain _ _ _ (by kernel_rfl)] at hl
  obtain ⟨el, hel⟩ := base_of hl (List.mem_of_getElem? (i := 2) (by kernel_rfl))
  have key : (Calls Tryz.prog 12 #[v0, .agg #[.string x, .string y, .string t], .int .i64 mo] W fun e W' => e = .returned (.bool true) ∧ Kept W W') ∧ ∀ W', Kept W W' → ∀ sp : Nat → Bool, (∀ x ∈ p0, sp x.block = true) → DataW.Trod enc Tryz.prog W' 0 sp true 36 v0 d0 p0 := by
    rcases open_ents (ent_t (t := 36) (by kernel_rfl)) h0 (hval 0 36 v0 rfl rfl) with ⟨rfl, hr⟩ | ⟨a, len, cap, full, cs, row, fr, rfl, hspot, hlc, hm, hfl, hb, hc, hr⟩
    · exact ⟨call_nil hel x y t mo, fun W' _ sp _ => hr W' sp⟩
    · obtain ⟨pl, e, z, hp, hv⟩ := ent_at hel base_ints (other_of hsh) hspot hlc hfl hb hc Tryz.prog.globals.size
      exact ⟨call_row hel hp hfl hlc hm hv x y t mo, hr⟩
  refine key.1.mono fun e W' ⟨he, hk⟩ => ?_
  subst he
  refine ⟨_, rfl, Vm.post_of_kept (pa := p0) (pv := []) hW' (fun _ _ _ => trodAll_cons_mk (shut_bool Tryz.underlying4 _) trodAll_mk0) (fun sp hsp => ?_) (fun _ _ => rfl) (by simp) hk (ok_one (by kernel_rfl) rfl (okWide_bool_mk Tryz.underlying4 _))⟩
  have ht := key.2 W' hk sp hsp
  have hpt : (Tryz.f12.params.toList : List TypeId) = [36, 67, 3] := by rw [Tryz.params12]
  rw [hpt]
  exact ⟨p0, [], ht, ⟨[], [], (hpl W' sp).1, ⟨[], [], (hpi W' sp).1, rfl, rfl⟩, rfl⟩, by simp⟩

theorem reads (os : Os) {H : Type} (enc : TypeId × Value → H) : ∃ places, DataW.whole enc Tryz.prog ((World.laidAll Tryz.prog os Rows.runTellsRow.laid).forCall (fun _ _ => 0) ⟨#[], #[.slice none 0 0, .agg #[.string ⟨#[]⟩, .string ⟨#[]⟩, .string ⟨#[]⟩], .int .i64 0], []⟩).memory Tryz.f12.params.toList Rows.runTellsSpec.vars false (#[.slice none 0 0, .agg #[.string ⟨#[]⟩, .string ⟨#[]⟩, .string ⟨#[]⟩], .int .i64 0] : Array Value).toList 8 = some ([.nil, .agg [.lit (.string []), .lit (.string []), .lit (.string [])], .lit (.int .i64 0)], [], places) :=
  ⟨[], by kernel_rfl⟩

theorem laid_met (os : Os) : laidMetH Tryz.prog Rows.runTellsRow.laid ((World.laidAll Tryz.prog os Rows.runTellsRow.laid).forCall (fun _ _ => 0) ⟨#[], #[.slice none 0 0, .agg #[.string ⟨#[]⟩, .string ⟨#[]⟩, .string ⟨#[]⟩], .int .i64 0], []⟩).memory := by
  rw [MakeChecks.laidMetH_plain _ _ _ (by kernel_rfl)]
  exact laidMet_laidAll _ (by kernel_rfl) (by kernel_rfl)

set_option maxRecDepth 100000 in
theorem lifted (os : Os) (started : os.Started) (H : Type) (enc : TypeId × Value → H) (F : Stop.Interp) :
    ReturnsInHanded {} Tryz.checked os 12 .any ((OpenSpec.ofChange Rows.runTellsSpec).preRow enc Tryz.prog Tryz.f12 Rows.runTellsRow.domain false Rows.runTellsRow.laid) (((OpenSpec.ofChange Rows.runTellsSpec).at F).post enc Tryz.prog Tryz.f12 false true false false) := by
  obtain ⟨places, hx⟩ := reads os enc
  refine returnsInHanded_of_row (C := Tryz.checked) (s := OpenSpec.ofChange Rows.runTellsSpec) own started (by kernel_rfl) Tryz.func12
    (witness_row_atRef (enc := enc) (C := Tryz.checked) false (World.laidAll Tryz.prog os Rows.runTellsRow.laid) #[.slice none 0 0, .agg #[.string ⟨#[]⟩, .string ⟨#[]⟩, .string ⟨#[]⟩], .int .i64 0] (World.laidAll_os _ _ _) (by kernel_rfl) (by kernel_rfl) (by kernel_rfl)
      (OpenSpec.preRow_of_cond 8 hx (by kernel_rfl) (fun k hk => by cases hk) (by kernel_rfl) (laid_met os))) ?_
  intro W bs args ds gs before hval hW _ _ _ hl hsh _
  exact contract H enc W args ds gs before hW bs hval hl hsh

theorem said : Rows.RunTellsSaid :=
  OpenClaim.holds_of_cond 12 Tryz.f12 rfl rfl rfl rfl rfl rfl rfl ⟨rfl, rfl, rfl, rfl, rfl⟩ rfl rfl rfl rfl rfl (by kernel_rfl) Tryz.func12 (by kernel_rfl)
    (of_decide_eq_true (by kernel_rfl)) (by unfold Func.isWrapper; first | (rw [if_pos (by decide +kernel)]; kernel_rfl) | (rw [if_neg (by decide +kernel)]; exact ⟨rfl, rfl⟩))
    (fun os started H enc _ F => by rw [OpenClaim.pre_eq_preRow]; exact lifted os started H enc F)

theorem plain (f : FuncId) (fn : Func) (hf : Tryz.pinned.checked.prog.funcNamed "rillbed/rillbedlaw16.RunTells" = some f) (hfn : Tryz.pinned.checked.prog.funcs[f]? = some fn) :
    false = Tryz.pinned.checked.prog.looks [] ∧ ∀ (j : Nat) t, fn.params[j]? = some t → Tryz.pinned.checked.prog.wantsStandIn t = false := by
  obtain rfl : f = 12 := Option.some.inj ((show Tryz.prog.funcNamed "rillbed/rillbedlaw16.RunTells" = some 12 by kernel_rfl).symm.trans hf) |>.symm
  obtain rfl : fn = Tryz.f12 := (Option.some.inj (Tryz.func12.symm.trans hfn)).symm
  refine ⟨by kernel_rfl, fun j t ht => ?_⟩
  rw [Tryz.params12] at ht
  have hall : ∀ t ∈ Tryz.f12.params.toList, Tryz.pinned.checked.prog.wantsStandIn t = false := by
    rw [Tryz.params12]
    intro t ht
    simp only [List.mem_cons, List.not_mem_nil, or_false] at ht
    rcases ht with rfl | rfl | rfl <;> kernel_rfl
  refine hall t ?_
  rw [Tryz.params12]
  exact List.mem_of_getElem? (i := j) (by simpa using ht)

/-- THE CARD -/
theorem card : Rows.RunTellsCardSaid :=
  Claim7.holds_tied_plain_at .later [] _ _ _ _ said (fun _ h => by cases h) (by kernel_rfl) (fun _ h => by cases h) runTells_row_tie rfl ⟨rfl, rfl⟩ (by kernel_rfl) rfl plain (by kernel_rfl)
end Go.Proofs.YtkjjpmbpjfmbcaaGreatDoor.fnRunTells
