/-
  What the laws of layer 16 stand over: the functions, the variable that one of them reads, and that the closing examples hold.
-/
import Derived.Test.YtkjjpmbpjfmbcaaGreatDoorTab
import Derived.Test.YtkjjpmbpjfmbcaaGreatDoorV7
import Derived.KernelRfl
set_option linter.unusedVariables false
set_option linter.unusedSimpArgs false
namespace Go.Vm.YtkjjpmbpjfmbcaaGreatDoor
open Go.Proofs Go.Vm.R
noncomputable section

theorem globals7 : Tryz.prog.globals.size = 7 := by kernel_rfl
noncomputable abbrev tab := tabOf all
def z0 : List Int := [0, 0, 0, 0, 0, 0, 0, 0, 0, 1, 1, 1, 1, 1, 0, 0, 0, 0, 0, 0, 0, 0, 0, 0, 0, 0, 0, 0, 0, 0, 0, 0, 1, 0, 0, 0, 0, 0, 0, 0, 0, 0, 0, 0, 0, 0, 0, 0, 0, 0, 0, 0, 0, 0, 0, 0, 0, 0, 0, 0, 0, 0, 0, 0, 0, 0, 0, 0, 0, 0, 0, 0, 0, 0, 0, 0, 0, 0, 0, 0, 0, 0, 0, 0, 0, 0, 0, 0, 0, 0, 0, 0, 0, 0, 0, 0, 0, 0, 0, 0, 0, 0, 0, 0, 0, 0, 0, 0, 0, 0, 0, 0, 0, 0, 0, 0, 0, 0, 0, 0, 0, 0, 0, 0, 0, 0, 0, 0, 0, 0, 0, 0, 0, 0, 0, 0, 0, 0, 0, 0, 0, 0, 0, 0, 0, 0, 0, 0, 0, 0, 0, 0, 0, 0, 0, 0, 0, 0, 0, 0, 0, 0, 0, 0, 0, 0, 0, 0, 0, 0, 0, 0, 0, 0, 0, 0, 0, 0, 0, 0, 0, 0, 0, 0, 0, 0, 0, 0, 0, 0, 0, 0, 0, 0, 0, 0, 0, 0, 0, 0, 0, 0, 0, 0, 0, 0, 0, 0, 0, 0, 0, 0, 0, 0, 0, 0, 0, 0, 0, 0, 0, 0, 0, 0, 0, 0, 0, 0, 0, 0, 0, 0, 0, 0, 0, 0, 0, 0, 0, 0, 0, 0, 0, 0, 0, 0, 0, 0, 0, 0, 0, 0, 0, 0, 0, 0]
def base : Base := [(0, z0.map fun z => .int .u8 z)]
set_option maxRecDepth 100000 in
theorem run33 (el : Nat → Nat) : resIs isTrue (callOF noO (tabOf all) 1000 33 [] (baseH 7 base el)) = true := by kernel_rfl
theorem base_ok : BaseOk Tryz.prog.globals.size base := by
  refine ⟨fun x hx => ?_, fun x hx => ?_⟩
  · rcases List.mem_cons.1 hx with rfl | h
    · rw [globals7]; decide
    · cases h
  · rcases List.mem_cons.1 hx with rfl | h
    · exact wfs_ints 0 _ _
    · cases h
theorem call33 : PlainCall Tryz.prog base 33 [] (.bool true) := by
  refine plain_of_run noTmps_ok noO_good noO_sim tab_ok (n := 1000) base_ok (fun el => ?_) trivial trivial
  rw [globals7, ← callOF_eq]
  exact resIs_true (run33 el)
noncomputable def S33 : Nat → List V → Option V := fun f a => match Nat.beq f 33, a with
  | true, [] => some (.bool true)
  | _, _ => none
theorem S33_ok : ∀ f a v, S33 f a = some v → PlainCall Tryz.prog base f a v := by
  intro f a v h
  unfold S33 at h
  split at h
  · rename_i hb
    cases h
    rw [Nat.eq_of_beq_eq_true hb]
    exact call33
  · cases h
noncomputable def X : Laws Tryz.prog := Laws.none _
noncomputable def O : Nat → List V → H → Res := bothO (plainO base S33) X.O
theorem X_no (f : Nat) (a : List V) (h : H) : X.O f a h = .no := X.O_no (by intro h; cases h) a h
theorem O_good : CallGood Tryz.prog.globals.size O := bothO_good (plainO_good S33_ok) X.O_good
theorem O_sim : CallSim Tryz.prog O := bothO_sim (plainO_sim S33_ok) X.O_sim
theorem above : Above X O := ⟨O_good, fun f a h v h' e => by rw [X_no] at e; cases e⟩
noncomputable def kn : Nat → Bool := fun f => Nat.beq f 33
theorem kn_no : ∀ f, kn f = false → ∀ a h, O f a h = .no := by
  intro f hf a h
  show orElse (plainO base S33 f a h) (X.O f a h) = .no
  have : S33 f a = none := by
    unfold S33
    have hf : Nat.beq f 33 = false := hf
    rw [hf]
  rw [show plainO base S33 f a h = .no by unfold plainO; rw [this]]
  exact X_no f a h
noncomputable def kd : Kd := ⟨fun el => match Nat.beq el 41 with
  | true => some .ent
  | false => match Nat.beq el 31 with
    | true => some .msg
    | false => match Nat.beq el 5 with
      | true => some .byte
      | false => none, fun _ => none⟩
noncomputable def gl : Gl := glBase 7 base (fun x hx => by
  rcases List.mem_cons.1 hx with rfl | h
  · decide
  · cases h)
noncomputable def C : Ctx Tryz.prog := ⟨X, gl, globals7.symm, O, above, tab, tab_ok, kn, kn_no, kd⟩
theorem law33 : LawOk C.G C.O C.tab 33 0 [] [] (.v (.bool true) []) := by
  intro n _ k L h R w j hw
  have hO : O 33 [] h = .ok (.bool true) h := by
    show orElse (plainO base S33 33 [] h) _ = _
    have : plainO base S33 33 [] h = .ok (.bool true) h := by
      unfold plainO
      rw [show S33 33 [] = some (.bool true) from rfl]
      simp only [j.2.2]
    rw [this]; rfl
  exact tells_step (L' := L) (callO_of (tab := tab) hO n) R (.refl (Nat.le_refl _))
noncomputable def g33 : List R.DV → List R.DO → Option RD := fun l ao => match l, ao with
  | [], [] => some (.v (.bool true) [])
  | _, _ => none
noncomputable def Y0 : C.RL := (RLaws.none C.G C.O C.tab).add 33 0 g33 (fun l ao out h => by
  unfold g33 at h
  split at h
  · cases h; exact law33
  · cases h)
end
end Go.Vm.YtkjjpmbpjfmbcaaGreatDoor
