/-
  The heap at the start: variables whose cells the statement tells.
-/
import Derived.Test.YtkjjpmbpjfmbcaaGreatDoorVmFast
import Derived.Lib.LaidU8
set_option linter.unusedVariables false
set_option linter.unusedSimpArgs false
namespace Go.Vm
noncomputable section

/-- variables: which, and their cells -/
abbrev Base := List (Nat × List V)

def baseT (el : Nat → Nat) : Base → T Obj
  | [] => .lf
  | (g, l) :: r => (baseT el r).set .dead g (.c l.length (writeCells .lf 0 l) false (el g) (some 0))

def baseH (N : Nat) (B : Base) (el : Nat → Nat) : H := ⟨N, baseT el B, N⟩

def rhoB : Base → Rho
  | [] => fun _ => none
  | (g, l) :: r => fun o => if o = g then some ⟨g, 0, l.length⟩ else rhoB r o

theorem rhoB_some {el : Nat → Nat} : ∀ {B : Base} {o : Nat} {p : Pl}, rhoB B o = some p → ∃ l, (o, l) ∈ B ∧ p = ⟨o, 0, l.length⟩ ∧ (baseT el B).get .dead o = .c l.length (writeCells .lf 0 l) false (el o) (some 0)
  | [], o, p, h => by cases h
  | (g, l) :: r, o, p, h => by
    simp only [rhoB] at h
    simp only [baseT, T.get_set]
    split at h
    · rename_i e
      subst e
      exact ⟨l, List.mem_cons_self, (Option.some.inj h).symm, by simp⟩
    · rename_i e
      obtain ⟨l', hm, hp, hg⟩ := rhoB_some (el := el) h
      exact ⟨l', List.mem_cons_of_mem _ hm, hp, by rw [if_neg (fun e' => e e'.symm)]; exact hg⟩

theorem rhoB_none {el : Nat → Nat} : ∀ {B : Base} {o : Nat}, rhoB B o = none → (baseT el B).get .dead o = .dead
  | [], o, _ => T.get_lf _ _
  | (g, l) :: r, o, h => by
    simp only [rhoB] at h
    simp only [baseT, T.get_set]
    split at h
    · cases h
    · rename_i e
      rw [if_neg (fun e' => e e'.symm)]
      exact rhoB_none h

/-- all that is asked of the variables: they lie below N, and their cells name nothing -/
structure BaseOk (N : Nat) (B : Base) : Prop where
  lt : ∀ x ∈ B, x.1 < N
  wf : ∀ x ∈ B, wfs 0 x.2

theorem baseH_wfh {N : Nat} {B : Base} (hB : BaseOk N B) (el : Nat → Nat) : wfh (baseH N B el) := by
  refine ⟨Nat.le_refl _, fun o => ?_⟩
  show wfo N ((baseT el B).get .dead o)
  cases h : rhoB B o with
  | none => rw [rhoB_none h]; trivial
  | some p =>
    obtain ⟨l, hm, _, hg⟩ := rhoB_some (el := el) h
    rw [hg]
    intro i
    exact wf_writeCells (fun i => by rw [T.get_lf]; trivial) (wfs_mono (Nat.zero_le _) _ (hB.wf _ hm)) 0 i

theorem baseH_gr {N : Nat} (B : Base) (el : Nat → Nat) : GRel N (rhoB B) (baseH N B el) := by
  refine ⟨Nat.le_refl _, fun g _ => ?_⟩
  cases h : rhoB B g with
  | none => exact .inr ⟨rfl, rhoB_none h⟩
  | some p =>
    obtain ⟨l, _, hp, _⟩ := rhoB_some (el := el) h
    exact .inl ⟨l.length, by rw [hp]⟩

/-- the variables' cells in a world -/
def BaseAt (B : Base) (el : Nat → Nat) (W : World) : Prop :=
  ∀ x ∈ B, ∃ cs fr, W.heap[x.1]? = some (.cells cs (el x.1) fr) ∧ fr.2 = 0 ∧ VRels (fun _ => none) ⟨0, .lf, 0⟩ x.2 cs.toList

theorem baseAt_nil (W : World) : BaseAt [] (fun _ => 0) W := fun x hx => by cases hx

mutual
theorem vrel_plain {ρ : Rho} {h : H} (ρ' : Rho) (h' : H) : ∀ {v : V} {x : Value}, wf 0 v → VRel ρ h v x → VRel ρ' h' v x
  | _, _, _, .int k n => .int k n
  | _, _, _, .bool b => .bool b
  | _, _, _, .str s => .str s
  | _, _, _, .flt x => .flt x
  | _, _, w, .ptr _ => absurd w (Nat.not_lt_zero _)
  | _, _, w, .ptrD _ _ _ => absurd w (Nat.not_lt_zero _)
  | _, _, _, .nil => .nil
  | _, _, w, .sl _ _ _ _ _ _ => absurd w (Nat.not_lt_zero _)
  | _, _, w, .slD _ _ _ => absurd w (Nat.not_lt_zero _)
  | _, _, _, .nils => .nils
  | _, _, _, .nilm => .nilm
  | _, _, w, .fn r => .fn (vrels_plain ρ' h' w r)
  | _, _, _, .nilf => .nilf
  | _, _, w, .ifc r => .ifc (vrel_plain ρ' h' w r)
  | _, _, _, .nili => .nili
  | _, _, w, .agg r => .agg (vrels_plain ρ' h' w r)
  | _, _, w, .tup r => .tup (vrels_plain ρ' h' w r)
  | _, _, _, .bot x => .bot x
theorem vrels_plain {ρ : Rho} {h : H} (ρ' : Rho) (h' : H) : ∀ {l : List V} {xs : List Value}, wfs 0 l → VRels ρ h l xs → VRels ρ' h' l xs
  | _, _, _, .nil => .nil
  | _, _, w, .cons a b => .cons (vrel_plain ρ' h' w.1 a) (vrels_plain ρ' h' w.2 b)
end

theorem baseH_rel {N : Nat} {B : Base} (hB : BaseOk N B) {el : Nat → Nat} {W : World} (hW : BaseAt B el W) : HRel (rhoB B) (baseH N B el) W := by
  refine ⟨fun o p h => ?_, fun o p h => ?_, fun o o' p p' h h' e => ?_⟩
  · obtain ⟨l, hm, _, _⟩ := rhoB_some (el := el) h
    exact hB.lt _ hm
  · obtain ⟨l, hm, rfl, hg⟩ := rhoB_some (el := el) h
    have hg' : (baseH N B el).get o = .c l.length (writeCells .lf 0 l) false (el o) (some 0) := hg
    rw [hg']
    obtain ⟨cs, fr, h1, h2, h3⟩ := hW _ hm
    have hl := h3.length
    refine ⟨cs, fr, h1, by simpa using hl, Nat.le_of_eq (Nat.zero_add _), fun _ => ⟨rfl, rfl⟩, fun i hi => ?_, ?_⟩
    · obtain ⟨v, hv⟩ : ∃ v, l[i]? = some v := ⟨_, List.getElem?_eq_getElem hi⟩
      obtain ⟨x, hx, hvx⟩ := h3.get hv
      have hw : wf 0 v := (wfs_iff 0 l).1 (hB.wf _ hm) v (List.mem_of_getElem? hv)
      refine ⟨x, by simpa using hx, ?_⟩
      rw [get_writeCells]
      rw [if_pos ⟨Nat.zero_le _, by omega⟩, Nat.sub_zero, List.getD_eq_getElem?_getD, hv]
      exact vrel_plain _ _ hw hvx
    · show fr.2 ≤ 0 + 0
      omega
  · obtain ⟨l, _, rfl, _⟩ := rhoB_some (el := el) h
    obtain ⟨l', _, rfl, _⟩ := rhoB_some (el := el) h'
    exact e

theorem vrels_ints {ρ : Rho} {h : H} (k : IntKind) : ∀ zs : List Int, VRels ρ h (zs.map fun z => .int k z) (zs.map fun z => Value.int k z)
  | [] => .nil
  | z :: r => .cons (.int k z) (vrels_ints k r)

theorem vrels_ints1 {ρ : Rho} {h : H} (k : IntKind) (zs : List Int) : VRels ρ h (zs.map fun z => .int k z) (zs.map fun z => Value.int k z).toArray.toList := by
  simpa using vrels_ints k zs

theorem baseAt_cons {B : Base} {el : Nat → Nat} {W : World} (hB : BaseAt B el W) {g e : Nat} {k : IntKind} {zs : List Int} (h : W.heap[g]? = some (.cells (zs.map fun z => Value.int k z).toArray e (0, 0)))
    (hn : ∀ x ∈ B, x.1 ≠ g) : BaseAt ((g, zs.map fun z => .int k z) :: B) (fun x => if x = g then e else el x) W := by
  intro x hx
  rcases List.mem_cons.1 hx with rfl | hx
  · exact ⟨_, (0, 0), by show _ = some (Obj.cells _ (if g = g then e else el g) _); rw [h, if_pos rfl], rfl, vrels_ints1 k zs⟩
  · obtain ⟨cs, fr, h1, h2, h3⟩ := hB x hx
    exact ⟨cs, fr, by show _ = some (Obj.cells _ (if x.1 = g then e else el x.1) _); rw [h1, if_neg (hn x hx)], h2, h3⟩

theorem wfs_ints (n : Nat) (k : IntKind) : ∀ zs : List Int, wfs n (zs.map fun z => .int k z)
  | [] => trivial
  | _ :: r => ⟨trivial, wfs_ints n k r⟩

/-- an array of integers that the statement tells -/
theorem base_of_laid {P : Program} {W : World} {laid : List (String × DataW Unit)} (hl : laidMet P laid W) {name : String} {k : IntKind} {zs : List Int} {g : Nat} {t e : TypeId} {n : Nat}
    (hg : P.globalNamed name = some g) (hty : (P.globals[g]?).map (·.type) = some t) (ht : P.underlying t = some (.array n e)) (he : P.underlying e = some (.int k)) (hce : P.cellsOf e = 1) (hct : P.cellsOf t = n) (hn : 0 < zs.length)
    (hm : (name, Lib.tabData k zs) ∈ laid) : ∃ el, W.heap[g]? = some (.cells (zs.map fun z => Value.int k z).toArray el (0, 0)) := by
  have hcells : ∃ ps', (∀ p ∈ ps', p ∈ (Classical.choose hl)) ∧ ∃ cs, W.var? P name = some cs ∧ cs.toList = zs.map (fun z => Value.int k z) ∧ ps' = MemPlace.row ⟨g, 0, none⟩ cs.size := by
    have hv := (Classical.choose_spec hl).1
    generalize Classical.choose hl = ps at hv
    clear hl
    induction laid generalizing ps with
    | nil => cases hm
    | cons x r ih =>
      obtain ⟨n', d'⟩ := x
      obtain ⟨g', t', cs, fuel, p, q, h1, h2, h3, h4, h5, h6⟩ := hv
      rcases List.mem_cons.1 hm with e1 | e1
      · cases e1
        obtain rfl : g' = g := Option.some.inj (h1.symm.trans hg)
        obtain rfl : t' = t := Option.some.inj (h2.symm.trans hty)
        exact ⟨_, fun p hp => by rw [h6]; simp [hp], cs, h3, Lib.cells_of_tab ht he hce hct h4, rfl⟩
      · obtain ⟨ps', hs, hc⟩ := ih e1 q h5
        exact ⟨ps', fun p hp => by rw [h6]; simp [hs p hp], hc⟩
  obtain ⟨ps', hs, cs, hv, hcs, hps⟩ := hcells
  have hsz : 0 < cs.size := by
    have := congrArg List.length hcs
    simp at this
    omega
  have h0 : MemPlace.cell g 0 ∈ Classical.choose hl := hs _ (by rw [hps]; simp only [MemPlace.row, List.mem_map, List.mem_range]; exact ⟨0, hsz, rfl⟩)
  obtain ⟨⟨c, t', hc⟩, _⟩ := (Classical.choose_spec hl).2.2 g 0 h0
  refine ⟨t', ?_⟩
  simp only [World.var?, hg, Option.bind_some, hc, Option.some.injEq] at hv
  subst hv
  rw [hc, ← hcs]

end
end Go.Vm
