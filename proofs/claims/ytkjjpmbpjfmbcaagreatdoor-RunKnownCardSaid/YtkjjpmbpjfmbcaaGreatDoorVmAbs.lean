/-
  What every run keeps of the abstract heap: what is older than the floor; that what is named is there.
-/
import Derived.Test.YtkjjpmbpjfmbcaaGreatDoorVmLaws
set_option linter.unusedVariables false
set_option linter.unusedSimpArgs false
namespace Go.Vm

mutual
/-- all objects that a value names are below n -/
def wf (n : Nat) : V → Prop
  | .ptr o _ => o < n
  | .sl o _ _ _ _ _ => o < n
  | .mp o => o < n
  | .fn _ caps => wfs n caps
  | .ifc _ v => wf n v
  | .agg l => wfs n l
  | .tup l => wfs n l
  | .int _ _ | .bool _ | .str _ _ | .flt _ | .nil | .nils | .nilm | .nilf | .nili | .bot => True
def wfs (n : Nat) : List V → Prop
  | [] => True
  | v :: r => wf n v ∧ wfs n r
end

theorem wfs_iff (n : Nat) : ∀ l : List V, wfs n l ↔ ∀ v ∈ l, wf n v
  | [] => by simp [wfs]
  | v :: r => by simp [wfs, wfs_iff n r]

mutual
theorem wf_mono {n m : Nat} (h : n ≤ m) : ∀ v : V, wf n v → wf m v
  | .ptr _ _, w | .sl _ _ _ _ _ _, w | .mp _, w => Nat.lt_of_lt_of_le w h
  | .fn _ caps, w => wfs_mono h caps w
  | .ifc _ v, w => wf_mono h v w
  | .agg l, w => wfs_mono h l w
  | .tup l, w => wfs_mono h l w
  | .int _ _, _ | .bool _, _ | .str _ _, _ | .flt _, _ | .nil, _ | .nils, _ | .nilm, _ | .nilf, _ | .nili, _ | .bot, _ => trivial
theorem wfs_mono {n m : Nat} (h : n ≤ m) : ∀ l : List V, wfs n l → wfs m l
  | [], _ => trivial
  | v :: r, w => ⟨wf_mono h v w.1, wfs_mono h r w.2⟩
end

def wfo (n : Nat) : Obj → Prop
  | .c _ t _ _ _ => ∀ i, wf n (t.get .bot i)
  | .m es => ∀ e ∈ es, wf n e.1 ∧ wf n e.2
  | _ => True

theorem wfo_mono {n m : Nat} (h : n ≤ m) (x : Obj) (w : wfo n x) : wfo m x := by
  cases x with
  | c k t sp el fz => exact fun i => wf_mono h _ (w i)
  | m es => exact fun e he => ⟨wf_mono h _ (w e he).1, wf_mono h _ (w e he).2⟩
  | si n x p => trivial
  | dead => trivial

def wfh (h : H) : Prop := h.fl ≤ h.n ∧ ∀ o, wfo h.n (h.get o)
def wfe (n : Nat) (e : T V) : Prop := ∀ i, wf n (e.get .bot i)

theorem wfe_mono {n m : Nat} (h : n ≤ m) {e : T V} (w : wfe n e) : wfe m e := fun i => wf_mono h _ (w i)

/-- what a run leaves of the heap that it found -/
structure Abs (h h' : H) : Prop where
  n : h.n ≤ h'.n
  fl : h'.fl = h.fl
  low : ∀ o, o < h.fl → h'.get o = h.get o
  dead : ∀ o, o < h.n → h.get o = .dead → h'.get o = .dead

theorem Abs.refl (h : H) : Abs h h := ⟨Nat.le_refl _, rfl, fun _ _ => rfl, fun _ _ e => e⟩

theorem Abs.trans {a b c : H} (x : Abs a b) (y : Abs b c) : Abs a c :=
  ⟨Nat.le_trans x.n y.n, y.fl.trans x.fl, fun o ho => (y.low o (x.fl ▸ ho)).trans (x.low o ho), fun o ho e => y.dead o (Nat.lt_of_lt_of_le ho x.n) (x.dead o ho e)⟩

/-- the heap grew, and is as it should be -/
structure Grew (h h' : H) : Prop where
  abs : Abs h h'
  wf : wfh h → wfh h'

theorem Grew.refl (h : H) : Grew h h := ⟨.refl h, id⟩
theorem Grew.trans {a b c : H} (x : Grew a b) (y : Grew b c) : Grew a c := ⟨x.abs.trans y.abs, fun w => y.wf (x.wf w)⟩

theorem Abs.push {h : H} (hf : h.fl ≤ h.n) (x : Obj) : Abs h (h.push x) :=
  ⟨Nat.le_succ _, rfl, fun o ho => by rw [H.get_push, if_neg (by omega)], fun o ho e => by rw [H.get_push, if_neg (by omega)]; exact e⟩

theorem wfh_push {h : H} {x : Obj} (w : wfh h) (hx : wfo (h.n + 1) x) : wfh (h.push x) := by
  refine ⟨Nat.le_succ_of_le w.1, fun o => ?_⟩
  rw [H.get_push, H.n_push]
  split
  · exact hx
  · exact wfo_mono (Nat.le_succ _) _ (w.2 o)

theorem Abs.set {h : H} {o : Nat} (x : Obj) (hf : h.fl ≤ o) (hd : h.get o ≠ .dead) : Abs h (h.set o x) :=
  ⟨Nat.le_refl _, rfl, fun p hp => by rw [H.get_set, if_neg (by omega)], fun p hp e => by
    rw [H.get_set]; split
    · rename_i he; subst he; exact absurd e hd
    · exact e⟩

theorem wfh_set {h : H} {o : Nat} {x : Obj} (w : wfh h) (hx : wfo h.n x) : wfh (h.set o x) := by
  refine ⟨w.1, fun p => ?_⟩
  rw [H.get_set, H.n_set]
  split
  · exact hx
  · exact w.2 p

theorem wf_opd {n : Nat} {e : T V} (we : wfe n e) {x : Opd} (hc : match x with | .c v => wf n v | .t _ => True) : wf n (opd e x) := by
  cases x with
  | t i => exact we i
  | c v => exact hc

end Go.Vm
