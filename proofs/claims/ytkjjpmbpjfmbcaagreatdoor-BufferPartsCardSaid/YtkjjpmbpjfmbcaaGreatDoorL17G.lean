/-
  A slice that may be nil, told as one value; what is left of a message, so told.
-/
import Derived.Test.YtkjjpmbpjfmbcaaGreatDoorL17F
set_option linter.unusedVariables false
set_option linter.unusedSimpArgs false
namespace Go.Vm.R
noncomputable section
/-- .. the other way round, where no row is given -/
theorem law_sn {G : Gl} {O : Nat → List V → H → Res} {tab : Nat → Option CFn} {f T : Nat} {l : List DV} {k : RK} {r : List k.T} {el : Nat}
    (law : LawOk G O tab f T [] l (.br (Nat.beq r.length 0) (.v .nils []) (.v (.rs 0 0 r.length r.length k.w false) [.r k r true el]))) :
    LawOk G O tab f T [] l (.v (.ns 0 r.length k.w) [.rn k r el]) := by
  intro n hn kk L h R wf g hw z hz
  have hz : (kk (.ns 0 r.length k.w) (mkD [.rn k r el] 0)).ev = some z := hz
  cases hr : Nat.beq r.length 0 with
  | true =>
    have h0 : r.length = 0 := Nat.eq_of_beq_eq_true hr
    obtain ⟨x, d', L', h', e1, R1, st, hx⟩ := law n hn okK L h R wf g hw (.nils, mkD [] 0) (by
      show (Tree.br (Nat.beq r.length 0) (.ok .nils (mkD [] 0)) (.ok (.rs 0 0 r.length r.length k.w false) (mkD [.r k r true el] 0))).ev = _
      rw [hr]; rfl)
    have hq := Option.some.inj hx
    obtain ⟨rfl, rfl⟩ := Prod.mk.inj hq
    have no : ∀ s, ¬ Here ((mkD [.rn k r el] 0).get s) := by
      intro s hs
      rw [mkD_get] at hs
      cases s with
      | zero =>
        have : 0 < r.length := hs
        omega
      | succ s =>
        rw [List.getD_eq_getElem?_getD, List.getElem?_eq_none (by simp)] at hs
        exact hs
    refine ⟨.ns 0 r.length k.w, mkD [.rn k r el] 0, fun s => h'.n + (s - 1), h', ?_, ?_, ?_, hz⟩
    · rw [e1]
      congr 1
      show V.nils = nsV _ _ _
      rw [h0]; rfl
    · exact ⟨fun s hs => (no s hs).elim, fun s hs => (no s hs).elim, fun s s' hs => (no s hs).elim, fun j => by
        show h'.n + (1 + j - 1) = h'.n + j
        omega, fun s hs => (no s hs).elim⟩
    · exact ⟨fun s hs => (by cases hs), Nat.zero_le _, st.hn, rfl, st.hfl, st.frame, fun s hs => (by cases hs), fun s _ hh => (no s hh).elim⟩
  | false =>
    have h0 : 0 < r.length := by
      rcases Nat.eq_zero_or_pos r.length with h | h
      · rw [h] at hr; cases hr
      · exact h
    obtain ⟨x, d', L', h', e1, R1, st, hx⟩ := law n hn okK L h R wf g hw (.rs 0 0 r.length r.length k.w false, mkD [.r k r true el] 0) (by
      show (Tree.br (Nat.beq r.length 0) (.ok .nils (mkD [] 0)) (.ok (.rs 0 0 r.length r.length k.w false) (mkD [.r k r true el] 0))).ev = _
      rw [hr]; rfl)
    have hq := Option.some.inj hx
    obtain ⟨rfl, rfl⟩ := Prod.mk.inj hq
    have same : ∀ s, (Here ((mkD [.rn k r el] 0).get s) → Here ((mkD [.r k r true el] 0).get s)) ∧ toO L' ((mkD [.rn k r el] 0).get s) = toO L' ((mkD [.r k r true el] 0).get s) := by
      intro s
      rw [mkD_get, mkD_get]
      cases s with
      | zero => exact ⟨fun _ => trivial, rfl⟩
      | succ s =>
        rw [List.getD_eq_getElem?_getD, List.getD_eq_getElem?_getD, List.getElem?_eq_none (by simp), List.getElem?_eq_none (by simp)]
        exact ⟨id, rfl⟩
    refine ⟨.ns 0 r.length k.w, mkD [.rn k r el] 0, L', h', ?_, rep_like R1 rfl rfl (fun s hs => ⟨(same s).1 hs, (same s).2⟩), ?_, hz⟩
    · rw [e1]
      congr 1
      obtain ⟨m, hm⟩ : ∃ m, r.length = m + 1 := ⟨r.length - 1, by omega⟩
      show V.sl _ (0 * k.w) _ _ _ _ = nsV _ _ _
      rw [hm, Nat.zero_mul]; rfl
    · exact ⟨st.agree, Nat.zero_le _, st.hn, rfl, st.hfl, st.frame, fun s hs => (by cases hs), fun s hs hh => st.new s hs ((same s).1 hh)⟩
end
end Go.Vm.R
namespace Go.Vm.YtkjjpmbpjfmbcaaGreatDoor
open Go.Proofs Go.Vm.R
noncomputable section
theorem law61s (op : Int) (k t v a b : Txt) : LawOk C.G C.O C.tab 61 101 [] [.agg [.int .i64 op, .str k, .str t, .str v], .str a, .str b] (.v (.ns 0 (leftL (op, k, t, v) a b).length 4) [.rn .msg (leftL (op, k, t, v) a b) 31]) :=
  law_sn (k := .msg) (r := leftL (op, k, t, v) a b) (el := 31) (law61 op k t v a b)
def g61s : List R.DV → List R.DO → Option RD := fun l ao => match l, ao with
  | [.agg [.int .i64 op, .str k, .str t, .str v], .str a, .str b], [] => some (.v (.ns 0 (leftL (op, k, t, v) a b).length 4) [.rn .msg (leftL (op, k, t, v) a b) 31])
  | _, _ => none
theorem g61s_ok (l : List R.DV) (ao : List R.DO) (out : RD) (h : g61s l ao = some out) : LawOk C.G C.O C.tab 61 101 ao l out := by
  unfold g61s at h
  split at h
  · cases h; exact law61s _ _ _ _ _ _
  · cases h
def Y3 : C.RL := ((Y0.add 61 101 g61s g61s_ok).add 65 101 gX65 gX65_ok).add 66 101 g66 g66_ok
end
end Go.Vm.YtkjjpmbpjfmbcaaGreatDoor
