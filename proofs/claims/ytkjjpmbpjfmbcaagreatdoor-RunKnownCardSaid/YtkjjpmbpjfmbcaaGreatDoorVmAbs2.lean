/-
  Each operation keeps the heap in order.
-/
import Derived.Test.YtkjjpmbpjfmbcaaGreatDoorVmAbs
set_option linter.unusedVariables false
set_option linter.unusedSimpArgs false
namespace Go.Vm

/-- what comes of a run is in order -/
def Good (h : H) : Res → Prop
  | .ok v h' => Abs h h' ∧ wfh h' ∧ wf h'.n v
  | .pan v h' => Abs h h' ∧ wfh h' ∧ wf h'.n v
  | .no => True

theorem good_no (h : H) : Good h .no := trivial
theorem good_same {h : H} {v : V} (w : wfh h) (hv : wf h.n v) : Good h (.ok v h) := ⟨.refl h, w, hv⟩

def opdWf (n : Nat) : Opd → Prop
  | .t _ => True
  | .c v => wf n v

theorem wf_opd' {n : Nat} {e : T V} (we : wfe n e) {x : Opd} (hc : opdWf n x) : wf n (opd e x) := by
  cases x with
  | t i => exact we i
  | c v => exact hc

theorem wfs_opds {n : Nat} {e : T V} (we : wfe n e) : ∀ {l : List Opd}, (∀ x ∈ l, opdWf n x) → wfs n (l.map (opd e))
  | [], _ => trivial
  | x :: r, h => ⟨wf_opd' we (h x (by simp)), wfs_opds we fun y hy => h y (by simp [hy])⟩

theorem wfs_append {n : Nat} {a b : List V} : wfs n (a ++ b) ↔ wfs n a ∧ wfs n b := by
  simp only [wfs_iff, List.mem_append]
  exact ⟨fun h => ⟨fun v hv => h v (.inl hv), fun v hv => h v (.inr hv)⟩, fun h v hv => hv.elim (h.1 v) (h.2 v)⟩

theorem wfs_take {n k : Nat} {l : List V} (h : wfs n l) : wfs n (l.take k) := by
  rw [wfs_iff] at *; exact fun v hv => h v (List.mem_of_mem_take hv)
theorem wfs_drop {n k : Nat} {l : List V} (h : wfs n l) : wfs n (l.drop k) := by
  rw [wfs_iff] at *; exact fun v hv => h v (List.mem_of_mem_drop hv)
theorem wf_getElem? {n i : Nat} {l : List V} {v : V} (h : wfs n l) (e : l[i]? = some v) : wf n v :=
  (wfs_iff n l).1 h v (List.mem_of_getElem? e)
theorem wf_getD {n : Nat} {l : List V} (h : wfs n l) (i : Nat) : wf n (l.getD i .bot) := by
  rw [List.getD_eq_getElem?_getD]
  cases e : l[i]? with
  | none => exact trivial
  | some v => exact wf_getElem? h e

theorem wfs_cells {n : Nat} {v : V} {l : List V} (h : wf n v) (e : v.cells = some l) : wfs n l := by
  unfold V.cells at e
  split at e <;> simp only [Option.some.injEq, reduceCtorEq] at e
  · exact e ▸ h
  · exact e ▸ ⟨h, trivial⟩

theorem wfs_repl {n : Nat} {z : List V} (h : wfs n z) : ∀ k, wfs n (repl z k)
  | 0 => trivial
  | k + 1 => wfs_append.2 ⟨h, wfs_repl h k⟩

theorem wfs_strCells (m n x : Nat) : wfs m (strCells n x) := by
  rw [wfs_iff]; intro v hv
  simp only [strCells, List.mem_map] at hv
  obtain ⟨i, _, rfl⟩ := hv
  trivial

theorem wfs_setRange {n off : Nat} {l c : List V} (h : wfs n l) (hc : wfs n c) : wfs n (setRange l off c) :=
  wfs_append.2 ⟨wfs_append.2 ⟨wfs_take h, hc⟩, wfs_drop h⟩

theorem wfs_fill {n : Nat} {e : T V} (we : wfe n e) : ∀ (ps : List (Nat × Nat × Opd)) (z l : List V), wfs n z → (∀ p ∈ ps, opdWf n p.2.2) → fill e z ps = some l → wfs n l
  | [], z, l, hz, _, h => by simp only [fill, Option.some.injEq] at h; exact h ▸ hz
  | (off, k, x) :: r, z, l, hz, hp, h => by
    simp only [fill] at h
    split at h
    · rename_i c hc
      split at h
      · exact wfs_fill we r _ l (wfs_setRange hz (wfs_cells (wf_opd' we (hp (off, k, x) (by simp))) hc)) (fun p hp' => hp p (by simp [hp'])) h
      · cases h
    · cases h

theorem wf_read {h : H} (w : wfh h) {o n : Nat} {t : T V} {sp : Bool} {el : Nat} {fz : Option Nat} (e : h.get o = .c n t sp el fz) (i : Nat) : wf h.n (t.get .bot i) := by
  have := w.2 o
  rw [e] at this
  exact this i

theorem wfs_readCells {m : Nat} {t : T V} (ht : ∀ i, wf m (t.get .bot i)) : ∀ (n i : Nat), wfs m (readCells t i n)
  | 0, _ => trivial
  | n + 1, i => ⟨ht i, wfs_readCells ht n (i + 1)⟩

theorem wf_writeCells {m : Nat} {t : T V} (ht : ∀ i, wf m (t.get .bot i)) {l : List V} (hl : wfs m l) (i j : Nat) : wf m ((writeCells t i l).get .bot j) := by
  rw [get_writeCells]
  split
  · exact wf_getD hl _
  · exact ht j

theorem wfs_loadN {h : H} (w : wfh h) {o i n : Nat} {l : List V} (e : loadN h o i n = some l) : wfs h.n l := by
  unfold loadN at e
  split at e
  · rename_i hg
    split at e
    · simp only [Option.some.injEq] at e; exact e ▸ wfs_readCells (wf_read w hg) _ _
    · cases e
  · cases e

theorem storeN_some {h h' : H} {o i : Nat} {l : List V} (e : storeN h o i l = some h') :
    ∃ m t sp el fz, h.get o = .c m t sp el fz ∧ i + l.length ≤ m ∧ fz.getD 0 ≤ i ∧ h.fl ≤ o ∧ allOne l = true ∧ h' = h.set o (.c m (writeCells t i l) sp el fz) := by
  unfold storeN at e
  split at e
  · rename_i m t sp el fz hg
    split at e
    · rename_i hc
      simp only [Bool.and_eq_true, decide_eq_true_eq] at hc
      simp only [Option.some.injEq] at e
      exact ⟨m, t, sp, el, fz, hg, hc.1.1.1, hc.1.1.2, hc.1.2, hc.2, e.symm⟩
    · cases e
  · cases e

theorem store_good {h h' : H} (w : wfh h) {o i : Nat} {l : List V} (hl : wfs h.n l) (e : storeN h o i l = some h') : Abs h h' ∧ wfh h' ∧ h'.n = h.n := by
  obtain ⟨m, t, sp, el, fz, hg, h1, h2, h3, _, rfl⟩ := storeN_some e
  exact ⟨.set _ h3 (by rw [hg]; simp), wfh_set w fun j => wf_writeCells (wf_read w hg) hl i j, rfl⟩

theorem newCells_good {h : H} (w : wfh h) {l : List V} (hl : wfs h.n l) (sp : Bool) (el : Nat) (fz : Option Nat) : Abs h (newCells h l sp el fz) ∧ wfh (newCells h l sp el fz) :=
  ⟨.push w.1 _, wfh_push w fun j => wf_mono (Nat.le_succ _) _ (by
    rw [get_writeCells]
    split
    · exact wf_getD hl _
    · rw [T.get_lf]; trivial)⟩

theorem n_newCells (h : H) (l : List V) (sp : Bool) (el : Nat) (fz : Option Nat) : (newCells h l sp el fz).n = h.n + 1 := rfl

/-- a new row, and a value that names it -/
theorem good_new {h : H} (w : wfh h) {l : List V} (hl : wfs h.n l) {sp : Bool} {el : Nat} {fz : Option Nat} {v : V} (hv : wf (h.n + 1) v) : Good h (.ok v (newCells h l sp el fz)) :=
  ⟨(newCells_good w hl sp el fz).1, (newCells_good w hl sp el fz).2, hv⟩

theorem wfs_srcCells {h : H} (w : wfh h) {s m : Nat} {v : V} {l : List V} (e : srcCells h s v = some (m, l)) : wfs h.n l := by
  unfold srcCells at e
  split at e
  · simp only [Option.some.injEq, Prod.mk.injEq] at e; rw [← e.2]; trivial
  · split at e
    · rename_i hl
      simp only [Option.some.injEq, Prod.mk.injEq] at e
      rw [← e.2]; exact wfs_loadN w hl
    · cases e
  · split at e
    · simp only [Option.some.injEq, Prod.mk.injEq] at e; rw [← e.2]; exact wfs_strCells _ _ _
    · cases e
  · cases e

theorem good_give {h : H} (w : wfh h) {v : Option V} (hv : ∀ x, v = some x → wf h.n x) : Good h (give h v) := by
  cases v with
  | none => trivial
  | some x => exact good_same w (hv x rfl)

theorem intBin_wf (n : Nat) {op : BinOp} {k : IntKind} {a b : Int} {v : V} (e : intBin op k a b = some v) : wf n v := by
  unfold intBin at e
  split at e <;> (try split at e) <;> first | (simp only [Option.some.injEq] at e; subst e; trivial) | cases e

theorem shiftBin_wf (n : Nat) {op : BinOp} {k : IntKind} {a b : Int} {v : V} (e : shiftBin op k a b = some v) : wf n v := by
  unfold shiftBin at e
  split at e
  · cases e
  · split at e <;> first | (simp only [Option.some.injEq] at e; subst e; trivial) | cases e

theorem strBin_wf (n : Nat) {op : BinOp} {a b c d : Nat} {v : V} (e : strBin op a b c d = some v) : wf n v := by
  unfold strBin at e
  split at e <;> (try split at e) <;> first | (simp only [Option.some.injEq] at e; subst e; trivial) | cases e

theorem fltBin_wf (n : Nat) {op : BinOp} {a b : Nat} {v : V} (e : fltBin op a b = some v) : wf n v := by
  unfold fltBin at e
  split at e <;> first
    | (rw [Option.map_eq_some_iff] at e; obtain ⟨x, _, rfl⟩ := e; trivial)
    | (simp only [Option.some.injEq] at e; subst e; trivial)
    | cases e

theorem bin_wf (n : Nat) {op : BinOp} {x y v : V} (e : bin op x y = some v) : wf n v := by
  unfold bin at e
  split at e
  · split at e
    · exact shiftBin_wf n e
    · exact shiftBin_wf n e
    · split at e
      · exact intBin_wf n e
      · cases e
  · exact strBin_wf n e
  · exact fltBin_wf n e
  · cases e

theorem un_wf (n : Nat) {op : UnOp} {x v : V} (e : un op x = some v) : wf n v := by
  unfold un at e
  split at e <;> first | (simp only [Option.some.injEq] at e; subst e; trivial) | cases e

theorem mmV_wf (n : Nat) {mx : Bool} {x y v : V} (e : mmV mx x y = some v) : wf n v := by
  unfold mmV at e
  split at e
  · simp only [Option.some.injEq] at e; subst e; trivial
  · split at e <;> split at e <;> (simp only [Option.some.injEq] at e; subst e; trivial)
  · cases e

theorem mmL_wf (n : Nat) {mx : Bool} : ∀ (l : List V) {x v : V}, wf n x → mmL mx x l = some v → wf n v
  | [], x, v, hx, e => by simp only [mmL, Option.some.injEq] at e; exact e ▸ hx
  | y :: r, x, v, hx, e => by
    simp only [mmL] at e
    split at e
    · rename_i hw; exact mmL_wf n r (mmV_wf n hw) e
    · cases e

theorem good_partOf {h : H} (w : wfh h) {l : List V} (hl : wfs h.n l) (off n : Nat) (ag : Bool) : Good h (partOf h l off n ag) := by
  unfold partOf
  split
  · split
    · exact good_same w (wfs_take (wfs_drop hl))
    · split
      · rename_i hv; exact good_same w (wf_getElem? hl hv)
      · trivial
  · trivial

theorem good_doAppend {h : H} (w : wfh h) {s bytes el m : Nat} {x : V} (hx : wf h.n x) {new : List V} (hn : wfs h.n new) : Good h (doAppend h s bytes el x m new) := by
  unfold doAppend
  split
  · split
    · exact good_same w trivial
    · split
      · exact good_new w hn (Nat.lt_succ_self _)
      · trivial
  · rename_i o i n c s' ex
    split
    · rename_i k t sp el' fz hg
      split
      · split
        · split
          · exact good_same w hx
          · split
            · rename_i hs
              obtain ⟨a, b, c⟩ := store_good w hn hs
              exact ⟨a, b, c ▸ hx⟩
            · trivial
        · split
          · split
            · have hr : ∀ i n, wfs h.n (readCells t i n ++ new) := fun i n => wfs_append.2 ⟨wfs_readCells (wf_read w hg) _ _, hn⟩
              split
              · exact good_new w (hr _ _) (Nat.lt_succ_self _)
              · split
                · rename_i hc
                  have hs : Abs h (h.set o .dead) := .set _ hc.2.2.1 (by rw [hg]; simp)
                  have hw : wfh (h.set o .dead) := wfh_set w trivial
                  obtain ⟨a, b⟩ := newCells_good hw (hr _ _) true el (fz.map (· - _))
                  exact ⟨hs.trans a, b, Nat.lt_succ_self _⟩
                · trivial
            · trivial
          · trivial
      · trivial
    · trivial
  · trivial

def copWf (n : Nat) (c : COp) : Prop := (∀ x ∈ c.opds, opdWf n x) ∧ wfs n c.zs

theorem copWf_mono {n m : Nat} (h : n ≤ m) {c : COp} (w : copWf n c) : copWf m c :=
  ⟨fun x hx => by
    have := w.1 x hx
    cases x with
    | t i => trivial
    | c v => exact wf_mono h _ this, wfs_mono h _ w.2⟩

mutual
theorem wf_of_wfB (n : Nat) : ∀ v : V, wfB n v = true → wf n v
  | .ptr _ _, h | .sl _ _ _ _ _ _, h | .mp _, h => by simp only [wfB, Nat.blt_eq] at h; exact h
  | .fn _ caps, h => wfs_of_wfsB n caps h
  | .ifc _ v, h => wf_of_wfB n v h
  | .agg l, h => wfs_of_wfsB n l h
  | .tup l, h => wfs_of_wfsB n l h
  | .int _ _, _ | .bool _, _ | .str _ _, _ | .flt _, _ | .nil, _ | .nils, _ | .nilm, _ | .nilf, _ | .nili, _ | .bot, _ => trivial
theorem wfs_of_wfsB (n : Nat) : ∀ l : List V, wfsB n l = true → wfs n l
  | [], _ => trivial
  | v :: r, h => by
    simp only [wfsB, Bool.and_eq_true] at h
    exact ⟨wf_of_wfB n v h.1, wfs_of_wfsB n r h.2⟩
end

theorem copWf_of {n : Nat} {c : COp} (h : copB n c = true) : copWf n c := by
  simp only [copB, Bool.and_eq_true, List.all_eq_true] at h
  refine ⟨fun x hx => ?_, wfs_of_wfsB n _ h.2⟩
  have := h.1 x hx
  cases x with
  | t i => trivial
  | c v => exact wf_of_wfB n v this

theorem copWf_stop (n : Nat) : copWf n .stop := ⟨fun x hx => by simp [COp.opds] at hx, trivial⟩

theorem copAt_wf (P : Program) (o : Oper) : copWf P.globals.size (copAt P o) := by
  unfold copAt
  split
  · split
    · exact copWf_of (by assumption)
    · exact copWf_stop _
  · exact copWf_stop _

def CallGood (G : Nat) (call : Nat → List V → H → Res) : Prop := ∀ f args h, G ≤ h.n → wfh h → wfs h.n args → Good h (call f args h)

theorem step_good {G : Nat} {call : Nat → List V → H → Res} (hcall : CallGood G call) {e : T V} {h : H} (hG : G ≤ h.n) (w : wfh h) (we : wfe h.n e) {c : COp} (hc : copWf h.n c) : Good h (step call e h c) := by
  obtain ⟨ho, hz⟩ := hc
  have O : ∀ x ∈ c.opds, wf h.n (opd e x) := fun x hx => wf_opd' we (ho x hx)
  cases c <;> simp only [COp.opds, COp.zs, List.mem_cons, List.not_mem_nil, or_false, forall_eq_or_imp, forall_eq] at O ho hz <;> simp only [step]
  case mv x => exact good_same w O
  case pick c a b =>
    unfold sPick
    split
    · exact good_same w O.2.1
    · exact good_same w O.2.2
    · trivial
  case alc z el => exact good_new w hz (Nat.lt_succ_self _)
  case box el x =>
    unfold sBox
    split
    · rename_i hl; exact good_new w (wfs_cells O hl) (Nat.lt_succ_self _)
    · trivial
  case bld z ps =>
    unfold sBld
    split
    · rename_i l hl
      exact good_same w (wfs_fill we ps z l hz (fun p hp => ho _ (List.mem_map.2 ⟨p, hp, rfl⟩)) hl)
    · trivial
  case bsl z len s el ps =>
    unfold sBsl
    split
    · rename_i l hl
      exact good_new w (wfs_fill we ps _ l (wfs_repl hz _) (fun p hp => ho _ (List.mem_map.2 ⟨p, hp, rfl⟩)) hl) (Nat.lt_succ_self _)
    · trivial
  case ld x =>
    unfold sLd
    split
    · split
      · rename_i hl; exact good_same w (wfs_loadN w hl).1
      · trivial
    · trivial
  case ldn n x =>
    unfold sLdn
    split
    · split
      · rename_i hl; exact good_same w (wfs_loadN w hl)
      · trivial
    · trivial
  case st n x v =>
    unfold sSt
    split
    · split
      · rename_i hl
        split
        · split
          · rename_i hs
            obtain ⟨a, b, c⟩ := store_good w (wfs_cells O.2 hl) hs
            exact ⟨a, b, trivial⟩
          · trivial
        · trivial
      · trivial
    · trivial
  case nck x =>
    unfold sNck
    split
    · rename_i hx
      split
      · exact good_same w (by have q := O; rw [hx] at q; exact q)
      · trivial
    · rename_i hx; exact good_same w (by have q := O; rw [hx] at q; exact q)
    · trivial
  case bin op x y => exact good_give w fun v hv => bin_wf _ hv
  case eq k neg x y => unfold sEq; split <;> first | exact good_same w trivial | trivial
  case eqs neg offs x y => unfold sEqs; split <;> (try split) <;> first | exact good_same w trivial | trivial
  case un op x => exact good_give w fun v hv => un_wf _ hv
  case cvi k x => unfold sCvi; split <;> first | exact good_same w trivial | trivial
  case cvs x => unfold sCvs; split <;> first | exact good_same w trivial | trivial
  case b2s x => unfold sB2s; split <;> (try split) <;> (try split) <;> (try split) <;> first | exact good_same w trivial | trivial
  case s2b el x => unfold sS2b; split <;> first | exact good_new w (wfs_strCells _ _ _) (Nat.lt_succ_self _) | trivial
  case mki t x => exact good_same w O
  case mkf f caps => exact good_same w (wfs_opds we ho)
  case mks z s bytes el l c => unfold sMks; split <;> (try split) <;> first | exact good_new w (wfs_repl hz _) (Nat.lt_succ_self _) | trivial
  case slt x lo hi => unfold sSlt; split <;> (try split) <;> first | exact good_same w trivial | trivial
  case sls s x lo hi mx =>
    have Ox := O x (by simp)
    unfold sSls
    split
    · split <;> first | exact good_same w trivial | trivial
    · rename_i hx
      split
      · split
        · exact good_same w (by have q := Ox; rw [hx] at q; exact q)
        · trivial
      · trivial
    · trivial
  case slp s len x lo hi mx =>
    have Ox := O x (by simp)
    unfold sSlp
    split
    · rename_i hx
      split
      · split
        · exact good_same w (by have q := Ox; rw [hx] at q; exact q)
        · trivial
      · trivial
    · trivial
  case fad off x =>
    unfold sFad
    split
    · rename_i hx
      split
      · exact good_same w (by have q := O; rw [hx] at q; exact q)
      · trivial
    · trivial
  case fld off n ag x =>
    unfold sFld
    split
    · rename_i hx; exact good_partOf w (by have q := O; rw [hx] at q; exact q) _ _ _
    · trivial
  case ixs s x i =>
    unfold sIxs
    split
    · rename_i hx hi
      split
      · exact good_same w (by have q := O.1; rw [hx] at q; exact q)
      · trivial
    · trivial
  case ixp s len x i =>
    unfold sIxp
    split
    · rename_i hx hi
      split
      · exact good_same w (by have q := O.1; rw [hx] at q; exact q)
      · trivial
    · trivial
  case ixa s len ag x i =>
    unfold sIxa
    split
    · rename_i hx hi
      split
      · exact good_partOf w (by have q := O.1; rw [hx] at q; exact q) _ _ _
      · trivial
    · trivial
  case ixt x i => unfold sIxt; split <;> (try split) <;> first | exact good_same w trivial | trivial
  case ext x i =>
    unfold sExt
    split
    · rename_i hx
      split
      · rename_i hv; exact good_same w (wf_getElem? (by have q := O; rw [hx] at q; exact q) hv)
      · trivial
    · trivial
  case calf f args => exact hcall _ _ _ hG w (wfs_opds we ho)
  case calv f args =>
    unfold sCalv
    split
    · rename_i hx
      exact hcall _ _ _ hG w (wfs_append.2 ⟨wfs_opds we fun y hy => ho.2 y hy, (by have q := O.1; rw [hx] at q; exact q)⟩)
    · trivial
  case app s bytes el x y =>
    unfold sAppend
    split
    · rename_i hl; exact good_doAppend w O.1 (wfs_srcCells w hl)
    · trivial
  case cpy s x y =>
    unfold sCopy
    split
    · exact good_same w trivial
    · rename_i hl
      split
      · split
        · exact good_same w trivial
        · split
          · rename_i hs
            obtain ⟨a, b, c⟩ := store_good w (wfs_take (wfs_srcCells w hl)) hs
            exact ⟨a, b, trivial⟩
          · trivial
      · trivial
    · trivial
  case len x => unfold sLen; split <;> (try split) <;> first | exact good_same w trivial | trivial
  case lnt x => unfold sLnt; split <;> first | exact good_same w trivial | trivial
  case lenc n => exact good_same w trivial
  case cap x => unfold sCap; split <;> (try split) <;> first | exact good_same w trivial | trivial
  case mm mx xs =>
    have hl := wfs_opds we ho
    generalize xs.map (opd e) = l at hl
    unfold sMm
    split
    · trivial
    · exact good_give w fun v hv => mmL_wf _ _ hl.1 hv
  case rng x =>
    unfold sRng
    split
    · exact ⟨.push w.1 _, wfh_push w trivial, Nat.lt_succ_self _⟩
    · trivial
  case nxt x =>
    unfold sNxt
    split
    · split
      · rename_i hg
        split
        · split
          · rename_i hc
            exact ⟨.set _ hc.2 (by rw [hg]; simp), wfh_set w trivial, trivial, trivial, trivial, trivial⟩
          · trivial
        · exact good_same w ⟨trivial, trivial⟩
      · trivial
    · trivial
  case usd x =>
    unfold sUsd
    split
    · exact good_same w trivial
    · rename_i hx
      split
      · trivial
      · exact good_same w (by have q := O; rw [hx] at q; exact q)
    · trivial
  case ust el x n =>
    unfold sUst
    split
    · exact good_same w trivial
    · split
      · rename_i hg
        split
        · exact good_same w trivial
        · split
          · rename_i hc
            split
            · exact ⟨.set _ hc.2.1 (by rw [hg]; simp), wfh_set w (wf_read w hg), trivial⟩
            · trivial
          · trivial
      · trivial
    · trivial
  case fbits x => unfold sFbits; split <;> first | exact good_same w trivial | trivial
  case bitsf x => unfold sBitsf; split <;> first | exact good_same w trivial | trivial
  case same x => exact good_same w O
  case mkz el x => unfold sMkz; split <;> (try split) <;> first | exact good_new w (wfs_repl (show wfs h.n [.bot] from ⟨trivial, trivial⟩) _) (Nat.lt_succ_self _) | trivial
  case p2u x =>
    unfold sP2u
    split
    · rename_i hx
      split
      · split
        · exact good_same w (by have q := O; rw [hx] at q; exact q)
        · trivial
      · trivial
    · trivial
  case u2p u s x =>
    unfold sU2p
    split
    · rename_i hx
      split
      · split
        · exact good_same w (by have q := O; rw [hx] at q; exact q)
        · trivial
      · trivial
    · trivial
  case pan x =>
    unfold sPan
    split
    · rename_i hx; exact ⟨.refl h, w, (by have q := O; rw [hx] at q; exact q)⟩
    · trivial
  case stop => trivial

end Go.Vm
