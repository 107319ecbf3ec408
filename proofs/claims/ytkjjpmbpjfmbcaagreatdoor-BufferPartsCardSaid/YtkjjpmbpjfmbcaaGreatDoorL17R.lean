/-
  Layer 17: the law of First, for each slice.
-/
import Derived.Test.YtkjjpmbpjfmbcaaGreatDoorL17Q
set_option linter.unusedVariables false
set_option linter.unusedSimpArgs false
namespace Go.Vm.R
theorem law_need {G : Gl} {O : Nat → List V → H → Res} {tab : Nat → Option CFn} {f T : Nat} {ao : List DO} {l : List DV} {b : Bool} {t : RD} (h : b = true → LawOk G O tab f T ao l t) : LawOk G O tab f T ao l (.need b t) := by
  intro n hn kk L h' R wf g hw z hz
  obtain ⟨hb, hz⟩ := ev_need hz
  exact h hb n hn kk L h' R wf g hw z hz
theorem law_br {G : Gl} {O : Nat → List V → H → Res} {tab : Nat → Option CFn} {f T : Nat} {ao : List DO} {l : List DV} {b : Bool} {t u : RD} (h1 : b = true → LawOk G O tab f T ao l t) (h2 : b = false → LawOk G O tab f T ao l u) : LawOk G O tab f T ao l (.br b t u) := by
  intro n hn kk L h' R wf g hw z hz
  cases b with
  | true => exact h1 rfl n hn kk L h' R wf g hw z hz
  | false => exact h2 rfl n hn kk L h' R wf g hw z hz
theorem law_trim {G : Gl} {O : Nat → List V → H → Res} {tab : Nat → Option CFn} {f T : Nat} {ao : List DO} {l : List DV} {b : Bool} {t : RD} (h : LawOk G O tab f T ao l (.need b t)) (hb : b = true) : LawOk G O tab f T ao l t := by
  intro n hn kk L h' R wf g hw z hz
  exact h n hn kk L h' R wf g hw z (by subst hb; exact hz)
end Go.Vm.R
namespace Go.Vm.YtkjjpmbpjfmbcaaGreatDoor
open Go.Proofs Go.Vm.R
noncomputable section
theorem law19b (j n c : Nat) (ex : Bool) (x0 y0 : Txt) (full : List Msg) (sp : Bool) (el : R.EL) (p1 : j + n ≤ full.length) (p2 : n < 99) (p3 : n ≤ c) (p0 : n ≠ 0) :
    LawOk C.G C.O C.tab 19 121 [.r .msg full sp el] [.rs 0 j n c 4 ex, .str x0, .str y0] (.need true (.br (Nat.beq (restF leftL x0 y0 (seg full j n)).length 0) (.v (.tup [valM (firstM x0 y0 (seg full j n) zeroM), .nils, .bool (!noP x0 y0 (seg full j n))]) [])
      (.v (.tup [valM (firstM x0 y0 (seg full j n) zeroM), .rs 1 0 (restF leftL x0 y0 (seg full j n)).length (restF leftL x0 y0 (seg full j n)).length 4 false, .bool (!noP x0 y0 (seg full j n))]) [.r .msg (restF leftL x0 y0 (seg full j n)) true 31]))) := by
  refine law_of C Y3 (fun _ => none) rfl rfl (fun n hn p _ ld e => by cases e) fun z hz => ?_
  refine Eq.trans ?_ hz
  show (T19 j n c ex x0 y0 full sp el).ev = (R.Tree.br (Nat.beq (restF leftL x0 y0 (seg full j n)).length 0) (.ok (R.DV.tup [valM (firstM x0 y0 (seg full j n) zeroM), .nils, .bool (!noP x0 y0 (seg full j n))]) (mkD [DO.r .msg full sp el] 1))
    (.ok (R.DV.tup [valM (firstM x0 y0 (seg full j n) zeroM), .rs 1 0 (restF leftL x0 y0 (seg full j n)).length (restF leftL x0 y0 (seg full j n)).length 4 false, .bool (!noP x0 y0 (seg full j n))]) (mkD [DO.r .msg full sp el, DO.r .msg (restF leftL x0 y0 (seg full j n)) true 31] 1))).ev
  have hl := seg_len p1
  have hok : okG full j n = true := okG_iff.2 ⟨p1, p2⟩
  cases h : noP x0 y0 (seg full j n) with
  | true =>
    obtain ⟨e1, e2⟩ := no_first leftL (seg full j n) zeroM h
    rw [e1, e2, hl]
    have hb : Nat.beq n 0 = false := by cases n with | zero => exact absurd rfl p0 | succ m => rfl
    rw [hb]
    have hck : R.Tree.cks p19k (T19 j n c ex x0 y0 full sp el) = true := by
      rw [c19k, hok, h, hb]; rfl
    rw [R.Tree.ev_go _ _ hck, l19k]; rfl
  | false =>
    obtain ⟨i, hi, hix, hpo, hf, hr, hlg, lhd, llf, ltl, hz, hsz, hrep⟩ := parts19 p1 p2 h
    have hlen : (restF leftL x0 y0 (seg full j n)).length = (hd19 j n x0 y0 full).length + ((lf19 j n x0 y0 full).length + (tl19 j n x0 y0 full).length) := by
      rw [hr, List.length_append, List.length_append]
    cases hb : Nat.beq (restF leftL x0 y0 (seg full j n)).length 0 with
    | true =>
      have hb := Nat.eq_of_beq_eq_true hb
      exact w19n ex sp el p1 p2 p3 h (by omega) (by omega) (by omega)
    | false =>
      have hb : (restF leftL x0 y0 (seg full j n)).length ≠ 0 := fun e => by rw [e] at hb; cases hb
      by_cases h0 : (hd19 j n x0 y0 full).length = 0 <;> by_cases h1 : (lf19 j n x0 y0 full).length = 0 <;> by_cases h2 : (tl19 j n x0 y0 full).length = 0
      · omega
      · exact w19r3 ex sp el p1 p2 p3 h h0 h1 h2
      · exact w19r5 ex sp el p1 p2 p3 h h0 h1 h2
      · exact w19r1 ex sp el p1 p2 p3 h h0 h1 h2
      · exact w19r6 ex sp el p1 p2 p3 h h0 h1 h2
      · exact w19r2 ex sp el p1 p2 p3 h h0 h1 h2
      · exact w19r4 ex sp el p1 p2 p3 h h0 h1 h2
      · exact w19r0 ex sp el p1 p2 p3 h h0 h1 h2
def outF (x y : Txt) (l : List Msg) : RD := .v (.tup [valM (firstM x y l zeroM), .ns 1 (restF leftL x y l).length 4, .bool (!noP x y l)]) [.rn .msg (restF leftL x y l) 31]
theorem law19s (j n c : Nat) (ex : Bool) (x0 y0 : Txt) (full : List Msg) (sp : Bool) (el : R.EL) (p1 : j + n ≤ full.length) (p2 : n < 99) (p3 : n ≤ c) (p0 : n ≠ 0) :
    LawOk C.G C.O C.tab 19 121 [.r .msg full sp el] [.rs 0 j n c 4 ex, .str x0, .str y0] (.need true (outF x0 y0 (seg full j n))) :=
  law_sn3 (k := .msg) (r := restF leftL x0 y0 (seg full j n)) (el := 31) (fun o ho L L' => by
    rw [List.mem_singleton] at ho
    subst ho; rfl) (fun _ _ => rfl) (fun _ _ => rfl) (law19b j n c ex x0 y0 full sp el p1 p2 p3 p0)
theorem law19z (j c : Nat) (ex : Bool) (x0 y0 : Txt) (full : List Msg) (sp : Bool) (el : R.EL) (p1 : j ≤ full.length) :
    LawOk C.G C.O C.tab 19 121 [.r .msg full sp el] [.rs 0 j 0 c 4 ex, .str x0, .str y0] (.v (.tup [valM zeroM, .rs 1 0 0 0 4 true, .bool false]) [.r .msg [] false 31]) := by
  refine law_of C Y3 (fun _ => none) rfl rfl (fun n hn p _ ld e => by cases e) fun z hz => ?_
  refine Eq.trans ?_ hz
  show (T19 j 0 c ex x0 y0 full sp el).ev = _
  have hok : okG full j 0 = true := okG_iff.2 ⟨p1, by omega⟩
  have h : noP x0 y0 (seg full j 0) = true := rfl
  have hck : R.Tree.cks p19z (T19 j 0 c ex x0 y0 full sp el) = true := by
    rw [c19z, hok, h]; rfl
  rw [R.Tree.ev_go _ _ hck, l19z]; rfl
theorem law19n (x0 y0 : Txt) : LawOk C.G C.O C.tab 19 121 [] [.nils, .str x0, .str y0] (.v (.tup [valM zeroM, .nils, .bool false]) []) := by
  refine law_of C Y3 (fun _ => none) rfl rfl (fun n hn p _ ld e => by cases e) fun z hz => ?_
  refine Eq.trans ?_ hz
  kernel_rfl
def outH19 (full : List Msg) (j n c : Nat) (x y : Txt) : RD := .need (ok19 full j n c) (.br (Nat.beq n 0) (.v (.tup [valM zeroM, .rs 1 0 0 0 4 true, .bool false]) [.r .msg [] false 31]) (outF x y (seg full j n)))
theorem lawH19 (j n c : Nat) (ex : Bool) (x0 y0 : Txt) (full : List Msg) (sp : Bool) (el : R.EL) : LawOk C.G C.O C.tab 19 121 [.r .msg full sp el] [.rs 0 j n c 4 ex, .str x0, .str y0] (outH19 full j n c x0 y0) := by
  refine law_need fun hp => law_br (fun h => ?_) (fun h => ?_)
  all_goals
    simp only [ok19, decide_eq_true_eq] at hp
    obtain ⟨p1, p2, p3⟩ := hp
  · have h := Nat.eq_of_beq_eq_true h
    subst h
    exact law19z j c ex x0 y0 full sp el p1
  · exact law_trim (law19s j n c ex x0 y0 full sp el p1 p2 p3 (fun e => by rw [e] at h; cases h)) rfl
/-- .. of a slice that may be nil -/
theorem law19o (x0 y0 : Txt) (b : List Msg) (hb : b.length < 99) : LawOk C.G C.O C.tab 19 121 [.rn .msg b 31] [.ns 0 b.length 4, .str x0, .str y0] (.need true (outF x0 y0 b)) := by
  refine law_as3 (k := .msg) (k' := .msg) (r := b) (r' := restF leftL x0 y0 b) (el := 31) (el' := 31) (fun _ _ => rfl) (fun _ _ => rfl) (fun _ _ => rfl) (fun h0 => ?_) (fun h0 => ?_)
  · have := law19s 0 b.length b.length false x0 y0 b true 31 (by omega) hb (Nat.le_refl _) h0
    rw [show seg b 0 b.length = b by unfold seg; rw [List.drop_zero, List.take_length]] at this
    exact this
  · have e : b = [] := List.length_eq_zero_iff.1 h0
    subst e
    exact ⟨rfl, law_need fun _ => law19n x0 y0⟩
def gH19 : List R.DV → List R.DO → Option RD := fun l ao => match l, ao with
  | [.rs 0 j n c 4 ex, .str x, .str y], [.r .msg full sp el] => some (outH19 full j n c x y)
  | [.ns 0 n 4, .str x, .str y], [.rn .msg b 31] => some (.need (Nat.beq n b.length && Nat.blt n 99) (outF x y b))
  | [.nils, .str x, .str y], [] => some (.v (.tup [valM zeroM, .nils, .bool false]) [])
  | _, _ => none
theorem gH19_ok (l : List R.DV) (ao : List R.DO) (out : RD) (h : gH19 l ao = some out) : LawOk C.G C.O C.tab 19 121 ao l out := by
  unfold gH19 at h
  split at h
  · cases h; exact lawH19 _ _ _ _ _ _ _ _ _
  · cases h
    refine law_need fun hp => ?_
    simp only [Bool.and_eq_true] at hp
    obtain ⟨h1, h2⟩ := hp
    have h1 := Nat.eq_of_beq_eq_true h1
    subst h1
    have h2 := Nat.le_of_ble_eq_true h2
    exact law_trim (law19o _ _ _ h2) rfl
  · cases h; exact law19n _ _
  · cases h
end
end Go.Vm.YtkjjpmbpjfmbcaaGreatDoor
