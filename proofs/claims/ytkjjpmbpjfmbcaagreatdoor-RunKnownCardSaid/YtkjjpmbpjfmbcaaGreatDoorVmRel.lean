/-
  How the abstract heap lies in a world.
-/
import Derived.Test.YtkjjpmbpjfmbcaaGreatDoorVmAbs3
import Derived.Lib.FrozenHead
import Derived.Calls
set_option linter.unusedVariables false
set_option linter.unusedSimpArgs false
namespace Go.Vm

/-- where an abstract object lies: its block, its first cell, how many cells the block has -/
structure Pl where
  B : Nat
  b : Nat
  N : Nat

abbrev Rho := Nat → Option Pl

mutual
inductive VRel (ρ : Rho) (h : H) : V → Value → Prop
  | int (k : IntKind) (n : Int) : VRel ρ h (.int k n) (.int k n)
  | bool (b : Bool) : VRel ρ h (.bool b) (.bool b)
  | str (s : ByteArray) : VRel ρ h (.str s.data.toList.length (numOf s.data.toList)) (.string s)
  | flt (x : Nat) : VRel ρ h (.flt x) (.float .f64 x)
  | ptr {o i : Nat} {p : Pl} : ρ o = some p → VRel ρ h (.ptr o i) (.pointer (some ⟨p.B, p.b + i, none⟩))
  | ptrD {o i : Nat} {a : Option Addr} : o < h.n → ρ o = none → h.get o = .dead → VRel ρ h (.ptr o i) (.pointer a)
  | nil : VRel ρ h .nil (.pointer none)
  | sl {o i n c s : Nat} {ex : Bool} {p : Pl} {c' : Nat} {a : Addr} : ρ o = some p → n ≤ c → c ≤ c' → (ex = true → c = c') → (0 < c' → a = ⟨p.B, p.b + i, none⟩) →
      p.b + i + c' * s ≤ p.N → VRel ρ h (.sl o i n c s ex) (.slice (some a) n c')
  | slD {o i n c s : Nat} {ex : Bool} {a : Option Addr} {n' c' : Nat} : o < h.n → ρ o = none → h.get o = .dead → VRel ρ h (.sl o i n c s ex) (.slice a n' c')
  | nils : VRel ρ h .nils (.slice none 0 0)
  | nilm : VRel ρ h .nilm (.map none)
  | fn {f : Nat} {l : List V} {cs : Array Value} : VRels ρ h l cs.toList → VRel ρ h (.fn f l) (.func (.func f) #[] cs)
  | nilf : VRel ρ h .nilf .nilFunc
  | ifc {t : Nat} {v : V} {x : Value} : VRel ρ h v x → VRel ρ h (.ifc t v) (.iface t x)
  | nili : VRel ρ h .nili .nilIface
  | agg {l : List V} {cs : Array Value} : VRels ρ h l cs.toList → VRel ρ h (.agg l) (.agg cs)
  | tup {l : List V} {cs : Array Value} : VRels ρ h l cs.toList → VRel ρ h (.tup l) (.tuple cs)
  | bot (x : Value) : VRel ρ h .bot x
inductive VRels (ρ : Rho) (h : H) : List V → List Value → Prop
  | nil : VRels ρ h [] []
  | cons {v : V} {x : Value} {l : List V} {xs : List Value} : VRel ρ h v x → VRels ρ h l xs → VRels ρ h (v :: l) (x :: xs)
end

theorem VRels.length {ρ : Rho} {h : H} : ∀ {l : List V} {xs : List Value}, VRels ρ h l xs → xs.length = l.length
  | [], _, .nil => rfl
  | _ :: _, _, .cons _ t => by simp [t.length]

theorem VRels.get {ρ : Rho} {h : H} : ∀ {l : List V} {xs : List Value}, VRels ρ h l xs → ∀ {i : Nat} {v : V}, l[i]? = some v → ∃ x, xs[i]? = some x ∧ VRel ρ h v x
  | _ :: _, _, .cons hv t, 0, v, e => by simp at e; subst e; exact ⟨_, rfl, hv⟩
  | _ :: _, _, .cons hv t, i + 1, v, e => by simp at e; simpa using t.get e

theorem VRels.append {ρ : Rho} {h : H} : ∀ {a : List V} {x : List Value} {b : List V} {y : List Value}, VRels ρ h a x → VRels ρ h b y → VRels ρ h (a ++ b) (x ++ y)
  | [], _, _, _, .nil, hb => hb
  | _ :: _, _, _, _, .cons hv t, hb => .cons hv (t.append hb)

theorem VRels.take {ρ : Rho} {h : H} : ∀ {a : List V} {x : List Value} (n : Nat), VRels ρ h a x → VRels ρ h (a.take n) (x.take n)
  | [], _, _, .nil => by simp; exact .nil
  | _ :: _, _, 0, .cons _ _ => .nil
  | _ :: _, _, n + 1, .cons hv t => .cons hv (t.take n)

theorem VRels.drop {ρ : Rho} {h : H} : ∀ {a : List V} {x : List Value} (n : Nat), VRels ρ h a x → VRels ρ h (a.drop n) (x.drop n)
  | [], _, _, .nil => by simp; exact .nil
  | _ :: _, _, 0, r => r
  | _ :: _, _, n + 1, .cons _ t => t.drop n

theorem VRels.of_get {ρ : Rho} {h : H} : ∀ {l : List V} {xs : List Value}, xs.length = l.length → (∀ (i : Nat) (v : V) (x : Value), l[i]? = some v → xs[i]? = some x → VRel ρ h v x) → VRels ρ h l xs
  | [], [], _, _ => .nil
  | [], _ :: _, e, _ => by simp at e
  | _ :: _, [], e, _ => by simp at e
  | v :: l, x :: xs, e, hh => .cons (hh 0 v x rfl rfl) (VRels.of_get (by simpa using e) fun i v x a b => hh (i + 1) v x (by simpa using a) (by simpa using b))

/-- what lies frozen of a block: below fz alone; or (where a text was turned into bytes) nothing but past the end -/
def FrOk (fr : Nat × Nat) (p : Pl) : Option Nat → Prop
  | some k => fr.2 ≤ p.b + k
  | none => p.N ≤ fr.1 ∨ fr.2 ≤ p.b

def ORel (ρ : Rho) (h : H) (w : World) (p : Pl) : Obj → Prop
  | .c n t sp el fz => ∃ cs fr, w.heap[p.B]? = some (.cells cs el fr) ∧ cs.size = p.N ∧ p.b + n ≤ p.N ∧ (sp = false → p.b = 0 ∧ n = p.N) ∧
      (∀ i, i < n → ∃ v, cs[p.b + i]? = some v ∧ VRel ρ h (t.get .bot i) v) ∧ FrOk fr p fz
  | .si n x pos => ∃ s : ByteArray, w.heap[p.B]? = some (.stringIter s pos) ∧ s.data.toList.length = n ∧ numOf s.data.toList = x ∧ p.b = 0
  | _ => False

structure HRel (ρ : Rho) (h : H) (w : World) : Prop where
  lt : ∀ o p, ρ o = some p → o < h.n
  obj : ∀ o p, ρ o = some p → ORel ρ h w p (h.get o)
  inj : ∀ o o' p p', ρ o = some p → ρ o' = some p' → p.B = p'.B → o = o'

/-- what a run leaves of the world -/
structure Fr (ρ : Rho) (h : H) (ρ' : Rho) (h' : H) (w w' : World) : Prop where
  os : w'.os = w.os
  tape : w'.tape = w.tape
  output : w'.output = w.output
  size : w.heap.size ≤ w'.heap.size
  old : ∀ B, B < w.heap.size → (∀ o p, ρ o = some p → p.B = B → o < h.fl) → w'.heap[B]? = w.heap[B]?
  keep : ∀ o, o < h.n → ρ' o = ρ o ∨ (ρ' o = none ∧ h'.get o = .dead)
  new : ∀ o p, h.n ≤ o → ρ' o = some p → w.heap.size ≤ p.B ∨ ∃ o' p', h.fl ≤ o' ∧ ρ o' = some p' ∧ p'.B = p.B

theorem ORel.size {ρ : Rho} {h : H} {w : World} {p : Pl} {x : Obj} (r : ORel ρ h w p x) : p.B < w.heap.size := by
  cases x with
  | c n t sp el fz => obtain ⟨cs, fr, hg, _⟩ := r; exact (Array.getElem?_eq_some_iff.1 hg).1
  | si n x pos => obtain ⟨s, hg, _⟩ := r; exact (Array.getElem?_eq_some_iff.1 hg).1
  | m es => exact r.elim
  | dead => exact r.elim

theorem ORel.not_dead {ρ : Rho} {h : H} {w : World} {p : Pl} (r : ORel ρ h w p .dead) : False := r

theorem HRel.alive {ρ : Rho} {h : H} {w : World} (r : HRel ρ h w) {o : Nat} {p : Pl} (e : ρ o = some p) : h.get o ≠ .dead := by
  intro hd
  have := r.obj o p e
  rw [hd] at this
  exact this

theorem Fr.refl (ρ : Rho) (h : H) (w : World) (lt : ∀ o p, ρ o = some p → o < h.n) : Fr ρ h ρ h w w :=
  ⟨rfl, rfl, rfl, Nat.le_refl _, fun _ _ _ => rfl, fun _ _ => .inl rfl, fun o p ho e => absurd (lt o p e) (by omega)⟩

theorem Fr.trans {ρ : Rho} {h : H} {ρ1 : Rho} {h1 : H} {ρ2 : Rho} {h2 : H} {w w1 w2 : World} (a : Abs h h1) (b : Abs h1 h2) (x : Fr ρ h ρ1 h1 w w1) (y : Fr ρ1 h1 ρ2 h2 w1 w2) : Fr ρ h ρ2 h2 w w2 := by
  refine ⟨y.os.trans x.os, y.tape.trans x.tape, y.output.trans x.output, Nat.le_trans x.size y.size, ?_, ?_, ?_⟩
  · intro B hB hf
    rw [y.old B (Nat.lt_of_lt_of_le hB x.size) ?_, x.old B hB hf]
    intro o p ho hp
    rw [a.fl]
    by_cases hn : o < h.n
    · rcases x.keep o hn with e | ⟨e, _⟩
      · exact hf o p (e ▸ ho) hp
      · rw [e] at ho; cases ho
    · rcases x.new o p (by omega) ho with e | ⟨o', p', h1', h2', h3'⟩
      · omega
      · have := hf o' p' h2' (h3'.trans hp); omega
  · intro o ho
    rcases x.keep o ho with e | ⟨e, d⟩
    · rcases y.keep o (Nat.lt_of_lt_of_le ho a.n) with e' | ⟨e', d'⟩
      · exact .inl (e'.trans e)
      · exact .inr ⟨e', d'⟩
    · rcases y.keep o (Nat.lt_of_lt_of_le ho a.n) with e' | ⟨e', d'⟩
      · exact .inr ⟨e'.trans e, b.dead o (Nat.lt_of_lt_of_le ho a.n) d⟩
      · exact .inr ⟨e', d'⟩
  · intro o p ho hp
    by_cases hn : o < h1.n
    · rcases y.keep o hn with e | ⟨e, _⟩
      · exact x.new o p ho (e ▸ hp)
      · rw [e] at hp; cases hp
    · rcases y.new o p (by omega) hp with e | ⟨o', p', h1', h2', h3'⟩
      · exact .inl (Nat.le_trans x.size e)
      · rw [a.fl] at h1'
        by_cases hn' : o' < h.n
        · rcases x.keep o' hn' with e | ⟨e, _⟩
          · exact .inr ⟨o', p', h1', e ▸ h2', h3'⟩
          · rw [e] at h2'; cases h2'
        · rcases x.new o' p' (by omega) h2' with e | ⟨o'', p'', a1, a2, a3⟩
          · exact .inl (by omega)
          · exact .inr ⟨o'', p'', a1, a2, a3.trans h3'⟩

mutual
theorem VRel.mono {ρ : Rho} {h : H} {ρ' : Rho} {h' : H} (lt : ∀ o p, ρ o = some p → o < h.n) (hn : h.n ≤ h'.n)
    (dead : ∀ o, o < h.n → h.get o = .dead → h'.get o = .dead) (keep : ∀ o, o < h.n → ρ' o = ρ o ∨ (ρ' o = none ∧ h'.get o = .dead)) :
    ∀ {v : V} {x : Value}, VRel ρ h v x → VRel ρ' h' v x
  | _, _, .int k n => .int k n
  | _, _, .bool b => .bool b
  | _, _, .str s => .str s
  | _, _, .flt x => .flt x
  | _, _, .ptr (o := o) (p := p) e => by
    rcases keep o (lt o p e) with e' | ⟨e', d⟩
    · exact .ptr (e'.trans e)
    · exact .ptrD (Nat.lt_of_lt_of_le (lt o p e) hn) e' d
  | _, _, .ptrD (o := o) h1 h2 h3 => by
    refine .ptrD (Nat.lt_of_lt_of_le h1 hn) ?_ (dead o h1 h3)
    rcases keep o h1 with e' | ⟨e', d⟩
    · exact e'.trans h2
    · exact e'
  | _, _, .nil => .nil
  | _, _, .sl (o := o) (p := p) e h1 h2 h3 h4 h5 => by
    rcases keep o (lt o p e) with e' | ⟨e', d⟩
    · exact .sl (e'.trans e) h1 h2 h3 h4 h5
    · exact .slD (Nat.lt_of_lt_of_le (lt o p e) hn) e' d
  | _, _, .slD (o := o) h1 h2 h3 => by
    refine .slD (Nat.lt_of_lt_of_le h1 hn) ?_ (dead o h1 h3)
    rcases keep o h1 with e' | ⟨e', d⟩
    · exact e'.trans h2
    · exact e'
  | _, _, .nils => .nils
  | _, _, .nilm => .nilm
  | _, _, .fn r => .fn (VRels.mono lt hn dead keep r)
  | _, _, .nilf => .nilf
  | _, _, .ifc r => .ifc (VRel.mono lt hn dead keep r)
  | _, _, .nili => .nili
  | _, _, .agg r => .agg (VRels.mono lt hn dead keep r)
  | _, _, .tup r => .tup (VRels.mono lt hn dead keep r)
  | _, _, .bot x => .bot x
theorem VRels.mono {ρ : Rho} {h : H} {ρ' : Rho} {h' : H} (lt : ∀ o p, ρ o = some p → o < h.n) (hn : h.n ≤ h'.n)
    (dead : ∀ o, o < h.n → h.get o = .dead → h'.get o = .dead) (keep : ∀ o, o < h.n → ρ' o = ρ o ∨ (ρ' o = none ∧ h'.get o = .dead)) :
    ∀ {l : List V} {xs : List Value}, VRels ρ h l xs → VRels ρ' h' l xs
  | _, _, .nil => .nil
  | _, _, .cons a b => .cons (VRel.mono lt hn dead keep a) (VRels.mono lt hn dead keep b)
end

/-- what a run comes to -/
structure Post (ρ : Rho) (h : H) (w : World) (ρ' : Rho) (h' : H) (w' : World) : Prop where
  abs : Abs h h'
  rel : HRel ρ' h' w'
  fr : Fr ρ h ρ' h' w w'

theorem Post.refl {ρ : Rho} {h : H} {w : World} (r : HRel ρ h w) : Post ρ h w ρ h w := ⟨.refl h, r, .refl ρ h w r.lt⟩
theorem Post.trans {ρ : Rho} {h : H} {w : World} {ρ1 : Rho} {h1 : H} {w1 : World} {ρ2 : Rho} {h2 : H} {w2 : World} (x : Post ρ h w ρ1 h1 w1) (y : Post ρ1 h1 w1 ρ2 h2 w2) : Post ρ h w ρ2 h2 w2 :=
  ⟨x.abs.trans y.abs, y.rel, x.fr.trans x.abs y.abs y.fr⟩

theorem Post.vrel {ρ : Rho} {h : H} {w : World} {ρ' : Rho} {h' : H} {w' : World} (p : Post ρ h w ρ' h' w') (lt : ∀ o p, ρ o = some p → o < h.n) {v : V} {x : Value} (r : VRel ρ h v x) : VRel ρ' h' v x :=
  VRel.mono lt p.abs.n p.abs.dead p.fr.keep r
theorem Post.vrels {ρ : Rho} {h : H} {w : World} {ρ' : Rho} {h' : H} {w' : World} (p : Post ρ h w ρ' h' w') (lt : ∀ o p, ρ o = some p → o < h.n) {v : List V} {x : List Value} (r : VRels ρ h v x) : VRels ρ' h' v x :=
  VRels.mono lt p.abs.n p.abs.dead p.fr.keep r

theorem drew_rel {ρ : Rho} {h : H} {w : World} (r : HRel ρ h w) : HRel ρ h { w with drawn := w.drawn + 1 } :=
  ⟨r.lt, fun o p e => by
    have := r.obj o p e
    revert this
    cases h.get o <;> exact id, r.inj⟩

theorem drew_post {ρ : Rho} {h : H} {w : World} (r : HRel ρ h w) : Post ρ h w ρ h { w with drawn := w.drawn + 1 } :=
  ⟨.refl h, drew_rel r, ⟨rfl, rfl, rfl, Nat.le_refl _, fun _ _ _ => rfl, fun _ _ => .inl rfl, fun o p ho e => absurd (r.lt o p e) (by omega)⟩⟩

/-! ### memory -/

theorem addr_add (B o n : Nat) : (⟨B, o, none⟩ : Addr).add n = ⟨B, o + n, none⟩ := by
  unfold Addr.add; split <;> simp_all

theorem cell_of {w : World} {B j : Nat} {cs : Array Value} {el : TypeId} {fr : Nat × Nat} (hg : w.heap[B]? = some (.cells cs el fr)) : w.cell? ⟨B, j, none⟩ = cs[j]? := by
  simp [World.cell?, hg]

theorem loadN_some {h : H} {o i n : Nat} {l : List V} (e : loadN h o i n = some l) :
    ∃ m t sp el fz, h.get o = .c m t sp el fz ∧ i + n ≤ m ∧ l = readCells t i n := by
  unfold loadN at e
  split at e
  · rename_i m t sp el fz hg
    split at e
    · rename_i hc
      simp only [Option.some.injEq] at e
      exact ⟨m, t, sp, el, fz, hg, hc, e.symm⟩
    · cases e
  · cases e

/-- reading so many cells of an object -/
theorem load_sim {P : Program} {ρ : Rho} {h : H} {w : World} (r : HRel ρ h w) {o i n : Nat} {l : List V} {p : Pl} (hp : ρ o = some p) (e : loadN h o i n = some l) :
    ∃ vs : List Value, VRels ρ h l vs ∧ vs.length = n ∧ (loadCells ⟨p.B, p.b + i, none⟩ n).run P w = .ok vs.toArray w ∧ ∀ j v, vs[j]? = some v → w.cell? ⟨p.B, p.b + i + j, none⟩ = some v := by
  obtain ⟨m, t, sp, el, fz, hg, hm, rfl⟩ := loadN_some e
  have ho := r.obj o p hp
  rw [hg] at ho
  obtain ⟨cs, fr, hb, hN, hle, _, hcell, _⟩ := ho
  let vs : List Value := (List.range n).map fun j => (cs[p.b + (i + j)]?).getD undef
  have hlen : vs.length = n := by simp [vs]
  have hget : ∀ j, j < n → vs[j]? = some ((cs[p.b + (i + j)]?).getD undef) := fun j hj => by simp [vs, hj]
  have hc : ∀ j v, vs[j]? = some v → w.cell? ⟨p.B, p.b + i + j, none⟩ = some v := by
    intro j v hv
    have hj : j < n := by
      have := (List.getElem?_eq_some_iff.1 hv).1; omega
    rw [hget j hj, Option.some.injEq] at hv
    obtain ⟨x, hx, _⟩ := hcell (i + j) (by omega)
    rw [cell_of hb, Nat.add_assoc, hx]
    rw [hx] at hv
    simpa using hv
  refine ⟨vs, ?_, hlen, ?_, hc⟩
  · refine VRels.of_get (by rw [hlen, length_readCells]) ?_
    intro j v x hv hx
    have hj : j < n := by
      have := (List.getElem?_eq_some_iff.1 hx).1; omega
    rw [getElem_readCells t n i j hj, Option.some.injEq] at hv
    rw [hget j hj, Option.some.injEq] at hx
    obtain ⟨y, hy, hr⟩ := hcell (i + j) (by omega)
    rw [hy] at hx
    simp only [Option.getD_some] at hx
    subst hx
    rw [← hv]
    exact hr
  · have := run_loadCells_list (P := P) w ⟨p.B, p.b + i, none⟩ vs (fun j v hv => by rw [addr_add]; exact hc j v hv)
    rw [hlen] at this
    exact this

theorem vrel_one {ρ : Rho} {h : H} {v : V} {x : Value} (r : VRel ρ h v x) (ho : v.one = true) : x.oneCell' = true := by
  cases r <;> first | rfl | cases ho

theorem vrels_one {ρ : Rho} {h : H} : ∀ {l : List V} {xs : List Value}, VRels ρ h l xs → allOne l = true → ∀ x ∈ xs, x.oneCell' = true
  | _, _, .nil, _ => by simp
  | _, _, .cons a b, e => by
    simp only [allOne, Bool.and_eq_true] at e
    intro x hx
    rcases List.mem_cons.1 hx with rfl | hx
    · exact vrel_one a e.1
    · exact vrels_one b e.2 x hx

/-- a world in which one block has turned, the block of one object -/
theorem set_rel {ρ : Rho} {h : H} {w w' : World} (r : HRel ρ h w) {o : Nat} {p : Pl} (hp : ρ o = some p) {x : Obj} (hx : x ≠ .dead)
    (hother : ∀ B, B ≠ p.B → w'.heap[B]? = w.heap[B]?) (hself : ∀ ρ' h', (∀ v y, VRel ρ h v y → VRel ρ' h' v y) → ORel ρ' h' w' p x) : HRel ρ (h.set o x) w' := by
  have hm : ∀ v y, VRel ρ h v y → VRel ρ (h.set o x) v y := fun v y hv =>
    VRel.mono (ρ' := ρ) (h' := h.set o x) r.lt (Nat.le_refl _) (fun q _ hd => by
      rw [H.get_set]
      split
      · rename_i e; subst e; exact absurd hd (r.alive hp)
      · exact hd) (fun _ _ => .inl rfl) hv
  refine ⟨r.lt, ?_, r.inj⟩
  intro q pq hq
  rw [H.get_set]
  split
  · rename_i e
    subst e
    rw [hp, Option.some.injEq] at hq
    subst hq
    exact hself _ _ hm
  · rename_i hne
    have hB : pq.B ≠ p.B := fun e => hne (r.inj o q p pq hp hq e.symm)
    have := r.obj q pq hq
    revert this
    cases h.get q with
    | c n t sp el fz =>
      rintro ⟨cs, fr, h1, h2, h3, h4, h5, h6⟩
      exact ⟨cs, fr, (hother _ hB).trans h1, h2, h3, h4, fun i hi => let ⟨v, hv, hr⟩ := h5 i hi; ⟨v, hv, hm _ _ hr⟩, h6⟩
    | si n x pos => rintro ⟨s, h1, h2⟩; exact ⟨s, (hother _ hB).trans h1, h2⟩
    | m es => exact id
    | dead => exact id

theorem set_post {ρ : Rho} {h : H} {w w' : World} (r : HRel ρ h w) {o : Nat} {p : Pl} (hp : ρ o = some p) {x : Obj} (hx : x ≠ .dead) (hfl : h.fl ≤ o)
    (hos : w'.os = w.os) (htape : w'.tape = w.tape) (hout : w'.output = w.output) (hsize : w'.heap.size = w.heap.size)
    (hother : ∀ B, B ≠ p.B → w'.heap[B]? = w.heap[B]?) (hself : ∀ ρ' h', (∀ v y, VRel ρ h v y → VRel ρ' h' v y) → ORel ρ' h' w' p x) : Post ρ h w ρ (h.set o x) w' :=
  ⟨.set _ hfl (r.alive hp), set_rel r hp hx hother hself, ⟨hos, htape, hout, Nat.le_of_eq hsize.symm, fun B hB hf => by
    by_cases e : p.B = B
    · have := hf o p hp e; omega
    · exact hother B (fun e' => e e'.symm), fun _ _ => .inl rfl, fun q pq ho e => absurd (r.lt q pq e) (by omega)⟩⟩

theorem heap_setRow_ne (w : World) (g : Nat) (cs : Array Value) {B : Nat} (h : B ≠ g) : (w.setRow g cs).heap[B]? = w.heap[B]? := by
  simp only [World.setRow, Array.getElem?_modify]
  rw [if_neg (by omega)]

theorem size_setRow (w : World) (g : Nat) (cs : Array Value) : (w.setRow g cs).heap.size = w.heap.size := by simp [World.setRow]

theorem list_splice_get {α : Type} (cs vs : List α) (k : Nat) (h : k + vs.length ≤ cs.length) (j : Nat) :
    (cs.take k ++ vs ++ cs.drop (k + vs.length))[j]? = if k ≤ j ∧ j < k + vs.length then vs[j - k]? else cs[j]? := by
  rw [List.append_assoc, List.getElem?_append, List.length_take]
  by_cases h1 : j < k
  · rw [if_pos (by omega), List.getElem?_take, if_pos h1, if_neg (by omega)]
  · rw [if_neg (by omega), List.getElem?_append]
    have e : min k cs.length = k := by omega
    rw [e]
    by_cases h2 : j - k < vs.length
    · rw [if_pos h2, if_pos (by omega)]
    · rw [if_neg h2, if_neg (by omega), List.getElem?_drop]
      congr 1; omega

/-- writing cells of which none is frozen -/
theorem run_storeCells_free {P : Program} {B o el : Nat} {fr : Nat × Nat} {vs : List Value} {cs : Array Value} {w : World} (hg : w.heap[B]? = some (.cells cs el fr)) (hfr : fr.2 ≤ o ∨ cs.size ≤ fr.1)
    (hl : o + vs.length ≤ cs.size) (h1 : ∀ x ∈ vs, x.oneCell' = true) :
    (storeCells ⟨B, o, none⟩ vs).run P w = .ok () (w.setRow B (cs.toList.take o ++ vs ++ cs.toList.drop (o + vs.length)).toArray) := by
  rcases hfr with hfr | hfr
  · have := run_storeCells_atF P B o el fr vs 0 cs w hg (by omega) (by omega) h1
    simpa using this
  · have gen : ∀ (vs : List Value) (k : Nat) (cur : Array Value) (w : World), w.heap[B]? = some (.cells cur el fr) → cur.size = cs.size → o + k + vs.length ≤ cs.size → (∀ x ∈ vs, x.oneCell' = true) →
        (storeCells ⟨B, o, none⟩ vs k).run P w = .ok () (w.setRow B (cur.toList.take (o + k) ++ vs ++ cur.toList.drop (o + k + vs.length)).toArray) := by
      intro vs
      induction vs with
      | nil =>
        intro k cur w hg _ _ _
        simp only [storeCells, List.append_nil, List.length_nil, Nat.add_zero, List.take_append_drop, Array.toArray_toList]
        rw [setRow_self w B cur el fr hg]
        rfl
      | cons v rest ih =>
        intro k cur w hg hcur hl h1
        have hi : o + k < cur.size := by simp at hl; omega
        have hcell : w.cell? ⟨B, o + k, none⟩ = some cur[o + k] := by simp [World.cell?, hg, hi]
        have hfro : w.frozen? ⟨B, o + k, none⟩ = false := by
          obtain ⟨lo, hi'⟩ := fr
          simp only [World.frozen?, hg, Bool.and_eq_false_iff, decide_eq_false_iff_not]
          left
          simp only at hfr
          omega
        have hst : (store ((⟨B, o, none⟩ : Addr).add k) v).run P w = .ok () (w.setRow B (cur.setIfInBounds (o + k) v)) := by
          rw [addr_add, run_store P w _ v _ (h1 v (by simp)), hcell]
          simp [hfro, setCell_eq_setRow w B (o + k) cur el fr v hg]
        have ih' := ih (k + 1) (cur.setIfInBounds (o + k) v) (w.setRow B (cur.setIfInBounds (o + k) v)) (setRow_heap w B cur _ el _ hg) (by simp [hcur]) (by simp at hl ⊢; omega) (fun x hx => h1 x (by simp [hx]))
        simp only [storeCells, Sem.run_bind, hst, Result.andThen_ok, ih', setRow_setRow]
        congr 3
        have e := list_seg_step cur.toList (o + k) v rest (by simp at hl ⊢; omega)
        simpa [Array.toList_setIfInBounds, Nat.add_assoc] using e
    have := gen vs 0 cs w hg rfl (by omega) h1
    simpa using this

/-- writing a row of cells of an object -/
theorem store_sim {P : Program} {ρ : Rho} {h : H} {w : World} (r : HRel ρ h w) {o i : Nat} {l : List V} {vs : List Value} {h' : H} {p : Pl} (hp : ρ o = some p)
    (hl : VRels ρ h l vs) (e : storeN h o i l = some h') :
    ∃ w', (storeCells ⟨p.B, p.b + i, none⟩ vs).run P w = .ok () w' ∧ Post ρ h w ρ h' w' := by
  obtain ⟨m, t, sp, el, fz, hg, hm, hfz, hfl, hone, rfl⟩ := storeN_some e
  have ho := r.obj o p hp
  rw [hg] at ho
  obtain ⟨cs, fr, hb, hN, hle, hsp, hcell, hfr⟩ := ho
  have hlen := hl.length
  have hfr2 : fr.2 ≤ p.b + i ∨ cs.size ≤ fr.1 := by
    cases fz with
    | none => rcases hfr with hfr | hfr
              · exact .inr (hN ▸ hfr)
              · exact .inl (by omega)
    | some k => simp only [Option.getD_some] at hfz; have : fr.2 ≤ p.b + k := hfr; exact .inl (by omega)
  have hrun := run_storeCells_free (P := P) hb hfr2 (by rw [hlen]; omega) (vrels_one hl hone)
  refine ⟨_, hrun, ?_⟩
  refine set_post r hp (by simp) hfl rfl rfl rfl (size_setRow _ _ _) (fun B hB => heap_setRow_ne _ _ _ hB) ?_
  intro ρ' h' hv
  have hcl : p.b + i + vs.length ≤ cs.toList.length := by simp; omega
  refine ⟨_, fr, setRow_heap w p.B cs _ el fr hb, ?_, hle, hsp, ?_, hfr⟩
  · simp only [List.size_toArray, List.length_append, List.length_take, List.length_drop, Array.length_toList]; omega
  · intro j hj
    rw [get_writeCells]
    have hget : ((cs.toList.take (p.b + i) ++ vs ++ cs.toList.drop (p.b + i + vs.length)).toArray)[p.b + j]? = if i ≤ j ∧ j < i + vs.length then vs[j - i]? else cs[p.b + j]? := by
      rw [List.getElem?_toArray, list_splice_get _ _ _ hcl]
      by_cases hc : i ≤ j ∧ j < i + vs.length
      · rw [if_pos (by omega), if_pos hc]; congr 1; omega
      · rw [if_neg (by omega), if_neg hc, Array.getElem?_toList]
    rw [hget, hlen]
    split
    · rename_i hc
      have : j - i < l.length := by omega
      obtain ⟨x, hx, hr⟩ := hl.get (List.getElem?_eq_getElem this)
      exact ⟨x, hx, hv _ _ (by rw [getD_of_getElem? (List.getElem?_eq_getElem this)]; exact hr)⟩
    · obtain ⟨x, hx, hr⟩ := hcell j hj
      exact ⟨x, hx, hv _ _ hr⟩

/-- the map of a new object -/
def Rho.add (ρ : Rho) (o : Nat) (p : Pl) : Rho := fun q => if q = o then some p else ρ q

theorem push_rel {ρ : Rho} {h : H} {w w' : World} (r : HRel ρ h w) {x : Obj} {p : Pl} (hB : p.B = w.heap.size)
    (hold : ∀ B, B < w.heap.size → w'.heap[B]? = w.heap[B]?)
    (hself : ∀ ρ' h', (∀ v y, VRel ρ h v y → VRel ρ' h' v y) → ORel ρ' h' w' p x) : HRel (ρ.add h.n p) (h.push x) w' := by
  have hm : ∀ v y, VRel ρ h v y → VRel (ρ.add h.n p) (h.push x) v y := fun v y hv =>
    VRel.mono r.lt (Nat.le_succ _) (fun q hq hd => by rw [H.get_push, if_neg (by omega)]; exact hd) (fun q hq => .inl (by unfold Rho.add; rw [if_neg (by omega)])) hv
  refine ⟨?_, ?_, ?_⟩
  · intro q pq hq
    rw [H.n_push]
    unfold Rho.add at hq
    split at hq
    · omega
    · have := r.lt q pq hq; omega
  · intro q pq hq
    rw [H.get_push]
    unfold Rho.add at hq
    split at hq
    · rename_i e
      simp only [Option.some.injEq] at hq
      subst hq e
      rw [if_pos rfl]
      exact hself _ _ hm
    · rename_i hne
      rw [if_neg (fun e => hne e.symm)]
      have hs := (r.obj q pq hq).size
      have := r.obj q pq hq
      revert this
      cases h.get q with
      | c n t sp el fz =>
        rintro ⟨cs, fr, h1, h2, h3, h4, h5, h6⟩
        exact ⟨cs, fr, (hold _ hs).trans h1, h2, h3, h4, fun i hi => let ⟨v, hv, hr⟩ := h5 i hi; ⟨v, hv, hm _ _ hr⟩, h6⟩
      | si n x pos => rintro ⟨s, h1, h2⟩; exact ⟨s, (hold _ hs).trans h1, h2⟩
      | m es => exact id
      | dead => exact id
  · intro q q' pq pq' hq hq' hb
    unfold Rho.add at hq hq'
    split at hq <;> split at hq'
    · omega
    · simp only [Option.some.injEq] at hq; subst hq
      have := (r.obj q' pq' hq').size; omega
    · simp only [Option.some.injEq] at hq'; subst hq'
      have := (r.obj q pq hq).size; omega
    · exact r.inj q q' pq pq' hq hq' hb

theorem push_post {ρ : Rho} {h : H} {w w' : World} (r : HRel ρ h w) (wh : wfh h) {x : Obj} {p : Pl} (hB : p.B = w.heap.size)
    (hos : w'.os = w.os) (htape : w'.tape = w.tape) (hout : w'.output = w.output) (hsize : w.heap.size ≤ w'.heap.size)
    (hold : ∀ B, B < w.heap.size → w'.heap[B]? = w.heap[B]?)
    (hself : ∀ ρ' h', (∀ v y, VRel ρ h v y → VRel ρ' h' v y) → ORel ρ' h' w' p x) : Post ρ h w (ρ.add h.n p) (h.push x) w' :=
  ⟨.push wh.1 _, push_rel r hB hold hself, ⟨hos, htape, hout, hsize, fun B hB' _ => hold B hB', fun q hq => .inl (by unfold Rho.add; rw [if_neg (by omega)]), fun q pq ho e => by
    unfold Rho.add at e
    split at e
    · simp only [Option.some.injEq] at e; subst e; exact .inl (by omega)
    · have := r.lt q pq e; omega⟩⟩

/-- a new row of cells: the values, and whatever stands behind them -/
theorem new_post {ρ : Rho} {h : H} {w w' : World} (r : HRel ρ h w) (wh : wfh h) {l : List V} {vs rest : List Value} (hl : VRels ρ h l vs) {sp : Bool} {el : Nat} {fz : Option Nat} {fr : Nat × Nat}
    (hsp : sp = false → rest = []) (hfr : FrOk fr ⟨w.heap.size, 0, vs.length + rest.length⟩ fz)
    (hos : w'.os = w.os) (htape : w'.tape = w.tape) (hout : w'.output = w.output) (hheap : w'.heap = w.heap.push (.cells (vs ++ rest).toArray el fr)) :
    Post ρ h w (ρ.add h.n ⟨w.heap.size, 0, vs.length + rest.length⟩) (newCells h l sp el fz) w' := by
  have hlen := hl.length
  refine push_post r wh rfl hos htape hout (by rw [hheap]; simp) (fun B hB => by rw [hheap, Array.getElem?_push, if_neg (by omega)]) ?_
  intro ρ' h' hv
  refine ⟨(vs ++ rest).toArray, fr, by rw [hheap]; simp, by simp, by simp only; omega, fun e => ⟨rfl, by rw [hsp e]; simp [hlen]⟩, ?_, hfr⟩
  intro i hi
  rw [get_writeCells, if_pos (by omega)]
  obtain ⟨x, hx, hr⟩ := hl.get (List.getElem?_eq_getElem hi)
  refine ⟨x, ?_, hv _ _ (by simp only [Nat.sub_zero]; rw [getD_of_getElem? (List.getElem?_eq_getElem hi)]; exact hr)⟩
  simp only [List.getElem?_toArray, Nat.zero_add]
  rw [List.getElem?_append_left (by omega)]
  exact hx

end Go.Vm
