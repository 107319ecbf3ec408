/-
  Each operation of the model does what the evaluator says: values.
-/
import Derived.Test.YtkjjpmbpjfmbcaaGreatDoorVmRel
import Derived.Laws.StructEq
import Derived.Laws.Unary
import Derived.ChangeKeysEq
set_option linter.unusedVariables false
set_option linter.unusedSimpArgs false
namespace Go.Vm

def ERel (ρ : Rho) (h : H) (e : T V) (tm : Array Value) : Prop := ∀ i, VRel ρ h (e.get .bot i) (tm.getD i undef)

/-- a program's package-level variables: each lies in its own block, or nothing is known of it -/
def GRel (G : Nat) (ρ : Rho) (h : H) : Prop := G ≤ h.n ∧ ∀ g, g < G → (∃ N, ρ g = some ⟨g, 0, N⟩) ∨ (ρ g = none ∧ h.get g = .dead)

mutual
theorem ofValue_rel (ρ : Rho) (h : H) : ∀ (v : Value) (x : V), ofValue v = some x → VRel ρ h x v
  | .bool b, x, e => by simp only [ofValue, Option.some.injEq] at e; subst e; exact .bool b
  | .int k n, x, e => by simp only [ofValue, Option.some.injEq] at e; subst e; exact .int k n
  | .float .f64 b, x, e => by simp only [ofValue, Option.some.injEq] at e; subst e; exact .flt b
  | .float .f32 b, x, e => by simp [ofValue] at e
  | .complex _ _ _, x, e => by simp [ofValue] at e
  | .string s, x, e => by
    simp only [ofValue, Option.some.injEq] at e
    subst e
    have := VRel.str (ρ := ρ) (h := h) s
    have hs : s.data.toList.length = s.size := rfl
    rwa [hs] at this
  | .pointer none, x, e => by simp only [ofValue, Option.some.injEq] at e; subst e; exact .nil
  | .pointer (some _), x, e => by simp [ofValue] at e
  | .slice none 0 0, x, e => by simp only [ofValue, Option.some.injEq] at e; subst e; exact .nils
  | .slice none 0 (_ + 1), x, e => by simp [ofValue] at e
  | .slice none (_ + 1) _, x, e => by simp [ofValue] at e
  | .slice (some _) _ _, x, e => by simp [ofValue] at e
  | .map none, x, e => by simp only [ofValue, Option.some.injEq] at e; subst e; exact .nilm
  | .map (some _), x, e => by simp [ofValue] at e
  | .chan _, x, e => by simp [ofValue] at e
  | .func _ _ _, x, e => by simp [ofValue] at e
  | .nilFunc, x, e => by simp only [ofValue, Option.some.injEq] at e; subst e; exact .nilf
  | .nilIface, x, e => by simp only [ofValue, Option.some.injEq] at e; subst e; exact .nili
  | .iface t v, x, e => by
    simp only [ofValue] at e
    split at e
    · rename_i y hy
      simp only [Option.some.injEq] at e
      subst e
      exact .ifc (ofValue_rel ρ h v y hy)
    · cases e
  | .agg ⟨cs⟩, x, e => by
    simp only [ofValue] at e
    split at e
    · rename_i y hy
      simp only [Option.some.injEq] at e
      subst e
      exact .agg (ofValues_rel ρ h cs y hy)
    · cases e
  | .tuple ⟨cs⟩, x, e => by
    simp only [ofValue] at e
    split at e
    · rename_i y hy
      simp only [Option.some.injEq] at e
      subst e
      exact .tup (ofValues_rel ρ h cs y hy)
    · cases e
theorem ofValues_rel (ρ : Rho) (h : H) : ∀ (l : List Value) (xs : List V), ofValues l = some xs → VRels ρ h xs l
  | [], xs, e => by simp only [ofValues, Option.some.injEq] at e; subst e; exact .nil
  | v :: r, xs, e => by
    simp only [ofValues] at e
    split at e
    · rename_i y ys hy hys
      simp only [Option.some.injEq] at e
      subst e
      exact .cons (ofValue_rel ρ h v y hy) (ofValues_rel ρ h r ys hys)
    · cases e
end

section
variable {P : Program} {ρ : Rho} {h : H} {w : World} {e : T V} {a : Act}

theorem opd_rel (he : ERel ρ h e a.tmps) (hg : GRel P.globals.size ρ h) {x : Operand} {y : Opd} (ho : opdOf P x = some y) : VRel ρ h (opd e y) (a.eval x) := by
  unfold opdOf at ho
  split at ho
  · simp only [Option.some.injEq] at ho; subst ho; exact he _
  · split at ho
    · rename_i hv
      simp only [Option.some.injEq] at ho; subst ho; exact ofValue_rel ρ h _ _ hv
    · cases ho
  · split at ho
    · rename_i g hlt
      simp only [Option.some.injEq] at ho; subst ho
      rcases hg.2 g hlt with ⟨N, hN⟩ | ⟨h1, h2⟩
      · exact VRel.ptr (p := ⟨g, 0, N⟩) hN
      · exact .ptrD (Nat.lt_of_lt_of_le hlt hg.1) h1 h2
    · cases ho
  · simp only [Option.some.injEq] at ho; subst ho; exact .fn .nil

theorem opds_rel (he : ERel ρ h e a.tmps) (hg : GRel P.globals.size ρ h) : ∀ {xs : List Operand} {ys : List Opd}, opdsOf P xs = some ys → VRels ρ h (ys.map (opd e)) (xs.map a.eval)
  | [], ys, ho => by simp only [opdsOf, Option.some.injEq] at ho; subst ho; exact .nil
  | x :: r, ys, ho => by
    simp only [opdsOf] at ho
    split at ho
    · rename_i y l hy hl
      simp only [Option.some.injEq] at ho
      subst ho
      exact .cons (opd_rel he hg hy) (opds_rel he hg hl)
    · cases ho

/-- what the operation does: a value, or nothing to tell -/
def Out (P : Program) (o : Oper) (a : Act) (w : World) (v' : Value) (w' : World) : Prop :=
  (execOp a.eval o).run P w = .ok (.value v') w' ∨ ((execOp a.eval o).run P w = .ok .skip w' ∧ v' = undef)

def OpSim (P : Program) (ρ : Rho) (h : H) (w : World) (a : Act) (o : Oper) (v : V) (h' : H) : Prop :=
  ∃ v' w' ρ', Out P o a w v' w' ∧ VRel ρ' h' v v' ∧ Post ρ h w ρ' h' w'

theorem opsim_val {o : Oper} {v : V} {v' : Value} (r : HRel ρ h w) (hr : (execOp a.eval o).run P w = .ok (.value v') w) (hv : VRel ρ h v v') : OpSim P ρ h w a o v h :=
  ⟨v', w, ρ, .inl hr, hv, .refl r⟩

theorem wp_of_out {o : Oper} {v' : Value} {w' : World} {next : Act → World → Prop} {Q : Exit → Act → World → Prop} (ho : Out P o a w v' w') (hn : next (a.put o.dst v') w') : o.wp P a w next Q := by
  unfold Oper.wp
  rcases ho with ho | ⟨ho, rfl⟩
  · rw [ho]; exact hn
  · rw [ho]; exact hn

/-! inversions -/
theorem vrel_int {k : IntKind} {n : Int} {x : Value} (r : VRel ρ h (.int k n) x) : x = .int k n := by cases r; rfl
theorem vrel_bool {b : Bool} {x : Value} (r : VRel ρ h (.bool b) x) : x = .bool b := by cases r; rfl
theorem vrel_str {n y : Nat} {x : Value} (r : VRel ρ h (.str n y) x) : ∃ s : ByteArray, x = .string s ∧ n = s.data.toList.length ∧ y = numOf s.data.toList := by cases r; exact ⟨_, rfl, rfl, rfl⟩
theorem vrel_flt {b : Nat} {x : Value} (r : VRel ρ h (.flt b) x) : x = .float .f64 b := by cases r; rfl
theorem vrel_agg {l : List V} {x : Value} (r : VRel ρ h (.agg l) x) : ∃ cs : Array Value, x = .agg cs ∧ VRels ρ h l cs.toList := by cases r; exact ⟨_, rfl, by assumption⟩
theorem vrel_tup {l : List V} {x : Value} (r : VRel ρ h (.tup l) x) : ∃ cs : Array Value, x = .tuple cs ∧ VRels ρ h l cs.toList := by cases r; exact ⟨_, rfl, by assumption⟩
theorem vrel_fn {f : Nat} {l : List V} {x : Value} (r : VRel ρ h (.fn f l) x) : ∃ cs : Array Value, x = .func (.func f) #[] cs ∧ VRels ρ h l cs.toList := by cases r; exact ⟨_, rfl, by assumption⟩
theorem vrel_ifc {t : Nat} {v : V} {x : Value} (r : VRel ρ h (.ifc t v) x) : ∃ y, x = .iface t y ∧ VRel ρ h v y := by cases r; exact ⟨_, rfl, by assumption⟩
theorem vrel_nil {x : Value} (r : VRel ρ h .nil x) : x = .pointer none := by cases r; rfl
theorem vrel_nils {x : Value} (r : VRel ρ h .nils x) : x = .slice none 0 0 := by cases r; rfl
theorem vrel_nili {x : Value} (r : VRel ρ h .nili x) : x = .nilIface := by cases r; rfl
theorem vrel_nilf {x : Value} (r : VRel ρ h .nilf x) : x = .nilFunc := by cases r; rfl
theorem vrel_ptr {o i : Nat} {x : Value} (r : VRel ρ h (.ptr o i) x) (al : h.get o ≠ .dead) : ∃ p, ρ o = some p ∧ x = .pointer (some ⟨p.B, p.b + i, none⟩) := by
  cases r
  · exact ⟨_, by assumption, rfl⟩
  · contradiction
theorem vrel_sl {o i n c s : Nat} {ex : Bool} {x : Value} (r : VRel ρ h (.sl o i n c s ex) x) (al : h.get o ≠ .dead) :
    ∃ p a c', ρ o = some p ∧ x = .slice (some a) n c' ∧ n ≤ c ∧ c ≤ c' ∧ (ex = true → c = c') ∧ (0 < c' → a = ⟨p.B, p.b + i, none⟩) ∧ p.b + i + c' * s ≤ p.N := by
  cases r
  · exact ⟨_, _, _, by assumption, rfl, by assumption, by assumption, by assumption, by assumption, by assumption⟩
  · contradiction

theorem alive_ne {o : Nat} (e : alive h o = true) : h.get o ≠ .dead := by
  intro hd; unfold alive at e; rw [hd] at e; cases e

theorem vrel_cells {v : V} {l : List V} {x : Value} (r : VRel ρ h v x) (e : v.cells = some l) : VRels ρ h l x.cells.toList := by
  unfold V.cells at e
  split at e
  · simp only [Option.some.injEq] at e
    subst e
    obtain ⟨cs, rfl, hr⟩ := vrel_agg r
    exact hr
  · cases e
  · rename_i h1 h2
    simp only [Option.some.injEq] at e
    subst e
    have : x.cells = #[x] := by
      cases r <;> first | rfl | exact absurd rfl (h1 _) | exact absurd rfl h2
    rw [this]
    exact .cons r .nil

/-! types -/
theorem sizeAt_some {t n : Nat} (e : sizeAt P t = some n) : ∃ i, P.info? t = some i ∧ i.size = n := by
  unfold sizeAt at e
  split at e
  · rename_i i hi
    simp only [Option.some.injEq] at e
    exact ⟨i, hi, e⟩
  · cases e

theorem run_sizeAt {t n : Nat} (e : sizeAt P t = some n) (w : World) : (Go.sizeOf t).run P w = .ok n w := by
  obtain ⟨i, hi, rfl⟩ := sizeAt_some e
  simp [Go.sizeOf, typeInfo, hi]

theorem run_isAg {t : Nat} {b : Bool} (e : isAg P t = some b) (w : World) : (isAgg t).run P w = .ok b w := by
  unfold isAg at e
  split at e <;> simp only [Option.some.injEq, reduceCtorEq] at e <;> subst e
  · rename_i hu; simp [isAgg, run_underlying hu]
  · rename_i hu; simp [isAgg, run_underlying hu]
  · rename_i d h1 h2 hu
    simp only [isAgg, Sem.run_bind, run_underlying hu, Result.andThen_ok]
    rfl

theorem zeroOf_some {t : Nat} {z : List V} (e : zeroOf P t = some z) : ∃ i v, P.info? t = some i ∧ i.zero = some v ∧ ofValues v.cells.toList = some z ∧ z.length = i.size := by
  unfold zeroOf at e
  split at e
  · rename_i i hi
    split at e
    · rename_i v hv
      split at e
      · rename_i l hl
        split at e
        · simp only [Option.some.injEq] at e
          subst e
          exact ⟨i, v, hi, hv, hl, by assumption⟩
        · cases e
      · cases e
    · cases e
  · cases e

theorem run_zero {t : Nat} {i : TypeInfo} {v : Value} (hi : P.info? t = some i) (hv : i.zero = some v) (w : World) : (zeroValue t).run P w = .ok v w := by
  simp [zeroValue, typeInfo, hi, hv]

end
end Go.Vm
