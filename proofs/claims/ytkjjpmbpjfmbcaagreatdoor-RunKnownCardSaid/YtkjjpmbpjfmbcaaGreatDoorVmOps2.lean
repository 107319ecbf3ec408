/-
  Each operation of the model does what the evaluator says: arithmetic, texts, parts of values.
-/
import Derived.Test.YtkjjpmbpjfmbcaaGreatDoorVmOps1
set_option linter.unusedVariables false
set_option linter.unusedSimpArgs false
namespace Go.Vm

/-- where a run stands -/
structure Cx (P : Program) (ρ : Rho) (h : H) (w : World) (e : T V) (a : Act) : Prop where
  r : HRel ρ h w
  wh : wfh h
  we : wfe h.n e
  er : ERel ρ h e a.tmps
  gr : GRel P.globals.size ρ h

section
variable {P : Program} {ρ : Rho} {h : H} {w : World} {e : T V} {a : Act} {o : Oper}

theorem Cx.opd (c : Cx P ρ h w e a) {x : Operand} {y : Opd} (ho : opdOf P x = some y) : VRel ρ h (opd e y) (a.eval x) := opd_rel c.er c.gr ho

theorem sim_move (c : Cx P ρ h w e a) {x : Operand} {y : Opd} (hop : o.op = .move x ∨ o.op = .assign x) (hy : opdOf P x = some y) : OpSim P ρ h w a o (Vm.opd e y) h :=
  opsim_val c.r (by rcases hop with hop | hop <;> simp [execOp, hop]) (c.opd hy)

theorem sim_pick (c : Cx P ρ h w e a) {x y z : Operand} {x' y' z' : Opd} (hop : o.op = .pick x y z) (hx : opdOf P x = some x') (hy : opdOf P y = some y') (hz : opdOf P z = some z')
    {v : V} {h' : H} (hs : sPick h (Vm.opd e y') (Vm.opd e z') (Vm.opd e x') = .ok v h') : OpSim P ρ h w a o v h' := by
  have rx := c.opd hx
  unfold sPick at hs
  split at hs
  · rename_i hb
    rw [hb] at rx
    injection hs with h1 h2; subst h1 h2
    exact opsim_val c.r (by simp [execOp, hop, vrel_bool rx, asBool]) (c.opd hy)
  · rename_i hb
    rw [hb] at rx
    injection hs with h1 h2; subst h1 h2
    exact opsim_val c.r (by simp [execOp, hop, vrel_bool rx, asBool]) (c.opd hz)
  · cases hs

theorem sim_un (c : Cx P ρ h w e a) {op : UnOp} {t : Nat} {x : Operand} {x' : Opd} (hop : o.op = .unOp op t x) (hx : opdOf P x = some x')
    {v : V} (hs : un op (Vm.opd e x') = some v) : OpSim P ρ h w a o v h := by
  have rx := c.opd hx
  unfold un at hs
  split at hs
  · rename_i hb; rw [hb] at rx; simp only [Option.some.injEq] at hs; subst hs
    exact opsim_val c.r (by simp [execOp, hop, vrel_int rx, Op.unary, Op.intArith]) (.int _ _)
  · rename_i hb; rw [hb] at rx; simp only [Option.some.injEq] at hs; subst hs
    exact opsim_val c.r (by simp [execOp, hop, vrel_int rx, Op.unary, Op.intBits]) (.int _ _)
  · rename_i hb; rw [hb] at rx; simp only [Option.some.injEq] at hs; subst hs
    exact opsim_val c.r (by simp [execOp, hop, vrel_bool rx, Op.unary]) (.bool _)
  · cases hs

theorem run_eqGuard_plain (op : BinOp) (t : TypeId) (x y : Operand) (u v : Value) (w : World) (h1 : ∀ cs, u ≠ .agg cs) (h2 : u ≠ .nilIface) : (eqGuard op t x y u v).run P w = .ok () w := by
  unfold eqGuard
  cases op <;> (first | rfl | (simp only [Bool.not_true, Bool.false_eq_true, if_false]; split <;> first | exact absurd rfl h2 | exact absurd rfl (h1 _) | rfl))

theorem run_intBin (op : BinOp) (k : IntKind) (m n : Int) (t : TypeId) (w : World) {v : V} (hop : op ≠ .shl) (hop' : op ≠ .shr) (hs : intBin op k m n = some v) :
    ∃ v', (binOp op t (.int k m) (.int k n)).run P w = .ok v' w ∧ VRel ρ h v v' := by
  cases op <;> simp only [intBin, Option.some.injEq, reduceCtorEq] at hs <;> (try (first | exact absurd rfl hop | exact absurd rfl hop'))
  case add => subst hs; exact ⟨_, by simp [binOp, Op.intArith] , .int _ _⟩
  case sub => subst hs; exact ⟨_, by simp [binOp, Op.intArith] , .int _ _⟩
  case mul => subst hs; exact ⟨_, by simp [binOp, Op.intArith] , .int _ _⟩
  case quo =>
    split at hs
    · cases hs
    · rename_i hz
      simp only [Option.some.injEq] at hs; subst hs
      exact ⟨_, by simp [binOp, Op.intDiv, hz] , .int _ _⟩
  case rem =>
    split at hs
    · cases hs
    · rename_i hz
      simp only [Option.some.injEq] at hs; subst hs
      exact ⟨_, by simp [binOp, Op.intDiv, hz] , .int _ _⟩
  case and => subst hs; exact ⟨_, by simp only [binOp, Op.intBits, ne_eq, not_true_eq_false, if_false]; rfl, .int _ _⟩
  case or => subst hs; exact ⟨_, by simp only [binOp, Op.intBits, ne_eq, not_true_eq_false, if_false]; rfl, .int _ _⟩
  case xor => subst hs; exact ⟨_, by simp only [binOp, Op.intBits, ne_eq, not_true_eq_false, if_false]; rfl, .int _ _⟩
  case andNot => subst hs; exact ⟨_, by simp only [binOp, Op.intBits, ne_eq, not_true_eq_false, if_false]; rfl, .int _ _⟩
  case eql => subst hs; exact ⟨_, by simp [binOp, Op.intCmp] , .bool _⟩
  case neq => subst hs; exact ⟨_, by simp [binOp, Op.intCmp] , .bool _⟩
  case lss => subst hs; exact ⟨_, by simp [binOp, Op.intCmp] , .bool _⟩
  case leq => subst hs; exact ⟨_, by simp [binOp, Op.intCmp] , .bool _⟩
  case gtr => subst hs; exact ⟨_, by simp [binOp, Op.intCmp] , .bool _⟩
  case geq => subst hs; exact ⟨_, by simp [binOp, Op.intCmp] , .bool _⟩

theorem run_shiftBin (op : BinOp) (hop : op = .shl ∨ op = .shr) (k k' : IntKind) (m n : Int) (t : TypeId) (w : World) {v : V} (hs : shiftBin op k m n = some v) :
    ∃ v', (binOp op t (.int k m) (.int k' n)).run P w = .ok v' w ∧ VRel ρ h v v' := by
  unfold shiftBin at hs
  split at hs
  · cases hs
  · rename_i hz
    rcases hop with rfl | rfl <;> (simp only [Option.some.injEq] at hs; subst hs)
    · exact ⟨_, by simp [binOp, Op.shift, hz] , .int _ _⟩
    · exact ⟨_, by simp [binOp, Op.shift, hz] , .int _ _⟩

theorem bytes_toList (s : ByteArray) : s.toList = s.data.toList := ByteArray.toList_eq ..

theorem run_strBin (op : BinOp) (s u : ByteArray) (t : TypeId) (w : World) {v : V} (hs : strBin op s.data.toList.length (numOf s.data.toList) u.data.toList.length (numOf u.data.toList) = some v) :
    ∃ v', (binOp op t (.string s) (.string u)).run P w = .ok v' w ∧ VRel ρ h v v' := by
  have hb : binOp op t (.string s) (.string u) = Op.stringOp op s u := by cases op <;> rfl
  rw [hb]
  unfold Op.stringOp
  simp only [bytes_toList]
  unfold strBin at hs
  rw [strEq_numOf, strLt_numOf] at hs
  cases op <;> simp only [Option.some.injEq, reduceCtorEq] at hs <;> first
    | (subst hs; exact ⟨_, rfl, .bool _⟩)
    | skip
  split at hs
  · rename_i hle
    simp only [Option.some.injEq] at hs
    subst hs
    have hn : ¬ (((s.size + u.size : Nat) : Int) > IntKind.i64.max) := by
      have : IntKind.i64.max = 9223372036854775807 := rfl
      have h1 : s.data.toList.length = s.size := rfl
      have h2 : u.data.toList.length = u.size := rfl
      rw [this]; omega
    refine ⟨.string (s ++ u), by show Sem.run P (if _ then _ else _) w = _; rw [if_neg hn]; rfl, ?_⟩
    rw [strCat_numOf]
    have := VRel.str (ρ := ρ) (h := h) (s ++ u)
    have e : (s ++ u).data.toList = s.data.toList ++ u.data.toList := by simp
    rw [e, List.length_append] at this
    exact this
  · cases hs

theorem run_fltBin (op : BinOp) (x y : Nat) (t : TypeId) (w : World) {v : V} (hs : fltBin op x y = some v) :
    ∃ v', (binOp op t (.float .f64 x) (.float .f64 y)).run P w = .ok v' w ∧ VRel ρ h v v' := by
  unfold fltBin at hs
  cases op <;> simp only [Option.some.injEq, reduceCtorEq, Option.map_eq_some_iff] at hs
  case add => obtain ⟨z, hz, rfl⟩ := hs; exact ⟨_, by simp [binOp, Op.floatArith, hz] , .flt _⟩
  case sub => obtain ⟨z, hz, rfl⟩ := hs; exact ⟨_, by simp [binOp, Op.floatArith, hz] , .flt _⟩
  case mul => obtain ⟨z, hz, rfl⟩ := hs; exact ⟨_, by simp [binOp, Op.floatArith, hz] , .flt _⟩
  case eql => subst hs; exact ⟨_, by simp only [binOp, Op.floatCmp, ne_eq, not_true_eq_false, if_false]; rfl, .bool _⟩
  case neq => subst hs; exact ⟨_, by simp only [binOp, Op.floatCmp, ne_eq, not_true_eq_false, if_false]; rfl, .bool _⟩

theorem sim_bin (c : Cx P ρ h w e a) {op : BinOp} {t yt : Nat} {x y : Operand} {x' y' : Opd} (hop : o.op = .binOp op t x y yt) (hx : opdOf P x = some x') (hy : opdOf P y = some y')
    {v : V} (hs : bin op (Vm.opd e x') (Vm.opd e y') = some v) : OpSim P ρ h w a o v h := by
  have rx := c.opd hx
  have ry := c.opd hy
  have key : ∀ u u' v', a.eval x = u → a.eval y = u' → (∀ cs, u ≠ .agg cs) → u ≠ .nilIface → (binOp op t u u').run P w = .ok v' w → VRel ρ h v v' → OpSim P ρ h w a o v h := by
    intro u u' v' hu hu' h1 h2 hr hv
    refine opsim_val c.r (v' := v') ?_ hv
    simp [execOp, hop, hu, hu', run_eqGuard_plain op t x y u u' w h1 h2, hr]
  unfold bin at hs
  split at hs
  · rename_i k m k' n e1 e2
    rw [e1] at rx; rw [e2] at ry
    split at hs
    · obtain ⟨v', hr, hv⟩ := run_shiftBin (P := P) (ρ := ρ) (h := h) .shl (.inl rfl) k k' m n t w hs
      exact key _ _ v' (vrel_int rx) (vrel_int ry) (by simp) (by simp) hr hv
    · obtain ⟨v', hr, hv⟩ := run_shiftBin (P := P) (ρ := ρ) (h := h) .shr (.inr rfl) k k' m n t w hs
      exact key _ _ v' (vrel_int rx) (vrel_int ry) (by simp) (by simp) hr hv
    · rename_i h1 h2
      split at hs
      · rename_i hk
        subst hk
        obtain ⟨v', hr, hv⟩ := run_intBin (P := P) (ρ := ρ) (h := h) op k m n t w h1 h2 hs
        exact key _ _ v' (vrel_int rx) (vrel_int ry) (by simp) (by simp) hr hv
      · cases hs
  · rename_i e1 e2
    rw [e1] at rx; rw [e2] at ry
    obtain ⟨s, hs1, hs2, hs3⟩ := vrel_str rx
    obtain ⟨u, hu1, hu2, hu3⟩ := vrel_str ry
    rw [hs2, hs3, hu2, hu3] at hs
    obtain ⟨v', hr, hv⟩ := run_strBin (P := P) (ρ := ρ) (h := h) op s u t w hs
    exact key _ _ v' hs1 hu1 (by simp) (by simp) hr hv
  · rename_i e1 e2
    rw [e1] at rx; rw [e2] at ry
    obtain ⟨v', hr, hv⟩ := run_fltBin (P := P) (ρ := ρ) (h := h) op _ _ t w hs
    exact key _ _ v' (vrel_flt rx) (vrel_flt ry) (by simp) (by simp) hr hv
  · cases hs

theorem sim_cvi (c : Cx P ρ h w e a) {s d : Nat} {x : Operand} {x' : Opd} {k k0 : IntKind} (hop : o.op = .convert s d x) (hx : opdOf P x = some x') (hsu : P.underlying s = some (.int k0)) (hdu : P.underlying d = some (.int k))
    {v : V} {h' : H} (hs : sCvi h k (Vm.opd e x') = .ok v h') : OpSim P ρ h w a o v h' := by
  have rx := c.opd hx
  unfold sCvi at hs
  split at hs
  · rename_i hb; rw [hb] at rx
    injection hs with h1 h2; subst h1 h2
    exact opsim_val c.r (by simp [execOp, hop, vrel_int rx, convert, run_underlying hsu, run_underlying hdu, Conv.intToInt] ) (.int _ _)
  · cases hs

theorem sim_cvs (c : Cx P ρ h w e a) {s d : Nat} {x : Operand} {x' : Opd} (hop : o.op = .convert s d x) (hx : opdOf P x = some x') (hsu : P.underlying s = some .string) (hdu : P.underlying d = some .string)
    {v : V} {h' : H} (hs : sCvs h (Vm.opd e x') = .ok v h') : OpSim P ρ h w a o v h' := by
  have rx := c.opd hx
  unfold sCvs at hs
  split at hs
  · rename_i hb; rw [hb] at rx
    injection hs with h1 h2; subst h1 h2
    obtain ⟨s, hs1, _⟩ := vrel_str rx
    exact opsim_val c.r (by simp [execOp, hop, hs1, convert, run_underlying hsu, run_underlying hdu] ) (hs1 ▸ rx)
  · cases hs

theorem sim_mki (c : Cx P ρ h w e a) {t : Nat} {x : Operand} {x' : Opd} {d : TypeDesc} (hop : o.op = .makeInterface t x) (hx : opdOf P x = some x') (hu : P.underlying t = some d) (hd : ∀ ms, d ≠ .interface ms) :
    OpSim P ρ h w a o (.ifc t (Vm.opd e x')) h := by
  refine opsim_val (v' := .iface t (a.eval x)) c.r ?_ (.ifc (c.opd hx))
  simp only [execOp, hop, Sem.run_bind, Instr.makeInterface, run_underlying hu, Result.andThen_ok]
  rfl

theorem sim_mkf (c : Cx P ρ h w e a) {f : Nat} {caps : Array Operand} {l : List Opd} (hop : o.op = .makeFunc (.func f) #[] caps) (hl : opdsOf P caps.toList = some l) :
    OpSim P ρ h w a o (.fn f (l.map (Vm.opd e))) h := by
  refine opsim_val (v' := .func (.func f) #[] (caps.map a.eval)) c.r ?_ (.fn ?_)
  · simp [execOp, hop, Instr.makeFunc]
  · have := opds_rel c.er c.gr hl
    simpa using this

theorem sim_ext (c : Cx P ρ h w e a) {i : Nat} {x : Operand} {x' : Opd} (hop : o.op = .extract x i) (hx : opdOf P x = some x') {v : V} {h' : H} (hs : sExt h i (Vm.opd e x') = .ok v h') : OpSim P ρ h w a o v h' := by
  have rx := c.opd hx
  unfold sExt at hs
  split at hs
  · rename_i hb; rw [hb] at rx
    obtain ⟨cs, hcs, hr⟩ := vrel_tup rx
    split at hs
    · rename_i hv
      injection hs with h1 h2; subst h1 h2
      obtain ⟨y, hy, hyr⟩ := hr.get hv
      rw [Array.getElem?_toList] at hy
      exact opsim_val c.r (by simp [execOp, hop, hcs, Instr.extract, hy] ) hyr
    · cases hs
  · cases hs

theorem natOf_rel {v : V} {n : Nat} {x : Value} (r : VRel ρ h v x) (hn : natOf v = some n) : ∃ k, x = .int k (n : Int) := by
  unfold natOf at hn
  split at hn
  · simp only [Option.some.injEq] at hn; subst hn; exact ⟨_, vrel_int r⟩
  · cases hn

theorem sim_ixt (c : Cx P ρ h w e a) {t : Nat} {x y : Operand} {x' y' : Opd} (hop : o.op = .index t x y) (hu : P.underlying t = some .string) (hx : opdOf P x = some x') (hy : opdOf P y = some y')
    {v : V} {h' : H} (hs : sIxt h (Vm.opd e x') (Vm.opd e y') = .ok v h') : OpSim P ρ h w a o v h' := by
  have rx := c.opd hx
  have ry := c.opd hy
  unfold sIxt at hs
  split at hs
  · rename_i n z k hb hk; rw [hb] at rx
    obtain ⟨s, hs1, hs2, hs3⟩ := vrel_str rx
    obtain ⟨kk, hy1⟩ := natOf_rel ry hk
    split at hs
    · rename_i hlt
      injection hs with h1 h2; subst h1 h2
      have hlt' : k < s.data.toList.length := hs2 ▸ hlt
      have hge : s[k]? = some (s.data.toList[k]) := by
        have : k < s.size := hlt'
        rw [getElem?_pos s k this]
        rfl
      refine opsim_val (v' := .int .u8 (s.data.toList[k]).toNat) c.r ?_ ?_
      · simp [execOp, hop, hs1, hy1, Instr.index, asIntOf, run_underlying hu, hge]
      · have := strAt_numOf s.data.toList k hlt'
        rw [hs2, hs3, this]
        exact .int _ _
    · cases hs
  · cases hs

end
end Go.Vm
