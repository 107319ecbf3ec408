/-
  Each operation of the model does what the evaluator says: iterators, conversions that make memory, what has no Go body.
-/
import Derived.Test.YtkjjpmbpjfmbcaaGreatDoorVmOps9
set_option linter.unusedVariables false
set_option linter.unusedSimpArgs false
namespace Go.Vm
section
variable {P : Program} {ρ : Rho} {h : H} {w : World} {e : T V} {a : Act} {o : Oper}

theorem heap_push_modify (hp : Array Go.Obj) (x : Go.Obj) (f : Go.Obj → Go.Obj) : (hp.push x).modify hp.size f = hp.push (f x) := by
  apply Array.ext_getElem?
  intro i
  simp only [Array.getElem?_modify, Array.getElem?_push]
  by_cases hi : i = hp.size
  · subst hi; simp
  · have : ¬ hp.size = i := fun e => hi e.symm
    simp [hi, this]

theorem shape_push (w : World) (cs : Array Value) (el : TypeId) (fr : Nat × Nat) : World.shape? { w with heap := w.heap.push (.cells cs el fr) } w.heap.size = some (el, cs.size) := by
  simp [World.shape?]

theorem strcells_arr (d : Array UInt8) (k : Nat) : (d.map fun y => Value.int .u8 y.toNat) ++ Array.replicate k (Value.int .u8 0) = ((d.toList.map fun y => Value.int .u8 y.toNat) ++ List.replicate k (Value.int .u8 0)).toArray := by
  apply Array.ext'
  simp

theorem sim_s2b (c : Cx P ρ h w e a) {s d el : Nat} {x : Operand} {x' : Opd} (hop : o.op = .convert s d x) (hsu : P.underlying s = some .string) (hdu : P.underlying d = some (.slice el)) (hel : P.underlying el = some (.int .u8)) (hx : opdOf P x = some x')
    {v : V} {h' : H} (hs : sS2b h el (Vm.opd e x') = .ok v h') : OpSim P ρ h w a o v h' := by
  have rx := c.opd hx
  unfold sS2b at hs
  split at hs
  · rename_i n z hb
    rw [hb] at rx
    obtain ⟨b, hb1, hb2, hb3⟩ := vrel_str rx
    injection hs with e1 e2; subst e1 e2
    subst hb2 hb3
    have hsz : b.size = b.data.toList.length := rfl
    obtain ⟨cap, hcap, hch⟩ : ∃ cap, b.data.toList.length ≤ cap ∧ (choose (.appendCap b.size 0 el)).run P w = .ok cap w.drew :=
      ⟨(Question.appendCap b.size 0 el).cut (w.tape w.drawn (.appendCap b.size 0 el)), Nat.le_add_right _ _, rfl⟩
    let vs : List Value := b.data.toList.map fun y => Value.int .u8 y.toNat
    let rest : List Value := List.replicate (cap - b.data.toList.length) (Value.int .u8 0)
    have hlen : vs.length + rest.length = cap := by simp only [vs, rest, List.length_map, List.length_replicate]; omega
    have harr : (b.data.map fun y => Value.int .u8 y.toNat) ++ Array.replicate (cap - b.size) (Value.int .u8 0) = (vs ++ rest).toArray := by
      have := strcells_arr b.data (cap - b.size)
      exact this
    have hrun : (execOp a.eval o).run P w = .ok (.value (.slice (some ⟨w.heap.size, 0, none⟩) b.data.toList.length cap)) { w.drew with heap := w.heap.push (.cells (vs ++ rest).toArray el (cap, cap + 1)) } := by
      have hconv : (Conv.stringToBytes el b).run P w = .ok (.slice (some ⟨w.heap.size, 0, none⟩) b.data.toList.length cap) { w.drew with heap := w.heap.push (.cells (vs ++ rest).toArray el (cap, cap + 1)) } := by
        unfold Conv.stringToBytes
        simp only [Sem.run_bind, hch, Result.andThen_ok, harr, newRow, run_newObj, Sem.run_pure, markStringish, run_shape]
        have hsh : World.shape? { w.drew with heap := w.drew.heap.push (.cells (vs ++ rest).toArray el) } w.drew.heap.size = some (el, cap) := by
          have := shape_push w.drew (vs ++ rest).toArray el (0, 0)
          rw [this]
          simp only [List.size_toArray, List.length_append, hlen]
        simp only [hsh, run_freeze, Result.andThen_ok]
        congr 1
        simp only [World.freeze]
        rw [if_neg (by omega)]
        have hm := heap_push_modify w.drew.heap (.cells (vs ++ rest).toArray el) (fun
          | .cells c elem (lo, hi) => .cells c elem (if lo == hi then (cap, cap + 1) else (min lo cap, max hi (cap + 1)))
          | o => o)
        simp only [World.mk.injEq, true_and, and_true]
        exact hm
      simp [execOp, hop, hb1, convert, run_underlying hsu, run_underlying hdu, run_underlying hel, hconv]
    refine ⟨_, _, ρ.add h.n ⟨w.heap.size, 0, vs.length + rest.length⟩, .inl hrun, ?_, ?_⟩
    · exact .sl (p := ⟨w.heap.size, 0, vs.length + rest.length⟩) (by simp [Rho.add]) (Nat.le_refl _) hcap (fun h => by cases h) (fun _ => rfl) (by simp only [Nat.zero_add, Nat.mul_one]; omega)
    · exact new_post c.r c.wh (strCells_rel b) (rest := rest) (fun h => by cases h) (.inl (by show vs.length + rest.length ≤ cap; omega)) rfl rfl rfl rfl
  · cases hs

theorem sim_rng (c : Cx P ρ h w e a) {t : Nat} {x : Operand} {x' : Opd} (hop : o.op = .range t x) (hu : P.underlying t = some .string) (hx : opdOf P x = some x')
    {v : V} {h' : H} (hs : sRng h (Vm.opd e x') = .ok v h') : OpSim P ρ h w a o v h' := by
  have rx := c.opd hx
  unfold sRng at hs
  split at hs
  · rename_i n z hb
    rw [hb] at rx
    obtain ⟨b, hb1, hb2, hb3⟩ := vrel_str rx
    injection hs with e1 e2; subst e1 e2
    refine ⟨.pointer (some ⟨w.heap.size, 0, none⟩), { w with heap := w.heap.push (.stringIter b 0) }, ρ.add h.n ⟨w.heap.size, 0, 0⟩, .inl ?_, ?_, ?_⟩
    · simp [execOp, hop, hb1, Instr.range, run_underlying hu]
    · exact .ptr (p := ⟨w.heap.size, 0, 0⟩) (by simp [Rho.add])
    · refine push_post c.r c.wh rfl rfl rfl rfl (by simp) (fun B hB => by simp only [Array.getElem?_push]; rw [if_neg (by omega)]) ?_
      intro ρ' h'' _
      exact ⟨b, by simp, hb2.symm, hb3.symm, rfl⟩
  · cases hs

theorem get!_toList (b : ByteArray) (i : Nat) (hi : i < b.data.toList.length) : b.get! i = b.data.toList[i] := by
  have : i < b.data.size := hi
  show b.data[i]! = _
  rw [getElem!_pos b.data i this]
  simp

theorem sim_nxt (c : Cx P ρ h w e a) {x : Operand} {x' : Opd} (hop : o.op = .next x true) (hx : opdOf P x = some x')
    {v : V} {h' : H} (hs : sNxt h (Vm.opd e x') = .ok v h') : OpSim P ρ h w a o v h' := by
  have rx := c.opd hx
  unfold sNxt at hs
  split at hs
  · rename_i q hb
    rw [hb] at rx
    split at hs
    · rename_i n z pos hg
      obtain ⟨p, hp, hxe⟩ := vrel_ptr rx (by rw [hg]; simp)
      have ho := c.r.obj _ _ hp
      rw [hg] at ho
      obtain ⟨b, b1, b2, b3, b4⟩ := ho
      rw [b4] at hxe
      have hsz : b.size = n := b2
      split at hs
      · rename_i hlt
        split at hs
        · rename_i hc
          injection hs with e1 e2; subst e1 e2
          have hlt' : pos < b.data.toList.length := by omega
          have hat : strAt n z pos = (b.data.toList[pos]).toNat := by rw [← b2, ← b3]; exact strAt_numOf _ _ hlt'
          have hdec : Utf8.decode b pos = (strAt n z pos, 1) := by
            unfold Utf8.decode
            have h0 : (b.get! (pos + 0)).toNat = strAt n z pos := by rw [Nat.add_zero, get!_toList b pos hlt', hat]
            simp only [h0]
            rw [if_pos hc.1]
          have hgo : (getObj p.B).run P w = .ok (.stringIter b pos) w := by simp [getObj, Sem.run, b1]
          have hB := (Array.getElem?_eq_some_iff.1 b1).1
          have hset : (setObj p.B (.stringIter b (pos + 1))).run P w = .ok () { w with heap := w.heap.setIfInBounds p.B (.stringIter b (pos + 1)) } := by simp [setObj, Sem.run, b1]
          have hlt2 : pos < b.size := hlt'
          refine ⟨.tuple #[.bool true, .int .i64 pos, .int .i32 (strAt n z pos)], { w with heap := w.heap.setIfInBounds p.B (.stringIter b (pos + 1)) }, ρ, .inl ?_, ?_, ?_⟩
          · simp only [execOp, hop, hxe, Instr.next, Nat.zero_add, Sem.run_bind, hgo, Result.andThen_ok, hlt2, if_true, hdec, hset, Sem.run_pure, goInt]
          · exact .tup (.cons (.bool true) (.cons (.int _ _) (.cons (.int _ _) .nil)))
          · refine set_post c.r hp (by simp) hc.2 rfl rfl rfl (by simp) (fun B hB' => by simp only [Array.getElem?_setIfInBounds]; rw [if_neg (by omega)]) ?_
            intro ρ' h'' _
            exact ⟨b, by simp [hB], b2, b3, b4⟩
        · cases hs
      · rename_i hlt
        injection hs with e1 e2; subst e1 e2
        have hgo : (getObj p.B).run P w = .ok (.stringIter b pos) w := by simp [getObj, Sem.run, b1]
        have hlt2 : ¬ pos < b.size := by omega
        refine opsim_val (v' := .tuple #[.bool false]) c.r ?_ (.tup (.cons (.bool false) .nil))
        simp only [execOp, hop, hxe, Instr.next, Nat.zero_add, Sem.run_bind, hgo, Result.andThen_ok, hlt2, if_false, Sem.run_pure]
    · cases hs
  · cases hs

theorem sim_usd (c : Cx P ρ h w e a) {cl : Call} {x : Operand} {x' : Opd} (hop : o.op = .call cl) (hcl : cl.callee = .builtin .unsafeSliceData) (har : cl.args = #[x]) (hx : opdOf P x = some x')
    {v : V} {h' : H} (hs : sUsd h (Vm.opd e x') = .ok v h') : OpSim P ρ h w a o v h' := by
  have rx := c.opd hx
  unfold sUsd at hs
  split at hs
  · rename_i hb
    rw [hb] at rx
    injection hs with e1 e2; subst e1 e2
    exact opsim_val (v' := .pointer none) c.r (by simp [execOp, hop, resolve, hcl, har, invoke, builtin, vrel_nils rx, Lib.run_unsafeSliceData_nil]) .nil
  · rename_i q i n cc s ex hb
    rw [hb] at rx
    split at hs
    · cases hs
    · rename_i hc
      injection hs with e1 e2; subst e1 e2
      have hal : alive h q = true := by
        cases ha : alive h q with
        | true => rfl
        | false => exact absurd (.inr ha) hc
      have hcc : cc ≠ 0 := fun e => hc (.inl e)
      obtain ⟨p, ad, c', hp, hxe, f1, f2, f3, f4, f5⟩ := vrel_sl rx (alive_ne hal)
      have had := f4 (by omega)
      refine opsim_val (v' := .pointer (some ⟨p.B, p.b + i, none⟩)) c.r ?_ (.ptr hp)
      subst had
      have hd := Lib.run_unsafeSliceData_row (P := P) w cl.argTypes o.type ⟨p.B, p.b + i, none⟩ n c' (by omega)
      simp [execOp, hop, resolve, hcl, har, invoke, builtin, hxe, hd]
  · cases hs

theorem liesAt_any {el : TypeId} (hc : P.cellsOf el = 1) (count off n : Nat) (hn : off + n ≤ count) : liesAt P P.depth el count off el n = true := by
  have hd : P.depth = (2 * (P.types.size + Made.depth) + 1) + 1 := rfl
  rw [hd]
  simp only [liesAt, Bool.or_eq_true]
  left
  rw [hd]
  simp [rowAt, hc, sameLayout, Nat.mod_one, hn]

theorem ust_def (ats : Array TypeId) (ty : TypeId) (p : Option Addr) (x : Value) : Builtin.unsafeString_ ats ty #[.pointer p, x] = (do
    let n ← asInt x
    let some pt := ats[0]? | stuck "unsafe.String: no argument types"
    if n < 0 then runtimePanic (.error "unsafe.String: len out of range")
    if n > IntKind.i64.max then unsupported (.unsafePointer "String: a length above the largest int")
    match p with
    | none =>
      if n = 0 then pure (.string .empty)
      else runtimePanic (.error "unsafe.String: ptr is nil and len is not zero")
    | some a =>
      if n = 0 then pure (.string .empty)
      else if ← variablesAt a (← elemOf pt) n.toNat then do
        let s ← loadBytes a .empty n.toNat
        freeze a n.toNat
        pure (.string s)
      else unsupported (.unsafePointer "String: not so many bytes at ptr")) := rfl

theorem sim_ust (c : Cx P ρ h w e a) {cl : Call} {pt el : Nat} {x y : Operand} {x' y' : Opd} (hop : o.op = .call cl) (hcl : cl.callee = .builtin .unsafeString) (h0 : cl.argTypes[0]? = some pt) (hpt : P.underlying pt = some (.pointer el)) (hsz : sizeAt P el = some 1) (har : cl.args = #[x, y]) (hx : opdOf P x = some x') (hy : opdOf P y = some y')
    {v : V} {h' : H} (hs : sUst h el (Vm.opd e x') (Vm.opd e y') = .ok v h') : OpSim P ρ h w a o v h' := by
  have rx := c.opd hx
  have ry := c.opd hy
  have hcell : P.cellsOf el = 1 := by
    obtain ⟨i, hi, h1⟩ := sizeAt_some hsz
    simp [Program.cellsOf, hi, h1]
  have hexec : ∀ v' w', (Builtin.unsafeString_ cl.argTypes o.type #[a.eval x, a.eval y]).run P w = .ok v' w' → (execOp a.eval o).run P w = .ok (.value v') w' := by
    intro v' w' hr
    simp [execOp, hop, resolve, hcl, har, invoke, builtin, hr]
  have zero : ∀ (p : Option Addr) (k : IntKind), (Builtin.unsafeString_ cl.argTypes o.type #[.pointer p, .int k 0]).run P w = .ok (.string .empty) w := by
    intro p k
    have hmax : IntKind.i64.max = 9223372036854775807 := rfl
    rw [ust_def]
    cases p with
    | none => simp [asInt, asIntOf, h0, hmax]
    | some ad => simp [asInt, asIntOf, h0, hmax]
  unfold sUst at hs
  split at hs
  · rename_i hb hn
    rw [hb] at rx
    injection hs with e1 e2; subst e1 e2
    obtain ⟨k, hk⟩ := natOf_rel ry hn
    exact opsim_val (v' := .string .empty) c.r (hexec _ _ (by rw [vrel_nil rx, hk]; exact zero none k)) (VRel.str ByteArray.empty)
  · rename_i q i k hb hn
    rw [hb] at rx
    obtain ⟨kk, hk⟩ := natOf_rel ry hn
    split at hs
    · rename_i m t sp el' fz hg
      obtain ⟨p, hp, hxe⟩ := vrel_ptr rx (by rw [hg]; simp)
      split at hs
      · rename_i hk0
        injection hs with e1 e2; subst e1 e2
        subst hk0
        exact opsim_val (v' := .string .empty) c.r (hexec _ _ (by rw [hxe, hk]; exact zero _ kk)) (VRel.str ByteArray.empty)
      · rename_i hk0
        split at hs
        · rename_i hc
          obtain ⟨hle, hfl, hel, hroom⟩ := hc
          subst hel
          split at hs
          · rename_i n z hby
            injection hs with e1 e2; subst e1 e2
            have ho := c.r.obj _ _ hp
            rw [hg] at ho
            obtain ⟨cs, fr, b1, b2, b3, b4, b5, b6⟩ := ho
            have hload : loadN h q i k = some (readCells t i k) := by unfold loadN; rw [hg]; simp [hle]
            obtain ⟨vs, v1, v2, _, v4⟩ := load_sim (P := P) c.r hp hload
            obtain ⟨bs, s1, s2, s3⟩ := bytesFrom_rel _ _ _ _ _ _ v1 hby
            have hbl : bs.length = k := by rw [← v2, s1]; simp
            have hlb := Lib.run_loadBytes (P := P) w bs ⟨p.B, p.b + i, none⟩ .empty (fun j y hj => by
              rw [addr_add]
              exact v4 j _ (by rw [s1, List.getElem?_map, hj]; rfl))
            have hk63 : k ≤ 68719476736 := (room_ok hroom).2
            have hmax : IntKind.i64.max = 9223372036854775807 := rfl
            have hvar : (variablesAt ⟨p.B, p.b + i, none⟩ el' k).run P w = .ok true w := by
              have hsh : w.shape? p.B = some (el', cs.size) := by simp [World.shape?, b1]
              have := liesAt_any (P := P) hcell (cs.size / P.cellsOf el') (p.b + i) k (by rw [hcell, Nat.div_one, b2]; omega)
              simp [variablesAt, hsh, this]
            have hrun : (Builtin.unsafeString_ cl.argTypes o.type #[.pointer (some ⟨p.B, p.b + i, none⟩), .int kk k]).run P w = .ok (.string ⟨ByteArray.empty.data ++ bs.toArray⟩) (w.freeze ⟨p.B, p.b + i, none⟩ k) := by
              have n1 : ¬ (k : Int) < 0 := by omega
              have n2 : ¬ (9223372036854775807 : Int) < (k : Int) := by omega
              have n3 : ¬ (k : Int) = 0 := by omega
              rw [hbl] at hlb
              rw [ust_def]
              simp [asInt, asIntOf, h0, hmax, n2, hk0, elemOf, run_underlying hpt, hvar, hlb]
              intro hneg
              exact absurd hneg n1
            have hw' : (w.freeze ⟨p.B, p.b + i, none⟩ k).heap[p.B]? = some (.cells cs el' (if fr.1 == fr.2 then (p.b + i, p.b + i + k) else (min fr.1 (p.b + i), max fr.2 (p.b + i + k)))) := by
              obtain ⟨lo, hi⟩ := fr
              unfold World.freeze
              rw [if_neg hk0]
              simp [Array.getElem?_modify, b1]
            refine ⟨_, _, ρ, .inl (hexec _ _ (by rw [hxe, hk]; exact hrun)), ?_, ?_⟩
            · have := VRel.str (ρ := ρ) (h := h.set q (.c m t sp el' (some (Nat.max fz (i + k))))) ⟨ByteArray.empty.data ++ bs.toArray⟩
              have e1 : (ByteArray.mk (ByteArray.empty.data ++ bs.toArray)).data.toList = bs := by simp
              rw [e1] at this
              rw [s2, s3]
              simpa using this
            · refine set_post c.r hp (by simp) hfl ?_ ?_ ?_ ?_ ?_ ?_
              · unfold World.freeze; rw [if_neg hk0]
              · unfold World.freeze; rw [if_neg hk0]
              · unfold World.freeze; rw [if_neg hk0]
              · unfold World.freeze; rw [if_neg hk0]; simp
              · intro B hB
                unfold World.freeze; rw [if_neg hk0]
                simp only [Array.getElem?_modify]
                rw [if_neg (by omega)]
              · intro ρ' h'' hv
                refine ⟨cs, _, hw', b2, b3, b4, fun j hj => let ⟨v, q1, q2⟩ := b5 j hj; ⟨v, q1, hv _ _ q2⟩, ?_⟩
                have b6' : fr.2 ≤ p.b + fz := b6
                show (if fr.1 == fr.2 then (p.b + i, p.b + i + k) else (min fr.1 (p.b + i), max fr.2 (p.b + i + k))).2 ≤ p.b + Nat.max fz (i + k)
                have hmx : Nat.max fz (i + k) = max fz (i + k) := rfl
                rw [hmx]
                split
                · show p.b + i + k ≤ _; omega
                · show max fr.2 (p.b + i + k) ≤ _; omega
          · cases hs
        · cases hs
    · cases hs
  · cases hs

/-! what has no Go body -/
theorem sim_extern (c : Cx P ρ h w e a) {cl : Call} {f : Nat} {fn : Func} {x : Operand} {en : Array Value → Sem Value} {v : V} {h' : H} {v' : Value} {w' : World} {ρ' : Rho} (hop : o.op = .call cl) (hcl : cl.callee = .value (.func f)) (hf : P.funcs[f]? = some fn) (hname : fn.name ≠ "runtime.NumGoroutine") (hb : fn.body.isSome = false)
    (hn : (Extern.findNext fn).isSome = false) (he : Extern.find fn = some en) (har : cl.args = #[x]) (hr : (en #[a.eval x]).run P w = .ok v' w') (hv : VRel ρ' h' v v') (hp : Post ρ h w ρ' h' w') : OpSim P ρ h w a o v h' := by
  refine ⟨v', w', ρ', .inl ?_, hv, hp⟩
  have hcall := run_callFunc_extern (P := P) hf (by simpa using hname) (by cases hbb : fn.body <;> simp_all) (by cases hnn : Extern.findNext fn <;> simp_all) he #[a.eval x] w
  rw [hr] at hcall
  have h1 : a.eval (.func f) = .func (.func f) #[] #[] := rfl
  simp [execOp, hop, resolve, hcl, har, Deferred.ofValue, h1, invoke, hcall]

theorem find_of_all {fn : Func} {n : String} {en : Array Value → Sem Value} (hn : fn.name = n) (h1 : Extern.allGenericRows.lookup n = none) (h2 : Extern.allTypedRows.lookup n = none) (h3 : Extern.allRows.lookup n = some en) : Extern.find fn = some en := by
  unfold Extern.find
  simp [hn, h1, h2, h3]

theorem find_of_typed {fn : Func} {n : String} {en : Array TypeId → Array TypeId → Array Value → Sem Value} (hn : fn.name = n) (h1 : Extern.allGenericRows.lookup n = none) (h2 : Extern.allTypedRows.lookup n = some en) : Extern.find fn = some (en fn.params fn.resultTypes) := by
  unfold Extern.find
  simp [hn, h1, h2]

theorem find_bits {fn : Func} (hn : fn.name = "math.Float64bits") : Extern.find fn = some Extern.MathFloatBits.float64bits :=
  find_of_all hn (by kernel_rfl) (by kernel_rfl) (by kernel_rfl)
theorem find_frombits {fn : Func} (hn : fn.name = "math.Float64frombits") : Extern.find fn = some Extern.MathFloatBits.float64frombits :=
  find_of_all hn (by kernel_rfl) (by kernel_rfl) (by kernel_rfl)
theorem find_noescape {fn : Func} (hn : fn.name = "internal/abi.NoEscape") : Extern.find fn = some Extern.AbiNoEscape.same :=
  find_of_all hn (by kernel_rfl) (by kernel_rfl) (by kernel_rfl)
theorem find_nozero {fn : Func} (hn : fn.name = "internal/bytealg.MakeNoZero") : Extern.find fn = some (Extern.BytealgMakeNoZero.makeNoZero fn.params fn.resultTypes) :=
  find_of_typed hn (by kernel_rfl) (by kernel_rfl)

theorem fbits_sim (r : HRel ρ h w) {u : V} {x : Value} (rx : VRel ρ h u x) {v : V} {h' : H} (hs : sFbits h u = .ok v h') : h' = h ∧ ∃ v', (Extern.MathFloatBits.float64bits #[x]).run P w = .ok v' w ∧ VRel ρ h v v' := by
  unfold sFbits at hs
  split at hs
  · injection hs with e1 e2; subst e1 e2
    exact ⟨rfl, _, by rw [vrel_flt rx]; rfl, .int _ _⟩
  · cases hs

theorem bitsf_sim (r : HRel ρ h w) {u : V} {x : Value} (rx : VRel ρ h u x) {v : V} {h' : H} (hs : sBitsf h u = .ok v h') : h' = h ∧ ∃ v', (Extern.MathFloatBits.float64frombits #[x]).run P w = .ok v' w ∧ VRel ρ h v v' := by
  unfold sBitsf at hs
  split at hs
  · injection hs with e1 e2; subst e1 e2
    exact ⟨rfl, _, by rw [vrel_int rx]; rfl, .flt _⟩
  · cases hs

theorem mkz_sim (r : HRel ρ h w) (wh : wfh h) {t el : Nat} {fn : Func} (hrt : fn.resultTypes.toList = [t]) (ht : P.underlying t = some (.slice el)) {u : V} {x : Value} (rx : VRel ρ h u x) {v : V} {h' : H} (hs : sMkz h el u = .ok v h') :
    ∃ v' w' ρ', (Extern.BytealgMakeNoZero.makeNoZero fn.params fn.resultTypes #[x]).run P w = .ok v' w' ∧ VRel ρ' h' v v' ∧ Post ρ h w ρ' h' w' := by
  have hr : fn.resultTypes = #[t] := by apply Array.ext'; rw [hrt]
  unfold sMkz at hs
  split at hs
  · rename_i n
    split at hs
    · rename_i hle
      injection hs with e1 e2; subst e1 e2
      obtain ⟨cs, h1, h2, _⟩ := Lib.run_makeNoZero (P := P) w fn.params t el ht n (by omega)
      have hrun : (Extern.BytealgMakeNoZero.makeNoZero fn.params fn.resultTypes #[x]).run P w = .ok (.slice (some ⟨w.heap.size, 0, none⟩) n cs.size) (w.drew.drew.alloc (.cells cs el)) := by
        rw [hr, vrel_int rx]; exact h1
      have hvs : VRels ρ h (repl [.bot] n) (cs.toList.take n) := by
        refine VRels.of_get (by rw [length_repl]; simp; omega) ?_
        intro i v x hv _
        have : v = .bot := by
          have : ∀ (n i : Nat) (v : V), (repl [.bot] n)[i]? = some v → v = .bot := by
            intro n
            induction n with
            | zero => intro i v h; simp [repl] at h
            | succ n ih =>
              intro i v h
              simp only [repl, List.cons_append, List.nil_append] at h
              cases i with
              | zero => simp at h; exact h.symm
              | succ i => exact ih i v (by simpa using h)
          exact this n i v hv
        subst this
        exact .bot _
      refine ⟨_, _, ρ.add h.n ⟨w.heap.size, 0, (cs.toList.take n).length + (cs.toList.drop n).length⟩, hrun, ?_, ?_⟩
      · refine .sl (p := ⟨w.heap.size, 0, (cs.toList.take n).length + (cs.toList.drop n).length⟩) (by simp [Rho.add]) (Nat.le_refl _) h2 (fun h => by cases h) (fun _ => rfl) ?_
        simp only [Nat.zero_add, Nat.mul_one, List.length_take, List.length_drop, Array.length_toList]
        omega
      · exact new_post r wh hvs (rest := cs.toList.drop n) (fr := (0, 0)) (fun h => by cases h) (Nat.zero_le _) rfl rfl rfl (by rw [List.take_append_drop, Array.toArray_toList]; rfl)
    · cases hs
  · cases hs

theorem sim_p2u (c : Cx P ρ h w e a) {s d t n : Nat} {x : Operand} {x' : Opd} (hop : o.op = .convert s d x) (hsu : P.underlying s = some (.pointer t)) (hdu : P.underlying d = some .unsafePointer) (hsz : sizeAt P t = some (n + 1)) (hx : opdOf P x = some x')
    {v : V} {h' : H} (hs : sP2u h (Vm.opd e x') = .ok v h') : OpSim P ρ h w a o v h' := by
  have rx := c.opd hx
  unfold sP2u at hs
  split at hs
  · rename_i q i hb
    rw [hb] at rx
    split at hs
    · rename_i m tt sp el fz hg
      split at hs
      · rename_i hlt
        injection hs with e1 e2; subst e1 e2
        obtain ⟨p, hp, hxe⟩ := vrel_ptr rx (by rw [hg]; simp)
        have ho := c.r.obj _ _ hp
        rw [hg] at ho
        obtain ⟨cs, fr, b1, b2, b3, _⟩ := ho
        have hsh : w.shape? p.B = some (el, cs.size) := by simp [World.shape?, b1]
        have hno : ¬ (cs.size ≤ p.b + i) := by omega
        refine opsim_val (v' := .pointer (some ⟨p.B, p.b + i, none⟩)) c.r ?_ (.ptr hp)
        simp [execOp, hop, hxe, convert, run_underlying hsu, run_underlying hdu, Conv.unsafePointer, Conv.seenAt, viewAt, cellsIn, hsh, run_sizeAt hsz, hno]
      · cases hs
    · cases hs
  · cases hs

theorem sim_u2p (c : Cx P ρ h w e a) {s d u n : Nat} {x : Operand} {x' : Opd} (hop : o.op = .convert s d x) (hsu : P.underlying s = some .unsafePointer) (hdu : P.underlying d = some (.pointer u)) (hsz : sizeAt P u = some (n + 1)) (hx : opdOf P x = some x')
    {v : V} {h' : H} (hs : sU2p h u (n + 1) (Vm.opd e x') = .ok v h') : OpSim P ρ h w a o v h' := by
  have rx := c.opd hx
  unfold sU2p at hs
  split at hs
  · rename_i q hb
    rw [hb] at rx
    split at hs
    · rename_i m tt el fz hg
      split at hs
      · rename_i hc
        obtain ⟨hel, hle⟩ := hc
        subst hel
        injection hs with e1 e2; subst e1 e2
        obtain ⟨p, hp, hxe⟩ := vrel_ptr rx (by rw [hg]; simp)
        have ho := c.r.obj _ _ hp
        rw [hg] at ho
        obtain ⟨cs, fr, b1, b2, b3, b4, _⟩ := ho
        obtain ⟨hb0, hbn⟩ := b4 rfl
        have hsh : w.shape? p.B = some (el, cs.size) := by simp [World.shape?, b1]
        have hcell : P.cellsOf el = n + 1 := by
          obtain ⟨i, hi, h1⟩ := sizeAt_some hsz
          simp [Program.cellsOf, hi, h1]
        have hvar : (variablesAt ⟨p.B, p.b + 0, none⟩ el 1).run P w = .ok true w := by
          have hlies : liesAt P P.depth el (cs.size / P.cellsOf el) (p.b + 0) el 1 = true := by
            have hd : P.depth = (2 * (P.types.size + Made.depth) + 1) + 1 := rfl
            rw [hd]
            simp only [liesAt, Bool.or_eq_true]
            left
            rw [hd]
            have hdiv : 1 ≤ cs.size / (n + 1) := (Nat.le_div_iff_mul_le (by omega)).2 (by omega)
            simp [rowAt, hcell, sameLayout, hb0, hdiv]
          have hlies' : liesAt P P.depth el (cs.size / P.cellsOf el) p.b el 1 = true := hlies
          simp [variablesAt, hsh, hlies']
        refine opsim_val (v' := .pointer (some ⟨p.B, p.b + 0, none⟩)) c.r ?_ (.ptr hp)
        rw [hb0] at hvar
        simp [execOp, hop, hxe, convert, run_underlying hsu, run_underlying hdu, Conv.unsafePointer, Conv.seenAt, viewAt, hsh, run_sizeAt hsz, hb0, hvar]
      · cases hs
    · cases hs
  · cases hs

end
end Go.Vm
