/-
  Each operation of the model does what the evaluator says: slices, append, copy.
-/
import Derived.Test.YtkjjpmbpjfmbcaaGreatDoorVmOps4
set_option linter.unusedVariables false
set_option linter.unusedSimpArgs false
namespace Go.Vm
section
variable {P : Program} {ρ : Rho} {h : H} {w : World} {e : T V} {a : Act} {o : Oper}

theorem oopd_some {x : Option Operand} {y : Option Opd} (ho : oopdOf P x = some y) : (x = none ∧ y = none) ∨ ∃ u v, x = some u ∧ y = some v ∧ opdOf P u = some v := by
  unfold oopdOf at ho
  split at ho
  · simp only [Option.some.injEq] at ho; exact .inl ⟨rfl, ho.symm⟩
  · split at ho
    · rename_i hv; simp only [Option.some.injEq] at ho; exact .inr ⟨_, _, rfl, ho.symm, hv⟩
    · cases ho

theorem run_sliceBound (k : IntKind) (n y : Nat) (code : BoundsCode) (w : World) (hle : n ≤ y) : (Instr.sliceBound (.int k (n : Int)) y code).run P w = .ok n w := by
  have : (0 : Int) ≤ (n : Int) ∧ (n : Int) ≤ (y : Int) := by omega
  simp [Instr.sliceBound, asIntOf, hle]

theorem bounds_some {n cc l k m : Nat} {lo hi mx : Option Opd} (hb : bounds e n cc lo hi mx = some (l, k, m)) :
    natOr e cc mx = some m ∧ natOr e n hi = some k ∧ natOr e 0 lo = some l ∧ m ≤ cc ∧ k ≤ m ∧ l ≤ k ∧ (mx.isSome = true → hi.isSome = true) := by
  unfold bounds at hb
  split at hb
  · rename_i h1 h2 h3
    split at hb
    · rename_i hc
      simp only [Option.some.injEq, Prod.mk.injEq] at hb
      obtain ⟨rfl, rfl, rfl⟩ := hb
      exact ⟨h1, h2, h3, hc.1, hc.2.1, hc.2.2.1, hc.2.2.2⟩
    · cases hb
  · cases hb

theorem bounds_sim (c : Cx P ρ h w e a) {n cc c' l k m : Nat} {lo hi mx : Option Operand} {lo' hi' mx' : Option Opd} (hlo : oopdOf P lo = some lo') (hhi : oopdOf P hi = some hi') (hmx : oopdOf P mx = some mx')
    (hb : bounds e n cc lo' hi' mx' = some (l, k, m)) (hcc : cc ≤ c') (isSlice : Bool) :
    (Instr.sliceBounds isSlice n c' (lo.map a.eval) (hi.map a.eval) (mx.map a.eval)).run P w = .ok (l, k, if mx'.isSome then m else c') w := by
  obtain ⟨h1, h2, h3, g1, g2, g3, g4⟩ := bounds_some hb
  unfold Instr.sliceBounds
  rcases oopd_some hmx with ⟨rfl, rfl⟩ | ⟨u, v, rfl, rfl, ho⟩
  · simp only [natOr, Option.some.injEq] at h1
    subst h1
    rcases oopd_some hhi with ⟨rfl, rfl⟩ | ⟨u2, v2, rfl, rfl, ho2⟩
    · simp only [natOr, Option.some.injEq] at h2
      subst h2
      rcases oopd_some hlo with ⟨rfl, rfl⟩ | ⟨u3, v3, rfl, rfl, ho3⟩
      · simp only [natOr, Option.some.injEq] at h3; subst h3; simp
      · obtain ⟨kk, hk⟩ := natOf_rel (c.opd ho3) h3
        simp [hk, run_sliceBound kk l n _ w g3]
    · obtain ⟨kk2, hk2⟩ := natOf_rel (c.opd ho2) h2
      rcases oopd_some hlo with ⟨rfl, rfl⟩ | ⟨u3, v3, rfl, rfl, ho3⟩
      · simp only [natOr, Option.some.injEq] at h3; subst h3
        simp [hk2, run_sliceBound kk2 k c' _ w (by omega)]
      · obtain ⟨kk, hk⟩ := natOf_rel (c.opd ho3) h3
        simp [hk, hk2, run_sliceBound kk2 k c' _ w (by omega), run_sliceBound kk l k _ w g3]
  · obtain ⟨kk1, hk1⟩ := natOf_rel (c.opd ho) h1
    rcases oopd_some hhi with ⟨rfl, rfl⟩ | ⟨u2, v2, rfl, rfl, ho2⟩
    · simp at g4
    · obtain ⟨kk2, hk2⟩ := natOf_rel (c.opd ho2) h2
      rcases oopd_some hlo with ⟨rfl, rfl⟩ | ⟨u3, v3, rfl, rfl, ho3⟩
      · simp only [natOr, Option.some.injEq] at h3; subst h3
        simp [hk1, hk2, run_sliceBound kk1 m c' _ w (by omega), run_sliceBound kk2 k m _ w g2]
      · obtain ⟨kk, hk⟩ := natOf_rel (c.opd ho3) h3
        simp [hk, hk1, hk2, run_sliceBound kk1 m c' _ w (by omega), run_sliceBound kk2 k m _ w g2, run_sliceBound kk l k _ w g3]

theorem extract_toList (s : ByteArray) (l k : Nat) (h : l ≤ k) : (s.extract l k).data.toList = (s.data.toList.take k).drop l := by
  have : (s.extract l k).data = s.data.extract l k := by
    simp [ByteArray.data_extract]
  rw [this, Array.toList_extract, List.extract_eq_take_drop, List.take_drop]
  congr 2; omega

theorem sim_slt (c : Cx P ρ h w e a) {t : Nat} {x : Operand} {lo hi : Option Operand} {x' : Opd} {lo' hi' : Option Opd} (hop : o.op = .slice t x lo hi none) (hu : P.underlying t = some .string) (hx : opdOf P x = some x') (hlo : oopdOf P lo = some lo') (hhi : oopdOf P hi = some hi')
    {v : V} {h' : H} (hs : sSlt h e lo' hi' (Vm.opd e x') = .ok v h') : OpSim P ρ h w a o v h' := by
  have rx := c.opd hx
  unfold sSlt at hs
  split at hs
  · rename_i n z hb
    rw [hb] at rx
    obtain ⟨s, hs1, hs2, hs3⟩ := vrel_str rx
    split at hs
    · rename_i l k m hbd
      injection hs with e1 e2; subst e1 e2
      have hsim := bounds_sim c (mx := none) (mx' := none) hlo hhi rfl hbd (Nat.le_refl _) false
      obtain ⟨_, _, _, g1, g2, g3, _⟩ := bounds_some hbd
      have hsz : s.size = n := hs2.symm
      refine opsim_val (v' := .string (s.extract l k)) c.r ?_ ?_
      · simp only [Option.map_none] at hsim
        simp [execOp, hop, hs1, Instr.sliceAt, Instr.slice, run_underlying hu, hsz, hsim]
      · have := VRel.str (ρ := ρ) (h := h) (s.extract l k)
        rw [extract_toList s l k g3] at this
        subst hs2 hs3
        rw [strSub_numOf _ _ _ g3 (by omega)]
        have hlen : ((s.data.toList.take k).drop l).length = k - l := by simp only [List.length_drop, List.length_take]; omega
        rw [hlen] at this
        exact this
    · cases hs
  · cases hs

theorem sim_sls (c : Cx P ρ h w e a) {t el s : Nat} {x : Operand} {lo hi mx : Option Operand} {x' : Opd} {lo' hi' mx' : Option Opd} (hop : o.op = .slice t x lo hi mx) (hu : P.underlying t = some (.slice el)) (hn : sizeAt P el = some s) (hx : opdOf P x = some x')
    (hlo : oopdOf P lo = some lo') (hhi : oopdOf P hi = some hi') (hmx : oopdOf P mx = some mx') {v : V} {h' : H} (hs : sSls h e s lo' hi' mx' (Vm.opd e x') = .ok v h') : OpSim P ρ h w a o v h' := by
  have rx := c.opd hx
  unfold sSls at hs
  split at hs
  · rename_i hb
    rw [hb] at rx
    split at hs
    · rename_i r hbd
      obtain ⟨l, k, m⟩ := r
      injection hs with e1 e2; subst e1 e2
      have hsim := bounds_sim c hlo hhi hmx hbd (Nat.le_refl _) true
      obtain ⟨_, _, _, g1, g2, g3, _⟩ := bounds_some hbd
      obtain rfl : m = 0 := by omega
      obtain rfl : k = 0 := by omega
      obtain rfl : l = 0 := by omega
      refine opsim_val (v' := .slice none 0 0) c.r ?_ .nils
      simp [execOp, hop, vrel_nils rx, Instr.sliceAt, Instr.slice, run_underlying hu, hsim, run_sizeAt hn]
    · cases hs
  · rename_i q i n cc s' ex hb
    rw [hb] at rx
    split at hs
    · rename_i hc
      obtain ⟨rfl, hal⟩ := hc
      split at hs
      · rename_i l k m hbd
        injection hs with e1 e2; subst e1 e2
        obtain ⟨p, ad, c', hp, hxe, f1, f2, f3, f4, f5⟩ := vrel_sl rx (alive_ne hal)
        have hsim := bounds_sim c hlo hhi hmx hbd f2 true
        obtain ⟨h1, _, _, g1, g2, g3, _⟩ := bounds_some hbd
        have hm : m ≤ (if mx'.isSome then m else c') ∧ (if mx'.isSome then m else c') ≤ c' ∧ (ex = true ∨ mx'.isSome = true → m = (if mx'.isSome then m else c')) := by
          by_cases hms : mx'.isSome = true
          · simp only [hms, if_true]; exact ⟨Nat.le_refl _, by omega, fun _ => trivial⟩
          · simp only [hms, Bool.false_eq_true, if_false, or_false]
            have : mx' = none := by simpa using hms
            subst this
            simp only [natOr, Option.some.injEq] at h1
            subst h1
            exact ⟨f2, Nat.le_refl _, f3⟩
        obtain ⟨hm1, hm2, hm3⟩ := hm
        generalize (if mx'.isSome then m else c') = m' at hsim hm1 hm2 hm3
        refine opsim_val (v' := .slice (if m' = l then some ad else some (ad.add (l * s'))) (k - l) (m' - l)) c.r ?_ ?_
        · simp only [execOp, hop, hxe, Instr.sliceAt, Instr.slice, Sem.run_bind, run_underlying hu, Result.andThen_ok, hsim, run_sizeAt hn, Sem.run_pure]
          rfl
        · by_cases hml : m' = l
          · rw [if_pos hml]
            refine .sl hp (by omega) (by omega) (fun he => ?_) (fun hlt => by omega) ?_
            · have := hm3 (by simpa using he); omega
            · have : m' - l = 0 := by omega
              rw [this, Nat.zero_mul]
              have : l * s' ≤ c' * s' := Nat.mul_le_mul_right _ (by omega)
              omega
          · rw [if_neg hml]
            refine .sl hp (by omega) (by omega) (fun he => ?_) (fun hlt => ?_) ?_
            · have := hm3 (by simpa using he); omega
            · rw [f4 (by omega), addr_add, Nat.add_assoc]
            · have e1 : l * s' + (m' - l) * s' = m' * s' := by rw [← Nat.add_mul]; congr 1; omega
              have : m' * s' ≤ c' * s' := Nat.mul_le_mul_right _ hm2
              omega
      · cases hs
    · cases hs
  · cases hs

theorem sim_slp (c : Cx P ρ h w e a) {t el s n : Nat} {x : Operand} {lo hi mx : Option Operand} {x' : Opd} {lo' hi' mx' : Option Opd} (hop : o.op = .slice t x lo hi mx)
    (hu : P.underlying t = some (.array n el) ∨ ∃ ar, P.underlying t = some (.pointer ar) ∧ P.underlying ar = some (.array n el)) (hn : sizeAt P el = some s) (hx : opdOf P x = some x')
    (hlo : oopdOf P lo = some lo') (hhi : oopdOf P hi = some hi') (hmx : oopdOf P mx = some mx') {v : V} {h' : H} (hs : sSlp h e s n lo' hi' mx' (Vm.opd e x') = .ok v h') : OpSim P ρ h w a o v h' := by
  have rx := c.opd hx
  unfold sSlp at hs
  split at hs
  · rename_i q i hb
    rw [hb] at rx
    split at hs
    · rename_i k0 t0 sp0 el0 fz0 l k m hg hbd
      split at hs
      · rename_i hle
        injection hs with e1 e2; subst e1 e2
        obtain ⟨p, hp, hxe⟩ := vrel_ptr rx (by rw [hg]; simp)
        have ho := c.r.obj _ _ hp
        rw [hg] at ho
        obtain ⟨cs, fr, _, _, hN, _⟩ := ho
        have hsim := bounds_sim c hlo hhi hmx hbd (Nat.le_refl _) false
        obtain ⟨h1, _, _, g1, g2, g3, _⟩ := bounds_some hbd
        have hm : (if mx'.isSome then m else n) = m := by
          by_cases hms : mx'.isSome = true
          · simp [hms]
          · have : mx' = none := by simpa using hms
            subst this
            simp only [natOr, Option.some.injEq] at h1
            simp [h1]
        rw [hm] at hsim
        refine opsim_val (v' := .slice (some (if m = l then ⟨p.B, p.b + i, none⟩ else (⟨p.B, p.b + i, none⟩ : Addr).add (l * s))) (k - l) (m - l)) c.r ?_ ?_
        · rcases hu with hu | ⟨ar, hu, hu'⟩
          · simp [execOp, hop, hxe, Instr.sliceAt, Instr.sureAddr, run_underlying hu, hsim, run_sizeAt hn]
          · simp [execOp, hop, hxe, Instr.sliceAt, Instr.slice, asAddr, run_underlying hu, run_underlying hu', hsim, run_sizeAt hn]
        · have hms : m * s ≤ n * s := Nat.mul_le_mul_right _ g1
          have e1 : l * s + (m - l) * s = m * s := by rw [← Nat.add_mul]; congr 1; omega
          refine .sl hp (by omega) (Nat.le_refl _) (fun _ => rfl) (fun hlt => ?_) (by omega)
          rw [if_neg (by omega), addr_add, Nat.add_assoc]
      · cases hs
    · cases hs
  · cases hs

/-! ### append, copy -/

theorem growBy_le (n : Nat) : ∀ (r c : Nat), Builtin.growBy n r c ≤ max c (n + (n + 768) / 4)
  | 0, c => by simp only [Builtin.growBy]; omega
  | r + 1, c => by
    simp only [Builtin.growBy]
    split
    · omega
    · have := growBy_le n r (c + (c + 768) / 4)
      omega

theorem nextcap_le (need cc : Nat) (h : cc < need) : Builtin.nextslicecap need cc ≤ 2 * need + 192 := by
  unfold Builtin.nextslicecap
  split
  · omega
  · split
    · omega
    · have := growBy_le need 4 cc; omega

theorem room_ok {n bytes : Nat} (h : roomFor n bytes = true) : n * bytes ≤ 68719476736 ∧ n ≤ 68719476736 := by
  unfold roomFor at h
  simp only [Bool.and_eq_true, Nat.ble_eq] at h
  exact h

theorem nextcap_room {need cc bytes : Nat} (h : cc < need) (hr : roomFor need bytes = true) : ¬ (Builtin.nextslicecap need cc * bytes > 2 ^ 48) := by
  obtain ⟨h1, h2⟩ := room_ok hr
  have hn := nextcap_le need cc h
  have hb : bytes ≤ 68719476736 := by
    have : 1 * bytes ≤ need * bytes := Nat.mul_le_mul_right _ (by omega)
    omega
  have : Builtin.nextslicecap need cc * bytes ≤ (2 * need + 192) * bytes := Nat.mul_le_mul_right _ hn
  rw [Nat.add_mul, Nat.mul_assoc] at this
  omega

theorem strCells_rel (s : ByteArray) : VRels ρ h (strCells s.data.toList.length (numOf s.data.toList)) (s.data.toList.map fun b => Value.int .u8 b.toNat) := by
  refine VRels.of_get (by simp [strCells]) ?_
  intro i v x hv hx
  rw [List.getElem?_map] at hx
  simp only [strCells, List.getElem?_map] at hv
  have hi : i < s.data.toList.length := by
    rcases Nat.lt_or_ge i s.data.toList.length with h | h
    · exact h
    · rw [List.getElem?_eq_none h] at hx; cases hx
  rw [List.getElem?_eq_getElem hi] at hx
  rw [List.getElem?_range hi] at hv
  simp only [Option.map_some, Option.some.injEq] at hx hv
  subst hx hv
  rw [strAt_numOf _ _ hi]
  exact .int _ _

/-- the elements of a source -/
theorem src_sim (r : HRel ρ h w) {s m : Nat} {v : V} {x : Value} {l : List V} (rx : VRel ρ h v x) (hs : srcCells h s v = some (m, l)) :
    ∃ vs : List Value, VRels ρ h l vs ∧ vs.length = m * s ∧ (∀ (P : Program), (Builtin.lenOf x).run P w = .ok m w) ∧
      ∀ (P : Program) (w' : World), w'.heap = w.heap → (Builtin.firstCells s m x).run P w' = .ok vs.toArray w' := by
  unfold srcCells at hs
  split at hs
  · simp only [Option.some.injEq, Prod.mk.injEq] at hs
    obtain ⟨rfl, rfl⟩ := hs
    rw [vrel_nils rx]
    exact ⟨[], .nil, by simp, fun P => rfl, fun P w' _ => rfl⟩
  · rename_i q i n cc s' ex
    split at hs
    · rename_i l' hl
      simp only [Option.some.injEq, Prod.mk.injEq] at hs
      obtain ⟨rfl, rfl⟩ := hs
      obtain ⟨_, _, _, _, _, hg, _⟩ := loadN_some hl
      obtain ⟨p, ad, c', hp, hxe, f1, f2, f3, f4, f5⟩ := vrel_sl rx (by rw [hg]; simp)
      have hload : ∀ (P : Program), ∃ vs : List Value, VRels ρ h l' vs ∧ vs.length = n * s ∧ (loadCells ⟨p.B, p.b + i, none⟩ (n * s)).run P w = .ok vs.toArray w ∧ ∀ j v, vs[j]? = some v → w.cell? ⟨p.B, p.b + i + j, none⟩ = some v := fun P => load_sim r hp hl
      obtain ⟨vs, r1, r2, _, r4⟩ := hload default
      refine ⟨vs, r1, r2, fun P => by rw [hxe]; rfl, fun P w' hw' => ?_⟩
      rw [hxe]
      simp only [Builtin.firstCells]
      by_cases hc : 0 < c'
      · rw [f4 hc]
        have := run_loadCells_list (P := P) w' ⟨p.B, p.b + i, none⟩ vs (fun j v hv => by
          rw [addr_add]
          have := r4 j v hv
          simp only [World.cell?, hw'] at this ⊢
          exact this)
        rw [r2] at this
        exact this
      · have hn : n = 0 := by omega
        subst hn
        simp only [Nat.zero_mul] at r2 ⊢
        have : vs = [] := List.length_eq_zero_iff.1 r2
        subst this
        rfl
    · cases hs
  · split at hs
    · rename_i h1
      subst h1
      simp only [Option.some.injEq, Prod.mk.injEq] at hs
      obtain ⟨rfl, rfl⟩ := hs
      obtain ⟨b, hb1, hb2, hb3⟩ := vrel_str rx
      subst hb1 hb2 hb3
      refine ⟨_, strCells_rel b, by simp, fun P => rfl, fun P w' _ => ?_⟩
      simp only [Builtin.firstCells, Sem.run_pure]
      congr 1
      have : b.extract 0 b.data.toList.length = b := by
        apply ByteArray.ext
        apply Array.ext'
        rw [extract_toList b 0 _ (Nat.zero_le _), List.drop_zero]
        exact List.take_length
      rw [this]
      apply Array.ext'
      simp
    · cases hs
  · cases hs

theorem zeroCells_size (z : Array Value) (n : Nat) : (Builtin.zeroCells z n).size = n * z.size := by simp [Builtin.zeroCells]

/-- an object is given up -/
def Rho.kill (ρ : Rho) (o : Nat) : Rho := fun q => if q = o then none else ρ q

theorem kill_post (r : HRel ρ h w) {q : Nat} {p : Pl} (hp : ρ q = some p) (hfl : h.fl ≤ q) : Post ρ h w (ρ.kill q) (h.set q .dead) w := by
  have hm : ∀ v y, VRel ρ h v y → VRel (ρ.kill q) (h.set q .dead) v y := fun v y hv =>
    VRel.mono (ρ' := ρ.kill q) (h' := h.set q .dead) r.lt (Nat.le_refl _) (fun u _ hd => by
      rw [H.get_set]; split
      · rfl
      · exact hd) (fun u _ => by
      unfold Rho.kill
      split
      · rename_i e; subst e; exact .inr ⟨rfl, by rw [H.get_set, if_pos rfl]⟩
      · exact .inl rfl) hv
  refine ⟨.set _ hfl (r.alive hp), ⟨?_, ?_, ?_⟩, ⟨rfl, rfl, rfl, Nat.le_refl _, fun _ _ _ => rfl, ?_, ?_⟩⟩
  · intro u pu hu
    unfold Rho.kill at hu
    split at hu
    · cases hu
    · exact r.lt u pu hu
  · intro u pu hu
    unfold Rho.kill at hu
    split at hu
    · cases hu
    · rename_i hne
      rw [H.get_set, if_neg (fun e => hne e.symm)]
      have := r.obj u pu hu
      revert this
      cases h.get u with
      | c n t sp el fz =>
        rintro ⟨cs, fr, h1, h2, h3, h4, h5, h6⟩
        exact ⟨cs, fr, h1, h2, h3, h4, fun i hi => let ⟨v, hv, hr⟩ := h5 i hi; ⟨v, hv, hm _ _ hr⟩, h6⟩
      | si n x pos => exact id
      | m es => exact id
      | dead => exact id
  · intro u u' pu pu' hu hu' hB
    unfold Rho.kill at hu hu'
    split at hu
    · cases hu
    · split at hu'
      · cases hu'
      · exact r.inj u u' pu pu' hu hu' hB
  · intro u _
    unfold Rho.kill
    split
    · rename_i e; subst e; exact .inr ⟨rfl, by rw [H.get_set, if_pos rfl]⟩
    · exact .inl rfl
  · intro u pu hu e
    unfold Rho.kill at e
    split at e
    · cases e
    · have := r.lt u pu e; exact absurd hu (Nat.not_le.2 this)

end
end Go.Vm
