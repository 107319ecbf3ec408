/-
  Each operation of the model does what the evaluator says: all of them, calls apart.
-/
import Derived.Test.YtkjjpmbpjfmbcaaGreatDoorVmOps10
import Derived.Test.YtkjjpmbpjfmbcaaGreatDoorVmOps6
set_option linter.unusedVariables false
set_option linter.unusedSimpArgs false
namespace Go.Vm
section
variable {P : Program} {ρ : Rho} {h : H} {w : World} {e : T V} {a : Act} {o : Oper} {call : Nat → List V → H → Res} {cp : COp} {v : V} {h' : H}

theorem give_ok {h h' : H} {x : Option V} {v : V} (e : give h x = .ok v h') : x = some v ∧ h' = h := by
  cases x with
  | none => cases e
  | some y => injection e with e1 e2; exact ⟨congrArg some e1, e2.symm⟩

theorem conv_sim (c : Cx P ρ h w e a) {s d : Nat} {x : Operand} {x' : Opd} (hop : o.op = .convert s d x) (hx : opdOf P x = some x') (hc : convOf P s d x' = some cp) (hs : step call e h cp = .ok v h') : OpSim P ρ h w a o v h' := by
  unfold convOf at hc
  split at hc
  · rename_i k0 k h1 h2
    injection hc with hc; subst hc
    exact sim_cvi c hop hx h1 h2 hs
  · rename_i h1 h2
    injection hc with hc; subst hc
    exact sim_cvs c hop hx h1 h2 hs
  · rename_i t h1 h2
    split at hc
    · rename_i n h3
      injection hc with hc; subst hc
      exact sim_p2u c hop h1 h2 h3 hx hs
    · cases hc
  · rename_i u h1 h2
    split at hc
    · rename_i n h3
      injection hc with hc; subst hc
      exact sim_u2p c hop h1 h2 h3 hx hs
    · cases hc
  · rename_i el h1 h2
    split at hc
    · rename_i h3
      injection hc with hc; subst hc
      exact sim_b2s c hop h1 h2 h3 hx hs
    · cases hc
  · rename_i el h1 h2
    split at hc
    · rename_i h3
      injection hc with hc; subst hc
      exact sim_s2b c hop h1 h2 h3 hx hs
    · cases hc
  · cases hc

theorem slice_sim (c : Cx P ρ h w e a) {t : Nat} {x : Operand} {lo hi mx : Option Operand} {x' : Opd} {lo' hi' mx' : Option Opd} (hop : o.op = .slice t x lo hi mx) (hx : opdOf P x = some x') (hlo : oopdOf P lo = some lo') (hhi : oopdOf P hi = some hi') (hmx : oopdOf P mx = some mx')
    (hc : sliceOf P t x' lo' hi' mx' = some cp) (hs : step call e h cp = .ok v h') : OpSim P ρ h w a o v h' := by
  unfold sliceOf at hc
  split at hc
  · rename_i h1
    split at hc
    · rename_i hn
      injection hc with hc; subst hc
      have : mx = none := by
        rcases oopd_some hmx with ⟨h1, _⟩ | ⟨u, v, _, h2, _⟩
        · exact h1
        · rw [h2] at hn; cases hn
      subst this
      exact sim_slt c hop h1 hx hlo hhi hs
    · cases hc
  · rename_i el h1
    split at hc
    · rename_i s h2
      injection hc with hc; subst hc
      exact sim_sls c hop h1 h2 hx hlo hhi hmx hs
    · cases hc
  · rename_i n el h1
    split at hc
    · rename_i s h2
      injection hc with hc; subst hc
      exact sim_slp c hop (.inl h1) h2 hx hlo hhi hmx hs
    · cases hc
  · rename_i ar h1
    split at hc
    · rename_i n el h2
      split at hc
      · rename_i s h3
        injection hc with hc; subst hc
        exact sim_slp c hop (.inr ⟨ar, h1, h2⟩) h3 hx hlo hhi hmx hs
      · cases hc
    · cases hc
  · cases hc

theorem bin_sim (c : Cx P ρ h w e a) {op : BinOp} {t yt : Nat} {x y : Operand} (hop : o.op = .binOp op t x y yt) (hc : binOf P op t x y = some cp) (hs : step call e h cp = .ok v h') : OpSim P ρ h w a o v h' := by
  unfold binOf at hc
  split at hc
  · rename_i x' y' d hx hy hd
    have hbin : some (COp.bin op x' y') = some cp → OpSim P ρ h w a o v h' := by
      intro hc
      injection hc with hc; subst hc
      obtain ⟨h1, h2⟩ := give_ok hs
      subst h2
      exact sim_bin c hop hx hy h1
    split at hc
    · exact hbin hc
    · exact hbin hc
    · exact hbin hc
    · rename_i fs
      split at hc
      · rename_i l hl hg
        injection hc with hc; subst hc
        exact sim_eqs (neg := false) c hop hd hl hg hx hy hs
      · rename_i l hl hg
        injection hc with hc; subst hc
        exact sim_eqs (neg := true) c hop hd hl hg hx hy hs
      · cases hc
    · split at hc
      · rename_i k hk
        injection hc with hc; subst hc
        exact sim_eq (neg := false) c hop hk hx hy hs
      · rename_i k hk
        injection hc with hc; subst hc
        exact sim_eq (neg := true) c hop hk hx hy hs
      · cases hc
  · cases hc

theorem opds_one {xs : Array Operand} {y : Opd} (ho : opdsOf P xs.toList = some [y]) : ∃ x, xs = #[x] ∧ opdOf P x = some y := by
  obtain ⟨l⟩ := xs
  cases l with
  | nil => simp [opdsOf] at ho
  | cons x r =>
    simp only [opdsOf] at ho
    split at ho
    · rename_i y' l' hy hl
      simp only [Option.some.injEq, List.cons.injEq] at ho
      obtain ⟨rfl, rfl⟩ := ho
      cases r with
      | nil => exact ⟨x, rfl, hy⟩
      | cons z r =>
        simp only [opdsOf] at hl
        split at hl <;> simp at hl
    · cases ho

theorem opds_two {xs : Array Operand} {y z : Opd} (ho : opdsOf P xs.toList = some [y, z]) : ∃ x u, xs = #[x, u] ∧ opdOf P x = some y ∧ opdOf P u = some z := by
  obtain ⟨l⟩ := xs
  cases l with
  | nil => simp [opdsOf] at ho
  | cons x r =>
    simp only [opdsOf] at ho
    split at ho
    · rename_i y' l' hy hl
      simp only [Option.some.injEq, List.cons.injEq] at ho
      obtain ⟨rfl, rfl⟩ := ho
      obtain ⟨u, hu1, hu2⟩ := opds_one (xs := ⟨r⟩) hl
      have : r = [u] := by simpa using congrArg Array.toList hu1
      subst this
      exact ⟨x, u, rfl, hy, hu2⟩
    · cases ho

theorem extern_sim (c : Cx P ρ h w e a) {cl : Call} {f : Nat} {fn : Func} {args : List Opd} (hop : o.op = .call cl) (hcl : cl.callee = .value (.func f)) (hf : P.funcs[f]? = some fn) (hname : fn.name ≠ "runtime.NumGoroutine") (hb : fn.body.isSome = false)
    (ha : opdsOf P cl.args.toList = some args) (hc : externOf P fn args = some cp) (hs : step call e h cp = .ok v h') : OpSim P ρ h w a o v h' := by
  unfold externOf at hc
  split at hc
  · rename_i x'
    obtain ⟨x, har, hx⟩ := opds_one ha
    have rx := c.opd hx
    split at hc
    · cases hc
    · rename_i hn
      have hn : (Extern.findNext fn).isSome = false := by simpa using hn
      split at hc
      · rename_i hnm
        injection hc with hc; subst hc
        obtain ⟨rfl, v', hr, hv⟩ := fbits_sim c.r rx hs
        exact sim_extern c hop hcl hf hname hb hn (find_bits hnm) har hr hv (.refl c.r)
      · split at hc
        · rename_i hnm
          injection hc with hc; subst hc
          obtain ⟨rfl, v', hr, hv⟩ := bitsf_sim c.r rx hs
          exact sim_extern c hop hcl hf hname hb hn (find_frombits hnm) har hr hv (.refl c.r)
        · split at hc
          · rename_i hnm
            injection hc with hc; subst hc
            injection hs with e1 e2; subst e1 e2
            exact sim_extern c hop hcl hf hname hb hn (find_noescape hnm) har rfl rx (.refl c.r)
          · split at hc
            · rename_i hnm
              split at hc
              · rename_i t ht
                split at hc
                · rename_i el hel
                  split at hc
                  · injection hc with hc; subst hc
                    obtain ⟨v', w', ρ', hr, hv, hp⟩ := mkz_sim (fn := fn) c.r c.wh ht hel rx hs
                    exact sim_extern c hop hcl hf hname hb hn (find_nozero hnm) har hr hv hp
                  · cases hc
                · cases hc
              · cases hc
            · cases hc
  · cases hc

theorem callOf_sim (c : Cx P ρ h w e a) {cl : Call} (hop : o.op = .call cl) (hc : callOf P cl = some cp) (hn : isCall cp = false) (hs : step call e h cp = .ok v h') : OpSim P ρ h w a o v h' := by
  unfold callOf at hc
  split at hc
  · cases hc
  · rename_i args ha
    split at hc
    · rename_i f hcl
      split at hc
      · rename_i fn hf
        split at hc
        · cases hc
        · rename_i hname
          split at hc
          · injection hc with hc; subst hc; cases hn
          · rename_i hb
            exact extern_sim c hop hcl hf hname (by simpa using hb) ha hc hs
      · cases hc
    · split at hc
      · injection hc with hc; subst hc; cases hn
      · cases hc
    · cases hc
    · rename_i b hcl
      split at hc
      · rename_i x' y'
        obtain ⟨x, y, har, hx, hy⟩ := opds_two ha
        split at hc
        · rename_i t u h0 h1
          split at hc
          · cases hc
          · rename_i el du hnot ht hu
            split at hc
            · rename_i ti z hi hz
              split at hc
              · rename_i hpos
                injection hc with hc; subst hc
                exact sim_app c hop hcl h0 h1 ht hu hnot hi hz hpos har hx hy hs
              · cases hc
            · cases hc
          · cases hc
        · cases hc
      · rename_i x' y'
        obtain ⟨x, y, har, hx, hy⟩ := opds_two ha
        split at hc
        · rename_i t h0
          split at hc
          · rename_i el ht
            split at hc
            · rename_i s hsz
              injection hc with hc; subst hc
              exact sim_cpy c hop hcl h0 ht hsz har hx hy hs
            · cases hc
          · cases hc
        · cases hc
      · rename_i x'
        obtain ⟨x, har, hx⟩ := opds_one ha
        split at hc
        · rename_i t h0
          split at hc
          · rename_i ht
            injection hc with hc; subst hc
            exact sim_lnt c hop hcl h0 ht har hx hs
          · rename_i el ht
            injection hc with hc; subst hc
            exact sim_len c hop hcl h0 ht har hx hs
          · rename_i n el ht
            injection hc with hc; subst hc
            injection hs with e1 e2; subst e1 e2
            exact sim_lenc c hop hcl h0 har (.inl ⟨el, ht⟩)
          · rename_i ar ht
            split at hc
            · rename_i n el ht'
              injection hc with hc; subst hc
              injection hs with e1 e2; subst e1 e2
              exact sim_lenc c hop hcl h0 har (.inr ⟨ar, el, ht, ht'⟩)
            · cases hc
          · cases hc
        · cases hc
      · rename_i x'
        obtain ⟨x, har, hx⟩ := opds_one ha
        split at hc
        · rename_i t h0
          split at hc
          · rename_i el ht
            injection hc with hc; subst hc
            exact sim_cap c hop hcl h0 ht har hx hs
          · cases hc
        · cases hc
      · injection hc with hc; subst hc
        exact sim_mm (mx := true) c hop hcl rfl ha hs
      · injection hc with hc; subst hc
        exact sim_mm (mx := false) c hop hcl rfl ha hs
      · rename_i x'
        obtain ⟨x, har, hx⟩ := opds_one ha
        injection hc with hc; subst hc
        exact sim_usd c hop hcl har hx hs
      · rename_i x' y'
        obtain ⟨x, y, har, hx, hy⟩ := opds_two ha
        split at hc
        · rename_i pt h0
          split at hc
          · rename_i el hpt
            split at hc
            · rename_i hsz
              injection hc with hc; subst hc
              exact sim_ust c hop hcl h0 hpt hsz har hx hy hs
            · cases hc
          · cases hc
        · cases hc
      · cases hc

theorem op_sim (c : Cx P ρ h w e a) (hc : copOf P o = some cp) (hn : isCall cp = false) (hs : step call e h cp = .ok v h') : OpSim P ρ h w a o v h' := by
  unfold copOf at hc
  split at hc
  · rename_i x hop
    split at hc
    · rename_i y hy
      injection hc with hc; subst hc
      injection hs with e1 e2; subst e1 e2
      exact sim_move c (.inl hop) hy
    · cases hc
  · rename_i x hop
    split at hc
    · rename_i y hy
      injection hc with hc; subst hc
      injection hs with e1 e2; subst e1 e2
      exact sim_move c (.inr hop) hy
    · cases hc
  · rename_i x y z hop
    split at hc
    · rename_i x' y' z' hx hy hz
      injection hc with hc; subst hc
      exact sim_pick c hop hx hy hz hs
    · cases hc
  · rename_i t hop
    split at hc
    · rename_i z hz
      injection hc with hc; subst hc
      injection hs with e1 e2; subst e1 e2
      exact sim_alc c hop hz
    · cases hc
  · rename_i t x hop
    split at hc
    · rename_i y hy
      injection hc with hc; subst hc
      exact sim_box c hop hy hs
    · cases hc
  · rename_i t ps hop
    split at hc
    · rename_i z fs hz hu
      split at hc
      · rename_i hfs
        split at hc
        · rename_i l hl
          injection hc with hc; subst hc
          exact sim_bld_struct c hop hz hu hfs hl hs
        · cases hc
      · cases hc
    · rename_i z n el hz hu
      split at hc
      · rename_i s hsz
        split at hc
        · rename_i l hl
          injection hc with hc; subst hc
          exact sim_bld_array c hop hz hu hsz hl hs
        · cases hc
      · cases hc
    · cases hc
  · rename_i t len ps hop
    split at hc
    · rename_i el hu
      split at hc
      · rename_i z s hz hsz
        split at hc
        · rename_i l hl
          split at hc
          · rename_i hle
            injection hc with hc; subst hc
            exact sim_bsl c hop hu hz hsz hl hle hs
          · cases hc
        · cases hc
      · cases hc
    · cases hc
  · rename_i t x hop
    split at hc
    · rename_i n y ha hsz hy
      injection hc with hc; subst hc
      exact sim_ldn c hop hy ha hsz hs
    · rename_i n y ha hsz hy
      injection hc with hc; subst hc
      exact sim_ld c hop hy ha hs
    · cases hc
  · rename_i t x y hop
    split at hc
    · rename_i b n x' y' ha hsz hx hy
      injection hc with hc; subst hc
      exact sim_st c hop hx hy hsz hs
    · cases hc
  · rename_i x hop
    split at hc
    · rename_i y hy
      injection hc with hc; subst hc
      exact sim_nck c hop hy hs
    · cases hc
  · rename_i op t x y yt hop
    exact bin_sim c hop hc hs
  · rename_i op t x hop
    split at hc
    · rename_i y hy
      injection hc with hc; subst hc
      obtain ⟨h1, h2⟩ := give_ok hs
      subst h2
      exact sim_un c hop hy h1
    · cases hc
  · rename_i s d x hop
    split at hc
    · rename_i y hy
      exact conv_sim c hop hy hc hs
    · cases hc
  · rename_i t x hop
    split at hc
    · cases hc
    · rename_i y d hnot hy hu
      injection hc with hc; subst hc
      injection hs with e1 e2; subst e1 e2
      exact sim_mki c hop hy hu hnot
    · cases hc
  · rename_i fn first caps hop
    split at hc
    · rename_i f l hf hl
      injection hc with hc; subst hc
      injection hs with e1 e2; subst e1 e2
      have : first = #[] := by apply Array.ext'; rw [hf]
      subst this
      exact sim_mkf c hop hl
    · cases hc
  · rename_i t l k hop
    split at hc
    · rename_i el l' k' hu hl hk
      split at hc
      · rename_i ti z hi hz
        split at hc
        · rename_i hpos
          injection hc with hc; subst hc
          exact sim_mks c hop hu hi hz hpos hl hk hs
        · cases hc
      · cases hc
    · cases hc
  · rename_i t x lo hi mx hop
    split at hc
    · rename_i x' lo' hi' mx' hx hlo hhi hmx
      exact slice_sim c hop hx hlo hhi hmx hc hs
    · cases hc
  · rename_i t x f hop
    split at hc
    · rename_i fs y hu hy
      split at hc
      · rename_i fl hf
        split at hc
        · rename_i n hsz
          injection hc with hc; subst hc
          exact sim_fad c hop hu hf hsz hy hs
        · cases hc
      · cases hc
    · cases hc
  · rename_i t x f hop
    split at hc
    · rename_i fs y hu hy
      split at hc
      · rename_i fl hf
        split at hc
        · rename_i n hsz ha
          injection hc with hc; subst hc
          exact sim_fld (ag := true) c hop hu hf hsz ha hy hs
        · rename_i n hsz ha
          injection hc with hc; subst hc
          exact sim_fld (ag := false) c hop hu hf hsz ha hy hs
        · cases hc
      · cases hc
    · cases hc
  · rename_i t x i hop
    split at hc
    · rename_i n el x' i' hu hx hi
      split at hc
      · rename_i s hsz
        injection hc with hc; subst hc
        exact sim_ixp c hop hu hsz hx hi hs
      · cases hc
    · rename_i el x' i' hu hx hi
      split at hc
      · rename_i s hsz
        injection hc with hc; subst hc
        exact sim_ixs c hop hu hsz hx hi hs
      · cases hc
    · cases hc
  · rename_i t x i hop
    split at hc
    · rename_i n el x' i' hu hx hi
      split at hc
      · rename_i s hsz ha
        injection hc with hc; subst hc
        exact sim_ixa (ag := true) c hop hu hsz ha (fun h => by cases h) hx hi hs
      · rename_i hsz ha
        injection hc with hc; subst hc
        exact sim_ixa (ag := false) c hop hu hsz ha (fun _ => rfl) hx hi hs
      · cases hc
    · rename_i x' i' hu hx hi
      injection hc with hc; subst hc
      exact sim_ixt c hop hu hx hi hs
    · cases hc
  · rename_i x i hop
    split at hc
    · rename_i y hy
      injection hc with hc; subst hc
      exact sim_ext c hop hy hs
    · cases hc
  · rename_i cl hop
    exact callOf_sim c hop hc hn hs
  · rename_i t x hop
    split at hc
    · rename_i y hu hy
      injection hc with hc; subst hc
      exact sim_rng c hop hu hy hs
    · cases hc
  · rename_i x s hop
    split at hc
    · rename_i y hy
      injection hc with hc; subst hc
      exact sim_nxt c hop hy hs
    · cases hc
  · rename_i x hop
    split at hc
    · rename_i y hy
      injection hc with hc; subst hc
      simp only [step] at hs
      unfold sPan at hs
      split at hs <;> cases hs
    · cases hc
  · cases hc

end
end Go.Vm
