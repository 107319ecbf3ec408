/-
  The evaluator's own words: abstract values, the abstract heap, compiled code, and how it runs.
-/
import GoSem.Step
import GoSem.Claims
set_option linter.unusedVariables false
set_option linter.unusedSimpArgs false
namespace Go.Vm

/-- A total map from numbers, as a Braun tree. -/
inductive T (α : Type) where
  | lf
  | nd (v : α) (l r : T α)
  deriving Inhabited

/-- .. by the recursor, so that the kernel has little to do -/
noncomputable def T.get {α : Type} (d : α) (t : T α) : Nat → α :=
  T.rec (motive := fun _ => Nat → α) (fun _ => d)
    (fun v _ _ gl gr i => Nat.rec (motive := fun _ => α) v (fun j _ => Nat.rec (motive := fun _ => α) (gl (Nat.div j 2)) (fun _ _ => gr (Nat.div j 2)) (Nat.mod j 2)) i) t

theorem T.get_lf' {α : Type} (d : α) (i : Nat) : T.get d .lf i = d := rfl
theorem T.get_zero {α : Type} (d v : α) (l r : T α) : T.get d (.nd v l r) 0 = v := rfl
theorem T.get_succ {α : Type} (d v : α) (l r : T α) (j : Nat) : T.get d (.nd v l r) (j + 1) = match Nat.mod j 2 with
    | 0 => l.get d (Nat.div j 2)
    | _ + 1 => r.get d (Nat.div j 2) := by
  show Nat.rec (motive := fun _ => α) (l.get d (Nat.div j 2)) (fun _ _ => r.get d (Nat.div j 2)) (Nat.mod j 2) = _
  cases Nat.mod j 2 <;> rfl

/-- A path made anew. -/
def T.make {α : Type} (d : α) : (fuel : Nat) → Nat → α → T α
  | 0, _, _ => .lf
  | f + 1, i, x => match i with
    | 0 => .nd x .lf .lf
    | j + 1 => match Nat.mod j 2 with
      | 0 => .nd d (T.make d f (Nat.div j 2) x) .lf
      | _ + 1 => .nd d .lf (T.make d f (Nat.div j 2) x)

noncomputable def T.set {α : Type} (d : α) (t : T α) : Nat → α → T α :=
  T.rec (motive := fun _ => Nat → α → T α) (fun i x => T.make d (i + 1) i x)
    (fun v l r sl sr i x => Nat.rec (motive := fun _ => T α) (.nd x l r) (fun j _ => Nat.rec (motive := fun _ => T α) (.nd v (sl (Nat.div j 2) x) r) (fun _ _ => .nd v l (sr (Nat.div j 2) x)) (Nat.mod j 2)) i) t

theorem T.set_lf' {α : Type} (d : α) (i : Nat) (x : α) : T.set d .lf i x = T.make d (i + 1) i x := rfl
theorem T.set_zero {α : Type} (d v : α) (l r : T α) (x : α) : T.set d (.nd v l r) 0 x = .nd x l r := rfl
theorem T.set_succ {α : Type} (d v : α) (l r : T α) (j : Nat) (x : α) : T.set d (.nd v l r) (j + 1) x = match Nat.mod j 2 with
    | 0 => .nd v (l.set d (Nat.div j 2) x) r
    | _ + 1 => .nd v l (r.set d (Nat.div j 2) x) := by
  show Nat.rec (motive := fun _ => T α) (.nd v (l.set d (Nat.div j 2) x) r) (fun _ _ => .nd v l (r.set d (Nat.div j 2) x)) (Nat.mod j 2) = _
  cases Nat.mod j 2 <;> rfl

/-- Abstract values. A text is its length and its bytes as one number, the first byte highest. -/
inductive V where
  | int (k : IntKind) (n : Int)
  | bool (b : Bool)
  | str (n x : Nat)
  | flt (x : Nat)
  | ptr (o i : Nat)
  | nil
  | sl (o i n c s : Nat) (ex : Bool)
  | nils
  | mp (o : Nat)
  | nilm
  | fn (f : Nat) (caps : List V)
  | nilf
  | ifc (t : Nat) (v : V)
  | nili
  | agg (l : List V)
  | tup (l : List V)
  | bot
  deriving Inhabited

inductive Obj where
  | dead
  | c (n : Nat) (t : T V) (sp : Bool) (el : Nat) (fz : Option Nat)
  | m (es : List (V × V))
  | si (n x pos : Nat)
  deriving Inhabited

structure H where
  n : Nat
  t : T Obj
  fl : Nat
  deriving Inhabited

inductive Res where
  | ok (v : V) (h : H)
  | pan (v : V) (h : H)
  | no
  deriving Inhabited

inductive Opd where
  | t (i : Nat)
  | c (v : V)
  deriving Inhabited

/-- '==' where the operands are neither numbers nor texts: what their type is -/
inductive EqK where
  | bool | ptr | sl | fn
  | ifc (c : Bool)
  deriving Inhabited

/-- the kinds of cells that are compared -/
inductive LK where
  | i | b | s
  deriving Inhabited

inductive COp where
  | mv (x : Opd)
  | pick (c a b : Opd)
  | alc (z : List V) (el : Nat)
  | box (el : Nat) (x : Opd)
  | bld (z : List V) (ps : List (Nat × Nat × Opd))
  | bsl (z : List V) (len s el : Nat) (ps : List (Nat × Nat × Opd))
  | ld (x : Opd)
  | ldn (n : Nat) (x : Opd)
  | st (n : Nat) (x v : Opd)
  | nck (x : Opd)
  | bin (op : BinOp) (x y : Opd)
  | eq (k : EqK) (neg : Bool) (x y : Opd)
  | eqs (neg : Bool) (offs : List (Nat × LK)) (x y : Opd)
  | un (op : UnOp) (x : Opd)
  | cvi (k : IntKind) (x : Opd)
  | cvs (x : Opd)
  | b2s (x : Opd)
  | s2b (el : Nat) (x : Opd)
  | mki (t : Nat) (x : Opd)
  | mkf (f : Nat) (caps : List Opd)
  | mks (z : List V) (s bytes el : Nat) (l c : Opd)
  | slt (x : Opd) (lo hi : Option Opd)
  | sls (s : Nat) (x : Opd) (lo hi mx : Option Opd)
  | slp (s len : Nat) (x : Opd) (lo hi mx : Option Opd)
  | fad (off : Nat) (x : Opd)
  | fld (off n : Nat) (ag : Bool) (x : Opd)
  | ixs (s : Nat) (x i : Opd)
  | ixp (s len : Nat) (x i : Opd)
  | ixa (s len : Nat) (ag : Bool) (x i : Opd)
  | ixt (x i : Opd)
  | ext (x : Opd) (i : Nat)
  | calf (f : Nat) (args : List Opd)
  | calv (f : Opd) (args : List Opd)
  | app (s bytes el : Nat) (x y : Opd)
  | cpy (s : Nat) (x y : Opd)
  | len (x : Opd)
  | lnt (x : Opd)
  | lenc (n : Nat)
  | cap (x : Opd)
  | mm (mx : Bool) (xs : List Opd)
  | rng (x : Opd)
  | nxt (x : Opd)
  | usd (x : Opd)
  | ust (el : Nat) (x n : Opd)
  | fbits (x : Opd)
  | bitsf (x : Opd)
  | same (x : Opd)
  | p2u (x : Opd)
  | u2p (u s : Nat) (x : Opd)
  | pan (x : Opd)
  | stop
  | mkz (el : Nat) (x : Opd)
  deriving Inhabited

structure CI where
  dst : Option Nat
  op : COp
  g : Option (Nat × Bool)
  deriving Inhabited

inductive CC where
  | skip
  | ops (l : List CI)
  | draw (m : Nat) (al : List Nat) (l : List CI)
  | seq (a b : CC)
  | cond (c : Opd) (a b : CC)
  | block (id : Nat) (b : CC)
  | loop (b : CC)
  | exit (id : Nat)
  | ret
  | bad
  deriving Inhabited

inductive CR where
  | t (i : Nat)
  | m1 (i : Nat)
  | mn (i n : Nat)
  deriving Inhabited

structure CFn where
  nt : Nat
  res : List CR
  body : CC
  deriving Inhabited

end Go.Vm
