/-
  A twin of the evaluator, by recursors, so that the kernel has little to do.
-/
import Derived.Test.YtkjjpmbpjfmbcaaGreatDoorVmDraw5
import Derived.Test.YtkjjpmbpjfmbcaaGreatDoorVmTab
set_option linter.unusedVariables false
set_option linter.unusedSimpArgs false
namespace Go.Vm
noncomputable section

abbrev Op1 := (Nat → List V → H → Res) → T V → H → Res

def opdF (x : Opd) : T V → V := match x with
  | .t i => fun e => e.get .bot i
  | .c v => fun _ => v

theorem opdF_eq (x : Opd) (e : T V) : opdF x e = opd e x := by cases x <;> rfl

def fMv (x : Opd) : Op1 := fun _ e h => .ok (opdF x e) h
def fPick (c a b : Opd) : Op1 := fun _ e h => sPick h (opdF a e) (opdF b e) (opdF c e)
def fAlc (z : List V) (el : Nat) : Op1 := fun _ _ h => .ok (.ptr h.n 0) (newCells h z false el (some 0))
def fBox (el : Nat) (x : Opd) : Op1 := fun _ e h => sBox h el (opdF x e)
def fBld (z : List V) (ps : List (Nat × Nat × Opd)) : Op1 := fun _ e h => sBld e h z ps
def fBsl (z : List V) (len s el : Nat) (ps : List (Nat × Nat × Opd)) : Op1 := fun _ e h => sBsl e h z len s el ps
def fLd (x : Opd) : Op1 := fun _ e h => sLd h (opdF x e)
def fLdn (n : Nat) (x : Opd) : Op1 := fun _ e h => sLdn h n (opdF x e)
def fSt (n : Nat) (x v : Opd) : Op1 := fun _ e h => sSt h n (opdF x e) (opdF v e)
def fNck (x : Opd) : Op1 := fun _ e h => sNck h (opdF x e)
def fBin (op : BinOp) (x y : Opd) : Op1 := fun _ e h => give h (bin op (opdF x e) (opdF y e))
def fEq (k : EqK) (neg : Bool) (x y : Opd) : Op1 := fun _ e h => sEq h k neg (opdF x e) (opdF y e)
def fEqs (neg : Bool) (offs : List (Nat × LK)) (x y : Opd) : Op1 := fun _ e h => sEqs h neg offs (opdF x e) (opdF y e)
def fUn (op : UnOp) (x : Opd) : Op1 := fun _ e h => give h (un op (opdF x e))
def fCvi (k : IntKind) (x : Opd) : Op1 := fun _ e h => sCvi h k (opdF x e)
def fCvs (x : Opd) : Op1 := fun _ e h => sCvs h (opdF x e)
def fB2s (x : Opd) : Op1 := fun _ e h => sB2s h (opdF x e)
def fS2b (el : Nat) (x : Opd) : Op1 := fun _ e h => sS2b h el (opdF x e)
def fMki (t : Nat) (x : Opd) : Op1 := fun _ e h => .ok (.ifc t (opdF x e)) h
def fMkf (f : Nat) (caps : List Opd) : Op1 := fun _ e h => .ok (.fn f (caps.map (opd e))) h
def fMks (z : List V) (s bytes el : Nat) (l c : Opd) : Op1 := fun _ e h => sMks h z s bytes el (opdF l e) (opdF c e)
def fSlt (x : Opd) (lo hi : Option Opd) : Op1 := fun _ e h => sSlt h e lo hi (opdF x e)
def fSls (s : Nat) (x : Opd) (lo hi mx : Option Opd) : Op1 := fun _ e h => sSls h e s lo hi mx (opdF x e)
def fSlp (s len : Nat) (x : Opd) (lo hi mx : Option Opd) : Op1 := fun _ e h => sSlp h e s len lo hi mx (opdF x e)
def fFad (off : Nat) (x : Opd) : Op1 := fun _ e h => sFad h off (opdF x e)
def fFld (off n : Nat) (ag : Bool) (x : Opd) : Op1 := fun _ e h => sFld h off n ag (opdF x e)
def fIxs (s : Nat) (x i : Opd) : Op1 := fun _ e h => sIxs h s (opdF x e) (opdF i e)
def fIxp (s len : Nat) (x i : Opd) : Op1 := fun _ e h => sIxp h s len (opdF x e) (opdF i e)
def fIxa (s len : Nat) (ag : Bool) (x i : Opd) : Op1 := fun _ e h => sIxa h s len ag (opdF x e) (opdF i e)
def fIxt (x i : Opd) : Op1 := fun _ e h => sIxt h (opdF x e) (opdF i e)
def fExt (x : Opd) (i : Nat) : Op1 := fun _ e h => sExt h i (opdF x e)
def fCalf (f : Nat) (args : List Opd) : Op1 := fun call e h => call f (args.map (opd e)) h
def fCalv (f : Opd) (args : List Opd) : Op1 := fun call e h => sCalv call h (args.map (opd e)) (opdF f e)
def fApp (s bytes el : Nat) (x y : Opd) : Op1 := fun _ e h => sAppend h s bytes el (opdF x e) (opdF y e)
def fCpy (s : Nat) (x y : Opd) : Op1 := fun _ e h => sCopy h s (opdF x e) (opdF y e)
def fLen (x : Opd) : Op1 := fun _ e h => sLen h (opdF x e)
def fLnt (x : Opd) : Op1 := fun _ e h => sLnt h (opdF x e)
def fLenc (n : Nat) : Op1 := fun _ _ h => .ok (.int .i64 n) h
def fCap (x : Opd) : Op1 := fun _ e h => sCap h (opdF x e)
def fMm (mx : Bool) (xs : List Opd) : Op1 := fun _ e h => sMm h mx (xs.map (opd e))
def fRng (x : Opd) : Op1 := fun _ e h => sRng h (opdF x e)
def fNxt (x : Opd) : Op1 := fun _ e h => sNxt h (opdF x e)
def fUsd (x : Opd) : Op1 := fun _ e h => sUsd h (opdF x e)
def fUst (el : Nat) (x n : Opd) : Op1 := fun _ e h => sUst h el (opdF x e) (opdF n e)
def fFbits (x : Opd) : Op1 := fun _ e h => sFbits h (opdF x e)
def fBitsf (x : Opd) : Op1 := fun _ e h => sBitsf h (opdF x e)
def fMkz (el : Nat) (x : Opd) : Op1 := fun _ e h => sMkz h el (opdF x e)
def fP2u (x : Opd) : Op1 := fun _ e h => sP2u h (opdF x e)
def fU2p (u s : Nat) (x : Opd) : Op1 := fun _ e h => sU2p h u s (opdF x e)
def fPan (x : Opd) : Op1 := fun _ e h => sPan h (opdF x e)
def fStop : Op1 := fun _ _ _ => .no

def stepF (c : COp) : Op1 := match c with
  | .mv x => fMv x
  | .pick c a b => fPick c a b
  | .alc z el => fAlc z el
  | .box el x => fBox el x
  | .bld z ps => fBld z ps
  | .bsl z len s el ps => fBsl z len s el ps
  | .ld x => fLd x
  | .ldn n x => fLdn n x
  | .st n x v => fSt n x v
  | .nck x => fNck x
  | .bin op x y => fBin op x y
  | .eq k neg x y => fEq k neg x y
  | .eqs neg offs x y => fEqs neg offs x y
  | .un op x => fUn op x
  | .cvi k x => fCvi k x
  | .cvs x => fCvs x
  | .b2s x => fB2s x
  | .s2b el x => fS2b el x
  | .mki t x => fMki t x
  | .mkf f caps => fMkf f caps
  | .mks z s bytes el l c => fMks z s bytes el l c
  | .slt x lo hi => fSlt x lo hi
  | .sls s x lo hi mx => fSls s x lo hi mx
  | .slp s len x lo hi mx => fSlp s len x lo hi mx
  | .fad off x => fFad off x
  | .fld off n ag x => fFld off n ag x
  | .ixs s x i => fIxs s x i
  | .ixp s len x i => fIxp s len x i
  | .ixa s len ag x i => fIxa s len ag x i
  | .ixt x i => fIxt x i
  | .ext x i => fExt x i
  | .calf f args => fCalf f args
  | .calv f args => fCalv f args
  | .app s bytes el x y => fApp s bytes el x y
  | .cpy s x y => fCpy s x y
  | .len x => fLen x
  | .lnt x => fLnt x
  | .lenc n => fLenc n
  | .cap x => fCap x
  | .mm mx xs => fMm mx xs
  | .rng x => fRng x
  | .nxt x => fNxt x
  | .usd x => fUsd x
  | .ust el x n => fUst el x n
  | .fbits x => fFbits x
  | .bitsf x => fBitsf x
  | .same x => fMv x
  | .mkz el x => fMkz el x
  | .p2u x => fP2u x
  | .u2p u s x => fU2p u s x
  | .pan x => fPan x
  | .stop => fStop

theorem stepF_eq (call : Nat → List V → H → Res) (e : T V) (h : H) (c : COp) : stepF c call e h = step call e h c := by
  cases c <;> simp only [stepF, step, fMv, fPick, fAlc, fBox, fBld, fBsl, fLd, fLdn, fSt, fNck, fBin, fEq, fEqs, fUn, fCvi, fCvs, fB2s, fS2b, fMki, fMkf, fMks, fSlt, fSls, fSlp, fFad, fFld, fIxs, fIxp, fIxa, fIxt, fExt, fCalf, fCalv, fApp, fCpy, fLen, fLnt, fLenc, fCap, fMm, fRng, fNxt, fUsd, fUst, fFbits, fBitsf, fMkz, fP2u, fU2p, fPan, fStop, opdF_eq]

def putF (nt : Nat) (e : T V) (d : Option Nat) (v : V) : T V := match d with
  | none => e
  | some d => match Nat.blt d nt with
    | true => e.set .bot d v
    | false => e

theorem putF_eq (nt : Nat) (e : T V) (d : Option Nat) (v : V) : putF nt e d v = put nt e d v := by
  unfold putF put
  cases d with
  | none => rfl
  | some d =>
    simp only
    by_cases h : d < nt
    · rw [if_pos h]
      have : Nat.blt d nt = true := by simpa using h
      rw [this]
    · rw [if_neg h]
      have : Nat.blt d nt = false := by
        cases hb : Nat.blt d nt with
        | false => rfl
        | true => exact absurd (by simpa using hb) h
      rw [this]

/-- what comes of an operation goes on -/
def thenF (nt : Nat) (d : Option Nat) (e : T V) (next : T V → H → Res) : Res → Res := fun r => match r with
  | .ok v h' => next (putF nt e d v) h'
  | .pan v h' => .pan v h'
  | .no => .no

def guardF (b : Bool) (run skip : Res) (x : V) : Res := match x with
  | .bool b' => match b' == b with
    | true => run
    | false => skip
  | .tup _ => skip
  | _ => .no

def knownV (x : V) : Bool := match x with
  | .bool _ => true
  | .tup _ => true
  | _ => false

def wantV (b : Bool) (x : V) : Bool := match x with
  | .bool b' => b' == b
  | _ => false

theorem guardV (b : Bool) (run skip : Res) (x : V) : guardF b run skip x = if knownV x = false then .no else if wantV b x = true then run else skip := by
  cases x with
  | bool b' => cases b' <;> cases b <;> rfl
  | _ => rfl

theorem guardF_eq (e : T V) (t : Nat) (b : Bool) (run skip : Res) : guardF b run skip (e.get .bot t) = if known e (some (t, b)) = false then .no else if want e (some (t, b)) = true then run else skip := by
  have e1 : known e (some (t, b)) = knownV (e.get .bot t) := rfl
  have e2 : want e (some (t, b)) = wantV b (e.get .bot t) := rfl
  rw [e1, e2]
  exact guardV b run skip _

def oneF (call : Nat → List V → H → Res) (nt : Nat) (i : CI) (next : T V → H → Res) (e : T V) (h : H) : Res := match i.g with
  | none => thenF nt i.dst e next (stepF i.op call e h)
  | some (t, b) => guardF b (thenF nt i.dst e next (stepF i.op call e h)) (next (putF nt e i.dst (.tup [])) h) (e.get .bot t)

def runOpsF (call : Nat → List V → H → Res) (nt : Nat) (l : List CI) : T V → H → K → Res :=
  List.rec (motive := fun _ => T V → H → K → Res) (fun e h k => k e h) (fun i _ ih e h k => oneF call nt i (fun e h => ih e h k) e h) l

theorem oneF_eq (call : Nat → List V → H → Res) (nt : Nat) (i : CI) (next : T V → H → Res) (e : T V) (h : H) : oneF call nt i next e h =
    if known e i.g = false then .no else
    if want e i.g then match step call e h i.op with
      | .ok v h' => next (put nt e i.dst v) h'
      | .pan v h' => .pan v h'
      | .no => .no
    else next (put nt e i.dst (.tup [])) h := by
  have ht : ∀ r : Res, thenF nt i.dst e next r = match r with
      | .ok v h' => next (put nt e i.dst v) h'
      | .pan v h' => .pan v h'
      | .no => .no := by
    intro r
    unfold thenF
    cases r <;> simp only [putF_eq]
  unfold oneF
  cases hg : i.g with
  | none => simp only [known, want, ht, stepF_eq]; rfl
  | some tb =>
    obtain ⟨t, b⟩ := tb
    simp only [guardF_eq, ht, stepF_eq, putF_eq]

theorem runOpsF_eq (call : Nat → List V → H → Res) (nt : Nat) : ∀ (l : List CI) (e : T V) (h : H) (k : K), runOpsF call nt l e h k = runOps call nt l e h k
  | [], e, h, k => rfl
  | i :: l, e, h, k => by
    have : runOpsF call nt (i :: l) e h k = oneF call nt i (fun e h => runOpsF call nt l e h k) e h := rfl
    rw [this, oneF_eq]
    simp only [runOps]
    have ih := fun e h => runOpsF_eq call nt l e h k
    simp only [ih]
    rfl

def drawF (call : Nat → List V → H → Res) (nt : Nat) (al : List Nat) (l : List CI) : Nat → T V → H → K → Res :=
  List.rec (motive := fun _ => Nat → T V → H → K → Res) (fun _ e h k => match aliveAt nt e h al with | true => k e h | false => .no)
    (fun i l ih m e h k => runDraw call nt al (i :: l) m e h k) l

def loopF (body : T V → H → K → Res) (n : Nat) : T V → H → Res :=
  Nat.rec (motive := fun _ => T V → H → Res) (fun _ _ => .no) (fun _ ih e h => body e h ih) n

theorem loopF_eq (body : T V → H → K → Res) : ∀ (n : Nat) (e : T V) (h : H), loopF body n e h = loopN body n e h
  | 0, e, h => rfl
  | n + 1, e, h => by
    have : loopF body (n + 1) e h = body e h (loopF body n) := rfl
    rw [this]
    simp only [loopN]
    have : loopF body n = fun e h => loopN body n e h := by funext e h; exact loopF_eq body n e h
    rw [this]

def condF (c : V) (a b : Res) : Res := match c with
  | .bool true => a
  | .bool false => b
  | _ => .no

def exitF (id : Nat) (x : List (Nat × K)) (e : T V) (h : H) : Res := match look id x with
  | some k => k e h
  | none => .no

def execF (call : Nat → List V → H → Res) (fuel nt : Nat) (c : CC) : T V → H → K → List (Nat × K) → K → Res :=
  CC.rec (motive := fun _ => T V → H → K → List (Nat × K) → K → Res)
    (fun e h _ _ k => k e h)
    (fun l e h _ _ k => runOpsF call nt l e h k)
    (fun m al l e h _ _ k => runDraw call nt al l m e h k)
    (fun _ _ a b e h r x k => a e h r x (fun e h => b e h r x k))
    (fun c _ _ a b e h r x k => condF (opdF c e) (a e h r x k) (b e h r x k))
    (fun id _ b e h r x k => b e h r ((id, k) :: x) k)
    (fun _ b e h r x _ => loopF (fun e h k' => b e h r x k') fuel e h)
    (fun id e h _ x _ => exitF id x e h)
    (fun e h r _ _ => r e h)
    (fun _ _ _ _ _ => .no) c

theorem execF_eq (call : Nat → List V → H → Res) (fuel nt : Nat) : ∀ (c : CC), execF call fuel nt c = exec call fuel nt c := by
  intro c
  induction c with
  | skip => rfl
  | ops l => funext e h r x k; exact runOpsF_eq call nt l e h k
  | draw m al l => rfl
  | seq a b iha ihb =>
    funext e h r x k
    have : execF call fuel nt (.seq a b) e h r x k = execF call fuel nt a e h r x (fun e h => execF call fuel nt b e h r x k) := rfl
    rw [this, iha, ihb]; rfl
  | cond c a b iha ihb =>
    funext e h r x k
    have : execF call fuel nt (.cond c a b) e h r x k = condF (opdF c e) (execF call fuel nt a e h r x k) (execF call fuel nt b e h r x k) := rfl
    rw [this, iha, ihb, opdF_eq]
    simp only [exec]
    generalize opd e c = u
    unfold condF
    cases u with
    | bool t => cases t <;> rfl
    | _ => rfl
  | block id b ih =>
    funext e h r x k
    have : execF call fuel nt (.block id b) e h r x k = execF call fuel nt b e h r ((id, k) :: x) k := rfl
    rw [this, ih]; rfl
  | loop b ih =>
    funext e h r x k
    have : execF call fuel nt (.loop b) e h r x k = loopF (fun e h k' => execF call fuel nt b e h r x k') fuel e h := rfl
    rw [this, ih, loopF_eq]
    simp only [exec]
  | exit id => rfl
  | ret => rfl
  | bad => rfl

def callBodyF (ih : Nat → List V → H → Res) (n : Nat) (args : List V) (h : H) (c : Option CFn) : Res := match c with
  | none => .no
  | some c => match Nat.ble args.length c.nt with
    | true => execF ih n c.nt c.body (envOf args 0 .lf) h (fun e h => results c.res e h) [] (fun e h => results c.res e h)
    | false => .no

def callF (tab : Nat → Option CFn) (n : Nat) : Nat → List V → H → Res :=
  Nat.rec (motive := fun _ => Nat → List V → H → Res) (fun _ _ _ => .no) (fun n ih f args h => callBodyF ih n args h (tab f)) n

theorem callF_eq (tab : Nat → Option CFn) : ∀ n, callF tab n = call tab n
  | 0 => rfl
  | n + 1 => by
    funext f args h
    have : callF tab (n + 1) f args h = callBodyF (callF tab n) n args h (tab f) := rfl
    rw [this, callF_eq tab n]
    simp only [callBodyF, call]
    cases tab f with
    | none => rfl
    | some c =>
      simp only [execF_eq]
      by_cases hl : args.length ≤ c.nt
      · have : Nat.ble args.length c.nt = true := by simpa using hl
        rw [this, if_pos hl]
      · have : Nat.ble args.length c.nt = false := by
          cases hb : Nat.ble args.length c.nt with
          | false => rfl
          | true => exact absurd (by simpa using hb) hl
        rw [this, if_neg hl]

end
end Go.Vm
