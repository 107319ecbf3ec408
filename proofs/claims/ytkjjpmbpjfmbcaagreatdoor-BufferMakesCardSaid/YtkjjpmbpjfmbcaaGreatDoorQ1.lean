/-
  The evaluator: abstract values, how compiled code runs, how the model's code is compiled, and what every run keeps.
-/
import GoSem.Step
import GoSem.Claims
set_option linter.unusedVariables false
set_option linter.unusedSimpArgs false
namespace Go.Vm
inductive T (α:Type) where
  |lf
  |nd (v:α) (l r:T α)
  deriving Inhabited
noncomputable def T.get {α:Type} (d:α)(t:T α):Nat->α :=
  T.rec (motive:=fun _=>Nat->α) (fun _=>d)
    (fun v _ _ gl gr i=>Nat.rec (motive:=fun _=>α) v (fun j _=>Nat.rec (motive:=fun _=>α) (gl (Nat.div j 2)) (fun _ _=>gr (Nat.div j 2)) (Nat.mod j 2)) i) t
theorem T.get_succ {α:Type} (d v:α)(l r:T α)(j:Nat):T.get d (.nd v l r) (j+1)=match Nat.mod j 2 with
    |0=>l.get d (Nat.div j 2)
    |_+1=>r.get d (Nat.div j 2):=by
  show Nat.rec (motive:=fun _=>α) (l.get d (Nat.div j 2)) (fun _ _=>r.get d (Nat.div j 2)) (Nat.mod j 2)=_
  cases Nat.mod j 2<;>rfl
def T.make {α:Type} (d:α):(fuel:Nat)->Nat->α->T α
  |0,_,_=>.lf
  |f+1,i,x=>match i with
    |0=>.nd x .lf .lf
    |j+1=>match Nat.mod j 2 with
      |0=>.nd d (T.make d f (Nat.div j 2) x) .lf
      |_+1=>.nd d .lf (T.make d f (Nat.div j 2) x)
noncomputable def T.set {α:Type} (d:α)(t:T α):Nat->α->T α :=
  T.rec (motive:=fun _=>Nat->α->T α) (fun i x=>T.make d (i+1) i x)
    (fun v l r sl sr i x=>Nat.rec (motive:=fun _=>T α) (.nd x l r) (fun j _=>Nat.rec (motive:=fun _=>T α) (.nd v (sl (Nat.div j 2) x) r) (fun _ _=>.nd v l (sr (Nat.div j 2) x)) (Nat.mod j 2)) i) t
theorem T.set_lf' {α:Type} (d:α)(i:Nat)(x:α):T.set d .lf i x=T.make d (i+1) i x:=rfl
theorem T.set_succ {α:Type} (d v:α)(l r:T α)(j:Nat)(x:α):T.set d (.nd v l r) (j+1) x=match Nat.mod j 2 with
    |0=>.nd v (l.set d (Nat.div j 2) x) r
    |_+1=>.nd v l (r.set d (Nat.div j 2) x):=by
  show Nat.rec (motive:=fun _=>T α) (.nd v (l.set d (Nat.div j 2) x) r) (fun _ _=>.nd v l (r.set d (Nat.div j 2) x)) (Nat.mod j 2)=_
  cases Nat.mod j 2<;>rfl
inductive V where
  |int (k:IntKind) (n:Int)
  |bool (b:Bool)
  |str (n x:Nat)
  |flt (x:Nat)
  |ptr (o i:Nat)
  |nil
  |sl (o i n c s:Nat) (ex:Bool)
  |nils
  |mp (o:Nat)
  |nilm
  |fn (f:Nat) (caps:List V)
  |nilf
  |ifc (t:Nat) (v:V)
  |nili
  |nan
  |nani
  |agg (l:List V)
  |tup (l:List V)
  |bot
  deriving Inhabited
inductive Obj where
  |dead
  |c (n:Nat) (t:T V) (sp:Bool) (el:Nat) (fz:Option Nat)
  |m (es:List (V×V))
  |si (n x pos:Nat)
  deriving Inhabited
structure H where
  n:Nat
  t:T Obj
  fl:Nat
  deriving Inhabited
inductive Res where
  |ok (v:V) (h:H)
  |pan (v:V) (h:H)
  |no
  deriving Inhabited
inductive Opd where
  |t (i:Nat)
  |c (v:V)
  deriving Inhabited
inductive EqK where
  |bool | ptr | sl | fn
  |ifc (c:Bool)
  deriving Inhabited
inductive LK where
  |i | b | s
  deriving Inhabited
inductive COp where
  |mv (x:Opd)
  |pick (c a b:Opd)
  |alc (z:List V) (el:Nat)
  |box (el:Nat) (x:Opd)
  |bld (z:List V) (ps:List (Nat×Nat×Opd))
  |bsl (z:List V) (len s el:Nat) (ps:List (Nat×Nat×Opd))
  |ld (x:Opd)
  |ldn (n:Nat) (x:Opd)
  |st (n:Nat) (x v:Opd)
  |nck (x:Opd)
  |bin (op:BinOp) (x y:Opd)
  |eq (k:EqK) (neg:Bool) (x y:Opd)
  |eqs (neg:Bool) (offs:List (Nat×LK)) (x y:Opd)
  |un (op:UnOp) (x:Opd)
  |cvi (k:IntKind) (x:Opd)
  |cvs (x:Opd)
  |b2s (x:Opd)
  |s2b (el:Nat) (x:Opd)
  |mki (t:Nat) (x:Opd)
  |mkf (f:Nat) (caps:List Opd)
  |mks (z:List V) (s bytes el:Nat) (l c:Opd)
  |apz (z:List V) (s bytes el:Nat) (x n:Opd)
  |slt (x:Opd) (lo hi:Option Opd)
  |sls (s:Nat) (x:Opd) (lo hi mx:Option Opd)
  |slp (s len:Nat) (x:Opd) (lo hi mx:Option Opd)
  |fad (off:Nat) (x:Opd)
  |fld (off n:Nat) (ag:Bool) (x:Opd)
  |ixs (s:Nat) (x i:Opd)
  |ixp (s len:Nat) (x i:Opd)
  |ixa (s len:Nat) (ag:Bool) (x i:Opd)
  |ixt (x i:Opd)
  |ext (x:Opd) (i:Nat)
  |calf (f:Nat) (args:List Opd)
  |calv (f:Opd) (args:List Opd)
  |app (s bytes el:Nat) (x y:Opd)
  |cpy (s:Nat) (x y:Opd)
  |len (x:Opd)
  |lnt (x:Opd)
  |lenc (n:Nat)
  |cap (x:Opd)
  |mm (mx:Bool) (xs:List Opd)
  |rng (x:Opd)
  |nxt (x:Opd)
  |usd (x:Opd)
  |ust (el:Nat) (x n:Opd)
  |fbits (x:Opd)
  |bitsf (x:Opd)
  |same (x:Opd)
  |p2u (x:Opd)
  |u2p (u s:Nat) (x:Opd)
  |pan (x:Opd)
  |stop
  |mkz (el:Nat) (x:Opd)
  deriving Inhabited
structure CI where
  dst:Option Nat
  op:COp
  g:Option (Nat×Bool)
  deriving Inhabited
inductive CC where
  |skip
  |ops (l:List CI)
  |draw (m:Nat) (al:List Nat) (l:List CI)
  |seq (a b:CC)
  |cond (c:Opd) (a b:CC)
  |block (id:Nat) (b:CC)
  |loop (b:CC)
  |exit (id:Nat)
  |ret
  |bad
  deriving Inhabited
inductive CR where
  |t (i:Nat)
  |m1 (i:Nat)
  |mn (i n:Nat)
  deriving Inhabited
structure CFn where
  nt:Nat
  res:List CR
  body:CC
  deriving Inhabited
end Go.Vm
namespace Go.Vm
noncomputable section
def XbE (n x i:Nat):Nat:=Nat.mod (Nat.div x (Nat.pow 256 (Nat.sub (Nat.sub n 1) i))) 256
def XbD (n x l h:Nat):Nat:=Nat.mod (Nat.div x (Nat.pow 256 (Nat.sub n h))) (Nat.pow 256 (Nat.sub h l))
def Xmv (x m y:Nat):Nat:=Nat.add (Nat.mul x (Nat.pow 256 m)) y
def Xbv (n x m y:Nat):Bool :=
  let k:=Nat.min n m
  let a:=XbD n x 0 k
  let b:=XbD m y 0 k
  Nat.blt a b||(Nat.beq a b&&Nat.blt n m)
def Xbw (n x m y:Nat):Bool:=Nat.beq n m&&Nat.beq x y
def V.cells:V->Option (List V)
  | .agg l=>some l
  | .bot=>none
  |v=>some [v]
def Y8:Nat->Nat->List V->Option (Nat×Nat)
  |n,x,[]=>some (n,x)
  |n,x,v::r=>match v with
    | .int .u8 (.ofNat b)=>if b<256 then Y8 (n+1) (x*256+b) r else none
    |_=>none
def strCells (n x:Nat):List V:=(List.range n).map fun i=>.int .u8 (XbE n x i)
def opd (e:T V):Opd->V
  | .t i=>e.get .bot i
  | .c v=>v
def H.get (h:H)(o:Nat):Obj:=h.t.get .dead o
def H.set (h:H)(o:Nat)(x:Obj):H:={ h with t:=h.t.set .dead o x }
def H.push (h:H)(x:Obj):H:={ h with n:=h.n+1,t:=h.t.set .dead h.n x }
def Xx (t:T V)(i:Nat):Nat->List V
  |0=>[]
  |n+1=>t.get .bot i::Xx t (i+1) n
def Xp (t:T V)(i:Nat):List V->T V
  |[]=>t
  |v::r=>Xp (t.set .bot i v) (i+1) r
def YN (h:H)(o i n:Nat):Option (List V) :=
  match h.get o with
  | .c m t _ _ _=>if i+n<=m then some (Xx t i n) else none
  |_=>none
def V.one:V->Bool
  | .agg _ | .tup _ | .bot=>false
  |_=>true
def Yq:List V->Bool
  |[]=>true
  |v::r=>v.one&&Yq r
def WC (h:H)(o i:Nat)(l:List V):Option H :=
  match h.get o with
  | .c m t sp el fz=>if i+l.length<=m&&fz.getD 0<=i&&h.fl<=o&&Yq l then some (h.set o (.c m (Xp t i l) sp el fz)) else none
  |_=>none
def X5 (h:H)(l:List V)(sp:Bool)(el:Nat)(fz:Option Nat):H:=h.push (.c l.length (Xp .lf 0 l) sp el fz)
def XE (h:H)(s:Nat):V->Option (Nat×List V)
  | .nils=>some (0,[])
  | .sl o i n _ _ _=>match YN h o i (n*s) with
    |some l=>some (n,l)
    |none=>none
  | .str n x=>if s=1 then some (n,strCells n x) else none
  |_=>none
def Z4 (op:BinOp)(k:IntKind)(a b:Int):Option V :=
  match op with
  | .add=>some (.int k (k.wrap (a+b)))
  | .sub=>some (.int k (k.wrap (a-b)))
  | .mul=>some (.int k (k.wrap (a*b)))
  | .quo=>if b=0 then none else some (.int k (k.wrap (a.tdiv b)))
  | .rem=>if b=0 then none else some (.int k (a.tmod b))
  | .and=>some (.int k (k.wrap (BitVec.ofInt k.bits a &&& BitVec.ofInt k.bits b).toNat))
  | .or=>some (.int k (k.wrap (BitVec.ofInt k.bits a ||| BitVec.ofInt k.bits b).toNat))
  | .xor=>some (.int k (k.wrap (BitVec.ofInt k.bits a ^^^ BitVec.ofInt k.bits b).toNat))
  | .andNot=>some (.int k (k.wrap (BitVec.ofInt k.bits a &&& ~~~ BitVec.ofInt k.bits b).toNat))
  | .eql=>some (.bool (a == b))
  | .neq=>some (.bool (a != b))
  | .lss=>some (.bool (a<b))
  | .leq=>some (.bool (a<=b))
  | .gtr=>some (.bool (a > b))
  | .geq=>some (.bool (a ≥ b))
  |_=>none
def Wt (op:BinOp)(k:IntKind)(a b:Int):Option V :=
  if b<0 then none else
  match op with
  | .shl=>some (.int k (k.wrap (a*2 ^ (min b.toNat k.bits))))
  | .shr=>some (.int k (a.fdiv (2 ^ (min b.toNat k.bits))))
  |_=>none
def XcB (op:BinOp)(n x m y:Nat):Option V :=
  match op with
  | .add=>if n+m<=9223372036854775807 then some (.str (n+m) (Xmv x m y)) else none
  | .eql=>some (.bool (Xbw n x m y))
  | .neq=>some (.bool (!Xbw n x m y))
  | .lss=>some (.bool (Xbv n x m y))
  | .leq=>some (.bool (Xbv n x m y||Xbw n x m y))
  | .gtr=>some (.bool (!(Xbv n x m y||Xbw n x m y)))
  | .geq=>some (.bool (!Xbv n x m y))
  |_=>none
def Xi8:Option Nat->V
  |some z=>.flt z
  |none=>.nan
def Wj (op:BinOp)(x y:Nat):Option V :=
  match op with
  | .add=>some (Xi8 (FloatKind.f64.format.add x y))
  | .sub=>some (Xi8 (FloatKind.f64.format.sub x y))
  | .mul=>some (Xi8 (FloatKind.f64.format.mul x y))
  | .eql=>some (.bool (FloatKind.f64.format.order x y == some .eq))
  | .neq=>some (.bool (FloatKind.f64.format.order x y != some .eq))
  |_=>none
def XmI (h:H)(a i b j:Nat):Option Bool :=
  if a=b then some (i == j) else
  match Nat.blt a h.fl&&Nat.blt b h.fl with
  |true=>none
  |false=>match h.get a,h.get b with
    | .c _ _ _ _ (some 0),.c _ _ _ _ (some 0)=>some false
    |_,_=>none
def bin (op:BinOp)(x y:V):Option V :=
  match x,y with
  | .int k a,.int k' b =>
    match op with
    | .shl=>Wt .shl k a b
    | .shr=>Wt .shr k a b
    |op=>if k=k' then Z4 op k a b else none
  | .str n x,.str m y=>XcB op n x m y
  | .flt x,.flt y=>Wj op x y
  |_,_=>none
def alive (h:H)(o:Nat):Bool:=match h.get o with
  | .dead=>false
  |_=>true
def eqOf (h:H):EqK->V->V->Option Bool
  | .bool,.bool a,.bool b=>some (a == b)
  | .ptr,.nil,.nil=>some true
  | .ptr,.nil,.ptr o _=>if alive h o then some false else none
  | .ptr,.ptr o _,.nil=>if alive h o then some false else none
  | .ptr,.ptr a i,.ptr b j=>if alive h a&&alive h b then XmI h a i b j else none
  | .sl,.nils,.nils=>some true
  | .sl,.nils,.sl o _ _ _ _ _=>if alive h o then some false else none
  | .sl,.sl o _ _ _ _ _,.nils=>if alive h o then some false else none
  | .fn,.nilf,.nilf=>some true
  | .fn,.nilf,.fn _ _=>some false
  | .fn,.fn _ _,.nilf=>some false
  | .ifc c,.nili,.nili=>if c then some true else none
  | .ifc _,.nili,.ifc _ _=>some false
  | .ifc _,.ifc _ _,.nili=>some false
  |_,_,_=>none
def Xal:LK->V->V->Option Bool
  | .i,.int k a,.int k' b=>if k=k' then some (a == b) else none
  | .b,.bool a,.bool b=>some (a == b)
  | .s,.str n x,.str m y=>some (Xbw n x m y)
  |_,_,_=>none
def YJ (a b:List V):List (Nat×LK)->Option Bool
  |[]=>some true
  | (i,k)::r=>match a[i]?,b[i]? with
    |some x,some y=>match Xal k x y with
      |some true=>YJ a b r
      |some false=>some false
      |none=>none
    |_,_=>none
def un (op:UnOp)(x:V):Option V :=
  match op,x with
  | .neg,.int k n=>some (.int k (k.wrap (0-n)))
  | .xor,.int k n=>some (.int k (k.wrap (BitVec.ofInt k.bits (if k.signed then -1 else k.max) ^^^ BitVec.ofInt k.bits n).toNat))
  | .not,.bool b=>some (.bool (!b))
  |_,_=>none
def Zg (l:List V)(off:Nat)(c:List V):List V:=l.take off++c++l.drop (off+c.length)
def fill (e:T V):List V->List (Nat×Nat×Opd)->Option (List V)
  |z,[]=>some z
  |z,(off,n,x)::r =>
    match (opd e x).cells with
    |some c=>if c.length=n/\off+n<=z.length then fill e (Zg z off c) r else none
    |none=>none
def repl (z:List V):Nat->List V
  |0=>[]
  |n+1=>z++repl z n
def Za:V->Option Nat
  | .int _ (.ofNat n)=>some n
  |_=>none
def YL (e:T V)(d:Nat):Option Opd->Option Nat
  |none=>some d
  |some x=>Za (opd e x)
def bounds (e:T V)(len cap:Nat)(lo hi mx:Option Opd):Option (Nat×Nat×Nat) :=
  match YL e cap mx,YL e len hi,YL e 0 lo with
  |some m,some h,some l=>if m<=cap/\h<=m/\l<=h/\(mx.isSome=true->hi.isSome=true) then some (l,h,m) else none
  |_,_,_=>none
def mmV (mx:Bool):V->V->Option V
  | .int k a,.int _ b=>some (.int k (if mx then (if b > a then b else a) else (if b<a then b else a)))
  | .str n x,.str m y=>if mx then (if Xbv n x m y then some (.str m y) else some (.str n x)) else (if Xbv n x m y||Xbw n x m y then some (.str n x) else some (.str m y))
  |_,_=>none
def mmL (mx:Bool):V->List V->Option V
  |v,[]=>some v
  |v,x::r=>match mmV mx v x with
    |some w=>mmL mx w r
    |none=>none
def give (h:H):Option V->Res
  |some v=>.ok v h
  |none=>.no
def roomFor (n bytes:Nat):Bool:=Nat.ble (n*bytes) 68719476736&&Nat.ble n 68719476736
def X3 (h:H)(s bytes el:Nat)(x:V)(m:Nat)(new:List V):Res :=
  match x with
  | .nils=>if m=0 then .ok .nils h
    else if roomFor m bytes then .ok (.sl h.n 0 m m s false) (X5 h new true el (some 0)) else .no
  | .sl o i n c s' ex => match h.get o with
    | .c k t sp el' fz =>
      if s' = s then
        if n+m<=c then
          if m=0 then .ok (.sl o i n c s ex) h else
          match WC h o (i+n*s) new with
          |some h'=>.ok (.sl o i (n+m) c s ex) h'
          |none=>.no
        else if roomFor (n+m) bytes then
          if i+n*s<=k then
            if ex then .ok (.sl h.n 0 (n+m) (n+m) s false) (X5 h (Xx t i (n*s)++new) true el (some 0))
            else if sp=true/\fz.getD 0<=i+n*s/\h.fl<=o/\el'=el/\Yq new=true then
              .ok (.sl h.n 0 (n+m) (n+m) s false) (X5 (h.set o .dead) (Xx t i (n*s)++new) true el (fz.map (· - i)))
            else .no
          else .no
        else .no
      else .no
    |_=>.no
  |_=>.no
def YF (h:H)(s bytes el:Nat)(x y:V):Res :=
  match XE h s y with
  |some (m,l)=>X3 h s bytes el x m l
  |none=>.no
def ZR (h:H)(s:Nat)(x y:V):Res :=
  match x,XE h s y with
  | .nils,some _=>.ok (.int .i64 0) h
  | .sl o i n _ s' _,some (m,l) =>
    if s'=s/\alive h o=true then
      if Nat.min m n=0 then .ok (.int .i64 0) h else
      match WC h o i (l.take (Nat.min m n*s)) with
      |some h'=>.ok (.int .i64 (Nat.min m n)) h'
      |none=>.no
    else .no
  |_,_=>.no
def sLd (h:H):V->Res
  | .ptr o i=>match YN h o i 1 with
    |some [v]=>.ok v h
    |_=>.no
  |_=>.no
def sLdn (h:H)(n:Nat):V->Res
  | .ptr o i=>match YN h o i n with
    |some l=>.ok (.agg l) h
    |none=>.no
  |_=>.no
def sSt (h : H) (n : Nat) (x v : V) : Res :=
  match x with
  | .ptr o i=>match v.cells with
    |some l=>if l.length=n then match WC h o i l with
        |some h'=>.ok (.tup []) h'
        |none=>.no
      else .no
    |none=>.no
  |_=>.no
def sBox (h:H)(el:Nat)(v:V):Res :=
  match v.cells with
  |some l=>.ok (.ptr h.n 0) (X5 h l false el (some 0))
  |none=>.no
def sNck (h:H):V->Res
  | .ptr o i=>if alive h o then .ok (.ptr o i) h else .no
  | .fn f c=>.ok (.fn f c) h
  |_=>.no
def sEqs (h:H)(neg:Bool)(offs:List (Nat×LK))(x y:V):Res :=
  match x,y with
  | .agg a,.agg b=>match YJ a b offs with
    |some r=>.ok (.bool (r != neg)) h
    |none=>.no
  |_,_=>.no
def sCvi (h:H)(k:IntKind):V->Res
  | .int _ n=>.ok (.int k (k.wrap n)) h
  |_=>.no
def sB2s (h:H):V->Res
  | .nils=>.ok (.str 0 0) h
  | .sl o i n _ s _ => if s = 1 then match YN h o i n with
      |some l=>match Y8 0 0 l with
        |some (m,x)=>.ok (.str m x) h
        |none=>.no
      |none=>.no
    else .no
  |_=>.no
def sS2b (h:H)(el:Nat):V->Res
  | .str n x=>.ok (.sl h.n 0 n n 1 false) (X5 h (strCells n x) true el none)
  |_=>.no
def sMks (h:H)(z:List V)(s bytes el:Nat)(l c:V):Res :=
  match Za l,Za c with
  |some l,some c=>if l<=c/\roomFor c bytes=true then .ok (.sl h.n 0 l c s true) (X5 h (repl z c) false el (some 0)) else .no
  |_,_=>.no
def sApz (h:H)(z:List V)(s bytes el:Nat)(x n:V):Res :=
  match x,Za n with
  | .nils,some m=>if m=0 then .ok .nils h else if roomFor m bytes then .ok (.sl h.n 0 m m s false) (X5 h (repl z m) true el (some 0)) else .no
  |_,_=>.no
def sSlt (h:H)(e:T V)(lo hi:Option Opd):V->Res
  | .str n x=>match bounds e n n lo hi none with
    |some (l,k,_)=>.ok (.str (k-l) (XbD n x l k)) h
    |none=>.no
  |_=>.no
def sSls (h:H)(e:T V)(s:Nat)(lo hi mx:Option Opd):V->Res
  | .nils=>match bounds e 0 0 lo hi mx with
    |some _=>.ok .nils h
    |none=>.no
  | .sl o i n c s' ex=>if s'=s/\alive h o=true then match bounds e n c lo hi mx with
      |some (l,k,m)=>.ok (.sl o (i+l*s) (k-l) (m-l) s (ex||mx.isSome)) h
      |none=>.no
    else .no
  |_=>.no
def sSlp (h:H)(e:T V)(s len:Nat)(lo hi mx:Option Opd):V->Res
  | .ptr o i=>match h.get o,bounds e len len lo hi mx with
    | .c n _ _ _ _,some (l,k,m)=>if i+len*s<=n then .ok (.sl o (i+l*s) (k-l) (m-l) s true) h else .no
    |_,_=>.no
  |_=>.no
def sFad (h:H)(off:Nat):V->Res
  | .ptr o i=>if alive h o then .ok (.ptr o (i+off)) h else .no
  |_=>.no
def partOf (h:H)(l:List V)(off n:Nat)(ag:Bool):Res :=
  if off+n<=l.length then
    if ag then .ok (.agg ((l.drop off).take n)) h else match l[off]? with
      |some v=>.ok v h
      |none=>.no
  else .no
def sFld (h:H)(off n:Nat)(ag:Bool):V->Res
  | .agg l=>partOf h l off n ag
  |_=>.no
def sIxs (h:H)(s:Nat)(x i:V):Res :=
  match x,Za i with
  | .sl o j n _ s' _,some k=>if s'=s/\k<n/\alive h o=true then .ok (.ptr o (j+k*s)) h else .no
  |_,_=>.no
def sIxp (h:H)(s len:Nat)(x i:V):Res :=
  match x,Za i with
  | .ptr o j,some k=>if k<len/\alive h o=true then .ok (.ptr o (j+k*s)) h else .no
  |_,_=>.no
def sIxa (h:H)(s len:Nat)(ag:Bool)(x i:V):Res :=
  match x,Za i with
  | .agg l,some k=>if k<len then partOf h l (k*s) s ag else .no
  |_,_=>.no
def sIxt (h:H)(x i:V):Res :=
  match x,Za i with
  | .str n x,some k=>if k<n then .ok (.int .u8 (XbE n x k)) h else .no
  |_,_=>.no
def sExt (h:H)(i:Nat):V->Res
  | .tup l=>match l[i]? with
    |some v=>.ok v h
    |none=>.no
  |_=>.no
def sLnt (h:H):V->Res
  | .str n _=>.ok (.int .i64 n) h
  |_=>.no
def sCvs (h:H):V->Res
  | .str n x=>.ok (.str n x) h
  |_=>.no
def sPan (h:H):V->Res
  | .ifc t v=>.pan (.ifc t v) h
  |_=>.no
def sLen (h:H):V->Res
  | .nils=>.ok (.int .i64 0) h
  | .sl o _ n _ _ _=>if alive h o then .ok (.int .i64 n) h else .no
  |_=>.no
def sCap (h:H):V->Res
  | .nils=>.ok (.int .i64 0) h
  | .sl o _ _ c _ true=>if alive h o then .ok (.int .i64 c) h else .no
  |_=>.no
def sRng (h:H):V->Res
  | .str n x=>.ok (.ptr h.n 0) (h.push (.si n x 0))
  |_=>.no
def sNxt (h:H):V->Res
  | .ptr o 0=>match h.get o with
    | .si n x pos=>if pos<n then
        if XbE n x pos<128/\h.fl<=o then .ok (.tup [.bool true,.int .i64 pos,.int .i32 (XbE n x pos)]) (h.set o (.si n x (pos+1))) else .no
      else .ok (.tup [.bool false]) h
    |_=>.no
  |_=>.no
def sUsd (h:H):V->Res
  | .nils=>.ok .nil h
  | .sl o i _ c _ _=>if c=0∨alive h o=false then .no else .ok (.ptr o i) h
  |_=>.no
def sUst (h:H)(el:Nat)(x n:V):Res :=
  match x,Za n with
  | .nil,some 0=>.ok (.str 0 0) h
  | .ptr o i,some k=>match h.get o with
    | .c m t sp el' (some fz)=>if k=0 then .ok (.str 0 0) h
      else if i+k<=m/\h.fl<=o/\el'=el/\roomFor k 1=true then match Y8 0 0 (Xx t i k) with
        |some (n,x)=>.ok (.str n x) (h.set o (.c m t sp el' (some (Nat.max fz (i+k)))))
        |none=>.no
      else .no
    |_=>.no
  |_,_=>.no
def Xa4 (h:H):V->Res
  | .flt b=>.ok (.int .u64 b) h
  | .nan=>.ok .nani h
  |_=>.no
def Xa5 (h:H):V->Res
  | .int .u64 n=>.ok (.flt n.toNat) h
  | .nani=>.ok .nan h
  |_=>.no
def sMkz (h:H)(el:Nat):V->Res
  | .int .i64 (.ofNat n)=>if n<=16777216 then .ok (.sl h.n 0 n n 1 false) (X5 h (repl [.bot] n) true el (some 0)) else .no
  |_=>.no
def sP2u (h:H):V->Res
  | .ptr o i=>match h.get o with
    | .c n _ _ _ _=>if i<n then .ok (.ptr o i) h else .no
    |_=>.no
  |_=>.no
def sU2p (h:H)(u s:Nat):V->Res
  | .ptr o 0=>match h.get o with
    | .c n _ false el _=>if el=u/\s<=n then .ok (.ptr o 0) h else .no
    |_=>.no
  |_=>.no
def Xed (call:Nat->List V->H->Res)(h:H)(args:List V):V->Res
  | .fn f caps=>call f (args++caps) h
  |_=>.no
def sBld (e:T V)(h:H)(z:List V)(ps:List (Nat×Nat×Opd)):Res :=
  match fill e z ps with
  |some l=>.ok (.agg l) h
  |none=>.no
def sBsl (e:T V)(h:H)(z:List V)(len s el:Nat)(ps:List (Nat×Nat×Opd)):Res :=
  match fill e (repl z len) ps with
  |some l=>.ok (.sl h.n 0 len len s true) (X5 h l false el (some 0))
  |none=>.no
def Xad (h:H)(a b:V):V->Res
  | .bool true=>.ok a h
  | .bool false=>.ok b h
  |_=>.no
def sMm (h:H)(mx:Bool):List V->Res
  |[]=>.no
  |v::r=>give h (mmL mx v r)
def sEq (h:H)(k:EqK)(neg:Bool)(x y:V):Res :=
  match eqOf h k x y with
  |some r=>.ok (.bool (r != neg)) h
  |none=>.no
def step (call:Nat->List V->H->Res)(e:T V)(h:H):COp->Res
  | .mv x=>.ok (opd e x) h
  | .pick c a b=>Xad h (opd e a) (opd e b) (opd e c)
  | .alc z el=>.ok (.ptr h.n 0) (X5 h z false el (some 0))
  | .box el x=>sBox h el (opd e x)
  | .bld z ps=>sBld e h z ps
  | .bsl z len s el ps=>sBsl e h z len s el ps
  | .ld x=>sLd h (opd e x)
  | .ldn n x=>sLdn h n (opd e x)
  | .st n x v=>sSt h n (opd e x) (opd e v)
  | .nck x=>sNck h (opd e x)
  | .bin op x y=>give h (bin op (opd e x) (opd e y))
  | .eq k neg x y=>sEq h k neg (opd e x) (opd e y)
  | .eqs neg offs x y=>sEqs h neg offs (opd e x) (opd e y)
  | .un op x=>give h (un op (opd e x))
  | .cvi k x=>sCvi h k (opd e x)
  | .cvs x=>sCvs h (opd e x)
  | .b2s x=>sB2s h (opd e x)
  | .s2b el x=>sS2b h el (opd e x)
  | .mki t x=>.ok (.ifc t (opd e x)) h
  | .mkf f caps=>.ok (.fn f (caps.map (opd e))) h
  | .mks z s bytes el l c=>sMks h z s bytes el (opd e l) (opd e c)
  | .apz z s bytes el x n=>sApz h z s bytes el (opd e x) (opd e n)
  | .slt x lo hi=>sSlt h e lo hi (opd e x)
  | .sls s x lo hi mx=>sSls h e s lo hi mx (opd e x)
  | .slp s len x lo hi mx=>sSlp h e s len lo hi mx (opd e x)
  | .fad off x=>sFad h off (opd e x)
  | .fld off n ag x=>sFld h off n ag (opd e x)
  | .ixs s x i=>sIxs h s (opd e x) (opd e i)
  | .ixp s len x i=>sIxp h s len (opd e x) (opd e i)
  | .ixa s len ag x i=>sIxa h s len ag (opd e x) (opd e i)
  | .ixt x i=>sIxt h (opd e x) (opd e i)
  | .ext x i=>sExt h i (opd e x)
  | .calf f args=>call f (args.map (opd e)) h
  | .calv f args=>Xed call h (args.map (opd e)) (opd e f)
  | .app s bytes el x y=>YF h s bytes el (opd e x) (opd e y)
  | .cpy s x y=>ZR h s (opd e x) (opd e y)
  | .len x=>sLen h (opd e x)
  | .lnt x=>sLnt h (opd e x)
  | .lenc n=>.ok (.int .i64 n) h
  | .cap x=>sCap h (opd e x)
  | .mm mx xs=>sMm h mx (xs.map (opd e))
  | .rng x=>sRng h (opd e x)
  | .nxt x=>sNxt h (opd e x)
  | .usd x=>sUsd h (opd e x)
  | .ust el x n=>sUst h el (opd e x) (opd e n)
  | .fbits x=>Xa4 h (opd e x)
  | .bitsf x=>Xa5 h (opd e x)
  | .same x=>.ok (opd e x) h
  | .mkz el x=>sMkz h el (opd e x)
  | .p2u x=>sP2u h (opd e x)
  | .u2p u s x=>sU2p h u s (opd e x)
  | .pan x=>sPan h (opd e x)
  | .stop=>.no
abbrev K:=T V->H->Res
def put (nt:Nat)(e:T V)(d:Option Nat)(v:V):T V :=
  match d with
  |some d=>if d<nt then e.set .bot d v else e
  |none=>e
def want (e:T V):Option (Nat×Bool)->Bool
  |none=>true
  |some (t,w)=>match e.get .bot t with
    | .bool b=>b == w
    |_=>false
def known (e:T V):Option (Nat×Bool)->Bool
  |none=>true
  |some (t,_)=>match e.get .bot t with
    | .bool _=>true
    | .tup _=>true
    |_=>false
def YW (call:Nat->List V->H->Res)(nt:Nat):List CI->T V->H->K->Res
  |[],e,h,k=>k e h
  |i::l,e,h,k =>
    if known e i.g=false then .no else
    if want e i.g then match step call e h i.op with
      | .ok v h'=>YW call nt l (put nt e i.dst v) h' k
      | .pan v h'=>.pan v h'
      | .no=>.no
    else YW call nt l (put nt e i.dst (.tup [])) h k
def H.raise (h:H):H:={ h with fl:=h.n }
def H.lower (h:H)(fl:Nat):H:={ h with fl:=fl }
def apart:V->V->Bool
  | .sl o _ _ _ _ _,.ptr o' _=>!Nat.beq o o'
  | .nils,.ptr _ _=>true
  |_,_=>false
def Xbe (tx tp:Nat):Nat:=1000000+1000*tx+tp
def XZ (nt:Nat)(e:T V)(h:H):List Nat->Bool
  |[]=>true
  |t::r=>if Nat.ble 1000000 t then apart (e.get .bot ((t-1000000) / 1000)) (e.get .bot ((t-1000000)%1000))&&XZ nt e h r
    else if Nat.blt t nt then match e.get .bot t with
      | .ptr o _=>alive h o&&XZ nt e h r
      |_=>XZ nt e h r
    else false
def H.top (h:H):Nat->H
  |0=>h
  |_+1=>h.raise
def Yb (call:Nat->List V->H->Res)(nt:Nat)(al:List Nat):List CI->Nat->T V->H->K->Res
  |[],_,e,h,k=>if XZ nt e h al then k e h else .no
  |i::l,m,e,h,k =>
    if known e i.g=false then .no else
    if want e i.g then match step call e (h.top m) i.op with
      | .ok v h'=>Yb call nt al l (m-1) (put nt e i.dst v) (h'.lower h.fl) k
      |_=>.no
    else Yb call nt al l (m-1) (put nt e i.dst (.tup [])) h k
def look (id:Nat):List (Nat×K)->Option K
  |[]=>none
  | (i,k)::r=>if i=id then some k else look id r
def ZT (body:T V->H->K->Res):Nat->T V->H->Res
  |0,_,_=>.no
  |n+1,e,h=>body e h (fun e h=>ZT body n e h)
def exec (call:Nat->List V->H->Res)(fuel nt:Nat):CC->T V->H->K->List (Nat×K)->K->Res
  | .skip,e,h,_,_,k=>k e h
  | .ops l,e,h,_,_,k=>YW call nt l e h k
  | .draw m al l,e,h,_,_,k=>Yb call nt al l m e h k
  | .seq a b,e,h,r,x,k=>exec call fuel nt a e h r x (fun e h=>exec call fuel nt b e h r x k)
  | .cond c a b,e,h,r,x,k=>match opd e c with
    | .bool true=>exec call fuel nt a e h r x k
    | .bool false=>exec call fuel nt b e h r x k
    |_=>.no
  | .block id b,e,h,r,x,k=>exec call fuel nt b e h r ((id,k)::x) k
  | .loop b,e,h,r,x,_=>ZT (fun e h k'=>exec call fuel nt b e h r x k') fuel e h
  | .exit id,e,h,_,x,_=>match look id x with
    |some k=>k e h
    |none=>.no
  | .ret,e,h,r,_,_=>r e h
  | .bad,_,_,_,_,_=>.no
def ZU:List V->Nat->T V->T V
  |[],_,e=>e
  |v::r,i,e=>ZU r (i+1) (e.set .bot i v)
def resV (e:T V)(h:H):CR->Option V
  | .t i=>some (e.get .bot i)
  | .m1 i=>match e.get .bot i with
    | .ptr o j=>match YN h o j 1 with
      |some [v]=>some v
      |_=>none
    |_=>none
  | .mn i n=>match e.get .bot i with
    | .ptr o j=>match YN h o j n with
      |some l=>some (.agg l)
      |none=>none
    |_=>none
def resL (e:T V)(h:H):List CR->Option (List V)
  |[]=>some []
  |c::r=>match resV e h c,resL e h r with
    |some v,some l=>some (v::l)
    |_,_=>none
def results (res:List CR)(e:T V)(h:H):Res :=
  match resL e h res with
  |some [v]=>.ok v h
  |some l=>.ok (.tup l) h
  |none=>.no
def call (tab:Nat->Option CFn):Nat->Nat->List V->H->Res
  |0,_,_,_=>.no
  | n + 1, f, args, h => match tab f with
    |none=>.no
    |some c=>if args.length<=c.nt then
        exec (call tab n) n c.nt c.body (ZU args 0 .lf) h (fun e h=>results c.res e h) [] (fun e h=>results c.res e h)
      else .no
end
end Go.Vm
namespace Go.Vm
def numOf (l:List UInt8):Nat:=l.foldl (fun a b=>a*256+b.toNat) 0
mutual
def ofValue:Value->Option V
  | .bool b=>some (.bool b)
  | .int k n=>some (.int k n)
  | .float .f64 b=>some (.flt b)
  | .string s=>some (.str s.size (numOf s.data.toList))
  | .pointer none=>some .nil
  | .slice none 0 0=>some .nils
  | .map none=>some .nilm
  | .nilFunc=>some .nilf
  | .nilIface=>some .nili
  | .iface t v=>match ofValue v with
    |some x=>some (.ifc t x)
    |none=>none
  | .agg ⟨cs⟩=>match ofValues cs with
    |some l=>some (.agg l)
    |none=>none
  | .tuple ⟨cs⟩=>match ofValues cs with
    |some l=>some (.tup l)
    |none=>none
  |_=>none
def ofValues:List Value->Option (List V)
  |[]=>some []
  |v::r=>match ofValue v,ofValues r with
    |some x,some l=>some (x::l)
    |_,_=>none
end
section
variable (P:Program)
def Xj:Operand->Option Opd
  | .tmp t=>some (.t t)
  | .const v=>match ofValue v with
    |some x=>some (.c x)
    |none=>none
  | .global g=>if g<P.globals.size then some (.c (.ptr g 0)) else none
  | .func f=>some (.c (.fn f []))
def Zj:List Operand->Option (List Opd)
  |[]=>some []
  |x::r=>match Xj P x,Zj r with
    |some y,some l=>some (y::l)
    |_,_=>none
def YO:Option Operand->Option (Option Opd)
  |none=>some none
  |some x=>match Xj P x with
    |some y=>some (some y)
    |none=>none
def zeroOf (t:Nat):Option (List V) :=
  match P.info? t with
  |some i=>match i.zero with
    |some z=>match ofValues z.cells.toList with
      |some l=>if l.length=i.size then some l else none
      |none=>none
    |none=>none
  |none=>none
def Xq (t:Nat):Option Nat:=match P.info? t with
  |some i=>some i.size
  |none=>none
def isAg (t:Nat):Option Bool:=match P.underlying t with
  |some (.struct _)=>some true
  |some (.array _ _)=>some true
  |some _=>some false
  |none=>none
def partsOf (place:Nat->Option (Nat×Nat)):List (Nat×Operand)->Option (List (Nat×Nat×Opd))
  |[]=>some []
  | (i,x)::r=>match place i,Xj P x,partsOf place r with
    |some (off,n),some y,some l=>some ((off,n,y)::l)
    |_,_,_=>none
def Wy (fs:Array Field)(i:Nat):Option (Nat×Nat) :=
  match fs[i]? with
  |some f=>match Xq P f.type with
    |some s=>some (f.offset,s)
    |none=>none
  |none=>none
def leaves:Nat->Nat->Nat->Option (List (Nat×LK))
  |0,_,_=>none
  | d + 1, t, base => match P.underlying t with
    |some (.int _)=>some [(base,.i)]
    |some .bool=>some [(base,.b)]
    |some .string=>some [(base,.s)]
    |some (.struct fs)=>if P.stoodInHeld t=false then match Xq P t with
        | some n => fs.toList.foldr (fun f acc => if f.name = "_" then none else match acc, leaves d f.type (base + f.offset), Xq P f.type with
          |some r,some l,some s=>if f.offset+s<=n/\0<s then some (l++r) else none
          |_,_,_=>none) (some [])
        |none=>none
      else none
    |_=>none
def isC:Operand->Bool
  | .const _=>true
  |_=>false
def XjC (t:Nat)(c:Bool):Option EqK :=
  match P.underlying t with
  |some .bool=>some .bool
  |some (.pointer e)=>match Xq P e with
    |some (_+1)=>some .ptr
    |_=>none
  |some (.slice _)=>some .sl
  |some (.func _ _ _)=>some .fn
  |some (.interface ms)=>some (.ifc (c||ms.isEmpty))
  |_=>none
def XbW (fn:Func):List Opd->Option COp
  | [x] =>
    if (Extern.findNext fn).isSome then none
    else if fn.name = "math.Float64bits" then some (.fbits x)
    else if fn.name = "math.Float64frombits" then some (.bitsf x)
    else if fn.name = "internal/abi.NoEscape" then some (.same x)
    else if fn.name = "internal/bytealg.MakeNoZero" then
      match fn.resultTypes.toList with
      |[t]=>match P.underlying t with
        |some (.slice e)=>match Xq P e with
          |some 1=>some (.mkz e x)
          |_=>none
        |_=>none
      |_=>none
    else none
  |_=>none
def XfM (c:Call):Option COp :=
  match Zj P c.args.toList with
  |none=>none
  |some args =>
  match c.callee with
  | .value (.func f)=>match P.funcs[f]? with
    | some fn => if fn.name = "runtime.NumGoroutine" then none else
      if fn.body.isSome then some (.calf f args) else XbW P fn args
    |none=>none
  | .value x=>match Xj P x with
    |some y=>some (.calv y args)
    |none=>none
  | .invoke _ _=>none
  | .builtin b =>
    match b,args with
    | .append,[x,y]=>match c.argTypes[0]?,c.argTypes[1]? with
      |some t,some u=>match P.underlying t,P.underlying u with
        |some (.slice e),some (.int _)=>match P.info? e,zeroOf P e with
          |some i,some z=>if 0<i.size then some (.apz z i.size i.bytes e x y) else none
          |_,_=>none
        |some (.slice e),some _=>match P.info? e,zeroOf P e with
          |some i,some _=>if 0<i.size then some (.app i.size i.bytes e x y) else none
          |_,_=>none
        |_,_=>none
      |_,_=>none
    | .copy,[x,y]=>match c.argTypes[0]? with
      |some t=>match P.underlying t with
        |some (.slice e)=>match Xq P e with
          |some s=>some (.cpy s x y)
          |none=>none
        |_=>none
      |none=>none
    | .len,[x]=>match c.argTypes[0]? with
      |some t=>match P.underlying t with
        |some .string=>some (.lnt x)
        |some (.slice _)=>some (.len x)
        |some (.array n _)=>some (.lenc n)
        |some (.pointer a)=>match P.underlying a with
          |some (.array n _)=>some (.lenc n)
          |_=>none
        |_=>none
      |none=>none
    | .cap,[x]=>match c.argTypes[0]? with
      |some t=>match P.underlying t with
        |some (.slice _)=>some (.cap x)
        |_=>none
      |none=>none
    | .max,xs=>some (.mm true xs)
    | .min,xs=>some (.mm false xs)
    | .unsafeSliceData,[x]=>some (.usd x)
    | .unsafeString,[x,n]=>match c.argTypes[0]? with
      |some pt=>match P.underlying pt with
        |some (.pointer el)=>match Xq P el with
          |some 1=>some (.ust el x n)
          |_=>none
        |_=>none
      |none=>none
    |_,_=>none
def Xjc (op:BinOp)(t:Nat)(x y:Operand):Option COp :=
  match Xj P x,Xj P y,P.underlying t with
  |some a,some b,some d=>match d with
    | .int _ | .string | .float _=>some (.bin op a b)
    | .struct _=>match leaves P 20 t 0,P.eqGuardType P.depth t,op with
      |some l,false,.eql=>some (.eqs false l a b)
      |some l,false,.neq=>some (.eqs true l a b)
      |_,_,_=>none
    |_=>match XjC P t (isC x||isC y),op with
      |some k,.eql=>some (.eq k false a b)
      |some k,.neq=>some (.eq k true a b)
      |_,_=>none
  |_,_,_=>none
def XfJ (s d:Nat)(x:Opd):Option COp :=
  match P.underlying s,P.underlying d with
  |some (.int _),some (.int k)=>some (.cvi k x)
  |some .string,some .string=>some (.cvs x)
  |some (.pointer t),some .unsafePointer=>match Xq P t with
    |some (_+1)=>some (.p2u x)
    |_=>none
  |some .unsafePointer,some (.pointer u)=>match Xq P u with
    |some (s+1)=>some (.u2p u (s+1) x)
    |_=>none
  |some (.slice e),some .string=>match P.underlying e with
    |some (.int .u8)=>some (.b2s x)
    |_=>none
  |some .string,some (.slice e)=>match P.underlying e with
    |some (.int .u8)=>some (.s2b e x)
    |_=>none
  |_,_=>none
def Xda (t:Nat)(x:Opd)(lo hi mx:Option Opd):Option COp :=
  match P.underlying t with
  |some .string=>if mx.isNone then some (.slt x lo hi) else none
  |some (.slice e)=>match Xq P e with
    |some (s+1)=>some (.sls (s+1) x lo hi mx)
    |_=>none
  |some (.array n e)=>match Xq P e with
    |some (s+1)=>some (.slp (s+1) n x lo hi mx)
    |_=>none
  |some (.pointer a)=>match P.underlying a with
    |some (.array n e)=>match Xq P e with
      |some (s+1)=>some (.slp (s+1) n x lo hi mx)
      |_=>none
    |_=>none
  |_=>none
def XfI (o:Oper):Option COp :=
  match o.op with
  | .move x=>match Xj P x with
    |some y=>some (.mv y)
    |none=>none
  | .assign x=>match Xj P x with
    |some y=>some (.mv y)
    |none=>none
  | .pick c a b=>match Xj P c,Xj P a,Xj P b with
    |some c,some a,some b=>some (.pick c a b)
    |_,_,_=>none
  | .alloc t=>match zeroOf P t with
    |some z=>some (.alc z t)
    |none=>none
  | .box t x=>match Xj P x with
    |some y=>some (.box t y)
    |none=>none
  | .build t ps=>match zeroOf P t,P.underlying t with
    |some z,some (.struct fs)=>if fs.toList.all (fun f=>(Xq P f.type).isSome) then match partsOf P (Wy P fs) ps.toList with
        |some l=>some (.bld z l)
        |none=>none
      else none
    |some z,some (.array _ e)=>match Xq P e with
      |some s=>match partsOf P (fun i=>some (i*s,s)) ps.toList with
        |some l=>some (.bld z l)
        |none=>none
      |none=>none
    |_,_=>none
  | .buildSlice t len ps=>match P.underlying t with
    |some (.slice e)=>match zeroOf P e,Xq P e with
      |some z,some (s+1)=>match partsOf P (fun i=>some (i*(s+1),s+1)) ps.toList with
        |some l=>if len*(s+1)<=16777216 then some (.bsl z len (s+1) e l) else none
        |none=>none
      |_,_=>none
    |_=>none
  | .load t x=>match isAg P t,Xq P t,Xj P x with
    |some true,some n,some y=>some (.ldn n y)
    |some false,some _,some y=>some (.ld y)
    |_,_,_=>none
  | .store t x v=>match isAg P t,Xq P t,Xj P x,Xj P v with
    |some _,some n,some y,some z=>some (.st n y z)
    |_,_,_,_=>none
  | .nilCheck x=>match Xj P x with
    |some y=>some (.nck y)
    |none=>none
  | .binOp op t x y _=>Xjc P op t x y
  | .unOp op _ x=>match Xj P x with
    |some y=>some (.un op y)
    |none=>none
  | .convert s d x=>match Xj P x with
    |some y=>XfJ P s d y
    |none=>none
  | .makeInterface t x=>match Xj P x,P.underlying t with
    |some _,some (.interface _)=>none
    |some y,some _=>some (.mki t y)
    |_,_=>none
  | .makeFunc fn first caps=>match fn,first.toList,Zj P caps.toList with
    | .func f,[],some l=>some (.mkf f l)
    |_,_,_=>none
  | .makeSlice t l c=>match P.underlying t,Xj P l,Xj P c with
    |some (.slice e),some l,some c=>match P.info? e,zeroOf P e with
      |some i,some z=>if 0<i.size then some (.mks z i.size i.bytes e l c) else none
      |_,_=>none
    |_,_,_=>none
  | .slice t x lo hi mx=>match Xj P x,YO P lo,YO P hi,YO P mx with
    |some x,some lo,some hi,some mx=>Xda P t x lo hi mx
    |_,_,_,_=>none
  | .fieldAddr t x f=>match P.underlying t,Xj P x with
    |some (.struct fs),some y=>match fs[f]? with
      |some fl=>match Xq P fl.type with
        |some (_+1)=>some (.fad fl.offset y)
        |_=>none
      |none=>none
    |_,_=>none
  | .field t x f=>match P.underlying t,Xj P x with
    |some (.struct fs),some y=>match fs[f]? with
      |some fl=>match Xq P fl.type,isAg P fl.type with
        |some n,some true=>some (.fld fl.offset n true y)
        |some _,some false=>some (.fld fl.offset 1 false y)
        |_,_=>none
      |none=>none
    |_,_=>none
  | .indexAddr t x i=>match P.underlying t,Xj P x,Xj P i with
    |some (.array n e),some x,some i=>match Xq P e with
      |some s=>some (.ixp s n x i)
      |none=>none
    |some (.slice e),some x,some i=>match Xq P e with
      |some s=>some (.ixs s x i)
      |none=>none
    |_,_,_=>none
  | .index t x i=>match P.underlying t,Xj P x,Xj P i with
    |some (.array n e),some x,some i=>match Xq P e,isAg P e with
      |some s,some true=>some (.ixa s n true x i)
      |some 1,some false=>some (.ixa 1 n false x i)
      |_,_=>none
    |some .string,some x,some i=>some (.ixt x i)
    |_,_,_=>none
  | .extract x i=>match Xj P x with
    |some y=>some (.ext y i)
    |none=>none
  | .call c=>XfM P c
  | .range t x=>match P.underlying t,Xj P x with
    |some .string,some y=>some (.rng y)
    |_,_=>none
  | .next x s=>match Xj P x,s with
    |some y,true=>some (.nxt y)
    |_,_=>none
  | .panic x=>match Xj P x with
    |some y=>some (.pan y)
    |none=>none
  |_=>none
mutual
def wfB (n:Nat):V->Bool
  | .ptr o _=>Nat.blt o n
  | .sl o _ _ _ _ _=>Nat.blt o n
  | .mp o=>Nat.blt o n
  | .fn _ caps=>wfsB n caps
  | .ifc _ v=>wfB n v
  | .agg l=>wfsB n l
  | .tup l=>wfsB n l
  | .int _ _=>true
  | .bool _=>true
  | .str _ _=>true
  | .flt _=>true
  | .nil=>true
  | .nils=>true
  | .nilm=>true
  | .nilf=>true
  | .nili=>true
  | .nan=>true
  | .nani=>true
  | .bot=>true
def wfsB (n:Nat):List V->Bool
  |[]=>true
  |v::r=>wfB n v&&wfsB n r
end
def COp.opds:COp->List Opd
  | .mv x | .box _ x | .ld x | .ldn _ x | .nck x | .un _ x | .cvi _ x | .cvs x | .b2s x | .s2b _ x | .mki _ x | .fad _ x | .fld _ _ _ x
  | .ext x _ | .len x | .lnt x | .cap x | .rng x | .nxt x | .usd x | .fbits x | .bitsf x | .same x | .mkz _ x | .p2u x | .u2p _ _ x | .pan x=>[x]
  | .pick c a b=>[c,a,b]
  | .alc _ _ | .lenc _ | .stop=>[]
  | .bld _ ps | .bsl _ _ _ _ ps=>ps.map (·.2.2)
  | .st _ x v=>[x,v]
  | .bin _ x y | .eq _ _ x y | .eqs _ _ x y | .ixs _ x y | .ixp _ _ x y | .ixa _ _ _ x y | .ixt x y | .app _ _ _ x y | .cpy _ x y | .ust _ x y=>[x,y]
  | .mkf _ l | .calf _ l | .mm _ l=>l
  | .mks _ _ _ _ l c=>[l,c]
  | .apz _ _ _ _ x n=>[x,n]
  | .slt x lo hi=>x::lo.toList++hi.toList
  | .sls _ x lo hi mx | .slp _ _ x lo hi mx=>x::lo.toList++hi.toList++mx.toList
  | .calv f l=>f::l
def COp.zs:COp->List V
  | .alc z _ | .bld z _ | .bsl z _ _ _ _ | .mks z _ _ _ _ _ | .apz z _ _ _ _ _=>z
  |_=>[]
def opdB (n:Nat):Opd->Bool
  | .t _=>true
  | .c v=>wfB n v
def copB (n:Nat)(c:COp):Bool:=c.opds.all (opdB n)&&wfsB n c.zs
def Xaz (o:Oper):COp:=match XfI P o with
  |some c=>if copB P.globals.size c then c else .stop
  |none=>.stop
def ciOf (ops:Array Oper)(o:Oper):Option CI :=
  match o.guard with
  |none=>some ⟨o.dst,Xaz P o,none⟩
  |some (j,w)=>match ops[j]? with
    |some p=>match p.dst with
      |some d=>some ⟨o.dst,Xaz P o,some (d,w)⟩
      |none=>none
    |none=>none
def Xa0 (ops:Array Oper):List Oper->Option (List CI)
  |[]=>some []
  |o::r=>match ciOf P ops o,Xa0 ops r with
    |some c,some l=>some (c::l)
    |_,_=>none
def Y3:COp->Bool
  | .mv _ | .pick _ _ _ | .bld _ _ | .un _ _ | .bin _ _ _ | .cvi _ _ | .cvs _ | .nck _ | .fad _ _ | .fld _ _ _ _ | .ext _ _ | .mki _ _ | .mkf _ _ | .ixt _ _ | .slt _ _ _ | .lnt _ | .lenc _ | .ixa _ _ _ _ _ | .eqs _ _ _ _ | .mm _ _=>true
  |_=>false
def Xff:COp->Bool
  | .nck _ | .fad _ _=>true
  |_=>false
def turns:COp->Bool
  | .st _ _ _ | .app _ _ _ _ _ | .cpy _ _ _ | .nxt _ | .ust _ _ _ | .stop | .pan _=>true
  |_=>false
def ldOp:COp->Bool
  | .ld _ | .ldn _ _=>true
  |_=>false
def ldP:COp->Option Nat
  | .ld (.t i) | .ldn _ (.t i)=>some i
  |_=>none
def appX:COp->Option Nat
  | .app _ _ _ (.t i) _=>some i
  |_=>none
def XdI:COp->Bool
  | .calf _ _ | .calv _ _=>true
  |_=>false
def Xqu:Opd->Option Nat
  | .t i=>some i
  | .c _=>none
def CI.names (i:CI):List Nat :=
  i.dst.toList++i.op.opds.filterMap Xqu++(match i.g with
    |some (t,_)=>[t]
    |none=>[])
def writes (a b:CI):Bool:=match a.dst with
  |some d=>b.names.contains d
  |none=>false
def Xew (a b:CI):Bool:=match a.dst,b.dst with
  |some x,some y=>Nat.beq x y
  |_,_=>false
def Ww (md:Region.Mode)(ops:Array Oper)(l:List Nat):Bool :=
  (List.range ops.size).all (fun i=>l.contains i) &&
  l.zipIdx.all (fun (k,q)=>(ops.getD k default).after.toList.all fun e=>!Region.binds md e||(l.take q).contains e.on)
def Xb4:List Oper->List Nat->List Nat
  |[],acc=>acc
  |o::r,acc=>Xb4 r (acc++[o.after.toList.foldl (fun s e=>if Region.binds .any e then s ||| 2 ^ e.on ||| acc.getD e.on 0 else s) 0])
def untold (l:List CI)(p t:Nat):Bool:=(l.drop p).all fun b=>match b.dst with
  |some d=>!Nat.beq d t
  |none=>true
def XgZ (l:List CI)(al:List Nat)(m p q:Nat)(a b:CI):Bool:=match ldP a.op,appX b.op with
  |some tp,some tx=>Nat.blt p m&&Nat.blt tp 1000&&al.contains (Xbe tx tp)&&untold l p tp&&untold l q tx
  |_,_=>false
def XdG (l:List CI)(al:List Nat)(bs:List Nat)(m p q i k:Nat)(a b:CI):Bool :=
  !Nat.beq i k&&!Xew a b&&((bs.getD k 0).testBit i||(!writes a b&&!writes b a&&(Nat.blt q m||Y3 a.op||Y3 b.op||XgZ l al m p q a b)))
def Xe3 (l:List CI)(al:List Nat)(bs:List Nat)(m:Nat):Nat->List (Nat×CI)->Bool
  |_,[]=>true
  |p,(i,a)::r=>(r.zipIdx (p+1)).all (fun ((k,b),q)=>XdG l al bs m p q i k a b)&&Xe3 l al bs m (p+1) r
def XjD (ops:Array Oper)(ord:List Nat)(m:Nat)(al:List Nat)(l:List CI):Bool :=
  Ww .any ops (List.range ops.size)&&Ww .text ops (List.range ops.size)&&Ww .gc ops (Region.linearise .gc ops 0) &&
  Nat.beq ord.length ops.size&&Nat.ble m ops.size&&(List.range ops.size).all (fun i=>ord.contains i)&&ord.all (fun i=>Nat.blt i ops.size) &&
  Xe3 l al (Xb4 ops.toList []) m 0 (ord.zip l) &&
  l.all (fun c=>!Xff c.op||(match c.dst with | some d=>al.contains d&&Nat.blt d 1000000 | none=>false))
def Xp7 (b:List Nat)(n:Nat)(s:List Nat):List Nat :=
  (List.range n).filter fun k=>s.any fun i=>i == k||(b.getD k 0).testBit i
def ordered (ops:Array Oper)(ord:List Nat):List Oper:=ord.map fun i=>ops.getD i default
def Xhy (ops:Array Oper):Option (Nat×List Nat×List Nat×List CI) :=
  let b:=Xb4 ops.toList []
  let n:=ops.size
  let cops:=ops.toList.map (Xaz P)
  let cop (i:Nat):COp:=cops.getD i .stop
  let ps:=(List.range n).flatMap fun i=>match ldP (cop i) with
    |some tp=>(List.range n).filterMap fun k=>match appX (cop k) with
      |some tx=>if (b.getD k 0).testBit i||(b.getD i 0).testBit k then none else some (Xbe tx tp)
      |none=>none
    |none=>[]
  let al:=((List.range n).filterMap fun i=>if Xff (cop i) then (ops.getD i default).dst else none)++ps
  let attempt (s:List Nat):Option (Nat×List Nat×List Nat×List CI) :=
    let t:=Xp7 b n s
    let first:=(List.range n).filter fun i=>!t.contains i
    let ord:=first++t
    match Xa0 P ops (ordered ops ord) with
    |some l=>if XjD ops ord first.length al l then some (first.length,al,ord,l) else none
    |none=>none
  match attempt ((List.range n).filter fun i=>turns (cop i)||XdI (cop i)) with
  |some r=>some r
  |none=>attempt ((List.range n).filter fun i=>turns (cop i))
def codeOf:Code->CC
  | .skip=>.skip
  | .region _ ops d=>if d then match Xhy P ops with
      |some (m,al,_,l)=>.draw m al l
      |none=>.bad
    else match Xa0 P ops ops.toList with
      |some l=>.ops l
      |none=>.bad
  | .seq a b=>.seq (codeOf a) (codeOf b)
  | .cond c a b=>match Xj P c with
    |some x=>.cond x (codeOf a) (codeOf b)
    |none=>.bad
  | .block id b=>.block id (codeOf b)
  | .loop b=>.loop (codeOf b)
  | .exit id=>.exit id
  | .scope b=>codeOf b
  | .label _=>.skip
  | .ret=>.ret
  |_=>.bad
def Xdj:List ResultVar->Option (List CR)
  |[]=>some []
  | .tmp t::r=>match Xdj r with
    |some l=>some (.t t::l)
    |none=>none
  | .cell a t::r=>match isAg P t,Xq P t,Xdj r with
    |some true,some n,some l=>some (.mn a n::l)
    |some false,some _,some l=>some (.m1 a::l)
    |_,_,_=>none
def fnOf (f:Nat):Option CFn :=
  match P.funcs[f]? with
  |none=>none
  |some fn=>match fn.body with
    |none=>none
    | some b => if fn.name = "runtime.NumGoroutine" then none else match Xdj P fn.results.toList with
      |some r=>some ⟨fn.ntmps,r,codeOf P b⟩
      |none=>none
end
end Go.Vm
namespace Go.Vm
section tree
variable {α:Type} (d:α)
theorem T.get_lf (i:Nat):(T.lf:T α).get d i=d:=rfl
theorem T.get_nd (v:α)(l r:T α)(i:Nat) :
    (T.nd v l r).get d i=if i=0 then v else if (i-1)%2=0 then l.get d ((i-1) / 2) else r.get d ((i-1) / 2):=by
  cases i with
  |zero=>rfl
  |succ j =>
    have e:(T.nd v l r).get d (j+1)=match j%2 with
      |0=>l.get d (j / 2)
      |_+1=>r.get d (j / 2):=T.get_succ d v l r j
    rw[e]
    rcases h:j%2 with _ | k<;>simp[h]
theorem T.make_succ (f i:Nat)(x:α) :
    T.make d (f+1) i x=if i=0 then .nd x .lf .lf else if (i-1)%2=0 then .nd d (T.make d f ((i-1) / 2) x) .lf else .nd d .lf (T.make d f ((i-1) / 2) x):=by
  cases i with
  |zero=>rfl
  |succ j =>
    have e:T.make d (f+1) (j+1) x=match j%2 with
      |0=>.nd d (T.make d f (j / 2) x) .lf
      |_+1=>.nd d .lf (T.make d f (j / 2) x):=rfl
    rw[e]
    rcases h:j%2 with _ | k<;>simp[h]
theorem T.set_nd (v:α)(l r:T α)(i:Nat)(x:α) :
    (T.nd v l r).set d i x=if i=0 then .nd x l r else if (i-1)%2=0 then .nd v (l.set d ((i-1) / 2) x) r else .nd v l (r.set d ((i-1) / 2) x):=by
  cases i with
  |zero=>rfl
  |succ j =>
    have e:(T.nd v l r).set d (j+1) x=match j%2 with
      |0=>.nd v (l.set d (j / 2) x) r
      |_+1=>.nd v l (r.set d (j / 2) x):=T.set_succ d v l r j x
    rw[e]
    rcases h:j%2 with _ | k<;>simp[h]
theorem T.get_make : ∀ (f i j : Nat) (x : α), i < f → (T.make d f i x).get d j = if i = j then x else d := by
  intro f
  induction f with
  |zero=>intro i j x h; omega
  |succ f ih =>
    intro i j x h;rw[T.make_succ]
    by_cases hi:i=0
    . subst hi
      simp only[if_true,T.get_nd,T.get_lf]
      by_cases hj:j=0
      . subst hj; simp
      . have:¬ (0=j):=fun e=>hj e.symm
        simp[hj,this]
    . simp only[hi,if_false]
      by_cases hm:(i-1)%2=0
      . simp only[hm,if_true,T.get_nd,T.get_lf]
        by_cases hj:j=0
        . subst hj; simp[hi]
        . simp only[hj,if_false]
          by_cases hk:(j-1)%2=0
          . simp only[hk,if_true]
            rw[ih _ _ _ (by omega)]
            have:((i-1) / 2=(j-1) / 2)<->i=j:=by omega
            simp[this]
          . simp only[hk,if_false]
            have:¬ i=j:=by intro e; subst e; exact hk hm
            simp[this]
      . simp only[hm,if_false,T.get_nd,T.get_lf]
        by_cases hj:j=0
        . subst hj; simp[hi]
        . simp only[hj,if_false]
          by_cases hk:(j-1)%2=0
          . simp only[hk,if_true]
            have:¬ i=j:=by intro e; subst e; exact hm hk
            simp[this]
          . simp only[hk,if_false]
            rw[ih _ _ _ (by omega)]
            have:((i-1) / 2=(j-1) / 2)<->i=j:=by omega
            simp[this]
theorem T.get_set : ∀ (t : T α) (i j : Nat) (x : α), (t.set d i x).get d j = if i = j then x else t.get d j := by
  intro t
  induction t with
  |lf=>intro i j x; rw[show (T.lf:T α).set d i x=T.make d (i+1) i x from rfl,T.get_make d _ _ _ _ (by omega),T.get_lf]
  |nd v l r ihl ihr =>
    intro i j x;rw[T.set_nd]
    by_cases hi:i=0
    . subst hi
      simp only[if_true,T.get_nd]
      by_cases hj:j=0
      . subst hj; simp
      . have:¬ (0=j):=fun e=>hj e.symm
        simp[hj,this]
    . simp only[hi,if_false]
      by_cases hm:(i-1)%2=0
      . simp only[hm,if_true,T.get_nd]
        by_cases hj:j=0
        . subst hj; simp[hi]
        . simp only[hj,if_false]
          by_cases hk:(j-1)%2=0
          . simp only[hk,if_true]
            rw[ihl]
            have:((i-1) / 2=(j-1) / 2)<->i=j:=by omega
            simp[this]
          . simp only[hk,if_false]
            have:¬ i=j:=by intro e; subst e; exact hk hm
            simp[this]
      . simp only[hm,if_false,T.get_nd]
        by_cases hj:j=0
        . subst hj; simp[hi]
        . simp only[hj,if_false]
          by_cases hk:(j-1)%2=0
          . simp only[hk,if_true]
            have:¬ i=j:=by intro e; subst e; exact hm hk
            simp[this]
          . simp only[hk,if_false]
            rw[ihr]
            have:((i-1) / 2=(j-1) / 2)<->i=j:=by omega
            simp[this]
end tree
theorem Xz (t:T V):∀ (n i:Nat),(Xx t i n).length=n
  |0,_=>rfl
  |n+1,i=>by simp[Xx,Xz t n (i+1)]
theorem Yd (t:T V):∀ (n i j:Nat),j<n->(Xx t i n)[j]? = some (t.get .bot (i+j))
  |0,_,_,h=>by omega
  |n+1,i,0,_=>by simp[Xx]
  |n+1,i,j+1,h=>by
    simp only[Xx,List.getElem?_cons_succ];rw[Yd t n (i+1) j (by omega)]
    congr 2; omega
theorem XK : ∀ (l : List V) (t : T V) (i j : Nat),
    (Xp t i l).get .bot j=if i<=j/\j<i+l.length then l.getD (j-i) .bot else t.get .bot j
  |[],t,i,j=>by
    simp only[Xp,List.length_nil,Nat.add_zero];rw[if_neg (by omega)]
  |v::r,t,i,j=>by
    simp only[Xp];rw[XK r (t.set .bot i v) (i+1) j,T.get_set];simp only[List.length_cons]
    by_cases h1:i=j
    . subst h1
      rw[if_neg (by omega),if_pos rfl,if_pos (by omega)]
      simp
    . rw[if_neg h1]
      by_cases h2:i+1<=j/\j<i+1+r.length
      . rw[if_pos h2,if_pos (by omega)]
        have:j-i=(j-(i+1))+1:=by omega
        rw[this,List.getD_cons_succ]
      . rw[if_neg h2,if_neg (by omega)]
theorem getD_of_getElem? {α:Type}{l:List α}{i:Nat}{x d:α} (h:l[i]? = some x):l.getD i d=x:=by
  simp[List.getD,h]
@[simp] theorem H.get_set (h:H) (o p:Nat) (x:Obj):(h.set o x).get p=if o=p then x else h.get p:=T.get_set _ _ _ _ _
@[simp] theorem H.get_push (h:H) (p:Nat) (x:Obj):(h.push x).get p=if h.n=p then x else h.get p:=T.get_set _ _ _ _ _
@[simp] theorem H.n_set (h:H) (o:Nat) (x:Obj):(h.set o x).n=h.n:=rfl
@[simp] theorem H.n_push (h:H) (x:Obj):(h.push x).n=h.n+1:=rfl
@[simp] theorem H.fl_set (h:H) (o:Nat) (x:Obj):(h.set o x).fl=h.fl:=rfl
@[simp] theorem H.fl_push (h:H) (x:Obj):(h.push x).fl=h.fl:=rfl
theorem Xb1 (l:List V)(off:Nat)(c:List V)(h:off+c.length<=l.length):(Zg l off c).length=l.length:=by
  simp only[Zg,List.length_append,List.length_take,List.length_drop]; omega
theorem getElem?_setRange (l:List V)(off:Nat)(c:List V)(h:off+c.length<=l.length)(i:Nat) :
    (Zg l off c)[i]? = if off<=i/\i<off+c.length then c[i-off]? else l[i]? := by
  simp only[Zg];rw[List.append_assoc,List.getElem?_append];simp only[List.length_take]
  by_cases h1:i<off
  . rw[if_pos (by omega),List.getElem?_take,if_pos h1,if_neg (by omega)]
  . rw[if_neg (by omega),List.getElem?_append]
    have e:min off l.length=off:=by omega
    rw[e]
    by_cases h2:i-off<c.length
    . rw[if_pos h2,if_pos (by omega)]
    . rw[if_neg h2,if_neg (by omega),List.getElem?_drop]
      congr 1; omega
theorem WN (a b:List UInt8):numOf (a++b)=numOf a*256 ^ b.length+numOf b:=by
  suffices h:∀ (b:List UInt8) (k:Nat),b.foldl (fun a b=>a*256+b.toNat) k=k*256 ^ b.length+numOf b by
    unfold numOf; rw[List.foldl_append,h b]; rfl
  intro b
  induction b with
  |nil=>intro k; simp[numOf]
  |cons x r ih =>
    intro k;simp only[List.foldl_cons,List.length_cons,numOf];rw[ih,ih];simp only[Nat.zero_mul,Nat.zero_add];rw[Nat.pow_succ,Nat.add_mul];rw[show k*(256 ^ r.length*256)=k*256*256 ^ r.length by rw[Nat.mul_comm (256 ^ r.length) 256,← Nat.mul_assoc],Nat.add_assoc]
theorem Z0 (x:UInt8)(l:List UInt8):numOf (x::l)=x.toNat*256 ^ l.length+numOf l:=by
  have:=WN [x] l
  simpa [numOf] using this
theorem Xl2:numOf []=0:=rfl
theorem ZI (l:List UInt8):numOf l<256 ^ l.length:=by
  induction l with
  |nil=>simp[numOf]
  |cons x r ih =>
    rw[Z0,List.length_cons,Nat.pow_succ]
    have hx:x.toNat<256:=x.toNat_lt
    have:(x.toNat+1)*256 ^ r.length<=256*256 ^ r.length:=Nat.mul_le_mul_right _ (by omega)
    rw[Nat.add_mul,Nat.one_mul] at this;rw[Nat.mul_comm (256 ^ r.length) 256];omega
theorem Xgw : ∀ (a b : List UInt8), a.length = b.length → numOf a = numOf b → a = b := by
  intro a
  induction a with
  |nil=>intro b h _; cases b with
    |nil=>rfl
    |cons _ _=>simp at h
  |cons x r ih =>
    intro b h e
    cases b with
    |nil=>simp at h
    |cons y s =>
      simp only[List.length_cons,Nat.add_right_cancel_iff] at h;rw[Z0,Z0,h] at e;have h1:=ZI r;have h2:=ZI s;rw[h] at h1
      have hd:x.toNat=y.toNat:=by
        have e1:(x.toNat*256 ^ s.length+numOf r) / 256 ^ s.length=x.toNat:=by
          rw[Nat.mul_comm,Nat.mul_add_div (Nat.pos_of_ne_zero (by simp)),Nat.div_eq_of_lt h1,Nat.add_zero]
        have e2:(y.toNat*256 ^ s.length+numOf s) / 256 ^ s.length=y.toNat:=by
          rw[Nat.mul_comm,Nat.mul_add_div (Nat.pos_of_ne_zero (by simp)),Nat.div_eq_of_lt h2,Nat.add_zero]
        rw[← e1,← e2,e]
      have hxy:x=y:=UInt8.toNat_inj.1 hd
      subst hxy
      have:numOf r=numOf s:=by omega
      rw[ih s h this]
theorem Xl4 (a b:List UInt8):numOf (a++b) / 256 ^ b.length=numOf a:=by
  rw[WN,Nat.mul_comm,Nat.mul_add_div (Nat.pos_of_ne_zero (by simp)),Nat.div_eq_of_lt (ZI b),Nat.add_zero]
theorem Xl3 (a b:List UInt8):numOf (a++b)%256 ^ b.length=numOf b:=by
  rw[WN,Nat.mul_comm,Nat.mul_add_mod,Nat.mod_eq_of_lt (ZI b)]
theorem Yx (l:List UInt8)(lo hi:Nat)(h1:lo<=hi)(h2:hi<=l.length) :
    XbD l.length (numOf l) lo hi=numOf ((l.take hi).drop lo):=by
  have e1:l=l.take hi++l.drop hi:=(List.take_append_drop hi l).symm
  have e2:l.take hi=(l.take hi).take lo++(l.take hi).drop lo:=(List.take_append_drop lo _).symm
  have hl:(l.drop hi).length=l.length-hi:=List.length_drop ..
  have hm:((l.take hi).drop lo).length=hi-lo:=by simp[List.length_drop,List.length_take]; omega
  show (numOf l / 256 ^ (l.length-hi))%256 ^ (hi-lo)=_
  have:numOf l / 256 ^ (l.length-hi)=numOf (l.take hi):=by
    have:=Xl4 (l.take hi) (l.drop hi)
    rw[← e1,hl] at this;exact this
  rw[this]
  have:=Xl3 ((l.take hi).take lo) ((l.take hi).drop lo)
  rw[← e2,hm] at this;exact this
theorem Z5 (l:List UInt8)(i:Nat)(h:i<l.length):XbE l.length (numOf l) i=(l[i]).toNat:=by
  have:=Yx l i (i+1) (by omega) (by omega)
  have e:XbE l.length (numOf l) i=XbD l.length (numOf l) i (i+1):=by
    show _%256=_%256 ^ (i+1-i)
    have h1:l.length-1-i=l.length-(i+1):=by omega
    have h2:i+1-i=1:=by omega
    rw[h2]
    show (numOf l / 256 ^ (l.length-1-i))%256=(numOf l / 256 ^ (l.length-(i+1)))%256 ^ 1
    rw[h1,Nat.pow_one]
  rw[e,this]
  have:(l.take (i+1)).drop i=[l[i]]:=by
    rw[List.take_succ_eq_append_getElem h,List.drop_append_of_le_length (by simp; omega)]
    simp
  rw[this]
  simp[numOf]
theorem XcZ (a b:List UInt8):Xmv (numOf a) b.length (numOf b)=numOf (a++b):=by
  rw[WN]; rfl
theorem Yn (a b:List UInt8):Xbw a.length (numOf a) b.length (numOf b)=(a == b):=by
  have h:Xbw a.length (numOf a) b.length (numOf b)=(decide (a.length=b.length)&&decide (numOf a=numOf b)):=by
    unfold Xbw
    congr 1<;>(rw[Bool.eq_iff_iff,Nat.beq_eq]; simp)
  rw[h,Bool.eq_iff_iff];simp only[Bool.and_eq_true,decide_eq_true_eq,beq_iff_eq];constructor
  . rintro⟨h1,h2⟩; exact Xgw a b h1 h2
  . rintro rfl; exact⟨rfl,rfl⟩
theorem Xb7 : ∀ (a b : List UInt8), a.length = b.length → (Op.bytesLess a b = true ↔ numOf a < numOf b) := by
  intro a
  induction a with
  |nil=>intro b h; cases b with
    |nil=>simp[Op.bytesLess,numOf]
    |cons _ _=>simp at h
  |cons x r ih =>
    intro b h
    cases b with
    |nil=>simp at h
    |cons y s =>
      simp only[List.length_cons,Nat.add_right_cancel_iff] at h;rw[Z0,Z0,h];have h1:=ZI r;have h2:=ZI s;rw[h] at h1;simp only[Op.bytesLess,Bool.or_eq_true,decide_eq_true_eq,Bool.and_eq_true,beq_iff_eq];rw[ih s h]
      have hlt:(x<y)<->x.toNat<y.toNat:=UInt8.lt_iff_toNat_lt
      have heq:(x=y)<->x.toNat=y.toNat:=UInt8.toNat_inj.symm
      rw[hlt,heq];constructor
      . rintro (hx | ⟨hx,hr⟩)
        . have:(x.toNat+1)*256 ^ s.length<=y.toNat*256 ^ s.length:=Nat.mul_le_mul_right _ hx
          rw[Nat.add_mul,Nat.one_mul] at this;omega
        . rw[hx]; omega
      . intro hlt
        rcases Nat.lt_trichotomy x.toNat y.toNat with hx | hx | hx
        . exact .inl hx
        . exact .inr ⟨hx,by rw[hx] at hlt; omega⟩
        . have:(y.toNat+1)*256 ^ s.length<=x.toNat*256 ^ s.length:=Nat.mul_le_mul_right _ hx
          rw[Nat.add_mul,Nat.one_mul] at this;omega
theorem XfO:∀ (a b:List UInt8),Op.bytesLess a b =
    (Op.bytesLess (a.take (min a.length b.length)) (b.take (min a.length b.length)) ||
     (a.take (min a.length b.length) == b.take (min a.length b.length)&&decide (a.length<b.length))):=by
  intro a
  induction a with
  |nil=>intro b; cases b<;>simp[Op.bytesLess]
  |cons x r ih =>
    intro b
    cases b with
    |nil=>simp[Op.bytesLess]
    |cons y s =>
      have e:min (x::r).length (y::s).length=min r.length s.length+1:=by simp only[List.length_cons]; omega
      rw[e];simp only[List.take_succ_cons,Op.bytesLess];rw[ih s];simp only[List.length_cons,Nat.add_lt_add_iff_right,List.cons_beq_cons]
      cases decide (x<y)<;>cases (x == y)<;>simp
theorem YK (a b:List UInt8):Xbv a.length (numOf a) b.length (numOf b)=Op.bytesLess a b:=by
  rw[XfO]
  have hm:Nat.min a.length b.length=min a.length b.length:=rfl
  have e1:XbD a.length (numOf a) 0 (min a.length b.length)=numOf (a.take (min a.length b.length)):=by
    rw[Yx a 0 _ (by omega) (by omega)]; simp
  have e2:XbD b.length (numOf b) 0 (min a.length b.length)=numOf (b.take (min a.length b.length)):=by
    rw[Yx b 0 _ (by omega) (by omega)]; simp
  unfold Xbv;simp only[hm,e1,e2]
  have hl:(a.take (min a.length b.length)).length=(b.take (min a.length b.length)).length:=by simp[List.length_take]
  have h1:=Xb7 _ _ hl
  have h2:(Nat.blt (numOf (a.take (min a.length b.length))) (numOf (b.take (min a.length b.length))))=Op.bytesLess (a.take (min a.length b.length)) (b.take (min a.length b.length)):=by
    rw[Bool.eq_iff_iff,h1,Nat.blt_eq]
  have h3:(Nat.beq (numOf (a.take (min a.length b.length))) (numOf (b.take (min a.length b.length))))=(a.take (min a.length b.length) == b.take (min a.length b.length)):=by
    rw[Bool.eq_iff_iff,Nat.beq_eq,beq_iff_eq]
    exact⟨fun h=>Xgw _ _ hl h,fun h=>by rw[h]⟩
  have h4:Nat.blt a.length b.length=decide (a.length<b.length):=by rw[Bool.eq_iff_iff,Nat.blt_eq]; simp
  rw[h2,h3,h4]
end Go.Vm
namespace Go.Vm
mutual
def wf (n:Nat):V->Prop
  | .ptr o _=>o<n
  | .sl o _ _ _ _ _=>o<n
  | .mp o=>o<n
  | .fn _ caps=>wfs n caps
  | .ifc _ v=>wf n v
  | .agg l=>wfs n l
  | .tup l=>wfs n l
  | .int _ _ | .bool _ | .str _ _ | .flt _ | .nil | .nils | .nilm | .nilf | .nili | .nan | .nani | .bot=>True
def wfs (n:Nat):List V->Prop
  |[]=>True
  |v::r=>wf n v/\wfs n r
end
theorem XX (n:Nat):∀ l:List V,wfs n l<->∀ v∈l,wf n v
  |[]=>by simp[wfs]
  |v::r=>by simp[wfs,XX n r]
mutual
theorem YE {n m:Nat} (h:n<=m):∀ v:V,wf n v->wf m v
  | .ptr _ _,w | .sl _ _ _ _ _ _,w | .mp _,w=>Nat.lt_of_lt_of_le w h
  | .fn _ caps,w=>YH h caps w
  | .ifc _ v,w=>YE h v w
  | .agg l,w=>YH h l w
  | .tup l,w=>YH h l w
  | .int _ _,_ | .bool _,_ | .str _ _,_ | .flt _,_ | .nil,_ | .nils,_ | .nilm,_ | .nilf,_ | .nili,_ | .nan,_ | .nani,_ | .bot,_=>trivial
theorem YH {n m:Nat} (h:n<=m):∀ l:List V,wfs n l->wfs m l
  |[],_=>trivial
  |v::r,w=>⟨YE h v w.1,YH h r w.2⟩
end
def wfo (n:Nat):Obj->Prop
  | .c _ t _ _ _=>∀ i,wf n (t.get .bot i)
  | .m es=>∀ e∈es,wf n e.1/\wf n e.2
  |_=>True
theorem XlT {n m:Nat} (h:n<=m)(x:Obj)(w:wfo n x):wfo m x:=by
  cases x with
  |c k t sp el fz=>exact fun i=>YE h _ (w i)
  |m es=>exact fun e he=>⟨YE h _ (w e he).1,YE h _ (w e he).2⟩
  |si n x p=>trivial
  |dead=>trivial
def wfh (h:H):Prop:=h.fl<=h.n/\∀ o,wfo h.n (h.get o)
def wfe (n:Nat)(e:T V):Prop:=∀ i,wf n (e.get .bot i)
theorem Xb9 {n m:Nat} (h:n<=m) {e:T V} (w:wfe n e):wfe m e:=fun i=>YE h _ (w i)
structure Abs (h h':H):Prop where
  n:h.n<=h'.n
  fl:h'.fl=h.fl
  low:∀ o,o<h.fl->h'.get o=h.get o
  dead:∀ o,o<h.n->h.get o=.dead->h'.get o=.dead
theorem Abs.refl (h:H):Abs h h:=⟨Nat.le_refl _,rfl,fun _ _=>rfl,fun _ _ e=>e⟩
theorem Abs.trans {a b c:H} (x:Abs a b)(y:Abs b c):Abs a c :=
  ⟨Nat.le_trans x.n y.n,y.fl.trans x.fl,fun o ho=>(y.low o (x.fl▸ho)).trans (x.low o ho),fun o ho e=>y.dead o (Nat.lt_of_lt_of_le ho x.n) (x.dead o ho e)⟩
structure Grew (h h':H):Prop where
  abs:Abs h h'
  wf:wfh h->wfh h'
theorem Grew.refl (h:H):Grew h h:=⟨.refl h,id⟩
theorem Grew.trans {a b c:H} (x:Grew a b)(y:Grew b c):Grew a c:=⟨x.abs.trans y.abs,fun w=>y.wf (x.wf w)⟩
theorem Abs.push {h:H} (hf:h.fl<=h.n)(x:Obj):Abs h (h.push x) :=
  ⟨Nat.le_succ _,rfl,fun o ho=>by rw[H.get_push,if_neg (by omega)],fun o ho e=>by rw[H.get_push,if_neg (by omega)]; exact e⟩
theorem Xif {h:H}{x:Obj} (w:wfh h)(hx:wfo (h.n+1) x):wfh (h.push x):=by
  refine⟨Nat.le_succ_of_le w.1,fun o=>?_⟩
  rw[H.get_push,H.n_push];split
  . exact hx
  . exact XlT (Nat.le_succ _) _ (w.2 o)
theorem Abs.set {h:H}{o:Nat} (x:Obj)(hf:h.fl<=o)(hd:h.get o ≠ .dead):Abs h (h.set o x) :=
  ⟨Nat.le_refl _,rfl,fun p hp=>by rw[H.get_set,if_neg (by omega)],fun p hp e=>by
    rw[H.get_set]; split
    . rename_i he; subst he; exact absurd e hd
    . exact e⟩
theorem XcU {h:H}{o:Nat}{x:Obj} (w:wfh h)(hx:wfo h.n x):wfh (h.set o x):=by
  refine⟨w.1,fun p=>?_⟩
  rw[H.get_set,H.n_set];split
  . exact hx
  . exact w.2 p
end Go.Vm
namespace Go.Vm
def Good (h:H):Res->Prop
  | .ok v h'=>Abs h h'/\wfh h'/\wf h'.n v
  | .pan v h'=>Abs h h'/\wfh h'/\wf h'.n v
  | .no=>True
theorem Xh {h:H}{v:V} (w:wfh h)(hv:wf h.n v):Good h (.ok v h):=⟨.refl h,w,hv⟩
def Xi9 (n:Nat):Opd->Prop
  | .t _=>True
  | .c v=>wf n v
theorem XaW {n:Nat}{e:T V} (we:wfe n e) {x:Opd} (hc:Xi9 n x):wf n (opd e x):=by
  cases x with
  |t i=>exact we i
  |c v=>exact hc
theorem WV {n:Nat}{e:T V} (we:wfe n e):∀ {l:List Opd},(∀ x∈l,Xi9 n x)->wfs n (l.map (opd e))
  |[],_=>trivial
  |x::r,h=>⟨XaW we (h x (by simp)),WV we fun y hy=>h y (by simp[hy])⟩
theorem ZV {n:Nat}{a b:List V}:wfs n (a++b)<->wfs n a/\wfs n b:=by
  simp only[XX,List.mem_append]
  exact⟨fun h=>⟨fun v hv=>h v (.inl hv),fun v hv=>h v (.inr hv)⟩,fun h v hv=>hv.elim (h.1 v) (h.2 v)⟩
theorem XeD {n k:Nat}{l:List V} (h:wfs n l):wfs n (l.take k):=by
  rw[XX] at *; exact fun v hv=>h v (List.mem_of_mem_take hv)
theorem Xie {n k:Nat}{l:List V} (h:wfs n l):wfs n (l.drop k):=by
  rw[XX] at *; exact fun v hv=>h v (List.mem_of_mem_drop hv)
theorem wf_getElem? {n i:Nat}{l:List V}{v:V} (h:wfs n l)(e:l[i]? = some v):wf n v :=
  (XX n l).1 h v (List.mem_of_getElem? e)
theorem XjV {n:Nat}{l:List V} (h:wfs n l)(i:Nat):wf n (l.getD i .bot):=by
  rw[List.getD_eq_getElem?_getD]
  cases e:l[i]? with
  |none=>exact trivial
  |some v=>exact wf_getElem? h e
theorem Xd7 {n:Nat}{v:V}{l:List V} (h:wf n v)(e:v.cells=some l):wfs n l:=by
  unfold V.cells at e;split at e<;>simp only[Option.some.injEq,reduceCtorEq] at e
  . exact e▸h
  . exact e ▸ ⟨h,trivial⟩
theorem Xb8 {n:Nat}{z:List V} (h:wfs n z):∀ k,wfs n (repl z k)
  |0=>trivial
  |k+1=>ZV.2 ⟨h,Xb8 h k⟩
theorem XcS (m n x:Nat):wfs m (strCells n x):=by
  rw[XX]; intro v hv
  simp only[strCells,List.mem_map] at hv;obtain⟨i,_,rfl⟩:=hv
  trivial
theorem XgM {n off:Nat}{l c:List V} (h:wfs n l)(hc:wfs n c):wfs n (Zg l off c) :=
  ZV.2 ⟨ZV.2 ⟨XeD h,hc⟩,Xie h⟩
theorem XeF {n:Nat}{e:T V} (we:wfe n e):∀ (ps:List (Nat×Nat×Opd))(z l:List V),wfs n z->(∀ p∈ps,Xi9 n p.2.2)->fill e z ps=some l->wfs n l
  |[],z,l,hz,_,h=>by simp only[fill,Option.some.injEq] at h; exact h▸hz
  | (off,k,x)::r,z,l,hz,hp,h=>by
    simp only[fill] at h;split at h
    . rename_i c hc
      split at h
      . exact XeF we r _ l (XgM hz (Xd7 (XaW we (hp (off,k,x) (by simp))) hc)) (fun p hp'=>hp p (by simp[hp'])) h
      . cases h
    . cases h
theorem Xes {h:H} (w:wfh h) {o n:Nat}{t:T V}{sp:Bool}{el:Nat}{fz:Option Nat} (e:h.get o=.c n t sp el fz)(i:Nat):wf h.n (t.get .bot i):=by
  have:=w.2 o
  rw[e] at this;exact this i
theorem Xa3 {m:Nat}{t:T V} (ht:∀ i,wf m (t.get .bot i)):∀ (n i:Nat),wfs m (Xx t i n)
  |0,_=>trivial
  |n+1,i=>⟨ht i,Xa3 ht n (i+1)⟩
theorem YV {m:Nat}{t:T V} (ht:∀ i,wf m (t.get .bot i)) {l:List V} (hl:wfs m l)(i j:Nat):wf m ((Xp t i l).get .bot j):=by
  rw[XK];split
  . exact XjV hl _
  . exact ht j
theorem XaB {h:H} (w:wfh h) {o i n:Nat}{l:List V} (e:YN h o i n=some l):wfs h.n l:=by
  unfold YN at e;split at e
  . rename_i hg
    split at e
    . simp only[Option.some.injEq] at e; exact e▸Xa3 (Xes w hg) _ _
    . cases e
  . cases e
theorem XbF {h h':H}{o i:Nat}{l:List V} (e:WC h o i l=some h') :
    ∃ m t sp el fz,h.get o=.c m t sp el fz/\i+l.length<=m/\fz.getD 0<=i/\h.fl<=o/\Yq l=true/\h'=h.set o (.c m (Xp t i l) sp el fz):=by
  unfold WC at e;split at e
  . rename_i m t sp el fz hg
    split at e
    . rename_i hc
      simp only[Bool.and_eq_true,decide_eq_true_eq] at hc;simp only[Option.some.injEq] at e
      exact⟨m,t,sp,el,fz,hg,hc.1.1.1,hc.1.1.2,hc.1.2,hc.2,e.symm⟩
    . cases e
  . cases e
theorem XcC {h h':H} (w:wfh h) {o i:Nat}{l:List V} (hl:wfs h.n l)(e:WC h o i l=some h'):Abs h h'/\wfh h'/\h'.n=h.n:=by
  obtain⟨m,t,sp,el,fz,hg,h1,h2,h3,_,rfl⟩:=XbF e
  exact⟨.set _ h3 (by rw[hg]; simp),XcU w fun j=>YV (Xes w hg) hl i j,rfl⟩
theorem Xa6 {h:H} (w:wfh h) {l:List V} (hl:wfs h.n l)(sp:Bool)(el:Nat)(fz:Option Nat):Abs h (X5 h l sp el fz)/\wfh (X5 h l sp el fz) :=
  ⟨.push w.1 _,Xif w fun j=>YE (Nat.le_succ _) _ (by
    rw[XK];split
    . exact XjV hl _
    . rw[T.get_lf]; trivial)⟩
theorem ZM {h:H} (w:wfh h) {l:List V} (hl:wfs h.n l) {sp:Bool}{el:Nat}{fz:Option Nat}{v:V} (hv:wf (h.n+1) v):Good h (.ok v (X5 h l sp el fz)) :=
  ⟨(Xa6 w hl sp el fz).1,(Xa6 w hl sp el fz).2,hv⟩
theorem XcT {h:H} (w:wfh h) {s m:Nat}{v:V}{l:List V} (e:XE h s v=some (m,l)):wfs h.n l:=by
  unfold XE at e;split at e
  . simp only[Option.some.injEq,Prod.mk.injEq] at e; rw[← e.2]; trivial
  . split at e
    . rename_i hl
      simp only[Option.some.injEq,Prod.mk.injEq] at e;rw[← e.2]; exact XaB w hl
    . cases e
  . split at e
    . simp only[Option.some.injEq,Prod.mk.injEq] at e; rw[← e.2]; exact XcS _ _ _
    . cases e
  . cases e
theorem XdM {h:H} (w:wfh h) {v:Option V} (hv:∀ x,v=some x->wf h.n x):Good h (give h v):=by
  cases v with
  |none=>trivial
  |some x=>exact Xh w (hv x rfl)
theorem XlB (n:Nat) {op:BinOp}{k:IntKind}{a b:Int}{v:V} (e:Z4 op k a b=some v):wf n v:=by
  unfold Z4 at e;split at e<;>(try split at e)<;>first | (simp only[Option.some.injEq] at e; subst e; trivial) | cases e
theorem Xeb (n:Nat) {op:BinOp}{k:IntKind}{a b:Int}{v:V} (e:Wt op k a b=some v):wf n v:=by
  unfold Wt at e;split at e
  . cases e
  . split at e<;>first | (simp only[Option.some.injEq] at e; subst e; trivial) | cases e
theorem Xll (n:Nat) {op:BinOp}{a b c d:Nat}{v:V} (e:XcB op a b c d=some v):wf n v:=by
  unfold XcB at e;split at e<;>(try split at e)<;>first | (simp only[Option.some.injEq] at e; subst e; trivial) | cases e
theorem XmR (n:Nat)(x:Option Nat):wf n (Xi8 x):=by cases x<;>trivial
theorem XlD (n:Nat) {op:BinOp}{a b:Nat}{v:V} (e:Wj op a b=some v):wf n v:=by
  unfold Wj at e;split at e<;>first
    | (simp only[Option.some.injEq] at e; subst e; exact XmR n _)
    | (simp only[Option.some.injEq] at e; subst e; trivial)
    |cases e
theorem Xtj (n:Nat) {op:BinOp}{x y v:V} (e:bin op x y=some v):wf n v:=by
  unfold bin at e;split at e
  . split at e
    . exact Xeb n e
    . exact Xeb n e
    . split at e
      . exact XlB n e
      . cases e
  . exact Xll n e
  . exact XlD n e
  . cases e
theorem Xtt (n:Nat) {op:UnOp}{x v:V} (e:un op x=some v):wf n v:=by
  unfold un at e;split at e<;>first | (simp only[Option.some.injEq] at e; subst e; trivial) | cases e
theorem XrT (n:Nat) {mx:Bool}{x y v:V} (e:mmV mx x y=some v):wf n v:=by
  unfold mmV at e;split at e
  . simp only[Option.some.injEq] at e; subst e; trivial
  . split at e<;>split at e<;>(simp only[Option.some.injEq] at e; subst e; trivial)
  . cases e
theorem Xnb (n:Nat) {mx:Bool}:∀ (l:List V) {x v:V},wf n x->mmL mx x l=some v->wf n v
  |[],x,v,hx,e=>by simp only[mmL,Option.some.injEq] at e; exact e▸hx
  |y::r,x,v,hx,e=>by
    simp only[mmL] at e;split at e
    . rename_i hw; exact Xnb n r (XrT n hw) e
    . cases e
theorem Xej {h:H} (w:wfh h) {l:List V} (hl:wfs h.n l)(off n:Nat)(ag:Bool):Good h (partOf h l off n ag):=by
  unfold partOf;split
  . split
    . exact Xh w (XeD (Xie hl))
    . split
      . rename_i hv; exact Xh w (wf_getElem? hl hv)
      . trivial
  . trivial
theorem XfZ {h : H} (w : wfh h) {s bytes el m : Nat} {x : V} (hx : wf h.n x) {new : List V} (hn : wfs h.n new) : Good h (X3 h s bytes el x m new) := by
  unfold X3;split
  . split
    . exact Xh w trivial
    . split
      . exact ZM w hn (Nat.lt_succ_self _)
      . trivial
  . rename_i o i n c s' ex
    split
    . rename_i k t sp el' fz hg
      split
      . split
        . split
          . exact Xh w hx
          . split
            . rename_i hs
              obtain⟨a,b,c⟩:=XcC w hn hs
              exact⟨a,b,c▸hx⟩
            . trivial
        . split
          . split
            . have hr:∀ i n,wfs h.n (Xx t i n++new):=fun i n=>ZV.2 ⟨Xa3 (Xes w hg) _ _,hn⟩
              split
              . exact ZM w (hr _ _) (Nat.lt_succ_self _)
              . split
                . rename_i hc
                  have hs:Abs h (h.set o .dead):=.set _ hc.2.2.1 (by rw[hg]; simp)
                  have hw:wfh (h.set o .dead):=XcU w trivial
                  obtain⟨a,b⟩:=Xa6 hw (hr _ _) true el (fz.map (· - _))
                  exact⟨hs.trans a,b,Nat.lt_succ_self _⟩
                . trivial
            . trivial
          . trivial
      . trivial
    . trivial
  . trivial
def XaS (n:Nat)(c:COp):Prop:=(∀ x∈c.opds,Xi9 n x)/\wfs n c.zs
theorem XR {n m:Nat} (h:n<=m) {c:COp} (w:XaS n c):XaS m c :=
  ⟨fun x hx=>by
    have:=w.1 x hx
    cases x with
    |t i=>trivial
    |c v=>exact YE h _ this,YH h _ w.2⟩
mutual
theorem Xd9 (n:Nat):∀ v:V,wfB n v=true->wf n v
  | .ptr _ _,h | .sl _ _ _ _ _ _,h | .mp _,h=>by simp only[wfB,Nat.blt_eq] at h; exact h
  | .fn _ caps,h=>Wq n caps h
  | .ifc _ v,h=>Xd9 n v h
  | .agg l,h=>Wq n l h
  | .tup l,h=>Wq n l h
  | .int _ _,_ | .bool _,_ | .str _ _,_ | .flt _,_ | .nil,_ | .nils,_ | .nilm,_ | .nilf,_ | .nili,_ | .nan,_ | .nani,_ | .bot,_=>trivial
theorem Wq (n:Nat):∀ l:List V,wfsB n l=true->wfs n l
  |[],_=>trivial
  |v::r,h=>by
    simp only[wfsB,Bool.and_eq_true] at h
    exact⟨Xd9 n v h.1,Wq n r h.2⟩
end
theorem XnL {n:Nat}{c:COp} (h:copB n c=true):XaS n c:=by
  simp only[copB,Bool.and_eq_true,List.all_eq_true] at h
  refine⟨fun x hx=>?_,Wq n _ h.2⟩
  have:=h.1 x hx
  cases x with
  |t i=>trivial
  |c v=>exact Xd9 n v this
theorem XfH (n:Nat):XaS n .stop:=⟨fun x hx=>by simp[COp.opds] at hx,trivial⟩
theorem W9 (P:Program)(o:Oper):XaS P.globals.size (Xaz P o):=by
  unfold Xaz;split
  . split
    . exact XnL (by assumption)
    . exact XfH _
  . exact XfH _
def Xm (G:Nat)(call:Nat->List V->H->Res):Prop:=∀ f args h,G<=h.n->wfh h->wfs h.n args->Good h (call f args h)
theorem Y7 {G : Nat} {call : Nat → List V → H → Res} (hcall : Xm G call) {e : T V} {h : H} (hG : G ≤ h.n) (w : wfh h) (we : wfe h.n e) {c : COp} (hc : XaS h.n c) : Good h (step call e h c) := by
  obtain⟨ho,hz⟩:=hc
  have O:∀ x∈c.opds,wf h.n (opd e x):=fun x hx=>XaW we (ho x hx)
  cases c<;>simp only[COp.opds,COp.zs,List.mem_cons,List.not_mem_nil,or_false,forall_eq_or_imp,forall_eq] at O ho hz<;>simp only[step]
  case mv x=>exact Xh w O
  case pick c a b =>
    unfold Xad;split
    . exact Xh w O.2.1
    . exact Xh w O.2.2
    . trivial
  case alc z el=>exact ZM w hz (Nat.lt_succ_self _)
  case box el x =>
    unfold sBox;split
    . rename_i hl; exact ZM w (Xd7 O hl) (Nat.lt_succ_self _)
    . trivial
  case bld z ps =>
    unfold sBld;split
    . rename_i l hl
      exact Xh w (XeF we ps z l hz (fun p hp=>ho _ (List.mem_map.2 ⟨p,hp,rfl⟩)) hl)
    . trivial
  case bsl z len s el ps =>
    unfold sBsl;split
    . rename_i l hl
      exact ZM w (XeF we ps _ l (Xb8 hz _) (fun p hp=>ho _ (List.mem_map.2 ⟨p,hp,rfl⟩)) hl) (Nat.lt_succ_self _)
    . trivial
  case ld x =>
    unfold sLd;split
    . split
      . rename_i hl; exact Xh w (XaB w hl).1
      . trivial
    . trivial
  case ldn n x =>
    unfold sLdn;split
    . split
      . rename_i hl; exact Xh w (XaB w hl)
      . trivial
    . trivial
  case st n x v =>
    unfold sSt;split
    . split
      . rename_i hl
        split
        . split
          . rename_i hs
            obtain⟨a,b,c⟩:=XcC w (Xd7 O.2 hl) hs
            exact⟨a,b,trivial⟩
          . trivial
        . trivial
      . trivial
    . trivial
  case nck x =>
    unfold sNck;split
    . rename_i hx
      split
      . exact Xh w (by have q:=O; rw[hx] at q; exact q)
      . trivial
    . rename_i hx; exact Xh w (by have q:=O; rw[hx] at q; exact q)
    . trivial
  case bin op x y=>exact XdM w fun v hv=>Xtj _ hv
  case eq k neg x y=>unfold sEq; split<;>first | exact Xh w trivial | trivial
  case eqs neg offs x y=>unfold sEqs; split<;>(try split)<;>first | exact Xh w trivial | trivial
  case un op x=>exact XdM w fun v hv=>Xtt _ hv
  case cvi k x=>unfold sCvi; split<;>first | exact Xh w trivial | trivial
  case cvs x=>unfold sCvs; split<;>first | exact Xh w trivial | trivial
  case b2s x=>unfold sB2s; split<;>(try split)<;>(try split)<;>(try split)<;>first | exact Xh w trivial | trivial
  case s2b el x=>unfold sS2b; split<;>first | exact ZM w (XcS _ _ _) (Nat.lt_succ_self _) | trivial
  case mki t x=>exact Xh w O
  case mkf f caps=>exact Xh w (WV we ho)
  case mks z s bytes el l c=>unfold sMks; split<;>(try split)<;>first | exact ZM w (Xb8 hz _) (Nat.lt_succ_self _) | trivial
  case apz z s bytes el x n=>unfold sApz; split<;>(try split)<;>(try split)<;>first | exact Xh w trivial | exact ZM w (Xb8 hz _) (Nat.lt_succ_self _) | trivial
  case slt x lo hi=>unfold sSlt; split<;>(try split)<;>first | exact Xh w trivial | trivial
  case sls s x lo hi mx =>
    have Ox:=O x (by simp)
    unfold sSls;split
    . split<;>first | exact Xh w trivial | trivial
    . rename_i hx
      split
      . split
        . exact Xh w (by have q:=Ox; rw[hx] at q; exact q)
        . trivial
      . trivial
    . trivial
  case slp s len x lo hi mx =>
    have Ox:=O x (by simp)
    unfold sSlp;split
    . rename_i hx
      split
      . split
        . exact Xh w (by have q:=Ox; rw[hx] at q; exact q)
        . trivial
      . trivial
    . trivial
  case fad off x =>
    unfold sFad;split
    . rename_i hx
      split
      . exact Xh w (by have q:=O; rw[hx] at q; exact q)
      . trivial
    . trivial
  case fld off n ag x =>
    unfold sFld;split
    . rename_i hx; exact Xej w (by have q:=O; rw[hx] at q; exact q) _ _ _
    . trivial
  case ixs s x i =>
    unfold sIxs;split
    . rename_i hx hi
      split
      . exact Xh w (by have q:=O.1; rw[hx] at q; exact q)
      . trivial
    . trivial
  case ixp s len x i =>
    unfold sIxp;split
    . rename_i hx hi
      split
      . exact Xh w (by have q:=O.1; rw[hx] at q; exact q)
      . trivial
    . trivial
  case ixa s len ag x i =>
    unfold sIxa;split
    . rename_i hx hi
      split
      . exact Xej w (by have q:=O.1; rw[hx] at q; exact q) _ _ _
      . trivial
    . trivial
  case ixt x i=>unfold sIxt; split<;>(try split)<;>first | exact Xh w trivial | trivial
  case ext x i =>
    unfold sExt;split
    . rename_i hx
      split
      . rename_i hv; exact Xh w (wf_getElem? (by have q:=O; rw[hx] at q; exact q) hv)
      . trivial
    . trivial
  case calf f args=>exact hcall _ _ _ hG w (WV we ho)
  case calv f args =>
    unfold Xed;split
    . rename_i hx
      exact hcall _ _ _ hG w (ZV.2 ⟨WV we fun y hy=>ho.2 y hy,(by have q:=O.1; rw[hx] at q; exact q)⟩)
    . trivial
  case app s bytes el x y =>
    unfold YF;split
    . rename_i hl; exact XfZ w O.1 (XcT w hl)
    . trivial
  case cpy s x y =>
    unfold ZR;split
    . exact Xh w trivial
    . rename_i hl
      split
      . split
        . exact Xh w trivial
        . split
          . rename_i hs
            obtain⟨a,b,c⟩:=XcC w (XeD (XcT w hl)) hs
            exact⟨a,b,trivial⟩
          . trivial
      . trivial
    . trivial
  case len x=>unfold sLen; split<;>(try split)<;>first | exact Xh w trivial | trivial
  case lnt x=>unfold sLnt; split<;>first | exact Xh w trivial | trivial
  case lenc n=>exact Xh w trivial
  case cap x=>unfold sCap; split<;>(try split)<;>first | exact Xh w trivial | trivial
  case mm mx xs =>
    have hl:=WV we ho
    generalize xs.map (opd e)=l at hl
    unfold sMm;split
    . trivial
    . exact XdM w fun v hv=>Xnb _ _ hl.1 hv
  case rng x =>
    unfold sRng;split
    . exact⟨.push w.1 _,Xif w trivial,Nat.lt_succ_self _⟩
    . trivial
  case nxt x =>
    unfold sNxt;split
    . split
      . rename_i hg
        split
        . split
          . rename_i hc
            exact⟨.set _ hc.2 (by rw[hg]; simp),XcU w trivial,trivial,trivial,trivial,trivial⟩
          . trivial
        . exact Xh w ⟨trivial,trivial⟩
      . trivial
    . trivial
  case usd x =>
    unfold sUsd;split
    . exact Xh w trivial
    . rename_i hx
      split
      . trivial
      . exact Xh w (by have q:=O; rw[hx] at q; exact q)
    . trivial
  case ust el x n =>
    unfold sUst;split
    . exact Xh w trivial
    . split
      . rename_i hg
        split
        . exact Xh w trivial
        . split
          . rename_i hc
            split
            . exact⟨.set _ hc.2.1 (by rw[hg]; simp),XcU w (Xes w hg),trivial⟩
            . trivial
          . trivial
      . trivial
    . trivial
  case fbits x=>unfold Xa4; split<;>first | exact Xh w trivial | trivial
  case bitsf x=>unfold Xa5; split<;>first | exact Xh w trivial | trivial
  case same x=>exact Xh w O
  case mkz el x=>unfold sMkz; split<;>(try split)<;>first | exact ZM w (Xb8 (show wfs h.n [.bot] from ⟨trivial,trivial⟩) _) (Nat.lt_succ_self _) | trivial
  case p2u x =>
    unfold sP2u;split
    . rename_i hx
      split
      . split
        . exact Xh w (by have q:=O; rw[hx] at q; exact q)
        . trivial
      . trivial
    . trivial
  case u2p u s x =>
    unfold sU2p;split
    . rename_i hx
      split
      . split
        . exact Xh w (by have q:=O; rw[hx] at q; exact q)
        . trivial
      . trivial
    . trivial
  case pan x =>
    unfold sPan;split
    . rename_i hx; exact⟨.refl h,w,(by have q:=O; rw[hx] at q; exact q)⟩
    . trivial
  case stop=>trivial
end Go.Vm
namespace Go.Vm
theorem Good.trans {h h1:H}{r:Res} (a:Abs h h1)(g:Good h1 r):Good h r:=by
  cases r with
  |ok v h'=>exact⟨a.trans g.1,g.2⟩
  |pan v h'=>exact⟨a.trans g.1,g.2⟩
  |no=>trivial
def Xc6 (h:H)(k:K):Prop:=∀ e1 h1,Abs h h1->wfh h1->wfe h1.n e1->Good h1 (k e1 h1)
theorem Xc6.later {h h1:H}{k:K} (g:Xc6 h k)(a:Abs h h1):Xc6 h1 k:=fun e2 h2 b w we=>g e2 h2 (a.trans b) w we
theorem Xap {n nt:Nat}{e:T V} (we:wfe n e) {v:V} (hv:wf n v)(d:Option Nat):wfe n (put nt e d v):=by
  unfold put;split
  . split
    . intro i
      rw[T.get_set];split
      . exact hv
      . exact we i
    . exact we
  . exact we
def Xc5 (G:Nat)(l:List CI):Prop:=∀ i∈l,XaS G i.op
theorem XbG {G : Nat} {call : Nat → List V → H → Res} (hcall : Xm G call) (nt : Nat) :
    ∀ (l:List CI) (e:T V) (h:H) (k:K),Xc5 G l->G<=h.n->wfh h->wfe h.n e->Xc6 h k->Good h (YW call nt l e h k)
  |[],e,h,k,_,_,w,we,hk=>hk e h (.refl h) w we
  |i::l,e,h,k,hl,hG,w,we,hk=>by
    simp only[YW];split
    . trivial
    . split
      . have:=Y7 hcall hG w we (XR hG (hl i (by simp)))
        revert this
        cases step call e h i.op with
        |ok v h' =>
          rintro⟨a,w',hv⟩
          exact Good.trans a (XbG hcall nt l _ h' k (fun j hj=>hl j (by simp[hj])) (Nat.le_trans hG a.n) w' (Xap (Xb9 a.n we) hv _) (hk.later a))
        |pan v h'=>exact id
        |no=>exact id
      . exact XbG hcall nt l _ h k (fun j hj=>hl j (by simp[hj])) hG w (Xap we (show wf h.n (.tup []) from trivial) _) hk
theorem Xer {h:H} (w:wfh h)(m:Nat):wfh (h.top m):=by
  cases m
  . exact w
  . exact⟨Nat.le_refl _,w.2⟩
theorem XaE (h:H)(m:Nat):(h.top m).n=h.n:=by cases m<;>rfl
theorem Xkb (h:H)(m o:Nat):(h.top m).get o=h.get o:=by cases m<;>rfl
theorem Xcv {h h':H}{m:Nat} (w:wfh h)(a:Abs (h.top m) h'):Abs h (h'.lower h.fl):=by
  cases m with
  |zero=>exact⟨a.n,rfl,a.low,a.dead⟩
  |succ m=>exact⟨a.n,rfl,fun o ho=>a.low o (Nat.lt_of_lt_of_le ho w.1),fun o ho e=>a.dead o ho e⟩
theorem Xd8 {h h':H}{m:Nat} (w:wfh h)(a:Abs (h.top m) h')(w':wfh h'):wfh (h'.lower h.fl):=⟨Nat.le_trans w.1 (Xcv w a).n,w'.2⟩
theorem Xp8 {h:H}{b:Bool}{r:Res} (g:Good h r):Good h (if b then r else .no):=by
  cases b
  . exact trivial
  . exact g
theorem Xba {G : Nat} {call : Nat → List V → H → Res} (hcall : Xm G call) (nt : Nat) (al : List Nat) :
    ∀ (l:List CI) (m:Nat) (e:T V) (h:H) (k:K),Xc5 G l->G<=h.n->wfh h->wfe h.n e->Xc6 h k->Good h (Yb call nt al l m e h k)
  |[],m,e,h,k,_,_,w,we,hk=>by
    simp only[Yb];exact Xp8 (hk e h (.refl h) w we)
  |i::l,m,e,h,k,hl,hG,w,we,hk=>by
    simp only[Yb];split
    . trivial
    . split
      . have:=Y7 hcall (h:=h.top m) (by rw[XaE]; exact hG) (Xer w m) (by rw[XaE]; exact we) (XR (by rw[XaE]; exact hG) (hl i (by simp)))
        revert this
        cases step call e (h.top m) i.op with
        |ok v h' =>
          rintro⟨a,w',hv⟩
          have b:=Xcv w a
          have we':wfe h'.n e:=Xb9 (by have:=a.n; rw[XaE] at this; exact this) we
          exact Good.trans b (Xba hcall nt al l _ _ _ k (fun j hj=>hl j (by simp[hj])) (Nat.le_trans hG b.n) (Xd8 w a w') (Xap we' hv _) (hk.later b))
        |pan v h'=>exact fun _=>trivial
        |no=>exact id
      . exact Xba hcall nt al l _ _ h k (fun j hj=>hl j (by simp[hj])) hG w (Xap we (show wf h.n (.tup []) from trivial) _) hk
def ccWf (G:Nat):CC->Prop
  | .ops l=>Xc5 G l
  | .draw _ _ l=>Xc5 G l
  | .seq a b=>ccWf G a/\ccWf G b
  | .cond _ a b=>ccWf G a/\ccWf G b
  | .block _ b=>ccWf G b
  | .loop b=>ccWf G b
  |_=>True
theorem XiE {id:Nat}:∀ {x:List (Nat×K)}{k:K},look id x=some k->(id,k)∈x
  |[],_,h=>by cases h
  | (i,k')::r,k,h=>by
    simp only[look] at h;split at h
    . rename_i hi
      simp only[Option.some.injEq] at h;subst hi h;exact List.mem_cons_self
    . exact List.mem_cons_of_mem _ (XiE h)
theorem Xg9 {G : Nat} {call : Nat → List V → H → Res} (hcall : Xm G call) (fuel nt : Nat) :
    ∀ (c:CC) (e:T V) (h:H) (r:K) (x:List (Nat×K)) (k:K),ccWf G c->G<=h.n->wfh h->wfe h.n e ->
      Xc6 h r->(∀ p∈x,Xc6 h p.2)->Xc6 h k->Good h (exec call fuel nt c e h r x k):=by
  intro c
  induction c with
  |skip=>intro e h r x k _ _ w we _ _ hk; exact hk e h (.refl h) w we
  |ops l=>intro e h r x k hc hG w we _ _ hk; exact XbG hcall nt l e h k hc hG w we hk
  |draw m al l=>intro e h r x k hc hG w we _ _ hk; exact Xba hcall nt al l m e h k hc hG w we hk
  |seq a b iha ihb =>
    intro e h r x k hc hG w we hr hx hk;exact iha e h r x _ hc.1 hG w we hr hx fun e1 h1 a1 w1 we1 =>
      ihb e1 h1 r x k hc.2 (Nat.le_trans hG a1.n) w1 we1 (hr.later a1) (fun p hp=>(hx p hp).later a1) (hk.later a1)
  |cond c a b iha ihb =>
    intro e h r x k hc hG w we hr hx hk;simp only[exec];split
    . exact iha e h r x k hc.1 hG w we hr hx hk
    . exact ihb e h r x k hc.2 hG w we hr hx hk
    . trivial
  |block id b ih =>
    intro e h r x k hc hG w we hr hx hk;exact ih e h r _ k hc hG w we hr (fun p hp=>by
      rcases List.mem_cons.1 hp with rfl | hp
      . exact hk
      . exact hx p hp) hk
  |loop b ih =>
    intro e h r x k hc hG w we hr hx hk;simp only[exec]
    suffices hs:∀ (n:Nat) (e1:T V) (h1:H),Abs h h1->wfh h1->wfe h1.n e1 ->
        Good h1 (ZT (fun e h k'=>exec call fuel nt b e h r x k') n e1 h1) from hs fuel e h (.refl h) w we
    intro n
    induction n with
    |zero=>intro _ _ _ _ _; trivial
    |succ n ihn =>
      intro e1 h1 a1 w1 we1;simp only[ZT];exact ih e1 h1 r x _ hc (Nat.le_trans hG a1.n) w1 we1 (hr.later a1) (fun p hp=>(hx p hp).later a1) fun e2 h2 a2 w2 we2=>ihn e2 h2 (a1.trans a2) w2 we2
  |exit id =>
    intro e h r x k hc hG w we hr hx hk;simp only[exec];split
    . rename_i k' hk'
      exact hx _ (XiE hk') e h (.refl h) w we
    . trivial
  |ret=>intro e h r x k _ _ w we hr _ _; exact hr e h (.refl h) w we
  |bad=>intro e h r x k _ _ _ _ _ _ _; trivial
theorem XaC {n:Nat}:∀ (l:List V)(i:Nat)(e:T V),wfs n l->wfe n e->wfe n (ZU l i e)
  |[],_,e,_,we=>we
  |v::r,i,e,hl,we=>XaC r (i+1) _ hl.2 fun j=>by
    rw[T.get_set];split
    . exact hl.1
    . exact we j
theorem Xoo {h : H} (w : wfh h) {e : T V} (we : wfe h.n e) {c : CR} {v : V} (hv : resV e h c = some v) : wf h.n v := by
  unfold resV at hv;split at hv
  . simp only[Option.some.injEq] at hv; exact hv▸we _
  . split at hv
    . split at hv
      . rename_i hl
        simp only[Option.some.injEq] at hv; exact hv▸(XaB w hl).1
      . cases hv
    . cases hv
  . split at hv
    . split at hv
      . rename_i hl
        simp only[Option.some.injEq] at hv; exact hv▸XaB w hl
      . cases hv
    . cases hv
theorem XeE {h:H} (w:wfh h) {e:T V} (we:wfe h.n e):∀ (l:List CR)(vs:List V),resL e h l=some vs->wfs h.n vs
  |[],vs,hv=>by simp only[resL,Option.some.injEq] at hv; exact hv▸trivial
  |c::r,vs,hv=>by
    simp only[resL] at hv;split at hv
    . rename_i h1 h2
      simp only[Option.some.injEq] at hv;exact hv ▸ ⟨Xoo w we h1,XeE w we r _ h2⟩
    . cases hv
theorem Xdi {h:H} (w:wfh h) {e:T V} (we:wfe h.n e)(l:List CR):Good h (results l e h):=by
  unfold results;split
  . rename_i hl; exact Xh w (XeE w we _ _ hl).1
  . rename_i hl; exact Xh w (XeE w we _ _ hl)
  . trivial
theorem XgD {G : Nat} {tab : Nat → Option CFn} (ht : ∀ f c, tab f = some c → ccWf G c.body) : ∀ n, Xm G (call tab n)
  |0,_,_,_,_,_,_=>trivial
  | n + 1, f, args, h, hG, w, ha => by
    simp only[call];split
    . trivial
    . rename_i c hc
      split
      . have hk:Xc6 h (fun e h=>results c.res e h):=fun e1 h1 _ w1 we1=>Xdi w1 we1 _
        exact Xg9 (XgD ht n) n c.nt c.body _ h _ _ _ (ht f c hc) hG w (XaC args 0 _ ha fun i=>by rw[T.get_lf]; trivial) hk (fun p hp=>by cases hp) hk
      . trivial
end Go.Vm
namespace Go.Vm
def sv (l:List UInt8):V:=.str l.length (numOf l)
end Go.Vm
