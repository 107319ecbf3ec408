/-
  Runs with arguments that are not known, as trees; laws of calls.
-/
import Derived.Test.YtkjjpmbpjfmbcaaGreatDoorQ5
import Derived.ChangeArms
import Derived.ChangeSame
import Derived.OpenShut
set_option linter.unusedVariables false
set_option linter.unusedSimpArgs false
namespace Go.Vm
noncomputable section
inductive DV where
  |int (k:IntKind) (n:Int)
  |bool (b:Bool)
  |str (l:List UInt8)
  |flt (x:Nat)
  |ptr (o i:Nat)
  |nil
  |sl (o i n c s:Nat) (ex:Bool)
  |nils
  |fn (f:Nat) (caps:List DV)
  |nilf
  |ifc (t:Nat) (v:DV)
  |nili
  |nan
  |nani
  |agg (l:List DV)
  |tup (l:List DV)
  |bot
  deriving Inhabited
mutual
def toV:DV->V
  | .int k n=>.int k n
  | .bool b=>.bool b
  | .str l=>sv l
  | .flt x=>.flt x
  | .ptr o i=>.ptr o i
  | .nil=>.nil
  | .sl o i n c s ex=>.sl o i n c s ex
  | .nils=>.nils
  | .fn f caps=>.fn f (toVs caps)
  | .nilf=>.nilf
  | .ifc t v=>.ifc t (toV v)
  | .nili=>.nili
  | .nan=>.nan
  | .nani=>.nani
  | .agg l=>.agg (toVs l)
  | .tup l=>.tup (toVs l)
  | .bot=>.bot
def toVs:List DV->List V
  |[]=>[]
  |v::r=>toV v::toVs r
end
theorem YY:∀ l:List DV,toVs l=l.map toV
  |[]=>rfl
  |v::r=>by simp only[toVs,List.map_cons,YY r]
theorem Xk (l:List DV):(toVs l).length=l.length:=by rw[YY,List.length_map]
theorem Yg (a b:List DV):toVs (a++b)=toVs a++toVs b:=by simp[YY]
theorem WY (l:List DV)(i:Nat):(toVs l)[i]? = (l[i]?).map toV:=by rw[YY,List.getElem?_map]
theorem XG (l:List DV)(n:Nat):(toVs l).take n=toVs (l.take n):=by simp[YY,List.map_take]
theorem XH (l:List DV)(n:Nat):(toVs l).drop n=toVs (l.drop n):=by simp[YY,List.map_drop]
inductive DO where
  |dead
  |c (l:List DV) (sp:Bool) (el:Nat)
  |b (l:List UInt8) (el:Nat)
  deriving Inhabited
def toO:DO->Obj
  | .dead=>.dead
  | .c l sp el=>ob (toVs l) sp el (some 0)
  | .b l el=>ob (bs l) true el (some 0)
structure DH where
  n:Nat
  t:T DO
  fl:Nat
def T.map {α β:Type} (f:α->β):T α->T β
  | .lf=>.lf
  | .nd v l r=>.nd (f v) (l.map f) (r.map f)
theorem T.map_get {α β:Type} (f:α->β)(d:α):∀ (i:Nat) (t:T α),(t.map f).get (f d) i=f (t.get d i)
  |i,.lf=>by rw[T.get_lf]; exact T.get_lf _ _
  |0,.nd v l r=>rfl
  |j+1,.nd v l r=>by
    show T.get (f d) (.nd (f v) (l.map f) (r.map f)) (j+1)=f (T.get d (.nd v l r) (j+1))
    rw[T.get_succ,T.get_succ];split
    . exact T.map_get f d _ l
    . exact T.map_get f d _ r
theorem T.map_set {α β:Type} (f:α->β)(d:α)(x:α):∀ (i:Nat) (t:T α),(t.set d i x).map f=(t.map f).set (f d) i (f x)
  |0,.lf=>rfl
  |0,.nd v l r=>rfl
  |j+1,.lf=>by
    show (T.set d .lf (j+1) x).map f=T.set (f d) .lf (j+1) (f x)
    rw[T.set_lf_succ,T.set_lf_succ];split
    . show T.nd (f d) ((T.set d .lf (j / 2) x).map f) .lf=_
      rw[T.map_set f d x (j / 2) .lf]; rfl
    . show T.nd (f d) .lf ((T.set d .lf (j / 2) x).map f)=_
      rw[T.map_set f d x (j / 2) .lf]; rfl
  |j+1,.nd v l r=>by
    show (T.set d (.nd v l r) (j+1) x).map f=T.set (f d) (.nd (f v) (l.map f) (r.map f)) (j+1) (f x)
    rw[T.set_nd_succ,T.set_nd_succ];split
    . show T.nd (f v) ((T.set d l (j / 2) x).map f) (r.map f)=_
      rw[T.map_set f d x (j / 2) l]
    . show T.nd (f v) (l.map f) ((T.set d r (j / 2) x).map f)=_
      rw[T.map_set f d x (j / 2) r]
termination_by i=>i
decreasing_by all_goals omega
def toE (e:T DV):T V:=e.map toV
def toH (h:DH):H:=⟨h.n,h.t.map toO,h.fl⟩
theorem WI (e:T DV)(i:Nat):(toE e).get .bot i=toV (e.get .bot i):=T.map_get toV .bot i e
theorem Xkd (e:T DV)(i:Nat)(v:DV):toE (e.set .bot i v)=(toE e).set .bot i (toV v):=T.map_set toV .bot v i e
def DH.get (h:DH)(o:Nat):DO:=h.t.get .dead o
def DH.set (h:DH)(o:Nat)(x:DO):DH:={ h with t:=h.t.set .dead o x }
def DH.push (h:DH)(x:DO):DH:={ h with n:=h.n+1,t:=h.t.set .dead h.n x }
theorem ZC (h:DH)(o:Nat):(toH h).get o=toO (h.get o):=T.map_get toO .dead o h.t
theorem XgQ (h:DH)(o:Nat)(x:DO):toH (h.set o x)=(toH h).set o (toO x):=by
  show (⟨h.n,T.map toO (h.t.set .dead o x),h.fl⟩:H)=_
  rw[T.map_set]; rfl
theorem WZ (h:DH)(x:DO):toH (h.push x)=(toH h).push (toO x):=by
  show (⟨h.n+1,T.map toO (h.t.set .dead h.n x),h.fl⟩:H)=_
  rw[T.map_set]; rfl
def T.makeK {α β:Type} (d:α):Nat->Nat->α->(T α->β)->β
  |0,_,_,k=>k .lf
  |f+1,i,x,k=>match i with
    |0=>k (.nd x .lf .lf)
    |j+1=>match Nat.mod j 2 with
      |0=>T.makeK d f (Nat.div j 2) x fun l'=>k (.nd d l' .lf)
      |_+1=>T.makeK d f (Nat.div j 2) x fun r'=>k (.nd d .lf r')
def T.setK {α β:Type} (d:α):T α->Nat->α->(T α->β)->β
  | .lf,i,x,k=>T.makeK d (i+1) i x k
  | .nd v l r,i,x,k=>match i with
    |0=>k (.nd x l r)
    |j+1=>match Nat.mod j 2 with
      |0=>T.setK d l (Nat.div j 2) x fun l'=>k (.nd v l' r)
      |_+1=>T.setK d r (Nat.div j 2) x fun r'=>k (.nd v l r')
theorem T.makeK_eq {α β:Type} (d:α):∀ (f i:Nat) (x:α) (k:T α->β),T.makeK d f i x k=k (T.make d f i x)
  |0,_,_,_=>rfl
  |f+1,0,_,_=>rfl
  |f+1,j+1,x,k=>by
    simp only[T.makeK,T.make]
    cases Nat.mod j 2 with
    |zero=>exact T.makeK_eq d f _ x _
    |succ m=>exact T.makeK_eq d f _ x _
theorem T.setK_eq {α β:Type} (d:α):∀ (t:T α) (i:Nat) (x:α) (k:T α->β),T.setK d t i x k=k (T.set d t i x)
  | .lf,i,x,k=>T.makeK_eq d _ _ _ _
  | .nd v l r,0,x,k=>rfl
  | .nd v l r,j+1,x,k=>by
    rw[T.set_succ];simp only[T.setK]
    cases Nat.mod j 2 with
    |zero=>exact T.setK_eq d l _ x _
    |succ m=>exact T.setK_eq d r _ x _
inductive Tree where
  |ok (v:DV)
  |no
  |br (b:Bool) (t f:Tree)
  |need (b:Bool) (t:Tree)
def Tree.ev:Tree->Option DV
  | .ok v=>some v
  | .no=>none
  | .br b t f=>match b with
    |true=>t.ev
    |false=>f.ev
  | .need b t=>match b with
    |true=>t.ev
    |false=>none
theorem Wz {b:Bool}{t f:Tree}{v:DV} (h:(Tree.br b t f).ev=some v):(b=true/\t.ev=some v)∨(b=false/\f.ev=some v):=by
  cases b
  . exact .inr ⟨rfl,h⟩
  . exact .inl ⟨rfl,h⟩
theorem XB {b:Bool}{t:Tree}{v:DV} (h:(Tree.need b t).ev=some v):b=true/\t.ev=some v:=by
  cases b
  . cases h
  . exact⟨rfl,h⟩
theorem XiX {v:DV} (h:Tree.no.ev=some v):False:=by cases h
def Wh {β:Type} (d:DV)(f:DV->β):β:=match d with
  | .int k n=>f (.int k n)
  | .bool b=>f (.bool b)
  | .str l=>f (.str l)
  | .flt x=>f (.flt x)
  | .ptr o i=>f (.ptr o i)
  | .nil=>f .nil
  | .sl o i n c s ex=>f (.sl o i n c s ex)
  | .nils=>f .nils
  | .fn g caps=>f (.fn g caps)
  | .nilf=>f .nilf
  | .ifc t v=>f (.ifc t v)
  | .nili=>f .nili
  | .nan=>f .nan
  | .nani=>f .nani
  | .agg l=>f (.agg l)
  | .tup l=>f (.tup l)
  | .bot=>f .bot
theorem We {β:Type} (d:DV)(f:DV->β):Wh d f=f d:=by cases d<;>rfl
def Xbm {β:Type}:List DV->(List DV->β)->β
  |[],f=>f []
  |v::r,f=>Wh v fun v=>Xbm r fun r=>f (v::r)
theorem Wi {β:Type}:∀ (l:List DV) (f:List DV->β),Xbm l f=f l
  |[],_=>rfl
  |v::r,f=>by
    show Wh v _=_
    rw[We,Wi r]
def XcL {β:Type} (x:DO)(f:DO->β):β:=match x with
  | .dead=>f .dead
  | .c l sp el=>Xbm l fun l=>f (.c l sp el)
  | .b l el=>f (.b l el)
theorem XaQ {β:Type} (x:DO)(f:DO->β):XcL x f=f x:=by
  cases x with
  |c l sp el=>exact Wi l _
  |_=>rfl
def DH.setK (h:DH)(o:Nat)(x:DO)(k:DH->Tree):Tree:=match h with
  | ⟨n,t,fl⟩=>XcL x fun x=>T.setK .dead t o x fun t'=>k ⟨n,t',fl⟩
def DH.pushK (h:DH)(x:DO)(k:DH->Tree):Tree:=match h with
  | ⟨n,t,fl⟩=>XcL x fun x=>T.setK .dead t n x fun t'=>k ⟨n+1,t',fl⟩
abbrev DK:=DV->DH->Tree
theorem DH.setK_eq (h:DH)(o:Nat)(x:DO)(k:DH->Tree):h.setK o x k=k (h.set o x):=by
  obtain⟨n,t,fl⟩:=h;simp only[DH.setK];rw[XaQ,T.setK_eq]; rfl
theorem DH.pushK_eq (h:DH)(x:DO)(k:DH->Tree):h.pushK x k=k (h.push x):=by
  obtain⟨n,t,fl⟩:=h;simp only[DH.pushK];rw[XaQ,T.setK_eq]; rfl
def XcW (n x:Nat):List UInt8:=(List.range n).map fun i=>UInt8.ofNat (XbE n x i)
mutual
def ofV:V->Option DV
  | .int k z=>some (.int k z)
  | .bool b=>some (.bool b)
  | .str n x=>match Nat.beq (XcW n x).length n&&Nat.beq (numOf (XcW n x)) x with
    |true=>some (.str (XcW n x))
    |false=>none
  | .flt x=>some (.flt x)
  | .ptr o i=>some (.ptr o i)
  | .nil=>some .nil
  | .nils=>some .nils
  | .nilf=>some .nilf
  | .nili=>some .nili
  | .nan=>some .nan
  | .nani=>some .nani
  | .fn f l=>match ofVs l with
    |some r=>some (.fn f r)
    |none=>none
  | .agg l=>match ofVs l with
    |some r=>some (.agg r)
    |none=>none
  | .tup l=>match ofVs l with
    |some r=>some (.tup r)
    |none=>none
  |_=>none
def ofVs:List V->Option (List DV)
  |[]=>some []
  |v::r=>match ofV v,ofVs r with
    |some x,some l=>some (x::l)
    |_,_=>none
end
mutual
theorem Xfp:∀ (v:V) {d:DV},ofV v=some d->toV d=v
  | .int _ _,d,h | .bool _,d,h | .flt _,d,h | .ptr _ _,d,h | .nil,d,h | .nils,d,h | .nilf,d,h | .nili,d,h | .nan,d,h | .nani,d,h=>by cases h; rfl
  | .str n x,d,h=>by
    simp only[ofV] at h;split at h
    . rename_i hb
      simp only[Bool.and_eq_true] at hb;cases h
      show V.str _ _=_
      rw[Nat.eq_of_beq_eq_true hb.1,Nat.eq_of_beq_eq_true hb.2]
    . cases h
  | .fn f l,d,h=>by
    simp only[ofV] at h;split at h
    . rename_i r hr
      cases h
      show V.fn f (toVs r)=_
      rw[Yt l hr]
    . cases h
  | .agg l,d,h=>by
    simp only[ofV] at h;split at h
    . rename_i r hr
      cases h
      show V.agg (toVs r)=_
      rw[Yt l hr]
    . cases h
  | .tup l,d,h=>by
    simp only[ofV] at h;split at h
    . rename_i r hr
      cases h
      show V.tup (toVs r)=_
      rw[Yt l hr]
    . cases h
  | .sl ..,d,h | .mp _,d,h | .nilm,d,h | .ifc _ _,d,h | .bot,d,h=>by cases h
theorem Yt:∀ (l:List V) {d:List DV},ofVs l=some d->toVs d=l
  |[],d,h=>by cases h; rfl
  |v::r,d,h=>by
    simp only[ofVs] at h;split at h
    . rename_i x l hx hl
      cases h
      show toV x::toVs l=_
      rw[Xfp v hx,Yt r hl]
    . cases h
end
def opdD (e:T DV):Opd->Option DV
  | .t i=>some (e.get .bot i)
  | .c v=>ofV v
theorem Wm {e:T DV}{x:Opd}{d:DV} (h:opdD e x=some d):opd (toE e) x=toV d:=by
  cases x with
  |t i=>cases h; exact WI e i
  |c v=>exact (Xfp v h).symm
def Xdp (e:T DV):List Opd->Option (List DV)
  |[]=>some []
  |x::r=>match opdD e x,Xdp e r with
    |some d,some l=>some (d::l)
    |_,_=>none
theorem XaL {e:T DV}:∀ {l:List Opd}{d:List DV},Xdp e l=some d->l.map (opd (toE e))=toVs d
  |[],d,h=>by cases h; rfl
  |x::r,d,h=>by
    simp only[Xdp] at h;split at h
    . rename_i y l hy hl
      cases h;simp only[List.map_cons,toVs,Wm hy,XaL hl]
    . cases h
end
end Go.Vm
namespace Go.Vm
noncomputable section
def Xc (r:Res)(k:DK)(t:Tree):Prop:=∀ v,t.ev=some v->∃ w h1,r=.ok (toV w) (toH h1)/\(k w h1).ev=some v
theorem Xb {r:Res}{k:DK}{w:DV}{h:DH} (hr:r=.ok (toV w) (toH h)):Xc r k (k w h):=fun _ hv=>⟨w,h,hr,hv⟩
theorem Xa {r:Res}{k:DK}:Xc r k .no:=fun _ h=>(XiX h).elim
theorem Xd {r:Res}{k:DK}{b:Bool}{t:Tree} (ht:b=true->Xc r k t):Xc r k (.need b t):=fun v h=>ht (XB h).1 v (XB h).2
theorem XW {r:Res}{k:DK}{b:Bool}{t f:Tree} (ht:b=true->Xc r k t)(hf:b=false->Xc r k f):Xc r k (.br b t f):=fun v h=>by
  rcases Wz h with ⟨hb,h⟩ | ⟨hb,h⟩
  . exact ht hb v h
  . exact hf hb v h
variable {h:DH}{k:DK}
def cellsD:DV->Option (List DV)
  | .agg l=>some l
  | .bot=>none
  |v=>some [v]
theorem Zo {v:DV}{l:List DV} (e:cellsD v=some l):(toV v).cells=some (toVs l):=by
  cases v<;>first | (cases e; rfl) | cases e
def oneD:DV->Bool
  | .agg _ | .tup _ | .bot=>false
  |_=>true
theorem Xhh {v:DV} (e:oneD v=true):(toV v).one=true:=by
  cases v<;>first | rfl | cases e
def Zp:List DV->Bool
  |[]=>true
  |v::r=>oneD v&&Zp r
theorem Zm:∀ {l:List DV},Zp l=true->Yq (toVs l)=true
  |[],_=>rfl
  |v::r,e=>by
    simp only[Zp,Bool.and_eq_true] at e;simp only[toVs,Yq,Xhh e.1,Zm e.2,Bool.and_self]
def Xja (c a b:DV)(h:DH)(k:DK):Tree:=match c with
  | .bool t=>.br t (k a h) (k b h)
  |_=>.no
theorem XfD (c a b:DV):Xc (Xad (toH h) (toV a) (toV b) (toV c)) k (Xja c a b h k):=by
  cases c<;>first | exact Xa | skip
  rename_i t;exact XW (fun e=>by subst e; exact Xb rfl) (fun e=>by subst e; exact Xb rfl)
def dAlc (z:List V)(el:Nat)(h:DH)(k:DK):Tree:=match ofVs z with
  |some l=>h.pushK (.c l false el) fun h'=>k (.ptr h.n 0) h'
  |none=>.no
theorem XhP (z:List V)(el:Nat):Xc (.ok (.ptr (toH h).n 0) (X5 (toH h) z false el (some 0))) k (dAlc z el h k):=by
  unfold dAlc;split
  . rename_i l hl
    rw[DH.pushK_eq];refine Xb ?_
    rw[WZ,← Yt z hl]; rfl
  . exact Xa
def dBox (el:Nat)(v:DV)(h:DH)(k:DK):Tree:=match cellsD v with
  |some l=>h.pushK (.c l false el) fun h'=>k (.ptr h.n 0) h'
  |none=>.no
theorem XhK (el:Nat)(v:DV):Xc (sBox (toH h) el (toV v)) k (dBox el v h k):=by
  unfold dBox;split
  . rename_i l hl
    rw[DH.pushK_eq];refine Xb ?_
    unfold sBox;rw[WZ,Zo hl]; rfl
  . exact Xa
def ZX (l:List DV)(off:Nat)(c:List DV):List DV:=l.take off++c++l.drop (off+c.length)
theorem XaZ (l:List DV)(off:Nat)(c:List DV):toVs (ZX l off c)=Zg (toVs l) off (toVs c):=by
  simp only[ZX,Zg,Yg,XG,XH,Xk]
def XbV (e:T DV):List DV->List (Nat×Nat×Opd)->Option (List DV)
  |z,[]=>some z
  |z,(off,n,x)::r=>match opdD e x with
    |some d=>match cellsD d with
      |some c=>match Nat.beq c.length n&&Nat.ble (off+n) z.length with
        |true=>XbV e (ZX z off c) r
        |false=>none
      |none=>none
    |none=>none
theorem Xak {e : T DV} : ∀ {ps : List (Nat × Nat × Opd)} {z l : List DV}, XbV e z ps = some l → fill (toE e) (toVs z) ps = some (toVs l)
  |[],z,l,h=>by cases h; rfl
  | (off, n, x) :: r, z, l, h => by
    simp only[XbV] at h;split at h
    . rename_i d hd
      split at h
      . rename_i c hc
        split at h
        . rename_i hb
          simp only[Bool.and_eq_true] at hb;have h1:=Nat.eq_of_beq_eq_true hb.1;have h2:=Nat.le_of_ble_eq_true hb.2;simp only[fill,Wm hd,Zo hc];rw[if_pos (by rw[Xk,Xk]; exact⟨h1,h2⟩),← XaZ]
          exact Xak h
        . cases h
      . cases h
    . cases h
def dBld (e:T DV)(z:List V)(ps:List (Nat×Nat×Opd))(h:DH)(k:DK):Tree:=match ofVs z with
  |some l=>match XbV e l ps with
    |some r=>k (.agg r) h
    |none=>.no
  |none=>.no
theorem XhL (e:T DV)(z:List V)(ps:List (Nat×Nat×Opd)):Xc (sBld (toE e) (toH h) z ps) k (dBld e z ps h k):=by
  unfold dBld;split
  . rename_i l hl
    split
    . rename_i r hr
      refine Xb ?_
      unfold sBld;rw[← Yt z hl,Xak hr]; rfl
    . exact Xa
  . exact Xa
def Xcz (z:List DV):Nat->List DV
  |0=>[]
  |n+1=>z++Xcz z n
theorem XaI (z:List DV):∀ n,toVs (Xcz z n)=repl (toVs z) n
  |0=>rfl
  |n+1=>by simp only[Xcz,repl,Yg,XaI z n]
def dBsl (e:T DV)(z:List V)(len s el:Nat)(ps:List (Nat×Nat×Opd))(h:DH)(k:DK):Tree:=match ofVs z with
  |some l=>match XbV e (Xcz l len) ps with
    |some r=>h.pushK (.c r false el) fun h'=>k (.sl h.n 0 len len s true) h'
    |none=>.no
  |none=>.no
theorem XhJ (e:T DV)(z:List V)(len s el:Nat)(ps:List (Nat×Nat×Opd)):Xc (sBsl (toE e) (toH h) z len s el ps) k (dBsl e z len s el ps h k):=by
  unfold dBsl;split
  . rename_i l hl
    split
    . rename_i r hr
      rw[DH.pushK_eq];refine Xb ?_
      unfold sBsl;rw[← Yt z hl,← XaI,Xak hr,WZ]; rfl
    . exact Xa
  . exact Xa
def XcH (f:DV->Tree)(i:Nat):List DV->Nat->Tree
  |[],_=>.no
  |v::r,j=>.br (Nat.beq i j) (f v) (XcH f i r (j+1))
theorem XaJ {f:DV->Tree}{i:Nat}{w:DV}:∀ {l:List DV}{j:Nat},(XcH f i l j).ev=some w->∃ n v,i=j+n/\l[n]? = some v/\(f v).ev=some w
  |[],j,h=>(XiX h).elim
  |v::r,j,h=>by
    rcases Wz h with ⟨hb,h⟩ | ⟨hb,h⟩
    . exact⟨0,v,Nat.eq_of_beq_eq_true hb,rfl,h⟩
    . obtain⟨n,u,h1,h2,h3⟩:=XaJ h
      exact⟨n+1,u,by omega,by simpa using h2,h3⟩
def dLd (x:DV)(h:DH)(k:DK):Tree:=match x with
  | .ptr o i=>match h.get o with
    | .c l _ _=>XcH (fun v=>k v h) i l 0
    | .b l _=>.need (Nat.blt i l.length) (k (.int .u8 (l.getD i 0).toNat) h)
    | .dead=>.no
  |_=>.no
theorem XjH (x : DV) : Xc (sLd (toH h) (toV x)) k (dLd x h k) := by
  cases x<;>first | exact Xa | skip
  rename_i o i
  show Xc (sLd (toH h) (.ptr o i)) k _
  simp only[sLd,Xb2,ZC,dLd]
  cases hg:h.get o with
  |dead=>exact Xa
  | c l sp el =>
    intro w hw;obtain⟨n,v,hn,hi,hv⟩:=XaJ hw
    have hn:i=n:=by omega
    subst hn;have hlt:=(List.getElem?_eq_some_iff.1 hi).1;simp only[toO,ZL];rw[if_pos (by rw[Xk]; omega)]
    refine⟨v,h,?_,hv⟩
    have e1:((toVs l).drop i).take 1=[toV v]:=by
      rw[XH,XG]
      have:(l.drop i).take 1=[v]:=by
        rw[List.drop_eq_getElem_cons hlt]
        have:=(List.getElem?_eq_some_iff.1 hi).2
        simp[this]
      rw[this]; rfl
    rw[e1]
  |b l el =>
    refine Xd fun hb=>?_
    have hlt:i<l.length:=by simpa using hb
    simp only[toO,ZL];rw[if_pos (by rw[XdU]; omega),XhU,XhT]
    have:(l.drop i).take 1=[l.getD i 0]:=by
      rw[List.getD_eq_getElem?_getD,List.getElem?_eq_getElem hlt,List.drop_eq_getElem_cons hlt];rfl
    rw[this];exact Xb rfl
def dLdn (n:Nat)(x:DV)(h:DH)(k:DK):Tree:=match x with
  | .ptr o i=>match h.get o with
    | .c l _ _=>match Nat.ble (i+n) l.length with
      |true=>k (.agg ((l.drop i).take n)) h
      |false=>.no
    |_=>.no
  |_=>.no
theorem Xh9 (n:Nat)(x:DV):Xc (sLdn (toH h) n (toV x)) k (dLdn n x h k):=by
  cases x<;>first | exact Xa | skip
  rename_i o i
  show Xc (sLdn (toH h) n (.ptr o i)) k _
  simp only[sLdn,Xb2,ZC,dLdn]
  cases hg:h.get o with
  |dead=>exact Xa
  |b l el=>exact Xa
  |c l sp el =>
    cases hb:Nat.ble (i+n) l.length with
    |true =>
      have hle:=Nat.le_of_ble_eq_true hb;simp only[toO,ZL,hb];rw[if_pos (by rw[Xk]; exact hle),XH,XG]
      exact Xb rfl
    |false =>
      simp only[hb];exact Xa
def ovrD (l:List DV)(i:Nat)(l':List DV):List DV:=l.take i++l'++l.drop (i+l'.length)
theorem Xck (l:List DV)(i:Nat)(l':List DV):toVs (ovrD l i l')=ovr (toVs l) i (toVs l'):=by
  simp only[ovrD,ovr,Yg,XG,XH,Xk]
def dSt (n : Nat) (x v : DV) (h : DH) (k : DK) : Tree := match x with
  | .ptr o i=>match cellsD v with
    |some l'=>match h.get o with
      | .c l sp el=>match Nat.beq l'.length n&&Nat.ble (i+n) l.length&&Nat.ble h.fl o&&Zp l' with
        |true=>h.setK o (.c (ovrD l i l') sp el) fun h'=>k (.tup []) h'
        |false=>.no
      |_=>.no
    |none=>.no
  |_=>.no
theorem XjF (n : Nat) (x v : DV) : Xc (sSt (toH h) n (toV x) (toV v)) k (dSt n x v h k) := by
  cases x<;>first | exact Xa | skip
  rename_i o i
  show Xc (sSt (toH h) n (.ptr o i) (toV v)) k _
  unfold dSt;simp only[sSt,Xkj,ZC]
  cases hl':cellsD v with
  |none=>exact Xa
  |some l' =>
    cases hg:h.get o with
    |dead=>exact Xa
    |b l el=>exact Xa
    |c l sp el =>
      cases hb:(Nat.beq l'.length n&&Nat.ble (i+n) l.length&&Nat.ble h.fl o&&Zp l') with
      |true =>
        have hb':=hb;simp only[Bool.and_eq_true] at hb';obtain⟨⟨⟨h1,h2⟩,h3⟩,h4⟩:=hb';have h1:=Nat.eq_of_beq_eq_true h1;have h2:=Nat.le_of_ble_eq_true h2;have h3:=Nat.le_of_ble_eq_true h3;rw[Zo hl'];simp only[Xk,h1,if_true,toO,XgS];rw[if_pos ⟨h2,by simp,h3,Zm h4⟩]
        rw[h1] at hb;simp only[hb];rw[DH.setK_eq];refine Xb ?_
        rw[XgQ,← Xck]; rfl
      |false =>
        simp only[hb];exact Xa
def YD (h:DH)(o:Nat):Bool:=match h.get o with
  | .dead=>false
  |_=>true
theorem Zq {o:Nat}:alive (toH h) o=YD h o:=by
  rw[Xjh,ZC];unfold YD
  cases h.get o<;>rfl
def dNck (x:DV)(h:DH)(k:DK):Tree:=match x with
  | .ptr o i=>match YD h o with
    |true=>k (.ptr o i) h
    |false=>.no
  | .fn f c=>k (.fn f c) h
  |_=>.no
theorem Xh5 (x:DV):Xc (sNck (toH h) (toV x)) k (dNck x h k):=by
  cases x<;>first | exact Xa | skip
  . rename_i o i
    unfold dNck
    simp only
    split
    . rename_i hb
      refine Xb ?_
      show (if alive (toH h) o then _ else _)=_
      rw[Zq,hb]; rfl
    . exact Xa
  . exact Xb rfl
def dFad (off:Nat)(x:DV)(h:DH)(k:DK):Tree:=match x with
  | .ptr o i=>match YD h o with
    |true=>k (.ptr o (i+off)) h
    |false=>.no
  |_=>.no
theorem XhD (off:Nat)(x:DV):Xc (sFad (toH h) off (toV x)) k (dFad off x h k):=by
  cases x<;>first | exact Xa | skip
  rename_i o i;unfold dFad
  simp only
  split
  . rename_i hb
    refine Xb ?_
    show (if alive (toH h) o then _ else _)=_
    rw[Zq,hb]; rfl
  . exact Xa
def arith (op:BinOp)(kd:IntKind)(a b:Int):Option Int:=match op with
  | .add=>some (kd.wrap (a+b))
  | .sub=>some (kd.wrap (a-b))
  | .mul=>some (kd.wrap (a*b))
  | .and=>some (kd.wrap (BitVec.ofInt kd.bits a &&& BitVec.ofInt kd.bits b).toNat)
  | .or=>some (kd.wrap (BitVec.ofInt kd.bits a ||| BitVec.ofInt kd.bits b).toNat)
  | .xor=>some (kd.wrap (BitVec.ofInt kd.bits a ^^^ BitVec.ofInt kd.bits b).toNat)
  | .andNot=>some (kd.wrap (BitVec.ofInt kd.bits a &&& ~~~ BitVec.ofInt kd.bits b).toNat)
  |_=>none
def cmpD (op:BinOp)(a b:Int):Option Bool:=match op with
  | .eql=>some (decide (a=b))
  | .neq=>some (!decide (a=b))
  | .lss=>some (decide (a<b))
  | .leq=>some (decide (a<=b))
  | .gtr=>some (decide (b<a))
  | .geq=>some (decide (b<=a))
  |_=>none
def XeR (op:BinOp)(kd:IntKind)(a b:Int):Option Int:=match op with
  | .shl=>some (kd.wrap (a*2 ^ (min b.toNat kd.bits)))
  | .shr=>some (a.fdiv (2 ^ (min b.toNat kd.bits)))
  |_=>none
def quoD (op:BinOp)(kd:IntKind)(a b:Int):Option Int:=match op with
  | .quo=>some (kd.wrap (a.tdiv b))
  | .rem=>some (a.tmod b)
  |_=>none
def Xiv (op:BinOp)(a b:List UInt8):Option Bool:=match op with
  | .eql=>some (decide (a=b))
  | .neq=>some (!decide (a=b))
  | .lss=>some (Op.bytesLess a b)
  | .geq=>some (!Op.bytesLess a b)
  | .leq=>some (Op.bytesLess a b||decide (a=b))
  | .gtr=>some (!(Op.bytesLess a b||decide (a=b)))
  |_=>none
def XiV (op:BinOp)(x y:Nat):Option Bool:=match op with
  | .eql=>some (FloatKind.f64.format.order x y == some .eq)
  | .neq=>some (FloatKind.f64.format.order x y != some .eq)
  |_=>none
def farD (op:BinOp)(x y:Nat):Option Nat:=match op with
  | .add=>FloatKind.f64.format.add x y
  | .sub=>FloatKind.f64.format.sub x y
  | .mul=>FloatKind.f64.format.mul x y
  |_=>none
def XfG (op : BinOp) (kd kd' : IntKind) (a b : Int) (h : DH) (k : DK) : Tree :=
  match XeR op kd a b with
  |some z=>.need (decide (0<=b)) (k (.int kd z) h)
  |none=>match decide (kd=kd') with
    |true=>match cmpD op a b with
      |some t=>k (.bool t) h
      |none=>match arith op kd a b with
        |some z=>k (.int kd z) h
        |none=>match quoD op kd a b with
          |some z=>.need (!decide (b=0)) (k (.int kd z) h)
          |none=>.no
    |false=>.no
theorem XfF (op : BinOp) (kd kd' : IntKind) (a b : Int) : Xc (give (toH h) (bin op (.int kd a) (.int kd' b))) k (XfG op kd kd' a b h k) := by
  unfold XfG;split
  . rename_i z hz
    refine Xd fun hb=>?_
    have hb:0<=b:=by simpa using hb
    refine Xb ?_
    unfold XeR at hz;split at hz
    . cases hz; rw[XnY _ _ _ _ hb]; rfl
    . cases hz; rw[XnX _ _ _ _ hb]; rfl
    . cases hz
  . rename_i hs
    split
    . rename_i hk
      have hk:kd=kd':=by simpa using hk
      subst hk;split
      . rename_i t ht
        refine Xb ?_
        unfold cmpD at ht;split at ht<;>first | cases ht | skip
        . rw[Xoe]; rfl
        . rw[XnZ,show decide (a ≠ b)=!decide (a=b) by simp]; rfl
        . rw[Xoa]; rfl
        . rw[Xob]; rfl
        . rw[Xoc]; rfl
        . rw[Xod]; rfl
      . split
        . rename_i z hz
          refine Xb ?_
          unfold arith at hz;split at hz<;>first | cases hz | skip
          all_goals simp[bin,Z4,give,toV]
        . split
          . rename_i z hz
            refine Xd fun hb=>?_
            have hb:¬ b=0:=by simpa using hb
            refine Xb ?_
            unfold quoD at hz;split at hz<;>first | cases hz | skip
            all_goals simp[bin,Z4,give,toV,hb]
          . exact Xa
    . exact Xa
def XiW:BinOp->Bool
  | .add=>true
  | .sub=>true
  | .mul=>true
  |_=>false
def dBin (op:BinOp)(x y:DV)(h:DH)(k:DK):Tree:=match x,y with
  | .int kd a,.int kd' b=>XfG op kd kd' a b h k
  | .str a,.str b=>match Xiv op a b with
    |some t=>k (.bool t) h
    |none=>match op with
      | .add=>.need (decide (a.length+b.length<=9223372036854775807)) (k (.str (a++b)) h)
      |_=>.no
  | .flt a,.flt b=>match XiV op a b with
    |some t=>k (.bool t) h
    |none=>match XiW op with
      |true=>.br (farD op a b).isSome (k (.flt ((farD op a b).getD 0)) h) (k .nan h)
      |false=>.no
  |_,_=>.no
theorem XhM (op : BinOp) (x y : DV) : Xc (give (toH h) (bin op (toV x) (toV y))) k (dBin op x y h k) := by
  unfold dBin;split
  . exact XfF _ _ _ _ _
  . rename_i a b
    split
    . rename_i t ht
      refine Xb ?_
      show give _ (bin op (sv a) (sv b))=_
      unfold Xiv at ht;split at ht<;>first | cases ht | skip
      . rw[Xmt]; rfl
      . rw[Xmo,show decide (a ≠ b)=!decide (a=b) by simp]; rfl
      . rw[Xmp]; rfl
      . rw[Xms]; rfl
      . rw[Xmq]; rfl
      . rw[Xmr]; rfl
    . split
      . refine Xd fun hb=>Xb ?_
        show give _ (bin .add (sv a) (sv b))=_
        rw[Xmu a b (by simpa using hb)]; rfl
      . exact Xa
  . rename_i a b
    split
    . rename_i t ht
      refine Xb ?_
      unfold XiV at ht;split at ht<;>first | cases ht | skip
      . rfl
      . rfl
    . split
      . rename_i hop
        refine XW (fun hb=>Xb ?_) (fun hb=>Xb ?_)
        . obtain⟨z,hz⟩:=Option.isSome_iff_exists.1 hb
          rw[hz]
          show give _ (Wj op a b)=_
          unfold farD at hz;split at hz<;>first | cases hz | skip
          all_goals simp only[Wj,hz]; rfl
        . have hz:farD op a b=none:=by
            cases hf:farD op a b with
            |none=>rfl
            |some z=>rw[hf] at hb; cases hb
          show give _ (Wj op a b)=_
          unfold farD at hz;split at hz<;>first | simp only[Wj,hz]; rfl | skip
          cases op<;>simp[XiW] at hop<;>simp_all
      . exact Xa
  . exact Xa
def dUn (op:UnOp)(x:DV)(h:DH)(k:DK):Tree:=match op,x with
  | .neg,.int kd n=>k (.int kd (kd.wrap (0-n))) h
  | .xor,.int kd n=>k (.int kd (kd.wrap (BitVec.ofInt kd.bits (if kd.signed then -1 else kd.max) ^^^ BitVec.ofInt kd.bits n).toNat)) h
  | .not,.bool b=>k (.bool (!b)) h
  |_,_=>.no
theorem XjE (op:UnOp)(x:DV):Xc (give (toH h) (un op (toV x))) k (dUn op x h k):=by
  unfold dUn
  split<;>first | exact Xb rfl | exact Xa
def dCvi (kd:IntKind)(x:DV)(h:DH)(k:DK):Tree:=match x with
  | .int _ n=>k (.int kd (kd.wrap n)) h
  |_=>.no
theorem XhH (kd:IntKind)(x:DV):Xc (sCvi (toH h) kd (toV x)) k (dCvi kd x h k):=by
  cases x<;>first | exact Xa | exact Xb rfl
def dCvs (x:DV)(h:DH)(k:DK):Tree:=match x with
  | .str l=>k (.str l) h
  |_=>.no
theorem XhG (x:DV):Xc (sCvs (toH h) (toV x)) k (dCvs x h k):=by
  cases x<;>first | exact Xa | exact Xb rfl
def dLnt (x:DV)(h:DH)(k:DK):Tree:=match x with
  | .str l=>k (.int .i64 (l.length:Int)) h
  |_=>.no
theorem Xh7 (x:DV):Xc (sLnt (toH h) (toV x)) k (dLnt x h k):=by
  cases x<;>first | exact Xa | exact Xb rfl
def dLen (x:DV)(h:DH)(k:DK):Tree:=match x with
  | .nils=>k (.int .i64 0) h
  | .sl o _ n _ _ _=>match YD h o with
    |true=>k (.int .i64 (n:Int)) h
    |false=>.no
  |_=>.no
theorem Xh8 (x:DV):Xc (sLen (toH h) (toV x)) k (dLen x h k):=by
  cases x<;>first | exact Xa | exact Xb rfl | skip
  unfold dLen
  simp only
  split
  . rename_i hb
    refine Xb ?_
    show (if alive (toH h) _ then _ else _)=_
    rw[Zq,hb]; rfl
  . exact Xa
def dExt (i:Nat)(x:DV)(h:DH)(k:DK):Tree:=match x with
  | .tup l=>match l[i]? with
    |some v=>k v h
    |none=>.no
  |_=>.no
theorem XhE (i:Nat)(x:DV):Xc (sExt (toH h) i (toV x)) k (dExt i x h k):=by
  cases x<;>first | exact Xa | skip
  rename_i l;unfold dExt
  simp only
  split
  . rename_i v hv
    refine Xb ?_
    show (match (toVs l)[i]? with | some v=>Res.ok v (toH h) | none=>.no)=_
    rw[WY,hv]; rfl
  . exact Xa
def dFld (off n:Nat)(ag:Bool)(x:DV)(h:DH)(k:DK):Tree:=match x with
  | .agg l=>match Nat.ble (off+n) l.length with
    |true=>match ag with
      |true=>k (.agg ((l.drop off).take n)) h
      |false=>match l[off]? with
        |some v=>k v h
        |none=>.no
    |false=>.no
  |_=>.no
theorem Xe6 (off n : Nat) (ag : Bool) (x : DV) : Xc (sFld (toH h) off n ag (toV x)) k (dFld off n ag x h k) := by
  cases x<;>first | exact Xa | skip
  rename_i l;unfold dFld
  simp only
  split
  . rename_i hb
    have hle:=Nat.le_of_ble_eq_true hb
    cases ag with
    |true =>
      refine Xb ?_
      show partOf (toH h) (toVs l) off n true=_
      unfold partOf;rw[if_pos (by rw[Xk]; exact hle),if_pos rfl,XH,XG]; rfl
    |false =>
      simp only
      split
      . rename_i v hv
        refine Xb ?_
        show partOf (toH h) (toVs l) off n false=_
        unfold partOf;rw[if_pos (by rw[Xk]; exact hle),if_neg (by decide),WY,hv]; rfl
      . exact Xa
  . exact Xa
def dIxt (x i:DV)(h:DH)(k:DK):Tree:=match x,i with
  | .str s,.int _ z=>.need (decide (0<=z)&&decide (z<(s.length:Int))) (k (.int .u8 (s.getD z.toNat 0).toNat) h)
  |_,_=>.no
theorem XhA (x i:DV):Xc (sIxt (toH h) (toV x) (toV i)) k (dIxt x i h k):=by
  unfold dIxt;split
  . rename_i s kd z
    refine Xd fun hb=>Xb ?_
    simp only[Bool.and_eq_true,decide_eq_true_eq] at hb
    show sIxt (toH h) (sv s) (.int kd z)=_
    rw[Xqv s kd z hb.1 hb.2]
    have:s.getD z.toNat 0=s[z.toNat]'(by omega):=by rw[List.getD_eq_getElem?_getD,List.getElem?_eq_getElem (by omega)]; rfl
    rw[this]; rfl
  . exact Xa
def dSlt (x:DV)(lo hi:Option DV)(h:DH)(k:DK):Tree:=match x,lo,hi with
  | .str s,none,none=>k (.str s) h
  | .str s,none,some (.int _ y)=>.need (decide (0<=y)&&decide (y<=(s.length:Int))) (k (.str (s.take y.toNat)) h)
  | .str s,some (.int _ z),none=>.need (decide (0<=z)&&decide (z<=(s.length:Int))) (k (.str (s.drop z.toNat)) h)
  | .str s,some (.int _ z),some (.int _ y)=>.need (decide (0<=z)&&(decide (z<=y)&&decide (y<=(s.length:Int)))) (k (.str ((s.take y.toNat).drop z.toNat)) h)
  |_,_,_=>.no
theorem Xh2 (x:DV)(lo hi:Option DV):Xc (sltV (toH h) (lo.map toV) (hi.map toV) (toV x)) k (dSlt x lo hi h k):=by
  unfold dSlt;split
  . rename_i s
    refine Xb ?_
    show sltV (toH h) none none (sv s)=_
    simp only[sltV,sv];rw[if_pos ⟨Nat.le_refl _,Nat.zero_le _⟩,Yx s 0 s.length (Nat.zero_le _) (Nat.le_refl _)]
    simp[toV,sv]
  . rename_i s kd y
    refine Xd fun hb=>Xb ?_
    simp only[Bool.and_eq_true,decide_eq_true_eq] at hb;exact Xm2 hb.1 hb.2
  . rename_i s kd z
    refine Xd fun hb=>Xb ?_
    simp only[Bool.and_eq_true,decide_eq_true_eq] at hb;exact Xm1 hb.1 hb.2
  . rename_i s kd z kd' y
    refine Xd fun hb=>Xb ?_
    simp only[Bool.and_eq_true,decide_eq_true_eq] at hb;exact Xir hb.1 hb.2.1 hb.2.2
  . exact Xa
def XfE (x:DV)(h:DH)(k:DK):Tree:=match x with
  | .flt b=>k (.int .u64 (b:Int)) h
  | .nan=>k .nani h
  |_=>.no
theorem XdP (x:DV):Xc (Xa4 (toH h) (toV x)) k (XfE x h k):=by
  cases x<;>first | exact Xa | exact Xb rfl
def XcP (x:DV)(h:DH)(k:DK):Tree:=match x with
  | .int .u64 n=>k (.flt n.toNat) h
  | .nani=>k .nan h
  |_=>.no
theorem XdQ (x:DV):Xc (Xa5 (toH h) (toV x)) k (XcP x h k):=by
  unfold XcP
  split<;>first | exact Xa | exact Xb rfl
def dEq (kd:EqK)(neg:Bool)(x y:DV)(h:DH)(k:DK):Tree:=match kd,x,y with
  | .bool,.bool a,.bool b=>k (.bool ((a == b) != neg)) h
  | .ptr,.nil,.nil=>k (.bool (true != neg)) h
  | .ptr,.nil,.ptr o _=>match YD h o with
    |true=>k (.bool (false != neg)) h
    |false=>.no
  | .ptr,.ptr o _,.nil=>match YD h o with
    |true=>k (.bool (false != neg)) h
    |false=>.no
  | .sl,.nils,.nils=>k (.bool (true != neg)) h
  | .sl,.nils,.sl o _ _ _ _ _=>match YD h o with
    |true=>k (.bool (false != neg)) h
    |false=>.no
  | .sl,.sl o _ _ _ _ _,.nils=>match YD h o with
    |true=>k (.bool (false != neg)) h
    |false=>.no
  | .fn,.nilf,.nilf=>k (.bool (true != neg)) h
  | .fn,.nilf,.fn _ _=>k (.bool (false != neg)) h
  | .fn,.fn _ _,.nilf=>k (.bool (false != neg)) h
  | .ifc _,.nili,.ifc _ _=>k (.bool (false != neg)) h
  | .ifc _,.ifc _ _,.nili=>k (.bool (false != neg)) h
  |_,_,_=>.no
theorem XjI (kd:EqK)(neg:Bool)(x y:DV):Xc (sEq (toH h) kd neg (toV x) (toV y)) k (dEq kd neg x y h k):=by
  unfold dEq;split
  all_goals first | exact Xa | exact Xb rfl | skip
  all_goals
    split
    . rename_i hb
      refine Xb ?_
      simp only[sEq,eqOf,toV,Zq,hb,if_true]
    . exact Xa
def Xbq:LK->DV->DV->Option Bool
  | .i,.int kd a,.int kd' b=>match decide (kd=kd') with
    |true=>some (decide (a=b))
    |false=>none
  | .b,.bool a,.bool b=>some (a == b)
  | .s,.str a,.str b=>some (decide (a=b))
  |_,_,_=>none
theorem XcQ {kd:LK}{x y:DV}{b:Bool} (e:Xbq kd x y=some b):Xal kd (toV x) (toV y)=some b:=by
  unfold Xbq at e;split at e
  . split at e
    . rename_i hk
      have hk:=of_decide_eq_true hk;subst hk;cases e;simp only[toV,Xal,if_true,Option.some.injEq];rw[Bool.eq_iff_iff]; simp
    . cases e
  . cases e; rfl
  . rename_i a b
    cases e;simp only[toV,sv,Xal,Yn,Option.some.injEq];rw[Bool.eq_iff_iff]; simp
  . cases e
def WO (a b:List DV):List (Nat×LK)->Option Bool
  |[]=>some true
  | (i,kd)::r=>match a[i]?,b[i]? with
    |some x,some y=>match Xbq kd x y,WO a b r with
      |some t,some u=>some (t&&u)
      |_,_=>none
    |_,_=>none
theorem Xai {a b : List DV} : ∀ {offs : List (Nat × LK)} {t : Bool}, WO a b offs = some t → YJ (toVs a) (toVs b) offs = some t
  |[],t,e=>by cases e; rfl
  | (i, kd) :: r, t, e => by
    simp only[WO] at e;split at e
    . rename_i x y hx hy
      split at e
      . rename_i t1 u h1 h2
        cases e;simp only[YJ,WY,hx,hy,Option.map_some,XcQ h1];cases t1
        . rfl
        . simp only[Xai h2,Bool.true_and]
      . cases e
    . cases e
def dEqs (neg:Bool)(offs:List (Nat×LK))(x y:DV)(h:DH)(k:DK):Tree:=match x,y with
  | .agg a,.agg b=>match WO a b offs with
    |some t=>k (.bool (t != neg)) h
    |none=>.no
  |_,_=>.no
theorem XhF (neg:Bool)(offs:List (Nat×LK))(x y:DV):Xc (sEqs (toH h) neg offs (toV x) (toV y)) k (dEqs neg offs x y h k):=by
  unfold dEqs;split
  . split
    . rename_i t ht
      refine Xb ?_
      simp only[sEqs,toV,Xai ht]
    . exact Xa
  . exact Xa
end
end Go.Vm
namespace Go.Vm
noncomputable section
variable {h:DH}{k:DK}
def bytesD:List DV->Option (Bool×List UInt8)
  |[]=>some (true,[])
  | .int .u8 z::r=>match bytesD r with
    |some (b,l)=>some (decide (0<=z)&&(decide (z<256)&&b),UInt8.ofNat z.toNat::l)
    |none=>none
  |_=>none
theorem Xcs : ∀ {c : List DV} {l : List UInt8}, bytesD c = some (true, l) → toVs c = bs l
  |[],l,e=>by cases e; rfl
  |v::r,l,e=>by
    unfold bytesD at e;split at e
    . rename_i he; cases he
    . rename_i z r' hvr
      cases hvr;split at e
      . rename_i b l' hr
        simp only[Option.some.injEq,Prod.mk.injEq,Bool.and_eq_true,decide_eq_true_eq] at e;obtain⟨⟨h0,h1,rfl⟩,rfl⟩:=e
        show V.int .u8 z::toVs _=V.int .u8 ((UInt8.ofNat z.toNat).toNat:Int)::bs l'
        rw[Xcs hr]
        have:((UInt8.ofNat z.toNat).toNat:Int)=z:=by
          rw[UInt8.toNat_ofNat'];omega
        rw[this]
      . cases e
    . cases e
theorem XfP : ∀ {c : List DV} {b : Bool} {l : List UInt8}, bytesD c = some (b, l) → l.length = c.length
  |[],b,l,e=>by cases e; rfl
  |v::r,b,l,e=>by
    unfold bytesD at e;split at e
    . rename_i he; cases he
    . rename_i z r' hvr
      cases hvr;split at e
      . rename_i b l' hr
        cases e
        simp[XfP hr]
      . cases e
    . cases e
def dB2s (x:DV)(h:DH)(k:DK):Tree:=match x with
  | .nils=>k (.str []) h
  | .sl o i n _ s _ => match Nat.beq s 1 with
    |true=>match h.get o with
      | .b l _=>.need (Nat.ble (i+n) l.length) (k (.str ((l.drop i).take n)) h)
      | .c c _ _=>match bytesD ((c.drop i).take n) with
        |some (b,l)=>.need (Nat.ble (i+n) c.length&&b) (k (.str l) h)
        |none=>.no
      | .dead=>.no
    |false=>.no
  |_=>.no
theorem XhN (x : DV) : Xc (sB2s (toH h) (toV x)) k (dB2s x h k) := by
  cases x<;>first | exact Xa | exact Xb rfl | skip
  rename_i o i n c s ex;unfold dB2s
  simp only
  cases hs:Nat.beq s 1 with
  |false=>exact Xa
  |true =>
    have hs:=Nat.eq_of_beq_eq_true hs;subst hs
    show Xc (sB2s (toH h) (.sl o i n c 1 ex)) k _
    rw[Xtk,ZC]
    cases hg:h.get o with
    |dead=>exact Xa
    |b l el =>
      refine Xd fun hb=>Xb ?_
      rw[show toO (.b l el)=ob (bs l) true el (some 0) from rfl,Xqo (Nat.le_of_ble_eq_true hb)]; rfl
    |c cs sp el =>
      simp only
      cases hbd:bytesD ((cs.drop i).take n) with
      |none=>exact Xa
      |some bl =>
        obtain⟨b,l⟩:=bl;refine Xd fun hb=>Xb ?_
        simp only[Bool.and_eq_true] at hb;obtain⟨hb1,hb2⟩:=hb;subst hb2;have hle:=Nat.le_of_ble_eq_true hb1;have e:=Xcs hbd;unfold b2sO;rw[show toO (.c cs sp el)=ob (toVs cs) sp el (some 0) from rfl,ZL,if_pos (by rw[Xk]; exact hle),XH,XG,e]
        simp only[ZO,Nat.zero_mul,Nat.zero_add];rfl
def slsV (h:H)(s:Nat)(lo hi mx:Option V)(v:V):Res :=
  let nat (d:Nat) (y:Option V):Option Nat:=match y with | some y=>Za y | none=>some d
  match v with
  | .nils=>match nat 0 mx,nat 0 hi,nat 0 lo with
    |some m,some k,some l=>if m<=0/\k<=m/\l<=k/\(mx.isSome=true->hi.isSome=true) then .ok .nils h else .no
    |_,_,_=>.no
  | .sl o i n c s' ex=>if s'=s/\alive h o=true then match nat c mx,nat n hi,nat 0 lo with
    |some m,some k,some l=>if m<=c/\k<=m/\l<=k/\(mx.isSome=true->hi.isSome=true) then .ok (.sl o (i+l*s) (k-l) (m-l) s (ex||mx.isSome)) h else .no
    |_,_,_=>.no
    else .no
  |_=>.no
theorem nat_eq {e:T V}{d:Nat}{y:Option Opd}:(match y.map (opd e) with | some y=>Za y | none=>some d)=YL e d y:=by
  cases y<;>rfl
theorem Xm4 {h:H}{e:T V}{s:Nat}{lo hi mx:Option Opd}{v:V}:sSls h e s lo hi mx v=slsV h s (lo.map (opd e)) (hi.map (opd e)) (mx.map (opd e)) v:=by
  have e1:(mx.map (opd e)).isSome=mx.isSome:=by cases mx<;>rfl
  have e2:(hi.map (opd e)).isSome=hi.isSome:=by cases hi<;>rfl
  cases v with
  |nils =>
    simp only[sSls,slsV,bounds,nat_eq,e1,e2]
    cases YL e 0 mx<;>cases YL e 0 hi<;>cases YL e 0 lo<;>simp only<;>try rfl
    rename_i m y l
    by_cases hc:m<=0/\y<=m/\l<=y/\(mx.isSome=true->hi.isSome=true)
    . rw[if_pos hc,if_pos hc]
    . rw[if_neg hc,if_neg hc]
  |sl o i n c s' ex =>
    simp only[sSls,slsV,bounds,nat_eq,e1,e2];split
    . cases YL e c mx<;>cases YL e n hi<;>cases YL e 0 lo<;>simp only<;>try rfl
      rename_i m y l
      by_cases hc:m<=c/\y<=m/\l<=y/\(mx.isSome=true->hi.isSome=true)
      . rw[if_pos hc,if_pos hc]
      . rw[if_neg hc,if_neg hc]
    . rfl
  |_=>rfl
def bndD (d:Nat):Option DV->Option (Bool×Nat)
  |none=>some (true,d)
  |some (.int _ z)=>some (decide (0<=z),z.toNat)
  |_=>none
theorem Wo {d:Nat}{x:Option DV}{n:Nat} (e:bndD d x=some (true,n)):(match x.map toV with | some y=>Za y | none=>some d)=some n:=by
  unfold bndD at e;split at e
  . cases e; rfl
  . simp only[Option.some.injEq,Prod.mk.injEq,decide_eq_true_eq] at e
    obtain⟨h0,rfl⟩:=e;exact XO h0
  . cases e
def dSls (s:Nat)(x:DV)(lo hi mx:Option DV)(h:DH)(k:DK):Tree:=match x with
  | .nils=>match bndD 0 mx,bndD 0 hi,bndD 0 lo with
    |some (b,m),some (b',y),some (b'',l)=>.need (b&&(b'&&(b''&&(decide (m<=0)&&(decide (y<=m)&&(decide (l<=y)&&(!mx.isSome||hi.isSome))))))) (k .nils h)
    |_,_,_=>.no
  | .sl o i n c s' ex => match Nat.beq s' s && YD h o with
    |true=>match bndD c mx,bndD n hi,bndD 0 lo with
      |some (b,m),some (b',y),some (b'',l)=>.need (b&&(b'&&(b''&&(decide (m<=c)&&(decide (y<=m)&&(decide (l<=y)&&(!mx.isSome||hi.isSome)))))))
          (k (.sl o (i+l*s) (y-l) (m-l) s (ex||mx.isSome)) h)
      |_,_,_=>.no
    |false=>.no
  |_=>.no
theorem Xh3 (s : Nat) (x : DV) (lo hi mx : Option DV) : Xc (slsV (toH h) s (lo.map toV) (hi.map toV) (mx.map toV) (toV x)) k (dSls s x lo hi mx h k) := by
  have e1:(mx.map toV).isSome=mx.isSome:=by cases mx<;>rfl
  have e2:(hi.map toV).isSome=hi.isSome:=by cases hi<;>rfl
  cases x<;>first | exact Xa | skip
  case nils =>
    unfold dSls
    simp only
    split
    . rename_i b m b' y b'' l h1 h2 h3
      refine Xd fun hb=>Xb ?_
      simp only[Bool.and_eq_true,decide_eq_true_eq] at hb;obtain⟨rfl,rfl,rfl,c1,c2,c3,c4⟩:=hb
      show slsV (toH h) s (lo.map toV) (hi.map toV) (mx.map toV) .nils=_
      simp only[slsV,Wo h1,Wo h2,Wo h3,e1,e2];rw[if_pos ⟨c1,c2,c3,fun hm=>by rw[hm] at c4; simpa using c4⟩]; rfl
    . exact Xa
  case sl o i n c s' ex =>
    unfold dSls
    simp only
    cases hbb:(Nat.beq s' s&&YD h o) with
    |false=>exact Xa
    |true =>
      simp only[Bool.and_eq_true] at hbb;have hs:=Nat.eq_of_beq_eq_true hbb.1
      simp only
      split
      . rename_i b m b' y b'' l h1 h2 h3
        refine Xd fun hb=>Xb ?_
        simp only[Bool.and_eq_true,decide_eq_true_eq] at hb;obtain⟨rfl,rfl,rfl,c1,c2,c3,c4⟩:=hb
        show slsV (toH h) s (lo.map toV) (hi.map toV) (mx.map toV) (.sl o i n c s' ex)=_
        simp only[slsV,Wo h1,Wo h2,Wo h3,e1,e2];rw[if_pos ⟨hs,by rw[Zq]; exact hbb.2⟩,if_pos ⟨c1,c2,c3,fun hm=>by rw[hm] at c4; simpa using c4⟩]; rfl
      . exact Xa
def dIxs (s:Nat)(x i:DV)(h:DH)(k:DK):Tree:=match x,i with
  | .sl o j n _ s' _,.int _ z=>match Nat.beq s' s&&YD h o with
    |true=>.need (decide (0<=z)&&decide (z.toNat<n)) (k (.ptr o (j+z.toNat*s)) h)
    |false=>.no
  |_,_=>.no
theorem XhB (s:Nat)(x i:DV):Xc (sIxs (toH h) s (toV x) (toV i)) k (dIxs s x i h k):=by
  unfold dIxs;split
  . rename_i o j n c s' ex kd z
    cases hbb:(Nat.beq s' s&&YD h o) with
    |false=>exact Xa
    |true =>
      simp only[Bool.and_eq_true] at hbb;have hs:=Nat.eq_of_beq_eq_true hbb.1;refine Xd fun hb=>Xb ?_
      simp only[Bool.and_eq_true,decide_eq_true_eq] at hb
      show sIxs (toH h) s (.sl o j n c s' ex) (.int kd z)=_
      simp only[sIxs,XO hb.1];rw[if_pos ⟨hs,hb.2,by rw[Zq]; exact hbb.2⟩]; rfl
  . exact Xa
def dIxp (s len:Nat)(x i:DV)(h:DH)(k:DK):Tree:=match x,i with
  | .ptr o j,.int _ z=>match YD h o with
    |true=>.need (decide (0<=z)&&decide (z.toNat<len)) (k (.ptr o (j+z.toNat*s)) h)
    |false=>.no
  |_,_=>.no
theorem XhC (s len:Nat)(x i:DV):Xc (sIxp (toH h) s len (toV x) (toV i)) k (dIxp s len x i h k):=by
  unfold dIxp;split
  . rename_i o j kd z
    cases hbb:YD h o with
    |false=>exact Xa
    |true =>
      refine Xd fun hb=>Xb ?_
      simp only[Bool.and_eq_true,decide_eq_true_eq] at hb
      show sIxp (toH h) s len (.ptr o j) (.int kd z)=_
      simp only[sIxp,XO hb.1];rw[if_pos ⟨hb.2,by rw[Zq]; exact hbb⟩]; rfl
  . exact Xa
def dIxa (s len:Nat)(ag:Bool)(x i:DV)(h:DH)(k:DK):Tree:=match i with
  | .int _ z=>.need (decide (0<=z)&&decide (z.toNat<len)) (dFld (z.toNat*s) s ag x h k)
  |_=>.no
theorem Xqc (s len:Nat)(ag:Bool)(x i:DV):Xc (sIxa (toH h) s len ag (toV x) (toV i)) k (dIxa s len ag x i h k):=by
  unfold dIxa;split
  . rename_i kd z
    refine Xd fun hb=>?_
    simp only[Bool.and_eq_true,decide_eq_true_eq] at hb
    cases x<;>first | exact Xa | skip
    rename_i l
    have e:sIxa (toH h) s len ag (toV (.agg l)) (toV (.int kd z))=sFld (toH h) (z.toNat*s) s ag (toV (.agg l)):=by
      show sIxa (toH h) s len ag (.agg (toVs l)) (.int kd z)=partOf (toH h) (toVs l) (z.toNat*s) s ag
      simp only[sIxa,XO hb.1];rw[if_pos hb.2]
    rw[e];exact Xe6 _ _ _ _
  . exact Xa
def dCap (x:DV)(h:DH)(k:DK):Tree:=match x with
  | .nils=>k (.int .i64 0) h
  | .sl o _ _ c _ true=>match YD h o with
    |true=>k (.int .i64 (c:Int)) h
    |false=>.no
  |_=>.no
theorem XhI (x:DV):Xc (sCap (toH h) (toV x)) k (dCap x h k):=by
  unfold dCap;split
  . exact Xb rfl
  . split
    . rename_i hb
      refine Xb ?_
      simp only[toV,sCap,Zq,hb,if_true]
    . exact Xa
  . exact Xa
def dMks (z:List V)(s bytes el:Nat)(l c:DV)(h:DH)(k:DK):Tree:=match ofVs z,l,c with
  |some zs,.int _ l,.int _ c=>.need (decide (0<=l)&&(decide (0<=c)&&(decide (l.toNat<=c.toNat)&&roomFor c.toNat bytes))) (h.pushK (.c (Xcz zs c.toNat) false el) fun h'=>k (.sl h.n 0 l.toNat c.toNat s true) h')
  |_,_,_=>.no
theorem Xh6 (z:List V)(s bytes el:Nat)(l c:DV):Xc (sMks (toH h) z s bytes el (toV l) (toV c)) k (dMks z s bytes el l c h k):=by
  unfold dMks;split
  . rename_i zs kd l kd' c hz
    rw[DH.pushK_eq];refine Xd fun hb=>Xb ?_
    simp only[Bool.and_eq_true,decide_eq_true_eq] at hb;obtain⟨h0,h1,h2,h3⟩:=hb;simp only[toV,sMks,XO h0,XO h1];rw[if_pos ⟨h2,h3⟩,WZ,← Yt z hz,← XaI]; rfl
  . exact Xa
def mm1D (mx:Bool):DV->DV->Option DV
  | .int kd a,.int _ b=>some (.int kd (if mx then (if b > a then b else a) else (if b<a then b else a)))
  | .str a,.str b=>some (.str (match mx with
    |true=>(match Op.bytesLess a b with
      |true=>b
      |false=>a)
    |false=>(match Op.bytesLess a b||decide (a=b) with
      |true=>a
      |false=>b)))
  |_,_=>none
theorem Xhm {mx:Bool}{x y w:DV} (e:mm1D mx x y=some w):mmV mx (toV x) (toV y)=some (toV w):=by
  unfold mm1D at e;split at e
  . cases e; rfl
  . rename_i a b
    cases e;simp only[toV,sv,mmV,YK,Yn]
    have e1:(a == b)=decide (a=b):=by rw[Bool.eq_iff_iff]; simp
    rw[e1]
    cases mx with
    |true=>cases Op.bytesLess a b<;>rfl
    |false=>cases (Op.bytesLess a b||decide (a=b))<;>rfl
  . cases e
def mmD (mx:Bool):DV->List DV->Option DV
  |v,[]=>some v
  |v,x::r=>match mm1D mx v x with
    |some w=>mmD mx w r
    |none=>none
theorem Xfw {mx:Bool}:∀ {l:List DV}{v w:DV},mmD mx v l=some w->mmL mx (toV v) (toVs l)=some (toV w)
  |[],v,w,e=>by cases e; rfl
  |x::r,v,w,e=>by
    simp only[mmD] at e;split at e
    . rename_i u hu
      simp only[toVs,mmL,Xhm hu];exact Xfw e
    . cases e
def dMm (mx:Bool)(l:List DV)(h:DH)(k:DK):Tree:=match l with
  |v::r=>match mmD mx v r with
    |some w=>k w h
    |none=>.no
  |[]=>.no
theorem XjG (mx:Bool)(l:List DV):Xc (sMm (toH h) mx (toVs l)) k (dMm mx l h k):=by
  unfold dMm;split
  . split
    . rename_i w hw
      refine Xb ?_
      simp only[toVs,sMm,Xfw hw]; rfl
    . exact Xa
  . exact Xa
inductive Src where
  |c (m:Nat) (l:List DV)
  |b (l:List UInt8)
def Src.count:Src->Nat
  | .c m _=>m
  | .b l=>l.length
def Src.cells:Src->List V
  | .c _ l=>toVs l
  | .b l=>bs l
def srcD (s:Nat)(x:DV)(h:DH):Option (Bool×Src):=match x with
  | .nils=>some (true,.c 0 [])
  | .str l=>match Nat.beq s 1 with
    |true=>some (true,.b l)
    |false=>none
  | .sl o i n _ _ _=>match h.get o with
    | .c l _ _=>match Nat.beq s 1,bytesD ((l.drop i).take (n*s)) with
      |true,some (b,bl)=>some (Nat.ble (i+n*s) l.length&&b,.b bl)
      |_,_=>some (Nat.ble (i+n*s) l.length,.c n ((l.drop i).take (n*s)))
    | .b l _=>match Nat.beq s 1 with
      |true=>some (Nat.ble (i+n) l.length,.b ((l.drop i).take n))
      |false=>none
    | .dead=>none
  |_=>none
theorem Xo2 {s : Nat} {x : DV} {y : Src} (e : srcD s x h = some (true, y)) : XE (toH h) s (toV x) = some (y.count, y.cells) := by
  unfold srcD at e;split at e
  . cases e; rfl
  . split at e
    . rename_i hs
      have hs:=Nat.eq_of_beq_eq_true hs;subst hs;cases e;exact Xm0 _
    . cases e
  . rename_i o i n c s' ex
    show XE (toH h) s (.sl o i n c s' ex)=_
    rw[XgT,ZC];split at e
    . rename_i l sp el hg
      rw[hg,show toO (.c l sp el)=ob (toVs l) sp el (some 0) from rfl]
      split at e
      . rename_i b bl hs hbd
        have hs:=Nat.eq_of_beq_eq_true hs;subst hs;simp only[Option.some.injEq,Prod.mk.injEq,Bool.and_eq_true] at e;obtain⟨⟨h1,rfl⟩,rfl⟩:=e;have hle:=Nat.le_of_ble_eq_true h1;rw[Xch (by rw[Xk]; exact hle),XH,XG,Xcs hbd]
        have:=XfP hbd
        simp only[Src.count,Src.cells,this,List.length_take,List.length_drop]
        congr 2
        omega
      . simp only[Option.some.injEq,Prod.mk.injEq] at e
        obtain⟨h1,rfl⟩:=e;have hle:=Nat.le_of_ble_eq_true h1;rw[Xch (by rw[Xk]; exact hle),XH,XG]; rfl
    . rename_i l el hg
      rw[hg,show toO (.b l el)=ob (bs l) true el (some 0) from rfl]
      split at e
      . rename_i hs
        have hs:=Nat.eq_of_beq_eq_true hs;subst hs;simp only[Option.some.injEq,Prod.mk.injEq] at e;obtain⟨h1,rfl⟩:=e;have hle:=Nat.le_of_ble_eq_true h1;rw[Xch (by rw[XdU]; omega),XhU,XhT]
        simp only[Src.count,Src.cells,Nat.mul_one,List.length_take,List.length_drop]
        congr 2
        omega
      . cases e
    . cases e
  . cases e
def Src.obj (y:Src)(el:Nat):DO:=match y with
  | .c _ l=>.c l true el
  | .b l=>.b l el
theorem Src.obj_to (y:Src)(el:Nat):toO (y.obj el)=ob y.cells true el (some 0):=by cases y<;>rfl
def Src.ones:Src->Bool
  | .c _ l=>Zp l
  | .b _=>true
theorem Src.ones_to {y:Src} (e:y.ones=true):Yq y.cells=true:=by
  cases y with
  |c m l=>exact Zm e
  |b l=>exact XdW l
def Xnn (x:DO)(i n:Nat)(y:Src)(el:Nat):Option (Bool×DO):=match x,y with
  | .c l _ _,.c _ l'=>some (Nat.ble (i+n) l.length,.c ((l.drop i).take n++l') true el)
  | .b l _,.b l'=>match i with
    |0=>some (Nat.beq n l.length,.b (l++l') el)
    |_+1=>none
  | .c l _ _,.b l'=>match bytesD ((l.drop i).take n) with
    |some (b,bl)=>some (Nat.ble (i+n) l.length&&b,.b (bl++l') el)
    |none=>none
  |_,_=>none
def Xbp:DO->List V
  | .dead=>[]
  | .c l _ _=>toVs l
  | .b l _=>bs l
theorem Xnm {x:DO}{i n:Nat}{y:Src}{el:Nat}{z:DO} (e:Xnn x i n y el=some (true,z)):i+n<=(Xbp x).length/\toO z=ob (((Xbp x).drop i).take n++y.cells) true el (some 0):=by
  unfold Xnn at e;split at e
  . simp only[Option.some.injEq,Prod.mk.injEq] at e
    obtain⟨h1,rfl⟩:=e
    refine⟨by show _<=(toVs _).length; rw[Xk]; exact Nat.le_of_ble_eq_true h1,?_⟩
    simp only[toO,Xbp,Src.cells,Yg,XG,XH]
  . split at e
    . simp only[Option.some.injEq,Prod.mk.injEq] at e
      obtain⟨h1,rfl⟩:=e;have h1:=Nat.eq_of_beq_eq_true h1;subst h1
      refine⟨by show _<=(bs _).length; rw[XdU]; omega,?_⟩
      simp only[toO,Xbp,Src.cells,XgF,List.drop_zero];rw[List.take_of_length_le (by rw[XdU]; exact Nat.le_refl _)]
    . cases e
  . split at e
    . rename_i b bl hbd
      simp only[Option.some.injEq,Prod.mk.injEq,Bool.and_eq_true] at e;obtain⟨⟨h1,rfl⟩,rfl⟩:=e
      refine⟨by show _<=(toVs _).length; rw[Xk]; exact Nat.le_of_ble_eq_true h1,?_⟩
      simp only[toO,Xbp,Src.cells,XgF,XG,XH,Xcs hbd]
    . cases e
  . cases e
def XeN:DO->Bool
  | .dead=>false
  | .c _ sp _=>sp
  | .b _ _=>true
def elD:DO->Nat
  | .dead=>0
  | .c _ _ el=>el
  | .b _ el=>el
theorem Xlj {o:Nat}{x:DO} (hx:YD h o=true)(hg:h.get o=x):toO x=ob (Xbp x) (XeN x) (elD x) (some 0):=by
  cases x with
  |dead=>simp[YD,hg] at hx
  |_=>rfl
def dApp (s bytes el : Nat) (x y : DV) (h : DH) (k : DK) : Tree := match srcD s y h with
  |none=>.no
  | some (b, w) => .need b (match x with
    | .nils=>.br (decide (w.count=0)) (k .nils h) (.need (roomFor w.count bytes) (h.pushK (w.obj el) fun h'=>k (.sl h.n 0 w.count w.count s false) h'))
    | .sl o i n c s' ex => match Nat.beq s' s && YD h o with
      | true => .br (decide (w.count = 0)) (.need (decide (n ≤ c)) (k (.sl o i n c s ex) h))
          (.need (decide (c<n+w.count)) (.need (roomFor (n+w.count) bytes) (match Xnn (h.get o) i (n*s) w el with
            |some (b',z)=>.need b' (match ex with
              |true=>h.pushK z fun h'=>k (.sl h.n 0 (n+w.count) (n+w.count) s false) h'
              |false=>match XeN (h.get o)&&(Nat.ble h.fl o&&(Nat.beq (elD (h.get o)) el&&w.ones)) with
                |true=>h.setK o .dead fun h1=>h1.pushK z fun h'=>k (.sl h.n 0 (n+w.count) (n+w.count) s false) h'
                |false=>.no)
            |none=>.no)))
      |false=>.no
    |_=>.no)
theorem XhO (s bytes el : Nat) (x y : DV) : Xc (YF (toH h) s bytes el (toV x) (toV y)) k (dApp s bytes el x y h k) := by
  unfold dApp;split
  . exact Xa
  . rename_i b w hw
    refine Xd fun hb=>?_
    subst hb;rw[XjR (Xo2 hw)];split
    . rw[DH.pushK_eq]
      refine XW (fun h0=>Xb ?_) (fun h0=>Xd fun hr=>Xb ?_)
      . have h0:w.count=0:=by simpa using h0
        show X3 (toH h) s bytes el .nils _ _=_
        rw[h0]; rfl
      . have h0:w.count ≠ 0:=by simpa using h0
        show X3 (toH h) s bytes el .nils _ _=_
        rw[XfU h0 hr,WZ,Src.obj_to]; rfl
    . rename_i o i n c s' ex
      cases hbb:(Nat.beq s' s&&YD h o) with
      |false=>exact Xa
      |true =>
        simp only[Bool.and_eq_true] at hbb;have hs:=Nat.eq_of_beq_eq_true hbb.1;subst hs;have hobj:=Xlj hbb.2 rfl
        have hget:(toH h).get o=ob (Xbp (h.get o)) (XeN (h.get o)) (elD (h.get o)) (some 0):=by rw[ZC]; exact hobj
        refine XW (fun h0=>Xd fun hn=>Xb ?_) (fun h0=>Xd fun hc=>Xd fun hr=>?_)
        . have h0:w.count=0:=by simpa using h0
          show X3 (toH h) s' bytes el (.sl o i n c s' ex) _ _=_
          rw[h0,Xd5 hget (by simpa using hn)]; rfl
        · have h0 : w.count ≠ 0 := by simpa using h0
          have hc:c<n+w.count:=by simpa using hc
          split
          . rename_i b' z hj
            refine Xd fun hb'=>?_
            subst hb';obtain⟨hle,hz⟩:=Xnm hj
            have base:X3 (toH h) s' bytes el (.sl o i n c s' ex) w.count w.cells =
                if ex=true then .ok (.sl (toH h).n 0 (n+w.count) (n+w.count) s' false) ((toH h).push (toO z))
                else if XeN (h.get o)=true/\0<=i+n*s'/\(toH h).fl<=o/\elD (h.get o)=el/\Yq w.cells=true then
                  .ok (.sl (toH h).n 0 (n+w.count) (n+w.count) s' false) (((toH h).set o .dead).push (toO z)) else .no:=by
              unfold X3;simp only[hget,ob];rw[if_pos trivial,if_neg (by omega),if_pos hr,if_pos (by simpa using hle),Zt (by simpa using hle),hz]
              simp only[Option.getD_some,Option.map_some,Nat.zero_sub];rfl
            show Xc (X3 (toH h) s' bytes el (.sl o i n c s' ex) w.count w.cells) k _
            rw[base]
            cases ex with
            |true =>
              show Xc _ k (h.pushK z fun h'=>k (.sl h.n 0 (n+w.count) (n+w.count) s' false) h')
              rw[DH.pushK_eq];refine Xb ?_
              rw[if_pos rfl,WZ]; rfl
            |false =>
              cases hq:(XeN (h.get o)&&(Nat.ble h.fl o&&(Nat.beq (elD (h.get o)) el&&w.ones))) with
              |true =>
                simp only[hq];simp only[Bool.and_eq_true] at hq;obtain⟨q1,q2,q3,q4⟩:=hq;rw[DH.setK_eq,DH.pushK_eq];refine Xb ?_
                rw[if_neg (by decide),if_pos ⟨q1,Nat.zero_le _,Nat.le_of_ble_eq_true q2,Nat.eq_of_beq_eq_true q3,Src.ones_to q4⟩,WZ,XgQ]; rfl
              |false =>
                simp only[hq];exact Xa
          . exact Xa
    . exact Xa
end
end Go.Vm
namespace Go.Vm
noncomputable section
abbrev DC:=Nat->List DV->DH->DK->Tree
abbrev EK:=T DV->DH->Tree
def Xfn (e:T DV):Option Opd->Option (Option DV)
  |none=>some none
  |some x=>match opdD e x with
    |some d=>some (some d)
    |none=>none
theorem Xfm {e:T DV}{x:Option Opd}{d:Option DV} (hx:Xfn e x=some d):x.map (opd (toE e))=d.map toV:=by
  cases x with
  |none=>cases hx; rfl
  |some x =>
    simp only[Xfn] at hx;split at hx
    . rename_i y hy
      cases hx;simp only[Option.map_some,Wm hy]
    . cases hx
def w1 (e:T DV)(x:Opd)(f:DV->Tree):Tree:=match opdD e x with
  |some d=>Wh d f
  |none=>.no
def wN (e:T DV)(x:List Opd)(f:List DV->Tree):Tree:=match Xdp e x with
  |some d=>Xbm d f
  |none=>.no
def wM (e:T DV)(x:Option Opd)(f:Option DV->Tree):Tree:=match Xfn e x with
  |some d=>f d
  |none=>.no
theorem Xi {R:V->Res}{k:DK}{e:T DV}{x:Opd}{f:DV->Tree} (hf:∀ d,Xc (R (toV d)) k (f d)):Xc (R (opd (toE e) x)) k (w1 e x f):=by
  unfold w1;split
  . rename_i d hd
    rw[Wm hd,We]; exact hf d
  . exact Xa
theorem XcV {R:List V->Res}{k:DK}{e:T DV}{x:List Opd}{f:List DV->Tree} (hf:∀ d,Xc (R (toVs d)) k (f d)):Xc (R (x.map (opd (toE e)))) k (wN e x f):=by
  unfold wN;split
  . rename_i d hd
    rw[XaL hd,Wi]; exact hf d
  . exact Xa
theorem Xaq {R:Option V->Res}{k:DK}{e:T DV}{x:Option Opd}{f:Option DV->Tree} (hf:∀ d:Option DV,Xc (R (d.map toV)) k (f d)):Xc (R (x.map (opd (toE e)))) k (wM e x f):=by
  unfold wM;split
  . rename_i d hd
    rw[Xfm hd]; exact hf d
  . exact Xa
def XnI (cl:DC)(l:List DV)(x:DV)(h:DH)(k:DK):Tree:=match x with
  | .fn f caps=>cl f (l++caps) h k
  |_=>.no
def Zr (cl:DC)(e:T DV)(h:DH)(op:COp)(k:DK):Tree:=match op with
  | .mv x=>w1 e x fun v=>k v h
  | .same x=>w1 e x fun v=>k v h
  | .pick c a b=>w1 e c fun c=>w1 e a fun a=>w1 e b fun b=>Xja c a b h k
  | .alc z el=>dAlc z el h k
  | .box el x=>w1 e x fun v=>dBox el v h k
  | .bld z ps=>dBld e z ps h k
  | .bsl z len s el ps=>dBsl e z len s el ps h k
  | .ld x=>w1 e x fun v=>dLd v h k
  | .ldn n x=>w1 e x fun v=>dLdn n v h k
  | .st n x v=>w1 e x fun x=>w1 e v fun v=>dSt n x v h k
  | .nck x=>w1 e x fun v=>dNck v h k
  | .bin op x y=>w1 e x fun x=>w1 e y fun y=>dBin op x y h k
  | .eq kd neg x y=>w1 e x fun x=>w1 e y fun y=>dEq kd neg x y h k
  | .eqs neg offs x y=>w1 e x fun x=>w1 e y fun y=>dEqs neg offs x y h k
  | .un op x=>w1 e x fun v=>dUn op v h k
  | .cvi kd x=>w1 e x fun v=>dCvi kd v h k
  | .cvs x=>w1 e x fun v=>dCvs v h k
  | .b2s x=>w1 e x fun v=>dB2s v h k
  | .mki t x=>w1 e x fun v=>k (.ifc t v) h
  | .mkf f caps=>wN e caps fun l=>k (.fn f l) h
  | .mks z s bytes el l c=>w1 e l fun l=>w1 e c fun c=>dMks z s bytes el l c h k
  | .slt x lo hi=>w1 e x fun x=>wM e lo fun lo=>wM e hi fun hi=>dSlt x lo hi h k
  | .sls s x lo hi mx=>w1 e x fun x=>wM e lo fun lo=>wM e hi fun hi=>wM e mx fun mx=>dSls s x lo hi mx h k
  | .fad off x=>w1 e x fun v=>dFad off v h k
  | .fld off n ag x=>w1 e x fun v=>dFld off n ag v h k
  | .ixs s x i=>w1 e x fun x=>w1 e i fun i=>dIxs s x i h k
  | .ixt x i=>w1 e x fun x=>w1 e i fun i=>dIxt x i h k
  | .ixp s len x i=>w1 e x fun x=>w1 e i fun i=>dIxp s len x i h k
  | .ixa s len ag x i=>w1 e x fun x=>w1 e i fun i=>dIxa s len ag x i h k
  | .ext x i=>w1 e x fun v=>dExt i v h k
  | .calf f args=>wN e args fun l=>cl f l h k
  | .calv f args=>w1 e f fun f=>wN e args fun l=>XnI cl l f h k
  | .app s bytes el x y=>w1 e x fun x=>w1 e y fun y=>dApp s bytes el x y h k
  | .len x=>w1 e x fun v=>dLen v h k
  | .lnt x=>w1 e x fun v=>dLnt v h k
  | .lenc n=>k (.int .i64 (n:Int)) h
  | .cap x=>w1 e x fun v=>dCap v h k
  | .mm mx xs=>wN e xs fun l=>dMm mx l h k
  | .fbits x=>w1 e x fun v=>XfE v h k
  | .bitsf x=>w1 e x fun v=>XcP v h k
  |_=>.no
def ClOk (call:Nat->List V->H->Res)(cl:DC):Prop:=∀ f l h k,Xc (call f (toVs l) (toH h)) k (cl f l h k)
theorem ZF {call:Nat->List V->H->Res}{cl:DC} (hcl:ClOk call cl)(e:T DV)(h:DH)(op:COp)(k:DK):Xc (step call (toE e) (toH h) op) k (Zr cl e h op k):=by
  cases op<;>simp only[step,Zr]<;>first | exact Xa | skip
  case mv x=>exact Xi (R:=fun v=>.ok v (toH h)) fun d=>Xb rfl
  case same x=>exact Xi (R:=fun v=>.ok v (toH h)) fun d=>Xb rfl
  case pick c a b=>exact Xi (R:=fun c=>Xad (toH h) _ _ c) fun c=>Xi (R:=fun a=>Xad (toH h) a _ _) fun a=>Xi (R:=fun b=>Xad (toH h) _ b _) fun b=>XfD c a b
  case alc z el=>exact XhP z el
  case box el x=>exact Xi (R:=fun v=>sBox (toH h) el v) fun d=>XhK el d
  case bld z ps=>exact XhL e z ps
  case bsl z len s el ps=>exact XhJ e z len s el ps
  case ld x=>exact Xi (R:=fun v=>sLd (toH h) v) fun d=>XjH d
  case ldn n x=>exact Xi (R:=fun v=>sLdn (toH h) n v) fun d=>Xh9 n d
  case st n x v=>exact Xi (R:=fun x=>sSt (toH h) n x _) fun x=>Xi (R:=fun v=>sSt (toH h) n _ v) fun v=>XjF n x v
  case nck x=>exact Xi (R:=fun v=>sNck (toH h) v) fun d=>Xh5 d
  case bin op x y=>exact Xi (R:=fun x=>give (toH h) (bin op x _)) fun x=>Xi (R:=fun y=>give (toH h) (bin op _ y)) fun y=>XhM op x y
  case eq kd neg x y=>exact Xi (R:=fun x=>sEq (toH h) kd neg x _) fun x=>Xi (R:=fun y=>sEq (toH h) kd neg _ y) fun y=>XjI kd neg x y
  case eqs neg offs x y=>exact Xi (R:=fun x=>sEqs (toH h) neg offs x _) fun x=>Xi (R:=fun y=>sEqs (toH h) neg offs _ y) fun y=>XhF neg offs x y
  case un op x=>exact Xi (R:=fun v=>give (toH h) (un op v)) fun d=>XjE op d
  case cvi kd x=>exact Xi (R:=fun v=>sCvi (toH h) kd v) fun d=>XhH kd d
  case cvs x=>exact Xi (R:=fun v=>sCvs (toH h) v) fun d=>XhG d
  case b2s x=>exact Xi (R:=fun v=>sB2s (toH h) v) fun d=>XhN d
  case mki t x=>exact Xi (R:=fun v=>.ok (.ifc t v) (toH h)) fun d=>Xb rfl
  case mkf f caps=>exact XcV (R:=fun l=>.ok (.fn f l) (toH h)) fun d=>Xb rfl
  case mks z s bytes el l c=>exact Xi (R:=fun l=>sMks (toH h) z s bytes el l _) fun l=>Xi (R:=fun c=>sMks (toH h) z s bytes el _ c) fun c=>Xh6 z s bytes el l c
  case slt x lo hi =>
    simp only[Xm3];exact Xi (R:=fun x=>sltV (toH h) _ _ x) fun x=>Xaq (R:=fun lo=>sltV (toH h) lo _ _) fun lo=>Xaq (R:=fun hi=>sltV (toH h) _ hi _) fun hi=>Xh2 x lo hi
  case sls s x lo hi mx =>
    simp only[Xm4];exact Xi (R:=fun x=>slsV (toH h) s _ _ _ x) fun x=>Xaq (R:=fun lo=>slsV (toH h) s lo _ _ _) fun lo=>Xaq (R:=fun hi=>slsV (toH h) s _ hi _ _) fun hi=>Xaq (R:=fun mx=>slsV (toH h) s _ _ mx _) fun mx=>Xh3 s x lo hi mx
  case fad off x=>exact Xi (R:=fun v=>sFad (toH h) off v) fun d=>XhD off d
  case fld off n ag x=>exact Xi (R:=fun v=>sFld (toH h) off n ag v) fun d=>Xe6 off n ag d
  case ixs s x i=>exact Xi (R:=fun x=>sIxs (toH h) s x _) fun x=>Xi (R:=fun i=>sIxs (toH h) s _ i) fun i=>XhB s x i
  case ixt x i=>exact Xi (R:=fun x=>sIxt (toH h) x _) fun x=>Xi (R:=fun i=>sIxt (toH h) _ i) fun i=>XhA x i
  case ixp s len x i=>exact Xi (R:=fun x=>sIxp (toH h) s len x _) fun x=>Xi (R:=fun i=>sIxp (toH h) s len _ i) fun i=>XhC s len x i
  case ixa s len ag x i=>exact Xi (R:=fun x=>sIxa (toH h) s len ag x _) fun x=>Xi (R:=fun i=>sIxa (toH h) s len ag _ i) fun i=>Xqc s len ag x i
  case ext x i=>exact Xi (R:=fun v=>sExt (toH h) i v) fun d=>XhE i d
  case calf f args=>exact XcV (R:=fun l=>call f l (toH h)) fun l=>hcl f l h k
  case calv f args =>
    refine Xi (R:=fun f=>Xed call (toH h) _ f) fun f=>XcV (R:=fun l=>Xed call (toH h) l _) fun l=>?_
    cases f<;>first | exact Xa | skip
    rename_i g caps
    show Xc (call g (toVs l++toVs caps) (toH h)) k (cl g (l++caps) h k)
    rw[← Yg];exact hcl g (l++caps) h k
  case app s bytes el x y=>exact Xi (R:=fun x=>YF (toH h) s bytes el x _) fun x=>Xi (R:=fun y=>YF (toH h) s bytes el _ y) fun y=>XhO s bytes el x y
  case len x=>exact Xi (R:=fun v=>sLen (toH h) v) fun d=>Xh8 d
  case lnt x=>exact Xi (R:=fun v=>sLnt (toH h) v) fun d=>Xh7 d
  case lenc n=>exact Xb rfl
  case cap x=>exact Xi (R:=fun v=>sCap (toH h) v) fun d=>XhI d
  case mm mx xs=>exact XcV (R:=fun l=>sMm (toH h) mx l) fun l=>XjG mx l
  case fbits x=>exact Xi (R:=fun v=>Xa4 (toH h) v) fun d=>XdP d
  case bitsf x=>exact Xi (R:=fun v=>Xa5 (toH h) v) fun d=>XdQ d
def putD (nt:Nat)(e:T DV)(d:Option Nat)(v:DV):T DV:=match d with
  |some d=>match Nat.blt d nt with
    |true=>e.set .bot d v
    |false=>e
  |none=>e
theorem Xe2 {nt : Nat} {e : T DV} {d : Option Nat} {v : DV} : toE (putD nt e d v) = put nt (toE e) d (toV v) := by
  cases d with
  |none=>rfl
  |some d =>
    unfold putD put
    simp only
    by_cases hd:d<nt
    . rw[if_pos hd,show Nat.blt d nt=true by simpa using hd]
      exact Xkd e d v
    . rw[if_neg hd,show Nat.blt d nt=false by
        cases hb:Nat.blt d nt with
        |false=>rfl
        |true=>exact absurd (by simpa using hb) hd]
theorem T.set_self {α:Type} (d:α):∀ (i:Nat) (t:T α),t.get d i ≠ d->t.set d i (t.get d i)=t
  |i,.lf,h=>absurd (T.get_lf _ i) h
  |0,.nd v l r,_=>rfl
  |j+1,.nd v l r,h=>by
    rw[T.get_succ] at h ⊢;rw[T.set_nd_succ]
    have e2:Nat.mod j 2=j%2:=rfl
    have e1:Nat.div j 2=j / 2:=rfl
    rw[e1,e2] at h ⊢
    rcases Nat.mod_two_eq_zero_or_one j with hj | hj<;>rw[hj] at h ⊢
    . rw[if_pos rfl,T.set_self d (j / 2) l h]
    . rw[if_neg (by decide),T.set_self d (j / 2) r h]
def putK (nt:Nat)(e:T DV)(d:Option Nat)(v:DV)(k:T DV->Tree):Tree:=match d with
  |some d=>match Nat.blt d nt with
    |true=>Wh v fun v=>T.setK .bot e d v k
    |false=>k e
  |none=>k e
theorem WL (nt:Nat)(e:T DV)(d:Option Nat)(v:DV)(k:T DV->Tree):putK nt e d v k=k (putD nt e d v):=by
  cases d with
  |none=>rfl
  |some d =>
    simp only[putK,putD]
    cases Nat.blt d nt with
    |true =>
      show Wh v _=_
      rw[We,T.setK_eq]
    |false=>rfl
theorem Yz {e:T DV}{t:Nat}{b:Bool} (h:e.get .bot t=.bool b):e.set .bot t (.bool b)=e:=by
  have:=T.set_self DV.bot t e (by rw[h]; intro h; cases h)
  rwa [h] at this
def XV (cl:DC)(nt:Nat):List CI->T DV->DH->EK->Tree
  |[],e,h,k=>k e h
  |i::l,e,h,k=>match i.g with
    |none=>Zr cl e h i.op fun v h'=>putK nt e i.dst v fun e'=>XV cl nt l e' h' k
    |some (t,b)=>match e.get .bot t with
      | .bool b'=>.br b'
        (T.setK .bot e t (.bool true) fun e=>match b with
          |true=>Zr cl e h i.op fun v h'=>putK nt e i.dst v fun e'=>XV cl nt l e' h' k
          |false=>putK nt e i.dst (.tup []) fun e'=>XV cl nt l e' h k)
        (T.setK .bot e t (.bool false) fun e=>match b with
          |true=>putK nt e i.dst (.tup []) fun e'=>XV cl nt l e' h k
          |false=>Zr cl e h i.op fun v h'=>putK nt e i.dst v fun e'=>XV cl nt l e' h' k)
      | .tup _=>putK nt e i.dst (.tup []) fun e'=>XV cl nt l e' h k
      |_=>.no
def KOk (k:DK)(kk:K)(kd:EK):Prop:=∀ e h,Xc (kk (toE e) (toH h)) k (kd e h)
theorem Xaa {k:DK}{kk:K}{kd:EK}{nt:Nat}{d:Option Nat}{e:T DV}{r:Res}{t:Tree} (hk:KOk k kk kd)(ht:Xc r (fun v h'=>kd (putD nt e d v) h') t):Xc (pass nt d (toE e) kk r) k t:=by
  intro v hv;obtain⟨w,h1,rfl,hw⟩:=ht v hv;obtain⟨w',h2,he,hw'⟩:=hk _ _ v hw
  exact⟨w',h2,by rw[Xkx,← Xe2]; exact he,hw'⟩
theorem Zz {call : Nat → List V → H → Res} {cl : DC} (hcl : ClOk call cl) (nt : Nat) {k : DK} {kk : K} {kd : EK} (hk : KOk k kk kd) : ∀ (l : List CI), KOk k (kops call nt l kk) (fun e h => XV cl nt l e h kd)
  |[]=>hk
  | ⟨d,op,none⟩::l=>fun e h=>by
    have ih:=Zz hcl nt hk l
    show Xc (YW call nt (⟨d,op,none⟩::l) (toE e) (toH h) kk) k _
    rw[XmV];simp only[XV,WL];exact Xaa ih (ZF hcl e h op _)
  | ⟨d, op, some (t, b)⟩ :: l => fun e h => by
    have ih:=Zz hcl nt hk l
    have skip:∀ e h,Xc (ksk nt d (kops call nt l kk) (toE e) (toH h)) k (XV cl nt l (putD nt e d (.tup [])) h kd):=fun e h=>by
      have:=ih (putD nt e d (.tup [])) h
      rw[Xe2] at this;exact this
    have run:∀ e h,Xc (kop call nt d op (kops call nt l kk) (toE e) (toH h)) k (Zr cl e h op fun v h'=>XV cl nt l (putD nt e d v) h' kd):=fun e h=>Xaa ih (ZF hcl e h op _)
    show Xc (YW call nt (⟨d,op,some (t,b)⟩::l) (toE e) (toH h) kk) k _
    rw[Xk4,WI];simp only[XV,WL,T.setK_eq]
    cases hg:e.get .bot t<;>first | exact Xa | skip
    case bool b' =>
      refine XW (fun hb=>?_) (fun hb=>?_)
      . subst hb
        rw[Yz hg]
        show Xc (if true=b then _ else _) k _
        cases b with
        |true=>exact run e h
        |false=>exact skip e h
      . subst hb
        rw[Yz hg]
        show Xc (if false=b then _ else _) k _
        cases b with
        |true=>exact skip e h
        |false=>exact run e h
    case tup l'=>exact skip e h
def DH.top (h:DH):Nat->DH
  |0=>h
  |_+1=>{ h with fl:=h.n }
def DH.lower (h:DH)(fl:Nat):DH:={ h with fl:=fl }
theorem Xkc (h:DH)(m:Nat):toH (h.top m)=(toH h).top m:=by cases m<;>rfl
def Xok:DV->DV->Bool
  | .sl o _ _ _ _ _,.ptr o' _=>!Nat.beq o o'
  | .nils,.ptr _ _=>true
  |_,_=>false
theorem XlP (a b:DV):apart (toV a) (toV b)=Xok a b:=by
  cases a<;>cases b<;>rfl
def Xan (nt:Nat)(e:T DV)(h:DH):List Nat->Bool
  |[]=>true
  |t::r=>match Nat.ble 1000000 t with
    |true=>Xok (e.get .bot ((t-1000000) / 1000)) (e.get .bot ((t-1000000)%1000))&&Xan nt e h r
    |false=>match Nat.blt t nt with
      |true=>match e.get .bot t with
        | .ptr o _=>YD h o&&Xan nt e h r
        |_=>Xan nt e h r
      |false=>false
theorem Xcd {nt : Nat} {e : T DV} {h : DH} : ∀ {l : List Nat}, XZ nt (toE e) (toH h) l = Xan nt e h l
  |[]=>rfl
  |t::r=>by
    simp only[XZ,Xan]
    cases Nat.ble 1000000 t with
    |true=>simp only[if_true,WI,XlP,Xcd (l:=r)]
    |false =>
      simp only[Bool.false_eq_true,if_false]
      cases Nat.blt t nt with
      |false=>rfl
      |true =>
        simp only[if_true,WI]
        cases e.get .bot t<;>simp only[toV,sv,Xcd (l:=r),Zq]
def X7 (cl:DC)(nt:Nat)(al:List Nat):List CI->Nat->T DV->DH->EK->Tree
  |[],_,e,h,k=>match Xan nt e h al with
    |true=>k e h
    |false=>.no
  |i::l,m,e,h,k=>match i.g with
    |none=>Zr cl e (h.top m) i.op fun v h'=>putK nt e i.dst v fun e'=>X7 cl nt al l (m-1) e' (h'.lower h.fl) k
    |some (t,b)=>match e.get .bot t with
      | .bool b'=>.br b'
        (T.setK .bot e t (.bool true) fun e=>match b with
          |true=>Zr cl e (h.top m) i.op fun v h'=>putK nt e i.dst v fun e'=>X7 cl nt al l (m-1) e' (h'.lower h.fl) k
          |false=>putK nt e i.dst (.tup []) fun e'=>X7 cl nt al l (m-1) e' h k)
        (T.setK .bot e t (.bool false) fun e=>match b with
          |true=>putK nt e i.dst (.tup []) fun e'=>X7 cl nt al l (m-1) e' h k
          |false=>Zr cl e (h.top m) i.op fun v h'=>putK nt e i.dst v fun e'=>X7 cl nt al l (m-1) e' (h'.lower h.fl) k)
      | .tup _=>putK nt e i.dst (.tup []) fun e'=>X7 cl nt al l (m-1) e' h k
      |_=>.no
theorem Ws {k:DK}{kk:K}{kd:EK}{nt fl:Nat}{d:Option Nat}{e:T DV}{r:Res}{t:Tree} (hk:KOk k kk kd)(ht:Xc r (fun v h'=>kd (putD nt e d v) (h'.lower fl)) t):Xc (Xfh nt d (toE e) fl kk r) k t:=by
  intro v hv;obtain⟨w,h1,rfl,hw⟩:=ht v hv;obtain⟨w',h2,he,hw'⟩:=hk _ _ v hw
  exact⟨w',h2,by rw[Xi6,← Xe2]; exact he,hw'⟩
theorem Wv {call : Nat → List V → H → Res} {cl : DC} (hcl : ClOk call cl) (nt : Nat) (al : List Nat) {k : DK} {kk : K} {kd : EK} (hk : KOk k kk kd) : ∀ (l : List CI) (m : Nat), KOk k (XbQ call nt al l m kk) (fun e h => X7 cl nt al l m e h kd)
  |[],m=>fun e h=>by
    show Xc (Yb call nt al [] m (toE e) (toH h) kk) k _
    rw[XqK,Xcd];simp only[X7]
    cases Xan nt e h al with
    |true=>exact hk e h
    |false=>exact Xa
  | ⟨d,op,none⟩::l,m=>fun e h=>by
    have ih:=Wv hcl nt al hk l (m-1)
    show Xc (Yb call nt al (⟨d,op,none⟩::l) m (toE e) (toH h) kk) k _
    rw[XnF,← Xkc];simp only[X7,WL];exact Ws ih (ZF hcl e (h.top m) op _)
  | ⟨d, op, some (t, b)⟩ :: l, m => fun e h => by
    have ih:=Wv hcl nt al hk l (m-1)
    have skip:∀ e h,Xc (ksk nt d (XbQ call nt al l (m-1) kk) (toE e) (toH h)) k (X7 cl nt al l (m-1) (putD nt e d (.tup [])) h kd):=fun e h=>by
      have:=ih (putD nt e d (.tup [])) h
      rw[Xe2] at this;exact this
    have run:∀ e h,Xc (kopL call nt d op m (XbQ call nt al l (m-1) kk) (toE e) (toH h)) k (Zr cl e (h.top m) op fun v h'=>X7 cl nt al l (m-1) (putD nt e d v) (h'.lower h.fl) kd):=fun e h=>by
      show Xc (Xfh nt d (toE e) (toH h).fl _ (step call (toE e) ((toH h).top m) op)) k _
      rw[← Xkc];exact Ws ih (ZF hcl e (h.top m) op _)
    show Xc (Yb call nt al (⟨d,op,some (t,b)⟩::l) m (toE e) (toH h) kk) k _
    rw[XkJ,WI];simp only[X7,WL,T.setK_eq]
    cases hg:e.get .bot t<;>first | exact Xa | skip
    case bool b' =>
      refine XW (fun hb=>?_) (fun hb=>?_)
      . subst hb
        rw[Yz hg]
        show Xc (if true=b then _ else _) k _
        cases b with
        |true=>exact run e h
        |false=>exact skip e h
      . subst hb
        rw[Yz hg]
        show Xc (if false=b then _ else _) k _
        cases b with
        |true=>exact skip e h
        |false=>exact run e h
    case tup l'=>exact skip e h
def Xbz (id:Nat):List (Nat×EK)->Option EK
  |[]=>none
  | (i,k)::r=>match Nat.beq i id with
    |true=>some k
    |false=>Xbz id r
def Xc1 (body:T DV->DH->EK->Tree):Nat->T DV->DH->Tree
  |0,_,_=>.no
  |n+1,e,h=>body e h (fun e h=>Xc1 body n e h)
def XU (cl:DC)(fuel nt:Nat):CC->T DV->DH->EK->List (Nat×EK)->EK->Tree
  | .skip,e,h,_,_,k=>k e h
  | .ops l,e,h,_,_,k=>XV cl nt l e h k
  | .draw m al l,e,h,_,_,k=>X7 cl nt al l m e h k
  | .seq a b,e,h,r,x,k=>XU cl fuel nt a e h r x (fun e h=>XU cl fuel nt b e h r x k)
  | .cond c a b,e,h,r,x,k=>match c with
    | .t t=>match e.get .bot t with
      | .bool b'=>.br b' (T.setK .bot e t (.bool true) fun e=>XU cl fuel nt a e h r x k) (T.setK .bot e t (.bool false) fun e=>XU cl fuel nt b e h r x k)
      |_=>.no
    | .c v=>match v with
      | .bool true=>XU cl fuel nt a e h r x k
      | .bool false=>XU cl fuel nt b e h r x k
      |_=>.no
  | .block id b,e,h,r,x,k=>XU cl fuel nt b e h r ((id,k)::x) k
  | .loop b,e,h,r,x,_=>Xc1 (fun e h k'=>XU cl fuel nt b e h r x k') fuel e h
  | .exit id,e,h,_,x,_=>match Xbz id x with
    |some k=>k e h
    |none=>.no
  | .ret,e,h,r,_,_=>r e h
  | .bad,_,_,_,_,_=>.no
inductive XOk (k:DK):List (Nat×K)->List (Nat×EK)->Prop
  |nil:XOk k [] []
  |cons {id:Nat}{kk:K}{kd:EK}{x:List (Nat×K)}{y:List (Nat×EK)}:KOk k kk kd->XOk k x y->XOk k ((id,kk)::x) ((id,kd)::y)
theorem XOk.look {k : DK} {id : Nat} : ∀ {x : List (Nat × K)} {y : List (Nat × EK)}, XOk k x y → ∀ {kd : EK}, Xbz id y = some kd → ∃ kk, look id x = some kk ∧ KOk k kk kd
  |_,_,.nil,kd,e=>by cases e
  |_,_,.cons (id:=i) hk hx,kd,e=>by
    simp only[Xbz] at e
    by_cases hi:i=id
    . subst hi
      rw[show Nat.beq i i=true by simp] at e
      cases e
      exact⟨_,by simp[Vm.look],hk⟩
    . have hb:Nat.beq i id=false:=by
        cases hb:Nat.beq i id with
        |false=>rfl
        |true=>exact absurd (Nat.eq_of_beq_eq_true hb) hi
      rw[hb] at e;obtain⟨kk,h1,h2⟩:=XOk.look hx e
      exact⟨kk,by simp[Vm.look,hi,h1],h2⟩
theorem XbP {k:DK}{B:T V->H->K->Res}{D:T DV->DH->EK->Tree} (hB:∀ kk kd,KOk k kk kd->KOk k (fun e h=>B e h kk) (fun e h=>D e h kd)):∀ n,KOk k (fun e h=>ZT B n e h) (fun e h=>Xc1 D n e h)
  |0=>fun e h=>Xa
  |n+1=>fun e h=>hB _ _ (XbP hB n) e h
theorem Yv {call : Nat → List V → H → Res} {cl : DC} (hcl : ClOk call cl) (fuel nt : Nat) {k : DK} {r : K} {rd : EK} (hr : KOk k r rd) : ∀ (c : CC) (x : List (Nat × K)) (y : List (Nat × EK)) (kk : K) (kd : EK), XOk k x y → KOk k kk kd →
    KOk k (fun e h=>exec call fuel nt c e h r x kk) (fun e h=>XU cl fuel nt c e h rd y kd):=by
  intro c
  induction c with
  |skip=>intro x y kk kd _ hk e h; exact hk e h
  |ops l=>intro x y kk kd _ hk e h; exact Zz hcl nt hk l e h
  |draw m al l=>intro x y kk kd _ hk e h; exact Wv hcl nt al hk l m e h
  |seq a b iha ihb=>intro x y kk kd hx hk e h; exact iha x y _ _ hx (ihb x y kk kd hx hk) e h
  |cond c a b iha ihb =>
    intro x y kk kd hx hk e h
    show Xc (exec call fuel nt (.cond c a b) (toE e) (toH h) r x kk) k (XU cl fuel nt (.cond c a b) e h rd y kd)
    rw[XlS]
    cases c with
    |t t =>
      show Xc (XkL ((toE e).get .bot t) _ _ (toE e) (toH h)) k _
      rw[WI];simp only[XU,T.setK_eq]
      cases hg:e.get .bot t<;>first | exact Xa | skip
      rename_i b';refine XW (fun hb=>?_) (fun hb=>?_)
      . subst hb
        rw[Yz hg];exact iha x y kk kd hx hk e h
      . subst hb
        rw[Yz hg];exact ihb x y kk kd hx hk e h
    |c v =>
      simp only[XU];split
      . exact iha x y kk kd hx hk e h
      . exact ihb x y kk kd hx hk e h
      . exact Xa
  |block id b ih=>intro x y kk kd hx hk e h; exact ih ((id,kk)::x) ((id,kd)::y) kk kd (.cons hk hx) hk e h
  |loop b ih=>intro x y kk kd hx hk e h; exact XbP (fun kk' kd' hk'=>ih x y kk' kd' hx hk') fuel e h
  |exit id =>
    intro x y kk kd hx hk e h
    show Xc (exec call fuel nt (.exit id) (toE e) (toH h) r x kk) k (XU cl fuel nt (.exit id) e h rd y kd)
    simp only[exec,XU]
    cases hl:Xbz id y with
    |none=>exact Xa
    |some kd' =>
      obtain⟨kk',h1,h2⟩:=hx.look hl;rw[h1];exact h2 e h
  |ret=>intro x y kk kd hx hk e h; exact hr e h
  |bad=>intro x y kk kd hx hk e h; exact Xa
def Yu:List DV->Nat->T DV->T DV
  |[],_,e=>e
  |v::r,i,e=>Yu r (i+1) (e.set .bot i v)
theorem WS:∀ (l:List DV) (i:Nat) (e:T DV),toE (Yu l i e)=ZU (toVs l) i (toE e)
  |[],_,_=>rfl
  |v::r,i,e=>by
    show toE (Yu r (i+1) (e.set .bot i v))=ZU (toVs r) (i+1) ((toE e).set .bot i (toV v))
    rw[WS r,Xkd]
def Xcy (e:T DV)(h:DH):CR->Option DV
  | .t i=>some (e.get .bot i)
  | .m1 i=>match e.get .bot i with
    | .ptr o j=>match h.get o with
      | .c l _ _=>l[j]?
      |_=>none
    |_=>none
  | .mn i n => match e.get .bot i with
    | .ptr o j=>match h.get o with
      | .c l _ _=>match Nat.ble (j+n) l.length with
        |true=>some (.agg ((l.drop j).take n))
        |false=>none
      |_=>none
    |_=>none
theorem Xfb {e : T DV} {h : DH} {c : CR} {v : DV} (hv : Xcy e h c = some v) : resV (toE e) (toH h) c = some (toV v) := by
  cases c with
  |t i=>cases hv; show some ((toE e).get .bot i)=_; rw[WI]
  |m1 i =>
    simp only[Xcy] at hv;simp only[resV,WI];split at hv
    . rename_i o j hg
      rw[hg];split at hv
      . rename_i l sp el ho
        have hlt:=(List.getElem?_eq_some_iff.1 hv).1
        show (match YN (toH h) o j 1 with | some [v]=>some v | _=>none)=_
        rw[Xb2,ZC,ho,show toO (.c l sp el)=ob (toVs l) sp el (some 0) from rfl,ZL,if_pos (by rw[Xk]; omega),XH,XG]
        have:(l.drop j).take 1=[v]:=by
          rw[List.drop_eq_getElem_cons hlt]
          have:=(List.getElem?_eq_some_iff.1 hv).2
          simp[this]
        rw[this]; rfl
      . cases hv
    . cases hv
  |mn i n =>
    simp only[Xcy] at hv;simp only[resV,WI];split at hv
    . rename_i o j hg
      rw[hg];split at hv
      . rename_i l sp el ho
        split at hv
        . rename_i hb
          cases hv;have hle:=Nat.le_of_ble_eq_true hb
          show (match YN (toH h) o j n with | some l=>some (V.agg l) | none=>none)=_
          rw[Xb2,ZC,ho,show toO (.c l sp el)=ob (toVs l) sp el (some 0) from rfl,ZL,if_pos (by rw[Xk]; exact hle),XH,XG]; rfl
        . cases hv
      . cases hv
    . cases hv
def Xdk (e:T DV)(h:DH):List CR->Option (List DV)
  |[]=>some []
  |c::r=>match Xcy e h c,Xdk e h r with
    |some v,some l=>some (v::l)
    |_,_=>none
theorem Xae {e:T DV}{h:DH}:∀ {c:List CR}{l:List DV},Xdk e h c=some l->resL (toE e) (toH h) c=some (toVs l)
  |[],l,hl=>by cases hl; rfl
  |c::r,l,hl=>by
    simp only[Xdk] at hl;split at hl
    . rename_i v l' hv hl'
      cases hl;simp only[resL,Xfb hv,Xae hl',toVs]
    . cases hl
def YS (res:List CR)(k:DK):EK:=fun e h=>match Xdk e h res with
  |some [v]=>k v h
  |some l=>k (.tup l) h
  |none=>.no
theorem Zi (res:List CR)(k:DK):KOk k (fun e h=>results res e h) (YS res k):=by
  intro e h;simp only[YS];split
  . rename_i v hv
    refine Xb ?_
    simp only[results,Xae hv,toVs]
  . rename_i l hne hl
    refine Xb ?_
    simp only[results,Xae hl]
    cases l with
    |nil=>rfl
    |cons a r=>cases r with
      |nil=>exact absurd rfl (hne a)
      |cons b r=>rfl
  . exact Xa
abbrev Hook:=Nat->List DV->DH->Option (DK->Tree)
def WH (hk:Hook)(known:Nat->Bool)(tab:Nat->Option CFn):Nat->DC
  |0=>fun _ _ _ _=>.no
  | n + 1 => fun f l h k => match known f with
    |true=>match hk f l h with
      |some t=>match Nat.ble 64 (n+1) with
        |true=>t k
        |false=>.no
      |none=>.no
    |false=>match tab f with
      |some c=>match Nat.ble l.length c.nt with
        |true=>XU (WH hk known tab n) n c.nt c.body (Yu l 0 .lf) h (YS c.res k) [] (YS c.res k)
        |false=>.no
      |none=>.no
structure HookOk (O:Nat->List V->H->Res)(tab:Nat->Option CFn)(hk:Hook)(known:Nat->Bool):Prop where
  ok:∀ n f l h t,hk f l h=some t->∀ k,Xc (XF X4 O tab (n+64) f (toVs l) (toH h)) k (t k)
  no:∀ f,known f=false->∀ a h,O f a h=.no
theorem WA {O : Nat → List V → H → Res} {tab : Nat → Option CFn} {hk : Hook} {known : Nat → Bool} (hh : HookOk O tab hk known) : ∀ n, ClOk (XF X4 O tab n) (WH hk known tab n)
  |0=>fun f l h k=>Xa
  | n + 1 => fun f l h k => by
    have ih:=WA hh n;simp only[WH]
    cases hf:known f with
    |true =>
      simp only
      split
      . rename_i t ht
        split
        . rename_i hb
          have hle:=Nat.le_of_ble_eq_true hb
          obtain⟨m,hm⟩:∃ m,n+1=m+64:=⟨n+1-64,by omega⟩
          rw[hm];exact hh.ok m f l h t ht k
        . exact Xa
      . exact Xa
    |false =>
      simp only
      split
      . rename_i c hc
        split
        . rename_i hb
          have hle:=Nat.le_of_ble_eq_true hb;rw[XfN,hh.no f hf,XaK,hc,XjQ,if_pos (by rw[Xk]; exact hle)]
          have:=Yv ih n c.nt (Zi c.res k) c.body [] [] _ _ .nil (Zi c.res k) (Yu l 0 .lf) h
          simp only[WS] at this;exact this
        . exact Xa
      . exact Xa
theorem XfY {P:Program}{B:Base}{O:Nat->List V->H->Res}{tab:Nat->Option CFn}{hk:Hook}{known:Nat->Bool} (gO:Xm P.globals.size O)(hO:XM P O)(ht:Tab P tab)(hh:HookOk O tab hk known)
    {n f:Nat}{l:List DV}{v:DV} (hd:∀ el,∃ d:DH,toH d=ZA P.globals.size B el/\(WH hk known tab n f l d fun v _=>.ok v).ev=some v)
    (hB:BaseOk P.globals.size B) (ha:wfs 0 (toVs l)) (hv:wf 0 (toV v)):PlainCall P B f (toVs l) (toV v):=by
  refine Xbd YI gO hO ht (n:=n) hB (fun el=>?_) ha hv
  obtain⟨d,hd,he⟩:=hd el;obtain⟨w,h1,h2,h3⟩:=WA hh n f l d _ v he;cases h3
  exact⟨toH h1,by rw[← hd]; exact h2⟩
end
end Go.Vm
namespace Go.Vm
noncomputable section
variable {P:Program}
def oneH (G el:Nat)(l:List V):H:=⟨G+1,(T.lf:T Obj).set .dead G (ob l false el (some 0)),G⟩
theorem Xfo {G el:Nat}{l:List V} (i:Nat):(oneH G el l).get i=if G=i then ob l false el (some 0) else .dead:=by
  unfold oneH H.get
  simp only
  rw[T.get_set,T.get_lf]
def Xaf (G:Nat)(p:Pl):Rho:=fun i=>if i=G then some p else none
theorem Xaw {G:Nat}{p q:Pl}{o:Nat} (e:Xaf G p o=some q):o=G/\q=p:=by
  unfold Xaf at e;split at e
  . rename_i ho; cases e; exact⟨ho,rfl⟩
  . cases e
structure ObjCall (P:Program)(f el:Nat)(l:List V)(rest:List V)(v:V)(l':List V):Prop where
  len:l'.length=l.length
  wfl:wfs 0 l
  wfl':wfs 0 l'
  wfr:wfs 0 rest
  wfv:wf 0 v
  runs:∀ (W:World) (p:Pl) (vs:List Value),ORel (Xaf P.globals.size p) (oneH P.globals.size el l) W p (ob l false el (some 0)) ->
    VRels (Xaf P.globals.size p) (oneH P.globals.size el l) (.ptr P.globals.size 0::rest) vs ->
    Own P f/\Calls P f vs.toArray W fun e W'=>∃ x,e=.returned x/\VRel Xgx noH v x/\ORel Xgx noH W' p (ob l' false el (some 0)) /\
      W'.os=W.os/\W'.tape=W.tape/\W'.output=W.output/\W.heap.size<=W'.heap.size/\∀ B,B<W.heap.size->B ≠ p.B->W'.heap[B]? = W.heap[B]?
theorem Xfj {ρ ρ':Rho}{h h':H}{W:World}{p:Pl}{l:List V}{el:Nat} (hl:wfs 0 l)(r:ORel ρ h W p (ob l false el (some 0))):ORel ρ' h' W p (ob l false el (some 0)):=by
  obtain⟨cs,fr,h1,h2,h3,h4,h5,h6⟩:=r
  refine⟨cs,fr,h1,h2,h3,h4,fun i hi=>?_,h6⟩
  obtain⟨v,hv,hr⟩:=h5 i hi
  refine⟨v,hv,?_⟩
  rw[WJ hi] at hr ⊢;refine Ya _ _ ?_ hr;rw[List.getD_eq_getElem?_getD,List.getElem?_eq_getElem hi];exact (XX 0 l).1 hl _ (List.getElem_mem hi)
theorem ORel.same {ρ:Rho}{h:H}{W W':World}{p:Pl}{x:Obj} (hb:W'.heap[p.B]? = W.heap[p.B]?)(r:ORel ρ h W p x):ORel ρ h W' p x:=by
  revert r
  cases x with
  |dead=>exact id
  |m es=>exact id
  |c n t sp el fz=>rintro⟨cs,fr,h1,h2⟩; exact⟨cs,fr,hb.trans h1,h2⟩
  |si n x pos=>rintro⟨t,h1,h2⟩; exact⟨t,hb.trans h1,h2⟩
theorem Xjt {O:Nat->List V->H->Res}{tab:Nat->Option CFn} (gO:Xm P.globals.size O)(hO:XM P O)(ht:Tab P tab) {n f el:Nat}{l l' rest:List V}{v:V}{h':H}
    (hr:XF X4 O tab n f (.ptr P.globals.size 0::rest) (oneH P.globals.size el l)=.ok v h') (hg:h'.get P.globals.size=ob l' false el (some 0)) (hlen:l'.length=l.length)
    (hl:wfs 0 l) (hl':wfs 0 l') (hrest:wfs 0 rest) (hv:wf 0 v):ObjCall P f el l rest v l':=by
  refine⟨hlen,hl,hl',hrest,hv,fun W p vs hp hvs=>?_⟩
  have hrel:HRel (Xaf P.globals.size p) (oneH P.globals.size el l) W:=by
    refine⟨fun o q e=>?_,fun o q e=>?_,fun o o' q q' e e' _=>.inl ((Xaw e).1.trans (Xaw e').1.symm)⟩
    . rw[(Xaw e).1]; exact Nat.lt_succ_self _
    . obtain⟨rfl,rfl⟩:=Xaw e
      rw[Xfo,if_pos rfl]; exact hp
  have hwf:wfh (oneH P.globals.size el l):=by
    refine⟨Nat.le_succ _,fun o=>?_⟩
    rw[Xfo];split
    . intro i
      exact YV (fun i=>by rw[T.get_lf]; trivial) (YH (Nat.zero_le _) _ hl) 0 i
    . trivial
  have hgr:GRel P.globals.size (Xaf P.globals.size p) (oneH P.globals.size el l):=by
    refine⟨Nat.le_succ _,fun g hg=>.inr ⟨?_,?_⟩⟩
    . unfold Xaf; rw[if_neg (by omega)]
    . rw[Xfo,if_neg (by omega)]
  obtain⟨ho,hc⟩:=soundO YI gO hO ht n f _ _ _ W vs hrel hwf hgr (show wfs (P.globals.size+1) (.ptr P.globals.size 0::rest) from ⟨Nat.lt_succ_self _,YH (Nat.zero_le _) _ hrest⟩) hvs (by rw[hr]; intro h; cases h)
  rw[hr] at hc
  refine⟨ho,hc.mono fun e W' he=>?_⟩
  cases e with
  |returned x =>
    obtain⟨ρ',hv',hpo⟩:=he
    have hm:ρ' P.globals.size=some p:=by
      rcases hpo.fr.keep P.globals.size (Nat.lt_succ_self _) with e | ⟨_,e⟩
      . rw[e]; unfold Xaf; rw[if_pos rfl]
      . rw[hg] at e; cases e
    have hob:=hpo.rel.obj _ _ hm;rw[hg] at hob
    refine⟨x,rfl,Ya _ _ hv hv',Xfj hl' hob,hpo.fr.os,hpo.fr.tape,hpo.fr.output,hpo.fr.size,fun B hB hne=>hpo.fr.old B hB fun o q e hq=>?_⟩
    unfold Xaf at e;split at e
    . cases e; exact absurd hq.symm hne
    . cases e
  |panicked ch=>exact he.elim
  |outgrown=>exact he.elim
def objO (S:Nat->Nat->List V->List V->Option (V×List V)):Nat->List V->H->Res:=fun f args h=>match args with
  | .ptr o 0::rest=>match h.get o with
    | .c n t false el (some 0)=>match S f el (Xx t 0 n) rest with
      |some (v,l')=>match Nat.ble h.fl o with
        |true=>.ok v (h.set o (ob l' false el (some 0)))
        |false=>.no
      |none=>.no
    |_=>.no
  |_=>.no
theorem Xlz {S : Nat → Nat → List V → List V → Option (V × List V)} (hS : ∀ f el l rest v l', S f el l rest = some (v, l') → ObjCall P f el l rest v l') : Xm P.globals.size (objO S) := by
  intro f args h hG w ha;unfold objO;split
  . rename_i o rest
    split
    . rename_i n t el hg
      split
      . rename_i v l' hs
        have hc:=hS _ _ _ _ _ _ hs;split
        . rename_i hb
          have hfl:=Nat.le_of_ble_eq_true hb
          refine⟨⟨Nat.le_refl _,rfl,fun o' ho'=>?_,fun o' _ hd=>?_⟩,⟨w.1,fun o'=>?_⟩,YE (Nat.zero_le _) _ hc.wfv⟩
          . rw[get_set,if_neg (by omega)]
          . rw[get_set]
            split
            . rename_i e; subst e; rw[hg] at hd; cases hd
            . exact hd
          . rw[get_set]
            split
            . intro i
              exact YV (fun i=>by rw[T.get_lf]; trivial) (YH (Nat.zero_le _) _ hc.wfl') 0 i
            . exact w.2 o'
        . trivial
      . trivial
    . trivial
  . trivial
theorem XmU {S : Nat → Nat → List V → List V → Option (V × List V)} (hS : ∀ f el l rest v l', S f el l rest = some (v, l') → ObjCall P f el l rest v l') : XM P (objO S) := by
  intro f args h ρ W vs r wh g hwa hvs hno;unfold objO at hno ⊢;split at hno
  . rename_i o rest
    split at hno
    . rename_i n t el hg
      split at hno
      . rename_i v l' hs
        have hc:=hS _ _ _ _ _ _ hs;split at hno
        . rename_i hb
          have hfl:=Nat.le_of_ble_eq_true hb
          obtain⟨x0,xs,rfl,hx0,hxs⟩:∃ x0 xs,vs=x0::xs/\VRel ρ h (.ptr o 0) x0/\VRels ρ h rest xs:=by
            cases hvs with
            |cons a b=>exact⟨_,_,rfl,a,b⟩
          obtain⟨p,hp,rfl⟩:∃ p,ρ o=some p/\x0=.pointer (some ⟨p.B,p.b+0,none⟩):=by
            cases hx0 with
            |ptr e=>exact⟨_,e,rfl⟩
            |ptrD _ _ hd=>rw[hg] at hd; cases hd
          have hob0:=r.obj _ _ hp;rw[hg] at hob0
          have hob:ORel (Xaf P.globals.size p) (oneH P.globals.size el (Xx t 0 n)) W p (ob (Xx t 0 n) false el (some 0)):=by
            obtain⟨cs,fr,h1,h2,h3,h4,h5,h6⟩:=hob0
            refine⟨cs,fr,h1,h2,by rw[Xz]; exact h3,by rw[Xz]; exact h4,fun i hi=>?_,h6⟩
            rw[Xz] at hi;obtain⟨u,hu,hru⟩:=h5 i hi
            refine⟨u,hu,?_⟩
            have e:(row (Xx t 0 n)).get .bot i=t.get .bot i:=by
              rw[WJ (by rw[Xz]; exact hi),List.getD_eq_getElem?_getD,Yd _ _ _ _ hi,Nat.zero_add]; rfl
            rw[e];refine Ya _ _ ?_ hru
            have:=(XX 0 _).1 hc.wfl (t.get .bot i) (List.mem_of_getElem? (i:=i) (by rw[Yd _ _ _ _ hi,Nat.zero_add]))
            exact this
          obtain⟨ho,hcall⟩:=hc.runs W p _ hob (.cons (.ptr (p:=p) (by unfold Xaf; rw[if_pos rfl])) (Ze _ _ hc.wfr hxs))
          refine⟨ho,hcall.mono fun e W' he=>?_⟩
          obtain⟨x,rfl,hx,hob',h1,h2,h3,h4,h5⟩:=he
          have dead:∀ o',(h.set o (ob l' false el (some 0))).get o'=.dead<->h.get o'=.dead:=fun o'=>by
            rw[get_set];split
            . rename_i e; subst e; rw[hg]; exact⟨fun h=>(by cases h),fun h=>(by cases h)⟩
            . rfl
          refine⟨ρ,Ya _ _ hc.wfv hx,⟨Nat.le_refl _,rfl,fun o' ho'=>by rw[get_set,if_neg (by omega)],fun o' _ hd=>(dead o').2 hd⟩,⟨r.lt,fun o' q e=>?_,r.inj⟩,
            ⟨h1,h2,h3,h4,fun B hB hf=>h5 B hB fun e=>?_,fun _ _=>.inl rfl,fun o' q ho' e=>absurd (r.lt o' q e) (by omega)⟩⟩
          . rw[get_set]
            split
            . rename_i eo
              subst eo;rw[hp] at e;cases e;exact Xfj hc.wfl' hob'
            . rename_i eo
              have hne:q.B ≠ p.B:=fun eb=>(r.inj o o' p q hp e eb.symm).elim eo (fun h2=>by have:=h2.1; omega)
              have hq:=r.obj _ _ e;have hq2:=hq.same (h5 q.B hq.size hne);refine hq2.map rfl ?_
              intro n tt sp el' fz hx j y hy;exact VRel.mono (h':=h.set o (ob l' false el (some 0))) r.lt (Nat.le_refl h.n) (fun i _ hd=>(dead i).2 hd) (fun i _=>.inl rfl) hy
          . have:=hf o p hp e.symm
            omega
        . exact absurd rfl hno
      . exact absurd rfl hno
    . exact absurd rfl hno
  . exact absurd rfl hno
end
end Go.Vm
namespace Go.Vm
noncomputable section
theorem Xih (l:List UInt8):XcW l.length (numOf l)=l:=by
  apply List.ext_getElem?
  intro i
  by_cases hi:i<l.length
  . simp only[XcW,List.getElem?_map,List.getElem?_range hi,Option.map_some,Z5 l i hi,List.getElem?_eq_getElem hi,UInt8.ofNat_toNat]
  . rw[List.getElem?_eq_none (by simp[XcW]; omega),List.getElem?_eq_none (by omega)]
theorem WE (l:List UInt8):ofV (sv l)=some (.str l):=by
  simp only[sv,ofV,Xih,Nat.beq_refl,Bool.and_self]
inductive PD where
  |v (x:DV)
  |br (b:Bool) (t f:PD)
  |need (b:Bool) (t:PD)
def PD.val:PD->DV
  | .v x=>x
  | .br b t f=>match b with
    |true=>t.val
    |false=>f.val
  | .need _ t=>t.val
def PD.ok:PD->Bool
  | .v _=>true
  | .br b t f=>match b with
    |true=>t.ok
    |false=>f.ok
  | .need b t=>b&&t.ok
def PD.tree (k:DV->Tree):PD->Tree
  | .v x=>k x
  | .br b t f=>.br b (t.tree k) (f.tree k)
  | .need b t=>.need b (t.tree k)
theorem PD.tree_ev {k:DV->Tree}{v:DV}:∀ d:PD,(d.tree k).ev=some v->d.ok=true/\(k d.val).ev=some v
  | .v x,h=>⟨rfl,h⟩
  | .br b t f,h=>by
    cases b
    . exact PD.tree_ev f h
    . exact PD.tree_ev t h
  | .need b t,h=>by
    obtain⟨h1,h2⟩:=XB h;obtain⟨h3,h4⟩:=PD.tree_ev t h2
    exact⟨by simp[PD.ok,h1,h3],h4⟩
theorem PD.val_v {x:DV}:(PD.v x).val=x:=rfl
theorem PD.val_br {b:Bool}{t f:PD}:(PD.br b t f).val=cond b t.val f.val:=by cases b<;>rfl
theorem PD.val_need {b:Bool}{t:PD}:(PD.need b t).val=t.val:=rfl
theorem PD.ok_v {x:DV}:(PD.v x).ok=true:=rfl
theorem PD.ok_br {b:Bool}{t f:PD}:(PD.br b t f).ok=cond b t.ok f.ok:=by cases b<;>rfl
theorem PD.ok_need {b:Bool}{t:PD}:(PD.need b t).ok=(b&&t.ok):=rfl
inductive OD where
  |v (x:DV) (l:List DV)
  |br (b:Bool) (t f:OD)
  |need (b:Bool) (t:OD)
def OD.val:OD->DV×List DV
  | .v x l=>(x,l)
  | .br b t f=>match b with
    |true=>t.val
    |false=>f.val
  | .need _ t=>t.val
def OD.ok:OD->Bool
  | .v _ _=>true
  | .br b t f=>match b with
    |true=>t.ok
    |false=>f.ok
  | .need b t=>b&&t.ok
def OD.tree (k:DV->List DV->Tree):OD->Tree
  | .v x l=>k x l
  | .br b t f=>.br b (t.tree k) (f.tree k)
  | .need b t=>.need b (t.tree k)
theorem OD.tree_ev {k:DV->List DV->Tree}{v:DV}:∀ d:OD,(d.tree k).ev=some v->d.ok=true/\(k d.val.1 d.val.2).ev=some v
  | .v x l,h=>⟨rfl,h⟩
  | .br b t f,h=>by
    cases b
    . exact OD.tree_ev f h
    . exact OD.tree_ev t h
  | .need b t,h=>by
    obtain⟨h1,h2⟩:=XB h;obtain⟨h3,h4⟩:=OD.tree_ev t h2
    exact⟨by simp[OD.ok,h1,h3],h4⟩
theorem OD.ok_v {x:DV}{l:List DV}:(OD.v x l).ok=true:=rfl
theorem OD.ok_br {b:Bool}{t f:OD}:(OD.br b t f).ok=cond b t.ok f.ok:=by cases b<;>rfl
theorem OD.ok_need {b:Bool}{t:OD}:(OD.need b t).ok=(b&&t.ok):=rfl
structure Laws (P:Program) where
  spec:Nat->List DV->Option PD
  obj:Nat->Nat->List DV->List DV->Option OD
  dom:List Nat
  inS:∀ f l d,spec f l=some d->f∈dom
  inO:∀ f el l r d,obj f el l r=some d->f∈dom
  soundS:∀ f l d,spec f l=some d->d.ok=true->PlainCall P [] f (toVs l) (toV d.val)/\ofVs (toVs l)=some l
  soundO:∀ f el l r d,obj f el l r=some d->d.ok=true->ObjCall P f el (toVs l) (toVs r) (toV d.val.1) (toVs d.val.2)/\ofVs (toVs l)=some l/\ofVs (toVs r)=some r
def Laws.none (P:Program):Laws P:=⟨fun _ _=>.none,fun _ _ _ _=>.none,[],fun _ _ _ h=>(by cases h),fun _ _ _ _ _ h=>(by cases h),fun _ _ _ h _=>(by cases h),fun _ _ _ _ _ h _=>(by cases h)⟩
variable {P:Program}
def Laws.add (X:Laws P)(f:Nat)(g:List DV->Option PD)(hg:∀ l d,g l=some d->d.ok=true->PlainCall P [] f (toVs l) (toV d.val)/\ofVs (toVs l)=some l):Laws P where
  spec:=fun f' l=>match Nat.beq f' f with
    |true=>g l
    |false=>X.spec f' l
  obj:=X.obj
  dom:=f::X.dom
  inS:=fun f' l v h=>by
    split at h
    . rename_i e; rw[Nat.eq_of_beq_eq_true e]; exact List.mem_cons_self
    . exact List.mem_cons_of_mem _ (X.inS f' l v h)
  inO:=fun f' el l r d h=>List.mem_cons_of_mem _ (X.inO f' el l r d h)
  soundS:=fun f' l v h ho=>by
    split at h
    . rename_i e; rw[Nat.eq_of_beq_eq_true e]; exact hg l v h ho
    . exact X.soundS f' l v h ho
  soundO:=X.soundO
def Laws.addO (X:Laws P)(f:Nat)(g:Nat->List DV->List DV->Option OD)(hg:∀ el l r d,g el l r=some d->d.ok=true->ObjCall P f el (toVs l) (toVs r) (toV d.val.1) (toVs d.val.2)/\ofVs (toVs l)=some l/\ofVs (toVs r)=some r):Laws P where
  spec:=X.spec
  obj:=fun f' el l r=>match Nat.beq f' f with
    |true=>g el l r
    |false=>X.obj f' el l r
  dom:=f::X.dom
  inS:=fun f' l v h=>List.mem_cons_of_mem _ (X.inS f' l v h)
  inO:=fun f' el l r d h=>by
    split at h
    . rename_i e; rw[Nat.eq_of_beq_eq_true e]; exact List.mem_cons_self
    . exact List.mem_cons_of_mem _ (X.inO f' el l r d h)
  soundS:=X.soundS
  soundO:=fun f' el l r d h ho=>by
    split at h
    . rename_i e; rw[Nat.eq_of_beq_eq_true e]; exact hg el l r d h ho
    . exact X.soundO f' el l r d h ho
def Laws.S (X:Laws P):Nat->List V->Option V:=fun f args=>match ofVs args with
  |some l=>match X.spec f l with
    |some d=>match d.ok with
      |true=>some (toV d.val)
      |false=>.none
    | .none=>.none
  | .none=>.none
def Laws.S2 (X:Laws P):Nat->Nat->List V->List V->Option (V×List V):=fun f el l r=>match ofVs l,ofVs r with
  |some l,some r=>match X.obj f el l r with
    |some d=>match d.ok with
      |true=>some (toV d.val.1,toVs d.val.2)
      |false=>.none
    | .none=>.none
  |_,_=>.none
def Laws.O (X:Laws P):Nat->List V->H->Res:=XkN (plainO [] X.S) (objO X.S2)
theorem Laws.S_sound (X : Laws P) : ∀ f args v, X.S f args = some v → PlainCall P [] f args v := by
  intro f args v h;unfold Laws.S at h;split at h
  . rename_i l hl
    split at h
    . rename_i d hd
      split at h
      . rename_i ho
        cases h;rw[← Yt args hl];exact (X.soundS f l d hd ho).1
      . cases h
    . cases h
  . cases h
theorem Laws.S2_sound (X : Laws P) : ∀ f el l r v l', X.S2 f el l r = some (v, l') → ObjCall P f el l r v l' := by
  intro f el l r v l' h;unfold Laws.S2 at h;split at h
  . rename_i a b ha hb
    split at h
    . rename_i d hd
      split at h
      . rename_i ho
        cases h;rw[← Yt l ha,← Yt r hb];exact (X.soundO f el a b d hd ho).1
      . cases h
    . cases h
  . cases h
theorem Laws.O_good (X:Laws P):Xm P.globals.size X.O:=XjM (Xi4 X.S_sound) (Xlz X.S2_sound)
theorem Laws.O_sim (X:Laws P):XM P X.O:=XlK (Xjr X.S_sound) (XmU X.S2_sound)
theorem Laws.O_no (X:Laws P) {f:Nat} (hf:f ∉ X.dom)(a:List V)(h:H):X.O f a h=.no:=by
  have h1:X.S f a=.none:=by
    unfold Laws.S;split
    . rename_i l hl
      cases hs:X.spec f l with
      |none=>rfl
      |some d=>exact absurd (X.inS f l d hs) hf
    . rfl
  have h2:∀ el l r,X.S2 f el l r=.none:=by
    intro el l r;unfold Laws.S2;split
    . rename_i a b ha hb
      cases hs:X.obj f el a b with
      |none=>rfl
      |some d=>exact absurd (X.inO f el a b d hs) hf
    . rfl
  show orElse (plainO [] X.S f a h) (objO X.S2 f a h)=.no
  have e1:plainO [] X.S f a h=.no:=by unfold plainO; rw[h1]
  rw[e1,XaK];unfold objO;split
  . split
    . rw[h2]
    . rfl
  . rfl
theorem Laws.O_spec (X:Laws P) {f:Nat}{l:List DV}{d:PD} (hv:X.spec f l=some d)(ho:d.ok=true)(h:H):X.O f (toVs l) h=.ok (toV d.val) h:=by
  have hS:X.S f (toVs l)=some (toV d.val):=by
    unfold Laws.S;rw[(X.soundS f l d hv ho).2];simp only[hv,ho]
  show orElse (plainO [] X.S f (toVs l) h) _=_
  have e1:plainO [] X.S f (toVs l) h=.ok (toV d.val) h:=by unfold plainO; rw[hS]; rfl
  rw[e1]; rfl
theorem Laws.O_obj (X:Laws P) {f o el:Nat}{l r:List DV}{d:OD} (hs:X.spec f (.ptr o 0::r)=.none)(hd:X.obj f el l r=some d)(ho:d.ok=true) {h:DH} (hg:h.get o=.c l false el)(hfl:h.fl<=o) :
    X.O f (toVs (.ptr o 0::r)) (toH h)=.ok (toV d.val.1) (toH (h.set o (.c d.val.2 false el))):=by
  obtain⟨_,e1,e2⟩:=X.soundO f el l r d hd ho
  have hS:X.S f (toVs (.ptr o 0::r))=.none:=by
    unfold Laws.S
    have:ofVs (toVs (.ptr o 0::r))=some (.ptr o 0::r):=by
      show (match ofV (.ptr o 0),ofVs (toVs r) with | some x,some l=>some (x::l) | _,_=>.none)=_
      rw[e2]; rfl
    rw[this];simp only[hs]
  have hS2:X.S2 f el (toVs l) (toVs r)=some (toV d.val.1,toVs d.val.2):=by
    unfold Laws.S2;rw[e1,e2];simp only[hd,ho]
  show orElse (plainO [] X.S f (toVs (.ptr o 0::r)) (toH h)) (objO X.S2 f (.ptr o 0::toVs r) (toH h))=_
  have q1:plainO [] X.S f (toVs (.ptr o 0::r)) (toH h)=.no:=by unfold plainO; rw[hS]
  rw[q1,XaK];unfold objO
  have hg':(toH h).get o=.c (toVs l).length (row (toVs l)) false el (some 0):=by rw[ZC,hg]; rfl
  simp only[hg']
  have hr:Xx (row (toVs l)) 0 (toVs l).length=toVs l:=by
    rw[Zt (by omega),List.drop_zero,List.take_of_length_le (Nat.le_refl _)]
  rw[hr,hS2]
  have hb:Nat.ble (toH h).fl o=true:=Nat.ble_eq_true_of_le hfl
  simp only[hb];rw[XgQ]; rfl
def mem (f:Nat):List Nat->Bool
  |[]=>false
  |g::r=>match Nat.beq f g with
    |true=>true
    |false=>mem f r
theorem mem_iff {f : Nat} : ∀ {l : List Nat}, mem f l = true ↔ f ∈ l
  |[]=>by simp[mem]
  |g::r=>by
    simp only[mem]
    by_cases e:f=g
    . subst e; simp
    . have hb:Nat.beq f g=false:=by
        cases hb:Nat.beq f g with
        |false=>rfl
        |true=>exact absurd (Nat.eq_of_beq_eq_true hb) e
      rw[hb];simp only[List.mem_cons,e,false_or];exact mem_iff
def XdV (a b:List Nat):Bool:=match a with
  |[]=>true
  |f::r=>!mem f b&&XdV r b
theorem XgI:∀ {a b:List Nat},XdV a b=true->∀ f∈a,f ∉ b
  |[],_,_,f,hf=>by cases hf
  |g::r,b,h,f,hf=>by
    simp only[XdV,Bool.and_eq_true,Bool.not_eq_true'] at h
    rcases List.mem_cons.1 hf with rfl | hf
    . intro hb
      rw[mem_iff.2 hb] at h;exact absurd h.1 (by decide)
    . exact XgI h.2 f hf
def Laws.hook (X:Laws P):Hook:=fun f l h=>match X.spec f l with
  |some d=>some (fun k=>d.tree fun v=>k v h)
  | .none => match l with
    | .ptr o 0::r=>match h.get o with
      | .c l false el=>match X.obj f el l r with
        |some d=>match Nat.ble h.fl o with
          |true=>some (fun k=>d.tree fun v l'=>k v (h.set o (.c l' false el)))
          |false=>.none
        | .none=>.none
      |_=>.none
    |_=>.none
def outside (inl:List Nat):Nat->Bool:=fun f=>!mem f inl
theorem Xml {r:Res}{k:DK}{h:DH}{o el:Nat}{d:OD} (hr:d.ok=true->r=.ok (toV d.val.1) (toH (h.set o (.c d.val.2 false el)))):Xc r k (d.tree fun v l=>k v (h.set o (.c l false el))):=fun v hv=>by
  obtain⟨h1,h2⟩:=d.tree_ev hv
  exact⟨d.val.1,_,hr h1,h2⟩
theorem Xmk {r:Res}{k:DK}{h:DH}{d:PD} (hr:d.ok=true->r=.ok (toV d.val) (toH h)):Xc r k (d.tree fun v=>k v h):=fun v hv=>by
  obtain⟨h1,h2⟩:=d.tree_ev hv
  exact⟨d.val,h,hr h1,h2⟩
theorem Xnp (X : Laws P) {tab : Nat → Option CFn} {inl : List Nat} (h1 : XdV inl X.dom = true) : HookOk X.O tab X.hook (outside inl) where
  ok := fun n f l h t ht k => by
    show Xc (XF X4 X.O tab (n+63+1) f (toVs l) (toH h)) k _
    rw[XfN];unfold Laws.hook at ht;split at ht
    . rename_i d hd
      cases ht;refine Xmk fun ho=>?_
      rw[X.O_spec hd ho]; rfl
    . rename_i hs
      split at ht
      . rename_i o r
        split at ht
        . rename_i l' el hg
          split at ht
          . rename_i d hd
            split at ht
            . rename_i hb
              cases ht;refine Xml fun ho=>?_
              rw[X.O_obj hs hd ho hg (Nat.le_of_ble_eq_true hb)]; rfl
            . cases ht
          . cases ht
        . cases ht
      . cases ht
  no:=fun f hf a h=>by
    have:mem f inl=true:=by simpa [outside] using hf
    exact X.O_no (XgI h1 f (mem_iff.1 this)) a h
def Xu (X:Laws P)(tab:Nat->Option CFn)(inl:List Nat)(G n f:Nat)(l:List DV):Option DV :=
  (WH X.hook (outside inl) tab n f l ⟨G,.lf,G⟩ fun v _=>.ok v).ev
theorem XJ (X:Laws P) {tab:Nat->Option CFn} (ht:Tab P tab) {inl:List Nat}{G n f:Nat}{l:List DV}{v:DV} (hG:P.globals.size=G)(h1:XdV inl X.dom=true)
    (he:Xu X tab inl G n f l=some v) (ha:wfs 0 (toVs l)) (hv:wf 0 (toV v)):PlainCall P [] f (toVs l) (toV v):=by
  subst hG;exact XfY X.O_good X.O_sim ht (Xnp X h1) (n:=n) (fun el=>⟨⟨P.globals.size,.lf,P.globals.size⟩,rfl,he⟩) ⟨fun x hx=>(by cases hx),fun x hx=>(by cases hx)⟩ ha hv
def XT (X:Laws P)(tab:Nat->Option CFn)(inl:List Nat)(G n f el:Nat)(l r:List DV):Option DV :=
  (WH X.hook (outside inl) tab n f (.ptr G 0::r) ⟨G+1,(T.lf:T DO).set .dead G (.c l false el),G⟩ fun v h=>match h.get G with
    | .c l' false el'=>match Nat.beq el' el with
      |true=>.ok (.tup [v,.agg l'])
      |false=>.no
    |_=>.no).ev
theorem Xfq (X : Laws P) {tab : Nat → Option CFn} (ht : Tab P tab) {inl : List Nat} {G n f el : Nat} {l r l' : List DV} {v : DV} (hG : P.globals.size = G) (h1 : XdV inl X.dom = true)
    (he:XT X tab inl G n f el l r=some (.tup [v,.agg l'])) (hlen:l'.length=l.length) (hl:wfs 0 (toVs l)) (hl':wfs 0 (toVs l')) (hr:wfs 0 (toVs r)) (hv:wf 0 (toV v)) :
    ObjCall P f el (toVs l) (toVs r) (toV v) (toVs l'):=by
  subst hG;obtain⟨w,h',e1,e2⟩:=WA (Xnp X h1) n f _ _ _ _ he
  have e3:toH ⟨P.globals.size+1,(T.lf:T DO).set .dead P.globals.size (.c l false el),P.globals.size⟩=oneH P.globals.size el (toVs l):=by
    show (⟨_,T.map toO _,_⟩:H)=_
    rw[T.map_set]; rfl
  rw[e3] at e1
  simp only at e2
  cases hg:h'.get P.globals.size with
  |dead=>rw[hg] at e2; cases e2
  |b l el=>rw[hg] at e2; cases e2
  |c l2 sp el2 =>
    rw[hg] at e2
    cases sp with
    |true=>cases e2
    |false =>
      simp only at e2
      split at e2
      . rename_i hb
        have hb:=Nat.eq_of_beq_eq_true hb;subst hb;simp only[Tree.ev,Option.some.injEq,DV.tup.injEq,List.cons.injEq,DV.agg.injEq,and_true] at e2;obtain⟨rfl,rfl⟩:=e2;exact Xjt X.O_good X.O_sim ht e1 (by rw[ZC,hg]; rfl) (by rw[Xk,Xk,hlen]) hl hl' hr hv
      . cases e2
end
end Go.Vm
namespace Go.Vm
def XbJ (P:Program):Nat->TypeId->Bool
  |0,_=>false
  |n+1,t=>match P.underlying t with
    |some .bool=>true
    |some (.int _)=>true
    |some .string=>true
    |some (.struct fs)=>fs.toList.all fun f=>XbJ P n f.type
    |some (.array _ e)=>XbJ P n e
    |_=>false
section
variable {H:Type}{enc:TypeId×Value->H}{P:Program}
theorem XcJ {α:Type}{F F':α->Option (DataW H×List MemPlace)}:∀ {l:List α}{xs:List (DataW H×List MemPlace)},l.mapM F=some xs->(∀ a∈l,∀ x,F a=some x->F' a=some x/\x.2=[])->l.mapM F'=some xs/\xs.flatMap (·.2)=[]
  |[],xs,h,_=>by simp at h; subst h; exact⟨rfl,rfl⟩
  |a::l,xs,h,hF=>by
    simp only[List.mapM_cons,Option.bind_eq_bind,Option.bind_eq_some_iff,Option.pure_def,Option.some.injEq] at h;obtain⟨b,hb,r,hr,rfl⟩:=h;obtain⟨h1,h2⟩:=hF a List.mem_cons_self b hb;obtain⟨h3,h4⟩:=XcJ hr (fun a ha=>hF a (List.mem_cons_of_mem _ ha))
    refine⟨?_,?_⟩
    . simp only[List.mapM_cons,h1,h3,Option.bind_eq_bind,Option.bind_some,Option.pure_def]
    . simp only[List.flatMap_cons,h2,h4,List.append_nil]
theorem WW {w w' : World} {base base' : Nat} {sp sp' : Nat → Bool} {hd hd' : Bool} : ∀ (fuel m : Nat) (t : TypeId) (cs : List Value) (x : DataW H × List MemPlace), XbJ P m t = true →
    DataW.trod enc P w base sp hd fuel t cs=some x->DataW.trod enc P w' base' sp' hd' fuel t cs=some x/\x.2=[]
  |0,_,_,_,_,_,h=>by simp[DataW.trod] at h
  |fuel+1,0,_,_,_,hp,_=>by simp[XbJ] at hp
  |fuel+1,m+1,t,cs,x,hp,h=>by
    unfold XbJ at hp
    cases hu:P.underlying t with
    |none=>rw[hu] at hp; cases hp
    |some d =>
      rw[hu] at hp
      cases d<;>first | (cases hp; done) | skip
      case bool =>
        unfold DataW.trod at h ⊢;simp only[hu] at h ⊢;split at h
        all_goals first | (cases h; exact⟨rfl,rfl⟩) | simp_all
      case int k =>
        obtain⟨n,rfl,rfl,hw⟩:=DataW.trod_int hu h
        refine⟨?_,rfl⟩
        simp[DataW.trod,hu,hw]
      case string =>
        obtain⟨s,rfl,rfl,hs⟩:=DataW.trod_string hu h
        refine⟨?_,rfl⟩
        simp[DataW.trod,hu,hs]
      case struct fs =>
        unfold DataW.trod at h ⊢;simp only[hu] at h ⊢;split at h
        . rename_i hl
          rw[if_pos hl];obtain⟨xs,hx,rfl⟩:=Option.map_eq_some_iff.1 h;simp only[List.all_eq_true] at hp;obtain⟨h1,h2⟩:=XcJ hx (fun f hf y hy=>WW fuel m f.type _ y (hp f hf) hy)
          rw[h1]
          exact⟨rfl,h2⟩
        . cases h
      case array n e =>
        unfold DataW.trod at h ⊢;simp only[hu] at h ⊢;split at h
        . rename_i hl
          rw[if_pos hl];obtain⟨xs,hx,rfl⟩:=Option.map_eq_some_iff.1 h;obtain⟨h1,h2⟩:=XcJ hx (fun i hi y hy=>WW fuel m e _ y hp hy)
          rw[h1]
          exact⟨rfl,h2⟩
        . cases h
theorem XjT {w w':World}{base base':Nat}{sp sp':Nat->Bool}{hd hd':Bool}{m:Nat}{t:TypeId}{v:Value}{d:DataW H}{ps:List MemPlace} (hp:XbJ P m t=true)
    (h:DataW.Trod enc P w base sp hd t v d ps):DataW.Trod enc P w' base' sp' hd' t v d ps/\ps=[]:=by
  obtain⟨fuel,h⟩:=h;obtain⟨h1,h2⟩:=WW fuel m t _ _ hp h
  exact⟨⟨fuel,h1⟩,h2⟩
theorem Xia {v:Value}{n:Nat} (h:v.cells.toList.length=n+2):∃ cs:Array Value,v=.agg cs/\cs.toList.length=n+2:=by
  cases v<;>first | exact⟨_,rfl,h⟩ | (simp[Value.cells] at h)
end
end Go.Vm
