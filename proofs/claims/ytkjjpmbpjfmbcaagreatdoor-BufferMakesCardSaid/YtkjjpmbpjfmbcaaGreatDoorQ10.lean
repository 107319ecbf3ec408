/-
  Runs over rows of unknown length, as trees: code, loops, calls, laws.
-/
import Derived.Test.YtkjjpmbpjfmbcaaGreatDoorQ9
set_option linter.unusedVariables false
set_option linter.unusedSimpArgs false
namespace Go.Vm.R
noncomputable section
abbrev DC:=Nat->List DV->DH->DK->Tree
abbrev EK:=T DV->DH->Tree
structure Gl where
  n:Nat
  J:H->Prop
  le:∀ h,J h->n<=h.n
  abs:∀ h h',J h->wfh h->Abs h h'->J h'
  top:∀ h m,J h->wfh h->J (h.top m)
structure At (G:Gl)(L:Nat->Nat)(e:T DV)(d:DH)(ev:T V)(h:H):Prop where
  er:ER L h.n e ev
  rep:Rep L d h
  wf:wfh h
  g:G.J h
def ClOk (G:Gl)(call:Nat->List V->H->Res)(cl:DC):Prop:=∀ f l d k L h,Rep L d h->wfh h->G.J h->wfs h.n (toVs L l)->Xc d.n L d h (call f (toVs L l) h) k (cl f l d k)
def w1 (e:T DV)(x:Opd)(f:DV->Tree):Tree:=match opdD e x with
  |some d=>Wh d f
  |none=>.no
def wN (e:T DV)(x:List Opd)(f:List DV->Tree):Tree:=match Xdp e x with
  |some d=>Xbm d f
  |none=>.no
def Xfn (e:T DV):Option Opd->Option (Option DV)
  |none=>some none
  |some x=>match opdD e x with
    |some d=>some (some d)
    |none=>none
def wM (e:T DV)(x:Option Opd)(f:Option DV->Tree):Tree:=match Xfn e x with
  |some d=>f d
  |none=>.no
section
variable {L:Nat->Nat}{h:DH}{vh:H}{k:DK}{e:T DV}{ev:T V}
theorem Xfm (er:ER L vh.n e ev) {x:Option Opd}{d:Option DV} (hx:Xfn e x=some d):x.map (opd ev)=d.map (toV L):=by
  cases x with
  |none=>cases hx; rfl
  |some x =>
    simp only[Xfn] at hx;split at hx
    . rename_i y hy
      cases hx;simp only[Option.map_some,Wm er hy]
    . cases hx
theorem Xi (er:ER L vh.n e ev) {N:Nat}{R:V->Res}{x:Opd}{f:DV->Tree} (hf:∀ d,opd ev x=toV L d->Xc N L h vh (R (toV L d)) k (f d)):Xc N L h vh (R (opd ev x)) k (w1 e x f):=by
  unfold w1;split
  . rename_i d hd
    rw[Wm er hd,We]; exact hf d (Wm er hd)
  . exact Xa
theorem XcV (er:ER L vh.n e ev) {N:Nat}{R:List V->Res}{x:List Opd}{f:List DV->Tree} (hf:∀ d,x.map (opd ev)=toVs L d->Xc N L h vh (R (toVs L d)) k (f d)):Xc N L h vh (R (x.map (opd ev))) k (wN e x f):=by
  unfold wN;split
  . rename_i d hd
    rw[XaL er hd,Wi]; exact hf d (XaL er hd)
  . exact Xa
theorem Xaq (er:ER L vh.n e ev) {N:Nat}{R:Option V->Res}{x:Option Opd}{f:Option DV->Tree} (hf:∀ d:Option DV,Xc N L h vh (R (d.map (toV L))) k (f d)):Xc N L h vh (R (x.map (opd ev))) k (wM e x f):=by
  unfold wM;split
  . rename_i d hd
    rw[Xfm er hd]; exact hf d
  . exact Xa
end
def XnI (cl:DC)(l:List DV)(x:DV)(h:DH)(k:DK):Tree:=match x with
  | .fn f caps=>cl f (l++caps) h k
  |_=>.no
def kindOf (x:DV)(h:DH):Option RK:=match x with
  | .rs s _ _ _ _ _=>match h.get s with
    | .r k _ _ _=>some k
    |_=>none
  |_=>none
def isSl:DV->Bool
  | .sl .. => true
  |_=>false
def Zr (K:Kd)(cl:DC)(e:T DV)(h:DH)(op:COp)(k:DK):Tree:=match op with
  | .mv x=>w1 e x fun v=>k v h
  | .same x=>w1 e x fun v=>k v h
  | .pick c a b=>w1 e c fun c=>w1 e a fun a=>w1 e b fun b=>Xja c a b h k
  | .alc z el=>dAlc K z el h k
  | .box el x=>w1 e x fun v=>dBox el v h k
  | .bld z ps=>dBld e z ps h k
  | .bsl z len s el ps=>dBsl K e z len s el ps h k
  | .ld x=>w1 e x fun v=>dLd v h k
  | .ldn n x=>w1 e x fun v=>dLdn n v h k
  | .st n x v=>w1 e x fun x=>w1 e v fun v=>dSt n x v h k
  | .nck x=>w1 e x fun v=>dNck v h k
  | .bin op x y=>w1 e x fun x=>w1 e y fun y=>dBin op x y h k
  | .eq kd neg x y=>w1 e x fun x=>w1 e y fun y=>dEqB kd neg x y h k
  | .eqs neg offs x y=>w1 e x fun x=>w1 e y fun y=>dEqs neg offs x y h k
  | .un op x=>w1 e x fun v=>dUn op v h k
  | .cvi kd x=>w1 e x fun v=>dCvi kd v h k
  | .cvs x=>w1 e x fun v=>dCvs v h k
  | .b2s x=>w1 e x fun v=>dB2s v h k
  | .mki t x=>w1 e x fun v=>k (.ifc t v) h
  | .mkf f caps=>wN e caps fun l=>k (.fn f l) h
  | .mks z s bytes el l c=>w1 e l fun l=>w1 e c fun c=>dMks K z s bytes el l c h k
  | .apz z s bytes el x n=>w1 e x fun x=>w1 e n fun n=>dApz K z s bytes el x n h k
  | .slt x lo hi=>w1 e x fun x=>wM e lo fun lo=>wM e hi fun hi=>dSlt x lo hi h k
  | .sls s x lo hi mx=>w1 e x fun x=>wM e lo fun lo=>wM e hi fun hi=>wM e mx fun mx=>dSls s x lo hi mx h k
  | .slp s len x lo hi mx=>w1 e x fun x=>wM e lo fun lo=>wM e hi fun hi=>wM e mx fun mx=>dSlp s len x lo hi mx h k
  | .fad off x=>w1 e x fun v=>dFad off v h k
  | .fld off n ag x=>w1 e x fun v=>dFld off n ag v h k
  | .ixs s x i=>w1 e x fun x=>w1 e i fun i=>dIxs s x i h k
  | .ixt x i=>w1 e x fun x=>w1 e i fun i=>dIxt x i h k
  | .ixp s len x i=>w1 e x fun x=>w1 e i fun i=>dIxp s len x i h k
  | .ext x i=>w1 e x fun v=>dExt i v h k
  | .calf f args=>wN e args fun l=>cl f l h k
  | .calv f args=>w1 e f fun f=>wN e args fun l=>XnI cl l f h k
  | .app s bytes el x y=>w1 e x fun x=>w1 e y fun y=>match isSl x with
    |true=>XnK s x y h k
    |false=>dApp K s bytes el x y h k
  | .cpy s x y=>w1 e x fun x=>w1 e y fun y=>match kindOf x h with
    |some kd=>dCpy s kd x y h k
    |none=>match y with
      | .nils=>XnH s x h k
      |_=>.no
  | .mkz el x=>w1 e x fun v=>dMkz el v h k
  | .usd x=>w1 e x fun v=>dUsd v h k
  | .ust el x n=>w1 e x fun x=>w1 e n fun n=>dUst el x n h k
  | .p2u x=>w1 e x fun v=>dP2u v h k
  | .u2p u s x=>w1 e x fun v=>dU2p u s v h k
  | .len x=>w1 e x fun v=>dLen v h k
  | .lnt x=>w1 e x fun v=>dLnt v h k
  | .lenc n=>k (.int .i64 (n:Int)) h
  | .cap x=>w1 e x fun v=>dCap v h k
  | .mm mx xs=>wN e xs fun l=>dMm mx l h k
  | .fbits x=>w1 e x fun v=>XfE v h k
  | .bitsf x=>w1 e x fun v=>XcP v h k
  |_=>.no
theorem ZF {G:Gl}{call:Nat->List V->H->Res}{cl:DC} (hcl:ClOk G call cl)(K:Kd) {L:Nat->Nat}{e:T DV}{h:DH}{ev:T V}{vh:H} (a:At G L e h ev vh)(op:COp)(hop:XaS vh.n op)(k:DK) :
    Xc h.n L h vh (step call ev vh op) k (Zr K cl e h op k):=by
  have R:=a.rep;have er:=a.er;have hf:=a.wf.1
  cases op<;>simp only[step,Zr]<;>first | exact Xa | skip
  case mv x=>exact Xi er (R:=fun v=>.ok v vh) fun d _=>Xb R rfl
  case same x=>exact Xi er (R:=fun v=>.ok v vh) fun d _=>Xb R rfl
  case pick c a b=>exact Xi er (R:=fun c=>Xad vh _ _ c) fun c _=>Xi er (R:=fun a=>Xad vh a _ _) fun a _=>Xi er (R:=fun b=>Xad vh _ b _) fun b _=>XfD R c a b
  case alc z el=>exact XhP R hf K z el
  case box el x=>exact Xi er (R:=fun v=>sBox vh el v) fun d _=>XhK R hf el d
  case bld z ps=>exact XhL R er z ps
  case bsl z len s el ps=>exact XhJ R hf K er z len s el ps
  case ld x=>exact Xi er (R:=fun v=>sLd vh v) fun d _=>XjH R d
  case ldn n x=>exact Xi er (R:=fun v=>sLdn vh n v) fun d _=>Xh9 R n d
  case st n x v=>exact Xi er (R:=fun x=>sSt vh n x _) fun x _=>Xi er (R:=fun v=>sSt vh n _ v) fun v _=>XjF R n x v
  case nck x=>exact Xi er (R:=fun v=>sNck vh v) fun d _=>Xh5 R d
  case bin op x y=>exact Xi er (R:=fun x=>give vh (bin op x _)) fun x _=>Xi er (R:=fun y=>give vh (bin op _ y)) fun y _=>XhM R op x y
  case eq kd neg x y=>exact Xi er (R:=fun x=>sEq vh kd neg x _) fun x _=>Xi er (R:=fun y=>sEq vh kd neg _ y) fun y _=>Xqd R kd neg x y
  case eqs neg offs x y=>exact Xi er (R:=fun x=>sEqs vh neg offs x _) fun x _=>Xi er (R:=fun y=>sEqs vh neg offs _ y) fun y _=>XhF R neg offs x y
  case un op x=>exact Xi er (R:=fun v=>give vh (un op v)) fun d _=>XjE R op d
  case cvi kd x=>exact Xi er (R:=fun v=>sCvi vh kd v) fun d _=>XhH R kd d
  case cvs x=>exact Xi er (R:=fun v=>sCvs vh v) fun d _=>XhG R d
  case b2s x=>exact Xi er (R:=fun v=>sB2s vh v) fun d _=>XhN R d
  case mki t x=>exact Xi er (R:=fun v=>.ok (.ifc t v) vh) fun d _=>Xb R rfl
  case mkf f caps=>exact XcV er (R:=fun l=>.ok (.fn f l) vh) fun d _=>Xb R rfl
  case mks z s bytes el l c=>exact Xi er (R:=fun l=>sMks vh z s bytes el l _) fun l _=>Xi er (R:=fun c=>sMks vh z s bytes el _ c) fun c _=>Xh6 R hf K z s bytes el l c
  case apz z s bytes el x n=>exact Xi er (R:=fun x=>sApz vh z s bytes el x _) fun x _=>Xi er (R:=fun n=>sApz vh z s bytes el _ n) fun n _=>Xqf R hf K z s bytes el x n
  case slt x lo hi =>
    simp only[Xm3];exact Xi er (R:=fun x=>sltV vh _ _ x) fun x _=>Xaq er (R:=fun lo=>sltV vh lo _ _) fun lo=>Xaq er (R:=fun hi=>sltV vh _ hi _) fun hi=>Xh2 R x lo hi
  case sls s x lo hi mx =>
    simp only[Xm4];exact Xi er (R:=fun x=>slsV vh s _ _ _ x) fun x _=>Xaq er (R:=fun lo=>slsV vh s lo _ _ _) fun lo=>Xaq er (R:=fun hi=>slsV vh s _ hi _ _) fun hi=>Xaq er (R:=fun mx=>slsV vh s _ _ mx _) fun mx=>Xh3 R s x lo hi mx
  case slp s len x lo hi mx =>
    simp only[Xrs];exact Xi er (R:=fun x=>slpV vh s len _ _ _ x) fun x _=>Xaq er (R:=fun lo=>slpV vh s len lo _ _ _) fun lo=>Xaq er (R:=fun hi=>slpV vh s len _ hi _ _) fun hi=>Xaq er (R:=fun mx=>slpV vh s len _ _ mx _) fun mx=>XpZ R s len x lo hi mx
  case fad off x=>exact Xi er (R:=fun v=>sFad vh off v) fun d _=>XhD R off d
  case fld off n ag x=>exact Xi er (R:=fun v=>sFld vh off n ag v) fun d _=>Xe6 R off n ag d
  case ixs s x i=>exact Xi er (R:=fun x=>sIxs vh s x _) fun x _=>Xi er (R:=fun i=>sIxs vh s _ i) fun i _=>XhB R s x i
  case ixt x i=>exact Xi er (R:=fun x=>sIxt vh x _) fun x _=>Xi er (R:=fun i=>sIxt vh _ i) fun i _=>XhA R x i
  case ixp s len x i=>exact Xi er (R:=fun x=>sIxp vh s len x _) fun x _=>Xi er (R:=fun i=>sIxp vh s len _ i) fun i _=>XhC R s len x i
  case ext x i=>exact Xi er (R:=fun v=>sExt vh i v) fun d _=>XhE R i d
  case calf f args =>
    refine XcV er (R:=fun l=>call f l vh) fun l hl=>hcl f l h k L vh R a.wf a.g ?_
    rw[← hl,XX];intro v hv;obtain⟨x,hx,rfl⟩:=List.mem_map.1 hv;exact XaW er.wf (hop.1 x hx)
  case calv f args =>
    refine Xi er (R:=fun f=>Xed call vh _ f) fun g hg=>XcV er (R:=fun l=>Xed call vh l _) fun l hl=>?_
    cases g<;>first | exact Xa | skip
    rename_i g caps
    show Xc _ _ _ _ (call g (toVs L l++toVs L caps) vh) k (cl g (l++caps) h k)
    rw[← Yg];refine hcl g (l++caps) h k L vh R a.wf a.g ?_
    rw[Yg,XX];intro v hv
    rcases List.mem_append.1 hv with hv | hv
    . rw[← hl] at hv
      obtain⟨x,hx,rfl⟩:=List.mem_map.1 hv;exact XaW er.wf (hop.1 x (by simp[COp.opds,hx]))
    . have:wf vh.n (opd ev f):=XaW er.wf (hop.1 f (by simp[COp.opds]))
      rw[hg] at this;exact (XX _ _).1 (show wfs vh.n (toVs L caps) from this) v hv
  case app s bytes el x y =>
    refine Xi er (R:=fun x=>YF vh s bytes el x _) fun x _=>Xi er (R:=fun y=>YF vh s bytes el _ y) fun y _=>?_
    split
    . exact XnJ R s bytes el x y
    . exact XhO R hf K s bytes el x y
  case cpy s x y =>
    refine Xi er (R:=fun x=>ZR vh s x _) fun x _=>Xi er (R:=fun y=>ZR vh s _ y) fun y _=>?_
    split
    . exact Xqe R s _ x y
    . split
      . exact XnG R s x
      . exact Xa
  case mkz el x=>exact Xi er (R:=fun v=>sMkz vh el v) fun d _=>Xqb R hf el d
  case usd x=>exact Xi er (R:=fun v=>sUsd vh v) fun d _=>XpX R d
  case ust el x n=>exact Xi er (R:=fun x=>sUst vh el x _) fun x _=>Xi er (R:=fun n=>sUst vh el _ n) fun n _=>XpW R el x n
  case p2u x=>exact Xi er (R:=fun v=>sP2u vh v) fun d _=>Xqa R d
  case u2p u s x=>exact Xi er (R:=fun v=>sU2p vh u s v) fun d _=>XpY R u s d
  case len x=>exact Xi er (R:=fun v=>sLen vh v) fun d _=>Xh8 R d
  case lnt x=>exact Xi er (R:=fun v=>sLnt vh v) fun d _=>Xh7 R d
  case lenc n=>exact Xb R rfl
  case cap x=>exact Xi er (R:=fun v=>sCap vh v) fun d _=>XhI R d
  case mm mx xs=>exact XcV er (R:=fun l=>sMm vh mx l) fun l _=>XjG R mx l
  case fbits x=>exact Xi er (R:=fun v=>Xa4 vh v) fun d _=>XdP R d
  case bitsf x=>exact Xi er (R:=fun v=>Xa5 vh v) fun d _=>XdQ R d
def putD (nt:Nat)(e:T DV)(d:Option Nat)(v:DV):T DV:=match d with
  |some d=>match Nat.blt d nt with
    |true=>e.set .bot d v
    |false=>e
  |none=>e
theorem Xhw {L : Nat → Nat} {n nt : Nat} {e : T DV} {ev : T V} (er : ER L n e ev) {v : DV} (hv : wf n (toV L v)) (d : Option Nat) : ER L n (putD nt e d v) (put nt ev d (toV L v)) := by
  refine⟨fun i=>?_,Xap er.wf hv d⟩
  cases d with
  |none=>exact er.val i
  |some d =>
    unfold putD put
    simp only
    by_cases hd:d<nt
    . rw[if_pos hd,show Nat.blt d nt=true by simpa using hd]
      simp only[T.get_set]
      by_cases hi:d=i
      . rw[if_pos hi,if_pos hi]; exact .inr rfl
      . rw[if_neg hi,if_neg hi]; exact er.val i
    . rw[if_neg hd,show Nat.blt d nt=false by
        cases hb:Nat.blt d nt with
        |false=>rfl
        |true=>exact absurd (by simpa using hb) hd]
      exact er.val i
def putK (nt:Nat)(e:T DV)(d:Option Nat)(v:DV)(k:T DV->Tree):Tree:=match d with
  |some d=>match Nat.blt d nt with
    |true=>Wh v fun v=>T.setK .bot e d v k
    |false=>k e
  |none=>k e
theorem WL (nt:Nat)(e:T DV)(d:Option Nat)(v:DV)(k:T DV->Tree):putK nt e d v k=k (putD nt e d v):=by
  cases d with
  |none=>rfl
  |some d =>
    simp only[putK,putD]
    cases Nat.blt d nt with
    |true =>
      show Wh v _=_
      rw[We,T.setK_eq]
    |false=>rfl
theorem Yz {e:T DV}{t:Nat}{b:Bool} (h:e.get .bot t=.bool b):e.set .bot t (.bool b)=e:=by
  have:=T.set_self DV.bot t e (by rw[h]; intro h; cases h)
  rwa [h] at this
def XV (K:Kd)(cl:DC)(nt:Nat):List CI->T DV->DH->EK->Tree
  |[],e,h,k=>k e h
  |i::l,e,h,k=>match i.g with
    |none=>Zr K cl e h i.op fun v h'=>putK nt e i.dst v fun e'=>XV K cl nt l e' h' k
    |some (t,b)=>match e.get .bot t with
      | .bool b'=>.br b'
        (T.setK .bot e t (.bool true) fun e=>match b with
          |true=>Zr K cl e h i.op fun v h'=>putK nt e i.dst v fun e'=>XV K cl nt l e' h' k
          |false=>putK nt e i.dst (.tup []) fun e'=>XV K cl nt l e' h k)
        (T.setK .bot e t (.bool false) fun e=>match b with
          |true=>putK nt e i.dst (.tup []) fun e'=>XV K cl nt l e' h k
          |false=>Zr K cl e h i.op fun v h'=>putK nt e i.dst v fun e'=>XV K cl nt l e' h' k)
      | .tup _=>putK nt e i.dst (.tup []) fun e'=>XV K cl nt l e' h k
      |_=>.no
def KOk (G:Gl)(N:Nat)(k:DK)(kk:K)(kd:EK):Prop:=∀ L e d ev h,N<=d.n->At G L e d ev h->Xc N L d h (kk ev h) k (kd e d)
theorem Xaa {G:Gl}{N:Nat}{k:DK}{kk:K}{kd:EK}{nt:Nat}{L:Nat->Nat}{e:T DV}{d:DH}{ev:T V}{h:H}{dst:Option Nat}{r:Res}{t:Tree} (hN:N<=d.n)(a:At G L e d ev h)(hk:KOk G N k kk kd)
    (hg:Good h r) (ht:Xc d.n L d h r (fun v d'=>kd (putD nt e dst v) d') t):Xc N L d h (pass nt dst ev kk r) k t:=by
  intro z hz;obtain⟨w,d',L',h',rfl,R',x,hz'⟩:=ht z hz;obtain⟨ab,w',wv⟩:=hg
  have a':At G L' (putD nt e dst w) d' (put nt ev dst (toV L' w)) h':=⟨Xhw (a.er.step a.rep x) wv dst,R',w',G.abs _ _ a.g a.wf ab⟩
  obtain⟨w2,d2,L2,h2,e2,R2,x2,hz2⟩:=hk L' _ d' _ h' (Nat.le_trans hN x.dn) a' z hz'
  exact⟨w2,d2,L2,h2,by rw[Xkx]; exact e2,R2,(x.weaken hN).trans x2,hz2⟩
theorem Xhx {L:Nat->Nat}{n:Nat}{e:T DV}{ev:T V} (er:ER L n e ev) {t:Nat}{b:Bool} (h:e.get .bot t=.bool b):ev.get .bot t=.bool b:=by
  rcases er.val t with h1 | h1
  . rw[h] at h1; cases h1
  . rw[h1,h]; rfl
theorem Xn9 {L:Nat->Nat}{n:Nat}{e:T DV}{ev:T V} (er:ER L n e ev) {t:Nat}{l:List DV} (h:e.get .bot t=.tup l):ev.get .bot t=.tup (toVs L l):=by
  rcases er.val t with h1 | h1
  . rw[h] at h1; cases h1
  . rw[h1,h]; rfl
theorem Zz {G : Gl} {N : Nat} {call : Nat → List V → H → Res} {cl : DC} (hgood : Xm G.n call) (hcl : ClOk G call cl) (Kk : Kd) (nt : Nat) {k : DK} {kk : K} {kd : EK} (hk : KOk G N k kk kd) : ∀ (l : List CI), Xc5 G.n l → KOk G N k (kops call nt l kk) (fun e h => XV Kk cl nt l e h kd)
  |[],_=>hk
  | ⟨dst,op,none⟩::l,hw=>fun L e d ev h hN a=>by
    have ih:=Zz hgood hcl Kk nt hk l (fun i hi=>hw i (by simp[hi]))
    have hop:=XR (G.le _ a.g) (hw ⟨dst,op,none⟩ (by simp))
    show Xc N L d h (YW call nt (⟨dst,op,none⟩::l) ev h kk) k _
    rw[XmV];simp only[XV,WL];exact Xaa hN a ih (Y7 hgood (G.le _ a.g) a.wf a.er.wf hop) (ZF hcl Kk a op hop _)
  | ⟨dst,op,some (t,b)⟩::l,hw=>fun L e d ev h hN a=>by
    have ih:=Zz hgood hcl Kk nt hk l (fun i hi=>hw i (by simp[hi]))
    have hop:=XR (G.le _ a.g) (hw ⟨dst,op,some (t,b)⟩ (by simp))
    have skip:Xc N L d h (ksk nt dst (kops call nt l kk) ev h) k (XV Kk cl nt l (putD nt e dst (.tup [])) d kd) :=
      ih L _ d _ h hN ⟨Xhw a.er (v:=.tup []) trivial dst,a.rep,a.wf,a.g⟩
    have run:Xc N L d h (kop call nt dst op (kops call nt l kk) ev h) k (Zr Kk cl e d op fun v h'=>XV Kk cl nt l (putD nt e dst v) h' kd) :=
      Xaa hN a ih (Y7 hgood (G.le _ a.g) a.wf a.er.wf hop) (ZF hcl Kk a op hop _)
    show Xc N L d h (YW call nt (⟨dst,op,some (t,b)⟩::l) ev h kk) k _
    rw[Xk4];simp only[XV,WL,T.setK_eq]
    cases hg:e.get .bot t<;>first | exact Xa | skip
    case bool b' =>
      rw[Xhx a.er hg];refine XW (fun hb=>?_) (fun hb=>?_)
      . subst hb
        rw[Yz hg]
        show Xc N L d h (if true=b then _ else _) k _
        cases b with
        |true=>exact run
        |false=>exact skip
      . subst hb
        rw[Yz hg]
        show Xc N L d h (if false=b then _ else _) k _
        cases b with
        |true=>exact skip
        |false=>exact run
    case tup l' =>
      rw[Xn9 a.er hg];exact skip
def DH.top (h:DH):Nat->DH
  |0=>h
  |_+1=>{ h with fl:=h.n }
def DH.lower (h:DH)(fl:Nat):DH:={ h with fl:=fl }
theorem Xdt (d:DH)(m s:Nat):(d.top m).get s=d.get s:=by cases m<;>rfl
theorem Xmj (d:DH)(m:Nat):(d.top m).n=d.n:=by cases m<;>rfl
theorem Rep.raise {L:Nat->Nat}{d:DH}{h:H} (R:Rep L d h)(m:Nat):Rep L (d.top m) (h.top m):=by
  cases m with
  |zero=>exact R
  |succ m=>exact⟨R.get,R.lt,R.inj,R.fut,fun s hs hl=>absurd (R.lt s hs).1 (by have:d.n<=s:=hl; omega)⟩
theorem Rep.sink {L L' : Nat → Nat} {d d' : DH} {h h' : H} {m : Nat} (R : Rep L d h) (w : wfh h) (R' : Rep L' d' h') (x : Step d.n L (d.top m) (h.top m) L' d' h') : Rep L' (d'.lower d.fl) (h'.lower h.fl) ∧ Step d.n L d h L' (d'.lower d.fl) (h'.lower h.fl) := by
  have hn:(h.top m).n=h.n:=XaE h m
  refine⟨⟨R'.get,R'.lt,R'.inj,R'.fut,fun s hs hl=>?_⟩,⟨x.agree,x.dn,by have:=x.hn; rw[hn] at this; exact this,rfl,rfl,fun o ho hf=>?_,fun s hs hh=>?_,fun s hs hh=>?_⟩⟩
  . show h.fl<=L' s
    have hl:d.fl<=s:=hl
    by_cases hsn:s<d.n
    . rw[x.agree s hsn]
      have:=x.here s hsn hs
      rw[Xdt] at this;exact R.fl s this hl
    . rcases x.new s (by omega) hs with h1 | ⟨s0,h1,h2,_⟩
      . rw[hn] at h1
        exact Nat.le_trans w.1 h1
      . rw[Xdt] at h2
        exact absurd (R.lt s0 h2).1 (by omega)
  . have:=x.frame o (by rw[hn]; exact ho) (fun s hs=>hf s (by rw[Xdt] at hs; exact hs))
    rw[Xkb] at this;exact this
  . have:=x.here s hs hh
    rw[Xdt] at this;exact this
  . rcases x.new s hs hh with h1 | ⟨s0,h1,h2,h3⟩
    . rw[hn] at h1; exact .inl h1
    . rw[Xdt] at h2; exact .inr ⟨s0,h1,h2,h3⟩
def ptrS:DV->Option Nat
  | .ptr s _=>some s
  | .ep s _ _ _=>some s
  |_=>none
def Xcb (x p:DV)(h:DH)(t:Tree):Tree:=match ptrS p with
  |none=>.no
  |some s'=>match x with
    | .sl s _ _ _ _ _=>match Nat.beq s s' with
      |true=>.no
      |false=>XI h s (XI h s' t)
    | .rs s _ _ _ _ _=>match Nat.beq s s' with
      |true=>.no
      |false=>XI h s (XI h s' t)
    | .ns s n _=>match Nat.beq s s' with
      |true=>.no
      |false=>ifNs h s n (XI h s' t)
    | .nils=>t
    |_=>.no
theorem Xpf {L:Nat->Nat}{p:DV}{s:Nat} (h:ptrS p=some s):∃ i,toV L p=.ptr (L s) i:=by
  cases p<;>cases h<;>exact⟨_,rfl⟩
theorem XgJ {L : Nat → Nat} {N : Nat} {d : DH} {h : H} {k : DK} {r : Res} {t : Tree} (R : Rep L d h) (x p : DV) (ht : apart (toV L x) (toV L p) = true → Xc N L d h r k t) : Xc N L d h r k (Xcb x p d t) := by
  unfold Xcb;split
  . exact Xa
  . rename_i s' hp
    obtain⟨j,hj⟩:=Xpf (L:=L) hp;rw[hj] at ht
    have dif:∀ s,Nat.beq s s'=false->Here (d.get s)->Here (d.get s')->Nat.beq (L s) (L s')=false:=by
      intro s hb h1 h2
      cases hq:Nat.beq (L s) (L s') with
      |false=>rfl
      |true =>
        have:=R.inj s s' h1 h2 (Nat.eq_of_beq_eq_true hq)
        rw[this,Nat.beq_refl] at hb; cases hb
    cases x<;>first | exact Xa | skip
    case sl s i n c w ex =>
      simp only
      split
      . exact Xa
      . rename_i hb
        refine Xr R fun _ h1=>Xr R fun _ h2=>ht ?_
        show (!Nat.beq (L s) (L s'))=true
        rw[dif s hb h1 h2]; rfl
    case rs s i n c w ex =>
      simp only
      split
      . exact Xa
      . rename_i hb
        refine Xr R fun _ h1=>Xr R fun _ h2=>ht ?_
        show (!Nat.beq (L s) (L s'))=true
        rw[dif s hb h1 h2]; rfl
    case ns s n w =>
      simp only
      split
      . exact Xa
      . rename_i hb
        refine Xcn R fun h1=>Xr R fun _ h2=>ht ?_
        cases n with
        |zero=>rfl
        |succ n =>
          show (!Nat.beq (L s) (L s'))=true
          rw[dif s hb (h1 (Nat.succ_pos n)).2 h2]; rfl
    case nils=>exact ht rfl
def pairT (c:Nat):Nat:=(c-1000000) / 1000
def Xef (c:Nat):Nat:=(c-1000000)%1000
theorem XlO {L:Nat->Nat}{N:Nat}{e:T DV}{d:DH}{ev:T V}{h:H}{k:DK}{r:Res}{t:Tree} (R:Rep L d h)(er:ER L h.n e ev)(c:Nat)(ht:apart (ev.get .bot (pairT c)) (ev.get .bot (Xef c))=true->Xc N L d h r k t) :
    Xc N L d h r k (Xcb (e.get .bot (pairT c)) (e.get .bot (Xef c)) d t):=by
  have hx:=er.val (pairT c);have hp:=er.val (Xef c)
  rcases hp with hp | hp
  . rw[hp]; exact Xa
  rcases hx with hx | hx
  . rw[hx]
    unfold Xcb;split
    . exact Xa
    . exact Xa
  refine XgJ R _ _ fun hap=>ht ?_
  rw[hx,hp]; exact hap
def XhX (e:T DV)(h:DH)(t:Tree):List Nat->Tree
  |[]=>t
  |c::r=>Xcb (e.get .bot (pairT c)) (e.get .bot (Xef c)) h (XhX e h t r)
theorem XcR {L:Nat->Nat}{N:Nat}{e:T DV}{d:DH}{ev:T V}{h:H}{k:DK}{r:Res}{t:Tree} (R:Rep L d h)(er:ER L h.n e ev):∀ (cs:List Nat),((∀ c∈cs,apart (ev.get .bot (pairT c)) (ev.get .bot (Xef c))=true)->Xc N L d h r k t)->Xc N L d h r k (XhX e d t cs)
  |[],ht=>ht (fun c hc=>by cases hc)
  |c::cs,ht=>XlO R er c fun h1=>XcR R er cs fun h2=>ht fun c' hc=>by
    rcases List.mem_cons.1 hc with rfl | hc
    . exact h1
    . exact h2 c' hc
def YB (al:List Nat)(op:COp):List Nat:=match appX op with
  |some tx=>al.filter fun c=>Nat.ble 1000000 c&&Nat.beq (pairT c) tx
  |none=>[]
def YP (dst:Option Nat)(kn:List Nat):List Nat:=match dst with
  |none=>kn
  |some d=>kn.filter fun c=>!Nat.beq (pairT c) d&&!Nat.beq (Xef c) d
def KnOk (kn:List Nat)(ev:T V):Prop:=∀ c∈kn,1000000<=c/\apart (ev.get .bot (pairT c)) (ev.get .bot (Xef c))=true
theorem KnOk.put {kn:List Nat}{ev:T V} (h:KnOk kn ev)(nt:Nat)(dst:Option Nat)(v:V):KnOk (YP dst kn) (put nt ev dst v):=by
  intro c hc;unfold YP at hc;unfold Vm.put
  cases dst with
  |none=>exact h c hc
  |some d =>
    simp only[List.mem_filter,Bool.and_eq_true,Bool.not_eq_true'] at hc;obtain⟨h1,h2,h3⟩:=hc;obtain⟨g1,g2⟩:=h c h1
    refine⟨g1,?_⟩
    simp only
    split
    . have n1:d ≠ pairT c:=fun e=>by rw[e,Nat.beq_refl] at h2; cases h2
      have n2:d ≠ Xef c:=fun e=>by rw[e,Nat.beq_refl] at h3; cases h3
      rw[T.get_set,T.get_set,if_neg n1,if_neg n2];exact g2
    . exact g2
theorem KnOk.app {a b:List Nat}{ev:T V} (h1:KnOk a ev)(h2:KnOk b ev):KnOk (a++b) ev:=fun c hc=>(List.mem_append.1 hc).elim (h1 c) (h2 c)
theorem Xem {al:List Nat}{op:COp}{c:Nat} (h:c∈YB al op):1000000<=c:=by
  unfold YB at h;split at h
  . simp only[List.mem_filter,Bool.and_eq_true] at h
    simpa using h.2.1
  . cases h
theorem XaV {nt : Nat} {ev : T V} {h : H} {kn : List Nat} (hk : KnOk kn ev) : ∀ al : List Nat, XZ nt ev h (al.filter fun c => !kn.contains c) = true → XZ nt ev h al = true
  |[],_=>rfl
  | c :: r, ha => by
    rw[List.filter_cons] at ha
    cases hc:kn.contains c with
    |true =>
      rw[hc] at ha;simp only[Bool.not_true,Bool.false_eq_true,if_false] at ha;have ih:=XaV hk r ha;obtain⟨g1,g2⟩:=hk c (by simpa using hc)
      simp only[XZ];rw[if_pos (by simpa using g1),ih,Bool.and_true]
      exact g2
    | false =>
      rw[hc] at ha;simp only[Bool.not_false,if_true] at ha;simp only[XZ] at ha ⊢;split
      . rename_i hb
        rw[if_pos hb] at ha;simp only[Bool.and_eq_true] at ha ⊢
        exact⟨ha.1,XaV hk r ha.2⟩
      . rename_i hb
        rw[if_neg hb] at ha;split
        . rename_i hx
          rw[if_pos hx] at ha;split
          . rename_i o j ho
            rw[ho] at ha;simp only[Bool.and_eq_true] at ha ⊢
            exact⟨ha.1,XaV hk r ha.2⟩
          . rename_i hn
            split at ha
            . rename_i o j ho
              exact absurd ho (hn o j)
            . exact XaV hk r ha
        . rename_i hx
          rw[if_neg hx] at ha;cases ha
def ZQ (nt:Nat)(e:T DV)(h:DH)(t:Tree):List Nat->Tree
  |[]=>t
  |i::r=>match Nat.ble 1000000 i with
    |true=>Xcb (e.get .bot ((i-1000000) / 1000)) (e.get .bot ((i-1000000)%1000)) h (ZQ nt e h t r)
    |false=>match Nat.blt i nt with
      |true=>match e.get .bot i with
        | .ptr s _=>XI h s (ZQ nt e h t r)
        | .ep s _ _ _=>XI h s (ZQ nt e h t r)
        | .bot=>.no
        |_=>ZQ nt e h t r
      |false=>.no
theorem Xcc {L : Nat → Nat} {N nt : Nat} {e : T DV} {d : DH} {ev : T V} {h : H} {k : DK} {r : Res} {t : Tree} (R : Rep L d h) (er : ER L h.n e ev) : ∀ (al : List Nat), (XZ nt ev h al = true → Xc N L d h r k t) → Xc N L d h r k (ZQ nt e d t al)
  |[],ht=>ht rfl
  |i::al,ht=>by
    unfold ZQ;split
    . rename_i hm
      have hx:=er.val ((i-1000000) / 1000);have hp:=er.val ((i-1000000)%1000)
      have go:∀ x p,(x=DV.bot∨ev.get .bot ((i-1000000) / 1000)=toV L x)->(p=DV.bot∨ev.get .bot ((i-1000000)%1000)=toV L p)->Xc N L d h r k (Xcb x p d (ZQ nt e d t al)):=by
        intro x p hx hp
        rcases hp with rfl | hp
        . exact Xa
        rcases hx with rfl | hx
        . unfold Xcb
          split
          . exact Xa
          . exact Xa
        refine XgJ R x p fun hap=>Xcc R er al fun hal=>ht ?_
        simp only[XZ,hm,if_true];rw[hx,hp,hap,hal]; rfl
      exact go _ _ hx hp
    . rename_i hm
      split
      . rename_i hb
        have hval:=er.val i
        have next:(∀ o j,ev.get .bot i=.ptr o j->alive h o=true)->Xc N L d h r k (ZQ nt e d t al):=by
          intro hp;refine Xcc R er al fun hal=>ht ?_
          simp only[XZ,hm,hb,if_true,Bool.false_eq_true,if_false];split
          . rename_i o j ho
            rw[hp o j ho,hal]; rfl
          . exact hal
        split
        . rename_i s j hs
          refine Xr R fun ha _=>next fun o j' ho=>?_
          rcases hval with h1 | h1
          . rw[hs] at h1; cases h1
          . rw[h1,hs] at ho
            cases ho; exact ha
        . rename_i s j w off hs
          refine Xr R fun ha _=>next fun o j' ho=>?_
          rcases hval with h1 | h1
          . rw[hs] at h1; cases h1
          . rw[h1,hs] at ho
            cases ho; exact ha
        . exact Xa
        . rename_i n1 n2 n3
          refine next fun o j' ho=>?_
          rcases hval with h1 | h1
          . exact absurd h1 n3
          . rw[h1] at ho
            cases hv:e.get .bot i<;>rw[hv] at ho<;>first | (cases ho; done) | skip
            . exact absurd hv (n1 _ _)
            . exact absurd hv (n2 _ _ _ _)
            . rename_i s n w
              cases n<;>cases ho
      . exact Xa
def X7 (K:Kd)(cl:DC)(nt:Nat)(al:List Nat):List Nat->List CI->Nat->T DV->DH->EK->Tree
  |kn,[],_,e,h,k=>ZQ nt e h (k e h) (al.filter fun c=>!kn.contains c)
  | kn, i :: l, m, e, h, k => XhX e h (match i.g with
    |none=>Zr K cl e (h.top m) i.op fun v h'=>putK nt e i.dst v fun e'=>X7 K cl nt al (YP i.dst (YB al i.op++kn)) l (m-1) e' (h'.lower h.fl) k
    |some (t,b)=>match e.get .bot t with
      | .bool b'=>.br b'
        (T.setK .bot e t (.bool true) fun e=>match b with
          |true=>Zr K cl e (h.top m) i.op fun v h'=>putK nt e i.dst v fun e'=>X7 K cl nt al (YP i.dst (YB al i.op++kn)) l (m-1) e' (h'.lower h.fl) k
          |false=>putK nt e i.dst (.tup []) fun e'=>X7 K cl nt al (YP i.dst (YB al i.op++kn)) l (m-1) e' h k)
        (T.setK .bot e t (.bool false) fun e=>match b with
          |true=>putK nt e i.dst (.tup []) fun e'=>X7 K cl nt al (YP i.dst (YB al i.op++kn)) l (m-1) e' h k
          |false=>Zr K cl e (h.top m) i.op fun v h'=>putK nt e i.dst v fun e'=>X7 K cl nt al (YP i.dst (YB al i.op++kn)) l (m-1) e' (h'.lower h.fl) k)
      | .tup _=>putK nt e i.dst (.tup []) fun e'=>X7 K cl nt al (YP i.dst (YB al i.op++kn)) l (m-1) e' h k
      |_=>.no) (YB al i.op)
def KOkP (G:Gl)(N:Nat)(k:DK)(kn:List Nat)(kk:K)(kd:EK):Prop:=∀ L e d ev h,N<=d.n->At G L e d ev h->KnOk kn ev->Xc N L d h (kk ev h) k (kd e d)
theorem Ws {G:Gl}{N m:Nat}{k:DK}{kn:List Nat}{kk:K}{kd:EK}{nt:Nat}{L:Nat->Nat}{e:T DV}{d:DH}{ev:T V}{h:H}{dst:Option Nat}{r:Res}{t:Tree} (hN:N<=d.n)(a:At G L e d ev h)(hkn:KnOk kn ev)(hk:KOkP G N k (YP dst kn) kk kd)
    (hg:Good (h.top m) r) (ht:Xc d.n L (d.top m) (h.top m) r (fun v d'=>kd (putD nt e dst v) (d'.lower d.fl)) t):Xc N L d h (Xfh nt dst ev h.fl kk r) k t:=by
  intro z hz;obtain⟨w,d',L',h',rfl,R',x,hz'⟩:=ht z hz;obtain⟨ab,w',wv⟩:=hg;obtain⟨R2,x2⟩:=a.rep.sink a.wf R' x
  have a':At G L' (putD nt e dst w) (d'.lower d.fl) (put nt ev dst (toV L' w)) (h'.lower h.fl):=⟨Xhw (a.er.step a.rep x2) wv dst,R2,Xd8 a.wf ab w',G.abs _ _ a.g a.wf (Xcv a.wf ab)⟩
  obtain⟨w3,d3,L3,h3,e3,R3,x3,hz3⟩:=hk L' _ _ _ _ (Nat.le_trans hN x2.dn) a' (hkn.put nt dst _) z hz'
  exact⟨w3,d3,L3,h3,by rw[Xi6]; exact e3,R3,(x2.weaken hN).trans x3,hz3⟩
theorem Xbb {G : Gl} {N : Nat} {call : Nat → List V → H → Res} {cl : DC} (hgood : Xm G.n call) (hcl : ClOk G call cl) (Kk : Kd) (nt : Nat) (al : List Nat) {k : DK} {kk : K} {kd : EK} (hk : KOk G N k kk kd) : ∀ (l : List CI) (m : Nat) (kn : List Nat), Xc5 G.n l → KOkP G N k kn (XbQ call nt al l m kk) (fun e h => X7 Kk cl nt al kn l m e h kd)
  |[],m,kn,_=>fun L e d ev h hN a hkn=>by
    show Xc N L d h (Yb call nt al [] m ev h kk) k _
    rw[XqK];refine Xcc a.rep a.er (al.filter fun c=>!kn.contains c) fun hal=>?_
    rw[XaV hkn al hal];exact hk L e d ev h hN a
  | ⟨dst,op,none⟩::l,m,kn,hw=>fun L e d ev h hN a hkn=>by
    simp only[X7];refine XcR a.rep a.er _ fun hcs=>?_
    have hkn2:KnOk (YB al op++kn) ev:=KnOk.app (fun c hc=>⟨Xem hc,hcs c hc⟩) hkn
    have ih:=Xbb hgood hcl Kk nt al hk l (m-1) (YP dst (YB al op++kn)) (fun i hi=>hw i (by simp[hi]))
    have hop:=XR (m:=(h.top m).n) (by rw[XaE]; exact G.le _ a.g) (hw ⟨dst,op,none⟩ (by simp))
    have at':At G L e (d.top m) ev (h.top m):=⟨by rw[XaE]; exact a.er,a.rep.raise m,Xer a.wf m,G.top _ _ a.g a.wf⟩
    show Xc N L d h (Yb call nt al (⟨dst,op,none⟩::l) m ev h kk) k _
    rw[XnF];simp only[WL]
    have:=ZF hcl Kk at' op hop (fun v h'=>X7 Kk cl nt al (YP dst (YB al op++kn)) l (m-1) (putD nt e dst v) (h'.lower d.fl) kd)
    rw[Xmj] at this;exact Ws hN a hkn2 ih (Y7 hgood (G.le _ at'.g) at'.wf at'.er.wf hop) this
  | ⟨dst,op,some (t,b)⟩::l,m,kn,hw=>fun L e d ev h hN a hkn=>by
    simp only[X7];refine XcR a.rep a.er _ fun hcs=>?_
    have hkn2:KnOk (YB al op++kn) ev:=KnOk.app (fun c hc=>⟨Xem hc,hcs c hc⟩) hkn
    have ih:=Xbb hgood hcl Kk nt al hk l (m-1) (YP dst (YB al op++kn)) (fun i hi=>hw i (by simp[hi]))
    have hop:=XR (m:=(h.top m).n) (by rw[XaE]; exact G.le _ a.g) (hw ⟨dst,op,some (t,b)⟩ (by simp))
    have at':At G L e (d.top m) ev (h.top m):=⟨by rw[XaE]; exact a.er,a.rep.raise m,Xer a.wf m,G.top _ _ a.g a.wf⟩
    have skip:Xc N L d h (ksk nt dst (XbQ call nt al l (m-1) kk) ev h) k (X7 Kk cl nt al (YP dst (YB al op++kn)) l (m-1) (putD nt e dst (.tup [])) d kd) :=
      ih L _ d _ h hN ⟨Xhw a.er (v:=.tup []) trivial dst,a.rep,a.wf,a.g⟩ (hkn2.put nt dst _)
    have run:Xc N L d h (kopL call nt dst op m (XbQ call nt al l (m-1) kk) ev h) k (Zr Kk cl e (d.top m) op fun v h'=>X7 Kk cl nt al (YP dst (YB al op++kn)) l (m-1) (putD nt e dst v) (h'.lower d.fl) kd):=by
      have:=ZF hcl Kk at' op hop (fun v h'=>X7 Kk cl nt al (YP dst (YB al op++kn)) l (m-1) (putD nt e dst v) (h'.lower d.fl) kd)
      rw[Xmj] at this;exact Ws hN a hkn2 ih (Y7 hgood (G.le _ at'.g) at'.wf at'.er.wf hop) this
    show Xc N L d h (Yb call nt al (⟨dst,op,some (t,b)⟩::l) m ev h kk) k _
    rw[XkJ];simp only[WL,T.setK_eq]
    cases hg:e.get .bot t<;>first | exact Xa | skip
    case bool b' =>
      rw[Xhx a.er hg];refine XW (fun hb=>?_) (fun hb=>?_)
      . subst hb
        rw[Yz hg]
        show Xc N L d h (if true=b then _ else _) k _
        cases b with
        |true=>exact run
        |false=>exact skip
      . subst hb
        rw[Yz hg]
        show Xc N L d h (if false=b then _ else _) k _
        cases b with
        |true=>exact skip
        |false=>exact run
    case tup l' =>
      rw[Xn9 a.er hg];exact skip
theorem Wv {G:Gl}{N:Nat}{call:Nat->List V->H->Res}{cl:DC} (hgood:Xm G.n call)(hcl:ClOk G call cl)(Kk:Kd)(nt:Nat)(al:List Nat) {k:DK}{kk:K}{kd:EK} (hk:KOk G N k kk kd)(l:List CI)(m:Nat)(hw:Xc5 G.n l):KOk G N k (XbQ call nt al l m kk) (fun e h=>X7 Kk cl nt al [] l m e h kd) :=
  fun L e d ev h hN a=>Xbb hgood hcl Kk nt al hk l m [] hw L e d ev h hN a (fun _ hc=>by cases hc)
end
end Go.Vm.R
namespace Go.Vm.R
noncomputable section
def ofL:List DO->Nat->T DO->T DO
  |[],_,t=>t
  |x::r,i,t=>ofL r (i+1) (t.set .dead i x)
def mkD (l:List DO)(fl:Nat):DH:=⟨l.length,ofL l 0 .lf,fl⟩
theorem Xk3:∀ (l:List DO) (i:Nat) (t:T DO) (s:Nat),(ofL l i t).get .dead s=if i<=s/\s<i+l.length then l.getD (s-i) .dead else t.get .dead s
  |[],i,t,s=>by simp only[ofL,List.length_nil,Nat.add_zero]; rw[if_neg (by omega)]
  |x::r,i,t,s=>by
    simp only[ofL];rw[Xk3 r (i+1) _ s,T.get_set];simp only[List.length_cons]
    by_cases h1:i=s
    . subst h1
      rw[if_neg (by omega),if_pos rfl,if_pos (by omega),Nat.sub_self]; rfl
    . rw[if_neg h1]
      by_cases h2:i+1<=s/\s<i+1+r.length
      . rw[if_pos h2,if_pos (by omega),show s-i=(s-(i+1))+1 by omega]; rfl
      . rw[if_neg h2,if_neg (by omega)]
theorem Wn (l:List DO)(fl s:Nat):(mkD l fl).get s=l.getD s .dead:=by
  show (ofL l 0 .lf).get .dead s=_
  rw[Xk3,T.get_lf]
  by_cases h:s<l.length
  . rw[if_pos (by omega)]; rfl
  . rw[if_neg (by omega),List.getD_eq_getElem?_getD,List.getElem?_eq_none (by omega)]; rfl
def Xhf:DV->Bool
  | .int _ _=>true
  | .bool _=>true
  | .str _=>true
  | .flt _=>true
  | .nil=>true
  | .nils=>true
  | .nilf=>true
  | .nili=>true
  | .nan=>true
  | .nani=>true
  |_=>false
def Xbc:List DV->Bool
  |[]=>true
  |v::r=>Xhf v&&Xbc r
def plainO:DO->Bool
  | .dead=>true
  | .c l _ _=>Xbc l
  | .r _ _ _ _=>true
  | .rn _ _ _=>true
def WM:List DO->Bool
  |[]=>true
  |x::r=>plainO x&&WM r
theorem XdE {L L':Nat->Nat}{v:DV} (h:Xhf v=true):toV L v=toV L' v:=by
  cases v<;>first | rfl | cases h
theorem XcG {L L':Nat->Nat}:∀ {l:List DV},Xbc l=true->toVs L l=toVs L' l
  |[],_=>rfl
  |v::r,h=>by
    simp only[Xbc,Bool.and_eq_true] at h;simp only[toVs,XdE (L:=L) (L':=L') h.1,XcG (L:=L) (L':=L') h.2]
theorem XdD {L L':Nat->Nat}{x:DO} (h:plainO x=true):toO L x=toO L' x:=by
  cases x with
  |c l sp el=>simp only[toO,XcG (L:=L) (L':=L') h]
  |_=>rfl
theorem XbI:∀ {l:List DO}{i:Nat},WM l=true->plainO (l.getD i .dead)=true
  |[],i,_=>by simp[plainO]
  |x::r,0,h=>by
    simp only[WM,Bool.and_eq_true] at h;exact h.1
  |x::r,i+1,h=>by
    simp only[WM,Bool.and_eq_true] at h
    have:=XbI (i:=i) h.2
    simpa using this
abbrev Sig:=List (Nat×DO)
def Xg8 (s:Nat):Sig->Nat->Option Nat
  |[],_=>none
  |p::r,i=>match Nat.beq p.1 s with
    |true=>some i
    |false=>Xg8 s r (i+1)
theorem XiU {s:Nat}:∀ {σ:Sig}{i j:Nat},Xg8 s σ i=some j->∃ m x,j=i+m/\σ[m]? = some (s,x)
  |[],i,j,h=>by cases h
  |p::r,i,j,h=>by
    simp only[Xg8] at h;split at h
    . rename_i hb
      cases h
      exact⟨0,p.2,rfl,by simp[← Nat.eq_of_beq_eq_true hb]⟩
    . obtain⟨m,x,h1,h2⟩:=XiU h
      exact⟨m+1,x,by omega,by simpa using h2⟩
theorem Xf8 {s:Nat}:∀ {σ:Sig}{i:Nat},Xg8 s σ i=none->∀ p∈σ,p.1 ≠ s
  |[],i,h,p,hp=>by cases hp
  |q::r,i,h,p,hp=>by
    simp only[Xg8] at h;split at h
    . cases h
    . rename_i hb
      rcases List.mem_cons.1 hp with rfl | hp
      . intro e; subst e; simp at hb
      . exact Xf8 h p hp
def addS (N:Nat)(d:DH)(σ:Sig)(s:Nat):Option (Nat×Sig):=match Nat.blt s N with
  |true=>some (s,σ)
  |false=>match Xg8 s σ 0 with
    |some i=>some (N+i,σ)
    |none=>match plainO (d.get s) with
      |true=>some (N+σ.length,σ++[(s,d.get s)])
      |false=>none
def renV (N:Nat)(d:DH)(σ:Sig)(v:DV):Option (DV×Sig):=match v with
  | .ptr s i=>match addS N d σ s with
    |some (s,σ)=>some (.ptr s i,σ)
    |none=>none
  | .ep s j w off=>match addS N d σ s with
    |some (s,σ)=>some (.ep s j w off,σ)
    |none=>none
  | .sl s i n c w ex=>match addS N d σ s with
    |some (s,σ)=>some (.sl s i n c w ex,σ)
    |none=>none
  | .rs s j n c w ex=>match addS N d σ s with
    |some (s,σ)=>some (.rs s j n c w ex,σ)
    |none=>none
  | .ns s n w=>match addS N d σ s with
    |some (s,σ)=>some (.ns s n w,σ)
    |none=>none
  | .tup l=>match renT N d σ l with
    |some (l,σ)=>some (.tup l,σ)
    |none=>none
  | .fn f l=>match renT N d σ l with
    |some (l,σ)=>some (.fn f l,σ)
    |none=>none
  | .agg l=>match Xbc l with
    |true=>some (.agg l,σ)
    |false=>none
  | .bot=>none
  |v=>match Xhf v with
    |true=>some (v,σ)
    |false=>none
where renT (N : Nat) (d : DH) (σ : Sig) : List DV → Option (List DV × Sig)
  |[]=>some ([],σ)
  |v::r=>match (match v with
      | .ptr s i=>match addS N d σ s with
        |some (s,σ)=>some (DV.ptr s i,σ)
        |none=>none
      | .rs s j n c w ex=>match addS N d σ s with
        |some (s,σ)=>some (.rs s j n c w ex,σ)
        |none=>none
      | .ns s n w=>match addS N d σ s with
        |some (s,σ)=>some (.ns s n w,σ)
        |none=>none
      | .agg l=>match Xbc l with
        |true=>some (.agg l,σ)
        |false=>none
      |v=>match Xhf v with
        |true=>some (v,σ)
        |false=>none:Option (DV×Sig)) with
    |some (v,σ)=>match renT N d σ r with
      |some (r,σ)=>some (v::r,σ)
      |none=>none
    |none=>none
structure Ren (N:Nat)(L:Nat->Nat)(L0:Nat->Nat)(σ:Sig):Prop where
  low:∀ s,s<N->L0 s=L s
  loc:∀ i s x,σ[i]? = some (s,x)->L0 (N+i)=L s
theorem Ren.pre {N:Nat}{L L0:Nat->Nat}{σ τ:Sig} (r:Ren N L L0 (σ++τ)):Ren N L L0 σ :=
  ⟨r.low,fun i s x h=>r.loc i s x (by
    rw[List.getElem?_append_left (List.getElem?_eq_some_iff.1 h).1]; exact h)⟩
theorem XeA {N : Nat} {d : DH} {L : Nat → Nat} {σ σ' : Sig} {s s' : Nat} (h : addS N d σ s = some (s', σ')) : (∃ τ, σ' = σ ++ τ) ∧ ∀ L0, Ren N L L0 σ' → L0 s' = L s := by
  unfold addS at h;split at h
  . rename_i hb
    cases h
    have hlt:s<N:=by simpa using hb
    exact⟨⟨[],by simp⟩,fun L0 r=>r.low s hlt⟩
  . split at h
    . rename_i i hi
      cases h;obtain⟨m,x,h1,h2⟩:=XiU hi
      exact⟨⟨[],by simp⟩,fun L0 r=>by rw[show N+i=N+m by omega]; exact r.loc m s x h2⟩
    . split at h
      . cases h
        exact⟨⟨_,rfl⟩,fun L0 r=>r.loc σ.length s (d.get s) (by simp)⟩
      . cases h
theorem Xgr {L L0:Nat->Nat}{l:List DV} (h:Xbc l=true):toV L0 (.agg l)=toV L (.agg l):=by
  simp only[toV,XcG (L:=L0) (L':=L) h]
theorem XgX {N : Nat} {d : DH} {L : Nat → Nat} : ∀ {l l' : List DV} {σ σ' : Sig}, renV.renT N d σ l = some (l', σ') → (∃ τ, σ' = σ ++ τ) ∧ ∀ L0, Ren N L L0 σ' → toVs L0 l' = toVs L l
  |[],l',σ,σ',h=>by cases h; exact⟨⟨[],by simp⟩,fun _ _=>rfl⟩
  | v :: r, l', σ, σ', h => by
    simp only[renV.renT] at h;split at h
    . rename_i o v1 σ1 hv
      split at h
      . rename_i r1 σ2 hr
        cases h;obtain⟨⟨τ2,e2⟩,k2⟩:=XgX (L:=L) hr;subst e2
        have one:(∃ τ,σ1=σ++τ)/\∀ L0,Ren N L L0 σ1->toV L0 v1=toV L v:=by
          split at hv
          . split at hv
            . rename_i s1 σ3 ha
              cases hv;obtain⟨h1,h2⟩:=XeA (L:=L) ha
              exact⟨h1,fun L0 r=>by simp only[toV,h2 L0 r]⟩
            . cases hv
          . split at hv
            . rename_i s1 σ3 ha
              cases hv;obtain⟨h1,h2⟩:=XeA (L:=L) ha
              exact⟨h1,fun L0 r=>by simp only[toV,h2 L0 r]⟩
            . cases hv
          . split at hv
            . rename_i s1 σ3 ha
              cases hv;obtain⟨h1,h2⟩:=XeA (L:=L) ha
              exact⟨h1,fun L0 r=>by simp only[toV,h2 L0 r]⟩
            . cases hv
          . split at hv
            . rename_i hp
              cases hv
              exact⟨⟨[],by simp⟩,fun L0 _=>Xgr hp⟩
            . cases hv
          . split at hv
            . rename_i hp
              cases hv
              exact⟨⟨[],by simp⟩,fun L0 _=>XdE hp⟩
            . cases hv
        obtain⟨⟨τ1,e1⟩,k1⟩:=one;subst e1
        refine⟨⟨τ1++τ2,by simp⟩,fun L0 r=>?_⟩
        simp only[toVs,k1 L0 r.pre,k2 L0 r]
      . cases h
    . cases h
theorem Xez {N : Nat} {d : DH} {L : Nat → Nat} {v v' : DV} {σ σ' : Sig} (h : renV N d σ v = some (v', σ')) : (∃ τ, σ' = σ ++ τ) ∧ ∀ L0, Ren N L L0 σ' → toV L0 v' = toV L v := by
  unfold renV at h;split at h
  iterate 5
    . split at h
      . rename_i s1 σ3 ha
        cases h;obtain⟨h1,h2⟩:=XeA (L:=L) ha
        exact⟨h1,fun L0 r=>by simp only[toV,h2 L0 r]⟩
      . cases h
  . split at h
    . rename_i l1 σ3 ha
      cases h;obtain⟨h1,h2⟩:=XgX (L:=L) ha
      exact⟨h1,fun L0 r=>by simp only[toV,h2 L0 r]⟩
    . cases h
  . split at h
    . rename_i l1 σ3 ha
      cases h;obtain⟨h1,h2⟩:=XgX (L:=L) ha
      exact⟨h1,fun L0 r=>by simp only[toV,h2 L0 r]⟩
    . cases h
  . split at h
    . rename_i hp
      cases h
      exact⟨⟨[],by simp⟩,fun L0 _=>Xgr hp⟩
    . cases h
  . cases h
  . split at h
    . rename_i hp
      cases h
      exact⟨⟨[],by simp⟩,fun L0 _=>XdE hp⟩
    . cases h
def Xgn (N:Nat)(d:DH)(σ:Sig):List DV->Option (List DV×Sig)
  |[]=>some ([],σ)
  |v::r=>match renV N d σ v with
    |some (v,σ)=>match Xgn N d σ r with
      |some (r,σ)=>some (v::r,σ)
      |none=>none
    |none=>none
theorem Xi0 {N : Nat} {d : DH} {L : Nat → Nat} : ∀ {l l' : List DV} {σ σ' : Sig}, Xgn N d σ l = some (l', σ') → (∃ τ, σ' = σ ++ τ) ∧ ∀ L0, Ren N L L0 σ' → toVs L0 l' = toVs L l
  |[],l',σ,σ',h=>by cases h; exact⟨⟨[],by simp⟩,fun _ _=>rfl⟩
  |v::r,l',σ,σ',h=>by
    simp only[Xgn] at h;split at h
    . rename_i v1 σ1 hv
      split at h
      . rename_i r1 σ2 hr
        cases h;obtain⟨⟨τ2,e2⟩,k2⟩:=Xi0 (L:=L) hr;subst e2;obtain⟨⟨τ1,e1⟩,k1⟩:=Xez (L:=L) hv;subst e1
        refine⟨⟨τ1++τ2,by simp⟩,fun L0 r=>?_⟩
        simp only[toVs,k1 L0 r.pre,k2 L0 r]
      . cases h
    . cases h
structure Sok (N:Nat)(d:DH)(σ:Sig):Prop where
  nd:(σ.map (·.1)).Nodup
  ge:∀ p∈σ,N<=p.1
  ob:∀ p∈σ,p.2=d.get p.1
  pl:∀ p∈σ,plainO p.2=true
theorem Sok.nil {N:Nat}{d:DH}:Sok N d []:=⟨List.nodup_nil,fun _ h=>(by cases h),fun _ h=>(by cases h),fun _ h=>(by cases h)⟩
theorem XkQ {N : Nat} {d : DH} {σ σ' : Sig} {s s' : Nat} (h : addS N d σ s = some (s', σ')) (k : Sok N d σ) : Sok N d σ' := by
  unfold addS at h;split at h
  . cases h; exact k
  . rename_i hb
    split at h
    . cases h; exact k
    . rename_i hf
      split at h
      . rename_i hp
        cases h
        have hN:N<=s:=by
          rcases Nat.lt_or_ge s N with h | h
          . exact absurd (show Nat.blt s N=true by simpa using h) (by rw[hb]; decide)
          . exact h
        refine⟨?_,?_,?_,?_⟩
        . rw[List.map_append,List.nodup_append]
          refine⟨k.nd,by simp,?_⟩
          intro a ha b hb e;obtain⟨p,hp1,hp2⟩:=List.mem_map.1 ha
          have hb:b=s:=by simpa using hb
          exact Xf8 hf p hp1 (hp2.trans (e.trans hb))
        . intro p hp'
          rcases List.mem_append.1 hp' with h | h
          . exact k.ge p h
          . simp at h; subst h; exact hN
        . intro p hp'
          rcases List.mem_append.1 hp' with h | h
          . exact k.ob p h
          . simp at h; subst h; rfl
        . intro p hp'
          rcases List.mem_append.1 hp' with h | h
          . exact k.pl p h
          . simp at h; subst h; exact hp
      . cases h
theorem Xkv {N : Nat} {d : DH} : ∀ {l l' : List DV} {σ σ' : Sig}, renV.renT N d σ l = some (l', σ') → Sok N d σ → Sok N d σ'
  |[],l',σ,σ',h,k=>by cases h; exact k
  | v :: r, l', σ, σ', h, k => by
    simp only[renV.renT] at h;split at h
    . rename_i o v1 σ1 hv
      split at h
      . rename_i r1 σ2 hr
        cases h;refine Xkv hr ?_
        split at hv
        iterate 3
          . split at hv
            . rename_i s1 σ3 ha
              cases hv;exact XkQ ha k
            . cases hv
        . split at hv
          . cases hv; exact k
          . cases hv
        . split at hv
          . cases hv; exact k
          . cases hv
      . cases h
    . cases h
theorem Xe0 {N : Nat} {d : DH} {v v' : DV} {σ σ' : Sig} (h : renV N d σ v = some (v', σ')) (k : Sok N d σ) : Sok N d σ' := by
  unfold renV at h;split at h
  iterate 5
    . split at h
      . rename_i s1 σ3 ha
        cases h;exact XkQ ha k
      . cases h
  iterate 2
    . split at h
      . rename_i l1 σ3 ha
        cases h;exact Xkv ha k
      . cases h
  . split at h
    . cases h; exact k
    . cases h
  . cases h
  . split at h
    . cases h; exact k
    . cases h
theorem Xi1 {N : Nat} {d : DH} : ∀ {l l' : List DV} {σ σ' : Sig}, Xgn N d σ l = some (l', σ') → Sok N d σ → Sok N d σ'
  |[],l',σ,σ',h,k=>by cases h; exact k
  |v::r,l',σ,σ',h,k=>by
    simp only[Xgn] at h;split at h
    . rename_i v1 σ1 hv
      split at h
      . rename_i r1 σ2 hr
        cases h;exact Xi1 hr (Xe0 hv k)
      . cases h
    . cases h
def Xa9 (d:DH):Nat->List DO
  |0=>[]
  |n+1=>Xa9 d n++[d.get n]
theorem YQ (d:DH):∀ n,(Xa9 d n).length=n
  |0=>rfl
  |n+1=>by simp[Xa9,YQ d n]
theorem XcM (d:DH):∀ (n i:Nat),i<n->(Xa9 d n).getD i .dead=d.get i
  |n+1,i,h=>by
    simp only[Xa9]
    by_cases hi:i<n
    . rw[List.getD_eq_getElem?_getD,List.getElem?_append_left (by rw[YQ]; exact hi),← List.getD_eq_getElem?_getD]
      exact XcM d n i hi
    . have:i=n:=by omega
      subst this;rw[List.getD_eq_getElem?_getD,List.getElem?_append_right (by rw[YQ]; exact Nat.le_refl _),YQ,Nat.sub_self]; rfl
def gathered (N:Nat)(d:DH)(σ:Sig)(fl:Nat):DH:=mkD (Xa9 d N++σ.map (·.2)) fl
def renL (N:Nat)(L:Nat->Nat)(n:Nat)(σ:Sig):Nat->Nat:=fun s =>
  if s<N then L s else match σ[s-N]? with
    |some p=>L p.1
    |none=>n+(s-(N+σ.length))
theorem Wx (N:Nat)(L:Nat->Nat)(n:Nat)(σ:Sig):Ren N L (renL N L n σ) σ where
  low:=fun s hs=>by unfold renL; rw[if_pos hs]
  loc:=fun i s x h=>by
    unfold renL;rw[if_neg (by omega),show N+i-N=i by omega,h]
theorem WP {N:Nat}{d:DH}{σ:Sig}{fl:Nat} (s:Nat):(gathered N d σ fl).get s=if s<N then d.get s else match σ[s-N]? with
    |some p=>p.2
    |none=>.dead:=by
  unfold gathered;rw[Wn]
  by_cases h:s<N
  . rw[if_pos h,List.getD_eq_getElem?_getD,List.getElem?_append_left (by rw[YQ]; exact h),← List.getD_eq_getElem?_getD]
    exact XcM d N s h
  . rw[if_neg h,List.getD_eq_getElem?_getD,List.getElem?_append_right (by rw[YQ]; omega),YQ,List.getElem?_map]
    cases σ[s-N]? <;> rfl
theorem Xbk {N:Nat}{d:DH}{σ:Sig}{fl:Nat}:(gathered N d σ fl).n=N+σ.length:=by
  unfold gathered mkD
  simp[YQ]
theorem Xl7 {σ:Sig} (nd:(σ.map (·.1)).Nodup) {i j:Nat}{p q:Nat×DO} (hi:σ[i]? = some p)(hj:σ[j]? = some q)(e:p.1=q.1):i=j:=by
  have h1:(σ.map (·.1))[i]? = some p.1:=by rw[List.getElem?_map,hi]; rfl
  have h2:(σ.map (·.1))[j]? = some q.1:=by rw[List.getElem?_map,hj]; rfl
  have hil:i<(σ.map (·.1)).length:=(List.getElem?_eq_some_iff.1 h1).1
  rw[← e,← h1] at h2;exact (List.getElem?_inj hil nd).1 h2.symm
theorem Xbl {N : Nat} {L : Nat → Nat} {d : DH} {h : H} {σ : Sig} (R : Rep L d h) (hN : N ≤ d.n) (k : Sok N d σ) (hpl : WM (Xa9 d N) = true) {fl : Nat} (hfl : d.fl ≤ fl) (hfN : fl ≤ N) (hfd : d.fl = fl ∨ d.fl ≤ N) :
    Rep (renL N L h.n σ) (gathered N d σ fl) h:=by
  have rr:=Wx N L h.n σ
  have src:∀ s,Here ((gathered N d σ fl).get s)->∃ s0,(gathered N d σ fl).get s=d.get s0/\renL N L h.n σ s=L s0/\((s<N/\s0=s)∨(N<=s/\N<=s0/\∃ x,σ[s-N]? = some (s0,x))):=by
    intro s hs;rw[WP] at hs ⊢
    by_cases hlt:s<N
    . rw[if_pos hlt]
      exact⟨s,rfl,rr.low s hlt,.inl ⟨hlt,rfl⟩⟩
    . rw[if_neg hlt] at hs ⊢
      cases hp:σ[s-N]? with
      |none=>rw[hp] at hs; exact hs.elim
      |some p =>
        have hm:p∈σ:=List.mem_of_getElem? hp
        refine⟨p.1,k.ob p hm,?_,.inr ⟨by omega,k.ge p hm,p.2,rfl⟩⟩
        have:=rr.loc (s-N) p.1 p.2 hp
        rwa [show N+(s-N)=s by omega] at this
  have pl:∀ s,plainO ((gathered N d σ fl).get s)=true:=by
    intro s;rw[WP]
    by_cases hlt:s<N
    . rw[if_pos hlt]
      have:=XbI (i:=s) hpl
      rwa [XcM d N s hlt] at this
    . rw[if_neg hlt]
      cases hp:σ[s-N]? with
      |none=>rfl
      |some p=>exact k.pl p (List.mem_of_getElem? hp)
  refine⟨fun s hs=>?_,fun s hs=>?_,fun s s' hs hs' e=>?_,fun j=>?_,fun s hs hl=>?_⟩
  . obtain⟨s0,e1,e2,_⟩:=src s hs
    have hp:=pl s;rw[e1] at hs hp ⊢;rw[e2,R.get s0 hs];exact XdD hp
  . obtain⟨s0,e1,e2,e3⟩:=src s hs
    rw[e1] at hs;rw[Xbk,e2]
    refine⟨?_,(R.lt s0 hs).2⟩
    rcases e3 with ⟨h1,_⟩ | ⟨h1,_,x,h3⟩
    . omega
    . have:=(List.getElem?_eq_some_iff.1 h3).1
      omega
  . obtain⟨s0,e1,e2,e3⟩:=src s hs
    obtain⟨s0',e1',e2',e3'⟩:=src s' hs';rw[e1] at hs;rw[e1'] at hs';rw[e2,e2'] at e
    have:=R.inj s0 s0' hs hs' e
    subst this
    rcases e3 with ⟨h1,h2⟩ | ⟨h1,h2,x,h3⟩<;>rcases e3' with ⟨h1',h2'⟩ | ⟨h1',h2',x',h3'⟩
    . omega
    . omega
    . omega
    . have:=Xl7 k.nd h3 h3' rfl
      omega
  . rw[Xbk]
    unfold renL;rw[if_neg (by omega),List.getElem?_eq_none (by omega)]
    simp only
    omega
  . obtain⟨s0,e1,e2,e3⟩:=src s hs
    rw[e1] at hs;rw[e2]
    have hl:fl<=s:=hl
    refine R.fl s0 hs ?_
    rcases e3 with ⟨h1,rfl⟩ | ⟨h1,h2,_⟩
    . omega
    . rcases hfd with h | h<;>omega
theorem XbR {N:Nat}{L:Nat->Nat}{d:DH}{h:H}{σ:Sig} (R:Rep L d h)(hN:N<=d.n)(k:Sok N d σ):Step N L d h (renL N L h.n σ) (gathered N d σ d.fl) h where
  agree:=(Wx N L h.n σ).low
  dn:=by rw[Xbk]; omega
  hn:=Nat.le_refl _
  dfl:=rfl
  hfl:=rfl
  frame:=fun _ _ _=>rfl
  here:=fun s hs hh=>by rw[WP,if_pos hs] at hh; exact hh
  new:=fun s hs hh=>by
    rw[WP,if_neg (by omega)] at hh
    cases hp:σ[s-N]? with
    |none=>rw[hp] at hh; exact hh.elim
    |some p =>
      rw[hp] at hh;have hm:=List.mem_of_getElem? hp;refine .inr ⟨p.1,k.ge p hm,by rw[← k.ob p hm]; exact hh,?_⟩
      have:=(Wx N L h.n σ).loc (s-N) p.1 p.2 hp
      rwa [show N+(s-N)=s by omega] at this
theorem XcA {N:Nat}{L L':Nat->Nat}{d d':DH}{h:H}{r:Res}{k:DK}{t:Tree} (x:Step N L d h L' d' h)(ht:Xc N L' d' h r k t):Xc N L d h r k t:=fun z hz=>by
  obtain⟨w,d2,L2,h2,e,R2,x2,hz2⟩:=ht z hz
  exact⟨w,d2,L2,h2,e,R2,x.trans x2,hz2⟩
def envZ:List Nat->List DV->T DV
  |t::ts,v::vs=>(envZ ts vs).set .bot t v
  |_,_=>.lf
def Xkg (N:Nat)(d:DH)(e:T DV):Sig->List Nat->Option (List DV×Sig)
  | σ,[]=>some ([],σ)
  | σ,t::r=>match renV N d σ (e.get .bot t) with
    |some (v,σ)=>match Xkg N d e σ r with
      |some (l,σ)=>some (v::l,σ)
      |none=>none
    |none=>none
theorem Xil {N : Nat} {d : DH} {e : T DV} {L : Nat → Nat} {n : Nat} {ev : T V} (er : ER L n e ev) : ∀ {ts : List Nat} {σ σ' : Sig} {l : List DV}, Xkg N d e σ ts = some (l, σ') →
    (∃ τ,σ'=σ++τ)/\(Sok N d σ->Sok N d σ')/\∀ L0,Ren N L L0 σ'->ER L0 n (envZ ts l) ev
  |[],σ,σ',l,h=>by
    cases h
    exact⟨⟨[],by simp⟩,id,fun L0 _=>⟨fun i=>.inl (T.get_lf _ _),er.wf⟩⟩
  | t :: r, σ, σ', l, h => by
    simp only[Xkg] at h;split at h
    . rename_i v σ1 hv
      split at h
      . rename_i l1 σ2 hl
        cases h;obtain⟨⟨τ1,e1⟩,k1⟩:=Xez (L:=L) hv;obtain⟨⟨τ2,e2⟩,s2,k2⟩:=Xil (L:=L) er hl;subst e1 e2
        refine⟨⟨τ1++τ2,by simp⟩,fun s=>s2 (Xe0 hv s),fun L0 r=>?_⟩
        have h2:=k2 L0 r
        refine⟨fun i=>?_,er.wf⟩
        simp only[envZ,T.get_set]
        by_cases hi:t=i
        . rw[if_pos hi]
          subst hi;refine .inr ?_
          rw[k1 L0 r.pre]
          rcases er.val t with h | h
          . rw[h] at hv
            unfold renV at hv;cases hv
          . exact h
        . rw[if_neg hi]; exact h2.val i
      . cases h
    . cases h
def nilK (kd:RK)(el:Nat)(e:T DV)(d:DH)(t:Nat)(k:T DV->DH->Tree):Tree:=match e.get .bot t with
  | .nils=>d.pushK (.rn kd [] el) fun d'=>k (e.set .bot t (.ns d.n 0 kd.w)) d'
  | .ns s n w=>k e d
  | .rs s j n c w ex=>match d.get s with
    | .r k' l sp el'=>match asK k' kd l,Nat.beq j 0&&(Nat.beq w kd.w&&(sp&&((Nat.beq el'.e el&&Nat.beq el'.z 0)&&!ex))) with
      |some l,true=>.need (decide (n=l.length)&&(decide (c=n)&&!decide (n=0))) (d.setK s (.rn kd l el) fun d'=>k (e.set .bot t (.ns s n w)) d')
      |_,_=>.no
    |_=>.no
  |_=>.no
theorem Xpm {G : Gl} {N : Nat} {L : Nat → Nat} {e : T DV} {d : DH} {ev : T V} {h : H} {r : Res} {kk : DK} {kd : RK} {el t : Nat} {k : T DV → DH → Tree} (hN : N ≤ d.n) (a : At G L e d ev h)
    (hk:∀ L' e' d',N<=d'.n->d'.fl=d.fl->At G L' e' d' ev h->Step N L d h L' d' h->Xc N L' d' h r kk (k e' d')):Xc N L d h r kk (nilK kd el e d t k):=by
  have R:=a.rep;unfold nilK;split
  . rename_i hv
    rw[DH.pushK_eq]
    let L':Nat->Nat:=fun s=>if s<=d.n then L s else L (s-1)
    have ag:∀ s,s<d.n->L' s=L s:=fun s hs=>if_pos (by omega)
    have key:∀ s,Here ((d.push (.rn kd [] el)).get s)->Here (d.get s)/\(d.push (.rn kd [] el)).get s=d.get s/\s<d.n:=by
      intro s hs;rw[get_push] at hs ⊢;split at hs
      . exact absurd (show 0<([]:List kd.T).length from hs) (by simp)
      . rename_i hne; rw[if_neg hne]; exact⟨hs,rfl,(R.lt s hs).1⟩
    have agV:∀ v:DV,wf h.n (toV L v)->toV L' v=toV L v:=fun v hw=>Xcg ag (fun s hs=>R.fut' s hs) v hw
    have agO:∀ s,Here (d.get s)->toO L' (d.get s)=toO L (d.get s):=by
      intro s hs
      cases hg:d.get s with
      |c l sp el' =>
        have hget:=R.get s hs;rw[hg] at hget;have hw:=a.wf.2 (L s);rw[hget] at hw
        show ob (toVs L' l) sp el' (some 0)=ob (toVs L l) sp el' (some 0)
        congr 1
        refine ZW ag (fun s hs=>R.fut' s hs) l ?_
        rw[XX];intro v hv;obtain⟨i,hi,rfl⟩:=List.mem_iff_getElem.1 hv
        have:=hw i
        rw[WJ hi,List.getD_eq_getElem?_getD,List.getElem?_eq_getElem hi] at this;exact this
      |_=>rfl
    have R':Rep L' (d.push (.rn kd [] el)) h:=by
      refine⟨fun s hs=>?_,fun s hs=>?_,fun s s' hs hs' e=>?_,fun j=>?_,fun s hs hl=>?_⟩
      . obtain⟨h1,h2,h3⟩:=key s hs
        rw[h2,agO s h1,ag s h3];exact R.get s h1
      . obtain⟨h1,h2,h3⟩:=key s hs
        rw[ag s h3]
        exact⟨Nat.lt_succ_of_lt h3,(R.lt s h1).2⟩
      . obtain⟨h1,_,h3⟩:=key s hs
        obtain⟨h1',_,h3'⟩:=key s' hs';rw[ag s h3,ag s' h3'] at e;exact R.inj s s' h1 h1' e
      . show L' (d.n+1+j)=h.n+j
        simp only[L'];rw[if_neg (by omega),show d.n+1+j-1=d.n+j by omega]
        exact R.fut j
      . obtain⟨h1,_,h3⟩:=key s hs
        rw[ag s h3];exact R.fl s h1 hl
    have x:Step N L d h L' (d.push (.rn kd [] el)) h:=by
      refine⟨fun s hs=>ag s (by omega),Nat.le_succ_of_le hN,Nat.le_refl _,rfl,rfl,fun _ _ _=>rfl,fun s hs hh=>(key s hh).1,fun s hs hh=>.inr ⟨s,hs,(key s hh).1,ag s (key s hh).2.2⟩⟩
    refine XcA x (hk L' _ _ (Nat.le_succ_of_le hN) rfl ⟨⟨fun i=>?_,a.er.wf⟩,R',a.wf,a.g⟩ x)
    rw[T.get_set]
    by_cases hi:t=i
    . rw[if_pos hi]
      subst hi;refine .inr ?_
      rcases a.er.val t with h1 | h1
      . rw[hv] at h1; cases h1
      . rw[h1,hv]; rfl
    . rw[if_neg hi]
      rcases a.er.val i with h1 | h1
      . exact .inl h1
      . refine .inr (h1.trans (agV _ ?_).symm)
        rw[← h1]; exact a.er.wf i
  . exact hk L e d hN rfl a (.refl hN)
  . rename_i s j n c w ex hv
    split
    . rename_i k' l0 sp el' hg
      split
      . rename_i l hl hb
        obtain⟨rfl,rfl⟩:=Xca hl;simp only[Bool.and_eq_true,Bool.not_eq_true'] at hb;obtain⟨b1,b2,b3,⟨b4,b6⟩,b5⟩:=hb;obtain⟨el',z'⟩:=el';have b1:=Nat.eq_of_beq_eq_true b1;have b2:=Nat.eq_of_beq_eq_true b2
        have b4:el'=el:=Nat.eq_of_beq_eq_true b4
        have b6:z'=0:=Nat.eq_of_beq_eq_true b6
        subst b1 b2 b3 b4 b5 b6;rw[DH.setK_eq];refine Xd fun hc=>?_
        simp only[Bool.and_eq_true,decide_eq_true_eq,Bool.not_eq_true',decide_eq_false_iff_not] at hc;obtain⟨c1,c2,c3⟩:=hc
        have hh:Here (d.get s):=by rw[hg]; trivial
        have hget:=R.get s hh;rw[hg] at hget
        have R':Rep L (d.set s (.rn k' l0 el')) h:=(Rep.set R hh (.rn k' l0 el') (y:=h.get (L s)) (fun _=>hget)).congr (h1:=h.set (L s) (h.get (L s))) (fun o'=>by rw[Vm.get_set]; split<;>simp_all) rfl rfl
        have x:Step N L d h L (d.set s (.rn k' l0 el')) h:=(Step.congr (h1:=h.set (L s) (h.get (L s))) (h2:=h) (fun o'=>by rw[Vm.get_set]; split<;>simp_all) rfl rfl (Zf R hh (.rn k' l0 el') (h.get (L s)))).weaken hN
        refine XcA x (hk L _ _ hN rfl ⟨⟨fun i=>?_,a.er.wf⟩,R',a.wf,a.g⟩ x)
        rw[T.get_set]
        by_cases hi:t=i
        . rw[if_pos hi]
          subst hi;refine .inr ?_
          rcases a.er.val t with h1 | h1
          . rw[hv] at h1; cases h1
          . rw[h1,hv]
            obtain⟨p,rfl⟩:∃ p,n=p+1:=⟨n-1,by omega⟩
            subst c2;simp only[toV,nsV,Nat.zero_mul]
        . rw[if_neg hi]; exact a.er.val i
      . exact Xa
    . exact Xa
  . exact Xa
abbrev Hint:=Nat×Option (RK×Nat)
def Xk6 (e:T DV)(d:DH)(k:T DV->DH->Tree):List Hint->Tree
  |[]=>k e d
  | (t,some (kd,el))::r=>nilK kd el e d t fun e' d'=>Xk6 e' d' k r
  | (_,none)::r=>Xk6 e d k r
theorem Xfu {G:Gl}{N:Nat}{ev:T V}{h:H}{r:Res}{kk:DK}{k:T DV->DH->Tree}:∀ (hs:List Hint) (L:Nat->Nat) (e:T DV) (d:DH),N<=d.n->At G L e d ev h ->
    (∀ L' e' d',N<=d'.n->d'.fl=d.fl->At G L' e' d' ev h->Step N L d h L' d' h->Xc N L' d' h r kk (k e' d'))->Xc N L d h r kk (Xk6 e d k hs)
  |[],L,e,d,hN,a,hk=>hk L e d hN rfl a (.refl hN)
  | (t,some (kd,el))::hs,L,e,d,hN,a,hk=>by
    refine Xpm hN a fun L' e' d' hN' hf a' x=>?_
    exact Xfu hs L' e' d' hN' a' fun L2 e2 d2 hN2 hf2 a2 x2=>hk L2 e2 d2 hN2 (hf2.trans hf) a2 (x.trans x2)
  | (_,none)::hs,L,e,d,hN,a,hk=>Xfu hs L e d hN a hk
def ZE:List Hint->List Nat
  |[]=>[]
  |p::r=>p.1::ZE r
def XcI (N:Nat)(d:DH)(σ:Sig):List DO:=Xa9 d N++sndS σ
where sndS:Sig->List DO
  |[]=>[]
  |p::r=>p.2::sndS r
theorem Xly (N:Nat)(d:DH)(σ:Sig):mkD (XcI N d σ) N=gathered N d σ N:=by
  unfold XcI gathered
  have:∀ σ:Sig,XcI.sndS σ=σ.map (·.2):=by
    intro σ
    induction σ with
    |nil=>rfl
    |cons p r ih=>simp only[XcI.sndS,List.map_cons,ih]
  rw[this]
def Xke (N:Nat)(hs:List Hint)(e:T DV)(d:DH)(k:List DV->List DO->Tree):Tree:=Xk6 e d (fun e d=>match Nat.beq d.fl N&&WM (Xa9 d N) with
  |true=>match Xkg N d e [] (ZE hs) with
    |some (l,σ)=>k l (XcI N d σ)
    |none=>.no
  |false=>.no) hs
theorem XeK {G : Gl} {N : Nat} {L : Nat → Nat} {e : T DV} {d : DH} {ev : T V} {h : H} {r : Res} {kk : DK} {hs : List Hint} {k : List DV → List DO → Tree} (hN : N ≤ d.n) (a : At G L e d ev h)
    (hk:∀ L' l ao,N<=ao.length->At G L' (envZ (ZE hs) l) (mkD ao N) ev h->Xc N L' (mkD ao N) h r kk (k l ao)):Xc N L d h r kk (Xke N hs e d k):=by
  refine Xfu hs L e d hN a fun L' e' d' hN' _ a' _=>?_
  split
  . rename_i hb
    simp only[Bool.and_eq_true] at hb;have hfl:=Nat.eq_of_beq_eq_true hb.1;split
    . rename_i l σ hl
      obtain⟨_,s,er⟩:=Xil a'.er hl;have sk:=s .nil;have R:=Xbl a'.rep hN' sk hb.2 (Nat.le_refl _) (Nat.le_of_eq hfl) (.inl rfl);have x:=XbR a'.rep hN' sk;rw[hfl,← Xly] at R x
      have hlen:N<=(XcI N d' σ).length:=by
        unfold XcI;rw[List.length_append,YQ]; omega
      exact XcA x (hk _ _ _ hlen ⟨er _ (Wx N L' h.n σ),R,a'.wf,a'.g⟩)
    . exact Xa
  . exact Xa
end
end Go.Vm.R
namespace Go.Vm.R
noncomputable section
def Xbz (id:Nat):List (Nat×EK)->Option EK
  |[]=>none
  | (i,k)::r=>match Nat.beq i id with
    |true=>some k
    |false=>Xbz id r
inductive LT where
  |exit (id:Nat) (vs:List DV) (ao:List DO)
  |ret (vs:List DV) (ao:List DO)
  |br (b:Bool) (t f:LT)
  |need (b:Bool) (t:LT)
structure LoopD where
  temps:List Hint
  outs:List Hint
  rets:List Hint
  spec:List DV->List DO->Option (Nat×LT)
def LT.tree (N:Nat)(ld:LoopD)(rd:EK)(y:List (Nat×EK)):LT->Tree
  | .exit id vs ao=>match Xbz id y with
    |some k=>k (envZ (ZE ld.outs) vs) (mkD ao N)
    |none=>.no
  | .ret vs ao=>rd (envZ (ZE ld.rets) vs) (mkD ao N)
  | .br b t f=>.br b (t.tree N ld rd y) (f.tree N ld rd y)
  | .need b t=>.need b (t.tree N ld rd y)
def Xc1 (body:T DV->DH->EK->Tree):Nat->T DV->DH->Tree
  |0,_,_=>.no
  |n+1,e,h=>body e h (fun e h=>Xc1 body n e h)
def XU (K:Kd)(cl:DC)(lh:Nat->Option LoopD)(lev nt N:Nat):CC->T DV->DH->EK->List (Nat×EK)->EK->Tree
  | .skip,e,h,_,_,k=>k e h
  | .ops l,e,h,_,_,k=>XV K cl nt l e h k
  | .draw m al l,e,h,_,_,k=>X7 K cl nt al [] l m e h k
  | .seq a b,e,h,r,x,k=>XU K cl lh lev nt N a e h r x (fun e h=>XU K cl lh lev nt N b e h r x k)
  | .cond c a b,e,h,r,x,k=>match c with
    | .t t=>match e.get .bot t with
      | .bool b'=>.br b' (T.setK .bot e t (.bool true) fun e=>XU K cl lh lev nt N a e h r x k) (T.setK .bot e t (.bool false) fun e=>XU K cl lh lev nt N b e h r x k)
      |_=>.no
    | .c v=>match v with
      | .bool true=>XU K cl lh lev nt N a e h r x k
      | .bool false=>XU K cl lh lev nt N b e h r x k
      |_=>.no
  | .block id b,e,h,r,x,k=>XU K cl lh lev nt N b e h r ((id,k)::x) k
  | .loop b,e,h,r,x,_=>match x with
    | (id,_)::_=>match lh id with
      |some ld=>Xke N ld.temps e h fun vs ao=>match ld.spec vs ao with
        |some (m,t)=>.need (decide (m<lev)) (t.tree N ld r x)
        |none=>Xc1 (fun e h k'=>XU K cl lh lev nt N b e h r x k') lev (envZ (ZE ld.temps) vs) (mkD ao N)
      |none=>Xc1 (fun e h k'=>XU K cl lh lev nt N b e h r x k') lev e h
    |[]=>Xc1 (fun e h k'=>XU K cl lh lev nt N b e h r x k') lev e h
  | .exit id,e,h,_,x,_=>match Xbz id x with
    |some k=>k e h
    |none=>.no
  | .ret,e,h,r,_,_=>r e h
  | .bad,_,_,_,_,_=>.no
inductive XOk (G:Gl)(N:Nat)(k:DK):List (Nat×K)->List (Nat×EK)->Prop
  |nil:XOk G N k [] []
  |cons {id:Nat}{kk:K}{kd:EK}{x:List (Nat×K)}{y:List (Nat×EK)}:KOk G N k kk kd->XOk G N k x y->XOk G N k ((id,kk)::x) ((id,kd)::y)
theorem XOk.look {G : Gl} {N : Nat} {k : DK} {id : Nat} : ∀ {x : List (Nat × K)} {y : List (Nat × EK)}, XOk G N k x y → ∀ {kd : EK}, Xbz id y = some kd → ∃ kk, look id x = some kk ∧ KOk G N k kk kd
  |_,_,.nil,kd,e=>by cases e
  |_,_,.cons (id:=i) hk hx,kd,e=>by
    simp only[Xbz] at e
    by_cases hi:i=id
    . subst hi
      rw[show Nat.beq i i=true by simp] at e
      cases e
      exact⟨_,by simp[Vm.look],hk⟩
    . have hb:Nat.beq i id=false:=by
        cases hb:Nat.beq i id with
        |false=>rfl
        |true=>exact absurd (Nat.eq_of_beq_eq_true hb) hi
      rw[hb] at e;obtain⟨kk,h1,h2⟩:=XOk.look hx e
      exact⟨kk,by simp[Vm.look,hi,h1],h2⟩
def X8:Option Nat->CC->List (Nat×CC)
  |hd,.seq a b=>X8 hd a++X8 hd b
  |hd,.cond _ a b=>X8 hd a++X8 hd b
  |_,.block id b=>X8 (some id) b
  |hd,.loop b=>(match hd with | some id=>[(id,b)] | none=>[])++X8 hd b
  |_,_=>[]
def Xf4 (y:List (Nat×EK)):Option Nat:=match y with
  | (id,_)::_=>some id
  |[]=>none
def XQ (G:Gl)(N:Nat)(call:Nat->List V->H->Res)(n lev nt:Nat)(id:Nat)(b:CC)(ld:LoopD):Prop :=
  ∀ (k:DK) (r:K) (rd:EK) (x:List (Nat×K)) (y:List (Nat×EK)),KOk G N k r rd->XOk G N k x y->Xf4 y=some id->∀ L vs ao ev h m t,N<=ao.length->At G L (envZ (ZE ld.temps) vs) (mkD ao N) ev h->ld.spec vs ao=some (m,t)->m<lev ->
    Xc N L (mkD ao N) h (ZT (fun e h k'=>exec call n nt b e h r x k') n ev h) k (t.tree N ld rd y)
theorem XbP {G:Gl}{N:Nat}{k:DK}{B:T V->H->K->Res}{D:T DV->DH->EK->Tree} (hB:∀ kk kd,KOk G N k kk kd->KOk G N k (fun e h=>B e h kk) (fun e h=>D e h kd)):∀ m n,m<=n->KOk G N k (fun e h=>ZT B n e h) (fun e h=>Xc1 D m e h)
  |0,n,_=>fun L e d ev h _ _=>Xa
  |m+1,n,hm=>by
    obtain⟨n',rfl⟩:∃ n',n=n'+1:=⟨n-1,by omega⟩
    exact hB _ _ (XbP hB m n' (by omega))
theorem Yv {G : Gl} {N : Nat} {call : Nat → List V → H → Res} {cl : DC} (hgood : Xm G.n call) (hcl : ClOk G call cl) (K : Kd) {lh : Nat → Option LoopD} {n lev nt : Nat} (hlev : lev ≤ n) {k : DK} {r : Vm.K} {rd : EK} (hr : KOk G N k r rd) :
    ∀ (c:CC) (hd:Option Nat) (x:List (Nat×Vm.K)) (y:List (Nat×EK)) (kk:Vm.K) (kd:EK),ccWf G.n c->Xf4 y=hd->(∀ p∈X8 hd c,∀ ld,lh p.1=some ld->XQ G N call n lev nt p.1 p.2 ld)->XOk G N k x y->KOk G N k kk kd ->
    KOk G N k (fun e h=>exec call n nt c e h r x kk) (fun e h=>XU K cl lh lev nt N c e h rd y kd):=by
  intro c
  induction c with
  |skip=>intro hd x y kk kd _ _ _ _ hk; exact hk
  |ops l=>intro hd x y kk kd hw _ _ _ hk; exact Zz hgood hcl K nt hk l hw
  |draw m al l=>intro hd x y kk kd hw _ _ _ hk; exact Wv hgood hcl K nt al hk l m hw
  |seq a b iha ihb =>
    intro hd x y kk kd hw hy hl hx hk;exact iha hd x y _ _ hw.1 hy (fun p hp=>hl p (List.mem_append_left _ hp)) hx (ihb hd x y kk kd hw.2 hy (fun p hp=>hl p (List.mem_append_right _ hp)) hx hk)
  |cond c a b iha ihb =>
    intro hd x y kk kd hw hy hl hx hk L e d ev h hN ha;have ka:=iha hd x y kk kd hw.1 hy (fun p hp=>hl p (List.mem_append_left _ hp)) hx hk
    have kb:=ihb hd x y kk kd hw.2 hy (fun p hp=>hl p (List.mem_append_right _ hp)) hx hk
    show Xc N L d h (exec call n nt (.cond c a b) ev h r x kk) k (XU K cl lh lev nt N (.cond c a b) e d rd y kd)
    rw[XlS]
    cases c with
    |t t =>
      show Xc N L d h (XkL (ev.get .bot t) _ _ ev h) k _
      simp only[XU,T.setK_eq]
      cases hg:e.get .bot t<;>first | exact Xa | skip
      rename_i b';rw[Xhx ha.er hg];refine XW (fun hb=>?_) (fun hb=>?_)
      . subst hb
        rw[Yz hg];exact ka L e d ev h hN ha
      . subst hb
        rw[Yz hg];exact kb L e d ev h hN ha
    |c v =>
      simp only[XU];split
      . exact ka L e d ev h hN ha
      . exact kb L e d ev h hN ha
      . exact Xa
  |block id b ih =>
    intro hd x y kk kd hw hy hl hx hk;exact ih (some id) ((id,kk)::x) ((id,kd)::y) kk kd hw rfl hl (.cons hk hx) hk
  |loop b ih =>
    intro hd x y kk kd hw hy hl hx hk
    have plain:KOk G N k (fun e h=>ZT (fun e h k'=>exec call n nt b e h r x k') n e h) (fun e h=>Xc1 (fun e h k'=>XU K cl lh lev nt N b e h rd y k') lev e h) :=
      XbP (fun kk' kd' hk'=>ih hd x y kk' kd' hw hy (fun p hp=>hl p (List.mem_append_right _ hp)) hx hk') lev n hlev
    intro L e d ev h hN ha
    show Xc N L d h (exec call n nt (.loop b) ev h r x kk) k (XU K cl lh lev nt N (.loop b) e d rd y kd)
    rw[XqO]
    have e0:ZT (lb call n nt b r x) n ev h=ZT (fun e h k'=>exec call n nt b e h r x k') n ev h:=rfl
    rw[e0];simp only[XU];split
    . rename_i id k1 y'
      split
      . rename_i ld hld
        refine XeK hN ha fun L' vs ao hN' ha'=>?_
        split
        . rename_i m t hs
          refine Xd fun hm=>?_
          have hmem:(id,b)∈X8 hd (.loop b):=by
            rw[← hy]
            simp[X8,Xf4]
          exact hl (id,b) hmem ld hld k r rd x _ hr hx rfl L' vs ao ev h m t hN' ha' hs (of_decide_eq_true hm)
        . exact plain L' _ (mkD ao N) ev h hN' ha'
      . exact plain L e d ev h hN ha
    . exact plain L e d ev h hN ha
  |exit id =>
    intro hd x y kk kd hw hy hl hx hk L e d ev h hN ha
    show Xc N L d h (exec call n nt (.exit id) ev h r x kk) k (XU K cl lh lev nt N (.exit id) e d rd y kd)
    simp only[exec,XU]
    cases hlk:Xbz id y with
    |none=>exact Xa
    |some kd' =>
      obtain⟨kk',h1,h2⟩:=hx.look hlk;rw[h1];exact h2 L e d ev h hN ha
  |ret=>intro hd x y kk kd hw hy hl hx hk; exact hr
  |bad=>intro hd x y kk kd hw hy hl hx hk L e d ev h hN ha; exact Xa
def XmZ (N:Nat)(ld:LoopD)(m:Nat)(rd:EK)(y:List (Nat×EK)):EK:=fun e d=>Xke N ld.temps e d fun vs ao=>match ld.spec vs ao with
  |some (m',t)=>.need (decide (m'<m)) (t.tree N ld rd y)
  |none=>.no
def Xl (N:Nat)(hs:List Hint)(k:EK):EK:=fun e d=>Xke N hs e d fun vs ao=>k (envZ (ZE hs) vs) (mkD ao N)
theorem Xfv {G:Gl}{N:Nat}{k:DK}{kk:Vm.K}{kd:EK} (hs:List Hint)(h:KOk G N k kk kd):KOk G N k kk (Xl N hs kd):=fun L e d ev vh hN a =>
  XeK hN a fun L' vs ao hN' a'=>h L' _ (mkD ao N) ev vh hN' a'
theorem Xpu {G : Gl} {N : Nat} {call : Nat → List V → H → Res} {cl : DC} (hgood : Xm G.n call) (hcl : ClOk G call cl) (K : Kd) {lh : Nat → Option LoopD} {n lev nt id : Nat} {b : CC} {ld : LoopD} (hlev : lev ≤ n) (hw : ccWf G.n b)
    (hl:∀ p∈X8 (some id) b,∀ ld,lh p.1=some ld->XQ G N call n lev nt p.1 p.2 ld)
    (hb:∀ vs ao m t,ld.spec vs ao=some (m,t)->∀ (rd k1:EK) (y:List (Nat×EK)) (z:DV×DH),(t.tree N ld rd ((id,k1)::y)).ev=some z ->
      (XU K cl lh lev nt N b (envZ (ZE ld.temps) vs) (mkD ao N) (Xl N ld.rets rd) ((id,Xl N ld.outs k1)::y) (XmZ N ld m rd ((id,k1)::y))).ev=some z) :
    XQ G N call n lev nt id b ld:=by
  intro k r rd x y hr hx hy
  obtain⟨k1,y',rfl⟩:∃ k1 y',y=(id,k1)::y':=by
    cases y with
    |nil=>cases hy
    |cons p y' =>
      obtain⟨i,k1⟩:=p;simp only[Xf4,Option.some.injEq] at hy;subst hy
      exact⟨k1,y',rfl⟩
  have main:∀ (m n':Nat),m<n'->∀ L vs ao ev h t,N<=ao.length->At G L (envZ (ZE ld.temps) vs) (mkD ao N) ev h->ld.spec vs ao=some (m,t)->Xc N L (mkD ao N) h (ZT (fun e h k'=>exec call n nt b e h r x k') n' ev h) k (t.tree N ld rd ((id,k1)::y')):=by
    intro m
    induction m using Nat.strongRecOn with
    | _ m ih =>
      intro n' hm L vs ao ev h t hN ha hs
      obtain⟨n'',rfl⟩:∃ n'',n'=n''+1:=⟨n'-1,by omega⟩
      have hk:KOk G N k (fun e h=>ZT (fun e h k'=>exec call n nt b e h r x k') n'' e h) (XmZ N ld m rd ((id,k1)::y')):=by
        intro L e d ev h hN ha;refine XeK hN ha fun L' vs' ao' hN' ha'=>?_
        split
        . rename_i m' t' hs'
          refine Xd fun hlt=>?_
          have hlt:=of_decide_eq_true hlt;exact ih m' hlt n'' (by omega) L' vs' ao' ev h t' hN' ha' hs'
        . exact Xa
      have hx':XOk G N k x ((id,Xl N ld.outs k1)::y'):=by
        cases hx with
        |cons h1 h2=>exact .cons (Xfv ld.outs h1) h2
      have:=Yv hgood hcl K hlev (Xfv ld.rets hr) b (some id) x ((id,Xl N ld.outs k1)::y') _ _ hw rfl hl hx' hk L _ (mkD ao N) ev h hN ha
      intro z hz;exact this z (hb vs ao m t hs rd k1 y' z hz)
  intro L vs ao ev h m t hN ha hs hm;exact main m n (by omega) L vs ao ev h t hN ha hs
def Yu:List DV->Nat->T DV->T DV
  |[],_,e=>e
  |v::r,i,e=>Yu r (i+1) (e.set .bot i v)
theorem WS {L:Nat->Nat}{n:Nat}:∀ (l:List DV) (i:Nat) (e:T DV) (ev:T V),ER L n e ev->wfs n (toVs L l)->ER L n (Yu l i e) (ZU (toVs L l) i ev)
  |[],_,_,_,er,_=>er
  |v::r,i,e,ev,er,hw=>by
    refine WS r (i+1) (e.set .bot i v) (ev.set .bot i (toV L v)) ⟨fun j=>?_,fun j=>?_⟩ hw.2
    . simp only[T.get_set]
      by_cases hj:i=j
      . rw[if_pos hj,if_pos hj]; exact .inr rfl
      . rw[if_neg hj,if_neg hj]; exact er.val j
    . rw[T.get_set]
      split
      . exact hw.1
      . exact er.wf j
def Xcy (e:T DV)(h:DH):CR->Option DV
  | .t i=>match e.get .bot i with
    | .bot=>none
    |v=>some v
  | .m1 i=>match e.get .bot i with
    | .ptr o j=>match h.get o with
      | .c l _ _=>l[j]?
      |_=>none
    |_=>none
  | .mn i n => match e.get .bot i with
    | .ptr o j=>match h.get o with
      | .c l _ _=>match Nat.ble (j+n) l.length with
        |true=>some (.agg ((l.drop j).take n))
        |false=>none
      |_=>none
    |_=>none
theorem XnA {L:Nat->Nat}{n:Nat}{e:T DV}{ev:T V} (er:ER L n e ev) {t o i:Nat} (h:e.get .bot t=.ptr o i):ev.get .bot t=.ptr (L o) i:=by
  rcases er.val t with h1 | h1
  . rw[h] at h1; cases h1
  . rw[h1,h]; rfl
theorem Xfb {L : Nat → Nat} {e : T DV} {d : DH} {ev : T V} {h : H} (er : ER L h.n e ev) (R : Rep L d h) {c : CR} {v : DV} (hv : Xcy e d c = some v) : resV ev h c = some (toV L v) := by
  cases c with
  | t i =>
    simp only[Xcy] at hv;split at hv
    . cases hv
    . rename_i hne
      cases hv
      rcases er.val i with h1 | h1
      . exact absurd h1 hne
      . show some (ev.get .bot i)=_
        rw[h1]
  |m1 i =>
    simp only[Xcy] at hv;split at hv
    . rename_i o j hg
      simp only[resV,XnA er hg];split at hv
      . rename_i l sp el ho
        have hget:=R.get o (by rw[ho]; trivial)
        rw[ho] at hget;have hlt:=(List.getElem?_eq_some_iff.1 hv).1;rw[Xb2,hget,show toO L (.c l sp el)=ob (toVs L l) sp el (some 0) from rfl,ZL,if_pos (by rw[Xk]; omega),XH,XG]
        have:(l.drop j).take 1=[v]:=by
          rw[List.drop_eq_getElem_cons hlt]
          have:=(List.getElem?_eq_some_iff.1 hv).2
          simp[this]
        rw[this]; rfl
      . cases hv
    . cases hv
  |mn i n =>
    simp only[Xcy] at hv;split at hv
    . rename_i o j hg
      simp only[resV,XnA er hg];split at hv
      . rename_i l sp el ho
        have hget:=R.get o (by rw[ho]; trivial)
        rw[ho] at hget;split at hv
        . rename_i hb
          cases hv;have hle:=Nat.le_of_ble_eq_true hb;rw[Xb2,hget,show toO L (.c l sp el)=ob (toVs L l) sp el (some 0) from rfl,ZL,if_pos (by rw[Xk]; exact hle),XH,XG]; rfl
        . cases hv
      . cases hv
    . cases hv
def Xdk (e:T DV)(h:DH):List CR->Option (List DV)
  |[]=>some []
  |c::r=>match Xcy e h c,Xdk e h r with
    |some v,some l=>some (v::l)
    |_,_=>none
theorem Xae {L:Nat->Nat}{e:T DV}{d:DH}{ev:T V}{h:H} (er:ER L h.n e ev)(R:Rep L d h):∀ {c:List CR}{l:List DV},Xdk e d c=some l->resL ev h c=some (toVs L l)
  |[],l,hl=>by cases hl; rfl
  |c::r,l,hl=>by
    simp only[Xdk] at hl;split at hl
    . rename_i v l' hv hl'
      cases hl;simp only[resL,Xfb er R hv,Xae er R hl',toVs]
    . cases hl
def YS (res:List CR)(k:DK):EK:=fun e h=>match Xdk e h res with
  |some [v]=>k v h
  |some l=>k (.tup l) h
  |none=>.no
theorem Zi {G:Gl}{N:Nat} (res:List CR)(k:DK):KOk G N k (fun e h=>results res e h) (YS res k):=by
  intro L e d ev h hN a;simp only[YS];split
  . rename_i v hv
    refine Xy (L':=L) ?_ a.rep (.refl hN);simp only[results,Xae a.er a.rep hv,toVs]
  . rename_i l hne hl
    refine Xy (L':=L) ?_ a.rep (.refl hN);simp only[results,Xae a.er a.rep hl]
    cases l with
    |nil=>rfl
    |cons a r=>cases r with
      |nil=>exact absurd rfl (hne a)
      |cons b r=>rfl
  . exact Xa
abbrev Hook:=Nat->List DV->DH->Option (Nat×(DK->Tree))
def topD (K:Kd)(cl:DC)(lh:Nat->Option LoopD)(lev:Nat)(c:CFn)(l:List DV)(d:DH)(k:DK):Tree:=match Nat.ble l.length c.nt with
  |true=>XU K cl lh lev c.nt d.n c.body (Yu l 0 .lf) d (YS c.res k) [] (YS c.res k)
  |false=>.no
def WH (hk:Hook)(K:Kd)(known:Nat->Bool)(tab:Nat->Option CFn):Nat->DC
  |0=>fun _ _ _ _=>.no
  | lev + 1 => fun f l d k => match hk f l d with
    |some (T,t)=>match Nat.ble T (lev+1) with
      |true=>t k
      |false=>.no
    |none=>match known f with
      |true=>.no
      |false=>match tab f with
        |some c=>topD K (WH hk K known tab lev) (fun _=>none) lev c l d k
        |none=>.no
structure HookOk (G:Gl)(O:Nat->List V->H->Res)(tab:Nat->Option CFn)(hk:Hook)(known:Nat->Bool):Prop where
  ok:∀ n f l d T t,hk f l d=some (T,t)->T<=n->∀ k L h,Rep L d h->wfh h->G.J h->wfs h.n (toVs L l)->Xc d.n L d h (XF X4 O tab n f (toVs L l) h) k (t k)
  no:∀ f,known f=false->∀ a h,O f a h=.no
theorem Xmi {P:Program}{G:Gl} (hG:G.n=P.globals.size) {O:Nat->List V->H->Res}{tab:Nat->Option CFn} (ht:Tab P tab) {n lev f:Nat}{c:CFn}{cl:DC} (gO:Xm P.globals.size O)(hcl:ClOk G (XF X4 O tab n) cl)(K:Kd) {lh:Nat->Option LoopD}
    (hlev:lev<=n) (hO:∀ a h,O f a h=.no) (hc:tab f=some c) {l:List DV}{d:DH} (hl:∀ p∈X8 none c.body,∀ ld,lh p.1=some ld->XQ G d.n (XF X4 O tab n) n lev c.nt p.1 p.2 ld)
    {k:DK}{L:Nat->Nat}{h:H} (R:Rep L d h) (w:wfh h) (g:G.J h) (hw:wfs h.n (toVs L l)):Xc d.n L d h (XF X4 O tab (n+1) f (toVs L l) h) k (topD K cl lh lev c l d k):=by
  unfold topD;split
  . rename_i hb
    have hle:=Nat.le_of_ble_eq_true hb;rw[XfN,hO,XaK,hc,XjQ,if_pos (by rw[Xk]; exact hle)]
    have hcw:ccWf G.n c.body:=by
      rw[hG];obtain⟨fn,b,_,_,_,_,_,h7⟩:=Z9 (ht f c hc);rw[h7]; exact WT P b
    exact Yv (by rw[hG]; exact Wl YI gO ht n) hcl K hlev (Zi c.res k) c.body none [] [] _ _ hcw rfl hl .nil (Zi c.res k) L _ d _ h (Nat.le_refl _)
      ⟨WS l 0 .lf .lf ⟨fun i=>.inl (T.get_lf _ _),fun i=>by rw[T.get_lf]; trivial⟩ hw,R,w,g⟩
  . exact Xa
theorem WA {P : Program} {G : Gl} (hG : G.n = P.globals.size) {O : Nat → List V → H → Res} {tab : Nat → Option CFn} (ht : Tab P tab) (gO : Xm P.globals.size O) {hk : Hook} (K : Kd) {known : Nat → Bool} (hh : HookOk G O tab hk known) :
    ∀ lev n,lev<=n->ClOk G (XF X4 O tab n) (WH hk K known tab lev)
  |0,n,_=>fun f l d k L h _ _ _ _=>Xa
  | lev + 1, n, hn => fun f l d k L h R w g hw => by
    obtain⟨n',rfl⟩:∃ n',n=n'+1:=⟨n-1,by omega⟩
    have ih:=WA hG ht gO K hh lev n' (by omega)
    simp only[WH];split
    . rename_i T t hk1
      split
      . rename_i hb
        have hle:=Nat.le_of_ble_eq_true hb;exact hh.ok (n'+1) f l d T t hk1 (by omega) k L h R w g hw
      . exact Xa
    . split
      . exact Xa
      . rename_i hf
        split
        . rename_i c hc
          exact Xmi hG ht gO ih K (by omega) (hh.no f hf) hc (fun p _ ld hld=>by cases hld) R w g hw
        . exact Xa
end
end Go.Vm.R
namespace Go.Vm.R
noncomputable section
inductive RD where
  |v (x:DV) (new:List DO)
  |br (b:Bool) (t f:RD)
  |need (b:Bool) (t:RD)
def RD.tree (ao:List DO)(fl:Nat)(k:DK):RD->Tree
  | .v x new=>k x (mkD (ao++new) fl)
  | .br b t f=>.br b (t.tree ao fl k) (f.tree ao fl k)
  | .need b t=>.need b (t.tree ao fl k)
def finK (N:Nat)(k:DK):DK:=fun w d=>match Nat.ble N d.n&&(Nat.ble d.fl N&&WM (Xa9 d N)) with
  |true=>match renV N d [] w with
    |some (w',σ)=>k w' (gathered N d σ d.fl)
    |none=>.no
  |false=>.no
def okK:DK:=fun w d=>.ok w d
theorem XcX {ao:List DO}{fl:Nat}{k:DK}{z:DV×DH}:∀ (t:RD),(t.tree ao fl k).ev=some z->∃ w d,(t.tree ao fl okK).ev=some (w,d)/\(k w d).ev=some z
  | .v x new,h=>⟨x,_,rfl,h⟩
  | .br b t f,h=>by
    cases b
    . exact XcX f h
    . exact XcX t h
  | .need b t,h=>by
    obtain⟨rfl,h2⟩:=XB h;exact XcX t h2
def Xw (G:Gl)(O:Nat->List V->H->Res)(tab:Nat->Option CFn)(f T:Nat)(ao:List DO)(l:List DV)(out:RD):Prop :=
  ∀ n,T<=n->∀ k L h,Rep L (mkD ao ao.length) h->wfh h->G.J h->wfs h.n (toVs L l)->Xc ao.length L (mkD ao ao.length) h (XF X4 O tab n f (toVs L l) h) k (out.tree ao ao.length k)
theorem Xk7 (l:List DO)(fl:Nat):(mkD l fl).n=l.length:=rfl
theorem Xse {P:Program}{G:Gl} (hG:G.n=P.globals.size) {O:Nat->List V->H->Res}{tab:Nat->Option CFn} (ht:Tab P tab)(gO:Xm P.globals.size O) {hk:Hook} (K:Kd) {known:Nat->Bool} (hh:HookOk G O tab hk known)
    {lev f:Nat}{c:CFn}{ao:List DO}{l:List DV}{out:RD} (lh:Nat->Option LoopD) (hf:known f=false) (hc:tab f=some c)
    (hl:∀ n,lev<=n->∀ p∈X8 none c.body,∀ ld,lh p.1=some ld->XQ G ao.length (XF X4 O tab n) n lev c.nt p.1 p.2 ld)
    (he:∀ z,(out.tree ao ao.length okK).ev=some z->(topD K (WH hk K known tab lev) lh lev c l (mkD ao ao.length) (finK ao.length okK)).ev=some z):Xw G O tab f (lev+1) ao l out:=by
  intro n hn k L h R w g hw z hz
  obtain⟨n',rfl⟩:∃ n',n=n'+1:=⟨n-1,by omega⟩
  obtain⟨x,d,h1,h2⟩:=XcX out hz
  have:=Xmi hG ht gO (WA hG ht gO K hh lev n' (by omega)) K (f:=f) (c:=c) (lh:=lh) (by omega) (hh.no f hf) hc (d:=mkD ao ao.length) (hl n' (by omega)) (k:=finK ao.length okK) R w g hw
  have h1:=he _ h1;obtain⟨w1,d1,L1,h1',e1,R1,x1,hz1⟩:=this _ h1;unfold finK at hz1;split at hz1
  . rename_i hb
    simp only[Bool.and_eq_true] at hb;obtain⟨b1,b2,b3⟩:=hb;have b1:=Nat.le_of_ble_eq_true b1;have b2:=Nat.le_of_ble_eq_true b2;split at hz1
    . rename_i w' σ hr
      have hq:(w',gathered ao.length d1 σ d1.fl)=(x,d):=Option.some.inj hz1
      obtain⟨rfl,rfl⟩:=Prod.mk.inj hq;obtain⟨_,kr⟩:=Xez (L:=L1) hr;have sk:=Xe0 hr .nil;have R2:=Xbl R1 b1 sk b3 (Nat.le_refl _) b2 (.inl rfl);have x2:=XbR R1 b1 sk
      exact⟨w',_,_,h1',by rw[kr _ (Wx _ _ _ _)]; exact e1,R2,x1.trans x2,h2⟩
    . cases hz1
  . cases hz1
def fromV:DV->Option Vm.DV
  | .int k n=>some (.int k n)
  | .bool b=>some (.bool b)
  | .str l=>some (.str l)
  | .flt x=>some (.flt x)
  | .nil=>some .nil
  | .nils=>some .nils
  | .nilf=>some .nilf
  | .nili=>some .nili
  | .nan=>some .nan
  | .nani=>some .nani
  | .agg l=>match fromVs l with
    |some r=>some (.agg r)
    |none=>none
  | .tup l=>match fromVs l with
    |some r=>some (.tup r)
    |none=>none
  | .fn f l=>match fromVs l with
    |some r=>some (.fn f r)
    |none=>none
  |_=>none
where fromVs:List DV->Option (List Vm.DV)
  |[]=>some []
  |v::r=>match fromV v,fromVs r with
    |some x,some l=>some (x::l)
    |_,_=>none
def Xf3:Vm.DV->Option DV
  | .int k n=>some (.int k n)
  | .bool b=>some (.bool b)
  | .str l=>some (.str l)
  | .flt x=>some (.flt x)
  | .nil=>some .nil
  | .nils=>some .nils
  | .nilf=>some .nilf
  | .nili=>some .nili
  | .nan=>some .nan
  | .nani=>some .nani
  | .agg l=>match intoVs l with
    |some r=>some (.agg r)
    |none=>none
  | .tup l=>match intoVs l with
    |some r=>some (.tup r)
    |none=>none
  |_=>none
where intoVs:List Vm.DV->Option (List DV)
  |[]=>some []
  |v::r=>match Xf3 v,intoVs r with
    |some x,some l=>some (x::l)
    |_,_=>none
mutual
theorem XiQ {L:Nat->Nat}:∀ (v:DV) {x:Vm.DV},fromV v=some x->Vm.toV x=toV L v
  | .int _ _,x,h | .bool _,x,h | .str _,x,h | .flt _,x,h | .nil,x,h | .nils,x,h | .nilf,x,h | .nili,x,h | .nan,x,h | .nani,x,h=>by cases h; rfl
  | .agg l,x,h=>by
    simp only[fromV] at h;split at h
    . rename_i r hr
      cases h
      show V.agg (Vm.toVs r)=V.agg (toVs L l)
      rw[Z8 l hr]
    . cases h
  | .tup l,x,h=>by
    simp only[fromV] at h;split at h
    . rename_i r hr
      cases h
      show V.tup (Vm.toVs r)=V.tup (toVs L l)
      rw[Z8 l hr]
    . cases h
  | .fn f l,x,h=>by
    simp only[fromV] at h;split at h
    . rename_i r hr
      cases h
      show V.fn f (Vm.toVs r)=V.fn f (toVs L l)
      rw[Z8 l hr]
    . cases h
  | .ptr ..,x,h | .ep ..,x,h | .sl ..,x,h | .rs ..,x,h | .ns ..,x,h | .ifc ..,x,h | .bot,x,h=>by cases h
theorem Z8 {L:Nat->Nat}:∀ (l:List DV) {r:List Vm.DV},fromV.fromVs l=some r->Vm.toVs r=toVs L l
  |[],r,h=>by cases h; rfl
  |v::l,r,h=>by
    simp only[fromV.fromVs] at h;split at h
    . rename_i x y hx hy
      cases h
      show Vm.toV x::Vm.toVs y=toV L v::toVs L l
      rw[XiQ v hx,Z8 l hy]
    . cases h
end
mutual
theorem XiJ {L:Nat->Nat}:∀ (v:Vm.DV) {x:DV},Xf3 v=some x->toV L x=Vm.toV v
  | .int _ _,x,h | .bool _,x,h | .str _,x,h | .flt _,x,h | .nil,x,h | .nils,x,h | .nilf,x,h | .nili,x,h | .nan,x,h | .nani,x,h=>by cases h; rfl
  | .agg l,x,h=>by
    simp only[Xf3] at h;split at h
    . rename_i r hr
      cases h
      show V.agg (toVs L r)=V.agg (Vm.toVs l)
      rw[XdJ l hr]
    . cases h
  | .tup l,x,h=>by
    simp only[Xf3] at h;split at h
    . rename_i r hr
      cases h
      show V.tup (toVs L r)=V.tup (Vm.toVs l)
      rw[XdJ l hr]
    . cases h
  | .ptr ..,x,h | .sl ..,x,h | .fn ..,x,h | .ifc ..,x,h | .bot,x,h=>by cases h
theorem XdJ {L:Nat->Nat}:∀ (l:List Vm.DV) {r:List DV},Xf3.intoVs l=some r->toVs L r=Vm.toVs l
  |[],r,h=>by cases h; rfl
  |v::l,r,h=>by
    simp only[Xf3.intoVs] at h;split at h
    . rename_i x y hx hy
      cases h
      show toV L x::toVs L y=Vm.toV v::Vm.toVs l
      rw[XiJ v hx,XdJ l hy]
    . cases h
end
def XdF (k:DV->Tree):PD->Tree
  | .v x=>match Xf3 x with
    |some y=>k y
    |none=>.no
  | .br b t f=>.br b (XdF k t) (XdF k f)
  | .need b t=>.need b (XdF k t)
theorem Xcj {L:Nat->Nat}{k:DV->Tree}{z:DV×DH}:∀ d:PD,(XdF k d).ev=some z->d.ok=true/\∃ y,toV L y=Vm.toV d.val/\(k y).ev=some z
  | .v x,h=>by
    simp only[XdF] at h;split at h
    . rename_i y hy
      exact⟨rfl,y,XiJ x hy,h⟩
    . cases h
  | .br b t f,h=>by
    cases b
    . exact Xcj f h
    . exact Xcj t h
  | .need b t,h=>by
    obtain⟨h1,h2⟩:=XB h;obtain⟨h3,h4⟩:=Xcj t h2
    exact⟨by simp[PD.ok,h1,h3],h4⟩
structure RLaws (G:Gl)(O:Nat->List V->H->Res)(tab:Nat->Option CFn) where
  spec:Nat->List DV->List DO->Option (Nat×RD)
  sound:∀ f l ao T out,spec f l ao=some (T,out)->Xw G O tab f T ao l out
def XdZ (σ:Sig)(n s:Nat):Nat:=match Nat.blt s σ.length with
  |true=>match σ[s]? with
    |some p=>p.1
    |none=>0
  |false=>n+(s-σ.length)
def Xb6 (σ:Sig)(n:Nat):DV->DV
  | .ptr s i=>.ptr (XdZ σ n s) i
  | .ep s j w off=>.ep (XdZ σ n s) j w off
  | .sl s i m c w ex=>.sl (XdZ σ n s) i m c w ex
  | .rs s j m c w ex=>.rs (XdZ σ n s) j m c w ex
  | .ns s m w=>.ns (XdZ σ n s) m w
  | .agg l=>.agg (backVs σ n l)
  | .tup l=>.tup (backVs σ n l)
  | .fn f l=>.fn f (backVs σ n l)
  | .ifc t v=>.ifc t (Xb6 σ n v)
  |v=>v
where backVs (σ:Sig) (n:Nat):List DV->List DV
  |[]=>[]
  |v::r=>Xb6 σ n v::backVs σ n r
def Xhb:List DO->DH->(DH->Tree)->Tree
  |[],d,k=>k d
  |x::r,d,k=>d.pushK x fun d'=>Xhb r d' k
def RD.back (σ:Sig)(d:DH)(k:DK):RD->Tree
  | .v x new=>match WM new with
    |true=>Xhb new d fun d'=>k (Xb6 σ d.n x) d'
    |false=>.no
  | .br b t f=>.br b (t.back σ d k) (f.back σ d k)
  | .need b t=>.need b (t.back σ d k)
def Xkr (n:Nat):Sig->Bool
  |[]=>true
  |p::r=>Nat.blt p.1 n&&Xkr n r
theorem Xiu {n:Nat}:∀ {σ:Sig},Xkr n σ=true->∀ p∈σ,p.1<n
  |[],_,p,hp=>by cases hp
  |q::r,h,p,hp=>by
    simp only[Xkr,Bool.and_eq_true] at h
    rcases List.mem_cons.1 hp with rfl | hp
    . simpa using h.1
    . exact Xiu h.2 p hp
variable {P:Program}
def XcK {G:Gl}{O:Nat->List V->H->Res}{tab:Nat->Option CFn} (X:Laws P)(Y:RLaws G O tab):Hook:=fun f l d=>match fromV.fromVs l with
  |some l'=>match X.spec f l' with
    |some p=>some (0,fun k=>XdF (fun v=>k v d) p)
    |none=>match Y.spec f l [] with
      |some (T,out)=>some (T,fun k=>out.back [] d k)
      |none=>none
  |none=>match Xgn 0 d [] l with
    |some (l',σ)=>match Xkr d.n σ,Y.spec f l' (σ.map (·.2)) with
      |true,some (T,out)=>some (T,fun k=>out.back σ d k)
      |_,_=>none
    |none=>none
def plus (d:DH):List DO->DH
  |[]=>d
  |x::r=>plus (d.push x) r
theorem Xfe:∀ (l:List DO) (d:DH) (k:DH->Tree),Xhb l d k=k (plus d l)
  |[],d,k=>rfl
  |x::r,d,k=>by
    show d.pushK x _=_
    rw[DH.pushK_eq,Xfe r]; rfl
theorem Xfg:∀ (l:List DO) (d:DH),(plus d l).n=d.n+l.length
  |[],d=>rfl
  |x::r,d=>by
    show (plus (d.push x) r).n=_
    rw[Xfg r]
    show d.n+1+r.length=_
    simp only[List.length_cons]; omega
theorem Xhd:∀ (l:List DO) (d:DH),(plus d l).fl=d.fl
  |[],d=>rfl
  |x::r,d=>by
    show (plus (d.push x) r).fl=_
    rw[Xhd r]; rfl
theorem Xi3:∀ (l:List DO) (d:DH) (s:Nat),(plus d l).get s=if d.n<=s/\s<d.n+l.length then l.getD (s-d.n) .dead else d.get s
  |[],d,s=>by rw[if_neg (by simp)]; rfl
  |x::r,d,s=>by
    show (plus (d.push x) r).get s=_
    rw[Xi3 r,get_push]
    show (if d.n+1<=s/\s<d.n+1+r.length then _ else _)=_
    simp only[List.length_cons];rw[show (d.push x).n=d.n+1 from rfl]
    by_cases h1:d.n=s
    . subst h1
      rw[if_neg (by omega),if_pos rfl,if_pos (by omega),Nat.sub_self]; rfl
    . rw[if_neg h1]
      by_cases h2:d.n+1<=s/\s<d.n+1+r.length
      . rw[if_pos h2,if_pos (by omega),show s-d.n=(s-(d.n+1))+1 by omega]; rfl
      . rw[if_neg h2,if_neg (by omega)]
def Xvz (L:Nat->Nat)(n:Nat)(L1:Nat->Nat)(m len hn:Nat):Nat->Nat:=fun s =>
  if s<n then L s else if s<n+len then L1 (m+(s-n)) else hn+(s-(n+len))
mutual
theorem XfS {L1 L2:Nat->Nat}{σ:Sig}{n M:Nat} (hs:∀ s,L1 s<M->L2 (XdZ σ n s)=L1 s):∀ v:DV,wf M (toV L1 v)->toV L2 (Xb6 σ n v)=toV L1 v
  | .int _ _,_ | .bool _,_ | .str _,_ | .flt _,_ | .nil,_ | .nils,_ | .nilf,_ | .nili,_ | .nan,_ | .nani,_ | .bot,_=>rfl
  | .ptr s i,w=>by simp only[Xb6,toV,hs s w]
  | .ep s j w off,hw=>by simp only[Xb6,toV,hs s hw]
  | .sl s i m c w ex,hw=>by simp only[Xb6,toV,hs s hw]
  | .rs s j m c w ex,hw=>by simp only[Xb6,toV,hs s hw]
  | .ns s m w,hw=>by
    cases m with
    |zero=>rfl
    |succ m=>simp only[Xb6,toV,hs s hw]
  | .agg l,w=>by
    show V.agg _=V.agg _
    rw[Xcu hs l w]
  | .tup l,w=>by
    show V.tup _=V.tup _
    rw[Xcu hs l w]
  | .fn f l,w=>by
    show V.fn f _=V.fn f _
    rw[Xcu hs l w]
  | .ifc t v,w=>by
    show V.ifc t _=V.ifc t _
    rw[XfS hs v w]
theorem Xcu {L1 L2:Nat->Nat}{σ:Sig}{n M:Nat} (hs:∀ s,L1 s<M->L2 (XdZ σ n s)=L1 s):∀ l:List DV,wfs M (toVs L1 l)->toVs L2 (Xb6.backVs σ n l)=toVs L1 l
  |[],_=>rfl
  |v::r,w=>by
    show toV L2 _::toVs L2 _=toV L1 v::toVs L1 r
    rw[XfS hs v w.1,Xcu hs r w.2]
end
theorem Xe9 {σ:Sig}{d:DH}{k:DK}{z:DV×DH}:∀ t:RD,(t.back σ d k).ev=some z->∃ x new,WM new=true/\(t.tree (σ.map (·.2)) σ.length okK).ev=some (x,mkD (σ.map (·.2)++new) σ.length)/\(k (Xb6 σ d.n x) (plus d new)).ev=some z
  | .v x new,h=>by
    simp only[RD.back] at h;split at h
    . rename_i hp
      rw[Xfe] at h
      exact⟨x,new,hp,rfl,h⟩
    . cases h
  | .br b t f,h=>by
    cases b
    . exact Xe9 f h
    . exact Xe9 t h
  | .need b t,h=>by
    obtain⟨rfl,h2⟩:=XB h;exact Xe9 t h2
theorem XiI {G:Gl}{O:Nat->List V->H->Res}{tab:Nat->Option CFn} (hgood:∀ n,Xm G.n (XF X4 O tab n)) {f T n:Nat}{σ:Sig}{l l':List DV}{out:RD}{d:DH} (hσ:Sok 0 d σ)(hsl:∀ p∈σ,p.1<d.n)(hlaw:Xw G O tab f T (σ.map (·.2)) l' out)(hT:T<=n)
    {L:Nat->Nat}{h:H} (R:Rep L d h) (w:wfh h) (g:G.J h) (hw:wfs h.n (toVs L l)) (hren:toVs (renL 0 L h.n σ) l'=toVs L l) {k:DK}:Xc d.n L d h (XF X4 O tab n f (toVs L l) h) k (out.back σ d k):=by
  intro z hz;obtain⟨x,new,hnew,h1,h2⟩:=Xe9 out hz
  have hlen:(σ.map (·.2)).length=σ.length:=List.length_map ..
  have hd0:gathered 0 d σ σ.length=mkD (σ.map (·.2)) σ.length:=by
    show mkD ([]++σ.map (·.2)) σ.length=_
    rw[List.nil_append]
  have R0:Rep (renL 0 L h.n σ) (mkD (σ.map (·.2)) σ.length) h:=by
    rw[← hd0];have base:=Xbl (fl:=0) (N:=0) (L:=L) (d:={ d with fl:=0 }) (σ:=σ) (h:={ h with fl:=0 }) ⟨R.get,R.lt,R.inj,R.fut,fun s _ _=>Nat.zero_le _⟩ (Nat.zero_le _) ⟨hσ.nd,hσ.ge,hσ.ob,hσ.pl⟩ rfl (Nat.le_refl _) (Nat.le_refl _) (.inl rfl)
    have key:∀ s,Here ((gathered 0 d σ σ.length).get s)->s<σ.length:=by
      intro s hs
      have:=(base.lt s hs).1
      rw[Xbk] at this;omega
    exact⟨base.get,base.lt,base.inj,base.fut,fun s hs hl=>absurd (key s hs) (by have:σ.length<=s:=hl; omega)⟩
  rw[← hlen] at R0;obtain⟨x1,d1,L1,h',e1,R1,st,hx⟩:=hlaw n hT okK (renL 0 L h.n σ) h R0 w g (by rw[hren]; exact hw) _ (by rw[hlen]; exact h1)
  have hq:(x1,d1)=(x,mkD (σ.map (·.2)++new) σ.length):=Option.some.inj hx
  obtain⟨rfl,rfl⟩:=Prod.mk.inj hq;rw[hren] at e1;have hgd:=hgood n f (toVs L l) h (G.le _ g) w hw;rw[e1] at hgd;obtain⟨_,w',wx⟩:=hgd;have rr:=Wx 0 L h.n σ
  have low:∀ (i:Nat) (p:Nat×DO),σ[i]? = some p->L1 i=L p.1:=by
    intro i p hi;have hlt:=(List.getElem?_eq_some_iff.1 hi).1;have a1:=st.agree i (by rw[hlen]; exact hlt)
    have a2:=rr.loc i p.1 p.2 hi;rw[Nat.zero_add] at a2;exact a1.trans a2
  have get1:∀ (i:Nat) (p:Nat×DO),σ[i]? = some p->Here (d.get p.1)->h'.get (L p.1)=h.get (L p.1):=by
    intro i p hi hh;have hlt:=(List.getElem?_eq_some_iff.1 hi).1;have hob:=hσ.ob p (List.mem_of_getElem? hi)
    have hg:(mkD (σ.map (·.2)++new) σ.length).get i=d.get p.1:=by
      rw[Wn,List.getD_eq_getElem?_getD,List.getElem?_append_left (by rw[hlen]; exact hlt),List.getElem?_map,hi]
      exact hob
    have e1:=R1.get i (by rw[hg]; exact hh)
    rw[hg,low i p hi] at e1;rw[e1,R.get p.1 hh];have hp:=hσ.pl p (List.mem_of_getElem? hi);rw[hob] at hp;exact XdD hp
  let L2:=Xvz L d.n L1 σ.length new.length h'.n
  have L2low:∀ s,s<d.n->L2 s=L s:=fun s hs=>if_pos hs
  have L2new:∀ j,j<new.length->L2 (d.n+j)=L1 (σ.length+j):=fun j hj=>by
    show (if d.n+j<d.n then _ else if d.n+j<d.n+new.length then L1 (σ.length+(d.n+j-d.n)) else _)=_
    rw[if_neg (by omega),if_pos (by omega),show d.n+j-d.n=j by omega]
  have at2:∀ s,Here ((plus d new).get s)->(s<d.n/\(plus d new).get s=d.get s)∨∃ j,j<new.length/\s=d.n+j/\(plus d new).get s=(mkD (σ.map (·.2)++new) σ.length).get (σ.length+j):=by
    intro s hs;rw[Xi3] at hs ⊢
    by_cases hc:d.n<=s/\s<d.n+new.length
    . rw[if_pos hc]
      refine .inr ⟨s-d.n,by omega,by omega,?_⟩
      rw[Wn,List.getD_eq_getElem?_getD (l:=σ.map (·.2)++new),List.getElem?_append_right (by rw[hlen]; omega),hlen,show σ.length+(s-d.n)-σ.length=s-d.n by omega,← List.getD_eq_getElem?_getD]
    . rw[if_neg hc] at hs ⊢
      exact .inl ⟨(R.lt s hs).1,rfl⟩
  have new1:∀ j,j<new.length->Here ((mkD (σ.map (·.2)++new) σ.length).get (σ.length+j))->h.n<=L1 (σ.length+j):=by
    intro j hj hh
    rcases st.new (σ.length+j) (by rw[hlen]; omega) hh with h3 | ⟨s0,h3,h4,_⟩
    . exact h3
    . have h5:=(R0.lt s0 h4).1
      rw[Xk7] at h5;rw[hlen] at h3 h5;omega
  have R2 : Rep L2 (plus d new) h' := by
    refine⟨fun s hs=>?_,fun s hs=>?_,fun s s' hs hs' e=>?_,fun j=>?_,fun s hs hl=>?_⟩
    . rcases at2 s hs with ⟨hlt,e⟩ | ⟨j,hj,rfl,e⟩
      . rw[e] at hs ⊢
        rw[L2low s hlt]
        have same:h'.get (L s)=h.get (L s):=by
          by_cases hm:∃ (i:Nat) (p:Nat×DO),σ[i]? = some p/\p.1=s
          . obtain⟨i,p,hi,rfl⟩:=hm
            exact get1 i p hi hs
          . refine st.frame (L s) (R.lt s hs).2 fun s0 hs0 e0=>hm ?_
            have hlt0:=(R0.lt s0 hs0).1;rw[Xk7,hlen] at hlt0
            have hget0:∃ p,σ[s0]? = some p:=⟨σ[s0],List.getElem?_eq_getElem hlt0⟩
            obtain⟨p,hp⟩:=hget0
            refine⟨s0,p,hp,?_⟩
            have a2:=rr.loc s0 p.1 p.2 hp;rw[Nat.zero_add] at a2;rw[a2] at e0;refine R.inj p.1 s ?_ hs e0;have hob:=hσ.ob p (List.mem_of_getElem? hp);rw[← hob]
            have:(mkD (σ.map (·.2)) (σ.map (·.2)).length).get s0=p.2:=by
              rw[Wn,List.getD_eq_getElem?_getD,List.getElem?_map,hp]; rfl
            rw[this] at hs0;exact hs0
        rw[same,R.get s hs]
        cases hg:d.get s with
        |c l0 sp el =>
          have hget:=R.get s hs;rw[hg] at hget;have hwo:=w.2 (L s);rw[hget] at hwo
          show ob (toVs L l0) sp el (some 0)=ob (toVs L2 l0) sp el (some 0)
          congr 1
          refine (ZW (N:=d.n) (M:=h.n) L2low (fun s hs=>R.fut' s hs) l0 ?_).symm
          rw[XX];intro v hv;obtain⟨i,hi,rfl⟩:=List.mem_iff_getElem.1 hv
          have:=hwo i
          rw[WJ hi,List.getD_eq_getElem?_getD,List.getElem?_eq_getElem hi] at this;exact this
        |_=>rfl
      . rw[e] at hs ⊢
        rw[L2new j hj,R1.get _ hs];refine XdD ?_
        rw[Wn,List.getD_eq_getElem?_getD,List.getElem?_append_right (by rw[hlen]; omega),← List.getD_eq_getElem?_getD]
        exact XbI hnew
    . rcases at2 s hs with ⟨hlt,e⟩ | ⟨j,hj,rfl,e⟩
      . rw[e] at hs
        rw[Xfg,L2low s hlt]
        exact⟨by omega,Nat.lt_of_lt_of_le (R.lt s hs).2 st.hn⟩
      . rw[e] at hs
        rw[Xfg,L2new j hj]
        exact⟨by omega,(R1.lt _ hs).2⟩
    . rcases at2 s hs with ⟨hlt,e1⟩ | ⟨j,hj,rfl,e1⟩<;>rcases at2 s' hs' with ⟨hlt',e2⟩ | ⟨j',hj',rfl,e2⟩
      . rw[e1] at hs; rw[e2] at hs'
        rw[L2low s hlt,L2low s' hlt'] at e;exact R.inj s s' hs hs' e
      . rw[e1] at hs; rw[e2] at hs'
        rw[L2low s hlt,L2new j' hj'] at e;have a1:=(R.lt s hs).2;have a2:=new1 j' hj' hs';omega
      . rw[e1] at hs; rw[e2] at hs'
        rw[L2low s' hlt',L2new j hj] at e;have a1:=(R.lt s' hs').2;have a2:=new1 j hj hs;omega
      . rw[e1] at hs; rw[e2] at hs'
        rw[L2new j hj,L2new j' hj'] at e
        have:=R1.inj _ _ hs hs' e
        omega
    . rw[Xfg]
      show (if d.n+new.length+j<d.n then _ else if d.n+new.length+j<d.n+new.length then _ else h'.n+(d.n+new.length+j-(d.n+new.length)))=_
      rw[if_neg (by omega),if_neg (by omega)]
      omega
    . rw[st.hfl]
      rw[Xhd] at hl
      rcases at2 s hs with ⟨hlt,e⟩ | ⟨j,hj,rfl,e⟩
      . rw[e] at hs
        rw[L2low s hlt];exact R.fl s hs hl
      . rw[e] at hs
        rw[L2new j hj];exact Nat.le_trans w.1 (new1 j hj hs)
  have x2:Step d.n L d h L2 (plus d new) h':=by
    refine⟨L2low,by rw[Xfg]; omega,st.hn,Xhd _ _,st.hfl,fun o ho hf=>?_,fun s hs hh=>?_,fun s hs hh=>?_⟩
    . refine st.frame o ho fun s0 hs0 e0=>?_
      have hlt0:=(R0.lt s0 hs0).1;rw[Xk7,hlen] at hlt0
      have hp:σ[s0]? = some σ[s0]:=List.getElem?_eq_getElem hlt0
      have a2:=rr.loc s0 σ[s0].1 σ[s0].2 hp;rw[Nat.zero_add] at a2;refine hf σ[s0].1 ?_ (a2.symm.trans e0);have hob:=hσ.ob σ[s0] (List.mem_of_getElem? hp);rw[← hob]
      have:(mkD (σ.map (·.2)) (σ.map (·.2)).length).get s0=σ[s0].2:=by
        rw[Wn,List.getD_eq_getElem?_getD,List.getElem?_map,hp]; rfl
      rw[this] at hs0;exact hs0
    . rcases at2 s hh with ⟨_,e⟩ | ⟨j,hj,rfl,e⟩
      . rw[e] at hh; exact hh
      . omega
    . rcases at2 s hh with ⟨h3,_⟩ | ⟨j,hj,rfl,e⟩
      . omega
      . rw[e] at hh
        exact .inl (by rw[L2new j hj]; exact new1 j hj hh)
  refine⟨Xb6 σ d.n x1,plus d new,L2,h',?_,R2,x2,h2⟩
  rw[e1]
  congr 1
  refine (XfS (M:=h'.n) (fun s hs=>?_) x1 wx).symm
  unfold XdZ
  cases hb:Nat.blt s σ.length with
  |true =>
    have hlt:s<σ.length:=by simpa using hb
    have hp:σ[s]? = some σ[s]:=List.getElem?_eq_getElem hlt
    simp only[hp];rw[low s _ hp];exact L2low _ (hsl _ (List.mem_of_getElem? hp))
  |false =>
    have hge:σ.length<=s:=by
      rcases Nat.lt_or_ge s σ.length with h3 | h3
      . rw[show Nat.blt s σ.length=true by simpa using h3] at hb; cases hb
      . exact h3
    simp only
    by_cases hn:s-σ.length<new.length
    . rw[L2new _ hn,show σ.length+(s-σ.length)=s by omega]
    . have h6:=R1.fut' s (by rw[Xk7,List.length_append,hlen]; omega)
      omega
end
end Go.Vm.R
namespace Go.Vm.R
noncomputable section
variable {P:Program}
theorem XnS {O:Nat->List V->H->Res}{tab:Nat->Option CFn}{f:Nat}{args:List V}{h h':H}{v:V} (e:O f args h=.ok v h'):∀ n,XF X4 O tab n f args h=.ok v h'
  |0=>e
  |n+1=>by rw[XfN,e]; rfl
theorem XmC {L L':Nat->Nat}{l:List DV}{l':List Vm.DV} (h:fromV.fromVs l=some l'):toVs L l=toVs L' l:=by
  rw[← Z8 (L:=L) l h,Z8 (L:=L') l h]
structure Above (X:Laws P)(O:Nat->List V->H->Res):Prop where
  good:Xm P.globals.size O
  has:∀ f args h v h',X.O f args h=.ok v h'->O f args h=.ok v h'
theorem XdK (X : Laws P) {G : Gl} (hG : G.n = P.globals.size) {O : Nat → List V → H → Res} (hX : Above X O) {tab : Nat → Option CFn} (ht : Tab P tab) (Y : RLaws G O tab) {known : Nat → Bool} (hk : ∀ f, known f = false → ∀ a h, O f a h = .no) : HookOk G O tab (XcK X Y) known where
  ok := fun n f l d T t e hT k L h R w g hw => by
    have hgood:∀ n,Xm G.n (XF X4 O tab n):=by rw[hG]; exact Wl YI hX.good ht
    unfold XcK at e;split at e
    . rename_i l' hl
      split at e
      . rename_i p hp
        cases e;intro z hz;obtain⟨h1,y,h2,h3⟩:=Xcj (L:=L) p hz;have ho:=X.O_spec hp h1 h;rw[Z8 (L:=L) l hl] at ho
        exact⟨y,d,L,h,by rw[h2]; exact XnS (hX.has _ _ _ _ _ ho) n,R,.refl (Nat.le_refl _),h3⟩
      . split at e
        . rename_i T' out hs
          cases e;exact XiI (σ:=[]) hgood .nil (fun _ h=>by cases h) (Y.sound f l [] T out hs) hT R w g hw (XmC hl)
        . cases e
    . split at e
      . rename_i l' σ hr
        split at e
        . rename_i T' out hlt hs
          cases e;obtain⟨_,kr⟩:=Xi0 (L:=L) hr;exact XiI hgood (Xi1 hr .nil) (Xiu hlt) (Y.sound f l' _ T out hs) hT R w g hw (kr _ (Wx 0 L h.n σ))
        . cases e
      . cases e
  no:=hk
def RLaws.none (G:Gl)(O:Nat->List V->H->Res)(tab:Nat->Option CFn):RLaws G O tab:=⟨fun _ _ _=>.none,fun _ _ _ _ _ h=>by cases h⟩
def RLaws.add {G:Gl}{O:Nat->List V->H->Res}{tab:Nat->Option CFn} (Y:RLaws G O tab)(f:Nat)(T:Nat)(g:List DV->List DO->Option RD)(hg:∀ l ao out,g l ao=some out->Xw G O tab f T ao l out):RLaws G O tab where
  spec:=fun f' l ao=>match Nat.beq f' f with
    |true=>match g l ao with
      |some out=>some (T,out)
      | .none=>.none
    |false=>Y.spec f' l ao
  sound := fun f' l ao T' out h => by
    split at h
    . rename_i e
      have e:=Nat.eq_of_beq_eq_true e;subst e;split at h
      . rename_i o ho
        cases h;exact hg l ao _ ho
      . cases h
    . exact Y.sound f' l ao T' out h
structure Ctx (P:Program) where
  X:Laws P
  G:Gl
  hG:G.n=P.globals.size
  O:Nat->List V->H->Res
  hX:Above X O
  tab:Nat->Option CFn
  ht:Tab P tab
  kn:Nat->Bool
  hk:∀ f,kn f=false->∀ a h,O f a h=.no
  K:Kd
abbrev Ctx.RL (C:Ctx P):=RLaws C.G C.O C.tab
def runD (C:Ctx P)(Y:C.RL)(lh:Nat->Option LoopD)(lev:Nat)(c:CFn)(l:List DV)(ao:List DO):Option (DV×DH) :=
  (topD C.K (WH (XcK C.X Y) C.K C.kn C.tab lev) lh lev c l (mkD ao ao.length) (finK ao.length okK)).ev
def YR (C:Ctx P)(Y:C.RL)(lh:Nat->Option LoopD)(lev nt N id:Nat)(b:CC)(ld:LoopD)(m:Nat)(vs:List DV)(ao:List DO)(rd k1:EK)(y:List (Nat×EK)):Tree :=
  XU C.K (WH (XcK C.X Y) C.K C.kn C.tab lev) lh lev nt N b (envZ (ZE ld.temps) vs) (mkD ao N) (Xl N ld.rets rd) ((id,Xl N ld.outs k1)::y) (XmZ N ld m rd ((id,k1)::y))
theorem Yy (C:Ctx P)(Y:C.RL) {lev f:Nat}{c:CFn}{ao:List DO}{l:List DV}{out:RD} (lh:Nat->Option LoopD)(hf:C.kn f=false)(hc:C.tab f=some c)
    (hl:∀ n,lev<=n->∀ p∈X8 none c.body,∀ ld,lh p.1=some ld->XQ C.G ao.length (XF X4 C.O C.tab n) n lev c.nt p.1 p.2 ld)
    (he:∀ z,(out.tree ao ao.length okK).ev=some z->runD C Y lh lev c l ao=some z):Xw C.G C.O C.tab f (lev+1) ao l out :=
  Xse C.hG C.ht C.hX.good C.K (XdK C.X C.hG C.hX C.ht Y C.hk) lh hf hc hl he
theorem ZJ (C:Ctx P)(Y:C.RL) {lh:Nat->Option LoopD}{n lev nt N id:Nat}{b:CC}{ld:LoopD} (hlev:lev<=n)(hw:ccWf P.globals.size b)
    (hl:∀ p∈X8 (some id) b,∀ ld,lh p.1=some ld->XQ C.G N (XF X4 C.O C.tab n) n lev nt p.1 p.2 ld)
    (hb:∀ vs ao m t,ld.spec vs ao=some (m,t)->∀ (rd k1:EK) (y:List (Nat×EK)) (z:DV×DH),(t.tree N ld rd ((id,k1)::y)).ev=some z->(YR C Y lh lev nt N id b ld m vs ao rd k1 y).ev=some z) :
    XQ C.G N (XF X4 C.O C.tab n) n lev nt id b ld :=
  Xpu (by rw[C.hG]; exact Wl YI C.hX.good C.ht n) (WA C.hG C.ht C.hX.good C.K (XdK C.X C.hG C.hX C.ht Y C.hk) lev n hlev) C.K hlev (by rw[C.hG]; exact hw) hl hb
theorem Xag {h h':H}:∀ {B:Base},(∀ x∈B,h'.get x.1=h.get x.1)->meets h B=true->meets h' B=true
  |[],_,_=>rfl
  | (g,l)::r,hs,hm=>by
    simp only[meets,Bool.and_eq_true] at hm ⊢
    have e:h'.get g=h.get g:=hs (g,l) (by simp)
    rw[e]
    exact⟨hm.1,Xag (fun x hx=>hs x (by simp[hx])) hm.2⟩
def Xbh (n:Nat)(B:Base)(hB:∀ x∈B,x.1<n):Gl where
  n:=n
  J:=fun h=>n<=h.fl/\n<=h.n/\meets h B=true
  le:=fun _ j=>j.2.1
  abs:=fun h h' j w a=>⟨by rw[a.fl]; exact j.1,Nat.le_trans j.2.1 a.n,Xag (fun x hx=>a.low x.1 (Nat.lt_of_lt_of_le (hB x hx) j.1)) j.2.2⟩
  top:=fun h m j w=>by
    refine⟨?_,by rw[XaE]; exact j.2.1,Xag (fun x _=>Xkb h m x.1) j.2.2⟩
    cases m with
    |zero=>exact j.1
    |succ m=>exact j.2.1
end
end Go.Vm.R
