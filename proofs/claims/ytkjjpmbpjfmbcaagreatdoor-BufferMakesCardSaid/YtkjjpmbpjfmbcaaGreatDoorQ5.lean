/-
  Functions of the program, as the evaluator reads them.
  Calls over a base of known calls; the evaluator by equations.
-/
import Derived.Test.YtkjjpmbpjfmbcaaGreatDoorQ2
import Derived.Test.YtkjjpmbpjfmbcaaGreatDoorQ4
import Derived.Lib.LaidU8
import Derived.Test.YtkjjpmbpjfmbcaaGreatDoorQ1
set_option linter.unusedVariables false
set_option linter.unusedSimpArgs false
namespace Go.Vm.YtkjjpmbpjfmbcaaGreatDoor
open Go.Proofs
noncomputable def all:List (Nat×CFn):=[(6,c6),(14,c14),(15,c15),(16,c16),(17,c17),(22,c22),(23,c23),(24,c24),(27,c27),(28,c28),(29,c29),(30,c30),(35,c35),(38,c38),(39,c39),(40,c40),(41,c41),(43,c43),(44,c44),(46,c46),(60,c60),(61,c61),(68,c68),(69,c69),(70,c70),(71,c71),(72,c72),(73,c73),(76,c76),(77,c77),(78,c78),(79,c79),(86,c86),(87,c87),(89,c89),(100,c100),(101,c101),(102,c102),(103,c103),(104,c104),(105,c105),(106,c106),(107,c107),(108,c108),(114,c114),(115,c115),(125,c125),(126,c126),(127,c127),(128,c128),(129,c129),(130,c130),(131,c131),(132,c132),(133,c133),(134,c134),(135,c135),(136,c136),(137,c137),(138,c138),(139,c139),(140,c140),(141,c141),(142,c142),(143,c143),(144,c144),(145,c145),(146,c146),(147,c147),(148,c148),(149,c149),(150,c150),(158,c158),(159,c159),(160,c160),(161,c161),(162,c162),(163,c163),(164,c164),(165,c165),(166,c166),(167,c167),(168,c168),(169,c169),(172,c172),(173,c173),(174,c174),(175,c175),(176,c176),(180,c180),(181,c181),(182,c182),(183,c183),(184,c184),(185,c185),(186,c186),(187,c187),(188,c188),(189,c189),(190,c190),(191,c191),(192,c192),(193,c193),(194,c194),(195,c195),(196,c196),(197,c197),(198,c198),(200,c200)]
set_option maxRecDepth 10000 in
theorem Xtn:∀ x∈all,fnOf Tryz.prog x.1=some x.2:=List.forall_mem_cons.2 ⟨t6,List.forall_mem_cons.2 ⟨t14,List.forall_mem_cons.2 ⟨t15,List.forall_mem_cons.2 ⟨t16,List.forall_mem_cons.2 ⟨t17,List.forall_mem_cons.2 ⟨t22,List.forall_mem_cons.2 ⟨t23,List.forall_mem_cons.2 ⟨t24,List.forall_mem_cons.2 ⟨t27,List.forall_mem_cons.2 ⟨t28,List.forall_mem_cons.2 ⟨t29,List.forall_mem_cons.2 ⟨t30,List.forall_mem_cons.2 ⟨t35,List.forall_mem_cons.2 ⟨t38,List.forall_mem_cons.2 ⟨t39,List.forall_mem_cons.2 ⟨t40,List.forall_mem_cons.2 ⟨t41,List.forall_mem_cons.2 ⟨t43,List.forall_mem_cons.2 ⟨t44,List.forall_mem_cons.2 ⟨t46,List.forall_mem_cons.2 ⟨t60,List.forall_mem_cons.2 ⟨t61,List.forall_mem_cons.2 ⟨t68,List.forall_mem_cons.2 ⟨t69,List.forall_mem_cons.2 ⟨t70,List.forall_mem_cons.2 ⟨t71,List.forall_mem_cons.2 ⟨t72,List.forall_mem_cons.2 ⟨t73,List.forall_mem_cons.2 ⟨t76,List.forall_mem_cons.2 ⟨t77,List.forall_mem_cons.2 ⟨t78,List.forall_mem_cons.2 ⟨t79,List.forall_mem_cons.2 ⟨t86,List.forall_mem_cons.2 ⟨t87,List.forall_mem_cons.2 ⟨t89,List.forall_mem_cons.2 ⟨t100,List.forall_mem_cons.2 ⟨t101,List.forall_mem_cons.2 ⟨t102,List.forall_mem_cons.2 ⟨t103,List.forall_mem_cons.2 ⟨t104,List.forall_mem_cons.2 ⟨t105,List.forall_mem_cons.2 ⟨t106,List.forall_mem_cons.2 ⟨t107,List.forall_mem_cons.2 ⟨t108,List.forall_mem_cons.2 ⟨t114,List.forall_mem_cons.2 ⟨t115,List.forall_mem_cons.2 ⟨t125,List.forall_mem_cons.2 ⟨t126,List.forall_mem_cons.2 ⟨t127,List.forall_mem_cons.2 ⟨t128,List.forall_mem_cons.2 ⟨t129,List.forall_mem_cons.2 ⟨t130,List.forall_mem_cons.2 ⟨t131,List.forall_mem_cons.2 ⟨t132,List.forall_mem_cons.2 ⟨t133,List.forall_mem_cons.2 ⟨t134,List.forall_mem_cons.2 ⟨t135,List.forall_mem_cons.2 ⟨t136,List.forall_mem_cons.2 ⟨t137,List.forall_mem_cons.2 ⟨t138,List.forall_mem_cons.2 ⟨t139,List.forall_mem_cons.2 ⟨t140,List.forall_mem_cons.2 ⟨t141,List.forall_mem_cons.2 ⟨t142,List.forall_mem_cons.2 ⟨t143,List.forall_mem_cons.2 ⟨t144,List.forall_mem_cons.2 ⟨t145,List.forall_mem_cons.2 ⟨t146,List.forall_mem_cons.2 ⟨t147,List.forall_mem_cons.2 ⟨t148,List.forall_mem_cons.2 ⟨t149,List.forall_mem_cons.2 ⟨t150,List.forall_mem_cons.2 ⟨t158,List.forall_mem_cons.2 ⟨t159,List.forall_mem_cons.2 ⟨t160,List.forall_mem_cons.2 ⟨t161,List.forall_mem_cons.2 ⟨t162,List.forall_mem_cons.2 ⟨t163,List.forall_mem_cons.2 ⟨t164,List.forall_mem_cons.2 ⟨t165,List.forall_mem_cons.2 ⟨t166,List.forall_mem_cons.2 ⟨t167,List.forall_mem_cons.2 ⟨t168,List.forall_mem_cons.2 ⟨t169,List.forall_mem_cons.2 ⟨t172,List.forall_mem_cons.2 ⟨t173,List.forall_mem_cons.2 ⟨t174,List.forall_mem_cons.2 ⟨t175,List.forall_mem_cons.2 ⟨t176,List.forall_mem_cons.2 ⟨t180,List.forall_mem_cons.2 ⟨t181,List.forall_mem_cons.2 ⟨t182,List.forall_mem_cons.2 ⟨t183,List.forall_mem_cons.2 ⟨t184,List.forall_mem_cons.2 ⟨t185,List.forall_mem_cons.2 ⟨t186,List.forall_mem_cons.2 ⟨t187,List.forall_mem_cons.2 ⟨t188,List.forall_mem_cons.2 ⟨t189,List.forall_mem_cons.2 ⟨t190,List.forall_mem_cons.2 ⟨t191,List.forall_mem_cons.2 ⟨t192,List.forall_mem_cons.2 ⟨t193,List.forall_mem_cons.2 ⟨t194,List.forall_mem_cons.2 ⟨t195,List.forall_mem_cons.2 ⟨t196,List.forall_mem_cons.2 ⟨t197,List.forall_mem_cons.2 ⟨t198,List.forall_mem_cons.2 ⟨t200,(fun _ h=>by cases h)⟩⟩⟩⟩⟩⟩⟩⟩⟩⟩⟩⟩⟩⟩⟩⟩⟩⟩⟩⟩⟩⟩⟩⟩⟩⟩⟩⟩⟩⟩⟩⟩⟩⟩⟩⟩⟩⟩⟩⟩⟩⟩⟩⟩⟩⟩⟩⟩⟩⟩⟩⟩⟩⟩⟩⟩⟩⟩⟩⟩⟩⟩⟩⟩⟩⟩⟩⟩⟩⟩⟩⟩⟩⟩⟩⟩⟩⟩⟩⟩⟩⟩⟩⟩⟩⟩⟩⟩⟩⟩⟩⟩⟩⟩⟩⟩⟩⟩⟩⟩⟩⟩⟩⟩⟩⟩⟩⟩⟩
theorem XN:Tab Tryz.prog (Xgh all):=Xrj Xtn
end Go.Vm.YtkjjpmbpjfmbcaaGreatDoor

namespace Go.Vm
noncomputable section
abbrev Op1:=(Nat->List V->H->Res)->T V->H->Res
def opdF (x:Opd):T V->V:=match x with
  | .t i=>fun e=>e.get .bot i
  | .c v=>fun _=>v
theorem Xk1 (x:Opd)(e:T V):opdF x e=opd e x:=by cases x<;>rfl
def fMv (x:Opd):Op1:=fun _ e h=>.ok (opdF x e) h
def XqF (c a b:Opd):Op1:=fun _ e h=>Xad h (opdF a e) (opdF b e) (opdF c e)
def fAlc (z:List V)(el:Nat):Op1:=fun _ _ h=>.ok (.ptr h.n 0) (X5 h z false el (some 0))
def fBox (el:Nat)(x:Opd):Op1:=fun _ e h=>sBox h el (opdF x e)
def fBld (z:List V)(ps:List (Nat×Nat×Opd)):Op1:=fun _ e h=>sBld e h z ps
def fBsl (z:List V)(len s el:Nat)(ps:List (Nat×Nat×Opd)):Op1:=fun _ e h=>sBsl e h z len s el ps
def fLd (x:Opd):Op1:=fun _ e h=>sLd h (opdF x e)
def fLdn (n:Nat)(x:Opd):Op1:=fun _ e h=>sLdn h n (opdF x e)
def fSt (n:Nat)(x v:Opd):Op1:=fun _ e h=>sSt h n (opdF x e) (opdF v e)
def fNck (x:Opd):Op1:=fun _ e h=>sNck h (opdF x e)
def fBin (op:BinOp)(x y:Opd):Op1:=fun _ e h=>give h (bin op (opdF x e) (opdF y e))
def fEq (k:EqK)(neg:Bool)(x y:Opd):Op1:=fun _ e h=>sEq h k neg (opdF x e) (opdF y e)
def fEqs (neg:Bool)(offs:List (Nat×LK))(x y:Opd):Op1:=fun _ e h=>sEqs h neg offs (opdF x e) (opdF y e)
def fUn (op:UnOp)(x:Opd):Op1:=fun _ e h=>give h (un op (opdF x e))
def fCvi (k:IntKind)(x:Opd):Op1:=fun _ e h=>sCvi h k (opdF x e)
def fCvs (x:Opd):Op1:=fun _ e h=>sCvs h (opdF x e)
def fB2s (x:Opd):Op1:=fun _ e h=>sB2s h (opdF x e)
def fS2b (el:Nat)(x:Opd):Op1:=fun _ e h=>sS2b h el (opdF x e)
def fMki (t:Nat)(x:Opd):Op1:=fun _ e h=>.ok (.ifc t (opdF x e)) h
def fMkf (f:Nat)(caps:List Opd):Op1:=fun _ e h=>.ok (.fn f (caps.map (opd e))) h
def fApz (z:List V)(s bytes el:Nat)(x n:Opd):Op1:=fun _ e h=>sApz h z s bytes el (opdF x e) (opdF n e)
def fMks (z:List V)(s bytes el:Nat)(l c:Opd):Op1:=fun _ e h=>sMks h z s bytes el (opdF l e) (opdF c e)
def fSlt (x:Opd)(lo hi:Option Opd):Op1:=fun _ e h=>sSlt h e lo hi (opdF x e)
def fSls (s:Nat)(x:Opd)(lo hi mx:Option Opd):Op1:=fun _ e h=>sSls h e s lo hi mx (opdF x e)
def fSlp (s len:Nat)(x:Opd)(lo hi mx:Option Opd):Op1:=fun _ e h=>sSlp h e s len lo hi mx (opdF x e)
def fFad (off:Nat)(x:Opd):Op1:=fun _ e h=>sFad h off (opdF x e)
def fFld (off n:Nat)(ag:Bool)(x:Opd):Op1:=fun _ e h=>sFld h off n ag (opdF x e)
def fIxs (s:Nat)(x i:Opd):Op1:=fun _ e h=>sIxs h s (opdF x e) (opdF i e)
def fIxp (s len:Nat)(x i:Opd):Op1:=fun _ e h=>sIxp h s len (opdF x e) (opdF i e)
def fIxa (s len:Nat)(ag:Bool)(x i:Opd):Op1:=fun _ e h=>sIxa h s len ag (opdF x e) (opdF i e)
def fIxt (x i:Opd):Op1:=fun _ e h=>sIxt h (opdF x e) (opdF i e)
def fExt (x:Opd)(i:Nat):Op1:=fun _ e h=>sExt h i (opdF x e)
def XqI (f:Nat)(args:List Opd):Op1:=fun call e h=>call f (args.map (opd e)) h
def XqH (f:Opd)(args:List Opd):Op1:=fun call e h=>Xed call h (args.map (opd e)) (opdF f e)
def fApp (s bytes el:Nat)(x y:Opd):Op1:=fun _ e h=>YF h s bytes el (opdF x e) (opdF y e)
def fCpy (s:Nat)(x y:Opd):Op1:=fun _ e h=>ZR h s (opdF x e) (opdF y e)
def fLen (x:Opd):Op1:=fun _ e h=>sLen h (opdF x e)
def fLnt (x:Opd):Op1:=fun _ e h=>sLnt h (opdF x e)
def XqG (n:Nat):Op1:=fun _ _ h=>.ok (.int .i64 n) h
def fCap (x:Opd):Op1:=fun _ e h=>sCap h (opdF x e)
def fMm (mx:Bool)(xs:List Opd):Op1:=fun _ e h=>sMm h mx (xs.map (opd e))
def fRng (x:Opd):Op1:=fun _ e h=>sRng h (opdF x e)
def fNxt (x:Opd):Op1:=fun _ e h=>sNxt h (opdF x e)
def fUsd (x:Opd):Op1:=fun _ e h=>sUsd h (opdF x e)
def fUst (el:Nat)(x n:Opd):Op1:=fun _ e h=>sUst h el (opdF x e) (opdF n e)
def Xn6 (x:Opd):Op1:=fun _ e h=>Xa4 h (opdF x e)
def Xn7 (x:Opd):Op1:=fun _ e h=>Xa5 h (opdF x e)
def fMkz (el:Nat)(x:Opd):Op1:=fun _ e h=>sMkz h el (opdF x e)
def fP2u (x:Opd):Op1:=fun _ e h=>sP2u h (opdF x e)
def fU2p (u s:Nat)(x:Opd):Op1:=fun _ e h=>sU2p h u s (opdF x e)
def fPan (x:Opd):Op1:=fun _ e h=>sPan h (opdF x e)
def XqE:Op1:=fun _ _ _=>.no
def Xki (c:COp):Op1:=match c with
  | .mv x=>fMv x
  | .pick c a b=>XqF c a b
  | .alc z el=>fAlc z el
  | .box el x=>fBox el x
  | .bld z ps=>fBld z ps
  | .bsl z len s el ps=>fBsl z len s el ps
  | .ld x=>fLd x
  | .ldn n x=>fLdn n x
  | .st n x v=>fSt n x v
  | .nck x=>fNck x
  | .bin op x y=>fBin op x y
  | .eq k neg x y=>fEq k neg x y
  | .eqs neg offs x y=>fEqs neg offs x y
  | .un op x=>fUn op x
  | .cvi k x=>fCvi k x
  | .cvs x=>fCvs x
  | .b2s x=>fB2s x
  | .s2b el x=>fS2b el x
  | .mki t x=>fMki t x
  | .mkf f caps=>fMkf f caps
  | .mks z s bytes el l c=>fMks z s bytes el l c
  | .apz z s bytes el x n=>fApz z s bytes el x n
  | .slt x lo hi=>fSlt x lo hi
  | .sls s x lo hi mx=>fSls s x lo hi mx
  | .slp s len x lo hi mx=>fSlp s len x lo hi mx
  | .fad off x=>fFad off x
  | .fld off n ag x=>fFld off n ag x
  | .ixs s x i=>fIxs s x i
  | .ixp s len x i=>fIxp s len x i
  | .ixa s len ag x i=>fIxa s len ag x i
  | .ixt x i=>fIxt x i
  | .ext x i=>fExt x i
  | .calf f args=>XqI f args
  | .calv f args=>XqH f args
  | .app s bytes el x y=>fApp s bytes el x y
  | .cpy s x y=>fCpy s x y
  | .len x=>fLen x
  | .lnt x=>fLnt x
  | .lenc n=>XqG n
  | .cap x=>fCap x
  | .mm mx xs=>fMm mx xs
  | .rng x=>fRng x
  | .nxt x=>fNxt x
  | .usd x=>fUsd x
  | .ust el x n=>fUst el x n
  | .fbits x=>Xn6 x
  | .bitsf x=>Xn7 x
  | .same x=>fMv x
  | .mkz el x=>fMkz el x
  | .p2u x=>fP2u x
  | .u2p u s x=>fU2p u s x
  | .pan x=>fPan x
  | .stop=>XqE
theorem Xip (call:Nat->List V->H->Res)(e:T V)(h:H)(c:COp):Xki c call e h=step call e h c:=by
  cases c<;>simp only[Xki,step,fMv,XqF,fAlc,fBox,fBld,fBsl,fLd,fLdn,fSt,fNck,fBin,fEq,fEqs,fUn,fCvi,fCvs,fB2s,fS2b,fMki,fMkf,fMks,fApz,fSlt,fSls,fSlp,fFad,fFld,fIxs,fIxp,fIxa,fIxt,fExt,XqI,XqH,fApp,fCpy,fLen,fLnt,XqG,fCap,fMm,fRng,fNxt,fUsd,fUst,Xn6,Xn7,fMkz,fP2u,fU2p,fPan,XqE,Xk1]
def putF (nt:Nat)(e:T V)(d:Option Nat)(v:V):T V:=match d with
  |none=>e
  |some d=>match Nat.blt d nt with
    |true=>e.set .bot d v
    |false=>e
theorem Xkw (nt : Nat) (e : T V) (d : Option Nat) (v : V) : putF nt e d v = put nt e d v := by
  unfold putF put
  cases d with
  |none=>rfl
  |some d =>
    simp only
    by_cases h:d<nt
    . rw[if_pos h]
      have:Nat.blt d nt=true:=by simpa using h
      rw[this]
    . rw[if_neg h]
      have:Nat.blt d nt=false:=by
        cases hb:Nat.blt d nt with
        |false=>rfl
        |true=>exact absurd (by simpa using hb) h
      rw[this]
def Xkf (nt:Nat)(d:Option Nat)(e:T V)(next:T V->H->Res):Res->Res:=fun r=>match r with
  | .ok v h'=>next (putF nt e d v) h'
  | .pan v h'=>.pan v h'
  | .no=>.no
def Xj3 (b:Bool)(run skip:Res)(x:V):Res:=match x with
  | .bool b'=>match b' == b with
    |true=>run
    |false=>skip
  | .tup _=>skip
  |_=>.no
def Xhp (x:V):Bool:=match x with
  | .bool _=>true
  | .tup _=>true
  |_=>false
def XjY (b:Bool)(x:V):Bool:=match x with
  | .bool b'=>b' == b
  |_=>false
theorem XsG (b:Bool)(run skip:Res)(x:V):Xj3 b run skip x=if Xhp x=false then .no else if XjY b x=true then run else skip:=by
  cases x with
  |bool b'=>cases b'<;>cases b<;>rfl
  |_=>rfl
theorem XlC (e:T V)(t:Nat)(b:Bool)(run skip:Res):Xj3 b run skip (e.get .bot t)=if known e (some (t,b))=false then .no else if want e (some (t,b))=true then run else skip:=by
  have e1:known e (some (t,b))=Xhp (e.get .bot t):=rfl
  have e2:want e (some (t,b))=XjY b (e.get .bot t):=rfl
  rw[e1,e2];exact XsG b run skip _
def oneF (call:Nat->List V->H->Res)(nt:Nat)(i:CI)(next:T V->H->Res)(e:T V)(h:H):Res:=match i.g with
  |none=>Xkf nt i.dst e next (Xki i.op call e h)
  |some (t,b)=>Xj3 b (Xkf nt i.dst e next (Xki i.op call e h)) (next (putF nt e i.dst (.tup [])) h) (e.get .bot t)
def Xex (call:Nat->List V->H->Res)(nt:Nat)(l:List CI):T V->H->K->Res :=
  List.rec (motive:=fun _=>T V->H->K->Res) (fun e h k=>k e h) (fun i _ ih e h k=>oneF call nt i (fun e h=>ih e h k) e h) l
theorem Xpj (call:Nat->List V->H->Res)(nt:Nat)(i:CI)(next:T V->H->Res)(e:T V)(h:H):oneF call nt i next e h =
    if known e i.g=false then .no else
    if want e i.g then match step call e h i.op with
      | .ok v h'=>next (put nt e i.dst v) h'
      | .pan v h'=>.pan v h'
      | .no=>.no
    else next (put nt e i.dst (.tup [])) h:=by
  have ht:∀ r:Res,Xkf nt i.dst e next r=match r with
      | .ok v h'=>next (put nt e i.dst v) h'
      | .pan v h'=>.pan v h'
      | .no=>.no:=by
    intro r;unfold Xkf
    cases r<;>simp only[Xkw]
  unfold oneF
  cases hg:i.g with
  |none=>simp only[known,want,ht,Xip]; rfl
  |some tb =>
    obtain⟨t,b⟩:=tb;simp only[XlC,ht,Xip,Xkw]
theorem XeV (call:Nat->List V->H->Res)(nt:Nat):∀ (l:List CI) (e:T V) (h:H) (k:K),Xex call nt l e h k=YW call nt l e h k
  |[],e,h,k=>rfl
  |i::l,e,h,k=>by
    have:Xex call nt (i::l) e h k=oneF call nt i (fun e h=>Xex call nt l e h k) e h:=rfl
    rw[this,Xpj];simp only[YW];have ih:=fun e h=>XeV call nt l e h k
    simp only[ih];rfl
def Xg1 (body:T V->H->K->Res)(n:Nat):T V->H->Res :=
  Nat.rec (motive:=fun _=>T V->H->Res) (fun _ _=>.no) (fun _ ih e h=>body e h ih) n
theorem XiD (body:T V->H->K->Res):∀ (n:Nat) (e:T V) (h:H),Xg1 body n e h=ZT body n e h
  |0,e,h=>rfl
  |n+1,e,h=>by
    have:Xg1 body (n+1) e h=body e h (Xg1 body n):=rfl
    rw[this];simp only[ZT]
    have:Xg1 body n=fun e h=>ZT body n e h:=by funext e h; exact XiD body n e h
    rw[this]
def XnN (c:V)(a b:Res):Res:=match c with
  | .bool true=>a
  | .bool false=>b
  |_=>.no
def Xvt (id:Nat)(x:List (Nat×K))(e:T V)(h:H):Res:=match look id x with
  |some k=>k e h
  |none=>.no
def Xb3 (call:Nat->List V->H->Res)(fuel nt:Nat)(c:CC):T V->H->K->List (Nat×K)->K->Res :=
  CC.rec (motive:=fun _=>T V->H->K->List (Nat×K)->K->Res)
    (fun e h _ _ k=>k e h)
    (fun l e h _ _ k=>Xex call nt l e h k)
    (fun m al l e h _ _ k=>Yb call nt al l m e h k)
    (fun _ _ a b e h r x k=>a e h r x (fun e h=>b e h r x k))
    (fun c _ _ a b e h r x k=>XnN (opdF c e) (a e h r x k) (b e h r x k))
    (fun id _ b e h r x k=>b e h r ((id,k)::x) k)
    (fun _ b e h r x _=>Xg1 (fun e h k'=>b e h r x k') fuel e h)
    (fun id e h _ x _=>Xvt id x e h)
    (fun e h r _ _=>r e h)
    (fun _ _ _ _ _=>.no) c
theorem Xn8 (call:Nat->List V->H->Res)(fuel nt:Nat):∀ (c:CC),Xb3 call fuel nt c=exec call fuel nt c:=by
  intro c
  induction c with
  |skip=>rfl
  |ops l=>funext e h r x k; exact XeV call nt l e h k
  |draw m al l=>rfl
  |seq a b iha ihb =>
    funext e h r x k
    have:Xb3 call fuel nt (.seq a b) e h r x k=Xb3 call fuel nt a e h r x (fun e h=>Xb3 call fuel nt b e h r x k):=rfl
    rw[this,iha,ihb]; rfl
  |cond c a b iha ihb =>
    funext e h r x k
    have:Xb3 call fuel nt (.cond c a b) e h r x k=XnN (opdF c e) (Xb3 call fuel nt a e h r x k) (Xb3 call fuel nt b e h r x k):=rfl
    rw[this,iha,ihb,Xk1];simp only[exec]
    generalize opd e c=u
    unfold XnN
    cases u with
    |bool t=>cases t<;>rfl
    |_=>rfl
  |block id b ih =>
    funext e h r x k
    have:Xb3 call fuel nt (.block id b) e h r x k=Xb3 call fuel nt b e h r ((id,k)::x) k:=rfl
    rw[this,ih]; rfl
  |loop b ih =>
    funext e h r x k
    have:Xb3 call fuel nt (.loop b) e h r x k=Xg1 (fun e h k'=>Xb3 call fuel nt b e h r x k') fuel e h:=rfl
    rw[this,ih,XiD];simp only[exec]
  |exit id=>rfl
  |ret=>rfl
  |bad=>rfl
def XdT (ih:Nat->List V->H->Res)(n:Nat)(args:List V)(h:H)(c:Option CFn):Res:=match c with
  |none=>.no
  |some c=>match Nat.ble args.length c.nt with
    |true=>Xb3 ih n c.nt c.body (ZU args 0 .lf) h (fun e h=>results c.res e h) [] (fun e h=>results c.res e h)
    |false=>.no
end
end Go.Vm
namespace Go.Vm
noncomputable section
abbrev Base:=List (Nat×List V)
def Xam (el:Nat->Nat):Base->T Obj
  |[]=>.lf
  | (g,l)::r=>(Xam el r).set .dead g (.c l.length (Xp .lf 0 l) false (el g) (some 0))
def ZA (N:Nat)(B:Base)(el:Nat->Nat):H:=⟨N,Xam el B,N⟩
def rhoB:Base->Rho
  |[]=>fun _=>none
  | (g,l)::r=>fun o=>if o=g then some ⟨g,0,l.length⟩ else rhoB r o
theorem Y2 {el:Nat->Nat}:∀ {B:Base}{o:Nat}{p:Pl},rhoB B o=some p->∃ l,(o,l)∈B/\p=⟨o,0,l.length⟩/\(Xam el B).get .dead o=.c l.length (Xp .lf 0 l) false (el o) (some 0)
  |[],o,p,h=>by cases h
  | (g,l)::r,o,p,h=>by
    simp only[rhoB] at h;simp only[Xam,T.get_set];split at h
    . rename_i e
      subst e
      exact⟨l,List.mem_cons_self,(Option.some.inj h).symm,by simp⟩
    . rename_i e
      obtain⟨l',hm,hp,hg⟩:=Y2 (el:=el) h
      exact⟨l',List.mem_cons_of_mem _ hm,hp,by rw[if_neg (fun e'=>e e'.symm)]; exact hg⟩
theorem XaH {el:Nat->Nat}:∀ {B:Base}{o:Nat},rhoB B o=none->(Xam el B).get .dead o=.dead
  |[],o,_=>T.get_lf _ _
  | (g,l)::r,o,h=>by
    simp only[rhoB] at h;simp only[Xam,T.get_set];split at h
    . cases h
    . rename_i e
      rw[if_neg (fun e'=>e e'.symm)]
      exact XaH h
structure BaseOk (N:Nat)(B:Base):Prop where
  lt:∀ x∈B,x.1<N
  wf:∀ x∈B,wfs 0 x.2
theorem Xct {N:Nat}{B:Base} (hB:BaseOk N B)(el:Nat->Nat):wfh (ZA N B el):=by
  refine⟨Nat.le_refl _,fun o=>?_⟩
  show wfo N ((Xam el B).get .dead o)
  cases h:rhoB B o with
  |none=>rw[XaH h]; trivial
  |some p =>
    obtain⟨l,hm,_,hg⟩:=Y2 (el:=el) h;rw[hg];intro i;exact YV (fun i=>by rw[T.get_lf]; trivial) (YH (Nat.zero_le _) _ (hB.wf _ hm)) 0 i
theorem Xd2 {N:Nat} (B:Base)(el:Nat->Nat):GRel N (rhoB B) (ZA N B el):=by
  refine⟨Nat.le_refl _,fun g _=>?_⟩
  cases h:rhoB B g with
  |none=>exact .inr ⟨rfl,XaH h⟩
  |some p =>
    obtain⟨l,_,hp,_⟩:=Y2 (el:=el) h;exact .inl ⟨l.length,by rw[hp]⟩
def Zn (B:Base)(el:Nat->Nat)(W:World):Prop :=
  ∀ x∈B,∃ cs fr,W.heap[x.1]? = some (.cells cs (el x.1) fr)/\fr.2=0/\VRels (fun _=>none) ⟨0,.lf,0⟩ x.2 cs.toList
theorem XjP (W:World):Zn [] (fun _=>0) W:=fun x hx=>by cases hx
mutual
theorem Ya {ρ:Rho}{h:H} (ρ':Rho)(h':H):∀ {v:V}{x:Value},wf 0 v->VRel ρ h v x->VRel ρ' h' v x
  |_,_,_,.int k n=>.int k n
  |_,_,_,.bool b=>.bool b
  |_,_,_,.str s=>.str s
  |_,_,_,.flt x=>.flt x
  |_,_,w,.ptr _=>absurd w (Nat.not_lt_zero _)
  |_,_,w,.ptrD _ _ _=>absurd w (Nat.not_lt_zero _)
  |_,_,_,.nil=>.nil
  |_,_,w,.sl _ _ _ _ _ _=>absurd w (Nat.not_lt_zero _)
  |_,_,w,.slD _ _ _=>absurd w (Nat.not_lt_zero _)
  |_,_,_,.nils=>.nils
  |_,_,_,.nilm=>.nilm
  |_,_,w,.fn r=>.fn (Ze ρ' h' w r)
  |_,_,_,.nilf=>.nilf
  |_,_,w,.ifc r=>.ifc (Ya ρ' h' w r)
  |_,_,_,.nili=>.nili
  |_,_,_,.nan e=>.nan e
  |_,_,_,.nani e=>.nani e
  |_,_,w,.agg r=>.agg (Ze ρ' h' w r)
  |_,_,w,.tup r=>.tup (Ze ρ' h' w r)
  |_,_,_,.bot x=>.bot x
theorem Ze {ρ:Rho}{h:H} (ρ':Rho)(h':H):∀ {l:List V}{xs:List Value},wfs 0 l->VRels ρ h l xs->VRels ρ' h' l xs
  |_,_,_,.nil=>.nil
  |_,_,w,.cons a b=>.cons (Ya ρ' h' w.1 a) (Ze ρ' h' w.2 b)
end
theorem XaU {N:Nat}{B:Base} (hB:BaseOk N B) {el:Nat->Nat}{W:World} (hW:Zn B el W):HRel (rhoB B) (ZA N B el) W:=by
  refine⟨fun o p h=>?_,fun o p h=>?_,fun o o' p p' h h' e=>?_⟩
  . obtain⟨l,hm,_,_⟩:=Y2 (el:=el) h
    exact hB.lt _ hm
  . obtain⟨l,hm,rfl,hg⟩:=Y2 (el:=el) h
    have hg':(ZA N B el).get o=.c l.length (Xp .lf 0 l) false (el o) (some 0):=hg
    rw[hg'];obtain⟨cs,fr,h1,h2,h3⟩:=hW _ hm;have hl:=h3.length
    refine⟨cs,fr,h1,by simpa using hl,Nat.le_of_eq (Nat.zero_add _),fun _=>⟨rfl,rfl⟩,fun i hi=>?_,?_⟩
    . obtain⟨v,hv⟩:∃ v,l[i]? = some v:=⟨_,List.getElem?_eq_getElem hi⟩
      obtain⟨x,hx,hvx⟩:=h3.get hv
      have hw:wf 0 v:=(XX 0 l).1 (hB.wf _ hm) v (List.mem_of_getElem? hv)
      refine⟨x,by simpa using hx,?_⟩
      rw[XK];rw[if_pos ⟨Nat.zero_le _,by omega⟩,Nat.sub_zero,List.getD_eq_getElem?_getD,hv]
      exact Ya _ _ hw hvx
    . show fr.2<=0+0
      omega
  . obtain⟨l,_,rfl,_⟩:=Y2 (el:=el) h
    obtain⟨l',_,rfl,_⟩:=Y2 (el:=el) h';exact .inl e
end
end Go.Vm
namespace Go.Vm
noncomputable section
abbrev Start:=CFn->T V
def Start.Ok (E:Start):Prop:=∀ c i,(E c).get .bot i=.bot
def X4:Start:=fun _=>.lf
theorem YI:X4.Ok:=fun _ i=>T.get_lf _ i
def XbY (E:Start)(ih:Nat->List V->H->Res)(n:Nat)(c:Option CFn)(args:List V)(h:H):Res:=match c with
  |none=>.no
  |some c=>if args.length<=c.nt then
      exec ih n c.nt c.body (ZU args 0 (E c)) h (fun e h=>results c.res e h) [] (fun e h=>results c.res e h)
    else .no
def orElse (a b:Res):Res:=match a with
  | .no=>b
  |r=>r
theorem XaK (b:Res):orElse .no b=b:=rfl
def XF (E:Start)(O:Nat->List V->H->Res)(tab:Nat->Option CFn):Nat->Nat->List V->H->Res
  |0,f,args,h=>O f args h
  |n+1,f,args,h=>orElse (O f args h) (XbY E (XF E O tab n) n (tab f) args h)
variable {P:Program}
theorem XjN {E:Start} (hE:E.Ok) {G:Nat}{cl:Nat->List V->H->Res} (hcl:Xm G cl)(n:Nat) {c:Option CFn} (hc:∀ x,c=some x->ccWf G x.body)
    {args:List V}{h:H} (hG:G<=h.n) (w:wfh h) (ha:wfs h.n args):Good h (XbY E cl n c args h):=by
  unfold XbY;split
  . trivial
  . rename_i c
    split
    . have hk:Xc6 h (fun e h=>results c.res e h):=fun e1 h1 _ w1 we1=>Xdi w1 we1 _
      exact Xg9 hcl n c.nt c.body _ h _ _ _ (hc c rfl) hG w (XaC args 0 _ ha fun i=>by rw[hE]; trivial) hk (fun p hp=>by cases hp) hk
    . trivial
theorem Wl {E:Start} (hE:E.Ok) {O:Nat->List V->H->Res}{tab:Nat->Option CFn} (gO:Xm P.globals.size O)(ht:Tab P tab):∀ n,Xm P.globals.size (XF E O tab n)
  |0=>gO
  |n+1=>fun f args h hG w ha=>by
    show Good h (orElse _ _)
    have hb:=XjN hE (Wl hE gO ht n) n (c:=tab f) (fun c hc=>by
      obtain⟨fn,b,_,_,_,_,_,h7⟩:=Z9 (ht f c hc);rw[h7]; exact WT P b) hG w ha
    have ho:=gO f args h hG w ha
    generalize O f args h=a at ho
    cases a with
    |no=>exact hb
    |_=>exact ho
theorem Xjb {E : Start} (hE : E.Ok) {cl : Nat → List V → H → Res} (hgood : Xm P.globals.size cl) (hcall : XM P cl) (n : Nat) {tab : Nat → Option CFn} (ht : Tab P tab)
    {f:Nat}{args:List V}{h:H}{ρ:Rho}{w:World}{vs:List Value} (r:HRel ρ h w) (wh:wfh h) (g:GRel P.globals.size ρ h) (hwa:wfs h.n args) (hvs:VRels ρ h args vs)
    (hno:XbY E cl n (tab f) args h ≠ .no):Own P f/\Calls P f vs.toArray w (Ends P ρ h w (XbY E cl n (tab f) args h)):=by
  have hd:=XfB hgood hcall
  generalize hR:XbY E cl n (tab f) args h=R at hno ⊢
  simp only[XbY] at hR;split at hR
  . exact absurd hR.symm hno
  . rename_i c hc
    obtain⟨fn,b,h1,h2,h3,h4,h5,h6⟩:=Z9 (ht f c hc);split at hR
    . rename_i hlen
      refine⟨⟨fn,h1,h3,by rw[h2]; rfl⟩,calls_of_wp h1 h2 ?_⟩
      have hvl:=hvs.length
      have hsz:(vs.toArray++Array.replicate (fn.ntmps-vs.toArray.size) undef).size=c.nt:=by
        simp; omega
      have her:ERel ρ h (ZU args 0 (E c)) (vs.toArray++Array.replicate (fn.ntmps-vs.toArray.size) undef):=by
        refine XcO args vs 0 (E c) _ hvs (fun j hj=>by omega) (fun j _=>hE _ _) ?_
        intro j v hv
        have hj:j<vs.length:=(List.getElem?_eq_some_iff.1 hv).1
        rw[Nat.zero_add,Array.getElem?_append_left (by simpa using hj)]
        simpa using hv
      have hcx:Cx P ρ h w (ZU args 0 (E c)) { tmps:=vs.toArray++Array.replicate (fn.ntmps-vs.toArray.size) undef,defers:=[] } :=
        ⟨r,wh,XaC args 0 _ hwa (fun i=>by rw[hE]; trivial),her,g⟩
      rw[h6] at hR;have hwp:=XfA (P:=P) (nt:=c.nt) (ds:=[]) (fuel:=n) hgood hcall hd b ρ h w (ZU args 0 (E c)) _ R _ [] _ hno ⟨hcx,.refl r,hsz,rfl⟩ hR;refine wp_mono hwp ?_
      intro ex a1 w1 hq
      cases ex with
      |normal =>
        obtain⟨ρ1,h1',e1,s1,hk⟩:=hq;obtain⟨v,x,hRe,hrun,hv⟩:=Xau s1.cx h4 hk hno
        refine⟨s1.df,x,hrun,?_⟩
        rw[hRe]
        exact⟨ρ1,hv,s1.post⟩
      |ret =>
        obtain⟨ρ1,h1',e1,s1,hk⟩:=hq;obtain⟨v,x,hRe,hrun,hv⟩:=Xau s1.cx h4 hk hno
        refine⟨s1.df,x,hrun,?_⟩
        rw[hRe]
        exact⟨ρ1,hv,s1.post⟩
      |exit id =>
        obtain⟨ρ1,h1',e1,k',s1,hl,hk⟩:=hq;cases hl
      |panic ch =>
        obtain⟨v,y,ρ1,h1',hRe,hch,hv,hpo,hdf⟩:=hq
        refine⟨hdf,?_⟩
        rw[hRe]
        exact⟨y,ρ1,hch,hv,hpo⟩
      |goto l=>exact hq.elim
      |outgrown=>exact hq.elim
    . exact absurd hR.symm hno
theorem soundO {E:Start} (hE:E.Ok) {O:Nat->List V->H->Res}{tab:Nat->Option CFn} (gO:Xm P.globals.size O)(hO:XM P O)(ht:Tab P tab):∀ n,XM P (XF E O tab n)
  |0=>hO
  |n+1=>by
    intro f args h ρ w vs r wh g hwa hvs hno;have hq:=hO f args h ρ w vs r wh g hwa hvs;have hb:=Xjb hE (Wl hE gO ht n) (soundO hE gO hO ht n) n ht (f:=f) r wh g hwa hvs
    have he:XF E O tab (n+1) f args h=orElse (O f args h) (XbY E (XF E O tab n) n (tab f) args h):=rfl
    rw[he] at hno ⊢
    generalize O f args h=a at hq hno ⊢
    cases a with
    |no=>exact hb hno
    |_=>exact hq (by intro h; cases h)
structure Same (W W':World):Prop where
  os:W'.os=W.os
  tape:W'.tape=W.tape
  output:W'.output=W.output
  size:W.heap.size<=W'.heap.size
  heap:∀ B,B<W.heap.size->W'.heap[B]? = W.heap[B]?
abbrev Xgx:Rho:=fun _=>none
abbrev noH:H:=⟨0,.lf,0⟩
def Xks:V->V->Bool
  | .int k a,.int k' b=>k == k'&&a == b
  |_,_=>false
def Xdb:List V->List V->Bool
  |[],[]=>true
  |a::r,b::t=>Xks a b&&Xdb r t
  |_,_=>false
theorem Xec:∀ {a b:List V},Xdb a b=true->a=b
  |[],[],_=>rfl
  |[],_::_,h=>by cases h
  |_::_,[],h=>by cases h
  |a::r,b::t,h=>by
    simp only[Xdb,Bool.and_eq_true] at h;obtain⟨h1,h2⟩:=h
    have:=Xec h2
    subst this;unfold Xks at h1;split at h1
    . simp only[Bool.and_eq_true,beq_iff_eq] at h1
      obtain⟨rfl,rfl⟩:=h1;rfl
    . cases h1
def meets (h:H):Base->Bool
  |[]=>true
  | (g,l)::r=>(match h.get g with
    | .c n t sp _ (some 0)=>Nat.beq n l.length&&!sp&&Xdb (Xx t 0 n) l
    |_=>false)&&meets h r
structure PlainCall (P:Program)(B:Base)(f:Nat)(args:List V)(v:V):Prop where
  wfa:wfs 0 args
  wfr:wf 0 v
  base:BaseOk P.globals.size B
  runs:∀ (W:World) (vs:List Value) (el:Nat->Nat),Zn B el W->VRels Xgx noH args vs->Own P f/\Calls P f vs.toArray W fun e W'=>∃ x,e=.returned x/\VRel Xgx noH v x/\Same W W'
def plainO (B:Base)(S:Nat->List V->Option V):Nat->List V->H->Res:=fun f args h=>match S f args with
  |some v=>match meets h B with
    |true=>.ok v h
    |false=>.no
  |none=>.no
theorem Same.post {W W':World} (s:Same W W') {ρ:Rho}{h:H} (r:HRel ρ h W):Post ρ h W ρ h W':=by
  refine⟨.refl h,⟨r.lt,fun o p e=>?_,r.inj⟩,⟨s.os,s.tape,s.output,s.size,fun B hB _=>s.heap B hB,fun _ _=>.inl rfl,fun o p ho e=>absurd (r.lt o p e) (by omega)⟩⟩
  have ho:=r.obj o p e;have hlt:=ho.size;have hb:=s.heap p.B hlt
  revert ho
  cases h.get o with
  |dead=>exact id
  |m es=>exact id
  |c n t sp el fz=>rintro⟨cs,fr,h1,h2⟩; exact⟨cs,fr,hb.trans h1,h2⟩
  |si n x pos=>rintro⟨t,h1,h2⟩; exact⟨t,hb.trans h1,h2⟩
theorem Xi4 {B:Base}{S:Nat->List V->Option V} (hS:∀ f args v,S f args=some v->PlainCall P B f args v):Xm P.globals.size (plainO B S):=by
  intro f args h hG w ha;unfold plainO;split
  . rename_i v e
    split
    . exact Xh w (YE (Nat.zero_le _) _ (hS f args v e).wfr)
    . trivial
  . trivial
theorem XiC {ρ : Rho} {h : H} {W : World} (r : HRel ρ h W) (g : GRel P.globals.size ρ h) : ∀ {B : Base}, BaseOk P.globals.size B → meets h B = true → ∃ el, Zn B el W
  |[],_,_=>⟨fun _=>0,fun x hx=>by cases hx⟩
  | (b, l) :: B, hB, hm => by
    simp only[meets,Bool.and_eq_true] at hm;obtain⟨hm1,hm2⟩:=hm;obtain⟨el,hel⟩:=XiC r g (B:=B) ⟨fun x hx=>hB.lt x (List.mem_cons_of_mem _ hx),fun x hx=>hB.wf x (List.mem_cons_of_mem _ hx)⟩ hm2
    split at hm1
    . rename_i n t sp el1 hget
      simp only[Bool.and_eq_true,Bool.not_eq_true'] at hm1;obtain⟨⟨h1,h2⟩,h3⟩:=hm1
      have hn:n=l.length:=Nat.eq_of_beq_eq_true h1
      have hl:=Xec h3;subst h2;have hlt:=hB.lt _ List.mem_cons_self
      rcases g.2 b hlt with ⟨N,hN⟩ | ⟨_,hd⟩
      · have ho := r.obj _ _ hN
        rw[hget] at ho;obtain⟨cs,fr,hw,hs,hle,hsp,hcell,hfr⟩:=ho;obtain⟨_,hnN⟩:=hsp rfl
        refine⟨fun x=>if x=b then el1 else el x,fun x hx=>?_⟩
        by_cases e:x.1=b
        . have:∃ cs fr,W.heap[b]? = some (.cells cs el1 fr)/\fr.2=0/\VRels (fun _=>none) ⟨0,.lf,0⟩ x.2 cs.toList:=by
            rcases List.mem_cons.1 hx with e1 | e1
            . subst e1
              refine⟨cs,fr,hw,?_,?_⟩
              . have:fr.2<=0+0:=hfr
                omega
              . have hs':cs.size=N:=hs
                have hnN':n=N:=hnN
                refine VRels.of_get (by simp; omega) fun i v x hv hx=>?_
                have hi:i<n:=by
                  have:i<l.length:=(List.getElem?_eq_some_iff.1 hv).1
                  omega
                obtain⟨y,hy,hvy⟩:=hcell i hi
                have hx':cs[i]? = some x:=by simpa using hx
                rw[Nat.zero_add,hx'] at hy
                obtain rfl:=Option.some.inj hy
                have hv':=hv;rw[← hl,Yd _ _ _ _ hi,Nat.zero_add] at hv'
                obtain rfl:=Option.some.inj hv'
                exact Ya _ _ ((XX 0 l).1 (hB.wf _ List.mem_cons_self) _ (List.mem_of_getElem? hv)) hvy
            . obtain⟨cs',fr',a1,a2,a3⟩:=hel x e1
              rw[e,hw] at a1
              have he:el1=el b:=by injection a1 with a1; injection a1
              rw[he]
              exact⟨cs',fr',by rw[hw,a1],a2,a3⟩
          simpa [e] using this
        . rcases List.mem_cons.1 hx with e1 | e1
          . subst e1; exact absurd rfl e
          . simpa [e] using hel x e1
      . rw[hget] at hd; cases hd
    . cases hm1
theorem Xjr {B:Base}{S:Nat->List V->Option V} (hS:∀ f args v,S f args=some v->PlainCall P B f args v):XM P (plainO B S):=by
  intro f args h ρ w vs r wh g hwa hvs hno;unfold plainO at hno ⊢;split at hno
  . rename_i v e
    have hp:=hS f args v e;split at hno
    . rename_i hm
      obtain⟨el,hel⟩:=XiC r g hp.base hm;obtain⟨ho,hc⟩:=hp.runs w vs el hel (Ze _ _ hp.wfa hvs)
      refine⟨ho,hc.mono fun e W' he=>?_⟩
      obtain⟨x,rfl,hx,hs⟩:=he
      exact⟨ρ,Ya _ _ hp.wfr hx,hs.post r⟩
    . exact absurd rfl hno
  . exact absurd rfl hno
def noO:Nat->List V->H->Res:=fun _ _ _=>.no
theorem XmY {G:Nat}:Xm G noO:=fun _ _ _ _ _ _=>trivial
theorem Xpl:XM P noO:=fun _ _ _ _ _ _ _ _ _ _ _ h=>absurd rfl h
def XkN (O O':Nat->List V->H->Res):Nat->List V->H->Res:=fun f args h=>orElse (O f args h) (O' f args h)
theorem XjM {G:Nat}{O O':Nat->List V->H->Res} (h1:Xm G O)(h2:Xm G O'):Xm G (XkN O O'):=by
  intro f args h hG w ha;have a:=h1 f args h hG w ha;have b:=h2 f args h hG w ha
  show Good h (orElse _ _)
  generalize O f args h=x at a
  cases x with
  |no=>exact b
  |_=>exact a
theorem XlK {O O':Nat->List V->H->Res} (h1:XM P O)(h2:XM P O'):XM P (XkN O O'):=by
  intro f args h ρ w vs r wh g hwa hvs hno;have a:=h1 f args h ρ w vs r wh g hwa hvs;have b:=h2 f args h ρ w vs r wh g hwa hvs
  have he:XkN O O' f args h=orElse (O f args h) (O' f args h):=rfl
  rw[he] at hno ⊢
  generalize O f args h=x at a hno ⊢
  cases x with
  |no=>exact b hno
  |_=>exact a (by intro h; cases h)
theorem Xbd {E:Start} (hE:E.Ok) {B:Base}{O:Nat->List V->H->Res}{tab:Nat->Option CFn} (gO:Xm P.globals.size O)(hO:XM P O)(ht:Tab P tab) {n f:Nat}{args:List V}{v:V}
    (hB:BaseOk P.globals.size B) (hr:∀ el,∃ h',XF E O tab n f args (ZA P.globals.size B el)=.ok v h') (ha:wfs 0 args) (hv:wf 0 v):PlainCall P B f args v:=by
  refine⟨ha,hv,hB,?_⟩
  intro W vs el hW hvs;obtain⟨h',hr⟩:=hr el;have hrel:=XaU hB hW;obtain⟨ho,hc⟩:=soundO hE gO hO ht n f args _ _ W vs hrel (Xct hB el) (Xd2 B el) (YH (Nat.zero_le _) _ ha) (Ze _ _ ha hvs) (by rw[hr]; intro h; cases h)
  rw[hr] at hc
  refine⟨ho,hc.mono fun e W' he=>?_⟩
  cases e with
  |returned x =>
    obtain⟨ρ',hv',hp⟩:=he
    refine⟨x,rfl,Ya _ _ hv hv',hp.fr.os,hp.fr.tape,hp.fr.output,hp.fr.size,fun B' hB'=>hp.fr.old B' hB' fun o p h _=>?_⟩
    exact hrel.lt o p h
  |panicked ch=>exact he.elim
  |outgrown=>exact he.elim
theorem Same.kept {W W':World} (s:Same W W'):Kept W W':=⟨s.os,s.output,s.heap⟩
theorem PlainCall.law {B:Base}{f:Nat}{args:List V} (h:PlainCall P B f args (.bool true)) {W:World}{el:Nat->Nat} (hW:Zn B el W) {vs:List Value} (hvs:VRels Xgx noH args vs) :
    Calls P f vs.toArray W fun e W'=>e=.returned (.bool true)/\Kept W W':=by
  refine (h.runs W vs el hW hvs).2.mono fun e W' he=>?_
  obtain⟨x,rfl,hx,hs⟩:=he;rw[Yr hx]
  exact⟨rfl,hs.kept⟩
def XhR (O:Nat->List V->H->Res)(tab:Nat->Option CFn)(n:Nat):Nat->List V->H->Res :=
  Nat.rec (motive:=fun _=>Nat->List V->H->Res) O (fun n ih f args h=>orElse (O f args h) (XdT ih n args h (tab f))) n
theorem XgE (O : Nat → List V → H → Res) (tab : Nat → Option CFn) : ∀ n, XhR O tab n = XF X4 O tab n
  |0=>rfl
  | n + 1 => by
    funext f args h
    have:XhR O tab (n+1) f args h=orElse (O f args h) (XdT (XhR O tab n) n args h (tab f)):=rfl
    rw[this,XgE O tab n]
    show _=orElse _ _
    congr 1
    simp only[XdT,XbY]
    cases tab f with
    |none=>rfl
    |some c =>
      simp only[Xn8]
      by_cases hl:args.length<=c.nt
      . have:Nat.ble args.length c.nt=true:=by simpa using hl
        rw[this,if_pos hl]; rfl
      . have:Nat.ble args.length c.nt=false:=by
          cases hb:Nat.ble args.length c.nt with
          |false=>rfl
          |true=>exact absurd (by simpa using hb) hl
        rw[this,if_neg hl]
def XmB (v:V->Bool):Res->Bool
  | .ok x _=>v x
  |_=>false
def Xj2:V->Bool
  | .bool true=>true
  |_=>false
theorem Xjn {r:Res} (h:XmB Xj2 r=true):∃ h',r=.ok (.bool true) h':=by
  unfold XmB at h;split at h
  . unfold Xj2 at h
    split at h
    . exact⟨_,rfl⟩
    . cases h
  . cases h
end
end Go.Vm
namespace Go.Vm
noncomputable section
variable {call:Nat->List V->H->Res}{fuel nt:Nat}{e:T V}{h:H}{r k:K}{x:List (Nat×K)}
def kc (call:Nat->List V->H->Res)(fuel nt:Nat)(b:CC)(r:K)(x:List (Nat×K))(k:K):K:=fun e h=>exec call fuel nt b e h r x k
def XkL (v:V)(a b:K)(e:T V)(h:H):Res:=match v with
  | .bool true=>a e h
  | .bool false=>b e h
  |_=>.no
theorem XlS {c:Opd}{a b:CC}:exec call fuel nt (.cond c a b) e h r x k=XkL (opd e c) (kc call fuel nt a r x k) (kc call fuel nt b r x k) e h:=by
  simp only[exec,XkL,kc]; rfl
def lb (call:Nat->List V->H->Res)(fuel nt:Nat)(b:CC)(r:K)(x:List (Nat×K)):T V->H->K->Res:=fun e h k'=>exec call fuel nt b e h r x k'
theorem XqO {b:CC}:exec call fuel nt (.loop b) e h r x k=ZT (lb call fuel nt b r x) fuel e h:=rfl
def kops (call:Nat->List V->H->Res)(nt:Nat)(l:List CI)(k:K):K:=fun e h=>YW call nt l e h k
def pass (nt:Nat)(d:Option Nat)(e:T V)(next:K)(r:Res):Res:=match r with
  | .ok v h'=>next (put nt e d v) h'
  | .pan v h'=>.pan v h'
  | .no=>.no
theorem Xkx {d:Option Nat}{v:V}{h':H}:pass nt d e k (.ok v h')=k (put nt e d v) h':=rfl
def kop (call:Nat->List V->H->Res)(nt:Nat)(d:Option Nat)(op:COp)(next:K):K:=fun e h=>pass nt d e next (step call e h op)
def ksk (nt:Nat)(d:Option Nat)(next:K):K:=fun e h=>next (put nt e d (.tup [])) h
def Xnr (b:Bool)(v:V)(run skip:K)(e:T V)(h:H):Res:=match v with
  | .bool b'=>if b'=b then run e h else skip e h
  | .tup _=>skip e h
  |_=>.no
theorem XmV {d:Option Nat}{op:COp}{l:List CI}:YW call nt (⟨d,op,none⟩::l) e h k=pass nt d e (kops call nt l k) (step call e h op):=by
  simp only[YW,pass,kops,known,want];rfl
theorem Xk4 {d:Option Nat}{op:COp}{t:Nat}{b:Bool}{l:List CI} :
    YW call nt (⟨d,op,some (t,b)⟩::l) e h k=Xnr b (e.get .bot t) (kop call nt d op (kops call nt l k)) (ksk nt d (kops call nt l k)) e h:=by
  have e1:known e (some (t,b))=Xhp (e.get .bot t):=rfl
  have e2:want e (some (t,b))=XjY b (e.get .bot t):=rfl
  simp only[YW,e1,e2]
  generalize e.get .bot t=v
  cases v with
  |bool b'=>cases b<;>cases b'<;>rfl
  |_=>rfl
def XbQ (call:Nat->List V->H->Res)(nt:Nat)(al:List Nat)(l:List CI)(m:Nat)(k:K):K:=fun e h=>Yb call nt al l m e h k
def Xfh (nt:Nat)(d:Option Nat)(e:T V)(fl:Nat)(next:K)(r:Res):Res:=match r with
  | .ok v h'=>next (put nt e d v) (h'.lower fl)
  |_=>.no
theorem Xi6 {d:Option Nat}{v:V}{h':H}{fl:Nat}:Xfh nt d e fl k (.ok v h')=k (put nt e d v) (h'.lower fl):=rfl
def kopL (call:Nat->List V->H->Res)(nt:Nat)(d:Option Nat)(op:COp)(m:Nat)(next:K):K:=fun e h=>Xfh nt d e h.fl next (step call e (h.top m) op)
def Xto (b:Bool)(k:K)(e:T V)(h:H):Res:=if b then k e h else .no
theorem XqK {al:List Nat}{m:Nat}:Yb call nt al [] m e h k=Xto (XZ nt e h al) k e h:=rfl
theorem XnF {al:List Nat}{d:Option Nat}{op:COp}{l:List CI}{m:Nat} :
    Yb call nt al (⟨d,op,none⟩::l) m e h k=Xfh nt d e h.fl (XbQ call nt al l (m-1) k) (step call e (h.top m) op):=by
  simp only[Yb,Xfh,XbQ,known,want];rfl
theorem XkJ {al:List Nat}{d:Option Nat}{op:COp}{t:Nat}{b:Bool}{l:List CI}{m:Nat} :
    Yb call nt al (⟨d,op,some (t,b)⟩::l) m e h k=Xnr b (e.get .bot t) (kopL call nt d op m (XbQ call nt al l (m-1) k)) (ksk nt d (XbQ call nt al l (m-1) k)) e h:=by
  have e1:known e (some (t,b))=Xhp (e.get .bot t):=rfl
  have e2:want e (some (t,b))=XjY b (e.get .bot t):=rfl
  simp only[Yb,e1,e2]
  generalize e.get .bot t=v
  cases v with
  |bool b'=>cases b<;>cases b'<;>rfl
  |_=>rfl
theorem XfN {E:Start}{O:Nat->List V->H->Res}{tab:Nat->Option CFn}{n f:Nat}{args:List V}:XF E O tab (n+1) f args h=orElse (O f args h) (XbY E (XF E O tab n) n (tab f) args h):=rfl
def kr (res:List CR):K:=fun e h=>results res e h
theorem XjQ {E:Start}{c:CFn}{args:List V}{n:Nat}:XbY E call n (some c) args h=if args.length<=c.nt then exec call n c.nt c.body (ZU args 0 (E c)) h (kr c.res) [] (kr c.res) else .no:=rfl
theorem Xty (a b:List UInt8):XcB .eql a.length (numOf a) b.length (numOf b)=some (.bool (decide (a=b))):=by
  simp only[XcB,Yn]
  congr 2
  rw[Bool.eq_iff_iff]
  simp
theorem Xmt (a b:List UInt8):bin .eql (sv a) (sv b)=some (.bool (decide (a=b))):=Xty a b
theorem Xmo (a b:List UInt8):bin .neq (sv a) (sv b)=some (.bool (decide (a ≠ b))):=by
  show some (V.bool (!Xbw _ _ _ _))=_
  simp only[Yn]
  congr 2
  rw[Bool.eq_iff_iff]
  simp
theorem Xmp (a b:List UInt8):bin .lss (sv a) (sv b)=some (.bool (Op.bytesLess a b)):=by
  show some (V.bool (Xbv _ _ _ _))=_
  rw[YK]
theorem Xms (a b:List UInt8):bin .geq (sv a) (sv b)=some (.bool (!Op.bytesLess a b)):=by
  show some (V.bool (!Xbv _ _ _ _))=_
  rw[YK]
theorem Xmq (a b:List UInt8):bin .leq (sv a) (sv b)=some (.bool (Op.bytesLess a b||decide (a=b))):=by
  show some (V.bool (Xbv _ _ _ _||Xbw _ _ _ _))=_
  rw[YK,Yn]
  congr 3
  rw[Bool.eq_iff_iff]
  simp
theorem Xmr (a b:List UInt8):bin .gtr (sv a) (sv b)=some (.bool (!(Op.bytesLess a b||decide (a=b)))):=by
  show some (V.bool (!(Xbv _ _ _ _||Xbw _ _ _ _)))=_
  rw[YK,Yn]
  congr 4
  rw[Bool.eq_iff_iff]
  simp
theorem Xmu (a b:List UInt8)(hl:a.length+b.length<=9223372036854775807):bin .add (sv a) (sv b)=some (sv (a++b)):=by
  show (if a.length+b.length<=9223372036854775807 then _ else _)=_
  rw[if_pos hl,XcZ]
  simp[sv]
theorem XO {kd:IntKind}{z:Int} (hz:0<=z):Za (.int kd z)=some z.toNat:=by
  cases z with
  |ofNat n=>rfl
  |negSucc n=>simp at hz
theorem Xqv (s:List UInt8)(kd:IntKind)(z:Int)(h0:0<=z)(h1:z<s.length):sIxt h (sv s) (.int kd z)=.ok (.int .u8 (s[z.toNat]'(by omega)).toNat) h:=by
  unfold sIxt;rw[XO h0];simp only[sv];rw[if_pos (by omega),Z5]
theorem wrap_i64 {z:Int} (h0:-9223372036854775808<=z)(h1:z<=9223372036854775807):IntKind.wrap .i64 z=z:=by
  have e:IntKind.wrap .i64 z=if (true&&decide (z%18446744073709551616 ≥ 9223372036854775808))=true then z%18446744073709551616-18446744073709551616 else z%18446744073709551616:=rfl
  rw[e];simp only[Bool.true_and,decide_eq_true_eq]
  split<;>omega
theorem wrap_u8 {z:Int} (h0:0<=z)(h1:z<=255):IntKind.wrap .u8 z=z:=by
  have e:IntKind.wrap .u8 z=z%256:=rfl
  rw[e]; omega
theorem wrap_u16 {z:Int} (h0:0<=z)(h1:z<=65535):IntKind.wrap .u16 z=z:=by
  have e:IntKind.wrap .u16 z=z%65536:=rfl
  rw[e]; omega
theorem wrap_u32 {z:Int} (h0:0<=z)(h1:z<=4294967295):IntKind.wrap .u32 z=z:=by
  have e:IntKind.wrap .u32 z=z%4294967296:=rfl
  rw[e]; omega
theorem wrap_u64 {z:Int} (h0:0<=z)(h1:z<=18446744073709551615):IntKind.wrap .u64 z=z:=by
  have e:IntKind.wrap .u64 z=z%18446744073709551616:=rfl
  rw[e]; omega
theorem Xob (kd:IntKind)(a b:Int):bin .leq (.int kd a) (.int kd b)=some (.bool (decide (a<=b))):=by simp[bin,Z4]
theorem Xoa (kd:IntKind)(a b:Int):bin .lss (.int kd a) (.int kd b)=some (.bool (decide (a<b))):=by simp[bin,Z4]
theorem Xod (kd:IntKind)(a b:Int):bin .geq (.int kd a) (.int kd b)=some (.bool (decide (b<=a))):=by simp[bin,Z4]
theorem Xoc (kd:IntKind)(a b:Int):bin .gtr (.int kd a) (.int kd b)=some (.bool (decide (b<a))):=by simp[bin,Z4]
theorem Xoe (kd:IntKind)(a b:Int):bin .eql (.int kd a) (.int kd b)=some (.bool (decide (a=b))):=by
  simp only[bin,if_true,Z4]
  congr 2
theorem XnZ (kd:IntKind)(a b:Int):bin .neq (.int kd a) (.int kd b)=some (.bool (decide (a ≠ b))):=by
  simp only[bin,if_true,Z4]
  congr 2
  rw[Bool.eq_iff_iff]; simp
theorem XnY (kd kd':IntKind)(a b:Int)(hb:0<=b):bin .shl (.int kd a) (.int kd' b)=some (.int kd (kd.wrap (a*2 ^ (min b.toNat kd.bits)))):=by
  simp only[bin,Wt]; rw[if_neg (by omega)]
theorem XnX (kd kd':IntKind)(a b:Int)(hb:0<=b):bin .shr (.int kd a) (.int kd' b)=some (.int kd (a.fdiv (2 ^ (min b.toNat kd.bits)))):=by
  simp only[bin,Wt]; rw[if_neg (by omega)]
theorem T.make_fuel {α:Type} (d:α):∀ (f g i:Nat) (x:α),i<f->i<g->T.make d f i x=T.make d g i x
  |f+1,g+1,0,x,_,_=>rfl
  |f+1,g+1,j+1,x,h1,h2=>by
    have e:Nat.div j 2=j / 2:=rfl
    simp only[T.make,e];rw[T.make_fuel d f g (j / 2) x (by omega) (by omega)]
theorem T.set_lf_succ {α:Type} (d:α)(j:Nat)(x:α):T.set d .lf (j+1) x=if j%2=0 then .nd d (T.set d .lf (j / 2) x) .lf else .nd d .lf (T.set d .lf (j / 2) x):=by
  simp only[T.set_lf']
  have e:T.make d (j+1+1) (j+1) x=match Nat.mod j 2 with
      |0=>.nd d (T.make d (j+1) (Nat.div j 2) x) .lf
      |_+1=>.nd d .lf (T.make d (j+1) (Nat.div j 2) x):=rfl
  rw[e]
  have e1:Nat.div j 2=j / 2:=rfl
  have e2:Nat.mod j 2=j%2:=rfl
  rw[e1,e2,T.make_fuel d (j+1) (j / 2+1) (j / 2) x (by omega) (by omega)]
  rcases Nat.mod_two_eq_zero_or_one j with hj | hj<;>rw[hj]<;>rfl
theorem T.set_nd_succ {α:Type} (d v:α)(l r:T α)(j:Nat)(x:α):T.set d (.nd v l r) (j+1) x=if j%2=0 then .nd v (T.set d l (j / 2) x) r else .nd v l (T.set d r (j / 2) x):=by
  rw[T.set_succ]
  have e1:Nat.div j 2=j / 2:=rfl
  have e2:Nat.mod j 2=j%2:=rfl
  rw[e1,e2]
  rcases Nat.mod_two_eq_zero_or_one j with hj | hj<;>rw[hj]<;>rfl
theorem T.set_set {α:Type} (d:α)(a b:α):∀ (i:Nat) (t:T α),(t.set d i a).set d i b=t.set d i b
  |0,.lf=>rfl
  |0,.nd v l r=>rfl
  |j+1,.lf=>by
    rw[T.set_lf_succ,T.set_lf_succ];split
    . rename_i hj
      rw[T.set_nd_succ,if_pos hj,T.set_set d a b (j / 2) .lf]
    . rename_i hj
      rw[T.set_nd_succ,if_neg hj,T.set_set d a b (j / 2) .lf]
  |j+1,.nd v l r=>by
    rw[T.set_nd_succ,T.set_nd_succ];split
    . rename_i hj
      rw[T.set_nd_succ,if_pos hj,T.set_set d a b (j / 2) l]
    . rename_i hj
      rw[T.set_nd_succ,if_neg hj,T.set_set d a b (j / 2) r]
termination_by i=>i
decreasing_by all_goals omega
theorem T.set_comm {α:Type} (d:α)(a b:α):∀ (i j:Nat) (t:T α),i ≠ j->(t.set d i a).set d j b=(t.set d j b).set d i a
  |0,0,_,h=>absurd rfl h
  |0,j+1,.lf,_=>by
    rw[T.set_lf_succ]
    have e:T.set d .lf 0 a=.nd a .lf .lf:=rfl
    rw[e,T.set_nd_succ]
    split<;>rfl
  |0,j+1,.nd v l r,_=>by
    rw[T.set_nd_succ]
    have e:T.set d (.nd v l r) 0 a=.nd a l r:=rfl
    rw[e,T.set_nd_succ]
    split<;>rfl
  |i+1,0,.lf,_=>by
    rw[T.set_lf_succ]
    have e:T.set d .lf 0 b=.nd b .lf .lf:=rfl
    rw[e,T.set_nd_succ]
    split<;>rfl
  |i+1,0,.nd v l r,_=>by
    rw[T.set_nd_succ]
    have e:T.set d (.nd v l r) 0 b=.nd b l r:=rfl
    rw[e,T.set_nd_succ]
    split<;>rfl
  |i+1,j+1,.lf,h=>by
    rw[T.set_lf_succ,T.set_lf_succ]
    by_cases hi:i%2=0<;>by_cases hj:j%2=0<;>simp only[hi,hj,if_true,if_false,T.set_nd_succ]
    . rw[T.set_comm d a b (i / 2) (j / 2) .lf (by omega)]
    . rw[T.set_comm d a b (i / 2) (j / 2) .lf (by omega)]
  |i+1,j+1,.nd v l r,h=>by
    rw[T.set_nd_succ,T.set_nd_succ]
    by_cases hi:i%2=0<;>by_cases hj:j%2=0<;>simp only[hi,hj,if_true,if_false,T.set_nd_succ]
    . rw[T.set_comm d a b (i / 2) (j / 2) l (by omega)]
    . rw[T.set_comm d a b (i / 2) (j / 2) r (by omega)]
termination_by i j=>i+j
decreasing_by all_goals omega
def row (l:List V):T V:=Xp .lf 0 l
theorem ZB:∀ (l:List V) (t:T V) (i j:Nat) (v:V),j<i->Xp (t.set .bot j v) i l=(Xp t i l).set .bot j v
  |[],_,_,_,_,_=>rfl
  |w::l,t,i,j,v,h=>by
    simp only[Xp];rw[T.set_comm _ _ _ _ _ _ (by omega),ZB l _ (i+1) j v (by omega)]
theorem Xao:∀ (l:List V) (t:T V) (i j:Nat) (v:V),j<l.length->(Xp t i l).set .bot (i+j) v=Xp t i (l.set j v)
  |[],_,_,_,_,h=>by simp at h
  |w::l,t,i,0,v,_=>by
    simp only[Xp,List.set_cons_zero,Nat.add_zero];rw[ZB l t (i+1) i w (by omega),ZB l t (i+1) i v (by omega),T.set_set]
  |w::l,t,i,j+1,v,h=>by
    simp only[Xp,List.set_cons_succ];rw[show i+(j+1)=i+1+j by omega,Xao l _ (i+1) j v (by simpa using h)]
theorem Xpb {l:List V}{j:Nat}{v:V} (hj:j<l.length):(row l).set .bot j v=row (l.set j v):=by
  have:=Xao l .lf 0 j v hj
  rwa [Nat.zero_add] at this
theorem WJ {l:List V}{j:Nat} (hj:j<l.length):(row l).get .bot j=l.getD j .bot:=by
  unfold row;rw[XK,if_pos ⟨Nat.zero_le _,by omega⟩,Nat.sub_zero]
theorem Zt {l:List V}{i n:Nat} (hn:i+n<=l.length):Xx (row l) i n=(l.drop i).take n:=by
  apply List.ext_getElem?
  intro j
  by_cases hj:j<n
  . rw[Yd _ _ _ _ hj,WJ (by omega),List.getElem?_take,if_pos hj,List.getElem?_drop,List.getD_eq_getElem?_getD,List.getElem?_eq_getElem (by omega)]
    rfl
  . rw[List.getElem?_eq_none (by rw[Xz]; omega),List.getElem?_eq_none (by simp; omega)]
def ovr (l:List V)(i:Nat)(l':List V):List V:=l.take i++l'++l.drop (i+l'.length)
theorem WU:∀ (l' l:List V) (i:Nat),i+l'.length<=l.length->Xp (row l) i l'=row (ovr l i l')
  |[],l,i,_=>by simp[Xp,ovr]
  |v::l',l,i,h=>by
    simp only[Xp];simp only[List.length_cons] at h;rw[Xpb (by omega),WU l' (l.set i v) (i+1) (by simp; omega)]
    congr 1
    obtain⟨a,y,b,rfl,rfl⟩:∃ a y b,l=a++y::b/\a.length=i:=⟨l.take i,l[i]'(by omega),l.drop (i+1),by
      rw[← List.drop_eq_getElem_cons (by omega),List.take_append_drop],by simp; omega⟩
    have e1:(a++y::b).set a.length v=a++v::b:=by simp
    rw[e1]
    have e2:a++v::b=(a++[v])++b:=by simp
    unfold ovr;rw[e2,List.take_append_of_le_length (by simp),List.take_of_length_le (by simp),List.drop_append,List.drop_eq_nil_of_le (by simp),List.take_append_of_le_length (Nat.le_refl _),List.take_of_length_le (Nat.le_refl _)]
    have e3:(a++y::b).drop (a.length+(v::l').length)=b.drop l'.length:=by
      rw[List.drop_append,List.drop_eq_nil_of_le (by omega),List.nil_append,show a.length+(v::l').length-a.length=l'.length+1 by simp,List.drop_succ_cons]
    rw[e3]
    simp
def ob (l:List V)(sp:Bool)(el:Nat)(fz:Option Nat):Obj:=.c l.length (row l) sp el fz
theorem XbN (l:List V)(sp:Bool)(el:Nat)(fz:Option Nat):X5 h l sp el fz=h.push (ob l sp el fz):=rfl
theorem n_push (y:Obj):(h.push y).n=h.n+1:=rfl
theorem fl_push (y:Obj):(h.push y).fl=h.fl:=rfl
theorem n_set (o:Nat)(y:Obj):(h.set o y).n=h.n:=rfl
theorem fl_set (o:Nat)(y:Obj):(h.set o y).fl=h.fl:=rfl
theorem get_push (y:Obj)(o:Nat):(h.push y).get o=if h.n=o then y else h.get o:=by
  show T.get _ (T.set _ _ _ _) _=_
  rw[T.get_set]; rfl
theorem get_set (y:Obj)(o o':Nat):(h.set o y).get o'=if o=o' then y else h.get o':=by
  show T.get _ (T.set _ _ _ _) _=_
  rw[T.get_set]; rfl
theorem set_set (o:Nat)(y z:Obj):(h.set o y).set o z=h.set o z:=by
  show ({ h with t:=(h.t.set .dead o y).set .dead o z }:H)=_
  rw[T.set_set]; rfl
theorem XeM {o i:Nat}{l l':List V}{sp:Bool}{el:Nat}{fz:Option Nat} (ho:h.get o=ob l sp el fz)(hn:i+l'.length<=l.length)(hf:fz.getD 0<=i)(hl:h.fl<=o)(ha:Yq l'=true) :
    WC h o i l'=some (h.set o (ob (ovr l i l') sp el fz)):=by
  unfold WC;rw[ho];simp only[ob];rw[if_pos (by simp[hn,hf,hl,ha]),WU l' l i hn]
  have:(ovr l i l').length=l.length:=by simp[ovr]; omega
  rw[this]
def alO:Obj->Bool
  | .dead=>false
  |_=>true
theorem Xjh {o:Nat}:alive h o=alO (h.get o):=by
  unfold alive alO; cases h.get o<;>rfl
def ldO (y:Obj)(i n:Nat):Option (List V):=match y with
  | .c m t _ _ _=>if i+n<=m then some (Xx t i n) else none
  |_=>none
theorem Xb2 {o i n:Nat}:YN h o i n=ldO (h.get o) i n:=by
  unfold YN ldO; cases h.get o<;>rfl
theorem ZL {l:List V}{sp:Bool}{el:Nat}{fz:Option Nat}{i n:Nat}:ldO (ob l sp el fz) i n=if i+n<=l.length then some ((l.drop i).take n) else none:=by
  show (if i+n<=l.length then some (Xx (row l) i n) else none)=_
  split
  . rename_i hn; rw[Zt hn]
  . rfl
def stO (h:H)(o i:Nat)(l':List V)(y:Obj):Option H:=match y with
  | .c m t sp el fz=>if i+l'.length<=m&&fz.getD 0<=i&&h.fl<=o&&Yq l' then some (h.set o (.c m (Xp t i l') sp el fz)) else none
  |_=>none
theorem Xkj {o i:Nat}{l':List V}:WC h o i l'=stO h o i l' (h.get o):=by
  unfold WC stO; cases h.get o<;>rfl
theorem XgS {o i:Nat}{l l':List V}{sp:Bool}{el:Nat}{fz:Option Nat}:stO h o i l' (ob l sp el fz) =
    if i+l'.length<=l.length/\fz.getD 0<=i/\h.fl<=o/\Yq l'=true then some (h.set o (ob (ovr l i l') sp el fz)) else none:=by
  show (if (decide (i+l'.length<=l.length)&&decide (fz.getD 0<=i)&&decide (h.fl<=o)&&Yq l')=true then some (h.set o (.c l.length (Xp (row l) i l') sp el fz)) else none)=_
  by_cases h1:i+l'.length<=l.length
  . have e:(ovr l i l').length=l.length:=by simp[ovr]; omega
    rw[WU l' l i h1];simp only[Bool.and_eq_true,decide_eq_true_eq,and_assoc,ob,e]
  . rw[if_neg (by simp[h1]),if_neg (by simp[h1])]
def bs (l:List UInt8):List V:=l.map fun b=>.int .u8 b.toNat
theorem XdU (l:List UInt8):(bs l).length=l.length:=by simp[bs]
theorem XgF (a b:List UInt8):bs (a++b)=bs a++bs b:=by simp[bs]
theorem XhT (l:List UInt8)(n:Nat):(bs l).take n=bs (l.take n):=by simp[bs,List.map_take]
theorem XhU (l:List UInt8)(n:Nat):(bs l).drop n=bs (l.drop n):=by simp[bs,List.map_drop]
theorem XdW:∀ l:List UInt8,Yq (bs l)=true
  |[]=>rfl
  |b::l=>by
    show (V.one _&&Yq (bs l))=true
    rw[XdW l]; rfl
theorem Xin (l:List UInt8):strCells l.length (numOf l)=bs l:=by
  apply List.ext_getElem?
  intro i
  by_cases hi:i<l.length
  . simp only[strCells,bs,List.getElem?_map,List.getElem?_range hi,List.getElem?_eq_getElem hi,Option.map_some,Z5 l i hi]
  . rw[List.getElem?_eq_none (by simp[strCells]; omega),List.getElem?_eq_none (by simp[bs]; omega)]
theorem ZO:∀ (l:List UInt8) (n x:Nat),Y8 n x (bs l)=some (n+l.length,x*256 ^ l.length+numOf l)
  |[],n,x=>by simp[bs,Y8,Xl2]
  |b::l,n,x=>by
    have e:Y8 n x (bs (b::l))=if b.toNat<256 then Y8 (n+1) (x*256+b.toNat) (bs l) else none:=rfl
    rw[e,if_pos b.toNat_lt,ZO l,Z0];simp only[List.length_cons,Nat.pow_succ,Nat.add_mul,Nat.mul_assoc,Nat.add_assoc,Nat.mul_comm 256,Nat.add_comm 1]
theorem Xm0 (l:List UInt8):XE h 1 (sv l)=some (l.length,bs l):=by
  show (if 1=1 then some (l.length,strCells l.length (numOf l)) else none)=_
  rw[if_pos rfl,Xin]
def srcO (n s i:Nat)(y:Obj):Option (Nat×List V):=match ldO y i (n*s) with
  |some l=>some (n,l)
  |none=>none
theorem XgT {s o i n c s':Nat}{ex:Bool}:XE h s (.sl o i n c s' ex)=srcO n s i (h.get o):=by
  simp only[XE,srcO,Xb2]; rfl
theorem Xch {n s i:Nat}{l:List V}{sp:Bool}{el:Nat}{fz:Option Nat} (hn:i+n*s<=l.length):srcO n s i (ob l sp el fz)=some (n,(l.drop i).take (n*s)):=by
  unfold srcO; rw[ZL,if_pos hn]
def b2sO (h:H)(i n:Nat)(y:Obj):Res:=match ldO y i n with
  |some l=>match Y8 0 0 l with
    |some (m,x)=>.ok (.str m x) h
    |none=>.no
  |none=>.no
theorem Xtk {o i n c:Nat}{ex:Bool}:sB2s h (.sl o i n c 1 ex)=b2sO h i n (h.get o):=by
  simp only[sB2s,b2sO,Xb2,if_true]; rfl
theorem Xqo {i n:Nat}{l:List UInt8}{sp:Bool}{el:Nat}{fz:Option Nat} (hn:i+n<=l.length):b2sO h i n (ob (bs l) sp el fz)=.ok (sv ((l.drop i).take n)) h:=by
  unfold b2sO;rw[ZL,if_pos (by rw[XdU]; exact hn),XhU,XhT]
  simp only[ZO,Nat.zero_mul,Nat.zero_add,sv]
theorem XjR {s bytes el:Nat}{a b:V}{m:Nat}{l:List V} (hs:XE h s b=some (m,l)):YF h s bytes el a b=X3 h s bytes el a m l:=by
  unfold YF; rw[hs]
theorem XfU {s bytes el m:Nat}{l:List V} (hm:m ≠ 0)(hr:roomFor m bytes=true):X3 h s bytes el .nils m l=.ok (.sl h.n 0 m m s false) (h.push (ob l true el (some 0))):=by
  unfold X3; rw[if_neg hm,if_pos hr]; rfl
theorem Xd5 {s bytes el o n c:Nat}{ex:Bool}{i:Nat}{l l':List V}{sp:Bool}{el':Nat}{fz:Option Nat} (ho:h.get o=ob l sp el' fz)(hn:n<=c):X3 h s bytes el (.sl o i n c s ex) 0 l'=.ok (.sl o i n c s ex) h:=by
  unfold X3;simp only[ho,ob];rw[if_pos trivial,if_pos (by omega),if_pos trivial]
def sltV (h:H)(lo hi:Option V)(v:V):Res:=match v with
  | .str n x=>match (match hi with | some y=>Za y | none=>some n),(match lo with | some y=>Za y | none=>some 0) with
    |some k,some l=>if k<=n/\l<=k then .ok (.str (k-l) (XbD n x l k)) h else .no
    |_,_=>.no
  |_=>.no
theorem Xm3 {lo hi : Option Opd} {v : V} : sSlt h e lo hi v = sltV h (lo.map (opd e)) (hi.map (opd e)) v := by
  cases v with
  | str n x =>
    simp only[sSlt,sltV,bounds,YL]
    cases lo<;>cases hi<;>simp only[Option.map_none,Option.map_some,YL,Nat.le_refl,true_and]
    . simp
    . cases Za (opd e _) with
      |none=>rfl
      |some k=>by_cases hc:k<=n<;>simp[hc]
    . cases Za (opd e _) with
      |none=>rfl
      |some k=>by_cases hc:k<=n<;>simp[hc]
    . cases Za (opd e _) with
      |none=>rfl
      |some k=>cases Za (opd e _) with
        |none=>rfl
        |some l=>by_cases hc:k<=n<;>by_cases hd:l<=k<;>simp[hc,hd]
  |_=>rfl
theorem map_none {α β:Type}{f:α->β}:Option.map f none=none:=rfl
theorem map_some {α β:Type}{f:α->β}{y:α}:Option.map f (some y)=some (f y):=rfl
theorem Xm2 {kd:IntKind}{z:Int}{s:List UInt8} (h0:0<=z)(h1:z<=s.length):sltV h none (some (.int kd z)) (sv s)=.ok (sv (s.take z.toNat)) h:=by
  simp only[sltV,sv,XO h0];rw[if_pos ⟨by omega,Nat.zero_le _⟩,Yx s 0 z.toNat (Nat.zero_le _) (by omega)]
  simp; omega
theorem Xm1 {kd:IntKind}{z:Int}{s:List UInt8} (h0:0<=z)(h1:z<=s.length):sltV h (some (.int kd z)) none (sv s)=.ok (sv (s.drop z.toNat)) h:=by
  simp only[sltV,sv,XO h0];rw[if_pos ⟨Nat.le_refl _,by omega⟩,Yx s z.toNat s.length (by omega) (Nat.le_refl _)]
  simp
theorem Xir {kd kd':IntKind}{z y:Int}{s:List UInt8} (h0:0<=z)(h1:z<=y)(h2:y<=s.length):sltV h (some (.int kd z)) (some (.int kd' y)) (sv s)=.ok (sv ((s.take y.toNat).drop z.toNat)) h:=by
  simp only[sltV,sv,XO h0,XO (show (0:Int)<=y by omega)]
  rw[if_pos ⟨by omega,by omega⟩,Yx s z.toNat y.toNat (by omega) (by omega)]
  simp; omega
end
end Go.Vm
