/-
  Code and calls do what the evaluator says, regions of open order too.
-/
import Derived.Test.YtkjjpmbpjfmbcaaGreatDoorQ3
import Derived.ScopeJumps
import Derived.Scope
import Derived.Test.YtkjjpmbpjfmbcaaGreatDoorQ1
import Derived.ChangeSame
import Derived.ChangeShapes
set_option linter.unusedVariables false
set_option linter.unusedSimpArgs false
namespace Go.Vm
def Own (P : Program) (f : Nat) : Prop := ∃ fn, P.funcs[f]? = some fn ∧ fn.name ≠ "runtime.NumGoroutine" ∧ fn.body.isSome = true
def Ends (P:Program)(ρ:Rho)(h:H)(w:World):Res->Ending->World->Prop
  | .ok v h',.returned x,w'=>∃ ρ',VRel ρ' h' v x/\Post ρ h w ρ' h' w'
  | .pan v h',.panicked ch,w'=>∃ x ρ',ch=[{ v:=x,recovered:=false }]/\VRel ρ' h' v x/\Post ρ h w ρ' h' w'
  |_,_,_=>False
def XM (P:Program)(call:Nat->List V->H->Res):Prop :=
  ∀ f args h ρ w vs,HRel ρ h w->wfh h->GRel P.globals.size ρ h->wfs h.n args->VRels ρ h args vs->call f args h ≠ .no ->
    Own P f/\Calls P f vs.toArray w (Ends P ρ h w (call f args h))
theorem GRel.post {G:Nat}{ρ:Rho}{h:H}{w:World}{ρ':Rho}{h':H}{w':World} (g:GRel G ρ h)(p:Post ρ h w ρ' h' w'):GRel G ρ' h':=by
  refine⟨Nat.le_trans g.1 p.abs.n,fun i hi=>?_⟩
  have hn:i<h.n:=Nat.lt_of_lt_of_le hi g.1
  rcases g.2 i hi with ⟨N,hN⟩ | ⟨h1,h2⟩
  . rcases p.fr.keep i hn with e | ⟨e1,e2⟩
    . exact .inl ⟨N,e.trans hN⟩
    . exact .inr ⟨e1,e2⟩
  . rcases p.fr.keep i hn with e | ⟨e1,e2⟩
    . exact .inr ⟨e.trans h1,p.abs.dead i hn h2⟩
    . exact .inr ⟨e1,e2⟩
section
variable {P:Program}{ρ:Rho}{h:H}{w:World}{e:T V}{a:Act}{o:Oper}{call:Nat->List V->H->Res}{nt:Nat}
theorem Cx.post {ρ':Rho}{h':H}{w':World} (c:Cx P ρ h w e a)(p:Post ρ h w ρ' h' w')(wh:wfh h'):Cx P ρ' h' w' e a :=
  ⟨p.rel,wh,Xb9 p.abs.n c.we,fun i=>p.vrel c.r.lt (c.er i),c.gr.post p⟩
theorem ERel.put {tm:Array Value}{v:V}{x:Value} (r:ERel ρ h e tm)(hs:tm.size=nt)(hv:VRel ρ h v x)(d:Nat):ERel ρ h (Vm.put nt e (some d) v) (tm.setIfInBounds d x):=by
  intro i;have hi:=r i;simp only[Array.getD_eq_getD_getElem?] at hi;simp only[Vm.put,Array.getD_eq_getD_getElem?,Array.getElem?_setIfInBounds]
  by_cases hd:d<nt
  . rw[if_pos hd,T.get_set]
    by_cases hid:i=d
    . subst hid
      simp[hs,hd,hv]
    . have:¬ d=i:=fun e=>hid e.symm
      simp only[this,if_false,hid,if_false];exact hi
  . rw[if_neg hd]
    by_cases hid:d=i
    . subst hid
      have:tm[d]? = none:=by simp[hs]; omega
      rw[this] at hi
      simp[hs,hd]
      exact hi
    . simp only[hid,if_false]
      exact hi
theorem Cx.put {v:V}{x:Value} (c:Cx P ρ h w e a)(hs:a.tmps.size=nt)(hv:VRel ρ h v x)(wv:wf h.n v)(d:Option Nat):Cx P ρ h w (Vm.put nt e d v) (a.put d x):=by
  cases d with
  |none=>exact c
  |some d=>exact⟨c.r,c.wh,Xap c.we wv _,c.er.put hs hv d,c.gr⟩
theorem Xi2 (d:Option Nat)(x:Value):(a.put d x).tmps.size=a.tmps.size:=by
  cases d<;>simp[Act.put]
theorem put_defers (d:Option Nat)(x:Value):(a.put d x).defers=a.defers:=by
  cases d<;>rfl
theorem Xid {f:Nat}{vs:Array Value}{next:Act->World->Prop}{Q:Exit->Act->World->Prop}{r:Res} (hr:(execOp a.eval o).run P w=.ok (.enter f vs) w)(hc:Calls P f vs w (Ends P ρ h w r))
    (hok:∀ v h' x w' ρ',r=.ok v h'->VRel ρ' h' v x->Post ρ h w ρ' h' w'->next (a.put o.dst x) w')
    (hpan:∀ v h' x w' ρ',r=.pan v h'->VRel ρ' h' v x->Post ρ h w ρ' h' w'->Q (.panic [{ v:=x,recovered:=false }]) a w'):o.wp P a w next Q:=by
  unfold Oper.wp;rw[hr];refine hc.mono fun en w' he=>?_
  cases r with
  |ok v h' =>
    cases en with
    |returned x=>obtain⟨ρ',h1,h2⟩:=he; exact hok v h' x w' ρ' rfl h1 h2
    |panicked ch=>exact he.elim
    |outgrown=>exact he.elim
  |pan v h' =>
    cases en with
    |returned x=>exact he.elim
    |panicked ch=>obtain⟨x,ρ',rfl,h1,h2⟩:=he; exact hpan v h' x w' ρ' rfl h1 h2
    |outgrown=>exact he.elim
  |no=>cases en<;>exact he.elim
theorem Xgl {f:Nat}{vs:Array Value} (ho:Own P f)(w:World):(callFunc f vs).run P w=.ok (.enter f vs) w:=by
  obtain⟨fn,hf,hn,hb⟩:=ho
  have:fn.body ≠ none:=by intro h; simp[h] at hb
  simp[callFunc,hf,hn,this]
theorem Xmw {cp:COp}{v:V}{h':H} (hn:XdI cp=false)(hst:step call e h cp=.pan v h'):∃ y,cp=.pan y:=by
  cases cp
  case pan y=>exact⟨y,rfl⟩
  case calf=>cases hn
  case calv=>cases hn
  all_goals
    exfalso;simp only[step,give,Xad,sBox,sBld,sBsl,sLd,sLdn,sSt,sNck,sEq,sEqs,sCvi,sCvs,sB2s,sS2b,sMks,sApz,sSlt,sSls,sSlp,sFad,sFld,partOf,sIxs,sIxp,sIxa,sIxt,sExt,YF,X3,ZR,sLen,sLnt,sCap,sMm,sRng,sNxt,sUsd,sUst,Xa4,Xa5,sMkz,sP2u,sU2p] at hst
    repeat' (first | cases hst | split at hst)
theorem XlH {y:Opd} (hc:XfI P o=some (.pan y)):∃ x y',o.op=.panic x/\Xj P x=some y'/\COp.pan y=.pan y':=by
  unfold XfI at hc;split at hc
  case h_26 x hop =>
    split at hc
    . rename_i y' hy
      injection hc with hc
      exact⟨x,y',hop,hy,hc.symm⟩
    . cases hc
  all_goals
    exfalso
    try simp only[Xjc,XfJ,Xda,XfM,XbW] at hc
    repeat' (first | cases hc | split at hc)
theorem XjJ {cp : COp} (hn : XdI cp = true) (hc : XfI P o = some cp) : ∃ cl args, o.op = .call cl ∧ Zj P cl.args.toList = some args ∧
    ((∃ f,cl.callee=.value (.func f)/\cp=.calf f args)∨∃ x y,cl.callee=.value x/\Xj P x=some y/\cp=.calv y args):=by
  unfold XfI at hc;split at hc
  case h_23 cl hop =>
    unfold XfM at hc;split at hc
    . cases hc
    . rename_i args ha
      refine⟨cl,args,hop,ha,?_⟩
      split at hc
      . rename_i f hcl
        split at hc
        . split at hc
          . cases hc
          . split at hc
            . injection hc with hc
              exact .inl ⟨f,hcl,hc.symm⟩
            . exfalso
              unfold XbW at hc
              repeat' (first | (injection hc with hc; subst hc; cases hn; done) | (cases hc; done) | split at hc)
        . cases hc
      . rename_i x _ hcl
        split at hc
        . rename_i y hy
          injection hc with hc
          exact .inr ⟨x,y,hcl,hy,hc.symm⟩
        . cases hc
      . cases hc
      . exfalso
        repeat' (first | (injection hc with hc; subst hc; cases hn; done) | (cases hc; done) | split at hc)
  all_goals
    exfalso
    try simp only[Xjc,XfJ,Xda] at hc
    repeat' (first | (injection hc with hc; subst hc; cases hn; done) | (cases hc; done) | split at hc)
theorem XiA (hcall : XM P call) (c : Cx P ρ h w e a) {next : Act → World → Prop} {Q : Exit → Act → World → Prop} (hno : step call e h (Xaz P o) ≠ .no)
    (hok:∀ v h' x w' ρ',step call e h (Xaz P o)=.ok v h'->VRel ρ' h' v x->Post ρ h w ρ' h' w'->next (a.put o.dst x) w')
    (hpan:∀ v h' x w' ρ',step call e h (Xaz P o)=.pan v h'->VRel ρ' h' v x->Post ρ h w ρ' h' w'->Q (.panic [{ v:=x,recovered:=false }]) a w'):o.wp P a w next Q:=by
  have hwf:=W9 P o
  revert hno hok hpan hwf
  unfold Xaz;split
  · rename_i cp hc
    split
    · intro hno hok hpan hwf
      cases hn:XdI cp with
      | false =>
        cases hst:step call e h cp with
        |no=>exact absurd hst hno
        |ok v h' =>
          obtain⟨x,w',ρ',h1,h2,h3⟩:=XrP c hc hn hst;exact XkT h1 (hok v h' x w' ρ' hst h2 h3)
        | pan v h' =>
          have hpn:∃ x y,o.op=.panic x/\Xj P x=some y/\cp=.pan y:=by
            obtain⟨y,rfl⟩:=Xmw hn hst;exact XlH hc
          obtain⟨x,y,hop,hy,rfl⟩:=hpn;have rx:=c.opd hy;simp only[step] at hst;have hst':=hst;unfold sPan at hst';split at hst'
          . rename_i t u hu
            injection hst' with e1 e2
            subst e1 e2;rw[hu] at rx;obtain⟨z,hz,hzr⟩:=XeH rx
            have hrun:(execOp a.eval o).run P w=.halt (.panic (.iface t z)) w:=by
              simp[execOp,hop,hz,Instr.panic]
            unfold Oper.wp;rw[hrun];exact hpan _ _ _ _ _ hst (.ifc hzr) (.refl c.r)
          . cases hst'
      |true =>
        obtain⟨cl,args,hop,hargs,hcase⟩:=XjJ hn hc
        have hvs:VRels ρ h (args.map (Vm.opd e)) (cl.args.map a.eval).toList:=by
          rw[Array.toList_map]; exact Xdo c.er c.gr hargs
        rcases hcase with ⟨f,hcl,rfl⟩ | ⟨x,y,hcl,hy,rfl⟩
        . have hwa:wfs h.n (args.map (Vm.opd e)):=WV c.we (fun z hz=>(XR c.gr.1 hwf).1 z (by simpa [COp.opds] using hz))
          obtain⟨how,hcs⟩:=hcall f _ h ρ w _ c.r c.wh c.gr hwa hvs hno;refine Xid (f:=f) (vs:=cl.args.map a.eval) ?_ (by rw[Array.toArray_toList] at hcs; exact hcs) hok hpan
          have h1:a.eval (.func f)=.func (.func f) #[] #[]:=rfl
          simp[execOp,hop,resolve,hcl,Deferred.ofValue,h1,invoke,Xgl how]
        . have rx:=c.opd hy
          simp only[step] at hno hok hpan
          cases hx:Vm.opd e y with
          |fn f caps =>
            rw[hx] at rx hno hok hpan;simp only[Xed] at hno hok hpan;obtain⟨cs,hxe,hcr⟩:=Xet rx
            have hwa:wfs h.n (args.map (Vm.opd e)++caps):=by
              refine ZV.2 ⟨WV c.we (fun z hz=>(XR c.gr.1 hwf).1 z (by simp[COp.opds,hz])),?_⟩
              have:=XaW c.we ((XR c.gr.1 hwf).1 y (by simp[COp.opds]))
              rw[hx] at this;exact this
            obtain⟨how,hcs⟩:=hcall f _ h ρ w _ c.r c.wh c.gr hwa (hvs.append hcr) hno;refine Xid (f:=f) (vs:=cl.args.map a.eval++cs) ?_ (by
              have:((cl.args.map a.eval).toList++cs.toList).toArray=cl.args.map a.eval++cs:=by
                apply Array.ext'; simp
              rw[this] at hcs; exact hcs) hok hpan
            simp[execOp,hop,resolve,hcl,Deferred.ofValue,hxe,invoke,Xgl how]
          |_=>rw[hx] at hno; exact absurd rfl hno
    . intro hno; exact absurd rfl hno
  . intro hno; exact absurd rfl hno
end
end Go.Vm
namespace Go.Vm
structure St (P:Program)(nt:Nat)(ds:List Deferred)(ρ0:Rho)(h0:H)(w0:World)(ρ:Rho)(h:H)(w:World)(e:T V)(a:Act):Prop where
  cx:Cx P ρ h w e a
  post:Post ρ0 h0 w0 ρ h w
  sz:a.tmps.size=nt
  df:a.defers=ds
section
variable {P:Program}{nt:Nat}{ds:List Deferred}{ρ0:Rho}{h0:H}{w0:World}{ρ:Rho}{h:H}{w:World}{e:T V}{a:Act}{call:Nat->List V->H->Res}{fuel:Nat}
theorem St.put (s:St P nt ds ρ0 h0 w0 ρ h w e a) {v:V}{x:Value}{ρ':Rho}{h':H}{w':World} (hv:VRel ρ' h' v x)(p:Post ρ h w ρ' h' w')(wh:wfh h')(wv:wf h'.n v)(d:Option Nat) :
    St P nt ds ρ0 h0 w0 ρ' h' w' (Vm.put nt e d v) (a.put d x) :=
  ⟨(s.cx.post p wh).put s.sz hv wv d,s.post.trans p,(Xi2 d x).trans s.sz,(put_defers d x).trans s.df⟩
structure GRelOf (ops:Array Oper)(o:Oper)(g:Option (Nat×Bool)):Prop where
  none:o.guard=none->g=none
  some:∀ j b,o.guard=some (j,b)->∃ p d,ops[j]? = some p/\p.dst=some d/\g=some (d,b)
theorem XdS {ops : Array Oper} {o : Oper} {i : CI} (hc : ciOf P ops o = some i) : i.dst = o.dst ∧ i.op = Xaz P o ∧ GRelOf ops o i.g := by
  unfold ciOf at hc;split at hc
  . rename_i hg
    simp only[Option.some.injEq] at hc; subst hc
    exact⟨rfl,rfl,⟨fun _=>rfl,fun j b h=>by rw[hg] at h; cases h⟩⟩
  . rename_i j b hg
    split at hc
    . rename_i p hp
      split at hc
      . rename_i d hd
        simp only[Option.some.injEq] at hc; subst hc
        refine⟨rfl,rfl,⟨fun h=>(by rw[hg] at h; cases h),fun j' b' h=>?_⟩⟩
        rw[hg] at h;simp only[Option.some.injEq,Prod.mk.injEq] at h;obtain⟨rfl,rfl⟩:=h
        exact⟨p,d,hp,hd,rfl⟩
      . cases hc
    . cases hc
theorem XeG {ops : Array Oper} {o : Oper} {g : Option (Nat × Bool)} (hg : GRelOf ops o g) (er : ERel ρ h e a.tmps) (hk : known e g = true) : Region.wanted o (yielded ops a.tmps) = want e g := by
  unfold Region.wanted
  cases hgu:o.guard with
  |none=>rw[hg.none hgu]; rfl
  |some jb =>
    obtain⟨j,b⟩:=jb;obtain⟨p,d,hp,hd,rfl⟩:=hg.some j b hgu;have r:=er d;simp only[known] at hk;simp only[want,yielded,hp,Option.bind_some,hd];rw[Array.getD_eq_getD_getElem?] at r
    cases hv:T.get .bot e d with
    |bool t =>
      rw[hv] at r
      have:=Yr r
      cases hx:a.tmps[d]? with
      |none=>rw[hx] at this; cases this
      |some x =>
        rw[hx] at this;simp only[Option.getD_some] at this;subst this
        cases t<;>cases b<;>rfl
    |tup l =>
      rw[hv] at r;obtain⟨cs,hcs,_⟩:=Xig r
      cases hx:a.tmps[d]? with
      |none=>rfl
      |some x =>
        rw[hx] at hcs;simp only[Option.getD_some] at hcs;subst hcs;rfl
    |_=>rw[hv] at hk; cases hk
theorem Xgg:VRel ρ h (.tup []) undef:=.tup .nil
theorem Xgu (hgood : Xm P.globals.size call) (hcall : XM P call) {ops : Array Oper} {Q : Exit → Act → World → Prop} {k : K} {R : Res} (hR : R ≠ .no)
    (hn:∀ ρ h w e a,St P nt ds ρ0 h0 w0 ρ h w e a->k e h=R->Q .normal a w)
    (hp:∀ v x ρ h w a,R=.pan v h->VRel ρ h v x->Post ρ0 h0 w0 ρ h w->a.defers=ds->Q (.panic [{ v:=x,recovered:=false }]) a w) :
    ∀ (idx:List Nat) (l:List CI) (ρ:Rho) (h:H) (w:World) (e:T V) (a:Act),(∀ i∈idx,i<ops.size)->Xa0 P ops (idx.map fun i=>ops.getD i default)=some l ->
      St P nt ds ρ0 h0 w0 ρ h w e a->YW call nt l e h k=R->wpOps P ops Q idx a w
  |[],l,ρ,h,w,e,a,_,hl,s,hr=>by
    simp only[List.map_nil,Xa0,Option.some.injEq] at hl;subst hl;exact hn ρ h w e a s hr
  |i::idx,l,ρ,h,w,e,a,hidx,hl,s,hr=>by
    have hi:i<ops.size:=hidx i (by simp)
    have hget:ops[i]? = some (ops.getD i default):=by
      rw[Array.getD_eq_getD_getElem?,Array.getElem?_eq_getElem hi]; rfl
    simp only[List.map_cons,Xa0] at hl
    generalize ops.getD i default=o at hget hl
    split at hl
    . rename_i c l' hci hcis
      simp only[Option.some.injEq] at hl;subst hl
      have hgo:Xa0 P ops (idx.map fun i=>ops.getD i default)=some l':=hcis
      obtain⟨e1,e2,e3⟩:=XdS hci;have IH:=fun ρ h w e a=>Xgu hgood hcall hR hn hp idx l' ρ h w e a (fun j hj=>hidx j (by simp[hj])) hgo
      simp only[YW] at hr;simp only[wpOps,hget];split at hr
      . exact absurd hr.symm hR
      . rename_i hk
        have hk:known e c.g=true:=by simpa using hk
        rw[XeG e3 s.cx.er hk];split at hr
        . rename_i hw
          rw[if_pos hw];refine .inl ?_
          have hgd:=Y7 hgood s.cx.gr.1 s.cx.wh s.cx.we (c:=c.op) (by rw[e2]; exact XR s.cx.gr.1 (W9 P o))
          rw[e2] at hr hgd;refine XiA hcall s.cx ?_ ?_ ?_
          . intro hno
            rw[hno] at hr;exact hR hr.symm
          . intro v h' x w' ρ' hst hv hpo
            rw[hst] at hr hgd
            have:=IH ρ' h' w' _ _ (s.put hv hpo hgd.2.1 hgd.2.2 c.dst) hr
            rwa [e1] at this
          . intro v h' x w' ρ' hst hv hpo
            rw[hst] at hr;exact hp v x ρ' h' w' a hr.symm hv (s.post.trans hpo) s.df
        . rename_i hw
          rw[if_neg hw]
          have:=IH ρ h w _ _ (s.put (Xgg) (.refl s.cx.r) s.cx.wh trivial c.dst) hr
          rwa [e1] at this
    . cases hl
def Ex (P:Program)(nt:Nat)(ds:List Deferred)(ρ0:Rho)(h0:H)(w0:World)(R:Res)(rk:K)(x:List (Nat×K))(k:K):Exit->Act->World->Prop
  | .normal,a,w=>∃ ρ h e,St P nt ds ρ0 h0 w0 ρ h w e a/\k e h=R
  | .ret,a,w=>∃ ρ h e,St P nt ds ρ0 h0 w0 ρ h w e a/\rk e h=R
  | .exit id,a,w=>∃ ρ h e k',St P nt ds ρ0 h0 w0 ρ h w e a/\look id x=some k'/\k' e h=R
  | .panic ch,a,w=>∃ v y ρ h,R=.pan v h/\ch=[{ v:=y,recovered:=false }]/\VRel ρ h v y/\Post ρ0 h0 w0 ρ h w/\a.defers=ds
  |_,_,_=>False
def Xic (P:Program)(call:Nat->List V->H->Res):Prop :=
  ∀ (id:Nat) (ops:Array Oper) (m:Nat) (al ord:List Nat) (l:List CI),Xhy P ops=some (m,al,ord,l) ->
    ∀ (nt:Nat) (ds:List Deferred) (ρ0:Rho) (h0:H) (w0:World) (ρ:Rho) (h:H) (w:World) (e:T V) (a:Act) (R:Res) (rk:K) (x:List (Nat×K)) (k:K),R ≠ .no ->
      St P nt ds ρ0 h0 w0 ρ h w e a->Yb call nt al l m e h k=R->(Code.region id ops true).wp P (Ex P nt ds ρ0 h0 w0 R rk x k) a w
theorem XkU {c : Code} {Q : Exit → Act → World → Prop} (J : Nat → Act → World → Prop) {n : Nat} {a : Act} {w : World} (hj : J n a w)
    (round:∀ n a w,J n a w->c.wp P (Exit.then (fun a' w'=>∃ m,m<n/\J m a' w') Q) a w):(Code.loop c).wp P Q a w:=by
  intro b k cs
  have key:∀ n a w,J n a w->∃ e a' w',Q e a' w'/\Arrives P (lone (b.at a (.code c::.inLoop c::k)) cs w) b k cs e a' w':=by
    intro n
    induction n using Nat.strongRecOn with
    |_ n ih =>
      intro a w hI;obtain⟨e,a₁,w₁,hq,harr⟩:=round n a w hI b (.inLoop c::k) cs
      cases e with
      |normal =>
        obtain⟨m,hlt,hI₁⟩:=hq;obtain⟨e₂,a₂,w₂,hq₂,harr₂⟩:=ih m hlt a₁ w₁ hI₁
        exact⟨e₂,a₂,w₂,hq₂,.of_steps (Steps.trans harr (.one step_inLoop)) harr₂⟩
      |exit id=>exact⟨_,a₁,w₁,hq,.pass (x:=.inLoop c) rfl (fun _ _=>.inl (by simp)) harr⟩
      |goto l=>exact⟨_,a₁,w₁,hq,.pass (x:=.inLoop c) rfl (fun _ _=>.inl (by simp)) harr⟩
      |ret=>exact⟨_,a₁,w₁,hq,.pass (x:=.inLoop c) rfl (fun _ _=>.inl (by simp)) harr⟩
      |panic ch=>exact⟨_,a₁,w₁,hq,.pass (x:=.inLoop c) rfl (fun _ _=>.inl (by simp)) harr⟩
      |outgrown=>exact⟨_,a₁,w₁,hq,.pass (x:=.inLoop c) rfl (fun _ _=>.inl (by simp)) harr⟩
  obtain⟨e,a',w',hq,harr⟩:=key _ a w hj
  exact⟨e,a',w',hq,.of_steps (.one step_loop) harr⟩
theorem Xjo (ops:Array Oper):(List.range ops.size).map (fun i=>ops.getD i default)=ops.toList:=by
  apply List.ext_getElem?
  intro i;rw[List.getElem?_map]
  by_cases hi:i<ops.size
  . rw[List.getElem?_range hi]
    simp[Array.getD_eq_getD_getElem?,hi]
  . have h1:(List.range ops.size)[i]? = none:=by simp; omega
    have h2:ops.toList[i]? = none:=by simp; omega
    rw[h1,h2]; rfl
theorem XfA (hgood : Xm P.globals.size call) (hcall : XM P call) (hdraw : Xic P call) : ∀ (c : Code) (ρ : Rho) (h : H) (w : World) (e : T V) (a : Act) (R : Res) (rk : K) (x : List (Nat × K)) (k : K), R ≠ .no →
    St P nt ds ρ0 h0 w0 ρ h w e a->exec call fuel nt (codeOf P c) e h rk x k=R->c.wp P (Ex P nt ds ρ0 h0 w0 R rk x k) a w:=by
  intro c
  induction c with
  |skip=>intro ρ h w e a R rk x k hR s hr; exact wp_skip ⟨ρ,h,e,s,hr⟩
  |region id ops d =>
    intro ρ h w e a R rk x k hR s hr
    cases d with
    |true =>
      simp only[codeOf,if_true] at hr;split at hr
      . rename_i m al ord l hd
        exact hdraw id ops m al ord l hd nt ds ρ0 h0 w0 ρ h w e a R rk x k hR s hr
      . exact absurd hr.symm hR
    |false =>
      simp only[codeOf,Bool.false_eq_true,if_false] at hr;split at hr
      . rename_i l hl
        refine wp_region (Xgu hgood hcall hR ?_ ?_ (List.range ops.size) l ρ h w e a (fun i hi=>List.mem_range.1 hi) (by rw[Xjo]; exact hl) s hr)
        . intro ρ h w e a s hk; exact⟨ρ,h,e,s,hk⟩
        . intro v y ρ h w a h1 h2 h3 h4; exact⟨v,y,ρ,h,h1,rfl,h2,h3,h4⟩
      . exact absurd hr.symm hR
  |seq c d ihc ihd =>
    intro ρ h w e a R rk x k hR s hr;refine wp_seq (wp_mono (ihc ρ h w e a R rk x _ hR s hr) ?_);intro ex a1 w1 hq
    cases ex with
    |normal=>obtain⟨ρ1,h1,e1,s1,hk⟩:=hq; exact ihd ρ1 h1 w1 e1 a1 R rk x k hR s1 hk
    |_=>exact hq
  |cond o c d ihc ihd =>
    intro ρ h w e a R rk x k hR s hr;simp only[codeOf] at hr;split at hr
    . rename_i y hy
      have rx:=s.cx.opd hy;simp only[exec] at hr;split at hr
      . rename_i hb; rw[hb] at rx
        exact wp_cond_true (Yr rx) (ihc ρ h w e a R rk x k hR s hr)
      . rename_i hb; rw[hb] at rx
        exact wp_cond_false (Yr rx) (ihd ρ h w e a R rk x k hR s hr)
      . exact absurd hr.symm hR
    . exact absurd hr.symm hR
  |block id c ih =>
    intro ρ h w e a R rk x k hR s hr;refine wp_block (wp_mono (ih ρ h w e a R rk _ k hR s hr) ?_);intro ex a1 w1 hq
    cases ex with
    |exit id' =>
      obtain⟨ρ1,h1,e1,k',s1,hl,hk⟩:=hq;simp only[look] at hl;simp only[Exit.inBlock]
      by_cases hid:id'=id
      . subst hid
        simp only[if_true,Option.some.injEq] at hl ⊢;subst hl
        exact⟨ρ1,h1,e1,s1,hk⟩
      . have hid':¬ id=id':=fun h=>hid h.symm
        rw[if_neg hid'] at hl;rw[if_neg hid]
        exact⟨ρ1,h1,e1,k',s1,hl,hk⟩
    |_=>exact hq
  |loop c ih =>
    intro ρ h w e a R rk x k hR s hr;refine XkU (fun n a w=>∃ ρ h e,St P nt ds ρ0 h0 w0 ρ h w e a/\ZT (fun e h k'=>exec call fuel nt (codeOf P c) e h rk x k') n e h=R) ⟨ρ,h,e,s,hr⟩ ?_
    rintro n a w ⟨ρ,h,e,s,hr⟩
    cases n with
    |zero=>exact absurd hr.symm hR
    |succ n =>
      simp only[ZT] at hr;refine wp_mono (ih ρ h w e a R rk x _ hR s hr) ?_
      intro ex a1 w1 hq
      cases ex with
      |normal=>obtain⟨ρ1,h1,e1,s1,hk⟩:=hq; exact⟨n,Nat.lt_succ_self n,ρ1,h1,e1,s1,hk⟩
      |_=>exact hq
  |rangeFunc f ps c d=>intro ρ h w e a R rk x k hR s hr; exact absurd hr.symm hR
  |exit id =>
    intro ρ h w e a R rk x k hR s hr;simp only[codeOf,exec] at hr;split at hr
    . rename_i k' hk'
      exact wp_exit ⟨ρ,h,e,k',s,hk',hr⟩
    . exact absurd hr.symm hR
  |scope c ih =>
    intro ρ h w e a R rk x k hR s hr;refine wp_scope_straight (wp_mono (ih ρ h w e a R rk x k hR s hr) ?_);intro ex a1 w1 hq
    cases ex<;>exact hq
  |label l=>intro ρ h w e a R rk x k hR s hr; exact wp_label ⟨ρ,h,e,s,hr⟩
  |goto l=>intro ρ h w e a R rk x k hR s hr; exact absurd hr.symm hR
  |ret=>intro ρ h w e a R rk x k hR s hr; exact wp_ret ⟨ρ,h,e,s,hr⟩
  |refuse why=>intro ρ h w e a R rk x k hR s hr; exact absurd hr.symm hR
end
end Go.Vm
namespace Go.Vm
section
variable {P:Program}{ρ:Rho}{h:H}{w:World}{e:T V}{a:Act}
theorem XcO : ∀ (l : List V) (vs : List Value) (i : Nat) (e : T V) (tm : Array Value), VRels ρ h l vs → (∀ j, j < i → VRel ρ h (e.get .bot j) (tm.getD j undef)) → (∀ j, i ≤ j → e.get .bot j = .bot) →
    (∀ j v,vs[j]? = some v->tm[i+j]? = some v)->ERel ρ h (ZU l i e) tm
  |[],vs,i,e,tm,_,h1,h2,_=>fun j=>by
    simp only[ZU]
    by_cases hj:j<i
    . exact h1 j hj
    . rw[h2 j (by omega)]; exact .bot _
  |v::l,x::vs,i,e,tm,.cons hv hl,h1,h2,h3=>by
    simp only[ZU];refine XcO l vs (i+1) _ tm hl ?_ ?_ ?_
    . intro j hj
      rw[T.get_set]
      by_cases hji:j=i
      . subst hji
        rw[if_pos rfl,Array.getD_eq_getD_getElem?]
        have:=h3 0 x rfl
        rw[Nat.add_zero] at this;rw[this]; exact hv
      . rw[if_neg (fun e=>hji e.symm)]; exact h1 j (by omega)
    . intro j hj
      rw[T.get_set,if_neg (by omega)]
      exact h2 j (by omega)
    . intro j y hy
      have:=h3 (j+1) y (by simpa using hy)
      rwa [show i+1+j=i+(j+1) by omega]
theorem XeU {t n:Nat}{o i:Nat}{l:List V}{p:Pl} (r:HRel ρ h w)(hp:ρ o=some p)(ha:isAg P t=some true)(hn:Xq P t=some n)(hl:YN h o i n=some l) :
    ∃ vs,(Go.loadVar t ⟨p.B,p.b+i,none⟩).run P w=.ok (.agg vs) w/\VRels ρ h l vs.toList:=by
  obtain⟨vs,v1,v2,v3,v4⟩:=ZK (P:=P) r hp hl
  exact⟨vs.toArray,by simp[Go.loadVar,Wu ha,X6 hn,v3],by simpa using v1⟩
def WR (a:Act):ResultVar->Sem Value
  | .tmp t=>pure (a.tmps.getD t undef)
  | .cell b t=>do Go.loadVar t (← asAddr (a.tmps.getD b undef))
theorem ZH (c : Cx P ρ h w e a) : ∀ (rs : List ResultVar) (cs : List CR) (l : List V), Xdj P rs = some cs → resL e h cs = some l →
    ∃ vs,(rs.mapM (WR a):Sem (List Value)).run P w=.ok vs w/\VRels ρ h l vs
  |[],cs,l,h1,h2=>by
    simp only[Xdj,Option.some.injEq] at h1; subst h1
    simp only[resL,Option.some.injEq] at h2; subst h2
    exact⟨[],by simp,.nil⟩
  | .tmp t::r,cs,l,h1,h2=>by
    simp only[Xdj] at h1;split at h1
    . rename_i cs' hcs
      simp only[Option.some.injEq] at h1; subst h1
      simp only[resL,resV] at h2;split at h2
      . rename_i v l' hv hl
        simp only[Option.some.injEq] at h2 hv; subst h2 hv
        obtain⟨vs,q1,q2⟩:=ZH c r cs' l' hcs hl
        exact⟨_::vs,by simp only[List.mapM_cons,WR,Sem.run_bind,Sem.run_pure,Result.andThen_ok]; rw[q1]; rfl,.cons (c.er t) q2⟩
      . cases h2
    . cases h1
  | .cell b t :: r, cs, l, h1, h2 => by
    simp only[Xdj] at h1;split at h1
    . rename_i n cs' ha hn hcs
      simp only[Option.some.injEq] at h1; subst h1
      simp only[resL] at h2;split at h2
      . rename_i v l' hv hl
        simp only[Option.some.injEq] at h2; subst h2
        obtain⟨vs,q1,q2⟩:=ZH c r cs' l' hcs hl;simp only[resV] at hv;split at hv
        . rename_i o j hb
          split at hv
          . rename_i lc hlc
            simp only[Option.some.injEq] at hv; subst hv
            have rx:=c.er b;rw[hb] at rx;obtain⟨m,tt,sp,el,fz,hg,_⟩:=Zk hlc;obtain⟨p,hp,hxe⟩:=Yl rx (by rw[hg]; simp)
            obtain⟨xs,x1,x2⟩:=XeU (P:=P) c.r hp ha hn hlc
            have ha':(asAddr (a.tmps.getD b undef)).run P w=.ok ⟨p.B,p.b+j,none⟩ w:=by rw[hxe]; rfl
            exact⟨_::vs,by simp only[List.mapM_cons,WR,Sem.run_bind,ha',Sem.run_pure,Result.andThen_ok,x1]; rw[q1]; rfl,.cons (.agg x2) q2⟩
          . cases hv
        . cases hv
      . cases h2
    . rename_i n cs' ha hn hcs
      simp only[Option.some.injEq] at h1; subst h1
      simp only[resL] at h2;split at h2
      . rename_i v l' hv hl
        simp only[Option.some.injEq] at h2; subst h2
        obtain⟨vs,q1,q2⟩:=ZH c r cs' l' hcs hl;simp only[resV] at hv;split at hv
        . rename_i o j hb
          split at hv
          . rename_i v' hlc
            simp only[Option.some.injEq] at hv; subst hv
            have rx:=c.er b;rw[hb] at rx;obtain⟨m,tt,sp,el,fz,hg,_⟩:=Zk hlc;obtain⟨p,hp,hxe⟩:=Yl rx (by rw[hg]; simp)
            obtain⟨xs,v1,v2,v3,v4⟩:=ZK (P:=P) c.r hp hlc
            cases v1 with
            |cons hv1 hv2 =>
              rename_i x xs;have hc:=v4 0 x rfl;rw[Nat.add_zero] at hc
              refine⟨x::vs,?_,.cons hv1 q2⟩
              have ha':(asAddr (a.tmps.getD b undef)).run P w=.ok ⟨p.B,p.b+j,none⟩ w:=by rw[hxe]; rfl
              have x1:(Go.loadVar t ⟨p.B,p.b+j,none⟩).run P w=.ok x w:=by
                simp only[Go.loadVar,Sem.run_bind,Wu ha,Result.andThen_ok,Bool.false_eq_true,if_false,run_load,hc]
              simp only[List.mapM_cons,WR,Sem.run_bind,ha',Sem.run_pure,Result.andThen_ok,x1];rw[q1]; rfl
          . cases hv
        . cases hv
      . cases h2
    . cases h1
theorem Xau (c:Cx P ρ h w e a) {fn:Func}{cs:List CR} (hcs:Xdj P fn.results.toList=some cs) {R:Res} (hr:Vm.results cs e h=R)(hR:R ≠ .no) :
    ∃ v x,R=.ok v h/\(Go.results fn a.tmps).run P w=.ok x w/\VRel ρ h v x:=by
  unfold Vm.results at hr;split at hr
  . rename_i v hl
    obtain⟨vs,q1,q2⟩:=ZH c _ cs _ hcs hl
    cases q2 with
    |cons hv hn =>
      cases hn;rename_i x
      refine⟨v,x,hr.symm,?_,hv⟩
      have hdef:Go.results fn a.tmps=(do let vs ← fn.results.mapM (WR a); pure (if h:vs.size=1 then vs[0] else .tuple vs)):=rfl
      rw[hdef];simp only[Array.mapM_eq_mapM_toList,Sem.run_bind,Sem.run_map];rw[q1];rfl
  . rename_i l hne hl
    obtain⟨vs,q1,q2⟩:=ZH c _ cs _ hcs hl
    refine⟨.tup l,.tuple vs.toArray,hr.symm,?_,.tup (by simpa using q2)⟩
    have hdef:Go.results fn a.tmps=(do let vs ← fn.results.mapM (WR a); pure (if h:vs.size=1 then vs[0] else .tuple vs)):=rfl
    rw[hdef];simp only[Array.mapM_eq_mapM_toList,Sem.run_bind,Sem.run_map];rw[q1];have hlen:=q2.length
    have:¬ vs.toArray.size=1:=by
      intro h1
      have h1:vs.length=1:=by simpa using h1
      rw[hlen] at h1
      match l,h1 with
      |[v],_=>exact hne v rfl
    simp only[Result.andThen_ok,Sem.run_pure,this,dif_neg,not_false_eq_true]
  . exact absurd hr.symm hR
theorem Z9 {f : Nat} {c : CFn} (hc : fnOf P f = some c) : ∃ fn b, P.funcs[f]? = some fn ∧ fn.body = some b ∧ fn.name ≠ "runtime.NumGoroutine" ∧ Xdj P fn.results.toList = some c.res ∧ c.nt = fn.ntmps ∧ c.body = codeOf P b := by
  unfold fnOf at hc;split at hc
  . cases hc
  . rename_i fn hf
    split at hc
    . cases hc
    . rename_i b hb
      split at hc
      . cases hc
      . rename_i hn
        split at hc
        . rename_i r hr
          simp only[Option.some.injEq] at hc; subst hc
          exact⟨fn,b,hf,hb,hn,hr,rfl,rfl⟩
        . cases hc
theorem Xd0 {ops:Array Oper}:∀ (l:List Oper) (cs:List CI),Xa0 P ops l=some cs->Xc5 P.globals.size cs
  |[],cs,h=>by simp only[Xa0,Option.some.injEq] at h; subst h; intro i hi; cases hi
  |o::r,cs,h=>by
    simp only[Xa0] at h;split at h
    . rename_i c l hc hl
      simp only[Option.some.injEq] at h; subst h
      intro i hi
      rcases List.mem_cons.1 hi with rfl | hi
      . rw[(XdS hc).2.1]; exact W9 P o
      . exact Xd0 r l hl i hi
    . cases h
theorem Xel {ops : Array Oper} {m : Nat} {al ord : List Nat} {l : List CI} (hd : Xhy P ops = some (m, al, ord, l)) : Xa0 P ops (ordered ops ord) = some l ∧ XjD ops ord m al l = true := by
  unfold Xhy at hd
  simp only at hd
  split at hd
  . rename_i r hr
    simp only[Option.some.injEq] at hd;subst hd;split at hr
    . rename_i l' hl
      split at hr
      . rename_i hok
        simp only[Option.some.injEq,Prod.mk.injEq] at hr;obtain⟨rfl,rfl,rfl,rfl⟩:=hr
        exact⟨hl,hok⟩
      . cases hr
    . cases hr
  . split at hd
    . rename_i l' hl
      split at hd
      . rename_i hok
        simp only[Option.some.injEq,Prod.mk.injEq] at hd;obtain⟨rfl,rfl,rfl,rfl⟩:=hd
        exact⟨hl,hok⟩
      . cases hd
    . cases hd
theorem WT (P : Program) (c : Code) : ccWf P.globals.size (codeOf P c) := by
  induction c with
  |region id ops d =>
    simp only[codeOf];split
    . split
      . rename_i hd
        exact Xd0 _ _ (Xel hd).1
      . trivial
    . split
      . exact Xd0 _ _ (by assumption)
      . trivial
  |seq a b iha ihb=>exact⟨iha,ihb⟩
  |cond c a b iha ihb =>
    simp only[codeOf];split
    . exact⟨iha,ihb⟩
    . trivial
  |block id b ih=>exact ih
  |loop b ih=>exact ih
  |scope b ih=>exact ih
  |_=>trivial
def Tab (P:Program)(tab:Nat->Option CFn):Prop:=∀ f c,tab f=some c->fnOf P f=some c
theorem Xmm {tab:Nat->Option CFn} (ht:Tab P tab)(n:Nat):Xm P.globals.size (Vm.call tab n) :=
  XgD (fun f c hc=>by
    obtain⟨fn,b,_,_,_,_,_,h7⟩:=Z9 (ht f c hc);rw[h7]; exact WT P b) n
theorem XfL {tab : Nat → Option CFn} (ht : Tab P tab) (hdraw : ∀ call, Xm P.globals.size call → XM P call → Xic P call) : ∀ n, XM P (Vm.call tab n)
  |0=>fun f args h ρ w vs _ _ _ _ _ hno=>absurd rfl hno
  | n + 1 => by
    intro f args h ρ w vs r wh g hwa hvs hno;have hgood:=Xmm ht n;have hcall:=XfL ht hdraw n;have hd:=hdraw _ hgood hcall
    generalize hR:Vm.call tab (n+1) f args h=R at hno ⊢
    simp only[Vm.call] at hR;split at hR
    . exact absurd hR.symm hno
    . rename_i c hc
      obtain⟨fn,b,h1,h2,h3,h4,h5,h6⟩:=Z9 (ht f c hc);split at hR
      . rename_i hlen
        refine⟨⟨fn,h1,h3,by rw[h2]; rfl⟩,calls_of_wp h1 h2 ?_⟩
        have hvl:=hvs.length
        have hsz:(vs.toArray++Array.replicate (fn.ntmps-vs.toArray.size) undef).size=c.nt:=by
          simp; omega
        have her:ERel ρ h (ZU args 0 .lf) (vs.toArray++Array.replicate (fn.ntmps-vs.toArray.size) undef):=by
          refine XcO args vs 0 .lf _ hvs (fun j hj=>by omega) (fun j _=>T.get_lf _ _) ?_
          intro j v hv
          have hj:j<vs.length:=(List.getElem?_eq_some_iff.1 hv).1
          rw[Nat.zero_add,Array.getElem?_append_left (by simpa using hj)]
          simpa using hv
        have hcx:Cx P ρ h w (ZU args 0 .lf) { tmps:=vs.toArray++Array.replicate (fn.ntmps-vs.toArray.size) undef,defers:=[] } :=
          ⟨r,wh,XaC args 0 _ hwa (fun i=>by rw[T.get_lf]; trivial),her,g⟩
        rw[h6] at hR;have hwp:=XfA (P:=P) (nt:=c.nt) (ds:=[]) (fuel:=n) hgood hcall hd b ρ h w (ZU args 0 .lf) _ R _ [] _ hno ⟨hcx,.refl r,hsz,rfl⟩ hR;refine wp_mono hwp ?_
        intro ex a1 w1 hq
        cases ex with
        |normal =>
          obtain⟨ρ1,h1',e1,s1,hk⟩:=hq;obtain⟨v,x,hRe,hrun,hv⟩:=Xau s1.cx h4 hk hno
          refine⟨s1.df,x,hrun,?_⟩
          rw[hRe]
          exact⟨ρ1,hv,s1.post⟩
        |ret =>
          obtain⟨ρ1,h1',e1,s1,hk⟩:=hq;obtain⟨v,x,hRe,hrun,hv⟩:=Xau s1.cx h4 hk hno
          refine⟨s1.df,x,hrun,?_⟩
          rw[hRe]
          exact⟨ρ1,hv,s1.post⟩
        |exit id =>
          obtain⟨ρ1,h1',e1,k',s1,hl,hk⟩:=hq;cases hl
        |panic ch =>
          obtain⟨v,y,ρ1,h1',hRe,hch,hv,hpo,hdf⟩:=hq
          refine⟨hdf,?_⟩
          rw[hRe]
          exact⟨y,ρ1,hch,hv,hpo⟩
        |goto l=>exact hq.elim
        |outgrown=>exact hq.elim
      . exact absurd hR.symm hno
end
end Go.Vm
namespace Go.Vm
open Region
theorem Xft : ∀ (n : Nat) (l : List Nat), l.Nodup → (∀ i ∈ l, i < n) → l.length ≤ n
  |0,l,_,h=>by
    cases l with
    |nil=>simp
    |cons x r=>exact absurd (h x (by simp)) (by omega)
  | n + 1, l, hn, h => by
    by_cases hm:n∈l
    . have h1:=Xft n (l.erase n) (hn.erase n) (fun i hi=>by
        have:=(hn.mem_erase_iff).1 hi
        have:=h i this.2
        omega)
      rw[List.length_erase_of_mem hm] at h1;omega
    . have h1:=Xft n l hn (fun i hi=>by
        have:=h i hi
        have:i ≠ n:=fun e=>hm (e▸hi)
        omega)
      omega
theorem Xc3 : ∀ (n : Nat) (l : List Nat), l.Nodup → (∀ i ∈ l, i < n) → l.length = n → ∀ i, i < n → i ∈ l
  |0,_,_,_,_,i,hi=>by omega
  | n + 1, l, hn, h, hl, i, hi => by
    by_cases hm:n∈l
    . by_cases hin:i=n
      . exact hin▸hm
      . have h1:=Xc3 n (l.erase n) (hn.erase n) (fun j hj=>by
          have:=(hn.mem_erase_iff).1 hj
          have:=h j this.2
          omega) (by rw[List.length_erase_of_mem hm]; omega) i (by omega)
        exact List.mem_of_mem_erase h1
    . have h1:=Xft n l hn (fun j hj=>by
        have:=h j hj
        have:j ≠ n:=fun e=>hm (e▸hj)
        omega)
      omega
structure LInv (md:Region.Mode)(ops:Array Oper)(listed:Array Bool)(acc:List Nat):Prop where
  sz:listed.size=ops.size
  lt:∀ i∈acc,i<ops.size
  nd:acc.Nodup
  li:∀ i,listed.getD i false=true<->i∈acc
  ord:∀ l1 i l2,acc.reverse=l1++i::l2->∀ e∈(ops.getD i default).after.toList,binds md e=true->e.on∈l1
def readies (md:Region.Mode)(ops:Array Oper)(listed:Array Bool):List Nat:=(List.range ops.size).filter fun i =>
  !listed.getD i true&&((ops[i]?).map (·.after.all fun e=>!binds md e||listed.getD e.on false)).getD false
theorem getD_lt {ops:Array Oper}{i:Nat} (hi:i<ops.size):ops[i]? = some (ops.getD i default):=by
  rw[Array.getD_eq_getD_getElem?,Array.getElem?_eq_getElem hi]; rfl
theorem Xee {md:Region.Mode}{ops:Array Oper}{listed:Array Bool}{i:Nat}:i∈readies md ops listed<->i<ops.size/\listed.getD i true=false/\∀ e∈(ops.getD i default).after.toList,binds md e=true->listed.getD e.on false=true:=by
  unfold readies;rw[List.mem_filter,List.mem_range]
  refine⟨fun⟨h1,h2⟩=>?_,fun⟨h1,h2,h3⟩=>⟨h1,?_⟩⟩
  . rw[getD_lt h1] at h2
    simp only[Option.map_some,Option.getD_some,Bool.and_eq_true,Bool.not_eq_true',Array.all_eq_true_iff_forall_mem] at h2
    refine⟨h1,h2.1,fun e he hb=>?_⟩
    have:=h2.2 e (by simpa using he)
    simpa [hb] using this
  . rw[getD_lt h1]
    simp only[Option.map_some,Option.getD_some,Bool.and_eq_true,Bool.not_eq_true',Array.all_eq_true_iff_forall_mem]
    refine⟨h2,fun e he=>?_⟩
    cases hb:binds md e with
    |false=>rfl
    |true=>simpa using h3 e (by simpa using he) hb
theorem LInv.step {md:Region.Mode}{ops:Array Oper}{listed:Array Bool}{acc:List Nat} (v:LInv md ops listed acc) {i:Nat} (hi:i∈readies md ops listed):LInv md ops (listed.setIfInBounds i true) (i::acc):=by
  obtain⟨h1,h2,h3⟩:=Xee.1 hi
  have hnl:i ∉ acc:=by
    intro hm;have h4:=(v.li i).2 hm;rw[Array.getD_eq_getD_getElem?] at h2 h4
    cases hx:listed[i]? with
    |none=>rw[hx] at h2; cases h2
    |some b=>rw[hx] at h2 h4; simp at h2 h4; rw[h2] at h4; cases h4
  refine⟨by simp[v.sz],?_,List.nodup_cons.2 ⟨hnl,v.nd⟩,?_,?_⟩
  . intro j hj
    rcases List.mem_cons.1 hj with rfl | hj
    . exact h1
    . exact v.lt j hj
  . intro j
    rw[Array.getD_eq_getD_getElem?,Array.getElem?_setIfInBounds]
    by_cases hij:i=j
    . subst hij
      simp[v.sz,h1]
    . rw[if_neg hij]
      have:=v.li j
      rw[Array.getD_eq_getD_getElem?] at this;rw[this];simp only[List.mem_cons]
      exact⟨.inr,fun h=>h.elim (fun e=>absurd e.symm hij) id⟩
  . intro l1 j l2 hl e he hb
    simp only[List.reverse_cons] at hl
    rcases List.eq_nil_or_concat l2 with rfl | ⟨l2',x,rfl⟩
    . have:=List.append_inj' hl rfl
      obtain⟨ha,hb'⟩:=this;simp only[List.cons.injEq,and_true] at hb';subst hb' ha
      have:=(v.li e.on).1 (h3 e he hb)
      simpa using this
    . have hl':acc.reverse++[i]=(l1++j::l2')++[x]:=by rw[hl]; simp
      obtain⟨ha,_⟩:=List.append_inj' hl' rfl;exact v.ord l1 j l2' ha e he hb
theorem Xhq {md : Region.Mode} {ops : Array Oper} : ∀ (fuel t : Nat) (listed : Array Bool) (acc : List Nat), LInv md ops listed acc →
    ∃ listed' acc',LInv md ops listed' acc'/\linearise.go md ops fuel t listed acc=acc'.reverse/\(acc'.length=acc.length+fuel∨readies md ops listed'=[])
  |0,t,listed,acc,v=>⟨listed,acc,v,by simp[linearise.go],.inl rfl⟩
  |fuel+1,t,listed,acc,v=>by
    have hgo:linearise.go md ops (fuel+1) t listed acc=(match (readies md ops listed)[t%(readies md ops listed).length]? with
      |some i=>linearise.go md ops fuel (t / (readies md ops listed).length) (listed.setIfInBounds i true) (i::acc)
      |none=>acc.reverse):=rfl
    rw[hgo];split
    . rename_i i hi
      have hm:i∈readies md ops listed:=List.mem_of_getElem? hi
      obtain⟨l',a',v',e,h⟩:=Xhq fuel (t / (readies md ops listed).length) _ _ (v.step hm)
      refine⟨l',a',v',e,?_⟩
      rcases h with h | h
      . exact .inl (by rw[h]; simp; omega)
      . exact .inr h
    . rename_i hn
      refine⟨listed,acc,v,rfl,.inr ?_⟩
      cases hr:readies md ops listed with
      |nil=>rfl
      |cons x r =>
        rw[hr] at hn
        have:t%(x::r).length<(x::r).length:=Nat.mod_lt _ (by simp)
        rw[List.getElem?_eq_getElem this] at hn;cases hn
theorem LInv.init (md:Region.Mode)(ops:Array Oper):LInv md ops (Array.replicate ops.size false) []:=by
  refine⟨by simp,by simp,by simp,?_,?_⟩
  . intro i
    simp only[List.not_mem_nil,iff_false,Array.getD_eq_getD_getElem?,Array.getElem?_replicate]
    split<;>simp
  . intro l1 i l2 h
    simp at h
structure Order (md:Region.Mode)(ops:Array Oper)(l:List Nat):Prop where
  lt:∀ i∈l,i<ops.size
  nd:l.Nodup
  all:∀ i,i<ops.size->i∈l
  ord:∀ l1 i l2,l=l1++i::l2->∀ e∈(ops.getD i default).after.toList,binds md e=true->e.on∈l1
theorem Xho (md:Region.Mode)(ops:Array Oper)(t:Nat):∀ i∈linearise md ops t,i<ops.size:=by
  obtain⟨listed,acc,v,e,_⟩:=Xhq ops.size t _ _ (LInv.init md ops);intro i hi
  have:linearise md ops t=acc.reverse:=e
  rw[this] at hi;exact v.lt i (by simpa using hi)
theorem XgK {α:Type} (l1:List α)(x:α)(l2:List α):(x,l1.length)∈(l1++x::l2).zipIdx:=by
  rw[List.mem_zipIdx_iff_getElem?]
  simp
theorem Xfk {md : Region.Mode} {ops : Array Oper} {l0 : List Nat} (hr : Ww md ops l0 = true) (hlt : ∀ i ∈ l0, i < ops.size) (t : Nat) : Order md ops (linearise md ops t) := by
  obtain⟨listed,acc,v,e,hend⟩:=Xhq ops.size t _ _ (LInv.init md ops)
  have he:linearise md ops t=acc.reverse:=e
  simp only[Ww,Bool.and_eq_true,List.all_eq_true,List.mem_range,List.contains_iff_mem] at hr;obtain⟨hall,hedge⟩:=hr
  have hfull : ∀ i, i < ops.size → i ∈ acc := by
    rcases hend with h | h
    . exact Xc3 ops.size acc v.nd v.lt (by simpa using h)
    . -- the first of l0 that is not listed would be ready
      have key:∀ (l2 l1:List Nat),l0=l1++l2->(∀ i∈l1,i∈acc)->∀ i∈l0,i∈acc:=by
        intro l2
        induction l2 with
        |nil=>intro l1 h1 h2; rw[h1,List.append_nil]; exact h2
        |cons x r ih =>
          intro l1 h1 h2;refine ih (l1++[x]) (by rw[h1]; simp) ?_
          intro i hi
          rcases List.mem_append.1 hi with hi | hi
          . exact h2 i hi
          . simp only[List.mem_singleton] at hi
            subst hi
            by_cases hm:i∈acc
            . exact hm
            . exfalso
              have hlt':i<ops.size:=hlt i (by rw[h1]; simp)
              have:i∈readies md ops listed:=by
                refine Xee.2 ⟨hlt',?_,?_⟩
                . have hf:listed.getD i false=false:=by
                    cases hx:listed.getD i false with
                    |false=>rfl
                    |true=>exact absurd ((v.li i).1 hx) hm
                  rw[Array.getD_eq_getD_getElem?] at hf ⊢
                  have:i<listed.size:=by rw[v.sz]; exact hlt'
                  rw[Array.getElem?_eq_getElem this] at hf ⊢;exact hf
                . intro ed hed hb
                  have h3:=hedge (i,l1.length) (by rw[h1]; exact XgK l1 i r)
                  simp only[List.all_eq_true,Bool.or_eq_true,Bool.not_eq_true',List.contains_iff_mem] at h3
                  rcases h3 ed hed with h4 | h4
                  . rw[hb] at h4; cases h4
                  . rw[h1] at h4
                    simp only[List.take_left] at h4;exact (v.li ed.on).2 (h2 _ h4)
              rw[h] at this;cases this
      intro i hi;exact key l0 [] rfl (by simp) i (hall i hi)
  rw[he]
  refine⟨fun i hi=>v.lt i (by simpa using hi),(by unfold List.Nodup at *; rw[List.pairwise_reverse]; exact v.nd.imp fun h=>h.symm),fun i hi=>by simpa using hfull i hi,v.ord⟩
theorem XlM {md:Region.Mode}{e:Edge} (h:binds .any e=true):binds md e=true:=by
  unfold binds at *;split at h
  . cases h
  . cases h
  . rfl
theorem Order.any {md:Region.Mode}{ops:Array Oper}{l:List Nat} (o:Order md ops l):Order Region.Mode.any ops l :=
  ⟨o.lt,o.nd,o.all,fun l1 i l2 h e he hb=>o.ord l1 i l2 h e he (XlM hb)⟩
theorem XeT {ops:Array Oper} (h1:Ww .any ops (List.range ops.size)=true)(h2:Ww .text ops (List.range ops.size)=true)(h3:Ww .gc ops (linearise .gc ops 0)=true)(mixed:Bool)(t:Nat) :
    Order Region.Mode.any ops (schedule mixed ops t):=by
  unfold schedule;split
  . exact Xfk h1 (fun i hi=>List.mem_range.1 hi) t
  . split
    . exact (Xfk h2 (fun i hi=>List.mem_range.1 hi) (t / 2)).any
    . exact (Xfk h3 (Xho .gc ops 0) (t / 2)).any
theorem XiR (acc : List Nat) (i : Nat) : ∀ (l : List Edge) (s : Nat), (l.foldl (fun s e => if binds .any e then s ||| 2 ^ e.on ||| acc.getD e.on 0 else s) s).testBit i = true →
    s.testBit i=true∨∃ e∈l,binds .any e=true/\(i=e.on∨(acc.getD e.on 0).testBit i=true)
  |[],s,h=>.inl h
  |e::l,s,h=>by
    simp only[List.foldl_cons] at h
    rcases XiR acc i l _ h with h | ⟨e',he',h'⟩
    . split at h
      . rename_i hb
        simp only[Nat.testBit_or,Bool.or_eq_true,Nat.testBit_two_pow,decide_eq_true_eq] at h
        rcases h with (h | h) | h
        . exact .inl h
        . exact .inr ⟨e,by simp,hb,.inl h.symm⟩
        . exact .inr ⟨e,by simp,hb,.inr h⟩
      . exact .inl h
    . exact .inr ⟨e',by simp[he'],h'⟩
theorem XfR : ∀ (r : List Oper) (acc : List Nat), (Xb4 r acc).length = acc.length + r.length ∧ (∀ k, k < acc.length → (Xb4 r acc).getD k 0 = acc.getD k 0) ∧
    ∀ k o i,r[k]? = some o->((Xb4 r acc).getD (acc.length+k) 0).testBit i=true->∃ e∈o.after.toList,binds .any e=true/\(i=e.on∨(e.on<acc.length+k/\((Xb4 r acc).getD e.on 0).testBit i=true))
  |[],acc=>⟨rfl,fun _ _=>rfl,fun k o i h=>by simp at h⟩
  | o :: r, acc => by
    simp only[Xb4]
    generalize hx:o.after.toList.foldl (fun s e=>if binds .any e then s ||| 2 ^ e.on ||| acc.getD e.on 0 else s) 0=x
    obtain⟨h1,h2,h3⟩:=XfR r (acc++[x])
    have hl:(acc++[x]).length=acc.length+1:=by simp
    have hkeep:∀ k,k<acc.length->(Xb4 r (acc++[x])).getD k 0=acc.getD k 0:=by
      intro k hk;rw[h2 k (by omega),List.getD_eq_getElem?_getD,List.getD_eq_getElem?_getD,List.getElem?_append_left hk]
    refine⟨by rw[h1]; simp; omega,hkeep,?_⟩
    intro k o' i ho hb
    cases k with
    |zero =>
      simp only[List.getElem?_cons_zero,Option.some.injEq] at ho;subst ho;rw[Nat.add_zero,h2 _ (by omega),List.getD_eq_getElem?_getD,List.getElem?_append_right (Nat.le_refl _)] at hb
      simp only[Nat.sub_self,List.getElem?_cons_zero,Option.getD_some] at hb;rw[← hx] at hb
      rcases XiR acc i _ 0 hb with h | ⟨e,he,hbe,h⟩
      . simp at h
      . refine⟨e,he,hbe,?_⟩
        rcases h with h | h
        . exact .inl h
        . have hlt:e.on<acc.length:=by
            rcases Nat.lt_or_ge e.on acc.length with hlt | hge
            . exact hlt
            . rw[List.getD_eq_getElem?_getD,List.getElem?_eq_none hge] at h
              simp at h
          exact .inr ⟨by omega,by rw[hkeep _ hlt]; exact h⟩
    |succ k =>
      obtain⟨e,he,hbe,h⟩:=h3 k o' i (by simpa using ho) (by rw[hl]; rw[show acc.length+1+k=acc.length+(k+1) by omega]; exact hb)
      refine⟨e,he,hbe,?_⟩
      rcases h with h | ⟨h,h'⟩
      . exact .inl h
      . exact .inr ⟨by rw[hl] at h; omega,h'⟩
theorem XlN {ops:Array Oper}{l:List Nat} (o:Order Region.Mode.any ops l):∀ (k i:Nat),((Xb4 ops.toList []).getD k 0).testBit i=true->∀ l1 l2,l=l1++k::l2->i∈l1:=by
  intro k
  induction k using Nat.strongRecOn with
  |_ k ih =>
    intro i hb l1 l2 hl
    have hk:k<ops.size:=o.lt k (by rw[hl]; simp)
    obtain⟨_,_,h3⟩:=XfR ops.toList []
    have hget:ops.toList[k]? = some (ops.getD k default):=by
      rw[Array.getElem?_toList]; exact getD_lt hk
    obtain⟨e,he,hbe,h⟩:=h3 k _ i hget (by simpa using hb)
    have hon:=o.ord l1 k l2 hl e he hbe
    rcases h with rfl | ⟨hlt,h⟩
    . exact hon
    . obtain⟨a,b,hab⟩:=List.append_of_mem hon
      have hlt':e.on<k:=by simpa using hlt
      have:=ih e.on hlt' i h a (b++k::l2) (by rw[hl,hab]; simp)
      rw[hab];exact List.mem_append_left _ this
end Go.Vm
namespace Go.Vm
section
variable {call:Nat->List V->H->Res}{nt m:Nat}{l:List CI}{al:List Nat}{k:K}{R:Res}
theorem XcN {e e':T V}:∀ (ps:List (Nat×Nat×Opd)) (z:List V),(∀ p∈ps,opd e' p.2.2=opd e p.2.2)->fill e' z ps=fill e z ps
  |[],z,_=>rfl
  | (off,n,x)::r,z,h=>by
    have h1:opd e' x=opd e x:=h (off,n,x) (by simp)
    simp only[fill,h1];split
    . split
      . exact XcN r _ (fun p hp=>h p (by simp[hp]))
      . rfl
    . rfl
theorem XbO {e e':T V}{d:Nat}{x:Option Opd} (h:∀ y∈x.toList,opd e' y=opd e y):YL e' d x=YL e d x:=by
  cases x with
  |none=>rfl
  |some y=>simp only[YL,h y (by simp)]
theorem Xbs {e e':T V}{n c:Nat}{lo hi mx:Option Opd} (h1:∀ y∈lo.toList,opd e' y=opd e y)(h2:∀ y∈hi.toList,opd e' y=opd e y)(h3:∀ y∈mx.toList,opd e' y=opd e y):bounds e' n c lo hi mx=bounds e n c lo hi mx:=by
  simp only[bounds,XbO h1,XbO h2,XbO h3]
theorem XaX {e e':T V}{h:H}{c:COp} (O:∀ x∈c.opds,opd e' x=opd e x):step call e' h c=step call e h c:=by
  cases c
  case bld z ps =>
    have:fill e' z ps=fill e z ps:=XcN ps z (fun p hp=>O _ (by simp only[COp.opds]; exact List.mem_map.2 ⟨p,hp,rfl⟩))
    simp only[step,sBld,this]
  case bsl z len s el ps =>
    have:fill e' (repl z len) ps=fill e (repl z len) ps:=XcN ps _ (fun p hp=>O _ (by simp only[COp.opds]; exact List.mem_map.2 ⟨p,hp,rfl⟩))
    simp only[step,sBsl,this]
  case mkf f l =>
    have:l.map (opd e')=l.map (opd e):=List.map_congr_left O
    simp only[step,this]
  case calf f l =>
    have:l.map (opd e')=l.map (opd e):=List.map_congr_left O
    simp only[step,this]
  case mm b l =>
    have:l.map (opd e')=l.map (opd e):=List.map_congr_left O
    simp only[step,this]
  case calv f l =>
    have h1:opd e' f=opd e f:=O f (by simp[COp.opds])
    have:l.map (opd e')=l.map (opd e):=List.map_congr_left (fun x hx=>O x (by simp[COp.opds,hx]))
    simp only[step,this,h1]
  case slt x lo hi =>
    have h1:opd e' x=opd e x:=O x (by simp[COp.opds])
    have h2:∀ n c,bounds e' n c lo hi none=bounds e n c lo hi none:=fun n c=>Xbs (fun y hy=>O y (by simp only[COp.opds,List.mem_append,List.mem_cons]; exact .inl (.inr hy))) (fun y hy=>O y (by simp only[COp.opds,List.mem_append,List.mem_cons]; exact .inr hy)) (fun y hy=>by cases hy)
    simp only[step,sSlt,h1,h2]
  case sls s x lo hi mx =>
    have h1:opd e' x=opd e x:=O x (by simp[COp.opds])
    have h2:∀ n c,bounds e' n c lo hi mx=bounds e n c lo hi mx:=fun n c=>Xbs (fun y hy=>O y (by simp only[COp.opds,List.mem_append,List.mem_cons]; exact .inl (.inl (.inr hy)))) (fun y hy=>O y (by simp only[COp.opds,List.mem_append,List.mem_cons]; exact .inl (.inr hy))) (fun y hy=>O y (by simp only[COp.opds,List.mem_append,List.mem_cons]; exact .inr hy))
    simp only[step,sSls,h1,h2]
  case slp s n x lo hi mx =>
    have h1:opd e' x=opd e x:=O x (by simp[COp.opds])
    have h2:∀ n c,bounds e' n c lo hi mx=bounds e n c lo hi mx:=fun n c=>Xbs (fun y hy=>O y (by simp only[COp.opds,List.mem_append,List.mem_cons]; exact .inl (.inl (.inr hy)))) (fun y hy=>O y (by simp only[COp.opds,List.mem_append,List.mem_cons]; exact .inl (.inr hy))) (fun y hy=>O y (by simp only[COp.opds,List.mem_append,List.mem_cons]; exact .inr hy))
    simp only[step,sSlp,h1,h2]
  all_goals
    simp only[COp.opds,List.mem_cons,List.not_mem_nil,or_false,forall_eq_or_imp,forall_eq] at O;simp only[step,O]
theorem Xgq {e : T V} {h h1 : H} {c : COp} {v : V} (hp : Y3 c = true) (hs : step call e h c = .ok v h1) :
    h1=h/\∀ hX:H,(Xff c=true->∀ o i,v=.ptr o i->alive hX o=true)->step call e hX c=.ok v hX:=by
  cases c<;>simp only[Y3,Bool.false_eq_true] at hp
  case nck x =>
    simp only[step,sNck] at hs ⊢;split at hs
    . rename_i o i hx
      split at hs
      . injection hs with e1 e2
        exact⟨e2.symm,fun hX ha=>by rw[ha rfl o i e1.symm]; simp[e1]⟩
      . cases hs
    . injection hs with e1 e2
      exact⟨e2.symm,fun hX _=>by rw[e1]⟩
    . cases hs
  case fad off x =>
    simp only[step,sFad] at hs ⊢;split at hs
    . rename_i o i hx
      split at hs
      . injection hs with e1 e2
        exact⟨e2.symm,fun hX ha=>by rw[ha rfl o (i+off) e1.symm]; simp[e1]⟩
      . cases hs
    . cases hs
  all_goals
    simp only[step,give,Xad,sBld,sEqs,sCvi,sCvs,sSlt,sFld,partOf,sIxa,sIxt,sExt,sLnt,sMm] at hs ⊢
    refine⟨?_,fun hX _=>?_⟩
    . repeat' (first | (injection hs with e1 e2; exact e2.symm) | (cases hs; done) | split at hs)
    . repeat' (first | (injection hs with e1 e2; subst e1; first | rfl | (simp_all; done)) | (cases hs; done) | split at hs)
theorem XmH {e : T V} {h h1 : H} {c : COp} {o i : Nat} (hp : Xff c = true) (hs : step call e h c = .ok (.ptr o i) h1) : ∃ x ∈ c.opds, ∃ j, opd e x = .ptr o j := by
  cases c<;>simp only[Xff,Bool.false_eq_true] at hp
  case nck x =>
    simp only[step,sNck] at hs;split at hs
    . rename_i o' i' hx
      split at hs
      . injection hs with e1 e2
        injection e1 with e1 e3
        subst e1
        exact⟨x,by simp[COp.opds],i',hx⟩
      . cases hs
    . injection hs with e1 e2; cases e1
    . cases hs
  case fad off x =>
    simp only[step,sFad] at hs;split at hs
    . rename_i o' i' hx
      split at hs
      . injection hs with e1 e2
        injection e1 with e1 e3
        subst e1
        exact⟨x,by simp[COp.opds],i',hx⟩
      . cases hs
    . cases hs
structure Tr (call:Nat->List V->H->Res)(nt m:Nat)(l:List CI)(E:Nat->T V)(G:Nat->H)(v:Nat->V):Prop where
  kn:∀ q c,l[q]? = some c->known (E q) c.g=true
  env:∀ q c,l[q]? = some c->E (q+1)=put nt (E q) c.dst (v q)
  skip:∀ q c,l[q]? = some c->want (E q) c.g=false->v q=.tup []/\G (q+1)=G q
  stp:∀ q c,l[q]? = some c->want (E q) c.g=true->∃ h',step call (E q) ((G q).top (m-q)) c.op=.ok (v q) h'/\G (q+1)=h'.lower (G q).fl
def fore {α:Type} (x:α)(f:Nat->α):Nat->α
  |0=>x
  |n+1=>f n
theorem XcE : ∀ (l : List CI) (m : Nat) (e : T V) (h : H), Yb call nt al l m e h k = R → R ≠ .no →
    ∃ E G v,E 0=e/\G 0=h/\Tr call nt m l E G v/\XZ nt (E l.length) (G l.length) al=true/\k (E l.length) (G l.length)=R
  |[],m,e,h,hr,hR=>by
    simp only[Yb] at hr;split at hr
    . rename_i ha
      exact⟨fun _=>e,fun _=>h,fun _=>.bot,rfl,rfl,⟨fun q c h=>by simp at h,fun q c h=>by simp at h,fun q c h=>by simp at h,fun q c h=>by simp at h⟩,ha,hr⟩
    . exact absurd hr.symm hR
  | i :: l, m, e, h, hr, hR => by
    simp only[Yb] at hr;split at hr
    . exact absurd hr.symm hR
    . rename_i hk
      have hk:known e i.g=true:=by simpa using hk
      split at hr
      . rename_i hw
        split at hr
        . rename_i u h' hst
          obtain⟨E,G,v,h0,h1,t,ha,hkk⟩:=XcE l (m-1) _ _ hr hR
          refine⟨fore e E,fore h G,fore u v,rfl,rfl,⟨?_,?_,?_,?_⟩,ha,hkk⟩
          . intro q c hc
            cases q with
            |zero=>simp at hc; subst hc; exact hk
            |succ q=>exact t.kn q c (by simpa using hc)
          . intro q c hc
            cases q with
            |zero=>simp at hc; subst hc; exact h0
            |succ q=>exact t.env q c (by simpa using hc)
          . intro q c hc hww
            cases q with
            |zero=>simp at hc; subst hc; rw[show fore e E 0=e from rfl,hw] at hww; cases hww
            |succ q=>exact t.skip q c (by simpa using hc) hww
          . intro q c hc hww
            cases q with
            |zero=>simp at hc; subst hc; exact⟨h',hst,h1⟩
            |succ q =>
              have:=t.stp q c (by simpa using hc) hww
              rw[show m-1-q=m-(q+1) by omega] at this
              exact this
        . exact absurd hr.symm hR
      . rename_i hw
        obtain⟨E,G,v,h0,h1,t,ha,hkk⟩:=XcE l (m-1) _ _ hr hR
        refine⟨fore e E,fore h G,fore (.tup []) v,rfl,rfl,⟨?_,?_,?_,?_⟩,ha,hkk⟩
        . intro q c hc
          cases q with
          |zero=>simp at hc; subst hc; exact hk
          |succ q=>exact t.kn q c (by simpa using hc)
        . intro q c hc
          cases q with
          |zero=>simp at hc; subst hc; exact h0
          |succ q=>exact t.env q c (by simpa using hc)
        . intro q c hc hww
          cases q with
          |zero=>simp at hc; subst hc; exact⟨rfl,h1⟩
          |succ q=>exact t.skip q c (by simpa using hc) hww
        . intro q c hc hww
          cases q with
          |zero=>simp at hc; subst hc; exact absurd hww hw
          |succ q =>
            have:=t.stp q c (by simpa using hc) hww
            rw[show m-1-q=m-(q+1) by omega] at this
            exact this
structure TrG (call:Nat->List V->H->Res)(nt m:Nat)(l:List CI)(E:Nat->T V)(G:Nat->H)(v:Nat->V):Prop where
  tr:Tr call nt m l E G v
  wh:∀ q,q<=l.length->wfh (G q)
  we:∀ q,q<=l.length->wfe (G q).n (E q)
  abs:∀ q,q<l.length->Abs (G q) (G (q+1))
  wv:∀ q,q<l.length->wf (G (q+1)).n (v q)
  low:∀ q,q<l.length->q<m->∀ o,o<(G q).n->(G (q+1)).get o=(G q).get o
variable {E:Nat->T V}{G:Nat->H}{v:Nat->V}
theorem Tr.good {GG:Nat} (t:Tr call nt m l E G v)(hgood:Xm GG call)(hl:Xc5 GG l)(hG:GG<=(G 0).n)(w:wfh (G 0))(we:wfe (G 0).n (E 0)):TrG call nt m l E G v:=by
  have one:∀ q c,l[q]? = some c->GG<=(G q).n->wfh (G q)->wfe (G q).n (E q)->Abs (G q) (G (q+1))/\wfh (G (q+1))/\wf (G (q+1)).n (v q)/\wfe (G (q+1)).n (E (q+1))/\(q<m->∀ o,o<(G q).n->(G (q+1)).get o=(G q).get o):=by
    intro q c hc hG w we;have henv:=t.env q c hc
    cases hw:want (E q) c.g with
    |false =>
      obtain⟨h1,h2⟩:=t.skip q c hc hw;rw[h2,henv,h1]
      exact⟨.refl _,w,trivial,Xap we (show wf _ (.tup []) from trivial) _,fun _ _ _=>rfl⟩
    |true =>
      obtain⟨h',h1,h2⟩:=t.stp q c hc hw;have hg:=Y7 hgood (h:=(G q).top (m-q)) (by rw[XaE]; exact hG) (Xer w _) (by rw[XaE]; exact we) (XR (by rw[XaE]; exact hG) (hl c (List.mem_of_getElem? hc)))
      rw[h1] at hg;obtain⟨a,w',hv⟩:=hg;have b:=Xcv w a;rw[h2,henv]
      refine⟨b,Xd8 w a w',hv,Xap (Xb9 b.n we) hv _,?_⟩
      intro hqm o ho
      have:∃ j,m-q=j+1:=⟨m-q-1,by omega⟩
      obtain⟨j,hj⟩:=this;rw[hj] at a;exact a.low o ho
  have all:∀ q,q<=l.length->GG<=(G q).n/\wfh (G q)/\wfe (G q).n (E q):=by
    intro q
    induction q with
    |zero=>exact fun _=>⟨hG,w,we⟩
    |succ q ih =>
      intro hq;obtain⟨a,b,c⟩:=ih (by omega)
      have hget:l[q]? = some l[q]:=List.getElem?_eq_getElem (by omega)
      obtain⟨x1,x2,x3,x4,_⟩:=one q _ hget a b c
      exact⟨Nat.le_trans a x1.n,x2,x4⟩
  have one':∀ q,q<l.length->_:=fun q hq=>one q l[q] (List.getElem?_eq_getElem hq) (all q (by omega)).1 (all q (by omega)).2.1 (all q (by omega)).2.2
  exact⟨t,fun q hq=>(all q hq).2.1,fun q hq=>(all q hq).2.2,fun q hq=>(one' q hq).1,fun q hq=>(one' q hq).2.2.1,fun q hq=>(one' q hq).2.2.2.2⟩
theorem TrG.abs_le (t:TrG call nt m l E G v):∀ (d q:Nat),q+d<=l.length->Abs (G q) (G (q+d))
  |0,q,_=>.refl _
  |d+1,q,h=>(t.abs_le d q (by omega)).trans (t.abs (q+d) (by omega))
theorem TrG.abs' (t:TrG call nt m l E G v) {p q:Nat} (hpq:p<=q)(hq:q<=l.length):Abs (G p) (G q):=by
  have:=t.abs_le (q-p) p (by omega)
  rwa [show p+(q-p)=q by omega] at this
theorem TrG.low_le (t:TrG call nt m l E G v):∀ (d q:Nat),q+d<=l.length->q+d<=m->∀ o,o<(G q).n->(G (q+d)).get o=(G q).get o
  |0,q,_,_,o,_=>rfl
  |d+1,q,h,hm,o,ho=>by
    have h1:=t.low_le d q (by omega) (by omega) o ho
    have h2:=t.low (q+d) (by omega) (by omega) o (Nat.lt_of_lt_of_le ho (t.abs_le d q (by omega)).n)
    rw[show q+(d+1)=q+d+1 by omega,h2,h1]
theorem TrG.low' (t:TrG call nt m l E G v) {p q:Nat} (hpq:p<=q)(hq:q<=l.length)(hm:q<=m)(o:Nat)(ho:o<(G p).n):(G q).get o=(G p).get o:=by
  have:=t.low_le (q-p) p (by omega) (by omega) o ho
  rwa [show p+(q-p)=q by omega] at this
theorem Xg0 (h:H)(m:Nat):(h.top m).lower h.fl=h:=by cases h; cases m<;>rfl
theorem Tr.pure (t:Tr call nt m l E G v) {q:Nat}{c:CI} (hc:l[q]? = some c)(hp:Y3 c.op=true):G (q+1)=G q:=by
  cases hw:want (E q) c.g with
  |false=>exact (t.skip q c hc hw).2
  |true =>
    obtain⟨h',h1,h2⟩:=t.stp q c hc hw;obtain⟨h3,_⟩:=Xgq hp h1;rw[h2,h3,Xg0]
theorem Tr.hit (t : Tr call nt m l E G v) {p : Nat} {a : CI} {d : Nat} (hp : l[p]? = some a) (hd : a.dst = some d) (hlt : d < nt) (hne : ∀ q b, q ≠ p → l[q]? = some b → b.dst ≠ some d) :
    ∀ q,p<q->q<=l.length->(E q).get .bot d=v p:=by
  intro q
  induction q with
  |zero=>intro h; omega
  |succ q ih =>
    intro hpq hq
    have hget:l[q]? = some l[q]:=List.getElem?_eq_getElem (by omega)
    rw[t.env q _ hget]
    by_cases hqp:q=p
    . subst hqp
      rw[hp] at hget;simp only[Option.some.injEq] at hget;rw[← hget,hd]
      simp[put,hlt,T.get_set]
    . have h1:=hne q _ hqp hget
      have h2:=ih (by omega) (by omega)
      unfold put;split
      . rename_i d' hd'
        split
        . rw[T.get_set,if_neg (fun e=>h1 (by rw[hd',e])),h2]
        . exact h2
      . exact h2
theorem Tr.miss (t : Tr call nt m l E G v) {d : Nat} : ∀ q, q ≤ l.length → ((∀ p b, p < q → l[p]? = some b → b.dst ≠ some d) ∨ nt ≤ d) → (E q).get .bot d = (E 0).get .bot d := by
  intro q
  induction q with
  |zero=>intros; rfl
  |succ q ih =>
    intro hq h
    have hget:l[q]? = some l[q]:=List.getElem?_eq_getElem (by omega)
    have h2:=ih (by omega) (h.imp (fun h p b hp=>h p b (by omega)) id)
    rw[t.env q _ hget];unfold put;split
    . rename_i d' hd'
      split
      . rename_i hlt
        rw[T.get_set,if_neg ?_,h2];intro e;subst e
        rcases h with h | h
        . exact h q _ (by omega) hget hd'
        . omega
      . exact h2
    . exact h2
noncomputable def mask (e:T V):List Nat->T V
  |[]=>.lf
  |i::r=>(mask e r).set .bot i (e.get .bot i)
theorem Zl (e:T V)(i:Nat):∀ (l:List Nat),(i∈l->(mask e l).get .bot i=e.get .bot i)/\(i ∉ l->(mask e l).get .bot i=.bot)
  |[]=>⟨fun h=>(by cases h),fun _=>T.get_lf _ _⟩
  |j::r=>by
    obtain⟨h1,h2⟩:=Zl e i r;simp only[mask,T.get_set]
    by_cases hij:j=i
    . subst hij
      exact⟨fun _=>by simp,fun h=>absurd (by simp) h⟩
    . rw[if_neg hij]
      refine⟨fun h=>h1 ?_,fun h=>h2 fun hm=>h (by simp[hm])⟩
      rcases List.mem_cons.1 h with rfl | h
      . exact absurd rfl hij
      . exact h
def CI.reads (c:CI):List Nat:=c.op.opds.filterMap Xqu++(match c.g with
  |some (t,_)=>[t]
  |none=>[])
theorem Xav {c:CI}{d:Nat} (h:d∈c.reads):d∈c.names:=by
  unfold CI.reads at h;unfold CI.names
  rcases List.mem_append.1 h with h | h
  . exact List.mem_append_left _ (List.mem_append_right _ h)
  . exact List.mem_append_right _ h
theorem Xdr {e:T V}{c:CI}{x:Opd} (hx:x∈c.op.opds):opd (mask e c.reads) x=opd e x:=by
  cases x with
  |c v=>rfl
  |t i =>
    refine (Zl e i c.reads).1 ?_
    unfold CI.reads;exact List.mem_append_left _ (List.mem_filterMap.2 ⟨_,hx,rfl⟩)
theorem Xfz {e:T V}{c:CI}:known (mask e c.reads) c.g=known e c.g/\want (mask e c.reads) c.g=want e c.g:=by
  cases hg:c.g with
  |none=>exact⟨rfl,rfl⟩
  |some tb =>
    obtain⟨t,b⟩:=tb
    have:t∈c.reads:=by unfold CI.reads; rw[hg]; simp
    simp only[known,want,(Zl e t c.reads).1 this,and_self]
end
end Go.Vm
namespace Go.Vm
mutual
theorem VRel.congr {ρ:Rho}{h:H}{ρ':Rho}{h':H}{n:Nat} (ag:∀ o,o<n->ρ' o=ρ o/\h'.get o=h.get o)(hn:n<=h'.n):∀ {v:V}{x:Value},VRel ρ h v x->wf n v->VRel ρ' h' v x
  |_,_,.int k n,_=>.int k n
  |_,_,.bool b,_=>.bool b
  |_,_,.str s,_=>.str s
  |_,_,.flt x,_=>.flt x
  |_,_,.ptr (o:=o) (p:=p) e,w=>.ptr ((ag o w).1.trans e)
  |_,_,.ptrD (o:=o) e1 e2 e3,w=>.ptrD (Nat.lt_of_lt_of_le w hn) ((ag o w).1.trans e2) ((ag o w).2.trans e3)
  |_,_,.nil,_=>.nil
  |_,_,.sl (o:=o) (p:=p) e1 e2 e3 e4 e5 e6,w=>.sl ((ag o w).1.trans e1) e2 e3 e4 e5 e6
  |_,_,.slD (o:=o) e1 e2 e3,w=>.slD (Nat.lt_of_lt_of_le w hn) ((ag o w).1.trans e2) ((ag o w).2.trans e3)
  |_,_,.nils,_=>.nils
  |_,_,.nilm,_=>.nilm
  |_,_,.fn e,w=>.fn (VRels.congr ag hn e w)
  |_,_,.nilf,_=>.nilf
  |_,_,.ifc e,w=>.ifc (VRel.congr ag hn e w)
  |_,_,.nili,_=>.nili
  |_,_,.nan e,_=>.nan e
  |_,_,.nani e,_=>.nani e
  |_,_,.agg e,w=>.agg (VRels.congr ag hn e w)
  |_,_,.tup e,w=>.tup (VRels.congr ag hn e w)
  |_,_,.bot x,_=>.bot x
theorem VRels.congr {ρ:Rho}{h:H}{ρ':Rho}{h':H}{n:Nat} (ag:∀ o,o<n->ρ' o=ρ o/\h'.get o=h.get o)(hn:n<=h'.n):∀ {l:List V}{xs:List Value},VRels ρ h l xs->wfs n l->VRels ρ' h' l xs
  |_,_,.nil,_=>.nil
  |_,_,.cons a b,w=>.cons (VRel.congr ag hn a w.1) (VRels.congr ag hn b w.2)
end
mutual
theorem VRel.more {ρ:Rho}{h:H}{ρ':Rho}{h':H} (hs:∀ o p,ρ o=some p->ρ' o=some p)(hd:∀ o,o<h.n->ρ o=none->h.get o=.dead->o<h'.n/\ρ' o=none/\h'.get o=.dead):∀ {v:V}{x:Value},VRel ρ h v x->VRel ρ' h' v x
  |_,_,.int k n=>.int k n
  |_,_,.bool b=>.bool b
  |_,_,.str s=>.str s
  |_,_,.flt x=>.flt x
  |_,_,.ptr (o:=o) (p:=p) e=>.ptr (hs o _ e)
  |_,_,.ptrD (o:=o) e1 e2 e3=>let ⟨a,b,c⟩:=hd o e1 e2 e3; .ptrD a b c
  |_,_,.nil=>.nil
  |_,_,.sl (o:=o) (p:=p) e1 e2 e3 e4 e5 e6=>.sl (hs o _ e1) e2 e3 e4 e5 e6
  |_,_,.slD (o:=o) e1 e2 e3=>let ⟨a,b,c⟩:=hd o e1 e2 e3; .slD a b c
  |_,_,.nils=>.nils
  |_,_,.nilm=>.nilm
  |_,_,.fn e=>.fn (VRels.more hs hd e)
  |_,_,.nilf=>.nilf
  |_,_,.ifc e=>.ifc (VRel.more hs hd e)
  |_,_,.nili=>.nili
  |_,_,.nan e=>.nan e
  |_,_,.nani e=>.nani e
  |_,_,.agg e=>.agg (VRels.more hs hd e)
  |_,_,.tup e=>.tup (VRels.more hs hd e)
  |_,_,.bot x=>.bot x
theorem VRels.more {ρ:Rho}{h:H}{ρ':Rho}{h':H} (hs:∀ o p,ρ o=some p->ρ' o=some p)(hd:∀ o,o<h.n->ρ o=none->h.get o=.dead->o<h'.n/\ρ' o=none/\h'.get o=.dead):∀ {l:List V}{xs:List Value},VRels ρ h l xs->VRels ρ' h' l xs
  |_,_,.nil=>.nil
  |_,_,.cons a b=>.cons (VRel.more hs hd a) (VRels.more hs hd b)
end
theorem ORel.map {ρ:Rho}{h:H}{w:World}{ρ':Rho}{h':H}{w':World}{p:Pl}{x:Obj} (r:ORel ρ h w p x)(hb:w'.heap[p.B]? = w.heap[p.B]?)
    (T:∀ n t sp el fz,x=.c n t sp el fz->∀ i y,VRel ρ h (t.get .bot i) y->VRel ρ' h' (t.get .bot i) y):ORel ρ' h' w' p x:=by
  cases x with
  |c n t sp el fz =>
    obtain⟨cs,fr,b1,b2,b3,b4,b5,b6⟩:=r
    exact⟨cs,fr,hb.trans b1,b2,b3,b4,fun i hi=>let ⟨y,y1,y2⟩:=b5 i hi; ⟨y,y1,T n t sp el fz rfl i y y2⟩,b6⟩
  |si n z pos =>
    obtain⟨s,b1,b2⟩:=r
    exact⟨s,hb.trans b1,b2⟩
  |m es=>exact r.elim
  |dead=>exact r.elim
theorem XiM {a:Act}{dst:Option Nat}{x:Value}{d:Nat}:(a.put dst x).tmps.getD d undef=if dst=some d/\d<a.tmps.size then x else a.tmps.getD d undef:=by
  cases dst with
  |none=>simp[Act.put]
  |some d' =>
    simp only[Act.put,Array.getD_eq_getD_getElem?,Array.getElem?_setIfInBounds,Option.some.injEq]
    by_cases h:d'=d
    . subst h
      by_cases hs:d'<a.tmps.size
      . simp[hs]
      . simp[hs]
    . simp[h]
def Xcw (l:List CI)(al:List Nat)(m p q:Nat)(a b:CI):Prop:=∃ tx tp,ldP a.op=some tp/\appX b.op=some tx/\p<m/\tp<1000/\Xbe tx tp∈al /\
  (∀ j c,p<=j->l[j]? = some c->c.dst ≠ some tp)/\∀ j c,q<=j->l[j]? = some c->c.dst ≠ some tx
theorem Xcw.lt {l:List CI}{al:List Nat}{m p q:Nat}{a b:CI} (h:Xcw l al m p q a b):p<m:=by obtain⟨_,_,_,_,h,_⟩:=h; exact h
theorem Xcw.ld {l:List CI}{al:List Nat}{m p q:Nat}{a b:CI} (h:Xcw l al m p q a b):ldOp a.op=true:=by
  obtain⟨_,_,h,_⟩:=h
  cases ho:a.op<;>rw[ho] at h<;>first | rfl | (cases h; done)
structure Side (al:List Nat)(m:Nat)(l:List CI)(B:Nat->Nat->Prop)(full:List Nat):Prop where
  mle:m<=l.length
  dst:∀ (p q:Nat) (a b:CI) (d:Nat),p ≠ q->l[p]? = some a->l[q]? = some b->a.dst=some d->b.dst ≠ some d
  pr:∀ (p q:Nat) (a b:CI),p<q->l[p]? = some a->l[q]? = some b->B p q∨(writes a b=false/\writes b a=false/\(q<m∨Y3 a.op=true∨Y3 b.op=true∨Xcw l al m p q a b))
  nd:full.Nodup
  lt:∀ q∈full,q<l.length
  all:∀ q,q<l.length->q∈full
  ord:∀ l1 q l2,full=l1++q::l2->∀ p,p<l.length->B p q->p∈l1
section
variable {P:Program}{call:Nat->List V->H->Res}{nt m:Nat}{ds:List Deferred}{l:List CI}{al:List Nat}{E:Nat->T V}{G:Nat->H}{v:Nat->V}{B:Nat->Nat->Prop}{full:List Nat}{ρ1:Rho}{w1:World}
structure DInv (P:Program)(nt:Nat)(ds:List Deferred)(m:Nat)(l:List CI)(E:Nat->T V)(G:Nat->H)(v:Nat->V)(ρ1:Rho)(w1:World)(dn:List Nat)(r:Nat)(ρ:Rho)(w:World)(a:Act):Prop where
  rm:m<=r
  rn:r<=l.length
  don:∀ q c,m<=q->l[q]? = some c->Y3 c.op=false->(q∈dn<->q<r)
  rA:m<r->∀ q c,q<m->l[q]? = some c->Y3 c.op=false->ldOp c.op=false->q∈dn
  un:∀ q,q<m->q ∉ dn->∀ o,(G q).n<=o->o<(G (q+1)).n->ρ o=none
  rel:HRel ρ (G r) w
  gr:GRel P.globals.size ρ (G r)
  post:Post ρ1 (G 0) w1 ρ (G r) w
  sz:a.tmps.size=nt
  df:a.defers=ds
  tmD:∀ q c d,q∈dn->l[q]? = some c->c.dst=some d->d<nt->VRel ρ (G r) (v q) (a.tmps.getD d undef)/\wf (G r).n (v q)
  tmO:∀ d,((∀ q c,q∈dn->l[q]? = some c->c.dst ≠ some d)∨nt<=d)->VRel ρ (G r) ((E 0).get .bot d) (a.tmps.getD d undef)
theorem lget {c:CI}{q:Nat} (h:l[q]? = some c):q<l.length:=(List.getElem?_eq_some_iff.1 h).1
theorem Side.notin (s:Side al m l B full) {dn τ:List Nat}{q:Nat} (hf:full=dn++q::τ):q ∉ dn:=by
  intro hq
  have:=s.nd
  rw[hf,List.nodup_append] at this;exact this.2.2 q hq q (by simp) rfl
theorem Side.after (s:Side al m l B full) {dn τ:List Nat}{q p:Nat} (hf:full=dn++q::τ)(hq:q<l.length)(hb:B q p):p ∉ dn:=by
  intro hp;obtain⟨x,y,rfl⟩:=List.append_of_mem hp
  have:=s.ord x p (y++q::τ) (by rw[hf]; simp) q hq hb
  exact s.notin hf (List.mem_append_left _ this)
theorem XkS {a b:CI}{d:Nat} (h1:a.dst=some d)(h2:d∈b.names):writes a b=true:=by
  simp[writes,h1,h2]
theorem DInv.read (t : TrG call nt m l E G v) (s : Side al m l B full) {dn τ : List Nat} {q r : Nat} {ρ : Rho} {w : World} {a : Act} {c : CI} (hf : full = dn ++ q :: τ) (hc : l[q]? = some c)
    (i:DInv P nt ds m l E G v ρ1 w1 dn r ρ w a) {d:Nat} (hd:d∈c.names):VRel ρ (G r) ((E q).get .bot d) (a.tmps.getD d undef)/\wf (G r).n ((E q).get .bot d):=by
  have hq:=lget hc
  have h0:wf (G r).n ((E 0).get .bot d):=YE i.post.abs.n _ (t.we 0 (Nat.zero_le _) d)
  by_cases hex:∃ (p:Nat) (b:CI),l[p]? = some b/\b.dst=some d/\d<nt
  . obtain⟨p,b,hp,hbd,hlt⟩:=hex
    have hw:writes b c=true:=XkS hbd hd
    rcases Nat.lt_trichotomy p q with h | h | h
    . rcases s.pr p q b c h hp hc with hb | ⟨hb,_⟩
      . have hin:=s.ord dn q τ hf p (lget hp) hb
        rw[t.tr.hit hp hbd hlt (fun q' b' hne hb'=>s.dst p q' b b' d (fun e=>hne e.symm) hp hb' hbd) q h (by omega)]
        exact i.tmD p b d hin hp hbd hlt
      . rw[hw] at hb; cases hb
    . subst h
      rw[t.tr.miss p (by omega) (.inl fun p' b' hlt' hb'=>s.dst p p' b b' d (by omega) hp hb' hbd)]
      refine⟨i.tmO d (.inl fun q' c' hq' hc'=>s.dst p q' b c' d (fun e=>s.notin hf (e▸hq')) hp hc' hbd),h0⟩
    . rcases s.pr q p c b h hc hp with hb | ⟨_,hb,_⟩
      . have hno:=s.after hf hq hb
        rw[t.tr.miss q (by omega) (.inl fun p' b' hlt' hb'=>s.dst p p' b b' d (by omega) hp hb' hbd)]
        refine⟨i.tmO d (.inl fun q' c' hq' hc'=>s.dst p q' b c' d (fun e=>hno (e▸hq')) hp hc' hbd),h0⟩
      . rw[hw] at hb; cases hb
  . have hall:(∀ (p:Nat) (b:CI),l[p]? = some b->b.dst ≠ some d)∨nt<=d:=by
      by_cases hlt:d<nt
      . exact .inl fun p b hp hbd=>hex ⟨p,b,hp,hbd,hlt⟩
      . exact .inr (by omega)
    rw[t.tr.miss q (by omega) (hall.imp (fun h p b _ hb=>h p b hb) id)]
    exact⟨i.tmO d (hall.imp (fun h q' c' _ hc'=>h q' c' hc') id),h0⟩
theorem DInv.next (t:TrG call nt m l E G v)(s:Side al m l B full) {dn τ:List Nat}{q r:Nat}{ρ:Rho}{w:World}{a:Act}{c:CI} (hf:full=dn++q::τ)(hc:l[q]? = some c)
    (i:DInv P nt ds m l E G v ρ1 w1 dn r ρ w a) {r':Nat}{ρ':Rho}{w':World}{x:Value}
    (rm:m<=r') (rn:r'<=l.length)
    (don:∀ q' c',m<=q'->l[q']? = some c'->Y3 c'.op=false->(q'∈dn++[q]<->q'<r'))
    (rA:m<r'->∀ q' c',q'<m->l[q']? = some c'->Y3 c'.op=false->ldOp c'.op=false->q'∈dn++[q])
    (un:∀ q',q'<m->q' ∉ dn++[q]->∀ o,(G q').n<=o->o<(G (q'+1)).n->ρ' o=none)
    (gr:GRel P.globals.size ρ' (G r')) (post:Post ρ1 (G 0) w1 ρ' (G r') w')
    (T:∀ u y,wf (G r).n u->VRel ρ (G r) u y->VRel ρ' (G r') u y) (hn:(G r).n<=(G r').n)
    (hv:VRel ρ' (G r') (v q) x) (wv:wf (G r').n (v q)):DInv P nt ds m l E G v ρ1 w1 (dn++[q]) r' ρ' w' (a.put c.dst x):=by
  refine⟨rm,rn,don,rA,un,post.rel,gr,post,(Xi2 _ _).trans i.sz,(put_defers _ _).trans i.df,?_,?_⟩
  . intro q' c' d hq' hc' hd hlt
    rw[XiM]
    rcases List.mem_append.1 hq' with hq' | hq'
    . have hne:c.dst ≠ some d:=s.dst q' q c' c d (fun e=>s.notin hf (e▸hq')) hc' hc hd
      rw[if_neg (fun h=>hne h.1)]
      obtain⟨h1,h2⟩:=i.tmD q' c' d hq' hc' hd hlt
      exact⟨T _ _ h2 h1,YE hn _ h2⟩
    . simp only[List.mem_singleton] at hq'
      subst hq';rw[hc] at hc';simp only[Option.some.injEq] at hc';subst hc';rw[if_pos ⟨hd,by rw[i.sz]; exact hlt⟩]
      exact⟨hv,wv⟩
  . intro d hd
    have h0:wf (G r).n ((E 0).get .bot d):=YE i.post.abs.n _ (t.we 0 (Nat.zero_le _) d)
    rw[XiM,if_neg ?_]
    . exact T _ _ h0 (i.tmO d (hd.imp (fun h q' c' hq'=>h q' c' (List.mem_append_left _ hq')) id))
    . rintro⟨h1,h2⟩
      rw[i.sz] at h2
      rcases hd with h | h
      . exact h q c (by simp) hc h1
      . omega
theorem kept {ρ:Rho}{h:H}{w:World}{ρ':Rho}{w':World} (r:HRel ρ h w)(p:Post ρ h w ρ' h w'):ρ'=ρ:=by
  funext o
  by_cases ho:o<h.n
  . rcases p.fr.keep o ho with e | ⟨e1,e2⟩
    . exact e
    . rw[e1]
      cases hr:ρ o with
      |none=>rfl
      |some q=>exact absurd e2 (r.alive hr)
  . have h1:ρ o=none:=by
      cases hr:ρ o with
      |none=>rfl
      |some q=>exact absurd (r.lt o q hr) ho
    have h2:ρ' o=none:=by
      cases hr:ρ' o with
      |none=>rfl
      |some q=>exact absurd (p.rel.lt o q hr) ho
    rw[h1,h2]
theorem Xbu {e : T V} {h : H} {x : Nat} {r : List Nat} (ha : XZ nt e h (x :: r) = true) : XZ nt e h r = true ∧ (x < 1000000 → x < nt ∧ ∀ o i, e.get .bot x = .ptr o i → alive h o = true) ∧ (1000000 ≤ x → apart (e.get .bot ((x - 1000000) / 1000)) (e.get .bot ((x - 1000000) % 1000)) = true) := by
  simp only[XZ] at ha;split at ha
  . rename_i hb
    have hb:1000000<=x:=by simpa using hb
    simp only[Bool.and_eq_true] at ha
    exact⟨ha.2,fun h=>absurd h (by omega),fun _=>ha.1⟩
  . rename_i hb
    have hb:x<1000000:=by simpa using hb
    split at ha
    . rename_i hx
      have hx:x<nt:=by simpa using hx
      split at ha
      . rename_i o j ho
        simp only[Bool.and_eq_true] at ha
        exact⟨ha.2,fun _=>⟨hx,fun o' i' h'=>by rw[ho] at h'; cases h'; exact ha.1⟩,fun h=>absurd h (by omega)⟩
      . rename_i hn
        exact⟨ha,fun _=>⟨hx,fun o' i' h'=>absurd h' (hn o' i')⟩,fun h=>absurd h (by omega)⟩
    . cases ha
theorem XhZ (ha:XZ nt (E l.length) (G l.length) al=true) {d o i:Nat} (hd:d∈al)(hs:d<1000000)(hv:(E l.length).get .bot d=.ptr o i):d<nt/\alive (G l.length) o=true:=by
  induction al with
  |nil=>cases hd
  |cons x r ih =>
    obtain⟨h1,h2,h3⟩:=Xbu ha
    rcases List.mem_cons.1 hd with rfl | hd
    . exact⟨(h2 hs).1,(h2 hs).2 o i hv⟩
    . exact ih h1 hd
theorem Xol (t:XZ nt (E l.length) (G l.length) al=true) {d:Nat} (hd:d∈al)(hs:d<1000000):d<nt:=by
  induction al with
  |nil=>cases hd
  |cons x r ih =>
    obtain⟨h1,h2,h3⟩:=Xbu t
    rcases List.mem_cons.1 hd with rfl | hd
    . exact (h2 hs).1
    . exact ih h1 hd
theorem XhY (t:XZ nt (E l.length) (G l.length) al=true) {tx tp:Nat} (hd:Xbe tx tp∈al)(hp:tp<1000):apart ((E l.length).get .bot tx) ((E l.length).get .bot tp)=true:=by
  induction al with
  |nil=>cases hd
  |cons x r ih =>
    obtain⟨h1,h2,h3⟩:=Xbu t
    rcases List.mem_cons.1 hd with rfl | hd
    . have:=h3 (by unfold Xbe; omega)
      rwa [show (Xbe tx tp-1000000) / 1000=tx by unfold Xbe; omega,show (Xbe tx tp-1000000)%1000=tp by unfold Xbe; omega] at this
    . exact ih h1 hd
theorem Tr.stay (t:Tr call nt m l E G v) {d p:Nat} (h:∀ j c,p<=j->l[j]? = some c->c.dst ≠ some d):∀ q,p<=q->q<=l.length->(E q).get .bot d=(E p).get .bot d:=by
  intro q
  induction q with
  |zero=>intro hp _; rw[show p=0 by omega]
  |succ q ih =>
    intro hpq hq
    by_cases he:p=q+1
    . rw[he]
    have hget:l[q]? = some l[q]:=List.getElem?_eq_getElem (by omega)
    rw[t.env q _ hget,← ih (by omega) (by omega)]
    have hne:=h q _ (by omega) hget
    unfold put;split
    . rename_i d' hd'
      split
      . rw[T.get_set,if_neg (fun e=>hne (by rw[hd',e]))]
      . rfl
    . rfl
theorem XkA {e : T V} {h h1 : H} {c : COp} {u : V} (hp : ldOp c = true) (hs : step call e h c = .ok u h1) :
    h1=h/\∃ x o i,c.opds=[x]/\opd e x=.ptr o i/\(∀ t,ldP c=some t->x=.t t)/\∀ hX:H,hX.get o=h.get o->step call e hX c=.ok u hX:=by
  cases c<;>simp only[ldOp,Bool.false_eq_true] at hp
  case ld x =>
    simp only[step,sLd] at hs ⊢;split at hs
    . rename_i o i hx
      split at hs
      . rename_i w hl
        injection hs with e1 e2
        refine⟨e2.symm,x,o,i,rfl,hx,?_,fun hX hg=>?_⟩
        . intro t ht
          cases x<;>cases ht
          rfl
        . have:YN hX o i 1=YN h o i 1:=by simp only[YN,hg]
          simp only[this,hl,e1]
      . cases hs
    . cases hs
  case ldn n x =>
    simp only[step,sLdn] at hs ⊢;split at hs
    . rename_i o i hx
      split at hs
      . rename_i w hl
        injection hs with e1 e2
        refine⟨e2.symm,x,o,i,rfl,hx,?_,fun hX hg=>?_⟩
        . intro t ht
          cases x<;>cases ht
          rfl
        . have:YN hX o i n=YN h o i n:=by simp only[YN,hg]
          simp only[this,hl,e1]
      . cases hs
    . cases hs
theorem XiG {c:COp} (h:ldOp c=true):Y3 c=false:=by
  cases c<;>first | rfl | (cases h; done)
theorem Tr.quiet (t:Tr call nt m l E G v) {q:Nat}{c:CI} (hc:l[q]? = some c)(hp:ldOp c.op=true):G (q+1)=G q:=by
  cases hw:want (E q) c.g with
  |false=>exact (t.skip q c hc hw).2
  |true =>
    obtain⟨h',h1,h2⟩:=t.stp q c hc hw;obtain⟨h3,_⟩:=XkA hp h1;rw[h2,h3,Xg0]
theorem Xoj {e : T V} {h h' : H} {c : COp} {u : V} {tx o : Nat} (hc : appX c = some tx) (hs : step call e h c = .ok u h') (ho : o < h.n) (hap : ∀ i n k s ex, e.get .bot tx ≠ .sl o i n k s ex) : h'.get o = h.get o := by
  cases c<;>simp only[appX,reduceCtorEq] at hc
  rename_i s bytes el x y
  cases x<;>simp only[appX,reduceCtorEq,Option.some.injEq] at hc
  subst hc;rename_i tx
  have hne:∀ (l:List V) (sp:Bool) (el:Nat) (fz:Option Nat) (h2:H),h2.n=h.n->h2.get o=h.get o->(X5 h2 l sp el fz).get o=h.get o:=by
    intro l sp el fz h2 e1 e2;rw[X5,H.get_push,if_neg (by omega),e2]
  simp only[step,YF,opd] at hs;split at hs
  . rename_i k l hl
    unfold X3 at hs;split at hs
    . split at hs
      . injection hs with _ e2; rw[e2]
      . split at hs
        . injection hs with _ e2; rw[← e2]; exact hne _ _ _ _ _ rfl rfl
        . cases hs
    · rename_i o1 i n k1 s' ex hx
      have ho1:o1 ≠ o:=fun e0=>hap i n k1 s' ex (by rw[hx,e0])
      split at hs
      · split at hs
        · split at hs
          · split at hs
            . injection hs with _ e2; rw[e2]
            · split at hs
              . rename_i h2 hst
                injection hs with _ e2
                rw[← e2];unfold WC at hst;split at hst
                . split at hst
                  . injection hst with e3
                    rw[← e3,H.get_set,if_neg ho1]
                  . cases hst
                . cases hst
              . cases hs
          · split at hs
            · split at hs
              . split at hs
                . injection hs with _ e2; rw[← e2]; exact hne _ _ _ _ _ rfl rfl
                . split at hs
                  . injection hs with _ e2
                    rw[← e2];exact hne _ _ _ _ _ rfl (by rw[H.get_set,if_neg ho1])
                  . cases hs
              . cases hs
            . cases hs
        . cases hs
      . cases hs
    . cases hs
  . cases hs
end
end Go.Vm
namespace Go.Vm
section
variable {P:Program}{call:Nat->List V->H->Res}{nt m:Nat}{ds:List Deferred}{l:List CI}{al:List Nat}{E:Nat->T V}{G:Nat->H}{v:Nat->V}{B:Nat->Nat->Prop}{full:List Nat}{ρ1:Rho}{w1:World}
variable {dn τ:List Nat}{q r:Nat}{ρ:Rho}{w:World}{a:Act}{c:CI}
theorem Xci (c:CI):Y3 c.op=true∨Y3 c.op=false:=by cases Y3 c.op<;>simp
theorem DInv.same (t : TrG call nt m l E G v) (s : Side al m l B full) (hf : full = dn ++ q :: τ) (hc : l[q]? = some c) (i : DInv P nt ds m l E G v ρ1 w1 dn r ρ w a) {w' : World} {x : Value}
    (hp:Y3 c.op=true∨want (E q) c.g=false∨ldOp c.op=true) (post:Post ρ (G r) w ρ (G r) w') (hv:VRel ρ (G r) (v q) x) (wv:wf (G r).n (v q)) :
    ∃ r',DInv P nt ds m l E G v ρ1 w1 (dn++[q]) r' ρ w' (a.put c.dst x):=by
  have hq:=lget hc
  have hne:∀ q',q'∈dn++[q]<->q'∈dn∨q'=q:=fun q'=>by simp
  have hG:G (q+1)=G q:=by
    rcases hp with h | h | h
    . exact t.tr.pure hc h
    . exact (t.tr.skip q c hc h).2
    . exact t.tr.quiet hc h
  by_cases hB:m<=q/\Y3 c.op=false
  . -- one of the later ones,not run
    obtain⟨hmq,hpf⟩:=hB
    have hrq:r<=q:=by
      have:=(i.don q c hmq hc hpf)
      have hn:=s.notin hf
      rcases Nat.lt_or_ge q r with h | h
      . exact absurd (this.2 h) hn
      . exact h
    have bef:∀ p b,p<q->l[p]? = some b->Y3 b.op=false->(m<=p∨ldOp b.op=false)->p∈dn:=by
      intro p b hpq hb hbf hml
      rcases s.pr p q b c hpq hb hc with h | ⟨_,_,h | h | h | h⟩
      . exact s.ord dn q τ hf p (lget hb) h
      . omega
      . rw[hbf] at h; cases h
      . rw[hpf] at h; cases h
      . rcases hml with h1 | h1
        . have:=h.lt; omega
        . rw[h.ld] at h1; cases h1
    have hGr:∀ d,r+d<=q->G (r+d)=G r:=by
      intro d
      induction d with
      |zero=>intro _; rfl
      |succ d ih =>
        intro hd
        have hget:l[r+d]? = some l[r+d]:=List.getElem?_eq_getElem (by omega)
        have h1:=ih (by omega)
        rcases Xci l[r+d] with h | h
        . rw[show r+(d+1)=r+d+1 by omega,t.tr.pure hget h,h1]
        . have h2:=bef (r+d) _ (by omega) hget h (.inl (by have:=i.rm; omega))
          have h3:=(i.don (r+d) _ (by have:=i.rm; omega) hget h).1 h2
          omega
    have hGq:G (q+1)=G r:=by
      rw[hG]
      have:=hGr (q-r) (by omega)
      rwa [show r+(q-r)=q by omega] at this
    refine⟨q+1,i.next t s hf hc (by omega) (by omega) ?_ ?_ ?_ ?_ ?_ ?_ ?_ ?_ ?_⟩
    . intro q' c' hm' hc' hp'
      rw[hne];constructor
      . rintro (h | h)
        . have:=(i.don q' c' hm' hc' hp').1 h; omega
        . omega
      . intro h
        by_cases hqq:q'=q
        . exact .inr hqq
        . exact .inl (bef q' c' (by omega) hc' hp' (.inl hm'))
    . intro _ q' c' hm' hc' hp' hl'
      rw[hne];exact .inl (bef q' c' (by omega) hc' hp' (.inr hl'))
    . intro q' hm' hnot o h1 h2
      rw[hne] at hnot;exact i.un q' hm' (fun h=>hnot (.inl h)) o h1 h2
    . rw[hGq]; exact i.gr
    . rw[hGq]; exact i.post.trans post
    . rw[hGq]; exact fun u y _ h=>h
    . rw[hGq]; exact Nat.le_refl _
    . rw[hGq]; exact hv
    . rw[hGq]; exact wv
  . refine⟨r,i.next t s hf hc i.rm i.rn ?_ ?_ ?_ i.gr (i.post.trans post) (fun u y _ h=>h) (Nat.le_refl _) hv wv⟩
    . intro q' c' hm' hc' hp'
      rw[hne,← i.don q' c' hm' hc' hp']
      refine⟨fun h=>h.elim id fun e=>?_,.inl⟩
      subst e;rw[hc] at hc';simp only[Option.some.injEq] at hc';subst hc';exact absurd ⟨hm',hp'⟩ hB
    . intro h q' c' hm' hc' hp' hl'
      rw[hne];exact .inl (i.rA h q' c' hm' hc' hp' hl')
    . intro q' hm' hnot o h1 h2
      rw[hne] at hnot;exact i.un q' hm' (fun h=>hnot (.inl h)) o h1 h2
theorem DInv.cx (t:TrG call nt m l E G v)(s:Side al m l B full)(hf:full=dn++q::τ)(hc:l[q]? = some c)(i:DInv P nt ds m l E G v ρ1 w1 dn r ρ w a):Cx P ρ (G r) w (mask (E q) c.reads) a:=by
  refine⟨i.rel,t.wh r i.rn,?_,?_,i.gr⟩
  . intro d
    by_cases hd:d∈c.reads
    . rw[(Zl _ _ _).1 hd]; exact (i.read t s hf hc (Xav hd)).2
    . rw[(Zl _ _ _).2 hd]; trivial
  . intro d
    by_cases hd:d∈c.reads
    . rw[(Zl _ _ _).1 hd]; exact (i.read t s hf hc (Xav hd)).1
    . rw[(Zl _ _ _).2 hd]; exact .bot _
theorem Xge {n:Nat}{e:T V}{x:Opd}{o j:Nat} (h:opd e x=.ptr o j)(hw:Xi9 n x)(we:∀ i,x=.t i->wf n (e.get .bot i)):o<n:=by
  cases x with
  |t i=>have:=we i rfl; rw[show opd e (.t i)=e.get .bot i from rfl] at h; rw[h] at this; exact this
  |c u=>rw[show opd e (.c u)=u from rfl] at h; subst h; exact hw
variable {o:Oper}{Q:Exit->Act->World->Prop}{next:Act->World->Prop}
theorem DInv.pure (hgood : Xm P.globals.size call) (hcall : XM P call) (t : TrG call nt m l E G v) (s : Side al m l B full) (hf : full = dn ++ q :: τ) (hc : l[q]? = some c) (i : DInv P nt ds m l E G v ρ1 w1 dn r ρ w a)
    (hal:XZ nt (E l.length) (G l.length) al=true) (hala:Xff c.op=true->∃ d,c.dst=some d/\d∈al/\d<1000000) (ho:c.op=Xaz P o) (hd:c.dst=o.dst)
    (hp:Y3 c.op=true) (hw:want (E q) c.g=true) (hn:∀ r' ρ' w' x,DInv P nt ds m l E G v ρ1 w1 (dn++[q]) r' ρ' w' (a.put o.dst x)->next (a.put o.dst x) w'):o.wp P a w next Q:=by
  have hq:=lget hc;have cx:=i.cx t s hf hc
  have hwf:XaS (G r).n c.op:=by rw[ho]; exact XR i.gr.1 (W9 P o)
  obtain⟨h',hst,_⟩:=t.tr.stp q c hc hw;obtain⟨_,hX⟩:=Xgq hp hst
  have hstep:step call (E q) (G r) c.op=.ok (v q) (G r):=by
    refine hX (G r) fun hptr o' j hv=>?_
    obtain⟨d,hd1,hd2,hd3⟩:=hala hptr
    have hdn:d<nt:=Xol hal hd2 hd3
    have hend:(E l.length).get .bot d=.ptr o' j:=by
      rw[t.tr.hit hc hd1 hdn (fun q' b hne hb=>s.dst q q' c b d (fun e=>hne e.symm) hc hb hd1) l.length hq (Nat.le_refl _),hv]
    have ha:=(XhZ hal hd2 hd3 hend).2;rw[hv] at hst;obtain⟨x,hx,j',hx'⟩:=XmH hptr hst
    have hlt:o'<(G r).n:=Xge hx' (hwf.1 x hx) fun k hk=>(i.read t s hf hc (Xav (by
      unfold CI.reads;exact List.mem_append_left _ (List.mem_filterMap.2 ⟨x,hx,by rw[hk]; rfl⟩)))).2
    cases hal':alive (G r) o' with
    |true=>rfl
    |false =>
      have hdead:(G r).get o'=.dead:=by
        unfold alive at hal';split at hal'
        . assumption
        . cases hal'
      have hdead':=(t.abs' i.rn (Nat.le_refl _)).dead o' hlt hdead;unfold alive at ha;rw[hdead'] at ha;cases ha
  have hmask:step call (mask (E q) c.reads) (G r) c.op=.ok (v q) (G r):=by
    rw[XaX (fun x hx=>Xdr hx)]; exact hstep
  have hg:=Y7 hgood i.gr.1 cx.wh cx.we hwf;rw[hmask] at hg;rw[ho] at hmask;refine XiA hcall cx (by rw[hmask]; intro h; cases h) ?_ ?_
  . intro u h'' x w' ρ' hs hv hpo
    rw[hmask] at hs;injection hs with e1 e2
    subst e1 e2;have hρ:=kept i.rel hpo;subst hρ;obtain⟨r',hi⟩:=i.same t s hf hc (.inl hp) hpo hv hg.2.2;rw[hd] at hi;exact hn r' _ _ _ hi
  . intro u h'' x w' ρ' hs
    rw[hmask] at hs;cases hs
theorem DInv.load (hgood : Xm P.globals.size call) (hcall : XM P call) (t : TrG call nt m l E G v) (s : Side al m l B full) (hf : full = dn ++ q :: τ) (hc : l[q]? = some c) (i : DInv P nt ds m l E G v ρ1 w1 dn r ρ w a)
    (hG0:P.globals.size<=(G 0).n) (hal:XZ nt (E l.length) (G l.length) al=true) (ho:c.op=Xaz P o) (hd:c.dst=o.dst)
    (hp:ldOp c.op=true) (hqm:q<m) (hw:want (E q) c.g=true) (hn:∀ r' ρ' w' x,DInv P nt ds m l E G v ρ1 w1 (dn++[q]) r' ρ' w' (a.put o.dst x)->next (a.put o.dst x) w'):o.wp P a w next Q:=by
  have hq:=lget hc;have cx:=i.cx t s hf hc
  have hwf:XaS (G r).n c.op:=by rw[ho]; exact XR i.gr.1 (W9 P o)
  have hwq:XaS (G q).n c.op:=by rw[ho]; exact XR (Nat.le_trans hG0 (t.abs' (p:=0) (q:=q) (Nat.zero_le _) (by omega)).n) (W9 P o)
  obtain⟨h',hst,_⟩:=t.tr.stp q c hc hw;obtain⟨_,x,o',j,hx1,hx2,hx3,hX⟩:=XkA hp hst
  have hlt:o'<(G q).n:=Xge hx2 (hwq.1 x (by rw[hx1]; simp)) fun k _=>t.we q (by omega) k
  have hmle:=s.mle
  have hget0:(G m).get o'=(G q).get o':=t.low' (by omega) hmle (Nat.le_refl _) o' hlt
  have hnot:=s.notin hf
  have hget : ∀ d, m + d ≤ r → (G (m + d)).get o' = (G m).get o' := by
    intro d
    induction d with
    |zero=>intro _; rfl
    |succ d ih =>
      intro hd';have ih:=ih (by omega)
      have hr:=i.rn
      have hgp:l[m+d]? = some l[m+d]:=List.getElem?_eq_getElem (by omega)
      generalize l[m+d]=b at hgp
      rw[show m+(d+1)=m+d+1 by omega,← ih]
      rcases Xci b with hb | hb
      . rw[t.tr.pure hgp hb]
      . have hin:=(i.don (m+d) b (by omega) hgp hb).2 (by omega)
        rcases s.pr q (m+d) c b (by omega) hc hgp with h | ⟨_,_,h | h | h | h⟩
        . exact absurd hin (s.after hf hq h)
        . omega
        . rw[XiG hp] at h; cases h
        . rw[hb] at h; cases h
        . obtain⟨tx,tp,a1,a2,_,a4,a5,a6,a7⟩:=h
          cases hwp:want (E (m+d)) b.g with
          |false=>rw[(t.tr.skip (m+d) b hgp hwp).2]
          |true =>
            obtain⟨h2,hs2,hG2⟩:=t.tr.stp (m+d) b hgp hwp;rw[show m-(m+d)=0 by omega,show (G (m+d)).top 0=G (m+d) from rfl] at hs2
            have hlt2:o'<(G (m+d)).n:=Nat.lt_of_lt_of_le hlt (t.abs' (p:=q) (q:=m+d) (by omega) (by omega)).n
            have hap:=XhY hal a5 a4;rw[t.tr.stay a6 l.length (by omega) (Nat.le_refl _),t.tr.stay a7 l.length (by omega) (Nat.le_refl _)] at hap
            have hxp:=hx3 tp a1;subst hxp;rw[show (E q).get .bot tp=.ptr o' j from hx2] at hap
            have:=Xoj a2 hs2 hlt2 (fun i' n' k' s' ex' he=>by rw[he] at hap; simp[apart] at hap)
            rw[hG2];exact this
  have hgr:(G r).get o'=(G q).get o':=by
    have:=hget (r-m) (by have:=i.rm; omega)
    rw[show m+(r-m)=r by have:=i.rm; omega] at this
    rw[this,hget0]
  have hstep:step call (E q) (G r) c.op=.ok (v q) (G r):=by
    refine hX (G r) ?_
    rw[hgr]
    cases hh:m-q<;>rfl
  have hmask:step call (mask (E q) c.reads) (G r) c.op=.ok (v q) (G r):=by
    rw[XaX (fun x hx=>Xdr hx)]; exact hstep
  have hg:=Y7 hgood i.gr.1 cx.wh cx.we hwf;rw[hmask] at hg;rw[ho] at hmask;refine XiA hcall cx (by rw[hmask]; intro h; cases h) ?_ ?_
  . intro u h'' x w' ρ' hs hv hpo
    rw[hmask] at hs;injection hs with e1 e2
    subst e1 e2;have hρ:=kept i.rel hpo;subst hρ;obtain⟨r',hi⟩:=i.same t s hf hc (.inr (.inr hp)) hpo hv hg.2.2;rw[hd] at hi;exact hn r' _ _ _ hi
  . intro u h'' x w' ρ' hs
    rw[hmask] at hs;cases hs
theorem DInv.late (hgood : Xm P.globals.size call) (hcall : XM P call) (t : TrG call nt m l E G v) (s : Side al m l B full) (hf : full = dn ++ q :: τ) (hc : l[q]? = some c) (i : DInv P nt ds m l E G v ρ1 w1 dn r ρ w a)
    (ho:c.op=Xaz P o) (hd:c.dst=o.dst) (hpf:Y3 c.op=false) (hmq:m<=q) (hw:want (E q) c.g=true)
    (hn:∀ r' ρ' w' x,DInv P nt ds m l E G v ρ1 w1 (dn++[q]) r' ρ' w' (a.put o.dst x)->next (a.put o.dst x) w'):o.wp P a w next Q:=by
  have hq:=lget hc;have cx:=i.cx t s hf hc
  have hwf:XaS (G r).n c.op:=by rw[ho]; exact XR i.gr.1 (W9 P o)
  have hne:∀ q',q'∈dn++[q]<->q'∈dn∨q'=q:=fun q'=>by simp
  have hrq:r<=q:=by
    have:=(i.don q c hmq hc hpf)
    have hn:=s.notin hf
    rcases Nat.lt_or_ge q r with h | h
    . exact absurd (this.2 h) hn
    . exact h
  have bef:∀ p b,p<q->l[p]? = some b->Y3 b.op=false->(m<=p∨ldOp b.op=false)->p∈dn:=by
    intro p b hpq hb hbf hml
    rcases s.pr p q b c hpq hb hc with h | ⟨_,_,h | h | h | h⟩
    . exact s.ord dn q τ hf p (lget hb) h
    . omega
    . rw[hbf] at h; cases h
    . rw[hpf] at h; cases h
    . rcases hml with h1 | h1
      . have:=h.lt; omega
      . rw[h.ld] at h1; cases h1
  have hGr:∀ d,r+d<=q->G (r+d)=G r:=by
    intro d
    induction d with
    |zero=>intro _; rfl
    |succ d ih =>
      intro hd
      have hget:l[r+d]? = some l[r+d]:=List.getElem?_eq_getElem (by omega)
      have h1:=ih (by omega)
      rcases Xci l[r+d] with h | h
      . rw[show r+(d+1)=r+d+1 by omega,t.tr.pure hget h,h1]
      . have h2:=bef (r+d) _ (by omega) hget h (.inl (by have:=i.rm; omega))
        have h3:=(i.don (r+d) _ (by have:=i.rm; omega) hget h).1 h2
        omega
  have hGq:G q=G r:=by
    have:=hGr (q-r) (by omega)
    rwa [show r+(q-r)=q by omega] at this
  obtain⟨h',hst,hG'⟩:=t.tr.stp q c hc hw;rw[show m-q=0 by omega,show (G q).top 0=G q from rfl,hGq] at hst
  rw[hGq] at hG'
  have hmask:step call (mask (E q) c.reads) (G r) c.op=.ok (v q) h':=by
    rw[XaX (fun x hx=>Xdr hx)]; exact hst
  have hg:=Y7 hgood i.gr.1 cx.wh cx.we hwf;rw[hmask] at hg
  have hGe:G (q+1)=h':=by
    rw[hG']
    have:=hg.1.fl
    cases h'
    simp only at this
    simp only[H.lower,this]
  rw[ho] at hmask;refine XiA hcall cx (by rw[hmask]; intro h; cases h) ?_ ?_
  · intro u h'' x w' ρ' hs hv hpo
    rw[hmask] at hs;injection hs with e1 e2
    subst e1 e2;have hi:=i.next t s hf hc (r':=q+1) (ρ':=ρ') (w':=w') (x:=x) (by omega) (by omega)
      (by
        intro q' c' hm' hc' hp';rw[hne];constructor
        . rintro (h | h)
          . have:=(i.don q' c' hm' hc' hp').1 h; omega
          . omega
        . intro h
          by_cases hqq:q'=q
          . exact .inr hqq
          . exact .inl (bef q' c' (by omega) hc' hp' (.inl hm')))
      (by
        intro _ q' c' hm' hc' hp' hl';rw[hne];exact .inl (bef q' c' (by omega) hc' hp' (.inr hl')))
      (by
        intro q' hm' hnot o' h1 h2;rw[hne] at hnot
        have hget:l[q']? = some l[q']:=List.getElem?_eq_getElem (by omega)
        rcases Xci l[q'] with h | h
        . rw[t.tr.pure hget h] at h2; omega
        . cases hld:ldOp (l[q']).op with
          |true=>rw[t.tr.quiet hget hld] at h2; omega
          |false=>exact absurd (.inl (bef q' _ (by omega) hget h (.inr hld))) hnot)
      (by rw[hGe]; exact i.gr.post hpo) (by rw[hGe]; exact i.post.trans hpo)
      (by rw[hGe]; exact fun u y _ h=>hpo.vrel i.rel.lt h) (by rw[hGe]; exact hpo.abs.n) (by rw[hGe]; exact hv) (by rw[hGe]; exact hg.2.2)
    rw[hd] at hi;exact hn _ _ _ _ hi
  . intro u h'' x w' ρ' hs
    rw[hmask] at hs;cases hs
end
end Go.Vm
namespace Go.Vm
section
variable {P:Program}{call:Nat->List V->H->Res}{nt m:Nat}{ds:List Deferred}{l:List CI}{al:List Nat}{E:Nat->T V}{G:Nat->H}{v:Nat->V}{B:Nat->Nat->Prop}{full:List Nat}{ρ1:Rho}{w1:World}
variable {dn τ:List Nat}{q r:Nat}{ρ:Rho}{w:World}{a:Act}{c:CI}{o:Oper}{Q:Exit->Act->World->Prop}{next:Act->World->Prop}
def upto (n:Nat)(ρ:Rho):Rho:=fun o=>if o<n then ρ o else none
def over (n:Nat)(ρ' ρ:Rho):Rho:=fun o=>if o<n then ρ' o else ρ o
theorem DInv.early (hgood : Xm P.globals.size call) (hcall : XM P call) (hG0 : P.globals.size ≤ (G 0).n) (t : TrG call nt m l E G v) (s : Side al m l B full) (hf : full = dn ++ q :: τ) (hc : l[q]? = some c) (i : DInv P nt ds m l E G v ρ1 w1 dn r ρ w a)
    (ho:c.op=Xaz P o) (hd:c.dst=o.dst) (hpf:Y3 c.op=false) (hlf:ldOp c.op=false) (hqm:q<m) (hw:want (E q) c.g=true)
    (hn:∀ r' ρ' w' x,DInv P nt ds m l E G v ρ1 w1 (dn++[q]) r' ρ' w' (a.put o.dst x)->next (a.put o.dst x) w'):o.wp P a w next Q:=by
  have hq:=lget hc;have hmle:=s.mle;have hnot:=s.notin hf
  have hr:r=m:=by
    have:=i.rm
    rcases Nat.lt_or_ge m r with h | h
    . exact absurd (i.rA h q c hqm hc hpf hlf) hnot
    . omega
  subst hr
  have hne:∀ q',q'∈dn++[q]<->q'∈dn∨q'=q:=fun q'=>by simp
  have hGqr:=t.abs' (p:=q) (q:=r) (by omega) hmle
  have hGq1:=t.abs' (p:=q+1) (q:=r) (by omega) hmle
  have hGqq:=t.abs q hq;have hG0q:=t.abs' (p:=0) (q:=q) (by omega) (by omega)
  have lowq:∀ o,o<(G q).n->(G r).get o=(G q).get o:=fun o ho=>t.low' (by omega) hmle (Nat.le_refl _) o ho
  have lowq1:∀ o,o<(G (q+1)).n->(G r).get o=(G (q+1)).get o:=fun o ho=>t.low' (by omega) hmle (Nat.le_refl _) o ho
  obtain⟨h',hst,hG'⟩:=t.tr.stp q c hc hw
  obtain⟨j,hj⟩:∃ j,r-q=j+1:=⟨r-q-1,by omega⟩
  rw[hj] at hst
  have htop:(G q).top (j+1)=(G q).raise:=rfl
  rw[htop] at hst
  have hh'n:(G (q+1)).n=h'.n:=by rw[hG']; rfl
  have hh'g:∀ o,(G (q+1)).get o=h'.get o:=by intro o; rw[hG']; rfl
  have agq:∀ o,o<(G q).n->upto (G q).n ρ o=ρ o/\(G q).raise.get o=(G r).get o:=fun o ho=>⟨by simp[upto,ho],(lowq o ho).symm⟩
  have hle:(G q).n<=(G q).raise.n:=Nat.le_refl _
  have rel0:HRel (upto (G q).n ρ) (G q).raise w:=by
    refine⟨?_,?_,?_⟩
    . intro o p ho
      unfold upto at ho;split at ho
      . assumption
      . cases ho
    . intro o p ho
      unfold upto at ho;split at ho
      . rename_i hlt
        have h1:=i.rel.obj o p ho;rw[lowq o hlt] at h1;refine h1.map (ρ':=upto (G q).n ρ) (h':=(G q).raise) rfl ?_
        intro n tt sp el fz hx k y hy;have hwo:=(t.wh q (by omega)).2 o
        rw[hx] at hwo;exact hy.congr (n:=(G q).n) agq hle (hwo k)
      . cases ho
    . intro o o' p p' ho ho' hB
      unfold upto at ho ho';split at ho
      . rename_i q1
        split at ho'
        . rename_i q2
          exact (i.rel.inj o o' p p' ho ho' hB).imp (fun e=>e) (fun _=>⟨q1,q2⟩)
        . cases ho'
      . cases ho
  have gr0:GRel P.globals.size (upto (G q).n ρ) (G q).raise:=by
    refine⟨Nat.le_trans hG0 hG0q.n,fun g hg=>?_⟩
    have hgq:g<(G q).n:=Nat.lt_of_lt_of_le hg (Nat.le_trans hG0 hG0q.n)
    have hu:upto (G q).n ρ g=ρ g:=by simp[upto,hgq]
    rw[hu]
    rcases i.gr.2 g hg with h | ⟨h1,h2⟩
    . exact .inl h
    . exact .inr ⟨h1,by rw[show (G q).raise.get g=(G q).get g from rfl,← lowq g hgq]; exact h2⟩
  have cx:Cx P (upto (G q).n ρ) (G q).raise w (mask (E q) c.reads) a:=by
    refine⟨rel0,⟨Nat.le_refl _,(t.wh q (by omega)).2⟩,?_,?_,gr0⟩
    . intro d
      by_cases hd:d∈c.reads
      . rw[(Zl _ _ _).1 hd]; exact t.we q (by omega) d
      . rw[(Zl _ _ _).2 hd]; trivial
    . intro d
      by_cases hd:d∈c.reads
      . rw[(Zl _ _ _).1 hd]
        exact (i.read t s hf hc (Xav hd)).1.congr (n:=(G q).n) agq hle (t.we q (by omega) d)
      . rw[(Zl _ _ _).2 hd]; exact .bot _
  have hwf:XaS (G q).raise.n c.op:=by rw[ho]; exact XR gr0.1 (W9 P o)
  have hmask:step call (mask (E q) c.reads) (G q).raise c.op=.ok (v q) h':=by
    rw[XaX (fun x hx=>Xdr hx)]; exact hst
  have hg:=Y7 hgood gr0.1 cx.wh cx.we hwf;rw[hmask] at hg;rw[ho] at hmask;refine XiA hcall cx (by rw[hmask]; intro h; cases h) ?_ ?_
  · intro u h'' x w' ρ' hs hv hpo
    rw[hmask] at hs;injection hs with e1 e2
    subst e1 e2
    have F1:∀ o,o<(G q).n->ρ' o=ρ o:=by
      intro o ho
      have hu:upto (G q).n ρ o=ρ o:=by simp[upto,ho]
      rcases hpo.fr.keep o ho with h | ⟨h1,h2⟩
      . rw[h,hu]
      . have h3:=hpo.abs.low o ho
        rw[h2] at h3;rw[h1,← hu]
        cases hx:upto (G q).n ρ o with
        |none=>rfl
        |some p=>exact absurd h3.symm (rel0.alive hx)
    have F2:∀ o p,(G q).n<=o->ρ' o=some p->w.heap.size<=p.B:=by
      intro o p ho hp
      rcases hpo.fr.new o p ho hp with h | ⟨o',p',h1,h2,_⟩
      . exact h
      . have:=rel0.lt o' p' h2
        exact absurd (show (G q).raise.fl<=o' from h1) (by show ¬ (G q).n<=o'; exact Nat.not_le.2 this)
    have F3:∀ b,b<w.heap.size->w'.heap[b]? = w.heap[b]? := by
      intro b hb;exact hpo.fr.old b hb fun o p h _=>rel0.lt o p h
    have F4:∀ o p,ρ' o=some p->o<(G (q+1)).n:=fun o p h=>by rw[hh'n]; exact hpo.rel.lt o p h
    have hnn:(G q).n<=(G (q+1)).n:=hGqq.n
    have ov1:∀ o,o<(G (q+1)).n->over (G (q+1)).n ρ' ρ o=ρ' o:=fun o ho=>by simp[over,ho]
    have ov2:∀ o,(G (q+1)).n<=o->over (G (q+1)).n ρ' ρ o=ρ o:=fun o ho=>by unfold over; rw[if_neg (by omega)]
    have ov0:∀ o,o<(G q).n->over (G (q+1)).n ρ' ρ o=ρ o:=fun o ho=>by rw[ov1 o (by omega),F1 o ho]
    have mid:∀ o,(G q).n<=o->o<(G (q+1)).n->ρ o=none:=fun o h1 h2=>i.un q hqm hnot o h1 h2
    have M1:∀ o p,ρ o=some p->over (G (q+1)).n ρ' ρ o=some p:=by
      intro o p hp
      rcases Nat.lt_or_ge o (G q).n with h | h
      . rw[ov0 o h]; exact hp
      . rcases Nat.lt_or_ge o (G (q+1)).n with h2 | h2
        . rw[mid o h h2] at hp; cases hp
        . rw[ov2 o h2]; exact hp
    have M2:∀ o,o<(G r).n->ρ o=none->(G r).get o=.dead->o<(G r).n/\over (G (q+1)).n ρ' ρ o=none/\(G r).get o=.dead:=by
      intro o ho hno hdd
      refine⟨ho,?_,hdd⟩
      rcases Nat.lt_or_ge o (G (q+1)).n with h2 | h2
      . rw[ov1 o h2]
        cases hx:ρ' o with
        |none=>rfl
        |some p =>
          have:=hpo.rel.alive hx
          rw[lowq1 o h2,hh'g] at hdd;exact absurd hdd this
      . rw[ov2 o h2]; exact hno
    have ag:∀ o,o<(G (q+1)).n->over (G (q+1)).n ρ' ρ o=ρ' o/\(G r).get o=h'.get o:=fun o ho=>⟨ov1 o ho,by rw[lowq1 o ho,hh'g]⟩
    have rel':HRel (over (G (q+1)).n ρ' ρ) (G r) w':=by
      refine⟨?_,?_,?_⟩
      . intro o p hp
        rcases Nat.lt_or_ge o (G (q+1)).n with h2 | h2
        . exact Nat.lt_of_lt_of_le h2 hGq1.n
        . rw[ov2 o h2] at hp; exact i.rel.lt o p hp
      . intro o p hp
        rcases Nat.lt_or_ge o (G (q+1)).n with h2 | h2
        . rw[ov1 o h2] at hp
          have h1:=hpo.rel.obj o p hp;rw[(ag o h2).2];refine h1.map rfl ?_
          intro n tt sp el fz hx k y hy;have hwo:=hg.2.1.2 o;rw[hx] at hwo;refine hy.congr (n:=h'.n) (fun o ho=>ag o (by rw[hh'n]; exact ho)) (by rw[← hh'n]; exact hGq1.n) (hwo k)
        . rw[ov2 o h2] at hp
          have h1:=i.rel.obj o p hp;exact h1.map (F3 _ h1.size) (fun _ _ _ _ _ _ k y hy=>hy.more M1 M2)
      . intro o o' p p' hp hp' hB
        have old:∀ o p,ρ o=some p->p.B<w.heap.size:=fun o p h=>(i.rel.obj o p h).size
        rcases Nat.lt_or_ge o (G (q+1)).n with h2 | h2<;>rcases Nat.lt_or_ge o' (G (q+1)).n with h3 | h3
        . rw[ov1 o h2] at hp
          rw[ov1 o' h3] at hp'
          rcases hpo.rel.inj o o' p p' hp hp' hB with e | ⟨e1,e2⟩
          . exact .inl e
          . rw[hpo.abs.fl] at e1 e2
            have e1:o<(G q).n:=e1
            have e2:o'<(G q).n:=e2
            rw[F1 o e1] at hp;rw[F1 o' e2] at hp';exact i.rel.inj o o' p p' hp hp' hB
        . rw[ov1 o h2] at hp
          rw[ov2 o' h3] at hp'
          rcases Nat.lt_or_ge o (G q).n with h4 | h4
          . rw[F1 o h4] at hp; exact i.rel.inj o o' p p' hp hp' hB
          . have:=F2 o p h4 hp; have:=old o' p' hp'; omega
        . rw[ov2 o h2] at hp
          rw[ov1 o' h3] at hp'
          rcases Nat.lt_or_ge o' (G q).n with h4 | h4
          . rw[F1 o' h4] at hp'; exact i.rel.inj o o' p p' hp hp' hB
          . have:=F2 o' p' h4 hp'; have:=old o p hp; omega
        . rw[ov2 o h2] at hp
          rw[ov2 o' h3] at hp';exact i.rel.inj o o' p p' hp hp' hB
    have gr':GRel P.globals.size (over (G (q+1)).n ρ' ρ) (G r):=by
      refine⟨i.gr.1,fun g hg=>?_⟩
      rw[ov0 g (Nat.lt_of_lt_of_le hg (Nat.le_trans hG0 hG0q.n))];exact i.gr.2 g hg
    have post':Post ρ1 (G 0) w1 (over (G (q+1)).n ρ' ρ) (G r) w':=by
      have fr:=i.post.fr
      refine⟨i.post.abs,rel',hpo.fr.os.trans fr.os,hpo.fr.tape.trans fr.tape,hpo.fr.output.trans fr.output,Nat.le_trans fr.size hpo.fr.size,?_,?_,?_⟩
      . intro b hb hx
        rw[F3 b (Nat.lt_of_lt_of_le hb fr.size)];exact fr.old b hb hx
      . intro o ho
        rw[ov0 o (Nat.lt_of_lt_of_le ho hG0q.n)];exact fr.keep o ho
      . intro o p ho hp
        rcases Nat.lt_or_ge o (G (q+1)).n with h2 | h2
        . rw[ov1 o h2] at hp
          rcases Nat.lt_or_ge o (G q).n with h4 | h4
          . rw[F1 o h4] at hp; exact fr.new o p ho hp
          . exact .inl (Nat.le_trans fr.size (F2 o p h4 hp))
        . rw[ov2 o h2] at hp; exact fr.new o p ho hp
    have hv':VRel (over (G (q+1)).n ρ' ρ) (G r) (v q) x:=hv.congr (n:=h'.n) (fun o ho=>ag o (by rw[hh'n]; exact ho)) (by rw[← hh'n]; exact hGq1.n) hg.2.2
    have hi:=i.next t s hf hc (r':=r) (ρ':=over (G (q+1)).n ρ' ρ) (w':=w') (x:=x) i.rm i.rn
      (by
        intro q' c' hm' hc' hp';rw[hne,← i.don q' c' hm' hc' hp']
        exact⟨fun h=>h.elim id fun e=>absurd e (by omega),.inl⟩)
      (fun h=>absurd h (Nat.lt_irrefl _))
      (by
        intro q' hm' hno' o' h1 h2;rw[hne] at hno';have hu:=i.un q' hm' (fun h=>hno' (.inl h)) o' h1 h2
        have hqq:q' ≠ q:=fun e=>hno' (.inr e)
        rcases Nat.lt_or_ge q' q with h | h
        . have:=(t.abs' (p:=q'+1) (q:=q) (by omega) (by omega)).n
          rw[ov0 o' (by omega)]
          exact hu
        . have:=(t.abs' (p:=q+1) (q:=q') (by omega) (by omega)).n
          rw[ov2 o' (by omega)]
          exact hu)
      gr' post' (fun u y _ h=>h.more M1 M2) (Nat.le_refl _) hv' (YE (by rw[← hh'n]; exact hGq1.n) _ hg.2.2)
    rw[hd] at hi;exact hn _ _ _ _ hi
  . intro u h'' x w' ρ' hs
    rw[hmask] at hs;cases hs
end
end Go.Vm
namespace Go.Vm
section
variable {P:Program}{call:Nat->List V->H->Res}{nt m:Nat}{ds:List Deferred}{l:List CI}{al:List Nat}{E:Nat->T V}{G:Nat->H}{v:Nat->V}{B:Nat->Nat->Prop}{full:List Nat}{ρ1:Rho}{w1:World}
theorem DInv.done (t : TrG call nt m l E G v) (s : Side al m l B full) {r : Nat} {ρ : Rho} {w : World} {a : Act} (i : DInv P nt ds m l E G v ρ1 w1 full r ρ w a) :
    Cx P ρ (G l.length) w (E l.length) a/\Post ρ1 (G 0) w1 ρ (G l.length) w:=by
  have hpure:∀ d,r+d<=l.length->G (r+d)=G r:=by
    intro d
    induction d with
    |zero=>intro _; rfl
    |succ d ih =>
      intro hd
      have hget:l[r+d]? = some l[r+d]:=List.getElem?_eq_getElem (by omega)
      have h1:=ih (by omega)
      rcases Xci l[r+d] with h | h
      . rw[show r+(d+1)=r+d+1 by omega,t.tr.pure hget h,h1]
      . have h3:=(i.don (r+d) _ (by have:=i.rm; omega) hget h).1 (s.all _ (by omega))
        omega
  have hG:G l.length=G r:=by
    have:=hpure (l.length-r) (by have:=i.rn; omega)
    rwa [show r+(l.length-r)=l.length by have:=i.rn; omega] at this
  rw[hG]
  refine⟨⟨i.rel,t.wh r i.rn,by rw[← hG]; exact t.we _ (Nat.le_refl _),?_,i.gr⟩,i.post⟩
  intro d
  by_cases hex:∃ (p:Nat) (b:CI),l[p]? = some b/\b.dst=some d/\d<nt
  . obtain⟨p,b,hp,hbd,hlt⟩:=hex
    rw[t.tr.hit hp hbd hlt (fun q' b' hne hb'=>s.dst p q' b b' d (fun e=>hne e.symm) hp hb' hbd) l.length (lget hp) (Nat.le_refl _)]
    exact (i.tmD p b d (s.all p (lget hp)) hp hbd hlt).1
  . have hall:(∀ (p:Nat) (b:CI),l[p]? = some b->b.dst ≠ some d)∨nt<=d:=by
      by_cases hlt:d<nt
      . exact .inl fun p b hp hbd=>hex ⟨p,b,hp,hbd,hlt⟩
      . exact .inr (by omega)
    rw[t.tr.miss l.length (Nat.le_refl _) (hall.imp (fun h p b _ hb=>h p b hb) id)]
    exact i.tmO d (hall.imp (fun h q' c' _ hc'=>h q' c' hc') id)
theorem XiY (hgood : Xm P.globals.size call) (hcall : XM P call) (hG0 : P.globals.size ≤ (G 0).n) (t : TrG call nt m l E G v) (s : Side al m l B full)
    (hal:XZ nt (E l.length) (G l.length) al=true) (hala:∀ c∈l,Xff c.op=true->∃ d,c.dst=some d/\d∈al/\d<1000000)
    {ops:Array Oper}{f:Nat->Nat} (hci:∀ q c,l[q]? = some c->f q<ops.size/\ciOf P ops (ops.getD (f q) default)=some c) {Q:Exit->Act->World->Prop}
    (hn:∀ r ρ w a,DInv P nt ds m l E G v ρ1 w1 full r ρ w a->Q .normal a w) :
    ∀ (τ dn:List Nat) (r:Nat) (ρ:Rho) (w:World) (a:Act),full=dn++τ->DInv P nt ds m l E G v ρ1 w1 dn r ρ w a->wpOps P ops Q (τ.map f) a w
  |[],dn,r,ρ,w,a,hf,i=>by
    rw[List.append_nil] at hf;subst hf;exact hn r ρ w a i
  |q::τ,dn,r,ρ,w,a,hf,i=>by
    have hq:q<l.length:=s.lt q (by rw[hf]; simp)
    have hc:l[q]? = some l[q]:=List.getElem?_eq_getElem hq
    generalize l[q]=c at hc
    obtain⟨hlt,hci'⟩:=hci q c hc;obtain⟨e1,e2,e3⟩:=XdS hci';have hget:=getD_lt hlt
    generalize ops.getD (f q) default=o at *
    have IH:=fun r ρ w a=>XiY hgood hcall hG0 t s hal hala hci hn τ (dn++[q]) r ρ w a (by rw[hf]; simp)
    simp only[List.map_cons,wpOps,hget];have cx:=i.cx t s hf hc;have hk:=t.tr.kn q c hc
    have hwant:Region.wanted o (yielded ops a.tmps)=want (E q) c.g:=by
      rw[XeG e3 cx.er (by rw[Xfz.1]; exact hk),Xfz.2]
    rw[hwant]
    cases hw:want (E q) c.g with
    |false =>
      simp only[Bool.false_eq_true,if_false];obtain⟨h1,h2⟩:=t.tr.skip q c hc hw;obtain⟨r',hi⟩:=i.same t s hf hc (.inr (.inl hw)) (.refl i.rel) (x:=undef) (by rw[h1]; exact Xgg) (by rw[h1]; trivial)
      rw[e1] at hi;exact IH r' ρ w _ hi
    |true =>
      simp only[if_true];refine .inl ?_
      rcases Xci c with hp | hp
      . exact i.pure hgood hcall t s hf hc hal (hala c (List.mem_of_getElem? hc)) e2 e1 hp hw fun r' ρ' w' x hi=>IH r' ρ' w' _ hi
      . rcases Nat.lt_or_ge q m with hm | hm
        . cases hl:ldOp c.op with
          |true=>exact i.load hgood hcall t s hf hc hG0 hal e2 e1 hl hm hw fun r' ρ' w' x hi=>IH r' ρ' w' _ hi
          |false=>exact i.early hgood hcall hG0 t s hf hc e2 e1 hp hl hm hw fun r' ρ' w' x hi=>IH r' ρ' w' _ hi
        . exact i.late hgood hcall t s hf hc e2 e1 hp hm hw fun r' ρ' w' x hi=>IH r' ρ' w' _ hi
theorem XgC {ops:Array Oper}:∀ (L:List Oper) (l:List CI),Xa0 P ops L=some l->l.length=L.length/\∀ (q:Nat) (c:CI),l[q]? = some c->∃ o,L[q]? = some o/\ciOf P ops o=some c
  |[],l,h=>by simp only[Xa0,Option.some.injEq] at h; subst h; exact⟨rfl,fun q c h=>by simp at h⟩
  |o::L,l,h=>by
    simp only[Xa0] at h;split at h
    . rename_i c l' hc hl
      simp only[Option.some.injEq] at h; subst h
      obtain⟨h1,h2⟩:=XgC L l' hl
      refine⟨by simp[h1],fun q c' hq=>?_⟩
      cases q with
      |zero=>simp at hq; subst hq; exact⟨o,rfl,hc⟩
      |succ q=>simpa using h2 q c' (by simpa using hq)
    . cases h
theorem Xdn {l0 : List CI} {bs : List Nat} : ∀ (L : List (Nat × CI)) (p0 : Nat), Xe3 l0 al bs m p0 L = true → ∀ (p q i k : Nat) (a b : CI), p < q → L[p]? = some (i, a) → L[q]? = some (k, b) → XdG l0 al bs m (p0 + p) (p0 + q) i k a b = true
  |[],_,_,p,q,i,k,a,b,_,h,_=>by simp at h
  | (i0,a0)::L,p0,hp,p,q,i,k,a,b,hpq,h1,h2=>by
    simp only[Xe3,Bool.and_eq_true,List.all_eq_true] at hp;obtain⟨hp1,hp2⟩:=hp
    cases q with
    |zero=>omega
    |succ q =>
      cases p with
      |zero =>
        simp only[List.getElem?_cons_zero,Option.some.injEq,Prod.mk.injEq] at h1;obtain⟨rfl,rfl⟩:=h1
        have h2':L[q]? = some (k,b):=by simpa using h2
        have:=hp1 ((k,b),p0+1+q) (by rw[List.mk_mem_zipIdx_iff_le_and_getElem?_sub]; exact⟨by omega,by rw[show p0+1+q-(p0+1)=q by omega]; exact h2'⟩)
        simpa [show p0+1+q=p0+(q+1) by omega] using this
      |succ p =>
        have:=Xdn L (p0+1) hp2 p q i k a b (by omega) (by simpa using h1) (by simpa using h2)
        rwa [show p0+1+q=p0+(q+1) by omega,show p0+1+p=p0+(p+1) by omega] at this
theorem XdY {l:List CI}{p t:Nat} (h:untold l p t=true):∀ j c,p<=j->l[j]? = some c->c.dst ≠ some t:=by
  intro j c hj hc hd;simp only[untold,List.all_eq_true] at h
  have hm:c∈l.drop p:=by
    refine List.mem_of_getElem? (i:=j-p) ?_
    rw[List.getElem?_drop,show p+(j-p)=j by omega]; exact hc
  have:=h c hm
  rw[hd] at this
  simp at this
theorem XgY {l:List CI}{al:List Nat}{m p q:Nat}{a b:CI} (h:XgZ l al m p q a b=true):Xcw l al m p q a b:=by
  unfold XgZ at h;split at h
  . rename_i tp tx h1 h2
    simp only[Bool.and_eq_true] at h;obtain⟨⟨⟨⟨a1,a2⟩,a3⟩,a4⟩,a5⟩:=h
    exact⟨tx,tp,h1,h2,by simpa using a1,by simpa using a2,by simpa using a3,XdY a4,XdY a5⟩
  . cases h
theorem Xbj {l:List Nat}{i:Nat} (h:i∈l):l.getD (l.idxOf i) 0=i/\l.idxOf i<l.length:=by
  have hlt:l.idxOf i<l.length:=List.idxOf_lt_length_iff.2 h
  refine⟨?_,hlt⟩
  rw[List.getD_eq_getElem?_getD,List.getElem?_eq_getElem hlt,Option.getD_some];exact List.getElem_idxOf hlt
theorem XfB (hgood : Xm P.globals.size call) (hcall : XM P call) : Xic P call := by
  intro id ops m al ord l hd nt ds ρ0 h0 w0 ρ h w e a R rk x k hR s hr;obtain⟨hcis,hok⟩:=Xel hd;simp only[XjD,Bool.and_eq_true] at hok;obtain⟨⟨⟨⟨⟨⟨⟨⟨o1,o2⟩,o3⟩,o4⟩,o5⟩,o6⟩,o7⟩,o8⟩,o9⟩:=hok
  have o4:ord.length=ops.size:=by simpa using o4
  have o5:m<=ops.size:=by simpa using o5
  have o6:∀ i,i<ops.size->i∈ord:=by
    simp only[List.all_eq_true,List.mem_range,List.contains_iff_mem] at o6; exact o6
  have o7:∀ i∈ord,i<ops.size:=by
    simp only[List.all_eq_true] at o7; intro i hi; simpa using o7 i hi
  obtain⟨hlen,hget⟩:=XgC _ _ hcis
  have hlen:l.length=ord.length:=by rw[hlen]; simp[ordered]
  have hord:∀ q,q<l.length->ord[q]? = some (ord.getD q 0):=fun q hq=>by
    rw[List.getD_eq_getElem?_getD,List.getElem?_eq_getElem (by omega)]; rfl
  have hci:∀ q c,l[q]? = some c->ord.getD q 0<ops.size/\ciOf P ops (ops.getD (ord.getD q 0) default)=some c:=by
    intro q c hc;obtain⟨o,ho,hco⟩:=hget q c hc
    have:=hord q (lget hc)
    simp only[ordered,List.getElem?_map,this,Option.map_some,Option.some.injEq] at ho;subst ho
    exact⟨o7 _ (List.mem_of_getElem? this),hco⟩
  have hzip:∀ q c,l[q]? = some c->(ord.zip l)[q]? = some (ord.getD q 0,c):=by
    intro q c hc;rw[List.getElem?_zip_eq_some]
    exact⟨hord q (lget hc),hc⟩
  have hpair:∀ (p q:Nat) (a b:CI),p<q->l[p]? = some a->l[q]? = some b->XdG l al (Xb4 ops.toList []) m p q (ord.getD p 0) (ord.getD q 0) a b=true:=by
    intro p q a b hpq hp hq
    have:=Xdn (ord.zip l) 0 o8 p q _ _ a b hpq (hzip p a hp) (hzip q b hq)
    rwa [Nat.zero_add,Nat.zero_add] at this
  have hinj:∀ p q,p<q->q<l.length->ord.getD p 0 ≠ ord.getD q 0:=by
    intro p q hpq hq
    have:=hpair p q _ _ hpq (List.getElem?_eq_getElem (by omega)) (List.getElem?_eq_getElem hq)
    simp only[XdG,Bool.and_eq_true,Bool.not_eq_true'] at this;intro he;have h1:=this.1.1;rw[he] at h1
    simp at h1
  have hinj':∀ p q,p<l.length->q<l.length->ord.getD p 0=ord.getD q 0->p=q:=by
    intro p q hp hq he
    rcases Nat.lt_trichotomy p q with h | h | h
    . exact absurd he (hinj p q h hq)
    . exact h
    . exact absurd he.symm (hinj q p h hp)
  obtain⟨E,G,v,hE,hG,t,hal,hk⟩:=XcE l m e h hr hR
  have hcw:Xc5 P.globals.size l:=Xd0 _ _ hcis
  subst hE hG;have tg:=t.good hgood hcw s.cx.gr.1 s.cx.wh s.cx.we;refine wp_region_draw fun tt=>?_
  generalize hσ:Region.schedule (P.follows .mixedOrders) ops tt=σ
  have hO:Order .any ops σ:=by rw[← hσ]; exact XeT o1 o2 o3 _ _
  have hmap:(σ.map ord.idxOf).map (fun q=>ord.getD q 0)=σ:=by
    rw[List.map_map]
    have:∀ i∈σ,((fun q=>ord.getD q 0) ∘ ord.idxOf) i=i:=fun i hi=>(Xbj (o6 i (hO.lt i hi))).1
    rw[List.map_congr_left this,List.map_id']
  have side:Side al m l (fun p q=>((Xb4 ops.toList []).getD (ord.getD q 0) 0).testBit (ord.getD p 0)=true) (σ.map ord.idxOf):=by
    refine⟨by omega,?_,?_,?_,?_,?_,?_⟩
    . have lt':∀ (p q:Nat) (a b:CI),p<q->l[p]? = some a->l[q]? = some b->Xew a b=false:=by
        intro p q a b hpq hp hq
        have:=hpair p q a b hpq hp hq
        simp only[XdG,Bool.and_eq_true,Bool.not_eq_true'] at this;exact this.1.2
      intro p q a b d hne hp hq had hbd
      rcases Nat.lt_or_ge p q with h | h
      . have:=lt' p q a b h hp hq
        simp[Xew,had,hbd] at this
      . have:=lt' q p b a (by omega) hq hp
        simp[Xew,had,hbd] at this
    . intro p q a b hpq hp hq
      have:=hpair p q a b hpq hp hq
      simp only[XdG,Bool.and_eq_true,Bool.or_eq_true,Bool.not_eq_true'] at this
      rcases this.2 with h | ⟨⟨h1,h2⟩,h3⟩
      . exact .inl h
      . refine .inr ⟨h1,h2,?_⟩
        rcases h3 with ((h3 | h3) | h3) | h3
        . exact .inl (by simpa using h3)
        . exact .inr (.inl h3)
        . exact .inr (.inr (.inl h3))
        . exact .inr (.inr (.inr (XgY h3)))
    . have h1:((σ.map ord.idxOf).map (fun q=>ord.getD q 0)).Nodup:=by rw[hmap]; exact hO.nd
      unfold List.Nodup at h1 ⊢;rw[List.pairwise_map] at h1;exact h1.imp fun hne he=>hne (by rw[he])
    . intro q hq
      obtain⟨i,hi,rfl⟩:=List.mem_map.1 hq;rw[hlen];exact (Xbj (o6 i (hO.lt i hi))).2
    . intro q hq
      have hm:ord.getD q 0∈ord:=List.mem_of_getElem? (hord q hq)
      refine List.mem_map.2 ⟨ord.getD q 0,hO.all _ (o7 _ hm),?_⟩;obtain⟨h1,h2⟩:=Xbj hm;exact hinj' _ _ (by omega) hq h1
    . intro l1 q l2 hfull p hp hb
      have hs:σ=l1.map (fun q=>ord.getD q 0)++ord.getD q 0::l2.map (fun q=>ord.getD q 0):=by
        rw[← hmap,hfull]; simp
      have:=XlN hO _ _ hb _ _ hs
      obtain⟨p',hp',he⟩:=List.mem_map.1 this
      have hlt:p'<l.length:=by
        have:p'∈σ.map ord.idxOf:=by rw[hfull]; exact List.mem_append_left _ hp'
        obtain⟨i,hi,rfl⟩:=List.mem_map.1 this;rw[hlen];exact (Xbj (o6 i (hO.lt i hi))).2
      have:=hinj' p' p hlt hp he
      exact this▸hp'
  rw[← hmap]
  have hml:m<=l.length:=by omega
  have low:∀ o,o<(G 0).n->(G m).get o=(G 0).get o:=fun o ho=>tg.low' (Nat.zero_le _) hml (Nat.le_refl _) o ho
  have abs0:=tg.abs' (p:=0) (q:=m) (Nat.zero_le _) hml;have dr:=XgA (h:=G 0) s.cx.r
  have init:DInv P nt ds m l E G v ρ { w with drawn:=w.drawn+1 } [] m ρ { w with drawn:=w.drawn+1 } a:=by
    have rel:HRel ρ (G m) { w with drawn:=w.drawn+1 }:=by
      refine⟨fun o p ho=>Nat.lt_of_lt_of_le (s.cx.r.lt o p ho) abs0.n,?_,fun o o' p p' h1 h2 e=>(s.cx.r.inj o o' p p' h1 h2 e).imp (fun e=>e) (fun h3=>by rw[abs0.fl]; exact h3)⟩
      intro o p ho;have hlt:=s.cx.r.lt o p ho;rw[low o hlt];refine (dr.rel.obj o p ho).map rfl ?_
      intro n tt sp el fz hx j y hy;have hwo:=s.cx.wh.2 o;rw[hx] at hwo;exact hy.congr (n:=(G 0).n) (fun o ho=>⟨rfl,low o ho⟩) abs0.n (hwo j)
    refine⟨Nat.le_refl _,hml,?_,?_,?_,rel,?_,?_,s.sz,s.df,?_,?_⟩
    . intro q c hm hc _
      exact⟨fun h=>(by cases h),fun h=>(by omega)⟩
    . intro h; omega
    . intro q hq _ o h1 h2
      cases hx:ρ o with
      |none=>rfl
      |some p =>
        have:=s.cx.r.lt o p hx
        have:=(tg.abs' (p:=0) (q:=q) (Nat.zero_le _) (by omega)).n
        omega
    . refine⟨Nat.le_trans s.cx.gr.1 abs0.n,fun g hg=>?_⟩
      have hg':=Nat.lt_of_lt_of_le hg s.cx.gr.1
      rcases s.cx.gr.2 g hg with h | ⟨h1,h2⟩
      . exact .inl h
      . exact .inr ⟨h1,by rw[low g hg']; exact h2⟩
    . refine⟨abs0,rel,rfl,rfl,rfl,Nat.le_refl _,fun _ _ _=>rfl,fun _ _=>.inl rfl,fun o p ho hp=>?_⟩
      have:=s.cx.r.lt o p hp
      omega
    . intro q c d hq; cases hq
    . intro d _
      exact (s.cx.er d).congr (n:=(G 0).n) (fun o ho=>⟨rfl,low o ho⟩) abs0.n (s.cx.we d)
  refine XiY hgood hcall s.cx.gr.1 tg side hal ?_ hci ?_ (σ.map ord.idxOf) [] m ρ _ a rfl init
  . intro c hc hp
    simp only[List.all_eq_true] at o9
    have:=o9 c hc
    rw[hp] at this;simp only[Bool.not_true,Bool.false_or] at this;split at this
    . rename_i d hd
      simp only[Bool.and_eq_true] at this
      exact⟨d,hd,by simpa using this.1,by simpa using this.2⟩
    . cases this
  . intro r ρ' w' a' hi
    obtain⟨hcx,hpo⟩:=hi.done tg side
    exact⟨ρ',G l.length,E l.length,⟨hcx,(s.post.trans dr).trans hpo,hi.sz,hi.df⟩,hk⟩
theorem sound {P:Program}{tab:Nat->Option CFn} (ht:Tab P tab)(n:Nat):XM P (Vm.call tab n) :=
  XfL ht (fun _ hg hc=>XfB hg hc) n
end
end Go.Vm
namespace Go.Vm
open Go.ChangeShapes
structure Kept (W W':World):Prop where
  os:W'.os=W.os
  output:W'.output=W.output
  heap:∀ B,B<W.heap.size->W'.heap[B]? = W.heap[B]?
theorem Kept.keptBut {W W':World} (k:Kept W W')(may:MemPlace->Prop):W.keptBut W' may:=by
  refine⟨k.os,k.output,fun i hi=>?_⟩
  rw[k.heap i hi]
  cases W.heap[i]? with
  |none=>rfl
  |some o =>
    cases o<;>first
      |exact⟨rfl,rfl,rfl,fun _ _=>rfl⟩
      |exact .inr ⟨rfl,rfl⟩
      |rfl
theorem Xhc {H : Type} {enc : TypeId × Value → H} {P : Program} {f : Func} {s : ChangeSpec} {apart fresh handsOn again : Bool} {W W' : World} {args : Array Value} {v : Value} {ds gs : List (DataW H)} {before pa pv : List MemPlace}
    (hW:DataW.Whole enc P f.params.toList s.vars apart W args.toList ds gs before)
    (hres:∀ (b:Nat) (sp:Nat->Bool) (hd:Bool),DataW.TrodAll enc P W' b sp hd f.resultTypes.toList (v.resultList f.resultTypes.size) (s.fn H (ds++gs)).results [])
    (hargs:∀ sp:Nat->Bool,(∀ p∈before,sp p.block=true)->DataW.TrodAll enc P W' 0 sp true f.params.toList args.toList (s.fn H (ds++gs)).args pa)
    (hvars:∀ sp:Nat->Bool,(∀ p∈before,sp p.block=true)->DataW.TrodVars enc P W' sp s.vars (s.fn H (ds++gs)).vars pv)
    (hps:before=pa++pv) (hk:Kept W W')
    (hok:∀ (j:Nat) (t:TypeId) (r:Value),f.resultTypes[j]? = some t->(v.resultList f.resultTypes.size)[j]? = some r->Value.okWide P W' .any 0 t r) :
    s.post enc P f apart fresh handsOn again W args v W':=by
  have hlt:∀ p∈before,p.block<W.heap.size:=hW.lt
  have hold:∀ p∈before,(fun b=>decide (b<W.heap.size)) p.block=true:=fun p hp=>by simpa using hlt p hp
  refine⟨ds,gs,before,[],pa,pv,hW,hres _ _ _,hargs _ hold,hvars _ hold,World.keptBut_mono (fun p hp=>⟨hp,?_⟩) (hk.keptBut (·∈before)),fun _=>?_⟩
  . rw[hps,List.mem_append] at hp
    exact Or.inr hp
  . obtain⟨_,_,_,_,_,hz,hn⟩:=hW
    refine⟨hok,_,_,([]++pa)++pv,⟨[]++pa,pv,trodAll_append (hargs _ (fun _ _=>rfl)) (hres _ _ _),hvars _ (fun _ _=>rfl),rfl,?_,?_⟩,?_⟩
    . intro b off hp
      have hp':MemPlace.cell b off∈before:=by rw[hps]; simpa using hp
      have hb:b<W.heap.size:=hlt _ hp'
      have:W'.frozen? ⟨b,off,none⟩=W.frozen? ⟨b,off,none⟩:=by
        unfold World.frozen?;rw[hk.heap b hb]
      rw[this];exact hz b off hp'
    . intro ha
      have:=hn ha
      rw[hps] at this
      simpa using this
    . intro p hp _
      rw[hps]
      simpa using hp
end Go.Vm
namespace Go.Vm
def Xgh:List (Nat×CFn)->Nat->Option CFn
  |[],_=>none
  | (g,c)::r,f=>match Nat.beq g f with
    |true=>some c
    |false=>Xgh r f
theorem Xrj {P:Program}{l:List (Nat×CFn)} (h:∀ x∈l,fnOf P x.1=some x.2):Tab P (Xgh l):=by
  intro f c hf
  induction l with
  |nil=>cases hf
  |cons x r ih =>
    obtain⟨g,d⟩:=x;simp only[Xgh] at hf;split at hf
    . rename_i hb
      have:=Nat.eq_of_beq_eq_true hb
      subst this;simp only[Option.some.injEq] at hf;subst hf;exact h _ List.mem_cons_self
    . exact ih (fun y hy=>h y (List.mem_cons_of_mem _ hy)) hf
end Go.Vm
