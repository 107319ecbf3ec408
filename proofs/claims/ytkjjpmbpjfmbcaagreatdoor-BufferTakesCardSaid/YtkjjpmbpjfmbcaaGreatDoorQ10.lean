/-
  Laws over rows, at the model's level.
  What the laws of layer 17 stand over: the functions, what is known of messages, and that the closing examples hold.
  Loops over rows of records: what the laws share.
  Layer 17: few; what is left of a message.
  Layer 17: what lies in a range, and what is left.
  Layer 17: where the first message lies that has a part in a range; copies of messages.
  Layer 17: the document's Same.
  Layer 17: the document's First.
  A slice that may be nil, told as one value; what is left of a message, so told.
  Layer 17: the document's Same, where a slice may be nil.
  Layer 17: where the first part lies, and what is left behind it; First, done again and again.
  One way through a tree.
-/
import Derived.Test.YtkjjpmbpjfmbcaaGreatDoorQ9
import Derived.ChangeArms
import Derived.Test.YtkjjpmbpjfmbcaaGreatDoorQ6
import Derived.Deep.Slices
import Derived.Test.YtkjjpmbpjfmbcaaGreatDoorQ7
set_option linter.unusedVariables false
set_option linter.unusedSimpArgs false
namespace Go.Vm.R
noncomputable section
variable {P:Program}
def rowH (n:Nat) (B:Base) (el:Nat->Nat) (x:Obj):H:=⟨n+1,(baseT el B).set .dead n x,n+1⟩
theorem rowH_get (n:Nat) (B:Base) (el:Nat->Nat) (x:Obj) (o:Nat):(rowH n B el x).get o=if n=o then x else (baseT el B).get .dead o:=by
  show T.get _ (T.set _ _ _ _) _=_
  rw[T.get_set]
def rowRho (n:Nat) (B:Base) (p:Pl):Rho:=fun o=>if o=n then some p else rhoB B o
structure RowAt (W:World) (B:Base) (p:Pl) (cells:List V) (e z:Nat):Prop where
  lie:∃ cs fr,W.heap[p.B]? = some (.cells cs e fr)/\cs.size=p.N/\p.b+cells.length<=p.N/\fr.2<=p.b+z/\∀ i v,cells[i]? = some v->∃ x,cs[p.b+i]? = some x/\VRel noRho noH v x
  ne:∀ y∈B,y.1 ≠ p.B
theorem rowH_rel {n:Nat}{B:Base} (hB:BaseOk n B) {el:Nat->Nat}{W:World} (hW:BaseAt B el W) {p:Pl}{cells:List V}{e z:Nat} (hp:RowAt W B p cells e z) (hc:wfs 0 cells) :
    HRel (rowRho n B p) (rowH n B el (ob cells true e (some z))) W:=by
  have hb:=baseH_rel hB hW
  refine⟨fun o q h=>?_,fun o q h=>?_,fun o o' q q' h h' e=>?_⟩
  . unfold rowRho at h
    show o<n+1
    split at h
    . omega
    . have:=hb.lt o q h
      have:o<n:=this
      omega
  . unfold rowRho at h
    rw[rowH_get]
    split at h
    . rename_i e1
      cases h
      rw[if_pos e1.symm]
      obtain⟨cs,fr,h1,h2,h3,h4,h5⟩:=hp.lie
      refine⟨cs,fr,h1,h2,h3,(fun h=>nomatch h),fun i hi=>?_,h4⟩
      have hi:i<cells.length:=hi
      obtain⟨x,hx,hv⟩:=h5 i cells[i] (List.getElem?_eq_getElem hi)
      refine⟨x,hx,?_⟩
      rw[row_get hi,List.getD_eq_getElem?_getD,List.getElem?_eq_getElem hi]
      exact vrel_plain _ _ ((wfs_iff 0 cells).1 hc _ (List.getElem_mem hi)) hv
    . rename_i e1
      rw[if_neg (fun e2=>e1 e2.symm)]
      have ho:=hb.obj o q h
      obtain⟨l,hm,_,hg⟩:=rhoB_some (el:=el) h
      have e2:(baseH n B el).get o=(baseT el B).get .dead o:=rfl
      rw[e2] at ho
      rw[hg] at ho ⊢
      obtain⟨cs,fr,h1,h2,h3,h4,h5,h6⟩:=ho
      refine⟨cs,fr,h1,h2,h3,h4,fun i hi=>?_,h6⟩
      obtain⟨x,hx,hv⟩:=h5 i hi
      refine⟨x,hx,?_⟩
      have hi':i<l.length:=hi
      rw[get_writeCells,if_pos ⟨Nat.zero_le _,by omega⟩] at hv ⊢
      refine vrel_plain _ _ ?_ hv
      rw[List.getD_eq_getElem?_getD,List.getElem?_eq_getElem (by omega)]
      exact (wfs_iff 0 l).1 (hB.wf _ hm) _ (List.getElem_mem _)
  . unfold rowRho at h h'
    split at h<;>split at h'
    . omega
    . cases h
      obtain⟨l,hm,hq,_⟩:=rhoB_some (el:=el) h'
      exact absurd (show o'=p.B by rw[e,hq]) (hp.ne _ hm)
    . cases h'
      obtain⟨l,hm,hq,_⟩:=rhoB_some (el:=el) h
      exact absurd (show o=p.B by rw[← e,hq]) (hp.ne _ hm)
    . exact hb.inj o o' q q' h h' e
theorem rowH_wfh {n:Nat}{B:Base} (hB:BaseOk n B) (el:Nat->Nat) {cells:List V}{e z:Nat} (hc:wfs 0 cells):wfh (rowH n B el (ob cells true e (some z))):=by
  refine⟨Nat.le_refl _,fun o=>?_⟩
  rw[rowH_get]
  show wfo (n+1) _
  split
  . intro i
    rcases Nat.lt_or_ge i cells.length with hi | hi
    . rw[row_get hi,List.getD_eq_getElem?_getD,List.getElem?_eq_getElem hi]
      exact wf_mono (Nat.zero_le _) _ ((wfs_iff 0 cells).1 hc _ (List.getElem_mem hi))
    . show wf (n+1) ((writeCells .lf 0 cells).get .bot i)
      rw[get_writeCells,if_neg (by omega),T.get_lf]
      trivial
  . have:=(baseH_wfh hB el).2 o
    have h2:wfo n ((baseT el B).get .dead o):=this
    cases hr:rhoB B o with
    |none=>rw[rhoB_none hr]; trivial
    |some q =>
      obtain⟨l,hm,_,hg⟩:=rhoB_some (el:=el) hr
      rw[hg]
      intro i
      exact wf_writeCells (fun i=>by rw[T.get_lf]; trivial) (wfs_mono (Nat.zero_le _) _ (hB.wf _ hm)) 0 i
theorem rowH_gr {n:Nat} (B:Base) (el:Nat->Nat) (p:Pl) (x:Obj):GRel n (rowRho n B p) (rowH n B el x):=by
  refine⟨Nat.le_succ n,fun g hg=>?_⟩
  have e1:rowRho n B p g=rhoB B g:=if_neg (by omega)
  have e2:(rowH n B el x).get g=(baseH n B el).get g:=by rw[rowH_get,if_neg (by omega)]; rfl
  rw[e1,e2]
  exact (baseH_gr B el).2 g hg
theorem row_call (C:Ctx P) {B:Base}{hlt:∀ x∈B,x.1<P.globals.size} (hG:C.G=glBase P.globals.size B hlt) (hB:BaseOk P.globals.size B) (hS:CallSim P C.O) (hm:∀ el,meets (baseH P.globals.size B el) B=true)
    {f T:Nat}{k:RK}{full:List k.T}{e z:Nat}{l:List DV}{out:RD}{d:DH} (law:LawOk C.G C.O C.tab f T [.r k full true ⟨e,z⟩] l out) (ho:(out.tree [.r k full true ⟨e,z⟩] 1 okK).ev=some (.bool true,d))
    {W:World}{el:Nat->Nat} (hW:BaseAt B el W) {p:Pl} (hp:RowAt W B p (rowV k full) e z) {vs:List Value}
    (hwf:wfs (P.globals.size+1) (toVs (fun s=>P.globals.size+s) l))
    (hvs:∀ ρ h,ρ P.globals.size=some p->VRels ρ h (toVs (fun s=>P.globals.size+s) l) vs) :
    Calls P f vs.toArray W fun e W'=>e=.returned (.bool true)/\Kept W W':=by
  have hc:wfs 0 (rowV k full):=rowV_wf 0 full
  have R:Rep (fun s=>P.globals.size+s) (mkD [.r k full true ⟨e,z⟩] 1) (rowH P.globals.size B el (ob (rowV k full) true e (some z))):=by
    have key:∀ s,Here ((mkD [.r k full true ⟨e,z⟩] 1).get s)->s=0:=by
      intro s hs
      rw[mkD_get] at hs
      cases s with
      |zero=>rfl
      |succ s=>exact hs.elim
    refine⟨fun s hs=>?_,fun s hs=>?_,fun s s' hs hs' _=>?_,fun j=>?_,fun s hs hl=>?_⟩
    . obtain rfl:=key s hs
      rw[rowH_get,if_pos (Nat.add_zero _).symm]; rfl
    . obtain rfl:=key s hs
      exact⟨Nat.lt_succ_self 0,Nat.lt_succ_self _⟩
    . rw[key s hs,key s' hs']
    . show P.globals.size+(1+j)=P.globals.size+1+j
      omega
    . obtain rfl:=key s hs
      exact absurd hl (by show ¬ 1<=0; omega)
  have wh:=rowH_wfh (z:=z) hB el hc (e:=e)
  have hj:C.G.J (rowH P.globals.size B el (ob (rowV k full) true e (some z))):=by
    rw[hG]
    refine⟨Nat.le_succ _,Nat.le_succ _,meets_same (fun x hx=>?_) (hm el)⟩
    rw[rowH_get,if_neg (by have:=hlt x hx; omega)]; rfl
  obtain⟨w,d',L',h',e1,_,_,hz⟩:=law T (Nat.le_refl _) okK _ _ R wh hj hwf _ ho
  have hw:w=.bool true:=congrArg Prod.fst (Option.some.inj hz)
  subst hw
  have hrel:=rowH_rel hB hW hp hc
  obtain⟨_,hq⟩:=soundO noTmps_ok C.hX.good hS C.ht T f _ _ _ W vs hrel wh (rowH_gr B el p _) hwf (hvs _ _ (if_pos rfl)) (by rw[e1]; intro h; cases h)
  rw[e1] at hq
  refine hq.mono fun x W' he=>?_
  cases x with
  |returned x =>
    obtain⟨ρ',hv,hpo⟩:=he
    rw[vrel_bool hv]
    exact⟨rfl,hpo.fr.os,hpo.fr.output,fun B' hB'=>hpo.fr.old B' hB' fun o p h _=>hrel.lt o p h⟩
  |panicked ch=>exact he.elim
  |outgrown=>exact he.elim
theorem plain_call (C:Ctx P) {B:Base}{hlt:∀ x∈B,x.1<P.globals.size} (hG:C.G=glBase P.globals.size B hlt) (hB:BaseOk P.globals.size B) (hS:CallSim P C.O) (hm:∀ el,meets (baseH P.globals.size B el) B=true)
    {f T:Nat}{l:List DV}{out:RD}{d:DH} (law:LawOk C.G C.O C.tab f T [] l out) (ho:(out.tree [] 0 okK).ev=some (.bool true,d))
    {W:World}{el:Nat->Nat} (hW:BaseAt B el W) {vs:List Value}
    (hwf:wfs P.globals.size (toVs (fun s=>P.globals.size+s) l)) (hvs:∀ ρ h,VRels ρ h (toVs (fun s=>P.globals.size+s) l) vs) :
    Calls P f vs.toArray W fun e W'=>e=.returned (.bool true)/\Kept W W':=by
  have no:∀ s,¬ Here ((mkD [] 0).get s):=by
    intro s hs
    rw[mkD_get] at hs
    exact hs.elim
  have R:Rep (fun s=>P.globals.size+s) (mkD [] 0) (baseH P.globals.size B el) :=
    ⟨fun s hs=>absurd hs (no s),fun s hs=>absurd hs (no s),fun s _ hs=>absurd hs (no s),fun j=>by show P.globals.size+(0+j)=P.globals.size+j; omega,fun s hs=>absurd hs (no s)⟩
  have wh:=baseH_wfh hB el
  have hj:C.G.J (baseH P.globals.size B el):=by
    rw[hG]
    exact⟨Nat.le_refl _,Nat.le_refl _,hm el⟩
  obtain⟨w,d',L',h',e1,_,_,hz⟩:=law T (Nat.le_refl _) okK _ _ R wh hj hwf _ ho
  have hw:w=.bool true:=congrArg Prod.fst (Option.some.inj hz)
  subst hw
  have hrel:=baseH_rel hB hW
  obtain⟨_,hq⟩:=soundO noTmps_ok C.hX.good hS C.ht T f _ _ _ W vs hrel wh (baseH_gr B el) hwf (hvs _ _) (by rw[e1]; intro h; cases h)
  rw[e1] at hq
  refine hq.mono fun x W' he=>?_
  cases x with
  |returned x =>
    obtain⟨ρ',hv,hpo⟩:=he
    rw[vrel_bool hv]
    exact⟨rfl,hpo.fr.os,hpo.fr.output,fun B' hB'=>hpo.fr.old B' hB' fun o p h _=>hrel.lt o p h⟩
  |panicked ch=>exact he.elim
  |outgrown=>exact he.elim
end
end Go.Vm.R
namespace Go.Vm.R
noncomputable section
open Go.Deep
variable {H:Type}{enc:TypeId×Value->H}{P:Program}
theorem cells_kept {W W':World} (k:Kept W W') {a:Addr}{n:Nat}{cs:List Value} (h:W.cells? 0 a n=some cs) (hb:a.block<W.heap.size):W'.cells? 0 a n=some cs:=by
  have e:∀ i,W'.cell? (a.add i)=W.cell? (a.add i):=by
    intro i
    have:(a.add i).block=a.block:=by unfold Addr.add; split<;>rfl
    unfold World.cell?
    rw[this,k.heap _ hb]
  unfold World.cells? at h ⊢
  simp only[e]
  exact h
structure EntT (P:Program) (t e:TypeId):Prop where
  sl:P.underlying t=some (.slice e)
  two:∃ f0 f1:Field,P.underlying e=some (.struct #[f0,f1])/\P.underlying f0.type=some .string/\P.underlying f1.type=some .string/\f0.offset=0/\f1.offset=1/\P.cellsOf f0.type=1/\P.cellsOf f1.type=1
  cells:P.cellsOf e=2
  plain:plainT P 8 e=true
end
end Go.Vm.R
namespace Go.Vm.R
noncomputable section
theorem rep_like {L:Nat->Nat}{d d2:DH}{h:H} (R:Rep L d h) (hn:d2.n=d.n) (hf:d2.fl=d.fl) (hs:∀ s,Here (d2.get s)->Here (d.get s)/\toO L (d2.get s)=toO L (d.get s)):Rep L d2 h where
  get:=fun s h2=>by rw[(hs s h2).2]; exact R.get s (hs s h2).1
  lt:=fun s h2=>by rw[hn]; exact R.lt s (hs s h2).1
  inj:=fun s s' h2 h2' e=>R.inj s s' (hs s h2).1 (hs s' h2').1 e
  fut:=fun j=>by rw[hn]; exact R.fut j
  fl:=fun s h2 hl=>R.fl s (hs s h2).1 (by rw[← hf]; exact hl)
end
end Go.Vm.R
namespace Go.Vm.R
open Go.Proofs
noncomputable section
theorem law_sn3 {G : Gl} {O : Nat → List V → H → Res} {tab : Nat → Option CFn} {f T : Nat} {ao : List DO} {l : List DV} {k : RK} {r : List k.T} {el : Nat} {a b : DV} {bb : Bool}
    (hao:∀ o∈ao,∀ L L':Nat->Nat,toO L o=toO L' o) (ha:∀ L L':Nat->Nat,toV L a=toV L' a) (hb:∀ L L':Nat->Nat,toV L b=toV L' b)
    (law:LawOk G O tab f T ao l (.need bb (.br (Nat.beq r.length 0) (.v (.tup [a,.nils,b]) []) (.v (.tup [a,.rs ao.length 0 r.length r.length k.w false,b]) [.r k r true el])))) :
    LawOk G O tab f T ao l (.need bb (.v (.tup [a,.ns ao.length r.length k.w,b]) [.rn k r el])):=by
  intro n hn kk L h R wf g hw z hz
  obtain⟨rfl,hz⟩:=ev_need hz
  have hz:(kk (.tup [a,.ns ao.length r.length k.w,b]) (mkD (ao++[.rn k r el]) ao.length)).ev=some z:=hz
  cases hr:Nat.beq r.length 0 with
  |true =>
    have h0:r.length=0:=Nat.eq_of_beq_eq_true hr
    obtain⟨x,d',L',h',e1,R1,st,hx⟩:=law n hn okK L h R wf g hw (.tup [a,.nils,b],mkD (ao++[]) ao.length) (by
      show (Tree.need true (Tree.br (Nat.beq r.length 0) (.ok (.tup [a,.nils,b]) (mkD (ao++[]) ao.length)) (.ok (.tup [a,.rs ao.length 0 r.length r.length k.w false,b]) (mkD (ao++[.r k r true el]) ao.length)))).ev=_
      rw[hr]; rfl)
    have hq:=Option.some.inj hx
    obtain⟨rfl,rfl⟩:=Prod.mk.inj hq
    rw[List.append_nil] at R1 st
    have low:∀ s,Here ((mkD (ao++[.rn k r el]) ao.length).get s)->s<ao.length/\(mkD (ao++[.rn k r el]) ao.length).get s=(mkD ao ao.length).get s:=by
      intro s hs
      rw[mkD_get] at hs
      rcases Nat.lt_trichotomy s ao.length with h | h | h
      . refine⟨h,?_⟩
        rw[mkD_get,mkD_get,List.getD_eq_getElem?_getD,List.getD_eq_getElem?_getD,List.getElem?_append_left h]
      . subst h
        rw[List.getD_eq_getElem?_getD,List.getElem?_append_right (Nat.le_refl _),Nat.sub_self] at hs
        have:0<r.length:=hs
        omega
      . rw[List.getD_eq_getElem?_getD,List.getElem?_eq_none (by simp; omega)] at hs
        exact hs.elim
    refine⟨.tup [a,.ns ao.length r.length k.w,b],mkD (ao++[.rn k r el]) ao.length,fun s=>if s<ao.length then L' s else h'.n+(s-(ao.length+1)),h',?_,?_,?_,hz⟩
    . rw[e1]
      congr 1
      show V.tup [toV L' a,.nils,toV L' b]=V.tup [toV _ a,nsV _ _ _,toV _ b]
      rw[h0,ha L',hb L']; rfl
    . have hL:∀ s,s<ao.length->(fun s=>if s<ao.length then L' s else h'.n+(s-(ao.length+1))) s=L' s:=fun s hs=>if_pos hs
      have htoO:∀ s,s<ao.length->Here ((mkD ao ao.length).get s)->toO (fun s=>if s<ao.length then L' s else h'.n+(s-(ao.length+1))) ((mkD ao ao.length).get s)=toO L' ((mkD ao ao.length).get s):=by
        intro s hs _
        rw[mkD_get,List.getD_eq_getElem?_getD,List.getElem?_eq_getElem hs]
        exact hao _ (List.getElem_mem hs) _ _
      refine⟨fun s hs=>?_,fun s hs=>?_,fun s s' hs hs' e=>?_,fun j=>?_,fun s hs hl=>?_⟩
      . obtain⟨h1,h2⟩:=low s hs
        rw[h2] at hs ⊢
        rw[htoO s h1 hs]
        simp only[if_pos h1]
        exact R1.get s hs
      . obtain⟨h1,h2⟩:=low s hs
        rw[h2] at hs
        refine⟨by show s<(ao++[DO.rn k r el]).length; simp; omega,?_⟩
        simp only[if_pos h1]
        exact (R1.lt s hs).2
      . obtain⟨h1,h2⟩:=low s hs
        obtain⟨h1',h2'⟩:=low s' hs'
        rw[h2] at hs
        rw[h2'] at hs'
        simp only[if_pos h1,if_pos h1'] at e
        exact R1.inj s s' hs hs' e
      . show (if (ao++[DO.rn k r el]).length+j<ao.length then _ else h'.n+((ao++[DO.rn k r el]).length+j-(ao.length+1)))=h'.n+j
        rw[if_neg (by simp; omega)]
        simp
      . obtain⟨h1,h2⟩:=low s hs
        exact absurd hl (by show ¬ ao.length<=s; omega)
    . refine⟨fun s hs=>?_,by show ao.length<=(ao++[DO.rn k r el]).length; simp,st.hn,rfl,st.hfl,st.frame,fun s hs hh=>?_,fun s hs hh=>?_⟩
      . simp only[if_pos hs]
        exact st.agree s hs
      . obtain⟨h1,h2⟩:=low s hh
        rw[h2] at hh
        exact hh
      . exact absurd (low s hh).1 (by omega)
  |false =>
    have h0:0<r.length:=by
      rcases Nat.eq_zero_or_pos r.length with h | h
      . rw[h] at hr; cases hr
      . exact h
    obtain⟨x,d',L',h',e1,R1,st,hx⟩:=law n hn okK L h R wf g hw (.tup [a,.rs ao.length 0 r.length r.length k.w false,b],mkD (ao++[.r k r true el]) ao.length) (by
      show (Tree.need true (Tree.br (Nat.beq r.length 0) (.ok (.tup [a,.nils,b]) (mkD (ao++[]) ao.length)) (.ok (.tup [a,.rs ao.length 0 r.length r.length k.w false,b]) (mkD (ao++[.r k r true el]) ao.length)))).ev=_
      rw[hr]; rfl)
    have hq:=Option.some.inj hx
    obtain⟨rfl,rfl⟩:=Prod.mk.inj hq
    have same:∀ s,(Here ((mkD (ao++[.rn k r el]) ao.length).get s)->Here ((mkD (ao++[.r k r true el]) ao.length).get s))/\toO L' ((mkD (ao++[.rn k r el]) ao.length).get s)=toO L' ((mkD (ao++[.r k r true el]) ao.length).get s):=by
      intro s
      rw[mkD_get,mkD_get]
      rcases Nat.lt_trichotomy s ao.length with h | h | h
      . rw[List.getD_eq_getElem?_getD,List.getD_eq_getElem?_getD,List.getElem?_append_left h,List.getElem?_append_left h]
        exact⟨id,rfl⟩
      . subst h
        rw[List.getD_eq_getElem?_getD,List.getD_eq_getElem?_getD,List.getElem?_append_right (Nat.le_refl _),List.getElem?_append_right (Nat.le_refl _),Nat.sub_self]
        exact⟨fun _=>trivial,rfl⟩
      . rw[List.getD_eq_getElem?_getD,List.getD_eq_getElem?_getD,List.getElem?_eq_none (by simp; omega),List.getElem?_eq_none (by simp; omega)]
        exact⟨id,rfl⟩
    refine⟨.tup [a,.ns ao.length r.length k.w,b],mkD (ao++[.rn k r el]) ao.length,L',h',?_,rep_like R1 (by simp[mkD_n]) rfl (fun s hs=>⟨(same s).1 hs,(same s).2⟩),?_,hz⟩
    . rw[e1]
      congr 1
      obtain⟨m,hm⟩:∃ m,r.length=m+1:=⟨r.length-1,by omega⟩
      show V.tup [toV L' a,V.sl _ (0*k.w) _ _ _ _,toV L' b]=V.tup [toV L' a,nsV _ _ _,toV L' b]
      rw[hm,Nat.zero_mul]; rfl
    . exact⟨st.agree,by show ao.length<=(ao++[DO.rn k r el]).length; simp,st.hn,rfl,st.hfl,st.frame,fun s hs hh=>st.here s hs ((same s).1 hh),fun s hs hh=>st.new s hs ((same s).1 hh)⟩
theorem law_as3 {G : Gl} {O : Nat → List V → H → Res} {tab : Nat → Option CFn} {f T : Nat} {l : List DV} {k k' : RK} {r : List k.T} {r' : List k'.T} {el el' : Nat} {a b : DV} {bb : Bool}
    (hl:∀ L L':Nat->Nat,toVs L l=toVs L' l) (ha:∀ L L':Nat->Nat,toV L a=toV L' a) (hb:∀ L L':Nat->Nat,toV L b=toV L' b)
    (lawR:r.length ≠ 0->LawOk G O tab f T [.r k r true el] (.rs 0 0 r.length r.length k.w false::l) (.need bb (.v (.tup [a,.ns 1 r'.length k'.w,b]) [.rn k' r' el'])))
    (lawN:r.length=0->r'.length=0/\LawOk G O tab f T [] (.nils::l) (.need bb (.v (.tup [a,.nils,b]) []))) :
    LawOk G O tab f T [.rn k r el] (.ns 0 r.length k.w::l) (.need bb (.v (.tup [a,.ns 1 r'.length k'.w,b]) [.rn k' r' el'])):=by
  intro n hn kk L h R wf g hw z hz
  obtain⟨rfl,hz⟩:=ev_need hz
  have hz:(kk (.tup [a,.ns 1 r'.length k'.w,b]) (mkD [.rn k r el,.rn k' r' el'] 1)).ev=some z:=hz
  by_cases h0:r.length=0
  . obtain⟨hr',law⟩:=lawN h0
    have no:∀ (rest:List DO) (s:Nat),s<1->¬ Here ((mkD (DO.rn k r el::rest) 1).get s):=by
      intro rest s hs hh
      rw[mkD_get,show s=0 by omega] at hh
      have hh:0<r.length:=hh
      omega
    have R0:Rep (fun s=>h.n+s) (mkD [] 0) h:=⟨fun s hs=>by rw[mkD_get] at hs; cases s<;>exact hs.elim,fun s hs=>by rw[mkD_get] at hs; cases s<;>exact hs.elim,
      fun s s' hs=>by rw[mkD_get] at hs; cases s<;>exact hs.elim,fun j=>by show h.n+(0+j)=_; omega,fun s hs=>by rw[mkD_get] at hs; cases s<;>exact hs.elim⟩
    have ev:toVs L (.ns 0 r.length k.w::l)=toVs (fun s=>h.n+s) (.nils::l):=by
      show nsV _ _ _::toVs L l=V.nils::toVs _ l
      rw[h0,hl L]; rfl
    rw[ev] at hw ⊢
    obtain⟨x,d',L',h',e1,R1,st,hx⟩:=law n hn okK _ h R0 wf g hw (.tup [a,.nils,b],mkD [] 0) rfl
    have hq:=Option.some.inj hx
    obtain⟨rfl,rfl⟩:=Prod.mk.inj hq
    have no2:∀ s:Nat,¬ Here ((mkD [.rn k r el,.rn k' r' el'] 1).get s):=by
      intro s hs
      rw[mkD_get] at hs
      match s,hs with
      |0,hs=>have:0<r.length:=hs; omega
      |1,hs=>have:0<r'.length:=hs; omega
      |s+2,hs=>exact hs
    refine⟨.tup [a,.ns 1 r'.length k'.w,b],mkD [.rn k r el,.rn k' r' el'] 1,fun s=>match s with | 0=>L 0 | s+1=>h'.n+(s-1),h',?_,?_,?_,hz⟩
    . rw[e1]
      congr 1
      show V.tup [toV L' a,.nils,toV L' b]=V.tup [toV _ a,nsV _ _ _,toV _ b]
      rw[hr',ha L',hb L']; rfl
    . exact⟨fun s hs=>(no2 s hs).elim,fun s hs=>(no2 s hs).elim,fun s s' hs=>(no2 s hs).elim,fun j=>by
        show (match 2+j with | 0=>L 0 | s+1=>h'.n+(s-1))=h'.n+j
        rw[show 2+j=j+1+1 by omega]; rfl,fun s hs=>(no2 s hs).elim⟩
    . refine⟨fun s hs=>?_,by show 1<=2; omega,st.hn,rfl,st.hfl,fun o ho hf=>st.frame o ho fun s hs=>?_,fun s hs hh=>(no2 s hh).elim,fun s hs hh=>(no2 s hh).elim⟩
      . rw[show s=0 by have:s<1:=hs; omega]
      . rw[mkD_get] at hs; cases s<;>exact hs.elim
  . have law:=lawR h0
    have like:∀ (rest:List DO) (s:Nat),(Here ((mkD (DO.rn k r el::rest) 1).get s)<->Here ((mkD (DO.r k r true el::rest) 1).get s))/\∀ L:Nat->Nat,toO L ((mkD (DO.rn k r el::rest) 1).get s)=toO L ((mkD (DO.r k r true el::rest) 1).get s):=by
      intro rest s
      rw[mkD_get,mkD_get]
      cases s with
      |zero=>exact⟨⟨fun _=>trivial,fun _=>by show 0<r.length; omega⟩,fun _=>rfl⟩
      |succ s=>exact⟨Iff.rfl,fun _=>rfl⟩
    have R0:Rep L (mkD [.r k r true el] 1) h:=rep_like R rfl rfl fun s hs=>⟨((like [] s).1).2 hs,((like [] s).2 L).symm⟩
    have ev:toVs L (.ns 0 r.length k.w::l)=toVs L (.rs 0 0 r.length r.length k.w false::l):=by
      obtain⟨m,hm⟩:∃ m,r.length=m+1:=⟨r.length-1,by omega⟩
      show nsV _ _ _::_=V.sl _ (0*k.w) _ _ _ _::_
      rw[hm,Nat.zero_mul]; rfl
    rw[ev] at hw ⊢
    obtain⟨x,d',L',h',e1,R1,st,hx⟩:=law n hn okK _ h R0 wf g hw (.tup [a,.ns 1 r'.length k'.w,b],mkD [.r k r true el,.rn k' r' el'] 1) rfl
    have hq:=Option.some.inj hx
    obtain⟨rfl,rfl⟩:=Prod.mk.inj hq
    refine⟨_,mkD [.rn k r el,.rn k' r' el'] 1,L',h',e1,rep_like R1 rfl rfl fun s hs=>⟨((like _ s).1).1 hs,(like _ s).2 L'⟩,?_,hz⟩
    exact⟨st.agree,by show 1<=2; omega,st.hn,rfl,st.hfl,fun o ho hf=>st.frame o ho fun s hs=>hf s (((like [] s).1).2 hs),fun s hs hh=>((like [] s).1).2 (st.here s hs (((like _ s).1).1 hh)),
      fun s hs hh=>by
        rcases st.new s hs (((like _ s).1).1 hh) with h | ⟨s0,h1,h2,h3⟩
        . exact .inl h
        . exact .inr ⟨s0,h1,((like [] s0).1).2 h2,h3⟩⟩
end
end Go.Vm.R

namespace Go.Vm.YtkjjpmbpjfmbcaaGreatDoor
open Go.Proofs
noncomputable section
abbrev Txt:=List UInt8
abbrev Msg:=Int×Txt×Txt×Txt
def partOk (m:Msg) (a b:Txt):Bool:=mayB m.1 m.2.1 m.2.2.1 m.2.2.2&&cond (decide (m.1=3))
  (Op.bytesLess (cond (Op.bytesLess m.2.1 a) a m.2.1) (cond (decide (b=[])) m.2.2.1 (cond (Op.bytesLess b m.2.2.1) b m.2.2.1)))
  (!Op.bytesLess m.2.1 a&&(decide (b=[])||Op.bytesLess m.2.1 b))
def partM (m:Msg) (a b:Txt):Msg:=(m.1,cond (decide (m.1=3)) (cond (Op.bytesLess m.2.1 a) a m.2.1) m.2.1,cond (decide (m.1=3)) (cond (decide (b=[])) m.2.2.1 (cond (Op.bytesLess b m.2.2.1) b m.2.2.1)) m.2.2.1,m.2.2.2)
def part2 (op:Int) (k t v a b:Txt):PD:=.br (partOk (op,k,t,v) a b)
  (.v (someV op (partM (op,k,t,v) a b).2.1 (partM (op,k,t,v) a b).2.2.1 v)) (.v noneV)
theorem part2_val (op:Int) (k t v a b:Txt):(part2 op k t v a b).val=(partD op k t v a b).val:=by
  unfold part2 partD partOk partM
  simp only[pd_br,pd_v,PD.val_br,PD.val_v]
  cases mayB op k t v<;>cases decide (op=3)<;>cases Op.bytesLess k a<;>cases decide (b=[])<;>cases Op.bytesLess b t<;>cases Op.bytesLess k b <;>
    simp only[Bool.true_and,Bool.false_and,Bool.and_false,Bool.and_true,Bool.or_true,Bool.or_false,Bool.true_or,Bool.false_or,Bool.not_true,Bool.not_false,cond_true,cond_false,if_true,if_false,Bool.false_eq_true]
noncomputable def gpart2:List DV->Option PD:=fun l=>match l with
  |[.agg [.int .i64 op,.str k,.str t,.str v],.str a,.str b]=>some (part2 op k t v a b)
  |_=>none
theorem partD_ok (op:Int) (k t v a b:Txt):(partD op k t v a b).ok=true:=by
  unfold partD
  simp only[PD.ok_br,PD.ok_v]
  cases mayB op k t v<;>cases decide (op=3)<;>cases Op.bytesLess k a<;>cases decide (b=[])<;>cases Op.bytesLess k b<;>simp only[cond_true,cond_false,Bool.cond_self]
theorem p60_ok:∀ l d,gpart2 l=some d->d.ok=true->PlainCall Tryz.prog [] 60 (toVs l) (toV d.val)/\ofVs (toVs l)=some l:=by
  intro l d h ho
  unfold gpart2 at h
  split at h
  . rename_i op k t v a b
    cases h
    rw[part2_val]
    exact g19_ok _ _ rfl (partD_ok op k t v a b)
  . cases h
set_option maxRecDepth 100000 in
theorem run16 (el:Nat->Nat):resIs isTrue (callOF noO (tabOf all) 1000 16 [] (baseH 7 [] el))=true:=by kernel_rfl
def gawake16:List DV->Option PD:=fun l=>match l with
  |[]=>some (.v (.bool true))
  |_=>none
theorem g16_ok:∀ l d,gawake16 l=some d->d.ok=true->PlainCall Tryz.prog [] 16 (toVs l) (toV d.val)/\ofVs (toVs l)=some l:=by
  intro l d h ho
  unfold gawake16 at h
  split at h
  . cases h
    refine⟨plain_of_run noTmps_ok noO_good noO_sim tab_ok (n:=1000) ⟨fun x hx=>(by cases hx),fun x hx=>(by cases hx)⟩ (fun el=>?_) trivial trivial,rfl⟩
    rw[globals4,← callOF_eq]
    exact resIs_true (run16 el)
  . cases h
def X:Laws Tryz.prog:=((laws10.add 60 gpart2 p60_ok)).add 16 gawake16 g16_ok
theorem above:R.Above X X.O:=⟨X.O_good,fun _ _ _ _ _ e=>e⟩
def kn:Nat->Bool:=fun f=>X.dom.any (Nat.beq f)
theorem kn_no:∀ f,kn f=false->∀ a h,X.O f a h=.no:=by
  intro f hf a h
  refine X.O_no (fun hm=>?_) a h
  have:kn f=true:=List.any_eq_true.2 ⟨f,hm,Nat.beq_refl f⟩
  rw[this] at hf; cases hf
def kd:R.Kd:=⟨fun el=>match Nat.beq el 41 with
  |true=>some .ent
  |false=>match Nat.beq el 31 with
    |true=>some .msg
    |false=>match Nat.beq el 5 with
      |true=>some .byte
      |false=>none,fun _=>none⟩
def base:Base:=[]
theorem base_ok:BaseOk Tryz.prog.globals.size base:=⟨fun x hx=>(by cases hx),fun x hx=>(by cases hx)⟩
def gl:R.Gl:=R.glBase 7 base (fun x hx=>by cases hx)
def C:R.Ctx Tryz.prog:=⟨X,gl,globals4.symm,X.O,above,tab,tab_ok,kn,kn_no,kd⟩
def Y0:C.RL:=R.RLaws.none C.G C.O C.tab
end
end Go.Vm.YtkjjpmbpjfmbcaaGreatDoor

namespace Go.Vm.YtkjjpmbpjfmbcaaGreatDoor
open Go.Proofs Go.Vm.R
noncomputable section
def fl:CC->CC | .seq a _=>a | c=>c
def bl:CC->CC | .block _ b=>b | c=>c
theorem cT {α:Type}{p:Prop} [Decidable p] {a b:α} (h:p):cond (decide p) a b=a:=by rw[decide_eq_true h]; rfl
theorem cF {α:Type}{p:Prop} [Decidable p] {a b:α} (h:¬ p):cond (decide p) a b=b:=by rw[decide_eq_false h]; rfl
theorem cA {α:Type}{p q:Prop} [Decidable p] [Decidable q] {a b:α} (h1:p) (h2:q):cond (decide p&&decide q) a b=a:=by rw[decide_eq_true h1,decide_eq_true h2]; rfl
theorem cB {α:Type}{m n:Nat}{a b:α} (h:m<n):cond (Nat.blt m n) a b=a:=by rw[show Nat.blt m n=true by simpa using h]; rfl
theorem ev_br (b:Bool) (t f:R.Tree):(R.Tree.br b t f).ev=cond b t.ev f.ev:=by cases b<;>rfl
theorem nextI {z:Int}{n:Nat} (h0:0<=z) (h1:z<n) (h2:n<9223372036854775808):IntKind.wrap .i64 (z+1)=z+1:=wrap_i64 (by omega) (by omega)
theorem lt_need {N:Nat}{ld:LoopD}{rd:R.EK}{y:List (Nat×R.EK)}{b:Bool}{t:LT}{z:R.DV×R.DH} (h:((LT.need b t).tree N ld rd y).ev=some z):b=true/\(t.tree N ld rd y).ev=some z:=by
  rw[LT.tree] at h; exact R.ev_need h
theorem lt_br {N:Nat}{ld:LoopD}{rd:R.EK}{y:List (Nat×R.EK)} (b:Bool) (t f:LT):((LT.br b t f).tree N ld rd y).ev=cond b (t.tree N ld rd y).ev (f.tree N ld rd y).ev:=by
  rw[LT.tree]; exact ev_br ..
theorem wf_body {f:Nat}{c:CFn} (h:tab f=some c):ccWf Tryz.prog.globals.size c.body:=by
  obtain⟨fn,b,_,_,_,_,_,h7⟩:=fnOf_some (tab_ok f c h)
  rw[h7]; exact codeOf_wf Tryz.prog b
theorem wf_loops {G:Nat}:∀ (c:CC) (hd:Option Nat),ccWf G c->∀ p∈loopsIn hd c,ccWf G p.2
  | .seq a b,hd,h,p,hp=>by
    rcases List.mem_append.1 hp with hp | hp
    . exact wf_loops a hd h.1 p hp
    . exact wf_loops b hd h.2 p hp
  | .cond _ a b,hd,h,p,hp=>by
    rcases List.mem_append.1 hp with hp | hp
    . exact wf_loops a hd h.1 p hp
    . exact wf_loops b hd h.2 p hp
  | .block id b,_,h,p,hp=>wf_loops b (some id) h p hp
  | .loop b,some id,h,p,hp=>by
    rcases List.mem_append.1 hp with hp | hp
    . cases List.mem_singleton.1 hp; exact h
    . exact wf_loops b (some id) h p hp
  | .loop b,none,h,p,hp=>by
    rcases List.mem_append.1 hp with hp | hp
    . cases hp
    . exact wf_loops b none h p hp
  | .skip,_,_,_,hp | .ops _,_,_,_,hp | .draw ..,_,_,_,hp | .exit _,_,_,_,hp | .ret,_,_,_,hp | .bad,_,_,_,hp=>by cases hp
def seg {α:Type} (full:List α) (j n:Nat):List α:=(full.drop j).take n
theorem seg_len {α:Type}{full:List α}{j n:Nat} (h:j+n<=full.length):(seg full j n).length=n:=by
  simp[seg]; omega
theorem seg_drop {α:Type}{d:α}{full:List α}{j n:Nat}{z:Int} (h:j+n<=full.length) (h0:0<=z) (h1:z<n):(seg full j n).drop z.toNat=full.getD (j+z.toNat) d::(seg full j n).drop (z+1).toNat:=by
  have hl:=seg_len h
  rw[show (z+1).toNat=z.toNat+1 by omega,List.drop_eq_getElem_cons (by omega)]
  congr 1
  have:(seg full j n)[z.toNat]? = full[j+z.toNat]? := by
    unfold seg
    rw[List.getElem?_take_of_lt (by omega),List.getElem?_drop]
  rw[List.getD_eq_getElem?_getD,← this,List.getElem?_eq_getElem (by omega)]; rfl
theorem seg_end {α:Type}{full:List α}{j n:Nat}{z:Int} (h:j+n<=full.length) (h1:¬ z<n) (h0:0<=z):(seg full j n).drop z.toNat=[]:=by
  have hl:=seg_len h
  exact List.drop_eq_nil_of_le (by omega)
def lhX (ld:LoopD):Nat->Option LoopD:=fun id=>match Nat.beq id 0 with
  |true=>some ld
  |false=>none
theorem lhX_ok {Q:Nat->CC->LoopD->Prop}{ld:LoopD}{l:List (Nat×CC)}{b:CC} (hl:l=[(0,b)]) (h:Q 0 b ld):∀ p∈l,∀ d,lhX ld p.1=some d->Q p.1 p.2 d:=by
  subst hl
  intro p hp d e
  cases List.mem_singleton.1 hp
  cases e
  exact h
theorem room_msg {n:Nat} (h:n<9999):roomFor n 56=true:=by
  unfold roomFor
  rw[Nat.ble_eq_true_of_le (by omega),Nat.ble_eq_true_of_le (by omega)]; rfl
def rec (full:List Msg) (j:Nat) (z:Int):Msg:=full.getD (j+z.toNat) (0,[],[],[])
theorem seg_rec {full:List Msg}{j n:Nat}{z:Int} (h:j+n<=full.length) (h0:0<=z) (h1:z<n):(seg full j n).drop z.toNat=rec full j z::(seg full j n).drop (z+1).toNat:=seg_drop h h0 h1
def okS (full:List Msg) (j n:Nat) (z:Int):Bool:=decide (0<=z/\z<=n/\j+n<=full.length/\n<9223372036854775808)
theorem okS_iff {full:List Msg}{j n:Nat}{z:Int}:okS full j n z=true<->(0<=z/\z<=n/\j+n<=full.length/\n<9223372036854775808):=by simp[okS]
def P14 (j n:Nat) (full:List Msg) (z:Int):Bool:=okS full j n z&&decide (z<=70)
def shortL (full:List Msg) (j n:Nat):Nat->Int->Bool
  |0,_=>true
  |m+1,z=>cond (decide (z<n)) (cond (decide (z<70)) (cond (decide (300<((rec full j z).2.1.length:Int))) false (cond (decide (300<((rec full j z).2.2.1.length:Int))) false (cond (decide (300<((rec full j z).2.2.2.length:Int))) false (shortL full j n m (z+1))))) true) true
def S14 (j n:Nat) (full:List Msg) (z:Int):Bool:=shortL full j n (71-z.toNat) z
def b14:CC:=match loopsIn none c14.body with | [(_,b)]=>b | _=>.skip
def lt14 (j n c:Nat) (ex:Bool) (z:Int) (full:List Msg) (sp:Bool) (el:R.EL):LT:=.need (P14 j n full z) (.br (S14 j n full z) (.exit 0 [.rs 0 j n c 4 ex] [.r .msg full sp el]) (.ret [.bool false] [.r .msg full sp el]))
def ld14:LoopD:=⟨[(0,none),(3,none)],[(0,none)],[(2,none)],fun vs ao=>match vs,ao with
  |[.rs 0 j n c 4 ex,.int .i64 z],[.r .msg full sp el]=>some (71-z.toNat,lt14 j n c ex z full sp el)
  |_,_=>none⟩
theorem turn14 (j n c:Nat) (ex:Bool) (z:Int) (full:List Msg) (sp:Bool) (el:R.EL) (m:Nat) (rd k1:R.EK) (y:List (Nat×R.EK)) :
    (turnD C Y0 (fun _=>none) 200 42 1 0 b14 ld14 m [.rs 0 j n c 4 ex,.int .i64 z] [.r .msg full sp el] rd k1 y).ev =
    cond (decide (z<(↑n:Int))) (cond (decide (z<70)) (cond (decide (0<=z)&&decide (Int.toNat z<n)) (cond (Nat.blt (j+Int.toNat z) full.length) (cond (decide (300<(↑(List.length (Prod.fst (Prod.snd (List.getD full (j+Int.toNat z) (RK.zero RK.msg))))):Int))) ((rd (envZ [2] [R.DV.bool false]) (mkD [DO.r RK.msg full sp el] 1)).ev) (cond (decide (0<=z)&&decide (Int.toNat z<n)) (cond (Nat.blt (j+Int.toNat z) full.length) (cond (decide (300<(↑(List.length (Prod.fst (Prod.snd (Prod.snd (List.getD full (j+Int.toNat z) (RK.zero RK.msg)))))):Int))) ((rd (envZ [2] [R.DV.bool false]) (mkD [DO.r RK.msg full sp el] 1)).ev) (cond (decide (0<=z)&&decide (Int.toNat z<n)) (cond (Nat.blt (j+Int.toNat z) full.length) (cond (decide (300<(↑(List.length (Prod.snd (Prod.snd (Prod.snd (List.getD full (j+Int.toNat z) (RK.zero RK.msg)))))):Int))) ((rd (envZ [2] [R.DV.bool false]) (mkD [DO.r RK.msg full sp el] 1)).ev) (cond (decide (71-Int.toNat (IntKind.wrap .i64 (z+1))<m)) (cond (P14 j n full (IntKind.wrap .i64 (z+1))) (cond (S14 j n full (IntKind.wrap .i64 (z+1))) ((k1 (envZ [0] [DV.rs 0 j n c 4 ex]) (mkD [DO.r RK.msg full sp el] 1)).ev) ((rd (envZ [2] [R.DV.bool false]) (mkD [DO.r RK.msg full sp el] 1)).ev)) none) none)) none) none)) none) none)) none) none) ((k1 (envZ [0] [DV.rs 0 j n c 4 ex]) (mkD [DO.r RK.msg full sp el] 1)).ev)) ((k1 (envZ [0] [DV.rs 0 j n c 4 ex]) (mkD [DO.r RK.msg full sp el] 1)).ev):=by kernel_rfl
theorem step14 (j n c : Nat) (ex : Bool) (z : Int) (full : List Msg) (sp : Bool) (el : R.EL) (rd k1 : R.EK) (y : List (Nat × R.EK)) (w : R.DV × R.DH) (hw : ((lt14 j n c ex z full sp el).tree 1 ld14 rd ((0, k1) :: y)).ev = some w) :
    (turnD C Y0 (fun _=>none) 200 42 1 0 b14 ld14 (71-z.toNat) [.rs 0 j n c 4 ex,.int .i64 z] [.r .msg full sp el] rd k1 y).ev=some w:=by
  replace hw:=lt_need hw
  obtain⟨hp,hw⟩:=hw
  simp only[P14,Bool.and_eq_true,decide_eq_true_eq] at hp
  obtain⟨hp,hz⟩:=hp
  obtain⟨p0,p1,p2,p3⟩:=okS_iff.1 hp
  rw[turn14]
  rw[lt_br] at hw
  replace hw:cond (shortL full j n (71-z.toNat) z) ((k1 (envZ [0] [R.DV.rs 0 j n c 4 ex]) (mkD [DO.r RK.msg full sp el] 1)).ev) ((rd (envZ [2] [R.DV.bool false]) (mkD [DO.r RK.msg full sp el] 1)).ev)=some w:=hw
  rw[show 71-z.toNat=(70-z.toNat)+1 by omega] at hw
  rw[show shortL full j n (70-z.toNat+1) z=cond (decide (z<n)) (cond (decide (z<70)) (cond (decide (300<((rec full j z).2.1.length:Int))) false (cond (decide (300<((rec full j z).2.2.1.length:Int))) false (cond (decide (300<((rec full j z).2.2.2.length:Int))) false (shortL full j n (70-z.toNat) (z+1))))) true) true from rfl] at hw
  by_cases h1:z<n
  . rw[cT h1] at hw ⊢
    by_cases h2:z<70
    . rw[cT h2] at hw ⊢
      have b1:z.toNat<n:=by omega
      have hP:P14 j n full (z+1)=true:=by
        simp only[P14,Bool.and_eq_true,decide_eq_true_eq]
        exact⟨okS_iff.2 (by omega),by omega⟩
      have hS:S14 j n full (z+1)=shortL full j n (70-z.toNat) (z+1):=by
        unfold S14
        rw[show 71-(z+1).toNat=70-z.toNat by omega]
      rw[cA p0 b1,cB (show j+z.toNat<full.length by omega),cA p0 b1,cB (show j+z.toNat<full.length by omega),cA p0 b1,cB (show j+z.toNat<full.length by omega),nextI p0 h1 p3,hP,hS,cT (show 71-(z+1).toNat<71-z.toNat by omega)]
      revert hw
      show _->cond (decide (300<((rec full j z).2.1.length:Int))) _ (cond (decide (300<((rec full j z).2.2.1.length:Int))) _ (cond (decide (300<((rec full j z).2.2.2.length:Int))) _ _))=_
      cases decide (300<((rec full j z).2.1.length:Int))<;>cases decide (300<((rec full j z).2.2.1.length:Int))<;>cases decide (300<((rec full j z).2.2.2.length:Int))<;>exact id
    . rw[cF h2] at hw ⊢
      exact hw
  . rw[cF h1] at hw ⊢
    exact hw
theorem loop14 {n:Nat} (hn:200<=n):LoopOk C.G 1 (callO noTmps C.O C.tab n) n 200 42 0 b14 ld14:=by
  refine loop_of C Y0 (lh:=fun _=>none) hn ?_ (fun p _ ld h=>by cases h) ?_
  . exact wf_loops _ none (wf_body (f:=14) rfl) (0,b14) (by rw[show loopsIn none c14.body=[(0,b14)] from rfl]; exact List.mem_cons_self)
  intro vs ao m t hs rd k1 y w hw
  unfold ld14 at hs
  simp only at hs
  split at hs
  case h_2=>cases hs
  cases hs
  exact step14 _ _ _ _ _ _ _ _ _ _ _ _ hw
def shortM (m:Msg):Bool:=!decide (300<(m.2.1.length:Int))&&(!decide (300<(m.2.2.1.length:Int))&&!decide (300<(m.2.2.2.length:Int)))
def fewL (l:List Msg):Bool:=l.all shortM&&decide ((l.length:Int)<=60)
theorem shortL_all {full:List Msg}{j n:Nat} (hj:j+n<=full.length) (hn:n<=60):∀ (m:Nat) (z:Int),0<=z->z<=n->n<m+z->shortL full j n m z=((seg full j n).drop z.toNat).all shortM
  |0,z,h0,h1,h2=>by omega
  |m+1,z,h0,h1,h2=>by
    show cond (decide (z<n)) (cond (decide (z<70)) _ true) true=_
    by_cases h3:z<n
    . rw[cT h3,cT (show z<70 by omega),seg_rec hj h0 h3,List.all_cons,← shortL_all hj hn m (z+1) (by omega) (by omega) (by omega)]
      unfold shortM
      cases decide (300<((rec full j z).2.1.length:Int))<;>cases decide (300<((rec full j z).2.2.1.length:Int))<;>cases decide (300<((rec full j z).2.2.2.length:Int))<;>rfl
    . rw[cF h3,seg_end hj h3 h0]; rfl
theorem few_eq {full:List Msg}{j n:Nat} (hj:j+n<=full.length):cond (S14 j n full 0) (decide ((n:Int)<=60)) false=fewL (seg full j n):=by
  unfold fewL
  rw[seg_len hj,show S14 j n full 0=shortL full j n 71 0 from rfl]
  by_cases hn:n<=60
  . rw[shortL_all hj hn 71 0 (by omega) (by omega) (by omega)]
    show cond ((seg full j n).all shortM) _ _=_
    cases (seg full j n).all shortM<;>rfl
  . rw[show decide ((n:Int)<=60)=false by simp; omega,Bool.and_false]
    cases shortL full j n 71 0<;>rfl
def out14 (full:List Msg) (j n:Nat):RD:=.need (okS full j n 0) (.v (.bool (fewL (seg full j n))) [])
theorem run14 (j n c:Nat) (ex:Bool) (full:List Msg) (sp:Bool) (el:R.EL):runD C Y0 (lhX ld14) 200 c14 [.rs 0 j n c 4 ex] [.r .msg full sp el] =
    cond (P14 j n full 0) (cond (S14 j n full 0) (some (R.DV.bool (decide ((↑n:Int)<=60)),(mkD [DO.r RK.msg full sp el] 1))) (some (R.DV.bool false,(mkD [DO.r RK.msg full sp el] 1)))) none:=by kernel_rfl
theorem law14 (j n c:Nat) (ex:Bool) (full:List Msg) (sp:Bool) (el:R.EL):LawOk C.G C.O C.tab 14 201 [.r .msg full sp el] [.rs 0 j n c 4 ex] (out14 full j n):=by
  refine law_of C Y0 (lhX ld14) rfl rfl (fun n hn=>lhX_ok (Q:=fun i b ld=>LoopOk C.G 1 (callO noTmps C.O C.tab n) n 200 42 i b ld) rfl (loop14 hn)) fun z hz=>?_
  obtain⟨hp,hz⟩:=R.ev_need hz
  refine (run14 j n c ex full sp el).trans ?_
  have hP:P14 j n full 0=true:=by
    simp only[P14,Bool.and_eq_true]
    exact⟨hp,rfl⟩
  rw[hP]
  have:=few_eq (okS_iff.1 hp).2.2.1
  cases hs:S14 j n full 0<;>rw[hs] at this<;>(refine Eq.trans ?_ hz)<;>show some _=some _<;>rw[← this]<;>rfl
theorem law14n:LawOk C.G C.O C.tab 14 201 [] [.nils] (.v (.bool true) []):=by
  refine law_of C Y0 (fun _=>none) rfl rfl (fun n hn p _ ld e=>by cases e) fun z hz=>?_
  refine Eq.trans ?_ hz
  kernel_rfl
def leftL (m:Msg) (a b:Txt):List Msg:=cond (decide (m.1=3)) (cond (!decide (a=[])&&partOk m [] a) [partM m [] a] []++cond (!decide (b=[])&&partOk m b []) [partM m b []] []) []
def leftR (m:Msg) (a b:Txt):List Msg:=cond (decide (m.1=3)) (cond (Op.bytesLess m.2.1 a) [(3,m.2.1,a,[])] []++cond (!decide (b=[])&&Op.bytesLess b m.2.2.1) [(3,b,m.2.2.1,[])] []) []
def outL (l:List Msg):RD:=.br (Nat.beq l.length 0) (.v .nils []) (.v (.rs 0 0 l.length l.length 4 false) [.r .msg l true 31])
theorem run61 (op:Int) (k t v a b:Txt):runD C Y0 (fun _=>none) 200 c61 [.agg [.int .i64 op,.str k,.str t,.str v],.str a,.str b] [] =
    cond (!decide (op=3)) (some (R.DV.nils,(mkD [] 0))) (cond (!decide (a=[])) (cond (partOk (op,k,t,v) [] a) (cond (!decide (b=[])) (cond (partOk (op,k,t,v) b []) (some (DV.rs 0 0 2 2 4 false,(mkD [DO.r RK.msg (List.take (List.length (List.take 1 (List.drop 0 [(op,Prod.fst (Prod.snd (partM (op,k,t,v) [] a)),Prod.fst (Prod.snd (Prod.snd (partM (op,k,t,v) [] a))),v)]))) (List.drop 0 (List.take 1 (List.drop 0 [(op,Prod.fst (Prod.snd (partM (op,k,t,v) [] a)),Prod.fst (Prod.snd (Prod.snd (partM (op,k,t,v) [] a))),v)])))++List.take 1 (List.drop 0 [(op,Prod.fst (Prod.snd (partM (op,k,t,v) b [])),Prod.fst (Prod.snd (Prod.snd (partM (op,k,t,v) b []))),v)])) true { e:=31,z:=0 }] 0))) (some (DV.rs 0 0 1 1 4 false,(mkD [DO.r RK.msg (List.take 1 (List.drop 0 [(op,Prod.fst (Prod.snd (partM (op,k,t,v) [] a)),Prod.fst (Prod.snd (Prod.snd (partM (op,k,t,v) [] a))),v)])) true { e:=31,z:=0 }] 0)))) (some (DV.rs 0 0 1 1 4 false,(mkD [DO.r RK.msg (List.take 1 (List.drop 0 [(op,Prod.fst (Prod.snd (partM (op,k,t,v) [] a)),Prod.fst (Prod.snd (Prod.snd (partM (op,k,t,v) [] a))),v)])) true { e:=31,z:=0 }] 0)))) (cond (!decide (b=[])) (cond (partOk (op,k,t,v) b []) (some (DV.rs 0 0 1 1 4 false,(mkD [DO.r RK.msg (List.take 1 (List.drop 0 [(op,Prod.fst (Prod.snd (partM (op,k,t,v) b [])),Prod.fst (Prod.snd (Prod.snd (partM (op,k,t,v) b []))),v)])) true { e:=31,z:=0 }] 0))) (some (R.DV.nils,(mkD [] 0)))) (some (R.DV.nils,(mkD [] 0))))) (cond (!decide (b=[])) (cond (partOk (op,k,t,v) b []) (some (DV.rs 0 0 1 1 4 false,(mkD [DO.r RK.msg (List.take 1 (List.drop 0 [(op,Prod.fst (Prod.snd (partM (op,k,t,v) b [])),Prod.fst (Prod.snd (Prod.snd (partM (op,k,t,v) b []))),v)])) true { e:=31,z:=0 }] 0))) (some (R.DV.nils,(mkD [] 0)))) (some (R.DV.nils,(mkD [] 0))))):=by kernel_rfl
theorem law61 (op:Int) (k t v a b:Txt):LawOk C.G C.O C.tab 61 201 [] [.agg [.int .i64 op,.str k,.str t,.str v],.str a,.str b] (outL (leftL (op,k,t,v) a b)):=by
  refine law_of C Y0 (fun _=>none) rfl rfl (fun n hn p _ ld e=>by cases e) fun z hz=>?_
  refine (run61 op k t v a b).trans (Eq.trans ?_ hz)
  unfold leftL
  show _=(R.Tree.br _ _ _).ev
  show cond (!decide (op=3)) _ _=_
  cases decide (op=3)<;>cases decide (a=[])<;>cases partOk (op,k,t,v) [] a<;>cases decide (b=[])<;>cases partOk (op,k,t,v) b []<;>rfl
def g61:List R.DV->List R.DO->Option RD:=fun l ao=>match l,ao with
  |[.agg [.int .i64 op,.str k,.str t,.str v],.str a,.str b],[]=>some (outL (leftL (op,k,t,v) a b))
  |_,_=>none
theorem g61_ok (l:List R.DV) (ao:List R.DO) (out:RD) (h:g61 l ao=some out):LawOk C.G C.O C.tab 61 201 ao l out:=by
  unfold g61 at h
  split at h
  . cases h; exact law61 _ _ _ _ _ _
  . cases h
def g14:List R.DV->List R.DO->Option RD:=fun l ao=>match l,ao with
  |[.rs 0 j n c 4 ex],[.r .msg full sp el]=>some (out14 full j n)
  |[.nils],[]=>some (.v (.bool true) [])
  |_,_=>none
theorem g14_ok (l:List R.DV) (ao:List R.DO) (out:RD) (h:g14 l ao=some out):LawOk C.G C.O C.tab 14 201 ao l out:=by
  unfold g14 at h
  split at h
  . cases h; exact law14 _ _ _ _ _ _ _
  . cases h; exact law14n
  . cases h
def Y1:C.RL:=(Y0.add 61 201 g61 g61_ok)
def okG (full:List Msg) (j n:Nat):Bool:=decide (j+n<=full.length/\n<199)
theorem okG_iff {full:List Msg}{j n:Nat}:okG full j n=true<->(j+n<=full.length/\n<199):=by simp[okG]
def inL (x y:Txt):List Msg->List Msg
  |[]=>[]
  |m::r=>cond (partOk m x y) (partM m x y::inL x y r) (inL x y r)
def restL (lf:Msg->Txt->Txt->List Msg) (x y:Txt):List Msg->List Msg
  |[]=>[]
  |m::r=>cond (partOk m x y) (lf m x y) [m]++restL lf x y r
def SI (j n:Nat) (full:List Msg) (z:Int) (x y:Txt) (inn:List Msg):List Msg:=inn++inL x y ((seg full j n).drop z.toNat)
def SO (lf:Msg->Txt->Txt->List Msg) (j n:Nat) (full:List Msg) (z:Int) (x y:Txt) (out:List Msg):List Msg:=out++restL lf x y ((seg full j n).drop z.toNat)
def P17 (j n:Nat) (full:List Msg) (n' z:Int) (inn out:List Msg):Bool:=decide (n'=n/\j+n<=full.length/\n<199/\0<=z/\z<=n/\(inn.length:Int)<=z/\(out.length:Int)<=2*z)
theorem leftL_len (m:Msg) (x y:Txt):(leftL m x y).length<=2:=by
  unfold leftL
  cases decide (m.1=3)<;>cases !decide (x=[])&&partOk m [] x<;>cases !decide (y=[])&&partOk m y []<;>simp
theorem SI_step {full inn:List Msg}{j n:Nat}{z:Int}{x y:Txt} (p1:j+n<=full.length) (p3:0<=z) (h1:z<n):SI j n full z x y inn=SI j n full (z+1) x y (cond (partOk (rec full j z) x y) (inn++[partM (rec full j z) x y]) inn):=by
  unfold SI
  rw[seg_rec p1 p3 h1]
  show inn++cond (partOk (rec full j z) x y) _ _=_
  cases partOk (rec full j z) x y<;>simp
theorem SO_step {lf:Msg->Txt->Txt->List Msg}{full out:List Msg}{j n:Nat}{z:Int}{x y:Txt} (p1:j+n<=full.length) (p3:0<=z) (h1:z<n):SO lf j n full z x y out=SO lf j n full (z+1) x y (out++cond (partOk (rec full j z) x y) (lf (rec full j z) x y) [rec full j z]):=by
  unfold SO
  rw[seg_rec p1 p3 h1,List.append_assoc]
  rfl
def b17:CC:=match loopsIn none c17.body with | [(_,b)]=>b | _=>.skip
def lt17 (a b j n c:Nat) (ex:Bool) (x y:Txt) (n' z:Int) (full inn out:List Msg) (sp:Bool) (el:R.EL):LT:=.need (Nat.beq a inn.length&&(Nat.beq b out.length&&P17 j n full n' z inn out)) (.exit 0 [.ns 1 (SI j n full z x y inn).length 4,.ns 2 (SO leftL j n full z x y out).length 4] [.r .msg full sp el,.rn .msg (SI j n full z x y inn) 31,.rn .msg (SO leftL j n full z x y out) 31])
def ld17:LoopD:=⟨[(1,none),(2,none),(6,some (.msg,31)),(7,some (.msg,31)),(12,none),(13,none),(14,none)],[(6,some (.msg,31)),(7,some (.msg,31))],[],fun vs ao=>match vs,ao with
  |[.str x,.str y,.ns 1 a 4,.ns 2 b 4,.rs 0 j n c 4 ex,.int .i64 n',.int .i64 z],[.r .msg full sp el,.rn .msg inn 31,.rn .msg out 31]=>some (n-z.toNat,lt17 a b j n c ex x y n' z full inn out sp el)
  |_,_=>none⟩
theorem turn17 (j n c:Nat) (ex:Bool) (x0 y0:Txt) (n' z:Int) (full inn out:List Msg) (sp:Bool) (el:R.EL) (m:Nat) (rd k1:R.EK) (y:List (Nat×R.EK)) :
    (turnD C Y1 (fun _=>none) 210 44 1 0 b17 ld17 m [.str x0,.str y0,.ns 1 inn.length 4,.ns 2 out.length 4,.rs 0 j n c 4 ex,.int .i64 n',.int .i64 z] [.r .msg full sp el,.rn .msg inn 31,.rn .msg out 31] rd k1 y).ev =
    cond (decide (z<n')) (cond (decide (0<=z)&&decide (Int.toNat z<n)) (cond (Nat.blt (j+Int.toNat z) full.length) (cond (partOk (rec full j z) x0 y0) (cond (Nat.ble inn.length inn.length) (cond (Nat.ble inn.length inn.length) (cond (roomFor (List.length inn+List.length ([partM (rec full j z) x0 y0])) 56) (cond (Nat.beq (List.length (leftL (rec full j z) x0 y0)) 0) (cond (Nat.ble out.length out.length) (cond (decide (List.length inn+List.length ([partM (rec full j z) x0 y0])=List.length (List.take inn.length inn++[partM (rec full j z) x0 y0]))&&(decide (List.length inn+List.length ([partM (rec full j z) x0 y0])=List.length inn+List.length ([partM (rec full j z) x0 y0]))&&true)) (cond (decide (n-Int.toNat (IntKind.wrap .i64 (z+1))<m)) (cond (Nat.beq (List.length inn+List.length ([partM (rec full j z) x0 y0])) (List.length (List.take inn.length inn++[partM (rec full j z) x0 y0]))&&(Nat.beq out.length out.length&&P17 j n full n' (IntKind.wrap .i64 (z+1)) (List.take inn.length inn++[partM (rec full j z) x0 y0]) out)) ((k1 (envZ [6,7] [DV.ns 1 (List.length (SI j n full (IntKind.wrap .i64 (z+1)) x0 y0 (List.take inn.length inn++[partM (rec full j z) x0 y0]))) 4,DV.ns 2 (List.length (SO leftL j n full (IntKind.wrap .i64 (z+1)) x0 y0 out)) 4]) (mkD [DO.r RK.msg full sp el,DO.rn RK.msg (SI j n full (IntKind.wrap .i64 (z+1)) x0 y0 (List.take inn.length inn++[partM (rec full j z) x0 y0])) 31,DO.rn RK.msg (SO leftL j n full (IntKind.wrap .i64 (z+1)) x0 y0 out) 31] 1)).ev) none) none) none) none) (cond (Nat.ble (0+List.length (leftL (rec full j z) x0 y0)) (List.length (leftL (rec full j z) x0 y0))) (cond (Nat.ble out.length out.length) (cond (decide (List.length (List.take (List.length (leftL (rec full j z) x0 y0)) (List.drop 0 (leftL (rec full j z) x0 y0)))=0)) (cond (decide (List.length inn+List.length ([partM (rec full j z) x0 y0])=List.length (List.take inn.length inn++[partM (rec full j z) x0 y0]))&&(decide (List.length inn+List.length ([partM (rec full j z) x0 y0])=List.length inn+List.length ([partM (rec full j z) x0 y0]))&&true)) (cond (decide (n-Int.toNat (IntKind.wrap .i64 (z+1))<m)) (cond (Nat.beq (List.length inn+List.length ([partM (rec full j z) x0 y0])) (List.length (List.take inn.length inn++[partM (rec full j z) x0 y0]))&&(Nat.beq out.length out.length&&P17 j n full n' (IntKind.wrap .i64 (z+1)) (List.take inn.length inn++[partM (rec full j z) x0 y0]) out)) ((k1 (envZ [6,7] [DV.ns 1 (List.length (SI j n full (IntKind.wrap .i64 (z+1)) x0 y0 (List.take inn.length inn++[partM (rec full j z) x0 y0]))) 4,DV.ns 2 (List.length (SO leftL j n full (IntKind.wrap .i64 (z+1)) x0 y0 out)) 4]) (mkD [DO.r RK.msg full sp el,DO.rn RK.msg (SI j n full (IntKind.wrap .i64 (z+1)) x0 y0 (List.take inn.length inn++[partM (rec full j z) x0 y0])) 31,DO.rn RK.msg (SO leftL j n full (IntKind.wrap .i64 (z+1)) x0 y0 out) 31] 1)).ev) none) none) none) (cond (roomFor (List.length out+List.length (List.take (List.length (leftL (rec full j z) x0 y0)) (List.drop 0 (leftL (rec full j z) x0 y0)))) 56) (cond (decide (List.length inn+List.length ([partM (rec full j z) x0 y0])=List.length (List.take inn.length inn++[partM (rec full j z) x0 y0]))&&(decide (List.length inn+List.length ([partM (rec full j z) x0 y0])=List.length inn+List.length ([partM (rec full j z) x0 y0]))&&true)) (cond (decide (List.length out+List.length (List.take (List.length (leftL (rec full j z) x0 y0)) (List.drop 0 (leftL (rec full j z) x0 y0)))=List.length (List.take out.length out++List.take (List.length (leftL (rec full j z) x0 y0)) (List.drop 0 (leftL (rec full j z) x0 y0))))&&(decide (List.length out+List.length (List.take (List.length (leftL (rec full j z) x0 y0)) (List.drop 0 (leftL (rec full j z) x0 y0)))=List.length out+List.length (List.take (List.length (leftL (rec full j z) x0 y0)) (List.drop 0 (leftL (rec full j z) x0 y0))))&&!decide (List.length out+List.length (List.take (List.length (leftL (rec full j z) x0 y0)) (List.drop 0 (leftL (rec full j z) x0 y0)))=0))) (cond (decide (n-Int.toNat (IntKind.wrap .i64 (z+1))<m)) (cond (Nat.beq (List.length inn+List.length ([partM (rec full j z) x0 y0])) (List.length (List.take inn.length inn++[partM (rec full j z) x0 y0]))&&(Nat.beq (List.length out+List.length (List.take (List.length (leftL (rec full j z) x0 y0)) (List.drop 0 (leftL (rec full j z) x0 y0)))) (List.length (List.take out.length out++List.take (List.length (leftL (rec full j z) x0 y0)) (List.drop 0 (leftL (rec full j z) x0 y0))))&&P17 j n full n' (IntKind.wrap .i64 (z+1)) (List.take inn.length inn++[partM (rec full j z) x0 y0]) (List.take out.length out++List.take (List.length (leftL (rec full j z) x0 y0)) (List.drop 0 (leftL (rec full j z) x0 y0))))) ((k1 (envZ [6,7] [DV.ns 1 (List.length (SI j n full (IntKind.wrap .i64 (z+1)) x0 y0 (List.take inn.length inn++[partM (rec full j z) x0 y0]))) 4,DV.ns 2 (List.length (SO leftL j n full (IntKind.wrap .i64 (z+1)) x0 y0 (List.take out.length out++List.take (List.length (leftL (rec full j z) x0 y0)) (List.drop 0 (leftL (rec full j z) x0 y0))))) 4]) (mkD [DO.r RK.msg full sp el,DO.rn RK.msg (SI j n full (IntKind.wrap .i64 (z+1)) x0 y0 (List.take inn.length inn++[partM (rec full j z) x0 y0])) 31,DO.rn RK.msg (SO leftL j n full (IntKind.wrap .i64 (z+1)) x0 y0 (List.take out.length out++List.take (List.length (leftL (rec full j z) x0 y0)) (List.drop 0 (leftL (rec full j z) x0 y0)))) 31] 1)).ev) none) none) none) none) none)) none) none)) none) none) none) (cond (Nat.ble out.length out.length) (cond (roomFor (List.length out+List.length ([(rec full j z)])) 56) (cond (decide (List.length out+List.length ([(rec full j z)])=List.length (List.take out.length out++[(rec full j z)]))&&(decide (List.length out+List.length ([(rec full j z)])=List.length out+List.length ([(rec full j z)]))&&true)) (cond (decide (n-Int.toNat (IntKind.wrap .i64 (z+1))<m)) (cond (Nat.beq inn.length inn.length&&(Nat.beq (List.length out+List.length ([(rec full j z)])) (List.length (List.take out.length out++[(rec full j z)]))&&P17 j n full n' (IntKind.wrap .i64 (z+1)) inn (List.take out.length out++[(rec full j z)]))) ((k1 (envZ [6,7] [DV.ns 1 (List.length (SI j n full (IntKind.wrap .i64 (z+1)) x0 y0 inn)) 4,DV.ns 2 (List.length (SO leftL j n full (IntKind.wrap .i64 (z+1)) x0 y0 (List.take out.length out++[(rec full j z)]))) 4]) (mkD [DO.r RK.msg full sp el,DO.rn RK.msg (SI j n full (IntKind.wrap .i64 (z+1)) x0 y0 inn) 31,DO.rn RK.msg (SO leftL j n full (IntKind.wrap .i64 (z+1)) x0 y0 (List.take out.length out++[(rec full j z)])) 31] 1)).ev) none) none) none) none) none)) none) none) ((k1 (envZ [6,7] [DV.ns 1 inn.length 4,DV.ns 2 out.length 4]) (mkD [DO.r RK.msg full sp el,DO.rn RK.msg inn 31,DO.rn RK.msg out 31] 1)).ev):=by kernel_rfl
theorem step17 (j n c : Nat) (ex : Bool) (x0 y0 : Txt) (n' z : Int) (full inn out : List Msg) (sp : Bool) (el : R.EL) (rd k1 : R.EK) (y : List (Nat × R.EK)) (w : R.DV × R.DH) (hw : ((lt17 inn.length out.length j n c ex x0 y0 n' z full inn out sp el).tree 1 ld17 rd ((0, k1) :: y)).ev = some w) :
    (turnD C Y1 (fun _=>none) 210 44 1 0 b17 ld17 (n-z.toNat) [.str x0,.str y0,.ns 1 inn.length 4,.ns 2 out.length 4,.rs 0 j n c 4 ex,.int .i64 n',.int .i64 z] [.r .msg full sp el,.rn .msg inn 31,.rn .msg out 31] rd k1 y).ev=some w:=by
  replace hw:=lt_need hw
  obtain⟨hp,hw⟩:=hw
  have bI:Nat.beq inn.length inn.length=true:=Nat.beq_refl _
  have bO:Nat.beq out.length out.length=true:=Nat.beq_refl _
  rw[bI,bO] at hp
  simp only[Bool.true_and,P17,decide_eq_true_eq] at hp
  obtain⟨rfl,p1,p2,p3,p4,p5,p6⟩:=hp
  replace hw:(k1 (envZ [6,7] [.ns 1 (SI j n full z x0 y0 inn).length 4,.ns 2 (SO leftL j n full z x0 y0 out).length 4]) (mkD [.r .msg full sp el,.rn .msg (SI j n full z x0 y0 inn) 31,.rn .msg (SO leftL j n full z x0 y0 out) 31] 1)).ev=some w:=hw
  rw[turn17]
  by_cases h1:z<n
  . have cz:(decide (0<=z)&&decide (z.toNat<n))=true:=by rw[decide_eq_true p3,decide_eq_true (show z.toNat<n by omega)]; rfl
    have cz2:Nat.blt (j+z.toNat) full.length=true:=by
      have:j+z.toNat<full.length:=by omega
      simpa using this
    have lI:Nat.ble inn.length inn.length=true:=Nat.ble_eq_true_of_le (Nat.le_refl _)
    have lO:Nat.ble out.length out.length=true:=Nat.ble_eq_true_of_le (Nat.le_refl _)
    have hm:decide (n-(z+1).toNat<n-z.toNat)=true:=decide_eq_true (by omega)
    have bI1:Nat.beq (inn.length+1) (inn.length+1)=true:=Nat.beq_refl _
    have bO1:Nat.beq (out.length+1) (out.length+1)=true:=Nat.beq_refl _
    have r1:roomFor (inn.length+1) 56=true:=room_msg (by omega)
    have r2:roomFor (out.length+1) 56=true:=room_msg (by omega)
    have ne1:decide (inn.length+1=0)=false:=rfl
    have ne2:decide (out.length+1=0)=false:=rfl
    have len2:=leftL_len (rec full j z) x0 y0
    have eI:=SI_step (inn:=inn) (x:=x0) (y:=y0) p1 p3 h1
    have eO:=SO_step (lf:=leftL) (out:=out) (x:=x0) (y:=y0) p1 p3 h1
    rw[eI,eO] at hw
    rw[cT h1,nextI p3 h1 (by omega)]
    cases hp:partOk (rec full j z) x0 y0 with
    |false =>
      rw[hp] at hw
      have hP:P17 j n full n (z+1) inn (out++[rec full j z])=true:=by
        simp only[P17,decide_eq_true_eq]
        refine⟨trivial,p1,p2,?_,?_,?_,?_⟩<;>first | omega | (rw[List.length_append]; simp; omega)
      simp only[cz,cz2,hp,lI,lO,hm,bI,bO,bO1,r2,ne2,hP,List.take_length,List.length_append,List.length_cons,List.length_nil,Nat.zero_add,decide_true,Bool.true_and,Bool.and_true,Bool.not_false,cond_true,cond_false]
      exact hw
    |true =>
      rw[hp] at hw
      have hP:P17 j n full n (z+1) (inn++[partM (rec full j z) x0 y0]) (out++leftL (rec full j z) x0 y0)=true:=by
        simp only[P17,decide_eq_true_eq]
        refine⟨trivial,p1,p2,?_,?_,?_,?_⟩<;>first | omega | (rw[List.length_append]; simp; omega)
      cases hL:Nat.beq (leftL (rec full j z) x0 y0).length 0 with
      |true =>
        have h0:leftL (rec full j z) x0 y0=[]:=List.length_eq_zero_iff.1 (Nat.eq_of_beq_eq_true hL)
        rw[h0,List.append_nil] at hP
        rw[show cond true (leftL (rec full j z) x0 y0) [rec full j z]=leftL (rec full j z) x0 y0 from rfl,h0,List.append_nil] at hw
        simp only[cz,cz2,hp,hL,lI,lO,hm,bI,bO,bI1,r1,ne1,hP,List.take_length,List.length_append,List.length_cons,List.length_nil,Nat.zero_add,decide_true,Bool.true_and,Bool.and_true,Bool.not_false,cond_true,cond_false]
        exact hw
      |false =>
        have h0:(leftL (rec full j z) x0 y0).length ≠ 0:=fun e=>by rw[e] at hL; cases hL
        have hne:decide ((leftL (rec full j z) x0 y0).length=0)=false:=decide_eq_false h0
        have hne2:decide (out.length+(leftL (rec full j z) x0 y0).length=0)=false:=decide_eq_false (by omega)
        have lL:Nat.ble (leftL (rec full j z) x0 y0).length (leftL (rec full j z) x0 y0).length=true:=Nat.ble_eq_true_of_le (Nat.le_refl _)
        have r3:roomFor (out.length+(leftL (rec full j z) x0 y0).length) 56=true:=room_msg (by omega)
        have bL:Nat.beq (out.length+(leftL (rec full j z) x0 y0).length) (out.length+(leftL (rec full j z) x0 y0).length)=true:=Nat.beq_refl _
        simp only[cz,cz2,hp,hL,hne,hne2,lL,lI,lO,hm,bI,bO,bI1,bL,r1,r3,ne1,hP,List.drop_zero,List.take_length,List.length_append,List.length_cons,List.length_nil,Nat.zero_add,decide_true,Bool.true_and,Bool.and_true,Bool.not_false,cond_true,cond_false]
        exact hw
  . rw[cF h1]
    have eI:SI j n full z x0 y0 inn=inn:=by
      unfold SI
      rw[seg_end p1 h1 p3]; exact List.append_nil _
    have eO:SO leftL j n full z x0 y0 out=out:=by
      unfold SO
      rw[seg_end p1 h1 p3]; exact List.append_nil _
    rw[eI,eO] at hw
    exact hw
theorem loop17 {n:Nat} (hn:210<=n):LoopOk C.G 1 (callO noTmps C.O C.tab n) n 210 44 0 b17 ld17:=by
  refine loop_of C Y1 (lh:=fun _=>none) hn ?_ (fun p _ ld h=>by cases h) ?_
  . exact wf_loops _ none (wf_body (f:=17) rfl) (0,b17) (by rw[show loopsIn none c17.body=[(0,b17)] from rfl]; exact List.mem_cons_self)
  intro vs ao m t hs rd k1 y w hw
  unfold ld17 at hs
  simp only at hs
  split at hs
  case h_2=>cases hs
  cases hs
  have hp:=(lt_need hw).1
  simp only[Bool.and_eq_true] at hp
  obtain⟨h1,h2,_⟩:=hp
  have h1:=Nat.eq_of_beq_eq_true h1
  have h2:=Nat.eq_of_beq_eq_true h2
  subst h1 h2
  exact step17 _ _ _ _ _ _ _ _ _ _ _ _ _ _ _ _ _ hw
def outP17 (full:List Msg) (j n:Nat) (x y:Txt):RD:=.need (okG full j n) (.v (.tup [.ns 1 (inL x y (seg full j n)).length 4,.ns 2 (restL leftL x y (seg full j n)).length 4]) [.rn .msg (inL x y (seg full j n)) 31,.rn .msg (restL leftL x y (seg full j n)) 31])
theorem run17 (j n c:Nat) (ex:Bool) (x0 y0:Txt) (full:List Msg) (sp:Bool) (el:R.EL):runD C Y1 (lhX ld17) 210 c17 [.rs 0 j n c 4 ex,.str x0,.str y0] [.r .msg full sp el] =
    cond (decide (n-0<210)) (cond (P17 j n full (↑n:Int) 0 [] []) (some (R.DV.tup [DV.ns 1 (List.length (SI j n full 0 x0 y0 [])) 4,DV.ns 2 (List.length (SO leftL j n full 0 x0 y0 [])) 4],(mkD [DO.r RK.msg full sp el,DO.rn RK.msg (SI j n full 0 x0 y0 []) 31,DO.rn RK.msg (SO leftL j n full 0 x0 y0 []) 31] 1))) none) none:=by kernel_rfl
theorem law17 (j n c:Nat) (ex:Bool) (x0 y0:Txt) (full:List Msg) (sp:Bool) (el:R.EL):LawOk C.G C.O C.tab 17 211 [.r .msg full sp el] [.rs 0 j n c 4 ex,.str x0,.str y0] (outP17 full j n x0 y0):=by
  refine law_of C Y1 (lhX ld17) rfl rfl (fun n hn=>lhX_ok (Q:=fun i b ld=>LoopOk C.G 1 (callO noTmps C.O C.tab n) n 210 44 i b ld) rfl (loop17 hn)) fun z hz=>?_
  obtain⟨hp,hz⟩:=R.ev_need hz
  refine (run17 j n c ex x0 y0 full sp el).trans ?_
  obtain⟨p1,p2⟩:=okG_iff.1 hp
  have e4:P17 j n full n 0 [] []=true:=by
    simp only[P17,decide_eq_true_eq]
    refine⟨trivial,p1,p2,?_,?_,?_,?_⟩<;>first | omega | simp
  rw[e4,cT (show n-0<210 by omega)]
  exact Eq.trans rfl hz
theorem law17n (x0 y0:Txt):LawOk C.G C.O C.tab 17 211 [] [.nils,.str x0,.str y0] (.v (.tup [.nils,.nils]) []):=by
  refine law_of C Y1 (fun _=>none) rfl rfl (fun n hn p _ ld e=>by cases e) fun z hz=>?_
  refine Eq.trans ?_ hz
  kernel_rfl
def noP (x y:Txt):List Msg->Bool
  |[]=>true
  |m::r=>cond (partOk m x y) false (noP x y r)
def idxP (x y:Txt):List Msg->Int->Int
  |[],z=>z
  |m::r,z=>cond (partOk m x y) z (idxP x y r (z+1))
def b65:CC:=match loopsIn none c65.body with | [(_,b)]=>b | _=>.skip
def P65 (j n:Nat) (full:List Msg) (n' z:Int):Bool:=decide (n'=n/\j+n<=full.length/\n<199/\0<=z/\z<=n)
def S65 (j n:Nat) (full:List Msg) (x y:Txt) (z:Int):Bool:=noP x y ((seg full j n).drop z.toNat)
def I65 (j n:Nat) (full:List Msg) (x y:Txt) (z:Int):Int:=idxP x y ((seg full j n).drop z.toNat) z
def lt65 (j n c:Nat) (ex:Bool) (j1 n1 c1:Nat) (ex1:Bool) (n' z:Int) (x y:Txt) (full:List Msg) (sp:Bool) (el:R.EL):LT:=.need (Nat.beq j1 j&&(Nat.beq n1 n&&P65 j n full n' z)) (.br (S65 j n full x y z) (.exit 0 [] [.r .msg full sp el,.c [.str x] false 9,.c [.str y] false 9]) (.ret [.int .i64 (I65 j n full x y z)] [.r .msg full sp el,.c [.str x] false 9,.c [.str y] false 9]))
def ld65:LoopD:=⟨[(0,none),(1,none),(6,none),(7,none),(8,none)],[],[(4,none)],fun vs ao=>match vs,ao with
  |[.rs 0 j n c 4 ex,.fn 64 [.ptr 1 0,.ptr 2 0],.rs 0 j1 n1 c1 4 ex1,.int .i64 n',.int .i64 z],[.r .msg full sp el,.c [.str x] false 9,.c [.str y] false 9]=>some (n-z.toNat,lt65 j n c ex j1 n1 c1 ex1 n' z x y full sp el)
  |_,_=>none⟩
theorem turn65 (j n c:Nat) (ex:Bool) (c1:Nat) (ex1:Bool) (n' z:Int) (x0 y0:Txt) (full:List Msg) (sp:Bool) (el:R.EL) (m:Nat) (rd k1:R.EK) (y:List (Nat×R.EK)) :
    (turnD C Y0 (fun _=>none) 200 19 3 0 b65 ld65 m [.rs 0 j n c 4 ex,.fn 64 [.ptr 1 0,.ptr 2 0],.rs 0 j n c1 4 ex1,.int .i64 n',.int .i64 z] [.r .msg full sp el,.c [.str x0] false 9,.c [.str y0] false 9] rd k1 y).ev =
    cond (decide (z<n')) (cond (decide (0<=z)&&decide (Int.toNat z<n)) (cond (Nat.blt (j+Int.toNat z) full.length) (cond (partOk (rec full j z) x0 y0) ((rd (envZ [4] [R.DV.int .i64 z]) (mkD [DO.r RK.msg full sp el,R.DO.c [R.DV.str x0] false 9,R.DO.c [R.DV.str y0] false 9] 3)).ev) (cond (decide (n-Int.toNat (IntKind.wrap .i64 (z+1))<m)) (cond (Nat.beq j j&&(Nat.beq n n&&P65 j n full n' (IntKind.wrap .i64 (z+1)))) (cond (S65 j n full x0 y0 (IntKind.wrap .i64 (z+1))) ((k1 (envZ [] []) (mkD [DO.r RK.msg full sp el,R.DO.c [R.DV.str x0] false 9,R.DO.c [R.DV.str y0] false 9] 3)).ev) ((rd (envZ [4] [R.DV.int .i64 (I65 j n full x0 y0 (IntKind.wrap .i64 (z+1)))]) (mkD [DO.r RK.msg full sp el,R.DO.c [R.DV.str x0] false 9,R.DO.c [R.DV.str y0] false 9] 3)).ev)) none) none)) none) none) ((k1 (envZ [] []) (mkD [DO.r RK.msg full sp el,R.DO.c [R.DV.str x0] false 9,R.DO.c [R.DV.str y0] false 9] 3)).ev):=by kernel_rfl
theorem step65 (j n c:Nat) (ex:Bool) (c1:Nat) (ex1:Bool) (n' z:Int) (x0 y0:Txt) (full:List Msg) (sp:Bool) (el:R.EL) (rd k1:R.EK) (y:List (Nat×R.EK)) (w:R.DV×R.DH) (hw:((lt65 j n c ex j n c1 ex1 n' z x0 y0 full sp el).tree 3 ld65 rd ((0,k1)::y)).ev=some w) :
    (turnD C Y0 (fun _=>none) 200 19 3 0 b65 ld65 (n-z.toNat) [.rs 0 j n c 4 ex,.fn 64 [.ptr 1 0,.ptr 2 0],.rs 0 j n c1 4 ex1,.int .i64 n',.int .i64 z] [.r .msg full sp el,.c [.str x0] false 9,.c [.str y0] false 9] rd k1 y).ev=some w:=by
  replace hw:=lt_need hw
  obtain⟨hp,hw⟩:=hw
  have hjj:Nat.beq j j=true:=Nat.beq_refl j
  have hnn:Nat.beq n n=true:=Nat.beq_refl n
  rw[hjj,hnn] at hp
  simp only[Bool.true_and,P65,decide_eq_true_eq] at hp
  obtain⟨rfl,p1,p2,p3,p4⟩:=hp
  rw[lt_br] at hw
  replace hw:cond (S65 j n full x0 y0 z) (k1 (envZ [] []) (mkD [DO.r RK.msg full sp el,R.DO.c [R.DV.str x0] false 9,R.DO.c [R.DV.str y0] false 9] 3)).ev (rd (envZ [4] [R.DV.int .i64 (I65 j n full x0 y0 z)]) (mkD [DO.r RK.msg full sp el,R.DO.c [R.DV.str x0] false 9,R.DO.c [R.DV.str y0] false 9] 3)).ev=some w:=hw
  rw[turn65,hjj,hnn]
  unfold S65 I65 at hw
  by_cases h1:z<n
  . have e4:P65 j n full n (z+1)=true:=by
      simp only[P65,decide_eq_true_eq]
      refine⟨trivial,p1,p2,?_,?_⟩<;>omega
    rw[cT h1,cA p3 (show z.toNat<n by omega),cB (show j+z.toNat<full.length by omega),nextI p3 h1 (by omega),e4,cT (show n-(z+1).toNat<n-z.toNat by omega)]
    rw[seg_rec p1 p3 h1] at hw
    rw[show noP x0 y0 (rec full j z::(seg full j n).drop (z+1).toNat)=cond (partOk (rec full j z) x0 y0) false (noP x0 y0 ((seg full j n).drop (z+1).toNat)) from rfl,
      show idxP x0 y0 (rec full j z::(seg full j n).drop (z+1).toNat) z=cond (partOk (rec full j z) x0 y0) z (idxP x0 y0 ((seg full j n).drop (z+1).toNat) (z+1)) from rfl] at hw
    revert hw
    cases partOk (rec full j z) x0 y0<;>exact id
  . rw[cF h1]
    rw[seg_end p1 h1 p3] at hw
    exact hw
theorem loop65 {n:Nat} (hn:200<=n):LoopOk C.G 3 (callO noTmps C.O C.tab n) n 200 19 0 b65 ld65:=by
  refine loop_of C Y0 (lh:=fun _=>none) hn ?_ (fun p _ ld h=>by cases h) ?_
  . exact wf_loops _ none (wf_body (f:=65) rfl) (0,b65) (by rw[show loopsIn none c65.body=[(0,b65)] from rfl]; exact List.mem_cons_self)
  intro vs ao m t hs rd k1 y w hw
  unfold ld65 at hs
  simp only at hs
  split at hs
  case h_2=>cases hs
  cases hs
  have hp:=(lt_need hw).1
  simp only[Bool.and_eq_true] at hp
  obtain⟨h1,h2,_⟩:=hp
  have h1:=Nat.eq_of_beq_eq_true h1
  have h2:=Nat.eq_of_beq_eq_true h2
  subst h1 h2
  exact step65 _ _ _ _ _ _ _ _ _ _ _ _ _ _ _ _ _ hw
def out65 (full:List Msg) (j n:Nat) (x y:Txt):RD:=.need (okG full j n) (.br (noP x y (seg full j n)) (.v (.int .i64 (-1)) []) (.v (.int .i64 (idxP x y (seg full j n) 0)) []))
theorem run65 (j n c:Nat) (ex:Bool) (x0 y0:Txt) (full:List Msg) (sp:Bool) (el:R.EL):runD C Y0 (lhX ld65) 200 c65 [.rs 0 j n c 4 ex,.fn 64 [.ptr 1 0,.ptr 2 0]] [.r .msg full sp el,.c [.str x0] false 9,.c [.str y0] false 9] =
    cond (decide (n-0<200)) (cond (Nat.beq j j&&(Nat.beq n n&&P65 j n full (↑n:Int) 0)) (cond (S65 j n full x0 y0 0) (some (R.DV.int .i64 (-1),(mkD [DO.r RK.msg full sp el,R.DO.c [R.DV.str x0] false 9,R.DO.c [R.DV.str y0] false 9] 3))) (some (R.DV.int .i64 (I65 j n full x0 y0 0),(mkD [DO.r RK.msg full sp el,R.DO.c [R.DV.str x0] false 9,R.DO.c [R.DV.str y0] false 9] 3)))) none) none:=by kernel_rfl
theorem lawX65 (j n c:Nat) (ex:Bool) (x0 y0:Txt) (full:List Msg) (sp:Bool) (el:R.EL):LawOk C.G C.O C.tab 65 201 [.r .msg full sp el,.c [.str x0] false 9,.c [.str y0] false 9] [.rs 0 j n c 4 ex,.fn 64 [.ptr 1 0,.ptr 2 0]] (out65 full j n x0 y0):=by
  refine law_of C Y0 (lhX ld65) rfl rfl (fun n hn=>lhX_ok (Q:=fun i b ld=>LoopOk C.G 3 (callO noTmps C.O C.tab n) n 200 19 i b ld) rfl (loop65 hn)) fun z hz=>?_
  obtain⟨hp,hz⟩:=R.ev_need hz
  refine (run65 j n c ex x0 y0 full sp el).trans ?_
  obtain⟨p1,p2⟩:=okG_iff.1 hp
  have hjj:Nat.beq j j=true:=Nat.beq_refl j
  have hnn:Nat.beq n n=true:=Nat.beq_refl n
  have e4:P65 j n full n 0=true:=by
    simp only[P65,decide_eq_true_eq]
    refine⟨trivial,p1,p2,?_,?_⟩<;>omega
  rw[hjj,hnn,e4,cT (show n-0<200 by omega)]
  have e5:S65 j n full x0 y0 0=noP x0 y0 (seg full j n):=rfl
  have e6:I65 j n full x0 y0 0=idxP x0 y0 (seg full j n) 0:=rfl
  rw[e5,e6]
  refine Eq.trans ?_ hz
  show _=(R.Tree.br (noP x0 y0 (seg full j n)) (.ok _ _) (.ok _ _)).ev
  rw[ev_br]
  cases noP x0 y0 (seg full j n)<;>rfl
theorem lawX65n (x0 y0:Txt):LawOk C.G C.O C.tab 65 201 [.c [.str x0] false 9,.c [.str y0] false 9] [.nils,.fn 64 [.ptr 0 0,.ptr 1 0]] (.v (.int .i64 (-1)) []):=by
  refine law_of C Y0 (fun _=>none) rfl rfl (fun n hn p _ ld e=>by cases e) fun z hz=>?_
  refine Eq.trans ?_ hz
  kernel_rfl
def gX65:List R.DV->List R.DO->Option RD:=fun l ao=>match l,ao with
  |[.rs 0 j n c 4 ex,.fn 64 [.ptr 1 0,.ptr 2 0]],[.r .msg full sp el,.c [.str x] false 9,.c [.str y] false 9]=>some (out65 full j n x y)
  |[.nils,.fn 64 [.ptr 0 0,.ptr 1 0]],[.c [.str x] false 9,.c [.str y] false 9]=>some (.v (.int .i64 (-1)) [])
  |_,_=>none
theorem gX65_ok (l:List R.DV) (ao:List R.DO) (out:RD) (h:gX65 l ao=some out):LawOk C.G C.O C.tab 65 201 ao l out:=by
  unfold gX65 at h
  split at h
  . cases h; exact lawX65 _ _ _ _ _ _ _ _ _
  . cases h; exact lawX65n _ _
  . cases h
def out66 (full:List Msg) (j n:Nat):RD:=.need (okG full j n) (.br (Nat.beq n 0) (.v (.rs 1 0 0 0 4 true) [.r .msg [] false 31]) (.v (.rs 1 0 n n 4 false) [.r .msg (seg full j n) true 31]))
theorem run66 (j n c:Nat) (ex:Bool) (full:List Msg) (sp:Bool) (el:R.EL):runD C Y0 (fun _=>none) 200 c66 [.rs 0 j n c 4 ex] [.r .msg full sp el] =
    cond (Nat.ble (j+n) full.length) (cond (decide (0+List.length (List.take n (List.drop j full))<=0)) (cond (decide (List.length (List.take n (List.drop j full))=0)) (some (DV.rs 1 0 0 0 4 true,(mkD [DO.r RK.msg full sp el,DO.r RK.msg [] false { e:=31,z:=0 }] 1))) (cond (decide (0+List.length (List.take n (List.drop j full))<=0)) (some (DV.rs 1 0 (0+List.length (List.take n (List.drop j full))) 0 4 true,(mkD [DO.r RK.msg full sp el,DO.r RK.msg (List.take 0 []++List.take n (List.drop j full)++List.drop (0+List.length (List.take n (List.drop j full))) []) false { e:=31,z:=0 }] 1))) none)) (cond (roomFor (0+List.length (List.take n (List.drop j full))) 56&&true) (some (DV.rs 1 0 (0+List.length (List.take n (List.drop j full))) (0+List.length (List.take n (List.drop j full))) 4 false,(mkD [DO.r RK.msg full sp el,DO.r RK.msg (List.take 0 (List.drop 0 [])++List.take n (List.drop j full)) true { e:=31,z:=0 }] 1))) none)) none:=by kernel_rfl
theorem law66 (j n c:Nat) (ex:Bool) (full:List Msg) (sp:Bool) (el:R.EL):LawOk C.G C.O C.tab 66 201 [.r .msg full sp el] [.rs 0 j n c 4 ex] (out66 full j n):=by
  refine law_of C Y0 (fun _=>none) rfl rfl (fun n hn p _ ld e=>by cases e) fun z hz=>?_
  obtain⟨hp,hz⟩:=R.ev_need hz
  refine (run66 j n c ex full sp el).trans ?_
  obtain⟨p1,p2⟩:=okG_iff.1 hp
  have hl:=seg_len p1
  have hs:List.take n (List.drop j full)=seg full j n:=rfl
  have hb:Nat.ble (j+n) full.length=true:=Nat.ble_eq_true_of_le p1
  rw[hs,hl,hb,Nat.zero_add]
  refine Eq.trans ?_ hz
  show _=(R.Tree.br (Nat.beq n 0) (.ok (.rs 1 0 0 0 4 true) (mkD [DO.r RK.msg full sp el,DO.r RK.msg [] false 31] 1)) (.ok (.rs 1 0 n n 4 false) (mkD [DO.r RK.msg full sp el,DO.r RK.msg (seg full j n) true 31] 1))).ev
  rw[ev_br]
  cases n with
  |zero=>rfl
  |succ m =>
    rw[show roomFor (m+1) 56=true from room_msg (by omega),cF (show ¬ m+1<=0 by omega)]; rfl
theorem law66n:LawOk C.G C.O C.tab 66 201 [] [.nils] (.v .nils []):=by
  refine law_of C Y0 (fun _=>none) rfl rfl (fun n hn p _ ld e=>by cases e) fun z hz=>?_
  refine Eq.trans ?_ hz
  kernel_rfl
def g66:List R.DV->List R.DO->Option RD:=fun l ao=>match l,ao with
  |[.rs 0 j n c 4 ex],[.r .msg full sp el]=>some (out66 full j n)
  |[.nils],[]=>some (.v .nils [])
  |_,_=>none
theorem g66_ok (l:List R.DV) (ao:List R.DO) (out:RD) (h:g66 l ao=some out):LawOk C.G C.O C.tab 66 201 ao l out:=by
  unfold g66 at h
  split at h
  . cases h; exact law66 _ _ _ _ _ _ _
  . cases h; exact law66n
  . cases h
def sameL (a b:List Msg):Bool:=decide (a=b)
def firstM (x y:Txt):List Msg->Msg->Msg
  |[],m=>m
  |e::r,m=>cond (partOk e x y) (partM e x y) (firstM x y r m)
def restF (lf:Msg->Txt->Txt->List Msg) (x y:Txt):List Msg->List Msg
  |[]=>[]
  |e::r=>cond (partOk e x y) (lf e x y++r) (e::restF lf x y r)
def zeroM:Msg:=(0,[],[],[])
def valM (m:Msg):R.DV:=.agg [.int .i64 m.1,.str m.2.1,.str m.2.2.1,.str m.2.2.2]
theorem less_irrefl:∀ a:List UInt8,Op.bytesLess a a=false
  |[]=>rfl
  |a::x=>by
    simp only[Op.bytesLess,less_irrefl x,Bool.and_false,Bool.or_false,decide_eq_false_iff_not]
    exact UInt8.lt_irrefl a
theorem less_trans:∀ a b c:List UInt8,Op.bytesLess a b=true->Op.bytesLess b c=true->Op.bytesLess a c=true
  |[],[],_,h,_=>by simp[Op.bytesLess] at h
  |[],_::_,[],_,h=>by simp[Op.bytesLess] at h
  |[],_::_,_::_,_,_=>rfl
  |_::_,[],_,h,_=>by simp[Op.bytesLess] at h
  |_::_,_::_,[],_,h=>by simp[Op.bytesLess] at h
  |a::x,b::y,c::z,h1,h2=>by
    simp only[Op.bytesLess,Bool.or_eq_true,decide_eq_true_eq,Bool.and_eq_true,beq_iff_eq] at h1 h2 ⊢
    rcases h1 with h1 | ⟨rfl,h1⟩<;>rcases h2 with h2 | ⟨rfl,h2⟩
    . exact .inl (UInt8.lt_trans h1 h2)
    . exact .inl h1
    . exact .inl h2
    . exact .inr ⟨rfl,less_trans x y z h1 h2⟩
theorem less_tot : ∀ a b : List UInt8, Op.bytesLess a b = false → Op.bytesLess b a = false → a = b
  |[],[],_,_=>rfl
  |[],_::_,h,_=>by simp[Op.bytesLess] at h
  |_::_,[],_,h=>by simp[Op.bytesLess] at h
  |a::x,b::y,h1,h2=>by
    simp only[Op.bytesLess,Bool.or_eq_false_iff,decide_eq_false_iff_not] at h1 h2
    have e:a=b:=by
      have:=h1.1
      have:=h2.1
      rcases UInt8.lt_or_lt_of_ne (a:=a) (b:=b) with h
      by_cases hab:a=b
      . exact hab
      . rcases UInt8.lt_or_lt_of_ne hab with h | h
        . exact absurd h h1.1
        . exact absurd h h2.1
    subst e
    have h3:=h1.2
    have h4:=h2.2
    simp only[beq_self_eq_true,Bool.true_and] at h3 h4
    rw[less_tot x y h3 h4]
theorem ge_trans {a b c:List UInt8} (h1:Op.bytesLess a b=false) (h2:Op.bytesLess b c=false):Op.bytesLess a c=false:=by
  cases h:Op.bytesLess a c with
  |false=>rfl
  |true =>
    exfalso
    cases hcb:Op.bytesLess c b with
    |true=>rw[less_trans _ _ _ h hcb] at h1; cases h1
    |false =>
      have:=less_tot _ _ h2 hcb
      subst this
      rw[h] at h1; cases h1
theorem less_nilT (a:Txt):Op.bytesLess a []=false:=by cases a<;>rfl
theorem may_clear {k t v:Txt} (h:mayB 3 k t v=true):v=[]/\Op.bytesLess k t=true:=by
  unfold mayB at h
  revert h
  cases decide (k.length<1)<;>cases decide (108<k.length)<;>cases hv:decide (v.length=0)<;>cases decide (t.length=0)<;>cases decide (t.length<=108)<;>cases Op.bytesLess k t<;>intro h<;>first | (cases h; done) | exact⟨List.length_eq_zero_iff.1 (of_decide_eq_true hv),rfl⟩
theorem left_eq {m : Msg} {x y : Txt} (h : partOk m x y = true) : leftL m x y = leftR m x y := by
  obtain⟨op,k,t,v⟩:=m
  unfold leftL leftR
  by_cases h3:op=3
  · subst h3
    simp only[partOk,Bool.and_eq_true] at h
    obtain⟨hm,hc⟩:=h
    obtain⟨rfl,hkt⟩:=may_clear hm
    simp only[decide_true,cond_true] at hc
    show cond (!decide (x=[])&&partOk (3,k,t,[]) [] x) [partM (3,k,t,[]) [] x] []++cond (!decide (y=[])&&partOk (3,k,t,[]) y []) [partM (3,k,t,[]) y []] []=cond (Op.bytesLess k x) [(3,k,x,[])] []++cond (!decide (y=[])&&Op.bytesLess y t) [(3,y,t,[])] []
    congr 1
    · cases hkx : Op.bytesLess k x with
      |true =>
        rw[hkx] at hc
        have hx:x ≠ []:=fun e=>by rw[e,less_nilT] at hkx; cases hkx
        have hxt:Op.bytesLess x t=true:=by
          revert hc
          cases decide (y=[])
          . cases hyt:Op.bytesLess y t
            . exact id
            . exact fun hc=>less_trans _ _ _ hc hyt
          . exact id
        have e1:partOk (3,k,t,[]) [] x=true:=by
          unfold partOk
          simp only[hm,less_nilT,decide_eq_false hx,hxt,hkx,cond_true,cond_false,Bool.and_true,decide_true]
        rw[e1,decide_eq_false hx]
        simp only[partM,less_nilT,decide_eq_false hx,hxt,cond_true,cond_false,decide_true,Bool.not_false,Bool.and_true]
      | false =>
        by_cases hx:x=[]
        . rw[decide_eq_true hx]; rfl
        . have e1:partOk (3,k,t,[]) [] x=false:=by
            unfold partOk
            cases hxt:Op.bytesLess x t with
            |true=>simp only[hm,less_nilT,decide_eq_false hx,hxt,hkx,cond_true,cond_false,Bool.and_false,decide_true]
            |false =>
              have:=ge_trans hkx hxt
              rw[this] at hkt; cases hkt
          rw[e1,Bool.and_false]; rfl
    . by_cases hy:y=[]
      . rw[decide_eq_true hy]; rfl
      . rw[decide_eq_false hy] at hc ⊢
        simp only[Bool.not_false,Bool.true_and,cond_false] at hc ⊢
        cases hyt:Op.bytesLess y t with
        |true =>
          rw[hyt] at hc
          have hky:Op.bytesLess k y=true:=by
            revert hc
            cases hkx:Op.bytesLess k x
            . exact id
            . exact fun hc=>less_trans _ _ _ hkx hc
          have e1:partOk (3,k,t,[]) y []=true:=by
            unfold partOk
            simp only[hm,hky,hyt,cond_true,cond_false,Bool.and_true,decide_true]
          rw[e1]
          simp only[partM,hky,cond_true,cond_false,decide_true]
        |false =>
          have e1:partOk (3,k,t,[]) y []=false:=by
            unfold partOk
            cases hky:Op.bytesLess k y with
            |true=>simp only[hm,hky,hyt,cond_true,cond_false,Bool.and_false,decide_true]
            |false =>
              have:=ge_trans hky hyt
              rw[this] at hkt; cases hkt
          rw[e1]; rfl
  . rw[show decide (((op,k,t,v):Msg).1=3)=false from decide_eq_false h3]
    rfl
end
end Go.Vm.YtkjjpmbpjfmbcaaGreatDoor

namespace Go.Vm.R
noncomputable section
theorem law_sn {G : Gl} {O : Nat → List V → H → Res} {tab : Nat → Option CFn} {f T : Nat} {l : List DV} {k : RK} {r : List k.T} {el : Nat}
    (law:LawOk G O tab f T [] l (.br (Nat.beq r.length 0) (.v .nils []) (.v (.rs 0 0 r.length r.length k.w false) [.r k r true el]))) :
    LawOk G O tab f T [] l (.v (.ns 0 r.length k.w) [.rn k r el]):=by
  intro n hn kk L h R wf g hw z hz
  have hz:(kk (.ns 0 r.length k.w) (mkD [.rn k r el] 0)).ev=some z:=hz
  cases hr:Nat.beq r.length 0 with
  |true =>
    have h0:r.length=0:=Nat.eq_of_beq_eq_true hr
    obtain⟨x,d',L',h',e1,R1,st,hx⟩:=law n hn okK L h R wf g hw (.nils,mkD [] 0) (by
      show (Tree.br (Nat.beq r.length 0) (.ok .nils (mkD [] 0)) (.ok (.rs 0 0 r.length r.length k.w false) (mkD [.r k r true el] 0))).ev=_
      rw[hr]; rfl)
    have hq:=Option.some.inj hx
    obtain⟨rfl,rfl⟩:=Prod.mk.inj hq
    have no:∀ s,¬ Here ((mkD [.rn k r el] 0).get s):=by
      intro s hs
      rw[mkD_get] at hs
      cases s with
      |zero =>
        have:0<r.length:=hs
        omega
      |succ s =>
        rw[List.getD_eq_getElem?_getD,List.getElem?_eq_none (by simp)] at hs
        exact hs
    refine⟨.ns 0 r.length k.w,mkD [.rn k r el] 0,fun s=>h'.n+(s-1),h',?_,?_,?_,hz⟩
    . rw[e1]
      congr 1
      show V.nils=nsV _ _ _
      rw[h0]; rfl
    . exact⟨fun s hs=>(no s hs).elim,fun s hs=>(no s hs).elim,fun s s' hs=>(no s hs).elim,fun j=>by
        show h'.n+(1+j-1)=h'.n+j
        omega,fun s hs=>(no s hs).elim⟩
    . exact⟨fun s hs=>(by cases hs),Nat.zero_le _,st.hn,rfl,st.hfl,st.frame,fun s hs=>(by cases hs),fun s _ hh=>(no s hh).elim⟩
  |false =>
    have h0:0<r.length:=by
      rcases Nat.eq_zero_or_pos r.length with h | h
      . rw[h] at hr; cases hr
      . exact h
    obtain⟨x,d',L',h',e1,R1,st,hx⟩:=law n hn okK L h R wf g hw (.rs 0 0 r.length r.length k.w false,mkD [.r k r true el] 0) (by
      show (Tree.br (Nat.beq r.length 0) (.ok .nils (mkD [] 0)) (.ok (.rs 0 0 r.length r.length k.w false) (mkD [.r k r true el] 0))).ev=_
      rw[hr]; rfl)
    have hq:=Option.some.inj hx
    obtain⟨rfl,rfl⟩:=Prod.mk.inj hq
    have same:∀ s,(Here ((mkD [.rn k r el] 0).get s)->Here ((mkD [.r k r true el] 0).get s))/\toO L' ((mkD [.rn k r el] 0).get s)=toO L' ((mkD [.r k r true el] 0).get s):=by
      intro s
      rw[mkD_get,mkD_get]
      cases s with
      |zero=>exact⟨fun _=>trivial,rfl⟩
      |succ s =>
        rw[List.getD_eq_getElem?_getD,List.getD_eq_getElem?_getD,List.getElem?_eq_none (by simp),List.getElem?_eq_none (by simp)]
        exact⟨id,rfl⟩
    refine⟨.ns 0 r.length k.w,mkD [.rn k r el] 0,L',h',?_,rep_like R1 rfl rfl (fun s hs=>⟨(same s).1 hs,(same s).2⟩),?_,hz⟩
    . rw[e1]
      congr 1
      obtain⟨m,hm⟩:∃ m,r.length=m+1:=⟨r.length-1,by omega⟩
      show V.sl _ (0*k.w) _ _ _ _=nsV _ _ _
      rw[hm,Nat.zero_mul]; rfl
    . exact⟨st.agree,Nat.zero_le _,st.hn,rfl,st.hfl,st.frame,fun s hs=>(by cases hs),fun s hs hh=>st.new s hs ((same s).1 hh)⟩
end
end Go.Vm.R
namespace Go.Vm.YtkjjpmbpjfmbcaaGreatDoor
open Go.Proofs Go.Vm.R
noncomputable section
theorem law61s (op:Int) (k t v a b:Txt):LawOk C.G C.O C.tab 61 201 [] [.agg [.int .i64 op,.str k,.str t,.str v],.str a,.str b] (.v (.ns 0 (leftL (op,k,t,v) a b).length 4) [.rn .msg (leftL (op,k,t,v) a b) 31]) :=
  law_sn (k:=.msg) (r:=leftL (op,k,t,v) a b) (el:=31) (law61 op k t v a b)
def g61s:List R.DV->List R.DO->Option RD:=fun l ao=>match l,ao with
  |[.agg [.int .i64 op,.str k,.str t,.str v],.str a,.str b],[]=>some (.v (.ns 0 (leftL (op,k,t,v) a b).length 4) [.rn .msg (leftL (op,k,t,v) a b) 31])
  |_,_=>none
theorem g61s_ok (l:List R.DV) (ao:List R.DO) (out:RD) (h:g61s l ao=some out):LawOk C.G C.O C.tab 61 201 ao l out:=by
  unfold g61s at h
  split at h
  . cases h; exact law61s _ _ _ _ _ _
  . cases h
def Y3:C.RL:=((Y0.add 61 201 g61s g61s_ok).add 65 201 gX65 gX65_ok).add 66 201 g66 g66_ok
end
end Go.Vm.YtkjjpmbpjfmbcaaGreatDoor

namespace Go.Vm.YtkjjpmbpjfmbcaaGreatDoor
open Go.Proofs Go.Vm.R
noncomputable section
def recA (a:List Msg) (z:Int):Msg:=a.getD z.toNat (0,[],[],[])
theorem take_rec {a:List Msg}{n:Nat}{z:Int} (h:n<=a.length) (h0:0<=z) (h1:z<n):(a.take n).drop z.toNat=recA a z::(a.take n).drop (z+1).toNat:=by
  have:=seg_rec (full:=a) (j:=0) (n:=n) (z:=z) (by omega) h0 h1
  unfold rec at this
  rw[Nat.zero_add] at this
  exact this
theorem take_end {a:List Msg}{n:Nat}{z:Int} (h:n<=a.length) (h1:¬ z<n) (h0:0<=z):(a.take n).drop z.toNat=[]:=seg_end (full:=a) (j:=0) (n:=n) (by omega) h1 h0
def sameE (a b:Msg):Bool:=decide (a.1=b.1)&&(decide (a.2.1=b.2.1)&&(decide (a.2.2.1=b.2.2.1)&&(decide (a.2.2.2=b.2.2.2)&&true)))
theorem same_cons (a b:Msg) (x y:List Msg):sameL (a::x) (b::y)=(sameE a b&&sameL x y):=by
  unfold sameL sameE
  rw[Bool.eq_iff_iff]
  simp only[decide_eq_true_eq,Bool.and_eq_true,List.cons.injEq,and_true,Prod.ext_iff]
theorem no_first {x y:Txt} (lf:Msg->Txt->Txt->List Msg):∀ (l:List Msg) (m:Msg),noP x y l=true->firstM x y l m=m/\restF lf x y l=l
  |[],_,_=>⟨rfl,rfl⟩
  |e::r,m,h=>by
    have h:cond (partOk e x y) false (noP x y r)=true:=h
    show cond (partOk e x y) _ (firstM x y r m)=m/\cond (partOk e x y) _ (e::restF lf x y r)=e::r
    cases hp:partOk e x y with
    |true=>rw[hp] at h; cases h
    |false =>
      rw[hp] at h
      obtain⟨h1,h2⟩:=no_first lf r m h
      exact⟨h1,by show e::restF lf x y r=_; rw[h2]⟩
theorem idxP_shift (x y:Txt):∀ (l:List Msg) (z:Int),idxP x y l (z+1)=idxP x y l z+1
  |[],_=>rfl
  |e::r,z=>by
    show cond (partOk e x y) (z+1) (idxP x y r (z+1+1))=cond (partOk e x y) z (idxP x y r (z+1))+1
    rw[idxP_shift x y r (z+1)]
    cases partOk e x y<;>rfl
theorem at_first {x y : Txt} (lf : Msg → Txt → Txt → List Msg) : ∀ (l : List Msg) (m : Msg), noP x y l = false → ∃ i : Nat, idxP x y l 0 = i ∧ i < l.length ∧ partOk (l.getD i (0, [], [], [])) x y = true ∧
    firstM x y l m=partM (l.getD i (0,[],[],[])) x y/\restF lf x y l=l.take i++(lf (l.getD i (0,[],[],[])) x y++l.drop (i+1))
  |[],_,h=>by cases h
  |e::r,m,h=>by
    have h:cond (partOk e x y) false (noP x y r)=false:=h
    have e1:idxP x y (e::r) 0=cond (partOk e x y) 0 (idxP x y r (0+1)):=rfl
    have e2:firstM x y (e::r) m=cond (partOk e x y) (partM e x y) (firstM x y r m):=rfl
    have e3:restF lf x y (e::r)=cond (partOk e x y) (lf e x y++r) (e::restF lf x y r):=rfl
    rw[e1,e2,e3]
    cases hp:partOk e x y with
    |true=>exact⟨0,rfl,Nat.zero_lt_succ _,hp,rfl,rfl⟩
    |false =>
      rw[hp] at h
      obtain⟨i,h1,h2,h3,h4,h5⟩:=at_first lf r m h
      refine⟨i+1,?_,by rw[List.length_cons]; omega,h3,h4,?_⟩
      . show idxP x y r (0+1)=_
        rw[idxP_shift,h1]; rfl
      . show e::restF lf x y r=_
        rw[h5]; rfl
theorem restF_len {lf:Msg->Txt->Txt->List Msg} (hl:∀ m x y,(lf m x y).length<=2) (x y:Txt):∀ l:List Msg,(restF lf x y l).length<=l.length+1
  |[]=>Nat.zero_le _
  |e::r=>by
    have:=restF_len hl x y r
    have h2:=hl e x y
    show (cond (partOk e x y) (lf e x y++r) (e::restF lf x y r)).length<=_
    rw[List.length_cons]
    cases partOk e x y
    . show (e::restF lf x y r).length<=_
      rw[List.length_cons]; omega
    . show (lf e x y++r).length<=_
      rw[List.length_append]; omega
theorem restL_len {lf:Msg->Txt->Txt->List Msg} (hl:∀ m x y,(lf m x y).length<=2) (x y:Txt):∀ l:List Msg,(restL lf x y l).length<=2*l.length
  |[]=>Nat.zero_le _
  |e::r=>by
    have:=restL_len hl x y r
    have h2:=hl e x y
    show (cond (partOk e x y) (lf e x y) [e]++restL lf x y r).length<=_
    rw[List.length_append,List.length_cons]
    cases partOk e x y
    . show [e].length+_<=_
      rw[List.length_singleton]; omega
    . show (lf e x y).length+_<=_
      omega
theorem inL_len (x y:Txt):∀ l:List Msg,(inL x y l).length<=l.length
  |[]=>Nat.zero_le _
  |e::r=>by
    have:=inL_len x y r
    show (cond (partOk e x y) (partM e x y::inL x y r) (inL x y r)).length<=_
    rw[List.length_cons]
    cases partOk e x y
    . show (inL x y r).length<=_; omega
    . show (partM e x y::inL x y r).length<=_
      rw[List.length_cons]; omega
end
end Go.Vm.YtkjjpmbpjfmbcaaGreatDoor

namespace Go.Vm.R
def Tree.go:List Bool->Tree->Tree
  |true::r,.br _ t _=>Tree.go r t
  |false::r,.br _ _ f=>Tree.go r f
  |true::r,.need _ t=>Tree.go r t
  |_,x=>x
def Tree.cks:List Bool->Tree->Bool
  |true::r,.br b t _=>b&&Tree.cks r t
  |false::r,.br b _ f=>!b&&Tree.cks r f
  |true::r,.need b t=>b&&Tree.cks r t
  |[],_=>true
  |_,_=>false
theorem Tree.ev_go:∀ (p:List Bool) (x:Tree),Tree.cks p x=true->x.ev=(Tree.go p x).ev
  |[],x,_=>by cases x<;>rfl
  |true::r,.br b t f,h=>by
    have h:(b&&Tree.cks r t)=true:=h
    rw[Bool.and_eq_true] at h
    obtain⟨rfl,h⟩:=h
    exact Tree.ev_go r t h
  |false::r,.br b t f,h=>by
    have h:(!b&&Tree.cks r f)=true:=h
    rw[Bool.and_eq_true,Bool.not_eq_true'] at h
    obtain⟨rfl,h⟩:=h
    exact Tree.ev_go r f h
  |true::r,.need b t,h=>by
    have h:(b&&Tree.cks r t)=true:=h
    rw[Bool.and_eq_true] at h
    obtain⟨rfl,h⟩:=h
    exact Tree.ev_go r t h
  |false::r,.need b t,h=>by cases h
  |true::r,.ok v d,h=>by cases h
  |false::r,.ok v d,h=>by cases h
  |true::r,.no,h=>by cases h
  |false::r,.no,h=>by cases h
end Go.Vm.R
