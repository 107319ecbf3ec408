/-
  Laws over rows, at the model's level.
  A law over rows that names no row, as a plain law; what the laws of blocks stand over.
  Loops: what the laws share.
  Blocks: the loops, a turn of each.
  Blocks: the loops that fill a row.
  Blocks: trimming, and so many bytes from a place on.
  Blocks: texts put one behind the other.
  What a patch makes of a block, as the program and as the document's answer tell it.
  What the last laws of messages stand over: each answer by its parts.
  What a patch makes of a value, as the program tells it.
  What a message makes of a key's value, as the program and as the document's answer tell it.
-/
import Derived.Test.YtkjjpmbpjfmbcaaGreatDoorQ10
import Derived.ChangeArms
import Derived.Test.YtkjjpmbpjfmbcaaGreatDoorQ6
import Derived.Deep.Slices
import Derived.Test.YtkjjpmbpjfmbcaaGreatDoorQ8
set_option linter.unusedVariables false
set_option linter.unusedSimpArgs false
namespace Go.Vm.R
noncomputable section
variable {P:Program}
def rowH (n:Nat)(B:Base)(el:Nat->Nat)(x:Obj):H:=⟨n+1,(Xam el B).set .dead n x,n+1⟩
theorem XbH (n:Nat)(B:Base)(el:Nat->Nat)(x:Obj)(o:Nat):(rowH n B el x).get o=if n=o then x else (Xam el B).get .dead o:=by
  show T.get _ (T.set _ _ _ _) _=_
  rw[T.get_set]
def XdC (n:Nat)(B:Base)(p:Pl):Rho:=fun o=>if o=n then some p else rhoB B o
structure RowAt (W:World)(B:Base)(p:Pl)(cells:List V)(e z:Nat):Prop where
  lie:∃ cs fr,W.heap[p.B]? = some (.cells cs e fr)/\cs.size=p.N/\p.b+cells.length<=p.N/\fr.2<=p.b+z/\∀ i v,cells[i]? = some v->∃ x,cs[p.b+i]? = some x/\VRel Xgx noH v x
  ne:∀ y∈B,y.1 ≠ p.B
theorem Xm9 {n:Nat}{B:Base} (hB:BaseOk n B) {el:Nat->Nat}{W:World} (hW:Zn B el W) {p:Pl}{cells:List V}{e z:Nat} (hp:RowAt W B p cells e z)(hc:wfs 0 cells) :
    HRel (XdC n B p) (rowH n B el (ob cells true e (some z))) W:=by
  have hb:=XaU hB hW
  refine⟨fun o q h=>?_,fun o q h=>?_,fun o o' q q' h h' e=>?_⟩
  . unfold XdC at h
    show o<n+1
    split at h
    . omega
    . have:=hb.lt o q h
      have:o<n:=this
      omega
  . unfold XdC at h
    rw[XbH];split at h
    . rename_i e1
      cases h;rw[if_pos e1.symm];obtain⟨cs,fr,h1,h2,h3,h4,h5⟩:=hp.lie
      refine⟨cs,fr,h1,h2,h3,(fun h=>nomatch h),fun i hi=>?_,h4⟩
      have hi:i<cells.length:=hi
      obtain⟨x,hx,hv⟩:=h5 i cells[i] (List.getElem?_eq_getElem hi)
      refine⟨x,hx,?_⟩
      rw[WJ hi,List.getD_eq_getElem?_getD,List.getElem?_eq_getElem hi];exact Ya _ _ ((XX 0 cells).1 hc _ (List.getElem_mem hi)) hv
    . rename_i e1
      rw[if_neg (fun e2=>e1 e2.symm)]
      have ho:=hb.obj o q h;obtain⟨l,hm,_,hg⟩:=Y2 (el:=el) h
      have e2:(ZA n B el).get o=(Xam el B).get .dead o:=rfl
      rw[e2] at ho;rw[hg] at ho ⊢;obtain⟨cs,fr,h1,h2,h3,h4,h5,h6⟩:=ho
      refine⟨cs,fr,h1,h2,h3,h4,fun i hi=>?_,h6⟩
      obtain⟨x,hx,hv⟩:=h5 i hi
      refine⟨x,hx,?_⟩
      have hi':i<l.length:=hi
      rw[XK,if_pos ⟨Nat.zero_le _,by omega⟩] at hv ⊢
      refine Ya _ _ ?_ hv;rw[List.getD_eq_getElem?_getD,List.getElem?_eq_getElem (by omega)]
      exact (XX 0 l).1 (hB.wf _ hm) _ (List.getElem_mem _)
  . unfold XdC at h h'
    split at h<;>split at h'
    . exact .inl (by omega)
    . cases h
      obtain⟨l,hm,hq,_⟩:=Y2 (el:=el) h';exact absurd (show o'=p.B by rw[e,hq]) (hp.ne _ hm)
    . cases h'
      obtain⟨l,hm,hq,_⟩:=Y2 (el:=el) h;exact absurd (show o=p.B by rw[← e,hq]) (hp.ne _ hm)
    . exact (hb.inj o o' q q' h h' e).imp (fun e=>e) (fun h2=>⟨Nat.lt_succ_of_lt h2.1,Nat.lt_succ_of_lt h2.2⟩)
theorem Xm8 {n:Nat}{B:Base} (hB:BaseOk n B)(el:Nat->Nat) {cells:List V}{e z:Nat} (hc:wfs 0 cells):wfh (rowH n B el (ob cells true e (some z))):=by
  refine⟨Nat.le_refl _,fun o=>?_⟩
  rw[XbH]
  show wfo (n+1) _
  split
  . intro i
    rcases Nat.lt_or_ge i cells.length with hi | hi
    . rw[WJ hi,List.getD_eq_getElem?_getD,List.getElem?_eq_getElem hi]
      exact YE (Nat.zero_le _) _ ((XX 0 cells).1 hc _ (List.getElem_mem hi))
    . show wf (n+1) ((Xp .lf 0 cells).get .bot i)
      rw[XK,if_neg (by omega),T.get_lf]
      trivial
  . have:=(Xct hB el).2 o
    have h2:wfo n ((Xam el B).get .dead o):=this
    cases hr:rhoB B o with
    |none=>rw[XaH hr]; trivial
    |some q =>
      obtain⟨l,hm,_,hg⟩:=Y2 (el:=el) hr;rw[hg];intro i;exact YV (fun i=>by rw[T.get_lf]; trivial) (YH (Nat.zero_le _) _ (hB.wf _ hm)) 0 i
theorem Xpc {n:Nat} (B:Base)(el:Nat->Nat)(p:Pl)(x:Obj):GRel n (XdC n B p) (rowH n B el x):=by
  refine⟨Nat.le_succ n,fun g hg=>?_⟩
  have e1:XdC n B p g=rhoB B g:=if_neg (by omega)
  have e2:(rowH n B el x).get g=(ZA n B el).get g:=by rw[XbH,if_neg (by omega)]; rfl
  rw[e1,e2];exact (Xd2 B el).2 g hg
theorem Xiw (C:Ctx P) {B:Base}{hlt:∀ x∈B,x.1<P.globals.size} (hG:C.G=Xbh P.globals.size B hlt)(hB:BaseOk P.globals.size B)(hS:XM P C.O)(hm:∀ el,meets (ZA P.globals.size B el) B=true)
    {f T:Nat}{k:RK}{full:List k.T}{e z:Nat}{l:List DV}{out:RD}{d:DH} (law:Xw C.G C.O C.tab f T [.r k full true ⟨e,z⟩] l out) (ho:(out.tree [.r k full true ⟨e,z⟩] 1 okK).ev=some (.bool true,d))
    {W:World}{el:Nat->Nat} (hW:Zn B el W) {p:Pl} (hp:RowAt W B p (rowV k full) e z) {vs:List Value}
    (hwf:wfs (P.globals.size+1) (toVs (fun s=>P.globals.size+s) l))
    (hvs:∀ ρ h,ρ P.globals.size=some p->VRels ρ h (toVs (fun s=>P.globals.size+s) l) vs) :
    Calls P f vs.toArray W fun e W'=>e=.returned (.bool true)/\Kept W W':=by
  have hc:wfs 0 (rowV k full):=Xey 0 full
  have R:Rep (fun s=>P.globals.size+s) (mkD [.r k full true ⟨e,z⟩] 1) (rowH P.globals.size B el (ob (rowV k full) true e (some z))):=by
    have key:∀ s,Here ((mkD [.r k full true ⟨e,z⟩] 1).get s)->s=0:=by
      intro s hs;rw[Wn] at hs
      cases s with
      |zero=>rfl
      |succ s=>exact hs.elim
    refine⟨fun s hs=>?_,fun s hs=>?_,fun s s' hs hs' _=>?_,fun j=>?_,fun s hs hl=>?_⟩
    . obtain rfl:=key s hs
      rw[XbH,if_pos (Nat.add_zero _).symm]; rfl
    . obtain rfl:=key s hs
      exact⟨Nat.lt_succ_self 0,Nat.lt_succ_self _⟩
    . rw[key s hs,key s' hs']
    . show P.globals.size+(1+j)=P.globals.size+1+j
      omega
    . obtain rfl:=key s hs
      exact absurd hl (by show ¬ 1<=0; omega)
  have wh:=Xm8 (z:=z) hB el hc (e:=e)
  have hj:C.G.J (rowH P.globals.size B el (ob (rowV k full) true e (some z))):=by
    rw[hG]
    refine⟨Nat.le_succ _,Nat.le_succ _,Xag (fun x hx=>?_) (hm el)⟩
    rw[XbH,if_neg (by have:=hlt x hx; omega)]; rfl
  obtain⟨w,d',L',h',e1,_,_,hz⟩:=law T (Nat.le_refl _) okK _ _ R wh hj hwf _ ho
  have hw:w=.bool true:=congrArg Prod.fst (Option.some.inj hz)
  subst hw;have hrel:=Xm9 hB hW hp hc;obtain⟨_,hq⟩:=soundO YI C.hX.good hS C.ht T f _ _ _ W vs hrel wh (Xpc B el p _) hwf (hvs _ _ (if_pos rfl)) (by rw[e1]; intro h; cases h)
  rw[e1] at hq;refine hq.mono fun x W' he=>?_
  cases x with
  |returned x =>
    obtain⟨ρ',hv,hpo⟩:=he;rw[Yr hv]
    exact⟨rfl,hpo.fr.os,hpo.fr.output,fun B' hB'=>hpo.fr.old B' hB' fun o p h _=>hrel.lt o p h⟩
  |panicked ch=>exact he.elim
  |outgrown=>exact he.elim
theorem Xjq (C:Ctx P) {B:Base}{hlt:∀ x∈B,x.1<P.globals.size} (hG:C.G=Xbh P.globals.size B hlt)(hB:BaseOk P.globals.size B)(hS:XM P C.O)(hm:∀ el,meets (ZA P.globals.size B el) B=true)
    {f T:Nat}{l:List DV}{out:RD}{d:DH} (law:Xw C.G C.O C.tab f T [] l out) (ho:(out.tree [] 0 okK).ev=some (.bool true,d))
    {W:World}{el:Nat->Nat} (hW:Zn B el W) {vs:List Value}
    (hwf:wfs P.globals.size (toVs (fun s=>P.globals.size+s) l)) (hvs:∀ ρ h,VRels ρ h (toVs (fun s=>P.globals.size+s) l) vs) :
    Calls P f vs.toArray W fun e W'=>e=.returned (.bool true)/\Kept W W':=by
  have no:∀ s,¬ Here ((mkD [] 0).get s):=by
    intro s hs;rw[Wn] at hs;exact hs.elim
  have R:Rep (fun s=>P.globals.size+s) (mkD [] 0) (ZA P.globals.size B el) :=
    ⟨fun s hs=>absurd hs (no s),fun s hs=>absurd hs (no s),fun s _ hs=>absurd hs (no s),fun j=>by show P.globals.size+(0+j)=P.globals.size+j; omega,fun s hs=>absurd hs (no s)⟩
  have wh:=Xct hB el
  have hj:C.G.J (ZA P.globals.size B el):=by
    rw[hG]
    exact⟨Nat.le_refl _,Nat.le_refl _,hm el⟩
  obtain⟨w,d',L',h',e1,_,_,hz⟩:=law T (Nat.le_refl _) okK _ _ R wh hj hwf _ ho
  have hw:w=.bool true:=congrArg Prod.fst (Option.some.inj hz)
  subst hw;have hrel:=XaU hB hW;obtain⟨_,hq⟩:=soundO YI C.hX.good hS C.ht T f _ _ _ W vs hrel wh (Xd2 B el) hwf (hvs _ _) (by rw[e1]; intro h; cases h)
  rw[e1] at hq;refine hq.mono fun x W' he=>?_
  cases x with
  |returned x =>
    obtain⟨ρ',hv,hpo⟩:=he;rw[Yr hv]
    exact⟨rfl,hpo.fr.os,hpo.fr.output,fun B' hB'=>hpo.fr.old B' hB' fun o p h _=>hrel.lt o p h⟩
  |panicked ch=>exact he.elim
  |outgrown=>exact he.elim
end
end Go.Vm.R
namespace Go.Vm.R
noncomputable section
open Go.Deep
variable {H:Type}{enc:TypeId×Value->H}{P:Program}
theorem XfK {W W':World} (k:Kept W W') {a:Addr}{n:Nat}{cs:List Value} (h:W.cells? 0 a n=some cs)(hb:a.block<W.heap.size):W'.cells? 0 a n=some cs:=by
  have e:∀ i,W'.cell? (a.add i)=W.cell? (a.add i):=by
    intro i
    have:(a.add i).block=a.block:=by unfold Addr.add; split<;>rfl
    unfold World.cell?;rw[this,k.heap _ hb]
  unfold World.cells? at h ⊢;simp only[e];exact h
structure EntT (P:Program)(t e:TypeId):Prop where
  sl:P.underlying t=some (.slice e)
  two:∃ f0 f1:Field,P.underlying e=some (.struct #[f0,f1])/\P.underlying f0.type=some .string/\P.underlying f1.type=some .string/\f0.offset=0/\f1.offset=1/\P.cellsOf f0.type=1/\P.cellsOf f1.type=1
  cells:P.cellsOf e=2
  plain:XbJ P 8 e=true
theorem Xmd {t e:TypeId} (T:EntT P t e) {w:World}{base:Nat}{sp:Nat->Bool}{hd:Bool}{fuel:Nat}{cs:List Value}{x:DataW H×List MemPlace} (h:DataW.trod enc P w base sp hd fuel e cs=some x) :
    ∃ s0 s1:ByteArray,cs=[.string s0,.string s1]:=by
  obtain⟨f0,f1,h1,h2,h3,h4,h5,h6,h7⟩:=T.two;obtain⟨y0,y1,n,_,hl,r0,r1⟩:=ChangeShapes.trod_struct2 h1 h;rw[h4,h6] at r0;rw[h5,h7] at r1;rw[T.cells] at hl;obtain⟨s0,e0,_⟩:=DataW.trod_string h2 r0;obtain⟨s1,e1,_⟩:=DataW.trod_string h3 r1
  match cs,hl with
  |[a,b],_ =>
    simp at e0 e1
    exact⟨s0,s1,by rw[e0,e1]⟩
theorem XgW (full:List RK.ent.T)(i:Nat)(hi:i<full.length)(x:List UInt8×List UInt8)(hx:full[i]? = some x):(rowV .ent full)[2*i]? = some (sv x.1)/\(rowV .ent full)[2*i+1]? = some (sv x.2):=by
  induction full generalizing i with
  |nil=>simp at hi
  |cons y r ih =>
    cases i with
    |zero =>
      have:y=x:=Option.some.inj hx
      subst this
      exact⟨rfl,rfl⟩
    |succ i =>
      have:=ih i (by simpa using hi) (by simpa using hx)
      exact this
theorem Xgv {t e : TypeId} (T : EntT P t e) {W : World} {v : Value} {d : DataW H} {ps : List MemPlace} (h : DataW.Trod enc P W 0 (fun _ => true) true t v d ps) {base : Nat} (hval : Value.okWide P W .any base t v) :
    (v=.slice none 0 0/\∀ (W':World) (sp:Nat->Bool),DataW.Trod enc P W' 0 sp true t v d ps) ∨
    ∃ (a:Addr) (len cap:Nat) (full:List RK.ent.T) (cs:Array Value) (row:TypeId) (fr:Nat×Nat),v=.slice (some a) len cap/\a.spot=none/\len<=cap/\cap<=maxLen/\full.length=cap /\
      W.heap[a.block]? = some (.cells cs row fr)/\(∀ i v,(rowV .ent full)[i]? = some v->∃ s:ByteArray,cs[a.off+i]? = some (.string s)/\v=sv s.data.toList) /\
      ∀ W',Kept W W'->∀ sp:Nat->Bool,(∀ p∈ps,sp p.block=true)->DataW.Trod enc P W' 0 sp true t v d ps:=by
  have hc:Cell.ok P W .any base t v:=by
    unfold Value.okWide at hval;rw[T.sl] at hval
    simp only at hval
    unfold Cell.okWide at hval;rw[T.sl] at hval;exact hval
  obtain⟨fuel,h⟩:=h
  rcases open_slice T.sl h with ⟨hcs,hx⟩ | ⟨a,len,cap,m,n,D,Pl,hcs,_,hlc,hm,hmm,hx,hel⟩
  . left
    unfold Cell.ok at hc;rw[T.sl] at hc
    have hv:v=.slice none 0 0:=by
      cases v<;>first | exact hc.elim | skip
      rename_i a l c
      have:[Value.slice a l c]=[.slice none 0 0]:=hcs
      simpa using this
    refine⟨hv,fun W' sp=>⟨1,?_⟩⟩
    rw[hcs,hx];unfold DataW.trod;simp only[T.sl]
  . right
    have hm':m=cap:=hmm
    subst hm'
    have hv:v=.slice (some a) len m:=by
      unfold Cell.ok at hc;rw[T.sl] at hc
      cases v<;>first | exact hc.elim | skip
      rename_i a' l c
      have:[Value.slice a' l c]=[.slice (some a) len m]:=hcs
      simpa using this
    subst hv;unfold Cell.ok at hc;rw[T.sl] at hc;obtain⟨_,_,_,hspot,row,cells,hsh,_⟩:=hc
    obtain⟨cs,fr,hb⟩:∃ cs fr,W.heap[a.block]? = some (.cells cs row fr):=by
      unfold World.shape? at hsh;split at hsh
      . rename_i c el fr hb
        cases hsh
        exact⟨c,fr,hb⟩
      . cases hsh
    have hlt:a.block<W.heap.size:=(Array.getElem?_eq_some_iff.1 hb).1
    rw[T.cells] at hel;obtain⟨S,hS⟩:=choose_lt (α:=ByteArray×ByteArray) (n:=m) (p:=fun i s=>W.cells? 0 (a.add (i*2)) 2=some [.string s.1,.string s.2]/\DataW.trod enc P W 0 (fun _=>true) true n e [.string s.1,.string s.2]=some (D i,Pl i)) (fun i hi=>by
      obtain⟨cs',h1,h2⟩:=hel i hi;obtain⟨s0,s1,rfl⟩:=Xmd T h2
      exact⟨(s0,s1),h1,h2⟩)
    have hcell:∀ i,i<m->cs[a.off+2*i]? = some (.string (S i).1)/\cs[a.off+(2*i+1)]? = some (.string (S i).2):=by
      intro i hi;obtain⟨_,_,h3⟩:=World.cells?_some (hS i hi).1
      have hadd:∀ j,a.add j=⟨a.block,a.off+j,none⟩:=by
        intro j;obtain⟨b,o,sp⟩:=a
        have:sp=none:=hspot
        subst this;exact WideShapes.add_plain b o j
      have c0:=h3 0 (by omega)
      have c1:=h3 1 (by omega)
      rw[hadd,WideShapes.add_plain] at c0 c1;simp only[World.cell?,hb] at c0 c1
      refine⟨?_,?_⟩
      . rw[show a.off+2*i=a.off+i*2+0 by omega]; simpa using c0
      . rw[show a.off+(2*i+1)=a.off+i*2+1 by omega]; simpa using c1
    have ex:∃ full:List (List UInt8×List UInt8),full.length=m/\∀ k,k<m->full[k]? = some ((S k).1.data.toList,(S k).2.data.toList) :=
      ⟨(List.range m).map (fun i=>((S i).1.data.toList,(S i).2.data.toList)),by simp,fun k hk=>by simp[hk]⟩
    obtain⟨full,hfl,hfg⟩:∃ full:List RK.ent.T,full.length=m/\∀ k,k<m->full[k]? = some ((S k).1.data.toList,(S k).2.data.toList):=ex
    refine⟨a,len,m,full,cs,row,fr,rfl,hspot,hlc,hm,hfl,hb,?_,?_⟩
    . intro i v hiv
      have hlen:i<m*2:=by
        have:=(List.getElem?_eq_some_iff.1 hiv).1
        rw[Yo,hfl] at this;exact this
      have hk:i / 2<m:=by omega
      have hg:=XgW full (i / 2) (by rw[hfl]; exact hk) ((S (i / 2)).1.data.toList,(S (i / 2)).2.data.toList) (hfg _ hk)
      have hcc:=hcell (i / 2) hk
      rcases Nat.mod_two_eq_zero_or_one i with h0 | h0
      . have hi2:i=2*(i / 2):=by omega
        generalize i / 2=q at *
        subst hi2;rw[hg.1] at hiv
        exact⟨(S q).1,hcc.1,(Option.some.inj hiv).symm⟩
      . have hi2:i=2*(i / 2)+1:=by omega
        rw[hi2] at hiv ⊢;rw[hg.2] at hiv
        exact⟨(S (i / 2)).2,hcc.2,(Option.some.inj hiv).symm⟩
    · intro W' k sp hsp
      have hx1:=congrArg Prod.fst hx;have hx2:=congrArg Prod.snd hx
      simp only at hx1 hx2
      have hread:∀ i,i<m->∃ cs' n',W'.cells? 0 (a.add (i*P.cellsOf e)) (P.cellsOf e)=some cs'/\DataW.trod enc P W' 0 sp true n' e cs'=some (D i,Pl i):=by
        intro i hi;obtain⟨h1,h2⟩:=hS i hi
        refine⟨_,n,?_,(WW n 8 e _ _ T.plain h2).1⟩
        rw[T.cells];refine XfK k h1 ?_
        have:(a.add (i*2)).block=a.block:=by unfold Addr.add; split<;>rfl
        rw[this]; exact hlt
      rw[hx1,hx2]
      cases hs:sp a.block with
      |true=>exact shut_slice_whole T.sl (Nat.zero_le _) hlc hm hs D Pl hread
      | false =>
        have h0:m=0:=by
          rcases Nat.eq_zero_or_pos m with h | h
          . exact h
          . exfalso
            have hmem:MemPlace.cell a.block a.off∈ps:=by
              rw[hx2,T.cells];refine List.mem_append_left _ ?_
              unfold MemPlace.row;simp only[List.mem_map,List.mem_range]
              exact⟨0,by omega,by simp⟩
            have:=hsp _ hmem
            rw[show (MemPlace.cell a.block a.off).block=a.block from rfl,hs] at this
            cases this
        subst h0
        obtain rfl:len=0:=by omega
        exact shut_slice T.sl (Nat.zero_le _) hlc hm hs D Pl (fun i hi=>absurd hi (by omega))
theorem XnB {W : World} {B : Base} {el : Nat → Nat} (hW : Zn B el W) (hint : ∀ y ∈ B, ∀ v ∈ y.2, ∃ k z, v = .int k z) (hother : ∃ g cs e fr, W.heap[g]? = some (.cells cs e fr) ∧ ∀ y ∈ B, y.1 ≠ g)
    {a:Addr}{len cap:Nat}{full:List RK.ent.T}{cs:Array Value}{row:TypeId}{fr:Nat×Nat} (hspot:a.spot=none) (hlc:len<=cap) (hfl:full.length=cap) (hb:W.heap[a.block]? = some (.cells cs row fr))
    (hc:∀ i v,(rowV .ent full)[i]? = some v->∃ s:ByteArray,cs[a.off+i]? = some (.string s)/\v=sv s.data.toList) (n:Nat) :
    ∃ (p:Pl) (e z:Nat),RowAt W B p (rowV .ent full) e z/\∀ ρ h,ρ n=some p->VRel ρ h (toV (fun s=>n+s) (.rs 0 0 len cap 2 true)) (.slice (some a) len cap):=by
  have hlen:(rowV .ent full).length=cap*2:=by rw[Yo,hfl]; rfl
  rcases Nat.eq_zero_or_pos cap with h0 | h0
  . obtain⟨g,cs2,e2,fr2,hg,hne⟩:=hother
    refine⟨⟨g,0,cs2.size⟩,e2,fr2.2,⟨⟨cs2,fr2,hg,rfl,?_,?_,?_⟩,hne⟩,fun ρ h hρ=>?_⟩
    . rw[hlen,h0]; show 0+0*2<=cs2.size; omega
    . show fr2.2<=0+fr2.2; omega
    . intro i v hiv
      have:=(List.getElem?_eq_some_iff.1 hiv).1
      omega
    . subst h0
      obtain rfl:len=0:=by omega
      exact .sl (p:=⟨g,0,cs2.size⟩) hρ (Nat.le_refl _) (Nat.le_refl _) (fun _=>rfl) (fun h=>absurd h (Nat.lt_irrefl 0)) (by show 0+0*2+0*2<=cs2.size; omega)
  . have hlast:a.off+cap*2<=cs.size:=by
      have hi:cap*2-1<(rowV .ent full).length:=by omega
      obtain⟨s,hs,_⟩:=hc (cap*2-1) _ (List.getElem?_eq_getElem hi)
      have:=(Array.getElem?_eq_some_iff.1 hs).1
      omega
    refine⟨⟨a.block,a.off,cs.size⟩,row,fr.2,⟨⟨cs,fr,hb,rfl,?_,?_,?_⟩,?_⟩,fun ρ h hρ=>?_⟩
    . rw[hlen]; exact hlast
    . show fr.2<=a.off+fr.2; omega
    . intro i v hiv
      obtain⟨s,hs,rfl⟩:=hc i v hiv
      exact⟨_,hs,.str s⟩
    . intro y hy he
      obtain⟨cs0,fr0,h1,_,h3⟩:=hW y hy;rw[he,hb] at h1;cases h1
      have hi:0<(rowV .ent full).length:=by omega
      obtain⟨s,hs,_⟩:=hc 0 _ (List.getElem?_eq_getElem hi);have hl:=h3.length;have hlt:=(Array.getElem?_eq_some_iff.1 hs).1
      have hlt2:a.off+0<y.2.length:=by rw[← hl]; simpa using hlt
      obtain⟨x,hx,hv⟩:=h3.get (List.getElem?_eq_getElem hlt2);obtain⟨k,z,hk⟩:=hint y hy _ (List.getElem_mem hlt2);rw[hk] at hv
      have hx2:cs[a.off+0]? = some x:=by simpa using hx
      rw[hs] at hx2;cases hx2;cases hv
    . obtain⟨b,o,sp⟩:=a
      have:sp=none:=hspot
      subst this;refine .sl (p:=⟨b,o,cs.size⟩) hρ hlc (Nat.le_refl _) (fun _=>rfl) (fun _=>?_) ?_
      . show (⟨b,o,none⟩:Addr)=⟨b,o+0*2,none⟩
        rw[Nat.zero_mul,Nat.add_zero]
      . show o+0*2+cap*2<=cs.size
        have:o+cap*2<=cs.size:=hlast
        omega
end
end Go.Vm.R
namespace Go.Vm.R
noncomputable section
end
end Go.Vm.R
namespace Go.Vm.R
open Go.Proofs
noncomputable section
end
end Go.Vm.R

namespace Go.Vm.R
noncomputable section
theorem Xhe {P:Program} (C:Ctx P) {B:Base}{hlt:∀ x∈B,x.1<P.globals.size} (hG:C.G=Xbh P.globals.size B hlt)(hB:BaseOk P.globals.size B)(hS:XM P C.O)(hm:∀ el,meets (ZA P.globals.size B el) B=true)
    {f T:Nat}{l:List DV}{l0:List Vm.DV}{v:DV}{v0:Vm.DV}{out:RD}{d:DH} (law:Xw C.G C.O C.tab f T [] l out) (ho:(out.tree [] 0 okK).ev=some (v,d))
    (hl:fromV.fromVs l=some l0) (hv:fromV v=some v0) (ha:wfs 0 (Vm.toVs l0)) (hw:wf 0 (Vm.toV v0)):PlainCall P B f (Vm.toVs l0) (Vm.toV v0):=by
  refine Xbd YI C.hX.good hS C.ht (n:=T) hB (fun el=>?_) ha hw
  have no:∀ s,¬ Here ((mkD [] 0).get s):=by
    intro s hs;rw[Wn] at hs;exact hs.elim
  have R:Rep (fun s=>P.globals.size+s) (mkD [] 0) (ZA P.globals.size B el) :=
    ⟨fun s hs=>absurd hs (no s),fun s hs=>absurd hs (no s),fun s _ hs=>absurd hs (no s),fun j=>by show P.globals.size+(0+j)=P.globals.size+j; omega,fun s hs=>absurd hs (no s)⟩
  have wh:=Xct hB el
  have hj:C.G.J (ZA P.globals.size B el):=by
    rw[hG]
    exact⟨Nat.le_refl _,Nat.le_refl _,hm el⟩
  have e0:toVs (fun s=>P.globals.size+s) l=Vm.toVs l0:=(Z8 l hl).symm
  obtain⟨w,d',L',h',e1,_,_,hz⟩:=law T (Nat.le_refl _) okK _ _ R wh hj (by rw[e0]; exact YH (Nat.zero_le _) _ ha) _ ho
  have hw:w=v:=congrArg Prod.fst (Option.some.inj hz)
  subst hw;rw[e0,← XiQ (L:=L') w hv] at e1
  exact⟨h',e1⟩
end
end Go.Vm.R
namespace Go.Vm.YtkjjpmbpjfmbcaaGreatDoor
open Go.Proofs Go.Vm.R
noncomputable section
theorem Xtp:R.Above Xa7 Xa7.O:=⟨Xa7.O_good,fun _ _ _ _ _ e=>e⟩
def knB:Nat->Bool:=fun f=>Xa7.dom.any (Nat.beq f)
theorem XsC:∀ f,knB f=false->∀ a h,Xa7.O f a h=.no:=by
  intro f hf a h;refine Xa7.O_no (fun hm=>?_) a h
  have:knB f=true:=List.any_eq_true.2 ⟨f,hm,Nat.beq_refl f⟩
  rw[this] at hf; cases hf
def kdB:R.Kd:=⟨fun el=>match Nat.beq el 5 with
  |true=>some .byte
  |false=>none,fun t=>match Nat.beq t 153 with
  |true=>some .byte
  |false=>none⟩
def XgG:Base:=[]
theorem Xog:BaseOk Tryz.prog.globals.size XgG:=⟨fun x hx=>(by cases hx),fun x hx=>(by cases hx)⟩
def glB:R.Gl:=R.Xbh 7 XgG (fun x hx=>by cases hx)
def CB:R.Ctx Tryz.prog:=⟨Xa7,glB,Xo.symm,Xa7.O,Xtp,tab,XN,knB,XsC,kdB⟩
def YB0:CB.RL:=R.RLaws.none CB.G CB.O CB.tab
theorem Xof:∀ x∈XgG,x.1<Tryz.prog.globals.size:=fun x hx=>by cases hx
theorem XsH (n:Nat)(h:n=7)(hb:∀ x∈XgG,x.1<n):glB=R.Xbh n XgG hb:=by subst h; rfl
theorem Xr6 {f T:Nat}{l:List R.DV}{l0:List DV}{v:R.DV}{v0:DV}{out:RD}{d:R.DH} (law:Xw CB.G CB.O CB.tab f T [] l out)(ho:(out.tree [] 0 okK).ev=some (v,d))
    (hl:fromV.fromVs l=some l0) (hv:fromV v=some v0) (ha:wfs 0 (toVs l0)) (hw:wf 0 (toV v0)):PlainCall Tryz.prog [] f (toVs l0) (toV v0) :=
  R.Xhe CB (B:=XgG) (hlt:=Xof) (XsH _ Xo _) Xog Xa7.O_sim (fun el=>rfl) law ho hl hv ha hw
end
end Go.Vm.YtkjjpmbpjfmbcaaGreatDoor

namespace Go.Vm.YtkjjpmbpjfmbcaaGreatDoor
open Go.Proofs Go.Vm.R
noncomputable section
def at3:CC->CC | .seq _ b=>b | c=>c
def fl:CC->CC | .seq a _=>a | c=>c
def bl:CC->CC | .block _ b=>b | c=>c
def lp:CC->CC | .loop b=>b | c=>c
theorem cT {α:Type}{p:Prop} [Decidable p] {a b:α} (h:p):cond (decide p) a b=a:=by rw[decide_eq_true h]; rfl
theorem cF {α:Type}{p:Prop} [Decidable p] {a b:α} (h:¬ p):cond (decide p) a b=b:=by rw[decide_eq_false h]; rfl
theorem cA {α:Type}{p q:Prop} [Decidable p] [Decidable q] {a b:α} (h1:p)(h2:q):cond (decide p&&decide q) a b=a:=by rw[decide_eq_true h1,decide_eq_true h2]; rfl
theorem cB {α:Type}{m n:Nat}{a b:α} (h:m<n):cond (Nat.blt m n) a b=a:=by rw[show Nat.blt m n=true by simpa using h]; rfl
theorem Wz (b:Bool)(t f:R.Tree):(R.Tree.br b t f).ev=cond b t.ev f.ev:=by cases b<;>rfl
theorem Xc0 {z:Int}{n:Nat} (h0:0<=z)(h1:z<n)(h2:n<9223372036854775808):IntKind.wrap .i64 (z+1)=z+1:=wrap_i64 (by omega) (by omega)
theorem YG {N:Nat}{ld:LoopD}{rd:R.EK}{y:List (Nat×R.EK)}{b:Bool}{t:LT}{z:R.DV×R.DH} (h:((LT.need b t).tree N ld rd y).ev=some z):b=true/\(t.tree N ld rd y).ev=some z:=by
  rw[LT.tree] at h; exact R.XB h
theorem Xeh {N:Nat}{ld:LoopD}{rd:R.EK}{y:List (Nat×R.EK)} (b:Bool)(t f:LT):((LT.br b t f).tree N ld rd y).ev=cond b (t.tree N ld rd y).ev (f.tree N ld rd y).ev:=by
  rw[LT.tree]; exact Wz ..
theorem Zw {f:Nat}{c:CFn} (h:tab f=some c):ccWf Tryz.prog.globals.size c.body:=by
  obtain⟨fn,b,_,_,_,_,_,h7⟩:=Z9 (XN f c h);rw[h7]; exact WT Tryz.prog b
theorem Xc7 {G:Nat}:∀ {c:CC},ccWf G c->ccWf G (at3 c)
  | .seq _ _,h=>h.2
  | .skip,h | .ops _,h | .draw ..,h | .cond ..,h | .block ..,h | .loop _,h | .exit _,h | .ret,h | .bad,h=>h
theorem XjW {G:Nat}:∀ {c:CC},ccWf G c->ccWf G (fl c)
  | .seq _ _,h=>h.1
  | .skip,h | .ops _,h | .draw ..,h | .cond ..,h | .block ..,h | .loop _,h | .exit _,h | .ret,h | .bad,h=>h
theorem XjX {G:Nat}:∀ {c:CC},ccWf G c->ccWf G (bl c)
  | .block _ _,h=>h
  | .skip,h | .ops _,h | .draw ..,h | .seq ..,h | .cond ..,h | .loop _,h | .exit _,h | .ret,h | .bad,h=>h
theorem XjU {G:Nat}:∀ {c:CC},ccWf G c->ccWf G (lp c)
  | .loop _,h=>h
  | .skip,h | .ops _,h | .draw ..,h | .seq ..,h | .cond ..,h | .block ..,h | .exit _,h | .ret,h | .bad,h=>h
theorem XP {G:Nat}:∀ (c:CC) (hd:Option Nat),ccWf G c->∀ p∈X8 hd c,ccWf G p.2
  | .seq a b,hd,h,p,hp=>by
    rcases List.mem_append.1 hp with hp | hp
    . exact XP a hd h.1 p hp
    . exact XP b hd h.2 p hp
  | .cond _ a b,hd,h,p,hp=>by
    rcases List.mem_append.1 hp with hp | hp
    . exact XP a hd h.1 p hp
    . exact XP b hd h.2 p hp
  | .block id b,_,h,p,hp=>XP b (some id) h p hp
  | .loop b,some id,h,p,hp=>by
    rcases List.mem_append.1 hp with hp | hp
    . cases List.mem_singleton.1 hp; exact h
    . exact XP b (some id) h p hp
  | .loop b,none,h,p,hp=>by
    rcases List.mem_append.1 hp with hp | hp
    . cases hp
    . exact XP b none h p hp
  | .skip,_,_,_,hp | .ops _,_,_,_,hp | .draw ..,_,_,_,hp | .exit _,_,_,_,hp | .ret,_,_,_,hp | .bad,_,_,_,hp=>by cases hp
def lhX (ld:LoopD):Nat->Option LoopD:=fun id=>match Nat.beq id 0 with
  |true=>some ld
  |false=>none
theorem WF {Q:Nat->CC->LoopD->Prop}{ld:LoopD}{l:List (Nat×CC)}{b:CC} (hl:l=[(0,b)])(h:Q 0 b ld):∀ p∈l,∀ d,lhX ld p.1=some d->Q p.1 p.2 d:=by
  subst hl;intro p hp d e
  cases List.mem_singleton.1 hp
  cases e;exact h
abbrev Txt:=List UInt8
def b184:CC:=match X8 none c184.body with | [(_,b)]=>b | _=>.skip
def b139:CC:=match X8 none c139.body with | [(_,b)]=>b | _=>.skip
def Xg2 (P:Txt->Int->Bool)(S:Txt->Int->Txt):LoopD:=⟨[(0,none),(1,none)],[(0,none)],[],fun vs ao=>match vs,ao with
  |[.str s,.int .u8 c],[]=>some (s.length,.need (P s c) (.exit 0 [.str (S s c)] []))
  |_,_=>none⟩
def Xg3 (P:Txt->Int->Txt->Int->Int->Bool)(S:Txt->Int->Txt->Int->Int->Txt):LoopD:=⟨[(0,none),(1,none),(7,some (.byte,5)),(15,none),(16,none)],[(7,some (.byte,5))],[],fun vs ao=>match vs,ao with
  |[.str v,.int .i64 f,.ns 0 a 1,.int .i64 n,.int .i64 z],[.rn .byte b 5]=>some (n.toNat-z.toNat,.need (Nat.beq a (List.length (α:=UInt8) b)&&P v f b n z) (.exit 0 [.ns 0 (S v f b n z).length 1] [.rn .byte (S v f b n z) 5]))
  |_,_=>none⟩
theorem Xos (P:Txt->Int->Bool)(S:Txt->Int->Txt)(s:Txt)(c:Int)(m:Nat)(rd k1:R.EK)(y:List (Nat×R.EK)) :
    (YR CB YB0 (fun _=>none) 100 23 0 0 b184 (Xg2 P S) m [.str s,.int .u8 c] [] rd k1 y).ev =
    cond (decide (0<(↑s.length:Int))) (cond (decide (0<=IntKind.wrap .i64 ((↑s.length:Int)-1))&&decide (IntKind.wrap .i64 ((↑s.length:Int)-1)<(↑s.length:Int))) (cond (decide ((↑(UInt8.toNat (List.getD s (Int.toNat (IntKind.wrap .i64 ((↑s.length:Int)-1))) 0)):Int)=c)) (cond (decide (0<=IntKind.wrap .i64 ((↑s.length:Int)-1))&&decide (IntKind.wrap .i64 ((↑s.length:Int)-1)<=(↑s.length:Int))) (cond (decide (List.length (List.take (Int.toNat (IntKind.wrap .i64 ((↑s.length:Int)-1))) s)<m)) (cond (P (List.take (Int.toNat (IntKind.wrap .i64 ((↑s.length:Int)-1))) s) c) ((k1 (envZ [0] [R.DV.str (S (List.take (Int.toNat (IntKind.wrap .i64 ((↑s.length:Int)-1))) s) c)]) (mkD [] 0)).ev) none) none) none) ((k1 (envZ [0] [R.DV.str s]) (mkD [] 0)).ev)) none) ((k1 (envZ [0] [R.DV.str s]) (mkD [] 0)).ev):=by kernel_rfl
theorem Xot (P:Txt->Int->Txt->Int->Int->Bool)(S:Txt->Int->Txt->Int->Int->Txt)(v:Txt)(f:Int)(b:Txt)(n z:Int)(m:Nat)(rd k1:R.EK)(y:List (Nat×R.EK)) :
    (YR CB YB0 (fun _=>none) 100 43 0 0 b139 (Xg3 P S) m [.str v,.int .i64 f,.ns 0 b.length 1,.int .i64 n,.int .i64 z] [.rn .byte b 5] rd k1 y).ev =
    cond (decide (z<n)) (cond (decide (f<(↑v.length:Int))) (cond (decide (z<IntKind.wrap .i64 ((↑v.length:Int)-f))) (cond (decide (0<=IntKind.wrap .i64 (f+z))&&decide (IntKind.wrap .i64 (f+z)<(↑v.length:Int))) (cond (decide ((↑(UInt8.toNat (List.getD v (Int.toNat (IntKind.wrap .i64 (f+z))) 0)):Int)<256)&&true) (cond (Nat.ble b.length b.length) (cond (roomFor (List.length b+List.length (List.take 1 (List.drop 0 [UInt8.ofNat (Int.toNat (↑(UInt8.toNat (List.getD v (Int.toNat (IntKind.wrap .i64 (f+z))) 0)):Int))]))) 1) (cond (decide (List.length b+List.length (List.take 1 (List.drop 0 [UInt8.ofNat (Int.toNat (↑(UInt8.toNat (List.getD v (Int.toNat (IntKind.wrap .i64 (f+z))) 0)):Int))]))=List.length (List.take b.length b++List.take 1 (List.drop 0 [UInt8.ofNat (Int.toNat (↑(UInt8.toNat (List.getD v (Int.toNat (IntKind.wrap .i64 (f+z))) 0)):Int))])))&&(decide (List.length b+List.length (List.take 1 (List.drop 0 [UInt8.ofNat (Int.toNat (↑(UInt8.toNat (List.getD v (Int.toNat (IntKind.wrap .i64 (f+z))) 0)):Int))]))=List.length b+List.length (List.take 1 (List.drop 0 [UInt8.ofNat (Int.toNat (↑(UInt8.toNat (List.getD v (Int.toNat (IntKind.wrap .i64 (f+z))) 0)):Int))])))&&true)) (cond (decide (Int.toNat n-Int.toNat (IntKind.wrap .i64 (z+1))<m)) (cond (Nat.beq (List.length b+List.length (List.take 1 (List.drop 0 [UInt8.ofNat (Int.toNat (↑(UInt8.toNat (List.getD v (Int.toNat (IntKind.wrap .i64 (f+z))) 0)):Int))]))) (List.length (List.take b.length b++List.take 1 (List.drop 0 [UInt8.ofNat (Int.toNat (↑(UInt8.toNat (List.getD v (Int.toNat (IntKind.wrap .i64 (f+z))) 0)):Int))])))&&P v f (List.take b.length b++List.take 1 (List.drop 0 [UInt8.ofNat (Int.toNat (↑(UInt8.toNat (List.getD v (Int.toNat (IntKind.wrap .i64 (f+z))) 0)):Int))])) n (IntKind.wrap .i64 (z+1))) ((k1 (envZ [7] [DV.ns 0 (List.length (S v f (List.take b.length b++List.take 1 (List.drop 0 [UInt8.ofNat (Int.toNat (↑(UInt8.toNat (List.getD v (Int.toNat (IntKind.wrap .i64 (f+z))) 0)):Int))])) n (IntKind.wrap .i64 (z+1)))) 1]) (mkD [DO.rn RK.byte (S v f (List.take b.length b++List.take 1 (List.drop 0 [UInt8.ofNat (Int.toNat (↑(UInt8.toNat (List.getD v (Int.toNat (IntKind.wrap .i64 (f+z))) 0)):Int))])) n (IntKind.wrap .i64 (z+1))) 5] 0)).ev) none) none) none) none) none) none) none) (cond (Nat.ble b.length b.length) (cond (roomFor (List.length b+1) 1) (cond (decide (List.length b+1=List.length (List.take b.length b++List.take 1 (List.drop 0 [UInt8.ofNat 0])))&&(decide (List.length b+1=List.length b+1)&&true)) (cond (decide (Int.toNat n-Int.toNat (IntKind.wrap .i64 (z+1))<m)) (cond (Nat.beq (List.length b+1) (List.length (List.take b.length b++List.take 1 (List.drop 0 [UInt8.ofNat 0])))&&P v f (List.take b.length b++List.take 1 (List.drop 0 [UInt8.ofNat 0])) n (IntKind.wrap .i64 (z+1))) ((k1 (envZ [7] [DV.ns 0 (List.length (S v f (List.take b.length b++List.take 1 (List.drop 0 [UInt8.ofNat 0])) n (IntKind.wrap .i64 (z+1)))) 1]) (mkD [DO.rn RK.byte (S v f (List.take b.length b++List.take 1 (List.drop 0 [UInt8.ofNat 0])) n (IntKind.wrap .i64 (z+1))) 5] 0)).ev) none) none) none) none) none)) (cond (Nat.ble b.length b.length) (cond (roomFor (List.length b+1) 1) (cond (decide (List.length b+1=List.length (List.take b.length b++List.take 1 (List.drop 0 [UInt8.ofNat 0])))&&(decide (List.length b+1=List.length b+1)&&true)) (cond (decide (Int.toNat n-Int.toNat (IntKind.wrap .i64 (z+1))<m)) (cond (Nat.beq (List.length b+1) (List.length (List.take b.length b++List.take 1 (List.drop 0 [UInt8.ofNat 0])))&&P v f (List.take b.length b++List.take 1 (List.drop 0 [UInt8.ofNat 0])) n (IntKind.wrap .i64 (z+1))) ((k1 (envZ [7] [DV.ns 0 (List.length (S v f (List.take b.length b++List.take 1 (List.drop 0 [UInt8.ofNat 0])) n (IntKind.wrap .i64 (z+1)))) 1]) (mkD [DO.rn RK.byte (S v f (List.take b.length b++List.take 1 (List.drop 0 [UInt8.ofNat 0])) n (IntKind.wrap .i64 (z+1))) 5] 0)).ev) none) none) none) none) none)) ((k1 (envZ [7] [DV.ns 0 b.length 1]) (mkD [DO.rn RK.byte b 5] 0)).ev):=by kernel_rfl
def XaD (s:Txt):Nat->Nat
  |0=>0
  |n+1=>cond (decide (((s.getD n 0).toNat:Int)=0)) (XaD s n) (n+1)
def trimS (s:Txt):Txt:=s.take (XaD s s.length)
theorem Xii (s:Txt):∀ n,XaD s n<=n
  |0=>Nat.le_refl _
  |n+1=>by
    have:=Xii s n
    unfold XaD
    cases decide (((s.getD n 0).toNat:Int)=0)
    . exact Nat.le_refl _
    . exact Nat.le_succ_of_le this
theorem XeJ (s:Txt)(n:Nat):∀ m,m<=n->XaD (s.take n) m=XaD s m
  |0,_=>rfl
  |m+1,h=>by
    unfold XaD
    have e:(s.take n).getD m 0=s.getD m 0:=by
      rw[List.getD_eq_getElem?_getD,List.getD_eq_getElem?_getD,List.getElem?_take,if_pos (by omega)]
    rw[e,XeJ s n m (by omega)]
def P184 (s:Txt)(c:Int):Bool:=decide (c=0/\s.length<9223372036854775808)
def S184 (s:Txt)(c:Int):Txt:=trimS s
theorem Xo0 (s : Txt) (c : Int) (rd k1 : R.EK) (y : List (Nat × R.EK)) (w : R.DV × R.DH) (hp : P184 s c = true) (hw : (k1 (envZ [0] [R.DV.str (S184 s c)]) (mkD [] 0)).ev = some w) :
    (YR CB YB0 (fun _=>none) 100 23 0 0 b184 (Xg2 P184 S184) s.length [.str s,.int .u8 c] [] rd k1 y).ev=some w:=by
  unfold P184 at hp;rw[decide_eq_true_eq] at hp;obtain⟨rfl,p2⟩:=hp;rw[Xos];unfold S184 trimS at hw
  by_cases h1:0<(s.length:Int)
  . obtain⟨n,hn⟩:∃ n:Nat,s.length=n+1:=⟨s.length-1,by omega⟩
    have e1:IntKind.wrap .i64 ((s.length:Int)-1)=(n:Int):=by rw[show (s.length:Int)-1=(n:Int) by omega]; exact wrap_i64 (by omega) (by omega)
    rw[cT h1,e1,cA (by omega) (by omega),Int.toNat_natCast]
    rw[hn] at hw
    have hl:(s.take n).length=n:=by rw[List.length_take]; omega
    by_cases h2:((s.getD n 0).toNat:Int)=0
    . have hP:P184 (s.take n) 0=true:=by unfold P184; rw[decide_eq_true_eq]; omega
      rw[cT h2,cA (by omega) (by omega),cT (by omega),hP]
      rw[show XaD s (n+1)=XaD s n by unfold XaD; rw[decide_eq_true h2]; cases n<;>rfl] at hw
      have e2:S184 (s.take n) 0=s.take (XaD s n):=by
        unfold S184 trimS;rw[hl,XeJ s n n (Nat.le_refl _),List.take_take,Nat.min_eq_left (Xii s n)]
      rw[e2];exact hw
    . rw[cF h2]
      rw[show XaD s (n+1)=n+1 by unfold XaD; rw[decide_eq_false h2]; rfl,List.take_of_length_le (by omega)] at hw
      exact hw
  . rw[cF h1]
    have h0:s=[]:=List.eq_nil_of_length_eq_zero (by omega)
    subst h0;exact hw
theorem Xpx {n:Nat} (hn:100<=n):XQ CB.G 0 (XF X4 CB.O CB.tab n) n 100 23 0 b184 (Xg2 P184 S184):=by
  refine ZJ CB YB0 (lh:=fun _=>none) hn ?_ (fun p _ ld h=>by cases h) ?_
  . exact XP _ none (Zw (f:=184) rfl) (0,b184) (by rw[show X8 none c184.body=[(0,b184)] from rfl]; exact List.mem_cons_self)
  intro vs ao m t hs rd k1 y w hw;unfold Xg2 at hs
  simp only at hs
  split at hs
  case h_2=>cases hs
  cases hs;have hp:=YG hw;exact Xo0 _ _ _ _ _ _ hp.1 hp.2
def tabF (g:Nat->UInt8):Nat->Nat->Txt
  |_,0=>[]
  |z,k+1=>g z::tabF g (z+1) k
theorem Xim (g:Nat->UInt8):∀ k z,(tabF g z k).length=k
  |0,_=>rfl
  |k+1,z=>by show (tabF g (z+1) k).length+1=_; rw[Xim g k]
theorem Xlk (g:Nat->UInt8)(z k:Nat)(h:z<k):tabF g z (k-z)=g z::tabF g (z+1) (k-(z+1)):=by
  obtain⟨n,hn⟩:∃ n,k-z=n+1:=⟨k-z-1,by omega⟩
  rw[hn,show k-(z+1)=n by omega]; rfl
theorem Xmn (g:Nat->UInt8)(z k:Nat)(h:¬ z<k):tabF g z (k-z)=[]:=by
  rw[show k-z=0 by omega]; rfl
theorem Xmb (x:UInt8):UInt8.ofNat (Int.toNat (↑(UInt8.toNat x):Int))=x:=by rw[Int.toNat_natCast,UInt8.ofNat_toNat]
theorem u_lt (x:UInt8):decide ((↑(UInt8.toNat x):Int)<256)=true:=decide_eq_true (by have:=x.toNat_lt; omega)
theorem XiN {s:Txt}{i:Nat} (h:s.length<=i):s.getD i 0=0:=by
  rw[List.getD_eq_getElem?_getD,List.getElem?_eq_none h]; rfl
theorem Xqw {n:Nat} (h:n<9999):roomFor n 1=true:=by
  unfold roomFor;rw[Bool.and_eq_true]
  exact⟨Nat.ble_eq_true_of_le (by omega),Nat.ble_eq_true_of_le (by omega)⟩
def P139 (v:Txt)(f:Int)(b:Txt)(n z:Int):Bool:=decide (0<=f/\0<=z/\z<=n/\n<=64/\b.length<=z/\v.length<4611686018427387904)
def S139 (v:Txt)(f:Int)(b:Txt)(n z:Int):Txt:=b++tabF (fun i=>v.getD (f.toNat+i) 0) z.toNat (n.toNat-z.toNat)
theorem Xo1 (v : Txt) (f : Int) (b : Txt) (n z : Int) (rd k1 : R.EK) (y : List (Nat × R.EK)) (w : R.DV × R.DH) (hp : P139 v f b n z = true) (hw : (k1 (envZ [7] [R.DV.ns 0 (S139 v f b n z).length 1]) (mkD [DO.rn RK.byte (S139 v f b n z) 5] 0)).ev = some w) :
    (YR CB YB0 (fun _=>none) 100 43 0 0 b139 (Xg3 P139 S139) (n.toNat-z.toNat) [.str v,.int .i64 f,.ns 0 b.length 1,.int .i64 n,.int .i64 z] [.rn .byte b 5] rd k1 y).ev=some w:=by
  unfold P139 at hp;rw[decide_eq_true_eq] at hp;obtain⟨p0,p1,p2,p3,p4,p5⟩:=hp;rw[Xot]
  by_cases h1:z<n
  . have ez:(z+1).toNat=z.toNat+1:=by omega
    have hP:∀ x:UInt8,P139 v f (b++[x]) n (z+1)=true:=fun x=>by
      unfold P139; rw[decide_eq_true_eq,List.length_append]
      exact⟨p0,by omega,by omega,p3,by rw[List.length_singleton]; omega,p5⟩
    have eS:S139 v f b n z=S139 v f (b++[v.getD (f.toNat+z.toNat) 0]) n (z+1):=by
      unfold S139;rw[Xlk _ _ _ (by omega),ez,List.append_assoc]; rfl
    have hm:decide (n.toNat-(z+1).toNat<n.toNat-z.toNat)=true:=decide_eq_true (by omega)
    have r1:roomFor (b.length+1) 1=true:=Xqw (by omega)
    have nz:IntKind.wrap .i64 (z+1)=z+1:=wrap_i64 (by omega) (by omega)
    have lb:Nat.ble b.length b.length=true:=Nat.ble_eq_true_of_le (Nat.le_refl _)
    have bb:Nat.beq (b.length+1) (b.length+1)=true:=Nat.beq_refl _
    have db:decide (b.length+1=b.length+1)=true:=decide_eq_true rfl
    rw[eS] at hw;rw[cT h1,nz]
    by_cases h2:f<v.length
    . rw[cT h2,wrap_i64 (z:=(v.length:Int)-f) (by omega) (by omega)]
      by_cases h3:z<(v.length:Int)-f
      . have e1:IntKind.wrap .i64 (f+z)=f+z:=wrap_i64 (by omega) (by omega)
        have e2:(f+z).toNat=f.toNat+z.toNat:=by omega
        rw[cT h3,e1,cA (by omega) (by omega),e2]
        simp only[Xmb,u_lt,List.drop_zero,List.take_succ_cons,List.take_zero,List.take_length,List.length_append,List.length_cons,List.length_nil,Nat.zero_add,lb,bb,db,r1,hm,hP,Bool.and_true,Bool.true_and,Bool.and_self,cond_true];exact hw
      . have e3:v.getD (f.toNat+z.toNat) 0=0:=XiN (by omega)
        rw[e3] at hw;rw[cF h3]
        have e0:(UInt8.ofNat 0)=0:=rfl
        simp only[e0,Xmb,u_lt,List.drop_zero,List.take_succ_cons,List.take_zero,List.take_length,List.length_append,List.length_cons,List.length_nil,Nat.zero_add,lb,bb,db,r1,hm,hP,Bool.and_true,Bool.true_and,Bool.and_self,cond_true];exact hw
    . have e3:v.getD (f.toNat+z.toNat) 0=0:=XiN (by omega)
      rw[e3] at hw;rw[cF h2]
      have e0:(UInt8.ofNat 0)=0:=rfl
      simp only[e0,Xmb,u_lt,List.drop_zero,List.take_succ_cons,List.take_zero,List.take_length,List.length_append,List.length_cons,List.length_nil,Nat.zero_add,lb,bb,db,r1,hm,hP,Bool.and_true,Bool.true_and,Bool.and_self,cond_true];exact hw
  . rw[cF h1]
    have eS:S139 v f b n z=b:=by
      unfold S139;rw[Xmn _ _ _ (by omega),List.append_nil]
    rw[eS] at hw;exact hw
theorem Xpy {n:Nat} (hn:100<=n):XQ CB.G 0 (XF X4 CB.O CB.tab n) n 100 43 0 b139 (Xg3 P139 S139):=by
  refine ZJ CB YB0 (lh:=fun _=>none) hn ?_ (fun p _ ld h=>by cases h) ?_
  . exact XP _ none (Zw (f:=139) rfl) (0,b139) (by rw[show X8 none c139.body=[(0,b139)] from rfl]; exact List.mem_cons_self)
  intro vs ao m t hs rd k1 y w hw;unfold Xg3 at hs
  simp only at hs
  split at hs
  case h_2=>cases hs
  cases hs;have hp:=YG hw;obtain⟨h1,h2⟩:=hp;rw[Bool.and_eq_true] at h1;have h3:=Nat.eq_of_beq_eq_true h1.1;subst h3;exact Xo1 _ _ _ _ _ _ _ _ _ h1.2 h2
theorem XeI (s:Txt):(trimS s).length<=s.length:=by
  unfold trimS;rw[List.length_take]; exact Nat.min_le_right _ _
def outT (ts:Txt->Txt)(s:Txt):RD:=.need (decide (s.length<100)) (.v (.str (ts s)) [])
theorem Xrx (P:Txt->Int->Bool)(S:Txt->Int->Txt)(s:Txt):runD CB YB0 (lhX (Xg2 P S)) 100 c184 [.str s,.int .u8 0] [] =
    cond (decide (List.length s<100)) (cond (P s 0) (some (R.DV.str (S s 0),(mkD [] 0))) none) none:=by kernel_rfl
theorem Xsy (s:Txt):Xw CB.G CB.O CB.tab 184 101 [] [.str s,.int .u8 (.ofNat 0)] (outT trimS s):=by
  refine Yy CB YB0 (lhX (Xg2 P184 S184)) rfl rfl (fun n hn=>WF (Q:=fun i b ld=>XQ CB.G 0 (XF X4 CB.O CB.tab n) n 100 23 i b ld) rfl (Xpx hn)) fun z hz=>?_
  obtain⟨hp,hz⟩:=R.XB hz;have hp:=of_decide_eq_true hp;refine (Xrx P184 S184 s).trans ?_
  have h1:P184 s 0=true:=by unfold P184; rw[decide_eq_true_eq]; omega
  rw[h1,cT hp];exact hz
theorem Xrz (P:Txt->Int->Txt->Int->Int->Bool)(S:Txt->Int->Txt->Int->Int->Txt)(v:Txt)(f n:Int):runD CB YB0 (lhX (Xg3 P S)) 100 c139 [.str v,.int .i64 f,.int .i64 n] [] =
    cond (decide (Int.toNat (if true=true then if (if false=true then if 64 > n then 64 else n else if 64<n then 64 else n) > 0 then if false=true then if 64 > n then 64 else n else if 64<n then 64 else n else 0 else if (if false=true then if 64 > n then 64 else n else if 64<n then 64 else n)<0 then if false=true then if 64 > n then 64 else n else if 64<n then 64 else n else 0)-0<100)) (cond (P v (if true=true then if f > 0 then f else 0 else if f<0 then f else 0) [] (if true=true then if (if false=true then if 64 > n then 64 else n else if 64<n then 64 else n) > 0 then if false=true then if 64 > n then 64 else n else if 64<n then 64 else n else 0 else if (if false=true then if 64 > n then 64 else n else if 64<n then 64 else n)<0 then if false=true then if 64 > n then 64 else n else if 64<n then 64 else n else 0) 0) (cond (Nat.ble (List.length (S v (if true=true then if f > 0 then f else 0 else if f<0 then f else 0) [] (if true=true then if (if false=true then if 64 > n then 64 else n else if 64<n then 64 else n) > 0 then if false=true then if 64 > n then 64 else n else if 64<n then 64 else n else 0 else if (if false=true then if 64 > n then 64 else n else if 64<n then 64 else n)<0 then if false=true then if 64 > n then 64 else n else if 64<n then 64 else n else 0) 0)) (List.length (S v (if true=true then if f > 0 then f else 0 else if f<0 then f else 0) [] (if true=true then if (if false=true then if 64 > n then 64 else n else if 64<n then 64 else n) > 0 then if false=true then if 64 > n then 64 else n else if 64<n then 64 else n else 0 else if (if false=true then if 64 > n then 64 else n else if 64<n then 64 else n)<0 then if false=true then if 64 > n then 64 else n else if 64<n then 64 else n else 0) 0))) (some (R.DV.str (List.take (List.length (S v (if true=true then if f > 0 then f else 0 else if f<0 then f else 0) [] (if true=true then if (if false=true then if 64 > n then 64 else n else if 64<n then 64 else n) > 0 then if false=true then if 64 > n then 64 else n else if 64<n then 64 else n else 0 else if (if false=true then if 64 > n then 64 else n else if 64<n then 64 else n)<0 then if false=true then if 64 > n then 64 else n else if 64<n then 64 else n else 0) 0)) (S v (if true=true then if f > 0 then f else 0 else if f<0 then f else 0) [] (if true=true then if (if false=true then if 64 > n then 64 else n else if 64<n then 64 else n) > 0 then if false=true then if 64 > n then 64 else n else if 64<n then 64 else n else 0 else if (if false=true then if 64 > n then 64 else n else if 64<n then 64 else n)<0 then if false=true then if 64 > n then 64 else n else if 64<n then 64 else n else 0) 0)),(mkD [] 0))) none) none) none:=by kernel_rfl
def okAt (v:Txt)(f n:Int):Bool:=decide (0<=f/\0<=n/\n<=64/\v.length<4611686018427387904)
def atS (v:Txt)(f n:Int):Txt:=tabF (fun i=>v.getD (f.toNat+i) 0) 0 n.toNat
def Xq1 (at':Txt->Int->Int->Txt)(v:Txt)(f n:Int):RD:=.need (okAt v f n) (.v (.str (at' v f n)) [])
theorem Xs7 (v:Txt)(f n:Int):Xw CB.G CB.O CB.tab 139 101 [] [.str v,.int .i64 f,.int .i64 n] (Xq1 atS v f n):=by
  refine Yy CB YB0 (lhX (Xg3 P139 S139)) rfl rfl (fun n hn=>WF (Q:=fun i b ld=>XQ CB.G 0 (XF X4 CB.O CB.tab n) n 100 43 i b ld) rfl (Xpy hn)) fun z hz=>?_
  obtain⟨hp,hz⟩:=R.XB hz;unfold okAt at hp;rw[decide_eq_true_eq] at hp;obtain⟨p0,p1,p2,p3⟩:=hp;refine (Xrz P139 S139 v f n).trans ?_
  have e1:(if f > 0 then f else 0)=f:=by split<;>omega
  have e2:(if 64<n then 64 else n)=n:=by split<;>omega
  have e3:(if n > 0 then n else 0)=n:=by split<;>omega
  simp only[if_true,if_false,Bool.false_eq_true,e1,e2,e3]
  have h1:P139 v f [] n 0=true:=by
    unfold P139; rw[decide_eq_true_eq]
    exact⟨p0,by omega,p1,p2,Int.le_refl 0,p3⟩
  have eS:S139 v f [] n 0=atS v f n:=rfl
  have lb:∀ x:Txt,Nat.ble x.length x.length=true:=fun x=>Nat.ble_eq_true_of_le (Nat.le_refl _)
  rw[h1,cT (by omega),eS]
  simp only[lb,Nat.beq_refl,Bool.and_true,cond_true,List.take_length];exact hz
def Xny (ts:Txt->Txt):List R.DV->List R.DO->Option RD:=fun l ao=>match l,ao with
  |[.str s,.int .u8 (.ofNat 0)],[]=>some (outT ts s)
  |_,_=>none
def gAt (at':Txt->Int->Int->Txt):List R.DV->List R.DO->Option RD:=fun l ao=>match l,ao with
  |[.str v,.int .i64 f,.int .i64 n],[]=>some (Xq1 at' v f n)
  |_,_=>none
theorem Xnx (ts:Txt->Txt)(h:ts=trimS)(l:List R.DV)(ao:List R.DO)(out:RD)(hg:Xny ts l ao=some out):Xw CB.G CB.O CB.tab 184 101 ao l out:=by
  subst h;unfold Xny at hg;split at hg
  . cases hg; exact Xsy _
  . cases hg
theorem XsJ (at':Txt->Int->Int->Txt)(h:at'=atS)(l:List R.DV)(ao:List R.DO)(out:RD)(hg:gAt at' l ao=some out):Xw CB.G CB.O CB.tab 139 101 ao l out:=by
  subst h;unfold gAt at hg;split at hg
  . cases hg; exact Xs7 _ _ _
  . cases hg
def buf (x:Txt)(k:Nat):List R.DV:=x.map bD++List.replicate k R.DV.bot
theorem XnV (n:Nat):List.replicate n R.DV.bot=buf [] n:=rfl
theorem Xqj (x:Txt)(k:Nat):(buf x k).length=x.length+k:=by simp[buf]
theorem Xhg {x y:Txt}{k:Nat} (h:y.length<=k):R.ovrD (buf x k) x.length (y.map bD)=buf (x++y) (k-y.length):=by
  unfold R.ovrD buf
  have e1:(x.map bD++List.replicate k R.DV.bot).take x.length=x.map bD:=by
    rw[List.take_append_of_le_length (by simp),List.take_of_length_le (by simp)]
  have e2:(x.map bD++List.replicate k R.DV.bot).drop (x.length+(y.map bD).length)=List.replicate (k-y.length) R.DV.bot:=by
    rw[List.drop_append,List.drop_eq_nil_of_le (by simp),List.nil_append,List.length_map,List.length_map,Nat.add_sub_cancel_left,List.drop_replicate]
  rw[e1,e2,List.map_append]
theorem Xph (x:Txt)(k i:Nat):R.ovrD (buf x k) i (([]:Txt).map bD)=buf x k:=by
  unfold R.ovrD
  simp
theorem Xqk (x:Txt)(k:Nat):(buf x k).take x.length=x.map bD:=by
  unfold buf;rw[List.take_append_of_le_length (by simp),List.take_of_length_le (by simp)]
theorem Xry (a b c:Txt):runD CB YB0 (fun _=>none) 110 c162 [.sl 0 0 3 3 1 true,.str []] [.c [.str a,.str b,.str c] false 9] =
    cond (decide (9223372036854775807<(↑a.length:Int))) (none) (cond (decide (IntKind.wrap .i64 (9223372036854775807-IntKind.wrap .i64 (0+(↑a.length:Int)))<(↑b.length:Int))) (none) (cond (decide (IntKind.wrap .i64 (9223372036854775807-IntKind.wrap .i64 (IntKind.wrap .i64 (0+(↑a.length:Int))+(↑b.length:Int)))<(↑c.length:Int))) (none) (cond (decide (IntKind.wrap .i64 (IntKind.wrap .i64 (IntKind.wrap .i64 (0+(↑a.length:Int))+(↑b.length:Int))+(↑c.length:Int))<0)) (none) (cond (decide (0<IntKind.wrap .i64 (IntKind.wrap .i64 (IntKind.wrap .i64 (0+(↑a.length:Int))+(↑b.length:Int))+(↑c.length:Int)))) (cond (decide (0<=IntKind.wrap .i64 (0+IntKind.wrap .i64 (IntKind.wrap .i64 (IntKind.wrap .i64 (0+(↑a.length:Int))+(↑b.length:Int))+(↑c.length:Int))))&&decide (IntKind.wrap .i64 (0+IntKind.wrap .i64 (IntKind.wrap .i64 (IntKind.wrap .i64 (0+(↑a.length:Int))+(↑b.length:Int))+(↑c.length:Int)))<=16777216)) (cond (decide (Int.toNat (IntKind.wrap .i64 (0+IntKind.wrap .i64 (IntKind.wrap .i64 (IntKind.wrap .i64 (0+(↑a.length:Int))+(↑b.length:Int))+(↑c.length:Int))))<=Int.toNat (IntKind.wrap .i64 (0+IntKind.wrap .i64 (IntKind.wrap .i64 (IntKind.wrap .i64 (0+(↑a.length:Int))+(↑b.length:Int))+(↑c.length:Int)))))&&true) (cond (decide (0+List.length a<=Int.toNat (IntKind.wrap .i64 (0+IntKind.wrap .i64 (IntKind.wrap .i64 (IntKind.wrap .i64 (0+(↑a.length:Int))+(↑b.length:Int))+(↑c.length:Int))))-0)&&decide (0+List.length a<=List.length (List.replicate (Int.toNat (IntKind.wrap .i64 (0+IntKind.wrap .i64 (IntKind.wrap .i64 (IntKind.wrap .i64 (0+(↑a.length:Int))+(↑b.length:Int))+(↑c.length:Int))))) R.DV.bot))) (cond (decide (0+List.length a+0<=Int.toNat (IntKind.wrap .i64 (0+IntKind.wrap .i64 (IntKind.wrap .i64 (IntKind.wrap .i64 (0+(↑a.length:Int))+(↑b.length:Int))+(↑c.length:Int))))-0)&&decide (0+(0+List.length a)+0<=List.length (R.ovrD (List.replicate (Int.toNat (IntKind.wrap .i64 (0+IntKind.wrap .i64 (IntKind.wrap .i64 (IntKind.wrap .i64 (0+(↑a.length:Int))+(↑b.length:Int))+(↑c.length:Int))))) R.DV.bot) 0 (List.map bD a)))) (cond (decide (0+List.length a+0+List.length b<=Int.toNat (IntKind.wrap .i64 (0+IntKind.wrap .i64 (IntKind.wrap .i64 (IntKind.wrap .i64 (0+(↑a.length:Int))+(↑b.length:Int))+(↑c.length:Int))))-0)&&decide (0+(0+List.length a+0)+List.length b<=List.length (R.ovrD (R.ovrD (List.replicate (Int.toNat (IntKind.wrap .i64 (0+IntKind.wrap .i64 (IntKind.wrap .i64 (IntKind.wrap .i64 (0+(↑a.length:Int))+(↑b.length:Int))+(↑c.length:Int))))) R.DV.bot) 0 (List.map bD a)) (0+(0+List.length a)) (List.map bD [])))) (cond (decide (0+List.length a+0+List.length b+0<=Int.toNat (IntKind.wrap .i64 (0+IntKind.wrap .i64 (IntKind.wrap .i64 (IntKind.wrap .i64 (0+(↑a.length:Int))+(↑b.length:Int))+(↑c.length:Int))))-0)&&decide (0+(0+List.length a+0+List.length b)+0<=List.length (R.ovrD (R.ovrD (R.ovrD (List.replicate (Int.toNat (IntKind.wrap .i64 (0+IntKind.wrap .i64 (IntKind.wrap .i64 (IntKind.wrap .i64 (0+(↑a.length:Int))+(↑b.length:Int))+(↑c.length:Int))))) R.DV.bot) 0 (List.map bD a)) (0+(0+List.length a)) (List.map bD [])) (0+(0+List.length a+0)) (List.map bD b)))) (cond (decide (0+List.length a+0+List.length b+0+List.length c<=Int.toNat (IntKind.wrap .i64 (0+IntKind.wrap .i64 (IntKind.wrap .i64 (IntKind.wrap .i64 (0+(↑a.length:Int))+(↑b.length:Int))+(↑c.length:Int))))-0)&&decide (0+(0+List.length a+0+List.length b+0)+List.length c<=List.length (R.ovrD (R.ovrD (R.ovrD (R.ovrD (List.replicate (Int.toNat (IntKind.wrap .i64 (0+IntKind.wrap .i64 (IntKind.wrap .i64 (IntKind.wrap .i64 (0+(↑a.length:Int))+(↑b.length:Int))+(↑c.length:Int))))) R.DV.bot) 0 (List.map bD a)) (0+(0+List.length a)) (List.map bD [])) (0+(0+List.length a+0)) (List.map bD b)) (0+(0+List.length a+0+List.length b)) (List.map bD [])))) (cond (decide (Int.toNat (IntKind.wrap .i64 (0+IntKind.wrap .i64 (IntKind.wrap .i64 (IntKind.wrap .i64 (0+(↑a.length:Int))+(↑b.length:Int))+(↑c.length:Int))))-0 ≠ 0)) (cond (decide (Int.toNat (↑(0+List.length a+0+List.length b+0+List.length c):Int)=0)) (some (R.DV.str [],(mkD [R.DO.c [R.DV.str a,R.DV.str b,R.DV.str c] false 9] 1))) (cond (decide (0+Int.toNat (↑(0+List.length a+0+List.length b+0+List.length c):Int)<=List.length (R.ovrD (R.ovrD (R.ovrD (R.ovrD (R.ovrD (List.replicate (Int.toNat (IntKind.wrap .i64 (0+IntKind.wrap .i64 (IntKind.wrap .i64 (IntKind.wrap .i64 (0+(↑a.length:Int))+(↑b.length:Int))+(↑c.length:Int))))) R.DV.bot) 0 (List.map bD a)) (0+(0+List.length a)) (List.map bD [])) (0+(0+List.length a+0)) (List.map bD b)) (0+(0+List.length a+0+List.length b)) (List.map bD [])) (0+(0+List.length a+0+List.length b+0)) (List.map bD c)))&&(roomFor (Int.toNat (↑(0+List.length a+0+List.length b+0+List.length c):Int)) 1&&allB (List.take (Int.toNat (↑(0+List.length a+0+List.length b+0+List.length c):Int)) (List.drop 0 (R.ovrD (R.ovrD (R.ovrD (R.ovrD (R.ovrD (List.replicate (Int.toNat (IntKind.wrap .i64 (0+IntKind.wrap .i64 (IntKind.wrap .i64 (IntKind.wrap .i64 (0+(↑a.length:Int))+(↑b.length:Int))+(↑c.length:Int))))) R.DV.bot) 0 (List.map bD a)) (0+(0+List.length a)) (List.map bD [])) (0+(0+List.length a+0)) (List.map bD b)) (0+(0+List.length a+0+List.length b)) (List.map bD [])) (0+(0+List.length a+0+List.length b+0)) (List.map bD c)))))) (some (R.DV.str (ubs (List.take (Int.toNat (↑(0+List.length a+0+List.length b+0+List.length c):Int)) (List.drop 0 (R.ovrD (R.ovrD (R.ovrD (R.ovrD (R.ovrD (List.replicate (Int.toNat (IntKind.wrap .i64 (0+IntKind.wrap .i64 (IntKind.wrap .i64 (IntKind.wrap .i64 (0+(↑a.length:Int))+(↑b.length:Int))+(↑c.length:Int))))) R.DV.bot) 0 (List.map bD a)) (0+(0+List.length a)) (List.map bD [])) (0+(0+List.length a+0)) (List.map bD b)) (0+(0+List.length a+0+List.length b)) (List.map bD [])) (0+(0+List.length a+0+List.length b+0)) (List.map bD c))))),(mkD [R.DO.c [R.DV.str a,R.DV.str b,R.DV.str c] false 9] 1))) none)) none) none) none) none) none) none) none) none) (cond (decide (List.length a=0)) (cond (decide (List.length b=0)) (cond (decide (List.length c=0)) (some (R.DV.str [],(mkD [R.DO.c [R.DV.str a,R.DV.str b,R.DV.str c] false 9] 1))) (cond (roomFor c.length 1) (none) none)) (cond (roomFor b.length 1) (cond (decide (List.length b+0<=List.length b)) (cond (decide (List.length b+List.length c<=List.length b)) (cond (decide (List.length c=0)) (none) (cond (decide (0+List.length b+List.length c<=List.length b)) (none) none)) (cond (roomFor (List.length b+List.length c) 1&&decide (0+List.length b<=List.length b)) (none) none)) (cond (roomFor (List.length b+0) 1&&decide (0+List.length b<=List.length b)) (cond (decide (List.length b+0+List.length c<=List.length b+0)) (cond (decide (List.length c=0)) (none) (cond (decide (0+(List.length b+0)+List.length c<=List.length (List.take b.length (List.drop 0 b)++[]))) (none) none)) (cond (roomFor (List.length b+0+List.length c) 1&&decide (0+(List.length b+0)<=List.length (List.take b.length (List.drop 0 b)++[]))) (none) none)) none)) none)) (cond (roomFor a.length 1) (cond (decide (List.length a+0<=List.length a)) (cond (decide (List.length a+List.length b<=List.length a)) (cond (decide (List.length b=0)) (cond (decide (List.length a+0<=List.length a)) (cond (decide (List.length a+List.length c<=List.length a)) (cond (decide (List.length c=0)) (none) (cond (decide (0+List.length a+List.length c<=List.length a)) (none) none)) (cond (roomFor (List.length a+List.length c) 1&&decide (0+List.length a<=List.length a)) (none) none)) (cond (roomFor (List.length a+0) 1&&decide (0+List.length a<=List.length a)) (cond (decide (List.length a+0+List.length c<=List.length a+0)) (cond (decide (List.length c=0)) (none) (cond (decide (0+(List.length a+0)+List.length c<=List.length (List.take a.length (List.drop 0 a)++[]))) (none) none)) (cond (roomFor (List.length a+0+List.length c) 1&&decide (0+(List.length a+0)<=List.length (List.take a.length (List.drop 0 a)++[]))) (none) none)) none)) (cond (decide (0+List.length a+List.length b<=List.length a)) (cond (decide (List.length a+List.length b+0<=List.length a)) (cond (decide (List.length a+List.length b+List.length c<=List.length a)) (cond (decide (List.length c=0)) (none) (cond (decide (0+(List.length a+List.length b)+List.length c<=List.length (List.take (0+List.length a) a++b++List.drop (0+List.length a+List.length b) a))) (none) none)) (cond (roomFor (List.length a+List.length b+List.length c) 1&&decide (0+(List.length a+List.length b)<=List.length (List.take (0+List.length a) a++b++List.drop (0+List.length a+List.length b) a))) (none) none)) (cond (roomFor (List.length a+List.length b+0) 1&&decide (0+(List.length a+List.length b)<=List.length (List.take (0+List.length a) a++b++List.drop (0+List.length a+List.length b) a))) (cond (decide (List.length a+List.length b+0+List.length c<=List.length a+List.length b+0)) (cond (decide (List.length c=0)) (none) (cond (decide (0+(List.length a+List.length b+0)+List.length c<=List.length (List.take (List.length a+List.length b) (List.drop 0 (List.take (0+List.length a) a++b++List.drop (0+List.length a+List.length b) a))++[]))) (none) none)) (cond (roomFor (List.length a+List.length b+0+List.length c) 1&&decide (0+(List.length a+List.length b+0)<=List.length (List.take (List.length a+List.length b) (List.drop 0 (List.take (0+List.length a) a++b++List.drop (0+List.length a+List.length b) a))++[]))) (none) none)) none)) none)) (cond (roomFor (List.length a+List.length b) 1&&decide (0+List.length a<=List.length a)) (cond (decide (List.length a+List.length b+0<=List.length a+List.length b)) (cond (decide (List.length a+List.length b+List.length c<=List.length a+List.length b)) (cond (decide (List.length c=0)) (none) (cond (decide (0+(List.length a+List.length b)+List.length c<=List.length (List.take a.length (List.drop 0 a)++b))) (none) none)) (cond (roomFor (List.length a+List.length b+List.length c) 1&&decide (0+(List.length a+List.length b)<=List.length (List.take a.length (List.drop 0 a)++b))) (none) none)) (cond (roomFor (List.length a+List.length b+0) 1&&decide (0+(List.length a+List.length b)<=List.length (List.take a.length (List.drop 0 a)++b))) (cond (decide (List.length a+List.length b+0+List.length c<=List.length a+List.length b+0)) (cond (decide (List.length c=0)) (none) (cond (decide (0+(List.length a+List.length b+0)+List.length c<=List.length (List.take (List.length a+List.length b) (List.drop 0 (List.take a.length (List.drop 0 a)++b))++[]))) (none) none)) (cond (roomFor (List.length a+List.length b+0+List.length c) 1&&decide (0+(List.length a+List.length b+0)<=List.length (List.take (List.length a+List.length b) (List.drop 0 (List.take a.length (List.drop 0 a)++b))++[]))) (none) none)) none)) none)) (cond (roomFor (List.length a+0) 1&&decide (0+List.length a<=List.length a)) (cond (decide (List.length a+0+List.length b<=List.length a+0)) (cond (decide (List.length b=0)) (cond (decide (List.length a+0+0<=List.length a+0)) (cond (decide (List.length a+0+List.length c<=List.length a+0)) (cond (decide (List.length c=0)) (none) (cond (decide (0+(List.length a+0)+List.length c<=List.length (List.take a.length (List.drop 0 a)++[]))) (none) none)) (cond (roomFor (List.length a+0+List.length c) 1&&decide (0+(List.length a+0)<=List.length (List.take a.length (List.drop 0 a)++[]))) (none) none)) (cond (roomFor (List.length a+0+0) 1&&decide (0+(List.length a+0)<=List.length (List.take a.length (List.drop 0 a)++[]))) (cond (decide (List.length a+0+0+List.length c<=List.length a+0+0)) (cond (decide (List.length c=0)) (none) (cond (decide (0+(List.length a+0+0)+List.length c<=List.length (List.take (List.length a+0) (List.drop 0 (List.take a.length (List.drop 0 a)++[]))++[]))) (none) none)) (cond (roomFor (List.length a+0+0+List.length c) 1&&decide (0+(List.length a+0+0)<=List.length (List.take (List.length a+0) (List.drop 0 (List.take a.length (List.drop 0 a)++[]))++[]))) (none) none)) none)) (cond (decide (0+(List.length a+0)+List.length b<=List.length (List.take a.length (List.drop 0 a)++[]))) (cond (decide (List.length a+0+List.length b+0<=List.length a+0)) (cond (decide (List.length a+0+List.length b+List.length c<=List.length a+0)) (cond (decide (List.length c=0)) (none) (cond (decide (0+(List.length a+0+List.length b)+List.length c<=List.length (List.take (0+(List.length a+0)) (List.take a.length (List.drop 0 a)++[])++b++List.drop (0+(List.length a+0)+List.length b) (List.take a.length (List.drop 0 a)++[])))) (none) none)) (cond (roomFor (List.length a+0+List.length b+List.length c) 1&&decide (0+(List.length a+0+List.length b)<=List.length (List.take (0+(List.length a+0)) (List.take a.length (List.drop 0 a)++[])++b++List.drop (0+(List.length a+0)+List.length b) (List.take a.length (List.drop 0 a)++[])))) (none) none)) (cond (roomFor (List.length a+0+List.length b+0) 1&&decide (0+(List.length a+0+List.length b)<=List.length (List.take (0+(List.length a+0)) (List.take a.length (List.drop 0 a)++[])++b++List.drop (0+(List.length a+0)+List.length b) (List.take a.length (List.drop 0 a)++[])))) (cond (decide (List.length a+0+List.length b+0+List.length c<=List.length a+0+List.length b+0)) (cond (decide (List.length c=0)) (none) (cond (decide (0+(List.length a+0+List.length b+0)+List.length c<=List.length (List.take (List.length a+0+List.length b) (List.drop 0 (List.take (0+(List.length a+0)) (List.take a.length (List.drop 0 a)++[])++b++List.drop (0+(List.length a+0)+List.length b) (List.take a.length (List.drop 0 a)++[])))++[]))) (none) none)) (cond (roomFor (List.length a+0+List.length b+0+List.length c) 1&&decide (0+(List.length a+0+List.length b+0)<=List.length (List.take (List.length a+0+List.length b) (List.drop 0 (List.take (0+(List.length a+0)) (List.take a.length (List.drop 0 a)++[])++b++List.drop (0+(List.length a+0)+List.length b) (List.take a.length (List.drop 0 a)++[])))++[]))) (none) none)) none)) none)) (cond (roomFor (List.length a+0+List.length b) 1&&decide (0+(List.length a+0)<=List.length (List.take a.length (List.drop 0 a)++[]))) (cond (decide (List.length a+0+List.length b+0<=List.length a+0+List.length b)) (cond (decide (List.length a+0+List.length b+List.length c<=List.length a+0+List.length b)) (cond (decide (List.length c=0)) (none) (cond (decide (0+(List.length a+0+List.length b)+List.length c<=List.length (List.take (List.length a+0) (List.drop 0 (List.take a.length (List.drop 0 a)++[]))++b))) (none) none)) (cond (roomFor (List.length a+0+List.length b+List.length c) 1&&decide (0+(List.length a+0+List.length b)<=List.length (List.take (List.length a+0) (List.drop 0 (List.take a.length (List.drop 0 a)++[]))++b))) (none) none)) (cond (roomFor (List.length a+0+List.length b+0) 1&&decide (0+(List.length a+0+List.length b)<=List.length (List.take (List.length a+0) (List.drop 0 (List.take a.length (List.drop 0 a)++[]))++b))) (cond (decide (List.length a+0+List.length b+0+List.length c<=List.length a+0+List.length b+0)) (cond (decide (List.length c=0)) (none) (cond (decide (0+(List.length a+0+List.length b+0)+List.length c<=List.length (List.take (List.length a+0+List.length b) (List.drop 0 (List.take (List.length a+0) (List.drop 0 (List.take a.length (List.drop 0 a)++[]))++b))++[]))) (none) none)) (cond (roomFor (List.length a+0+List.length b+0+List.length c) 1&&decide (0+(List.length a+0+List.length b+0)<=List.length (List.take (List.length a+0+List.length b) (List.drop 0 (List.take (List.length a+0) (List.drop 0 (List.take a.length (List.drop 0 a)++[]))++b))++[]))) (none) none)) none)) none)) none)) none)))))):=by kernel_rfl
def XrO (a b c:Txt):RD:=.need (decide (0<b.length/\a.length+b.length+c.length<=1000)) (.v (.str (a++(b++c))) [])
theorem Xs2 (a b c:Txt):Xw CB.G CB.O CB.tab 162 111 [.c [.str a,.str b,.str c] false 9] [.sl 0 0 3 3 1 true,.str []] (XrO a b c):=by
  refine Yy CB YB0 (fun _=>none) rfl rfl (fun n hn p _ ld e=>by cases e) fun z hz=>?_
  obtain⟨hp,hz⟩:=R.XB hz;obtain⟨p1,p2⟩:=of_decide_eq_true hp;refine (Xry a b c).trans ?_
  have wI:∀ {z:Int},0<=z->z<9223372036854775808->IntKind.wrap .i64 z=z:=fun h0 h1=>wrap_i64 (by omega) (by omega)
  have w1:IntKind.wrap .i64 (0+(a.length:Int))=(a.length:Int):=by rw[Int.zero_add]; exact wI (by omega) (by omega)
  have w2:IntKind.wrap .i64 ((a.length:Int)+(b.length:Int))=((a.length+b.length:Nat):Int):=by rw[wI (by omega) (by omega)]; omega
  have w3:IntKind.wrap .i64 (((a.length+b.length:Nat):Int)+(c.length:Int))=((a.length+b.length+c.length:Nat):Int):=by rw[wI (by omega) (by omega)]; omega
  have w4:IntKind.wrap .i64 (0+((a.length+b.length+c.length:Nat):Int))=((a.length+b.length+c.length:Nat):Int):=by rw[Int.zero_add]; exact wI (by omega) (by omega)
  have w5:IntKind.wrap .i64 (9223372036854775807-(a.length:Int))=9223372036854775807-(a.length:Int):=wI (by omega) (by omega)
  have w6:IntKind.wrap .i64 (9223372036854775807-((a.length+b.length:Nat):Int))=9223372036854775807-((a.length+b.length:Nat):Int):=wI (by omega) (by omega)
  rw[w1,w2,w3,w4,w5,w6]
  have d1:decide (9223372036854775807<(a.length:Int))=false:=decide_eq_false (by omega)
  have d2:decide (9223372036854775807-(a.length:Int)<(b.length:Int))=false:=decide_eq_false (by omega)
  have d3:decide (9223372036854775807-((a.length+b.length:Nat):Int)<(c.length:Int))=false:=decide_eq_false (by omega)
  have d4:decide (((a.length+b.length+c.length:Nat):Int)<0)=false:=decide_eq_false (by omega)
  have d5:decide (0<((a.length+b.length+c.length:Nat):Int))=true:=decide_eq_true (by omega)
  have d6:decide (0<=((a.length+b.length+c.length:Nat):Int))=true:=decide_eq_true (by omega)
  have d7:decide (((a.length+b.length+c.length:Nat):Int)<=16777216)=true:=decide_eq_true (by omega)
  rw[d1,d2,d3,d4,d5,d6,d7]
  have b1:R.ovrD (buf [] (a.length+b.length+c.length)) 0 (a.map bD)=buf a (b.length+c.length):=by
    have:=Xhg (x:=[]) (y:=a) (k:=a.length+b.length+c.length) (by omega)
    rw[List.nil_append,show a.length+b.length+c.length-a.length=b.length+c.length by omega] at this
    exact this
  have b2:R.ovrD (buf a (b.length+c.length)) a.length (b.map bD)=buf (a++b) c.length:=by
    have:=Xhg (x:=a) (y:=b) (k:=b.length+c.length) (by omega)
    rwa [show b.length+c.length-b.length=c.length by omega] at this
  have b3:R.ovrD (buf (a++b) c.length) (a.length+b.length) (c.map bD)=buf (a++b++c) 0:=by
    have:=Xhg (x:=a++b) (y:=c) (k:=c.length) (Nat.le_refl _)
    rwa [Nat.sub_self,List.length_append] at this
  have b4:(buf (a++b++c) 0).take (a.length+b.length+c.length)=(a++b++c).map bD:=by
    have:=Xqk (a++b++c) 0
    rwa [List.length_append,List.length_append] at this
  have l1:(a++b++c).length=a.length+b.length+c.length:=by rw[List.length_append,List.length_append]
  have l2:(a++b).length=a.length+b.length:=List.length_append
  simp only[XnV,Nat.zero_add,Nat.add_zero,Nat.sub_zero,Int.toNat_natCast,b1,Xph,b2,b3,Xqj,l1,l2,List.drop_zero,b4,Xjg,Xor,List.length_nil]
  have g1:decide (a.length+b.length+c.length<=a.length+b.length+c.length)=true:=decide_eq_true (Nat.le_refl _)
  have g2:decide (a.length<=a.length+b.length+c.length)=true:=decide_eq_true (by omega)
  have g3:decide (a.length+b.length<=a.length+b.length+c.length)=true:=decide_eq_true (by omega)
  have g4:decide (a.length+b.length+c.length ≠ 0)=true:=decide_eq_true (by omega)
  have g5:decide (a.length+b.length+c.length=0)=false:=decide_eq_false (by omega)
  have g6:roomFor (a.length+b.length+c.length) 1=true:=Xqw (by omega)
  have g7:a.length+(b.length+c.length)=a.length+b.length+c.length:=by omega
  simp only[g7,g1,g2,g3,g4,g5,g6,Bool.and_true,Bool.and_self,cond_true,cond_false];rw[List.append_assoc];exact hz
theorem Xpa (a:Txt):runD CB YB0 (fun _=>none) 110 c162 [.sl 0 0 1 1 1 true,.str []] [.c [.str a] false 9] =
    some (R.DV.str a,(mkD [R.DO.c [R.DV.str a] false 9] 1)):=by kernel_rfl
theorem Xp6 (a:Txt):Xw CB.G CB.O CB.tab 162 111 [.c [.str a] false 9] [.sl 0 0 1 1 1 true,.str []] (.v (.str a) []):=by
  refine Yy CB YB0 (fun _=>none) rfl rfl (fun n hn p _ ld e=>by cases e) fun z hz=>?_
  exact (Xpa a).trans hz
def g162 (jn:Txt->Txt->Txt->Txt):List R.DV->List R.DO->Option RD:=fun l ao=>match l,ao with
  |[.sl 0 0 3 3 1 true,.str []],[.c [.str a,.str b,.str c] false 9]=>some (.need (decide (0<b.length/\a.length+b.length+c.length<=1000)) (.v (.str (jn a b c)) []))
  |[.sl 0 0 1 1 1 true,.str []],[.c [.str a] false 9]=>some (.v (.str a) [])
  |_,_=>none
theorem XpM (jn:Txt->Txt->Txt->Txt)(h:jn=fun a b c=>a++(b++c))(l:List R.DV)(ao:List R.DO)(out:RD)(hg:g162 jn l ao=some out):Xw CB.G CB.O CB.tab 162 111 ao l out:=by
  subst h;unfold g162 at hg;split at hg
  . cases hg; exact Xs2 _ _ _
  . cases hg; exact Xp6 _
  . cases hg
def YB1 (ts:Txt->Txt)(at':Txt->Int->Int->Txt)(jn:Txt->Txt->Txt->Txt)(h1:ts=trimS)(h2:at'=atS)(h3:jn=fun a b c=>a++(b++c)):CB.RL:=(((YB0).add 184 101 (Xny ts) (Xnx ts h1)).add 139 101 (gAt at') (XsJ at' h2)).add 162 111 (g162 jn) (XpM jn h3)
def Xa1 (v:Txt)(cu:Bool)(a n:Int)(s:Txt):Txt:=cond (pM cu a n s)
  (cond cu (trimS (atS (v.take 64) 0 n)) (trimS (atS (v.take 64) 0 a++(s++atS (v.take 64) (a+s.length) (64-(a+s.length)))))) (trimS (v.take 64))
theorem XmM {a n:Int}{s:Txt} (h:pM true a n s=true):0<=n/\n<64:=by
  unfold pM at h;simp only[cond_true,Bool.and_eq_true,decide_eq_true_eq] at h
  exact⟨h.1,h.2.1⟩
theorem XmL {a n:Int}{s:Txt} (h:pM false a n s=true):0<s.length/\s.length<=64/\0<=a/\a+s.length<=64:=by
  unfold pM at h;simp only[cond_false,Bool.and_eq_true,decide_eq_true_eq,Bool.not_eq_true',decide_eq_false_iff_not] at h;obtain⟨h1,h2,h3,h4,_⟩:=h
  have:s.length ≠ 0:=fun e=>h1 (List.eq_nil_of_length_eq_zero e)
  omega
theorem at_len (v:Txt)(f n:Int):(atS v f n).length=n.toNat:=Xim _ _ _
theorem Xme {x:Txt} (h:x=[]):trimS x=[]:=by subst h; rfl
theorem XmW {c:Bool}{x:Txt}{w:R.DH} (hc:c=true):cond (decide (x=[])) (some (R.DV.str x,w)) (cond c (some (R.DV.str (trimS x),w)) none)=some (R.DV.str (trimS x),w):=by
  by_cases h:x=[]
  . rw[decide_eq_true h,Xme h,h]; rfl
  . rw[decide_eq_false h,hc]; rfl
def outB (v:Txt)(cu:Bool)(a n:Int)(s:Txt):RD:=.need (decide (v.length<4611686018427387904)) (.v (.str (Xa1 v cu a n s)) [])
theorem Xr0 (ts:Txt->Txt)(at':Txt->Int->Int->Txt)(jn:Txt->Txt->Txt->Txt)(h1:ts=trimS)(h2:at'=atS)(h3:jn=fun a b c=>a++(b++c))(v:Txt)(cu:Bool)(a n:Int)(s:Txt) :
    runD CB (YB1 ts at' jn h1 h2 h3) (fun _=>none) 120 c103 [.str v,.agg [.bool cu,.int .i64 a,.int .i64 n,.str s]] [] =
    cond (decide (0<=if false=true then if 64 > (↑v.length:Int) then 64 else (↑v.length:Int) else if 64<(↑v.length:Int) then 64 else (↑v.length:Int))&&decide ((if false=true then if 64 > (↑v.length:Int) then 64 else (↑v.length:Int) else if 64<(↑v.length:Int) then 64 else (↑v.length:Int))<=(↑v.length:Int))) (cond (!pM cu a n s) (cond (decide (List.take (Int.toNat (if false=true then if 64 > (↑v.length:Int) then 64 else (↑v.length:Int) else if 64<(↑v.length:Int) then 64 else (↑v.length:Int))) v=[])) (some (R.DV.str (List.take (Int.toNat (if false=true then if 64 > (↑v.length:Int) then 64 else (↑v.length:Int) else if 64<(↑v.length:Int) then 64 else (↑v.length:Int))) v),(mkD [] 0))) (cond (decide (List.length (List.take (Int.toNat (if false=true then if 64 > (↑v.length:Int) then 64 else (↑v.length:Int) else if 64<(↑v.length:Int) then 64 else (↑v.length:Int))) v)<100)) (some (R.DV.str (ts (List.take (Int.toNat (if false=true then if 64 > (↑v.length:Int) then 64 else (↑v.length:Int) else if 64<(↑v.length:Int) then 64 else (↑v.length:Int))) v)),(mkD [] 0))) none)) (cond (cu) (cond (okAt (List.take (Int.toNat (if false=true then if 64 > (↑v.length:Int) then 64 else (↑v.length:Int) else if 64<(↑v.length:Int) then 64 else (↑v.length:Int))) v) 0 n) (cond (decide (at' (List.take (Int.toNat (if false=true then if 64 > (↑v.length:Int) then 64 else (↑v.length:Int) else if 64<(↑v.length:Int) then 64 else (↑v.length:Int))) v) 0 n=[])) (some (R.DV.str (at' (List.take (Int.toNat (if false=true then if 64 > (↑v.length:Int) then 64 else (↑v.length:Int) else if 64<(↑v.length:Int) then 64 else (↑v.length:Int))) v) 0 n),(mkD [] 0))) (cond (decide (List.length (at' (List.take (Int.toNat (if false=true then if 64 > (↑v.length:Int) then 64 else (↑v.length:Int) else if 64<(↑v.length:Int) then 64 else (↑v.length:Int))) v) 0 n)<100)) (some (R.DV.str (ts (at' (List.take (Int.toNat (if false=true then if 64 > (↑v.length:Int) then 64 else (↑v.length:Int) else if 64<(↑v.length:Int) then 64 else (↑v.length:Int))) v) 0 n)),(mkD [] 0))) none)) none) (cond (okAt (List.take (Int.toNat (if false=true then if 64 > (↑v.length:Int) then 64 else (↑v.length:Int) else if 64<(↑v.length:Int) then 64 else (↑v.length:Int))) v) 0 a) (cond (okAt (List.take (Int.toNat (if false=true then if 64 > (↑v.length:Int) then 64 else (↑v.length:Int) else if 64<(↑v.length:Int) then 64 else (↑v.length:Int))) v) (IntKind.wrap .i64 (a+(↑s.length:Int))) (IntKind.wrap .i64 (64-IntKind.wrap .i64 (a+(↑s.length:Int))))) (cond (decide (0<List.length s/\List.length (at' (List.take (Int.toNat (if false=true then if 64 > (↑v.length:Int) then 64 else (↑v.length:Int) else if 64<(↑v.length:Int) then 64 else (↑v.length:Int))) v) 0 a)+List.length s+List.length (at' (List.take (Int.toNat (if false=true then if 64 > (↑v.length:Int) then 64 else (↑v.length:Int) else if 64<(↑v.length:Int) then 64 else (↑v.length:Int))) v) (IntKind.wrap .i64 (a+(↑s.length:Int))) (IntKind.wrap .i64 (64-IntKind.wrap .i64 (a+(↑s.length:Int)))))<=1000)) (cond (decide (jn (at' (List.take (Int.toNat (if false=true then if 64 > (↑v.length:Int) then 64 else (↑v.length:Int) else if 64<(↑v.length:Int) then 64 else (↑v.length:Int))) v) 0 a) s (at' (List.take (Int.toNat (if false=true then if 64 > (↑v.length:Int) then 64 else (↑v.length:Int) else if 64<(↑v.length:Int) then 64 else (↑v.length:Int))) v) (IntKind.wrap .i64 (a+(↑s.length:Int))) (IntKind.wrap .i64 (64-IntKind.wrap .i64 (a+(↑s.length:Int)))))=[])) (some (R.DV.str (jn (at' (List.take (Int.toNat (if false=true then if 64 > (↑v.length:Int) then 64 else (↑v.length:Int) else if 64<(↑v.length:Int) then 64 else (↑v.length:Int))) v) 0 a) s (at' (List.take (Int.toNat (if false=true then if 64 > (↑v.length:Int) then 64 else (↑v.length:Int) else if 64<(↑v.length:Int) then 64 else (↑v.length:Int))) v) (IntKind.wrap .i64 (a+(↑s.length:Int))) (IntKind.wrap .i64 (64-IntKind.wrap .i64 (a+(↑s.length:Int)))))),(mkD [] 0))) (cond (decide (List.length (jn (at' (List.take (Int.toNat (if false=true then if 64 > (↑v.length:Int) then 64 else (↑v.length:Int) else if 64<(↑v.length:Int) then 64 else (↑v.length:Int))) v) 0 a) s (at' (List.take (Int.toNat (if false=true then if 64 > (↑v.length:Int) then 64 else (↑v.length:Int) else if 64<(↑v.length:Int) then 64 else (↑v.length:Int))) v) (IntKind.wrap .i64 (a+(↑s.length:Int))) (IntKind.wrap .i64 (64-IntKind.wrap .i64 (a+(↑s.length:Int))))))<100)) (some (R.DV.str (ts (jn (at' (List.take (Int.toNat (if false=true then if 64 > (↑v.length:Int) then 64 else (↑v.length:Int) else if 64<(↑v.length:Int) then 64 else (↑v.length:Int))) v) 0 a) s (at' (List.take (Int.toNat (if false=true then if 64 > (↑v.length:Int) then 64 else (↑v.length:Int) else if 64<(↑v.length:Int) then 64 else (↑v.length:Int))) v) (IntKind.wrap .i64 (a+(↑s.length:Int))) (IntKind.wrap .i64 (64-IntKind.wrap .i64 (a+(↑s.length:Int))))))),(mkD [] 0))) none)) none) none) none))) none:=by kernel_rfl
theorem Xp3 (v:Txt)(cu:Bool)(a n:Int)(s:Txt):Xw CB.G CB.O CB.tab 103 121 [] [.str v,.agg [.bool cu,.int .i64 a,.int .i64 n,.str s]] (outB v cu a n s):=by
  refine Yy CB (YB1 trimS atS (fun a b c=>a++(b++c)) rfl rfl rfl) (fun _=>none) rfl rfl (fun n hn p _ ld e=>by cases e) fun z hz=>?_
  obtain⟨hp,hz⟩:=R.XB hz;have hp:=of_decide_eq_true hp;refine (Xr0 trimS atS (fun a b c=>a++(b++c)) rfl rfl rfl v cu a n s).trans ?_
  have em:(if false=true then if 64 > (v.length:Int) then 64 else (v.length:Int) else if 64<(v.length:Int) then 64 else (v.length:Int))=((v.take 64).length:Int):=by
    rw[List.length_take,if_neg (by decide)]
    split<;>omega
  have et:v.take (v.take 64).length=v.take 64:=by
    rw[List.length_take,List.take_eq_take_iff]; omega
  have hl:(v.take 64).length<=64:=by rw[List.length_take]; omega
  have hl2:(v.take 64).length<=v.length:=by rw[List.length_take]; omega
  rw[em,Int.toNat_natCast,et,cA (by omega) (by omega)]
  have hz:some (R.DV.str (Xa1 v cu a n s),mkD [] 0)=some z:=hz
  rw[← hz];unfold Xa1
  cases hm:pM cu a n s with
  |false=>exact XmW (decide_eq_true (by omega))
  |true =>
    cases cu with
    |true =>
      obtain⟨q1,q2⟩:=XmM hm
      have k1:okAt (v.take 64) 0 n=true:=by unfold okAt; rw[decide_eq_true_eq]; omega
      show cond (okAt (v.take 64) 0 n) _ _=_
      rw[k1];exact XmW (decide_eq_true (by rw[at_len]; omega))
    |false =>
      obtain⟨q1,q2,q3,q4⟩:=XmL hm
      have w1:IntKind.wrap .i64 (a+(s.length:Int))=a+s.length:=wrap_i64 (by omega) (by omega)
      have w2:IntKind.wrap .i64 (64-(a+(s.length:Int)))=64-(a+s.length):=wrap_i64 (by omega) (by omega)
      rw[w1,w2]
      have k1:okAt (v.take 64) 0 a=true:=by unfold okAt; rw[decide_eq_true_eq]; omega
      have k2:okAt (v.take 64) (a+s.length) (64-(a+s.length))=true:=by unfold okAt; rw[decide_eq_true_eq]; omega
      have k3:decide (0<s.length/\(atS (v.take 64) 0 a).length+s.length+(atS (v.take 64) (a+s.length) (64-(a+s.length))).length<=1000)=true:=decide_eq_true (by rw[at_len,at_len]; omega)
      rw[k1,k2,k3];exact XmW (decide_eq_true (by rw[List.length_append,List.length_append,at_len,at_len]; omega))
end
end Go.Vm.YtkjjpmbpjfmbcaaGreatDoor

namespace Go.Vm.YtkjjpmbpjfmbcaaGreatDoor
open Go.Proofs
noncomputable section
def pV (p:Bool×Int×Int×Txt×Int):DV:=.tup [.agg [.bool p.1,.int .i64 p.2.1,.int .i64 p.2.2.1,.str p.2.2.2.1],.int .i64 p.2.2.2.2]
def getP:DV->Bool×Int×Int×Txt×Int
  | .tup [.agg [.bool c,.int .i64 a,.int .i64 n,.str t],.int .i64 e]=>(c,a,n,t,e)
  |_=>(false,0,0,[],0)
def mV (p:Nat×Nat×Nat×Nat×Int):DV:=.tup [.agg [.int .u8 (.ofNat p.1),.int .u32 (.ofNat p.2.1),.int .u64 (.ofNat p.2.2.1),.int .u64 (.ofNat p.2.2.2.1)],.int .i64 p.2.2.2.2]
def getM:DV->Nat×Nat×Nat×Nat×Int
  | .tup [.agg [.int .u8 k,.int .u32 z,.int .u64 m,.int .u64 t],.int .i64 e]=>(k.toNat,z.toNat,m.toNat,t.toNat,e)
  |_=>(0,0,0,0,0)
def cV (p:Int×Nat×Int×Nat×Int):DV:=.tup [.agg [.int .u8 p.1,.int .u64 (.ofNat p.2.1),.int .u8 p.2.2.1,.int .u64 (.ofNat p.2.2.2.1)],.int .i64 p.2.2.2.2]
def getC:DV->Int×Nat×Int×Nat×Int
  | .tup [.agg [.int .u8 w,.int .u64 n,.int .u8 o,.int .u64 y],.int .i64 e]=>(w,n.toNat,o,y.toNat,e)
  |_=>(0,0,0,0,0)
def mB (p:Nat×Nat×Nat×Nat×Int):Prop:=p.1<256/\p.2.1<4294967296/\p.2.2.1<18446744073709551616/\p.2.2.2.1<18446744073709551616
theorem Xjs (s:Txt):(YX s).val=pV (getP (YX s).val):=by
  unfold YX;simp only[PD.val_br,PD.val_v,YT]
  repeat' first | rfl | split
theorem Xbg (s:Txt)(n:Nat):numOf (s.take n)<256 ^ n:=by
  have h1:=ZI (s.take n)
  have h2:(s.take n).length<=n:=by rw[List.length_take]; omega
  exact Nat.lt_of_lt_of_le h1 (Nat.pow_le_pow_right (by decide) h2)
theorem Xgy (s:Txt):(Zu s).val=mV (getM (Zu s).val)/\mB (getM (Zu s).val):=by
  unfold Zu;simp only[PD.val_br,PD.val_v,YT]
  have h0:mB (0,0,0,0,10):=⟨by decide,by decide,by decide,by decide⟩
  have h4:mB (0,0,0,0,4):=⟨by decide,by decide,by decide,by decide⟩
  split
  . exact⟨rfl,h0⟩
  . split
    . exact⟨rfl,h4⟩
    . cases Xfx s with
      |false=>exact⟨rfl,h4⟩
      |true=>exact⟨rfl,Xbg _ 1,Xbg _ 4,Xbg _ 8,Xbg _ 8⟩
theorem Xen (s:Txt):(Yk s).val=cV (getC (Yk s).val)/\(getC (Yk s).val).2.2.2.1<18446744073709551616:=by
  unfold Yk;simp only[PD.val_br,PD.val_v,YT];have h8:=Xbg (s.drop 2) 8
  have h0:0<18446744073709551616:=by decide
  repeat' first | exact⟨rfl,h0⟩ | exact⟨rfl,h8⟩ | split
structure AFn where
  p:Txt->Bool×Int×Int×Txt×Int
  m:Txt->Nat×Nat×Nat×Nat×Int
  c:Txt->Int×Nat×Int×Nat×Int
  zf:AF
  mf:AF
  tf:AF
  mm:MM
  ms:Nat->Nat->Nat->Nat->Txt
  bd:Txt->Bool->Int->Int->Txt->Txt
def F0:AFn:=⟨fun s=>getP (YX s).val,fun s=>getM (Zu s).val,fun s=>getC (Yk s).val,zA,mA,tA,mM,Xby,Xa1⟩
def gP (F:AFn):List DV->Option PD:=fun l=>match l with
  |[.str s]=>some (.v (pV (F.p s)))
  |_=>none
def gM (F:AFn):List DV->Option PD:=fun l=>match l with
  |[.str s]=>some (.v (mV (F.m s)))
  |_=>none
def gC (F:AFn):List DV->Option PD:=fun l=>match l with
  |[.str s]=>some (.v (cV (F.c s)))
  |_=>none
theorem Xvp (F:AFn)(hF:F=F0)(f:Nat)(hf:∀ s,PlainCall Tryz.prog [] f (toVs [.str s]) (toV (YX s).val)):∀ l d,gP F l=some d->d.ok=true->PlainCall Tryz.prog [] f (toVs l) (toV d.val)/\ofVs (toVs l)=some l:=by
  intro l d h ho;subst hF;unfold gP at h;split at h
  . rename_i s
    cases h
    have:=hf s
    rw[Xjs] at this
    exact⟨this,XaR s⟩
  . cases h
theorem Xvq (F:AFn)(hF:F=F0)(f:Nat)(hf:∀ s,PlainCall Tryz.prog [] f (toVs [.str s]) (toV (Zu s).val)):∀ l d,gM F l=some d->d.ok=true->PlainCall Tryz.prog [] f (toVs l) (toV d.val)/\ofVs (toVs l)=some l:=by
  intro l d h ho;subst hF;unfold gM at h;split at h
  . rename_i s
    cases h
    have:=hf s
    rw[(Xgy s).1] at this
    exact⟨this,XaR s⟩
  . cases h
theorem Xvr (F:AFn)(hF:F=F0)(f:Nat)(hf:∀ s,PlainCall Tryz.prog [] f (toVs [.str s]) (toV (Yk s).val)):∀ l d,gC F l=some d->d.ok=true->PlainCall Tryz.prog [] f (toVs l) (toV d.val)/\ofVs (toVs l)=some l:=by
  intro l d h ho;subst hF;unfold gC at h;split at h
  . rename_i s
    cases h
    have:=hf s
    rw[(Xen s).1] at this
    exact⟨this,XaR s⟩
  . cases h
theorem Xpk (s:Txt):(Zu s).ok=true:=by
  unfold Zu;simp only[PD.ok_br,PD.ok_v,Bool.cond_self]
theorem Xlx (s:Txt):(Yk s).ok=true:=by
  unfold Yk;simp only[PD.ok_br,PD.ok_v,Bool.cond_self]
theorem XmT (s:Txt):(YX s).ok=true:=by
  unfold YX;simp only[PD.ok_br,PD.ok_v,Bool.cond_self]
def bdD (F:AFn)(v:Txt)(cu:Bool)(a n:Int)(s:Txt):PD:=.need (decide (v.length<4611686018427387904)) (.v (.str (F.bd v cu a n s)))
def gBd (F:AFn):List DV->Option PD:=fun l=>match l with
  |[.str v,.agg [.bool cu,.int .i64 a,.int .i64 n,.str s]]=>some (bdD F v cu a n s)
  |_=>none
theorem Xtd (v:Txt)(cu:Bool)(a n:Int)(s:Txt):ofVs (toVs [.str v,.agg [.bool cu,.int .i64 a,.int .i64 n,.str s]])=some [.str v,.agg [.bool cu,.int .i64 a,.int .i64 n,.str s]]:=by
  simp only[toVs,toV,ofVs,ofV,WE]
theorem XsI (F:AFn)(hF:F=F0)(f:Nat)(hf:∀ v cu a n s,R.Xw CB.G CB.O CB.tab f 121 [] [.str v,.agg [.bool cu,.int .i64 a,.int .i64 n,.str s]] (outB v cu a n s)) :
    ∀ l d,gBd F l=some d->d.ok=true->PlainCall Tryz.prog [] f (toVs l) (toV d.val)/\ofVs (toVs l)=some l:=by
  intro l d h ho;subst hF;unfold gBd at h;split at h
  . rename_i v cu a n s
    cases h
    have hl:decide (v.length<4611686018427387904)=true:=by
      unfold bdD at ho;simp only[PD.ok_need,PD.ok_v,Bool.and_true] at ho;exact ho
    refine⟨Xr6 (v:=.str (Xa1 v cu a n s)) (v0:=.str (Xa1 v cu a n s)) (d:=R.mkD [] 0) (hf v cu a n s) ?_ rfl rfl ⟨trivial,⟨trivial,trivial,trivial,trivial,trivial⟩,trivial⟩ trivial,Xtd v cu a n s⟩
    show (R.Tree.need (decide (v.length<4611686018427387904)) _).ev=_
    rw[hl]; rfl
  . cases h
def XuN (F:AFn)(hF:F=F0):Laws Tryz.prog:=(((((((((Xa7.add 102 (gP F) (Xvp F hF 102 fun s=>(Xn1 _ _ rfl (XmT s)).1))).add 104 (gM F) (Xvq F hF 104 fun s=>(Xn0 _ _ rfl (Xpk s)).1))).add 105 (gC F) (Xvr F hF 105 fun s=>(Xnz _ _ rfl (Xlx s)).1))).add 107 (XkH F.zf F.mf F.tf) (XiO F.zf F.mf F.tf (by rw[hF]; rfl) (by rw[hF]; rfl) (by rw[hF]; rfl)))).add 103 (gBd F) (XsI F hF 103 Xp3))
def Xjx (F:AFn)(hF:F=F0):Laws Tryz.prog:=((XuN F hF).add 106 (XkE F.mm F.ms) (XiP F.mm F.ms (by rw[hF]; rfl) (by rw[hF]; rfl)))
set_option maxRecDepth 10000 in
theorem tPat (F:AFn)(hF:F=F0)(op:Int)(k t w v:Txt)(th:Bool):Xu (Xjx F hF) tab [77] 7 200 77 [.agg [.int .i64 op,.str k,.str t,.str w],.str v,.bool th] =
    cond (true&&decide (0<(↑k.length:Int))) (cond (decide ((↑(UInt8.toNat (List.getD k 0 0)):Int)=100)) (cond (decide (List.length v<4611686018427387904)) (some (DV.tup [DV.str (AFn.bd F v (Prod.fst (AFn.p F w)) (Prod.fst (Prod.snd (AFn.p F w))) (Prod.fst (Prod.snd (Prod.snd (AFn.p F w)))) (Prod.fst (Prod.snd (Prod.snd (Prod.snd (AFn.p F w)))))),DV.bool !decide (AFn.bd F v (Prod.fst (AFn.p F w)) (Prod.fst (Prod.snd (AFn.p F w))) (Prod.fst (Prod.snd (Prod.snd (AFn.p F w)))) (Prod.fst (Prod.snd (Prod.snd (Prod.snd (AFn.p F w)))))=[])])) none) (cond (!th) (some (DV.tup [DV.str v,DV.bool th])) (cond (!decide (Prod.snd (Prod.snd (Prod.snd (Prod.snd (AFn.m F v))))=0)) (some (DV.tup [DV.str v,DV.bool th])) (cond (small (Prod.fst (Prod.snd (Prod.snd (AFn.m F v))))&&small (Prod.fst (Prod.snd (Prod.snd (Prod.snd (AFn.c F w)))))) (cond (Xgo (Prod.fst (AFn.m F v)) (AFn.zf F (Int.ofNat (Prod.fst (AFn.m F v))) (Prod.fst (Prod.snd (AFn.m F v))) (Prod.fst (Prod.snd (Prod.snd (AFn.m F v)))) (Prod.fst (Prod.snd (Prod.snd (Prod.snd (AFn.m F v))))) (Prod.fst (AFn.c F w)) (Prod.fst (Prod.snd (AFn.c F w))) (Prod.fst (Prod.snd (Prod.snd (AFn.c F w)))) (Prod.fst (Prod.snd (Prod.snd (Prod.snd (AFn.c F w)))))) (AFn.mf F (Int.ofNat (Prod.fst (AFn.m F v))) (Prod.fst (Prod.snd (AFn.m F v))) (Prod.fst (Prod.snd (Prod.snd (AFn.m F v)))) (Prod.fst (Prod.snd (Prod.snd (Prod.snd (AFn.m F v))))) (Prod.fst (AFn.c F w)) (Prod.fst (Prod.snd (AFn.c F w))) (Prod.fst (Prod.snd (Prod.snd (AFn.c F w)))) (Prod.fst (Prod.snd (Prod.snd (Prod.snd (AFn.c F w)))))) (AFn.tf F (Int.ofNat (Prod.fst (AFn.m F v))) (Prod.fst (Prod.snd (AFn.m F v))) (Prod.fst (Prod.snd (Prod.snd (AFn.m F v)))) (Prod.fst (Prod.snd (Prod.snd (Prod.snd (AFn.m F v))))) (Prod.fst (AFn.c F w)) (Prod.fst (Prod.snd (AFn.c F w))) (Prod.fst (Prod.snd (Prod.snd (AFn.c F w)))) (Prod.fst (Prod.snd (Prod.snd (Prod.snd (AFn.c F w))))))) (cond (AFn.mm F (Int.ofNat (Prod.fst (AFn.m F v))) (AFn.zf F (Int.ofNat (Prod.fst (AFn.m F v))) (Prod.fst (Prod.snd (AFn.m F v))) (Prod.fst (Prod.snd (Prod.snd (AFn.m F v)))) (Prod.fst (Prod.snd (Prod.snd (Prod.snd (AFn.m F v))))) (Prod.fst (AFn.c F w)) (Prod.fst (Prod.snd (AFn.c F w))) (Prod.fst (Prod.snd (Prod.snd (AFn.c F w)))) (Prod.fst (Prod.snd (Prod.snd (Prod.snd (AFn.c F w)))))) (AFn.mf F (Int.ofNat (Prod.fst (AFn.m F v))) (Prod.fst (Prod.snd (AFn.m F v))) (Prod.fst (Prod.snd (Prod.snd (AFn.m F v)))) (Prod.fst (Prod.snd (Prod.snd (Prod.snd (AFn.m F v))))) (Prod.fst (AFn.c F w)) (Prod.fst (Prod.snd (AFn.c F w))) (Prod.fst (Prod.snd (Prod.snd (AFn.c F w)))) (Prod.fst (Prod.snd (Prod.snd (Prod.snd (AFn.c F w))))))) (some (DV.tup [DV.str (AFn.ms F (Prod.fst (AFn.m F v)) (AFn.zf F (Int.ofNat (Prod.fst (AFn.m F v))) (Prod.fst (Prod.snd (AFn.m F v))) (Prod.fst (Prod.snd (Prod.snd (AFn.m F v)))) (Prod.fst (Prod.snd (Prod.snd (Prod.snd (AFn.m F v))))) (Prod.fst (AFn.c F w)) (Prod.fst (Prod.snd (AFn.c F w))) (Prod.fst (Prod.snd (Prod.snd (AFn.c F w)))) (Prod.fst (Prod.snd (Prod.snd (Prod.snd (AFn.c F w)))))) (AFn.mf F (Int.ofNat (Prod.fst (AFn.m F v))) (Prod.fst (Prod.snd (AFn.m F v))) (Prod.fst (Prod.snd (Prod.snd (AFn.m F v)))) (Prod.fst (Prod.snd (Prod.snd (Prod.snd (AFn.m F v))))) (Prod.fst (AFn.c F w)) (Prod.fst (Prod.snd (AFn.c F w))) (Prod.fst (Prod.snd (Prod.snd (AFn.c F w)))) (Prod.fst (Prod.snd (Prod.snd (Prod.snd (AFn.c F w)))))) (AFn.tf F (Int.ofNat (Prod.fst (AFn.m F v))) (Prod.fst (Prod.snd (AFn.m F v))) (Prod.fst (Prod.snd (Prod.snd (AFn.m F v)))) (Prod.fst (Prod.snd (Prod.snd (Prod.snd (AFn.m F v))))) (Prod.fst (AFn.c F w)) (Prod.fst (Prod.snd (AFn.c F w))) (Prod.fst (Prod.snd (Prod.snd (AFn.c F w)))) (Prod.fst (Prod.snd (Prod.snd (Prod.snd (AFn.c F w))))))),DV.bool true])) (some (DV.tup [DV.str [],DV.bool true]))) none) none)))) none:=by kernel_rfl
abbrev M5:=Nat×Nat×Nat×Nat×Int
abbrev C5:=Int×Nat×Int×Nat×Int
def zV (m:M5)(c:C5):Nat:=zA (.ofNat m.1) m.2.1 m.2.2.1 m.2.2.2.1 c.1 c.2.1 c.2.2.1 c.2.2.2.1
def mkV (m:M5)(c:C5):Nat:=mA (.ofNat m.1) m.2.1 m.2.2.1 m.2.2.2.1 c.1 c.2.1 c.2.2.1 c.2.2.2.1
def tV (m:M5)(c:C5):Nat:=tA (.ofNat m.1) m.2.1 m.2.2.1 m.2.2.2.1 c.1 c.2.1 c.2.2.1 c.2.2.2.1
def Xhn (m:M5)(c:C5):Txt:=cond (mM (.ofNat m.1) (zV m c) (mkV m c)) (Xby m.1 (zV m c) (mkV m c) (tV m c)) []
theorem Xtr {k : Int} {z m t : Nat} {w : Int} {n : Nat} {op : Int} {y : Nat} (h : z < 4294967296) : zA k z m t w n op y < 4294967296 := by
  unfold zA
  cases hm:mM k z m with
  |false=>exact h
  |true =>
    cases hc:cM w (Int.ofNat n) op y with
    |false=>exact h
    |true =>
      have e:(decide (w=1)||decide (w=2))=true->n<=2048:=fun hw=>by
        unfold cM at hc;rw[hw] at hc;simp only[cond_true,Bool.and_eq_true,decide_eq_true_eq] at hc
        have h3:(n:Int)<=2048:=hc.1
        omega
      simp only[Bool.and_self,cond_true]
      by_cases w1:w=1
      . subst w1
        have:=e rfl
        cases decide (k=1)<;>cases decide (z<n)<;>simp<;>omega
      . rw[decide_eq_false w1]
        by_cases w2:w=2
        . subst w2
          have:=e rfl
          cases decide (k=1)<;>simp<;>omega
        . rw[decide_eq_false w2]; exact h
theorem XuK {k:Int}{z m t:Nat}{w:Int}{n:Nat}{op:Int}{y:Nat} (h:m<18446744073709551616)(hy:y<18446744073709551616):mA k z m t w n op y<18446744073709551616:=by
  have:=Xox (op:=op) h hy
  unfold mA
  cases (mM k z m&&cM w (Int.ofNat n) op y)
  . exact h
  . cases decide (w=3)
    . exact h
    . exact this
theorem Xtx {k:Int}{z m t:Nat}{w:Int}{n:Nat}{op:Int}{y:Nat} (h:t<18446744073709551616)(hn:n<18446744073709551616):tA k z m t w n op y<18446744073709551616:=by
  unfold tA
  cases (mM k z m&&cM w (Int.ofNat n) op y)
  . exact h
  . cases decide (w=4)
    . exact h
    . exact hn
theorem XnR (s:Txt):(getC (Yk s).val).2.1<18446744073709551616:=by
  unfold Yk;simp only[PD.val_br,PD.val_v,YT];have h8:=Xbg (s.drop 1) 8
  have h4:numOf ((s.drop 1).take 4)<18446744073709551616:=Nat.lt_of_lt_of_le (Xbg (s.drop 1) 4) (by decide)
  have h0:0<18446744073709551616:=by decide
  repeat' first | exact h0 | exact h8 | exact h4 | split
def mOf (v:Txt):M5:=getM (Zu v).val
def cOf (w:Txt):C5:=getC (Yk w).val
def pOf (w:Txt):Bool×Int×Int×Txt×Int:=getP (YX w).val
theorem Xr2 (v w:Txt):(small (mOf v).2.2.1&&small (cOf w).2.2.2.1)=true/\Xgo (mOf v).1 (zV (mOf v) (cOf w)) (mkV (mOf v) (cOf w)) (tV (mOf v) (cOf w))=true:=by
  obtain⟨h1,h2,h3,h4⟩:=(Xgy v).2;have h5:=(Xen w).2;have h6:=XnR w
  refine⟨by rw[Bool.and_eq_true]; exact⟨sm h3,sm h5⟩,?_⟩
  unfold Xgo;rw[Bool.and_eq_true,Bool.and_eq_true,Bool.and_eq_true]
  exact⟨decide_eq_true h1,decide_eq_true (Xtr h2),sm (XuK h3 h5),sm (Xtx h4 h6)⟩
def Xeo (v w:Txt):Txt:=Xa1 v (pOf w).1 (pOf w).2.1 (pOf w).2.2.1 (pOf w).2.2.2.1
def Zy (k w v:Txt)(th:Bool):Txt×Bool:=cond (decide ((((k.getD 0 0).toNat:Nat):Int)=100)) (Xeo v w,!decide (Xeo v w=[]))
  (cond (!th) (v,th) (cond (!decide ((mOf v).2.2.2.2=0)) (v,th) (Xhn (mOf v) (cOf w),true)))
def tbV (p:Txt×Bool):DV:=.tup [.str p.1,.bool p.2]
theorem Xkl {c:Bool}{a b:Txt×Bool}:cond c (some (tbV a)) (some (tbV b))=some (tbV (cond c a b)):=by cases c<;>rfl
theorem Xsf (op:Int)(k t w v:Txt)(th:Bool)(hk:0<k.length)(hv:v.length<4611686018427387904):Xu (Xjx F0 rfl) tab [77] 7 200 77 [.agg [.int .i64 op,.str k,.str t,.str w],.str v,.bool th]=some (tbV (Zy k w v th)):=by
  rw[tPat];obtain⟨q1,q2⟩:=Xr2 v w
  have e0:(true&&decide (0<(k.length:Int)))=true:=by rw[decide_eq_true (by omega)]; rfl
  rw[e0,decide_eq_true hv]
  show cond true (cond (decide ((((k.getD 0 0).toNat:Nat):Int)=100)) (some (tbV (Xeo v w,!decide (Xeo v w=[])))) (cond (!th) (some (tbV (v,th))) (cond (!decide ((mOf v).2.2.2.2=0)) (some (tbV (v,th)))
    (cond (small (mOf v).2.2.1&&small (cOf w).2.2.2.1) (cond (Xgo (mOf v).1 (zV (mOf v) (cOf w)) (mkV (mOf v) (cOf w)) (tV (mOf v) (cOf w))) (cond (mM (.ofNat (mOf v).1) (zV (mOf v) (cOf w)) (mkV (mOf v) (cOf w))) (some (tbV (Xby (mOf v).1 (zV (mOf v) (cOf w)) (mkV (mOf v) (cOf w)) (tV (mOf v) (cOf w)),true))) (some (tbV ([],true)))) none) none)))) none=_
  rw[q1,q2,Xkl];simp only[cond_true,Xkl];unfold Zy Xhn
  cases decide ((((k.getD 0 0).toNat:Nat):Int)=100)<;>cases th<;>cases decide ((mOf v).2.2.2.2=0)<;>cases mM (.ofNat (mOf v).1) (zV (mOf v) (cOf w)) (mkV (mOf v) (cOf w))<;>rfl
abbrev PF:=Txt->Txt->Txt->Bool->Txt×Bool
def patD (pf:PF)(k w v:Txt)(th:Bool):PD:=.need (decide (0<k.length)&&decide (v.length<4611686018427387904)) (.v (tbV (pf k w v th)))
def g77 (pf:PF):List DV->Option PD:=fun l=>match l with
  |[.agg [.int .i64 op,.str k,.str t,.str w],.str v,.bool th]=>some (patD pf k w v th)
  |_=>none
theorem Xte (op:Int)(k t w v:Txt)(th:Bool):ofVs (toVs [.agg [.int .i64 op,.str k,.str t,.str w],.str v,.bool th])=some [.agg [.int .i64 op,.str k,.str t,.str w],.str v,.bool th]:=by
  simp only[toVs,toV,ofVs,ofV,WE]
theorem XsS (pf:PF)(h:pf=Zy):∀ l d,g77 pf l=some d->d.ok=true->PlainCall Tryz.prog [] 77 (toVs l) (toV d.val)/\ofVs (toVs l)=some l:=by
  intro l d hg hk;subst h;unfold g77 at hg;split at hg
  . cases hg
    unfold patD at hk;simp only[PD.ok_need,PD.ok_v,Bool.and_true,Bool.and_eq_true] at hk
    exact⟨XJ _ XN Xo (by kernel_rfl) (Xsf _ _ _ _ _ _ (of_decide_eq_true hk.1) (of_decide_eq_true hk.2)) ⟨⟨trivial,trivial,trivial,trivial,trivial⟩,trivial,trivial,trivial⟩ ⟨trivial,trivial,trivial⟩,Xte _ _ _ _ _ _⟩
  . cases hg
def Xnf (pf:PF)(h:pf=Zy):Laws Tryz.prog:=(Xjx F0 rfl).add 77 (g77 pf) (XsS pf h)
set_option maxRecDepth 10000 in
theorem tApp (pf:PF)(h:pf=Zy)(op:Int)(k t w x v:Txt)(th:Bool):Xu (Xnf pf h) tab [39,40,78] 7 200 39 [.agg [.int .i64 op,.str k,.str t,.str w],.str x,.str v,.bool th] =
    cond (!th) (cond (mayB op k t w) (cond (decide (op=3)) (cond (!Op.bytesLess x k) (cond (!Op.bytesLess x t) (some (DV.tup [DV.str [],DV.bool th])) (cond (decide (op=1)) (some (DV.tup [DV.str w,DV.bool true])) (cond (decide (op=4)) (cond (decide (0<List.length k)&&true) (some (DV.tup [DV.str (Prod.fst (pf k w [] th)),DV.bool (Prod.snd (pf k w [] th))])) none) (some (DV.tup [DV.str [],DV.bool false]))))) (some (DV.tup [DV.str [],DV.bool th]))) (cond (!decide (x=k)) (some (DV.tup [DV.str [],DV.bool th])) (cond (decide (op=1)) (some (DV.tup [DV.str w,DV.bool true])) (cond (decide (op=4)) (cond (decide (0<List.length k)&&true) (some (DV.tup [DV.str (Prod.fst (pf k w [] th)),DV.bool (Prod.snd (pf k w [] th))])) none) (some (DV.tup [DV.str [],DV.bool false])))))) (some (DV.tup [DV.str [],DV.bool th]))) (cond (mayB op k t w) (cond (decide (op=3)) (cond (!Op.bytesLess x k) (cond (!Op.bytesLess x t) (some (DV.tup [DV.str v,DV.bool th])) (cond (decide (op=1)) (some (DV.tup [DV.str w,DV.bool true])) (cond (decide (op=4)) (cond (decide (0<List.length k)&&decide (List.length v<4611686018427387904)) (some (DV.tup [DV.str (Prod.fst (pf k w v th)),DV.bool (Prod.snd (pf k w v th))])) none) (some (DV.tup [DV.str [],DV.bool false]))))) (some (DV.tup [DV.str v,DV.bool th]))) (cond (!decide (x=k)) (some (DV.tup [DV.str v,DV.bool th])) (cond (decide (op=1)) (some (DV.tup [DV.str w,DV.bool true])) (cond (decide (op=4)) (cond (decide (0<List.length k)&&decide (List.length v<4611686018427387904)) (some (DV.tup [DV.str (Prod.fst (pf k w v th)),DV.bool (Prod.snd (pf k w v th))])) none) (some (DV.tup [DV.str [],DV.bool false])))))) (some (DV.tup [DV.str v,DV.bool th]))):=by kernel_rfl
def Xf0 (op:Int)(k w v:Txt)(th:Bool):Txt×Bool:=cond (decide (op=1)) (w,true) (cond (decide (op=4)) (Zy k w v th) ([],false))
def Xv (op:Int)(k t w x v:Txt)(th:Bool):Txt×Bool:=cond (Yw op k t w x) (Xf0 op k w (cond th v []) th) (cond th v [],th)
theorem Xps {op:Int}{k t w:Txt} (h:mayB op k t w=true):0<k.length:=by
  unfold mayB at h
  by_cases h1:k.length<1
  . rw[decide_eq_true h1] at h; cases h
  . omega
theorem Xp0 {n:Nat} (h:0<n):(decide (0<n)&&true)=true:=by rw[decide_eq_true h]; rfl
theorem Xsg (op : Int) (k t w x v : Txt) (th : Bool) (hv : v.length < 4611686018427387904) : Xu (Xnf Zy rfl) tab [39, 40, 78] 7 200 39 [.agg [.int .i64 op, .str k, .str t, .str w], .str x, .str v, .bool th] = some (tbV (Xv op k t w x v th)) := by
  rw[tApp,decide_eq_true hv];unfold Xv Yw Xf0
  cases hm:mayB op k t w with
  |false=>cases th<;>rfl
  |true =>
    have hk:=Xps hm;rw[Xp0 hk]
    by_cases h3:op=3
    . subst h3
      cases th<;>cases Op.bytesLess x k<;>cases Op.bytesLess x t<;>rfl
    . rw[decide_eq_false h3]
      by_cases hx:x=k
      . subst hx
        rw[decide_eq_true rfl]
        cases th<;>cases decide (op=1)<;>cases decide (op=4)<;>rfl
      . rw[decide_eq_false hx]
        cases th<;>rfl
abbrev MF:=Int->Txt->Txt->Txt->Txt->Txt->Bool->Txt×Bool
def mfD (mf:MF)(op:Int)(k t w x v:Txt)(th:Bool):PD:=.need (decide (v.length<4611686018427387904)) (.v (tbV (mf op k t w x v th)))
def gmf (mf:MF):List DV->Option PD:=fun l=>match l with
  |[.agg [.int .i64 op,.str k,.str t,.str w],.str x,.str v,.bool th]=>some (mfD mf op k t w x v th)
  |_=>none
theorem Xtc (op:Int)(k t w x v:Txt)(th:Bool):ofVs (toVs [.agg [.int .i64 op,.str k,.str t,.str w],.str x,.str v,.bool th])=some [.agg [.int .i64 op,.str k,.str t,.str w],.str x,.str v,.bool th]:=by
  simp only[toVs,toV,ofVs,ofV,WE]
theorem Xnu (mf:MF)(h:mf=Xv):∀ l d,gmf mf l=some d->d.ok=true->PlainCall Tryz.prog [] 39 (toVs l) (toV d.val)/\ofVs (toVs l)=some l:=by
  intro l d hg hk;subst h;unfold gmf at hg;split at hg
  . cases hg
    unfold mfD at hk;simp only[PD.ok_need,PD.ok_v,Bool.and_true] at hk
    exact⟨XJ _ XN Xo (by kernel_rfl) (Xsg _ _ _ _ _ _ _ (of_decide_eq_true hk)) ⟨⟨trivial,trivial,trivial,trivial,trivial⟩,trivial,trivial,trivial,trivial⟩ ⟨trivial,trivial,trivial⟩,Xtc _ _ _ _ _ _ _⟩
  . cases hg
def XuM (mf:MF)(h:mf=Xv):Laws Tryz.prog:=(Xa8.add 39 (gmf mf) (Xnu mf h))
end
end Go.Vm.YtkjjpmbpjfmbcaaGreatDoor
