/-
  Each operation of the model does what the evaluator says.
-/
import Derived.Test.YtkjjpmbpjfmbcaaGreatDoorQ1
import Derived.Lib.FrozenHead
import Derived.Calls
import Derived.Laws.StructEq
import Derived.Laws.Unary
import Derived.ChangeKeysEq
import Derived.Laws.MakeOwn
import Derived.Laws.BytesString
import Derived.Laws.Externs
import Derived.Lib.MakeNoZero
import Derived.Lib.UnsafeStr
import Derived.LaidEql
set_option linter.unusedVariables false
set_option linter.unusedSimpArgs false
namespace Go.Vm
structure Pl where
  B:Nat
  b:Nat
  N:Nat
abbrev Rho:=Nat->Option Pl
def Xep (b:Nat):Prop:=∃ s t,s<2/\t<4503599627370495/\b=s*9223372036854775808+9218868437227405312+1+t
mutual
inductive VRel (ρ:Rho)(h:H):V->Value->Prop
  |int (k:IntKind) (n:Int):VRel ρ h (.int k n) (.int k n)
  |bool (b:Bool):VRel ρ h (.bool b) (.bool b)
  |str (s:ByteArray):VRel ρ h (.str s.data.toList.length (numOf s.data.toList)) (.string s)
  |flt (x:Nat):VRel ρ h (.flt x) (.float .f64 x)
  |ptr {o i:Nat}{p:Pl}:ρ o=some p->VRel ρ h (.ptr o i) (.pointer (some ⟨p.B,p.b+i,none⟩))
  |ptrD {o i:Nat}{a:Option Addr}:o<h.n->ρ o=none->h.get o=.dead->VRel ρ h (.ptr o i) (.pointer a)
  |nil:VRel ρ h .nil (.pointer none)
  |sl {o i n c s:Nat}{ex:Bool}{p:Pl}{c':Nat}{a:Addr}:ρ o=some p->n<=c->c<=c'->(ex=true->c=c')->(0<c'->a=⟨p.B,p.b+i,none⟩) ->
      p.b+i+c'*s<=p.N->VRel ρ h (.sl o i n c s ex) (.slice (some a) n c')
  |slD {o i n c s:Nat}{ex:Bool}{a:Option Addr}{n' c':Nat}:o<h.n->ρ o=none->h.get o=.dead->VRel ρ h (.sl o i n c s ex) (.slice a n' c')
  |nils:VRel ρ h .nils (.slice none 0 0)
  |nilm:VRel ρ h .nilm (.map none)
  |fn {f:Nat}{l:List V}{cs:Array Value}:VRels ρ h l cs.toList->VRel ρ h (.fn f l) (.func (.func f) #[] cs)
  |nilf:VRel ρ h .nilf .nilFunc
  |ifc {t:Nat}{v:V}{x:Value}:VRel ρ h v x->VRel ρ h (.ifc t v) (.iface t x)
  |nili:VRel ρ h .nili .nilIface
  |nan {b:Nat}:Xep b->VRel ρ h .nan (.float .f64 b)
  |nani {b:Nat}:Xep b->VRel ρ h .nani (.int .u64 b)
  |agg {l:List V}{cs:Array Value}:VRels ρ h l cs.toList->VRel ρ h (.agg l) (.agg cs)
  |tup {l:List V}{cs:Array Value}:VRels ρ h l cs.toList->VRel ρ h (.tup l) (.tuple cs)
  |bot (x:Value):VRel ρ h .bot x
inductive VRels (ρ:Rho)(h:H):List V->List Value->Prop
  |nil:VRels ρ h [] []
  |cons {v:V}{x:Value}{l:List V}{xs:List Value}:VRel ρ h v x->VRels ρ h l xs->VRels ρ h (v::l) (x::xs)
end
theorem VRels.length {ρ:Rho}{h:H}:∀ {l:List V}{xs:List Value},VRels ρ h l xs->xs.length=l.length
  |[],_,.nil=>rfl
  |_::_,_,.cons _ t=>by simp[t.length]
theorem VRels.get {ρ:Rho}{h:H}:∀ {l:List V}{xs:List Value},VRels ρ h l xs->∀ {i:Nat}{v:V},l[i]? = some v->∃ x,xs[i]? = some x/\VRel ρ h v x
  |_::_,_,.cons hv t,0,v,e=>by simp at e; subst e; exact⟨_,rfl,hv⟩
  |_::_,_,.cons hv t,i+1,v,e=>by simp at e; simpa using t.get e
theorem VRels.append {ρ:Rho}{h:H}:∀ {a:List V}{x:List Value}{b:List V}{y:List Value},VRels ρ h a x->VRels ρ h b y->VRels ρ h (a++b) (x++y)
  |[],_,_,_,.nil,hb=>hb
  |_::_,_,_,_,.cons hv t,hb=>.cons hv (t.append hb)
theorem VRels.take {ρ:Rho}{h:H}:∀ {a:List V}{x:List Value} (n:Nat),VRels ρ h a x->VRels ρ h (a.take n) (x.take n)
  |[],_,_,.nil=>by simp; exact .nil
  |_::_,_,0,.cons _ _=>.nil
  |_::_,_,n+1,.cons hv t=>.cons hv (t.take n)
theorem VRels.drop {ρ:Rho}{h:H}:∀ {a:List V}{x:List Value} (n:Nat),VRels ρ h a x->VRels ρ h (a.drop n) (x.drop n)
  |[],_,_,.nil=>by simp; exact .nil
  |_::_,_,0,r=>r
  |_::_,_,n+1,.cons _ t=>t.drop n
theorem VRels.of_get {ρ:Rho}{h:H}:∀ {l:List V}{xs:List Value},xs.length=l.length->(∀ (i:Nat)(v:V)(x:Value),l[i]? = some v->xs[i]? = some x->VRel ρ h v x)->VRels ρ h l xs
  |[],[],_,_=>.nil
  |[],_::_,e,_=>by simp at e
  |_::_,[],e,_=>by simp at e
  |v::l,x::xs,e,hh=>.cons (hh 0 v x rfl rfl) (VRels.of_get (by simpa using e) fun i v x a b=>hh (i+1) v x (by simpa using a) (by simpa using b))
def FrOk (fr:Nat×Nat)(p:Pl):Option Nat->Prop
  |some k=>fr.2<=p.b+k
  |none=>p.N<=fr.1∨fr.2<=p.b
def ORel (ρ:Rho)(h:H)(w:World)(p:Pl):Obj->Prop
  | .c n t sp el fz=>∃ cs fr,w.heap[p.B]? = some (.cells cs el fr)/\cs.size=p.N/\p.b+n<=p.N/\(sp=false->p.b=0/\n=p.N) /\
      (∀ i,i<n->∃ v,cs[p.b+i]? = some v/\VRel ρ h (t.get .bot i) v)/\FrOk fr p fz
  | .si n x pos=>∃ s:ByteArray,w.heap[p.B]? = some (.stringIter s pos)/\s.data.toList.length=n/\numOf s.data.toList=x/\p.b=0
  |_=>False
structure HRel (ρ:Rho)(h:H)(w:World):Prop where
  lt:∀ o p,ρ o=some p->o<h.n
  obj:∀ o p,ρ o=some p->ORel ρ h w p (h.get o)
  inj:∀ o o' p p',ρ o=some p->ρ o'=some p'->p.B=p'.B->o=o'∨(o<h.fl/\o'<h.fl)
structure Fr (ρ:Rho)(h:H)(ρ':Rho)(h':H)(w w':World):Prop where
  os:w'.os=w.os
  tape:w'.tape=w.tape
  output:w'.output=w.output
  size:w.heap.size<=w'.heap.size
  old:∀ B,B<w.heap.size->(∀ o p,ρ o=some p->p.B=B->o<h.fl)->w'.heap[B]? = w.heap[B]?
  keep:∀ o,o<h.n->ρ' o=ρ o∨(ρ' o=none/\h'.get o=.dead)
  new:∀ o p,h.n<=o->ρ' o=some p->w.heap.size<=p.B∨∃ o' p',h.fl<=o'/\ρ o'=some p'/\p'.B=p.B
theorem ORel.size {ρ:Rho}{h:H}{w:World}{p:Pl}{x:Obj} (r:ORel ρ h w p x):p.B<w.heap.size:=by
  cases x with
  |c n t sp el fz=>obtain⟨cs,fr,hg,_⟩:=r; exact (Array.getElem?_eq_some_iff.1 hg).1
  |si n x pos=>obtain⟨s,hg,_⟩:=r; exact (Array.getElem?_eq_some_iff.1 hg).1
  |m es=>exact r.elim
  |dead=>exact r.elim
theorem HRel.alive {ρ:Rho}{h:H}{w:World} (r:HRel ρ h w) {o:Nat}{p:Pl} (e:ρ o=some p):h.get o ≠ .dead:=by
  intro hd
  have:=r.obj o p e
  rw[hd] at this;exact this
theorem Fr.refl (ρ:Rho)(h:H)(w:World)(lt:∀ o p,ρ o=some p->o<h.n):Fr ρ h ρ h w w :=
  ⟨rfl,rfl,rfl,Nat.le_refl _,fun _ _ _=>rfl,fun _ _=>.inl rfl,fun o p ho e=>absurd (lt o p e) (by omega)⟩
theorem Fr.trans {ρ : Rho} {h : H} {ρ1 : Rho} {h1 : H} {ρ2 : Rho} {h2 : H} {w w1 w2 : World} (a : Abs h h1) (b : Abs h1 h2) (x : Fr ρ h ρ1 h1 w w1) (y : Fr ρ1 h1 ρ2 h2 w1 w2) : Fr ρ h ρ2 h2 w w2 := by
  refine⟨y.os.trans x.os,y.tape.trans x.tape,y.output.trans x.output,Nat.le_trans x.size y.size,?_,?_,?_⟩
  . intro B hB hf
    rw[y.old B (Nat.lt_of_lt_of_le hB x.size) ?_,x.old B hB hf];intro o p ho hp;rw[a.fl]
    by_cases hn:o<h.n
    . rcases x.keep o hn with e | ⟨e,_⟩
      . exact hf o p (e▸ho) hp
      . rw[e] at ho; cases ho
    . rcases x.new o p (by omega) ho with e | ⟨o',p',h1',h2',h3'⟩
      . omega
      . have:=hf o' p' h2' (h3'.trans hp); omega
  . intro o ho
    rcases x.keep o ho with e | ⟨e,d⟩
    . rcases y.keep o (Nat.lt_of_lt_of_le ho a.n) with e' | ⟨e',d'⟩
      . exact .inl (e'.trans e)
      . exact .inr ⟨e',d'⟩
    . rcases y.keep o (Nat.lt_of_lt_of_le ho a.n) with e' | ⟨e',d'⟩
      . exact .inr ⟨e'.trans e,b.dead o (Nat.lt_of_lt_of_le ho a.n) d⟩
      . exact .inr ⟨e',d'⟩
  · intro o p ho hp
    by_cases hn:o<h1.n
    . rcases y.keep o hn with e | ⟨e,_⟩
      . exact x.new o p ho (e▸hp)
      . rw[e] at hp; cases hp
    . rcases y.new o p (by omega) hp with e | ⟨o',p',h1',h2',h3'⟩
      . exact .inl (Nat.le_trans x.size e)
      . rw[a.fl] at h1'
        by_cases hn':o'<h.n
        . rcases x.keep o' hn' with e | ⟨e,_⟩
          . exact .inr ⟨o',p',h1',e▸h2',h3'⟩
          . rw[e] at h2'; cases h2'
        . rcases x.new o' p' (by omega) h2' with e | ⟨o'',p'',a1,a2,a3⟩
          . exact .inl (by omega)
          . exact .inr ⟨o'',p'',a1,a2,a3.trans h3'⟩
mutual
theorem VRel.mono {ρ:Rho}{h:H}{ρ':Rho}{h':H} (lt:∀ o p,ρ o=some p->o<h.n)(hn:h.n<=h'.n)
    (dead:∀ o,o<h.n->h.get o=.dead->h'.get o=.dead) (keep:∀ o,o<h.n->ρ' o=ρ o∨(ρ' o=none/\h'.get o=.dead)) :
    ∀ {v:V}{x:Value},VRel ρ h v x->VRel ρ' h' v x
  |_,_,.int k n=>.int k n
  |_,_,.bool b=>.bool b
  |_,_,.str s=>.str s
  |_,_,.flt x=>.flt x
  |_,_,.ptr (o:=o) (p:=p) e=>by
    rcases keep o (lt o p e) with e' | ⟨e',d⟩
    . exact .ptr (e'.trans e)
    . exact .ptrD (Nat.lt_of_lt_of_le (lt o p e) hn) e' d
  |_,_,.ptrD (o:=o) h1 h2 h3=>by
    refine .ptrD (Nat.lt_of_lt_of_le h1 hn) ?_ (dead o h1 h3)
    rcases keep o h1 with e' | ⟨e',d⟩
    . exact e'.trans h2
    . exact e'
  |_,_,.nil=>.nil
  |_,_,.sl (o:=o) (p:=p) e h1 h2 h3 h4 h5=>by
    rcases keep o (lt o p e) with e' | ⟨e',d⟩
    . exact .sl (e'.trans e) h1 h2 h3 h4 h5
    . exact .slD (Nat.lt_of_lt_of_le (lt o p e) hn) e' d
  |_,_,.slD (o:=o) h1 h2 h3=>by
    refine .slD (Nat.lt_of_lt_of_le h1 hn) ?_ (dead o h1 h3)
    rcases keep o h1 with e' | ⟨e',d⟩
    . exact e'.trans h2
    . exact e'
  |_,_,.nils=>.nils
  |_,_,.nilm=>.nilm
  |_,_,.fn r=>.fn (VRels.mono lt hn dead keep r)
  |_,_,.nilf=>.nilf
  |_,_,.ifc r=>.ifc (VRel.mono lt hn dead keep r)
  |_,_,.nili=>.nili
  |_,_,.nan e=>.nan e
  |_,_,.nani e=>.nani e
  |_,_,.agg r=>.agg (VRels.mono lt hn dead keep r)
  |_,_,.tup r=>.tup (VRels.mono lt hn dead keep r)
  |_,_,.bot x=>.bot x
theorem VRels.mono {ρ:Rho}{h:H}{ρ':Rho}{h':H} (lt:∀ o p,ρ o=some p->o<h.n)(hn:h.n<=h'.n)
    (dead:∀ o,o<h.n->h.get o=.dead->h'.get o=.dead) (keep:∀ o,o<h.n->ρ' o=ρ o∨(ρ' o=none/\h'.get o=.dead)) :
    ∀ {l:List V}{xs:List Value},VRels ρ h l xs->VRels ρ' h' l xs
  |_,_,.nil=>.nil
  |_,_,.cons a b=>.cons (VRel.mono lt hn dead keep a) (VRels.mono lt hn dead keep b)
end
structure Post (ρ:Rho)(h:H)(w:World)(ρ':Rho)(h':H)(w':World):Prop where
  abs:Abs h h'
  rel:HRel ρ' h' w'
  fr:Fr ρ h ρ' h' w w'
theorem Post.refl {ρ:Rho}{h:H}{w:World} (r:HRel ρ h w):Post ρ h w ρ h w:=⟨.refl h,r,.refl ρ h w r.lt⟩
theorem Post.trans {ρ:Rho}{h:H}{w:World}{ρ1:Rho}{h1:H}{w1:World}{ρ2:Rho}{h2:H}{w2:World} (x:Post ρ h w ρ1 h1 w1)(y:Post ρ1 h1 w1 ρ2 h2 w2):Post ρ h w ρ2 h2 w2 :=
  ⟨x.abs.trans y.abs,y.rel,x.fr.trans x.abs y.abs y.fr⟩
theorem Post.vrel {ρ:Rho}{h:H}{w:World}{ρ':Rho}{h':H}{w':World} (p:Post ρ h w ρ' h' w')(lt:∀ o p,ρ o=some p->o<h.n) {v:V}{x:Value} (r:VRel ρ h v x):VRel ρ' h' v x :=
  VRel.mono lt p.abs.n p.abs.dead p.fr.keep r
theorem Post.vrels {ρ:Rho}{h:H}{w:World}{ρ':Rho}{h':H}{w':World} (p:Post ρ h w ρ' h' w')(lt:∀ o p,ρ o=some p->o<h.n) {v:List V}{x:List Value} (r:VRels ρ h v x):VRels ρ' h' v x :=
  VRels.mono lt p.abs.n p.abs.dead p.fr.keep r
theorem XnD {ρ:Rho}{h:H}{w:World} (r:HRel ρ h w):HRel ρ h { w with drawn:=w.drawn+1 } :=
  ⟨r.lt,fun o p e=>by
    have:=r.obj o p e
    revert this
    cases h.get o<;>exact id,r.inj⟩
theorem XgA {ρ:Rho}{h:H}{w:World} (r:HRel ρ h w):Post ρ h w ρ h { w with drawn:=w.drawn+1 } :=
  ⟨.refl h,XnD r,⟨rfl,rfl,rfl,Nat.le_refl _,fun _ _ _=>rfl,fun _ _=>.inl rfl,fun o p ho e=>absurd (r.lt o p e) (by omega)⟩⟩
theorem addr_add (B o n:Nat):(⟨B,o,none⟩:Addr).add n=⟨B,o+n,none⟩:=by
  unfold Addr.add; split<;>simp_all
theorem cell_of {w:World}{B j:Nat}{cs:Array Value}{el:TypeId}{fr:Nat×Nat} (hg:w.heap[B]? = some (.cells cs el fr)):w.cell? ⟨B,j,none⟩=cs[j]? := by
  simp[World.cell?,hg]
theorem Zk {h:H}{o i n:Nat}{l:List V} (e:YN h o i n=some l) :
    ∃ m t sp el fz,h.get o=.c m t sp el fz/\i+n<=m/\l=Xx t i n:=by
  unfold YN at e;split at e
  . rename_i m t sp el fz hg
    split at e
    . rename_i hc
      simp only[Option.some.injEq] at e
      exact⟨m,t,sp,el,fz,hg,hc,e.symm⟩
    . cases e
  . cases e
theorem ZK {P:Program}{ρ:Rho}{h:H}{w:World} (r:HRel ρ h w) {o i n:Nat}{l:List V}{p:Pl} (hp:ρ o=some p)(e:YN h o i n=some l) :
    ∃ vs:List Value,VRels ρ h l vs/\vs.length=n/\(loadCells ⟨p.B,p.b+i,none⟩ n).run P w=.ok vs.toArray w/\∀ j v,vs[j]? = some v->w.cell? ⟨p.B,p.b+i+j,none⟩=some v:=by
  obtain⟨m,t,sp,el,fz,hg,hm,rfl⟩:=Zk e;have ho:=r.obj o p hp;rw[hg] at ho;obtain⟨cs,fr,hb,hN,hle,_,hcell,_⟩:=ho
  let vs:List Value:=(List.range n).map fun j=>(cs[p.b+(i+j)]?).getD undef
  have hlen:vs.length=n:=by simp[vs]
  have hget:∀ j,j<n->vs[j]? = some ((cs[p.b+(i+j)]?).getD undef):=fun j hj=>by simp[vs,hj]
  have hc:∀ j v,vs[j]? = some v->w.cell? ⟨p.B,p.b+i+j,none⟩=some v:=by
    intro j v hv
    have hj:j<n:=by
      have:=(List.getElem?_eq_some_iff.1 hv).1; omega
    rw[hget j hj,Option.some.injEq] at hv;obtain⟨x,hx,_⟩:=hcell (i+j) (by omega)
    rw[cell_of hb,Nat.add_assoc,hx];rw[hx] at hv
    simpa using hv
  refine⟨vs,?_,hlen,?_,hc⟩
  . refine VRels.of_get (by rw[hlen,Xz]) ?_
    intro j v x hv hx
    have hj:j<n:=by
      have:=(List.getElem?_eq_some_iff.1 hx).1; omega
    rw[Yd t n i j hj,Option.some.injEq] at hv;rw[hget j hj,Option.some.injEq] at hx;obtain⟨y,hy,hr⟩:=hcell (i+j) (by omega)
    rw[hy] at hx;simp only[Option.getD_some] at hx;subst hx;rw[← hv];exact hr
  . have:=run_loadCells_list (P:=P) w ⟨p.B,p.b+i,none⟩ vs (fun j v hv=>by rw[addr_add]; exact hc j v hv)
    rw[hlen] at this;exact this
theorem XlZ {ρ:Rho}{h:H}{v:V}{x:Value} (r:VRel ρ h v x)(ho:v.one=true):x.oneCell'=true:=by
  cases r<;>first | rfl | cases ho
theorem XdA {ρ:Rho}{h:H}:∀ {l:List V}{xs:List Value},VRels ρ h l xs->Yq l=true->∀ x∈xs,x.oneCell'=true
  |_,_,.nil,_=>by simp
  |_,_,.cons a b,e=>by
    simp only[Yq,Bool.and_eq_true] at e;intro x hx
    rcases List.mem_cons.1 hx with rfl | hx
    . exact XlZ a e.1
    . exact XdA b e.2 x hx
theorem XoZ {ρ:Rho}{h:H}{w w':World} (r:HRel ρ h w) {o:Nat}{p:Pl} (hp:ρ o=some p) {x:Obj} (hx:x ≠ .dead)(hfl:h.fl<=o)
    (hother:∀ B,B ≠ p.B->w'.heap[B]? = w.heap[B]?) (hself:∀ ρ' h',(∀ v y,VRel ρ h v y->VRel ρ' h' v y)->ORel ρ' h' w' p x):HRel ρ (h.set o x) w':=by
  have hm:∀ v y,VRel ρ h v y->VRel ρ (h.set o x) v y:=fun v y hv =>
    VRel.mono (ρ':=ρ) (h':=h.set o x) r.lt (Nat.le_refl _) (fun q _ hd=>by
      rw[H.get_set];split
      . rename_i e; subst e; exact absurd hd (r.alive hp)
      . exact hd) (fun _ _=>.inl rfl) hv
  refine⟨r.lt,?_,r.inj⟩
  intro q pq hq;rw[H.get_set];split
  . rename_i e
    subst e;rw[hp,Option.some.injEq] at hq;subst hq;exact hself _ _ hm
  . rename_i hne
    have hB:pq.B ≠ p.B:=fun e=>(r.inj o q p pq hp hq e.symm).elim hne (fun h2=>by have:=h2.1; omega)
    have:=r.obj q pq hq
    revert this
    cases h.get q with
    |c n t sp el fz =>
      rintro⟨cs,fr,h1,h2,h3,h4,h5,h6⟩
      exact⟨cs,fr,(hother _ hB).trans h1,h2,h3,h4,fun i hi=>let ⟨v,hv,hr⟩:=h5 i hi; ⟨v,hv,hm _ _ hr⟩,h6⟩
    |si n x pos=>rintro⟨s,h1,h2⟩; exact⟨s,(hother _ hB).trans h1,h2⟩
    |m es=>exact id
    |dead=>exact id
theorem XeS {ρ:Rho}{h:H}{w w':World} (r:HRel ρ h w) {o:Nat}{p:Pl} (hp:ρ o=some p) {x:Obj} (hx:x ≠ .dead)(hfl:h.fl<=o)
    (hos:w'.os=w.os) (htape:w'.tape=w.tape) (hout:w'.output=w.output) (hsize:w'.heap.size=w.heap.size)
    (hother:∀ B,B ≠ p.B->w'.heap[B]? = w.heap[B]?) (hself:∀ ρ' h',(∀ v y,VRel ρ h v y->VRel ρ' h' v y)->ORel ρ' h' w' p x):Post ρ h w ρ (h.set o x) w' :=
  ⟨.set _ hfl (r.alive hp),XoZ r hp hx hfl hother hself,⟨hos,htape,hout,Nat.le_of_eq hsize.symm,fun B hB hf=>by
    by_cases e:p.B=B
    . have:=hf o p hp e; omega
    . exact hother B (fun e'=>e e'.symm),fun _ _=>.inl rfl,fun q pq ho e=>absurd (r.lt q pq e) (by omega)⟩⟩
theorem Xaj (w:World)(g:Nat)(cs:Array Value) {B:Nat} (h:B ≠ g):(w.setRow g cs).heap[B]? = w.heap[B]? := by
  simp only[World.setRow,Array.getElem?_modify];rw[if_neg (by omega)]
theorem size_setRow (w:World)(g:Nat)(cs:Array Value):(w.setRow g cs).heap.size=w.heap.size:=by simp[World.setRow]
theorem Xb0 {α:Type} (cs vs:List α)(k:Nat)(h:k+vs.length<=cs.length)(j:Nat) :
    (cs.take k++vs++cs.drop (k+vs.length))[j]? = if k<=j/\j<k+vs.length then vs[j-k]? else cs[j]? := by
  rw[List.append_assoc,List.getElem?_append,List.length_take]
  by_cases h1:j<k
  . rw[if_pos (by omega),List.getElem?_take,if_pos h1,if_neg (by omega)]
  . rw[if_neg (by omega),List.getElem?_append]
    have e:min k cs.length=k:=by omega
    rw[e]
    by_cases h2:j-k<vs.length
    . rw[if_pos h2,if_pos (by omega)]
    . rw[if_neg h2,if_neg (by omega),List.getElem?_drop]
      congr 1; omega
theorem WG {P : Program} {B o el : Nat} {fr : Nat × Nat} {vs : List Value} {cs : Array Value} {w : World} (hg : w.heap[B]? = some (.cells cs el fr)) (hfr : fr.2 ≤ o ∨ cs.size ≤ fr.1)
    (hl:o+vs.length<=cs.size) (h1:∀ x∈vs,x.oneCell'=true) :
    (storeCells ⟨B,o,none⟩ vs).run P w=.ok () (w.setRow B (cs.toList.take o++vs++cs.toList.drop (o+vs.length)).toArray):=by
  rcases hfr with hfr | hfr
  . have:=run_storeCells_atF P B o el fr vs 0 cs w hg (by omega) (by omega) h1
    simpa using this
  . have gen:∀ (vs:List Value) (k:Nat) (cur:Array Value) (w:World),w.heap[B]? = some (.cells cur el fr)->cur.size=cs.size->o+k+vs.length<=cs.size->(∀ x∈vs,x.oneCell'=true) ->
        (storeCells ⟨B,o,none⟩ vs k).run P w=.ok () (w.setRow B (cur.toList.take (o+k)++vs++cur.toList.drop (o+k+vs.length)).toArray):=by
      intro vs
      induction vs with
      |nil =>
        intro k cur w hg _ _ _;simp only[storeCells,List.append_nil,List.length_nil,Nat.add_zero,List.take_append_drop,Array.toArray_toList];rw[setRow_self w B cur el fr hg];rfl
      |cons v rest ih =>
        intro k cur w hg hcur hl h1
        have hi:o+k<cur.size:=by simp at hl; omega
        have hcell:w.cell? ⟨B,o+k,none⟩=some cur[o+k]:=by simp[World.cell?,hg,hi]
        have hfro:w.frozen? ⟨B,o+k,none⟩=false:=by
          obtain⟨lo,hi'⟩:=fr;simp only[World.frozen?,hg,Bool.and_eq_false_iff,decide_eq_false_iff_not]
          left
          simp only at hfr
          omega
        have hst:(store ((⟨B,o,none⟩:Addr).add k) v).run P w=.ok () (w.setRow B (cur.setIfInBounds (o+k) v)):=by
          rw[addr_add,run_store P w _ v _ (h1 v (by simp)),hcell]
          simp[hfro,setCell_eq_setRow w B (o+k) cur el fr v hg]
        have ih':=ih (k+1) (cur.setIfInBounds (o+k) v) (w.setRow B (cur.setIfInBounds (o+k) v)) (setRow_heap w B cur _ el _ hg) (by simp[hcur]) (by simp at hl ⊢; omega) (fun x hx=>h1 x (by simp[hx]))
        simp only[storeCells,Sem.run_bind,hst,Result.andThen_ok,ih',setRow_setRow]
        congr 3
        have e:=list_seg_step cur.toList (o+k) v rest (by simp at hl ⊢; omega)
        simpa [Array.toList_setIfInBounds,Nat.add_assoc] using e
    have:=gen vs 0 cs w hg rfl (by omega) h1
    simpa using this
theorem XdB {P:Program}{ρ:Rho}{h:H}{w:World} (r:HRel ρ h w) {o i:Nat}{l:List V}{vs:List Value}{h':H}{p:Pl} (hp:ρ o=some p)
    (hl:VRels ρ h l vs) (e:WC h o i l=some h') :
    ∃ w',(storeCells ⟨p.B,p.b+i,none⟩ vs).run P w=.ok () w'/\Post ρ h w ρ h' w':=by
  obtain⟨m,t,sp,el,fz,hg,hm,hfz,hfl,hone,rfl⟩:=XbF e;have ho:=r.obj o p hp;rw[hg] at ho;obtain⟨cs,fr,hb,hN,hle,hsp,hcell,hfr⟩:=ho;have hlen:=hl.length
  have hfr2 : fr.2 ≤ p.b + i ∨ cs.size ≤ fr.1 := by
    cases fz with
    | none => rcases hfr with hfr | hfr
              . exact .inr (hN▸hfr)
              . exact .inl (by omega)
    |some k=>simp only[Option.getD_some] at hfz; have:fr.2<=p.b+k:=hfr; exact .inl (by omega)
  have hrun:=WG (P:=P) hb hfr2 (by rw[hlen]; omega) (XdA hl hone)
  refine⟨_,hrun,?_⟩
  refine XeS r hp (by simp) hfl rfl rfl rfl (size_setRow _ _ _) (fun B hB=>Xaj _ _ _ hB) ?_
  intro ρ' h' hv
  have hcl:p.b+i+vs.length<=cs.toList.length:=by simp; omega
  refine⟨_,fr,setRow_heap w p.B cs _ el fr hb,?_,hle,hsp,?_,hfr⟩
  . simp only[List.size_toArray,List.length_append,List.length_take,List.length_drop,Array.length_toList]; omega
  . intro j hj
    rw[XK]
    have hget:((cs.toList.take (p.b+i)++vs++cs.toList.drop (p.b+i+vs.length)).toArray)[p.b+j]? = if i<=j/\j<i+vs.length then vs[j-i]? else cs[p.b+j]? := by
      rw[List.getElem?_toArray,Xb0 _ _ _ hcl]
      by_cases hc:i<=j/\j<i+vs.length
      . rw[if_pos (by omega),if_pos hc]; congr 1; omega
      . rw[if_neg (by omega),if_neg hc,Array.getElem?_toList]
    rw[hget,hlen];split
    . rename_i hc
      have:j-i<l.length:=by omega
      obtain⟨x,hx,hr⟩:=hl.get (List.getElem?_eq_getElem this)
      exact⟨x,hx,hv _ _ (by rw[getD_of_getElem? (List.getElem?_eq_getElem this)]; exact hr)⟩
    . obtain⟨x,hx,hr⟩:=hcell j hj
      exact⟨x,hx,hv _ _ hr⟩
def Rho.add (ρ:Rho)(o:Nat)(p:Pl):Rho:=fun q=>if q=o then some p else ρ q
theorem XmG {ρ : Rho} {h : H} {w w' : World} (r : HRel ρ h w) {x : Obj} {p : Pl} (hB : p.B = w.heap.size)
    (hold:∀ B,B<w.heap.size->w'.heap[B]? = w.heap[B]?)
    (hself:∀ ρ' h',(∀ v y,VRel ρ h v y->VRel ρ' h' v y)->ORel ρ' h' w' p x):HRel (ρ.add h.n p) (h.push x) w':=by
  have hm:∀ v y,VRel ρ h v y->VRel (ρ.add h.n p) (h.push x) v y:=fun v y hv =>
    VRel.mono r.lt (Nat.le_succ _) (fun q hq hd=>by rw[H.get_push,if_neg (by omega)]; exact hd) (fun q hq=>.inl (by unfold Rho.add; rw[if_neg (by omega)])) hv
  refine⟨?_,?_,?_⟩
  . intro q pq hq
    rw[H.n_push];unfold Rho.add at hq;split at hq
    . omega
    . have:=r.lt q pq hq; omega
  . intro q pq hq
    rw[H.get_push];unfold Rho.add at hq;split at hq
    . rename_i e
      simp only[Option.some.injEq] at hq;subst hq e;rw[if_pos rfl];exact hself _ _ hm
    . rename_i hne
      rw[if_neg (fun e=>hne e.symm)]
      have hs:=(r.obj q pq hq).size
      have:=r.obj q pq hq
      revert this
      cases h.get q with
      |c n t sp el fz =>
        rintro⟨cs,fr,h1,h2,h3,h4,h5,h6⟩
        exact⟨cs,fr,(hold _ hs).trans h1,h2,h3,h4,fun i hi=>let ⟨v,hv,hr⟩:=h5 i hi; ⟨v,hv,hm _ _ hr⟩,h6⟩
      |si n x pos=>rintro⟨s,h1,h2⟩; exact⟨s,(hold _ hs).trans h1,h2⟩
      |m es=>exact id
      |dead=>exact id
  . intro q q' pq pq' hq hq' hb
    unfold Rho.add at hq hq';split at hq<;>split at hq'
    . exact .inl (by omega)
    . simp only[Option.some.injEq] at hq; subst hq
      have:=(r.obj q' pq' hq').size; omega
    . simp only[Option.some.injEq] at hq'; subst hq'
      have:=(r.obj q pq hq).size; omega
    . exact r.inj q q' pq pq' hq hq' hb
theorem Xgp {ρ:Rho}{h:H}{w w':World} (r:HRel ρ h w)(wh:wfh h) {x:Obj}{p:Pl} (hB:p.B=w.heap.size)
    (hos:w'.os=w.os) (htape:w'.tape=w.tape) (hout:w'.output=w.output) (hsize:w.heap.size<=w'.heap.size)
    (hold:∀ B,B<w.heap.size->w'.heap[B]? = w.heap[B]?)
    (hself:∀ ρ' h',(∀ v y,VRel ρ h v y->VRel ρ' h' v y)->ORel ρ' h' w' p x):Post ρ h w (ρ.add h.n p) (h.push x) w' :=
  ⟨.push wh.1 _,XmG r hB hold hself,⟨hos,htape,hout,hsize,fun B hB' _=>hold B hB',fun q hq=>.inl (by unfold Rho.add; rw[if_neg (by omega)]),fun q pq ho e=>by
    unfold Rho.add at e;split at e
    . simp only[Option.some.injEq] at e; subst e; exact .inl (by omega)
    . have:=r.lt q pq e; omega⟩⟩
theorem XaM {ρ:Rho}{h:H}{w w':World} (r:HRel ρ h w)(wh:wfh h) {l:List V}{vs rest:List Value} (hl:VRels ρ h l vs) {sp:Bool}{el:Nat}{fz:Option Nat}{fr:Nat×Nat}
    (hsp:sp=false->rest=[]) (hfr:FrOk fr ⟨w.heap.size,0,vs.length+rest.length⟩ fz)
    (hos:w'.os=w.os) (htape:w'.tape=w.tape) (hout:w'.output=w.output) (hheap:w'.heap=w.heap.push (.cells (vs++rest).toArray el fr)) :
    Post ρ h w (ρ.add h.n ⟨w.heap.size,0,vs.length+rest.length⟩) (X5 h l sp el fz) w':=by
  have hlen:=hl.length;refine Xgp r wh rfl hos htape hout (by rw[hheap]; simp) (fun B hB=>by rw[hheap,Array.getElem?_push,if_neg (by omega)]) ?_
  intro ρ' h' hv
  refine⟨(vs++rest).toArray,fr,by rw[hheap]; simp,by simp,by simp only; omega,fun e=>⟨rfl,by rw[hsp e]; simp[hlen]⟩,?_,hfr⟩
  intro i hi;rw[XK,if_pos (by omega)]
  obtain⟨x,hx,hr⟩:=hl.get (List.getElem?_eq_getElem hi)
  refine⟨x,?_,hv _ _ (by simp only[Nat.sub_zero]; rw[getD_of_getElem? (List.getElem?_eq_getElem hi)]; exact hr)⟩
  simp only[List.getElem?_toArray,Nat.zero_add];rw[List.getElem?_append_left (by omega)]
  exact hx
end Go.Vm
namespace Go.Vm
def ERel (ρ:Rho)(h:H)(e:T V)(tm:Array Value):Prop:=∀ i,VRel ρ h (e.get .bot i) (tm.getD i undef)
def GRel (G:Nat)(ρ:Rho)(h:H):Prop:=G<=h.n/\∀ g,g<G->(∃ N,ρ g=some ⟨g,0,N⟩)∨(ρ g=none/\h.get g=.dead)
mutual
theorem XbL (ρ:Rho)(h:H):∀ (v:Value)(x:V),ofValue v=some x->VRel ρ h x v
  | .bool b,x,e=>by simp only[ofValue,Option.some.injEq] at e; subst e; exact .bool b
  | .int k n,x,e=>by simp only[ofValue,Option.some.injEq] at e; subst e; exact .int k n
  | .float .f64 b,x,e=>by simp only[ofValue,Option.some.injEq] at e; subst e; exact .flt b
  | .float .f32 b,x,e=>by simp[ofValue] at e
  | .complex _ _ _,x,e=>by simp[ofValue] at e
  | .string s,x,e=>by
    simp only[ofValue,Option.some.injEq] at e;subst e
    have:=VRel.str (ρ:=ρ) (h:=h) s
    have hs:s.data.toList.length=s.size:=rfl
    rwa [hs] at this
  | .pointer none,x,e=>by simp only[ofValue,Option.some.injEq] at e; subst e; exact .nil
  | .pointer (some _),x,e=>by simp[ofValue] at e
  | .slice none 0 0,x,e=>by simp only[ofValue,Option.some.injEq] at e; subst e; exact .nils
  | .slice none 0 (_+1),x,e=>by simp[ofValue] at e
  | .slice none (_+1) _,x,e=>by simp[ofValue] at e
  | .slice (some _) _ _,x,e=>by simp[ofValue] at e
  | .map none,x,e=>by simp only[ofValue,Option.some.injEq] at e; subst e; exact .nilm
  | .map (some _),x,e=>by simp[ofValue] at e
  | .chan _,x,e=>by simp[ofValue] at e
  | .func _ _ _,x,e=>by simp[ofValue] at e
  | .nilFunc,x,e=>by simp only[ofValue,Option.some.injEq] at e; subst e; exact .nilf
  | .nilIface,x,e=>by simp only[ofValue,Option.some.injEq] at e; subst e; exact .nili
  | .iface t v,x,e=>by
    simp only[ofValue] at e;split at e
    . rename_i y hy
      simp only[Option.some.injEq] at e;subst e;exact .ifc (XbL ρ h v y hy)
    . cases e
  | .agg ⟨cs⟩,x,e=>by
    simp only[ofValue] at e;split at e
    . rename_i y hy
      simp only[Option.some.injEq] at e;subst e;exact .agg (Yc ρ h cs y hy)
    . cases e
  | .tuple ⟨cs⟩,x,e=>by
    simp only[ofValue] at e;split at e
    . rename_i y hy
      simp only[Option.some.injEq] at e;subst e;exact .tup (Yc ρ h cs y hy)
    . cases e
theorem Yc (ρ:Rho)(h:H):∀ (l:List Value)(xs:List V),ofValues l=some xs->VRels ρ h xs l
  |[],xs,e=>by simp only[ofValues,Option.some.injEq] at e; subst e; exact .nil
  |v::r,xs,e=>by
    simp only[ofValues] at e;split at e
    . rename_i y ys hy hys
      simp only[Option.some.injEq] at e;subst e;exact .cons (XbL ρ h v y hy) (Yc ρ h r ys hys)
    . cases e
end
section
variable {P:Program}{ρ:Rho}{h:H}{w:World}{e:T V}{a:Act}
theorem Xk0 (he:ERel ρ h e a.tmps)(hg:GRel P.globals.size ρ h) {x:Operand}{y:Opd} (ho:Xj P x=some y):VRel ρ h (opd e y) (a.eval x):=by
  unfold Xj at ho;split at ho
  . simp only[Option.some.injEq] at ho; subst ho; exact he _
  . split at ho
    . rename_i hv
      simp only[Option.some.injEq] at ho; subst ho; exact XbL ρ h _ _ hv
    . cases ho
  . split at ho
    . rename_i g hlt
      simp only[Option.some.injEq] at ho; subst ho
      rcases hg.2 g hlt with ⟨N,hN⟩ | ⟨h1,h2⟩
      . exact VRel.ptr (p:=⟨g,0,N⟩) hN
      . exact .ptrD (Nat.lt_of_lt_of_le hlt hg.1) h1 h2
    . cases ho
  . simp only[Option.some.injEq] at ho; subst ho; exact .fn .nil
theorem Xdo (he:ERel ρ h e a.tmps)(hg:GRel P.globals.size ρ h):∀ {xs:List Operand}{ys:List Opd},Zj P xs=some ys->VRels ρ h (ys.map (opd e)) (xs.map a.eval)
  |[],ys,ho=>by simp only[Zj,Option.some.injEq] at ho; subst ho; exact .nil
  |x::r,ys,ho=>by
    simp only[Zj] at ho;split at ho
    . rename_i y l hy hl
      simp only[Option.some.injEq] at ho;subst ho;exact .cons (Xk0 he hg hy) (Xdo he hg hl)
    . cases ho
def Out (P:Program)(o:Oper)(a:Act)(w:World)(v':Value)(w':World):Prop :=
  (execOp a.eval o).run P w=.ok (.value v') w'∨((execOp a.eval o).run P w=.ok .skip w'/\v'=undef)
def X9 (P:Program)(ρ:Rho)(h:H)(w:World)(a:Act)(o:Oper)(v:V)(h':H):Prop :=
  ∃ v' w' ρ',Out P o a w v' w'/\VRel ρ' h' v v'/\Post ρ h w ρ' h' w'
theorem Xf {o:Oper}{v:V}{v':Value} (r:HRel ρ h w)(hr:(execOp a.eval o).run P w=.ok (.value v') w)(hv:VRel ρ h v v'):X9 P ρ h w a o v h :=
  ⟨v',w,ρ,.inl hr,hv,.refl r⟩
theorem XkT {o:Oper}{v':Value}{w':World}{next:Act->World->Prop}{Q:Exit->Act->World->Prop} (ho:Out P o a w v' w')(hn:next (a.put o.dst v') w'):o.wp P a w next Q:=by
  unfold Oper.wp
  rcases ho with ho | ⟨ho,rfl⟩
  . rw[ho]; exact hn
  . rw[ho]; exact hn
theorem Ym {k:IntKind}{n:Int}{x:Value} (r:VRel ρ h (.int k n) x):x=.int k n:=by cases r; rfl
theorem Yr {b:Bool}{x:Value} (r:VRel ρ h (.bool b) x):x=.bool b:=by cases r; rfl
theorem Y9 {n y:Nat}{x:Value} (r:VRel ρ h (.str n y) x):∃ s:ByteArray,x=.string s/\n=s.data.toList.length/\y=numOf s.data.toList:=by cases r; exact⟨_,rfl,rfl,rfl⟩
theorem XbB {b:Nat}{x:Value} (r:VRel ρ h (.flt b) x):x=.float .f64 b:=by cases r; rfl
theorem XbC {l:List V}{x:Value} (r:VRel ρ h (.agg l) x):∃ cs:Array Value,x=.agg cs/\VRels ρ h l cs.toList:=by cases r; exact⟨_,rfl,by assumption⟩
theorem Xig {l:List V}{x:Value} (r:VRel ρ h (.tup l) x):∃ cs:Array Value,x=.tuple cs/\VRels ρ h l cs.toList:=by cases r; exact⟨_,rfl,by assumption⟩
theorem Xet {f:Nat}{l:List V}{x:Value} (r:VRel ρ h (.fn f l) x):∃ cs:Array Value,x=.func (.func f) #[] cs/\VRels ρ h l cs.toList:=by cases r; exact⟨_,rfl,by assumption⟩
theorem XeH {t:Nat}{v:V}{x:Value} (r:VRel ρ h (.ifc t v) x):∃ y,x=.iface t y/\VRel ρ h v y:=by cases r; exact⟨_,rfl,by assumption⟩
theorem XbA {x:Value} (r:VRel ρ h .nil x):x=.pointer none:=by cases r; rfl
theorem Ye {x:Value} (r:VRel ρ h .nils x):x=.slice none 0 0:=by cases r; rfl
theorem Xma {x:Value} (r:VRel ρ h .nan x):∃ b,Xep b/\x=.float .f64 b:=by cases r with | nan hb=>exact⟨_,hb,rfl⟩
theorem XkW {x:Value} (r:VRel ρ h .nani x):∃ b,Xep b/\x=.int .u64 b:=by cases r with | nani hb=>exact⟨_,hb,rfl⟩
theorem Xce {x:Value} (r:VRel ρ h .nili x):x=.nilIface:=by cases r; rfl
theorem Xcf {x:Value} (r:VRel ρ h .nilf x):x=.nilFunc:=by cases r; rfl
theorem Yl {o i:Nat}{x:Value} (r:VRel ρ h (.ptr o i) x)(al:h.get o ≠ .dead):∃ p,ρ o=some p/\x=.pointer (some ⟨p.B,p.b+i,none⟩):=by
  cases r
  . exact⟨_,by assumption,rfl⟩
  . contradiction
theorem Zx {o i n c s:Nat}{ex:Bool}{x:Value} (r:VRel ρ h (.sl o i n c s ex) x)(al:h.get o ≠ .dead) :
    ∃ p a c',ρ o=some p/\x=.slice (some a) n c'/\n<=c/\c<=c'/\(ex=true->c=c')/\(0<c'->a=⟨p.B,p.b+i,none⟩)/\p.b+i+c'*s<=p.N:=by
  cases r
  . exact⟨_,_,_,by assumption,rfl,by assumption,by assumption,by assumption,by assumption,by assumption⟩
  . contradiction
theorem YU {o:Nat} (e:alive h o=true):h.get o ≠ .dead:=by
  intro hd; unfold alive at e; rw[hd] at e; cases e
theorem Xc8 {v:V}{l:List V}{x:Value} (r:VRel ρ h v x)(e:v.cells=some l):VRels ρ h l x.cells.toList:=by
  unfold V.cells at e;split at e
  . simp only[Option.some.injEq] at e
    subst e;obtain⟨cs,rfl,hr⟩:=XbC r;exact hr
  . cases e
  . rename_i h1 h2
    simp only[Option.some.injEq] at e;subst e
    have:x.cells=#[x]:=by
      cases r<;>first | rfl | exact absurd rfl (h1 _) | exact absurd rfl h2
    rw[this];exact .cons r .nil
theorem Xar {t n:Nat} (e:Xq P t=some n):∃ i,P.info? t=some i/\i.size=n:=by
  unfold Xq at e;split at e
  . rename_i i hi
    simp only[Option.some.injEq] at e
    exact⟨i,hi,e⟩
  . cases e
theorem X6 {t n:Nat} (e:Xq P t=some n)(w:World):(Go.sizeOf t).run P w=.ok n w:=by
  obtain⟨i,hi,rfl⟩:=Xar e
  simp[Go.sizeOf,typeInfo,hi]
theorem Wu {t:Nat}{b:Bool} (e:isAg P t=some b)(w:World):(isAgg t).run P w=.ok b w:=by
  unfold isAg at e;split at e<;>simp only[Option.some.injEq,reduceCtorEq] at e<;>subst e
  . rename_i hu; simp[isAgg,run_underlying hu]
  . rename_i hu; simp[isAgg,run_underlying hu]
  . rename_i d h1 h2 hu
    simp only[isAgg,Sem.run_bind,run_underlying hu,Result.andThen_ok];rfl
theorem Zd {t : Nat} {z : List V} (e : zeroOf P t = some z) : ∃ i v, P.info? t = some i ∧ i.zero = some v ∧ ofValues v.cells.toList = some z ∧ z.length = i.size := by
  unfold zeroOf at e;split at e
  . rename_i i hi
    split at e
    . rename_i v hv
      split at e
      . rename_i l hl
        split at e
        . simp only[Option.some.injEq] at e
          subst e
          exact⟨i,v,hi,hv,hl,by assumption⟩
        . cases e
      . cases e
    . cases e
  . cases e
theorem Xdc {t:Nat}{i:TypeInfo}{v:Value} (hi:P.info? t=some i)(hv:i.zero=some v)(w:World):(zeroValue t).run P w=.ok v w:=by
  simp[zeroValue,typeInfo,hi,hv]
end
end Go.Vm
namespace Go.Vm
structure Cx (P:Program)(ρ:Rho)(h:H)(w:World)(e:T V)(a:Act):Prop where
  r:HRel ρ h w
  wh:wfh h
  we:wfe h.n e
  er:ERel ρ h e a.tmps
  gr:GRel P.globals.size ρ h
section
variable {P:Program}{ρ:Rho}{h:H}{w:World}{e:T V}{a:Act}{o:Oper}
theorem Cx.opd (c:Cx P ρ h w e a) {x:Operand}{y:Opd} (ho:Xj P x=some y):VRel ρ h (opd e y) (a.eval x):=Xk0 c.er c.gr ho
theorem Xis (c:Cx P ρ h w e a) {x:Operand}{y:Opd} (hop:o.op=.move x∨o.op=.assign x)(hy:Xj P x=some y):X9 P ρ h w a o (Vm.opd e y) h :=
  Xf c.r (by rcases hop with hop | hop<;>simp[execOp,hop]) (c.opd hy)
theorem Xm5 (c:Cx P ρ h w e a) {x y z:Operand}{x' y' z':Opd} (hop:o.op=.pick x y z)(hx:Xj P x=some x')(hy:Xj P y=some y')(hz:Xj P z=some z')
    {v:V}{h':H} (hs:Xad h (Vm.opd e y') (Vm.opd e z') (Vm.opd e x')=.ok v h'):X9 P ρ h w a o v h':=by
  have rx:=c.opd hx;unfold Xad at hs;split at hs
  . rename_i hb
    rw[hb] at rx;injection hs with h1 h2; subst h1 h2
    exact Xf c.r (by simp[execOp,hop,Yr rx,asBool]) (c.opd hy)
  . rename_i hb
    rw[hb] at rx;injection hs with h1 h2; subst h1 h2
    exact Xf c.r (by simp[execOp,hop,Yr rx,asBool]) (c.opd hz)
  . cases hs
theorem Xrt (c:Cx P ρ h w e a) {op:UnOp}{t:Nat}{x:Operand}{x':Opd} (hop:o.op=.unOp op t x)(hx:Xj P x=some x')
    {v:V} (hs:un op (Vm.opd e x')=some v):X9 P ρ h w a o v h:=by
  have rx:=c.opd hx;unfold un at hs;split at hs
  . rename_i hb; rw[hb] at rx; simp only[Option.some.injEq] at hs; subst hs
    exact Xf c.r (by simp[execOp,hop,Ym rx,Op.unary,Op.intArith]) (.int _ _)
  . rename_i hb; rw[hb] at rx; simp only[Option.some.injEq] at hs; subst hs
    exact Xf c.r (by simp[execOp,hop,Ym rx,Op.unary,Op.intBits]) (.int _ _)
  . rename_i hb; rw[hb] at rx; simp only[Option.some.injEq] at hs; subst hs
    exact Xf c.r (by simp[execOp,hop,Yr rx,Op.unary]) (.bool _)
  . cases hs
theorem Xat (op:BinOp)(t:TypeId)(x y:Operand)(u v:Value)(w:World)(h1:∀ cs,u ≠ .agg cs)(h2:u ≠ .nilIface):(eqGuard op t x y u v).run P w=.ok () w:=by
  unfold eqGuard
  cases op<;>(first | rfl | (simp only[Bool.not_true,Bool.false_eq_true,if_false]; split<;>first | exact absurd rfl h2 | exact absurd rfl (h1 _) | rfl))
theorem Xjl (op:BinOp)(k:IntKind)(m n:Int)(t:TypeId)(w:World) {v:V} (hop:op ≠ .shl)(hop':op ≠ .shr)(hs:Z4 op k m n=some v) :
    ∃ v',(binOp op t (.int k m) (.int k n)).run P w=.ok v' w/\VRel ρ h v v':=by
  cases op<;>simp only[Z4,Option.some.injEq,reduceCtorEq] at hs<;>(try (first | exact absurd rfl hop | exact absurd rfl hop'))
  case add=>subst hs; exact⟨_,by simp[binOp,Op.intArith] ,.int _ _⟩
  case sub=>subst hs; exact⟨_,by simp[binOp,Op.intArith] ,.int _ _⟩
  case mul=>subst hs; exact⟨_,by simp[binOp,Op.intArith] ,.int _ _⟩
  case quo =>
    split at hs
    . cases hs
    . rename_i hz
      simp only[Option.some.injEq] at hs; subst hs
      exact⟨_,by simp[binOp,Op.intDiv,hz] ,.int _ _⟩
  case rem =>
    split at hs
    . cases hs
    . rename_i hz
      simp only[Option.some.injEq] at hs; subst hs
      exact⟨_,by simp[binOp,Op.intDiv,hz] ,.int _ _⟩
  case and=>subst hs; exact⟨_,by simp only[binOp,Op.intBits,ne_eq,not_true_eq_false,if_false]; rfl,.int _ _⟩
  case or=>subst hs; exact⟨_,by simp only[binOp,Op.intBits,ne_eq,not_true_eq_false,if_false]; rfl,.int _ _⟩
  case xor=>subst hs; exact⟨_,by simp only[binOp,Op.intBits,ne_eq,not_true_eq_false,if_false]; rfl,.int _ _⟩
  case andNot=>subst hs; exact⟨_,by simp only[binOp,Op.intBits,ne_eq,not_true_eq_false,if_false]; rfl,.int _ _⟩
  case eql=>subst hs; exact⟨_,by simp[binOp,Op.intCmp] ,.bool _⟩
  case neq=>subst hs; exact⟨_,by simp[binOp,Op.intCmp] ,.bool _⟩
  case lss=>subst hs; exact⟨_,by simp[binOp,Op.intCmp] ,.bool _⟩
  case leq=>subst hs; exact⟨_,by simp[binOp,Op.intCmp] ,.bool _⟩
  case gtr=>subst hs; exact⟨_,by simp[binOp,Op.intCmp] ,.bool _⟩
  case geq=>subst hs; exact⟨_,by simp[binOp,Op.intCmp] ,.bool _⟩
theorem Xdd (op:BinOp)(hop:op=.shl∨op=.shr)(k k':IntKind)(m n:Int)(t:TypeId)(w:World) {v:V} (hs:Wt op k m n=some v) :
    ∃ v',(binOp op t (.int k m) (.int k' n)).run P w=.ok v' w/\VRel ρ h v v':=by
  unfold Wt at hs;split at hs
  . cases hs
  . rename_i hz
    rcases hop with rfl | rfl<;>(simp only[Option.some.injEq] at hs; subst hs)
    . exact⟨_,by simp[binOp,Op.shift,hz] ,.int _ _⟩
    . exact⟨_,by simp[binOp,Op.shift,hz] ,.int _ _⟩
theorem ZN (s:ByteArray):s.toList=s.data.toList:=ByteArray.toList_eq ..
theorem Xjk (op:BinOp)(s u:ByteArray)(t:TypeId)(w:World) {v:V} (hs:XcB op s.data.toList.length (numOf s.data.toList) u.data.toList.length (numOf u.data.toList)=some v) :
    ∃ v',(binOp op t (.string s) (.string u)).run P w=.ok v' w/\VRel ρ h v v':=by
  have hb:binOp op t (.string s) (.string u)=Op.stringOp op s u:=by cases op<;>rfl
  rw[hb];unfold Op.stringOp;simp only[ZN];unfold XcB at hs;rw[Yn,YK] at hs
  cases op<;>simp only[Option.some.injEq,reduceCtorEq] at hs<;>first
    | (subst hs; exact⟨_,rfl,.bool _⟩)
    |skip
  split at hs
  . rename_i hle
    simp only[Option.some.injEq] at hs;subst hs
    have hn:¬ (((s.size+u.size:Nat):Int) > IntKind.i64.max):=by
      have:IntKind.i64.max=9223372036854775807:=rfl
      have h1:s.data.toList.length=s.size:=rfl
      have h2:u.data.toList.length=u.size:=rfl
      rw[this]; omega
    refine⟨.string (s++u),by show Sem.run P (if _ then _ else _) w=_; rw[if_neg hn]; rfl,?_⟩
    rw[XcZ]
    have:=VRel.str (ρ:=ρ) (h:=h) (s++u)
    have e:(s++u).data.toList=s.data.toList++u.data.toList:=by simp
    rw[e,List.length_append] at this;exact this
  . cases hs
theorem Xjm (op:BinOp)(x y:Nat)(t:TypeId)(w:World) {v:V} (hs:Wj op x y=some v) :
    ∃ v' w',(binOp op t (.float .f64 x) (.float .f64 y)).run P w=.ok v' w'/\VRel ρ h v v'/\(w'=w∨w'={ w with drawn:=w.drawn+1 }):=by
  have ask:Xep ((Question.nanBits .f64 x y).cut (w.tape w.drawn (.nanBits .f64 x y))) :=
    ⟨w.tape w.drawn (.nanBits .f64 x y)%2,w.tape w.drawn (.nanBits .f64 x y) / 2%4503599627370495,Nat.mod_lt _ (by omega),Nat.mod_lt _ (by omega),rfl⟩
  have key:∀ (f:Option Nat) (s:Sem Value),s=(match f with
      |some r=>pure (Value.float .f64 r)
      |none=>(choose (.nanBits .f64 x y)).bind fun b=>pure (.float .f64 b))->∃ v' w',s.run P w=.ok v' w'/\VRel ρ h (Xi8 f) v'/\(w'=w∨w'={ w with drawn:=w.drawn+1 }):=by
    intro f s hs;subst hs
    cases f with
    |some z=>exact⟨_,_,rfl,.flt _,.inl rfl⟩
    |none=>exact⟨.float .f64 _,_,rfl,.nan ask,.inr rfl⟩
  unfold Wj at hs
  cases op<;>simp only[Option.some.injEq,reduceCtorEq] at hs
  case add=>subst hs; exact key _ _ (by show Op.floatArith .add .f64 x y=_; unfold Op.floatArith; cases FloatKind.f64.format.add x y<;>rfl)
  case sub=>subst hs; exact key _ _ (by show Op.floatArith .sub .f64 x y=_; unfold Op.floatArith; cases FloatKind.f64.format.sub x y<;>rfl)
  case mul=>subst hs; exact key _ _ (by show Op.floatArith .mul .f64 x y=_; unfold Op.floatArith; cases FloatKind.f64.format.mul x y<;>rfl)
  case eql=>subst hs; exact⟨_,w,by simp only[binOp,Op.floatCmp,ne_eq,not_true_eq_false,if_false]; rfl,.bool _,.inl rfl⟩
  case neq=>subst hs; exact⟨_,w,by simp only[binOp,Op.floatCmp,ne_eq,not_true_eq_false,if_false]; rfl,.bool _,.inl rfl⟩
theorem XoU (c : Cx P ρ h w e a) {op : BinOp} {t yt : Nat} {x y : Operand} {x' y' : Opd} (hop : o.op = .binOp op t x y yt) (hx : Xj P x = some x') (hy : Xj P y = some y')
    {v:V} (hs:bin op (Vm.opd e x') (Vm.opd e y')=some v):X9 P ρ h w a o v h:=by
  have rx:=c.opd hx;have ry:=c.opd hy
  have key:∀ u u' v',a.eval x=u->a.eval y=u'->(∀ cs,u ≠ .agg cs)->u ≠ .nilIface->(binOp op t u u').run P w=.ok v' w->VRel ρ h v v'->X9 P ρ h w a o v h:=by
    intro u u' v' hu hu' h1 h2 hr hv;refine Xf c.r (v':=v') ?_ hv
    simp[execOp,hop,hu,hu',Xat op t x y u u' w h1 h2,hr]
  unfold bin at hs;split at hs
  . rename_i k m k' n e1 e2
    rw[e1] at rx; rw[e2] at ry
    split at hs
    . obtain⟨v',hr,hv⟩:=Xdd (P:=P) (ρ:=ρ) (h:=h) .shl (.inl rfl) k k' m n t w hs
      exact key _ _ v' (Ym rx) (Ym ry) (by simp) (by simp) hr hv
    . obtain⟨v',hr,hv⟩:=Xdd (P:=P) (ρ:=ρ) (h:=h) .shr (.inr rfl) k k' m n t w hs
      exact key _ _ v' (Ym rx) (Ym ry) (by simp) (by simp) hr hv
    . rename_i h1 h2
      split at hs
      . rename_i hk
        subst hk;obtain⟨v',hr,hv⟩:=Xjl (P:=P) (ρ:=ρ) (h:=h) op k m n t w h1 h2 hs;exact key _ _ v' (Ym rx) (Ym ry) (by simp) (by simp) hr hv
      . cases hs
  . rename_i e1 e2
    rw[e1] at rx; rw[e2] at ry
    obtain⟨s,hs1,hs2,hs3⟩:=Y9 rx;obtain⟨u,hu1,hu2,hu3⟩:=Y9 ry;rw[hs2,hs3,hu2,hu3] at hs;obtain⟨v',hr,hv⟩:=Xjk (P:=P) (ρ:=ρ) (h:=h) op s u t w hs;exact key _ _ v' hs1 hu1 (by simp) (by simp) hr hv
  . rename_i e1 e2
    rw[e1] at rx; rw[e2] at ry
    obtain⟨v',w',hr,hv,hw⟩:=Xjm (P:=P) (ρ:=ρ) (h:=h) op _ _ t w hs
    rcases hw with rfl | rfl
    . exact key _ _ v' (XbB rx) (XbB ry) (by simp) (by simp) hr hv
    . have hu:=XbB rx
      have hu':=XbB ry
      refine⟨v',{ w with drawn:=w.drawn+1 },ρ,.inl ?_,hv,XgA c.r⟩
      simp[execOp,hop,hu,hu',Xat op t x y (.float .f64 _) (.float .f64 _) w (by simp) (by simp),hr]
  . cases hs
theorem XoP (c:Cx P ρ h w e a) {s d:Nat}{x:Operand}{x':Opd}{k k0:IntKind} (hop:o.op=.convert s d x)(hx:Xj P x=some x')(hsu:P.underlying s=some (.int k0))(hdu:P.underlying d=some (.int k))
    {v:V}{h':H} (hs:sCvi h k (Vm.opd e x')=.ok v h'):X9 P ρ h w a o v h':=by
  have rx:=c.opd hx;unfold sCvi at hs;split at hs
  . rename_i hb; rw[hb] at rx
    injection hs with h1 h2; subst h1 h2
    exact Xf c.r (by simp[execOp,hop,Ym rx,convert,run_underlying hsu,run_underlying hdu,Conv.intToInt] ) (.int _ _)
  . cases hs
theorem XoO (c:Cx P ρ h w e a) {s d:Nat}{x:Operand}{x':Opd} (hop:o.op=.convert s d x)(hx:Xj P x=some x')(hsu:P.underlying s=some .string)(hdu:P.underlying d=some .string)
    {v:V}{h':H} (hs:sCvs h (Vm.opd e x')=.ok v h'):X9 P ρ h w a o v h':=by
  have rx:=c.opd hx;unfold sCvs at hs;split at hs
  . rename_i hb; rw[hb] at rx
    injection hs with h1 h2; subst h1 h2
    obtain⟨s,hs1,_⟩:=Y9 rx;exact Xf c.r (by simp[execOp,hop,hs1,convert,run_underlying hsu,run_underlying hdu] ) (hs1▸rx)
  . cases hs
theorem XoE (c:Cx P ρ h w e a) {t:Nat}{x:Operand}{x':Opd}{d:TypeDesc} (hop:o.op=.makeInterface t x)(hx:Xj P x=some x')(hu:P.underlying t=some d)(hd:∀ ms,d ≠ .interface ms) :
    X9 P ρ h w a o (.ifc t (Vm.opd e x')) h:=by
  refine Xf (v':=.iface t (a.eval x)) c.r ?_ (.ifc (c.opd hx));simp only[execOp,hop,Sem.run_bind,Instr.makeInterface,run_underlying hu,Result.andThen_ok];rfl
theorem XoF (c:Cx P ρ h w e a) {f:Nat}{caps:Array Operand}{l:List Opd} (hop:o.op=.makeFunc (.func f) #[] caps)(hl:Zj P caps.toList=some l) :
    X9 P ρ h w a o (.fn f (l.map (Vm.opd e))) h:=by
  refine Xf (v':=.func (.func f) #[] (caps.map a.eval)) c.r ?_ (.fn ?_)
  . simp[execOp,hop,Instr.makeFunc]
  . have:=Xdo c.er c.gr hl
    simpa using this
theorem XoN (c:Cx P ρ h w e a) {i:Nat}{x:Operand}{x':Opd} (hop:o.op=.extract x i)(hx:Xj P x=some x') {v:V}{h':H} (hs:sExt h i (Vm.opd e x')=.ok v h'):X9 P ρ h w a o v h':=by
  have rx:=c.opd hx;unfold sExt at hs;split at hs
  . rename_i hb; rw[hb] at rx
    obtain⟨cs,hcs,hr⟩:=Xig rx;split at hs
    . rename_i hv
      injection hs with h1 h2; subst h1 h2
      obtain⟨y,hy,hyr⟩:=hr.get hv;rw[Array.getElem?_toList] at hy;exact Xf c.r (by simp[execOp,hop,hcs,Instr.extract,hy] ) hyr
    . cases hs
  . cases hs
theorem Yh {v:V}{n:Nat}{x:Value} (r:VRel ρ h v x)(hn:Za v=some n):∃ k,x=.int k (n:Int):=by
  unfold Za at hn;split at hn
  . simp only[Option.some.injEq] at hn; subst hn; exact⟨_,Ym r⟩
  . cases hn
theorem XoJ (c : Cx P ρ h w e a) {t : Nat} {x y : Operand} {x' y' : Opd} (hop : o.op = .index t x y) (hu : P.underlying t = some .string) (hx : Xj P x = some x') (hy : Xj P y = some y')
    {v:V}{h':H} (hs:sIxt h (Vm.opd e x') (Vm.opd e y')=.ok v h'):X9 P ρ h w a o v h':=by
  have rx:=c.opd hx;have ry:=c.opd hy;unfold sIxt at hs;split at hs
  . rename_i n z k hb hk; rw[hb] at rx
    obtain⟨s,hs1,hs2,hs3⟩:=Y9 rx;obtain⟨kk,hy1⟩:=Yh ry hk;split at hs
    . rename_i hlt
      injection hs with h1 h2; subst h1 h2
      have hlt':k<s.data.toList.length:=hs2▸hlt
      have hge:s[k]? = some (s.data.toList[k]):=by
        have:k<s.size:=hlt'
        rw[getElem?_pos s k this];rfl
      refine Xf (v':=.int .u8 (s.data.toList[k]).toNat) c.r ?_ ?_
      . simp[execOp,hop,hs1,hy1,Instr.index,asIntOf,run_underlying hu,hge]
      . have:=Z5 s.data.toList k hlt'
        rw[hs2,hs3,this];exact .int _ _
    . cases hs
  . cases hs
end
end Go.Vm
namespace Go.Vm
section
variable {P:Program}{ρ:Rho}{h:H}{w:World}{e:T V}{a:Act}{o:Oper}
theorem Xkn (c:Cx P ρ h w e a) {l:List V}{cs:Array Value}{el:Nat} (hl:VRels ρ h l cs.toList)
    (hrun:(execOp a.eval o).run P w=.ok (.value (.pointer (some ⟨w.heap.size,0,none⟩))) { w with heap:=w.heap.push (.cells cs el) }) :
    X9 P ρ h w a o (.ptr h.n 0) (X5 h l false el (some 0)):=by
  refine⟨_,_,ρ.add h.n ⟨w.heap.size,0,cs.toList.length+([]:List Value).length⟩,.inl hrun,?_,?_⟩
  . have:=VRel.ptr (ρ:=ρ.add h.n ⟨w.heap.size,0,cs.toList.length+([]:List Value).length⟩) (h:=X5 h l false el (some 0)) (o:=h.n) (i:=0) (p:=⟨w.heap.size,0,cs.toList.length+([]:List Value).length⟩) (by simp[Rho.add])
    simpa using this
  . exact XaM c.r c.wh hl (rest:=[]) (fr:=(0,0)) (fun _=>rfl) (Nat.zero_le _) rfl rfl rfl (by simp)
theorem XoY (c:Cx P ρ h w e a) {t:Nat}{z:List V} (hop:o.op=.alloc t)(hz:zeroOf P t=some z) :
    X9 P ρ h w a o (.ptr h.n 0) (X5 h z false t (some 0)):=by
  obtain⟨i,v,hi,hv,hvs,hlen⟩:=Zd hz;refine Xkn (cs:=v.cells) c (Yc ρ h _ _ hvs) ?_
  simp[execOp,hop,Instr.alloc,Xdc hi hv,newVar,newRow]
theorem XoT (c:Cx P ρ h w e a) {t:Nat}{x:Operand}{x':Opd} (hop:o.op=.box t x)(hx:Xj P x=some x') {v:V}{h':H} (hs:sBox h t (Vm.opd e x')=.ok v h') :
    X9 P ρ h w a o v h':=by
  unfold sBox at hs;split at hs
  . rename_i l hl
    injection hs with h1 h2; subst h1 h2
    refine Xkn (cs:=(a.eval x).cells) c (Xc8 (c.opd hx) hl) ?_
    simp[execOp,hop,Instr.box,newVar,newRow]
  . cases hs
theorem XbS:∀ (l:List (Value×Nat))(off:Nat)(cs:Array Value),(l.foldl (fun cs (c,j)=>cs.setIfInBounds (off+j) c) cs).size=cs.size
  |[],_,_=>rfl
  | (x,j)::l,off,cs=>by
    rw[List.foldl_cons,XbS l off _]; simp
theorem Xc4 : ∀ (l : List Value) (k off : Nat) (cs : Array Value) (i : Nat), off + k + l.length ≤ cs.size →
    ((l.zipIdx k).foldl (fun cs (x:Value×Nat)=>cs.setIfInBounds (off+x.2) x.1) cs)[i]? = if off+k<=i/\i<off+k+l.length then l[i-(off+k)]? else cs[i]?
  |[],k,off,cs,i,_=>by simp; intro _ _; omega
  |v::l,k,off,cs,i,hle=>by
    simp only[List.zipIdx_cons,List.foldl_cons];simp only[List.length_cons] at hle;rw[Xc4 l (k+1) off _ i (by simp; omega)]
    rw[Array.getElem?_setIfInBounds];simp only[List.length_cons]
    by_cases h1:off+k=i
    . subst h1
      rw[if_neg (by omega),if_pos rfl,if_pos (by omega),if_pos (by omega)]
      simp
    . by_cases h2:off+(k+1)<=i/\i<off+(k+1)+l.length
      . rw[if_pos h2,if_pos (by omega)]
        have:i-(off+k)=(i-(off+(k+1)))+1:=by omega
        rw[this,List.getElem?_cons_succ]
      . rw[if_neg h2,if_neg h1,if_neg (by omega)]
theorem Xdw (c : Cx P ρ h w e a) (place : Nat → Option (Nat × Nat)) : ∀ (ps : List (Nat × Operand)) (l : List (Nat × Nat × Opd)) (z z' : List V) (cs : Array Value),
    partsOf P place ps=some l->VRels ρ h z cs.toList->fill e z l=some z' ->
    ∃ cs':Array Value,Instr.fill place cs (ps.map fun x=>(x.1,a.eval x.2))=some cs'/\VRels ρ h z' cs'.toList/\z'.length=z.length
  |[],l,z,z',cs,hp,hz,hf=>by
    simp only[partsOf,Option.some.injEq] at hp; subst hp
    simp only[fill,Option.some.injEq] at hf; subst hf
    exact⟨cs,rfl,hz,rfl⟩
  | (i, x) :: ps, l, z, z', cs, hp, hz, hf => by
    simp only[partsOf] at hp;split at hp
    . rename_i off n y l' hpl hx hr
      simp only[Option.some.injEq] at hp; subst hp
      simp only[fill] at hf;split at hf
      . rename_i cc hcc
        split at hf
        . rename_i hle
          have hc:=Xc8 (c.opd hx) hcc;have hlen:=hc.length;have hzl:=hz.length;simp only[Array.length_toList] at hlen hzl
          have hz':VRels ρ h (Zg z off cc) (((a.eval x).cells.zipIdx.foldl (fun cs (x:Value×Nat)=>cs.setIfInBounds (off+x.2) x.1) cs)).toList:=by
            have Xnq:(a.eval x).cells.zipIdx.foldl (fun cs (x:Value×Nat)=>cs.setIfInBounds (off+x.2) x.1) cs=(((a.eval x).cells.toList.zipIdx 0).foldl (fun cs (x:Value×Nat)=>cs.setIfInBounds (off+x.2) x.1) cs):=by
              rw[← Array.foldl_toList]; simp
            rw[Xnq];refine VRels.of_get ?_ ?_
            . rw[Array.length_toList,XbS,Xb1 _ _ _ (by omega)]; omega
            . intro j v y hv hy
              rw[Array.getElem?_toList,Xc4 _ 0 off cs j (by simp; omega)] at hy
              rw[getElem?_setRange _ _ _ (by omega)] at hv
              simp only[Nat.add_zero,Array.length_toList] at hy
              by_cases hj:off<=j/\j<off+cc.length
              . rw[if_pos hj] at hv
                rw[if_pos (by omega)] at hy
                obtain⟨y',hy',hr'⟩:=hc.get hv;rw[hy'] at hy; simp only[Option.some.injEq] at hy; subst hy; exact hr'
              . rw[if_neg hj] at hv
                rw[if_neg (by omega)] at hy
                obtain⟨y',hy',hr'⟩:=hz.get hv;rw[Array.getElem?_toList,hy] at hy'; simp only[Option.some.injEq] at hy'; subst hy'; exact hr'
          obtain⟨cs',h1,h2,h3⟩:=Xdw c place ps l' _ z' _ hr hz' hf
          refine⟨cs',?_,h2,by rw[h3,Xb1 _ _ _ (by omega)]⟩
          simp only[List.map_cons,Instr.fill,hpl];rw[if_neg (by simp; omega)]
          exact h1
        . cases hf
      . cases hf
    . cases hp
theorem Xbx {fs:Array Field} (w:World):∀ (l:List Field),(∀ f∈l,(Xq P f.type).isSome) ->
    (l.mapM fun f=>do pure (f.offset,← Go.sizeOf f.type):Sem (List (Nat×Nat))).run P w=.ok (l.map fun f=>(f.offset,(Xq P f.type).getD 0)) w
  |[],_=>by simp
  |f::l,hl=>by
    have h0:=hl f (by simp)
    obtain⟨n,hn⟩:=Option.isSome_iff_exists.1 h0;have ih:=Xbx (fs:=fs) w l (fun g hg=>hl g (by simp[hg]))
    simp only[List.mapM_cons,Sem.run_bind,X6 hn,Result.andThen_ok,Sem.run_pure,ih,List.map_cons,hn,Option.getD_some]
end
end Go.Vm
namespace Go.Vm
section
variable {P:Program}{ρ:Rho}{h:H}{w:World}{e:T V}{a:Act}{o:Oper}
theorem XeO (c : Cx P ρ h w e a) {t : Nat} {ps : Array (Nat × Operand)} {fs : Array Field} {z : List V} {l : List (Nat × Nat × Opd)} (hop : o.op = .build t ps) (hz : zeroOf P t = some z) (hu : P.underlying t = some (.struct fs))
    (hfs:fs.toList.all (fun f=>(Xq P f.type).isSome)=true) (hl:partsOf P (Wy P fs) ps.toList=some l) {v:V}{h':H} (hs:sBld e h z l=.ok v h'):X9 P ρ h w a o v h':=by
  obtain⟨i,zv,hi,hv,hvs,hlen⟩:=Zd hz;unfold sBld at hs;split at hs
  . rename_i l' hf
    injection hs with h1 h2; subst h1 h2
    obtain⟨cs',g1,g2,_⟩:=Xdw c (Wy P fs) ps.toList l z l' zv.cells hl (Yc ρ h _ _ hvs) hf;refine Xf (v':=.agg cs') c.r ?_ (.agg g2)
    have hall:∀ f∈fs.toList,(Xq P f.type).isSome:=List.all_eq_true.1 hfs
    have hm:(fs.mapM fun f=>do pure (f.offset,← Go.sizeOf f.type):Sem (Array (Nat×Nat))).run P w=.ok (fs.map fun f=>(f.offset,(Xq P f.type).getD 0)) w:=by
      rw[Array.mapM_eq_mapM_toList,Sem.run_map,Xbx (fs:=fs) w _ hall];simp only[Result.andThen_ok]
      congr 1
      apply Array.ext'
      simp
    have hpl:(fun i=>(fs.map fun f=>(f.offset,(Xq P f.type).getD 0))[i]?)=Wy P fs:=by
      funext i
      simp only[Wy,Array.getElem?_map]
      cases hf:fs[i]? with
      |none=>rfl
      |some f =>
        have hmem:f∈fs.toList:=by rw[Array.mem_toList_iff]; exact Array.mem_of_getElem? hf
        obtain⟨n,hn⟩:=Option.isSome_iff_exists.1 (hall f hmem)
        simp[hn]
    simp only[execOp,hop,Instr.build,Sem.run_bind,Xdc hi hv,Result.andThen_ok,run_underlying hu,hm,hpl]
    have hps:(ps.map fun x=>(x.1,a.eval x.2)).toList=ps.toList.map fun x=>(x.1,a.eval x.2):=by simp
    have:(ps.map fun (i,x)=>(i,a.eval x))=ps.map fun x=>(x.1,a.eval x.2):=rfl
    rw[this,hps,g1]
    simp
  . cases hs
theorem XfX (c:Cx P ρ h w e a) {t el n s:Nat}{ps:Array (Nat×Operand)}{z:List V}{l:List (Nat×Nat×Opd)} (hop:o.op=.build t ps)(hz:zeroOf P t=some z)(hu:P.underlying t=some (.array n el))
    (hsz:Xq P el=some s) (hl:partsOf P (fun i=>some (i*s,s)) ps.toList=some l) {v:V}{h':H} (hs:sBld e h z l=.ok v h'):X9 P ρ h w a o v h':=by
  obtain⟨i,zv,hi,hv,hvs,hlen⟩:=Zd hz;unfold sBld at hs;split at hs
  . rename_i l' hf
    injection hs with h1 h2; subst h1 h2
    obtain⟨cs',g1,g2,_⟩:=Xdw c (fun i=>some (i*s,s)) ps.toList l z l' zv.cells hl (Yc ρ h _ _ hvs) hf
    refine Xf (v':=.agg cs') c.r ?_ (.agg g2);simp only[execOp,hop,Instr.build,Sem.run_bind,Xdc hi hv,Result.andThen_ok,run_underlying hu,X6 hsz]
    have hps:(ps.map fun x=>(x.1,a.eval x.2)).toList=ps.toList.map fun x=>(x.1,a.eval x.2):=by simp
    have:(ps.map fun (i,x)=>(i,a.eval x))=ps.map fun x=>(x.1,a.eval x.2):=rfl
    rw[this,hps,g1]
    simp
  . cases hs
theorem Xiy {z : List V} {cs : List Value} (hz : VRels ρ h z cs) (hlen : 0 < z.length) : ∀ n, VRels ρ h (repl z n) ((List.range (n * z.length)).map fun i => cs[i % z.length]?.getD undef)
  |0=>by simp; exact .nil
  | n + 1 => by
    have hcs:=hz.length
    have:(List.range ((n+1)*z.length)).map (fun i=>cs[i%z.length]?.getD undef)=cs++(List.range (n*z.length)).map (fun i=>cs[i%z.length]?.getD undef):=by
      rw[show (n+1)*z.length=z.length+n*z.length by rw[Nat.add_mul]; omega,List.range_add,List.map_append]
      congr 1
      . apply List.ext_getElem?
        intro i
        by_cases hi:i<z.length
        . rw[List.getElem?_map,List.getElem?_range hi]
          simp[Nat.mod_eq_of_lt hi,List.getElem?_eq_getElem (show i<cs.length by omega)]
        . rw[List.getElem?_eq_none (by simp; omega),List.getElem?_eq_none (by omega)]
      . rw[List.map_map]
        apply List.map_congr_left
        intro i _
        simp[Nat.add_mod_left]
    rw[this];exact hz.append (Xiy hz hlen n)
theorem Xax (z:List V):∀ n,(repl z n).length=n*z.length
  |0=>by simp[repl]
  |n+1=>by simp[repl,Xax z n,Nat.add_mul]; omega
theorem XeB {z:List V}{cs:Array Value} (hz:VRels ρ h z cs.toList)(hlen:0<z.length)(n:Nat) :
    VRels ρ h (repl z n) ((Array.range (n*z.length)).map (cs[· % cs.size]!)).toList:=by
  have hc:=hz.length;simp only[Array.length_toList] at hc
  have:=Xiy hz hlen n
  refine cast ?_ this
  congr 1
  simp only[Array.toList_map,Array.toList_range]
  apply List.map_congr_left
  intro i _
  have hm:i%z.length<cs.size:=by rw[hc]; exact Nat.mod_lt _ hlen
  rw[hc]
  simp[Array.getElem?_toList,hm,getElem!_pos cs (i%z.length) hm]
theorem XoS (c : Cx P ρ h w e a) {t len el s : Nat} {ps : Array (Nat × Operand)} {z : List V} {l : List (Nat × Nat × Opd)} (hop : o.op = .buildSlice t len ps) (hu : P.underlying t = some (.slice el)) (hz : zeroOf P el = some z)
    (hsz:Xq P el=some (s+1)) (hl:partsOf P (fun i=>some (i*(s+1),s+1)) ps.toList=some l) (hle:len*(s+1)<=16777216) {v:V}{h':H} (hs:sBsl e h z len (s+1) el l=.ok v h'):X9 P ρ h w a o v h':=by
  obtain⟨i,zv,hi,hv,hvs,hlen⟩:=Zd hz;obtain⟨i',hi',hsize⟩:=Xar hsz;rw[hi,Option.some.injEq] at hi';subst hi';rw[hsize] at hlen;unfold sBsl at hs;split at hs
  . rename_i l' hf
    injection hs with h1 h2; subst h1 h2
    have hzr:=Yc ρ h _ _ hvs;have hrow:=XeB hzr (by omega) len
    obtain⟨cs',g1,g2,g3⟩:=Xdw c (fun i=>some (i*(s+1),s+1)) ps.toList l _ l' _ hl hrow hf
    rw[Xax,hlen] at g3
    have hcsz:zv.cells.size=s+1:=by have:=hzr.length; simp only[Array.length_toList] at this; omega
    have hps:(ps.map fun x=>(x.1,a.eval x.2)).toList=ps.toList.map fun x=>(x.1,a.eval x.2):=by simp
    have hpe:(ps.map fun (i,x)=>(i,a.eval x))=ps.map fun x=>(x.1,a.eval x.2):=rfl
    have hbig:¬ len*(s+1) > 2 ^ 24:=by omega
    have hcs:=g2.length;simp only[Array.length_toList] at hcs
    have hrun:(execOp a.eval o).run P w=.ok (.value (.slice (some ⟨w.heap.size,0,none⟩) len len)) { w with heap:=w.heap.push (.cells cs' el) }:=by
      simp only[execOp,hop,Instr.buildSlice,Sem.run_bind,run_underlying hu,Result.andThen_ok,X6 hsz,Sem.run_ite,hbig,if_false]
      by_cases h0:len*(s+1)=0
      . have hl0:len=0:=by rcases Nat.mul_eq_zero.1 h0 with h | h<;>omega
        subst hl0;simp only[Nat.zero_mul,if_true,Sem.run_pure,Result.andThen_ok];rw[hpe,hps]
        have e0:∀ f:Nat->Value,(Array.range 0).map f=#[]:=fun f=>by simp
        rw[e0];rw[Nat.zero_mul,e0] at g1;rw[g1]
        simp[newRow]
      . simp only[h0,if_false,Sem.run_bind,Xdc hi hv,Result.andThen_ok,Sem.run_pure]
        rw[hpe,hps];rw[hlen] at g1;rw[g1]
        simp[newRow]
    refine⟨_,_,ρ.add h.n ⟨w.heap.size,0,cs'.toList.length+([]:List Value).length⟩,.inl hrun,?_,?_⟩
    . refine .sl (p:=⟨w.heap.size,0,cs'.toList.length+([]:List Value).length⟩) (by simp[Rho.add]) (Nat.le_refl _) (Nat.le_refl _) (fun _=>rfl) (fun _=>rfl) ?_
      simp only[Nat.zero_add,Array.length_toList,List.length_nil,Nat.add_zero];omega
    . exact XaM c.r c.wh g2 (rest:=[]) (fr:=(0,0)) (fun _=>rfl) (Nat.zero_le _) rfl rfl rfl (by simp)
  . cases hs
theorem Xrv (c : Cx P ρ h w e a) {t : Nat} {x : Operand} {x' : Opd} (hop : o.op = .load t x) (hx : Xj P x = some x') (ha : isAg P t = some false) {v : V} {h' : H} (hs : sLd h (Vm.opd e x') = .ok v h') : X9 P ρ h w a o v h' := by
  have rx:=c.opd hx;unfold sLd at hs;split at hs
  . rename_i q i hb
    rw[hb] at rx;split at hs
    . rename_i u hl
      injection hs with h1 h2; subst h1 h2
      obtain⟨m,t',sp,el,fz,hg,_,_⟩:=Zk hl;obtain⟨p,hp,hxe⟩:=Yl rx (by rw[hg]; simp)
      obtain⟨vs,r1,r2,r3,r4⟩:=ZK (P:=P) c.r hp hl
      cases r1 with
      |cons r1a r1b =>
        cases r1b;have hc:=r4 0 _ rfl;simp only[Nat.add_zero] at hc;exact Xf c.r (by simp[execOp,hop,hxe,Instr.loadAt,Instr.sureAddr,loadVar,Wu ha,hc]) r1a
    . cases hs
  . cases hs
theorem XoI (c:Cx P ρ h w e a) {t n:Nat}{x:Operand}{x':Opd} (hop:o.op=.load t x)(hx:Xj P x=some x')(ha:isAg P t=some true)(hn:Xq P t=some n) {v:V}{h':H} (hs:sLdn h n (Vm.opd e x')=.ok v h'):X9 P ρ h w a o v h':=by
  have rx:=c.opd hx;unfold sLdn at hs;split at hs
  . rename_i q i hb
    rw[hb] at rx;split at hs
    . rename_i u hl
      injection hs with h1 h2; subst h1 h2
      obtain⟨m,t',sp,el,fz,hg,_,_⟩:=Zk hl;obtain⟨p,hp,hxe⟩:=Yl rx (by rw[hg]; simp)
      obtain⟨vs,r1,r2,r3,r4⟩:=ZK (P:=P) c.r hp hl;exact Xf (v':=.agg vs.toArray) c.r (by simp[execOp,hop,hxe,Instr.loadAt,Instr.sureAddr,loadVar,Wu ha,X6 hn,r3]) (.agg (by simpa using r1))
    . cases hs
  . cases hs
theorem Xru (c : Cx P ρ h w e a) {t n : Nat} {x y : Operand} {x' y' : Opd} (hop : o.op = .store t x y) (hx : Xj P x = some x') (hy : Xj P y = some y') (hn : Xq P t = some n) {v : V} {h' : H} (hs : sSt h n (Vm.opd e x') (Vm.opd e y') = .ok v h') : X9 P ρ h w a o v h' := by
  have rx:=c.opd hx;have ry:=c.opd hy;unfold sSt at hs;split at hs
  . rename_i q i hb
    rw[hb] at rx;split at hs
    . rename_i l hl
      split at hs
      . rename_i hlen
        split at hs
        . rename_i h1 hst
          injection hs with e1 e2; subst e1 e2
          obtain⟨m,t',sp,el,fz,hg,_⟩:=XbF hst;obtain⟨p,hp,hxe⟩:=Yl rx (by rw[hg]; simp)
          have hc:=Xc8 ry hl;obtain⟨w',hr,hpost⟩:=XdB (P:=P) c.r hp hc hst;have hsz:=hc.length;simp only[Array.length_toList] at hsz
          refine⟨undef,w',ρ,.inr ⟨?_,rfl⟩,.tup .nil,hpost⟩
          have hne:¬ ((a.eval y).cells.size ≠ n):=by omega
          simp[execOp,hop,hxe,Instr.storeAt,Instr.sureAddr,storeVar,X6 hn,hne,hr]
        . cases hs
      . cases hs
    . cases hs
  . cases hs
theorem XoC (c:Cx P ρ h w e a) {x:Operand}{x':Opd} (hop:o.op=.nilCheck x)(hx:Xj P x=some x') {v:V}{h':H} (hs:sNck h (Vm.opd e x')=.ok v h'):X9 P ρ h w a o v h':=by
  have rx:=c.opd hx;unfold sNck at hs;split at hs
  . rename_i q i hb
    rw[hb] at rx;split at hs
    . rename_i hal
      injection hs with h1 h2; subst h1 h2
      obtain⟨p,hp,hxe⟩:=Yl rx (YU hal);exact Xf c.r (by simp[execOp,hop,hxe]) (hxe▸rx)
    . cases hs
  . rename_i f l hb
    rw[hb] at rx;injection hs with h1 h2; subst h1 h2
    obtain⟨cs,hxe,_⟩:=Xet rx;exact Xf c.r (by simp[execOp,hop,hxe]) (hxe▸rx)
  . cases hs
theorem XoM (c:Cx P ρ h w e a) {t f n:Nat}{fs:Array Field}{fl:Field}{x:Operand}{x':Opd} (hop:o.op=.fieldAddr t x f)(hu:P.underlying t=some (.struct fs))(hf:fs[f]? = some fl)(hn:Xq P fl.type=some (n+1))(hx:Xj P x=some x')
    {v:V}{h':H} (hs:sFad h fl.offset (Vm.opd e x')=.ok v h'):X9 P ρ h w a o v h':=by
  have rx:=c.opd hx;unfold sFad at hs;split at hs
  . rename_i q i hb
    rw[hb] at rx;split at hs
    . rename_i hal
      injection hs with h1 h2; subst h1 h2
      obtain⟨p,hp,hxe⟩:=Yl rx (YU hal);refine Xf (v':=.pointer (some ⟨p.B,p.b+(i+fl.offset),none⟩)) c.r ?_ (.ptr hp)
      simp[execOp,hop,hxe,Instr.fieldAt,run_underlying hu,hf,Instr.sureAddr,fieldPlace,X6 hn,addr_add,Nat.add_assoc]
    . cases hs
  . cases hs
theorem Xi7 (c : Cx P ρ h w e a) {l : List V} {cs : Array Value} (hr : VRels ρ h l cs.toList) {t off n : Nat} {ag : Bool} (hn : Xq P t = some n) (ha : isAg P t = some ag) (h1 : ag = false → n = 1 ∨ True) {v : V} {h' : H}
    (hs:partOf h l off (if ag then n else 1) ag=.ok v h'):h'=h/\∃ v',(part t cs off).run P w=.ok v' w/\VRel ρ h v v':=by
  unfold partOf at hs
  cases ag with
  |true =>
    simp only[if_true] at hs;split at hs
    . injection hs with e1 e2; subst e1 e2
      refine⟨rfl,.agg (cs.extract off (off+n)),by simp[part,Wu ha,X6 hn],.agg ?_⟩
      have:(cs.extract off (off+n)).toList=(cs.toList.drop off).take n:=by
        simp[Array.toList_extract,List.extract_eq_take_drop]
      rw[this];exact (hr.drop off).take n
    . cases hs
  |false =>
    simp only[Bool.false_eq_true,if_false] at hs;split at hs
    . split at hs
      . rename_i u hu
        injection hs with e1 e2; subst e1 e2
        obtain⟨y,hy,hyr⟩:=hr.get hu;rw[Array.getElem?_toList] at hy
        exact⟨rfl,y,by simp[part,Wu ha,hy],hyr⟩
      . cases hs
    . cases hs
theorem Xkp (c:Cx P ρ h w e a) {t f n:Nat}{fs:Array Field}{fl:Field}{ag:Bool}{x:Operand}{x':Opd} (hop:o.op=.field t x f)(hu:P.underlying t=some (.struct fs))(hf:fs[f]? = some fl)(hn:Xq P fl.type=some n)(ha:isAg P fl.type=some ag)(hx:Xj P x=some x')
    {v:V}{h':H} (hs:sFld h fl.offset (if ag then n else 1) ag (Vm.opd e x')=.ok v h'):X9 P ρ h w a o v h':=by
  have rx:=c.opd hx;unfold sFld at hs;split at hs
  . rename_i l hb
    rw[hb] at rx;obtain⟨cs,hxe,hr⟩:=XbC rx;obtain⟨rfl,v',h1,h2⟩:=Xi7 c hr hn ha (fun _=>.inr trivial) hs
    exact Xf c.r (by simp[execOp,hop,hxe,Instr.field,run_underlying hu,hf,asAgg,h1]) h2
  . cases hs
theorem Xko (c : Cx P ρ h w e a) {t el n s : Nat} {ag : Bool} {x y : Operand} {x' y' : Opd} (hop : o.op = .index t x y) (hu : P.underlying t = some (.array n el)) (hn : Xq P el = some s) (ha : isAg P el = some ag) (h1 : ag = false → s = 1) (hx : Xj P x = some x') (hy : Xj P y = some y')
    {v:V}{h':H} (hs:sIxa h s n ag (Vm.opd e x') (Vm.opd e y')=.ok v h'):X9 P ρ h w a o v h':=by
  have rx:=c.opd hx;have ry:=c.opd hy;unfold sIxa at hs;split at hs
  . rename_i l k hb hk
    rw[hb] at rx;obtain⟨cs,hxe,hr⟩:=XbC rx;obtain⟨kk,hye⟩:=Yh ry hk;split at hs
    . rename_i hlt
      have hs':partOf h l (k*s) (if ag then s else 1) ag=.ok v h':=by
        cases ag with
        |true=>exact hs
        |false=>rw[h1 rfl] at hs ⊢; exact hs
      obtain⟨rfl,v',r1,r2⟩:=Xi7 c hr hn ha (fun _=>.inr trivial) hs'
      refine Xf c.r ?_ r2
      have hlt':(0:Int)<=(k:Int)/\(k:Int)<(n:Int):=by omega
      simp[execOp,hop,hxe,hye,Instr.index,asIntOf,run_underlying hu,hlt',X6 hn,r1,hlt]
    . cases hs
  . cases hs
theorem XoK (c:Cx P ρ h w e a) {t el s:Nat}{x y:Operand}{x' y':Opd} (hop:o.op=.indexAddr t x y)(hu:P.underlying t=some (.slice el))(hn:Xq P el=some s)(hx:Xj P x=some x')(hy:Xj P y=some y')
    {v:V}{h':H} (hs:sIxs h s (Vm.opd e x') (Vm.opd e y')=.ok v h'):X9 P ρ h w a o v h':=by
  have rx:=c.opd hx;have ry:=c.opd hy;unfold sIxs at hs;split at hs
  . rename_i q j n cc s' ex k hb hk
    rw[hb] at rx;obtain⟨kk,hye⟩:=Yh ry hk;split at hs
    . rename_i hc
      obtain⟨rfl,hlt,hal⟩:=hc;injection hs with e1 e2; subst e1 e2
      obtain⟨p,ad,c',hp,hxe,g1,g2,g3,g4,g5⟩:=Zx rx (YU hal)
      have:=g4 (by omega)
      subst this;refine Xf (v':=.pointer (some ⟨p.B,p.b+(j+k*s'),none⟩)) c.r ?_ (.ptr hp)
      have hlt':(0:Int)<=(k:Int)/\(k:Int)<(n:Int):=by omega
      simp[execOp,hop,hxe,hye,Instr.indexAt,asIntOf,run_underlying hu,X6 hn,addr_add,Nat.add_assoc,hlt]
    . cases hs
  . cases hs
theorem XoL (c:Cx P ρ h w e a) {t el n s:Nat}{x y:Operand}{x' y':Opd} (hop:o.op=.indexAddr t x y)(hu:P.underlying t=some (.array n el))(hn:Xq P el=some s)(hx:Xj P x=some x')(hy:Xj P y=some y')
    {v:V}{h':H} (hs:sIxp h s n (Vm.opd e x') (Vm.opd e y')=.ok v h'):X9 P ρ h w a o v h':=by
  have rx:=c.opd hx;have ry:=c.opd hy;unfold sIxp at hs;split at hs
  . rename_i q j k hb hk
    rw[hb] at rx;obtain⟨kk,hye⟩:=Yh ry hk;split at hs
    . rename_i hc
      obtain⟨hlt,hal⟩:=hc;injection hs with e1 e2; subst e1 e2
      obtain⟨p,hp,hxe⟩:=Yl rx (YU hal);refine Xf (v':=.pointer (some ⟨p.B,p.b+(j+k*s),none⟩)) c.r ?_ (.ptr hp)
      simp[execOp,hop,hxe,hye,Instr.indexAt,Instr.sureAddr,asIntOf,run_underlying hu,X6 hn,addr_add,Nat.add_assoc,hlt]
    . cases hs
  . cases hs
theorem XoH (c:Cx P ρ h w e a) {t el:Nat}{cl:Call}{x:Operand}{x':Opd} (hop:o.op=.call cl)(hcl:cl.callee=.builtin .len)(hat:cl.argTypes[0]? = some t)(hu:P.underlying t=some (.slice el))(har:cl.args=#[x])(hx:Xj P x=some x')
    {v:V}{h':H} (hs:sLen h (Vm.opd e x')=.ok v h'):X9 P ρ h w a o v h':=by
  have rx:=c.opd hx;unfold sLen at hs;split at hs
  . rename_i hb
    rw[hb] at rx;injection hs with e1 e2; subst e1 e2
    exact Xf c.r (by simp[execOp,hop,resolve,hcl,har,invoke,builtin,Builtin.len_,hat,run_underlying hu,Ye rx,goInt]) (.int _ _)
  . rename_i hb
    rw[hb] at rx;split at hs
    . rename_i hal
      injection hs with e1 e2; subst e1 e2
      obtain⟨p,ad,c',hp,hxe,_⟩:=Zx rx (YU hal);exact Xf c.r (by simp[execOp,hop,resolve,hcl,har,invoke,builtin,Builtin.len_,hat,run_underlying hu,hxe,goInt]) (.int _ _)
    . cases hs
  . cases hs
theorem XoG (c:Cx P ρ h w e a) {t:Nat}{cl:Call}{x:Operand}{x':Opd} (hop:o.op=.call cl)(hcl:cl.callee=.builtin .len)(hat:cl.argTypes[0]? = some t)(hu:P.underlying t=some .string)(har:cl.args=#[x])(hx:Xj P x=some x')
    {v:V}{h':H} (hs:sLnt h (Vm.opd e x')=.ok v h'):X9 P ρ h w a o v h':=by
  have rx:=c.opd hx;unfold sLnt at hs;split at hs
  . rename_i hb
    rw[hb] at rx;injection hs with e1 e2; subst e1 e2
    obtain⟨s,hs1,hs2,_⟩:=Y9 rx;subst hs2;exact Xf (v':=.int .i64 s.data.toList.length) c.r (by simp[execOp,hop,resolve,hcl,har,invoke,builtin,Builtin.len_,hat,run_underlying hu,hs1,goInt]) (.int _ _)
  . cases hs
theorem Xit (c:Cx P ρ h w e a) {t n:Nat}{cl:Call}{x:Operand} (hop:o.op=.call cl)(hcl:cl.callee=.builtin .len)(hat:cl.argTypes[0]? = some t)(har:cl.args=#[x])
    (hu:(∃ el,P.underlying t=some (.array n el))∨∃ ar el,P.underlying t=some (.pointer ar)/\P.underlying ar=some (.array n el)):X9 P ρ h w a o (.int .i64 n) h:=by
  rcases hu with ⟨el,hu⟩ | ⟨ar,el,hu,hu'⟩
  . exact Xf (v':=.int .i64 n) c.r (by simp[execOp,hop,resolve,hcl,har,invoke,builtin,Builtin.len_,hat,run_underlying hu,goInt]) (.int _ _)
  . exact Xf (v':=.int .i64 n) c.r (by simp[execOp,hop,resolve,hcl,har,invoke,builtin,Builtin.len_,hat,run_underlying hu,run_underlying hu',goInt]) (.int _ _)
theorem XoR (c:Cx P ρ h w e a) {t el:Nat}{cl:Call}{x:Operand}{x':Opd} (hop:o.op=.call cl)(hcl:cl.callee=.builtin .cap)(hat:cl.argTypes[0]? = some t)(hu:P.underlying t=some (.slice el))(har:cl.args=#[x])(hx:Xj P x=some x')
    {v:V}{h':H} (hs:sCap h (Vm.opd e x')=.ok v h'):X9 P ρ h w a o v h':=by
  have rx:=c.opd hx;unfold sCap at hs;split at hs
  . rename_i hb
    rw[hb] at rx;injection hs with e1 e2; subst e1 e2
    exact Xf c.r (by simp[execOp,hop,resolve,hcl,har,invoke,builtin,Builtin.cap_,hat,run_underlying hu,Ye rx,goInt]) (.int _ _)
  . rename_i hb
    rw[hb] at rx;split at hs
    . rename_i hal
      injection hs with e1 e2; subst e1 e2
      obtain⟨p,ad,c',hp,hxe,_,_,hex,_⟩:=Zx rx (YU hal)
      have:=hex rfl
      subst this;exact Xf c.r (by simp[execOp,hop,resolve,hcl,har,invoke,builtin,Builtin.cap_,hat,run_underlying hu,hxe,goInt]) (.int _ _)
    . cases hs
  . cases hs
end
end Go.Vm
namespace Go.Vm
section
variable {P:Program}{ρ:Rho}{h:H}{w:World}{e:T V}{a:Act}{o:Oper}
theorem Wd {x:Option Operand}{y:Option Opd} (ho:YO P x=some y):(x=none/\y=none)∨∃ u v,x=some u/\y=some v/\Xj P u=some v:=by
  unfold YO at ho;split at ho
  . simp only[Option.some.injEq] at ho; exact .inl ⟨rfl,ho.symm⟩
  . split at ho
    . rename_i hv; simp only[Option.some.injEq] at ho; exact .inr ⟨_,_,rfl,ho.symm,hv⟩
    . cases ho
theorem run_sliceBound (k:IntKind)(n y:Nat)(code:BoundsCode)(w:World)(hle:n<=y):(Instr.sliceBound (.int k (n:Int)) y code).run P w=.ok n w:=by
  have:(0:Int)<=(n:Int)/\(n:Int)<=(y:Int):=by omega
  simp[Instr.sliceBound,asIntOf,hle]
theorem WB {n cc l k m:Nat}{lo hi mx:Option Opd} (hb:bounds e n cc lo hi mx=some (l,k,m)) :
    YL e cc mx=some m/\YL e n hi=some k/\YL e 0 lo=some l/\m<=cc/\k<=m/\l<=k/\(mx.isSome=true->hi.isSome=true):=by
  unfold bounds at hb;split at hb
  . rename_i h1 h2 h3
    split at hb
    . rename_i hc
      simp only[Option.some.injEq,Prod.mk.injEq] at hb;obtain⟨rfl,rfl,rfl⟩:=hb
      exact⟨h1,h2,h3,hc.1,hc.2.1,hc.2.2.1,hc.2.2.2⟩
    . cases hb
  . cases hb
theorem Xbr (c : Cx P ρ h w e a) {n cc c' l k m : Nat} {lo hi mx : Option Operand} {lo' hi' mx' : Option Opd} (hlo : YO P lo = some lo') (hhi : YO P hi = some hi') (hmx : YO P mx = some mx')
    (hb:bounds e n cc lo' hi' mx'=some (l,k,m)) (hcc:cc<=c') (isSlice:Bool) :
    (Instr.sliceBounds isSlice n c' (lo.map a.eval) (hi.map a.eval) (mx.map a.eval)).run P w=.ok (l,k,if mx'.isSome then m else c') w:=by
  obtain⟨h1,h2,h3,g1,g2,g3,g4⟩:=WB hb;unfold Instr.sliceBounds
  rcases Wd hmx with ⟨rfl,rfl⟩ | ⟨u,v,rfl,rfl,ho⟩
  . simp only[YL,Option.some.injEq] at h1
    subst h1
    rcases Wd hhi with ⟨rfl,rfl⟩ | ⟨u2,v2,rfl,rfl,ho2⟩
    . simp only[YL,Option.some.injEq] at h2
      subst h2
      rcases Wd hlo with ⟨rfl,rfl⟩ | ⟨u3,v3,rfl,rfl,ho3⟩
      . simp only[YL,Option.some.injEq] at h3; subst h3; simp
      . obtain⟨kk,hk⟩:=Yh (c.opd ho3) h3
        simp[hk,run_sliceBound kk l n _ w g3]
    . obtain⟨kk2,hk2⟩:=Yh (c.opd ho2) h2
      rcases Wd hlo with ⟨rfl,rfl⟩ | ⟨u3,v3,rfl,rfl,ho3⟩
      . simp only[YL,Option.some.injEq] at h3; subst h3
        simp[hk2,run_sliceBound kk2 k c' _ w (by omega)]
      . obtain⟨kk,hk⟩:=Yh (c.opd ho3) h3
        simp[hk,hk2,run_sliceBound kk2 k c' _ w (by omega),run_sliceBound kk l k _ w g3]
  . obtain⟨kk1,hk1⟩:=Yh (c.opd ho) h1
    rcases Wd hhi with ⟨rfl,rfl⟩ | ⟨u2,v2,rfl,rfl,ho2⟩
    . simp at g4
    . obtain⟨kk2,hk2⟩:=Yh (c.opd ho2) h2
      rcases Wd hlo with ⟨rfl,rfl⟩ | ⟨u3,v3,rfl,rfl,ho3⟩
      . simp only[YL,Option.some.injEq] at h3; subst h3
        simp[hk1,hk2,run_sliceBound kk1 m c' _ w (by omega),run_sliceBound kk2 k m _ w g2]
      . obtain⟨kk,hk⟩:=Yh (c.opd ho3) h3
        simp[hk,hk1,hk2,run_sliceBound kk1 m c' _ w (by omega),run_sliceBound kk2 k m _ w g2,run_sliceBound kk l k _ w g3]
theorem extract_toList (s:ByteArray)(l k:Nat)(h:l<=k):(s.extract l k).data.toList=(s.data.toList.take k).drop l:=by
  have:(s.extract l k).data=s.data.extract l k:=by
    simp[ByteArray.data_extract]
  rw[this,Array.toList_extract,List.extract_eq_take_drop,List.take_drop]
  congr 2; omega
theorem Xo6 (c : Cx P ρ h w e a) {t : Nat} {x : Operand} {lo hi : Option Operand} {x' : Opd} {lo' hi' : Option Opd} (hop : o.op = .slice t x lo hi none) (hu : P.underlying t = some .string) (hx : Xj P x = some x') (hlo : YO P lo = some lo') (hhi : YO P hi = some hi')
    {v:V}{h':H} (hs:sSlt h e lo' hi' (Vm.opd e x')=.ok v h'):X9 P ρ h w a o v h':=by
  have rx:=c.opd hx;unfold sSlt at hs;split at hs
  . rename_i n z hb
    rw[hb] at rx;obtain⟨s,hs1,hs2,hs3⟩:=Y9 rx;split at hs
    . rename_i l k m hbd
      injection hs with e1 e2; subst e1 e2
      have hsim:=Xbr c (mx:=none) (mx':=none) hlo hhi rfl hbd (Nat.le_refl _) false;obtain⟨_,_,_,g1,g2,g3,_⟩:=WB hbd
      have hsz:s.size=n:=hs2.symm
      refine Xf (v':=.string (s.extract l k)) c.r ?_ ?_
      . simp only[Option.map_none] at hsim
        simp[execOp,hop,hs1,Instr.sliceAt,Instr.slice,run_underlying hu,hsz,hsim]
      . have:=VRel.str (ρ:=ρ) (h:=h) (s.extract l k)
        rw[extract_toList s l k g3] at this;subst hs2 hs3;rw[Yx _ _ _ g3 (by omega)]
        have hlen:((s.data.toList.take k).drop l).length=k-l:=by simp only[List.length_drop,List.length_take]; omega
        rw[hlen] at this;exact this
    . cases hs
  . cases hs
theorem Xo7 (c : Cx P ρ h w e a) {t el s : Nat} {x : Operand} {lo hi mx : Option Operand} {x' : Opd} {lo' hi' mx' : Option Opd} (hop : o.op = .slice t x lo hi mx) (hu : P.underlying t = some (.slice el)) (hn : Xq P el = some s) (hx : Xj P x = some x')
    (hlo:YO P lo=some lo') (hhi:YO P hi=some hi') (hmx:YO P mx=some mx') {v:V}{h':H} (hs:sSls h e s lo' hi' mx' (Vm.opd e x')=.ok v h'):X9 P ρ h w a o v h':=by
  have rx:=c.opd hx;unfold sSls at hs;split at hs
  . rename_i hb
    rw[hb] at rx;split at hs
    . rename_i r hbd
      obtain⟨l,k,m⟩:=r;injection hs with e1 e2; subst e1 e2
      have hsim:=Xbr c hlo hhi hmx hbd (Nat.le_refl _) true;obtain⟨_,_,_,g1,g2,g3,_⟩:=WB hbd
      obtain rfl:m=0:=by omega
      obtain rfl:k=0:=by omega
      obtain rfl:l=0:=by omega
      refine Xf (v':=.slice none 0 0) c.r ?_ .nils
      simp[execOp,hop,Ye rx,Instr.sliceAt,Instr.slice,run_underlying hu,hsim,X6 hn]
    . cases hs
  . rename_i q i n cc s' ex hb
    rw[hb] at rx;split at hs
    . rename_i hc
      obtain⟨rfl,hal⟩:=hc;split at hs
      . rename_i l k m hbd
        injection hs with e1 e2; subst e1 e2
        obtain⟨p,ad,c',hp,hxe,f1,f2,f3,f4,f5⟩:=Zx rx (YU hal);have hsim:=Xbr c hlo hhi hmx hbd f2 true;obtain⟨h1,_,_,g1,g2,g3,_⟩:=WB hbd
        have hm:m<=(if mx'.isSome then m else c')/\(if mx'.isSome then m else c')<=c'/\(ex=true∨mx'.isSome=true->m=(if mx'.isSome then m else c')):=by
          by_cases hms:mx'.isSome=true
          . simp only[hms,if_true]; exact⟨Nat.le_refl _,by omega,fun _=>trivial⟩
          . simp only[hms,Bool.false_eq_true,if_false,or_false]
            have:mx'=none:=by simpa using hms
            subst this;simp only[YL,Option.some.injEq] at h1;subst h1
            exact⟨f2,Nat.le_refl _,f3⟩
        obtain⟨hm1,hm2,hm3⟩:=hm
        generalize (if mx'.isSome then m else c')=m' at hsim hm1 hm2 hm3
        refine Xf (v':=.slice (if m'=l then some ad else some (ad.add (l*s'))) (k-l) (m'-l)) c.r ?_ ?_
        . simp only[execOp,hop,hxe,Instr.sliceAt,Instr.slice,Sem.run_bind,run_underlying hu,Result.andThen_ok,hsim,X6 hn,Sem.run_pure]
          rfl
        . by_cases hml:m'=l
          . rw[if_pos hml]
            refine .sl hp (by omega) (by omega) (fun he=>?_) (fun hlt=>by omega) ?_
            . have:=hm3 (by simpa using he); omega
            . have:m'-l=0:=by omega
              rw[this,Nat.zero_mul]
              have:l*s'<=c'*s':=Nat.mul_le_mul_right _ (by omega)
              omega
          . rw[if_neg hml]
            refine .sl hp (by omega) (by omega) (fun he=>?_) (fun hlt=>?_) ?_
            . have:=hm3 (by simpa using he); omega
            . rw[f4 (by omega),addr_add,Nat.add_assoc]
            . have e1:l*s'+(m'-l)*s'=m'*s':=by rw[← Nat.add_mul]; congr 1; omega
              have:m'*s'<=c'*s':=Nat.mul_le_mul_right _ hm2
              omega
      . cases hs
    . cases hs
  . cases hs
theorem Xkm (c : Cx P ρ h w e a) {t el s n : Nat} {x : Operand} {lo hi mx : Option Operand} {x' : Opd} {lo' hi' mx' : Option Opd} (hop : o.op = .slice t x lo hi mx)
    (hu:P.underlying t=some (.array n el)∨∃ ar,P.underlying t=some (.pointer ar)/\P.underlying ar=some (.array n el)) (hn:Xq P el=some s) (hx:Xj P x=some x')
    (hlo:YO P lo=some lo') (hhi:YO P hi=some hi') (hmx:YO P mx=some mx') {v:V}{h':H} (hs:sSlp h e s n lo' hi' mx' (Vm.opd e x')=.ok v h'):X9 P ρ h w a o v h':=by
  have rx:=c.opd hx;unfold sSlp at hs;split at hs
  . rename_i q i hb
    rw[hb] at rx;split at hs
    . rename_i k0 t0 sp0 el0 fz0 l k m hg hbd
      split at hs
      . rename_i hle
        injection hs with e1 e2; subst e1 e2
        obtain⟨p,hp,hxe⟩:=Yl rx (by rw[hg]; simp)
        have ho:=c.r.obj _ _ hp;rw[hg] at ho;obtain⟨cs,fr,_,_,hN,_⟩:=ho;have hsim:=Xbr c hlo hhi hmx hbd (Nat.le_refl _) false;obtain⟨h1,_,_,g1,g2,g3,_⟩:=WB hbd
        have hm:(if mx'.isSome then m else n)=m:=by
          by_cases hms:mx'.isSome=true
          . simp[hms]
          . have:mx'=none:=by simpa using hms
            subst this;simp only[YL,Option.some.injEq] at h1
            simp[h1]
        rw[hm] at hsim;refine Xf (v':=.slice (some (if m=l then ⟨p.B,p.b+i,none⟩ else (⟨p.B,p.b+i,none⟩:Addr).add (l*s))) (k-l) (m-l)) c.r ?_ ?_
        . rcases hu with hu | ⟨ar,hu,hu'⟩
          . simp[execOp,hop,hxe,Instr.sliceAt,Instr.sureAddr,run_underlying hu,hsim,X6 hn]
          . simp[execOp,hop,hxe,Instr.sliceAt,Instr.slice,asAddr,run_underlying hu,run_underlying hu',hsim,X6 hn]
        . have hms:m*s<=n*s:=Nat.mul_le_mul_right _ g1
          have e1:l*s+(m-l)*s=m*s:=by rw[← Nat.add_mul]; congr 1; omega
          refine .sl hp (by omega) (Nat.le_refl _) (fun _=>rfl) (fun hlt=>?_) (by omega)
          rw[if_neg (by omega),addr_add,Nat.add_assoc]
      . cases hs
    . cases hs
  . cases hs
theorem Xg7 (n:Nat):∀ (r c:Nat),Builtin.growBy n r c<=max c (n+(n+768) / 4)
  |0,c=>by simp only[Builtin.growBy]; omega
  |r+1,c=>by
    simp only[Builtin.growBy];split
    . omega
    . have:=Xg7 n r (c+(c+768) / 4)
      omega
theorem Xju (need cc:Nat)(h:cc<need):Builtin.nextslicecap need cc<=2*need+192:=by
  unfold Builtin.nextslicecap;split
  . omega
  . split
    . omega
    . have:=Xg7 need 4 cc; omega
theorem Xdh {n bytes:Nat} (h:roomFor n bytes=true):n*bytes<=68719476736/\n<=68719476736:=by
  unfold roomFor at h;simp only[Bool.and_eq_true,Nat.ble_eq] at h;exact h
theorem Xdq {need cc bytes:Nat} (h:cc<need)(hr:roomFor need bytes=true):¬ (Builtin.nextslicecap need cc*bytes > 2 ^ 48):=by
  obtain⟨h1,h2⟩:=Xdh hr;have hn:=Xju need cc h
  have hb:bytes<=68719476736:=by
    have:1*bytes<=need*bytes:=Nat.mul_le_mul_right _ (by omega)
    omega
  have:Builtin.nextslicecap need cc*bytes<=(2*need+192)*bytes:=Nat.mul_le_mul_right _ hn
  rw[Nat.add_mul,Nat.mul_assoc] at this;omega
theorem XcY (s:ByteArray):VRels ρ h (strCells s.data.toList.length (numOf s.data.toList)) (s.data.toList.map fun b=>Value.int .u8 b.toNat):=by
  refine VRels.of_get (by simp[strCells]) ?_
  intro i v x hv hx;rw[List.getElem?_map] at hx;simp only[strCells,List.getElem?_map] at hv
  have hi:i<s.data.toList.length:=by
    rcases Nat.lt_or_ge i s.data.toList.length with h | h
    . exact h
    . rw[List.getElem?_eq_none h] at hx; cases hx
  rw[List.getElem?_eq_getElem hi] at hx;rw[List.getElem?_range hi] at hv;simp only[Option.map_some,Option.some.injEq] at hx hv;subst hx hv;rw[Z5 _ _ hi];exact .int _ _
theorem Xkk (r : HRel ρ h w) {s m : Nat} {v : V} {x : Value} {l : List V} (rx : VRel ρ h v x) (hs : XE h s v = some (m, l)) :
    ∃ vs:List Value,VRels ρ h l vs/\vs.length=m*s/\(∀ (P:Program),(Builtin.lenOf x).run P w=.ok m w) /\
      ∀ (P:Program) (w':World),w'.heap=w.heap->(Builtin.firstCells s m x).run P w'=.ok vs.toArray w':=by
  unfold XE at hs;split at hs
  . simp only[Option.some.injEq,Prod.mk.injEq] at hs
    obtain⟨rfl,rfl⟩:=hs;rw[Ye rx]
    exact⟨[],.nil,by simp,fun P=>rfl,fun P w' _=>rfl⟩
  . rename_i q i n cc s' ex
    split at hs
    . rename_i l' hl
      simp only[Option.some.injEq,Prod.mk.injEq] at hs;obtain⟨rfl,rfl⟩:=hs;obtain⟨_,_,_,_,_,hg,_⟩:=Zk hl;obtain⟨p,ad,c',hp,hxe,f1,f2,f3,f4,f5⟩:=Zx rx (by rw[hg]; simp)
      have hload:∀ (P:Program),∃ vs:List Value,VRels ρ h l' vs/\vs.length=n*s/\(loadCells ⟨p.B,p.b+i,none⟩ (n*s)).run P w=.ok vs.toArray w/\∀ j v,vs[j]? = some v->w.cell? ⟨p.B,p.b+i+j,none⟩=some v:=fun P=>ZK r hp hl
      obtain⟨vs,r1,r2,_,r4⟩:=hload default
      refine⟨vs,r1,r2,fun P=>by rw[hxe]; rfl,fun P w' hw'=>?_⟩
      rw[hxe];simp only[Builtin.firstCells]
      by_cases hc:0<c'
      . rw[f4 hc]
        have:=run_loadCells_list (P:=P) w' ⟨p.B,p.b+i,none⟩ vs (fun j v hv=>by
          rw[addr_add]
          have:=r4 j v hv
          simp only[World.cell?,hw'] at this ⊢;exact this)
        rw[r2] at this;exact this
      . have hn:n=0:=by omega
        subst hn;simp only[Nat.zero_mul] at r2 ⊢
        have:vs=[]:=List.length_eq_zero_iff.1 r2
        subst this;rfl
    . cases hs
  . split at hs
    . rename_i h1
      subst h1;simp only[Option.some.injEq,Prod.mk.injEq] at hs;obtain⟨rfl,rfl⟩:=hs;obtain⟨b,hb1,hb2,hb3⟩:=Y9 rx;subst hb1 hb2 hb3
      refine⟨_,XcY b,by simp,fun P=>rfl,fun P w' _=>?_⟩
      simp only[Builtin.firstCells,Sem.run_pure]
      congr 1
      have:b.extract 0 b.data.toList.length=b:=by
        apply ByteArray.ext
        apply Array.ext'
        rw[extract_toList b 0 _ (Nat.zero_le _),List.drop_zero];exact List.take_length
      rw[this]
      apply Array.ext'
      simp
    . cases hs
  . cases hs
theorem XeC (z:Array Value)(n:Nat):(Builtin.zeroCells z n).size=n*z.size:=by simp[Builtin.zeroCells]
def Rho.kill (ρ:Rho)(o:Nat):Rho:=fun q=>if q=o then none else ρ q
theorem Xl9 (r : HRel ρ h w) {q : Nat} {p : Pl} (hp : ρ q = some p) (hfl : h.fl ≤ q) : Post ρ h w (ρ.kill q) (h.set q .dead) w := by
  have hm:∀ v y,VRel ρ h v y->VRel (ρ.kill q) (h.set q .dead) v y:=fun v y hv =>
    VRel.mono (ρ':=ρ.kill q) (h':=h.set q .dead) r.lt (Nat.le_refl _) (fun u _ hd=>by
      rw[H.get_set]; split
      . rfl
      . exact hd) (fun u _=>by
      unfold Rho.kill;split
      . rename_i e; subst e; exact .inr ⟨rfl,by rw[H.get_set,if_pos rfl]⟩
      . exact .inl rfl) hv
  refine⟨.set _ hfl (r.alive hp),⟨?_,?_,?_⟩,⟨rfl,rfl,rfl,Nat.le_refl _,fun _ _ _=>rfl,?_,?_⟩⟩
  . intro u pu hu
    unfold Rho.kill at hu;split at hu
    . cases hu
    . exact r.lt u pu hu
  . intro u pu hu
    unfold Rho.kill at hu;split at hu
    . cases hu
    . rename_i hne
      rw[H.get_set,if_neg (fun e=>hne e.symm)]
      have:=r.obj u pu hu
      revert this
      cases h.get u with
      |c n t sp el fz =>
        rintro⟨cs,fr,h1,h2,h3,h4,h5,h6⟩
        exact⟨cs,fr,h1,h2,h3,h4,fun i hi=>let ⟨v,hv,hr⟩:=h5 i hi; ⟨v,hv,hm _ _ hr⟩,h6⟩
      |si n x pos=>exact id
      |m es=>exact id
      |dead=>exact id
  . intro u u' pu pu' hu hu' hB
    unfold Rho.kill at hu hu';split at hu
    . cases hu
    . split at hu'
      . cases hu'
      . exact r.inj u u' pu pu' hu hu' hB
  . intro u _
    unfold Rho.kill;split
    . rename_i e; subst e; exact .inr ⟨rfl,by rw[H.get_set,if_pos rfl]⟩
    . exact .inl rfl
  . intro u pu hu e
    unfold Rho.kill at e;split at e
    . cases e
    . have:=r.lt u pu e; exact absurd hu (Nat.not_le.2 this)
end
end Go.Vm
namespace Go.Vm
section
variable {P:Program}{ρ:Rho}{h:H}{w:World}{e:T V}{a:Act}{o:Oper}
theorem Xiq (r : HRel ρ h w) {s m : Nat} {v : V} {x : Value} {l : List V} (rx : VRel ρ h v x) (hs : XE h s v = some (m, l)) {k : Nat} (hk : k ≤ m) :
    ∃ vs:List Value,VRels ρ h (l.take (k*s)) vs/\vs.length=k*s/\(∀ (P:Program),(Builtin.lenOf x).run P w=.ok m w) /\
      ∀ (P:Program),(Builtin.firstCells s k x).run P w=.ok vs.toArray w:=by
  obtain⟨vs,v1,v2,v3,v4⟩:=Xkk r rx hs
  have hks:k*s<=m*s:=Nat.mul_le_mul_right _ hk
  refine⟨vs.take (k*s),v1.take _,by rw[List.length_take]; omega,v3,fun P=>?_⟩
  unfold XE at hs;split at hs
  . simp only[Option.some.injEq,Prod.mk.injEq] at hs
    obtain⟨rfl,rfl⟩:=hs
    obtain rfl:k=0:=by omega
    rw[Ye rx]
    simp[Builtin.firstCells]
  . rename_i q i n cc s' ex
    split at hs
    . rename_i l' hl
      simp only[Option.some.injEq,Prod.mk.injEq] at hs;obtain⟨rfl,rfl⟩:=hs;obtain⟨_,_,_,_,_,hg,_⟩:=Zk hl;obtain⟨p,ad,c',hp,hxe,f1,f2,f3,f4,f5⟩:=Zx rx (by rw[hg]; simp)
      obtain⟨us,r1,r2,_,r4⟩:=ZK (P:=default) r hp hl;rw[hxe];simp only[Builtin.firstCells]
      by_cases hc:0<c'
      . have e1:us=vs:=by
          have h1:=run_loadCells_list (P:=default) w ⟨p.B,p.b+i,none⟩ us (fun j v hv=>by rw[addr_add]; exact r4 j v hv)
          have h2:=v4 default w rfl;rw[hxe] at h2;simp only[Builtin.firstCells,f4 hc] at h2;rw[r2] at h1;rw[h1] at h2;injection h2 with h2
          have:=congrArg Array.toList h2
          simpa using this
        subst e1;rw[f4 hc]
        have:=run_loadCells_list (P:=P) w ⟨p.B,p.b+i,none⟩ (us.take (k*s)) (fun j v hv=>by
          rw[addr_add];rw[List.getElem?_take] at hv;split at hv
          . exact r4 j v hv
          . cases hv)
        rw[List.length_take,show min (k*s) us.length=k*s by omega] at this
        exact this
      . have hn:n=0:=by omega
        subst hn
        obtain rfl:k=0:=by omega
        simp[loadCells,loadCellsFrom]
    . cases hs
  . split at hs
    . rename_i h1
      subst h1;simp only[Option.some.injEq,Prod.mk.injEq] at hs;obtain⟨rfl,rfl⟩:=hs;obtain⟨b,hb1,hb2,hb3⟩:=Y9 rx;have h2:=v4 P w rfl;rw[hb1] at h2 ⊢;simp only[Builtin.firstCells,Sem.run_pure] at h2 ⊢;injection h2 with h2
      congr 1
      apply Array.ext'
      have h3:=congrArg Array.toList h2;simp only[Array.toList_map] at h3 ⊢;rw[← h3,extract_toList b 0 k (Nat.zero_le _),← List.map_take]
      congr 1
      rw[extract_toList b 0 _ (Nat.zero_le _),List.drop_zero,List.drop_zero,Nat.mul_one,List.take_take]
      congr 1; omega
    . cases hs
  . cases hs
theorem XoQ (c : Cx P ρ h w e a) {t el s : Nat} {cl : Call} {x y : Operand} {x' y' : Opd} (hop : o.op = .call cl) (hcl : cl.callee = .builtin .copy) (h0 : cl.argTypes[0]? = some t)
    (ht:P.underlying t=some (.slice el)) (hn:Xq P el=some s) (har:cl.args=#[x,y]) (hx:Xj P x=some x') (hy:Xj P y=some y')
    {v:V}{h':H} (hs:ZR h s (Vm.opd e x') (Vm.opd e y')=.ok v h'):X9 P ρ h w a o v h':=by
  have rx:=c.opd hx;have ry:=c.opd hy
  have hexec:∀ v' w',(Builtin.copy_ cl.argTypes o.type #[a.eval x,a.eval y]).run P w=.ok v' w'->(execOp a.eval o).run P w=.ok (.value v') w':=by
    intro v' w' hr
    simp[execOp,hop,resolve,hcl,har,invoke,builtin,hr]
  unfold ZR at hs;split at hs
  . rename_i r hb hsrc
    obtain⟨m,l⟩:=r;rw[hb] at rx;injection hs with e1 e2; subst e1 e2
    obtain⟨vs,v1,v2,v3,v4⟩:=Xiq c.r ry hsrc (k:=0) (Nat.zero_le _);refine Xf c.r (hexec _ _ ?_) (.int _ _)
    have hm:Nat.min m 0=0:=Nat.min_zero _
    simp[Ye rx,Builtin.copy_,h0,run_underlying ht,v3 P,X6 hn,v4 P,goInt]
  . rename_i q i n cc s' ex m l hb hsrc
    rw[hb] at rx;split at hs
    . rename_i hc
      obtain⟨rfl,hal⟩:=hc;obtain⟨p,ad,c',hp,hxe,f1,f2,f3,f4,f5⟩:=Zx rx (YU hal);obtain⟨vs,v1,v2,v3,v4⟩:=Xiq c.r ry hsrc (k:=Nat.min m n) (Nat.min_le_left _ _);split at hs
      . rename_i hmin
        injection hs with e1 e2; subst e1 e2
        rw[hmin] at v1 v2 v4
        have:vs=[]:=by simp only[Nat.zero_mul] at v2; exact List.length_eq_zero_iff.1 v2
        subst this;refine Xf c.r (hexec _ _ ?_) (.int _ _)
        have hmin':Nat.min m n=0:=hmin
        have hmin2:min m n=0:=hmin
        simp[hxe,Builtin.copy_,h0,run_underlying ht,v3 P,X6 hn,hmin2,v4 P,goInt,storeCells]
      . rename_i hmin
        split at hs
        . rename_i h2 hst
          injection hs with e1 e2; subst e1 e2
          obtain⟨w',r1,r2⟩:=XdB (P:=P) c.r hp v1 hst;have had:=f4 (by have:Nat.min m n<=n:=Nat.min_le_right _ _; omega)
          refine⟨.int .i64 (Nat.min m n),w',ρ,.inl (hexec _ _ ?_),.int _ _,r2⟩
          have hv4:(Builtin.firstCells s' (min m n) (a.eval y)).run P w=.ok vs.toArray w:=v4 P
          simp only[hxe,Builtin.copy_,h0,List.getElem?_toArray,List.getElem?_cons_zero,List.getElem?_cons_succ,Sem.run_bind,run_underlying ht,Result.andThen_ok,v3 P,X6 hn];rw[show Nat.min m n=min m n from rfl,hv4]
          simp only[Result.andThen_ok,had,r1];rfl
        . cases hs
    . cases hs
  . cases hs
theorem XoD (c : Cx P ρ h w e a) {t el : Nat} {x y : Operand} {x' y' : Opd} {ti : TypeInfo} {z : List V} (hop : o.op = .makeSlice t x y) (hu : P.underlying t = some (.slice el)) (hi : P.info? el = some ti) (hz : zeroOf P el = some z) (hpos : 0 < ti.size)
    (hx:Xj P x=some x') (hy:Xj P y=some y') {v:V}{h':H} (hs:sMks h z ti.size ti.bytes el (Vm.opd e x') (Vm.opd e y')=.ok v h'):X9 P ρ h w a o v h':=by
  have rx:=c.opd hx;have ry:=c.opd hy;obtain⟨i',zv,hi',hzv,hzvs,hzlen⟩:=Zd hz;rw[hi,Option.some.injEq] at hi';subst hi';unfold sMks at hs;split at hs
  . rename_i l cc hl hcp
    obtain⟨k1,h1⟩:=Yh rx hl;obtain⟨k2,h2⟩:=Yh ry hcp;split at hs
    . rename_i hc
      obtain⟨hle,hroom⟩:=hc;obtain⟨q1,q2⟩:=Xdh hroom;injection hs with e1 e2; subst e1 e2
      have hb:(ti.bytes:Int)*(cc:Int)<=281474976710656:=by
        have:((ti.bytes*cc:Nat):Int)<=281474976710656:=by rw[Nat.mul_comm]; omega
        rwa [Int.natCast_mul] at this
      have hrun:=run_make (P:=P) w t el ti zv hu hi hzv k1 k2 (l:Int) (cc:Int) (by omega) (by omega) hb (by omega)
      simp only[Int.toNat_natCast] at hrun;have hrow:=XeB (Yc ρ h _ _ hzvs) (by omega) cc
      rw[hzlen] at hrow
      have hmade:madeCells zv.cells (cc*ti.size)=(Array.range (cc*ti.size)).map (zv.cells[· % zv.cells.size]!):=rfl
      rw[← hmade] at hrow
      refine⟨.slice (some ⟨w.heap.size,0,none⟩) l cc,w.alloc (.cells (madeCells zv.cells (cc*ti.size)) el),ρ.add h.n ⟨w.heap.size,0,(madeCells zv.cells (cc*ti.size)).toList.length+([]:List Value).length⟩,.inl ?_,?_,XaM (sp:=false) (el:=el) (fz:=some 0) c.r c.wh hrow (rest:=[]) (fr:=(0,0)) (fun _=>rfl) (Nat.zero_le _) rfl rfl rfl (by rw[List.append_nil,Array.toArray_toList]; rfl)⟩
      . simp[execOp,hop,h1,h2,hrun]
      . refine .sl (p:=⟨w.heap.size,0,(madeCells zv.cells (cc*ti.size)).toList.length+([]:List Value).length⟩) (by simp[Rho.add]) hle (Nat.le_refl _) (fun _=>rfl) (fun _=>rfl) ?_
        have:=hrow.length
        rw[Xax,hzlen] at this;simp only[Nat.zero_add,List.length_nil,Nat.add_zero];omega
    . cases hs
  . cases hs
theorem XaA : ∀ (l : List V) (vs : List Value) (n x m y : Nat), VRels ρ h l vs → Y8 n x l = some (m, y) →
    ∃ bs:List UInt8,vs=bs.map (fun b=>Value.int .u8 b.toNat)/\m=n+bs.length/\y=x*256 ^ bs.length+numOf bs
  |[],_,n,x,m,y,.nil,e=>by
    simp only[Y8,Option.some.injEq,Prod.mk.injEq] at e;obtain⟨rfl,rfl⟩:=e
    exact⟨[],rfl,rfl,by simp[numOf]⟩
  |v::l,_,n,x,m,y,.cons hv t,e=>by
    simp only[Y8] at e;split at e
    . rename_i b
      split at e
      . rename_i hb
        obtain⟨bs,h1,h2,h3⟩:=XaA l _ _ _ _ _ t e
        refine⟨UInt8.ofNat b::bs,?_,?_,?_⟩
        . rw[Ym hv,h1]
          have:(UInt8.ofNat b).toNat=b:=by simp; omega
          simp[this]
        . rw[h2,List.length_cons]; omega
        . have:(UInt8.ofNat b).toNat=b:=by simp; omega
          rw[h3,Z0,this,List.length_cons,Nat.pow_succ,Nat.add_mul];rw[show x*256*256 ^ bs.length=x*(256 ^ bs.length*256) by rw[Nat.mul_comm (256 ^ bs.length) 256,← Nat.mul_assoc]]
          omega
      . cases e
    . cases e
theorem Xfd:∀ (bs:List UInt8)(r:ByteArray),(bs.map (fun b=>(b.toNat:Int))).foldl (fun (r:ByteArray) n=>r.push (UInt8.ofNat n.toNat)) r=⟨r.data++bs.toArray⟩
  |[],r=>by simp
  |b::bs,r=>by
    simp only[List.map_cons,List.foldl_cons];rw[Xfd bs]
    have:UInt8.ofNat ((b.toNat:Int).toNat)=b:=by simp
    rw[this]
    congr 1
    apply Array.ext'
    simp[ByteArray.push]
theorem XoV (c : Cx P ρ h w e a) {s d el : Nat} {x : Operand} {x' : Opd} (hop : o.op = .convert s d x) (hsu : P.underlying s = some (.slice el)) (hdu : P.underlying d = some .string) (hel : P.underlying el = some (.int .u8)) (hx : Xj P x = some x')
    {v:V}{h':H} (hs:sB2s h (Vm.opd e x')=.ok v h'):X9 P ρ h w a o v h':=by
  have rx:=c.opd hx;unfold sB2s at hs;split at hs
  . rename_i hb
    rw[hb] at rx;injection hs with e1 e2; subst e1 e2
    refine Xf (v':=.string .empty) c.r ?_ ?_
    . simp[execOp,hop,Ye rx,run_convert_bytes_string w s d el none 0 0 hsu hel hdu,Conv.bytesToString]
    . exact VRel.str ByteArray.empty
  . rename_i q i n cc s' ex hb
    rw[hb] at rx;split at hs
    . rename_i hs1
      subst hs1;split at hs
      . rename_i l hl
        split at hs
        . rename_i m y hby
          injection hs with e1 e2; subst e1 e2
          obtain⟨_,_,_,_,_,hg,_⟩:=Zk hl;obtain⟨p,ad,c',hp,hxe,f1,f2,f3,f4,f5⟩:=Zx rx (by rw[hg]; simp)
          obtain⟨vs,r1,r2,r3,r4⟩:=ZK (P:=P) c.r hp hl;obtain⟨bs,b1,b2,b3⟩:=XaA _ _ _ _ _ _ r1 hby
          have hld:(loadCells ad n).run P w=.ok ((bs.map (fun b=>(b.toNat:Int))).map (Value.int .u8)).toArray w:=by
            rw[List.map_map]
            by_cases hc:0<c'
            . rw[f4 hc,r3,b1]; rfl
            . obtain rfl:n=0:=by omega
              have:vs=[]:=List.length_eq_zero_iff.1 r2
              rw[this] at b1
              have:bs=[]:=by simpa using b1.symm
              subst this
              simp[loadCells,loadCellsFrom]
          have hrun:=run_bytesToString (P:=P) w ad n c' _ hld;rw[Xfd] at hrun;refine Xf (v':=.string ⟨ByteArray.empty.data++bs.toArray⟩) c.r ?_ ?_
          . simp[execOp,hop,hxe,run_convert_bytes_string w s d el (some ad) n c' hsu hel hdu,hrun]
          . have:=VRel.str (ρ:=ρ) (h:=h) ⟨ByteArray.empty.data++bs.toArray⟩
            have e1:(ByteArray.mk (ByteArray.empty.data++bs.toArray)).data.toList=bs:=by simp
            rw[e1] at this;rw[b2,b3]
            simpa using this
        . cases hs
      . cases hs
    . cases hs
  . cases hs
theorem Xm6 (c : Cx P ρ h w e a) {cl : Call} {xs : List Operand} {l : List Opd} {mx : Bool} (hop : o.op = .call cl) (hcl : cl.callee = .builtin (if mx then .max else .min)) (har : cl.args.toList = xs) (hl : Zj P xs = some l)
    {v:V}{h':H} (hs:sMm h mx (l.map (Vm.opd e))=.ok v h'):X9 P ρ h w a o v h':=by
  have hr:=Xdo c.er c.gr hl
  have step:∀ (x y z:V) (x' y':Value),VRel ρ h x x'->VRel ρ h y y'->mmV mx x y=some z->∃ z',(if mx then Builtin.max2 x' y' else Builtin.min2 x' y').run P w=.ok z' w/\VRel ρ h z z':=by
    intro x y z x' y' rx ry hz;unfold mmV at hz;split at hz
    . simp only[Option.some.injEq] at hz; subst hz
      rw[Ym rx,Ym ry]
      cases mx<;>exact⟨_,rfl,.int _ _⟩
    . obtain⟨s,hs1,hs2,hs3⟩:=Y9 rx
      obtain⟨u,hu1,hu2,hu3⟩:=Y9 ry;rw[hs2,hs3,hu2,hu3,YK,Yn] at hz;cases mx
      . simp only[Bool.false_eq_true,if_false] at hz ⊢
        have hq:(Builtin.min2 x' y').run P w=.ok (.string (if (Op.bytesLess s.data.toList u.data.toList||(s.data.toList == u.data.toList))=true then s else u)) w:=by
          rw[hs1,hu1]
          simp[Builtin.min2,Op.stringOp,asBool,ZN]
        rw[hq];split at hz
        . rename_i hc
          simp only[Option.some.injEq] at hz; subst hz
          refine⟨_,rfl,?_⟩
          rw[if_pos hc]; exact .str s
        . rename_i hc
          simp only[Option.some.injEq] at hz; subst hz
          refine⟨_,rfl,?_⟩
          rw[if_neg hc]; exact .str u
      . simp only[if_true] at hz ⊢
        have hq:(Builtin.max2 x' y').run P w=.ok (.string (if (!Op.bytesLess s.data.toList u.data.toList)=true then s else u)) w:=by
          rw[hs1,hu1]
          simp[Builtin.max2,Op.stringOp,asBool,ZN]
        rw[hq];split at hz
        . rename_i hc
          simp only[Option.some.injEq] at hz; subst hz
          refine⟨_,rfl,?_⟩
          rw[if_neg (by simp[hc])]; exact .str u
        . rename_i hc
          simp only[Option.some.injEq] at hz; subst hz
          refine⟨_,rfl,?_⟩
          rw[if_pos (by simpa using hc)]; exact .str s
    . cases hz
  have fold:∀ (l:List V) (vs:List Value) (x z:V) (x':Value),VRels ρ h l vs->VRel ρ h x x'->mmL mx x l=some z->∃ z',(vs.foldlM (fun a b=>if mx then Builtin.max2 a b else Builtin.min2 a b) x').run P w=.ok z' w/\VRel ρ h z z':=by
    intro l
    induction l with
    |nil =>
      intro vs x z x' hl hx hz;cases hl;simp only[mmL,Option.some.injEq] at hz; subst hz
      exact⟨x',rfl,hx⟩
    |cons y l ih =>
      intro vs x z x' hl hx hz
      cases hl with
      |cons hy ht =>
        simp only[mmL] at hz;split at hz
        . rename_i w1 hw1
          obtain⟨z1,q1,q2⟩:=step _ _ _ _ _ hx hy hw1;obtain⟨z',p1,p2⟩:=ih _ _ _ _ ht q2 hz
          refine⟨z',?_,p2⟩
          rw[List.foldlM_cons,Sem.run_bind,q1];exact p1
        . cases hz
  generalize l.map (Vm.opd e)=L at hr hs
  unfold sMm at hs;split at hs
  . cases hs
  . rename_i x r
    have har':(cl.args.map a.eval).toList=xs.map a.eval:=by rw[Array.toList_map,har]
    generalize xs.map a.eval=XS at hr har'
    cases hr with
    |cons hx ht =>
      rename_i x' xs';unfold give at hs;split at hs
      . rename_i z hz
        injection hs with e1 e2; subst e1 e2
        obtain⟨z',q1,q2⟩:=fold _ _ _ _ _ ht hx hz;refine Xf (v':=z') c.r ?_ q2;cases mx
        . simp only[Bool.false_eq_true,if_false] at hcl q1
          simp[execOp,hop,resolve,hcl,invoke,builtin,Builtin.min_]
          rw[show (cl.args.toList.map a.eval)=(cl.args.map a.eval).toList by simp,har']
          simp[q1]
        . simp only[if_true] at hcl q1
          simp[execOp,hop,resolve,hcl,invoke,builtin,Builtin.max_]
          rw[show (cl.args.toList.map a.eval)=(cl.args.map a.eval).toList by simp,har']
          simp[q1]
      . cases hs
end
end Go.Vm
namespace Go.Vm
section
variable {P:Program}{ρ:Rho}{h:H}{w:World}{e:T V}{a:Act}{o:Oper}
theorem XC {d:Nat}{t:TypeId}{u:TypeDesc} (hu:P.underlying t=some u)(x y:Value)(b:Bool)(w:World)
    (hb:match u,x,y with
      | .bool,.bool p,.bool q=>b=(p == q)
      | .pointer _,.pointer none,.pointer q=>b=q.isNone
      | .pointer _,.pointer (some _),.pointer none=>b=false
      | .slice _,.slice none _ _,.slice q _ _=>b=q.isNone
      | .slice _,.slice (some _) _ _,.slice none _ _=>b=false
      | .func _ _ _,.nilFunc,.nilFunc=>b=true
      | .func _ _ _,.nilFunc,.func _ _ _=>b=false
      | .func _ _ _,.func _ _ _,.nilFunc=>b=false
      | .interface _,.nilIface,.nilIface=>b=true
      | .interface _,.nilIface,.iface _ _=>b=false
      | .interface _,.iface _ _,.nilIface=>b=false
      |_,_,_=>False):(Op.equalIn (d+1) t x y).run P w=.ok b w:=by
  unfold Op.equalIn;simp only[Sem.run_bind,run_underlying hu,Result.andThen_ok];split at hb<;>first | (subst hb; rfl) | exact hb.elim
theorem XL {t:TypeId}{x y:Value}{b:Bool}{w:World} (h1:∀ d,(Op.equalIn (d+1) t x y).run P w=.ok b w):(Op.equal t x y).run P w=.ok b w:=by
  have:Op.equal t x y=Op.equalIn (9999+1) t x y:=rfl
  rw[this]; exact h1 9999
def XkR (u v:Value):Prop:=match u,v with
  | .int _ _,.int _ _=>False
  | .float _ _,.float _ _=>False
  | .complex _ _ _,.complex _ _ _=>False
  | .string _,.string _=>False
  |_,_=>True
theorem Xgm (neg:Bool) {t:TypeId}{x y:Value}{b:Bool}{w:World} (h1:(Op.equal t x y).run P w=.ok b w)
    (hx:XkR x y) :
    (binOp (if neg then .neq else .eql) t x y).run P w=.ok (.bool (b != neg)) w:=by
  cases neg
  . simp only[Bool.false_eq_true,if_false]
    have:binOp .eql t x y=(do pure (.bool (← Op.equal t x y))):=by
      unfold XkR at hx;unfold binOp
      split<;>simp_all
    rw[this]
    simp[h1]
  . simp only[if_true]
    have:binOp .neq t x y=(do pure (.bool (!(← Op.equal t x y)))):=by
      unfold XkR at hx;unfold binOp
      split<;>simp_all
    rw[this]
    simp[h1]
theorem run_sameAddr_same {B i j:Nat} (w:World):(sameAddr ⟨B,i,none⟩ ⟨B,j,none⟩).run P w=.ok (i == j) w:=by
  have hd:decide ((⟨B,i,none⟩:Addr)=⟨B,j,none⟩)=(i == j):=by
    rw[Bool.eq_iff_iff]; simp
  unfold sameAddr;simp only[beq_self_eq_true,if_true,Sem.run_pure]
  congr 1
theorem Xay {w:World}{B j:Nat}{cs:Array Value}{el:TypeId}{fr:Nat×Nat} (hb:w.heap[B]? = some (.cells cs el fr))(hj:fr.2<=j):w.frozen? ⟨B,j,none⟩=false:=by
  obtain⟨lo,hi⟩:=fr;simp only[World.frozen?,hb,Bool.and_eq_false_iff,decide_eq_false_iff_not]
  right; simp only at hj; omega
theorem Xde {B B' i j:Nat}{w:World}{cs cs':Array Value}{el el':TypeId}{fr fr':Nat×Nat} (hne:B ≠ B')(hb:w.heap[B]? = some (.cells cs el fr))(hb':w.heap[B']? = some (.cells cs' el' fr'))
    (h1:fr.2<=i) (h2:fr.2<=cs.size) (h3:fr'.2<=j) (h4:fr'.2<=cs'.size):(sameAddr ⟨B,i,none⟩ ⟨B',j,none⟩).run P w=.ok false w:=by
  have hbe:(B == B')=false:=by simpa using hne
  have s1:w.shape? B=some (el,cs.size):=by simp[World.shape?,hb]
  have s2:w.shape? B'=some (el',cs'.size):=by simp[World.shape?,hb']
  have f1:=Xay hb h1;have f2:=Xay hb' h3;have f3:=Xay hb h2;have f4:=Xay hb' h4
  have st1:(stringish ⟨B,i,none⟩).run P w=.ok false w:=by
    simp[stringish,f1,s1,f3]
  have st2:(stringish ⟨B',j,none⟩).run P w=.ok false w:=by
    simp[stringish,f2,s2,f4]
  have nv1:(noView ⟨B,i,none⟩).run P w=.ok () w:=by simp[noView,viewAt,s1]
  have nv2:(noView ⟨B',j,none⟩).run P w=.ok () w:=by simp[noView,viewAt,s2]
  have mb:(mayBeOne ⟨B,i,none⟩ ⟨B',j,none⟩).run P w=.ok false w:=by
    simp[mayBeOne,st1,st2,s1,s2]
  unfold sameAddr
  simp[hbe,f1,nv1,nv2,mb]
theorem Xeq (op:BinOp)(t:TypeId)(x y:Operand)(ms:Array (String×TypeId))(w:World)(hu:P.underlying t=some (.interface ms))(hc:(isC x||isC y||ms.isEmpty)=true):(eqGuard op t x y .nilIface .nilIface).run P w=.ok () w:=by
  have hin:(Op.eqGuardIn Op.maxDepth t .nilIface .nilIface).run P w=.ok (!ms.isEmpty) w:=by
    have:Op.eqGuardIn Op.maxDepth t .nilIface .nilIface=Op.eqGuardIn (9999+1) t .nilIface .nilIface:=rfl
    rw[this];unfold Op.eqGuardIn
    simp[run_underlying hu]
  unfold eqGuard
  cases op<;>first
    |rfl
    | (simp only[Bool.not_true,Bool.false_eq_true,if_false,Sem.run_ite,Sem.run_bind,hin,Result.andThen_ok]
       cases x<;>cases y<;>simp_all [isC])
theorem Xt (op:BinOp)(t:TypeId)(x y:Operand)(u v:Value)(w:World)(h1:∀ cs,u ≠ .agg cs)(h2:u ≠ .nilIface∨v ≠ .nilIface):(eqGuard op t x y u v).run P w=.ok () w:=by
  unfold eqGuard
  cases op<;>(first | rfl | (simp only[Bool.not_true,Bool.false_eq_true,if_false]; split<;>first | exact absurd rfl (h1 _) | (rcases h2 with h2 | h2<;>exact absurd rfl h2) | rfl))
theorem Xm7 (c : Cx P ρ h w e a) {t yt : Nat} {x y : Operand} {x' y' : Opd} {k : EqK} {neg : Bool} (hop : o.op = .binOp (if neg then .neq else .eql) t x y yt) (hk : XjC P t (isC x || isC y) = some k) (hx : Xj P x = some x') (hy : Xj P y = some y')
    {v:V}{h':H} (hs:sEq h k neg (Vm.opd e x') (Vm.opd e y')=.ok v h'):X9 P ρ h w a o v h':=by
  have rx:=c.opd hx;have ry:=c.opd hy;unfold sEq at hs;split at hs
  . rename_i r hr
    injection hs with e1 e2; subst e1 e2
    have fin:∀ u u',a.eval x=u->a.eval y=u'->(eqGuard (if neg then .neq else .eql) t x y u u').run P w=.ok () w->(Op.equal t u u').run P w=.ok r w ->
        XkR u u'->X9 P ρ h w a o (.bool (r != neg)) h:=by
      intro u u' hu hu' hg he hm;refine Xf (v':=.bool (r != neg)) c.r ?_ (.bool _)
      simp[execOp,hop,hu,hu',hg,Xgm neg he hm]
    have dead:∀ {q:Nat},(if alive h q=true then some false else none:Option Bool)=some r->h.get q ≠ .dead/\r=false:=by
      intro q hq;split at hq
      . rename_i hal; simp only[Option.some.injEq] at hq; exact⟨YU hal,hq.symm⟩
      . cases hq
    unfold XjC at hk;split at hk
    . -- bool
      rename_i hu;simp only[Option.some.injEq] at hk; subst hk
      unfold eqOf at hr;split at hr<;>try (exfalso; simp_all; done)
      . rename_i p q e1 e2 e3
        simp only[Option.some.injEq] at hr; subst hr
        rw[e2] at rx; rw[e3] at ry
        exact fin _ _ (Yr rx) (Yr ry) (Xt _ _ _ _ _ _ _ (by simp) (.inl (by simp))) (XL fun d=>XC hu _ _ _ _ rfl) trivial
    . -- pointer
      rename_i el hu;split at hk
      . rename_i n hsz
        simp only[Option.some.injEq] at hk; subst hk
        unfold eqOf at hr;split at hr<;>try (exfalso; simp_all; done)
        . rename_i e1 e2 e3
          rw[e2] at rx; rw[e3] at ry
          simp only[Option.some.injEq] at hr; subst hr
          exact fin _ _ (XbA rx) (XbA ry) (Xt _ _ _ _ _ _ _ (by simp) (.inl (by simp))) (XL fun d=>XC hu _ _ _ _ rfl) trivial
        . rename_i q i e1 e2 e3
          rw[e2] at rx; rw[e3] at ry
          obtain⟨hal,rfl⟩:=dead hr;obtain⟨p,hp,hye⟩:=Yl ry hal;exact fin _ _ (XbA rx) hye (Xt _ _ _ _ _ _ _ (by simp) (.inl (by simp))) (XL fun d=>XC hu _ _ _ _ rfl) trivial
        . rename_i q i e1 e2 e3
          rw[e2] at rx; rw[e3] at ry
          obtain⟨hal,rfl⟩:=dead hr;obtain⟨p,hp,hxe⟩:=Yl rx hal;exact fin _ _ hxe (XbA ry) (Xt _ _ _ _ _ _ _ (by simp) (.inl (by simp))) (XL fun d=>XC hu _ _ _ _ rfl) trivial
        . rename_i q i q2 j e1 e2 e3
          rw[e2] at rx; rw[e3] at ry
          split at hr
          . rename_i hal
            simp only[Bool.and_eq_true] at hal;obtain⟨p,hp,hxe⟩:=Yl rx (YU hal.1);obtain⟨p2,hp2,hye⟩:=Yl ry (YU hal.2)
            have hsame:∀ d,(Op.equalIn (d+1) t (.pointer (some ⟨p.B,p.b+i,none⟩)) (.pointer (some ⟨p2.B,p2.b+j,none⟩))).run P w=(sameAddr ⟨p.B,p.b+i,none⟩ ⟨p2.B,p2.b+j,none⟩).run P w:=by
              intro d;unfold Op.equalIn
              simp[run_underlying hu,X6 hsz]
            have hfin:(sameAddr ⟨p.B,p.b+i,none⟩ ⟨p2.B,p2.b+j,none⟩).run P w=.ok r w:=by
              unfold XmI at hr;split at hr
              . rename_i hqq
                subst hqq;rw[hp,Option.some.injEq] at hp2;subst hp2;simp only[Option.some.injEq] at hr;rw[run_sameAddr_same,← hr]
                congr 1
                rw[Bool.eq_iff_iff]; simp
              . rename_i hqq
                split at hr
                . cases hr
                rename_i hbl
                have hlow:¬ (q<h.fl/\q2<h.fl):=fun h2=>by
                  rw[show Nat.blt q h.fl=true by simpa using h2.1,show Nat.blt q2 h.fl=true by simpa using h2.2] at hbl
                  cases hbl
                split at hr
                . rename_i n1 t1 s1 l1 n2 t2 s2 l2 g1 g2
                  simp only[Option.some.injEq] at hr; subst hr
                  have o1:=c.r.obj _ _ hp;have o2:=c.r.obj _ _ hp2;rw[g1] at o1; rw[g2] at o2
                  obtain⟨cs,fr,b1,b2,b3,_,_,b6⟩:=o1;obtain⟨cs',fr',d1,d2,d3,_,_,d6⟩:=o2
                  have b6':fr.2<=p.b+0:=b6
                  have d6':fr'.2<=p2.b+0:=d6
                  exact Xde (fun hB=>(c.r.inj _ _ _ _ hp hp2 hB).elim hqq hlow) b1 d1 (by omega) (by omega) (by omega) (by omega)
                . cases hr
            exact fin _ _ hxe hye (Xt _ _ _ _ _ _ _ (by simp) (.inl (by simp))) (XL fun d=>by rw[hsame d]; exact hfin) trivial
          . cases hr
      . cases hk
    . -- slice
      rename_i el hu;simp only[Option.some.injEq] at hk; subst hk
      unfold eqOf at hr;split at hr<;>try (exfalso; simp_all; done)
      . rename_i e1 e2 e3
        rw[e2] at rx; rw[e3] at ry
        simp only[Option.some.injEq] at hr; subst hr
        exact fin _ _ (Ye rx) (Ye ry) (Xt _ _ _ _ _ _ _ (by simp) (.inl (by simp))) (XL fun d=>XC hu _ _ _ _ rfl) trivial
      . rename_i e1 e2 e3
        rw[e2] at rx; rw[e3] at ry
        obtain⟨hal,rfl⟩:=dead hr;obtain⟨p,ad,c',hp,hye,_⟩:=Zx ry hal;exact fin _ _ (Ye rx) hye (Xt _ _ _ _ _ _ _ (by simp) (.inl (by simp))) (XL fun d=>XC hu _ _ _ _ rfl) trivial
      . rename_i e1 e2 e3
        rw[e2] at rx; rw[e3] at ry
        obtain⟨hal,rfl⟩:=dead hr;obtain⟨p,ad,c',hp,hxe,_⟩:=Zx rx hal;exact fin _ _ hxe (Ye ry) (Xt _ _ _ _ _ _ _ (by simp) (.inl (by simp))) (XL fun d=>XC hu _ _ _ _ rfl) trivial
    . -- func
      rename_i hu;simp only[Option.some.injEq] at hk; subst hk
      unfold eqOf at hr;split at hr<;>try (exfalso; simp_all; done)
      . rename_i e1 e2 e3
        rw[e2] at rx; rw[e3] at ry
        simp only[Option.some.injEq] at hr; subst hr
        exact fin _ _ (Xcf rx) (Xcf ry) (Xt _ _ _ _ _ _ _ (by simp) (.inl (by simp))) (XL fun d=>XC hu _ _ _ _ rfl) trivial
      . rename_i e1 e2 e3
        rw[e2] at rx; rw[e3] at ry
        simp only[Option.some.injEq] at hr; subst hr
        obtain⟨cs,hye,_⟩:=Xet ry;exact fin _ _ (Xcf rx) hye (Xt _ _ _ _ _ _ _ (by simp) (.inl (by simp))) (XL fun d=>XC hu _ _ _ _ rfl) trivial
      . rename_i e1 e2 e3
        rw[e2] at rx; rw[e3] at ry
        simp only[Option.some.injEq] at hr; subst hr
        obtain⟨cs,hxe,_⟩:=Xet rx;exact fin _ _ hxe (Xcf ry) (Xt _ _ _ _ _ _ _ (by simp) (.inl (by simp))) (XL fun d=>XC hu _ _ _ _ rfl) trivial
    . -- interface
      rename_i ms hu;simp only[Option.some.injEq] at hk; subst hk
      unfold eqOf at hr;split at hr<;>try (exfalso; simp_all; done)
      . rename_i cc e1 e2 e3
        rw[e2] at rx; rw[e3] at ry
        injection e1 with e1
        split at hr
        . rename_i hcc
          simp only[Option.some.injEq] at hr; subst hr
          exact fin _ _ (Xce rx) (Xce ry) (Xeq _ _ _ _ ms _ hu (by rw[e1]; exact hcc)) (XL fun d=>XC hu _ _ _ _ rfl) trivial
        . cases hr
      . rename_i e1 e2 e3
        rw[e2] at rx; rw[e3] at ry
        simp only[Option.some.injEq] at hr; subst hr
        obtain⟨z,hye,_⟩:=XeH ry;exact fin _ _ (Xce rx) hye (Xt _ _ _ _ _ _ _ (by simp) (.inr (by simp))) (XL fun d=>XC hu _ _ _ _ rfl) trivial
      . rename_i e1 e2 e3
        rw[e2] at rx; rw[e3] at ry
        simp only[Option.some.injEq] at hr; subst hr
        obtain⟨z,hxe,_⟩:=XeH rx;exact fin _ _ hxe (Xce ry) (Xt _ _ _ _ _ _ _ (by simp) (.inl (by simp))) (XL fun d=>XC hu _ _ _ _ rfl) trivial
    . cases hk
  . cases hs
end
end Go.Vm
namespace Go.Vm
section
variable {P:Program}{ρ:Rho}{h:H}{w:World}{e:T V}{a:Act}{o:Oper}
theorem Xc2 (a b:List V):∀ (l r:List (Nat×LK)),YJ a b (l++r)=match YJ a b l with
    |some true=>YJ a b r
    |some false=>some false
    |none=>none
  |[],r=>by simp[YJ]
  | (i,k)::l,r=>by
    simp only[List.cons_append,YJ];split
    . split
      . exact Xc2 a b l r
      . rfl
      . rfl
    . rfl
def Sub (P:Program)(t:Nat)(cs:Array Value)(base:Nat)(x:Value):Prop :=
  (isAg P t=some true/\∃ xs n,x=.agg xs/\Xq P t=some n/\∀ j,j<n->xs[j]? = cs[base+j]?)∨(isAg P t=some false/\cs[base]? = some x)
theorem Z7 {t:Nat}{u:TypeDesc} (hu:P.underlying t=some u)(h1:∀ fs,u ≠ .struct fs)(h2:∀ n el,u ≠ .array n el):isAg P t=some false:=by
  unfold isAg;rw[hu];split
  . rename_i e; simp only[Option.some.injEq] at e; exact absurd e (h1 _)
  . rename_i e; simp only[Option.some.injEq] at e; exact absurd e (h2 _ _)
  . rfl
  . rename_i e; cases e
theorem XeL {t base:Nat}{cs:Array Value}{x:Value} (hag:isAg P t=some false)(hx:Sub P t cs base x):cs[base]? = some x:=by
  rcases hx with ⟨hx,_⟩ | ⟨_,hx⟩
  . rw[hag] at hx; cases hx
  . exact hx
theorem XcD {A B:List V}{cs cs':Array Value} (ra:VRels ρ h A cs.toList)(rb:VRels ρ h B cs'.toList) {t base:Nat}{k:LK}{x y:Value}{r:Bool} (hag:isAg P t=some false)(hx:Sub P t cs base x)(hy:Sub P t cs' base y)
    (hr:YJ A B [(base,k)]=some r):∃ p q,VRel ρ h p x/\VRel ρ h q y/\Xal k p q=some r:=by
  have hx':=XeL hag hx;have hy':=XeL hag hy;simp only[YJ] at hr;split at hr
  . rename_i p q hp hq
    obtain⟨p',hp',rp⟩:=ra.get hp;obtain⟨q',hq',rq⟩:=rb.get hq;rw[Array.getElem?_toList,hx',Option.some.injEq] at hp';rw[Array.getElem?_toList,hy',Option.some.injEq] at hq';subst hp' hq'
    refine⟨p,q,rp,rq,?_⟩
    split at hr
    . rename_i hc; rw[hc]; exact hr
    . rename_i hc; rw[hc]; exact hr
    . cases hr
  . cases hr
theorem XdH {d t base:Nat}{l:List (Nat×LK)} (hl:leaves P d t base=some l):(isAg P t=some false/\∃ k,l=[(base,k)])∨isAg P t=some true:=by
  cases d with
  |zero=>simp[leaves] at hl
  |succ d =>
    simp only[leaves] at hl;split at hl
    . rename_i hu; simp only[Option.some.injEq] at hl; exact .inl ⟨Z7 hu (by simp) (by simp),_,hl.symm⟩
    . rename_i hu; simp only[Option.some.injEq] at hl; exact .inl ⟨Z7 hu (by simp) (by simp),_,hl.symm⟩
    . rename_i hu; simp only[Option.some.injEq] at hl; exact .inl ⟨Z7 hu (by simp) (by simp),_,hl.symm⟩
    . rename_i hu; exact .inr (by unfold isAg; rw[hu])
    . cases hl
theorem Xky {f:Field}{zs c0:Array Value}{base n s:Nat}{ag:Bool} (hz:∀ j,j<n->zs[j]? = c0[base+j]?)(hag:isAg P f.type=some ag)(hs:Xq P f.type=some s)(hle:f.offset+s<=n)(hpos:0<s)(w:World) :
    (∃ z,(part f.type zs f.offset).run P w=.ok z w/\Sub P f.type c0 (base+f.offset) z)∨(isAg P f.type=some false/\c0[base+f.offset]? = none):=by
  cases ag with
  |true =>
    refine .inl ⟨.agg (zs.extract f.offset (f.offset+s)),by simp[part,Wu hag,X6 hs],.inl ⟨hag,_,s,rfl,hs,?_⟩⟩
    intro j hj;have h1:=hz (f.offset+j) (by omega)
    have e:(zs.extract f.offset (f.offset+s))[j]? = zs[f.offset+j]? := by
      rw[← Array.getElem?_toList,Array.toList_extract,List.extract_eq_take_drop,List.getElem?_take,if_pos (by omega),List.getElem?_drop,Array.getElem?_toList]
    rw[e,h1]
    congr 1; omega
  |false =>
    have hz0:=hz f.offset (by omega)
    cases hc:c0[base+f.offset]? with
    |none=>exact .inr ⟨hag,rfl⟩
    |some z=>exact .inl ⟨z,by simp[part,Wu hag,hz0,hc],.inr ⟨hag,hc⟩⟩
theorem Xk5 {c0:Array Value}{A0:List V}{i:Nat} (rr:VRels ρ h A0 c0.toList)(hnone:c0[i]? = none):A0[i]? = none:=by
  have:=rr.length
  simp only[Array.length_toList] at this;rw[List.getElem?_eq_none_iff,← this];exact Array.getElem?_eq_none_iff.1 hnone
theorem Xf9 {A B : List V} {cs cs' : Array Value} (ra : VRels ρ h A cs.toList) (rb : VRels ρ h B cs'.toList) {d n base d' : Nat} {xs ys : Array Value}
    (ih:∀ (t base:Nat) (offs:List (Nat×LK)),leaves P d t base=some offs->∀ (x y:Value) (r:Bool),Sub P t cs base x->Sub P t cs' base y->YJ A B offs=some r->(Op.equalIn d' t x y).run P w=.ok r w)
    (hxs:∀ j,j<n->xs[j]? = cs[base+j]?) (hys:∀ j,j<n->ys[j]? = cs'[base+j]?):∀ (L:List Field) (offs:List (Nat×LK)) (r:Bool),
    L.foldr (fun f acc => if f.name = "_" then none else match acc, leaves P d f.type (base + f.offset), Xq P f.type with
      |some r,some l,some s=>if f.offset+s<=n/\0<s then some (l++r) else none
      |_,_,_=>none) (some [])=some offs->YJ A B offs=some r->(Op.eqFields d' xs ys L).run P w=.ok r w
  |[],offs,r,hl,hr=>by
    simp only[List.foldr_nil,Option.some.injEq] at hl;subst hl;simp only[YJ,Option.some.injEq] at hr;subst hr
    simp[Op.eqFields]
  | f :: L, offs, r, hl, hr => by
    simp only[List.foldr_cons] at hl;split at hl
    . cases hl
    . rename_i hname
      split at hl
      . rename_i r' l s hr' hl' hs'
        split at hl
        . rename_i hle
          simp only[Option.some.injEq] at hl;subst hl;rw[Xc2] at hr
          have hname' : f.name ≠ "_" := hname
          rw[Op.eqFields,if_pos hname']
          have hag:∃ ag,isAg P f.type=some ag:=(XdH hl').elim (fun h=>⟨_,h.1⟩) (fun h=>⟨_,h⟩)
          obtain⟨ag,hag⟩:=hag
          rcases Xky hxs hag hs' hle.1 hle.2 w with ⟨zx,px,sx⟩ | ⟨hag',hnone⟩
          . rcases Xky hys hag hs' hle.1 hle.2 w with ⟨zy,py,sy⟩ | ⟨hag',hnone⟩
            . simp only[Sem.run_bind,px,py,Result.andThen_ok]
              cases hle2:YJ A B l with
              |none=>rw[hle2] at hr; cases hr
              |some r1 =>
                have h1:=ih f.type (base+f.offset) l hl' zx zy r1 sx sy hle2;rw[h1];rw[hle2] at hr
                cases r1 with
                |true =>
                  simp only[Result.andThen_ok,Bool.not_true,Bool.false_eq_true,if_false];exact Xf9 ra rb ih hxs hys L r' r hr' hr
                |false =>
                  simp only[Option.some.injEq] at hr;subst hr
                  simp
            . rcases XdH hl' with ⟨_,k,rfl⟩ | h1
              . simp only[YJ] at hr
                rw[Xk5 rb hnone] at hr
                simp at hr
              . rw[h1] at hag'; cases hag'
          . rcases XdH hl' with ⟨_,k,rfl⟩ | h1
            . simp only[YJ] at hr
              rw[Xk5 ra hnone] at hr
              simp at hr
            . rw[h1] at hag'; cases hag'
        . cases hl
      . cases hl
theorem Xjw {A B : List V} {cs cs' : Array Value} (ra : VRels ρ h A cs.toList) (rb : VRels ρ h B cs'.toList) : ∀ (d t base : Nat) (offs : List (Nat × LK)), leaves P d t base = some offs →
    ∀ (d':Nat) (x y:Value) (r:Bool),Sub P t cs base x->Sub P t cs' base y->YJ A B offs=some r->d<=d'->(Op.equalIn d' t x y).run P w=.ok r w:=by
  intro d
  induction d with
  |zero=>intro t base offs hl; simp[leaves] at hl
  |succ d ih =>
    intro t base offs hl d' x y r hx hy hr hd
    obtain⟨d',rfl⟩:∃ k,d'=k+1:=⟨d'-1,by omega⟩
    simp only[leaves] at hl;split at hl
    . rename_i kk hu
      simp only[Option.some.injEq] at hl;subst hl;obtain⟨p,q,rp,rq,hc⟩:=XcD ra rb (Z7 hu (by simp) (by simp)) hx hy hr
      unfold Xal at hc;split at hc<;>try (exfalso; simp_all; done)
      split at hc
      . rename_i hkk
        subst hkk;simp only[Option.some.injEq] at hc; subst hc
        rw[Ym rp,Ym rq];exact run_equalIn_int w d' t _ kk _ _ hu
      . cases hc
    . rename_i hu
      simp only[Option.some.injEq] at hl;subst hl;obtain⟨p,q,rp,rq,hc⟩:=XcD ra rb (Z7 hu (by simp) (by simp)) hx hy hr
      unfold Xal at hc;split at hc<;>try (exfalso; simp_all; done)
      simp only[Option.some.injEq] at hc; subst hc
      rw[Yr rp,Yr rq];exact run_equalIn_bool' w d' t _ _ hu
    . rename_i hu
      simp only[Option.some.injEq] at hl;subst hl;obtain⟨p,q,rp,rq,hc⟩:=XcD ra rb (Z7 hu (by simp) (by simp)) hx hy hr
      unfold Xal at hc;split at hc<;>try (exfalso; simp_all; done)
      simp only[Option.some.injEq] at hc;obtain⟨s,hs1,hs2,hs3⟩:=Y9 rp;obtain⟨u,hu1,hu2,hu3⟩:=Y9 rq;rw[hs2,hs3,hu2,hu3,Yn] at hc;subst hc;rw[hs1,hu1,run_equalIn_string w d' t _ _ hu,ZN,ZN]
    . rename_i fs hu
      split at hl
      . rename_i hst
        split at hl
        . rename_i n hn
          have hag:isAg P t=some true:=by unfold isAg; rw[hu]
          obtain⟨xs,hxe,hxs⟩:∃ xs,x=.agg xs/\∀ j,j<n->xs[j]? = cs[base+j]? := by
            rcases hx with ⟨_,xs,n',e1,e2,e3⟩ | ⟨hx,_⟩
            . rw[hn,Option.some.injEq] at e2; subst e2; exact⟨xs,e1,e3⟩
            . rw[hag] at hx; cases hx
          obtain⟨ys,hye,hys⟩:∃ ys,y=.agg ys/\∀ j,j<n->ys[j]? = cs'[base+j]? := by
            rcases hy with ⟨_,xs,n',e1,e2,e3⟩ | ⟨hy,_⟩
            . rw[hn,Option.some.injEq] at e2; subst e2; exact⟨xs,e1,e3⟩
            . rw[hag] at hy; cases hy
          have hf:P.fieldsOf t=fs:=by simp[Program.fieldsOf,hu]
          rw[hxe,hye,run_equalIn_struct w d' t xs ys (by rw[hf]; exact hu) hst,hf]
          exact Xf9 ra rb (fun t b offs hl x y r sx sy hr=>ih t b offs hl d' x y r sx sy hr (by omega)) hxs hys _ _ _ hl hr
        . cases hl
      . cases hl
    . cases hl
theorem XiF {d t base:Nat}{fs:Array Field}{offs:List (Nat×LK)} (hu:P.underlying t=some (.struct fs))(hl:leaves P (d+1) t base=some offs):∃ n,Xq P t=some n:=by
  simp only[leaves] at hl;rw[hu] at hl
  simp only at hl
  split at hl
  . split at hl
    . exact⟨_,by assumption⟩
    . cases hl
  . cases hl
theorem Xkq (c : Cx P ρ h w e a) {t yt : Nat} {x y : Operand} {x' y' : Opd} {neg : Bool} {fs : Array Field} {offs : List (Nat × LK)} (hop : o.op = .binOp (if neg then .neq else .eql) t x y yt) (hu : P.underlying t = some (.struct fs))
    (hl:leaves P 20 t 0=some offs) (hg:P.eqGuardType P.depth t=false) (hx:Xj P x=some x') (hy:Xj P y=some y')
    {v:V}{h':H} (hs:sEqs h neg offs (Vm.opd e x') (Vm.opd e y')=.ok v h'):X9 P ρ h w a o v h':=by
  have rx:=c.opd hx;have ry:=c.opd hy;unfold sEqs at hs;split at hs
  . rename_i A B ha hb
    rw[ha] at rx; rw[hb] at ry
    split at hs
    . rename_i r hr
      injection hs with e1 e2; subst e1 e2
      obtain⟨cs,hxe,ra⟩:=XbC rx;obtain⟨cs',hye,rb⟩:=XbC ry;obtain⟨n,hn⟩:=XiF (d:=19) hu hl
      have hag:isAg P t=some true:=by unfold isAg; rw[hu]
      have heq:(Op.equal t (.agg cs) (.agg cs')).run P w=.ok r w:=by
        have:Op.equal t (.agg cs) (.agg cs')=Op.equalIn 10000 t (.agg cs) (.agg cs'):=rfl
        rw[this];exact Xjw ra rb 20 t 0 offs hl 10000 _ _ r (.inl ⟨hag,cs,n,rfl,hn,fun j _=>by rw[Nat.zero_add]⟩) (.inl ⟨hag,cs',n,rfl,hn,fun j _=>by rw[Nat.zero_add]⟩) hr (by omega)
      refine Xf (v':=.bool (r != neg)) c.r ?_ (.bool _)
      have hge:(eqGuard (if neg then .neq else .eql) t x y (.agg cs) (.agg cs')).run P w=.ok () w:=run_eqGuard_agg w _ t x y cs cs' hg
      have hbe:=Xgm (P:=P) (w:=w) (x:=.agg cs) (y:=.agg cs') neg heq trivial;simp only[execOp,hop,hxe,hye,Sem.run_bind,hge,Result.andThen_ok,hbe,Sem.run_pure]
    . cases hs
  . cases hs
end
end Go.Vm
namespace Go.Vm
section
variable {P:Program}{ρ:Rho}{h:H}{w:World}{e:T V}{a:Act}{o:Oper}
theorem XdL (hp:Array Go.Obj)(x:Go.Obj)(f:Go.Obj->Go.Obj):(hp.push x).modify hp.size f=hp.push (f x):=by
  apply Array.ext_getElem?
  intro i;simp only[Array.getElem?_modify,Array.getElem?_push]
  by_cases hi:i=hp.size
  . subst hi; simp
  . have:¬ hp.size=i:=fun e=>hi e.symm
    simp[hi,this]
theorem Xjj (w:World)(cs:Array Value)(el:TypeId)(fr:Nat×Nat):World.shape? { w with heap:=w.heap.push (.cells cs el fr) } w.heap.size=some (el,cs.size):=by
  simp[World.shape?]
theorem XgR (d:Array UInt8)(k:Nat):(d.map fun y=>Value.int .u8 y.toNat)++Array.replicate k (Value.int .u8 0)=((d.toList.map fun y=>Value.int .u8 y.toNat)++List.replicate k (Value.int .u8 0)).toArray:=by
  apply Array.ext'
  simp
theorem Xo8 (c : Cx P ρ h w e a) {s d el : Nat} {x : Operand} {x' : Opd} (hop : o.op = .convert s d x) (hsu : P.underlying s = some .string) (hdu : P.underlying d = some (.slice el)) (hel : P.underlying el = some (.int .u8)) (hx : Xj P x = some x')
    {v:V}{h':H} (hs:sS2b h el (Vm.opd e x')=.ok v h'):X9 P ρ h w a o v h':=by
  have rx:=c.opd hx;unfold sS2b at hs;split at hs
  . rename_i n z hb
    rw[hb] at rx;obtain⟨b,hb1,hb2,hb3⟩:=Y9 rx;injection hs with e1 e2; subst e1 e2
    subst hb2 hb3
    have hsz:b.size=b.data.toList.length:=rfl
    obtain⟨cap,hcap,hch⟩:∃ cap,b.data.toList.length<=cap/\(choose (.appendCap b.size 0 el)).run P w=.ok cap w.drew :=
      ⟨(Question.appendCap b.size 0 el).cut (w.tape w.drawn (.appendCap b.size 0 el)),Nat.le_add_right _ _,rfl⟩
    let vs:List Value:=b.data.toList.map fun y=>Value.int .u8 y.toNat
    let rest:List Value:=List.replicate (cap-b.data.toList.length) (Value.int .u8 0)
    have hlen:vs.length+rest.length=cap:=by simp only[vs,rest,List.length_map,List.length_replicate]; omega
    have harr:(b.data.map fun y=>Value.int .u8 y.toNat)++Array.replicate (cap-b.size) (Value.int .u8 0)=(vs++rest).toArray:=by
      have:=XgR b.data (cap-b.size)
      exact this
    have hrun:(execOp a.eval o).run P w=.ok (.value (.slice (some ⟨w.heap.size,0,none⟩) b.data.toList.length cap)) { w.drew with heap:=w.heap.push (.cells (vs++rest).toArray el (cap,cap+1)) }:=by
      have hconv:(Conv.stringToBytes el b).run P w=.ok (.slice (some ⟨w.heap.size,0,none⟩) b.data.toList.length cap) { w.drew with heap:=w.heap.push (.cells (vs++rest).toArray el (cap,cap+1)) }:=by
        unfold Conv.stringToBytes;simp only[Sem.run_bind,hch,Result.andThen_ok,harr,newRow,run_newObj,Sem.run_pure,markStringish,run_shape]
        have hsh:World.shape? { w.drew with heap:=w.drew.heap.push (.cells (vs++rest).toArray el) } w.drew.heap.size=some (el,cap):=by
          have:=Xjj w.drew (vs++rest).toArray el (0,0)
          rw[this];simp only[List.size_toArray,List.length_append,hlen]
        simp only[hsh,run_freeze,Result.andThen_ok]
        congr 1
        simp only[World.freeze];rw[if_neg (by omega)]
        have hm:=XdL w.drew.heap (.cells (vs++rest).toArray el) (fun
          | .cells c elem (lo,hi)=>.cells c elem (if lo == hi then (cap,cap+1) else (min lo cap,max hi (cap+1)))
          |o=>o)
        simp only[World.mk.injEq,true_and,and_true];exact hm
      simp[execOp,hop,hb1,convert,run_underlying hsu,run_underlying hdu,run_underlying hel,hconv]
    refine⟨_,_,ρ.add h.n ⟨w.heap.size,0,vs.length+rest.length⟩,.inl hrun,?_,?_⟩
    . exact .sl (p:=⟨w.heap.size,0,vs.length+rest.length⟩) (by simp[Rho.add]) (Nat.le_refl _) hcap (fun h=>by cases h) (fun _=>rfl) (by simp only[Nat.zero_add,Nat.mul_one]; omega)
    . exact XaM c.r c.wh (XcY b) (rest:=rest) (fun h=>by cases h) (.inl (by show vs.length+rest.length<=cap; omega)) rfl rfl rfl rfl
  . cases hs
theorem Xo9 (c:Cx P ρ h w e a) {t:Nat}{x:Operand}{x':Opd} (hop:o.op=.range t x)(hu:P.underlying t=some .string)(hx:Xj P x=some x')
    {v:V}{h':H} (hs:sRng h (Vm.opd e x')=.ok v h'):X9 P ρ h w a o v h':=by
  have rx:=c.opd hx;unfold sRng at hs;split at hs
  . rename_i n z hb
    rw[hb] at rx;obtain⟨b,hb1,hb2,hb3⟩:=Y9 rx;injection hs with e1 e2; subst e1 e2
    refine⟨.pointer (some ⟨w.heap.size,0,none⟩),{ w with heap:=w.heap.push (.stringIter b 0) },ρ.add h.n ⟨w.heap.size,0,0⟩,.inl ?_,?_,?_⟩
    . simp[execOp,hop,hb1,Instr.range,run_underlying hu]
    . exact .ptr (p:=⟨w.heap.size,0,0⟩) (by simp[Rho.add])
    . refine Xgp c.r c.wh rfl rfl rfl rfl (by simp) (fun B hB=>by simp only[Array.getElem?_push]; rw[if_neg (by omega)]) ?_
      intro ρ' h'' _
      exact⟨b,by simp,hb2.symm,hb3.symm,rfl⟩
  . cases hs
theorem get!_toList (b:ByteArray)(i:Nat)(hi:i<b.data.toList.length):b.get! i=b.data.toList[i]:=by
  have:i<b.data.size:=hi
  show b.data[i]! = _
  rw[getElem!_pos b.data i this]
  simp
theorem XoB (c : Cx P ρ h w e a) {x : Operand} {x' : Opd} (hop : o.op = .next x true) (hx : Xj P x = some x')
    {v:V}{h':H} (hs:sNxt h (Vm.opd e x')=.ok v h'):X9 P ρ h w a o v h':=by
  have rx:=c.opd hx;unfold sNxt at hs;split at hs
  . rename_i q hb
    rw[hb] at rx;split at hs
    . rename_i n z pos hg
      obtain⟨p,hp,hxe⟩:=Yl rx (by rw[hg]; simp)
      have ho:=c.r.obj _ _ hp;rw[hg] at ho;obtain⟨b,b1,b2,b3,b4⟩:=ho;rw[b4] at hxe
      have hsz:b.size=n:=b2
      split at hs
      . rename_i hlt
        split at hs
        . rename_i hc
          injection hs with e1 e2; subst e1 e2
          have hlt':pos<b.data.toList.length:=by omega
          have hat:XbE n z pos=(b.data.toList[pos]).toNat:=by rw[← b2,← b3]; exact Z5 _ _ hlt'
          have hdec:Utf8.decode b pos=(XbE n z pos,1):=by
            unfold Utf8.decode
            have h0:(b.get! (pos+0)).toNat=XbE n z pos:=by rw[Nat.add_zero,get!_toList b pos hlt',hat]
            simp only[h0];rw[if_pos hc.1]
          have hgo:(getObj p.B).run P w=.ok (.stringIter b pos) w:=by simp[getObj,Sem.run,b1]
          have hB:=(Array.getElem?_eq_some_iff.1 b1).1
          have hset:(setObj p.B (.stringIter b (pos+1))).run P w=.ok () { w with heap:=w.heap.setIfInBounds p.B (.stringIter b (pos+1)) }:=by simp[setObj,Sem.run,b1]
          have hlt2:pos<b.size:=hlt'
          refine⟨.tuple #[.bool true,.int .i64 pos,.int .i32 (XbE n z pos)],{ w with heap:=w.heap.setIfInBounds p.B (.stringIter b (pos+1)) },ρ,.inl ?_,?_,?_⟩
          . simp only[execOp,hop,hxe,Instr.next,Nat.zero_add,Sem.run_bind,hgo,Result.andThen_ok,hlt2,if_true,hdec,hset,Sem.run_pure,goInt]
          . exact .tup (.cons (.bool true) (.cons (.int _ _) (.cons (.int _ _) .nil)))
          . refine XeS c.r hp (by simp) hc.2 rfl rfl rfl (by simp) (fun B hB'=>by simp only[Array.getElem?_setIfInBounds]; rw[if_neg (by omega)]) ?_
            intro ρ' h'' _
            exact⟨b,by simp[hB],b2,b3,b4⟩
        . cases hs
      . rename_i hlt
        injection hs with e1 e2; subst e1 e2
        have hgo:(getObj p.B).run P w=.ok (.stringIter b pos) w:=by simp[getObj,Sem.run,b1]
        have hlt2:¬ pos<b.size:=by omega
        refine Xf (v':=.tuple #[.bool false]) c.r ?_ (.tup (.cons (.bool false) .nil));simp only[execOp,hop,hxe,Instr.next,Nat.zero_add,Sem.run_bind,hgo,Result.andThen_ok,hlt2,if_false,Sem.run_pure]
    . cases hs
  . cases hs
theorem Xo4 (c : Cx P ρ h w e a) {cl : Call} {x : Operand} {x' : Opd} (hop : o.op = .call cl) (hcl : cl.callee = .builtin .unsafeSliceData) (har : cl.args = #[x]) (hx : Xj P x = some x')
    {v:V}{h':H} (hs:sUsd h (Vm.opd e x')=.ok v h'):X9 P ρ h w a o v h':=by
  have rx:=c.opd hx;unfold sUsd at hs;split at hs
  . rename_i hb
    rw[hb] at rx;injection hs with e1 e2; subst e1 e2
    exact Xf (v':=.pointer none) c.r (by simp[execOp,hop,resolve,hcl,har,invoke,builtin,Ye rx,Lib.run_unsafeSliceData_nil]) .nil
  . rename_i q i n cc s ex hb
    rw[hb] at rx;split at hs
    . cases hs
    . rename_i hc
      injection hs with e1 e2; subst e1 e2
      have hal:alive h q=true:=by
        cases ha:alive h q with
        |true=>rfl
        |false=>exact absurd (.inr ha) hc
      have hcc:cc ≠ 0:=fun e=>hc (.inl e)
      obtain⟨p,ad,c',hp,hxe,f1,f2,f3,f4,f5⟩:=Zx rx (YU hal);have had:=f4 (by omega)
      refine Xf (v':=.pointer (some ⟨p.B,p.b+i,none⟩)) c.r ?_ (.ptr hp);subst had;have hd:=Lib.run_unsafeSliceData_row (P:=P) w cl.argTypes o.type ⟨p.B,p.b+i,none⟩ n c' (by omega)
      simp[execOp,hop,resolve,hcl,har,invoke,builtin,hxe,hd]
  . cases hs
theorem Xjv {el:TypeId} (hc:P.cellsOf el=1)(count off n:Nat)(hn:off+n<=count):liesAt P P.depth el count off el n=true:=by
  have hd:P.depth=(2*(P.types.size+Made.depth)+1)+1:=rfl
  rw[hd];simp only[liesAt,Bool.or_eq_true]
  left
  rw[hd]
  simp[rowAt,hc,sameLayout,Nat.mod_one,hn]
theorem Xka (ats : Array TypeId) (ty : TypeId) (p : Option Addr) (x : Value) : Builtin.unsafeString_ ats ty #[.pointer p, x] = (do
    let n ← asInt x
    let some pt := ats[0]? | stuck "unsafe.String: no argument types"
    if n < 0 then runtimePanic (.error "unsafe.String: len out of range")
    if n > IntKind.i64.max then unsupported (.unsafePointer "String: a length above the largest int")
    match p with
    |none =>
      if n=0 then pure (.string .empty)
      else runtimePanic (.error "unsafe.String: ptr is nil and len is not zero")
    |some a =>
      if n=0 then pure (.string .empty)
      else if ← variablesAt a (← elemOf pt) n.toNat then do
        let s ← loadBytes a .empty n.toNat
        freeze a n.toNat
        pure (.string s)
      else unsupported (.unsafePointer "String: not so many bytes at ptr")) := rfl
theorem Xo3 (c : Cx P ρ h w e a) {cl : Call} {pt el : Nat} {x y : Operand} {x' y' : Opd} (hop : o.op = .call cl) (hcl : cl.callee = .builtin .unsafeString) (h0 : cl.argTypes[0]? = some pt) (hpt : P.underlying pt = some (.pointer el)) (hsz : Xq P el = some 1) (har : cl.args = #[x, y]) (hx : Xj P x = some x') (hy : Xj P y = some y')
    {v:V}{h':H} (hs:sUst h el (Vm.opd e x') (Vm.opd e y')=.ok v h'):X9 P ρ h w a o v h':=by
  have rx:=c.opd hx;have ry:=c.opd hy
  have hcell:P.cellsOf el=1:=by
    obtain⟨i,hi,h1⟩:=Xar hsz
    simp[Program.cellsOf,hi,h1]
  have hexec:∀ v' w',(Builtin.unsafeString_ cl.argTypes o.type #[a.eval x,a.eval y]).run P w=.ok v' w'->(execOp a.eval o).run P w=.ok (.value v') w':=by
    intro v' w' hr
    simp[execOp,hop,resolve,hcl,har,invoke,builtin,hr]
  have zero:∀ (p:Option Addr) (k:IntKind),(Builtin.unsafeString_ cl.argTypes o.type #[.pointer p,.int k 0]).run P w=.ok (.string .empty) w:=by
    intro p k
    have hmax:IntKind.i64.max=9223372036854775807:=rfl
    rw[Xka]
    cases p with
    |none=>simp[asInt,asIntOf,h0,hmax]
    |some ad=>simp[asInt,asIntOf,h0,hmax]
  unfold sUst at hs;split at hs
  . rename_i hb hn
    rw[hb] at rx;injection hs with e1 e2; subst e1 e2
    obtain⟨k,hk⟩:=Yh ry hn;exact Xf (v':=.string .empty) c.r (hexec _ _ (by rw[XbA rx,hk]; exact zero none k)) (VRel.str ByteArray.empty)
  . rename_i q i k hb hn
    rw[hb] at rx;obtain⟨kk,hk⟩:=Yh ry hn;split at hs
    . rename_i m t sp el' fz hg
      obtain⟨p,hp,hxe⟩:=Yl rx (by rw[hg]; simp)
      split at hs
      . rename_i hk0
        injection hs with e1 e2; subst e1 e2
        subst hk0;exact Xf (v':=.string .empty) c.r (hexec _ _ (by rw[hxe,hk]; exact zero _ kk)) (VRel.str ByteArray.empty)
      . rename_i hk0
        split at hs
        . rename_i hc
          obtain⟨hle,hfl,hel,hroom⟩:=hc;subst hel;split at hs
          . rename_i n z hby
            injection hs with e1 e2; subst e1 e2
            have ho:=c.r.obj _ _ hp;rw[hg] at ho;obtain⟨cs,fr,b1,b2,b3,b4,b5,b6⟩:=ho
            have hload:YN h q i k=some (Xx t i k):=by unfold YN; rw[hg]; simp[hle]
            obtain⟨vs,v1,v2,_,v4⟩:=ZK (P:=P) c.r hp hload;obtain⟨bs,s1,s2,s3⟩:=XaA _ _ _ _ _ _ v1 hby
            have hbl:bs.length=k:=by rw[← v2,s1]; simp
            have hlb:=Lib.run_loadBytes (P:=P) w bs ⟨p.B,p.b+i,none⟩ .empty (fun j y hj=>by
              rw[addr_add];exact v4 j _ (by rw[s1,List.getElem?_map,hj]; rfl))
            have hk63:k<=68719476736:=(Xdh hroom).2
            have hmax:IntKind.i64.max=9223372036854775807:=rfl
            have hvar:(variablesAt ⟨p.B,p.b+i,none⟩ el' k).run P w=.ok true w:=by
              have hsh:w.shape? p.B=some (el',cs.size):=by simp[World.shape?,b1]
              have:=Xjv (P:=P) hcell (cs.size / P.cellsOf el') (p.b+i) k (by rw[hcell,Nat.div_one,b2]; omega)
              simp[variablesAt,hsh,this]
            have hrun:(Builtin.unsafeString_ cl.argTypes o.type #[.pointer (some ⟨p.B,p.b+i,none⟩),.int kk k]).run P w=.ok (.string ⟨ByteArray.empty.data++bs.toArray⟩) (w.freeze ⟨p.B,p.b+i,none⟩ k):=by
              have n1:¬ (k:Int)<0:=by omega
              have n2:¬ (9223372036854775807:Int)<(k:Int):=by omega
              have n3:¬ (k:Int)=0:=by omega
              rw[hbl] at hlb;rw[Xka]
              simp[asInt,asIntOf,h0,hmax,n2,hk0,elemOf,run_underlying hpt,hvar,hlb]
              intro hneg;exact absurd hneg n1
            have hw':(w.freeze ⟨p.B,p.b+i,none⟩ k).heap[p.B]? = some (.cells cs el' (if fr.1 == fr.2 then (p.b+i,p.b+i+k) else (min fr.1 (p.b+i),max fr.2 (p.b+i+k)))):=by
              obtain⟨lo,hi⟩:=fr;unfold World.freeze;rw[if_neg hk0]
              simp[Array.getElem?_modify,b1]
            refine⟨_,_,ρ,.inl (hexec _ _ (by rw[hxe,hk]; exact hrun)),?_,?_⟩
            . have:=VRel.str (ρ:=ρ) (h:=h.set q (.c m t sp el' (some (Nat.max fz (i+k))))) ⟨ByteArray.empty.data++bs.toArray⟩
              have e1:(ByteArray.mk (ByteArray.empty.data++bs.toArray)).data.toList=bs:=by simp
              rw[e1] at this;rw[s2,s3]
              simpa using this
            . refine XeS c.r hp (by simp) hfl ?_ ?_ ?_ ?_ ?_ ?_
              . unfold World.freeze; rw[if_neg hk0]
              . unfold World.freeze; rw[if_neg hk0]
              . unfold World.freeze; rw[if_neg hk0]
              . unfold World.freeze; rw[if_neg hk0]; simp
              . intro B hB
                unfold World.freeze; rw[if_neg hk0]
                simp only[Array.getElem?_modify];rw[if_neg (by omega)]
              . intro ρ' h'' hv
                refine⟨cs,_,hw',b2,b3,b4,fun j hj=>let ⟨v,q1,q2⟩:=b5 j hj; ⟨v,q1,hv _ _ q2⟩,?_⟩
                have b6':fr.2<=p.b+fz:=b6
                show (if fr.1 == fr.2 then (p.b+i,p.b+i+k) else (min fr.1 (p.b+i),max fr.2 (p.b+i+k))).2<=p.b+Nat.max fz (i+k)
                have hmx:Nat.max fz (i+k)=max fz (i+k):=rfl
                rw[hmx];split
                . show p.b+i+k<=_; omega
                . show max fr.2 (p.b+i+k)<=_; omega
          . cases hs
        . cases hs
    . cases hs
  . cases hs
theorem XaY (c : Cx P ρ h w e a) {cl : Call} {f : Nat} {fn : Func} {x : Operand} {en : Array Value → Sem Value} {v : V} {h' : H} {v' : Value} {w' : World} {ρ' : Rho} (hop : o.op = .call cl) (hcl : cl.callee = .value (.func f)) (hf : P.funcs[f]? = some fn) (hname : fn.name ≠ "runtime.NumGoroutine") (hb : fn.body.isSome = false)
    (hn:(Extern.findNext fn).isSome=false) (he:Extern.find fn=some en) (har:cl.args=#[x]) (hr:(en #[a.eval x]).run P w=.ok v' w') (hv:VRel ρ' h' v v') (hp:Post ρ h w ρ' h' w'):X9 P ρ h w a o v h':=by
  refine⟨v',w',ρ',.inl ?_,hv,hp⟩
  have hcall:=run_callFunc_extern (P:=P) hf (by simpa using hname) (by cases hbb:fn.body<;>simp_all) (by cases hnn:Extern.findNext fn<;>simp_all) he #[a.eval x] w
  rw[hr] at hcall
  have h1:a.eval (.func f)=.func (.func f) #[] #[]:=rfl
  simp[execOp,hop,resolve,hcl,har,Deferred.ofValue,h1,invoke,hcall]
theorem XbU {fn:Func}{n:String}{en:Array Value->Sem Value} (hn:fn.name=n)(h1:Extern.allGenericRows.lookup n=none)(h2:Extern.allTypedRows.lookup n=none)(h3:Extern.allRows.lookup n=some en):Extern.find fn=some en:=by
  unfold Extern.find
  simp[hn,h1,h2,h3]
theorem Xga {fn:Func}{n:String}{en:Array TypeId->Array TypeId->Array Value->Sem Value} (hn:fn.name=n)(h1:Extern.allGenericRows.lookup n=none)(h2:Extern.allTypedRows.lookup n=some en):Extern.find fn=some (en fn.params fn.resultTypes):=by
  unfold Extern.find
  simp[hn,h1,h2]
theorem XlF {fn : Func} (hn : fn.name = "math.Float64bits") : Extern.find fn = some Extern.MathFloatBits.float64bits :=
  XbU hn (by kernel_rfl) (by kernel_rfl) (by kernel_rfl)
theorem Xgc {fn : Func} (hn : fn.name = "math.Float64frombits") : Extern.find fn = some Extern.MathFloatBits.float64frombits :=
  XbU hn (by kernel_rfl) (by kernel_rfl) (by kernel_rfl)
theorem Xgb {fn : Func} (hn : fn.name = "internal/abi.NoEscape") : Extern.find fn = some Extern.AbiNoEscape.same :=
  XbU hn (by kernel_rfl) (by kernel_rfl) (by kernel_rfl)
theorem XiT {fn : Func} (hn : fn.name = "internal/bytealg.MakeNoZero") : Extern.find fn = some (Extern.BytealgMakeNoZero.makeNoZero fn.params fn.resultTypes) :=
  Xga hn (by kernel_rfl) (by kernel_rfl)
theorem XlG (r:HRel ρ h w) {u:V}{x:Value} (rx:VRel ρ h u x) {v:V}{h':H} (hs:Xa4 h u=.ok v h'):h'=h/\∃ v',(Extern.MathFloatBits.float64bits #[x]).run P w=.ok v' w/\VRel ρ h v v':=by
  unfold Xa4 at hs;split at hs
  . injection hs with e1 e2; subst e1 e2
    exact⟨rfl,_,by rw[XbB rx]; rfl,.int _ _⟩
  . injection hs with e1 e2; subst e1 e2
    obtain⟨b,hb,rfl⟩:=Xma rx
    exact⟨rfl,_,rfl,.nani hb⟩
  . cases hs
theorem XlL (r:HRel ρ h w) {u:V}{x:Value} (rx:VRel ρ h u x) {v:V}{h':H} (hs:Xa5 h u=.ok v h'):h'=h/\∃ v',(Extern.MathFloatBits.float64frombits #[x]).run P w=.ok v' w/\VRel ρ h v v':=by
  unfold Xa5 at hs;split at hs
  . injection hs with e1 e2; subst e1 e2
    exact⟨rfl,_,by rw[Ym rx]; rfl,.flt _⟩
  . injection hs with e1 e2; subst e1 e2
    obtain⟨b,hb,rfl⟩:=XkW rx
    exact⟨rfl,_,rfl,.nan hb⟩
  . cases hs
theorem Xpr (r : HRel ρ h w) (wh : wfh h) {t el : Nat} {fn : Func} (hrt : fn.resultTypes.toList = [t]) (ht : P.underlying t = some (.slice el)) {u : V} {x : Value} (rx : VRel ρ h u x) {v : V} {h' : H} (hs : sMkz h el u = .ok v h') :
    ∃ v' w' ρ',(Extern.BytealgMakeNoZero.makeNoZero fn.params fn.resultTypes #[x]).run P w=.ok v' w'/\VRel ρ' h' v v'/\Post ρ h w ρ' h' w':=by
  have hr:fn.resultTypes=#[t]:=by apply Array.ext'; rw[hrt]
  unfold sMkz at hs;split at hs
  . rename_i n
    split at hs
    . rename_i hle
      injection hs with e1 e2; subst e1 e2
      obtain⟨cs,h1,h2,_⟩:=Lib.run_makeNoZero (P:=P) w fn.params t el ht n (by omega)
      have hrun:(Extern.BytealgMakeNoZero.makeNoZero fn.params fn.resultTypes #[x]).run P w=.ok (.slice (some ⟨w.heap.size,0,none⟩) n cs.size) (w.drew.drew.alloc (.cells cs el)):=by
        rw[hr,Ym rx]; exact h1
      have hvs:VRels ρ h (repl [.bot] n) (cs.toList.take n):=by
        refine VRels.of_get (by rw[Xax]; simp; omega) ?_
        intro i v x hv _
        have:v=.bot:=by
          have:∀ (n i:Nat) (v:V),(repl [.bot] n)[i]? = some v->v=.bot:=by
            intro n
            induction n with
            |zero=>intro i v h; simp[repl] at h
            |succ n ih =>
              intro i v h;simp only[repl,List.cons_append,List.nil_append] at h
              cases i with
              |zero=>simp at h; exact h.symm
              |succ i=>exact ih i v (by simpa using h)
          exact this n i v hv
        subst this;exact .bot _
      refine⟨_,_,ρ.add h.n ⟨w.heap.size,0,(cs.toList.take n).length+(cs.toList.drop n).length⟩,hrun,?_,?_⟩
      . refine .sl (p:=⟨w.heap.size,0,(cs.toList.take n).length+(cs.toList.drop n).length⟩) (by simp[Rho.add]) (Nat.le_refl _) h2 (fun h=>by cases h) (fun _=>rfl) ?_
        simp only[Nat.zero_add,Nat.mul_one,List.length_take,List.length_drop,Array.length_toList];omega
      . exact XaM r wh hvs (rest:=cs.toList.drop n) (fr:=(0,0)) (fun h=>by cases h) (Nat.zero_le _) rfl rfl rfl (by rw[List.take_append_drop,Array.toArray_toList]; rfl)
    . cases hs
  . cases hs
theorem XoA (c : Cx P ρ h w e a) {s d t n : Nat} {x : Operand} {x' : Opd} (hop : o.op = .convert s d x) (hsu : P.underlying s = some (.pointer t)) (hdu : P.underlying d = some .unsafePointer) (hsz : Xq P t = some (n + 1)) (hx : Xj P x = some x')
    {v:V}{h':H} (hs:sP2u h (Vm.opd e x')=.ok v h'):X9 P ρ h w a o v h':=by
  have rx:=c.opd hx;unfold sP2u at hs;split at hs
  . rename_i q i hb
    rw[hb] at rx;split at hs
    . rename_i m tt sp el fz hg
      split at hs
      . rename_i hlt
        injection hs with e1 e2; subst e1 e2
        obtain⟨p,hp,hxe⟩:=Yl rx (by rw[hg]; simp)
        have ho:=c.r.obj _ _ hp;rw[hg] at ho;obtain⟨cs,fr,b1,b2,b3,_⟩:=ho
        have hsh:w.shape? p.B=some (el,cs.size):=by simp[World.shape?,b1]
        have hno:¬ (cs.size<=p.b+i):=by omega
        refine Xf (v':=.pointer (some ⟨p.B,p.b+i,none⟩)) c.r ?_ (.ptr hp)
        simp[execOp,hop,hxe,convert,run_underlying hsu,run_underlying hdu,Conv.unsafePointer,Conv.seenAt,viewAt,cellsIn,hsh,X6 hsz,hno]
      . cases hs
    . cases hs
  . cases hs
theorem Xo5 (c : Cx P ρ h w e a) {s d u n : Nat} {x : Operand} {x' : Opd} (hop : o.op = .convert s d x) (hsu : P.underlying s = some .unsafePointer) (hdu : P.underlying d = some (.pointer u)) (hsz : Xq P u = some (n + 1)) (hx : Xj P x = some x')
    {v:V}{h':H} (hs:sU2p h u (n+1) (Vm.opd e x')=.ok v h'):X9 P ρ h w a o v h':=by
  have rx:=c.opd hx;unfold sU2p at hs;split at hs
  . rename_i q hb
    rw[hb] at rx;split at hs
    . rename_i m tt el fz hg
      split at hs
      . rename_i hc
        obtain⟨hel,hle⟩:=hc;subst hel;injection hs with e1 e2; subst e1 e2
        obtain⟨p,hp,hxe⟩:=Yl rx (by rw[hg]; simp)
        have ho:=c.r.obj _ _ hp;rw[hg] at ho;obtain⟨cs,fr,b1,b2,b3,b4,_⟩:=ho;obtain⟨hb0,hbn⟩:=b4 rfl
        have hsh:w.shape? p.B=some (el,cs.size):=by simp[World.shape?,b1]
        have hcell:P.cellsOf el=n+1:=by
          obtain⟨i,hi,h1⟩:=Xar hsz
          simp[Program.cellsOf,hi,h1]
        have hvar:(variablesAt ⟨p.B,p.b+0,none⟩ el 1).run P w=.ok true w:=by
          have hlies:liesAt P P.depth el (cs.size / P.cellsOf el) (p.b+0) el 1=true:=by
            have hd:P.depth=(2*(P.types.size+Made.depth)+1)+1:=rfl
            rw[hd];simp only[liesAt,Bool.or_eq_true]
            left
            rw[hd]
            have hdiv:1<=cs.size / (n+1):=(Nat.le_div_iff_mul_le (by omega)).2 (by omega)
            simp[rowAt,hcell,sameLayout,hb0,hdiv]
          have hlies':liesAt P P.depth el (cs.size / P.cellsOf el) p.b el 1=true:=hlies
          simp[variablesAt,hsh,hlies']
        refine Xf (v':=.pointer (some ⟨p.B,p.b+0,none⟩)) c.r ?_ (.ptr hp);rw[hb0] at hvar
        simp[execOp,hop,hxe,convert,run_underlying hsu,run_underlying hdu,Conv.unsafePointer,Conv.seenAt,viewAt,hsh,X6 hsz,hb0,hvar]
      . cases hs
    . cases hs
  . cases hs
end
end Go.Vm
namespace Go.Vm
section
variable {P:Program}{ρ:Rho}{h:H}{w:World}{e:T V}{a:Act}{o:Oper}
theorem Xtl (r : HRel ρ h w) {w' : World} {x : Obj} {p : Pl} (hfree : ∀ o q, ρ o = some q → q.B ≠ p.B)
    (hother:∀ B,B ≠ p.B->w'.heap[B]? = w.heap[B]?)
    (hself:∀ ρ' h',(∀ v y,VRel ρ h v y->VRel ρ' h' v y)->ORel ρ' h' w' p x):HRel (ρ.add h.n p) (h.push x) w':=by
  have hm:∀ v y,VRel ρ h v y->VRel (ρ.add h.n p) (h.push x) v y:=fun v y hv =>
    VRel.mono (ρ':=ρ.add h.n p) (h':=h.push x) r.lt (Nat.le_succ _) (fun q hq hd=>by rw[H.get_push,if_neg (by omega)]; exact hd) (fun q hq=>.inl (by unfold Rho.add; rw[if_neg (by omega)])) hv
  refine⟨?_,?_,?_⟩
  . intro q pq hq
    rw[H.n_push];unfold Rho.add at hq;split at hq
    . omega
    . have:=r.lt q pq hq; omega
  . intro q pq hq
    rw[H.get_push];unfold Rho.add at hq;split at hq
    . rename_i e
      simp only[Option.some.injEq] at hq;subst hq e;rw[if_pos rfl];exact hself _ _ hm
    . rename_i hne
      rw[if_neg (fun e=>hne e.symm)]
      have hs:=hfree q pq hq
      have:=r.obj q pq hq
      revert this
      cases h.get q with
      |c n t sp el fz =>
        rintro⟨cs,fr,h1,h2,h3,h4,h5,h6⟩
        exact⟨cs,fr,(hother _ hs).trans h1,h2,h3,h4,fun i hi=>let ⟨v,hv,hr⟩:=h5 i hi; ⟨v,hv,hm _ _ hr⟩,h6⟩
      |si n x pos=>rintro⟨s,h1,h2⟩; exact⟨s,(hother _ hs).trans h1,h2⟩
      |m es=>exact id
      |dead=>exact id
  . intro q q' pq pq' hq hq' hb
    unfold Rho.add at hq hq';split at hq<;>split at hq'
    . exact .inl (by omega)
    . simp only[Option.some.injEq] at hq; subst hq
      exact absurd hb.symm (hfree q' pq' hq')
    . simp only[Option.some.injEq] at hq'; subst hq'
      exact absurd hb (hfree q pq hq)
    . exact r.inj q q' pq pq' hq hq' hb
theorem Xa2 {ats:Array TypeId}{t u ty el n s m c':Nat}{ti:TypeInfo}{du:TypeDesc}{base:Option Addr}{x:Value}{vs:List Value}{w':World} (h0:ats[0]? = some t)(h1:ats[1]? = some u)
    (ht:P.underlying t=some (.slice el)) (hu:P.underlying u=some du) (hdu:∀ k,du ≠ .int k) (hi:P.info? el=some ti) (hsz:ti.size=s)
    (hl:(Builtin.lenOf x).run P w=.ok m w) (hf:(Builtin.firstCells s m x).run P w=.ok vs.toArray w) (hle:n+m<=c')
    (hst:∀ ad,base=some ad->(storeCells (ad.add (n*s)) vs).run P w=.ok () w') (hnone:base=none->w'=w) :
    (Builtin.append_ ats ty #[.slice base n c',x]).run P w=.ok (.slice base (n+m) c') w':=by
  unfold Builtin.append_
  cases du<;>first
    |exact absurd rfl (hdu _)
    | (simp only[h0,h1,List.getElem?_toArray,List.getElem?_cons_zero,List.getElem?_cons_succ,Sem.run_bind,run_underlying ht,run_underlying hu,Result.andThen_ok,Go.sizeOf,typeInfo,run_program,hi,hsz,Sem.run_pure,Bool.false_eq_true,if_false,hl,Sem.run_ite,hle,if_true,Bool.not_false]
       rw[hf];simp only[Result.andThen_ok]
       cases base with
       |none=>rw[hnone rfl]; rfl
       |some ad =>
         simp only[Sem.run_bind,hst ad rfl,Result.andThen_ok]
         rfl)
theorem Xd4 {ats:Array TypeId}{t u ty el s n m c':Nat}{ti:TypeInfo}{du:TypeDesc}{z:Value}{base:Option Addr}{x:Value}{us vs:List Value} (h0:ats[0]? = some t)(h1:ats[1]? = some u)
    (ht:P.underlying t=some (.slice el)) (hu:P.underlying u=some du) (hdu:∀ k,du ≠ .int k) (hi:P.info? el=some ti) (hsz:ti.size=s) (hz:ti.zero=some z)
    (hl:(Builtin.lenOf x).run P w=.ok m w) (hold:(Builtin.firstCells s n (.slice base n c')).run P w.drew=.ok us.toArray w.drew) (hf:(Builtin.firstCells s m x).run P w.drew=.ok vs.toArray w.drew)
    (hlt:¬ n+m<=c') (hroom:roomFor (n+m) ti.bytes=true) :
    ∃ cap,n+m<=cap/\(Builtin.append_ ats ty #[.slice base n c',x]).run P w=.ok (.slice (some ⟨w.heap.size,0,none⟩) (n+m) cap) { w.drew with heap:=w.heap.push (.cells (us++vs++(Builtin.zeroCells z.cells (cap-(n+m))).toList).toArray el) }:=by
  refine⟨(Question.appendCap (n+m) c' el).cut (w.tape w.drawn (.appendCap (n+m) c' el)),Nat.le_add_right _ _,?_⟩
  have hbig:=Xdq (need:=n+m) (cc:=c') (by omega) hroom
  have h63:¬ (((n+m:Nat):Int) > IntKind.i64.max/\(False∨ti.bytes=0)):=by
    have:IntKind.i64.max=9223372036854775807:=rfl
    have:=(Xdh hroom).2
    omega
  have hforced:(Question.appendCap (n+m) c' el).forced=false:=rfl
  generalize hcap:(Question.appendCap (n+m) c' el).cut (w.tape w.drawn (.appendCap (n+m) c' el))=cap
  have hch:(choose (.appendCap (n+m) c' el)).run P w=.ok cap w.drew:=by rw[← hcap]; rfl
  have harr:us.toArray++vs.toArray++Builtin.zeroCells z.cells (cap-(n+m))=(us++vs++(Builtin.zeroCells z.cells (cap-(n+m))).toList).toArray:=by apply Array.ext'; simp
  unfold Builtin.append_
  cases du<;>first
    |exact absurd rfl (hdu _)
    | (simp only[h0,h1,List.getElem?_toArray,List.getElem?_cons_zero,List.getElem?_cons_succ,Sem.run_bind,run_underlying ht,run_underlying hu,Result.andThen_ok,Go.sizeOf,typeInfo,run_program,hi,hsz,Sem.run_pure,Bool.false_eq_true,if_false,hl,Sem.run_ite,hlt,Bool.not_false,if_true,hbig,hch,run_askRoom,hold,hf,zeroValue,hz,newRow,run_newObj]
       rw[harr,if_neg h63]
       rfl)
theorem Xco (r:HRel ρ h w)(wh:wfh h) {l:List V}{us vs:List Value}{n m s cap el:Nat}{z:Array Value} (fz:Option Nat)(hz:z.size=s)(hl:VRels ρ h l (us++vs))(hus:us.length=n*s)(hvs:vs.length=m*s)(hcap:n+m<=cap) {w':World}
    (hw:w'={ w.drew with heap:=w.heap.push (.cells (us++vs++(Builtin.zeroCells z (cap-(n+m))).toList).toArray el) }) :
    ∃ ρ',VRel ρ' (X5 h l true el fz) (.sl h.n 0 (n+m) (n+m) s false) (.slice (some ⟨w.heap.size,0,none⟩) (n+m) cap)/\Post ρ h w ρ' (X5 h l true el fz) w':=by
  subst hw
  refine⟨ρ.add h.n ⟨w.heap.size,0,(us++vs).length+(Builtin.zeroCells z (cap-(n+m))).toList.length⟩,?_,?_⟩
  . refine .sl (p:=⟨w.heap.size,0,(us++vs).length+(Builtin.zeroCells z (cap-(n+m))).toList.length⟩) (by simp[Rho.add]) (Nat.le_refl _) hcap (fun h=>by cases h) (fun _=>rfl) ?_
    simp only[Nat.zero_add,List.length_append,Array.length_toList,XeC,hz,hus,hvs]
    have:n*s+m*s+(cap-(n+m))*s=cap*s:=by
      rw[← Nat.add_mul,← Nat.add_mul]; congr 1; omega
    omega
  . exact XaM r wh hl (rest:=(Builtin.zeroCells z (cap-(n+m))).toList) (fr:=(0,0)) (fun h=>by cases h) (by cases fz with
      |none=>exact .inr (Nat.zero_le _)
      |some k=>exact Nat.zero_le _) rfl rfl rfl rfl
theorem wrap_small {m:Nat} (h:m<=68719476736):IntKind.wrap .i64 (m:Int)=m:=by
  have e:IntKind.wrap .i64 (m:Int)=if (true&&decide ((m:Int)%18446744073709551616 ≥ 9223372036854775808))=true then (m:Int)%18446744073709551616-18446744073709551616 else (m:Int)%18446744073709551616:=rfl
  rw[e];simp only[Bool.true_and,decide_eq_true_eq]
  split<;>omega
theorem Xd3 {ats:Array TypeId}{t u ty el:Nat}{ti:TypeInfo}{k k':IntKind} (h0:ats[0]? = some t)(h1:ats[1]? = some u)
    (ht:P.underlying t=some (.slice el)) (hu:P.underlying u=some (.int k)) (hi:P.info? el=some ti) :
    (Builtin.append_ ats ty #[.slice none 0 0,.int k' 0]).run P w=.ok (.slice none 0 0) w:=by
  unfold Builtin.append_
  have hw:IntKind.i64.wrap 0=0:=by decide
  have hai:∀ (n:Int) (w':World),(asIntOf (.int k' n)).run P w'=.ok (k',n) w':=fun _ _=>rfl
  have z1:¬ ((0:Int)<0):=by decide
  have z2:¬ ((0:Int) > 2 ^ 48):=by decide
  simp only[z1,z2,Int.toNat_zero,Nat.add_zero,Nat.le_refl,Nat.zero_mul,if_false,hai,h0,h1,List.getElem?_toArray,List.getElem?_cons_zero,List.getElem?_cons_succ,Sem.run_bind,run_underlying ht,run_underlying hu,Result.andThen_ok,Go.sizeOf,typeInfo,run_program,hi,Sem.run_pure,if_true,asInt,hw,Sem.run_ite,Int.zero_mul,Bool.not_true,Bool.false_eq_true,if_false]
theorem XhW {ats:Array TypeId}{t u ty el m:Nat}{ti:TypeInfo}{k k':IntKind}{z:Value} (h0:ats[0]? = some t)(h1:ats[1]? = some u)
    (ht:P.underlying t=some (.slice el)) (hu:P.underlying u=some (.int k)) (hi:P.info? el=some ti) (hz:ti.zero=some z) (hpos:0<ti.size)
    (hm:0<m) (hroom:roomFor m ti.bytes=true) :
    ∃ cap,m<=cap/\(Builtin.append_ ats ty #[.slice none 0 0,.int k' (m:Int)]).run P w=.ok (.slice (some ⟨w.heap.size,0,none⟩) m cap) { w.drew with heap:=w.heap.push (.cells ([]++(Builtin.zeroCells z.cells m).toList++(Builtin.zeroCells z.cells (cap-m)).toList).toArray el) }:=by
  refine⟨(Question.appendCap m 0 el).cut (w.tape w.drawn (.appendCap m 0 el)),Nat.le_add_right _ _,?_⟩
  have hbig:=Xdq (need:=m) (cc:=0) hm hroom;obtain⟨r1,r2⟩:=Xdh hroom
  have hw:IntKind.i64.wrap (m:Int)=m:=wrap_small (by omega)
  have hneg:¬ ((m:Int)<0):=by omega
  have hle:¬ ((m:Int)*(ti.bytes:Int) > 2 ^ 48):=by
    have:((m*ti.bytes:Nat):Int)<=68719476736:=by omega
    rw[Int.natCast_mul] at this;omega
  have h63:¬ (((m:Nat):Int) > IntKind.i64.max/\(True∨ti.bytes=0)):=by
    have:IntKind.i64.max=9223372036854775807:=rfl
    omega
  have hms:¬ (m*ti.size=0):=by
    have:=Nat.mul_pos hm hpos
    omega
  have hlt:¬ (m<=0):=by omega
  have hai:∀ (n:Int) (w':World),(asIntOf (.int k' n)).run P w'=.ok (k',n) w':=fun _ _=>rfl
  have hfc:∀ w':World,(Builtin.firstCells ti.size 0 (.slice none 0 0)).run P w'=.ok #[] w':=fun _=>rfl
  have hzv:∀ w':World,(zeroValue el).run P w'=.ok z w':=fun w'=>by simp[zeroValue,typeInfo,hi,hz]
  generalize hcap:(Question.appendCap m 0 el).cut (w.tape w.drawn (.appendCap m 0 el))=cap
  have hch:(choose (.appendCap m 0 el)).run P w=.ok cap w.drew:=by rw[← hcap]; rfl
  have harr:#[]++Builtin.zeroCells z.cells m++Builtin.zeroCells z.cells (cap-m)=([]++(Builtin.zeroCells z.cells m).toList++(Builtin.zeroCells z.cells (cap-m)).toList).toArray:=by apply Array.ext'; simp
  unfold Builtin.append_;simp only[hai,hzv,h0,h1,List.getElem?_toArray,List.getElem?_cons_zero,List.getElem?_cons_succ,Sem.run_bind,run_underlying ht,run_underlying hu,Result.andThen_ok,Go.sizeOf,typeInfo,run_program,hi,Sem.run_pure,if_true,asInt,hw,Sem.run_ite,hneg,hle,if_false,Bool.not_true,Bool.false_eq_true,Int.toNat_natCast,Nat.zero_add,hlt,h63,hbig,hch,run_askRoom,hms,newRow,run_newObj,Nat.zero_mul,hfc];rw[harr];rfl
theorem XoW (c : Cx P ρ h w e a) {t u el : Nat} {cl : Call} {x y : Operand} {x' y' : Opd} {ti : TypeInfo} {k : IntKind} {zs : List V} (hop : o.op = .call cl) (hcl : cl.callee = .builtin .append) (h0 : cl.argTypes[0]? = some t) (h1 : cl.argTypes[1]? = some u)
    (ht:P.underlying t=some (.slice el)) (hu:P.underlying u=some (.int k)) (hi:P.info? el=some ti) (hz:zeroOf P el=some zs) (hpos:0<ti.size) (har:cl.args=#[x,y]) (hx:Xj P x=some x') (hy:Xj P y=some y')
    {v:V}{h':H} (hs:sApz h zs ti.size ti.bytes el (Vm.opd e x') (Vm.opd e y')=.ok v h'):X9 P ρ h w a o v h':=by
  have rx:=c.opd hx;have ry:=c.opd hy;obtain⟨i',zv,hi',hzv,hzvs,hzlen⟩:=Zd hz;rw[hi,Option.some.injEq] at hi';subst hi'
  have hzsz:zv.cells.size=ti.size:=by
    have:=(Yc ρ h _ _ hzvs).length
    simp only[Array.length_toList] at this; omega
  have hexec:∀ v' w',(Builtin.append_ cl.argTypes o.type #[a.eval x,a.eval y]).run P w=.ok v' w'->(execOp a.eval o).run P w=.ok (.value v') w':=by
    intro v' w' hr
    simp[execOp,hop,resolve,hcl,har,invoke,builtin,hr]
  unfold sApz at hs;split at hs
  . rename_i m hb hm
    rw[hb] at rx;obtain⟨k',hk⟩:=Yh ry hm;split at hs
    . rename_i hm0
      injection hs with e1 e2; subst e1 e2
      subst hm0;refine Xf c.r (hexec _ _ ?_) .nils;rw[Ye rx,hk];exact Xd3 h0 h1 ht hu hi
    . rename_i hm0
      split at hs
      . rename_i hroom
        injection hs with e1 e2; subst e1 e2
        obtain⟨cap,g1,g2⟩:=XhW (P:=P) (w:=w) (ty:=o.type) (k':=k') h0 h1 ht hu hi hzv hpos (Nat.pos_of_ne_zero hm0) hroom;have hrow:=XeB (Yc ρ h _ _ hzvs) (by omega) m
        rw[hzlen,← hzsz] at hrow
        have hlen:(Builtin.zeroCells zv.cells m).toList.length=m*ti.size:=by simp[Builtin.zeroCells,hzsz]
        obtain⟨ρ',q1,q2⟩:=Xco (el:=el) c.r c.wh (some 0) hzsz (us:=[]) (n:=0) (m:=m) (l:=repl zs m) (cap:=cap) (vs:=(Builtin.zeroCells zv.cells m).toList) (by rw[List.nil_append]; exact hrow) (by simp) hlen (by omega) rfl
        simp only[Nat.zero_add] at q1 q2
        exact⟨_,_,ρ',.inl (hexec _ _ (by rw[Ye rx,hk]; exact g2)),q1,q2⟩
      . cases hs
  . cases hs
theorem XoX (c : Cx P ρ h w e a) {t u el : Nat} {cl : Call} {x y : Operand} {x' y' : Opd} {ti : TypeInfo} {du : TypeDesc} {zs : List V} (hop : o.op = .call cl) (hcl : cl.callee = .builtin .append) (h0 : cl.argTypes[0]? = some t) (h1 : cl.argTypes[1]? = some u)
    (ht:P.underlying t=some (.slice el)) (hu:P.underlying u=some du) (hdu:∀ k,du ≠ .int k) (hi:P.info? el=some ti) (hz:zeroOf P el=some zs) (hpos:0<ti.size) (har:cl.args=#[x,y]) (hx:Xj P x=some x') (hy:Xj P y=some y')
    {v:V}{h':H} (hs:YF h ti.size ti.bytes el (Vm.opd e x') (Vm.opd e y')=.ok v h'):X9 P ρ h w a o v h':=by
  have rx:=c.opd hx;have ry:=c.opd hy;obtain⟨i',zv,hi',hzv,hzvs,hzlen⟩:=Zd hz;rw[hi,Option.some.injEq] at hi';subst hi'
  have hzsz:zv.cells.size=ti.size:=by
    have:=(Yc ρ h _ _ hzvs).length
    simp only[Array.length_toList] at this; omega
  have hexec:∀ v' w',(Builtin.append_ cl.argTypes o.type #[a.eval x,a.eval y]).run P w=.ok v' w'->(execOp a.eval o).run P w=.ok (.value v') w':=by
    intro v' w' hr
    simp[execOp,hop,resolve,hcl,har,invoke,builtin,hr]
  unfold YF at hs;split at hs
  . rename_i m l hsrc
    obtain⟨vs,v1,v2,v3,v4⟩:=Xkk c.r ry hsrc;unfold X3 at hs;split at hs
    . -- nothing there yet
      rename_i hb;rw[hb] at rx;split at hs
      . rename_i hm
        injection hs with e1 e2; subst e1 e2
        subst hm
        have hvs0:vs=[]:=by have:=v2; simp only[Nat.zero_mul] at this; exact List.length_eq_zero_iff.1 this
        subst hvs0
        have:=Xa2 (ty:=o.type) (n:=0) (c':=0) (base:=none) (w':=w) h0 h1 ht hu hdu hi rfl (v3 P) (v4 P w rfl) (Nat.le_refl _) (fun ad h=>by cases h) (fun _=>rfl)
        refine Xf c.r (hexec _ _ ?_) .nils;rw[Ye rx]; simpa using this
      . split at hs
        . rename_i hm hroom
          injection hs with e1 e2; subst e1 e2
          obtain⟨cap,g1,g2⟩:=Xd4 (P:=P) (w:=w) (ty:=o.type) (n:=0) (m:=m) (c':=0) (base:=none) (x:=a.eval y) (us:=[]) (vs:=vs) h0 h1 ht hu hdu hi rfl hzv (v3 P) rfl (v4 P w.drew rfl) (by omega) (by simpa using hroom)
          obtain⟨ρ',q1,q2⟩:=Xco (el:=el) c.r c.wh (some 0) hzsz (us:=[]) (n:=0) (m:=m) (l:=l) (vs:=vs) (by simpa using v1) (by simp) v2 g1 rfl
          simp only[Nat.zero_add] at g2 q1 q2
          exact⟨_,_,ρ',.inl (hexec _ _ (by rw[Ye rx]; exact g2)),q1,q2⟩
        . cases hs
    . rename_i q i n cc s' ex hb
      rw[hb] at rx;split at hs
      · rename_i k tt sp el' fz hg
        split at hs
        . rename_i hse
          subst hse;obtain⟨p,ad,c',hp,hxe,f1,f2,f3,f4,f5⟩:=Zx rx (by rw[hg]; simp)
          split at hs
          . rename_i hfit
            split at hs
            . rename_i hm
              injection hs with e1 e2; subst e1 e2
              subst hm
              have hvs0:vs=[]:=by have:=v2; simp only[Nat.zero_mul] at this; exact List.length_eq_zero_iff.1 this
              subst hvs0
              have:=Xa2 (ty:=o.type) (n:=n) (c':=c') (base:=some ad) (w':=w) h0 h1 ht hu hdu hi rfl (v3 P) (v4 P w rfl) (by omega) (fun ad h=>rfl) (fun h=>by cases h)
              exact Xf c.r (hexec _ _ (by rw[hxe]; simpa using this)) (hxe▸rx)
            . rename_i hm
              split at hs
              . rename_i h2 hst
                injection hs with e1 e2; subst e1 e2
                obtain⟨w',r1,r2⟩:=XdB (P:=P) c.r hp v1 hst;have had:=f4 (by omega)
                have:=Xa2 (ty:=o.type) (n:=n) (c':=c') (base:=some ad) (w':=w') h0 h1 ht hu hdu hi rfl (v3 P) (v4 P w rfl) (by omega) (fun ad' h=>by
                  simp only[Option.some.injEq] at h;subst h;rw[had,addr_add,Nat.add_assoc]; exact r1) (fun h=>by cases h)
                exact⟨_,_,ρ,.inl (hexec _ _ (by rw[hxe]; exact this)),.sl hp hfit f2 f3 (fun h=>f4 h) f5,r2⟩
              . cases hs
          . rename_i hfit
            split at hs
            . rename_i hroom
              split at hs
              . rename_i hik
                have hload:YN h q i (n*ti.size)=some (Xx tt i (n*ti.size)):=by
                  unfold YN; rw[hg]; simp[hik]
                obtain⟨us,u1,u2,_,u4⟩:=ZK (P:=P) c.r hp hload
                have hold:∀ (w':World),w'.heap=w.heap->(Builtin.firstCells ti.size n (.slice (some ad) n c')).run P w'=.ok us.toArray w':=by
                  intro w' hw';simp only[Builtin.firstCells]
                  by_cases hc:0<c'
                  . rw[f4 hc]
                    have:=run_loadCells_list (P:=P) w' ⟨p.B,p.b+i,none⟩ us (fun j v hv=>by
                      rw[addr_add]
                      have:=u4 j v hv
                      simp only[World.cell?,hw'] at this ⊢;exact this)
                    rw[u2] at this;exact this
                  . have hn:n=0:=by omega
                    subst hn;simp only[Nat.zero_mul] at u2 ⊢
                    have:us=[]:=List.length_eq_zero_iff.1 u2
                    subst this;rfl
                have grow:¬ n+m<=c'->∃ cap,n+m<=cap/\(execOp a.eval o).run P w=.ok (.value (.slice (some ⟨w.heap.size,0,none⟩) (n+m) cap)) { w.drew with heap:=w.heap.push (.cells (us++vs++(Builtin.zeroCells zv.cells (cap-(n+m))).toList).toArray el) }:=by
                  intro hlt;obtain⟨cap,g1,g2⟩:=Xd4 (P:=P) (w:=w) (ty:=o.type) (n:=n) (m:=m) (c':=c') (base:=some ad) (x:=a.eval y) (us:=us) (vs:=vs) h0 h1 ht hu hdu hi rfl hzv (v3 P) (hold _ rfl) (v4 P w.drew rfl) hlt hroom
                  exact⟨cap,g1,hexec _ _ (by rw[hxe]; exact g2)⟩
                split at hs
                . rename_i hex
                  injection hs with e1 e2; subst e1 e2
                  obtain⟨cap,g1,g2⟩:=grow (by have:=f3 hex; omega)
                  obtain⟨ρ',q1,q2⟩:=Xco (el:=el) c.r c.wh (some 0) hzsz (us:=us) (n:=n) (m:=m) (vs:=vs) (u1.append v1) u2 v2 g1 rfl
                  exact⟨_,_,ρ',.inl g2,q1,q2⟩
                · split at hs
                  . rename_i hc
                    obtain⟨hsp,hfz,hfl,hel,hone⟩:=hc;subst hel;injection hs with e1 e2; subst e1 e2
                    have hk:=Xl9 c.r hp hfl
                    have hw1:wfh (h.set q .dead):=XcU c.wh trivial
                    have u1':=hk.vrels c.r.lt u1;have v1':=hk.vrels c.r.lt v1
                    by_cases hlt:n+m<=c'
                    · -- in place
                      have had:=f4 (by omega)
                      have hfit':i+n*ti.size+m*ti.size<=i+c'*ti.size:=by
                        have:(n+m)*ti.size<=c'*ti.size:=Nat.mul_le_mul_right _ hlt
                        rw[Nat.add_mul] at this; omega
                      have ho:=c.r.obj _ _ hp;rw[hg] at ho;obtain⟨cs,fr,b1,b2,b3,b4,b5,b6⟩:=ho
                      have hclen:vs.length=m*ti.size:=v2
                      have hstore:∃ w',(storeCells ⟨p.B,p.b+i+n*ti.size,none⟩ vs).run P w=.ok () w'/\w'=w.setRow p.B (cs.toList.take (p.b+i+n*ti.size)++vs++cs.toList.drop (p.b+i+n*ti.size+vs.length)).toArray:=by
                        refine⟨_,?_,rfl⟩
                        exact WG b1 (by
                          cases fz with
                          |none=>exact b6.elim (fun h=>.inr (b2▸h)) (fun h=>.inl (by omega))
                          |some kk=>simp only[Option.getD_some] at hfz; have:fr.2<=p.b+kk:=b6; exact .inl (by omega)) (by omega) (XdA v1 hone)
                      obtain⟨w',r1,r2⟩:=hstore;have hrun:=Xa2 (ty:=o.type) (n:=n) (c':=c') (base:=some ad) (w':=w') h0 h1 ht hu hdu hi rfl (v3 P) (v4 P w rfl) hlt (fun ad' h=>by
                        simp only[Option.some.injEq] at h;subst h;rw[had,addr_add]; exact r1) (fun h=>by cases h)
                      have hcl':p.b+i+n*ti.size+vs.length<=cs.toList.length:=by simp only[Array.length_toList]; omega
                      have hrel:HRel ((ρ.kill q).add h.n ⟨p.B,p.b+i,p.N⟩) (X5 (h.set q .dead) (Xx tt i (n*ti.size)++l) true el' (fz.map (· - i))) w':=by
                        refine Xtl hk.rel ?_ (fun B hB=>by rw[r2]; exact Xaj _ _ _ hB) ?_
                        . intro o' q' ho' hB
                          unfold Rho.kill at ho';split at ho'
                          . cases ho'
                          . rename_i hne; exact (c.r.inj _ _ _ _ ho' hp hB).elim hne (fun h2=>by have:=h2.2; omega)
                        . intro ρ' h'' hv
                          refine⟨(cs.toList.take (p.b+i+n*ti.size)++vs++cs.toList.drop (p.b+i+n*ti.size+vs.length)).toArray,fr,by rw[r2]; exact setRow_heap w p.B cs _ el' fr b1,?_,?_,(fun h=>nomatch h),?_,?_⟩
                          . simp only[List.size_toArray,List.length_append,List.length_take,List.length_drop]
                            simp only[Array.length_toList] at hcl' ⊢;omega
                          . have:=v1.length
                            simp only[List.length_append,Xz];omega
                          . intro j hj
                            simp only[List.length_append,Xz] at hj;have hll:=v1.length;rw[XK,if_pos (by simp only[List.length_append,Xz]; omega)]
                            simp only[Nat.sub_zero,List.getElem?_toArray];rw[Xb0 _ _ _ hcl']
                            by_cases hj1:j<n*ti.size
                            . rw[if_neg (by omega),Array.getElem?_toList]
                              obtain⟨xv,hxv,hr⟩:=b5 (i+j) (by omega)
                              refine⟨xv,by rw[← hxv]; congr 1; omega,hv _ _ (hk.vrel c.r.lt ?_)⟩
                              rw[List.getD_eq_getElem?_getD,List.getElem?_append_left (by rw[Xz]; exact hj1),Yd tt _ _ _ hj1]
                              exact hr
                            . rw[if_pos (by omega)]
                              have hjl:j-n*ti.size<l.length:=by omega
                              obtain⟨xv,hxv,hr⟩:=v1'.get (List.getElem?_eq_getElem hjl)
                              refine⟨xv,by rw[← hxv]; congr 1; omega,hv _ _ ?_⟩
                              rw[List.getD_eq_getElem?_getD,List.getElem?_append_right (by rw[Xz]; omega),Xz,List.getElem?_eq_getElem hjl]
                              exact hr
                          . cases fz with
                            |none=>exact b6.imp id (fun h=>Nat.le_trans h (Nat.le_add_right _ _))
                            |some kk=>have:fr.2<=p.b+kk:=b6; show fr.2<=p.b+i+(kk-i); omega
                      have hfr:Fr ρ h ((ρ.kill q).add h.n ⟨p.B,p.b+i,p.N⟩) (X5 (h.set q .dead) (Xx tt i (n*ti.size)++l) true el' (fz.map (· - i))) w w':=by
                        refine⟨by rw[r2]; rfl,by rw[r2]; rfl,by rw[r2]; rfl,by rw[r2,size_setRow]; exact Nat.le_refl _,?_,?_,?_⟩
                        . intro B hB hf
                          by_cases he:p.B=B
                          . have:=hf q p hp he; omega
                          . rw[r2]; exact Xaj _ _ _ (fun e=>he e.symm)
                        . intro o' ho'
                          unfold Rho.add Rho.kill;rw[if_neg (by omega)]
                          split
                          . rename_i he
                            subst he;refine .inr ⟨rfl,?_⟩;unfold X5;rw[H.get_push,H.n_set,if_neg (by omega),H.get_set,if_pos rfl]
                          . exact .inl rfl
                        . intro o' p' ho' hp'
                          unfold Rho.add Rho.kill at hp';split at hp'
                          . simp only[Option.some.injEq] at hp'
                            subst hp';exact .inr ⟨q,p,hfl,hp,rfl⟩
                          . split at hp'
                            . cases hp'
                            . have:=c.r.lt o' p' hp'; omega
                      have habs:Abs h (X5 (h.set q .dead) (Xx tt i (n*ti.size)++l) true el' (fz.map (· - i))):=hk.abs.trans (.push hw1.1 _)
                      refine⟨_,_,_,.inl (hexec _ _ (by rw[hxe]; exact hrun)),?_,habs,hrel,hfr⟩
                      exact .sl (p:=⟨p.B,p.b+i,p.N⟩) (by simp[Rho.add]) (Nat.le_refl _) hlt (fun h=>by cases h) (fun _=>had) (by simp only[Nat.add_zero]; exact f5)
                    . obtain⟨cap,g1,g2⟩:=grow hlt
                      obtain⟨ρ',q1,q2⟩:=Xco (el:=el') hk.rel hw1 (fz.map (· - i)) hzsz (us:=us) (n:=n) (m:=m) (vs:=vs) (u1'.append v1') u2 v2 g1 rfl
                      exact⟨_,_,ρ',.inl g2,q1,hk.trans q2⟩
                  . cases hs
              . cases hs
            . cases hs
        . cases hs
      . cases hs
    . cases hs
  . cases hs
end
end Go.Vm
namespace Go.Vm
section
variable {P:Program}{ρ:Rho}{h:H}{w:World}{e:T V}{a:Act}{o:Oper}{call:Nat->List V->H->Res}{cp:COp}{v:V}{h':H}
theorem XkF {h h':H}{x:Option V}{v:V} (e:give h x=.ok v h'):x=some v/\h'=h:=by
  cases x with
  |none=>cases e
  |some y=>injection e with e1 e2; exact⟨congrArg some e1,e2.symm⟩
theorem XnM (c:Cx P ρ h w e a) {s d:Nat}{x:Operand}{x':Opd} (hop:o.op=.convert s d x)(hx:Xj P x=some x')(hc:XfJ P s d x'=some cp)(hs:step call e h cp=.ok v h'):X9 P ρ h w a o v h':=by
  unfold XfJ at hc;split at hc
  . rename_i k0 k h1 h2
    injection hc with hc; subst hc
    exact XoP c hop hx h1 h2 hs
  . rename_i h1 h2
    injection hc with hc; subst hc
    exact XoO c hop hx h1 h2 hs
  . rename_i t h1 h2
    split at hc
    . rename_i n h3
      injection hc with hc; subst hc
      exact XoA c hop h1 h2 h3 hx hs
    . cases hc
  . rename_i u h1 h2
    split at hc
    . rename_i n h3
      injection hc with hc; subst hc
      exact Xo5 c hop h1 h2 h3 hx hs
    . cases hc
  . rename_i el h1 h2
    split at hc
    . rename_i h3
      injection hc with hc; subst hc
      exact XoV c hop h1 h2 h3 hx hs
    . cases hc
  . rename_i el h1 h2
    split at hc
    . rename_i h3
      injection hc with hc; subst hc
      exact Xo8 c hop h1 h2 h3 hx hs
    . cases hc
  . cases hc
theorem Xlm (c : Cx P ρ h w e a) {t : Nat} {x : Operand} {lo hi mx : Option Operand} {x' : Opd} {lo' hi' mx' : Option Opd} (hop : o.op = .slice t x lo hi mx) (hx : Xj P x = some x') (hlo : YO P lo = some lo') (hhi : YO P hi = some hi') (hmx : YO P mx = some mx')
    (hc:Xda P t x' lo' hi' mx'=some cp) (hs:step call e h cp=.ok v h'):X9 P ρ h w a o v h':=by
  unfold Xda at hc;split at hc
  . rename_i h1
    split at hc
    . rename_i hn
      injection hc with hc; subst hc
      have:mx=none:=by
        rcases Wd hmx with ⟨h1,_⟩ | ⟨u,v,_,h2,_⟩
        . exact h1
        . rw[h2] at hn; cases hn
      subst this;exact Xo6 c hop h1 hx hlo hhi hs
    . cases hc
  . rename_i el h1
    split at hc
    . rename_i s h2
      injection hc with hc; subst hc
      exact Xo7 c hop h1 h2 hx hlo hhi hmx hs
    . cases hc
  . rename_i n el h1
    split at hc
    . rename_i s h2
      injection hc with hc; subst hc
      exact Xkm c hop (.inl h1) h2 hx hlo hhi hmx hs
    . cases hc
  . rename_i ar h1
    split at hc
    . rename_i n el h2
      split at hc
      . rename_i s h3
        injection hc with hc; subst hc
        exact Xkm c hop (.inr ⟨ar,h1,h2⟩) h3 hx hlo hhi hmx hs
      . cases hc
    . cases hc
  . cases hc
theorem Xqm (c : Cx P ρ h w e a) {op : BinOp} {t yt : Nat} {x y : Operand} (hop : o.op = .binOp op t x y yt) (hc : Xjc P op t x y = some cp) (hs : step call e h cp = .ok v h') : X9 P ρ h w a o v h' := by
  unfold Xjc at hc;split at hc
  . rename_i x' y' d hx hy hd
    have hbin:some (COp.bin op x' y')=some cp->X9 P ρ h w a o v h':=by
      intro hc;injection hc with hc; subst hc
      obtain⟨h1,h2⟩:=XkF hs;subst h2;exact XoU c hop hx hy h1
    split at hc
    . exact hbin hc
    . exact hbin hc
    . exact hbin hc
    . rename_i fs
      split at hc
      . rename_i l hl hg
        injection hc with hc; subst hc
        exact Xkq (neg:=false) c hop hd hl hg hx hy hs
      . rename_i l hl hg
        injection hc with hc; subst hc
        exact Xkq (neg:=true) c hop hd hl hg hx hy hs
      . cases hc
    . split at hc
      . rename_i k hk
        injection hc with hc; subst hc
        exact Xm7 (neg:=false) c hop hk hx hy hs
      . rename_i k hk
        injection hc with hc; subst hc
        exact Xm7 (neg:=true) c hop hk hx hy hs
      . cases hc
  . cases hc
theorem XbK {xs : Array Operand} {y : Opd} (ho : Zj P xs.toList = some [y]) : ∃ x, xs = #[x] ∧ Xj P x = some y := by
  obtain⟨l⟩:=xs
  cases l with
  |nil=>simp[Zj] at ho
  |cons x r =>
    simp only[Zj] at ho;split at ho
    . rename_i y' l' hy hl
      simp only[Option.some.injEq,List.cons.injEq] at ho;obtain⟨rfl,rfl⟩:=ho
      cases r with
      |nil=>exact⟨x,rfl,hy⟩
      |cons z r =>
        simp only[Zj] at hl;split at hl<;>simp at hl
    . cases ho
theorem Xfl {xs:Array Operand}{y z:Opd} (ho:Zj P xs.toList=some [y,z]):∃ x u,xs=#[x,u]/\Xj P x=some y/\Xj P u=some z:=by
  obtain⟨l⟩:=xs
  cases l with
  |nil=>simp[Zj] at ho
  |cons x r =>
    simp only[Zj] at ho;split at ho
    . rename_i y' l' hy hl
      simp only[Option.some.injEq,List.cons.injEq] at ho;obtain⟨rfl,rfl⟩:=ho;obtain⟨u,hu1,hu2⟩:=XbK (xs:=⟨r⟩) hl
      have:r=[u]:=by simpa using congrArg Array.toList hu1
      subst this
      exact⟨x,u,rfl,hy,hu2⟩
    . cases ho
theorem XjB (c : Cx P ρ h w e a) {cl : Call} {f : Nat} {fn : Func} {args : List Opd} (hop : o.op = .call cl) (hcl : cl.callee = .value (.func f)) (hf : P.funcs[f]? = some fn) (hname : fn.name ≠ "runtime.NumGoroutine") (hb : fn.body.isSome = false)
    (ha:Zj P cl.args.toList=some args) (hc:XbW P fn args=some cp) (hs:step call e h cp=.ok v h'):X9 P ρ h w a o v h':=by
  unfold XbW at hc;split at hc
  . rename_i x'
    obtain⟨x,har,hx⟩:=XbK ha;have rx:=c.opd hx;split at hc
    . cases hc
    . rename_i hn
      have hn:(Extern.findNext fn).isSome=false:=by simpa using hn
      split at hc
      . rename_i hnm
        injection hc with hc; subst hc
        obtain⟨rfl,v',hr,hv⟩:=XlG c.r rx hs;exact XaY c hop hcl hf hname hb hn (XlF hnm) har hr hv (.refl c.r)
      · split at hc
        . rename_i hnm
          injection hc with hc; subst hc
          obtain⟨rfl,v',hr,hv⟩:=XlL c.r rx hs;exact XaY c hop hcl hf hname hb hn (Xgc hnm) har hr hv (.refl c.r)
        · split at hc
          . rename_i hnm
            injection hc with hc; subst hc
            injection hs with e1 e2; subst e1 e2
            exact XaY c hop hcl hf hname hb hn (Xgb hnm) har rfl rx (.refl c.r)
          · split at hc
            . rename_i hnm
              split at hc
              . rename_i t ht
                split at hc
                . rename_i el hel
                  split at hc
                  . injection hc with hc; subst hc
                    obtain⟨v',w',ρ',hr,hv,hp⟩:=Xpr (fn:=fn) c.r c.wh ht hel rx hs;exact XaY c hop hcl hf hname hb hn (XiT hnm) har hr hv hp
                  . cases hc
                . cases hc
              . cases hc
            . cases hc
  . cases hc
theorem XjL (c : Cx P ρ h w e a) {cl : Call} (hop : o.op = .call cl) (hc : XfM P cl = some cp) (hn : XdI cp = false) (hs : step call e h cp = .ok v h') : X9 P ρ h w a o v h' := by
  unfold XfM at hc;split at hc
  . cases hc
  . rename_i args ha
    split at hc
    . rename_i f hcl
      split at hc
      . rename_i fn hf
        split at hc
        . cases hc
        . rename_i hname
          split at hc
          . injection hc with hc; subst hc; cases hn
          . rename_i hb
            exact XjB c hop hcl hf hname (by simpa using hb) ha hc hs
      . cases hc
    . split at hc
      . injection hc with hc; subst hc; cases hn
      . cases hc
    . cases hc
    . rename_i b hcl
      split at hc
      . rename_i x' y'
        obtain⟨x,y,har,hx,hy⟩:=Xfl ha;split at hc
        . rename_i t u h0 h1
          split at hc
          . rename_i el k ht hu
            split at hc
            . rename_i ti z hi hz
              split at hc
              . rename_i hpos
                injection hc with hc; subst hc
                exact XoW c hop hcl h0 h1 ht hu hi hz hpos har hx hy hs
              . cases hc
            . cases hc
          . rename_i el du hnot ht hu
            split at hc
            . rename_i ti z hi hz
              split at hc
              . rename_i hpos
                injection hc with hc; subst hc
                exact XoX c hop hcl h0 h1 ht hu hnot hi hz hpos har hx hy hs
              . cases hc
            . cases hc
          . cases hc
        . cases hc
      . rename_i x' y'
        obtain⟨x,y,har,hx,hy⟩:=Xfl ha;split at hc
        . rename_i t h0
          split at hc
          . rename_i el ht
            split at hc
            . rename_i s hsz
              injection hc with hc; subst hc
              exact XoQ c hop hcl h0 ht hsz har hx hy hs
            . cases hc
          . cases hc
        . cases hc
      . rename_i x'
        obtain⟨x,har,hx⟩:=XbK ha;split at hc
        . rename_i t h0
          split at hc
          . rename_i ht
            injection hc with hc; subst hc
            exact XoG c hop hcl h0 ht har hx hs
          . rename_i el ht
            injection hc with hc; subst hc
            exact XoH c hop hcl h0 ht har hx hs
          . rename_i n el ht
            injection hc with hc; subst hc
            injection hs with e1 e2; subst e1 e2
            exact Xit c hop hcl h0 har (.inl ⟨el,ht⟩)
          . rename_i ar ht
            split at hc
            . rename_i n el ht'
              injection hc with hc; subst hc
              injection hs with e1 e2; subst e1 e2
              exact Xit c hop hcl h0 har (.inr ⟨ar,el,ht,ht'⟩)
            . cases hc
          . cases hc
        . cases hc
      . rename_i x'
        obtain⟨x,har,hx⟩:=XbK ha;split at hc
        . rename_i t h0
          split at hc
          . rename_i el ht
            injection hc with hc; subst hc
            exact XoR c hop hcl h0 ht har hx hs
          . cases hc
        . cases hc
      . injection hc with hc; subst hc
        exact Xm6 (mx:=true) c hop hcl rfl ha hs
      . injection hc with hc; subst hc
        exact Xm6 (mx:=false) c hop hcl rfl ha hs
      . rename_i x'
        obtain⟨x,har,hx⟩:=XbK ha;injection hc with hc; subst hc
        exact Xo4 c hop hcl har hx hs
      . rename_i x' y'
        obtain⟨x,y,har,hx,hy⟩:=Xfl ha;split at hc
        . rename_i pt h0
          split at hc
          . rename_i el hpt
            split at hc
            . rename_i hsz
              injection hc with hc; subst hc
              exact Xo3 c hop hcl h0 hpt hsz har hx hy hs
            . cases hc
          . cases hc
        . cases hc
      . cases hc
theorem XrP (c : Cx P ρ h w e a) (hc : XfI P o = some cp) (hn : XdI cp = false) (hs : step call e h cp = .ok v h') : X9 P ρ h w a o v h' := by
  unfold XfI at hc;split at hc
  . rename_i x hop
    split at hc
    . rename_i y hy
      injection hc with hc; subst hc
      injection hs with e1 e2; subst e1 e2
      exact Xis c (.inl hop) hy
    . cases hc
  . rename_i x hop
    split at hc
    . rename_i y hy
      injection hc with hc; subst hc
      injection hs with e1 e2; subst e1 e2
      exact Xis c (.inr hop) hy
    . cases hc
  . rename_i x y z hop
    split at hc
    . rename_i x' y' z' hx hy hz
      injection hc with hc; subst hc
      exact Xm5 c hop hx hy hz hs
    . cases hc
  . rename_i t hop
    split at hc
    . rename_i z hz
      injection hc with hc; subst hc
      injection hs with e1 e2; subst e1 e2
      exact XoY c hop hz
    . cases hc
  . rename_i t x hop
    split at hc
    . rename_i y hy
      injection hc with hc; subst hc
      exact XoT c hop hy hs
    . cases hc
  . rename_i t ps hop
    split at hc
    . rename_i z fs hz hu
      split at hc
      . rename_i hfs
        split at hc
        . rename_i l hl
          injection hc with hc; subst hc
          exact XeO c hop hz hu hfs hl hs
        . cases hc
      . cases hc
    . rename_i z n el hz hu
      split at hc
      . rename_i s hsz
        split at hc
        . rename_i l hl
          injection hc with hc; subst hc
          exact XfX c hop hz hu hsz hl hs
        . cases hc
      . cases hc
    . cases hc
  . rename_i t len ps hop
    split at hc
    . rename_i el hu
      split at hc
      . rename_i z s hz hsz
        split at hc
        . rename_i l hl
          split at hc
          . rename_i hle
            injection hc with hc; subst hc
            exact XoS c hop hu hz hsz hl hle hs
          . cases hc
        . cases hc
      . cases hc
    . cases hc
  . rename_i t x hop
    split at hc
    . rename_i n y ha hsz hy
      injection hc with hc; subst hc
      exact XoI c hop hy ha hsz hs
    . rename_i n y ha hsz hy
      injection hc with hc; subst hc
      exact Xrv c hop hy ha hs
    . cases hc
  . rename_i t x y hop
    split at hc
    . rename_i b n x' y' ha hsz hx hy
      injection hc with hc; subst hc
      exact Xru c hop hx hy hsz hs
    . cases hc
  . rename_i x hop
    split at hc
    . rename_i y hy
      injection hc with hc; subst hc
      exact XoC c hop hy hs
    . cases hc
  . rename_i op t x y yt hop
    exact Xqm c hop hc hs
  . rename_i op t x hop
    split at hc
    . rename_i y hy
      injection hc with hc; subst hc
      obtain⟨h1,h2⟩:=XkF hs;subst h2;exact Xrt c hop hy h1
    . cases hc
  . rename_i s d x hop
    split at hc
    . rename_i y hy
      exact XnM c hop hy hc hs
    . cases hc
  . rename_i t x hop
    split at hc
    . cases hc
    . rename_i y d hnot hy hu
      injection hc with hc; subst hc
      injection hs with e1 e2; subst e1 e2
      exact XoE c hop hy hu hnot
    . cases hc
  . rename_i fn first caps hop
    split at hc
    . rename_i f l hf hl
      injection hc with hc; subst hc
      injection hs with e1 e2; subst e1 e2
      have:first=#[]:=by apply Array.ext'; rw[hf]
      subst this;exact XoF c hop hl
    . cases hc
  . rename_i t l k hop
    split at hc
    . rename_i el l' k' hu hl hk
      split at hc
      . rename_i ti z hi hz
        split at hc
        . rename_i hpos
          injection hc with hc; subst hc
          exact XoD c hop hu hi hz hpos hl hk hs
        . cases hc
      . cases hc
    . cases hc
  . rename_i t x lo hi mx hop
    split at hc
    . rename_i x' lo' hi' mx' hx hlo hhi hmx
      exact Xlm c hop hx hlo hhi hmx hc hs
    . cases hc
  . rename_i t x f hop
    split at hc
    . rename_i fs y hu hy
      split at hc
      . rename_i fl hf
        split at hc
        . rename_i n hsz
          injection hc with hc; subst hc
          exact XoM c hop hu hf hsz hy hs
        . cases hc
      . cases hc
    . cases hc
  . rename_i t x f hop
    split at hc
    . rename_i fs y hu hy
      split at hc
      . rename_i fl hf
        split at hc
        . rename_i n hsz ha
          injection hc with hc; subst hc
          exact Xkp (ag:=true) c hop hu hf hsz ha hy hs
        . rename_i n hsz ha
          injection hc with hc; subst hc
          exact Xkp (ag:=false) c hop hu hf hsz ha hy hs
        . cases hc
      . cases hc
    . cases hc
  . rename_i t x i hop
    split at hc
    . rename_i n el x' i' hu hx hi
      split at hc
      . rename_i s hsz
        injection hc with hc; subst hc
        exact XoL c hop hu hsz hx hi hs
      . cases hc
    . rename_i el x' i' hu hx hi
      split at hc
      . rename_i s hsz
        injection hc with hc; subst hc
        exact XoK c hop hu hsz hx hi hs
      . cases hc
    . cases hc
  . rename_i t x i hop
    split at hc
    . rename_i n el x' i' hu hx hi
      split at hc
      . rename_i s hsz ha
        injection hc with hc; subst hc
        exact Xko (ag:=true) c hop hu hsz ha (fun h=>by cases h) hx hi hs
      . rename_i hsz ha
        injection hc with hc; subst hc
        exact Xko (ag:=false) c hop hu hsz ha (fun _=>rfl) hx hi hs
      . cases hc
    . rename_i x' i' hu hx hi
      injection hc with hc; subst hc
      exact XoJ c hop hu hx hi hs
    . cases hc
  . rename_i x i hop
    split at hc
    . rename_i y hy
      injection hc with hc; subst hc
      exact XoN c hop hy hs
    . cases hc
  . rename_i cl hop
    exact XjL c hop hc hn hs
  . rename_i t x hop
    split at hc
    . rename_i y hu hy
      injection hc with hc; subst hc
      exact Xo9 c hop hu hy hs
    . cases hc
  . rename_i x s hop
    split at hc
    . rename_i y hy
      injection hc with hc; subst hc
      exact XoB c hop hy hs
    . cases hc
  . rename_i x hop
    split at hc
    . rename_i y hy
      injection hc with hc; subst hc
      simp only[step] at hs;unfold sPan at hs;split at hs<;>cases hs
    . cases hc
  . cases hc
end
end Go.Vm
