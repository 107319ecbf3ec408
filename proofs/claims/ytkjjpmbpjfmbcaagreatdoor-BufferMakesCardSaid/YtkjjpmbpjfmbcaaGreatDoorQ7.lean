/-
  The reader of package codec: its parts, by trees.
  The reader of package codec: numbers, by trees.
  Marks: which are NaN, as the program and as the document's answer tell it.
  Numbers out of texts, as the document's answer reads them.
  Metas: what a text's meta is, as the program and as the document's answer tell it.
  Changes and blocks: what a text's change is, and whether a text is a block's, as the program and as the document's answer tell it.
  Patches of blocks: what a text's patch is, as the program and as the document's answer tell it.
  Which values and patches suit a key, as the program and as the document's answer tell it.
  Which messages may be, as the program and as the document's answer tell it.
  What a message touches, and what of it lies in a range, as the program and as the document's answer tell it.
  Marks: their order, and what a step makes of one, as the program and as the document's answer tell it.
  What a step makes of a mark, as the program and as the document's answer tell it.
  Whether a record of a file, or a change of one, may be: as the program and as the document's answer tell it.
  What a change makes of a file's record: as the program and as the document's answer tell it.
-/
import Derived.Test.YtkjjpmbpjfmbcaaGreatDoorQ5
import Derived.Test.YtkjjpmbpjfmbcaaGreatDoorQ6
import Derived.KernelRfl
set_option linter.unusedVariables false
set_option linter.unusedSimpArgs false
namespace Go.Vm.YtkjjpmbpjfmbcaaGreatDoor
open Go.Proofs
noncomputable section
theorem Xo:Tryz.prog.globals.size=7:=by kernel_rfl
noncomputable abbrev tab:=Xgh all
noncomputable def XkC (a b:Int):Int:=IntKind.wrap .u64 ((BitVec.ofInt 64 (IntKind.wrap .u64 (a*256)) ||| BitVec.ofInt 64 (IntKind.wrap .u64 b)).toNat)
theorem Xns {a b:Int} (h0:0<=a)(h1:a<72057594037927936)(h2:0<=b)(h3:b<256):XkC a b=a*256+b:=by
  unfold XkC;rw[wrap_u64 (z:=a*256) (by omega) (by omega),wrap_u64 (z:=b) h2 (by omega)]
  obtain⟨m,rfl⟩:∃ m:Nat,a=m:=⟨a.toNat,by omega⟩
  obtain⟨n,rfl⟩:∃ n:Nat,b=n:=⟨b.toNat,by omega⟩
  have e1:BitVec.ofInt 64 ((m:Int)*256)=BitVec.ofNat 64 (m*256):=by
    rw[show (m:Int)*256=((m*256:Nat):Int) by simp,BitVec.ofInt_natCast]
  have e2:BitVec.ofInt 64 (n:Int)=BitVec.ofNat 64 n:=BitVec.ofInt_natCast ..
  rw[e1,e2,BitVec.toNat_or,BitVec.toNat_ofNat,BitVec.toNat_ofNat,Nat.mod_eq_of_lt (by omega),Nat.mod_eq_of_lt (by omega)]
  have e3:m*256 ||| n=m*256+n:=by
    have:=Nat.two_pow_add_eq_or_of_lt (i:=8) (b:=n) (by omega) m
    simp only[show (2:Nat) ^ 8=256 from rfl] at this
    rw[Nat.mul_comm m 256,this]
  rw[e3,wrap_u64 (by omega) (by omega)]
  simp
noncomputable def Xek:Int->List UInt8->Int
  |a,[]=>a
  |a,b::r=>Xek (XkC a b.toNat) r
theorem XiL:∀ (l:List UInt8) (a:Nat),l.length<=8->a<256 ^ (8-l.length)->Xek a l=((l.foldl (fun a b=>a*256+b.toNat) a:Nat):Int)
  |[],a,_,_=>rfl
  |b::r,a,h,ha=>by
    have hb:=b.toNat_lt
    have hl:(b::r).length=r.length+1:=rfl
    rw[hl] at h ha
    have hp:256 ^ (8-(r.length+1))<=256 ^ 7:=Nat.pow_le_pow_right (by omega) (by omega)
    have e7:(256:Nat) ^ 7=72057594037927936:=rfl
    show Xek (XkC a b.toNat) r=_
    rw[Xns (by omega) (by omega) (by omega) (by omega)]
    have e:(a:Int)*256+(b.toNat:Int)=((a*256+b.toNat:Nat):Int):=by simp
    rw[e,XiL r (a*256+b.toNat) (by omega) ?_]
    . rfl
    . have e1:8-r.length=(8-(r.length+1))+1:=by omega
      rw[e1,Nat.pow_succ];omega
theorem Xcp (l:List UInt8)(h:l.length<=8):Xek 0 l=(numOf l:Int) :=
  XiL l 0 h (Nat.pos_of_ne_zero (by simp))
noncomputable def XbT (s:List UInt8)(z w:Int):OD :=
  .br (!decide (z=0)) (.v (.str []) [.str s,.int .i64 z]) (.br (decide (w<=0)) (.v (.str []) [.str s,.int .i64 z])
    (.br (decide ((s.length:Int)<w)) (.v (.str []) [.str [],.int .i64 10]) (.v (.str (s.take w.toNat)) [.str (s.drop w.toNat),.int .i64 z])))
theorem Xrg (s : List UInt8) (z w : Int) : XT (Laws.none Tryz.prog) tab [159] 7 200 159 195 [.str s, .int .i64 z] [.int .i64 w] =
    cond (!decide (z=0)) (some (.tup [.str [],.agg [.str s,.int .i64 z]])) (cond (decide (w<=0)) (some (.tup [.str [],.agg [.str s,.int .i64 z]]))
      (cond (decide ((s.length:Int)<w)) (some (.tup [.str [],.agg [.str [],.int .i64 10]]))
        (cond (decide (0<=w)&&decide (w<=(s.length:Int))) (cond (decide (0<=w)&&decide (w<=(s.length:Int))) (some (.tup [.str (s.take w.toNat),.agg [.str (s.drop w.toNat),.int .i64 z]])) none) none))):=by kernel_rfl
theorem Xvc (s : List UInt8) (z w : Int) : XT (Laws.none Tryz.prog) tab [159] 7 200 159 195 [.str s, .int .i64 z] [.int .i64 w] = some (.tup [(XbT s z w).val.1, .agg (XbT s z w).val.2]) := by
  rw[Xrg];unfold XbT;simp only[OD.val]
  cases h1:!decide (z=0) with
  |true=>rfl
  |false =>
    cases h2:decide (w<=0) with
    |true=>rfl
    |false =>
      cases h3:decide ((s.length:Int)<w) with
      |true=>rfl
      |false =>
        simp only[decide_eq_false_iff_not] at h2 h3;rw[show (decide (0<=w)&&decide (w<=(s.length:Int)))=true by simp; omega]
        rfl
theorem XlW (s:List UInt8)(z w:Int):(XbT s z w).val.2.length=2/\wfs 0 (toVs (XbT s z w).val.2)/\wf 0 (toV (XbT s z w).val.1):=by
  unfold XbT;simp only[OD.val];split
  . exact⟨rfl,⟨trivial,trivial,trivial⟩,trivial⟩
  . split
    . exact⟨rfl,⟨trivial,trivial,trivial⟩,trivial⟩
    . split
      . exact⟨rfl,⟨trivial,trivial,trivial⟩,trivial⟩
      . exact⟨rfl,⟨trivial,trivial,trivial⟩,trivial⟩
theorem XfC (s:List UInt8)(z:Int):ofVs (toVs [.str s,.int .i64 z])=some [.str s,.int .i64 z]:=by
  show (match ofV (sv s),ofVs [.int .i64 z] with | some x,some l=>some (x::l) | _,_=>.none)=_
  rw[WE]; rfl
noncomputable def g68:Nat->List DV->List DV->Option OD:=fun el l r=>match el,l,r with
  |195,[.str s,.int .i64 z],[.int .i64 w]=>some (XbT s z w)
  |_,_,_=>none
theorem XsU:∀ el l r d,g68 el l r=some d->d.ok=true->ObjCall Tryz.prog 159 el (toVs l) (toVs r) (toV d.val.1) (toVs d.val.2)/\ofVs (toVs l)=some l/\ofVs (toVs r)=some r:=by
  intro el l r d h ho;unfold g68 at h;split at h
  . rename_i s z w
    cases h;obtain⟨h1,h2,h3⟩:=XlW s z w
    exact⟨Xfq _ XN Xo (by kernel_rfl) (Xvc s z w) h1 ⟨trivial,trivial,trivial⟩ h2 ⟨trivial,trivial⟩ h3,XfC s z,rfl⟩
  . cases h
noncomputable def Zb:Laws Tryz.prog:=((Laws.none _).addO 159 g68 XsU)
noncomputable def getD (kd:IntKind)(w:Nat)(s:List UInt8)(z:Int):OD :=
  .br (!decide (z=0)) (.v (.int kd 0) [.str s,.int .i64 z]) (.br (decide ((s.length:Int)<(w:Int))) (.v (.int kd 0) [.str [],.int .i64 10])
    (.v (.int kd (numOf (s.take w):Int)) [.str (s.drop w),.int .i64 z]))
theorem XgN (kd:IntKind)(w:Nat)(s:List UInt8)(z:Int):(getD kd w s z).val.2.length=2/\wfs 0 (toVs (getD kd w s z).val.2)/\wf 0 (toV (getD kd w s z).val.1):=by
  unfold getD;simp only[OD.val];split
  . exact⟨rfl,⟨trivial,trivial,trivial⟩,trivial⟩
  . split
    . exact⟨rfl,⟨trivial,trivial,trivial⟩,trivial⟩
    . exact⟨rfl,⟨trivial,trivial,trivial⟩,trivial⟩
theorem Yj (kd:IntKind)(w:Nat)(s:List UInt8)(z:Int)(h:s.length<w):cond (!decide (z=0)) (some (DV.tup [.int kd 0,.agg [.str s,.int .i64 z]])) (some (.tup [.int kd 0,.agg [.str [],.int .i64 10]])) =
    some (.tup [(getD kd w s z).val.1,.agg (getD kd w s z).val.2]):=by
  unfold getD;simp only[OD.val];rw[show decide ((s.length:Int)<(w:Int))=true by simpa using h]
  cases !decide (z=0)<;>rfl
theorem Xdu (kd:IntKind)(w:Nat)(s:List UInt8)(z x:Int)(h:w<=s.length)(hx:x=(numOf (s.take w):Int)) :
    cond (!decide (z=0)) (some (DV.tup [.int kd 0,.agg [.str s,.int .i64 z]])) (cond (decide ((s.length:Int)<(w:Int))) (some (.tup [.int kd 0,.agg [.str [],.int .i64 10]])) (some (.tup [.int kd x,.agg [.str (s.drop w),.int .i64 z]]))) =
    some (.tup [(getD kd w s z).val.1,.agg (getD kd w s z).val.2]):=by
  unfold getD;simp only[OD.val];rw[show decide ((s.length:Int)<(w:Int))=false by simpa using h,hx]
  cases !decide (z=0)<;>rfl
theorem Xhj (l:List UInt8)(w:Nat)(h:l.length=w):(numOf l:Int)<((256 ^ w:Nat):Int):=by
  have:=ZI l
  rw[h] at this
  exact_mod_cast this
theorem Xmh (z:Int):XT Zb tab [158] 7 200 158 195 [.str [],.int .i64 z] [.int .i64 1]=cond (!decide (z=0)) (some (DV.tup [.int .u8 0,.agg [.str [],.int .i64 z]])) (some (.tup [.int .u8 0,.agg [.str [],.int .i64 10]])):=by kernel_rfl
theorem Xik (b0:UInt8)(r:List UInt8)(z:Int):XT Zb tab [158] 7 200 158 195 [.str (b0::r),.int .i64 z] [.int .i64 1] =
    cond (!decide (z=0)) (some (DV.tup [.int .u8 0,.agg [.str (b0::r),.int .i64 z]])) (cond (decide (((b0::r).length:Int)<1)) (some (.tup [.int .u8 0,.agg [.str [],.int .i64 10]])) (some (.tup [.int .u8 (IntKind.wrap .u8 (Xek 0 [b0])),.agg [.str r,.int .i64 z]]))):=by kernel_rfl
theorem Xvd (s:List UInt8)(z:Int):XT Zb tab [158] 7 200 158 195 [.str s,.int .i64 z] [.int .i64 1]=some (.tup [(getD .u8 1 s z).val.1,.agg (getD .u8 1 s z).val.2]):=match s with
  |[]=>(Xmh  z).trans (Yj .u8 1 [] z (by simp))
  |b0::r=>(Xik b0 r z).trans (Xdu .u8 1 (b0::r) z _ (by simp) (by
      have e:(numOf ((b0::r).take 1):Int)=numOf [b0]:=rfl
      have h1:=Xhj [b0] 1 rfl;rw[e,Xcp [b0] (by simp)]
      rw[wrap_u8 (by omega) (by simp at h1; omega)]))
noncomputable def g67:Nat->List DV->List DV->Option OD:=fun el l r=>match el,l,r with
  |195,[.str s,.int .i64 z],[.int .i64 1]=>some (getD .u8 1 s z)
  |_,_,_=>none
theorem XsV:∀ el l r d,g67 el l r=some d->d.ok=true->ObjCall Tryz.prog 158 el (toVs l) (toVs r) (toV d.val.1) (toVs d.val.2)/\ofVs (toVs l)=some l/\ofVs (toVs r)=some r:=by
  intro el l r d h ho;unfold g67 at h;split at h
  . rename_i s z
    cases h;obtain⟨h1,h2,h3⟩:=XgN .u8 1 s z
    exact⟨Xfq _ XN Xo (by kernel_rfl) (Xvd s z) h1 ⟨trivial,trivial,trivial⟩ h2 ⟨trivial,trivial⟩ h3,XfC s z,rfl⟩
  . cases h
theorem Xmg (z:Int):XT Zb tab [180] 7 200 180 195 [.str [],.int .i64 z] [.int .i64 2]=cond (!decide (z=0)) (some (DV.tup [.int .u16 0,.agg [.str [],.int .i64 z]])) (some (.tup [.int .u16 0,.agg [.str [],.int .i64 10]])):=by kernel_rfl
theorem Xmf (b0:UInt8)(z:Int):XT Zb tab [180] 7 200 180 195 [.str [b0],.int .i64 z] [.int .i64 2]=cond (!decide (z=0)) (some (DV.tup [.int .u16 0,.agg [.str [b0],.int .i64 z]])) (some (.tup [.int .u16 0,.agg [.str [],.int .i64 10]])):=by kernel_rfl
theorem Xij (b0 b1:UInt8)(r:List UInt8)(z:Int):XT Zb tab [180] 7 200 180 195 [.str (b0::b1::r),.int .i64 z] [.int .i64 2] =
    cond (!decide (z=0)) (some (DV.tup [.int .u16 0,.agg [.str (b0::b1::r),.int .i64 z]])) (cond (decide (((b0::b1::r).length:Int)<2)) (some (.tup [.int .u16 0,.agg [.str [],.int .i64 10]])) (some (.tup [.int .u16 (IntKind.wrap .u16 (Xek 0 [b0,b1])),.agg [.str r,.int .i64 z]]))):=by kernel_rfl
theorem XuP (s:List UInt8)(z:Int):XT Zb tab [180] 7 200 180 195 [.str s,.int .i64 z] [.int .i64 2]=some (.tup [(getD .u16 2 s z).val.1,.agg (getD .u16 2 s z).val.2]):=match s with
  |[]=>(Xmg  z).trans (Yj .u16 2 [] z (by simp))
  |[b0]=>(Xmf b0 z).trans (Yj .u16 2 [b0] z (by simp))
  |b0::b1::r=>(Xij b0 b1 r z).trans (Xdu .u16 2 (b0::b1::r) z _ (by simp) (by
      have e:(numOf ((b0::b1::r).take 2):Int)=numOf [b0,b1]:=rfl
      have h1:=Xhj [b0,b1] 2 rfl;rw[e,Xcp [b0,b1] (by simp)]
      rw[wrap_u16 (by omega) (by simp at h1; omega)]))
noncomputable def g99:Nat->List DV->List DV->Option OD:=fun el l r=>match el,l,r with
  |195,[.str s,.int .i64 z],[.int .i64 2]=>some (getD .u16 2 s z)
  |_,_,_=>none
theorem XsK:∀ el l r d,g99 el l r=some d->d.ok=true->ObjCall Tryz.prog 180 el (toVs l) (toVs r) (toV d.val.1) (toVs d.val.2)/\ofVs (toVs l)=some l/\ofVs (toVs r)=some r:=by
  intro el l r d h ho;unfold g99 at h;split at h
  . rename_i s z
    cases h;obtain⟨h1,h2,h3⟩:=XgN .u16 2 s z
    exact⟨Xfq _ XN Xo (by kernel_rfl) (XuP s z) h1 ⟨trivial,trivial,trivial⟩ h2 ⟨trivial,trivial⟩ h3,XfC s z,rfl⟩
  . cases h
theorem Xli (z:Int):XT Zb tab [163] 7 200 163 195 [.str [],.int .i64 z] [.int .i64 4]=cond (!decide (z=0)) (some (DV.tup [.int .u32 0,.agg [.str [],.int .i64 z]])) (some (.tup [.int .u32 0,.agg [.str [],.int .i64 10]])):=by kernel_rfl
theorem Xlh (b0:UInt8)(z:Int):XT Zb tab [163] 7 200 163 195 [.str [b0],.int .i64 z] [.int .i64 4]=cond (!decide (z=0)) (some (DV.tup [.int .u32 0,.agg [.str [b0],.int .i64 z]])) (some (.tup [.int .u32 0,.agg [.str [],.int .i64 10]])):=by kernel_rfl
theorem Xlg (b0 b1:UInt8)(z:Int):XT Zb tab [163] 7 200 163 195 [.str [b0,b1],.int .i64 z] [.int .i64 4]=cond (!decide (z=0)) (some (DV.tup [.int .u32 0,.agg [.str [b0,b1],.int .i64 z]])) (some (.tup [.int .u32 0,.agg [.str [],.int .i64 10]])):=by kernel_rfl
theorem Xlf (b0 b1 b2:UInt8)(z:Int):XT Zb tab [163] 7 200 163 195 [.str [b0,b1,b2],.int .i64 z] [.int .i64 4]=cond (!decide (z=0)) (some (DV.tup [.int .u32 0,.agg [.str [b0,b1,b2],.int .i64 z]])) (some (.tup [.int .u32 0,.agg [.str [],.int .i64 10]])):=by kernel_rfl
theorem XgP (b0 b1 b2 b3:UInt8)(r:List UInt8)(z:Int):XT Zb tab [163] 7 200 163 195 [.str (b0::b1::b2::b3::r),.int .i64 z] [.int .i64 4] =
    cond (!decide (z=0)) (some (DV.tup [.int .u32 0,.agg [.str (b0::b1::b2::b3::r),.int .i64 z]])) (cond (decide (((b0::b1::b2::b3::r).length:Int)<4)) (some (.tup [.int .u32 0,.agg [.str [],.int .i64 10]])) (some (.tup [.int .u32 (IntKind.wrap .u32 (Xek 0 [b0,b1,b2,b3])),.agg [.str r,.int .i64 z]]))):=by kernel_rfl
theorem XsB (s:List UInt8)(z:Int):XT Zb tab [163] 7 200 163 195 [.str s,.int .i64 z] [.int .i64 4]=some (.tup [(getD .u32 4 s z).val.1,.agg (getD .u32 4 s z).val.2]):=match s with
  |[]=>(Xli  z).trans (Yj .u32 4 [] z (by simp))
  |[b0]=>(Xlh b0 z).trans (Yj .u32 4 [b0] z (by simp))
  |[b0,b1]=>(Xlg b0 b1 z).trans (Yj .u32 4 [b0,b1] z (by simp))
  |[b0,b1,b2]=>(Xlf b0 b1 b2 z).trans (Yj .u32 4 [b0,b1,b2] z (by simp))
  |b0::b1::b2::b3::r=>(XgP b0 b1 b2 b3 r z).trans (Xdu .u32 4 (b0::b1::b2::b3::r) z _ (by simp) (by
      have e:(numOf ((b0::b1::b2::b3::r).take 4):Int)=numOf [b0,b1,b2,b3]:=rfl
      have h1:=Xhj [b0,b1,b2,b3] 4 rfl;rw[e,Xcp [b0,b1,b2,b3] (by simp)]
      rw[wrap_u32 (by omega) (by simp at h1; omega)]))
noncomputable def g119:Nat->List DV->List DV->Option OD:=fun el l r=>match el,l,r with
  |195,[.str s,.int .i64 z],[.int .i64 4]=>some (getD .u32 4 s z)
  |_,_,_=>none
theorem XpS:∀ el l r d,g119 el l r=some d->d.ok=true->ObjCall Tryz.prog 163 el (toVs l) (toVs r) (toV d.val.1) (toVs d.val.2)/\ofVs (toVs l)=some l/\ofVs (toVs r)=some r:=by
  intro el l r d h ho;unfold g119 at h;split at h
  . rename_i s z
    cases h;obtain⟨h1,h2,h3⟩:=XgN .u32 4 s z
    exact⟨Xfq _ XN Xo (by kernel_rfl) (XsB s z) h1 ⟨trivial,trivial,trivial⟩ h2 ⟨trivial,trivial⟩ h3,XfC s z,rfl⟩
  . cases h
theorem Xle (z:Int):XT Zb tab [164] 7 200 164 195 [.str [],.int .i64 z] [.int .i64 8]=cond (!decide (z=0)) (some (DV.tup [.int .u64 0,.agg [.str [],.int .i64 z]])) (some (.tup [.int .u64 0,.agg [.str [],.int .i64 10]])):=by kernel_rfl
theorem Xld (b0:UInt8)(z:Int):XT Zb tab [164] 7 200 164 195 [.str [b0],.int .i64 z] [.int .i64 8]=cond (!decide (z=0)) (some (DV.tup [.int .u64 0,.agg [.str [b0],.int .i64 z]])) (some (.tup [.int .u64 0,.agg [.str [],.int .i64 10]])):=by kernel_rfl
theorem Xlc (b0 b1:UInt8)(z:Int):XT Zb tab [164] 7 200 164 195 [.str [b0,b1],.int .i64 z] [.int .i64 8]=cond (!decide (z=0)) (some (DV.tup [.int .u64 0,.agg [.str [b0,b1],.int .i64 z]])) (some (.tup [.int .u64 0,.agg [.str [],.int .i64 10]])):=by kernel_rfl
theorem Xlb (b0 b1 b2:UInt8)(z:Int):XT Zb tab [164] 7 200 164 195 [.str [b0,b1,b2],.int .i64 z] [.int .i64 8]=cond (!decide (z=0)) (some (DV.tup [.int .u64 0,.agg [.str [b0,b1,b2],.int .i64 z]])) (some (.tup [.int .u64 0,.agg [.str [],.int .i64 10]])):=by kernel_rfl
theorem Xla (b0 b1 b2 b3:UInt8)(z:Int):XT Zb tab [164] 7 200 164 195 [.str [b0,b1,b2,b3],.int .i64 z] [.int .i64 8]=cond (!decide (z=0)) (some (DV.tup [.int .u64 0,.agg [.str [b0,b1,b2,b3],.int .i64 z]])) (some (.tup [.int .u64 0,.agg [.str [],.int .i64 10]])):=by kernel_rfl
theorem XkZ (b0 b1 b2 b3 b4:UInt8)(z:Int):XT Zb tab [164] 7 200 164 195 [.str [b0,b1,b2,b3,b4],.int .i64 z] [.int .i64 8]=cond (!decide (z=0)) (some (DV.tup [.int .u64 0,.agg [.str [b0,b1,b2,b3,b4],.int .i64 z]])) (some (.tup [.int .u64 0,.agg [.str [],.int .i64 10]])):=by kernel_rfl
theorem XkY (b0 b1 b2 b3 b4 b5:UInt8)(z:Int):XT Zb tab [164] 7 200 164 195 [.str [b0,b1,b2,b3,b4,b5],.int .i64 z] [.int .i64 8]=cond (!decide (z=0)) (some (DV.tup [.int .u64 0,.agg [.str [b0,b1,b2,b3,b4,b5],.int .i64 z]])) (some (.tup [.int .u64 0,.agg [.str [],.int .i64 10]])):=by kernel_rfl
theorem XkX (b0 b1 b2 b3 b4 b5 b6:UInt8)(z:Int):XT Zb tab [164] 7 200 164 195 [.str [b0,b1,b2,b3,b4,b5,b6],.int .i64 z] [.int .i64 8]=cond (!decide (z=0)) (some (DV.tup [.int .u64 0,.agg [.str [b0,b1,b2,b3,b4,b5,b6],.int .i64 z]])) (some (.tup [.int .u64 0,.agg [.str [],.int .i64 10]])):=by kernel_rfl
theorem XgO (b0 b1 b2 b3 b4 b5 b6 b7:UInt8)(r:List UInt8)(z:Int):XT Zb tab [164] 7 200 164 195 [.str (b0::b1::b2::b3::b4::b5::b6::b7::r),.int .i64 z] [.int .i64 8] =
    cond (!decide (z=0)) (some (DV.tup [.int .u64 0,.agg [.str (b0::b1::b2::b3::b4::b5::b6::b7::r),.int .i64 z]])) (cond (decide (((b0::b1::b2::b3::b4::b5::b6::b7::r).length:Int)<8)) (some (.tup [.int .u64 0,.agg [.str [],.int .i64 10]])) (some (.tup [.int .u64 (Xek 0 [b0,b1,b2,b3,b4,b5,b6,b7]),.agg [.str r,.int .i64 z]]))):=by kernel_rfl
theorem XsA (s:List UInt8)(z:Int):XT Zb tab [164] 7 200 164 195 [.str s,.int .i64 z] [.int .i64 8]=some (.tup [(getD .u64 8 s z).val.1,.agg (getD .u64 8 s z).val.2]):=match s with
  |[]=>(Xle  z).trans (Yj .u64 8 [] z (by simp))
  |[b0]=>(Xld b0 z).trans (Yj .u64 8 [b0] z (by simp))
  |[b0,b1]=>(Xlc b0 b1 z).trans (Yj .u64 8 [b0,b1] z (by simp))
  |[b0,b1,b2]=>(Xlb b0 b1 b2 z).trans (Yj .u64 8 [b0,b1,b2] z (by simp))
  |[b0,b1,b2,b3]=>(Xla b0 b1 b2 b3 z).trans (Yj .u64 8 [b0,b1,b2,b3] z (by simp))
  |[b0,b1,b2,b3,b4]=>(XkZ b0 b1 b2 b3 b4 z).trans (Yj .u64 8 [b0,b1,b2,b3,b4] z (by simp))
  |[b0,b1,b2,b3,b4,b5]=>(XkY b0 b1 b2 b3 b4 b5 z).trans (Yj .u64 8 [b0,b1,b2,b3,b4,b5] z (by simp))
  |[b0,b1,b2,b3,b4,b5,b6]=>(XkX b0 b1 b2 b3 b4 b5 b6 z).trans (Yj .u64 8 [b0,b1,b2,b3,b4,b5,b6] z (by simp))
  |b0::b1::b2::b3::b4::b5::b6::b7::r=>(XgO b0 b1 b2 b3 b4 b5 b6 b7 r z).trans (Xdu .u64 8 (b0::b1::b2::b3::b4::b5::b6::b7::r) z _ (by simp) (by
      have e:(numOf ((b0::b1::b2::b3::b4::b5::b6::b7::r).take 8):Int)=numOf [b0,b1,b2,b3,b4,b5,b6,b7]:=rfl
      have h1:=Xhj [b0,b1,b2,b3,b4,b5,b6,b7] 8 rfl;rw[e,Xcp [b0,b1,b2,b3,b4,b5,b6,b7] (by simp)]))
noncomputable def g120:Nat->List DV->List DV->Option OD:=fun el l r=>match el,l,r with
  |195,[.str s,.int .i64 z],[.int .i64 8]=>some (getD .u64 8 s z)
  |_,_,_=>none
theorem XpR:∀ el l r d,g120 el l r=some d->d.ok=true->ObjCall Tryz.prog 164 el (toVs l) (toVs r) (toV d.val.1) (toVs d.val.2)/\ofVs (toVs l)=some l/\ofVs (toVs r)=some r:=by
  intro el l r d h ho;unfold g120 at h;split at h
  . rename_i s z
    cases h;obtain⟨h1,h2,h3⟩:=XgN .u64 8 s z
    exact⟨Xfq _ XN Xo (by kernel_rfl) (XsA s z) h1 ⟨trivial,trivial,trivial⟩ h2 ⟨trivial,trivial⟩ h3,XfC s z,rfl⟩
  . cases h
noncomputable def Xnk:Laws Tryz.prog:=((((Zb.addO 158 g67 XsV).addO 180 g99 XsK).addO 163 g119 XpS).addO 164 g120 XpR)
noncomputable def nanN (m:Nat):Bool:=decide (9218868437227405312<m%9223372036854775808)
theorem Xlu (m:Nat):(FloatKind.f64.format.order m m != some .eq)=nanN m:=by
  have key:∀ d:Ieee.Datum,(d.order d != some .eq)=d.isNaN:=by
    intro d
    cases d with
    |nan s f=>rfl
    |infinity s=>cases s<;>rfl
    |number s a i =>
      simp only[Ieee.Datum.order,Ieee.Datum.isNaN]
      have:∀ z:Int,compare z z=.eq:=fun z=>by simp[compare,compareOfLessAndEq]
      rw[this]; rfl
  show ((FloatKind.f64.format.read m).order (FloatKind.f64.format.read m) != some .eq)=_
  rw[key];unfold Ieee.Format.read nanN
  have e1:FloatKind.f64.format.signWeight=9223372036854775808:=rfl
  have e2:FloatKind.f64.format.infRung=9218868437227405312:=rfl
  have e3:FloatKind.f64.format.binade=4503599627370496:=rfl
  simp only[e1,e2,e3];split
  . rename_i h; simp only[Ieee.Datum.isNaN]; symm; simpa using by omega
  . split
    . rename_i h; simp only[Ieee.Datum.isNaN]; symm; simpa using by omega
    . split
      . rename_i h; simp only[Ieee.Datum.isNaN]; symm; simpa using by omega
      . rename_i h; simp only[Ieee.Datum.isNaN]; symm; simpa using by omega
noncomputable def ZZ (n:Nat):PD:=.br (nanN n) (.v (.int .u64 9221120237041090561)) (.v (.int .u64 (n:Int)))
theorem Xou (n:Nat):Xu Xnk tab [165] 7 200 165 [.int .u64 (.ofNat n)]=cond (FloatKind.f64.format.order n n != some .eq) (some (.int .u64 9221120237041090561)) (some (.int .u64 (.ofNat n))):=by kernel_rfl
theorem Xs9 (n:Nat):Xu Xnk tab [165] 7 200 165 [.int .u64 (.ofNat n)]=some (ZZ n).val:=by
  rw[Xou,Xlu];unfold ZZ;simp only[PD.val]
  cases nanN n<;>rfl
theorem XlU (n:Nat):wf 0 (toV (ZZ n).val):=by
  unfold ZZ;simp only[PD.val]
  split<;>trivial
noncomputable def g121:List DV->Option PD:=fun l=>match l with
  |[.int .u64 (.ofNat n)]=>some (ZZ n)
  |_=>none
theorem XkI:∀ l d,g121 l=some d->d.ok=true->PlainCall Tryz.prog [] 165 (toVs l) (toV d.val)/\ofVs (toVs l)=some l:=by
  intro l d h ho;unfold g121 at h;split at h
  . rename_i n
    cases h
    exact⟨XJ _ XN Xo (by kernel_rfl) (Xs9 n) ⟨trivial,trivial⟩ (XlU n),rfl⟩
  . cases h
noncomputable def XuO:Laws Tryz.prog:=((Xnk.add 165 g121 XkI))
noncomputable def hstep (a b:Int):Int:=IntKind.wrap .u64 (IntKind.wrap .u64 (a*256)+IntKind.wrap .u64 b)
noncomputable def Xnq:Int->List UInt8->Int
  |a,[]=>a
  |a,b::r=>Xnq (hstep a b.toNat) r
noncomputable def Xnj:Laws Tryz.prog:=(XuO)
theorem YT {α:Type}{p:Prop} [Decidable p] (a b:α):cond (decide p) a b=if p then a else b:=by by_cases h:p<;>simp[h]
theorem Xcr {α:Type}{p:Prop} [Decidable p] (a b:α):cond (!decide p) a b=if p then b else a:=by by_cases h:p<;>simp[h]
theorem XaT {α:Type} (x y:Bool)(a b:α):cond (x&&y) a b=cond x (cond y a b) b:=by cases x<;>rfl
theorem Xdx {α:Type} (x y:Bool)(a b:α):cond (x||y) a b=cond x a (cond y a b):=by cases x<;>rfl
theorem Xcq {α:Type} (x:Bool)(a b:α):cond (!x) a b=cond x b a:=by cases x<;>rfl
theorem Xg5 {α:Type}{c:Prop} [Decidable c] {a b r:α} (ht:c->a=r)(hf:¬ c->b=r):(if c then a else b)=r:=by
  by_cases h:c
  . rw[if_pos h]; exact ht h
  . rw[if_neg h]; exact hf h
theorem Xg4 {α:Type}{c:Prop} [Decidable c] {a b r:α} (ht:c->r=a)(hf:¬ c->r=b):r=(if c then a else b):=by
  by_cases h:c
  . rw[if_pos h]; exact ht h
  . rw[if_neg h]; exact hf h
theorem pd_v {x:DV}:some (PD.v x).val=some x:=rfl
theorem Xgs {b:Bool}{t f:PD}:some (PD.br b t f).val=cond b (some t.val) (some f.val):=by cases b<;>rfl
theorem Xfr (l:List UInt8)(n:Nat):numOf (l.take n)<256 ^ n:=by
  have:=ZI (l.take n)
  exact Nat.lt_of_lt_of_le this (Nat.pow_le_pow_right (by omega) (by simp; omega))
theorem Xcl (l:List UInt8):numOf (l.take 1)<256:=Xfr l 1
theorem Xl1 (l:List UInt8):numOf (l.take 2)<65536:=Xfr l 2
theorem Xl0 (l:List UInt8):numOf (l.take 4)<4294967296:=Xfr l 4
noncomputable def errM (e:Int):DV:=.tup [.agg [.int .u8 0,.int .u32 0,.int .u64 0,.int .u64 0],.int .i64 e]
noncomputable def okM (k z m t:Nat):DV:=.tup [.agg [.int .u8 (k:Int),.int .u32 (z:Int),.int .u64 (m:Int),.int .u64 (t:Int)],.int .i64 0]
noncomputable def Xk8 (k z m:Nat):Bool:=decide (k=1/\z<=2048∨k=2/\z=0)&&(!nanN m||decide (m=9221120237041090561))
noncomputable def Xfx (s:List UInt8):Bool:=Xk8 (numOf (s.take 1)) (numOf ((s.drop 1).take 4)) (numOf ((s.drop 5).take 8))
noncomputable def Zu (s:List UInt8):PD:=.br (decide (s.length<21)) (.v (errM 10)) (.br (decide (21<s.length)) (.v (errM 4))
  (.br (Xfx s) (.v (okM (numOf (s.take 1)) (numOf ((s.drop 1).take 4)) (numOf ((s.drop 5).take 8)) (numOf ((s.drop 13).take 8)))) (.v (errM 4))))
set_option maxRecDepth 10000 in
theorem Xre (s:List UInt8):Xu Xnj tab [132,133,134,136,104,140,141,142,143] 7 200 104 [.str s] =
    cond (decide ((↑s.length:Int)<(↑1:Int))) (some (.tup [.agg [.int .u8 0,.int .u32 0,.int .u64 0,.int .u64 0],.int .i64 10])) (cond (decide ((↑(List.length (List.drop 1 s)):Int)<(↑4:Int))) (some (.tup [.agg [.int .u8 0,.int .u32 0,.int .u64 0,.int .u64 0],.int .i64 10])) (cond (decide ((↑(List.length (List.drop 4 (List.drop 1 s))):Int)<(↑8:Int))) (some (.tup [.agg [.int .u8 0,.int .u32 0,.int .u64 0,.int .u64 0],.int .i64 10])) (cond (decide ((↑(List.length (List.drop 8 (List.drop 4 (List.drop 1 s)))):Int)<(↑8:Int))) (some (.tup [.agg [.int .u8 0,.int .u32 0,.int .u64 0,.int .u64 0],.int .i64 10])) (cond (!decide (List.drop 8 (List.drop 8 (List.drop 4 (List.drop 1 s)))=[])) (some (.tup [.agg [.int .u8 0,.int .u32 0,.int .u64 0,.int .u64 0],.int .i64 4])) (cond (!decide ((↑(numOf (List.take 1 s)):Int)=1)) (cond (!decide ((↑(numOf (List.take 1 s)):Int)=2)) (some (.tup [.agg [.int .u8 0,.int .u32 0,.int .u64 0,.int .u64 0],.int .i64 4])) (cond (decide (2048<(↑(numOf (List.take 4 (List.drop 1 s))):Int))) (some (.tup [.agg [.int .u8 0,.int .u32 0,.int .u64 0,.int .u64 0],.int .i64 4])) (cond (decide ((↑(numOf (List.take 1 s)):Int)=2)) (cond (decide (0<(↑(numOf (List.take 4 (List.drop 1 s))):Int))) (some (.tup [.agg [.int .u8 0,.int .u32 0,.int .u64 0,.int .u64 0],.int .i64 4])) (cond (nanN (numOf (List.take 8 (List.drop 4 (List.drop 1 s))))) (cond (!decide (9221120237041090561=(↑(numOf (List.take 8 (List.drop 4 (List.drop 1 s)))):Int))) (some (.tup [.agg [.int .u8 0,.int .u32 0,.int .u64 0,.int .u64 0],.int .i64 4])) (some (.tup [.agg [.int .u8 (↑(numOf (List.take 1 s)):Int),.int .u32 (↑(numOf (List.take 4 (List.drop 1 s))):Int),.int .u64 (↑(numOf (List.take 8 (List.drop 4 (List.drop 1 s)))):Int),.int .u64 (↑(numOf (List.take 8 (List.drop 8 (List.drop 4 (List.drop 1 s))))):Int)],.int .i64 0]))) (cond (!decide ((↑(numOf (List.take 8 (List.drop 4 (List.drop 1 s)))):Int)=(↑(numOf (List.take 8 (List.drop 4 (List.drop 1 s)))):Int))) (some (.tup [.agg [.int .u8 0,.int .u32 0,.int .u64 0,.int .u64 0],.int .i64 4])) (some (.tup [.agg [.int .u8 (↑(numOf (List.take 1 s)):Int),.int .u32 (↑(numOf (List.take 4 (List.drop 1 s))):Int),.int .u64 (↑(numOf (List.take 8 (List.drop 4 (List.drop 1 s)))):Int),.int .u64 (↑(numOf (List.take 8 (List.drop 8 (List.drop 4 (List.drop 1 s))))):Int)],.int .i64 0]))))) (cond (nanN (numOf (List.take 8 (List.drop 4 (List.drop 1 s))))) (cond (!decide (9221120237041090561=(↑(numOf (List.take 8 (List.drop 4 (List.drop 1 s)))):Int))) (some (.tup [.agg [.int .u8 0,.int .u32 0,.int .u64 0,.int .u64 0],.int .i64 4])) (some (.tup [.agg [.int .u8 (↑(numOf (List.take 1 s)):Int),.int .u32 (↑(numOf (List.take 4 (List.drop 1 s))):Int),.int .u64 (↑(numOf (List.take 8 (List.drop 4 (List.drop 1 s)))):Int),.int .u64 (↑(numOf (List.take 8 (List.drop 8 (List.drop 4 (List.drop 1 s))))):Int)],.int .i64 0]))) (cond (!decide ((↑(numOf (List.take 8 (List.drop 4 (List.drop 1 s)))):Int)=(↑(numOf (List.take 8 (List.drop 4 (List.drop 1 s)))):Int))) (some (.tup [.agg [.int .u8 0,.int .u32 0,.int .u64 0,.int .u64 0],.int .i64 4])) (some (.tup [.agg [.int .u8 (↑(numOf (List.take 1 s)):Int),.int .u32 (↑(numOf (List.take 4 (List.drop 1 s))):Int),.int .u64 (↑(numOf (List.take 8 (List.drop 4 (List.drop 1 s)))):Int),.int .u64 (↑(numOf (List.take 8 (List.drop 8 (List.drop 4 (List.drop 1 s))))):Int)],.int .i64 0]))))))) (cond (decide (2048<(↑(numOf (List.take 4 (List.drop 1 s))):Int))) (some (.tup [.agg [.int .u8 0,.int .u32 0,.int .u64 0,.int .u64 0],.int .i64 4])) (cond (decide ((↑(numOf (List.take 1 s)):Int)=2)) (cond (decide (0<(↑(numOf (List.take 4 (List.drop 1 s))):Int))) (some (.tup [.agg [.int .u8 0,.int .u32 0,.int .u64 0,.int .u64 0],.int .i64 4])) (cond (nanN (numOf (List.take 8 (List.drop 4 (List.drop 1 s))))) (cond (!decide (9221120237041090561=(↑(numOf (List.take 8 (List.drop 4 (List.drop 1 s)))):Int))) (some (.tup [.agg [.int .u8 0,.int .u32 0,.int .u64 0,.int .u64 0],.int .i64 4])) (some (.tup [.agg [.int .u8 (↑(numOf (List.take 1 s)):Int),.int .u32 (↑(numOf (List.take 4 (List.drop 1 s))):Int),.int .u64 (↑(numOf (List.take 8 (List.drop 4 (List.drop 1 s)))):Int),.int .u64 (↑(numOf (List.take 8 (List.drop 8 (List.drop 4 (List.drop 1 s))))):Int)],.int .i64 0]))) (cond (!decide ((↑(numOf (List.take 8 (List.drop 4 (List.drop 1 s)))):Int)=(↑(numOf (List.take 8 (List.drop 4 (List.drop 1 s)))):Int))) (some (.tup [.agg [.int .u8 0,.int .u32 0,.int .u64 0,.int .u64 0],.int .i64 4])) (some (.tup [.agg [.int .u8 (↑(numOf (List.take 1 s)):Int),.int .u32 (↑(numOf (List.take 4 (List.drop 1 s))):Int),.int .u64 (↑(numOf (List.take 8 (List.drop 4 (List.drop 1 s)))):Int),.int .u64 (↑(numOf (List.take 8 (List.drop 8 (List.drop 4 (List.drop 1 s))))):Int)],.int .i64 0]))))) (cond (nanN (numOf (List.take 8 (List.drop 4 (List.drop 1 s))))) (cond (!decide (9221120237041090561=(↑(numOf (List.take 8 (List.drop 4 (List.drop 1 s)))):Int))) (some (.tup [.agg [.int .u8 0,.int .u32 0,.int .u64 0,.int .u64 0],.int .i64 4])) (some (.tup [.agg [.int .u8 (↑(numOf (List.take 1 s)):Int),.int .u32 (↑(numOf (List.take 4 (List.drop 1 s))):Int),.int .u64 (↑(numOf (List.take 8 (List.drop 4 (List.drop 1 s)))):Int),.int .u64 (↑(numOf (List.take 8 (List.drop 8 (List.drop 4 (List.drop 1 s))))):Int)],.int .i64 0]))) (cond (!decide ((↑(numOf (List.take 8 (List.drop 4 (List.drop 1 s)))):Int)=(↑(numOf (List.take 8 (List.drop 4 (List.drop 1 s)))):Int))) (some (.tup [.agg [.int .u8 0,.int .u32 0,.int .u64 0,.int .u64 0],.int .i64 4])) (some (.tup [.agg [.int .u8 (↑(numOf (List.take 1 s)):Int),.int .u32 (↑(numOf (List.take 4 (List.drop 1 s))):Int),.int .u64 (↑(numOf (List.take 8 (List.drop 4 (List.drop 1 s)))):Int),.int .u64 (↑(numOf (List.take 8 (List.drop 8 (List.drop 4 (List.drop 1 s))))):Int)],.int .i64 0]))))))))))):=by kernel_rfl
theorem XuY (s:List UInt8):Xu Xnj tab [132,133,134,136,104,140,141,142,143] 7 200 104 [.str s]=some (Zu s).val:=by
  rw[Xre];unfold Zu Xfx Xk8 errM okM;simp only[Xgs,pd_v,List.drop_drop,Nat.reduceAdd,List.length_drop,XaT,Xdx,Xcq,YT,Xcr,List.drop_eq_nil_iff,if_true,if_false]
  cases nanN (numOf ((s.drop 5).take 8))<;>simp only[cond_true,cond_false]
  all_goals repeat' (first | with_reducible rfl | (refine Xg5 (fun _=>?_) (fun _=>?_)) | (refine Xg4 (fun _=>?_) (fun _=>?_)) | (exfalso; omega))
theorem Xoq (s:List UInt8):wf 0 (toV (Zu s).val):=by
  unfold Zu;simp only[PD.val_br,PD.val_v,XaT,Xdx,Xcq,YT]
  repeat' first | exact⟨⟨trivial,trivial,trivial,trivial,trivial⟩,trivial,trivial⟩ | split | (cases Xfx s)
theorem XaR (s:List UInt8):ofVs (toVs [.str s])=some [.str s]:=by
  show (match ofV (sv s),ofVs [] with | some x,some l=>some (x::l) | _,_=>.none)=_
  rw[WE]; rfl
noncomputable def g74:List DV->Option PD:=fun l=>match l with
  |[.str s]=>some (Zu s)
  |_=>none
theorem Xn0:∀ l d,g74 l=some d->d.ok=true->PlainCall Tryz.prog [] 104 (toVs l) (toV d.val)/\ofVs (toVs l)=some l:=by
  intro l d h ho;unfold g74 at h;split at h
  . rename_i s
    cases h
    exact⟨XJ _ XN Xo (by kernel_rfl) (XuY s) ⟨trivial,trivial⟩ (Xoq s),XaR s⟩
  . cases h
noncomputable def XiH:Laws Tryz.prog:=((Xnj.add 104 g74 Xn0))
noncomputable def errC (e:Int):DV:=.tup [.agg [.int .u8 0,.int .u64 0,.int .u8 0,.int .u64 0],.int .i64 e]
noncomputable def okC (w n op by_:Int):DV:=.tup [.agg [.int .u8 w,.int .u64 n,.int .u8 op,.int .u64 by_],.int .i64 0]
noncomputable def Yk (s:List UInt8):PD:=.br (decide (s.length=0)) (.v (errC 10)) (.br (decide (numOf (s.take 1)<1)) (.v (errC 4)) (.br (decide (4<numOf (s.take 1))) (.v (errC 4))
  (.br (decide (numOf (s.take 1)=3))
    (.br (decide (s.length<10)) (.v (errC 10)) (.br (decide (10<s.length)) (.v (errC 4)) (.br (decide (1<=numOf ((s.drop 1).take 1))) (.br (decide (numOf ((s.drop 1).take 1)<=5)) (.v (okC (numOf (s.take 1)) 0 (numOf ((s.drop 1).take 1)) (numOf ((s.drop 2).take 8)))) (.v (errC 4))) (.v (errC 4)))))
    (.br (decide (numOf (s.take 1)=4))
      (.br (decide (s.length<9)) (.v (errC 10)) (.br (decide (9<s.length)) (.v (errC 4)) (.v (okC (numOf (s.take 1)) (numOf ((s.drop 1).take 8)) 0 0))))
      (.br (decide (s.length<5)) (.v (errC 10)) (.br (decide (5<s.length)) (.v (errC 4)) (.br (decide (numOf ((s.drop 1).take 4)<=2048)) (.v (okC (numOf (s.take 1)) (numOf ((s.drop 1).take 4)) 0 0)) (.v (errC 4)))))))))
theorem Xe4 (s:List UInt8):(s=[])=(s.length=0):=by simp
set_option maxRecDepth 10000 in
theorem Xrd (s:List UInt8):Xu XiH tab [132,133,134,136,105,140,141,142,144] 7 200 105 [.str s] =
    cond (decide (s=[])) (some (.tup [.agg [.int .u8 0,.int .u64 0,.int .u8 0,.int .u64 0],.int .i64 10])) (cond (decide ((↑s.length:Int)<(↑1:Int))) (some (.tup [.agg [.int .u8 0,.int .u64 0,.int .u8 0,.int .u64 0],.int .i64 4])) (cond (decide ((↑(numOf (List.take 1 s)):Int)=1)) (cond (decide ((↑(List.length (List.drop 1 s)):Int)<(↑4:Int))) (some (.tup [.agg [.int .u8 0,.int .u64 0,.int .u8 0,.int .u64 0],.int .i64 10])) (cond (!decide (List.drop 4 (List.drop 1 s)=[])) (some (.tup [.agg [.int .u8 0,.int .u64 0,.int .u8 0,.int .u64 0],.int .i64 4])) (cond (decide ((↑(numOf (List.take 1 s)):Int)=1)) (cond (decide (2048<IntKind.wrap .u64 (↑(numOf (List.take 4 (List.drop 1 s))):Int))) (some (.tup [.agg [.int .u8 0,.int .u64 0,.int .u8 0,.int .u64 0],.int .i64 4])) (some (.tup [.agg [.int .u8 (↑(numOf (List.take 1 s)):Int),.int .u64 (IntKind.wrap .u64 (↑(numOf (List.take 4 (List.drop 1 s))):Int)),.int .u8 0,.int .u64 0],.int .i64 0]))) (cond (decide ((↑(numOf (List.take 1 s)):Int)=2)) (cond (decide (2048<IntKind.wrap .u64 (↑(numOf (List.take 4 (List.drop 1 s))):Int))) (some (.tup [.agg [.int .u8 0,.int .u64 0,.int .u8 0,.int .u64 0],.int .i64 4])) (some (.tup [.agg [.int .u8 (↑(numOf (List.take 1 s)):Int),.int .u64 (IntKind.wrap .u64 (↑(numOf (List.take 4 (List.drop 1 s))):Int)),.int .u8 0,.int .u64 0],.int .i64 0]))) (cond (decide ((↑(numOf (List.take 1 s)):Int)=4)) (some (.tup [.agg [.int .u8 (↑(numOf (List.take 1 s)):Int),.int .u64 (IntKind.wrap .u64 (↑(numOf (List.take 4 (List.drop 1 s))):Int)),.int .u8 0,.int .u64 0],.int .i64 0])) (cond (decide ((↑(numOf (List.take 1 s)):Int)=3)) (cond (decide (IntKind.wrap .u64 (↑(numOf (List.take 4 (List.drop 1 s))):Int)=0)) (some (.tup [.agg [.int .u8 0,.int .u64 0,.int .u8 0,.int .u64 0],.int .i64 4])) (some (.tup [.agg [.int .u8 0,.int .u64 0,.int .u8 0,.int .u64 0],.int .i64 4]))) (some (.tup [.agg [.int .u8 0,.int .u64 0,.int .u8 0,.int .u64 0],.int .i64 4])))))))) (cond (decide ((↑(numOf (List.take 1 s)):Int)=2)) (cond (decide ((↑(List.length (List.drop 1 s)):Int)<(↑4:Int))) (some (.tup [.agg [.int .u8 0,.int .u64 0,.int .u8 0,.int .u64 0],.int .i64 10])) (cond (!decide (List.drop 4 (List.drop 1 s)=[])) (some (.tup [.agg [.int .u8 0,.int .u64 0,.int .u8 0,.int .u64 0],.int .i64 4])) (cond (decide ((↑(numOf (List.take 1 s)):Int)=1)) (cond (decide (2048<IntKind.wrap .u64 (↑(numOf (List.take 4 (List.drop 1 s))):Int))) (some (.tup [.agg [.int .u8 0,.int .u64 0,.int .u8 0,.int .u64 0],.int .i64 4])) (some (.tup [.agg [.int .u8 (↑(numOf (List.take 1 s)):Int),.int .u64 (IntKind.wrap .u64 (↑(numOf (List.take 4 (List.drop 1 s))):Int)),.int .u8 0,.int .u64 0],.int .i64 0]))) (cond (decide ((↑(numOf (List.take 1 s)):Int)=2)) (cond (decide (2048<IntKind.wrap .u64 (↑(numOf (List.take 4 (List.drop 1 s))):Int))) (some (.tup [.agg [.int .u8 0,.int .u64 0,.int .u8 0,.int .u64 0],.int .i64 4])) (some (.tup [.agg [.int .u8 (↑(numOf (List.take 1 s)):Int),.int .u64 (IntKind.wrap .u64 (↑(numOf (List.take 4 (List.drop 1 s))):Int)),.int .u8 0,.int .u64 0],.int .i64 0]))) (cond (decide ((↑(numOf (List.take 1 s)):Int)=4)) (some (.tup [.agg [.int .u8 (↑(numOf (List.take 1 s)):Int),.int .u64 (IntKind.wrap .u64 (↑(numOf (List.take 4 (List.drop 1 s))):Int)),.int .u8 0,.int .u64 0],.int .i64 0])) (cond (decide ((↑(numOf (List.take 1 s)):Int)=3)) (cond (decide (IntKind.wrap .u64 (↑(numOf (List.take 4 (List.drop 1 s))):Int)=0)) (some (.tup [.agg [.int .u8 0,.int .u64 0,.int .u8 0,.int .u64 0],.int .i64 4])) (some (.tup [.agg [.int .u8 0,.int .u64 0,.int .u8 0,.int .u64 0],.int .i64 4]))) (some (.tup [.agg [.int .u8 0,.int .u64 0,.int .u8 0,.int .u64 0],.int .i64 4])))))))) (cond (decide ((↑(numOf (List.take 1 s)):Int)=4)) (cond (decide ((↑(List.length (List.drop 1 s)):Int)<(↑8:Int))) (some (.tup [.agg [.int .u8 0,.int .u64 0,.int .u8 0,.int .u64 0],.int .i64 10])) (cond (!decide (List.drop 8 (List.drop 1 s)=[])) (some (.tup [.agg [.int .u8 0,.int .u64 0,.int .u8 0,.int .u64 0],.int .i64 4])) (cond (decide ((↑(numOf (List.take 1 s)):Int)=1)) (cond (decide (2048<(↑(numOf (List.take 8 (List.drop 1 s))):Int))) (some (.tup [.agg [.int .u8 0,.int .u64 0,.int .u8 0,.int .u64 0],.int .i64 4])) (some (.tup [.agg [.int .u8 (↑(numOf (List.take 1 s)):Int),.int .u64 (↑(numOf (List.take 8 (List.drop 1 s))):Int),.int .u8 0,.int .u64 0],.int .i64 0]))) (cond (decide ((↑(numOf (List.take 1 s)):Int)=2)) (cond (decide (2048<(↑(numOf (List.take 8 (List.drop 1 s))):Int))) (some (.tup [.agg [.int .u8 0,.int .u64 0,.int .u8 0,.int .u64 0],.int .i64 4])) (some (.tup [.agg [.int .u8 (↑(numOf (List.take 1 s)):Int),.int .u64 (↑(numOf (List.take 8 (List.drop 1 s))):Int),.int .u8 0,.int .u64 0],.int .i64 0]))) (cond (decide ((↑(numOf (List.take 1 s)):Int)=4)) (some (.tup [.agg [.int .u8 (↑(numOf (List.take 1 s)):Int),.int .u64 (↑(numOf (List.take 8 (List.drop 1 s))):Int),.int .u8 0,.int .u64 0],.int .i64 0])) (cond (decide ((↑(numOf (List.take 1 s)):Int)=3)) (cond (decide ((↑(numOf (List.take 8 (List.drop 1 s))):Int)=0)) (some (.tup [.agg [.int .u8 0,.int .u64 0,.int .u8 0,.int .u64 0],.int .i64 4])) (some (.tup [.agg [.int .u8 0,.int .u64 0,.int .u8 0,.int .u64 0],.int .i64 4]))) (some (.tup [.agg [.int .u8 0,.int .u64 0,.int .u8 0,.int .u64 0],.int .i64 4])))))))) (cond (decide ((↑(numOf (List.take 1 s)):Int)=3)) (cond (decide ((↑(List.length (List.drop 1 s)):Int)<(↑1:Int))) (some (.tup [.agg [.int .u8 0,.int .u64 0,.int .u8 0,.int .u64 0],.int .i64 10])) (cond (decide ((↑(List.length (List.drop 1 (List.drop 1 s))):Int)<(↑8:Int))) (some (.tup [.agg [.int .u8 0,.int .u64 0,.int .u8 0,.int .u64 0],.int .i64 10])) (cond (!decide (List.drop 8 (List.drop 1 (List.drop 1 s))=[])) (some (.tup [.agg [.int .u8 0,.int .u64 0,.int .u8 0,.int .u64 0],.int .i64 4])) (cond (decide ((↑(numOf (List.take 1 s)):Int)=1)) (cond (!(decide ((↑(numOf (List.take 1 (List.drop 1 s))):Int)=0)&&(decide ((↑(numOf (List.take 8 (List.drop 1 (List.drop 1 s)))):Int)=0)&&true)) != false) (some (.tup [.agg [.int .u8 0,.int .u64 0,.int .u8 0,.int .u64 0],.int .i64 4])) (some (.tup [.agg [.int .u8 (↑(numOf (List.take 1 s)):Int),.int .u64 0,.int .u8 (↑(numOf (List.take 1 (List.drop 1 s))):Int),.int .u64 (↑(numOf (List.take 8 (List.drop 1 (List.drop 1 s)))):Int)],.int .i64 0]))) (cond (decide ((↑(numOf (List.take 1 s)):Int)=2)) (cond (!(decide ((↑(numOf (List.take 1 (List.drop 1 s))):Int)=0)&&(decide ((↑(numOf (List.take 8 (List.drop 1 (List.drop 1 s)))):Int)=0)&&true)) != false) (some (.tup [.agg [.int .u8 0,.int .u64 0,.int .u8 0,.int .u64 0],.int .i64 4])) (some (.tup [.agg [.int .u8 (↑(numOf (List.take 1 s)):Int),.int .u64 0,.int .u8 (↑(numOf (List.take 1 (List.drop 1 s))):Int),.int .u64 (↑(numOf (List.take 8 (List.drop 1 (List.drop 1 s)))):Int)],.int .i64 0]))) (cond (decide ((↑(numOf (List.take 1 s)):Int)=4)) (cond (!(decide ((↑(numOf (List.take 1 (List.drop 1 s))):Int)=0)&&(decide ((↑(numOf (List.take 8 (List.drop 1 (List.drop 1 s)))):Int)=0)&&true)) != false) (some (.tup [.agg [.int .u8 0,.int .u64 0,.int .u8 0,.int .u64 0],.int .i64 4])) (some (.tup [.agg [.int .u8 (↑(numOf (List.take 1 s)):Int),.int .u64 0,.int .u8 (↑(numOf (List.take 1 (List.drop 1 s))):Int),.int .u64 (↑(numOf (List.take 8 (List.drop 1 (List.drop 1 s)))):Int)],.int .i64 0]))) (cond (decide ((↑(numOf (List.take 1 s)):Int)=3)) (cond (decide (1<=(↑(numOf (List.take 1 (List.drop 1 s))):Int))) (cond (!decide ((↑(numOf (List.take 1 (List.drop 1 s))):Int)<=5)) (some (.tup [.agg [.int .u8 0,.int .u64 0,.int .u8 0,.int .u64 0],.int .i64 4])) (some (.tup [.agg [.int .u8 (↑(numOf (List.take 1 s)):Int),.int .u64 0,.int .u8 (↑(numOf (List.take 1 (List.drop 1 s))):Int),.int .u64 (↑(numOf (List.take 8 (List.drop 1 (List.drop 1 s)))):Int)],.int .i64 0]))) (some (.tup [.agg [.int .u8 0,.int .u64 0,.int .u8 0,.int .u64 0],.int .i64 4]))) (some (.tup [.agg [.int .u8 0,.int .u64 0,.int .u8 0,.int .u64 0],.int .i64 4]))))))))) (some (.tup [.agg [.int .u8 0,.int .u64 0,.int .u8 0,.int .u64 0],.int .i64 4]))))))):=by kernel_rfl
theorem XuX (s:List UInt8):Xu XiH tab [132,133,134,136,105,140,141,142,144] 7 200 105 [.str s]=some (Yk s).val:=by
  rw[Xrd];unfold Yk errC okC;have b1:=Xcl s;have b2:=Xcl (s.drop 1);have b4:=Xl0 (s.drop 1);simp only[Xe4,Xgs,pd_v,List.drop_drop,Nat.reduceAdd,List.length_drop,XaT,Xdx,Xcq,YT,Xcr,List.drop_eq_nil_iff,if_true,if_false,cond_true,cond_false];rw[wrap_u64 (z:=(numOf ((s.drop 1).take 4):Int)) (by omega) (by omega)]
  repeat' (first | with_reducible rfl | (refine Xg5 (fun _=>?_) (fun _=>?_)) | (refine Xg4 (fun _=>?_) (fun _=>?_)) | (exfalso; omega))
theorem XkV (s:List UInt8):wf 0 (toV (Yk s).val):=by
  unfold Yk;simp only[PD.val_br,PD.val_v,YT]
  repeat' first | exact⟨⟨trivial,trivial,trivial,trivial,trivial⟩,trivial,trivial⟩ | split
noncomputable def Xhv:List DV->Option PD:=fun l=>match l with
  |[.str s]=>some (Yk s)
  |_=>none
theorem Xnz:∀ l d,Xhv l=some d->d.ok=true->PlainCall Tryz.prog [] 105 (toVs l) (toV d.val)/\ofVs (toVs l)=some l:=by
  intro l d h ho;unfold Xhv at h;split at h
  . rename_i s
    cases h
    exact⟨XJ _ XN Xo (by kernel_rfl) (XuX s) ⟨trivial,trivial⟩ (XkV s),XaR s⟩
  . cases h
noncomputable def Wp (s:List UInt8):Bool:=decide (0<s.length)&&(decide (s.length<=64)&&decide ((s.getD (s.length-1) 0).toNat ≠ 0))
noncomputable def XfQ (s:List UInt8):PD:=.br (Wp s) (.v (.int .i64 0)) (.v (.int .i64 4))
set_option maxRecDepth 10000 in
theorem XqZ (s:List UInt8):Xu XiH tab [128] 7 200 128 [.str s] =
    cond (decide (s=[])) (some (.int .i64 4)) (cond (decide (64<(↑s.length:Int))) (some (.int .i64 4)) (cond (decide (0<=IntKind.wrap .i64 ((↑s.length:Int)-1))&&decide (IntKind.wrap .i64 ((↑s.length:Int)-1)<(↑s.length:Int))) (cond (decide ((↑(UInt8.toNat (List.getD s (Int.toNat (IntKind.wrap .i64 ((↑s.length:Int)-1))) 0)):Int)=0)) (some (.int .i64 4)) (some (.int .i64 0))) none)):=by kernel_rfl
theorem XuT (s:List UInt8):Xu XiH tab [128] 7 200 128 [.str s]=some (XfQ s).val:=by
  rw[XqZ];unfold XfQ Wp;simp only[Xe4,Xgs,pd_v,XaT,YT]
  by_cases h:64<s.length
  . repeat' (first | with_reducible rfl | (refine Xg5 (fun _=>?_) (fun _=>?_)) | (refine Xg4 (fun _=>?_) (fun _=>?_)) | (exfalso; omega))
  . rw[wrap_i64 (by omega) (by omega),show ((s.length:Int)-1).toNat=s.length-1 by omega]
    repeat' (first | with_reducible rfl | (refine Xg5 (fun _=>?_) (fun _=>?_)) | (refine Xg4 (fun _=>?_) (fun _=>?_)) | (exfalso; omega))
theorem XlX (s:List UInt8):wf 0 (toV (XfQ s).val):=by
  unfold XfQ;simp only[PD.val]
  split<;>trivial
noncomputable def Xj9:List DV->Option PD:=fun l=>match l with
  |[.str s]=>some (XfQ s)
  |_=>none
theorem XsO:∀ l d,Xj9 l=some d->d.ok=true->PlainCall Tryz.prog [] 128 (toVs l) (toV d.val)/\ofVs (toVs l)=some l:=by
  intro l d h ho;unfold Xj9 at h;split at h
  . rename_i s
    cases h
    exact⟨XJ _ XN Xo (by kernel_rfl) (XuT s) ⟨trivial,trivial⟩ (XlX s),XaR s⟩
  . cases h
noncomputable def Xni:Laws Tryz.prog:=((((XiH.add 105 Xhv Xnz)).add 128 Xj9 XsO))
noncomputable def errP (e:Int):DV:=.tup [.agg [.bool false,.int .i64 0,.int .i64 0,.str []],.int .i64 e]
noncomputable def okP (c:Bool)(a n:Int)(t:List UInt8):DV:=.tup [.agg [.bool c,.int .i64 a,.int .i64 n,.str t],.int .i64 0]
noncomputable def YX (s:List UInt8):PD:=.br (decide (s.length=0)) (.v (errP 10)) (.br (decide (numOf (s.take 1)=2))
    (.br (decide (s.length<2)) (.v (errP 10)) (.br (decide (2<s.length)) (.v (errP 4)) (.br (decide (numOf ((s.drop 1).take 1)<64)) (.v (okP true 0 (numOf ((s.drop 1).take 1)) [])) (.v (errP 4)))))
    (.br (decide (numOf (s.take 1)=1))
      (.br (decide (s.length<4)) (.v (errP 10)) (.br (decide (s.length<4+numOf ((s.drop 2).take 2))) (.v (errP 10)) (.br (decide (4+numOf ((s.drop 2).take 2)<s.length)) (.v (errP 4))
        (.br (decide (1<=numOf ((s.drop 2).take 2))) (.br (decide (numOf ((s.drop 2).take 2)<=64)) (.br (decide (numOf ((s.drop 1).take 1)+numOf ((s.drop 2).take 2)<=64))
          (.v (okP false (numOf ((s.drop 1).take 1)) 0 ((s.drop 4).take (numOf ((s.drop 2).take 2))))) (.v (errP 4))) (.v (errP 4))) (.v (errP 4))))))
      (.v (errP 4))))
set_option maxRecDepth 10000 in
theorem Xrf (s:List UInt8):Xu Xni tab [132,133,135,134,136,160,102,137] 7 200 102 [.str s] =
    cond (decide ((↑s.length:Int)<(↑1:Int))) (some (.tup [.agg [.bool false,.int .i64 0,.int .i64 0,.str []],.int .i64 10])) (cond (decide ((↑(numOf (List.take 1 s)):Int)=2)) (cond (decide ((↑(List.length (List.drop 1 s)):Int)<(↑1:Int))) (some (.tup [.agg [.bool false,.int .i64 0,.int .i64 0,.str []],.int .i64 10])) (cond (!decide (List.drop 1 (List.drop 1 s)=[])) (some (.tup [.agg [.bool false,.int .i64 0,.int .i64 0,.str []],.int .i64 4])) (cond (decide (0<=IntKind.wrap .i64 (↑(numOf (List.take 1 (List.drop 1 s))):Int))) (cond (decide (IntKind.wrap .i64 (↑(numOf (List.take 1 (List.drop 1 s))):Int)<64)) (some (.tup [.agg [.bool true,.int .i64 0,.int .i64 (IntKind.wrap .i64 (↑(numOf (List.take 1 (List.drop 1 s))):Int)),.str []],.int .i64 0])) (some (.tup [.agg [.bool false,.int .i64 0,.int .i64 0,.str []],.int .i64 4]))) (some (.tup [.agg [.bool false,.int .i64 0,.int .i64 0,.str []],.int .i64 4]))))) (cond (decide ((↑(numOf (List.take 1 s)):Int)=1)) (cond (decide ((↑(List.length (List.drop 1 s)):Int)<(↑1:Int))) (some (.tup [.agg [.bool false,.int .i64 0,.int .i64 0,.str []],.int .i64 10])) (cond (decide ((↑(List.length (List.drop 1 (List.drop 1 s))):Int)<(↑2:Int))) (some (.tup [.agg [.bool false,.int .i64 0,.int .i64 0,.str []],.int .i64 10])) (cond (decide (IntKind.wrap .i64 (↑(numOf (List.take 2 (List.drop 1 (List.drop 1 s)))):Int)<=0)) (cond (!decide (List.drop 2 (List.drop 1 (List.drop 1 s))=[])) (some (.tup [.agg [.bool false,.int .i64 0,.int .i64 0,.str []],.int .i64 4])) (some (.tup [.agg [.bool false,.int .i64 0,.int .i64 0,.str []],.int .i64 4]))) (cond (decide ((↑(List.length (List.drop 2 (List.drop 1 (List.drop 1 s)))):Int)<IntKind.wrap .i64 (↑(numOf (List.take 2 (List.drop 1 (List.drop 1 s)))):Int))) (some (.tup [.agg [.bool false,.int .i64 0,.int .i64 0,.str []],.int .i64 10])) (cond (!decide (List.drop (Int.toNat (IntKind.wrap .i64 (↑(numOf (List.take 2 (List.drop 1 (List.drop 1 s)))):Int))) (List.drop 2 (List.drop 1 (List.drop 1 s)))=[])) (some (.tup [.agg [.bool false,.int .i64 0,.int .i64 0,.str []],.int .i64 4])) (cond (!decide (List.take (Int.toNat (IntKind.wrap .i64 (↑(numOf (List.take 2 (List.drop 1 (List.drop 1 s)))):Int))) (List.drop 2 (List.drop 1 (List.drop 1 s)))=[])) (cond (decide ((↑(List.length (List.take (Int.toNat (IntKind.wrap .i64 (↑(numOf (List.take 2 (List.drop 1 (List.drop 1 s)))):Int))) (List.drop 2 (List.drop 1 (List.drop 1 s))))):Int)<=64)) (cond (decide (0<=IntKind.wrap .i64 (↑(numOf (List.take 1 (List.drop 1 s))):Int))) (cond (decide (IntKind.wrap .i64 (↑(numOf (List.take 1 (List.drop 1 s))):Int)<=IntKind.wrap .i64 (64-(↑(List.length (List.take (Int.toNat (IntKind.wrap .i64 (↑(numOf (List.take 2 (List.drop 1 (List.drop 1 s)))):Int))) (List.drop 2 (List.drop 1 (List.drop 1 s))))):Int)))) (some (.tup [.agg [.bool false,.int .i64 (IntKind.wrap .i64 (↑(numOf (List.take 1 (List.drop 1 s))):Int)),.int .i64 0,.str (List.take (Int.toNat (IntKind.wrap .i64 (↑(numOf (List.take 2 (List.drop 1 (List.drop 1 s)))):Int))) (List.drop 2 (List.drop 1 (List.drop 1 s))))],.int .i64 0])) (some (.tup [.agg [.bool false,.int .i64 0,.int .i64 0,.str []],.int .i64 4]))) (some (.tup [.agg [.bool false,.int .i64 0,.int .i64 0,.str []],.int .i64 4]))) (some (.tup [.agg [.bool false,.int .i64 0,.int .i64 0,.str []],.int .i64 4]))) (some (.tup [.agg [.bool false,.int .i64 0,.int .i64 0,.str []],.int .i64 4])))))))) (some (.tup [.agg [.bool false,.int .i64 0,.int .i64 0,.str []],.int .i64 4])))):=by kernel_rfl
theorem XuZ (s:List UInt8):Xu Xni tab [132,133,135,134,136,160,102,137] 7 200 102 [.str s]=some (YX s).val:=by
  rw[Xrf];unfold YX errP okP;have b1:=Xcl s;have b2:=Xcl (s.drop 1);have b4:=Xl1 (s.drop 2);simp only[List.drop_drop,Nat.reduceAdd];rw[wrap_i64 (z:=(numOf ((s.drop 2).take 2):Int)) (by omega) (by omega),wrap_i64 (z:=(numOf ((s.drop 1).take 1):Int)) (by omega) (by omega)]
  simp only[Xe4,Xgs,pd_v,List.drop_drop,Nat.reduceAdd,List.length_drop,List.length_take,XaT,Xdx,Xcq,YT,Xcr,if_true,if_false,cond_true,cond_false,Int.toNat_natCast];rw[wrap_i64 (z:=64-((min (numOf ((s.drop 2).take 2)) (s.length-4):Nat):Int)) (by omega) (by omega)]
  repeat' (first | with_reducible rfl | (refine Xg5 (fun _=>?_) (fun _=>?_)) | (refine Xg4 (fun _=>?_) (fun _=>?_)) | (exfalso; omega))
theorem XlV (s:List UInt8):wf 0 (toV (YX s).val):=by
  unfold YX;simp only[PD.val_br,PD.val_v,YT]
  repeat' first | exact⟨⟨trivial,trivial,trivial,trivial,trivial⟩,trivial,trivial⟩ | split
noncomputable def Xj6:List DV->Option PD:=fun l=>match l with
  |[.str s]=>some (YX s)
  |_=>none
theorem Xn1:∀ l d,Xj6 l=some d->d.ok=true->PlainCall Tryz.prog [] 102 (toVs l) (toV d.val)/\ofVs (toVs l)=some l:=by
  intro l d h ho;unfold Xj6 at h;split at h
  . rename_i s
    cases h
    exact⟨XJ _ XN Xo (by kernel_rfl) (XuZ s) ⟨trivial,trivial⟩ (XlV s),XaR s⟩
  . cases h
noncomputable def XaO:Laws Tryz.prog:=((Xni.add 102 Xj6 Xn1))
noncomputable def Xvs:DV->Bool
  | .tup [_,.int _ e]=>decide (e=0)
  |_=>false
noncomputable def fine:PD->Bool
  | .v x=>Xvs x
  | .br b t f=>cond b (fine t) (fine f)
  | .need _ t=>fine t
theorem Xgi (b x y:Bool):some (DV.bool (cond b x y))=cond b (some (.bool x)) (some (.bool y)):=by cases b<;>rfl
theorem XhV (b:Bool)(t f:PD):some (DV.bool (fine (.br b t f)))=cond b (some (.bool (fine t))) (some (.bool (fine f))):=Xgi _ _ _
theorem Xrr (b:Bool):cond b (some (DV.bool true)) (some (.bool false))=some (.bool b):=by cases b<;>rfl
theorem Xvw (k s:List UInt8):ofVs (toVs [.str k,.str s])=some [.str k,.str s]:=by
  show (match ofV (sv k),(match ofV (sv s),ofVs [] with | some x,some l=>some (x::l) | _,_=>.none) with | some x,some l=>some (x::l) | _,_=>.none)=_
  rw[WE,WE]; rfl
set_option maxRecDepth 10000 in
theorem Xrc (s:List UInt8):Xu XaO tab [125] 7 200 125 [.str s] =
    cond (decide (List.length s<21)) (some (.bool false)) (cond (decide (21<List.length s)) (some (.bool false)) (cond (Xfx s) (some (.bool true)) (some (.bool false)))):=by kernel_rfl
theorem XuW (s:List UInt8):Xu XaO tab [125] 7 200 125 [.str s]=some (.bool (fine (Zu s))):=by
  rw[Xrc];unfold Zu; simp only[XhV]; rfl
set_option maxRecDepth 10000 in
theorem Xrb (s:List UInt8):Xu XaO tab [126] 7 200 126 [.str s] =
    cond (decide (List.length s=0)) (some (.bool false)) (cond (decide (numOf (List.take 1 s)<1)) (some (.bool false)) (cond (decide (4<numOf (List.take 1 s))) (some (.bool false)) (cond (decide (numOf (List.take 1 s)=3)) (cond (decide (List.length s<10)) (some (.bool false)) (cond (decide (10<List.length s)) (some (.bool false)) (cond (decide (1<=numOf (List.take 1 (List.drop 1 s)))) (cond (decide (numOf (List.take 1 (List.drop 1 s))<=5)) (some (.bool true)) (some (.bool false))) (some (.bool false))))) (cond (decide (numOf (List.take 1 s)=4)) (cond (decide (List.length s<9)) (some (.bool false)) (cond (decide (9<List.length s)) (some (.bool false)) (some (.bool true)))) (cond (decide (List.length s<5)) (some (.bool false)) (cond (decide (5<List.length s)) (some (.bool false)) (cond (decide (numOf (List.take 4 (List.drop 1 s))<=2048)) (some (.bool true)) (some (.bool false))))))))):=by kernel_rfl
theorem XuV (s:List UInt8):Xu XaO tab [126] 7 200 126 [.str s]=some (.bool (fine (Yk s))):=by
  rw[Xrb];unfold Yk; simp only[XhV]; rfl
set_option maxRecDepth 10000 in
theorem Xra (s:List UInt8):Xu XaO tab [127] 7 200 127 [.str s] =
    cond (Wp s) (some (.bool true)) (some (.bool false)):=by kernel_rfl
theorem XuU (s:List UInt8):Xu XaO tab [127] 7 200 127 [.str s]=some (.bool (Wp s)):=by
  rw[Xra];exact Xrr _
set_option maxRecDepth 10000 in
theorem XqY (s:List UInt8):Xu XaO tab [129] 7 200 129 [.str s] =
    cond (decide (List.length s=0)) (some (.bool false)) (cond (decide (numOf (List.take 1 s)=2)) (cond (decide (List.length s<2)) (some (.bool false)) (cond (decide (2<List.length s)) (some (.bool false)) (cond (decide (numOf (List.take 1 (List.drop 1 s))<64)) (some (.bool true)) (some (.bool false))))) (cond (decide (numOf (List.take 1 s)=1)) (cond (decide (List.length s<4)) (some (.bool false)) (cond (decide (List.length s<4+numOf (List.take 2 (List.drop 2 s)))) (some (.bool false)) (cond (decide (4+numOf (List.take 2 (List.drop 2 s))<List.length s)) (some (.bool false)) (cond (decide (1<=numOf (List.take 2 (List.drop 2 s)))) (cond (decide (numOf (List.take 2 (List.drop 2 s))<=64)) (cond (decide (numOf (List.take 1 (List.drop 1 s))+numOf (List.take 2 (List.drop 2 s))<=64)) (some (.bool true)) (some (.bool false))) (some (.bool false))) (some (.bool false)))))) (some (.bool false)))):=by kernel_rfl
theorem XuS (s:List UInt8):Xu XaO tab [129] 7 200 129 [.str s]=some (.bool (fine (YX s))):=by
  rw[XqY];unfold YX; simp only[XhV]; rfl
set_option maxRecDepth 10000 in
theorem XqX (s:List UInt8):Xu XaO tab [130] 7 200 130 [.str s] =
    some (.bool (decide ((↑s.length:Int)<=64))):=by kernel_rfl
theorem XuR (s:List UInt8):Xu XaO tab [130] 7 200 130 [.str s]=some (.bool (decide ((↑s.length:Int)<=64))):=by
  rw[XqX]
  skip
set_option maxRecDepth 10000 in
theorem XqW (s:List UInt8):Xu XaO tab [131] 7 200 131 [.str s] =
    some (.bool false):=by kernel_rfl
theorem XuQ (s:List UInt8):Xu XaO tab [131] 7 200 131 [.str s]=some (.bool (false)):=by
  rw[XqW]
  skip
noncomputable def g90:List DV->Option PD:=fun l=>match l with
  |[.str s]=>some (.v (.bool (fine (Zu s))))
  |_=>none
theorem XsR:∀ l d,g90 l=some d->d.ok=true->PlainCall Tryz.prog [] 125 (toVs l) (toV d.val)/\ofVs (toVs l)=some l:=by
  intro l d h ho;unfold g90 at h;split at h
  . rename_i s
    cases h
    exact⟨XJ _ XN Xo (by kernel_rfl) (XuW s) ⟨trivial,trivial⟩ trivial,XaR s⟩
  . cases h
noncomputable def g91:List DV->Option PD:=fun l=>match l with
  |[.str s]=>some (.v (.bool (fine (Yk s))))
  |_=>none
theorem XsQ:∀ l d,g91 l=some d->d.ok=true->PlainCall Tryz.prog [] 126 (toVs l) (toV d.val)/\ofVs (toVs l)=some l:=by
  intro l d h ho;unfold g91 at h;split at h
  . rename_i s
    cases h
    exact⟨XJ _ XN Xo (by kernel_rfl) (XuV s) ⟨trivial,trivial⟩ trivial,XaR s⟩
  . cases h
noncomputable def g92:List DV->Option PD:=fun l=>match l with
  |[.str s]=>some (.v (.bool (Wp s)))
  |_=>none
theorem XsP:∀ l d,g92 l=some d->d.ok=true->PlainCall Tryz.prog [] 127 (toVs l) (toV d.val)/\ofVs (toVs l)=some l:=by
  intro l d h ho;unfold g92 at h;split at h
  . rename_i s
    cases h
    exact⟨XJ _ XN Xo (by kernel_rfl) (XuU s) ⟨trivial,trivial⟩ trivial,XaR s⟩
  . cases h
noncomputable def g94:List DV->Option PD:=fun l=>match l with
  |[.str s]=>some (.v (.bool (fine (YX s))))
  |_=>none
theorem XsN:∀ l d,g94 l=some d->d.ok=true->PlainCall Tryz.prog [] 129 (toVs l) (toV d.val)/\ofVs (toVs l)=some l:=by
  intro l d h ho;unfold g94 at h;split at h
  . rename_i s
    cases h
    exact⟨XJ _ XN Xo (by kernel_rfl) (XuS s) ⟨trivial,trivial⟩ trivial,XaR s⟩
  . cases h
noncomputable def g95:List DV->Option PD:=fun l=>match l with
  |[.str s]=>some (.v (.bool (decide ((↑s.length:Int)<=64))))
  |_=>none
theorem XsM:∀ l d,g95 l=some d->d.ok=true->PlainCall Tryz.prog [] 130 (toVs l) (toV d.val)/\ofVs (toVs l)=some l:=by
  intro l d h ho;unfold g95 at h;split at h
  . rename_i s
    cases h
    exact⟨XJ _ XN Xo (by kernel_rfl) (XuR s) ⟨trivial,trivial⟩ trivial,XaR s⟩
  . cases h
noncomputable def g96:List DV->Option PD:=fun l=>match l with
  |[.str s]=>some (.v (.bool (false)))
  |_=>none
theorem XsL:∀ l d,g96 l=some d->d.ok=true->PlainCall Tryz.prog [] 131 (toVs l) (toV d.val)/\ofVs (toVs l)=some l:=by
  intro l d h ho;unfold g96 at h;split at h
  . rename_i s
    cases h
    exact⟨XJ _ XN Xo (by kernel_rfl) (XuQ s) ⟨trivial,trivial⟩ trivial,XaR s⟩
  . cases h
noncomputable def Xgf (k s:List UInt8):Bool:=cond (decide ((↑(UInt8.toNat (List.getD k 0 0)):Int)=109)) (fine (Zu s)) (cond (decide ((↑(UInt8.toNat (List.getD k 0 0)):Int)=100)) (cond (Wp s) true false) (decide ((↑s.length:Int)<=64)))
noncomputable def Xqy (k s:List UInt8):Bool:=cond (decide ((↑(UInt8.toNat (List.getD k 0 0)):Int)=109)) (fine (Yk s)) (cond (decide ((↑(UInt8.toNat (List.getD k 0 0)):Int)=100)) (fine (YX s)) false)
noncomputable def Xnh:Laws Tryz.prog:=((((((((XaO.add 125 g90 XsR).add 126 g91 XsQ).add 127 g92 XsP).add 129 g94 XsN).add 130 g95 XsM).add 131 g96 XsL)))
theorem Xf1:∀ a b:List UInt8,(!(Op.bytesLess a b||decide (a=b)))=Op.bytesLess b a
  |[],[]=>rfl
  |[],b::y=>by simp[Op.bytesLess]
  |a::x,[]=>by simp[Op.bytesLess]
  |a::x,b::y=>by
    have ih:=Xf1 x y;simp only[Op.bytesLess]
    rcases Nat.lt_trichotomy a.toNat b.toNat with h | h | h
    . have h1:a<b:=h
      have h2:¬ b<a:=fun h'=>by have:b.toNat<a.toNat:=h'; omega
      have h3:a ≠ b:=fun e=>by subst e; omega
      have h4:b ≠ a:=fun e=>h3 e.symm
      simp[h1,h2,h4]
    . have e:a=b:=UInt8.toNat_inj.1 h
      subst e
      have h2:¬ a<a:=fun h'=>by have:a.toNat<a.toNat:=h'; omega
      simp only[h2,decide_false,Bool.false_or,beq_self_eq_true,Bool.true_and,List.cons.injEq,true_and];exact ih
    . have h1:b<a:=h
      have h2:¬ a<b:=fun h'=>by have:a.toNat<b.toNat:=h'; omega
      have h3:a ≠ b:=fun e=>by subst e; omega
      simp[h1,h2,h3]
theorem Xqh (b:Bool):cond b true false=b:=by cases b<;>rfl
noncomputable def msgV (op:Int)(k t v:List UInt8):DV:=.agg [.int .i64 op,.str k,.str t,.str v]
noncomputable def mayB (op:Int)(k t v:List UInt8):Bool:=cond (decide (k.length<1)) false (cond (decide (108<k.length)) false
  (cond (decide (op=3)) (cond (decide (v.length=0)) (cond (decide (t.length=0)) false (cond (decide (t.length<=108)) (Op.bytesLess k t) false)) false)
    (cond (decide (t.length=0)) (cond (decide (op=1)) (Xgf k v) (cond (decide (op=4)) (Xqy k v) (cond (decide (op=2)) (decide (v.length=0)) false))) false)))
theorem Xh1 (op:Int)(k t v:List UInt8):ofVs (toVs [.agg [.int .i64 op,.str k,.str t,.str v]])=some [.agg [.int .i64 op,.str k,.str t,.str v]]:=by
  have e:ofVs [sv k,sv t,sv v]=some [.str k,.str t,.str v]:=by
    show (match ofV (sv k),(match ofV (sv t),(match ofV (sv v),ofVs [] with | some x,some l=>some (x::l) | _,_=>.none) with | some x,some l=>some (x::l) | _,_=>.none) with | some x,some l=>some (x::l) | _,_=>.none)=_
    rw[WE,WE,WE]; rfl
  show (match (match (match ofV (.int .i64 op),ofVs [sv k,sv t,sv v] with | some x,some l=>some (x::l) | _,_=>.none) with | some r=>some (DV.agg r) | .none=>.none),ofVs [] with | some x,some l=>some (x::l) | _,_=>.none)=_
  rw[e]; rfl
set_option maxRecDepth 10000 in
theorem Xrh (op:Int)(k t v:List UInt8):Xu Xnh tab [76,100,101] 7 200 76 [.agg [.int .i64 op,.str k,.str t,.str v]] =
    cond (!decide (k=[])) (cond (!decide ((↑k.length:Int)<=108)) (some (.bool false)) (cond (true&&decide (0<(↑k.length:Int))) (cond (decide ((↑(UInt8.toNat (List.getD k 0 0)):Int)=109)) (cond (decide (op=1)) (cond (decide (t=[])) (some (.bool (fine (Zu v)))) (some (.bool false))) (cond (decide (op=4)) (cond (decide (t=[])) (some (.bool (fine (Yk v)))) (some (.bool false))) (cond (decide (op=2)) (cond (decide (t=[])) (some (.bool (decide (v=[])))) (some (.bool false))) (cond (decide (op=3)) (cond (decide (v=[])) (cond (!decide (t=[])) (cond (decide ((↑t.length:Int)<=108)) (some (.bool (Op.bytesLess k t))) (some (.bool false))) (some (.bool false))) (some (.bool false))) (some (.bool false)))))) (cond (decide ((↑(UInt8.toNat (List.getD k 0 0)):Int)=100)) (cond (decide (op=1)) (cond (decide (t=[])) (some (.bool (Wp v))) (some (.bool false))) (cond (decide (op=4)) (cond (decide (t=[])) (some (.bool (fine (YX v)))) (some (.bool false))) (cond (decide (op=2)) (cond (decide (t=[])) (some (.bool (decide (v=[])))) (some (.bool false))) (cond (decide (op=3)) (cond (decide (v=[])) (cond (!decide (t=[])) (cond (decide ((↑t.length:Int)<=108)) (some (.bool (Op.bytesLess k t))) (some (.bool false))) (some (.bool false))) (some (.bool false))) (some (.bool false)))))) (cond (decide (op=1)) (cond (decide (t=[])) (some (.bool (decide ((↑v.length:Int)<=64)))) (some (.bool false))) (cond (decide (op=4)) (cond (decide (t=[])) (some (.bool false)) (some (.bool false))) (cond (decide (op=2)) (cond (decide (t=[])) (some (.bool (decide (v=[])))) (some (.bool false))) (cond (decide (op=3)) (cond (decide (v=[])) (cond (!decide (t=[])) (cond (decide ((↑t.length:Int)<=108)) (some (.bool (Op.bytesLess k t))) (some (.bool false))) (some (.bool false))) (some (.bool false))) (some (.bool false)))))))) none)) (some (.bool false)):=by kernel_rfl
set_option maxHeartbeats 4000000 in
theorem Xvh (op:Int)(k t v:List UInt8):Xu Xnh tab [76,100,101] 7 200 76 [.agg [.int .i64 op,.str k,.str t,.str v]]=some (PD.v (.bool (mayB op k t v))).val:=by
  rw[Xrh];unfold mayB Xgf Xqy;simp only[pd_v,Xqh,Xgi];simp only[Xe4,XaT,Xdx,Xcq,YT,Xcr,if_true,if_false,cond_true,cond_false]
  repeat' (first | (exfalso; omega) | with_reducible rfl | (refine Xg5 (fun _=>?_) (fun _=>?_)) | (refine Xg4 (fun _=>?_) (fun _=>?_)))
noncomputable def gmay:List DV->Option PD:=fun l=>match l with
  |[.agg [.int .i64 op,.str k,.str t,.str v]]=>some (.v (.bool (mayB op k t v)))
  |_=>none
theorem XsY:∀ l d,gmay l=some d->d.ok=true->PlainCall Tryz.prog [] 76 (toVs l) (toV d.val)/\ofVs (toVs l)=some l:=by
  intro l d h ho;unfold gmay at h;split at h
  . rename_i op k t v
    cases h
    exact⟨XJ _ XN Xo (by kernel_rfl) (Xvh op k t v) ⟨⟨trivial,trivial,trivial,trivial,trivial⟩,trivial⟩ trivial,Xh1 op k t v⟩
  . cases h
noncomputable def Xng:Laws Tryz.prog:=((Xnh.add 76 gmay XsY))
theorem XnE (a:DV)(l:List DV)(ha:ofV (toV a)=some a)(hl:ofVs (toVs l)=some l):ofVs (toVs (a::l))=some (a::l):=by
  show (match ofV (toV a),ofVs (toVs l) with | some x,some l=>some (x::l) | _,_=>.none)=_
  rw[ha,hl]
theorem Xvv (op:Int)(k t v:List UInt8):ofV (toV (msgV op k t v))=some (msgV op k t v):=by
  have:=Xh1 op k t v
  have e:ofVs (toVs [msgV op k t v])=(match ofV (toV (msgV op k t v)) with | some x=>some [x] | .none=>.none):=by
    show (match ofV (toV (msgV op k t v)),ofVs [] with | some x,some l=>some (x::l) | _,_=>.none)=_
    cases ofV (toV (msgV op k t v))<;>rfl
  have h2:ofVs (toVs [msgV op k t v])=some [msgV op k t v]:=this
  rw[e] at h2;split at h2
  . rename_i x hx; cases h2; exact hx
  . cases h2
noncomputable def Yw (op:Int)(k t v x:List UInt8):Bool:=cond (mayB op k t v) (cond (decide (op=3)) (cond (!Op.bytesLess x k) (Op.bytesLess x t) false) (decide (x=k))) false
set_option maxRecDepth 10000 in
set_option maxRecDepth 10000 in
noncomputable def Xj4:List DV->Option PD:=fun l=>match l with
  |[.agg [.int .i64 op,.str k,.str t,.str v],.str x]=>some (.v (.bool (Yw op k t v x)))
  |_=>none
noncomputable def Xfs:DV:=.tup [.agg [.int .i64 0,.str [],.str [],.str []],.bool false]
noncomputable def Xgj (op:Int)(k t v:List UInt8):DV:=.tup [.agg [.int .i64 op,.str k,.str t,.str v],.bool true]
noncomputable def Xdm (op:Int)(k t v a b:List UInt8):PD:=.br (mayB op k t v)
  (.br (decide (op=3))
    (.br (Op.bytesLess (cond (Op.bytesLess k a) a k) (cond (decide (b=[])) t (cond (Op.bytesLess b t) b t)))
      (.v (Xgj op (cond (Op.bytesLess k a) a k) (cond (decide (b=[])) t (cond (Op.bytesLess b t) b t)) v)) (.v Xfs))
    (.br (Op.bytesLess k a) (.v Xfs) (.br (decide (b=[])) (.v (Xgj op k t v)) (.br (Op.bytesLess k b) (.v (Xgj op k t v)) (.v Xfs)))))
  (.v Xfs)
theorem Xpz (a b:List UInt8):(Op.bytesLess a b||decide (a=b))=!Op.bytesLess b a:=by
  have:=Xf1 a b
  rw[← this,Bool.not_not]
set_option maxRecDepth 10000 in
theorem Xri (op : Int) (k t v a b : List UInt8) : Xu Xng tab [60] 7 200 60 [.agg [.int .i64 op, .str k, .str t, .str v], .str a, .str b] =
    cond (!mayB op k t v) (some (.tup [.agg [.int .i64 0,.str [],.str [],.str []],.bool false])) (cond (decide (op=3)) (cond (!decide (b=[])) (cond (!Op.bytesLess
    (match true with
    |true =>
      match Op.bytesLess k a with
      |true=>a
      |false=>k
    |false =>
      match Op.bytesLess k a||decide (k=a) with
      |true=>k
      |false=>a)
    (match false with
    |true =>
      match Op.bytesLess t b with
      |true=>b
      |false=>t
    |false =>
      match Op.bytesLess t b||decide (t=b) with
      |true=>t
      |false=>b)) (some (.tup [.agg [.int .i64 0,.str [],.str [],.str []],.bool false])) (some (.tup
  [.agg
      [.int .i64 op,
        .str
          (match true with
          |true =>
            match Op.bytesLess k a with
            |true=>a
            |false=>k
          |false =>
            match Op.bytesLess k a||decide (k=a) with
            |true=>k
            |false=>a),
        .str
          (match false with
          |true =>
            match Op.bytesLess t b with
            |true=>b
            |false=>t
          |false =>
            match Op.bytesLess t b||decide (t=b) with
            |true=>t
            |false=>b),
        .str v],
    .bool true]))) (cond (!Op.bytesLess
    (match true with
    |true =>
      match Op.bytesLess k a with
      |true=>a
      |false=>k
    |false =>
      match Op.bytesLess k a||decide (k=a) with
      |true=>k
      |false=>a)
    t) (some (.tup [.agg [.int .i64 0,.str [],.str [],.str []],.bool false])) (some (.tup
  [.agg
      [.int .i64 op,
        .str
          (match true with
          |true =>
            match Op.bytesLess k a with
            |true=>a
            |false=>k
          |false =>
            match Op.bytesLess k a||decide (k=a) with
            |true=>k
            |false=>a),
        .str t,.str v],
    .bool true])))) (cond (Op.bytesLess k a) (some (.tup [.agg [.int .i64 0,.str [],.str [],.str []],.bool false])) (cond (!decide (b=[])) (cond (!Op.bytesLess k b) (some (.tup [.agg [.int .i64 0,.str [],.str [],.str []],.bool false])) (some (.tup [.agg [.int .i64 op,.str k,.str t,.str v],.bool true]))) (some (.tup [.agg [.int .i64 op,.str k,.str t,.str v],.bool true]))))):=by kernel_rfl
theorem Xvk (op:Int)(k t v a b:List UInt8):Xu Xng tab [60] 7 200 60 [.agg [.int .i64 op,.str k,.str t,.str v],.str a,.str b]=some (Xdm op k t v a b).val:=by
  rw[Xri];unfold Xdm Xgj Xfs;simp only[Xgs,pd_v,Xpz]
  cases mayB op k t v<;>cases decide (op=3)<;>cases Op.bytesLess k a<;>cases decide (b=[])<;>cases Op.bytesLess b t<;>simp only[Bool.not_true,Bool.not_false,cond_true,cond_false,Xcq]
theorem Xop (op:Int)(k t v a b:List UInt8):wf 0 (toV (Xdm op k t v a b).val):=by
  unfold Xdm Xgj Xfs;simp only[PD.val_br,PD.val_v]
  cases mayB op k t v<;>cases decide (op=3)<;>cases Op.bytesLess k a<;>cases decide (b=[])<;>cases Op.bytesLess k b<;>simp only[cond_true,cond_false]<;>first | exact⟨⟨trivial,trivial,trivial,trivial,trivial⟩,trivial,trivial⟩ | skip
  all_goals
    cases Op.bytesLess _ _<;>exact⟨⟨trivial,trivial,trivial,trivial,trivial⟩,trivial,trivial⟩
noncomputable def Xnt:List DV->Option PD:=fun l=>match l with
  |[.agg [.int .i64 op,.str k,.str t,.str v],.str a,.str b]=>some (Xdm op k t v a b)
  |_=>none
theorem Xn3:∀ l d,Xnt l=some d->d.ok=true->PlainCall Tryz.prog [] 60 (toVs l) (toV d.val)/\ofVs (toVs l)=some l:=by
  intro l d h ho;unfold Xnt at h;split at h
  . rename_i op k t v a b
    cases h
    exact⟨XJ _ XN Xo (by kernel_rfl) (Xvk op k t v a b) ⟨⟨trivial,trivial,trivial,trivial,trivial⟩,trivial,trivial,trivial⟩ (Xop op k t v a b),XnE _ _ (Xvv op k t v) (Xvw a b)⟩
  . cases h
noncomputable def Xa8:Laws Tryz.prog:=(Xng.add 60 Xnt Xn3)
end
end Go.Vm.YtkjjpmbpjfmbcaaGreatDoor

namespace Go.Vm
theorem Xjp {P:Program}{B:Base}{f:Nat}{v:V} (h:∀ b,Xep b->PlainCall P B f [.int .u64 (.ofNat b)] v):PlainCall P B f [.nani] v:=by
  have h0:=h (0*9223372036854775808+9218868437227405312+1+0) ⟨0,0,by omega,by omega,rfl⟩
  refine⟨⟨trivial,trivial⟩,h0.wfr,h0.base,fun W vs el hW hvs=>?_⟩
  cases hvs with
  |cons hv t =>
    cases t
    cases hv with
    |nani hb=>exact (h _ hb).runs W _ el hW (.cons (.int _ _) .nil)
end Go.Vm
namespace Go.Vm.YtkjjpmbpjfmbcaaGreatDoor
open Go.Proofs
noncomputable section
theorem Xpq {b:Nat} (h:Xep b):nanN b=true:=by
  obtain⟨s,t,hs,ht,rfl⟩:=h;unfold nanN;rw[decide_eq_true_eq];omega
def qNaN:PD:=.v (.int .u64 9221120237041090561)
theorem Xls {b:Nat} (h:Xep b):(ZZ b).val=.int .u64 9221120237041090561:=by
  unfold ZZ;rw[PD.val_br,Xpq h]; rfl
def qN (n:Nat):Nat:=cond (nanN n) 9221120237041090561 n
theorem Xpe (n:Nat):(ZZ n).val=.int .u64 (.ofNat (qN n)):=by
  unfold ZZ qN;rw[PD.val_br]
  cases nanN n<;>rfl
def Xj5 (q:Nat->Nat):List DV->Option PD:=fun l=>match l with
  |[.int .u64 (.ofNat n)]=>some (.v (.int .u64 (.ofNat (q n))))
  |[.nani]=>some qNaN
  |_=>none
theorem Xvn (q:Nat->Nat)(hq:q=qN)(f:Nat)(hf:∀ l d,g121 l=some d->d.ok=true->PlainCall Tryz.prog [] f (toVs l) (toV d.val)/\ofVs (toVs l)=some l) :
    ∀ l d,Xj5 q l=some d->d.ok=true->PlainCall Tryz.prog [] f (toVs l) (toV d.val)/\ofVs (toVs l)=some l:=by
  intro l d h ho;subst hq;unfold Xj5 at h;split at h
  . rename_i n
    cases h
    have:=(hf [.int .u64 (.ofNat n)] (ZZ n) rfl (by unfold ZZ; simp only[PD.ok_br,PD.ok_v,Bool.cond_self])).1
    rw[Xpe] at this
    exact⟨this,rfl⟩
  . cases h
    refine⟨Xjp fun b hb=>?_,rfl⟩
    have:=(hf [.int .u64 (.ofNat b)] (ZZ b) rfl (by unfold ZZ; simp only[PD.ok_br,PD.ok_v,Bool.cond_self])).1
    rw[Xls hb] at this;exact this
  . cases h
def Xsd (q:Nat->Nat)(hq:q=qN):Laws Tryz.prog:=(Xa8.add 165 (Xj5 q) (Xvn q hq 165 XkI))
def ordN (n:Nat):Nat:=if 9223372036854775808<=n then 18446744073709551615-n else n+9223372036854775808
def XbZ (n:Nat):Nat:=if 9223372036854775808<=n then n-9223372036854775808 else 18446744073709551615-n
def small (n:Nat):Bool:=decide (n<18446744073709551616)
theorem XmQ {n:Nat} (h:n<18446744073709551616):ordN n<18446744073709551616:=by unfold ordN; split<;>omega
theorem Xjf {n:Nat} (h:n<18446744073709551616):XbZ (ordN n)=n:=by
  unfold XbZ ordN
  split<;>split<;>omega
theorem XkM (n:Nat):BitVec.ofInt 64 (Int.ofNat n)=BitVec.ofNat 64 n:=BitVec.ofInt_natCast ..
theorem XhS:BitVec.ofInt 64 9223372036854775808=BitVec.ofNat 64 9223372036854775808:=rfl
theorem Xqi:BitVec.ofInt 64 18446744073709551615=BitVec.allOnes 64:=rfl
theorem XnU {n:Nat} (h:n<18446744073709551616):(BitVec.ofInt 64 (Int.ofNat n) &&& BitVec.ofInt 64 9223372036854775808).toNat=if 9223372036854775808<=n then 9223372036854775808 else 0:=by
  rw[XkM,XhS,BitVec.toNat_and,BitVec.toNat_ofNat,BitVec.toNat_ofNat,Nat.mod_eq_of_lt h,Nat.mod_eq_of_lt (by omega)]
  apply Nat.eq_of_testBit_eq
  intro i;rw[Nat.testBit_and,show (9223372036854775808:Nat)=2 ^ 63 from rfl,Nat.testBit_two_pow]
  have hb:n.testBit 63=decide (2 ^ 63<=n):=by
    rw[Nat.testBit_eq_decide_div_mod_eq,Bool.eq_iff_iff,decide_eq_true_eq,decide_eq_true_eq];omega
  by_cases hi:63=i
  . subst hi
    rw[hb]
    by_cases hn:2 ^ 63<=n
    . rw[if_pos hn,decide_eq_true hn,Nat.testBit_two_pow]; rfl
    . rw[if_neg hn,decide_eq_false hn,Nat.zero_testBit]; rfl
  . rw[decide_eq_false hi,Bool.and_false]
    split
    . rw[Nat.testBit_two_pow,decide_eq_false hi]
    . rw[Nat.zero_testBit]
theorem XnT {n:Nat} (h:n<18446744073709551616):(BitVec.ofInt 64 18446744073709551615 ^^^ BitVec.ofInt 64 (Int.ofNat n)).toNat=18446744073709551615-n:=by
  rw[XkM,Xqi,BitVec.allOnes_xor,BitVec.toNat_not,BitVec.toNat_ofNat,Nat.mod_eq_of_lt h]
theorem Xvx {n:Nat} (h:n<9223372036854775808):(BitVec.ofInt 64 (Int.ofNat n) ||| BitVec.ofInt 64 9223372036854775808).toNat=n+9223372036854775808:=by
  rw[XkM,XhS,BitVec.toNat_or,BitVec.toNat_ofNat,BitVec.toNat_ofNat,Nat.mod_eq_of_lt (by omega),Nat.mod_eq_of_lt (by omega),Nat.or_comm]
  have:=Nat.two_pow_add_eq_or_of_lt (i:=63) (b:=n) (by omega) 1
  simp only[show (2:Nat) ^ 63=9223372036854775808 from rfl,Nat.mul_one] at this
  omega
theorem XlJ {n:Nat} (h:n<18446744073709551616):(BitVec.ofInt 64 (Int.ofNat n) &&& ~~~BitVec.ofInt 64 9223372036854775808).toNat=n%9223372036854775808:=by
  rw[XkM,XhS,BitVec.toNat_and,BitVec.toNat_not,BitVec.toNat_ofNat,BitVec.toNat_ofNat,Nat.mod_eq_of_lt h,Nat.mod_eq_of_lt (by omega)]
  have:=Nat.and_two_pow_sub_one_eq_mod n 63
  simp only[show (2:Nat) ^ 63=9223372036854775808 from rfl] at this
  exact this
def ordD (o:Nat->Nat)(n:Nat):PD:=.need (small n) (.v (.int .u64 (.ofNat (o n))))
def g175 (o:Nat->Nat):List DV->Option PD:=fun l=>match l with
  |[.int .u64 (.ofNat n)]=>some (ordD o n)
  |_=>none
set_option maxRecDepth 10000 in
theorem tOrd (n:Nat):Xu Xa8 tab [175] 7 200 175 [.int .u64 (.ofNat n)] =
    cond (!decide (IntKind.wrap .u64 (↑(BitVec.toNat (BitVec.ofInt 64 (Int.ofNat n) &&& BitVec.ofInt 64 9223372036854775808)):Int)=0)) (some (DV.int .u64 (IntKind.wrap .u64 (↑(BitVec.toNat (BitVec.ofInt 64 18446744073709551615 ^^^ BitVec.ofInt 64 (Int.ofNat n))):Int)))) (some (DV.int .u64 (IntKind.wrap .u64 (↑(BitVec.toNat (BitVec.ofInt 64 (Int.ofNat n) ||| BitVec.ofInt 64 9223372036854775808)):Int)))):=by kernel_rfl
set_option maxRecDepth 10000 in
theorem Xtw (n:Nat):Xu Xa8 tab [174] 7 200 174 [.int .u64 (.ofNat n)] =
    cond (!decide (IntKind.wrap .u64 (↑(BitVec.toNat (BitVec.ofInt 64 (Int.ofNat n) &&& BitVec.ofInt 64 9223372036854775808)):Int)=0)) (some (DV.int .u64 (IntKind.wrap .u64 (↑(BitVec.toNat (BitVec.ofInt 64 (Int.ofNat n) &&& ~~~BitVec.ofInt 64 9223372036854775808)):Int)))) (some (DV.int .u64 (IntKind.wrap .u64 (↑(BitVec.toNat (BitVec.ofInt 64 18446744073709551615 ^^^ BitVec.ofInt 64 (Int.ofNat n))):Int)))):=by kernel_rfl
theorem Xs0 (n:Nat)(h:n<18446744073709551616):Xu Xa8 tab [175] 7 200 175 [.int .u64 (.ofNat n)]=some (ordD ordN n).val:=by
  rw[tOrd];rw[XnU h,XnT h]
  show _=some (DV.int .u64 (Int.ofNat (ordN n)))
  unfold ordN
  by_cases hn:9223372036854775808<=n
  . rw[if_pos hn,if_pos hn,wrap_u64 (z:=((9223372036854775808:Nat):Int)) (by omega) (by omega),wrap_u64 (by omega) (by omega)]; rfl
  . rw[if_neg hn,if_neg hn,Xvx (by omega),wrap_u64 (z:=((0:Nat):Int)) (by omega) (by omega),wrap_u64 (z:=((n+9223372036854775808:Nat):Int)) (by omega) (by omega)]; rfl
theorem Xs1 (n:Nat)(h:n<18446744073709551616):Xu Xa8 tab [174] 7 200 174 [.int .u64 (.ofNat n)]=some (ordD XbZ n).val:=by
  rw[Xtw];rw[XnU h,XnT h,XlJ h]
  show _=some (DV.int .u64 (Int.ofNat (XbZ n)))
  unfold XbZ
  by_cases hn:9223372036854775808<=n
  . rw[if_pos hn,if_pos hn,wrap_u64 (z:=((9223372036854775808:Nat):Int)) (by omega) (by omega),wrap_u64 (by omega) (by omega)]
    have:n%9223372036854775808=n-9223372036854775808:=by omega
    rw[this]; rfl
  . rw[if_neg hn,if_neg hn,wrap_u64 (z:=((0:Nat):Int)) (by omega) (by omega),wrap_u64 (z:=((18446744073709551615-n:Nat):Int)) (by omega) (by omega)]; rfl
theorem Xpn {n:Nat}{p:PD} (ho:(PD.need (small n) p).ok=true):n<18446744073709551616:=by
  simp only[PD.ok_need,Bool.and_eq_true] at ho;exact of_decide_eq_true ho.1
theorem XpK (o:Nat->Nat)(ho:o=ordN):∀ l d,g175 o l=some d->d.ok=true->PlainCall Tryz.prog [] 175 (toVs l) (toV d.val)/\ofVs (toVs l)=some l:=by
  intro l d h hk;subst ho;unfold g175 at h;split at h
  . rename_i n
    cases h
    exact⟨XJ _ XN Xo (by kernel_rfl) (Xs0 n (Xpn hk)) ⟨trivial,trivial⟩ trivial,rfl⟩
  . cases h
def Xnw (b:Nat->Nat):List DV->Option PD:=fun l=>match l with
  |[.int .u64 z]=>some (.need (decide (0<=z)&&small z.toNat) (.v (.int .u64 (.ofNat (b z.toNat)))))
  |_=>none
theorem XpL (o:Nat->Nat)(ho:o=XbZ):∀ l d,Xnw o l=some d->d.ok=true->PlainCall Tryz.prog [] 174 (toVs l) (toV d.val)/\ofVs (toVs l)=some l:=by
  intro l d h hk;subst ho;unfold Xnw at h;split at h
  . rename_i z
    cases h;simp only[PD.ok_need,Bool.and_eq_true,decide_eq_true_eq] at hk;obtain⟨⟨h0,h1⟩,_⟩:=hk
    obtain⟨n,rfl⟩:∃ n:Nat,z=.ofNat n:=⟨z.toNat,by show z=((z.toNat:Nat):Int); omega⟩
    exact⟨XJ _ XN Xo (by kernel_rfl) (Xs1 n (of_decide_eq_true h1)) ⟨trivial,trivial⟩ trivial,rfl⟩
  . cases h
def Xj1 (q o b:Nat->Nat)(hq:q=qN)(ho:o=ordN)(hb:b=XbZ):Laws Tryz.prog:=(((Xsd q hq).add 175 (g175 o) (XpK o ho)).add 174 (Xnw b) (XpL b hb))
end
end Go.Vm.YtkjjpmbpjfmbcaaGreatDoor

namespace Go.Vm.YtkjjpmbpjfmbcaaGreatDoor
open Go.Proofs
noncomputable section
set_option maxRecDepth 10000 in
theorem tNum (q o b:Nat->Nat)(hq:q=qN)(ho:o=ordN)(hb:b=XbZ)(x:Nat)(op:Int)(y:Nat):Xu (Xj1 q o b hq ho hb) tab [149,169,172,173] 7 200 149 [.int .u64 (.ofNat x),.agg [.int .u8 op,.int .u64 (.ofNat y)]] =
    cond (decide (op=1)) (some (DV.tup [DV.int .u64 (Int.ofNat (q y)),DV.int .i64 0])) (cond (decide (op=2)) (cond (Option.isSome (farD BinOp.add (Int.toNat (Int.ofNat x)) (Int.toNat (Int.ofNat y)))) (some (DV.tup [DV.int .u64 (Int.ofNat (q (Option.getD (farD BinOp.add (Int.toNat (Int.ofNat x)) (Int.toNat (Int.ofNat y))) 0))),DV.int .i64 0])) (some (DV.tup [DV.int .u64 9221120237041090561,DV.int .i64 0]))) (cond (decide (op=5)) (cond (Option.isSome (farD BinOp.mul (Int.toNat (Int.ofNat x)) (Int.toNat (Int.ofNat y)))) (some (DV.tup [DV.int .u64 (Int.ofNat (q (Option.getD (farD BinOp.mul (Int.toNat (Int.ofNat x)) (Int.toNat (Int.ofNat y))) 0))),DV.int .i64 0])) (some (DV.tup [DV.int .u64 9221120237041090561,DV.int .i64 0]))) (cond (decide (op=3)) (cond (small (q x)) (cond (small (q y)) (cond (decide (0<=if true=true then if Int.ofNat (o (q y)) > Int.ofNat (o (q x)) then Int.ofNat (o (q y)) else Int.ofNat (o (q x)) else if Int.ofNat (o (q y))<Int.ofNat (o (q x)) then Int.ofNat (o (q y)) else Int.ofNat (o (q x)))&&small (Int.toNat (if true=true then if Int.ofNat (o (q y)) > Int.ofNat (o (q x)) then Int.ofNat (o (q y)) else Int.ofNat (o (q x)) else if Int.ofNat (o (q y))<Int.ofNat (o (q x)) then Int.ofNat (o (q y)) else Int.ofNat (o (q x))))) (some (DV.tup [DV.int .u64 (Int.ofNat (b (Int.toNat (if true=true then if Int.ofNat (o (q y)) > Int.ofNat (o (q x)) then Int.ofNat (o (q y)) else Int.ofNat (o (q x)) else if Int.ofNat (o (q y))<Int.ofNat (o (q x)) then Int.ofNat (o (q y)) else Int.ofNat (o (q x)))))),DV.int .i64 0])) none) none) none) (cond (decide (op=4)) (cond (small (q x)) (cond (small (q y)) (cond (decide (0<=if false=true then if Int.ofNat (o (q y)) > Int.ofNat (o (q x)) then Int.ofNat (o (q y)) else Int.ofNat (o (q x)) else if Int.ofNat (o (q y))<Int.ofNat (o (q x)) then Int.ofNat (o (q y)) else Int.ofNat (o (q x)))&&small (Int.toNat (if false=true then if Int.ofNat (o (q y)) > Int.ofNat (o (q x)) then Int.ofNat (o (q y)) else Int.ofNat (o (q x)) else if Int.ofNat (o (q y))<Int.ofNat (o (q x)) then Int.ofNat (o (q y)) else Int.ofNat (o (q x))))) (some (DV.tup [DV.int .u64 (Int.ofNat (b (Int.toNat (if false=true then if Int.ofNat (o (q y)) > Int.ofNat (o (q x)) then Int.ofNat (o (q y)) else Int.ofNat (o (q x)) else if Int.ofNat (o (q y))<Int.ofNat (o (q x)) then Int.ofNat (o (q y)) else Int.ofNat (o (q x)))))),DV.int .i64 0])) none) none) none) (some (DV.tup [DV.int .u64 0,DV.int .i64 2])))))):=by kernel_rfl
theorem q_lt {n:Nat} (h:n<18446744073709551616):qN n<18446744073709551616:=by unfold qN; cases nanN n<;>simp<;>omega
def farN (op:BinOp)(x y:Nat):Nat:=cond (farD op x y).isSome (qN ((farD op x y).getD 0)) 9221120237041090561
def Xab (x:Nat)(op:Int)(y:Nat):Nat:=cond (decide (op=1)) (qN y) (cond (decide (op=2)) (farN .add x y) (cond (decide (op=5)) (farN .mul x y)
  (cond (decide (op=3)) (cond (decide (ordN (qN x)<ordN (qN y))) (qN y) (qN x)) (cond (decide (op=4)) (cond (decide (ordN (qN y)<ordN (qN x))) (qN y) (qN x)) 0))))
def Xmy (op:Int):Int:=cond (decide (1<=op/\op<=5)) 0 2
def numD (st:Nat->Int->Nat->Nat)(x:Nat)(op:Int)(y:Nat):PD:=.need (small x&&small y) (.v (.tup [.int .u64 (.ofNat (st x op y)),.int .i64 (Xmy op)]))
theorem write_lt (d:Ieee.Datum):FloatKind.f64.format.write d<18446744073709551616:=by
  have e1:FloatKind.f64.format.signWeight=9223372036854775808:=rfl
  have e2:FloatKind.f64.format.infRung=9218868437227405312:=rfl
  have e3:FloatKind.f64.format.binade=4503599627370496:=rfl
  have w:∀ (neg:Bool) (r:Nat),r<9223372036854775808->FloatKind.f64.format.word neg r<18446744073709551616:=by
    intro neg r h;unfold Ieee.Format.word;rw[e1]
    split<;>omega
  cases d with
  |number s m p =>
    show FloatKind.f64.format.nearest s m p<_
    unfold Ieee.Format.nearest;split
    . exact w _ _ (by omega)
    . refine w _ _ ?_
      rw[e2];exact Nat.lt_of_le_of_lt (Nat.min_le_right _ _) (by omega)
  |infinity s =>
    refine w _ _ ?_
    rw[e2]; omega
  |nan s f =>
    refine w _ _ ?_
    rw[e2,e3];omega
theorem Xn5 (op:BinOp)(x y:Nat):farN op x y<18446744073709551616:=by
  unfold farN
  cases h:farD op x y with
  |none=>decide
  |some z =>
    refine q_lt ?_
    show z<_
    have key:∀ o:Option Ieee.Datum,o.map FloatKind.f64.format.write=some z->z<18446744073709551616:=by
      intro o ho
      cases o with
      |none=>cases ho
      |some d=>cases ho; exact write_lt d
    unfold farD at h;split at h
    . exact key _ h
    . exact key _ h
    . exact key _ h
    . cases h
theorem Xox {x:Nat}{op:Int}{y:Nat} (hx:x<18446744073709551616)(hy:y<18446744073709551616):Xab x op y<18446744073709551616:=by
  have h1:=q_lt hx;have h2:=q_lt hy;have h3:=Xn5 .add x y;have h4:=Xn5 .mul x y;unfold Xab
  cases decide (op=1)<;>cases decide (op=2)<;>cases decide (op=5)<;>cases decide (op=3)<;>cases decide (op=4)<;>cases decide (ordN (qN x)<ordN (qN y))<;>cases decide (ordN (qN y)<ordN (qN x))<;>simp only[cond_true,cond_false]<;>first | assumption | decide
theorem Xmx {op:Int}:Xmy op=cond (decide (op=1)) 0 (cond (decide (op=2)) 0 (cond (decide (op=5)) 0 (cond (decide (op=3)) 0 (cond (decide (op=4)) 0 2)))):=by
  unfold Xmy
  by_cases h1:op=1
  . subst h1; rfl
  by_cases h2:op=2
  . subst h2; rfl
  by_cases h3:op=3
  . subst h3; rfl
  by_cases h4:op=4
  . subst h4; rfl
  by_cases h5:op=5
  . subst h5; rfl
  rw[decide_eq_false h1,decide_eq_false h2,decide_eq_false h3,decide_eq_false h4,decide_eq_false h5,decide_eq_false (by omega)]; rfl
theorem Xne (a b:Nat):(if true=true then if Int.ofNat b > Int.ofNat a then Int.ofNat b else Int.ofNat a else if Int.ofNat b<Int.ofNat a then Int.ofNat b else Int.ofNat a)=Int.ofNat (cond (decide (a<b)) b a):=by
  rw[if_pos rfl]
  by_cases h:a<b
  . rw[decide_eq_true h,if_pos (show Int.ofNat _<Int.ofNat _ from Int.ofNat_lt.2 h)]; rfl
  . rw[decide_eq_false h,if_neg (fun e:Int.ofNat _<Int.ofNat _=>h (Int.ofNat_lt.1 e))]; rfl
theorem XrU (a b:Nat):(if false=true then if Int.ofNat b > Int.ofNat a then Int.ofNat b else Int.ofNat a else if Int.ofNat b<Int.ofNat a then Int.ofNat b else Int.ofNat a)=Int.ofNat (cond (decide (b<a)) b a):=by
  rw[if_neg (by decide)]
  by_cases h:b<a
  . rw[decide_eq_true h,if_pos (show Int.ofNat _<Int.ofNat _ from Int.ofNat_lt.2 h)]; rfl
  . rw[decide_eq_false h,if_neg (fun e:Int.ofNat _<Int.ofNat _=>h (Int.ofNat_lt.1 e))]; rfl
theorem sm {n:Nat} (h:n<18446744073709551616):small n=true:=decide_eq_true h
theorem XqA (a b:Nat):decide (Int.ofNat a<Int.ofNat b)=decide (a<b):=by
  by_cases h:a<b
  . rw[decide_eq_true h,decide_eq_true (show Int.ofNat _<Int.ofNat _ from Int.ofNat_lt.2 h)]
  . rw[decide_eq_false h,decide_eq_false (fun e:Int.ofNat _<Int.ofNat _=>h (Int.ofNat_lt.1 e))]
theorem XgH {c:Bool}{x y:Nat} (hx:x<18446744073709551616)(hy:y<18446744073709551616):XbZ (cond c (ordN y) (ordN x))=cond c y x:=by
  cases c
  . exact Xjf hx
  . exact Xjf hy
theorem Xk2 {c:Bool}{x y:Nat} (hx:x<18446744073709551616)(hy:y<18446744073709551616):(decide (0<=Int.ofNat (cond c (ordN y) (ordN x)))&&small (Int.toNat (Int.ofNat (cond c (ordN y) (ordN x)))))=true:=by
  have h1:=XmQ hx;have h2:=XmQ hy;rw[show Int.toNat (Int.ofNat (cond c (ordN y) (ordN x)))=cond c (ordN y) (ordN x) from rfl,Bool.and_eq_true]
  refine⟨decide_eq_true (Int.natCast_nonneg _),sm ?_⟩
  cases c
  . exact h1
  . exact h2
theorem Xs4 (x:Nat)(op:Int)(y:Nat)(hx:x<18446744073709551616)(hy:y<18446744073709551616):Xu (Xj1 qN ordN XbZ rfl rfl rfl) tab [149,169,172,173] 7 200 149 [.int .u64 (.ofNat x),.agg [.int .u8 op,.int .u64 (.ofNat y)]]=some (numD Xab x op y).val:=by
  rw[tNum,Xne,XrU,Xk2 (q_lt hx) (q_lt hy),Xk2 (q_lt hx) (q_lt hy),sm (q_lt hx),sm (q_lt hy)];simp only[Int.ofNat_eq_natCast,Int.toNat_natCast];rw[XgH (q_lt hx) (q_lt hy),XgH (q_lt hx) (q_lt hy)];unfold numD;rw[PD.val_need,PD.val_v,Xmx];unfold Xab farN
  generalize decide (op=1)=a
  generalize decide (op=2)=b
  generalize decide (op=5)=c
  generalize decide (op=3)=d
  generalize decide (op=4)=e
  cases a<;>cases b<;>cases c<;>cases d<;>cases e<;>simp only[cond_true,cond_false]<;>first | rfl | (cases (farD .add x y).isSome<;>rfl) | (cases (farD .mul x y).isSome<;>rfl)
def g149 (st:Nat->Int->Nat->Nat):List DV->Option PD:=fun l=>match l with
  |[.int .u64 (.ofNat x),.agg [.int .u8 op,.int .u64 (.ofNat y)]]=>some (numD st x op y)
  |_=>none
theorem XrQ {st:Nat->Int->Nat->Nat}{x:Nat}{op:Int}{y:Nat} (h:(numD st x op y).ok=true):x<18446744073709551616/\y<18446744073709551616:=by
  unfold numD at h;simp only[PD.ok_need,Bool.and_eq_true] at h
  exact⟨of_decide_eq_true h.1.1,of_decide_eq_true h.1.2⟩
theorem XpN (st:Nat->Int->Nat->Nat)(hs:st=Xab):∀ l d,g149 st l=some d->d.ok=true->PlainCall Tryz.prog [] 149 (toVs l) (toV d.val)/\ofVs (toVs l)=some l:=by
  intro l d h hk;subst hs;unfold g149 at h;split at h
  . cases h
    obtain⟨hx,hy⟩:=XrQ hk
    exact⟨XJ _ XN Xo (by kernel_rfl) (Xs4 _ _ _ hx hy) ⟨trivial,⟨trivial,trivial,trivial⟩,trivial⟩ ⟨trivial,trivial,trivial⟩,rfl⟩
  . cases h
def Xf2 (st:Nat->Int->Nat->Nat)(hs:st=Xab):Laws Tryz.prog:=((Xj1 qN ordN XbZ rfl rfl rfl).add 149 (g149 st) (XpN st hs))
set_option maxRecDepth 10000 in
theorem tMc (st:Nat->Int->Nat->Nat)(hs:st=Xab)(k:Int)(z m:Nat)(t:Int):Xu (Xf2 st hs) tab [143] 7 200 143 [.agg [.int .u8 k,.int .u32 (.ofNat z),.int .u64 (.ofNat m),.int .u64 t]] =
    cond (!decide (k=1)) (cond (!decide (k=2)) (some (DV.int .i64 4)) (cond (decide (2048<Int.ofNat z)) (some (DV.int .i64 4)) (cond (decide (k=2)) (cond (decide (0<Int.ofNat z)) (some (DV.int .i64 4)) (cond (!decide (Int.ofNat (qN m)=Int.ofNat m)) (some (DV.int .i64 4)) (some (DV.int .i64 0)))) (cond (!decide (Int.ofNat (qN m)=Int.ofNat m)) (some (DV.int .i64 4)) (some (DV.int .i64 0)))))) (cond (decide (2048<Int.ofNat z)) (some (DV.int .i64 4)) (cond (decide (k=2)) (cond (decide (0<Int.ofNat z)) (some (DV.int .i64 4)) (cond (!decide (Int.ofNat (qN m)=Int.ofNat m)) (some (DV.int .i64 4)) (some (DV.int .i64 0)))) (cond (!decide (Int.ofNat (qN m)=Int.ofNat m)) (some (DV.int .i64 4)) (some (DV.int .i64 0))))):=by kernel_rfl
set_option maxRecDepth 10000 in
theorem tCm (st:Nat->Int->Nat->Nat)(hs:st=Xab)(w n op:Int)(y:Nat):Xu (Xf2 st hs) tab [144] 7 200 144 [.agg [.int .u8 w,.int .u64 n,.int .u8 op,.int .u64 (.ofNat y)]] =
    cond (decide (w=1)) (cond (decide (2048<n)) (some (DV.bool false)) (some (DV.bool ((decide (op=0)&&(decide (Int.ofNat y=0)&&true)) != false)))) (cond (decide (w=2)) (cond (decide (2048<n)) (some (DV.bool false)) (some (DV.bool ((decide (op=0)&&(decide (Int.ofNat y=0)&&true)) != false)))) (cond (decide (w=4)) (some (DV.bool ((decide (op=0)&&(decide (Int.ofNat y=0)&&true)) != false))) (cond (decide (w=3)) (cond (decide (n=0)) (cond (decide (1<=op)) (some (DV.bool (decide (op<=5)))) (some (DV.bool false))) (some (DV.bool false))) (some (DV.bool false))))):=by kernel_rfl
def mM (k:Int)(z m:Nat):Bool:=cond (decide (k=2)) (decide (z=0)) (cond (decide (k=1)) (decide (z<=2048)) false)&&decide (qN m=m)
def cM (w n op:Int)(y:Nat):Bool:=cond (decide (w=1)||decide (w=2)) (decide (n<=2048)&&(decide (op=0)&&decide (y=0))) (cond (decide (w=3)) (decide (n=0)&&(decide (1<=op)&&decide (op<=5)))
  (cond (decide (w=4)) (decide (op=0)&&decide (y=0)) false))
theorem nat_eq (a b:Nat):decide (Int.ofNat a=Int.ofNat b)=decide (a=b):=by
  by_cases h:a=b
  . subst h; simp
  . rw[decide_eq_false h,decide_eq_false (fun e=>h (Int.ofNat.inj e))]
theorem Xna (a:Nat):decide (Int.ofNat a=0)=decide (a=0):=nat_eq a 0
theorem Xpp (a:Nat):decide (2048<Int.ofNat a)=!decide (a<=2048):=by
  rw[show decide (2048<Int.ofNat a)=decide (2048<a) from XqA 2048 a]
  by_cases h:a<=2048
  . rw[decide_eq_true h,decide_eq_false (by omega)]; rfl
  . rw[decide_eq_false h,decide_eq_true (by omega)]; rfl
theorem Xpo (a:Nat):decide (0<Int.ofNat a)=!decide (a=0):=by
  rw[show decide (0<Int.ofNat a)=decide (0<a) from XqA 0 a]
  by_cases h:a=0
  . rw[decide_eq_true h,decide_eq_false (by omega)]; rfl
  . rw[decide_eq_false h,decide_eq_true (by omega)]; rfl
theorem XsF (a:Int):decide (2048<a)=!decide (a<=2048):=by
  by_cases h:a<=2048
  . rw[decide_eq_true h,decide_eq_false (by omega)]; rfl
  . rw[decide_eq_false h,decide_eq_true (by omega)]; rfl
theorem XjO (b:Bool):(b != false)=b:=by cases b<;>rfl
def mcD (b:Bool):PD:=.br b (.v (.int .i64 0)) (.v (.int .i64 4))
theorem Xs6 (k : Int) (z m : Nat) (t : Int) : Xu (Xf2 Xab rfl) tab [143] 7 200 143 [.agg [.int .u8 k, .int .u32 (.ofNat z), .int .u64 (.ofNat m), .int .u64 t]] = some (mcD (mM k z m)).val := by
  rw[tMc,nat_eq,Xpp,Xpo];unfold mcD mM;rw[PD.val_br]
  by_cases h1:k=1
  . subst h1
    cases decide (z<=2048)<;>cases decide (z=0)<;>cases decide (qN m=m)<;>rfl
  . by_cases h2:k=2
    . subst h2
      by_cases h0:z=0
      . subst h0
        cases decide (qN m=m)<;>rfl
      . rw[decide_eq_false h0]
        cases decide (z<=2048)<;>cases decide (qN m=m)<;>rfl
    . rw[decide_eq_false h1,decide_eq_false h2]; rfl
theorem Xs5 (w n op:Int)(y:Nat):Xu (Xf2 Xab rfl) tab [144] 7 200 144 [.agg [.int .u8 w,.int .u64 n,.int .u8 op,.int .u64 (.ofNat y)]]=some (.bool (cM w n op y)):=by
  rw[tCm,Xna,XsF,XjO,Bool.and_true];unfold cM
  by_cases h1:w=1
  . subst h1; cases decide (n<=2048)<;>cases decide (op=0)<;>cases decide (y=0)<;>rfl
  by_cases h2:w=2
  . subst h2; cases decide (n<=2048)<;>cases decide (op=0)<;>cases decide (y=0)<;>rfl
  by_cases h3:w=3
  . subst h3; cases decide (n=0)<;>cases decide (1<=op)<;>cases decide (op<=5)<;>rfl
  by_cases h4:w=4
  . subst h4; cases decide (op=0)<;>cases decide (y=0)<;>rfl
  rw[decide_eq_false h1,decide_eq_false h2,decide_eq_false h3,decide_eq_false h4]; rfl
abbrev MM:=Int->Nat->Nat->Bool
abbrev CM:=Int->Int->Int->Nat->Bool
abbrev ST:=Nat->Int->Nat->Nat
def g143 (mm:MM):List DV->Option PD:=fun l=>match l with
  |[.agg [.int .u8 k,.int .u32 (.ofNat z),.int .u64 (.ofNat m),.int .u64 t]]=>some (mcD (mm k z m))
  |_=>none
def g144 (cm:CM):List DV->Option PD:=fun l=>match l with
  |[.agg [.int .u8 w,.int .u64 n,.int .u8 op,.int .u64 (.ofNat y)]]=>some (.v (.bool (cm w n op y)))
  |_=>none
theorem Xts (b:Bool):wf 0 (toV (mcD b).val):=by cases b<;>trivial
theorem XpP (mm:MM)(hm:mm=mM):∀ l d,g143 mm l=some d->d.ok=true->PlainCall Tryz.prog [] 143 (toVs l) (toV d.val)/\ofVs (toVs l)=some l:=by
  intro l d h hk;subst hm;unfold g143 at h;split at h
  . cases h
    exact⟨XJ _ XN Xo (by kernel_rfl) (Xs6 _ _ _ _) ⟨⟨trivial,trivial,trivial,trivial,trivial⟩,trivial⟩ (Xts _),rfl⟩
  . cases h
theorem XpO (cm:CM)(hc:cm=cM):∀ l d,g144 cm l=some d->d.ok=true->PlainCall Tryz.prog [] 144 (toVs l) (toV d.val)/\ofVs (toVs l)=some l:=by
  intro l d h hk;subst hc;unfold g144 at h;split at h
  . cases h
    exact⟨XJ _ XN Xo (by kernel_rfl) (Xs5 _ _ _ _) ⟨⟨trivial,trivial,trivial,trivial,trivial⟩,trivial⟩ trivial,rfl⟩
  . cases h
def Xj0 (st:ST)(mm:MM)(cm:CM)(hs:st=Xab)(hm:mm=mM)(hc:cm=cM):Laws Tryz.prog:=((((Xf2 st hs).add 143 (g143 mm) (XpP mm hm))).add 144 (g144 cm) (XpO cm hc))
set_option maxRecDepth 10000 in
theorem tMet (st:ST)(mm:MM)(cm:CM)(hs:st=Xab)(hm:mm=mM)(hc:cm=cM)(k:Int)(z m t:Nat)(w:Int)(n:Nat)(op:Int)(y:Nat):Xu (Xj0 st mm cm hs hm hc) tab [107] 7 200 107 [.agg [.int .u8 k,.int .u32 (.ofNat z),.int .u64 (.ofNat m),.int .u64 (.ofNat t)],.agg [.int .u8 w,.int .u64 (.ofNat n),.int .u8 op,.int .u64 (.ofNat y)]] =
    cond (mm k z m) (cond (!cm w (Int.ofNat n) op y) (some (DV.agg [DV.int .u8 k,DV.int .u32 (Int.ofNat z),DV.int .u64 (Int.ofNat m),DV.int .u64 (Int.ofNat t)])) (cond (decide (w=1)) (cond (decide (k=1)) (some (DV.agg [DV.int .u8 k,DV.int .u32 (if true=true then if IntKind.wrap .u32 (Int.ofNat n) > Int.ofNat z then IntKind.wrap .u32 (Int.ofNat n) else Int.ofNat z else if IntKind.wrap .u32 (Int.ofNat n)<Int.ofNat z then IntKind.wrap .u32 (Int.ofNat n) else Int.ofNat z),DV.int .u64 (Int.ofNat m),DV.int .u64 (Int.ofNat t)])) (cond (decide (w=2)) (cond (decide (k=1)) (some (DV.agg [DV.int .u8 k,DV.int .u32 (IntKind.wrap .u32 (Int.ofNat n)),DV.int .u64 (Int.ofNat m),DV.int .u64 (Int.ofNat t)])) (cond (decide (w=3)) (cond (small m&&small y) (some (DV.agg [DV.int .u8 k,DV.int .u32 (Int.ofNat z),DV.int .u64 (Int.ofNat (st m op y)),DV.int .u64 (Int.ofNat t)])) none) (cond (decide (w=4)) (some (DV.agg [DV.int .u8 k,DV.int .u32 (Int.ofNat z),DV.int .u64 (Int.ofNat m),DV.int .u64 (Int.ofNat n)])) (some (DV.agg [DV.int .u8 k,DV.int .u32 (Int.ofNat z),DV.int .u64 (Int.ofNat m),DV.int .u64 (Int.ofNat t)]))))) (cond (decide (w=3)) (cond (small m&&small y) (some (DV.agg [DV.int .u8 k,DV.int .u32 (Int.ofNat z),DV.int .u64 (Int.ofNat (st m op y)),DV.int .u64 (Int.ofNat t)])) none) (cond (decide (w=4)) (some (DV.agg [DV.int .u8 k,DV.int .u32 (Int.ofNat z),DV.int .u64 (Int.ofNat m),DV.int .u64 (Int.ofNat n)])) (some (DV.agg [DV.int .u8 k,DV.int .u32 (Int.ofNat z),DV.int .u64 (Int.ofNat m),DV.int .u64 (Int.ofNat t)])))))) (cond (decide (w=2)) (cond (decide (k=1)) (some (DV.agg [DV.int .u8 k,DV.int .u32 (IntKind.wrap .u32 (Int.ofNat n)),DV.int .u64 (Int.ofNat m),DV.int .u64 (Int.ofNat t)])) (cond (decide (w=3)) (cond (small m&&small y) (some (DV.agg [DV.int .u8 k,DV.int .u32 (Int.ofNat z),DV.int .u64 (Int.ofNat (st m op y)),DV.int .u64 (Int.ofNat t)])) none) (cond (decide (w=4)) (some (DV.agg [DV.int .u8 k,DV.int .u32 (Int.ofNat z),DV.int .u64 (Int.ofNat m),DV.int .u64 (Int.ofNat n)])) (some (DV.agg [DV.int .u8 k,DV.int .u32 (Int.ofNat z),DV.int .u64 (Int.ofNat m),DV.int .u64 (Int.ofNat t)]))))) (cond (decide (w=3)) (cond (small m&&small y) (some (DV.agg [DV.int .u8 k,DV.int .u32 (Int.ofNat z),DV.int .u64 (Int.ofNat (st m op y)),DV.int .u64 (Int.ofNat t)])) none) (cond (decide (w=4)) (some (DV.agg [DV.int .u8 k,DV.int .u32 (Int.ofNat z),DV.int .u64 (Int.ofNat m),DV.int .u64 (Int.ofNat n)])) (some (DV.agg [DV.int .u8 k,DV.int .u32 (Int.ofNat z),DV.int .u64 (Int.ofNat m),DV.int .u64 (Int.ofNat t)]))))))) (some (DV.agg [DV.int .u8 k,DV.int .u32 (Int.ofNat z),DV.int .u64 (Int.ofNat m),DV.int .u64 (Int.ofNat t)])):=by kernel_rfl
abbrev AF:=Int->Nat->Nat->Nat->Int->Nat->Int->Nat->Nat
def zA:AF:=fun k z m t w n op y=>cond (mM k z m&&cM w (Int.ofNat n) op y) (cond (decide (w=1)) (cond (decide (k=1)) (cond (decide (z<n)) n z) z) (cond (decide (w=2)) (cond (decide (k=1)) n z) z)) z
def mA:AF:=fun k z m t w n op y=>cond (mM k z m&&cM w (Int.ofNat n) op y) (cond (decide (w=3)) (Xab m op y) m) m
def tA:AF:=fun k z m t w n op y=>cond (mM k z m&&cM w (Int.ofNat n) op y) (cond (decide (w=4)) n t) t
def XfT (zf mf tf:AF)(k:Int)(z m t:Nat)(w:Int)(n:Nat)(op:Int)(y:Nat):PD:=.need (small m&&small y) (.v (.agg [.int .u8 k,.int .u32 (.ofNat (zf k z m t w n op y)),.int .u64 (.ofNat (mf k z m t w n op y)),.int .u64 (.ofNat (tf k z m t w n op y))]))
theorem wrap_u32 {z:Int} (h0:0<=z)(h1:z<4294967296):IntKind.wrap .u32 z=z:=by
  show z%4294967296=z
  omega
theorem XuJ (n z:Nat):(if true=true then if Int.ofNat n > Int.ofNat z then Int.ofNat n else Int.ofNat z else if Int.ofNat n<Int.ofNat z then Int.ofNat n else Int.ofNat z)=Int.ofNat (cond (decide (z<n)) n z):=Xne z n
theorem Xp4 (k : Int) (z m t : Nat) (w : Int) (n : Nat) (op : Int) (y : Nat) (hx : m < 18446744073709551616) (hy : y < 18446744073709551616) : Xu (Xj0 Xab mM cM rfl rfl rfl) tab [107] 7 200 107 [.agg [.int .u8 k, .int .u32 (.ofNat z), .int .u64 (.ofNat m), .int .u64 (.ofNat t)], .agg [.int .u8 w, .int .u64 (.ofNat n), .int .u8 op, .int .u64 (.ofNat y)]] = some (XfT zA mA tA k z m t w n op y).val := by
  rw[tMet,sm hx,sm hy];unfold XfT;rw[PD.val_need,PD.val_v];unfold zA mA tA
  cases h1:mM k z m with
  |false=>rfl
  |true =>
    cases h2:cM w (Int.ofNat n) op y with
    |false=>rfl
    |true =>
      have e:(decide (w=1)||decide (w=2))=true->IntKind.wrap .u32 (Int.ofNat n)=Int.ofNat n:=fun hw=>by
        unfold cM at h2;rw[hw] at h2;simp only[cond_true,Bool.and_eq_true,decide_eq_true_eq] at h2
        have h3:(n:Int)<=2048:=h2.1
        exact wrap_u32 (z:=(n:Int)) (by omega) (by omega)
      by_cases w1:w=1
      . subst w1
        rw[e rfl,XuJ]
        cases decide (k=1)<;>cases decide (z<n)<;>rfl
      . by_cases w2:w=2
        . subst w2
          rw[e rfl]
          cases decide (k=1)<;>rfl
        . rw[decide_eq_false w1,decide_eq_false w2]
          by_cases w3:w=3
          . subst w3; rfl
          . rw[decide_eq_false w3]
            cases decide (w=4)<;>rfl
def XkH (zf mf tf:AF):List DV->Option PD:=fun l=>match l with
  |[.agg [.int .u8 k,.int .u32 (.ofNat z),.int .u64 (.ofNat m),.int .u64 (.ofNat t)],.agg [.int .u8 w,.int .u64 (.ofNat n),.int .u8 op,.int .u64 (.ofNat y)]]=>some (XfT zf mf tf k z m t w n op y)
  |_=>none
theorem Xtm {zf mf tf:AF}{k:Int}{z m t:Nat}{w:Int}{n:Nat}{op:Int}{y:Nat} (h:(XfT zf mf tf k z m t w n op y).ok=true):m<18446744073709551616/\y<18446744073709551616:=by
  unfold XfT at h;simp only[PD.ok_need,Bool.and_eq_true] at h
  exact⟨of_decide_eq_true h.1.1,of_decide_eq_true h.1.2⟩
theorem XiO (zf mf tf:AF)(h1:zf=zA)(h2:mf=mA)(h3:tf=tA):∀ l d,XkH zf mf tf l=some d->d.ok=true->PlainCall Tryz.prog [] 107 (toVs l) (toV d.val)/\ofVs (toVs l)=some l:=by
  intro l d h hk;subst h1 h2 h3;unfold XkH at h;split at h
  . cases h
    obtain⟨hx,hy⟩:=Xtm hk
    exact⟨XJ _ XN Xo (by kernel_rfl) (Xp4 _ _ _ _ _ _ _ _ hx hy) ⟨⟨trivial,trivial,trivial,trivial,trivial⟩,⟨trivial,trivial,trivial,trivial,trivial⟩,trivial⟩ ⟨trivial,trivial,trivial,trivial,trivial⟩,rfl⟩
  . cases h
def Xjz (zf mf tf:AF)(h1:zf=zA)(h2:mf=mA)(h3:tf=tA)(mm:MM)(hm:mm=mM):Laws Tryz.prog:=((Xj0 Xab mm cM rfl hm rfl).add 107 (XkH zf mf tf) (XiO zf mf tf h1 h2 h3))
end
end Go.Vm.YtkjjpmbpjfmbcaaGreatDoor
