/-
  The reader of package codec: its parts, by trees.
  The reader of package codec: numbers, by trees.
  Marks: which are NaN, as the program and as the document's answer tell it.
  Numbers out of texts, as the document's answer reads them.
  Metas: what a text's meta is, as the program and as the document's answer tell it.
  Changes and blocks: what a text's change is, and whether a text is a block's, as the program and as the document's answer tell it.
  Patches of blocks: what a text's patch is, as the program and as the document's answer tell it.
  Which values and patches suit a key, as the program and as the document's answer tell it.
  Which messages may be, as the program and as the document's answer tell it.
  What a message touches, and what of it lies in a range, as the program and as the document's answer tell it.
-/
import Derived.Test.YtkjjpmbpjfmbcaaGreatDoorQ5
import Derived.Test.YtkjjpmbpjfmbcaaGreatDoorQ6
import Derived.KernelRfl
set_option linter.unusedVariables false
set_option linter.unusedSimpArgs false
namespace Go.Vm.YtkjjpmbpjfmbcaaGreatDoor
open Go.Proofs
noncomputable section
theorem globals4:Tryz.prog.globals.size=7:=by kernel_rfl
noncomputable abbrev tab:=tabOf all
noncomputable def gstep (a b:Int):Int:=IntKind.wrap .u64 ((BitVec.ofInt 64 (IntKind.wrap .u64 (a*256)) ||| BitVec.ofInt 64 (IntKind.wrap .u64 b)).toNat)
theorem gstep_eq {a b:Int} (h0:0<=a) (h1:a<72057594037927936) (h2:0<=b) (h3:b<256):gstep a b=a*256+b:=by
  unfold gstep
  rw[wrap_u64 (z:=a*256) (by omega) (by omega),wrap_u64 (z:=b) h2 (by omega)]
  obtain⟨m,rfl⟩:∃ m:Nat,a=m:=⟨a.toNat,by omega⟩
  obtain⟨n,rfl⟩:∃ n:Nat,b=n:=⟨b.toNat,by omega⟩
  have e1:BitVec.ofInt 64 ((m:Int)*256)=BitVec.ofNat 64 (m*256):=by
    rw[show (m:Int)*256=((m*256:Nat):Int) by simp,BitVec.ofInt_natCast]
  have e2:BitVec.ofInt 64 (n:Int)=BitVec.ofNat 64 n:=BitVec.ofInt_natCast ..
  rw[e1,e2,BitVec.toNat_or,BitVec.toNat_ofNat,BitVec.toNat_ofNat,Nat.mod_eq_of_lt (by omega),Nat.mod_eq_of_lt (by omega)]
  have e3:m*256 ||| n=m*256+n:=by
    have:=Nat.two_pow_add_eq_or_of_lt (i:=8) (b:=n) (by omega) m
    simp only[show (2:Nat) ^ 8=256 from rfl] at this
    rw[Nat.mul_comm m 256,this]
  rw[e3,wrap_u64 (by omega) (by omega)]
  simp
noncomputable def gfold:Int->List UInt8->Int
  |a,[]=>a
  |a,b::r=>gfold (gstep a b.toNat) r
theorem gfold_eq:∀ (l:List UInt8) (a:Nat),l.length<=8->a<256 ^ (8-l.length)->gfold a l=((l.foldl (fun a b=>a*256+b.toNat) a:Nat):Int)
  |[],a,_,_=>rfl
  |b::r,a,h,ha=>by
    have hb:=b.toNat_lt
    have hl:(b::r).length=r.length+1:=rfl
    rw[hl] at h ha
    have hp:256 ^ (8-(r.length+1))<=256 ^ 7:=Nat.pow_le_pow_right (by omega) (by omega)
    have e7:(256:Nat) ^ 7=72057594037927936:=rfl
    show gfold (gstep a b.toNat) r=_
    rw[gstep_eq (by omega) (by omega) (by omega) (by omega)]
    have e:(a:Int)*256+(b.toNat:Int)=((a*256+b.toNat:Nat):Int):=by simp
    rw[e,gfold_eq r (a*256+b.toNat) (by omega) ?_]
    . rfl
    . have e1:8-r.length=(8-(r.length+1))+1:=by omega
      rw[e1,Nat.pow_succ]
      omega
theorem gfold_num (l:List UInt8) (h:l.length<=8):gfold 0 l=(numOf l:Int) :=
  gfold_eq l 0 h (Nat.pos_of_ne_zero (by simp))
noncomputable def fixedD (s:List UInt8) (z w:Int):OD :=
  .br (!decide (z=0)) (.v (.str []) [.str s,.int .i64 z]) (.br (decide (w<=0)) (.v (.str []) [.str s,.int .i64 z])
    (.br (decide ((s.length:Int)<w)) (.v (.str []) [.str [],.int .i64 10]) (.v (.str (s.take w.toNat)) [.str (s.drop w.toNat),.int .i64 z])))
theorem tree68 (s : List UInt8) (z w : Int) : treeObj (Laws.none Tryz.prog) tab [159] 7 200 159 195 [.str s, .int .i64 z] [.int .i64 w] =
    cond (!decide (z=0)) (some (.tup [.str [],.agg [.str s,.int .i64 z]])) (cond (decide (w<=0)) (some (.tup [.str [],.agg [.str s,.int .i64 z]]))
      (cond (decide ((s.length:Int)<w)) (some (.tup [.str [],.agg [.str [],.int .i64 10]]))
        (cond (decide (0<=w)&&decide (w<=(s.length:Int))) (cond (decide (0<=w)&&decide (w<=(s.length:Int))) (some (.tup [.str (s.take w.toNat),.agg [.str (s.drop w.toNat),.int .i64 z]])) none) none))):=by kernel_rfl
theorem law68 (s : List UInt8) (z w : Int) : treeObj (Laws.none Tryz.prog) tab [159] 7 200 159 195 [.str s, .int .i64 z] [.int .i64 w] = some (.tup [(fixedD s z w).val.1, .agg (fixedD s z w).val.2]) := by
  rw[tree68]
  unfold fixedD
  simp only[OD.val]
  cases h1:!decide (z=0) with
  |true=>rfl
  |false =>
    cases h2:decide (w<=0) with
    |true=>rfl
    |false =>
      cases h3:decide ((s.length:Int)<w) with
      |true=>rfl
      |false =>
        simp only[decide_eq_false_iff_not] at h2 h3
        rw[show (decide (0<=w)&&decide (w<=(s.length:Int)))=true by simp; omega]
        rfl
theorem wf_fixed (s:List UInt8) (z w:Int):(fixedD s z w).val.2.length=2/\wfs 0 (toVs (fixedD s z w).val.2)/\wf 0 (toV (fixedD s z w).val.1):=by
  unfold fixedD
  simp only[OD.val]
  split
  . exact⟨rfl,⟨trivial,trivial,trivial⟩,trivial⟩
  . split
    . exact⟨rfl,⟨trivial,trivial,trivial⟩,trivial⟩
    . split
      . exact⟨rfl,⟨trivial,trivial,trivial⟩,trivial⟩
      . exact⟨rfl,⟨trivial,trivial,trivial⟩,trivial⟩
theorem dec_rd (s:List UInt8) (z:Int):ofVs (toVs [.str s,.int .i64 z])=some [.str s,.int .i64 z]:=by
  show (match ofV (sv s),ofVs [.int .i64 z] with | some x,some l=>some (x::l) | _,_=>.none)=_
  rw[ofV_sv]; rfl
noncomputable def g68:Nat->List DV->List DV->Option OD:=fun el l r=>match el,l,r with
  |195,[.str s,.int .i64 z],[.int .i64 w]=>some (fixedD s z w)
  |_,_,_=>none
theorem g68_ok:∀ el l r d,g68 el l r=some d->d.ok=true->ObjCall Tryz.prog 159 el (toVs l) (toVs r) (toV d.val.1) (toVs d.val.2)/\ofVs (toVs l)=some l/\ofVs (toVs r)=some r:=by
  intro el l r d h ho
  unfold g68 at h
  split at h
  . rename_i s z w
    cases h
    obtain⟨h1,h2,h3⟩:=wf_fixed s z w
    exact⟨obj_by _ tab_ok globals4 (by kernel_rfl) (law68 s z w) h1 ⟨trivial,trivial,trivial⟩ h2 ⟨trivial,trivial⟩ h3,dec_rd s z,rfl⟩
  . cases h
noncomputable def laws1:Laws Tryz.prog:=((Laws.none _).addO 159 g68 g68_ok)
noncomputable def getD (kd:IntKind) (w:Nat) (s:List UInt8) (z:Int):OD :=
  .br (!decide (z=0)) (.v (.int kd 0) [.str s,.int .i64 z]) (.br (decide ((s.length:Int)<(w:Int))) (.v (.int kd 0) [.str [],.int .i64 10])
    (.v (.int kd (numOf (s.take w):Int)) [.str (s.drop w),.int .i64 z]))
theorem wf_get (kd:IntKind) (w:Nat) (s:List UInt8) (z:Int):(getD kd w s z).val.2.length=2/\wfs 0 (toVs (getD kd w s z).val.2)/\wf 0 (toV (getD kd w s z).val.1):=by
  unfold getD
  simp only[OD.val]
  split
  . exact⟨rfl,⟨trivial,trivial,trivial⟩,trivial⟩
  . split
    . exact⟨rfl,⟨trivial,trivial,trivial⟩,trivial⟩
    . exact⟨rfl,⟨trivial,trivial,trivial⟩,trivial⟩
theorem get_short (kd:IntKind) (w:Nat) (s:List UInt8) (z:Int) (h:s.length<w):cond (!decide (z=0)) (some (DV.tup [.int kd 0,.agg [.str s,.int .i64 z]])) (some (.tup [.int kd 0,.agg [.str [],.int .i64 10]])) =
    some (.tup [(getD kd w s z).val.1,.agg (getD kd w s z).val.2]):=by
  unfold getD
  simp only[OD.val]
  rw[show decide ((s.length:Int)<(w:Int))=true by simpa using h]
  cases !decide (z=0)<;>rfl
theorem get_long (kd:IntKind) (w:Nat) (s:List UInt8) (z x:Int) (h:w<=s.length) (hx:x=(numOf (s.take w):Int)) :
    cond (!decide (z=0)) (some (DV.tup [.int kd 0,.agg [.str s,.int .i64 z]])) (cond (decide ((s.length:Int)<(w:Int))) (some (.tup [.int kd 0,.agg [.str [],.int .i64 10]])) (some (.tup [.int kd x,.agg [.str (s.drop w),.int .i64 z]]))) =
    some (.tup [(getD kd w s z).val.1,.agg (getD kd w s z).val.2]):=by
  unfold getD
  simp only[OD.val]
  rw[show decide ((s.length:Int)<(w:Int))=false by simpa using h,hx]
  cases !decide (z=0)<;>rfl
theorem num_le (l:List UInt8) (w:Nat) (h:l.length=w):(numOf l:Int)<((256 ^ w:Nat):Int):=by
  have:=numOf_lt l
  rw[h] at this
  exact_mod_cast this
theorem tree67_0 (z:Int):treeObj laws1 tab [158] 7 200 158 195 [.str [],.int .i64 z] [.int .i64 1]=cond (!decide (z=0)) (some (DV.tup [.int .u8 0,.agg [.str [],.int .i64 z]])) (some (.tup [.int .u8 0,.agg [.str [],.int .i64 10]])):=by kernel_rfl
theorem tree67_long (b0:UInt8) (r:List UInt8) (z:Int):treeObj laws1 tab [158] 7 200 158 195 [.str (b0::r),.int .i64 z] [.int .i64 1] =
    cond (!decide (z=0)) (some (DV.tup [.int .u8 0,.agg [.str (b0::r),.int .i64 z]])) (cond (decide (((b0::r).length:Int)<1)) (some (.tup [.int .u8 0,.agg [.str [],.int .i64 10]])) (some (.tup [.int .u8 (IntKind.wrap .u8 (gfold 0 [b0])),.agg [.str r,.int .i64 z]]))):=by kernel_rfl
theorem law67 (s:List UInt8) (z:Int):treeObj laws1 tab [158] 7 200 158 195 [.str s,.int .i64 z] [.int .i64 1]=some (.tup [(getD .u8 1 s z).val.1,.agg (getD .u8 1 s z).val.2]):=match s with
  |[]=>(tree67_0  z).trans (get_short .u8 1 [] z (by simp))
  |b0::r=>(tree67_long b0 r z).trans (get_long .u8 1 (b0::r) z _ (by simp) (by
      have e:(numOf ((b0::r).take 1):Int)=numOf [b0]:=rfl
      have h1:=num_le [b0] 1 rfl
      rw[e,gfold_num [b0] (by simp)]
      rw[wrap_u8 (by omega) (by simp at h1; omega)]))
noncomputable def g67:Nat->List DV->List DV->Option OD:=fun el l r=>match el,l,r with
  |195,[.str s,.int .i64 z],[.int .i64 1]=>some (getD .u8 1 s z)
  |_,_,_=>none
theorem g67_ok:∀ el l r d,g67 el l r=some d->d.ok=true->ObjCall Tryz.prog 158 el (toVs l) (toVs r) (toV d.val.1) (toVs d.val.2)/\ofVs (toVs l)=some l/\ofVs (toVs r)=some r:=by
  intro el l r d h ho
  unfold g67 at h
  split at h
  . rename_i s z
    cases h
    obtain⟨h1,h2,h3⟩:=wf_get .u8 1 s z
    exact⟨obj_by _ tab_ok globals4 (by kernel_rfl) (law67 s z) h1 ⟨trivial,trivial,trivial⟩ h2 ⟨trivial,trivial⟩ h3,dec_rd s z,rfl⟩
  . cases h
theorem tree99_0 (z:Int):treeObj laws1 tab [180] 7 200 180 195 [.str [],.int .i64 z] [.int .i64 2]=cond (!decide (z=0)) (some (DV.tup [.int .u16 0,.agg [.str [],.int .i64 z]])) (some (.tup [.int .u16 0,.agg [.str [],.int .i64 10]])):=by kernel_rfl
theorem tree99_1 (b0:UInt8) (z:Int):treeObj laws1 tab [180] 7 200 180 195 [.str [b0],.int .i64 z] [.int .i64 2]=cond (!decide (z=0)) (some (DV.tup [.int .u16 0,.agg [.str [b0],.int .i64 z]])) (some (.tup [.int .u16 0,.agg [.str [],.int .i64 10]])):=by kernel_rfl
theorem tree99_long (b0 b1:UInt8) (r:List UInt8) (z:Int):treeObj laws1 tab [180] 7 200 180 195 [.str (b0::b1::r),.int .i64 z] [.int .i64 2] =
    cond (!decide (z=0)) (some (DV.tup [.int .u16 0,.agg [.str (b0::b1::r),.int .i64 z]])) (cond (decide (((b0::b1::r).length:Int)<2)) (some (.tup [.int .u16 0,.agg [.str [],.int .i64 10]])) (some (.tup [.int .u16 (IntKind.wrap .u16 (gfold 0 [b0,b1])),.agg [.str r,.int .i64 z]]))):=by kernel_rfl
theorem law99 (s:List UInt8) (z:Int):treeObj laws1 tab [180] 7 200 180 195 [.str s,.int .i64 z] [.int .i64 2]=some (.tup [(getD .u16 2 s z).val.1,.agg (getD .u16 2 s z).val.2]):=match s with
  |[]=>(tree99_0  z).trans (get_short .u16 2 [] z (by simp))
  |[b0]=>(tree99_1 b0 z).trans (get_short .u16 2 [b0] z (by simp))
  |b0::b1::r=>(tree99_long b0 b1 r z).trans (get_long .u16 2 (b0::b1::r) z _ (by simp) (by
      have e:(numOf ((b0::b1::r).take 2):Int)=numOf [b0,b1]:=rfl
      have h1:=num_le [b0,b1] 2 rfl
      rw[e,gfold_num [b0,b1] (by simp)]
      rw[wrap_u16 (by omega) (by simp at h1; omega)]))
noncomputable def g99:Nat->List DV->List DV->Option OD:=fun el l r=>match el,l,r with
  |195,[.str s,.int .i64 z],[.int .i64 2]=>some (getD .u16 2 s z)
  |_,_,_=>none
theorem g99_ok:∀ el l r d,g99 el l r=some d->d.ok=true->ObjCall Tryz.prog 180 el (toVs l) (toVs r) (toV d.val.1) (toVs d.val.2)/\ofVs (toVs l)=some l/\ofVs (toVs r)=some r:=by
  intro el l r d h ho
  unfold g99 at h
  split at h
  . rename_i s z
    cases h
    obtain⟨h1,h2,h3⟩:=wf_get .u16 2 s z
    exact⟨obj_by _ tab_ok globals4 (by kernel_rfl) (law99 s z) h1 ⟨trivial,trivial,trivial⟩ h2 ⟨trivial,trivial⟩ h3,dec_rd s z,rfl⟩
  . cases h
theorem tree119_0 (z:Int):treeObj laws1 tab [163] 7 200 163 195 [.str [],.int .i64 z] [.int .i64 4]=cond (!decide (z=0)) (some (DV.tup [.int .u32 0,.agg [.str [],.int .i64 z]])) (some (.tup [.int .u32 0,.agg [.str [],.int .i64 10]])):=by kernel_rfl
theorem tree119_1 (b0:UInt8) (z:Int):treeObj laws1 tab [163] 7 200 163 195 [.str [b0],.int .i64 z] [.int .i64 4]=cond (!decide (z=0)) (some (DV.tup [.int .u32 0,.agg [.str [b0],.int .i64 z]])) (some (.tup [.int .u32 0,.agg [.str [],.int .i64 10]])):=by kernel_rfl
theorem tree119_2 (b0 b1:UInt8) (z:Int):treeObj laws1 tab [163] 7 200 163 195 [.str [b0,b1],.int .i64 z] [.int .i64 4]=cond (!decide (z=0)) (some (DV.tup [.int .u32 0,.agg [.str [b0,b1],.int .i64 z]])) (some (.tup [.int .u32 0,.agg [.str [],.int .i64 10]])):=by kernel_rfl
theorem tree119_3 (b0 b1 b2:UInt8) (z:Int):treeObj laws1 tab [163] 7 200 163 195 [.str [b0,b1,b2],.int .i64 z] [.int .i64 4]=cond (!decide (z=0)) (some (DV.tup [.int .u32 0,.agg [.str [b0,b1,b2],.int .i64 z]])) (some (.tup [.int .u32 0,.agg [.str [],.int .i64 10]])):=by kernel_rfl
theorem tree119_long (b0 b1 b2 b3:UInt8) (r:List UInt8) (z:Int):treeObj laws1 tab [163] 7 200 163 195 [.str (b0::b1::b2::b3::r),.int .i64 z] [.int .i64 4] =
    cond (!decide (z=0)) (some (DV.tup [.int .u32 0,.agg [.str (b0::b1::b2::b3::r),.int .i64 z]])) (cond (decide (((b0::b1::b2::b3::r).length:Int)<4)) (some (.tup [.int .u32 0,.agg [.str [],.int .i64 10]])) (some (.tup [.int .u32 (IntKind.wrap .u32 (gfold 0 [b0,b1,b2,b3])),.agg [.str r,.int .i64 z]]))):=by kernel_rfl
theorem law119 (s:List UInt8) (z:Int):treeObj laws1 tab [163] 7 200 163 195 [.str s,.int .i64 z] [.int .i64 4]=some (.tup [(getD .u32 4 s z).val.1,.agg (getD .u32 4 s z).val.2]):=match s with
  |[]=>(tree119_0  z).trans (get_short .u32 4 [] z (by simp))
  |[b0]=>(tree119_1 b0 z).trans (get_short .u32 4 [b0] z (by simp))
  |[b0,b1]=>(tree119_2 b0 b1 z).trans (get_short .u32 4 [b0,b1] z (by simp))
  |[b0,b1,b2]=>(tree119_3 b0 b1 b2 z).trans (get_short .u32 4 [b0,b1,b2] z (by simp))
  |b0::b1::b2::b3::r=>(tree119_long b0 b1 b2 b3 r z).trans (get_long .u32 4 (b0::b1::b2::b3::r) z _ (by simp) (by
      have e:(numOf ((b0::b1::b2::b3::r).take 4):Int)=numOf [b0,b1,b2,b3]:=rfl
      have h1:=num_le [b0,b1,b2,b3] 4 rfl
      rw[e,gfold_num [b0,b1,b2,b3] (by simp)]
      rw[wrap_u32 (by omega) (by simp at h1; omega)]))
noncomputable def g119:Nat->List DV->List DV->Option OD:=fun el l r=>match el,l,r with
  |195,[.str s,.int .i64 z],[.int .i64 4]=>some (getD .u32 4 s z)
  |_,_,_=>none
theorem g119_ok:∀ el l r d,g119 el l r=some d->d.ok=true->ObjCall Tryz.prog 163 el (toVs l) (toVs r) (toV d.val.1) (toVs d.val.2)/\ofVs (toVs l)=some l/\ofVs (toVs r)=some r:=by
  intro el l r d h ho
  unfold g119 at h
  split at h
  . rename_i s z
    cases h
    obtain⟨h1,h2,h3⟩:=wf_get .u32 4 s z
    exact⟨obj_by _ tab_ok globals4 (by kernel_rfl) (law119 s z) h1 ⟨trivial,trivial,trivial⟩ h2 ⟨trivial,trivial⟩ h3,dec_rd s z,rfl⟩
  . cases h
theorem tree120_0 (z:Int):treeObj laws1 tab [164] 7 200 164 195 [.str [],.int .i64 z] [.int .i64 8]=cond (!decide (z=0)) (some (DV.tup [.int .u64 0,.agg [.str [],.int .i64 z]])) (some (.tup [.int .u64 0,.agg [.str [],.int .i64 10]])):=by kernel_rfl
theorem tree120_1 (b0:UInt8) (z:Int):treeObj laws1 tab [164] 7 200 164 195 [.str [b0],.int .i64 z] [.int .i64 8]=cond (!decide (z=0)) (some (DV.tup [.int .u64 0,.agg [.str [b0],.int .i64 z]])) (some (.tup [.int .u64 0,.agg [.str [],.int .i64 10]])):=by kernel_rfl
theorem tree120_2 (b0 b1:UInt8) (z:Int):treeObj laws1 tab [164] 7 200 164 195 [.str [b0,b1],.int .i64 z] [.int .i64 8]=cond (!decide (z=0)) (some (DV.tup [.int .u64 0,.agg [.str [b0,b1],.int .i64 z]])) (some (.tup [.int .u64 0,.agg [.str [],.int .i64 10]])):=by kernel_rfl
theorem tree120_3 (b0 b1 b2:UInt8) (z:Int):treeObj laws1 tab [164] 7 200 164 195 [.str [b0,b1,b2],.int .i64 z] [.int .i64 8]=cond (!decide (z=0)) (some (DV.tup [.int .u64 0,.agg [.str [b0,b1,b2],.int .i64 z]])) (some (.tup [.int .u64 0,.agg [.str [],.int .i64 10]])):=by kernel_rfl
theorem tree120_4 (b0 b1 b2 b3:UInt8) (z:Int):treeObj laws1 tab [164] 7 200 164 195 [.str [b0,b1,b2,b3],.int .i64 z] [.int .i64 8]=cond (!decide (z=0)) (some (DV.tup [.int .u64 0,.agg [.str [b0,b1,b2,b3],.int .i64 z]])) (some (.tup [.int .u64 0,.agg [.str [],.int .i64 10]])):=by kernel_rfl
theorem tree120_5 (b0 b1 b2 b3 b4:UInt8) (z:Int):treeObj laws1 tab [164] 7 200 164 195 [.str [b0,b1,b2,b3,b4],.int .i64 z] [.int .i64 8]=cond (!decide (z=0)) (some (DV.tup [.int .u64 0,.agg [.str [b0,b1,b2,b3,b4],.int .i64 z]])) (some (.tup [.int .u64 0,.agg [.str [],.int .i64 10]])):=by kernel_rfl
theorem tree120_6 (b0 b1 b2 b3 b4 b5:UInt8) (z:Int):treeObj laws1 tab [164] 7 200 164 195 [.str [b0,b1,b2,b3,b4,b5],.int .i64 z] [.int .i64 8]=cond (!decide (z=0)) (some (DV.tup [.int .u64 0,.agg [.str [b0,b1,b2,b3,b4,b5],.int .i64 z]])) (some (.tup [.int .u64 0,.agg [.str [],.int .i64 10]])):=by kernel_rfl
theorem tree120_7 (b0 b1 b2 b3 b4 b5 b6:UInt8) (z:Int):treeObj laws1 tab [164] 7 200 164 195 [.str [b0,b1,b2,b3,b4,b5,b6],.int .i64 z] [.int .i64 8]=cond (!decide (z=0)) (some (DV.tup [.int .u64 0,.agg [.str [b0,b1,b2,b3,b4,b5,b6],.int .i64 z]])) (some (.tup [.int .u64 0,.agg [.str [],.int .i64 10]])):=by kernel_rfl
theorem tree120_long (b0 b1 b2 b3 b4 b5 b6 b7:UInt8) (r:List UInt8) (z:Int):treeObj laws1 tab [164] 7 200 164 195 [.str (b0::b1::b2::b3::b4::b5::b6::b7::r),.int .i64 z] [.int .i64 8] =
    cond (!decide (z=0)) (some (DV.tup [.int .u64 0,.agg [.str (b0::b1::b2::b3::b4::b5::b6::b7::r),.int .i64 z]])) (cond (decide (((b0::b1::b2::b3::b4::b5::b6::b7::r).length:Int)<8)) (some (.tup [.int .u64 0,.agg [.str [],.int .i64 10]])) (some (.tup [.int .u64 (gfold 0 [b0,b1,b2,b3,b4,b5,b6,b7]),.agg [.str r,.int .i64 z]]))):=by kernel_rfl
theorem law120 (s:List UInt8) (z:Int):treeObj laws1 tab [164] 7 200 164 195 [.str s,.int .i64 z] [.int .i64 8]=some (.tup [(getD .u64 8 s z).val.1,.agg (getD .u64 8 s z).val.2]):=match s with
  |[]=>(tree120_0  z).trans (get_short .u64 8 [] z (by simp))
  |[b0]=>(tree120_1 b0 z).trans (get_short .u64 8 [b0] z (by simp))
  |[b0,b1]=>(tree120_2 b0 b1 z).trans (get_short .u64 8 [b0,b1] z (by simp))
  |[b0,b1,b2]=>(tree120_3 b0 b1 b2 z).trans (get_short .u64 8 [b0,b1,b2] z (by simp))
  |[b0,b1,b2,b3]=>(tree120_4 b0 b1 b2 b3 z).trans (get_short .u64 8 [b0,b1,b2,b3] z (by simp))
  |[b0,b1,b2,b3,b4]=>(tree120_5 b0 b1 b2 b3 b4 z).trans (get_short .u64 8 [b0,b1,b2,b3,b4] z (by simp))
  |[b0,b1,b2,b3,b4,b5]=>(tree120_6 b0 b1 b2 b3 b4 b5 z).trans (get_short .u64 8 [b0,b1,b2,b3,b4,b5] z (by simp))
  |[b0,b1,b2,b3,b4,b5,b6]=>(tree120_7 b0 b1 b2 b3 b4 b5 b6 z).trans (get_short .u64 8 [b0,b1,b2,b3,b4,b5,b6] z (by simp))
  |b0::b1::b2::b3::b4::b5::b6::b7::r=>(tree120_long b0 b1 b2 b3 b4 b5 b6 b7 r z).trans (get_long .u64 8 (b0::b1::b2::b3::b4::b5::b6::b7::r) z _ (by simp) (by
      have e:(numOf ((b0::b1::b2::b3::b4::b5::b6::b7::r).take 8):Int)=numOf [b0,b1,b2,b3,b4,b5,b6,b7]:=rfl
      have h1:=num_le [b0,b1,b2,b3,b4,b5,b6,b7] 8 rfl
      rw[e,gfold_num [b0,b1,b2,b3,b4,b5,b6,b7] (by simp)]))
noncomputable def g120:Nat->List DV->List DV->Option OD:=fun el l r=>match el,l,r with
  |195,[.str s,.int .i64 z],[.int .i64 8]=>some (getD .u64 8 s z)
  |_,_,_=>none
theorem g120_ok:∀ el l r d,g120 el l r=some d->d.ok=true->ObjCall Tryz.prog 164 el (toVs l) (toVs r) (toV d.val.1) (toVs d.val.2)/\ofVs (toVs l)=some l/\ofVs (toVs r)=some r:=by
  intro el l r d h ho
  unfold g120 at h
  split at h
  . rename_i s z
    cases h
    obtain⟨h1,h2,h3⟩:=wf_get .u64 8 s z
    exact⟨obj_by _ tab_ok globals4 (by kernel_rfl) (law120 s z) h1 ⟨trivial,trivial,trivial⟩ h2 ⟨trivial,trivial⟩ h3,dec_rd s z,rfl⟩
  . cases h
noncomputable def laws2:Laws Tryz.prog:=((((laws1.addO 158 g67 g67_ok).addO 180 g99 g99_ok).addO 163 g119 g119_ok).addO 164 g120 g120_ok)
noncomputable def nanN (m:Nat):Bool:=decide (9218868437227405312<m%9223372036854775808)
theorem order_nan (m:Nat):(FloatKind.f64.format.order m m != some .eq)=nanN m:=by
  have key:∀ d:Ieee.Datum,(d.order d != some .eq)=d.isNaN:=by
    intro d
    cases d with
    |nan s f=>rfl
    |infinity s=>cases s<;>rfl
    |number s a i =>
      simp only[Ieee.Datum.order,Ieee.Datum.isNaN]
      have:∀ z:Int,compare z z=.eq:=fun z=>by simp[compare,compareOfLessAndEq]
      rw[this]; rfl
  show ((FloatKind.f64.format.read m).order (FloatKind.f64.format.read m) != some .eq)=_
  rw[key]
  unfold Ieee.Format.read nanN
  have e1:FloatKind.f64.format.signWeight=9223372036854775808:=rfl
  have e2:FloatKind.f64.format.infRung=9218868437227405312:=rfl
  have e3:FloatKind.f64.format.binade=4503599627370496:=rfl
  simp only[e1,e2,e3]
  split
  . rename_i h; simp only[Ieee.Datum.isNaN]; symm; simpa using by omega
  . split
    . rename_i h; simp only[Ieee.Datum.isNaN]; symm; simpa using by omega
    . split
      . rename_i h; simp only[Ieee.Datum.isNaN]; symm; simpa using by omega
      . rename_i h; simp only[Ieee.Datum.isNaN]; symm; simpa using by omega
noncomputable def quietD (n:Nat):PD:=.br (nanN n) (.v (.int .u64 9221120237041090561)) (.v (.int .u64 (n:Int)))
theorem tree121 (n:Nat):treeOf laws2 tab [165] 7 200 165 [.int .u64 (.ofNat n)]=cond (FloatKind.f64.format.order n n != some .eq) (some (.int .u64 9221120237041090561)) (some (.int .u64 (.ofNat n))):=by kernel_rfl
theorem law121 (n:Nat):treeOf laws2 tab [165] 7 200 165 [.int .u64 (.ofNat n)]=some (quietD n).val:=by
  rw[tree121,order_nan]
  unfold quietD
  simp only[PD.val]
  cases nanN n<;>rfl
theorem wf_quiet (n:Nat):wf 0 (toV (quietD n).val):=by
  unfold quietD
  simp only[PD.val]
  split<;>trivial
noncomputable def g121:List DV->Option PD:=fun l=>match l with
  |[.int .u64 (.ofNat n)]=>some (quietD n)
  |_=>none
theorem g121_ok:∀ l d,g121 l=some d->d.ok=true->PlainCall Tryz.prog [] 165 (toVs l) (toV d.val)/\ofVs (toVs l)=some l:=by
  intro l d h ho
  unfold g121 at h
  split at h
  . rename_i n
    cases h
    exact⟨plain_by _ tab_ok globals4 (by kernel_rfl) (law121 n) ⟨trivial,trivial⟩ (wf_quiet n),rfl⟩
  . cases h
noncomputable def laws3:Laws Tryz.prog:=((laws2.add 165 g121 g121_ok))
noncomputable def hstep (a b:Int):Int:=IntKind.wrap .u64 (IntKind.wrap .u64 (a*256)+IntKind.wrap .u64 b)
noncomputable def hfold:Int->List UInt8->Int
  |a,[]=>a
  |a,b::r=>hfold (hstep a b.toNat) r
noncomputable def laws4:Laws Tryz.prog:=(laws3)
theorem cond_dec {α:Type}{p:Prop} [Decidable p] (a b:α):cond (decide p) a b=if p then a else b:=by by_cases h:p<;>simp[h]
theorem cond_ndec {α:Type}{p:Prop} [Decidable p] (a b:α):cond (!decide p) a b=if p then b else a:=by by_cases h:p<;>simp[h]
theorem cond_and {α:Type} (x y:Bool) (a b:α):cond (x&&y) a b=cond x (cond y a b) b:=by cases x<;>rfl
theorem cond_or {α:Type} (x y:Bool) (a b:α):cond (x||y) a b=cond x a (cond y a b):=by cases x<;>rfl
theorem cond_nn {α:Type} (x:Bool) (a b:α):cond (!x) a b=cond x b a:=by cases x<;>rfl
theorem ite_l {α:Type}{c:Prop} [Decidable c] {a b r:α} (ht:c->a=r) (hf:¬ c->b=r):(if c then a else b)=r:=by
  by_cases h:c
  . rw[if_pos h]; exact ht h
  . rw[if_neg h]; exact hf h
theorem ite_r {α:Type}{c:Prop} [Decidable c] {a b r:α} (ht:c->r=a) (hf:¬ c->r=b):r=(if c then a else b):=by
  by_cases h:c
  . rw[if_pos h]; exact ht h
  . rw[if_neg h]; exact hf h
theorem pd_v {x:DV}:some (PD.v x).val=some x:=rfl
theorem pd_br {b:Bool}{t f:PD}:some (PD.br b t f).val=cond b (some t.val) (some f.val):=by cases b<;>rfl
theorem num_take (l:List UInt8) (n:Nat):numOf (l.take n)<256 ^ n:=by
  have:=numOf_lt (l.take n)
  exact Nat.lt_of_lt_of_le this (Nat.pow_le_pow_right (by omega) (by simp; omega))
theorem num_take1 (l:List UInt8):numOf (l.take 1)<256:=num_take l 1
theorem num_take2 (l:List UInt8):numOf (l.take 2)<65536:=num_take l 2
theorem num_take4 (l:List UInt8):numOf (l.take 4)<4294967296:=num_take l 4
noncomputable def errM (e:Int):DV:=.tup [.agg [.int .u8 0,.int .u32 0,.int .u64 0,.int .u64 0],.int .i64 e]
noncomputable def okM (k z m t:Nat):DV:=.tup [.agg [.int .u8 (k:Int),.int .u32 (z:Int),.int .u64 (m:Int),.int .u64 (t:Int)],.int .i64 0]
noncomputable def metaMay (k z m:Nat):Bool:=decide (k=1/\z<=2048∨k=2/\z=0)&&(!nanN m||decide (m=9221120237041090561))
noncomputable def metaOk (s:List UInt8):Bool:=metaMay (numOf (s.take 1)) (numOf ((s.drop 1).take 4)) (numOf ((s.drop 5).take 8))
noncomputable def metaD (s:List UInt8):PD:=.br (decide (s.length<21)) (.v (errM 10)) (.br (decide (21<s.length)) (.v (errM 4))
  (.br (metaOk s) (.v (okM (numOf (s.take 1)) (numOf ((s.drop 1).take 4)) (numOf ((s.drop 5).take 8)) (numOf ((s.drop 13).take 8)))) (.v (errM 4))))
set_option maxRecDepth 10000 in
theorem tree74 (s:List UInt8):treeOf laws4 tab [132,133,134,136,104,140,141,142,143] 7 200 104 [.str s] =
    cond (decide ((↑s.length:Int)<(↑1:Int))) (some (.tup [.agg [.int .u8 0,.int .u32 0,.int .u64 0,.int .u64 0],.int .i64 10])) (cond (decide ((↑(List.length (List.drop 1 s)):Int)<(↑4:Int))) (some (.tup [.agg [.int .u8 0,.int .u32 0,.int .u64 0,.int .u64 0],.int .i64 10])) (cond (decide ((↑(List.length (List.drop 4 (List.drop 1 s))):Int)<(↑8:Int))) (some (.tup [.agg [.int .u8 0,.int .u32 0,.int .u64 0,.int .u64 0],.int .i64 10])) (cond (decide ((↑(List.length (List.drop 8 (List.drop 4 (List.drop 1 s)))):Int)<(↑8:Int))) (some (.tup [.agg [.int .u8 0,.int .u32 0,.int .u64 0,.int .u64 0],.int .i64 10])) (cond (!decide (List.drop 8 (List.drop 8 (List.drop 4 (List.drop 1 s)))=[])) (some (.tup [.agg [.int .u8 0,.int .u32 0,.int .u64 0,.int .u64 0],.int .i64 4])) (cond (!decide ((↑(numOf (List.take 1 s)):Int)=1)) (cond (!decide ((↑(numOf (List.take 1 s)):Int)=2)) (some (.tup [.agg [.int .u8 0,.int .u32 0,.int .u64 0,.int .u64 0],.int .i64 4])) (cond (decide (2048<(↑(numOf (List.take 4 (List.drop 1 s))):Int))) (some (.tup [.agg [.int .u8 0,.int .u32 0,.int .u64 0,.int .u64 0],.int .i64 4])) (cond (decide ((↑(numOf (List.take 1 s)):Int)=2)) (cond (decide (0<(↑(numOf (List.take 4 (List.drop 1 s))):Int))) (some (.tup [.agg [.int .u8 0,.int .u32 0,.int .u64 0,.int .u64 0],.int .i64 4])) (cond (nanN (numOf (List.take 8 (List.drop 4 (List.drop 1 s))))) (cond (!decide (9221120237041090561=(↑(numOf (List.take 8 (List.drop 4 (List.drop 1 s)))):Int))) (some (.tup [.agg [.int .u8 0,.int .u32 0,.int .u64 0,.int .u64 0],.int .i64 4])) (some (.tup [.agg [.int .u8 (↑(numOf (List.take 1 s)):Int),.int .u32 (↑(numOf (List.take 4 (List.drop 1 s))):Int),.int .u64 (↑(numOf (List.take 8 (List.drop 4 (List.drop 1 s)))):Int),.int .u64 (↑(numOf (List.take 8 (List.drop 8 (List.drop 4 (List.drop 1 s))))):Int)],.int .i64 0]))) (cond (!decide ((↑(numOf (List.take 8 (List.drop 4 (List.drop 1 s)))):Int)=(↑(numOf (List.take 8 (List.drop 4 (List.drop 1 s)))):Int))) (some (.tup [.agg [.int .u8 0,.int .u32 0,.int .u64 0,.int .u64 0],.int .i64 4])) (some (.tup [.agg [.int .u8 (↑(numOf (List.take 1 s)):Int),.int .u32 (↑(numOf (List.take 4 (List.drop 1 s))):Int),.int .u64 (↑(numOf (List.take 8 (List.drop 4 (List.drop 1 s)))):Int),.int .u64 (↑(numOf (List.take 8 (List.drop 8 (List.drop 4 (List.drop 1 s))))):Int)],.int .i64 0]))))) (cond (nanN (numOf (List.take 8 (List.drop 4 (List.drop 1 s))))) (cond (!decide (9221120237041090561=(↑(numOf (List.take 8 (List.drop 4 (List.drop 1 s)))):Int))) (some (.tup [.agg [.int .u8 0,.int .u32 0,.int .u64 0,.int .u64 0],.int .i64 4])) (some (.tup [.agg [.int .u8 (↑(numOf (List.take 1 s)):Int),.int .u32 (↑(numOf (List.take 4 (List.drop 1 s))):Int),.int .u64 (↑(numOf (List.take 8 (List.drop 4 (List.drop 1 s)))):Int),.int .u64 (↑(numOf (List.take 8 (List.drop 8 (List.drop 4 (List.drop 1 s))))):Int)],.int .i64 0]))) (cond (!decide ((↑(numOf (List.take 8 (List.drop 4 (List.drop 1 s)))):Int)=(↑(numOf (List.take 8 (List.drop 4 (List.drop 1 s)))):Int))) (some (.tup [.agg [.int .u8 0,.int .u32 0,.int .u64 0,.int .u64 0],.int .i64 4])) (some (.tup [.agg [.int .u8 (↑(numOf (List.take 1 s)):Int),.int .u32 (↑(numOf (List.take 4 (List.drop 1 s))):Int),.int .u64 (↑(numOf (List.take 8 (List.drop 4 (List.drop 1 s)))):Int),.int .u64 (↑(numOf (List.take 8 (List.drop 8 (List.drop 4 (List.drop 1 s))))):Int)],.int .i64 0]))))))) (cond (decide (2048<(↑(numOf (List.take 4 (List.drop 1 s))):Int))) (some (.tup [.agg [.int .u8 0,.int .u32 0,.int .u64 0,.int .u64 0],.int .i64 4])) (cond (decide ((↑(numOf (List.take 1 s)):Int)=2)) (cond (decide (0<(↑(numOf (List.take 4 (List.drop 1 s))):Int))) (some (.tup [.agg [.int .u8 0,.int .u32 0,.int .u64 0,.int .u64 0],.int .i64 4])) (cond (nanN (numOf (List.take 8 (List.drop 4 (List.drop 1 s))))) (cond (!decide (9221120237041090561=(↑(numOf (List.take 8 (List.drop 4 (List.drop 1 s)))):Int))) (some (.tup [.agg [.int .u8 0,.int .u32 0,.int .u64 0,.int .u64 0],.int .i64 4])) (some (.tup [.agg [.int .u8 (↑(numOf (List.take 1 s)):Int),.int .u32 (↑(numOf (List.take 4 (List.drop 1 s))):Int),.int .u64 (↑(numOf (List.take 8 (List.drop 4 (List.drop 1 s)))):Int),.int .u64 (↑(numOf (List.take 8 (List.drop 8 (List.drop 4 (List.drop 1 s))))):Int)],.int .i64 0]))) (cond (!decide ((↑(numOf (List.take 8 (List.drop 4 (List.drop 1 s)))):Int)=(↑(numOf (List.take 8 (List.drop 4 (List.drop 1 s)))):Int))) (some (.tup [.agg [.int .u8 0,.int .u32 0,.int .u64 0,.int .u64 0],.int .i64 4])) (some (.tup [.agg [.int .u8 (↑(numOf (List.take 1 s)):Int),.int .u32 (↑(numOf (List.take 4 (List.drop 1 s))):Int),.int .u64 (↑(numOf (List.take 8 (List.drop 4 (List.drop 1 s)))):Int),.int .u64 (↑(numOf (List.take 8 (List.drop 8 (List.drop 4 (List.drop 1 s))))):Int)],.int .i64 0]))))) (cond (nanN (numOf (List.take 8 (List.drop 4 (List.drop 1 s))))) (cond (!decide (9221120237041090561=(↑(numOf (List.take 8 (List.drop 4 (List.drop 1 s)))):Int))) (some (.tup [.agg [.int .u8 0,.int .u32 0,.int .u64 0,.int .u64 0],.int .i64 4])) (some (.tup [.agg [.int .u8 (↑(numOf (List.take 1 s)):Int),.int .u32 (↑(numOf (List.take 4 (List.drop 1 s))):Int),.int .u64 (↑(numOf (List.take 8 (List.drop 4 (List.drop 1 s)))):Int),.int .u64 (↑(numOf (List.take 8 (List.drop 8 (List.drop 4 (List.drop 1 s))))):Int)],.int .i64 0]))) (cond (!decide ((↑(numOf (List.take 8 (List.drop 4 (List.drop 1 s)))):Int)=(↑(numOf (List.take 8 (List.drop 4 (List.drop 1 s)))):Int))) (some (.tup [.agg [.int .u8 0,.int .u32 0,.int .u64 0,.int .u64 0],.int .i64 4])) (some (.tup [.agg [.int .u8 (↑(numOf (List.take 1 s)):Int),.int .u32 (↑(numOf (List.take 4 (List.drop 1 s))):Int),.int .u64 (↑(numOf (List.take 8 (List.drop 4 (List.drop 1 s)))):Int),.int .u64 (↑(numOf (List.take 8 (List.drop 8 (List.drop 4 (List.drop 1 s))))):Int)],.int .i64 0]))))))))))):=by kernel_rfl
theorem law74 (s:List UInt8):treeOf laws4 tab [132,133,134,136,104,140,141,142,143] 7 200 104 [.str s]=some (metaD s).val:=by
  rw[tree74]
  unfold metaD metaOk metaMay errM okM
  simp only[pd_br,pd_v,List.drop_drop,Nat.reduceAdd,List.length_drop,cond_and,cond_or,cond_nn,cond_dec,cond_ndec,List.drop_eq_nil_iff,if_true,if_false]
  cases nanN (numOf ((s.drop 5).take 8))<;>simp only[cond_true,cond_false]
  all_goals repeat' (first | with_reducible rfl | (refine ite_l (fun _=>?_) (fun _=>?_)) | (refine ite_r (fun _=>?_) (fun _=>?_)) | (exfalso; omega))
theorem wf_meta (s:List UInt8):wf 0 (toV (metaD s).val):=by
  unfold metaD
  simp only[PD.val_br,PD.val_v,cond_and,cond_or,cond_nn,cond_dec]
  repeat' first | exact⟨⟨trivial,trivial,trivial,trivial,trivial⟩,trivial,trivial⟩ | split | (cases metaOk s)
theorem dec_s (s:List UInt8):ofVs (toVs [.str s])=some [.str s]:=by
  show (match ofV (sv s),ofVs [] with | some x,some l=>some (x::l) | _,_=>.none)=_
  rw[ofV_sv]; rfl
noncomputable def g74:List DV->Option PD:=fun l=>match l with
  |[.str s]=>some (metaD s)
  |_=>none
theorem g74_ok:∀ l d,g74 l=some d->d.ok=true->PlainCall Tryz.prog [] 104 (toVs l) (toV d.val)/\ofVs (toVs l)=some l:=by
  intro l d h ho
  unfold g74 at h
  split at h
  . rename_i s
    cases h
    exact⟨plain_by _ tab_ok globals4 (by kernel_rfl) (law74 s) ⟨trivial,trivial⟩ (wf_meta s),dec_s s⟩
  . cases h
noncomputable def laws5:Laws Tryz.prog:=((laws4.add 104 g74 g74_ok))
noncomputable def errC (e:Int):DV:=.tup [.agg [.int .u8 0,.int .u64 0,.int .u8 0,.int .u64 0],.int .i64 e]
noncomputable def okC (w n op by_:Int):DV:=.tup [.agg [.int .u8 w,.int .u64 n,.int .u8 op,.int .u64 by_],.int .i64 0]
noncomputable def changeD (s:List UInt8):PD:=.br (decide (s.length=0)) (.v (errC 10)) (.br (decide (numOf (s.take 1)<1)) (.v (errC 4)) (.br (decide (4<numOf (s.take 1))) (.v (errC 4))
  (.br (decide (numOf (s.take 1)=3))
    (.br (decide (s.length<10)) (.v (errC 10)) (.br (decide (10<s.length)) (.v (errC 4)) (.br (decide (1<=numOf ((s.drop 1).take 1))) (.br (decide (numOf ((s.drop 1).take 1)<=5)) (.v (okC (numOf (s.take 1)) 0 (numOf ((s.drop 1).take 1)) (numOf ((s.drop 2).take 8)))) (.v (errC 4))) (.v (errC 4)))))
    (.br (decide (numOf (s.take 1)=4))
      (.br (decide (s.length<9)) (.v (errC 10)) (.br (decide (9<s.length)) (.v (errC 4)) (.v (okC (numOf (s.take 1)) (numOf ((s.drop 1).take 8)) 0 0))))
      (.br (decide (s.length<5)) (.v (errC 10)) (.br (decide (5<s.length)) (.v (errC 4)) (.br (decide (numOf ((s.drop 1).take 4)<=2048)) (.v (okC (numOf (s.take 1)) (numOf ((s.drop 1).take 4)) 0 0)) (.v (errC 4)))))))))
theorem nil_len (s:List UInt8):(s=[])=(s.length=0):=by simp
set_option maxRecDepth 10000 in
theorem tree75 (s:List UInt8):treeOf laws5 tab [132,133,134,136,105,140,141,142,144] 7 200 105 [.str s] =
    cond (decide (s=[])) (some (.tup [.agg [.int .u8 0,.int .u64 0,.int .u8 0,.int .u64 0],.int .i64 10])) (cond (decide ((↑s.length:Int)<(↑1:Int))) (some (.tup [.agg [.int .u8 0,.int .u64 0,.int .u8 0,.int .u64 0],.int .i64 4])) (cond (decide ((↑(numOf (List.take 1 s)):Int)=1)) (cond (decide ((↑(List.length (List.drop 1 s)):Int)<(↑4:Int))) (some (.tup [.agg [.int .u8 0,.int .u64 0,.int .u8 0,.int .u64 0],.int .i64 10])) (cond (!decide (List.drop 4 (List.drop 1 s)=[])) (some (.tup [.agg [.int .u8 0,.int .u64 0,.int .u8 0,.int .u64 0],.int .i64 4])) (cond (decide ((↑(numOf (List.take 1 s)):Int)=1)) (cond (decide (2048<IntKind.wrap .u64 (↑(numOf (List.take 4 (List.drop 1 s))):Int))) (some (.tup [.agg [.int .u8 0,.int .u64 0,.int .u8 0,.int .u64 0],.int .i64 4])) (some (.tup [.agg [.int .u8 (↑(numOf (List.take 1 s)):Int),.int .u64 (IntKind.wrap .u64 (↑(numOf (List.take 4 (List.drop 1 s))):Int)),.int .u8 0,.int .u64 0],.int .i64 0]))) (cond (decide ((↑(numOf (List.take 1 s)):Int)=2)) (cond (decide (2048<IntKind.wrap .u64 (↑(numOf (List.take 4 (List.drop 1 s))):Int))) (some (.tup [.agg [.int .u8 0,.int .u64 0,.int .u8 0,.int .u64 0],.int .i64 4])) (some (.tup [.agg [.int .u8 (↑(numOf (List.take 1 s)):Int),.int .u64 (IntKind.wrap .u64 (↑(numOf (List.take 4 (List.drop 1 s))):Int)),.int .u8 0,.int .u64 0],.int .i64 0]))) (cond (decide ((↑(numOf (List.take 1 s)):Int)=4)) (some (.tup [.agg [.int .u8 (↑(numOf (List.take 1 s)):Int),.int .u64 (IntKind.wrap .u64 (↑(numOf (List.take 4 (List.drop 1 s))):Int)),.int .u8 0,.int .u64 0],.int .i64 0])) (cond (decide ((↑(numOf (List.take 1 s)):Int)=3)) (cond (decide (IntKind.wrap .u64 (↑(numOf (List.take 4 (List.drop 1 s))):Int)=0)) (some (.tup [.agg [.int .u8 0,.int .u64 0,.int .u8 0,.int .u64 0],.int .i64 4])) (some (.tup [.agg [.int .u8 0,.int .u64 0,.int .u8 0,.int .u64 0],.int .i64 4]))) (some (.tup [.agg [.int .u8 0,.int .u64 0,.int .u8 0,.int .u64 0],.int .i64 4])))))))) (cond (decide ((↑(numOf (List.take 1 s)):Int)=2)) (cond (decide ((↑(List.length (List.drop 1 s)):Int)<(↑4:Int))) (some (.tup [.agg [.int .u8 0,.int .u64 0,.int .u8 0,.int .u64 0],.int .i64 10])) (cond (!decide (List.drop 4 (List.drop 1 s)=[])) (some (.tup [.agg [.int .u8 0,.int .u64 0,.int .u8 0,.int .u64 0],.int .i64 4])) (cond (decide ((↑(numOf (List.take 1 s)):Int)=1)) (cond (decide (2048<IntKind.wrap .u64 (↑(numOf (List.take 4 (List.drop 1 s))):Int))) (some (.tup [.agg [.int .u8 0,.int .u64 0,.int .u8 0,.int .u64 0],.int .i64 4])) (some (.tup [.agg [.int .u8 (↑(numOf (List.take 1 s)):Int),.int .u64 (IntKind.wrap .u64 (↑(numOf (List.take 4 (List.drop 1 s))):Int)),.int .u8 0,.int .u64 0],.int .i64 0]))) (cond (decide ((↑(numOf (List.take 1 s)):Int)=2)) (cond (decide (2048<IntKind.wrap .u64 (↑(numOf (List.take 4 (List.drop 1 s))):Int))) (some (.tup [.agg [.int .u8 0,.int .u64 0,.int .u8 0,.int .u64 0],.int .i64 4])) (some (.tup [.agg [.int .u8 (↑(numOf (List.take 1 s)):Int),.int .u64 (IntKind.wrap .u64 (↑(numOf (List.take 4 (List.drop 1 s))):Int)),.int .u8 0,.int .u64 0],.int .i64 0]))) (cond (decide ((↑(numOf (List.take 1 s)):Int)=4)) (some (.tup [.agg [.int .u8 (↑(numOf (List.take 1 s)):Int),.int .u64 (IntKind.wrap .u64 (↑(numOf (List.take 4 (List.drop 1 s))):Int)),.int .u8 0,.int .u64 0],.int .i64 0])) (cond (decide ((↑(numOf (List.take 1 s)):Int)=3)) (cond (decide (IntKind.wrap .u64 (↑(numOf (List.take 4 (List.drop 1 s))):Int)=0)) (some (.tup [.agg [.int .u8 0,.int .u64 0,.int .u8 0,.int .u64 0],.int .i64 4])) (some (.tup [.agg [.int .u8 0,.int .u64 0,.int .u8 0,.int .u64 0],.int .i64 4]))) (some (.tup [.agg [.int .u8 0,.int .u64 0,.int .u8 0,.int .u64 0],.int .i64 4])))))))) (cond (decide ((↑(numOf (List.take 1 s)):Int)=4)) (cond (decide ((↑(List.length (List.drop 1 s)):Int)<(↑8:Int))) (some (.tup [.agg [.int .u8 0,.int .u64 0,.int .u8 0,.int .u64 0],.int .i64 10])) (cond (!decide (List.drop 8 (List.drop 1 s)=[])) (some (.tup [.agg [.int .u8 0,.int .u64 0,.int .u8 0,.int .u64 0],.int .i64 4])) (cond (decide ((↑(numOf (List.take 1 s)):Int)=1)) (cond (decide (2048<(↑(numOf (List.take 8 (List.drop 1 s))):Int))) (some (.tup [.agg [.int .u8 0,.int .u64 0,.int .u8 0,.int .u64 0],.int .i64 4])) (some (.tup [.agg [.int .u8 (↑(numOf (List.take 1 s)):Int),.int .u64 (↑(numOf (List.take 8 (List.drop 1 s))):Int),.int .u8 0,.int .u64 0],.int .i64 0]))) (cond (decide ((↑(numOf (List.take 1 s)):Int)=2)) (cond (decide (2048<(↑(numOf (List.take 8 (List.drop 1 s))):Int))) (some (.tup [.agg [.int .u8 0,.int .u64 0,.int .u8 0,.int .u64 0],.int .i64 4])) (some (.tup [.agg [.int .u8 (↑(numOf (List.take 1 s)):Int),.int .u64 (↑(numOf (List.take 8 (List.drop 1 s))):Int),.int .u8 0,.int .u64 0],.int .i64 0]))) (cond (decide ((↑(numOf (List.take 1 s)):Int)=4)) (some (.tup [.agg [.int .u8 (↑(numOf (List.take 1 s)):Int),.int .u64 (↑(numOf (List.take 8 (List.drop 1 s))):Int),.int .u8 0,.int .u64 0],.int .i64 0])) (cond (decide ((↑(numOf (List.take 1 s)):Int)=3)) (cond (decide ((↑(numOf (List.take 8 (List.drop 1 s))):Int)=0)) (some (.tup [.agg [.int .u8 0,.int .u64 0,.int .u8 0,.int .u64 0],.int .i64 4])) (some (.tup [.agg [.int .u8 0,.int .u64 0,.int .u8 0,.int .u64 0],.int .i64 4]))) (some (.tup [.agg [.int .u8 0,.int .u64 0,.int .u8 0,.int .u64 0],.int .i64 4])))))))) (cond (decide ((↑(numOf (List.take 1 s)):Int)=3)) (cond (decide ((↑(List.length (List.drop 1 s)):Int)<(↑1:Int))) (some (.tup [.agg [.int .u8 0,.int .u64 0,.int .u8 0,.int .u64 0],.int .i64 10])) (cond (decide ((↑(List.length (List.drop 1 (List.drop 1 s))):Int)<(↑8:Int))) (some (.tup [.agg [.int .u8 0,.int .u64 0,.int .u8 0,.int .u64 0],.int .i64 10])) (cond (!decide (List.drop 8 (List.drop 1 (List.drop 1 s))=[])) (some (.tup [.agg [.int .u8 0,.int .u64 0,.int .u8 0,.int .u64 0],.int .i64 4])) (cond (decide ((↑(numOf (List.take 1 s)):Int)=1)) (cond (!(decide ((↑(numOf (List.take 1 (List.drop 1 s))):Int)=0)&&(decide ((↑(numOf (List.take 8 (List.drop 1 (List.drop 1 s)))):Int)=0)&&true)) != false) (some (.tup [.agg [.int .u8 0,.int .u64 0,.int .u8 0,.int .u64 0],.int .i64 4])) (some (.tup [.agg [.int .u8 (↑(numOf (List.take 1 s)):Int),.int .u64 0,.int .u8 (↑(numOf (List.take 1 (List.drop 1 s))):Int),.int .u64 (↑(numOf (List.take 8 (List.drop 1 (List.drop 1 s)))):Int)],.int .i64 0]))) (cond (decide ((↑(numOf (List.take 1 s)):Int)=2)) (cond (!(decide ((↑(numOf (List.take 1 (List.drop 1 s))):Int)=0)&&(decide ((↑(numOf (List.take 8 (List.drop 1 (List.drop 1 s)))):Int)=0)&&true)) != false) (some (.tup [.agg [.int .u8 0,.int .u64 0,.int .u8 0,.int .u64 0],.int .i64 4])) (some (.tup [.agg [.int .u8 (↑(numOf (List.take 1 s)):Int),.int .u64 0,.int .u8 (↑(numOf (List.take 1 (List.drop 1 s))):Int),.int .u64 (↑(numOf (List.take 8 (List.drop 1 (List.drop 1 s)))):Int)],.int .i64 0]))) (cond (decide ((↑(numOf (List.take 1 s)):Int)=4)) (cond (!(decide ((↑(numOf (List.take 1 (List.drop 1 s))):Int)=0)&&(decide ((↑(numOf (List.take 8 (List.drop 1 (List.drop 1 s)))):Int)=0)&&true)) != false) (some (.tup [.agg [.int .u8 0,.int .u64 0,.int .u8 0,.int .u64 0],.int .i64 4])) (some (.tup [.agg [.int .u8 (↑(numOf (List.take 1 s)):Int),.int .u64 0,.int .u8 (↑(numOf (List.take 1 (List.drop 1 s))):Int),.int .u64 (↑(numOf (List.take 8 (List.drop 1 (List.drop 1 s)))):Int)],.int .i64 0]))) (cond (decide ((↑(numOf (List.take 1 s)):Int)=3)) (cond (decide (1<=(↑(numOf (List.take 1 (List.drop 1 s))):Int))) (cond (!decide ((↑(numOf (List.take 1 (List.drop 1 s))):Int)<=5)) (some (.tup [.agg [.int .u8 0,.int .u64 0,.int .u8 0,.int .u64 0],.int .i64 4])) (some (.tup [.agg [.int .u8 (↑(numOf (List.take 1 s)):Int),.int .u64 0,.int .u8 (↑(numOf (List.take 1 (List.drop 1 s))):Int),.int .u64 (↑(numOf (List.take 8 (List.drop 1 (List.drop 1 s)))):Int)],.int .i64 0]))) (some (.tup [.agg [.int .u8 0,.int .u64 0,.int .u8 0,.int .u64 0],.int .i64 4]))) (some (.tup [.agg [.int .u8 0,.int .u64 0,.int .u8 0,.int .u64 0],.int .i64 4]))))))))) (some (.tup [.agg [.int .u8 0,.int .u64 0,.int .u8 0,.int .u64 0],.int .i64 4]))))))):=by kernel_rfl
theorem law75 (s:List UInt8):treeOf laws5 tab [132,133,134,136,105,140,141,142,144] 7 200 105 [.str s]=some (changeD s).val:=by
  rw[tree75]
  unfold changeD errC okC
  have b1:=num_take1 s
  have b2:=num_take1 (s.drop 1)
  have b4:=num_take4 (s.drop 1)
  simp only[nil_len,pd_br,pd_v,List.drop_drop,Nat.reduceAdd,List.length_drop,cond_and,cond_or,cond_nn,cond_dec,cond_ndec,List.drop_eq_nil_iff,if_true,if_false,cond_true,cond_false]
  rw[wrap_u64 (z:=(numOf ((s.drop 1).take 4):Int)) (by omega) (by omega)]
  repeat' (first | with_reducible rfl | (refine ite_l (fun _=>?_) (fun _=>?_)) | (refine ite_r (fun _=>?_) (fun _=>?_)) | (exfalso; omega))
theorem wf_change (s:List UInt8):wf 0 (toV (changeD s).val):=by
  unfold changeD
  simp only[PD.val_br,PD.val_v,cond_dec]
  repeat' first | exact⟨⟨trivial,trivial,trivial,trivial,trivial⟩,trivial,trivial⟩ | split
noncomputable def gchange:List DV->Option PD:=fun l=>match l with
  |[.str s]=>some (changeD s)
  |_=>none
theorem g75_ok:∀ l d,gchange l=some d->d.ok=true->PlainCall Tryz.prog [] 105 (toVs l) (toV d.val)/\ofVs (toVs l)=some l:=by
  intro l d h ho
  unfold gchange at h
  split at h
  . rename_i s
    cases h
    exact⟨plain_by _ tab_ok globals4 (by kernel_rfl) (law75 s) ⟨trivial,trivial⟩ (wf_change s),dec_s s⟩
  . cases h
noncomputable def blockOk (s:List UInt8):Bool:=decide (0<s.length)&&(decide (s.length<=64)&&decide ((s.getD (s.length-1) 0).toNat ≠ 0))
noncomputable def blockD (s:List UInt8):PD:=.br (blockOk s) (.v (.int .i64 0)) (.v (.int .i64 4))
set_option maxRecDepth 10000 in
theorem tree93 (s:List UInt8):treeOf laws5 tab [128] 7 200 128 [.str s] =
    cond (decide (s=[])) (some (.int .i64 4)) (cond (decide (64<(↑s.length:Int))) (some (.int .i64 4)) (cond (decide (0<=IntKind.wrap .i64 ((↑s.length:Int)-1))&&decide (IntKind.wrap .i64 ((↑s.length:Int)-1)<(↑s.length:Int))) (cond (decide ((↑(UInt8.toNat (List.getD s (Int.toNat (IntKind.wrap .i64 ((↑s.length:Int)-1))) 0)):Int)=0)) (some (.int .i64 4)) (some (.int .i64 0))) none)):=by kernel_rfl
theorem law93 (s:List UInt8):treeOf laws5 tab [128] 7 200 128 [.str s]=some (blockD s).val:=by
  rw[tree93]
  unfold blockD blockOk
  simp only[nil_len,pd_br,pd_v,cond_and,cond_dec]
  by_cases h:64<s.length
  . repeat' (first | with_reducible rfl | (refine ite_l (fun _=>?_) (fun _=>?_)) | (refine ite_r (fun _=>?_) (fun _=>?_)) | (exfalso; omega))
  . rw[wrap_i64 (by omega) (by omega),show ((s.length:Int)-1).toNat=s.length-1 by omega]
    repeat' (first | with_reducible rfl | (refine ite_l (fun _=>?_) (fun _=>?_)) | (refine ite_r (fun _=>?_) (fun _=>?_)) | (exfalso; omega))
theorem wf_block (s:List UInt8):wf 0 (toV (blockD s).val):=by
  unfold blockD
  simp only[PD.val]
  split<;>trivial
noncomputable def gblock:List DV->Option PD:=fun l=>match l with
  |[.str s]=>some (blockD s)
  |_=>none
theorem g93_ok:∀ l d,gblock l=some d->d.ok=true->PlainCall Tryz.prog [] 128 (toVs l) (toV d.val)/\ofVs (toVs l)=some l:=by
  intro l d h ho
  unfold gblock at h
  split at h
  . rename_i s
    cases h
    exact⟨plain_by _ tab_ok globals4 (by kernel_rfl) (law93 s) ⟨trivial,trivial⟩ (wf_block s),dec_s s⟩
  . cases h
noncomputable def laws6:Laws Tryz.prog:=((((laws5.add 105 gchange g75_ok)).add 128 gblock g93_ok))
noncomputable def errP (e:Int):DV:=.tup [.agg [.bool false,.int .i64 0,.int .i64 0,.str []],.int .i64 e]
noncomputable def okP (c:Bool) (a n:Int) (t:List UInt8):DV:=.tup [.agg [.bool c,.int .i64 a,.int .i64 n,.str t],.int .i64 0]
noncomputable def patchD (s:List UInt8):PD:=.br (decide (s.length=0)) (.v (errP 10)) (.br (decide (numOf (s.take 1)=2))
    (.br (decide (s.length<2)) (.v (errP 10)) (.br (decide (2<s.length)) (.v (errP 4)) (.br (decide (numOf ((s.drop 1).take 1)<64)) (.v (okP true 0 (numOf ((s.drop 1).take 1)) [])) (.v (errP 4)))))
    (.br (decide (numOf (s.take 1)=1))
      (.br (decide (s.length<4)) (.v (errP 10)) (.br (decide (s.length<4+numOf ((s.drop 2).take 2))) (.v (errP 10)) (.br (decide (4+numOf ((s.drop 2).take 2)<s.length)) (.v (errP 4))
        (.br (decide (1<=numOf ((s.drop 2).take 2))) (.br (decide (numOf ((s.drop 2).take 2)<=64)) (.br (decide (numOf ((s.drop 1).take 1)+numOf ((s.drop 2).take 2)<=64))
          (.v (okP false (numOf ((s.drop 1).take 1)) 0 ((s.drop 4).take (numOf ((s.drop 2).take 2))))) (.v (errP 4))) (.v (errP 4))) (.v (errP 4))))))
      (.v (errP 4))))
set_option maxRecDepth 10000 in
theorem tree72 (s:List UInt8):treeOf laws6 tab [132,133,135,134,136,160,102,137] 7 200 102 [.str s] =
    cond (decide ((↑s.length:Int)<(↑1:Int))) (some (.tup [.agg [.bool false,.int .i64 0,.int .i64 0,.str []],.int .i64 10])) (cond (decide ((↑(numOf (List.take 1 s)):Int)=2)) (cond (decide ((↑(List.length (List.drop 1 s)):Int)<(↑1:Int))) (some (.tup [.agg [.bool false,.int .i64 0,.int .i64 0,.str []],.int .i64 10])) (cond (!decide (List.drop 1 (List.drop 1 s)=[])) (some (.tup [.agg [.bool false,.int .i64 0,.int .i64 0,.str []],.int .i64 4])) (cond (decide (0<=IntKind.wrap .i64 (↑(numOf (List.take 1 (List.drop 1 s))):Int))) (cond (decide (IntKind.wrap .i64 (↑(numOf (List.take 1 (List.drop 1 s))):Int)<64)) (some (.tup [.agg [.bool true,.int .i64 0,.int .i64 (IntKind.wrap .i64 (↑(numOf (List.take 1 (List.drop 1 s))):Int)),.str []],.int .i64 0])) (some (.tup [.agg [.bool false,.int .i64 0,.int .i64 0,.str []],.int .i64 4]))) (some (.tup [.agg [.bool false,.int .i64 0,.int .i64 0,.str []],.int .i64 4]))))) (cond (decide ((↑(numOf (List.take 1 s)):Int)=1)) (cond (decide ((↑(List.length (List.drop 1 s)):Int)<(↑1:Int))) (some (.tup [.agg [.bool false,.int .i64 0,.int .i64 0,.str []],.int .i64 10])) (cond (decide ((↑(List.length (List.drop 1 (List.drop 1 s))):Int)<(↑2:Int))) (some (.tup [.agg [.bool false,.int .i64 0,.int .i64 0,.str []],.int .i64 10])) (cond (decide (IntKind.wrap .i64 (↑(numOf (List.take 2 (List.drop 1 (List.drop 1 s)))):Int)<=0)) (cond (!decide (List.drop 2 (List.drop 1 (List.drop 1 s))=[])) (some (.tup [.agg [.bool false,.int .i64 0,.int .i64 0,.str []],.int .i64 4])) (some (.tup [.agg [.bool false,.int .i64 0,.int .i64 0,.str []],.int .i64 4]))) (cond (decide ((↑(List.length (List.drop 2 (List.drop 1 (List.drop 1 s)))):Int)<IntKind.wrap .i64 (↑(numOf (List.take 2 (List.drop 1 (List.drop 1 s)))):Int))) (some (.tup [.agg [.bool false,.int .i64 0,.int .i64 0,.str []],.int .i64 10])) (cond (!decide (List.drop (Int.toNat (IntKind.wrap .i64 (↑(numOf (List.take 2 (List.drop 1 (List.drop 1 s)))):Int))) (List.drop 2 (List.drop 1 (List.drop 1 s)))=[])) (some (.tup [.agg [.bool false,.int .i64 0,.int .i64 0,.str []],.int .i64 4])) (cond (!decide (List.take (Int.toNat (IntKind.wrap .i64 (↑(numOf (List.take 2 (List.drop 1 (List.drop 1 s)))):Int))) (List.drop 2 (List.drop 1 (List.drop 1 s)))=[])) (cond (decide ((↑(List.length (List.take (Int.toNat (IntKind.wrap .i64 (↑(numOf (List.take 2 (List.drop 1 (List.drop 1 s)))):Int))) (List.drop 2 (List.drop 1 (List.drop 1 s))))):Int)<=64)) (cond (decide (0<=IntKind.wrap .i64 (↑(numOf (List.take 1 (List.drop 1 s))):Int))) (cond (decide (IntKind.wrap .i64 (↑(numOf (List.take 1 (List.drop 1 s))):Int)<=IntKind.wrap .i64 (64-(↑(List.length (List.take (Int.toNat (IntKind.wrap .i64 (↑(numOf (List.take 2 (List.drop 1 (List.drop 1 s)))):Int))) (List.drop 2 (List.drop 1 (List.drop 1 s))))):Int)))) (some (.tup [.agg [.bool false,.int .i64 (IntKind.wrap .i64 (↑(numOf (List.take 1 (List.drop 1 s))):Int)),.int .i64 0,.str (List.take (Int.toNat (IntKind.wrap .i64 (↑(numOf (List.take 2 (List.drop 1 (List.drop 1 s)))):Int))) (List.drop 2 (List.drop 1 (List.drop 1 s))))],.int .i64 0])) (some (.tup [.agg [.bool false,.int .i64 0,.int .i64 0,.str []],.int .i64 4]))) (some (.tup [.agg [.bool false,.int .i64 0,.int .i64 0,.str []],.int .i64 4]))) (some (.tup [.agg [.bool false,.int .i64 0,.int .i64 0,.str []],.int .i64 4]))) (some (.tup [.agg [.bool false,.int .i64 0,.int .i64 0,.str []],.int .i64 4])))))))) (some (.tup [.agg [.bool false,.int .i64 0,.int .i64 0,.str []],.int .i64 4])))):=by kernel_rfl
theorem law72 (s:List UInt8):treeOf laws6 tab [132,133,135,134,136,160,102,137] 7 200 102 [.str s]=some (patchD s).val:=by
  rw[tree72]
  unfold patchD errP okP
  have b1:=num_take1 s
  have b2:=num_take1 (s.drop 1)
  have b4:=num_take2 (s.drop 2)
  simp only[List.drop_drop,Nat.reduceAdd]
  rw[wrap_i64 (z:=(numOf ((s.drop 2).take 2):Int)) (by omega) (by omega),wrap_i64 (z:=(numOf ((s.drop 1).take 1):Int)) (by omega) (by omega)]
  simp only[nil_len,pd_br,pd_v,List.drop_drop,Nat.reduceAdd,List.length_drop,List.length_take,cond_and,cond_or,cond_nn,cond_dec,cond_ndec,if_true,if_false,cond_true,cond_false,Int.toNat_natCast]
  rw[wrap_i64 (z:=64-((min (numOf ((s.drop 2).take 2)) (s.length-4):Nat):Int)) (by omega) (by omega)]
  repeat' (first | with_reducible rfl | (refine ite_l (fun _=>?_) (fun _=>?_)) | (refine ite_r (fun _=>?_) (fun _=>?_)) | (exfalso; omega))
theorem wf_patch (s:List UInt8):wf 0 (toV (patchD s).val):=by
  unfold patchD
  simp only[PD.val_br,PD.val_v,cond_dec]
  repeat' first | exact⟨⟨trivial,trivial,trivial,trivial,trivial⟩,trivial,trivial⟩ | split
noncomputable def gpatch:List DV->Option PD:=fun l=>match l with
  |[.str s]=>some (patchD s)
  |_=>none
theorem g72_ok:∀ l d,gpatch l=some d->d.ok=true->PlainCall Tryz.prog [] 102 (toVs l) (toV d.val)/\ofVs (toVs l)=some l:=by
  intro l d h ho
  unfold gpatch at h
  split at h
  . rename_i s
    cases h
    exact⟨plain_by _ tab_ok globals4 (by kernel_rfl) (law72 s) ⟨trivial,trivial⟩ (wf_patch s),dec_s s⟩
  . cases h
noncomputable def laws7:Laws Tryz.prog:=((laws6.add 102 gpatch g72_ok))
noncomputable def fineV:DV->Bool
  | .tup [_,.int _ e]=>decide (e=0)
  |_=>false
noncomputable def fine:PD->Bool
  | .v x=>fineV x
  | .br b t f=>cond b (fine t) (fine f)
  | .need _ t=>fine t
theorem some_cond (b x y:Bool):some (DV.bool (cond b x y))=cond b (some (.bool x)) (some (.bool y)):=by cases b<;>rfl
theorem bool_br (b:Bool) (t f:PD):some (DV.bool (fine (.br b t f)))=cond b (some (.bool (fine t))) (some (.bool (fine f))):=some_cond _ _ _
theorem some_b (b:Bool):cond b (some (DV.bool true)) (some (.bool false))=some (.bool b):=by cases b<;>rfl
theorem dec_2 (k s:List UInt8):ofVs (toVs [.str k,.str s])=some [.str k,.str s]:=by
  show (match ofV (sv k),(match ofV (sv s),ofVs [] with | some x,some l=>some (x::l) | _,_=>.none) with | some x,some l=>some (x::l) | _,_=>.none)=_
  rw[ofV_sv,ofV_sv]; rfl
set_option maxRecDepth 10000 in
theorem tree90 (s:List UInt8):treeOf laws7 tab [125] 7 200 125 [.str s] =
    cond (decide (List.length s<21)) (some (.bool false)) (cond (decide (21<List.length s)) (some (.bool false)) (cond (metaOk s) (some (.bool true)) (some (.bool false)))):=by kernel_rfl
theorem law90 (s:List UInt8):treeOf laws7 tab [125] 7 200 125 [.str s]=some (.bool (fine (metaD s))):=by
  rw[tree90]
  unfold metaD; simp only[bool_br]; rfl
set_option maxRecDepth 10000 in
theorem tree91 (s:List UInt8):treeOf laws7 tab [126] 7 200 126 [.str s] =
    cond (decide (List.length s=0)) (some (.bool false)) (cond (decide (numOf (List.take 1 s)<1)) (some (.bool false)) (cond (decide (4<numOf (List.take 1 s))) (some (.bool false)) (cond (decide (numOf (List.take 1 s)=3)) (cond (decide (List.length s<10)) (some (.bool false)) (cond (decide (10<List.length s)) (some (.bool false)) (cond (decide (1<=numOf (List.take 1 (List.drop 1 s)))) (cond (decide (numOf (List.take 1 (List.drop 1 s))<=5)) (some (.bool true)) (some (.bool false))) (some (.bool false))))) (cond (decide (numOf (List.take 1 s)=4)) (cond (decide (List.length s<9)) (some (.bool false)) (cond (decide (9<List.length s)) (some (.bool false)) (some (.bool true)))) (cond (decide (List.length s<5)) (some (.bool false)) (cond (decide (5<List.length s)) (some (.bool false)) (cond (decide (numOf (List.take 4 (List.drop 1 s))<=2048)) (some (.bool true)) (some (.bool false))))))))):=by kernel_rfl
theorem law91 (s:List UInt8):treeOf laws7 tab [126] 7 200 126 [.str s]=some (.bool (fine (changeD s))):=by
  rw[tree91]
  unfold changeD; simp only[bool_br]; rfl
set_option maxRecDepth 10000 in
theorem tree92 (s:List UInt8):treeOf laws7 tab [127] 7 200 127 [.str s] =
    cond (blockOk s) (some (.bool true)) (some (.bool false)):=by kernel_rfl
theorem law92 (s:List UInt8):treeOf laws7 tab [127] 7 200 127 [.str s]=some (.bool (blockOk s)):=by
  rw[tree92]
  exact some_b _
set_option maxRecDepth 10000 in
theorem tree94 (s:List UInt8):treeOf laws7 tab [129] 7 200 129 [.str s] =
    cond (decide (List.length s=0)) (some (.bool false)) (cond (decide (numOf (List.take 1 s)=2)) (cond (decide (List.length s<2)) (some (.bool false)) (cond (decide (2<List.length s)) (some (.bool false)) (cond (decide (numOf (List.take 1 (List.drop 1 s))<64)) (some (.bool true)) (some (.bool false))))) (cond (decide (numOf (List.take 1 s)=1)) (cond (decide (List.length s<4)) (some (.bool false)) (cond (decide (List.length s<4+numOf (List.take 2 (List.drop 2 s)))) (some (.bool false)) (cond (decide (4+numOf (List.take 2 (List.drop 2 s))<List.length s)) (some (.bool false)) (cond (decide (1<=numOf (List.take 2 (List.drop 2 s)))) (cond (decide (numOf (List.take 2 (List.drop 2 s))<=64)) (cond (decide (numOf (List.take 1 (List.drop 1 s))+numOf (List.take 2 (List.drop 2 s))<=64)) (some (.bool true)) (some (.bool false))) (some (.bool false))) (some (.bool false)))))) (some (.bool false)))):=by kernel_rfl
theorem law94 (s:List UInt8):treeOf laws7 tab [129] 7 200 129 [.str s]=some (.bool (fine (patchD s))):=by
  rw[tree94]
  unfold patchD; simp only[bool_br]; rfl
set_option maxRecDepth 10000 in
theorem tree95 (s:List UInt8):treeOf laws7 tab [130] 7 200 130 [.str s] =
    some (.bool (decide ((↑s.length:Int)<=64))):=by kernel_rfl
theorem law95 (s:List UInt8):treeOf laws7 tab [130] 7 200 130 [.str s]=some (.bool (decide ((↑s.length:Int)<=64))):=by
  rw[tree95]
  skip
set_option maxRecDepth 10000 in
theorem tree96 (s:List UInt8):treeOf laws7 tab [131] 7 200 131 [.str s] =
    some (.bool false):=by kernel_rfl
theorem law96 (s:List UInt8):treeOf laws7 tab [131] 7 200 131 [.str s]=some (.bool (false)):=by
  rw[tree96]
  skip
noncomputable def g90:List DV->Option PD:=fun l=>match l with
  |[.str s]=>some (.v (.bool (fine (metaD s))))
  |_=>none
theorem g90_ok:∀ l d,g90 l=some d->d.ok=true->PlainCall Tryz.prog [] 125 (toVs l) (toV d.val)/\ofVs (toVs l)=some l:=by
  intro l d h ho
  unfold g90 at h
  split at h
  . rename_i s
    cases h
    exact⟨plain_by _ tab_ok globals4 (by kernel_rfl) (law90 s) ⟨trivial,trivial⟩ trivial,dec_s s⟩
  . cases h
noncomputable def g91:List DV->Option PD:=fun l=>match l with
  |[.str s]=>some (.v (.bool (fine (changeD s))))
  |_=>none
theorem g91_ok:∀ l d,g91 l=some d->d.ok=true->PlainCall Tryz.prog [] 126 (toVs l) (toV d.val)/\ofVs (toVs l)=some l:=by
  intro l d h ho
  unfold g91 at h
  split at h
  . rename_i s
    cases h
    exact⟨plain_by _ tab_ok globals4 (by kernel_rfl) (law91 s) ⟨trivial,trivial⟩ trivial,dec_s s⟩
  . cases h
noncomputable def g92:List DV->Option PD:=fun l=>match l with
  |[.str s]=>some (.v (.bool (blockOk s)))
  |_=>none
theorem g92_ok:∀ l d,g92 l=some d->d.ok=true->PlainCall Tryz.prog [] 127 (toVs l) (toV d.val)/\ofVs (toVs l)=some l:=by
  intro l d h ho
  unfold g92 at h
  split at h
  . rename_i s
    cases h
    exact⟨plain_by _ tab_ok globals4 (by kernel_rfl) (law92 s) ⟨trivial,trivial⟩ trivial,dec_s s⟩
  . cases h
noncomputable def g94:List DV->Option PD:=fun l=>match l with
  |[.str s]=>some (.v (.bool (fine (patchD s))))
  |_=>none
theorem g94_ok:∀ l d,g94 l=some d->d.ok=true->PlainCall Tryz.prog [] 129 (toVs l) (toV d.val)/\ofVs (toVs l)=some l:=by
  intro l d h ho
  unfold g94 at h
  split at h
  . rename_i s
    cases h
    exact⟨plain_by _ tab_ok globals4 (by kernel_rfl) (law94 s) ⟨trivial,trivial⟩ trivial,dec_s s⟩
  . cases h
noncomputable def g95:List DV->Option PD:=fun l=>match l with
  |[.str s]=>some (.v (.bool (decide ((↑s.length:Int)<=64))))
  |_=>none
theorem g95_ok:∀ l d,g95 l=some d->d.ok=true->PlainCall Tryz.prog [] 130 (toVs l) (toV d.val)/\ofVs (toVs l)=some l:=by
  intro l d h ho
  unfold g95 at h
  split at h
  . rename_i s
    cases h
    exact⟨plain_by _ tab_ok globals4 (by kernel_rfl) (law95 s) ⟨trivial,trivial⟩ trivial,dec_s s⟩
  . cases h
noncomputable def g96:List DV->Option PD:=fun l=>match l with
  |[.str s]=>some (.v (.bool (false)))
  |_=>none
theorem g96_ok:∀ l d,g96 l=some d->d.ok=true->PlainCall Tryz.prog [] 131 (toVs l) (toV d.val)/\ofVs (toVs l)=some l:=by
  intro l d h ho
  unfold g96 at h
  split at h
  . rename_i s
    cases h
    exact⟨plain_by _ tab_ok globals4 (by kernel_rfl) (law96 s) ⟨trivial,trivial⟩ trivial,dec_s s⟩
  . cases h
noncomputable def valOk (k s:List UInt8):Bool:=cond (decide ((↑(UInt8.toNat (List.getD k 0 0)):Int)=109)) (fine (metaD s)) (cond (decide ((↑(UInt8.toNat (List.getD k 0 0)):Int)=100)) (cond (blockOk s) true false) (decide ((↑s.length:Int)<=64)))
noncomputable def patOk (k s:List UInt8):Bool:=cond (decide ((↑(UInt8.toNat (List.getD k 0 0)):Int)=109)) (fine (changeD s)) (cond (decide ((↑(UInt8.toNat (List.getD k 0 0)):Int)=100)) (fine (patchD s)) false)
noncomputable def laws8:Laws Tryz.prog:=((((((((laws7.add 125 g90 g90_ok).add 126 g91 g91_ok).add 127 g92 g92_ok).add 129 g94 g94_ok).add 130 g95 g95_ok).add 131 g96 g96_ok)))
theorem less_total:∀ a b:List UInt8,(!(Op.bytesLess a b||decide (a=b)))=Op.bytesLess b a
  |[],[]=>rfl
  |[],b::y=>by simp[Op.bytesLess]
  |a::x,[]=>by simp[Op.bytesLess]
  |a::x,b::y=>by
    have ih:=less_total x y
    simp only[Op.bytesLess]
    rcases Nat.lt_trichotomy a.toNat b.toNat with h | h | h
    . have h1:a<b:=h
      have h2:¬ b<a:=fun h'=>by have:b.toNat<a.toNat:=h'; omega
      have h3:a ≠ b:=fun e=>by subst e; omega
      have h4:b ≠ a:=fun e=>h3 e.symm
      simp[h1,h2,h4]
    . have e:a=b:=UInt8.toNat_inj.1 h
      subst e
      have h2:¬ a<a:=fun h'=>by have:a.toNat<a.toNat:=h'; omega
      simp only[h2,decide_false,Bool.false_or,beq_self_eq_true,Bool.true_and,List.cons.injEq,true_and]
      exact ih
    . have h1:b<a:=h
      have h2:¬ a<b:=fun h'=>by have:a.toNat<b.toNat:=h'; omega
      have h3:a ≠ b:=fun e=>by subst e; omega
      simp[h1,h2,h3]
theorem cond_tf (b:Bool):cond b true false=b:=by cases b<;>rfl
noncomputable def msgV (op:Int) (k t v:List UInt8):DV:=.agg [.int .i64 op,.str k,.str t,.str v]
noncomputable def mayB (op:Int) (k t v:List UInt8):Bool:=cond (decide (k.length<1)) false (cond (decide (108<k.length)) false
  (cond (decide (op=3)) (cond (decide (v.length=0)) (cond (decide (t.length=0)) false (cond (decide (t.length<=108)) (Op.bytesLess k t) false)) false)
    (cond (decide (t.length=0)) (cond (decide (op=1)) (valOk k v) (cond (decide (op=4)) (patOk k v) (cond (decide (op=2)) (decide (v.length=0)) false))) false)))
theorem dec_msg (op:Int) (k t v:List UInt8):ofVs (toVs [.agg [.int .i64 op,.str k,.str t,.str v]])=some [.agg [.int .i64 op,.str k,.str t,.str v]]:=by
  have e:ofVs [sv k,sv t,sv v]=some [.str k,.str t,.str v]:=by
    show (match ofV (sv k),(match ofV (sv t),(match ofV (sv v),ofVs [] with | some x,some l=>some (x::l) | _,_=>.none) with | some x,some l=>some (x::l) | _,_=>.none) with | some x,some l=>some (x::l) | _,_=>.none)=_
    rw[ofV_sv,ofV_sv,ofV_sv]; rfl
  show (match (match (match ofV (.int .i64 op),ofVs [sv k,sv t,sv v] with | some x,some l=>some (x::l) | _,_=>.none) with | some r=>some (DV.agg r) | .none=>.none),ofVs [] with | some x,some l=>some (x::l) | _,_=>.none)=_
  rw[e]; rfl
set_option maxRecDepth 10000 in
theorem tree32 (op:Int) (k t v:List UInt8):treeOf laws8 tab [76,100,101] 7 200 76 [.agg [.int .i64 op,.str k,.str t,.str v]] =
    cond (!decide (k=[])) (cond (!decide ((↑k.length:Int)<=108)) (some (.bool false)) (cond (true&&decide (0<(↑k.length:Int))) (cond (decide ((↑(UInt8.toNat (List.getD k 0 0)):Int)=109)) (cond (decide (op=1)) (cond (decide (t=[])) (some (.bool (fine (metaD v)))) (some (.bool false))) (cond (decide (op=4)) (cond (decide (t=[])) (some (.bool (fine (changeD v)))) (some (.bool false))) (cond (decide (op=2)) (cond (decide (t=[])) (some (.bool (decide (v=[])))) (some (.bool false))) (cond (decide (op=3)) (cond (decide (v=[])) (cond (!decide (t=[])) (cond (decide ((↑t.length:Int)<=108)) (some (.bool (Op.bytesLess k t))) (some (.bool false))) (some (.bool false))) (some (.bool false))) (some (.bool false)))))) (cond (decide ((↑(UInt8.toNat (List.getD k 0 0)):Int)=100)) (cond (decide (op=1)) (cond (decide (t=[])) (some (.bool (blockOk v))) (some (.bool false))) (cond (decide (op=4)) (cond (decide (t=[])) (some (.bool (fine (patchD v)))) (some (.bool false))) (cond (decide (op=2)) (cond (decide (t=[])) (some (.bool (decide (v=[])))) (some (.bool false))) (cond (decide (op=3)) (cond (decide (v=[])) (cond (!decide (t=[])) (cond (decide ((↑t.length:Int)<=108)) (some (.bool (Op.bytesLess k t))) (some (.bool false))) (some (.bool false))) (some (.bool false))) (some (.bool false)))))) (cond (decide (op=1)) (cond (decide (t=[])) (some (.bool (decide ((↑v.length:Int)<=64)))) (some (.bool false))) (cond (decide (op=4)) (cond (decide (t=[])) (some (.bool false)) (some (.bool false))) (cond (decide (op=2)) (cond (decide (t=[])) (some (.bool (decide (v=[])))) (some (.bool false))) (cond (decide (op=3)) (cond (decide (v=[])) (cond (!decide (t=[])) (cond (decide ((↑t.length:Int)<=108)) (some (.bool (Op.bytesLess k t))) (some (.bool false))) (some (.bool false))) (some (.bool false))) (some (.bool false)))))))) none)) (some (.bool false)):=by kernel_rfl
set_option maxHeartbeats 4000000 in
theorem law32 (op:Int) (k t v:List UInt8):treeOf laws8 tab [76,100,101] 7 200 76 [.agg [.int .i64 op,.str k,.str t,.str v]]=some (PD.v (.bool (mayB op k t v))).val:=by
  rw[tree32]
  unfold mayB valOk patOk
  simp only[pd_v,cond_tf,some_cond]
  simp only[nil_len,cond_and,cond_or,cond_nn,cond_dec,cond_ndec,if_true,if_false,cond_true,cond_false]
  repeat' (first | (exfalso; omega) | with_reducible rfl | (refine ite_l (fun _=>?_) (fun _=>?_)) | (refine ite_r (fun _=>?_) (fun _=>?_)))
noncomputable def gmay:List DV->Option PD:=fun l=>match l with
  |[.agg [.int .i64 op,.str k,.str t,.str v]]=>some (.v (.bool (mayB op k t v)))
  |_=>none
theorem g32_ok:∀ l d,gmay l=some d->d.ok=true->PlainCall Tryz.prog [] 76 (toVs l) (toV d.val)/\ofVs (toVs l)=some l:=by
  intro l d h ho
  unfold gmay at h
  split at h
  . rename_i op k t v
    cases h
    exact⟨plain_by _ tab_ok globals4 (by kernel_rfl) (law32 op k t v) ⟨⟨trivial,trivial,trivial,trivial,trivial⟩,trivial⟩ trivial,dec_msg op k t v⟩
  . cases h
noncomputable def laws9:Laws Tryz.prog:=((laws8.add 76 gmay g32_ok))
theorem dec_cons (a:DV) (l:List DV) (ha:ofV (toV a)=some a) (hl:ofVs (toVs l)=some l):ofVs (toVs (a::l))=some (a::l):=by
  show (match ofV (toV a),ofVs (toVs l) with | some x,some l=>some (x::l) | _,_=>.none)=_
  rw[ha,hl]
theorem dec_m (op:Int) (k t v:List UInt8):ofV (toV (msgV op k t v))=some (msgV op k t v):=by
  have:=dec_msg op k t v
  have e:ofVs (toVs [msgV op k t v])=(match ofV (toV (msgV op k t v)) with | some x=>some [x] | .none=>.none):=by
    show (match ofV (toV (msgV op k t v)),ofVs [] with | some x,some l=>some (x::l) | _,_=>.none)=_
    cases ofV (toV (msgV op k t v))<;>rfl
  have h2:ofVs (toVs [msgV op k t v])=some [msgV op k t v]:=this
  rw[e] at h2
  split at h2
  . rename_i x hx; cases h2; exact hx
  . cases h2
noncomputable def noneV:DV:=.tup [.agg [.int .i64 0,.str [],.str [],.str []],.bool false]
noncomputable def someV (op:Int) (k t v:List UInt8):DV:=.tup [.agg [.int .i64 op,.str k,.str t,.str v],.bool true]
noncomputable def partD (op:Int) (k t v a b:List UInt8):PD:=.br (mayB op k t v)
  (.br (decide (op=3))
    (.br (Op.bytesLess (cond (Op.bytesLess k a) a k) (cond (decide (b=[])) t (cond (Op.bytesLess b t) b t)))
      (.v (someV op (cond (Op.bytesLess k a) a k) (cond (decide (b=[])) t (cond (Op.bytesLess b t) b t)) v)) (.v noneV))
    (.br (Op.bytesLess k a) (.v noneV) (.br (decide (b=[])) (.v (someV op k t v)) (.br (Op.bytesLess k b) (.v (someV op k t v)) (.v noneV)))))
  (.v noneV)
theorem less_or (a b:List UInt8):(Op.bytesLess a b||decide (a=b))=!Op.bytesLess b a:=by
  have:=less_total a b
  rw[← this,Bool.not_not]
set_option maxRecDepth 10000 in
theorem tree19 (op : Int) (k t v a b : List UInt8) : treeOf laws9 tab [60] 7 200 60 [.agg [.int .i64 op, .str k, .str t, .str v], .str a, .str b] =
    cond (!mayB op k t v) (some (.tup [.agg [.int .i64 0,.str [],.str [],.str []],.bool false])) (cond (decide (op=3)) (cond (!decide (b=[])) (cond (!Op.bytesLess
    (match true with
    |true =>
      match Op.bytesLess k a with
      |true=>a
      |false=>k
    |false =>
      match Op.bytesLess k a||decide (k=a) with
      |true=>k
      |false=>a)
    (match false with
    |true =>
      match Op.bytesLess t b with
      |true=>b
      |false=>t
    |false =>
      match Op.bytesLess t b||decide (t=b) with
      |true=>t
      |false=>b)) (some (.tup [.agg [.int .i64 0,.str [],.str [],.str []],.bool false])) (some (.tup
  [.agg
      [.int .i64 op,
        .str
          (match true with
          |true =>
            match Op.bytesLess k a with
            |true=>a
            |false=>k
          |false =>
            match Op.bytesLess k a||decide (k=a) with
            |true=>k
            |false=>a),
        .str
          (match false with
          |true =>
            match Op.bytesLess t b with
            |true=>b
            |false=>t
          |false =>
            match Op.bytesLess t b||decide (t=b) with
            |true=>t
            |false=>b),
        .str v],
    .bool true]))) (cond (!Op.bytesLess
    (match true with
    |true =>
      match Op.bytesLess k a with
      |true=>a
      |false=>k
    |false =>
      match Op.bytesLess k a||decide (k=a) with
      |true=>k
      |false=>a)
    t) (some (.tup [.agg [.int .i64 0,.str [],.str [],.str []],.bool false])) (some (.tup
  [.agg
      [.int .i64 op,
        .str
          (match true with
          |true =>
            match Op.bytesLess k a with
            |true=>a
            |false=>k
          |false =>
            match Op.bytesLess k a||decide (k=a) with
            |true=>k
            |false=>a),
        .str t,.str v],
    .bool true])))) (cond (Op.bytesLess k a) (some (.tup [.agg [.int .i64 0,.str [],.str [],.str []],.bool false])) (cond (!decide (b=[])) (cond (!Op.bytesLess k b) (some (.tup [.agg [.int .i64 0,.str [],.str [],.str []],.bool false])) (some (.tup [.agg [.int .i64 op,.str k,.str t,.str v],.bool true]))) (some (.tup [.agg [.int .i64 op,.str k,.str t,.str v],.bool true]))))):=by kernel_rfl
theorem law19 (op:Int) (k t v a b:List UInt8):treeOf laws9 tab [60] 7 200 60 [.agg [.int .i64 op,.str k,.str t,.str v],.str a,.str b]=some (partD op k t v a b).val:=by
  rw[tree19]
  unfold partD someV noneV
  simp only[pd_br,pd_v,less_or]
  cases mayB op k t v<;>cases decide (op=3)<;>cases Op.bytesLess k a<;>cases decide (b=[])<;>cases Op.bytesLess b t<;>simp only[Bool.not_true,Bool.not_false,cond_true,cond_false,cond_nn]
theorem wf_part (op:Int) (k t v a b:List UInt8):wf 0 (toV (partD op k t v a b).val):=by
  unfold partD someV noneV
  simp only[PD.val_br,PD.val_v]
  cases mayB op k t v<;>cases decide (op=3)<;>cases Op.bytesLess k a<;>cases decide (b=[])<;>cases Op.bytesLess k b<;>simp only[cond_true,cond_false]<;>first | exact⟨⟨trivial,trivial,trivial,trivial,trivial⟩,trivial,trivial⟩ | skip
  all_goals
    cases Op.bytesLess _ _<;>exact⟨⟨trivial,trivial,trivial,trivial,trivial⟩,trivial,trivial⟩
noncomputable def gpart:List DV->Option PD:=fun l=>match l with
  |[.agg [.int .i64 op,.str k,.str t,.str v],.str a,.str b]=>some (partD op k t v a b)
  |_=>none
theorem g19_ok:∀ l d,gpart l=some d->d.ok=true->PlainCall Tryz.prog [] 60 (toVs l) (toV d.val)/\ofVs (toVs l)=some l:=by
  intro l d h ho
  unfold gpart at h
  split at h
  . rename_i op k t v a b
    cases h
    exact⟨plain_by _ tab_ok globals4 (by kernel_rfl) (law19 op k t v a b) ⟨⟨trivial,trivial,trivial,trivial,trivial⟩,trivial,trivial,trivial⟩ (wf_part op k t v a b),dec_cons _ _ (dec_m op k t v) (dec_2 a b)⟩
  . cases h
noncomputable def laws10:Laws Tryz.prog:=(laws9.add 60 gpart g19_ok)
end
end Go.Vm.YtkjjpmbpjfmbcaaGreatDoor
