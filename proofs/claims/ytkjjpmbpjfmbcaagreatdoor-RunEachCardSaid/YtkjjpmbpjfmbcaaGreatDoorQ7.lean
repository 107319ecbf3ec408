/-
  The reader of package codec: its parts, by trees.
  The reader of package codec: numbers, by trees.
  Marks: which are NaN, as the program and as the document's answer tell it.
  Numbers out of texts, as the document's answer reads them.
  Metas: what a text's meta is, as the program and as the document's answer tell it.
  Changes and blocks: what a text's change is, and whether a text is a block's, as the program and as the document's answer tell it.
  Patches of blocks: what a text's patch is, as the program and as the document's answer tell it.
  Which values and patches suit a key, as the program and as the document's answer tell it.
  Which messages may be, as the program and as the document's answer tell it.
  What a message touches, and what of it lies in a range, as the program and as the document's answer tell it.
  Marks: their order, and what a step makes of one, as the program and as the document's answer tell it.
  What a step makes of a mark, as the program and as the document's answer tell it.
  Whether a record of a file, or a change of one, may be: as the program and as the document's answer tell it.
  What a change makes of a file's record: as the program and as the document's answer tell it.
-/
import Derived.Test.YtkjjpmbpjfmbcaaGreatDoorQ5
import Derived.Test.YtkjjpmbpjfmbcaaGreatDoorQ6
import Derived.KernelRfl
set_option linter.unusedVariables false
set_option linter.unusedSimpArgs false
namespace Go.Vm.YtkjjpmbpjfmbcaaGreatDoor
open Go.Proofs
noncomputable section
theorem globals4:Tryz.prog.globals.size=7:=by kernel_rfl
noncomputable abbrev tab:=tabOf all
noncomputable def gstep (a b:Int):Int:=IntKind.wrap .u64 ((BitVec.ofInt 64 (IntKind.wrap .u64 (a*256)) ||| BitVec.ofInt 64 (IntKind.wrap .u64 b)).toNat)
theorem gstep_eq {a b:Int} (h0:0<=a) (h1:a<72057594037927936) (h2:0<=b) (h3:b<256):gstep a b=a*256+b:=by
  unfold gstep
  rw[wrap_u64 (z:=a*256) (by omega) (by omega),wrap_u64 (z:=b) h2 (by omega)]
  obtain⟨m,rfl⟩:∃ m:Nat,a=m:=⟨a.toNat,by omega⟩
  obtain⟨n,rfl⟩:∃ n:Nat,b=n:=⟨b.toNat,by omega⟩
  have e1:BitVec.ofInt 64 ((m:Int)*256)=BitVec.ofNat 64 (m*256):=by
    rw[show (m:Int)*256=((m*256:Nat):Int) by simp,BitVec.ofInt_natCast]
  have e2:BitVec.ofInt 64 (n:Int)=BitVec.ofNat 64 n:=BitVec.ofInt_natCast ..
  rw[e1,e2,BitVec.toNat_or,BitVec.toNat_ofNat,BitVec.toNat_ofNat,Nat.mod_eq_of_lt (by omega),Nat.mod_eq_of_lt (by omega)]
  have e3:m*256 ||| n=m*256+n:=by
    have:=Nat.two_pow_add_eq_or_of_lt (i:=8) (b:=n) (by omega) m
    simp only[show (2:Nat) ^ 8=256 from rfl] at this
    rw[Nat.mul_comm m 256,this]
  rw[e3,wrap_u64 (by omega) (by omega)]
  simp
noncomputable def gfold:Int->List UInt8->Int
  |a,[]=>a
  |a,b::r=>gfold (gstep a b.toNat) r
theorem gfold_eq:∀ (l:List UInt8) (a:Nat),l.length<=8->a<256 ^ (8-l.length)->gfold a l=((l.foldl (fun a b=>a*256+b.toNat) a:Nat):Int)
  |[],a,_,_=>rfl
  |b::r,a,h,ha=>by
    have hb:=b.toNat_lt
    have hl:(b::r).length=r.length+1:=rfl
    rw[hl] at h ha
    have hp:256 ^ (8-(r.length+1))<=256 ^ 7:=Nat.pow_le_pow_right (by omega) (by omega)
    have e7:(256:Nat) ^ 7=72057594037927936:=rfl
    show gfold (gstep a b.toNat) r=_
    rw[gstep_eq (by omega) (by omega) (by omega) (by omega)]
    have e:(a:Int)*256+(b.toNat:Int)=((a*256+b.toNat:Nat):Int):=by simp
    rw[e,gfold_eq r (a*256+b.toNat) (by omega) ?_]
    . rfl
    . have e1:8-r.length=(8-(r.length+1))+1:=by omega
      rw[e1,Nat.pow_succ]
      omega
theorem gfold_num (l:List UInt8) (h:l.length<=8):gfold 0 l=(numOf l:Int) :=
  gfold_eq l 0 h (Nat.pos_of_ne_zero (by simp))
noncomputable def fixedD (s:List UInt8) (z w:Int):OD :=
  .br (!decide (z=0)) (.v (.str []) [.str s,.int .i64 z]) (.br (decide (w<=0)) (.v (.str []) [.str s,.int .i64 z])
    (.br (decide ((s.length:Int)<w)) (.v (.str []) [.str [],.int .i64 10]) (.v (.str (s.take w.toNat)) [.str (s.drop w.toNat),.int .i64 z])))
theorem tree68 (s : List UInt8) (z w : Int) : treeObj (Laws.none Tryz.prog) tab [159] 7 200 159 195 [.str s, .int .i64 z] [.int .i64 w] =
    cond (!decide (z=0)) (some (.tup [.str [],.agg [.str s,.int .i64 z]])) (cond (decide (w<=0)) (some (.tup [.str [],.agg [.str s,.int .i64 z]]))
      (cond (decide ((s.length:Int)<w)) (some (.tup [.str [],.agg [.str [],.int .i64 10]]))
        (cond (decide (0<=w)&&decide (w<=(s.length:Int))) (cond (decide (0<=w)&&decide (w<=(s.length:Int))) (some (.tup [.str (s.take w.toNat),.agg [.str (s.drop w.toNat),.int .i64 z]])) none) none))):=by kernel_rfl
theorem law68 (s : List UInt8) (z w : Int) : treeObj (Laws.none Tryz.prog) tab [159] 7 200 159 195 [.str s, .int .i64 z] [.int .i64 w] = some (.tup [(fixedD s z w).val.1, .agg (fixedD s z w).val.2]) := by
  rw[tree68]
  unfold fixedD
  simp only[OD.val]
  cases h1:!decide (z=0) with
  |true=>rfl
  |false =>
    cases h2:decide (w<=0) with
    |true=>rfl
    |false =>
      cases h3:decide ((s.length:Int)<w) with
      |true=>rfl
      |false =>
        simp only[decide_eq_false_iff_not] at h2 h3
        rw[show (decide (0<=w)&&decide (w<=(s.length:Int)))=true by simp; omega]
        rfl
theorem wf_fixed (s:List UInt8) (z w:Int):(fixedD s z w).val.2.length=2/\wfs 0 (toVs (fixedD s z w).val.2)/\wf 0 (toV (fixedD s z w).val.1):=by
  unfold fixedD
  simp only[OD.val]
  split
  . exact⟨rfl,⟨trivial,trivial,trivial⟩,trivial⟩
  . split
    . exact⟨rfl,⟨trivial,trivial,trivial⟩,trivial⟩
    . split
      . exact⟨rfl,⟨trivial,trivial,trivial⟩,trivial⟩
      . exact⟨rfl,⟨trivial,trivial,trivial⟩,trivial⟩
theorem dec_rd (s:List UInt8) (z:Int):ofVs (toVs [.str s,.int .i64 z])=some [.str s,.int .i64 z]:=by
  show (match ofV (sv s),ofVs [.int .i64 z] with | some x,some l=>some (x::l) | _,_=>.none)=_
  rw[ofV_sv]; rfl
noncomputable def g68:Nat->List DV->List DV->Option OD:=fun el l r=>match el,l,r with
  |195,[.str s,.int .i64 z],[.int .i64 w]=>some (fixedD s z w)
  |_,_,_=>none
theorem g68_ok:∀ el l r d,g68 el l r=some d->d.ok=true->ObjCall Tryz.prog 159 el (toVs l) (toVs r) (toV d.val.1) (toVs d.val.2)/\ofVs (toVs l)=some l/\ofVs (toVs r)=some r:=by
  intro el l r d h ho
  unfold g68 at h
  split at h
  . rename_i s z w
    cases h
    obtain⟨h1,h2,h3⟩:=wf_fixed s z w
    exact⟨obj_by _ tab_ok globals4 (by kernel_rfl) (law68 s z w) h1 ⟨trivial,trivial,trivial⟩ h2 ⟨trivial,trivial⟩ h3,dec_rd s z,rfl⟩
  . cases h
noncomputable def laws1:Laws Tryz.prog:=((Laws.none _).addO 159 g68 g68_ok)
noncomputable def getD (kd:IntKind) (w:Nat) (s:List UInt8) (z:Int):OD :=
  .br (!decide (z=0)) (.v (.int kd 0) [.str s,.int .i64 z]) (.br (decide ((s.length:Int)<(w:Int))) (.v (.int kd 0) [.str [],.int .i64 10])
    (.v (.int kd (numOf (s.take w):Int)) [.str (s.drop w),.int .i64 z]))
theorem wf_get (kd:IntKind) (w:Nat) (s:List UInt8) (z:Int):(getD kd w s z).val.2.length=2/\wfs 0 (toVs (getD kd w s z).val.2)/\wf 0 (toV (getD kd w s z).val.1):=by
  unfold getD
  simp only[OD.val]
  split
  . exact⟨rfl,⟨trivial,trivial,trivial⟩,trivial⟩
  . split
    . exact⟨rfl,⟨trivial,trivial,trivial⟩,trivial⟩
    . exact⟨rfl,⟨trivial,trivial,trivial⟩,trivial⟩
theorem get_short (kd:IntKind) (w:Nat) (s:List UInt8) (z:Int) (h:s.length<w):cond (!decide (z=0)) (some (DV.tup [.int kd 0,.agg [.str s,.int .i64 z]])) (some (.tup [.int kd 0,.agg [.str [],.int .i64 10]])) =
    some (.tup [(getD kd w s z).val.1,.agg (getD kd w s z).val.2]):=by
  unfold getD
  simp only[OD.val]
  rw[show decide ((s.length:Int)<(w:Int))=true by simpa using h]
  cases !decide (z=0)<;>rfl
theorem get_long (kd:IntKind) (w:Nat) (s:List UInt8) (z x:Int) (h:w<=s.length) (hx:x=(numOf (s.take w):Int)) :
    cond (!decide (z=0)) (some (DV.tup [.int kd 0,.agg [.str s,.int .i64 z]])) (cond (decide ((s.length:Int)<(w:Int))) (some (.tup [.int kd 0,.agg [.str [],.int .i64 10]])) (some (.tup [.int kd x,.agg [.str (s.drop w),.int .i64 z]]))) =
    some (.tup [(getD kd w s z).val.1,.agg (getD kd w s z).val.2]):=by
  unfold getD
  simp only[OD.val]
  rw[show decide ((s.length:Int)<(w:Int))=false by simpa using h,hx]
  cases !decide (z=0)<;>rfl
theorem num_le (l:List UInt8) (w:Nat) (h:l.length=w):(numOf l:Int)<((256 ^ w:Nat):Int):=by
  have:=numOf_lt l
  rw[h] at this
  exact_mod_cast this
theorem tree67_0 (z:Int):treeObj laws1 tab [158] 7 200 158 195 [.str [],.int .i64 z] [.int .i64 1]=cond (!decide (z=0)) (some (DV.tup [.int .u8 0,.agg [.str [],.int .i64 z]])) (some (.tup [.int .u8 0,.agg [.str [],.int .i64 10]])):=by kernel_rfl
theorem tree67_long (b0:UInt8) (r:List UInt8) (z:Int):treeObj laws1 tab [158] 7 200 158 195 [.str (b0::r),.int .i64 z] [.int .i64 1] =
    cond (!decide (z=0)) (some (DV.tup [.int .u8 0,.agg [.str (b0::r),.int .i64 z]])) (cond (decide (((b0::r).length:Int)<1)) (some (.tup [.int .u8 0,.agg [.str [],.int .i64 10]])) (some (.tup [.int .u8 (IntKind.wrap .u8 (gfold 0 [b0])),.agg [.str r,.int .i64 z]]))):=by kernel_rfl
theorem law67 (s:List UInt8) (z:Int):treeObj laws1 tab [158] 7 200 158 195 [.str s,.int .i64 z] [.int .i64 1]=some (.tup [(getD .u8 1 s z).val.1,.agg (getD .u8 1 s z).val.2]):=match s with
  |[]=>(tree67_0  z).trans (get_short .u8 1 [] z (by simp))
  |b0::r=>(tree67_long b0 r z).trans (get_long .u8 1 (b0::r) z _ (by simp) (by
      have e:(numOf ((b0::r).take 1):Int)=numOf [b0]:=rfl
      have h1:=num_le [b0] 1 rfl
      rw[e,gfold_num [b0] (by simp)]
      rw[wrap_u8 (by omega) (by simp at h1; omega)]))
noncomputable def g67:Nat->List DV->List DV->Option OD:=fun el l r=>match el,l,r with
  |195,[.str s,.int .i64 z],[.int .i64 1]=>some (getD .u8 1 s z)
  |_,_,_=>none
theorem g67_ok:∀ el l r d,g67 el l r=some d->d.ok=true->ObjCall Tryz.prog 158 el (toVs l) (toVs r) (toV d.val.1) (toVs d.val.2)/\ofVs (toVs l)=some l/\ofVs (toVs r)=some r:=by
  intro el l r d h ho
  unfold g67 at h
  split at h
  . rename_i s z
    cases h
    obtain⟨h1,h2,h3⟩:=wf_get .u8 1 s z
    exact⟨obj_by _ tab_ok globals4 (by kernel_rfl) (law67 s z) h1 ⟨trivial,trivial,trivial⟩ h2 ⟨trivial,trivial⟩ h3,dec_rd s z,rfl⟩
  . cases h
theorem tree99_0 (z:Int):treeObj laws1 tab [180] 7 200 180 195 [.str [],.int .i64 z] [.int .i64 2]=cond (!decide (z=0)) (some (DV.tup [.int .u16 0,.agg [.str [],.int .i64 z]])) (some (.tup [.int .u16 0,.agg [.str [],.int .i64 10]])):=by kernel_rfl
theorem tree99_1 (b0:UInt8) (z:Int):treeObj laws1 tab [180] 7 200 180 195 [.str [b0],.int .i64 z] [.int .i64 2]=cond (!decide (z=0)) (some (DV.tup [.int .u16 0,.agg [.str [b0],.int .i64 z]])) (some (.tup [.int .u16 0,.agg [.str [],.int .i64 10]])):=by kernel_rfl
theorem tree99_long (b0 b1:UInt8) (r:List UInt8) (z:Int):treeObj laws1 tab [180] 7 200 180 195 [.str (b0::b1::r),.int .i64 z] [.int .i64 2] =
    cond (!decide (z=0)) (some (DV.tup [.int .u16 0,.agg [.str (b0::b1::r),.int .i64 z]])) (cond (decide (((b0::b1::r).length:Int)<2)) (some (.tup [.int .u16 0,.agg [.str [],.int .i64 10]])) (some (.tup [.int .u16 (IntKind.wrap .u16 (gfold 0 [b0,b1])),.agg [.str r,.int .i64 z]]))):=by kernel_rfl
theorem law99 (s:List UInt8) (z:Int):treeObj laws1 tab [180] 7 200 180 195 [.str s,.int .i64 z] [.int .i64 2]=some (.tup [(getD .u16 2 s z).val.1,.agg (getD .u16 2 s z).val.2]):=match s with
  |[]=>(tree99_0  z).trans (get_short .u16 2 [] z (by simp))
  |[b0]=>(tree99_1 b0 z).trans (get_short .u16 2 [b0] z (by simp))
  |b0::b1::r=>(tree99_long b0 b1 r z).trans (get_long .u16 2 (b0::b1::r) z _ (by simp) (by
      have e:(numOf ((b0::b1::r).take 2):Int)=numOf [b0,b1]:=rfl
      have h1:=num_le [b0,b1] 2 rfl
      rw[e,gfold_num [b0,b1] (by simp)]
      rw[wrap_u16 (by omega) (by simp at h1; omega)]))
noncomputable def g99:Nat->List DV->List DV->Option OD:=fun el l r=>match el,l,r with
  |195,[.str s,.int .i64 z],[.int .i64 2]=>some (getD .u16 2 s z)
  |_,_,_=>none
theorem g99_ok:∀ el l r d,g99 el l r=some d->d.ok=true->ObjCall Tryz.prog 180 el (toVs l) (toVs r) (toV d.val.1) (toVs d.val.2)/\ofVs (toVs l)=some l/\ofVs (toVs r)=some r:=by
  intro el l r d h ho
  unfold g99 at h
  split at h
  . rename_i s z
    cases h
    obtain⟨h1,h2,h3⟩:=wf_get .u16 2 s z
    exact⟨obj_by _ tab_ok globals4 (by kernel_rfl) (law99 s z) h1 ⟨trivial,trivial,trivial⟩ h2 ⟨trivial,trivial⟩ h3,dec_rd s z,rfl⟩
  . cases h
theorem tree119_0 (z:Int):treeObj laws1 tab [163] 7 200 163 195 [.str [],.int .i64 z] [.int .i64 4]=cond (!decide (z=0)) (some (DV.tup [.int .u32 0,.agg [.str [],.int .i64 z]])) (some (.tup [.int .u32 0,.agg [.str [],.int .i64 10]])):=by kernel_rfl
theorem tree119_1 (b0:UInt8) (z:Int):treeObj laws1 tab [163] 7 200 163 195 [.str [b0],.int .i64 z] [.int .i64 4]=cond (!decide (z=0)) (some (DV.tup [.int .u32 0,.agg [.str [b0],.int .i64 z]])) (some (.tup [.int .u32 0,.agg [.str [],.int .i64 10]])):=by kernel_rfl
theorem tree119_2 (b0 b1:UInt8) (z:Int):treeObj laws1 tab [163] 7 200 163 195 [.str [b0,b1],.int .i64 z] [.int .i64 4]=cond (!decide (z=0)) (some (DV.tup [.int .u32 0,.agg [.str [b0,b1],.int .i64 z]])) (some (.tup [.int .u32 0,.agg [.str [],.int .i64 10]])):=by kernel_rfl
theorem tree119_3 (b0 b1 b2:UInt8) (z:Int):treeObj laws1 tab [163] 7 200 163 195 [.str [b0,b1,b2],.int .i64 z] [.int .i64 4]=cond (!decide (z=0)) (some (DV.tup [.int .u32 0,.agg [.str [b0,b1,b2],.int .i64 z]])) (some (.tup [.int .u32 0,.agg [.str [],.int .i64 10]])):=by kernel_rfl
theorem tree119_long (b0 b1 b2 b3:UInt8) (r:List UInt8) (z:Int):treeObj laws1 tab [163] 7 200 163 195 [.str (b0::b1::b2::b3::r),.int .i64 z] [.int .i64 4] =
    cond (!decide (z=0)) (some (DV.tup [.int .u32 0,.agg [.str (b0::b1::b2::b3::r),.int .i64 z]])) (cond (decide (((b0::b1::b2::b3::r).length:Int)<4)) (some (.tup [.int .u32 0,.agg [.str [],.int .i64 10]])) (some (.tup [.int .u32 (IntKind.wrap .u32 (gfold 0 [b0,b1,b2,b3])),.agg [.str r,.int .i64 z]]))):=by kernel_rfl
theorem law119 (s:List UInt8) (z:Int):treeObj laws1 tab [163] 7 200 163 195 [.str s,.int .i64 z] [.int .i64 4]=some (.tup [(getD .u32 4 s z).val.1,.agg (getD .u32 4 s z).val.2]):=match s with
  |[]=>(tree119_0  z).trans (get_short .u32 4 [] z (by simp))
  |[b0]=>(tree119_1 b0 z).trans (get_short .u32 4 [b0] z (by simp))
  |[b0,b1]=>(tree119_2 b0 b1 z).trans (get_short .u32 4 [b0,b1] z (by simp))
  |[b0,b1,b2]=>(tree119_3 b0 b1 b2 z).trans (get_short .u32 4 [b0,b1,b2] z (by simp))
  |b0::b1::b2::b3::r=>(tree119_long b0 b1 b2 b3 r z).trans (get_long .u32 4 (b0::b1::b2::b3::r) z _ (by simp) (by
      have e:(numOf ((b0::b1::b2::b3::r).take 4):Int)=numOf [b0,b1,b2,b3]:=rfl
      have h1:=num_le [b0,b1,b2,b3] 4 rfl
      rw[e,gfold_num [b0,b1,b2,b3] (by simp)]
      rw[wrap_u32 (by omega) (by simp at h1; omega)]))
noncomputable def g119:Nat->List DV->List DV->Option OD:=fun el l r=>match el,l,r with
  |195,[.str s,.int .i64 z],[.int .i64 4]=>some (getD .u32 4 s z)
  |_,_,_=>none
theorem g119_ok:∀ el l r d,g119 el l r=some d->d.ok=true->ObjCall Tryz.prog 163 el (toVs l) (toVs r) (toV d.val.1) (toVs d.val.2)/\ofVs (toVs l)=some l/\ofVs (toVs r)=some r:=by
  intro el l r d h ho
  unfold g119 at h
  split at h
  . rename_i s z
    cases h
    obtain⟨h1,h2,h3⟩:=wf_get .u32 4 s z
    exact⟨obj_by _ tab_ok globals4 (by kernel_rfl) (law119 s z) h1 ⟨trivial,trivial,trivial⟩ h2 ⟨trivial,trivial⟩ h3,dec_rd s z,rfl⟩
  . cases h
theorem tree120_0 (z:Int):treeObj laws1 tab [164] 7 200 164 195 [.str [],.int .i64 z] [.int .i64 8]=cond (!decide (z=0)) (some (DV.tup [.int .u64 0,.agg [.str [],.int .i64 z]])) (some (.tup [.int .u64 0,.agg [.str [],.int .i64 10]])):=by kernel_rfl
theorem tree120_1 (b0:UInt8) (z:Int):treeObj laws1 tab [164] 7 200 164 195 [.str [b0],.int .i64 z] [.int .i64 8]=cond (!decide (z=0)) (some (DV.tup [.int .u64 0,.agg [.str [b0],.int .i64 z]])) (some (.tup [.int .u64 0,.agg [.str [],.int .i64 10]])):=by kernel_rfl
theorem tree120_2 (b0 b1:UInt8) (z:Int):treeObj laws1 tab [164] 7 200 164 195 [.str [b0,b1],.int .i64 z] [.int .i64 8]=cond (!decide (z=0)) (some (DV.tup [.int .u64 0,.agg [.str [b0,b1],.int .i64 z]])) (some (.tup [.int .u64 0,.agg [.str [],.int .i64 10]])):=by kernel_rfl
theorem tree120_3 (b0 b1 b2:UInt8) (z:Int):treeObj laws1 tab [164] 7 200 164 195 [.str [b0,b1,b2],.int .i64 z] [.int .i64 8]=cond (!decide (z=0)) (some (DV.tup [.int .u64 0,.agg [.str [b0,b1,b2],.int .i64 z]])) (some (.tup [.int .u64 0,.agg [.str [],.int .i64 10]])):=by kernel_rfl
theorem tree120_4 (b0 b1 b2 b3:UInt8) (z:Int):treeObj laws1 tab [164] 7 200 164 195 [.str [b0,b1,b2,b3],.int .i64 z] [.int .i64 8]=cond (!decide (z=0)) (some (DV.tup [.int .u64 0,.agg [.str [b0,b1,b2,b3],.int .i64 z]])) (some (.tup [.int .u64 0,.agg [.str [],.int .i64 10]])):=by kernel_rfl
theorem tree120_5 (b0 b1 b2 b3 b4:UInt8) (z:Int):treeObj laws1 tab [164] 7 200 164 195 [.str [b0,b1,b2,b3,b4],.int .i64 z] [.int .i64 8]=cond (!decide (z=0)) (some (DV.tup [.int .u64 0,.agg [.str [b0,b1,b2,b3,b4],.int .i64 z]])) (some (.tup [.int .u64 0,.agg [.str [],.int .i64 10]])):=by kernel_rfl
theorem tree120_6 (b0 b1 b2 b3 b4 b5:UInt8) (z:Int):treeObj laws1 tab [164] 7 200 164 195 [.str [b0,b1,b2,b3,b4,b5],.int .i64 z] [.int .i64 8]=cond (!decide (z=0)) (some (DV.tup [.int .u64 0,.agg [.str [b0,b1,b2,b3,b4,b5],.int .i64 z]])) (some (.tup [.int .u64 0,.agg [.str [],.int .i64 10]])):=by kernel_rfl
theorem tree120_7 (b0 b1 b2 b3 b4 b5 b6:UInt8) (z:Int):treeObj laws1 tab [164] 7 200 164 195 [.str [b0,b1,b2,b3,b4,b5,b6],.int .i64 z] [.int .i64 8]=cond (!decide (z=0)) (some (DV.tup [.int .u64 0,.agg [.str [b0,b1,b2,b3,b4,b5,b6],.int .i64 z]])) (some (.tup [.int .u64 0,.agg [.str [],.int .i64 10]])):=by kernel_rfl
theorem tree120_long (b0 b1 b2 b3 b4 b5 b6 b7:UInt8) (r:List UInt8) (z:Int):treeObj laws1 tab [164] 7 200 164 195 [.str (b0::b1::b2::b3::b4::b5::b6::b7::r),.int .i64 z] [.int .i64 8] =
    cond (!decide (z=0)) (some (DV.tup [.int .u64 0,.agg [.str (b0::b1::b2::b3::b4::b5::b6::b7::r),.int .i64 z]])) (cond (decide (((b0::b1::b2::b3::b4::b5::b6::b7::r).length:Int)<8)) (some (.tup [.int .u64 0,.agg [.str [],.int .i64 10]])) (some (.tup [.int .u64 (gfold 0 [b0,b1,b2,b3,b4,b5,b6,b7]),.agg [.str r,.int .i64 z]]))):=by kernel_rfl
theorem law120 (s:List UInt8) (z:Int):treeObj laws1 tab [164] 7 200 164 195 [.str s,.int .i64 z] [.int .i64 8]=some (.tup [(getD .u64 8 s z).val.1,.agg (getD .u64 8 s z).val.2]):=match s with
  |[]=>(tree120_0  z).trans (get_short .u64 8 [] z (by simp))
  |[b0]=>(tree120_1 b0 z).trans (get_short .u64 8 [b0] z (by simp))
  |[b0,b1]=>(tree120_2 b0 b1 z).trans (get_short .u64 8 [b0,b1] z (by simp))
  |[b0,b1,b2]=>(tree120_3 b0 b1 b2 z).trans (get_short .u64 8 [b0,b1,b2] z (by simp))
  |[b0,b1,b2,b3]=>(tree120_4 b0 b1 b2 b3 z).trans (get_short .u64 8 [b0,b1,b2,b3] z (by simp))
  |[b0,b1,b2,b3,b4]=>(tree120_5 b0 b1 b2 b3 b4 z).trans (get_short .u64 8 [b0,b1,b2,b3,b4] z (by simp))
  |[b0,b1,b2,b3,b4,b5]=>(tree120_6 b0 b1 b2 b3 b4 b5 z).trans (get_short .u64 8 [b0,b1,b2,b3,b4,b5] z (by simp))
  |[b0,b1,b2,b3,b4,b5,b6]=>(tree120_7 b0 b1 b2 b3 b4 b5 b6 z).trans (get_short .u64 8 [b0,b1,b2,b3,b4,b5,b6] z (by simp))
  |b0::b1::b2::b3::b4::b5::b6::b7::r=>(tree120_long b0 b1 b2 b3 b4 b5 b6 b7 r z).trans (get_long .u64 8 (b0::b1::b2::b3::b4::b5::b6::b7::r) z _ (by simp) (by
      have e:(numOf ((b0::b1::b2::b3::b4::b5::b6::b7::r).take 8):Int)=numOf [b0,b1,b2,b3,b4,b5,b6,b7]:=rfl
      have h1:=num_le [b0,b1,b2,b3,b4,b5,b6,b7] 8 rfl
      rw[e,gfold_num [b0,b1,b2,b3,b4,b5,b6,b7] (by simp)]))
noncomputable def g120:Nat->List DV->List DV->Option OD:=fun el l r=>match el,l,r with
  |195,[.str s,.int .i64 z],[.int .i64 8]=>some (getD .u64 8 s z)
  |_,_,_=>none
theorem g120_ok:∀ el l r d,g120 el l r=some d->d.ok=true->ObjCall Tryz.prog 164 el (toVs l) (toVs r) (toV d.val.1) (toVs d.val.2)/\ofVs (toVs l)=some l/\ofVs (toVs r)=some r:=by
  intro el l r d h ho
  unfold g120 at h
  split at h
  . rename_i s z
    cases h
    obtain⟨h1,h2,h3⟩:=wf_get .u64 8 s z
    exact⟨obj_by _ tab_ok globals4 (by kernel_rfl) (law120 s z) h1 ⟨trivial,trivial,trivial⟩ h2 ⟨trivial,trivial⟩ h3,dec_rd s z,rfl⟩
  . cases h
noncomputable def laws2:Laws Tryz.prog:=((((laws1.addO 158 g67 g67_ok).addO 180 g99 g99_ok).addO 163 g119 g119_ok).addO 164 g120 g120_ok)
noncomputable def nanN (m:Nat):Bool:=decide (9218868437227405312<m%9223372036854775808)
theorem order_nan (m:Nat):(FloatKind.f64.format.order m m != some .eq)=nanN m:=by
  have key:∀ d:Ieee.Datum,(d.order d != some .eq)=d.isNaN:=by
    intro d
    cases d with
    |nan s f=>rfl
    |infinity s=>cases s<;>rfl
    |number s a i =>
      simp only[Ieee.Datum.order,Ieee.Datum.isNaN]
      have:∀ z:Int,compare z z=.eq:=fun z=>by simp[compare,compareOfLessAndEq]
      rw[this]; rfl
  show ((FloatKind.f64.format.read m).order (FloatKind.f64.format.read m) != some .eq)=_
  rw[key]
  unfold Ieee.Format.read nanN
  have e1:FloatKind.f64.format.signWeight=9223372036854775808:=rfl
  have e2:FloatKind.f64.format.infRung=9218868437227405312:=rfl
  have e3:FloatKind.f64.format.binade=4503599627370496:=rfl
  simp only[e1,e2,e3]
  split
  . rename_i h; simp only[Ieee.Datum.isNaN]; symm; simpa using by omega
  . split
    . rename_i h; simp only[Ieee.Datum.isNaN]; symm; simpa using by omega
    . split
      . rename_i h; simp only[Ieee.Datum.isNaN]; symm; simpa using by omega
      . rename_i h; simp only[Ieee.Datum.isNaN]; symm; simpa using by omega
noncomputable def quietD (n:Nat):PD:=.br (nanN n) (.v (.int .u64 9221120237041090561)) (.v (.int .u64 (n:Int)))
theorem tree121 (n:Nat):treeOf laws2 tab [165] 7 200 165 [.int .u64 (.ofNat n)]=cond (FloatKind.f64.format.order n n != some .eq) (some (.int .u64 9221120237041090561)) (some (.int .u64 (.ofNat n))):=by kernel_rfl
theorem law121 (n:Nat):treeOf laws2 tab [165] 7 200 165 [.int .u64 (.ofNat n)]=some (quietD n).val:=by
  rw[tree121,order_nan]
  unfold quietD
  simp only[PD.val]
  cases nanN n<;>rfl
theorem wf_quiet (n:Nat):wf 0 (toV (quietD n).val):=by
  unfold quietD
  simp only[PD.val]
  split<;>trivial
noncomputable def g121:List DV->Option PD:=fun l=>match l with
  |[.int .u64 (.ofNat n)]=>some (quietD n)
  |_=>none
theorem g121_ok:∀ l d,g121 l=some d->d.ok=true->PlainCall Tryz.prog [] 165 (toVs l) (toV d.val)/\ofVs (toVs l)=some l:=by
  intro l d h ho
  unfold g121 at h
  split at h
  . rename_i n
    cases h
    exact⟨plain_by _ tab_ok globals4 (by kernel_rfl) (law121 n) ⟨trivial,trivial⟩ (wf_quiet n),rfl⟩
  . cases h
noncomputable def laws3:Laws Tryz.prog:=((laws2.add 165 g121 g121_ok))
noncomputable def hstep (a b:Int):Int:=IntKind.wrap .u64 (IntKind.wrap .u64 (a*256)+IntKind.wrap .u64 b)
noncomputable def hfold:Int->List UInt8->Int
  |a,[]=>a
  |a,b::r=>hfold (hstep a b.toNat) r
noncomputable def laws4:Laws Tryz.prog:=(laws3)
theorem cond_dec {α:Type}{p:Prop} [Decidable p] (a b:α):cond (decide p) a b=if p then a else b:=by by_cases h:p<;>simp[h]
theorem cond_ndec {α:Type}{p:Prop} [Decidable p] (a b:α):cond (!decide p) a b=if p then b else a:=by by_cases h:p<;>simp[h]
theorem cond_and {α:Type} (x y:Bool) (a b:α):cond (x&&y) a b=cond x (cond y a b) b:=by cases x<;>rfl
theorem cond_or {α:Type} (x y:Bool) (a b:α):cond (x||y) a b=cond x a (cond y a b):=by cases x<;>rfl
theorem cond_nn {α:Type} (x:Bool) (a b:α):cond (!x) a b=cond x b a:=by cases x<;>rfl
theorem ite_l {α:Type}{c:Prop} [Decidable c] {a b r:α} (ht:c->a=r) (hf:¬ c->b=r):(if c then a else b)=r:=by
  by_cases h:c
  . rw[if_pos h]; exact ht h
  . rw[if_neg h]; exact hf h
theorem ite_r {α:Type}{c:Prop} [Decidable c] {a b r:α} (ht:c->r=a) (hf:¬ c->r=b):r=(if c then a else b):=by
  by_cases h:c
  . rw[if_pos h]; exact ht h
  . rw[if_neg h]; exact hf h
theorem pd_v {x:DV}:some (PD.v x).val=some x:=rfl
theorem pd_br {b:Bool}{t f:PD}:some (PD.br b t f).val=cond b (some t.val) (some f.val):=by cases b<;>rfl
theorem num_take (l:List UInt8) (n:Nat):numOf (l.take n)<256 ^ n:=by
  have:=numOf_lt (l.take n)
  exact Nat.lt_of_lt_of_le this (Nat.pow_le_pow_right (by omega) (by simp; omega))
theorem num_take1 (l:List UInt8):numOf (l.take 1)<256:=num_take l 1
theorem num_take2 (l:List UInt8):numOf (l.take 2)<65536:=num_take l 2
theorem num_take4 (l:List UInt8):numOf (l.take 4)<4294967296:=num_take l 4
noncomputable def errM (e:Int):DV:=.tup [.agg [.int .u8 0,.int .u32 0,.int .u64 0,.int .u64 0],.int .i64 e]
noncomputable def okM (k z m t:Nat):DV:=.tup [.agg [.int .u8 (k:Int),.int .u32 (z:Int),.int .u64 (m:Int),.int .u64 (t:Int)],.int .i64 0]
noncomputable def metaMay (k z m:Nat):Bool:=decide (k=1/\z<=2048∨k=2/\z=0)&&(!nanN m||decide (m=9221120237041090561))
noncomputable def metaOk (s:List UInt8):Bool:=metaMay (numOf (s.take 1)) (numOf ((s.drop 1).take 4)) (numOf ((s.drop 5).take 8))
noncomputable def metaD (s:List UInt8):PD:=.br (decide (s.length<21)) (.v (errM 10)) (.br (decide (21<s.length)) (.v (errM 4))
  (.br (metaOk s) (.v (okM (numOf (s.take 1)) (numOf ((s.drop 1).take 4)) (numOf ((s.drop 5).take 8)) (numOf ((s.drop 13).take 8)))) (.v (errM 4))))
set_option maxRecDepth 10000 in
theorem tree74 (s:List UInt8):treeOf laws4 tab [132,133,134,136,104,140,141,142,143] 7 200 104 [.str s] =
    cond (decide ((↑s.length:Int)<(↑1:Int))) (some (.tup [.agg [.int .u8 0,.int .u32 0,.int .u64 0,.int .u64 0],.int .i64 10])) (cond (decide ((↑(List.length (List.drop 1 s)):Int)<(↑4:Int))) (some (.tup [.agg [.int .u8 0,.int .u32 0,.int .u64 0,.int .u64 0],.int .i64 10])) (cond (decide ((↑(List.length (List.drop 4 (List.drop 1 s))):Int)<(↑8:Int))) (some (.tup [.agg [.int .u8 0,.int .u32 0,.int .u64 0,.int .u64 0],.int .i64 10])) (cond (decide ((↑(List.length (List.drop 8 (List.drop 4 (List.drop 1 s)))):Int)<(↑8:Int))) (some (.tup [.agg [.int .u8 0,.int .u32 0,.int .u64 0,.int .u64 0],.int .i64 10])) (cond (!decide (List.drop 8 (List.drop 8 (List.drop 4 (List.drop 1 s)))=[])) (some (.tup [.agg [.int .u8 0,.int .u32 0,.int .u64 0,.int .u64 0],.int .i64 4])) (cond (!decide ((↑(numOf (List.take 1 s)):Int)=1)) (cond (!decide ((↑(numOf (List.take 1 s)):Int)=2)) (some (.tup [.agg [.int .u8 0,.int .u32 0,.int .u64 0,.int .u64 0],.int .i64 4])) (cond (decide (2048<(↑(numOf (List.take 4 (List.drop 1 s))):Int))) (some (.tup [.agg [.int .u8 0,.int .u32 0,.int .u64 0,.int .u64 0],.int .i64 4])) (cond (decide ((↑(numOf (List.take 1 s)):Int)=2)) (cond (decide (0<(↑(numOf (List.take 4 (List.drop 1 s))):Int))) (some (.tup [.agg [.int .u8 0,.int .u32 0,.int .u64 0,.int .u64 0],.int .i64 4])) (cond (nanN (numOf (List.take 8 (List.drop 4 (List.drop 1 s))))) (cond (!decide (9221120237041090561=(↑(numOf (List.take 8 (List.drop 4 (List.drop 1 s)))):Int))) (some (.tup [.agg [.int .u8 0,.int .u32 0,.int .u64 0,.int .u64 0],.int .i64 4])) (some (.tup [.agg [.int .u8 (↑(numOf (List.take 1 s)):Int),.int .u32 (↑(numOf (List.take 4 (List.drop 1 s))):Int),.int .u64 (↑(numOf (List.take 8 (List.drop 4 (List.drop 1 s)))):Int),.int .u64 (↑(numOf (List.take 8 (List.drop 8 (List.drop 4 (List.drop 1 s))))):Int)],.int .i64 0]))) (cond (!decide ((↑(numOf (List.take 8 (List.drop 4 (List.drop 1 s)))):Int)=(↑(numOf (List.take 8 (List.drop 4 (List.drop 1 s)))):Int))) (some (.tup [.agg [.int .u8 0,.int .u32 0,.int .u64 0,.int .u64 0],.int .i64 4])) (some (.tup [.agg [.int .u8 (↑(numOf (List.take 1 s)):Int),.int .u32 (↑(numOf (List.take 4 (List.drop 1 s))):Int),.int .u64 (↑(numOf (List.take 8 (List.drop 4 (List.drop 1 s)))):Int),.int .u64 (↑(numOf (List.take 8 (List.drop 8 (List.drop 4 (List.drop 1 s))))):Int)],.int .i64 0]))))) (cond (nanN (numOf (List.take 8 (List.drop 4 (List.drop 1 s))))) (cond (!decide (9221120237041090561=(↑(numOf (List.take 8 (List.drop 4 (List.drop 1 s)))):Int))) (some (.tup [.agg [.int .u8 0,.int .u32 0,.int .u64 0,.int .u64 0],.int .i64 4])) (some (.tup [.agg [.int .u8 (↑(numOf (List.take 1 s)):Int),.int .u32 (↑(numOf (List.take 4 (List.drop 1 s))):Int),.int .u64 (↑(numOf (List.take 8 (List.drop 4 (List.drop 1 s)))):Int),.int .u64 (↑(numOf (List.take 8 (List.drop 8 (List.drop 4 (List.drop 1 s))))):Int)],.int .i64 0]))) (cond (!decide ((↑(numOf (List.take 8 (List.drop 4 (List.drop 1 s)))):Int)=(↑(numOf (List.take 8 (List.drop 4 (List.drop 1 s)))):Int))) (some (.tup [.agg [.int .u8 0,.int .u32 0,.int .u64 0,.int .u64 0],.int .i64 4])) (some (.tup [.agg [.int .u8 (↑(numOf (List.take 1 s)):Int),.int .u32 (↑(numOf (List.take 4 (List.drop 1 s))):Int),.int .u64 (↑(numOf (List.take 8 (List.drop 4 (List.drop 1 s)))):Int),.int .u64 (↑(numOf (List.take 8 (List.drop 8 (List.drop 4 (List.drop 1 s))))):Int)],.int .i64 0]))))))) (cond (decide (2048<(↑(numOf (List.take 4 (List.drop 1 s))):Int))) (some (.tup [.agg [.int .u8 0,.int .u32 0,.int .u64 0,.int .u64 0],.int .i64 4])) (cond (decide ((↑(numOf (List.take 1 s)):Int)=2)) (cond (decide (0<(↑(numOf (List.take 4 (List.drop 1 s))):Int))) (some (.tup [.agg [.int .u8 0,.int .u32 0,.int .u64 0,.int .u64 0],.int .i64 4])) (cond (nanN (numOf (List.take 8 (List.drop 4 (List.drop 1 s))))) (cond (!decide (9221120237041090561=(↑(numOf (List.take 8 (List.drop 4 (List.drop 1 s)))):Int))) (some (.tup [.agg [.int .u8 0,.int .u32 0,.int .u64 0,.int .u64 0],.int .i64 4])) (some (.tup [.agg [.int .u8 (↑(numOf (List.take 1 s)):Int),.int .u32 (↑(numOf (List.take 4 (List.drop 1 s))):Int),.int .u64 (↑(numOf (List.take 8 (List.drop 4 (List.drop 1 s)))):Int),.int .u64 (↑(numOf (List.take 8 (List.drop 8 (List.drop 4 (List.drop 1 s))))):Int)],.int .i64 0]))) (cond (!decide ((↑(numOf (List.take 8 (List.drop 4 (List.drop 1 s)))):Int)=(↑(numOf (List.take 8 (List.drop 4 (List.drop 1 s)))):Int))) (some (.tup [.agg [.int .u8 0,.int .u32 0,.int .u64 0,.int .u64 0],.int .i64 4])) (some (.tup [.agg [.int .u8 (↑(numOf (List.take 1 s)):Int),.int .u32 (↑(numOf (List.take 4 (List.drop 1 s))):Int),.int .u64 (↑(numOf (List.take 8 (List.drop 4 (List.drop 1 s)))):Int),.int .u64 (↑(numOf (List.take 8 (List.drop 8 (List.drop 4 (List.drop 1 s))))):Int)],.int .i64 0]))))) (cond (nanN (numOf (List.take 8 (List.drop 4 (List.drop 1 s))))) (cond (!decide (9221120237041090561=(↑(numOf (List.take 8 (List.drop 4 (List.drop 1 s)))):Int))) (some (.tup [.agg [.int .u8 0,.int .u32 0,.int .u64 0,.int .u64 0],.int .i64 4])) (some (.tup [.agg [.int .u8 (↑(numOf (List.take 1 s)):Int),.int .u32 (↑(numOf (List.take 4 (List.drop 1 s))):Int),.int .u64 (↑(numOf (List.take 8 (List.drop 4 (List.drop 1 s)))):Int),.int .u64 (↑(numOf (List.take 8 (List.drop 8 (List.drop 4 (List.drop 1 s))))):Int)],.int .i64 0]))) (cond (!decide ((↑(numOf (List.take 8 (List.drop 4 (List.drop 1 s)))):Int)=(↑(numOf (List.take 8 (List.drop 4 (List.drop 1 s)))):Int))) (some (.tup [.agg [.int .u8 0,.int .u32 0,.int .u64 0,.int .u64 0],.int .i64 4])) (some (.tup [.agg [.int .u8 (↑(numOf (List.take 1 s)):Int),.int .u32 (↑(numOf (List.take 4 (List.drop 1 s))):Int),.int .u64 (↑(numOf (List.take 8 (List.drop 4 (List.drop 1 s)))):Int),.int .u64 (↑(numOf (List.take 8 (List.drop 8 (List.drop 4 (List.drop 1 s))))):Int)],.int .i64 0]))))))))))):=by kernel_rfl
theorem law74 (s:List UInt8):treeOf laws4 tab [132,133,134,136,104,140,141,142,143] 7 200 104 [.str s]=some (metaD s).val:=by
  rw[tree74]
  unfold metaD metaOk metaMay errM okM
  simp only[pd_br,pd_v,List.drop_drop,Nat.reduceAdd,List.length_drop,cond_and,cond_or,cond_nn,cond_dec,cond_ndec,List.drop_eq_nil_iff,if_true,if_false]
  cases nanN (numOf ((s.drop 5).take 8))<;>simp only[cond_true,cond_false]
  all_goals repeat' (first | with_reducible rfl | (refine ite_l (fun _=>?_) (fun _=>?_)) | (refine ite_r (fun _=>?_) (fun _=>?_)) | (exfalso; omega))
theorem wf_meta (s:List UInt8):wf 0 (toV (metaD s).val):=by
  unfold metaD
  simp only[PD.val_br,PD.val_v,cond_and,cond_or,cond_nn,cond_dec]
  repeat' first | exact⟨⟨trivial,trivial,trivial,trivial,trivial⟩,trivial,trivial⟩ | split | (cases metaOk s)
theorem dec_s (s:List UInt8):ofVs (toVs [.str s])=some [.str s]:=by
  show (match ofV (sv s),ofVs [] with | some x,some l=>some (x::l) | _,_=>.none)=_
  rw[ofV_sv]; rfl
noncomputable def g74:List DV->Option PD:=fun l=>match l with
  |[.str s]=>some (metaD s)
  |_=>none
theorem g74_ok:∀ l d,g74 l=some d->d.ok=true->PlainCall Tryz.prog [] 104 (toVs l) (toV d.val)/\ofVs (toVs l)=some l:=by
  intro l d h ho
  unfold g74 at h
  split at h
  . rename_i s
    cases h
    exact⟨plain_by _ tab_ok globals4 (by kernel_rfl) (law74 s) ⟨trivial,trivial⟩ (wf_meta s),dec_s s⟩
  . cases h
noncomputable def laws5:Laws Tryz.prog:=((laws4.add 104 g74 g74_ok))
noncomputable def errC (e:Int):DV:=.tup [.agg [.int .u8 0,.int .u64 0,.int .u8 0,.int .u64 0],.int .i64 e]
noncomputable def okC (w n op by_:Int):DV:=.tup [.agg [.int .u8 w,.int .u64 n,.int .u8 op,.int .u64 by_],.int .i64 0]
noncomputable def changeD (s:List UInt8):PD:=.br (decide (s.length=0)) (.v (errC 10)) (.br (decide (numOf (s.take 1)<1)) (.v (errC 4)) (.br (decide (4<numOf (s.take 1))) (.v (errC 4))
  (.br (decide (numOf (s.take 1)=3))
    (.br (decide (s.length<10)) (.v (errC 10)) (.br (decide (10<s.length)) (.v (errC 4)) (.br (decide (1<=numOf ((s.drop 1).take 1))) (.br (decide (numOf ((s.drop 1).take 1)<=5)) (.v (okC (numOf (s.take 1)) 0 (numOf ((s.drop 1).take 1)) (numOf ((s.drop 2).take 8)))) (.v (errC 4))) (.v (errC 4)))))
    (.br (decide (numOf (s.take 1)=4))
      (.br (decide (s.length<9)) (.v (errC 10)) (.br (decide (9<s.length)) (.v (errC 4)) (.v (okC (numOf (s.take 1)) (numOf ((s.drop 1).take 8)) 0 0))))
      (.br (decide (s.length<5)) (.v (errC 10)) (.br (decide (5<s.length)) (.v (errC 4)) (.br (decide (numOf ((s.drop 1).take 4)<=2048)) (.v (okC (numOf (s.take 1)) (numOf ((s.drop 1).take 4)) 0 0)) (.v (errC 4)))))))))
theorem nil_len (s:List UInt8):(s=[])=(s.length=0):=by simp
set_option maxRecDepth 10000 in
theorem tree75 (s:List UInt8):treeOf laws5 tab [132,133,134,136,105,140,141,142,144] 7 200 105 [.str s] =
    cond (decide (s=[])) (some (.tup [.agg [.int .u8 0,.int .u64 0,.int .u8 0,.int .u64 0],.int .i64 10])) (cond (decide ((↑s.length:Int)<(↑1:Int))) (some (.tup [.agg [.int .u8 0,.int .u64 0,.int .u8 0,.int .u64 0],.int .i64 4])) (cond (decide ((↑(numOf (List.take 1 s)):Int)=1)) (cond (decide ((↑(List.length (List.drop 1 s)):Int)<(↑4:Int))) (some (.tup [.agg [.int .u8 0,.int .u64 0,.int .u8 0,.int .u64 0],.int .i64 10])) (cond (!decide (List.drop 4 (List.drop 1 s)=[])) (some (.tup [.agg [.int .u8 0,.int .u64 0,.int .u8 0,.int .u64 0],.int .i64 4])) (cond (decide ((↑(numOf (List.take 1 s)):Int)=1)) (cond (decide (2048<IntKind.wrap .u64 (↑(numOf (List.take 4 (List.drop 1 s))):Int))) (some (.tup [.agg [.int .u8 0,.int .u64 0,.int .u8 0,.int .u64 0],.int .i64 4])) (some (.tup [.agg [.int .u8 (↑(numOf (List.take 1 s)):Int),.int .u64 (IntKind.wrap .u64 (↑(numOf (List.take 4 (List.drop 1 s))):Int)),.int .u8 0,.int .u64 0],.int .i64 0]))) (cond (decide ((↑(numOf (List.take 1 s)):Int)=2)) (cond (decide (2048<IntKind.wrap .u64 (↑(numOf (List.take 4 (List.drop 1 s))):Int))) (some (.tup [.agg [.int .u8 0,.int .u64 0,.int .u8 0,.int .u64 0],.int .i64 4])) (some (.tup [.agg [.int .u8 (↑(numOf (List.take 1 s)):Int),.int .u64 (IntKind.wrap .u64 (↑(numOf (List.take 4 (List.drop 1 s))):Int)),.int .u8 0,.int .u64 0],.int .i64 0]))) (cond (decide ((↑(numOf (List.take 1 s)):Int)=4)) (some (.tup [.agg [.int .u8 (↑(numOf (List.take 1 s)):Int),.int .u64 (IntKind.wrap .u64 (↑(numOf (List.take 4 (List.drop 1 s))):Int)),.int .u8 0,.int .u64 0],.int .i64 0])) (cond (decide ((↑(numOf (List.take 1 s)):Int)=3)) (cond (decide (IntKind.wrap .u64 (↑(numOf (List.take 4 (List.drop 1 s))):Int)=0)) (some (.tup [.agg [.int .u8 0,.int .u64 0,.int .u8 0,.int .u64 0],.int .i64 4])) (some (.tup [.agg [.int .u8 0,.int .u64 0,.int .u8 0,.int .u64 0],.int .i64 4]))) (some (.tup [.agg [.int .u8 0,.int .u64 0,.int .u8 0,.int .u64 0],.int .i64 4])))))))) (cond (decide ((↑(numOf (List.take 1 s)):Int)=2)) (cond (decide ((↑(List.length (List.drop 1 s)):Int)<(↑4:Int))) (some (.tup [.agg [.int .u8 0,.int .u64 0,.int .u8 0,.int .u64 0],.int .i64 10])) (cond (!decide (List.drop 4 (List.drop 1 s)=[])) (some (.tup [.agg [.int .u8 0,.int .u64 0,.int .u8 0,.int .u64 0],.int .i64 4])) (cond (decide ((↑(numOf (List.take 1 s)):Int)=1)) (cond (decide (2048<IntKind.wrap .u64 (↑(numOf (List.take 4 (List.drop 1 s))):Int))) (some (.tup [.agg [.int .u8 0,.int .u64 0,.int .u8 0,.int .u64 0],.int .i64 4])) (some (.tup [.agg [.int .u8 (↑(numOf (List.take 1 s)):Int),.int .u64 (IntKind.wrap .u64 (↑(numOf (List.take 4 (List.drop 1 s))):Int)),.int .u8 0,.int .u64 0],.int .i64 0]))) (cond (decide ((↑(numOf (List.take 1 s)):Int)=2)) (cond (decide (2048<IntKind.wrap .u64 (↑(numOf (List.take 4 (List.drop 1 s))):Int))) (some (.tup [.agg [.int .u8 0,.int .u64 0,.int .u8 0,.int .u64 0],.int .i64 4])) (some (.tup [.agg [.int .u8 (↑(numOf (List.take 1 s)):Int),.int .u64 (IntKind.wrap .u64 (↑(numOf (List.take 4 (List.drop 1 s))):Int)),.int .u8 0,.int .u64 0],.int .i64 0]))) (cond (decide ((↑(numOf (List.take 1 s)):Int)=4)) (some (.tup [.agg [.int .u8 (↑(numOf (List.take 1 s)):Int),.int .u64 (IntKind.wrap .u64 (↑(numOf (List.take 4 (List.drop 1 s))):Int)),.int .u8 0,.int .u64 0],.int .i64 0])) (cond (decide ((↑(numOf (List.take 1 s)):Int)=3)) (cond (decide (IntKind.wrap .u64 (↑(numOf (List.take 4 (List.drop 1 s))):Int)=0)) (some (.tup [.agg [.int .u8 0,.int .u64 0,.int .u8 0,.int .u64 0],.int .i64 4])) (some (.tup [.agg [.int .u8 0,.int .u64 0,.int .u8 0,.int .u64 0],.int .i64 4]))) (some (.tup [.agg [.int .u8 0,.int .u64 0,.int .u8 0,.int .u64 0],.int .i64 4])))))))) (cond (decide ((↑(numOf (List.take 1 s)):Int)=4)) (cond (decide ((↑(List.length (List.drop 1 s)):Int)<(↑8:Int))) (some (.tup [.agg [.int .u8 0,.int .u64 0,.int .u8 0,.int .u64 0],.int .i64 10])) (cond (!decide (List.drop 8 (List.drop 1 s)=[])) (some (.tup [.agg [.int .u8 0,.int .u64 0,.int .u8 0,.int .u64 0],.int .i64 4])) (cond (decide ((↑(numOf (List.take 1 s)):Int)=1)) (cond (decide (2048<(↑(numOf (List.take 8 (List.drop 1 s))):Int))) (some (.tup [.agg [.int .u8 0,.int .u64 0,.int .u8 0,.int .u64 0],.int .i64 4])) (some (.tup [.agg [.int .u8 (↑(numOf (List.take 1 s)):Int),.int .u64 (↑(numOf (List.take 8 (List.drop 1 s))):Int),.int .u8 0,.int .u64 0],.int .i64 0]))) (cond (decide ((↑(numOf (List.take 1 s)):Int)=2)) (cond (decide (2048<(↑(numOf (List.take 8 (List.drop 1 s))):Int))) (some (.tup [.agg [.int .u8 0,.int .u64 0,.int .u8 0,.int .u64 0],.int .i64 4])) (some (.tup [.agg [.int .u8 (↑(numOf (List.take 1 s)):Int),.int .u64 (↑(numOf (List.take 8 (List.drop 1 s))):Int),.int .u8 0,.int .u64 0],.int .i64 0]))) (cond (decide ((↑(numOf (List.take 1 s)):Int)=4)) (some (.tup [.agg [.int .u8 (↑(numOf (List.take 1 s)):Int),.int .u64 (↑(numOf (List.take 8 (List.drop 1 s))):Int),.int .u8 0,.int .u64 0],.int .i64 0])) (cond (decide ((↑(numOf (List.take 1 s)):Int)=3)) (cond (decide ((↑(numOf (List.take 8 (List.drop 1 s))):Int)=0)) (some (.tup [.agg [.int .u8 0,.int .u64 0,.int .u8 0,.int .u64 0],.int .i64 4])) (some (.tup [.agg [.int .u8 0,.int .u64 0,.int .u8 0,.int .u64 0],.int .i64 4]))) (some (.tup [.agg [.int .u8 0,.int .u64 0,.int .u8 0,.int .u64 0],.int .i64 4])))))))) (cond (decide ((↑(numOf (List.take 1 s)):Int)=3)) (cond (decide ((↑(List.length (List.drop 1 s)):Int)<(↑1:Int))) (some (.tup [.agg [.int .u8 0,.int .u64 0,.int .u8 0,.int .u64 0],.int .i64 10])) (cond (decide ((↑(List.length (List.drop 1 (List.drop 1 s))):Int)<(↑8:Int))) (some (.tup [.agg [.int .u8 0,.int .u64 0,.int .u8 0,.int .u64 0],.int .i64 10])) (cond (!decide (List.drop 8 (List.drop 1 (List.drop 1 s))=[])) (some (.tup [.agg [.int .u8 0,.int .u64 0,.int .u8 0,.int .u64 0],.int .i64 4])) (cond (decide ((↑(numOf (List.take 1 s)):Int)=1)) (cond (!(decide ((↑(numOf (List.take 1 (List.drop 1 s))):Int)=0)&&(decide ((↑(numOf (List.take 8 (List.drop 1 (List.drop 1 s)))):Int)=0)&&true)) != false) (some (.tup [.agg [.int .u8 0,.int .u64 0,.int .u8 0,.int .u64 0],.int .i64 4])) (some (.tup [.agg [.int .u8 (↑(numOf (List.take 1 s)):Int),.int .u64 0,.int .u8 (↑(numOf (List.take 1 (List.drop 1 s))):Int),.int .u64 (↑(numOf (List.take 8 (List.drop 1 (List.drop 1 s)))):Int)],.int .i64 0]))) (cond (decide ((↑(numOf (List.take 1 s)):Int)=2)) (cond (!(decide ((↑(numOf (List.take 1 (List.drop 1 s))):Int)=0)&&(decide ((↑(numOf (List.take 8 (List.drop 1 (List.drop 1 s)))):Int)=0)&&true)) != false) (some (.tup [.agg [.int .u8 0,.int .u64 0,.int .u8 0,.int .u64 0],.int .i64 4])) (some (.tup [.agg [.int .u8 (↑(numOf (List.take 1 s)):Int),.int .u64 0,.int .u8 (↑(numOf (List.take 1 (List.drop 1 s))):Int),.int .u64 (↑(numOf (List.take 8 (List.drop 1 (List.drop 1 s)))):Int)],.int .i64 0]))) (cond (decide ((↑(numOf (List.take 1 s)):Int)=4)) (cond (!(decide ((↑(numOf (List.take 1 (List.drop 1 s))):Int)=0)&&(decide ((↑(numOf (List.take 8 (List.drop 1 (List.drop 1 s)))):Int)=0)&&true)) != false) (some (.tup [.agg [.int .u8 0,.int .u64 0,.int .u8 0,.int .u64 0],.int .i64 4])) (some (.tup [.agg [.int .u8 (↑(numOf (List.take 1 s)):Int),.int .u64 0,.int .u8 (↑(numOf (List.take 1 (List.drop 1 s))):Int),.int .u64 (↑(numOf (List.take 8 (List.drop 1 (List.drop 1 s)))):Int)],.int .i64 0]))) (cond (decide ((↑(numOf (List.take 1 s)):Int)=3)) (cond (decide (1<=(↑(numOf (List.take 1 (List.drop 1 s))):Int))) (cond (!decide ((↑(numOf (List.take 1 (List.drop 1 s))):Int)<=5)) (some (.tup [.agg [.int .u8 0,.int .u64 0,.int .u8 0,.int .u64 0],.int .i64 4])) (some (.tup [.agg [.int .u8 (↑(numOf (List.take 1 s)):Int),.int .u64 0,.int .u8 (↑(numOf (List.take 1 (List.drop 1 s))):Int),.int .u64 (↑(numOf (List.take 8 (List.drop 1 (List.drop 1 s)))):Int)],.int .i64 0]))) (some (.tup [.agg [.int .u8 0,.int .u64 0,.int .u8 0,.int .u64 0],.int .i64 4]))) (some (.tup [.agg [.int .u8 0,.int .u64 0,.int .u8 0,.int .u64 0],.int .i64 4]))))))))) (some (.tup [.agg [.int .u8 0,.int .u64 0,.int .u8 0,.int .u64 0],.int .i64 4]))))))):=by kernel_rfl
theorem law75 (s:List UInt8):treeOf laws5 tab [132,133,134,136,105,140,141,142,144] 7 200 105 [.str s]=some (changeD s).val:=by
  rw[tree75]
  unfold changeD errC okC
  have b1:=num_take1 s
  have b2:=num_take1 (s.drop 1)
  have b4:=num_take4 (s.drop 1)
  simp only[nil_len,pd_br,pd_v,List.drop_drop,Nat.reduceAdd,List.length_drop,cond_and,cond_or,cond_nn,cond_dec,cond_ndec,List.drop_eq_nil_iff,if_true,if_false,cond_true,cond_false]
  rw[wrap_u64 (z:=(numOf ((s.drop 1).take 4):Int)) (by omega) (by omega)]
  repeat' (first | with_reducible rfl | (refine ite_l (fun _=>?_) (fun _=>?_)) | (refine ite_r (fun _=>?_) (fun _=>?_)) | (exfalso; omega))
theorem wf_change (s:List UInt8):wf 0 (toV (changeD s).val):=by
  unfold changeD
  simp only[PD.val_br,PD.val_v,cond_dec]
  repeat' first | exact⟨⟨trivial,trivial,trivial,trivial,trivial⟩,trivial,trivial⟩ | split
noncomputable def gchange:List DV->Option PD:=fun l=>match l with
  |[.str s]=>some (changeD s)
  |_=>none
theorem g75_ok:∀ l d,gchange l=some d->d.ok=true->PlainCall Tryz.prog [] 105 (toVs l) (toV d.val)/\ofVs (toVs l)=some l:=by
  intro l d h ho
  unfold gchange at h
  split at h
  . rename_i s
    cases h
    exact⟨plain_by _ tab_ok globals4 (by kernel_rfl) (law75 s) ⟨trivial,trivial⟩ (wf_change s),dec_s s⟩
  . cases h
noncomputable def blockOk (s:List UInt8):Bool:=decide (0<s.length)&&(decide (s.length<=64)&&decide ((s.getD (s.length-1) 0).toNat ≠ 0))
noncomputable def blockD (s:List UInt8):PD:=.br (blockOk s) (.v (.int .i64 0)) (.v (.int .i64 4))
set_option maxRecDepth 10000 in
theorem tree93 (s:List UInt8):treeOf laws5 tab [128] 7 200 128 [.str s] =
    cond (decide (s=[])) (some (.int .i64 4)) (cond (decide (64<(↑s.length:Int))) (some (.int .i64 4)) (cond (decide (0<=IntKind.wrap .i64 ((↑s.length:Int)-1))&&decide (IntKind.wrap .i64 ((↑s.length:Int)-1)<(↑s.length:Int))) (cond (decide ((↑(UInt8.toNat (List.getD s (Int.toNat (IntKind.wrap .i64 ((↑s.length:Int)-1))) 0)):Int)=0)) (some (.int .i64 4)) (some (.int .i64 0))) none)):=by kernel_rfl
theorem law93 (s:List UInt8):treeOf laws5 tab [128] 7 200 128 [.str s]=some (blockD s).val:=by
  rw[tree93]
  unfold blockD blockOk
  simp only[nil_len,pd_br,pd_v,cond_and,cond_dec]
  by_cases h:64<s.length
  . repeat' (first | with_reducible rfl | (refine ite_l (fun _=>?_) (fun _=>?_)) | (refine ite_r (fun _=>?_) (fun _=>?_)) | (exfalso; omega))
  . rw[wrap_i64 (by omega) (by omega),show ((s.length:Int)-1).toNat=s.length-1 by omega]
    repeat' (first | with_reducible rfl | (refine ite_l (fun _=>?_) (fun _=>?_)) | (refine ite_r (fun _=>?_) (fun _=>?_)) | (exfalso; omega))
theorem wf_block (s:List UInt8):wf 0 (toV (blockD s).val):=by
  unfold blockD
  simp only[PD.val]
  split<;>trivial
noncomputable def gblock:List DV->Option PD:=fun l=>match l with
  |[.str s]=>some (blockD s)
  |_=>none
theorem g93_ok:∀ l d,gblock l=some d->d.ok=true->PlainCall Tryz.prog [] 128 (toVs l) (toV d.val)/\ofVs (toVs l)=some l:=by
  intro l d h ho
  unfold gblock at h
  split at h
  . rename_i s
    cases h
    exact⟨plain_by _ tab_ok globals4 (by kernel_rfl) (law93 s) ⟨trivial,trivial⟩ (wf_block s),dec_s s⟩
  . cases h
noncomputable def laws6:Laws Tryz.prog:=((((laws5.add 105 gchange g75_ok)).add 128 gblock g93_ok))
noncomputable def errP (e:Int):DV:=.tup [.agg [.bool false,.int .i64 0,.int .i64 0,.str []],.int .i64 e]
noncomputable def okP (c:Bool) (a n:Int) (t:List UInt8):DV:=.tup [.agg [.bool c,.int .i64 a,.int .i64 n,.str t],.int .i64 0]
noncomputable def patchD (s:List UInt8):PD:=.br (decide (s.length=0)) (.v (errP 10)) (.br (decide (numOf (s.take 1)=2))
    (.br (decide (s.length<2)) (.v (errP 10)) (.br (decide (2<s.length)) (.v (errP 4)) (.br (decide (numOf ((s.drop 1).take 1)<64)) (.v (okP true 0 (numOf ((s.drop 1).take 1)) [])) (.v (errP 4)))))
    (.br (decide (numOf (s.take 1)=1))
      (.br (decide (s.length<4)) (.v (errP 10)) (.br (decide (s.length<4+numOf ((s.drop 2).take 2))) (.v (errP 10)) (.br (decide (4+numOf ((s.drop 2).take 2)<s.length)) (.v (errP 4))
        (.br (decide (1<=numOf ((s.drop 2).take 2))) (.br (decide (numOf ((s.drop 2).take 2)<=64)) (.br (decide (numOf ((s.drop 1).take 1)+numOf ((s.drop 2).take 2)<=64))
          (.v (okP false (numOf ((s.drop 1).take 1)) 0 ((s.drop 4).take (numOf ((s.drop 2).take 2))))) (.v (errP 4))) (.v (errP 4))) (.v (errP 4))))))
      (.v (errP 4))))
set_option maxRecDepth 10000 in
theorem tree72 (s:List UInt8):treeOf laws6 tab [132,133,135,134,136,160,102,137] 7 200 102 [.str s] =
    cond (decide ((↑s.length:Int)<(↑1:Int))) (some (.tup [.agg [.bool false,.int .i64 0,.int .i64 0,.str []],.int .i64 10])) (cond (decide ((↑(numOf (List.take 1 s)):Int)=2)) (cond (decide ((↑(List.length (List.drop 1 s)):Int)<(↑1:Int))) (some (.tup [.agg [.bool false,.int .i64 0,.int .i64 0,.str []],.int .i64 10])) (cond (!decide (List.drop 1 (List.drop 1 s)=[])) (some (.tup [.agg [.bool false,.int .i64 0,.int .i64 0,.str []],.int .i64 4])) (cond (decide (0<=IntKind.wrap .i64 (↑(numOf (List.take 1 (List.drop 1 s))):Int))) (cond (decide (IntKind.wrap .i64 (↑(numOf (List.take 1 (List.drop 1 s))):Int)<64)) (some (.tup [.agg [.bool true,.int .i64 0,.int .i64 (IntKind.wrap .i64 (↑(numOf (List.take 1 (List.drop 1 s))):Int)),.str []],.int .i64 0])) (some (.tup [.agg [.bool false,.int .i64 0,.int .i64 0,.str []],.int .i64 4]))) (some (.tup [.agg [.bool false,.int .i64 0,.int .i64 0,.str []],.int .i64 4]))))) (cond (decide ((↑(numOf (List.take 1 s)):Int)=1)) (cond (decide ((↑(List.length (List.drop 1 s)):Int)<(↑1:Int))) (some (.tup [.agg [.bool false,.int .i64 0,.int .i64 0,.str []],.int .i64 10])) (cond (decide ((↑(List.length (List.drop 1 (List.drop 1 s))):Int)<(↑2:Int))) (some (.tup [.agg [.bool false,.int .i64 0,.int .i64 0,.str []],.int .i64 10])) (cond (decide (IntKind.wrap .i64 (↑(numOf (List.take 2 (List.drop 1 (List.drop 1 s)))):Int)<=0)) (cond (!decide (List.drop 2 (List.drop 1 (List.drop 1 s))=[])) (some (.tup [.agg [.bool false,.int .i64 0,.int .i64 0,.str []],.int .i64 4])) (some (.tup [.agg [.bool false,.int .i64 0,.int .i64 0,.str []],.int .i64 4]))) (cond (decide ((↑(List.length (List.drop 2 (List.drop 1 (List.drop 1 s)))):Int)<IntKind.wrap .i64 (↑(numOf (List.take 2 (List.drop 1 (List.drop 1 s)))):Int))) (some (.tup [.agg [.bool false,.int .i64 0,.int .i64 0,.str []],.int .i64 10])) (cond (!decide (List.drop (Int.toNat (IntKind.wrap .i64 (↑(numOf (List.take 2 (List.drop 1 (List.drop 1 s)))):Int))) (List.drop 2 (List.drop 1 (List.drop 1 s)))=[])) (some (.tup [.agg [.bool false,.int .i64 0,.int .i64 0,.str []],.int .i64 4])) (cond (!decide (List.take (Int.toNat (IntKind.wrap .i64 (↑(numOf (List.take 2 (List.drop 1 (List.drop 1 s)))):Int))) (List.drop 2 (List.drop 1 (List.drop 1 s)))=[])) (cond (decide ((↑(List.length (List.take (Int.toNat (IntKind.wrap .i64 (↑(numOf (List.take 2 (List.drop 1 (List.drop 1 s)))):Int))) (List.drop 2 (List.drop 1 (List.drop 1 s))))):Int)<=64)) (cond (decide (0<=IntKind.wrap .i64 (↑(numOf (List.take 1 (List.drop 1 s))):Int))) (cond (decide (IntKind.wrap .i64 (↑(numOf (List.take 1 (List.drop 1 s))):Int)<=IntKind.wrap .i64 (64-(↑(List.length (List.take (Int.toNat (IntKind.wrap .i64 (↑(numOf (List.take 2 (List.drop 1 (List.drop 1 s)))):Int))) (List.drop 2 (List.drop 1 (List.drop 1 s))))):Int)))) (some (.tup [.agg [.bool false,.int .i64 (IntKind.wrap .i64 (↑(numOf (List.take 1 (List.drop 1 s))):Int)),.int .i64 0,.str (List.take (Int.toNat (IntKind.wrap .i64 (↑(numOf (List.take 2 (List.drop 1 (List.drop 1 s)))):Int))) (List.drop 2 (List.drop 1 (List.drop 1 s))))],.int .i64 0])) (some (.tup [.agg [.bool false,.int .i64 0,.int .i64 0,.str []],.int .i64 4]))) (some (.tup [.agg [.bool false,.int .i64 0,.int .i64 0,.str []],.int .i64 4]))) (some (.tup [.agg [.bool false,.int .i64 0,.int .i64 0,.str []],.int .i64 4]))) (some (.tup [.agg [.bool false,.int .i64 0,.int .i64 0,.str []],.int .i64 4])))))))) (some (.tup [.agg [.bool false,.int .i64 0,.int .i64 0,.str []],.int .i64 4])))):=by kernel_rfl
theorem law72 (s:List UInt8):treeOf laws6 tab [132,133,135,134,136,160,102,137] 7 200 102 [.str s]=some (patchD s).val:=by
  rw[tree72]
  unfold patchD errP okP
  have b1:=num_take1 s
  have b2:=num_take1 (s.drop 1)
  have b4:=num_take2 (s.drop 2)
  simp only[List.drop_drop,Nat.reduceAdd]
  rw[wrap_i64 (z:=(numOf ((s.drop 2).take 2):Int)) (by omega) (by omega),wrap_i64 (z:=(numOf ((s.drop 1).take 1):Int)) (by omega) (by omega)]
  simp only[nil_len,pd_br,pd_v,List.drop_drop,Nat.reduceAdd,List.length_drop,List.length_take,cond_and,cond_or,cond_nn,cond_dec,cond_ndec,if_true,if_false,cond_true,cond_false,Int.toNat_natCast]
  rw[wrap_i64 (z:=64-((min (numOf ((s.drop 2).take 2)) (s.length-4):Nat):Int)) (by omega) (by omega)]
  repeat' (first | with_reducible rfl | (refine ite_l (fun _=>?_) (fun _=>?_)) | (refine ite_r (fun _=>?_) (fun _=>?_)) | (exfalso; omega))
theorem wf_patch (s:List UInt8):wf 0 (toV (patchD s).val):=by
  unfold patchD
  simp only[PD.val_br,PD.val_v,cond_dec]
  repeat' first | exact⟨⟨trivial,trivial,trivial,trivial,trivial⟩,trivial,trivial⟩ | split
noncomputable def gpatch:List DV->Option PD:=fun l=>match l with
  |[.str s]=>some (patchD s)
  |_=>none
theorem g72_ok:∀ l d,gpatch l=some d->d.ok=true->PlainCall Tryz.prog [] 102 (toVs l) (toV d.val)/\ofVs (toVs l)=some l:=by
  intro l d h ho
  unfold gpatch at h
  split at h
  . rename_i s
    cases h
    exact⟨plain_by _ tab_ok globals4 (by kernel_rfl) (law72 s) ⟨trivial,trivial⟩ (wf_patch s),dec_s s⟩
  . cases h
noncomputable def laws7:Laws Tryz.prog:=((laws6.add 102 gpatch g72_ok))
noncomputable def fineV:DV->Bool
  | .tup [_,.int _ e]=>decide (e=0)
  |_=>false
noncomputable def fine:PD->Bool
  | .v x=>fineV x
  | .br b t f=>cond b (fine t) (fine f)
  | .need _ t=>fine t
theorem some_cond (b x y:Bool):some (DV.bool (cond b x y))=cond b (some (.bool x)) (some (.bool y)):=by cases b<;>rfl
theorem bool_br (b:Bool) (t f:PD):some (DV.bool (fine (.br b t f)))=cond b (some (.bool (fine t))) (some (.bool (fine f))):=some_cond _ _ _
theorem some_b (b:Bool):cond b (some (DV.bool true)) (some (.bool false))=some (.bool b):=by cases b<;>rfl
set_option maxRecDepth 10000 in
theorem tree90 (s:List UInt8):treeOf laws7 tab [125] 7 200 125 [.str s] =
    cond (decide (List.length s<21)) (some (.bool false)) (cond (decide (21<List.length s)) (some (.bool false)) (cond (metaOk s) (some (.bool true)) (some (.bool false)))):=by kernel_rfl
theorem law90 (s:List UInt8):treeOf laws7 tab [125] 7 200 125 [.str s]=some (.bool (fine (metaD s))):=by
  rw[tree90]
  unfold metaD; simp only[bool_br]; rfl
set_option maxRecDepth 10000 in
theorem tree91 (s:List UInt8):treeOf laws7 tab [126] 7 200 126 [.str s] =
    cond (decide (List.length s=0)) (some (.bool false)) (cond (decide (numOf (List.take 1 s)<1)) (some (.bool false)) (cond (decide (4<numOf (List.take 1 s))) (some (.bool false)) (cond (decide (numOf (List.take 1 s)=3)) (cond (decide (List.length s<10)) (some (.bool false)) (cond (decide (10<List.length s)) (some (.bool false)) (cond (decide (1<=numOf (List.take 1 (List.drop 1 s)))) (cond (decide (numOf (List.take 1 (List.drop 1 s))<=5)) (some (.bool true)) (some (.bool false))) (some (.bool false))))) (cond (decide (numOf (List.take 1 s)=4)) (cond (decide (List.length s<9)) (some (.bool false)) (cond (decide (9<List.length s)) (some (.bool false)) (some (.bool true)))) (cond (decide (List.length s<5)) (some (.bool false)) (cond (decide (5<List.length s)) (some (.bool false)) (cond (decide (numOf (List.take 4 (List.drop 1 s))<=2048)) (some (.bool true)) (some (.bool false))))))))):=by kernel_rfl
theorem law91 (s:List UInt8):treeOf laws7 tab [126] 7 200 126 [.str s]=some (.bool (fine (changeD s))):=by
  rw[tree91]
  unfold changeD; simp only[bool_br]; rfl
set_option maxRecDepth 10000 in
theorem tree92 (s:List UInt8):treeOf laws7 tab [127] 7 200 127 [.str s] =
    cond (blockOk s) (some (.bool true)) (some (.bool false)):=by kernel_rfl
theorem law92 (s:List UInt8):treeOf laws7 tab [127] 7 200 127 [.str s]=some (.bool (blockOk s)):=by
  rw[tree92]
  exact some_b _
set_option maxRecDepth 10000 in
theorem tree94 (s:List UInt8):treeOf laws7 tab [129] 7 200 129 [.str s] =
    cond (decide (List.length s=0)) (some (.bool false)) (cond (decide (numOf (List.take 1 s)=2)) (cond (decide (List.length s<2)) (some (.bool false)) (cond (decide (2<List.length s)) (some (.bool false)) (cond (decide (numOf (List.take 1 (List.drop 1 s))<64)) (some (.bool true)) (some (.bool false))))) (cond (decide (numOf (List.take 1 s)=1)) (cond (decide (List.length s<4)) (some (.bool false)) (cond (decide (List.length s<4+numOf (List.take 2 (List.drop 2 s)))) (some (.bool false)) (cond (decide (4+numOf (List.take 2 (List.drop 2 s))<List.length s)) (some (.bool false)) (cond (decide (1<=numOf (List.take 2 (List.drop 2 s)))) (cond (decide (numOf (List.take 2 (List.drop 2 s))<=64)) (cond (decide (numOf (List.take 1 (List.drop 1 s))+numOf (List.take 2 (List.drop 2 s))<=64)) (some (.bool true)) (some (.bool false))) (some (.bool false))) (some (.bool false)))))) (some (.bool false)))):=by kernel_rfl
theorem law94 (s:List UInt8):treeOf laws7 tab [129] 7 200 129 [.str s]=some (.bool (fine (patchD s))):=by
  rw[tree94]
  unfold patchD; simp only[bool_br]; rfl
set_option maxRecDepth 10000 in
theorem tree95 (s:List UInt8):treeOf laws7 tab [130] 7 200 130 [.str s] =
    some (.bool (decide ((↑s.length:Int)<=64))):=by kernel_rfl
theorem law95 (s:List UInt8):treeOf laws7 tab [130] 7 200 130 [.str s]=some (.bool (decide ((↑s.length:Int)<=64))):=by
  rw[tree95]
  skip
set_option maxRecDepth 10000 in
theorem tree96 (s:List UInt8):treeOf laws7 tab [131] 7 200 131 [.str s] =
    some (.bool false):=by kernel_rfl
theorem law96 (s:List UInt8):treeOf laws7 tab [131] 7 200 131 [.str s]=some (.bool (false)):=by
  rw[tree96]
  skip
noncomputable def g90:List DV->Option PD:=fun l=>match l with
  |[.str s]=>some (.v (.bool (fine (metaD s))))
  |_=>none
theorem g90_ok:∀ l d,g90 l=some d->d.ok=true->PlainCall Tryz.prog [] 125 (toVs l) (toV d.val)/\ofVs (toVs l)=some l:=by
  intro l d h ho
  unfold g90 at h
  split at h
  . rename_i s
    cases h
    exact⟨plain_by _ tab_ok globals4 (by kernel_rfl) (law90 s) ⟨trivial,trivial⟩ trivial,dec_s s⟩
  . cases h
noncomputable def g91:List DV->Option PD:=fun l=>match l with
  |[.str s]=>some (.v (.bool (fine (changeD s))))
  |_=>none
theorem g91_ok:∀ l d,g91 l=some d->d.ok=true->PlainCall Tryz.prog [] 126 (toVs l) (toV d.val)/\ofVs (toVs l)=some l:=by
  intro l d h ho
  unfold g91 at h
  split at h
  . rename_i s
    cases h
    exact⟨plain_by _ tab_ok globals4 (by kernel_rfl) (law91 s) ⟨trivial,trivial⟩ trivial,dec_s s⟩
  . cases h
noncomputable def g92:List DV->Option PD:=fun l=>match l with
  |[.str s]=>some (.v (.bool (blockOk s)))
  |_=>none
theorem g92_ok:∀ l d,g92 l=some d->d.ok=true->PlainCall Tryz.prog [] 127 (toVs l) (toV d.val)/\ofVs (toVs l)=some l:=by
  intro l d h ho
  unfold g92 at h
  split at h
  . rename_i s
    cases h
    exact⟨plain_by _ tab_ok globals4 (by kernel_rfl) (law92 s) ⟨trivial,trivial⟩ trivial,dec_s s⟩
  . cases h
noncomputable def g94:List DV->Option PD:=fun l=>match l with
  |[.str s]=>some (.v (.bool (fine (patchD s))))
  |_=>none
theorem g94_ok:∀ l d,g94 l=some d->d.ok=true->PlainCall Tryz.prog [] 129 (toVs l) (toV d.val)/\ofVs (toVs l)=some l:=by
  intro l d h ho
  unfold g94 at h
  split at h
  . rename_i s
    cases h
    exact⟨plain_by _ tab_ok globals4 (by kernel_rfl) (law94 s) ⟨trivial,trivial⟩ trivial,dec_s s⟩
  . cases h
noncomputable def g95:List DV->Option PD:=fun l=>match l with
  |[.str s]=>some (.v (.bool (decide ((↑s.length:Int)<=64))))
  |_=>none
theorem g95_ok:∀ l d,g95 l=some d->d.ok=true->PlainCall Tryz.prog [] 130 (toVs l) (toV d.val)/\ofVs (toVs l)=some l:=by
  intro l d h ho
  unfold g95 at h
  split at h
  . rename_i s
    cases h
    exact⟨plain_by _ tab_ok globals4 (by kernel_rfl) (law95 s) ⟨trivial,trivial⟩ trivial,dec_s s⟩
  . cases h
noncomputable def g96:List DV->Option PD:=fun l=>match l with
  |[.str s]=>some (.v (.bool (false)))
  |_=>none
theorem g96_ok:∀ l d,g96 l=some d->d.ok=true->PlainCall Tryz.prog [] 131 (toVs l) (toV d.val)/\ofVs (toVs l)=some l:=by
  intro l d h ho
  unfold g96 at h
  split at h
  . rename_i s
    cases h
    exact⟨plain_by _ tab_ok globals4 (by kernel_rfl) (law96 s) ⟨trivial,trivial⟩ trivial,dec_s s⟩
  . cases h
noncomputable def valOk (k s:List UInt8):Bool:=cond (decide ((↑(UInt8.toNat (List.getD k 0 0)):Int)=109)) (fine (metaD s)) (cond (decide ((↑(UInt8.toNat (List.getD k 0 0)):Int)=100)) (cond (blockOk s) true false) (decide ((↑s.length:Int)<=64)))
noncomputable def patOk (k s:List UInt8):Bool:=cond (decide ((↑(UInt8.toNat (List.getD k 0 0)):Int)=109)) (fine (changeD s)) (cond (decide ((↑(UInt8.toNat (List.getD k 0 0)):Int)=100)) (fine (patchD s)) false)
noncomputable def laws8:Laws Tryz.prog:=((((((((laws7.add 125 g90 g90_ok).add 126 g91 g91_ok).add 127 g92 g92_ok).add 129 g94 g94_ok).add 130 g95 g95_ok).add 131 g96 g96_ok)))
theorem cond_tf (b:Bool):cond b true false=b:=by cases b<;>rfl
noncomputable def mayB (op:Int) (k t v:List UInt8):Bool:=cond (decide (k.length<1)) false (cond (decide (108<k.length)) false
  (cond (decide (op=3)) (cond (decide (v.length=0)) (cond (decide (t.length=0)) false (cond (decide (t.length<=108)) (Op.bytesLess k t) false)) false)
    (cond (decide (t.length=0)) (cond (decide (op=1)) (valOk k v) (cond (decide (op=4)) (patOk k v) (cond (decide (op=2)) (decide (v.length=0)) false))) false)))
theorem dec_msg (op:Int) (k t v:List UInt8):ofVs (toVs [.agg [.int .i64 op,.str k,.str t,.str v]])=some [.agg [.int .i64 op,.str k,.str t,.str v]]:=by
  have e:ofVs [sv k,sv t,sv v]=some [.str k,.str t,.str v]:=by
    show (match ofV (sv k),(match ofV (sv t),(match ofV (sv v),ofVs [] with | some x,some l=>some (x::l) | _,_=>.none) with | some x,some l=>some (x::l) | _,_=>.none) with | some x,some l=>some (x::l) | _,_=>.none)=_
    rw[ofV_sv,ofV_sv,ofV_sv]; rfl
  show (match (match (match ofV (.int .i64 op),ofVs [sv k,sv t,sv v] with | some x,some l=>some (x::l) | _,_=>.none) with | some r=>some (DV.agg r) | .none=>.none),ofVs [] with | some x,some l=>some (x::l) | _,_=>.none)=_
  rw[e]; rfl
set_option maxRecDepth 10000 in
theorem tree32 (op:Int) (k t v:List UInt8):treeOf laws8 tab [76,100,101] 7 200 76 [.agg [.int .i64 op,.str k,.str t,.str v]] =
    cond (!decide (k=[])) (cond (!decide ((↑k.length:Int)<=108)) (some (.bool false)) (cond (true&&decide (0<(↑k.length:Int))) (cond (decide ((↑(UInt8.toNat (List.getD k 0 0)):Int)=109)) (cond (decide (op=1)) (cond (decide (t=[])) (some (.bool (fine (metaD v)))) (some (.bool false))) (cond (decide (op=4)) (cond (decide (t=[])) (some (.bool (fine (changeD v)))) (some (.bool false))) (cond (decide (op=2)) (cond (decide (t=[])) (some (.bool (decide (v=[])))) (some (.bool false))) (cond (decide (op=3)) (cond (decide (v=[])) (cond (!decide (t=[])) (cond (decide ((↑t.length:Int)<=108)) (some (.bool (Op.bytesLess k t))) (some (.bool false))) (some (.bool false))) (some (.bool false))) (some (.bool false)))))) (cond (decide ((↑(UInt8.toNat (List.getD k 0 0)):Int)=100)) (cond (decide (op=1)) (cond (decide (t=[])) (some (.bool (blockOk v))) (some (.bool false))) (cond (decide (op=4)) (cond (decide (t=[])) (some (.bool (fine (patchD v)))) (some (.bool false))) (cond (decide (op=2)) (cond (decide (t=[])) (some (.bool (decide (v=[])))) (some (.bool false))) (cond (decide (op=3)) (cond (decide (v=[])) (cond (!decide (t=[])) (cond (decide ((↑t.length:Int)<=108)) (some (.bool (Op.bytesLess k t))) (some (.bool false))) (some (.bool false))) (some (.bool false))) (some (.bool false)))))) (cond (decide (op=1)) (cond (decide (t=[])) (some (.bool (decide ((↑v.length:Int)<=64)))) (some (.bool false))) (cond (decide (op=4)) (cond (decide (t=[])) (some (.bool false)) (some (.bool false))) (cond (decide (op=2)) (cond (decide (t=[])) (some (.bool (decide (v=[])))) (some (.bool false))) (cond (decide (op=3)) (cond (decide (v=[])) (cond (!decide (t=[])) (cond (decide ((↑t.length:Int)<=108)) (some (.bool (Op.bytesLess k t))) (some (.bool false))) (some (.bool false))) (some (.bool false))) (some (.bool false)))))))) none)) (some (.bool false)):=by kernel_rfl
set_option maxHeartbeats 4000000 in
theorem law32 (op:Int) (k t v:List UInt8):treeOf laws8 tab [76,100,101] 7 200 76 [.agg [.int .i64 op,.str k,.str t,.str v]]=some (PD.v (.bool (mayB op k t v))).val:=by
  rw[tree32]
  unfold mayB valOk patOk
  simp only[pd_v,cond_tf,some_cond]
  simp only[nil_len,cond_and,cond_or,cond_nn,cond_dec,cond_ndec,if_true,if_false,cond_true,cond_false]
  repeat' (first | (exfalso; omega) | with_reducible rfl | (refine ite_l (fun _=>?_) (fun _=>?_)) | (refine ite_r (fun _=>?_) (fun _=>?_)))
noncomputable def gmay:List DV->Option PD:=fun l=>match l with
  |[.agg [.int .i64 op,.str k,.str t,.str v]]=>some (.v (.bool (mayB op k t v)))
  |_=>none
theorem g32_ok:∀ l d,gmay l=some d->d.ok=true->PlainCall Tryz.prog [] 76 (toVs l) (toV d.val)/\ofVs (toVs l)=some l:=by
  intro l d h ho
  unfold gmay at h
  split at h
  . rename_i op k t v
    cases h
    exact⟨plain_by _ tab_ok globals4 (by kernel_rfl) (law32 op k t v) ⟨⟨trivial,trivial,trivial,trivial,trivial⟩,trivial⟩ trivial,dec_msg op k t v⟩
  . cases h
noncomputable def laws9:Laws Tryz.prog:=((laws8.add 76 gmay g32_ok))
noncomputable def touchB (op:Int) (k t v x:List UInt8):Bool:=cond (mayB op k t v) (cond (decide (op=3)) (cond (!Op.bytesLess x k) (Op.bytesLess x t) false) (decide (x=k))) false
set_option maxRecDepth 10000 in
set_option maxRecDepth 10000 in
noncomputable def gtouch:List DV->Option PD:=fun l=>match l with
  |[.agg [.int .i64 op,.str k,.str t,.str v],.str x]=>some (.v (.bool (touchB op k t v x)))
  |_=>none
noncomputable def laws10:Laws Tryz.prog:=(laws9)
end
end Go.Vm.YtkjjpmbpjfmbcaaGreatDoor

namespace Go.Vm
theorem plain_nani {P:Program}{B:Base}{f:Nat}{v:V} (h:∀ b,NaN64 b->PlainCall P B f [.int .u64 (.ofNat b)] v):PlainCall P B f [.nani] v:=by
  have h0:=h (0*9223372036854775808+9218868437227405312+1+0) ⟨0,0,by omega,by omega,rfl⟩
  refine⟨⟨trivial,trivial⟩,h0.wfr,h0.base,fun W vs el hW hvs=>?_⟩
  cases hvs with
  |cons hv t =>
    cases t
    cases hv with
    |nani hb=>exact (h _ hb).runs W _ el hW (.cons (.int _ _) .nil)
end Go.Vm
namespace Go.Vm.YtkjjpmbpjfmbcaaGreatDoor
open Go.Proofs
noncomputable section
theorem nan_nan {b:Nat} (h:NaN64 b):nanN b=true:=by
  obtain⟨s,t,hs,ht,rfl⟩:=h
  unfold nanN
  rw[decide_eq_true_eq]
  omega
def qNaN:PD:=.v (.int .u64 9221120237041090561)
theorem quiet_nan {b:Nat} (h:NaN64 b):(quietD b).val=.int .u64 9221120237041090561:=by
  unfold quietD
  rw[PD.val_br,nan_nan h]; rfl
def qN (n:Nat):Nat:=cond (nanN n) 9221120237041090561 n
theorem quiet_q (n:Nat):(quietD n).val=.int .u64 (.ofNat (qN n)):=by
  unfold quietD qN
  rw[PD.val_br]
  cases nanN n<;>rfl
def gquiet (q:Nat->Nat):List DV->Option PD:=fun l=>match l with
  |[.int .u64 (.ofNat n)]=>some (.v (.int .u64 (.ofNat (q n))))
  |[.nani]=>some qNaN
  |_=>none
theorem gq_ok (q:Nat->Nat) (hq:q=qN) (f:Nat) (hf:∀ l d,g121 l=some d->d.ok=true->PlainCall Tryz.prog [] f (toVs l) (toV d.val)/\ofVs (toVs l)=some l) :
    ∀ l d,gquiet q l=some d->d.ok=true->PlainCall Tryz.prog [] f (toVs l) (toV d.val)/\ofVs (toVs l)=some l:=by
  intro l d h ho
  subst hq
  unfold gquiet at h
  split at h
  . rename_i n
    cases h
    have:=(hf [.int .u64 (.ofNat n)] (quietD n) rfl (by unfold quietD; simp only[PD.ok_br,PD.ok_v,Bool.cond_self])).1
    rw[quiet_q] at this
    exact⟨this,rfl⟩
  . cases h
    refine⟨plain_nani fun b hb=>?_,rfl⟩
    have:=(hf [.int .u64 (.ofNat b)] (quietD b) rfl (by unfold quietD; simp only[PD.ok_br,PD.ok_v,Bool.cond_self])).1
    rw[quiet_nan hb] at this
    exact this
  . cases h
def lawsA0 (q:Nat->Nat) (hq:q=qN):Laws Tryz.prog:=(laws10.add 165 (gquiet q) (gq_ok q hq 165 g121_ok))
def ordN (n:Nat):Nat:=if 9223372036854775808<=n then 18446744073709551615-n else n+9223372036854775808
def backN (n:Nat):Nat:=if 9223372036854775808<=n then n-9223372036854775808 else 18446744073709551615-n
def small (n:Nat):Bool:=decide (n<18446744073709551616)
theorem ord_lt {n:Nat} (h:n<18446744073709551616):ordN n<18446744073709551616:=by unfold ordN; split<;>omega
theorem back_ord {n:Nat} (h:n<18446744073709551616):backN (ordN n)=n:=by
  unfold backN ordN
  split<;>split<;>omega
theorem bv_of (n:Nat):BitVec.ofInt 64 (Int.ofNat n)=BitVec.ofNat 64 n:=BitVec.ofInt_natCast ..
theorem bv_sign:BitVec.ofInt 64 9223372036854775808=BitVec.ofNat 64 9223372036854775808:=rfl
theorem bv_ones:BitVec.ofInt 64 18446744073709551615=BitVec.allOnes 64:=rfl
theorem bv_and {n:Nat} (h:n<18446744073709551616):(BitVec.ofInt 64 (Int.ofNat n) &&& BitVec.ofInt 64 9223372036854775808).toNat=if 9223372036854775808<=n then 9223372036854775808 else 0:=by
  rw[bv_of,bv_sign,BitVec.toNat_and,BitVec.toNat_ofNat,BitVec.toNat_ofNat,Nat.mod_eq_of_lt h,Nat.mod_eq_of_lt (by omega)]
  apply Nat.eq_of_testBit_eq
  intro i
  rw[Nat.testBit_and,show (9223372036854775808:Nat)=2 ^ 63 from rfl,Nat.testBit_two_pow]
  have hb:n.testBit 63=decide (2 ^ 63<=n):=by
    rw[Nat.testBit_eq_decide_div_mod_eq,Bool.eq_iff_iff,decide_eq_true_eq,decide_eq_true_eq]
    omega
  by_cases hi:63=i
  . subst hi
    rw[hb]
    by_cases hn:2 ^ 63<=n
    . rw[if_pos hn,decide_eq_true hn,Nat.testBit_two_pow]; rfl
    . rw[if_neg hn,decide_eq_false hn,Nat.zero_testBit]; rfl
  . rw[decide_eq_false hi,Bool.and_false]
    split
    . rw[Nat.testBit_two_pow,decide_eq_false hi]
    . rw[Nat.zero_testBit]
theorem bv_xor {n:Nat} (h:n<18446744073709551616):(BitVec.ofInt 64 18446744073709551615 ^^^ BitVec.ofInt 64 (Int.ofNat n)).toNat=18446744073709551615-n:=by
  rw[bv_of,bv_ones,BitVec.allOnes_xor,BitVec.toNat_not,BitVec.toNat_ofNat,Nat.mod_eq_of_lt h]
theorem bv_or {n:Nat} (h:n<9223372036854775808):(BitVec.ofInt 64 (Int.ofNat n) ||| BitVec.ofInt 64 9223372036854775808).toNat=n+9223372036854775808:=by
  rw[bv_of,bv_sign,BitVec.toNat_or,BitVec.toNat_ofNat,BitVec.toNat_ofNat,Nat.mod_eq_of_lt (by omega),Nat.mod_eq_of_lt (by omega),Nat.or_comm]
  have:=Nat.two_pow_add_eq_or_of_lt (i:=63) (b:=n) (by omega) 1
  simp only[show (2:Nat) ^ 63=9223372036854775808 from rfl,Nat.mul_one] at this
  omega
theorem bv_andnot {n:Nat} (h:n<18446744073709551616):(BitVec.ofInt 64 (Int.ofNat n) &&& ~~~BitVec.ofInt 64 9223372036854775808).toNat=n%9223372036854775808:=by
  rw[bv_of,bv_sign,BitVec.toNat_and,BitVec.toNat_not,BitVec.toNat_ofNat,BitVec.toNat_ofNat,Nat.mod_eq_of_lt h,Nat.mod_eq_of_lt (by omega)]
  have:=Nat.and_two_pow_sub_one_eq_mod n 63
  simp only[show (2:Nat) ^ 63=9223372036854775808 from rfl] at this
  exact this
def ordD (o:Nat->Nat) (n:Nat):PD:=.need (small n) (.v (.int .u64 (.ofNat (o n))))
def g175 (o:Nat->Nat):List DV->Option PD:=fun l=>match l with
  |[.int .u64 (.ofNat n)]=>some (ordD o n)
  |_=>none
set_option maxRecDepth 10000 in
theorem tOrd (n:Nat):treeOf laws10 tab [175] 7 200 175 [.int .u64 (.ofNat n)] =
    cond (!decide (IntKind.wrap .u64 (↑(BitVec.toNat (BitVec.ofInt 64 (Int.ofNat n) &&& BitVec.ofInt 64 9223372036854775808)):Int)=0)) (some (DV.int .u64 (IntKind.wrap .u64 (↑(BitVec.toNat (BitVec.ofInt 64 18446744073709551615 ^^^ BitVec.ofInt 64 (Int.ofNat n))):Int)))) (some (DV.int .u64 (IntKind.wrap .u64 (↑(BitVec.toNat (BitVec.ofInt 64 (Int.ofNat n) ||| BitVec.ofInt 64 9223372036854775808)):Int)))):=by kernel_rfl
set_option maxRecDepth 10000 in
theorem tBack (n:Nat):treeOf laws10 tab [174] 7 200 174 [.int .u64 (.ofNat n)] =
    cond (!decide (IntKind.wrap .u64 (↑(BitVec.toNat (BitVec.ofInt 64 (Int.ofNat n) &&& BitVec.ofInt 64 9223372036854775808)):Int)=0)) (some (DV.int .u64 (IntKind.wrap .u64 (↑(BitVec.toNat (BitVec.ofInt 64 (Int.ofNat n) &&& ~~~BitVec.ofInt 64 9223372036854775808)):Int)))) (some (DV.int .u64 (IntKind.wrap .u64 (↑(BitVec.toNat (BitVec.ofInt 64 18446744073709551615 ^^^ BitVec.ofInt 64 (Int.ofNat n))):Int)))):=by kernel_rfl
theorem law175 (n:Nat) (h:n<18446744073709551616):treeOf laws10 tab [175] 7 200 175 [.int .u64 (.ofNat n)]=some (ordD ordN n).val:=by
  rw[tOrd]
  rw[bv_and h,bv_xor h]
  show _=some (DV.int .u64 (Int.ofNat (ordN n)))
  unfold ordN
  by_cases hn:9223372036854775808<=n
  . rw[if_pos hn,if_pos hn,wrap_u64 (z:=((9223372036854775808:Nat):Int)) (by omega) (by omega),wrap_u64 (by omega) (by omega)]; rfl
  . rw[if_neg hn,if_neg hn,bv_or (by omega),wrap_u64 (z:=((0:Nat):Int)) (by omega) (by omega),wrap_u64 (z:=((n+9223372036854775808:Nat):Int)) (by omega) (by omega)]; rfl
theorem law174 (n:Nat) (h:n<18446744073709551616):treeOf laws10 tab [174] 7 200 174 [.int .u64 (.ofNat n)]=some (ordD backN n).val:=by
  rw[tBack]
  rw[bv_and h,bv_xor h,bv_andnot h]
  show _=some (DV.int .u64 (Int.ofNat (backN n)))
  unfold backN
  by_cases hn:9223372036854775808<=n
  . rw[if_pos hn,if_pos hn,wrap_u64 (z:=((9223372036854775808:Nat):Int)) (by omega) (by omega),wrap_u64 (by omega) (by omega)]
    have:n%9223372036854775808=n-9223372036854775808:=by omega
    rw[this]; rfl
  . rw[if_neg hn,if_neg hn,wrap_u64 (z:=((0:Nat):Int)) (by omega) (by omega),wrap_u64 (z:=((18446744073709551615-n:Nat):Int)) (by omega) (by omega)]; rfl
theorem need_lt {n:Nat}{p:PD} (ho:(PD.need (small n) p).ok=true):n<18446744073709551616:=by
  simp only[PD.ok_need,Bool.and_eq_true] at ho
  exact of_decide_eq_true ho.1
theorem g175_ok (o:Nat->Nat) (ho:o=ordN):∀ l d,g175 o l=some d->d.ok=true->PlainCall Tryz.prog [] 175 (toVs l) (toV d.val)/\ofVs (toVs l)=some l:=by
  intro l d h hk
  subst ho
  unfold g175 at h
  split at h
  . rename_i n
    cases h
    exact⟨plain_by _ tab_ok globals4 (by kernel_rfl) (law175 n (need_lt hk)) ⟨trivial,trivial⟩ trivial,rfl⟩
  . cases h
def gback (b:Nat->Nat):List DV->Option PD:=fun l=>match l with
  |[.int .u64 z]=>some (.need (decide (0<=z)&&small z.toNat) (.v (.int .u64 (.ofNat (b z.toNat)))))
  |_=>none
theorem g174_ok (o:Nat->Nat) (ho:o=backN):∀ l d,gback o l=some d->d.ok=true->PlainCall Tryz.prog [] 174 (toVs l) (toV d.val)/\ofVs (toVs l)=some l:=by
  intro l d h hk
  subst ho
  unfold gback at h
  split at h
  . rename_i z
    cases h
    simp only[PD.ok_need,Bool.and_eq_true,decide_eq_true_eq] at hk
    obtain⟨⟨h0,h1⟩,_⟩:=hk
    obtain⟨n,rfl⟩:∃ n:Nat,z=.ofNat n:=⟨z.toNat,by show z=((z.toNat:Nat):Int); omega⟩
    exact⟨plain_by _ tab_ok globals4 (by kernel_rfl) (law174 n (of_decide_eq_true h1)) ⟨trivial,trivial⟩ trivial,rfl⟩
  . cases h
def lawsA1 (q o b:Nat->Nat) (hq:q=qN) (ho:o=ordN) (hb:b=backN):Laws Tryz.prog:=(((lawsA0 q hq).add 175 (g175 o) (g175_ok o ho)).add 174 (gback b) (g174_ok b hb))
end
end Go.Vm.YtkjjpmbpjfmbcaaGreatDoor

namespace Go.Vm.YtkjjpmbpjfmbcaaGreatDoor
open Go.Proofs
noncomputable section
set_option maxRecDepth 10000 in
theorem tNum (q o b:Nat->Nat) (hq:q=qN) (ho:o=ordN) (hb:b=backN) (x:Nat) (op:Int) (y:Nat):treeOf (lawsA1 q o b hq ho hb) tab [149,169,172,173] 7 200 149 [.int .u64 (.ofNat x),.agg [.int .u8 op,.int .u64 (.ofNat y)]] =
    cond (decide (op=1)) (some (DV.tup [DV.int .u64 (Int.ofNat (q y)),DV.int .i64 0])) (cond (decide (op=2)) (cond (Option.isSome (farD BinOp.add (Int.toNat (Int.ofNat x)) (Int.toNat (Int.ofNat y)))) (some (DV.tup [DV.int .u64 (Int.ofNat (q (Option.getD (farD BinOp.add (Int.toNat (Int.ofNat x)) (Int.toNat (Int.ofNat y))) 0))),DV.int .i64 0])) (some (DV.tup [DV.int .u64 9221120237041090561,DV.int .i64 0]))) (cond (decide (op=5)) (cond (Option.isSome (farD BinOp.mul (Int.toNat (Int.ofNat x)) (Int.toNat (Int.ofNat y)))) (some (DV.tup [DV.int .u64 (Int.ofNat (q (Option.getD (farD BinOp.mul (Int.toNat (Int.ofNat x)) (Int.toNat (Int.ofNat y))) 0))),DV.int .i64 0])) (some (DV.tup [DV.int .u64 9221120237041090561,DV.int .i64 0]))) (cond (decide (op=3)) (cond (small (q x)) (cond (small (q y)) (cond (decide (0<=if true=true then if Int.ofNat (o (q y)) > Int.ofNat (o (q x)) then Int.ofNat (o (q y)) else Int.ofNat (o (q x)) else if Int.ofNat (o (q y))<Int.ofNat (o (q x)) then Int.ofNat (o (q y)) else Int.ofNat (o (q x)))&&small (Int.toNat (if true=true then if Int.ofNat (o (q y)) > Int.ofNat (o (q x)) then Int.ofNat (o (q y)) else Int.ofNat (o (q x)) else if Int.ofNat (o (q y))<Int.ofNat (o (q x)) then Int.ofNat (o (q y)) else Int.ofNat (o (q x))))) (some (DV.tup [DV.int .u64 (Int.ofNat (b (Int.toNat (if true=true then if Int.ofNat (o (q y)) > Int.ofNat (o (q x)) then Int.ofNat (o (q y)) else Int.ofNat (o (q x)) else if Int.ofNat (o (q y))<Int.ofNat (o (q x)) then Int.ofNat (o (q y)) else Int.ofNat (o (q x)))))),DV.int .i64 0])) none) none) none) (cond (decide (op=4)) (cond (small (q x)) (cond (small (q y)) (cond (decide (0<=if false=true then if Int.ofNat (o (q y)) > Int.ofNat (o (q x)) then Int.ofNat (o (q y)) else Int.ofNat (o (q x)) else if Int.ofNat (o (q y))<Int.ofNat (o (q x)) then Int.ofNat (o (q y)) else Int.ofNat (o (q x)))&&small (Int.toNat (if false=true then if Int.ofNat (o (q y)) > Int.ofNat (o (q x)) then Int.ofNat (o (q y)) else Int.ofNat (o (q x)) else if Int.ofNat (o (q y))<Int.ofNat (o (q x)) then Int.ofNat (o (q y)) else Int.ofNat (o (q x))))) (some (DV.tup [DV.int .u64 (Int.ofNat (b (Int.toNat (if false=true then if Int.ofNat (o (q y)) > Int.ofNat (o (q x)) then Int.ofNat (o (q y)) else Int.ofNat (o (q x)) else if Int.ofNat (o (q y))<Int.ofNat (o (q x)) then Int.ofNat (o (q y)) else Int.ofNat (o (q x)))))),DV.int .i64 0])) none) none) none) (some (DV.tup [DV.int .u64 0,DV.int .i64 2])))))):=by kernel_rfl
theorem q_lt {n:Nat} (h:n<18446744073709551616):qN n<18446744073709551616:=by unfold qN; cases nanN n<;>simp<;>omega
def farN (op:BinOp) (x y:Nat):Nat:=cond (farD op x y).isSome (qN ((farD op x y).getD 0)) 9221120237041090561
def stepN (x:Nat) (op:Int) (y:Nat):Nat:=cond (decide (op=1)) (qN y) (cond (decide (op=2)) (farN .add x y) (cond (decide (op=5)) (farN .mul x y)
  (cond (decide (op=3)) (cond (decide (ordN (qN x)<ordN (qN y))) (qN y) (qN x)) (cond (decide (op=4)) (cond (decide (ordN (qN y)<ordN (qN x))) (qN y) (qN x)) 0))))
def stepE (op:Int):Int:=cond (decide (1<=op/\op<=5)) 0 2
def numD (st:Nat->Int->Nat->Nat) (x:Nat) (op:Int) (y:Nat):PD:=.need (small x&&small y) (.v (.tup [.int .u64 (.ofNat (st x op y)),.int .i64 (stepE op)]))
theorem write_lt (d:Ieee.Datum):FloatKind.f64.format.write d<18446744073709551616:=by
  have e1:FloatKind.f64.format.signWeight=9223372036854775808:=rfl
  have e2:FloatKind.f64.format.infRung=9218868437227405312:=rfl
  have e3:FloatKind.f64.format.binade=4503599627370496:=rfl
  have w:∀ (neg:Bool) (r:Nat),r<9223372036854775808->FloatKind.f64.format.word neg r<18446744073709551616:=by
    intro neg r h
    unfold Ieee.Format.word
    rw[e1]
    split<;>omega
  cases d with
  |number s m p =>
    show FloatKind.f64.format.nearest s m p<_
    unfold Ieee.Format.nearest
    split
    . exact w _ _ (by omega)
    . refine w _ _ ?_
      rw[e2]
      exact Nat.lt_of_le_of_lt (Nat.min_le_right _ _) (by omega)
  |infinity s =>
    refine w _ _ ?_
    rw[e2]; omega
  |nan s f =>
    refine w _ _ ?_
    rw[e2,e3]
    omega
theorem far_lt (op:BinOp) (x y:Nat):farN op x y<18446744073709551616:=by
  unfold farN
  cases h:farD op x y with
  |none=>decide
  |some z =>
    refine q_lt ?_
    show z<_
    have key:∀ o:Option Ieee.Datum,o.map FloatKind.f64.format.write=some z->z<18446744073709551616:=by
      intro o ho
      cases o with
      |none=>cases ho
      |some d=>cases ho; exact write_lt d
    unfold farD at h
    split at h
    . exact key _ h
    . exact key _ h
    . exact key _ h
    . cases h
theorem step_lt {x:Nat}{op:Int}{y:Nat} (hx:x<18446744073709551616) (hy:y<18446744073709551616):stepN x op y<18446744073709551616:=by
  have h1:=q_lt hx
  have h2:=q_lt hy
  have h3:=far_lt .add x y
  have h4:=far_lt .mul x y
  unfold stepN
  cases decide (op=1)<;>cases decide (op=2)<;>cases decide (op=5)<;>cases decide (op=3)<;>cases decide (op=4)<;>cases decide (ordN (qN x)<ordN (qN y))<;>cases decide (ordN (qN y)<ordN (qN x))<;>simp only[cond_true,cond_false]<;>first | assumption | decide
theorem stepE_of {op:Int}:stepE op=cond (decide (op=1)) 0 (cond (decide (op=2)) 0 (cond (decide (op=5)) 0 (cond (decide (op=3)) 0 (cond (decide (op=4)) 0 2)))):=by
  unfold stepE
  by_cases h1:op=1
  . subst h1; rfl
  by_cases h2:op=2
  . subst h2; rfl
  by_cases h3:op=3
  . subst h3; rfl
  by_cases h4:op=4
  . subst h4; rfl
  by_cases h5:op=5
  . subst h5; rfl
  rw[decide_eq_false h1,decide_eq_false h2,decide_eq_false h3,decide_eq_false h4,decide_eq_false h5,decide_eq_false (by omega)]; rfl
theorem max_of (a b:Nat):(if true=true then if Int.ofNat b > Int.ofNat a then Int.ofNat b else Int.ofNat a else if Int.ofNat b<Int.ofNat a then Int.ofNat b else Int.ofNat a)=Int.ofNat (cond (decide (a<b)) b a):=by
  rw[if_pos rfl]
  by_cases h:a<b
  . rw[decide_eq_true h,if_pos (show Int.ofNat _<Int.ofNat _ from Int.ofNat_lt.2 h)]; rfl
  . rw[decide_eq_false h,if_neg (fun e:Int.ofNat _<Int.ofNat _=>h (Int.ofNat_lt.1 e))]; rfl
theorem min_of (a b:Nat):(if false=true then if Int.ofNat b > Int.ofNat a then Int.ofNat b else Int.ofNat a else if Int.ofNat b<Int.ofNat a then Int.ofNat b else Int.ofNat a)=Int.ofNat (cond (decide (b<a)) b a):=by
  rw[if_neg (by decide)]
  by_cases h:b<a
  . rw[decide_eq_true h,if_pos (show Int.ofNat _<Int.ofNat _ from Int.ofNat_lt.2 h)]; rfl
  . rw[decide_eq_false h,if_neg (fun e:Int.ofNat _<Int.ofNat _=>h (Int.ofNat_lt.1 e))]; rfl
theorem sm {n:Nat} (h:n<18446744073709551616):small n=true:=decide_eq_true h
theorem lt_of (a b:Nat):decide (Int.ofNat a<Int.ofNat b)=decide (a<b):=by
  by_cases h:a<b
  . rw[decide_eq_true h,decide_eq_true (show Int.ofNat _<Int.ofNat _ from Int.ofNat_lt.2 h)]
  . rw[decide_eq_false h,decide_eq_false (fun e:Int.ofNat _<Int.ofNat _=>h (Int.ofNat_lt.1 e))]
theorem back_pick {c:Bool}{x y:Nat} (hx:x<18446744073709551616) (hy:y<18446744073709551616):backN (cond c (ordN y) (ordN x))=cond c y x:=by
  cases c
  . exact back_ord hx
  . exact back_ord hy
theorem ok_pick {c:Bool}{x y:Nat} (hx:x<18446744073709551616) (hy:y<18446744073709551616):(decide (0<=Int.ofNat (cond c (ordN y) (ordN x)))&&small (Int.toNat (Int.ofNat (cond c (ordN y) (ordN x)))))=true:=by
  have h1:=ord_lt hx
  have h2:=ord_lt hy
  rw[show Int.toNat (Int.ofNat (cond c (ordN y) (ordN x)))=cond c (ordN y) (ordN x) from rfl,Bool.and_eq_true]
  refine⟨decide_eq_true (Int.natCast_nonneg _),sm ?_⟩
  cases c
  . exact h1
  . exact h2
theorem law149 (x:Nat) (op:Int) (y:Nat) (hx:x<18446744073709551616) (hy:y<18446744073709551616):treeOf (lawsA1 qN ordN backN rfl rfl rfl) tab [149,169,172,173] 7 200 149 [.int .u64 (.ofNat x),.agg [.int .u8 op,.int .u64 (.ofNat y)]]=some (numD stepN x op y).val:=by
  rw[tNum,max_of,min_of,ok_pick (q_lt hx) (q_lt hy),ok_pick (q_lt hx) (q_lt hy),sm (q_lt hx),sm (q_lt hy)]
  simp only[Int.ofNat_eq_natCast,Int.toNat_natCast]
  rw[back_pick (q_lt hx) (q_lt hy),back_pick (q_lt hx) (q_lt hy)]
  unfold numD
  rw[PD.val_need,PD.val_v,stepE_of]
  unfold stepN farN
  generalize decide (op=1)=a
  generalize decide (op=2)=b
  generalize decide (op=5)=c
  generalize decide (op=3)=d
  generalize decide (op=4)=e
  cases a<;>cases b<;>cases c<;>cases d<;>cases e<;>simp only[cond_true,cond_false]<;>first | rfl | (cases (farD .add x y).isSome<;>rfl) | (cases (farD .mul x y).isSome<;>rfl)
def g149 (st:Nat->Int->Nat->Nat):List DV->Option PD:=fun l=>match l with
  |[.int .u64 (.ofNat x),.agg [.int .u8 op,.int .u64 (.ofNat y)]]=>some (numD st x op y)
  |_=>none
theorem num_lt {st:Nat->Int->Nat->Nat}{x:Nat}{op:Int}{y:Nat} (h:(numD st x op y).ok=true):x<18446744073709551616/\y<18446744073709551616:=by
  unfold numD at h
  simp only[PD.ok_need,Bool.and_eq_true] at h
  exact⟨of_decide_eq_true h.1.1,of_decide_eq_true h.1.2⟩
theorem g149_ok (st:Nat->Int->Nat->Nat) (hs:st=stepN):∀ l d,g149 st l=some d->d.ok=true->PlainCall Tryz.prog [] 149 (toVs l) (toV d.val)/\ofVs (toVs l)=some l:=by
  intro l d h hk
  subst hs
  unfold g149 at h
  split at h
  . cases h
    obtain⟨hx,hy⟩:=num_lt hk
    exact⟨plain_by _ tab_ok globals4 (by kernel_rfl) (law149 _ _ _ hx hy) ⟨trivial,⟨trivial,trivial,trivial⟩,trivial⟩ ⟨trivial,trivial,trivial⟩,rfl⟩
  . cases h
def lawsA2 (st:Nat->Int->Nat->Nat) (hs:st=stepN):Laws Tryz.prog:=((lawsA1 qN ordN backN rfl rfl rfl).add 149 (g149 st) (g149_ok st hs))
set_option maxRecDepth 10000 in
theorem tMc (st:Nat->Int->Nat->Nat) (hs:st=stepN) (k:Int) (z m:Nat) (t:Int):treeOf (lawsA2 st hs) tab [143] 7 200 143 [.agg [.int .u8 k,.int .u32 (.ofNat z),.int .u64 (.ofNat m),.int .u64 t]] =
    cond (!decide (k=1)) (cond (!decide (k=2)) (some (DV.int .i64 4)) (cond (decide (2048<Int.ofNat z)) (some (DV.int .i64 4)) (cond (decide (k=2)) (cond (decide (0<Int.ofNat z)) (some (DV.int .i64 4)) (cond (!decide (Int.ofNat (qN m)=Int.ofNat m)) (some (DV.int .i64 4)) (some (DV.int .i64 0)))) (cond (!decide (Int.ofNat (qN m)=Int.ofNat m)) (some (DV.int .i64 4)) (some (DV.int .i64 0)))))) (cond (decide (2048<Int.ofNat z)) (some (DV.int .i64 4)) (cond (decide (k=2)) (cond (decide (0<Int.ofNat z)) (some (DV.int .i64 4)) (cond (!decide (Int.ofNat (qN m)=Int.ofNat m)) (some (DV.int .i64 4)) (some (DV.int .i64 0)))) (cond (!decide (Int.ofNat (qN m)=Int.ofNat m)) (some (DV.int .i64 4)) (some (DV.int .i64 0))))):=by kernel_rfl
set_option maxRecDepth 10000 in
theorem tCm (st:Nat->Int->Nat->Nat) (hs:st=stepN) (w n op:Int) (y:Nat):treeOf (lawsA2 st hs) tab [144] 7 200 144 [.agg [.int .u8 w,.int .u64 n,.int .u8 op,.int .u64 (.ofNat y)]] =
    cond (decide (w=1)) (cond (decide (2048<n)) (some (DV.bool false)) (some (DV.bool ((decide (op=0)&&(decide (Int.ofNat y=0)&&true)) != false)))) (cond (decide (w=2)) (cond (decide (2048<n)) (some (DV.bool false)) (some (DV.bool ((decide (op=0)&&(decide (Int.ofNat y=0)&&true)) != false)))) (cond (decide (w=4)) (some (DV.bool ((decide (op=0)&&(decide (Int.ofNat y=0)&&true)) != false))) (cond (decide (w=3)) (cond (decide (n=0)) (cond (decide (1<=op)) (some (DV.bool (decide (op<=5)))) (some (DV.bool false))) (some (DV.bool false))) (some (DV.bool false))))):=by kernel_rfl
def mM (k:Int) (z m:Nat):Bool:=cond (decide (k=2)) (decide (z=0)) (cond (decide (k=1)) (decide (z<=2048)) false)&&decide (qN m=m)
def cM (w n op:Int) (y:Nat):Bool:=cond (decide (w=1)||decide (w=2)) (decide (n<=2048)&&(decide (op=0)&&decide (y=0))) (cond (decide (w=3)) (decide (n=0)&&(decide (1<=op)&&decide (op<=5)))
  (cond (decide (w=4)) (decide (op=0)&&decide (y=0)) false))
theorem nat_eq (a b:Nat):decide (Int.ofNat a=Int.ofNat b)=decide (a=b):=by
  by_cases h:a=b
  . subst h; simp
  . rw[decide_eq_false h,decide_eq_false (fun e=>h (Int.ofNat.inj e))]
theorem nat_zero (a:Nat):decide (Int.ofNat a=0)=decide (a=0):=nat_eq a 0
theorem nat_big (a:Nat):decide (2048<Int.ofNat a)=!decide (a<=2048):=by
  rw[show decide (2048<Int.ofNat a)=decide (2048<a) from lt_of 2048 a]
  by_cases h:a<=2048
  . rw[decide_eq_true h,decide_eq_false (by omega)]; rfl
  . rw[decide_eq_false h,decide_eq_true (by omega)]; rfl
theorem nat_pos (a:Nat):decide (0<Int.ofNat a)=!decide (a=0):=by
  rw[show decide (0<Int.ofNat a)=decide (0<a) from lt_of 0 a]
  by_cases h:a=0
  . rw[decide_eq_true h,decide_eq_false (by omega)]; rfl
  . rw[decide_eq_false h,decide_eq_true (by omega)]; rfl
theorem int_le (a:Int):decide (2048<a)=!decide (a<=2048):=by
  by_cases h:a<=2048
  . rw[decide_eq_true h,decide_eq_false (by omega)]; rfl
  . rw[decide_eq_false h,decide_eq_true (by omega)]; rfl
theorem bne_false' (b:Bool):(b != false)=b:=by cases b<;>rfl
def mcD (b:Bool):PD:=.br b (.v (.int .i64 0)) (.v (.int .i64 4))
theorem law143 (k : Int) (z m : Nat) (t : Int) : treeOf (lawsA2 stepN rfl) tab [143] 7 200 143 [.agg [.int .u8 k, .int .u32 (.ofNat z), .int .u64 (.ofNat m), .int .u64 t]] = some (mcD (mM k z m)).val := by
  rw[tMc,nat_eq,nat_big,nat_pos]
  unfold mcD mM
  rw[PD.val_br]
  by_cases h1:k=1
  . subst h1
    cases decide (z<=2048)<;>cases decide (z=0)<;>cases decide (qN m=m)<;>rfl
  . by_cases h2:k=2
    . subst h2
      by_cases h0:z=0
      . subst h0
        cases decide (qN m=m)<;>rfl
      . rw[decide_eq_false h0]
        cases decide (z<=2048)<;>cases decide (qN m=m)<;>rfl
    . rw[decide_eq_false h1,decide_eq_false h2]; rfl
theorem law144 (w n op:Int) (y:Nat):treeOf (lawsA2 stepN rfl) tab [144] 7 200 144 [.agg [.int .u8 w,.int .u64 n,.int .u8 op,.int .u64 (.ofNat y)]]=some (.bool (cM w n op y)):=by
  rw[tCm,nat_zero,int_le,bne_false',Bool.and_true]
  unfold cM
  by_cases h1:w=1
  . subst h1; cases decide (n<=2048)<;>cases decide (op=0)<;>cases decide (y=0)<;>rfl
  by_cases h2:w=2
  . subst h2; cases decide (n<=2048)<;>cases decide (op=0)<;>cases decide (y=0)<;>rfl
  by_cases h3:w=3
  . subst h3; cases decide (n=0)<;>cases decide (1<=op)<;>cases decide (op<=5)<;>rfl
  by_cases h4:w=4
  . subst h4; cases decide (op=0)<;>cases decide (y=0)<;>rfl
  rw[decide_eq_false h1,decide_eq_false h2,decide_eq_false h3,decide_eq_false h4]; rfl
abbrev MM:=Int->Nat->Nat->Bool
abbrev CM:=Int->Int->Int->Nat->Bool
abbrev ST:=Nat->Int->Nat->Nat
def g143 (mm:MM):List DV->Option PD:=fun l=>match l with
  |[.agg [.int .u8 k,.int .u32 (.ofNat z),.int .u64 (.ofNat m),.int .u64 t]]=>some (mcD (mm k z m))
  |_=>none
def g144 (cm:CM):List DV->Option PD:=fun l=>match l with
  |[.agg [.int .u8 w,.int .u64 n,.int .u8 op,.int .u64 (.ofNat y)]]=>some (.v (.bool (cm w n op y)))
  |_=>none
theorem wf_mc (b:Bool):wf 0 (toV (mcD b).val):=by cases b<;>trivial
theorem g143_ok (mm:MM) (hm:mm=mM):∀ l d,g143 mm l=some d->d.ok=true->PlainCall Tryz.prog [] 143 (toVs l) (toV d.val)/\ofVs (toVs l)=some l:=by
  intro l d h hk
  subst hm
  unfold g143 at h
  split at h
  . cases h
    exact⟨plain_by _ tab_ok globals4 (by kernel_rfl) (law143 _ _ _ _) ⟨⟨trivial,trivial,trivial,trivial,trivial⟩,trivial⟩ (wf_mc _),rfl⟩
  . cases h
theorem g144_ok (cm:CM) (hc:cm=cM):∀ l d,g144 cm l=some d->d.ok=true->PlainCall Tryz.prog [] 144 (toVs l) (toV d.val)/\ofVs (toVs l)=some l:=by
  intro l d h hk
  subst hc
  unfold g144 at h
  split at h
  . cases h
    exact⟨plain_by _ tab_ok globals4 (by kernel_rfl) (law144 _ _ _ _) ⟨⟨trivial,trivial,trivial,trivial,trivial⟩,trivial⟩ trivial,rfl⟩
  . cases h
def lawsA3 (st:ST) (mm:MM) (cm:CM) (hs:st=stepN) (hm:mm=mM) (hc:cm=cM):Laws Tryz.prog:=((((lawsA2 st hs).add 143 (g143 mm) (g143_ok mm hm))).add 144 (g144 cm) (g144_ok cm hc))
set_option maxRecDepth 10000 in
theorem tMet (st:ST) (mm:MM) (cm:CM) (hs:st=stepN) (hm:mm=mM) (hc:cm=cM) (k:Int) (z m t:Nat) (w:Int) (n:Nat) (op:Int) (y:Nat):treeOf (lawsA3 st mm cm hs hm hc) tab [107] 7 200 107 [.agg [.int .u8 k,.int .u32 (.ofNat z),.int .u64 (.ofNat m),.int .u64 (.ofNat t)],.agg [.int .u8 w,.int .u64 (.ofNat n),.int .u8 op,.int .u64 (.ofNat y)]] =
    cond (mm k z m) (cond (!cm w (Int.ofNat n) op y) (some (DV.agg [DV.int .u8 k,DV.int .u32 (Int.ofNat z),DV.int .u64 (Int.ofNat m),DV.int .u64 (Int.ofNat t)])) (cond (decide (w=1)) (cond (decide (k=1)) (some (DV.agg [DV.int .u8 k,DV.int .u32 (if true=true then if IntKind.wrap .u32 (Int.ofNat n) > Int.ofNat z then IntKind.wrap .u32 (Int.ofNat n) else Int.ofNat z else if IntKind.wrap .u32 (Int.ofNat n)<Int.ofNat z then IntKind.wrap .u32 (Int.ofNat n) else Int.ofNat z),DV.int .u64 (Int.ofNat m),DV.int .u64 (Int.ofNat t)])) (cond (decide (w=2)) (cond (decide (k=1)) (some (DV.agg [DV.int .u8 k,DV.int .u32 (IntKind.wrap .u32 (Int.ofNat n)),DV.int .u64 (Int.ofNat m),DV.int .u64 (Int.ofNat t)])) (cond (decide (w=3)) (cond (small m&&small y) (some (DV.agg [DV.int .u8 k,DV.int .u32 (Int.ofNat z),DV.int .u64 (Int.ofNat (st m op y)),DV.int .u64 (Int.ofNat t)])) none) (cond (decide (w=4)) (some (DV.agg [DV.int .u8 k,DV.int .u32 (Int.ofNat z),DV.int .u64 (Int.ofNat m),DV.int .u64 (Int.ofNat n)])) (some (DV.agg [DV.int .u8 k,DV.int .u32 (Int.ofNat z),DV.int .u64 (Int.ofNat m),DV.int .u64 (Int.ofNat t)]))))) (cond (decide (w=3)) (cond (small m&&small y) (some (DV.agg [DV.int .u8 k,DV.int .u32 (Int.ofNat z),DV.int .u64 (Int.ofNat (st m op y)),DV.int .u64 (Int.ofNat t)])) none) (cond (decide (w=4)) (some (DV.agg [DV.int .u8 k,DV.int .u32 (Int.ofNat z),DV.int .u64 (Int.ofNat m),DV.int .u64 (Int.ofNat n)])) (some (DV.agg [DV.int .u8 k,DV.int .u32 (Int.ofNat z),DV.int .u64 (Int.ofNat m),DV.int .u64 (Int.ofNat t)])))))) (cond (decide (w=2)) (cond (decide (k=1)) (some (DV.agg [DV.int .u8 k,DV.int .u32 (IntKind.wrap .u32 (Int.ofNat n)),DV.int .u64 (Int.ofNat m),DV.int .u64 (Int.ofNat t)])) (cond (decide (w=3)) (cond (small m&&small y) (some (DV.agg [DV.int .u8 k,DV.int .u32 (Int.ofNat z),DV.int .u64 (Int.ofNat (st m op y)),DV.int .u64 (Int.ofNat t)])) none) (cond (decide (w=4)) (some (DV.agg [DV.int .u8 k,DV.int .u32 (Int.ofNat z),DV.int .u64 (Int.ofNat m),DV.int .u64 (Int.ofNat n)])) (some (DV.agg [DV.int .u8 k,DV.int .u32 (Int.ofNat z),DV.int .u64 (Int.ofNat m),DV.int .u64 (Int.ofNat t)]))))) (cond (decide (w=3)) (cond (small m&&small y) (some (DV.agg [DV.int .u8 k,DV.int .u32 (Int.ofNat z),DV.int .u64 (Int.ofNat (st m op y)),DV.int .u64 (Int.ofNat t)])) none) (cond (decide (w=4)) (some (DV.agg [DV.int .u8 k,DV.int .u32 (Int.ofNat z),DV.int .u64 (Int.ofNat m),DV.int .u64 (Int.ofNat n)])) (some (DV.agg [DV.int .u8 k,DV.int .u32 (Int.ofNat z),DV.int .u64 (Int.ofNat m),DV.int .u64 (Int.ofNat t)]))))))) (some (DV.agg [DV.int .u8 k,DV.int .u32 (Int.ofNat z),DV.int .u64 (Int.ofNat m),DV.int .u64 (Int.ofNat t)])):=by kernel_rfl
abbrev AF:=Int->Nat->Nat->Nat->Int->Nat->Int->Nat->Nat
def zA:AF:=fun k z m t w n op y=>cond (mM k z m&&cM w (Int.ofNat n) op y) (cond (decide (w=1)) (cond (decide (k=1)) (cond (decide (z<n)) n z) z) (cond (decide (w=2)) (cond (decide (k=1)) n z) z)) z
def mA:AF:=fun k z m t w n op y=>cond (mM k z m&&cM w (Int.ofNat n) op y) (cond (decide (w=3)) (stepN m op y) m) m
def tA:AF:=fun k z m t w n op y=>cond (mM k z m&&cM w (Int.ofNat n) op y) (cond (decide (w=4)) n t) t
def applyD (zf mf tf:AF) (k:Int) (z m t:Nat) (w:Int) (n:Nat) (op:Int) (y:Nat):PD:=.need (small m&&small y) (.v (.agg [.int .u8 k,.int .u32 (.ofNat (zf k z m t w n op y)),.int .u64 (.ofNat (mf k z m t w n op y)),.int .u64 (.ofNat (tf k z m t w n op y))]))
theorem wrap_u32 {z:Int} (h0:0<=z) (h1:z<4294967296):IntKind.wrap .u32 z=z:=by
  show z%4294967296=z
  omega
theorem max_n (n z:Nat):(if true=true then if Int.ofNat n > Int.ofNat z then Int.ofNat n else Int.ofNat z else if Int.ofNat n<Int.ofNat z then Int.ofNat n else Int.ofNat z)=Int.ofNat (cond (decide (z<n)) n z):=max_of z n
theorem lawA107 (k : Int) (z m t : Nat) (w : Int) (n : Nat) (op : Int) (y : Nat) (hx : m < 18446744073709551616) (hy : y < 18446744073709551616) : treeOf (lawsA3 stepN mM cM rfl rfl rfl) tab [107] 7 200 107 [.agg [.int .u8 k, .int .u32 (.ofNat z), .int .u64 (.ofNat m), .int .u64 (.ofNat t)], .agg [.int .u8 w, .int .u64 (.ofNat n), .int .u8 op, .int .u64 (.ofNat y)]] = some (applyD zA mA tA k z m t w n op y).val := by
  rw[tMet,sm hx,sm hy]
  unfold applyD
  rw[PD.val_need,PD.val_v]
  unfold zA mA tA
  cases h1:mM k z m with
  |false=>rfl
  |true =>
    cases h2:cM w (Int.ofNat n) op y with
    |false=>rfl
    |true =>
      have e:(decide (w=1)||decide (w=2))=true->IntKind.wrap .u32 (Int.ofNat n)=Int.ofNat n:=fun hw=>by
        unfold cM at h2
        rw[hw] at h2
        simp only[cond_true,Bool.and_eq_true,decide_eq_true_eq] at h2
        have h3:(n:Int)<=2048:=h2.1
        exact wrap_u32 (z:=(n:Int)) (by omega) (by omega)
      by_cases w1:w=1
      . subst w1
        rw[e rfl,max_n]
        cases decide (k=1)<;>cases decide (z<n)<;>rfl
      . by_cases w2:w=2
        . subst w2
          rw[e rfl]
          cases decide (k=1)<;>rfl
        . rw[decide_eq_false w1,decide_eq_false w2]
          by_cases w3:w=3
          . subst w3; rfl
          . rw[decide_eq_false w3]
            cases decide (w=4)<;>rfl
def gA107 (zf mf tf:AF):List DV->Option PD:=fun l=>match l with
  |[.agg [.int .u8 k,.int .u32 (.ofNat z),.int .u64 (.ofNat m),.int .u64 (.ofNat t)],.agg [.int .u8 w,.int .u64 (.ofNat n),.int .u8 op,.int .u64 (.ofNat y)]]=>some (applyD zf mf tf k z m t w n op y)
  |_=>none
theorem app_lt {zf mf tf:AF}{k:Int}{z m t:Nat}{w:Int}{n:Nat}{op:Int}{y:Nat} (h:(applyD zf mf tf k z m t w n op y).ok=true):m<18446744073709551616/\y<18446744073709551616:=by
  unfold applyD at h
  simp only[PD.ok_need,Bool.and_eq_true] at h
  exact⟨of_decide_eq_true h.1.1,of_decide_eq_true h.1.2⟩
theorem gA107_ok (zf mf tf:AF) (h1:zf=zA) (h2:mf=mA) (h3:tf=tA):∀ l d,gA107 zf mf tf l=some d->d.ok=true->PlainCall Tryz.prog [] 107 (toVs l) (toV d.val)/\ofVs (toVs l)=some l:=by
  intro l d h hk
  subst h1 h2 h3
  unfold gA107 at h
  split at h
  . cases h
    obtain⟨hx,hy⟩:=app_lt hk
    exact⟨plain_by _ tab_ok globals4 (by kernel_rfl) (lawA107 _ _ _ _ _ _ _ _ hx hy) ⟨⟨trivial,trivial,trivial,trivial,trivial⟩,⟨trivial,trivial,trivial,trivial,trivial⟩,trivial⟩ ⟨trivial,trivial,trivial,trivial,trivial⟩,rfl⟩
  . cases h
def lawsA4 (zf mf tf:AF) (h1:zf=zA) (h2:mf=mA) (h3:tf=tA) (mm:MM) (hm:mm=mM):Laws Tryz.prog:=((lawsA3 stepN mm cM rfl hm rfl).add 107 (gA107 zf mf tf) (gA107_ok zf mf tf h1 h2 h3))
end
end Go.Vm.YtkjjpmbpjfmbcaaGreatDoor
