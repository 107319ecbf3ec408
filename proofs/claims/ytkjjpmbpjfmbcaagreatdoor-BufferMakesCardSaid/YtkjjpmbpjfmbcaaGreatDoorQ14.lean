/-
  Entries behind what lies in a range (buffer.Apply), piece by piece; its loop.
  Entries behind what lies in a range (buffer.Apply): its loop, and its law in four forms.
  What all messages make of a key (buffer.Value), piece by piece; its loop.
  BufferMakes, piece by piece, in four forms of its arguments.
-/
import Derived.Test.YtkjjpmbpjfmbcaaGreatDoorQ13
set_option linter.unusedVariables false
set_option linter.unusedSimpArgs false
namespace Go.Vm.YtkjjpmbpjfmbcaaGreatDoor.B
open Go.Proofs Go.Vm.R
noncomputable section
set_option maxRecDepth 10000
structure FG where
  al:AL
  ha:al=alL
  nd:List Ent->Nat->Nat->Nat->Txt->Bool
  hn:nd=ndL
def gH17:List R.DV->List R.DO->Option RD:=fun l ao=>match l,ao with
  |[.rs 0 j n c 4 ex,.str x,.str y],[.r .msg full sp el]=>some (XmO full j n x y)
  |[.nils,.str x,.str y],[]=>some (.v (.tup [.nils,.nils]) [])
  |_,_=>none
theorem XpF (l:List R.DV)(ao:List R.DO)(out:RD)(h:gH17 l ao=some out):Xw C.G C.O C.tab 17 211 ao l out:=by
  unfold gH17 at h;split at h
  . cases h; exact Xvl _ _ _ _ _ _ _ _ _
  . cases h; exact Xsz _ _
  . cases h
def Y24 (A:FG):C.RL:=((Y0.add 69 201 g69 Xn2).add 17 211 gH17 XpF).add 35 211 (gF35 Xv A.al A.nd) (XpH Xv rfl A.al A.ha A.nd A.hn)
def Xb5:CC:=match X8 none c24.body with | [(_,b)]=>b | _=>.skip
abbrev P24T:=Nat->List Ent->Nat->List Msg->Int->Bool
abbrev S24T:=List Ent->List Msg->Int->List Ent
def Z6 (P:P24T)(S:S24T):LoopD:=⟨[(1,none),(22,some (.msg,31)),(23,none),(24,none)],[(1,none)],[],fun vs ao=>match vs,ao with
  |[.rs 2 0 L L' 2 ax,.ns 3 u 4,.int .i64 n',.int .i64 z],[.r .msg full sp el,.r .ent full1 sp1 el1,.r .ent q sa ⟨41,0⟩,.rn .msg p 31] =>
    some (u-z.toNat,.need (Nat.beq L L'&&(decide (n'=(u:Int))&&P L q u p z)) (.br (decide (z<(u:Int))) (.exit 0 [.rs 2 0 (S q p z).length (S q p z).length 2 true] [.r .msg full sp el,.r .ent full1 sp1 el1,rowO (S q p z)]) (.exit 0 [.rs 2 0 L L 2 ax] [.r .msg full sp el,.r .ent full1 sp1 el1,.r .ent q sa ⟨41,0⟩])))
  |_,_=>none⟩
def Zv (P:P24T)(S:S24T):LoopD:=⟨[(1,none),(22,some (.msg,31)),(23,none),(24,none)],[(1,none)],[],fun vs ao=>match vs,ao with
  |[.rs 1 0 L L' 2 ax,.ns 2 u 4,.int .i64 n',.int .i64 z],[.r .msg full sp el,.r .ent q sa ⟨41,0⟩,.rn .msg p 31] =>
    some (u-z.toNat,.need (Nat.beq L L'&&(decide (n'=(u:Int))&&P L q u p z)) (.br (decide (z<(u:Int))) (.exit 0 [.rs 1 0 (S q p z).length (S q p z).length 2 true] [.r .msg full sp el,rowO (S q p z)]) (.exit 0 [.rs 1 0 L L 2 ax] [.r .msg full sp el,.r .ent q sa ⟨41,0⟩])))
  |[.nils,.ns 1 u 4,.int .i64 n',.int .i64 z],[.r .msg full sp el,.rn .msg p 31] =>
    some (u-z.toNat,.need (decide (n'=(u:Int))&&P 0 [] u p z) (.br (decide (z<(u:Int))) (.exit 0 [.rs 1 0 (S [] p z).length (S [] p z).length 2 true] [.r .msg full sp el,rowO (S [] p z)]) (.exit 0 [.nils] [.r .msg full sp el])))
  |_,_=>none⟩
def ce24 (n:Nat):List R.Hint:=match n with
  |0=>hn [0,1,2,3]
  |1=>hn [0,1,2,3]
  |2=>hn [1,9]
  |_=>hn [1]
def s24 (lh:Nat->Option LoopD)(N:Nat):Cuts:=⟨lh,220,N,c24,[some (ce24 0),some (ce24 1),some (ce24 2),some (ce24 3)]⟩
def recP (p:List Msg)(z:Int):Msg:=p.getD z.toNat (0,[],[],[])
def FG.alE (A:FG)(q:List Ent)(L:Nat)(m:Msg):List Ent:=A.al (YtkjjpmbpjfmbcaaGreatDoor.seg q 0 L) m.1 m.2.1 m.2.2.1 m.2.2.2
def apE (m:Msg):Txt×Bool:=Xv m.1 m.2.1 m.2.2.1 m.2.2.2 m.2.1 [] false
theorem XuG (A:FG)(lh:Nat->Option LoopD)(j n c:Nat)(ex:Bool)(full:List Msg)(sp:Bool)(el:R.EL)(j1 n1 c1:Nat)(ex1:Bool)(full1:List Ent)(sp1:Bool)(el1:R.EL)(a b:Txt)(kk:R.EK):(Xg C (Y24 A) (s24 lh 2) 0 (R.Yu [.rs 0 j n c 4 ex,.rs 1 j1 n1 c1 2 ex1,.str a,.str b] 0 .lf) (mkD [.r .msg full sp el,.r .ent full1 sp1 el1] 2) (Xl 2 (ce24 0) kk)).ev =
    (kk (envZ [0,1,2,3] [DV.rs 0 j n c 4 ex,DV.rs 1 j1 n1 c1 2 ex1,R.DV.str a,R.DV.str b]) (mkD [DO.r RK.msg full sp el,DO.r RK.ent full1 sp1 el1] 2)).ev:=by kernel_rfl
theorem XuF (A:FG)(lh:Nat->Option LoopD)(j n c:Nat)(ex:Bool)(full:List Msg)(sp:Bool)(el:R.EL)(j1 n1 c1:Nat)(ex1:Bool)(full1:List Ent)(sp1:Bool)(el1:R.EL)(a b:Txt)(kk:R.EK):(Xg C (Y24 A) (s24 lh 2) 1 (envZ [0,1,2,3] [.rs 0 j n c 4 ex,.rs 1 j1 n1 c1 2 ex1,.str a,.str b]) (mkD [.r .msg full sp el,.r .ent full1 sp1 el1] 2) (Xl 2 (ce24 1) kk)).ev =
    cond (YtkjjpmbpjfmbcaaGreatDoor.okN full1 j1 n1) (cond (Nat.beq n1 0) ((kk (envZ [0,1,2,3] [DV.rs 0 j n c 4 ex,DV.rs 2 0 0 0 2 true,R.DV.str a,R.DV.str b]) (mkD [DO.r RK.msg full sp el,DO.r RK.ent full1 sp1 el1,DO.r RK.ent [] false 41] 2)).ev) ((kk (envZ [0,1,2,3] [DV.rs 0 j n c 4 ex,DV.rs 2 0 n1 n1 2 false,R.DV.str a,R.DV.str b]) (mkD [DO.r RK.msg full sp el,DO.r RK.ent full1 sp1 el1,DO.r RK.ent (YtkjjpmbpjfmbcaaGreatDoor.seg full1 j1 n1) true 41] 2)).ev)) none:=by kernel_rfl
theorem XrM (A:FG)(lh:Nat->Option LoopD)(j n c:Nat)(ex:Bool)(full:List Msg)(sp:Bool)(el:R.EL)(j1 n1 c1:Nat)(ex1:Bool)(full1:List Ent)(sp1:Bool)(el1:R.EL)(a b:Txt)(L:Nat)(ax sa:Bool)(q:List Ent)(kk:R.EK):(Xg C (Y24 A) (s24 lh 2) 2 (envZ [0,1,2,3] [.rs 0 j n c 4 ex,.rs 2 0 L L 2 ax,.str a,.str b]) (mkD [.r .msg full sp el,.r .ent full1 sp1 el1,.r .ent q sa 41] 2) (Xl 2 (ce24 2) kk)).ev =
    cond (okG full j n) ((kk (envZ [1,9] [DV.rs 2 0 L L 2 ax,DV.ns 3 (List.length (inL a b (seg full j n))) 4]) (mkD [DO.r RK.msg full sp el,DO.r RK.ent full1 sp1 el1,DO.r RK.ent q sa 41,DO.rn RK.msg (inL a b (seg full j n)) 31] 2)).ev) none:=by kernel_rfl
theorem XrL (A:FG)(P:P24T)(S:S24T)(j n c:Nat)(ex:Bool)(full:List Msg)(sp:Bool)(el:R.EL)(j1 n1 c1:Nat)(ex1:Bool)(full1:List Ent)(sp1:Bool)(el1:R.EL)(a b:Txt)(L:Nat)(ax sa:Bool)(q:List Ent)(p:List Msg)(kk:R.EK):(Xg C (Y24 A) (s24 (lhX (Z6 P S)) 2) 3 (envZ [1,9] [.rs 2 0 L L 2 ax,.ns 3 p.length 4]) (mkD [.r .msg full sp el,.r .ent full1 sp1 el1,.r .ent q sa 41,.rn .msg p 31] 2) (Xl 2 (ce24 3) kk)).ev =
    cond (Nat.ble p.length p.length) (cond (decide (List.length p-0<Cuts.lev (s24 (lhX (Z6 P S)) 2))) (cond (Nat.beq L L&&(decide ((↑p.length:Int)=(↑p.length:Int))&&P L q p.length p 0)) (cond (decide (0<(↑p.length:Int))) ((kk (envZ [1] [DV.rs 2 0 (List.length (S q p 0)) (List.length (S q p 0)) 2 true]) (mkD [DO.r RK.msg full sp el,DO.r RK.ent full1 sp1 el1,DO.r RK.ent (S q p 0) false { e:=41,z:=0 }] 2)).ev) ((kk (envZ [1] [DV.rs 2 0 L L 2 ax]) (mkD [DO.r RK.msg full sp el,DO.r RK.ent full1 sp1 el1,DO.r RK.ent q sa { e:=41,z:=0 }] 2)).ev)) none) none) none:=by kernel_rfl
theorem XrK (A:FG)(P:P24T)(S:S24T)(j n c:Nat)(ex:Bool)(full:List Msg)(sp:Bool)(el:R.EL)(j1 n1 c1:Nat)(ex1:Bool)(full1:List Ent)(sp1:Bool)(el1:R.EL)(a b:Txt)(L:Nat)(ax sa:Bool)(q:List Ent)(p:List Msg)(n' z:Int)(m:Nat)(rd k1:R.EK)(y:List (Nat×R.EK)):(YR C (Y24 A) (fun _=>none) 220 33 2 0 Xb5 (Z6 P S) m [.rs 2 0 L L 2 ax,.ns 3 p.length 4,.int .i64 n',.int .i64 z] [.r .msg full sp el,.r .ent full1 sp1 el1,.r .ent q sa 41,.rn .msg p 31] rd k1 y).ev =
    cond (decide (z<n')) (cond (Nat.ble p.length p.length) (cond (decide (0<=z)&&decide (Int.toNat z<List.length p)) (cond (Nat.blt z.toNat p.length) (cond (FG.nd A q 0 L L (Prod.fst (Prod.snd (recP p z)))) (cond (chkB (YtkjjpmbpjfmbcaaGreatDoor.seg q 0 L)&&mayM (recP p z)) (cond (decide (List.length p-Int.toNat (IntKind.wrap .i64 (z+1))<m)) (cond (Nat.beq (List.length (FG.alE A q L (recP p z))) (List.length (FG.alE A q L (recP p z)))&&(decide (n'=(↑p.length:Int))&&P (List.length (FG.alE A q L (recP p z))) (FG.alE A q L (recP p z)) p.length p (IntKind.wrap .i64 (z+1)))) (cond (decide (IntKind.wrap .i64 (z+1)<(↑p.length:Int))) ((k1 (envZ [1] [DV.rs 2 0 (List.length (S (FG.alE A q L (recP p z)) p (IntKind.wrap .i64 (z+1)))) (List.length (S (FG.alE A q L (recP p z)) p (IntKind.wrap .i64 (z+1)))) 2 true]) (mkD [DO.r RK.msg full sp el,DO.r RK.ent full1 sp1 el1,DO.r RK.ent (S (FG.alE A q L (recP p z)) p (IntKind.wrap .i64 (z+1))) false { e:=41,z:=0 }] 2)).ev) ((k1 (envZ [1] [DV.rs 2 0 (List.length (FG.alE A q L (recP p z))) (List.length (FG.alE A q L (recP p z))) 2 true]) (mkD [DO.r RK.msg full sp el,DO.r RK.ent full1 sp1 el1,DO.r RK.ent (FG.alE A q L (recP p z)) false { e:=41,z:=0 }] 2)).ev)) none) none) (cond (Nat.beq L 0) (cond (decide (List.length p-Int.toNat (IntKind.wrap .i64 (z+1))<m)) (cond (decide (n'=(↑p.length:Int))&&P 0 [] p.length p (IntKind.wrap .i64 (z+1))) (cond (decide (IntKind.wrap .i64 (z+1)<(↑p.length:Int))) ((k1 (envZ [1] [DV.rs 2 0 (List.length (S [] p (IntKind.wrap .i64 (z+1)))) (List.length (S [] p (IntKind.wrap .i64 (z+1)))) 2 true]) (mkD [DO.r RK.msg full sp el,DO.r RK.ent full1 sp1 el1,DO.r RK.ent (S [] p (IntKind.wrap .i64 (z+1))) false { e:=41,z:=0 }] 2)).ev) ((k1 (envZ [1] [DV.rs 2 0 0 0 2 true]) (mkD [DO.r RK.msg full sp el,DO.r RK.ent full1 sp1 el1,DO.r RK.ent [] false { e:=41,z:=0 }] 2)).ev)) none) none) (cond (decide (List.length p-Int.toNat (IntKind.wrap .i64 (z+1))<m)) (cond (Nat.beq L L&&(decide (n'=(↑p.length:Int))&&P L (YtkjjpmbpjfmbcaaGreatDoor.seg q 0 L) p.length p (IntKind.wrap .i64 (z+1)))) (cond (decide (IntKind.wrap .i64 (z+1)<(↑p.length:Int))) ((k1 (envZ [1] [DV.rs 2 0 (List.length (S (YtkjjpmbpjfmbcaaGreatDoor.seg q 0 L) p (IntKind.wrap .i64 (z+1)))) (List.length (S (YtkjjpmbpjfmbcaaGreatDoor.seg q 0 L) p (IntKind.wrap .i64 (z+1)))) 2 true]) (mkD [DO.r RK.msg full sp el,DO.r RK.ent full1 sp1 el1,DO.r RK.ent (S (YtkjjpmbpjfmbcaaGreatDoor.seg q 0 L) p (IntKind.wrap .i64 (z+1))) false { e:=41,z:=0 }] 2)).ev) ((k1 (envZ [1] [DV.rs 2 0 L L 2 false]) (mkD [DO.r RK.msg full sp el,DO.r RK.ent full1 sp1 el1,DO.r RK.ent (YtkjjpmbpjfmbcaaGreatDoor.seg q 0 L) true { e:=41,z:=0 }] 2)).ev)) none) none))) none) none) none) none) ((k1 (envZ [1] [DV.rs 2 0 L L 2 ax]) (mkD [DO.r RK.msg full sp el,DO.r RK.ent full1 sp1 el1,DO.r RK.ent q sa 41] 2)).ev):=by kernel_rfl
theorem XmN (A:FG)(lh:Nat->Option LoopD)(j n c:Nat)(ex:Bool)(full:List Msg)(sp:Bool)(el:R.EL)(j1 n1 c1:Nat)(ex1:Bool)(full1:List Ent)(sp1:Bool)(el1:R.EL)(a b:Txt)(L:Nat)(ax sa:Bool)(q:List Ent)  : (Yp C (Y24 A) (s24 lh 2) 4 (envZ [1] [.rs 2 0 L L 2 ax]) (mkD [.r .msg full sp el,.r .ent full1 sp1 el1,.r .ent q sa 41] 2)).ev =
    some (DV.rs 2 0 L L 2 ax,(mkD [DO.r RK.msg full sp el,DO.r RK.ent full1 sp1 el1,DO.r RK.ent q sa 41] 2)):=by kernel_rfl
theorem XuC (A:FG)(lh:Nat->Option LoopD)(j n c:Nat)(ex:Bool)(full:List Msg)(sp:Bool)(el:R.EL)(a b:Txt)(kk:R.EK):(Xg C (Y24 A) (s24 lh 1) 0 (R.Yu [.rs 0 j n c 4 ex,.nils,.str a,.str b] 0 .lf) (mkD [.r .msg full sp el] 1) (Xl 1 (ce24 0) kk)).ev =
    (kk (envZ [0,1,2,3] [DV.rs 0 j n c 4 ex,R.DV.nils,R.DV.str a,R.DV.str b]) (mkD [DO.r RK.msg full sp el] 1)).ev:=by kernel_rfl
theorem XuB (A:FG)(lh:Nat->Option LoopD)(j n c:Nat)(ex:Bool)(full:List Msg)(sp:Bool)(el:R.EL)(a b:Txt)(kk:R.EK):(Xg C (Y24 A) (s24 lh 1) 1 (envZ [0,1,2,3] [.rs 0 j n c 4 ex,.nils,.str a,.str b]) (mkD [.r .msg full sp el] 1) (Xl 1 (ce24 1) kk)).ev =
    (kk (envZ [0,1,2,3] [DV.rs 0 j n c 4 ex,R.DV.nils,R.DV.str a,R.DV.str b]) (mkD [DO.r RK.msg full sp el] 1)).ev:=by kernel_rfl
theorem XrG (A:FG)(lh:Nat->Option LoopD)(j n c:Nat)(ex:Bool)(full:List Msg)(sp:Bool)(el:R.EL)(a b:Txt)(kk:R.EK):(Xg C (Y24 A) (s24 lh 1) 2 (envZ [0,1,2,3] [.rs 0 j n c 4 ex,.nils,.str a,.str b]) (mkD [.r .msg full sp el] 1) (Xl 1 (ce24 2) kk)).ev =
    cond (okG full j n) ((kk (envZ [1,9] [R.DV.nils,DV.ns 1 (List.length (inL a b (seg full j n))) 4]) (mkD [DO.r RK.msg full sp el,DO.rn RK.msg (inL a b (seg full j n)) 31] 1)).ev) none:=by kernel_rfl
theorem XrF (A:FG)(P:P24T)(S:S24T)(j n c:Nat)(ex:Bool)(full:List Msg)(sp:Bool)(el:R.EL)(a b:Txt)(p:List Msg)(kk:R.EK):(Xg C (Y24 A) (s24 (lhX (Zv P S)) 1) 3 (envZ [1,9] [.nils,.ns 1 p.length 4]) (mkD [.r .msg full sp el,.rn .msg p 31] 1) (Xl 1 (ce24 3) kk)).ev =
    cond (Nat.ble p.length p.length) (cond (decide (List.length p-0<Cuts.lev (s24 (lhX (Zv P S)) 1))) (cond (decide ((↑p.length:Int)=(↑p.length:Int))&&P 0 [] p.length p 0) (cond (decide (0<(↑p.length:Int))) ((kk (envZ [1] [DV.rs 1 0 (List.length (S [] p 0)) (List.length (S [] p 0)) 2 true]) (mkD [DO.r RK.msg full sp el,DO.r RK.ent (S [] p 0) false { e:=41,z:=0 }] 1)).ev) ((kk (envZ [1] [R.DV.nils]) (mkD [DO.r RK.msg full sp el] 1)).ev)) none) none) none:=by kernel_rfl
theorem XrD (A:FG)(P:P24T)(S:S24T)(j n c:Nat)(ex:Bool)(full:List Msg)(sp:Bool)(el:R.EL)(a b:Txt)(p:List Msg)(n' z:Int)(m:Nat)(rd k1:R.EK)(y:List (Nat×R.EK)):(YR C (Y24 A) (fun _=>none) 220 33 1 0 Xb5 (Zv P S) m [.nils,.ns 1 p.length 4,.int .i64 n',.int .i64 z] [.r .msg full sp el,.rn .msg p 31] rd k1 y).ev =
    cond (decide (z<n')) (cond (Nat.ble p.length p.length) (cond (decide (0<=z)&&decide (Int.toNat z<List.length p)) (cond (Nat.blt z.toNat p.length) (cond (mayM (recP p z)) (cond (decide (Prod.fst (recP p z)=3)) (cond (decide (List.length p-Int.toNat (IntKind.wrap .i64 (z+1))<m)) (cond (decide (n'=(↑p.length:Int))&&P 0 [] p.length p (IntKind.wrap .i64 (z+1))) (cond (decide (IntKind.wrap .i64 (z+1)<(↑p.length:Int))) ((k1 (envZ [1] [DV.rs 1 0 (List.length (S [] p (IntKind.wrap .i64 (z+1)))) (List.length (S [] p (IntKind.wrap .i64 (z+1)))) 2 true]) (mkD [DO.r RK.msg full sp el,DO.r RK.ent (S [] p (IntKind.wrap .i64 (z+1))) false { e:=41,z:=0 }] 1)).ev) ((k1 (envZ [1] [DV.rs 1 0 0 0 2 true]) (mkD [DO.r RK.msg full sp el,DO.r RK.ent [] false { e:=41,z:=0 }] 1)).ev)) none) none) (cond (Prod.snd (apE (recP p z))) (cond (decide (List.length p-Int.toNat (IntKind.wrap .i64 (z+1))<m)) (cond (decide (n'=(↑p.length:Int))&&P 1 [(Prod.fst (Prod.snd (recP p z)),Prod.fst (apE (recP p z)))] p.length p (IntKind.wrap .i64 (z+1))) (cond (decide (IntKind.wrap .i64 (z+1)<(↑p.length:Int))) ((k1 (envZ [1] [DV.rs 1 0 (List.length (S [(Prod.fst (Prod.snd (recP p z)),Prod.fst (apE (recP p z)))] p (IntKind.wrap .i64 (z+1)))) (List.length (S [(Prod.fst (Prod.snd (recP p z)),Prod.fst (apE (recP p z)))] p (IntKind.wrap .i64 (z+1)))) 2 true]) (mkD [DO.r RK.msg full sp el,DO.r RK.ent (S [(Prod.fst (Prod.snd (recP p z)),Prod.fst (apE (recP p z)))] p (IntKind.wrap .i64 (z+1))) false { e:=41,z:=0 }] 1)).ev) ((k1 (envZ [1] [DV.rs 1 0 1 1 2 true]) (mkD [DO.r RK.msg full sp el,DO.r RK.ent [(Prod.fst (Prod.snd (recP p z)),Prod.fst (apE (recP p z)))] false { e:=41,z:=0 }] 1)).ev)) none) none) (cond (decide (List.length p-Int.toNat (IntKind.wrap .i64 (z+1))<m)) (cond (decide (n'=(↑p.length:Int))&&P 0 [] p.length p (IntKind.wrap .i64 (z+1))) (cond (decide (IntKind.wrap .i64 (z+1)<(↑p.length:Int))) ((k1 (envZ [1] [DV.rs 1 0 (List.length (S [] p (IntKind.wrap .i64 (z+1)))) (List.length (S [] p (IntKind.wrap .i64 (z+1)))) 2 true]) (mkD [DO.r RK.msg full sp el,DO.r RK.ent (S [] p (IntKind.wrap .i64 (z+1))) false { e:=41,z:=0 }] 1)).ev) ((k1 (envZ [1] [DV.rs 1 0 0 0 2 true]) (mkD [DO.r RK.msg full sp el,DO.r RK.ent [] false { e:=41,z:=0 }] 1)).ev)) none) none))) (cond (decide (List.length p-Int.toNat (IntKind.wrap .i64 (z+1))<m)) (cond (decide (n'=(↑p.length:Int))&&P 0 [] p.length p (IntKind.wrap .i64 (z+1))) (cond (decide (IntKind.wrap .i64 (z+1)<(↑p.length:Int))) ((k1 (envZ [1] [DV.rs 1 0 (List.length (S [] p (IntKind.wrap .i64 (z+1)))) (List.length (S [] p (IntKind.wrap .i64 (z+1)))) 2 true]) (mkD [DO.r RK.msg full sp el,DO.r RK.ent (S [] p (IntKind.wrap .i64 (z+1))) false { e:=41,z:=0 }] 1)).ev) ((k1 (envZ [1] [R.DV.nils]) (mkD [DO.r RK.msg full sp el] 1)).ev)) none) none)) none) none) none) ((k1 (envZ [1] [R.DV.nils]) (mkD [DO.r RK.msg full sp el] 1)).ev):=by kernel_rfl
theorem XrB (A:FG)(P:P24T)(S:S24T)(j n c:Nat)(ex:Bool)(full:List Msg)(sp:Bool)(el:R.EL)(a b:Txt)(p:List Msg)(L:Nat)(ax sa:Bool)(q:List Ent)(n' z:Int)(m:Nat)(rd k1:R.EK)(y:List (Nat×R.EK)):(YR C (Y24 A) (fun _=>none) 220 33 1 0 Xb5 (Zv P S) m [.rs 1 0 L L 2 ax,.ns 2 p.length 4,.int .i64 n',.int .i64 z] [.r .msg full sp el,.r .ent q sa 41,.rn .msg p 31] rd k1 y).ev =
    cond (decide (z<n')) (cond (Nat.ble p.length p.length) (cond (decide (0<=z)&&decide (Int.toNat z<List.length p)) (cond (Nat.blt z.toNat p.length) (cond (FG.nd A q 0 L L (Prod.fst (Prod.snd (recP p z)))) (cond (chkB (YtkjjpmbpjfmbcaaGreatDoor.seg q 0 L)&&mayM (recP p z)) (cond (decide (List.length p-Int.toNat (IntKind.wrap .i64 (z+1))<m)) (cond (Nat.beq (List.length (FG.alE A q L (recP p z))) (List.length (FG.alE A q L (recP p z)))&&(decide (n'=(↑p.length:Int))&&P (List.length (FG.alE A q L (recP p z))) (FG.alE A q L (recP p z)) p.length p (IntKind.wrap .i64 (z+1)))) (cond (decide (IntKind.wrap .i64 (z+1)<(↑p.length:Int))) ((k1 (envZ [1] [DV.rs 1 0 (List.length (S (FG.alE A q L (recP p z)) p (IntKind.wrap .i64 (z+1)))) (List.length (S (FG.alE A q L (recP p z)) p (IntKind.wrap .i64 (z+1)))) 2 true]) (mkD [DO.r RK.msg full sp el,DO.r RK.ent (S (FG.alE A q L (recP p z)) p (IntKind.wrap .i64 (z+1))) false { e:=41,z:=0 }] 1)).ev) ((k1 (envZ [1] [DV.rs 1 0 (List.length (FG.alE A q L (recP p z))) (List.length (FG.alE A q L (recP p z))) 2 true]) (mkD [DO.r RK.msg full sp el,DO.r RK.ent (FG.alE A q L (recP p z)) false { e:=41,z:=0 }] 1)).ev)) none) none) (cond (Nat.beq L 0) (cond (decide (List.length p-Int.toNat (IntKind.wrap .i64 (z+1))<m)) (cond (decide (n'=(↑p.length:Int))&&P 0 [] p.length p (IntKind.wrap .i64 (z+1))) (cond (decide (IntKind.wrap .i64 (z+1)<(↑p.length:Int))) ((k1 (envZ [1] [DV.rs 1 0 (List.length (S [] p (IntKind.wrap .i64 (z+1)))) (List.length (S [] p (IntKind.wrap .i64 (z+1)))) 2 true]) (mkD [DO.r RK.msg full sp el,DO.r RK.ent (S [] p (IntKind.wrap .i64 (z+1))) false { e:=41,z:=0 }] 1)).ev) ((k1 (envZ [1] [DV.rs 1 0 0 0 2 true]) (mkD [DO.r RK.msg full sp el,DO.r RK.ent [] false { e:=41,z:=0 }] 1)).ev)) none) none) (cond (decide (List.length p-Int.toNat (IntKind.wrap .i64 (z+1))<m)) (cond (Nat.beq L L&&(decide (n'=(↑p.length:Int))&&P L (YtkjjpmbpjfmbcaaGreatDoor.seg q 0 L) p.length p (IntKind.wrap .i64 (z+1)))) (cond (decide (IntKind.wrap .i64 (z+1)<(↑p.length:Int))) ((k1 (envZ [1] [DV.rs 1 0 (List.length (S (YtkjjpmbpjfmbcaaGreatDoor.seg q 0 L) p (IntKind.wrap .i64 (z+1)))) (List.length (S (YtkjjpmbpjfmbcaaGreatDoor.seg q 0 L) p (IntKind.wrap .i64 (z+1)))) 2 true]) (mkD [DO.r RK.msg full sp el,DO.r RK.ent (S (YtkjjpmbpjfmbcaaGreatDoor.seg q 0 L) p (IntKind.wrap .i64 (z+1))) false { e:=41,z:=0 }] 1)).ev) ((k1 (envZ [1] [DV.rs 1 0 L L 2 false]) (mkD [DO.r RK.msg full sp el,DO.r RK.ent (YtkjjpmbpjfmbcaaGreatDoor.seg q 0 L) true { e:=41,z:=0 }] 1)).ev)) none) none))) none) none) none) none) ((k1 (envZ [1] [DV.rs 1 0 L L 2 ax]) (mkD [DO.r RK.msg full sp el,DO.r RK.ent q sa 41] 1)).ev):=by kernel_rfl
theorem XrC (A:FG)(lh:Nat->Option LoopD)(j n c:Nat)(ex:Bool)(full:List Msg)(sp:Bool)(el:R.EL)(a b:Txt)(L:Nat)(ax sa:Bool)(q:List Ent)  : (Yp C (Y24 A) (s24 lh 1) 4 (envZ [1] [.rs 1 0 L L 2 ax]) (mkD [.r .msg full sp el,.r .ent q sa 41] 1)).ev =
    some (DV.rs 1 0 L L 2 ax,(mkD [DO.r RK.msg full sp el,DO.r RK.ent q sa 41] 1)):=by kernel_rfl
theorem XrE (A:FG)(lh:Nat->Option LoopD)(j n c:Nat)(ex:Bool)(full:List Msg)(sp:Bool)(el:R.EL)(a b:Txt)  : (Yp C (Y24 A) (s24 lh 1) 4 (envZ [1] [.nils]) (mkD [.r .msg full sp el] 1)).ev =
    some (R.DV.nils,(mkD [DO.r RK.msg full sp el] 1)):=by kernel_rfl
theorem XuE (A:FG)(lh:Nat->Option LoopD)(j1 n1 c1:Nat)(ex1:Bool)(full1:List Ent)(sp1:Bool)(el1:R.EL)(a b:Txt)(kk:R.EK):(Xg C (Y24 A) (s24 lh 1) 0 (R.Yu [.nils,.rs 0 j1 n1 c1 2 ex1,.str a,.str b] 0 .lf) (mkD [.r .ent full1 sp1 el1] 1) (Xl 1 (ce24 0) kk)).ev =
    (kk (envZ [0,1,2,3] [R.DV.nils,DV.rs 0 j1 n1 c1 2 ex1,R.DV.str a,R.DV.str b]) (mkD [DO.r RK.ent full1 sp1 el1] 1)).ev:=by kernel_rfl
theorem XuD (A:FG)(lh:Nat->Option LoopD)(j1 n1 c1:Nat)(ex1:Bool)(full1:List Ent)(sp1:Bool)(el1:R.EL)(a b:Txt)(kk:R.EK):(Xg C (Y24 A) (s24 lh 1) 1 (envZ [0,1,2,3] [.nils,.rs 0 j1 n1 c1 2 ex1,.str a,.str b]) (mkD [.r .ent full1 sp1 el1] 1) (Xl 1 (ce24 1) kk)).ev =
    cond (YtkjjpmbpjfmbcaaGreatDoor.okN full1 j1 n1) (cond (Nat.beq n1 0) ((kk (envZ [0,1,2,3] [R.DV.nils,DV.rs 1 0 0 0 2 true,R.DV.str a,R.DV.str b]) (mkD [DO.r RK.ent full1 sp1 el1,DO.r RK.ent [] false 41] 1)).ev) ((kk (envZ [0,1,2,3] [R.DV.nils,DV.rs 1 0 n1 n1 2 false,R.DV.str a,R.DV.str b]) (mkD [DO.r RK.ent full1 sp1 el1,DO.r RK.ent (YtkjjpmbpjfmbcaaGreatDoor.seg full1 j1 n1) true 41] 1)).ev)) none:=by kernel_rfl
theorem XrJ (A:FG)(lh:Nat->Option LoopD)(j1 n1 c1:Nat)(ex1:Bool)(full1:List Ent)(sp1:Bool)(el1:R.EL)(a b:Txt)(L:Nat)(ax sa:Bool)(q:List Ent)(kk:R.EK):(Xg C (Y24 A) (s24 lh 1) 2 (envZ [0,1,2,3] [.nils,.rs 1 0 L L 2 ax,.str a,.str b]) (mkD [.r .ent full1 sp1 el1,.r .ent q sa 41] 1) (Xl 1 (ce24 2) kk)).ev =
    (kk (envZ [1,9] [DV.rs 1 0 L L 2 ax,R.DV.nils]) (mkD [DO.r RK.ent full1 sp1 el1,DO.r RK.ent q sa 41] 1)).ev:=by kernel_rfl
theorem XrI (A:FG)(j1 n1 c1:Nat)(ex1:Bool)(full1:List Ent)(sp1:Bool)(el1:R.EL)(a b:Txt)(L:Nat)(ax sa:Bool)(q:List Ent)(kk:R.EK):(Xg C (Y24 A) (s24 (fun _=>none) 1) 3 (envZ [1,9] [.rs 1 0 L L 2 ax,.nils]) (mkD [.r .ent full1 sp1 el1,.r .ent q sa 41] 1) (Xl 1 (ce24 3) kk)).ev =
    (kk (envZ [1] [DV.rs 1 0 L L 2 ax]) (mkD [DO.r RK.ent full1 sp1 el1,DO.r RK.ent q sa 41] 1)).ev:=by kernel_rfl
theorem XrH (A:FG)(lh:Nat->Option LoopD)(j1 n1 c1:Nat)(ex1:Bool)(full1:List Ent)(sp1:Bool)(el1:R.EL)(a b:Txt)(L:Nat)(ax sa:Bool)(q:List Ent)  : (Yp C (Y24 A) (s24 lh 1) 4 (envZ [1] [.rs 1 0 L L 2 ax]) (mkD [.r .ent full1 sp1 el1,.r .ent q sa 41] 1)).ev =
    some (DV.rs 1 0 L L 2 ax,(mkD [DO.r RK.ent full1 sp1 el1,DO.r RK.ent q sa 41] 1)):=by kernel_rfl
theorem XuA (A:FG)(lh:Nat->Option LoopD)(a b:Txt)(kk:R.EK):(Xg C (Y24 A) (s24 lh 0) 0 (R.Yu [.nils,.nils,.str a,.str b] 0 .lf) (mkD [] 0) (Xl 0 (ce24 0) kk)).ev =
    (kk (envZ [0,1,2,3] [R.DV.nils,R.DV.nils,R.DV.str a,R.DV.str b]) (mkD [] 0)).ev:=by kernel_rfl
theorem Xu9 (A:FG)(lh:Nat->Option LoopD)(a b:Txt)(kk:R.EK):(Xg C (Y24 A) (s24 lh 0) 1 (envZ [0,1,2,3] [.nils,.nils,.str a,.str b]) (mkD [] 0) (Xl 0 (ce24 1) kk)).ev =
    (kk (envZ [0,1,2,3] [R.DV.nils,R.DV.nils,R.DV.str a,R.DV.str b]) (mkD [] 0)).ev:=by kernel_rfl
theorem XrA (A:FG)(lh:Nat->Option LoopD)(a b:Txt)(kk:R.EK):(Xg C (Y24 A) (s24 lh 0) 2 (envZ [0,1,2,3] [.nils,.nils,.str a,.str b]) (mkD [] 0) (Xl 0 (ce24 2) kk)).ev =
    (kk (envZ [1,9] [R.DV.nils,R.DV.nils]) (mkD [] 0)).ev:=by kernel_rfl
theorem Xr9 (A:FG)(a b:Txt)(kk:R.EK):(Xg C (Y24 A) (s24 (fun _=>none) 0) 3 (envZ [1,9] [.nils,.nils]) (mkD [] 0) (Xl 0 (ce24 3) kk)).ev =
    (kk (envZ [1] [R.DV.nils]) (mkD [] 0)).ev:=by kernel_rfl
theorem Xr8 (A:FG)(lh:Nat->Option LoopD)(a b:Txt)  : (Yp C (Y24 A) (s24 lh 0) 4 (envZ [1] [.nils]) (mkD [] 0)).ev =
    some (R.DV.nils,(mkD [] 0)):=by kernel_rfl
set_option maxRecDepth 10000
def P24:P24T:=fun L q u p z=>(decide (L=q.length/\u=p.length/\0<=z/\z<=u/\q.length+(u-z.toNat)<=190/\u<=190))&&(chkB q&&p.all mayM)
theorem Xcx {L u:Nat}{q:List Ent}{p:List Msg}{z:Int}:P24 L q u p z=true<->(L=q.length/\u=p.length/\0<=z/\z<=u/\q.length+(u-z.toNat)<=190/\u<=190)/\chkB q=true/\p.all mayM=true:=by
  unfold P24;rw[Bool.and_eq_true,Bool.and_eq_true,decide_eq_true_eq]
def S24:S24T:=fun q p z=>Xdv (p.drop z.toNat) q
theorem XmD {p:List Msg}{z:Int} (h0:0<=z)(h1:z<p.length):recP p z∈p:=by
  unfold recP;rw[List.getD_eq_getElem?_getD,List.getElem?_eq_getElem (show z.toNat<p.length by omega)]
  exact List.getElem_mem _
theorem Xlr {p:List Msg}{z:Int} (h0:0<=z)(h1:z<p.length):p.drop z.toNat=recP p z::p.drop (z+1).toNat:=by
  rw[show (z+1).toNat=z.toNat+1 by omega,List.drop_eq_getElem_cons (show z.toNat<p.length by omega)]
  unfold recP;rw[List.getD_eq_getElem?_getD,List.getElem?_eq_getElem (show z.toNat<p.length by omega)]
  rfl
theorem Xdl {p:List Msg}{z:Int} (h:p.all mayM=true)(h0:0<=z)(h1:z<p.length):mayM (recP p z)=true:=List.all_eq_true.1 h _ (XmD h0 h1)
theorem Xd6 {q:List Ent}{p:List Msg}{z:Int} (h:¬ z<p.length)(h0:0<=z):S24 q p z=q:=by
  unfold S24;rw[List.drop_eq_nil_of_le (by omega)]; rfl
abbrev oneA (q:List Ent)(m:Msg):List Ent:=alL q m.1 m.2.1 m.2.2.1 m.2.2.2
theorem XfV {q:List Ent}{p:List Msg}{z:Int} (h0:0<=z)(h1:z<p.length):S24 q p z=S24 (oneA q (recP p z)) p (z+1):=by
  unfold S24;rw[Xlr h0 h1]; rfl
theorem segA (q:List Ent):YtkjjpmbpjfmbcaaGreatDoor.seg q 0 q.length=q:=by unfold YtkjjpmbpjfmbcaaGreatDoor.seg; rw[List.drop_zero,List.take_length]
theorem Xq8 {q:List Ent} (k:Txt)(hc:chkB q=true)(hl:q.length<198):ndL q 0 q.length q.length k=true:=by
  obtain⟨ho,hp⟩:=(XbX q).1 hc;unfold ndL Xhl;rw[Bool.and_eq_true,Bool.and_eq_true,segA,YtkjjpmbpjfmbcaaGreatDoor.okN_iff,decide_eq_true_eq,decide_eq_true_eq]
  refine⟨⟨by omega,by omega⟩,⟨hl,Nat.le_refl _⟩,?_⟩
  show (valL q k (cntK k q)).length<_
  rw[(Xds k q hp).2]
  have:=(Xhr (k:=k) ho).1
  omega
theorem XfW {q:List Ent}{p:List Msg}{z:Int} (h:P24 q.length q p.length p z=true)(h1:z<p.length):P24 (oneA q (recP p z)).length (oneA q (recP p z)) p.length p (z+1)=true:=by
  obtain⟨⟨_,_,p3,p4,p5,p8⟩,p6,p7⟩:=Xcx.1 h;obtain⟨h2,_,_,h4⟩:=XqM p6 (Xdl p7 p3 h1)
  have h4:(oneA q (recP p z)).length<=q.length+1:=h4
  exact Xcx.2 ⟨⟨rfl,rfl,by omega,by omega,by omega,by omega⟩,h2,p7⟩
theorem bq (n:Nat):Nat.beq n n=true:=Nat.beq_refl n
theorem bl' (n:Nat):Nat.ble n n=true:=Nat.ble_eq_true_of_le (Nat.le_refl _)
theorem dq (n:Int):decide (n=n)=true:=decide_eq_true rfl
theorem Xlw {m:Msg} (h:m.1=3):oneA [] m=[]:=by
  unfold oneA alL ZP bt;rw[h,decide_eq_true rfl]; rfl
theorem XmS {m:Msg} (h:m.1 ≠ 3):oneA [] m=cond (apE m).2 [(m.2.1,(apE m).1)] []:=by
  refine (XkP (l:=[]) .nil h).trans ?_
  show ([]:List Ent).take _++cond (Xv m.1 m.2.1 m.2.2.1 m.2.2.2 m.2.1 [] false).2 _ _++([]:List Ent).drop _=_
  rw[List.take_nil,List.drop_nil,List.append_nil,List.nil_append]; rfl
theorem Xoz (A:FG)(j n c:Nat)(ex:Bool)(full:List Msg)(sp:Bool)(el:R.EL)(j1 n1 c1:Nat)(ex1:Bool)(full1:List Ent)(sp1:Bool)(el1:R.EL)(a b:Txt)(L u:Nat)(ax sa:Bool)(q:List Ent)(p:List Msg)(n' z:Int)(rd k1:R.EK)(y:List (Nat×R.EK))(w:R.DV×R.DH)(hP:P24 L q u p z=true)(hn:n'=(u:Int))
    (hw:cond (decide (z<(u:Int))) (k1 (envZ [1] [.rs 2 0 (S24 q p z).length (S24 q p z).length 2 true]) (mkD [.r .msg full sp el,.r .ent full1 sp1 el1,rowO (S24 q p z)] 2)).ev (k1 (envZ [1] [.rs 2 0 L L 2 ax]) (mkD [.r .msg full sp el,.r .ent full1 sp1 el1,.r .ent q sa 41] 2)).ev=some w) :
    (YR C (Y24 A) (fun _=>none) 220 33 2 0 Xb5 (Z6 P24 S24) (u-z.toNat) [.rs 2 0 L L 2 ax,.ns 3 u 4,.int .i64 n',.int .i64 z] [.r .msg full sp el,.r .ent full1 sp1 el1,.r .ent q sa 41,.rn .msg p 31] rd k1 y).ev=some w:=by
  have hp:=Xcx.1 hP;obtain⟨⟨rfl,rfl,p3,p4,p5,p8⟩,p6,p7⟩:=hp;subst hn;rw[XrK A P24 S24 j n c ex full sp el j1 n1 c1 ex1 full1 sp1 el1 a b]
  by_cases h1:z<p.length
  . have hm:=Xdl p7 p3 h1
    have eA:A.alE q q.length (recP p z)=oneA q (recP p z):=by
      unfold FG.alE;rw[A.ha,segA]
    rw[cT h1] at hw;rw[cT h1,Xc0 p3 h1 (by omega),bl',cond_true,cA p3 (show z.toNat<p.length by omega),cB (show z.toNat<p.length by omega),A.hn,Xq8 _ p6 (by omega),cond_true,segA,p6,hm,eA,Bool.and_self,cond_true,
      cT (show p.length-(z+1).toNat<p.length-z.toNat by omega),bq,dq,XfW hP h1,Bool.and_self,Bool.and_self,cond_true]
    rw[XfV p3 h1] at hw
    by_cases h2:z+1<p.length
    . rw[cT h2]; exact hw
    . rw[cF h2]
      rw[Xd6 h2 (by omega)] at hw
      exact hw
  . rw[cF h1] at hw ⊢
    exact hw
theorem Xpw (A:FG) {n:Nat} (hn:220<=n):XQ C.G 2 (XF X4 C.O C.tab n) n 220 33 0 Xb5 (Z6 P24 S24):=by
  refine ZJ C (Y24 A) (lh:=fun _=>none) hn ?_ (fun p _ ld h=>by cases h) ?_
  . exact XP _ none (Zw (f:=24) rfl) (0,Xb5) (by rw[show X8 none c24.body=[(0,Xb5)] from rfl]; exact List.mem_cons_self)
  intro vs ao m t hs rd k1 y w hw;unfold Z6 at hs
  simp only at hs
  split at hs
  . cases hs
    replace hw:=YG hw;obtain⟨hp,hw⟩:=hw;rw[Bool.and_eq_true,Bool.and_eq_true,decide_eq_true_eq] at hp;obtain⟨h1,h2,h3⟩:=hp;have h1:=Nat.eq_of_beq_eq_true h1;subst h1;rw[Xeh] at hw;exact Xoz A 0 0 0 false _ _ _ 0 0 0 false _ _ _ [] [] _ _ _ _ _ _ _ _ _ _ _ _ h3 h2 hw
  . cases hs
theorem Xoy (A:FG)(j n c:Nat)(ex:Bool)(full:List Msg)(sp:Bool)(el:R.EL)(a b:Txt)(L u:Nat)(ax sa:Bool)(q:List Ent)(p:List Msg)(n' z:Int)(rd k1:R.EK)(y:List (Nat×R.EK))(w:R.DV×R.DH)(hP:P24 L q u p z=true)(hn:n'=(u:Int))
    (hw:cond (decide (z<(u:Int))) (k1 (envZ [1] [.rs 1 0 (S24 q p z).length (S24 q p z).length 2 true]) (mkD [.r .msg full sp el,rowO (S24 q p z)] 1)).ev (k1 (envZ [1] [.rs 1 0 L L 2 ax]) (mkD [.r .msg full sp el,.r .ent q sa 41] 1)).ev=some w) :
    (YR C (Y24 A) (fun _=>none) 220 33 1 0 Xb5 (Zv P24 S24) (u-z.toNat) [.rs 1 0 L L 2 ax,.ns 2 u 4,.int .i64 n',.int .i64 z] [.r .msg full sp el,.r .ent q sa 41,.rn .msg p 31] rd k1 y).ev=some w:=by
  have hp:=Xcx.1 hP;obtain⟨⟨rfl,rfl,p3,p4,p5,p8⟩,p6,p7⟩:=hp;subst hn;rw[XrB A P24 S24 j n c ex full sp el a b]
  by_cases h1:z<p.length
  . have hm:=Xdl p7 p3 h1
    have eA:A.alE q q.length (recP p z)=oneA q (recP p z):=by
      unfold FG.alE;rw[A.ha,segA]
    rw[cT h1] at hw;rw[cT h1,Xc0 p3 h1 (by omega),bl',cond_true,cA p3 (show z.toNat<p.length by omega),cB (show z.toNat<p.length by omega),A.hn,Xq8 _ p6 (by omega),cond_true,segA,p6,hm,eA,Bool.and_self,cond_true,
      cT (show p.length-(z+1).toNat<p.length-z.toNat by omega),bq,dq,XfW hP h1,Bool.and_self,Bool.and_self,cond_true]
    rw[XfV p3 h1] at hw
    by_cases h2:z+1<p.length
    . rw[cT h2]; exact hw
    . rw[cF h2]
      rw[Xd6 h2 (by omega)] at hw
      exact hw
  . rw[cF h1] at hw ⊢
    exact hw
theorem Xmz (A : FG) (j n c : Nat) (ex : Bool) (full : List Msg) (sp : Bool) (el : R.EL) (a b : Txt) (u : Nat) (p : List Msg) (n' z : Int) (rd k1 : R.EK) (y : List (Nat × R.EK)) (w : R.DV × R.DH) (hP : P24 0 [] u p z = true) (hn : n' = (u : Int))
    (hw:cond (decide (z<(u:Int))) (k1 (envZ [1] [.rs 1 0 (S24 [] p z).length (S24 [] p z).length 2 true]) (mkD [.r .msg full sp el,rowO (S24 [] p z)] 1)).ev (k1 (envZ [1] [.nils]) (mkD [.r .msg full sp el] 1)).ev=some w) :
    (YR C (Y24 A) (fun _=>none) 220 33 1 0 Xb5 (Zv P24 S24) (u-z.toNat) [.nils,.ns 1 u 4,.int .i64 n',.int .i64 z] [.r .msg full sp el,.rn .msg p 31] rd k1 y).ev=some w:=by
  have hp:=Xcx.1 hP;obtain⟨⟨_,rfl,p3,p4,p5,p8⟩,p6,p7⟩:=hp;subst hn;rw[XrD A P24 S24 j n c ex full sp el a b]
  by_cases h1:z<p.length
  . have hm:=Xdl p7 p3 h1
    have hN:=XfW (q:=[]) hP h1;rw[cT h1] at hw;rw[XfV p3 h1] at hw;rw[cT h1,Xc0 p3 h1 (by omega),bl',cond_true,cA p3 (show z.toNat<p.length by omega),cB (show z.toNat<p.length by omega),hm,cond_true]
    have hl:p.length-(z+1).toNat<p.length-z.toNat:=by omega
    by_cases h3:(recP p z).1=3
    . rw[Xlw h3] at hN hw
      replace hN:P24 0 [] p.length p (z+1)=true:=hN;rw[cT h3,cT hl,dq,hN,Bool.and_self,cond_true]
      by_cases h2:z+1<p.length
      . rw[cT h2]; exact hw
      . rw[cF h2]
        rw[Xd6 h2 (by omega)] at hw
        exact hw
    . rw[XmS h3] at hN hw
      rw[cF h3]
      cases hap:(apE (recP p z)).2 with
      |true =>
        rw[hap,cond_true] at hN hw;replace hN:P24 1 [((recP p z).2.1,(apE (recP p z)).1)] p.length p (z+1)=true:=hN;rw[cond_true,cT hl,dq,hN,Bool.and_self,cond_true]
        by_cases h2:z+1<p.length
        . rw[cT h2]; exact hw
        . rw[cF h2]
          rw[Xd6 h2 (by omega)] at hw
          exact hw
      |false =>
        rw[hap,cond_false] at hN hw;replace hN:P24 0 [] p.length p (z+1)=true:=hN;rw[cond_false,cT hl,dq,hN,Bool.and_self,cond_true]
        by_cases h2:z+1<p.length
        . rw[cT h2]; exact hw
        . rw[cF h2]
          rw[Xd6 h2 (by omega)] at hw
          exact hw
  . rw[cF h1] at hw ⊢
    exact hw
theorem Xpv (A:FG) {n:Nat} (hn:220<=n):XQ C.G 1 (XF X4 C.O C.tab n) n 220 33 0 Xb5 (Zv P24 S24):=by
  refine ZJ C (Y24 A) (lh:=fun _=>none) hn ?_ (fun p _ ld h=>by cases h) ?_
  . exact XP _ none (Zw (f:=24) rfl) (0,Xb5) (by rw[show X8 none c24.body=[(0,Xb5)] from rfl]; exact List.mem_cons_self)
  intro vs ao m t hs rd k1 y w hw;unfold Zv at hs
  simp only at hs
  split at hs
  . cases hs
    replace hw:=YG hw;obtain⟨hp,hw⟩:=hw;rw[Bool.and_eq_true,Bool.and_eq_true,decide_eq_true_eq] at hp;obtain⟨h1,h2,h3⟩:=hp;have h1:=Nat.eq_of_beq_eq_true h1;subst h1;rw[Xeh] at hw;exact Xoy A 0 0 0 false _ _ _ [] [] _ _ _ _ _ _ _ _ _ _ _ _ h3 h2 hw
  . cases hs
    replace hw:=YG hw;obtain⟨hp,hw⟩:=hw;rw[Bool.and_eq_true,decide_eq_true_eq] at hp;rw[Xeh] at hw;exact Xmz A 0 0 0 false _ _ _ [] [] _ _ _ _ _ _ _ _ hp.2 hp.1 hw
  . cases hs
def outE (N:Nat)(q:List Ent)(n:Nat):RD:=.br (Nat.beq n 0) (.v (.rs N 0 0 0 2 true) [.r .ent [] false 41]) (.v (.rs N 0 n n 2 false) [.r .ent q true 41])
def outF (N:Nat)(q:List Ent):RD:=.v (.rs N 0 q.length q.length 2 true) [rowO q]
def anyP (a b:Txt)(l:List Msg):Bool:=decide (0<((inL a b l).length:Int))
def doP (a b:Txt)(l:List Msg)(q:List Ent):List Ent:=Xdv (inL a b l) q
def nd24 (full:List Msg)(j n:Nat)(full1:List Ent)(j1 n1:Nat)(a b:Txt):Bool:=okG full j n&&(YtkjjpmbpjfmbcaaGreatDoor.okN full1 j1 n1&&(chkB (YtkjjpmbpjfmbcaaGreatDoor.seg full1 j1 n1)&&decide (n<=60/\n1<=60/\a.length<=108/\b.length<=108)))
theorem Xcm (a b:Txt):∀ l:List Msg,(inL a b l).length<=l.length
  |[]=>Nat.le_refl _
  |m::r=>by
    have:=Xcm a b r
    have e:inL a b (m::r)=cond (XD m a b) (Xn m a b::inL a b r) (inL a b r):=rfl
    rw[e]
    cases XD m a b<;>simp only[cond_true,cond_false,List.length_cons]<;>omega
theorem Xon {q:List Ent}{a b:Txt}{l:List Msg} (hq:chkB q=true)(hl:l.length<=60)(hq2:q.length<=60)(ha:a.length<=108)(hb:b.length<=108):P24 q.length q (inL a b l).length (inL a b l) 0=true :=
  Xcx.2 ⟨⟨rfl,rfl,by omega,by omega,by have:=Xcm a b l; omega,by have:=Xcm a b l; omega⟩,hq,List.all_eq_true.2 (Xe5 ha hb l)⟩
theorem Xsw (A:FG)(j n c:Nat)(ex:Bool)(full:List Msg)(sp:Bool)(el:R.EL)(j1 n1 c1:Nat)(ex1:Bool)(full1:List Ent)(sp1:Bool)(el1:R.EL)(a b:Txt):Xw C.G C.O C.tab 24 221 [.r .msg full sp el,.r .ent full1 sp1 el1] [.rs 0 j n c 4 ex,.rs 1 j1 n1 c1 2 ex1,.str a,.str b] (.need (nd24 full j n full1 j1 n1 a b) (.br (anyP a b (seg full j n)) (outF 2 (doP a b (seg full j n) (YtkjjpmbpjfmbcaaGreatDoor.seg full1 j1 n1))) (outE 2 (YtkjjpmbpjfmbcaaGreatDoor.seg full1 j1 n1) n1))):=by
  refine Zc C (Y24 A) (lhX (Z6 P24 S24)) (s24 (lhX (Z6 P24 S24)) 2).cs rfl rfl (fun n hn=>WF (Q:=fun i b ld=>XQ C.G 2 (XF X4 C.O C.tab n) n 220 33 i b ld) rfl (Xpw A hn)) fun z hz=>?_
  obtain⟨hp,hz⟩:=R.XB hz;unfold nd24 at hp;rw[Bool.and_eq_true,Bool.and_eq_true,Bool.and_eq_true,decide_eq_true_eq] at hp;obtain⟨hg,hk,hc,p1,p2,p3,p4⟩:=hp;have hg':=Xbf.1 hg;have hk':=YtkjjpmbpjfmbcaaGreatDoor.okN_iff.1 hk;have hl:=seg_len hg'.1;have hl1:=YtkjjpmbpjfmbcaaGreatDoor.seg_len hk'.1;refine (ZG C (Y24 A) (s24 (lhX (Z6 P24 S24)) 2) (l:=[.rs 0 j n c 4 ex,.rs 1 j1 n1 c1 2 ex1,.str a,.str b]) (ao:=[.r .msg full sp el,.r .ent full1 sp1 el1]) rfl rfl).trans (Eq.trans ?_ hz);refine Xe C (Y24 A) (s24 (lhX (Z6 P24 S24)) 2) 0 rfl rfl (fun kk=>XuG A (lhX (Z6 P24 S24)) j n c ex full sp el j1 n1 c1 ex1 full1 sp1 el1 a b kk) ?_
  refine Xe C (Y24 A) (s24 (lhX (Z6 P24 S24)) 2) 1 rfl rfl (fun kk=>XuF A (lhX (Z6 P24 S24)) j n c ex full sp el j1 n1 c1 ex1 full1 sp1 el1 a b kk) ?_
  have two:∀ (L:Nat) (ax sa:Bool) (q:List Ent),L=q.length->q.length<=60->chkB q=true->(Yp C (Y24 A) (s24 (lhX (Z6 P24 S24)) 2) 2 (envZ [0,1,2,3] [.rs 0 j n c 4 ex,.rs 2 0 L L 2 ax,.str a,.str b]) (mkD [.r .msg full sp el,.r .ent full1 sp1 el1,.r .ent q sa 41] 2)).ev=(cond (anyP a b (seg full j n)) (some (.rs 2 0 (doP a b (seg full j n) q).length (doP a b (seg full j n) q).length 2 true,(mkD [.r .msg full sp el,.r .ent full1 sp1 el1,rowO (doP a b (seg full j n) q)] 2))) (some (.rs 2 0 L L 2 ax,(mkD [.r .msg full sp el,.r .ent full1 sp1 el1,.r .ent q sa 41] 2)))):=fun L ax sa q hL hq hcq=>by
    refine Xe C (Y24 A) (s24 (lhX (Z6 P24 S24)) 2) 2 rfl rfl (fun kk=>XrM A (lhX (Z6 P24 S24)) j n c ex full sp el j1 n1 c1 ex1 full1 sp1 el1 a b L ax sa q kk) ?_
    rw[hg,cond_true];refine Xe C (Y24 A) (s24 (lhX (Z6 P24 S24)) 2) 3 rfl rfl (fun kk=>XrL A P24 S24 j n c ex full sp el j1 n1 c1 ex1 full1 sp1 el1 a b L ax sa q (inL a b (seg full j n)) kk) ?_
    subst hL;rw[bl',cond_true,cT (show (inL a b (seg full j n)).length-0<Cuts.lev (s24 (lhX (Z6 P24 S24)) 2) by have:=Xcm a b (seg full j n); show _<220; omega),bq,dq,Xon hcq (by omega) hq p3 p4,Bool.and_self,Bool.and_self,cond_true]
    show cond (anyP a b (seg full j n)) _ _=_
    cases anyP a b (seg full j n) with
    |true=>exact XmN A (lhX (Z6 P24 S24)) j n c ex full sp el j1 n1 c1 ex1 full1 sp1 el1 a b _ _ _ _
    |false=>exact XmN A (lhX (Z6 P24 S24)) j n c ex full sp el j1 n1 c1 ex1 full1 sp1 el1 a b _ _ _ _
  rw[hk,cond_true]
  by_cases h0:n1=0
  . subst h0
    refine (two 0 true false [] rfl (Nat.zero_le _) rfl).trans ?_
    have e:YtkjjpmbpjfmbcaaGreatDoor.seg full1 j1 0=[]:=List.eq_nil_of_length_eq_zero hl1
    rw[e]
    cases anyP a b (seg full j n)<;>rfl
  . have e0:Nat.beq n1 0=false:=by
      cases h:Nat.beq n1 0 with
      |true=>exact absurd (Nat.eq_of_beq_eq_true h) h0
      |false=>rfl
    rw[e0,cond_false];refine (two n1 false true _ hl1.symm (by omega) hc).trans ?_
    show _=((RD.br (anyP a b (seg full j n)) (outF 2 (doP a b (seg full j n) (YtkjjpmbpjfmbcaaGreatDoor.seg full1 j1 n1))) (outE 2 (YtkjjpmbpjfmbcaaGreatDoor.seg full1 j1 n1) n1)).tree [.r .msg full sp el,.r .ent full1 sp1 el1] 2 okK).ev
    unfold outE;rw[e0]
    cases anyP a b (seg full j n)<;>rfl
theorem Xsu (A:FG)(j n c:Nat)(ex:Bool)(full:List Msg)(sp:Bool)(el:R.EL)(a b:Txt):Xw C.G C.O C.tab 24 221 [.r .msg full sp el] [.rs 0 j n c 4 ex,.nils,.str a,.str b] (.need (okG full j n&&decide (n<=60/\a.length<=108/\b.length<=108)) (.br (anyP a b (seg full j n)) (outF 1 (doP a b (seg full j n) [])) (.v .nils []))):=by
  refine Zc C (Y24 A) (lhX (Zv P24 S24)) (s24 (lhX (Zv P24 S24)) 1).cs rfl rfl (fun n hn=>WF (Q:=fun i b ld=>XQ C.G 1 (XF X4 C.O C.tab n) n 220 33 i b ld) rfl (Xpv A hn)) fun z hz=>?_
  obtain⟨hp,hz⟩:=R.XB hz;rw[Bool.and_eq_true,decide_eq_true_eq] at hp;obtain⟨hg,p1,p3,p4⟩:=hp;have hg':=Xbf.1 hg;have hl:=seg_len hg'.1;refine (ZG C (Y24 A) (s24 (lhX (Zv P24 S24)) 1) (l:=[.rs 0 j n c 4 ex,.nils,.str a,.str b]) (ao:=[.r .msg full sp el]) rfl rfl).trans (Eq.trans ?_ hz);refine Xe C (Y24 A) (s24 (lhX (Zv P24 S24)) 1) 0 rfl rfl (fun kk=>XuC A (lhX (Zv P24 S24)) j n c ex full sp el a b kk) ?_
  refine Xe C (Y24 A) (s24 (lhX (Zv P24 S24)) 1) 1 rfl rfl (fun kk=>XuB A (lhX (Zv P24 S24)) j n c ex full sp el a b kk) ?_
  refine Xe C (Y24 A) (s24 (lhX (Zv P24 S24)) 1) 2 rfl rfl (fun kk=>XrG A (lhX (Zv P24 S24)) j n c ex full sp el a b kk) ?_
  rw[hg,cond_true];refine Xe C (Y24 A) (s24 (lhX (Zv P24 S24)) 1) 3 rfl rfl (fun kk=>XrF A P24 S24 j n c ex full sp el a b (inL a b (seg full j n)) kk) ?_
  have hP:P24 0 [] (inL a b (seg full j n)).length (inL a b (seg full j n)) 0=true:=Xon (q:=[]) rfl (by omega) (Nat.zero_le _) p3 p4
  rw[bl',cond_true,cT (show (inL a b (seg full j n)).length-0<Cuts.lev (s24 (lhX (Zv P24 S24)) 1) by have:=Xcm a b (seg full j n); show _<220; omega),dq,hP,Bool.and_self,cond_true]
  show cond (anyP a b (seg full j n)) _ _=((RD.br (anyP a b (seg full j n)) (outF 1 (doP a b (seg full j n) [])) (.v .nils [])).tree [.r .msg full sp el] 1 okK).ev
  cases anyP a b (seg full j n) with
  |true=>exact XrC A (lhX (Zv P24 S24)) j n c ex full sp el a b _ _ _ _
  |false=>exact XrE A (lhX (Zv P24 S24)) j n c ex full sp el a b
theorem Xsv (A:FG)(j1 n1 c1:Nat)(ex1:Bool)(full1:List Ent)(sp1:Bool)(el1:R.EL)(a b:Txt):Xw C.G C.O C.tab 24 221 [.r .ent full1 sp1 el1] [.nils,.rs 0 j1 n1 c1 2 ex1,.str a,.str b] (.need (YtkjjpmbpjfmbcaaGreatDoor.okN full1 j1 n1) (outE 1 (YtkjjpmbpjfmbcaaGreatDoor.seg full1 j1 n1) n1)):=by
  refine Zc C (Y24 A) (fun _=>none) (s24 (fun _=>none) 1).cs rfl rfl (fun n hn p _ ld e=>by cases e) fun z hz=>?_
  obtain⟨hk,hz⟩:=R.XB hz;refine (ZG C (Y24 A) (s24 (fun _=>none) 1) (l:=[.nils,.rs 0 j1 n1 c1 2 ex1,.str a,.str b]) (ao:=[.r .ent full1 sp1 el1]) rfl rfl).trans (Eq.trans ?_ hz)
  refine Xe C (Y24 A) (s24 (fun _=>none) 1) 0 rfl rfl (fun kk=>XuE A (fun _=>none) j1 n1 c1 ex1 full1 sp1 el1 a b kk) ?_
  refine Xe C (Y24 A) (s24 (fun _=>none) 1) 1 rfl rfl (fun kk=>XuD A (fun _=>none) j1 n1 c1 ex1 full1 sp1 el1 a b kk) ?_
  have two:∀ (L:Nat) (ax sa:Bool) (q:List Ent),(Yp C (Y24 A) (s24 (fun _=>none) 1) 2 (envZ [0,1,2,3] [.nils,.rs 1 0 L L 2 ax,.str a,.str b]) (mkD [.r .ent full1 sp1 el1,.r .ent q sa 41] 1)).ev=some (.rs 1 0 L L 2 ax,(mkD [.r .ent full1 sp1 el1,.r .ent q sa 41] 1)):=fun L ax sa q=>by
    refine Xe C (Y24 A) (s24 (fun _=>none) 1) 2 rfl rfl (fun kk=>XrJ A (fun _=>none) j1 n1 c1 ex1 full1 sp1 el1 a b L ax sa q kk) ?_
    refine Xe C (Y24 A) (s24 (fun _=>none) 1) 3 rfl rfl (fun kk=>XrI A j1 n1 c1 ex1 full1 sp1 el1 a b L ax sa q kk) ?_
    exact XrH A (fun _=>none) j1 n1 c1 ex1 full1 sp1 el1 a b L ax sa q
  rw[hk,cond_true]
  by_cases h0:n1=0
  . subst h0
    refine (two 0 true false []).trans ?_
    rfl
  . have e0:Nat.beq n1 0=false:=by
      cases h:Nat.beq n1 0 with
      |true=>exact absurd (Nat.eq_of_beq_eq_true h) h0
      |false=>rfl
    rw[e0,cond_false];refine (two n1 false true _).trans ?_
    unfold outE;rw[e0];rfl
theorem Xst (A:FG)(a b:Txt):Xw C.G C.O C.tab 24 221 [] [.nils,.nils,.str a,.str b] (.v .nils []):=by
  refine Zc C (Y24 A) (fun _=>none) (s24 (fun _=>none) 0).cs rfl rfl (fun n hn p _ ld e=>by cases e) fun z hz=>?_
  refine (ZG C (Y24 A) (s24 (fun _=>none) 0) (l:=[.nils,.nils,.str a,.str b]) (ao:=[]) rfl rfl).trans (Eq.trans ?_ hz)
  refine Xe C (Y24 A) (s24 (fun _=>none) 0) 0 rfl rfl (fun kk=>XuA A (fun _=>none) a b kk) ?_
  refine Xe C (Y24 A) (s24 (fun _=>none) 0) 1 rfl rfl (fun kk=>Xu9 A (fun _=>none) a b kk) ?_
  refine Xe C (Y24 A) (s24 (fun _=>none) 0) 2 rfl rfl (fun kk=>XrA A (fun _=>none) a b kk) ?_
  refine Xe C (Y24 A) (s24 (fun _=>none) 0) 3 rfl rfl (fun kk=>Xr9 A a b kk) ?_
  exact Xr8 A (fun _=>none) a b
set_option maxRecDepth 10000
def Xjd:CC:=match X8 none c30.body with | [(_,b)]=>b | _=>.skip
abbrev P30T:=Nat->Nat->List Msg->Txt->Int->Bool
abbrev S30T:=List Msg->Txt->Txt->Bool->Int->Txt×Bool
def ld30 (P:P30T)(S:S30T):LoopD:=⟨[(1,none),(2,none),(3,none),(14,none),(15,none),(16,none)],[(2,none),(3,none)],[],fun vs ao=>match vs,ao with
  |[.str k,.str v,.bool th,.rs 0 j n c 4 ex,.int .i64 n',.int .i64 z],[.r .msg full sp el] =>
    some (n-z.toNat,.need (decide (n'=(n:Int))&&P j n full v z) (.exit 0 [.str (S (seg full j n) k v th z).1,.bool (S (seg full j n) k v th z).2] [.r .msg full sp el]))
  |_,_=>none⟩
def ce30 (n:Nat):List R.Hint:=match n with
  |0=>hn [0,1,2,3]
  |1=>hn [0,1,2,3]
  |_=>hn [2,3]
def s30 (lh:Nat->Option LoopD)(N:Nat):Cuts:=⟨lh,220,N,c30,[some (ce30 0),some (ce30 1),some (ce30 2)]⟩
theorem Xu8 (mf:MF)(h:mf=Xv)(lh:Nat->Option LoopD)(j n c:Nat)(ex:Bool)(full:List Msg)(sp:Bool)(el:R.EL)(k v:Txt)(th:Bool)(kk:R.EK):(Xg (CA mf h) Y0 (s30 lh 1) 0 (R.Yu [.rs 0 j n c 4 ex,.str k,.str v,.bool th] 0 .lf) (mkD [.r .msg full sp el] 1) (Xl 1 (ce30 0) kk)).ev =
    (kk (envZ [0,1,2,3] [DV.rs 0 j n c 4 ex,R.DV.str k,R.DV.str v,R.DV.bool th]) (mkD [DO.r RK.msg full sp el] 1)).ev:=by kernel_rfl
theorem Xu7 (mf:MF)(h:mf=Xv)(lh:Nat->Option LoopD)(j n c:Nat)(ex:Bool)(full:List Msg)(sp:Bool)(el:R.EL)(k v:Txt)(th:Bool)(kk:R.EK):(Xg (CA mf h) Y0 (s30 lh 1) 1 (envZ [0,1,2,3] [.rs 0 j n c 4 ex,.str k,.str v,.bool th]) (mkD [.r .msg full sp el] 1) (Xl 1 (ce30 1) kk)).ev =
    cond (!th) ((kk (envZ [0,1,2,3] [DV.rs 0 j n c 4 ex,R.DV.str k,R.DV.str [],R.DV.bool th]) (mkD [DO.r RK.msg full sp el] 1)).ev) ((kk (envZ [0,1,2,3] [DV.rs 0 j n c 4 ex,R.DV.str k,R.DV.str v,R.DV.bool th]) (mkD [DO.r RK.msg full sp el] 1)).ev):=by kernel_rfl
theorem Xu6 (mf:MF)(h:mf=Xv)(P:P30T)(S:S30T)(j n c:Nat)(ex:Bool)(full:List Msg)(sp:Bool)(el:R.EL)(k v:Txt)(th:Bool)(kk:R.EK):(Xg (CA mf h) Y0 (s30 (lhX (ld30 P S)) 1) 2 (envZ [0,1,2,3] [.rs 0 j n c 4 ex,.str k,.str v,.bool th]) (mkD [.r .msg full sp el] 1) (Xl 1 (ce30 2) kk)).ev =
    cond (decide (n-0<Cuts.lev (s30 (lhX (ld30 P S)) 1))) (cond (decide ((↑n:Int)=(↑n:Int))&&P j n full v 0) ((kk (envZ [2,3] [R.DV.str (Prod.fst (S (seg full j n) k v th 0)),R.DV.bool (Prod.snd (S (seg full j n) k v th 0))]) (mkD [DO.r RK.msg full sp el] 1)).ev) none) none:=by kernel_rfl
theorem Xu5 (mf:MF)(h:mf=Xv)(lh:Nat->Option LoopD)(j n c:Nat)(ex:Bool)(full:List Msg)(sp:Bool)(el:R.EL)(k v:Txt)(th:Bool)  : (Yp (CA mf h) Y0 (s30 lh 1) 3 (envZ [2,3] [.str v,.bool th]) (mkD [.r .msg full sp el] 1)).ev =
    some (R.DV.tup [R.DV.str v,R.DV.bool th],(mkD [DO.r RK.msg full sp el] 1)):=by kernel_rfl
theorem Xu4 (mf:MF)(h:mf=Xv)(P:P30T)(S:S30T)(j n c:Nat)(ex:Bool)(full:List Msg)(sp:Bool)(el:R.EL)(k v:Txt)(th:Bool)(n' z:Int)(m:Nat)(rd k1:R.EK)(y:List (Nat×R.EK)):(YR (CA mf h) Y0 (fun _=>none) 220 31 1 0 Xjd (ld30 P S) m [.str k,.str v,.bool th,.rs 0 j n c 4 ex,.int .i64 n',.int .i64 z] [.r .msg full sp el] rd k1 y).ev =
    cond (decide (z<n')) (cond (decide (0<=z)&&decide (Int.toNat z<n)) (cond (Nat.blt (j+Int.toNat z) full.length) (cond (decide (List.length v<4611686018427387904)) (cond (decide (n-Int.toNat (IntKind.wrap .i64 (z+1))<m)) (cond (decide (n'=(↑n:Int))&&P j n full (Prod.fst (mf (Prod.fst (rec full j z)) (Prod.fst (Prod.snd (rec full j z))) (Prod.fst (Prod.snd (Prod.snd (rec full j z)))) (Prod.snd (Prod.snd (Prod.snd (rec full j z)))) k v th)) (IntKind.wrap .i64 (z+1))) ((k1 (envZ [2,3] [R.DV.str (Prod.fst (S (seg full j n) k (Prod.fst (mf (Prod.fst (rec full j z)) (Prod.fst (Prod.snd (rec full j z))) (Prod.fst (Prod.snd (Prod.snd (rec full j z)))) (Prod.snd (Prod.snd (Prod.snd (rec full j z)))) k v th)) (Prod.snd (mf (Prod.fst (rec full j z)) (Prod.fst (Prod.snd (rec full j z))) (Prod.fst (Prod.snd (Prod.snd (rec full j z)))) (Prod.snd (Prod.snd (Prod.snd (rec full j z)))) k v th)) (IntKind.wrap .i64 (z+1)))),R.DV.bool (Prod.snd (S (seg full j n) k (Prod.fst (mf (Prod.fst (rec full j z)) (Prod.fst (Prod.snd (rec full j z))) (Prod.fst (Prod.snd (Prod.snd (rec full j z)))) (Prod.snd (Prod.snd (Prod.snd (rec full j z)))) k v th)) (Prod.snd (mf (Prod.fst (rec full j z)) (Prod.fst (Prod.snd (rec full j z))) (Prod.fst (Prod.snd (Prod.snd (rec full j z)))) (Prod.snd (Prod.snd (Prod.snd (rec full j z)))) k v th)) (IntKind.wrap .i64 (z+1))))]) (mkD [DO.r RK.msg full sp el] 1)).ev) none) none) none) none) none) ((k1 (envZ [2,3] [R.DV.str v,R.DV.bool th]) (mkD [DO.r RK.msg full sp el] 1)).ev):=by kernel_rfl
theorem Xu3 (mf:MF)(h:mf=Xv)(lh:Nat->Option LoopD)(k v:Txt)(th:Bool)(kk:R.EK):(Xg (CA mf h) Y0 (s30 lh 0) 0 (R.Yu [.nils,.str k,.str v,.bool th] 0 .lf) (mkD [] 0) (Xl 0 (ce30 0) kk)).ev =
    (kk (envZ [0,1,2,3] [R.DV.nils,R.DV.str k,R.DV.str v,R.DV.bool th]) (mkD [] 0)).ev:=by kernel_rfl
theorem Xu2 (mf:MF)(h:mf=Xv)(lh:Nat->Option LoopD)(k v:Txt)(th:Bool)(kk:R.EK):(Xg (CA mf h) Y0 (s30 lh 0) 1 (envZ [0,1,2,3] [.nils,.str k,.str v,.bool th]) (mkD [] 0) (Xl 0 (ce30 1) kk)).ev =
    cond (!th) ((kk (envZ [0,1,2,3] [R.DV.nils,R.DV.str k,R.DV.str [],R.DV.bool th]) (mkD [] 0)).ev) ((kk (envZ [0,1,2,3] [R.DV.nils,R.DV.str k,R.DV.str v,R.DV.bool th]) (mkD [] 0)).ev):=by kernel_rfl
theorem Xq0 (mf:MF)(h:mf=Xv)(k v:Txt)(th:Bool)(kk:R.EK):(Xg (CA mf h) Y0 (s30 (fun _=>none) 0) 2 (envZ [0,1,2,3] [.nils,.str k,.str v,.bool th]) (mkD [] 0) (Xl 0 (ce30 2) kk)).ev =
    (kk (envZ [2,3] [R.DV.str v,R.DV.bool th]) (mkD [] 0)).ev:=by kernel_rfl
theorem Xqz (mf:MF)(h:mf=Xv)(lh:Nat->Option LoopD)(k v:Txt)(th:Bool)  : (Yp (CA mf h) Y0 (s30 lh 0) 3 (envZ [2,3] [.str v,.bool th]) (mkD [] 0)).ev =
    some (R.DV.tup [R.DV.str v,R.DV.bool th],(mkD [] 0)):=by kernel_rfl
theorem XrV {op:Int}{k t w x v:Txt}{th:Bool} (hl:v.length<=64):(Xv op k t w x v th).1.length<=64:=by
  have hc:(cond th v []).length<=64:=by cases th with | true=>exact hl | false=>exact Nat.zero_le _
  unfold Xv
  cases ht:Yw op k t w x with
  |false=>exact hc
  |true =>
    rw[cond_true];unfold Xf0
    by_cases h1:op=1
    . subst h1
      show w.length<=64
      refine XjZ (k:=k) (Xk9 (t:=t) ?_);unfold Yw at ht
      cases hm:mayB 1 k t w with
      |true=>rfl
      |false=>rw[hm] at ht; cases ht
    . rw[decide_eq_false h1,cond_false]
      cases decide (op=4) with
      |true=>exact Xgt k w _ th hc
      |false=>exact Nat.zero_le _
def P30:P30T:=fun j n full v z=>okG full j n&&decide (0<=z/\z<=n/\v.length<=64)
theorem Xib {j n:Nat}{full:List Msg}{v:Txt}{z:Int}:P30 j n full v z=true<->(j+n<=full.length/\n<199)/\0<=z/\z<=n/\v.length<=64:=by
  unfold P30;rw[Bool.and_eq_true,Xbf,decide_eq_true_eq]
def S30:S30T:=fun l k v th z=>foldV k (l.drop z.toNat) (v,th)
theorem Xrn (mf:MF)(h:mf=Xv)(j n c:Nat)(ex:Bool)(full:List Msg)(sp:Bool)(el:R.EL)(k v:Txt)(th:Bool)(n' z:Int)(rd k1:R.EK)(y:List (Nat×R.EK))(w:R.DV×R.DH)
    (hw:((LT.need (decide (n'=(n:Int))&&P30 j n full v z) (.exit 0 [.str (S30 (seg full j n) k v th z).1,.bool (S30 (seg full j n) k v th z).2] [.r .msg full sp el])).tree 1 (ld30 P30 S30) rd ((0,k1)::y)).ev=some w) :
    (YR (CA mf h) Y0 (fun _=>none) 220 31 1 0 Xjd (ld30 P30 S30) (n-z.toNat) [.str k,.str v,.bool th,.rs 0 j n c 4 ex,.int .i64 n',.int .i64 z] [.r .msg full sp el] rd k1 y).ev=some w:=by
  replace hw:=YG hw;obtain⟨hp,hw⟩:=hw;rw[Bool.and_eq_true,decide_eq_true_eq] at hp;obtain⟨rfl,hp⟩:=hp;have hP:=Xib.1 hp;obtain⟨⟨p1,p2⟩,p3,p4,p5⟩:=hP;replace hw:(k1 (envZ [2,3] [.str (S30 (seg full j n) k v th z).1,.bool (S30 (seg full j n) k v th z).2]) (mkD [.r .msg full sp el] 1)).ev=some w:=hw;rw[Xu4]
  by_cases h1:z<n
  . have hl:(mf (rec full j z).1 (rec full j z).2.1 (rec full j z).2.2.1 (rec full j z).2.2.2 k v th).1.length<=64:=by rw[h]; exact XrV p5
    have hS:S30 (seg full j n) k v th z=S30 (seg full j n) k (mf (rec full j z).1 (rec full j z).2.1 (rec full j z).2.2.1 (rec full j z).2.2.2 k v th).1 (mf (rec full j z).1 (rec full j z).2.1 (rec full j z).2.2.1 (rec full j z).2.2.2 k v th).2 (z+1):=by
      unfold S30;rw[Xev p1 p3 h1,h];rfl
    rw[cT h1,Xc0 p3 h1 (by omega),cA p3 (show z.toNat<n by omega),cB (show j+z.toNat<full.length by omega),cT (show v.length<4611686018427387904 by omega),cT (show n-(z+1).toNat<n-z.toNat by omega),
      Xib.2 ⟨⟨p1,p2⟩,by omega,by omega,hl⟩,decide_eq_true (show (n:Int)=n from rfl),Bool.and_self,cond_true,← hS]
    exact hw
  . rw[cF h1]
    have hS:S30 (seg full j n) k v th z=(v,th):=by
      unfold S30;rw[Xas p1 h1 p3]; rfl
    rw[hS] at hw;exact hw
theorem XrZ (mf:MF)(h:mf=Xv) {n:Nat} (hn:220<=n):XQ C.G 1 (XF X4 C.O C.tab n) n 220 31 0 Xjd (ld30 P30 S30):=by
  refine ZJ (CA mf h) Y0 (lh:=fun _=>none) hn ?_ (fun p _ ld h=>by cases h) ?_
  . exact XP _ none (Zw (f:=30) rfl) (0,Xjd) (by rw[show X8 none c30.body=[(0,Xjd)] from rfl]; exact List.mem_cons_self)
  intro vs ao m t hs rd k1 y w hw;unfold ld30 at hs
  simp only at hs
  split at hs
  case h_2=>cases hs
  cases hs;exact Xrn mf h _ _ _ _ _ _ _ _ _ _ _ _ _ _ _ _ hw
def XuI (full:List Msg)(j n:Nat)(k v:Txt)(th:Bool):RD:=.need (okG full j n&&decide (v.length<=64)) (.v (.tup [.str (foldV k (seg full j n) (cond th v [],th)).1,.bool (foldV k (seg full j n) (cond th v [],th)).2]) [])
theorem nz {α:Type}{a:α}{n:Nat} (h:n<199) {b:α}:cond (decide (n-0<220)) a b=a:=cT (by omega)
theorem Xsq (mf:MF)(h:mf=Xv)(j n c:Nat)(ex:Bool)(full:List Msg)(sp:Bool)(el:R.EL)(k v:Txt)(th:Bool):Xw C.G C.O C.tab 30 221 [.r .msg full sp el] [.rs 0 j n c 4 ex,.str k,.str v,.bool th] (XuI full j n k v th):=by
  refine Zc (CA mf h) Y0 (lhX (ld30 P30 S30)) (s30 (lhX (ld30 P30 S30)) 1).cs rfl rfl (fun n hn=>WF (Q:=fun i b ld=>XQ C.G 1 (XF X4 C.O C.tab n) n 220 31 i b ld) rfl (XrZ mf h hn)) fun z hz=>?_
  obtain⟨hp,hz⟩:=R.XB hz;rw[Bool.and_eq_true,Xbf,decide_eq_true_eq] at hp;obtain⟨⟨p1,p2⟩,p3⟩:=hp
  have e2:∀ v':Txt,v'.length<=64->(decide ((n:Int)=n)&&P30 j n full v' 0)=true:=fun v' hv'=>by
    rw[Xib.2 ⟨⟨p1,p2⟩,by omega,by omega,hv'⟩,decide_eq_true rfl]; rfl
  refine (ZG (CA mf h) Y0 (s30 (lhX (ld30 P30 S30)) 1) (l:=[.rs 0 j n c 4 ex,.str k,.str v,.bool th]) (ao:=[.r .msg full sp el]) rfl rfl).trans (Eq.trans ?_ hz);refine Xe (CA mf h) Y0 (s30 (lhX (ld30 P30 S30)) 1) 0 rfl rfl (fun kk=>Xu8 mf h _ j n c ex full sp el k v th kk) ?_
  refine Xe (CA mf h) Y0 (s30 (lhX (ld30 P30 S30)) 1) 1 rfl rfl (fun kk=>Xu7 mf h _ j n c ex full sp el k v th kk) ?_
  have two:∀ v':Txt,v'.length<=64->(Yp (CA mf h) Y0 (s30 (lhX (ld30 P30 S30)) 1) 2 (envZ [0,1,2,3] [.rs 0 j n c 4 ex,.str k,.str v',.bool th]) (mkD [.r .msg full sp el] 1)).ev=some (.tup [.str (foldV k (seg full j n) (v',th)).1,.bool (foldV k (seg full j n) (v',th)).2],mkD [.r .msg full sp el] 1):=fun v' hv'=>by
    refine Xe (CA mf h) Y0 (s30 (lhX (ld30 P30 S30)) 1) 2 rfl rfl (fun kk=>Xu6 mf h P30 S30 j n c ex full sp el k v' th kk) ?_
    rw[e2 v' hv',cT (show n-0<Cuts.lev (s30 (lhX (ld30 P30 S30)) 1) by show n-0<220; omega),cond_true]
    exact Xu5 mf h _ j n c ex full sp el k _ _
  cases th with
  |true=>exact two v p3
  |false=>exact two [] (Nat.zero_le _)
theorem Xsp (mf:MF)(h:mf=Xv)(k v:Txt)(th:Bool):Xw C.G C.O C.tab 30 221 [] [.nils,.str k,.str v,.bool th] (.v (.tup [.str (cond th v []),.bool th]) []):=by
  refine Zc (CA mf h) Y0 (fun _=>none) (s30 (fun _=>none) 0).cs rfl rfl (fun n hn p _ ld e=>by cases e) fun z hz=>?_
  refine (ZG (CA mf h) Y0 (s30 (fun _=>none) 0) (l:=[.nils,.str k,.str v,.bool th]) (ao:=[]) rfl rfl).trans (Eq.trans ?_ hz)
  refine Xe (CA mf h) Y0 (s30 (fun _=>none) 0) 0 rfl rfl (fun kk=>Xu3 mf h _ k v th kk) ?_
  refine Xe (CA mf h) Y0 (s30 (fun _=>none) 0) 1 rfl rfl (fun kk=>Xu2 mf h _ k v th kk) ?_
  cases th with
  |true =>
    refine Xe (CA mf h) Y0 (s30 (fun _=>none) 0) 2 rfl rfl (fun kk=>Xq0 mf h k v true kk) ?_
    exact Xqz mf h _ k v true
  |false =>
    refine Xe (CA mf h) Y0 (s30 (fun _=>none) 0) 2 rfl rfl (fun kk=>Xq0 mf h k [] false kk) ?_
    exact Xqz mf h _ k [] false
set_option maxRecDepth 10000
structure FM where
  mf:MF
  h:mf=Xv
  dp:Txt->Txt->List Msg->List Ent->List Ent
  hd:dp=doP
  ap:Txt->Txt->List Msg->Bool
  ha:ap=anyP
  fv:Txt->List Msg->Txt×Bool->Txt×Bool
  hf:fv=foldV
def AG:FG:=⟨alL,rfl,ndL,rfl⟩
def gM14:List R.DV->List R.DO->Option RD:=fun l ao=>match l,ao with
  |[.rs 0 j n c 4 ex],[.r .msg full sp el]=>some (Xq7 full j n)
  |[.nils],[]=>some (.v (.bool true) [])
  |_,_=>none
theorem XpE (l:List R.DV)(ao:List R.DO)(out:RD)(h:gM14 l ao=some out):Xw C.G C.O C.tab 14 201 ao l out:=by
  unfold gM14 at h;split at h
  . cases h; exact Xvm _ _ _ _ _ _ _
  . cases h; exact Xs3
  . cases h
def gM23:List R.DV->List R.DO->Option RD:=fun l ao=>match l,ao with
  |[.rs 0 j n c 2 ex],[.r .ent full sp el]=>some (Xq5 full j n)
  |[.nils],[]=>some (.v (.bool true) [])
  |_,_=>none
theorem XpD (l:List R.DV)(ao:List R.DO)(out:RD)(h:gM23 l ao=some out):Xw C.G C.O C.tab 23 201 ao l out:=by
  unfold gM23 at h;split at h
  . cases h; exact Xvj _ _ _ _ _ _ _
  . cases h; exact Xsx
  . cases h
def gM27:List R.DV->List R.DO->Option RD:=fun l ao=>match l,ao with
  |[.rs 0 j n c 2 ex],[.r .ent full sp el]=>some (XmP full j n)
  |[.nils],[]=>some (.v (.int .i64 0) [])
  |_,_=>none
theorem XpB (l:List R.DV)(ao:List R.DO)(out:RD)(h:gM27 l ao=some out):Xw C.G C.O C.tab 27 201 ao l out:=by
  unfold gM27 at h;split at h
  . cases h; exact XqB _ _ _ _ _ _ _
  . cases h; exact Xss
  . cases h
def gM28:List R.DV->List R.DO->Option RD:=fun l ao=>match l,ao with
  |[.rs 0 j n c 2 ex,.str k],[.r .ent full sp el]=>some (Xq6 full j n k)
  |[.nils,.str k],[]=>some (.v (.tup [.str [],.bool false]) [])
  |_,_=>none
theorem XpA (l:List R.DV)(ao:List R.DO)(out:RD)(h:gM28 l ao=some out):Xw C.G C.O C.tab 28 211 ao l out:=by
  unfold gM28 at h;split at h
  . cases h; exact Xvi _ _ _ _ _ _ _ _
  . cases h; exact Xsr _
  . cases h
def gM24 (F:FM):List R.DV->List R.DO->Option RD:=fun l ao=>match l,ao with
  |[.rs 0 j n c 4 ex,.rs 1 j1 n1 c1 2 ex1,.str a,.str b],[.r .msg full sp el,.r .ent full1 sp1 el1]=>some (.need (nd24 full j n full1 j1 n1 a b) (.br (F.ap a b (seg full j n)) (outF 2 (F.dp a b (seg full j n) (YtkjjpmbpjfmbcaaGreatDoor.seg full1 j1 n1))) (outE 2 (YtkjjpmbpjfmbcaaGreatDoor.seg full1 j1 n1) n1)))
  |[.rs 0 j n c 4 ex,.nils,.str a,.str b],[.r .msg full sp el]=>some (.need (okG full j n&&decide (n<=60/\a.length<=108/\b.length<=108)) (.br (F.ap a b (seg full j n)) (outF 1 (F.dp a b (seg full j n) [])) (.v .nils [])))
  |[.nils,.rs 0 j1 n1 c1 2 ex1,.str a,.str b],[.r .ent full1 sp1 el1]=>some (.need (YtkjjpmbpjfmbcaaGreatDoor.okN full1 j1 n1) (outE 1 (YtkjjpmbpjfmbcaaGreatDoor.seg full1 j1 n1) n1))
  |[.nils,.nils,.str a,.str b],[]=>some (.v .nils [])
  |_,_=>none
theorem XpC (F:FM)(l:List R.DV)(ao:List R.DO)(out:RD)(h:gM24 F l ao=some out):Xw C.G C.O C.tab 24 221 ao l out:=by
  unfold gM24 at h;rw[F.ha,F.hd] at h;split at h
  . cases h; exact Xsw AG _ _ _ _ _ _ _ _ _ _ _ _ _ _ _ _
  . cases h; exact Xsu AG _ _ _ _ _ _ _ _ _
  . cases h; exact Xsv AG _ _ _ _ _ _ _ _ _
  . cases h; exact Xst AG _ _
  . cases h
def gM30 (F:FM):List R.DV->List R.DO->Option RD:=fun l ao=>match l,ao with
  |[.rs 0 j n c 4 ex,.str k,.str v,.bool th],[.r .msg full sp el]=>some (.need (okG full j n&&decide (v.length<=64)) (.v (.tup [.str (F.fv k (seg full j n) (cond th v [],th)).1,.bool (F.fv k (seg full j n) (cond th v [],th)).2]) []))
  |[.nils,.str k,.str v,.bool th],[]=>some (.v (.tup [.str (cond th v []),.bool th]) [])
  |_,_=>none
theorem Xp9 (F:FM)(l:List R.DV)(ao:List R.DO)(out:RD)(h:gM30 F l ao=some out):Xw C.G C.O C.tab 30 221 ao l out:=by
  unfold gM30 at h;rw[F.hf] at h;split at h
  . cases h; exact Xsq Xv rfl _ _ _ _ _ _ _ _ _ _
  . cases h; exact Xsp Xv rfl _ _ _
  . cases h
def YM (F:FM):C.RL:=(((((Y0.add 14 201 gM14 XpE).add 23 201 gM23 XpD).add 27 201 gM27 XpB).add 28 211 gM28 XpA).add 24 221 (gM24 F) (XpC F)).add 30 221 (gM30 F) (Xp9 F)
def ce6 (n:Nat):List R.Hint:=match n with
  |0=>hn [0,1,5]
  |1=>hn [0,1,5]
  |2=>hn [0,1,5]
  |3=>hn [0,1,5,7]
  |4=>hn [0,5,7,8,9]
  |5=>hn [0,5,7,8,9,10,11]
  |6=>hn [0,5,7,8,9,10,11]
  |_=>hn [7,10,11,12,13]
def s6 (N:Nat):Cuts:=⟨fun _=>none,230,N,c6,[some (ce6 0),some (ce6 1),some (ce6 2),some (ce6 3),some (ce6 4),some (ce6 5),some (ce6 6),some (ce6 7)]⟩
theorem p6b0 (F:FM)(j n c:Nat)(ex:Bool)(full:List Msg)(sp:Bool)(el:R.EL)(j1 n1 c1:Nat)(ex1:Bool)(full1:List Ent)(sp1:Bool)(el1:R.EL)(a b k v:Txt)(th:Bool)(kk:R.EK):(Xg (CA F.mf F.h) (YM F) (s6 2) 0 (R.Yu [.rs 0 j n c 4 ex,.rs 1 j1 n1 c1 2 ex1,.agg [.str a,.str b,.str k,.str v,.bool th]] 0 .lf) (mkD [.r .msg full sp el,.r .ent full1 sp1 el1] 2) (Xl 2 (ce6 0) kk)).ev =
    (kk (envZ [0,1,5] [DV.rs 0 j n c 4 ex,DV.rs 1 j1 n1 c1 2 ex1,R.DV.ptr 2 0]) (mkD [DO.r RK.msg full sp el,DO.r RK.ent full1 sp1 el1,R.DO.c [R.DV.str a,R.DV.str b,R.DV.str k,R.DV.str v,R.DV.bool th] false 24] 2)).ev:=by kernel_rfl
theorem p6b1 (F:FM)(j n c:Nat)(ex:Bool)(full:List Msg)(sp:Bool)(el:R.EL)(j1 n1 c1:Nat)(ex1:Bool)(full1:List Ent)(sp1:Bool)(el1:R.EL)(a b k v:Txt)(th:Bool)(kk:R.EK):(Xg (CA F.mf F.h) (YM F) (s6 2) 1 (envZ [0,1,5] [.rs 0 j n c 4 ex,.rs 1 j1 n1 c1 2 ex1,.ptr 2 0]) (mkD [.r .msg full sp el,.r .ent full1 sp1 el1,.c [.str a,.str b,.str k,.str v,.bool th] false 24] 2) (Xl 2 (ce6 1) kk)).ev =
    cond (okS full j n 0) (cond (!fewL (seg full j n)) (some (R.DV.bool true,(mkD [DO.r RK.msg full sp el,DO.r RK.ent full1 sp1 el1] 2))) (cond (YtkjjpmbpjfmbcaaGreatDoor.okS full1 j1 n1 0) (cond (!YtkjjpmbpjfmbcaaGreatDoor.fewL (YtkjjpmbpjfmbcaaGreatDoor.seg full1 j1 n1)) (some (R.DV.bool true,(mkD [DO.r RK.msg full sp el,DO.r RK.ent full1 sp1 el1] 2))) (cond (decide ((↑a.length:Int)<=300)) (cond (decide ((↑b.length:Int)<=300)) (cond (decide ((↑k.length:Int)<=300)) (cond (!decide ((↑v.length:Int)<=300)) (some (R.DV.bool true,(mkD [DO.r RK.msg full sp el,DO.r RK.ent full1 sp1 el1] 2))) (cond (decide (108<(↑a.length:Int))) (some (R.DV.bool true,(mkD [DO.r RK.msg full sp el,DO.r RK.ent full1 sp1 el1] 2))) (cond (decide (108<(↑b.length:Int))) (some (R.DV.bool true,(mkD [DO.r RK.msg full sp el,DO.r RK.ent full1 sp1 el1] 2))) (cond (YtkjjpmbpjfmbcaaGreatDoor.okN full1 j1 n1) (cond (chkB (YtkjjpmbpjfmbcaaGreatDoor.seg full1 j1 n1)) ((kk (envZ [0,1,5] [DV.rs 0 j n c 4 ex,DV.rs 1 j1 n1 c1 2 ex1,R.DV.ptr 2 0]) (mkD [DO.r RK.msg full sp el,DO.r RK.ent full1 sp1 el1,R.DO.c [R.DV.str a,R.DV.str b,R.DV.str k,R.DV.str v,R.DV.bool th] false 24] 2)).ev) (some (R.DV.bool true,(mkD [DO.r RK.msg full sp el,DO.r RK.ent full1 sp1 el1] 2)))) none)))) (some (R.DV.bool true,(mkD [DO.r RK.msg full sp el,DO.r RK.ent full1 sp1 el1] 2)))) (some (R.DV.bool true,(mkD [DO.r RK.msg full sp el,DO.r RK.ent full1 sp1 el1] 2)))) (some (R.DV.bool true,(mkD [DO.r RK.msg full sp el,DO.r RK.ent full1 sp1 el1] 2))))) none)) none:=by kernel_rfl
theorem p6b2 (F:FM)(j n c:Nat)(ex:Bool)(full:List Msg)(sp:Bool)(el:R.EL)(j1 n1 c1:Nat)(ex1:Bool)(full1:List Ent)(sp1:Bool)(el1:R.EL)(a b k v:Txt)(th:Bool)(kk:R.EK):(Xg (CA F.mf F.h) (YM F) (s6 2) 2 (envZ [0,1,5] [.rs 0 j n c 4 ex,.rs 1 j1 n1 c1 2 ex1,.ptr 2 0]) (mkD [.r .msg full sp el,.r .ent full1 sp1 el1,.c [.str a,.str b,.str k,.str v,.bool th] false 24] 2) (Xl 2 (ce6 2) kk)).ev =
    cond (!decide (a=[])) (cond (!decide (b=[])) (cond (Op.bytesLess b a) (some (R.DV.bool true,(mkD [DO.r RK.msg full sp el,DO.r RK.ent full1 sp1 el1] 2))) ((kk (envZ [0,1,5] [DV.rs 0 j n c 4 ex,DV.rs 1 j1 n1 c1 2 ex1,R.DV.ptr 2 0]) (mkD [DO.r RK.msg full sp el,DO.r RK.ent full1 sp1 el1,R.DO.c [R.DV.str a,R.DV.str b,R.DV.str k,R.DV.str v,R.DV.bool th] false 24] 2)).ev)) ((kk (envZ [0,1,5] [DV.rs 0 j n c 4 ex,DV.rs 1 j1 n1 c1 2 ex1,R.DV.ptr 2 0]) (mkD [DO.r RK.msg full sp el,DO.r RK.ent full1 sp1 el1,R.DO.c [R.DV.str a,R.DV.str b,R.DV.str k,R.DV.str v,R.DV.bool th] false 24] 2)).ev)) ((kk (envZ [0,1,5] [DV.rs 0 j n c 4 ex,DV.rs 1 j1 n1 c1 2 ex1,R.DV.ptr 2 0]) (mkD [DO.r RK.msg full sp el,DO.r RK.ent full1 sp1 el1,R.DO.c [R.DV.str a,R.DV.str b,R.DV.str k,R.DV.str v,R.DV.bool th] false 24] 2)).ev):=by kernel_rfl
theorem p6b3 (F:FM)(j n c:Nat)(ex:Bool)(full:List Msg)(sp:Bool)(el:R.EL)(j1 n1 c1:Nat)(ex1:Bool)(full1:List Ent)(sp1:Bool)(el1:R.EL)(a b k v:Txt)(th:Bool)(kk:R.EK):(Xg (CA F.mf F.h) (YM F) (s6 2) 3 (envZ [0,1,5] [.rs 0 j n c 4 ex,.rs 1 j1 n1 c1 2 ex1,.ptr 2 0]) (mkD [.r .msg full sp el,.r .ent full1 sp1 el1,.c [.str a,.str b,.str k,.str v,.bool th] false 24] 2) (Xl 2 (ce6 3) kk)).ev =
    cond (nd24 full j n full1 j1 n1 a b) (cond (FM.ap F a b (seg full j n)) ((kk (envZ [0,1,5,7] [DV.rs 0 j n c 4 ex,DV.rs 1 j1 n1 c1 2 ex1,R.DV.ptr 2 0,DV.rs 3 0 (List.length (FM.dp F a b (seg full j n) (YtkjjpmbpjfmbcaaGreatDoor.seg full1 j1 n1))) (List.length (FM.dp F a b (seg full j n) (YtkjjpmbpjfmbcaaGreatDoor.seg full1 j1 n1))) 2 true]) (mkD [DO.r RK.msg full sp el,DO.r RK.ent full1 sp1 el1,R.DO.c [R.DV.str a,R.DV.str b,R.DV.str k,R.DV.str v,R.DV.bool th] false 24,DO.r RK.ent (FM.dp F a b (seg full j n) (YtkjjpmbpjfmbcaaGreatDoor.seg full1 j1 n1)) false { e:=41,z:=0 }] 2)).ev) (cond (Nat.beq n1 0) ((kk (envZ [0,1,5,7] [DV.rs 0 j n c 4 ex,DV.rs 1 j1 n1 c1 2 ex1,R.DV.ptr 2 0,DV.rs 3 0 0 0 2 true]) (mkD [DO.r RK.msg full sp el,DO.r RK.ent full1 sp1 el1,R.DO.c [R.DV.str a,R.DV.str b,R.DV.str k,R.DV.str v,R.DV.bool th] false 24,DO.r RK.ent [] false 41] 2)).ev) ((kk (envZ [0,1,5,7] [DV.rs 0 j n c 4 ex,DV.rs 1 j1 n1 c1 2 ex1,R.DV.ptr 2 0,DV.rs 3 0 n1 n1 2 false]) (mkD [DO.r RK.msg full sp el,DO.r RK.ent full1 sp1 el1,R.DO.c [R.DV.str a,R.DV.str b,R.DV.str k,R.DV.str v,R.DV.bool th] false 24,DO.r RK.ent (YtkjjpmbpjfmbcaaGreatDoor.seg full1 j1 n1) true 41] 2)).ev))) none:=by kernel_rfl
theorem Xuj (F:FM)(j n c:Nat)(ex:Bool)(full:List Msg)(sp:Bool)(el:R.EL)(j1 n1 c1:Nat)(ex1:Bool)(full1:List Ent)(sp1:Bool)(el1:R.EL)(a b k v:Txt)(th:Bool)(L:Nat)(ax sa:Bool)(q:List Ent)(kk:R.EK):(Xg (CA F.mf F.h) (YM F) (s6 2) 4 (envZ [0,1,5,7] [.rs 0 j n c 4 ex,.rs 1 j1 n1 c1 2 ex1,.ptr 2 0,.rs 3 0 L L 2 ax]) (mkD [.r .msg full sp el,.r .ent full1 sp1 el1,.c [.str a,.str b,.str k,.str v,.bool th] false 24,.r .ent q sa 41] 2) (Xl 2 (ce6 4) kk)).ev =
    cond (YtkjjpmbpjfmbcaaGreatDoor.okN full1 j1 n1) ((kk (envZ [0,5,7,8,9] [DV.rs 0 j n c 4 ex,R.DV.ptr 2 0,DV.rs 3 0 L L 2 ax,R.DV.str (Prod.fst (getK k (YtkjjpmbpjfmbcaaGreatDoor.seg full1 j1 n1))),R.DV.bool (Prod.snd (getK k (YtkjjpmbpjfmbcaaGreatDoor.seg full1 j1 n1)))]) (mkD [DO.r RK.msg full sp el,DO.r RK.ent full1 sp1 el1,R.DO.c [R.DV.str a,R.DV.str b,R.DV.str k,R.DV.str v,R.DV.bool th] false 24,DO.r RK.ent q sa 41] 2)).ev) none:=by kernel_rfl
theorem Xui (F:FM)(j n c:Nat)(ex:Bool)(full:List Msg)(sp:Bool)(el:R.EL)(j1 n1 c1:Nat)(ex1:Bool)(full1:List Ent)(sp1:Bool)(el1:R.EL)(a b k v:Txt)(th:Bool)(L:Nat)(ax sa:Bool)(q:List Ent)(w:Txt)(t:Bool)(kk:R.EK):(Xg (CA F.mf F.h) (YM F) (s6 2) 5 (envZ [0,5,7,8,9] [.rs 0 j n c 4 ex,.ptr 2 0,.rs 3 0 L L 2 ax,.str w,.bool t]) (mkD [.r .msg full sp el,.r .ent full1 sp1 el1,.c [.str a,.str b,.str k,.str v,.bool th] false 24,.r .ent q sa 41] 2) (Xl 2 (ce6 5) kk)).ev =
    cond (YtkjjpmbpjfmbcaaGreatDoor.okN q 0 L) ((kk (envZ [0,5,7,8,9,10,11] [DV.rs 0 j n c 4 ex,R.DV.ptr 2 0,DV.rs 3 0 L L 2 ax,R.DV.str w,R.DV.bool t,R.DV.str (Prod.fst (getK k (YtkjjpmbpjfmbcaaGreatDoor.seg q 0 L))),R.DV.bool (Prod.snd (getK k (YtkjjpmbpjfmbcaaGreatDoor.seg q 0 L)))]) (mkD [DO.r RK.msg full sp el,DO.r RK.ent full1 sp1 el1,R.DO.c [R.DV.str a,R.DV.str b,R.DV.str k,R.DV.str v,R.DV.bool th] false 24,DO.r RK.ent q sa 41] 2)).ev) none:=by kernel_rfl
theorem Xuh (F:FM)(j n c:Nat)(ex:Bool)(full:List Msg)(sp:Bool)(el:R.EL)(j1 n1 c1:Nat)(ex1:Bool)(full1:List Ent)(sp1:Bool)(el1:R.EL)(a b k v:Txt)(th:Bool)(L:Nat)(ax sa:Bool)(q:List Ent)(w:Txt)(t:Bool)(w2:Txt)(t2:Bool)(kk:R.EK):(Xg (CA F.mf F.h) (YM F) (s6 2) 6 (envZ [0,5,7,8,9,10,11] [.rs 0 j n c 4 ex,.ptr 2 0,.rs 3 0 L L 2 ax,.str w,.bool t,.str w2,.bool t2]) (mkD [.r .msg full sp el,.r .ent full1 sp1 el1,.c [.str a,.str b,.str k,.str v,.bool th] false 24,.r .ent q sa 41] 2) (Xl 2 (ce6 6) kk)).ev =
    cond (!Op.bytesLess k a) (cond (decide (b=[])) ((kk (envZ [0,5,7,8,9,10,11] [DV.rs 0 j n c 4 ex,R.DV.ptr 2 0,DV.rs 3 0 L L 2 ax,R.DV.str w,R.DV.bool t,R.DV.str w2,R.DV.bool t2]) (mkD [DO.r RK.msg full sp el,DO.r RK.ent full1 sp1 el1,R.DO.c [R.DV.str a,R.DV.str b,R.DV.str k,R.DV.str v,R.DV.bool th] false 24,DO.r RK.ent q sa 41] 2)).ev) (cond (!Op.bytesLess k b) (cond (decide (w2=w)) (cond ((t2 == t) != false) (cond (YtkjjpmbpjfmbcaaGreatDoor.okN q 0 L) (cond (chkB (YtkjjpmbpjfmbcaaGreatDoor.seg q 0 L)) (some (R.DV.bool true,(mkD [DO.r RK.msg full sp el,DO.r RK.ent full1 sp1 el1] 2))) (some (R.DV.bool false,(mkD [DO.r RK.msg full sp el,DO.r RK.ent full1 sp1 el1] 2)))) none) (some (R.DV.bool false,(mkD [DO.r RK.msg full sp el,DO.r RK.ent full1 sp1 el1] 2)))) (some (R.DV.bool false,(mkD [DO.r RK.msg full sp el,DO.r RK.ent full1 sp1 el1] 2)))) ((kk (envZ [0,5,7,8,9,10,11] [DV.rs 0 j n c 4 ex,R.DV.ptr 2 0,DV.rs 3 0 L L 2 ax,R.DV.str w,R.DV.bool t,R.DV.str w2,R.DV.bool t2]) (mkD [DO.r RK.msg full sp el,DO.r RK.ent full1 sp1 el1,R.DO.c [R.DV.str a,R.DV.str b,R.DV.str k,R.DV.str v,R.DV.bool th] false 24,DO.r RK.ent q sa 41] 2)).ev))) (cond (decide (w2=w)) (cond ((t2 == t) != false) (cond (YtkjjpmbpjfmbcaaGreatDoor.okN q 0 L) (cond (chkB (YtkjjpmbpjfmbcaaGreatDoor.seg q 0 L)) (some (R.DV.bool true,(mkD [DO.r RK.msg full sp el,DO.r RK.ent full1 sp1 el1] 2))) (some (R.DV.bool false,(mkD [DO.r RK.msg full sp el,DO.r RK.ent full1 sp1 el1] 2)))) none) (some (R.DV.bool false,(mkD [DO.r RK.msg full sp el,DO.r RK.ent full1 sp1 el1] 2)))) (some (R.DV.bool false,(mkD [DO.r RK.msg full sp el,DO.r RK.ent full1 sp1 el1] 2)))):=by kernel_rfl
theorem Xug (F:FM)(j n c:Nat)(ex:Bool)(full:List Msg)(sp:Bool)(el:R.EL)(j1 n1 c1:Nat)(ex1:Bool)(full1:List Ent)(sp1:Bool)(el1:R.EL)(a b k v:Txt)(th:Bool)(L:Nat)(ax sa:Bool)(q:List Ent)(w:Txt)(t:Bool)(w2:Txt)(t2:Bool)(kk:R.EK):(Xg (CA F.mf F.h) (YM F) (s6 2) 7 (envZ [0,5,7,8,9,10,11] [.rs 0 j n c 4 ex,.ptr 2 0,.rs 3 0 L L 2 ax,.str w,.bool t,.str w2,.bool t2]) (mkD [.r .msg full sp el,.r .ent full1 sp1 el1,.c [.str a,.str b,.str k,.str v,.bool th] false 24,.r .ent q sa 41] 2) (Xl 2 (ce6 7) kk)).ev =
    cond (okG full j n&&decide (List.length w<=64)) ((kk (envZ [7,10,11,12,13] [DV.rs 2 0 L L 2 ax,R.DV.str w2,R.DV.bool t2,R.DV.str (Prod.fst (FM.fv F k (seg full j n) (bif t then w else [],t))),R.DV.bool (Prod.snd (FM.fv F k (seg full j n) (bif t then w else [],t)))]) (mkD [DO.r RK.msg full sp el,DO.r RK.ent full1 sp1 el1,DO.r RK.ent q sa 41] 2)).ev) none:=by kernel_rfl
theorem Xuf (F:FM)(j n c:Nat)(ex:Bool)(full:List Msg)(sp:Bool)(el:R.EL)(j1 n1 c1:Nat)(ex1:Bool)(full1:List Ent)(sp1:Bool)(el1:R.EL)(a b k v:Txt)(th:Bool)(L:Nat)(ax sa:Bool)(q:List Ent)(w2:Txt)(t2:Bool)(w3:Txt)(t3:Bool)  : (Yp (CA F.mf F.h) (YM F) (s6 2) 8 (envZ [7,10,11,12,13] [.rs 2 0 L L 2 ax,.str w2,.bool t2,.str w3,.bool t3]) (mkD [.r .msg full sp el,.r .ent full1 sp1 el1,.r .ent q sa 41] 2)).ev =
    cond (decide (w2=w3)) (cond ((t2 == t3) != false) (cond (YtkjjpmbpjfmbcaaGreatDoor.okN q 0 L) (cond (chkB (YtkjjpmbpjfmbcaaGreatDoor.seg q 0 L)) (some (R.DV.bool true,(mkD [DO.r RK.msg full sp el,DO.r RK.ent full1 sp1 el1] 2))) (some (R.DV.bool false,(mkD [DO.r RK.msg full sp el,DO.r RK.ent full1 sp1 el1] 2)))) none) (some (R.DV.bool false,(mkD [DO.r RK.msg full sp el,DO.r RK.ent full1 sp1 el1] 2)))) (some (R.DV.bool false,(mkD [DO.r RK.msg full sp el,DO.r RK.ent full1 sp1 el1] 2))):=by kernel_rfl
theorem p6m0 (F:FM)(j n c:Nat)(ex:Bool)(full:List Msg)(sp:Bool)(el:R.EL)(a b k v:Txt)(th:Bool)(kk:R.EK):(Xg (CA F.mf F.h) (YM F) (s6 1) 0 (R.Yu [.rs 0 j n c 4 ex,.nils,.agg [.str a,.str b,.str k,.str v,.bool th]] 0 .lf) (mkD [.r .msg full sp el] 1) (Xl 1 (ce6 0) kk)).ev =
    (kk (envZ [0,1,5] [DV.rs 0 j n c 4 ex,R.DV.nils,R.DV.ptr 1 0]) (mkD [DO.r RK.msg full sp el,R.DO.c [R.DV.str a,R.DV.str b,R.DV.str k,R.DV.str v,R.DV.bool th] false 24] 1)).ev:=by kernel_rfl
theorem p6m1 (F:FM)(j n c:Nat)(ex:Bool)(full:List Msg)(sp:Bool)(el:R.EL)(a b k v:Txt)(th:Bool)(kk:R.EK):(Xg (CA F.mf F.h) (YM F) (s6 1) 1 (envZ [0,1,5] [.rs 0 j n c 4 ex,.nils,.ptr 1 0]) (mkD [.r .msg full sp el,.c [.str a,.str b,.str k,.str v,.bool th] false 24] 1) (Xl 1 (ce6 1) kk)).ev =
    cond (okS full j n 0) (cond (!fewL (seg full j n)) (some (R.DV.bool true,(mkD [DO.r RK.msg full sp el] 1))) (cond (decide ((↑a.length:Int)<=300)) (cond (decide ((↑b.length:Int)<=300)) (cond (decide ((↑k.length:Int)<=300)) (cond (!decide ((↑v.length:Int)<=300)) (some (R.DV.bool true,(mkD [DO.r RK.msg full sp el] 1))) (cond (decide (108<(↑a.length:Int))) (some (R.DV.bool true,(mkD [DO.r RK.msg full sp el] 1))) (cond (decide (108<(↑b.length:Int))) (some (R.DV.bool true,(mkD [DO.r RK.msg full sp el] 1))) ((kk (envZ [0,1,5] [DV.rs 0 j n c 4 ex,R.DV.nils,R.DV.ptr 1 0]) (mkD [DO.r RK.msg full sp el,R.DO.c [R.DV.str a,R.DV.str b,R.DV.str k,R.DV.str v,R.DV.bool th] false 24] 1)).ev)))) (some (R.DV.bool true,(mkD [DO.r RK.msg full sp el] 1)))) (some (R.DV.bool true,(mkD [DO.r RK.msg full sp el] 1)))) (some (R.DV.bool true,(mkD [DO.r RK.msg full sp el] 1))))) none:=by kernel_rfl
theorem p6m2 (F:FM)(j n c:Nat)(ex:Bool)(full:List Msg)(sp:Bool)(el:R.EL)(a b k v:Txt)(th:Bool)(kk:R.EK):(Xg (CA F.mf F.h) (YM F) (s6 1) 2 (envZ [0,1,5] [.rs 0 j n c 4 ex,.nils,.ptr 1 0]) (mkD [.r .msg full sp el,.c [.str a,.str b,.str k,.str v,.bool th] false 24] 1) (Xl 1 (ce6 2) kk)).ev =
    cond (!decide (a=[])) (cond (!decide (b=[])) (cond (Op.bytesLess b a) (some (R.DV.bool true,(mkD [DO.r RK.msg full sp el] 1))) ((kk (envZ [0,1,5] [DV.rs 0 j n c 4 ex,R.DV.nils,R.DV.ptr 1 0]) (mkD [DO.r RK.msg full sp el,R.DO.c [R.DV.str a,R.DV.str b,R.DV.str k,R.DV.str v,R.DV.bool th] false 24] 1)).ev)) ((kk (envZ [0,1,5] [DV.rs 0 j n c 4 ex,R.DV.nils,R.DV.ptr 1 0]) (mkD [DO.r RK.msg full sp el,R.DO.c [R.DV.str a,R.DV.str b,R.DV.str k,R.DV.str v,R.DV.bool th] false 24] 1)).ev)) ((kk (envZ [0,1,5] [DV.rs 0 j n c 4 ex,R.DV.nils,R.DV.ptr 1 0]) (mkD [DO.r RK.msg full sp el,R.DO.c [R.DV.str a,R.DV.str b,R.DV.str k,R.DV.str v,R.DV.bool th] false 24] 1)).ev):=by kernel_rfl
theorem p6m3 (F:FM)(j n c:Nat)(ex:Bool)(full:List Msg)(sp:Bool)(el:R.EL)(a b k v:Txt)(th:Bool)(kk:R.EK):(Xg (CA F.mf F.h) (YM F) (s6 1) 3 (envZ [0,1,5] [.rs 0 j n c 4 ex,.nils,.ptr 1 0]) (mkD [.r .msg full sp el,.c [.str a,.str b,.str k,.str v,.bool th] false 24] 1) (Xl 1 (ce6 3) kk)).ev =
    cond (okG full j n&&decide (n<=60/\List.length a<=108/\List.length b<=108)) (cond (FM.ap F a b (seg full j n)) ((kk (envZ [0,1,5,7] [DV.rs 0 j n c 4 ex,R.DV.nils,R.DV.ptr 1 0,DV.rs 2 0 (List.length (FM.dp F a b (seg full j n) [])) (List.length (FM.dp F a b (seg full j n) [])) 2 true]) (mkD [DO.r RK.msg full sp el,R.DO.c [R.DV.str a,R.DV.str b,R.DV.str k,R.DV.str v,R.DV.bool th] false 24,DO.r RK.ent (FM.dp F a b (seg full j n) []) false { e:=41,z:=0 }] 1)).ev) ((kk (envZ [0,1,5,7] [DV.rs 0 j n c 4 ex,R.DV.nils,R.DV.ptr 1 0,R.DV.nils]) (mkD [DO.r RK.msg full sp el,R.DO.c [R.DV.str a,R.DV.str b,R.DV.str k,R.DV.str v,R.DV.bool th] false 24] 1)).ev)) none:=by kernel_rfl
theorem XtU (F:FM)(j n c:Nat)(ex:Bool)(full:List Msg)(sp:Bool)(el:R.EL)(a b k v:Txt)(th:Bool)(L:Nat)(ax sa:Bool)(q:List Ent)(kk:R.EK):(Xg (CA F.mf F.h) (YM F) (s6 1) 4 (envZ [0,1,5,7] [.rs 0 j n c 4 ex,.nils,.ptr 1 0,.rs 2 0 L L 2 ax]) (mkD [.r .msg full sp el,.c [.str a,.str b,.str k,.str v,.bool th] false 24,.r .ent q sa 41] 1) (Xl 1 (ce6 4) kk)).ev =
    (kk (envZ [0,5,7,8,9] [DV.rs 0 j n c 4 ex,R.DV.ptr 1 0,DV.rs 2 0 L L 2 ax,R.DV.str [],R.DV.bool false]) (mkD [DO.r RK.msg full sp el,R.DO.c [R.DV.str a,R.DV.str b,R.DV.str k,R.DV.str v,R.DV.bool th] false 24,DO.r RK.ent q sa 41] 1)).ev:=by kernel_rfl
theorem XtT (F:FM)(j n c:Nat)(ex:Bool)(full:List Msg)(sp:Bool)(el:R.EL)(a b k v:Txt)(th:Bool)(L:Nat)(ax sa:Bool)(q:List Ent)(w:Txt)(t:Bool)(kk:R.EK):(Xg (CA F.mf F.h) (YM F) (s6 1) 5 (envZ [0,5,7,8,9] [.rs 0 j n c 4 ex,.ptr 1 0,.rs 2 0 L L 2 ax,.str w,.bool t]) (mkD [.r .msg full sp el,.c [.str a,.str b,.str k,.str v,.bool th] false 24,.r .ent q sa 41] 1) (Xl 1 (ce6 5) kk)).ev =
    cond (YtkjjpmbpjfmbcaaGreatDoor.okN q 0 L) ((kk (envZ [0,5,7,8,9,10,11] [DV.rs 0 j n c 4 ex,R.DV.ptr 1 0,DV.rs 2 0 L L 2 ax,R.DV.str w,R.DV.bool t,R.DV.str (Prod.fst (getK k (YtkjjpmbpjfmbcaaGreatDoor.seg q 0 L))),R.DV.bool (Prod.snd (getK k (YtkjjpmbpjfmbcaaGreatDoor.seg q 0 L)))]) (mkD [DO.r RK.msg full sp el,R.DO.c [R.DV.str a,R.DV.str b,R.DV.str k,R.DV.str v,R.DV.bool th] false 24,DO.r RK.ent q sa 41] 1)).ev) none:=by kernel_rfl
theorem XtS (F:FM)(j n c:Nat)(ex:Bool)(full:List Msg)(sp:Bool)(el:R.EL)(a b k v:Txt)(th:Bool)(L:Nat)(ax sa:Bool)(q:List Ent)(w:Txt)(t:Bool)(w2:Txt)(t2:Bool)(kk:R.EK):(Xg (CA F.mf F.h) (YM F) (s6 1) 6 (envZ [0,5,7,8,9,10,11] [.rs 0 j n c 4 ex,.ptr 1 0,.rs 2 0 L L 2 ax,.str w,.bool t,.str w2,.bool t2]) (mkD [.r .msg full sp el,.c [.str a,.str b,.str k,.str v,.bool th] false 24,.r .ent q sa 41] 1) (Xl 1 (ce6 6) kk)).ev =
    cond (!Op.bytesLess k a) (cond (decide (b=[])) ((kk (envZ [0,5,7,8,9,10,11] [DV.rs 0 j n c 4 ex,R.DV.ptr 1 0,DV.rs 2 0 L L 2 ax,R.DV.str w,R.DV.bool t,R.DV.str w2,R.DV.bool t2]) (mkD [DO.r RK.msg full sp el,R.DO.c [R.DV.str a,R.DV.str b,R.DV.str k,R.DV.str v,R.DV.bool th] false 24,DO.r RK.ent q sa 41] 1)).ev) (cond (!Op.bytesLess k b) (cond (decide (w2=w)) (cond ((t2 == t) != false) (cond (YtkjjpmbpjfmbcaaGreatDoor.okN q 0 L) (cond (chkB (YtkjjpmbpjfmbcaaGreatDoor.seg q 0 L)) (some (R.DV.bool true,(mkD [DO.r RK.msg full sp el] 1))) (some (R.DV.bool false,(mkD [DO.r RK.msg full sp el] 1)))) none) (some (R.DV.bool false,(mkD [DO.r RK.msg full sp el] 1)))) (some (R.DV.bool false,(mkD [DO.r RK.msg full sp el] 1)))) ((kk (envZ [0,5,7,8,9,10,11] [DV.rs 0 j n c 4 ex,R.DV.ptr 1 0,DV.rs 2 0 L L 2 ax,R.DV.str w,R.DV.bool t,R.DV.str w2,R.DV.bool t2]) (mkD [DO.r RK.msg full sp el,R.DO.c [R.DV.str a,R.DV.str b,R.DV.str k,R.DV.str v,R.DV.bool th] false 24,DO.r RK.ent q sa 41] 1)).ev))) (cond (decide (w2=w)) (cond ((t2 == t) != false) (cond (YtkjjpmbpjfmbcaaGreatDoor.okN q 0 L) (cond (chkB (YtkjjpmbpjfmbcaaGreatDoor.seg q 0 L)) (some (R.DV.bool true,(mkD [DO.r RK.msg full sp el] 1))) (some (R.DV.bool false,(mkD [DO.r RK.msg full sp el] 1)))) none) (some (R.DV.bool false,(mkD [DO.r RK.msg full sp el] 1)))) (some (R.DV.bool false,(mkD [DO.r RK.msg full sp el] 1)))):=by kernel_rfl
theorem XtR (F:FM)(j n c:Nat)(ex:Bool)(full:List Msg)(sp:Bool)(el:R.EL)(a b k v:Txt)(th:Bool)(L:Nat)(ax sa:Bool)(q:List Ent)(w:Txt)(t:Bool)(w2:Txt)(t2:Bool)(kk:R.EK):(Xg (CA F.mf F.h) (YM F) (s6 1) 7 (envZ [0,5,7,8,9,10,11] [.rs 0 j n c 4 ex,.ptr 1 0,.rs 2 0 L L 2 ax,.str w,.bool t,.str w2,.bool t2]) (mkD [.r .msg full sp el,.c [.str a,.str b,.str k,.str v,.bool th] false 24,.r .ent q sa 41] 1) (Xl 1 (ce6 7) kk)).ev =
    cond (okG full j n&&decide (List.length w<=64)) ((kk (envZ [7,10,11,12,13] [DV.rs 1 0 L L 2 ax,R.DV.str w2,R.DV.bool t2,R.DV.str (Prod.fst (FM.fv F k (seg full j n) (bif t then w else [],t))),R.DV.bool (Prod.snd (FM.fv F k (seg full j n) (bif t then w else [],t)))]) (mkD [DO.r RK.msg full sp el,DO.r RK.ent q sa 41] 1)).ev) none:=by kernel_rfl
theorem XtQ (F:FM)(j n c:Nat)(ex:Bool)(full:List Msg)(sp:Bool)(el:R.EL)(a b k v:Txt)(th:Bool)(L:Nat)(ax sa:Bool)(q:List Ent)(w2:Txt)(t2:Bool)(w3:Txt)(t3:Bool)  : (Yp (CA F.mf F.h) (YM F) (s6 1) 8 (envZ [7,10,11,12,13] [.rs 1 0 L L 2 ax,.str w2,.bool t2,.str w3,.bool t3]) (mkD [.r .msg full sp el,.r .ent q sa 41] 1)).ev =
    cond (decide (w2=w3)) (cond ((t2 == t3) != false) (cond (YtkjjpmbpjfmbcaaGreatDoor.okN q 0 L) (cond (chkB (YtkjjpmbpjfmbcaaGreatDoor.seg q 0 L)) (some (R.DV.bool true,(mkD [DO.r RK.msg full sp el] 1))) (some (R.DV.bool false,(mkD [DO.r RK.msg full sp el] 1)))) none) (some (R.DV.bool false,(mkD [DO.r RK.msg full sp el] 1)))) (some (R.DV.bool false,(mkD [DO.r RK.msg full sp el] 1))):=by kernel_rfl
theorem XtZ (F:FM)(j n c:Nat)(ex:Bool)(full:List Msg)(sp:Bool)(el:R.EL)(a b k v:Txt)(th:Bool)(kk:R.EK):(Xg (CA F.mf F.h) (YM F) (s6 1) 4 (envZ [0,1,5,7] [.rs 0 j n c 4 ex,.nils,.ptr 1 0,.nils]) (mkD [.r .msg full sp el,.c [.str a,.str b,.str k,.str v,.bool th] false 24] 1) (Xl 1 (ce6 4) kk)).ev =
    (kk (envZ [0,5,7,8,9] [DV.rs 0 j n c 4 ex,R.DV.ptr 1 0,R.DV.nils,R.DV.str [],R.DV.bool false]) (mkD [DO.r RK.msg full sp el,R.DO.c [R.DV.str a,R.DV.str b,R.DV.str k,R.DV.str v,R.DV.bool th] false 24] 1)).ev:=by kernel_rfl
theorem XtY (F:FM)(j n c:Nat)(ex:Bool)(full:List Msg)(sp:Bool)(el:R.EL)(a b k v:Txt)(th:Bool)(w:Txt)(t:Bool)(kk:R.EK):(Xg (CA F.mf F.h) (YM F) (s6 1) 5 (envZ [0,5,7,8,9] [.rs 0 j n c 4 ex,.ptr 1 0,.nils,.str w,.bool t]) (mkD [.r .msg full sp el,.c [.str a,.str b,.str k,.str v,.bool th] false 24] 1) (Xl 1 (ce6 5) kk)).ev =
    (kk (envZ [0,5,7,8,9,10,11] [DV.rs 0 j n c 4 ex,R.DV.ptr 1 0,R.DV.nils,R.DV.str w,R.DV.bool t,R.DV.str [],R.DV.bool false]) (mkD [DO.r RK.msg full sp el,R.DO.c [R.DV.str a,R.DV.str b,R.DV.str k,R.DV.str v,R.DV.bool th] false 24] 1)).ev:=by kernel_rfl
theorem XtX (F:FM)(j n c:Nat)(ex:Bool)(full:List Msg)(sp:Bool)(el:R.EL)(a b k v:Txt)(th:Bool)(w:Txt)(t:Bool)(w2:Txt)(t2:Bool)(kk:R.EK):(Xg (CA F.mf F.h) (YM F) (s6 1) 6 (envZ [0,5,7,8,9,10,11] [.rs 0 j n c 4 ex,.ptr 1 0,.nils,.str w,.bool t,.str w2,.bool t2]) (mkD [.r .msg full sp el,.c [.str a,.str b,.str k,.str v,.bool th] false 24] 1) (Xl 1 (ce6 6) kk)).ev =
    cond (!Op.bytesLess k a) (cond (decide (b=[])) ((kk (envZ [0,5,7,8,9,10,11] [DV.rs 0 j n c 4 ex,R.DV.ptr 1 0,R.DV.nils,R.DV.str w,R.DV.bool t,R.DV.str w2,R.DV.bool t2]) (mkD [DO.r RK.msg full sp el,R.DO.c [R.DV.str a,R.DV.str b,R.DV.str k,R.DV.str v,R.DV.bool th] false 24] 1)).ev) (cond (!Op.bytesLess k b) (cond (decide (w2=w)) (cond ((t2 == t) != false) (some (R.DV.bool true,(mkD [DO.r RK.msg full sp el] 1))) (some (R.DV.bool false,(mkD [DO.r RK.msg full sp el] 1)))) (some (R.DV.bool false,(mkD [DO.r RK.msg full sp el] 1)))) ((kk (envZ [0,5,7,8,9,10,11] [DV.rs 0 j n c 4 ex,R.DV.ptr 1 0,R.DV.nils,R.DV.str w,R.DV.bool t,R.DV.str w2,R.DV.bool t2]) (mkD [DO.r RK.msg full sp el,R.DO.c [R.DV.str a,R.DV.str b,R.DV.str k,R.DV.str v,R.DV.bool th] false 24] 1)).ev))) (cond (decide (w2=w)) (cond ((t2 == t) != false) (some (R.DV.bool true,(mkD [DO.r RK.msg full sp el] 1))) (some (R.DV.bool false,(mkD [DO.r RK.msg full sp el] 1)))) (some (R.DV.bool false,(mkD [DO.r RK.msg full sp el] 1)))):=by kernel_rfl
theorem XtW (F:FM)(j n c:Nat)(ex:Bool)(full:List Msg)(sp:Bool)(el:R.EL)(a b k v:Txt)(th:Bool)(w:Txt)(t:Bool)(w2:Txt)(t2:Bool)(kk:R.EK):(Xg (CA F.mf F.h) (YM F) (s6 1) 7 (envZ [0,5,7,8,9,10,11] [.rs 0 j n c 4 ex,.ptr 1 0,.nils,.str w,.bool t,.str w2,.bool t2]) (mkD [.r .msg full sp el,.c [.str a,.str b,.str k,.str v,.bool th] false 24] 1) (Xl 1 (ce6 7) kk)).ev =
    cond (okG full j n&&decide (List.length w<=64)) ((kk (envZ [7,10,11,12,13] [R.DV.nils,R.DV.str w2,R.DV.bool t2,R.DV.str (Prod.fst (FM.fv F k (seg full j n) (bif t then w else [],t))),R.DV.bool (Prod.snd (FM.fv F k (seg full j n) (bif t then w else [],t)))]) (mkD [DO.r RK.msg full sp el] 1)).ev) none:=by kernel_rfl
theorem XtV (F:FM)(j n c:Nat)(ex:Bool)(full:List Msg)(sp:Bool)(el:R.EL)(a b k v:Txt)(th:Bool)(w2:Txt)(t2:Bool)(w3:Txt)(t3:Bool)  : (Yp (CA F.mf F.h) (YM F) (s6 1) 8 (envZ [7,10,11,12,13] [.nils,.str w2,.bool t2,.str w3,.bool t3]) (mkD [.r .msg full sp el] 1)).ev =
    cond (decide (w2=w3)) (cond ((t2 == t3) != false) (some (R.DV.bool true,(mkD [DO.r RK.msg full sp el] 1))) (some (R.DV.bool false,(mkD [DO.r RK.msg full sp el] 1)))) (some (R.DV.bool false,(mkD [DO.r RK.msg full sp el] 1))):=by kernel_rfl
theorem p6e0 (F:FM)(j1 n1 c1:Nat)(ex1:Bool)(full1:List Ent)(sp1:Bool)(el1:R.EL)(a b k v:Txt)(th:Bool)(kk:R.EK):(Xg (CA F.mf F.h) (YM F) (s6 1) 0 (R.Yu [.nils,.rs 0 j1 n1 c1 2 ex1,.agg [.str a,.str b,.str k,.str v,.bool th]] 0 .lf) (mkD [.r .ent full1 sp1 el1] 1) (Xl 1 (ce6 0) kk)).ev =
    (kk (envZ [0,1,5] [R.DV.nils,DV.rs 0 j1 n1 c1 2 ex1,R.DV.ptr 1 0]) (mkD [DO.r RK.ent full1 sp1 el1,R.DO.c [R.DV.str a,R.DV.str b,R.DV.str k,R.DV.str v,R.DV.bool th] false 24] 1)).ev:=by kernel_rfl
theorem p6e1 (F:FM)(j1 n1 c1:Nat)(ex1:Bool)(full1:List Ent)(sp1:Bool)(el1:R.EL)(a b k v:Txt)(th:Bool)(kk:R.EK):(Xg (CA F.mf F.h) (YM F) (s6 1) 1 (envZ [0,1,5] [.nils,.rs 0 j1 n1 c1 2 ex1,.ptr 1 0]) (mkD [.r .ent full1 sp1 el1,.c [.str a,.str b,.str k,.str v,.bool th] false 24] 1) (Xl 1 (ce6 1) kk)).ev =
    cond (YtkjjpmbpjfmbcaaGreatDoor.okS full1 j1 n1 0) (cond (!YtkjjpmbpjfmbcaaGreatDoor.fewL (YtkjjpmbpjfmbcaaGreatDoor.seg full1 j1 n1)) (some (R.DV.bool true,(mkD [DO.r RK.ent full1 sp1 el1] 1))) (cond (decide ((↑a.length:Int)<=300)) (cond (decide ((↑b.length:Int)<=300)) (cond (decide ((↑k.length:Int)<=300)) (cond (!decide ((↑v.length:Int)<=300)) (some (R.DV.bool true,(mkD [DO.r RK.ent full1 sp1 el1] 1))) (cond (decide (108<(↑a.length:Int))) (some (R.DV.bool true,(mkD [DO.r RK.ent full1 sp1 el1] 1))) (cond (decide (108<(↑b.length:Int))) (some (R.DV.bool true,(mkD [DO.r RK.ent full1 sp1 el1] 1))) (cond (YtkjjpmbpjfmbcaaGreatDoor.okN full1 j1 n1) (cond (chkB (YtkjjpmbpjfmbcaaGreatDoor.seg full1 j1 n1)) ((kk (envZ [0,1,5] [R.DV.nils,DV.rs 0 j1 n1 c1 2 ex1,R.DV.ptr 1 0]) (mkD [DO.r RK.ent full1 sp1 el1,R.DO.c [R.DV.str a,R.DV.str b,R.DV.str k,R.DV.str v,R.DV.bool th] false 24] 1)).ev) (some (R.DV.bool true,(mkD [DO.r RK.ent full1 sp1 el1] 1)))) none)))) (some (R.DV.bool true,(mkD [DO.r RK.ent full1 sp1 el1] 1)))) (some (R.DV.bool true,(mkD [DO.r RK.ent full1 sp1 el1] 1)))) (some (R.DV.bool true,(mkD [DO.r RK.ent full1 sp1 el1] 1))))) none:=by kernel_rfl
theorem p6e2 (F:FM)(j1 n1 c1:Nat)(ex1:Bool)(full1:List Ent)(sp1:Bool)(el1:R.EL)(a b k v:Txt)(th:Bool)(kk:R.EK):(Xg (CA F.mf F.h) (YM F) (s6 1) 2 (envZ [0,1,5] [.nils,.rs 0 j1 n1 c1 2 ex1,.ptr 1 0]) (mkD [.r .ent full1 sp1 el1,.c [.str a,.str b,.str k,.str v,.bool th] false 24] 1) (Xl 1 (ce6 2) kk)).ev =
    cond (!decide (a=[])) (cond (!decide (b=[])) (cond (Op.bytesLess b a) (some (R.DV.bool true,(mkD [DO.r RK.ent full1 sp1 el1] 1))) ((kk (envZ [0,1,5] [R.DV.nils,DV.rs 0 j1 n1 c1 2 ex1,R.DV.ptr 1 0]) (mkD [DO.r RK.ent full1 sp1 el1,R.DO.c [R.DV.str a,R.DV.str b,R.DV.str k,R.DV.str v,R.DV.bool th] false 24] 1)).ev)) ((kk (envZ [0,1,5] [R.DV.nils,DV.rs 0 j1 n1 c1 2 ex1,R.DV.ptr 1 0]) (mkD [DO.r RK.ent full1 sp1 el1,R.DO.c [R.DV.str a,R.DV.str b,R.DV.str k,R.DV.str v,R.DV.bool th] false 24] 1)).ev)) ((kk (envZ [0,1,5] [R.DV.nils,DV.rs 0 j1 n1 c1 2 ex1,R.DV.ptr 1 0]) (mkD [DO.r RK.ent full1 sp1 el1,R.DO.c [R.DV.str a,R.DV.str b,R.DV.str k,R.DV.str v,R.DV.bool th] false 24] 1)).ev):=by kernel_rfl
theorem p6e3 (F:FM)(j1 n1 c1:Nat)(ex1:Bool)(full1:List Ent)(sp1:Bool)(el1:R.EL)(a b k v:Txt)(th:Bool)(kk:R.EK):(Xg (CA F.mf F.h) (YM F) (s6 1) 3 (envZ [0,1,5] [.nils,.rs 0 j1 n1 c1 2 ex1,.ptr 1 0]) (mkD [.r .ent full1 sp1 el1,.c [.str a,.str b,.str k,.str v,.bool th] false 24] 1) (Xl 1 (ce6 3) kk)).ev =
    cond (YtkjjpmbpjfmbcaaGreatDoor.okN full1 j1 n1) (cond (Nat.beq n1 0) ((kk (envZ [0,1,5,7] [R.DV.nils,DV.rs 0 j1 n1 c1 2 ex1,R.DV.ptr 1 0,DV.rs 2 0 0 0 2 true]) (mkD [DO.r RK.ent full1 sp1 el1,R.DO.c [R.DV.str a,R.DV.str b,R.DV.str k,R.DV.str v,R.DV.bool th] false 24,DO.r RK.ent [] false 41] 1)).ev) ((kk (envZ [0,1,5,7] [R.DV.nils,DV.rs 0 j1 n1 c1 2 ex1,R.DV.ptr 1 0,DV.rs 2 0 n1 n1 2 false]) (mkD [DO.r RK.ent full1 sp1 el1,R.DO.c [R.DV.str a,R.DV.str b,R.DV.str k,R.DV.str v,R.DV.bool th] false 24,DO.r RK.ent (YtkjjpmbpjfmbcaaGreatDoor.seg full1 j1 n1) true 41] 1)).ev)) none:=by kernel_rfl
theorem Xue (F:FM)(j1 n1 c1:Nat)(ex1:Bool)(full1:List Ent)(sp1:Bool)(el1:R.EL)(a b k v:Txt)(th:Bool)(L:Nat)(ax sa:Bool)(q:List Ent)(kk:R.EK):(Xg (CA F.mf F.h) (YM F) (s6 1) 4 (envZ [0,1,5,7] [.nils,.rs 0 j1 n1 c1 2 ex1,.ptr 1 0,.rs 2 0 L L 2 ax]) (mkD [.r .ent full1 sp1 el1,.c [.str a,.str b,.str k,.str v,.bool th] false 24,.r .ent q sa 41] 1) (Xl 1 (ce6 4) kk)).ev =
    cond (YtkjjpmbpjfmbcaaGreatDoor.okN full1 j1 n1) ((kk (envZ [0,5,7,8,9] [R.DV.nils,R.DV.ptr 1 0,DV.rs 2 0 L L 2 ax,R.DV.str (Prod.fst (getK k (YtkjjpmbpjfmbcaaGreatDoor.seg full1 j1 n1))),R.DV.bool (Prod.snd (getK k (YtkjjpmbpjfmbcaaGreatDoor.seg full1 j1 n1)))]) (mkD [DO.r RK.ent full1 sp1 el1,R.DO.c [R.DV.str a,R.DV.str b,R.DV.str k,R.DV.str v,R.DV.bool th] false 24,DO.r RK.ent q sa 41] 1)).ev) none:=by kernel_rfl
theorem Xud (F:FM)(j1 n1 c1:Nat)(ex1:Bool)(full1:List Ent)(sp1:Bool)(el1:R.EL)(a b k v:Txt)(th:Bool)(L:Nat)(ax sa:Bool)(q:List Ent)(w:Txt)(t:Bool)(kk:R.EK):(Xg (CA F.mf F.h) (YM F) (s6 1) 5 (envZ [0,5,7,8,9] [.nils,.ptr 1 0,.rs 2 0 L L 2 ax,.str w,.bool t]) (mkD [.r .ent full1 sp1 el1,.c [.str a,.str b,.str k,.str v,.bool th] false 24,.r .ent q sa 41] 1) (Xl 1 (ce6 5) kk)).ev =
    cond (YtkjjpmbpjfmbcaaGreatDoor.okN q 0 L) ((kk (envZ [0,5,7,8,9,10,11] [R.DV.nils,R.DV.ptr 1 0,DV.rs 2 0 L L 2 ax,R.DV.str w,R.DV.bool t,R.DV.str (Prod.fst (getK k (YtkjjpmbpjfmbcaaGreatDoor.seg q 0 L))),R.DV.bool (Prod.snd (getK k (YtkjjpmbpjfmbcaaGreatDoor.seg q 0 L)))]) (mkD [DO.r RK.ent full1 sp1 el1,R.DO.c [R.DV.str a,R.DV.str b,R.DV.str k,R.DV.str v,R.DV.bool th] false 24,DO.r RK.ent q sa 41] 1)).ev) none:=by kernel_rfl
theorem Xuc (F:FM)(j1 n1 c1:Nat)(ex1:Bool)(full1:List Ent)(sp1:Bool)(el1:R.EL)(a b k v:Txt)(th:Bool)(L:Nat)(ax sa:Bool)(q:List Ent)(w:Txt)(t:Bool)(w2:Txt)(t2:Bool)(kk:R.EK):(Xg (CA F.mf F.h) (YM F) (s6 1) 6 (envZ [0,5,7,8,9,10,11] [.nils,.ptr 1 0,.rs 2 0 L L 2 ax,.str w,.bool t,.str w2,.bool t2]) (mkD [.r .ent full1 sp1 el1,.c [.str a,.str b,.str k,.str v,.bool th] false 24,.r .ent q sa 41] 1) (Xl 1 (ce6 6) kk)).ev =
    cond (!Op.bytesLess k a) (cond (decide (b=[])) ((kk (envZ [0,5,7,8,9,10,11] [R.DV.nils,R.DV.ptr 1 0,DV.rs 2 0 L L 2 ax,R.DV.str w,R.DV.bool t,R.DV.str w2,R.DV.bool t2]) (mkD [DO.r RK.ent full1 sp1 el1,R.DO.c [R.DV.str a,R.DV.str b,R.DV.str k,R.DV.str v,R.DV.bool th] false 24,DO.r RK.ent q sa 41] 1)).ev) (cond (!Op.bytesLess k b) (cond (decide (w2=w)) (cond ((t2 == t) != false) (cond (YtkjjpmbpjfmbcaaGreatDoor.okN q 0 L) (cond (chkB (YtkjjpmbpjfmbcaaGreatDoor.seg q 0 L)) (some (R.DV.bool true,(mkD [DO.r RK.ent full1 sp1 el1] 1))) (some (R.DV.bool false,(mkD [DO.r RK.ent full1 sp1 el1] 1)))) none) (some (R.DV.bool false,(mkD [DO.r RK.ent full1 sp1 el1] 1)))) (some (R.DV.bool false,(mkD [DO.r RK.ent full1 sp1 el1] 1)))) ((kk (envZ [0,5,7,8,9,10,11] [R.DV.nils,R.DV.ptr 1 0,DV.rs 2 0 L L 2 ax,R.DV.str w,R.DV.bool t,R.DV.str w2,R.DV.bool t2]) (mkD [DO.r RK.ent full1 sp1 el1,R.DO.c [R.DV.str a,R.DV.str b,R.DV.str k,R.DV.str v,R.DV.bool th] false 24,DO.r RK.ent q sa 41] 1)).ev))) (cond (decide (w2=w)) (cond ((t2 == t) != false) (cond (YtkjjpmbpjfmbcaaGreatDoor.okN q 0 L) (cond (chkB (YtkjjpmbpjfmbcaaGreatDoor.seg q 0 L)) (some (R.DV.bool true,(mkD [DO.r RK.ent full1 sp1 el1] 1))) (some (R.DV.bool false,(mkD [DO.r RK.ent full1 sp1 el1] 1)))) none) (some (R.DV.bool false,(mkD [DO.r RK.ent full1 sp1 el1] 1)))) (some (R.DV.bool false,(mkD [DO.r RK.ent full1 sp1 el1] 1)))):=by kernel_rfl
theorem Xub (F:FM)(j1 n1 c1:Nat)(ex1:Bool)(full1:List Ent)(sp1:Bool)(el1:R.EL)(a b k v:Txt)(th:Bool)(L:Nat)(ax sa:Bool)(q:List Ent)(w:Txt)(t:Bool)(w2:Txt)(t2:Bool)(kk:R.EK):(Xg (CA F.mf F.h) (YM F) (s6 1) 7 (envZ [0,5,7,8,9,10,11] [.nils,.ptr 1 0,.rs 2 0 L L 2 ax,.str w,.bool t,.str w2,.bool t2]) (mkD [.r .ent full1 sp1 el1,.c [.str a,.str b,.str k,.str v,.bool th] false 24,.r .ent q sa 41] 1) (Xl 1 (ce6 7) kk)).ev =
    (kk (envZ [7,10,11,12,13] [DV.rs 1 0 L L 2 ax,R.DV.str w2,R.DV.bool t2,R.DV.str (bif t then w else []),R.DV.bool t]) (mkD [DO.r RK.ent full1 sp1 el1,DO.r RK.ent q sa 41] 1)).ev:=by kernel_rfl
theorem Xua (F:FM)(j1 n1 c1:Nat)(ex1:Bool)(full1:List Ent)(sp1:Bool)(el1:R.EL)(a b k v:Txt)(th:Bool)(L:Nat)(ax sa:Bool)(q:List Ent)(w2:Txt)(t2:Bool)(w3:Txt)(t3:Bool)  : (Yp (CA F.mf F.h) (YM F) (s6 1) 8 (envZ [7,10,11,12,13] [.rs 1 0 L L 2 ax,.str w2,.bool t2,.str w3,.bool t3]) (mkD [.r .ent full1 sp1 el1,.r .ent q sa 41] 1)).ev =
    cond (decide (w2=w3)) (cond ((t2 == t3) != false) (cond (YtkjjpmbpjfmbcaaGreatDoor.okN q 0 L) (cond (chkB (YtkjjpmbpjfmbcaaGreatDoor.seg q 0 L)) (some (R.DV.bool true,(mkD [DO.r RK.ent full1 sp1 el1] 1))) (some (R.DV.bool false,(mkD [DO.r RK.ent full1 sp1 el1] 1)))) none) (some (R.DV.bool false,(mkD [DO.r RK.ent full1 sp1 el1] 1)))) (some (R.DV.bool false,(mkD [DO.r RK.ent full1 sp1 el1] 1))):=by kernel_rfl
theorem p6n0 (F:FM)(a b k v:Txt)(th:Bool)(kk:R.EK):(Xg (CA F.mf F.h) (YM F) (s6 0) 0 (R.Yu [.nils,.nils,.agg [.str a,.str b,.str k,.str v,.bool th]] 0 .lf) (mkD [] 0) (Xl 0 (ce6 0) kk)).ev =
    (kk (envZ [0,1,5] [R.DV.nils,R.DV.nils,R.DV.ptr 0 0]) (mkD [R.DO.c [R.DV.str a,R.DV.str b,R.DV.str k,R.DV.str v,R.DV.bool th] false 24] 0)).ev:=by kernel_rfl
theorem p6n1 (F:FM)(a b k v:Txt)(th:Bool)(kk:R.EK):(Xg (CA F.mf F.h) (YM F) (s6 0) 1 (envZ [0,1,5] [.nils,.nils,.ptr 0 0]) (mkD [.c [.str a,.str b,.str k,.str v,.bool th] false 24] 0) (Xl 0 (ce6 1) kk)).ev =
    cond (decide ((↑a.length:Int)<=300)) (cond (decide ((↑b.length:Int)<=300)) (cond (decide ((↑k.length:Int)<=300)) (cond (!decide ((↑v.length:Int)<=300)) (some (R.DV.bool true,(mkD [] 0))) (cond (decide (108<(↑a.length:Int))) (some (R.DV.bool true,(mkD [] 0))) (cond (decide (108<(↑b.length:Int))) (some (R.DV.bool true,(mkD [] 0))) ((kk (envZ [0,1,5] [R.DV.nils,R.DV.nils,R.DV.ptr 0 0]) (mkD [R.DO.c [R.DV.str a,R.DV.str b,R.DV.str k,R.DV.str v,R.DV.bool th] false 24] 0)).ev)))) (some (R.DV.bool true,(mkD [] 0)))) (some (R.DV.bool true,(mkD [] 0)))) (some (R.DV.bool true,(mkD [] 0))):=by kernel_rfl
theorem p6n2 (F:FM)(a b k v:Txt)(th:Bool)(kk:R.EK):(Xg (CA F.mf F.h) (YM F) (s6 0) 2 (envZ [0,1,5] [.nils,.nils,.ptr 0 0]) (mkD [.c [.str a,.str b,.str k,.str v,.bool th] false 24] 0) (Xl 0 (ce6 2) kk)).ev =
    cond (!decide (a=[])) (cond (!decide (b=[])) (cond (Op.bytesLess b a) (some (R.DV.bool true,(mkD [] 0))) ((kk (envZ [0,1,5] [R.DV.nils,R.DV.nils,R.DV.ptr 0 0]) (mkD [R.DO.c [R.DV.str a,R.DV.str b,R.DV.str k,R.DV.str v,R.DV.bool th] false 24] 0)).ev)) ((kk (envZ [0,1,5] [R.DV.nils,R.DV.nils,R.DV.ptr 0 0]) (mkD [R.DO.c [R.DV.str a,R.DV.str b,R.DV.str k,R.DV.str v,R.DV.bool th] false 24] 0)).ev)) ((kk (envZ [0,1,5] [R.DV.nils,R.DV.nils,R.DV.ptr 0 0]) (mkD [R.DO.c [R.DV.str a,R.DV.str b,R.DV.str k,R.DV.str v,R.DV.bool th] false 24] 0)).ev):=by kernel_rfl
theorem p6n3 (F:FM)(a b k v:Txt)(th:Bool)(kk:R.EK):(Xg (CA F.mf F.h) (YM F) (s6 0) 3 (envZ [0,1,5] [.nils,.nils,.ptr 0 0]) (mkD [.c [.str a,.str b,.str k,.str v,.bool th] false 24] 0) (Xl 0 (ce6 3) kk)).ev =
    (kk (envZ [0,1,5,7] [R.DV.nils,R.DV.nils,R.DV.ptr 0 0,R.DV.nils]) (mkD [R.DO.c [R.DV.str a,R.DV.str b,R.DV.str k,R.DV.str v,R.DV.bool th] false 24] 0)).ev:=by kernel_rfl
theorem XtP (F:FM)(a b k v:Txt)(th:Bool)(kk:R.EK):(Xg (CA F.mf F.h) (YM F) (s6 0) 4 (envZ [0,1,5,7] [.nils,.nils,.ptr 0 0,.nils]) (mkD [.c [.str a,.str b,.str k,.str v,.bool th] false 24] 0) (Xl 0 (ce6 4) kk)).ev =
    (kk (envZ [0,5,7,8,9] [R.DV.nils,R.DV.ptr 0 0,R.DV.nils,R.DV.str [],R.DV.bool false]) (mkD [R.DO.c [R.DV.str a,R.DV.str b,R.DV.str k,R.DV.str v,R.DV.bool th] false 24] 0)).ev:=by kernel_rfl
theorem XtO (F:FM)(a b k v:Txt)(th:Bool)(w:Txt)(t:Bool)(kk:R.EK):(Xg (CA F.mf F.h) (YM F) (s6 0) 5 (envZ [0,5,7,8,9] [.nils,.ptr 0 0,.nils,.str w,.bool t]) (mkD [.c [.str a,.str b,.str k,.str v,.bool th] false 24] 0) (Xl 0 (ce6 5) kk)).ev =
    (kk (envZ [0,5,7,8,9,10,11] [R.DV.nils,R.DV.ptr 0 0,R.DV.nils,R.DV.str w,R.DV.bool t,R.DV.str [],R.DV.bool false]) (mkD [R.DO.c [R.DV.str a,R.DV.str b,R.DV.str k,R.DV.str v,R.DV.bool th] false 24] 0)).ev:=by kernel_rfl
theorem XtN (F:FM)(a b k v:Txt)(th:Bool)(w:Txt)(t:Bool)(w2:Txt)(t2:Bool)(kk:R.EK):(Xg (CA F.mf F.h) (YM F) (s6 0) 6 (envZ [0,5,7,8,9,10,11] [.nils,.ptr 0 0,.nils,.str w,.bool t,.str w2,.bool t2]) (mkD [.c [.str a,.str b,.str k,.str v,.bool th] false 24] 0) (Xl 0 (ce6 6) kk)).ev =
    cond (!Op.bytesLess k a) (cond (decide (b=[])) ((kk (envZ [0,5,7,8,9,10,11] [R.DV.nils,R.DV.ptr 0 0,R.DV.nils,R.DV.str w,R.DV.bool t,R.DV.str w2,R.DV.bool t2]) (mkD [R.DO.c [R.DV.str a,R.DV.str b,R.DV.str k,R.DV.str v,R.DV.bool th] false 24] 0)).ev) (cond (!Op.bytesLess k b) (cond (decide (w2=w)) (cond ((t2 == t) != false) (some (R.DV.bool true,(mkD [] 0))) (some (R.DV.bool false,(mkD [] 0)))) (some (R.DV.bool false,(mkD [] 0)))) ((kk (envZ [0,5,7,8,9,10,11] [R.DV.nils,R.DV.ptr 0 0,R.DV.nils,R.DV.str w,R.DV.bool t,R.DV.str w2,R.DV.bool t2]) (mkD [R.DO.c [R.DV.str a,R.DV.str b,R.DV.str k,R.DV.str v,R.DV.bool th] false 24] 0)).ev))) (cond (decide (w2=w)) (cond ((t2 == t) != false) (some (R.DV.bool true,(mkD [] 0))) (some (R.DV.bool false,(mkD [] 0)))) (some (R.DV.bool false,(mkD [] 0)))):=by kernel_rfl
theorem XtM (F:FM)(a b k v:Txt)(th:Bool)(w:Txt)(t:Bool)(w2:Txt)(t2:Bool)(kk:R.EK):(Xg (CA F.mf F.h) (YM F) (s6 0) 7 (envZ [0,5,7,8,9,10,11] [.nils,.ptr 0 0,.nils,.str w,.bool t,.str w2,.bool t2]) (mkD [.c [.str a,.str b,.str k,.str v,.bool th] false 24] 0) (Xl 0 (ce6 7) kk)).ev =
    (kk (envZ [7,10,11,12,13] [R.DV.nils,R.DV.str w2,R.DV.bool t2,R.DV.str (bif t then w else []),R.DV.bool t]) (mkD [] 0)).ev:=by kernel_rfl
theorem XtL (F:FM)(a b k v:Txt)(th:Bool)(w2:Txt)(t2:Bool)(w3:Txt)(t3:Bool)  : (Yp (CA F.mf F.h) (YM F) (s6 0) 8 (envZ [7,10,11,12,13] [.nils,.str w2,.bool t2,.str w3,.bool t3]) (mkD [] 0)).ev =
    cond (decide (w2=w3)) (cond ((t2 == t3) != false) (some (R.DV.bool true,(mkD [] 0))) (some (R.DV.bool false,(mkD [] 0)))) (some (R.DV.bool false,(mkD [] 0))):=by kernel_rfl
end
end Go.Vm.YtkjjpmbpjfmbcaaGreatDoor.B
