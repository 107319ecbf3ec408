/-
  BufferTakes, piece by piece; its loop.
  The law of BufferTakes.
  An argument that is a slice of messages: its row; and that it reads behind the call as it read.
  Layer 17: what the statements' calls stand over: the world's blocks, and an argument that is a Range.
-/
import Derived.Test.YtkjjpmbpjfmbcaaGreatDoorQ11
import Derived.Test.YtkjjpmbpjfmbcaaGreatDoorQ10
import Derived.ChangeMaps5
set_option linter.unusedVariables false
set_option linter.unusedSimpArgs false
namespace Go.Vm.YtkjjpmbpjfmbcaaGreatDoor
open Go.Proofs Go.Vm.R
noncomputable section
set_option maxRecDepth 10000
def bdy4:CC:=match loopsIn none c4.body with | [(_,b)]=>b | _=>.skip
abbrev PB1:=List Msg->Nat->Nat->Nat->Txt->Txt->List Msg->List Msg->Nat->Nat->Int->Bool
abbrev PB2:=Txt->Txt->List Msg->List Msg->List Msg->Nat->Nat->Nat->Int->Bool
def ldB (P1:PB1) (P2:PB2):LoopD:=⟨[(3,none),(5,some (.msg,31)),(6,some (.msg,31)),(7,none),(8,none)],[(3,none),(6,some (.msg,31)),(7,none)],[(4,none)],fun vs ao=>match vs,ao with
  |[.ptr 1 0,.ns 2 u 4,.ns 3 w 4,.rs 0 j n c 4 ex,.int .i64 z],[.r .msg full sp el,.c [.str a,.str b,.str k,.str v,.bool th] false 24,.rn .msg p 31,.rn .msg q 31] =>
    some (u-z.toNat,.need (P1 full j n c a b p q u w z) (.br (Nat.beq u 0)
      (.exit 0 [.ptr 1 0,.ns 2 w 4,.rs 0 j n c 4 ex] [.r .msg full sp el,.c [.str a,.str b,.str k,.str v,.bool th] false 24,.rn .msg q 31])
      (.exit 0 [.ptr 1 0,.ns 2 w 4,.ns 3 w 4] [.r .msg full sp el,.c [.str a,.str b,.str k,.str v,.bool th] false 24,.rn .msg q 31,.rn .msg q 31])))
  |[.ptr 1 0,.ns 2 u 4,.ns 3 w 4,.ns 4 x 4,.int .i64 z],[.r .msg full sp el,.c [.str a,.str b,.str k,.str v,.bool th] false 24,.rn .msg p 31,.rn .msg q 31,.rn .msg r 31] =>
    some (u-z.toNat,.need (P2 a b p q r u w x z)
      (.exit 0 [.ptr 1 0,.ns 2 w 4,.ns 3 w 4] [.r .msg full sp el,.c [.str a,.str b,.str k,.str v,.bool th] false 24,.rn .msg q 31,.rn .msg q 31]))
  |_,_=>none⟩
def ce4 (n:Nat):List R.Hint:=match n with
  |0=>hn [0,3]
  |1=>hn [0,3]
  |2=>hn [0,3,5,6]
  |3=>hn [3,5,6,7]
  |4=>hn [3,6,7]
  |_=>hn [6,7,14]
def s4 (lh:Nat->Option LoopD) (N:Nat):Cuts:=⟨lh,420,N,c4,[some (ce4 0),some (ce4 1),some (ce4 2),some (ce4 3),some (ce4 4),some (ce4 5)]⟩
theorem p4a0 (lh:Nat->Option LoopD) (j n c:Nat) (ex:Bool) (full:List Msg) (sp:Bool) (el:R.EL) (a b k v:Txt) (th:Bool) (kk:R.EK):(pieceD C Y5 (s4 lh 1) 0 (R.envOfD [.rs 0 j n c 4 ex,.agg [.str a,.str b,.str k,.str v,.bool th]] 0 .lf) (mkD [.r .msg full sp el] 1) (neatK 1 (ce4 0) kk)).ev =
    (kk (envZ [0,3] [DV.rs 0 j n c 4 ex,R.DV.ptr 1 0]) (mkD [DO.r RK.msg full sp el,R.DO.c [R.DV.str a,R.DV.str b,R.DV.str k,R.DV.str v,R.DV.bool th] false 24] 1)).ev:=by kernel_rfl
theorem p4a1 (lh:Nat->Option LoopD) (j n c:Nat) (ex:Bool) (full:List Msg) (sp:Bool) (el:R.EL) (a b k v:Txt) (th:Bool) (kk:R.EK):(pieceD C Y5 (s4 lh 1) 1 (envZ [0,3] [.rs 0 j n c 4 ex,.ptr 1 0]) (mkD [.r .msg full sp el,.c [.str a,.str b,.str k,.str v,.bool th] false 24] 1) (neatK 1 (ce4 1) kk)).ev =
    cond (okS full j n 0) (cond (!fewL (seg full j n)) (some (R.DV.bool true,(mkD [DO.r RK.msg full sp el] 1))) (cond (decide ((↑a.length:Int)<=300)) (cond (decide ((↑b.length:Int)<=300)) (cond (decide ((↑k.length:Int)<=300)) (cond (!decide ((↑v.length:Int)<=300)) (some (R.DV.bool true,(mkD [DO.r RK.msg full sp el] 1))) ((kk (envZ [0,3] [DV.rs 0 j n c 4 ex,R.DV.ptr 1 0]) (mkD [DO.r RK.msg full sp el,R.DO.c [R.DV.str a,R.DV.str b,R.DV.str k,R.DV.str v,R.DV.bool th] false 24] 1)).ev)) (some (R.DV.bool true,(mkD [DO.r RK.msg full sp el] 1)))) (some (R.DV.bool true,(mkD [DO.r RK.msg full sp el] 1)))) (some (R.DV.bool true,(mkD [DO.r RK.msg full sp el] 1))))) none:=by kernel_rfl
theorem p4a2 (lh:Nat->Option LoopD) (j n c:Nat) (ex:Bool) (full:List Msg) (sp:Bool) (el:R.EL) (a b k v:Txt) (th:Bool) (kk:R.EK):(pieceD C Y5 (s4 lh 1) 2 (envZ [0,3] [.rs 0 j n c 4 ex,.ptr 1 0]) (mkD [.r .msg full sp el,.c [.str a,.str b,.str k,.str v,.bool th] false 24] 1) (neatK 1 (ce4 2) kk)).ev =
    cond (okG full j n) ((kk (envZ [0,3,5,6] [DV.rs 0 j n c 4 ex,R.DV.ptr 1 0,DV.ns 2 (List.length (inL a b (seg full j n))) 4,DV.ns 3 (List.length (restL leftL a b (seg full j n))) 4]) (mkD [DO.r RK.msg full sp el,R.DO.c [R.DV.str a,R.DV.str b,R.DV.str k,R.DV.str v,R.DV.bool th] false 24,DO.rn RK.msg (inL a b (seg full j n)) 31,DO.rn RK.msg (restL leftL a b (seg full j n)) 31] 1)).ev) none:=by kernel_rfl
theorem p4a3 (lh:Nat->Option LoopD) (j n c:Nat) (ex:Bool) (full:List Msg) (sp:Bool) (el:R.EL) (a b k v:Txt) (th:Bool) (p q:List Msg) (kk:R.EK):(pieceD C Y5 (s4 lh 1) 3 (envZ [0,3,5,6] [.rs 0 j n c 4 ex,.ptr 1 0,.ns 2 p.length 4,.ns 3 q.length 4]) (mkD [.r .msg full sp el,.c [.str a,.str b,.str k,.str v,.bool th] false 24,.rn .msg p 31,.rn .msg q 31] 1) (neatK 1 (ce4 3) kk)).ev =
    (kk (envZ [3,5,6,7] [R.DV.ptr 1 0,DV.ns 2 p.length 4,DV.ns 3 q.length 4,DV.rs 0 j n c 4 ex]) (mkD [DO.r RK.msg full sp el,R.DO.c [R.DV.str a,R.DV.str b,R.DV.str k,R.DV.str v,R.DV.bool th] false 24,DO.rn RK.msg p 31,DO.rn RK.msg q 31] 1)).ev:=by kernel_rfl
theorem p4a4 (P1:PB1) (P2:PB2) (j n c:Nat) (ex:Bool) (full:List Msg) (sp:Bool) (el:R.EL) (a b k v:Txt) (th:Bool) (p q:List Msg) (kk:R.EK):(pieceD C Y5 (s4 (lhX (ldB P1 P2)) 1) 4 (envZ [3,5,6,7] [.ptr 1 0,.ns 2 p.length 4,.ns 3 q.length 4,.rs 0 j n c 4 ex]) (mkD [.r .msg full sp el,.c [.str a,.str b,.str k,.str v,.bool th] false 24,.rn .msg p 31,.rn .msg q 31] 1) (neatK 1 (ce4 4) kk)).ev =
    cond (decide (List.length p-0<Cuts.lev (s4 (lhX (ldB P1 P2)) 1))) (cond (P1 full j n c a b p q p.length q.length 0) (cond (Nat.beq p.length 0) ((kk (envZ [3,6,7] [R.DV.ptr 1 0,DV.ns 2 q.length 4,DV.rs 0 j n c 4 ex]) (mkD [DO.r RK.msg full sp el,R.DO.c [R.DV.str a,R.DV.str b,R.DV.str k,R.DV.str v,R.DV.bool th] false 24,DO.rn RK.msg q 31] 1)).ev) ((kk (envZ [3,6,7] [R.DV.ptr 1 0,DV.ns 2 q.length 4,DV.ns 3 q.length 4]) (mkD [DO.r RK.msg full sp el,R.DO.c [R.DV.str a,R.DV.str b,R.DV.str k,R.DV.str v,R.DV.bool th] false 24,DO.rn RK.msg q 31,DO.rn RK.msg q 31] 1)).ev)) none) none:=by kernel_rfl
theorem p4a5a (lh:Nat->Option LoopD) (j n c:Nat) (ex:Bool) (full:List Msg) (sp:Bool) (el:R.EL) (a b k v:Txt) (th:Bool) (q:List Msg) (kk:R.EK):(pieceD C Y5 (s4 lh 1) 5 (envZ [3,6,7] [.ptr 1 0,.ns 2 q.length 4,.rs 0 j n c 4 ex]) (mkD [.r .msg full sp el,.c [.str a,.str b,.str k,.str v,.bool th] false 24,.rn .msg q 31] 1) (neatK 1 (ce4 5) kk)).ev =
    cond (ok19 full j n c) (cond (Nat.beq n 0) ((kk (envZ [6,7,14] [DV.ns 1 q.length 4,DV.rs 0 j n c 4 ex,R.DV.bool false]) (mkD [DO.r RK.msg full sp el,DO.rn RK.msg q 31] 1)).ev) ((kk (envZ [6,7,14] [DV.ns 1 q.length 4,DV.rs 0 j n c 4 ex,R.DV.bool !noP a b (seg full j n)]) (mkD [DO.r RK.msg full sp el,DO.rn RK.msg q 31] 1)).ev)) none:=by kernel_rfl
theorem p4a5b (lh:Nat->Option LoopD) (j n c:Nat) (ex:Bool) (full:List Msg) (sp:Bool) (el:R.EL) (a b k v:Txt) (th:Bool) (q r:List Msg) (kk:R.EK):(pieceD C Y5 (s4 lh 1) 5 (envZ [3,6,7] [.ptr 1 0,.ns 2 q.length 4,.ns 3 r.length 4]) (mkD [.r .msg full sp el,.c [.str a,.str b,.str k,.str v,.bool th] false 24,.rn .msg q 31,.rn .msg r 31] 1) (neatK 1 (ce4 5) kk)).ev =
    cond (Nat.beq r.length r.length&&Nat.blt r.length 199) ((kk (envZ [6,7,14] [DV.ns 1 q.length 4,DV.ns 2 r.length 4,R.DV.bool !noP a b r]) (mkD [DO.r RK.msg full sp el,DO.rn RK.msg q 31,DO.rn RK.msg r 31] 1)).ev) none:=by kernel_rfl
theorem p4a6a (lh:Nat->Option LoopD) (j n c:Nat) (ex:Bool) (full:List Msg) (sp:Bool) (el:R.EL) (a b k v:Txt) (th:Bool) (q:List Msg) (mo:Bool):(restD C Y5 (s4 lh 1) 6 (envZ [6,7,14] [.ns 1 q.length 4,.rs 0 j n c 4 ex,.bool mo]) (mkD [.r .msg full sp el,.rn .msg q 31] 1)).ev =
    cond (!mo) (cond (okTb j n full q.length q) (cond (sameL (seg full j n) (List.take q.length q)) (some (R.DV.bool true,(mkD [DO.r RK.msg full sp el] 1))) (some (R.DV.bool false,(mkD [DO.r RK.msg full sp el] 1)))) none) (some (R.DV.bool false,(mkD [DO.r RK.msg full sp el] 1))):=by kernel_rfl
theorem p4a6b (lh:Nat->Option LoopD) (j n c:Nat) (ex:Bool) (full:List Msg) (sp:Bool) (el:R.EL) (a b k v:Txt) (th:Bool) (q r:List Msg) (mo:Bool):(restD C Y5 (s4 lh 1) 6 (envZ [6,7,14] [.ns 1 q.length 4,.ns 2 r.length 4,.bool mo]) (mkD [.r .msg full sp el,.rn .msg q 31,.rn .msg r 31] 1)).ev =
    cond (!mo) (cond (okTa r.length r q.length q) (cond (sameL (List.take r.length r) (List.take q.length q)) (some (R.DV.bool true,(mkD [DO.r RK.msg full sp el] 1))) (some (R.DV.bool false,(mkD [DO.r RK.msg full sp el] 1)))) none) (some (R.DV.bool false,(mkD [DO.r RK.msg full sp el] 1))):=by kernel_rfl
theorem p4at1 (P1:PB1) (P2:PB2) (j n c:Nat) (ex:Bool) (full:List Msg) (sp:Bool) (el:R.EL) (a b k v:Txt) (th:Bool) (p q:List Msg) (u w:Nat) (z:Int) (m:Nat) (rd k1:R.EK) (y:List (Nat×R.EK)):(turnD C Y5 (fun _=>none) 420 81 1 0 bdy4 (ldB P1 P2) m [.ptr 1 0,.ns 2 u 4,.ns 3 w 4,.rs 0 j n c 4 ex,.int .i64 z] [.r .msg full sp el,.c [.str a,.str b,.str k,.str v,.bool th] false 24,.rn .msg p 31,.rn .msg q 31] rd k1 y).ev =
    cond (Nat.ble u p.length) (cond (decide (z<(↑u:Int))) (cond (ok19 full j n c) (cond (Nat.beq n 0) ((rd (envZ [4] [R.DV.bool false]) (mkD [DO.r RK.msg full sp el] 1)).ev) (cond (!!noP a b (seg full j n)) ((rd (envZ [4] [R.DV.bool false]) (mkD [DO.r RK.msg full sp el] 1)).ev) (cond (Nat.ble u p.length) (cond (decide (0<=z)&&decide (Int.toNat z<u)) (cond (Nat.blt z.toNat p.length) (cond ((decide (Prod.fst (firstM a b (seg full j n) zeroM)=Prod.fst (List.getD p z.toNat ((0,[],[],[]):Msg)))&&(decide (Prod.fst (Prod.snd (firstM a b (seg full j n) zeroM))=Prod.fst (Prod.snd (List.getD p z.toNat ((0,[],[],[]):Msg))))&&(decide (Prod.fst (Prod.snd (Prod.snd (firstM a b (seg full j n) zeroM)))=Prod.fst (Prod.snd (Prod.snd (List.getD p z.toNat ((0,[],[],[]):Msg)))))&&(decide (Prod.snd (Prod.snd (Prod.snd (firstM a b (seg full j n) zeroM)))=Prod.snd (Prod.snd (Prod.snd (List.getD p z.toNat ((0,[],[],[]):Msg)))))&&true)))) != true) ((rd (envZ [4] [R.DV.bool false]) (mkD [DO.r RK.msg full sp el] 1)).ev) (cond (decide (u-Int.toNat (IntKind.wrap .i64 (z+1))<m)) (cond (P2 a b p q (restF leftL a b (seg full j n)) u w (List.length (restF leftL a b (seg full j n))) (IntKind.wrap .i64 (z+1))) ((k1 (envZ [3,6,7] [R.DV.ptr 1 0,DV.ns 2 w 4,DV.ns 3 w 4]) (mkD [DO.r RK.msg full sp el,R.DO.c [R.DV.str a,R.DV.str b,R.DV.str k,R.DV.str v,R.DV.bool th] false 24,DO.rn RK.msg q 31,DO.rn RK.msg q 31] 1)).ev) none) none)) none) none) none))) none) ((k1 (envZ [3,6,7] [R.DV.ptr 1 0,DV.ns 2 w 4,DV.rs 0 j n c 4 ex]) (mkD [DO.r RK.msg full sp el,R.DO.c [R.DV.str a,R.DV.str b,R.DV.str k,R.DV.str v,R.DV.bool th] false 24,DO.rn RK.msg q 31] 1)).ev)) none:=by kernel_rfl
theorem p4at2 (P1:PB1) (P2:PB2) (j n c:Nat) (ex:Bool) (full:List Msg) (sp:Bool) (el:R.EL) (a b k v:Txt) (th:Bool) (p q r:List Msg) (u w x:Nat) (z:Int) (m:Nat) (rd k1:R.EK) (y:List (Nat×R.EK)):(turnD C Y5 (fun _=>none) 420 81 1 0 bdy4 (ldB P1 P2) m [.ptr 1 0,.ns 2 u 4,.ns 3 w 4,.ns 4 x 4,.int .i64 z] [.r .msg full sp el,.c [.str a,.str b,.str k,.str v,.bool th] false 24,.rn .msg p 31,.rn .msg q 31,.rn .msg r 31] rd k1 y).ev =
    cond (Nat.ble u p.length) (cond (decide (z<(↑u:Int))) (cond (Nat.beq x r.length&&Nat.blt x 199) (cond (!!noP a b r) ((rd (envZ [4] [R.DV.bool false]) (mkD [DO.r RK.msg full sp el] 1)).ev) (cond (Nat.ble u p.length) (cond (decide (0<=z)&&decide (Int.toNat z<u)) (cond (Nat.blt z.toNat p.length) (cond ((decide (Prod.fst (firstM a b r zeroM)=Prod.fst (List.getD p z.toNat ((0,[],[],[]):Msg)))&&(decide (Prod.fst (Prod.snd (firstM a b r zeroM))=Prod.fst (Prod.snd (List.getD p z.toNat ((0,[],[],[]):Msg))))&&(decide (Prod.fst (Prod.snd (Prod.snd (firstM a b r zeroM)))=Prod.fst (Prod.snd (Prod.snd (List.getD p z.toNat ((0,[],[],[]):Msg)))))&&(decide (Prod.snd (Prod.snd (Prod.snd (firstM a b r zeroM)))=Prod.snd (Prod.snd (Prod.snd (List.getD p z.toNat ((0,[],[],[]):Msg)))))&&true)))) != true) ((rd (envZ [4] [R.DV.bool false]) (mkD [DO.r RK.msg full sp el] 1)).ev) (cond (decide (u-Int.toNat (IntKind.wrap .i64 (z+1))<m)) (cond (P2 a b p q (restF leftL a b r) u w (List.length (restF leftL a b r)) (IntKind.wrap .i64 (z+1))) ((k1 (envZ [3,6,7] [R.DV.ptr 1 0,DV.ns 2 w 4,DV.ns 3 w 4]) (mkD [DO.r RK.msg full sp el,R.DO.c [R.DV.str a,R.DV.str b,R.DV.str k,R.DV.str v,R.DV.bool th] false 24,DO.rn RK.msg q 31,DO.rn RK.msg q 31] 1)).ev) none) none)) none) none) none)) none) ((k1 (envZ [3,6,7] [R.DV.ptr 1 0,DV.ns 2 w 4,DV.ns 3 x 4]) (mkD [DO.r RK.msg full sp el,R.DO.c [R.DV.str a,R.DV.str b,R.DV.str k,R.DV.str v,R.DV.bool th] false 24,DO.rn RK.msg q 31,DO.rn RK.msg r 31] 1)).ev)) none:=by kernel_rfl
theorem p4n0 (lh:Nat->Option LoopD) (a b k v:Txt) (th:Bool) (kk:R.EK):(pieceD C Y5 (s4 lh 0) 0 (R.envOfD [.nils,.agg [.str a,.str b,.str k,.str v,.bool th]] 0 .lf) (mkD [] 0) (neatK 0 (ce4 0) kk)).ev =
    (kk (envZ [0,3] [R.DV.nils,R.DV.ptr 0 0]) (mkD [R.DO.c [R.DV.str a,R.DV.str b,R.DV.str k,R.DV.str v,R.DV.bool th] false 24] 0)).ev:=by kernel_rfl
theorem p4n1 (lh:Nat->Option LoopD) (a b k v:Txt) (th:Bool) (kk:R.EK):(pieceD C Y5 (s4 lh 0) 1 (envZ [0,3] [.nils,.ptr 0 0]) (mkD [.c [.str a,.str b,.str k,.str v,.bool th] false 24] 0) (neatK 0 (ce4 1) kk)).ev =
    cond (decide ((↑a.length:Int)<=300)) (cond (decide ((↑b.length:Int)<=300)) (cond (decide ((↑k.length:Int)<=300)) (cond (!decide ((↑v.length:Int)<=300)) (some (R.DV.bool true,(mkD [] 0))) ((kk (envZ [0,3] [R.DV.nils,R.DV.ptr 0 0]) (mkD [R.DO.c [R.DV.str a,R.DV.str b,R.DV.str k,R.DV.str v,R.DV.bool th] false 24] 0)).ev)) (some (R.DV.bool true,(mkD [] 0)))) (some (R.DV.bool true,(mkD [] 0)))) (some (R.DV.bool true,(mkD [] 0))):=by kernel_rfl
theorem p4n2 (lh:Nat->Option LoopD) (a b k v:Txt) (th:Bool) (kk:R.EK):(pieceD C Y5 (s4 lh 0) 2 (envZ [0,3] [.nils,.ptr 0 0]) (mkD [.c [.str a,.str b,.str k,.str v,.bool th] false 24] 0) (neatK 0 (ce4 2) kk)).ev =
    (kk (envZ [0,3,5,6] [R.DV.nils,R.DV.ptr 0 0,R.DV.nils,R.DV.nils]) (mkD [R.DO.c [R.DV.str a,R.DV.str b,R.DV.str k,R.DV.str v,R.DV.bool th] false 24] 0)).ev:=by kernel_rfl
theorem p4n3 (lh:Nat->Option LoopD) (a b k v:Txt) (th:Bool) (kk:R.EK):(pieceD C Y5 (s4 lh 0) 3 (envZ [0,3,5,6] [.nils,.ptr 0 0,.nils,.nils]) (mkD [.c [.str a,.str b,.str k,.str v,.bool th] false 24] 0) (neatK 0 (ce4 3) kk)).ev =
    (kk (envZ [3,5,6,7] [R.DV.ptr 0 0,R.DV.nils,R.DV.nils,R.DV.nils]) (mkD [R.DO.c [R.DV.str a,R.DV.str b,R.DV.str k,R.DV.str v,R.DV.bool th] false 24] 0)).ev:=by kernel_rfl
theorem p4n4 (a b k v:Txt) (th:Bool) (kk:R.EK):(pieceD C Y5 (s4 (fun _=>none) 0) 4 (envZ [3,5,6,7] [.ptr 0 0,.nils,.nils,.nils]) (mkD [.c [.str a,.str b,.str k,.str v,.bool th] false 24] 0) (neatK 0 (ce4 4) kk)).ev =
    (kk (envZ [3,6,7] [R.DV.ptr 0 0,R.DV.nils,R.DV.nils]) (mkD [R.DO.c [R.DV.str a,R.DV.str b,R.DV.str k,R.DV.str v,R.DV.bool th] false 24] 0)).ev:=by kernel_rfl
theorem p4n5 (lh:Nat->Option LoopD) (a b k v:Txt) (th:Bool) (kk:R.EK):(pieceD C Y5 (s4 lh 0) 5 (envZ [3,6,7] [.ptr 0 0,.nils,.nils]) (mkD [.c [.str a,.str b,.str k,.str v,.bool th] false 24] 0) (neatK 0 (ce4 5) kk)).ev =
    (kk (envZ [6,7,14] [R.DV.nils,R.DV.nils,R.DV.bool false]) (mkD [] 0)).ev:=by kernel_rfl
theorem p4n6 (lh:Nat->Option LoopD) (a b k v:Txt) (th:Bool) (mo:Bool):(restD C Y5 (s4 lh 0) 6 (envZ [6,7,14] [.nils,.nils,.bool mo]) (mkD [] 0)).ev =
    cond (!mo) (some (R.DV.bool true,(mkD [] 0))) (some (R.DV.bool false,(mkD [] 0))):=by kernel_rfl
end
end Go.Vm.YtkjjpmbpjfmbcaaGreatDoor

namespace Go.Vm.YtkjjpmbpjfmbcaaGreatDoor
open Go.Proofs Go.Vm.R
noncomputable section
theorem less_no {a b:Txt} (h:Op.bytesLess a b=true):Op.bytesLess b a=false:=by
  cases h':Op.bytesLess b a with
  |false=>rfl
  |true=>have:=less_trans _ _ _ h h'; rw[less_irrefl] at this; cases this
theorem left_out {e : Msg} {x y : Txt} (h : partOk e x y = true) : ∀ m ∈ leftL e x y, partOk m x y = false := by
  intro m hm
  rw[left_eq h] at hm
  unfold leftR at hm
  cases h3:decide (e.1=3) with
  |false=>rw[h3] at hm; exact (List.not_mem_nil hm).elim
  |true =>
    rw[h3,cond_true] at hm
    rcases List.mem_append.1 hm with hm | hm
    · cases hl : Op.bytesLess e.2.1 x with
      |false=>rw[hl] at hm; exact (List.not_mem_nil hm).elim
      |true =>
        rw[hl,cond_true,List.mem_singleton] at hm
        subst hm
        have e2:Op.bytesLess (cond (Op.bytesLess e.2.1 x) x e.2.1) (cond (decide (y=[])) x (cond (Op.bytesLess y x) y x))=false:=by
          rw[hl,cond_true]
          cases decide (y=[]) with
          |true=>exact less_irrefl x
          |false =>
            cases hy:Op.bytesLess y x with
            |true=>exact less_no hy
            |false=>exact less_irrefl x
        show (mayB 3 e.2.1 x []&&cond (decide ((3:Int)=3)) (Op.bytesLess (cond (Op.bytesLess e.2.1 x) x e.2.1) (cond (decide (y=[])) x (cond (Op.bytesLess y x) y x))) _)=false
        rw[decide_eq_true (rfl:(3:Int)=3),cond_true,e2,Bool.and_false]
    . cases hb:(!decide (y=[])&&Op.bytesLess y e.2.2.1) with
      |false=>rw[hb] at hm; exact (List.not_mem_nil hm).elim
      |true =>
        rw[hb,cond_true,List.mem_singleton] at hm
        rw[Bool.and_eq_true,Bool.not_eq_true'] at hb
        subst hm
        have e2:Op.bytesLess (cond (Op.bytesLess y x) x y) (cond (decide (y=[])) e.2.2.1 (cond (Op.bytesLess y e.2.2.1) y e.2.2.1))=false:=by
          rw[hb.1,hb.2,cond_false,cond_true]
          cases hy:Op.bytesLess y x with
          |true=>exact less_no hy
          |false=>exact less_irrefl y
        show (mayB 3 y e.2.2.1 []&&cond (decide ((3:Int)=3)) (Op.bytesLess (cond (Op.bytesLess y x) x y) (cond (decide (y=[])) e.2.2.1 (cond (Op.bytesLess y e.2.2.1) y e.2.2.1))) _)=false
        rw[decide_eq_true (rfl:(3:Int)=3),cond_true,e2,Bool.and_false]
theorem out_in {x y:Txt}:∀ l:List Msg,(∀ m∈l,partOk m x y=false)->∀ r,inL x y (l++r)=inL x y r/\restL leftL x y (l++r)=l++restL leftL x y r
  |[],_,r=>⟨rfl,rfl⟩
  |m::l,h,r=>by
    obtain⟨h1,h2⟩:=out_in l (fun a ha=>h a (List.mem_cons_of_mem _ ha)) r
    have hm:=h m List.mem_cons_self
    constructor
    . show cond (partOk m x y) _ (inL x y (l++r))=_
      rw[hm]; exact h1
    . show cond (partOk m x y) _ [m]++restL leftL x y (l++r)=_
      rw[hm,h2]; rfl
theorem no_in {x y : Txt} : ∀ l : List Msg, noP x y l = true → inL x y l = [] ∧ restL leftL x y l = l
  |[],_=>⟨rfl,rfl⟩
  |m::r,h=>by
    have h:cond (partOk m x y) false (noP x y r)=true:=h
    cases hp:partOk m x y with
    |true=>rw[hp] at h; cases h
    |false =>
      rw[hp] at h
      obtain⟨h1,h2⟩:=no_in r h
      constructor
      . show cond (partOk m x y) _ (inL x y r)=_
        rw[hp]; exact h1
      . show cond (partOk m x y) _ [m]++restL leftL x y r=_
        rw[hp,h2]; rfl
theorem first_step {x y : Txt} : ∀ l : List Msg, noP x y l = false → inL x y l = firstM x y l zeroM :: inL x y (restF leftL x y l) ∧ restL leftL x y (restF leftL x y l) = restL leftL x y l
  |[],h=>by cases h
  |m::r,h=>by
    have h:cond (partOk m x y) false (noP x y r)=false:=h
    have e1:inL x y (m::r)=cond (partOk m x y) (partM m x y::inL x y r) (inL x y r):=rfl
    have e2:firstM x y (m::r) zeroM=cond (partOk m x y) (partM m x y) (firstM x y r zeroM):=rfl
    have e3:restF leftL x y (m::r)=cond (partOk m x y) (leftL m x y++r) (m::restF leftL x y r):=rfl
    have e4:restL leftL x y (m::r)=cond (partOk m x y) (leftL m x y) [m]++restL leftL x y r:=rfl
    rw[e1,e2,e3,e4]
    cases hp:partOk m x y with
    |true =>
      obtain⟨h1,h2⟩:=out_in (leftL m x y) (left_out hp) r
      simp only[cond_true]
      exact⟨by rw[h1],h2⟩
    |false =>
      rw[hp] at h
      obtain⟨h1,h2⟩:=first_step r h
      simp only[cond_false]
      constructor
      . show inL x y r=firstM x y r zeroM::cond (partOk m x y) _ (inL x y (restF leftL x y r))
        rw[hp]; exact h1
      . show cond (partOk m x y) _ [m]++restL leftL x y (restF leftL x y r)=_
        rw[hp,h2]; rfl
def PB2v:PB2:=fun a b p q r u w x z=>decide (u=p.length/\w=q.length/\x=r.length/\0<=z/\z<=u/\u<=60/\(r.length:Int)<=60+z/\inL a b r=p.drop z.toNat/\restL leftL a b r=q)
def PB1v:PB1:=fun full j n c a b p q u w z=>decide (z=0/\u=p.length/\w=q.length/\j+n<=full.length/\n<=60/\n<=c/\inL a b (seg full j n)=p/\restL leftL a b (seg full j n)=q)
theorem PB2_iff {a b:Txt}{p q r:List Msg}{u w x:Nat}{z:Int}:PB2v a b p q r u w x z=true<->(u=p.length/\w=q.length/\x=r.length/\0<=z/\z<=u/\u<=60/\(r.length:Int)<=60+z/\inL a b r=p.drop z.toNat/\restL leftL a b r=q):=by unfold PB2v; rw[decide_eq_true_eq]
theorem PB1_iff {full:List Msg}{j n c:Nat}{a b:Txt}{p q:List Msg}{u w:Nat}{z:Int}:PB1v full j n c a b p q u w z=true<->(z=0/\u=p.length/\w=q.length/\j+n<=full.length/\n<=60/\n<=c/\inL a b (seg full j n)=p/\restL leftL a b (seg full j n)=q):=by unfold PB1v; rw[decide_eq_true_eq]
theorem msg_self {m e:Msg} (h:m=e):((decide (m.1=e.1)&&(decide (m.2.1=e.2.1)&&(decide (m.2.2.1=e.2.2.1)&&(decide (m.2.2.2=e.2.2.2)&&true)))) != true)=false:=by
  subst h
  simp only[decide_true]; rfl
section
variable (j n c:Nat) (ex:Bool) (full:List Msg) (sp:Bool) (el:R.EL) (a b k v:Txt) (th:Bool)
theorem turn4b (p q r : List Msg) (u w x : Nat) (z : Int) (rd k1 : R.EK) (y : List (Nat × R.EK)) (o : R.DV × R.DH) (hp : PB2v a b p q r u w x z = true)
    (hw:(k1 (envZ [3,6,7] [.ptr 1 0,.ns 2 w 4,.ns 3 w 4]) (mkD [.r .msg full sp el,.c [.str a,.str b,.str k,.str v,.bool th] false 24,.rn .msg q 31,.rn .msg q 31] 1)).ev=some o) :
    (turnD C Y5 (fun _=>none) 420 81 1 0 bdy4 (ldB PB1v PB2v) (u-z.toNat) [.ptr 1 0,.ns 2 u 4,.ns 3 w 4,.ns 4 x 4,.int .i64 z] [.r .msg full sp el,.c [.str a,.str b,.str k,.str v,.bool th] false 24,.rn .msg p 31,.rn .msg q 31,.rn .msg r 31] rd k1 y).ev=some o:=by
  refine (p4at2 PB1v PB2v 0 0 0 true full sp el a b k v th p q r u w x z _ rd k1 y).trans ?_
  obtain⟨h1,h2,h3,h4,h5,h6,h7,h8,h9⟩:=PB2_iff.1 hp
  have cu:Nat.ble u p.length=true:=Nat.ble_eq_true_of_le (by omega)
  rw[cu,cond_true]
  by_cases hz:z<u
  . have hzp:z.toNat<p.length:=by omega
    rw[List.drop_eq_getElem_cons hzp] at h8
    have hno:noP a b r=false:=by
      cases h:noP a b r with
      |false=>rfl
      |true=>rw[(no_in r h).1] at h8; cases h8
    obtain⟨f1,f2⟩:=first_step r hno
    rw[f1] at h8
    obtain⟨g1,g2⟩:=List.cons.inj h8
    have hg:p.getD z.toNat ((0,[],[],[]):Msg)=firstM a b r zeroM:=by
      rw[List.getD_eq_getElem?_getD,List.getElem?_eq_getElem hzp,g1]; rfl
    have hlen:=restF_len (fun m x y=>leftL_len m x y) a b r
    have hx:(Nat.beq x r.length&&Nat.blt x 199)=true:=by
      rw[h3,show Nat.beq r.length r.length=true from Nat.beq_refl _,show Nat.blt r.length 199=true from Nat.ble_eq_true_of_le (show r.length+1<=199 by omega)]; rfl
    have hP:PB2v a b p q (restF leftL a b r) u w (restF leftL a b r).length (z+1)=true :=
      PB2_iff.2 ⟨h1,h2,rfl,by omega,by omega,h6,by omega,by rw[g2,show (z+1).toNat=z.toNat+1 by omega],by rw[f2,h9]⟩
    rw[cT hz,hx,cond_true,hno,Bool.not_false,Bool.not_true,cond_false,cA h4 (show z.toNat<u by omega)]
    refine (cB (m:=z.toNat) (n:=p.length) hzp).trans ?_
    refine (congrArg (fun t=>cond t _ _) (msg_self (m:=firstM a b r zeroM) (e:=p.getD z.toNat ((0,[],[],[]):Msg)) hg.symm)).trans ?_
    rw[cond_false,nextI h4 hz (by omega),cT (show u-(z+1).toNat<u-z.toNat by omega),hP]
    exact hw
  . have hr:r=q:=by
      have h0:inL a b r=[]:=by rw[h8]; exact List.drop_eq_nil_of_le (by omega)
      have hno:noP a b r=true:=by
        cases h:noP a b r with
        |true=>rfl
        |false=>rw[(first_step r h).1] at h0; cases h0
      rw[← h9,(no_in r hno).2]
    rw[cF hz,h3,hr,← h2]
    exact hw
theorem turn4a (p q:List Msg) (u w:Nat) (z:Int) (rd k1:R.EK) (y:List (Nat×R.EK)) (o:R.DV×R.DH) (hp:PB1v full j n c a b p q u w z=true)
    (hw:cond (Nat.beq u 0) (k1 (envZ [3,6,7] [.ptr 1 0,.ns 2 w 4,.rs 0 j n c 4 ex]) (mkD [.r .msg full sp el,.c [.str a,.str b,.str k,.str v,.bool th] false 24,.rn .msg q 31] 1)).ev
      (k1 (envZ [3,6,7] [.ptr 1 0,.ns 2 w 4,.ns 3 w 4]) (mkD [.r .msg full sp el,.c [.str a,.str b,.str k,.str v,.bool th] false 24,.rn .msg q 31,.rn .msg q 31] 1)).ev=some o) :
    (turnD C Y5 (fun _=>none) 420 81 1 0 bdy4 (ldB PB1v PB2v) (u-z.toNat) [.ptr 1 0,.ns 2 u 4,.ns 3 w 4,.rs 0 j n c 4 ex,.int .i64 z] [.r .msg full sp el,.c [.str a,.str b,.str k,.str v,.bool th] false 24,.rn .msg p 31,.rn .msg q 31] rd k1 y).ev=some o:=by
  refine (p4at1 PB1v PB2v j n c ex full sp el a b k v th p q u w z _ rd k1 y).trans ?_
  obtain⟨h0,h1,h2,h3,h4,h5,h8,h9⟩:=PB1_iff.1 hp
  subst h0
  have cu:Nat.ble u p.length=true:=Nat.ble_eq_true_of_le (by omega)
  have hl:(seg full j n).length=n:=seg_len h3
  have hpl:p.length<=n:=by
    have:=inL_len a b (seg full j n)
    rw[h8,hl] at this
    exact this
  rw[cu,cond_true]
  by_cases hz:(0:Int)<u
  . have hzp:(0:Int).toNat<p.length:=by show 0<p.length; omega
    have hno:noP a b (seg full j n)=false:=by
      cases h:noP a b (seg full j n) with
      |false=>rfl
      |true=>rw[(no_in _ h).1] at h8; rw[← h8] at h1; rw[h1] at hz; exact absurd hz (by show ¬ (0:Int)<((0:Nat):Int); omega)
    obtain⟨f1,f2⟩:=first_step (seg full j n) hno
    rw[f1] at h8
    have hg:p.getD (0:Int).toNat ((0,[],[],[]):Msg)=firstM a b (seg full j n) zeroM:=by rw[← h8]; rfl
    have hlen:=restF_len (fun m x y=>leftL_len m x y) a b (seg full j n)
    rw[hl] at hlen
    have hx:ok19 full j n c=true:=by unfold ok19; rw[decide_eq_true_eq]; exact⟨h3,by omega,h5⟩
    have hn0:Nat.beq n 0=false:=by cases n with | zero=>omega | succ m=>rfl
    have hu0:Nat.beq u 0=false:=by cases u with | zero=>omega | succ m=>rfl
    have hP:PB2v a b p q (restF leftL a b (seg full j n)) u w (restF leftL a b (seg full j n)).length (0+1)=true :=
      PB2_iff.2 ⟨h1,h2,rfl,by omega,by omega,by omega,by omega,by rw[← h8]; rfl,by rw[f2,h9]⟩
    rw[hu0,cond_false] at hw
    rw[cT hz,hx,cond_true,hn0,cond_false,hno,Bool.not_false,Bool.not_true,cond_false,cA (Int.le_refl 0) (show (0:Int).toNat<u by show 0<u; omega)]
    refine (cB (m:=(0:Int).toNat) (n:=p.length) hzp).trans ?_
    refine (congrArg (fun t=>cond t _ _) (msg_self (m:=firstM a b (seg full j n) zeroM) (e:=p.getD (0:Int).toNat ((0,[],[],[]):Msg)) hg.symm)).trans ?_
    rw[cond_false,nextI (Int.le_refl 0) hz (by omega),cT (show u-((0:Int)+1).toNat<u-(0:Int).toNat by show u-1<u-0; omega),hP]
    exact hw
  . have hu0:Nat.beq u 0=true:=by cases u with | zero=>rfl | succ m=>omega
    rw[hu0,cond_true] at hw
    rw[cF hz]
    exact hw
theorem loop4 {n':Nat} (hn:420<=n'):LoopOk C.G 1 (callO noTmps C.O C.tab n') n' 420 81 0 bdy4 (ldB PB1v PB2v):=by
  refine loop_of C Y5 (lh:=fun _=>none) hn ?_ (fun p _ ld h=>by cases h) ?_
  . exact wf_loops _ none (wf_body (f:=4) rfl) (0,bdy4) (by rw[show loopsIn none c4.body=[(0,bdy4)] from rfl]; exact List.mem_cons_self)
  intro vs ao m t hs rd k1 y w hw
  unfold ldB at hs
  simp only at hs
  split at hs
  case h_1 =>
    cases hs
    have h1:=lt_need hw
    exact turn4a _ _ _ _ _ _ _ _ _ _ _ _ _ _ _ _ _ rd k1 y w h1.1 ((lt_br _ _ _).symm.trans h1.2)
  case h_2 =>
    cases hs
    have h1:=lt_need hw
    exact turn4b _ _ _ _ _ _ _ _ _ _ _ _ _ _ _ rd k1 y w h1.1 h1.2
  case h_3=>cases hs
abbrev yes4:Option (R.DV×R.DH):=some (.bool true,mkD [.r .msg full sp el] 1)
theorem law4a : LawOk C.G C.O C.tab 4 421 [.r .msg full sp el] [.rs 0 j n c 4 ex, .agg [.str a, .str b, .str k, .str v, .bool th]] (.need (decide (j + n ≤ full.length ∧ n ≤ c ∧ c < 9223372036854775808)) (.v (.bool true) [])) := by
  refine law_cut C Y5 (s4 (lhX (ldB PB1v PB2v)) 1).lh (s4 (lhX (ldB PB1v PB2v)) 1).cs rfl rfl (fun n hn=>lhX_ok (Q:=fun i b ld=>LoopOk C.G 1 (callO noTmps C.O C.tab n) n 420 81 i b ld) rfl (loop4 hn)) fun z hz=>?_
  obtain⟨hp,hz⟩:=R.ev_need hz
  rw[decide_eq_true_eq] at hp
  obtain⟨p1,p2,p3⟩:=hp
  have hl:(seg full j n).length=n:=seg_len p1
  refine (run_at C Y5 (s4 (lhX (ldB PB1v PB2v)) 1) (l:=[.rs 0 j n c 4 ex,.agg [.str a,.str b,.str k,.str v,.bool th]]) (ao:=[.r .msg full sp el]) rfl rfl).trans (Eq.trans ?_ hz)
  show _=yes4 full sp el
  refine by_piece C Y5 (s4 (lhX (ldB PB1v PB2v)) 1) 0 rfl rfl (fun kk=>p4a0 _ j n c ex full sp el a b k v th kk) ?_
  refine by_piece C Y5 (s4 (lhX (ldB PB1v PB2v)) 1) 1 rfl rfl (fun kk=>p4a1 _ j n c ex full sp el a b k v th kk) ?_
  have h0:okS full j n 0=true:=okS_iff.2 ⟨by omega,by omega,p1,by omega⟩
  rw[h0,cond_true]
  cases hf:fewL (seg full j n) with
  |false=>rfl
  |true =>
    have hn:n<=60:=by
      unfold fewL at hf
      rw[Bool.and_eq_true,decide_eq_true_eq,hl] at hf
      omega
    have hk:okG full j n=true:=okG_iff.2 ⟨p1,by omega⟩
    rw[Bool.not_true,cond_false]
    cases decide ((a.length:Int)<=300) with
    |false=>rfl
    |true =>
      cases decide ((b.length:Int)<=300) with
      |false=>rfl
      |true =>
        cases decide ((k.length:Int)<=300) with
        |false=>rfl
        |true =>
          cases decide ((v.length:Int)<=300) with
          |false=>rfl
          |true =>
            simp only[Bool.not_true,cond_true,cond_false]
            refine by_piece C Y5 (s4 (lhX (ldB PB1v PB2v)) 1) 2 rfl rfl (fun kk=>p4a2 _ j n c ex full sp el a b k v th kk) ?_
            rw[hk,cond_true]
            have hpl:=inL_len a b (seg full j n)
            have hql:=restL_len (fun m x y=>leftL_len m x y) a b (seg full j n)
            rw[hl] at hpl hql
            generalize hpd:inL a b (seg full j n)=p at hpl
            generalize hqd:restL leftL a b (seg full j n)=q at hql
            refine by_piece C Y5 (s4 (lhX (ldB PB1v PB2v)) 1) 3 rfl rfl (fun kk=>p4a3 _ j n c ex full sp el a b k v th p q kk) ?_
            refine by_piece C Y5 (s4 (lhX (ldB PB1v PB2v)) 1) 4 rfl rfl (fun kk=>p4a4 PB1v PB2v j n c ex full sp el a b k v th p q kk) ?_
            have hP:PB1v full j n c a b p q p.length q.length 0=true:=PB1_iff.2 ⟨rfl,rfl,rfl,p1,hn,p2,hpd,hqd⟩
            rw[cT (show p.length-0<Cuts.lev (s4 (lhX (ldB PB1v PB2v)) 1) by show p.length-0<420; omega),hP,cond_true]
            cases hb:Nat.beq p.length 0 with
            |true =>
              have hp0:p=[]:=List.eq_nil_of_length_eq_zero (Nat.eq_of_beq_eq_true hb)
              have hno:noP a b (seg full j n)=true:=by
                cases h:noP a b (seg full j n) with
                |true=>rfl
                |false=>rw[(first_step _ h).1,hp0] at hpd; cases hpd
              have hq:q=seg full j n:=by rw[← hqd,(no_in _ hno).2]
              rw[cond_true]
              refine by_piece C Y5 (s4 (lhX (ldB PB1v PB2v)) 1) 5 rfl rfl (fun kk=>p4a5a _ j n c ex full sp el a b k v th q kk) ?_
              have h19:ok19 full j n c=true:=by unfold ok19; rw[decide_eq_true_eq]; exact⟨p1,by omega,p2⟩
              have e6:(restD C Y5 (s4 (lhX (ldB PB1v PB2v)) 1) 6 (envZ [6,7,14] [.ns 1 q.length 4,.rs 0 j n c 4 ex,.bool false]) (mkD [.r .msg full sp el,.rn .msg q 31] 1)).ev=yes4 full sp el:=by
                refine (p4a6a _ j n c ex full sp el a b k v th q false).trans ?_
                have hok:okTb j n full q.length q=true:=by unfold okTb; rw[decide_eq_true_eq]; exact⟨p1,Nat.le_refl _,by omega⟩
                rw[hok,List.take_length,hq]
                have:sameL (seg full j n) (seg full j n)=true:=decide_eq_true rfl
                rw[this]; rfl
              rw[h19,cond_true,hno,Bool.not_true]
              cases Nat.beq n 0<;>exact e6
            | false =>
              rw[cond_false]
              have hno:noP a b q=true:=by
                rw[← hqd]
                have:∀ l:List Msg,noP a b (restL leftL a b l)=true:=by
                  intro l
                  induction l with
                  |nil=>rfl
                  |cons m r ih =>
                    have hap:∀ (s t:List Msg),(∀ e∈s,partOk e a b=false)->noP a b t=true->noP a b (s++t)=true:=by
                      intro s t hs ht
                      induction s with
                      |nil=>exact ht
                      |cons e s ihs =>
                        show cond (partOk e a b) false (noP a b (s++t))=true
                        rw[hs e List.mem_cons_self]
                        exact ihs fun x hx=>hs x (List.mem_cons_of_mem _ hx)
                    show noP a b (cond (partOk m a b) (leftL m a b) [m]++restL leftL a b r)=true
                    refine hap _ _ (fun e he=>?_) ih
                    cases hm:partOk m a b with
                    |true=>rw[hm] at he; exact left_out hm e he
                    |false=>rw[hm] at he; rw[List.mem_singleton.1 he]; exact hm
                exact this _
              refine by_piece C Y5 (s4 (lhX (ldB PB1v PB2v)) 1) 5 rfl rfl (fun kk=>p4a5b _ j n c ex full sp el a b k v th q q kk) ?_
              have hq19:(Nat.beq q.length q.length&&Nat.blt q.length 199)=true:=by
                rw[show Nat.beq q.length q.length=true from Nat.beq_refl _,show Nat.blt q.length 199=true from Nat.ble_eq_true_of_le (show q.length+1<=199 by omega)]; rfl
              rw[hq19,cond_true,hno,Bool.not_true]
              refine (p4a6b _ j n c ex full sp el a b k v th q q false).trans ?_
              have hok:okTa q.length q q.length q=true:=by unfold okTa; rw[decide_eq_true_eq]; exact⟨Nat.le_refl _,Nat.le_refl _,by omega⟩
              rw[hok]
              have:sameL (q.take q.length) (q.take q.length)=true:=decide_eq_true rfl
              rw[this]; rfl
theorem law4n : LawOk C.G C.O C.tab 4 421 [] [.nils, .agg [.str a, .str b, .str k, .str v, .bool th]] (.v (.bool true) []) := by
  refine law_cut C Y5 (s4 (fun _=>none) 0).lh (s4 (fun _=>none) 0).cs rfl rfl (fun n hn p _ ld e=>by cases e) fun z hz=>?_
  refine (run_at C Y5 (s4 (fun _=>none) 0) (l:=[.nils,.agg [.str a,.str b,.str k,.str v,.bool th]]) (ao:=[]) rfl rfl).trans (Eq.trans ?_ hz)
  show _=some (R.DV.bool true,mkD [] 0)
  refine by_piece C Y5 (s4 (fun _=>none) 0) 0 rfl rfl (fun kk=>p4n0 _ a b k v th kk) ?_
  refine by_piece C Y5 (s4 (fun _=>none) 0) 1 rfl rfl (fun kk=>p4n1 _ a b k v th kk) ?_
  cases decide ((a.length:Int)<=300) with
  |false=>rfl
  |true =>
    cases decide ((b.length:Int)<=300) with
    |false=>rfl
    |true =>
      cases decide ((k.length:Int)<=300) with
      |false=>rfl
      |true =>
        cases decide ((v.length:Int)<=300) with
        |false=>rfl
        |true =>
          simp only[Bool.not_true,cond_true,cond_false]
          refine by_piece C Y5 (s4 (fun _=>none) 0) 2 rfl rfl (fun kk=>p4n2 _ a b k v th kk) ?_
          refine by_piece C Y5 (s4 (fun _=>none) 0) 3 rfl rfl (fun kk=>p4n3 _ a b k v th kk) ?_
          refine by_piece C Y5 (s4 (fun _=>none) 0) 4 rfl rfl (fun kk=>p4n4 a b k v th kk) ?_
          refine by_piece C Y5 (s4 (fun _=>none) 0) 5 rfl rfl (fun kk=>p4n5 _ a b k v th kk) ?_
          exact p4n6 _ a b k v th false
end
end
end Go.Vm.YtkjjpmbpjfmbcaaGreatDoor

namespace Go.Vm.YtkjjpmbpjfmbcaaGreatDoor
open Go.Proofs Go.Vm.R Go.Deep
noncomputable section
variable {H:Type}{enc:TypeId×Value->H}
inductive CellV:V->Value->Prop
  |int (z:Int):CellV (.int .i64 z) (.int .i64 z)
  |str (s:ByteArray):CellV (sv s.data.toList) (.string s)
theorem u22:Tryz.prog.underlying 22=some (.slice 31):=by kernel_rfl
theorem c31n:Tryz.prog.cellsOf 31=4:=by kernel_rfl
theorem c3n:Tryz.prog.cellsOf 3=1:=by kernel_rfl
theorem c9n:Tryz.prog.cellsOf 9=1:=by kernel_rfl
theorem pl31:plainT Tryz.prog 8 31=true:=by kernel_rfl
set_option maxRecDepth 100000 in
theorem trod_msg {w:World}{base:Nat}{sp:Nat->Bool}{hd:Bool}{fuel:Nat}{cs:List Value}{x:DataW H×List MemPlace} (h:DataW.trod enc Tryz.prog w base sp hd fuel 31 cs=some x) :
    ∃ (z:Int) (s1 s2 s3:ByteArray),cs=[.int .i64 z,.string s1,.string s2,.string s3]:=by
  obtain⟨xs,n,rfl,hx,hl,hxl,hall⟩:=DataW.trod_struct Tryz.underlying31 h
  rw[c31n] at hl
  match cs,hl with
  |[c0,c1,c2,c3],_ =>
    match xs,hxl with
    |[y0,y1,y2,y3],_ =>
      have f0:DataW.trod enc Tryz.prog w base sp hd n 3 (([c0,c1,c2,c3].drop 0).take (Tryz.prog.cellsOf 3))=some y0:=hall 0 _ rfl
      have f1:DataW.trod enc Tryz.prog w base sp hd n 9 (([c0,c1,c2,c3].drop 1).take (Tryz.prog.cellsOf 9))=some y1:=hall 1 _ rfl
      have f2:DataW.trod enc Tryz.prog w base sp hd n 9 (([c0,c1,c2,c3].drop 2).take (Tryz.prog.cellsOf 9))=some y2:=hall 2 _ rfl
      have f3:DataW.trod enc Tryz.prog w base sp hd n 9 (([c0,c1,c2,c3].drop 3).take (Tryz.prog.cellsOf 9))=some y3:=hall 3 _ rfl
      rw[c3n] at f0
      rw[c9n] at f1 f2 f3
      obtain⟨z,e0,_⟩:=DataW.trod_int Tryz.underlying3 f0
      obtain⟨s1,e1,_⟩:=DataW.trod_string Tryz.underlying9 f1
      obtain⟨s2,e2,_⟩:=DataW.trod_string Tryz.underlying9 f2
      obtain⟨s3,e3,_⟩:=DataW.trod_string Tryz.underlying9 f3
      simp at e0 e1 e2 e3
      exact⟨z,s1,s2,s3,by rw[e0,e1,e2,e3]⟩
theorem rowV_msg_get (full:List RK.msg.T) (i:Nat) (hi:i<full.length) (x:Int×List UInt8×List UInt8×List UInt8) (hx:full[i]? = some x):∀ q:Nat,q<4->(rowV .msg full)[4*i+q]? = ([V.int .i64 x.1,sv x.2.1,sv x.2.2.1,sv x.2.2.2]:List V)[q]? := by
  induction full generalizing i with
  |nil=>simp at hi
  |cons y r ih =>
    intro q hq
    cases i with
    |zero =>
      have:y=x:=Option.some.inj hx
      subst this
      have h4:q=0∨q=1∨q=2∨q=3:=by omega
      rcases h4 with rfl | rfl | rfl | rfl<;>rfl
    |succ i =>
      have:=ih i (by simpa using hi) (by simpa using hx) q hq
      rw[show 4*(i+1)+q=(4*i+q)+4 by omega]
      exact this
set_option maxRecDepth 100000 in
theorem open_msgs {W : World} {v : Value} {d : DataW H} {ps : List MemPlace} (h : DataW.Trod enc Tryz.prog W 0 (fun _ => true) true 22 v d ps) {base : Nat} (hval : Value.okWide Tryz.prog W .any base 22 v) :
    (v=.slice none 0 0/\∀ (W':World) (sp:Nat->Bool),DataW.Trod enc Tryz.prog W' 0 sp true 22 v d ps) ∨
    ∃ (a:Addr) (len cap:Nat) (full:List RK.msg.T) (cs:Array Value) (row:TypeId) (fr:Nat×Nat),v=.slice (some a) len cap/\a.spot=none/\len<=cap/\cap<=maxLen/\full.length=cap /\
      W.heap[a.block]? = some (.cells cs row fr)/\(∀ i v,(rowV .msg full)[i]? = some v->∃ x,cs[a.off+i]? = some x/\CellV v x) /\
      ∀ W',Kept W W'->∀ sp:Nat->Bool,(∀ p∈ps,sp p.block=true)->DataW.Trod enc Tryz.prog W' 0 sp true 22 v d ps:=by
  have hc:Cell.ok Tryz.prog W .any base 22 v:=by
    unfold Value.okWide at hval
    rw[u22] at hval
    simp only at hval
    unfold Cell.okWide at hval
    rw[u22] at hval
    exact hval
  obtain⟨fuel,h⟩:=h
  rcases open_slice u22 h with ⟨hcs,hx⟩ | ⟨a,len,cap,m,n,D,Pl,hcs,_,hlc,hm,hmm,hx,hel⟩
  . left
    unfold Cell.ok at hc
    rw[u22] at hc
    have hv:v=.slice none 0 0:=by
      cases v<;>first | exact hc.elim | skip
      rename_i a l c
      have:[Value.slice a l c]=[.slice none 0 0]:=hcs
      simpa using this
    refine⟨hv,fun W' sp=>⟨1,?_⟩⟩
    rw[hcs,hx]
    unfold DataW.trod
    simp only[u22]
  . right
    have hm':m=cap:=hmm
    subst hm'
    have hv:v=.slice (some a) len m:=by
      unfold Cell.ok at hc
      rw[u22] at hc
      cases v<;>first | exact hc.elim | skip
      rename_i a' l c
      have:[Value.slice a' l c]=[.slice (some a) len m]:=hcs
      simpa using this
    subst hv
    unfold Cell.ok at hc
    rw[u22] at hc
    obtain⟨_,_,_,hspot,row,cells,hsh,_⟩:=hc
    obtain⟨cs,fr,hb⟩:∃ cs fr,W.heap[a.block]? = some (.cells cs row fr):=by
      unfold World.shape? at hsh
      split at hsh
      . rename_i c el fr hb
        cases hsh
        exact⟨c,fr,hb⟩
      . cases hsh
    have hlt:a.block<W.heap.size:=(Array.getElem?_eq_some_iff.1 hb).1
    rw[c31n] at hel
    obtain⟨S,hS⟩:=choose_lt (α:=Int×ByteArray×ByteArray×ByteArray) (n:=m) (p:=fun i s=>W.cells? 0 (a.add (i*4)) 4=some [.int .i64 s.1,.string s.2.1,.string s.2.2.1,.string s.2.2.2]/\DataW.trod enc Tryz.prog W 0 (fun _=>true) true n 31 [.int .i64 s.1,.string s.2.1,.string s.2.2.1,.string s.2.2.2]=some (D i,Pl i)) (fun i hi=>by
      obtain⟨cs',h1,h2⟩:=hel i hi
      obtain⟨z,s1,s2,s3,rfl⟩:=trod_msg h2
      exact⟨(z,s1,s2,s3),h1,h2⟩)
    have hcell:∀ i,i<m->∀ q:Nat,q<4->cs[a.off+(4*i+q)]? = ([Value.int .i64 (S i).1,.string (S i).2.1,.string (S i).2.2.1,.string (S i).2.2.2]:List Value)[q]? := by
      intro i hi q hq
      obtain⟨_,_,h3⟩:=World.cells?_some (hS i hi).1
      have hadd:∀ j,a.add j=⟨a.block,a.off+j,none⟩:=by
        intro j
        obtain⟨b,o,sp⟩:=a
        have:sp=none:=hspot
        subst this
        exact WideShapes.add_plain b o j
      have c0:=h3 q hq
      rw[hadd,WideShapes.add_plain] at c0
      simp only[World.cell?,hb] at c0
      rw[show a.off+(4*i+q)=a.off+i*4+q by omega]
      simpa using c0
    have ex:∃ full:List (Int×List UInt8×List UInt8×List UInt8),full.length=m/\∀ k,k<m->full[k]? = some ((S k).1,(S k).2.1.data.toList,(S k).2.2.1.data.toList,(S k).2.2.2.data.toList) :=
      ⟨(List.range m).map (fun i=>((S i).1,(S i).2.1.data.toList,(S i).2.2.1.data.toList,(S i).2.2.2.data.toList)),by simp,fun k hk=>by simp[hk]⟩
    obtain⟨full,hfl,hfg⟩:∃ full:List RK.msg.T,full.length=m/\∀ k,k<m->full[k]? = some ((S k).1,(S k).2.1.data.toList,(S k).2.2.1.data.toList,(S k).2.2.2.data.toList):=ex
    refine⟨a,len,m,full,cs,row,fr,rfl,hspot,hlc,hm,hfl,hb,?_,?_⟩
    . intro i v hiv
      have hlen:i<m*4:=by
        have:=(List.getElem?_eq_some_iff.1 hiv).1
        rw[rowV_len,hfl] at this
        exact this
      have hk:i / 4<m:=by omega
      have hg:=rowV_msg_get full (i / 4) (by rw[hfl]; exact hk) _ (hfg _ hk)
      have hcc:=hcell (i / 4) hk (i%4) (by omega)
      have hi4:4*(i / 4)+i%4=i:=by omega
      have hg:=hg (i%4) (by omega)
      rw[hi4] at hcc hg
      rw[hg] at hiv
      generalize S (i / 4)=q at *
      have h4:i%4=0∨i%4=1∨i%4=2∨i%4=3:=by omega
      rcases h4 with h | h | h | h<;>rw[h] at hiv hcc<;>cases hiv
      . exact⟨_,hcc,.int _⟩
      . exact⟨_,hcc,.str _⟩
      . exact⟨_,hcc,.str _⟩
      . exact⟨_,hcc,.str _⟩
    · intro W' k sp hsp
      have hx1:=congrArg Prod.fst hx
      have hx2:=congrArg Prod.snd hx
      simp only at hx1 hx2
      have hread:∀ i,i<m->∃ cs' n',W'.cells? 0 (a.add (i*Tryz.prog.cellsOf 31)) (Tryz.prog.cellsOf 31)=some cs'/\DataW.trod enc Tryz.prog W' 0 sp true n' 31 cs'=some (D i,Pl i):=by
        intro i hi
        obtain⟨h1,h2⟩:=hS i hi
        refine⟨_,n,?_,(trod_plain n 8 31 _ _ pl31 h2).1⟩
        rw[c31n]
        refine cells_kept k h1 ?_
        have:(a.add (i*4)).block=a.block:=by unfold Addr.add; split<;>rfl
        rw[this]; exact hlt
      rw[hx1,hx2]
      cases hs:sp a.block with
      |true=>exact shut_slice_whole u22 (Nat.zero_le _) hlc hm hs D Pl hread
      | false =>
        have h0:m=0:=by
          rcases Nat.eq_zero_or_pos m with h | h
          . exact h
          . exfalso
            have hmem:MemPlace.cell a.block a.off∈ps:=by
              rw[hx2,c31n]
              refine List.mem_append_left _ ?_
              unfold MemPlace.row
              simp only[List.mem_map,List.mem_range]
              exact⟨0,by omega,by simp⟩
            have:=hsp _ hmem
            rw[show (MemPlace.cell a.block a.off).block=a.block from rfl,hs] at this
            cases this
        subst h0
        obtain rfl:len=0:=by omega
        exact shut_slice u22 (Nat.zero_le _) hlc hm hs D Pl (fun i hi=>absurd hi (by omega))
theorem msg_at {W : World} {B : Base} {el : Nat → Nat} (hW : BaseAt B el W) (hB : B = []) (hother : ∃ g cs e fr, W.heap[g]? = some (.cells cs e fr) ∧ ∀ y ∈ B, y.1 ≠ g)
    {a:Addr}{len cap:Nat}{full:List RK.msg.T}{cs:Array Value}{row:TypeId}{fr:Nat×Nat} (hspot:a.spot=none) (hlc:len<=cap) (hfl:full.length=cap) (hb:W.heap[a.block]? = some (.cells cs row fr))
    (hc:∀ i v,(rowV .msg full)[i]? = some v->∃ x,cs[a.off+i]? = some x/\CellV v x) (n:Nat) :
    ∃ (p:Pl) (e z:Nat),RowAt W B p (rowV .msg full) e z/\∀ ρ h,ρ n=some p->VRel ρ h (R.toV (fun s=>n+s) (.rs 0 0 len cap 4 true)) (.slice (some a) len cap):=by
  have hlen:(rowV .msg full).length=cap*4:=by rw[rowV_len,hfl]; rfl
  rcases Nat.eq_zero_or_pos cap with h0 | h0
  . obtain⟨g,cs2,e2,fr2,hg,hne⟩:=hother
    refine⟨⟨g,0,cs2.size⟩,e2,fr2.2,⟨⟨cs2,fr2,hg,rfl,?_,?_,?_⟩,hne⟩,fun ρ h hρ=>?_⟩
    . rw[hlen,h0]; show 0+0*4<=cs2.size; omega
    . show fr2.2<=0+fr2.2; omega
    . intro i v hiv
      have:=(List.getElem?_eq_some_iff.1 hiv).1
      omega
    . subst h0
      obtain rfl:len=0:=by omega
      exact .sl (p:=⟨g,0,cs2.size⟩) hρ (Nat.le_refl _) (Nat.le_refl _) (fun _=>rfl) (fun h=>absurd h (Nat.lt_irrefl 0)) (by show 0+0*4+0*4<=cs2.size; omega)
  . have hlast:a.off+cap*4<=cs.size:=by
      have hi:cap*4-1<(rowV .msg full).length:=by omega
      obtain⟨s,hs,_⟩:=hc (cap*4-1) _ (List.getElem?_eq_getElem hi)
      have:=(Array.getElem?_eq_some_iff.1 hs).1
      omega
    refine⟨⟨a.block,a.off,cs.size⟩,row,fr.2,⟨⟨cs,fr,hb,rfl,?_,?_,?_⟩,?_⟩,fun ρ h hρ=>?_⟩
    . rw[hlen]; exact hlast
    . show fr.2<=a.off+fr.2; omega
    . intro i v hiv
      obtain⟨x,hs,hv⟩:=hc i v hiv
      refine⟨_,hs,?_⟩
      cases hv with
      |int z=>exact .int _ z
      |str s=>exact .str s
    . intro y hy
      rw[hB] at hy; cases hy
    . obtain⟨b,o,sp⟩:=a
      have:sp=none:=hspot
      subst this
      refine .sl (p:=⟨b,o,cs.size⟩) hρ hlc (Nat.le_refl _) (fun _=>rfl) (fun _=>?_) ?_
      . show (⟨b,o,none⟩:Addr)=⟨b,o+0*4,none⟩
        rw[Nat.zero_mul,Nat.add_zero]
      . show o+0*4+cap*4<=cs.size
        have:o+cap*4<=cs.size:=hlast
        omega
end
end Go.Vm.YtkjjpmbpjfmbcaaGreatDoor

namespace Go.Vm.YtkjjpmbpjfmbcaaGreatDoor
open Go.Proofs Go.Vm.R Go.Deep
noncomputable section
theorem base_lt:∀ x∈base,x.1<Tryz.prog.globals.size:=fun x hx=>by cases hx
theorem gl_eq (n:Nat) (h:n=7) (hlt:∀ x∈base,x.1<n):gl=glBase n base hlt:=by subst h; rfl
theorem G_eq:C.G=glBase Tryz.prog.globals.size base base_lt:=gl_eq _ globals4 _
theorem base_meets (el:Nat->Nat):meets (baseH Tryz.prog.globals.size base el) base=true:=rfl
theorem other_of {W:World} (h:W.ShapedOpen Tryz.prog):∃ g cs e fr,W.heap[g]? = some (.cells cs e fr)/\∀ y∈base,y.1 ≠ g:=by
  have hr:(((begin Tryz.prog (fun _ _=>0) default).world.heap[1]?).bind Obj.row?).isSome=true:=by kernel_rfl
  obtain⟨⟨zero,t⟩,hr⟩:=Option.isSome_iff_exists.1 hr
  obtain⟨cs,hc,_⟩:=h.1 1 zero t (by rw[globals4]; decide) hr
  exact⟨1,cs,t,_,hc,fun y hy=>by cases hy⟩
section
variable {H:Type}{enc:TypeId×Value->H}{w:World}{b0:Nat}{sp:Nat->Bool}{hd:Bool}{v:Value}{d:DataW H}{ps:List MemPlace}
theorem agg5 (h:v.cells.toList.length=5):∃ a b c d e,v=.agg #[a,b,c,d,e]:=by
  obtain⟨cs,rfl,hl⟩:=Vm.agg_of_cells (n:=3) h
  obtain⟨l⟩:=cs
  match l,hl with
  |[a,b,c,d,e],_=>exact⟨a,b,c,d,e,rfl⟩
theorem c24n:Tryz.prog.cellsOf 24=5:=by kernel_rfl
theorem c4n:Tryz.prog.cellsOf 4=1:=by kernel_rfl
set_option maxRecDepth 100000 in
theorem rng_of (h:DataW.Trod enc Tryz.prog w b0 sp hd 24 v d ps):∃ (s1 s2 s3 s4:ByteArray) (b:Bool),v=.agg #[.string s1,.string s2,.string s3,.string s4,.bool b]:=by
  obtain⟨fuel,hf⟩:=h
  obtain⟨xs,n,rfl,hx,hl,hxl,hall⟩:=DataW.trod_struct Tryz.underlying24 hf
  rw[c24n] at hl
  obtain⟨v0,v1,v2,v3,v4,hv⟩:=agg5 hl
  subst hv
  match xs,hxl with
  |[y0,y1,y2,y3,y4],_ =>
    have f0:DataW.trod enc Tryz.prog w b0 sp hd n 9 (([v0,v1,v2,v3,v4].drop 0).take (Tryz.prog.cellsOf 9))=some y0:=hall 0 _ rfl
    have f1:DataW.trod enc Tryz.prog w b0 sp hd n 9 (([v0,v1,v2,v3,v4].drop 1).take (Tryz.prog.cellsOf 9))=some y1:=hall 1 _ rfl
    have f2:DataW.trod enc Tryz.prog w b0 sp hd n 9 (([v0,v1,v2,v3,v4].drop 2).take (Tryz.prog.cellsOf 9))=some y2:=hall 2 _ rfl
    have f3:DataW.trod enc Tryz.prog w b0 sp hd n 9 (([v0,v1,v2,v3,v4].drop 3).take (Tryz.prog.cellsOf 9))=some y3:=hall 3 _ rfl
    have f4:DataW.trod enc Tryz.prog w b0 sp hd n 4 (([v0,v1,v2,v3,v4].drop 4).take (Tryz.prog.cellsOf 4))=some y4:=hall 4 _ rfl
    rw[c9n] at f0 f1 f2 f3
    rw[c4n] at f4
    obtain⟨s1,e1,_⟩:=DataW.trod_string Tryz.underlying9 f0
    obtain⟨s2,e2,_⟩:=DataW.trod_string Tryz.underlying9 f1
    obtain⟨s3,e3,_⟩:=DataW.trod_string Tryz.underlying9 f2
    obtain⟨s4,e4,_⟩:=DataW.trod_string Tryz.underlying9 f3
    obtain⟨b,e5,_⟩:=DataW.trod_bool Tryz.underlying4 f4
    simp at e1 e2 e3 e4 e5
    exact⟨s1,s2,s3,s4,b,by rw[e1,e2,e3,e4,e5]⟩
end
end
end Go.Vm.YtkjjpmbpjfmbcaaGreatDoor
