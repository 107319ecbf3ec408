/-
  The law of run.Apply.
  The law of run.Apply, as calls know it.
  The table for RunEach.
  What a message makes of a list in order: it is in order again, and each key has what the message makes of it.
  RunEach, piece by piece; its loop.
  The law of RunEach.
  The laws of layer 16 at the model's level: what the shells share.
  How messages and texts stand in memory: what an argument of these types is.
-/
import Derived.Test.YtkjjpmbpjfmbcaaGreatDoorQ12
import Derived.Test.YtkjjpmbpjfmbcaaGreatDoorQ11
import Derived.Test.YtkjjpmbpjfmbcaaGreatDoorRows
import Derived.KernelRfl
import Derived.ChangeMaps5
set_option linter.unusedVariables false
set_option linter.unusedSimpArgs false
namespace Go.Vm.YtkjjpmbpjfmbcaaGreatDoor
open Go.Proofs Go.Vm.R
noncomputable section
set_option maxRecDepth 10000
def ce35 (n:Nat):List R.Hint:=match n with
  |0=>hn [0,3]
  |1=>hn [0,3]
  |2=>hn [0,3,5]
  |3=>hn [0,3,5]
  |4=>hn [0,3,5,6,7,8]
  |5=>hn [0,3,5,6,7,8]
  |6=>hn [0,3,5,6,9,10]
  |_=>hn [0,3,5,6,9]
def s35 (N:Nat):Cuts:=⟨fun _=>none,110,N,c35,[some (ce35 0),some (ce35 1),some (ce35 2),some (ce35 3),some (ce35 4),some (ce35 5),some (ce35 6),some (ce35 7)]⟩
theorem p35a0 (A:FA) (j n c:Nat) (ex:Bool) (full:List Ent) (sp:Bool) (el:R.EL) (op:Int) (k t w:Txt) (kk:R.EK):(pieceD (CA A.mf A.h) (Y6 A) (s35 1) 0 (R.envOfD [.rs 0 j n c 2 ex,.agg [.int .i64 op,.str k,.str t,.str w]] 0 .lf) (mkD [.r .ent full sp el] 1) (neatK 1 (ce35 0) kk)).ev =
    (kk (envZ [0,3] [DV.rs 0 j n c 2 ex,R.DV.ptr 1 0]) (mkD [DO.r RK.ent full sp el,R.DO.c [R.DV.int .i64 op,R.DV.str k,R.DV.str t,R.DV.str w] false 31] 1)).ev:=by kernel_rfl
theorem p35a1 (A:FA) (j n c:Nat) (ex:Bool) (full:List Ent) (sp:Bool) (el:R.EL) (op:Int) (k t w:Txt) (kk:R.EK):(pieceD (CA A.mf A.h) (Y6 A) (s35 1) 1 (envZ [0,3] [.rs 0 j n c 2 ex,.ptr 1 0]) (mkD [.r .ent full sp el,.c [.int .i64 op,.str k,.str t,.str w] false 31] 1) (neatK 1 (ce35 1) kk)).ev =
    cond (okN full j n) (cond (chkB (seg full j n)) (cond (mayB op k t w) ((kk (envZ [0,3] [DV.rs 0 j n c 2 ex,R.DV.ptr 1 0]) (mkD [DO.r RK.ent full sp el,R.DO.c [R.DV.int .i64 op,R.DV.str k,R.DV.str t,R.DV.str w] false 31] 1)).ev) (cond (okN full j n) (cond (Nat.beq n 0) (some (DV.rs 1 0 0 0 2 true,(mkD [DO.r RK.ent full sp el,DO.r RK.ent [] false 41] 1))) (some (DV.rs 1 0 n n 2 false,(mkD [DO.r RK.ent full sp el,DO.r RK.ent (seg full j n) true 41] 1)))) none)) (cond (okN full j n) (cond (Nat.beq n 0) (some (DV.rs 1 0 0 0 2 true,(mkD [DO.r RK.ent full sp el,DO.r RK.ent [] false 41] 1))) (some (DV.rs 1 0 n n 2 false,(mkD [DO.r RK.ent full sp el,DO.r RK.ent (seg full j n) true 41] 1)))) none)) none:=by kernel_rfl
theorem p35a2 (A:FA) (j n c:Nat) (ex:Bool) (full:List Ent) (sp:Bool) (el:R.EL) (op:Int) (k t w:Txt) (kk:R.EK):(pieceD (CA A.mf A.h) (Y6 A) (s35 1) 2 (envZ [0,3] [.rs 0 j n c 2 ex,.ptr 1 0]) (mkD [.r .ent full sp el,.c [.int .i64 op,.str k,.str t,.str w] false 31] 1) (neatK 1 (ce35 2) kk)).ev =
    cond (okN full j n&&(decide (n<99)&&chkB (seg full j n))) ((kk (envZ [0,3,5] [DV.rs 0 j n c 2 ex,R.DV.ptr 1 0,R.DV.int .i64 (↑(FA.cn A k (seg full j n)):Int)]) (mkD [DO.r RK.ent full sp el,R.DO.c [R.DV.int .i64 op,R.DV.str k,R.DV.str t,R.DV.str w] false 31] 1)).ev) none:=by kernel_rfl
theorem p35a3 (A:FA) (j n c:Nat) (ex:Bool) (full:List Ent) (sp:Bool) (el:R.EL) (op:Int) (k t w:Txt) (i:Int) (kk:R.EK):(pieceD (CA A.mf A.h) (Y6 A) (s35 1) 3 (envZ [0,3,5] [.rs 0 j n c 2 ex,.ptr 1 0,.int .i64 i]) (mkD [.r .ent full sp el,.c [.int .i64 op,.str k,.str t,.str w] false 31] 1) (neatK 1 (ce35 3) kk)).ev =
    cond (decide (op=3)) (cond (okN full j n&&(decide (n<99)&&chkB (seg full j n))) (cond (ok73 full j n c i (↑(FA.cn A t (seg full j n)):Int)) (some (DV.rs 1 0 (List.length (FA.bf A (seg full j n) i.toNat (Int.toNat (↑(FA.cn A t (seg full j n)):Int)) [])) (List.length (FA.bf A (seg full j n) i.toNat (Int.toNat (↑(FA.cn A t (seg full j n)):Int)) [])) 2 true,(mkD [DO.r RK.ent full sp el,DO.r RK.ent (FA.bf A (seg full j n) i.toNat (Int.toNat (↑(FA.cn A t (seg full j n)):Int)) []) false { e:=41,z:=0 }] 1))) none) none) ((kk (envZ [0,3,5] [DV.rs 0 j n c 2 ex,R.DV.ptr 1 0,R.DV.int .i64 i]) (mkD [DO.r RK.ent full sp el,R.DO.c [R.DV.int .i64 op,R.DV.str k,R.DV.str t,R.DV.str w] false 31] 1)).ev):=by kernel_rfl
theorem p35a4 (A:FA) (j n c:Nat) (ex:Bool) (full:List Ent) (sp:Bool) (el:R.EL) (op:Int) (k t w:Txt) (i:Int) (kk:R.EK):(pieceD (CA A.mf A.h) (Y6 A) (s35 1) 4 (envZ [0,3,5] [.rs 0 j n c 2 ex,.ptr 1 0,.int .i64 i]) (mkD [.r .ent full sp el,.c [.int .i64 op,.str k,.str t,.str w] false 31] 1) (neatK 1 (ce35 4) kk)).ev =
    (kk (envZ [0,3,5,6,7,8] [DV.rs 0 j n c 2 ex,R.DV.ptr 1 0,R.DV.int .i64 i,R.DV.int .i64 i,R.DV.str [],R.DV.bool false]) (mkD [DO.r RK.ent full sp el,R.DO.c [R.DV.int .i64 op,R.DV.str k,R.DV.str t,R.DV.str w] false 31] 1)).ev:=by kernel_rfl
theorem p35a5 (A:FA) (j n c:Nat) (ex:Bool) (full:List Ent) (sp:Bool) (el:R.EL) (op:Int) (k t w:Txt) (i jj:Int) (kk:R.EK):(pieceD (CA A.mf A.h) (Y6 A) (s35 1) 5 (envZ [0,3,5,6,7,8] [.rs 0 j n c 2 ex,.ptr 1 0,.int .i64 i,.int .i64 jj,.str [],.bool false]) (mkD [.r .ent full sp el,.c [.int .i64 op,.str k,.str t,.str w] false 31] 1) (neatK 1 (ce35 5) kk)).ev =
    cond (decide (i<(↑n:Int))) (cond (decide (0<=i)&&decide (Int.toNat i<n)) (cond (Nat.blt (j+Int.toNat i) full.length) (cond (decide (Prod.fst (List.getD full (j+Int.toNat i) ((([],[]):Ent)))=k)) (cond (decide (0<=i)&&decide (Int.toNat i<n)) (cond (Nat.blt (j+Int.toNat i) full.length) ((kk (envZ [0,3,5,6,7,8] [DV.rs 0 j n c 2 ex,R.DV.ptr 1 0,R.DV.int .i64 i,R.DV.int .i64 (IntKind.wrap .i64 (i+1)),R.DV.str (Prod.snd (List.getD full (j+Int.toNat i) ((([],[]):Ent)))),R.DV.bool true]) (mkD [DO.r RK.ent full sp el,R.DO.c [R.DV.int .i64 op,R.DV.str k,R.DV.str t,R.DV.str w] false 31] 1)).ev) none) none) ((kk (envZ [0,3,5,6,7,8] [DV.rs 0 j n c 2 ex,R.DV.ptr 1 0,R.DV.int .i64 i,R.DV.int .i64 jj,R.DV.str [],R.DV.bool false]) (mkD [DO.r RK.ent full sp el,R.DO.c [R.DV.int .i64 op,R.DV.str k,R.DV.str t,R.DV.str w] false 31] 1)).ev)) none) none) ((kk (envZ [0,3,5,6,7,8] [DV.rs 0 j n c 2 ex,R.DV.ptr 1 0,R.DV.int .i64 i,R.DV.int .i64 jj,R.DV.str [],R.DV.bool false]) (mkD [DO.r RK.ent full sp el,R.DO.c [R.DV.int .i64 op,R.DV.str k,R.DV.str t,R.DV.str w] false 31] 1)).ev):=by kernel_rfl
theorem p35a6 (A:FA) (j n c:Nat) (ex:Bool) (full:List Ent) (sp:Bool) (el:R.EL) (op:Int) (k t w:Txt) (i jj:Int) (v:Txt) (th:Bool) (kk:R.EK):(pieceD (CA A.mf A.h) (Y6 A) (s35 1) 6 (envZ [0,3,5,6,7,8] [.rs 0 j n c 2 ex,.ptr 1 0,.int .i64 i,.int .i64 jj,.str v,.bool th]) (mkD [.r .ent full sp el,.c [.int .i64 op,.str k,.str t,.str w] false 31] 1) (neatK 1 (ce35 6) kk)).ev =
    cond (decide (List.length v<4611686018427387904)) ((kk (envZ [0,3,5,6,9,10] [DV.rs 0 j n c 2 ex,R.DV.ptr 1 0,R.DV.int .i64 i,R.DV.int .i64 jj,R.DV.str (Prod.fst (FA.mf A op k t w k v th)),R.DV.bool (Prod.snd (FA.mf A op k t w k v th))]) (mkD [DO.r RK.ent full sp el,R.DO.c [R.DV.int .i64 op,R.DV.str k,R.DV.str t,R.DV.str w] false 31] 1)).ev) none:=by kernel_rfl
theorem p35a7 (A:FA) (j n c:Nat) (ex:Bool) (full:List Ent) (sp:Bool) (el:R.EL) (op:Int) (k t w:Txt) (i jj:Int) (y:Txt) (z:Bool) (kk:R.EK):(pieceD (CA A.mf A.h) (Y6 A) (s35 1) 7 (envZ [0,3,5,6,9,10] [.rs 0 j n c 2 ex,.ptr 1 0,.int .i64 i,.int .i64 jj,.str y,.bool z]) (mkD [.r .ent full sp el,.c [.int .i64 op,.str k,.str t,.str w] false 31] 1) (neatK 1 (ce35 7) kk)).ev =
    cond (!z) (cond (ok73 full j n c i jj) (some (DV.rs 1 0 (List.length (FA.bf A (seg full j n) i.toNat (Int.toNat jj) [])) (List.length (FA.bf A (seg full j n) i.toNat (Int.toNat jj) [])) 2 true,(mkD [DO.r RK.ent full sp el,DO.r RK.ent (FA.bf A (seg full j n) i.toNat (Int.toNat jj) []) false { e:=41,z:=0 }] 1))) none) ((kk (envZ [0,3,5,6,9] [DV.rs 0 j n c 2 ex,R.DV.ptr 1 0,R.DV.int .i64 i,R.DV.int .i64 jj,R.DV.str y]) (mkD [DO.r RK.ent full sp el,R.DO.c [R.DV.int .i64 op,R.DV.str k,R.DV.str t,R.DV.str w] false 31] 1)).ev):=by kernel_rfl
theorem p35a8 (A:FA) (j n c:Nat) (ex:Bool) (full:List Ent) (sp:Bool) (el:R.EL) (op:Int) (k t w:Txt) (i jj:Int) (y:Txt):(restD (CA A.mf A.h) (Y6 A) (s35 1) 8 (envZ [0,3,5,6,9] [.rs 0 j n c 2 ex,.ptr 1 0,.int .i64 i,.int .i64 jj,.str y]) (mkD [.r .ent full sp el,.c [.int .i64 op,.str k,.str t,.str w] false 31] 1)).ev =
    cond (ok73 full j n c i jj) (some (DV.rs 1 0 (List.length (FA.bf A (seg full j n) i.toNat (Int.toNat jj) [(k,y)])) (List.length (FA.bf A (seg full j n) i.toNat (Int.toNat jj) [(k,y)])) 2 true,(mkD [DO.r RK.ent full sp el,DO.r RK.ent (FA.bf A (seg full j n) i.toNat (Int.toNat jj) [(k,y)]) false { e:=41,z:=0 }] 1))) none:=by kernel_rfl
theorem p35n0 (A:FA) (op:Int) (k t w:Txt) (kk:R.EK):(pieceD (CA A.mf A.h) (Y6 A) (s35 0) 0 (R.envOfD [.nils,.agg [.int .i64 op,.str k,.str t,.str w]] 0 .lf) (mkD [] 0) (neatK 0 (ce35 0) kk)).ev =
    (kk (envZ [0,3] [R.DV.nils,R.DV.ptr 0 0]) (mkD [R.DO.c [R.DV.int .i64 op,R.DV.str k,R.DV.str t,R.DV.str w] false 31] 0)).ev:=by kernel_rfl
theorem p35n1 (A:FA) (op:Int) (k t w:Txt) (kk:R.EK):(pieceD (CA A.mf A.h) (Y6 A) (s35 0) 1 (envZ [0,3] [.nils,.ptr 0 0]) (mkD [.c [.int .i64 op,.str k,.str t,.str w] false 31] 0) (neatK 0 (ce35 1) kk)).ev =
    cond (mayB op k t w) ((kk (envZ [0,3] [R.DV.nils,R.DV.ptr 0 0]) (mkD [R.DO.c [R.DV.int .i64 op,R.DV.str k,R.DV.str t,R.DV.str w] false 31] 0)).ev) (some (R.DV.nils,(mkD [] 0))):=by kernel_rfl
theorem p35n2 (A:FA) (op:Int) (k t w:Txt) (kk:R.EK):(pieceD (CA A.mf A.h) (Y6 A) (s35 0) 2 (envZ [0,3] [.nils,.ptr 0 0]) (mkD [.c [.int .i64 op,.str k,.str t,.str w] false 31] 0) (neatK 0 (ce35 2) kk)).ev =
    (kk (envZ [0,3,5] [R.DV.nils,R.DV.ptr 0 0,R.DV.int .i64 0]) (mkD [R.DO.c [R.DV.int .i64 op,R.DV.str k,R.DV.str t,R.DV.str w] false 31] 0)).ev:=by kernel_rfl
theorem p35n3 (A:FA) (op:Int) (k t w:Txt) (i:Int) (kk:R.EK):(pieceD (CA A.mf A.h) (Y6 A) (s35 0) 3 (envZ [0,3,5] [.nils,.ptr 0 0,.int .i64 0]) (mkD [.c [.int .i64 op,.str k,.str t,.str w] false 31] 0) (neatK 0 (ce35 3) kk)).ev =
    cond (decide (op=3)) (some (DV.rs 0 0 0 0 2 true,(mkD [DO.r RK.ent [] false { e:=41,z:=0 }] 0))) ((kk (envZ [0,3,5] [R.DV.nils,R.DV.ptr 0 0,R.DV.int .i64 0]) (mkD [R.DO.c [R.DV.int .i64 op,R.DV.str k,R.DV.str t,R.DV.str w] false 31] 0)).ev):=by kernel_rfl
theorem p35n4 (A:FA) (op:Int) (k t w:Txt) (i:Int) (kk:R.EK):(pieceD (CA A.mf A.h) (Y6 A) (s35 0) 4 (envZ [0,3,5] [.nils,.ptr 0 0,.int .i64 0]) (mkD [.c [.int .i64 op,.str k,.str t,.str w] false 31] 0) (neatK 0 (ce35 4) kk)).ev =
    (kk (envZ [0,3,5,6,7,8] [R.DV.nils,R.DV.ptr 0 0,R.DV.int .i64 0,R.DV.int .i64 0,R.DV.str [],R.DV.bool false]) (mkD [R.DO.c [R.DV.int .i64 op,R.DV.str k,R.DV.str t,R.DV.str w] false 31] 0)).ev:=by kernel_rfl
theorem p35n5 (A:FA) (op:Int) (k t w:Txt) (i jj:Int) (kk:R.EK):(pieceD (CA A.mf A.h) (Y6 A) (s35 0) 5 (envZ [0,3,5,6,7,8] [.nils,.ptr 0 0,.int .i64 0,.int .i64 0,.str [],.bool false]) (mkD [.c [.int .i64 op,.str k,.str t,.str w] false 31] 0) (neatK 0 (ce35 5) kk)).ev =
    (kk (envZ [0,3,5,6,7,8] [R.DV.nils,R.DV.ptr 0 0,R.DV.int .i64 0,R.DV.int .i64 0,R.DV.str [],R.DV.bool false]) (mkD [R.DO.c [R.DV.int .i64 op,R.DV.str k,R.DV.str t,R.DV.str w] false 31] 0)).ev:=by kernel_rfl
theorem p35n6 (A:FA) (op:Int) (k t w:Txt) (i jj:Int) (v:Txt) (th:Bool) (kk:R.EK):(pieceD (CA A.mf A.h) (Y6 A) (s35 0) 6 (envZ [0,3,5,6,7,8] [.nils,.ptr 0 0,.int .i64 0,.int .i64 0,.str v,.bool th]) (mkD [.c [.int .i64 op,.str k,.str t,.str w] false 31] 0) (neatK 0 (ce35 6) kk)).ev =
    cond (decide (List.length v<4611686018427387904)) ((kk (envZ [0,3,5,6,9,10] [R.DV.nils,R.DV.ptr 0 0,R.DV.int .i64 0,R.DV.int .i64 0,R.DV.str (Prod.fst (FA.mf A op k t w k v th)),R.DV.bool (Prod.snd (FA.mf A op k t w k v th))]) (mkD [R.DO.c [R.DV.int .i64 op,R.DV.str k,R.DV.str t,R.DV.str w] false 31] 0)).ev) none:=by kernel_rfl
theorem p35n7 (A:FA) (op:Int) (k t w:Txt) (i jj:Int) (y:Txt) (z:Bool) (kk:R.EK):(pieceD (CA A.mf A.h) (Y6 A) (s35 0) 7 (envZ [0,3,5,6,9,10] [.nils,.ptr 0 0,.int .i64 0,.int .i64 0,.str y,.bool z]) (mkD [.c [.int .i64 op,.str k,.str t,.str w] false 31] 0) (neatK 0 (ce35 7) kk)).ev =
    cond (!z) (some (DV.rs 0 0 0 0 2 true,(mkD [DO.r RK.ent [] false { e:=41,z:=0 }] 0))) ((kk (envZ [0,3,5,6,9] [R.DV.nils,R.DV.ptr 0 0,R.DV.int .i64 0,R.DV.int .i64 0,R.DV.str y]) (mkD [R.DO.c [R.DV.int .i64 op,R.DV.str k,R.DV.str t,R.DV.str w] false 31] 0)).ev):=by kernel_rfl
theorem p35n8 (A:FA) (op:Int) (k t w:Txt) (i jj:Int) (y:Txt):(restD (CA A.mf A.h) (Y6 A) (s35 0) 8 (envZ [0,3,5,6,9] [.nils,.ptr 0 0,.int .i64 0,.int .i64 0,.str y]) (mkD [.c [.int .i64 op,.str k,.str t,.str w] false 31] 0)).ev =
    some (DV.rs 0 0 1 1 2 true,(mkD [DO.r RK.ent [(k,y)] false { e:=41,z:=0 }] 0)):=by kernel_rfl
def hitL (l:List Ent) (k:Txt) (i:Nat):Bool:=decide (i<l.length)&&decide ((l.getD i ([],[])).1=k)
def valL (l:List Ent) (k:Txt) (i:Nat):Txt:=cond (hitL l k i) (l.getD i ([],[])).2 []
def applyL (mf:MF) (cn:CN) (bf:BF) (l:List Ent) (op:Int) (k t w:Txt):List Ent:=cond (decide (op=3)) (bf l (cn k l) (cn t l) [])
  (cond (mf op k t w k (valL l k (cn k l)) (hitL l k (cn k l))).2 (bf l (cn k l) (cond (hitL l k (cn k l)) (cn k l+1) (cn k l)) [(k,(mf op k t w k (valL l k (cn k l)) (hitL l k (cn k l))).1)]) (bf l (cn k l) (cond (hitL l k (cn k l)) (cn k l+1) (cn k l)) []))
abbrev res35 (full:List Ent) (sp:Bool) (el:R.EL) (q:List Ent):Option (R.DV×R.DH):=some (.rs 1 0 q.length q.length 2 true,mkD [.r .ent full sp el,rowO q] 1)
theorem ok73_of {full:List Ent}{j n c i jj:Nat} (hk:okN full j n=true) (hn:n<98) (hc:n<=c) (h1:i<=jj) (h2:jj<=n):ok73 full j n c i jj=true:=by
  unfold ok73
  rw[hk,Bool.true_and,decide_eq_true_eq]
  omega
section
variable (A:FA) (j n c:Nat) (ex:Bool) (full:List Ent) (sp:Bool) (el:R.EL) (op:Int) (k t w:Txt)
theorem e35a6 (i jj:Nat) (v:Txt) (th:Bool) (hk:okN full j n=true) (hn:n<98) (hc:n<=c) (h1:i<=jj) (h2:jj<=n) (hv:v.length<4611686018427387904) :
    (restD (CA A.mf A.h) (Y6 A) (s35 1) 6 (envZ [0,3,5,6,7,8] [.rs 0 j n c 2 ex,.ptr 1 0,.int .i64 (i:Int),.int .i64 (jj:Int),.str v,.bool th]) (mkD [.r .ent full sp el,.c [.int .i64 op,.str k,.str t,.str w] false 31] 1)).ev =
    res35 full sp el (cond (A.mf op k t w k v th).2 (A.bf (seg full j n) i jj [(k,(A.mf op k t w k v th).1)]) (A.bf (seg full j n) i jj [])):=by
  refine by_piece (CA A.mf A.h) (Y6 A) (s35 1) 6 rfl rfl (fun kk=>p35a6 A j n c ex full sp el op k t w i jj v th kk) ?_
  rw[decide_eq_true hv,cond_true]
  refine by_piece (CA A.mf A.h) (Y6 A) (s35 1) 7 rfl rfl (fun kk=>p35a7 A j n c ex full sp el op k t w i jj _ _ kk) ?_
  rw[ok73_of hk hn hc h1 h2,cond_true,Int.toNat_natCast,Int.toNat_natCast]
  cases hz:(A.mf op k t w k v th).2 with
  |false=>rw[Bool.not_false,cond_true,cond_false]
  |true =>
    rw[Bool.not_true,cond_false,cond_true]
    refine (p35a8 A j n c ex full sp el op k t w i jj _).trans ?_
    rw[ok73_of hk hn hc h1 h2,cond_true,Int.toNat_natCast,Int.toNat_natCast]
theorem e35a2 (hk : okN full j n = true) (hn : n < 98) (hc : n ≤ c) (hch : chkB (seg full j n) = true) (hi : A.cn k (seg full j n) ≤ n) (ht : op = 3 → A.cn k (seg full j n) ≤ A.cn t (seg full j n) ∧ A.cn t (seg full j n) ≤ n) (hv : (valL (seg full j n) k (A.cn k (seg full j n))).length < 4611686018427387904) :
    (restD (CA A.mf A.h) (Y6 A) (s35 1) 2 (envZ [0,3] [.rs 0 j n c 2 ex,.ptr 1 0]) (mkD [.r .ent full sp el,.c [.int .i64 op,.str k,.str t,.str w] false 31] 1)).ev =
    res35 full sp el (applyL A.mf A.cn A.bf (seg full j n) op k t w):=by
  obtain⟨p1,_⟩:=okN_iff.1 hk
  have hl:(seg full j n).length=n:=seg_len p1
  refine by_piece (CA A.mf A.h) (Y6 A) (s35 1) 2 rfl rfl (fun kk=>p35a2 A j n c ex full sp el op k t w kk) ?_
  have hneed:(okN full j n&&(decide (n<99)&&chkB (seg full j n)))=true:=by rw[hk,hch,decide_eq_true (show n<99 by omega)]; rfl
  rw[hneed,cond_true]
  refine by_piece (CA A.mf A.h) (Y6 A) (s35 1) 3 rfl rfl (fun kk=>p35a3 A j n c ex full sp el op k t w _ kk) ?_
  by_cases h3:op=3
  . obtain⟨t1,t2⟩:=ht h3
    rw[hneed,cond_true,ok73_of hk hn hc t1 t2,cond_true,decide_eq_true h3,cond_true,Int.toNat_natCast,Int.toNat_natCast]
    unfold applyL
    rw[decide_eq_true h3,cond_true]
  . rw[decide_eq_false h3,cond_false]
    have e:applyL A.mf A.cn A.bf (seg full j n) op k t w=(cond (A.mf op k t w k (valL (seg full j n) k (A.cn k (seg full j n))) (hitL (seg full j n) k (A.cn k (seg full j n)))).2 (A.bf (seg full j n) (A.cn k (seg full j n)) (cond (hitL (seg full j n) k (A.cn k (seg full j n))) (A.cn k (seg full j n)+1) (A.cn k (seg full j n))) [(k,(A.mf op k t w k (valL (seg full j n) k (A.cn k (seg full j n))) (hitL (seg full j n) k (A.cn k (seg full j n)))).1)]) (A.bf (seg full j n) (A.cn k (seg full j n)) (cond (hitL (seg full j n) k (A.cn k (seg full j n))) (A.cn k (seg full j n)+1) (A.cn k (seg full j n))) [])):=by
      unfold applyL; rw[decide_eq_false h3,cond_false]
    rw[e]
    generalize A.cn k (seg full j n)=i at hi hv ⊢
    refine by_piece (CA A.mf A.h) (Y6 A) (s35 1) 4 rfl rfl (fun kk=>p35a4 A j n c ex full sp el op k t w i kk) ?_
    refine by_piece (CA A.mf A.h) (Y6 A) (s35 1) 5 rfl rfl (fun kk=>p35a5 A j n c ex full sp el op k t w i i kk) ?_
    by_cases hlt:i<n
    . have hg:(seg full j n).getD i ([],[])=full.getD (j+i) ([],[]):=by
        unfold seg
        rw[List.getD_eq_getElem?_getD,List.getD_eq_getElem?_getD,List.getElem?_take,if_pos hlt,List.getElem?_drop]
      rw[decide_eq_true (show (i:Int)<(n:Int) by omega),cond_true,Int.toNat_natCast,decide_eq_true (show 0<=(i:Int) by omega),decide_eq_true hlt,Bool.and_self,cond_true,show Nat.blt (j+i) full.length=true from Nat.ble_eq_true_of_le (show j+i+1<=full.length by omega),cond_true]
      have hh:hitL (seg full j n) k i=decide ((full.getD (j+i) ([],[])).1=k):=by
        unfold hitL; rw[hl,decide_eq_true hlt,Bool.true_and,hg]
      unfold valL at hv ⊢
      rw[hg] at hv ⊢
      rw[hh] at hv ⊢
      cases hd:decide ((full.getD (j+i) ([],[])).1=k) with
      |true =>
        rw[hd,cond_true] at hv
        simp only[cond_true]
        rw[show IntKind.wrap .i64 ((i:Int)+1)=((i+1:Nat):Int) from w_add (b:=1) (by omega)]
        exact e35a6 A j n c ex full sp el op k t w i (i+1) _ true hk hn hc (by omega) (by omega) hv
      |false =>
        simp only[cond_false]
        exact e35a6 A j n c ex full sp el op k t w i i [] false hk hn hc (by omega) (by omega) (by show 0<_; omega)
    . have hh:hitL (seg full j n) k i=false:=by
        unfold hitL; rw[hl,decide_eq_false hlt,Bool.false_and]
      rw[decide_eq_false (show ¬ (i:Int)<(n:Int) by omega),cond_false]
      unfold valL
      rw[hh]
      simp only[cond_false]
      exact e35a6 A j n c ex full sp el op k t w i i [] false hk hn hc (by omega) (by omega) (by show 0<_; omega)
end
end
end Go.Vm.YtkjjpmbpjfmbcaaGreatDoor

namespace Go.Vm.YtkjjpmbpjfmbcaaGreatDoor
open Go.Proofs Go.Vm.R
noncomputable section
theorem cnt_mono {k t:Txt} (h:Op.bytesLess k t=true):∀ l:List Ent,cntK k l<=cntK t l
  |[]=>Nat.le_refl _
  |e::r=>by
    unfold cntK
    cases he:Op.bytesLess e.1 k with
    |false=>exact Nat.zero_le _
    |true =>
      rw[less_trans _ _ _ he h]
      exact Nat.succ_le_succ (cnt_mono h r)
theorem may3 {k t w:Txt} (h:mayB 3 k t w=true):Op.bytesLess k t=true:=by
  unfold mayB at h
  revert h
  rw[decide_eq_true (rfl:(3:Int)=3)]
  cases decide (k.length<1)<;>cases decide (108<k.length)<;>cases decide (w.length=0)<;>cases decide (t.length=0)<;>cases decide (t.length<=108)<;>intro h<;>first | exact h | (cases h; done)
def need35 (A:FA) (full:List Ent) (j n c:Nat) (k:Txt):Bool:=okN full j n&&(decide (n<98/\n<=c)&&decide ((valL (seg full j n) k (A.cn k (seg full j n))).length<4611686018427387904))
def out35 (A:FA) (full:List Ent) (j n c:Nat) (op:Int) (k t w:Txt):RD:=.need (need35 A full j n c k)
  (.br (chkB (seg full j n)&&mayB op k t w) (.v (.rs 1 0 (applyL A.mf A.cn A.bf (seg full j n) op k t w).length (applyL A.mf A.cn A.bf (seg full j n) op k t w).length 2 true) [rowO (applyL A.mf A.cn A.bf (seg full j n) op k t w)])
    (.br (Nat.beq n 0) (.v (.rs 1 0 0 0 2 true) [.r .ent [] false 41]) (.v (.rs 1 0 n n 2 false) [.r .ent (seg full j n) true 41])))
theorem law35a (A:FA) (j n c:Nat) (ex:Bool) (full:List Ent) (sp:Bool) (el:R.EL) (op:Int) (k t w:Txt):LawOk C.G C.O C.tab 35 111 [.r .ent full sp el] [.rs 0 j n c 2 ex,.agg [.int .i64 op,.str k,.str t,.str w]] (out35 A full j n c op k t w):=by
  refine law_cut (CA A.mf A.h) (Y6 A) (s35 1).lh (s35 1).cs rfl rfl (fun n hn p _ ld e=>by cases e) fun z hz=>?_
  obtain⟨hp,hz⟩:=R.ev_need hz
  unfold need35 at hp
  rw[Bool.and_eq_true,Bool.and_eq_true,decide_eq_true_eq,decide_eq_true_eq] at hp
  obtain⟨hk,⟨hn,hc⟩,hv⟩:=hp
  obtain⟨p1,_⟩:=okN_iff.1 hk
  have hl:(seg full j n).length=n:=seg_len p1
  refine (run_at (CA A.mf A.h) (Y6 A) (s35 1) (l:=[.rs 0 j n c 2 ex,.agg [.int .i64 op,.str k,.str t,.str w]]) (ao:=[.r .ent full sp el]) rfl rfl).trans (Eq.trans ?_ hz)
  refine by_piece (CA A.mf A.h) (Y6 A) (s35 1) 0 rfl rfl (fun kk=>p35a0 A j n c ex full sp el op k t w kk) ?_
  refine by_piece (CA A.mf A.h) (Y6 A) (s35 1) 1 rfl rfl (fun kk=>p35a1 A j n c ex full sp el op k t w kk) ?_
  rw[hk,cond_true,cond_true]
  show _=(R.Tree.br (chkB (seg full j n)&&mayB op k t w) (.ok (.rs 1 0 (applyL A.mf A.cn A.bf (seg full j n) op k t w).length (applyL A.mf A.cn A.bf (seg full j n) op k t w).length 2 true) (mkD [.r .ent full sp el,rowO (applyL A.mf A.cn A.bf (seg full j n) op k t w)] 1))
    (R.Tree.br (Nat.beq n 0) (.ok (.rs 1 0 0 0 2 true) (mkD [.r .ent full sp el,.r .ent [] false 41] 1)) (.ok (.rs 1 0 n n 2 false) (mkD [.r .ent full sp el,.r .ent (seg full j n) true 41] 1)))).ev
  rw[ev_br,ev_br]
  have hcn:∀ x,A.cn x (seg full j n)<=n:=fun x=>by rw[A.hc]; exact Nat.le_trans (cnt_le x _) (Nat.le_of_eq hl)
  cases hch:chkB (seg full j n) with
  |false=>rw[Bool.false_and]; cases Nat.beq n 0<;>rfl
  |true =>
    cases hm:mayB op k t w with
    |false=>rw[Bool.and_false]; cases Nat.beq n 0<;>rfl
    |true =>
      rw[cond_true,cond_true,Bool.and_self]
      refine (e35a2 A j n c ex full sp el op k t w hk hn hc hch (hcn k) (fun h3=>⟨?_,hcn t⟩) hv).trans rfl
      rw[A.hc]
      subst h3
      exact cnt_mono (may3 hm) _
theorem law35n (A : FA) (op : Int) (k t w : Txt) : LawOk C.G C.O C.tab 35 111 [] [.nils, .agg [.int .i64 op, .str k, .str t, .str w]]
    (.br (mayB op k t w) (.br (decide (op=3)) (.v (.rs 0 0 0 0 2 true) [rowO []]) (.br (A.mf op k t w k [] false).2 (.v (.rs 0 0 1 1 2 true) [rowO [(k,(A.mf op k t w k [] false).1)]]) (.v (.rs 0 0 0 0 2 true) [rowO []]))) (.v .nils [])):=by
  refine law_cut (CA A.mf A.h) (Y6 A) (s35 0).lh (s35 0).cs rfl rfl (fun n hn p _ ld e=>by cases e) fun z hz=>?_
  refine (run_at (CA A.mf A.h) (Y6 A) (s35 0) (l:=[.nils,.agg [.int .i64 op,.str k,.str t,.str w]]) (ao:=[]) rfl rfl).trans (Eq.trans ?_ hz)
  refine by_piece (CA A.mf A.h) (Y6 A) (s35 0) 0 rfl rfl (fun kk=>p35n0 A op k t w kk) ?_
  refine by_piece (CA A.mf A.h) (Y6 A) (s35 0) 1 rfl rfl (fun kk=>p35n1 A op k t w kk) ?_
  show _=(R.Tree.br (mayB op k t w) (R.Tree.br (decide (op=3)) (.ok (.rs 0 0 0 0 2 true) (mkD [rowO []] 0)) (R.Tree.br (A.mf op k t w k [] false).2 (.ok (.rs 0 0 1 1 2 true) (mkD [rowO [(k,(A.mf op k t w k [] false).1)]] 0)) (.ok (.rs 0 0 0 0 2 true) (mkD [rowO []] 0)))) (.ok .nils (mkD [] 0))).ev
  rw[ev_br,ev_br,ev_br]
  cases mayB op k t w with
  |false=>rfl
  |true =>
    rw[cond_true,cond_true]
    refine by_piece (CA A.mf A.h) (Y6 A) (s35 0) 2 rfl rfl (fun kk=>p35n2 A op k t w kk) ?_
    refine by_piece (CA A.mf A.h) (Y6 A) (s35 0) 3 rfl rfl (fun kk=>p35n3 A op k t w 0 kk) ?_
    cases decide (op=3) with
    |true=>rfl
    |false =>
      rw[cond_false,cond_false]
      refine by_piece (CA A.mf A.h) (Y6 A) (s35 0) 4 rfl rfl (fun kk=>p35n4 A op k t w 0 kk) ?_
      refine by_piece (CA A.mf A.h) (Y6 A) (s35 0) 5 rfl rfl (fun kk=>p35n5 A op k t w 0 0 kk) ?_
      refine by_piece (CA A.mf A.h) (Y6 A) (s35 0) 6 rfl rfl (fun kk=>p35n6 A op k t w 0 0 [] false kk) ?_
      rw[decide_eq_true (show ([]:Txt).length<4611686018427387904 by show 0<_; omega),cond_true]
      refine by_piece (CA A.mf A.h) (Y6 A) (s35 0) 7 rfl rfl (fun kk=>p35n7 A op k t w 0 0 _ _ kk) ?_
      cases (A.mf op k t w k [] false).2 with
      |false=>rfl
      |true =>
        rw[Bool.not_true,cond_false,cond_true]
        exact p35n8 A op k t w 0 0 _
abbrev GK:=Txt->List Ent->Txt×Bool
def outF28 (gk:GK) (full:List Ent) (j n:Nat) (k:Txt):RD:=.need (okN full j n) (.v (.tup [.str (gk k (seg full j n)).1,.bool (gk k (seg full j n)).2]) [])
def gF28 (gk:GK):List R.DV->List R.DO->Option RD:=fun l ao=>match l,ao with
  |[.rs 0 j n c 2 ex,.str k],[.r .ent full sp el]=>some (outF28 gk full j n k)
  |[.nils,.str k],[]=>some (.v (.tup [.str [],.bool false]) [])
  |_,_=>none
theorem gF28_ok (gk:GK) (h:gk=getK) (l:List R.DV) (ao:List R.DO) (out:RD) (hg:gF28 gk l ao=some out):LawOk C.G C.O C.tab 28 111 ao l out:=by
  subst h
  unfold gF28 at hg
  split at hg
  . cases hg; exact law28 _ _ _ _ _ _ _ _
  . cases hg; exact law28n _
  . cases hg
abbrev AL:=List Ent->Int->Txt->Txt->Txt->List Ent
def outF35 (al:AL) (nd:List Ent->Nat->Nat->Nat->Txt->Bool) (full:List Ent) (j n c:Nat) (op:Int) (k t w:Txt):RD:=.need (nd full j n c k)
  (.br (chkB (seg full j n)&&mayB op k t w) (.v (.rs 1 0 (al (seg full j n) op k t w).length (al (seg full j n) op k t w).length 2 true) [rowO (al (seg full j n) op k t w)])
    (.br (Nat.beq n 0) (.v (.rs 1 0 0 0 2 true) [.r .ent [] false 41]) (.v (.rs 1 0 n n 2 false) [.r .ent (seg full j n) true 41])))
def A1:FA:=⟨applyM,rfl,cntK,rfl,bt,rfl⟩
def alL:AL:=applyL applyM cntK bt
def ndL:List Ent->Nat->Nat->Nat->Txt->Bool:=need35 A1
def gF35 (mf:MF) (al:AL) (nd:List Ent->Nat->Nat->Nat->Txt->Bool):List R.DV->List R.DO->Option RD:=fun l ao=>match l,ao with
  |[.rs 0 j n c 2 ex,.agg [.int .i64 op,.str k,.str t,.str w]],[.r .ent full sp el]=>some (outF35 al nd full j n c op k t w)
  |[.nils,.agg [.int .i64 op,.str k,.str t,.str w]],[]=>some (.br (mayB op k t w) (.br (decide (op=3)) (.v (.rs 0 0 0 0 2 true) [rowO []]) (.br (mf op k t w k [] false).2 (.v (.rs 0 0 1 1 2 true) [rowO [(k,(mf op k t w k [] false).1)]]) (.v (.rs 0 0 0 0 2 true) [rowO []]))) (.v .nils []))
  |_,_=>none
theorem gF35_ok (mf:MF) (h0:mf=applyM) (al:AL) (h:al=alL) (nd:List Ent->Nat->Nat->Nat->Txt->Bool) (h2:nd=ndL) (l:List R.DV) (ao:List R.DO) (out:RD) (hg:gF35 mf al nd l ao=some out):LawOk C.G C.O C.tab 35 111 ao l out:=by
  subst h0 h h2
  unfold gF35 at hg
  split at hg
  . cases hg; exact law35a A1 _ _ _ _ _ _ _ _ _ _ _
  . cases hg; exact law35n A1 _ _ _ _
  . cases hg
structure FB where
  mf:MF
  h:mf=applyM
  gk:GK
  hg:gk=getK
  al:AL
  ha:al=alL
  nd:List Ent->Nat->Nat->Nat->Txt->Bool
  hn:nd=ndL
def Y7 (A:FB):(CA A.mf A.h).RL:=(((Y1.add 27 101 gF27 gF27_ok).add 28 111 (gF28 A.gk) (gF28_ok A.gk A.hg)).add 35 111 (gF35 A.mf A.al A.nd) (gF35_ok A.mf A.h A.al A.ha A.nd A.hn):RLaws C.G C.O C.tab)
def OkE (e:Ent):Prop:=e.1 ≠ []/\e.1.length<=108/\e.2.length<=64
def LtE (a b:Ent):Prop:=Op.bytesLess a.1 b.1=true
theorem chk_cons (p : Option Ent) (e : Ent) (r : List Ent) : chkL p (e :: r) = true ↔ OkE e ∧ rises p e = true ∧ chkL (some e) r = true := by
  rw[show chkL p (e::r)=cond (decide (e.1=[])) false (cond (decide (108<(e.1.length:Int))) false (cond (decide (64<(e.2.length:Int))) false (cond (rises p e) (chkL (some e) r) false))) from rfl]
  unfold OkE
  by_cases h1:e.1=[]
  . simp[h1]
  . by_cases h2:108<(e.1.length:Int)
    . rw[decide_eq_false h1,decide_eq_true h2]
      constructor
      . intro h; cases h
      . intro h; omega
    . by_cases h3:64<(e.2.length:Int)
      . rw[decide_eq_false h1,decide_eq_false h2,decide_eq_true h3]
        constructor
        . intro h; cases h
        . intro h; omega
      . rw[decide_eq_false h1,decide_eq_false h2,decide_eq_false h3]
        constructor
        . intro h
          refine⟨⟨h1,by omega,by omega⟩,?_⟩
          revert h
          cases rises p e<;>cases chkL (some e) r<;>simp
        . rintro⟨_,h4,h5⟩
          rw[h4,h5]; rfl
theorem rises_iff (p:Option Ent) (e:Ent):rises p e=true<->∀ q,p=some q->LtE q e:=by
  cases p with
  |none=>exact⟨fun _ q h=>(by cases h),fun _=>rfl⟩
  |some q=>exact⟨fun h q' h'=>(by cases h'; exact h),fun h=>h q rfl⟩
theorem chk_iff : ∀ (l : List Ent) (p : Option Ent), chkL p l = true ↔ (∀ e ∈ l, OkE e) ∧ l.Pairwise LtE ∧ ∀ q, p = some q → ∀ e ∈ l, LtE q e
  |[],p=>⟨fun _=>⟨fun e h=>(List.not_mem_nil h).elim,.nil,fun q _ e h=>(List.not_mem_nil h).elim⟩,fun _=>rfl⟩
  |e::r,p=>by
    rw[chk_cons,rises_iff,chk_iff r (some e),List.pairwise_cons]
    constructor
    . rintro⟨h1,h2,h3,h4,h5⟩
      refine⟨fun x hx=>?_,⟨fun x hx=>h5 e rfl x hx,h4⟩,fun q hq x hx=>?_⟩
      . rcases List.mem_cons.1 hx with rfl | hx
        . exact h1
        . exact h3 x hx
      . rcases List.mem_cons.1 hx with rfl | hx
        . exact h2 q hq
        . exact less_trans _ _ _ (h2 q hq) (h5 e rfl x hx)
    . rintro⟨h1,⟨h2,h3⟩,h4⟩
      exact⟨h1 e List.mem_cons_self,fun q hq=>h4 q hq e List.mem_cons_self,fun x hx=>h1 x (List.mem_cons_of_mem _ hx),h3,fun q hq x hx=>(by cases hq; exact h2 x hx)⟩
theorem chkB_iff (l:List Ent):chkB l=true<->(∀ e∈l,OkE e)/\l.Pairwise LtE :=
  ⟨fun h=>⟨((chk_iff l none).1 h).1,((chk_iff l none).1 h).2.1⟩,fun h=>(chk_iff l none).2 ⟨h.1,h.2,fun q hq=>(by cases hq)⟩⟩
theorem cnt_take (k:Txt):∀ (l:List Ent),∀ e∈l.take (cntK k l),Op.bytesLess e.1 k=true
  |[],e,h=>by simp[cntK] at h
  |a::r,e,h=>by
    unfold cntK at h
    cases ha:Op.bytesLess a.1 k with
    |false=>rw[ha] at h; simp at h
    |true =>
      rw[ha] at h
      rcases List.mem_cons.1 h with rfl | h
      . exact ha
      . exact cnt_take k r e h
theorem cnt_drop (k : Txt) : ∀ (l : List Ent), l.Pairwise LtE → ∀ e ∈ l.drop (cntK k l), Op.bytesLess e.1 k = false
  |[],_,e,h=>by simp[cntK] at h
  |a::r,hp,e,h=>by
    rw[List.pairwise_cons] at hp
    unfold cntK at h
    cases ha:Op.bytesLess a.1 k with
    |true=>rw[ha] at h; exact cnt_drop k r hp.2 e h
    |false =>
      rw[ha] at h
      rcases List.mem_cons.1 (show e∈a::r from h) with rfl | h
      . exact ha
      . cases he:Op.bytesLess e.1 k with
        |false=>rfl
        |true=>rw[less_trans _ _ _ (hp.1 e h) he] at ha; cases ha
theorem getK_none (x:Txt):∀ l:List Ent,(∀ e∈l,e.1 ≠ x)->getK x l=([],false)
  |[],_=>rfl
  |a::r,h=>by
    show cond (decide (a.1=x)) (a.2,true) (getK x r)=_
    rw[decide_eq_false (h a List.mem_cons_self)]
    exact getK_none x r fun e he=>h e (List.mem_cons_of_mem _ he)
theorem getK_mem (x:Txt):∀ l:List Ent,(getK x l).2=true->(x,(getK x l).1)∈l
  |[],h=>by cases h
  |a::r,h=>by
    have e:getK x (a::r)=cond (decide (a.1=x)) (a.2,true) (getK x r):=rfl
    rw[e] at h ⊢
    by_cases hx:a.1=x
    . rw[decide_eq_true hx]
      subst hx
      exact List.mem_cons_self
    . rw[decide_eq_false hx] at h ⊢
      exact List.mem_cons_of_mem _ (getK_mem x r h)
theorem getK_no (x:Txt):∀ l:List Ent,(getK x l).2=false->getK x l=([],false)/\∀ e∈l,e.1 ≠ x
  |[],_=>⟨rfl,fun e h=>(List.not_mem_nil h).elim⟩
  |a::r,h=>by
    have e:getK x (a::r)=cond (decide (a.1=x)) (a.2,true) (getK x r):=rfl
    rw[e] at h ⊢
    by_cases hx:a.1=x
    . rw[decide_eq_true hx] at h; cases h
    . rw[decide_eq_false hx] at h ⊢
      obtain⟨h1,h2⟩:=getK_no x r h
      refine⟨h1,fun y hy=>?_⟩
      rcases List.mem_cons.1 hy with rfl | hy
      . exact hx
      . exact h2 y hy
theorem lt_ne {a b:Ent} (h:LtE a b):a.1 ≠ b.1:=fun e=>by
  have h':Op.bytesLess a.1 b.1=true:=h
  rw[e,less_irrefl] at h'; cases h'
theorem getK_of (x v:Txt):∀ l:List Ent,l.Pairwise LtE->(x,v)∈l->getK x l=(v,true)
  |[],_,h=>(List.not_mem_nil h).elim
  |a::r,hp,h=>by
    rw[List.pairwise_cons] at hp
    show cond (decide (a.1=x)) (a.2,true) (getK x r)=_
    rcases List.mem_cons.1 h with e | h
    . rw[← e,decide_eq_true rfl]; rfl
    . rw[decide_eq_false (lt_ne (hp.1 _ h))]
      exact getK_of x v r hp.2 h
theorem getK_is (x:Txt) (l:List Ent) {e:Ent} (he:e∈l) (hx:e.1=x):(getK x l).2=true:=by
  cases h:(getK x l).2 with
  |true=>rfl
  |false=>exact ((getK_no x l h).2 e he hx).elim
theorem getK_same (x:Txt) {l r:List Ent} (hl:l.Pairwise LtE) (hr:r.Pairwise LtE) (h:∀ e:Ent,e.1=x->(e∈l<->e∈r)):getK x l=getK x r:=by
  cases hg:(getK x r).2 with
  |true =>
    have hm:=(h (x,(getK x r).1) rfl).2 (getK_mem x r hg)
    rw[getK_of x _ l hl hm]
    rw[← hg]
  |false =>
    obtain⟨h1,h2⟩:=getK_no x r hg
    rw[h1]
    exact getK_none x l fun e he hx=>h2 e ((h e hx).1 he) hx
theorem hit_get (k : Txt) : ∀ l : List Ent, l.Pairwise LtE → hitL l k (cntK k l) = (getK k l).2 ∧ valL l k (cntK k l) = (getK k l).1
  |[],_=>⟨rfl,rfl⟩
  |a::r,hp=>by
    rw[List.pairwise_cons] at hp
    have e1:cntK k (a::r)=cond (Op.bytesLess a.1 k) (cntK k r+1) 0:=rfl
    have e2:getK k (a::r)=cond (decide (a.1=k)) (a.2,true) (getK k r):=rfl
    rw[e1,e2]
    cases ha:Op.bytesLess a.1 k with
    |true =>
      have hne:a.1 ≠ k:=fun e=>by rw[e,less_irrefl] at ha; cases ha
      obtain⟨h1,h2⟩:=hit_get k r hp.2
      rw[decide_eq_false hne,cond_true,cond_false,← h1,← h2]
      have hh:hitL (a::r) k (cntK k r+1)=hitL r k (cntK k r):=by
        unfold hitL
        rw[List.length_cons,List.getD_cons_succ,decide_eq_decide.2 (Nat.add_lt_add_iff_right (k:=1))]
      exact⟨hh,by unfold valL; rw[hh,List.getD_cons_succ]⟩
    |false =>
      rw[cond_false]
      have hh:hitL (a::r) k 0=decide (a.1=k):=by
        unfold hitL
        rw[decide_eq_true (show 0<(a::r).length by rw[List.length_cons]; omega),Bool.true_and]; rfl
      by_cases hk:a.1=k
      . rw[decide_eq_true hk] at hh ⊢
        exact⟨hh,by unfold valL; rw[hh]; rfl⟩
      . rw[decide_eq_false hk] at hh ⊢
        have:getK k r=([],false):=getK_none k r fun e he hx=>by
          have h1:Op.bytesLess a.1 e.1=true:=hp.1 e he
          rw[hx,ha] at h1; cases h1
        rw[cond_false,this]
        exact⟨hh,by unfold valL; rw[hh]; rfl⟩
theorem fine_meta {s:Txt} (h:fine (metaD s)=true):s.length=21:=by
  unfold metaD at h
  by_cases h1:s.length<21
  . rw[decide_eq_true h1] at h; cases h
  . by_cases h2:21<s.length
    . rw[decide_eq_false h1,decide_eq_true h2] at h; cases h
    . omega
theorem val_len {k w:Txt} (h:valOk k w=true):w.length<=64:=by
  unfold valOk at h
  revert h
  cases decide (((k.getD 0 0).toNat:Int)=109) with
  |true=>intro h; have:=fine_meta h; omega
  |false =>
    cases decide (((k.getD 0 0).toNat:Int)=100) with
    |true =>
      intro h
      have h':blockOk w=true:=by revert h; cases blockOk w<;>simp
      unfold blockOk at h'
      simp only[Bool.and_eq_true,decide_eq_true_eq] at h'
      exact h'.2.1
    |false=>intro h; have:=of_decide_eq_true h; omega
theorem blk_len (v w:Txt):(blkDo v w).length<=64:=by
  unfold blkDo blockDo
  cases hp:pM (pOf w).1 (pOf w).2.1 (pOf w).2.2.1 (pOf w).2.2.2.1 with
  |false =>
    refine Nat.le_trans (trim_len _) ?_
    rw[List.length_take]; omega
  |true =>
    cases hc:(pOf w).1 with
    |true =>
      rw[hc] at hp
      have:=pM_cut hp
      refine Nat.le_trans (trim_len _) ?_
      rw[at_len]; omega
    |false =>
      rw[hc] at hp
      obtain⟨h1,h2,h3,h4⟩:=pM_spl hp
      refine Nat.le_trans (trim_len _) ?_
      rw[List.length_append,List.length_append,at_len,at_len]; omega
theorem metaS_len (k z m t:Nat):(metaS k z m t).length=21:=rfl
theorem patch_len (k w v : Txt) (th : Bool) (hv : v.length ≤ 64) : (patchDo k w v th).1.length ≤ 64 := by
  unfold patchDo
  cases decide (((k.getD 0 0).toNat:Int)=100) with
  |true=>exact blk_len v w
  |false =>
    cases th with
    |false=>exact hv
    |true =>
      cases decide ((mOf v).2.2.2.2=0) with
      |false=>exact hv
      |true =>
        show (metaDo _ _).length<=64
        unfold metaDo
        cases mM (.ofNat (mOf v).1) (zV (mOf v) (cOf w)) (mkV (mOf v) (cOf w)) with
        |true=>show (metaS _ _ _ _).length<=64; rw[metaS_len]; omega
        |false=>exact Nat.zero_le _
theorem may_put {k t w:Txt} (h:mayB 1 k t w=true):valOk k w=true:=by
  unfold mayB at h
  revert h
  cases decide (k.length<1)<;>cases decide (108<k.length)<;>cases decide (t.length=0)<;>cases valOk k w<;>simp
theorem may_key {op:Int}{k t w:Txt} (h:mayB op k t w=true):k ≠ []/\k.length<=108:=by
  unfold mayB at h
  by_cases h1:k.length<1
  . rw[decide_eq_true h1] at h; cases h
  . by_cases h2:108<k.length
    . rw[decide_eq_false h1,decide_eq_true h2] at h; cases h
    . exact⟨fun e=>by subst e; exact h1 (by show 0<1; omega),by omega⟩
theorem patch_no (k w v:Txt) (th:Bool) (hv:th=false->v=[]) (h:(patchDo k w v th).2=false):(patchDo k w v th).1=[]:=by
  revert h
  unfold patchDo
  cases decide (((k.getD 0 0).toNat:Int)=100) with
  |true =>
    intro h
    show blkDo v w=[]
    by_cases e:blkDo v w=[]
    . exact e
    . rw[decide_eq_false e] at h; cases h
  |false =>
    cases th with
    |false=>intro _; exact hv rfl
    |true=>cases decide ((mOf v).2.2.2.2=0)<;>intro h<;>cases h
theorem apply_at {op:Int}{k t w v:Txt}{th:Bool} (hm:mayB op k t w=true) (h3:op ≠ 3) (hv:th=false->v=[]) (hl:v.length<=64) :
    (applyM op k t w k v th).1.length<=64/\((applyM op k t w k v th).2=false->(applyM op k t w k v th).1=[]):=by
  have ht:touchB op k t w k=true:=by
    unfold touchB
    rw[hm,decide_eq_false h3]
    exact decide_eq_true rfl
  have hcv:cond th v []=v:=by cases th with | true=>rfl | false=>exact (hv rfl).symm
  unfold applyM makeM
  rw[ht,hcv]
  by_cases h1:op=1
  . subst h1
    exact⟨val_len (may_put hm),fun h=>by cases h⟩
  . rw[decide_eq_false h1]
    cases decide (op=4) with
    |true=>exact⟨patch_len k w v th hl,patch_no k w v th hv⟩
    |false=>exact⟨Nat.zero_le _,fun _=>rfl⟩
theorem al_clear {l:List Ent}{k t w:Txt} (hc:l.Pairwise LtE) (hm:mayB 3 k t w=true) :
    alL l 3 k t w=l.take (cntK k l)++l.drop (cntK t l):=by
  unfold alL applyL bt
  rw[decide_eq_true rfl,cond_true,List.append_nil]
theorem clear_sub {l:List Ent}{k t w:Txt} (hm:mayB 3 k t w=true):(l.take (cntK k l)++l.drop (cntK t l)).Sublist l:=by
  have h:=cnt_mono (may3 hm) l
  have h1:(l.take (cntK k l)).Sublist (l.take (cntK t l)):=by
    have:l.take (cntK k l)=(l.take (cntK t l)).take (cntK k l):=by rw[List.take_take,Nat.min_eq_left h]
    rw[this]; exact List.take_sublist _ _
  have h2:=h1.append (List.Sublist.refl (l.drop (cntK t l)))
  rwa [List.take_append_drop] at h2
theorem drop_gt {l:List Ent}{k:Txt} (hp:l.Pairwise LtE):∀ e∈l.drop (cond (hitL l k (cntK k l)) (cntK k l+1) (cntK k l)),Op.bytesLess k e.1=true:=by
  intro e he
  cases hh:hitL l k (cntK k l) with
  |true =>
    rw[hh,cond_true] at he
    unfold hitL at hh
    rw[Bool.and_eq_true,decide_eq_true_eq,decide_eq_true_eq] at hh
    obtain⟨h1,h2⟩:=hh
    rw[List.getD_eq_getElem?_getD,List.getElem?_eq_getElem h1] at h2
    have hd:=List.drop_eq_getElem_cons h1
    have hp':=hp.drop (i:=cntK k l)
    rw[hd,List.pairwise_cons] at hp'
    have:=hp'.1 e he
    rw[← show l[cntK k l].1=k from h2]
    exact this
  |false =>
    rw[hh,cond_false] at he
    have h0:=cnt_drop k l hp e he
    have hg:=(hit_get k l hp).1
    rw[hh] at hg
    have hne:=(getK_no k l hg.symm).2 e (List.mem_of_mem_drop he)
    cases hk:Op.bytesLess k e.1 with
    |true=>rfl
    |false=>exact (hne (less_tot _ _ h0 hk)).elim
theorem mem_split {l:List Ent}{k:Txt}{e:Ent} (he:e∈l) (hk:e.1 ≠ k) (hp:l.Pairwise LtE):e∈l.take (cntK k l)∨e∈l.drop (cond (hitL l k (cntK k l)) (cntK k l+1) (cntK k l)):=by
  rw[← List.take_append_drop (cntK k l) l] at he
  rcases List.mem_append.1 he with he | he
  . exact .inl he
  . cases hh:hitL l k (cntK k l) with
    |false=>exact .inr he
    |true =>
      unfold hitL at hh
      rw[Bool.and_eq_true,decide_eq_true_eq,decide_eq_true_eq] at hh
      obtain⟨h1,h2⟩:=hh
      rw[List.getD_eq_getElem?_getD,List.getElem?_eq_getElem h1] at h2
      rw[List.drop_eq_getElem_cons h1] at he
      rcases List.mem_cons.1 he with rfl | he
      . exact (hk h2).elim
      . exact .inr he
theorem al_else {l:List Ent}{op:Int}{k t w:Txt} (hp:l.Pairwise LtE) (h3:op ≠ 3) :
    alL l op k t w=l.take (cntK k l)++cond (applyM op k t w k (getK k l).1 (getK k l).2).2 [(k,(applyM op k t w k (getK k l).1 (getK k l).2).1)] []++l.drop (cond (hitL l k (cntK k l)) (cntK k l+1) (cntK k l)):=by
  unfold alL applyL bt
  rw[decide_eq_false h3,cond_false,(hit_get k l hp).1,(hit_get k l hp).2]
  cases (applyM op k t w k (getK k l).1 (getK k l).2).2<;>rfl
theorem get_len {l:List Ent}{k:Txt} (h:∀ e∈l,OkE e):(getK k l).1.length<=64/\((getK k l).2=false->(getK k l).1=[]):=by
  cases hg:(getK k l).2 with
  |true=>exact⟨(h _ (getK_mem k l hg)).2.2,fun e=>by cases e⟩
  |false=>rw[(getK_no k l hg).1]; exact⟨Nat.zero_le _,fun _=>rfl⟩
theorem al_ok {l : List Ent} {op : Int} {k t w : Txt} (hc : chkB l = true) (hm : mayB op k t w = true) : chkB (alL l op k t w) = true ∧
    (∀ x,getK x (alL l op k t w)=applyM op k t w x (getK x l).1 (getK x l).2)/\(∀ e∈alL l op k t w,e.1=k∨(getK e.1 l).2=true)/\(alL l op k t w).length<=l.length+1:=by
  obtain⟨ho,hp⟩:=(chkB_iff l).1 hc
  by_cases h3:op=3
  · subst h3
    rw[al_clear hp hm]
    have hs:=clear_sub (l:=l) hm
    have hp2:=hp.sublist hs
    refine⟨(chkB_iff _).2 ⟨fun e he=>ho e (hs.subset he),hp2⟩,fun x=>?_,fun e he=>.inr (getK_is _ l (hs.subset he) rfl),Nat.le_trans hs.length_le (Nat.le_succ _)⟩
    have hkt:=may3 hm
    have ht:touchB 3 k t w x=cond (!Op.bytesLess x k) (Op.bytesLess x t) false:=by
      unfold touchB
      rw[hm]; rfl
    unfold applyM
    rw[ht]
    have hcv:((cond (getK x l).2 (getK x l).1 [],(getK x l).2):Txt×Bool)=getK x l:=by
      cases hg:(getK x l).2 with
      |true=>rw[cond_true,← hg]
      |false=>rw[(getK_no x l hg).1]; rfl
    rw[hcv]
    cases h1:Op.bytesLess x k with
    |true =>
      refine getK_same x hp2 hp fun e hx=>⟨fun he=>hs.subset he,fun he=>?_⟩
      refine List.mem_append_left _ ?_
      rw[← List.take_append_drop (cntK k l) l] at he
      rcases List.mem_append.1 he with he | he
      . exact he
      . have:=cnt_drop k l hp e he
        rw[hx,h1] at this; cases this
    |false =>
      cases h2:Op.bytesLess x t with
      |false =>
        refine getK_same x hp2 hp fun e hx=>⟨fun he=>hs.subset he,fun he=>?_⟩
        refine List.mem_append_right _ ?_
        rw[← List.take_append_drop (cntK t l) l] at he
        rcases List.mem_append.1 he with he | he
        . have:=cnt_take t l e he
          rw[hx,h2] at this; cases this
        . exact he
      |true =>
        refine getK_none x _ fun e he hx=>?_
        rcases List.mem_append.1 he with he | he
        . have:=cnt_take k l e he
          rw[hx,h1] at this; cases this
        . have:=cnt_drop t l hp e he
          rw[hx,h2] at this; cases this
  . rw[al_else hp h3]
    obtain⟨g1,g2⟩:=get_len (k:=k) ho
    obtain⟨a1,a2⟩:=apply_at hm h3 g2 g1
    obtain⟨k1,k2⟩:=may_key hm
    have hgt:=drop_gt (k:=k) hp
    have hsp:=fun (e:Ent) (he:e∈l) (hk:e.1 ≠ k)=>mem_split he hk hp
    have hlt:=cnt_take k l
    generalize hy:applyM op k t w k (getK k l).1 (getK k l).2=y at a1 a2 ⊢
    generalize hD:l.drop (cond (hitL l k (cntK k l)) (cntK k l+1) (cntK k l))=D at hgt hsp ⊢
    have hDs:D.Sublist l:=by rw[← hD]; exact List.drop_sublist _ _
    have hTs:(l.take (cntK k l)).Sublist l:=List.take_sublist _ _
    have hlen:(l.take (cntK k l)).length+D.length<=l.length:=by
      rw[← hD,List.length_take,List.length_drop]
      cases hitL l k (cntK k l) with
      |true=>rw[cond_true]; omega
      |false=>rw[cond_false]; omega
    generalize hT:l.take (cntK k l)=T at hlt hsp hTs hlen ⊢
    have hI:∀ e∈(cond y.2 [(k,y.1)] []:List Ent),e=(k,y.1):=by
      intro e he
      cases hy2:y.2 with
      |true=>rw[hy2] at he; simpa using he
      |false=>rw[hy2] at he; exact (List.not_mem_nil he).elim
    have hp2:(T++cond y.2 [(k,y.1)] []++D).Pairwise LtE:=by
      rw[List.append_assoc,List.pairwise_append,List.pairwise_append]
      refine⟨hp.sublist hTs,⟨?_,hp.sublist hDs,fun a ha b hb=>?_⟩,fun a ha b hb=>?_⟩
      . cases y.2 with
        |true=>exact List.pairwise_singleton _ _
        |false=>exact .nil
      . rw[hI a ha]; exact hgt b hb
      . rcases List.mem_append.1 hb with hb | hb
        . rw[hI b hb]; exact hlt a ha
        . exact less_trans _ _ _ (hlt a ha) (hgt b hb)
    refine⟨(chkB_iff _).2 ⟨fun e he=>?_,hp2⟩,fun x=>?_,fun e he=>?_,?_⟩
    . rcases List.mem_append.1 he with he | he
      . rcases List.mem_append.1 he with he | he
        . exact ho e (hTs.subset he)
        . rw[hI e he]; exact⟨k1,k2,a1⟩
      . exact ho e (hDs.subset he)
    . by_cases hx:x=k
      . subst hx
        rw[hy]
        cases hy2:y.2 with
        |true =>
          rw[hy2] at hp2
          rw[cond_true] at hp2 ⊢
          rw[getK_of x y.1 _ hp2 (List.mem_append_left _ (List.mem_append_right _ List.mem_cons_self)),← hy2]
        |false =>
          rw[cond_false,List.append_nil]
          have:y=([],false):=by rw[← a2 hy2,← hy2]
          rw[this]
          refine getK_none x _ fun e he hx=>?_
          rcases List.mem_append.1 he with he | he
          . have:=hlt e he; rw[hx,less_irrefl] at this; cases this
          . have:=hgt e he; rw[hx,less_irrefl] at this; cases this
      . have ht:touchB op k t w x=false:=by
          unfold touchB
          rw[hm,decide_eq_false h3]
          exact decide_eq_false hx
        unfold applyM
        rw[ht,cond_false]
        have hcv:((cond (getK x l).2 (getK x l).1 [],(getK x l).2):Txt×Bool)=getK x l:=by
          cases hg:(getK x l).2 with
          |true=>rw[cond_true,← hg]
          |false=>rw[(getK_no x l hg).1]; rfl
        rw[hcv]
        refine getK_same x hp2 hp fun e hex=>⟨fun he=>?_,fun he=>?_⟩
        . rcases List.mem_append.1 he with he | he
          . rcases List.mem_append.1 he with he | he
            . exact hTs.subset he
            . rw[hI e he] at hex; exact (hx hex.symm).elim
          . exact hDs.subset he
        . rcases hsp e he (fun h=>hx (hex.symm.trans h)) with h | h
          . exact List.mem_append_left _ (List.mem_append_left _ h)
          . exact List.mem_append_right _ h
    . rcases List.mem_append.1 he with he | he
      . rcases List.mem_append.1 he with he | he
        . exact .inr (getK_is _ l (hTs.subset he) rfl)
        . rw[hI e he]; exact .inl rfl
      . exact .inr (getK_is _ l (hDs.subset he) rfl)
    . rw[List.length_append,List.length_append]
      have:(cond y.2 [(k,y.1)] []:List Ent).length<=1:=by cases y.2<;>simp
      omega
set_option maxRecDepth 10000
def bdy8:CC:=match loopsIn none c8.body with | [(_,b)]=>b | _=>.skip
abbrev P8T:=Nat->Nat->List Ent->Nat->List Ent->Int->Bool
abbrev S8T:=List Ent->Txt->List Ent->Int->Bool
def ld8a (P:P8T) (S:S8T):LoopD:=⟨[(0,none),(4,none),(7,none),(14,none)],[],[(6,none)],fun vs ao=>match vs,ao with
  |[.rs 0 j n c 2 ex,.ptr 1 0,.rs 2 0 L L' 2 true,.int .i64 z],[.r .ent full sp el,.c [.int .i64 op,.str k,.str t,.str w] false 31,.r .ent q false ⟨41,0⟩] =>
    some (L-z.toNat,.need (Nat.beq L L'&&P j n full L q z) (.br (S (seg full j n) k q z) (.exit 0 [] [.r .ent full sp el]) (.ret [.bool false] [.r .ent full sp el])))
  |_,_=>none⟩
def ld8n (P:P8T) (S:S8T):LoopD:=⟨[(0,none),(4,none),(7,none),(14,none)],[],[(6,none)],fun vs ao=>match vs,ao with
  |[.nils,.ptr 0 0,.rs 1 0 L L' 2 true,.int .i64 z],[.c [.int .i64 op,.str k,.str t,.str w] false 31,.r .ent q false ⟨41,0⟩] =>
    some (L-z.toNat,.need (Nat.beq L L'&&P 0 0 [] L q z) (.br (S [] k q z) (.exit 0 [] []) (.ret [.bool false] [])))
  |_,_=>none⟩
def ce8 (n:Nat):List R.Hint:=match n with
  |0=>hn [0,2,4]
  |1=>hn [0,2,4]
  |2=>hn [0,2,4,7]
  |3=>hn [0,2,4,7,8,9]
  |4=>hn [0,2,4,7,8,9,10,11]
  |5=>hn [0,2,4,7,8,9,10,11,12,13]
  |_=>hn [0,4,7]
def s8 (lh:Nat->Option LoopD) (N:Nat):Cuts:=⟨lh,120,N,c8,[some (ce8 0),some (ce8 1),some (ce8 2),some (ce8 3),some (ce8 4),some (ce8 5),some (ce8 6)]⟩
theorem p8a0 (A:FB) (lh:Nat->Option LoopD) (j n c:Nat) (ex:Bool) (full:List Ent) (sp:Bool) (el:R.EL) (op:Int) (k t w x:Txt) (kk:R.EK):(pieceD (CA A.mf A.h) (Y7 A) (s8 lh 1) 0 (R.envOfD [.rs 0 j n c 2 ex,.agg [.int .i64 op,.str k,.str t,.str w],.str x] 0 .lf) (mkD [.r .ent full sp el] 1) (neatK 1 (ce8 0) kk)).ev =
    (kk (envZ [0,2,4] [DV.rs 0 j n c 2 ex,R.DV.str x,R.DV.ptr 1 0]) (mkD [DO.r RK.ent full sp el,R.DO.c [R.DV.int .i64 op,R.DV.str k,R.DV.str t,R.DV.str w] false 31] 1)).ev:=by kernel_rfl
theorem p8a1 (A:FB) (lh:Nat->Option LoopD) (j n c:Nat) (ex:Bool) (full:List Ent) (sp:Bool) (el:R.EL) (op:Int) (k t w x:Txt) (kk:R.EK):(pieceD (CA A.mf A.h) (Y7 A) (s8 lh 1) 1 (envZ [0,2,4] [.rs 0 j n c 2 ex,.str x,.ptr 1 0]) (mkD [.r .ent full sp el,.c [.int .i64 op,.str k,.str t,.str w] false 31] 1) (neatK 1 (ce8 1) kk)).ev =
    cond (okS full j n 0) (cond (!fewL (seg full j n)) (some (R.DV.bool true,(mkD [DO.r RK.ent full sp el] 1))) (cond (decide ((↑k.length:Int)<=300)) (cond (decide ((↑t.length:Int)<=300)) (cond (!decide ((↑w.length:Int)<=300)) (some (R.DV.bool true,(mkD [DO.r RK.ent full sp el] 1))) (cond (decide (300<(↑x.length:Int))) (some (R.DV.bool true,(mkD [DO.r RK.ent full sp el] 1))) (cond (okN full j n) (cond (chkB (seg full j n)) (cond (mayB op k t w) ((kk (envZ [0,2,4] [DV.rs 0 j n c 2 ex,R.DV.str x,R.DV.ptr 1 0]) (mkD [DO.r RK.ent full sp el,R.DO.c [R.DV.int .i64 op,R.DV.str k,R.DV.str t,R.DV.str w] false 31] 1)).ev) (some (R.DV.bool true,(mkD [DO.r RK.ent full sp el] 1)))) (some (R.DV.bool true,(mkD [DO.r RK.ent full sp el] 1)))) none))) (some (R.DV.bool true,(mkD [DO.r RK.ent full sp el] 1)))) (some (R.DV.bool true,(mkD [DO.r RK.ent full sp el] 1))))) none:=by kernel_rfl
theorem p8a2 (A:FB) (lh:Nat->Option LoopD) (j n c:Nat) (ex:Bool) (full:List Ent) (sp:Bool) (el:R.EL) (op:Int) (k t w x:Txt) (kk:R.EK):(pieceD (CA A.mf A.h) (Y7 A) (s8 lh 1) 2 (envZ [0,2,4] [.rs 0 j n c 2 ex,.str x,.ptr 1 0]) (mkD [.r .ent full sp el,.c [.int .i64 op,.str k,.str t,.str w] false 31] 1) (neatK 1 (ce8 2) kk)).ev =
    cond (FB.nd A full j n c k) (cond (chkB (seg full j n)&&mayB op k t w) ((kk (envZ [0,2,4,7] [DV.rs 0 j n c 2 ex,R.DV.str x,R.DV.ptr 1 0,DV.rs 2 0 (List.length (FB.al A (seg full j n) op k t w)) (List.length (FB.al A (seg full j n) op k t w)) 2 true]) (mkD [DO.r RK.ent full sp el,R.DO.c [R.DV.int .i64 op,R.DV.str k,R.DV.str t,R.DV.str w] false 31,DO.r RK.ent (FB.al A (seg full j n) op k t w) false { e:=41,z:=0 }] 1)).ev) (cond (Nat.beq n 0) ((kk (envZ [0,2,4,7] [DV.rs 0 j n c 2 ex,R.DV.str x,R.DV.ptr 1 0,DV.rs 2 0 0 0 2 true]) (mkD [DO.r RK.ent full sp el,R.DO.c [R.DV.int .i64 op,R.DV.str k,R.DV.str t,R.DV.str w] false 31,DO.r RK.ent [] false 41] 1)).ev) ((kk (envZ [0,2,4,7] [DV.rs 0 j n c 2 ex,R.DV.str x,R.DV.ptr 1 0,DV.rs 2 0 n n 2 false]) (mkD [DO.r RK.ent full sp el,R.DO.c [R.DV.int .i64 op,R.DV.str k,R.DV.str t,R.DV.str w] false 31,DO.r RK.ent (seg full j n) true 41] 1)).ev))) none:=by kernel_rfl
theorem p8a3 (A:FB) (lh:Nat->Option LoopD) (j n c:Nat) (ex:Bool) (full:List Ent) (sp:Bool) (el:R.EL) (op:Int) (k t w x:Txt) (L:Nat) (q:List Ent) (kk:R.EK):(pieceD (CA A.mf A.h) (Y7 A) (s8 lh 1) 3 (envZ [0,2,4,7] [.rs 0 j n c 2 ex,.str x,.ptr 1 0,.rs 2 0 L L 2 true]) (mkD [.r .ent full sp el,.c [.int .i64 op,.str k,.str t,.str w] false 31,rowO q] 1) (neatK 1 (ce8 3) kk)).ev =
    cond (okN full j n) ((kk (envZ [0,2,4,7,8,9] [DV.rs 0 j n c 2 ex,R.DV.str x,R.DV.ptr 1 0,DV.rs 2 0 L L 2 true,R.DV.str (Prod.fst (FB.gk A x (seg full j n))),R.DV.bool (Prod.snd (FB.gk A x (seg full j n)))]) (mkD [DO.r RK.ent full sp el,R.DO.c [R.DV.int .i64 op,R.DV.str k,R.DV.str t,R.DV.str w] false 31,DO.r RK.ent q false { e:=41,z:=0 }] 1)).ev) none:=by kernel_rfl
theorem p8a4 (A:FB) (lh:Nat->Option LoopD) (j n c:Nat) (ex:Bool) (full:List Ent) (sp:Bool) (el:R.EL) (op:Int) (k t w x:Txt) (L:Nat) (q:List Ent) (v:Txt) (th:Bool) (kk:R.EK):(pieceD (CA A.mf A.h) (Y7 A) (s8 lh 1) 4 (envZ [0,2,4,7,8,9] [.rs 0 j n c 2 ex,.str x,.ptr 1 0,.rs 2 0 L L 2 true,.str v,.bool th]) (mkD [.r .ent full sp el,.c [.int .i64 op,.str k,.str t,.str w] false 31,rowO q] 1) (neatK 1 (ce8 4) kk)).ev =
    cond (okN q 0 L) ((kk (envZ [0,2,4,7,8,9,10,11] [DV.rs 0 j n c 2 ex,R.DV.str x,R.DV.ptr 1 0,DV.rs 2 0 L L 2 true,R.DV.str v,R.DV.bool th,R.DV.str (Prod.fst (FB.gk A x (seg q 0 L))),R.DV.bool (Prod.snd (FB.gk A x (seg q 0 L)))]) (mkD [DO.r RK.ent full sp el,R.DO.c [R.DV.int .i64 op,R.DV.str k,R.DV.str t,R.DV.str w] false 31,DO.r RK.ent q false { e:=41,z:=0 }] 1)).ev) none:=by kernel_rfl
theorem p8a5 (A:FB) (lh:Nat->Option LoopD) (j n c:Nat) (ex:Bool) (full:List Ent) (sp:Bool) (el:R.EL) (op:Int) (k t w x:Txt) (L:Nat) (q:List Ent) (v u:Txt) (th nw:Bool) (kk:R.EK):(pieceD (CA A.mf A.h) (Y7 A) (s8 lh 1) 5 (envZ [0,2,4,7,8,9,10,11] [.rs 0 j n c 2 ex,.str x,.ptr 1 0,.rs 2 0 L L 2 true,.str v,.bool th,.str u,.bool nw]) (mkD [.r .ent full sp el,.c [.int .i64 op,.str k,.str t,.str w] false 31,rowO q] 1) (neatK 1 (ce8 5) kk)).ev =
    cond (decide (List.length v<4611686018427387904)) ((kk (envZ [0,2,4,7,8,9,10,11,12,13] [DV.rs 0 j n c 2 ex,R.DV.str x,R.DV.ptr 1 0,DV.rs 2 0 L L 2 true,R.DV.str v,R.DV.bool th,R.DV.str u,R.DV.bool nw,R.DV.str (Prod.fst (FB.mf A op k t w x v th)),R.DV.bool (Prod.snd (FB.mf A op k t w x v th))]) (mkD [DO.r RK.ent full sp el,R.DO.c [R.DV.int .i64 op,R.DV.str k,R.DV.str t,R.DV.str w] false 31,DO.r RK.ent q false { e:=41,z:=0 }] 1)).ev) none:=by kernel_rfl
theorem p8a6 (A:FB) (lh:Nat->Option LoopD) (j n c:Nat) (ex:Bool) (full:List Ent) (sp:Bool) (el:R.EL) (op:Int) (k t w x:Txt) (L:Nat) (q:List Ent) (v u y:Txt) (th nw st:Bool) (kk:R.EK):(pieceD (CA A.mf A.h) (Y7 A) (s8 lh 1) 6 (envZ [0,2,4,7,8,9,10,11,12,13] [.rs 0 j n c 2 ex,.str x,.ptr 1 0,.rs 2 0 L L 2 true,.str v,.bool th,.str u,.bool nw,.str y,.bool st]) (mkD [.r .ent full sp el,.c [.int .i64 op,.str k,.str t,.str w] false 31,rowO q] 1) (neatK 1 (ce8 6) kk)).ev =
    cond (okN q 0 L) (cond (chkB (seg q 0 L)) (cond (!decide (u=y)) (some (R.DV.bool false,(mkD [DO.r RK.ent full sp el] 1))) (cond ((nw == st) != true) (some (R.DV.bool false,(mkD [DO.r RK.ent full sp el] 1))) (cond (!touchB op k t w x) (cond (!decide (u=v)) (some (R.DV.bool false,(mkD [DO.r RK.ent full sp el] 1))) (cond ((nw == th) != true) (some (R.DV.bool false,(mkD [DO.r RK.ent full sp el] 1))) ((kk (envZ [0,4,7] [DV.rs 0 j n c 2 ex,R.DV.ptr 1 0,DV.rs 2 0 L L 2 true]) (mkD [DO.r RK.ent full sp el,R.DO.c [R.DV.int .i64 op,R.DV.str k,R.DV.str t,R.DV.str w] false 31,DO.r RK.ent q false { e:=41,z:=0 }] 1)).ev))) ((kk (envZ [0,4,7] [DV.rs 0 j n c 2 ex,R.DV.ptr 1 0,DV.rs 2 0 L L 2 true]) (mkD [DO.r RK.ent full sp el,R.DO.c [R.DV.int .i64 op,R.DV.str k,R.DV.str t,R.DV.str w] false 31,DO.r RK.ent q false { e:=41,z:=0 }] 1)).ev)))) (some (R.DV.bool false,(mkD [DO.r RK.ent full sp el] 1)))) none:=by kernel_rfl
theorem p8a7 (A:FB) (P:P8T) (S:S8T) (j n c:Nat) (ex:Bool) (full:List Ent) (sp:Bool) (el:R.EL) (op:Int) (k t w x:Txt) (L:Nat) (q:List Ent)  : (restD (CA A.mf A.h) (Y7 A) (s8 (lhX (ld8a P S)) 1) 7 (envZ [0,4,7] [.rs 0 j n c 2 ex,.ptr 1 0,.rs 2 0 L L 2 true]) (mkD [.r .ent full sp el,.c [.int .i64 op,.str k,.str t,.str w] false 31,rowO q] 1)).ev =
    cond (decide (L-0<Cuts.lev (s8 (lhX (ld8a P S)) 1))) (cond (Nat.beq L L&&P j n full L q 0) (cond (S (seg full j n) k q 0) (some (R.DV.bool true,(mkD [DO.r RK.ent full sp el] 1))) (some (R.DV.bool false,(mkD [DO.r RK.ent full sp el] 1)))) none) none:=by kernel_rfl
theorem p8at (A:FB) (P:P8T) (S:S8T) (j n c:Nat) (ex:Bool) (full:List Ent) (sp:Bool) (el:R.EL) (op:Int) (k t w x:Txt) (L:Nat) (q:List Ent) (z:Int) (m:Nat) (rd k1:R.EK) (y:List (Nat×R.EK)):(turnD (CA A.mf A.h) (Y7 A) (fun _=>none) 120 122 1 0 bdy8 (ld8a P S) m [.rs 0 j n c 2 ex,.ptr 1 0,.rs 2 0 L L 2 true,.int .i64 z] [.r .ent full sp el,.c [.int .i64 op,.str k,.str t,.str w] false 31,rowO q] rd k1 y).ev =
    cond (decide (z<(↑L:Int))) (cond (decide (0<=z)&&decide (Int.toNat z<L)) (cond (Nat.blt (0+Int.toNat z) q.length) (cond (okN full j n) (cond (!Prod.snd (FB.gk A (Prod.fst (List.getD q (0+Int.toNat z) ((([],[]):Ent)))) (seg full j n))) (cond (decide (0<=z)&&decide (Int.toNat z<L)) (cond (Nat.blt (0+Int.toNat z) q.length) (cond (!decide (Prod.fst (List.getD q (0+Int.toNat z) ((([],[]):Ent)))=k)) ((rd (envZ [6] [R.DV.bool false]) (mkD [DO.r RK.ent full sp el] 1)).ev) (cond (decide (L-Int.toNat (IntKind.wrap .i64 (z+1))<m)) (cond (Nat.beq L L&&P j n full L q (IntKind.wrap .i64 (z+1))) (cond (S (seg full j n) k q (IntKind.wrap .i64 (z+1))) ((k1 (envZ [] []) (mkD [DO.r RK.ent full sp el] 1)).ev) ((rd (envZ [6] [R.DV.bool false]) (mkD [DO.r RK.ent full sp el] 1)).ev)) none) none)) none) none) (cond (decide (L-Int.toNat (IntKind.wrap .i64 (z+1))<m)) (cond (Nat.beq L L&&P j n full L q (IntKind.wrap .i64 (z+1))) (cond (S (seg full j n) k q (IntKind.wrap .i64 (z+1))) ((k1 (envZ [] []) (mkD [DO.r RK.ent full sp el] 1)).ev) ((rd (envZ [6] [R.DV.bool false]) (mkD [DO.r RK.ent full sp el] 1)).ev)) none) none)) none) none) none) ((k1 (envZ [] []) (mkD [DO.r RK.ent full sp el] 1)).ev):=by kernel_rfl
theorem p8n0 (A:FB) (lh:Nat->Option LoopD) (op:Int) (k t w x:Txt) (kk:R.EK):(pieceD (CA A.mf A.h) (Y7 A) (s8 lh 0) 0 (R.envOfD [.nils,.agg [.int .i64 op,.str k,.str t,.str w],.str x] 0 .lf) (mkD [] 0) (neatK 0 (ce8 0) kk)).ev =
    (kk (envZ [0,2,4] [R.DV.nils,R.DV.str x,R.DV.ptr 0 0]) (mkD [R.DO.c [R.DV.int .i64 op,R.DV.str k,R.DV.str t,R.DV.str w] false 31] 0)).ev:=by kernel_rfl
theorem p8n1 (A:FB) (lh:Nat->Option LoopD) (op:Int) (k t w x:Txt) (kk:R.EK):(pieceD (CA A.mf A.h) (Y7 A) (s8 lh 0) 1 (envZ [0,2,4] [.nils,.str x,.ptr 0 0]) (mkD [.c [.int .i64 op,.str k,.str t,.str w] false 31] 0) (neatK 0 (ce8 1) kk)).ev =
    cond (decide ((↑k.length:Int)<=300)) (cond (decide ((↑t.length:Int)<=300)) (cond (!decide ((↑w.length:Int)<=300)) (some (R.DV.bool true,(mkD [] 0))) (cond (decide (300<(↑x.length:Int))) (some (R.DV.bool true,(mkD [] 0))) (cond (mayB op k t w) ((kk (envZ [0,2,4] [R.DV.nils,R.DV.str x,R.DV.ptr 0 0]) (mkD [R.DO.c [R.DV.int .i64 op,R.DV.str k,R.DV.str t,R.DV.str w] false 31] 0)).ev) (some (R.DV.bool true,(mkD [] 0)))))) (some (R.DV.bool true,(mkD [] 0)))) (some (R.DV.bool true,(mkD [] 0))):=by kernel_rfl
theorem p8n2 (A:FB) (lh:Nat->Option LoopD) (op:Int) (k t w x:Txt) (kk:R.EK):(pieceD (CA A.mf A.h) (Y7 A) (s8 lh 0) 2 (envZ [0,2,4] [.nils,.str x,.ptr 0 0]) (mkD [.c [.int .i64 op,.str k,.str t,.str w] false 31] 0) (neatK 0 (ce8 2) kk)).ev =
    cond (mayB op k t w) (cond (decide (op=3)) ((kk (envZ [0,2,4,7] [R.DV.nils,R.DV.str x,R.DV.ptr 0 0,DV.rs 1 0 0 0 2 true]) (mkD [R.DO.c [R.DV.int .i64 op,R.DV.str k,R.DV.str t,R.DV.str w] false 31,DO.r RK.ent [] false { e:=41,z:=0 }] 0)).ev) (cond (Prod.snd (FB.mf A op k t w k [] false)) ((kk (envZ [0,2,4,7] [R.DV.nils,R.DV.str x,R.DV.ptr 0 0,DV.rs 1 0 1 1 2 true]) (mkD [R.DO.c [R.DV.int .i64 op,R.DV.str k,R.DV.str t,R.DV.str w] false 31,DO.r RK.ent [(k,Prod.fst (FB.mf A op k t w k [] false))] false { e:=41,z:=0 }] 0)).ev) ((kk (envZ [0,2,4,7] [R.DV.nils,R.DV.str x,R.DV.ptr 0 0,DV.rs 1 0 0 0 2 true]) (mkD [R.DO.c [R.DV.int .i64 op,R.DV.str k,R.DV.str t,R.DV.str w] false 31,DO.r RK.ent [] false { e:=41,z:=0 }] 0)).ev))) ((kk (envZ [0,2,4,7] [R.DV.nils,R.DV.str x,R.DV.ptr 0 0,R.DV.nils]) (mkD [R.DO.c [R.DV.int .i64 op,R.DV.str k,R.DV.str t,R.DV.str w] false 31] 0)).ev):=by kernel_rfl
theorem p8n3 (A:FB) (lh:Nat->Option LoopD) (op:Int) (k t w x:Txt) (L:Nat) (q:List Ent) (kk:R.EK):(pieceD (CA A.mf A.h) (Y7 A) (s8 lh 0) 3 (envZ [0,2,4,7] [.nils,.str x,.ptr 0 0,.rs 1 0 L L 2 true]) (mkD [.c [.int .i64 op,.str k,.str t,.str w] false 31,rowO q] 0) (neatK 0 (ce8 3) kk)).ev =
    (kk (envZ [0,2,4,7,8,9] [R.DV.nils,R.DV.str x,R.DV.ptr 0 0,DV.rs 1 0 L L 2 true,R.DV.str [],R.DV.bool false]) (mkD [R.DO.c [R.DV.int .i64 op,R.DV.str k,R.DV.str t,R.DV.str w] false 31,DO.r RK.ent q false { e:=41,z:=0 }] 0)).ev:=by kernel_rfl
theorem p8n4 (A:FB) (lh:Nat->Option LoopD) (op:Int) (k t w x:Txt) (L:Nat) (q:List Ent) (v:Txt) (th:Bool) (kk:R.EK):(pieceD (CA A.mf A.h) (Y7 A) (s8 lh 0) 4 (envZ [0,2,4,7,8,9] [.nils,.str x,.ptr 0 0,.rs 1 0 L L 2 true,.str v,.bool th]) (mkD [.c [.int .i64 op,.str k,.str t,.str w] false 31,rowO q] 0) (neatK 0 (ce8 4) kk)).ev =
    cond (okN q 0 L) ((kk (envZ [0,2,4,7,8,9,10,11] [R.DV.nils,R.DV.str x,R.DV.ptr 0 0,DV.rs 1 0 L L 2 true,R.DV.str v,R.DV.bool th,R.DV.str (Prod.fst (FB.gk A x (seg q 0 L))),R.DV.bool (Prod.snd (FB.gk A x (seg q 0 L)))]) (mkD [R.DO.c [R.DV.int .i64 op,R.DV.str k,R.DV.str t,R.DV.str w] false 31,DO.r RK.ent q false { e:=41,z:=0 }] 0)).ev) none:=by kernel_rfl
theorem p8n5 (A:FB) (lh:Nat->Option LoopD) (op:Int) (k t w x:Txt) (L:Nat) (q:List Ent) (v u:Txt) (th nw:Bool) (kk:R.EK):(pieceD (CA A.mf A.h) (Y7 A) (s8 lh 0) 5 (envZ [0,2,4,7,8,9,10,11] [.nils,.str x,.ptr 0 0,.rs 1 0 L L 2 true,.str v,.bool th,.str u,.bool nw]) (mkD [.c [.int .i64 op,.str k,.str t,.str w] false 31,rowO q] 0) (neatK 0 (ce8 5) kk)).ev =
    cond (decide (List.length v<4611686018427387904)) ((kk (envZ [0,2,4,7,8,9,10,11,12,13] [R.DV.nils,R.DV.str x,R.DV.ptr 0 0,DV.rs 1 0 L L 2 true,R.DV.str v,R.DV.bool th,R.DV.str u,R.DV.bool nw,R.DV.str (Prod.fst (FB.mf A op k t w x v th)),R.DV.bool (Prod.snd (FB.mf A op k t w x v th))]) (mkD [R.DO.c [R.DV.int .i64 op,R.DV.str k,R.DV.str t,R.DV.str w] false 31,DO.r RK.ent q false { e:=41,z:=0 }] 0)).ev) none:=by kernel_rfl
theorem p8n6 (A:FB) (lh:Nat->Option LoopD) (op:Int) (k t w x:Txt) (L:Nat) (q:List Ent) (v u y:Txt) (th nw st:Bool) (kk:R.EK):(pieceD (CA A.mf A.h) (Y7 A) (s8 lh 0) 6 (envZ [0,2,4,7,8,9,10,11,12,13] [.nils,.str x,.ptr 0 0,.rs 1 0 L L 2 true,.str v,.bool th,.str u,.bool nw,.str y,.bool st]) (mkD [.c [.int .i64 op,.str k,.str t,.str w] false 31,rowO q] 0) (neatK 0 (ce8 6) kk)).ev =
    cond (okN q 0 L) (cond (chkB (seg q 0 L)) (cond (!decide (u=y)) (some (R.DV.bool false,(mkD [] 0))) (cond ((nw == st) != true) (some (R.DV.bool false,(mkD [] 0))) (cond (!touchB op k t w x) (cond (!decide (u=v)) (some (R.DV.bool false,(mkD [] 0))) (cond ((nw == th) != true) (some (R.DV.bool false,(mkD [] 0))) ((kk (envZ [0,4,7] [R.DV.nils,R.DV.ptr 0 0,DV.rs 1 0 L L 2 true]) (mkD [R.DO.c [R.DV.int .i64 op,R.DV.str k,R.DV.str t,R.DV.str w] false 31,DO.r RK.ent q false { e:=41,z:=0 }] 0)).ev))) ((kk (envZ [0,4,7] [R.DV.nils,R.DV.ptr 0 0,DV.rs 1 0 L L 2 true]) (mkD [R.DO.c [R.DV.int .i64 op,R.DV.str k,R.DV.str t,R.DV.str w] false 31,DO.r RK.ent q false { e:=41,z:=0 }] 0)).ev)))) (some (R.DV.bool false,(mkD [] 0)))) none:=by kernel_rfl
theorem p8n7 (A:FB) (P:P8T) (S:S8T) (op:Int) (k t w x:Txt) (L:Nat) (q:List Ent)  : (restD (CA A.mf A.h) (Y7 A) (s8 (lhX (ld8n P S)) 0) 7 (envZ [0,4,7] [.nils,.ptr 0 0,.rs 1 0 L L 2 true]) (mkD [.c [.int .i64 op,.str k,.str t,.str w] false 31,rowO q] 0)).ev =
    cond (decide (L-0<Cuts.lev (s8 (lhX (ld8n P S)) 0))) (cond (Nat.beq L L&&P 0 0 [] L q 0) (cond (S [] k q 0) (some (R.DV.bool true,(mkD [] 0))) (some (R.DV.bool false,(mkD [] 0)))) none) none:=by kernel_rfl
theorem p8nt (A:FB) (P:P8T) (S:S8T) (op:Int) (k t w x:Txt) (L:Nat) (q:List Ent) (z:Int) (m:Nat) (rd k1:R.EK) (y:List (Nat×R.EK)):(turnD (CA A.mf A.h) (Y7 A) (fun _=>none) 120 122 0 0 bdy8 (ld8n P S) m [.nils,.ptr 0 0,.rs 1 0 L L 2 true,.int .i64 z] [.c [.int .i64 op,.str k,.str t,.str w] false 31,rowO q] rd k1 y).ev =
    cond (decide (z<(↑L:Int))) (cond (decide (0<=z)&&decide (Int.toNat z<L)) (cond (Nat.blt (0+Int.toNat z) q.length) (cond (decide (0<=z)&&decide (Int.toNat z<L)) (cond (Nat.blt (0+Int.toNat z) q.length) (cond (!decide (Prod.fst (List.getD q (0+Int.toNat z) ((([],[]):Ent)))=k)) ((rd (envZ [6] [R.DV.bool false]) (mkD [] 0)).ev) (cond (decide (L-Int.toNat (IntKind.wrap .i64 (z+1))<m)) (cond (Nat.beq L L&&P 0 0 [] L q (IntKind.wrap .i64 (z+1))) (cond (S [] k q (IntKind.wrap .i64 (z+1))) ((k1 (envZ [] []) (mkD [] 0)).ev) ((rd (envZ [6] [R.DV.bool false]) (mkD [] 0)).ev)) none) none)) none) none) none) none) ((k1 (envZ [] []) (mkD [] 0)).ev):=by kernel_rfl
end
end Go.Vm.YtkjjpmbpjfmbcaaGreatDoor

namespace Go.Vm.YtkjjpmbpjfmbcaaGreatDoor
open Go.Proofs Go.Vm.R
noncomputable section
def S8 (gk:GK):S8T:=fun l k q z=>(q.drop z.toNat).all fun e=>(gk e.1 l).2||decide (e.1=k)
def P8:P8T:=fun j n full L q z=>okN full j n&&decide (L=q.length/\0<=z/\z<=L/\L<99)
theorem P8_iff {j n:Nat}{full:List Ent}{L:Nat}{q:List Ent}{z:Int}:P8 j n full L q z=true<->okN full j n=true/\L=q.length/\0<=z/\z<=L/\L<99:=by
  unfold P8
  rw[Bool.and_eq_true,decide_eq_true_eq]
theorem S8_succ (gk:GK) (l:List Ent) (k:Txt) {q:List Ent}{z:Int} (h0:0<=z) (h1:z<q.length) :
    S8 gk l k q z=(((gk (q.getD (0+z.toNat) (([],[]):Ent)).1 l).2||decide ((q.getD (0+z.toNat) (([],[]):Ent)).1=k))&&S8 gk l k q (z+1)):=by
  unfold S8
  rw[show (z+1).toNat=z.toNat+1 by omega,List.drop_eq_getElem_cons (show z.toNat<q.length by omega),List.all_cons,List.getD_eq_getElem?_getD,Nat.zero_add,List.getElem?_eq_getElem (show z.toNat<q.length by omega)]
  rfl
theorem S8_end (gk:GK) (l:List Ent) (k:Txt) {q:List Ent}{z:Int} (h1:¬ z<q.length):S8 gk l k q z=true:=by
  unfold S8
  rw[List.drop_eq_nil_of_le (by omega)]; rfl
theorem step8a (A:FB) (j n c:Nat) (ex:Bool) (L:Nat) (z:Int) (op:Int) (k t w:Txt) (full q:List Ent) (sp:Bool) (el:R.EL) (rd k1:R.EK) (y:List (Nat×R.EK)) (v:R.DV×R.DH) (hp:P8 j n full L q z=true)
    (hw:cond (S8 A.gk (seg full j n) k q z) (k1 (envZ [] []) (mkD [DO.r RK.ent full sp el] 1)).ev (rd (envZ [6] [R.DV.bool false]) (mkD [DO.r RK.ent full sp el] 1)).ev=some v) :
    (turnD (CA A.mf A.h) (Y7 A) (fun _=>none) 120 122 1 0 bdy8 (ld8a P8 (S8 A.gk)) (L-z.toNat) [.rs 0 j n c 2 ex,.ptr 1 0,.rs 2 0 L L 2 true,.int .i64 z] [.r .ent full sp el,.c [.int .i64 op,.str k,.str t,.str w] false 31,rowO q] rd k1 y).ev=some v:=by
  refine (p8at A P8 (S8 A.gk) j n c ex full sp el op k t w [] L q z _ rd k1 y).trans ?_
  obtain⟨hk,hL,h0,h1,h2⟩:=P8_iff.1 hp
  by_cases h3:z<L
  . have b1:z.toNat<L:=by omega
    have hn:P8 j n full L q (z+1)=true:=P8_iff.2 ⟨hk,hL,by omega,by omega,h2⟩
    have hb:Nat.beq L L=true:=Nat.beq_refl L
    rw[cT h3,cA h0 b1,cB (show 0+z.toNat<q.length by omega),hk,cond_true,cA h0 b1,cB (show 0+z.toNat<q.length by omega),nextI h0 h3 (by omega),cT (show L-(z+1).toNat<L-z.toNat by omega),hb,hn,Bool.and_self,cond_true]
    rw[S8_succ A.gk (seg full j n) k h0 (by omega)] at hw
    revert hw
    generalize (A.gk (q.getD (0+z.toNat) (([],[]):Ent)).1 (seg full j n)).2=a
    generalize decide ((q.getD (0+z.toNat) (([],[]):Ent)).1=k)=b
    cases a<;>cases b<;>exact id
  . rw[cF h3]
    rw[S8_end A.gk (seg full j n) k (by omega)] at hw
    exact hw
theorem step8n (A:FB) (L:Nat) (z:Int) (op:Int) (k t w:Txt) (q:List Ent) (rd k1:R.EK) (y:List (Nat×R.EK)) (v:R.DV×R.DH) (hp:P8 0 0 [] L q z=true)
    (hw:cond (S8 A.gk [] k q z) (k1 (envZ [] []) (mkD [] 0)).ev (rd (envZ [6] [R.DV.bool false]) (mkD [] 0)).ev=some v) :
    (turnD (CA A.mf A.h) (Y7 A) (fun _=>none) 120 122 0 0 bdy8 (ld8n P8 (S8 A.gk)) (L-z.toNat) [.nils,.ptr 0 0,.rs 1 0 L L 2 true,.int .i64 z] [.c [.int .i64 op,.str k,.str t,.str w] false 31,rowO q] rd k1 y).ev=some v:=by
  refine (p8nt A P8 (S8 A.gk) op k t w [] L q z _ rd k1 y).trans ?_
  obtain⟨hk,hL,h0,h1,h2⟩:=P8_iff.1 hp
  by_cases h3:z<L
  . have b1:z.toNat<L:=by omega
    have hn:P8 0 0 [] L q (z+1)=true:=P8_iff.2 ⟨hk,hL,by omega,by omega,h2⟩
    have hb:Nat.beq L L=true:=Nat.beq_refl L
    rw[cT h3,cA h0 b1,cB (show 0+z.toNat<q.length by omega),cA h0 b1,cB (show 0+z.toNat<q.length by omega),nextI h0 h3 (by omega),cT (show L-(z+1).toNat<L-z.toNat by omega),hb,hn,Bool.and_self,cond_true]
    rw[S8_succ A.gk [] k h0 (by omega),A.hg] at hw
    have hg:∀ x,(getK x []).2=false:=fun x=>rfl
    rw[hg,Bool.false_or,← A.hg] at hw
    revert hw
    generalize decide ((q.getD (0+z.toNat) (([],[]):Ent)).1=k)=b
    cases b<;>exact id
  . rw[cF h3]
    rw[S8_end A.gk [] k (by omega)] at hw
    exact hw
theorem loop8a (A:FB) {n:Nat} (hn:120<=n):LoopOk C.G 1 (callO noTmps C.O C.tab n) n 120 122 0 bdy8 (ld8a P8 (S8 A.gk)):=by
  refine loop_of (CA A.mf A.h) (Y7 A) (lh:=fun _=>none) hn ?_ (fun p _ ld h=>by cases h) ?_
  . exact wf_loops _ none (wf_body (f:=8) rfl) (0,bdy8) (by rw[show loopsIn none c8.body=[(0,bdy8)] from rfl]; exact List.mem_cons_self)
  intro vs ao m t hs rd k1 y w hw
  unfold ld8a at hs
  simp only at hs
  split at hs
  case h_2=>cases hs
  cases hs
  have h1:=lt_need hw
  have h2:=h1.1
  rw[Bool.and_eq_true] at h2
  have hb:=Nat.eq_of_beq_eq_true h2.1
  subst hb
  exact step8a A _ _ _ _ _ _ _ _ _ _ _ _ _ _ rd k1 y w h2.2 ((lt_br _ _ _).symm.trans h1.2)
theorem loop8n (A:FB) {n:Nat} (hn:120<=n):LoopOk C.G 0 (callO noTmps C.O C.tab n) n 120 122 0 bdy8 (ld8n P8 (S8 A.gk)):=by
  refine loop_of (CA A.mf A.h) (Y7 A) (lh:=fun _=>none) hn ?_ (fun p _ ld h=>by cases h) ?_
  . exact wf_loops _ none (wf_body (f:=8) rfl) (0,bdy8) (by rw[show loopsIn none c8.body=[(0,bdy8)] from rfl]; exact List.mem_cons_self)
  intro vs ao m t hs rd k1 y w hw
  unfold ld8n at hs
  simp only at hs
  split at hs
  case h_2=>cases hs
  cases hs
  have h1:=lt_need hw
  have h2:=h1.1
  rw[Bool.and_eq_true] at h2
  have hb:=Nat.eq_of_beq_eq_true h2.1
  subst hb
  exact step8n A _ _ _ _ _ _ _ rd k1 y w h2.2 ((lt_br _ _ _).symm.trans h1.2)
def A2:FB:=⟨applyM,rfl,getK,rfl,alL,rfl,ndL,rfl⟩
section
variable (op:Int) (k t w x:Txt)
theorem tail8 {l q:List Ent} (hc:chkB l=true) (hm:mayB op k t w=true) (hq:q=alL l op k t w) :
    chkB q=true/\q.length<=l.length+1/\getK x q=applyM op k t w x (getK x l).1 (getK x l).2/\(touchB op k t w x=false->getK x q=getK x l)/\S8 getK l k q 0=true:=by
  subst hq
  obtain⟨h1,h2,h3,h4⟩:=al_ok hc hm
  refine⟨h1,h4,h2 x,fun ht=>?_,?_⟩
  . rw[h2 x]
    unfold applyM
    rw[ht,cond_false]
    cases hg:(getK x l).2 with
    |true=>rw[cond_true,← hg]
    |false=>rw[(getK_no x l hg).1]; rfl
  . unfold S8
    rw[List.all_eq_true]
    intro e he
    rcases h3 e he with h | h
    . rw[decide_eq_true h,Bool.or_true]
    . rw[h,Bool.true_or]
end
section
variable (j n c:Nat) (ex:Bool) (full:List Ent) (sp:Bool) (el:R.EL) (op:Int) (k t w x:Txt)
abbrev yes8:Option (R.DV×R.DH):=some (.bool true,mkD [.r .ent full sp el] 1)
theorem e8a3 (hk:okN full j n=true) (hn:n<=60) (hch:chkB (seg full j n)=true) (hm:mayB op k t w=true) (q:List Ent) (hq:q=alL (seg full j n) op k t w) :
    (restD (CA A2.mf A2.h) (Y7 A2) (s8 (lhX (ld8a P8 (S8 A2.gk))) 1) 3 (envZ [0,2,4,7] [.rs 0 j n c 2 ex,.str x,.ptr 1 0,.rs 2 0 q.length q.length 2 true]) (mkD [.r .ent full sp el,.c [.int .i64 op,.str k,.str t,.str w] false 31,rowO q] 1)).ev=yes8 full sp el:=by
  obtain⟨p1,_⟩:=okN_iff.1 hk
  have hl:(seg full j n).length=n:=seg_len p1
  obtain⟨h1,h2,h3,h4,h5⟩:=tail8 op k t w x hch hm hq
  have ho:=((chkB_iff _).1 hch).1
  obtain⟨g1,g2⟩:=get_len (k:=x) ho
  have hkq:okN q 0 q.length=true:=okN_iff.2 ⟨by omega,by omega⟩
  have hsq:seg q 0 q.length=q:=by unfold seg; rw[List.drop_zero,List.take_length]
  refine by_piece (CA A2.mf A2.h) (Y7 A2) (s8 (lhX (ld8a P8 (S8 A2.gk))) 1) 3 rfl rfl (fun kk=>p8a3 A2 _ j n c ex full sp el op k t w x _ q kk) ?_
  rw[hk,cond_true]
  refine by_piece (CA A2.mf A2.h) (Y7 A2) (s8 (lhX (ld8a P8 (S8 A2.gk))) 1) 4 rfl rfl (fun kk=>p8a4 A2 _ j n c ex full sp el op k t w x _ q _ _ kk) ?_
  rw[hkq,cond_true,hsq]
  refine by_piece (CA A2.mf A2.h) (Y7 A2) (s8 (lhX (ld8a P8 (S8 A2.gk))) 1) 5 rfl rfl (fun kk=>p8a5 A2 _ j n c ex full sp el op k t w x _ q _ _ _ _ kk) ?_
  rw[decide_eq_true (show (A2.gk x (seg full j n)).1.length<4611686018427387904 from Nat.lt_of_le_of_lt g1 (by omega)),cond_true]
  refine by_piece (CA A2.mf A2.h) (Y7 A2) (s8 (lhX (ld8a P8 (S8 A2.gk))) 1) 6 rfl rfl (fun kk=>p8a6 A2 _ j n c ex full sp el op k t w x _ q _ _ _ _ _ _ kk) ?_
  rw[hkq,cond_true,hsq,h1,cond_true]
  have e1:A2.mf op k t w x (A2.gk x (seg full j n)).1 (A2.gk x (seg full j n)).2=A2.gk x q:=h3.symm
  rw[e1,decide_eq_true rfl,show ((A2.gk x q).2 == (A2.gk x q).2)=true from beq_self_eq_true _]
  have e7:(restD (CA A2.mf A2.h) (Y7 A2) (s8 (lhX (ld8a P8 (S8 A2.gk))) 1) 7 (envZ [0,4,7] [.rs 0 j n c 2 ex,.ptr 1 0,.rs 2 0 q.length q.length 2 true]) (mkD [.r .ent full sp el,.c [.int .i64 op,.str k,.str t,.str w] false 31,rowO q] 1)).ev=yes8 full sp el:=by
    refine (p8a7 A2 P8 (S8 A2.gk) j n c ex full sp el op k t w x q.length q).trans ?_
    have hP:P8 j n full q.length q 0=true:=P8_iff.2 ⟨hk,rfl,by omega,by omega,by omega⟩
    have hb:Nat.beq q.length q.length=true:=Nat.beq_refl _
    have h5':S8 A2.gk (seg full j n) k q 0=true:=h5
    rw[cT (show q.length-0<Cuts.lev (s8 (lhX (ld8a P8 (S8 A2.gk))) 1) by show q.length-0<120; omega),hb,hP,h5']; rfl
  cases ht:touchB op k t w x with
  |true=>exact e7
  |false =>
    have e2:A2.gk x q=A2.gk x (seg full j n):=h4 ht
    rw[e2,decide_eq_true rfl,show ((A2.gk x (seg full j n)).2 == (A2.gk x (seg full j n)).2)=true from beq_self_eq_true _]
    exact e7
abbrev yes8n:Option (R.DV×R.DH):=some (.bool true,mkD [] 0)
theorem e8n3 (hm:mayB op k t w=true) (q:List Ent) (hq:q=alL [] op k t w) :
    (restD (CA A2.mf A2.h) (Y7 A2) (s8 (lhX (ld8n P8 (S8 A2.gk))) 0) 3 (envZ [0,2,4,7] [.nils,.str x,.ptr 0 0,.rs 1 0 q.length q.length 2 true]) (mkD [.c [.int .i64 op,.str k,.str t,.str w] false 31,rowO q] 0)).ev=yes8n:=by
  have hch:chkB []=true:=rfl
  have hl:([]:List Ent).length=0:=rfl
  obtain⟨h1,h2,h3,h4,h5⟩:=tail8 op k t w x hch hm hq
  have ho:=((chkB_iff _).1 hch).1
  obtain⟨g1,g2⟩:=get_len (k:=x) ho
  have hk:okN [] 0 0=true:=rfl
  have hkq:okN q 0 q.length=true:=okN_iff.2 ⟨by omega,by omega⟩
  have hsq:seg q 0 q.length=q:=by unfold seg; rw[List.drop_zero,List.take_length]
  refine by_piece (CA A2.mf A2.h) (Y7 A2) (s8 (lhX (ld8n P8 (S8 A2.gk))) 0) 3 rfl rfl (fun kk=>p8n3 A2 _ op k t w x _ q kk) ?_
  refine by_piece (CA A2.mf A2.h) (Y7 A2) (s8 (lhX (ld8n P8 (S8 A2.gk))) 0) 4 rfl rfl (fun kk=>p8n4 A2 _ op k t w x _ q _ _ kk) ?_
  rw[hkq,cond_true,hsq]
  refine by_piece (CA A2.mf A2.h) (Y7 A2) (s8 (lhX (ld8n P8 (S8 A2.gk))) 0) 5 rfl rfl (fun kk=>p8n5 A2 _ op k t w x _ q _ _ _ _ kk) ?_
  refine (cT (p:=([]:Txt).length<4611686018427387904) (by show 0<4611686018427387904; omega)).trans ?_
  refine by_piece (CA A2.mf A2.h) (Y7 A2) (s8 (lhX (ld8n P8 (S8 A2.gk))) 0) 6 rfl rfl (fun kk=>p8n6 A2 _ op k t w x _ q _ _ _ _ _ _ kk) ?_
  rw[hkq,cond_true,hsq,h1,cond_true]
  have e1:A2.mf op k t w x [] false=A2.gk x q:=h3.symm
  rw[e1,decide_eq_true rfl,show ((A2.gk x q).2 == (A2.gk x q).2)=true from beq_self_eq_true _]
  have e7:(restD (CA A2.mf A2.h) (Y7 A2) (s8 (lhX (ld8n P8 (S8 A2.gk))) 0) 7 (envZ [0,4,7] [.nils,.ptr 0 0,.rs 1 0 q.length q.length 2 true]) (mkD [.c [.int .i64 op,.str k,.str t,.str w] false 31,rowO q] 0)).ev=yes8n:=by
    refine (p8n7 A2 P8 (S8 A2.gk) op k t w x q.length q).trans ?_
    have hP:P8 0 0 [] q.length q 0=true:=P8_iff.2 ⟨hk,rfl,by omega,by omega,by omega⟩
    have hb:Nat.beq q.length q.length=true:=Nat.beq_refl _
    have h5':S8 A2.gk [] k q 0=true:=h5
    rw[cT (show q.length-0<Cuts.lev (s8 (lhX (ld8n P8 (S8 A2.gk))) 0) by show q.length-0<120; omega),hb,hP,h5']; rfl
  cases ht:touchB op k t w x with
  |true=>exact e7
  |false =>
    have e2:A2.gk x q=(([],false):Txt×Bool):=h4 ht
    rw[e2,decide_eq_true rfl]
    exact e7
def out8 (full:List Ent) (j n c:Nat):RD:=.need (decide (j+n<=full.length/\n<=c/\c<9223372036854775808)) (.v (.bool true) [])
theorem law8a : LawOk C.G C.O C.tab 8 121 [.r .ent full sp el] [.rs 0 j n c 2 ex, .agg [.int .i64 op, .str k, .str t, .str w], .str x] (out8 full j n c) := by
  refine law_cut (CA A2.mf A2.h) (Y7 A2) (s8 (lhX (ld8a P8 (S8 A2.gk))) 1).lh (s8 (lhX (ld8a P8 (S8 A2.gk))) 1).cs rfl rfl (fun n hn=>lhX_ok (Q:=fun i b ld=>LoopOk C.G 1 (callO noTmps C.O C.tab n) n 120 122 i b ld) rfl (loop8a A2 hn)) fun z hz=>?_
  obtain⟨hp,hz⟩:=R.ev_need hz
  rw[decide_eq_true_eq] at hp
  obtain⟨p1,p2,p3⟩:=hp
  have hl:(seg full j n).length=n:=seg_len p1
  refine (run_at (CA A2.mf A2.h) (Y7 A2) (s8 (lhX (ld8a P8 (S8 A2.gk))) 1) (l:=[.rs 0 j n c 2 ex,.agg [.int .i64 op,.str k,.str t,.str w],.str x]) (ao:=[.r .ent full sp el]) rfl rfl).trans (Eq.trans ?_ hz)
  show _=yes8 full sp el
  refine by_piece (CA A2.mf A2.h) (Y7 A2) (s8 (lhX (ld8a P8 (S8 A2.gk))) 1) 0 rfl rfl (fun kk=>p8a0 A2 _ j n c ex full sp el op k t w x kk) ?_
  refine by_piece (CA A2.mf A2.h) (Y7 A2) (s8 (lhX (ld8a P8 (S8 A2.gk))) 1) 1 rfl rfl (fun kk=>p8a1 A2 _ j n c ex full sp el op k t w x kk) ?_
  have h0:okS full j n 0=true:=okS_iff.2 ⟨by omega,by omega,p1,by omega⟩
  rw[h0,cond_true]
  cases hf:fewL (seg full j n) with
  |false=>rfl
  |true =>
    have hn:n<=60:=by
      unfold fewL at hf
      rw[Bool.and_eq_true,decide_eq_true_eq,hl] at hf
      omega
    have hk:okN full j n=true:=okN_iff.2 ⟨p1,by omega⟩
    rw[hk,Bool.not_true,cond_false]
    cases decide ((k.length:Int)<=300) with
    |false=>rfl
    |true =>
      cases decide ((t.length:Int)<=300) with
      |false=>rfl
      |true =>
        cases decide ((w.length:Int)<=300) with
        |false=>rfl
        |true =>
          cases decide (300<(x.length:Int)) with
          |true=>rfl
          | false =>
            simp only[Bool.not_true,cond_true,cond_false]
            cases hch:chkB (seg full j n) with
            |false=>rfl
            |true =>
              cases hm:mayB op k t w with
              |false=>rfl
              |true =>
                rw[cond_true,cond_true]
                refine by_piece (CA A2.mf A2.h) (Y7 A2) (s8 (lhX (ld8a P8 (S8 A2.gk))) 1) 2 rfl rfl (fun kk=>p8a2 A2 _ j n c ex full sp el op k t w x kk) ?_
                have hv:(valL (seg full j n) k (cntK k (seg full j n))).length<4611686018427387904:=by
                  rw[(hit_get k _ ((chkB_iff _).1 hch).2).2]
                  have:=(get_len (k:=k) ((chkB_iff _).1 hch).1).1
                  omega
                have hnd:A2.nd full j n c k=true:=by
                  show need35 A1 full j n c k=true
                  unfold need35
                  rw[hk,Bool.true_and,Bool.and_eq_true,decide_eq_true_eq,decide_eq_true_eq]
                  exact⟨⟨by omega,p2⟩,hv⟩
                rw[hnd,cond_true,hch,hm,Bool.and_self,cond_true]
                exact e8a3 j n c ex full sp el op k t w x hk hn hch hm _ rfl
theorem al_nil (hm:mayB op k t w=true):alL [] op k t w=cond (decide (op=3)) [] (cond (applyM op k t w k [] false).2 [(k,(applyM op k t w k [] false).1)] []):=rfl
set_option maxRecDepth 100000 in
theorem law8n : LawOk C.G C.O C.tab 8 121 [] [.nils, .agg [.int .i64 op, .str k, .str t, .str w], .str x] (.v (.bool true) []) := by
  refine law_cut (CA A2.mf A2.h) (Y7 A2) (s8 (lhX (ld8n P8 (S8 A2.gk))) 0).lh (s8 (lhX (ld8n P8 (S8 A2.gk))) 0).cs rfl rfl (fun n hn=>lhX_ok (Q:=fun i b ld=>LoopOk C.G 0 (callO noTmps C.O C.tab n) n 120 122 i b ld) rfl (loop8n A2 hn)) fun z hz=>?_
  refine (run_at (CA A2.mf A2.h) (Y7 A2) (s8 (lhX (ld8n P8 (S8 A2.gk))) 0) (l:=[.nils,.agg [.int .i64 op,.str k,.str t,.str w],.str x]) (ao:=[]) rfl rfl).trans (Eq.trans ?_ hz)
  show _=yes8n
  refine by_piece (CA A2.mf A2.h) (Y7 A2) (s8 (lhX (ld8n P8 (S8 A2.gk))) 0) 0 rfl rfl (fun kk=>p8n0 A2 _ op k t w x kk) ?_
  refine by_piece (CA A2.mf A2.h) (Y7 A2) (s8 (lhX (ld8n P8 (S8 A2.gk))) 0) 1 rfl rfl (fun kk=>p8n1 A2 _ op k t w x kk) ?_
  cases decide ((k.length:Int)<=300) with
  |false=>rfl
  |true =>
    cases decide ((t.length:Int)<=300) with
    |false=>rfl
    |true =>
      cases decide ((w.length:Int)<=300) with
      |false=>rfl
      |true =>
        cases decide (300<(x.length:Int)) with
        |true=>rfl
        | false =>
          simp only[Bool.not_true,cond_true,cond_false]
          cases hm:mayB op k t w with
          |false=>rfl
          |true =>
            rw[cond_true]
            refine by_piece (CA A2.mf A2.h) (Y7 A2) (s8 (lhX (ld8n P8 (S8 A2.gk))) 0) 2 rfl rfl (fun kk=>p8n2 A2 _ op k t w x kk) ?_
            rw[hm,cond_true]
            have ha:=al_nil op k t w hm
            cases h3:decide (op=3) with
            |true =>
              rw[h3,cond_true] at ha
              rw[cond_true]
              exact e8n3 op k t w x hm [] ha.symm
            |false =>
              rw[h3,cond_false] at ha
              rw[cond_false]
              cases h4:(A2.mf op k t w k [] false).2 with
              |true =>
                have h4':(applyM op k t w k [] false).2=true:=h4
                rw[h4',cond_true] at ha
                rw[cond_true]
                exact e8n3 op k t w x hm [(k,(applyM op k t w k [] false).1)] ha.symm
              |false =>
                have h4':(applyM op k t w k [] false).2=false:=h4
                rw[h4',cond_false] at ha
                rw[cond_false]
                exact e8n3 op k t w x hm [] ha.symm
end
end
end Go.Vm.YtkjjpmbpjfmbcaaGreatDoor

namespace Go.Vm.YtkjjpmbpjfmbcaaGreatDoor
open Go.Proofs Go.Proofs.YtkjjpmbpjfmbcaaGreatDoor Go.Vm.R
noncomputable section
theorem base_lt:∀ x∈base,x.1<Tryz.prog.globals.size:=base_ok.lt
theorem gl_eq (n:Nat) (h:n=7) (hlt:∀ x∈base,x.1<n):gl=glBase n base hlt:=by subst h; rfl
theorem G_eq:C.G=glBase Tryz.prog.globals.size base base_lt:=gl_eq _ globals7 _
theorem base_meets (el:Nat->Nat):meets (baseH Tryz.prog.globals.size base el) base=true:=by
  rw[globals7]; kernel_rfl
theorem base_ints:∀ y∈base,∀ v∈y.2,∃ k z,v=.int k z:=by
  intro y hy v hv
  obtain rfl:y=(0,z0.map fun z=>.int .u8 z):=List.mem_singleton.1 hy
  obtain⟨z,_,rfl⟩:=List.mem_map.1 hv
  exact⟨_,_,rfl⟩
noncomputable def fld (i:Nat):Field:=match Tryz.prog.underlying 41 with
  | some (.struct fs) => fs.getD i ⟨"", 0, 0, false, "", "", 0⟩
  | _ => ⟨"", 0, 0, false, "", "", 0⟩
theorem ent_t {t:Nat} (h:Tryz.prog.underlying t=some (.slice 41)):EntT Tryz.prog t 41 where
  sl:=h
  two:=⟨fld 0,fld 1,(by kernel_rfl),(by kernel_rfl),(by kernel_rfl),(by kernel_rfl),(by kernel_rfl),(by kernel_rfl),(by kernel_rfl)⟩
  cells:=by kernel_rfl
  plain:=by kernel_rfl
theorem base_of {W : World} {laid : List (String × DataW Unit)} (hm : laidMet Tryz.prog laid W) (hi : ("strings.asciiSpace", Lib.tabData .u8 z0) ∈ laid) : ∃ el, BaseAt base el W := by
  obtain ⟨e0, h0⟩ := base_of_laid (P := Tryz.prog) hm (name := "strings.asciiSpace") (k := .u8) (zs := z0) (g := 0) (t := 143) (e := 5) (n := 256) (by kernel_rfl) (by kernel_rfl) (by kernel_rfl) (by kernel_rfl) (by kernel_rfl) (by kernel_rfl) (by decide +kernel) hi
  exact⟨_,(baseAt_cons (baseAt_nil W) h0 (fun _ h=>by cases h))⟩
theorem other_of {W:World} (h:W.ShapedOpen Tryz.prog):∃ g cs e fr,W.heap[g]? = some (.cells cs e fr)/\∀ y∈base,y.1 ≠ g:=by
  have hr:(((begin Tryz.prog (fun _ _=>0) default).world.heap[1]?).bind Obj.row?).isSome=true:=by kernel_rfl
  obtain⟨⟨zero,t⟩,hr⟩:=Option.isSome_iff_exists.1 hr
  obtain⟨cs,hc,_⟩:=h.1 1 zero t (by rw[globals7]; decide) hr
  refine⟨1,cs,t,_,hc,fun y hy=>?_⟩
  obtain rfl:y=(0,z0.map fun z=>.int .u8 z):=List.mem_singleton.1 hy
  decide
end
end Go.Vm.YtkjjpmbpjfmbcaaGreatDoor

namespace Go.Vm.YtkjjpmbpjfmbcaaGreatDoor
open Go.Proofs
variable {H:Type}{enc:TypeId×Value->H}{w:World}{base:Nat}{sp:Nat->Bool}{hd:Bool}{v:Value}{d:DataW H}{ps:List MemPlace}
theorem cells31:Tryz.prog.cellsOf 31=4:=by kernel_rfl
theorem cells9:Tryz.prog.cellsOf 9=1:=by kernel_rfl
theorem cells3:Tryz.prog.cellsOf 3=1:=by kernel_rfl
set_option maxRecDepth 100000 in
theorem str_of {r:Reach}{b0:Nat} (hval:Value.okWide Tryz.prog w r b0 9 v) (h:DataW.Trod enc Tryz.prog w base sp hd 9 v d ps):∃ s,v=.string s:=by
  have:=ChangeMaps.open_string Tryz.underlying9 hval h
  exact this.elim fun s hs=>⟨s,hs.1⟩
theorem list4 {α:Type}{l:List α} (h:l.length=4):∃ a b c d,l=[a,b,c,d]:=match l,h with
  |[a,b,c,d],_=>⟨a,b,c,d,rfl⟩
theorem agg4 {v:Value} (h:v.cells.toList.length=4):∃ a b c d,v=.agg #[a,b,c,d]:=by
  obtain⟨cs,rfl,hlen⟩:=agg_of_cells (n:=2) h
  obtain⟨cs⟩:=cs
  obtain⟨a,b,c,d,rfl⟩:=list4 hlen
  exact⟨a,b,c,d,rfl⟩
set_option maxRecDepth 100000 in
theorem msg_of (h:DataW.Trod enc Tryz.prog w base sp hd 31 v d ps):∃ op k t x,v=.agg #[.int .i64 op,.string k,.string t,.string x]:=by
  obtain⟨fuel,hf⟩:=h
  obtain⟨xs,n,rfl,hx,hl,hxl,hall⟩:=DataW.trod_struct Tryz.underlying31 hf
  rw[cells31] at hl
  obtain⟨c0,c1,c2,c3,hv⟩:=agg4 hl
  obtain⟨y0,y1,y2,y3,hy⟩:=list4 hxl
  subst hv
  subst hy
  . · skip
      have f0:DataW.trod enc Tryz.prog w base sp hd n 3 (([c0,c1,c2,c3].drop 0).take (Tryz.prog.cellsOf 3))=some y0:=hall 0 _ rfl
      have f1:DataW.trod enc Tryz.prog w base sp hd n 9 (([c0,c1,c2,c3].drop 1).take (Tryz.prog.cellsOf 9))=some y1:=hall 1 _ rfl
      have f2:DataW.trod enc Tryz.prog w base sp hd n 9 (([c0,c1,c2,c3].drop 2).take (Tryz.prog.cellsOf 9))=some y2:=hall 2 _ rfl
      have f3:DataW.trod enc Tryz.prog w base sp hd n 9 (([c0,c1,c2,c3].drop 3).take (Tryz.prog.cellsOf 9))=some y3:=hall 3 _ rfl
      rw[cells3] at f0
      rw[cells9] at f1 f2 f3
      obtain⟨op,e0,_⟩:=DataW.trod_int Tryz.underlying3 f0
      obtain⟨k,e1,_⟩:=DataW.trod_string Tryz.underlying9 f1
      obtain⟨t,e2,_⟩:=DataW.trod_string Tryz.underlying9 f2
      obtain⟨x,e3,_⟩:=DataW.trod_string Tryz.underlying9 f3
      simp at e0 e1 e2 e3
      exact⟨op,k,t,x,by rw[e0,e1,e2,e3]⟩
end Go.Vm.YtkjjpmbpjfmbcaaGreatDoor
