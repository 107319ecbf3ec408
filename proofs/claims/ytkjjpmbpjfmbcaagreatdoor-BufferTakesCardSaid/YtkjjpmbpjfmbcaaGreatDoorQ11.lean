/-
  Layer 17: First: each way through its run.
  Layer 17: the law of First.
  Layer 17: the law of First, for each slice.
  Layer 17: the laws that the statements' functions stand over.
  Layer 17: slices.Equal, and Same, of messages, where a slice may be nil.
  Code cut behind some of its pieces: there the state is put in order.
  A function's code, piece by piece.
  A loop's turn, cut behind some of its pieces: there the state is put in order.
-/
import Derived.Test.YtkjjpmbpjfmbcaaGreatDoorQ10
set_option linter.unusedVariables false
set_option linter.unusedSimpArgs false
namespace Go.Vm.YtkjjpmbpjfmbcaaGreatDoor
open Go.Proofs Go.Vm.R
noncomputable section
def ix19 (j n:Nat) (x0 y0:Txt) (full:List Msg):Int:=idxP x0 y0 (seg full j n) 0
def msg19 (j n:Nat) (x0 y0:Txt) (full:List Msg):Msg:=full.getD (j+(ix19 j n x0 y0 full).toNat) (0,[],[],[])
def lf19 (j n:Nat) (x0 y0:Txt) (full:List Msg):List Msg:=leftL (msg19 j n x0 y0 full) x0 y0
def lg19 (j n:Nat) (x0 y0:Txt) (full:List Msg):List Msg:=List.take (lf19 j n x0 y0 full).length (lf19 j n x0 y0 full)
def hd19 (j n:Nat) (x0 y0:Txt) (full:List Msg):List Msg:=List.take ((ix19 j n x0 y0 full).toNat-0) (List.drop (j+0) full)
def tl19 (j n:Nat) (x0 y0:Txt) (full:List Msg):List Msg:=List.take (n-(IntKind.wrap .i64 (ix19 j n x0 y0 full+1)).toNat) (List.drop (j+(IntKind.wrap .i64 (ix19 j n x0 y0 full+1)).toNat) full)
def sz19 (j n:Nat) (x0 y0:Txt) (full:List Msg):Int:=IntKind.wrap .i64 (IntKind.wrap .i64 (IntKind.wrap .i64 (0+(((ix19 j n x0 y0 full).toNat-0:Nat):Int))+((lf19 j n x0 y0 full).length:Int))+((n-(IntKind.wrap .i64 (ix19 j n x0 y0 full+1)).toNat:Nat):Int))
def z19 (j n:Nat) (x0 y0:Txt) (full:List Msg):Nat:=(IntKind.wrap .i64 (sz19 j n x0 y0 full-0)).toNat
def rep19 (j n:Nat) (x0 y0:Txt) (full:List Msg):List Msg:=List.replicate (z19 j n x0 y0 full) (0,[],[],[])
def T19 (j n c:Nat) (ex:Bool) (x0 y0:Txt) (full:List Msg) (sp:Bool) (el:R.EL):R.Tree:=R.topD C.K (R.callD (R.hookOf C.X Y3) C.K C.kn C.tab 220) (fun _=>none) 220 c19 [.rs 0 j n c 4 ex,.str x0,.str y0] (mkD [.r .msg full sp el] 1) (R.finK 1 R.okK)
def p19r0:List Bool:=[true,false,false,true,true,true,true,true,true,true,true,true,true,true,true,true,true,true,true,true,true,true,true,true,false,true,true,true,false,true,true,false,true,true,true,false,false,true,true,false,false,false,true,true,true,false,true,true,true,true,true,true,true,true,true,true,true,false,true,true,true,true,false,true,true,true,true,false,true,true,true,true,false,false,true,true,true,true,false,true,false]
theorem c19r0 (j n c:Nat) (ex:Bool) (x0 y0:Txt) (full:List Msg) (sp:Bool) (el:R.EL):R.Tree.cks p19r0 (T19 j n c ex x0 y0 full sp el) =
    ((okG full j n)&&(!(noP x0 y0 (seg full j n))&&(!(decide (ix19 j n x0 y0 full<0))&&((decide (0<=ix19 j n x0 y0 full)&&decide (Int.toNat (ix19 j n x0 y0 full)<n))&&((Nat.blt (j+Int.toNat (ix19 j n x0 y0 full)) full.length)&&((partOk (msg19 j n x0 y0 full) x0 y0)&&((decide (0<=ix19 j n x0 y0 full)&&(decide (c<=c)&&(decide (Int.toNat (ix19 j n x0 y0 full)<=c)&&true)))&&((decide (0<=ix19 j n x0 y0 full)&&decide (Int.toNat (ix19 j n x0 y0 full)<n))&&((Nat.blt (j+Int.toNat (ix19 j n x0 y0 full)) full.length)&&((decide (0<=IntKind.wrap .i64 (ix19 j n x0 y0 full+1))&&(decide (c<=c)&&(decide (n<=c)&&(decide (Int.toNat (IntKind.wrap .i64 (ix19 j n x0 y0 full+1))<=n)&&true))))&&(!(decide (IntKind.wrap .i64 (0+(↑(Int.toNat (ix19 j n x0 y0 full)-0):Int))<0))&&((Nat.ble (List.length (lf19 j n x0 y0 full)) (List.length (lf19 j n x0 y0 full)))&&(!(decide (IntKind.wrap .i64 (IntKind.wrap .i64 (0+(↑(Int.toNat (ix19 j n x0 y0 full)-0):Int))+(↑(List.length (lf19 j n x0 y0 full)):Int))<0))&&(!(decide (sz19 j n x0 y0 full<0))&&(!(decide (sz19 j n x0 y0 full<0))&&((decide (0<IntKind.wrap .i64 (sz19 j n x0 y0 full-0)))&&((decide (0<=IntKind.wrap .i64 (sz19 j n x0 y0 full-0)))&&(!(decide (z19 j n x0 y0 full=0))&&((roomFor (z19 j n x0 y0 full) 56)&&((decide (z19 j n x0 y0 full<=z19 j n x0 y0 full)&&true)&&((Nat.ble (j+0+(Int.toNat (ix19 j n x0 y0 full)-0)) full.length)&&((decide (0+List.length (hd19 j n x0 y0 full)<=z19 j n x0 y0 full-0))&&(!(decide (List.length (hd19 j n x0 y0 full)=0))&&((decide (0+List.length (hd19 j n x0 y0 full)<=List.length (rep19 j n x0 y0 full)))&&((Nat.ble (List.length (lf19 j n x0 y0 full)) (List.length (lf19 j n x0 y0 full)))&&((decide (0+List.length (hd19 j n x0 y0 full)+List.length (lg19 j n x0 y0 full)<=z19 j n x0 y0 full-0))&&(!(decide (List.length (lg19 j n x0 y0 full)=0))&&((decide (0+(0+List.length (hd19 j n x0 y0 full))+List.length (lg19 j n x0 y0 full)<=List.length (List.take 0 (rep19 j n x0 y0 full)++hd19 j n x0 y0 full++List.drop (0+List.length (hd19 j n x0 y0 full)) (rep19 j n x0 y0 full))))&&((Nat.ble (j+Int.toNat (IntKind.wrap .i64 (ix19 j n x0 y0 full+1))+(n-Int.toNat (IntKind.wrap .i64 (ix19 j n x0 y0 full+1)))) full.length)&&((decide (0+List.length (hd19 j n x0 y0 full)+List.length (lg19 j n x0 y0 full)+List.length (tl19 j n x0 y0 full)<=z19 j n x0 y0 full-0))&&(!(decide (List.length (tl19 j n x0 y0 full)=0))&&((decide (0+(0+List.length (hd19 j n x0 y0 full)+List.length (lg19 j n x0 y0 full))+List.length (tl19 j n x0 y0 full)<=List.length (List.take (0+(0+List.length (hd19 j n x0 y0 full))) (List.take 0 (rep19 j n x0 y0 full)++hd19 j n x0 y0 full++List.drop (0+List.length (hd19 j n x0 y0 full)) (rep19 j n x0 y0 full))++lg19 j n x0 y0 full++List.drop (0+(0+List.length (hd19 j n x0 y0 full))+List.length (lg19 j n x0 y0 full)) (List.take 0 (rep19 j n x0 y0 full)++hd19 j n x0 y0 full++List.drop (0+List.length (hd19 j n x0 y0 full)) (rep19 j n x0 y0 full)))))&&true)))))))))))))))))))))))))))))))):=by kernel_rfl
theorem l19r0 (j n c:Nat) (ex:Bool) (x0 y0:Txt) (full:List Msg) (sp:Bool) (el:R.EL):(R.Tree.go p19r0 (T19 j n c ex x0 y0 full sp el)).ev =
    some (R.DV.tup [R.DV.agg [R.DV.int .i64 (Prod.fst (msg19 j n x0 y0 full)),R.DV.str (Prod.fst (Prod.snd (partM (msg19 j n x0 y0 full) x0 y0))),R.DV.str (Prod.fst (Prod.snd (Prod.snd (partM (msg19 j n x0 y0 full) x0 y0)))),R.DV.str (Prod.snd (Prod.snd (Prod.snd (msg19 j n x0 y0 full))))],DV.rs 1 0 (0+List.length (hd19 j n x0 y0 full)+List.length (lg19 j n x0 y0 full)+List.length (tl19 j n x0 y0 full)) (z19 j n x0 y0 full-0) 4 false,R.DV.bool true],(mkD [DO.r RK.msg full sp el,DO.r RK.msg (List.take (0+(0+List.length (hd19 j n x0 y0 full)+List.length (lg19 j n x0 y0 full))) (List.take (0+(0+List.length (hd19 j n x0 y0 full))) (List.take 0 (rep19 j n x0 y0 full)++hd19 j n x0 y0 full++List.drop (0+List.length (hd19 j n x0 y0 full)) (rep19 j n x0 y0 full))++lg19 j n x0 y0 full++List.drop (0+(0+List.length (hd19 j n x0 y0 full))+List.length (lg19 j n x0 y0 full)) (List.take 0 (rep19 j n x0 y0 full)++hd19 j n x0 y0 full++List.drop (0+List.length (hd19 j n x0 y0 full)) (rep19 j n x0 y0 full)))++tl19 j n x0 y0 full++List.drop (0+(0+List.length (hd19 j n x0 y0 full)+List.length (lg19 j n x0 y0 full))+List.length (tl19 j n x0 y0 full)) (List.take (0+(0+List.length (hd19 j n x0 y0 full))) (List.take 0 (rep19 j n x0 y0 full)++hd19 j n x0 y0 full++List.drop (0+List.length (hd19 j n x0 y0 full)) (rep19 j n x0 y0 full))++lg19 j n x0 y0 full++List.drop (0+(0+List.length (hd19 j n x0 y0 full))+List.length (lg19 j n x0 y0 full)) (List.take 0 (rep19 j n x0 y0 full)++hd19 j n x0 y0 full++List.drop (0+List.length (hd19 j n x0 y0 full)) (rep19 j n x0 y0 full)))) true { e:=31,z:=0 }] 1)):=by kernel_rfl
def p19r1:List Bool:=[true,false,false,true,true,true,true,true,true,true,true,true,true,true,true,true,true,true,true,true,true,true,true,true,false,true,true,true,false,true,true,false,true,true,true,false,false,true,true,false,false,false,true,true,true,false,true,true,true,true,true,true,true,true,true,true,true,true,true,true,true,false,true,true,true,true,false,true,true,true,true,false,false,true,true,true,true,false,true,false]
theorem c19r1 (j n c:Nat) (ex:Bool) (x0 y0:Txt) (full:List Msg) (sp:Bool) (el:R.EL):R.Tree.cks p19r1 (T19 j n c ex x0 y0 full sp el) =
    ((okG full j n)&&(!(noP x0 y0 (seg full j n))&&(!(decide (ix19 j n x0 y0 full<0))&&((decide (0<=ix19 j n x0 y0 full)&&decide (Int.toNat (ix19 j n x0 y0 full)<n))&&((Nat.blt (j+Int.toNat (ix19 j n x0 y0 full)) full.length)&&((partOk (msg19 j n x0 y0 full) x0 y0)&&((decide (0<=ix19 j n x0 y0 full)&&(decide (c<=c)&&(decide (Int.toNat (ix19 j n x0 y0 full)<=c)&&true)))&&((decide (0<=ix19 j n x0 y0 full)&&decide (Int.toNat (ix19 j n x0 y0 full)<n))&&((Nat.blt (j+Int.toNat (ix19 j n x0 y0 full)) full.length)&&((decide (0<=IntKind.wrap .i64 (ix19 j n x0 y0 full+1))&&(decide (c<=c)&&(decide (n<=c)&&(decide (Int.toNat (IntKind.wrap .i64 (ix19 j n x0 y0 full+1))<=n)&&true))))&&(!(decide (IntKind.wrap .i64 (0+(↑(Int.toNat (ix19 j n x0 y0 full)-0):Int))<0))&&((Nat.ble (List.length (lf19 j n x0 y0 full)) (List.length (lf19 j n x0 y0 full)))&&(!(decide (IntKind.wrap .i64 (IntKind.wrap .i64 (0+(↑(Int.toNat (ix19 j n x0 y0 full)-0):Int))+(↑(List.length (lf19 j n x0 y0 full)):Int))<0))&&(!(decide (sz19 j n x0 y0 full<0))&&(!(decide (sz19 j n x0 y0 full<0))&&((decide (0<IntKind.wrap .i64 (sz19 j n x0 y0 full-0)))&&((decide (0<=IntKind.wrap .i64 (sz19 j n x0 y0 full-0)))&&(!(decide (z19 j n x0 y0 full=0))&&((roomFor (z19 j n x0 y0 full) 56)&&((decide (z19 j n x0 y0 full<=z19 j n x0 y0 full)&&true)&&((Nat.ble (j+0+(Int.toNat (ix19 j n x0 y0 full)-0)) full.length)&&((decide (0+List.length (hd19 j n x0 y0 full)<=z19 j n x0 y0 full-0))&&((decide (List.length (hd19 j n x0 y0 full)=0))&&((Nat.ble (List.length (lf19 j n x0 y0 full)) (List.length (lf19 j n x0 y0 full)))&&((decide (0+List.length (lg19 j n x0 y0 full)<=z19 j n x0 y0 full-0))&&(!(decide (List.length (lg19 j n x0 y0 full)=0))&&((decide (0+List.length (lg19 j n x0 y0 full)<=List.length (rep19 j n x0 y0 full)))&&((Nat.ble (j+Int.toNat (IntKind.wrap .i64 (ix19 j n x0 y0 full+1))+(n-Int.toNat (IntKind.wrap .i64 (ix19 j n x0 y0 full+1)))) full.length)&&((decide (0+List.length (lg19 j n x0 y0 full)+List.length (tl19 j n x0 y0 full)<=z19 j n x0 y0 full-0))&&(!(decide (List.length (tl19 j n x0 y0 full)=0))&&((decide (0+(0+List.length (lg19 j n x0 y0 full))+List.length (tl19 j n x0 y0 full)<=List.length (List.take 0 (rep19 j n x0 y0 full)++lg19 j n x0 y0 full++List.drop (0+List.length (lg19 j n x0 y0 full)) (rep19 j n x0 y0 full))))&&true))))))))))))))))))))))))))))))):=by kernel_rfl
theorem l19r1 (j n c:Nat) (ex:Bool) (x0 y0:Txt) (full:List Msg) (sp:Bool) (el:R.EL):(R.Tree.go p19r1 (T19 j n c ex x0 y0 full sp el)).ev =
    some (R.DV.tup [R.DV.agg [R.DV.int .i64 (Prod.fst (msg19 j n x0 y0 full)),R.DV.str (Prod.fst (Prod.snd (partM (msg19 j n x0 y0 full) x0 y0))),R.DV.str (Prod.fst (Prod.snd (Prod.snd (partM (msg19 j n x0 y0 full) x0 y0)))),R.DV.str (Prod.snd (Prod.snd (Prod.snd (msg19 j n x0 y0 full))))],DV.rs 1 0 (0+List.length (lg19 j n x0 y0 full)+List.length (tl19 j n x0 y0 full)) (z19 j n x0 y0 full-0) 4 false,R.DV.bool true],(mkD [DO.r RK.msg full sp el,DO.r RK.msg (List.take (0+(0+List.length (lg19 j n x0 y0 full))) (List.take 0 (rep19 j n x0 y0 full)++lg19 j n x0 y0 full++List.drop (0+List.length (lg19 j n x0 y0 full)) (rep19 j n x0 y0 full))++tl19 j n x0 y0 full++List.drop (0+(0+List.length (lg19 j n x0 y0 full))+List.length (tl19 j n x0 y0 full)) (List.take 0 (rep19 j n x0 y0 full)++lg19 j n x0 y0 full++List.drop (0+List.length (lg19 j n x0 y0 full)) (rep19 j n x0 y0 full))) true { e:=31,z:=0 }] 1)):=by kernel_rfl
def p19r2:List Bool:=[true,false,false,true,true,true,true,true,true,true,true,true,true,true,true,true,true,true,true,true,true,true,true,true,false,true,true,true,false,true,true,false,true,true,true,false,false,true,true,false,false,false,true,true,true,false,true,true,true,true,true,true,true,true,true,true,true,false,true,true,true,true,false,true,true,true,true,true,true,true,true,false,false,true,true,true,true,false,true,false]
theorem c19r2 (j n c:Nat) (ex:Bool) (x0 y0:Txt) (full:List Msg) (sp:Bool) (el:R.EL):R.Tree.cks p19r2 (T19 j n c ex x0 y0 full sp el) =
    ((okG full j n)&&(!(noP x0 y0 (seg full j n))&&(!(decide (ix19 j n x0 y0 full<0))&&((decide (0<=ix19 j n x0 y0 full)&&decide (Int.toNat (ix19 j n x0 y0 full)<n))&&((Nat.blt (j+Int.toNat (ix19 j n x0 y0 full)) full.length)&&((partOk (msg19 j n x0 y0 full) x0 y0)&&((decide (0<=ix19 j n x0 y0 full)&&(decide (c<=c)&&(decide (Int.toNat (ix19 j n x0 y0 full)<=c)&&true)))&&((decide (0<=ix19 j n x0 y0 full)&&decide (Int.toNat (ix19 j n x0 y0 full)<n))&&((Nat.blt (j+Int.toNat (ix19 j n x0 y0 full)) full.length)&&((decide (0<=IntKind.wrap .i64 (ix19 j n x0 y0 full+1))&&(decide (c<=c)&&(decide (n<=c)&&(decide (Int.toNat (IntKind.wrap .i64 (ix19 j n x0 y0 full+1))<=n)&&true))))&&(!(decide (IntKind.wrap .i64 (0+(↑(Int.toNat (ix19 j n x0 y0 full)-0):Int))<0))&&((Nat.ble (List.length (lf19 j n x0 y0 full)) (List.length (lf19 j n x0 y0 full)))&&(!(decide (IntKind.wrap .i64 (IntKind.wrap .i64 (0+(↑(Int.toNat (ix19 j n x0 y0 full)-0):Int))+(↑(List.length (lf19 j n x0 y0 full)):Int))<0))&&(!(decide (sz19 j n x0 y0 full<0))&&(!(decide (sz19 j n x0 y0 full<0))&&((decide (0<IntKind.wrap .i64 (sz19 j n x0 y0 full-0)))&&((decide (0<=IntKind.wrap .i64 (sz19 j n x0 y0 full-0)))&&(!(decide (z19 j n x0 y0 full=0))&&((roomFor (z19 j n x0 y0 full) 56)&&((decide (z19 j n x0 y0 full<=z19 j n x0 y0 full)&&true)&&((Nat.ble (j+0+(Int.toNat (ix19 j n x0 y0 full)-0)) full.length)&&((decide (0+List.length (hd19 j n x0 y0 full)<=z19 j n x0 y0 full-0))&&(!(decide (List.length (hd19 j n x0 y0 full)=0))&&((decide (0+List.length (hd19 j n x0 y0 full)<=List.length (rep19 j n x0 y0 full)))&&((Nat.ble (List.length (lf19 j n x0 y0 full)) (List.length (lf19 j n x0 y0 full)))&&((decide (0+List.length (hd19 j n x0 y0 full)+List.length (lg19 j n x0 y0 full)<=z19 j n x0 y0 full-0))&&((decide (List.length (lg19 j n x0 y0 full)=0))&&((Nat.ble (j+Int.toNat (IntKind.wrap .i64 (ix19 j n x0 y0 full+1))+(n-Int.toNat (IntKind.wrap .i64 (ix19 j n x0 y0 full+1)))) full.length)&&((decide (0+List.length (hd19 j n x0 y0 full)+List.length (tl19 j n x0 y0 full)<=z19 j n x0 y0 full-0))&&(!(decide (List.length (tl19 j n x0 y0 full)=0))&&((decide (0+(0+List.length (hd19 j n x0 y0 full))+List.length (tl19 j n x0 y0 full)<=List.length (List.take 0 (rep19 j n x0 y0 full)++hd19 j n x0 y0 full++List.drop (0+List.length (hd19 j n x0 y0 full)) (rep19 j n x0 y0 full))))&&true))))))))))))))))))))))))))))))):=by kernel_rfl
theorem l19r2 (j n c:Nat) (ex:Bool) (x0 y0:Txt) (full:List Msg) (sp:Bool) (el:R.EL):(R.Tree.go p19r2 (T19 j n c ex x0 y0 full sp el)).ev =
    some (R.DV.tup [R.DV.agg [R.DV.int .i64 (Prod.fst (msg19 j n x0 y0 full)),R.DV.str (Prod.fst (Prod.snd (partM (msg19 j n x0 y0 full) x0 y0))),R.DV.str (Prod.fst (Prod.snd (Prod.snd (partM (msg19 j n x0 y0 full) x0 y0)))),R.DV.str (Prod.snd (Prod.snd (Prod.snd (msg19 j n x0 y0 full))))],DV.rs 1 0 (0+List.length (hd19 j n x0 y0 full)+List.length (tl19 j n x0 y0 full)) (z19 j n x0 y0 full-0) 4 false,R.DV.bool true],(mkD [DO.r RK.msg full sp el,DO.r RK.msg (List.take (0+(0+List.length (hd19 j n x0 y0 full))) (List.take 0 (rep19 j n x0 y0 full)++hd19 j n x0 y0 full++List.drop (0+List.length (hd19 j n x0 y0 full)) (rep19 j n x0 y0 full))++tl19 j n x0 y0 full++List.drop (0+(0+List.length (hd19 j n x0 y0 full))+List.length (tl19 j n x0 y0 full)) (List.take 0 (rep19 j n x0 y0 full)++hd19 j n x0 y0 full++List.drop (0+List.length (hd19 j n x0 y0 full)) (rep19 j n x0 y0 full))) true { e:=31,z:=0 }] 1)):=by kernel_rfl
def p19r3:List Bool:=[true,false,false,true,true,true,true,true,true,true,true,true,true,true,true,true,true,true,true,true,true,true,true,true,false,true,true,true,false,true,true,false,true,true,true,false,false,true,true,false,false,false,true,true,true,false,true,true,true,true,true,true,true,true,true,true,true,true,true,true,true,false,true,true,true,true,true,true,true,true,false,false,true,true,true,true,false,true,false]
theorem c19r3 (j n c:Nat) (ex:Bool) (x0 y0:Txt) (full:List Msg) (sp:Bool) (el:R.EL):R.Tree.cks p19r3 (T19 j n c ex x0 y0 full sp el) =
    ((okG full j n)&&(!(noP x0 y0 (seg full j n))&&(!(decide (ix19 j n x0 y0 full<0))&&((decide (0<=ix19 j n x0 y0 full)&&decide (Int.toNat (ix19 j n x0 y0 full)<n))&&((Nat.blt (j+Int.toNat (ix19 j n x0 y0 full)) full.length)&&((partOk (msg19 j n x0 y0 full) x0 y0)&&((decide (0<=ix19 j n x0 y0 full)&&(decide (c<=c)&&(decide (Int.toNat (ix19 j n x0 y0 full)<=c)&&true)))&&((decide (0<=ix19 j n x0 y0 full)&&decide (Int.toNat (ix19 j n x0 y0 full)<n))&&((Nat.blt (j+Int.toNat (ix19 j n x0 y0 full)) full.length)&&((decide (0<=IntKind.wrap .i64 (ix19 j n x0 y0 full+1))&&(decide (c<=c)&&(decide (n<=c)&&(decide (Int.toNat (IntKind.wrap .i64 (ix19 j n x0 y0 full+1))<=n)&&true))))&&(!(decide (IntKind.wrap .i64 (0+(↑(Int.toNat (ix19 j n x0 y0 full)-0):Int))<0))&&((Nat.ble (List.length (lf19 j n x0 y0 full)) (List.length (lf19 j n x0 y0 full)))&&(!(decide (IntKind.wrap .i64 (IntKind.wrap .i64 (0+(↑(Int.toNat (ix19 j n x0 y0 full)-0):Int))+(↑(List.length (lf19 j n x0 y0 full)):Int))<0))&&(!(decide (sz19 j n x0 y0 full<0))&&(!(decide (sz19 j n x0 y0 full<0))&&((decide (0<IntKind.wrap .i64 (sz19 j n x0 y0 full-0)))&&((decide (0<=IntKind.wrap .i64 (sz19 j n x0 y0 full-0)))&&(!(decide (z19 j n x0 y0 full=0))&&((roomFor (z19 j n x0 y0 full) 56)&&((decide (z19 j n x0 y0 full<=z19 j n x0 y0 full)&&true)&&((Nat.ble (j+0+(Int.toNat (ix19 j n x0 y0 full)-0)) full.length)&&((decide (0+List.length (hd19 j n x0 y0 full)<=z19 j n x0 y0 full-0))&&((decide (List.length (hd19 j n x0 y0 full)=0))&&((Nat.ble (List.length (lf19 j n x0 y0 full)) (List.length (lf19 j n x0 y0 full)))&&((decide (0+List.length (lg19 j n x0 y0 full)<=z19 j n x0 y0 full-0))&&((decide (List.length (lg19 j n x0 y0 full)=0))&&((Nat.ble (j+Int.toNat (IntKind.wrap .i64 (ix19 j n x0 y0 full+1))+(n-Int.toNat (IntKind.wrap .i64 (ix19 j n x0 y0 full+1)))) full.length)&&((decide (0+List.length (tl19 j n x0 y0 full)<=z19 j n x0 y0 full-0))&&(!(decide (List.length (tl19 j n x0 y0 full)=0))&&((decide (0+List.length (tl19 j n x0 y0 full)<=List.length (rep19 j n x0 y0 full)))&&true)))))))))))))))))))))))))))))):=by kernel_rfl
theorem l19r3 (j n c:Nat) (ex:Bool) (x0 y0:Txt) (full:List Msg) (sp:Bool) (el:R.EL):(R.Tree.go p19r3 (T19 j n c ex x0 y0 full sp el)).ev =
    some (R.DV.tup [R.DV.agg [R.DV.int .i64 (Prod.fst (msg19 j n x0 y0 full)),R.DV.str (Prod.fst (Prod.snd (partM (msg19 j n x0 y0 full) x0 y0))),R.DV.str (Prod.fst (Prod.snd (Prod.snd (partM (msg19 j n x0 y0 full) x0 y0)))),R.DV.str (Prod.snd (Prod.snd (Prod.snd (msg19 j n x0 y0 full))))],DV.rs 1 0 (0+List.length (tl19 j n x0 y0 full)) (z19 j n x0 y0 full-0) 4 false,R.DV.bool true],(mkD [DO.r RK.msg full sp el,DO.r RK.msg (List.take 0 (rep19 j n x0 y0 full)++tl19 j n x0 y0 full++List.drop (0+List.length (tl19 j n x0 y0 full)) (rep19 j n x0 y0 full)) true { e:=31,z:=0 }] 1)):=by kernel_rfl
def p19r4:List Bool:=[true,false,false,true,true,true,true,true,true,true,true,true,true,true,true,true,true,true,true,true,true,true,true,true,false,true,true,true,false,true,true,false,true,true,true,false,false,true,true,false,false,false,true,true,true,false,true,true,true,true,true,true,true,true,true,true,true,false,true,true,true,true,false,true,true,true,true,false,true,true,true,true,false,false,true,true,true,true,true,false]
theorem c19r4 (j n c:Nat) (ex:Bool) (x0 y0:Txt) (full:List Msg) (sp:Bool) (el:R.EL):R.Tree.cks p19r4 (T19 j n c ex x0 y0 full sp el) =
    ((okG full j n)&&(!(noP x0 y0 (seg full j n))&&(!(decide (ix19 j n x0 y0 full<0))&&((decide (0<=ix19 j n x0 y0 full)&&decide (Int.toNat (ix19 j n x0 y0 full)<n))&&((Nat.blt (j+Int.toNat (ix19 j n x0 y0 full)) full.length)&&((partOk (msg19 j n x0 y0 full) x0 y0)&&((decide (0<=ix19 j n x0 y0 full)&&(decide (c<=c)&&(decide (Int.toNat (ix19 j n x0 y0 full)<=c)&&true)))&&((decide (0<=ix19 j n x0 y0 full)&&decide (Int.toNat (ix19 j n x0 y0 full)<n))&&((Nat.blt (j+Int.toNat (ix19 j n x0 y0 full)) full.length)&&((decide (0<=IntKind.wrap .i64 (ix19 j n x0 y0 full+1))&&(decide (c<=c)&&(decide (n<=c)&&(decide (Int.toNat (IntKind.wrap .i64 (ix19 j n x0 y0 full+1))<=n)&&true))))&&(!(decide (IntKind.wrap .i64 (0+(↑(Int.toNat (ix19 j n x0 y0 full)-0):Int))<0))&&((Nat.ble (List.length (lf19 j n x0 y0 full)) (List.length (lf19 j n x0 y0 full)))&&(!(decide (IntKind.wrap .i64 (IntKind.wrap .i64 (0+(↑(Int.toNat (ix19 j n x0 y0 full)-0):Int))+(↑(List.length (lf19 j n x0 y0 full)):Int))<0))&&(!(decide (sz19 j n x0 y0 full<0))&&(!(decide (sz19 j n x0 y0 full<0))&&((decide (0<IntKind.wrap .i64 (sz19 j n x0 y0 full-0)))&&((decide (0<=IntKind.wrap .i64 (sz19 j n x0 y0 full-0)))&&(!(decide (z19 j n x0 y0 full=0))&&((roomFor (z19 j n x0 y0 full) 56)&&((decide (z19 j n x0 y0 full<=z19 j n x0 y0 full)&&true)&&((Nat.ble (j+0+(Int.toNat (ix19 j n x0 y0 full)-0)) full.length)&&((decide (0+List.length (hd19 j n x0 y0 full)<=z19 j n x0 y0 full-0))&&(!(decide (List.length (hd19 j n x0 y0 full)=0))&&((decide (0+List.length (hd19 j n x0 y0 full)<=List.length (rep19 j n x0 y0 full)))&&((Nat.ble (List.length (lf19 j n x0 y0 full)) (List.length (lf19 j n x0 y0 full)))&&((decide (0+List.length (hd19 j n x0 y0 full)+List.length (lg19 j n x0 y0 full)<=z19 j n x0 y0 full-0))&&(!(decide (List.length (lg19 j n x0 y0 full)=0))&&((decide (0+(0+List.length (hd19 j n x0 y0 full))+List.length (lg19 j n x0 y0 full)<=List.length (List.take 0 (rep19 j n x0 y0 full)++hd19 j n x0 y0 full++List.drop (0+List.length (hd19 j n x0 y0 full)) (rep19 j n x0 y0 full))))&&((Nat.ble (j+Int.toNat (IntKind.wrap .i64 (ix19 j n x0 y0 full+1))+(n-Int.toNat (IntKind.wrap .i64 (ix19 j n x0 y0 full+1)))) full.length)&&((decide (0+List.length (hd19 j n x0 y0 full)+List.length (lg19 j n x0 y0 full)+List.length (tl19 j n x0 y0 full)<=z19 j n x0 y0 full-0))&&((decide (List.length (tl19 j n x0 y0 full)=0))&&true))))))))))))))))))))))))))))))):=by kernel_rfl
theorem l19r4 (j n c:Nat) (ex:Bool) (x0 y0:Txt) (full:List Msg) (sp:Bool) (el:R.EL):(R.Tree.go p19r4 (T19 j n c ex x0 y0 full sp el)).ev =
    some (R.DV.tup [R.DV.agg [R.DV.int .i64 (Prod.fst (msg19 j n x0 y0 full)),R.DV.str (Prod.fst (Prod.snd (partM (msg19 j n x0 y0 full) x0 y0))),R.DV.str (Prod.fst (Prod.snd (Prod.snd (partM (msg19 j n x0 y0 full) x0 y0)))),R.DV.str (Prod.snd (Prod.snd (Prod.snd (msg19 j n x0 y0 full))))],DV.rs 1 0 (0+List.length (hd19 j n x0 y0 full)+List.length (lg19 j n x0 y0 full)) (z19 j n x0 y0 full-0) 4 false,R.DV.bool true],(mkD [DO.r RK.msg full sp el,DO.r RK.msg (List.take (0+(0+List.length (hd19 j n x0 y0 full))) (List.take 0 (rep19 j n x0 y0 full)++hd19 j n x0 y0 full++List.drop (0+List.length (hd19 j n x0 y0 full)) (rep19 j n x0 y0 full))++lg19 j n x0 y0 full++List.drop (0+(0+List.length (hd19 j n x0 y0 full))+List.length (lg19 j n x0 y0 full)) (List.take 0 (rep19 j n x0 y0 full)++hd19 j n x0 y0 full++List.drop (0+List.length (hd19 j n x0 y0 full)) (rep19 j n x0 y0 full))) true { e:=31,z:=0 }] 1)):=by kernel_rfl
def p19r5:List Bool:=[true,false,false,true,true,true,true,true,true,true,true,true,true,true,true,true,true,true,true,true,true,true,true,true,false,true,true,true,false,true,true,false,true,true,true,false,false,true,true,false,false,false,true,true,true,false,true,true,true,true,true,true,true,true,true,true,true,true,true,true,true,false,true,true,true,true,false,true,true,true,true,false,false,true,true,true,true,true,false]
theorem c19r5 (j n c:Nat) (ex:Bool) (x0 y0:Txt) (full:List Msg) (sp:Bool) (el:R.EL):R.Tree.cks p19r5 (T19 j n c ex x0 y0 full sp el) =
    ((okG full j n)&&(!(noP x0 y0 (seg full j n))&&(!(decide (ix19 j n x0 y0 full<0))&&((decide (0<=ix19 j n x0 y0 full)&&decide (Int.toNat (ix19 j n x0 y0 full)<n))&&((Nat.blt (j+Int.toNat (ix19 j n x0 y0 full)) full.length)&&((partOk (msg19 j n x0 y0 full) x0 y0)&&((decide (0<=ix19 j n x0 y0 full)&&(decide (c<=c)&&(decide (Int.toNat (ix19 j n x0 y0 full)<=c)&&true)))&&((decide (0<=ix19 j n x0 y0 full)&&decide (Int.toNat (ix19 j n x0 y0 full)<n))&&((Nat.blt (j+Int.toNat (ix19 j n x0 y0 full)) full.length)&&((decide (0<=IntKind.wrap .i64 (ix19 j n x0 y0 full+1))&&(decide (c<=c)&&(decide (n<=c)&&(decide (Int.toNat (IntKind.wrap .i64 (ix19 j n x0 y0 full+1))<=n)&&true))))&&(!(decide (IntKind.wrap .i64 (0+(↑(Int.toNat (ix19 j n x0 y0 full)-0):Int))<0))&&((Nat.ble (List.length (lf19 j n x0 y0 full)) (List.length (lf19 j n x0 y0 full)))&&(!(decide (IntKind.wrap .i64 (IntKind.wrap .i64 (0+(↑(Int.toNat (ix19 j n x0 y0 full)-0):Int))+(↑(List.length (lf19 j n x0 y0 full)):Int))<0))&&(!(decide (sz19 j n x0 y0 full<0))&&(!(decide (sz19 j n x0 y0 full<0))&&((decide (0<IntKind.wrap .i64 (sz19 j n x0 y0 full-0)))&&((decide (0<=IntKind.wrap .i64 (sz19 j n x0 y0 full-0)))&&(!(decide (z19 j n x0 y0 full=0))&&((roomFor (z19 j n x0 y0 full) 56)&&((decide (z19 j n x0 y0 full<=z19 j n x0 y0 full)&&true)&&((Nat.ble (j+0+(Int.toNat (ix19 j n x0 y0 full)-0)) full.length)&&((decide (0+List.length (hd19 j n x0 y0 full)<=z19 j n x0 y0 full-0))&&((decide (List.length (hd19 j n x0 y0 full)=0))&&((Nat.ble (List.length (lf19 j n x0 y0 full)) (List.length (lf19 j n x0 y0 full)))&&((decide (0+List.length (lg19 j n x0 y0 full)<=z19 j n x0 y0 full-0))&&(!(decide (List.length (lg19 j n x0 y0 full)=0))&&((decide (0+List.length (lg19 j n x0 y0 full)<=List.length (rep19 j n x0 y0 full)))&&((Nat.ble (j+Int.toNat (IntKind.wrap .i64 (ix19 j n x0 y0 full+1))+(n-Int.toNat (IntKind.wrap .i64 (ix19 j n x0 y0 full+1)))) full.length)&&((decide (0+List.length (lg19 j n x0 y0 full)+List.length (tl19 j n x0 y0 full)<=z19 j n x0 y0 full-0))&&((decide (List.length (tl19 j n x0 y0 full)=0))&&true)))))))))))))))))))))))))))))):=by kernel_rfl
theorem l19r5 (j n c:Nat) (ex:Bool) (x0 y0:Txt) (full:List Msg) (sp:Bool) (el:R.EL):(R.Tree.go p19r5 (T19 j n c ex x0 y0 full sp el)).ev =
    some (R.DV.tup [R.DV.agg [R.DV.int .i64 (Prod.fst (msg19 j n x0 y0 full)),R.DV.str (Prod.fst (Prod.snd (partM (msg19 j n x0 y0 full) x0 y0))),R.DV.str (Prod.fst (Prod.snd (Prod.snd (partM (msg19 j n x0 y0 full) x0 y0)))),R.DV.str (Prod.snd (Prod.snd (Prod.snd (msg19 j n x0 y0 full))))],DV.rs 1 0 (0+List.length (lg19 j n x0 y0 full)) (z19 j n x0 y0 full-0) 4 false,R.DV.bool true],(mkD [DO.r RK.msg full sp el,DO.r RK.msg (List.take 0 (rep19 j n x0 y0 full)++lg19 j n x0 y0 full++List.drop (0+List.length (lg19 j n x0 y0 full)) (rep19 j n x0 y0 full)) true { e:=31,z:=0 }] 1)):=by kernel_rfl
def p19r6:List Bool:=[true,false,false,true,true,true,true,true,true,true,true,true,true,true,true,true,true,true,true,true,true,true,true,true,false,true,true,true,false,true,true,false,true,true,true,false,false,true,true,false,false,false,true,true,true,false,true,true,true,true,true,true,true,true,true,true,true,false,true,true,true,true,false,true,true,true,true,true,true,true,true,false,false,true,true,true,true,true,false]
theorem c19r6 (j n c:Nat) (ex:Bool) (x0 y0:Txt) (full:List Msg) (sp:Bool) (el:R.EL):R.Tree.cks p19r6 (T19 j n c ex x0 y0 full sp el) =
    ((okG full j n)&&(!(noP x0 y0 (seg full j n))&&(!(decide (ix19 j n x0 y0 full<0))&&((decide (0<=ix19 j n x0 y0 full)&&decide (Int.toNat (ix19 j n x0 y0 full)<n))&&((Nat.blt (j+Int.toNat (ix19 j n x0 y0 full)) full.length)&&((partOk (msg19 j n x0 y0 full) x0 y0)&&((decide (0<=ix19 j n x0 y0 full)&&(decide (c<=c)&&(decide (Int.toNat (ix19 j n x0 y0 full)<=c)&&true)))&&((decide (0<=ix19 j n x0 y0 full)&&decide (Int.toNat (ix19 j n x0 y0 full)<n))&&((Nat.blt (j+Int.toNat (ix19 j n x0 y0 full)) full.length)&&((decide (0<=IntKind.wrap .i64 (ix19 j n x0 y0 full+1))&&(decide (c<=c)&&(decide (n<=c)&&(decide (Int.toNat (IntKind.wrap .i64 (ix19 j n x0 y0 full+1))<=n)&&true))))&&(!(decide (IntKind.wrap .i64 (0+(↑(Int.toNat (ix19 j n x0 y0 full)-0):Int))<0))&&((Nat.ble (List.length (lf19 j n x0 y0 full)) (List.length (lf19 j n x0 y0 full)))&&(!(decide (IntKind.wrap .i64 (IntKind.wrap .i64 (0+(↑(Int.toNat (ix19 j n x0 y0 full)-0):Int))+(↑(List.length (lf19 j n x0 y0 full)):Int))<0))&&(!(decide (sz19 j n x0 y0 full<0))&&(!(decide (sz19 j n x0 y0 full<0))&&((decide (0<IntKind.wrap .i64 (sz19 j n x0 y0 full-0)))&&((decide (0<=IntKind.wrap .i64 (sz19 j n x0 y0 full-0)))&&(!(decide (z19 j n x0 y0 full=0))&&((roomFor (z19 j n x0 y0 full) 56)&&((decide (z19 j n x0 y0 full<=z19 j n x0 y0 full)&&true)&&((Nat.ble (j+0+(Int.toNat (ix19 j n x0 y0 full)-0)) full.length)&&((decide (0+List.length (hd19 j n x0 y0 full)<=z19 j n x0 y0 full-0))&&(!(decide (List.length (hd19 j n x0 y0 full)=0))&&((decide (0+List.length (hd19 j n x0 y0 full)<=List.length (rep19 j n x0 y0 full)))&&((Nat.ble (List.length (lf19 j n x0 y0 full)) (List.length (lf19 j n x0 y0 full)))&&((decide (0+List.length (hd19 j n x0 y0 full)+List.length (lg19 j n x0 y0 full)<=z19 j n x0 y0 full-0))&&((decide (List.length (lg19 j n x0 y0 full)=0))&&((Nat.ble (j+Int.toNat (IntKind.wrap .i64 (ix19 j n x0 y0 full+1))+(n-Int.toNat (IntKind.wrap .i64 (ix19 j n x0 y0 full+1)))) full.length)&&((decide (0+List.length (hd19 j n x0 y0 full)+List.length (tl19 j n x0 y0 full)<=z19 j n x0 y0 full-0))&&((decide (List.length (tl19 j n x0 y0 full)=0))&&true)))))))))))))))))))))))))))))):=by kernel_rfl
theorem l19r6 (j n c:Nat) (ex:Bool) (x0 y0:Txt) (full:List Msg) (sp:Bool) (el:R.EL):(R.Tree.go p19r6 (T19 j n c ex x0 y0 full sp el)).ev =
    some (R.DV.tup [R.DV.agg [R.DV.int .i64 (Prod.fst (msg19 j n x0 y0 full)),R.DV.str (Prod.fst (Prod.snd (partM (msg19 j n x0 y0 full) x0 y0))),R.DV.str (Prod.fst (Prod.snd (Prod.snd (partM (msg19 j n x0 y0 full) x0 y0)))),R.DV.str (Prod.snd (Prod.snd (Prod.snd (msg19 j n x0 y0 full))))],DV.rs 1 0 (0+List.length (hd19 j n x0 y0 full)) (z19 j n x0 y0 full-0) 4 false,R.DV.bool true],(mkD [DO.r RK.msg full sp el,DO.r RK.msg (List.take 0 (rep19 j n x0 y0 full)++hd19 j n x0 y0 full++List.drop (0+List.length (hd19 j n x0 y0 full)) (rep19 j n x0 y0 full)) true { e:=31,z:=0 }] 1)):=by kernel_rfl
def p19n:List Bool:=[true,false,false,true,true,true,true,true,true,true,true,true,true,true,true,true,true,true,true,true,true,true,true,true,false,true,true,true,false,true,true,false,true,true,true,false,false,true,true,false,false,false,false,true,true,true,true,true,true,true,true,true,true,false,true,true,true,true,true,true,false,false,true,true,true,false]
theorem c19n (j n c:Nat) (ex:Bool) (x0 y0:Txt) (full:List Msg) (sp:Bool) (el:R.EL):R.Tree.cks p19n (T19 j n c ex x0 y0 full sp el) =
    ((okG full j n)&&(!(noP x0 y0 (seg full j n))&&(!(decide (ix19 j n x0 y0 full<0))&&((decide (0<=ix19 j n x0 y0 full)&&decide (Int.toNat (ix19 j n x0 y0 full)<n))&&((Nat.blt (j+Int.toNat (ix19 j n x0 y0 full)) full.length)&&((partOk (msg19 j n x0 y0 full) x0 y0)&&((decide (0<=ix19 j n x0 y0 full)&&(decide (c<=c)&&(decide (Int.toNat (ix19 j n x0 y0 full)<=c)&&true)))&&((decide (0<=ix19 j n x0 y0 full)&&decide (Int.toNat (ix19 j n x0 y0 full)<n))&&((Nat.blt (j+Int.toNat (ix19 j n x0 y0 full)) full.length)&&((decide (0<=IntKind.wrap .i64 (ix19 j n x0 y0 full+1))&&(decide (c<=c)&&(decide (n<=c)&&(decide (Int.toNat (IntKind.wrap .i64 (ix19 j n x0 y0 full+1))<=n)&&true))))&&(!(decide (IntKind.wrap .i64 (0+(↑(Int.toNat (ix19 j n x0 y0 full)-0):Int))<0))&&((Nat.ble (List.length (lf19 j n x0 y0 full)) (List.length (lf19 j n x0 y0 full)))&&(!(decide (IntKind.wrap .i64 (IntKind.wrap .i64 (0+(↑(Int.toNat (ix19 j n x0 y0 full)-0):Int))+(↑(List.length (lf19 j n x0 y0 full)):Int))<0))&&(!(decide (sz19 j n x0 y0 full<0))&&(!(decide (sz19 j n x0 y0 full<0))&&(!(decide (0<IntKind.wrap .i64 (sz19 j n x0 y0 full-0)))&&((Nat.ble (j+0+(Int.toNat (ix19 j n x0 y0 full)-0)) full.length)&&((decide (List.length (hd19 j n x0 y0 full)=0))&&((Nat.ble (List.length (lf19 j n x0 y0 full)) (List.length (lf19 j n x0 y0 full)))&&((decide (List.length (lg19 j n x0 y0 full)=0))&&((Nat.ble (j+Int.toNat (IntKind.wrap .i64 (ix19 j n x0 y0 full+1))+(n-Int.toNat (IntKind.wrap .i64 (ix19 j n x0 y0 full+1)))) full.length)&&((decide (List.length (tl19 j n x0 y0 full)=0))&&true)))))))))))))))))))))):=by kernel_rfl
theorem l19n (j n c:Nat) (ex:Bool) (x0 y0:Txt) (full:List Msg) (sp:Bool) (el:R.EL):(R.Tree.go p19n (T19 j n c ex x0 y0 full sp el)).ev =
    some (R.DV.tup [R.DV.agg [R.DV.int .i64 (Prod.fst (msg19 j n x0 y0 full)),R.DV.str (Prod.fst (Prod.snd (partM (msg19 j n x0 y0 full) x0 y0))),R.DV.str (Prod.fst (Prod.snd (Prod.snd (partM (msg19 j n x0 y0 full) x0 y0)))),R.DV.str (Prod.snd (Prod.snd (Prod.snd (msg19 j n x0 y0 full))))],R.DV.nils,R.DV.bool true],(mkD [DO.r RK.msg full sp el] 1)):=by kernel_rfl
def p19k:List Bool:=[true,true,true,true,false]
theorem c19k (j n c:Nat) (ex:Bool) (x0 y0:Txt) (full:List Msg) (sp:Bool) (el:R.EL):R.Tree.cks p19k (T19 j n c ex x0 y0 full sp el) =
    ((okG full j n)&&((noP x0 y0 (seg full j n))&&((okG full j n)&&(!(Nat.beq n 0)&&true)))):=by kernel_rfl
theorem l19k (j n c:Nat) (ex:Bool) (x0 y0:Txt) (full:List Msg) (sp:Bool) (el:R.EL):(R.Tree.go p19k (T19 j n c ex x0 y0 full sp el)).ev =
    some (R.DV.tup [R.DV.agg [R.DV.int .i64 0,R.DV.str [],R.DV.str [],R.DV.str []],DV.rs 1 0 n n 4 false,R.DV.bool false],(mkD [DO.r RK.msg full sp el,DO.r RK.msg (seg full j n) true 31] 1)):=by kernel_rfl
def p19z:List Bool:=[true,true,true,true,true]
theorem c19z (j n c:Nat) (ex:Bool) (x0 y0:Txt) (full:List Msg) (sp:Bool) (el:R.EL):R.Tree.cks p19z (T19 j n c ex x0 y0 full sp el) =
    ((okG full j n)&&((noP x0 y0 (seg full j n))&&((okG full j n)&&((Nat.beq n 0)&&true)))):=by kernel_rfl
theorem l19z (j n c:Nat) (ex:Bool) (x0 y0:Txt) (full:List Msg) (sp:Bool) (el:R.EL):(R.Tree.go p19z (T19 j n c ex x0 y0 full sp el)).ev =
    some (R.DV.tup [R.DV.agg [R.DV.int .i64 0,R.DV.str [],R.DV.str [],R.DV.str []],DV.rs 1 0 0 0 4 true,R.DV.bool false],(mkD [DO.r RK.msg full sp el,DO.r RK.msg [] false 31] 1)):=by kernel_rfl
theorem seg_getD {full:List Msg}{j n i:Nat} (h:i<n) (p1:j+n<=full.length):(seg full j n).getD i (0,[],[],[])=full.getD (j+i) (0,[],[],[]):=by
  unfold seg
  rw[List.getD_eq_getElem?_getD,List.getD_eq_getElem?_getD,List.getElem?_take_of_lt h,List.getElem?_drop]
theorem put0 {q rep:List Msg}:List.take 0 rep++q++List.drop q.length rep=q++rep.drop q.length:=by
  rw[List.take_zero,List.nil_append]
theorem put_at {p q rep:List Msg}:List.take p.length (p++rep.drop p.length)++q++List.drop (p.length+q.length) (p++rep.drop p.length)=(p++q)++rep.drop (p++q).length:=by
  rw[List.take_left,← List.drop_drop,List.drop_left,List.drop_drop,List.length_append]
theorem lapp (p q:List Msg):(p++q).length=p.length+q.length:=List.length_append
theorem drop_all {rep:List Msg}{k:Nat} (h:rep.length=k):rep.drop k=[]:=List.drop_eq_nil_of_le (by omega)
theorem parts19 {j n:Nat}{x0 y0:Txt}{full:List Msg} (p1:j+n<=full.length) (p2:n<199) (h:noP x0 y0 (seg full j n)=false) :
    ∃ i:Nat,i<n/\ix19 j n x0 y0 full=i/\partOk (msg19 j n x0 y0 full) x0 y0=true/\firstM x0 y0 (seg full j n) zeroM=partM (msg19 j n x0 y0 full) x0 y0 /\
      restF leftL x0 y0 (seg full j n)=hd19 j n x0 y0 full++(lf19 j n x0 y0 full++tl19 j n x0 y0 full)/\lg19 j n x0 y0 full=lf19 j n x0 y0 full /\
      (hd19 j n x0 y0 full).length=i/\(lf19 j n x0 y0 full).length<=2/\(tl19 j n x0 y0 full).length=n-(i+1)/\z19 j n x0 y0 full=i+(lf19 j n x0 y0 full).length+(n-(i+1)) /\
      sz19 j n x0 y0 full=((i+(lf19 j n x0 y0 full).length+(n-(i+1)):Nat):Int)/\(rep19 j n x0 y0 full).length=i+(lf19 j n x0 y0 full).length+(n-(i+1)):=by
  have hl:=seg_len p1
  obtain⟨i,h1,h2,h3,h4,h5⟩:=at_first leftL (seg full j n) zeroM h
  rw[hl] at h2
  have hg:=seg_getD h2 p1
  have hix:ix19 j n x0 y0 full=i:=h1
  have hm:msg19 j n x0 y0 full=(seg full j n).getD i (0,[],[],[]):=by
    rw[hg]; unfold msg19; rw[hix,Int.toNat_natCast]
  have w1:IntKind.wrap .i64 ((i:Int)+1)=((i+1:Nat):Int):=(wrap_i64 (by omega) (by omega)).trans (by omega)
  have hhd:hd19 j n x0 y0 full=(seg full j n).take i:=by
    unfold hd19 seg
    rw[hix,Int.toNat_natCast,Nat.sub_zero,Nat.add_zero,List.take_take,Nat.min_eq_left (by omega)]
  have htl:tl19 j n x0 y0 full=(seg full j n).drop (i+1):=by
    unfold tl19 seg
    rw[hix,w1,Int.toNat_natCast,List.drop_take,List.drop_drop]
  have llf:(lf19 j n x0 y0 full).length<=2:=leftL_len _ _ _
  have lhd:(hd19 j n x0 y0 full).length=i:=by rw[hhd,List.length_take,hl]; omega
  have ltl:(tl19 j n x0 y0 full).length=n-(i+1):=by rw[htl,List.length_drop,hl]
  have hsz:sz19 j n x0 y0 full=((i+(lf19 j n x0 y0 full).length+(n-(i+1)):Nat):Int):=by
    unfold sz19
    rw[hix,w1,Int.toNat_natCast,Int.toNat_natCast,Nat.sub_zero]
    rw[wrap_i64 (z:=0+(i:Int)) (by omega) (by omega),wrap_i64 (z:=0+(i:Int)+((lf19 j n x0 y0 full).length:Int)) (by omega) (by omega),wrap_i64 (by omega) (by omega)]
    omega
  have hz:z19 j n x0 y0 full=i+(lf19 j n x0 y0 full).length+(n-(i+1)):=by
    unfold z19
    rw[hsz,wrap_i64 (by omega) (by omega)]; omega
  refine⟨i,h2,hix,by rw[hm]; exact h3,by rw[hm]; exact h4,?_,List.take_length,lhd,llf,ltl,hz,hsz,?_⟩
  . rw[h5,hhd,htl,← hm]; rfl
  . unfold rep19; rw[List.length_replicate,hz]
def ok19 (full:List Msg) (j n c:Nat):Bool:=decide (j+n<=full.length/\n<199/\n<=c)
set_option maxHeartbeats 1000000 in
theorem w19r0 {j n c:Nat} (ex:Bool) {x0 y0:Txt}{full:List Msg} (sp:Bool) (el:R.EL) (p1:j+n<=full.length) (p2:n<199) (pc:n<=c) (h:noP x0 y0 (seg full j n)=false) (h0:(hd19 j n x0 y0 full).length ≠ 0) (h1:(lf19 j n x0 y0 full).length ≠ 0) (h2:(tl19 j n x0 y0 full).length ≠ 0) :
    (T19 j n c ex x0 y0 full sp el).ev=some (R.DV.tup [valM (firstM x0 y0 (seg full j n) zeroM),.rs 1 0 (restF leftL x0 y0 (seg full j n)).length (restF leftL x0 y0 (seg full j n)).length 4 false,.bool true],mkD [DO.r RK.msg full sp el,DO.r RK.msg (restF leftL x0 y0 (seg full j n)) true 31] 1):=by
  obtain⟨i,hi,hix,hpo,hf,hr,hlg,lhd,llf,ltl,hz,hsz,hrep⟩:=parts19 p1 p2 h
  have w1:IntKind.wrap .i64 ((i:Int)+1)=((i+1:Nat):Int):=(wrap_i64 (by omega) (by omega)).trans (by omega)
  have w2:IntKind.wrap .i64 (0+((i:Nat):Int))=((i:Nat):Int):=(wrap_i64 (by omega) (by omega)).trans (by omega)
  have w3:IntKind.wrap .i64 ((i:Int)+((lf19 j n x0 y0 full).length:Int))=((i+(lf19 j n x0 y0 full).length:Nat):Int):=(wrap_i64 (by omega) (by omega)).trans (by omega)
  have w4:IntKind.wrap .i64 (((i+(lf19 j n x0 y0 full).length+(n-(i+1)):Nat):Int)-0)=((i+(lf19 j n x0 y0 full).length+(n-(i+1)):Nat):Int):=(wrap_i64 (by omega) (by omega)).trans (by omega)
  have hok:okG full j n=true:=okG_iff.2 ⟨p1,p2⟩
  have hck:R.Tree.cks p19r0 (T19 j n c ex x0 y0 full sp el)=true:=by
    rw[c19r0,hok,h,hpo,hix,hsz,hz,hlg,Int.toNat_natCast,w1,Int.toNat_natCast,Nat.sub_zero,w2,w3,w4]
    simp only[List.length_append,List.length_take,List.length_drop,hrep,lhd,ltl,Bool.and_eq_true,Bool.not_eq_true',decide_eq_true_eq,decide_eq_false_iff_not,Nat.ble_eq,Nat.blt_eq,and_true,true_and,Bool.not_false]
    have hroom:roomFor (i+(lf19 j n x0 y0 full).length+(n-(i+1))) 56=true:=room_msg (by omega)
    rw[lhd] at h0
    rw[ltl] at h2
    and_intros<;>first | omega | exact hroom
  rw[R.Tree.ev_go _ _ hck,l19r0]
  have hlen:(restF leftL x0 y0 (seg full j n)).length=i+(lf19 j n x0 y0 full).length+(n-(i+1)):=by
    rw[hr,List.length_append,List.length_append,lhd,ltl]; omega
  have hrow:restF leftL x0 y0 (seg full j n)=(List.take (0+((0+(hd19 j n x0 y0 full).length)+(lg19 j n x0 y0 full).length)) (List.take (0+(0+(hd19 j n x0 y0 full).length)) (List.take 0 (rep19 j n x0 y0 full)++hd19 j n x0 y0 full++List.drop (0+(hd19 j n x0 y0 full).length) (rep19 j n x0 y0 full))++lg19 j n x0 y0 full++List.drop (0+(0+(hd19 j n x0 y0 full).length)+(lg19 j n x0 y0 full).length) (List.take 0 (rep19 j n x0 y0 full)++hd19 j n x0 y0 full++List.drop (0+(hd19 j n x0 y0 full).length) (rep19 j n x0 y0 full)))++tl19 j n x0 y0 full++List.drop (0+((0+(hd19 j n x0 y0 full).length)+(lg19 j n x0 y0 full).length)+(tl19 j n x0 y0 full).length) (List.take (0+(0+(hd19 j n x0 y0 full).length)) (List.take 0 (rep19 j n x0 y0 full)++hd19 j n x0 y0 full++List.drop (0+(hd19 j n x0 y0 full).length) (rep19 j n x0 y0 full))++lg19 j n x0 y0 full++List.drop (0+(0+(hd19 j n x0 y0 full).length)+(lg19 j n x0 y0 full).length) (List.take 0 (rep19 j n x0 y0 full)++hd19 j n x0 y0 full++List.drop (0+(hd19 j n x0 y0 full).length) (rep19 j n x0 y0 full)))):=by
    rw[hr]
    try rw[hlg]
    simp only[Nat.zero_add]
    rw[put0]
    rw[put_at]
    rw[← lapp (hd19 j n x0 y0 full) (lf19 j n x0 y0 full),put_at]
    rw[drop_all (by simp only[List.length_append,hrep,lhd,ltl]<;>omega)]
    try simp
  rw[hf,← hrow]
  try rw[hlg]
  rw[hz,Nat.sub_zero,hlen]
  rw[show 0+(hd19 j n x0 y0 full).length+(lf19 j n x0 y0 full).length+(tl19 j n x0 y0 full).length=i+(lf19 j n x0 y0 full).length+(n-(i+1)) by omega]
  rfl
set_option maxHeartbeats 1000000 in
theorem w19r1 {j n c:Nat} (ex:Bool) {x0 y0:Txt}{full:List Msg} (sp:Bool) (el:R.EL) (p1:j+n<=full.length) (p2:n<199) (pc:n<=c) (h:noP x0 y0 (seg full j n)=false) (h0:(hd19 j n x0 y0 full).length=0) (h1:(lf19 j n x0 y0 full).length ≠ 0) (h2:(tl19 j n x0 y0 full).length ≠ 0) :
    (T19 j n c ex x0 y0 full sp el).ev=some (R.DV.tup [valM (firstM x0 y0 (seg full j n) zeroM),.rs 1 0 (restF leftL x0 y0 (seg full j n)).length (restF leftL x0 y0 (seg full j n)).length 4 false,.bool true],mkD [DO.r RK.msg full sp el,DO.r RK.msg (restF leftL x0 y0 (seg full j n)) true 31] 1):=by
  obtain⟨i,hi,hix,hpo,hf,hr,hlg,lhd,llf,ltl,hz,hsz,hrep⟩:=parts19 p1 p2 h
  have w1:IntKind.wrap .i64 ((i:Int)+1)=((i+1:Nat):Int):=(wrap_i64 (by omega) (by omega)).trans (by omega)
  have w2:IntKind.wrap .i64 (0+((i:Nat):Int))=((i:Nat):Int):=(wrap_i64 (by omega) (by omega)).trans (by omega)
  have w3:IntKind.wrap .i64 ((i:Int)+((lf19 j n x0 y0 full).length:Int))=((i+(lf19 j n x0 y0 full).length:Nat):Int):=(wrap_i64 (by omega) (by omega)).trans (by omega)
  have w4:IntKind.wrap .i64 (((i+(lf19 j n x0 y0 full).length+(n-(i+1)):Nat):Int)-0)=((i+(lf19 j n x0 y0 full).length+(n-(i+1)):Nat):Int):=(wrap_i64 (by omega) (by omega)).trans (by omega)
  have hok:okG full j n=true:=okG_iff.2 ⟨p1,p2⟩
  have hck:R.Tree.cks p19r1 (T19 j n c ex x0 y0 full sp el)=true:=by
    rw[c19r1,hok,h,hpo,hix,hsz,hz,hlg,Int.toNat_natCast,w1,Int.toNat_natCast,Nat.sub_zero,w2,w3,w4]
    simp only[List.length_append,List.length_take,List.length_drop,hrep,lhd,ltl,Bool.and_eq_true,Bool.not_eq_true',decide_eq_true_eq,decide_eq_false_iff_not,Nat.ble_eq,Nat.blt_eq,and_true,true_and,Bool.not_false]
    have hroom:roomFor (i+(lf19 j n x0 y0 full).length+(n-(i+1))) 56=true:=room_msg (by omega)
    rw[lhd] at h0
    rw[ltl] at h2
    and_intros<;>first | omega | exact hroom
  rw[R.Tree.ev_go _ _ hck,l19r1]
  have hlen:(restF leftL x0 y0 (seg full j n)).length=i+(lf19 j n x0 y0 full).length+(n-(i+1)):=by
    rw[hr,List.length_append,List.length_append,lhd,ltl]; omega
  have hrow:restF leftL x0 y0 (seg full j n)=(List.take (0+(0+(lg19 j n x0 y0 full).length)) (List.take 0 (rep19 j n x0 y0 full)++lg19 j n x0 y0 full++List.drop (0+(lg19 j n x0 y0 full).length) (rep19 j n x0 y0 full))++tl19 j n x0 y0 full++List.drop (0+(0+(lg19 j n x0 y0 full).length)+(tl19 j n x0 y0 full).length) (List.take 0 (rep19 j n x0 y0 full)++lg19 j n x0 y0 full++List.drop (0+(lg19 j n x0 y0 full).length) (rep19 j n x0 y0 full))):=by
    rw[hr]
    have z0:hd19 j n x0 y0 full=[]:=List.length_eq_zero_iff.1 h0
    try rw[hlg]
    simp only[Nat.zero_add]
    rw[z0]
    rw[put0]
    rw[put_at]
    rw[drop_all (by simp only[List.length_append,hrep,lhd,ltl]<;>omega)]
    try simp
  rw[hf,← hrow]
  try rw[hlg]
  rw[hz,Nat.sub_zero,hlen]
  rw[show 0+(lf19 j n x0 y0 full).length+(tl19 j n x0 y0 full).length=i+(lf19 j n x0 y0 full).length+(n-(i+1)) by omega]
  rfl
set_option maxHeartbeats 1000000 in
theorem w19r2 {j n c:Nat} (ex:Bool) {x0 y0:Txt}{full:List Msg} (sp:Bool) (el:R.EL) (p1:j+n<=full.length) (p2:n<199) (pc:n<=c) (h:noP x0 y0 (seg full j n)=false) (h0:(hd19 j n x0 y0 full).length ≠ 0) (h1:(lf19 j n x0 y0 full).length=0) (h2:(tl19 j n x0 y0 full).length ≠ 0) :
    (T19 j n c ex x0 y0 full sp el).ev=some (R.DV.tup [valM (firstM x0 y0 (seg full j n) zeroM),.rs 1 0 (restF leftL x0 y0 (seg full j n)).length (restF leftL x0 y0 (seg full j n)).length 4 false,.bool true],mkD [DO.r RK.msg full sp el,DO.r RK.msg (restF leftL x0 y0 (seg full j n)) true 31] 1):=by
  obtain⟨i,hi,hix,hpo,hf,hr,hlg,lhd,llf,ltl,hz,hsz,hrep⟩:=parts19 p1 p2 h
  have w1:IntKind.wrap .i64 ((i:Int)+1)=((i+1:Nat):Int):=(wrap_i64 (by omega) (by omega)).trans (by omega)
  have w2:IntKind.wrap .i64 (0+((i:Nat):Int))=((i:Nat):Int):=(wrap_i64 (by omega) (by omega)).trans (by omega)
  have w3:IntKind.wrap .i64 ((i:Int)+((lf19 j n x0 y0 full).length:Int))=((i+(lf19 j n x0 y0 full).length:Nat):Int):=(wrap_i64 (by omega) (by omega)).trans (by omega)
  have w4:IntKind.wrap .i64 (((i+(lf19 j n x0 y0 full).length+(n-(i+1)):Nat):Int)-0)=((i+(lf19 j n x0 y0 full).length+(n-(i+1)):Nat):Int):=(wrap_i64 (by omega) (by omega)).trans (by omega)
  have hok:okG full j n=true:=okG_iff.2 ⟨p1,p2⟩
  have hck:R.Tree.cks p19r2 (T19 j n c ex x0 y0 full sp el)=true:=by
    rw[c19r2,hok,h,hpo,hix,hsz,hz,hlg,Int.toNat_natCast,w1,Int.toNat_natCast,Nat.sub_zero,w2,w3,w4]
    simp only[List.length_append,List.length_take,List.length_drop,hrep,lhd,ltl,Bool.and_eq_true,Bool.not_eq_true',decide_eq_true_eq,decide_eq_false_iff_not,Nat.ble_eq,Nat.blt_eq,and_true,true_and,Bool.not_false]
    have hroom:roomFor (i+(lf19 j n x0 y0 full).length+(n-(i+1))) 56=true:=room_msg (by omega)
    rw[lhd] at h0
    rw[ltl] at h2
    and_intros<;>first | omega | exact hroom
  rw[R.Tree.ev_go _ _ hck,l19r2]
  have hlen:(restF leftL x0 y0 (seg full j n)).length=i+(lf19 j n x0 y0 full).length+(n-(i+1)):=by
    rw[hr,List.length_append,List.length_append,lhd,ltl]; omega
  have hrow:restF leftL x0 y0 (seg full j n)=(List.take (0+(0+(hd19 j n x0 y0 full).length)) (List.take 0 (rep19 j n x0 y0 full)++hd19 j n x0 y0 full++List.drop (0+(hd19 j n x0 y0 full).length) (rep19 j n x0 y0 full))++tl19 j n x0 y0 full++List.drop (0+(0+(hd19 j n x0 y0 full).length)+(tl19 j n x0 y0 full).length) (List.take 0 (rep19 j n x0 y0 full)++hd19 j n x0 y0 full++List.drop (0+(hd19 j n x0 y0 full).length) (rep19 j n x0 y0 full))):=by
    rw[hr]
    have z1:lf19 j n x0 y0 full=[]:=List.length_eq_zero_iff.1 h1
    try rw[hlg]
    simp only[Nat.zero_add]
    rw[z1]
    rw[put0]
    rw[put_at]
    rw[drop_all (by simp only[List.length_append,hrep,lhd,ltl]<;>omega)]
    try simp
  rw[hf,← hrow]
  try rw[hlg]
  rw[hz,Nat.sub_zero,hlen]
  rw[show 0+(hd19 j n x0 y0 full).length+(tl19 j n x0 y0 full).length=i+(lf19 j n x0 y0 full).length+(n-(i+1)) by omega]
  rfl
set_option maxHeartbeats 1000000 in
theorem w19r3 {j n c:Nat} (ex:Bool) {x0 y0:Txt}{full:List Msg} (sp:Bool) (el:R.EL) (p1:j+n<=full.length) (p2:n<199) (pc:n<=c) (h:noP x0 y0 (seg full j n)=false) (h0:(hd19 j n x0 y0 full).length=0) (h1:(lf19 j n x0 y0 full).length=0) (h2:(tl19 j n x0 y0 full).length ≠ 0) :
    (T19 j n c ex x0 y0 full sp el).ev=some (R.DV.tup [valM (firstM x0 y0 (seg full j n) zeroM),.rs 1 0 (restF leftL x0 y0 (seg full j n)).length (restF leftL x0 y0 (seg full j n)).length 4 false,.bool true],mkD [DO.r RK.msg full sp el,DO.r RK.msg (restF leftL x0 y0 (seg full j n)) true 31] 1):=by
  obtain⟨i,hi,hix,hpo,hf,hr,hlg,lhd,llf,ltl,hz,hsz,hrep⟩:=parts19 p1 p2 h
  have w1:IntKind.wrap .i64 ((i:Int)+1)=((i+1:Nat):Int):=(wrap_i64 (by omega) (by omega)).trans (by omega)
  have w2:IntKind.wrap .i64 (0+((i:Nat):Int))=((i:Nat):Int):=(wrap_i64 (by omega) (by omega)).trans (by omega)
  have w3:IntKind.wrap .i64 ((i:Int)+((lf19 j n x0 y0 full).length:Int))=((i+(lf19 j n x0 y0 full).length:Nat):Int):=(wrap_i64 (by omega) (by omega)).trans (by omega)
  have w4:IntKind.wrap .i64 (((i+(lf19 j n x0 y0 full).length+(n-(i+1)):Nat):Int)-0)=((i+(lf19 j n x0 y0 full).length+(n-(i+1)):Nat):Int):=(wrap_i64 (by omega) (by omega)).trans (by omega)
  have hok:okG full j n=true:=okG_iff.2 ⟨p1,p2⟩
  have hck:R.Tree.cks p19r3 (T19 j n c ex x0 y0 full sp el)=true:=by
    rw[c19r3,hok,h,hpo,hix,hsz,hz,hlg,Int.toNat_natCast,w1,Int.toNat_natCast,Nat.sub_zero,w2,w3,w4]
    simp only[List.length_append,List.length_take,List.length_drop,hrep,lhd,ltl,Bool.and_eq_true,Bool.not_eq_true',decide_eq_true_eq,decide_eq_false_iff_not,Nat.ble_eq,Nat.blt_eq,and_true,true_and,Bool.not_false]
    have hroom:roomFor (i+(lf19 j n x0 y0 full).length+(n-(i+1))) 56=true:=room_msg (by omega)
    rw[lhd] at h0
    rw[ltl] at h2
    and_intros<;>first | omega | exact hroom
  rw[R.Tree.ev_go _ _ hck,l19r3]
  have hlen:(restF leftL x0 y0 (seg full j n)).length=i+(lf19 j n x0 y0 full).length+(n-(i+1)):=by
    rw[hr,List.length_append,List.length_append,lhd,ltl]; omega
  have hrow:restF leftL x0 y0 (seg full j n)=(List.take 0 (rep19 j n x0 y0 full)++tl19 j n x0 y0 full++List.drop (0+(tl19 j n x0 y0 full).length) (rep19 j n x0 y0 full)):=by
    rw[hr]
    have z0:hd19 j n x0 y0 full=[]:=List.length_eq_zero_iff.1 h0
    have z1:lf19 j n x0 y0 full=[]:=List.length_eq_zero_iff.1 h1
    try rw[hlg]
    simp only[Nat.zero_add]
    rw[z0,z1]
    rw[put0]
    rw[drop_all (by simp only[List.length_append,hrep,lhd,ltl]<;>omega)]
    try simp
  rw[hf,← hrow]
  try rw[hlg]
  rw[hz,Nat.sub_zero,hlen]
  rw[show 0+(tl19 j n x0 y0 full).length=i+(lf19 j n x0 y0 full).length+(n-(i+1)) by omega]
  rfl
set_option maxHeartbeats 1000000 in
theorem w19r4 {j n c:Nat} (ex:Bool) {x0 y0:Txt}{full:List Msg} (sp:Bool) (el:R.EL) (p1:j+n<=full.length) (p2:n<199) (pc:n<=c) (h:noP x0 y0 (seg full j n)=false) (h0:(hd19 j n x0 y0 full).length ≠ 0) (h1:(lf19 j n x0 y0 full).length ≠ 0) (h2:(tl19 j n x0 y0 full).length=0) :
    (T19 j n c ex x0 y0 full sp el).ev=some (R.DV.tup [valM (firstM x0 y0 (seg full j n) zeroM),.rs 1 0 (restF leftL x0 y0 (seg full j n)).length (restF leftL x0 y0 (seg full j n)).length 4 false,.bool true],mkD [DO.r RK.msg full sp el,DO.r RK.msg (restF leftL x0 y0 (seg full j n)) true 31] 1):=by
  obtain⟨i,hi,hix,hpo,hf,hr,hlg,lhd,llf,ltl,hz,hsz,hrep⟩:=parts19 p1 p2 h
  have w1:IntKind.wrap .i64 ((i:Int)+1)=((i+1:Nat):Int):=(wrap_i64 (by omega) (by omega)).trans (by omega)
  have w2:IntKind.wrap .i64 (0+((i:Nat):Int))=((i:Nat):Int):=(wrap_i64 (by omega) (by omega)).trans (by omega)
  have w3:IntKind.wrap .i64 ((i:Int)+((lf19 j n x0 y0 full).length:Int))=((i+(lf19 j n x0 y0 full).length:Nat):Int):=(wrap_i64 (by omega) (by omega)).trans (by omega)
  have w4:IntKind.wrap .i64 (((i+(lf19 j n x0 y0 full).length+(n-(i+1)):Nat):Int)-0)=((i+(lf19 j n x0 y0 full).length+(n-(i+1)):Nat):Int):=(wrap_i64 (by omega) (by omega)).trans (by omega)
  have hok:okG full j n=true:=okG_iff.2 ⟨p1,p2⟩
  have hck:R.Tree.cks p19r4 (T19 j n c ex x0 y0 full sp el)=true:=by
    rw[c19r4,hok,h,hpo,hix,hsz,hz,hlg,Int.toNat_natCast,w1,Int.toNat_natCast,Nat.sub_zero,w2,w3,w4]
    simp only[List.length_append,List.length_take,List.length_drop,hrep,lhd,ltl,Bool.and_eq_true,Bool.not_eq_true',decide_eq_true_eq,decide_eq_false_iff_not,Nat.ble_eq,Nat.blt_eq,and_true,true_and,Bool.not_false]
    have hroom:roomFor (i+(lf19 j n x0 y0 full).length+(n-(i+1))) 56=true:=room_msg (by omega)
    rw[lhd] at h0
    rw[ltl] at h2
    and_intros<;>first | omega | exact hroom
  rw[R.Tree.ev_go _ _ hck,l19r4]
  have hlen:(restF leftL x0 y0 (seg full j n)).length=i+(lf19 j n x0 y0 full).length+(n-(i+1)):=by
    rw[hr,List.length_append,List.length_append,lhd,ltl]; omega
  have hrow:restF leftL x0 y0 (seg full j n)=(List.take (0+(0+(hd19 j n x0 y0 full).length)) (List.take 0 (rep19 j n x0 y0 full)++hd19 j n x0 y0 full++List.drop (0+(hd19 j n x0 y0 full).length) (rep19 j n x0 y0 full))++lg19 j n x0 y0 full++List.drop (0+(0+(hd19 j n x0 y0 full).length)+(lg19 j n x0 y0 full).length) (List.take 0 (rep19 j n x0 y0 full)++hd19 j n x0 y0 full++List.drop (0+(hd19 j n x0 y0 full).length) (rep19 j n x0 y0 full))):=by
    rw[hr]
    have z2:tl19 j n x0 y0 full=[]:=List.length_eq_zero_iff.1 h2
    try rw[hlg]
    simp only[Nat.zero_add]
    rw[z2]
    rw[put0]
    rw[put_at]
    rw[drop_all (by simp only[List.length_append,hrep,lhd,ltl]<;>omega)]
    try simp
  rw[hf,← hrow]
  try rw[hlg]
  rw[hz,Nat.sub_zero,hlen]
  rw[show 0+(hd19 j n x0 y0 full).length+(lf19 j n x0 y0 full).length=i+(lf19 j n x0 y0 full).length+(n-(i+1)) by omega]
  rfl
set_option maxHeartbeats 1000000 in
theorem w19r5 {j n c:Nat} (ex:Bool) {x0 y0:Txt}{full:List Msg} (sp:Bool) (el:R.EL) (p1:j+n<=full.length) (p2:n<199) (pc:n<=c) (h:noP x0 y0 (seg full j n)=false) (h0:(hd19 j n x0 y0 full).length=0) (h1:(lf19 j n x0 y0 full).length ≠ 0) (h2:(tl19 j n x0 y0 full).length=0) :
    (T19 j n c ex x0 y0 full sp el).ev=some (R.DV.tup [valM (firstM x0 y0 (seg full j n) zeroM),.rs 1 0 (restF leftL x0 y0 (seg full j n)).length (restF leftL x0 y0 (seg full j n)).length 4 false,.bool true],mkD [DO.r RK.msg full sp el,DO.r RK.msg (restF leftL x0 y0 (seg full j n)) true 31] 1):=by
  obtain⟨i,hi,hix,hpo,hf,hr,hlg,lhd,llf,ltl,hz,hsz,hrep⟩:=parts19 p1 p2 h
  have w1:IntKind.wrap .i64 ((i:Int)+1)=((i+1:Nat):Int):=(wrap_i64 (by omega) (by omega)).trans (by omega)
  have w2:IntKind.wrap .i64 (0+((i:Nat):Int))=((i:Nat):Int):=(wrap_i64 (by omega) (by omega)).trans (by omega)
  have w3:IntKind.wrap .i64 ((i:Int)+((lf19 j n x0 y0 full).length:Int))=((i+(lf19 j n x0 y0 full).length:Nat):Int):=(wrap_i64 (by omega) (by omega)).trans (by omega)
  have w4:IntKind.wrap .i64 (((i+(lf19 j n x0 y0 full).length+(n-(i+1)):Nat):Int)-0)=((i+(lf19 j n x0 y0 full).length+(n-(i+1)):Nat):Int):=(wrap_i64 (by omega) (by omega)).trans (by omega)
  have hok:okG full j n=true:=okG_iff.2 ⟨p1,p2⟩
  have hck:R.Tree.cks p19r5 (T19 j n c ex x0 y0 full sp el)=true:=by
    rw[c19r5,hok,h,hpo,hix,hsz,hz,hlg,Int.toNat_natCast,w1,Int.toNat_natCast,Nat.sub_zero,w2,w3,w4]
    simp only[List.length_append,List.length_take,List.length_drop,hrep,lhd,ltl,Bool.and_eq_true,Bool.not_eq_true',decide_eq_true_eq,decide_eq_false_iff_not,Nat.ble_eq,Nat.blt_eq,and_true,true_and,Bool.not_false]
    have hroom:roomFor (i+(lf19 j n x0 y0 full).length+(n-(i+1))) 56=true:=room_msg (by omega)
    rw[lhd] at h0
    rw[ltl] at h2
    and_intros<;>first | omega | exact hroom
  rw[R.Tree.ev_go _ _ hck,l19r5]
  have hlen:(restF leftL x0 y0 (seg full j n)).length=i+(lf19 j n x0 y0 full).length+(n-(i+1)):=by
    rw[hr,List.length_append,List.length_append,lhd,ltl]; omega
  have hrow:restF leftL x0 y0 (seg full j n)=(List.take 0 (rep19 j n x0 y0 full)++lg19 j n x0 y0 full++List.drop (0+(lg19 j n x0 y0 full).length) (rep19 j n x0 y0 full)):=by
    rw[hr]
    have z0:hd19 j n x0 y0 full=[]:=List.length_eq_zero_iff.1 h0
    have z2:tl19 j n x0 y0 full=[]:=List.length_eq_zero_iff.1 h2
    try rw[hlg]
    simp only[Nat.zero_add]
    rw[z0,z2]
    rw[put0]
    rw[drop_all (by simp only[List.length_append,hrep,lhd,ltl]<;>omega)]
    try simp
  rw[hf,← hrow]
  try rw[hlg]
  rw[hz,Nat.sub_zero,hlen]
  rw[show 0+(lf19 j n x0 y0 full).length=i+(lf19 j n x0 y0 full).length+(n-(i+1)) by omega]
  rfl
set_option maxHeartbeats 1000000 in
theorem w19r6 {j n c:Nat} (ex:Bool) {x0 y0:Txt}{full:List Msg} (sp:Bool) (el:R.EL) (p1:j+n<=full.length) (p2:n<199) (pc:n<=c) (h:noP x0 y0 (seg full j n)=false) (h0:(hd19 j n x0 y0 full).length ≠ 0) (h1:(lf19 j n x0 y0 full).length=0) (h2:(tl19 j n x0 y0 full).length=0) :
    (T19 j n c ex x0 y0 full sp el).ev=some (R.DV.tup [valM (firstM x0 y0 (seg full j n) zeroM),.rs 1 0 (restF leftL x0 y0 (seg full j n)).length (restF leftL x0 y0 (seg full j n)).length 4 false,.bool true],mkD [DO.r RK.msg full sp el,DO.r RK.msg (restF leftL x0 y0 (seg full j n)) true 31] 1):=by
  obtain⟨i,hi,hix,hpo,hf,hr,hlg,lhd,llf,ltl,hz,hsz,hrep⟩:=parts19 p1 p2 h
  have w1:IntKind.wrap .i64 ((i:Int)+1)=((i+1:Nat):Int):=(wrap_i64 (by omega) (by omega)).trans (by omega)
  have w2:IntKind.wrap .i64 (0+((i:Nat):Int))=((i:Nat):Int):=(wrap_i64 (by omega) (by omega)).trans (by omega)
  have w3:IntKind.wrap .i64 ((i:Int)+((lf19 j n x0 y0 full).length:Int))=((i+(lf19 j n x0 y0 full).length:Nat):Int):=(wrap_i64 (by omega) (by omega)).trans (by omega)
  have w4:IntKind.wrap .i64 (((i+(lf19 j n x0 y0 full).length+(n-(i+1)):Nat):Int)-0)=((i+(lf19 j n x0 y0 full).length+(n-(i+1)):Nat):Int):=(wrap_i64 (by omega) (by omega)).trans (by omega)
  have hok:okG full j n=true:=okG_iff.2 ⟨p1,p2⟩
  have hck:R.Tree.cks p19r6 (T19 j n c ex x0 y0 full sp el)=true:=by
    rw[c19r6,hok,h,hpo,hix,hsz,hz,hlg,Int.toNat_natCast,w1,Int.toNat_natCast,Nat.sub_zero,w2,w3,w4]
    simp only[List.length_append,List.length_take,List.length_drop,hrep,lhd,ltl,Bool.and_eq_true,Bool.not_eq_true',decide_eq_true_eq,decide_eq_false_iff_not,Nat.ble_eq,Nat.blt_eq,and_true,true_and,Bool.not_false]
    have hroom:roomFor (i+(lf19 j n x0 y0 full).length+(n-(i+1))) 56=true:=room_msg (by omega)
    rw[lhd] at h0
    rw[ltl] at h2
    and_intros<;>first | omega | exact hroom
  rw[R.Tree.ev_go _ _ hck,l19r6]
  have hlen:(restF leftL x0 y0 (seg full j n)).length=i+(lf19 j n x0 y0 full).length+(n-(i+1)):=by
    rw[hr,List.length_append,List.length_append,lhd,ltl]; omega
  have hrow:restF leftL x0 y0 (seg full j n)=(List.take 0 (rep19 j n x0 y0 full)++hd19 j n x0 y0 full++List.drop (0+(hd19 j n x0 y0 full).length) (rep19 j n x0 y0 full)):=by
    rw[hr]
    have z1:lf19 j n x0 y0 full=[]:=List.length_eq_zero_iff.1 h1
    have z2:tl19 j n x0 y0 full=[]:=List.length_eq_zero_iff.1 h2
    try rw[hlg]
    simp only[Nat.zero_add]
    rw[z1,z2]
    rw[put0]
    rw[drop_all (by simp only[List.length_append,hrep,lhd,ltl]<;>omega)]
    try simp
  rw[hf,← hrow]
  try rw[hlg]
  rw[hz,Nat.sub_zero,hlen]
  rw[show 0+(hd19 j n x0 y0 full).length=i+(lf19 j n x0 y0 full).length+(n-(i+1)) by omega]
  rfl
set_option maxHeartbeats 1000000 in
theorem w19n {j n c:Nat} (ex:Bool) {x0 y0:Txt}{full:List Msg} (sp:Bool) (el:R.EL) (p1:j+n<=full.length) (p2:n<199) (pc:n<=c) (h:noP x0 y0 (seg full j n)=false) (h0:(hd19 j n x0 y0 full).length=0) (h1:(lf19 j n x0 y0 full).length=0) (h2:(tl19 j n x0 y0 full).length=0) :
    (T19 j n c ex x0 y0 full sp el).ev=some (R.DV.tup [valM (firstM x0 y0 (seg full j n) zeroM),.nils,.bool true],mkD [DO.r RK.msg full sp el] 1):=by
  obtain⟨i,hi,hix,hpo,hf,hr,hlg,lhd,llf,ltl,hz,hsz,hrep⟩:=parts19 p1 p2 h
  have w1:IntKind.wrap .i64 ((i:Int)+1)=((i+1:Nat):Int):=(wrap_i64 (by omega) (by omega)).trans (by omega)
  have w2:IntKind.wrap .i64 (0+((i:Nat):Int))=((i:Nat):Int):=(wrap_i64 (by omega) (by omega)).trans (by omega)
  have w3:IntKind.wrap .i64 ((i:Int)+((lf19 j n x0 y0 full).length:Int))=((i+(lf19 j n x0 y0 full).length:Nat):Int):=(wrap_i64 (by omega) (by omega)).trans (by omega)
  have w4:IntKind.wrap .i64 (((i+(lf19 j n x0 y0 full).length+(n-(i+1)):Nat):Int)-0)=((i+(lf19 j n x0 y0 full).length+(n-(i+1)):Nat):Int):=(wrap_i64 (by omega) (by omega)).trans (by omega)
  have hok:okG full j n=true:=okG_iff.2 ⟨p1,p2⟩
  have hck:R.Tree.cks p19n (T19 j n c ex x0 y0 full sp el)=true:=by
    rw[c19n,hok,h,hpo,hix,hsz,hlg,Int.toNat_natCast,w1,Int.toNat_natCast,Nat.sub_zero,w2,w3,w4]
    simp only[List.length_append,List.length_take,List.length_drop,hrep,lhd,ltl,Bool.and_eq_true,Bool.not_eq_true',decide_eq_true_eq,decide_eq_false_iff_not,Nat.ble_eq,Nat.blt_eq,and_true,true_and,Bool.not_false]
    have hroom:roomFor (i+(lf19 j n x0 y0 full).length+(n-(i+1))) 56=true:=room_msg (by omega)
    rw[lhd] at h0
    rw[ltl] at h2
    and_intros<;>first | omega | exact hroom
  rw[R.Tree.ev_go _ _ hck,l19n]
  rw[hf]; rfl
end
end Go.Vm.YtkjjpmbpjfmbcaaGreatDoor

namespace Go.Vm.R
theorem law_need {G:Gl}{O:Nat->List V->H->Res}{tab:Nat->Option CFn}{f T:Nat}{ao:List DO}{l:List DV}{b:Bool}{t:RD} (h:b=true->LawOk G O tab f T ao l t):LawOk G O tab f T ao l (.need b t):=by
  intro n hn kk L h' R wf g hw z hz
  obtain⟨hb,hz⟩:=ev_need hz
  exact h hb n hn kk L h' R wf g hw z hz
theorem law_br {G:Gl}{O:Nat->List V->H->Res}{tab:Nat->Option CFn}{f T:Nat}{ao:List DO}{l:List DV}{b:Bool}{t u:RD} (h1:b=true->LawOk G O tab f T ao l t) (h2:b=false->LawOk G O tab f T ao l u):LawOk G O tab f T ao l (.br b t u):=by
  intro n hn kk L h' R wf g hw z hz
  cases b with
  |true=>exact h1 rfl n hn kk L h' R wf g hw z hz
  |false=>exact h2 rfl n hn kk L h' R wf g hw z hz
theorem law_trim {G:Gl}{O:Nat->List V->H->Res}{tab:Nat->Option CFn}{f T:Nat}{ao:List DO}{l:List DV}{b:Bool}{t:RD} (h:LawOk G O tab f T ao l (.need b t)) (hb:b=true):LawOk G O tab f T ao l t:=by
  intro n hn kk L h' R wf g hw z hz
  exact h n hn kk L h' R wf g hw z (by subst hb; exact hz)
end Go.Vm.R
namespace Go.Vm.YtkjjpmbpjfmbcaaGreatDoor
open Go.Proofs Go.Vm.R
noncomputable section
theorem law19b (j n c:Nat) (ex:Bool) (x0 y0:Txt) (full:List Msg) (sp:Bool) (el:R.EL) (p1:j+n<=full.length) (p2:n<199) (p3:n<=c) (p0:n ≠ 0) :
    LawOk C.G C.O C.tab 19 221 [.r .msg full sp el] [.rs 0 j n c 4 ex,.str x0,.str y0] (.need true (.br (Nat.beq (restF leftL x0 y0 (seg full j n)).length 0) (.v (.tup [valM (firstM x0 y0 (seg full j n) zeroM),.nils,.bool (!noP x0 y0 (seg full j n))]) [])
      (.v (.tup [valM (firstM x0 y0 (seg full j n) zeroM),.rs 1 0 (restF leftL x0 y0 (seg full j n)).length (restF leftL x0 y0 (seg full j n)).length 4 false,.bool (!noP x0 y0 (seg full j n))]) [.r .msg (restF leftL x0 y0 (seg full j n)) true 31]))):=by
  refine law_of C Y3 (fun _=>none) rfl rfl (fun n hn p _ ld e=>by cases e) fun z hz=>?_
  refine Eq.trans ?_ hz
  show (T19 j n c ex x0 y0 full sp el).ev=(R.Tree.br (Nat.beq (restF leftL x0 y0 (seg full j n)).length 0) (.ok (R.DV.tup [valM (firstM x0 y0 (seg full j n) zeroM),.nils,.bool (!noP x0 y0 (seg full j n))]) (mkD [DO.r .msg full sp el] 1))
    (.ok (R.DV.tup [valM (firstM x0 y0 (seg full j n) zeroM),.rs 1 0 (restF leftL x0 y0 (seg full j n)).length (restF leftL x0 y0 (seg full j n)).length 4 false,.bool (!noP x0 y0 (seg full j n))]) (mkD [DO.r .msg full sp el,DO.r .msg (restF leftL x0 y0 (seg full j n)) true 31] 1))).ev
  have hl:=seg_len p1
  have hok:okG full j n=true:=okG_iff.2 ⟨p1,p2⟩
  cases h:noP x0 y0 (seg full j n) with
  |true =>
    obtain⟨e1,e2⟩:=no_first leftL (seg full j n) zeroM h
    rw[e1,e2,hl]
    have hb:Nat.beq n 0=false:=by cases n with | zero=>exact absurd rfl p0 | succ m=>rfl
    rw[hb]
    have hck:R.Tree.cks p19k (T19 j n c ex x0 y0 full sp el)=true:=by
      rw[c19k,hok,h,hb]; rfl
    rw[R.Tree.ev_go _ _ hck,l19k]; rfl
  |false =>
    obtain⟨i,hi,hix,hpo,hf,hr,hlg,lhd,llf,ltl,hz,hsz,hrep⟩:=parts19 p1 p2 h
    have hlen:(restF leftL x0 y0 (seg full j n)).length=(hd19 j n x0 y0 full).length+((lf19 j n x0 y0 full).length+(tl19 j n x0 y0 full).length):=by
      rw[hr,List.length_append,List.length_append]
    cases hb:Nat.beq (restF leftL x0 y0 (seg full j n)).length 0 with
    |true =>
      have hb:=Nat.eq_of_beq_eq_true hb
      exact w19n ex sp el p1 p2 p3 h (by omega) (by omega) (by omega)
    |false =>
      have hb:(restF leftL x0 y0 (seg full j n)).length ≠ 0:=fun e=>by rw[e] at hb; cases hb
      by_cases h0:(hd19 j n x0 y0 full).length=0<;>by_cases h1:(lf19 j n x0 y0 full).length=0<;>by_cases h2:(tl19 j n x0 y0 full).length=0
      . omega
      . exact w19r3 ex sp el p1 p2 p3 h h0 h1 h2
      . exact w19r5 ex sp el p1 p2 p3 h h0 h1 h2
      . exact w19r1 ex sp el p1 p2 p3 h h0 h1 h2
      . exact w19r6 ex sp el p1 p2 p3 h h0 h1 h2
      . exact w19r2 ex sp el p1 p2 p3 h h0 h1 h2
      . exact w19r4 ex sp el p1 p2 p3 h h0 h1 h2
      . exact w19r0 ex sp el p1 p2 p3 h h0 h1 h2
def outF (x y:Txt) (l:List Msg):RD:=.v (.tup [valM (firstM x y l zeroM),.ns 1 (restF leftL x y l).length 4,.bool (!noP x y l)]) [.rn .msg (restF leftL x y l) 31]
theorem law19s (j n c:Nat) (ex:Bool) (x0 y0:Txt) (full:List Msg) (sp:Bool) (el:R.EL) (p1:j+n<=full.length) (p2:n<199) (p3:n<=c) (p0:n ≠ 0) :
    LawOk C.G C.O C.tab 19 221 [.r .msg full sp el] [.rs 0 j n c 4 ex,.str x0,.str y0] (.need true (outF x0 y0 (seg full j n))) :=
  law_sn3 (k:=.msg) (r:=restF leftL x0 y0 (seg full j n)) (el:=31) (fun o ho L L'=>by
    rw[List.mem_singleton] at ho
    subst ho; rfl) (fun _ _=>rfl) (fun _ _=>rfl) (law19b j n c ex x0 y0 full sp el p1 p2 p3 p0)
theorem law19z (j c:Nat) (ex:Bool) (x0 y0:Txt) (full:List Msg) (sp:Bool) (el:R.EL) (p1:j<=full.length) :
    LawOk C.G C.O C.tab 19 221 [.r .msg full sp el] [.rs 0 j 0 c 4 ex,.str x0,.str y0] (.v (.tup [valM zeroM,.rs 1 0 0 0 4 true,.bool false]) [.r .msg [] false 31]):=by
  refine law_of C Y3 (fun _=>none) rfl rfl (fun n hn p _ ld e=>by cases e) fun z hz=>?_
  refine Eq.trans ?_ hz
  show (T19 j 0 c ex x0 y0 full sp el).ev=_
  have hok:okG full j 0=true:=okG_iff.2 ⟨p1,by omega⟩
  have h:noP x0 y0 (seg full j 0)=true:=rfl
  have hck:R.Tree.cks p19z (T19 j 0 c ex x0 y0 full sp el)=true:=by
    rw[c19z,hok,h]; rfl
  rw[R.Tree.ev_go _ _ hck,l19z]; rfl
theorem law19n (x0 y0:Txt):LawOk C.G C.O C.tab 19 221 [] [.nils,.str x0,.str y0] (.v (.tup [valM zeroM,.nils,.bool false]) []):=by
  refine law_of C Y3 (fun _=>none) rfl rfl (fun n hn p _ ld e=>by cases e) fun z hz=>?_
  refine Eq.trans ?_ hz
  kernel_rfl
def outH19 (full:List Msg) (j n c:Nat) (x y:Txt):RD:=.need (ok19 full j n c) (.br (Nat.beq n 0) (.v (.tup [valM zeroM,.rs 1 0 0 0 4 true,.bool false]) [.r .msg [] false 31]) (outF x y (seg full j n)))
theorem lawH19 (j n c:Nat) (ex:Bool) (x0 y0:Txt) (full:List Msg) (sp:Bool) (el:R.EL):LawOk C.G C.O C.tab 19 221 [.r .msg full sp el] [.rs 0 j n c 4 ex,.str x0,.str y0] (outH19 full j n c x0 y0):=by
  refine law_need fun hp=>law_br (fun h=>?_) (fun h=>?_)
  all_goals
    simp only[ok19,decide_eq_true_eq] at hp
    obtain⟨p1,p2,p3⟩:=hp
  . have h:=Nat.eq_of_beq_eq_true h
    subst h
    exact law19z j c ex x0 y0 full sp el p1
  . exact law_trim (law19s j n c ex x0 y0 full sp el p1 p2 p3 (fun e=>by rw[e] at h; cases h)) rfl
theorem law19o (x0 y0:Txt) (b:List Msg) (hb:b.length<199):LawOk C.G C.O C.tab 19 221 [.rn .msg b 31] [.ns 0 b.length 4,.str x0,.str y0] (.need true (outF x0 y0 b)):=by
  refine law_as3 (k:=.msg) (k':=.msg) (r:=b) (r':=restF leftL x0 y0 b) (el:=31) (el':=31) (fun _ _=>rfl) (fun _ _=>rfl) (fun _ _=>rfl) (fun h0=>?_) (fun h0=>?_)
  . have:=law19s 0 b.length b.length false x0 y0 b true 31 (by omega) hb (Nat.le_refl _) h0
    rw[show seg b 0 b.length=b by unfold seg; rw[List.drop_zero,List.take_length]] at this
    exact this
  . have e:b=[]:=List.length_eq_zero_iff.1 h0
    subst e
    exact⟨rfl,law_need fun _=>law19n x0 y0⟩
def gH19:List R.DV->List R.DO->Option RD:=fun l ao=>match l,ao with
  |[.rs 0 j n c 4 ex,.str x,.str y],[.r .msg full sp el]=>some (outH19 full j n c x y)
  |[.ns 0 n 4,.str x,.str y],[.rn .msg b 31]=>some (.need (Nat.beq n b.length&&Nat.blt n 199) (outF x y b))
  |[.nils,.str x,.str y],[]=>some (.v (.tup [valM zeroM,.nils,.bool false]) [])
  |_,_=>none
theorem gH19_ok (l:List R.DV) (ao:List R.DO) (out:RD) (h:gH19 l ao=some out):LawOk C.G C.O C.tab 19 221 ao l out:=by
  unfold gH19 at h
  split at h
  . cases h; exact lawH19 _ _ _ _ _ _ _ _ _
  . cases h
    refine law_need fun hp=>?_
    simp only[Bool.and_eq_true] at hp
    obtain⟨h1,h2⟩:=hp
    have h1:=Nat.eq_of_beq_eq_true h1
    subst h1
    have h2:=Nat.le_of_ble_eq_true h2
    exact law_trim (law19o _ _ _ h2) rfl
  . cases h; exact law19n _ _
  . cases h
end
end Go.Vm.YtkjjpmbpjfmbcaaGreatDoor

namespace Go.Vm.R
end Go.Vm.R
namespace Go.Vm.YtkjjpmbpjfmbcaaGreatDoor
open Go.Proofs Go.Vm.R
noncomputable section
def gH17:List R.DV->List R.DO->Option RD:=fun l ao=>match l,ao with
  |[.rs 0 j n c 4 ex,.str x,.str y],[.r .msg full sp el]=>some (outP17 full j n x y)
  |[.nils,.str x,.str y],[]=>some (.v (.tup [.nils,.nils]) [])
  |_,_=>none
theorem gH17_ok (l:List R.DV) (ao:List R.DO) (out:RD) (h:gH17 l ao=some out):LawOk C.G C.O C.tab 17 211 ao l out:=by
  unfold gH17 at h
  split at h
  . cases h; exact law17 _ _ _ _ _ _ _ _ _
  . cases h; exact law17n _ _
  . cases h
end
end Go.Vm.YtkjjpmbpjfmbcaaGreatDoor

namespace Go.Vm.YtkjjpmbpjfmbcaaGreatDoor
open Go.Proofs Go.Vm.R
noncomputable section
def b68:CC:=match loopsIn none c68.body with | [(_,b)]=>b | _=>.skip
def PTa (n:Nat) (a:List Msg) (n1:Nat) (b:List Msg) (z:Int):Bool:=decide (n1=n/\n<=a.length/\n1<=b.length/\n<399/\0<=z/\z<=n)
def STa (n:Nat) (a:List Msg) (n1:Nat) (b:List Msg) (z:Int):Bool:=sameL ((a.take n).drop z.toNat) ((b.take n1).drop z.toNat)
def ltTa (n n1:Nat) (z:Int) (a b:List Msg):LT:=.need (PTa n a n1 b z) (.br (STa n a n1 b z) (.exit 0 [] [.rn .msg a 31,.rn .msg b 31]) (.ret [.bool false] [.rn .msg a 31,.rn .msg b 31]))
def ldTa:LoopD:=⟨[(0,none),(1,none),(12,none),(13,none)],[],[(4,none)],fun vs ao=>match vs,ao with
  |[.ns 0 n 4,.ns 1 n1 4,.int .i64 n',.int .i64 z],[.rn .msg a 31,.rn .msg b 31]=>some (n-z.toNat,.need (decide (n'=(n:Int))) (ltTa n n1 z a b))
  |_,_=>none⟩
theorem turnTa (n n1:Nat) (n' z:Int) (a b:List Msg) (m:Nat) (rd k1:R.EK) (y:List (Nat×R.EK)) :
    (turnD C Y0 (fun _=>none) 400 26 2 0 b68 ldTa m [.ns 0 n 4,.ns 1 n1 4,.int .i64 n',.int .i64 z] [.rn .msg a 31,.rn .msg b 31] rd k1 y).ev =
    cond (decide (z<n')) (cond (Nat.ble n a.length) (cond (decide (0<=z)&&decide (Int.toNat z<n)) (cond (Nat.blt z.toNat a.length) (cond (Nat.ble n1 b.length) (cond (decide (0<=z)&&decide (Int.toNat z<n1)) (cond (Nat.blt z.toNat b.length) (cond ((decide (Prod.fst (List.getD a z.toNat ((0,[],[],[]):Msg))=Prod.fst (List.getD b z.toNat ((0,[],[],[]):Msg)))&&(decide (Prod.fst (Prod.snd (List.getD a z.toNat ((0,[],[],[]):Msg)))=Prod.fst (Prod.snd (List.getD b z.toNat ((0,[],[],[]):Msg))))&&(decide (Prod.fst (Prod.snd (Prod.snd (List.getD a z.toNat ((0,[],[],[]):Msg))))=Prod.fst (Prod.snd (Prod.snd (List.getD b z.toNat ((0,[],[],[]):Msg)))))&&(decide (Prod.snd (Prod.snd (Prod.snd (List.getD a z.toNat ((0,[],[],[]):Msg))))=Prod.snd (Prod.snd (Prod.snd (List.getD b z.toNat ((0,[],[],[]):Msg)))))&&true)))) != true) ((rd (envZ [4] [R.DV.bool false]) (mkD [DO.rn RK.msg a 31,DO.rn RK.msg b 31] 2)).ev) (cond (decide (n-Int.toNat (IntKind.wrap .i64 (z+1))<m)) (cond (decide (n'=(↑n:Int))) (cond (PTa n a n1 b (IntKind.wrap .i64 (z+1))) (cond (STa n a n1 b (IntKind.wrap .i64 (z+1))) ((k1 (envZ [] []) (mkD [DO.rn RK.msg a 31,DO.rn RK.msg b 31] 2)).ev) ((rd (envZ [4] [R.DV.bool false]) (mkD [DO.rn RK.msg a 31,DO.rn RK.msg b 31] 2)).ev)) none) none) none)) none) none) none) none) none) none) ((k1 (envZ [] []) (mkD [DO.rn RK.msg a 31,DO.rn RK.msg b 31] 2)).ev):=by kernel_rfl
theorem stepTa (n n1:Nat) (z:Int) (a b:List Msg) (rd k1:R.EK) (y:List (Nat×R.EK)) (w:R.DV×R.DH) (hw:((ltTa n n1 z a b).tree 2 ldTa rd ((0,k1)::y)).ev=some w) :
    (turnD C Y0 (fun _=>none) 400 26 2 0 b68 ldTa (n-z.toNat) [.ns 0 n 4,.ns 1 n1 4,.int .i64 (n:Int),.int .i64 z] [.rn .msg a 31,.rn .msg b 31] rd k1 y).ev=some w:=by
  replace hw:=lt_need hw
  obtain⟨hp,hw⟩:=hw
  simp only[PTa,decide_eq_true_eq] at hp
  obtain⟨rfl,p1,p2,p3,p4,p5⟩:=hp
  rw[lt_br] at hw
  replace hw:cond (STa n1 a n1 b z) (k1 (envZ [] []) (mkD [.rn .msg a 31,.rn .msg b 31] 2)).ev (rd (envZ [4] [R.DV.bool false]) (mkD [.rn .msg a 31,.rn .msg b 31] 2)).ev=some w:=hw
  rw[turnTa]
  by_cases h1:z<n1
  . have cz:(decide (0<=z)&&decide (z.toNat<n1))=true:=by rw[decide_eq_true p4,decide_eq_true (show z.toNat<n1 by omega)]; rfl
    have cz1:Nat.blt z.toNat a.length=true:=by
      have:z.toNat<a.length:=by omega
      simpa using this
    have cn1:Nat.ble n1 a.length=true:=Nat.ble_eq_true_of_le p1
    have cz2:Nat.blt z.toNat b.length=true:=by
      have:z.toNat<b.length:=by omega
      simpa using this
    have cn2:Nat.ble n1 b.length=true:=Nat.ble_eq_true_of_le p2
    have hm:decide (n1-(z+1).toNat<n1-z.toNat)=true:=decide_eq_true (by omega)
    have hP:PTa n1 a n1 b (z+1)=true:=by
      simp only[PTa,decide_eq_true_eq]
      refine⟨trivial,p1,p2,p3,?_,?_⟩<;>omega
    have e5:STa n1 a n1 b z=(sameE (recA a z) (recA b z)&&STa n1 a n1 b (z+1)):=by
      unfold STa
      rw[take_rec p1 p4 h1,take_rec p2 p4 h1,same_cons]
    rw[e5] at hw
    rw[cT h1,nextI p4 h1 (by omega)]
    simp only[cz,cz1,cz2,cn1,cn2,hm,hP,cond_true]
    revert hw
    show _->cond (sameE (recA a z) (recA b z) != true) _ _=_
    cases sameE (recA a z) (recA b z)<;>exact id
  . have cn1:Nat.ble n1 a.length=true:=Nat.ble_eq_true_of_le p1
    rw[cn1,cF h1]
    have e5:STa n1 a n1 b z=true:=by
      unfold STa
      rw[take_end p1 h1 p4,take_end p2 h1 p4]; rfl
    rw[e5] at hw
    exact hw
theorem loopTa {n:Nat} (hn:400<=n):LoopOk C.G 2 (callO noTmps C.O C.tab n) n 400 26 0 b68 ldTa:=by
  refine loop_of C Y0 (lh:=fun _=>none) hn ?_ (fun p _ ld h=>by cases h) ?_
  . exact wf_loops _ none (wf_body (f:=68) rfl) (0,b68) (by rw[show loopsIn none c68.body=[(0,b68)] from rfl]; exact List.mem_cons_self)
  intro vs ao m t hs rd k1 y w hw
  unfold ldTa at hs
  simp only at hs
  split at hs
  case h_2=>cases hs
  cases hs
  have h1:=lt_need hw
  have e:=of_decide_eq_true h1.1
  subst e
  exact stepTa _ _ _ _ _ _ _ _ _ h1.2
def okTa (n:Nat) (a:List Msg) (n1:Nat) (b:List Msg):Bool:=decide (n<=a.length/\n1<=b.length/\n<399)
def outTa (n:Nat) (a:List Msg) (n1:Nat) (b:List Msg):RD:=.need (okTa n a n1 b) (.v (.bool (sameL (a.take n) (b.take n1))) [])
theorem runTa (n n1:Nat) (a b:List Msg):runD C Y0 (lhX ldTa) 400 c68 [.ns 0 n 4,.ns 1 n1 4] [.rn .msg a 31,.rn .msg b 31] =
    cond (Nat.ble n a.length) (cond (Nat.ble n1 b.length) (cond (!decide ((↑n:Int)=(↑n1:Int))) (some (R.DV.bool false,(mkD [DO.rn RK.msg a 31,DO.rn RK.msg b 31] 2))) (cond (Nat.ble n a.length) (cond (decide (n-0<400)) (cond (decide ((↑n:Int)=(↑n:Int))) (cond (PTa n a n1 b 0) (cond (STa n a n1 b 0) (some (R.DV.bool true,(mkD [DO.rn RK.msg a 31,DO.rn RK.msg b 31] 2))) (some (R.DV.bool false,(mkD [DO.rn RK.msg a 31,DO.rn RK.msg b 31] 2)))) none) none) none) none)) none) none:=by kernel_rfl
theorem lawTa (n n1:Nat) (a b:List Msg):LawOk C.G C.O C.tab 68 401 [.rn .msg a 31,.rn .msg b 31] [.ns 0 n 4,.ns 1 n1 4] (outTa n a n1 b):=by
  refine law_of C Y0 (lhX ldTa) rfl rfl (fun n hn=>lhX_ok (Q:=fun i b ld=>LoopOk C.G 2 (callO noTmps C.O C.tab n) n 400 26 i b ld) rfl (loopTa hn)) fun z hz=>?_
  obtain⟨hp,hz⟩:=R.ev_need hz
  refine (runTa n n1 a b).trans ?_
  simp only[okTa,decide_eq_true_eq] at hp
  obtain⟨p1,p2,p3⟩:=hp
  have cn2:Nat.ble n1 b.length=true:=Nat.ble_eq_true_of_le p2
  have cn1:Nat.ble n a.length=true:=Nat.ble_eq_true_of_le p1
  refine Eq.trans ?_ hz
  show _=some (R.DV.bool (sameL (a.take n) (b.take n1)),mkD [.rn .msg a 31,.rn .msg b 31] 2)
  rw[cn1,cn2]
  by_cases h:n=n1
  . subst h
    have e4:PTa n a n b 0=true:=by
      simp only[PTa,decide_eq_true_eq]
      refine⟨trivial,p1,p2,p3,?_,?_⟩<;>omega
    rw[show (!decide ((n:Int)=(n:Int)))=false by simp,cT (show n-0<400 by omega),show decide ((n:Int)=(n:Int))=true by simp,e4]
    have e5:STa n a n b 0=sameL (a.take n) (b.take n):=rfl
    rw[e5]
    cases sameL (a.take n) (b.take n)<;>rfl
  . have e5:sameL (a.take n) (b.take n1)=false:=by
      unfold sameL
      rw[decide_eq_false_iff_not]
      intro he
      have:=congrArg List.length he
      rw[show (a.take n).length=n from by rw[List.length_take,Nat.min_eq_left p1],List.length_take,Nat.min_eq_left p2] at this
      exact h this
    rw[show (!decide ((n:Int)=(n1:Int)))=true by simp; omega,e5]; rfl
def PTb (j n:Nat) (full:List Msg) (n1:Nat) (b:List Msg) (z:Int):Bool:=decide (n1=n/\j+n<=full.length/\n1<=b.length/\n<399/\0<=z/\z<=n)
def STb (j n:Nat) (full:List Msg) (n1:Nat) (b:List Msg) (z:Int):Bool:=sameL ((seg full j n).drop z.toNat) ((b.take n1).drop z.toNat)
def ltTb (j n c:Nat) (ex:Bool) (n1:Nat) (z:Int) (full b:List Msg) (sp:Bool) (el:R.EL):LT:=.need (PTb j n full n1 b z) (.br (STb j n full n1 b z) (.exit 0 [] [.r .msg full sp el,.rn .msg b 31]) (.ret [.bool false] [.r .msg full sp el,.rn .msg b 31]))
def ldTb:LoopD:=⟨[(0,none),(1,none),(12,none),(13,none)],[],[(4,none)],fun vs ao=>match vs,ao with
  |[.rs 0 j n c 4 ex,.ns 1 n1 4,.int .i64 n',.int .i64 z],[.r .msg full sp el,.rn .msg b 31]=>some (n-z.toNat,.need (decide (n'=(n:Int))) (ltTb j n c ex n1 z full b sp el))
  |_,_=>none⟩
theorem turnTb (j n c:Nat) (ex:Bool) (n1:Nat) (n' z:Int) (full b:List Msg) (sp:Bool) (el:R.EL) (m:Nat) (rd k1:R.EK) (y:List (Nat×R.EK)) :
    (turnD C Y0 (fun _=>none) 400 26 2 0 b68 ldTb m [.rs 0 j n c 4 ex,.ns 1 n1 4,.int .i64 n',.int .i64 z] [.r .msg full sp el,.rn .msg b 31] rd k1 y).ev =
    cond (decide (z<n')) (cond (decide (0<=z)&&decide (Int.toNat z<n)) (cond (Nat.blt (j+Int.toNat z) full.length) (cond (Nat.ble n1 b.length) (cond (decide (0<=z)&&decide (Int.toNat z<n1)) (cond (Nat.blt z.toNat b.length) (cond ((decide (Prod.fst (List.getD full (j+Int.toNat z) ((0,[],[],[]):Msg))=Prod.fst (List.getD b z.toNat ((0,[],[],[]):Msg)))&&(decide (Prod.fst (Prod.snd (List.getD full (j+Int.toNat z) ((0,[],[],[]):Msg)))=Prod.fst (Prod.snd (List.getD b z.toNat ((0,[],[],[]):Msg))))&&(decide (Prod.fst (Prod.snd (Prod.snd (List.getD full (j+Int.toNat z) ((0,[],[],[]):Msg))))=Prod.fst (Prod.snd (Prod.snd (List.getD b z.toNat ((0,[],[],[]):Msg)))))&&(decide (Prod.snd (Prod.snd (Prod.snd (List.getD full (j+Int.toNat z) ((0,[],[],[]):Msg))))=Prod.snd (Prod.snd (Prod.snd (List.getD b z.toNat ((0,[],[],[]):Msg)))))&&true)))) != true) ((rd (envZ [4] [R.DV.bool false]) (mkD [DO.r RK.msg full sp el,DO.rn RK.msg b 31] 2)).ev) (cond (decide (n-Int.toNat (IntKind.wrap .i64 (z+1))<m)) (cond (decide (n'=(↑n:Int))) (cond (PTb j n full n1 b (IntKind.wrap .i64 (z+1))) (cond (STb j n full n1 b (IntKind.wrap .i64 (z+1))) ((k1 (envZ [] []) (mkD [DO.r RK.msg full sp el,DO.rn RK.msg b 31] 2)).ev) ((rd (envZ [4] [R.DV.bool false]) (mkD [DO.r RK.msg full sp el,DO.rn RK.msg b 31] 2)).ev)) none) none) none)) none) none) none) none) none) ((k1 (envZ [] []) (mkD [DO.r RK.msg full sp el,DO.rn RK.msg b 31] 2)).ev):=by kernel_rfl
theorem stepTb (j n c:Nat) (ex:Bool) (n1:Nat) (z:Int) (full b:List Msg) (sp:Bool) (el:R.EL) (rd k1:R.EK) (y:List (Nat×R.EK)) (w:R.DV×R.DH) (hw:((ltTb j n c ex n1 z full b sp el).tree 2 ldTb rd ((0,k1)::y)).ev=some w) :
    (turnD C Y0 (fun _=>none) 400 26 2 0 b68 ldTb (n-z.toNat) [.rs 0 j n c 4 ex,.ns 1 n1 4,.int .i64 (n:Int),.int .i64 z] [.r .msg full sp el,.rn .msg b 31] rd k1 y).ev=some w:=by
  replace hw:=lt_need hw
  obtain⟨hp,hw⟩:=hw
  simp only[PTb,decide_eq_true_eq] at hp
  obtain⟨rfl,p1,p2,p3,p4,p5⟩:=hp
  rw[lt_br] at hw
  replace hw:cond (STb j n1 full n1 b z) (k1 (envZ [] []) (mkD [.r .msg full sp el,.rn .msg b 31] 2)).ev (rd (envZ [4] [R.DV.bool false]) (mkD [.r .msg full sp el,.rn .msg b 31] 2)).ev=some w:=hw
  rw[turnTb]
  by_cases h1:z<n1
  . have cz:(decide (0<=z)&&decide (z.toNat<n1))=true:=by rw[decide_eq_true p4,decide_eq_true (show z.toNat<n1 by omega)]; rfl
    have cz1:Nat.blt (j+z.toNat) full.length=true:=by
      have:j+z.toNat<full.length:=by omega
      simpa using this
    have cz2:Nat.blt z.toNat b.length=true:=by
      have:z.toNat<b.length:=by omega
      simpa using this
    have cn2:Nat.ble n1 b.length=true:=Nat.ble_eq_true_of_le p2
    have hm:decide (n1-(z+1).toNat<n1-z.toNat)=true:=decide_eq_true (by omega)
    have hP:PTb j n1 full n1 b (z+1)=true:=by
      simp only[PTb,decide_eq_true_eq]
      refine⟨trivial,p1,p2,p3,?_,?_⟩<;>omega
    have e5:STb j n1 full n1 b z=(sameE (rec full j z) (recA b z)&&STb j n1 full n1 b (z+1)):=by
      unfold STb
      rw[seg_rec p1 p4 h1,take_rec p2 p4 h1,same_cons]
    rw[e5] at hw
    rw[cT h1,nextI p4 h1 (by omega)]
    simp only[cz,cz1,cz2,cn2,hm,hP,cond_true]
    revert hw
    show _->cond (sameE (rec full j z) (recA b z) != true) _ _=_
    cases sameE (rec full j z) (recA b z)<;>exact id
  . skip
    rw[cF h1]
    have e5:STb j n1 full n1 b z=true:=by
      unfold STb
      rw[seg_end p1 h1 p4,take_end p2 h1 p4]; rfl
    rw[e5] at hw
    exact hw
theorem loopTb {n:Nat} (hn:400<=n):LoopOk C.G 2 (callO noTmps C.O C.tab n) n 400 26 0 b68 ldTb:=by
  refine loop_of C Y0 (lh:=fun _=>none) hn ?_ (fun p _ ld h=>by cases h) ?_
  . exact wf_loops _ none (wf_body (f:=68) rfl) (0,b68) (by rw[show loopsIn none c68.body=[(0,b68)] from rfl]; exact List.mem_cons_self)
  intro vs ao m t hs rd k1 y w hw
  unfold ldTb at hs
  simp only at hs
  split at hs
  case h_2=>cases hs
  cases hs
  have h1:=lt_need hw
  have e:=of_decide_eq_true h1.1
  subst e
  exact stepTb _ _ _ _ _ _ _ _ _ _ _ _ _ _ h1.2
def okTb (j n:Nat) (full:List Msg) (n1:Nat) (b:List Msg):Bool:=decide (j+n<=full.length/\n1<=b.length/\n<399)
def outTb (j n:Nat) (full:List Msg) (n1:Nat) (b:List Msg):RD:=.need (okTb j n full n1 b) (.v (.bool (sameL (seg full j n) (b.take n1))) [])
theorem runTb (j n c:Nat) (ex:Bool) (n1:Nat) (full b:List Msg) (sp:Bool) (el:R.EL):runD C Y0 (lhX ldTb) 400 c68 [.rs 0 j n c 4 ex,.ns 1 n1 4] [.r .msg full sp el,.rn .msg b 31] =
    cond (Nat.ble n1 b.length) (cond (!decide ((↑n:Int)=(↑n1:Int))) (some (R.DV.bool false,(mkD [DO.r RK.msg full sp el,DO.rn RK.msg b 31] 2))) (cond (decide (n-0<400)) (cond (decide ((↑n:Int)=(↑n:Int))) (cond (PTb j n full n1 b 0) (cond (STb j n full n1 b 0) (some (R.DV.bool true,(mkD [DO.r RK.msg full sp el,DO.rn RK.msg b 31] 2))) (some (R.DV.bool false,(mkD [DO.r RK.msg full sp el,DO.rn RK.msg b 31] 2)))) none) none) none)) none:=by kernel_rfl
theorem lawTb (j n c:Nat) (ex:Bool) (n1:Nat) (full b:List Msg) (sp:Bool) (el:R.EL):LawOk C.G C.O C.tab 68 401 [.r .msg full sp el,.rn .msg b 31] [.rs 0 j n c 4 ex,.ns 1 n1 4] (outTb j n full n1 b):=by
  refine law_of C Y0 (lhX ldTb) rfl rfl (fun n hn=>lhX_ok (Q:=fun i b ld=>LoopOk C.G 2 (callO noTmps C.O C.tab n) n 400 26 i b ld) rfl (loopTb hn)) fun z hz=>?_
  obtain⟨hp,hz⟩:=R.ev_need hz
  refine (runTb j n c ex n1 full b sp el).trans ?_
  simp only[okTb,decide_eq_true_eq] at hp
  obtain⟨p1,p2,p3⟩:=hp
  have cn2:Nat.ble n1 b.length=true:=Nat.ble_eq_true_of_le p2
  skip
  refine Eq.trans ?_ hz
  show _=some (R.DV.bool (sameL (seg full j n) (b.take n1)),mkD [.r .msg full sp el,.rn .msg b 31] 2)
  rw[cn2]
  by_cases h:n=n1
  . subst h
    have e4:PTb j n full n b 0=true:=by
      simp only[PTb,decide_eq_true_eq]
      refine⟨trivial,p1,p2,p3,?_,?_⟩<;>omega
    rw[show (!decide ((n:Int)=(n:Int)))=false by simp,cT (show n-0<400 by omega),show decide ((n:Int)=(n:Int))=true by simp,e4]
    have e5:STb j n full n b 0=sameL (seg full j n) (b.take n):=rfl
    rw[e5]
    cases sameL (seg full j n) (b.take n)<;>rfl
  . have e5:sameL (seg full j n) (b.take n1)=false:=by
      unfold sameL
      rw[decide_eq_false_iff_not]
      intro he
      have:=congrArg List.length he
      rw[show (seg full j n).length=n from seg_len p1,List.length_take,Nat.min_eq_left p2] at this
      exact h this
    rw[show (!decide ((n:Int)=(n1:Int)))=true by simp; omega,e5]; rfl
theorem lawTn:LawOk C.G C.O C.tab 68 401 [] [.nils,.nils] (.v (.bool true) []):=by
  refine law_of C Y0 (fun _=>none) rfl rfl (fun n hn p _ ld e=>by cases e) fun z hz=>?_
  refine Eq.trans ?_ hz
  kernel_rfl
def gE68:List R.DV->List R.DO->Option RD:=fun l ao=>match l,ao with
  |[.ns 0 n 4,.ns 1 n1 4],[.rn .msg a 31,.rn .msg b 31]=>some (outTa n a n1 b)
  |[.rs 0 j n c 4 ex,.ns 1 n1 4],[.r .msg full sp el,.rn .msg b 31]=>some (outTb j n full n1 b)
  |[.nils,.nils],[]=>some (.v (.bool true) [])
  |_,_=>none
theorem gE68_ok (l:List R.DV) (ao:List R.DO) (out:RD) (h:gE68 l ao=some out):LawOk C.G C.O C.tab 68 401 ao l out:=by
  unfold gE68 at h
  split at h
  . cases h; exact lawTa _ _ _ _
  . cases h; exact lawTb _ _ _ _ _ _ _ _ _
  . cases h; exact lawTn
  . cases h
def YT:C.RL:=Y0.add 68 401 gE68 gE68_ok
theorem run22a (n n1:Nat) (a b:List Msg):runD C YT (fun _=>none) 410 c22 [.ns 0 n 4,.ns 1 n1 4] [.rn .msg a 31,.rn .msg b 31] =
    cond (okTa n a n1 b) (some (.bool (sameL (a.take n) (b.take n1)),mkD [.rn .msg a 31,.rn .msg b 31] 2)) none:=by kernel_rfl
theorem run22b (j n c:Nat) (ex:Bool) (n1:Nat) (full b:List Msg) (sp:Bool) (el:R.EL):runD C YT (fun _=>none) 410 c22 [.rs 0 j n c 4 ex,.ns 1 n1 4] [.r .msg full sp el,.rn .msg b 31] =
    cond (okTb j n full n1 b) (some (.bool (sameL (seg full j n) (b.take n1)),mkD [.r .msg full sp el,.rn .msg b 31] 2)) none:=by kernel_rfl
theorem g22_ok (l:List R.DV) (ao:List R.DO) (out:RD) (h:gE68 l ao=some out):LawOk C.G C.O C.tab 22 411 ao l out:=by
  unfold gE68 at h
  split at h
  . cases h
    refine law_of C YT (fun _=>none) rfl rfl (fun n hn p _ ld e=>by cases e) fun z hz=>?_
    obtain⟨hp,hz⟩:=R.ev_need hz
    refine (run22a _ _ _ _).trans (Eq.trans ?_ hz)
    rw[hp]; rfl
  . cases h
    refine law_of C YT (fun _=>none) rfl rfl (fun n hn p _ ld e=>by cases e) fun z hz=>?_
    obtain⟨hp,hz⟩:=R.ev_need hz
    refine (run22b _ _ _ _ _ _ _ _ _).trans (Eq.trans ?_ hz)
    rw[hp]; rfl
  . cases h
    refine law_of C YT (fun _=>none) rfl rfl (fun n hn p _ ld e=>by cases e) fun z hz=>?_
    refine Eq.trans ?_ hz
    kernel_rfl
  . cases h
def Y5:C.RL:=(((Y0.add 14 201 g14 g14_ok).add 17 211 gH17 gH17_ok).add 19 221 gH19 gH19_ok).add 22 411 gE68 g22_ok
end
end Go.Vm.YtkjjpmbpjfmbcaaGreatDoor

namespace Go.Vm.R
noncomputable section
variable {P:Program}
def cutD (K:Kd) (cl:DC) (lh:Nat->Option LoopD) (lev nt N:Nat):List (Option (List Hint))->CC->T DV->DH->EK->List (Nat×EK)->EK->Tree
  |x::l,c,e,h,r,y,k=>match c with
    | .seq a b=>match x with
      |some hs=>execD K cl lh lev nt N a e h r y (neatK N hs fun e h=>cutD K cl lh lev nt N l b e h r y k)
      |none=>execD K cl lh lev nt N a e h r y (fun e h=>cutD K cl lh lev nt N l b e h r y k)
    |c=>execD K cl lh lev nt N c e h r y k
  |[],c,e,h,r,y,k=>execD K cl lh lev nt N c e h r y k
theorem cutD_ok {G:Gl}{N:Nat}{call:Nat->List V->H->Res}{cl:DC} (hgood:CallGood G.n call) (hcl:ClOk G call cl) (K:Kd) {lh:Nat->Option LoopD}{n lev nt:Nat} (hlev:lev<=n) {k:DK}{r:Vm.K}{rd:EK} (hr:KOk G N k r rd) {hd:Option Nat}{x:List (Nat×Vm.K)}{y:List (Nat×EK)} (hy:headOf y=hd) (hx:XOk G N k x y) {kk:Vm.K}{kd:EK} (hk:KOk G N k kk kd) :
    ∀ (cs:List (Option (List Hint))) (c:CC),ccWf G.n c->(∀ p∈loopsIn hd c,∀ ld,lh p.1=some ld->LoopOk G N call n lev nt p.1 p.2 ld) ->
    KOk G N k (fun e h=>exec call n nt c e h r x kk) (fun e h=>cutD K cl lh lev nt N cs c e h rd y kd):=by
  intro cs
  induction cs with
  |nil=>intro c hw hl; exact execD_ok hgood hcl K hlev hr c hd x y kk kd hw hy hl hx hk
  |cons o l ih =>
    intro c hw hl
    cases c with
    |seq a b =>
      have ib:=ih b hw.2 (fun p hp=>hl p (List.mem_append_right _ hp))
      have la:∀ p∈loopsIn hd a,∀ ld,lh p.1=some ld->LoopOk G N call n lev nt p.1 p.2 ld:=fun p hp=>hl p (List.mem_append_left _ hp)
      cases o with
      |none=>exact execD_ok hgood hcl K hlev hr a hd x y _ _ hw.1 hy la hx ib
      |some hs=>exact execD_ok hgood hcl K hlev hr a hd x y _ _ hw.1 hy la hx (neatK_ok hs ib)
    |skip=>exact execD_ok hgood hcl K hlev hr _ hd x y kk kd hw hy hl hx hk
    |ops l'=>exact execD_ok hgood hcl K hlev hr _ hd x y kk kd hw hy hl hx hk
    |draw m al l'=>exact execD_ok hgood hcl K hlev hr _ hd x y kk kd hw hy hl hx hk
    |cond c a b=>exact execD_ok hgood hcl K hlev hr _ hd x y kk kd hw hy hl hx hk
    |block id b=>exact execD_ok hgood hcl K hlev hr _ hd x y kk kd hw hy hl hx hk
    |loop b=>exact execD_ok hgood hcl K hlev hr _ hd x y kk kd hw hy hl hx hk
    |exit id=>exact execD_ok hgood hcl K hlev hr _ hd x y kk kd hw hy hl hx hk
    |ret=>exact execD_ok hgood hcl K hlev hr _ hd x y kk kd hw hy hl hx hk
    |bad=>exact execD_ok hgood hcl K hlev hr _ hd x y kk kd hw hy hl hx hk
def topC (K:Kd) (cl:DC) (lh:Nat->Option LoopD) (lev:Nat) (cs:List (Option (List Hint))) (c:CFn) (l:List DV) (d:DH) (k:DK):Tree:=match Nat.ble l.length c.nt with
  |true=>cutD K cl lh lev c.nt d.n cs c.body (envOfD l 0 .lf) d (resultsD c.res k) [] (resultsD c.res k)
  |false=>.no
theorem topC_ok {G:Gl} (hG:G.n=P.globals.size) {O:Nat->List V->H->Res}{tab:Nat->Option CFn} (ht:Tab P tab) {n lev f:Nat}{c:CFn}{cl:DC} (gO:CallGood P.globals.size O) (hcl:ClOk G (callO noTmps O tab n) cl) (K:Kd) {lh:Nat->Option LoopD} (cs:List (Option (List Hint)))
    (hlev:lev<=n) (hO:∀ a h,O f a h=.no) (hc:tab f=some c) {l:List DV}{d:DH} (hl:∀ p∈loopsIn none c.body,∀ ld,lh p.1=some ld->LoopOk G d.n (callO noTmps O tab n) n lev c.nt p.1 p.2 ld)
    {k:DK}{L:Nat->Nat}{h:H} (R:Rep L d h) (w:wfh h) (g:G.J h) (hw:wfs h.n (toVs L l)):Tells d.n L d h (callO noTmps O tab (n+1) f (toVs L l) h) k (topC K cl lh lev cs c l d k):=by
  unfold topC
  split
  . rename_i hb
    have hle:=Nat.le_of_ble_eq_true hb
    rw[c_succ,hO,orElse_no,hc,b_some,if_pos (by rw[toVs_len]; exact hle)]
    have hcw:ccWf G.n c.body:=by
      rw[hG]
      obtain⟨fn,b,_,_,_,_,_,h7⟩:=fnOf_some (ht f c hc)
      rw[h7]; exact codeOf_wf P b
    exact cutD_ok (by rw[hG]; exact callO_good noTmps_ok gO ht n) hcl K hlev (resultsD_ok c.res k) rfl .nil (resultsD_ok c.res k) cs c.body hcw hl L _ d _ h (Nat.le_refl _)
      ⟨envOfD_to l 0 .lf .lf ⟨fun i=>.inl (T.get_lf _ _),fun i=>by rw[T.get_lf]; trivial⟩ hw,R,w,g⟩
  . exact tells_no
def runC (C:Ctx P) (Y:C.RL) (lh:Nat->Option LoopD) (lev:Nat) (cs:List (Option (List Hint))) (c:CFn) (l:List DV) (ao:List DO):Option (DV×DH) :=
  (topC C.K (callD (hookOf C.X Y) C.K C.kn C.tab lev) lh lev cs c l (mkD ao ao.length) (finK ao.length okK)).ev
theorem law_cut (C:Ctx P) (Y:C.RL) {lev f:Nat}{c:CFn}{ao:List DO}{l:List DV}{out:RD} (lh:Nat->Option LoopD) (cs:List (Option (List Hint))) (hf:C.kn f=false) (hc:C.tab f=some c)
    (hl:∀ n,lev<=n->∀ p∈loopsIn none c.body,∀ ld,lh p.1=some ld->LoopOk C.G ao.length (callO noTmps C.O C.tab n) n lev c.nt p.1 p.2 ld)
    (he:∀ z,(out.tree ao ao.length okK).ev=some z->runC C Y lh lev cs c l ao=some z):LawOk C.G C.O C.tab f (lev+1) ao l out:=by
  intro n hn k L h R w g hw z hz
  obtain⟨n',rfl⟩:∃ n',n=n'+1:=⟨n-1,by omega⟩
  obtain⟨x,d,h1,h2⟩:=tree_ok out hz
  have:=topC_ok C.hG C.ht C.hX.good (callD_ok C.hG C.ht C.hX.good C.K (hookOf_ok C.X C.hG C.hX C.ht Y C.hk) lev n' (by omega)) C.K (f:=f) (c:=c) (lh:=lh) cs (by omega) (C.hk f hf) hc (d:=mkD ao ao.length) (hl n' (by omega)) (k:=finK ao.length okK) R w g hw
  obtain⟨w1,d1,L1,h1',e1,R1,x1,hz1⟩:=this _ (he _ h1)
  unfold finK at hz1
  split at hz1
  . rename_i hb
    simp only[Bool.and_eq_true] at hb
    obtain⟨b1,b2,b3⟩:=hb
    have b1:=Nat.le_of_ble_eq_true b1
    have b2:=Nat.le_of_ble_eq_true b2
    split at hz1
    . rename_i w' σ hr
      have hq:(w',gathered ao.length d1 σ d1.fl)=(x,d):=Option.some.inj hz1
      obtain⟨rfl,rfl⟩:=Prod.mk.inj hq
      obtain⟨_,kr⟩:=renV_to (L:=L1) hr
      have sk:=renV_ok hr .nil
      have R2:=gather_rep R1 b1 sk b3 (Nat.le_refl _) b2 (.inl rfl)
      have x2:=gather_step R1 b1 sk
      exact⟨w',_,_,h1',by rw[kr _ (renL_ren _ _ _ _)]; exact e1,R2,x1.trans x2,h2⟩
    . cases hz1
  . cases hz1
end
end Go.Vm.R

namespace Go.Vm.R
noncomputable section
variable {P:Program}
def headC:CC->CC | .seq a _=>a | c=>c
def tailC:CC->CC | .seq _ b=>b | c=>c
def pcOf (c:CFn) (n:Nat):CC:=n.rec c.body fun _ r=>tailC r
structure Cuts where
  lh:Nat->Option LoopD
  lev:Nat
  N:Nat
  c:CFn
  cs:List (Option (List Hint))
abbrev Cuts.R (s:Cuts):EK:=resultsD s.c.res (finK s.N okK)
def pieceD (C:Ctx P) (Y:C.RL) (s:Cuts) (n:Nat) (e:T DV) (d:DH) (k:EK):Tree :=
  execD C.K (callD (hookOf C.X Y) C.K C.kn C.tab s.lev) s.lh s.lev s.c.nt s.N (headC (pcOf s.c n)) e d s.R [] k
def restD (C:Ctx P) (Y:C.RL) (s:Cuts) (n:Nat):EK:=fun e d =>
  cutD C.K (callD (hookOf C.X Y) C.K C.kn C.tab s.lev) s.lh s.lev s.c.nt s.N (s.cs.drop n) (pcOf s.c n) e d s.R [] s.R
def hn (l:List Nat):List Hint:=l.map fun t=>(t,none)
theorem rest_at (C:Ctx P) (Y:C.RL) (s:Cuts) (n:Nat) {hs:List Hint}{o:List (Option (List Hint))} (h1:s.cs.drop n=some hs::o) (h2:pcOf s.c n=.seq (headC (pcOf s.c n)) (pcOf s.c (n+1))) (e:T DV) (d:DH) :
    restD C Y s n e d=pieceD C Y s n e d (neatK s.N hs (restD C Y s (n+1))):=by
  have h3:s.cs.drop (n+1)=o:=by rw[show n+1=1+n by omega,Nat.add_comm,← List.drop_drop,h1]; rfl
  unfold restD pieceD
  rw[h1,h3]
  generalize pcOf s.c (n+1)=b at h2 ⊢
  generalize hh:headC (pcOf s.c n)=a at h2 ⊢
  rw[h2]
  rfl
theorem run_at (C:Ctx P) (Y:C.RL) (s:Cuts) {l:List DV}{ao:List DO} (hN:ao.length=s.N) (hb:Nat.ble l.length s.c.nt=true):runC C Y s.lh s.lev s.cs s.c l ao=(restD C Y s 0 (envOfD l 0 .lf) (mkD ao s.N)).ev:=by
  have e:(mkD ao s.N).n=s.N:=hN
  unfold runC topC restD
  rw[hb,hN,e]
  rfl
theorem by_piece (C:Ctx P) (Y:C.RL) (s:Cuts) (n:Nat) {hs:List Hint}{o:List (Option (List Hint))} (h1:s.cs.drop n=some hs::o) (h2:pcOf s.c n=.seq (headC (pcOf s.c n)) (pcOf s.c (n+1))) {e:T DV}{d:DH}{t:EK->Option (DV×DH)}{z:Option (DV×DH)}
    (hp:∀ kk,(pieceD C Y s n e d (neatK s.N hs kk)).ev=t kk) (hz:t (restD C Y s (n+1))=z):(restD C Y s n e d).ev=z:=by
  rw[rest_at C Y s n h1 h2,hp]; exact hz
end
end Go.Vm.R

namespace Go.Vm.R
noncomputable section
variable {P:Program}
inductive Ct where
  |run
  |seq (a:Ct) (h:Option (List Hint)) (b:Ct)
  |blk (b:Ct)
end
end Go.Vm.R
