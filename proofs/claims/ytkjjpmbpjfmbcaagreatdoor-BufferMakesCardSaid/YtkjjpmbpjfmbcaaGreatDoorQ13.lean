/-
  The law of between: a list's head, what comes between, and its tail, in memory of its own.
  The context of run.Apply: what a message makes, told by a function that no run opens.
  The law of run.Apply.
  The law of run.Apply, as calls know it.
  The table for RunEach.
  What a message makes of a list in order: it is in order again, and each key has what the message makes of it.
  The order of texts, as ranks among a few; a message's part, and what it touches.
-/
import Derived.Test.YtkjjpmbpjfmbcaaGreatDoorQ12
set_option linter.unusedVariables false
set_option linter.unusedSimpArgs false
namespace Go.Vm.YtkjjpmbpjfmbcaaGreatDoor
open Go.Proofs Go.Vm.R
noncomputable section
set_option maxRecDepth 10000
def ce73 (n:Nat):List R.Hint:=match n with
  |0=>hn [0,1,2,3]
  |1=>hn [0,1,2,3,9]
  |2=>hn [0,2,3,9,10]
  |3=>hn [0,2,9,10]
  |_=>hn [9]
def s73 (N:Nat):Cuts:=⟨fun _=>none,200,N,c73,[some (ce73 0),some (ce73 1),some (ce73 2),some (ce73 3),some (ce73 4)]⟩
theorem XtK (j n c:Nat)(ex:Bool)(full:List Ent)(sp:Bool)(el:R.EL)(i jj:Int)(kk:R.EK):(Xg C Y0 (s73 1) 0 (R.Yu [.rs 0 j n c 2 ex,.int .i64 i,.int .i64 jj,.nils] 0 .lf) (mkD [.r .ent full sp el] 1) (Xl 1 (ce73 0) kk)).ev =
    (kk (envZ [0,1,2,3] [DV.rs 0 j n c 2 ex,R.DV.int .i64 i,R.DV.int .i64 jj,R.DV.nils]) (mkD [DO.r RK.ent full sp el] 1)).ev:=by kernel_rfl
theorem XtJ (j n c:Nat)(ex:Bool)(full:List Ent)(sp:Bool)(el:R.EL)(i jj:Int)(kk:R.EK):(Xg C Y0 (s73 1) 1 (envZ [0,1,2,3] [.rs 0 j n c 2 ex,.int .i64 i,.int .i64 jj,.nils]) (mkD [.r .ent full sp el] 1) (Xl 1 (ce73 1) kk)).ev =
    cond (decide (0<=IntKind.wrap .i64 (IntKind.wrap .i64 ((↑n:Int)-IntKind.wrap .i64 (jj-i))+0))&&(decide (0<=IntKind.wrap .i64 (IntKind.wrap .i64 ((↑n:Int)-IntKind.wrap .i64 (jj-i))+0))&&(decide (Int.toNat (IntKind.wrap .i64 (IntKind.wrap .i64 ((↑n:Int)-IntKind.wrap .i64 (jj-i))+0))<=Int.toNat (IntKind.wrap .i64 (IntKind.wrap .i64 ((↑n:Int)-IntKind.wrap .i64 (jj-i))+0)))&&roomFor (Int.toNat (IntKind.wrap .i64 (IntKind.wrap .i64 ((↑n:Int)-IntKind.wrap .i64 (jj-i))+0))) 32))) ((kk (envZ [0,1,2,3,9] [DV.rs 0 j n c 2 ex,R.DV.int .i64 i,R.DV.int .i64 jj,R.DV.nils,DV.rs 1 0 (Int.toNat (IntKind.wrap .i64 (IntKind.wrap .i64 ((↑n:Int)-IntKind.wrap .i64 (jj-i))+0))) (Int.toNat (IntKind.wrap .i64 (IntKind.wrap .i64 ((↑n:Int)-IntKind.wrap .i64 (jj-i))+0))) 2 true]) (mkD [DO.r RK.ent full sp el,DO.r RK.ent (List.replicate (Int.toNat (IntKind.wrap .i64 (IntKind.wrap .i64 ((↑n:Int)-IntKind.wrap .i64 (jj-i))+0))) (RK.zero RK.ent)) false { e:=41,z:=0 }] 1)).ev) none:=by kernel_rfl
theorem XtI (j n c:Nat)(ex:Bool)(full:List Ent)(sp:Bool)(el:R.EL)(i jj:Int)(B:List Ent)(L:Nat)(kk:R.EK):(Xg C Y0 (s73 1) 2 (envZ [0,1,2,3,9] [.rs 0 j n c 2 ex,.int .i64 i,.int .i64 jj,.nils,.rs 1 0 L L 2 true]) (mkD [.r .ent full sp el,.r .ent B false { e:=41,z:=0 }] 1) (Xl 1 (ce73 2) kk)).ev =
    cond (decide (0<=i)&&(decide (c<=c)&&(decide (Int.toNat i<=c)&&true))) (cond (Nat.ble (j+0+(Int.toNat i-0)) full.length) (cond (Nat.ble (0+L) (List.length B)) ((kk (envZ [0,2,3,9,10] [DV.rs 0 j n c 2 ex,R.DV.int .i64 jj,R.DV.nils,DV.rs 1 0 L L 2 true,R.DV.int .i64 (↑(min (List.length (List.take (Int.toNat i-0) (List.drop (j+0) full))) L):Int)]) (mkD [DO.r RK.ent full sp el,DO.r RK.ent (List.take 0 B++List.take (min (List.length (List.take (Int.toNat i-0) (List.drop (j+0) full))) L) (List.take (Int.toNat i-0) (List.drop (j+0) full))++List.drop (0+min (List.length (List.take (Int.toNat i-0) (List.drop (j+0) full))) L) B) false { e:=41,z:=0 }] 1)).ev) none) none) none:=by kernel_rfl
theorem XtH (j n c:Nat)(ex:Bool)(full:List Ent)(sp:Bool)(el:R.EL)(jj a:Int)(B:List Ent)(L:Nat)(kk:R.EK):(Xg C Y0 (s73 1) 3 (envZ [0,2,3,9,10] [.rs 0 j n c 2 ex,.int .i64 jj,.nils,.rs 1 0 L L 2 true,.int .i64 a]) (mkD [.r .ent full sp el,.r .ent B false { e:=41,z:=0 }] 1) (Xl 1 (ce73 3) kk)).ev =
    cond (decide (0<=a)&&(decide (L<=L)&&(decide (L<=L)&&(decide (Int.toNat a<=L)&&true)))) (cond (Nat.ble (0+Int.toNat a+(L-Int.toNat a)) (List.length B)) ((kk (envZ [0,2,9,10] [DV.rs 0 j n c 2 ex,R.DV.int .i64 jj,DV.rs 1 0 L L 2 true,R.DV.int .i64 (IntKind.wrap .i64 (a+(↑(min 0 (L-Int.toNat a)):Int)))]) (mkD [DO.r RK.ent full sp el,DO.r RK.ent (List.take (0+Int.toNat a) B++List.take (min 0 (L-Int.toNat a)) ([]:List Ent)++List.drop (0+Int.toNat a+min 0 (L-Int.toNat a)) B) false { e:=41,z:=0 }] 1)).ev) none) none:=by kernel_rfl
theorem XtG (j n c:Nat)(ex:Bool)(full:List Ent)(sp:Bool)(el:R.EL)(jj a:Int)(B:List Ent)(L:Nat)(kk:R.EK):(Xg C Y0 (s73 1) 4 (envZ [0,2,9,10] [.rs 0 j n c 2 ex,.int .i64 jj,.rs 1 0 L L 2 true,.int .i64 a]) (mkD [.r .ent full sp el,.r .ent B false { e:=41,z:=0 }] 1) (Xl 1 (ce73 4) kk)).ev =
    cond (decide (0<=a)&&(decide (L<=L)&&(decide (L<=L)&&(decide (Int.toNat a<=L)&&true)))) (cond (decide (0<=jj)&&(decide (c<=c)&&(decide (n<=c)&&(decide (Int.toNat jj<=n)&&true)))) (cond (Nat.ble (j+Int.toNat jj+(n-Int.toNat jj)) full.length) (cond (Nat.ble (0+Int.toNat a+(L-Int.toNat a)) (List.length B)) ((kk (envZ [9] [DV.rs 1 0 L L 2 true]) (mkD [DO.r RK.ent full sp el,DO.r RK.ent (List.take (0+Int.toNat a) B++List.take (min (List.length (List.take (n-Int.toNat jj) (List.drop (j+Int.toNat jj) full))) (L-Int.toNat a)) (List.take (n-Int.toNat jj) (List.drop (j+Int.toNat jj) full))++List.drop (0+Int.toNat a+min (List.length (List.take (n-Int.toNat jj) (List.drop (j+Int.toNat jj) full))) (L-Int.toNat a)) B) false { e:=41,z:=0 }] 1)).ev) none) none) none) none:=by kernel_rfl
theorem XtF (j n c:Nat)(ex:Bool)(full:List Ent)(sp:Bool)(el:R.EL)(B:List Ent)(L:Nat):(Yp C Y0 (s73 1) 5 (envZ [9] [.rs 1 0 L L 2 true]) (mkD [.r .ent full sp el,.r .ent B false { e:=41,z:=0 }] 1)).ev =
    some (DV.rs 1 0 L L 2 true,(mkD [DO.r RK.ent full sp el,DO.r RK.ent B false { e:=41,z:=0 }] 1)):=by kernel_rfl
theorem XtE (j n c:Nat)(ex:Bool)(full:List Ent)(sp:Bool)(el:R.EL)(ik iv:Txt)(isp iex:Bool)(iel:R.EL)(i jj:Int)(kk:R.EK):(Xg C Y0 (s73 2) 0 (R.Yu [.rs 0 j n c 2 ex,.int .i64 i,.int .i64 jj,.rs 1 0 1 1 2 iex] 0 .lf) (mkD [.r .ent full sp el,.r .ent [(ik,iv)] isp iel] 2) (Xl 2 (ce73 0) kk)).ev =
    (kk (envZ [0,1,2,3] [DV.rs 0 j n c 2 ex,R.DV.int .i64 i,R.DV.int .i64 jj,DV.rs 1 0 1 1 2 iex]) (mkD [DO.r RK.ent full sp el,DO.r RK.ent [(ik,iv)] isp iel] 2)).ev:=by kernel_rfl
theorem XtD (j n c:Nat)(ex:Bool)(full:List Ent)(sp:Bool)(el:R.EL)(ik iv:Txt)(isp iex:Bool)(iel:R.EL)(i jj:Int)(kk:R.EK):(Xg C Y0 (s73 2) 1 (envZ [0,1,2,3] [.rs 0 j n c 2 ex,.int .i64 i,.int .i64 jj,.rs 1 0 1 1 2 iex]) (mkD [.r .ent full sp el,.r .ent [(ik,iv)] isp iel] 2) (Xl 2 (ce73 1) kk)).ev =
    cond (decide (0<=IntKind.wrap .i64 (IntKind.wrap .i64 ((↑n:Int)-IntKind.wrap .i64 (jj-i))+1))&&(decide (0<=IntKind.wrap .i64 (IntKind.wrap .i64 ((↑n:Int)-IntKind.wrap .i64 (jj-i))+1))&&(decide (Int.toNat (IntKind.wrap .i64 (IntKind.wrap .i64 ((↑n:Int)-IntKind.wrap .i64 (jj-i))+1))<=Int.toNat (IntKind.wrap .i64 (IntKind.wrap .i64 ((↑n:Int)-IntKind.wrap .i64 (jj-i))+1)))&&roomFor (Int.toNat (IntKind.wrap .i64 (IntKind.wrap .i64 ((↑n:Int)-IntKind.wrap .i64 (jj-i))+1))) 32))) ((kk (envZ [0,1,2,3,9] [DV.rs 0 j n c 2 ex,R.DV.int .i64 i,R.DV.int .i64 jj,DV.rs 1 0 1 1 2 iex,DV.rs 2 0 (Int.toNat (IntKind.wrap .i64 (IntKind.wrap .i64 ((↑n:Int)-IntKind.wrap .i64 (jj-i))+1))) (Int.toNat (IntKind.wrap .i64 (IntKind.wrap .i64 ((↑n:Int)-IntKind.wrap .i64 (jj-i))+1))) 2 true]) (mkD [DO.r RK.ent full sp el,DO.r RK.ent [(ik,iv)] isp iel,DO.r RK.ent (List.replicate (Int.toNat (IntKind.wrap .i64 (IntKind.wrap .i64 ((↑n:Int)-IntKind.wrap .i64 (jj-i))+1))) (RK.zero RK.ent)) false { e:=41,z:=0 }] 2)).ev) none:=by kernel_rfl
theorem XtC (j n c:Nat)(ex:Bool)(full:List Ent)(sp:Bool)(el:R.EL)(ik iv:Txt)(isp iex:Bool)(iel:R.EL)(i jj:Int)(B:List Ent)(L:Nat)(kk:R.EK):(Xg C Y0 (s73 2) 2 (envZ [0,1,2,3,9] [.rs 0 j n c 2 ex,.int .i64 i,.int .i64 jj,.rs 1 0 1 1 2 iex,.rs 2 0 L L 2 true]) (mkD [.r .ent full sp el,.r .ent [(ik,iv)] isp iel,.r .ent B false { e:=41,z:=0 }] 2) (Xl 2 (ce73 2) kk)).ev =
    cond (decide (0<=i)&&(decide (c<=c)&&(decide (Int.toNat i<=c)&&true))) (cond (Nat.ble (j+0+(Int.toNat i-0)) full.length) (cond (Nat.ble (0+L) (List.length B)) ((kk (envZ [0,2,3,9,10] [DV.rs 0 j n c 2 ex,R.DV.int .i64 jj,DV.rs 1 0 1 1 2 iex,DV.rs 2 0 L L 2 true,R.DV.int .i64 (↑(min (List.length (List.take (Int.toNat i-0) (List.drop (j+0) full))) L):Int)]) (mkD [DO.r RK.ent full sp el,DO.r RK.ent [(ik,iv)] isp iel,DO.r RK.ent (List.take 0 B++List.take (min (List.length (List.take (Int.toNat i-0) (List.drop (j+0) full))) L) (List.take (Int.toNat i-0) (List.drop (j+0) full))++List.drop (0+min (List.length (List.take (Int.toNat i-0) (List.drop (j+0) full))) L) B) false { e:=41,z:=0 }] 2)).ev) none) none) none:=by kernel_rfl
theorem XtB (j n c:Nat)(ex:Bool)(full:List Ent)(sp:Bool)(el:R.EL)(ik iv:Txt)(isp iex:Bool)(iel:R.EL)(jj a:Int)(B:List Ent)(L:Nat)(kk:R.EK):(Xg C Y0 (s73 2) 3 (envZ [0,2,3,9,10] [.rs 0 j n c 2 ex,.int .i64 jj,.rs 1 0 1 1 2 iex,.rs 2 0 L L 2 true,.int .i64 a]) (mkD [.r .ent full sp el,.r .ent [(ik,iv)] isp iel,.r .ent B false { e:=41,z:=0 }] 2) (Xl 2 (ce73 3) kk)).ev =
    cond (decide (0<=a)&&(decide (L<=L)&&(decide (L<=L)&&(decide (Int.toNat a<=L)&&true)))) (cond (Nat.ble (0+Int.toNat a+(L-Int.toNat a)) (List.length B)) ((kk (envZ [0,2,9,10] [DV.rs 0 j n c 2 ex,R.DV.int .i64 jj,DV.rs 2 0 L L 2 true,R.DV.int .i64 (IntKind.wrap .i64 (a+(↑(min (List.length (List.take 1 (List.drop 0 ([(ik,iv)]:List Ent)))) (L-Int.toNat a)):Int)))]) (mkD [DO.r RK.ent full sp el,DO.r RK.ent [(ik,iv)] isp iel,DO.r RK.ent (List.take (0+Int.toNat a) B++List.take (min (List.length (List.take 1 (List.drop 0 ([(ik,iv)]:List Ent)))) (L-Int.toNat a)) (List.take 1 (List.drop 0 ([(ik,iv)]:List Ent)))++List.drop (0+Int.toNat a+min (List.length (List.take 1 (List.drop 0 ([(ik,iv)]:List Ent)))) (L-Int.toNat a)) B) false { e:=41,z:=0 }] 2)).ev) none) none:=by kernel_rfl
theorem XtA (j n c:Nat)(ex:Bool)(full:List Ent)(sp:Bool)(el:R.EL)(ik iv:Txt)(isp iex:Bool)(iel:R.EL)(jj a:Int)(B:List Ent)(L:Nat)(kk:R.EK):(Xg C Y0 (s73 2) 4 (envZ [0,2,9,10] [.rs 0 j n c 2 ex,.int .i64 jj,.rs 2 0 L L 2 true,.int .i64 a]) (mkD [.r .ent full sp el,.r .ent [(ik,iv)] isp iel,.r .ent B false { e:=41,z:=0 }] 2) (Xl 2 (ce73 4) kk)).ev =
    cond (decide (0<=a)&&(decide (L<=L)&&(decide (L<=L)&&(decide (Int.toNat a<=L)&&true)))) (cond (decide (0<=jj)&&(decide (c<=c)&&(decide (n<=c)&&(decide (Int.toNat jj<=n)&&true)))) (cond (Nat.ble (j+Int.toNat jj+(n-Int.toNat jj)) full.length) (cond (Nat.ble (0+Int.toNat a+(L-Int.toNat a)) (List.length B)) ((kk (envZ [9] [DV.rs 2 0 L L 2 true]) (mkD [DO.r RK.ent full sp el,DO.r RK.ent [(ik,iv)] isp iel,DO.r RK.ent (List.take (0+Int.toNat a) B++List.take (min (List.length (List.take (n-Int.toNat jj) (List.drop (j+Int.toNat jj) full))) (L-Int.toNat a)) (List.take (n-Int.toNat jj) (List.drop (j+Int.toNat jj) full))++List.drop (0+Int.toNat a+min (List.length (List.take (n-Int.toNat jj) (List.drop (j+Int.toNat jj) full))) (L-Int.toNat a)) B) false { e:=41,z:=0 }] 2)).ev) none) none) none) none:=by kernel_rfl
theorem Xt9 (j n c:Nat)(ex:Bool)(full:List Ent)(sp:Bool)(el:R.EL)(ik iv:Txt)(isp iex:Bool)(iel:R.EL)(B:List Ent)(L:Nat):(Yp C Y0 (s73 2) 5 (envZ [9] [.rs 2 0 L L 2 true]) (mkD [.r .ent full sp el,.r .ent [(ik,iv)] isp iel,.r .ent B false { e:=41,z:=0 }] 2)).ev =
    some (DV.rs 2 0 L L 2 true,(mkD [DO.r RK.ent full sp el,DO.r RK.ent [(ik,iv)] isp iel,DO.r RK.ent B false { e:=41,z:=0 }] 2)):=by kernel_rfl
theorem XdR {X Y S:List Ent}{o m:Nat} (ho:X.length=o)(hs:S.length<=Y.length)(hm:S.length<=m):List.take o (X++Y)++List.take (min S.length m) S++List.drop (o+min S.length m) (X++Y)=(X++S)++List.drop S.length Y:=by
  rw[Nat.min_eq_left hm,List.take_length,← List.drop_drop,List.take_left' ho,List.drop_left' ho]
def bt (s:List Ent)(i jj:Nat)(ins:List Ent):List Ent:=s.take i++ins++s.drop jj
theorem XnW {s:List Ent}{i jj:Nat}{ins:List Ent} (h1:i<=jj)(h2:jj<=s.length):(bt s i jj ins).length=s.length-(jj-i)+ins.length:=by
  unfold bt;rw[List.length_append,List.length_append,List.length_take,List.length_drop];omega
theorem Xq9 {L:Nat} (h:L<199):(decide (0<=(L:Int))&&(decide (0<=(L:Int))&&(decide (L<=L)&&roomFor L 32)))=true:=by
  rw[decide_eq_true (show 0<=(L:Int) by omega),decide_eq_true (Nat.le_refl L),XeZ h]; rfl
abbrev rowO (B:List Ent):R.DO:=.r .ent B false { e:=41,z:=0 }
theorem cT1 {i c:Nat} (h:i<=c):(decide (0<=(i:Int))&&(decide (c<=c)&&(decide (i<=c)&&true)))=true:=by
  rw[decide_eq_true (show 0<=(i:Int) by omega),decide_eq_true (Nat.le_refl c),decide_eq_true h]; rfl
theorem cT3 {a n c:Nat} (h:a<=n)(hc:n<=c):(decide (0<=(a:Int))&&(decide (c<=c)&&(decide (n<=c)&&(decide (a<=n)&&true))))=true:=by
  rw[decide_eq_true (show 0<=(a:Int) by omega),decide_eq_true (Nat.le_refl c),decide_eq_true hc,decide_eq_true h]; rfl
theorem XlY {a b:Nat} (h:a+b<999):IntKind.wrap .i64 ((a:Int)+(b:Int))=((a+b:Nat):Int):=by rw[wrap_i64 (by omega) (by omega)]; omega
theorem head_eq {full:List Ent}{j n i:Nat} (h:i<=n):List.take (i-0) (List.drop (j+0) full)=List.take i (seg full j n):=by
  unfold seg; rw[List.take_take,Nat.min_eq_left h]; rfl
theorem Xkh {full:List Ent}{j n i:Nat}:List.take (n-i) (List.drop (j+i) full)=List.drop i (seg full j n):=by
  unfold seg; rw[List.drop_take,List.drop_drop]
theorem Xr5 (j n c:Nat)(ex:Bool)(full:List Ent)(sp:Bool)(el:R.EL)(i jj:Nat)(h1:i<=jj)(h2:jj<=n)(hn:n<199)(hc:n<=c)(p1:j+n<=full.length)(L:Nat)(hL:L=n-(jj-i))(B:List Ent)(hB:B.length=L) :
    (Yp C Y0 (s73 1) 2 (envZ [0,1,2,3,9] [.rs 0 j n c 2 ex,.int .i64 (i:Int),.int .i64 (jj:Int),.nils,.rs 1 0 L L 2 true]) (mkD [.r .ent full sp el,rowO B] 1)).ev =
    some (.rs 1 0 L L 2 true,mkD [.r .ent full sp el,rowO (bt (seg full j n) i jj [])] 1):=by
  have hl:(seg full j n).length=n:=seg_len p1
  refine Xe C Y0 (s73 1) 2 rfl rfl (fun kk=>XtI j n c ex full sp el i jj B L kk) ?_
  have l1:(List.take i (seg full j n)).length=i:=by rw[List.length_take]; omega
  rw[Int.toNat_natCast,cT1 (show i<=c by omega),cond_true,Nat.ble_eq_true_of_le (show j+0+(i-0)<=full.length by omega),cond_true,Nat.ble_eq_true_of_le (show 0+L<=B.length by omega),cond_true,head_eq (n:=n) (by omega)]
  have b1:=XdR (X:=[]) (Y:=B) (S:=List.take i (seg full j n)) (o:=0) (m:=L) rfl (by omega) (by omega)
  rw[List.nil_append,List.nil_append] at b1;rw[b1,Nat.min_eq_left (show (List.take i (seg full j n)).length<=L by omega),l1]
  refine Xe C Y0 (s73 1) 3 rfl rfl (fun kk=>XtH j n c ex full sp el jj _ _ L kk) ?_
  have l2:(List.take i (seg full j n)++List.drop i B).length=L:=by rw[List.length_append,l1,List.length_drop]; omega
  have b2:=XdR (X:=List.take i (seg full j n)) (Y:=List.drop i B) (S:=[]) (o:=i) (m:=L-i) l1 (Nat.zero_le _) (Nat.zero_le _);rw[List.append_nil,List.length_nil,List.drop_zero,Nat.zero_min] at b2;rw[Int.toNat_natCast,cT3 (show i<=L by omega) (Nat.le_refl L),cond_true,l2,Nat.ble_eq_true_of_le (show 0+i+(L-i)<=L by omega),cond_true,Nat.zero_min,Nat.zero_add,b2,XlY (show i+0<999 by omega),show i+0=i from rfl]
  refine Xe C Y0 (s73 1) 4 rfl rfl (fun kk=>XtG j n c ex full sp el jj _ _ L kk) ?_
  have l3:(List.drop jj (seg full j n)).length=L-i:=by rw[List.length_drop,hl]; omega
  have l4:(List.drop i B).length=L-i:=by rw[List.length_drop,hB]
  have b3:=XdR (X:=List.take i (seg full j n)) (Y:=List.drop i B) (S:=List.drop jj (seg full j n)) (o:=i) (m:=L-i) l1 (by omega) (by omega)
  rw[l3,List.drop_eq_nil_of_le (show (List.drop i B).length<=L-i by omega),List.append_nil,Nat.min_self] at b3
  rw[Int.toNat_natCast,Int.toNat_natCast,cT3 (show i<=L by omega) (Nat.le_refl L),cond_true,cT3 (show jj<=n by omega) hc,cond_true,Nat.ble_eq_true_of_le (show j+jj+(n-jj)<=full.length by omega),cond_true,l2,Nat.ble_eq_true_of_le (show 0+i+(L-i)<=L by omega),cond_true,Xkh,l3,Nat.min_self,Nat.zero_add,b3]
  refine (XtF j n c ex full sp el _ L).trans ?_
  unfold bt;rw[List.append_nil]
theorem Xr4 (j n c:Nat)(ex:Bool)(full:List Ent)(sp:Bool)(el:R.EL)(ik iv:Txt)(isp iex:Bool)(iel:R.EL)(i jj:Nat)(h1:i<=jj)(h2:jj<=n)(hn:n<199)(hc:n<=c)(p1:j+n<=full.length)(L:Nat)(hL:L=n-(jj-i)+1)(B:List Ent)(hB:B.length=L) :
    (Yp C Y0 (s73 2) 2 (envZ [0,1,2,3,9] [.rs 0 j n c 2 ex,.int .i64 (i:Int),.int .i64 (jj:Int),.rs 1 0 1 1 2 iex,.rs 2 0 L L 2 true]) (mkD [.r .ent full sp el,.r .ent [(ik,iv)] isp iel,rowO B] 2)).ev =
    some (.rs 2 0 L L 2 true,mkD [.r .ent full sp el,.r .ent [(ik,iv)] isp iel,rowO (bt (seg full j n) i jj [(ik,iv)])] 2):=by
  have hl:(seg full j n).length=n:=seg_len p1
  refine Xe C Y0 (s73 2) 2 rfl rfl (fun kk=>XtC j n c ex full sp el ik iv isp iex iel i jj B L kk) ?_
  have l1:(List.take i (seg full j n)).length=i:=by rw[List.length_take]; omega
  rw[Int.toNat_natCast,cT1 (show i<=c by omega),cond_true,Nat.ble_eq_true_of_le (show j+0+(i-0)<=full.length by omega),cond_true,Nat.ble_eq_true_of_le (show 0+L<=B.length by omega),cond_true,head_eq (n:=n) (by omega)]
  have b1:=XdR (X:=[]) (Y:=B) (S:=List.take i (seg full j n)) (o:=0) (m:=L) rfl (by omega) (by omega)
  rw[List.nil_append,List.nil_append] at b1;rw[b1,Nat.min_eq_left (show (List.take i (seg full j n)).length<=L by omega),l1]
  refine Xe C Y0 (s73 2) 3 rfl rfl (fun kk=>XtB j n c ex full sp el ik iv isp iex iel jj _ _ L kk) ?_
  have l2:(List.take i (seg full j n)++List.drop i B).length=L:=by rw[List.length_append,l1,List.length_drop]; omega
  have li:([(ik,iv)]:List Ent).length=1:=rfl
  have b2:=XdR (X:=List.take i (seg full j n)) (Y:=List.drop i B) (S:=[(ik,iv)]) (o:=i) (m:=L-i) l1 (by rw[List.length_drop,li]; omega) (by rw[li]; omega)
  rw[li,Nat.min_eq_left (show 1<=L-i by omega)] at b2
  rw[Int.toNat_natCast,cT3 (show i<=L by omega) (Nat.le_refl L),cond_true,l2,Nat.ble_eq_true_of_le (show 0+i+(L-i)<=L by omega),cond_true,show List.take 1 (List.drop 0 ([(ik,iv)]:List Ent))=[(ik,iv)] from rfl,li,Nat.min_eq_left (show 1<=L-i by omega),Nat.zero_add,b2,XlY (show i+1<999 by omega)]
  refine Xe C Y0 (s73 2) 4 rfl rfl (fun kk=>XtA j n c ex full sp el ik iv isp iex iel jj _ _ L kk) ?_
  have l3:(List.drop jj (seg full j n)).length=L-(i+1):=by rw[List.length_drop,hl]; omega
  have l5:(List.take i (seg full j n)++[(ik,iv)]).length=i+1:=by rw[List.length_append,l1]; rfl
  have l4:(List.drop 1 (List.drop i B)).length=L-(i+1):=by rw[List.length_drop,List.length_drop,hB]; omega
  have l6:(List.take i (seg full j n)++[(ik,iv)]++List.drop 1 (List.drop i B)).length=L:=by rw[List.length_append,l5,l4]; omega
  have b3:=XdR (X:=List.take i (seg full j n)++[(ik,iv)]) (Y:=List.drop 1 (List.drop i B)) (S:=List.drop jj (seg full j n)) (o:=i+1) (m:=L-(i+1)) l5 (by omega) (by omega)
  rw[l3,List.drop_eq_nil_of_le (show (List.drop 1 (List.drop i B)).length<=L-(i+1) by omega),List.append_nil,Nat.min_self] at b3
  rw[Int.toNat_natCast,Int.toNat_natCast,cT3 (show i+1<=L by omega) (Nat.le_refl L),cond_true,cT3 (show jj<=n by omega) hc,cond_true,Nat.ble_eq_true_of_le (show j+jj+(n-jj)<=full.length by omega),cond_true,l6,Nat.ble_eq_true_of_le (show 0+(i+1)+(L-(i+1))<=L by omega),cond_true,Xkh,l3,Nat.min_self,Nat.zero_add,b3]
  exact Xt9 j n c ex full sp el ik iv isp iex iel _ L
theorem Xqt {n i jj m:Nat} (h1:i<=jj)(h2:jj<=n)(hn:n<199)(hm:m<=1):IntKind.wrap .i64 (IntKind.wrap .i64 ((n:Int)-IntKind.wrap .i64 ((jj:Int)-(i:Int)))+(m:Int))=((n-(jj-i)+m:Nat):Int):=by
  rw[show IntKind.wrap .i64 ((jj:Int)-(i:Int))=(jj:Int)-i from wrap_i64 (by omega) (by omega),show IntKind.wrap .i64 ((n:Int)-((jj:Int)-i))=(n:Int)-((jj:Int)-i) from wrap_i64 (by omega) (by omega),wrap_i64 (by omega) (by omega)]
  omega
abbrev BF:=List Ent->Nat->Nat->List Ent->List Ent
def ok73 (full:List Ent)(j n c:Nat)(i jj:Int):Bool:=okN full j n&&decide (0<=i/\i<=jj/\jj<=n/\n<198/\n<=c)
def Xkz (bf:BF)(o:Nat)(full:List Ent)(j n c:Nat)(i jj:Int)(ins:List Ent):RD:=.need (ok73 full j n c i jj) (.v (.rs o 0 (bf (seg full j n) i.toNat jj.toNat ins).length (bf (seg full j n) i.toNat jj.toNat ins).length 2 true) [rowO (bf (seg full j n) i.toNat jj.toNat ins)])
theorem Xsl (j n c:Nat)(ex:Bool)(full:List Ent)(sp:Bool)(el:R.EL)(i jj:Int):Xw C.G C.O C.tab 73 201 [.r .ent full sp el] [.rs 0 j n c 2 ex,.int .i64 i,.int .i64 jj,.nils] (Xkz bt 1 full j n c i jj []):=by
  refine Zc C Y0 (s73 1).lh (s73 1).cs rfl rfl (fun n hn p _ ld e=>by cases e) fun z hz=>?_
  obtain⟨hp,hz⟩:=R.XB hz;unfold ok73 at hp;rw[Bool.and_eq_true,decide_eq_true_eq] at hp;obtain⟨hk,h0,h1,h2,h3,hc⟩:=hp;obtain⟨p1,_⟩:=okN_iff.1 hk
  obtain⟨i,rfl⟩:∃ m:Nat,i=m:=⟨i.toNat,by omega⟩
  obtain⟨jj,rfl⟩:∃ m:Nat,jj=m:=⟨jj.toNat,by omega⟩
  have hl:(seg full j n).length=n:=seg_len p1
  have g1:i<=jj:=by omega
  have g2:jj<=n:=by omega
  refine (ZG C Y0 (s73 1) (l:=[.rs 0 j n c 2 ex,.int .i64 i,.int .i64 jj,.nils]) (ao:=[.r .ent full sp el]) rfl rfl).trans (Eq.trans ?_ hz);refine Xe C Y0 (s73 1) 0 rfl rfl (fun kk=>XtK j n c ex full sp el i jj kk) ?_
  refine Xe C Y0 (s73 1) 1 rfl rfl (fun kk=>XtJ j n c ex full sp el i jj kk) ?_
  have e:=Xqt (m:=0) g1 g2 (by omega) (by omega)
  rw[show ((0:Nat):Int)=0 from rfl] at e
  have hb:=XnW (s:=seg full j n) (ins:=[]) g1 (by omega)
  rw[hl] at hb;rw[e,Int.toNat_natCast,Xq9 (by omega),cond_true]
  refine (Xr5 j n c ex full sp el i jj g1 g2 (by omega) hc p1 _ (by omega) _ List.length_replicate).trans ?_
  rw[Int.toNat_natCast,Int.toNat_natCast,hb];rfl
theorem Xsk (j n c:Nat)(ex:Bool)(full:List Ent)(sp:Bool)(el:R.EL)(ik iv:Txt)(isp iex:Bool)(iel:R.EL)(i jj:Int):Xw C.G C.O C.tab 73 201 [.r .ent full sp el,.r .ent [(ik,iv)] isp iel] [.rs 0 j n c 2 ex,.int .i64 i,.int .i64 jj,.rs 1 0 1 1 2 iex] (Xkz bt 2 full j n c i jj [(ik,iv)]):=by
  refine Zc C Y0 (s73 2).lh (s73 2).cs rfl rfl (fun n hn p _ ld e=>by cases e) fun z hz=>?_
  obtain⟨hp,hz⟩:=R.XB hz;unfold ok73 at hp;rw[Bool.and_eq_true,decide_eq_true_eq] at hp;obtain⟨hk,h0,h1,h2,h3,hc⟩:=hp;obtain⟨p1,_⟩:=okN_iff.1 hk
  obtain⟨i,rfl⟩:∃ m:Nat,i=m:=⟨i.toNat,by omega⟩
  obtain⟨jj,rfl⟩:∃ m:Nat,jj=m:=⟨jj.toNat,by omega⟩
  have hl:(seg full j n).length=n:=seg_len p1
  have g1:i<=jj:=by omega
  have g2:jj<=n:=by omega
  refine (ZG C Y0 (s73 2) (l:=[.rs 0 j n c 2 ex,.int .i64 i,.int .i64 jj,.rs 1 0 1 1 2 iex]) (ao:=[.r .ent full sp el,.r .ent [(ik,iv)] isp iel]) rfl rfl).trans (Eq.trans ?_ hz);refine Xe C Y0 (s73 2) 0 rfl rfl (fun kk=>XtE j n c ex full sp el ik iv isp iex iel i jj kk) ?_
  refine Xe C Y0 (s73 2) 1 rfl rfl (fun kk=>XtD j n c ex full sp el ik iv isp iex iel i jj kk) ?_
  have e:=Xqt (m:=1) g1 g2 (by omega) (by omega)
  rw[show ((1:Nat):Int)=1 from rfl] at e
  have hb:=XnW (s:=seg full j n) (ins:=[(ik,iv)]) g1 (by omega)
  rw[hl] at hb
  have hb:(bt (seg full j n) i jj [(ik,iv)]).length=n-(jj-i)+1:=hb
  rw[e,Int.toNat_natCast,Xq9 (by omega),cond_true]
  refine (Xr4 j n c ex full sp el ik iv isp iex iel i jj g1 g2 (by omega) hc p1 _ (by omega) _ List.length_replicate).trans ?_
  rw[Int.toNat_natCast,Int.toNat_natCast,hb];rfl
theorem Xsi:Xw C.G C.O C.tab 73 201 [] [.nils,.int .i64 0,.int .i64 0,.nils] (.v (.rs 0 0 0 0 2 true) [rowO []]):=by
  refine Yy C Y0 (fun _=>none) rfl rfl (fun n hn p _ ld e=>by cases e) fun z hz=>?_
  refine Eq.trans ?_ hz
  kernel_rfl
theorem Xsj (ik iv:Txt)(isp iex:Bool)(iel:R.EL):Xw C.G C.O C.tab 73 201 [.r .ent [(ik,iv)] isp iel] [.nils,.int .i64 0,.int .i64 0,.rs 0 0 1 1 2 iex] (.v (.rs 1 0 1 1 2 true) [rowO [(ik,iv)]]):=by
  refine Yy C Y0 (fun _=>none) rfl rfl (fun n hn p _ ld e=>by cases e) fun z hz=>?_
  refine Eq.trans ?_ hz
  kernel_rfl
def g73 (bf:BF):List R.DV->List R.DO->Option RD:=fun l ao=>match l,ao with
  |[.rs 0 j n c 2 ex,.int .i64 i,.int .i64 jj,.nils],[.r .ent full sp el]=>some (Xkz bf 1 full j n c i jj [])
  |[.rs 0 j n c 2 ex,.int .i64 i,.int .i64 jj,.rs 1 0 1 1 2 iex],[.r .ent full sp el,.r .ent [(ik,iv)] isp iel]=>some (Xkz bf 2 full j n c i jj [(ik,iv)])
  |[.nils,.int .i64 0,.int .i64 0,.nils],[]=>some (.v (.rs 0 0 0 0 2 true) [rowO []])
  |[.nils,.int .i64 0,.int .i64 0,.rs 0 0 1 1 2 iex],[.r .ent [(ik,iv)] isp iel]=>some (.v (.rs 1 0 1 1 2 true) [rowO [(ik,iv)]])
  |_,_=>none
theorem XpJ (bf:BF)(h:bf=bt)(l:List R.DV)(ao:List R.DO)(out:RD)(hg:g73 bf l ao=some out):Xw C.G C.O C.tab 73 201 ao l out:=by
  subst h;unfold g73 at hg;split at hg
  . cases hg; exact Xsl _ _ _ _ _ _ _ _ _
  . cases hg; exact Xsk _ _ _ _ _ _ _ _ _ _ _ _ _ _
  . cases hg; exact Xsi
  . cases hg; exact Xsj _ _ _ _ _
  . cases hg
abbrev CA (mf:MF)(h:mf=Xv):Ctx Tryz.prog:=⟨XA mf h,gl,XiK.symm,O,Xtq mf h,tab,XN,kn,XqC,kd⟩
def gF27:List R.DV->List R.DO->Option RD:=fun l ao=>match l,ao with
  |[.rs 0 j n c 2 ex],[.r .ent full sp el]=>some (XmP full j n)
  |[.nils],[]=>some (.v (.int .i64 0) [])
  |_,_=>none
theorem Xp2:Xw C.G C.O C.tab 27 201 [] [.nils] (.v (.int .i64 0) []):=by
  refine Yy C Y0 (fun _=>none) rfl rfl (fun n hn p _ ld e=>by cases e) fun z hz=>?_
  refine Eq.trans ?_ hz
  kernel_rfl
theorem XpI (l:List R.DV)(ao:List R.DO)(out:RD)(hg:gF27 l ao=some out):Xw C.G C.O C.tab 27 201 ao l out:=by
  unfold gF27 at hg;split at hg
  . cases hg; exact XqB _ _ _ _ _ _ _
  . cases hg; exact Xp2
  . cases hg
structure FA where
  mf:MF
  h:mf=Xv
  cn:CN
  hc:cn=cntK
  bf:BF
  hb:bf=bt
def Y6 (A:FA):(CA A.mf A.h).RL:=(((Y1.add 27 201 gF27 XpI).add 72 201 (gF72 A.cn) (XpG A.cn A.hc)).add 73 201 (g73 A.bf) (XpJ A.bf A.hb):RLaws C.G C.O C.tab)
end
end Go.Vm.YtkjjpmbpjfmbcaaGreatDoor

namespace Go.Vm.YtkjjpmbpjfmbcaaGreatDoor
open Go.Proofs Go.Vm.R
noncomputable section
set_option maxRecDepth 10000
def ce35 (n:Nat):List R.Hint:=match n with
  |0=>hn [0,3]
  |1=>hn [0,3]
  |2=>hn [0,3,5]
  |3=>hn [0,3,5]
  |4=>hn [0,3,5,6,7,8]
  |5=>hn [0,3,5,6,7,8]
  |6=>hn [0,3,5,6,9,10]
  |_=>hn [0,3,5,6,9]
def s35 (N:Nat):Cuts:=⟨fun _=>none,210,N,c35,[some (ce35 0),some (ce35 1),some (ce35 2),some (ce35 3),some (ce35 4),some (ce35 5),some (ce35 6),some (ce35 7)]⟩
theorem Xu1 (A:FA)(j n c:Nat)(ex:Bool)(full:List Ent)(sp:Bool)(el:R.EL)(op:Int)(k t w:Txt)(kk:R.EK):(Xg (CA A.mf A.h) (Y6 A) (s35 1) 0 (R.Yu [.rs 0 j n c 2 ex,.agg [.int .i64 op,.str k,.str t,.str w]] 0 .lf) (mkD [.r .ent full sp el] 1) (Xl 1 (ce35 0) kk)).ev =
    (kk (envZ [0,3] [DV.rs 0 j n c 2 ex,R.DV.ptr 1 0]) (mkD [DO.r RK.ent full sp el,R.DO.c [R.DV.int .i64 op,R.DV.str k,R.DV.str t,R.DV.str w] false 31] 1)).ev:=by kernel_rfl
theorem Xu0 (A:FA)(j n c:Nat)(ex:Bool)(full:List Ent)(sp:Bool)(el:R.EL)(op:Int)(k t w:Txt)(kk:R.EK):(Xg (CA A.mf A.h) (Y6 A) (s35 1) 1 (envZ [0,3] [.rs 0 j n c 2 ex,.ptr 1 0]) (mkD [.r .ent full sp el,.c [.int .i64 op,.str k,.str t,.str w] false 31] 1) (Xl 1 (ce35 1) kk)).ev =
    cond (okN full j n) (cond (chkB (seg full j n)) (cond (mayB op k t w) ((kk (envZ [0,3] [DV.rs 0 j n c 2 ex,R.DV.ptr 1 0]) (mkD [DO.r RK.ent full sp el,R.DO.c [R.DV.int .i64 op,R.DV.str k,R.DV.str t,R.DV.str w] false 31] 1)).ev) (cond (okN full j n) (cond (Nat.beq n 0) (some (DV.rs 1 0 0 0 2 true,(mkD [DO.r RK.ent full sp el,DO.r RK.ent [] false 41] 1))) (some (DV.rs 1 0 n n 2 false,(mkD [DO.r RK.ent full sp el,DO.r RK.ent (seg full j n) true 41] 1)))) none)) (cond (okN full j n) (cond (Nat.beq n 0) (some (DV.rs 1 0 0 0 2 true,(mkD [DO.r RK.ent full sp el,DO.r RK.ent [] false 41] 1))) (some (DV.rs 1 0 n n 2 false,(mkD [DO.r RK.ent full sp el,DO.r RK.ent (seg full j n) true 41] 1)))) none)) none:=by kernel_rfl
theorem Xuz (A:FA)(j n c:Nat)(ex:Bool)(full:List Ent)(sp:Bool)(el:R.EL)(op:Int)(k t w:Txt)(kk:R.EK):(Xg (CA A.mf A.h) (Y6 A) (s35 1) 2 (envZ [0,3] [.rs 0 j n c 2 ex,.ptr 1 0]) (mkD [.r .ent full sp el,.c [.int .i64 op,.str k,.str t,.str w] false 31] 1) (Xl 1 (ce35 2) kk)).ev =
    cond (okN full j n&&(decide (n<199)&&chkB (seg full j n))) ((kk (envZ [0,3,5] [DV.rs 0 j n c 2 ex,R.DV.ptr 1 0,R.DV.int .i64 (↑(FA.cn A k (seg full j n)):Int)]) (mkD [DO.r RK.ent full sp el,R.DO.c [R.DV.int .i64 op,R.DV.str k,R.DV.str t,R.DV.str w] false 31] 1)).ev) none:=by kernel_rfl
theorem Xuy (A:FA)(j n c:Nat)(ex:Bool)(full:List Ent)(sp:Bool)(el:R.EL)(op:Int)(k t w:Txt)(i:Int)(kk:R.EK):(Xg (CA A.mf A.h) (Y6 A) (s35 1) 3 (envZ [0,3,5] [.rs 0 j n c 2 ex,.ptr 1 0,.int .i64 i]) (mkD [.r .ent full sp el,.c [.int .i64 op,.str k,.str t,.str w] false 31] 1) (Xl 1 (ce35 3) kk)).ev =
    cond (decide (op=3)) (cond (okN full j n&&(decide (n<199)&&chkB (seg full j n))) (cond (ok73 full j n c i (↑(FA.cn A t (seg full j n)):Int)) (some (DV.rs 1 0 (List.length (FA.bf A (seg full j n) i.toNat (Int.toNat (↑(FA.cn A t (seg full j n)):Int)) [])) (List.length (FA.bf A (seg full j n) i.toNat (Int.toNat (↑(FA.cn A t (seg full j n)):Int)) [])) 2 true,(mkD [DO.r RK.ent full sp el,DO.r RK.ent (FA.bf A (seg full j n) i.toNat (Int.toNat (↑(FA.cn A t (seg full j n)):Int)) []) false { e:=41,z:=0 }] 1))) none) none) ((kk (envZ [0,3,5] [DV.rs 0 j n c 2 ex,R.DV.ptr 1 0,R.DV.int .i64 i]) (mkD [DO.r RK.ent full sp el,R.DO.c [R.DV.int .i64 op,R.DV.str k,R.DV.str t,R.DV.str w] false 31] 1)).ev):=by kernel_rfl
theorem Xux (A:FA)(j n c:Nat)(ex:Bool)(full:List Ent)(sp:Bool)(el:R.EL)(op:Int)(k t w:Txt)(i:Int)(kk:R.EK):(Xg (CA A.mf A.h) (Y6 A) (s35 1) 4 (envZ [0,3,5] [.rs 0 j n c 2 ex,.ptr 1 0,.int .i64 i]) (mkD [.r .ent full sp el,.c [.int .i64 op,.str k,.str t,.str w] false 31] 1) (Xl 1 (ce35 4) kk)).ev =
    (kk (envZ [0,3,5,6,7,8] [DV.rs 0 j n c 2 ex,R.DV.ptr 1 0,R.DV.int .i64 i,R.DV.int .i64 i,R.DV.str [],R.DV.bool false]) (mkD [DO.r RK.ent full sp el,R.DO.c [R.DV.int .i64 op,R.DV.str k,R.DV.str t,R.DV.str w] false 31] 1)).ev:=by kernel_rfl
theorem Xuw (A:FA)(j n c:Nat)(ex:Bool)(full:List Ent)(sp:Bool)(el:R.EL)(op:Int)(k t w:Txt)(i jj:Int)(kk:R.EK):(Xg (CA A.mf A.h) (Y6 A) (s35 1) 5 (envZ [0,3,5,6,7,8] [.rs 0 j n c 2 ex,.ptr 1 0,.int .i64 i,.int .i64 jj,.str [],.bool false]) (mkD [.r .ent full sp el,.c [.int .i64 op,.str k,.str t,.str w] false 31] 1) (Xl 1 (ce35 5) kk)).ev =
    cond (decide (i<(↑n:Int))) (cond (decide (0<=i)&&decide (Int.toNat i<n)) (cond (Nat.blt (j+Int.toNat i) full.length) (cond (decide (Prod.fst (List.getD full (j+Int.toNat i) ((([],[]):Ent)))=k)) (cond (decide (0<=i)&&decide (Int.toNat i<n)) (cond (Nat.blt (j+Int.toNat i) full.length) ((kk (envZ [0,3,5,6,7,8] [DV.rs 0 j n c 2 ex,R.DV.ptr 1 0,R.DV.int .i64 i,R.DV.int .i64 (IntKind.wrap .i64 (i+1)),R.DV.str (Prod.snd (List.getD full (j+Int.toNat i) ((([],[]):Ent)))),R.DV.bool true]) (mkD [DO.r RK.ent full sp el,R.DO.c [R.DV.int .i64 op,R.DV.str k,R.DV.str t,R.DV.str w] false 31] 1)).ev) none) none) ((kk (envZ [0,3,5,6,7,8] [DV.rs 0 j n c 2 ex,R.DV.ptr 1 0,R.DV.int .i64 i,R.DV.int .i64 jj,R.DV.str [],R.DV.bool false]) (mkD [DO.r RK.ent full sp el,R.DO.c [R.DV.int .i64 op,R.DV.str k,R.DV.str t,R.DV.str w] false 31] 1)).ev)) none) none) ((kk (envZ [0,3,5,6,7,8] [DV.rs 0 j n c 2 ex,R.DV.ptr 1 0,R.DV.int .i64 i,R.DV.int .i64 jj,R.DV.str [],R.DV.bool false]) (mkD [DO.r RK.ent full sp el,R.DO.c [R.DV.int .i64 op,R.DV.str k,R.DV.str t,R.DV.str w] false 31] 1)).ev):=by kernel_rfl
theorem Xuv (A:FA)(j n c:Nat)(ex:Bool)(full:List Ent)(sp:Bool)(el:R.EL)(op:Int)(k t w:Txt)(i jj:Int)(v:Txt)(th:Bool)(kk:R.EK):(Xg (CA A.mf A.h) (Y6 A) (s35 1) 6 (envZ [0,3,5,6,7,8] [.rs 0 j n c 2 ex,.ptr 1 0,.int .i64 i,.int .i64 jj,.str v,.bool th]) (mkD [.r .ent full sp el,.c [.int .i64 op,.str k,.str t,.str w] false 31] 1) (Xl 1 (ce35 6) kk)).ev =
    cond (decide (List.length v<4611686018427387904)) ((kk (envZ [0,3,5,6,9,10] [DV.rs 0 j n c 2 ex,R.DV.ptr 1 0,R.DV.int .i64 i,R.DV.int .i64 jj,R.DV.str (Prod.fst (FA.mf A op k t w k v th)),R.DV.bool (Prod.snd (FA.mf A op k t w k v th))]) (mkD [DO.r RK.ent full sp el,R.DO.c [R.DV.int .i64 op,R.DV.str k,R.DV.str t,R.DV.str w] false 31] 1)).ev) none:=by kernel_rfl
theorem Xuu (A:FA)(j n c:Nat)(ex:Bool)(full:List Ent)(sp:Bool)(el:R.EL)(op:Int)(k t w:Txt)(i jj:Int)(y:Txt)(z:Bool)(kk:R.EK):(Xg (CA A.mf A.h) (Y6 A) (s35 1) 7 (envZ [0,3,5,6,9,10] [.rs 0 j n c 2 ex,.ptr 1 0,.int .i64 i,.int .i64 jj,.str y,.bool z]) (mkD [.r .ent full sp el,.c [.int .i64 op,.str k,.str t,.str w] false 31] 1) (Xl 1 (ce35 7) kk)).ev =
    cond (!z) (cond (ok73 full j n c i jj) (some (DV.rs 1 0 (List.length (FA.bf A (seg full j n) i.toNat (Int.toNat jj) [])) (List.length (FA.bf A (seg full j n) i.toNat (Int.toNat jj) [])) 2 true,(mkD [DO.r RK.ent full sp el,DO.r RK.ent (FA.bf A (seg full j n) i.toNat (Int.toNat jj) []) false { e:=41,z:=0 }] 1))) none) ((kk (envZ [0,3,5,6,9] [DV.rs 0 j n c 2 ex,R.DV.ptr 1 0,R.DV.int .i64 i,R.DV.int .i64 jj,R.DV.str y]) (mkD [DO.r RK.ent full sp el,R.DO.c [R.DV.int .i64 op,R.DV.str k,R.DV.str t,R.DV.str w] false 31] 1)).ev):=by kernel_rfl
theorem Xut (A:FA)(j n c:Nat)(ex:Bool)(full:List Ent)(sp:Bool)(el:R.EL)(op:Int)(k t w:Txt)(i jj:Int)(y:Txt):(Yp (CA A.mf A.h) (Y6 A) (s35 1) 8 (envZ [0,3,5,6,9] [.rs 0 j n c 2 ex,.ptr 1 0,.int .i64 i,.int .i64 jj,.str y]) (mkD [.r .ent full sp el,.c [.int .i64 op,.str k,.str t,.str w] false 31] 1)).ev =
    cond (ok73 full j n c i jj) (some (DV.rs 1 0 (List.length (FA.bf A (seg full j n) i.toNat (Int.toNat jj) [(k,y)])) (List.length (FA.bf A (seg full j n) i.toNat (Int.toNat jj) [(k,y)])) 2 true,(mkD [DO.r RK.ent full sp el,DO.r RK.ent (FA.bf A (seg full j n) i.toNat (Int.toNat jj) [(k,y)]) false { e:=41,z:=0 }] 1))) none:=by kernel_rfl
theorem Xus (A:FA)(op:Int)(k t w:Txt)(kk:R.EK):(Xg (CA A.mf A.h) (Y6 A) (s35 0) 0 (R.Yu [.nils,.agg [.int .i64 op,.str k,.str t,.str w]] 0 .lf) (mkD [] 0) (Xl 0 (ce35 0) kk)).ev =
    (kk (envZ [0,3] [R.DV.nils,R.DV.ptr 0 0]) (mkD [R.DO.c [R.DV.int .i64 op,R.DV.str k,R.DV.str t,R.DV.str w] false 31] 0)).ev:=by kernel_rfl
theorem Xur (A:FA)(op:Int)(k t w:Txt)(kk:R.EK):(Xg (CA A.mf A.h) (Y6 A) (s35 0) 1 (envZ [0,3] [.nils,.ptr 0 0]) (mkD [.c [.int .i64 op,.str k,.str t,.str w] false 31] 0) (Xl 0 (ce35 1) kk)).ev =
    cond (mayB op k t w) ((kk (envZ [0,3] [R.DV.nils,R.DV.ptr 0 0]) (mkD [R.DO.c [R.DV.int .i64 op,R.DV.str k,R.DV.str t,R.DV.str w] false 31] 0)).ev) (some (R.DV.nils,(mkD [] 0))):=by kernel_rfl
theorem Xuq (A:FA)(op:Int)(k t w:Txt)(kk:R.EK):(Xg (CA A.mf A.h) (Y6 A) (s35 0) 2 (envZ [0,3] [.nils,.ptr 0 0]) (mkD [.c [.int .i64 op,.str k,.str t,.str w] false 31] 0) (Xl 0 (ce35 2) kk)).ev =
    (kk (envZ [0,3,5] [R.DV.nils,R.DV.ptr 0 0,R.DV.int .i64 0]) (mkD [R.DO.c [R.DV.int .i64 op,R.DV.str k,R.DV.str t,R.DV.str w] false 31] 0)).ev:=by kernel_rfl
theorem Xup (A:FA)(op:Int)(k t w:Txt)(i:Int)(kk:R.EK):(Xg (CA A.mf A.h) (Y6 A) (s35 0) 3 (envZ [0,3,5] [.nils,.ptr 0 0,.int .i64 0]) (mkD [.c [.int .i64 op,.str k,.str t,.str w] false 31] 0) (Xl 0 (ce35 3) kk)).ev =
    cond (decide (op=3)) (some (DV.rs 0 0 0 0 2 true,(mkD [DO.r RK.ent [] false { e:=41,z:=0 }] 0))) ((kk (envZ [0,3,5] [R.DV.nils,R.DV.ptr 0 0,R.DV.int .i64 0]) (mkD [R.DO.c [R.DV.int .i64 op,R.DV.str k,R.DV.str t,R.DV.str w] false 31] 0)).ev):=by kernel_rfl
theorem Xuo (A:FA)(op:Int)(k t w:Txt)(i:Int)(kk:R.EK):(Xg (CA A.mf A.h) (Y6 A) (s35 0) 4 (envZ [0,3,5] [.nils,.ptr 0 0,.int .i64 0]) (mkD [.c [.int .i64 op,.str k,.str t,.str w] false 31] 0) (Xl 0 (ce35 4) kk)).ev =
    (kk (envZ [0,3,5,6,7,8] [R.DV.nils,R.DV.ptr 0 0,R.DV.int .i64 0,R.DV.int .i64 0,R.DV.str [],R.DV.bool false]) (mkD [R.DO.c [R.DV.int .i64 op,R.DV.str k,R.DV.str t,R.DV.str w] false 31] 0)).ev:=by kernel_rfl
theorem Xun (A:FA)(op:Int)(k t w:Txt)(i jj:Int)(kk:R.EK):(Xg (CA A.mf A.h) (Y6 A) (s35 0) 5 (envZ [0,3,5,6,7,8] [.nils,.ptr 0 0,.int .i64 0,.int .i64 0,.str [],.bool false]) (mkD [.c [.int .i64 op,.str k,.str t,.str w] false 31] 0) (Xl 0 (ce35 5) kk)).ev =
    (kk (envZ [0,3,5,6,7,8] [R.DV.nils,R.DV.ptr 0 0,R.DV.int .i64 0,R.DV.int .i64 0,R.DV.str [],R.DV.bool false]) (mkD [R.DO.c [R.DV.int .i64 op,R.DV.str k,R.DV.str t,R.DV.str w] false 31] 0)).ev:=by kernel_rfl
theorem Xum (A:FA)(op:Int)(k t w:Txt)(i jj:Int)(v:Txt)(th:Bool)(kk:R.EK):(Xg (CA A.mf A.h) (Y6 A) (s35 0) 6 (envZ [0,3,5,6,7,8] [.nils,.ptr 0 0,.int .i64 0,.int .i64 0,.str v,.bool th]) (mkD [.c [.int .i64 op,.str k,.str t,.str w] false 31] 0) (Xl 0 (ce35 6) kk)).ev =
    cond (decide (List.length v<4611686018427387904)) ((kk (envZ [0,3,5,6,9,10] [R.DV.nils,R.DV.ptr 0 0,R.DV.int .i64 0,R.DV.int .i64 0,R.DV.str (Prod.fst (FA.mf A op k t w k v th)),R.DV.bool (Prod.snd (FA.mf A op k t w k v th))]) (mkD [R.DO.c [R.DV.int .i64 op,R.DV.str k,R.DV.str t,R.DV.str w] false 31] 0)).ev) none:=by kernel_rfl
theorem Xul (A:FA)(op:Int)(k t w:Txt)(i jj:Int)(y:Txt)(z:Bool)(kk:R.EK):(Xg (CA A.mf A.h) (Y6 A) (s35 0) 7 (envZ [0,3,5,6,9,10] [.nils,.ptr 0 0,.int .i64 0,.int .i64 0,.str y,.bool z]) (mkD [.c [.int .i64 op,.str k,.str t,.str w] false 31] 0) (Xl 0 (ce35 7) kk)).ev =
    cond (!z) (some (DV.rs 0 0 0 0 2 true,(mkD [DO.r RK.ent [] false { e:=41,z:=0 }] 0))) ((kk (envZ [0,3,5,6,9] [R.DV.nils,R.DV.ptr 0 0,R.DV.int .i64 0,R.DV.int .i64 0,R.DV.str y]) (mkD [R.DO.c [R.DV.int .i64 op,R.DV.str k,R.DV.str t,R.DV.str w] false 31] 0)).ev):=by kernel_rfl
theorem Xuk (A:FA)(op:Int)(k t w:Txt)(i jj:Int)(y:Txt):(Yp (CA A.mf A.h) (Y6 A) (s35 0) 8 (envZ [0,3,5,6,9] [.nils,.ptr 0 0,.int .i64 0,.int .i64 0,.str y]) (mkD [.c [.int .i64 op,.str k,.str t,.str w] false 31] 0)).ev =
    some (DV.rs 0 0 1 1 2 true,(mkD [DO.r RK.ent [(k,y)] false { e:=41,z:=0 }] 0)):=by kernel_rfl
def hitL (l:List Ent)(k:Txt)(i:Nat):Bool:=decide (i<l.length)&&decide ((l.getD i ([],[])).1=k)
def valL (l:List Ent)(k:Txt)(i:Nat):Txt:=cond (hitL l k i) (l.getD i ([],[])).2 []
def ZP (mf:MF)(cn:CN)(bf:BF)(l:List Ent)(op:Int)(k t w:Txt):List Ent:=cond (decide (op=3)) (bf l (cn k l) (cn t l) [])
  (cond (mf op k t w k (valL l k (cn k l)) (hitL l k (cn k l))).2 (bf l (cn k l) (cond (hitL l k (cn k l)) (cn k l+1) (cn k l)) [(k,(mf op k t w k (valL l k (cn k l)) (hitL l k (cn k l))).1)]) (bf l (cn k l) (cond (hitL l k (cn k l)) (cn k l+1) (cn k l)) []))
abbrev Xqx (full:List Ent)(sp:Bool)(el:R.EL)(q:List Ent):Option (R.DV×R.DH):=some (.rs 1 0 q.length q.length 2 true,mkD [.r .ent full sp el,rowO q] 1)
theorem Xhi {full:List Ent}{j n c i jj:Nat} (hk:okN full j n=true)(hn:n<198)(hc:n<=c)(h1:i<=jj)(h2:jj<=n):ok73 full j n c i jj=true:=by
  unfold ok73;rw[hk,Bool.true_and,decide_eq_true_eq];omega
section
variable (A:FA) (j n c:Nat) (ex:Bool) (full:List Ent) (sp:Bool) (el:R.EL) (op:Int) (k t w:Txt)
theorem XnC (i jj:Nat)(v:Txt)(th:Bool)(hk:okN full j n=true)(hn:n<198)(hc:n<=c)(h1:i<=jj)(h2:jj<=n)(hv:v.length<4611686018427387904) :
    (Yp (CA A.mf A.h) (Y6 A) (s35 1) 6 (envZ [0,3,5,6,7,8] [.rs 0 j n c 2 ex,.ptr 1 0,.int .i64 (i:Int),.int .i64 (jj:Int),.str v,.bool th]) (mkD [.r .ent full sp el,.c [.int .i64 op,.str k,.str t,.str w] false 31] 1)).ev =
    Xqx full sp el (cond (A.mf op k t w k v th).2 (A.bf (seg full j n) i jj [(k,(A.mf op k t w k v th).1)]) (A.bf (seg full j n) i jj [])):=by
  refine Xe (CA A.mf A.h) (Y6 A) (s35 1) 6 rfl rfl (fun kk=>Xuv A j n c ex full sp el op k t w i jj v th kk) ?_
  rw[decide_eq_true hv,cond_true];refine Xe (CA A.mf A.h) (Y6 A) (s35 1) 7 rfl rfl (fun kk=>Xuu A j n c ex full sp el op k t w i jj _ _ kk) ?_
  rw[Xhi hk hn hc h1 h2,cond_true,Int.toNat_natCast,Int.toNat_natCast]
  cases hz:(A.mf op k t w k v th).2 with
  |false=>rw[Bool.not_false,cond_true,cond_false]
  |true =>
    rw[Bool.not_true,cond_false,cond_true];refine (Xut A j n c ex full sp el op k t w i jj _).trans ?_
    rw[Xhi hk hn hc h1 h2,cond_true,Int.toNat_natCast,Int.toNat_natCast]
theorem Xvu (hk : okN full j n = true) (hn : n < 198) (hc : n ≤ c) (hch : chkB (seg full j n) = true) (hi : A.cn k (seg full j n) ≤ n) (ht : op = 3 → A.cn k (seg full j n) ≤ A.cn t (seg full j n) ∧ A.cn t (seg full j n) ≤ n) (hv : (valL (seg full j n) k (A.cn k (seg full j n))).length < 4611686018427387904) :
    (Yp (CA A.mf A.h) (Y6 A) (s35 1) 2 (envZ [0,3] [.rs 0 j n c 2 ex,.ptr 1 0]) (mkD [.r .ent full sp el,.c [.int .i64 op,.str k,.str t,.str w] false 31] 1)).ev =
    Xqx full sp el (ZP A.mf A.cn A.bf (seg full j n) op k t w):=by
  obtain⟨p1,_⟩:=okN_iff.1 hk
  have hl:(seg full j n).length=n:=seg_len p1
  refine Xe (CA A.mf A.h) (Y6 A) (s35 1) 2 rfl rfl (fun kk=>Xuz A j n c ex full sp el op k t w kk) ?_
  have hneed:(okN full j n&&(decide (n<199)&&chkB (seg full j n)))=true:=by rw[hk,hch,decide_eq_true (show n<199 by omega)]; rfl
  rw[hneed,cond_true];refine Xe (CA A.mf A.h) (Y6 A) (s35 1) 3 rfl rfl (fun kk=>Xuy A j n c ex full sp el op k t w _ kk) ?_
  by_cases h3:op=3
  . obtain⟨t1,t2⟩:=ht h3
    rw[hneed,cond_true,Xhi hk hn hc t1 t2,cond_true,decide_eq_true h3,cond_true,Int.toNat_natCast,Int.toNat_natCast];unfold ZP;rw[decide_eq_true h3,cond_true]
  . rw[decide_eq_false h3,cond_false]
    have e:ZP A.mf A.cn A.bf (seg full j n) op k t w=(cond (A.mf op k t w k (valL (seg full j n) k (A.cn k (seg full j n))) (hitL (seg full j n) k (A.cn k (seg full j n)))).2 (A.bf (seg full j n) (A.cn k (seg full j n)) (cond (hitL (seg full j n) k (A.cn k (seg full j n))) (A.cn k (seg full j n)+1) (A.cn k (seg full j n))) [(k,(A.mf op k t w k (valL (seg full j n) k (A.cn k (seg full j n))) (hitL (seg full j n) k (A.cn k (seg full j n)))).1)]) (A.bf (seg full j n) (A.cn k (seg full j n)) (cond (hitL (seg full j n) k (A.cn k (seg full j n))) (A.cn k (seg full j n)+1) (A.cn k (seg full j n))) [])):=by
      unfold ZP; rw[decide_eq_false h3,cond_false]
    rw[e]
    generalize A.cn k (seg full j n)=i at hi hv ⊢
    refine Xe (CA A.mf A.h) (Y6 A) (s35 1) 4 rfl rfl (fun kk=>Xux A j n c ex full sp el op k t w i kk) ?_
    refine Xe (CA A.mf A.h) (Y6 A) (s35 1) 5 rfl rfl (fun kk=>Xuw A j n c ex full sp el op k t w i i kk) ?_
    by_cases hlt:i<n
    . have hg:(seg full j n).getD i ([],[])=full.getD (j+i) ([],[]):=by
        unfold seg;rw[List.getD_eq_getElem?_getD,List.getD_eq_getElem?_getD,List.getElem?_take,if_pos hlt,List.getElem?_drop]
      rw[decide_eq_true (show (i:Int)<(n:Int) by omega),cond_true,Int.toNat_natCast,decide_eq_true (show 0<=(i:Int) by omega),decide_eq_true hlt,Bool.and_self,cond_true,show Nat.blt (j+i) full.length=true from Nat.ble_eq_true_of_le (show j+i+1<=full.length by omega),cond_true]
      have hh:hitL (seg full j n) k i=decide ((full.getD (j+i) ([],[])).1=k):=by
        unfold hitL; rw[hl,decide_eq_true hlt,Bool.true_and,hg]
      unfold valL at hv ⊢;rw[hg] at hv ⊢;rw[hh] at hv ⊢
      cases hd:decide ((full.getD (j+i) ([],[])).1=k) with
      |true =>
        rw[hd,cond_true] at hv;simp only[cond_true];rw[show IntKind.wrap .i64 ((i:Int)+1)=((i+1:Nat):Int) from XlY (b:=1) (by omega)]
        exact XnC A j n c ex full sp el op k t w i (i+1) _ true hk hn hc (by omega) (by omega) hv
      |false =>
        simp only[cond_false];exact XnC A j n c ex full sp el op k t w i i [] false hk hn hc (by omega) (by omega) (by show 0<_; omega)
    . have hh:hitL (seg full j n) k i=false:=by
        unfold hitL; rw[hl,decide_eq_false hlt,Bool.false_and]
      rw[decide_eq_false (show ¬ (i:Int)<(n:Int) by omega),cond_false]
      unfold valL;rw[hh];simp only[cond_false];exact XnC A j n c ex full sp el op k t w i i [] false hk hn hc (by omega) (by omega) (by show 0<_; omega)
end
end
end Go.Vm.YtkjjpmbpjfmbcaaGreatDoor

namespace Go.Vm.YtkjjpmbpjfmbcaaGreatDoor
open Go.Proofs Go.Vm.R
noncomputable section
theorem cnt_mono {k t:Txt} (h:Op.bytesLess k t=true):∀ l:List Ent,cntK k l<=cntK t l
  |[]=>Nat.le_refl _
  |e::r=>by
    unfold cntK
    cases he:Op.bytesLess e.1 k with
    |false=>exact Nat.zero_le _
    |true =>
      rw[Yi _ _ _ he h];exact Nat.succ_le_succ (cnt_mono h r)
theorem may3 {k t w:Txt} (h:mayB 3 k t w=true):Op.bytesLess k t=true:=by
  unfold mayB at h
  revert h
  rw[decide_eq_true (rfl:(3:Int)=3)]
  cases decide (k.length<1)<;>cases decide (108<k.length)<;>cases decide (w.length=0)<;>cases decide (t.length=0)<;>cases decide (t.length<=108)<;>intro h<;>first | exact h | (cases h; done)
def Xhl (A:FA)(full:List Ent)(j n c:Nat)(k:Txt):Bool:=okN full j n&&(decide (n<198/\n<=c)&&decide ((valL (seg full j n) k (A.cn k (seg full j n))).length<4611686018427387904))
def XuH (A:FA)(full:List Ent)(j n c:Nat)(op:Int)(k t w:Txt):RD:=.need (Xhl A full j n c k)
  (.br (chkB (seg full j n)&&mayB op k t w) (.v (.rs 1 0 (ZP A.mf A.cn A.bf (seg full j n) op k t w).length (ZP A.mf A.cn A.bf (seg full j n) op k t w).length 2 true) [rowO (ZP A.mf A.cn A.bf (seg full j n) op k t w)])
    (.br (Nat.beq n 0) (.v (.rs 1 0 0 0 2 true) [.r .ent [] false 41]) (.v (.rs 1 0 n n 2 false) [.r .ent (seg full j n) true 41])))
theorem Xso (A:FA)(j n c:Nat)(ex:Bool)(full:List Ent)(sp:Bool)(el:R.EL)(op:Int)(k t w:Txt):Xw C.G C.O C.tab 35 211 [.r .ent full sp el] [.rs 0 j n c 2 ex,.agg [.int .i64 op,.str k,.str t,.str w]] (XuH A full j n c op k t w):=by
  refine Zc (CA A.mf A.h) (Y6 A) (s35 1).lh (s35 1).cs rfl rfl (fun n hn p _ ld e=>by cases e) fun z hz=>?_
  obtain⟨hp,hz⟩:=R.XB hz;unfold Xhl at hp;rw[Bool.and_eq_true,Bool.and_eq_true,decide_eq_true_eq,decide_eq_true_eq] at hp;obtain⟨hk,⟨hn,hc⟩,hv⟩:=hp;obtain⟨p1,_⟩:=okN_iff.1 hk
  have hl:(seg full j n).length=n:=seg_len p1
  refine (ZG (CA A.mf A.h) (Y6 A) (s35 1) (l:=[.rs 0 j n c 2 ex,.agg [.int .i64 op,.str k,.str t,.str w]]) (ao:=[.r .ent full sp el]) rfl rfl).trans (Eq.trans ?_ hz);refine Xe (CA A.mf A.h) (Y6 A) (s35 1) 0 rfl rfl (fun kk=>Xu1 A j n c ex full sp el op k t w kk) ?_
  refine Xe (CA A.mf A.h) (Y6 A) (s35 1) 1 rfl rfl (fun kk=>Xu0 A j n c ex full sp el op k t w kk) ?_
  rw[hk,cond_true,cond_true]
  show _=(R.Tree.br (chkB (seg full j n)&&mayB op k t w) (.ok (.rs 1 0 (ZP A.mf A.cn A.bf (seg full j n) op k t w).length (ZP A.mf A.cn A.bf (seg full j n) op k t w).length 2 true) (mkD [.r .ent full sp el,rowO (ZP A.mf A.cn A.bf (seg full j n) op k t w)] 1))
    (R.Tree.br (Nat.beq n 0) (.ok (.rs 1 0 0 0 2 true) (mkD [.r .ent full sp el,.r .ent [] false 41] 1)) (.ok (.rs 1 0 n n 2 false) (mkD [.r .ent full sp el,.r .ent (seg full j n) true 41] 1)))).ev
  rw[Wz,Wz]
  have hcn:∀ x,A.cn x (seg full j n)<=n:=fun x=>by rw[A.hc]; exact Nat.le_trans (XjK x _) (Nat.le_of_eq hl)
  cases hch:chkB (seg full j n) with
  |false=>rw[Bool.false_and]; cases Nat.beq n 0<;>rfl
  |true =>
    cases hm:mayB op k t w with
    |false=>rw[Bool.and_false]; cases Nat.beq n 0<;>rfl
    |true =>
      rw[cond_true,cond_true,Bool.and_self];refine (Xvu A j n c ex full sp el op k t w hk hn hc hch (hcn k) (fun h3=>⟨?_,hcn t⟩) hv).trans rfl
      rw[A.hc];subst h3;exact cnt_mono (may3 hm) _
theorem Xsn (A : FA) (op : Int) (k t w : Txt) : Xw C.G C.O C.tab 35 211 [] [.nils, .agg [.int .i64 op, .str k, .str t, .str w]]
    (.br (mayB op k t w) (.br (decide (op=3)) (.v (.rs 0 0 0 0 2 true) [rowO []]) (.br (A.mf op k t w k [] false).2 (.v (.rs 0 0 1 1 2 true) [rowO [(k,(A.mf op k t w k [] false).1)]]) (.v (.rs 0 0 0 0 2 true) [rowO []]))) (.v .nils [])):=by
  refine Zc (CA A.mf A.h) (Y6 A) (s35 0).lh (s35 0).cs rfl rfl (fun n hn p _ ld e=>by cases e) fun z hz=>?_
  refine (ZG (CA A.mf A.h) (Y6 A) (s35 0) (l:=[.nils,.agg [.int .i64 op,.str k,.str t,.str w]]) (ao:=[]) rfl rfl).trans (Eq.trans ?_ hz);refine Xe (CA A.mf A.h) (Y6 A) (s35 0) 0 rfl rfl (fun kk=>Xus A op k t w kk) ?_
  refine Xe (CA A.mf A.h) (Y6 A) (s35 0) 1 rfl rfl (fun kk=>Xur A op k t w kk) ?_
  show _=(R.Tree.br (mayB op k t w) (R.Tree.br (decide (op=3)) (.ok (.rs 0 0 0 0 2 true) (mkD [rowO []] 0)) (R.Tree.br (A.mf op k t w k [] false).2 (.ok (.rs 0 0 1 1 2 true) (mkD [rowO [(k,(A.mf op k t w k [] false).1)]] 0)) (.ok (.rs 0 0 0 0 2 true) (mkD [rowO []] 0)))) (.ok .nils (mkD [] 0))).ev
  rw[Wz,Wz,Wz]
  cases mayB op k t w with
  |false=>rfl
  |true =>
    rw[cond_true,cond_true];refine Xe (CA A.mf A.h) (Y6 A) (s35 0) 2 rfl rfl (fun kk=>Xuq A op k t w kk) ?_
    refine Xe (CA A.mf A.h) (Y6 A) (s35 0) 3 rfl rfl (fun kk=>Xup A op k t w 0 kk) ?_
    cases decide (op=3) with
    |true=>rfl
    |false =>
      rw[cond_false,cond_false];refine Xe (CA A.mf A.h) (Y6 A) (s35 0) 4 rfl rfl (fun kk=>Xuo A op k t w 0 kk) ?_
      refine Xe (CA A.mf A.h) (Y6 A) (s35 0) 5 rfl rfl (fun kk=>Xun A op k t w 0 0 kk) ?_
      refine Xe (CA A.mf A.h) (Y6 A) (s35 0) 6 rfl rfl (fun kk=>Xum A op k t w 0 0 [] false kk) ?_
      rw[decide_eq_true (show ([]:Txt).length<4611686018427387904 by show 0<_; omega),cond_true]
      refine Xe (CA A.mf A.h) (Y6 A) (s35 0) 7 rfl rfl (fun kk=>Xul A op k t w 0 0 _ _ kk) ?_
      cases (A.mf op k t w k [] false).2 with
      |false=>rfl
      |true =>
        rw[Bool.not_true,cond_false,cond_true];exact Xuk A op k t w 0 0 _
abbrev GK:=Txt->List Ent->Txt×Bool
abbrev AL:=List Ent->Int->Txt->Txt->Txt->List Ent
def XrN (al:AL)(nd:List Ent->Nat->Nat->Nat->Txt->Bool)(full:List Ent)(j n c:Nat)(op:Int)(k t w:Txt):RD:=.need (nd full j n c k)
  (.br (chkB (seg full j n)&&mayB op k t w) (.v (.rs 1 0 (al (seg full j n) op k t w).length (al (seg full j n) op k t w).length 2 true) [rowO (al (seg full j n) op k t w)])
    (.br (Nat.beq n 0) (.v (.rs 1 0 0 0 2 true) [.r .ent [] false 41]) (.v (.rs 1 0 n n 2 false) [.r .ent (seg full j n) true 41])))
def A1:FA:=⟨Xv,rfl,cntK,rfl,bt,rfl⟩
def alL:AL:=ZP Xv cntK bt
def ndL:List Ent->Nat->Nat->Nat->Txt->Bool:=Xhl A1
def gF35 (mf:MF)(al:AL)(nd:List Ent->Nat->Nat->Nat->Txt->Bool):List R.DV->List R.DO->Option RD:=fun l ao=>match l,ao with
  |[.rs 0 j n c 2 ex,.agg [.int .i64 op,.str k,.str t,.str w]],[.r .ent full sp el]=>some (XrN al nd full j n c op k t w)
  |[.nils,.agg [.int .i64 op,.str k,.str t,.str w]],[]=>some (.br (mayB op k t w) (.br (decide (op=3)) (.v (.rs 0 0 0 0 2 true) [rowO []]) (.br (mf op k t w k [] false).2 (.v (.rs 0 0 1 1 2 true) [rowO [(k,(mf op k t w k [] false).1)]]) (.v (.rs 0 0 0 0 2 true) [rowO []]))) (.v .nils []))
  |_,_=>none
theorem XpH (mf:MF)(h0:mf=Xv)(al:AL)(h:al=alL)(nd:List Ent->Nat->Nat->Nat->Txt->Bool)(h2:nd=ndL)(l:List R.DV)(ao:List R.DO)(out:RD)(hg:gF35 mf al nd l ao=some out):Xw C.G C.O C.tab 35 211 ao l out:=by
  subst h0 h h2;unfold gF35 at hg;split at hg
  . cases hg; exact Xso A1 _ _ _ _ _ _ _ _ _ _ _
  . cases hg; exact Xsn A1 _ _ _ _
  . cases hg
structure FB where
  mf:MF
  h:mf=Xv
  gk:GK
  hg:gk=getK
  al:AL
  ha:al=alL
  nd:List Ent->Nat->Nat->Nat->Txt->Bool
  hn:nd=ndL
def OkE (e:Ent):Prop:=e.1 ≠ []/\e.1.length<=108/\e.2.length<=64
def LtE (a b:Ent):Prop:=Op.bytesLess a.1 b.1=true
theorem XnQ (p : Option Ent) (e : Ent) (r : List Ent) : chkL p (e :: r) = true ↔ OkE e ∧ rises p e = true ∧ chkL (some e) r = true := by
  rw[show chkL p (e::r)=cond (decide (e.1=[])) false (cond (decide (108<(e.1.length:Int))) false (cond (decide (64<(e.2.length:Int))) false (cond (rises p e) (chkL (some e) r) false))) from rfl]
  unfold OkE
  by_cases h1:e.1=[]
  . simp[h1]
  . by_cases h2:108<(e.1.length:Int)
    . rw[decide_eq_false h1,decide_eq_true h2]
      constructor
      . intro h; cases h
      . intro h; omega
    . by_cases h3:64<(e.2.length:Int)
      . rw[decide_eq_false h1,decide_eq_false h2,decide_eq_true h3]
        constructor
        . intro h; cases h
        . intro h; omega
      . rw[decide_eq_false h1,decide_eq_false h2,decide_eq_false h3]
        constructor
        . intro h
          refine⟨⟨h1,by omega,by omega⟩,?_⟩
          revert h
          cases rises p e<;>cases chkL (some e) r<;>simp
        . rintro⟨_,h4,h5⟩
          rw[h4,h5]; rfl
theorem Xlq (p:Option Ent)(e:Ent):rises p e=true<->∀ q,p=some q->LtE q e:=by
  cases p with
  |none=>exact⟨fun _ q h=>(by cases h),fun _=>rfl⟩
  |some q=>exact⟨fun h q' h'=>(by cases h'; exact h),fun h=>h q rfl⟩
theorem Xe7 : ∀ (l : List Ent) (p : Option Ent), chkL p l = true ↔ (∀ e ∈ l, OkE e) ∧ l.Pairwise LtE ∧ ∀ q, p = some q → ∀ e ∈ l, LtE q e
  |[],p=>⟨fun _=>⟨fun e h=>(List.not_mem_nil h).elim,.nil,fun q _ e h=>(List.not_mem_nil h).elim⟩,fun _=>rfl⟩
  |e::r,p=>by
    rw[XnQ,Xlq,Xe7 r (some e),List.pairwise_cons];constructor
    . rintro⟨h1,h2,h3,h4,h5⟩
      refine⟨fun x hx=>?_,⟨fun x hx=>h5 e rfl x hx,h4⟩,fun q hq x hx=>?_⟩
      . rcases List.mem_cons.1 hx with rfl | hx
        . exact h1
        . exact h3 x hx
      . rcases List.mem_cons.1 hx with rfl | hx
        . exact h2 q hq
        . exact Yi _ _ _ (h2 q hq) (h5 e rfl x hx)
    . rintro⟨h1,⟨h2,h3⟩,h4⟩
      exact⟨h1 e List.mem_cons_self,fun q hq=>h4 q hq e List.mem_cons_self,fun x hx=>h1 x (List.mem_cons_of_mem _ hx),h3,fun q hq x hx=>(by cases hq; exact h2 x hx)⟩
theorem XbX (l:List Ent):chkB l=true<->(∀ e∈l,OkE e)/\l.Pairwise LtE :=
  ⟨fun h=>⟨((Xe7 l none).1 h).1,((Xe7 l none).1 h).2.1⟩,fun h=>(Xe7 l none).2 ⟨h.1,h.2,fun q hq=>(by cases hq)⟩⟩
theorem Xdy (k:Txt):∀ (l:List Ent),∀ e∈l.take (cntK k l),Op.bytesLess e.1 k=true
  |[],e,h=>by simp[cntK] at h
  |a::r,e,h=>by
    unfold cntK at h
    cases ha:Op.bytesLess a.1 k with
    |false=>rw[ha] at h; simp at h
    |true =>
      rw[ha] at h
      rcases List.mem_cons.1 h with rfl | h
      . exact ha
      . exact Xdy k r e h
theorem Xdz (k : Txt) : ∀ (l : List Ent), l.Pairwise LtE → ∀ e ∈ l.drop (cntK k l), Op.bytesLess e.1 k = false
  |[],_,e,h=>by simp[cntK] at h
  |a::r,hp,e,h=>by
    rw[List.pairwise_cons] at hp;unfold cntK at h
    cases ha:Op.bytesLess a.1 k with
    |true=>rw[ha] at h; exact Xdz k r hp.2 e h
    |false =>
      rw[ha] at h
      rcases List.mem_cons.1 (show e∈a::r from h) with rfl | h
      . exact ha
      . cases he:Op.bytesLess e.1 k with
        |false=>rfl
        |true=>rw[Yi _ _ _ (hp.1 e h) he] at ha; cases ha
theorem XaP (x:Txt):∀ l:List Ent,(∀ e∈l,e.1 ≠ x)->getK x l=([],false)
  |[],_=>rfl
  |a::r,h=>by
    show cond (decide (a.1=x)) (a.2,true) (getK x r)=_
    rw[decide_eq_false (h a List.mem_cons_self)];exact XaP x r fun e he=>h e (List.mem_cons_of_mem _ he)
theorem Xf5 (x:Txt):∀ l:List Ent,(getK x l).2=true->(x,(getK x l).1)∈l
  |[],h=>by cases h
  |a::r,h=>by
    have e:getK x (a::r)=cond (decide (a.1=x)) (a.2,true) (getK x r):=rfl
    rw[e] at h ⊢
    by_cases hx:a.1=x
    . rw[decide_eq_true hx]
      subst hx;exact List.mem_cons_self
    . rw[decide_eq_false hx] at h ⊢
      exact List.mem_cons_of_mem _ (Xf5 x r h)
theorem Xbi (x:Txt):∀ l:List Ent,(getK x l).2=false->getK x l=([],false)/\∀ e∈l,e.1 ≠ x
  |[],_=>⟨rfl,fun e h=>(List.not_mem_nil h).elim⟩
  |a::r,h=>by
    have e:getK x (a::r)=cond (decide (a.1=x)) (a.2,true) (getK x r):=rfl
    rw[e] at h ⊢
    by_cases hx:a.1=x
    . rw[decide_eq_true hx] at h; cases h
    . rw[decide_eq_false hx] at h ⊢
      obtain⟨h1,h2⟩:=Xbi x r h
      refine⟨h1,fun y hy=>?_⟩
      rcases List.mem_cons.1 hy with rfl | hy
      . exact hx
      . exact h2 y hy
theorem XuL {a b:Ent} (h:LtE a b):a.1 ≠ b.1:=fun e=>by
  have h':Op.bytesLess a.1 b.1=true:=h
  rw[e,YA] at h'; cases h'
theorem Xhs (x v:Txt):∀ l:List Ent,l.Pairwise LtE->(x,v)∈l->getK x l=(v,true)
  |[],_,h=>(List.not_mem_nil h).elim
  |a::r,hp,h=>by
    rw[List.pairwise_cons] at hp
    show cond (decide (a.1=x)) (a.2,true) (getK x r)=_
    rcases List.mem_cons.1 h with e | h
    . rw[← e,decide_eq_true rfl]; rfl
    . rw[decide_eq_false (XuL (hp.1 _ h))]
      exact Xhs x v r hp.2 h
theorem Xht (x:Txt)(l:List Ent) {e:Ent} (he:e∈l)(hx:e.1=x):(getK x l).2=true:=by
  cases h:(getK x l).2 with
  |true=>rfl
  |false=>exact ((Xbi x l h).2 e he hx).elim
theorem XdN (x:Txt) {l r:List Ent} (hl:l.Pairwise LtE)(hr:r.Pairwise LtE)(h:∀ e:Ent,e.1=x->(e∈l<->e∈r)):getK x l=getK x r:=by
  cases hg:(getK x r).2 with
  |true =>
    have hm:=(h (x,(getK x r).1) rfl).2 (Xf5 x r hg);rw[Xhs x _ l hl hm];rw[← hg]
  |false =>
    obtain⟨h1,h2⟩:=Xbi x r hg;rw[h1];exact XaP x l fun e he hx=>h2 e ((h e hx).1 he) hx
theorem Xds (k : Txt) : ∀ l : List Ent, l.Pairwise LtE → hitL l k (cntK k l) = (getK k l).2 ∧ valL l k (cntK k l) = (getK k l).1
  |[],_=>⟨rfl,rfl⟩
  |a::r,hp=>by
    rw[List.pairwise_cons] at hp
    have e1:cntK k (a::r)=cond (Op.bytesLess a.1 k) (cntK k r+1) 0:=rfl
    have e2:getK k (a::r)=cond (decide (a.1=k)) (a.2,true) (getK k r):=rfl
    rw[e1,e2]
    cases ha:Op.bytesLess a.1 k with
    |true =>
      have hne:a.1 ≠ k:=fun e=>by rw[e,YA] at ha; cases ha
      obtain⟨h1,h2⟩:=Xds k r hp.2;rw[decide_eq_false hne,cond_true,cond_false,← h1,← h2]
      have hh:hitL (a::r) k (cntK k r+1)=hitL r k (cntK k r):=by
        unfold hitL;rw[List.length_cons,List.getD_cons_succ,decide_eq_decide.2 (Nat.add_lt_add_iff_right (k:=1))]
      exact⟨hh,by unfold valL; rw[hh,List.getD_cons_succ]⟩
    |false =>
      rw[cond_false]
      have hh:hitL (a::r) k 0=decide (a.1=k):=by
        unfold hitL;rw[decide_eq_true (show 0<(a::r).length by rw[List.length_cons]; omega),Bool.true_and]; rfl
      by_cases hk:a.1=k
      . rw[decide_eq_true hk] at hh ⊢
        exact⟨hh,by unfold valL; rw[hh]; rfl⟩
      . rw[decide_eq_false hk] at hh ⊢
        have:getK k r=([],false):=XaP k r fun e he hx=>by
          have h1:Op.bytesLess a.1 e.1=true:=hp.1 e he
          rw[hx,ha] at h1; cases h1
        rw[cond_false,this]
        exact⟨hh,by unfold valL; rw[hh]; rfl⟩
theorem XlE {s:Txt} (h:fine (Zu s)=true):s.length=21:=by
  unfold Zu at h
  by_cases h1:s.length<21
  . rw[decide_eq_true h1] at h; cases h
  . by_cases h2:21<s.length
    . rw[decide_eq_false h1,decide_eq_true h2] at h; cases h
    . omega
theorem XjZ {k w:Txt} (h:Xgf k w=true):w.length<=64:=by
  unfold Xgf at h
  revert h
  cases decide (((k.getD 0 0).toNat:Int)=109) with
  |true=>intro h; have:=XlE h; omega
  |false =>
    cases decide (((k.getD 0 0).toNat:Int)=100) with
    |true =>
      intro h
      have h':Wp w=true:=by revert h; cases Wp w<;>simp
      unfold Wp at h';simp only[Bool.and_eq_true,decide_eq_true_eq] at h';exact h'.2.1
    |false=>intro h; have:=of_decide_eq_true h; omega
theorem Xql (v w:Txt):(Xeo v w).length<=64:=by
  unfold Xeo Xa1
  cases hp:pM (pOf w).1 (pOf w).2.1 (pOf w).2.2.1 (pOf w).2.2.2.1 with
  |false =>
    refine Nat.le_trans (XeI _) ?_
    rw[List.length_take]; omega
  |true =>
    cases hc:(pOf w).1 with
    |true =>
      rw[hc] at hp
      have:=XmM hp
      refine Nat.le_trans (XeI _) ?_
      rw[at_len]; omega
    |false =>
      rw[hc] at hp;obtain⟨h1,h2,h3,h4⟩:=XmL hp;refine Nat.le_trans (XeI _) ?_
      rw[List.length_append,List.length_append,at_len,at_len]; omega
theorem Xl5 (k z m t:Nat):(Xby k z m t).length=21:=rfl
theorem Xgt (k w v : Txt) (th : Bool) (hv : v.length ≤ 64) : (Zy k w v th).1.length ≤ 64 := by
  unfold Zy
  cases decide (((k.getD 0 0).toNat:Int)=100) with
  |true=>exact Xql v w
  |false =>
    cases th with
    |false=>exact hv
    |true =>
      cases decide ((mOf v).2.2.2.2=0) with
      |false=>exact hv
      |true =>
        show (Xhn _ _).length<=64
        unfold Xhn
        cases mM (.ofNat (mOf v).1) (zV (mOf v) (cOf w)) (mkV (mOf v) (cOf w)) with
        |true=>show (Xby _ _ _ _).length<=64; rw[Xl5]; omega
        |false=>exact Nat.zero_le _
theorem Xk9 {k t w:Txt} (h:mayB 1 k t w=true):Xgf k w=true:=by
  unfold mayB at h
  revert h
  cases decide (k.length<1)<;>cases decide (108<k.length)<;>cases decide (t.length=0)<;>cases Xgf k w<;>simp
theorem Xpt {op:Int}{k t w:Txt} (h:mayB op k t w=true):k ≠ []/\k.length<=108:=by
  unfold mayB at h
  by_cases h1:k.length<1
  . rw[decide_eq_true h1] at h; cases h
  . by_cases h2:108<k.length
    . rw[decide_eq_false h1,decide_eq_true h2] at h; cases h
    . exact⟨fun e=>by subst e; exact h1 (by show 0<1; omega),by omega⟩
theorem Xi5 (k w v:Txt)(th:Bool)(hv:th=false->v=[])(h:(Zy k w v th).2=false):(Zy k w v th).1=[]:=by
  revert h
  unfold Zy
  cases decide (((k.getD 0 0).toNat:Int)=100) with
  |true =>
    intro h
    show Xeo v w=[]
    by_cases e:Xeo v w=[]
    . exact e
    . rw[decide_eq_false e] at h; cases h
  |false =>
    cases th with
    |false=>intro _; exact hv rfl
    |true=>cases decide ((mOf v).2.2.2.2=0)<;>intro h<;>cases h
theorem Xoi {op:Int}{k t w v:Txt}{th:Bool} (hm:mayB op k t w=true)(h3:op ≠ 3)(hv:th=false->v=[])(hl:v.length<=64) :
    (Xv op k t w k v th).1.length<=64/\((Xv op k t w k v th).2=false->(Xv op k t w k v th).1=[]):=by
  have ht:Yw op k t w k=true:=by
    unfold Yw;rw[hm,decide_eq_false h3];exact decide_eq_true rfl
  have hcv:cond th v []=v:=by cases th with | true=>rfl | false=>exact (hv rfl).symm
  unfold Xv Xf0;rw[ht,hcv]
  by_cases h1:op=1
  . subst h1
    exact⟨XjZ (Xk9 hm),fun h=>by cases h⟩
  . rw[decide_eq_false h1]
    cases decide (op=4) with
    |true=>exact⟨Xgt k w v th hl,Xi5 k w v th hv⟩
    |false=>exact⟨Nat.zero_le _,fun _=>rfl⟩
theorem Xom {l:List Ent}{k t w:Txt} (hc:l.Pairwise LtE)(hm:mayB 3 k t w=true) :
    alL l 3 k t w=l.take (cntK k l)++l.drop (cntK t l):=by
  unfold alL ZP bt;rw[decide_eq_true rfl,cond_true,List.append_nil]
theorem XlI {l:List Ent}{k t w:Txt} (hm:mayB 3 k t w=true):(l.take (cntK k l)++l.drop (cntK t l)).Sublist l:=by
  have h:=cnt_mono (may3 hm) l
  have h1:(l.take (cntK k l)).Sublist (l.take (cntK t l)):=by
    have:l.take (cntK k l)=(l.take (cntK t l)).take (cntK k l):=by rw[List.take_take,Nat.min_eq_left h]
    rw[this]; exact List.take_sublist _ _
  have h2:=h1.append (List.Sublist.refl (l.drop (cntK t l)))
  rwa [List.take_append_drop] at h2
theorem XpV {l:List Ent}{k:Txt} (hp:l.Pairwise LtE):∀ e∈l.drop (cond (hitL l k (cntK k l)) (cntK k l+1) (cntK k l)),Op.bytesLess k e.1=true:=by
  intro e he
  cases hh:hitL l k (cntK k l) with
  |true =>
    rw[hh,cond_true] at he;unfold hitL at hh;rw[Bool.and_eq_true,decide_eq_true_eq,decide_eq_true_eq] at hh;obtain⟨h1,h2⟩:=hh;rw[List.getD_eq_getElem?_getD,List.getElem?_eq_getElem h1] at h2;have hd:=List.drop_eq_getElem_cons h1;have hp':=hp.drop (i:=cntK k l);rw[hd,List.pairwise_cons] at hp'
    have:=hp'.1 e he
    rw[← show l[cntK k l].1=k from h2]
    exact this
  |false =>
    rw[hh,cond_false] at he;have h0:=Xdz k l hp e he;have hg:=(Xds k l hp).1;rw[hh] at hg;have hne:=(Xbi k l hg.symm).2 e (List.mem_of_mem_drop he)
    cases hk:Op.bytesLess k e.1 with
    |true=>rfl
    |false=>exact (hne (Xah _ _ h0 hk)).elim
theorem Xl6 {l:List Ent}{k:Txt}{e:Ent} (he:e∈l)(hk:e.1 ≠ k)(hp:l.Pairwise LtE):e∈l.take (cntK k l)∨e∈l.drop (cond (hitL l k (cntK k l)) (cntK k l+1) (cntK k l)):=by
  rw[← List.take_append_drop (cntK k l) l] at he
  rcases List.mem_append.1 he with he | he
  . exact .inl he
  . cases hh:hitL l k (cntK k l) with
    |false=>exact .inr he
    |true =>
      unfold hitL at hh;rw[Bool.and_eq_true,decide_eq_true_eq,decide_eq_true_eq] at hh;obtain⟨h1,h2⟩:=hh;rw[List.getD_eq_getElem?_getD,List.getElem?_eq_getElem h1] at h2;rw[List.drop_eq_getElem_cons h1] at he
      rcases List.mem_cons.1 he with rfl | he
      . exact (hk h2).elim
      . exact .inr he
theorem XkP {l:List Ent}{op:Int}{k t w:Txt} (hp:l.Pairwise LtE)(h3:op ≠ 3) :
    alL l op k t w=l.take (cntK k l)++cond (Xv op k t w k (getK k l).1 (getK k l).2).2 [(k,(Xv op k t w k (getK k l).1 (getK k l).2).1)] []++l.drop (cond (hitL l k (cntK k l)) (cntK k l+1) (cntK k l)):=by
  unfold alL ZP bt;rw[decide_eq_false h3,cond_false,(Xds k l hp).1,(Xds k l hp).2]
  cases (Xv op k t w k (getK k l).1 (getK k l).2).2<;>rfl
theorem Xhr {l:List Ent}{k:Txt} (h:∀ e∈l,OkE e):(getK k l).1.length<=64/\((getK k l).2=false->(getK k l).1=[]):=by
  cases hg:(getK k l).2 with
  |true=>exact⟨(h _ (Xf5 k l hg)).2.2,fun e=>by cases e⟩
  |false=>rw[(Xbi k l hg).1]; exact⟨Nat.zero_le _,fun _=>rfl⟩
theorem XqM {l : List Ent} {op : Int} {k t w : Txt} (hc : chkB l = true) (hm : mayB op k t w = true) : chkB (alL l op k t w) = true ∧
    (∀ x,getK x (alL l op k t w)=Xv op k t w x (getK x l).1 (getK x l).2)/\(∀ e∈alL l op k t w,e.1=k∨(getK e.1 l).2=true)/\(alL l op k t w).length<=l.length+1:=by
  obtain⟨ho,hp⟩:=(XbX l).1 hc
  by_cases h3:op=3
  · subst h3
    rw[Xom hp hm];have hs:=XlI (l:=l) hm;have hp2:=hp.sublist hs
    refine⟨(XbX _).2 ⟨fun e he=>ho e (hs.subset he),hp2⟩,fun x=>?_,fun e he=>.inr (Xht _ l (hs.subset he) rfl),Nat.le_trans hs.length_le (Nat.le_succ _)⟩
    have hkt:=may3 hm
    have ht:Yw 3 k t w x=cond (!Op.bytesLess x k) (Op.bytesLess x t) false:=by
      unfold Yw;rw[hm]; rfl
    unfold Xv;rw[ht]
    have hcv:((cond (getK x l).2 (getK x l).1 [],(getK x l).2):Txt×Bool)=getK x l:=by
      cases hg:(getK x l).2 with
      |true=>rw[cond_true,← hg]
      |false=>rw[(Xbi x l hg).1]; rfl
    rw[hcv]
    cases h1:Op.bytesLess x k with
    |true =>
      refine XdN x hp2 hp fun e hx=>⟨fun he=>hs.subset he,fun he=>?_⟩
      refine List.mem_append_left _ ?_
      rw[← List.take_append_drop (cntK k l) l] at he
      rcases List.mem_append.1 he with he | he
      . exact he
      . have:=Xdz k l hp e he
        rw[hx,h1] at this; cases this
    |false =>
      cases h2:Op.bytesLess x t with
      |false =>
        refine XdN x hp2 hp fun e hx=>⟨fun he=>hs.subset he,fun he=>?_⟩
        refine List.mem_append_right _ ?_
        rw[← List.take_append_drop (cntK t l) l] at he
        rcases List.mem_append.1 he with he | he
        . have:=Xdy t l e he
          rw[hx,h2] at this; cases this
        . exact he
      |true =>
        refine XaP x _ fun e he hx=>?_
        rcases List.mem_append.1 he with he | he
        . have:=Xdy k l e he
          rw[hx,h1] at this; cases this
        . have:=Xdz t l hp e he
          rw[hx,h2] at this; cases this
  . rw[XkP hp h3]
    obtain⟨g1,g2⟩:=Xhr (k:=k) ho;obtain⟨a1,a2⟩:=Xoi hm h3 g2 g1;obtain⟨k1,k2⟩:=Xpt hm;have hgt:=XpV (k:=k) hp;have hsp:=fun (e:Ent) (he:e∈l) (hk:e.1 ≠ k)=>Xl6 he hk hp
    have hlt:=Xdy k l
    generalize hy:Xv op k t w k (getK k l).1 (getK k l).2=y at a1 a2 ⊢
    generalize hD:l.drop (cond (hitL l k (cntK k l)) (cntK k l+1) (cntK k l))=D at hgt hsp ⊢
    have hDs:D.Sublist l:=by rw[← hD]; exact List.drop_sublist _ _
    have hTs:(l.take (cntK k l)).Sublist l:=List.take_sublist _ _
    have hlen:(l.take (cntK k l)).length+D.length<=l.length:=by
      rw[← hD,List.length_take,List.length_drop]
      cases hitL l k (cntK k l) with
      |true=>rw[cond_true]; omega
      |false=>rw[cond_false]; omega
    generalize hT:l.take (cntK k l)=T at hlt hsp hTs hlen ⊢
    have hI:∀ e∈(cond y.2 [(k,y.1)] []:List Ent),e=(k,y.1):=by
      intro e he
      cases hy2:y.2 with
      |true=>rw[hy2] at he; simpa using he
      |false=>rw[hy2] at he; exact (List.not_mem_nil he).elim
    have hp2:(T++cond y.2 [(k,y.1)] []++D).Pairwise LtE:=by
      rw[List.append_assoc,List.pairwise_append,List.pairwise_append]
      refine⟨hp.sublist hTs,⟨?_,hp.sublist hDs,fun a ha b hb=>?_⟩,fun a ha b hb=>?_⟩
      . cases y.2 with
        |true=>exact List.pairwise_singleton _ _
        |false=>exact .nil
      . rw[hI a ha]; exact hgt b hb
      . rcases List.mem_append.1 hb with hb | hb
        . rw[hI b hb]; exact hlt a ha
        . exact Yi _ _ _ (hlt a ha) (hgt b hb)
    refine⟨(XbX _).2 ⟨fun e he=>?_,hp2⟩,fun x=>?_,fun e he=>?_,?_⟩
    . rcases List.mem_append.1 he with he | he
      . rcases List.mem_append.1 he with he | he
        . exact ho e (hTs.subset he)
        . rw[hI e he]; exact⟨k1,k2,a1⟩
      . exact ho e (hDs.subset he)
    . by_cases hx:x=k
      . subst hx
        rw[hy]
        cases hy2:y.2 with
        |true =>
          rw[hy2] at hp2;rw[cond_true] at hp2 ⊢;rw[Xhs x y.1 _ hp2 (List.mem_append_left _ (List.mem_append_right _ List.mem_cons_self)),← hy2]
        |false =>
          rw[cond_false,List.append_nil]
          have:y=([],false):=by rw[← a2 hy2,← hy2]
          rw[this];refine XaP x _ fun e he hx=>?_
          rcases List.mem_append.1 he with he | he
          . have:=hlt e he; rw[hx,YA] at this; cases this
          . have:=hgt e he; rw[hx,YA] at this; cases this
      . have ht:Yw op k t w x=false:=by
          unfold Yw;rw[hm,decide_eq_false h3];exact decide_eq_false hx
        unfold Xv;rw[ht,cond_false]
        have hcv:((cond (getK x l).2 (getK x l).1 [],(getK x l).2):Txt×Bool)=getK x l:=by
          cases hg:(getK x l).2 with
          |true=>rw[cond_true,← hg]
          |false=>rw[(Xbi x l hg).1]; rfl
        rw[hcv];refine XdN x hp2 hp fun e hex=>⟨fun he=>?_,fun he=>?_⟩
        . rcases List.mem_append.1 he with he | he
          . rcases List.mem_append.1 he with he | he
            . exact hTs.subset he
            . rw[hI e he] at hex; exact (hx hex.symm).elim
          . exact hDs.subset he
        . rcases hsp e he (fun h=>hx (hex.symm.trans h)) with h | h
          . exact List.mem_append_left _ (List.mem_append_left _ h)
          . exact List.mem_append_right _ h
    . rcases List.mem_append.1 he with he | he
      . rcases List.mem_append.1 he with he | he
        . exact .inr (Xht _ l (hTs.subset he) rfl)
        . rw[hI e he]; exact .inl rfl
      . exact .inr (Xht _ l (hDs.subset he) rfl)
    . rw[List.length_append,List.length_append]
      have:(cond y.2 [(k,y.1)] []:List Ent).length<=1:=by cases y.2<;>simp
      omega
end
end Go.Vm.YtkjjpmbpjfmbcaaGreatDoor

namespace Go.Vm.YtkjjpmbpjfmbcaaGreatDoor.B
open Go.Proofs
noncomputable section
theorem YA:∀ a:List UInt8,Op.bytesLess a a=false
  |[]=>rfl
  |a::x=>by
    simp only[Op.bytesLess,YA x,Bool.and_false,Bool.or_false,decide_eq_false_iff_not];exact UInt8.lt_irrefl a
theorem Yi:∀ a b c:List UInt8,Op.bytesLess a b=true->Op.bytesLess b c=true->Op.bytesLess a c=true
  |[],[],_,h,_=>by simp[Op.bytesLess] at h
  |[],_::_,[],_,h=>by simp[Op.bytesLess] at h
  |[],_::_,_::_,_,_=>rfl
  |_::_,[],_,h,_=>by simp[Op.bytesLess] at h
  |_::_,_::_,[],_,h=>by simp[Op.bytesLess] at h
  |a::x,b::y,c::z,h1,h2=>by
    simp only[Op.bytesLess,Bool.or_eq_true,decide_eq_true_eq,Bool.and_eq_true,beq_iff_eq] at h1 h2 ⊢
    rcases h1 with h1 | ⟨rfl,h1⟩<;>rcases h2 with h2 | ⟨rfl,h2⟩
    . exact .inl (UInt8.lt_trans h1 h2)
    . exact .inl h1
    . exact .inl h2
    . exact .inr ⟨rfl,Yi x y z h1 h2⟩
theorem Xah : ∀ a b : List UInt8, Op.bytesLess a b = false → Op.bytesLess b a = false → a = b
  |[],[],_,_=>rfl
  |[],_::_,h,_=>by simp[Op.bytesLess] at h
  |_::_,[],_,h=>by simp[Op.bytesLess] at h
  |a::x,b::y,h1,h2=>by
    simp only[Op.bytesLess,Bool.or_eq_false_iff,decide_eq_false_iff_not] at h1 h2
    have e:a=b:=by
      have:=h1.1
      have:=h2.1
      rcases UInt8.lt_or_lt_of_ne (a:=a) (b:=b) with h
      by_cases hab:a=b
      . exact hab
      . rcases UInt8.lt_or_lt_of_ne hab with h | h
        . exact absurd h h1.1
        . exact absurd h h2.1
    subst e;have h3:=h1.2;have h4:=h2.2;simp only[beq_self_eq_true,Bool.true_and] at h3 h4;rw[Xah x y h3 h4]
theorem Xeg {a b c:List UInt8} (h1:Op.bytesLess a b=true)(h2:Op.bytesLess c b=false):Op.bytesLess a c=true:=by
  cases hbc:Op.bytesLess b c with
  |true=>exact Yi _ _ _ h1 hbc
  |false =>
    have:=Xah _ _ h2 hbc
    subst this;exact h1
theorem XaN (a:Txt):Op.bytesLess a []=false:=by cases a<;>rfl
theorem Xgz {k t v:Txt} (h:mayB 3 k t v=true):v=[]/\Op.bytesLess k t=true:=by
  unfold mayB at h
  revert h
  cases decide (k.length<1)<;>cases decide (108<k.length)<;>cases hv:decide (v.length=0)<;>cases decide (t.length=0)<;>cases decide (t.length<=108)<;>cases Op.bytesLess k t<;>intro h<;>first | (cases h; done) | exact⟨List.length_eq_zero_iff.1 (of_decide_eq_true hv),rfl⟩
def rank (S:List Txt)(a:Txt):Nat:=(S.filter fun s=>Op.bytesLess s a).length
theorem Xha {a b:Txt} (h:Op.bytesLess a b=false):∀ S,rank S b<=rank S a
  |[]=>Nat.le_refl _
  |s::S=>by
    have ih:=Xha h S;unfold rank at ih ⊢;simp only[List.filter_cons]
    cases hb:Op.bytesLess s b with
    |false =>
      cases ha:Op.bytesLess s a with
      |false=>simpa using ih
      |true=>simp only[if_true,Bool.false_eq_true,if_false,List.length_cons]; omega
    |true =>
      rw[Xeg hb h];simp only[if_true,List.length_cons]; omega
theorem Xe1 {a b:Txt} (h:Op.bytesLess a b=true):∀ S,a∈S->rank S a<rank S b
  |[],hm=>by cases hm
  |s::S,hm=>by
    have hba:Op.bytesLess b a=false:=by
      cases hc:Op.bytesLess b a with
      |false=>rfl
      |true=>have:=Yi _ _ _ h hc; rw[YA] at this; cases this
    have le:=Xha hba S
    have split:rank (s::S) a=(if Op.bytesLess s a=true then 1 else 0)+rank S a/\rank (s::S) b=(if Op.bytesLess s b=true then 1 else 0)+rank S b:=by
      unfold rank;simp only[List.filter_cons]
      constructor<;>split<;>(try simp only[List.length_cons])<;>omega
    rw[split.1,split.2]
    rcases List.mem_cons.1 hm with rfl | hm
    . rw[YA,h,if_neg (by decide),if_pos rfl]; omega
    . have:=Xe1 h S hm
      cases ha:Op.bytesLess s a with
      |false=>rw[if_neg (by decide)]; omega
      |true=>rw[Yi _ _ _ ha h,if_pos rfl]; omega
theorem Yf (S:List Txt) {a b:Txt} (ha:a∈S):Op.bytesLess a b=decide (rank S a<rank S b):=by
  cases h:Op.bytesLess a b with
  |true=>rw[decide_eq_true (Xe1 h S ha)]
  |false=>rw[decide_eq_false (by have:=Xha h S; omega)]
theorem XpT (S:List Txt) {a b:Txt} (ha:a∈S)(hb:b∈S):decide (a=b)=decide (rank S a=rank S b):=by
  by_cases h:a=b
  . subst h; rw[decide_eq_true rfl,decide_eq_true rfl]
  . rw[decide_eq_false h]
    cases hab:Op.bytesLess a b with
    |true=>rw[decide_eq_false (by have:=Xe1 hab S ha; omega)]
    |false =>
      cases hba:Op.bytesLess b a with
      |true=>rw[decide_eq_false (by have:=Xe1 hba S hb; omega)]
      |false=>exact absurd (Xah _ _ hab hba) h
theorem XmF (S:List Txt):rank S []=0:=by
  unfold rank;rw[List.filter_eq_nil_iff.2 (fun s _=>by rw[XaN]; decide)]; rfl
theorem XiB (S:List Txt) {a:Txt} (ha:a∈S)(hn:[]∈S):decide (a=[])=decide (rank S a=0):=by
  rw[XpT S ha hn,XmF]
def XlR:Msg:=(0,[],[],[])
def prM (m:Msg)(a b:Txt):Msg:=cond (XD m a b) (Xn m a b) XlR
def tM (m:Msg)(x:Txt):Bool:=Yw m.1 m.2.1 m.2.2.1 m.2.2.2 x
def inB (x a b:Txt):Bool:=!Op.bytesLess x a&&(decide (b=[])||Op.bytesLess x b)
theorem Xow (x:Txt):tM XlR x=false:=rfl
theorem Xnd {op:Int}{k t v:Txt} (h:mayB op k t v=true):0<k.length/\k.length<=108/\t.length<=108:=by
  unfold mayB at h
  by_cases h1:k.length<1
  . rw[decide_eq_true h1] at h; cases h
  rw[decide_eq_false h1] at h
  by_cases h2:108<k.length
  . rw[decide_eq_true h2] at h; cases h
  rw[decide_eq_false h2] at h
  refine⟨by omega,by omega,?_⟩
  by_cases h3:t.length=0
  . omega
  . rw[decide_eq_false h3] at h
    by_cases h4:t.length<=108
    . exact h4
    . rw[decide_eq_false h4] at h
      exfalso
      revert h
      cases decide (op=3)<;>cases decide (v.length=0)<;>simp
theorem Xfy {k t:Txt} (h1:0<k.length)(h2:k.length<=108)(h3:t.length<=108)(h:Op.bytesLess k t=true):mayB 3 k t []=true:=by
  unfold mayB;rw[decide_eq_false (by omega),decide_eq_false (by omega),decide_eq_true h3,h]
  have:t.length ≠ 0:=fun e=>by rw[List.eq_nil_of_length_eq_zero e,XaN] at h; cases h
  rw[decide_eq_false this]; rfl
theorem Xc9 (m : Msg) (a b x : Txt) (ha : a.length ≤ 108) (hb : b.length ≤ 108) : tM (prM m a b) x = (tM m x && inB x a b) := by
  obtain⟨op,k,t,v⟩:=m;unfold prM
  cases hm:mayB op k t v with
  |false =>
    have e1:XD (op,k,t,v) a b=false:=by unfold XD; rw[hm]; rfl
    have e2:tM (op,k,t,v) x=false:=by show Yw op k t v x=false; unfold Yw; rw[hm]; rfl
    rw[e1,e2]; rfl
  |true =>
    by_cases h3:op=3
    · subst h3
      obtain⟨rfl,hkt⟩:=Xgz hm;obtain⟨l1,l2,l3⟩:=Xnd hm
      let S:List Txt:=[k,t,a,b,x,[]]
      have mk:k∈S:=by simp[S]
      have mt:t∈S:=by simp[S]
      have ma:a∈S:=by simp[S]
      have mb:b∈S:=by simp[S]
      have mx:x∈S:=by simp[S]
      have mn:([]:Txt)∈S:=by simp[S]
      have eT:∀ k' t',mayB 3 k' t' []=true->tM (3,k',t',[]) x=(!Op.bytesLess x k'&&Op.bytesLess x t'):=fun k' t' h=>by
        show Yw 3 k' t' [] x=_
        unfold Yw;rw[h]
        cases Op.bytesLess x k'<;>rfl
      rw[eT k t hm]
      have eM:Xn (3,k,t,[]) a b=(3,cond (Op.bytesLess k a) a k,cond (decide (b=[])) t (cond (Op.bytesLess b t) b t),[]):=rfl
      have eO:XD (3,k,t,[]) a b=Op.bytesLess (cond (Op.bytesLess k a) a k) (cond (decide (b=[])) t (cond (Op.bytesLess b t) b t)):=by
        unfold XD; rw[hm]; rfl
      unfold inB
      cases hO:XD (3,k,t,[]) a b with
      |false =>
        rw[eO] at hO
        show false=_
        symm
        revert hO
        rw[Yf S mk,Yf S mb,XiB S mb mn,Yf S mx,Yf S mx,Yf S mx,Yf S mx]
        cases h1:decide (rank S k<rank S a)<;>cases h2:decide (rank S b=0)<;>cases h4:decide (rank S b<rank S t)<;>simp only[cond_true,cond_false] <;>
          (first | rw[Yf S mk] | rw[Yf S ma])<;>intro hO <;>
          simp only[decide_eq_true_eq,decide_eq_false_iff_not] at h1 h2 h4 hO <;>
          (rw[Bool.and_eq_false_iff]; simp only[Bool.and_eq_false_iff,Bool.or_eq_false_iff,Bool.not_eq_false',decide_eq_true_eq,decide_eq_false_iff_not,Bool.false_or,Bool.true_or,Bool.and_true]; omega)
      |true =>
        have hO':=hO;rw[eO] at hO;rw[show cond true (Xn (3,k,t,[]) a b) XlR=Xn (3,k,t,[]) a b from rfl,eM]
        have hmay:mayB 3 (cond (Op.bytesLess k a) a k) (cond (decide (b=[])) t (cond (Op.bytesLess b t) b t)) []=true:=by
          have q1:0<(cond (Op.bytesLess k a) a k).length/\(cond (Op.bytesLess k a) a k).length<=108:=by
            cases h:Op.bytesLess k a with
            |false=>exact⟨l1,l2⟩
            |true =>
              refine⟨?_,ha⟩
              cases a with
              |nil=>rw[XaN] at h; cases h
              |cons _ _=>simp
          have q2:(cond (decide (b=[])) t (cond (Op.bytesLess b t) b t)).length<=108:=by
            cases decide (b=[])<;>cases Op.bytesLess b t<;>first | exact l3 | exact hb
          exact Xfy q1.1 q1.2 q2 hO
        rw[eT _ _ hmay]
        revert hO
        rw[Yf S mk,Yf S mb,XiB S mb mn]
        cases h1:decide (rank S k<rank S a)<;>cases h2:decide (rank S b=0)<;>cases h4:decide (rank S b<rank S t)<;>simp only[cond_true,cond_false] <;>
          (first | rw[Yf S mk] | rw[Yf S ma])<;>rw[Yf S mx,Yf S mx,Yf S mx]<;>(try rw[Yf S mx])<;>intro hO <;>
          simp only[decide_eq_true_eq,decide_eq_false_iff_not] at h1 h2 h4 hO <;>
          (rw[Bool.eq_iff_iff]; simp only[Bool.and_eq_true,Bool.or_eq_true,Bool.not_eq_true',decide_eq_true_eq,decide_eq_false_iff_not,Bool.false_or,Bool.true_or,Bool.and_true,Bool.false_eq_true,false_or,true_or]; omega)
    . have eO:XD (op,k,t,v) a b=inB k a b:=by
        unfold XD inB;rw[hm,decide_eq_false h3]; rfl
      have eM:Xn (op,k,t,v) a b=(op,k,t,v):=by
        unfold Xn;rw[decide_eq_false h3]; rfl
      have eT:tM (op,k,t,v) x=decide (x=k):=by
        show Yw op k t v x=_
        unfold Yw;rw[hm,decide_eq_false h3]; rfl
      rw[eO,eM,eT]
      by_cases hx:x=k
      . subst hx
        cases inB x a b with
        |false=>rw[decide_eq_true rfl]; rfl
        |true=>show tM (op,x,t,v) x=_; rw[eT]; simp
      . rw[decide_eq_false hx]
        cases inB k a b with
        |false=>rfl
        |true=>show tM (op,k,t,v) x=_; rw[eT,decide_eq_false hx]; rfl
def mayM (m:Msg):Bool:=mayB m.1 m.2.1 m.2.2.1 m.2.2.2
theorem Xnc {m : Msg} {a b : Txt} (ha : a.length ≤ 108) (hb : b.length ≤ 108) (h : XD m a b = true) : mayM (Xn m a b) = true := by
  obtain⟨op,k,t,v⟩:=m
  have hm:mayB op k t v=true:=by
    unfold XD at h;rw[Bool.and_eq_true] at h;exact h.1
  by_cases h3:op=3
  . subst h3
    obtain⟨rfl,hkt⟩:=Xgz hm;obtain⟨l1,l2,l3⟩:=Xnd hm
    have eO:XD (3,k,t,[]) a b=Op.bytesLess (cond (Op.bytesLess k a) a k) (cond (decide (b=[])) t (cond (Op.bytesLess b t) b t)):=by
      unfold XD; rw[hm]; rfl
    rw[eO] at h
    show mayB 3 (cond (Op.bytesLess k a) a k) (cond (decide (b=[])) t (cond (Op.bytesLess b t) b t)) []=true
    have q1:0<(cond (Op.bytesLess k a) a k).length/\(cond (Op.bytesLess k a) a k).length<=108:=by
      cases h:Op.bytesLess k a with
      |false=>exact⟨l1,l2⟩
      |true =>
        refine⟨?_,ha⟩
        cases a with
        |nil=>rw[XaN] at h; cases h
        |cons _ _=>simp
    have q2:(cond (decide (b=[])) t (cond (Op.bytesLess b t) b t)).length<=108:=by
      cases decide (b=[])<;>cases Op.bytesLess b t<;>first | exact l3 | exact hb
    exact Xfy q1.1 q1.2 q2 h
  . have eM:Xn (op,k,t,v) a b=(op,k,t,v):=by
      unfold Xn;rw[decide_eq_false h3]; rfl
    rw[eM];exact hm
def aM (m:Msg)(x:Txt)(p:Txt×Bool):Txt×Bool:=Xv m.1 m.2.1 m.2.2.1 m.2.2.2 x p.1 p.2
def foldV (x:Txt):List Msg->Txt×Bool->Txt×Bool
  |[],p=>p
  |m::r,p=>foldV x r (aM m x p)
def Xdv:List Msg->List Ent->List Ent
  |[],q=>q
  |m::r,q=>Xdv r (alL q m.1 m.2.1 m.2.2.1 m.2.2.2)
def norm (p:Txt×Bool):Prop:=p.2=false->p.1=[]
theorem Xhk {p:Txt×Bool} (h:norm p):((cond p.2 p.1 [],p.2):Txt×Bool)=p:=by
  obtain⟨v,th⟩:=p
  cases th with
  |true=>rfl
  |false=>rw[show v=[] from h rfl]; rfl
theorem XqN {m:Msg}{x:Txt}{p:Txt×Bool} (h:tM m x=false)(hp:norm p):aM m x p=p:=by
  unfold aM Xv;rw[show Yw m.1 m.2.1 m.2.2.1 m.2.2.2 x=false from h,cond_false]
  exact Xhk hp
theorem Xqq (m:Msg)(x:Txt) {p:Txt×Bool} (hp:norm p):norm (aM m x p):=by
  unfold aM Xv
  have hc:cond p.2 p.1 []=p.1:=by
    cases h:p.2 with
    |true=>rfl
    |false=>rw[hp h]; rfl
  rw[hc]
  cases Yw m.1 m.2.1 m.2.2.1 m.2.2.2 x with
  |false=>exact hp
  |true =>
    unfold Xf0
    cases decide (m.1=1) with
    |true=>intro h; cases h
    |false =>
      cases decide (m.1=4) with
      |true=>intro h; exact Xi5 m.2.1 m.2.2.2 p.1 p.2 hp h
      |false=>intro _; rfl
theorem Xqp {m:Msg}{a b x:Txt} (ha:a.length<=108)(hb:b.length<=108)(h:XD m a b=true)(hx:inB x a b=true)(p:Txt×Bool):aM (Xn m a b) x p=aM m x p:=by
  have ht:=Xc9 m a b x ha hb;unfold prM at ht;rw[h,hx,Bool.and_true] at ht
  have ht:tM (Xn m a b) x=tM m x:=ht
  unfold aM Xv;rw[show Yw (Xn m a b).1 (Xn m a b).2.1 (Xn m a b).2.2.1 (Xn m a b).2.2.2 x=Yw m.1 m.2.1 m.2.2.1 m.2.2.2 x from ht]
  by_cases h3:m.1=3
  . have e:∀ k w v th,Xf0 m.1 k w v th=([],false):=fun k w v th=>by
      unfold Xf0;rw[h3]; rfl
    rw[show (Xn m a b).1=m.1 from rfl,e,e]
  . have eM:Xn m a b=m:=by
      unfold Xn;rw[decide_eq_false h3]; rfl
    rw[eM]
theorem Xf7 {a b x:Txt} (ha:a.length<=108)(hb:b.length<=108)(hx:inB x a b=true):∀ (l:List Msg) (p:Txt×Bool),norm p->foldV x (inL a b l) p=foldV x l p
  |[],_,_=>rfl
  |m::r,p,hp=>by
    have e:inL a b (m::r)=cond (XD m a b) (Xn m a b::inL a b r) (inL a b r):=rfl
    rw[e]
    cases h:XD m a b with
    |true =>
      show foldV x (inL a b r) (aM (Xn m a b) x p)=foldV x r (aM m x p)
      rw[Xqp ha hb h hx];exact Xf7 ha hb hx r _ (Xqq m x hp)
    |false =>
      have ht:=Xc9 m a b x ha hb;unfold prM at ht;rw[h,hx,Bool.and_true,cond_false,Xow] at ht
      show foldV x (inL a b r) p=foldV x r (aM m x p)
      rw[XqN ht.symm hp];exact Xf7 ha hb hx r p hp
theorem XdO {a b x:Txt} (ha:a.length<=108)(hb:b.length<=108)(hx:inB x a b=false):∀ (l:List Msg) (p:Txt×Bool),norm p->foldV x (inL a b l) p=p
  |[],_,_=>rfl
  |m::r,p,hp=>by
    have e:inL a b (m::r)=cond (XD m a b) (Xn m a b::inL a b r) (inL a b r):=rfl
    rw[e]
    cases h:XD m a b with
    |true =>
      have ht:=Xc9 m a b x ha hb;unfold prM at ht;rw[h,hx,Bool.and_false,cond_true] at ht
      show foldV x (inL a b r) (aM (Xn m a b) x p)=p
      rw[XqN ht hp];exact XdO ha hb hx r p hp
    |false=>exact XdO ha hb hx r p hp
theorem Xe5 {a b:Txt} (ha:a.length<=108)(hb:b.length<=108):∀ l:List Msg,∀ m∈inL a b l,mayM m=true
  |[],m,h=>(List.not_mem_nil h).elim
  |e::r,m,h=>by
    have e1:inL a b (e::r)=cond (XD e a b) (Xn e a b::inL a b r) (inL a b r):=rfl
    rw[e1] at h
    cases hp:XD e a b with
    |true =>
      rw[hp] at h
      rcases List.mem_cons.1 h with rfl | h
      . exact Xnc ha hb hp
      . exact Xe5 ha hb r m h
    |false =>
      rw[hp] at h;exact Xe5 ha hb r m h
theorem XiS:∀ (ms:List Msg) (q:List Ent),chkB q=true->(∀ m∈ms,mayM m=true)->chkB (Xdv ms q)=true/\(∀ x,getK x (Xdv ms q)=foldV x ms (getK x q))/\(Xdv ms q).length<=q.length+ms.length
  |[],q,hc,_=>⟨hc,fun _=>rfl,Nat.le_refl _⟩
  |m::r,q,hc,hm=>by
    obtain⟨h1,h2,_,h4⟩:=XqM hc (hm m List.mem_cons_self);obtain⟨g1,g2,g3⟩:=XiS r (alL q m.1 m.2.1 m.2.2.1 m.2.2.2) h1 fun x hx=>hm x (List.mem_cons_of_mem _ hx)
    refine⟨g1,fun x=>?_,?_⟩
    . show getK x (Xdv r _)=foldV x r (aM m x (getK x q))
      rw[g2 x,h2 x]; rfl
    . rw[List.length_cons]
      have:(Xdv (m::r) q).length=(Xdv r (alL q m.1 m.2.1 m.2.2.1 m.2.2.2)).length:=rfl
      omega
end
end Go.Vm.YtkjjpmbpjfmbcaaGreatDoor.B
