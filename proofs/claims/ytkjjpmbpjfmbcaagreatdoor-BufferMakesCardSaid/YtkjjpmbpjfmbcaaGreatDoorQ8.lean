/-
  A file's record as a text: as the program and as the document's answer make it.
  A file's record as a text, the document's answer; the table of these laws.
-/
import Derived.Test.YtkjjpmbpjfmbcaaGreatDoorQ7
set_option linter.unusedVariables false
set_option linter.unusedSimpArgs false
namespace Go.Vm.YtkjjpmbpjfmbcaaGreatDoor
open Go.Proofs
noncomputable section
theorem hiM (p:Nat)(hp:0<p)(m:Nat):IntKind.wrap .u8 (Int.fdiv (Int.ofNat m) (p:Int))=((m / p%256:Nat):Int):=by
  have e:Int.fdiv (Int.ofNat m) (p:Int)=((m / p:Nat):Int):=by
    show Int.fdiv (m:Int) (p:Int)=_
    rw[Int.fdiv_eq_ediv_of_nonneg _ (by omega)]; rfl
  rw[e]
  show ((m / p:Nat):Int)%256=_
  omega
theorem wr {m:Nat} (h:m<18446744073709551616):IntKind.wrap .u64 (Int.ofNat m)=Int.ofNat m:=wrap_u64 (z:=(m:Int)) (by omega) (by omega)
theorem hm0 {m:Nat} (h:m<18446744073709551616):IntKind.wrap .u8 (Int.fdiv (Int.ofNat m) 1)=((m / 1%256:Nat):Int):=hiM 1 (by decide) m
theorem hm1 {m:Nat} (h:m<18446744073709551616):IntKind.wrap .u8 (Int.fdiv (Int.ofNat m) 256)=((m / 256%256:Nat):Int):=hiM 256 (by decide) m
theorem hm2 {m:Nat} (h:m<18446744073709551616):IntKind.wrap .u8 (Int.fdiv (Int.ofNat m) 65536)=((m / 65536%256:Nat):Int):=hiM 65536 (by decide) m
theorem hm3 {m:Nat} (h:m<18446744073709551616):IntKind.wrap .u8 (Int.fdiv (Int.ofNat m) 16777216)=((m / 16777216%256:Nat):Int):=hiM 16777216 (by decide) m
theorem hm4 {m:Nat} (h:m<18446744073709551616):IntKind.wrap .u8 (Int.fdiv (Int.ofNat m) 4294967296)=((m / 4294967296%256:Nat):Int):=hiM 4294967296 (by decide) m
theorem hm5 {m:Nat} (h:m<18446744073709551616):IntKind.wrap .u8 (Int.fdiv (Int.ofNat m) 1099511627776)=((m / 1099511627776%256:Nat):Int):=hiM 1099511627776 (by decide) m
theorem hm6 {m:Nat} (h:m<18446744073709551616):IntKind.wrap .u8 (Int.fdiv (Int.ofNat m) 281474976710656)=((m / 281474976710656%256:Nat):Int):=hiM 281474976710656 (by decide) m
theorem hm7 {m:Nat} (h:m<18446744073709551616):IntKind.wrap .u8 (Int.fdiv (Int.ofNat m) 72057594037927936)=((m / 72057594037927936%256:Nat):Int):=hiM 72057594037927936 (by decide) m
theorem md (m:Nat):IntKind.wrap .u8 (Int.tmod (Int.ofNat m) 256)=((m%256:Nat):Int):=by
  have e:Int.tmod (Int.ofNat m) 256=((m%256:Nat):Int):=rfl
  rw[e]
  show ((m%256:Nat):Int)%256=_
  omega
theorem dl (n:Nat):decide ((0:Int)<=(n:Int))=true:=decide_eq_true (by omega)
theorem d2 (n:Nat):decide (((n%256:Nat):Int)<256)=true:=decide_eq_true (by omega)
theorem by1 (v:Int):Nat.ble 1 (List.length [DV.int .u8 v])=true:=rfl
def bq (m p:Nat):UInt8:=UInt8.ofNat (m / p%256)
def be4 (m:Nat):List UInt8:=[bq m 16777216,bq m 65536,bq m 256,bq m 1]
def be8 (m:Nat):List UInt8:=[bq m 72057594037927936,bq m 281474976710656,bq m 1099511627776,bq m 4294967296,bq m 16777216,bq m 65536,bq m 256,bq m 1]
theorem Xvy (m p:Nat):UInt8.ofNat (Int.toNat ((m / p%256:Nat):Int))=bq m p:=by rw[Int.toNat_natCast]; rfl
set_option maxRecDepth 100000 in
theorem tPut (zf mf tf:AF)(h1:zf=zA)(h2:mf=mA)(h3:tf=tA)(mm:MM)(hm:mm=mM)(k z m t:Nat):Xu (Xjz zf mf tf h1 h2 h3 mm hm) tab [106,145,146,147,148,166,167,168] 7 200 106 [.agg [.int .u8 (.ofNat k),.int .u32 (.ofNat z),.int .u64 (.ofNat m),.int .u64 (.ofNat t)]] =
    cond (mm (Int.ofNat k) z m) (cond (Nat.ble 1 (List.length [DV.int .u8 (IntKind.wrap .u8 (Int.fdiv (IntKind.wrap .u64 (Int.ofNat k)) 1))])&&(decide (0<=IntKind.wrap .u8 (Int.fdiv (IntKind.wrap .u64 (Int.ofNat k)) 1))&&(decide (IntKind.wrap .u8 (Int.fdiv (IntKind.wrap .u64 (Int.ofNat k)) 1)<256)&&true))) (cond (Nat.ble 1 (List.length [DV.int .u8 (IntKind.wrap .u8 (Int.fdiv (IntKind.wrap .u64 (Int.ofNat z)) 16777216))])&&(decide (0<=IntKind.wrap .u8 (Int.fdiv (IntKind.wrap .u64 (Int.ofNat z)) 16777216))&&(decide (IntKind.wrap .u8 (Int.fdiv (IntKind.wrap .u64 (Int.ofNat z)) 16777216)<256)&&true))) (cond (Nat.ble 1 (List.length [DV.int .u8 (IntKind.wrap .u8 (Int.fdiv (IntKind.wrap .u64 (Int.ofNat z)) 65536))])&&(decide (0<=IntKind.wrap .u8 (Int.fdiv (IntKind.wrap .u64 (Int.ofNat z)) 65536))&&(decide (IntKind.wrap .u8 (Int.fdiv (IntKind.wrap .u64 (Int.ofNat z)) 65536)<256)&&true))) (cond (Nat.ble 1 (List.length [DV.int .u8 (IntKind.wrap .u8 (Int.fdiv (IntKind.wrap .u64 (Int.ofNat z)) 256))])&&(decide (0<=IntKind.wrap .u8 (Int.fdiv (IntKind.wrap .u64 (Int.ofNat z)) 256))&&(decide (IntKind.wrap .u8 (Int.fdiv (IntKind.wrap .u64 (Int.ofNat z)) 256)<256)&&true))) (cond (Nat.ble 1 (List.length [DV.int .u8 (IntKind.wrap .u8 (Int.fdiv (IntKind.wrap .u64 (Int.ofNat z)) 1))])&&(decide (0<=IntKind.wrap .u8 (Int.fdiv (IntKind.wrap .u64 (Int.ofNat z)) 1))&&(decide (IntKind.wrap .u8 (Int.fdiv (IntKind.wrap .u64 (Int.ofNat z)) 1)<256)&&true))) (cond (Nat.ble 1 (List.length [DV.int .u8 (IntKind.wrap .u8 (Int.fdiv (Int.ofNat m) 72057594037927936))])&&(decide (0<=IntKind.wrap .u8 (Int.fdiv (Int.ofNat m) 72057594037927936))&&(decide (IntKind.wrap .u8 (Int.fdiv (Int.ofNat m) 72057594037927936)<256)&&true))) (cond (Nat.ble 1 (List.length [DV.int .u8 (IntKind.wrap .u8 (Int.fdiv (Int.ofNat m) 281474976710656))])&&(decide (0<=IntKind.wrap .u8 (Int.fdiv (Int.ofNat m) 281474976710656))&&(decide (IntKind.wrap .u8 (Int.fdiv (Int.ofNat m) 281474976710656)<256)&&true))) (cond (Nat.ble 1 (List.length [DV.int .u8 (IntKind.wrap .u8 (Int.fdiv (Int.ofNat m) 1099511627776))])&&(decide (0<=IntKind.wrap .u8 (Int.fdiv (Int.ofNat m) 1099511627776))&&(decide (IntKind.wrap .u8 (Int.fdiv (Int.ofNat m) 1099511627776)<256)&&true))) (cond (Nat.ble 1 (List.length [DV.int .u8 (IntKind.wrap .u8 (Int.fdiv (Int.ofNat m) 4294967296))])&&(decide (0<=IntKind.wrap .u8 (Int.fdiv (Int.ofNat m) 4294967296))&&(decide (IntKind.wrap .u8 (Int.fdiv (Int.ofNat m) 4294967296)<256)&&true))) (cond (Nat.ble 1 (List.length [DV.int .u8 (IntKind.wrap .u8 (Int.fdiv (Int.ofNat m) 16777216))])&&(decide (0<=IntKind.wrap .u8 (Int.fdiv (Int.ofNat m) 16777216))&&(decide (IntKind.wrap .u8 (Int.fdiv (Int.ofNat m) 16777216)<256)&&true))) (cond (Nat.ble 1 (List.length [DV.int .u8 (IntKind.wrap .u8 (Int.fdiv (Int.ofNat m) 65536))])&&(decide (0<=IntKind.wrap .u8 (Int.fdiv (Int.ofNat m) 65536))&&(decide (IntKind.wrap .u8 (Int.fdiv (Int.ofNat m) 65536)<256)&&true))) (cond (Nat.ble 1 (List.length [DV.int .u8 (IntKind.wrap .u8 (Int.fdiv (Int.ofNat m) 256))])&&(decide (0<=IntKind.wrap .u8 (Int.fdiv (Int.ofNat m) 256))&&(decide (IntKind.wrap .u8 (Int.fdiv (Int.ofNat m) 256)<256)&&true))) (cond (Nat.ble 1 (List.length [DV.int .u8 (IntKind.wrap .u8 (Int.fdiv (Int.ofNat m) 1))])&&(decide (0<=IntKind.wrap .u8 (Int.fdiv (Int.ofNat m) 1))&&(decide (IntKind.wrap .u8 (Int.fdiv (Int.ofNat m) 1)<256)&&true))) (cond (Nat.ble 1 (List.length [DV.int .u8 (IntKind.wrap .u8 (Int.fdiv (Int.ofNat t) 72057594037927936))])&&(decide (0<=IntKind.wrap .u8 (Int.fdiv (Int.ofNat t) 72057594037927936))&&(decide (IntKind.wrap .u8 (Int.fdiv (Int.ofNat t) 72057594037927936)<256)&&true))) (cond (Nat.ble 1 (List.length [DV.int .u8 (IntKind.wrap .u8 (Int.fdiv (Int.ofNat t) 281474976710656))])&&(decide (0<=IntKind.wrap .u8 (Int.fdiv (Int.ofNat t) 281474976710656))&&(decide (IntKind.wrap .u8 (Int.fdiv (Int.ofNat t) 281474976710656)<256)&&true))) (cond (Nat.ble 1 (List.length [DV.int .u8 (IntKind.wrap .u8 (Int.fdiv (Int.ofNat t) 1099511627776))])&&(decide (0<=IntKind.wrap .u8 (Int.fdiv (Int.ofNat t) 1099511627776))&&(decide (IntKind.wrap .u8 (Int.fdiv (Int.ofNat t) 1099511627776)<256)&&true))) (cond (Nat.ble 1 (List.length [DV.int .u8 (IntKind.wrap .u8 (Int.fdiv (Int.ofNat t) 4294967296))])&&(decide (0<=IntKind.wrap .u8 (Int.fdiv (Int.ofNat t) 4294967296))&&(decide (IntKind.wrap .u8 (Int.fdiv (Int.ofNat t) 4294967296)<256)&&true))) (cond (Nat.ble 1 (List.length [DV.int .u8 (IntKind.wrap .u8 (Int.fdiv (Int.ofNat t) 16777216))])&&(decide (0<=IntKind.wrap .u8 (Int.fdiv (Int.ofNat t) 16777216))&&(decide (IntKind.wrap .u8 (Int.fdiv (Int.ofNat t) 16777216)<256)&&true))) (cond (Nat.ble 1 (List.length [DV.int .u8 (IntKind.wrap .u8 (Int.fdiv (Int.ofNat t) 65536))])&&(decide (0<=IntKind.wrap .u8 (Int.fdiv (Int.ofNat t) 65536))&&(decide (IntKind.wrap .u8 (Int.fdiv (Int.ofNat t) 65536)<256)&&true))) (cond (Nat.ble 1 (List.length [DV.int .u8 (IntKind.wrap .u8 (Int.fdiv (Int.ofNat t) 256))])&&(decide (0<=IntKind.wrap .u8 (Int.fdiv (Int.ofNat t) 256))&&(decide (IntKind.wrap .u8 (Int.fdiv (Int.ofNat t) 256)<256)&&true))) (cond (Nat.ble 1 (List.length [DV.int .u8 (IntKind.wrap .u8 (Int.fdiv (Int.ofNat t) 1))])&&(decide (0<=IntKind.wrap .u8 (Int.fdiv (Int.ofNat t) 1))&&(decide (IntKind.wrap .u8 (Int.fdiv (Int.ofNat t) 1)<256)&&true))) (some (DV.tup [DV.str (List.take (Src.count (Src.b [UInt8.ofNat (Int.toNat (IntKind.wrap .u8 (Int.fdiv (IntKind.wrap .u64 (Int.ofNat k)) 1)))])+Src.count (Src.b [UInt8.ofNat (Int.toNat (IntKind.wrap .u8 (Int.fdiv (IntKind.wrap .u64 (Int.ofNat z)) 16777216)))])+Src.count (Src.b [UInt8.ofNat (Int.toNat (IntKind.wrap .u8 (Int.fdiv (IntKind.wrap .u64 (Int.ofNat z)) 65536)))])+Src.count (Src.b [UInt8.ofNat (Int.toNat (IntKind.wrap .u8 (Int.fdiv (IntKind.wrap .u64 (Int.ofNat z)) 256)))])+Src.count (Src.b [UInt8.ofNat (Int.toNat (IntKind.wrap .u8 (Int.fdiv (IntKind.wrap .u64 (Int.ofNat z)) 1)))])+Src.count (Src.b [UInt8.ofNat (Int.toNat (IntKind.wrap .u8 (Int.fdiv (Int.ofNat m) 72057594037927936)))])+Src.count (Src.b [UInt8.ofNat (Int.toNat (IntKind.wrap .u8 (Int.fdiv (Int.ofNat m) 281474976710656)))])+Src.count (Src.b [UInt8.ofNat (Int.toNat (IntKind.wrap .u8 (Int.fdiv (Int.ofNat m) 1099511627776)))])+Src.count (Src.b [UInt8.ofNat (Int.toNat (IntKind.wrap .u8 (Int.fdiv (Int.ofNat m) 4294967296)))])+Src.count (Src.b [UInt8.ofNat (Int.toNat (IntKind.wrap .u8 (Int.fdiv (Int.ofNat m) 16777216)))])+Src.count (Src.b [UInt8.ofNat (Int.toNat (IntKind.wrap .u8 (Int.fdiv (Int.ofNat m) 65536)))])+Src.count (Src.b [UInt8.ofNat (Int.toNat (IntKind.wrap .u8 (Int.fdiv (Int.ofNat m) 256)))])+Src.count (Src.b [UInt8.ofNat (Int.toNat (IntKind.wrap .u8 (Int.fdiv (Int.ofNat m) 1)))])+Src.count (Src.b [UInt8.ofNat (Int.toNat (IntKind.wrap .u8 (Int.fdiv (Int.ofNat t) 72057594037927936)))])+Src.count (Src.b [UInt8.ofNat (Int.toNat (IntKind.wrap .u8 (Int.fdiv (Int.ofNat t) 281474976710656)))])+Src.count (Src.b [UInt8.ofNat (Int.toNat (IntKind.wrap .u8 (Int.fdiv (Int.ofNat t) 1099511627776)))])+Src.count (Src.b [UInt8.ofNat (Int.toNat (IntKind.wrap .u8 (Int.fdiv (Int.ofNat t) 4294967296)))])+Src.count (Src.b [UInt8.ofNat (Int.toNat (IntKind.wrap .u8 (Int.fdiv (Int.ofNat t) 16777216)))])+Src.count (Src.b [UInt8.ofNat (Int.toNat (IntKind.wrap .u8 (Int.fdiv (Int.ofNat t) 65536)))])+Src.count (Src.b [UInt8.ofNat (Int.toNat (IntKind.wrap .u8 (Int.fdiv (Int.ofNat t) 256)))])+Src.count (Src.b [UInt8.ofNat (Int.toNat (IntKind.wrap .u8 (Int.fdiv (Int.ofNat t) 1)))])) (List.drop 0 ([UInt8.ofNat (Int.toNat (IntKind.wrap .u8 (Int.fdiv (IntKind.wrap .u64 (Int.ofNat k)) 1)))]++[UInt8.ofNat (Int.toNat (IntKind.wrap .u8 (Int.fdiv (IntKind.wrap .u64 (Int.ofNat z)) 16777216)))]++[UInt8.ofNat (Int.toNat (IntKind.wrap .u8 (Int.fdiv (IntKind.wrap .u64 (Int.ofNat z)) 65536)))]++[UInt8.ofNat (Int.toNat (IntKind.wrap .u8 (Int.fdiv (IntKind.wrap .u64 (Int.ofNat z)) 256)))]++[UInt8.ofNat (Int.toNat (IntKind.wrap .u8 (Int.fdiv (IntKind.wrap .u64 (Int.ofNat z)) 1)))]++[UInt8.ofNat (Int.toNat (IntKind.wrap .u8 (Int.fdiv (Int.ofNat m) 72057594037927936)))]++[UInt8.ofNat (Int.toNat (IntKind.wrap .u8 (Int.fdiv (Int.ofNat m) 281474976710656)))]++[UInt8.ofNat (Int.toNat (IntKind.wrap .u8 (Int.fdiv (Int.ofNat m) 1099511627776)))]++[UInt8.ofNat (Int.toNat (IntKind.wrap .u8 (Int.fdiv (Int.ofNat m) 4294967296)))]++[UInt8.ofNat (Int.toNat (IntKind.wrap .u8 (Int.fdiv (Int.ofNat m) 16777216)))]++[UInt8.ofNat (Int.toNat (IntKind.wrap .u8 (Int.fdiv (Int.ofNat m) 65536)))]++[UInt8.ofNat (Int.toNat (IntKind.wrap .u8 (Int.fdiv (Int.ofNat m) 256)))]++[UInt8.ofNat (Int.toNat (IntKind.wrap .u8 (Int.fdiv (Int.ofNat m) 1)))]++[UInt8.ofNat (Int.toNat (IntKind.wrap .u8 (Int.fdiv (Int.ofNat t) 72057594037927936)))]++[UInt8.ofNat (Int.toNat (IntKind.wrap .u8 (Int.fdiv (Int.ofNat t) 281474976710656)))]++[UInt8.ofNat (Int.toNat (IntKind.wrap .u8 (Int.fdiv (Int.ofNat t) 1099511627776)))]++[UInt8.ofNat (Int.toNat (IntKind.wrap .u8 (Int.fdiv (Int.ofNat t) 4294967296)))]++[UInt8.ofNat (Int.toNat (IntKind.wrap .u8 (Int.fdiv (Int.ofNat t) 16777216)))]++[UInt8.ofNat (Int.toNat (IntKind.wrap .u8 (Int.fdiv (Int.ofNat t) 65536)))]++[UInt8.ofNat (Int.toNat (IntKind.wrap .u8 (Int.fdiv (Int.ofNat t) 256)))]++[UInt8.ofNat (Int.toNat (IntKind.wrap .u8 (Int.fdiv (Int.ofNat t) 1)))]))),DV.int .i64 0])) none) none) none) none) none) none) none) none) none) none) none) none) none) none) none) none) none) none) none) none) none) (some (DV.tup [DV.str [],DV.int .i64 4])):=by kernel_rfl
def Xby (k z m t:Nat):List UInt8:=bq k 1::(be4 z++(be8 m++be8 t))
def Xgo (k z m t:Nat):Bool:=decide (k<256)&&(decide (z<4294967296)&&(small m&&small t))
def putD (mm:MM)(ms:Nat->Nat->Nat->Nat->List UInt8)(k z m t:Nat):PD:=.need (Xgo k z m t) (.br (mm (Int.ofNat k) z m) (.v (.tup [.str (ms k z m t),.int .i64 0])) (.v (.tup [.str [],.int .i64 4])))
set_option maxRecDepth 100000 in
theorem Xp5 (k z m t:Nat)(hk:k<256)(hz:z<4294967296)(hm:m<18446744073709551616)(ht:t<18446744073709551616) :
    Xu (Xjz zA mA tA rfl rfl rfl mM rfl) tab [106,145,146,147,148,166,167,168] 7 200 106 [.agg [.int .u8 (.ofNat k),.int .u32 (.ofNat z),.int .u64 (.ofNat m),.int .u64 (.ofNat t)]]=some (putD mM Xby k z m t).val:=by
  have hk':k<18446744073709551616:=by omega
  have hz':z<18446744073709551616:=by omega
  refine (tPut zA mA tA rfl rfl rfl mM rfl k z m t).trans ?_
  show _=some (PD.val (.br (mM (Int.ofNat k) z m) (.v (.tup [.str (Xby k z m t),.int .i64 0])) (.v (.tup [.str [],.int .i64 4]))))
  generalize mM (Int.ofNat k) z m=b
  cases b with
  |false=>exact rfl
  |true =>
    simp only[cond_true,wr hk',wr hz',hm0 hk',hm0 hz',hm1 hz',hm2 hz',hm3 hz',hm0 hm,hm0 ht,hm1 hm,hm1 ht,hm2 hm,hm2 ht,hm3 hm,hm3 ht,hm4 hm,hm4 ht,hm5 hm,hm5 ht,hm6 hm,hm6 ht,hm7 hm,hm7 ht,by1,dl,d2,Bool.and_true,Bool.and_self,Xvy]
    kernel_rfl
def XkE (mm:MM)(ms:Nat->Nat->Nat->Nat->List UInt8):List DV->Option PD:=fun l=>match l with
  |[.agg [.int .u8 (.ofNat k),.int .u32 (.ofNat z),.int .u64 (.ofNat m),.int .u64 (.ofNat t)]]=>some (putD mm ms k z m t)
  |_=>none
theorem Xr3 {mm:MM}{ms:Nat->Nat->Nat->Nat->List UInt8}{k z m t:Nat} (h:(putD mm ms k z m t).ok=true):k<256/\z<4294967296/\m<18446744073709551616/\t<18446744073709551616:=by
  unfold putD Xgo at h;simp only[PD.ok_need,Bool.and_eq_true] at h
  exact⟨of_decide_eq_true h.1.1,of_decide_eq_true h.1.2.1,of_decide_eq_true h.1.2.2.1,of_decide_eq_true h.1.2.2.2⟩
theorem XqP (k z m t:Nat):wf 0 (toV (putD mM Xby k z m t).val):=by
  show wf 0 (toV (PD.val (.br (mM (Int.ofNat k) z m) (.v (.tup [.str (Xby k z m t),.int .i64 0])) (.v (.tup [.str [],.int .i64 4])))))
  generalize mM (Int.ofNat k) z m=b
  cases b<;>exact⟨trivial,trivial,trivial⟩
theorem XiP (mm:MM)(ms:Nat->Nat->Nat->Nat->List UInt8)(h1:mm=mM)(h2:ms=Xby):∀ l d,XkE mm ms l=some d->d.ok=true->PlainCall Tryz.prog [] 106 (toVs l) (toV d.val)/\ofVs (toVs l)=some l:=by
  intro l d h hk;subst h1 h2;unfold XkE at h;split at h
  . cases h
    obtain⟨a,b,c,d⟩:=Xr3 hk
    exact⟨XJ _ XN Xo (by kernel_rfl) (Xp5 _ _ _ _ a b c d) ⟨⟨trivial,trivial,trivial,trivial,trivial⟩,trivial⟩ (XqP _ _ _ _),rfl⟩
  . cases h
def Xjy:Laws Tryz.prog:=((Xjz zA mA tA rfl rfl rfl mM rfl).add 106 (XkE mM Xby) (XiP mM Xby rfl rfl))
set_option maxRecDepth 10000 in
theorem tPm (cu:Bool)(a n:Int)(s:List UInt8):Xu Xjy tab [137] 7 200 137 [.agg [.bool cu,.int .i64 a,.int .i64 n,.str s]] =
    cond (cu) (cond (decide (0<=n)) (cond (decide (n<64)) (cond (decide (a=0)) (some (DV.bool (decide (s=[])))) (some (DV.bool false))) (some (DV.bool false))) (some (DV.bool false))) (cond (!decide (s=[])) (cond (decide ((↑s.length:Int)<=64)) (cond (decide (0<=a)) (cond (decide (a<=IntKind.wrap .i64 (64-(↑s.length:Int)))) (some (DV.bool (decide (n=0)))) (some (DV.bool false))) (some (DV.bool false))) (some (DV.bool false))) (some (DV.bool false))):=by kernel_rfl
def pM (cu:Bool)(a n:Int)(s:List UInt8):Bool:=cond cu (decide (0<=n)&&(decide (n<64)&&(decide (a=0)&&decide (s=[])))) (!decide (s=[])&&(decide ((s.length:Int)<=64)&&(decide (0<=a)&&(decide (a+s.length<=64)&&decide (n=0)))))
theorem Xs8 (cu:Bool)(a n:Int)(s:List UInt8):Xu Xjy tab [137] 7 200 137 [.agg [.bool cu,.int .i64 a,.int .i64 n,.str s]]=some (.bool (pM cu a n s)):=by
  rw[tPm];unfold pM
  cases cu with
  |true=>cases decide (0<=n)<;>cases decide (n<64)<;>cases decide (a=0)<;>rfl
  |false =>
    by_cases h:(s.length:Int)<=64
    . rw[wrap_i64 (z:=64-(s.length:Int)) (by omega) (by omega),show decide (a<=64-(s.length:Int))=decide (a+s.length<=64) by rw[Bool.eq_iff_iff,decide_eq_true_eq,decide_eq_true_eq]; omega]
      cases decide (s=[])<;>cases decide ((s.length:Int)<=64)<;>cases decide (0<=a)<;>cases decide (a+s.length<=64)<;>rfl
    . rw[decide_eq_false h]
      cases decide (s=[])<;>rfl
def gpm:List DV->Option PD:=fun l=>match l with
  |[.agg [.bool cu,.int .i64 a,.int .i64 n,.str s]]=>some (.v (.bool (pM cu a n s)))
  |_=>none
theorem Xtb (cu:Bool)(a n:Int)(s:List UInt8):ofVs (toVs [.agg [.bool cu,.int .i64 a,.int .i64 n,.str s]])=some [.agg [.bool cu,.int .i64 a,.int .i64 n,.str s]]:=by
  show (match ofV (toV (.agg [.bool cu,.int .i64 a,.int .i64 n,.str s])),ofVs [] with | some x,some l=>some (x::l) | _,_=>none)=_
  have:ofV (toV (.agg [.bool cu,.int .i64 a,.int .i64 n,.str s]))=some (.agg [.bool cu,.int .i64 a,.int .i64 n,.str s]):=by
    simp only[toV,toVs,ofV,ofVs,WE]
  rw[this]; rfl
theorem XpQ:∀ l d,gpm l=some d->d.ok=true->PlainCall Tryz.prog [] 137 (toVs l) (toV d.val)/\ofVs (toVs l)=some l:=by
  intro l d h hk;unfold gpm at h;split at h
  . cases h
    exact⟨XJ _ XN Xo (by kernel_rfl) (Xs8 _ _ _ _) ⟨⟨trivial,trivial,trivial,trivial,trivial⟩,trivial⟩ trivial,Xtb _ _ _ _⟩
  . cases h
def Xa7:Laws Tryz.prog:=(Xjy.add 137 gpm XpQ)
end
end Go.Vm.YtkjjpmbpjfmbcaaGreatDoor
