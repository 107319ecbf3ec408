/-
  What the laws of layers 16 and 17 stand over, together: the functions, what is known of messages, and that the closing examples hold.
  Loops over rows of records: what the laws share.
  Layer 17: few; what is left of a message.
  Layer 17: what lies in a range, and what is left.
  few: may a list be gone through?
  The laws of few, Size, Same and Clone.
  The law of Clone; the table of the small ones.
  The law of Check.
  The laws of IndexFunc (with Get's closure).
  The laws of Get and copied.
  The order of texts; entries in order; where a key is to be found.
  The law of find: how many entries come before a key.
  Code cut behind some of its pieces: there the state is put in order.
  A function's code, piece by piece.
-/
import Derived.Test.YtkjjpmbpjfmbcaaGreatDoorQ11
set_option linter.unusedVariables false
set_option linter.unusedSimpArgs false
namespace Go.Vm.YtkjjpmbpjfmbcaaGreatDoor
open Go.Proofs Go.Vm.R
noncomputable section
theorem XiK:Tryz.prog.globals.size=7:=Xo
def XhQ (op:Int)(k t v:Txt):PD:=.br (mayB op k t v) (.v (.int .i64 0)) (.v (.int .i64 4))
set_option maxRecDepth 10000 in
theorem tChk (op:Int)(k t v:Txt):Xu Xa8 tab [38] 7 200 38 [.agg [.int .i64 op,.str k,.str t,.str v]] =
    cond (!mayB op k t v) (some (DV.int .i64 4)) (some (DV.int .i64 0)):=by kernel_rfl
set_option maxRecDepth 10000 in
theorem tTch (op:Int)(k t v x:Txt):Xu Xa8 tab [40,78] 7 200 40 [.agg [.int .i64 op,.str k,.str t,.str v],.str x] =
    cond (mayB op k t v) (cond (decide (op=3)) (cond (!Op.bytesLess x k) (some (DV.bool (Op.bytesLess x t))) (some (DV.bool false))) (some (DV.bool (decide (x=k))))) (some (DV.bool false)):=by kernel_rfl
theorem Xvg (op:Int)(k t v:Txt):Xu Xa8 tab [38] 7 200 38 [.agg [.int .i64 op,.str k,.str t,.str v]]=some (XhQ op k t v).val:=by
  rw[tChk];unfold XhQ
  cases mayB op k t v<;>rfl
theorem Xvf (op:Int)(k t v x:Txt):Xu Xa8 tab [40,78] 7 200 40 [.agg [.int .i64 op,.str k,.str t,.str v],.str x]=some (.bool (Yw op k t v x)):=by
  rw[tTch];unfold Yw
  cases mayB op k t v<;>cases decide (op=3)<;>cases Op.bytesLess x k<;>cases Op.bytesLess x t<;>cases decide (x=k)<;>rfl
def Xhu:List Vm.DV->Option PD:=fun l=>match l with
  |[.agg [.int .i64 op,.str k,.str t,.str v]]=>some (XhQ op k t v)
  |_=>none
theorem Xj8:∀ l d,Xhu l=some d->d.ok=true->PlainCall Tryz.prog [] 38 (Vm.toVs l) (Vm.toV d.val)/\Vm.ofVs (Vm.toVs l)=some l:=by
  intro l d h hk;unfold Xhu at h;split at h
  . rename_i op k t v
    cases h
    exact⟨XJ _ XN Xo (by kernel_rfl) (Xvg op k t v) ⟨⟨trivial,trivial,trivial,trivial,trivial⟩,trivial⟩ (by unfold XhQ; cases mayB op k t v<;>trivial),Xh1 op k t v⟩
  . cases h
theorem XsX:∀ l d,Xj4 l=some d->d.ok=true->PlainCall Tryz.prog [] 40 (Vm.toVs l) (Vm.toV d.val)/\Vm.ofVs (Vm.toVs l)=some l:=by
  intro l d h hk;unfold Xj4 at h;split at h
  . rename_i op k t v x
    cases h
    exact⟨XJ _ XN Xo (by kernel_rfl) (Xvf op k t v x) ⟨⟨trivial,trivial,trivial,trivial,trivial⟩,trivial,trivial⟩ trivial,by simp only[Vm.toVs,Vm.toV,Vm.ofVs,Vm.ofV,WE]⟩
  . cases h
abbrev Msg:=Int×Txt×Txt×Txt
def XD (m:Msg)(a b:Txt):Bool:=mayB m.1 m.2.1 m.2.2.1 m.2.2.2&&cond (decide (m.1=3))
  (Op.bytesLess (cond (Op.bytesLess m.2.1 a) a m.2.1) (cond (decide (b=[])) m.2.2.1 (cond (Op.bytesLess b m.2.2.1) b m.2.2.1)))
  (!Op.bytesLess m.2.1 a&&(decide (b=[])||Op.bytesLess m.2.1 b))
def Xn (m:Msg)(a b:Txt):Msg:=(m.1,cond (decide (m.1=3)) (cond (Op.bytesLess m.2.1 a) a m.2.1) m.2.1,cond (decide (m.1=3)) (cond (decide (b=[])) m.2.2.1 (cond (Op.bytesLess b m.2.2.1) b m.2.2.1)) m.2.2.1,m.2.2.2)
def XmK (op:Int)(k t v a b:Txt):PD:=.br (XD (op,k,t,v) a b)
  (.v (Xgj op (Xn (op,k,t,v) a b).2.1 (Xn (op,k,t,v) a b).2.2.1 v)) (.v Xfs)
theorem Xlt (op:Int)(k t v a b:Txt):(XmK op k t v a b).val=(Xdm op k t v a b).val:=by
  unfold XmK Xdm XD Xn;simp only[Xgs,pd_v,PD.val_br,PD.val_v]
  cases mayB op k t v<;>cases decide (op=3)<;>cases Op.bytesLess k a<;>cases decide (b=[])<;>cases Op.bytesLess b t<;>cases Op.bytesLess k b <;>
    simp only[Bool.true_and,Bool.false_and,Bool.and_false,Bool.and_true,Bool.or_true,Bool.or_false,Bool.true_or,Bool.false_or,Bool.not_true,Bool.not_false,cond_true,cond_false,if_true,if_false,Bool.false_eq_true]
noncomputable def Xj7:List Vm.DV->Option PD:=fun l=>match l with
  |[.agg [.int .i64 op,.str k,.str t,.str v],.str a,.str b]=>some (XmK op k t v a b)
  |_=>none
theorem XmJ (op:Int)(k t v a b:Txt):(Xdm op k t v a b).ok=true:=by
  unfold Xdm;simp only[PD.ok_br,PD.ok_v]
  cases mayB op k t v<;>cases decide (op=3)<;>cases Op.bytesLess k a<;>cases decide (b=[])<;>cases Op.bytesLess k b<;>simp only[cond_true,cond_false,Bool.cond_self]
theorem Xr7:∀ l d,Xj7 l=some d->d.ok=true->PlainCall Tryz.prog [] 60 (Vm.toVs l) (Vm.toV d.val)/\Vm.ofVs (Vm.toVs l)=some l:=by
  intro l d h ho;unfold Xj7 at h;split at h
  . rename_i op k t v a b
    cases h;rw[Xlt];exact Xn3 _ _ rfl (XmJ op k t v a b)
  . cases h
set_option maxRecDepth 100000 in
theorem Xt7 (el:Nat->Nat):XmB Xj2 (XhR noO (Xgh all) 1000 16 [] (ZA 7 [] el))=true:=by kernel_rfl
def Xf6:List Vm.DV->Option PD:=fun l=>match l with
  |[]=>some (.v (.bool true))
  |_=>none
theorem XsZ:∀ l d,Xf6 l=some d->d.ok=true->PlainCall Tryz.prog [] 16 (Vm.toVs l) (Vm.toV d.val)/\Vm.ofVs (Vm.toVs l)=some l:=by
  intro l d h ho;unfold Xf6 at h;split at h
  . cases h
    refine⟨Xbd YI XmY Xpl XN (n:=1000) ⟨fun x hx=>(by cases hx),fun x hx=>(by cases hx)⟩ (fun el=>?_) trivial trivial,rfl⟩
    rw[Xo,← XgE];exact Xjn (Xt7 el)
  . cases h
def XA (mf:MF)(h:mf=Xv):Laws Tryz.prog:=(((((XuM mf h).add 38 Xhu Xj8).add 40 Xj4 XsX).add 60 Xj7 Xr7)).add 16 Xf6 XsZ
def X:Laws Tryz.prog:=XA Xv rfl
theorem above:Above X X.O:=⟨X.O_good,fun _ _ _ _ _ e=>e⟩
def O:Nat->List V->H->Res:=X.O
theorem Xtq (mf:MF)(h:mf=Xv):Above (XA mf h) O:=by subst h; exact above
def kn:Nat->Bool:=fun f=>X.dom.any (Nat.beq f)
theorem XqC:∀ f,kn f=false->∀ a h,O f a h=.no:=by
  intro f hf a h;refine X.O_no (fun hm=>?_) a h
  have:kn f=true:=List.any_eq_true.2 ⟨f,hm,Nat.beq_refl f⟩
  rw[this] at hf; cases hf
noncomputable def kd:Kd:=⟨fun el=>match Nat.beq el 41 with
  |true=>some .ent
  |false=>match Nat.beq el 31 with
    |true=>some .msg
    |false=>match Nat.beq el 5 with
      |true=>some .byte
      |false=>none,fun _=>none⟩
def base:Base:=[]
theorem Xe8:BaseOk Tryz.prog.globals.size base:=⟨fun x hx=>(by cases hx),fun x hx=>(by cases hx)⟩
def gl:Gl:=Xbh 7 base (fun x hx=>by cases hx)
def C:Ctx Tryz.prog:=⟨X,gl,XiK.symm,O,above,tab,XN,kn,XqC,kd⟩
def Y0:C.RL:=RLaws.none C.G C.O C.tab
end
end Go.Vm.YtkjjpmbpjfmbcaaGreatDoor

namespace Go.Vm.YtkjjpmbpjfmbcaaGreatDoor.B
open Go.Proofs Go.Vm.R
noncomputable section
def at3:CC->CC | .seq _ b=>b | c=>c
def fl:CC->CC | .seq a _=>a | c=>c
def bl:CC->CC | .block _ b=>b | c=>c
def lp:CC->CC | .loop b=>b | c=>c
theorem cT {α:Type}{p:Prop} [Decidable p] {a b:α} (h:p):cond (decide p) a b=a:=by rw[decide_eq_true h]; rfl
theorem cF {α:Type}{p:Prop} [Decidable p] {a b:α} (h:¬ p):cond (decide p) a b=b:=by rw[decide_eq_false h]; rfl
theorem cA {α:Type}{p q:Prop} [Decidable p] [Decidable q] {a b:α} (h1:p)(h2:q):cond (decide p&&decide q) a b=a:=by rw[decide_eq_true h1,decide_eq_true h2]; rfl
theorem cB {α:Type}{m n:Nat}{a b:α} (h:m<n):cond (Nat.blt m n) a b=a:=by rw[show Nat.blt m n=true by simpa using h]; rfl
theorem Wz (b:Bool)(t f:R.Tree):(R.Tree.br b t f).ev=cond b t.ev f.ev:=by cases b<;>rfl
theorem Xc0 {z:Int}{n:Nat} (h0:0<=z)(h1:z<n)(h2:n<9223372036854775808):IntKind.wrap .i64 (z+1)=z+1:=wrap_i64 (by omega) (by omega)
theorem YG {N:Nat}{ld:LoopD}{rd:R.EK}{y:List (Nat×R.EK)}{b:Bool}{t:LT}{z:R.DV×R.DH} (h:((LT.need b t).tree N ld rd y).ev=some z):b=true/\(t.tree N ld rd y).ev=some z:=by
  rw[LT.tree] at h; exact R.XB h
theorem Xeh {N:Nat}{ld:LoopD}{rd:R.EK}{y:List (Nat×R.EK)} (b:Bool)(t f:LT):((LT.br b t f).tree N ld rd y).ev=cond b (t.tree N ld rd y).ev (f.tree N ld rd y).ev:=by
  rw[LT.tree]; exact Wz ..
theorem Zw {f:Nat}{c:CFn} (h:tab f=some c):ccWf Tryz.prog.globals.size c.body:=by
  obtain⟨fn,b,_,_,_,_,_,h7⟩:=Z9 (XN f c h);rw[h7]; exact WT Tryz.prog b
theorem Xc7 {G:Nat}:∀ {c:CC},ccWf G c->ccWf G (at3 c)
  | .seq _ _,h=>h.2
  | .skip,h | .ops _,h | .draw ..,h | .cond ..,h | .block ..,h | .loop _,h | .exit _,h | .ret,h | .bad,h=>h
theorem XjW {G:Nat}:∀ {c:CC},ccWf G c->ccWf G (fl c)
  | .seq _ _,h=>h.1
  | .skip,h | .ops _,h | .draw ..,h | .cond ..,h | .block ..,h | .loop _,h | .exit _,h | .ret,h | .bad,h=>h
theorem XjX {G:Nat}:∀ {c:CC},ccWf G c->ccWf G (bl c)
  | .block _ _,h=>h
  | .skip,h | .ops _,h | .draw ..,h | .seq ..,h | .cond ..,h | .loop _,h | .exit _,h | .ret,h | .bad,h=>h
theorem XjU {G:Nat}:∀ {c:CC},ccWf G c->ccWf G (lp c)
  | .loop _,h=>h
  | .skip,h | .ops _,h | .draw ..,h | .seq ..,h | .cond ..,h | .block ..,h | .exit _,h | .ret,h | .bad,h=>h
theorem XP {G:Nat}:∀ (c:CC) (hd:Option Nat),ccWf G c->∀ p∈X8 hd c,ccWf G p.2
  | .seq a b,hd,h,p,hp=>by
    rcases List.mem_append.1 hp with hp | hp
    . exact XP a hd h.1 p hp
    . exact XP b hd h.2 p hp
  | .cond _ a b,hd,h,p,hp=>by
    rcases List.mem_append.1 hp with hp | hp
    . exact XP a hd h.1 p hp
    . exact XP b hd h.2 p hp
  | .block id b,_,h,p,hp=>XP b (some id) h p hp
  | .loop b,some id,h,p,hp=>by
    rcases List.mem_append.1 hp with hp | hp
    . cases List.mem_singleton.1 hp; exact h
    . exact XP b (some id) h p hp
  | .loop b,none,h,p,hp=>by
    rcases List.mem_append.1 hp with hp | hp
    . cases hp
    . exact XP b none h p hp
  | .skip,_,_,_,hp | .ops _,_,_,_,hp | .draw ..,_,_,_,hp | .exit _,_,_,_,hp | .ret,_,_,_,hp | .bad,_,_,_,hp=>by cases hp
def seg {α:Type} (full:List α)(j n:Nat):List α:=(full.drop j).take n
theorem seg_len {α:Type}{full:List α}{j n:Nat} (h:j+n<=full.length):(seg full j n).length=n:=by
  simp[seg]; omega
theorem XaF {α:Type}{d:α}{full:List α}{j n:Nat}{z:Int} (h:j+n<=full.length)(h0:0<=z)(h1:z<n):(seg full j n).drop z.toNat=full.getD (j+z.toNat) d::(seg full j n).drop (z+1).toNat:=by
  have hl:=seg_len h;rw[show (z+1).toNat=z.toNat+1 by omega,List.drop_eq_getElem_cons (by omega)]
  congr 1
  have:(seg full j n)[z.toNat]? = full[j+z.toNat]? := by
    unfold seg;rw[List.getElem?_take_of_lt (by omega),List.getElem?_drop]
  rw[List.getD_eq_getElem?_getD,← this,List.getElem?_eq_getElem (by omega)]; rfl
theorem Xas {α:Type}{full:List α}{j n:Nat}{z:Int} (h:j+n<=full.length)(h1:¬ z<n)(h0:0<=z):(seg full j n).drop z.toNat=[]:=by
  have hl:=seg_len h;exact List.drop_eq_nil_of_le (by omega)
def lhX (ld:LoopD):Nat->Option LoopD:=fun id=>match Nat.beq id 0 with
  |true=>some ld
  |false=>none
theorem WF {Q:Nat->CC->LoopD->Prop}{ld:LoopD}{l:List (Nat×CC)}{b:CC} (hl:l=[(0,b)])(h:Q 0 b ld):∀ p∈l,∀ d,lhX ld p.1=some d->Q p.1 p.2 d:=by
  subst hl;intro p hp d e
  cases List.mem_singleton.1 hp
  cases e;exact h
def okN {α:Type} (full:List α)(j n:Nat):Bool:=decide (j+n<=full.length/\n<999)
theorem okN_iff {α:Type}{full:List α}{j n:Nat}:okN full j n=true<->(j+n<=full.length/\n<999):=by simp[okN]
theorem Xfa {n:Nat} (h:n<9999):roomFor n 56=true:=by
  unfold roomFor;rw[Nat.ble_eq_true_of_le (by omega),Nat.ble_eq_true_of_le (by omega)]; rfl
def rec (full:List Msg)(j:Nat)(z:Int):Msg:=full.getD (j+z.toNat) (0,[],[],[])
theorem Xev {full:List Msg}{j n:Nat}{z:Int} (h:j+n<=full.length)(h0:0<=z)(h1:z<n):(seg full j n).drop z.toNat=rec full j z::(seg full j n).drop (z+1).toNat:=XaF h h0 h1
def okS (full:List Msg)(j n:Nat)(z:Int):Bool:=decide (0<=z/\z<=n/\j+n<=full.length/\n<9223372036854775808)
theorem okS_iff {full:List Msg}{j n:Nat}{z:Int}:okS full j n z=true<->(0<=z/\z<=n/\j+n<=full.length/\n<9223372036854775808):=by simp[okS]
def P14 (j n:Nat)(full:List Msg)(z:Int):Bool:=okS full j n z&&decide (z<=70)
def YC (full:List Msg)(j n:Nat):Nat->Int->Bool
  |0,_=>true
  |m+1,z=>cond (decide (z<n)) (cond (decide (z<70)) (cond (decide (300<((rec full j z).2.1.length:Int))) false (cond (decide (300<((rec full j z).2.2.1.length:Int))) false (cond (decide (300<((rec full j z).2.2.2.length:Int))) false (YC full j n m (z+1))))) true) true
def S14 (j n:Nat)(full:List Msg)(z:Int):Bool:=YC full j n (71-z.toNat) z
def b14:CC:=match X8 none c14.body with | [(_,b)]=>b | _=>.skip
def lt14 (j n c:Nat)(ex:Bool)(z:Int)(full:List Msg)(sp:Bool)(el:R.EL):LT:=.need (P14 j n full z) (.br (S14 j n full z) (.exit 0 [.rs 0 j n c 4 ex] [.r .msg full sp el]) (.ret [.bool false] [.r .msg full sp el]))
def ld14:LoopD:=⟨[(0,none),(3,none)],[(0,none)],[(2,none)],fun vs ao=>match vs,ao with
  |[.rs 0 j n c 4 ex,.int .i64 z],[.r .msg full sp el]=>some (71-z.toNat,lt14 j n c ex z full sp el)
  |_,_=>none⟩
theorem XqV (j n c:Nat)(ex:Bool)(z:Int)(full:List Msg)(sp:Bool)(el:R.EL)(m:Nat)(rd k1:R.EK)(y:List (Nat×R.EK)) :
    (YR C Y0 (fun _=>none) 200 42 1 0 b14 ld14 m [.rs 0 j n c 4 ex,.int .i64 z] [.r .msg full sp el] rd k1 y).ev =
    cond (decide (z<(↑n:Int))) (cond (decide (z<70)) (cond (decide (0<=z)&&decide (Int.toNat z<n)) (cond (Nat.blt (j+Int.toNat z) full.length) (cond (decide (300<(↑(List.length (Prod.fst (Prod.snd (List.getD full (j+Int.toNat z) (RK.zero RK.msg))))):Int))) ((rd (envZ [2] [R.DV.bool false]) (mkD [DO.r RK.msg full sp el] 1)).ev) (cond (decide (0<=z)&&decide (Int.toNat z<n)) (cond (Nat.blt (j+Int.toNat z) full.length) (cond (decide (300<(↑(List.length (Prod.fst (Prod.snd (Prod.snd (List.getD full (j+Int.toNat z) (RK.zero RK.msg)))))):Int))) ((rd (envZ [2] [R.DV.bool false]) (mkD [DO.r RK.msg full sp el] 1)).ev) (cond (decide (0<=z)&&decide (Int.toNat z<n)) (cond (Nat.blt (j+Int.toNat z) full.length) (cond (decide (300<(↑(List.length (Prod.snd (Prod.snd (Prod.snd (List.getD full (j+Int.toNat z) (RK.zero RK.msg)))))):Int))) ((rd (envZ [2] [R.DV.bool false]) (mkD [DO.r RK.msg full sp el] 1)).ev) (cond (decide (71-Int.toNat (IntKind.wrap .i64 (z+1))<m)) (cond (P14 j n full (IntKind.wrap .i64 (z+1))) (cond (S14 j n full (IntKind.wrap .i64 (z+1))) ((k1 (envZ [0] [DV.rs 0 j n c 4 ex]) (mkD [DO.r RK.msg full sp el] 1)).ev) ((rd (envZ [2] [R.DV.bool false]) (mkD [DO.r RK.msg full sp el] 1)).ev)) none) none)) none) none)) none) none)) none) none) ((k1 (envZ [0] [DV.rs 0 j n c 4 ex]) (mkD [DO.r RK.msg full sp el] 1)).ev)) ((k1 (envZ [0] [DV.rs 0 j n c 4 ex]) (mkD [DO.r RK.msg full sp el] 1)).ev):=by kernel_rfl
theorem Xrq (j n c : Nat) (ex : Bool) (z : Int) (full : List Msg) (sp : Bool) (el : R.EL) (rd k1 : R.EK) (y : List (Nat × R.EK)) (w : R.DV × R.DH) (hw : ((lt14 j n c ex z full sp el).tree 1 ld14 rd ((0, k1) :: y)).ev = some w) :
    (YR C Y0 (fun _=>none) 200 42 1 0 b14 ld14 (71-z.toNat) [.rs 0 j n c 4 ex,.int .i64 z] [.r .msg full sp el] rd k1 y).ev=some w:=by
  replace hw:=YG hw;obtain⟨hp,hw⟩:=hw;simp only[P14,Bool.and_eq_true,decide_eq_true_eq] at hp;obtain⟨hp,hz⟩:=hp;obtain⟨p0,p1,p2,p3⟩:=okS_iff.1 hp;rw[XqV];rw[Xeh] at hw;replace hw:cond (YC full j n (71-z.toNat) z) ((k1 (envZ [0] [R.DV.rs 0 j n c 4 ex]) (mkD [DO.r RK.msg full sp el] 1)).ev) ((rd (envZ [2] [R.DV.bool false]) (mkD [DO.r RK.msg full sp el] 1)).ev)=some w:=hw;rw[show 71-z.toNat=(70-z.toNat)+1 by omega] at hw
  rw[show YC full j n (70-z.toNat+1) z=cond (decide (z<n)) (cond (decide (z<70)) (cond (decide (300<((rec full j z).2.1.length:Int))) false (cond (decide (300<((rec full j z).2.2.1.length:Int))) false (cond (decide (300<((rec full j z).2.2.2.length:Int))) false (YC full j n (70-z.toNat) (z+1))))) true) true from rfl] at hw
  by_cases h1:z<n
  . rw[cT h1] at hw ⊢
    by_cases h2:z<70
    . rw[cT h2] at hw ⊢
      have b1:z.toNat<n:=by omega
      have hP:P14 j n full (z+1)=true:=by
        simp only[P14,Bool.and_eq_true,decide_eq_true_eq]
        exact⟨okS_iff.2 (by omega),by omega⟩
      have hS:S14 j n full (z+1)=YC full j n (70-z.toNat) (z+1):=by
        unfold S14;rw[show 71-(z+1).toNat=70-z.toNat by omega]
      rw[cA p0 b1,cB (show j+z.toNat<full.length by omega),cA p0 b1,cB (show j+z.toNat<full.length by omega),cA p0 b1,cB (show j+z.toNat<full.length by omega),Xc0 p0 h1 p3,hP,hS,cT (show 71-(z+1).toNat<71-z.toNat by omega)]
      revert hw
      show _->cond (decide (300<((rec full j z).2.1.length:Int))) _ (cond (decide (300<((rec full j z).2.2.1.length:Int))) _ (cond (decide (300<((rec full j z).2.2.2.length:Int))) _ _))=_
      cases decide (300<((rec full j z).2.1.length:Int))<;>cases decide (300<((rec full j z).2.2.1.length:Int))<;>cases decide (300<((rec full j z).2.2.2.length:Int))<;>exact id
    . rw[cF h2] at hw ⊢
      exact hw
  . rw[cF h1] at hw ⊢
    exact hw
theorem Xsc {n:Nat} (hn:200<=n):XQ C.G 1 (XF X4 C.O C.tab n) n 200 42 0 b14 ld14:=by
  refine ZJ C Y0 (lh:=fun _=>none) hn ?_ (fun p _ ld h=>by cases h) ?_
  . exact XP _ none (Zw (f:=14) rfl) (0,b14) (by rw[show X8 none c14.body=[(0,b14)] from rfl]; exact List.mem_cons_self)
  intro vs ao m t hs rd k1 y w hw;unfold ld14 at hs
  simp only at hs
  split at hs
  case h_2=>cases hs
  cases hs;exact Xrq _ _ _ _ _ _ _ _ _ _ _ _ hw
def XeP (m:Msg):Bool:=!decide (300<(m.2.1.length:Int))&&(!decide (300<(m.2.2.1.length:Int))&&!decide (300<(m.2.2.2.length:Int)))
def fewL (l:List Msg):Bool:=l.all XeP&&decide ((l.length:Int)<=60)
theorem Xac {full:List Msg}{j n:Nat} (hj:j+n<=full.length)(hn:n<=60):∀ (m:Nat) (z:Int),0<=z->z<=n->n<m+z->YC full j n m z=((seg full j n).drop z.toNat).all XeP
  |0,z,h0,h1,h2=>by omega
  |m+1,z,h0,h1,h2=>by
    show cond (decide (z<n)) (cond (decide (z<70)) _ true) true=_
    by_cases h3:z<n
    . rw[cT h3,cT (show z<70 by omega),Xev hj h0 h3,List.all_cons,← Xac hj hn m (z+1) (by omega) (by omega) (by omega)]
      unfold XeP
      cases decide (300<((rec full j z).2.1.length:Int))<;>cases decide (300<((rec full j z).2.2.1.length:Int))<;>cases decide (300<((rec full j z).2.2.2.length:Int))<;>rfl
    . rw[cF h3,Xas hj h3 h0]; rfl
theorem XjA {full:List Msg}{j n:Nat} (hj:j+n<=full.length):cond (S14 j n full 0) (decide ((n:Int)<=60)) false=fewL (seg full j n):=by
  unfold fewL;rw[seg_len hj,show S14 j n full 0=YC full j n 71 0 from rfl]
  by_cases hn:n<=60
  . rw[Xac hj hn 71 0 (by omega) (by omega) (by omega)]
    show cond ((seg full j n).all XeP) _ _=_
    cases (seg full j n).all XeP<;>rfl
  . rw[show decide ((n:Int)<=60)=false by simp; omega,Bool.and_false]
    cases YC full j n 71 0<;>rfl
def Xq7 (full:List Msg)(j n:Nat):RD:=.need (okS full j n 0) (.v (.bool (fewL (seg full j n))) [])
theorem Xt8 (j n c:Nat)(ex:Bool)(full:List Msg)(sp:Bool)(el:R.EL):runD C Y0 (lhX ld14) 200 c14 [.rs 0 j n c 4 ex] [.r .msg full sp el] =
    cond (P14 j n full 0) (cond (S14 j n full 0) (some (R.DV.bool (decide ((↑n:Int)<=60)),(mkD [DO.r RK.msg full sp el] 1))) (some (R.DV.bool false,(mkD [DO.r RK.msg full sp el] 1)))) none:=by kernel_rfl
theorem Xvm (j n c:Nat)(ex:Bool)(full:List Msg)(sp:Bool)(el:R.EL):Xw C.G C.O C.tab 14 201 [.r .msg full sp el] [.rs 0 j n c 4 ex] (Xq7 full j n):=by
  refine Yy C Y0 (lhX ld14) rfl rfl (fun n hn=>WF (Q:=fun i b ld=>XQ C.G 1 (XF X4 C.O C.tab n) n 200 42 i b ld) rfl (Xsc hn)) fun z hz=>?_
  obtain⟨hp,hz⟩:=R.XB hz;refine (Xt8 j n c ex full sp el).trans ?_
  have hP:P14 j n full 0=true:=by
    simp only[P14,Bool.and_eq_true]
    exact⟨hp,rfl⟩
  rw[hP]
  have:=XjA (okS_iff.1 hp).2.2.1
  cases hs:S14 j n full 0<;>rw[hs] at this<;>(refine Eq.trans ?_ hz)<;>show some _=some _<;>rw[← this]<;>rfl
theorem Xs3:Xw C.G C.O C.tab 14 201 [] [.nils] (.v (.bool true) []):=by
  refine Yy C Y0 (fun _=>none) rfl rfl (fun n hn p _ ld e=>by cases e) fun z hz=>?_
  refine Eq.trans ?_ hz
  kernel_rfl
def X0 (m:Msg)(a b:Txt):List Msg:=cond (decide (m.1=3)) (cond (!decide (a=[])&&XD m [] a) [Xn m [] a] []++cond (!decide (b=[])&&XD m b []) [Xn m b []] []) []
def outL (l:List Msg):RD:=.br (Nat.beq l.length 0) (.v .nils []) (.v (.rs 0 0 l.length l.length 4 false) [.r .msg l true 31])
theorem Xt2 (op:Int)(k t v a b:Txt):runD C Y0 (fun _=>none) 200 c61 [.agg [.int .i64 op,.str k,.str t,.str v],.str a,.str b] [] =
    cond (!decide (op=3)) (some (R.DV.nils,(mkD [] 0))) (cond (!decide (a=[])) (cond (XD (op,k,t,v) [] a) (cond (!decide (b=[])) (cond (XD (op,k,t,v) b []) (some (DV.rs 0 0 2 2 4 false,(mkD [DO.r RK.msg (List.take (List.length (List.take 1 (List.drop 0 [(op,Prod.fst (Prod.snd (Xn (op,k,t,v) [] a)),Prod.fst (Prod.snd (Prod.snd (Xn (op,k,t,v) [] a))),v)]))) (List.drop 0 (List.take 1 (List.drop 0 [(op,Prod.fst (Prod.snd (Xn (op,k,t,v) [] a)),Prod.fst (Prod.snd (Prod.snd (Xn (op,k,t,v) [] a))),v)])))++List.take 1 (List.drop 0 [(op,Prod.fst (Prod.snd (Xn (op,k,t,v) b [])),Prod.fst (Prod.snd (Prod.snd (Xn (op,k,t,v) b []))),v)])) true { e:=31,z:=0 }] 0))) (some (DV.rs 0 0 1 1 4 false,(mkD [DO.r RK.msg (List.take 1 (List.drop 0 [(op,Prod.fst (Prod.snd (Xn (op,k,t,v) [] a)),Prod.fst (Prod.snd (Prod.snd (Xn (op,k,t,v) [] a))),v)])) true { e:=31,z:=0 }] 0)))) (some (DV.rs 0 0 1 1 4 false,(mkD [DO.r RK.msg (List.take 1 (List.drop 0 [(op,Prod.fst (Prod.snd (Xn (op,k,t,v) [] a)),Prod.fst (Prod.snd (Prod.snd (Xn (op,k,t,v) [] a))),v)])) true { e:=31,z:=0 }] 0)))) (cond (!decide (b=[])) (cond (XD (op,k,t,v) b []) (some (DV.rs 0 0 1 1 4 false,(mkD [DO.r RK.msg (List.take 1 (List.drop 0 [(op,Prod.fst (Prod.snd (Xn (op,k,t,v) b [])),Prod.fst (Prod.snd (Prod.snd (Xn (op,k,t,v) b []))),v)])) true { e:=31,z:=0 }] 0))) (some (R.DV.nils,(mkD [] 0)))) (some (R.DV.nils,(mkD [] 0))))) (cond (!decide (b=[])) (cond (XD (op,k,t,v) b []) (some (DV.rs 0 0 1 1 4 false,(mkD [DO.r RK.msg (List.take 1 (List.drop 0 [(op,Prod.fst (Prod.snd (Xn (op,k,t,v) b [])),Prod.fst (Prod.snd (Prod.snd (Xn (op,k,t,v) b []))),v)])) true { e:=31,z:=0 }] 0))) (some (R.DV.nils,(mkD [] 0)))) (some (R.DV.nils,(mkD [] 0))))):=by kernel_rfl
theorem Xve (op:Int)(k t v a b:Txt):Xw C.G C.O C.tab 61 201 [] [.agg [.int .i64 op,.str k,.str t,.str v],.str a,.str b] (outL (X0 (op,k,t,v) a b)):=by
  refine Yy C Y0 (fun _=>none) rfl rfl (fun n hn p _ ld e=>by cases e) fun z hz=>?_
  refine (Xt2 op k t v a b).trans (Eq.trans ?_ hz);unfold X0
  show _=(R.Tree.br _ _ _).ev
  show cond (!decide (op=3)) _ _=_
  cases decide (op=3)<;>cases decide (a=[])<;>cases XD (op,k,t,v) [] a<;>cases decide (b=[])<;>cases XD (op,k,t,v) b []<;>rfl
def g61:List R.DV->List R.DO->Option RD:=fun l ao=>match l,ao with
  |[.agg [.int .i64 op,.str k,.str t,.str v],.str a,.str b],[]=>some (outL (X0 (op,k,t,v) a b))
  |_,_=>none
theorem XsW (l:List R.DV)(ao:List R.DO)(out:RD)(h:g61 l ao=some out):Xw C.G C.O C.tab 61 201 ao l out:=by
  unfold g61 at h;split at h
  . cases h; exact Xve _ _ _ _ _ _
  . cases h
def Y1:C.RL:=(Y0.add 61 201 g61 XsW)
def okG (full:List Msg)(j n:Nat):Bool:=decide (j+n<=full.length/\n<199)
theorem Xbf {full:List Msg}{j n:Nat}:okG full j n=true<->(j+n<=full.length/\n<199):=by simp[okG]
def inL (x y:Txt):List Msg->List Msg
  |[]=>[]
  |m::r=>cond (XD m x y) (Xn m x y::inL x y r) (inL x y r)
def Xku (lf:Msg->Txt->Txt->List Msg)(x y:Txt):List Msg->List Msg
  |[]=>[]
  |m::r=>cond (XD m x y) (lf m x y) [m]++Xku lf x y r
def SI (j n:Nat)(full:List Msg)(z:Int)(x y:Txt)(inn:List Msg):List Msg:=inn++inL x y ((seg full j n).drop z.toNat)
def SO (lf:Msg->Txt->Txt->List Msg)(j n:Nat)(full:List Msg)(z:Int)(x y:Txt)(out:List Msg):List Msg:=out++Xku lf x y ((seg full j n).drop z.toNat)
def P17 (j n:Nat)(full:List Msg)(n' z:Int)(inn out:List Msg):Bool:=decide (n'=n/\j+n<=full.length/\n<199/\0<=z/\z<=n/\(inn.length:Int)<=z/\(out.length:Int)<=2*z)
theorem Xl8 (m:Msg)(x y:Txt):(X0 m x y).length<=2:=by
  unfold X0
  cases decide (m.1=3)<;>cases !decide (x=[])&&XD m [] x<;>cases !decide (y=[])&&XD m y []<;>simp
theorem Xqs {full inn:List Msg}{j n:Nat}{z:Int}{x y:Txt} (p1:j+n<=full.length)(p3:0<=z)(h1:z<n):SI j n full z x y inn=SI j n full (z+1) x y (cond (XD (rec full j z) x y) (inn++[Xn (rec full j z) x y]) inn):=by
  unfold SI;rw[Xev p1 p3 h1]
  show inn++cond (XD (rec full j z) x y) _ _=_
  cases XD (rec full j z) x y<;>simp
theorem Xqr {lf:Msg->Txt->Txt->List Msg}{full out:List Msg}{j n:Nat}{z:Int}{x y:Txt} (p1:j+n<=full.length)(p3:0<=z)(h1:z<n):SO lf j n full z x y out=SO lf j n full (z+1) x y (out++cond (XD (rec full j z) x y) (lf (rec full j z) x y) [rec full j z]):=by
  unfold SO;rw[Xev p1 p3 h1,List.append_assoc];rfl
def b17:CC:=match X8 none c17.body with | [(_,b)]=>b | _=>.skip
def lt17 (a b j n c:Nat)(ex:Bool)(x y:Txt)(n' z:Int)(full inn out:List Msg)(sp:Bool)(el:R.EL):LT:=.need (Nat.beq a inn.length&&(Nat.beq b out.length&&P17 j n full n' z inn out)) (.exit 0 [.ns 1 (SI j n full z x y inn).length 4,.ns 2 (SO X0 j n full z x y out).length 4] [.r .msg full sp el,.rn .msg (SI j n full z x y inn) 31,.rn .msg (SO X0 j n full z x y out) 31])
def ld17:LoopD:=⟨[(1,none),(2,none),(6,some (.msg,31)),(7,some (.msg,31)),(12,none),(13,none),(14,none)],[(6,some (.msg,31)),(7,some (.msg,31))],[],fun vs ao=>match vs,ao with
  |[.str x,.str y,.ns 1 a 4,.ns 2 b 4,.rs 0 j n c 4 ex,.int .i64 n',.int .i64 z],[.r .msg full sp el,.rn .msg inn 31,.rn .msg out 31]=>some (n-z.toNat,lt17 a b j n c ex x y n' z full inn out sp el)
  |_,_=>none⟩
theorem XqU (j n c:Nat)(ex:Bool)(x0 y0:Txt)(n' z:Int)(full inn out:List Msg)(sp:Bool)(el:R.EL)(m:Nat)(rd k1:R.EK)(y:List (Nat×R.EK)) :
    (YR C Y1 (fun _=>none) 210 44 1 0 b17 ld17 m [.str x0,.str y0,.ns 1 inn.length 4,.ns 2 out.length 4,.rs 0 j n c 4 ex,.int .i64 n',.int .i64 z] [.r .msg full sp el,.rn .msg inn 31,.rn .msg out 31] rd k1 y).ev =
    cond (decide (z<n')) (cond (decide (0<=z)&&decide (Int.toNat z<n)) (cond (Nat.blt (j+Int.toNat z) full.length) (cond (XD (rec full j z) x0 y0) (cond (Nat.ble inn.length inn.length) (cond (Nat.ble inn.length inn.length) (cond (roomFor (List.length inn+List.length ([Xn (rec full j z) x0 y0])) 56) (cond (Nat.beq (List.length (X0 (rec full j z) x0 y0)) 0) (cond (Nat.ble out.length out.length) (cond (decide (List.length inn+List.length ([Xn (rec full j z) x0 y0])=List.length (List.take inn.length inn++[Xn (rec full j z) x0 y0]))&&(decide (List.length inn+List.length ([Xn (rec full j z) x0 y0])=List.length inn+List.length ([Xn (rec full j z) x0 y0]))&&true)) (cond (decide (n-Int.toNat (IntKind.wrap .i64 (z+1))<m)) (cond (Nat.beq (List.length inn+List.length ([Xn (rec full j z) x0 y0])) (List.length (List.take inn.length inn++[Xn (rec full j z) x0 y0]))&&(Nat.beq out.length out.length&&P17 j n full n' (IntKind.wrap .i64 (z+1)) (List.take inn.length inn++[Xn (rec full j z) x0 y0]) out)) ((k1 (envZ [6,7] [DV.ns 1 (List.length (SI j n full (IntKind.wrap .i64 (z+1)) x0 y0 (List.take inn.length inn++[Xn (rec full j z) x0 y0]))) 4,DV.ns 2 (List.length (SO X0 j n full (IntKind.wrap .i64 (z+1)) x0 y0 out)) 4]) (mkD [DO.r RK.msg full sp el,DO.rn RK.msg (SI j n full (IntKind.wrap .i64 (z+1)) x0 y0 (List.take inn.length inn++[Xn (rec full j z) x0 y0])) 31,DO.rn RK.msg (SO X0 j n full (IntKind.wrap .i64 (z+1)) x0 y0 out) 31] 1)).ev) none) none) none) none) (cond (Nat.ble (0+List.length (X0 (rec full j z) x0 y0)) (List.length (X0 (rec full j z) x0 y0))) (cond (Nat.ble out.length out.length) (cond (decide (List.length (List.take (List.length (X0 (rec full j z) x0 y0)) (List.drop 0 (X0 (rec full j z) x0 y0)))=0)) (cond (decide (List.length inn+List.length ([Xn (rec full j z) x0 y0])=List.length (List.take inn.length inn++[Xn (rec full j z) x0 y0]))&&(decide (List.length inn+List.length ([Xn (rec full j z) x0 y0])=List.length inn+List.length ([Xn (rec full j z) x0 y0]))&&true)) (cond (decide (n-Int.toNat (IntKind.wrap .i64 (z+1))<m)) (cond (Nat.beq (List.length inn+List.length ([Xn (rec full j z) x0 y0])) (List.length (List.take inn.length inn++[Xn (rec full j z) x0 y0]))&&(Nat.beq out.length out.length&&P17 j n full n' (IntKind.wrap .i64 (z+1)) (List.take inn.length inn++[Xn (rec full j z) x0 y0]) out)) ((k1 (envZ [6,7] [DV.ns 1 (List.length (SI j n full (IntKind.wrap .i64 (z+1)) x0 y0 (List.take inn.length inn++[Xn (rec full j z) x0 y0]))) 4,DV.ns 2 (List.length (SO X0 j n full (IntKind.wrap .i64 (z+1)) x0 y0 out)) 4]) (mkD [DO.r RK.msg full sp el,DO.rn RK.msg (SI j n full (IntKind.wrap .i64 (z+1)) x0 y0 (List.take inn.length inn++[Xn (rec full j z) x0 y0])) 31,DO.rn RK.msg (SO X0 j n full (IntKind.wrap .i64 (z+1)) x0 y0 out) 31] 1)).ev) none) none) none) (cond (roomFor (List.length out+List.length (List.take (List.length (X0 (rec full j z) x0 y0)) (List.drop 0 (X0 (rec full j z) x0 y0)))) 56) (cond (decide (List.length inn+List.length ([Xn (rec full j z) x0 y0])=List.length (List.take inn.length inn++[Xn (rec full j z) x0 y0]))&&(decide (List.length inn+List.length ([Xn (rec full j z) x0 y0])=List.length inn+List.length ([Xn (rec full j z) x0 y0]))&&true)) (cond (decide (List.length out+List.length (List.take (List.length (X0 (rec full j z) x0 y0)) (List.drop 0 (X0 (rec full j z) x0 y0)))=List.length (List.take out.length out++List.take (List.length (X0 (rec full j z) x0 y0)) (List.drop 0 (X0 (rec full j z) x0 y0))))&&(decide (List.length out+List.length (List.take (List.length (X0 (rec full j z) x0 y0)) (List.drop 0 (X0 (rec full j z) x0 y0)))=List.length out+List.length (List.take (List.length (X0 (rec full j z) x0 y0)) (List.drop 0 (X0 (rec full j z) x0 y0))))&&!decide (List.length out+List.length (List.take (List.length (X0 (rec full j z) x0 y0)) (List.drop 0 (X0 (rec full j z) x0 y0)))=0))) (cond (decide (n-Int.toNat (IntKind.wrap .i64 (z+1))<m)) (cond (Nat.beq (List.length inn+List.length ([Xn (rec full j z) x0 y0])) (List.length (List.take inn.length inn++[Xn (rec full j z) x0 y0]))&&(Nat.beq (List.length out+List.length (List.take (List.length (X0 (rec full j z) x0 y0)) (List.drop 0 (X0 (rec full j z) x0 y0)))) (List.length (List.take out.length out++List.take (List.length (X0 (rec full j z) x0 y0)) (List.drop 0 (X0 (rec full j z) x0 y0))))&&P17 j n full n' (IntKind.wrap .i64 (z+1)) (List.take inn.length inn++[Xn (rec full j z) x0 y0]) (List.take out.length out++List.take (List.length (X0 (rec full j z) x0 y0)) (List.drop 0 (X0 (rec full j z) x0 y0))))) ((k1 (envZ [6,7] [DV.ns 1 (List.length (SI j n full (IntKind.wrap .i64 (z+1)) x0 y0 (List.take inn.length inn++[Xn (rec full j z) x0 y0]))) 4,DV.ns 2 (List.length (SO X0 j n full (IntKind.wrap .i64 (z+1)) x0 y0 (List.take out.length out++List.take (List.length (X0 (rec full j z) x0 y0)) (List.drop 0 (X0 (rec full j z) x0 y0))))) 4]) (mkD [DO.r RK.msg full sp el,DO.rn RK.msg (SI j n full (IntKind.wrap .i64 (z+1)) x0 y0 (List.take inn.length inn++[Xn (rec full j z) x0 y0])) 31,DO.rn RK.msg (SO X0 j n full (IntKind.wrap .i64 (z+1)) x0 y0 (List.take out.length out++List.take (List.length (X0 (rec full j z) x0 y0)) (List.drop 0 (X0 (rec full j z) x0 y0)))) 31] 1)).ev) none) none) none) none) none)) none) none)) none) none) none) (cond (Nat.ble out.length out.length) (cond (roomFor (List.length out+List.length ([(rec full j z)])) 56) (cond (decide (List.length out+List.length ([(rec full j z)])=List.length (List.take out.length out++[(rec full j z)]))&&(decide (List.length out+List.length ([(rec full j z)])=List.length out+List.length ([(rec full j z)]))&&true)) (cond (decide (n-Int.toNat (IntKind.wrap .i64 (z+1))<m)) (cond (Nat.beq inn.length inn.length&&(Nat.beq (List.length out+List.length ([(rec full j z)])) (List.length (List.take out.length out++[(rec full j z)]))&&P17 j n full n' (IntKind.wrap .i64 (z+1)) inn (List.take out.length out++[(rec full j z)]))) ((k1 (envZ [6,7] [DV.ns 1 (List.length (SI j n full (IntKind.wrap .i64 (z+1)) x0 y0 inn)) 4,DV.ns 2 (List.length (SO X0 j n full (IntKind.wrap .i64 (z+1)) x0 y0 (List.take out.length out++[(rec full j z)]))) 4]) (mkD [DO.r RK.msg full sp el,DO.rn RK.msg (SI j n full (IntKind.wrap .i64 (z+1)) x0 y0 inn) 31,DO.rn RK.msg (SO X0 j n full (IntKind.wrap .i64 (z+1)) x0 y0 (List.take out.length out++[(rec full j z)])) 31] 1)).ev) none) none) none) none) none)) none) none) ((k1 (envZ [6,7] [DV.ns 1 inn.length 4,DV.ns 2 out.length 4]) (mkD [DO.r RK.msg full sp el,DO.rn RK.msg inn 31,DO.rn RK.msg out 31] 1)).ev):=by kernel_rfl
theorem Xrp (j n c : Nat) (ex : Bool) (x0 y0 : Txt) (n' z : Int) (full inn out : List Msg) (sp : Bool) (el : R.EL) (rd k1 : R.EK) (y : List (Nat × R.EK)) (w : R.DV × R.DH) (hw : ((lt17 inn.length out.length j n c ex x0 y0 n' z full inn out sp el).tree 1 ld17 rd ((0, k1) :: y)).ev = some w) :
    (YR C Y1 (fun _=>none) 210 44 1 0 b17 ld17 (n-z.toNat) [.str x0,.str y0,.ns 1 inn.length 4,.ns 2 out.length 4,.rs 0 j n c 4 ex,.int .i64 n',.int .i64 z] [.r .msg full sp el,.rn .msg inn 31,.rn .msg out 31] rd k1 y).ev=some w:=by
  replace hw:=YG hw;obtain⟨hp,hw⟩:=hw
  have bI:Nat.beq inn.length inn.length=true:=Nat.beq_refl _
  have bO:Nat.beq out.length out.length=true:=Nat.beq_refl _
  rw[bI,bO] at hp;simp only[Bool.true_and,P17,decide_eq_true_eq] at hp;obtain⟨rfl,p1,p2,p3,p4,p5,p6⟩:=hp;replace hw:(k1 (envZ [6,7] [.ns 1 (SI j n full z x0 y0 inn).length 4,.ns 2 (SO X0 j n full z x0 y0 out).length 4]) (mkD [.r .msg full sp el,.rn .msg (SI j n full z x0 y0 inn) 31,.rn .msg (SO X0 j n full z x0 y0 out) 31] 1)).ev=some w:=hw;rw[XqU]
  by_cases h1:z<n
  . have cz:(decide (0<=z)&&decide (z.toNat<n))=true:=by rw[decide_eq_true p3,decide_eq_true (show z.toNat<n by omega)]; rfl
    have cz2:Nat.blt (j+z.toNat) full.length=true:=by
      have:j+z.toNat<full.length:=by omega
      simpa using this
    have lI:Nat.ble inn.length inn.length=true:=Nat.ble_eq_true_of_le (Nat.le_refl _)
    have lO:Nat.ble out.length out.length=true:=Nat.ble_eq_true_of_le (Nat.le_refl _)
    have hm:decide (n-(z+1).toNat<n-z.toNat)=true:=decide_eq_true (by omega)
    have bI1:Nat.beq (inn.length+1) (inn.length+1)=true:=Nat.beq_refl _
    have bO1:Nat.beq (out.length+1) (out.length+1)=true:=Nat.beq_refl _
    have r1:roomFor (inn.length+1) 56=true:=Xfa (by omega)
    have r2:roomFor (out.length+1) 56=true:=Xfa (by omega)
    have ne1:decide (inn.length+1=0)=false:=rfl
    have ne2:decide (out.length+1=0)=false:=rfl
    have len2:=Xl8 (rec full j z) x0 y0;have eI:=Xqs (inn:=inn) (x:=x0) (y:=y0) p1 p3 h1;have eO:=Xqr (lf:=X0) (out:=out) (x:=x0) (y:=y0) p1 p3 h1;rw[eI,eO] at hw;rw[cT h1,Xc0 p3 h1 (by omega)]
    cases hp:XD (rec full j z) x0 y0 with
    |false =>
      rw[hp] at hw
      have hP:P17 j n full n (z+1) inn (out++[rec full j z])=true:=by
        simp only[P17,decide_eq_true_eq]
        refine⟨trivial,p1,p2,?_,?_,?_,?_⟩<;>first | omega | (rw[List.length_append]; simp; omega)
      simp only[cz,cz2,hp,lI,lO,hm,bI,bO,bO1,r2,ne2,hP,List.take_length,List.length_append,List.length_cons,List.length_nil,Nat.zero_add,decide_true,Bool.true_and,Bool.and_true,Bool.not_false,cond_true,cond_false];exact hw
    |true =>
      rw[hp] at hw
      have hP:P17 j n full n (z+1) (inn++[Xn (rec full j z) x0 y0]) (out++X0 (rec full j z) x0 y0)=true:=by
        simp only[P17,decide_eq_true_eq]
        refine⟨trivial,p1,p2,?_,?_,?_,?_⟩<;>first | omega | (rw[List.length_append]; simp; omega)
      cases hL:Nat.beq (X0 (rec full j z) x0 y0).length 0 with
      |true =>
        have h0:X0 (rec full j z) x0 y0=[]:=List.length_eq_zero_iff.1 (Nat.eq_of_beq_eq_true hL)
        rw[h0,List.append_nil] at hP;rw[show cond true (X0 (rec full j z) x0 y0) [rec full j z]=X0 (rec full j z) x0 y0 from rfl,h0,List.append_nil] at hw
        simp only[cz,cz2,hp,hL,lI,lO,hm,bI,bO,bI1,r1,ne1,hP,List.take_length,List.length_append,List.length_cons,List.length_nil,Nat.zero_add,decide_true,Bool.true_and,Bool.and_true,Bool.not_false,cond_true,cond_false];exact hw
      |false =>
        have h0:(X0 (rec full j z) x0 y0).length ≠ 0:=fun e=>by rw[e] at hL; cases hL
        have hne:decide ((X0 (rec full j z) x0 y0).length=0)=false:=decide_eq_false h0
        have hne2:decide (out.length+(X0 (rec full j z) x0 y0).length=0)=false:=decide_eq_false (by omega)
        have lL:Nat.ble (X0 (rec full j z) x0 y0).length (X0 (rec full j z) x0 y0).length=true:=Nat.ble_eq_true_of_le (Nat.le_refl _)
        have r3:roomFor (out.length+(X0 (rec full j z) x0 y0).length) 56=true:=Xfa (by omega)
        have bL:Nat.beq (out.length+(X0 (rec full j z) x0 y0).length) (out.length+(X0 (rec full j z) x0 y0).length)=true:=Nat.beq_refl _
        simp only[cz,cz2,hp,hL,hne,hne2,lL,lI,lO,hm,bI,bO,bI1,bL,r1,r3,ne1,hP,List.drop_zero,List.take_length,List.length_append,List.length_cons,List.length_nil,Nat.zero_add,decide_true,Bool.true_and,Bool.and_true,Bool.not_false,cond_true,cond_false];exact hw
  . rw[cF h1]
    have eI:SI j n full z x0 y0 inn=inn:=by
      unfold SI;rw[Xas p1 h1 p3]; exact List.append_nil _
    have eO:SO X0 j n full z x0 y0 out=out:=by
      unfold SO;rw[Xas p1 h1 p3]; exact List.append_nil _
    rw[eI,eO] at hw;exact hw
theorem Xsb {n:Nat} (hn:210<=n):XQ C.G 1 (XF X4 C.O C.tab n) n 210 44 0 b17 ld17:=by
  refine ZJ C Y1 (lh:=fun _=>none) hn ?_ (fun p _ ld h=>by cases h) ?_
  . exact XP _ none (Zw (f:=17) rfl) (0,b17) (by rw[show X8 none c17.body=[(0,b17)] from rfl]; exact List.mem_cons_self)
  intro vs ao m t hs rd k1 y w hw;unfold ld17 at hs
  simp only at hs
  split at hs
  case h_2=>cases hs
  cases hs;have hp:=(YG hw).1;simp only[Bool.and_eq_true] at hp;obtain⟨h1,h2,_⟩:=hp;have h1:=Nat.eq_of_beq_eq_true h1;have h2:=Nat.eq_of_beq_eq_true h2;subst h1 h2;exact Xrp _ _ _ _ _ _ _ _ _ _ _ _ _ _ _ _ _ hw
def XmO (full:List Msg)(j n:Nat)(x y:Txt):RD:=.need (okG full j n) (.v (.tup [.ns 1 (inL x y (seg full j n)).length 4,.ns 2 (Xku X0 x y (seg full j n)).length 4]) [.rn .msg (inL x y (seg full j n)) 31,.rn .msg (Xku X0 x y (seg full j n)) 31])
theorem Xt6 (j n c:Nat)(ex:Bool)(x0 y0:Txt)(full:List Msg)(sp:Bool)(el:R.EL):runD C Y1 (lhX ld17) 210 c17 [.rs 0 j n c 4 ex,.str x0,.str y0] [.r .msg full sp el] =
    cond (decide (n-0<210)) (cond (P17 j n full (↑n:Int) 0 [] []) (some (R.DV.tup [DV.ns 1 (List.length (SI j n full 0 x0 y0 [])) 4,DV.ns 2 (List.length (SO X0 j n full 0 x0 y0 [])) 4],(mkD [DO.r RK.msg full sp el,DO.rn RK.msg (SI j n full 0 x0 y0 []) 31,DO.rn RK.msg (SO X0 j n full 0 x0 y0 []) 31] 1))) none) none:=by kernel_rfl
theorem Xvl (j n c:Nat)(ex:Bool)(x0 y0:Txt)(full:List Msg)(sp:Bool)(el:R.EL):Xw C.G C.O C.tab 17 211 [.r .msg full sp el] [.rs 0 j n c 4 ex,.str x0,.str y0] (XmO full j n x0 y0):=by
  refine Yy C Y1 (lhX ld17) rfl rfl (fun n hn=>WF (Q:=fun i b ld=>XQ C.G 1 (XF X4 C.O C.tab n) n 210 44 i b ld) rfl (Xsb hn)) fun z hz=>?_
  obtain⟨hp,hz⟩:=R.XB hz;refine (Xt6 j n c ex x0 y0 full sp el).trans ?_
  obtain⟨p1,p2⟩:=Xbf.1 hp
  have e4:P17 j n full n 0 [] []=true:=by
    simp only[P17,decide_eq_true_eq]
    refine⟨trivial,p1,p2,?_,?_,?_,?_⟩<;>first | omega | simp
  rw[e4,cT (show n-0<210 by omega)]
  exact Eq.trans rfl hz
theorem Xsz (x0 y0:Txt):Xw C.G C.O C.tab 17 211 [] [.nils,.str x0,.str y0] (.v (.tup [.nils,.nils]) []):=by
  refine Yy C Y1 (fun _=>none) rfl rfl (fun n hn p _ ld e=>by cases e) fun z hz=>?_
  refine Eq.trans ?_ hz
  kernel_rfl
end
end Go.Vm.YtkjjpmbpjfmbcaaGreatDoor.B

namespace Go.Vm.YtkjjpmbpjfmbcaaGreatDoor
open Go.Proofs Go.Vm.R
noncomputable section
abbrev Ent:=List UInt8×List UInt8
def okS (full:List Ent)(j n:Nat)(z:Int):Bool:=decide (0<=z/\z<=n/\j+n<=full.length/\n<9223372036854775808)
theorem okS_iff {full:List Ent}{j n:Nat}{z:Int}:okS full j n z=true<->(0<=z/\z<=n/\j+n<=full.length/\n<9223372036854775808):=by simp[okS]
def rec (full:List Ent)(j:Nat)(z:Int):Ent:=full.getD (j+z.toNat) ([],[])
def YC (full:List Ent)(j n:Nat):Nat->Int->Bool
  |0,_=>true
  |m+1,z=>cond (decide (z<n)) (cond (decide (z<70)) (cond (decide (300<((rec full j z).1.length:Int))) false (cond (decide (300<((rec full j z).2.length:Int))) false (YC full j n m (z+1)))) true) true
theorem Xea (full:List Ent)(j n m:Nat)(z:Int):YC full j n (m+1) z=cond (decide (z<n)) (cond (decide (z<70)) (cond (decide (300<((rec full j z).1.length:Int))) false (cond (decide (300<((rec full j z).2.length:Int))) false (YC full j n m (z+1)))) true) true:=rfl
def b31:CC:=lp (bl (at3 (fl (at3 c23.body))))
def lt31 (j n c:Nat)(ex:Bool)(z:Int)(full:List Ent)(sp:Bool)(el:R.EL):LT:=.need (okS full j n z&&decide (z<=70)) (.br (YC full j n (71-z.toNat) z) (.exit 0 [.rs 0 j n c 2 ex] [.r .ent full sp el]) (.ret [.bool false] [.r .ent full sp el]))
def ld31:LoopD:=⟨[(0,none),(3,none)],[(0,none)],[(2,none)],fun vs ao=>match vs,ao with
  |[.rs 0 j n c 2 ex,.int .i64 z],[.r .ent full sp el]=>some (71-z.toNat,lt31 j n c ex z full sp el)
  |_,_=>none⟩
theorem XqS (j n c:Nat)(ex:Bool)(z:Int)(full:List Ent)(sp:Bool)(el:R.EL)(m:Nat)(rd k1:R.EK)(y:List (Nat×R.EK)) :
    (YR C Y0 (fun _=>none) 200 33 1 0 b31 ld31 m [.rs 0 j n c 2 ex,.int .i64 z] [.r .ent full sp el] rd k1 y).ev =
    cond (decide (z<(↑n:Int))) (cond (decide (z<70)) (cond (decide (0<=z)&&decide (Int.toNat z<n)) (cond (Nat.blt (j+Int.toNat z) full.length) (cond (decide (300<(↑(List.length (Prod.fst (List.getD full (j+Int.toNat z) (RK.zero RK.ent)))):Int))) ((rd (envZ [2] [R.DV.bool false]) (mkD [DO.r RK.ent full sp el] 1)).ev) (cond (decide (0<=z)&&decide (Int.toNat z<n)) (cond (Nat.blt (j+Int.toNat z) full.length) (cond (decide (300<(↑(List.length (Prod.snd (List.getD full (j+Int.toNat z) (RK.zero RK.ent)))):Int))) ((rd (envZ [2] [R.DV.bool false]) (mkD [DO.r RK.ent full sp el] 1)).ev) (cond (decide (71-Int.toNat (IntKind.wrap .i64 (z+1))<m)) (cond (okS full j n (IntKind.wrap .i64 (z+1))&&decide (IntKind.wrap .i64 (z+1)<=70)) (cond (YC full j n (71-Int.toNat (IntKind.wrap .i64 (z+1))) (IntKind.wrap .i64 (z+1))) ((k1 (envZ [0] [R.DV.rs 0 j n c 2 ex]) (mkD [DO.r RK.ent full sp el] 1)).ev) ((rd (envZ [2] [R.DV.bool false]) (mkD [DO.r RK.ent full sp el] 1)).ev)) none) none)) none) none)) none) none) ((k1 (envZ [0] [R.DV.rs 0 j n c 2 ex]) (mkD [DO.r RK.ent full sp el] 1)).ev)) ((k1 (envZ [0] [R.DV.rs 0 j n c 2 ex]) (mkD [DO.r RK.ent full sp el] 1)).ev):=by kernel_rfl
theorem Xrm (j n c : Nat) (ex : Bool) (z : Int) (full : List Ent) (sp : Bool) (el : R.EL) (rd k1 : R.EK) (y : List (Nat × R.EK)) (w : R.DV × R.DH) (hw : ((lt31 j n c ex z full sp el).tree 1 ld31 rd ((0, k1) :: y)).ev = some w) :
    (YR C Y0 (fun _=>none) 200 33 1 0 b31 ld31 (71-z.toNat) [.rs 0 j n c 2 ex,.int .i64 z] [.r .ent full sp el] rd k1 y).ev=some w:=by
  replace hw:=YG hw;obtain⟨hp,hw⟩:=hw;simp only[Bool.and_eq_true,decide_eq_true_eq] at hp;obtain⟨hp,hz⟩:=hp;obtain⟨p0,p1,p2,p3⟩:=okS_iff.1 hp;rw[XqS];rw[Xeh] at hw;replace hw:cond (YC full j n (71-z.toNat) z) ((k1 (envZ [0] [R.DV.rs 0 j n c 2 ex]) (mkD [DO.r RK.ent full sp el] 1)).ev) ((rd (envZ [2] [R.DV.bool false]) (mkD [DO.r RK.ent full sp el] 1)).ev)=some w:=hw;rw[show 71-z.toNat=(70-z.toNat)+1 by omega,Xea] at hw
  by_cases h1:z<n
  . rw[cT h1] at hw ⊢
    by_cases h2:z<70
    . rw[cT h2] at hw ⊢
      have b1:z.toNat<n:=by omega
      rw[cA p0 b1,cB (show j+z.toNat<full.length by omega),cA p0 b1,cB (show j+z.toNat<full.length by omega),Xc0 p0 h1 p3]
      by_cases h3:300<((rec full j z).1.length:Int)
      . rw[cT h3] at hw
        exact (cT h3).trans hw
      . rw[cF h3] at hw
        refine (cF h3).trans ?_
        by_cases h4:300<((rec full j z).2.length:Int)
        . rw[cT h4] at hw
          exact (cT h4).trans hw
        . rw[cF h4] at hw
          refine (cF h4).trans ?_
          rw[cT (by omega),show 71-(z+1).toNat=70-z.toNat by omega,(show okS full j n (z+1)=true from okS_iff.2 (by omega)),(show (decide (z+1<=70))=true by simp; omega)]
          exact hw
    . rw[cF h2] at hw ⊢
      exact hw
  . rw[cF h1] at hw ⊢
    exact hw
theorem XrY {n:Nat} (hn:200<=n):XQ C.G 1 (XF X4 C.O C.tab n) n 200 33 0 b31 ld31:=by
  refine ZJ C Y0 (lh:=fun _=>none) hn ?_ (fun p _ ld h=>by cases h) ?_
  . exact XjU (XjX (Xc7 (XjW (Xc7 (Zw (f:=23) rfl)))))
  intro vs ao m t hs rd k1 y w hw;unfold ld31 at hs
  simp only at hs
  split at hs
  case h_2=>cases hs
  cases hs;exact Xrm _ _ _ _ _ _ _ _ _ _ _ _ hw
def seg (full:List Ent)(j n:Nat):List Ent:=(full.drop j).take n
theorem seg_len {full:List Ent}{j n:Nat} (h:j+n<=full.length):(seg full j n).length=n:=by
  simp[seg]; omega
theorem XaF {full:List Ent}{j n:Nat}{z:Int} (h:j+n<=full.length)(h0:0<=z)(h1:z<n):(seg full j n).drop z.toNat=rec full j z::(seg full j n).drop (z+1).toNat:=by
  have hl:=seg_len h;rw[show (z+1).toNat=z.toNat+1 by omega,List.drop_eq_getElem_cons (by omega)]
  congr 1
  have:(seg full j n)[z.toNat]? = full[j+z.toNat]? := by
    unfold seg;rw[List.getElem?_take_of_lt (by omega),List.getElem?_drop]
  unfold rec;rw[List.getD_eq_getElem?_getD,← this,List.getElem?_eq_getElem (by omega)]; rfl
theorem Xas {full:List Ent}{j n:Nat}{z:Int} (h:j+n<=full.length)(h1:¬ z<n)(h0:0<=z):(seg full j n).drop z.toNat=[]:=by
  have hl:=seg_len h;exact List.drop_eq_nil_of_le (by omega)
def XeQ (e:Ent):Bool:=!decide (300<(e.1.length:Int))&&!decide (300<(e.2.length:Int))
def fewL (l:List Ent):Bool:=l.all XeQ&&decide ((l.length:Int)<=60)
theorem Xac {full:List Ent}{j n:Nat} (hj:j+n<=full.length)(hn:n<=60):∀ (m:Nat) (z:Int),0<=z->z<=n->n<m+z->YC full j n m z=((seg full j n).drop z.toNat).all XeQ
  |0,z,h0,h1,h2=>by omega
  |m+1,z,h0,h1,h2=>by
    rw[Xea]
    by_cases h3:z<n
    . rw[cT h3,cT (show z<70 by omega),XaF hj h0 h3,List.all_cons,← Xac hj hn m (z+1) (by omega) (by omega) (by omega)]
      unfold XeQ
      cases decide (300<((rec full j z).1.length:Int))<;>cases decide (300<((rec full j z).2.length:Int))<;>rfl
    . rw[cF h3,Xas hj h3 h0]; rfl
theorem XjA {full:List Ent}{j n:Nat} (hj:j+n<=full.length):cond (YC full j n 71 0) (decide ((n:Int)<=60)) false=fewL (seg full j n):=by
  unfold fewL;rw[seg_len hj]
  by_cases hn:n<=60
  . rw[Xac hj hn 71 0 (by omega) (by omega) (by omega)]
    show cond ((seg full j n).all XeQ) _ _=_
    cases (seg full j n).all XeQ<;>rfl
  . rw[show decide ((n:Int)<=60)=false by simp; omega,Bool.and_false]
    cases YC full j n 71 0<;>rfl
def Xq5 (full:List Ent)(j n:Nat):RD:=.need (okS full j n 0) (.v (.bool (fewL (seg full j n))) [])
theorem Xt3 (j n c:Nat)(ex:Bool)(full:List Ent)(sp:Bool)(el:R.EL):runD C Y0 (lhX ld31) 200 c23 [.rs 0 j n c 2 ex] [.r .ent full sp el] =
    cond (okS full j n 0&&true) (cond (YC full j n 71 0) (some (R.DV.bool (decide ((↑n:Int)<=60)),(mkD [DO.r RK.ent full sp el] 1))) (some (R.DV.bool false,(mkD [DO.r RK.ent full sp el] 1)))) none:=by kernel_rfl
theorem Xvj (j n c:Nat)(ex:Bool)(full:List Ent)(sp:Bool)(el:R.EL):Xw C.G C.O C.tab 23 201 [.r .ent full sp el] [.rs 0 j n c 2 ex] (Xq5 full j n):=by
  refine Yy C Y0 (lhX ld31) rfl rfl (fun n hn=>WF (Q:=fun i b ld=>XQ C.G 1 (XF X4 C.O C.tab n) n 200 33 i b ld) rfl (XrY hn)) fun z hz=>?_
  obtain⟨hp,hz⟩:=R.XB hz;refine (Xt3 j n c ex full sp el).trans ?_
  rw[hp]
  have:=XjA (okS_iff.1 hp).2.2.1
  cases hs:YC full j n 71 0<;>rw[hs] at this<;>(refine Eq.trans ?_ hz)<;>show some _=some _<;>rw[← this]<;>rfl
theorem Xsx:Xw C.G C.O C.tab 23 201 [] [.nils] (.v (.bool true) []):=by
  refine Yy C Y0 (fun _=>none) rfl rfl (fun n hn p _ ld e=>by cases e) fun z hz=>?_
  refine Eq.trans ?_ hz
  kernel_rfl
def okN (full:List Ent)(j n:Nat):Bool:=decide (j+n<=full.length/\n<199)
theorem okN_iff {full:List Ent}{j n:Nat}:okN full j n=true<->(j+n<=full.length/\n<199):=by simp[okN]
theorem XeZ {n:Nat} (h:n<199):roomFor n 32=true:=by
  unfold roomFor;rw[Nat.ble_eq_true_of_le (by omega),Nat.ble_eq_true_of_le (by omega)]; rfl
def Xq4 (full:List Ent)(j n:Nat):RD:=.need (okN full j n) (.br (Nat.beq n 0) (.v (.rs 1 0 0 0 2 true) [.r .ent [] false 41]) (.v (.rs 1 0 n n 2 false) [.r .ent (seg full j n) true 41]))
theorem Xt1 (j n c:Nat)(ex:Bool)(full:List Ent)(sp:Bool)(el:R.EL):runD C Y0 (fun _=>none) 200 c69 [.rs 0 j n c 2 ex] [.r .ent full sp el] =
    cond (true&&Nat.ble (j+n) full.length) (cond (decide (0+List.length (List.take n (List.drop j full))<=0)) (cond (decide (List.length (List.take n (List.drop j full))=0)) (some (DV.rs 1 0 0 0 2 true,(mkD [DO.r RK.ent full sp el,DO.r RK.ent [] false 41] 1))) (cond (decide (0+List.length (List.take n (List.drop j full))<=0)) (some (DV.rs 1 0 (0+List.length (List.take n (List.drop j full))) 0 2 true,(mkD [DO.r RK.ent full sp el,DO.r RK.ent (List.take 0 []++List.take n (List.drop j full)++List.drop (0+List.length (List.take n (List.drop j full))) []) false 41] 1))) none)) (cond (roomFor (0+List.length (List.take n (List.drop j full))) 32&&true) (some (DV.rs 1 0 (0+List.length (List.take n (List.drop j full))) (0+List.length (List.take n (List.drop j full))) 2 false,(mkD [DO.r RK.ent full sp el,DO.r RK.ent (List.take 0 (List.drop 0 [])++List.take n (List.drop j full)) true 41] 1))) none)) none:=by kernel_rfl
theorem Xvb (j n c:Nat)(ex:Bool)(full:List Ent)(sp:Bool)(el:R.EL):Xw C.G C.O C.tab 69 201 [.r .ent full sp el] [.rs 0 j n c 2 ex] (Xq4 full j n):=by
  refine Yy C Y0 (fun _=>none) rfl rfl (fun n hn p _ ld e=>by cases e) fun z hz=>?_
  obtain⟨hp,hz⟩:=R.XB hz;refine (Xt1 j n c ex full sp el).trans ?_
  obtain⟨p1,p2⟩:=okN_iff.1 hp;have hl:=seg_len p1
  have hs:List.take n (List.drop j full)=seg full j n:=rfl
  have hb:Nat.ble (j+n) full.length=true:=Nat.ble_eq_true_of_le p1
  rw[hs,hl,hb,Nat.zero_add];refine Eq.trans ?_ hz
  show _=(R.Tree.br (Nat.beq n 0) (.ok (.rs 1 0 0 0 2 true) (mkD [DO.r RK.ent full sp el,DO.r RK.ent [] false 41] 1)) (.ok (.rs 1 0 n n 2 false) (mkD [DO.r RK.ent full sp el,DO.r RK.ent (seg full j n) true 41] 1))).ev
  rw[Wz]
  cases n with
  |zero=>rfl
  |succ m =>
    rw[show roomFor (m+1) 32=true from XeZ p2,cF (show ¬ m+1<=0 by omega)]; rfl
theorem Xsm:Xw C.G C.O C.tab 69 201 [] [.nils] (.v .nils []):=by
  refine Yy C Y0 (fun _=>none) rfl rfl (fun n hn p _ ld e=>by cases e) fun z hz=>?_
  refine Eq.trans ?_ hz
  kernel_rfl
def g69:List R.DV->List R.DO->Option RD:=fun l ao=>match l,ao with
  |[.rs 0 j n c 2 ex],[.r .ent full sp el]=>some (Xq4 full j n)
  |[.nils],[]=>some (.v .nils [])
  |_,_=>none
theorem Xn2 (l:List R.DV)(ao:List R.DO)(out:RD)(h:g69 l ao=some out):Xw C.G C.O C.tab 69 201 ao l out:=by
  unfold g69 at h;split at h
  . cases h; exact Xvb _ _ _ _ _ _ _
  . cases h; exact Xsm
  . cases h
def Y1:C.RL:=(((Y0))).add 69 201 g69 Xn2
def rises:Option Ent->Ent->Bool
  |none,_=>true
  |some p,e=>Op.bytesLess p.1 e.1
def chkL:Option Ent->List Ent->Bool
  |_,[]=>true
  |p,e::r=>cond (decide (e.1=[])) false (cond (decide (108<(e.1.length:Int))) false (cond (decide (64<(e.2.length:Int))) false (cond (rises p e) (chkL (some e) r) false)))
def before (full:List Ent)(j:Nat)(z:Int):Option Ent:=if 0<z then some (rec full j (z-1)) else none
def b27:CC:=lp (bl (at3 (fl (at3 c27.body))))
def P27 (j n:Nat)(full:List Ent)(n' z:Int):Bool:=decide (n'=n/\j+n<=full.length/\n<199/\0<=z/\z<=n)
def S27 (j n:Nat)(full:List Ent)(z:Int):Bool:=chkL (before full j z) ((seg full j n).drop z.toNat)
def lt27 (j n c:Nat)(ex:Bool)(j1 n1 c1:Nat)(ex1:Bool)(n' z:Int)(full:List Ent)(sp:Bool)(el:R.EL):LT:=.need (Nat.beq j1 j&&(Nat.beq n1 n&&P27 j n full n' z)) (.br (S27 j n full z) (.exit 0 [] [.r .ent full sp el]) (.ret [.int .i64 4] [.r .ent full sp el]))
def ld27:LoopD:=⟨[(0,none),(5,none),(6,none),(7,none)],[],[(2,none)],fun vs ao=>match vs,ao with
  |[.rs 0 j n c 2 ex,.rs 0 j1 n1 c1 2 ex1,.int .i64 n',.int .i64 z],[.r .ent full sp el]=>some (n-z.toNat,lt27 j n c ex j1 n1 c1 ex1 n' z full sp el)
  |_,_=>none⟩
theorem XqT (j n c:Nat)(ex:Bool)(c1:Nat)(ex1:Bool)(n' z:Int)(full:List Ent)(sp:Bool)(el:R.EL)(m:Nat)(rd k1:R.EK)(y:List (Nat×R.EK)) :
    (YR C Y0 (fun _=>none) 200 43 1 0 b27 ld27 m [.rs 0 j n c 2 ex,.rs 0 j n c1 2 ex1,.int .i64 n',.int .i64 z] [.r .ent full sp el] rd k1 y).ev =
    cond (decide (z<n')) (cond (decide (0<=z)&&decide (Int.toNat z<n)) (cond (Nat.blt (j+Int.toNat z) full.length) (cond (decide (Prod.fst (List.getD full (j+Int.toNat z) (RK.zero RK.ent))=[])) ((rd (envZ [2] [R.DV.int .i64 4]) (mkD [DO.r RK.ent full sp el] 1)).ev) (cond (decide (108<(↑(List.length (Prod.fst (List.getD full (j+Int.toNat z) (RK.zero RK.ent)))):Int))) ((rd (envZ [2] [R.DV.int .i64 4]) (mkD [DO.r RK.ent full sp el] 1)).ev) (cond (decide (64<(↑(List.length (Prod.snd (List.getD full (j+Int.toNat z) (RK.zero RK.ent)))):Int))) ((rd (envZ [2] [R.DV.int .i64 4]) (mkD [DO.r RK.ent full sp el] 1)).ev) (cond (decide (0<z)) (cond (decide (0<=IntKind.wrap .i64 (z-1))&&decide (Int.toNat (IntKind.wrap .i64 (z-1))<n)) (cond (Nat.blt (j+Int.toNat (IntKind.wrap .i64 (z-1))) full.length) (cond (!Op.bytesLess (Prod.fst (List.getD full (j+Int.toNat (IntKind.wrap .i64 (z-1))) (RK.zero RK.ent))) (Prod.fst (List.getD full (j+Int.toNat z) (RK.zero RK.ent)))) ((rd (envZ [2] [R.DV.int .i64 4]) (mkD [DO.r RK.ent full sp el] 1)).ev) (cond (decide (n-Int.toNat (IntKind.wrap .i64 (z+1))<m)) (cond (Nat.beq j j&&(Nat.beq n n&&P27 j n full n' (IntKind.wrap .i64 (z+1)))) (cond (S27 j n full (IntKind.wrap .i64 (z+1))) ((k1 (envZ [] []) (mkD [DO.r RK.ent full sp el] 1)).ev) ((rd (envZ [2] [R.DV.int .i64 4]) (mkD [DO.r RK.ent full sp el] 1)).ev)) none) none)) none) none) (cond (decide (n-Int.toNat (IntKind.wrap .i64 (z+1))<m)) (cond (Nat.beq j j&&(Nat.beq n n&&P27 j n full n' (IntKind.wrap .i64 (z+1)))) (cond (S27 j n full (IntKind.wrap .i64 (z+1))) ((k1 (envZ [] []) (mkD [DO.r RK.ent full sp el] 1)).ev) ((rd (envZ [2] [R.DV.int .i64 4]) (mkD [DO.r RK.ent full sp el] 1)).ev)) none) none))))) none) none) ((k1 (envZ [] []) (mkD [DO.r RK.ent full sp el] 1)).ev):=by kernel_rfl
theorem Xro (j n c:Nat)(ex:Bool)(c1:Nat)(ex1:Bool)(n' z:Int)(full:List Ent)(sp:Bool)(el:R.EL)(rd k1:R.EK)(y:List (Nat×R.EK))(w:R.DV×R.DH)(hw:((lt27 j n c ex j n c1 ex1 n' z full sp el).tree 1 ld27 rd ((0,k1)::y)).ev=some w) :
    (YR C Y0 (fun _=>none) 200 43 1 0 b27 ld27 (n-z.toNat) [.rs 0 j n c 2 ex,.rs 0 j n c1 2 ex1,.int .i64 n',.int .i64 z] [.r .ent full sp el] rd k1 y).ev=some w:=by
  replace hw:=YG hw;obtain⟨hp,hw⟩:=hw
  have hjj:Nat.beq j j=true:=Nat.beq_refl j
  have hnn:Nat.beq n n=true:=Nat.beq_refl n
  rw[hjj,hnn] at hp;simp only[Bool.true_and,P27,decide_eq_true_eq] at hp;obtain⟨rfl,p1,p2,p3,p4⟩:=hp;rw[Xeh] at hw;replace hw:cond (S27 j n full z) (k1 (envZ [] []) (mkD [DO.r RK.ent full sp el] 1)).ev (rd (envZ [2] [R.DV.int .i64 4]) (mkD [DO.r RK.ent full sp el] 1)).ev=some w:=hw;rw[XqT,hjj,hnn];unfold S27 at hw
  by_cases h1:z<n
  . have b1:z.toNat<n:=by omega
    have e4:P27 j n full n (z+1)=true:=by
      simp only[P27,decide_eq_true_eq]
      refine⟨trivial,p1,p2,?_,?_⟩<;>omega
    have e5:S27 j n full (z+1)=chkL (some (rec full j z)) ((seg full j n).drop (z+1).toNat):=by
      unfold S27 before;rw[if_pos (by omega),show z+1-1=z by omega]
    rw[cT h1,cA p3 b1,cB (show j+z.toNat<full.length by omega),Xc0 p3 h1 (by omega),e4,e5,cT (show n-(z+1).toNat<n-z.toNat by omega)]
    rw[XaF p1 p3 h1] at hw;rw[show chkL (before full j z) (rec full j z::(seg full j n).drop (z+1).toNat)=cond (decide ((rec full j z).1=[])) false (cond (decide (108<((rec full j z).1.length:Int))) false (cond (decide (64<((rec full j z).2.length:Int))) false (cond (rises (before full j z) (rec full j z)) (chkL (some (rec full j z)) ((seg full j n).drop (z+1).toNat)) false))) from rfl] at hw
    by_cases a1:(rec full j z).1=[]
    . rw[cT a1] at hw; exact (cT a1).trans hw
    rw[cF a1] at hw; refine (cF a1).trans ?_
    by_cases a2:108<((rec full j z).1.length:Int)
    . rw[cT a2] at hw; exact (cT a2).trans hw
    rw[cF a2] at hw; refine (cF a2).trans ?_
    by_cases a3:64<((rec full j z).2.length:Int)
    . rw[cT a3] at hw; exact (cT a3).trans hw
    rw[cF a3] at hw; refine (cF a3).trans ?_
    by_cases h2:0<z
    . have ew:IntKind.wrap .i64 (z-1)=z-1:=wrap_i64 (by omega) (by omega)
      rw[cT h2,ew,cA (show 0<=z-1 by omega) (show (z-1).toNat<n by omega),cB (show j+(z-1).toNat<full.length by omega)]
      have eb:before full j z=some (rec full j (z-1)):=if_pos h2
      rw[eb] at hw
      show cond (!Op.bytesLess (rec full j (z-1)).1 (rec full j z).1) _ _=_
      have ea:rises (some (rec full j (z-1))) (rec full j z)=Op.bytesLess (rec full j (z-1)).1 (rec full j z).1:=rfl
      rw[ea] at hw
      revert hw
      cases Op.bytesLess (rec full j (z-1)).1 (rec full j z).1<;>exact id
    . rw[cF h2]
      have eb:before full j z=none:=if_neg h2
      rw[eb] at hw;exact hw
  . rw[cF h1]
    rw[Xas p1 h1 p3] at hw;exact hw
theorem Xsa {n:Nat} (hn:200<=n):XQ C.G 1 (XF X4 C.O C.tab n) n 200 43 0 b27 ld27:=by
  refine ZJ C Y0 (lh:=fun _=>none) hn ?_ (fun p _ ld h=>by cases h) ?_
  . exact XjU (XjX (Xc7 (XjW (Xc7 (Zw (f:=27) rfl)))))
  intro vs ao m t hs rd k1 y w hw;unfold ld27 at hs
  simp only at hs
  split at hs
  case h_2=>cases hs
  cases hs;rename_i j n c ex j1 n1 c1 ex1 n' z full sp el;have hp:=(YG hw).1;simp only[Bool.and_eq_true] at hp;obtain⟨h1,h2,_⟩:=hp;have h1:=Nat.eq_of_beq_eq_true h1;have h2:=Nat.eq_of_beq_eq_true h2;subst h1 h2;exact Xro _ _ _ _ _ _ _ _ _ _ _ _ _ _ _ hw
def chkB (l:List Ent):Bool:=chkL none l
def XmP (full:List Ent)(j n:Nat):RD:=.need (okN full j n) (.br (chkB (seg full j n)) (.v (.int .i64 0) []) (.v (.int .i64 4) []))
theorem Xt5 (j n c:Nat)(ex:Bool)(full:List Ent)(sp:Bool)(el:R.EL):runD C Y0 (lhX ld27) 200 c27 [.rs 0 j n c 2 ex] [.r .ent full sp el] =
    cond (decide (n-0<200)) (cond (Nat.beq j j&&(Nat.beq n n&&P27 j n full (↑n:Int) 0)) (cond (S27 j n full 0) (some (R.DV.int .i64 0,(mkD [DO.r RK.ent full sp el] 1))) (some (R.DV.int .i64 4,(mkD [DO.r RK.ent full sp el] 1)))) none) none:=by kernel_rfl
theorem XqB (j n c:Nat)(ex:Bool)(full:List Ent)(sp:Bool)(el:R.EL):Xw C.G C.O C.tab 27 201 [.r .ent full sp el] [.rs 0 j n c 2 ex] (XmP full j n):=by
  refine Yy C Y0 (lhX ld27) rfl rfl (fun n hn=>WF (Q:=fun i b ld=>XQ C.G 1 (XF X4 C.O C.tab n) n 200 43 i b ld) rfl (Xsa hn)) fun z hz=>?_
  obtain⟨hp,hz⟩:=R.XB hz;refine (Xt5 j n c ex full sp el).trans ?_
  obtain⟨p1,p2⟩:=okN_iff.1 hp
  have hjj:Nat.beq j j=true:=Nat.beq_refl j
  have hnn:Nat.beq n n=true:=Nat.beq_refl n
  have e4:P27 j n full n 0=true:=by
    simp only[P27,decide_eq_true_eq]
    refine⟨trivial,p1,p2,?_,?_⟩<;>omega
  rw[hjj,hnn,e4,cT (show n-0<200 by omega)]
  have e5:S27 j n full 0=chkB (seg full j n):=rfl
  rw[e5];refine Eq.trans ?_ hz
  show _=(R.Tree.br (chkB (seg full j n)) (.ok _ _) (.ok _ _)).ev
  rw[Wz]
  cases chkB (seg full j n)<;>rfl
theorem Xss:Xw C.G C.O C.tab 27 201 [] [.nils] (.v (.int .i64 0) []):=by
  refine Yy C Y0 (fun _=>none) rfl rfl (fun n hn p _ ld e=>by cases e) fun z hz=>?_
  refine Eq.trans ?_ hz
  kernel_rfl
def noK (k:List UInt8):List Ent->Bool
  |[]=>true
  |e::r=>cond (decide (e.1=k)) false (noK k r)
def idxK (k:List UInt8):List Ent->Int->Int
  |[],z=>z
  |e::r,z=>cond (decide (e.1=k)) z (idxK k r (z+1))
def b70:CC:=lp (bl (at3 (fl (at3 c70.body))))
def P70 (j n:Nat)(full:List Ent)(n' z:Int):Bool:=decide (n'=n/\j+n<=full.length/\n<199/\0<=z/\z<=n)
def S70 (j n:Nat)(full:List Ent)(k:List UInt8)(z:Int):Bool:=noK k ((seg full j n).drop z.toNat)
def I70 (j n:Nat)(full:List Ent)(k:List UInt8)(z:Int):Int:=idxK k ((seg full j n).drop z.toNat) z
def lt70 (j n c:Nat)(ex:Bool)(j1 n1 c1:Nat)(ex1:Bool)(n' z:Int)(k:List UInt8)(full:List Ent)(sp:Bool)(el:R.EL):LT:=.need (Nat.beq j1 j&&(Nat.beq n1 n&&P70 j n full n' z)) (.br (S70 j n full k z) (.exit 0 [] [.r .ent full sp el,.c [.str k] false 9]) (.ret [.int .i64 (I70 j n full k z)] [.r .ent full sp el,.c [.str k] false 9]))
def ld70:LoopD:=⟨[(0,none),(1,none),(6,none),(7,none),(8,none)],[],[(4,none)],fun vs ao=>match vs,ao with
  |[.rs 0 j n c 2 ex,.fn 71 [.ptr 1 0],.rs 0 j1 n1 c1 2 ex1,.int .i64 n',.int .i64 z],[.r .ent full sp el,.c [.str k] false 9]=>some (n-z.toNat,lt70 j n c ex j1 n1 c1 ex1 n' z k full sp el)
  |_,_=>none⟩
theorem XqR (j n c:Nat)(ex:Bool)(c1:Nat)(ex1:Bool)(n' z:Int)(k:List UInt8)(full:List Ent)(sp:Bool)(el:R.EL)(m:Nat)(rd k1:R.EK)(y:List (Nat×R.EK)) :
    (YR C Y0 (fun _=>none) 200 19 2 0 b70 ld70 m [.rs 0 j n c 2 ex,.fn 71 [.ptr 1 0],.rs 0 j n c1 2 ex1,.int .i64 n',.int .i64 z] [.r .ent full sp el,.c [.str k] false 9] rd k1 y).ev =
    cond (decide (z<n')) (cond (decide (0<=z)&&decide (Int.toNat z<n)) (cond (Nat.blt (j+Int.toNat z) full.length) (cond (decide (Prod.fst (List.getD full (j+Int.toNat z) (RK.zero RK.ent))=k)) ((rd (envZ [4] [R.DV.int .i64 z]) (mkD [DO.r RK.ent full sp el,R.DO.c [R.DV.str k] false 9] 2)).ev) (cond (decide (n-Int.toNat (IntKind.wrap .i64 (z+1))<m)) (cond (Nat.beq j j&&(Nat.beq n n&&P70 j n full n' (IntKind.wrap .i64 (z+1)))) (cond (S70 j n full k (IntKind.wrap .i64 (z+1))) ((k1 (envZ [] []) (mkD [DO.r RK.ent full sp el,R.DO.c [R.DV.str k] false 9] 2)).ev) ((rd (envZ [4] [R.DV.int .i64 (I70 j n full k (IntKind.wrap .i64 (z+1)))]) (mkD [DO.r RK.ent full sp el,R.DO.c [R.DV.str k] false 9] 2)).ev)) none) none)) none) none) ((k1 (envZ [] []) (mkD [DO.r RK.ent full sp el,R.DO.c [R.DV.str k] false 9] 2)).ev):=by kernel_rfl
theorem Xrl (j n c:Nat)(ex:Bool)(c1:Nat)(ex1:Bool)(n' z:Int)(k:List UInt8)(full:List Ent)(sp:Bool)(el:R.EL)(rd k1:R.EK)(y:List (Nat×R.EK))(w:R.DV×R.DH)(hw:((lt70 j n c ex j n c1 ex1 n' z k full sp el).tree 2 ld70 rd ((0,k1)::y)).ev=some w) :
    (YR C Y0 (fun _=>none) 200 19 2 0 b70 ld70 (n-z.toNat) [.rs 0 j n c 2 ex,.fn 71 [.ptr 1 0],.rs 0 j n c1 2 ex1,.int .i64 n',.int .i64 z] [.r .ent full sp el,.c [.str k] false 9] rd k1 y).ev=some w:=by
  replace hw:=YG hw;obtain⟨hp,hw⟩:=hw
  have hjj:Nat.beq j j=true:=Nat.beq_refl j
  have hnn:Nat.beq n n=true:=Nat.beq_refl n
  rw[hjj,hnn] at hp;simp only[Bool.true_and,P70,decide_eq_true_eq] at hp;obtain⟨rfl,p1,p2,p3,p4⟩:=hp;rw[Xeh] at hw;replace hw:cond (S70 j n full k z) (k1 (envZ [] []) (mkD [DO.r RK.ent full sp el,R.DO.c [R.DV.str k] false 9] 2)).ev (rd (envZ [4] [R.DV.int .i64 (I70 j n full k z)]) (mkD [DO.r RK.ent full sp el,R.DO.c [R.DV.str k] false 9] 2)).ev=some w:=hw;rw[XqR,hjj,hnn];unfold S70 I70 at hw
  by_cases h1:z<n
  . have b1:z.toNat<n:=by omega
    have e4:P70 j n full n (z+1)=true:=by
      simp only[P70,decide_eq_true_eq]
      refine⟨trivial,p1,p2,?_,?_⟩<;>omega
    rw[cT h1,cA p3 b1,cB (show j+z.toNat<full.length by omega),Xc0 p3 h1 (by omega),e4,cT (show n-(z+1).toNat<n-z.toNat by omega)]
    rw[XaF p1 p3 h1] at hw;rw[show noK k (rec full j z::(seg full j n).drop (z+1).toNat)=cond (decide ((rec full j z).1=k)) false (noK k ((seg full j n).drop (z+1).toNat)) from rfl,
      show idxK k (rec full j z::(seg full j n).drop (z+1).toNat) z=cond (decide ((rec full j z).1=k)) z (idxK k ((seg full j n).drop (z+1).toNat) (z+1)) from rfl] at hw
    by_cases a1:(rec full j z).1=k
    . rw[cT a1,cT a1] at hw; exact (cT a1).trans hw
    . rw[cF a1,cF a1] at hw; exact (cF a1).trans hw
  . rw[cF h1]
    rw[Xas p1 h1 p3] at hw;exact hw
theorem XrX {n:Nat} (hn:200<=n):XQ C.G 2 (XF X4 C.O C.tab n) n 200 19 0 b70 ld70:=by
  refine ZJ C Y0 (lh:=fun _=>none) hn ?_ (fun p _ ld h=>by cases h) ?_
  . exact XjU (XjX (Xc7 (XjW (Xc7 (Zw (f:=70) rfl)))))
  intro vs ao m t hs rd k1 y w hw;unfold ld70 at hs
  simp only at hs
  split at hs
  case h_2=>cases hs
  cases hs;have hp:=(YG hw).1;simp only[Bool.and_eq_true] at hp;obtain⟨h1,h2,_⟩:=hp;have h1:=Nat.eq_of_beq_eq_true h1;have h2:=Nat.eq_of_beq_eq_true h2;subst h1 h2;exact Xrl _ _ _ _ _ _ _ _ _ _ _ _ _ _ _ _ hw
def Xq3 (full:List Ent)(j n:Nat)(k:List UInt8):RD:=.need (okN full j n) (.br (noK k (seg full j n)) (.v (.int .i64 (-1)) []) (.v (.int .i64 (idxK k (seg full j n) 0)) []))
theorem Xt0 (j n c:Nat)(ex:Bool)(k:List UInt8)(full:List Ent)(sp:Bool)(el:R.EL):runD C Y0 (lhX ld70) 200 c70 [.rs 0 j n c 2 ex,.fn 71 [.ptr 1 0]] [.r .ent full sp el,.c [.str k] false 9] =
    cond (decide (n-0<200)) (cond (Nat.beq j j&&(Nat.beq n n&&P70 j n full (↑n:Int) 0)) (cond (S70 j n full k 0) (some (R.DV.int .i64 (-1),(mkD [DO.r RK.ent full sp el,R.DO.c [R.DV.str k] false 9] 2))) (some (R.DV.int .i64 (I70 j n full k 0),(mkD [DO.r RK.ent full sp el,R.DO.c [R.DV.str k] false 9] 2)))) none) none:=by kernel_rfl
theorem Xva (j n c:Nat)(ex:Bool)(k:List UInt8)(full:List Ent)(sp:Bool)(el:R.EL):Xw C.G C.O C.tab 70 201 [.r .ent full sp el,.c [.str k] false 9] [.rs 0 j n c 2 ex,.fn 71 [.ptr 1 0]] (Xq3 full j n k):=by
  refine Yy C Y0 (lhX ld70) rfl rfl (fun n hn=>WF (Q:=fun i b ld=>XQ C.G 2 (XF X4 C.O C.tab n) n 200 19 i b ld) rfl (XrX hn)) fun z hz=>?_
  obtain⟨hp,hz⟩:=R.XB hz;refine (Xt0 j n c ex k full sp el).trans ?_
  obtain⟨p1,p2⟩:=okN_iff.1 hp
  have hjj:Nat.beq j j=true:=Nat.beq_refl j
  have hnn:Nat.beq n n=true:=Nat.beq_refl n
  have e4:P70 j n full n 0=true:=by
    simp only[P70,decide_eq_true_eq]
    refine⟨trivial,p1,p2,?_,?_⟩<;>omega
  rw[hjj,hnn,e4,cT (show n-0<200 by omega)]
  have e5:S70 j n full k 0=noK k (seg full j n):=rfl
  have e6:I70 j n full k 0=idxK k (seg full j n) 0:=rfl
  rw[e5,e6];refine Eq.trans ?_ hz
  show _=(R.Tree.br (noK k (seg full j n)) (.ok _ _) (.ok _ _)).ev
  rw[Wz]
  cases noK k (seg full j n)<;>rfl
def g70:List R.DV->List R.DO->Option RD:=fun l ao=>match l,ao with
  |[.rs 0 j n c 2 ex,.fn 71 [.ptr 1 0]],[.r .ent full sp el,.c [.str k] false 9]=>some (Xq3 full j n k)
  |_,_=>none
theorem XsT (l:List R.DV)(ao:List R.DO)(out:RD)(h:g70 l ao=some out):Xw C.G C.O C.tab 70 201 ao l out:=by
  unfold g70 at h;split at h
  . cases h; exact Xva _ _ _ _ _ _ _ _
  . cases h
def Y4:C.RL:=Y0.add 70 201 g70 XsT
def getK (k:List UInt8):List Ent->List UInt8×Bool
  |[]=>([],false)
  |e::r=>cond (decide (e.1=k)) (e.2,true) (getK k r)
theorem Xnv (k:List UInt8):∀ l:List Ent,noK k l=true->getK k l=([],false)
  |[],_=>rfl
  |e::r,h=>by
    have h:cond (decide (e.1=k)) false (noK k r)=true:=h
    show cond (decide (e.1=k)) (e.2,true) (getK k r)=_
    cases hd:decide (e.1=k) with
    |true=>rw[hd] at h; cases h
    |false=>rw[hd] at h; exact Xnv k r h
theorem XkG (k:List UInt8):∀ (l:List Ent) (z:Int),noK k l=false->z<=idxK k l z/\idxK k l z<z+l.length/\getK k l=((l.getD (idxK k l z-z).toNat ([],[])).2,true)
  |[],_,h=>by cases h
  |e::r,z,h=>by
    have h:cond (decide (e.1=k)) false (noK k r)=false:=h
    have e1:idxK k (e::r) z=cond (decide (e.1=k)) z (idxK k r (z+1)):=rfl
    have e2:getK k (e::r)=cond (decide (e.1=k)) (e.2,true) (getK k r):=rfl
    rw[e1,e2]
    cases hd:decide (e.1=k) with
    |true =>
      refine⟨Int.le_refl _,by show z<z+((r.length+1:Nat):Int); omega,?_⟩
      show (e.2,true)=(((e::r).getD (z-z).toNat ([],[])).2,true)
      rw[show (z-z).toNat=0 by omega]; rfl
    |false =>
      rw[hd] at h;obtain⟨h1,h2,h3⟩:=XkG k r (z+1) h
      refine⟨by show z<=idxK k r (z+1); omega,by show idxK k r (z+1)<z+((r.length+1:Nat):Int); omega,?_⟩
      show getK k r=(((e::r).getD (idxK k r (z+1)-z).toNat ([],[])).2,true)
      rw[h3,show (idxK k r (z+1)-z).toNat=(idxK k r (z+1)-(z+1)).toNat+1 by omega]; rfl
theorem Xrw {full:List Ent}{j n:Nat}{i:Int} (p1:j+n<=full.length)(h0:0<=i)(h1:i<n):(seg full j n).getD i.toNat ([],[])=rec full j i:=by
  have h:=XaF p1 h0 h1;have hl:=seg_len p1;rw[List.drop_eq_getElem_cons (by omega)] at h
  rw[List.getD_eq_getElem?_getD,List.getElem?_eq_getElem (by omega)]
  exact (List.cons.inj h).1
def Xq6 (full:List Ent)(j n:Nat)(k:List UInt8):RD:=.need (okN full j n) (.v (.tup [.str (getK k (seg full j n)).1,.bool (getK k (seg full j n)).2]) [])
theorem Xt4 (j n c:Nat)(ex:Bool)(k:List UInt8)(full:List Ent)(sp:Bool)(el:R.EL):runD C Y4 (fun _=>none) 210 c28 [.rs 0 j n c 2 ex,.str k] [.r .ent full sp el] =
    cond (okN full j n) (cond (noK k (seg full j n)) (some (R.DV.tup [R.DV.str [],R.DV.bool false],(mkD [DO.r RK.ent full sp el] 1))) (cond (decide (idxK k (seg full j n) 0<0)) (some (R.DV.tup [R.DV.str [],R.DV.bool false],(mkD [DO.r RK.ent full sp el] 1))) (cond (decide (0<=idxK k (seg full j n) 0)&&decide (Int.toNat (idxK k (seg full j n) 0)<n)) (cond (Nat.blt (j+Int.toNat (idxK k (seg full j n) 0)) full.length) (some (R.DV.tup [R.DV.str (Prod.snd (List.getD full (j+Int.toNat (idxK k (seg full j n) 0)) (RK.zero RK.ent))),R.DV.bool true],(mkD [DO.r RK.ent full sp el] 1))) none) none))) none:=by kernel_rfl
theorem Xvi (j n c:Nat)(ex:Bool)(k:List UInt8)(full:List Ent)(sp:Bool)(el:R.EL):Xw C.G C.O C.tab 28 211 [.r .ent full sp el] [.rs 0 j n c 2 ex,.str k] (Xq6 full j n k):=by
  refine Yy C Y4 (fun _=>none) rfl rfl (fun n hn p _ ld e=>by cases e) fun z hz=>?_
  obtain⟨hp,hz⟩:=R.XB hz;refine (Xt4 j n c ex k full sp el).trans (Eq.trans ?_ hz)
  show _=some (R.DV.tup [.str (getK k (seg full j n)).1,.bool (getK k (seg full j n)).2],mkD [DO.r RK.ent full sp el] 1)
  obtain⟨p1,p2⟩:=okN_iff.1 hp;have hl:=seg_len p1;rw[hp]
  cases hn:noK k (seg full j n) with
  |true=>rw[Xnv k _ hn]; rfl
  |false =>
    obtain⟨h1,h2,h3⟩:=XkG k (seg full j n) 0 hn;rw[hl] at h2;rw[Int.sub_zero,Xrw p1 h1 (by omega)] at h3
    rw[h3,cF (show ¬ idxK k (seg full j n) 0<0 by omega),cA h1 (show (idxK k (seg full j n) 0).toNat<n by omega),cB (show j+(idxK k (seg full j n) 0).toNat<full.length by omega)]
    rfl
theorem Xsr (k:List UInt8):Xw C.G C.O C.tab 28 211 [] [.nils,.str k] (.v (.tup [.str [],.bool false]) []):=by
  refine Yy C Y4 (fun _=>none) rfl rfl (fun n hn p _ ld e=>by cases e) fun z hz=>?_
  refine Eq.trans ?_ hz
  kernel_rfl
theorem YA:∀ a:List UInt8,Op.bytesLess a a=false
  |[]=>rfl
  |a::x=>by
    simp only[Op.bytesLess,YA x,Bool.and_false,Bool.or_false,decide_eq_false_iff_not];exact UInt8.lt_irrefl a
theorem Yi:∀ a b c:List UInt8,Op.bytesLess a b=true->Op.bytesLess b c=true->Op.bytesLess a c=true
  |[],[],_,h,_=>by simp[Op.bytesLess] at h
  |[],_::_,[],_,h=>by simp[Op.bytesLess] at h
  |[],_::_,_::_,_,_=>rfl
  |_::_,[],_,h,_=>by simp[Op.bytesLess] at h
  |_::_,_::_,[],_,h=>by simp[Op.bytesLess] at h
  |a::x,b::y,c::z,h1,h2=>by
    simp only[Op.bytesLess,Bool.or_eq_true,decide_eq_true_eq,Bool.and_eq_true,beq_iff_eq] at h1 h2 ⊢
    rcases h1 with h1 | ⟨rfl,h1⟩<;>rcases h2 with h2 | ⟨rfl,h2⟩
    . exact .inl (UInt8.lt_trans h1 h2)
    . exact .inl h1
    . exact .inl h2
    . exact .inr ⟨rfl,Yi x y z h1 h2⟩
theorem Xah : ∀ a b : List UInt8, Op.bytesLess a b = false → Op.bytesLess b a = false → a = b
  |[],[],_,_=>rfl
  |[],_::_,h,_=>by simp[Op.bytesLess] at h
  |_::_,[],_,h=>by simp[Op.bytesLess] at h
  |a::x,b::y,h1,h2=>by
    simp only[Op.bytesLess,Bool.or_eq_false_iff,decide_eq_false_iff_not] at h1 h2
    have e:a=b:=by
      have:=h1.1
      have:=h2.1
      rcases UInt8.lt_or_lt_of_ne (a:=a) (b:=b) with h
      by_cases hab:a=b
      . exact hab
      . rcases UInt8.lt_or_lt_of_ne hab with h | h
        . exact absurd h h1.1
        . exact absurd h h2.1
    subst e;have h3:=h1.2;have h4:=h2.2;simp only[beq_self_eq_true,Bool.true_and] at h3 h4;rw[Xah x y h3 h4]
theorem Xeg {a b c:List UInt8} (h1:Op.bytesLess a b=true)(h2:Op.bytesLess c b=false):Op.bytesLess a c=true:=by
  cases hbc:Op.bytesLess b c with
  |true=>exact Yi _ _ _ h1 hbc
  |false =>
    have:=Xah _ _ h2 hbc
    subst this;exact h1
theorem XaN (a:Txt):Op.bytesLess a []=false:=by cases a<;>rfl
theorem rising:∀ (l:List Ent) (e:Ent),chkL (some e) l=true->∀ a∈l,Op.bytesLess e.1 a.1=true
  |b::r,e,h,a,ha=>by
    rw[show chkL (some e) (b::r)=cond (decide (b.1=[])) false (cond (decide (108<(b.1.length:Int))) false (cond (decide (64<(b.2.length:Int))) false (cond (Op.bytesLess e.1 b.1) (chkL (some b) r) false))) from rfl] at h
    have h1:Op.bytesLess e.1 b.1=true/\chkL (some b) r=true:=by
      revert h
      cases decide (b.1=[])<;>cases decide (108<(b.1.length:Int))<;>cases decide (64<(b.2.length:Int))<;>cases Op.bytesLess e.1 b.1<;>simp
    rcases List.mem_cons.1 ha with rfl | ha
    . exact h1.1
    . exact Yi _ _ _ h1.1 (rising r b h1.2 a ha)
theorem XnP {p:Option Ent}{e:Ent}{r:List Ent} (h:chkL p (e::r)=true):chkL (some e) r=true:=by
  rw[show chkL p (e::r)=cond (decide (e.1=[])) false (cond (decide (108<(e.1.length:Int))) false (cond (decide (64<(e.2.length:Int))) false (cond (rises p e) (chkL (some e) r) false))) from rfl] at h
  revert h
  cases decide (e.1=[])<;>cases decide (108<(e.1.length:Int))<;>cases decide (64<(e.2.length:Int))<;>cases rises p e<;>simp
def b72:CC:=match X8 none c72.body with | [(_,b)]=>b | _=>.skip
def ld72 (P:Nat->Nat->List Ent->Txt->Int->Int->Bool)(S:Nat->Nat->List Ent->Txt->Int->Int->Int):LoopD:=⟨[(0,none),(1,none),(5,none),(6,none)],[(5,none)],[],fun vs ao=>match vs,ao with
  |[.rs 0 j n c 2 ex,.str k,.int .i64 a,.int .i64 b],[.r .ent full sp el]=>some ((b-a).toNat,.need (P j n full k a b) (.exit 0 [.int .i64 (S j n full k a b)] [.r .ent full sp el]))
  |_,_=>none⟩
def cntK (k:Txt):List Ent->Nat
  |[]=>0
  |e::r=>cond (Op.bytesLess e.1 k) (cntK k r+1) 0
theorem XjK (k:Txt):∀ l,cntK k l<=l.length
  |[]=>Nat.le_refl _
  |e::r=>by
    unfold cntK
    have:=XjK k r
    cases Op.bytesLess e.1 k
    . exact Nat.zero_le _
    . exact Nat.succ_le_succ this
theorem XnO (k : Txt) : ∀ (l : List Ent) (p : Option Ent), chkL p l = true → ∀ i x, l[i]? = some x → Op.bytesLess x.1 k = decide (i < cntK k l)
  |[],_,_,i,x,h=>by simp at h
  |e::r,p,hc,i,x,h=>by
    have ht:=XnP hc;unfold cntK
    cases he:Op.bytesLess e.1 k with
    |true =>
      cases i with
      |zero =>
        cases h;rw[he]; rfl
      |succ i =>
        rw[XnO k r (some e) ht i x (by simpa using h)]
        show decide (i<cntK k r)=decide (i+1<cntK k r+1)
        rw[Bool.eq_iff_iff,decide_eq_true_eq,decide_eq_true_eq]; omega
    |false =>
      show Op.bytesLess x.1 k=decide (i<0)
      rw[decide_eq_false (Nat.not_lt_zero i)]
      cases i with
      |zero=>cases h; exact he
      |succ i =>
        have hx:x∈r:=List.mem_of_getElem? (by simpa using h)
        have:=rising r e ht x hx
        cases hxk:Op.bytesLess x.1 k with
        |false=>rfl
        |true=>rw[Yi _ _ _ this hxk] at he; cases he
def P72 (j n:Nat)(full:List Ent)(k:Txt)(a b:Int):Bool:=chkB (seg full j n)&&decide (j+n<=full.length/\n<199/\0<=a/\a<=cntK k (seg full j n)/\(cntK k (seg full j n):Int)<=b/\b<=n)
theorem XqQ (P:Nat->Nat->List Ent->Txt->Int->Int->Bool)(S:Nat->Nat->List Ent->Txt->Int->Int->Int)(j n c:Nat)(ex:Bool)(k:Txt)(a b:Int)(full:List Ent)(sp:Bool)(el:R.EL)(m:Nat)(rd k1:R.EK)(y:List (Nat×R.EK)) :
    (YR C Y0 (fun _=>none) 200 32 1 0 b72 (ld72 P S) m [.rs 0 j n c 2 ex,.str k,.int .i64 a,.int .i64 b] [.r .ent full sp el] rd k1 y).ev =
    cond (decide (a=b)) ((k1 (envZ [5] [R.DV.int .i64 a]) (mkD [DO.r RK.ent full sp el] 1)).ev) (cond (decide (0<=IntKind.wrap .i64 (Int.fdiv (IntKind.wrap .u64 (IntKind.wrap .i64 (a+b))) 2))&&decide (Int.toNat (IntKind.wrap .i64 (Int.fdiv (IntKind.wrap .u64 (IntKind.wrap .i64 (a+b))) 2))<n)) (cond (Nat.blt (j+Int.toNat (IntKind.wrap .i64 (Int.fdiv (IntKind.wrap .u64 (IntKind.wrap .i64 (a+b))) 2))) full.length) (cond (Op.bytesLess (Prod.fst (List.getD full (j+Int.toNat (IntKind.wrap .i64 (Int.fdiv (IntKind.wrap .u64 (IntKind.wrap .i64 (a+b))) 2))) (RK.zero RK.ent))) k) (cond (decide (Int.toNat (b-IntKind.wrap .i64 (IntKind.wrap .i64 (Int.fdiv (IntKind.wrap .u64 (IntKind.wrap .i64 (a+b))) 2)+1))<m)) (cond (P j n full k (IntKind.wrap .i64 (IntKind.wrap .i64 (Int.fdiv (IntKind.wrap .u64 (IntKind.wrap .i64 (a+b))) 2)+1)) b) ((k1 (envZ [5] [R.DV.int .i64 (S j n full k (IntKind.wrap .i64 (IntKind.wrap .i64 (Int.fdiv (IntKind.wrap .u64 (IntKind.wrap .i64 (a+b))) 2)+1)) b)]) (mkD [DO.r RK.ent full sp el] 1)).ev) none) none) (cond (decide (Int.toNat (IntKind.wrap .i64 (Int.fdiv (IntKind.wrap .u64 (IntKind.wrap .i64 (a+b))) 2)-a)<m)) (cond (P j n full k a (IntKind.wrap .i64 (Int.fdiv (IntKind.wrap .u64 (IntKind.wrap .i64 (a+b))) 2))) ((k1 (envZ [5] [R.DV.int .i64 (S j n full k a (IntKind.wrap .i64 (Int.fdiv (IntKind.wrap .u64 (IntKind.wrap .i64 (a+b))) 2)))]) (mkD [DO.r RK.ent full sp el] 1)).ev) none) none)) none) none):=by kernel_rfl
theorem Xrk (S : Nat → Nat → List Ent → Txt → Int → Int → Int) (j n c : Nat) (hS : ∀ (full : List Ent) (k : Txt) (a b : Int), S j n full k a b = (cntK k (seg full j n) : Nat)) (ex : Bool) (k : Txt) (a b : Int) (full : List Ent) (sp : Bool) (el : R.EL) (rd k1 : R.EK) (y : List (Nat × R.EK)) (w : R.DV × R.DH) (hp : P72 j n full k a b = true)
    (hw:(k1 (envZ [5] [R.DV.int .i64 (S j n full k a b)]) (mkD [DO.r RK.ent full sp el] 1)).ev=some w) :
    (YR C Y0 (fun _=>none) 200 32 1 0 b72 (ld72 P72 S) (b-a).toNat [.rs 0 j n c 2 ex,.str k,.int .i64 a,.int .i64 b] [.r .ent full sp el] rd k1 y).ev=some w:=by
  have hp':=hp;unfold P72 at hp;rw[Bool.and_eq_true,decide_eq_true_eq] at hp;obtain⟨hc,p0,p1,p2,p3,p4,p5⟩:=hp;rw[XqQ]
  by_cases hab:a=b
  . subst hab
    rw[decide_eq_true rfl]
    have e:S j n full k a a=a:=by rw[hS]; omega
    rw[e] at hw;exact hw
  . obtain⟨m,hm⟩:∃ m:Int,m=(a+b) / 2:=⟨_,rfl⟩
    have e1:IntKind.wrap .i64 (a+b)=a+b:=wrap_i64 (by omega) (by omega)
    have e2:IntKind.wrap .u64 (a+b)=a+b:=wrap_u64 (by omega) (by omega)
    have e3:Int.fdiv (a+b) 2=m:=by rw[Int.fdiv_eq_ediv_of_nonneg _ (by omega)]; exact hm.symm
    have e4:IntKind.wrap .i64 m=m:=wrap_i64 (by omega) (by omega)
    have e5:IntKind.wrap .i64 (m+1)=m+1:=wrap_i64 (by omega) (by omega)
    rw[decide_eq_false hab,e1,e2,e3,e4,e5,cA (by omega) (by omega),cB (show j+m.toNat<full.length by omega)]
    have hl:(seg full j n).length=n:=seg_len (by omega)
    have hget:(seg full j n)[m.toNat]? = some (full.getD (j+m.toNat) (([],[]):Ent)):=by
      unfold seg;rw[List.getElem?_take,if_pos (by omega),List.getElem?_drop,List.getD_eq_getElem?_getD,List.getElem?_eq_getElem (show j+m.toNat<full.length by omega)]; rfl
    have hcmp:=XnO k (seg full j n) none hc m.toNat _ hget
    show cond (Op.bytesLess (full.getD (j+m.toNat) (([],[]):Ent)).1 k) _ _=some w
    rw[hcmp]
    by_cases hlt:m.toNat<cntK k (seg full j n)
    . have hP:P72 j n full k (m+1) b=true:=by
        unfold P72;rw[Bool.and_eq_true,decide_eq_true_eq]
        exact⟨hc,p0,p1,by omega,by omega,p4,p5⟩
      rw[cT hlt,hP,cT (by omega),hS full k (m+1) b,← hS full k a b]
      exact hw
    . have hP:P72 j n full k a m=true:=by
        unfold P72;rw[Bool.and_eq_true,decide_eq_true_eq]
        exact⟨hc,p0,p1,p2,p3,by omega,by omega⟩
      rw[cF hlt,hP,cT (by omega),hS full k a m,← hS full k a b]
      exact hw
def S72 (j n:Nat)(full:List Ent)(k:Txt) (_ _:Int):Int:=(cntK k (seg full j n):Nat)
theorem XrW {n:Nat} (hn:200<=n):XQ C.G 1 (XF X4 C.O C.tab n) n 200 32 0 b72 (ld72 P72 S72):=by
  refine ZJ C Y0 (lh:=fun _=>none) hn ?_ (fun p _ ld h=>by cases h) ?_
  . exact XP _ none (Zw (f:=72) rfl) (0,b72) (by rw[show X8 none c72.body=[(0,b72)] from rfl]; exact List.mem_cons_self)
  intro vs ao m t hs rd k1 y w hw;unfold ld72 at hs
  simp only at hs
  split at hs
  case h_2=>cases hs
  cases hs;have hp:=YG hw;exact Xrk S72 _ _ _ (fun _ _ _ _=>rfl) _ _ _ _ _ _ _ rd k1 y w hp.1 hp.2
theorem Xtz (P:Nat->Nat->List Ent->Txt->Int->Int->Bool)(S:Nat->Nat->List Ent->Txt->Int->Int->Int)(j n c:Nat)(ex:Bool)(k:Txt)(full:List Ent)(sp:Bool)(el:R.EL):runD C Y0 (lhX (ld72 P S)) 200 c72 [.rs 0 j n c 2 ex,.str k] [.r .ent full sp el] =
    cond (decide (Int.toNat ((↑n:Int)-0)<200)) (cond (P j n full k 0 (↑n:Int)) (some (R.DV.int .i64 (S j n full k 0 (↑n:Int)),(mkD [DO.r RK.ent full sp el] 1))) none) none:=by kernel_rfl
abbrev CN:=Txt->List Ent->Nat
def Xq2 (cn:CN)(full:List Ent)(j n:Nat)(k:Txt):RD:=.need (okN full j n&&(decide (n<199)&&chkB (seg full j n))) (.v (.int .i64 (cn k (seg full j n):Nat)) [])
theorem Xsh (j n c:Nat)(ex:Bool)(k:Txt)(full:List Ent)(sp:Bool)(el:R.EL):Xw C.G C.O C.tab 72 201 [.r .ent full sp el] [.rs 0 j n c 2 ex,.str k] (Xq2 cntK full j n k):=by
  refine Yy C Y0 (lhX (ld72 P72 S72)) rfl rfl (fun n hn=>WF (Q:=fun i b ld=>XQ C.G 1 (XF X4 C.O C.tab n) n 200 32 i b ld) rfl (XrW hn)) fun z hz=>?_
  obtain⟨hp,hz⟩:=R.XB hz;rw[Bool.and_eq_true,Bool.and_eq_true,decide_eq_true_eq] at hp;obtain⟨p1,_⟩:=okN_iff.1 hp.1;have p2:=hp.2.1;refine (Xtz P72 S72 j n c ex k full sp el).trans ?_
  have hc:=XjK k (seg full j n);rw[seg_len p1] at hc
  have h1:P72 j n full k 0 n=true:=by
    unfold P72;rw[Bool.and_eq_true,decide_eq_true_eq]
    exact⟨hp.2.2,p1,p2,by omega,by omega,by omega,by omega⟩
  rw[cT (show ((n:Int)-0).toNat<200 by omega),h1]
  exact hz
theorem Xp1 (k:Txt):Xw C.G C.O C.tab 72 201 [] [.nils,.str k] (.v (.int .i64 0) []):=by
  refine Yy C Y0 (fun _=>none) rfl rfl (fun n hn p _ ld e=>by cases e) fun z hz=>?_
  refine Eq.trans ?_ hz
  kernel_rfl
def gF72 (cn:CN):List R.DV->List R.DO->Option RD:=fun l ao=>match l,ao with
  |[.rs 0 j n c 2 ex,.str k],[.r .ent full sp el]=>some (Xq2 cn full j n k)
  |[.nils,.str k],[]=>some (.v (.int .i64 0) [])
  |_,_=>none
theorem XpG (cn:CN)(h:cn=cntK)(l:List R.DV)(ao:List R.DO)(out:RD)(hg:gF72 cn l ao=some out):Xw C.G C.O C.tab 72 201 ao l out:=by
  subst h;unfold gF72 at hg;split at hg
  . cases hg; exact Xsh _ _ _ _ _ _ _ _
  . cases hg; exact Xp1 _
  . cases hg
end
end Go.Vm.YtkjjpmbpjfmbcaaGreatDoor

namespace Go.Vm.R
noncomputable section
variable {P:Program}
def cutD (K:Kd)(cl:DC)(lh:Nat->Option LoopD)(lev nt N:Nat):List (Option (List Hint))->CC->T DV->DH->EK->List (Nat×EK)->EK->Tree
  |x::l,c,e,h,r,y,k=>match c with
    | .seq a b=>match x with
      |some hs=>XU K cl lh lev nt N a e h r y (Xl N hs fun e h=>cutD K cl lh lev nt N l b e h r y k)
      |none=>XU K cl lh lev nt N a e h r y (fun e h=>cutD K cl lh lev nt N l b e h r y k)
    |c=>XU K cl lh lev nt N c e h r y k
  |[],c,e,h,r,y,k=>XU K cl lh lev nt N c e h r y k
theorem Xqg {G:Gl}{N:Nat}{call:Nat->List V->H->Res}{cl:DC} (hgood:Xm G.n call)(hcl:ClOk G call cl)(K:Kd) {lh:Nat->Option LoopD}{n lev nt:Nat} (hlev:lev<=n) {k:DK}{r:Vm.K}{rd:EK} (hr:KOk G N k r rd) {hd:Option Nat}{x:List (Nat×Vm.K)}{y:List (Nat×EK)} (hy:Xf4 y=hd)(hx:XOk G N k x y) {kk:Vm.K}{kd:EK} (hk:KOk G N k kk kd) :
    ∀ (cs:List (Option (List Hint))) (c:CC),ccWf G.n c->(∀ p∈X8 hd c,∀ ld,lh p.1=some ld->XQ G N call n lev nt p.1 p.2 ld) ->
    KOk G N k (fun e h=>exec call n nt c e h r x kk) (fun e h=>cutD K cl lh lev nt N cs c e h rd y kd):=by
  intro cs
  induction cs with
  |nil=>intro c hw hl; exact Yv hgood hcl K hlev hr c hd x y kk kd hw hy hl hx hk
  |cons o l ih =>
    intro c hw hl
    cases c with
    |seq a b =>
      have ib:=ih b hw.2 (fun p hp=>hl p (List.mem_append_right _ hp))
      have la:∀ p∈X8 hd a,∀ ld,lh p.1=some ld->XQ G N call n lev nt p.1 p.2 ld:=fun p hp=>hl p (List.mem_append_left _ hp)
      cases o with
      |none=>exact Yv hgood hcl K hlev hr a hd x y _ _ hw.1 hy la hx ib
      |some hs=>exact Yv hgood hcl K hlev hr a hd x y _ _ hw.1 hy la hx (Xfv hs ib)
    |skip=>exact Yv hgood hcl K hlev hr _ hd x y kk kd hw hy hl hx hk
    |ops l'=>exact Yv hgood hcl K hlev hr _ hd x y kk kd hw hy hl hx hk
    |draw m al l'=>exact Yv hgood hcl K hlev hr _ hd x y kk kd hw hy hl hx hk
    |cond c a b=>exact Yv hgood hcl K hlev hr _ hd x y kk kd hw hy hl hx hk
    |block id b=>exact Yv hgood hcl K hlev hr _ hd x y kk kd hw hy hl hx hk
    |loop b=>exact Yv hgood hcl K hlev hr _ hd x y kk kd hw hy hl hx hk
    |exit id=>exact Yv hgood hcl K hlev hr _ hd x y kk kd hw hy hl hx hk
    |ret=>exact Yv hgood hcl K hlev hr _ hd x y kk kd hw hy hl hx hk
    |bad=>exact Yv hgood hcl K hlev hr _ hd x y kk kd hw hy hl hx hk
def topC (K:Kd)(cl:DC)(lh:Nat->Option LoopD)(lev:Nat)(cs:List (Option (List Hint)))(c:CFn)(l:List DV)(d:DH)(k:DK):Tree:=match Nat.ble l.length c.nt with
  |true=>cutD K cl lh lev c.nt d.n cs c.body (Yu l 0 .lf) d (YS c.res k) [] (YS c.res k)
  |false=>.no
theorem Xov {G:Gl} (hG:G.n=P.globals.size) {O:Nat->List V->H->Res}{tab:Nat->Option CFn} (ht:Tab P tab) {n lev f:Nat}{c:CFn}{cl:DC} (gO:Xm P.globals.size O)(hcl:ClOk G (XF X4 O tab n) cl)(K:Kd) {lh:Nat->Option LoopD} (cs:List (Option (List Hint)))
    (hlev:lev<=n) (hO:∀ a h,O f a h=.no) (hc:tab f=some c) {l:List DV}{d:DH} (hl:∀ p∈X8 none c.body,∀ ld,lh p.1=some ld->XQ G d.n (XF X4 O tab n) n lev c.nt p.1 p.2 ld)
    {k:DK}{L:Nat->Nat}{h:H} (R:Rep L d h) (w:wfh h) (g:G.J h) (hw:wfs h.n (toVs L l)):Xc d.n L d h (XF X4 O tab (n+1) f (toVs L l) h) k (topC K cl lh lev cs c l d k):=by
  unfold topC;split
  . rename_i hb
    have hle:=Nat.le_of_ble_eq_true hb;rw[XfN,hO,XaK,hc,XjQ,if_pos (by rw[Xk]; exact hle)]
    have hcw:ccWf G.n c.body:=by
      rw[hG];obtain⟨fn,b,_,_,_,_,_,h7⟩:=Z9 (ht f c hc);rw[h7]; exact WT P b
    exact Xqg (by rw[hG]; exact Wl YI gO ht n) hcl K hlev (Zi c.res k) rfl .nil (Zi c.res k) cs c.body hcw hl L _ d _ h (Nat.le_refl _)
      ⟨WS l 0 .lf .lf ⟨fun i=>.inl (T.get_lf _ _),fun i=>by rw[T.get_lf]; trivial⟩ hw,R,w,g⟩
  . exact Xa
def runC (C:Ctx P)(Y:C.RL)(lh:Nat->Option LoopD)(lev:Nat)(cs:List (Option (List Hint)))(c:CFn)(l:List DV)(ao:List DO):Option (DV×DH) :=
  (topC C.K (WH (XcK C.X Y) C.K C.kn C.tab lev) lh lev cs c l (mkD ao ao.length) (finK ao.length okK)).ev
theorem Zc (C:Ctx P)(Y:C.RL) {lev f:Nat}{c:CFn}{ao:List DO}{l:List DV}{out:RD} (lh:Nat->Option LoopD)(cs:List (Option (List Hint)))(hf:C.kn f=false)(hc:C.tab f=some c)
    (hl:∀ n,lev<=n->∀ p∈X8 none c.body,∀ ld,lh p.1=some ld->XQ C.G ao.length (XF X4 C.O C.tab n) n lev c.nt p.1 p.2 ld)
    (he:∀ z,(out.tree ao ao.length okK).ev=some z->runC C Y lh lev cs c l ao=some z):Xw C.G C.O C.tab f (lev+1) ao l out:=by
  intro n hn k L h R w g hw z hz
  obtain⟨n',rfl⟩:∃ n',n=n'+1:=⟨n-1,by omega⟩
  obtain⟨x,d,h1,h2⟩:=XcX out hz
  have:=Xov C.hG C.ht C.hX.good (WA C.hG C.ht C.hX.good C.K (XdK C.X C.hG C.hX C.ht Y C.hk) lev n' (by omega)) C.K (f:=f) (c:=c) (lh:=lh) cs (by omega) (C.hk f hf) hc (d:=mkD ao ao.length) (hl n' (by omega)) (k:=finK ao.length okK) R w g hw
  obtain⟨w1,d1,L1,h1',e1,R1,x1,hz1⟩:=this _ (he _ h1);unfold finK at hz1;split at hz1
  . rename_i hb
    simp only[Bool.and_eq_true] at hb;obtain⟨b1,b2,b3⟩:=hb;have b1:=Nat.le_of_ble_eq_true b1;have b2:=Nat.le_of_ble_eq_true b2;split at hz1
    . rename_i w' σ hr
      have hq:(w',gathered ao.length d1 σ d1.fl)=(x,d):=Option.some.inj hz1
      obtain⟨rfl,rfl⟩:=Prod.mk.inj hq;obtain⟨_,kr⟩:=Xez (L:=L1) hr;have sk:=Xe0 hr .nil;have R2:=Xbl R1 b1 sk b3 (Nat.le_refl _) b2 (.inl rfl);have x2:=XbR R1 b1 sk
      exact⟨w',_,_,h1',by rw[kr _ (Wx _ _ _ _)]; exact e1,R2,x1.trans x2,h2⟩
    . cases hz1
  . cases hz1
end
end Go.Vm.R

namespace Go.Vm.R
noncomputable section
variable {P:Program}
def XkB:CC->CC | .seq a _=>a | c=>c
def Xtv:CC->CC | .seq _ b=>b | c=>c
def pcOf (c:CFn)(n:Nat):CC:=n.rec c.body fun _ r=>Xtv r
structure Cuts where
  lh:Nat->Option LoopD
  lev:Nat
  N:Nat
  c:CFn
  cs:List (Option (List Hint))
abbrev Cuts.R (s:Cuts):EK:=YS s.c.res (finK s.N okK)
def Xg (C:Ctx P)(Y:C.RL)(s:Cuts)(n:Nat)(e:T DV)(d:DH)(k:EK):Tree :=
  XU C.K (WH (XcK C.X Y) C.K C.kn C.tab s.lev) s.lh s.lev s.c.nt s.N (XkB (pcOf s.c n)) e d s.R [] k
def Yp (C:Ctx P)(Y:C.RL)(s:Cuts)(n:Nat):EK:=fun e d =>
  cutD C.K (WH (XcK C.X Y) C.K C.kn C.tab s.lev) s.lh s.lev s.c.nt s.N (s.cs.drop n) (pcOf s.c n) e d s.R [] s.R
def hn (l:List Nat):List Hint:=l.map fun t=>(t,none)
theorem Xpd (C:Ctx P)(Y:C.RL)(s:Cuts)(n:Nat) {hs:List Hint}{o:List (Option (List Hint))} (h1:s.cs.drop n=some hs::o)(h2:pcOf s.c n=.seq (XkB (pcOf s.c n)) (pcOf s.c (n+1)))(e:T DV)(d:DH) :
    Yp C Y s n e d=Xg C Y s n e d (Xl s.N hs (Yp C Y s (n+1))):=by
  have h3:s.cs.drop (n+1)=o:=by rw[show n+1=1+n by omega,Nat.add_comm,← List.drop_drop,h1]; rfl
  unfold Yp Xg;rw[h1,h3]
  generalize pcOf s.c (n+1)=b at h2 ⊢
  generalize hh:XkB (pcOf s.c n)=a at h2 ⊢
  rw[h2];rfl
theorem ZG (C:Ctx P)(Y:C.RL)(s:Cuts) {l:List DV}{ao:List DO} (hN:ao.length=s.N)(hb:Nat.ble l.length s.c.nt=true):runC C Y s.lh s.lev s.cs s.c l ao=(Yp C Y s 0 (Yu l 0 .lf) (mkD ao s.N)).ev:=by
  have e:(mkD ao s.N).n=s.N:=hN
  unfold runC topC Yp;rw[hb,hN,e];rfl
theorem Xe (C:Ctx P)(Y:C.RL)(s:Cuts)(n:Nat) {hs:List Hint}{o:List (Option (List Hint))} (h1:s.cs.drop n=some hs::o)(h2:pcOf s.c n=.seq (XkB (pcOf s.c n)) (pcOf s.c (n+1))) {e:T DV}{d:DH}{t:EK->Option (DV×DH)}{z:Option (DV×DH)}
    (hp:∀ kk,(Xg C Y s n e d (Xl s.N hs kk)).ev=t kk) (hz:t (Yp C Y s (n+1))=z):(Yp C Y s n e d).ev=z:=by
  rw[Xpd C Y s n h1 h2,hp]; exact hz
end
end Go.Vm.R
