/-
  The law of BufferMakes, in four forms of its arguments.
  An argument that is a slice of messages: its row; and that it reads behind the call as it read.
  Layer 17: what the statements' calls stand over: the world's blocks, and an argument that is a Range.
  Slices of entries, as the statements' calls have them.
  A law over two rows, at the model's level: the rows lie in blocks of the world, or in one; no run writes to either.
-/
import Derived.Test.YtkjjpmbpjfmbcaaGreatDoorQ14
import Derived.Test.YtkjjpmbpjfmbcaaGreatDoorQ12
import Derived.Test.YtkjjpmbpjfmbcaaGreatDoorQ11
import Derived.ChangeMaps5
set_option linter.unusedVariables false
set_option linter.unusedSimpArgs false
namespace Go.Vm.YtkjjpmbpjfmbcaaGreatDoor.B
open Go.Proofs Go.Vm.R
noncomputable section
set_option maxRecDepth 10000
theorem gF {α:Type}{f:Bool}{T K:α} (h:f=true->K=T):cond (!f) T K=T:=by
  cases f with | true=>exact h rfl | false=>rfl
theorem gC {α:Type}{f:Bool}{T K:α} (h:f=true->K=T):cond f K T=T:=by
  cases f with | true=>exact h rfl | false=>rfl
theorem gD {α:Type}{f:Bool}{T K:α} (h:f=false->K=T):cond f T K=T:=by
  cases f with | false=>exact h rfl | true=>rfl
theorem gS {α:Type}{c1 c2 c3 c4 d1 d2:Bool}{T K:α} (h:d1=false->d2=false->K=T):cond c1 (cond c2 (cond c3 (cond (!c4) T (cond d1 T (cond d2 T K))) T) T) T=T :=
  gC fun _=>gC fun _=>gC fun _=>gF fun _=>gD fun h1=>gD fun h2=>h h1 h2
theorem gR {α:Type}{x y z:Bool}{T K:α} (h:K=T):cond x (cond y (cond z T K) K) K=T:=by
  rw[h]; cases x<;>cases y<;>cases z<;>rfl
theorem six {α:Type}{k a b:Txt}{T K X:α} (h1:inB k a b=true->K=T)(h2:inB k a b=false->X=T):cond (!Op.bytesLess k a) (cond (decide (b=[])) K (cond (!Op.bytesLess k b) X K)) X=T:=by
  revert h1 h2
  unfold inB
  cases Op.bytesLess k a<;>cases decide (b=[])<;>cases Op.bytesLess k b<;>intro h1 h2<;>first | exact h1 rfl | exact h2 rfl
theorem xR {α:Type}{w2 w:Txt}{t2 t kn ck:Bool}{T E:Option α} (h1:w2=w)(h2:t2=t)(hk:kn=true)(hc:ck=true):cond (decide (w2=w)) (cond ((t2 == t) != false) (cond kn (cond ck T E) none) E) E=T:=by
  subst h1 h2 hk hc;rw[decide_eq_true rfl]; cases t2<;>rfl
theorem xN {α:Type}{w2 w:Txt}{t2 t:Bool}{T E:Option α} (h1:w2=w)(h2:t2=t):cond (decide (w2=w)) (cond ((t2 == t) != false) T E) E=T:=by
  subst h1 h2;rw[decide_eq_true rfl]; cases t2<;>rfl
theorem XqD {full:List Msg}{j n:Nat} (h:j+n<=full.length)(hf:fewL (seg full j n)=true):n<=60:=by
  unfold fewL at hf;rw[Bool.and_eq_true,decide_eq_true_eq,seg_len h] at hf;omega
theorem Xn4 {full:List Ent}{j n:Nat} (h:j+n<=full.length)(hf:YtkjjpmbpjfmbcaaGreatDoor.fewL (YtkjjpmbpjfmbcaaGreatDoor.seg full j n)=true):n<=60:=by
  unfold YtkjjpmbpjfmbcaaGreatDoor.fewL at hf;rw[Bool.and_eq_true,decide_eq_true_eq,YtkjjpmbpjfmbcaaGreatDoor.seg_len h] at hf;omega
theorem Xei {a:Txt} (h:decide (108<(a.length:Int))=false):a.length<=108:=by
  rw[decide_eq_false_iff_not] at h; omega
theorem XbM {es:List Ent} (k:Txt)(h:chkB es=true):(getK k es).1.length<=64/\norm (getK k es):=Xhr ((XbX es).1 h).1
theorem facts {es:List Ent}{ms:List Msg}{a b:Txt} (k:Txt)(hc:chkB es=true)(he:es.length<=60)(hm:ms.length<=60)(ha:a.length<=108)(hb:b.length<=108) :
    chkB (doP a b ms es)=true/\(doP a b ms es).length<=120/\(inB k a b=true->getK k (doP a b ms es)=foldV k ms (getK k es))/\(inB k a b=false->getK k (doP a b ms es)=getK k es):=by
  obtain⟨h1,h2,h3⟩:=XiS (inL a b ms) es hc (Xe5 ha hb ms);have hl:=Xcm a b ms;have hn:=(XbM k hc).2
  refine⟨h1,by unfold doP; omega,fun hi=>?_,fun hi=>?_⟩
  . unfold doP; rw[h2 k]; exact Xf7 ha hb hi ms _ hn
  . unfold doP; rw[h2 k]; exact XdO ha hb hi ms _ hn
theorem XmX {a b:Txt}{ms:List Msg} (es:List Ent)(h:anyP a b ms=false):doP a b ms es=es:=by
  unfold anyP at h;rw[decide_eq_false_iff_not] at h
  have e:inL a b ms=[]:=List.eq_nil_of_length_eq_zero (by omega)
  unfold doP;rw[e]; rfl
theorem Xpg {p:Txt×Bool} (h:norm p):((bif p.2 then p.1 else [],p.2):Txt×Bool)=p:=Xhk h
theorem XrR {p:Txt×Bool} (h:norm p):(bif p.2 then p.1 else [])=p.1:=congrArg Prod.fst (Xhk h)
theorem law6b (F:FM)(j n c:Nat)(ex:Bool)(full:List Msg)(sp:Bool)(el:R.EL)(j1 n1 c1:Nat)(ex1:Bool)(full1:List Ent)(sp1:Bool)(el1:R.EL)(a b k v:Txt)(th:Bool):Xw C.G C.O C.tab 6 231 [.r .msg full sp el,.r .ent full1 sp1 el1] [.rs 0 j n c 4 ex,.rs 1 j1 n1 c1 2 ex1,.agg [.str a,.str b,.str k,.str v,.bool th]] (.need (okS full j n 0&&YtkjjpmbpjfmbcaaGreatDoor.okS full1 j1 n1 0) (.v (.bool true) [])):=by
  refine Zc (CA F.mf F.h) (YM F) (s6 2).lh (s6 2).cs rfl rfl (fun n hn p _ ld e=>by cases e) fun z hz=>?_
  obtain⟨hp,hz⟩:=R.XB hz;rw[Bool.and_eq_true] at hp;obtain⟨hS,hS1⟩:=hp;have q1:=(okS_iff.1 hS).2.2.1;have lS:=seg_len q1;have q2:=(YtkjjpmbpjfmbcaaGreatDoor.okS_iff.1 hS1).2.2.1;have lS1:=YtkjjpmbpjfmbcaaGreatDoor.seg_len q2;refine (ZG (CA F.mf F.h) (YM F) (s6 2) (l:=[.rs 0 j n c 4 ex,.rs 1 j1 n1 c1 2 ex1,.agg [.str a,.str b,.str k,.str v,.bool th]]) (ao:=[.r .msg full sp el,.r .ent full1 sp1 el1]) rfl rfl).trans (Eq.trans ?_ hz)
  show _=some (R.DV.bool true,mkD [.r .msg full sp el,.r .ent full1 sp1 el1] 2)
  refine Xe (CA F.mf F.h) (YM F) (s6 2) 0 rfl rfl (fun kk=>p6b0 F j n c ex full sp el j1 n1 c1 ex1 full1 sp1 el1 a b k v th kk) ?_
  refine Xe (CA F.mf F.h) (YM F) (s6 2) 1 rfl rfl (fun kk=>p6b1 F j n c ex full sp el j1 n1 c1 ex1 full1 sp1 el1 a b k v th kk) ?_
  rw[hS,cond_true];refine gF fun hf=>?_
  have n60:n<=60:=XqD q1 hf
  have hG:okG full j n=true:=Xbf.2 ⟨q1,by omega⟩
  rw[hS1,cond_true];refine gF fun hf1=>?_
  have n160:n1<=60:=Xn4 q2 hf1
  have hN1:YtkjjpmbpjfmbcaaGreatDoor.okN full1 j1 n1=true:=YtkjjpmbpjfmbcaaGreatDoor.okN_iff.2 ⟨q2,by omega⟩
  refine gS fun ha hb=>?_
  have ha:=Xei ha;have hb:=Xei hb;rw[hN1,cond_true];refine gC fun hc=>?_
  obtain⟨f1,f2,f3,f4⟩:=facts (ms:=(seg full j n)) k hc (by omega) (by omega) ha hb
  have hn:=XbM k hc;refine Xe (CA F.mf F.h) (YM F) (s6 2) 2 rfl rfl (fun kk=>p6b2 F j n c ex full sp el j1 n1 c1 ex1 full1 sp1 el1 a b k v th kk) ?_
  refine gR ?_
  have finR:∀ (L:Nat) (ax sa:Bool) (q:List Ent),L=q.length->q=doP a b (seg full j n) (YtkjjpmbpjfmbcaaGreatDoor.seg full1 j1 n1)->(Yp (CA F.mf F.h) (YM F) (s6 2) 4 (envZ [0,1,5,7] [.rs 0 j n c 4 ex,.rs 1 j1 n1 c1 2 ex1,.ptr 2 0,.rs 3 0 L L 2 ax]) (mkD [.r .msg full sp el,.r .ent full1 sp1 el1,.c [.str a,.str b,.str k,.str v,.bool th] false 24,.r .ent q sa 41] 2)).ev=some (R.DV.bool true,mkD [.r .msg full sp el,.r .ent full1 sp1 el1] 2):=fun L ax sa q hL hq=>by
    subst hL;rw[← hq] at f1 f2 f3 f4;refine Xe (CA F.mf F.h) (YM F) (s6 2) 4 rfl rfl (fun kk=>Xuj F j n c ex full sp el j1 n1 c1 ex1 full1 sp1 el1 a b k v th q.length ax sa q kk) ?_
    rw[hN1,cond_true];refine Xe (CA F.mf F.h) (YM F) (s6 2) 5 rfl rfl (fun kk=>Xui F j n c ex full sp el j1 n1 c1 ex1 full1 sp1 el1 a b k v th q.length ax sa q _ _ kk) ?_
    have hk:YtkjjpmbpjfmbcaaGreatDoor.okN q 0 q.length=true:=YtkjjpmbpjfmbcaaGreatDoor.okN_iff.2 ⟨by omega,by omega⟩
    rw[hk,cond_true,segA];refine Xe (CA F.mf F.h) (YM F) (s6 2) 6 rfl rfl (fun kk=>Xuh F j n c ex full sp el j1 n1 c1 ex1 full1 sp1 el1 a b k v th q.length ax sa q _ _ _ _ kk) ?_
    refine six (fun hi=>?_) (fun hi=>?_)
    . refine Xe (CA F.mf F.h) (YM F) (s6 2) 7 rfl rfl (fun kk=>Xug F j n c ex full sp el j1 n1 c1 ex1 full1 sp1 el1 a b k v th q.length ax sa q _ _ _ _ kk) ?_
      rw[hG,decide_eq_true (show (getK k (YtkjjpmbpjfmbcaaGreatDoor.seg full1 j1 n1)).1.length<=64 from hn.1),Bool.and_self,cond_true,F.hf]
      rw[Xpg hn.2];rw[Xuf F j n c ex full sp el j1 n1 c1 ex1 full1 sp1 el1 a b k v th q.length ax sa q ];rw[segA];exact xR (congrArg Prod.fst (f3 hi)) (congrArg Prod.snd (f3 hi)) hk f1
    . rw[segA]
      exact xR (congrArg Prod.fst (f4 hi)) (congrArg Prod.snd (f4 hi)) hk f1
  refine Xe (CA F.mf F.h) (YM F) (s6 2) 3 rfl rfl (fun kk=>p6b3 F j n c ex full sp el j1 n1 c1 ex1 full1 sp1 el1 a b k v th kk) ?_
  have hd:nd24 full j n full1 j1 n1 a b=true:=by
    unfold nd24;rw[hG,hN1,hc,decide_eq_true (show n<=60/\n1<=60/\a.length<=108/\b.length<=108 from ⟨n60,n160,ha,hb⟩)]; rfl
  rw[hd,cond_true,F.ha,F.hd]
  cases hany:anyP a b (seg full j n) with
  |true=>rw[cond_true]; exact finR _ true false _ rfl rfl
  |false =>
    have e2:=XmX (YtkjjpmbpjfmbcaaGreatDoor.seg full1 j1 n1) hany;rw[cond_false]
    cases hn0:Nat.beq n1 0 with
    |false=>rw[cond_false]; exact finR n1 false true _ lS1.symm e2.symm
    |true =>
      rw[cond_true]
      have h0:n1=0:=Nat.eq_of_beq_eq_true hn0
      have e:(YtkjjpmbpjfmbcaaGreatDoor.seg full1 j1 n1)=[]:=List.eq_nil_of_length_eq_zero (by omega)
      exact finR 0 true false [] rfl (by rw[e2,e])
theorem law6m (F:FM)(j n c:Nat)(ex:Bool)(full:List Msg)(sp:Bool)(el:R.EL)(a b k v:Txt)(th:Bool):Xw C.G C.O C.tab 6 231 [.r .msg full sp el] [.rs 0 j n c 4 ex,.nils,.agg [.str a,.str b,.str k,.str v,.bool th]] (.need (okS full j n 0) (.v (.bool true) [])):=by
  refine Zc (CA F.mf F.h) (YM F) (s6 1).lh (s6 1).cs rfl rfl (fun n hn p _ ld e=>by cases e) fun z hz=>?_
  obtain⟨hp,hz⟩:=R.XB hz;have hS:=hp;have q1:=(okS_iff.1 hS).2.2.1;have lS:=seg_len q1;refine (ZG (CA F.mf F.h) (YM F) (s6 1) (l:=[.rs 0 j n c 4 ex,.nils,.agg [.str a,.str b,.str k,.str v,.bool th]]) (ao:=[.r .msg full sp el]) rfl rfl).trans (Eq.trans ?_ hz)
  show _=some (R.DV.bool true,mkD [.r .msg full sp el] 1)
  refine Xe (CA F.mf F.h) (YM F) (s6 1) 0 rfl rfl (fun kk=>p6m0 F j n c ex full sp el a b k v th kk) ?_
  refine Xe (CA F.mf F.h) (YM F) (s6 1) 1 rfl rfl (fun kk=>p6m1 F j n c ex full sp el a b k v th kk) ?_
  rw[hS,cond_true];refine gF fun hf=>?_
  have n60:n<=60:=XqD q1 hf
  have hG:okG full j n=true:=Xbf.2 ⟨q1,by omega⟩
  refine gS fun ha hb=>?_
  have ha:=Xei ha;have hb:=Xei hb
  have hc:chkB []=true:=rfl
  obtain⟨f1,f2,f3,f4⟩:=facts (ms:=(seg full j n)) k hc (Nat.zero_le _) (by omega) ha hb
  have hn:=XbM k hc;refine Xe (CA F.mf F.h) (YM F) (s6 1) 2 rfl rfl (fun kk=>p6m2 F j n c ex full sp el a b k v th kk) ?_
  refine gR ?_
  have finR:∀ (L:Nat) (ax sa:Bool) (q:List Ent),L=q.length->q=doP a b (seg full j n) []->(Yp (CA F.mf F.h) (YM F) (s6 1) 4 (envZ [0,1,5,7] [.rs 0 j n c 4 ex,.nils,.ptr 1 0,.rs 2 0 L L 2 ax]) (mkD [.r .msg full sp el,.c [.str a,.str b,.str k,.str v,.bool th] false 24,.r .ent q sa 41] 1)).ev=some (R.DV.bool true,mkD [.r .msg full sp el] 1):=fun L ax sa q hL hq=>by
    subst hL;rw[← hq] at f1 f2 f3 f4;refine Xe (CA F.mf F.h) (YM F) (s6 1) 4 rfl rfl (fun kk=>XtU F j n c ex full sp el a b k v th q.length ax sa q kk) ?_
    refine Xe (CA F.mf F.h) (YM F) (s6 1) 5 rfl rfl (fun kk=>XtT F j n c ex full sp el a b k v th q.length ax sa q _ _ kk) ?_
    have hk:YtkjjpmbpjfmbcaaGreatDoor.okN q 0 q.length=true:=YtkjjpmbpjfmbcaaGreatDoor.okN_iff.2 ⟨by omega,by omega⟩
    rw[hk,cond_true,segA];refine Xe (CA F.mf F.h) (YM F) (s6 1) 6 rfl rfl (fun kk=>XtS F j n c ex full sp el a b k v th q.length ax sa q _ _ _ _ kk) ?_
    refine six (fun hi=>?_) (fun hi=>?_)
    . refine Xe (CA F.mf F.h) (YM F) (s6 1) 7 rfl rfl (fun kk=>XtR F j n c ex full sp el a b k v th q.length ax sa q _ _ _ _ kk) ?_
      rw[hG,decide_eq_true (show ([]:Txt).length<=64 from hn.1),Bool.and_self,cond_true,F.hf]
      rw[XtQ F j n c ex full sp el a b k v th q.length ax sa q ];rw[segA];exact xR (congrArg Prod.fst (f3 hi)) (congrArg Prod.snd (f3 hi)) hk f1
    . rw[segA]
      exact xR (congrArg Prod.fst (f4 hi)) (congrArg Prod.snd (f4 hi)) hk f1
  have finN:doP a b (seg full j n) []=[]->(Yp (CA F.mf F.h) (YM F) (s6 1) 4 (envZ [0,1,5,7] [.rs 0 j n c 4 ex,.nils,.ptr 1 0,.nils]) (mkD [.r .msg full sp el,.c [.str a,.str b,.str k,.str v,.bool th] false 24] 1)).ev=some (R.DV.bool true,mkD [.r .msg full sp el] 1):=fun hq=>by
    rw[hq] at f1 f2 f3 f4;refine Xe (CA F.mf F.h) (YM F) (s6 1) 4 rfl rfl (fun kk=>XtZ F j n c ex full sp el a b k v th kk) ?_
    refine Xe (CA F.mf F.h) (YM F) (s6 1) 5 rfl rfl (fun kk=>XtY F j n c ex full sp el a b k v th _ _ kk) ?_
    refine Xe (CA F.mf F.h) (YM F) (s6 1) 6 rfl rfl (fun kk=>XtX F j n c ex full sp el a b k v th _ _ _ _ kk) ?_
    refine six (fun hi=>?_) (fun hi=>?_)
    . refine Xe (CA F.mf F.h) (YM F) (s6 1) 7 rfl rfl (fun kk=>XtW F j n c ex full sp el a b k v th _ _ _ _ kk) ?_
      rw[hG,decide_eq_true (show ([]:Txt).length<=64 from hn.1),Bool.and_self,cond_true,F.hf]
      rw[XtV F j n c ex full sp el a b k v th ];exact xN (congrArg Prod.fst (f3 hi)) (congrArg Prod.snd (f3 hi))
    . exact xN (congrArg Prod.fst (f4 hi)) (congrArg Prod.snd (f4 hi))
  refine Xe (CA F.mf F.h) (YM F) (s6 1) 3 rfl rfl (fun kk=>p6m3 F j n c ex full sp el a b k v th kk) ?_
  rw[hG,decide_eq_true (show n<=60/\a.length<=108/\b.length<=108 from ⟨n60,ha,hb⟩),Bool.and_self,cond_true,F.ha,F.hd]
  cases hany:anyP a b (seg full j n) with
  |true=>rw[cond_true]; exact finR _ true false _ rfl rfl
  |false=>rw[cond_false]; exact finN (XmX [] hany)
theorem law6e (F:FM)(j1 n1 c1:Nat)(ex1:Bool)(full1:List Ent)(sp1:Bool)(el1:R.EL)(a b k v:Txt)(th:Bool):Xw C.G C.O C.tab 6 231 [.r .ent full1 sp1 el1] [.nils,.rs 0 j1 n1 c1 2 ex1,.agg [.str a,.str b,.str k,.str v,.bool th]] (.need (YtkjjpmbpjfmbcaaGreatDoor.okS full1 j1 n1 0) (.v (.bool true) [])):=by
  refine Zc (CA F.mf F.h) (YM F) (s6 1).lh (s6 1).cs rfl rfl (fun n hn p _ ld e=>by cases e) fun z hz=>?_
  obtain⟨hp,hz⟩:=R.XB hz;have hS1:=hp;have q2:=(YtkjjpmbpjfmbcaaGreatDoor.okS_iff.1 hS1).2.2.1;have lS1:=YtkjjpmbpjfmbcaaGreatDoor.seg_len q2;refine (ZG (CA F.mf F.h) (YM F) (s6 1) (l:=[.nils,.rs 0 j1 n1 c1 2 ex1,.agg [.str a,.str b,.str k,.str v,.bool th]]) (ao:=[.r .ent full1 sp1 el1]) rfl rfl).trans (Eq.trans ?_ hz)
  show _=some (R.DV.bool true,mkD [.r .ent full1 sp1 el1] 1)
  refine Xe (CA F.mf F.h) (YM F) (s6 1) 0 rfl rfl (fun kk=>p6e0 F j1 n1 c1 ex1 full1 sp1 el1 a b k v th kk) ?_
  refine Xe (CA F.mf F.h) (YM F) (s6 1) 1 rfl rfl (fun kk=>p6e1 F j1 n1 c1 ex1 full1 sp1 el1 a b k v th kk) ?_
  rw[hS1,cond_true];refine gF fun hf1=>?_
  have n160:n1<=60:=Xn4 q2 hf1
  have hN1:YtkjjpmbpjfmbcaaGreatDoor.okN full1 j1 n1=true:=YtkjjpmbpjfmbcaaGreatDoor.okN_iff.2 ⟨q2,by omega⟩
  refine gS fun ha hb=>?_
  have ha:=Xei ha;have hb:=Xei hb;rw[hN1,cond_true];refine gC fun hc=>?_
  obtain⟨f1,f2,f3,f4⟩:=facts (ms:=[]) k hc (by omega) (Nat.zero_le _) ha hb
  have hn:=XbM k hc;refine Xe (CA F.mf F.h) (YM F) (s6 1) 2 rfl rfl (fun kk=>p6e2 F j1 n1 c1 ex1 full1 sp1 el1 a b k v th kk) ?_
  refine gR ?_
  have finR:∀ (L:Nat) (ax sa:Bool) (q:List Ent),L=q.length->q=doP a b [] (YtkjjpmbpjfmbcaaGreatDoor.seg full1 j1 n1)->(Yp (CA F.mf F.h) (YM F) (s6 1) 4 (envZ [0,1,5,7] [.nils,.rs 0 j1 n1 c1 2 ex1,.ptr 1 0,.rs 2 0 L L 2 ax]) (mkD [.r .ent full1 sp1 el1,.c [.str a,.str b,.str k,.str v,.bool th] false 24,.r .ent q sa 41] 1)).ev=some (R.DV.bool true,mkD [.r .ent full1 sp1 el1] 1):=fun L ax sa q hL hq=>by
    subst hL;rw[← hq] at f1 f2 f3 f4;refine Xe (CA F.mf F.h) (YM F) (s6 1) 4 rfl rfl (fun kk=>Xue F j1 n1 c1 ex1 full1 sp1 el1 a b k v th q.length ax sa q kk) ?_
    rw[hN1,cond_true];refine Xe (CA F.mf F.h) (YM F) (s6 1) 5 rfl rfl (fun kk=>Xud F j1 n1 c1 ex1 full1 sp1 el1 a b k v th q.length ax sa q _ _ kk) ?_
    have hk:YtkjjpmbpjfmbcaaGreatDoor.okN q 0 q.length=true:=YtkjjpmbpjfmbcaaGreatDoor.okN_iff.2 ⟨by omega,by omega⟩
    rw[hk,cond_true,segA];refine Xe (CA F.mf F.h) (YM F) (s6 1) 6 rfl rfl (fun kk=>Xuc F j1 n1 c1 ex1 full1 sp1 el1 a b k v th q.length ax sa q _ _ _ _ kk) ?_
    refine six (fun hi=>?_) (fun hi=>?_)
    . refine Xe (CA F.mf F.h) (YM F) (s6 1) 7 rfl rfl (fun kk=>Xub F j1 n1 c1 ex1 full1 sp1 el1 a b k v th q.length ax sa q _ _ _ _ kk) ?_
      rw[XrR hn.2];rw[Xua F j1 n1 c1 ex1 full1 sp1 el1 a b k v th q.length ax sa q ];rw[segA];exact xR (congrArg Prod.fst (f3 hi)) (congrArg Prod.snd (f3 hi)) hk f1
    . rw[segA]
      exact xR (congrArg Prod.fst (f4 hi)) (congrArg Prod.snd (f4 hi)) hk f1
  refine Xe (CA F.mf F.h) (YM F) (s6 1) 3 rfl rfl (fun kk=>p6e3 F j1 n1 c1 ex1 full1 sp1 el1 a b k v th kk) ?_
  rw[hN1,cond_true]
  have e2:doP a b [] (YtkjjpmbpjfmbcaaGreatDoor.seg full1 j1 n1)=(YtkjjpmbpjfmbcaaGreatDoor.seg full1 j1 n1):=rfl
  cases hn0:Nat.beq n1 0 with
  |false=>rw[cond_false]; exact finR n1 false true _ lS1.symm e2.symm
  |true =>
    rw[cond_true]
    have h0:n1=0:=Nat.eq_of_beq_eq_true hn0
    have e:(YtkjjpmbpjfmbcaaGreatDoor.seg full1 j1 n1)=[]:=List.eq_nil_of_length_eq_zero (by omega)
    exact finR 0 true false [] rfl (by rw[e2,e])
theorem law6n (F:FM)(a b k v:Txt)(th:Bool):Xw C.G C.O C.tab 6 231 [] [.nils,.nils,.agg [.str a,.str b,.str k,.str v,.bool th]] (.v (.bool true) []):=by
  refine Zc (CA F.mf F.h) (YM F) (s6 0).lh (s6 0).cs rfl rfl (fun n hn p _ ld e=>by cases e) fun z hz=>?_
  refine (ZG (CA F.mf F.h) (YM F) (s6 0) (l:=[.nils,.nils,.agg [.str a,.str b,.str k,.str v,.bool th]]) (ao:=[]) rfl rfl).trans (Eq.trans ?_ hz)
  show _=some (R.DV.bool true,mkD [] 0)
  refine Xe (CA F.mf F.h) (YM F) (s6 0) 0 rfl rfl (fun kk=>p6n0 F a b k v th kk) ?_
  refine Xe (CA F.mf F.h) (YM F) (s6 0) 1 rfl rfl (fun kk=>p6n1 F a b k v th kk) ?_
  refine gS fun ha hb=>?_
  have ha:=Xei ha;have hb:=Xei hb
  have hc:chkB []=true:=rfl
  obtain⟨f1,f2,f3,f4⟩:=facts (ms:=[]) k hc (Nat.zero_le _) (Nat.zero_le _) ha hb;have hn:=XbM k hc;refine Xe (CA F.mf F.h) (YM F) (s6 0) 2 rfl rfl (fun kk=>p6n2 F a b k v th kk) ?_
  refine gR ?_
  have finN:doP a b [] []=[]->(Yp (CA F.mf F.h) (YM F) (s6 0) 4 (envZ [0,1,5,7] [.nils,.nils,.ptr 0 0,.nils]) (mkD [.c [.str a,.str b,.str k,.str v,.bool th] false 24] 0)).ev=some (R.DV.bool true,mkD [] 0):=fun hq=>by
    rw[hq] at f1 f2 f3 f4;refine Xe (CA F.mf F.h) (YM F) (s6 0) 4 rfl rfl (fun kk=>XtP F a b k v th kk) ?_
    refine Xe (CA F.mf F.h) (YM F) (s6 0) 5 rfl rfl (fun kk=>XtO F a b k v th _ _ kk) ?_
    refine Xe (CA F.mf F.h) (YM F) (s6 0) 6 rfl rfl (fun kk=>XtN F a b k v th _ _ _ _ kk) ?_
    refine six (fun hi=>?_) (fun hi=>?_)
    . refine Xe (CA F.mf F.h) (YM F) (s6 0) 7 rfl rfl (fun kk=>XtM F a b k v th _ _ _ _ kk) ?_
      rw[XtL F a b k v th ];exact xN (congrArg Prod.fst (f3 hi)) (congrArg Prod.snd (f3 hi))
    . exact xN (congrArg Prod.fst (f4 hi)) (congrArg Prod.snd (f4 hi))
  refine Xe (CA F.mf F.h) (YM F) (s6 0) 3 rfl rfl (fun kk=>p6n3 F a b k v th kk) ?_
  exact finN rfl
end
end Go.Vm.YtkjjpmbpjfmbcaaGreatDoor.B

namespace Go.Vm.YtkjjpmbpjfmbcaaGreatDoor
open Go.Proofs Go.Vm.R Go.Deep
noncomputable section
variable {H:Type}{enc:TypeId×Value->H}
inductive CellV:V->Value->Prop
  |int (z:Int):CellV (.int .i64 z) (.int .i64 z)
  |str (s:ByteArray):CellV (sv s.data.toList) (.string s)
theorem u22:Tryz.prog.underlying 22=some (.slice 31):=by kernel_rfl
theorem c31n:Tryz.prog.cellsOf 31=4:=by kernel_rfl
theorem c3n:Tryz.prog.cellsOf 3=1:=by kernel_rfl
theorem c9n:Tryz.prog.cellsOf 9=1:=by kernel_rfl
theorem pl31:XbJ Tryz.prog 8 31=true:=by kernel_rfl
set_option maxRecDepth 100000 in
theorem Xmc {w:World}{base:Nat}{sp:Nat->Bool}{hd:Bool}{fuel:Nat}{cs:List Value}{x:DataW H×List MemPlace} (h:DataW.trod enc Tryz.prog w base sp hd fuel 31 cs=some x) :
    ∃ (z:Int) (s1 s2 s3:ByteArray),cs=[.int .i64 z,.string s1,.string s2,.string s3]:=by
  obtain⟨xs,n,rfl,hx,hl,hxl,hall⟩:=DataW.trod_struct Tryz.underlying31 h;rw[c31n] at hl
  match cs,hl with
  |[c0,c1,c2,c3],_ =>
    match xs,hxl with
    |[y0,y1,y2,y3],_ =>
      have f0:DataW.trod enc Tryz.prog w base sp hd n 3 (([c0,c1,c2,c3].drop 0).take (Tryz.prog.cellsOf 3))=some y0:=hall 0 _ rfl
      have f1:DataW.trod enc Tryz.prog w base sp hd n 9 (([c0,c1,c2,c3].drop 1).take (Tryz.prog.cellsOf 9))=some y1:=hall 1 _ rfl
      have f2:DataW.trod enc Tryz.prog w base sp hd n 9 (([c0,c1,c2,c3].drop 2).take (Tryz.prog.cellsOf 9))=some y2:=hall 2 _ rfl
      have f3:DataW.trod enc Tryz.prog w base sp hd n 9 (([c0,c1,c2,c3].drop 3).take (Tryz.prog.cellsOf 9))=some y3:=hall 3 _ rfl
      rw[c3n] at f0;rw[c9n] at f1 f2 f3;obtain⟨z,e0,_⟩:=DataW.trod_int Tryz.underlying3 f0;obtain⟨s1,e1,_⟩:=DataW.trod_string Tryz.underlying9 f1;obtain⟨s2,e2,_⟩:=DataW.trod_string Tryz.underlying9 f2;obtain⟨s3,e3,_⟩:=DataW.trod_string Tryz.underlying9 f3
      simp at e0 e1 e2 e3
      exact⟨z,s1,s2,s3,by rw[e0,e1,e2,e3]⟩
theorem XgV (full:List RK.msg.T)(i:Nat)(hi:i<full.length)(x:Int×List UInt8×List UInt8×List UInt8)(hx:full[i]? = some x):∀ q:Nat,q<4->(rowV .msg full)[4*i+q]? = ([V.int .i64 x.1,sv x.2.1,sv x.2.2.1,sv x.2.2.2]:List V)[q]? := by
  induction full generalizing i with
  |nil=>simp at hi
  |cons y r ih =>
    intro q hq
    cases i with
    |zero =>
      have:y=x:=Option.some.inj hx
      subst this
      have h4:q=0∨q=1∨q=2∨q=3:=by omega
      rcases h4 with rfl | rfl | rfl | rfl<;>rfl
    |succ i =>
      have:=ih i (by simpa using hi) (by simpa using hx) q hq
      rw[show 4*(i+1)+q=(4*i+q)+4 by omega]
      exact this
set_option maxRecDepth 100000 in
theorem Xlv {W : World} {v : Value} {d : DataW H} {ps : List MemPlace} (h : DataW.Trod enc Tryz.prog W 0 (fun _ => true) true 22 v d ps) {base : Nat} (hval : Value.okWide Tryz.prog W .any base 22 v) :
    (v=.slice none 0 0/\∀ (W':World) (sp:Nat->Bool),DataW.Trod enc Tryz.prog W' 0 sp true 22 v d ps) ∨
    ∃ (a:Addr) (len cap:Nat) (full:List RK.msg.T) (cs:Array Value) (row:TypeId) (fr:Nat×Nat),v=.slice (some a) len cap/\a.spot=none/\len<=cap/\cap<=maxLen/\full.length=cap /\
      W.heap[a.block]? = some (.cells cs row fr)/\(∀ i v,(rowV .msg full)[i]? = some v->∃ x,cs[a.off+i]? = some x/\CellV v x) /\
      ∀ W',Kept W W'->∀ sp:Nat->Bool,(∀ p∈ps,sp p.block=true)->DataW.Trod enc Tryz.prog W' 0 sp true 22 v d ps:=by
  have hc:Cell.ok Tryz.prog W .any base 22 v:=by
    unfold Value.okWide at hval;rw[u22] at hval
    simp only at hval
    unfold Cell.okWide at hval;rw[u22] at hval;exact hval
  obtain⟨fuel,h⟩:=h
  rcases open_slice u22 h with ⟨hcs,hx⟩ | ⟨a,len,cap,m,n,D,Pl,hcs,_,hlc,hm,hmm,hx,hel⟩
  . left
    unfold Cell.ok at hc;rw[u22] at hc
    have hv:v=.slice none 0 0:=by
      cases v<;>first | exact hc.elim | skip
      rename_i a l c
      have:[Value.slice a l c]=[.slice none 0 0]:=hcs
      simpa using this
    refine⟨hv,fun W' sp=>⟨1,?_⟩⟩
    rw[hcs,hx];unfold DataW.trod;simp only[u22]
  . right
    have hm':m=cap:=hmm
    subst hm'
    have hv:v=.slice (some a) len m:=by
      unfold Cell.ok at hc;rw[u22] at hc
      cases v<;>first | exact hc.elim | skip
      rename_i a' l c
      have:[Value.slice a' l c]=[.slice (some a) len m]:=hcs
      simpa using this
    subst hv;unfold Cell.ok at hc;rw[u22] at hc;obtain⟨_,_,_,hspot,row,cells,hsh,_⟩:=hc
    obtain⟨cs,fr,hb⟩:∃ cs fr,W.heap[a.block]? = some (.cells cs row fr):=by
      unfold World.shape? at hsh;split at hsh
      . rename_i c el fr hb
        cases hsh
        exact⟨c,fr,hb⟩
      . cases hsh
    have hlt:a.block<W.heap.size:=(Array.getElem?_eq_some_iff.1 hb).1
    rw[c31n] at hel;obtain⟨S,hS⟩:=choose_lt (α:=Int×ByteArray×ByteArray×ByteArray) (n:=m) (p:=fun i s=>W.cells? 0 (a.add (i*4)) 4=some [.int .i64 s.1,.string s.2.1,.string s.2.2.1,.string s.2.2.2]/\DataW.trod enc Tryz.prog W 0 (fun _=>true) true n 31 [.int .i64 s.1,.string s.2.1,.string s.2.2.1,.string s.2.2.2]=some (D i,Pl i)) (fun i hi=>by
      obtain⟨cs',h1,h2⟩:=hel i hi;obtain⟨z,s1,s2,s3,rfl⟩:=Xmc h2
      exact⟨(z,s1,s2,s3),h1,h2⟩)
    have hcell:∀ i,i<m->∀ q:Nat,q<4->cs[a.off+(4*i+q)]? = ([Value.int .i64 (S i).1,.string (S i).2.1,.string (S i).2.2.1,.string (S i).2.2.2]:List Value)[q]? := by
      intro i hi q hq;obtain⟨_,_,h3⟩:=World.cells?_some (hS i hi).1
      have hadd:∀ j,a.add j=⟨a.block,a.off+j,none⟩:=by
        intro j;obtain⟨b,o,sp⟩:=a
        have:sp=none:=hspot
        subst this;exact WideShapes.add_plain b o j
      have c0:=h3 q hq;rw[hadd,WideShapes.add_plain] at c0;simp only[World.cell?,hb] at c0;rw[show a.off+(4*i+q)=a.off+i*4+q by omega]
      simpa using c0
    have ex:∃ full:List (Int×List UInt8×List UInt8×List UInt8),full.length=m/\∀ k,k<m->full[k]? = some ((S k).1,(S k).2.1.data.toList,(S k).2.2.1.data.toList,(S k).2.2.2.data.toList) :=
      ⟨(List.range m).map (fun i=>((S i).1,(S i).2.1.data.toList,(S i).2.2.1.data.toList,(S i).2.2.2.data.toList)),by simp,fun k hk=>by simp[hk]⟩
    obtain⟨full,hfl,hfg⟩:∃ full:List RK.msg.T,full.length=m/\∀ k,k<m->full[k]? = some ((S k).1,(S k).2.1.data.toList,(S k).2.2.1.data.toList,(S k).2.2.2.data.toList):=ex
    refine⟨a,len,m,full,cs,row,fr,rfl,hspot,hlc,hm,hfl,hb,?_,?_⟩
    . intro i v hiv
      have hlen:i<m*4:=by
        have:=(List.getElem?_eq_some_iff.1 hiv).1
        rw[Yo,hfl] at this;exact this
      have hk:i / 4<m:=by omega
      have hg:=XgV full (i / 4) (by rw[hfl]; exact hk) _ (hfg _ hk)
      have hcc:=hcell (i / 4) hk (i%4) (by omega)
      have hi4:4*(i / 4)+i%4=i:=by omega
      have hg:=hg (i%4) (by omega)
      rw[hi4] at hcc hg;rw[hg] at hiv
      generalize S (i / 4)=q at *
      have h4:i%4=0∨i%4=1∨i%4=2∨i%4=3:=by omega
      rcases h4 with h | h | h | h<;>rw[h] at hiv hcc<;>cases hiv
      . exact⟨_,hcc,.int _⟩
      . exact⟨_,hcc,.str _⟩
      . exact⟨_,hcc,.str _⟩
      . exact⟨_,hcc,.str _⟩
    · intro W' k sp hsp
      have hx1:=congrArg Prod.fst hx;have hx2:=congrArg Prod.snd hx
      simp only at hx1 hx2
      have hread:∀ i,i<m->∃ cs' n',W'.cells? 0 (a.add (i*Tryz.prog.cellsOf 31)) (Tryz.prog.cellsOf 31)=some cs'/\DataW.trod enc Tryz.prog W' 0 sp true n' 31 cs'=some (D i,Pl i):=by
        intro i hi;obtain⟨h1,h2⟩:=hS i hi
        refine⟨_,n,?_,(WW n 8 31 _ _ pl31 h2).1⟩
        rw[c31n];refine XfK k h1 ?_
        have:(a.add (i*4)).block=a.block:=by unfold Addr.add; split<;>rfl
        rw[this]; exact hlt
      rw[hx1,hx2]
      cases hs:sp a.block with
      |true=>exact shut_slice_whole u22 (Nat.zero_le _) hlc hm hs D Pl hread
      | false =>
        have h0:m=0:=by
          rcases Nat.eq_zero_or_pos m with h | h
          . exact h
          . exfalso
            have hmem:MemPlace.cell a.block a.off∈ps:=by
              rw[hx2,c31n];refine List.mem_append_left _ ?_
              unfold MemPlace.row;simp only[List.mem_map,List.mem_range]
              exact⟨0,by omega,by simp⟩
            have:=hsp _ hmem
            rw[show (MemPlace.cell a.block a.off).block=a.block from rfl,hs] at this
            cases this
        subst h0
        obtain rfl:len=0:=by omega
        exact shut_slice u22 (Nat.zero_le _) hlc hm hs D Pl (fun i hi=>absurd hi (by omega))
theorem XrS {W : World} {B : Base} {el : Nat → Nat} (hW : Zn B el W) (hB : B = []) (hother : ∃ g cs e fr, W.heap[g]? = some (.cells cs e fr) ∧ ∀ y ∈ B, y.1 ≠ g)
    {a:Addr}{len cap:Nat}{full:List RK.msg.T}{cs:Array Value}{row:TypeId}{fr:Nat×Nat} (hspot:a.spot=none) (hlc:len<=cap) (hfl:full.length=cap) (hb:W.heap[a.block]? = some (.cells cs row fr))
    (hc:∀ i v,(rowV .msg full)[i]? = some v->∃ x,cs[a.off+i]? = some x/\CellV v x) (n:Nat) :
    ∃ (p:Pl) (e z:Nat),RowAt W B p (rowV .msg full) e z/\∀ ρ h,ρ n=some p->VRel ρ h (R.toV (fun s=>n+s) (.rs 0 0 len cap 4 true)) (.slice (some a) len cap):=by
  have hlen:(rowV .msg full).length=cap*4:=by rw[Yo,hfl]; rfl
  rcases Nat.eq_zero_or_pos cap with h0 | h0
  . obtain⟨g,cs2,e2,fr2,hg,hne⟩:=hother
    refine⟨⟨g,0,cs2.size⟩,e2,fr2.2,⟨⟨cs2,fr2,hg,rfl,?_,?_,?_⟩,hne⟩,fun ρ h hρ=>?_⟩
    . rw[hlen,h0]; show 0+0*4<=cs2.size; omega
    . show fr2.2<=0+fr2.2; omega
    . intro i v hiv
      have:=(List.getElem?_eq_some_iff.1 hiv).1
      omega
    . subst h0
      obtain rfl:len=0:=by omega
      exact .sl (p:=⟨g,0,cs2.size⟩) hρ (Nat.le_refl _) (Nat.le_refl _) (fun _=>rfl) (fun h=>absurd h (Nat.lt_irrefl 0)) (by show 0+0*4+0*4<=cs2.size; omega)
  . have hlast:a.off+cap*4<=cs.size:=by
      have hi:cap*4-1<(rowV .msg full).length:=by omega
      obtain⟨s,hs,_⟩:=hc (cap*4-1) _ (List.getElem?_eq_getElem hi)
      have:=(Array.getElem?_eq_some_iff.1 hs).1
      omega
    refine⟨⟨a.block,a.off,cs.size⟩,row,fr.2,⟨⟨cs,fr,hb,rfl,?_,?_,?_⟩,?_⟩,fun ρ h hρ=>?_⟩
    . rw[hlen]; exact hlast
    . show fr.2<=a.off+fr.2; omega
    . intro i v hiv
      obtain⟨x,hs,hv⟩:=hc i v hiv
      refine⟨_,hs,?_⟩
      cases hv with
      |int z=>exact .int _ z
      |str s=>exact .str s
    . intro y hy
      rw[hB] at hy; cases hy
    . obtain⟨b,o,sp⟩:=a
      have:sp=none:=hspot
      subst this;refine .sl (p:=⟨b,o,cs.size⟩) hρ hlc (Nat.le_refl _) (fun _=>rfl) (fun _=>?_) ?_
      . show (⟨b,o,none⟩:Addr)=⟨b,o+0*4,none⟩
        rw[Nat.zero_mul,Nat.add_zero]
      . show o+0*4+cap*4<=cs.size
        have:o+cap*4<=cs.size:=hlast
        omega
end
end Go.Vm.YtkjjpmbpjfmbcaaGreatDoor

namespace Go.Vm.YtkjjpmbpjfmbcaaGreatDoor
open Go.Proofs Go.Vm.R Go.Deep
noncomputable section
theorem Xqn:∀ x∈base,x.1<Tryz.prog.globals.size:=fun x hx=>by cases hx
theorem Xvo (n:Nat)(h:n=7)(hlt:∀ x∈base,x.1<n):gl=Xbh n base hlt:=by subst h; rfl
theorem G_eq:C.G=Xbh Tryz.prog.globals.size base Xqn:=Xvo _ Xo _
theorem Xbt (el:Nat->Nat):meets (ZA Tryz.prog.globals.size base el) base=true:=rfl
theorem Xfi {W:World} (h:W.ShapedOpen Tryz.prog):∃ g cs e fr,W.heap[g]? = some (.cells cs e fr)/\∀ y∈base,y.1 ≠ g:=by
  have hr:(((begin Tryz.prog (fun _ _=>0) default).world.heap[1]?).bind Obj.row?).isSome=true:=by kernel_rfl
  obtain⟨⟨zero,t⟩,hr⟩:=Option.isSome_iff_exists.1 hr;obtain⟨cs,hc,_⟩:=h.1 1 zero t (by rw[Xo]; decide) hr
  exact⟨1,cs,t,_,hc,fun y hy=>by cases hy⟩
section
variable {H:Type}{enc:TypeId×Value->H}{w:World}{b0:Nat}{sp:Nat->Bool}{hd:Bool}{v:Value}{d:DataW H}{ps:List MemPlace}
theorem agg5 (h:v.cells.toList.length=5):∃ a b c d e,v=.agg #[a,b,c,d,e]:=by
  obtain⟨cs,rfl,hl⟩:=Vm.Xia (n:=3) h;obtain⟨l⟩:=cs
  match l,hl with
  |[a,b,c,d,e],_=>exact⟨a,b,c,d,e,rfl⟩
theorem c24n:Tryz.prog.cellsOf 24=5:=by kernel_rfl
theorem c4n:Tryz.prog.cellsOf 4=1:=by kernel_rfl
set_option maxRecDepth 100000 in
theorem Xr1 (h:DataW.Trod enc Tryz.prog w b0 sp hd 24 v d ps):∃ (s1 s2 s3 s4:ByteArray) (b:Bool),v=.agg #[.string s1,.string s2,.string s3,.string s4,.bool b]:=by
  obtain⟨fuel,hf⟩:=h;obtain⟨xs,n,rfl,hx,hl,hxl,hall⟩:=DataW.trod_struct Tryz.underlying24 hf;rw[c24n] at hl;obtain⟨v0,v1,v2,v3,v4,hv⟩:=agg5 hl;subst hv
  match xs,hxl with
  |[y0,y1,y2,y3,y4],_ =>
    have f0:DataW.trod enc Tryz.prog w b0 sp hd n 9 (([v0,v1,v2,v3,v4].drop 0).take (Tryz.prog.cellsOf 9))=some y0:=hall 0 _ rfl
    have f1:DataW.trod enc Tryz.prog w b0 sp hd n 9 (([v0,v1,v2,v3,v4].drop 1).take (Tryz.prog.cellsOf 9))=some y1:=hall 1 _ rfl
    have f2:DataW.trod enc Tryz.prog w b0 sp hd n 9 (([v0,v1,v2,v3,v4].drop 2).take (Tryz.prog.cellsOf 9))=some y2:=hall 2 _ rfl
    have f3:DataW.trod enc Tryz.prog w b0 sp hd n 9 (([v0,v1,v2,v3,v4].drop 3).take (Tryz.prog.cellsOf 9))=some y3:=hall 3 _ rfl
    have f4:DataW.trod enc Tryz.prog w b0 sp hd n 4 (([v0,v1,v2,v3,v4].drop 4).take (Tryz.prog.cellsOf 4))=some y4:=hall 4 _ rfl
    rw[c9n] at f0 f1 f2 f3;rw[c4n] at f4;obtain⟨s1,e1,_⟩:=DataW.trod_string Tryz.underlying9 f0;obtain⟨s2,e2,_⟩:=DataW.trod_string Tryz.underlying9 f1;obtain⟨s3,e3,_⟩:=DataW.trod_string Tryz.underlying9 f2;obtain⟨s4,e4,_⟩:=DataW.trod_string Tryz.underlying9 f3;obtain⟨b,e5,_⟩:=DataW.trod_bool Tryz.underlying4 f4
    simp at e1 e2 e3 e4 e5
    exact⟨s1,s2,s3,s4,b,by rw[e1,e2,e3,e4,e5]⟩
end
end
end Go.Vm.YtkjjpmbpjfmbcaaGreatDoor

namespace Go.Vm.YtkjjpmbpjfmbcaaGreatDoor
open Go.Proofs Go.Vm.R
noncomputable section
noncomputable def fld (i:Nat):Field:=match Tryz.prog.underlying 41 with
  | some (.struct fs) => fs.getD i ⟨"", 0, 0, false, "", "", 0⟩
  | _ => ⟨"", 0, 0, false, "", "", 0⟩
theorem XqJ {t:Nat} (h:Tryz.prog.underlying t=some (.slice 41)):EntT Tryz.prog t 41 where
  sl:=h
  two:=⟨fld 0,fld 1,(by kernel_rfl),(by kernel_rfl),(by kernel_rfl),(by kernel_rfl),(by kernel_rfl),(by kernel_rfl),(by kernel_rfl)⟩
  cells:=by kernel_rfl
  plain:=by kernel_rfl
end
end Go.Vm.YtkjjpmbpjfmbcaaGreatDoor

namespace Go.Vm.R
noncomputable section
variable {P:Program}
def XeY (n:Nat)(B:Base)(el:Nat->Nat)(x y:Obj):H:=⟨n+2,((Xam el B).set .dead n x).set .dead (n+1) y,n+2⟩
theorem WQ (n:Nat)(B:Base)(el:Nat->Nat)(x y:Obj)(o:Nat):(XeY n B el x y).get o=if n+1=o then y else if n=o then x else (Xam el B).get .dead o:=by
  show T.get _ (T.set _ (T.set _ _ _ _) _ _) _=_
  rw[T.get_set,T.get_set]
def WK (n:Nat)(B:Base)(p q:Pl):Rho:=fun o=>if o=n then some p else if o=n+1 then some q else rhoB B o
theorem XeX {W:World}{B:Base}{p:Pl}{cells:List V}{e z:Nat} (hp:RowAt W B p cells e z)(hc:wfs 0 cells)(ρ:Rho)(h:H):ORel ρ h W p (ob cells true e (some z)):=by
  obtain⟨cs,fr,h1,h2,h3,h4,h5⟩:=hp.lie
  refine⟨cs,fr,h1,h2,h3,(fun h=>nomatch h),fun i hi=>?_,h4⟩
  have hi:i<cells.length:=hi
  obtain⟨x,hx,hv⟩:=h5 i cells[i] (List.getElem?_eq_getElem hi)
  refine⟨x,hx,?_⟩
  rw[WJ hi,List.getD_eq_getElem?_getD,List.getElem?_eq_getElem hi];exact Ya _ _ ((XX 0 cells).1 hc _ (List.getElem_mem hi)) hv
theorem Xje {n:Nat}{B:Base} (hB:BaseOk n B) {el:Nat->Nat}{W:World} (hW:Zn B el W) {o:Nat}{p:Pl} (h:rhoB B o=some p)(ρ:Rho)(hh:H):ORel ρ hh W p ((Xam el B).get .dead o):=by
  have ho:=(XaU hB hW).obj o p h;obtain⟨l,hm,_,hg⟩:=Y2 (el:=el) h
  have e2:(ZA n B el).get o=(Xam el B).get .dead o:=rfl
  rw[e2] at ho;rw[hg] at ho ⊢;obtain⟨cs,fr,h1,h2,h3,h4,h5,h6⟩:=ho
  refine⟨cs,fr,h1,h2,h3,h4,fun i hi=>?_,h6⟩
  obtain⟨x,hx,hv⟩:=h5 i hi
  refine⟨x,hx,?_⟩
  have hi':i<l.length:=hi
  rw[XK,if_pos ⟨Nat.zero_le _,by omega⟩] at hv ⊢
  refine Ya _ _ ?_ hv;rw[List.getD_eq_getElem?_getD,List.getElem?_eq_getElem (by omega)]
  exact (XX 0 l).1 (hB.wf _ hm) _ (List.getElem_mem _)
theorem Xlp {n : Nat} {B : Base} (hB : BaseOk n B) {el : Nat → Nat} {W : World} (hW : Zn B el W) {p q : Pl} {c0 c1 : List V} {e0 z0 e1 z1 : Nat} (hp : RowAt W B p c0 e0 z0) (hq : RowAt W B q c1 e1 z1) (h0 : wfs 0 c0) (h1 : wfs 0 c1) :
    HRel (WK n B p q) (XeY n B el (ob c0 true e0 (some z0)) (ob c1 true e1 (some z1))) W:=by
  have hb:=XaU hB hW
  refine⟨fun o r h=>?_,fun o r h=>?_,fun o o' r r' h h' e=>?_⟩
  . unfold WK at h
    show o<n+2
    split at h
    . omega
    . split at h
      . omega
      . have:=hb.lt o r h
        have:o<n:=this
        omega
  . unfold WK at h
    rw[WQ];split at h
    . rename_i e1
      cases h;rw[if_neg (by omega),if_pos e1.symm]
      exact XeX hp h0 _ _
    . split at h
      . rename_i e1 e2
        cases h;rw[if_pos e2.symm];exact XeX hq h1 _ _
      . rename_i e1 e2
        rw[if_neg (fun e3=>e2 e3.symm),if_neg (fun e3=>e1 e3.symm)]
        exact Xje hB hW h _ _
  . unfold WK at h h'
    have low:∀ (o:Nat) (r:Pl),rhoB B o=some r->o<n+2:=fun o r hr=>by
      have:o<n:=hb.lt o r hr
      omega
    right
    show o<n+2/\o'<n+2
    constructor
    . split at h
      . omega
      . split at h
        . omega
        . exact low _ _ h
    . split at h'
      . omega
      . split at h'
        . omega
        . exact low _ _ h'
theorem Xlo {n : Nat} {B : Base} (hB : BaseOk n B) (el : Nat → Nat) {c0 c1 : List V} {e0 z0 e1 z1 : Nat} (h0 : wfs 0 c0) (h1 : wfs 0 c1) : wfh (XeY n B el (ob c0 true e0 (some z0)) (ob c1 true e1 (some z1))) := by
  have row:∀ (m:Nat) (cells:List V) (e z:Nat),wfs 0 cells->wfo m (ob cells true e (some z)):=by
    intro m cells e z hc i
    rcases Nat.lt_or_ge i cells.length with hi | hi
    . rw[WJ hi,List.getD_eq_getElem?_getD,List.getElem?_eq_getElem hi]
      exact YE (Nat.zero_le _) _ ((XX 0 cells).1 hc _ (List.getElem_mem hi))
    . show wf m ((Xp .lf 0 cells).get .bot i)
      rw[XK,if_neg (by omega),T.get_lf]
      trivial
  refine⟨Nat.le_refl _,fun o=>?_⟩
  rw[WQ]
  show wfo (n+2) _
  split
  . exact row _ _ _ _ h1
  . split
    . exact row _ _ _ _ h0
    . cases hr:rhoB B o with
      |none=>rw[XaH hr]; trivial
      |some q =>
        obtain⟨l,hm,_,hg⟩:=Y2 (el:=el) hr;rw[hg];intro i;exact YV (fun i=>by rw[T.get_lf]; trivial) (YH (Nat.zero_le _) _ (hB.wf _ hm)) 0 i
theorem XmA {n:Nat} (B:Base)(el:Nat->Nat)(p q:Pl)(x y:Obj):GRel n (WK n B p q) (XeY n B el x y):=by
  refine⟨Nat.le_add_right n 2,fun g hg=>?_⟩
  have e1:WK n B p q g=rhoB B g:=by
    unfold WK;rw[if_neg (by omega),if_neg (by omega)]
  have e2:(XeY n B el x y).get g=(ZA n B el).get g:=by rw[WQ,if_neg (by omega),if_neg (by omega)]; rfl
  rw[e1,e2];exact (Xd2 B el).2 g hg
theorem Xln (C:Ctx P) {B:Base}{hlt:∀ x∈B,x.1<P.globals.size} (hG:C.G=Xbh P.globals.size B hlt)(hB:BaseOk P.globals.size B)(hS:XM P C.O)(hm:∀ el,meets (ZA P.globals.size B el) B=true)
    {f T:Nat}{k0 k1:RK}{f0:List k0.T}{f1:List k1.T}{e0 z0 e1 z1:Nat}{l:List DV}{out:RD}{d:DH} (law:Xw C.G C.O C.tab f T [.r k0 f0 true ⟨e0,z0⟩,.r k1 f1 true ⟨e1,z1⟩] l out)
    (ho:(out.tree [.r k0 f0 true ⟨e0,z0⟩,.r k1 f1 true ⟨e1,z1⟩] 2 okK).ev=some (.bool true,d))
    {W:World}{el:Nat->Nat} (hW:Zn B el W) {p q:Pl} (hp:RowAt W B p (rowV k0 f0) e0 z0) (hq:RowAt W B q (rowV k1 f1) e1 z1) {vs:List Value}
    (hwf:wfs (P.globals.size+2) (toVs (fun s=>P.globals.size+s) l))
    (hvs:∀ ρ h,ρ P.globals.size=some p->ρ (P.globals.size+1)=some q->VRels ρ h (toVs (fun s=>P.globals.size+s) l) vs) :
    Calls P f vs.toArray W fun e W'=>e=.returned (.bool true)/\Kept W W':=by
  have hc0:wfs 0 (rowV k0 f0):=Xey 0 f0
  have hc1:wfs 0 (rowV k1 f1):=Xey 0 f1
  have R:Rep (fun s=>P.globals.size+s) (mkD [.r k0 f0 true ⟨e0,z0⟩,.r k1 f1 true ⟨e1,z1⟩] 2) (XeY P.globals.size B el (ob (rowV k0 f0) true e0 (some z0)) (ob (rowV k1 f1) true e1 (some z1))):=by
    have key:∀ s,Here ((mkD [.r k0 f0 true ⟨e0,z0⟩,.r k1 f1 true ⟨e1,z1⟩] 2).get s)->s=0∨s=1:=by
      intro s hs;rw[Wn] at hs
      match s,hs with
      |0,_=>exact .inl rfl
      |1,_=>exact .inr rfl
      |s+2,hs=>exact hs.elim
    refine⟨fun s hs=>?_,fun s hs=>?_,fun s s' hs hs' e=>?_,fun j=>?_,fun s hs hl=>?_⟩
    . rcases key s hs with rfl | rfl
      . rw[WQ,if_neg (by show ¬ P.globals.size+1=P.globals.size+0; omega),if_pos (Nat.add_zero _).symm]; rfl
      . rw[WQ,if_pos rfl]; rfl
    . rcases key s hs with rfl | rfl
      . exact⟨by show 0<2; omega,by show P.globals.size+0<P.globals.size+2; omega⟩
      . exact⟨by show 1<2; omega,by show P.globals.size+1<P.globals.size+2; omega⟩
    . have e:P.globals.size+s=P.globals.size+s':=e
      omega
    . show P.globals.size+(2+j)=P.globals.size+2+j
      omega
    . rcases key s hs with rfl | rfl
      . exact absurd hl (by show ¬ 2<=0; omega)
      . exact absurd hl (by show ¬ 2<=1; omega)
  have wh:=Xlo (z0:=z0) (z1:=z1) hB el hc0 hc1 (e0:=e0) (e1:=e1)
  have hj:C.G.J (XeY P.globals.size B el (ob (rowV k0 f0) true e0 (some z0)) (ob (rowV k1 f1) true e1 (some z1))):=by
    rw[hG]
    refine⟨Nat.le_add_right _ 2,Nat.le_add_right _ 2,Xag (fun x hx=>?_) (hm el)⟩
    have:=hlt x hx
    rw[WQ,if_neg (by omega),if_neg (by omega)]; rfl
  obtain⟨w,d',L',h',e1',_,_,hz⟩:=law T (Nat.le_refl _) okK _ _ R wh hj hwf _ ho
  have hw:w=.bool true:=congrArg Prod.fst (Option.some.inj hz)
  subst hw;have hrel:=Xlp hB hW hp hq hc0 hc1;obtain⟨_,hq'⟩:=soundO YI C.hX.good hS C.ht T f _ _ _ W vs hrel wh (XmA B el p q _ _) hwf (hvs _ _ (by unfold WK; rw[if_pos rfl]) (by unfold WK; rw[if_neg (by omega),if_pos rfl])) (by rw[e1']; intro h; cases h)
  rw[e1'] at hq';refine hq'.mono fun x W' he=>?_
  cases x with
  |returned x =>
    obtain⟨ρ',hv,hpo⟩:=he;rw[Yr hv]
    exact⟨rfl,hpo.fr.os,hpo.fr.output,fun B' hB'=>hpo.fr.old B' hB' fun o p h _=>hrel.lt o p h⟩
  |panicked ch=>exact he.elim
  |outgrown=>exact he.elim
end
end Go.Vm.R
