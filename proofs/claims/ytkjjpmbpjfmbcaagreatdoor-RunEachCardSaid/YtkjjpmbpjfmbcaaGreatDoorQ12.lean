/-
  What the laws of layer 16 stand over: the functions, the variable that one of them reads, and that the closing examples hold.
  few: may a list be gone through?
  The laws of few, Size, Same and Clone.
  The law of Clone; the table of the small ones.
  The law of Check.
  The laws of IndexFunc (with Get's closure).
  The laws of Get and copied.
  The order of texts; entries in order; where a key is to be found.
  The law of find: how many entries come before a key.
  Code cut behind some of its pieces: there the state is put in order.
  A function's code, piece by piece.
  The law of between: a list's head, what comes between, and its tail, in memory of its own.
  The context of run.Apply: what a message makes, told by a function that no run opens.
-/
import Derived.Test.YtkjjpmbpjfmbcaaGreatDoorQ11
set_option linter.unusedVariables false
set_option linter.unusedSimpArgs false
namespace Go.Vm.YtkjjpmbpjfmbcaaGreatDoor
open Go.Proofs Go.Vm.R
noncomputable section
theorem globals7:Tryz.prog.globals.size=7:=globals4
def z0:List Int:=[0,0,0,0,0,0,0,0,0,1,1,1,1,1,0,0,0,0,0,0,0,0,0,0,0,0,0,0,0,0,0,0,1,0,0,0,0,0,0,0,0,0,0,0,0,0,0,0,0,0,0,0,0,0,0,0,0,0,0,0,0,0,0,0,0,0,0,0,0,0,0,0,0,0,0,0,0,0,0,0,0,0,0,0,0,0,0,0,0,0,0,0,0,0,0,0,0,0,0,0,0,0,0,0,0,0,0,0,0,0,0,0,0,0,0,0,0,0,0,0,0,0,0,0,0,0,0,0,0,0,0,0,0,0,0,0,0,0,0,0,0,0,0,0,0,0,0,0,0,0,0,0,0,0,0,0,0,0,0,0,0,0,0,0,0,0,0,0,0,0,0,0,0,0,0,0,0,0,0,0,0,0,0,0,0,0,0,0,0,0,0,0,0,0,0,0,0,0,0,0,0,0,0,0,0,0,0,0,0,0,0,0,0,0,0,0,0,0,0,0,0,0,0,0,0,0,0,0,0,0,0,0,0,0,0,0,0,0,0,0,0,0,0,0,0,0,0,0,0,0,0,0,0,0,0,0]
def base:Base:=[(0,z0.map fun z=>.int .u8 z)]
set_option maxRecDepth 100000 in
theorem run33 (el:Nat->Nat):resIs isTrue (callOF noO (tabOf all) 1000 33 [] (baseH 7 base el))=true:=by kernel_rfl
theorem base_ok:BaseOk Tryz.prog.globals.size base:=by
  refine⟨fun x hx=>?_,fun x hx=>?_⟩
  . rcases List.mem_cons.1 hx with rfl | h
    . rw[globals7]; decide
    . cases h
  . rcases List.mem_cons.1 hx with rfl | h
    . exact wfs_ints 0 _ _
    . cases h
theorem call33:PlainCall Tryz.prog base 33 [] (.bool true):=by
  refine plain_of_run noTmps_ok noO_good noO_sim tab_ok (n:=1000) base_ok (fun el=>?_) trivial trivial
  rw[globals7,← callOF_eq]
  exact resIs_true (run33 el)
noncomputable def S33:Nat->List V->Option V:=fun f a=>match Nat.beq f 33,a with
  |true,[]=>some (.bool true)
  |_,_=>none
theorem S33_ok:∀ f a v,S33 f a=some v->PlainCall Tryz.prog base f a v:=by
  intro f a v h
  unfold S33 at h
  split at h
  . rename_i hb
    cases h
    rw[Nat.eq_of_beq_eq_true hb]
    exact call33
  . cases h
def checkM (op:Int) (k t v:Txt):PD:=.br (mayB op k t v) (.v (.int .i64 0)) (.v (.int .i64 4))
set_option maxRecDepth 10000 in
theorem tChk (op:Int) (k t v:Txt):treeOf laws10 tab [38] 7 200 38 [.agg [.int .i64 op,.str k,.str t,.str v]] =
    cond (!mayB op k t v) (some (DV.int .i64 4)) (some (DV.int .i64 0)):=by kernel_rfl
set_option maxRecDepth 10000 in
theorem tTch (op:Int) (k t v x:Txt):treeOf laws10 tab [40,78] 7 200 40 [.agg [.int .i64 op,.str k,.str t,.str v],.str x] =
    cond (mayB op k t v) (cond (decide (op=3)) (cond (!Op.bytesLess x k) (some (DV.bool (Op.bytesLess x t))) (some (DV.bool false))) (some (DV.bool (decide (x=k))))) (some (DV.bool false)):=by kernel_rfl
theorem law38 (op:Int) (k t v:Txt):treeOf laws10 tab [38] 7 200 38 [.agg [.int .i64 op,.str k,.str t,.str v]]=some (checkM op k t v).val:=by
  rw[tChk]
  unfold checkM
  cases mayB op k t v<;>rfl
theorem law40 (op:Int) (k t v x:Txt):treeOf laws10 tab [40,78] 7 200 40 [.agg [.int .i64 op,.str k,.str t,.str v],.str x]=some (.bool (touchB op k t v x)):=by
  rw[tTch]
  unfold touchB
  cases mayB op k t v<;>cases decide (op=3)<;>cases Op.bytesLess x k<;>cases Op.bytesLess x t<;>cases decide (x=k)<;>rfl
def gcheckM:List Vm.DV->Option PD:=fun l=>match l with
  |[.agg [.int .i64 op,.str k,.str t,.str v]]=>some (checkM op k t v)
  |_=>none
theorem gcheckM_ok:∀ l d,gcheckM l=some d->d.ok=true->PlainCall Tryz.prog [] 38 (Vm.toVs l) (Vm.toV d.val)/\Vm.ofVs (Vm.toVs l)=some l:=by
  intro l d h hk
  unfold gcheckM at h
  split at h
  . rename_i op k t v
    cases h
    exact⟨plain_by _ tab_ok globals4 (by kernel_rfl) (law38 op k t v) ⟨⟨trivial,trivial,trivial,trivial,trivial⟩,trivial⟩ (by unfold checkM; cases mayB op k t v<;>trivial),dec_msg op k t v⟩
  . cases h
theorem g40_ok:∀ l d,gtouch l=some d->d.ok=true->PlainCall Tryz.prog [] 40 (Vm.toVs l) (Vm.toV d.val)/\Vm.ofVs (Vm.toVs l)=some l:=by
  intro l d h hk
  unfold gtouch at h
  split at h
  . rename_i op k t v x
    cases h
    exact⟨plain_by _ tab_ok globals4 (by kernel_rfl) (law40 op k t v x) ⟨⟨trivial,trivial,trivial,trivial,trivial⟩,trivial,trivial⟩ trivial,by simp only[Vm.toVs,Vm.toV,Vm.ofVs,Vm.ofV,ofV_sv]⟩
  . cases h
def X:Laws Tryz.prog:=((lawsG applyM rfl).add 38 gcheckM gcheckM_ok).add 40 gtouch g40_ok
def O:Nat->List V->H->Res:=bothO (plainO base S33) X.O
theorem X33 (a:List V) (h:H):X.O 33 a h=.no:=X.O_no (by
  have:mem 33 X.dom=false:=by kernel_rfl
  intro hm
  rw[mem_iff.2 hm] at this; cases this) a h
theorem O_good:CallGood Tryz.prog.globals.size O:=bothO_good (plainO_good S33_ok) X.O_good
theorem O_sim:CallSim Tryz.prog O:=bothO_sim (plainO_sim S33_ok) X.O_sim
theorem S33_no {f:Nat} (hf:Nat.beq f 33=false) (a:List V) (h:H):plainO base S33 f a h=.no:=by
  have:S33 f a=none:=by
    unfold S33
    rw[hf]
  unfold plainO
  rw[this]
theorem above:Above X O:=⟨O_good,fun f a h v h' e=>by
  cases hf:Nat.beq f 33 with
  |true=>rw[Nat.eq_of_beq_eq_true hf,X33] at e; cases e
  |false =>
    show orElse (plainO base S33 f a h) (X.O f a h)=_
    rw[S33_no hf]
    exact e⟩
def kn:Nat->Bool:=fun f=>Nat.beq f 33||X.dom.any (Nat.beq f)
theorem kn_no:∀ f,kn f=false->∀ a h,O f a h=.no:=by
  intro f hf a h
  have hf:(Nat.beq f 33||X.dom.any (Nat.beq f))=false:=hf
  rw[Bool.or_eq_false_iff] at hf
  show orElse (plainO base S33 f a h) (X.O f a h)=.no
  rw[S33_no hf.1]
  refine X.O_no (fun hm=>?_) a h
  have:X.dom.any (Nat.beq f)=true:=List.any_eq_true.2 ⟨f,hm,Nat.beq_refl f⟩
  rw[this] at hf; cases hf.2
noncomputable def kd:Kd:=⟨fun el=>match Nat.beq el 41 with
  |true=>some .ent
  |false=>match Nat.beq el 31 with
    |true=>some .msg
    |false=>match Nat.beq el 5 with
      |true=>some .byte
      |false=>none,fun _=>none⟩
noncomputable def gl:Gl:=glBase 7 base (fun x hx=>by
  rcases List.mem_cons.1 hx with rfl | h
  . decide
  . cases h)
noncomputable def C:Ctx Tryz.prog:=⟨X,gl,globals7.symm,O,above,tab,tab_ok,kn,kn_no,kd⟩
theorem law33:LawOk C.G C.O C.tab 33 0 [] [] (.v (.bool true) []):=by
  intro n _ k L h R w j hw
  have hO:O 33 [] h=.ok (.bool true) h:=by
    show orElse (plainO base S33 33 [] h) _=_
    have:plainO base S33 33 [] h=.ok (.bool true) h:=by
      unfold plainO
      rw[show S33 33 []=some (.bool true) from rfl]
      simp only[j.2.2]
    rw[this]; rfl
  exact tells_step (L':=L) (callO_of (tab:=tab) hO n) R (.refl (Nat.le_refl _))
noncomputable def g33:List R.DV->List R.DO->Option RD:=fun l ao=>match l,ao with
  |[],[]=>some (.v (.bool true) [])
  |_,_=>none
noncomputable def Y0:C.RL:=(RLaws.none C.G C.O C.tab).add 33 0 g33 (fun l ao out h=>by
  unfold g33 at h
  split at h
  . cases h; exact law33
  . cases h)
abbrev Ent:=List UInt8×List UInt8
def okS (full:List Ent) (j n:Nat) (z:Int):Bool:=decide (0<=z/\z<=n/\j+n<=full.length/\n<9223372036854775808)
theorem okS_iff {full:List Ent}{j n:Nat}{z:Int}:okS full j n z=true<->(0<=z/\z<=n/\j+n<=full.length/\n<9223372036854775808):=by simp[okS]
def rec (full:List Ent) (j:Nat) (z:Int):Ent:=full.getD (j+z.toNat) ([],[])
def shortL (full:List Ent) (j n:Nat):Nat->Int->Bool
  |0,_=>true
  |m+1,z=>cond (decide (z<n)) (cond (decide (z<70)) (cond (decide (300<((rec full j z).1.length:Int))) false (cond (decide (300<((rec full j z).2.length:Int))) false (shortL full j n m (z+1)))) true) true
theorem shortL_succ (full:List Ent) (j n m:Nat) (z:Int):shortL full j n (m+1) z=cond (decide (z<n)) (cond (decide (z<70)) (cond (decide (300<((rec full j z).1.length:Int))) false (cond (decide (300<((rec full j z).2.length:Int))) false (shortL full j n m (z+1)))) true) true:=rfl
def b31:CC:=lp (bl (at3 (fl (at3 c31.body))))
def lt31 (j n c:Nat) (ex:Bool) (z:Int) (full:List Ent) (sp:Bool) (el:R.EL):LT:=.need (okS full j n z&&decide (z<=70)) (.br (shortL full j n (71-z.toNat) z) (.exit 0 [.rs 0 j n c 2 ex] [.r .ent full sp el]) (.ret [.bool false] [.r .ent full sp el]))
def ld31:LoopD:=⟨[(0,none),(3,none)],[(0,none)],[(2,none)],fun vs ao=>match vs,ao with
  |[.rs 0 j n c 2 ex,.int .i64 z],[.r .ent full sp el]=>some (71-z.toNat,lt31 j n c ex z full sp el)
  |_,_=>none⟩
theorem turn31 (j n c:Nat) (ex:Bool) (z:Int) (full:List Ent) (sp:Bool) (el:R.EL) (m:Nat) (rd k1:R.EK) (y:List (Nat×R.EK)) :
    (turnD C Y0 (fun _=>none) 100 33 1 0 b31 ld31 m [.rs 0 j n c 2 ex,.int .i64 z] [.r .ent full sp el] rd k1 y).ev =
    cond (decide (z<(↑n:Int))) (cond (decide (z<70)) (cond (decide (0<=z)&&decide (Int.toNat z<n)) (cond (Nat.blt (j+Int.toNat z) full.length) (cond (decide (300<(↑(List.length (Prod.fst (List.getD full (j+Int.toNat z) (RK.zero RK.ent)))):Int))) ((rd (envZ [2] [R.DV.bool false]) (mkD [DO.r RK.ent full sp el] 1)).ev) (cond (decide (0<=z)&&decide (Int.toNat z<n)) (cond (Nat.blt (j+Int.toNat z) full.length) (cond (decide (300<(↑(List.length (Prod.snd (List.getD full (j+Int.toNat z) (RK.zero RK.ent)))):Int))) ((rd (envZ [2] [R.DV.bool false]) (mkD [DO.r RK.ent full sp el] 1)).ev) (cond (decide (71-Int.toNat (IntKind.wrap .i64 (z+1))<m)) (cond (okS full j n (IntKind.wrap .i64 (z+1))&&decide (IntKind.wrap .i64 (z+1)<=70)) (cond (shortL full j n (71-Int.toNat (IntKind.wrap .i64 (z+1))) (IntKind.wrap .i64 (z+1))) ((k1 (envZ [0] [R.DV.rs 0 j n c 2 ex]) (mkD [DO.r RK.ent full sp el] 1)).ev) ((rd (envZ [2] [R.DV.bool false]) (mkD [DO.r RK.ent full sp el] 1)).ev)) none) none)) none) none)) none) none) ((k1 (envZ [0] [R.DV.rs 0 j n c 2 ex]) (mkD [DO.r RK.ent full sp el] 1)).ev)) ((k1 (envZ [0] [R.DV.rs 0 j n c 2 ex]) (mkD [DO.r RK.ent full sp el] 1)).ev):=by kernel_rfl
theorem step31 (j n c : Nat) (ex : Bool) (z : Int) (full : List Ent) (sp : Bool) (el : R.EL) (rd k1 : R.EK) (y : List (Nat × R.EK)) (w : R.DV × R.DH) (hw : ((lt31 j n c ex z full sp el).tree 1 ld31 rd ((0, k1) :: y)).ev = some w) :
    (turnD C Y0 (fun _=>none) 100 33 1 0 b31 ld31 (71-z.toNat) [.rs 0 j n c 2 ex,.int .i64 z] [.r .ent full sp el] rd k1 y).ev=some w:=by
  replace hw:=lt_need hw
  obtain⟨hp,hw⟩:=hw
  simp only[Bool.and_eq_true,decide_eq_true_eq] at hp
  obtain⟨hp,hz⟩:=hp
  obtain⟨p0,p1,p2,p3⟩:=okS_iff.1 hp
  rw[turn31]
  rw[lt_br] at hw
  replace hw:cond (shortL full j n (71-z.toNat) z) ((k1 (envZ [0] [R.DV.rs 0 j n c 2 ex]) (mkD [DO.r RK.ent full sp el] 1)).ev) ((rd (envZ [2] [R.DV.bool false]) (mkD [DO.r RK.ent full sp el] 1)).ev)=some w:=hw
  rw[show 71-z.toNat=(70-z.toNat)+1 by omega,shortL_succ] at hw
  by_cases h1:z<n
  . rw[cT h1] at hw ⊢
    by_cases h2:z<70
    . rw[cT h2] at hw ⊢
      have b1:z.toNat<n:=by omega
      rw[cA p0 b1,cB (show j+z.toNat<full.length by omega),cA p0 b1,cB (show j+z.toNat<full.length by omega),nextI p0 h1 p3]
      by_cases h3:300<((rec full j z).1.length:Int)
      . rw[cT h3] at hw
        exact (cT h3).trans hw
      . rw[cF h3] at hw
        refine (cF h3).trans ?_
        by_cases h4:300<((rec full j z).2.length:Int)
        . rw[cT h4] at hw
          exact (cT h4).trans hw
        . rw[cF h4] at hw
          refine (cF h4).trans ?_
          rw[cT (by omega),show 71-(z+1).toNat=70-z.toNat by omega,(show okS full j n (z+1)=true from okS_iff.2 (by omega)),(show (decide (z+1<=70))=true by simp; omega)]
          exact hw
    . rw[cF h2] at hw ⊢
      exact hw
  . rw[cF h1] at hw ⊢
    exact hw
theorem loop31 {n:Nat} (hn:100<=n):LoopOk C.G 1 (callO noTmps C.O C.tab n) n 100 33 0 b31 ld31:=by
  refine loop_of C Y0 (lh:=fun _=>none) hn ?_ (fun p _ ld h=>by cases h) ?_
  . exact wf_lp (wf_bl (wf_at3 (wf_fl (wf_at3 (wf_body (f:=31) rfl)))))
  intro vs ao m t hs rd k1 y w hw
  unfold ld31 at hs
  simp only at hs
  split at hs
  case h_2=>cases hs
  cases hs
  exact step31 _ _ _ _ _ _ _ _ _ _ _ _ hw
def seg (full:List Ent) (j n:Nat):List Ent:=(full.drop j).take n
theorem seg_len {full:List Ent}{j n:Nat} (h:j+n<=full.length):(seg full j n).length=n:=by
  simp[seg]; omega
theorem seg_drop {full:List Ent}{j n:Nat}{z:Int} (h:j+n<=full.length) (h0:0<=z) (h1:z<n):(seg full j n).drop z.toNat=rec full j z::(seg full j n).drop (z+1).toNat:=by
  have hl:=seg_len h
  rw[show (z+1).toNat=z.toNat+1 by omega,List.drop_eq_getElem_cons (by omega)]
  congr 1
  have:(seg full j n)[z.toNat]? = full[j+z.toNat]? := by
    unfold seg
    rw[List.getElem?_take_of_lt (by omega),List.getElem?_drop]
  unfold rec
  rw[List.getD_eq_getElem?_getD,← this,List.getElem?_eq_getElem (by omega)]; rfl
theorem seg_end {full:List Ent}{j n:Nat}{z:Int} (h:j+n<=full.length) (h1:¬ z<n) (h0:0<=z):(seg full j n).drop z.toNat=[]:=by
  have hl:=seg_len h
  exact List.drop_eq_nil_of_le (by omega)
def shortE (e:Ent):Bool:=!decide (300<(e.1.length:Int))&&!decide (300<(e.2.length:Int))
def fewL (l:List Ent):Bool:=l.all shortE&&decide ((l.length:Int)<=60)
theorem shortL_all {full:List Ent}{j n:Nat} (hj:j+n<=full.length) (hn:n<=60):∀ (m:Nat) (z:Int),0<=z->z<=n->n<m+z->shortL full j n m z=((seg full j n).drop z.toNat).all shortE
  |0,z,h0,h1,h2=>by omega
  |m+1,z,h0,h1,h2=>by
    rw[shortL_succ]
    by_cases h3:z<n
    . rw[cT h3,cT (show z<70 by omega),seg_drop hj h0 h3,List.all_cons,← shortL_all hj hn m (z+1) (by omega) (by omega) (by omega)]
      unfold shortE
      cases decide (300<((rec full j z).1.length:Int))<;>cases decide (300<((rec full j z).2.length:Int))<;>rfl
    . rw[cF h3,seg_end hj h3 h0]; rfl
theorem few_eq {full:List Ent}{j n:Nat} (hj:j+n<=full.length):cond (shortL full j n 71 0) (decide ((n:Int)<=60)) false=fewL (seg full j n):=by
  unfold fewL
  rw[seg_len hj]
  by_cases hn:n<=60
  . rw[shortL_all hj hn 71 0 (by omega) (by omega) (by omega)]
    show cond ((seg full j n).all shortE) _ _=_
    cases (seg full j n).all shortE<;>rfl
  . rw[show decide ((n:Int)<=60)=false by simp; omega,Bool.and_false]
    cases shortL full j n 71 0<;>rfl
def out31 (full:List Ent) (j n:Nat):RD:=.need (okS full j n 0) (.v (.bool (fewL (seg full j n))) [])
theorem run31 (j n c:Nat) (ex:Bool) (full:List Ent) (sp:Bool) (el:R.EL):runD C Y0 (lhX ld31) 100 c31 [.rs 0 j n c 2 ex] [.r .ent full sp el] =
    cond (okS full j n 0&&true) (cond (shortL full j n 71 0) (some (R.DV.bool (decide ((↑n:Int)<=60)),(mkD [DO.r RK.ent full sp el] 1))) (some (R.DV.bool false,(mkD [DO.r RK.ent full sp el] 1)))) none:=by kernel_rfl
theorem law31 (j n c:Nat) (ex:Bool) (full:List Ent) (sp:Bool) (el:R.EL):LawOk C.G C.O C.tab 31 101 [.r .ent full sp el] [.rs 0 j n c 2 ex] (out31 full j n):=by
  refine law_of C Y0 (lhX ld31) rfl rfl (fun n hn=>lhX_ok (Q:=fun i b ld=>LoopOk C.G 1 (callO noTmps C.O C.tab n) n 100 33 i b ld) rfl (loop31 hn)) fun z hz=>?_
  obtain⟨hp,hz⟩:=R.ev_need hz
  refine (run31 j n c ex full sp el).trans ?_
  rw[hp]
  have:=few_eq (okS_iff.1 hp).2.2.1
  cases hs:shortL full j n 71 0<;>rw[hs] at this<;>(refine Eq.trans ?_ hz)<;>show some _=some _<;>rw[← this]<;>rfl
theorem law31n:LawOk C.G C.O C.tab 31 101 [] [.nils] (.v (.bool true) []):=by
  refine law_of C Y0 (fun _=>none) rfl rfl (fun n hn p _ ld e=>by cases e) fun z hz=>?_
  refine Eq.trans ?_ hz
  kernel_rfl
def size1 (e:Ent):Int:=(e.1.length:Int)+(e.2.length:Int)+4
def sizeL:List Ent->Int
  |[]=>0
  |e::r=>size1 e+sizeL r
theorem size1_pos (e:Ent):0<size1 e:=by unfold size1; omega
theorem sizeL_nn:∀ l,0<=sizeL l
  |[]=>Int.le_refl _
  |e::r=>by have:=sizeL_nn r; have:=size1_pos e; show 0<=size1 e+sizeL r; omega
def okN (full:List Ent) (j n:Nat):Bool:=decide (j+n<=full.length/\n<99)
theorem okN_iff {full:List Ent}{j n:Nat}:okN full j n=true<->(j+n<=full.length/\n<99):=by simp[okN]
def b50:CC:=lp (bl (at3 (fl (at3 c50.body))))
def P50 (j n:Nat) (full:List Ent) (n' s z:Int):Bool:=decide (n'=n/\j+n<=full.length/\n<99/\0<=z/\z<=n/\0<=s/\s+sizeL ((seg full j n).drop z.toNat)<1152921504606846976)
def S50 (j n:Nat) (full:List Ent) (s z:Int):Int:=s+sizeL ((seg full j n).drop z.toNat)
def lt50 (j n c:Nat) (ex:Bool) (s n' z:Int) (full:List Ent) (sp:Bool) (el:R.EL):LT:=.need (P50 j n full n' s z) (.exit 0 [.int .i64 (S50 j n full s z)] [.r .ent full sp el])
def ld50:LoopD:=⟨[(2,none),(5,none),(6,none),(7,none)],[(2,none)],[],fun vs ao=>match vs,ao with
  |[.int .i64 s,.rs 0 j n c 2 ex,.int .i64 n',.int .i64 z],[.r .ent full sp el]=>some (n-z.toNat,lt50 j n c ex s n' z full sp el)
  |_,_=>none⟩
theorem turn50 (j n c:Nat) (ex:Bool) (s n' z:Int) (full:List Ent) (sp:Bool) (el:R.EL) (m:Nat) (rd k1:R.EK) (y:List (Nat×R.EK)) :
    (turnD C Y0 (fun _=>none) 100 23 1 0 b50 ld50 m [.int .i64 s,.rs 0 j n c 2 ex,.int .i64 n',.int .i64 z] [.r .ent full sp el] rd k1 y).ev =
    cond (decide (z<n')) (cond (decide (0<=z)&&decide (Int.toNat z<n)) (cond (Nat.blt (j+Int.toNat z) full.length) (cond (decide (n-Int.toNat (IntKind.wrap .i64 (z+1))<m)) (cond (P50 j n full n' (IntKind.wrap .i64 (s+IntKind.wrap .i64 (IntKind.wrap .i64 ((↑(List.length (Prod.fst (List.getD full (j+Int.toNat z) (RK.zero RK.ent)))):Int)+(↑(List.length (Prod.snd (List.getD full (j+Int.toNat z) (RK.zero RK.ent)))):Int))+4))) (IntKind.wrap .i64 (z+1))) ((k1 (envZ [2] [R.DV.int .i64 (S50 j n full (IntKind.wrap .i64 (s+IntKind.wrap .i64 (IntKind.wrap .i64 ((↑(List.length (Prod.fst (List.getD full (j+Int.toNat z) (RK.zero RK.ent)))):Int)+(↑(List.length (Prod.snd (List.getD full (j+Int.toNat z) (RK.zero RK.ent)))):Int))+4))) (IntKind.wrap .i64 (z+1)))]) (mkD [DO.r RK.ent full sp el] 1)).ev) none) none) none) none) ((k1 (envZ [2] [R.DV.int .i64 s]) (mkD [DO.r RK.ent full sp el] 1)).ev):=by kernel_rfl
theorem step50 (j n c:Nat) (ex:Bool) (s n' z:Int) (full:List Ent) (sp:Bool) (el:R.EL) (rd k1:R.EK) (y:List (Nat×R.EK)) (w:R.DV×R.DH) (hw:((lt50 j n c ex s n' z full sp el).tree 1 ld50 rd ((0,k1)::y)).ev=some w) :
    (turnD C Y0 (fun _=>none) 100 23 1 0 b50 ld50 (n-z.toNat) [.int .i64 s,.rs 0 j n c 2 ex,.int .i64 n',.int .i64 z] [.r .ent full sp el] rd k1 y).ev=some w:=by
  replace hw:=lt_need hw
  obtain⟨hp,hw⟩:=hw
  have hp':=hp
  simp only[P50,decide_eq_true_eq] at hp
  obtain⟨rfl,p1,p2,p3,p4,p5,p6⟩:=hp
  replace hw:(k1 (envZ [2] [R.DV.int .i64 (S50 j n full s z)]) (mkD [DO.r RK.ent full sp el] 1)).ev=some w:=hw
  rw[turn50]
  unfold S50 at hw
  by_cases h1:z<n
  . have b1:z.toNat<n:=by omega
    have e:=seg_drop p1 p3 h1
    rw[e] at hw p6
    have q1:=sizeL_nn ((seg full j n).drop (z+1).toNat)
    have q2:sizeL (rec full j z::(seg full j n).drop (z+1).toNat)=size1 (rec full j z)+sizeL ((seg full j n).drop (z+1).toNat):=rfl
    rw[q2] at hw p6
    have q3:size1 (rec full j z)=((rec full j z).1.length:Int)+((rec full j z).2.length:Int)+4:=rfl
    rw[cT h1,cA p3 b1,cB (show j+z.toNat<full.length by omega),nextI p3 h1 (by omega),cT (by omega)]
    have e1:IntKind.wrap .i64 (((rec full j z).1.length:Int)+((rec full j z).2.length:Int))=((rec full j z).1.length:Int)+((rec full j z).2.length:Int):=wrap_i64 (by omega) (by omega)
    have e2:IntKind.wrap .i64 (((rec full j z).1.length:Int)+((rec full j z).2.length:Int)+4)=size1 (rec full j z):=wrap_i64 (by omega) (by omega)
    have e3:IntKind.wrap .i64 (s+size1 (rec full j z))=s+size1 (rec full j z):=wrap_i64 (by omega) (by omega)
    have e4:P50 j n full n (s+size1 (rec full j z)) (z+1)=true:=by
      simp only[P50,decide_eq_true_eq]
      refine⟨trivial,p1,p2,?_,?_,?_,?_⟩<;>omega
    show cond (P50 j n full n (IntKind.wrap .i64 (s+IntKind.wrap .i64 (IntKind.wrap .i64 (((rec full j z).1.length:Int)+((rec full j z).2.length:Int))+4))) (z+1)) (k1 (envZ [2] [R.DV.int .i64 (S50 j n full (IntKind.wrap .i64 (s+IntKind.wrap .i64 (IntKind.wrap .i64 (((rec full j z).1.length:Int)+((rec full j z).2.length:Int))+4))) (z+1))]) (mkD [DO.r RK.ent full sp el] 1)).ev none=some w
    rw[e1,e2,e3,e4]
    unfold S50
    rw[show s+size1 (rec full j z)+sizeL ((seg full j n).drop (z+1).toNat)=s+(size1 (rec full j z)+sizeL ((seg full j n).drop (z+1).toNat)) by omega]
    exact hw
  . rw[cF h1]
    rw[seg_end p1 h1 p3,show s+sizeL []=s by simp[sizeL]] at hw
    exact hw
theorem loop50 {n:Nat} (hn:100<=n):LoopOk C.G 1 (callO noTmps C.O C.tab n) n 100 23 0 b50 ld50:=by
  refine loop_of C Y0 (lh:=fun _=>none) hn ?_ (fun p _ ld h=>by cases h) ?_
  . exact wf_lp (wf_bl (wf_at3 (wf_fl (wf_at3 (wf_body (f:=50) rfl)))))
  intro vs ao m t hs rd k1 y w hw
  unfold ld50 at hs
  simp only at hs
  split at hs
  case h_2=>cases hs
  cases hs
  exact step50 _ _ _ _ _ _ _ _ _ _ _ _ _ _ hw
def okZ (full:List Ent) (j n:Nat):Bool:=decide (j+n<=full.length/\n<99/\sizeL (seg full j n)<1152921504606846976)
def out50 (full:List Ent) (j n:Nat):RD:=.need (okZ full j n) (.v (.int .i64 (sizeL (seg full j n))) [])
theorem run50 (j n c:Nat) (ex:Bool) (full:List Ent) (sp:Bool) (el:R.EL):runD C Y0 (lhX ld50) 100 c50 [.rs 0 j n c 2 ex] [.r .ent full sp el] =
    cond (decide (n-0<100)) (cond (P50 j n full (↑n:Int) 0 0) (some (R.DV.int .i64 (S50 j n full 0 0),(mkD [DO.r RK.ent full sp el] 1))) none) none:=by kernel_rfl
theorem law50 (j n c:Nat) (ex:Bool) (full:List Ent) (sp:Bool) (el:R.EL):LawOk C.G C.O C.tab 50 101 [.r .ent full sp el] [.rs 0 j n c 2 ex] (out50 full j n):=by
  refine law_of C Y0 (lhX ld50) rfl rfl (fun n hn=>lhX_ok (Q:=fun i b ld=>LoopOk C.G 1 (callO noTmps C.O C.tab n) n 100 23 i b ld) rfl (loop50 hn)) fun z hz=>?_
  obtain⟨hp,hz⟩:=R.ev_need hz
  refine (run50 j n c ex full sp el).trans ?_
  simp only[okZ,decide_eq_true_eq] at hp
  obtain⟨p1,p2,p3⟩:=hp
  have e4:P50 j n full n 0 0=true:=by
    simp only[P50,decide_eq_true_eq]
    refine⟨trivial,p1,p2,?_,?_,?_,?_⟩<;>first | omega | (show 0+sizeL (seg full j n)<_; omega)
  rw[cT (show n-0<100 by omega),e4]
  refine Eq.trans ?_ hz
  show some (R.DV.int .i64 (0+sizeL (seg full j n)),_)=some _
  rw[Int.zero_add]; rfl
theorem law50n:LawOk C.G C.O C.tab 50 101 [] [.nils] (.v (.int .i64 0) []):=by
  refine law_of C Y0 (fun _=>none) rfl rfl (fun n hn p _ ld e=>by cases e) fun z hz=>?_
  refine Eq.trans ?_ hz
  kernel_rfl
def b37:CC:=lp (bl (at3 (fl (at3 (at3 c37.body)))))
def P37 (j n:Nat) (full:List Ent) (j1 n1:Nat) (full1:List Ent) (n' z:Int):Bool:=decide (n'=n/\n1=n/\j+n<=full.length/\j1+n1<=full1.length/\n<99/\0<=z/\z<=n)
def S37 (j n:Nat) (full:List Ent) (j1 n1:Nat) (full1:List Ent) (z:Int):Bool:=decide ((seg full j n).drop z.toNat=(seg full1 j1 n1).drop z.toNat)
def lt37 (j n c:Nat) (ex:Bool) (j1 n1 c1:Nat) (ex1:Bool) (n' z:Int) (full full1:List Ent) (sp sp1:Bool) (el el1:R.EL):LT:=.need (P37 j n full j1 n1 full1 n' z) (.br (S37 j n full j1 n1 full1 z) (.exit 0 [] [.r .ent full sp el,.r .ent full1 sp1 el1]) (.ret [.bool false] [.r .ent full sp el,.r .ent full1 sp1 el1]))
def ld37:LoopD:=⟨[(0,none),(1,none),(12,none),(13,none)],[],[(4,none)],fun vs ao=>match vs,ao with
  |[.rs 0 j n c 2 ex,.rs 1 j1 n1 c1 2 ex1,.int .i64 n',.int .i64 z],[.r .ent full sp el,.r .ent full1 sp1 el1]=>some (n-z.toNat,lt37 j n c ex j1 n1 c1 ex1 n' z full full1 sp sp1 el el1)
  |_,_=>none⟩
theorem turn37 (j n c:Nat) (ex:Bool) (j1 n1 c1:Nat) (ex1:Bool) (n' z:Int) (full full1:List Ent) (sp sp1:Bool) (el el1:R.EL) (m:Nat) (rd k1:R.EK) (y:List (Nat×R.EK)) :
    (turnD C Y0 (fun _=>none) 100 26 2 0 b37 ld37 m [.rs 0 j n c 2 ex,.rs 1 j1 n1 c1 2 ex1,.int .i64 n',.int .i64 z] [.r .ent full sp el,.r .ent full1 sp1 el1] rd k1 y).ev =
    cond (decide (z<n')) (cond (decide (0<=z)&&decide (Int.toNat z<n)) (cond (Nat.blt (j+Int.toNat z) full.length) (cond (decide (0<=z)&&decide (Int.toNat z<n1)) (cond (Nat.blt (j1+Int.toNat z) full1.length) (cond ((decide (Prod.fst (List.getD full (j+Int.toNat z) (RK.zero RK.ent))=Prod.fst (List.getD full1 (j1+Int.toNat z) (RK.zero RK.ent)))&&(decide (Prod.snd (List.getD full (j+Int.toNat z) (RK.zero RK.ent))=Prod.snd (List.getD full1 (j1+Int.toNat z) (RK.zero RK.ent)))&&true)) != true) ((rd (envZ [4] [R.DV.bool false]) (mkD [DO.r RK.ent full sp el,DO.r RK.ent full1 sp1 el1] 2)).ev) (cond (decide (n-Int.toNat (IntKind.wrap .i64 (z+1))<m)) (cond (P37 j n full j1 n1 full1 n' (IntKind.wrap .i64 (z+1))) (cond (S37 j n full j1 n1 full1 (IntKind.wrap .i64 (z+1))) ((k1 (envZ [] []) (mkD [DO.r RK.ent full sp el,DO.r RK.ent full1 sp1 el1] 2)).ev) ((rd (envZ [4] [R.DV.bool false]) (mkD [DO.r RK.ent full sp el,DO.r RK.ent full1 sp1 el1] 2)).ev)) none) none)) none) none) none) none) ((k1 (envZ [] []) (mkD [DO.r RK.ent full sp el,DO.r RK.ent full1 sp1 el1] 2)).ev):=by kernel_rfl
theorem step37 (j n c:Nat) (ex:Bool) (j1 n1 c1:Nat) (ex1:Bool) (n' z:Int) (full full1:List Ent) (sp sp1:Bool) (el el1:R.EL) (rd k1:R.EK) (y:List (Nat×R.EK)) (w:R.DV×R.DH) (hw:((lt37 j n c ex j1 n1 c1 ex1 n' z full full1 sp sp1 el el1).tree 2 ld37 rd ((0,k1)::y)).ev=some w) :
    (turnD C Y0 (fun _=>none) 100 26 2 0 b37 ld37 (n-z.toNat) [.rs 0 j n c 2 ex,.rs 1 j1 n1 c1 2 ex1,.int .i64 n',.int .i64 z] [.r .ent full sp el,.r .ent full1 sp1 el1] rd k1 y).ev=some w:=by
  replace hw:=lt_need hw
  obtain⟨hp,hw⟩:=hw
  simp only[P37,decide_eq_true_eq] at hp
  obtain⟨rfl,rfl,p1,p2,p3,p4,p5⟩:=hp
  rw[lt_br] at hw
  replace hw:cond (S37 j n1 full j1 n1 full1 z) (k1 (envZ [] []) (mkD [DO.r RK.ent full sp el,DO.r RK.ent full1 sp1 el1] 2)).ev (rd (envZ [4] [R.DV.bool false]) (mkD [DO.r RK.ent full sp el,DO.r RK.ent full1 sp1 el1] 2)).ev=some w:=hw
  rw[turn37]
  by_cases h1:z<n1
  . have b1:z.toNat<n1:=by omega
    have e4:P37 j n1 full j1 n1 full1 n1 (z+1)=true:=by
      simp only[P37,decide_eq_true_eq]
      refine⟨trivial,trivial,p1,p2,p3,?_,?_⟩<;>omega
    rw[cT h1,cA p4 b1,cB (show j+z.toNat<full.length by omega),cA p4 b1,cB (show j1+z.toNat<full1.length by omega),nextI p4 h1 (by omega),cT (show n1-(z+1).toNat<n1-z.toNat by omega),e4]
    have e5:S37 j n1 full j1 n1 full1 z=((decide ((rec full j z).1=(rec full1 j1 z).1)&&(decide ((rec full j z).2=(rec full1 j1 z).2)&&true))&&S37 j n1 full j1 n1 full1 (z+1)):=by
      unfold S37
      rw[seg_drop p1 p4 h1,seg_drop p2 p4 h1]
      rw[Bool.eq_iff_iff]
      simp only[decide_eq_true_eq,Bool.and_eq_true,List.cons.injEq,and_true,Prod.ext_iff]
    rw[e5] at hw
    show cond ((decide ((rec full j z).1=(rec full1 j1 z).1)&&(decide ((rec full j z).2=(rec full1 j1 z).2)&&true)) != true) _ _=_
    revert hw
    cases (decide ((rec full j z).1=(rec full1 j1 z).1)&&(decide ((rec full j z).2=(rec full1 j1 z).2)&&true))<;>exact id
  . rw[cF h1]
    have e5:S37 j n1 full j1 n1 full1 z=true:=by
      unfold S37
      rw[seg_end p1 h1 p4,seg_end p2 h1 p4]; rfl
    rw[e5] at hw
    exact hw
theorem loop37 {n:Nat} (hn:100<=n):LoopOk C.G 2 (callO noTmps C.O C.tab n) n 100 26 0 b37 ld37:=by
  refine loop_of C Y0 (lh:=fun _=>none) hn ?_ (fun p _ ld h=>by cases h) ?_
  . exact wf_lp (wf_bl (wf_at3 (wf_fl (wf_at3 (wf_at3 (wf_body (f:=37) rfl))))))
  intro vs ao m t hs rd k1 y w hw
  unfold ld37 at hs
  simp only at hs
  split at hs
  case h_2=>cases hs
  cases hs
  exact step37 _ _ _ _ _ _ _ _ _ _ _ _ _ _ _ _ _ _ _ _ hw
def sameL (a b:List Ent):Bool:=decide (a=b)
def out37 (full:List Ent) (j n:Nat) (full1:List Ent) (j1 n1:Nat):RD:=.need (okN full j n&&okN full1 j1 n1) (.v (.bool (sameL (seg full j n) (seg full1 j1 n1))) [])
theorem run37 (j n c:Nat) (ex:Bool) (j1 n1 c1:Nat) (ex1:Bool) (full full1:List Ent) (sp sp1:Bool) (el el1:R.EL):runD C Y0 (lhX ld37) 100 c37 [.rs 0 j n c 2 ex,.rs 1 j1 n1 c1 2 ex1] [.r .ent full sp el,.r .ent full1 sp1 el1] =
    cond (!decide ((↑n:Int)=(↑n1:Int))) (some (R.DV.bool false,(mkD [DO.r RK.ent full sp el,DO.r RK.ent full1 sp1 el1] 2))) (cond (decide (n-0<100)) (cond (P37 j n full j1 n1 full1 (↑n:Int) 0) (cond (S37 j n full j1 n1 full1 0) (some (R.DV.bool true,(mkD [DO.r RK.ent full sp el,DO.r RK.ent full1 sp1 el1] 2))) (some (R.DV.bool false,(mkD [DO.r RK.ent full sp el,DO.r RK.ent full1 sp1 el1] 2)))) none) none):=by kernel_rfl
theorem law37 (j n c:Nat) (ex:Bool) (j1 n1 c1:Nat) (ex1:Bool) (full full1:List Ent) (sp sp1:Bool) (el el1:R.EL):LawOk C.G C.O C.tab 37 101 [.r .ent full sp el,.r .ent full1 sp1 el1] [.rs 0 j n c 2 ex,.rs 1 j1 n1 c1 2 ex1] (out37 full j n full1 j1 n1):=by
  refine law_of C Y0 (lhX ld37) rfl rfl (fun n hn=>lhX_ok (Q:=fun i b ld=>LoopOk C.G 2 (callO noTmps C.O C.tab n) n 100 26 i b ld) rfl (loop37 hn)) fun z hz=>?_
  obtain⟨hp,hz⟩:=R.ev_need hz
  refine (run37 j n c ex j1 n1 c1 ex1 full full1 sp sp1 el el1).trans ?_
  simp only[Bool.and_eq_true,okN_iff] at hp
  obtain⟨⟨p1,p2⟩,p3,p4⟩:=hp
  refine Eq.trans ?_ hz
  show _=some (R.DV.bool (sameL (seg full j n) (seg full1 j1 n1)),mkD [DO.r RK.ent full sp el,DO.r RK.ent full1 sp1 el1] 2)
  by_cases h:n=n1
  . subst h
    have e4:P37 j n full j1 n full1 n 0=true:=by
      simp only[P37,decide_eq_true_eq]
      refine⟨trivial,trivial,p1,p3,p2,?_,?_⟩<;>omega
    rw[show (!decide ((n:Int)=(n:Int)))=false by simp,cT (show n-0<100 by omega),e4]
    have e5:S37 j n full j1 n full1 0=sameL (seg full j n) (seg full1 j1 n):=rfl
    rw[e5]
    cases sameL (seg full j n) (seg full1 j1 n)<;>rfl
  . have e5:sameL (seg full j n) (seg full1 j1 n1)=false:=by
      unfold sameL
      rw[decide_eq_false_iff_not]
      intro he
      have:=congrArg List.length he
      rw[seg_len p1,seg_len p3] at this
      exact h this
    rw[show (!decide ((n:Int)=(n1:Int)))=true by simp; omega,e5]; rfl
theorem law37n:LawOk C.G C.O C.tab 37 101 [] [.nils,.nils] (.v (.bool true) []):=by
  refine law_of C Y0 (fun _=>none) rfl rfl (fun n hn p _ ld e=>by cases e) fun z hz=>?_
  refine Eq.trans ?_ hz
  kernel_rfl
theorem room_small {n:Nat} (h:n<99):roomFor n 32=true:=by
  unfold roomFor
  rw[Nat.ble_eq_true_of_le (by omega),Nat.ble_eq_true_of_le (by omega)]; rfl
def out69 (full:List Ent) (j n:Nat):RD:=.need (okN full j n) (.br (Nat.beq n 0) (.v (.rs 1 0 0 0 2 true) [.r .ent [] false 41]) (.v (.rs 1 0 n n 2 false) [.r .ent (seg full j n) true 41]))
theorem run69 (j n c:Nat) (ex:Bool) (full:List Ent) (sp:Bool) (el:R.EL):runD C Y0 (fun _=>none) 100 c69 [.rs 0 j n c 2 ex] [.r .ent full sp el] =
    cond (true&&Nat.ble (j+n) full.length) (cond (decide (0+List.length (List.take n (List.drop j full))<=0)) (cond (decide (List.length (List.take n (List.drop j full))=0)) (some (DV.rs 1 0 0 0 2 true,(mkD [DO.r RK.ent full sp el,DO.r RK.ent [] false 41] 1))) (cond (decide (0+List.length (List.take n (List.drop j full))<=0)) (some (DV.rs 1 0 (0+List.length (List.take n (List.drop j full))) 0 2 true,(mkD [DO.r RK.ent full sp el,DO.r RK.ent (List.take 0 []++List.take n (List.drop j full)++List.drop (0+List.length (List.take n (List.drop j full))) []) false 41] 1))) none)) (cond (roomFor (0+List.length (List.take n (List.drop j full))) 32&&true) (some (DV.rs 1 0 (0+List.length (List.take n (List.drop j full))) (0+List.length (List.take n (List.drop j full))) 2 false,(mkD [DO.r RK.ent full sp el,DO.r RK.ent (List.take 0 (List.drop 0 [])++List.take n (List.drop j full)) true 41] 1))) none)) none:=by kernel_rfl
theorem law69 (j n c:Nat) (ex:Bool) (full:List Ent) (sp:Bool) (el:R.EL):LawOk C.G C.O C.tab 69 101 [.r .ent full sp el] [.rs 0 j n c 2 ex] (out69 full j n):=by
  refine law_of C Y0 (fun _=>none) rfl rfl (fun n hn p _ ld e=>by cases e) fun z hz=>?_
  obtain⟨hp,hz⟩:=R.ev_need hz
  refine (run69 j n c ex full sp el).trans ?_
  obtain⟨p1,p2⟩:=okN_iff.1 hp
  have hl:=seg_len p1
  have hs:List.take n (List.drop j full)=seg full j n:=rfl
  have hb:Nat.ble (j+n) full.length=true:=Nat.ble_eq_true_of_le p1
  rw[hs,hl,hb,Nat.zero_add]
  refine Eq.trans ?_ hz
  show _=(R.Tree.br (Nat.beq n 0) (.ok (.rs 1 0 0 0 2 true) (mkD [DO.r RK.ent full sp el,DO.r RK.ent [] false 41] 1)) (.ok (.rs 1 0 n n 2 false) (mkD [DO.r RK.ent full sp el,DO.r RK.ent (seg full j n) true 41] 1))).ev
  rw[ev_br]
  cases n with
  |zero=>rfl
  |succ m =>
    rw[show roomFor (m+1) 32=true from room_small p2,cF (show ¬ m+1<=0 by omega)]; rfl
theorem law69n:LawOk C.G C.O C.tab 69 101 [] [.nils] (.v .nils []):=by
  refine law_of C Y0 (fun _=>none) rfl rfl (fun n hn p _ ld e=>by cases e) fun z hz=>?_
  refine Eq.trans ?_ hz
  kernel_rfl
def g31:List R.DV->List R.DO->Option RD:=fun l ao=>match l,ao with
  |[.rs 0 j n c 2 ex],[.r .ent full sp el]=>some (out31 full j n)
  |[.nils],[]=>some (.v (.bool true) [])
  |_,_=>none
def g50:List R.DV->List R.DO->Option RD:=fun l ao=>match l,ao with
  |[.rs 0 j n c 2 ex],[.r .ent full sp el]=>some (out50 full j n)
  |[.nils],[]=>some (.v (.int .i64 0) [])
  |_,_=>none
def g37:List R.DV->List R.DO->Option RD:=fun l ao=>match l,ao with
  |[.rs 0 j n c 2 ex,.rs 1 j1 n1 c1 2 ex1],[.r .ent full sp el,.r .ent full1 sp1 el1]=>some (out37 full j n full1 j1 n1)
  |[.nils,.nils],[]=>some (.v (.bool true) [])
  |_,_=>none
def g69:List R.DV->List R.DO->Option RD:=fun l ao=>match l,ao with
  |[.rs 0 j n c 2 ex],[.r .ent full sp el]=>some (out69 full j n)
  |[.nils],[]=>some (.v .nils [])
  |_,_=>none
theorem g31_ok (l:List R.DV) (ao:List R.DO) (out:RD) (h:g31 l ao=some out):LawOk C.G C.O C.tab 31 101 ao l out:=by
  unfold g31 at h
  split at h
  . cases h; exact law31 _ _ _ _ _ _ _
  . cases h; exact law31n
  . cases h
theorem g50_ok (l:List R.DV) (ao:List R.DO) (out:RD) (h:g50 l ao=some out):LawOk C.G C.O C.tab 50 101 ao l out:=by
  unfold g50 at h
  split at h
  . cases h; exact law50 _ _ _ _ _ _ _
  . cases h; exact law50n
  . cases h
theorem g37_ok (l:List R.DV) (ao:List R.DO) (out:RD) (h:g37 l ao=some out):LawOk C.G C.O C.tab 37 101 ao l out:=by
  unfold g37 at h
  split at h
  . cases h; exact law37 _ _ _ _ _ _ _ _ _ _ _ _ _ _
  . cases h; exact law37n
  . cases h
theorem g69_ok (l:List R.DV) (ao:List R.DO) (out:RD) (h:g69 l ao=some out):LawOk C.G C.O C.tab 69 101 ao l out:=by
  unfold g69 at h
  split at h
  . cases h; exact law69 _ _ _ _ _ _ _
  . cases h; exact law69n
  . cases h
def Y1:C.RL:=(((Y0.add 31 101 g31 g31_ok).add 50 101 g50 g50_ok).add 37 101 g37 g37_ok).add 69 101 g69 g69_ok
def rises:Option Ent->Ent->Bool
  |none,_=>true
  |some p,e=>Op.bytesLess p.1 e.1
def chkL:Option Ent->List Ent->Bool
  |_,[]=>true
  |p,e::r=>cond (decide (e.1=[])) false (cond (decide (108<(e.1.length:Int))) false (cond (decide (64<(e.2.length:Int))) false (cond (rises p e) (chkL (some e) r) false)))
def before (full:List Ent) (j:Nat) (z:Int):Option Ent:=if 0<z then some (rec full j (z-1)) else none
def b27:CC:=lp (bl (at3 (fl (at3 c27.body))))
def P27 (j n:Nat) (full:List Ent) (n' z:Int):Bool:=decide (n'=n/\j+n<=full.length/\n<99/\0<=z/\z<=n)
def S27 (j n:Nat) (full:List Ent) (z:Int):Bool:=chkL (before full j z) ((seg full j n).drop z.toNat)
def lt27 (j n c:Nat) (ex:Bool) (j1 n1 c1:Nat) (ex1:Bool) (n' z:Int) (full:List Ent) (sp:Bool) (el:R.EL):LT:=.need (Nat.beq j1 j&&(Nat.beq n1 n&&P27 j n full n' z)) (.br (S27 j n full z) (.exit 0 [] [.r .ent full sp el]) (.ret [.int .i64 4] [.r .ent full sp el]))
def ld27:LoopD:=⟨[(0,none),(5,none),(6,none),(7,none)],[],[(2,none)],fun vs ao=>match vs,ao with
  |[.rs 0 j n c 2 ex,.rs 0 j1 n1 c1 2 ex1,.int .i64 n',.int .i64 z],[.r .ent full sp el]=>some (n-z.toNat,lt27 j n c ex j1 n1 c1 ex1 n' z full sp el)
  |_,_=>none⟩
theorem turn27 (j n c:Nat) (ex:Bool) (c1:Nat) (ex1:Bool) (n' z:Int) (full:List Ent) (sp:Bool) (el:R.EL) (m:Nat) (rd k1:R.EK) (y:List (Nat×R.EK)) :
    (turnD C Y0 (fun _=>none) 100 43 1 0 b27 ld27 m [.rs 0 j n c 2 ex,.rs 0 j n c1 2 ex1,.int .i64 n',.int .i64 z] [.r .ent full sp el] rd k1 y).ev =
    cond (decide (z<n')) (cond (decide (0<=z)&&decide (Int.toNat z<n)) (cond (Nat.blt (j+Int.toNat z) full.length) (cond (decide (Prod.fst (List.getD full (j+Int.toNat z) (RK.zero RK.ent))=[])) ((rd (envZ [2] [R.DV.int .i64 4]) (mkD [DO.r RK.ent full sp el] 1)).ev) (cond (decide (108<(↑(List.length (Prod.fst (List.getD full (j+Int.toNat z) (RK.zero RK.ent)))):Int))) ((rd (envZ [2] [R.DV.int .i64 4]) (mkD [DO.r RK.ent full sp el] 1)).ev) (cond (decide (64<(↑(List.length (Prod.snd (List.getD full (j+Int.toNat z) (RK.zero RK.ent)))):Int))) ((rd (envZ [2] [R.DV.int .i64 4]) (mkD [DO.r RK.ent full sp el] 1)).ev) (cond (decide (0<z)) (cond (decide (0<=IntKind.wrap .i64 (z-1))&&decide (Int.toNat (IntKind.wrap .i64 (z-1))<n)) (cond (Nat.blt (j+Int.toNat (IntKind.wrap .i64 (z-1))) full.length) (cond (!Op.bytesLess (Prod.fst (List.getD full (j+Int.toNat (IntKind.wrap .i64 (z-1))) (RK.zero RK.ent))) (Prod.fst (List.getD full (j+Int.toNat z) (RK.zero RK.ent)))) ((rd (envZ [2] [R.DV.int .i64 4]) (mkD [DO.r RK.ent full sp el] 1)).ev) (cond (decide (n-Int.toNat (IntKind.wrap .i64 (z+1))<m)) (cond (Nat.beq j j&&(Nat.beq n n&&P27 j n full n' (IntKind.wrap .i64 (z+1)))) (cond (S27 j n full (IntKind.wrap .i64 (z+1))) ((k1 (envZ [] []) (mkD [DO.r RK.ent full sp el] 1)).ev) ((rd (envZ [2] [R.DV.int .i64 4]) (mkD [DO.r RK.ent full sp el] 1)).ev)) none) none)) none) none) (cond (decide (n-Int.toNat (IntKind.wrap .i64 (z+1))<m)) (cond (Nat.beq j j&&(Nat.beq n n&&P27 j n full n' (IntKind.wrap .i64 (z+1)))) (cond (S27 j n full (IntKind.wrap .i64 (z+1))) ((k1 (envZ [] []) (mkD [DO.r RK.ent full sp el] 1)).ev) ((rd (envZ [2] [R.DV.int .i64 4]) (mkD [DO.r RK.ent full sp el] 1)).ev)) none) none))))) none) none) ((k1 (envZ [] []) (mkD [DO.r RK.ent full sp el] 1)).ev):=by kernel_rfl
theorem step27 (j n c:Nat) (ex:Bool) (c1:Nat) (ex1:Bool) (n' z:Int) (full:List Ent) (sp:Bool) (el:R.EL) (rd k1:R.EK) (y:List (Nat×R.EK)) (w:R.DV×R.DH) (hw:((lt27 j n c ex j n c1 ex1 n' z full sp el).tree 1 ld27 rd ((0,k1)::y)).ev=some w) :
    (turnD C Y0 (fun _=>none) 100 43 1 0 b27 ld27 (n-z.toNat) [.rs 0 j n c 2 ex,.rs 0 j n c1 2 ex1,.int .i64 n',.int .i64 z] [.r .ent full sp el] rd k1 y).ev=some w:=by
  replace hw:=lt_need hw
  obtain⟨hp,hw⟩:=hw
  have hjj:Nat.beq j j=true:=Nat.beq_refl j
  have hnn:Nat.beq n n=true:=Nat.beq_refl n
  rw[hjj,hnn] at hp
  simp only[Bool.true_and,P27,decide_eq_true_eq] at hp
  obtain⟨rfl,p1,p2,p3,p4⟩:=hp
  rw[lt_br] at hw
  replace hw:cond (S27 j n full z) (k1 (envZ [] []) (mkD [DO.r RK.ent full sp el] 1)).ev (rd (envZ [2] [R.DV.int .i64 4]) (mkD [DO.r RK.ent full sp el] 1)).ev=some w:=hw
  rw[turn27,hjj,hnn]
  unfold S27 at hw
  by_cases h1:z<n
  . have b1:z.toNat<n:=by omega
    have e4:P27 j n full n (z+1)=true:=by
      simp only[P27,decide_eq_true_eq]
      refine⟨trivial,p1,p2,?_,?_⟩<;>omega
    have e5:S27 j n full (z+1)=chkL (some (rec full j z)) ((seg full j n).drop (z+1).toNat):=by
      unfold S27 before
      rw[if_pos (by omega),show z+1-1=z by omega]
    rw[cT h1,cA p3 b1,cB (show j+z.toNat<full.length by omega),nextI p3 h1 (by omega),e4,e5,cT (show n-(z+1).toNat<n-z.toNat by omega)]
    rw[seg_drop p1 p3 h1] at hw
    rw[show chkL (before full j z) (rec full j z::(seg full j n).drop (z+1).toNat)=cond (decide ((rec full j z).1=[])) false (cond (decide (108<((rec full j z).1.length:Int))) false (cond (decide (64<((rec full j z).2.length:Int))) false (cond (rises (before full j z) (rec full j z)) (chkL (some (rec full j z)) ((seg full j n).drop (z+1).toNat)) false))) from rfl] at hw
    by_cases a1:(rec full j z).1=[]
    . rw[cT a1] at hw; exact (cT a1).trans hw
    rw[cF a1] at hw; refine (cF a1).trans ?_
    by_cases a2:108<((rec full j z).1.length:Int)
    . rw[cT a2] at hw; exact (cT a2).trans hw
    rw[cF a2] at hw; refine (cF a2).trans ?_
    by_cases a3:64<((rec full j z).2.length:Int)
    . rw[cT a3] at hw; exact (cT a3).trans hw
    rw[cF a3] at hw; refine (cF a3).trans ?_
    by_cases h2:0<z
    . have ew:IntKind.wrap .i64 (z-1)=z-1:=wrap_i64 (by omega) (by omega)
      rw[cT h2,ew,cA (show 0<=z-1 by omega) (show (z-1).toNat<n by omega),cB (show j+(z-1).toNat<full.length by omega)]
      have eb:before full j z=some (rec full j (z-1)):=if_pos h2
      rw[eb] at hw
      show cond (!Op.bytesLess (rec full j (z-1)).1 (rec full j z).1) _ _=_
      have ea:rises (some (rec full j (z-1))) (rec full j z)=Op.bytesLess (rec full j (z-1)).1 (rec full j z).1:=rfl
      rw[ea] at hw
      revert hw
      cases Op.bytesLess (rec full j (z-1)).1 (rec full j z).1<;>exact id
    . rw[cF h2]
      have eb:before full j z=none:=if_neg h2
      rw[eb] at hw
      exact hw
  . rw[cF h1]
    rw[seg_end p1 h1 p3] at hw
    exact hw
theorem loop27 {n:Nat} (hn:100<=n):LoopOk C.G 1 (callO noTmps C.O C.tab n) n 100 43 0 b27 ld27:=by
  refine loop_of C Y0 (lh:=fun _=>none) hn ?_ (fun p _ ld h=>by cases h) ?_
  . exact wf_lp (wf_bl (wf_at3 (wf_fl (wf_at3 (wf_body (f:=27) rfl)))))
  intro vs ao m t hs rd k1 y w hw
  unfold ld27 at hs
  simp only at hs
  split at hs
  case h_2=>cases hs
  cases hs
  rename_i j n c ex j1 n1 c1 ex1 n' z full sp el
  have hp:=(lt_need hw).1
  simp only[Bool.and_eq_true] at hp
  obtain⟨h1,h2,_⟩:=hp
  have h1:=Nat.eq_of_beq_eq_true h1
  have h2:=Nat.eq_of_beq_eq_true h2
  subst h1 h2
  exact step27 _ _ _ _ _ _ _ _ _ _ _ _ _ _ _ hw
def chkB (l:List Ent):Bool:=chkL none l
def out27 (full:List Ent) (j n:Nat):RD:=.need (okN full j n) (.br (chkB (seg full j n)) (.v (.int .i64 0) []) (.v (.int .i64 4) []))
theorem run27 (j n c:Nat) (ex:Bool) (full:List Ent) (sp:Bool) (el:R.EL):runD C Y0 (lhX ld27) 100 c27 [.rs 0 j n c 2 ex] [.r .ent full sp el] =
    cond (decide (n-0<100)) (cond (Nat.beq j j&&(Nat.beq n n&&P27 j n full (↑n:Int) 0)) (cond (S27 j n full 0) (some (R.DV.int .i64 0,(mkD [DO.r RK.ent full sp el] 1))) (some (R.DV.int .i64 4,(mkD [DO.r RK.ent full sp el] 1)))) none) none:=by kernel_rfl
theorem law27 (j n c:Nat) (ex:Bool) (full:List Ent) (sp:Bool) (el:R.EL):LawOk C.G C.O C.tab 27 101 [.r .ent full sp el] [.rs 0 j n c 2 ex] (out27 full j n):=by
  refine law_of C Y0 (lhX ld27) rfl rfl (fun n hn=>lhX_ok (Q:=fun i b ld=>LoopOk C.G 1 (callO noTmps C.O C.tab n) n 100 43 i b ld) rfl (loop27 hn)) fun z hz=>?_
  obtain⟨hp,hz⟩:=R.ev_need hz
  refine (run27 j n c ex full sp el).trans ?_
  obtain⟨p1,p2⟩:=okN_iff.1 hp
  have hjj:Nat.beq j j=true:=Nat.beq_refl j
  have hnn:Nat.beq n n=true:=Nat.beq_refl n
  have e4:P27 j n full n 0=true:=by
    simp only[P27,decide_eq_true_eq]
    refine⟨trivial,p1,p2,?_,?_⟩<;>omega
  rw[hjj,hnn,e4,cT (show n-0<100 by omega)]
  have e5:S27 j n full 0=chkB (seg full j n):=rfl
  rw[e5]
  refine Eq.trans ?_ hz
  show _=(R.Tree.br (chkB (seg full j n)) (.ok _ _) (.ok _ _)).ev
  rw[ev_br]
  cases chkB (seg full j n)<;>rfl
def noK (k:List UInt8):List Ent->Bool
  |[]=>true
  |e::r=>cond (decide (e.1=k)) false (noK k r)
def idxK (k:List UInt8):List Ent->Int->Int
  |[],z=>z
  |e::r,z=>cond (decide (e.1=k)) z (idxK k r (z+1))
def b70:CC:=lp (bl (at3 (fl (at3 c70.body))))
def P70 (j n:Nat) (full:List Ent) (n' z:Int):Bool:=decide (n'=n/\j+n<=full.length/\n<99/\0<=z/\z<=n)
def S70 (j n:Nat) (full:List Ent) (k:List UInt8) (z:Int):Bool:=noK k ((seg full j n).drop z.toNat)
def I70 (j n:Nat) (full:List Ent) (k:List UInt8) (z:Int):Int:=idxK k ((seg full j n).drop z.toNat) z
def lt70 (j n c:Nat) (ex:Bool) (j1 n1 c1:Nat) (ex1:Bool) (n' z:Int) (k:List UInt8) (full:List Ent) (sp:Bool) (el:R.EL):LT:=.need (Nat.beq j1 j&&(Nat.beq n1 n&&P70 j n full n' z)) (.br (S70 j n full k z) (.exit 0 [] [.r .ent full sp el,.c [.str k] false 9]) (.ret [.int .i64 (I70 j n full k z)] [.r .ent full sp el,.c [.str k] false 9]))
def ld70:LoopD:=⟨[(0,none),(1,none),(6,none),(7,none),(8,none)],[],[(4,none)],fun vs ao=>match vs,ao with
  |[.rs 0 j n c 2 ex,.fn 71 [.ptr 1 0],.rs 0 j1 n1 c1 2 ex1,.int .i64 n',.int .i64 z],[.r .ent full sp el,.c [.str k] false 9]=>some (n-z.toNat,lt70 j n c ex j1 n1 c1 ex1 n' z k full sp el)
  |_,_=>none⟩
theorem turn70 (j n c:Nat) (ex:Bool) (c1:Nat) (ex1:Bool) (n' z:Int) (k:List UInt8) (full:List Ent) (sp:Bool) (el:R.EL) (m:Nat) (rd k1:R.EK) (y:List (Nat×R.EK)) :
    (turnD C Y0 (fun _=>none) 100 19 2 0 b70 ld70 m [.rs 0 j n c 2 ex,.fn 71 [.ptr 1 0],.rs 0 j n c1 2 ex1,.int .i64 n',.int .i64 z] [.r .ent full sp el,.c [.str k] false 9] rd k1 y).ev =
    cond (decide (z<n')) (cond (decide (0<=z)&&decide (Int.toNat z<n)) (cond (Nat.blt (j+Int.toNat z) full.length) (cond (decide (Prod.fst (List.getD full (j+Int.toNat z) (RK.zero RK.ent))=k)) ((rd (envZ [4] [R.DV.int .i64 z]) (mkD [DO.r RK.ent full sp el,R.DO.c [R.DV.str k] false 9] 2)).ev) (cond (decide (n-Int.toNat (IntKind.wrap .i64 (z+1))<m)) (cond (Nat.beq j j&&(Nat.beq n n&&P70 j n full n' (IntKind.wrap .i64 (z+1)))) (cond (S70 j n full k (IntKind.wrap .i64 (z+1))) ((k1 (envZ [] []) (mkD [DO.r RK.ent full sp el,R.DO.c [R.DV.str k] false 9] 2)).ev) ((rd (envZ [4] [R.DV.int .i64 (I70 j n full k (IntKind.wrap .i64 (z+1)))]) (mkD [DO.r RK.ent full sp el,R.DO.c [R.DV.str k] false 9] 2)).ev)) none) none)) none) none) ((k1 (envZ [] []) (mkD [DO.r RK.ent full sp el,R.DO.c [R.DV.str k] false 9] 2)).ev):=by kernel_rfl
theorem step70 (j n c:Nat) (ex:Bool) (c1:Nat) (ex1:Bool) (n' z:Int) (k:List UInt8) (full:List Ent) (sp:Bool) (el:R.EL) (rd k1:R.EK) (y:List (Nat×R.EK)) (w:R.DV×R.DH) (hw:((lt70 j n c ex j n c1 ex1 n' z k full sp el).tree 2 ld70 rd ((0,k1)::y)).ev=some w) :
    (turnD C Y0 (fun _=>none) 100 19 2 0 b70 ld70 (n-z.toNat) [.rs 0 j n c 2 ex,.fn 71 [.ptr 1 0],.rs 0 j n c1 2 ex1,.int .i64 n',.int .i64 z] [.r .ent full sp el,.c [.str k] false 9] rd k1 y).ev=some w:=by
  replace hw:=lt_need hw
  obtain⟨hp,hw⟩:=hw
  have hjj:Nat.beq j j=true:=Nat.beq_refl j
  have hnn:Nat.beq n n=true:=Nat.beq_refl n
  rw[hjj,hnn] at hp
  simp only[Bool.true_and,P70,decide_eq_true_eq] at hp
  obtain⟨rfl,p1,p2,p3,p4⟩:=hp
  rw[lt_br] at hw
  replace hw:cond (S70 j n full k z) (k1 (envZ [] []) (mkD [DO.r RK.ent full sp el,R.DO.c [R.DV.str k] false 9] 2)).ev (rd (envZ [4] [R.DV.int .i64 (I70 j n full k z)]) (mkD [DO.r RK.ent full sp el,R.DO.c [R.DV.str k] false 9] 2)).ev=some w:=hw
  rw[turn70,hjj,hnn]
  unfold S70 I70 at hw
  by_cases h1:z<n
  . have b1:z.toNat<n:=by omega
    have e4:P70 j n full n (z+1)=true:=by
      simp only[P70,decide_eq_true_eq]
      refine⟨trivial,p1,p2,?_,?_⟩<;>omega
    rw[cT h1,cA p3 b1,cB (show j+z.toNat<full.length by omega),nextI p3 h1 (by omega),e4,cT (show n-(z+1).toNat<n-z.toNat by omega)]
    rw[seg_drop p1 p3 h1] at hw
    rw[show noK k (rec full j z::(seg full j n).drop (z+1).toNat)=cond (decide ((rec full j z).1=k)) false (noK k ((seg full j n).drop (z+1).toNat)) from rfl,
      show idxK k (rec full j z::(seg full j n).drop (z+1).toNat) z=cond (decide ((rec full j z).1=k)) z (idxK k ((seg full j n).drop (z+1).toNat) (z+1)) from rfl] at hw
    by_cases a1:(rec full j z).1=k
    . rw[cT a1,cT a1] at hw; exact (cT a1).trans hw
    . rw[cF a1,cF a1] at hw; exact (cF a1).trans hw
  . rw[cF h1]
    rw[seg_end p1 h1 p3] at hw
    exact hw
theorem loop70 {n:Nat} (hn:100<=n):LoopOk C.G 2 (callO noTmps C.O C.tab n) n 100 19 0 b70 ld70:=by
  refine loop_of C Y0 (lh:=fun _=>none) hn ?_ (fun p _ ld h=>by cases h) ?_
  . exact wf_lp (wf_bl (wf_at3 (wf_fl (wf_at3 (wf_body (f:=70) rfl)))))
  intro vs ao m t hs rd k1 y w hw
  unfold ld70 at hs
  simp only at hs
  split at hs
  case h_2=>cases hs
  cases hs
  have hp:=(lt_need hw).1
  simp only[Bool.and_eq_true] at hp
  obtain⟨h1,h2,_⟩:=hp
  have h1:=Nat.eq_of_beq_eq_true h1
  have h2:=Nat.eq_of_beq_eq_true h2
  subst h1 h2
  exact step70 _ _ _ _ _ _ _ _ _ _ _ _ _ _ _ _ hw
def out70 (full:List Ent) (j n:Nat) (k:List UInt8):RD:=.need (okN full j n) (.br (noK k (seg full j n)) (.v (.int .i64 (-1)) []) (.v (.int .i64 (idxK k (seg full j n) 0)) []))
theorem run70 (j n c:Nat) (ex:Bool) (k:List UInt8) (full:List Ent) (sp:Bool) (el:R.EL):runD C Y0 (lhX ld70) 100 c70 [.rs 0 j n c 2 ex,.fn 71 [.ptr 1 0]] [.r .ent full sp el,.c [.str k] false 9] =
    cond (decide (n-0<100)) (cond (Nat.beq j j&&(Nat.beq n n&&P70 j n full (↑n:Int) 0)) (cond (S70 j n full k 0) (some (R.DV.int .i64 (-1),(mkD [DO.r RK.ent full sp el,R.DO.c [R.DV.str k] false 9] 2))) (some (R.DV.int .i64 (I70 j n full k 0),(mkD [DO.r RK.ent full sp el,R.DO.c [R.DV.str k] false 9] 2)))) none) none:=by kernel_rfl
theorem law70 (j n c:Nat) (ex:Bool) (k:List UInt8) (full:List Ent) (sp:Bool) (el:R.EL):LawOk C.G C.O C.tab 70 101 [.r .ent full sp el,.c [.str k] false 9] [.rs 0 j n c 2 ex,.fn 71 [.ptr 1 0]] (out70 full j n k):=by
  refine law_of C Y0 (lhX ld70) rfl rfl (fun n hn=>lhX_ok (Q:=fun i b ld=>LoopOk C.G 2 (callO noTmps C.O C.tab n) n 100 19 i b ld) rfl (loop70 hn)) fun z hz=>?_
  obtain⟨hp,hz⟩:=R.ev_need hz
  refine (run70 j n c ex k full sp el).trans ?_
  obtain⟨p1,p2⟩:=okN_iff.1 hp
  have hjj:Nat.beq j j=true:=Nat.beq_refl j
  have hnn:Nat.beq n n=true:=Nat.beq_refl n
  have e4:P70 j n full n 0=true:=by
    simp only[P70,decide_eq_true_eq]
    refine⟨trivial,p1,p2,?_,?_⟩<;>omega
  rw[hjj,hnn,e4,cT (show n-0<100 by omega)]
  have e5:S70 j n full k 0=noK k (seg full j n):=rfl
  have e6:I70 j n full k 0=idxK k (seg full j n) 0:=rfl
  rw[e5,e6]
  refine Eq.trans ?_ hz
  show _=(R.Tree.br (noK k (seg full j n)) (.ok _ _) (.ok _ _)).ev
  rw[ev_br]
  cases noK k (seg full j n)<;>rfl
def g70:List R.DV->List R.DO->Option RD:=fun l ao=>match l,ao with
  |[.rs 0 j n c 2 ex,.fn 71 [.ptr 1 0]],[.r .ent full sp el,.c [.str k] false 9]=>some (out70 full j n k)
  |_,_=>none
theorem g70_ok (l:List R.DV) (ao:List R.DO) (out:RD) (h:g70 l ao=some out):LawOk C.G C.O C.tab 70 101 ao l out:=by
  unfold g70 at h
  split at h
  . cases h; exact law70 _ _ _ _ _ _ _ _
  . cases h
def Y4:C.RL:=Y0.add 70 101 g70 g70_ok
def getK (k:List UInt8):List Ent->List UInt8×Bool
  |[]=>([],false)
  |e::r=>cond (decide (e.1=k)) (e.2,true) (getK k r)
theorem get_no (k:List UInt8):∀ l:List Ent,noK k l=true->getK k l=([],false)
  |[],_=>rfl
  |e::r,h=>by
    have h:cond (decide (e.1=k)) false (noK k r)=true:=h
    show cond (decide (e.1=k)) (e.2,true) (getK k r)=_
    cases hd:decide (e.1=k) with
    |true=>rw[hd] at h; cases h
    |false=>rw[hd] at h; exact get_no k r h
theorem get_idx (k:List UInt8):∀ (l:List Ent) (z:Int),noK k l=false->z<=idxK k l z/\idxK k l z<z+l.length/\getK k l=((l.getD (idxK k l z-z).toNat ([],[])).2,true)
  |[],_,h=>by cases h
  |e::r,z,h=>by
    have h:cond (decide (e.1=k)) false (noK k r)=false:=h
    have e1:idxK k (e::r) z=cond (decide (e.1=k)) z (idxK k r (z+1)):=rfl
    have e2:getK k (e::r)=cond (decide (e.1=k)) (e.2,true) (getK k r):=rfl
    rw[e1,e2]
    cases hd:decide (e.1=k) with
    |true =>
      refine⟨Int.le_refl _,by show z<z+((r.length+1:Nat):Int); omega,?_⟩
      show (e.2,true)=(((e::r).getD (z-z).toNat ([],[])).2,true)
      rw[show (z-z).toNat=0 by omega]; rfl
    |false =>
      rw[hd] at h
      obtain⟨h1,h2,h3⟩:=get_idx k r (z+1) h
      refine⟨by show z<=idxK k r (z+1); omega,by show idxK k r (z+1)<z+((r.length+1:Nat):Int); omega,?_⟩
      show getK k r=(((e::r).getD (idxK k r (z+1)-z).toNat ([],[])).2,true)
      rw[h3,show (idxK k r (z+1)-z).toNat=(idxK k r (z+1)-(z+1)).toNat+1 by omega]; rfl
theorem seg_at {full:List Ent}{j n:Nat}{i:Int} (p1:j+n<=full.length) (h0:0<=i) (h1:i<n):(seg full j n).getD i.toNat ([],[])=rec full j i:=by
  have h:=seg_drop p1 h0 h1
  have hl:=seg_len p1
  rw[List.drop_eq_getElem_cons (by omega)] at h
  rw[List.getD_eq_getElem?_getD,List.getElem?_eq_getElem (by omega)]
  exact (List.cons.inj h).1
def out28 (full:List Ent) (j n:Nat) (k:List UInt8):RD:=.need (okN full j n) (.v (.tup [.str (getK k (seg full j n)).1,.bool (getK k (seg full j n)).2]) [])
theorem run28 (j n c:Nat) (ex:Bool) (k:List UInt8) (full:List Ent) (sp:Bool) (el:R.EL):runD C Y4 (fun _=>none) 110 c28 [.rs 0 j n c 2 ex,.str k] [.r .ent full sp el] =
    cond (okN full j n) (cond (noK k (seg full j n)) (some (R.DV.tup [R.DV.str [],R.DV.bool false],(mkD [DO.r RK.ent full sp el] 1))) (cond (decide (idxK k (seg full j n) 0<0)) (some (R.DV.tup [R.DV.str [],R.DV.bool false],(mkD [DO.r RK.ent full sp el] 1))) (cond (decide (0<=idxK k (seg full j n) 0)&&decide (Int.toNat (idxK k (seg full j n) 0)<n)) (cond (Nat.blt (j+Int.toNat (idxK k (seg full j n) 0)) full.length) (some (R.DV.tup [R.DV.str (Prod.snd (List.getD full (j+Int.toNat (idxK k (seg full j n) 0)) (RK.zero RK.ent))),R.DV.bool true],(mkD [DO.r RK.ent full sp el] 1))) none) none))) none:=by kernel_rfl
theorem law28 (j n c:Nat) (ex:Bool) (k:List UInt8) (full:List Ent) (sp:Bool) (el:R.EL):LawOk C.G C.O C.tab 28 111 [.r .ent full sp el] [.rs 0 j n c 2 ex,.str k] (out28 full j n k):=by
  refine law_of C Y4 (fun _=>none) rfl rfl (fun n hn p _ ld e=>by cases e) fun z hz=>?_
  obtain⟨hp,hz⟩:=R.ev_need hz
  refine (run28 j n c ex k full sp el).trans (Eq.trans ?_ hz)
  show _=some (R.DV.tup [.str (getK k (seg full j n)).1,.bool (getK k (seg full j n)).2],mkD [DO.r RK.ent full sp el] 1)
  obtain⟨p1,p2⟩:=okN_iff.1 hp
  have hl:=seg_len p1
  rw[hp]
  cases hn:noK k (seg full j n) with
  |true=>rw[get_no k _ hn]; rfl
  |false =>
    obtain⟨h1,h2,h3⟩:=get_idx k (seg full j n) 0 hn
    rw[hl] at h2
    rw[Int.sub_zero,seg_at p1 h1 (by omega)] at h3
    rw[h3,cF (show ¬ idxK k (seg full j n) 0<0 by omega),cA h1 (show (idxK k (seg full j n) 0).toNat<n by omega),cB (show j+(idxK k (seg full j n) 0).toNat<full.length by omega)]
    rfl
theorem law28n (k:List UInt8):LawOk C.G C.O C.tab 28 111 [] [.nils,.str k] (.v (.tup [.str [],.bool false]) []):=by
  refine law_of C Y4 (fun _=>none) rfl rfl (fun n hn p _ ld e=>by cases e) fun z hz=>?_
  refine Eq.trans ?_ hz
  kernel_rfl
theorem less_irrefl:∀ a:List UInt8,Op.bytesLess a a=false
  |[]=>rfl
  |a::x=>by
    simp only[Op.bytesLess,less_irrefl x,Bool.and_false,Bool.or_false,decide_eq_false_iff_not]
    exact UInt8.lt_irrefl a
theorem less_trans:∀ a b c:List UInt8,Op.bytesLess a b=true->Op.bytesLess b c=true->Op.bytesLess a c=true
  |[],[],_,h,_=>by simp[Op.bytesLess] at h
  |[],_::_,[],_,h=>by simp[Op.bytesLess] at h
  |[],_::_,_::_,_,_=>rfl
  |_::_,[],_,h,_=>by simp[Op.bytesLess] at h
  |_::_,_::_,[],_,h=>by simp[Op.bytesLess] at h
  |a::x,b::y,c::z,h1,h2=>by
    simp only[Op.bytesLess,Bool.or_eq_true,decide_eq_true_eq,Bool.and_eq_true,beq_iff_eq] at h1 h2 ⊢
    rcases h1 with h1 | ⟨rfl,h1⟩<;>rcases h2 with h2 | ⟨rfl,h2⟩
    . exact .inl (UInt8.lt_trans h1 h2)
    . exact .inl h1
    . exact .inl h2
    . exact .inr ⟨rfl,less_trans x y z h1 h2⟩
theorem less_tot : ∀ a b : List UInt8, Op.bytesLess a b = false → Op.bytesLess b a = false → a = b
  |[],[],_,_=>rfl
  |[],_::_,h,_=>by simp[Op.bytesLess] at h
  |_::_,[],_,h=>by simp[Op.bytesLess] at h
  |a::x,b::y,h1,h2=>by
    simp only[Op.bytesLess,Bool.or_eq_false_iff,decide_eq_false_iff_not] at h1 h2
    have e:a=b:=by
      have:=h1.1
      have:=h2.1
      rcases UInt8.lt_or_lt_of_ne (a:=a) (b:=b) with h
      by_cases hab:a=b
      . exact hab
      . rcases UInt8.lt_or_lt_of_ne hab with h | h
        . exact absurd h h1.1
        . exact absurd h h2.1
    subst e
    have h3:=h1.2
    have h4:=h2.2
    simp only[beq_self_eq_true,Bool.true_and] at h3 h4
    rw[less_tot x y h3 h4]
theorem rising:∀ (l:List Ent) (e:Ent),chkL (some e) l=true->∀ a∈l,Op.bytesLess e.1 a.1=true
  |b::r,e,h,a,ha=>by
    rw[show chkL (some e) (b::r)=cond (decide (b.1=[])) false (cond (decide (108<(b.1.length:Int))) false (cond (decide (64<(b.2.length:Int))) false (cond (Op.bytesLess e.1 b.1) (chkL (some b) r) false))) from rfl] at h
    have h1:Op.bytesLess e.1 b.1=true/\chkL (some b) r=true:=by
      revert h
      cases decide (b.1=[])<;>cases decide (108<(b.1.length:Int))<;>cases decide (64<(b.2.length:Int))<;>cases Op.bytesLess e.1 b.1<;>simp
    rcases List.mem_cons.1 ha with rfl | ha
    . exact h1.1
    . exact less_trans _ _ _ h1.1 (rising r b h1.2 a ha)
theorem chk_tail {p:Option Ent}{e:Ent}{r:List Ent} (h:chkL p (e::r)=true):chkL (some e) r=true:=by
  rw[show chkL p (e::r)=cond (decide (e.1=[])) false (cond (decide (108<(e.1.length:Int))) false (cond (decide (64<(e.2.length:Int))) false (cond (rises p e) (chkL (some e) r) false))) from rfl] at h
  revert h
  cases decide (e.1=[])<;>cases decide (108<(e.1.length:Int))<;>cases decide (64<(e.2.length:Int))<;>cases rises p e<;>simp
def b72:CC:=match loopsIn none c72.body with | [(_,b)]=>b | _=>.skip
def ld72 (P:Nat->Nat->List Ent->Txt->Int->Int->Bool) (S:Nat->Nat->List Ent->Txt->Int->Int->Int):LoopD:=⟨[(0,none),(1,none),(5,none),(6,none)],[(5,none)],[],fun vs ao=>match vs,ao with
  |[.rs 0 j n c 2 ex,.str k,.int .i64 a,.int .i64 b],[.r .ent full sp el]=>some ((b-a).toNat,.need (P j n full k a b) (.exit 0 [.int .i64 (S j n full k a b)] [.r .ent full sp el]))
  |_,_=>none⟩
def cntK (k:Txt):List Ent->Nat
  |[]=>0
  |e::r=>cond (Op.bytesLess e.1 k) (cntK k r+1) 0
theorem cnt_le (k:Txt):∀ l,cntK k l<=l.length
  |[]=>Nat.le_refl _
  |e::r=>by
    unfold cntK
    have:=cnt_le k r
    cases Op.bytesLess e.1 k
    . exact Nat.zero_le _
    . exact Nat.succ_le_succ this
theorem cnt_at (k : Txt) : ∀ (l : List Ent) (p : Option Ent), chkL p l = true → ∀ i x, l[i]? = some x → Op.bytesLess x.1 k = decide (i < cntK k l)
  |[],_,_,i,x,h=>by simp at h
  |e::r,p,hc,i,x,h=>by
    have ht:=chk_tail hc
    unfold cntK
    cases he:Op.bytesLess e.1 k with
    |true =>
      cases i with
      |zero =>
        cases h
        rw[he]; rfl
      |succ i =>
        rw[cnt_at k r (some e) ht i x (by simpa using h)]
        show decide (i<cntK k r)=decide (i+1<cntK k r+1)
        rw[Bool.eq_iff_iff,decide_eq_true_eq,decide_eq_true_eq]; omega
    |false =>
      show Op.bytesLess x.1 k=decide (i<0)
      rw[decide_eq_false (Nat.not_lt_zero i)]
      cases i with
      |zero=>cases h; exact he
      |succ i =>
        have hx:x∈r:=List.mem_of_getElem? (by simpa using h)
        have:=rising r e ht x hx
        cases hxk:Op.bytesLess x.1 k with
        |false=>rfl
        |true=>rw[less_trans _ _ _ this hxk] at he; cases he
def P72 (j n:Nat) (full:List Ent) (k:Txt) (a b:Int):Bool:=chkB (seg full j n)&&decide (j+n<=full.length/\n<99/\0<=a/\a<=cntK k (seg full j n)/\(cntK k (seg full j n):Int)<=b/\b<=n)
theorem turn72 (P:Nat->Nat->List Ent->Txt->Int->Int->Bool) (S:Nat->Nat->List Ent->Txt->Int->Int->Int) (j n c:Nat) (ex:Bool) (k:Txt) (a b:Int) (full:List Ent) (sp:Bool) (el:R.EL) (m:Nat) (rd k1:R.EK) (y:List (Nat×R.EK)) :
    (turnD C Y0 (fun _=>none) 100 32 1 0 b72 (ld72 P S) m [.rs 0 j n c 2 ex,.str k,.int .i64 a,.int .i64 b] [.r .ent full sp el] rd k1 y).ev =
    cond (decide (a=b)) ((k1 (envZ [5] [R.DV.int .i64 a]) (mkD [DO.r RK.ent full sp el] 1)).ev) (cond (decide (0<=IntKind.wrap .i64 (Int.fdiv (IntKind.wrap .u64 (IntKind.wrap .i64 (a+b))) 2))&&decide (Int.toNat (IntKind.wrap .i64 (Int.fdiv (IntKind.wrap .u64 (IntKind.wrap .i64 (a+b))) 2))<n)) (cond (Nat.blt (j+Int.toNat (IntKind.wrap .i64 (Int.fdiv (IntKind.wrap .u64 (IntKind.wrap .i64 (a+b))) 2))) full.length) (cond (Op.bytesLess (Prod.fst (List.getD full (j+Int.toNat (IntKind.wrap .i64 (Int.fdiv (IntKind.wrap .u64 (IntKind.wrap .i64 (a+b))) 2))) (RK.zero RK.ent))) k) (cond (decide (Int.toNat (b-IntKind.wrap .i64 (IntKind.wrap .i64 (Int.fdiv (IntKind.wrap .u64 (IntKind.wrap .i64 (a+b))) 2)+1))<m)) (cond (P j n full k (IntKind.wrap .i64 (IntKind.wrap .i64 (Int.fdiv (IntKind.wrap .u64 (IntKind.wrap .i64 (a+b))) 2)+1)) b) ((k1 (envZ [5] [R.DV.int .i64 (S j n full k (IntKind.wrap .i64 (IntKind.wrap .i64 (Int.fdiv (IntKind.wrap .u64 (IntKind.wrap .i64 (a+b))) 2)+1)) b)]) (mkD [DO.r RK.ent full sp el] 1)).ev) none) none) (cond (decide (Int.toNat (IntKind.wrap .i64 (Int.fdiv (IntKind.wrap .u64 (IntKind.wrap .i64 (a+b))) 2)-a)<m)) (cond (P j n full k a (IntKind.wrap .i64 (Int.fdiv (IntKind.wrap .u64 (IntKind.wrap .i64 (a+b))) 2))) ((k1 (envZ [5] [R.DV.int .i64 (S j n full k a (IntKind.wrap .i64 (Int.fdiv (IntKind.wrap .u64 (IntKind.wrap .i64 (a+b))) 2)))]) (mkD [DO.r RK.ent full sp el] 1)).ev) none) none)) none) none):=by kernel_rfl
theorem step72 (S : Nat → Nat → List Ent → Txt → Int → Int → Int) (j n c : Nat) (hS : ∀ (full : List Ent) (k : Txt) (a b : Int), S j n full k a b = (cntK k (seg full j n) : Nat)) (ex : Bool) (k : Txt) (a b : Int) (full : List Ent) (sp : Bool) (el : R.EL) (rd k1 : R.EK) (y : List (Nat × R.EK)) (w : R.DV × R.DH) (hp : P72 j n full k a b = true)
    (hw:(k1 (envZ [5] [R.DV.int .i64 (S j n full k a b)]) (mkD [DO.r RK.ent full sp el] 1)).ev=some w) :
    (turnD C Y0 (fun _=>none) 100 32 1 0 b72 (ld72 P72 S) (b-a).toNat [.rs 0 j n c 2 ex,.str k,.int .i64 a,.int .i64 b] [.r .ent full sp el] rd k1 y).ev=some w:=by
  have hp':=hp
  unfold P72 at hp
  rw[Bool.and_eq_true,decide_eq_true_eq] at hp
  obtain⟨hc,p0,p1,p2,p3,p4,p5⟩:=hp
  rw[turn72]
  by_cases hab:a=b
  . subst hab
    rw[decide_eq_true rfl]
    have e:S j n full k a a=a:=by rw[hS]; omega
    rw[e] at hw
    exact hw
  . obtain⟨m,hm⟩:∃ m:Int,m=(a+b) / 2:=⟨_,rfl⟩
    have e1:IntKind.wrap .i64 (a+b)=a+b:=wrap_i64 (by omega) (by omega)
    have e2:IntKind.wrap .u64 (a+b)=a+b:=wrap_u64 (by omega) (by omega)
    have e3:Int.fdiv (a+b) 2=m:=by rw[Int.fdiv_eq_ediv_of_nonneg _ (by omega)]; exact hm.symm
    have e4:IntKind.wrap .i64 m=m:=wrap_i64 (by omega) (by omega)
    have e5:IntKind.wrap .i64 (m+1)=m+1:=wrap_i64 (by omega) (by omega)
    rw[decide_eq_false hab,e1,e2,e3,e4,e5,cA (by omega) (by omega),cB (show j+m.toNat<full.length by omega)]
    have hl:(seg full j n).length=n:=seg_len (by omega)
    have hget:(seg full j n)[m.toNat]? = some (full.getD (j+m.toNat) (([],[]):Ent)):=by
      unfold seg
      rw[List.getElem?_take,if_pos (by omega),List.getElem?_drop,List.getD_eq_getElem?_getD,List.getElem?_eq_getElem (show j+m.toNat<full.length by omega)]; rfl
    have hcmp:=cnt_at k (seg full j n) none hc m.toNat _ hget
    show cond (Op.bytesLess (full.getD (j+m.toNat) (([],[]):Ent)).1 k) _ _=some w
    rw[hcmp]
    by_cases hlt:m.toNat<cntK k (seg full j n)
    . have hP:P72 j n full k (m+1) b=true:=by
        unfold P72
        rw[Bool.and_eq_true,decide_eq_true_eq]
        exact⟨hc,p0,p1,by omega,by omega,p4,p5⟩
      rw[cT hlt,hP,cT (by omega),hS full k (m+1) b,← hS full k a b]
      exact hw
    . have hP:P72 j n full k a m=true:=by
        unfold P72
        rw[Bool.and_eq_true,decide_eq_true_eq]
        exact⟨hc,p0,p1,p2,p3,by omega,by omega⟩
      rw[cF hlt,hP,cT (by omega),hS full k a m,← hS full k a b]
      exact hw
def S72 (j n:Nat) (full:List Ent) (k:Txt) (_ _:Int):Int:=(cntK k (seg full j n):Nat)
theorem loop72 {n:Nat} (hn:100<=n):LoopOk C.G 1 (callO noTmps C.O C.tab n) n 100 32 0 b72 (ld72 P72 S72):=by
  refine loop_of C Y0 (lh:=fun _=>none) hn ?_ (fun p _ ld h=>by cases h) ?_
  . exact wf_loops _ none (wf_body (f:=72) rfl) (0,b72) (by rw[show loopsIn none c72.body=[(0,b72)] from rfl]; exact List.mem_cons_self)
  intro vs ao m t hs rd k1 y w hw
  unfold ld72 at hs
  simp only at hs
  split at hs
  case h_2=>cases hs
  cases hs
  have hp:=lt_need hw
  exact step72 S72 _ _ _ (fun _ _ _ _=>rfl) _ _ _ _ _ _ _ rd k1 y w hp.1 hp.2
theorem run72 (P:Nat->Nat->List Ent->Txt->Int->Int->Bool) (S:Nat->Nat->List Ent->Txt->Int->Int->Int) (j n c:Nat) (ex:Bool) (k:Txt) (full:List Ent) (sp:Bool) (el:R.EL):runD C Y0 (lhX (ld72 P S)) 100 c72 [.rs 0 j n c 2 ex,.str k] [.r .ent full sp el] =
    cond (decide (Int.toNat ((↑n:Int)-0)<100)) (cond (P j n full k 0 (↑n:Int)) (some (R.DV.int .i64 (S j n full k 0 (↑n:Int)),(mkD [DO.r RK.ent full sp el] 1))) none) none:=by kernel_rfl
abbrev CN:=Txt->List Ent->Nat
def out72 (cn:CN) (full:List Ent) (j n:Nat) (k:Txt):RD:=.need (okN full j n&&(decide (n<99)&&chkB (seg full j n))) (.v (.int .i64 (cn k (seg full j n):Nat)) [])
theorem lawF72 (j n c:Nat) (ex:Bool) (k:Txt) (full:List Ent) (sp:Bool) (el:R.EL):LawOk C.G C.O C.tab 72 101 [.r .ent full sp el] [.rs 0 j n c 2 ex,.str k] (out72 cntK full j n k):=by
  refine law_of C Y0 (lhX (ld72 P72 S72)) rfl rfl (fun n hn=>lhX_ok (Q:=fun i b ld=>LoopOk C.G 1 (callO noTmps C.O C.tab n) n 100 32 i b ld) rfl (loop72 hn)) fun z hz=>?_
  obtain⟨hp,hz⟩:=R.ev_need hz
  rw[Bool.and_eq_true,Bool.and_eq_true,decide_eq_true_eq] at hp
  obtain⟨p1,_⟩:=okN_iff.1 hp.1
  have p2:=hp.2.1
  refine (run72 P72 S72 j n c ex k full sp el).trans ?_
  have hc:=cnt_le k (seg full j n)
  rw[seg_len p1] at hc
  have h1:P72 j n full k 0 n=true:=by
    unfold P72
    rw[Bool.and_eq_true,decide_eq_true_eq]
    exact⟨hp.2.2,p1,p2,by omega,by omega,by omega,by omega⟩
  rw[cT (show ((n:Int)-0).toNat<100 by omega),h1]
  exact hz
theorem lawF72n (k:Txt):LawOk C.G C.O C.tab 72 101 [] [.nils,.str k] (.v (.int .i64 0) []):=by
  refine law_of C Y0 (fun _=>none) rfl rfl (fun n hn p _ ld e=>by cases e) fun z hz=>?_
  refine Eq.trans ?_ hz
  kernel_rfl
def gF72 (cn:CN):List R.DV->List R.DO->Option RD:=fun l ao=>match l,ao with
  |[.rs 0 j n c 2 ex,.str k],[.r .ent full sp el]=>some (out72 cn full j n k)
  |[.nils,.str k],[]=>some (.v (.int .i64 0) [])
  |_,_=>none
theorem gF72_ok (cn:CN) (h:cn=cntK) (l:List R.DV) (ao:List R.DO) (out:RD) (hg:gF72 cn l ao=some out):LawOk C.G C.O C.tab 72 101 ao l out:=by
  subst h
  unfold gF72 at hg
  split at hg
  . cases hg; exact lawF72 _ _ _ _ _ _ _ _
  . cases hg; exact lawF72n _
  . cases hg
end
end Go.Vm.YtkjjpmbpjfmbcaaGreatDoor

namespace Go.Vm.R
noncomputable section
variable {P:Program}
def cutD (K:Kd) (cl:DC) (lh:Nat->Option LoopD) (lev nt N:Nat):List (Option (List Hint))->CC->T DV->DH->EK->List (Nat×EK)->EK->Tree
  |x::l,c,e,h,r,y,k=>match c with
    | .seq a b=>match x with
      |some hs=>execD K cl lh lev nt N a e h r y (neatK N hs fun e h=>cutD K cl lh lev nt N l b e h r y k)
      |none=>execD K cl lh lev nt N a e h r y (fun e h=>cutD K cl lh lev nt N l b e h r y k)
    |c=>execD K cl lh lev nt N c e h r y k
  |[],c,e,h,r,y,k=>execD K cl lh lev nt N c e h r y k
theorem cutD_ok {G:Gl}{N:Nat}{call:Nat->List V->H->Res}{cl:DC} (hgood:CallGood G.n call) (hcl:ClOk G call cl) (K:Kd) {lh:Nat->Option LoopD}{n lev nt:Nat} (hlev:lev<=n) {k:DK}{r:Vm.K}{rd:EK} (hr:KOk G N k r rd) {hd:Option Nat}{x:List (Nat×Vm.K)}{y:List (Nat×EK)} (hy:headOf y=hd) (hx:XOk G N k x y) {kk:Vm.K}{kd:EK} (hk:KOk G N k kk kd) :
    ∀ (cs:List (Option (List Hint))) (c:CC),ccWf G.n c->(∀ p∈loopsIn hd c,∀ ld,lh p.1=some ld->LoopOk G N call n lev nt p.1 p.2 ld) ->
    KOk G N k (fun e h=>exec call n nt c e h r x kk) (fun e h=>cutD K cl lh lev nt N cs c e h rd y kd):=by
  intro cs
  induction cs with
  |nil=>intro c hw hl; exact execD_ok hgood hcl K hlev hr c hd x y kk kd hw hy hl hx hk
  |cons o l ih =>
    intro c hw hl
    cases c with
    |seq a b =>
      have ib:=ih b hw.2 (fun p hp=>hl p (List.mem_append_right _ hp))
      have la:∀ p∈loopsIn hd a,∀ ld,lh p.1=some ld->LoopOk G N call n lev nt p.1 p.2 ld:=fun p hp=>hl p (List.mem_append_left _ hp)
      cases o with
      |none=>exact execD_ok hgood hcl K hlev hr a hd x y _ _ hw.1 hy la hx ib
      |some hs=>exact execD_ok hgood hcl K hlev hr a hd x y _ _ hw.1 hy la hx (neatK_ok hs ib)
    |skip=>exact execD_ok hgood hcl K hlev hr _ hd x y kk kd hw hy hl hx hk
    |ops l'=>exact execD_ok hgood hcl K hlev hr _ hd x y kk kd hw hy hl hx hk
    |draw m al l'=>exact execD_ok hgood hcl K hlev hr _ hd x y kk kd hw hy hl hx hk
    |cond c a b=>exact execD_ok hgood hcl K hlev hr _ hd x y kk kd hw hy hl hx hk
    |block id b=>exact execD_ok hgood hcl K hlev hr _ hd x y kk kd hw hy hl hx hk
    |loop b=>exact execD_ok hgood hcl K hlev hr _ hd x y kk kd hw hy hl hx hk
    |exit id=>exact execD_ok hgood hcl K hlev hr _ hd x y kk kd hw hy hl hx hk
    |ret=>exact execD_ok hgood hcl K hlev hr _ hd x y kk kd hw hy hl hx hk
    |bad=>exact execD_ok hgood hcl K hlev hr _ hd x y kk kd hw hy hl hx hk
def topC (K:Kd) (cl:DC) (lh:Nat->Option LoopD) (lev:Nat) (cs:List (Option (List Hint))) (c:CFn) (l:List DV) (d:DH) (k:DK):Tree:=match Nat.ble l.length c.nt with
  |true=>cutD K cl lh lev c.nt d.n cs c.body (envOfD l 0 .lf) d (resultsD c.res k) [] (resultsD c.res k)
  |false=>.no
theorem topC_ok {G:Gl} (hG:G.n=P.globals.size) {O:Nat->List V->H->Res}{tab:Nat->Option CFn} (ht:Tab P tab) {n lev f:Nat}{c:CFn}{cl:DC} (gO:CallGood P.globals.size O) (hcl:ClOk G (callO noTmps O tab n) cl) (K:Kd) {lh:Nat->Option LoopD} (cs:List (Option (List Hint)))
    (hlev:lev<=n) (hO:∀ a h,O f a h=.no) (hc:tab f=some c) {l:List DV}{d:DH} (hl:∀ p∈loopsIn none c.body,∀ ld,lh p.1=some ld->LoopOk G d.n (callO noTmps O tab n) n lev c.nt p.1 p.2 ld)
    {k:DK}{L:Nat->Nat}{h:H} (R:Rep L d h) (w:wfh h) (g:G.J h) (hw:wfs h.n (toVs L l)):Tells d.n L d h (callO noTmps O tab (n+1) f (toVs L l) h) k (topC K cl lh lev cs c l d k):=by
  unfold topC
  split
  . rename_i hb
    have hle:=Nat.le_of_ble_eq_true hb
    rw[c_succ,hO,orElse_no,hc,b_some,if_pos (by rw[toVs_len]; exact hle)]
    have hcw:ccWf G.n c.body:=by
      rw[hG]
      obtain⟨fn,b,_,_,_,_,_,h7⟩:=fnOf_some (ht f c hc)
      rw[h7]; exact codeOf_wf P b
    exact cutD_ok (by rw[hG]; exact callO_good noTmps_ok gO ht n) hcl K hlev (resultsD_ok c.res k) rfl .nil (resultsD_ok c.res k) cs c.body hcw hl L _ d _ h (Nat.le_refl _)
      ⟨envOfD_to l 0 .lf .lf ⟨fun i=>.inl (T.get_lf _ _),fun i=>by rw[T.get_lf]; trivial⟩ hw,R,w,g⟩
  . exact tells_no
def runC (C:Ctx P) (Y:C.RL) (lh:Nat->Option LoopD) (lev:Nat) (cs:List (Option (List Hint))) (c:CFn) (l:List DV) (ao:List DO):Option (DV×DH) :=
  (topC C.K (callD (hookOf C.X Y) C.K C.kn C.tab lev) lh lev cs c l (mkD ao ao.length) (finK ao.length okK)).ev
theorem law_cut (C:Ctx P) (Y:C.RL) {lev f:Nat}{c:CFn}{ao:List DO}{l:List DV}{out:RD} (lh:Nat->Option LoopD) (cs:List (Option (List Hint))) (hf:C.kn f=false) (hc:C.tab f=some c)
    (hl:∀ n,lev<=n->∀ p∈loopsIn none c.body,∀ ld,lh p.1=some ld->LoopOk C.G ao.length (callO noTmps C.O C.tab n) n lev c.nt p.1 p.2 ld)
    (he:∀ z,(out.tree ao ao.length okK).ev=some z->runC C Y lh lev cs c l ao=some z):LawOk C.G C.O C.tab f (lev+1) ao l out:=by
  intro n hn k L h R w g hw z hz
  obtain⟨n',rfl⟩:∃ n',n=n'+1:=⟨n-1,by omega⟩
  obtain⟨x,d,h1,h2⟩:=tree_ok out hz
  have:=topC_ok C.hG C.ht C.hX.good (callD_ok C.hG C.ht C.hX.good C.K (hookOf_ok C.X C.hG C.hX C.ht Y C.hk) lev n' (by omega)) C.K (f:=f) (c:=c) (lh:=lh) cs (by omega) (C.hk f hf) hc (d:=mkD ao ao.length) (hl n' (by omega)) (k:=finK ao.length okK) R w g hw
  obtain⟨w1,d1,L1,h1',e1,R1,x1,hz1⟩:=this _ (he _ h1)
  unfold finK at hz1
  split at hz1
  . rename_i hb
    simp only[Bool.and_eq_true] at hb
    obtain⟨b1,b2,b3⟩:=hb
    have b1:=Nat.le_of_ble_eq_true b1
    have b2:=Nat.le_of_ble_eq_true b2
    split at hz1
    . rename_i w' σ hr
      have hq:(w',gathered ao.length d1 σ d1.fl)=(x,d):=Option.some.inj hz1
      obtain⟨rfl,rfl⟩:=Prod.mk.inj hq
      obtain⟨_,kr⟩:=renV_to (L:=L1) hr
      have sk:=renV_ok hr .nil
      have R2:=gather_rep R1 b1 sk b3 (Nat.le_refl _) b2 (.inl rfl)
      have x2:=gather_step R1 b1 sk
      exact⟨w',_,_,h1',by rw[kr _ (renL_ren _ _ _ _)]; exact e1,R2,x1.trans x2,h2⟩
    . cases hz1
  . cases hz1
end
end Go.Vm.R

namespace Go.Vm.R
noncomputable section
variable {P:Program}
def headC:CC->CC | .seq a _=>a | c=>c
def tailC:CC->CC | .seq _ b=>b | c=>c
def pcOf (c:CFn) (n:Nat):CC:=n.rec c.body fun _ r=>tailC r
structure Cuts where
  lh:Nat->Option LoopD
  lev:Nat
  N:Nat
  c:CFn
  cs:List (Option (List Hint))
abbrev Cuts.R (s:Cuts):EK:=resultsD s.c.res (finK s.N okK)
def pieceD (C:Ctx P) (Y:C.RL) (s:Cuts) (n:Nat) (e:T DV) (d:DH) (k:EK):Tree :=
  execD C.K (callD (hookOf C.X Y) C.K C.kn C.tab s.lev) s.lh s.lev s.c.nt s.N (headC (pcOf s.c n)) e d s.R [] k
def restD (C:Ctx P) (Y:C.RL) (s:Cuts) (n:Nat):EK:=fun e d =>
  cutD C.K (callD (hookOf C.X Y) C.K C.kn C.tab s.lev) s.lh s.lev s.c.nt s.N (s.cs.drop n) (pcOf s.c n) e d s.R [] s.R
def hn (l:List Nat):List Hint:=l.map fun t=>(t,none)
theorem rest_at (C:Ctx P) (Y:C.RL) (s:Cuts) (n:Nat) {hs:List Hint}{o:List (Option (List Hint))} (h1:s.cs.drop n=some hs::o) (h2:pcOf s.c n=.seq (headC (pcOf s.c n)) (pcOf s.c (n+1))) (e:T DV) (d:DH) :
    restD C Y s n e d=pieceD C Y s n e d (neatK s.N hs (restD C Y s (n+1))):=by
  have h3:s.cs.drop (n+1)=o:=by rw[show n+1=1+n by omega,Nat.add_comm,← List.drop_drop,h1]; rfl
  unfold restD pieceD
  rw[h1,h3]
  generalize pcOf s.c (n+1)=b at h2 ⊢
  generalize hh:headC (pcOf s.c n)=a at h2 ⊢
  rw[h2]
  rfl
theorem run_at (C:Ctx P) (Y:C.RL) (s:Cuts) {l:List DV}{ao:List DO} (hN:ao.length=s.N) (hb:Nat.ble l.length s.c.nt=true):runC C Y s.lh s.lev s.cs s.c l ao=(restD C Y s 0 (envOfD l 0 .lf) (mkD ao s.N)).ev:=by
  have e:(mkD ao s.N).n=s.N:=hN
  unfold runC topC restD
  rw[hb,hN,e]
  rfl
theorem by_piece (C:Ctx P) (Y:C.RL) (s:Cuts) (n:Nat) {hs:List Hint}{o:List (Option (List Hint))} (h1:s.cs.drop n=some hs::o) (h2:pcOf s.c n=.seq (headC (pcOf s.c n)) (pcOf s.c (n+1))) {e:T DV}{d:DH}{t:EK->Option (DV×DH)}{z:Option (DV×DH)}
    (hp:∀ kk,(pieceD C Y s n e d (neatK s.N hs kk)).ev=t kk) (hz:t (restD C Y s (n+1))=z):(restD C Y s n e d).ev=z:=by
  rw[rest_at C Y s n h1 h2,hp]; exact hz
end
end Go.Vm.R

namespace Go.Vm.YtkjjpmbpjfmbcaaGreatDoor
open Go.Proofs Go.Vm.R
noncomputable section
set_option maxRecDepth 10000
def ce73 (n:Nat):List R.Hint:=match n with
  |0=>hn [0,1,2,3]
  |1=>hn [0,1,2,3,9]
  |2=>hn [0,2,3,9,10]
  |3=>hn [0,2,9,10]
  |_=>hn [9]
def s73 (N:Nat):Cuts:=⟨fun _=>none,100,N,c73,[some (ce73 0),some (ce73 1),some (ce73 2),some (ce73 3),some (ce73 4)]⟩
theorem p73a0 (j n c:Nat) (ex:Bool) (full:List Ent) (sp:Bool) (el:R.EL) (i jj:Int) (kk:R.EK):(pieceD C Y0 (s73 1) 0 (R.envOfD [.rs 0 j n c 2 ex,.int .i64 i,.int .i64 jj,.nils] 0 .lf) (mkD [.r .ent full sp el] 1) (neatK 1 (ce73 0) kk)).ev =
    (kk (envZ [0,1,2,3] [DV.rs 0 j n c 2 ex,R.DV.int .i64 i,R.DV.int .i64 jj,R.DV.nils]) (mkD [DO.r RK.ent full sp el] 1)).ev:=by kernel_rfl
theorem p73a1 (j n c:Nat) (ex:Bool) (full:List Ent) (sp:Bool) (el:R.EL) (i jj:Int) (kk:R.EK):(pieceD C Y0 (s73 1) 1 (envZ [0,1,2,3] [.rs 0 j n c 2 ex,.int .i64 i,.int .i64 jj,.nils]) (mkD [.r .ent full sp el] 1) (neatK 1 (ce73 1) kk)).ev =
    cond (decide (0<=IntKind.wrap .i64 (IntKind.wrap .i64 ((↑n:Int)-IntKind.wrap .i64 (jj-i))+0))&&(decide (0<=IntKind.wrap .i64 (IntKind.wrap .i64 ((↑n:Int)-IntKind.wrap .i64 (jj-i))+0))&&(decide (Int.toNat (IntKind.wrap .i64 (IntKind.wrap .i64 ((↑n:Int)-IntKind.wrap .i64 (jj-i))+0))<=Int.toNat (IntKind.wrap .i64 (IntKind.wrap .i64 ((↑n:Int)-IntKind.wrap .i64 (jj-i))+0)))&&roomFor (Int.toNat (IntKind.wrap .i64 (IntKind.wrap .i64 ((↑n:Int)-IntKind.wrap .i64 (jj-i))+0))) 32))) ((kk (envZ [0,1,2,3,9] [DV.rs 0 j n c 2 ex,R.DV.int .i64 i,R.DV.int .i64 jj,R.DV.nils,DV.rs 1 0 (Int.toNat (IntKind.wrap .i64 (IntKind.wrap .i64 ((↑n:Int)-IntKind.wrap .i64 (jj-i))+0))) (Int.toNat (IntKind.wrap .i64 (IntKind.wrap .i64 ((↑n:Int)-IntKind.wrap .i64 (jj-i))+0))) 2 true]) (mkD [DO.r RK.ent full sp el,DO.r RK.ent (List.replicate (Int.toNat (IntKind.wrap .i64 (IntKind.wrap .i64 ((↑n:Int)-IntKind.wrap .i64 (jj-i))+0))) (RK.zero RK.ent)) false { e:=41,z:=0 }] 1)).ev) none:=by kernel_rfl
theorem p73a2 (j n c:Nat) (ex:Bool) (full:List Ent) (sp:Bool) (el:R.EL) (i jj:Int) (B:List Ent) (L:Nat) (kk:R.EK):(pieceD C Y0 (s73 1) 2 (envZ [0,1,2,3,9] [.rs 0 j n c 2 ex,.int .i64 i,.int .i64 jj,.nils,.rs 1 0 L L 2 true]) (mkD [.r .ent full sp el,.r .ent B false { e:=41,z:=0 }] 1) (neatK 1 (ce73 2) kk)).ev =
    cond (decide (0<=i)&&(decide (c<=c)&&(decide (Int.toNat i<=c)&&true))) (cond (Nat.ble (j+0+(Int.toNat i-0)) full.length) (cond (Nat.ble (0+L) (List.length B)) ((kk (envZ [0,2,3,9,10] [DV.rs 0 j n c 2 ex,R.DV.int .i64 jj,R.DV.nils,DV.rs 1 0 L L 2 true,R.DV.int .i64 (↑(min (List.length (List.take (Int.toNat i-0) (List.drop (j+0) full))) L):Int)]) (mkD [DO.r RK.ent full sp el,DO.r RK.ent (List.take 0 B++List.take (min (List.length (List.take (Int.toNat i-0) (List.drop (j+0) full))) L) (List.take (Int.toNat i-0) (List.drop (j+0) full))++List.drop (0+min (List.length (List.take (Int.toNat i-0) (List.drop (j+0) full))) L) B) false { e:=41,z:=0 }] 1)).ev) none) none) none:=by kernel_rfl
theorem p73a3 (j n c:Nat) (ex:Bool) (full:List Ent) (sp:Bool) (el:R.EL) (jj a:Int) (B:List Ent) (L:Nat) (kk:R.EK):(pieceD C Y0 (s73 1) 3 (envZ [0,2,3,9,10] [.rs 0 j n c 2 ex,.int .i64 jj,.nils,.rs 1 0 L L 2 true,.int .i64 a]) (mkD [.r .ent full sp el,.r .ent B false { e:=41,z:=0 }] 1) (neatK 1 (ce73 3) kk)).ev =
    cond (decide (0<=a)&&(decide (L<=L)&&(decide (L<=L)&&(decide (Int.toNat a<=L)&&true)))) (cond (Nat.ble (0+Int.toNat a+(L-Int.toNat a)) (List.length B)) ((kk (envZ [0,2,9,10] [DV.rs 0 j n c 2 ex,R.DV.int .i64 jj,DV.rs 1 0 L L 2 true,R.DV.int .i64 (IntKind.wrap .i64 (a+(↑(min 0 (L-Int.toNat a)):Int)))]) (mkD [DO.r RK.ent full sp el,DO.r RK.ent (List.take (0+Int.toNat a) B++List.take (min 0 (L-Int.toNat a)) ([]:List Ent)++List.drop (0+Int.toNat a+min 0 (L-Int.toNat a)) B) false { e:=41,z:=0 }] 1)).ev) none) none:=by kernel_rfl
theorem p73a4 (j n c:Nat) (ex:Bool) (full:List Ent) (sp:Bool) (el:R.EL) (jj a:Int) (B:List Ent) (L:Nat) (kk:R.EK):(pieceD C Y0 (s73 1) 4 (envZ [0,2,9,10] [.rs 0 j n c 2 ex,.int .i64 jj,.rs 1 0 L L 2 true,.int .i64 a]) (mkD [.r .ent full sp el,.r .ent B false { e:=41,z:=0 }] 1) (neatK 1 (ce73 4) kk)).ev =
    cond (decide (0<=a)&&(decide (L<=L)&&(decide (L<=L)&&(decide (Int.toNat a<=L)&&true)))) (cond (decide (0<=jj)&&(decide (c<=c)&&(decide (n<=c)&&(decide (Int.toNat jj<=n)&&true)))) (cond (Nat.ble (j+Int.toNat jj+(n-Int.toNat jj)) full.length) (cond (Nat.ble (0+Int.toNat a+(L-Int.toNat a)) (List.length B)) ((kk (envZ [9] [DV.rs 1 0 L L 2 true]) (mkD [DO.r RK.ent full sp el,DO.r RK.ent (List.take (0+Int.toNat a) B++List.take (min (List.length (List.take (n-Int.toNat jj) (List.drop (j+Int.toNat jj) full))) (L-Int.toNat a)) (List.take (n-Int.toNat jj) (List.drop (j+Int.toNat jj) full))++List.drop (0+Int.toNat a+min (List.length (List.take (n-Int.toNat jj) (List.drop (j+Int.toNat jj) full))) (L-Int.toNat a)) B) false { e:=41,z:=0 }] 1)).ev) none) none) none) none:=by kernel_rfl
theorem p73a5 (j n c:Nat) (ex:Bool) (full:List Ent) (sp:Bool) (el:R.EL) (B:List Ent) (L:Nat):(restD C Y0 (s73 1) 5 (envZ [9] [.rs 1 0 L L 2 true]) (mkD [.r .ent full sp el,.r .ent B false { e:=41,z:=0 }] 1)).ev =
    some (DV.rs 1 0 L L 2 true,(mkD [DO.r RK.ent full sp el,DO.r RK.ent B false { e:=41,z:=0 }] 1)):=by kernel_rfl
theorem p73b0 (j n c:Nat) (ex:Bool) (full:List Ent) (sp:Bool) (el:R.EL) (ik iv:Txt) (isp iex:Bool) (iel:R.EL) (i jj:Int) (kk:R.EK):(pieceD C Y0 (s73 2) 0 (R.envOfD [.rs 0 j n c 2 ex,.int .i64 i,.int .i64 jj,.rs 1 0 1 1 2 iex] 0 .lf) (mkD [.r .ent full sp el,.r .ent [(ik,iv)] isp iel] 2) (neatK 2 (ce73 0) kk)).ev =
    (kk (envZ [0,1,2,3] [DV.rs 0 j n c 2 ex,R.DV.int .i64 i,R.DV.int .i64 jj,DV.rs 1 0 1 1 2 iex]) (mkD [DO.r RK.ent full sp el,DO.r RK.ent [(ik,iv)] isp iel] 2)).ev:=by kernel_rfl
theorem p73b1 (j n c:Nat) (ex:Bool) (full:List Ent) (sp:Bool) (el:R.EL) (ik iv:Txt) (isp iex:Bool) (iel:R.EL) (i jj:Int) (kk:R.EK):(pieceD C Y0 (s73 2) 1 (envZ [0,1,2,3] [.rs 0 j n c 2 ex,.int .i64 i,.int .i64 jj,.rs 1 0 1 1 2 iex]) (mkD [.r .ent full sp el,.r .ent [(ik,iv)] isp iel] 2) (neatK 2 (ce73 1) kk)).ev =
    cond (decide (0<=IntKind.wrap .i64 (IntKind.wrap .i64 ((↑n:Int)-IntKind.wrap .i64 (jj-i))+1))&&(decide (0<=IntKind.wrap .i64 (IntKind.wrap .i64 ((↑n:Int)-IntKind.wrap .i64 (jj-i))+1))&&(decide (Int.toNat (IntKind.wrap .i64 (IntKind.wrap .i64 ((↑n:Int)-IntKind.wrap .i64 (jj-i))+1))<=Int.toNat (IntKind.wrap .i64 (IntKind.wrap .i64 ((↑n:Int)-IntKind.wrap .i64 (jj-i))+1)))&&roomFor (Int.toNat (IntKind.wrap .i64 (IntKind.wrap .i64 ((↑n:Int)-IntKind.wrap .i64 (jj-i))+1))) 32))) ((kk (envZ [0,1,2,3,9] [DV.rs 0 j n c 2 ex,R.DV.int .i64 i,R.DV.int .i64 jj,DV.rs 1 0 1 1 2 iex,DV.rs 2 0 (Int.toNat (IntKind.wrap .i64 (IntKind.wrap .i64 ((↑n:Int)-IntKind.wrap .i64 (jj-i))+1))) (Int.toNat (IntKind.wrap .i64 (IntKind.wrap .i64 ((↑n:Int)-IntKind.wrap .i64 (jj-i))+1))) 2 true]) (mkD [DO.r RK.ent full sp el,DO.r RK.ent [(ik,iv)] isp iel,DO.r RK.ent (List.replicate (Int.toNat (IntKind.wrap .i64 (IntKind.wrap .i64 ((↑n:Int)-IntKind.wrap .i64 (jj-i))+1))) (RK.zero RK.ent)) false { e:=41,z:=0 }] 2)).ev) none:=by kernel_rfl
theorem p73b2 (j n c:Nat) (ex:Bool) (full:List Ent) (sp:Bool) (el:R.EL) (ik iv:Txt) (isp iex:Bool) (iel:R.EL) (i jj:Int) (B:List Ent) (L:Nat) (kk:R.EK):(pieceD C Y0 (s73 2) 2 (envZ [0,1,2,3,9] [.rs 0 j n c 2 ex,.int .i64 i,.int .i64 jj,.rs 1 0 1 1 2 iex,.rs 2 0 L L 2 true]) (mkD [.r .ent full sp el,.r .ent [(ik,iv)] isp iel,.r .ent B false { e:=41,z:=0 }] 2) (neatK 2 (ce73 2) kk)).ev =
    cond (decide (0<=i)&&(decide (c<=c)&&(decide (Int.toNat i<=c)&&true))) (cond (Nat.ble (j+0+(Int.toNat i-0)) full.length) (cond (Nat.ble (0+L) (List.length B)) ((kk (envZ [0,2,3,9,10] [DV.rs 0 j n c 2 ex,R.DV.int .i64 jj,DV.rs 1 0 1 1 2 iex,DV.rs 2 0 L L 2 true,R.DV.int .i64 (↑(min (List.length (List.take (Int.toNat i-0) (List.drop (j+0) full))) L):Int)]) (mkD [DO.r RK.ent full sp el,DO.r RK.ent [(ik,iv)] isp iel,DO.r RK.ent (List.take 0 B++List.take (min (List.length (List.take (Int.toNat i-0) (List.drop (j+0) full))) L) (List.take (Int.toNat i-0) (List.drop (j+0) full))++List.drop (0+min (List.length (List.take (Int.toNat i-0) (List.drop (j+0) full))) L) B) false { e:=41,z:=0 }] 2)).ev) none) none) none:=by kernel_rfl
theorem p73b3 (j n c:Nat) (ex:Bool) (full:List Ent) (sp:Bool) (el:R.EL) (ik iv:Txt) (isp iex:Bool) (iel:R.EL) (jj a:Int) (B:List Ent) (L:Nat) (kk:R.EK):(pieceD C Y0 (s73 2) 3 (envZ [0,2,3,9,10] [.rs 0 j n c 2 ex,.int .i64 jj,.rs 1 0 1 1 2 iex,.rs 2 0 L L 2 true,.int .i64 a]) (mkD [.r .ent full sp el,.r .ent [(ik,iv)] isp iel,.r .ent B false { e:=41,z:=0 }] 2) (neatK 2 (ce73 3) kk)).ev =
    cond (decide (0<=a)&&(decide (L<=L)&&(decide (L<=L)&&(decide (Int.toNat a<=L)&&true)))) (cond (Nat.ble (0+Int.toNat a+(L-Int.toNat a)) (List.length B)) ((kk (envZ [0,2,9,10] [DV.rs 0 j n c 2 ex,R.DV.int .i64 jj,DV.rs 2 0 L L 2 true,R.DV.int .i64 (IntKind.wrap .i64 (a+(↑(min (List.length (List.take 1 (List.drop 0 ([(ik,iv)]:List Ent)))) (L-Int.toNat a)):Int)))]) (mkD [DO.r RK.ent full sp el,DO.r RK.ent [(ik,iv)] isp iel,DO.r RK.ent (List.take (0+Int.toNat a) B++List.take (min (List.length (List.take 1 (List.drop 0 ([(ik,iv)]:List Ent)))) (L-Int.toNat a)) (List.take 1 (List.drop 0 ([(ik,iv)]:List Ent)))++List.drop (0+Int.toNat a+min (List.length (List.take 1 (List.drop 0 ([(ik,iv)]:List Ent)))) (L-Int.toNat a)) B) false { e:=41,z:=0 }] 2)).ev) none) none:=by kernel_rfl
theorem p73b4 (j n c:Nat) (ex:Bool) (full:List Ent) (sp:Bool) (el:R.EL) (ik iv:Txt) (isp iex:Bool) (iel:R.EL) (jj a:Int) (B:List Ent) (L:Nat) (kk:R.EK):(pieceD C Y0 (s73 2) 4 (envZ [0,2,9,10] [.rs 0 j n c 2 ex,.int .i64 jj,.rs 2 0 L L 2 true,.int .i64 a]) (mkD [.r .ent full sp el,.r .ent [(ik,iv)] isp iel,.r .ent B false { e:=41,z:=0 }] 2) (neatK 2 (ce73 4) kk)).ev =
    cond (decide (0<=a)&&(decide (L<=L)&&(decide (L<=L)&&(decide (Int.toNat a<=L)&&true)))) (cond (decide (0<=jj)&&(decide (c<=c)&&(decide (n<=c)&&(decide (Int.toNat jj<=n)&&true)))) (cond (Nat.ble (j+Int.toNat jj+(n-Int.toNat jj)) full.length) (cond (Nat.ble (0+Int.toNat a+(L-Int.toNat a)) (List.length B)) ((kk (envZ [9] [DV.rs 2 0 L L 2 true]) (mkD [DO.r RK.ent full sp el,DO.r RK.ent [(ik,iv)] isp iel,DO.r RK.ent (List.take (0+Int.toNat a) B++List.take (min (List.length (List.take (n-Int.toNat jj) (List.drop (j+Int.toNat jj) full))) (L-Int.toNat a)) (List.take (n-Int.toNat jj) (List.drop (j+Int.toNat jj) full))++List.drop (0+Int.toNat a+min (List.length (List.take (n-Int.toNat jj) (List.drop (j+Int.toNat jj) full))) (L-Int.toNat a)) B) false { e:=41,z:=0 }] 2)).ev) none) none) none) none:=by kernel_rfl
theorem p73b5 (j n c:Nat) (ex:Bool) (full:List Ent) (sp:Bool) (el:R.EL) (ik iv:Txt) (isp iex:Bool) (iel:R.EL) (B:List Ent) (L:Nat):(restD C Y0 (s73 2) 5 (envZ [9] [.rs 2 0 L L 2 true]) (mkD [.r .ent full sp el,.r .ent [(ik,iv)] isp iel,.r .ent B false { e:=41,z:=0 }] 2)).ev =
    some (DV.rs 2 0 L L 2 true,(mkD [DO.r RK.ent full sp el,DO.r RK.ent [(ik,iv)] isp iel,DO.r RK.ent B false { e:=41,z:=0 }] 2)):=by kernel_rfl
theorem cp_app {X Y S:List Ent}{o m:Nat} (ho:X.length=o) (hs:S.length<=Y.length) (hm:S.length<=m):List.take o (X++Y)++List.take (min S.length m) S++List.drop (o+min S.length m) (X++Y)=(X++S)++List.drop S.length Y:=by
  rw[Nat.min_eq_left hm,List.take_length,← List.drop_drop,List.take_left' ho,List.drop_left' ho]
def bt (s:List Ent) (i jj:Nat) (ins:List Ent):List Ent:=s.take i++ins++s.drop jj
theorem bt_len {s:List Ent}{i jj:Nat}{ins:List Ent} (h1:i<=jj) (h2:jj<=s.length):(bt s i jj ins).length=s.length-(jj-i)+ins.length:=by
  unfold bt
  rw[List.length_append,List.length_append,List.length_take,List.length_drop]
  omega
theorem mk_ok {L:Nat} (h:L<99):(decide (0<=(L:Int))&&(decide (0<=(L:Int))&&(decide (L<=L)&&roomFor L 32)))=true:=by
  rw[decide_eq_true (show 0<=(L:Int) by omega),decide_eq_true (Nat.le_refl L),room_small h]; rfl
abbrev rowO (B:List Ent):R.DO:=.r .ent B false { e:=41,z:=0 }
theorem cT1 {i c:Nat} (h:i<=c):(decide (0<=(i:Int))&&(decide (c<=c)&&(decide (i<=c)&&true)))=true:=by
  rw[decide_eq_true (show 0<=(i:Int) by omega),decide_eq_true (Nat.le_refl c),decide_eq_true h]; rfl
theorem cT3 {a n c:Nat} (h:a<=n) (hc:n<=c):(decide (0<=(a:Int))&&(decide (c<=c)&&(decide (n<=c)&&(decide (a<=n)&&true))))=true:=by
  rw[decide_eq_true (show 0<=(a:Int) by omega),decide_eq_true (Nat.le_refl c),decide_eq_true hc,decide_eq_true h]; rfl
theorem w_add {a b:Nat} (h:a+b<999):IntKind.wrap .i64 ((a:Int)+(b:Int))=((a+b:Nat):Int):=by rw[wrap_i64 (by omega) (by omega)]; omega
theorem head_eq {full:List Ent}{j n i:Nat} (h:i<=n):List.take (i-0) (List.drop (j+0) full)=List.take i (seg full j n):=by
  unfold seg; rw[List.take_take,Nat.min_eq_left h]; rfl
theorem tail_eq {full:List Ent}{j n i:Nat}:List.take (n-i) (List.drop (j+i) full)=List.drop i (seg full j n):=by
  unfold seg; rw[List.drop_take,List.drop_drop]
theorem put73a (j n c:Nat) (ex:Bool) (full:List Ent) (sp:Bool) (el:R.EL) (i jj:Nat) (h1:i<=jj) (h2:jj<=n) (hn:n<99) (hc:n<=c) (p1:j+n<=full.length) (L:Nat) (hL:L=n-(jj-i)) (B:List Ent) (hB:B.length=L) :
    (restD C Y0 (s73 1) 2 (envZ [0,1,2,3,9] [.rs 0 j n c 2 ex,.int .i64 (i:Int),.int .i64 (jj:Int),.nils,.rs 1 0 L L 2 true]) (mkD [.r .ent full sp el,rowO B] 1)).ev =
    some (.rs 1 0 L L 2 true,mkD [.r .ent full sp el,rowO (bt (seg full j n) i jj [])] 1):=by
  have hl:(seg full j n).length=n:=seg_len p1
  refine by_piece C Y0 (s73 1) 2 rfl rfl (fun kk=>p73a2 j n c ex full sp el i jj B L kk) ?_
  have l1:(List.take i (seg full j n)).length=i:=by rw[List.length_take]; omega
  rw[Int.toNat_natCast,cT1 (show i<=c by omega),cond_true,Nat.ble_eq_true_of_le (show j+0+(i-0)<=full.length by omega),cond_true,Nat.ble_eq_true_of_le (show 0+L<=B.length by omega),cond_true,head_eq (n:=n) (by omega)]
  have b1:=cp_app (X:=[]) (Y:=B) (S:=List.take i (seg full j n)) (o:=0) (m:=L) rfl (by omega) (by omega)
  rw[List.nil_append,List.nil_append] at b1
  rw[b1,Nat.min_eq_left (show (List.take i (seg full j n)).length<=L by omega),l1]
  refine by_piece C Y0 (s73 1) 3 rfl rfl (fun kk=>p73a3 j n c ex full sp el jj _ _ L kk) ?_
  have l2:(List.take i (seg full j n)++List.drop i B).length=L:=by rw[List.length_append,l1,List.length_drop]; omega
  have b2:=cp_app (X:=List.take i (seg full j n)) (Y:=List.drop i B) (S:=[]) (o:=i) (m:=L-i) l1 (Nat.zero_le _) (Nat.zero_le _)
  rw[List.append_nil,List.length_nil,List.drop_zero,Nat.zero_min] at b2
  rw[Int.toNat_natCast,cT3 (show i<=L by omega) (Nat.le_refl L),cond_true,l2,Nat.ble_eq_true_of_le (show 0+i+(L-i)<=L by omega),cond_true,Nat.zero_min,Nat.zero_add,b2,w_add (show i+0<999 by omega),show i+0=i from rfl]
  refine by_piece C Y0 (s73 1) 4 rfl rfl (fun kk=>p73a4 j n c ex full sp el jj _ _ L kk) ?_
  have l3:(List.drop jj (seg full j n)).length=L-i:=by rw[List.length_drop,hl]; omega
  have l4:(List.drop i B).length=L-i:=by rw[List.length_drop,hB]
  have b3:=cp_app (X:=List.take i (seg full j n)) (Y:=List.drop i B) (S:=List.drop jj (seg full j n)) (o:=i) (m:=L-i) l1 (by omega) (by omega)
  rw[l3,List.drop_eq_nil_of_le (show (List.drop i B).length<=L-i by omega),List.append_nil,Nat.min_self] at b3
  rw[Int.toNat_natCast,Int.toNat_natCast,cT3 (show i<=L by omega) (Nat.le_refl L),cond_true,cT3 (show jj<=n by omega) hc,cond_true,Nat.ble_eq_true_of_le (show j+jj+(n-jj)<=full.length by omega),cond_true,l2,Nat.ble_eq_true_of_le (show 0+i+(L-i)<=L by omega),cond_true,tail_eq,l3,Nat.min_self,Nat.zero_add,b3]
  refine (p73a5 j n c ex full sp el _ L).trans ?_
  unfold bt
  rw[List.append_nil]
theorem put73b (j n c:Nat) (ex:Bool) (full:List Ent) (sp:Bool) (el:R.EL) (ik iv:Txt) (isp iex:Bool) (iel:R.EL) (i jj:Nat) (h1:i<=jj) (h2:jj<=n) (hn:n<99) (hc:n<=c) (p1:j+n<=full.length) (L:Nat) (hL:L=n-(jj-i)+1) (B:List Ent) (hB:B.length=L) :
    (restD C Y0 (s73 2) 2 (envZ [0,1,2,3,9] [.rs 0 j n c 2 ex,.int .i64 (i:Int),.int .i64 (jj:Int),.rs 1 0 1 1 2 iex,.rs 2 0 L L 2 true]) (mkD [.r .ent full sp el,.r .ent [(ik,iv)] isp iel,rowO B] 2)).ev =
    some (.rs 2 0 L L 2 true,mkD [.r .ent full sp el,.r .ent [(ik,iv)] isp iel,rowO (bt (seg full j n) i jj [(ik,iv)])] 2):=by
  have hl:(seg full j n).length=n:=seg_len p1
  refine by_piece C Y0 (s73 2) 2 rfl rfl (fun kk=>p73b2 j n c ex full sp el ik iv isp iex iel i jj B L kk) ?_
  have l1:(List.take i (seg full j n)).length=i:=by rw[List.length_take]; omega
  rw[Int.toNat_natCast,cT1 (show i<=c by omega),cond_true,Nat.ble_eq_true_of_le (show j+0+(i-0)<=full.length by omega),cond_true,Nat.ble_eq_true_of_le (show 0+L<=B.length by omega),cond_true,head_eq (n:=n) (by omega)]
  have b1:=cp_app (X:=[]) (Y:=B) (S:=List.take i (seg full j n)) (o:=0) (m:=L) rfl (by omega) (by omega)
  rw[List.nil_append,List.nil_append] at b1
  rw[b1,Nat.min_eq_left (show (List.take i (seg full j n)).length<=L by omega),l1]
  refine by_piece C Y0 (s73 2) 3 rfl rfl (fun kk=>p73b3 j n c ex full sp el ik iv isp iex iel jj _ _ L kk) ?_
  have l2:(List.take i (seg full j n)++List.drop i B).length=L:=by rw[List.length_append,l1,List.length_drop]; omega
  have li:([(ik,iv)]:List Ent).length=1:=rfl
  have b2:=cp_app (X:=List.take i (seg full j n)) (Y:=List.drop i B) (S:=[(ik,iv)]) (o:=i) (m:=L-i) l1 (by rw[List.length_drop,li]; omega) (by rw[li]; omega)
  rw[li,Nat.min_eq_left (show 1<=L-i by omega)] at b2
  rw[Int.toNat_natCast,cT3 (show i<=L by omega) (Nat.le_refl L),cond_true,l2,Nat.ble_eq_true_of_le (show 0+i+(L-i)<=L by omega),cond_true,show List.take 1 (List.drop 0 ([(ik,iv)]:List Ent))=[(ik,iv)] from rfl,li,Nat.min_eq_left (show 1<=L-i by omega),Nat.zero_add,b2,w_add (show i+1<999 by omega)]
  refine by_piece C Y0 (s73 2) 4 rfl rfl (fun kk=>p73b4 j n c ex full sp el ik iv isp iex iel jj _ _ L kk) ?_
  have l3:(List.drop jj (seg full j n)).length=L-(i+1):=by rw[List.length_drop,hl]; omega
  have l5:(List.take i (seg full j n)++[(ik,iv)]).length=i+1:=by rw[List.length_append,l1]; rfl
  have l4:(List.drop 1 (List.drop i B)).length=L-(i+1):=by rw[List.length_drop,List.length_drop,hB]; omega
  have l6:(List.take i (seg full j n)++[(ik,iv)]++List.drop 1 (List.drop i B)).length=L:=by rw[List.length_append,l5,l4]; omega
  have b3:=cp_app (X:=List.take i (seg full j n)++[(ik,iv)]) (Y:=List.drop 1 (List.drop i B)) (S:=List.drop jj (seg full j n)) (o:=i+1) (m:=L-(i+1)) l5 (by omega) (by omega)
  rw[l3,List.drop_eq_nil_of_le (show (List.drop 1 (List.drop i B)).length<=L-(i+1) by omega),List.append_nil,Nat.min_self] at b3
  rw[Int.toNat_natCast,Int.toNat_natCast,cT3 (show i+1<=L by omega) (Nat.le_refl L),cond_true,cT3 (show jj<=n by omega) hc,cond_true,Nat.ble_eq_true_of_le (show j+jj+(n-jj)<=full.length by omega),cond_true,l6,Nat.ble_eq_true_of_le (show 0+(i+1)+(L-(i+1))<=L by omega),cond_true,tail_eq,l3,Nat.min_self,Nat.zero_add,b3]
  exact p73b5 j n c ex full sp el ik iv isp iex iel _ L
theorem w_len {n i jj m:Nat} (h1:i<=jj) (h2:jj<=n) (hn:n<99) (hm:m<=1):IntKind.wrap .i64 (IntKind.wrap .i64 ((n:Int)-IntKind.wrap .i64 ((jj:Int)-(i:Int)))+(m:Int))=((n-(jj-i)+m:Nat):Int):=by
  rw[show IntKind.wrap .i64 ((jj:Int)-(i:Int))=(jj:Int)-i from wrap_i64 (by omega) (by omega),show IntKind.wrap .i64 ((n:Int)-((jj:Int)-i))=(n:Int)-((jj:Int)-i) from wrap_i64 (by omega) (by omega),wrap_i64 (by omega) (by omega)]
  omega
abbrev BF:=List Ent->Nat->Nat->List Ent->List Ent
def ok73 (full:List Ent) (j n c:Nat) (i jj:Int):Bool:=okN full j n&&decide (0<=i/\i<=jj/\jj<=n/\n<98/\n<=c)
def out73 (bf:BF) (o:Nat) (full:List Ent) (j n c:Nat) (i jj:Int) (ins:List Ent):RD:=.need (ok73 full j n c i jj) (.v (.rs o 0 (bf (seg full j n) i.toNat jj.toNat ins).length (bf (seg full j n) i.toNat jj.toNat ins).length 2 true) [rowO (bf (seg full j n) i.toNat jj.toNat ins)])
theorem law73a (j n c:Nat) (ex:Bool) (full:List Ent) (sp:Bool) (el:R.EL) (i jj:Int):LawOk C.G C.O C.tab 73 101 [.r .ent full sp el] [.rs 0 j n c 2 ex,.int .i64 i,.int .i64 jj,.nils] (out73 bt 1 full j n c i jj []):=by
  refine law_cut C Y0 (s73 1).lh (s73 1).cs rfl rfl (fun n hn p _ ld e=>by cases e) fun z hz=>?_
  obtain⟨hp,hz⟩:=R.ev_need hz
  unfold ok73 at hp
  rw[Bool.and_eq_true,decide_eq_true_eq] at hp
  obtain⟨hk,h0,h1,h2,h3,hc⟩:=hp
  obtain⟨p1,_⟩:=okN_iff.1 hk
  obtain⟨i,rfl⟩:∃ m:Nat,i=m:=⟨i.toNat,by omega⟩
  obtain⟨jj,rfl⟩:∃ m:Nat,jj=m:=⟨jj.toNat,by omega⟩
  have hl:(seg full j n).length=n:=seg_len p1
  have g1:i<=jj:=by omega
  have g2:jj<=n:=by omega
  refine (run_at C Y0 (s73 1) (l:=[.rs 0 j n c 2 ex,.int .i64 i,.int .i64 jj,.nils]) (ao:=[.r .ent full sp el]) rfl rfl).trans (Eq.trans ?_ hz)
  refine by_piece C Y0 (s73 1) 0 rfl rfl (fun kk=>p73a0 j n c ex full sp el i jj kk) ?_
  refine by_piece C Y0 (s73 1) 1 rfl rfl (fun kk=>p73a1 j n c ex full sp el i jj kk) ?_
  have e:=w_len (m:=0) g1 g2 (by omega) (by omega)
  rw[show ((0:Nat):Int)=0 from rfl] at e
  have hb:=bt_len (s:=seg full j n) (ins:=[]) g1 (by omega)
  rw[hl] at hb
  rw[e,Int.toNat_natCast,mk_ok (by omega),cond_true]
  refine (put73a j n c ex full sp el i jj g1 g2 (by omega) hc p1 _ (by omega) _ List.length_replicate).trans ?_
  rw[Int.toNat_natCast,Int.toNat_natCast,hb]
  rfl
theorem law73b (j n c:Nat) (ex:Bool) (full:List Ent) (sp:Bool) (el:R.EL) (ik iv:Txt) (isp iex:Bool) (iel:R.EL) (i jj:Int):LawOk C.G C.O C.tab 73 101 [.r .ent full sp el,.r .ent [(ik,iv)] isp iel] [.rs 0 j n c 2 ex,.int .i64 i,.int .i64 jj,.rs 1 0 1 1 2 iex] (out73 bt 2 full j n c i jj [(ik,iv)]):=by
  refine law_cut C Y0 (s73 2).lh (s73 2).cs rfl rfl (fun n hn p _ ld e=>by cases e) fun z hz=>?_
  obtain⟨hp,hz⟩:=R.ev_need hz
  unfold ok73 at hp
  rw[Bool.and_eq_true,decide_eq_true_eq] at hp
  obtain⟨hk,h0,h1,h2,h3,hc⟩:=hp
  obtain⟨p1,_⟩:=okN_iff.1 hk
  obtain⟨i,rfl⟩:∃ m:Nat,i=m:=⟨i.toNat,by omega⟩
  obtain⟨jj,rfl⟩:∃ m:Nat,jj=m:=⟨jj.toNat,by omega⟩
  have hl:(seg full j n).length=n:=seg_len p1
  have g1:i<=jj:=by omega
  have g2:jj<=n:=by omega
  refine (run_at C Y0 (s73 2) (l:=[.rs 0 j n c 2 ex,.int .i64 i,.int .i64 jj,.rs 1 0 1 1 2 iex]) (ao:=[.r .ent full sp el,.r .ent [(ik,iv)] isp iel]) rfl rfl).trans (Eq.trans ?_ hz)
  refine by_piece C Y0 (s73 2) 0 rfl rfl (fun kk=>p73b0 j n c ex full sp el ik iv isp iex iel i jj kk) ?_
  refine by_piece C Y0 (s73 2) 1 rfl rfl (fun kk=>p73b1 j n c ex full sp el ik iv isp iex iel i jj kk) ?_
  have e:=w_len (m:=1) g1 g2 (by omega) (by omega)
  rw[show ((1:Nat):Int)=1 from rfl] at e
  have hb:=bt_len (s:=seg full j n) (ins:=[(ik,iv)]) g1 (by omega)
  rw[hl] at hb
  have hb:(bt (seg full j n) i jj [(ik,iv)]).length=n-(jj-i)+1:=hb
  rw[e,Int.toNat_natCast,mk_ok (by omega),cond_true]
  refine (put73b j n c ex full sp el ik iv isp iex iel i jj g1 g2 (by omega) hc p1 _ (by omega) _ List.length_replicate).trans ?_
  rw[Int.toNat_natCast,Int.toNat_natCast,hb]
  rfl
theorem law73n:LawOk C.G C.O C.tab 73 101 [] [.nils,.int .i64 0,.int .i64 0,.nils] (.v (.rs 0 0 0 0 2 true) [rowO []]):=by
  refine law_of C Y0 (fun _=>none) rfl rfl (fun n hn p _ ld e=>by cases e) fun z hz=>?_
  refine Eq.trans ?_ hz
  kernel_rfl
theorem law73m (ik iv:Txt) (isp iex:Bool) (iel:R.EL):LawOk C.G C.O C.tab 73 101 [.r .ent [(ik,iv)] isp iel] [.nils,.int .i64 0,.int .i64 0,.rs 0 0 1 1 2 iex] (.v (.rs 1 0 1 1 2 true) [rowO [(ik,iv)]]):=by
  refine law_of C Y0 (fun _=>none) rfl rfl (fun n hn p _ ld e=>by cases e) fun z hz=>?_
  refine Eq.trans ?_ hz
  kernel_rfl
def g73 (bf:BF):List R.DV->List R.DO->Option RD:=fun l ao=>match l,ao with
  |[.rs 0 j n c 2 ex,.int .i64 i,.int .i64 jj,.nils],[.r .ent full sp el]=>some (out73 bf 1 full j n c i jj [])
  |[.rs 0 j n c 2 ex,.int .i64 i,.int .i64 jj,.rs 1 0 1 1 2 iex],[.r .ent full sp el,.r .ent [(ik,iv)] isp iel]=>some (out73 bf 2 full j n c i jj [(ik,iv)])
  |[.nils,.int .i64 0,.int .i64 0,.nils],[]=>some (.v (.rs 0 0 0 0 2 true) [rowO []])
  |[.nils,.int .i64 0,.int .i64 0,.rs 0 0 1 1 2 iex],[.r .ent [(ik,iv)] isp iel]=>some (.v (.rs 1 0 1 1 2 true) [rowO [(ik,iv)]])
  |_,_=>none
theorem g73_ok' (bf:BF) (h:bf=bt) (l:List R.DV) (ao:List R.DO) (out:RD) (hg:g73 bf l ao=some out):LawOk C.G C.O C.tab 73 101 ao l out:=by
  subst h
  unfold g73 at hg
  split at hg
  . cases hg; exact law73a _ _ _ _ _ _ _ _ _
  . cases hg; exact law73b _ _ _ _ _ _ _ _ _ _ _ _ _ _
  . cases hg; exact law73n
  . cases hg; exact law73m _ _ _ _ _
  . cases hg
def XA (mf:MF) (h:mf=applyM):Laws Tryz.prog:=((lawsG mf h).add 38 gcheckM gcheckM_ok).add 40 gtouch g40_ok
theorem aboveA (mf:MF) (h:mf=applyM):Above (XA mf h) O:=by subst h; exact above
abbrev CA (mf:MF) (h:mf=applyM):Ctx Tryz.prog:=⟨XA mf h,gl,globals7.symm,O,aboveA mf h,tab,tab_ok,kn,kn_no,kd⟩
def gF27:List R.DV->List R.DO->Option RD:=fun l ao=>match l,ao with
  |[.rs 0 j n c 2 ex],[.r .ent full sp el]=>some (out27 full j n)
  |[.nils],[]=>some (.v (.int .i64 0) [])
  |_,_=>none
theorem lawF27n:LawOk C.G C.O C.tab 27 101 [] [.nils] (.v (.int .i64 0) []):=by
  refine law_of C Y0 (fun _=>none) rfl rfl (fun n hn p _ ld e=>by cases e) fun z hz=>?_
  refine Eq.trans ?_ hz
  kernel_rfl
theorem gF27_ok (l:List R.DV) (ao:List R.DO) (out:RD) (hg:gF27 l ao=some out):LawOk C.G C.O C.tab 27 101 ao l out:=by
  unfold gF27 at hg
  split at hg
  . cases hg; exact law27 _ _ _ _ _ _ _
  . cases hg; exact lawF27n
  . cases hg
structure FA where
  mf:MF
  h:mf=applyM
  cn:CN
  hc:cn=cntK
  bf:BF
  hb:bf=bt
def Y6 (A:FA):(CA A.mf A.h).RL:=(((Y1.add 27 101 gF27 gF27_ok).add 72 101 (gF72 A.cn) (gF72_ok A.cn A.hc)).add 73 101 (g73 A.bf) (g73_ok' A.bf A.hb):RLaws C.G C.O C.tab)
end
end Go.Vm.YtkjjpmbpjfmbcaaGreatDoor
