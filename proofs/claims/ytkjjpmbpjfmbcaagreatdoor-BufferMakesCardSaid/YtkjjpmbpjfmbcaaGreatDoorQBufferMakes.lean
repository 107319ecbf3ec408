/-
  The law BufferMakes holds: whatever the arguments, the call answers true, and leaves what was there as it was. Under the row's own condition alone: the library's tables hold what they hold at the start.
-/
import Derived.Test.YtkjjpmbpjfmbcaaGreatDoorQ15
import Derived.Test.YtkjjpmbpjfmbcaaGreatDoorCards
import Derived.Test.YtkjjpmbpjfmbcaaGreatDoorTie
import Derived.WalkKit
import Derived.ProofKit
import Derived.OpenShut
import Derived.Deep.DeepHandedRow
import Derived.Deep.DeepWitnessRowRef
import Derived.LaidMore
import Derived.Lay
import Derived.Stop.Joined
set_option linter.unusedVariables false
set_option linter.unusedSimpArgs false
namespace Go.Proofs.YtkjjpmbpjfmbcaaGreatDoor.fnBufferMakes
open Go.ChangeShapes Go.WideShapes Go.ChangeAt Go.RowKit Go.Vm Go.Vm.R Go.Vm.YtkjjpmbpjfmbcaaGreatDoor
theorem own:ownKnob Tryz.prog.godebug=none:=by kernel_rfl
noncomputable def FK:B.FM:=⟨Xv,rfl,B.doP,rfl,B.anyP,rfl,B.foldV,rfl⟩
theorem ok_m {full:List Msg}{len cap:Nat} (hfl:full.length=cap)(hlc:len<=cap)(hm:cap<=maxLen):B.okS full 0 len 0=true:=by
  have hmax:maxLen=9223372036854775807:=rfl
  exact B.okS_iff.2 ⟨by omega,by omega,by omega,by omega⟩
theorem ok_e {full:List Ent}{len cap:Nat} (hfl:full.length=cap)(hlc:len<=cap)(hm:cap<=maxLen):okS full 0 len 0=true:=by
  have hmax:maxLen=9223372036854775807:=rfl
  exact okS_iff.2 ⟨by omega,by omega,by omega,by omega⟩
theorem Xti {W:World}{el:Nat->Nat} (hW:Zn base el W) {p q:Pl}{e z len cap e1 z1 len1 cap1:Nat}{full:List RK.msg.T}{full1:List RK.ent.T} (hp:RowAt W base p (rowV .msg full) e z)(hq:RowAt W base q (rowV .ent full1) e1 z1)
    (hfl:full.length=cap) (hlc:len<=cap) (hm:cap<=maxLen) (hfl1:full1.length=cap1) (hlc1:len1<=cap1) (hm1:cap1<=maxLen) {v v1:Value}
    (hv:∀ ρ h,ρ Tryz.prog.globals.size=some p->VRel ρ h (toV (fun s=>Tryz.prog.globals.size+s) (.rs 0 0 len cap 4 true)) v)
    (hv1:∀ ρ h,ρ (Tryz.prog.globals.size+1)=some q->VRel ρ h (toV (fun s=>Tryz.prog.globals.size+1+s) (.rs 0 0 len1 cap1 2 true)) v1) (x y t u:ByteArray) (b:Bool) :
    Calls Tryz.prog 6 #[v,v1,.agg #[.string x,.string y,.string t,.string u,.bool b]] W fun e W'=>e=.returned (.bool true)/\Kept W W':=by
  have hok:(B.okS full 0 len 0&&okS full1 0 len1 0)=true:=by rw[ok_m hfl hlc hm,ok_e hfl1 hlc1 hm1]; rfl
  refine Xln C G_eq Xe8 X.O_sim Xbt (B.law6b FK 0 len cap true full true ⟨e,z⟩ 0 len1 cap1 true full1 true ⟨e1,z1⟩ x.data.toList y.data.toList t.data.toList u.data.toList b) (d:=mkD [.r .msg full true ⟨e,z⟩,.r .ent full1 true ⟨e1,z1⟩] 2) ?_ hW hp hq (vs:=[v,v1,.agg #[.string x,.string y,.string t,.string u,.bool b]]) ?_
    (fun ρ h hρ hρ1=>.cons (hv ρ h hρ) (.cons (hv1 ρ h hρ1) (.cons (.agg (.cons (.str x) (.cons (.str y) (.cons (.str t) (.cons (.str u) (.cons (.bool b) .nil)))))) .nil)))
  . show (R.Tree.need (B.okS full 0 len 0&&okS full1 0 len1 0) (.ok (.bool true) (mkD [.r .msg full true ⟨e,z⟩,.r .ent full1 true ⟨e1,z1⟩] 2))).ev=_
    rw[hok]; rfl
  . exact⟨by show Tryz.prog.globals.size + 0 < Tryz.prog.globals.size + 2; omega,⟨by show Tryz.prog.globals.size + 1 < Tryz.prog.globals.size + 2; omega,⟨trivial,trivial,trivial,trivial,trivial,trivial⟩,trivial⟩⟩
theorem Xtg {W:World}{el:Nat->Nat} (hW:Zn base el W) {p:Pl}{e z len cap:Nat}{full:List RK.msg.T} (hp:RowAt W base p (rowV .msg full) e z)(hfl:full.length=cap)(hlc:len<=cap)(hm:cap<=maxLen) {v:Value}
    (hv:∀ ρ h,ρ Tryz.prog.globals.size=some p->VRel ρ h (toV (fun s=>Tryz.prog.globals.size+s) (.rs 0 0 len cap 4 true)) v) (x y t u:ByteArray) (b:Bool) :
    Calls Tryz.prog 6 #[v,.slice none 0 0,.agg #[.string x,.string y,.string t,.string u,.bool b]] W fun e W'=>e=.returned (.bool true)/\Kept W W':=by
  refine Xiw C G_eq Xe8 X.O_sim Xbt (B.law6m FK 0 len cap true full true ⟨e,z⟩ x.data.toList y.data.toList t.data.toList u.data.toList b) (d:=mkD [.r .msg full true ⟨e,z⟩] 1) ?_ hW hp (vs:=[v,.slice none 0 0,.agg #[.string x,.string y,.string t,.string u,.bool b]]) ?_
    (fun ρ h hρ=>.cons (hv ρ h hρ) (.cons .nils (.cons (.agg (.cons (.str x) (.cons (.str y) (.cons (.str t) (.cons (.str u) (.cons (.bool b) .nil)))))) .nil)))
  . show (R.Tree.need (B.okS full 0 len 0) (.ok (.bool true) (mkD [.r .msg full true ⟨e,z⟩] 1))).ev=_
    rw[ok_m hfl hlc hm]; rfl
  . exact⟨Nat.lt_succ_self _,trivial,⟨trivial,trivial,trivial,trivial,trivial,trivial⟩,trivial⟩
theorem Xth {W:World}{el:Nat->Nat} (hW:Zn base el W) {p:Pl}{e z len cap:Nat}{full:List RK.ent.T} (hp:RowAt W base p (rowV .ent full) e z)(hfl:full.length=cap)(hlc:len<=cap)(hm:cap<=maxLen) {v:Value}
    (hv:∀ ρ h,ρ Tryz.prog.globals.size=some p->VRel ρ h (toV (fun s=>Tryz.prog.globals.size+s) (.rs 0 0 len cap 2 true)) v) (x y t u:ByteArray) (b:Bool) :
    Calls Tryz.prog 6 #[.slice none 0 0,v,.agg #[.string x,.string y,.string t,.string u,.bool b]] W fun e W'=>e=.returned (.bool true)/\Kept W W':=by
  refine Xiw C G_eq Xe8 X.O_sim Xbt (B.law6e FK 0 len cap true full true ⟨e,z⟩ x.data.toList y.data.toList t.data.toList u.data.toList b) (d:=mkD [.r .ent full true ⟨e,z⟩] 1) ?_ hW hp (vs:=[.slice none 0 0,v,.agg #[.string x,.string y,.string t,.string u,.bool b]]) ?_
    (fun ρ h hρ=>.cons .nils (.cons (hv ρ h hρ) (.cons (.agg (.cons (.str x) (.cons (.str y) (.cons (.str t) (.cons (.str u) (.cons (.bool b) .nil)))))) .nil)))
  . show (R.Tree.need (okS full 0 len 0) (.ok (.bool true) (mkD [.r .ent full true ⟨e,z⟩] 1))).ev=_
    rw[ok_e hfl hlc hm]; rfl
  . exact⟨trivial,Nat.lt_succ_self _,⟨trivial,trivial,trivial,trivial,trivial,trivial⟩,trivial⟩
theorem Xtf {W:World}{el:Nat->Nat} (hW:Zn base el W)(x y t u:ByteArray)(b:Bool):Calls Tryz.prog 6 #[.slice none 0 0,.slice none 0 0,.agg #[.string x,.string y,.string t,.string u,.bool b]] W fun e W'=>e=.returned (.bool true)/\Kept W W' :=
  Xjq C G_eq Xe8 X.O_sim Xbt (B.law6n FK x.data.toList y.data.toList t.data.toList u.data.toList b) (d:=mkD [] 0) rfl hW (vs:=[.slice none 0 0,.slice none 0 0,.agg #[.string x,.string y,.string t,.string u,.bool b]]) ⟨trivial,trivial,⟨trivial,trivial,trivial,trivial,trivial,trivial⟩,trivial⟩
    (fun _ _=>.cons .nils (.cons .nils (.cons (.agg (.cons (.str x) (.cons (.str y) (.cons (.str t) (.cons (.str u) (.cons (.bool b) .nil)))))) .nil)))
set_option maxRecDepth 100000 in
theorem contract (H : Type) (enc : TypeId × Value → H) (W : World) (args : Array Value) (ds gs : List (DataW H)) (before : List MemPlace)
    (hW:DataW.Whole enc Tryz.prog Tryz.f6.params.toList Rows.bufferMakesSpec.vars false W args.toList ds gs before)
    (bs:Nat) (hval:∀ (j:Nat) t v,Tryz.f6.params[j]? = some t->args[j]? = some v->Value.okWide Tryz.prog W .any bs t v)
    (hl:laidMetH Tryz.prog Rows.bufferMakesRow.laid W) (hsh:W.ShapedOpen Tryz.prog) :
    Calls Tryz.prog 6 args W fun e W'=>∃ v,e=.returned v/\Rows.bufferMakesSpec.post enc Tryz.prog Tryz.f6 false true false false W args v W':=by
  have hW':=hW;obtain⟨p,q,hA0,hV,rfl,hfz,hnd⟩:=hW
  have hA:DataW.TrodAll enc Tryz.prog W 0 (fun _=>true) true Tryz.f6.params.toList args.toList ds p:=hA0
  obtain⟨rfl,rfl⟩:=trodVars_none hV;rw[Tryz.params6] at hA hval;obtain⟨v0,v1,v2,d0,d1,d2,p0,p1,p2,rfl,rfl,rfl,h0,h1,h2⟩:=trodAll_three hA;obtain⟨x,y,t,u,b,rfl⟩:=Xr1 h2
  have hpl:∀ (W':World) (sp:Nat->Bool),DataW.Trod enc Tryz.prog W' 0 sp true 24 (.agg #[.string x,.string y,.string t,.string u,.bool b]) d2 p2/\p2=[]:=fun W' sp=>XjT (m:=8) (by kernel_rfl) h2
  obtain rfl:p2=[]:=(hpl W (fun _=>true)).2
  simp only[List.append_nil] at hW';have hel:=XjP W
  have key:(Calls Tryz.prog 6 #[v0,v1,.agg #[.string x,.string y,.string t,.string u,.bool b]] W fun e W'=>e=.returned (.bool true)/\Kept W W')/\∀ W',Kept W W'->∀ sp:Nat->Bool,(∀ x∈p0++p1,sp x.block=true)->DataW.Trod enc Tryz.prog W' 0 sp true 22 v0 d0 p0/\DataW.Trod enc Tryz.prog W' 0 sp true 36 v1 d1 p1:=by
    have l0:∀ sp:Nat->Bool,(∀ x∈p0++p1,sp x.block=true)->∀ x∈p0,sp x.block=true:=fun sp h x hx=>h x (List.mem_append_left _ hx)
    have l1:∀ sp:Nat->Bool,(∀ x∈p0++p1,sp x.block=true)->∀ x∈p1,sp x.block=true:=fun sp h x hx=>h x (List.mem_append_right _ hx)
    rcases Xlv h0 (hval 0 22 v0 rfl rfl) with ⟨rfl,hr⟩ | ⟨a,len,cap,full,cs,row,fr,rfl,hspot,hlc,hm,hfl,hb,hc,hr⟩
    . rcases Xgv (XqJ (t:=36) (by kernel_rfl)) h1 (hval 1 36 v1 rfl rfl) with ⟨rfl,hr1⟩ | ⟨a1,len1,cap1,full1,cs1,row1,fr1,rfl,hspot1,hlc1,hm1,hfl1,hb1,hc1,hr1⟩
      . exact⟨Xtf hel x y t u b,fun W' hk sp hsp=>⟨hr W' sp,hr1 W' sp⟩⟩
      . obtain⟨pl,e,z,hp,hv⟩:=XnB (B:=base) hel (fun y hy=>by cases hy) (Xfi hsh) hspot1 hlc1 hfl1 hb1 hc1 Tryz.prog.globals.size
        exact⟨Xth hel hp hfl1 hlc1 hm1 hv x y t u b,fun W' hk sp hsp=>⟨hr W' sp,hr1 W' hk sp (l1 sp hsp)⟩⟩
    . obtain⟨pl,e,z,hp,hv⟩:=XrS (B:=base) hel rfl (Xfi hsh) hspot hlc hfl hb hc Tryz.prog.globals.size
      rcases Xgv (XqJ (t:=36) (by kernel_rfl)) h1 (hval 1 36 v1 rfl rfl) with ⟨rfl,hr1⟩ | ⟨a1,len1,cap1,full1,cs1,row1,fr1,rfl,hspot1,hlc1,hm1,hfl1,hb1,hc1,hr1⟩
      . exact⟨Xtg hel hp hfl hlc hm hv x y t u b,fun W' hk sp hsp=>⟨hr W' hk sp (l0 sp hsp),hr1 W' sp⟩⟩
      . obtain⟨pl1,e1,z1,hp1,hv1⟩:=XnB (B:=base) hel (fun y hy=>by cases hy) (Xfi hsh) hspot1 hlc1 hfl1 hb1 hc1 (Tryz.prog.globals.size+1)
        exact⟨Xti hel hp hp1 hfl hlc hm hfl1 hlc1 hm1 hv hv1 x y t u b,fun W' hk sp hsp=>⟨hr W' hk sp (l0 sp hsp),hr1 W' hk sp (l1 sp hsp)⟩⟩
  refine key.1.mono fun e W' ⟨he,hk⟩=>?_
  subst he
  refine⟨_,rfl,Vm.Xhc (pa:=p0++p1) (pv:=[]) hW' (fun _ _ _=>trodAll_cons_mk (shut_bool Tryz.underlying4 _) trodAll_mk0) (fun sp hsp=>?_) (fun _ _=>rfl) (by simp) hk (ok_one (by kernel_rfl) rfl (okWide_bool_mk Tryz.underlying4 _))⟩
  have ht:=key.2 W' hk sp hsp
  have hpt:(Tryz.f6.params.toList:List TypeId)=[22,36,24]:=by rw[Tryz.params6]
  rw[hpt]
  exact⟨p0,p1,ht.1,⟨p1,[],ht.2,⟨[],[],(hpl W' sp).1,rfl,rfl⟩,by simp⟩,rfl⟩
theorem reads (os:Os) {H:Type} (enc:TypeId×Value->H):∃ places,DataW.whole enc Tryz.prog ((World.laidAll Tryz.prog os Rows.bufferMakesRow.laid).forCall (fun _ _=>0) ⟨#[],#[.slice none 0 0,.slice none 0 0,.agg #[.string ⟨#[]⟩,.string ⟨#[]⟩,.string ⟨#[]⟩,.string ⟨#[]⟩,.bool false]],[]⟩).memory Tryz.f6.params.toList Rows.bufferMakesSpec.vars false (#[.slice none 0 0,.slice none 0 0,.agg #[.string ⟨#[]⟩,.string ⟨#[]⟩,.string ⟨#[]⟩,.string ⟨#[]⟩,.bool false]]:Array Value).toList 8=some ([.nil,.nil,.agg [.lit (.string []),.lit (.string []),.lit (.string []),.lit (.string []),.lit (.bool false)]],[],places) :=
  ⟨[],by kernel_rfl⟩
theorem Xnl (os:Os):laidMetH Tryz.prog Rows.bufferMakesRow.laid ((World.laidAll Tryz.prog os Rows.bufferMakesRow.laid).forCall (fun _ _=>0) ⟨#[],#[.slice none 0 0,.slice none 0 0,.agg #[.string ⟨#[]⟩,.string ⟨#[]⟩,.string ⟨#[]⟩,.string ⟨#[]⟩,.bool false]],[]⟩).memory:=by
  rw[MakeChecks.laidMetH_plain _ _ _ (by kernel_rfl)]
  exact laidMet_laidAll _ (by kernel_rfl) (by kernel_rfl)
set_option maxRecDepth 100000 in
theorem lifted (os:Os)(started:os.Started)(H:Type)(enc:TypeId×Value->H)(F:Stop.Interp) :
    ReturnsInHanded {} Tryz.checked os 6 .any ((OpenSpec.ofChange Rows.bufferMakesSpec).preRow enc Tryz.prog Tryz.f6 Rows.bufferMakesRow.domain false Rows.bufferMakesRow.laid) (((OpenSpec.ofChange Rows.bufferMakesSpec).at F).post enc Tryz.prog Tryz.f6 false true false false):=by
  obtain⟨places,hx⟩:=reads os enc;refine returnsInHanded_of_row (C:=Tryz.checked) (s:=OpenSpec.ofChange Rows.bufferMakesSpec) own started (by kernel_rfl) Tryz.func6
    (witness_row_atRef (enc:=enc) (C:=Tryz.checked) false (World.laidAll Tryz.prog os Rows.bufferMakesRow.laid) #[.slice none 0 0,.slice none 0 0,.agg #[.string ⟨#[]⟩,.string ⟨#[]⟩,.string ⟨#[]⟩,.string ⟨#[]⟩,.bool false]] (World.laidAll_os _ _ _) (by kernel_rfl) (by kernel_rfl) (by kernel_rfl)
      (OpenSpec.preRow_of_cond 8 hx (by kernel_rfl) (fun k hk=>by cases hk) (by kernel_rfl) (Xnl os))) ?_
  intro W bs args ds gs before hval hW _ _ _ hl hsh _;exact contract H enc W args ds gs before hW bs hval hl hsh
theorem said:Rows.BufferMakesSaid :=
  OpenClaim.holds_of_cond 6 Tryz.f6 rfl rfl rfl rfl rfl rfl rfl ⟨rfl,rfl,rfl,rfl,rfl⟩ rfl rfl rfl rfl rfl (by kernel_rfl) Tryz.func6 (by kernel_rfl)
    (of_decide_eq_true (by kernel_rfl)) (by unfold Func.isWrapper; first | (rw[if_pos (by decide +kernel)]; kernel_rfl) | (rw[if_neg (by decide +kernel)]; exact⟨rfl,rfl⟩))
    (fun os started H enc _ F=>by rw[OpenClaim.pre_eq_preRow]; exact lifted os started H enc F)
theorem plain (f : FuncId) (fn : Func) (hf : Tryz.pinned.checked.prog.funcNamed "rillbed/rillbedlaw17.BufferMakes" = some f) (hfn : Tryz.pinned.checked.prog.funcs[f]? = some fn) :
    false=Tryz.pinned.checked.prog.looks []/\∀ (j:Nat) t,fn.params[j]? = some t->Tryz.pinned.checked.prog.wantsStandIn t=false:=by
  obtain rfl : f = 6 := Option.some.inj ((show Tryz.prog.funcNamed "rillbed/rillbedlaw17.BufferMakes" = some 6 by kernel_rfl).symm.trans hf) |>.symm
  obtain rfl:fn=Tryz.f6:=(Option.some.inj (Tryz.func6.symm.trans hfn)).symm
  refine⟨by kernel_rfl,fun j t ht=>?_⟩
  rw[Tryz.params6] at ht
  have hall:∀ t∈Tryz.f6.params.toList,Tryz.pinned.checked.prog.wantsStandIn t=false:=by
    rw[Tryz.params6];intro t ht;simp only[List.mem_cons,List.not_mem_nil,or_false] at ht
    rcases ht with rfl | rfl | rfl<;>kernel_rfl
  refine hall t ?_
  rw[Tryz.params6];exact List.mem_of_getElem? (i:=j) (by simpa using ht)
theorem card:Rows.BufferMakesCardSaid :=
  Claim7.holds_tied_plain_at .later [] _ _ _ _ said (fun _ h=>by cases h) (by kernel_rfl) (fun _ h=>by cases h) bufferMakes_row_tie rfl ⟨rfl,rfl⟩ (by kernel_rfl) rfl plain (by kernel_rfl)
end Go.Proofs.YtkjjpmbpjfmbcaaGreatDoor.fnBufferMakes
