/-
  The law BufferTakes holds: whatever the arguments, the call answers true, and leaves what was there as it was. Under the row's own condition alone: the library's tables hold what they hold at the start.
-/
import Derived.Test.YtkjjpmbpjfmbcaaGreatDoorQ12
import Derived.Test.YtkjjpmbpjfmbcaaGreatDoorCards
import Derived.Test.YtkjjpmbpjfmbcaaGreatDoorTie
import Derived.WalkKit
import Derived.ProofKit
import Derived.OpenShut
import Derived.Deep.DeepHandedRow
import Derived.Deep.DeepWitnessRowRef
import Derived.LaidMore
import Derived.Lay
import Derived.Stop.Joined
set_option linter.unusedVariables false
set_option linter.unusedSimpArgs false
namespace Go.Proofs.YtkjjpmbpjfmbcaaGreatDoor.fnBufferTakes
open Go.ChangeShapes Go.WideShapes Go.ChangeAt Go.RowKit Go.Vm Go.Vm.R Go.Vm.YtkjjpmbpjfmbcaaGreatDoor
theorem own:ownKnob Tryz.prog.godebug=none:=by kernel_rfl
theorem call_row {W:World}{el:Nat->Nat} (hW:BaseAt base el W) {p:Pl}{e z len cap:Nat}{full:List RK.msg.T} (hp:RowAt W base p (rowV .msg full) e z) (hfl:full.length=cap) (hlc:len<=cap) (hm:cap<=maxLen) {v:Value}
    (hv:∀ ρ h,ρ Tryz.prog.globals.size=some p->VRel ρ h (toV (fun s=>Tryz.prog.globals.size+s) (.rs 0 0 len cap 4 true)) v) (x y t u:ByteArray) (b:Bool) :
    Calls Tryz.prog 4 #[v,.agg #[.string x,.string y,.string t,.string u,.bool b]] W fun e W'=>e=.returned (.bool true)/\Kept W W':=by
  have hmax:maxLen=9223372036854775807:=rfl
  have hok:decide (0+len<=full.length/\len<=cap/\cap<9223372036854775808)=true:=by
    rw[decide_eq_true_eq]
    exact⟨Nat.le_trans (show 0+len<=cap by omega) (Nat.le_of_eq hfl.symm),hlc,by omega⟩
  refine row_call C G_eq base_ok X.O_sim base_meets (law4a 0 len cap true full true ⟨e,z⟩ x.data.toList y.data.toList t.data.toList u.data.toList b) (d:=mkD [.r .msg full true ⟨e,z⟩] 1) ?_ hW hp (vs:=[v,.agg #[.string x,.string y,.string t,.string u,.bool b]]) ?_
    (fun ρ h hρ=>.cons (hv ρ h hρ) (.cons (.agg (.cons (.str x) (.cons (.str y) (.cons (.str t) (.cons (.str u) (.cons (.bool b) .nil)))))) .nil))
  . show (R.Tree.need (decide (0+len<=full.length/\len<=cap/\cap<9223372036854775808)) (.ok (.bool true) (mkD [.r .msg full true ⟨e,z⟩] 1))).ev=_
    rw[hok]; rfl
  . exact⟨Nat.lt_succ_self _,⟨trivial,trivial,trivial,trivial,trivial,trivial⟩,trivial⟩
theorem call_nil {W:World}{el:Nat->Nat} (hW:BaseAt base el W) (x y t u:ByteArray) (b:Bool):Calls Tryz.prog 4 #[.slice none 0 0,.agg #[.string x,.string y,.string t,.string u,.bool b]] W fun e W'=>e=.returned (.bool true)/\Kept W W' :=
  plain_call C G_eq base_ok X.O_sim base_meets (law4n x.data.toList y.data.toList t.data.toList u.data.toList b) (d:=mkD [] 0) rfl hW (vs:=[.slice none 0 0,.agg #[.string x,.string y,.string t,.string u,.bool b]]) ⟨trivial,⟨trivial,trivial,trivial,trivial,trivial,trivial⟩,trivial⟩
    (fun _ _=>.cons .nils (.cons (.agg (.cons (.str x) (.cons (.str y) (.cons (.str t) (.cons (.str u) (.cons (.bool b) .nil)))))) .nil))
set_option maxRecDepth 100000 in
theorem contract (H:Type) (enc:TypeId×Value->H) (W:World) (args:Array Value) (ds gs:List (DataW H)) (before:List MemPlace)
    (hW:DataW.Whole enc Tryz.prog Tryz.f4.params.toList Rows.bufferTakesSpec.vars false W args.toList ds gs before)
    (bs:Nat) (hval:∀ (j:Nat) t v,Tryz.f4.params[j]? = some t->args[j]? = some v->Value.okWide Tryz.prog W .any bs t v)
    (hl:laidMetH Tryz.prog Rows.bufferTakesRow.laid W) (hsh:W.ShapedOpen Tryz.prog) :
    Calls Tryz.prog 4 args W fun e W'=>∃ v,e=.returned v/\Rows.bufferTakesSpec.post enc Tryz.prog Tryz.f4 false true false false W args v W':=by
  have hW':=hW
  obtain⟨p,q,hA0,hV,rfl,hfz,hnd⟩:=hW
  have hA:DataW.TrodAll enc Tryz.prog W 0 (fun _=>true) true Tryz.f4.params.toList args.toList ds p:=hA0
  obtain⟨rfl,rfl⟩:=trodVars_none hV
  rw[Tryz.params4] at hA hval
  obtain⟨v0,v1,d0,d1,p0,p1,rfl,rfl,rfl,h0,h1⟩:=trodAll_two hA
  obtain⟨x,y,t,u,b,rfl⟩:=rng_of h1
  have hpl:∀ (W':World) (sp:Nat->Bool),DataW.Trod enc Tryz.prog W' 0 sp true 24 (.agg #[.string x,.string y,.string t,.string u,.bool b]) d1 p1/\p1=[]:=fun W' sp=>Trod_plain (m:=8) (by kernel_rfl) h1
  obtain rfl:p1=[]:=(hpl W (fun _=>true)).2
  simp only[List.append_nil] at hW'
  have hel:=baseAt_nil W
  have key:(Calls Tryz.prog 4 #[v0,.agg #[.string x,.string y,.string t,.string u,.bool b]] W fun e W'=>e=.returned (.bool true)/\Kept W W')/\∀ W',Kept W W'->∀ sp:Nat->Bool,(∀ x∈p0,sp x.block=true)->DataW.Trod enc Tryz.prog W' 0 sp true 22 v0 d0 p0:=by
    rcases open_msgs h0 (hval 0 22 v0 rfl rfl) with ⟨rfl,hr⟩ | ⟨a,len,cap,full,cs,row,fr,rfl,hspot,hlc,hm,hfl,hb,hc,hr⟩
    . exact⟨call_nil hel x y t u b,fun W' _ sp _=>hr W' sp⟩
    . obtain⟨pl,e,z,hp,hv⟩:=msg_at (B:=base) hel rfl (other_of hsh) hspot hlc hfl hb hc Tryz.prog.globals.size
      exact⟨call_row hel hp hfl hlc hm hv x y t u b,hr⟩
  refine key.1.mono fun e W' ⟨he,hk⟩=>?_
  subst he
  refine⟨_,rfl,Vm.post_of_kept (pa:=p0) (pv:=[]) hW' (fun _ _ _=>trodAll_cons_mk (shut_bool Tryz.underlying4 _) trodAll_mk0) (fun sp hsp=>?_) (fun _ _=>rfl) (by simp) hk (ok_one (by kernel_rfl) rfl (okWide_bool_mk Tryz.underlying4 _))⟩
  have ht:=key.2 W' hk sp hsp
  have hpt:(Tryz.f4.params.toList:List TypeId)=[22,24]:=by rw[Tryz.params4]
  rw[hpt]
  exact⟨p0,[],ht,⟨[],[],(hpl W' sp).1,rfl,rfl⟩,by simp⟩
theorem reads (os:Os) {H:Type} (enc:TypeId×Value->H):∃ places,DataW.whole enc Tryz.prog ((World.laidAll Tryz.prog os Rows.bufferTakesRow.laid).forCall (fun _ _=>0) ⟨#[],#[.slice none 0 0,.agg #[.string ⟨#[]⟩,.string ⟨#[]⟩,.string ⟨#[]⟩,.string ⟨#[]⟩,.bool false]],[]⟩).memory Tryz.f4.params.toList Rows.bufferTakesSpec.vars false (#[.slice none 0 0,.agg #[.string ⟨#[]⟩,.string ⟨#[]⟩,.string ⟨#[]⟩,.string ⟨#[]⟩,.bool false]]:Array Value).toList 8=some ([.nil,.agg [.lit (.string []),.lit (.string []),.lit (.string []),.lit (.string []),.lit (.bool false)]],[],places) :=
  ⟨[],by kernel_rfl⟩
theorem laid_met (os:Os):laidMetH Tryz.prog Rows.bufferTakesRow.laid ((World.laidAll Tryz.prog os Rows.bufferTakesRow.laid).forCall (fun _ _=>0) ⟨#[],#[.slice none 0 0,.agg #[.string ⟨#[]⟩,.string ⟨#[]⟩,.string ⟨#[]⟩,.string ⟨#[]⟩,.bool false]],[]⟩).memory:=by
  rw[MakeChecks.laidMetH_plain _ _ _ (by kernel_rfl)]
  exact laidMet_laidAll _ (by kernel_rfl) (by kernel_rfl)
set_option maxRecDepth 100000 in
theorem lifted (os:Os) (started:os.Started) (H:Type) (enc:TypeId×Value->H) (F:Stop.Interp) :
    ReturnsInHanded {} Tryz.checked os 4 .any ((OpenSpec.ofChange Rows.bufferTakesSpec).preRow enc Tryz.prog Tryz.f4 Rows.bufferTakesRow.domain false Rows.bufferTakesRow.laid) (((OpenSpec.ofChange Rows.bufferTakesSpec).at F).post enc Tryz.prog Tryz.f4 false true false false):=by
  obtain⟨places,hx⟩:=reads os enc
  refine returnsInHanded_of_row (C:=Tryz.checked) (s:=OpenSpec.ofChange Rows.bufferTakesSpec) own started (by kernel_rfl) Tryz.func4
    (witness_row_atRef (enc:=enc) (C:=Tryz.checked) false (World.laidAll Tryz.prog os Rows.bufferTakesRow.laid) #[.slice none 0 0,.agg #[.string ⟨#[]⟩,.string ⟨#[]⟩,.string ⟨#[]⟩,.string ⟨#[]⟩,.bool false]] (World.laidAll_os _ _ _) (by kernel_rfl) (by kernel_rfl) (by kernel_rfl)
      (OpenSpec.preRow_of_cond 8 hx (by kernel_rfl) (fun k hk=>by cases hk) (by kernel_rfl) (laid_met os))) ?_
  intro W bs args ds gs before hval hW _ _ _ hl hsh _
  exact contract H enc W args ds gs before hW bs hval hl hsh
theorem said:Rows.BufferTakesSaid :=
  OpenClaim.holds_of_cond 4 Tryz.f4 rfl rfl rfl rfl rfl rfl rfl ⟨rfl,rfl,rfl,rfl,rfl⟩ rfl rfl rfl rfl rfl (by kernel_rfl) Tryz.func4 (by kernel_rfl)
    (of_decide_eq_true (by kernel_rfl)) (by unfold Func.isWrapper; first | (rw[if_pos (by decide +kernel)]; kernel_rfl) | (rw[if_neg (by decide +kernel)]; exact⟨rfl,rfl⟩))
    (fun os started H enc _ F=>by rw[OpenClaim.pre_eq_preRow]; exact lifted os started H enc F)
theorem plain (f : FuncId) (fn : Func) (hf : Tryz.pinned.checked.prog.funcNamed "rillbed/rillbedlaw17.BufferTakes" = some f) (hfn : Tryz.pinned.checked.prog.funcs[f]? = some fn) :
    false=Tryz.pinned.checked.prog.looks []/\∀ (j:Nat) t,fn.params[j]? = some t->Tryz.pinned.checked.prog.wantsStandIn t=false:=by
  obtain rfl : f = 4 := Option.some.inj ((show Tryz.prog.funcNamed "rillbed/rillbedlaw17.BufferTakes" = some 4 by kernel_rfl).symm.trans hf) |>.symm
  obtain rfl:fn=Tryz.f4:=(Option.some.inj (Tryz.func4.symm.trans hfn)).symm
  refine⟨by kernel_rfl,fun j t ht=>?_⟩
  rw[Tryz.params4] at ht
  have hall:∀ t∈Tryz.f4.params.toList,Tryz.pinned.checked.prog.wantsStandIn t=false:=by
    rw[Tryz.params4]
    intro t ht
    simp only[List.mem_cons,List.not_mem_nil,or_false] at ht
    rcases ht with rfl | rfl<;>kernel_rfl
  refine hall t ?_
  rw[Tryz.params4]
  exact List.mem_of_getElem? (i:=j) (by simpa using ht)
theorem card:Rows.BufferTakesCardSaid :=
  Claim7.holds_tied_plain_at .later [] _ _ _ _ said (fun _ h=>by cases h) (by kernel_rfl) (fun _ h=>by cases h) bufferTakes_row_tie rfl ⟨rfl,rfl⟩ (by kernel_rfl) rfl plain (by kernel_rfl)
end Go.Proofs.YtkjjpmbpjfmbcaaGreatDoor.fnBufferTakes
