/- A law of chapter 15, proved. Conditions: none. -/
import Derived.Test.YtmkapobnfigedaaGreatDoorDp29
import Derived.Test.YtmkapobnfigedaaGreatDoorCards
import Derived.Test.YtmkapobnfigedaaGreatDoorTie
import Derived.LaidMore
import Derived.OpenShut
import Derived.ChangeOld
import Derived.Lib.LaidTab
import Derived.Stop.LaidErr
import Derived.Stop.Joined
import Derived.MakeChecks
import Derived.Deep.DeepHandedRow
set_option linter.unusedVariables false
set_option linter.unusedSimpArgs false
set_option maxRecDepth 100000
set_option maxHeartbeats 40000000
namespace Go.Proofs.YtmkapobnfigedaaGreatDoor.dependParts
open Go.Proofs.Tryz List Go.ChangeShapes Go.WideShapes Go.ChangeAt Go.RowKit Go.Joins
theorem own:ownKnob prog.godebug=none:=by kernel_rfl
theorem laidOut:laidOutB prog=true:=by kernel_rfl
theorem door_met (os:Os) (args:Array Value):laidMetH prog Rows.dependPartsUptoRow.laid ((World.doorLaid prog 400 os).forCall (λ_ _=>0) ⟨#[],args,[]⟩).memory:=
 laidMetH_of_parts3 (fuel:=8) (laidMet_of_run' 8 (by kernel_rfl) (by kernel_rfl)) (by kernel_rfl) (by kernel_rfl)
theorem wf_of {S:PSt} {n:Nat} (h1:S.nums64) (h2:S.lens n) (hn:n<=1048576):S.wf:=by obtain⟨a1,a2,a3⟩:=h1;obtain⟨b1,b2,b3,b4⟩:=h2;exact⟨by omega,by omega,by omega,λx hx=>⟨(a1 x hx).1,by have:=b4 x hx;omega,(a1 x hx).2⟩,a2,a3⟩
theorem contract (H:Type) (enc:TypeId × Value->H) (W:World) (base:Nat) (args:Array Value) (ds gs:List (DataW H)) (before:List MemPlace)
 (hval0:∀(j:Nat) t v,Tryz.f4.params[j]? =some t->args[j]? =some v->Value.okWide prog W .any base t v)
 (hW:DataW.Whole enc prog f4.params.toList Rows.dependPartsSpec.vars false W args.toList ds gs before) (hk:Rows.uptoSmall H (ds++gs)=true):
 Calls prog 4 args W λe W'=>∃v,e=.returned v/\Rows.dependPartsSpec.post enc prog f4 false true false false W args v W':=by
 have hval:∀(j:Nat) t v,Tryz.f4.params[j]? =some t->args[j]? =some v->Value.okWide prog W .any base t v:=hval0;have hW':=hW;obtain⟨p,q,hA0,hV,rfl,hfz,hnd⟩:=hW;have hA:DataW.TrodAll enc prog W 0 (λ_=>true) true f4.params.toList args.toList ds p:=hA0;rw[params4]at hA hval;obtain⟨v0,vs0,d0,ds0,p0,q0,hargs,rfl,rfl,h0,r0⟩:=trodAll_cons hA;obtain⟨v1,vs1,d1,ds1,p1,q1,rfl,rfl,rfl,h1,r1⟩:=trodAll_cons r0;obtain⟨v2,vs2,d2,ds2,p2,q2,rfl,rfl,rfl,h2,r2⟩:=trodAll_cons r1;obtain⟨v3,vs3,d3,ds3,p3,q3,rfl,rfl,rfl,h3,r3⟩:=trodAll_cons r2;obtain⟨rfl,rfl,rfl⟩:=trodAll_nil r3;obtain rfl:args=#[v0,v1,v2,v3]:=by cases args;simp_all
 obtain⟨rfl,rfl⟩:=trodVars_none hV;have hb:=of_decide_eq_true hk;have hb0:Rows.uptoBulk d0<=1048576:=zD (gW (by simp)) hb;have k0:=h0;have lt0:∀x∈p0,x.block<W.heap.size:=by obtain⟨m,hm⟩:=k0;exact DataW.trod_lt m _ _ _ hm
 have hb1:Rows.uptoBulk d1<=1048576:=zD (gW (by simp)) hb;have k1:=h1;have lt1:∀x∈p1,x.block<W.heap.size:=by obtain⟨m,hm⟩:=k1;exact DataW.trod_lt m _ _ _ hm
 have hb2:Rows.uptoBulk d2<=1048576:=zD (gW (by simp)) hb;have k2:=h2;have lt2:∀x∈p2,x.block<W.heap.size:=by obtain⟨m,hm⟩:=k2;exact DataW.trod_lt m _ _ _ hm
 have hb3:Rows.uptoBulk d3<=1048576:=zD (gW (by simp)) hb;have k3:=h3;have lt3:∀x∈p3,x.block<W.heap.size:=by obtain⟨m,hm⟩:=k3;exact DataW.trod_lt m _ _ _ hm
 obtain⟨c0,rfl,s0⟩:=okWide_struct underlying26 (hval 0 26 v0 rfl rfl);obtain⟨iv0,ov0,mv0,S0,e0,hr0,hwf0⟩:∃(iv ov mv:Value) (S:PSt),c0.toList=[iv,ov,mv]/\StRead W iv ov mv S/\S.wf:=by obtain⟨fuel,hf⟩:=h0;obtain⟨iv,ov,mv,S,e,hr,hn,hl⟩:=aJX (by simpa[Value.cells]using hf);exact⟨iv,ov,mv,S,e,hr,wf_of hn hl hb0⟩
 obtain rfl:c0=#[iv0,ov0,mv0]:=by cases c0;simp only at e0;rw[e0]
 obtain⟨a1,len1,cap1,rfl⟩:=okWide_slice underlying38 (hval 1 38 v1 rfl rfl);obtain⟨z1,hr1,hg1,hl1⟩:∃zs:List PCall,RowAt W 8 (.slice a1 len1 cap1) (zs.map PCall.cells)/\(∀z∈zs,z.wf/\z.path.size<=maxLen/\z.path2.size<=maxLen/\z.data.size<=maxLen/\z.data.size<=1048576)/\zs.length<=1048576:=by obtain⟨fuel,hf⟩:=h1;obtain⟨v,zs,e,hr,hg,hl⟩:=aHE (by simpa[Value.cells]using hf);simp only[List.cons.injEq,and_true]at e;rw[<-e]at hr;exact⟨zs,hr,λz hz=>⟨(hg z hz).1,(hg z hz).2.1,(hg z hz).2.2.1,(hg z hz).2.2.2.1,zD (hg z hz).2.2.2.2 hb1⟩,zD hl hb1⟩
 obtain⟨a2,len2,cap2,rfl⟩:=okWide_slice underlying39 (hval 2 39 v2 rfl rfl);obtain⟨z2,hr2,hg2,hl2⟩:∃zs:List Bool,RowAt W 1 (.slice a2 len2 cap2) (zs.map aO)/\(∀z∈zs,True)/\zs.length<=1048576:=by obtain⟨fuel,hf⟩:=h2;obtain⟨v,zs,e,hr,hg,hl⟩:=aJZ (by simpa[Value.cells]using hf);simp only[List.cons.injEq,and_true]at e;rw[<-e]at hr;exact⟨zs,hr,hg,zD hl hb2⟩
 obtain⟨a3,len3,cap3,rfl⟩:=okWide_slice underlying24 (hval 3 24 v3 rfl rfl);obtain⟨z3,hr3,hg3,hl3⟩:∃zs:List Int,RowAt W 1 (.slice a3 len3 cap3) (zs.map aJ)/\(∀z∈zs,I64 z)/\zs.length<=1048576:=by obtain⟨fuel,hf⟩:=h3;obtain⟨v,zs,e,hr,hg,hl⟩:=aHD (by simpa[Value.cells]using hf);simp only[List.cons.injEq,and_true]at e;rw[<-e]at hr;exact⟨zs,hr,hg,zD hl hb3⟩
 clear hA0 hval0;have hwalk:=aNP iv0 ov0 mv0 S0 z1 z2 z3 _ _ _ W hr0 hwf0 hr1 (λc hc=>zD (hg1 c hc).2.2.2.2 (by omega)) (by omega) hr2 (by omega) hr3 (by omega) hg3;refine hwalk.mono λe W' ⟨he,bel⟩=>?_;subst he;exact⟨_,rfl,_,_,_,[],_,[],hW',trodAll_mk1 (shut_bool underlying4 _),(trodAll_cons_mk (Below.trod laidOut (by kernel_rfl) (of_decide_eq_true (by kernel_rfl)) k0 bel lt0) (trodAll_cons_mk (Below.trod laidOut (by kernel_rfl) (of_decide_eq_true (by kernel_rfl)) k1 bel lt1) (trodAll_cons_mk (Below.trod laidOut (by kernel_rfl) (of_decide_eq_true (by kernel_rfl)) k2 bel lt2) (trodAll_cons_mk (Below.trod laidOut (by kernel_rfl) (of_decide_eq_true (by kernel_rfl)) k3 bel lt3) trodAll_mk0)))),rfl,bel.frame _,λh=>by cases h⟩
def zArgs:Array Value:=#[.agg #[.slice none 0 0,.slice none 0 0,.slice none 0 0],.slice none 0 0,.slice none 0 0,.slice none 0 0]
theorem reads (os:Os) {H:Type} (enc:TypeId × Value->H):∃places,DataW.whole enc prog ((World.doorLaid prog 400 os).forCall (λ_ _=>0) ⟨#[],zArgs,[]⟩).memory f4.params.toList Rows.dependPartsSpec.vars false zArgs.toList 8=some ([.agg [.nil,.nil,.nil],.nil,.nil,.nil],[],places):=
 ⟨[],by kernel_rfl⟩
theorem lifted (os:Os) (started:os.Started) (H:Type) (enc:TypeId × Value->H) (F:Stop.Interp):
 ReturnsInHanded {} checked os 4 .any ((Rows.OpenSpec.upto Rows.dependPartsSpec).preRow enc prog f4 Rows.dependPartsUptoRow.domain false Rows.dependPartsUptoRow.laid) (((Rows.OpenSpec.upto Rows.dependPartsSpec).at F).post enc prog f4 false true false false):=by
 obtain⟨places,hx⟩:=reads os enc;have hok:Input.okWideB prog ((World.doorLaid prog 400 os).forCall (λ_ _=>0) ⟨#[],zArgs,[]⟩) 4 ⟨#[],zArgs,[]⟩=true:=by kernel_rfl
 refine returnsInHanded_of_row (C:=checked) (s:=Rows.OpenSpec.upto Rows.dependPartsSpec) own started (by kernel_rfl) func4
  ⟨World.doorLaid prog 400 os,λ_ _=>0,⟨#[],zArgs,[]⟩,rfl,World.shaped_of_RefB (by kernel_rfl) (by kernel_rfl),(Input.okWide_of_okWideB (base:=0) hok).1,(Input.okWide_of_okWideB hok).2,
   OpenSpec.preRow_of_cond 8 hx (by kernel_rfl) (λk hk=>by cases hk;kernel_rfl) (by kernel_rfl) (door_met os _),by
    simp only[Assume.holds];exact⟨by simp,by simp,λ_=>Modest.zero,by simp,by simp⟩⟩ ?_
 intro W base args ds gs before hval hW _ hcond _ hL _ _;exact contract H enc W base args ds gs before hval hW (hcond _ rfl)
theorem over:Rows.DependPartsUptoSaid:=
 OpenClaim.holds_of_cond 4 f4 rfl rfl rfl rfl rfl rfl rfl ⟨rfl,rfl,rfl,rfl,rfl⟩ rfl rfl rfl rfl rfl (by kernel_rfl) func4 (by kernel_rfl)
  (of_decide_eq_true (by kernel_rfl)) (by unfold Func.isWrapper;first|(rw [zB (by decide +kernel)];kernel_rfl)|(rw [zA (by decide +kernel)];exact⟨rfl,rfl⟩))
  (λos started H enc _ F=>by rw[OpenClaim.pre_eq_preRow];exact lifted os started H enc F)
theorem proved:Rows.DependPartsUptoCardSaid:=
 Claim7.holds_tied_plain_at .later [] [.data,.data,.data] true (true,"e32a06bcfa5a7c56b57ddf26a6a7d3124450f49cd47f9d7744e2e49476066dbf") true
  over (λ_ h=>by cases h) (by kernel_rfl) (λ_ h=>by cases h) dependPartsUpto_row_tie rfl ⟨rfl,rfl⟩ (by kernel_rfl) rfl
  (λf fn hf hfn=>by
   obtain rfl:f=4:=Option.some.inj ((show prog.funcNamed "concourse/concourselaw15.DependParts"=some 4 by kernel_rfl).symm.trans hf) |>.symm;obtain rfl:fn=f4:=(Option.some.inj (func4.symm.trans hfn)).symm;exact⟨by kernel_rfl,λj t ht=>by
    rw[params4]at ht;have hm:t∈[26,38,39,24]:=by simpa using Array.mem_of_getElem? ht
    have hall:([26,38,39,24].all λu=>!prog.wantsStandIn u)=true:=by kernel_rfl
    exact(show prog.wantsStandIn t=false by simpa using all_eq_true.1 hall t hm)⟩)
  (by kernel_rfl)
#print axioms proved
end Go.Proofs.YtmkapobnfigedaaGreatDoor.dependParts
