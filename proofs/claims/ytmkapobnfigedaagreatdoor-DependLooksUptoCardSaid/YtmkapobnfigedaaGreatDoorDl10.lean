/- Part of the proof of a law of chapter 15. Conditions: none. -/
import Derived.Test.YtmkapobnfigedaaGreatDoorDl08
set_option linter.unusedVariables false
set_option linter.unusedSimpArgs false
set_option maxRecDepth 100000
set_option maxHeartbeats 8000000
namespace Go.Proofs.YtmkapobnfigedaaGreatDoor
open Go.RowKit
theorem aMO (zs:List PDesc) (v:Value) (l0:Value) (p:PDesc->Bool) (w:World) (h:RowAt w 3 v (zs.map PDesc.cells)) (hlen:zs.length<=1000000000)
 (hg:∀(z:PDesc) (ww:World),z∈zs->Below w.heap.size w ww->vR ww 180 #[.agg #[.int .i64 z.core,.int .i64 z.fd,.int .i64 z.num],l0] (.bool (p z))):
 vR w 136 #[v,.func (.func 180) #[] #[l0]] (.int .i64 (cG p zs)):=by
 obtain⟨a,cap,rfl,hat⟩:=h.at_;rw[lM];have HA:=aG hat;clear hat h;unfold cG;obtain⟨R,hR⟩:∃R,bG p zs 0=R:=⟨_,rfl⟩;rw[hR];have HR:=aG hR;clear hR;go_enter Tryz.func136,Tryz.ntmps136;go_wp2_with fail
 go_loopw[8] (λi wr=>∃(q:Nat),i=.int .i64 q/\q<=zs.length/\bG p (zs.drop q) q=R/\Below w.heap.size w wr) (λi _=>(zs.length-intOf i).toNat)
 case atStart=>exact⟨0,rfl,by omega,HR.out,bel _ _⟩
 obtain⟨q,rfl,hq,hre,hb⟩:=hrel;have iB:Bel w wr:=⟨hb⟩;by_cases hlt:q<zs.length
 .obtain⟨z,hz⟩:∃z,zs[q]? =some z:=⟨_,gE hlt⟩
  obtain⟨b,off,rfl,iG0,iG,hc⟩:=HA.out wr hb q (PDesc.cells z) (by rw[gM,hz];rfl);have c0:=hc 0 _ rfl;have c1:=hc 1 _ rfl;have c2:=hc 2 _ rfl;rw[fO p zs q z hz]at hre;have a0:vB w 180 #[.agg #[.int .i64 z.core,.int .i64 z.fd,.int .i64 z.num],l0] (.bool (p z)):=λww hww=>hg z ww (mG hz) hww;have HZ:=bB hz hre;clear hc hz hre hg;rw[zN]at c0;generalize hpz:p z=t at a0 HZ;rcases t with _|_
  .go_wp2_with(go_at_call 180;refine aE (a0 _ (bel _ _)) λp=>?_)
   go_roundw
   case rel=>exact⟨q+1,by go_num,by omega,by have:=HZ.out.2;simpa using this,bel _ _⟩
   simp[intOf];omega
  have hv:R=q:=by have:=HZ.out.2;simpa using this.symm
  subst hv;go_wp2_with(go_at_call 180;refine aE (a0 _ (bel _ _)) λp=>?_);go_ret;exact⟨rfl,bel _ _⟩
 rw[gQ p zs q hlt]at hre;subst hre;clear hg;go_wp2_with fail;go_ret;exact⟨rfl,bel _ _⟩
def eD (c:PCall) (x:PDesc):Bool:=(x.core==c.core)&&(x.fd==c.fd)
theorem aPZ (d b:Nat) (S:PSt) (c:PCall) (x:PDesc) (bx:Nat) (w:World) (h:DR w d b S c) (ib:BlockLt bx w) (hx:w.cell? ⟨bx,0,none⟩=some (.pointer (some ⟨d,0,none⟩))):
 vR w 180 #[.agg #[.int .i64 x.core,.int .i64 x.fd,.int .i64 x.num],.pointer (some ⟨bx,0,none⟩)] (.bool (eD c x)):=by
 have iD:BlockLt d w:=⟨h.lt⟩;have c1:=h.dc 1 _ rfl;have c2:=h.dc 2 _ rfl;unfold eD;clear h;generalize hb1:(x.core==c.core)=b1;rcases b1 with _|_
 .go_enter Tryz.func180,Tryz.ntmps180
  go_wp2_with fail;refine qR ?_
  repeat(go_big_quiet_step (fail))
  refine QN λp=>?_;go_wp2_with fail;go_ret;exact⟨rfl,bel _ _⟩
 go_enter Tryz.func180,Tryz.ntmps180;go_wp2_with fail;refine qR ?_
 repeat(go_big_quiet_step (fail))
 refine QN λp=>?_;go_wp2_with fail;go_ret;exact⟨by first|rfl|simp_all,bel _ _⟩
def aQA (w:World) (b:Nat) (S:PSt) (i:Int) (e:Ending):Prop:=
 (0<=i/\∃x bi off cap,S.op[i.toNat]? =some x/\w.cell? ⟨b,0,none⟩=some (.slice (some ⟨bi,off,none⟩) S.ins.length cap)/\e=.returned (.tuple #[.pointer (some ⟨bi,off+(aJ S.nums x.num).toNat*4,none⟩),.int .i64 i]))\/(i<0/\e=bD 4)
theorem aMP (d b:Nat) (S:PSt) (c:PCall) (w:World) (h:DR w d b S c) (hf:Fine S):
 Calls Tryz.prog 143 #[.pointer (some ⟨d,0,none⟩)] w λe w'=>Below w.heap.size w w'/\aQA w b S (cG (eD c) S.op) e:=by
 have a2:∀ww bx,Below w.heap.size w ww->BlockLt bx ww->ww.cell? ⟨bx,0,none⟩=some (.pointer (some ⟨d,0,none⟩))->∀ov,RowAt ww 3 ov (S.op.map PDesc.cells)->vR ww 136 #[ov,.func (.func 180) #[] #[.pointer (some ⟨bx,0,none⟩)]] (.int .i64 (cG (eD c) S.op)):=
  λww bx hb ib hx ov hv=>aMO S.op ov (.pointer (some ⟨bx,0,none⟩)) (eD c) ww hv hf.wf.2.1 (λz wz _ hz=>aPZ d b S c z bx wz (h.below (hb.trans (hz.mono hb.size)) (zC _)) ⟨by have:=ib.lt;have:=hz.size;omega⟩ ((hz.cell (p:=⟨bx,0,none⟩) ib.lt).trans hx))
 have a1:∀ww,Below w.heap.size w ww->∀n,vR ww 102 #[.pointer (some ⟨b,0,none⟩),.int .i64 n] (.int .i64 (aJ S.nums n)):=
  λww hb n=>gT b S n ww (h.sp.below hb (zC _)) hf.wf
 have iD:BlockLt d w:=⟨h.lt⟩;have d0:=h.d0;obtain⟨hl,iv,ov,mv,c0,c1,c2,hr⟩:=h.sp;have iL:BlockLt b w:=⟨hl⟩;have a3:∀ww,Below w.heap.size w ww->RowAt ww 3 ov (S.op.map PDesc.cells):=λww hb=>hr.1.below hb (zC _);have a0:∀ww bx,Below w.heap.size w ww->BlockLt bx ww->ww.cell? ⟨bx,0,none⟩=some (.pointer (some ⟨d,0,none⟩))->Calls Tryz.prog 136 #[ov,.func (.func 180) #[] #[.pointer (some ⟨bx,0,none⟩)]] ww _:=λww bx hb i hx=>a2 ww bx hb i hx ov (a3 ww hb);obtain⟨ai,capi,rfl,hati⟩:=hr.ins_at2;have a4:=hf.pos;obtain⟨bi,offi,ev,rfl,-⟩:=hati 0 S.ins[0] (gE a4);obtain⟨ao,co,rfl,hato⟩:=hr.1.at_;rw[lM]at c1 a0;have a8:=jT (eD c) S.op;generalize cG (eD c) S.op=I at a0 a8 |-;have HH:=bB hati hato;have a9:=aG c0;have b0:=hf.wf.2.1;have b1:=hf.wf.1;have HF:=aG hf;clear a2 a3 hr hati hato h hf c2;by_cases hI:I<0
 .have b2:decide (I<0)=true:=decide_eq_true hI
  go_enter Tryz.func143,Tryz.ntmps143;go_wp2_with(first|(go_at_call 136;refine aE (a0 _ _ (bel _ _) inferInstance (by go_simp)) λp=>?_)|(go_at_call 172;refine aE (aO _ _) λp=>?_));exact⟨rfl,bel w _,.inr ⟨hI,rfl⟩⟩
 have b2:decide (I<0)=false:=yM hI;obtain⟨k,rfl⟩:∃k:Nat,I=k:=⟨I.toNat,by omega⟩;have b3:k<S.op.length:=by omega
 obtain⟨x,hx⟩:∃x,S.op[k]? =some x:=⟨_,gE b3⟩;obtain⟨bo,offo,rfl,iO0,-,hco⟩:=HH.out.2 w (bel _ _) k x.cells (by rw[gM,hx];rfl);have o2:=hco 2 _ rfl;have a6:=HF.out.opens x (mG hx);have a7:=cE S.nums x.num;have b4:S.nums.length=S.ins.length:=by unfold PSt.nums;rw[lM]
 have a5:∀ww,Below w.heap.size w ww->Calls Tryz.prog 102 #[.pointer (some ⟨b,0,none⟩),.int .i64 x.num] ww _:=λww hb=>a1 ww hb x.num;generalize hfv:aJ S.nums x.num=fv at a5 a6 a7;obtain⟨f,rfl⟩:∃f:Nat,fv=f:=⟨fv.toNat,by omega⟩;have b6:(f:Int)<S.ins.length:=by omega
 have b5:(k:Int)<S.op.length:=by omega
 have HX:=bB hx hfv;clear hx hfv hco a1 a7 b4 a6;go_enter Tryz.func143,Tryz.ntmps143;go_wp2_with(first|(go_at_call 136;refine aE (a0 _ _ (bel _ _) inferInstance (by go_simp)) λp=>?_)|(go_at_call 172;refine aE (aD _ _) λp=>?_));refine qR ?_
 repeat(go_big_quiet_step ((first|refine cI (a5 _ (bel _ _))|refine cJ (a5 _ (bel _ _)))))
 refine QN λp=>?_;go_wp2_with fail
 go_ret2;refine⟨bel w _,.inl ⟨by omega,x,bi,offi,capi,HX.out.1,a9.out,?_⟩⟩
 rw[HX.out.2];rfl
end Go.Proofs.YtmkapobnfigedaaGreatDoor
