/- A part of a proof of a law. Conditions: none. -/
import Derived.Test.YtmkapobnfigedaaGreatDoorDk22
set_option linter.unusedVariables false
set_option linter.unusedSimpArgs false
set_option maxRecDepth 100000
set_option maxHeartbeats 8000000
namespace Go.Proofs.YtmkapobnfigedaaGreatDoor
open Go.Proofs.Tryz List Go.RowKit
section
section
variable {w0 w w' w1 w2:World} {S S':PSt} {c:PCall} {bs bh bc:Nat} {ks:List PKey}
theorem eP (h:Keep (tD w) w w1) (k:Keep (tD w1) w1 w2):Keep (tD w) w w2:=h.trans k λi hi hg=>Classical.byContradiction λhn=>hn (by
 obtain⟨c,t,hb,ht⟩:=hg;have:=h.block i hi hn;exact⟨c,t,by unfold Blk at hb |-;rw[<-this];exact hb,ht⟩)
theorem fF (hb:Bl w w1):Keep (tD w) w w1:=Keep.of_below hb _
def aDQ (w0 w:World) (S S':PSt) (c:PCall) (bs bh bc:Nat) (ks:List PKey) (e:Ending) (w':World):Prop:=e=.returned (.tuple #[])/\GAt w0 w' S S' c bs bh bc ks/\Keep (tD w) w w'
theorem oO (h:GAt w0 w S S' c bs bh bc ks) (hl:ks.length<=1000000) {b:Nat} {S1:PSt} (hsp:SP w0 b S1) (hwf:S1.wf) (p:ByteArray):
 Calls prog 110 #[.pointer w0.heap.size,.pointer b,p] w (aDQ w0 w S S' c bs bh bc (ks++cM S1 p)):=by
 obtain⟨hl0,iv,ov,mv,c0,c1,c2,hr⟩:=hsp.below h.below (zC _);have ib:BlockLt b w:=⟨hl0⟩;have o1:=hr.1.one;have o2:=hr.2.1.one;have o3:iv.oneCell'=true:=by obtain⟨_,_,_,h3,_⟩:=hr;exact h3.one
 have hf:=aKR iv ov mv S1 p w hr hwf;have a0:=fun(q:Behind)=>kA (h.later (bel w (w.junk q))) hl (eU S1 p).1 ⟨#[]⟩;have HG:=aC h;unfold cM;generalize eU S1 p=F at *;obtain⟨num,code⟩:=F;clear h hr hsp;go_in;go_wp2_with(first|(go_at_call 152;refine hf.mono ?_;rintro e w1 ⟨rfl,hb⟩;obtain⟨q,rfl⟩:=hb.rest;clear hb)|(go_at_call 113;refine(a0 _).mono ?_;rintro e w2 ⟨rfl,hg,hk⟩));exact xE (v:=.tuple #[]) (by simp[results,go_sem]) rfl ⟨rfl,hg,eP (fF (bel w _)) hk⟩
end
theorem aMU (zs:List PDesc) (v:Value) (l0:Value) (p:PDesc->Bool) (w:World) (h:RowAt w 3 v (zs.map PDesc.cells)) (hlen:zs.length<=1000000000)
 (hg:∀(z:PDesc) (ww:World),z∈zs->Bl w ww->vR ww 155 #[.agg #[z.core,z.fd,z.num],l0] (.bool (p z))):
 vR w 136 #[v,.func (.func 155) #[] #[l0]] (.int .i64 (cU p zs)):=by
 obtain⟨a,cap,rfl,hat⟩:=h.at_;rw[lM];have HA:=aC hat;clear hat h;unfold cU;obtain⟨R,hR⟩:∃R,bO p zs 0=R:=⟨_,rfl⟩;rw[hR];have HR:=aC hR;clear hR;unfold vR;go_in;go_wp2
 go_loopw[8] (λi wr=>∃(q:Nat),i=.int .i64 q/\q<=zs.length/\bO p (zs.drop q) q=R/\Bl w wr) (λi _=>(zs.length-intOf i).toNat)
 case atStart=>exact⟨0,rfl,by omega,HR.out,bel _ _⟩
 case round=>
  obtain⟨q,rfl,hq,hre,hb⟩:=hrel;have iB:Bel w wr:=⟨hb⟩;by_cases hlt:q<zs.length
  .obtain⟨z,hz⟩:∃z,zs[q]? =some z:=⟨_,gE hlt⟩
   obtain⟨b,off,rfl,iG0,iG,hc⟩:=HA.out wr hb q (PDesc.cells z) (by rw[gM,hz];rfl);have c0:=hc 0 _ rfl;have c1:=hc 1 _ rfl;have c2:=hc 2 _ rfl;rw[gL p zs q z hz]at hre;have a0:vB w 155 #[.agg #[z.core,z.fd,z.num],l0] (.bool (p z)):=λww hww=>hg z ww (mG hz) hww;have HZ:=bG hz hre;clear hc hz hre hg;rw[zN]at c0;generalize hpz:p z=t at a0 HZ;rcases t with _|_
   .go_wp2_with(go_at_call 155;refine aE (a0 _ (bel _ _)) λp=>?_)
    go_roundw
    case rel=>exact⟨q+1,by go_num,by omega,by have:=HZ.out.2;simpa using this,bel _ _⟩
    simp[intOf];omega
   have hv:R=q:=by have:=HZ.out.2;simpa using this.symm
   subst hv;go_wp2_with(go_at_call 155;refine aE (a0 _ (bel _ _)) λp=>?_);go_ret;exact⟨rfl,bel _ _⟩
  .rw[jA p zs q hlt]at hre;subst hre;clear hg;go_wp2;go_ret;exact⟨rfl,bel _ _⟩

theorem aMV (g bc:Nat) (b1 b2 out:Value) (c:PCall) (x:PDesc) (bx:Nat) (w:World) (hg:Blk w g #[b1,b2,.pointer bc,out] 106) (hc:CP w bc c) (ib:BlockLt bx w) (hx:w.cell? bx=some (.pointer g)):
 vR w 155 #[.agg #[x.core,x.fd,x.num],.pointer bx] (.bool (eV c x)):=by
 have iG:=hg.lt;have g2:w.cell? ⟨g,2,none⟩=some (.pointer bc):=hg.cell 2;have iC:BlockLt bc w:=⟨hc.1⟩;have c1:=hc.2 1 _ rfl;have c2:=hc.2 2 _ rfl;unfold eV;clear hg hc;rcases hb1:(x.core==c.core)with _|_
 .unfold vR;go_in
  go_wp2;refine qR ?_
  repeat(go_big_quiet_step (fail))
  refine QN λp=>?_;go_wp2;go_ret;exact⟨rfl,bel _ _⟩
 unfold vR;go_in;go_wp2;refine qR ?_
 repeat(go_big_quiet_step (fail))
 refine QN λp=>?_;go_wp2;go_ret;exact⟨by first|rfl|simp_all,bel _ _⟩
section
variable {w0 w w' w1 w2:World} {S S':PSt} {c:PCall} {bs bh bc:Nat} {ks:List PKey}
theorem aBF (h:GAt w0 w S S' c bs bh bc ks) (hl:ks.length<=1000000) (hwf:S.wf) (hfd:0<=cU (eV c) S.op):
 Calls prog 112 #[.pointer w0.heap.size] w (aDQ w0 w S S' c bs bh bc (ks++fE S c)):=by
 obtain⟨hl0,iv,ov,mv,c0,c1,c2,hr⟩:=h.sp.below h.below (zC _);have ib:BlockLt bs w:=⟨hl0⟩;obtain⟨out,hgb,-⟩:=h.own;have iG:=hgb.lt;have g0:w.cell? w0.heap.size=some (.pointer bs):=hgb.cell 0;have a3:CP w bc c:=⟨zR h.cp.1 h.below.size,λt u hu=>(h.below.cell (p:=⟨bc,t,none⟩) h.cp.1).trans (h.cp.2 t u hu)⟩;have a5:=kX (eV c) S.op;obtain⟨k,hk⟩:∃k:Nat,cU (eV c) S.op=k:=⟨(cU (eV c) S.op).toNat,by omega⟩;rw[hk]at a5;obtain⟨d,hd⟩:∃d,S.op[k]? =some d:=⟨_,gE (by omega)⟩;have a0:fE S c=[⟨d.num,⟨#[]⟩⟩]:=by unfold fE;rw[hk,zJ,hd]
 rw[a0];have a1:∀ww,Bl w ww->RowAt ww 3 ov (S.op.map PDesc.cells):=λww hb=>hr.1.below hb (zC _);have a2:∀ww bx,Bl w ww->BlockLt bx ww->ww.cell? ⟨bx,0,none⟩=some (.pointer w0.heap.size)->vR ww 136 #[ov,.func (.func 155) #[] #[.pointer (some ⟨bx,0,none⟩)]] (.int .i64 k):=λww bx hb i hx=>by have:=aMU S.op ov (.pointer (some ⟨bx,0,none⟩)) (eV c) ww (a1 ww hb) hwf.2.1 (λz w3 _ hb3=>aMV w0.heap.size bc _ _ out c z bx w3 (hgb.below (hb.trans (hb3.mono hb.size)) iG.lt) ⟨by have:=a3.1;have:=hb.size;have:=hb3.size;omega,λt u hu=>((hb.trans (hb3.mono hb.size)).cell (p:=⟨bc,t,none⟩) a3.1).trans (a3.2 t u hu)⟩ ⟨by have:=i.lt;have:=hb3.size;omega⟩ ((hb3.cell (p:=⟨bx,0,none⟩) i.lt).trans hx));rw[hk]at this;exact this
 have a4:=fun(ww:World) (hb:Bl w ww)=>kA (h.later hb) hl d.num ⟨#[]⟩;obtain⟨ao,co,rfl,hato⟩:=hr.1.at_;rw[lM]at c1 a2;obtain⟨bo,offo,rfl,iO0,iO,hco⟩:=hato w (bel _ _) k d.cells (by rw[gM,hd];rfl);have o2:w.cell? ⟨bo,offo+k*3+2,none⟩=some (.int .i64 d.num):=hco 2 _ rfl;have a6:(k:Int)<S.op.length:=by omega
 clear hr a1 hato hco hgb a3 hk a0 hd a5 h c0 c2 hfd;go_in;go_upto_region 2 with(go_at_call 136;refine aE (a2 _ _ (bel _ _) inferInstance (by go_simp)) λp=>?_)
 refine aH [12] true (λw'=>w'.cell? w.heap.size=some (.pointer w0.heap.size)/\w'.cell? w0.heap.size=some (.pointer bs)/\w'.cell? ⟨bs,1,none⟩=some (.slice (some ⟨bo,offo,none⟩) S.op.length co)/\w'.cell? ⟨bo,offo+k*3+2,none⟩=some (.int .i64 d.num)) (by kernel_rfl) (by kernel_rfl) ?_ ?_
 · (try dsimp only);(repeat' apply And.intro)<;>go_simp
 repeat
  apply aI0 rfl rfl
  focus
   rintro w' ⟨s0,s1,s2,s3⟩;go_simp
   first|done|rfl
  simp only[Act.put,sA,sZ,sS]
 refine bA rfl rfl ?_;refine aR 113 #[.pointer w0.heap.size,.int .i64 d.num,.string ⟨#[]⟩] ?_ ((a4 ((w.alloc (.cells #[.pointer w0.heap.size] 103)).junk p).drew (bel w _)).mono ?_)
 .go_simp
  first|done|rfl
 rintro e w2 ⟨rfl,hg,hk⟩;refine⟨_,rfl,.inr ⟨rfl,rfl⟩,?_⟩;refine aS ?_;exact xE (v:=.tuple #[]) (by simp[results,go_sem]) rfl ⟨rfl,hg,eP (fF (bel w _)) hk⟩
end
end
section
def qI (S:PSt) (ns:List ByteArray) (q:Nat):List PKey:=(List.range q).map λk=>⟨(eU S (eB (ns.take k)).1).1,⟨#[46]⟩⟩
theorem aIA (S:PSt) (ns:List ByteArray) (q:Nat):qI S ns (q+1)=qI S ns q++[⟨(eU S (eB (ns.take q)).1).1,⟨#[46]⟩⟩]:=by unfold qI;rw[range_succ,yS];rfl
theorem aMW (S:PSt) (ns:List ByteArray) (q:Nat):(qI S ns q).length=q:=by unfold qI;simp
def aMX (S:PSt) (ns:List ByteArray) (q:Nat):Int:=if q=0 then 0 else(eU S (eB (ns.take (q-1))).1).1
section
variable {w0 w w' w1 w2:World} {S S':PSt} {c:PCall} {bs bh bc:Nat} {ks:List PKey}
theorem aDR (h:GAt w0 w S S' c bs bh bc ks) (hl:ks.length<=100000) (hwf:S.wf) {p:ByteArray} (hpo:jF p):
 Calls prog 111 #[.pointer w0.heap.size,p] w λe w'=>e=.returned (.tuple #[.int .i64 (kK S (aA p).2),.string ((aA p).2.getLastD ⟨#[]⟩)])/\GAt w0 w' S S' c bs bh bc (ks++fU S p)/\Keep (tD w) w w':=by
 obtain⟨hp,hne⟩:=hpo;have b9:=dB hp;have a1:=λww=>aBE p ww;rw[hp]at a1;unfold fU aBD;rw[show ((List.range (aA p).2.length).map λk=>(⟨(eU S (eB ((aA p).2.take k)).1).1,⟨#[46]⟩⟩:PKey))=qI S (aA p).2 (aA p).2.length from rfl];have a0:kK S (aA p).2=aMX S (aA p).2 (aA p).2.length:=by unfold kK aMX;rw[zA (by intro e;exact hne (zT e))]
 rw[a0];generalize(aA p).2=ns at*;have b6:0<ns.length:=by
  rcases ns with _|⟨a,r⟩
  .exact absurd rfl hne
  simp
 have a8:ns[ns.length-1]? =some (ns.getLastD ⟨#[]⟩):=by rw[getLastD_eq_getLast?,getLast?_eq_getElem?,gE (by omega)];rfl
 have HG:=aC h;clear h a0 hp;go_in;go_upto_region 2 with(go_at_call 153;refine(a1 _).mono ?_;rintro e w1 ⟨nv,rfl,hb1,a4,hng⟩;obtain⟨p1,rfl⟩:=hb1.rest;clear hb1)
 have a9:=aC a4;clear a4 hng a1;have a4:=a9.out;rcases a4 with⟨rfl,h2⟩|⟨nb,cap,arr,he,-,hbk,hn,hcm,hsz,hrows⟩
 .exfalso;have:=congrArg List.length h2;rw[lM,yX]at this;omega
 rw[lM]at he hn;subst he;refine aD (F:=λwA=>GAt w0 wA S S' c bs bh bc ks/\Keep (tD w) w wA/\Blk wA nb arr 9) ⟨HG.out.later (bel w _),fF (bel w _),hbk⟩ ?_;clear hbk a9;rintro wA ⟨hGA,hkA,hbA⟩;have HA:=eK hGA hkA hbA;have HR:=aC hrows;clear hGA hkA hbA hrows;go_wp2
 go_loopw[8,19] (λvn vi wr=>∃q:Nat,vi=.int .i64 q/\vn=.int .i64 (aMX S ns q)/\q<=ns.length/\GAt w0 wr S S' c bs bh bc (ks++qI S ns q)/\Keep (tD w) w wr/\Blk wr nb arr 9) (λ_ vi _=>(ns.length-intOf vi).toNat)
 case atStart=>exact⟨0,rfl,rfl,by omega,by simpa[qI]using HA.out.1,HA.out.2.1,HA.out.2.2⟩
 obtain⟨q,rfl,rfl,hq,hG,hk,hb⟩:=hrel;obtain⟨hl0,iv,ov,mv,c0,c1,c2,hr⟩:=hG.sp.below hG.below (zC _);have ib:BlockLt bs wr:=⟨hl0⟩;have o1:=hr.1.one;have o2:=hr.2.1.one;have o3:iv.oneCell'=true:=by obtain⟨_,_,_,h3,_⟩:=hr;exact h3.one
 obtain⟨out,hgb,-⟩:=hG.own;have iG:=hgb.lt;have g0:wr.cell? w0.heap.size=some (.pointer bs):=hgb.cell 0;have iN:=hb.lt;by_cases hlt:q<ns.length
 .have a3:RowAt wr 1 (.slice nb q cap) ((ns.take q).map λn=>[.string n]):=by
   have b0:(ns.take q).length=q:=by rw[zU];omega
   refine OwnP.row (B:=0) (e:=9) (.inr ⟨nb,cap,arr,by rw[lM,b0],Nat.zero_le _,hb,by rw[lM,b0];omega,hcm,hsz,λq' cs hq' t u hu=>?_⟩);rw[gM,yO]at hq';split at hq'
   .exact HR.out q' cs (by rw[gM];exact hq') t u hu
   cases hq'
  have b4:=aSY (ns.take q) _ wr a3 (by rw[zU];omega);have a7:=fun(ww:World) (hb:Bl wr ww)=>aKR iv ov mv S (eB (ns.take q)).1 ww (hr.below hb (zC _)) hwf;have a2:=fun(ww:World) (hb:Bl wr ww)=>kA (hG.later hb) (by rw[lP,aMW];omega) (eU S (eB (ns.take q)).1).1 ⟨#[46]⟩;have a5:aMX S ns (q+1)=(eU S (eB (ns.take q)).1).1:=by unfold aMX;rw[zA (by omega)];rfl
  have a6:ks++qI S ns (q+1)=ks++qI S ns q++[⟨(eU S (eB (ns.take q)).1).1,⟨#[46]⟩⟩]:=by rw[aIA,yU]
  generalize eB (ns.take q)=PR at *;obtain⟨ps,pe⟩:=PR;simp only at b4 a7 a2 a5 a6;generalize eU S ps=FR at *;obtain⟨fn,fe⟩:=FR;simp only at a7 a2 a5 a6;have b1:(q:Int)<=ns.length:=by omega
  have b2:(q:Int)<=cap:=by omega
  have b3:q<=cap:=by omega
  have HK:=lE hk hb a5 a6;clear hr hG hgb hk hb a3 a5 a6;go_wp2_with(first|(go_at_call 154;refine b4.mono ?_;rintro e w1 ⟨rfl,hb⟩;obtain⟨q1,rfl⟩:=hb.rest;clear hb)|(go_at_call 152;refine(a7 _ (bel _ _)).mono ?_;rintro e w1 ⟨rfl,hb⟩;obtain⟨q2,rfl⟩:=hb.rest;clear hb)|(go_at_call 113;refine(a2 _ (bel _ _)).mono ?_;rintro e w2 ⟨rfl,hg,hk2⟩));go_roundw
  case rel=>exact⟨q+1,by go_num,by rw[HK.out.2.2.1],by omega,by rw[HK.out.2.2.2];exact hg,eP (eP HK.out.1 (fF (bel wr _))) hk2,hk2.blk (HK.out.2.1.below (bel wr _) iN.lt) (aVE (HK.out.2.1.below (bel wr _) iN.lt) (by decide) (by decide))⟩
  simp[intOf];omega
 have b7:q=ns.length:=by omega
 subst b7;have b8:wr.cell? ⟨nb,ns.length-1,none⟩=some (.string (ns.getLastD ⟨#[]⟩)):=by rw[hb.cell];have:=HR.out (ns.length-1) [.string (ns.getLastD ⟨#[]⟩)] (by rw[gM,a8];rfl) 0 _ rfl;rw[Nat.mul_one,zN]at this;exact this
 obtain⟨m,hm⟩:∃m,ns.length=m+1:=⟨ns.length-1,by omega⟩;have HF:=bG hG hk;generalize hNU:aMX S ns ns.length=NU at *;generalize hLS:ns.getLastD ⟨#[]⟩=lst at *;have b5:=bG hNU hLS;clear hNU hLS;rw[hm,Nat.add_sub_cancel]at b8;clear hr hG hgb hk hb c0 c1 c2;have ew:IntKind.i64.wrap ((ns.length:Int)-1)=m:=by rw[show (ns.length:Int)-1=m by omega];exact I64.wrap (by unfold I64;omega)
 have b1:(m:Int)<ns.length:=by omega
 have HM:=aC hm;clear hm hq hlt a8;go_wp2;refine qR ?_
 repeat(go_big_quiet_step (fail))
 refine QN λp=>?_;go_wp2
 go_ret2;exact⟨by rw[b5.out.1,b5.out.2];rfl,HF.out.1.later (bel wr _),eP HF.out.2 (fF (bel wr _))⟩
theorem aRF (n:ByteArray):∃i:Nat,aU n=i/\i<8/\((⟨#[47]⟩:ByteArray)++⟨(Lib.decDigits i).toArray⟩)=cG n:=by
 have h0:0<=aU n/\aU n<8:=by have hb:0<=oY n/\oY n<4294967296:=kO n n.size 0 7 (by omega);unfold aU;omega
 obtain⟨i,hi⟩:∃i:Nat,aU n=i:=⟨(aU n).toNat,by omega⟩;have a0:i<8:=by omega
 refine⟨i,hi,a0,?_⟩;unfold cG;rw[hi,zJ];have key:∀j:Nat,j<8->((⟨#[47]⟩:ByteArray)++⟨(Lib.decDigits j).toArray⟩)=⟨#[47,UInt8.ofNat (48+j)]⟩:=by decide +kernel
 exact key i a0
theorem oP (h:GAt w0 w S S' c bs bh bc ks) (hl:ks.length<=100000) (hwf:S.wf) {p:ByteArray} (hpo:jF p):
 Calls prog 109 #[.pointer w0.heap.size,p] w (aDQ w0 w S S' c bs bh bc (ks++dD S p)):=by
 have a3:=aDR h hl hwf hpo;have a5:(fU S p).length<=1000:=by have:=dB hpo.1;unfold fU aBD;rw[lM,length_range];omega
 have a0:ks++dD S p=ks++fU S p++[⟨kK S (aA p).2,cG ((aA p).2.getLastD ⟨#[]⟩)⟩]:=by unfold dD;rw[yU]
 rw[a0];generalize kK S (aA p).2=NU at *;generalize(aA p).2.getLastD ⟨#[]⟩=lst at *;generalize fU S p=WK at *;obtain⟨i,hbi,hi8,hbn⟩:=aRF lst;have a2:=λww=>mP lst ww;rw[hbi]at a2;have a4:=λww=>Tryz.strconv_Itoa_small i (by omega) ww;rw[<-hbn];have a6:((⟨(Lib.decDigits i).toArray⟩:ByteArray)).size<=10:=by
  have key:∀j:Nat,j<8->((⟨(Lib.decDigits j).toArray⟩:ByteArray)).size<=10:=by decide +kernel
  exact key i hi8
 generalize(⟨(Lib.decDigits i).toArray⟩:ByteArray)=dig at *;have n1:¬9223372036854775807<1+dig.size:=by omega
 clear hbn hbi a0 h;go_in;go_upto_region 1 with(go_at_call 111;refine a3.mono ?_;rintro e w1 ⟨rfl,hg1,hk1⟩)
 have a1:=fun(ww:World) (hb:Bl w1 ww)=>kA (hg1.later hb) (by rw[lP];omega) NU ((⟨#[47]⟩:ByteArray)++dig);go_wp2_with(first|(go_at_call 133;refine(a2 _).mono ?_;rintro e w2 ⟨rfl,hb⟩;obtain⟨q2,rfl⟩:=hb.rest;clear hb)|(go_at_call 151;refine(a4 _).mono ?_;rintro e w2 ⟨rfl,rfl⟩)|(go_at_call 113;refine(a1 _ (bel _ _)).mono ?_;rintro e w3 ⟨rfl,hg,hk2⟩));exact xE (v:=.tuple #[]) (by simp[results,go_sem]) rfl ⟨rfl,hg,eP (eP hk1 (fF (bel w1 _))) hk2⟩
end
end
section
section
variable {w0 w w' w1 w2:World} {S S':PSt} {c:PCall} {bs bh bc:Nat} {ks:List PKey}
theorem GAt.facts (h:GAt w0 w S S' c bs bh bc ks):BlockLt w0.heap.size w/\w.cell? w0.heap.size=some (.pointer bs)/\w.cell? ⟨w0.heap.size,1,none⟩=some (.pointer bh)/\w.cell? ⟨w0.heap.size,2,none⟩=some (.pointer bc)/\BlockLt bc w/\(∀(t:Nat) (u:Value),c.cells[t]? =some u->w.cell? ⟨bc,t,none⟩=some u)/\w.cell? ⟨bc,1,none⟩=some (.int .i64 c.core)/\w.cell? ⟨bc,5,none⟩=some (.string c.path)/\w.cell? ⟨bc,6,none⟩=some (.string c.path2)/\w.cell? ⟨bc,7,none⟩=some (.string c.data):=by obtain⟨out,hg,-⟩:=h.own;have cp:∀(t:Nat) (u:Value),c.cells[t]? =some u->w.cell? ⟨bc,t,none⟩=some u:=λt u hu=>(h.below.cell (p:=⟨bc,t,none⟩) h.cp.1).trans (h.cp.2 t u hu);exact⟨hg.lt,hg.cell 0,hg.cell 1,hg.cell 2,⟨zR h.cp.1 h.below.size⟩,cp,cp 1 _ rfl,cp 5 _ rfl,cp 6 _ rfl,cp 7 _ rfl⟩
theorem qT (ok:GatherOk S c) (hwf:S.wf):IntKind.i64.wrap (-1-c.core)=-1-c.core:=by have:=ok.core;have:=hwf.2.2.1;exact I64.wrap (by unfold I64;omega)
theorem qU (p:ByteArray) (hp:jF p):(fU S p).length<=10/\(dD S p).length<=11:=by have:=dB hp.1;unfold dD fU aBD;rw[lP,lM,length_range];exact⟨by omega,by simp;omega⟩
theorem aBG (h:GAt w0 w S S' c bs bh bc ks) (hl:ks.length<=1000) (hwf:S.wf) (hwf':S'.wf) (ok:GatherOk S c) (hk:c.kind=0\/c.kind=1):
 Calls prog 74 #[.pointer w0.heap.size] w λe w'=>e=.returned (.bool true)/\GAt w0 w' S S' c bs bh bc (ks++((dD S c.path++cM S' c.path)++[⟨-1-c.core,⟨#[]⟩⟩])):=by
 rcases hk with hk|hk
 iterate 2
  .obtain⟨iG0,ga0,gb0,gc0,iC0,cp0,cc0,cf0,cg0,cd0⟩:=h.facts;have ck:w.cell? bc=some (.int .i64 c.kind):=cp0 0 _ rfl;have a0:=ok.core;have a4:=hwf.2.2.1;have ew:=qT ok hwf;have lw:=@qU S;have a1:=oP h (by omega) hwf (ok.path (by omega));clear cp0
   go_in;go_upto_region 6 with(go_at_call 109;refine a1.mono ?_;rintro e w1 ⟨rfl,hg1,hk1⟩)
   obtain⟨iG1,ga1,gb1,gc1,iC1,cp1,cc1,cf1,cg1,cd1⟩:=hg1.facts;have a2:=oO (hg1.later (bel w1 w1.drew)) (by simp only[lP];have q2:=(lw c.path (ok.path (by omega))).2;omega) hg1.sh hwf' c.path;refine aH [12] true (λw'=>w'.cell? ⟨w0.heap.size,1,none⟩=some (.pointer bh)/\w'.cell? ⟨w0.heap.size,2,none⟩=some (.pointer bc)/\w'.cell? ⟨bc,5,none⟩=some (.string c.path)) (by kernel_rfl) (by kernel_rfl) ?_ ?_
   · (try dsimp only);(repeat' apply And.intro)<;>go_simp
   repeat
    apply aI0 rfl rfl
    focus
     rintro w' ⟨s0,s1,s2⟩;go_simp
     first|done|rfl
    simp only[Act.put,sA,sZ,sS]
   refine bA rfl rfl ?_;refine aR 110 #[.pointer w0.heap.size,.pointer bh,.string c.path] ?_ ((a2).mono ?_)
   .go_simp
    first|done|rfl
   rintro e w2 ⟨rfl,hg2,hk2⟩;refine⟨_,rfl,.inr ⟨rfl,rfl⟩,?_⟩;refine aS ?_;obtain⟨iG2,ga2,gb2,gc2,iC2,cp2,cc2,cf2,cg2,cd2⟩:=hg2.facts;have a3:=kA hg2 (by simp only[lP];have q2:=(lw c.path (ok.path (by omega))).2;simp only[cM,zK,yX];omega) (-1-c.core) ⟨#[]⟩;go_wp2_with(go_at_call 113;refine a3.mono ?_;rintro e w3 ⟨rfl,hg3,hk3⟩);go_ret;refine⟨rfl,?_⟩;simpa only[yU]using hg3
theorem aMY (h:GAt w0 w S S' c bs bh bc ks) (hl:ks.length<=1000) (hwf:S.wf) (hwf':S'.wf) (ok:GatherOk S c) (hk:c.kind=2):
 Calls prog 74 #[.pointer w0.heap.size] w λe w'=>e=.returned (.bool true)/\GAt w0 w' S S' c bs bh bc (ks++((fU S c.path++cM S c.path)++[⟨-1-c.core,⟨#[]⟩⟩])):=by
 obtain⟨iG0,ga0,gb0,gc0,iC0,cp0,cc0,cf0,cg0,cd0⟩:=h.facts;have ck:w.cell? bc=some (.int .i64 2):=by rw[<-hk];exact cp0 0 _ rfl
 have a0:=ok.core;have a4:=hwf.2.2.1;have ew:=qT ok hwf;have lw:=@qU S;have a1:=aDR h (by omega) hwf (ok.path (by omega));clear cp0;go_in;go_upto_region 9 with(go_at_call 111;refine a1.mono ?_;rintro e w1 ⟨rfl,hg1,hk1⟩)
 obtain⟨iG1,ga1,gb1,gc1,iC1,cp1,cc1,cf1,cg1,cd1⟩:=hg1.facts;have a2:=oO (hg1.later (bel w1 w1.drew)) (by simp only[lP];have q1:=(lw c.path (ok.path (by omega))).1;omega) hg1.sp hwf c.path;refine aH [12] true (λw'=>w'.cell? w0.heap.size=some (.pointer bs)/\w'.cell? ⟨w0.heap.size,2,none⟩=some (.pointer bc)/\w'.cell? ⟨bc,5,none⟩=some (.string c.path)) (by kernel_rfl) (by kernel_rfl) ?_ ?_
 · (try dsimp only);(repeat' apply And.intro)<;>go_simp
 repeat
  apply aI0 rfl rfl
  focus
   rintro w' ⟨s0,s1,s2⟩;go_simp
   first|done|rfl
  simp only[Act.put,sA,sZ,sS]
 refine bA rfl rfl ?_;refine aR 110 #[.pointer w0.heap.size,.pointer bs,.string c.path] ?_ ((a2).mono ?_)
 .go_simp
  first|done|rfl
 rintro e w2 ⟨rfl,hg2,hk2⟩;refine⟨_,rfl,.inr ⟨rfl,rfl⟩,?_⟩;refine aS ?_;obtain⟨iG2,ga2,gb2,gc2,iC2,cp2,cc2,cf2,cg2,cd2⟩:=hg2.facts;have a3:=kA hg2 (by simp only[lP];have q1:=(lw c.path (ok.path (by omega))).1;simp only[cM,zK,yX];omega) (-1-c.core) ⟨#[]⟩;go_wp2_with(go_at_call 113;refine a3.mono ?_;rintro e w3 ⟨rfl,hg3,hk3⟩);go_ret;refine⟨rfl,?_⟩;simpa only[yU]using hg3
theorem aBH (h:GAt w0 w S S' c bs bh bc ks) (hl:ks.length<=1000) (hwf:S.wf) (hwf':S'.wf) (ok:GatherOk S c) (hk:c.kind=3\/c.kind=6):
 Calls prog 74 #[.pointer w0.heap.size] w λe w'=>e=.returned (.bool true)/\GAt w0 w' S S' c bs bh bc (ks++(fE S c++[⟨-1-c.core,⟨#[]⟩⟩])):=by
 rcases hk with hk|hk
 iterate 2
  .obtain⟨iG0,ga0,gb0,gc0,iC0,cp0,cc0,cf0,cg0,cd0⟩:=h.facts;have ck:w.cell? bc=some (.int .i64 c.kind):=cp0 0 _ rfl;have a0:=ok.core;have a3:=hwf.2.2.1;have ew:=qT ok hwf;have lw:=@qU S;have a1:=aBF h (by omega) hwf (ok.fd (by omega));clear cp0
   go_in;go_upto_region 29 with(go_at_call 112;refine a1.mono ?_;rintro e w1 ⟨rfl,hg1,hk1⟩)
   obtain⟨iG1,ga1,gb1,gc1,iC1,cp1,cc1,cf1,cg1,cd1⟩:=hg1.facts;have a2:=kA hg1 (by simp only[lP];simp only[fE,zK,yX];omega) (-1-c.core) ⟨#[]⟩;go_wp2_with(go_at_call 113;refine a2.mono ?_;rintro e w2 ⟨rfl,hg2,hk2⟩);go_ret;refine⟨rfl,?_⟩;simpa only[yU]using hg2
theorem aMZ (h:GAt w0 w S S' c bs bh bc ks) (hl:ks.length<=1000) (hwf:S.wf) (hwf':S'.wf) (ok:GatherOk S c) (hk:c.kind=5) (hd:c.data.size≠0):
 Calls prog 74 #[.pointer w0.heap.size] w λe w'=>e=.returned (.bool true)/\GAt w0 w' S S' c bs bh bc (ks++(fE S c++[⟨-1-c.core,⟨#[]⟩⟩])):=by
 obtain⟨iG0,ga0,gb0,gc0,iC0,cp0,cc0,cf0,cg0,cd0⟩:=h.facts;have ck:w.cell? bc=some (.int .i64 5):=by rw[<-hk];exact cp0 0 _ rfl
 have a0:=ok.core;have a3:=hwf.2.2.1;have ew:=qT ok hwf;have lw:=@qU S;have a1:=aBF h (by omega) hwf (ok.fd (by omega));clear cp0;have a4:c.data.toList.isEmpty=false:=by rw[zW,Bool.eq_false_iff];intro hz;rw[isEmpty_iff]at hz;apply hd;show c.data.data.toList.length=0;rw[hz];rfl
 go_in;go_upto_region 29 with(go_at_call 112;refine a1.mono ?_;rintro e w1 ⟨rfl,hg1,hk1⟩)
 obtain⟨iG1,ga1,gb1,gc1,iC1,cp1,cc1,cf1,cg1,cd1⟩:=hg1.facts;have a2:=kA hg1 (by simp only[lP];simp only[fE,zK,yX];omega) (-1-c.core) ⟨#[]⟩;go_wp2_with(go_at_call 113;refine a2.mono ?_;rintro e w2 ⟨rfl,hg2,hk2⟩);go_ret;refine⟨rfl,?_⟩;simpa only[yU]using hg2
theorem aNA (h:GAt w0 w S S' c bs bh bc ks) (hl:ks.length<=1000) (hwf:S.wf) (hwf':S'.wf) (ok:GatherOk S c) (hk:c.kind=8):
 Calls prog 74 #[.pointer w0.heap.size] w λe w'=>e=.returned (.bool true)/\GAt w0 w' S S' c bs bh bc (ks++((fU S c.path++dD S c.path2++cM S c.path)++[⟨-1-c.core,⟨#[]⟩⟩])):=by
 obtain⟨iG0,ga0,gb0,gc0,iC0,cp0,cc0,cf0,cg0,cd0⟩:=h.facts;have ck:w.cell? bc=some (.int .i64 8):=by rw[<-hk];exact cp0 0 _ rfl
 have a0:=ok.core;have a5:=hwf.2.2.1;have ew:=qT ok hwf;have lw:=@qU S;have a1:=aDR h (by omega) hwf (ok.path (by omega));clear cp0;go_in;go_upto_region 19 with(go_at_call 111;refine a1.mono ?_;rintro e w1 ⟨rfl,hg1,hk1⟩)
 obtain⟨iG1,ga1,gb1,gc1,iC1,cp1,cc1,cf1,cg1,cd1⟩:=hg1.facts;have a2:=oP hg1 (by simp only[lP];have q1:=(lw c.path (ok.path (by omega))).1;omega) hwf (ok.path2 (by omega));go_upto_region 20 with(go_at_call 109;refine a2.mono ?_;rintro e w2 ⟨rfl,hg2,hk2⟩)
 obtain⟨iG2,ga2,gb2,gc2,iC2,cp2,cc2,cf2,cg2,cd2⟩:=hg2.facts;have a3:=oO (hg2.later (bel w2 w2.drew)) (by simp only[lP];have q1:=(lw c.path (ok.path (by omega))).1;have q3:=(lw c.path2 (ok.path2 (by omega))).2;omega) hg2.sp hwf c.path;refine aH [12] true (λw'=>w'.cell? w0.heap.size=some (.pointer bs)/\w'.cell? ⟨w0.heap.size,2,none⟩=some (.pointer bc)/\w'.cell? ⟨bc,5,none⟩=some (.string c.path)) (by kernel_rfl) (by kernel_rfl) ?_ ?_
 · (try dsimp only);(repeat' apply And.intro)<;>go_simp
 repeat
  apply aI0 rfl rfl
  focus
   rintro w' ⟨s0,s1,s2⟩;go_simp
   first|done|rfl
  simp only[Act.put,sA,sZ,sS]
 refine bA rfl rfl ?_;refine aR 110 #[.pointer w0.heap.size,.pointer bs,.string c.path] ?_ ((a3).mono ?_)
 .go_simp
  first|done|rfl
 rintro e w3 ⟨rfl,hg3,hk3⟩;refine⟨_,rfl,.inr ⟨rfl,rfl⟩,?_⟩;refine aS ?_;obtain⟨iG3,ga3,gb3,gc3,iC3,cp3,cc3,cf3,cg3,cd3⟩:=hg3.facts;have a4:=kA hg3 (by simp only[lP];have q1:=(lw c.path (ok.path (by omega))).1;have q3:=(lw c.path2 (ok.path2 (by omega))).2;simp only[cM,zK,yX];omega) (-1-c.core) ⟨#[]⟩;go_wp2_with(go_at_call 113;refine a4.mono ?_;rintro e w4 ⟨rfl,hg4,hk4⟩);go_ret;refine⟨rfl,?_⟩;simpa only[yU]using hg4
theorem aBI (h:GAt w0 w S S' c bs bh bc ks) (hl:ks.length<=1000) (hwf:S.wf) (hwf':S'.wf) (ok:GatherOk S c) (hk:c.kind=9\/c.kind=10):
 Calls prog 74 #[.pointer w0.heap.size] w λe w'=>e=.returned (.bool true)/\GAt w0 w' S S' c bs bh bc (ks++((dD S c.path++cM S c.path)++[⟨-1-c.core,⟨#[]⟩⟩])):=by
 rcases hk with hk|hk
 iterate 2
  .obtain⟨iG0,ga0,gb0,gc0,iC0,cp0,cc0,cf0,cg0,cd0⟩:=h.facts;have ck:w.cell? bc=some (.int .i64 c.kind):=cp0 0 _ rfl;have a0:=ok.core;have a4:=hwf.2.2.1;have ew:=qT ok hwf;have lw:=@qU S;have a1:=oP h (by omega) hwf (ok.path (by omega));clear cp0
   go_in;go_upto_region 24 with(go_at_call 109;refine a1.mono ?_;rintro e w1 ⟨rfl,hg1,hk1⟩)
   obtain⟨iG1,ga1,gb1,gc1,iC1,cp1,cc1,cf1,cg1,cd1⟩:=hg1.facts;have a2:=oO (hg1.later (bel w1 w1.drew)) (by simp only[lP];have q2:=(lw c.path (ok.path (by omega))).2;omega) hg1.sp hwf c.path;refine aH [12] true (λw'=>w'.cell? w0.heap.size=some (.pointer bs)/\w'.cell? ⟨w0.heap.size,2,none⟩=some (.pointer bc)/\w'.cell? ⟨bc,5,none⟩=some (.string c.path)) (by kernel_rfl) (by kernel_rfl) ?_ ?_
   · (try dsimp only);(repeat' apply And.intro)<;>go_simp
   repeat
    apply aI0 rfl rfl
    focus
     rintro w' ⟨s0,s1,s2⟩;go_simp
     first|done|rfl
    simp only[Act.put,sA,sZ,sS]
   refine bA rfl rfl ?_;refine aR 110 #[.pointer w0.heap.size,.pointer bs,.string c.path] ?_ ((a2).mono ?_)
   .go_simp
    first|done|rfl
   rintro e w2 ⟨rfl,hg2,hk2⟩;refine⟨_,rfl,.inr ⟨rfl,rfl⟩,?_⟩;refine aS ?_;obtain⟨iG2,ga2,gb2,gc2,iC2,cp2,cc2,cf2,cg2,cd2⟩:=hg2.facts;have a3:=kA hg2 (by simp only[lP];have q2:=(lw c.path (ok.path (by omega))).2;simp only[cM,zK,yX];omega) (-1-c.core) ⟨#[]⟩;go_wp2_with(go_at_call 113;refine a3.mono ?_;rintro e w3 ⟨rfl,hg3,hk3⟩);go_ret;refine⟨rfl,?_⟩;simpa only[yU]using hg3
theorem aIB (h:GAt w0 w S S' c bs bh bc ks) (hl:ks.length<=1000) (hwf:S.wf) (hwf':S'.wf) (ok:GatherOk S c) (hk:c.kind=11):
 Calls prog 74 #[.pointer w0.heap.size] w λe w'=>e=.returned (.bool true)/\GAt w0 w' S S' c bs bh bc (ks++((dD S c.path++dD S c.path2++cM S c.path)++[⟨-1-c.core,⟨#[]⟩⟩])):=by
 obtain⟨iG0,ga0,gb0,gc0,iC0,cp0,cc0,cf0,cg0,cd0⟩:=h.facts;have ck:w.cell? bc=some (.int .i64 11):=by rw[<-hk];exact cp0 0 _ rfl
 have a0:=ok.core;have a5:=hwf.2.2.1;have ew:=qT ok hwf;have lw:=@qU S;have a1:=oP h (by omega) hwf (ok.path (by omega));clear cp0;go_in;go_upto_region 27 with(go_at_call 109;refine a1.mono ?_;rintro e w1 ⟨rfl,hg1,hk1⟩)
 obtain⟨iG1,ga1,gb1,gc1,iC1,cp1,cc1,cf1,cg1,cd1⟩:=hg1.facts;have a2:=oP hg1 (by simp only[lP];have q2:=(lw c.path (ok.path (by omega))).2;omega) hwf (ok.path2 (by omega));go_upto_region 28 with(go_at_call 109;refine a2.mono ?_;rintro e w2 ⟨rfl,hg2,hk2⟩)
 obtain⟨iG2,ga2,gb2,gc2,iC2,cp2,cc2,cf2,cg2,cd2⟩:=hg2.facts;have a3:=oO (hg2.later (bel w2 w2.drew)) (by simp only[lP];have q2:=(lw c.path (ok.path (by omega))).2;have q3:=(lw c.path2 (ok.path2 (by omega))).2;omega) hg2.sp hwf c.path;refine aH [12] true (λw'=>w'.cell? w0.heap.size=some (.pointer bs)/\w'.cell? ⟨w0.heap.size,2,none⟩=some (.pointer bc)/\w'.cell? ⟨bc,5,none⟩=some (.string c.path)) (by kernel_rfl) (by kernel_rfl) ?_ ?_
 · (try dsimp only);(repeat' apply And.intro)<;>go_simp
 repeat
  apply aI0 rfl rfl
  focus
   rintro w' ⟨s0,s1,s2⟩;go_simp
   first|done|rfl
  simp only[Act.put,sA,sZ,sS]
 refine bA rfl rfl ?_;refine aR 110 #[.pointer w0.heap.size,.pointer bs,.string c.path] ?_ ((a3).mono ?_)
 .go_simp
  first|done|rfl
 rintro e w3 ⟨rfl,hg3,hk3⟩;refine⟨_,rfl,.inr ⟨rfl,rfl⟩,?_⟩;refine aS ?_;obtain⟨iG3,ga3,gb3,gc3,iC3,cp3,cc3,cf3,cg3,cd3⟩:=hg3.facts;have a4:=kA hg3 (by simp only[lP];have q2:=(lw c.path (ok.path (by omega))).2;have q3:=(lw c.path2 (ok.path2 (by omega))).2;simp only[cM,zK,yX];omega) (-1-c.core) ⟨#[]⟩;go_wp2_with(go_at_call 113;refine a4.mono ?_;rintro e w4 ⟨rfl,hg4,hk4⟩);go_ret;refine⟨rfl,?_⟩;simpa only[yU]using hg4
end
end
section
section
variable {w0 w w' w1 w2:World} {S S':PSt} {c:PCall} {bs bh bc:Nat} {ks:List PKey}
theorem aIH (h:GAt w0 w S S' c bs bh bc ks) (hl:ks.length<=1000) (hwf:S.wf) (hwf':S'.wf) (ok:GatherOk S c) {l:List PKey} (hk:cH S S' c=some l):
 Calls prog 74 #[.pointer w0.heap.size] w λe w'=>e=.returned (.bool true)/\GAt w0 w' S S' c bs bh bc (ks++l):=by
 unfold cH at hk;simp only at hk;obtain⟨m,hm,rfl⟩:=Option.map_eq_some_iff.1 hk;by_cases k0:c.kind=0
 .rw[zB (.inl k0)]at hm;cases hm;exact aBG h hl hwf hwf' ok (.inl k0)
 by_cases k1:c.kind=1
 .rw[zB (.inr k1)]at hm;cases hm;exact aBG h hl hwf hwf' ok (.inr k1)
 rw[zA (by omega)]at hm;by_cases k2:c.kind=2
 .rw[zB k2]at hm;cases hm;exact aMY h hl hwf hwf' ok k2
 rw[zA k2]at hm;by_cases k3:c.kind=3
 .rw[zB (.inl k3)]at hm;cases hm;exact aBH h hl hwf hwf' ok (.inl k3)
 by_cases k6:c.kind=6
 .rw[zB (.inr k6)]at hm;cases hm;exact aBH h hl hwf hwf' ok (.inr k6)
 rw[zA (by omega)]at hm;by_cases k5:c.kind=5
 .rw[zB k5]at hm;by_cases hd:c.data.size=0
  .rw[zB hd]at hm;cases hm
  rw[zA hd]at hm;cases hm;exact aMZ h hl hwf hwf' ok k5 hd
 rw[zA k5]at hm;by_cases k8:c.kind=8
 .rw[zB k8]at hm;cases hm;exact aNA h hl hwf hwf' ok k8
 rw[zA k8]at hm;by_cases k9:c.kind=9
 .rw[zB (.inl k9)]at hm;cases hm;exact aBI h hl hwf hwf' ok (.inl k9)
 by_cases k10:c.kind=10
 .rw[zB (.inr k10)]at hm;cases hm;exact aBI h hl hwf hwf' ok (.inr k10)
 rw[zA (by omega)]at hm;by_cases k11:c.kind=11
 .rw[zB k11]at hm;cases hm;exact aIB h hl hwf hwf' ok k11
 rw[zA k11]at hm;cases hm
theorem aNN (h:GAt w0 w S S' c bs bh bc ks) (hk:cH S S' c=none):
 Calls prog 74 #[.pointer w0.heap.size] w λe w'=>e=.returned (.bool false)/\GAt w0 w' S S' c bs bh bc ks:=by
 obtain⟨out,hgb,-⟩:=h.own;have iG:=hgb.lt;have gc:w.cell? ⟨w0.heap.size,2,none⟩=some (.pointer bc):=hgb.cell 2;have iC:BlockLt bc w:=⟨zR h.cp.1 h.below.size⟩;have cp:∀(t:Nat) (u:Value),c.cells[t]? =some u->w.cell? ⟨bc,t,none⟩=some u:=λt u hu=>(h.below.cell (p:=⟨bc,t,none⟩) h.cp.1).trans (h.cp.2 t u hu);have ck:=cp 0 _ rfl;have cd:=cp 7 _ rfl;have HG:=aC h;unfold cH at hk;simp only[Option.map_eq_none_iff]at hk;have a0:¬(c.kind=0\/c.kind=1):=λhh=>by rw[zB hh]at hk;cases hk
 rw[zA a0]at hk;have n2:¬c.kind=2:=λhh=>by rw[zB hh]at hk;cases hk
 rw[zA n2]at hk;have a1:¬(c.kind=3\/c.kind=6):=λhh=>by rw[zB hh]at hk;cases hk
 rw[zA a1]at hk;by_cases k5:c.kind=5
 .rw[zB k5]at hk;have hd:c.data.size=0:=Classical.byContradiction λhn=>by rw[zA hn]at hk;cases hk
  have a3:c.data.toList.isEmpty=true:=by rw[zW,isEmpty_iff];exact zT hd
  rw[k5]at ck;clear h hgb cp hk a0 n2 a1 hd;go_in;go_wp2;go_ret;exact⟨rfl,HG.out.later (bel w _)⟩
 rw[zA k5]at hk;have n8:¬c.kind=8:=λhh=>by rw[zB hh]at hk;cases hk
 rw[zA n8]at hk;have n9:¬(c.kind=9\/c.kind=10):=λhh=>by rw[zB hh]at hk;cases hk
 rw[zA n9]at hk;have a2:¬c.kind=11:=λhh=>by rw[zB hh]at hk;cases hk
 have e0:(c.kind==0)=false:=by simp;omega
 have e1:(c.kind==1)=false:=by simp;omega
 have e2:(c.kind==2)=false:=by simp;omega
 have e3:(c.kind==3)=false:=by simp;omega
 have e6:(c.kind==6)=false:=by simp;omega
 have e5:(c.kind==5)=false:=by simp;omega
 have e8:(c.kind==8)=false:=by simp;omega
 have e9:(c.kind==9)=false:=by simp;omega
 have a4:(c.kind==10)=false:=by simp;omega
 have a5:(c.kind==11)=false:=by simp;omega
 clear h hgb cp hk a0 n2 a1 k5 n8 n9 a2;go_in;go_wp2;go_ret;exact⟨rfl,HG.out.later (bel w _)⟩
end
def rV (code:Int) (o:Option (List PKey)):List PKey:=if code≠0 then[]else match o with|none=>[]|some l=>cE (nS l)
def mN (S:PSt) (c:PCall):List PKey:=rV (lX S c).2.code (cH S (lX S c).1 c)
theorem tK {code:Int} {o:Option (List PKey)} (h:¬code=0):rV code o=[]:=by unfold rV;rw[zB h]
theorem nI (code:Int):rV code none=[]:=by unfold rV;split<;>rfl
theorem qX {code:Int} {l:List PKey} (h:code=0):rV code (some l)=cE (nS l):=by unfold rV;rw[zA (by simpa using h)]
end
section
variable {S S':PSt} {c:PCall} {l:List PKey}
theorem aII (h:cH S S' c=some l):l≠[]:=by unfold cH at h;simp only at h;obtain⟨m,_,rfl⟩:=Option.map_eq_some_iff.1 h;simp
theorem aFP (ok:GatherOk S c) (h:cH S S' c=some l):l.length<=1000:=by
 have lw:∀S p,jF p->(fU S p).length<=10/\(dD S p).length<=11:=λS p hp=>by have:=dB hp.1;unfold dD fU aBD;rw[lP,lM,length_range];exact⟨by omega,by simp;omega⟩
 have li:∀S p,(cM S p).length=1:=λ_ _=>rfl;have lo:∀S c,(fE S c).length=1:=λ_ _=>rfl;unfold cH at h;simp only at h;obtain⟨m,hm,rfl⟩:=Option.map_eq_some_iff.1 h
 have:m.length<=100:=by
  by_cases k0:c.kind=0\/c.kind=1
  .rw[zB k0]at hm;cases hm;have:=(lw S c.path (ok.path (by omega))).2;rw[lP,li];omega
  rw[zA k0]at hm;by_cases k2:c.kind=2
  .rw[zB k2]at hm;cases hm;have:=(lw S c.path (ok.path (by omega))).1;rw[lP,li];omega
  rw[zA k2]at hm;by_cases k3:c.kind=3\/c.kind=6
  .rw[zB k3]at hm;cases hm;rw[lo];omega
  rw[zA k3]at hm;by_cases k5:c.kind=5
  .rw[zB k5]at hm
   split at hm
   .cases hm
   cases hm;rw[lo];omega
  rw[zA k5]at hm;by_cases k8:c.kind=8
  .rw[zB k8]at hm;cases hm;have h1:=(lw S c.path (ok.path (by omega))).1;have h2:=(lw S c.path2 (ok.path2 (by omega))).2;rw[lP,lP,li];omega
  rw[zA k8]at hm;by_cases k9:c.kind=9\/c.kind=10
  .rw[zB k9]at hm;cases hm;have:=(lw S c.path (ok.path (by omega))).2;rw[lP,li];omega
  rw[zA k9]at hm;by_cases k11:c.kind=11
  .rw[zB k11]at hm;cases hm;have h1:=(lw S c.path (ok.path (by omega))).2;have h2:=(lw S c.path2 (ok.path2 (by omega))).2;rw[lP,lP,li];omega
  rw[zA k11]at hm;cases hm
 rw[lP];simp;omega
def aXX (B:Nat) (S':PSt) (ks:List PKey) (e:Ending) (w':World):Prop:=∃kv iv ov mv,e=.returned (.tuple #[kv,.agg #[iv,ov,mv]])/\OwnP B w' 61 2 kv (ks.map PKey.cells)/\StOwn B w' iv ov mv S'
structure KW (w:World) (S S':PSt) (c:PCall) (r:PRes) (iv ov mv iv1 ov1 mv1 nv1:Value) (b6 b7:Nat) (wA:World):Prop where
 below:Bl w wA
 s:Blk wA w.heap.size #[iv,ov,mv] 26
 c:Blk wA (w.heap.size+1) #[c.kind,c.core,c.fd,c.off,c.num,c.path,c.path2,c.data] 28
 o:Blk wA (w.heap.size+1+1) #[.slice none 0 0,.slice none 0 0,.slice none 0 0] 26
 h:Blk wA b6 #[iv1,ov1,mv1] 26
 r:Blk wA b7 #[r.code,r.fd,r.num,r.dir,r.data,nv1] 52
 n6:w.heap.size+1+1<b6
 sr:StRead wA iv ov mv S
 sr1:StOwn w.heap.size wA iv1 ov1 mv1 S'
theorem aRV (iv ov mv:Value) (S:PSt) (c:PCall) (w:World) (h:StRead w iv ov mv S) (hwf:S.wf) (hwf':(lX S c).1.wf) (hcd:c.data.size<=1000000000000000000):
 Calls prog 40 #[.agg #[iv,ov,mv],c.val] w λe w'=>Bl w w'/\aXX w.heap.size (lX S c).1 (mN S c) e w':=by
 have D:=aUV hwf hcd;have a8:(lX S c).2.code=0->GatherOk S c:=λhc=>aBC hwf hc;unfold mN;generalize lX S c=SR at *;obtain⟨S',r⟩:=SR;simp only at D a8 hwf' |-;obtain⟨RR,hRR⟩:∃RR,rV r.code (cH S S' c)=RR:=⟨_,rfl⟩;rw[hRR];have b4:=aC hRR;clear hRR;have o1:=h.1.one;have o2:=h.2.1.one;have o3:iv.oneCell'=true:=by obtain⟨_,_,_,h3,_⟩:=h;exact h3.one
 have HS:=aC h;clear h;unfold PCall.val;go_in;go_upto_region 2 with(go_at_call 73;refine(D _ _ _ _ (HS.out.below (bel w _) (zC _))).mono ?_;rintro e wa ⟨hb,iv1,ov1,mv1,nv1,rfl,hs1,hn1⟩;obtain⟨pa,rfl⟩:=hb.rest;clear hb;obtain⟨a11,a12,a13,a14,a15,a16,a17,a18,a19,rfl,rfl,rfl⟩:=hs1.forms;obtain⟨n11,n12,rfl,-⟩:=hn1.row)
 refine aD (F:=λwA=>KW w S S' c r iv ov mv (.slice a11 a12 a13) (.slice a14 a15 a16) (.slice a17 a18 a19) (.slice n11 r.names.length n12) (w.heap.size+1+1+1+pa.len) (w.heap.size+1+1+1+pa.len+1) wA) ?_ ?_
 .refine⟨bel w _,?_,?_,?_,?_,?_,by omega,HS.out.below (bel w _) (zC _),?_⟩
  .repeat(first|exact Blk.new_i _ _ _ _|refine Blk.alloc ?_ _|refine Blk.junk ?_ _)
  .repeat(first|exact Blk.new_i _ _ _ _|refine Blk.alloc ?_ _|refine Blk.junk ?_ _)
  .repeat(first|exact Blk.new_i _ _ _ _|refine Blk.alloc ?_ _|refine Blk.junk ?_ _)
  .repeat(first|exact Blk.new_i _ _ _ _|refine Blk.alloc ?_ _|refine Blk.junk ?_ _)
  .repeat(first|exact Blk.new_i _ _ _ _|refine Blk.alloc ?_ _|refine Blk.junk ?_ _)
  exact StOwn.mono (StOwn.keep hs1 (Keep.of_below (bel _ _) (λ_=>False)) (λ_ h=>h.elim)) (by simp;omega)
 generalize w.heap.size+1+1+1+pa.len=b6;generalize b6+1=b7;clear hs1 hn1 pa HS D;intro wA K;have k0:wA.cell? b7=some (.int .i64 r.code):=K.r.cell 0;have i7:=K.r.lt;have i6:=K.h.lt;have h0:wA.cell? b6=some (.slice a11 a12 a13):=K.h.cell 0;have h1:wA.cell? ⟨b6,1,none⟩=some (.slice a14 a15 a16):=K.h.cell 1;have h2:wA.cell? ⟨b6,2,none⟩=some (.slice a17 a18 a19):=K.h.cell 2;have i5:=K.o.lt;have p0:wA.cell? ⟨w.heap.size+1+1,0,none⟩=some (.slice none 0 0):=K.o.cell 0;have p1:wA.cell? ⟨w.heap.size+1+1,1,none⟩=some (.slice none 0 0):=K.o.cell 1;have p2:wA.cell? ⟨w.heap.size+1+1,2,none⟩=some (.slice none 0 0):=K.o.cell 2;have f0:=K.o.frozen 0;have f1:=K.o.frozen 1;have f2:=K.o.frozen 2;have a9:GAt wA (wA.alloc (.cells #[.pointer w.heap.size,.pointer b6,.pointer (some ⟨w.heap.size+1,0,none⟩),.slice none 0 0] 106)) S S' c w.heap.size b6 (w.heap.size+1) []:=
  ⟨⟨K.s.lt.lt,iv,ov,mv,K.s.cell 0,K.s.cell 1,K.s.cell 2,K.sr⟩,⟨i6.lt,_,_,_,h0,h1,h2,K.sr1.read⟩,⟨K.c.lt.lt,λt u hu=>by rw[K.c.cell];simpa[PCall.cells]using hu⟩,bel wA _,.slice none 0 0,Blk.new _ _ _,.inl ⟨rfl,rfl⟩⟩
 have HK:=bG K a9;have HN:=K.n6;by_cases hcode:r.code=0
 .have c7:(r.code !=0)=false:=by simpa using hcode
  rcases hg:cH S S' c with _|l
  .have b5:RR=[]:=by rw[<-b4.out,hg,nI]
   have c8:=aNN a9 hg;clear K a9 hcode a8;go_upto_region 4 with(go_at_call 74;refine c8.mono ?_;rintro e w2 ⟨rfl,hg2⟩)
   have a0:=hg2.below;have q0:w2.cell? b6=some (.slice a11 a12 a13):=(a0.cell (p:=b6) i6.lt).trans h0;have q1:w2.cell? ⟨b6,1,none⟩=some (.slice a14 a15 a16):=(a0.cell (p:=⟨b6,1,none⟩) i6.lt).trans h1;have q2:w2.cell? ⟨b6,2,none⟩=some (.slice a17 a18 a19):=(a0.cell (p:=⟨b6,2,none⟩) i6.lt).trans h2;have ko:Blk w2 (w.heap.size+1+1) #[.slice none 0 0,.slice none 0 0,.slice none 0 0] 26:=HK.out.1.o.below a0 i5.lt;have p0:w2.cell? ⟨w.heap.size+1+1,0,none⟩=some (.slice none 0 0):=ko.cell 0;have p1:w2.cell? ⟨w.heap.size+1+1,1,none⟩=some (.slice none 0 0):=ko.cell 1;have p2:w2.cell? ⟨w.heap.size+1+1,2,none⟩=some (.slice none 0 0):=ko.cell 2;have f0:=ko.frozen 0;have f1:=ko.frozen 1;have f2:=ko.frozen 2;have j6:BlockLt b6 w2:=⟨by have:=i6.lt;have:=a0.size;omega⟩;have j5:=ko.lt;refine aH [2] true (λw'=>w'.cell? b6=some (.slice a11 a12 a13)/\w'.cell? ⟨b6,1,none⟩=some (.slice a14 a15 a16)/\w'.cell? ⟨b6,2,none⟩=some (.slice a17 a18 a19)) (by kernel_rfl) (by kernel_rfl) ?_ ?_
   · (try dsimp only);(repeat' apply And.intro)<;>go_simp
   repeat
    apply aI0 rfl rfl
    focus
     rintro w' ⟨s0,s1,s2⟩;go_simp
     first|done|rfl
    simp only[Act.put,sA,sZ,sS]
   refine aV rfl rfl ?_;apply Exists.intro;apply And.intro
   focus
    go_simp
    first|done|rfl
   apply And.intro
   focus
    exact .inr ⟨rfl,rfl⟩
   refine aS ?_;have a2:Keep (λg=>g=w.heap.size+1+1) wA ((((w2.drew).setCell ⟨w.heap.size+1+1,0,none⟩ (.slice a11 a12 a13)).setCell ⟨w.heap.size+1+1,1,none⟩ (.slice a14 a15 a16)).setCell ⟨w.heap.size+1+1,2,none⟩ (.slice a17 a18 a19)):=(((Keep.of_below a0.drew (λg=>g=w.heap.size+1+1)).setCell (p:=⟨w.heap.size+1+1,0,none⟩) (.inl rfl) _).setCell (p:=⟨w.heap.size+1+1,1,none⟩) (.inl rfl) _).setCell (p:=⟨w.heap.size+1+1,2,none⟩) (.inl rfl) _;have a1:Blk ((((w2.drew).setCell ⟨w.heap.size+1+1,0,none⟩ (.slice a11 a12 a13)).setCell ⟨w.heap.size+1+1,1,none⟩ (.slice a14 a15 a16)).setCell ⟨w.heap.size+1+1,2,none⟩ (.slice a17 a18 a19)) (w.heap.size+1+1) #[(.slice a11 a12 a13),(.slice a14 a15 a16),(.slice a17 a18 a19)] 26:=(((HK.out.1.o.below a0.drew i5.lt).set_ 0 (.slice a11 a12 a13)).set_ 1 (.slice a14 a15 a16)).set_ 2 (.slice a17 a18 a19);obtain⟨wF,hwF⟩:∃wF,((((w2.drew).setCell ⟨w.heap.size+1+1,0,none⟩ (.slice a11 a12 a13)).setCell ⟨w.heap.size+1+1,1,none⟩ (.slice a14 a15 a16)).setCell ⟨w.heap.size+1+1,2,none⟩ (.slice a17 a18 a19))=wF:=⟨_,rfl⟩;change Exit.then _ _ .normal _ (((w2.drew.setCell ⟨w.heap.size+1+1,0,none⟩ (.slice a11 a12 a13)).setCell ⟨w.heap.size+1+1,1,none⟩ (.slice a14 a15 a16)).setCell ⟨w.heap.size+1+1,2,none⟩ (.slice a17 a18 a19))
   rw[hwF]at a2 a1 |-;have c9:=a2;have e0:wF.cell? ⟨w.heap.size+1+1,0,none⟩=some (.slice a11 a12 a13):=a1.cell 0;have e1:wF.cell? ⟨w.heap.size+1+1,1,none⟩=some (.slice a14 a15 a16):=a1.cell 1;have e2:wF.cell? ⟨w.heap.size+1+1,2,none⟩=some (.slice a17 a18 a19):=a1.cell 2;have c0:=a1.lt;have b1:StOwn w.heap.size wF (.slice a11 a12 a13) (.slice a14 a15 a16) (.slice a17 a18 a19) S':=StOwn.keep HK.out.1.sr1 a2 (λg hg=>by rw[hg];exact⟨_,26,HK.out.1.o,by decide,by decide,by decide,by decide⟩);have b2:Bl w wF:=HK.out.1.below.trans (a2.below HK.out.1.below.size (λi hi hg=>by omega));clear q0 q1 q2 p0 p1 p2 f0 f1 f2 ko;go_wp2;exact xD (v:=.tuple #[.slice none 0 0,.agg #[(.slice a11 a12 a13),(.slice a14 a15 a16),(.slice a17 a18 a19)]]) (by simp[results,Tryz.results40,go_sem,e0,e1,e2]) rfl ⟨b2,_,_,_,_,rfl,.inl ⟨rfl,by rw[b5];rfl⟩,b1⟩
  have d0:=aIH a9 (by simp) hwf hwf' (a8 hcode) hg;have e3:l.length<=1000:=aFP (a8 hcode) hg;have c1:RR=cE (nS l):=by rw[<-b4.out,hg,qX hcode]
  have b8:=aII hg;clear K a9 hcode a8 p0 p1 p2 f0 f1 f2;go_upto_region 5 with(go_at_call 74;refine d0.mono ?_;rintro e w2 ⟨rfl,hg2⟩)
  rw[nil_append]at hg2;obtain⟨out,hgb,hown⟩:=hg2.own;have c2:=aC hown;rcases hown with⟨-,h2'⟩|⟨gk,cap,arr,rfl,hgkB,hgkb,-⟩
  .exact absurd (map_eq_nil_iff.1 h2') b8
  rw[lM]at c2 hgb;have a4:=sort75 wA.heap.size gk cap l w2 c2.out (by omega);have e4:=hgb.lt;have d1:w2.cell? ⟨wA.heap.size,3,none⟩=some (.slice gk l.length cap):=hgb.cell 3;have b3:=hgkb.ne_ hgb (by decide);have a0:=hg2.below;go_upto_region 6 with(go_at_call 75;refine a4.mono ?_;rintro e w3 ⟨rfl,ho3,hk3⟩)
  have a5:Bl wA w3:=a0.trans (hk3.below a0.size (λi hi hg=>by omega));have a6:=hk3.blk hgb (λe=>b3 e.symm);have e5:=a6.lt;have d2:w3.cell? ⟨wA.heap.size,3,none⟩=some (.slice gk l.length cap):=a6.cell 3;rw[<-jU l]at ho3;have a7:=aMM wA.heap.size gk cap (nS l) w3.drew (OwnP.keep ho3 (Keep.of_below (bel w3 w3.drew) (λ_=>False)) (λ_ _ h=>h)) (by rw[jU];omega);rw[jU]at a7;rw[<-c1]at a7;clear d1 hgb a4;have q0:w3.cell? b6=some (.slice a11 a12 a13):=(a5.cell (p:=b6) i6.lt).trans h0;have q1:w3.cell? ⟨b6,1,none⟩=some (.slice a14 a15 a16):=(a5.cell (p:=⟨b6,1,none⟩) i6.lt).trans h1;have q2:w3.cell? ⟨b6,2,none⟩=some (.slice a17 a18 a19):=(a5.cell (p:=⟨b6,2,none⟩) i6.lt).trans h2;have ko:Blk w3 (w.heap.size+1+1) #[.slice none 0 0,.slice none 0 0,.slice none 0 0] 26:=HK.out.1.o.below a5 i5.lt;have p0:w3.cell? ⟨w.heap.size+1+1,0,none⟩=some (.slice none 0 0):=ko.cell 0;have p1:w3.cell? ⟨w.heap.size+1+1,1,none⟩=some (.slice none 0 0):=ko.cell 1;have p2:w3.cell? ⟨w.heap.size+1+1,2,none⟩=some (.slice none 0 0):=ko.cell 2;have f0:=ko.frozen 0;have f1:=ko.frozen 1;have f2:=ko.frozen 2;have j6:BlockLt b6 w3:=⟨by have:=i6.lt;have:=a5.size;omega⟩;have j5:=ko.lt;refine aH [4,7] true (λw'=>w'.cell? ⟨wA.heap.size,3,none⟩=some (.slice gk l.length cap)/\w'.cell? b6=some (.slice a11 a12 a13)/\w'.cell? ⟨b6,1,none⟩=some (.slice a14 a15 a16)/\w'.cell? ⟨b6,2,none⟩=some (.slice a17 a18 a19)) (by kernel_rfl) (by kernel_rfl) ?_ ?_
  · (try dsimp only);(repeat' apply And.intro)<;>go_simp
  repeat
   apply aI0 rfl rfl
   focus
    rintro w' ⟨s9,s0,s1,s2⟩;go_simp
    first|done|rfl
   simp only[Act.put,sA,sZ,sS]
  refine bA rfl rfl ?_;refine aR 80 #[.slice gk l.length cap] ?_ (a7.mono ?_)
  .go_simp
   first|done|rfl
  rintro e w4 ⟨rfl,ho4,hk4⟩;have b0:Bl wA w4:=a5.trans ((bel w3 w3.drew).mono a5.size |>.trans (hk4.below a5.size (λi hi hg=>by omega)));have b9:=hk4.blk (a6.drew) (λe=>b3 e.symm);have c3:w4.cell? b6=some (.slice a11 a12 a13):=(b0.cell (p:=b6) i6.lt).trans h0;have c4:w4.cell? ⟨b6,1,none⟩=some (.slice a14 a15 a16):=(b0.cell (p:=⟨b6,1,none⟩) i6.lt).trans h1;have c5:w4.cell? ⟨b6,2,none⟩=some (.slice a17 a18 a19):=(b0.cell (p:=⟨b6,2,none⟩) i6.lt).trans h2;have a3:Blk w4 (w.heap.size+1+1) #[.slice none 0 0,.slice none 0 0,.slice none 0 0] 26:=HK.out.1.o.below b0 i5.lt;have d3:w4.cell? ⟨w.heap.size+1+1,0,none⟩=some (.slice none 0 0):=a3.cell 0;have d4:w4.cell? ⟨w.heap.size+1+1,1,none⟩=some (.slice none 0 0):=a3.cell 1;have d5:w4.cell? ⟨w.heap.size+1+1,2,none⟩=some (.slice none 0 0):=a3.cell 2;have d6:=a3.frozen 0;have d7:=a3.frozen 1;have d8:=a3.frozen 2;have e6:BlockLt b6 w4:=⟨by have:=i6.lt;have:=b0.size;omega⟩;have e7:=a3.lt;refine⟨_,rfl,.inl ⟨b9.cell 3,c3,c4,c5⟩,?_⟩;simp only[Act.put,sA,sZ,sS]
  repeat
   apply aI0 rfl rfl
   focus
    rintro w' ⟨s9,s0,s1,s2⟩;go_simp
    first|done|rfl
   simp only[Act.put,sA,sZ,sS]
  refine aV rfl rfl ?_;apply Exists.intro;apply And.intro
  focus
   go_simp
   first|done|rfl
  apply And.intro
  focus
   exact .inr ⟨rfl,rfl⟩
  refine aS ?_;have a2:Keep (λg=>g=w.heap.size+1+1) wA (((w4.setCell ⟨w.heap.size+1+1,0,none⟩ (.slice a11 a12 a13)).setCell ⟨w.heap.size+1+1,1,none⟩ (.slice a14 a15 a16)).setCell ⟨w.heap.size+1+1,2,none⟩ (.slice a17 a18 a19)):=(((Keep.of_below b0 (λg=>g=w.heap.size+1+1)).setCell (p:=⟨w.heap.size+1+1,0,none⟩) (.inl rfl) _).setCell (p:=⟨w.heap.size+1+1,1,none⟩) (.inl rfl) _).setCell (p:=⟨w.heap.size+1+1,2,none⟩) (.inl rfl) _;have c6:Keep (λg=>g=w.heap.size+1+1) w4 (((w4.setCell ⟨w.heap.size+1+1,0,none⟩ (.slice a11 a12 a13)).setCell ⟨w.heap.size+1+1,1,none⟩ (.slice a14 a15 a16)).setCell ⟨w.heap.size+1+1,2,none⟩ (.slice a17 a18 a19)):=(((Keep.refl (λg=>g=w.heap.size+1+1) w4).setCell (p:=⟨w.heap.size+1+1,0,none⟩) (.inl rfl) _).setCell (p:=⟨w.heap.size+1+1,1,none⟩) (.inl rfl) _).setCell (p:=⟨w.heap.size+1+1,2,none⟩) (.inl rfl) _;have a1:Blk (((w4.setCell ⟨w.heap.size+1+1,0,none⟩ (.slice a11 a12 a13)).setCell ⟨w.heap.size+1+1,1,none⟩ (.slice a14 a15 a16)).setCell ⟨w.heap.size+1+1,2,none⟩ (.slice a17 a18 a19)) (w.heap.size+1+1) #[(.slice a11 a12 a13),(.slice a14 a15 a16),(.slice a17 a18 a19)] 26:=((a3.set_ 0 (.slice a11 a12 a13)).set_ 1 (.slice a14 a15 a16)).set_ 2 (.slice a17 a18 a19);obtain⟨wF,hwF⟩:∃wF,(((w4.setCell ⟨w.heap.size+1+1,0,none⟩ (.slice a11 a12 a13)).setCell ⟨w.heap.size+1+1,1,none⟩ (.slice a14 a15 a16)).setCell ⟨w.heap.size+1+1,2,none⟩ (.slice a17 a18 a19))=wF:=⟨_,rfl⟩;change Exit.then _ _ .normal _ (((w4.setCell ⟨w.heap.size+1+1,0,none⟩ (.slice a11 a12 a13)).setCell ⟨w.heap.size+1+1,1,none⟩ (.slice a14 a15 a16)).setCell ⟨w.heap.size+1+1,2,none⟩ (.slice a17 a18 a19))
  rw[hwF]at a2 c6 a1 |-;have e0:wF.cell? ⟨w.heap.size+1+1,0,none⟩=some (.slice a11 a12 a13):=a1.cell 0;have e1:wF.cell? ⟨w.heap.size+1+1,1,none⟩=some (.slice a14 a15 a16):=a1.cell 1;have e2:wF.cell? ⟨w.heap.size+1+1,2,none⟩=some (.slice a17 a18 a19):=a1.cell 2;have c0:=a1.lt;have b1:StOwn w.heap.size wF (.slice a11 a12 a13) (.slice a14 a15 a16) (.slice a17 a18 a19) S':=StOwn.keep HK.out.1.sr1 a2 (λg hg=>by rw[hg];exact⟨_,26,HK.out.1.o,by decide,by decide,by decide,by decide⟩);have b2:Bl w wF:=HK.out.1.below.trans (a2.below HK.out.1.below.size (λi hi hg=>by omega));have d9:OwnP w.heap.size wF 61 2 (.slice gk RR.length cap) (RR.map PKey.cells):=OwnP.mono (OwnP.keep ho4 c6 (λg hg hge=>by
   rw[hge]at hg;exact ho4.ne_blk a3 (by decide) hg rfl)) (by have:=HK.out.1.below.size;omega)
  clear q0 q1 q2 p0 p1 p2 f0 f1 f2 ko c3 c4 c5 d3 d4 d5 d6 d7 d8 a3 d2;go_wp2;exact xD (v:=.tuple #[.slice gk RR.length cap,.agg #[(.slice a11 a12 a13),(.slice a14 a15 a16),(.slice a17 a18 a19)]]) (by simp[results,Tryz.results40,go_sem,e0,e1,e2,c1]) rfl ⟨b2,_,_,_,_,rfl,d9,b1⟩
 have c7:(r.code !=0)=true:=by simpa using hcode
 have b5:RR=[]:=by rw[<-b4.out,tK hcode]
 clear K a9 hcode a8;go_upto_region 4 with fail;have a0:=bel wA (wA.alloc (.cells #[.pointer w.heap.size,.pointer b6,.pointer (some ⟨w.heap.size+1,0,none⟩),.slice none 0 0] 106));obtain⟨w2,hw2⟩:∃w2,wA.alloc (.cells #[.pointer w.heap.size,.pointer b6,.pointer (some ⟨w.heap.size+1,0,none⟩),.slice none 0 0] 106)=w2:=⟨_,rfl⟩;rw[hw2]at a0 |-;clear hw2;have q0:w2.cell? b6=some (.slice a11 a12 a13):=(a0.cell (p:=b6) i6.lt).trans h0;have q1:w2.cell? ⟨b6,1,none⟩=some (.slice a14 a15 a16):=(a0.cell (p:=⟨b6,1,none⟩) i6.lt).trans h1;have q2:w2.cell? ⟨b6,2,none⟩=some (.slice a17 a18 a19):=(a0.cell (p:=⟨b6,2,none⟩) i6.lt).trans h2;have ko:Blk w2 (w.heap.size+1+1) #[.slice none 0 0,.slice none 0 0,.slice none 0 0] 26:=HK.out.1.o.below a0 i5.lt;have p0:w2.cell? ⟨w.heap.size+1+1,0,none⟩=some (.slice none 0 0):=ko.cell 0;have p1:w2.cell? ⟨w.heap.size+1+1,1,none⟩=some (.slice none 0 0):=ko.cell 1;have p2:w2.cell? ⟨w.heap.size+1+1,2,none⟩=some (.slice none 0 0):=ko.cell 2;have f0:=ko.frozen 0;have f1:=ko.frozen 1;have f2:=ko.frozen 2;have j6:BlockLt b6 w2:=⟨by have:=i6.lt;have:=a0.size;omega⟩;have j5:=ko.lt;refine aH [2] true (λw'=>w'.cell? b6=some (.slice a11 a12 a13)/\w'.cell? ⟨b6,1,none⟩=some (.slice a14 a15 a16)/\w'.cell? ⟨b6,2,none⟩=some (.slice a17 a18 a19)) (by kernel_rfl) (by kernel_rfl) ?_ ?_
 · (try dsimp only);(repeat' apply And.intro)<;>go_simp
 repeat
  apply aI0 rfl rfl
  focus
   rintro w' ⟨s0,s1,s2⟩;go_simp
   first|done|rfl
  simp only[Act.put,sA,sZ,sS]
 refine aV rfl rfl ?_;apply Exists.intro;apply And.intro
 focus
  go_simp
  first|done|rfl
 apply And.intro
 focus
  exact .inr ⟨rfl,rfl⟩
 refine aS ?_;have a2:Keep (λg=>g=w.heap.size+1+1) wA ((((w2.drew).setCell ⟨w.heap.size+1+1,0,none⟩ (.slice a11 a12 a13)).setCell ⟨w.heap.size+1+1,1,none⟩ (.slice a14 a15 a16)).setCell ⟨w.heap.size+1+1,2,none⟩ (.slice a17 a18 a19)):=(((Keep.of_below a0.drew (λg=>g=w.heap.size+1+1)).setCell (p:=⟨w.heap.size+1+1,0,none⟩) (.inl rfl) _).setCell (p:=⟨w.heap.size+1+1,1,none⟩) (.inl rfl) _).setCell (p:=⟨w.heap.size+1+1,2,none⟩) (.inl rfl) _;have a1:Blk ((((w2.drew).setCell ⟨w.heap.size+1+1,0,none⟩ (.slice a11 a12 a13)).setCell ⟨w.heap.size+1+1,1,none⟩ (.slice a14 a15 a16)).setCell ⟨w.heap.size+1+1,2,none⟩ (.slice a17 a18 a19)) (w.heap.size+1+1) #[(.slice a11 a12 a13),(.slice a14 a15 a16),(.slice a17 a18 a19)] 26:=(((HK.out.1.o.below a0.drew i5.lt).set_ 0 (.slice a11 a12 a13)).set_ 1 (.slice a14 a15 a16)).set_ 2 (.slice a17 a18 a19);obtain⟨wF,hwF⟩:∃wF,((((w2.drew).setCell ⟨w.heap.size+1+1,0,none⟩ (.slice a11 a12 a13)).setCell ⟨w.heap.size+1+1,1,none⟩ (.slice a14 a15 a16)).setCell ⟨w.heap.size+1+1,2,none⟩ (.slice a17 a18 a19))=wF:=⟨_,rfl⟩;change Exit.then _ _ .normal _ (((w2.drew.setCell ⟨w.heap.size+1+1,0,none⟩ (.slice a11 a12 a13)).setCell ⟨w.heap.size+1+1,1,none⟩ (.slice a14 a15 a16)).setCell ⟨w.heap.size+1+1,2,none⟩ (.slice a17 a18 a19))
 rw[hwF]at a2 a1 |-;have c9:=a2;have e0:wF.cell? ⟨w.heap.size+1+1,0,none⟩=some (.slice a11 a12 a13):=a1.cell 0;have e1:wF.cell? ⟨w.heap.size+1+1,1,none⟩=some (.slice a14 a15 a16):=a1.cell 1;have e2:wF.cell? ⟨w.heap.size+1+1,2,none⟩=some (.slice a17 a18 a19):=a1.cell 2;have c0:=a1.lt;have b1:StOwn w.heap.size wF (.slice a11 a12 a13) (.slice a14 a15 a16) (.slice a17 a18 a19) S':=StOwn.keep HK.out.1.sr1 a2 (λg hg=>by rw[hg];exact⟨_,26,HK.out.1.o,by decide,by decide,by decide,by decide⟩);have b2:Bl w wF:=HK.out.1.below.trans (a2.below HK.out.1.below.size (λi hi hg=>by omega));clear q0 q1 q2 p0 p1 p2 f0 f1 f2 ko;go_wp2;exact xD (v:=.tuple #[.slice none 0 0,.agg #[(.slice a11 a12 a13),(.slice a14 a15 a16),(.slice a17 a18 a19)]]) (by simp[results,Tryz.results40,go_sem,e0,e1,e2]) rfl ⟨b2,_,_,_,_,rfl,.inl ⟨rfl,by rw[b5];rfl⟩,b1⟩
end
end Go.Proofs.YtmkapobnfigedaaGreatDoor
