/- Part of the proof of a law of chapter 15. Conditions: none. -/
import Derived.Test.YtmkapobnfigedaaGreatDoorDl37
set_option linter.unusedVariables false
set_option linter.unusedSimpArgs false
set_option maxRecDepth 100000
set_option maxHeartbeats 8000000
namespace Go.Proofs.YtmkapobnfigedaaGreatDoor
open Go.RowKit
section
def oG (S:PSt) (ns:List ByteArray) (q:Nat):List PKey:=(List.range q).map λk=>⟨(fH S (eJ (ns.take k)).1).1,⟨#[46]⟩⟩
theorem aEE (S:PSt) (ns:List ByteArray) (q:Nat):oG S ns (q+1)=oG S ns q++[⟨(fH S (eJ (ns.take q)).1).1,⟨#[46]⟩⟩]:=by unfold oG;rw[List.range_succ,yR];rfl
theorem aIR (S:PSt) (ns:List ByteArray) (q:Nat):(oG S ns q).length=q:=by unfold oG;simp
def aIS (S:PSt) (ns:List ByteArray) (q:Nat):Int:=if q=0 then 0 else(fH S (eJ (ns.take (q-1))).1).1
section
variable {w0 w w' w1 w2:World} {S S':PSt} {c:PCall} {bs bh bc:Nat} {ks:List PKey}
theorem aAE (h:GAt w0 w S S' c bs bh bc ks) (hl:ks.length<=100000) (hwf:S.wf) {p:ByteArray} (hpo:jZ p):
 Calls Tryz.prog 111 #[.pointer (some ⟨w0.heap.size,0,none⟩),.string p] w λe w'=>e=.returned (.tuple #[.int .i64 (nL S (aA p).2),.string ((aA p).2.getLastD ⟨#[]⟩)])/\GAt w0 w' S S' c bs bh bc (ks++iH S p)/\Keep (qQ w) w w':=by
 obtain⟨hp,hne⟩:=hpo;have b9:=cM hp;have a1:=λww=>vS p ww;rw[hp]at a1;unfold iH aBM;rw[show ((List.range (aA p).2.length).map λk=>(⟨(fH S (eJ ((aA p).2.take k)).1).1,⟨#[46]⟩⟩:PKey))=oG S (aA p).2 (aA p).2.length from rfl];have a0:nL S (aA p).2=aIS S (aA p).2 (aA p).2.length:=by unfold nL aIS;rw[zA (by intro e;exact hne (zT e))]
 rw[a0];generalize(aA p).2=ns at*;have b6:0<ns.length:=by
  rcases ns with _|⟨a,r⟩
  .exact absurd rfl hne
  simp
 have a8:ns[ns.length-1]? =some (ns.getLastD ⟨#[]⟩):=by rw[List.getLastD_eq_getLast?,List.getLast?_eq_getElem?,gE (by omega)];rfl
 have HG:=aG h;clear h a0 hp;go_enter Tryz.func111,Tryz.ntmps111;go_upto_region 2 with(go_at_call 153;refine(a1 _).mono ?_;rintro e w1 ⟨nv,rfl,hb1,a4,hng⟩;obtain⟨p1,rfl⟩:=hb1.rest;clear hb1)
 have a9:=aG a4;clear a4 hng a1;have a4:=a9.out;rcases a4 with⟨rfl,h2⟩|⟨nb,cap,arr,he,-,hbk,hn,hcm,hsz,hrows⟩
 .exfalso;have:=congrArg List.length h2;rw[lM,yW]at this;omega
 rw[lM]at he hn;subst he;refine aI (F:=λwA=>GAt w0 wA S S' c bs bh bc ks/\Keep (qQ w) w wA/\Blk wA nb arr 9) ⟨HG.out.later (bel w _),eO (bel w _),hbk⟩ ?_;clear hbk a9;rintro wA ⟨hGA,hkA,hbA⟩;have HA:=dR hGA hkA hbA;have HR:=aG hrows;clear hGA hkA hbA hrows;go_wp2_with fail
 go_loopw[8,19] (λvn vi wr=>∃q:Nat,vi=.int .i64 q/\vn=.int .i64 (aIS S ns q)/\q<=ns.length/\GAt w0 wr S S' c bs bh bc (ks++oG S ns q)/\Keep (qQ w) w wr/\Blk wr nb arr 9) (λ_ vi _=>(ns.length-intOf vi).toNat)
 case atStart=>exact⟨0,rfl,rfl,by omega,by simpa[oG]using HA.out.1,HA.out.2.1,HA.out.2.2⟩
 obtain⟨q,rfl,rfl,hq,hG,hk,hb⟩:=hrel;obtain⟨hl0,iv,ov,mv,c0,c1,c2,hr⟩:=hG.sp.below hG.below (zC _);have ib:BlockLt bs wr:=⟨hl0⟩;have o1:=hr.1.one;have o2:=hr.2.1.one;have o3:iv.oneCell'=true:=by obtain⟨_,_,_,h3,_⟩:=hr;exact h3.one
 obtain⟨out,hgb,-⟩:=hG.own;have iG:=hgb.lt;have g0:wr.cell? ⟨w0.heap.size,0,none⟩=some (.pointer (some ⟨bs,0,none⟩)):=hgb.cell 0;have iN:=hb.lt;by_cases hlt:q<ns.length
 .have a3:RowAt wr 1 (.slice (some ⟨nb,0,none⟩) q cap) ((ns.take q).map λn=>[.string n]):=by
   have b0:(ns.take q).length=q:=by rw[zU];omega
   refine OwnP.row (B:=0) (e:=9) (.inr ⟨nb,cap,arr,by rw[lM,b0],Nat.zero_le _,hb,by rw[lM,b0];omega,hcm,hsz,λq' cs hq' t u hu=>?_⟩);rw[gM,yO]at hq';split at hq'
   .exact HR.out q' cs (by rw[gM];exact hq') t u hu
   cases hq'
  have b4:=aNT (ns.take q) _ wr a3 (by rw[zU];omega);have a7:=fun(ww:World) (hb:Below wr.heap.size wr ww)=>aGT iv ov mv S (eJ (ns.take q)).1 ww (hr.below hb (zC _)) hwf;have a2:=fun(ww:World) (hb:Below wr.heap.size wr ww)=>iP (hG.later hb) (by rw[lP,aIR];omega) (fH S (eJ (ns.take q)).1).1 ⟨#[46]⟩;have a5:aIS S ns (q+1)=(fH S (eJ (ns.take q)).1).1:=by unfold aIS;rw[zA (by omega)];rfl
  have a6:ks++oG S ns (q+1)=ks++oG S ns q++[⟨(fH S (eJ (ns.take q)).1).1,⟨#[46]⟩⟩]:=by rw[aEE,yS]
  generalize eJ (ns.take q)=PR at *;obtain⟨ps,pe⟩:=PR;simp only at b4 a7 a2 a5 a6;generalize fH S ps=FR at *;obtain⟨fn,fe⟩:=FR;simp only at a7 a2 a5 a6;have b1:(q:Int)<=ns.length:=by omega
  have b2:(q:Int)<=cap:=by omega
  have b3:q<=cap:=by omega
  have HK:=kL hk hb a5 a6;clear hr hG hgb hk hb a3 a5 a6;go_wp2_with(first|(go_at_call 154;refine b4.mono ?_;rintro e w1 ⟨rfl,hb⟩;obtain⟨q1,rfl⟩:=hb.rest;clear hb)|(go_at_call 152;refine(a7 _ (bel _ _)).mono ?_;rintro e w1 ⟨rfl,hb⟩;obtain⟨q2,rfl⟩:=hb.rest;clear hb)|(go_at_call 113;refine(a2 _ (bel _ _)).mono ?_;rintro e w2 ⟨rfl,hg,hk2⟩));go_roundw
  case rel=>exact⟨q+1,by go_num,by rw[HK.out.2.2.1],by omega,by rw[HK.out.2.2.2];exact hg,dW (dW HK.out.1 (eO (bel wr _))) hk2,hk2.blk (HK.out.2.1.below (bel wr _) iN.lt) (aQC (HK.out.2.1.below (bel wr _) iN.lt) (by decide) (by decide))⟩
  simp[intOf];omega
 have b7:q=ns.length:=by omega
 subst b7;have b8:wr.cell? ⟨nb,ns.length-1,none⟩=some (.string (ns.getLastD ⟨#[]⟩)):=by rw[hb.cell];have:=HR.out (ns.length-1) [.string (ns.getLastD ⟨#[]⟩)] (by rw[gM,a8];rfl) 0 _ rfl;rw[Nat.mul_one,zN]at this;exact this
 obtain⟨m,hm⟩:∃m,ns.length=m+1:=⟨ns.length-1,by omega⟩;have HF:=bB hG hk;generalize hNU:aIS S ns ns.length=NU at *;generalize hLS:ns.getLastD ⟨#[]⟩=lst at *;have b5:=bB hNU hLS;clear hNU hLS;rw[hm,Nat.add_sub_cancel]at b8;clear hr hG hgb hk hb c0 c1 c2;have ew:IntKind.i64.wrap ((ns.length:Int)-1)=m:=by rw[show (ns.length:Int)-1=m by omega];exact I64.wrap (by unfold I64;omega)
 have b1:(m:Int)<ns.length:=by omega
 have HM:=aG hm;clear hm hq hlt a8;go_wp2_with fail;refine qR ?_
 repeat(go_big_quiet_step (fail))
 refine QN λp=>?_;go_wp2_with fail
 go_ret2;exact⟨by rw[b5.out.1,b5.out.2];rfl,HF.out.1.later (bel wr _),dW HF.out.2 (eO (bel wr _))⟩
theorem aMQ (n:ByteArray):∃i:Nat,bQ n=i/\i<8/\((⟨#[47]⟩:ByteArray)++⟨(Lib.decDigits i).toArray⟩)=sF n:=by
 have h0:0<=bQ n/\bQ n<8:=by have hb:0<=mW n/\mW n<4294967296:=jL n n.size 0 7 (by omega);unfold bQ;omega
 obtain⟨i,hi⟩:∃i:Nat,bQ n=i:=⟨(bQ n).toNat,by omega⟩;have a0:i<8:=by omega
 refine⟨i,hi,a0,?_⟩;unfold sF;rw[hi,zJ];have key:∀j:Nat,j<8->((⟨#[47]⟩:ByteArray)++⟨(Lib.decDigits j).toArray⟩)=⟨#[47,UInt8.ofNat (48+j)]⟩:=by decide +kernel
 exact key i a0
theorem mS (h:GAt w0 w S S' c bs bh bc ks) (hl:ks.length<=100000) (hwf:S.wf) {p:ByteArray} (hpo:jZ p):
 Calls Tryz.prog 109 #[.pointer (some ⟨w0.heap.size,0,none⟩),.string p] w (aAD w0 w S S' c bs bh bc (ks++eK S p)):=by
 have a3:=aAE h hl hwf hpo;have a5:(iH S p).length<=1000:=by have:=cM hpo.1;unfold iH aBM;rw[lM,List.length_range];omega
 have a0:ks++eK S p=ks++iH S p++[⟨nL S (aA p).2,sF ((aA p).2.getLastD ⟨#[]⟩)⟩]:=by unfold eK;rw[yS]
 rw[a0];generalize nL S (aA p).2=NU at *;generalize(aA p).2.getLastD ⟨#[]⟩=lst at *;generalize iH S p=WK at *;obtain⟨i,hbi,hi8,hbn⟩:=aMQ lst;have a2:=λww=>lA lst ww;rw[hbi]at a2;have a4:=λww=>Tryz.strconv_Itoa_small i (by omega) ww;rw[<-hbn];have a6:((⟨(Lib.decDigits i).toArray⟩:ByteArray)).size<=10:=by
  have key:∀j:Nat,j<8->((⟨(Lib.decDigits j).toArray⟩:ByteArray)).size<=10:=by decide +kernel
  exact key i hi8
 generalize(⟨(Lib.decDigits i).toArray⟩:ByteArray)=dig at *;have n1:¬9223372036854775807<1+dig.size:=by omega
 clear hbn hbi a0 h;go_enter Tryz.func109,Tryz.ntmps109;go_upto_region 1 with(go_at_call 111;refine a3.mono ?_;rintro e w1 ⟨rfl,hg1,hk1⟩)
 have a1:=fun(ww:World) (hb:Below w1.heap.size w1 ww)=>iP (hg1.later hb) (by rw[lP];omega) NU ((⟨#[47]⟩:ByteArray)++dig);go_wp2_with(first|(go_at_call 133;refine(a2 _).mono ?_;rintro e w2 ⟨rfl,hb⟩;obtain⟨q2,rfl⟩:=hb.rest;clear hb)|(go_at_call 151;refine(a4 _).mono ?_;rintro e w2 ⟨rfl,rfl⟩)|(go_at_call 113;refine(a1 _ (bel _ _)).mono ?_;rintro e w3 ⟨rfl,hg,hk2⟩));exact xC (v:=.tuple #[]) (by simp[results,go_sem]) rfl ⟨rfl,hg,dW (dW hk1 (eO (bel w1 _))) hk2⟩
end
end
end Go.Proofs.YtmkapobnfigedaaGreatDoor
