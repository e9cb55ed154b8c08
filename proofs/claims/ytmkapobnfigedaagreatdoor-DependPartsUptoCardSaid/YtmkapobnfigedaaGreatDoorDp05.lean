/- A part of a proof of a law. Conditions: none. -/
import Derived.Test.YtmkapobnfigedaaGreatDoorDp04
set_option linter.unusedVariables false
set_option linter.unusedSimpArgs false
set_option maxRecDepth 100000
set_option maxHeartbeats 40000000
namespace Go.Proofs.YtmkapobnfigedaaGreatDoor
open Go.Proofs.Tryz List Go.RowKit
def oT (s but:ByteArray) (e:PEnt):Bool:=!(e.name.toList==but.toList)&&(aV e.name==aV s)
def oU (s but:ByteArray):List PEnt->Nat
 |[]=>0
 |e::r=>if oT s but e=true then oU s but r+1 else oU s but r
theorem aNR {s but:ByteArray} {es:List PEnt} {q:Nat} {e:PEnt} (h:es[q]? =some e):oU s but (es.drop q)=if oT s but e=true then oU s but (es.drop (q+1))+1 else oU s but (es.drop (q+1)):=by rw[cQ h];rfl
theorem aLU (s but:ByteArray):∀es:List PEnt,oU s but es<=es.length
 |[]=>by simp[oU]
 | e::r=>by
   have:=aLU s but r;unfold oU;split<;>simp only[zK]<;>omega
def fB (es:List PEnt) (s but:ByteArray):Bool:=decide (4<=oU s but es)
theorem aLV (bx ox:Nat) (es:List PEnt) (ev:Value) (s but:ByteArray) (w:World) (ib:BlockLt bx w) (hc:w.cell? ⟨bx,ox+2,none⟩=some ev) (he:RowAt w 2 ev (es.map PEnt.cells)) (hlen:es.length<=1000000000):
 vR w 173 #[.pointer (some ⟨bx,ox,none⟩),.string s,.string but] (.bool (fB es s but)):=by
 have a2:∀ww (n:ByteArray),Calls prog 133 #[.string n] ww _:=λww n=>nB n ww;obtain⟨ae,ce,rfl,hat⟩:=he.at_;rw[lM]at hc;have HE:=aC hat;clear hat he;have a3:=aLU s but es;unfold fB;obtain⟨N,hN⟩:=gAB (oU s but es);rw[hN]at a3 |-;have HN:=aC hN;clear hN;unfold vR;go_in;go_wp2
 go_loopw[7,15] (λvn vi wr=>∃(q n:Nat),vi=.int .i64 q/\vn=.int .i64 n/\q<=es.length/\n+oU s but (es.drop q)=N/\Bl w wr) (λ_ vi _=>(es.length-intOf vi).toNat)
 case atStart=>exact⟨0,0,rfl,rfl,by omega,by simpa using HN.out,bel _ _⟩
 obtain⟨q,n,rfl,rfl,hq,hre,hb⟩:=hrel;have iB:Bel w wr:=⟨hb⟩;by_cases hlt:q<es.length
 .obtain⟨e,hz⟩:=gAA hlt
  obtain⟨be,oe,rfl,iE0,iE,hce⟩:=HE.out wr hb q e.cells (by rw[gM,hz];rfl);have e0:=hce 0 _ rfl;have e1:=hce 1 _ rfl;rw[zN]at e0;rw[aNR hz]at hre;unfold oT at hre;have k1:=a2;have ew:wrap64 ((n:Int)+1)=(n:Int)+1:=by simp only[wrap64];omega
  generalize hb1:(e.name.toList==but.toList)=b1 at hre;generalize hg1:aV e.name=g1 at hre;generalize hg2:aV s=g2 at hre;have a0:∀ww,vR ww 133 #[.string e.name] (.int .i64 g1):=λww=>by rw[<-hg1];exact nB e.name ww
  have a1:∀ww,vR ww 133 #[.string s] (.int .i64 g2):=λww=>by rw[<-hg2];exact nB s ww
  clear hz hce a2 k1 hg1 hg2;rcases b1 with _|_
  .simp only[Bool.not_false,xC]at hre;generalize hg:(g1==g2)=gg at hre;rcases gg with _|_
   .simp only[zP,if_false]at hre;have HR:=aC hre;clear hre;go_wp2_with(first|(go_at_call 133;refine aE (a0 _) λp=>?_)|(go_at_call 133;refine aE (a1 _) λp=>?_))
    go_roundw
    case rel=>exact⟨q+1,n,by go_num,rfl,by omega,HR.out,bel _ _⟩
    simp[intOf];omega
   simp only[if_true]at hre;have HR:=aC hre;clear hre;go_wp2_with(first|(go_at_call 133;refine aE (a0 _) λp=>?_)|(go_at_call 133;refine aE (a1 _) λp=>?_));go_roundw
   case rel=>exact⟨q+1,n+1,by go_num,by go_num,by omega,by have:=HR.out;omega,bel _ _⟩
   simp[intOf];omega
  simp only[Bool.not_true,yJ,zP,if_false]at hre;have HR:=aC hre;clear hre;go_wp2_with(first|(go_at_call 133;refine aE (a0 _) λp=>?_)|(go_at_call 133;refine aE (a1 _) λp=>?_));go_roundw
  case rel=>exact⟨q+1,n,by go_num,rfl,by omega,HR.out,bel _ _⟩
  simp[intOf];omega
 rw[zS (by omega)]at hre;have a4:n=N:=by simpa[oU]using hre
 subst a4;clear hre;go_wp2;exact xD (v:=.bool (decide (4<=n))) (by simp[results,Tryz.results173,go_sem];omega) rfl ⟨rfl,bel _ _⟩
section
variable {B k:Nat} {e:TypeId} {rows:List (List Value)} {v:Value} {w:World}
theorem RowAt.take {n cap:Nat} {a:Option Addr} (h:RowAt w k (.slice a n cap) rows) (m:Nat) (hm:m<=rows.length):RowAt w k (.slice a m cap) (rows.take m):=by
 obtain⟨a',cap',e,hl,hr⟩:=h;simp only[zO]at e;obtain⟨rfl,-,rfl⟩:=e;have a0:(rows.take m).length=m:=by rw[zU];omega
 refine⟨a,cap,by rw[a0],by omega,λh0=>?_⟩;obtain⟨b,off,e,hb,hc⟩:=hr (by omega);refine⟨b,off,e,hb,λq cs hq t u hu=>hc q cs ?_ t u hu⟩;rw[yO]at hq;split at hq
 .exact hq
 cases hq
theorem aCX (s:ByteArray) (w:World) (hp:(aA s).1=0):Calls prog 198 #[s] w λe w'=>∃v,e=.returned v/\Bl w w'/\OwnP 0 w' 9 1 v ((aA s).2.map λn=>[.string n]):=by have a0:=xV s w;generalize aA s=F at a0 hp |-;obtain⟨c,ns⟩:=F;obtain rfl:c=0:=hp;have hc:∀ww,Calls prog 190 #[.int .i64 0] ww _:=λww=>vQ 0 ww;go_in;go_wp2_with(first|(go_at_call 153;refine a0.mono ?_;rintro e w1 ⟨v,rfl,hb,hown,hbl⟩;have a1:=aAQ hown;have iB:Bel w w1:=⟨hb⟩;have HO:=bJ hown hb;clear hown hb hbl)|(go_at_call 190;refine aE (hc _) λp=>?_)|(go_at_call 172;refine aE (aG _ _) λp=>?_));go_ret;refine⟨_,rfl,bel _ _,?_⟩;have:=(OwnP.of_own (rows:=ns.map λn=>[.string n]) (by rw[lM,sX];exact HO.out.1) (by decide) (by intro cs h;obtain⟨x,_,rfl⟩:=mem_map.1 h;rfl));exact this.keep (Keep.of_below (bel w1 _) (λ_=>False)) (λ_ _ h=>h)
theorem OwnP.cap (h:OwnP B w e k v rows):∃a cap,v=.slice a rows.length cap/\rows.length<=cap/\cap<=maxLen:=by
 rcases h with⟨rfl,rfl⟩|⟨g,cap,cur,rfl,_,_,h1,h2,_⟩
 .exact⟨_,_,rfl,by simp,by unfold maxLen;omega⟩
 exact⟨_,_,rfl,h1,h2⟩
theorem OwnP.some_ (h:OwnP B w e k v rows) (h0:0<rows.length):∃g cap,v=.slice (some ⟨g,0,none⟩) rows.length cap/\rows.length<=cap/\cap<=maxLen:=by
 rcases h with⟨rfl,rfl⟩|⟨g,cap,cur,rfl,_,_,h1,h2,_⟩
 .simp at h0
 exact⟨_,_,rfl,h1,h2⟩
def bC (S:PSt) (ns:List ByteArray):Except Int (Nat × ByteArray):=
 match ns.getLast? with
 |none=>.error 9
 | some l=>if(aL S 0 ns.dropLast).2≠0 then .error (aL S 0 ns.dropLast).2 else match S.ins[(aL S 0 ns.dropLast).1]? with
   |some x=>if x.dir=true then .ok ((aL S 0 ns.dropLast).1,l)else .error 7
   |none=>.error 7
def aYV (w:World) (b:Nat) (S:PSt) (R:Except Int (Nat × ByteArray)) (e:Ending):Prop:=
 match R with
 |.ok (K,l)=>∃bi off cap,w.cell? ⟨b,0,none⟩=some (.slice (some ⟨bi,off,none⟩) S.ins.length cap)/\e=.returned (.tuple #[.pointer (some ⟨bi,off+K*4,none⟩),.string l])
 |.error c=>e=bR c
theorem aCY (d b:Nat) (S:PSt) (c:PCall) (s:ByteArray) (w:World) (h:DR w d b S c) (hf:Fine S) (hp:(aA s).1=0) (hpl:(aA s).2.length<=1000000000):
 Calls prog 170 #[.pointer d,s] w λe w'=>Bl w w'/\aYV w b S (bC S (aA s).2) e:=by
 have a2:∀ww,Calls prog 198 #[s] ww λe w'=>∃v,e=.returned v/\Bl ww w'/\OwnP 0 w' 9 1 v ((aA s).2.map λn=>[.string n]):=λww=>aCX s ww hp;generalize(aA s).2=ns at a2 hpl |-;have a4:∀ww v,Bl w ww->RowAt ww 1 v (ns.dropLast.map λn=>[.string n])->Calls prog 191 #[.pointer b,v] ww _:=λww v hb hv=>vY b S ns.dropLast v ww (h.sp.below hb (zC _)) hf.wf hf.pos hf.find hv (by rw[length_dropLast];omega);have a7:=fO hf ns.dropLast 0 hf.pos;have a8:=h.d0;have iD:BlockLt d w:=⟨h.lt⟩;obtain⟨hl,iv,ov,mv,c0,c1,c2,hr⟩:=h.sp;have iL:BlockLt b w:=⟨hl⟩;obtain⟨ai,capi,rfl,hati⟩:=hr.ins_at2;unfold bC;rcases hgl:ns.getLast? with _|l
 .have b7:ns=[]:=getLast?_eq_none_iff.1 hgl;subst b7;clear a4 h hr hati a7 hgl
  go_in;go_wp2_with(first|(go_at_call 198;refine(a2 _).mono ?_;rintro e w1 ⟨v,rfl,hb1,hv1⟩;obtain⟨a,cap,rfl,-⟩:=hv1.cap)|(go_at_call 172;refine aE (aP _ _) λp=>?_));exact⟨rfl,hb1.trans ((bel w1 _).mono hb1.size),rfl⟩
 have b8:ns≠[]:=λe=>by rw[e]at hgl;simp at hgl
 have c4:0<ns.length:=length_pos_iff.2 b8;have a5:ns[ns.length-1]? =some l:=by rw[<-hgl,getLast?_eq_getElem?]
 generalize aL S 0 ns.dropLast=W at a4 a7 |-;obtain⟨K,C⟩:=W;simp only at a4 a7 |-;obtain⟨m,hm⟩:∃m,ns.length=m+1:=⟨ns.length-1,by omega⟩;have b0:ns.dropLast=ns.take m:=by rw[dropLast_eq_take,hm];rfl
 obtain⟨x,hx⟩:=gAA a7;obtain⟨bi,offi,ev,rfl,iG,ho1,hev,hcl⟩:=hati K x hx;rw[hm]at a5;have a5:ns[m]? =some l:=a5;have hw:∀ww a cap,Bl w ww->RowAt ww 1 (.slice a (m+1) cap) (ns.map λn=>[.string n])->vR ww 191 #[.pointer b,.slice a m cap] (.tuple #[K,C]):=λww a cap hb hv=>a4 ww _ hb (by rw[b0,map_take];exact hv.take m (by rw[lM];omega));have HP:=qM a2 hw hcl hx a5;have c5:(K:Int)<S.ins.length:=by omega
 have HM:=bJ hm hpl;clear a2 a4 hw hcl hx a5 h hr hati c1 c2 hgl b0 hev;have c6:((m:Int)+1==0)=false:=by simp;omega
 have c7:¬((m:Int)+1=0):=by omega
 by_cases hC:C=0
 .subst hC;rw[zA (by simp),HP.out.2.2.2.1];simp only;have a9:∀wr,Bl w wr->wr.cell? ⟨bi,offi+K*4+1,none⟩=some (.bool x.dir):=λwr hb=>(HP.out.2.2.1 wr hb).2.2.1
  generalize hdir:x.dir=dd at a9;have a6:=aC a9;clear a9 hdir;rcases dd with _|_
  .simp only[zP,if_false]
   go_in;go_wp2_with(first|(go_at_call 198;refine(HP.out.1 _).mono ?_;rintro e w1 ⟨v,rfl,hb1,ho1⟩;have a1:=ho1.row;obtain⟨gn,cap,hv,hc1,hc2⟩:=ho1.some_ (by rw[lM,HM.out.1];omega);rw[lM,HM.out.1]at hv hc1;subst hv;have a0:=a1.at_;have a3:∀ww,Bl w1 ww->Calls prog 191 #[.pointer b,.slice gn m cap] ww _:=λww hb=>HP.out.2.1 ww _ cap (hb1.trans (hb.mono hb1.size)) (a1.below hb (zC _));have b1:Bel w w1:=⟨hb1⟩;have b2:BlockLt d w1:=⟨by have:=hb1.size;have:=iD.lt;omega⟩;have b3:BlockLt b w1:=⟨by have:=hb1.size;have:=iL.lt;omega⟩;have x0:w1.cell? d=some (.pointer b):=(hb1.cell (p:=d) iD.lt).trans a8;have z0:w1.cell? b=some (.slice (some ⟨bi,offi,none⟩) S.ins.length capi):=(hb1.cell (p:=b) iL.lt).trans c0;obtain⟨iG1,y0,-,y2,y3⟩:=HP.out.2.2.1 w1 hb1;have b4:((m:Int)+1-1)=m:=(by omega);have b5:IntKind.i64.wrap (m:Int)=m:=I64.wrap ⟨by omega,by have:=HM.out;omega⟩;have b6:m<=cap:=(by omega);have H1:=eH hb1 a1 a0;clear hb1 a1 a0 ho1)|(go_at_call 172;refine aE (aG _ _) λp=>?_));refine qR ?_
   repeat(go_big_quiet_step ((first|refine cI (a3 _ (bel _ _))|refine cJ (a3 _ (bel _ _)))))
   refine QN λp=>?_;have b9:=a6.out w1 H1.out.1;go_wp2_with(first|(go_at_call 172;with_reducible refine aE (aG _ _) λp=>?_)|(go_at_call 172;with_reducible refine aE (aP _ _) λp=>?_));exact⟨rfl,bel w _,rfl⟩
  simp only[if_true];have c3:(m:Int)<(m:Int)+1:=by omega
  go_in;go_wp2_with(first|(go_at_call 198;refine(HP.out.1 _).mono ?_;rintro e w1 ⟨v,rfl,hb1,ho1⟩;have a1:=ho1.row;obtain⟨gn,cap,hv,hc1,hc2⟩:=ho1.some_ (by rw[lM,HM.out.1];omega);rw[lM,HM.out.1]at hv hc1;subst hv;have a0:=a1.at_;have a3:∀ww,Bl w1 ww->Calls prog 191 #[.pointer b,.slice gn m cap] ww _:=λww hb=>HP.out.2.1 ww _ cap (hb1.trans (hb.mono hb1.size)) (a1.below hb (zC _));have b1:Bel w w1:=⟨hb1⟩;have b2:BlockLt d w1:=⟨by have:=hb1.size;have:=iD.lt;omega⟩;have b3:BlockLt b w1:=⟨by have:=hb1.size;have:=iL.lt;omega⟩;have x0:w1.cell? d=some (.pointer b):=(hb1.cell (p:=d) iD.lt).trans a8;have z0:w1.cell? b=some (.slice (some ⟨bi,offi,none⟩) S.ins.length capi):=(hb1.cell (p:=b) iL.lt).trans c0;obtain⟨iG1,y0,-,y2,y3⟩:=HP.out.2.2.1 w1 hb1;have b4:((m:Int)+1-1)=m:=(by omega);have b5:IntKind.i64.wrap (m:Int)=m:=I64.wrap ⟨by omega,by have:=HM.out;omega⟩;have b6:m<=cap:=(by omega);have H1:=eH hb1 a1 a0;clear hb1 a1 a0 ho1)|(go_at_call 172;refine aE (aG _ _) λp=>?_));refine qR ?_
  repeat(go_big_quiet_step ((first|refine cI (a3 _ (bel _ _))|refine cJ (a3 _ (bel _ _)))))
  refine QN λp=>?_;have b9:=a6.out w1 H1.out.1;go_wp2_with(go_at_call 172;refine aE (aG _ _) λp=>?_);obtain⟨a',cap',hv',a0⟩:=H1.out.2.2;obtain⟨bn,offn,he,iN0,iN1,hcn⟩:=a0 w1 (Below.refl _ _) m [.string l] (by rw[gM,HP.out.2.2.2.2];rfl);simp only[zO]at hv';obtain⟨rfl,-,rfl⟩:=hv';simp only[zF,yG]at he;obtain⟨rfl,rfl,-⟩:=he;have n0:=hcn 0 _ rfl;rw[Nat.mul_one,zN,zM]at n0;clear hcn a0;refine qR ?_
  repeat(go_big_quiet_step (fail))
  refine QN λp=>?_;go_wp2
  go_ret2;exact⟨bel w _,bi,offi,capi,c0,rfl⟩
 rw[zB (by simpa using hC)];have c8:(C !=0)=true:=by simpa using hC
 go_in;go_wp2_with(first|(go_at_call 198;refine(HP.out.1 _).mono ?_;rintro e w1 ⟨v,rfl,hb1,ho1⟩;have a1:=ho1.row;obtain⟨gn,cap,hv,hc1,hc2⟩:=ho1.some_ (by rw[lM,HM.out.1];omega);rw[lM,HM.out.1]at hv hc1;subst hv;have a0:=a1.at_;have a3:∀ww,Bl w1 ww->Calls prog 191 #[.pointer b,.slice gn m cap] ww _:=λww hb=>HP.out.2.1 ww _ cap (hb1.trans (hb.mono hb1.size)) (a1.below hb (zC _));have b1:Bel w w1:=⟨hb1⟩;have b2:BlockLt d w1:=⟨by have:=hb1.size;have:=iD.lt;omega⟩;have b3:BlockLt b w1:=⟨by have:=hb1.size;have:=iL.lt;omega⟩;have x0:w1.cell? d=some (.pointer b):=(hb1.cell (p:=d) iD.lt).trans a8;have z0:w1.cell? b=some (.slice (some ⟨bi,offi,none⟩) S.ins.length capi):=(hb1.cell (p:=b) iL.lt).trans c0;obtain⟨iG1,y0,-,y2,y3⟩:=HP.out.2.2.1 w1 hb1;have b4:((m:Int)+1-1)=m:=(by omega);have b5:IntKind.i64.wrap (m:Int)=m:=I64.wrap ⟨by omega,by have:=HM.out;omega⟩;have b6:m<=cap:=(by omega);have H1:=eH hb1 a1 a0;clear hb1 a1 a0 ho1)|(go_at_call 172;refine aE (aG _ _) λp=>?_));refine qR ?_
 repeat(go_big_quiet_step ((first|refine cI (a3 _ (bel _ _))|refine cJ (a3 _ (bel _ _)))))
 refine QN λp=>?_;go_wp2_with(go_at_call 172;refine aE (aP _ _) λp=>?_);exact⟨rfl,bel w _,rfl⟩
end
def uI (S:PSt) (ns:List ByteArray) (num:Int) (q:Nat):Bool:=match S.ins[(aL S 0 (ns.take q)).1]? with
 |some x=>x.num==num
 |none=>false
def jO (S:PSt) (ns:List ByteArray) (num:Int):Bool:=(List.range ns.length).any (uI S ns num)
theorem aQQ {α:Type} {F:α->Bool} {zs:List α} {q:Nat} {z:α} (h:zs[q]? =some z):(zs.drop q).any F=(F z||(zs.drop (q+1)).any F):=by rw[cQ h];rfl
theorem RowAt.pre {w:World} {k n cap:Nat} {a:Option Addr} {rows:List (List Value)} (h:RowAt w k (.slice a n cap) rows) (q:Nat) (hq:q<=rows.length):RowAt w k (.slice a q cap) (rows.take q):=by
 obtain⟨a',cap',he,hm,hr⟩:=h;simp only[zO]at he;obtain⟨rfl,rfl,rfl⟩:=he;have hl:(rows.take q).length=q:=by rw[zU];omega
 refine⟨a,cap,by rw[hl],by omega,λh0=>?_⟩;obtain⟨b,off,e2,hlt,hc⟩:=hr (by omega);refine⟨b,off,e2,hlt,λp cs hp=>?_⟩;rw[yO]at hp;split at hp
 .exact hc p cs hp
 cases hp
theorem aAP (d b:Nat) (S:PSt) (c:PCall) (s:ByteArray) (num:Int) (w:World) (h:DR w d b S c) (hf:Fine S) (hp:(aA s).1=0) (hpl:(aA s).2.length<=1000000000):
 vR w 188 #[.pointer d,.string s,.int .i64 num] (.bool (jO S (aA s).2 num)):=by
 have a5:∀ww,Calls prog 198 #[s] ww λe w'=>∃v,e=.returned v/\Bl ww w'/\OwnP 0 w' 9 1 v ((aA s).2.map λn=>[.string n]):=λww=>aCX s ww hp;generalize(aA s).2=ns at a5 hpl |-;have a7:∀ww v q,Bl w ww->RowAt ww 1 v ((ns.take q).map λn=>[.string n])->Calls prog 191 #[.pointer b,v] ww _:=λww v q hb hv=>vY b S (ns.take q) v ww (h.sp.below hb (zC _)) hf.wf hf.pos hf.find hv (by rw[zU];omega);have b0:=λq=>fO hf (ns.take q) 0 hf.pos;have d0:=h.d0;have iD:BlockLt d w:=⟨h.lt⟩;obtain⟨hl,iv,ov,mv,c0,c1,c2,hr⟩:=h.sp;have iB:BlockLt b w:=⟨hl⟩;obtain⟨ai,capi,rfl,hati⟩:=hr.ins_at2;have HI:=aC hati;clear h hf hp hr hati c1 c2;unfold jO;obtain⟨R,hR⟩:=gAB ((List.range ns.length).any (uI S ns num));rw[hR];have HR:=aC hR;clear hR;unfold vR;go_in;go_upto_region 2 with(go_at_call 198;refine(a5 _).mono ?_;rintro e w1 ⟨nv,rfl,hb1,hnm⟩;have a2:=hnm.row;obtain⟨an,cn,rfl,hcn⟩:=hnm.cap;rw[lM]at a2 hcn;have HN:=bJ a2 hb1;clear hb1 hnm a2)
 go_wp2
 go_loopw[15] (λi wr=>∃(q:Nat),i=.int .i64 q/\q<=ns.length/\((List.range ns.length).drop q).any (uI S ns num)=R/\Bl w1 wr) (λi _=>(ns.length-intOf i).toNat)
 case atStart=>exact⟨0,rfl,by omega,HR.out,bel _ _⟩
 obtain⟨q,rfl,hq,a0,hb⟩:=hrel;have a1:Bl w wr:=HN.out.2.trans (hb.mono HN.out.2.size);have b4:Bel w wr:=⟨a1⟩;have r0:wr.cell? d=some (.pointer b):=(a1.cell (p:=d) iD.lt).trans d0;have s0:wr.cell? b=some (.slice ai S.ins.length capi):=(a1.cell (p:=b) iB.lt).trans c0;have jD:BlockLt d wr:=⟨by have:=a1.size;have:=iD.lt;omega⟩;have jB:BlockLt b wr:=⟨by have:=a1.size;have:=iB.lt;omega⟩;by_cases hltq:q<ns.length
 .have hz:(List.range ns.length)[q]? =some q:=by rw[getElem?_range hltq]
  rw[aQQ hz]at a0;have a6:RowAt wr 1 (.slice an q cn) ((ns.take q).map λn=>[.string n]):=by have:=(HN.out.1.below hb (zC _)).pre q (by rw[lM];omega);rw[<-map_take]at this;exact this
  have a4:∀ww,Bl wr ww->Calls prog 191 #[.pointer b,.slice an q cn] ww _:=λww hb'=>a7 ww _ q (a1.trans (hb'.mono a1.size)) (a6.below hb' (zC _));have a3:=b0 q;have a8:uI S ns num q=(match S.ins[(aL S 0 (ns.take q)).1]? with|some x=>x.num==num|none=>false):=rfl;rw[a8]at a0;obtain⟨⟨K,C⟩,hKC⟩:∃KC,aL S 0 (ns.take q)=KC:=⟨_,rfl⟩;rw[hKC]at a4 a3 a0;simp only at a4 a3 a0;obtain⟨x,hx⟩:=gAA a3;rw[hx]at a0;simp only at a0;obtain⟨bi,off,ev,rfl,iG0,ho1,hev,hcl⟩:=HI.out K x hx;obtain⟨iG,y0,y1,y2,y3⟩:=hcl wr a1;have b5:(K:Int)<S.ins.length:=by omega
  have b6:(q:Int)<=ns.length:=by omega
  have b2:(q:Int)<=cn:=by omega
  have a9:q<=cn:=by omega
  clear a6 a7 hcl hev a8 hKC hx hz;have b7:Bel wr wr:=inferInstance;obtain⟨xn,xd,xe,xdat⟩:=x;simp only at y0 a0;generalize hb1:(xn==num)=b1 at a0;rcases b1 with _|_
  .simp only[Bool.false_or]at a0;have b3:=aC a0;clear a0
   go_upto_region 5 with fail;refine bY (by kernel_rfl) (by kernel_rfl) (WQ.out ?_)
   repeat
    refine sB (λK hK=>?_);go_simp
    first
     |(refine hK _ ?_;clear hK K)
     | (apply Exists.intro
        refine⟨λ_=>?_,hK _ ?_⟩
        focus(first|refine cI (a4 _ (bel wr _))|refine cJ (a4 _ (bel wr _)))
        clear hK K)
   refine WN λp=>?_;go_wp2;go_roundw
   case rel=>exact⟨q+1,by go_num,by omega,b3.out,hb.trans ((bel wr _).mono hb.size)⟩
   simp[intOf];omega
  simp only[Bool.true_or]at a0;subst a0;go_upto_region 5 with fail;refine bY (by kernel_rfl) (by kernel_rfl) (WQ.out ?_)
  repeat
   refine sB (λK hK=>?_);go_simp
   first
    |(refine hK _ ?_;clear hK K)
    | (apply Exists.intro
       refine⟨λ_=>?_,hK _ ?_⟩
       focus(first|refine cI (a4 _ (bel wr _))|refine cJ (a4 _ (bel wr _)))
       clear hK K)
  refine WN λp=>?_;go_wp2;go_ret;exact⟨rfl,bel w _⟩
 rw[zS (by rw[length_range];omega)]at a0;have a0:false=R:=a0;subst a0;go_wp2;go_ret;exact⟨rfl,a1⟩
end Go.Proofs.YtmkapobnfigedaaGreatDoor
