/- A part of a proof of a law. Conditions: none. -/
import Derived.Test.YtmkapobnfigedaaGreatDoorDk07
set_option linter.unusedVariables false
set_option linter.unusedSimpArgs false
set_option maxRecDepth 100000
set_option maxHeartbeats 8000000
namespace Go.Proofs.YtmkapobnfigedaaGreatDoor
open Go.Proofs.Tryz List Go.RowKit
def sV (x n:Int):Int:=wrap64 (x-n)
theorem aPY (x n:Int) (d:Bool) (ev:Value) (s:ByteArray) (hev:ev.oneCell'=true) (w:World):
 vR w 176 #[.agg #[x,d,ev,s],.int .i64 n] (.int .i64 (sV x n)):=by
 unfold sV;unfold vR;go_in;go_wp2;go_ret;exact⟨by first|rfl|simp,bel _ _⟩
def qN (is:List IRec) (n:Int) (q:Nat):Int:=match is[q]? with|some x=>sV x.num n|none=>0
def bsD (is:List IRec) (n:Int):Nat:=dL (qN is n) is.length 0 is.length
def aDB (is:List IRec) (n:Int):Bool:=decide (bsD is n<is.length)&&(qN is n (bsD is n)==0)
def vQ (ns:List Int) (n:Int) (q:Nat):Int:=match ns[q]? with|some x=>sV x n|none=>0
def lB (ns:List Int) (n:Int):Nat:=dL (vQ ns n) ns.length 0 ns.length
theorem aUK (is:List IRec) (n:Int):bsD is n=lB (is.map IRec.num) n:=by
 have hc:qN is n=vQ (is.map IRec.num) n:=by
  funext q;unfold qN vQ;rw[gM];cases is[q]? <;>rfl
 unfold bsD lB;rw[hc,lM]
theorem aXF (is:List IRec) (v:Value) (n:Int) (w:World) (h:RowAt w 4 v (is.map IRec.cells)) (hlen:is.length<=1000000000):
 vR w 134 #[v,.int .i64 n,.func (.func 176) #[] #[]] (.tuple #[.int .i64 (bsD is n),.bool (aDB is n)]):=by
 obtain⟨a,cap,rfl,_,hrow⟩:=h;rw[lM]at hrow |-;have cell:∀(wr:World),Bl w wr->∀(q:Nat),q<is.length->∃(b off:Nat) (x:IRec),a=some ⟨b,off,none⟩/\BlockLt b wr/\is[q]? =some x/\qN is n q=sV x.num n/\wr.cell? ⟨b,off+q*4,none⟩=some (.int .i64 x.num)/\wr.cell? ⟨b,off+q*4+1,none⟩=some (.bool x.dir)/\wr.cell? ⟨b,off+q*4+2,none⟩=some x.ev/\wr.cell? ⟨b,off+q*4+3,none⟩=some (.string x.data):=by
  intro wr hb q hq;obtain⟨b,off,rfl,hlt,hc⟩:=hrow (by omega);obtain⟨x,hx⟩:∃x,is[q]? =some x:=⟨_,gE hq⟩;have hm:(is.map IRec.cells)[q]? =some x.cells:=by rw[gM,hx];rfl
  have hs:=hb.size;have key:∀(t:Nat) (u:Value),x.cells[t]? =some u->wr.cell? ⟨b,off+q*4+t,none⟩=some u:=λt u hu=>(hb.cell (p:=⟨b,_,none⟩) hlt).trans (hc q _ hm t u hu);exact⟨b,off,x,rfl,⟨by omega⟩,hx,by unfold qN;rw[hx],key 0 _ rfl,key 1 _ rfl,key 2 _ rfl,key 3 _ rfl⟩
 have HC:=aC cell;clear cell hrow;obtain⟨P,hP⟩:∃P,bsD is n=P:=⟨_,rfl⟩;obtain⟨T,hT⟩:∃T,aDB is n=T:=⟨_,rfl⟩;rw[hP,hT];have HP:=bG hP hT;clear hP hT;unfold vR;go_in;go_wp2
 go_loopw[9,10] (λi j wr=>∃(lo hi b:Nat),i=.int .i64 lo/\j=.int .i64 hi/\lo<=hi/\hi<=is.length/\hi<=lo+b/\dL (qN is n) b lo hi=P/\Bl w wr) (λi j _=>(intOf j-intOf i).toNat)
 case atStart=>exact⟨0,is.length,is.length,rfl,rfl,by omega,by omega,by omega,HP.out.1,bel _ _⟩
 obtain⟨lo,hi,b,rfl,rfl,hlh,hhn,hfu,hbs,hb⟩:=hrel;have iB:Bel w wr:=⟨hb⟩;by_cases hlt:lo<hi
 .obtain⟨b',rfl⟩:∃b',b=b'+1:=⟨b-1,by omega⟩
  obtain⟨m,hm⟩:∃m,(lo+hi)/2=m:=⟨_,rfl⟩;obtain⟨b0,off,x,rfl,iG,hx,hcm,c0,c1,c2,c3⟩:=HC.out wr hb m (by omega);have a1:=x.one;rw[dL,zB hlt,hm,hcm]at hbs;have HS:=aC hbs;clear hbs hcm;have a6:((lo:Int)+hi)/2=m:=by omega
  have a7:m<is.length:=by omega
  have a4:(m:Int)<is.length:=by omega
  have a0:∀ww,vR ww 176 #[.agg #[x.num,x.dir,x.ev,x.data],.int .i64 n] (.int .i64 (sV x.num n)):=λww=>aPY x.num n x.dir x.ev x.data a1 ww;have HM:=aC hm;clear hm;by_cases hneg:sV x.num n<0
  .generalize hcv:sV x.num n=cv at a0 hneg;go_wp2_with(go_at_call 176;refine aE (a0 _) λp=>?_)
   go_roundw
   case rel=>exact⟨m+1,hi,b',by go_num,rfl,by have:=HM.out;omega,by omega,by have:=HM.out;omega,by have:=HS.out;rw[hcv,zB hneg]at this;exact this,bel _ _⟩
   have:=HM.out;simp[intOf];omega
  generalize hcv:sV x.num n=cv at a0 hneg;go_wp2_with(go_at_call 176;refine aE (a0 _) λp=>?_);go_roundw
  case rel=>exact⟨lo,m,b',rfl,rfl,by have:=HM.out;omega,by omega,by have:=HM.out;omega,by have:=HS.out;rw[hcv,zA (by omega)]at this;exact this,bel _ _⟩
  have:=HM.out;simp[intOf];omega
 obtain rfl:lo=hi:=by omega
 rw[qS _ _ _ _ hlt]at hbs;have a5:P=lo:=hbs.symm;subst a5;by_cases hln:P<is.length
 .obtain⟨b0,off,x,rfl,iG,hx,hcm,c0,c1,c2,c3⟩:=HC.out wr hb P hln;have a1:=x.one;have a3:(P:Int)<is.length:=by omega
  have a0:∀ww,vR ww 176 #[.agg #[x.num,x.dir,x.ev,x.data],.int .i64 n] (.int .i64 (sV x.num n)):=λww=>aPY x.num n x.dir x.ev x.data a1 ww;have a2:T=(sV x.num n==0):=by have h1:=HP.out.2;have h2:=HP.out.1;rw[<-h1];unfold aDB;rw[h2,hcm];simp[hln]
  clear hcm;generalize sV x.num n=cv at a0 a2;subst a2;go_wp2_with(go_at_call 176;refine aE (a0 _) λp=>?_)
  go_ret2;refine⟨rfl,bel _ _⟩
 have a3:¬(P:Int)<is.length:=by omega
 have a2:T=false:=by have h1:=HP.out.2;have h2:=HP.out.1;rw[<-h1];unfold aDB;rw[h2];simp[hln]
 subst a2;go_wp2
 go_ret2;refine⟨rfl,bel _ _⟩
section
variable {B k:Nat} {e:TypeId} {rows:List (List Value)} {v:Value} {w:World}
theorem RowAt.take {n cap:Nat} {a:Option Addr} (h:RowAt w k (.slice a n cap) rows) (m:Nat) (hm:m<=rows.length):RowAt w k (.slice a m cap) (rows.take m):=by
 obtain⟨a',cap',e,hl,hr⟩:=h;simp only[zO]at e;obtain⟨rfl,-,rfl⟩:=e;have a0:(rows.take m).length=m:=by rw[zU];omega
 refine⟨a,cap,by rw[a0],by omega,λh0=>?_⟩;obtain⟨b,off,e,hb,hc⟩:=hr (by omega);refine⟨b,off,e,hb,λq cs hq t u hu=>hc q cs ?_ t u hu⟩;rw[yO]at hq;split at hq
 .exact hq
 cases hq
theorem aCE (s:ByteArray) (w:World) (hp:(aA s).1=0):Calls prog 198 #[s] w λe w'=>∃v,e=.returned v/\Bl w w'/\OwnP 0 w' 9 1 v ((aA s).2.map λn=>[.string n]):=by have a0:=xF s w;generalize aA s=F at a0 hp |-;obtain⟨c,ns⟩:=F;obtain rfl:c=0:=hp;have hc:∀ww,Calls prog 190 #[.int .i64 0] ww _:=λww=>vD 0 ww;go_in;go_wp2_with(first|(go_at_call 153;refine a0.mono ?_;rintro e w1 ⟨v,rfl,hb,hown,hbl⟩;have a1:=xZ hown;have iB:Bel w w1:=⟨hb⟩;have HO:=bG hown hb;clear hown hb hbl)|(go_at_call 190;refine aE (hc _) λp=>?_)|(go_at_call 172;refine aE (aG _ _) λp=>?_));go_ret;refine⟨_,rfl,bel _ _,?_⟩;have:=(OwnP.of_own (rows:=ns.map λn=>[.string n]) (by rw[lM,sN];exact HO.out.1) (by decide) (by intro cs h;obtain⟨x,_,rfl⟩:=mem_map.1 h;rfl));exact this.keep (Keep.of_below (bel w1 _) (λ_=>False)) (λ_ _ h=>h)
theorem OwnP.cap (h:OwnP B w e k v rows):∃a cap,v=.slice a rows.length cap/\rows.length<=cap/\cap<=maxLen:=by
 rcases h with⟨rfl,rfl⟩|⟨g,cap,cur,rfl,_,_,h1,h2,_⟩
 .exact⟨_,_,rfl,by simp,by unfold maxLen;omega⟩
 exact⟨_,_,rfl,h1,h2⟩
theorem OwnP.some_ (h:OwnP B w e k v rows) (h0:0<rows.length):∃g cap,v=.slice (some ⟨g,0,none⟩) rows.length cap/\rows.length<=cap/\cap<=maxLen:=by
 rcases h with⟨rfl,rfl⟩|⟨g,cap,cur,rfl,_,_,h1,h2,_⟩
 .simp at h0
 exact⟨_,_,rfl,h1,h2⟩
def bB (S:PSt) (ns:List ByteArray):Except Int (Nat × ByteArray):=
 match ns.getLast? with
 |none=>.error 9
 | some l=>if(aK S 0 ns.dropLast).2≠0 then .error (aK S 0 ns.dropLast).2 else match S.ins[(aK S 0 ns.dropLast).1]? with
   |some x=>if x.dir=true then .ok ((aK S 0 ns.dropLast).1,l)else .error 7
   |none=>.error 7
def aYD (w:World) (b:Nat) (S:PSt) (R:Except Int (Nat × ByteArray)) (e:Ending):Prop:=
 match R with
 |.ok (K,l)=>∃bi off cap,w.cell? ⟨b,0,none⟩=some (.slice (some ⟨bi,off,none⟩) S.ins.length cap)/\e=.returned (.tuple #[.pointer (some ⟨bi,off+K*4,none⟩),.string l])
 |.error c=>e=bP c
theorem aCF (d b:Nat) (S:PSt) (c:PCall) (s:ByteArray) (w:World) (h:DR w d b S c) (hf:Fine S) (hp:(aA s).1=0) (hpl:(aA s).2.length<=1000000000):
 Calls prog 170 #[.pointer d,s] w λe w'=>Bl w w'/\aYD w b S (bB S (aA s).2) e:=by
 have a2:∀ww,Calls prog 198 #[s] ww λe w'=>∃v,e=.returned v/\Bl ww w'/\OwnP 0 w' 9 1 v ((aA s).2.map λn=>[.string n]):=λww=>aCE s ww hp;generalize(aA s).2=ns at a2 hpl |-;have a4:∀ww v,Bl w ww->RowAt ww 1 v (ns.dropLast.map λn=>[.string n])->Calls prog 191 #[.pointer b,v] ww _:=λww v hb hv=>vJ b S ns.dropLast v ww (h.sp.below hb (zC _)) hf.wf hf.pos hf.find hv (by rw[length_dropLast];omega);have a7:=fL hf ns.dropLast 0 hf.pos;have a8:=h.d0;have iD:BlockLt d w:=⟨h.lt⟩;obtain⟨hl,iv,ov,mv,c0,c1,c2,hr⟩:=h.sp;have iL:BlockLt b w:=⟨hl⟩;obtain⟨ai,capi,rfl,hati⟩:=hr.ins_at2;unfold bB;rcases hgl:ns.getLast? with _|l
 .have b7:ns=[]:=getLast?_eq_none_iff.1 hgl;subst b7;clear a4 h hr hati a7 hgl
  go_in;go_wp2_with(first|(go_at_call 198;refine(a2 _).mono ?_;rintro e w1 ⟨v,rfl,hb1,hv1⟩;obtain⟨a,cap,rfl,-⟩:=hv1.cap)|(go_at_call 172;refine aE (aO _ _) λp=>?_));exact⟨rfl,hb1.trans ((bel w1 _).mono hb1.size),rfl⟩
 have b8:ns≠[]:=λe=>by rw[e]at hgl;simp at hgl
 have c4:0<ns.length:=length_pos_iff.2 b8;have a5:ns[ns.length-1]? =some l:=by rw[<-hgl,getLast?_eq_getElem?]
 generalize aK S 0 ns.dropLast=W at a4 a7 |-;obtain⟨K,C⟩:=W;simp only at a4 a7 |-;obtain⟨m,hm⟩:∃m,ns.length=m+1:=⟨ns.length-1,by omega⟩;have b0:ns.dropLast=ns.take m:=by rw[dropLast_eq_take,hm];rfl
 obtain⟨x,hx⟩:∃x,S.ins[K]? =some x:=⟨_,gE a7⟩;obtain⟨bi,offi,ev,rfl,iG,ho1,hev,hcl⟩:=hati K x hx;rw[hm]at a5;have a5:ns[m]? =some l:=a5;have hw:∀ww a cap,Bl w ww->RowAt ww 1 (.slice a (m+1) cap) (ns.map λn=>[.string n])->vR ww 191 #[.pointer b,.slice a m cap] (.tuple #[K,C]):=λww a cap hb hv=>a4 ww _ hb (by rw[b0,map_take];exact hv.take m (by rw[lM];omega));have HP:=nV a2 hw hcl hx a5;have c5:(K:Int)<S.ins.length:=by omega
 have HM:=bG hm hpl;clear a2 a4 hw hcl hx a5 h hr hati c1 c2 hgl b0 hev;have c6:((m:Int)+1==0)=false:=by simp;omega
 have c7:¬((m:Int)+1=0):=by omega
 by_cases hC:C=0
 .subst hC;rw[zA (by simp),HP.out.2.2.2.1];simp only;have a9:∀wr,Bl w wr->wr.cell? ⟨bi,offi+K*4+1,none⟩=some (.bool x.dir):=λwr hb=>(HP.out.2.2.1 wr hb).2.2.1
  generalize hdir:x.dir=dd at a9;have a6:=aC a9;clear a9 hdir;rcases dd with _|_
  .simp only[zP,if_false]
   go_in;go_wp2_with(first|(go_at_call 198;refine(HP.out.1 _).mono ?_;rintro e w1 ⟨v,rfl,hb1,ho1⟩;have a1:=ho1.row;obtain⟨gn,cap,hv,hc1,hc2⟩:=ho1.some_ (by rw[lM,HM.out.1];omega);rw[lM,HM.out.1]at hv hc1;subst hv;have a0:=a1.at_;have a3:∀ww,Bl w1 ww->Calls prog 191 #[.pointer b,.slice gn m cap] ww _:=λww hb=>HP.out.2.1 ww _ cap (hb1.trans (hb.mono hb1.size)) (a1.below hb (zC _));have b1:Bel w w1:=⟨hb1⟩;have b2:BlockLt d w1:=⟨by have:=hb1.size;have:=iD.lt;omega⟩;have b3:BlockLt b w1:=⟨by have:=hb1.size;have:=iL.lt;omega⟩;have x0:w1.cell? d=some (.pointer b):=(hb1.cell (p:=d) iD.lt).trans a8;have z0:w1.cell? b=some (.slice (some ⟨bi,offi,none⟩) S.ins.length capi):=(hb1.cell (p:=b) iL.lt).trans c0;obtain⟨iG1,y0,-,y2,y3⟩:=HP.out.2.2.1 w1 hb1;have b4:((m:Int)+1-1)=m:=(by omega);have b5:IntKind.i64.wrap (m:Int)=m:=I64.wrap ⟨by omega,by have:=HM.out;omega⟩;have b6:m<=cap:=(by omega);have H1:=eK hb1 a1 a0;clear hb1 a1 a0 ho1)|(go_at_call 172;with_reducible refine aE (aG _ _) λp=>?_));refine qR ?_
   repeat(go_big_quiet_step ((first|refine cI (a3 _ (bel _ _))|refine cJ (a3 _ (bel _ _)))))
   refine QN λp=>?_;have b9:=a6.out w1 H1.out.1;go_wp2_with(first|(go_at_call 172;with_reducible refine aE (aG _ _) λp=>?_)|(go_at_call 172;with_reducible refine aE (aO _ _) λp=>?_));exact⟨rfl,bel w _,rfl⟩
  simp only[if_true];have c3:(m:Int)<(m:Int)+1:=by omega
  go_in;go_wp2_with(first|(go_at_call 198;refine(HP.out.1 _).mono ?_;rintro e w1 ⟨v,rfl,hb1,ho1⟩;have a1:=ho1.row;obtain⟨gn,cap,hv,hc1,hc2⟩:=ho1.some_ (by rw[lM,HM.out.1];omega);rw[lM,HM.out.1]at hv hc1;subst hv;have a0:=a1.at_;have a3:∀ww,Bl w1 ww->Calls prog 191 #[.pointer b,.slice gn m cap] ww _:=λww hb=>HP.out.2.1 ww _ cap (hb1.trans (hb.mono hb1.size)) (a1.below hb (zC _));have b1:Bel w w1:=⟨hb1⟩;have b2:BlockLt d w1:=⟨by have:=hb1.size;have:=iD.lt;omega⟩;have b3:BlockLt b w1:=⟨by have:=hb1.size;have:=iL.lt;omega⟩;have x0:w1.cell? d=some (.pointer b):=(hb1.cell (p:=d) iD.lt).trans a8;have z0:w1.cell? b=some (.slice (some ⟨bi,offi,none⟩) S.ins.length capi):=(hb1.cell (p:=b) iL.lt).trans c0;obtain⟨iG1,y0,-,y2,y3⟩:=HP.out.2.2.1 w1 hb1;have b4:((m:Int)+1-1)=m:=(by omega);have b5:IntKind.i64.wrap (m:Int)=m:=I64.wrap ⟨by omega,by have:=HM.out;omega⟩;have b6:m<=cap:=(by omega);have H1:=eK hb1 a1 a0;clear hb1 a1 a0 ho1)|(go_at_call 172;with_reducible refine aE (aG _ _) λp=>?_));refine qR ?_
  repeat(go_big_quiet_step ((first|refine cI (a3 _ (bel _ _))|refine cJ (a3 _ (bel _ _)))))
  refine QN λp=>?_;have b9:=a6.out w1 H1.out.1;go_wp2_with(go_at_call 172;with_reducible refine aE (aG _ _) λp=>?_);obtain⟨a',cap',hv',a0⟩:=H1.out.2.2;obtain⟨bn,offn,he,iN0,iN1,hcn⟩:=a0 w1 (Below.refl _ _) m [.string l] (by rw[gM,HP.out.2.2.2.2];rfl);simp only[zO]at hv';obtain⟨rfl,-,rfl⟩:=hv';simp only[zF,yG]at he;obtain⟨rfl,rfl,-⟩:=he;have n0:=hcn 0 _ rfl;rw[Nat.mul_one,zN,zM]at n0;clear hcn a0;refine qR ?_
  repeat(go_big_quiet_step (fail))
  refine QN λp=>?_;go_wp2
  go_ret2;exact⟨bel w _,bi,offi,capi,c0,rfl⟩
 rw[zB (by simpa using hC)];have c8:(C !=0)=true:=by simpa using hC
 go_in;go_wp2_with(first|(go_at_call 198;refine(HP.out.1 _).mono ?_;rintro e w1 ⟨v,rfl,hb1,ho1⟩;have a1:=ho1.row;obtain⟨gn,cap,hv,hc1,hc2⟩:=ho1.some_ (by rw[lM,HM.out.1];omega);rw[lM,HM.out.1]at hv hc1;subst hv;have a0:=a1.at_;have a3:∀ww,Bl w1 ww->Calls prog 191 #[.pointer b,.slice gn m cap] ww _:=λww hb=>HP.out.2.1 ww _ cap (hb1.trans (hb.mono hb1.size)) (a1.below hb (zC _));have b1:Bel w w1:=⟨hb1⟩;have b2:BlockLt d w1:=⟨by have:=hb1.size;have:=iD.lt;omega⟩;have b3:BlockLt b w1:=⟨by have:=hb1.size;have:=iL.lt;omega⟩;have x0:w1.cell? d=some (.pointer b):=(hb1.cell (p:=d) iD.lt).trans a8;have z0:w1.cell? b=some (.slice (some ⟨bi,offi,none⟩) S.ins.length capi):=(hb1.cell (p:=b) iL.lt).trans c0;obtain⟨iG1,y0,-,y2,y3⟩:=HP.out.2.2.1 w1 hb1;have b4:((m:Int)+1-1)=m:=(by omega);have b5:IntKind.i64.wrap (m:Int)=m:=I64.wrap ⟨by omega,by have:=HM.out;omega⟩;have b6:m<=cap:=(by omega);have H1:=eK hb1 a1 a0;clear hb1 a1 a0 ho1)|(go_at_call 172;with_reducible refine aE (aG _ _) λp=>?_));refine qR ?_
 repeat(go_big_quiet_step ((first|refine cI (a3 _ (bel _ _))|refine cJ (a3 _ (bel _ _)))))
 refine QN λp=>?_;go_wp2_with(go_at_call 172;with_reducible refine aE (aO _ _) λp=>?_);exact⟨rfl,bel w _,rfl⟩
end
def tZ (S:PSt) (ns:List ByteArray) (num:Int) (q:Nat):Bool:=match S.ins[(aK S 0 (ns.take q)).1]? with
 |some x=>x.num==num
 |none=>false
def jE (S:PSt) (ns:List ByteArray) (num:Int):Bool:=(List.range ns.length).any (tZ S ns num)
theorem aPS {α:Type} {F:α->Bool} {zs:List α} {q:Nat} {z:α} (h:zs[q]? =some z):(zs.drop q).any F=(F z||(zs.drop (q+1)).any F):=by rw[cO h];rfl
theorem RowAt.pre {w:World} {k n cap:Nat} {a:Option Addr} {rows:List (List Value)} (h:RowAt w k (.slice a n cap) rows) (q:Nat) (hq:q<=rows.length):RowAt w k (.slice a q cap) (rows.take q):=by
 obtain⟨a',cap',he,hm,hr⟩:=h;simp only[zO]at he;obtain⟨rfl,rfl,rfl⟩:=he;have hl:(rows.take q).length=q:=by rw[zU];omega
 refine⟨a,cap,by rw[hl],by omega,λh0=>?_⟩;obtain⟨b,off,e2,hlt,hc⟩:=hr (by omega);refine⟨b,off,e2,hlt,λp cs hp=>?_⟩;rw[yO]at hp;split at hp
 .exact hc p cs hp
 cases hp
theorem xY (d b:Nat) (S:PSt) (c:PCall) (s:ByteArray) (num:Int) (w:World) (h:DR w d b S c) (hf:Fine S) (hp:(aA s).1=0) (hpl:(aA s).2.length<=1000000000):
 vR w 188 #[.pointer d,.string s,.int .i64 num] (.bool (jE S (aA s).2 num)):=by
 have a5:∀ww,Calls prog 198 #[s] ww λe w'=>∃v,e=.returned v/\Bl ww w'/\OwnP 0 w' 9 1 v ((aA s).2.map λn=>[.string n]):=λww=>aCE s ww hp;generalize(aA s).2=ns at a5 hpl |-;have a7:∀ww v q,Bl w ww->RowAt ww 1 v ((ns.take q).map λn=>[.string n])->Calls prog 191 #[.pointer b,v] ww _:=λww v q hb hv=>vJ b S (ns.take q) v ww (h.sp.below hb (zC _)) hf.wf hf.pos hf.find hv (by rw[zU];omega);have b0:=λq=>fL hf (ns.take q) 0 hf.pos;have d0:=h.d0;have iD:BlockLt d w:=⟨h.lt⟩;obtain⟨hl,iv,ov,mv,c0,c1,c2,hr⟩:=h.sp;have iB:BlockLt b w:=⟨hl⟩;obtain⟨ai,capi,rfl,hati⟩:=hr.ins_at2;have HI:=aC hati;clear h hf hp hr hati c1 c2;unfold jE;obtain⟨R,hR⟩:∃R,(List.range ns.length).any (tZ S ns num)=R:=⟨_,rfl⟩;rw[hR];have HR:=aC hR;clear hR;unfold vR;go_in;go_upto_region 2 with(go_at_call 198;refine(a5 _).mono ?_;rintro e w1 ⟨nv,rfl,hb1,hnm⟩;have a2:=hnm.row;obtain⟨an,cn,rfl,hcn⟩:=hnm.cap;rw[lM]at a2 hcn;have HN:=bG a2 hb1;clear hb1 hnm a2)
 go_wp2
 go_loopw[15] (λi wr=>∃(q:Nat),i=.int .i64 q/\q<=ns.length/\((List.range ns.length).drop q).any (tZ S ns num)=R/\Bl w1 wr) (λi _=>(ns.length-intOf i).toNat)
 case atStart=>exact⟨0,rfl,by omega,HR.out,bel _ _⟩
 obtain⟨q,rfl,hq,a0,hb⟩:=hrel;have a1:Bl w wr:=HN.out.2.trans (hb.mono HN.out.2.size);have b4:Bel w wr:=⟨a1⟩;have r0:wr.cell? d=some (.pointer b):=(a1.cell (p:=d) iD.lt).trans d0;have s0:wr.cell? b=some (.slice ai S.ins.length capi):=(a1.cell (p:=b) iB.lt).trans c0;have jD:BlockLt d wr:=⟨by have:=a1.size;have:=iD.lt;omega⟩;have jB:BlockLt b wr:=⟨by have:=a1.size;have:=iB.lt;omega⟩;by_cases hltq:q<ns.length
 .have hz:(List.range ns.length)[q]? =some q:=by rw[getElem?_range hltq]
  rw[aPS hz]at a0;have a6:RowAt wr 1 (.slice an q cn) ((ns.take q).map λn=>[.string n]):=by have:=(HN.out.1.below hb (zC _)).pre q (by rw[lM];omega);rw[<-map_take]at this;exact this
  have a4:∀ww,Bl wr ww->Calls prog 191 #[.pointer b,.slice an q cn] ww _:=λww hb'=>a7 ww _ q (a1.trans (hb'.mono a1.size)) (a6.below hb' (zC _));have a3:=b0 q;have a8:tZ S ns num q=(match S.ins[(aK S 0 (ns.take q)).1]? with|some x=>x.num==num|none=>false):=rfl;rw[a8]at a0;obtain⟨⟨K,C⟩,hKC⟩:∃KC,aK S 0 (ns.take q)=KC:=⟨_,rfl⟩;rw[hKC]at a4 a3 a0;simp only at a4 a3 a0;obtain⟨x,hx⟩:∃x,S.ins[K]? =some x:=⟨_,gE a3⟩;rw[hx]at a0;simp only at a0;obtain⟨bi,off,ev,rfl,iG0,ho1,hev,hcl⟩:=HI.out K x hx;obtain⟨iG,y0,y1,y2,y3⟩:=hcl wr a1;have b5:(K:Int)<S.ins.length:=by omega
  have b6:(q:Int)<=ns.length:=by omega
  have b2:(q:Int)<=cn:=by omega
  have a9:q<=cn:=by omega
  clear a6 a7 hcl hev a8 hKC hx hz;have b7:Bel wr wr:=inferInstance;obtain⟨xn,xd,xe,xdat⟩:=x;simp only at y0 a0;generalize hb1:(xn==num)=b1 at a0;rcases b1 with _|_
  .simp only[Bool.false_or]at a0;have b3:=aC a0;clear a0
   go_upto_region 5 with fail;refine bY (by kernel_rfl) (by kernel_rfl) (WQ.out ?_)
   repeat
    refine rS (λK hK=>?_);go_simp
    first
     |(refine hK _ ?_;clear hK K)
     | (apply Exists.intro
        refine⟨λ_=>?_,hK _ ?_⟩
        focus(first|refine cI (a4 _ (bel wr _))|refine cJ (a4 _ (bel wr _)))
        clear hK K)
   refine WN λp=>?_;go_wp2;go_roundw
   case rel=>exact⟨q+1,by go_num,by omega,b3.out,hb.trans ((bel wr _).mono hb.size)⟩
   simp[intOf];omega
  simp only[Bool.true_or]at a0;subst a0;go_upto_region 5 with fail;refine bY (by kernel_rfl) (by kernel_rfl) (WQ.out ?_)
  repeat
   refine rS (λK hK=>?_);go_simp
   first
    |(refine hK _ ?_;clear hK K)
    | (apply Exists.intro
       refine⟨λ_=>?_,hK _ ?_⟩
       focus(first|refine cI (a4 _ (bel wr _))|refine cJ (a4 _ (bel wr _)))
       clear hK K)
  refine WN λp=>?_;go_wp2;go_ret;exact⟨rfl,bel w _⟩
 rw[zS (by rw[length_range];omega)]at a0;have a0:false=R:=a0;subst a0;go_wp2;go_ret;exact⟨rfl,a1⟩
end Go.Proofs.YtmkapobnfigedaaGreatDoor
