/- Part of the proof of a law of chapter 15. Conditions: none. -/
import Derived.Test.YtmkapobnfigedaaGreatDoorDl11
import Derived.Lib.AppendIntMem
import Derived.Test.YtmkapobnfigedaaGreatDoorProg
import Derived.Shelf.Strings.Builder1
import Derived.Shelf.Strings.Builder2
import Derived.Shelf.Strings.OnBuilder
import Derived.Shelf.Strconv.Itoa0
import Derived.Shelf.Strconv.Itoa1
import Derived.Shelf.LaysM
import Derived.Shelf.Strconv.Itoa2
import Derived.Shelf.Strconv.Itoa3
import Derived.Shelf.Slices.Turned
import Derived.Shelf.Slices.Empties2
set_option linter.unusedVariables false
set_option linter.unusedSimpArgs false
set_option maxRecDepth 100000
set_option maxHeartbeats 8000000
namespace Go.Proofs.YtmkapobnfigedaaGreatDoor
open Go.RowKit
def pL (s but:ByteArray) (e:PEnt):Bool:=!(e.name.toList==but.toList)&&(bQ e.name==bQ s)
def oR (s but:ByteArray):List PEnt->Nat
 |[]=>0
 |e::r=>if pL s but e=true then oR s but r+1 else oR s but r
theorem aIO {s but:ByteArray} {es:List PEnt} {q:Nat} {e:PEnt} (h:es[q]? =some e):oR s but (es.drop q)=if pL s but e=true then oR s but (es.drop (q+1))+1 else oR s but (es.drop (q+1)):=by rw[bY h];rfl
theorem aGU (s but:ByteArray):∀es:List PEnt,oR s but es<=es.length
 |[]=>by simp[oR]
 | e::r=>by
   have:=aGU s but r;unfold oR;split<;>simp only[zK]<;>omega
def fQ (es:List PEnt) (s but:ByteArray):Bool:=decide (4<=oR s but es)
theorem aGV (bx ox:Nat) (es:List PEnt) (ev:Value) (s but:ByteArray) (w:World) (ib:BlockLt bx w) (hc:w.cell? ⟨bx,ox+2,none⟩=some ev) (he:RowAt w 2 ev (es.map PEnt.cells)) (hlen:es.length<=1000000000):
 vR w 173 #[.pointer (some ⟨bx,ox,none⟩),.string s,.string but] (.bool (fQ es s but)):=by
 have a2:∀ww (n:ByteArray),Calls Tryz.prog 133 #[.string n] ww _:=λww n=>lA n ww;obtain⟨ae,ce,rfl,hat⟩:=he.at_;rw[lM]at hc;have HE:=aG hat;clear hat he;have a3:=aGU s but es;unfold fQ;obtain⟨N,hN⟩:∃N,oR s but es=N:=⟨_,rfl⟩;rw[hN]at a3 |-;have HN:=aG hN;clear hN;go_enter Tryz.func173,Tryz.ntmps173;go_wp2_with fail
 go_loopw[7,15] (λvn vi wr=>∃(q n:Nat),vi=.int .i64 q/\vn=.int .i64 n/\q<=es.length/\n+oR s but (es.drop q)=N/\Below w.heap.size w wr) (λ_ vi _=>(es.length-intOf vi).toNat)
 case atStart=>exact⟨0,0,rfl,rfl,by omega,by simpa using HN.out,bel _ _⟩
 obtain⟨q,n,rfl,rfl,hq,hre,hb⟩:=hrel;have iB:Bel w wr:=⟨hb⟩;by_cases hlt:q<es.length
 .obtain⟨e,hz⟩:∃e,es[q]? =some e:=⟨_,gE hlt⟩
  obtain⟨be,oe,rfl,iE0,iE,hce⟩:=HE.out wr hb q e.cells (by rw[gM,hz];rfl);have e0:=hce 0 _ rfl;have e1:=hce 1 _ rfl;rw[zN]at e0;rw[aIO hz]at hre;unfold pL at hre;have k1:=a2;have ew:wrap64 ((n:Int)+1)=(n:Int)+1:=by simp only[wrap64];omega
  generalize hb1:(e.name.toList==but.toList)=b1 at hre;generalize hg1:bQ e.name=g1 at hre;generalize hg2:bQ s=g2 at hre;have a0:∀ww,vR ww 133 #[.string e.name] (.int .i64 g1):=λww=>by rw[<-hg1];exact lA e.name ww
  have a1:∀ww,vR ww 133 #[.string s] (.int .i64 g2):=λww=>by rw[<-hg2];exact lA s ww
  clear hz hce a2 k1 hg1 hg2;rcases b1 with _|_
  .simp only[Bool.not_false,xA]at hre;generalize hg:(g1==g2)=gg at hre;rcases gg with _|_
   .simp only[zP,if_false]at hre;have HR:=aG hre;clear hre;go_wp2_with(first|(go_at_call 133;refine aE (a0 _) λp=>?_)|(go_at_call 133;refine aE (a1 _) λp=>?_))
    go_roundw
    case rel=>exact⟨q+1,n,by go_num,rfl,by omega,HR.out,bel _ _⟩
    simp[intOf];omega
   simp only[if_true]at hre;have HR:=aG hre;clear hre;go_wp2_with(first|(go_at_call 133;refine aE (a0 _) λp=>?_)|(go_at_call 133;refine aE (a1 _) λp=>?_));go_roundw
   case rel=>exact⟨q+1,n+1,by go_num,by go_num,by omega,by have:=HR.out;omega,bel _ _⟩
   simp[intOf];omega
  simp only[Bool.not_true,yJ,zP,if_false]at hre;have HR:=aG hre;clear hre;go_wp2_with(first|(go_at_call 133;refine aE (a0 _) λp=>?_)|(go_at_call 133;refine aE (a1 _) λp=>?_));go_roundw
  case rel=>exact⟨q+1,n,by go_num,rfl,by omega,HR.out,bel _ _⟩
  simp[intOf];omega
 rw[zS (by omega)]at hre;have a4:n=N:=by simpa[oR]using hre
 subst a4;clear hre;go_wp2_with fail;exact xB (v:=.bool (decide (4<=n))) (by simp[results,Tryz.results173,go_sem];omega) rfl ⟨rfl,bel _ _⟩
def qI (x n:Int):Int:=wrap64 (x-n)
theorem aLM (x n:Int) (d:Bool) (ev:Value) (s:ByteArray) (hev:ev.oneCell'=true) (w:World):
 vR w 176 #[.agg #[.int .i64 x,.bool d,ev,.string s],.int .i64 n] (.int .i64 (qI x n)):=by
 unfold qI;go_enter Tryz.func176,Tryz.ntmps176;go_wp2_with fail;go_ret;exact⟨by first|rfl|simp,bel _ _⟩
def oJ (is:List IRec) (n:Int) (q:Nat):Int:=match is[q]? with|some x=>qI x.num n|none=>0
def bsD (is:List IRec) (n:Int):Nat:=cW (oJ is n) is.length 0 is.length
def xQ (is:List IRec) (n:Int):Bool:=decide (bsD is n<is.length)&&(oJ is n (bsD is n)==0)
def sV (ns:List Int) (n:Int) (q:Nat):Int:=match ns[q]? with|some x=>qI x n|none=>0
def nZ (ns:List Int) (n:Int):Nat:=cW (sV ns n) ns.length 0 ns.length
theorem aPF (is:List IRec) (n:Int):bsD is n=nZ (is.map IRec.num) n:=by
 have hc:oJ is n=sV (is.map IRec.num) n:=by
  funext q;unfold oJ sV;rw[gM];cases is[q]? <;>rfl
 unfold bsD nZ;rw[hc,lM]
theorem aRK (is:List IRec) (v:Value) (n:Int) (w:World) (h:RowAt w 4 v (is.map IRec.cells)) (hlen:is.length<=1000000000):
 vR w 134 #[v,.int .i64 n,.func (.func 176) #[] #[]] (.tuple #[.int .i64 (bsD is n),.bool (xQ is n)]):=by
 obtain⟨a,cap,rfl,_,hrow⟩:=h;rw[lM]at hrow |-;have cell:∀(wr:World),Below w.heap.size w wr->∀(q:Nat),q<is.length->∃(b off:Nat) (x:IRec),a=some ⟨b,off,none⟩/\BlockLt b wr/\is[q]? =some x/\oJ is n q=qI x.num n/\wr.cell? ⟨b,off+q*4,none⟩=some (.int .i64 x.num)/\wr.cell? ⟨b,off+q*4+1,none⟩=some (.bool x.dir)/\wr.cell? ⟨b,off+q*4+2,none⟩=some x.ev/\wr.cell? ⟨b,off+q*4+3,none⟩=some (.string x.data):=by
  intro wr hb q hq;obtain⟨b,off,rfl,hlt,hc⟩:=hrow (by omega);obtain⟨x,hx⟩:∃x,is[q]? =some x:=⟨_,gE hq⟩;have hm:(is.map IRec.cells)[q]? =some x.cells:=by rw[gM,hx];rfl
  have hs:=hb.size;have key:∀(t:Nat) (u:Value),x.cells[t]? =some u->wr.cell? ⟨b,off+q*4+t,none⟩=some u:=λt u hu=>(hb.cell (p:=⟨b,_,none⟩) hlt).trans (hc q _ hm t u hu);exact⟨b,off,x,rfl,⟨by omega⟩,hx,by unfold oJ;rw[hx],key 0 _ rfl,key 1 _ rfl,key 2 _ rfl,key 3 _ rfl⟩
 have HC:=aG cell;clear cell hrow;obtain⟨P,hP⟩:∃P,bsD is n=P:=⟨_,rfl⟩;obtain⟨T,hT⟩:∃T,xQ is n=T:=⟨_,rfl⟩;rw[hP,hT];have HP:=bB hP hT;clear hP hT;go_enter Tryz.func134,Tryz.ntmps134;go_wp2_with fail
 go_loopw[9,10] (λi j wr=>∃(lo hi b:Nat),i=.int .i64 lo/\j=.int .i64 hi/\lo<=hi/\hi<=is.length/\hi<=lo+b/\cW (oJ is n) b lo hi=P/\Below w.heap.size w wr) (λi j _=>(intOf j-intOf i).toNat)
 case atStart=>exact⟨0,is.length,is.length,rfl,rfl,by omega,by omega,by omega,HP.out.1,bel _ _⟩
 obtain⟨lo,hi,b,rfl,rfl,hlh,hhn,hfu,hbs,hb⟩:=hrel;have iB:Bel w wr:=⟨hb⟩;by_cases hlt:lo<hi
 .obtain⟨b',rfl⟩:∃b',b=b'+1:=⟨b-1,by omega⟩
  obtain⟨m,hm⟩:∃m,(lo+hi)/2=m:=⟨_,rfl⟩;obtain⟨b0,off,x,rfl,iG,hx,hcm,c0,c1,c2,c3⟩:=HC.out wr hb m (by omega);have a1:=x.one;rw[cW,zB hlt,hm,hcm]at hbs;have HS:=aG hbs;clear hbs hcm;have a6:((lo:Int)+hi)/2=m:=by omega
  have a7:m<is.length:=by omega
  have a4:(m:Int)<is.length:=by omega
  have a0:∀ww,vR ww 176 #[.agg #[.int .i64 x.num,.bool x.dir,x.ev,.string x.data],.int .i64 n] (.int .i64 (qI x.num n)):=λww=>aLM x.num n x.dir x.ev x.data a1 ww;have HM:=aG hm;clear hm;by_cases hneg:qI x.num n<0
  .generalize hcv:qI x.num n=cv at a0 hneg;go_wp2_with(go_at_call 176;refine aE (a0 _) λp=>?_)
   go_roundw
   case rel=>exact⟨m+1,hi,b',by go_num,rfl,by have:=HM.out;omega,by omega,by have:=HM.out;omega,by have:=HS.out;rw[hcv,zB hneg]at this;exact this,bel _ _⟩
   have:=HM.out;simp[intOf];omega
  generalize hcv:qI x.num n=cv at a0 hneg;go_wp2_with(go_at_call 176;refine aE (a0 _) λp=>?_);go_roundw
  case rel=>exact⟨lo,m,b',rfl,rfl,by have:=HM.out;omega,by omega,by have:=HM.out;omega,by have:=HS.out;rw[hcv,zA (by omega)]at this;exact this,bel _ _⟩
  have:=HM.out;simp[intOf];omega
 obtain rfl:lo=hi:=by omega
 rw[oQ _ _ _ _ hlt]at hbs;have a5:P=lo:=hbs.symm;subst a5;by_cases hln:P<is.length
 .obtain⟨b0,off,x,rfl,iG,hx,hcm,c0,c1,c2,c3⟩:=HC.out wr hb P hln;have a1:=x.one;have a3:(P:Int)<is.length:=by omega
  have a0:∀ww,vR ww 176 #[.agg #[.int .i64 x.num,.bool x.dir,x.ev,.string x.data],.int .i64 n] (.int .i64 (qI x.num n)):=λww=>aLM x.num n x.dir x.ev x.data a1 ww;have a2:T=(qI x.num n==0):=by have h1:=HP.out.2;have h2:=HP.out.1;rw[<-h1];unfold xQ;rw[h2,hcm];simp[hln]
  clear hcm;generalize qI x.num n=cv at a0 a2;subst a2;go_wp2_with(go_at_call 176;refine aE (a0 _) λp=>?_)
  go_ret2;refine⟨rfl,bel _ _⟩
 have a3:¬(P:Int)<is.length:=by omega
 have a2:T=false:=by have h1:=HP.out.2;have h2:=HP.out.1;rw[<-h1];unfold xQ;rw[h2];simp[hln]
 subst a2;go_wp2_with fail
 go_ret2;refine⟨rfl,bel _ _⟩
section
variable {B k:Nat} {e:TypeId} {rows:List (List Value)} {v:Value} {w:World}
theorem RowAt.take {n cap:Nat} {a:Option Addr} (h:RowAt w k (.slice a n cap) rows) (m:Nat) (hm:m<=rows.length):RowAt w k (.slice a m cap) (rows.take m):=by
 obtain⟨a',cap',e,hl,hr⟩:=h;simp only[zO]at e;obtain⟨rfl,-,rfl⟩:=e;have a0:(rows.take m).length=m:=by rw[zU];omega
 refine⟨a,cap,by rw[a0],by omega,λh0=>?_⟩;obtain⟨b,off,e,hb,hc⟩:=hr (by omega);refine⟨b,off,e,hb,λq cs hq t u hu=>hc q cs ?_ t u hu⟩;rw[yO]at hq;split at hq
 .exact hq
 cases hq
theorem wP (s:ByteArray) (w:World) (hp:(aA s).1=0):Calls Tryz.prog 198 #[.string s] w λe w'=>∃v,e=.returned v/\Below w.heap.size w w'/\OwnP 0 w' 9 1 v ((aA s).2.map λn=>[.string n]):=by have a0:=tT s w;generalize aA s=F at a0 hp |-;obtain⟨c,ns⟩:=F;obtain rfl:c=0:=hp;have hc:∀ww,Calls Tryz.prog 190 #[.int .i64 0] ww _:=λww=>sH 0 ww;go_enter Tryz.func198,Tryz.ntmps198;go_wp2_with(first|(go_at_call 153;refine a0.mono ?_;rintro e w1 ⟨v,rfl,hb,hown,hbl⟩;have a1:=uO hown;have iB:Bel w w1:=⟨hb⟩;have HO:=bB hown hb;clear hown hb hbl)|(go_at_call 190;refine aE (hc _) λp=>?_)|(go_at_call 172;refine aE (aD _ _) λp=>?_));go_ret;refine⟨_,rfl,bel _ _,?_⟩;have:=(OwnP.of_own (rows:=ns.map λn=>[.string n]) (by rw[lM,qD];exact HO.out.1) (by decide) (by intro cs h;obtain⟨x,_,rfl⟩:=List.mem_map.1 h;rfl));exact this.keep (Keep.of_below (bel w1 _) (λ_=>False)) (λ_ _ h=>h)
theorem OwnP.cap (h:OwnP B w e k v rows):∃a cap,v=.slice a rows.length cap/\rows.length<=cap/\cap<=maxLen:=by
 rcases h with⟨rfl,rfl⟩|⟨g,cap,cur,rfl,_,_,h1,h2,_⟩
 .exact⟨_,_,rfl,by simp,by unfold maxLen;omega⟩
 exact⟨_,_,rfl,h1,h2⟩
theorem OwnP.some_ (h:OwnP B w e k v rows) (h0:0<rows.length):∃g cap,v=.slice (some ⟨g,0,none⟩) rows.length cap/\rows.length<=cap/\cap<=maxLen:=by
 rcases h with⟨rfl,rfl⟩|⟨g,cap,cur,rfl,_,_,h1,h2,_⟩
 .simp at h0
 exact⟨_,_,rfl,h1,h2⟩
def aX (S:PSt) (ns:List ByteArray):Except Int (Nat × ByteArray):=
 match ns.getLast? with
 |none=>.error 9
 | some l=>if(aL S 0 ns.dropLast).2≠0 then .error (aL S 0 ns.dropLast).2 else match S.ins[(aL S 0 ns.dropLast).1]? with
   |some x=>if x.dir=true then .ok ((aL S 0 ns.dropLast).1,l)else .error 7
   |none=>.error 7
def aSG (w:World) (b:Nat) (S:PSt) (R:Except Int (Nat × ByteArray)) (e:Ending):Prop:=
 match R with
 |.ok (K,l)=>∃bi off cap,w.cell? ⟨b,0,none⟩=some (.slice (some ⟨bi,off,none⟩) S.ins.length cap)/\e=.returned (.tuple #[.pointer (some ⟨bi,off+K*4,none⟩),.string l])
 |.error c=>e=bD c
theorem wQ (d b:Nat) (S:PSt) (c:PCall) (s:ByteArray) (w:World) (h:DR w d b S c) (hf:Fine S) (hp:(aA s).1=0) (hpl:(aA s).2.length<=1000000000):
 Calls Tryz.prog 170 #[.pointer (some ⟨d,0,none⟩),.string s] w λe w'=>Below w.heap.size w w'/\aSG w b S (aX S (aA s).2) e:=by
 have a2:∀ww,Calls Tryz.prog 198 #[.string s] ww λe w'=>∃v,e=.returned v/\Below ww.heap.size ww w'/\OwnP 0 w' 9 1 v ((aA s).2.map λn=>[.string n]):=λww=>wP s ww hp;generalize(aA s).2=ns at a2 hpl |-;have a4:∀ww v,Below w.heap.size w ww->RowAt ww 1 v (ns.dropLast.map λn=>[.string n])->Calls Tryz.prog 191 #[.pointer (some ⟨b,0,none⟩),v] ww _:=λww v hb hv=>sM b S ns.dropLast v ww (h.sp.below hb (zC _)) hf.wf hf.pos hf.find hv (by rw[List.length_dropLast];omega);have a7:=eT hf ns.dropLast 0 hf.pos;have a8:=h.d0;have iD:BlockLt d w:=⟨h.lt⟩;obtain⟨hl,iv,ov,mv,c0,c1,c2,hr⟩:=h.sp;have iL:BlockLt b w:=⟨hl⟩;obtain⟨ai,capi,rfl,hati⟩:=hr.ins_at2;unfold aX;rcases hgl:ns.getLast? with _|l
 .have b7:ns=[]:=List.getLast?_eq_none_iff.1 hgl;subst b7;clear a4 h hr hati a7 hgl
  go_enter Tryz.func170,Tryz.ntmps170;go_wp2_with(first|(go_at_call 198;refine(a2 _).mono ?_;rintro e w1 ⟨v,rfl,hb1,hv1⟩;obtain⟨a,cap,rfl,-⟩:=hv1.cap)|(go_at_call 172;refine aE (aO _ _) λp=>?_));exact⟨rfl,hb1.trans ((bel w1 _).mono hb1.size),rfl⟩
 have b8:ns≠[]:=λe=>by rw[e]at hgl;simp at hgl
 have c4:0<ns.length:=List.length_pos_iff.2 b8;have a5:ns[ns.length-1]? =some l:=by rw[<-hgl,List.getLast?_eq_getElem?]
 generalize aL S 0 ns.dropLast=W at a4 a7 |-;obtain⟨K,C⟩:=W;simp only at a4 a7 |-;obtain⟨m,hm⟩:∃m,ns.length=m+1:=⟨ns.length-1,by omega⟩;have b0:ns.dropLast=ns.take m:=by rw[List.dropLast_eq_take,hm];rfl
 obtain⟨x,hx⟩:∃x,S.ins[K]? =some x:=⟨_,gE a7⟩;obtain⟨bi,offi,ev,rfl,iG,ho1,hev,hcl⟩:=hati K x hx;rw[hm]at a5;have a5:ns[m]? =some l:=a5;have hw:∀ww a cap,Below w.heap.size w ww->RowAt ww 1 (.slice a (m+1) cap) (ns.map λn=>[.string n])->vR ww 191 #[.pointer (some ⟨b,0,none⟩),.slice a m cap] (.tuple #[.int .i64 K,.int .i64 C]):=λww a cap hb hv=>a4 ww _ hb (by rw[b0,List.map_take];exact hv.take m (by rw[lM];omega));have HP:=oB a2 hw hcl hx a5;have c5:(K:Int)<S.ins.length:=by omega
 have HM:=bB hm hpl;clear a2 a4 hw hcl hx a5 h hr hati c1 c2 hgl b0 hev;have c6:((m:Int)+1==0)=false:=by simp;omega
 have c7:¬((m:Int)+1=0):=by omega
 by_cases hC:C=0
 .subst hC;rw[zA (by simp),HP.out.2.2.2.1];simp only;have a9:∀wr,Below w.heap.size w wr->wr.cell? ⟨bi,offi+K*4+1,none⟩=some (.bool x.dir):=λwr hb=>(HP.out.2.2.1 wr hb).2.2.1
  generalize hdir:x.dir=dd at a9;have a6:=aG a9;clear a9 hdir;rcases dd with _|_
  .simp only[zP,if_false]
   go_enter Tryz.func170,Tryz.ntmps170;go_wp2_with(first|(go_at_call 198;refine(HP.out.1 _).mono ?_;rintro e w1 ⟨v,rfl,hb1,ho1⟩;have a1:=ho1.row;obtain⟨gn,cap,hv,hc1,hc2⟩:=ho1.some_ (by rw[lM,HM.out.1];omega);rw[lM,HM.out.1]at hv hc1;subst hv;have a0:=a1.at_;have a3:∀ww,Below w1.heap.size w1 ww->Calls Tryz.prog 191 #[.pointer (some ⟨b,0,none⟩),.slice (some ⟨gn,0,none⟩) m cap] ww _:=λww hb=>HP.out.2.1 ww _ cap (hb1.trans (hb.mono hb1.size)) (a1.below hb (zC _));have b1:Bel w w1:=⟨hb1⟩;have b2:BlockLt d w1:=⟨by have:=hb1.size;have:=iD.lt;omega⟩;have b3:BlockLt b w1:=⟨by have:=hb1.size;have:=iL.lt;omega⟩;have x0:w1.cell? ⟨d,0,none⟩=some (.pointer (some ⟨b,0,none⟩)):=(hb1.cell (p:=⟨d,0,none⟩) iD.lt).trans a8;have z0:w1.cell? ⟨b,0,none⟩=some (.slice (some ⟨bi,offi,none⟩) S.ins.length capi):=(hb1.cell (p:=⟨b,0,none⟩) iL.lt).trans c0;obtain⟨iG1,y0,-,y2,y3⟩:=HP.out.2.2.1 w1 hb1;have b4:((m:Int)+1-1)=m:=(by omega);have b5:IntKind.i64.wrap (m:Int)=m:=I64.wrap ⟨by omega,by have:=HM.out;omega⟩;have b6:m<=cap:=(by omega);have H1:=dR hb1 a1 a0;clear hb1 a1 a0 ho1)|(go_at_call 172;with_reducible refine aE (aD _ _) λp=>?_));refine qR ?_
   repeat(go_big_quiet_step ((first|refine cI (a3 _ (bel _ _))|refine cJ (a3 _ (bel _ _)))))
   refine QN λp=>?_;have b9:=a6.out w1 H1.out.1;go_wp2_with(first|(go_at_call 172;with_reducible refine aE (aD _ _) λp=>?_)|(go_at_call 172;with_reducible refine aE (aO _ _) λp=>?_));exact⟨rfl,bel w _,rfl⟩
  simp only[if_true];have c3:(m:Int)<(m:Int)+1:=by omega
  go_enter Tryz.func170,Tryz.ntmps170;go_wp2_with(first|(go_at_call 198;refine(HP.out.1 _).mono ?_;rintro e w1 ⟨v,rfl,hb1,ho1⟩;have a1:=ho1.row;obtain⟨gn,cap,hv,hc1,hc2⟩:=ho1.some_ (by rw[lM,HM.out.1];omega);rw[lM,HM.out.1]at hv hc1;subst hv;have a0:=a1.at_;have a3:∀ww,Below w1.heap.size w1 ww->Calls Tryz.prog 191 #[.pointer (some ⟨b,0,none⟩),.slice (some ⟨gn,0,none⟩) m cap] ww _:=λww hb=>HP.out.2.1 ww _ cap (hb1.trans (hb.mono hb1.size)) (a1.below hb (zC _));have b1:Bel w w1:=⟨hb1⟩;have b2:BlockLt d w1:=⟨by have:=hb1.size;have:=iD.lt;omega⟩;have b3:BlockLt b w1:=⟨by have:=hb1.size;have:=iL.lt;omega⟩;have x0:w1.cell? ⟨d,0,none⟩=some (.pointer (some ⟨b,0,none⟩)):=(hb1.cell (p:=⟨d,0,none⟩) iD.lt).trans a8;have z0:w1.cell? ⟨b,0,none⟩=some (.slice (some ⟨bi,offi,none⟩) S.ins.length capi):=(hb1.cell (p:=⟨b,0,none⟩) iL.lt).trans c0;obtain⟨iG1,y0,-,y2,y3⟩:=HP.out.2.2.1 w1 hb1;have b4:((m:Int)+1-1)=m:=(by omega);have b5:IntKind.i64.wrap (m:Int)=m:=I64.wrap ⟨by omega,by have:=HM.out;omega⟩;have b6:m<=cap:=(by omega);have H1:=dR hb1 a1 a0;clear hb1 a1 a0 ho1)|(go_at_call 172;with_reducible refine aE (aD _ _) λp=>?_));refine qR ?_
  repeat(go_big_quiet_step ((first|refine cI (a3 _ (bel _ _))|refine cJ (a3 _ (bel _ _)))))
  refine QN λp=>?_;have b9:=a6.out w1 H1.out.1;go_wp2_with(go_at_call 172;with_reducible refine aE (aD _ _) λp=>?_);obtain⟨a',cap',hv',a0⟩:=H1.out.2.2;obtain⟨bn,offn,he,iN0,iN1,hcn⟩:=a0 w1 (Below.refl _ _) m [.string l] (by rw[gM,HP.out.2.2.2.2];rfl);simp only[zO]at hv';obtain⟨rfl,-,rfl⟩:=hv';simp only[zF,yG]at he;obtain⟨rfl,rfl,-⟩:=he;have n0:=hcn 0 _ rfl;rw[Nat.mul_one,zN,zM]at n0;clear hcn a0;refine qR ?_
  repeat(go_big_quiet_step (fail))
  refine QN λp=>?_;go_wp2_with fail
  go_ret2;exact⟨bel w _,bi,offi,capi,c0,rfl⟩
 rw[zB (by simpa using hC)];have c8:(C !=0)=true:=by simpa using hC
 go_enter Tryz.func170,Tryz.ntmps170;go_wp2_with(first|(go_at_call 198;refine(HP.out.1 _).mono ?_;rintro e w1 ⟨v,rfl,hb1,ho1⟩;have a1:=ho1.row;obtain⟨gn,cap,hv,hc1,hc2⟩:=ho1.some_ (by rw[lM,HM.out.1];omega);rw[lM,HM.out.1]at hv hc1;subst hv;have a0:=a1.at_;have a3:∀ww,Below w1.heap.size w1 ww->Calls Tryz.prog 191 #[.pointer (some ⟨b,0,none⟩),.slice (some ⟨gn,0,none⟩) m cap] ww _:=λww hb=>HP.out.2.1 ww _ cap (hb1.trans (hb.mono hb1.size)) (a1.below hb (zC _));have b1:Bel w w1:=⟨hb1⟩;have b2:BlockLt d w1:=⟨by have:=hb1.size;have:=iD.lt;omega⟩;have b3:BlockLt b w1:=⟨by have:=hb1.size;have:=iL.lt;omega⟩;have x0:w1.cell? ⟨d,0,none⟩=some (.pointer (some ⟨b,0,none⟩)):=(hb1.cell (p:=⟨d,0,none⟩) iD.lt).trans a8;have z0:w1.cell? ⟨b,0,none⟩=some (.slice (some ⟨bi,offi,none⟩) S.ins.length capi):=(hb1.cell (p:=⟨b,0,none⟩) iL.lt).trans c0;obtain⟨iG1,y0,-,y2,y3⟩:=HP.out.2.2.1 w1 hb1;have b4:((m:Int)+1-1)=m:=(by omega);have b5:IntKind.i64.wrap (m:Int)=m:=I64.wrap ⟨by omega,by have:=HM.out;omega⟩;have b6:m<=cap:=(by omega);have H1:=dR hb1 a1 a0;clear hb1 a1 a0 ho1)|(go_at_call 172;with_reducible refine aE (aD _ _) λp=>?_));refine qR ?_
 repeat(go_big_quiet_step ((first|refine cI (a3 _ (bel _ _))|refine cJ (a3 _ (bel _ _)))))
 refine QN λp=>?_;go_wp2_with(go_at_call 172;with_reducible refine aE (aO _ _) λp=>?_);exact⟨rfl,bel w _,rfl⟩
end
def PRes.val (r:PRes) (nv:Value):Value:=.agg #[.int .i64 r.code,.int .i64 r.fd,.int .i64 r.num,.bool r.dir,.string r.data,nv]
def CP (w:World) (k:Nat) (c:PCall):Prop:=k<w.heap.size/\∀(t:Nat) (u:Value),c.cells[t]? =some u->w.cell? ⟨k,t,none⟩=some u
theorem CP.below {w w':World} {k B:Nat} {c:PCall} (h:CP w k c) (hb:Below B w w') (hB:w.heap.size<=B):CP w' k c:=by have hs:=hb.size;have hl:=h.1;exact⟨by omega,λt u hu=>(hb.cell (p:=⟨k,t,none⟩) (by show k<B;omega)).trans (h.2 t u hu)⟩
section
def Did (S:PSt) (c:PCall) (S':PSt) (r:PRes):Prop:=∀(w:World) (iv ov mv:Value),StRead w iv ov mv S->Calls Tryz.prog 73 #[.agg #[iv,ov,mv],.agg #[.int .i64 c.kind,.int .i64 c.core,.int .i64 c.fd,.int .i64 c.off,.int .i64 c.num,.string c.path,.string c.path2,.string c.data]] w λe w'=>Below w.heap.size w w'/\xZ w.heap.size S' r e w'
variable {N k:Nat} {w:World}
theorem CP.of_blk {c:PCall} (h:Blk w k #[.int .i64 c.kind,.int .i64 c.core,.int .i64 c.fd,.int .i64 c.off,.int .i64 c.num,.string c.path,.string c.path2,.string c.data] 28):CP w k c:=
 ⟨h.lt.lt,λt u hu=>by rw[h.cell];simpa[PCall.cells]using hu⟩
class Above (N:Nat) (a w:World):Prop where
 eq:∀k,N<=k->k<a.heap.size->w.heap[k]? =a.heap[k]?
 size:a.heap.size<=w.heap.size
instance {X X':World} {p:Behind} {n:Nat} [h:SizeIs X n] [h':SizeIs X' n]:Above X.heap.size (X.junk p) (X'.junk p):=⟨λk hk _=>by
 have e1:=h.eq;have e2:=h'.eq;simp only[World.junk];rw[Array.getElem?_append_right (by omega),Array.getElem?_append_right (by omega),e1,e2],by
 have e1:=h.eq;have e2:=h'.eq;rw[World.size_junk0,World.size_junk0,e1,e2];exact zC _⟩
instance {N:Nat} {a w:World} {o:Obj} [h:Above N a w]:Above N a (w.alloc o):=⟨λk hk hl=>by rw[RowKit.Below.heap_alloc w o k (zR hl h.size)];exact h.eq k hk hl,by have:=h.size;simp;omega⟩
instance {N:Nat} {a w:World} {q:Behind} [h:Above N a w]:Above N a (w.junk q):=⟨λk hk hl=>by rw[World.heap_junk w q (zR hl h.size)];exact h.eq k hk hl,by have:=h.size;rw[World.size_junk0];omega⟩
theorem OwnP.above {e:TypeId} {v:Value} {rows:List (List Value)} (h:OwnP N w e k v rows) (w':World) [ha:Above N w w']:OwnP N w' e k v rows:=by
 rcases h with h|⟨g,cap,cur,rfl,hg,hb,r⟩
 .exact .inl h
 exact .inr ⟨g,cap,cur,rfl,hg,(ha.eq g hg hb.lt.lt).trans hb,r⟩
theorem StOwn.above {iv ov mv:Value} {S:PSt} (h:StOwn N w iv ov mv S) (w':World) [ha:Above N w w']:StOwn N w' iv ov mv S:=by
 obtain⟨h1,h2,is,h3,h4,h5,h6⟩:=h;exact⟨h1.above w',h2.above w',is,h3.above w',h4,λq r x hr hx=>by
  obtain⟨a1,a2,a3,a4⟩:=h5 q r x hr hx;exact⟨a1,a2,a3,a4.above w'⟩,h6⟩
end
def jA (n:Nat):PSt:=⟨[⟨1,true,[],{ data:=#[]}⟩],[],List.replicate n 0⟩
theorem xF {α:Type} (f:α->Value) (z:α) (n:Nat):madeCells #[f z] n=((List.replicate n z).map f).toArray:=by apply Array.toList_inj.1;rw[toList_madeCells_one];simp
theorem RowAt.of_blk1 {w:World} {b:Nat} {t:TypeId} (xs:List Int) (cap:Nat) (h:Blk w b (xs.map λx=>Value.int .i64 x).toArray t) (hm:xs.length<=maxLen):RowAt w 1 (.slice (some ⟨b,0,none⟩) xs.length cap) (xs.map aK):=by
 refine⟨_,_,by rw[lM],by rw[lM];exact hm,λ_=>⟨b,0,rfl,h.lt.lt,λq cs hq t u hu=>?_⟩⟩;rw[gM]at hq;obtain⟨x,hx,rfl⟩:=Option.map_eq_some_iff.1 hq;rcases t with _|t
 .simp only[aK,zH,zF]at hu;subst hu;rw[h.cell];simp[hx]
 simp[aK]at hu
theorem aUL (n:Nat) (h1:1<=n) (h8:n<=8) (w:World):
 Calls Tryz.prog 51 #[.int .i64 n] w λe w'=>∃iv ov mv,e=.returned (.tuple #[.agg #[iv,ov,mv],.int .i64 0])/\Below w.heap.size w w'/\StRead w' iv ov mv (jA n):=by
 obtain⟨i0,hi,hz0,hz1,hz2⟩:=info_parts uQ;have a1:∀u:World,(Instr.makeSlice 24 (.int .i64 n) (.int .i64 n)).run Tryz.prog u=.ok (.slice (some ⟨u.heap.size,0,none⟩) n n) (u.alloc (.cells ((List.replicate n (0:Int)).map λx=>Value.int .i64 x).toArray 3)):=λu=>by have:=run_makeSlice (P:=Tryz.prog) u 24 3 i0 _ Tryz.underlying24 hi hz0 .i64 .i64 n n (by omega) (Int.le_refl _) (by rw[hz1];omega) (by rw[hz2];omega) (by omega);rw[<-xF (λx=>Value.int .i64 x)];simpa[hz1,Value.cells]using this
 have g1:¬(n:Int)<1:=by omega
 have g2:¬(8:Int)<n:=by omega
 go_enter Tryz.func51,Tryz.ntmps51;go_wp2_with fail;refine xB (v:=.tuple #[.agg #[.slice (some ⟨w.heap.size+1,0,none⟩) 1 1,.slice none 0 0,.slice (some ⟨w.heap.size+1+1,0,none⟩) n n],.int .i64 0]) (by unfold results;simp only[Tryz.results51];go_simp) rfl ⟨_,_,_,rfl,bel _ _,?_,?_,[⟨1,true,.slice none 0 0,{ data:=#[]},rfl⟩],?_,rfl,?_⟩
 .exact⟨none,0,rfl,by simp[jA],λh=>absurd h (by simp[jA])⟩
 .have a0:Blk (((w.alloc (.cells #[.slice (some ⟨w.heap.size+1,0,none⟩) 1 1,.slice none 0 0,.slice (some ⟨w.heap.size+1+1,0,none⟩) n n] 26)).alloc (.cells #[.int .i64 1,.bool true,.slice none 0 0,.string { data:=#[]}] 68)).alloc (.cells (Array.replicate n (.int .i64 0)) 3)) (w.heap.size+1+1) (Array.replicate n (.int .i64 0)) 3:=Blk.new_i ((w.alloc (.cells #[.slice (some ⟨w.heap.size+1,0,none⟩) 1 1,.slice none 0 0,.slice (some ⟨w.heap.size+1+1,0,none⟩) n n] 26)).alloc (.cells #[.int .i64 1,.bool true,.slice none 0 0,.string { data:=#[]}] 68)) _ _ _;have:=RowAt.of_blk1 (b:=w.heap.size+1+1) (t:=3) (List.replicate n (0:Int)) n (by simpa using a0) (by rw[yP];unfold maxLen;omega);rw[yP]at this;exact this
 .refine⟨_,_,rfl,by unfold maxLen;simp,λ_=>⟨w.heap.size+1,0,rfl,by simp,λq cs hq t u hu=>?_⟩⟩;rcases q with _|q
  .simp only[yZ,List.map_nil,zH,zF]at hq;subst hq;have hb:Blk ((((w.alloc (.cells #[.slice (some ⟨w.heap.size+1,0,none⟩) 1 1,.slice none 0 0,.slice (some ⟨w.heap.size+1+1,0,none⟩) n n] 26)).alloc (.cells #[.int .i64 1,.bool true,.slice none 0 0,.string { data:=#[]}] 68))).alloc (.cells ((List.replicate n (0:Int)).map λx=>Value.int .i64 x).toArray 3)) (w.heap.size+1) #[.int .i64 1,.bool true,.slice none 0 0,.string { data:=#[]}] 68:=(Blk.new_i (w.alloc (.cells #[.slice (some ⟨w.heap.size+1,0,none⟩) 1 1,.slice none 0 0,.slice (some ⟨w.heap.size+1+1,0,none⟩) n n] 26)) _ _ _).alloc _;have:=(hb.cell t).trans (by simpa[IRec.cells]using hu);simpa using this
  simp at hq
 intro q r x hr hx;rcases q with _|q
 .cases hr;cases hx;exact⟨rfl,rfl,rfl,⟨none,0,rfl,by simp,λh=>absurd h (by simp)⟩⟩
 simp at hr
section
def fS (n:Int) (x:PIn):List PEnt->Nat
 |[]=>0
 |e::r=>(if (x.dir&&(e.num==n))=true then 1 else 0)+fS n x r
def jS (n:Int):List PIn->Nat
 |[]=>0
 |x::r=>fS n x x.ents+jS n r
def dM (S:PSt) (n:Int):Nat:=jS n S.ins
theorem aDB (n:Int) (x:PIn):∀es,fS n x es<=es.length
 |[]=>zC _
 | e::r=>by
   have:=aDB n x r;unfold fS;split<;>simp<;>omega
theorem aDC (n:Int):∀xs:List PIn,(∀x∈xs,x.ents.length<=1000000000)->jS n xs<=xs.length*1000000000
 |[],_=>zC _
 | x::r,h=>by have h1:=aDC n r (λy hy=>h y (zL _ hy));have h2:=aDB n x x.ents;have h3:=h x zQ;unfold jS;simp only[zK];omega
theorem aKW {S:PSt} (h:S.wf) (n:Int):dM S n<=1000000000000000000:=by have h1:=aDC n S.ins (λx hx=>(h.2.2.2.1 x hx).2.1);have h2:=h.1;have h3:S.ins.length*1000000000<=1000000000*1000000000:=Nat.mul_le_mul_right _ h2;unfold dM;omega
variable {n:Int} {q:Nat} {z:PIn}
theorem aFW {xs:List PIn} (h:xs[q]? =some z):jS n (xs.drop q)=fS n z z.ents+jS n (xs.drop (q+1)):=by rw[bY h];rfl
theorem aFX {x:PIn} {es:List PEnt} {z:PEnt} (h:es[q]? =some z):fS n x (es.drop q)=(if (x.dir&&(z.num==n))=true then 1 else 0)+fS n x (es.drop (q+1)):=by rw[bY h];rfl
theorem aHT (iv ov mv:Value) (S:PSt) (n:Int) (w:World) (h:StRead w iv ov mv S) (hwf:S.wf):
 vR w 181 #[.agg #[iv,ov,mv],.int .i64 n] (.int .i64 (dM S n)):=by
 have a5:=h.1.one;have a6:=h.2.1.one;obtain⟨ai,capi,rfl,hati⟩:=h.ins_at2;have HI:=aG hati;have a3:=aKW hwf n;have a4:=hwf.1;unfold dM at *;obtain⟨N,hN⟩:∃N,jS n S.ins=N:=⟨_,rfl⟩;rw[hN]at a3 |-;have HN:=aG hN;have HW:=aG hwf.2.2.2.1;clear h hati hN hwf;go_enter Tryz.func181,Tryz.ntmps181;go_wp2_with fail
 go_loopw[5,13] (λvn vi wr=>∃(q a:Nat),vi=.int .i64 q/\vn=.int .i64 a/\q<=S.ins.length/\a+jS n (S.ins.drop q)=N/\Below w.heap.size w wr) (λ_ vi _=>(S.ins.length-intOf vi).toNat)
 case atStart=>exact⟨0,0,rfl,rfl,by omega,by simpa using HN.out,bel _ _⟩
 obtain⟨q,a,rfl,rfl,hq,hre,hb⟩:=hrel
 rename World=>wo
 have iB:Bel w wo:=⟨hb⟩;by_cases hlt:q<S.ins.length
 .obtain⟨z,hz⟩:∃z,S.ins[q]? =some z:=⟨_,gE hlt⟩
  rw[aFW hz]at hre;obtain⟨bi,off,ev1,rfl,iG0,ho1,hev,hcl⟩:=HI.out q z hz;obtain⟨iGr,y0,y1,y2,y3⟩:=hcl wo hb;obtain⟨ae,ce,rfl,hat⟩:=hev.at_;rw[lM]at y2;have HE:=aG hat;have a7:=(HW.out z (mG hz)).2.1;have HR:=aG hre;clear hat hev hz hre hcl;go_wp2_with fail
  go_loopw[5,20] (λvn vi w2=>∃(k a2:Nat),vi=.int .i64 k/\vn=.int .i64 a2/\k<=z.ents.length/\a2+fS n z (z.ents.drop k)=a+fS n z z.ents/\Below wo.heap.size wo w2/\Blk w2 wo.heap.size #[.int .i64 z.num,.bool z.dir,.slice ae z.ents.length ce,.string z.data] 68) (λ_ vi _=>(z.ents.length-intOf vi).toNat)
  case atStart=>exact⟨0,a,rfl,rfl,by omega,rfl,bel _ _,Blk.new _ _ _⟩
  obtain⟨k,a2,rfl,rfl,hk,hre2,hb2,hblk⟩:=hrel;have a1:Bel w wr:=⟨hb.trans (hb2.mono hb.size)⟩;have a8:Bel wo wr:=⟨hb2⟩;have z0:=hblk.cell 1;have iK:=hblk.lt;have HK:=aG hblk;by_cases hlk:k<z.ents.length
  .obtain⟨e,he⟩:∃e,z.ents[k]? =some e:=⟨_,gE hlk⟩
   rw[aFX he]at hre2;obtain⟨be,offe,rfl,iE0,iE,hce⟩:=HE.out wr a1.below k e.cells (by rw[gM,he];rfl);have e0:=hce 0 _ rfl;have e1:=hce 1 _ rfl;rw[zN]at e0;have a9:a2+1<=1000000000000000001:=by have:=HR.out;omega
   have ew:wrap64 ((a2:Int)+1)=(a2:Int)+1:=by simp only[wrap64];omega
   generalize hd:z.dir=dd at *;generalize hg:(e.num==n)=gg at hre2;have a0:=aG hre2;clear hre2 hce he hblk;rcases dd with _|_<;>rcases gg with _|_
   .go_wp2_with fail
    go_roundw
    case rel=>exact⟨k+1,a2,by go_num,rfl,by omega,by have:=a0.out;simpa using this,bel _ _,(HK.out.alloc _)⟩
    simp[intOf];omega
   .go_wp2_with fail
    go_roundw
    case rel=>exact⟨k+1,a2,by go_num,rfl,by omega,by have:=a0.out;simpa using this,bel _ _,(HK.out.alloc _)⟩
    simp[intOf];omega
   .go_wp2_with fail
    go_roundw
    case rel=>exact⟨k+1,a2,by go_num,rfl,by omega,by have:=a0.out;simpa using this,bel _ _,(HK.out.alloc _)⟩
    simp[intOf];omega
   go_wp2_with fail;go_roundw
   case rel=>exact⟨k+1,a2+1,by go_num,by go_num,by omega,by have:=a0.out;simp at this;omega,bel _ _,(HK.out.alloc _)⟩
   simp[intOf];omega
  rw[zS (by omega)]at hre2;clear hblk;go_wp2_with fail;go_roundw
  case rel=>exact⟨q+1,a2,by go_num,rfl,by omega,by have:=HR.out;have e:a2+fS n z []=_:=hre2;simp only[fS]at e;omega,a1.below⟩
  simp[intOf];omega
 rw[zS (by omega)]at hre;have e:a=N:=by simpa[jS]using hre
 clear hre;subst e;go_wp2_with fail;go_ret;exact⟨rfl,bel _ _⟩
end
def lI (n:Int) (x:PIn):Bool:=x.num==n
def aOU (S:PSt):Nat->Int->Bool
 |0,_=>false
 | f+1,n=>decide (0<=cG (lI n) S.ins)&&match S.ins[(cG (lI n) S.ins).toNat]? with
   |none=>false
   |some x=>!x.dir||x.ents.all (λe=>aOU S f e.num)
def rH (S:PSt) (ns:List ByteArray) (num:Int) (q:Nat):Bool:=match S.ins[(aL S 0 (ns.take q)).1]? with
 |some x=>x.num==num
 |none=>false
def gR (S:PSt) (ns:List ByteArray) (num:Int):Bool:=(List.range ns.length).any (rH S ns num)
theorem aLD {α:Type} {F:α->Bool} {zs:List α} {q:Nat} {z:α} (h:zs[q]? =some z):(zs.drop q).any F=(F z||(zs.drop (q+1)).any F):=by rw[bY h];rfl
theorem RowAt.pre {w:World} {k n cap:Nat} {a:Option Addr} {rows:List (List Value)} (h:RowAt w k (.slice a n cap) rows) (q:Nat) (hq:q<=rows.length):RowAt w k (.slice a q cap) (rows.take q):=by
 obtain⟨a',cap',he,hm,hr⟩:=h;simp only[zO]at he;obtain⟨rfl,rfl,rfl⟩:=he;have hl:(rows.take q).length=q:=by rw[zU];omega
 refine⟨a,cap,by rw[hl],by omega,λh0=>?_⟩;obtain⟨b,off,e2,hlt,hc⟩:=hr (by omega);refine⟨b,off,e2,hlt,λp cs hp=>?_⟩;rw[yO]at hp;split at hp
 .exact hc p cs hp
 cases hp
theorem uN (d b:Nat) (S:PSt) (c:PCall) (s:ByteArray) (num:Int) (w:World) (h:DR w d b S c) (hf:Fine S) (hp:(aA s).1=0) (hpl:(aA s).2.length<=1000000000):
 vR w 188 #[.pointer (some ⟨d,0,none⟩),.string s,.int .i64 num] (.bool (gR S (aA s).2 num)):=by
 have a5:∀ww,Calls Tryz.prog 198 #[.string s] ww λe w'=>∃v,e=.returned v/\Below ww.heap.size ww w'/\OwnP 0 w' 9 1 v ((aA s).2.map λn=>[.string n]):=λww=>wP s ww hp;generalize(aA s).2=ns at a5 hpl |-;have a7:∀ww v q,Below w.heap.size w ww->RowAt ww 1 v ((ns.take q).map λn=>[.string n])->Calls Tryz.prog 191 #[.pointer (some ⟨b,0,none⟩),v] ww _:=λww v q hb hv=>sM b S (ns.take q) v ww (h.sp.below hb (zC _)) hf.wf hf.pos hf.find hv (by rw[zU];omega);have b0:=λq=>eT hf (ns.take q) 0 hf.pos;have d0:=h.d0;have iD:BlockLt d w:=⟨h.lt⟩;obtain⟨hl,iv,ov,mv,c0,c1,c2,hr⟩:=h.sp;have iB:BlockLt b w:=⟨hl⟩;obtain⟨ai,capi,rfl,hati⟩:=hr.ins_at2;have HI:=aG hati;clear h hf hp hr hati c1 c2;unfold gR;obtain⟨R,hR⟩:∃R,(List.range ns.length).any (rH S ns num)=R:=⟨_,rfl⟩;rw[hR];have HR:=aG hR;clear hR;go_enter Tryz.func188,Tryz.ntmps188;go_upto_region 2 with(go_at_call 198;refine(a5 _).mono ?_;rintro e w1 ⟨nv,rfl,hb1,hnm⟩;have a2:=hnm.row;obtain⟨an,cn,rfl,hcn⟩:=hnm.cap;rw[lM]at a2 hcn;have HN:=bB a2 hb1;clear hb1 hnm a2)
 go_wp2_with fail
 go_loopw[15] (λi wr=>∃(q:Nat),i=.int .i64 q/\q<=ns.length/\((List.range ns.length).drop q).any (rH S ns num)=R/\Below w1.heap.size w1 wr) (λi _=>(ns.length-intOf i).toNat)
 case atStart=>exact⟨0,rfl,by omega,HR.out,bel _ _⟩
 obtain⟨q,rfl,hq,a0,hb⟩:=hrel;have a1:Below w.heap.size w wr:=HN.out.2.trans (hb.mono HN.out.2.size);have b4:Bel w wr:=⟨a1⟩;have r0:wr.cell? ⟨d,0,none⟩=some (.pointer (some ⟨b,0,none⟩)):=(a1.cell (p:=⟨d,0,none⟩) iD.lt).trans d0;have s0:wr.cell? ⟨b,0,none⟩=some (.slice ai S.ins.length capi):=(a1.cell (p:=⟨b,0,none⟩) iB.lt).trans c0;have jD:BlockLt d wr:=⟨by have:=a1.size;have:=iD.lt;omega⟩;have jB:BlockLt b wr:=⟨by have:=a1.size;have:=iB.lt;omega⟩;by_cases hltq:q<ns.length
 .have hz:(List.range ns.length)[q]? =some q:=by rw[List.getElem?_range hltq]
  rw[aLD hz]at a0;have a6:RowAt wr 1 (.slice an q cn) ((ns.take q).map λn=>[.string n]):=by have:=(HN.out.1.below hb (zC _)).pre q (by rw[lM];omega);rw[<-List.map_take]at this;exact this
  have a4:∀ww,Below wr.heap.size wr ww->Calls Tryz.prog 191 #[.pointer (some ⟨b,0,none⟩),.slice an q cn] ww _:=λww hb'=>a7 ww _ q (a1.trans (hb'.mono a1.size)) (a6.below hb' (zC _));have a3:=b0 q;have a8:rH S ns num q=(match S.ins[(aL S 0 (ns.take q)).1]? with|some x=>x.num==num|none=>false):=rfl;rw[a8]at a0;obtain⟨⟨K,C⟩,hKC⟩:∃KC,aL S 0 (ns.take q)=KC:=⟨_,rfl⟩;rw[hKC]at a4 a3 a0;simp only at a4 a3 a0;obtain⟨x,hx⟩:∃x,S.ins[K]? =some x:=⟨_,gE a3⟩;rw[hx]at a0;simp only at a0;obtain⟨bi,off,ev,rfl,iG0,ho1,hev,hcl⟩:=HI.out K x hx;obtain⟨iG,y0,y1,y2,y3⟩:=hcl wr a1;have b5:(K:Int)<S.ins.length:=by omega
  have b6:(q:Int)<=ns.length:=by omega
  have b2:(q:Int)<=cn:=by omega
  have a9:q<=cn:=by omega
  clear a6 a7 hcl hev a8 hKC hx hz;have b7:Bel wr wr:=inferInstance;obtain⟨xn,xd,xe,xdat⟩:=x;simp only at y0 a0;generalize hb1:(xn==num)=b1 at a0;rcases b1 with _|_
  .simp only[Bool.false_or]at a0;have b3:=aG a0;clear a0
   go_upto_region 5 with fail;refine bU (by kernel_rfl) (by kernel_rfl) (WQ.out ?_)
   repeat
    refine pM (λK hK=>?_);go_simp
    first
     |(refine hK _ ?_;clear hK K)
     | (apply Exists.intro
        refine⟨λ_=>?_,hK _ ?_⟩
        focus(first|refine cI (a4 _ (bel wr _))|refine cJ (a4 _ (bel wr _)))
        clear hK K)
   refine WN λp=>?_;go_wp2_with fail;go_roundw
   case rel=>exact⟨q+1,by go_num,by omega,b3.out,hb.trans ((bel wr _).mono hb.size)⟩
   simp[intOf];omega
  simp only[Bool.true_or]at a0;subst a0;go_upto_region 5 with fail;refine bU (by kernel_rfl) (by kernel_rfl) (WQ.out ?_)
  repeat
   refine pM (λK hK=>?_);go_simp
   first
    |(refine hK _ ?_;clear hK K)
    | (apply Exists.intro
       refine⟨λ_=>?_,hK _ ?_⟩
       focus(first|refine cI (a4 _ (bel wr _))|refine cJ (a4 _ (bel wr _)))
       clear hK K)
  refine WN λp=>?_;go_wp2_with fail;go_ret;exact⟨rfl,bel w _⟩
 rw[zS (by rw[List.length_range];omega)]at a0;have a0:false=R:=a0;subst a0;go_wp2_with fail;go_ret;exact⟨rfl,a1⟩
end Go.Proofs.YtmkapobnfigedaaGreatDoor
