/- Part of the proof of a law of chapter 15. Conditions: none. -/
import Derived.Test.YtmkapobnfigedaaGreatDoorDl05
import Derived.Test.YtmkapobnfigedaaGreatDoorDl02
import Derived.Test.YtmkapobnfigedaaGreatDoorDl03
set_option linter.unusedVariables false
set_option linter.unusedSimpArgs false
set_option maxRecDepth 100000
set_option maxHeartbeats 8000000
namespace Go.Proofs.YtmkapobnfigedaaGreatDoor
open Go.RowKit
def aQX (c:Int):List PanicEntry:=[{ v:=.iface 132 (.agg #[.int .i64 c]),recovered:=false}]
abbrev bD (c:Int):Ending:=.panicked (aQX c)
theorem aD (c:Int) (w:World):
 vR w 172 #[.bool false,.int .i64 c] (.tuple #[]):=by
 go_enter Tryz.func172,Tryz.ntmps172;go_wp2_with fail;exact xC (v:=.tuple #[]) (by simp[results,go_sem]) rfl ⟨rfl,bel _ _⟩
theorem aO (c:Int) (w:World):
 Calls Tryz.prog 172 #[.bool true,.int .i64 c] w λe w'=>e=bD c/\Below w.heap.size w w':=by
 go_enter Tryz.func172,Tryz.ntmps172;go_wp2_with fail;exact⟨rfl,rfl,Below.refl _ _⟩
theorem uO {w:World} {B n k:Nat} {e:TypeId} {v:Value} {xs:List Value} (h:w.ownsRow B e k v n xs):v.oneCell'=true:=by
 obtain⟨_,⟨rfl,_⟩|⟨g,cap,cur,rfl,_⟩⟩:=h<;>rfl
def aDJ (w:World) (s:ByteArray) (e:Ending) (w':World):Prop:=
 ((aA s).1=0/\∃v,e=.returned v/\Below w.heap.size w w'/\RowAt w' 1 v ((aA s).2.map λn=>[.string n]))\/((aA s).1≠0/\e=bD (dN (aA s).1)/\Below w.heap.size w w')
theorem qD {α β:Type} (f:α->β):∀ns:List α,(ns.map λn=>[f n]).flatten=ns.map f
 |[]=>rfl
 |n::ns=>by simp[qD f ns]
theorem uP (s:ByteArray) (w:World):Calls Tryz.prog 198 #[.string s] w (aDJ w s):=by
 have hp:=tT s w;unfold aDJ;generalize aA s=F at hp |-;obtain⟨c,ns⟩:=F;by_cases h:c=0
 .subst h;have hc:∀ww,Calls Tryz.prog 190 #[.int .i64 0] ww _:=λww=>sH 0 ww
  go_enter Tryz.func198,Tryz.ntmps198;go_wp2_with(first|(go_at_call 153;refine hp.mono ?_;rintro e w1 ⟨v,rfl,hb,hown,hbl⟩;have a0:=uO hown;have iB:Bel w w1:=⟨hb⟩;have HO:=bB hown hb;clear hown hb hbl)|(go_at_call 190;refine aE (hc _) λp=>?_)|(go_at_call 172;refine aE (aD _ _) λp=>?_));go_ret;refine .inl ⟨by simp,_,rfl,bel _ _,?_⟩;have:=(OwnP.of_own (rows:=ns.map λn=>[.string n]) (by rw[lM,qD];exact HO.out.1) (by decide) (by intro cs h;obtain⟨x,_,rfl⟩:=List.mem_map.1 h;rfl)).row;exact this.below (bel w1 _) (zC _)
 have hc:∀ww,Calls Tryz.prog 190 #[.int .i64 c] ww _:=λww=>sH c ww;have a1:(c !=0)=true:=by simpa using h
 generalize hcm:dN c=cm at hc;go_enter Tryz.func198,Tryz.ntmps198;go_wp2_with(first|(go_at_call 153;refine hp.mono ?_;rintro e w1 ⟨v,rfl,hb,hown,hbl⟩;have a0:=uO hown;have iB:Bel w w1:=⟨hb⟩;clear hown hb hbl)|(go_at_call 190;refine aE (hc _) λp=>?_)|(go_at_call 172;refine aE (aO _ _) λp=>?_));exact⟨rfl,.inr ⟨h,rfl,bel _ _⟩⟩
def aL (S:PSt):Nat->List ByteArray->Nat × Int
 |k,[]=>(k,0)
 | k,n::r=>match S.ins[k]? with
   |some x=>if x.dir=true then(if bL x.ents n=true then(match x.ents[cL x.ents n]? with|some e=>aL S (aJ S.nums e.num).toNat r|none=>(0,1))else(0,1))else(0,7)
   |none=>(0,7)
theorem sM (b:Nat) (S:PSt) (ns:List ByteArray) (v:Value) (w:World) (h:SP w b S) (hwf:S.wf) (hpos:0<S.ins.length) (hfind:∀x∈S.ins,∀e∈x.ents,0<=aJ S.nums e.num) (hv:RowAt w 1 v (ns.map λn=>[.string n])) (hlen:ns.length<=1000000000):
 vR w 191 #[.pointer (some ⟨b,0,none⟩),v] (.tuple #[.int .i64 (aL S 0 ns).1,.int .i64 (aL S 0 ns).2]):=by
 have hf:∀ww,Below w.heap.size w ww->∀n,vR ww 102 #[.pointer (some ⟨b,0,none⟩),.int .i64 n] (.int .i64 (aJ S.nums n)):=
  λww hb n=>gT b S n ww (h.below hb (zC _)) hwf
 obtain⟨hl,iv,ov,mv,c0,c1,c2,hr⟩:=h;have ib:BlockLt b w:=⟨hl⟩;have a7:=hwf.1;have a8:=aG hwf.2.2.2.1;obtain⟨ai,capi,rfl,hati⟩:=hr.ins_at2;obtain⟨an,capn,rfl,hatn⟩:=hv.at_;rw[lM];have HI:=aG hati;have HN:=aG hatn;have HF:=aG hfind;clear hr hwf hati hatn hv c1 c2 hfind;obtain⟨RK,RC,hR⟩:∃RK RC,aL S 0 ns=(RK,RC):=⟨_,_,rfl⟩;rw[hR];have HR:=aG hR;clear hR;go_enter Tryz.func191,Tryz.ntmps191;go_wp2_with fail
 go_loopw[6,13] (λat_ i wr=>∃(q k:Nat),at_=.int .i64 k/\i=.int .i64 q/\q<=ns.length/\k<S.ins.length/\aL S k (ns.drop q)=(RK,RC)/\Below w.heap.size w wr) (λ_ i _=>(ns.length-intOf i).toNat)
 case atStart=>exact⟨0,0,rfl,rfl,by omega,hpos,HR.out,bel _ _⟩
 obtain⟨q,k,rfl,rfl,hq,hk,a0,hb⟩:=hrel;have iB:Bel w wr:=⟨hb⟩;have iL:BlockLt b wr:=⟨by have:=hb.size;have:=ib.lt;omega⟩;have b4:wr.cell? ⟨b,0,none⟩=some (.slice ai S.ins.length capi):=(hb.cell (p:=⟨b,0,none⟩) ib.lt).trans c0;by_cases hlt:q<ns.length
 .obtain⟨n,hn⟩:∃n,ns[q]? =some n:=⟨_,gE hlt⟩
  obtain⟨x,hx⟩:∃x,S.ins[k]? =some x:=⟨_,gE hk⟩;rw[bY hn]at a0;unfold aL at a0;rw[hx]at a0;simp only at a0;obtain⟨bn,offn,rfl,iN0,iN,hcn⟩:=HN.out wr hb q [.string n] (by rw[gM,hn];rfl);have n0:=hcn 0 _ rfl;rw[Nat.mul_one,zN]at n0;obtain⟨bi,offi,ev,rfl,iG0,ho1,hev,hcl⟩:=HI.out k x hx;obtain⟨iG,y0,y1,y2,y3⟩:=hcl wr hb;have a9:=(a8.out x (mG hx)).2.1;have a3:=HF.out x (mG hx);have a1:∀ww,Below w.heap.size w ww->Calls Tryz.prog 171 #[ev,.string n] ww _:=λww hww=>mQ x.ents ev n ww (hev.below hww (zC _)) a9;obtain⟨ae,ce,rfl,hat⟩:=hev.at_;rw[lM]at y2 a1;have b5:(q:Int)<ns.length:=by omega
  have b6:(k:Int)<S.ins.length:=by omega
  have HX:=dR hx a3 hat;clear hn hx hcn hcl hev a3 hat;generalize hdir:x.dir=d at y1 a0;rcases d with _|_
  .simp only[zP,if_false,Prod.mk.injEq]at a0;obtain⟨rfl,rfl⟩:=a0;go_wp2_with fail
   go_ret2;exact⟨rfl,bel _ _⟩
  simp only[if_true]at a0;generalize hhit:bL x.ents n=hi at a0 a1;have a2:hi=true->cL x.ents n<x.ents.length:=by intro h;rw[h]at hhit;unfold bL at hhit;simp only[zE,zI]at hhit;exact hhit.1
  generalize cL x.ents n=j at a0 a1 a2;clear hhit hdir;rcases hi with _|_
  .simp only[zP,if_false,Prod.mk.injEq]at a0;obtain⟨rfl,rfl⟩:=a0;go_wp2_with((go_at_call 171;refine aE (a1 _ (bel _ _)) λp=>?_))
   go_ret2;exact⟨rfl,bel _ _⟩
  simp only[if_true]at a0;have b0:=a2 rfl;obtain⟨e,he⟩:∃e,x.ents[j]? =some e:=⟨_,gE b0⟩;rw[he]at a0;simp only at a0;obtain⟨be,offe,rfl,iE0,iE,hce⟩:=HX.out.2.2 wr hb j e.cells (by rw[gM,he];rfl);have e1:=hce 1 _ rfl;have a4:∀ww,Below w.heap.size w ww->Calls Tryz.prog 102 #[.pointer (some ⟨b,0,none⟩),.int .i64 e.num] ww _:=λww hww=>hf ww hww e.num;have a5:=HX.out.2.1 e (mG he);have a6:=cE S.nums e.num;have b1:S.nums.length=S.ins.length:=by unfold PSt.nums;rw[lM]
  generalize aJ S.nums e.num=fv at a4 a5 a6 a0;obtain⟨f,rfl⟩:∃f:Nat,fv=f:=⟨fv.toNat,by omega⟩;rw[zJ]at a0;have b2:f<S.ins.length:=by omega
  have b7:(j:Int)<x.ents.length:=by omega
  have b3:=aG a0;clear a0 hce he a2 a5 a6 b1;go_wp2_with(first|(go_at_call 171;refine aE (a1 _ (bel _ _)) λp=>?_)|(go_at_call 102;refine aE (a4 _ (bel _ _)) λp=>?_));go_roundw
  case rel=>exact⟨q+1,f,rfl,by go_num,by omega,b2,b3.out,bel _ _⟩
  simp[intOf];omega
 rw[zS (by omega)]at a0;have a0:(k,(0:Int))=(RK,RC):=a0;simp only[Prod.mk.injEq]at a0;obtain⟨rfl,rfl⟩:=a0;go_wp2_with fail
 go_ret2;exact⟨rfl,bel _ _⟩
end Go.Proofs.YtmkapobnfigedaaGreatDoor
