/- A part of a proof of a law. Conditions: none. -/
import Derived.Test.YtmkapobnfigedaaGreatDoorDk02
import Derived.Test.YtmkapobnfigedaaGreatDoorDk03
import Derived.Test.YtmkapobnfigedaaGreatDoorDk04
set_option linter.unusedVariables false
set_option linter.unusedSimpArgs false
set_option maxRecDepth 100000
set_option maxHeartbeats 8000000
namespace Go.Proofs.YtmkapobnfigedaaGreatDoor
open Go.Proofs.Tryz List Go.RowKit
section
theorem nJ (ns:List Int):∀(es:List PEnt) (prev:Option ByteArray) (sl:List Int),eY ns prev sl es=true->∀e∈es,0<=aJ ns e.num
 |[],_,_,_,e,he=>by simp at he
 | x ::es,prev,sl,h,e,he=>by
   unfold eY at h;split at h
   .simp at h
   split at h
   .simp at h
   split at h
   .simp at h
   split at h
   .simp at h
   rename_i h4;rcases mem_cons.1 he with rfl|he
   .omega
   split at h
   .split at h
    .simp at h
    exact nJ ns es _ _ h e he
   simp at h
variable {S:PSt} {made:List Int}
theorem uL (h:dR S=true):∀x∈S.ins,∀e∈x.ents,0<=aJ S.nums e.num:=by
 unfold dR at h;split at h
 .simp at h
 split at h
 .split at h
  .simp only[zE,yY]at h;intro x hx e he;have:=h.2 x hx;unfold inB at this
   split at this
   .simp only[zE]at this;exact nJ _ _ _ _ this.2 e he
   simp only[zE,zI]at this;rw[zT this.1]at he;simp at he
  simp at h
 simp at h
theorem aBY {n:Int} (h:dH made n=true) (h8:made.length<=8) (hm:∀m∈made,m<=32):2<=n/\n<=257:=by
 unfold dH at h;split at h
 .simp at h
 rename_i h2;split at h
 .rename_i m hm'
  have:=hm m (mG hm');simp only[zI]at h;omega
 simp at h
theorem aBZ (h8:made.length<=8) (hm:∀m∈made,m<=32):∀(l:List Int) (p:Int),nN made p l=true->p<=257->p+l.length<=257
 |[],p,_,hp=>by simpa using hp
 | n::l,p,h,hp=>by
   unfold nN at h;split at h
   .simp at h
   rename_i h1;split at h
   .simp at h
   rename_i h2;have hn:dH made n=true:=by simpa using h2
   have:=aBZ h8 hm l n h (aBY hn h8 hm).2;simp only[zK];omega
theorem aDZ (h1:dP S.made=true) (h2:dR S=true):0<S.ins.length/\S.ins.length<=257:=by
 unfold dP at h1;simp only[zE,yL,yV,yW]at h1;have hm:∀m∈S.made,m<=32:=by intro m hm;have h3:=h1.2;rw[any_eq_false]at h3;have:=h3 m hm;unfold eA at this;simp at this;omega
 unfold dR at h2;split at h2
 .simp at h2
 rename_i x r hins;split at h2
 .split at h2
  .simp only[zE]at h2;have:=aBZ (by omega) hm _ _ h2.1 (by omega);rw[hins];simp only[zK,lM]at this |-;omega
  simp at h2
 simp at h2
def eE (many:List Int) (found:List Bool) (op:List PDesc):Nat->List PIn->Bool
 |_,[]=>true
 | i,x::r=>if i=0 then eE many found op (i+1) r else
   if(x.dir&&(!(many.getD i 0==1)||!found.getD i false))=true then false else
   if(!x.dir&&(!found.getD i false&&(decide (0<many.getD i 0)||!mR op x.num)))=true then false else eE many found op (i+1) r
def cS (S:PSt):Bool:=if(dP S.made&&dR S&&pB S)=true then eE (fB S) (eG S) S.op 0 S.ins else false
theorem aLH (ns:List Int) (ins:List PIn):∀b td fd,(bfs ns ins b td fd).length=fd.length
 |0,_,_=>rfl
 |_+1,[],_=>rfl
 | b+1,k::td,fd=>by show(bfs ns ins b (cZ ns (td,fd) (match ins[k]? with|some x=>x.ents|none=>[])).1 (cZ ns (td,fd) (match ins[k]? with|some x=>x.ents|none=>[])).2).length=_;rw[aLH,aCN]
theorem aIQ (S:PSt):(fB S).length=S.ins.length:=by unfold fB;rw[aOO];simp
theorem aFY (S:PSt):(eG S).length=S.ins.length:=by unfold eG;rw[aLH];simp
theorem StRead.box {w:World} {iv ov mv:Value} (h:StRead w iv ov mv S) (t:TypeId):SP (w.alloc (.cells #[iv,ov,mv] t)) w.heap.size S:=
 ⟨by simp,iv,ov,mv,by go_simp,by go_simp,by go_simp,h.below ((Below.refl _ _).alloc (zC _) _) (zC _)⟩
theorem aFZ (iv ov mv:Value) (S:PSt) (w:World) (h:StRead w iv ov mv S) (hwf:S.wf):
 vR w 39 #[.agg #[iv,ov,mv]] (.bool (cS S)):=by
 have a0:=h.box 26;have H1:∀ww,Below (w.alloc (.cells #[iv,ov,mv] 26)).heap.size (w.alloc (.cells #[iv,ov,mv] 26)) ww->Calls prog 68 #[.pointer w.heap.size] ww _:=λww hb=>aPN _ S ww (a0.below hb (zC _)) hwf;have H2:∀ww,Below (w.alloc (.cells #[iv,ov,mv] 26)).heap.size (w.alloc (.cells #[iv,ov,mv] 26)) ww->Calls prog 69 #[.pointer w.heap.size] ww _:=λww hb=>aRH _ S ww (a0.below hb (zC _)) hwf;have H3:∀ww,Below (w.alloc (.cells #[iv,ov,mv] 26)).heap.size (w.alloc (.cells #[iv,ov,mv] 26)) ww->Calls prog 70 #[.pointer w.heap.size] ww _:=λww hb=>aOA _ S ww (a0.below hb (zC _)) hwf;have H4:dP S.made=true->dR S=true->∀ww,Below (w.alloc (.cells #[iv,ov,mv] 26)).heap.size (w.alloc (.cells #[iv,ov,mv] 26)) ww->Calls prog 71 #[.pointer w.heap.size] ww λe w'=>∃mv fv,e=.returned (.tuple #[mv,fv])/\Bl ww w'/\RowAt w' 1 mv ((fB S).map aL)/\RowAt w' 1 fv ((eG S).map bS):=
  λh1 h2 ww hb=>aOQ _ S ww (a0.below hb (zC _)) hwf (aDZ h1 h2).1 (by have:=(aDZ h1 h2).2;omega) (uL h2)
 have h1:=h.1.one;have h2:=h.2.1.one;have h3:iv.oneCell'=true:=by obtain⟨_,_,_,h3,_⟩:=h;exact h3.one
 have HL:=bG (aIQ S) (aFY S);unfold cS;generalize hm1:dP S.made=m1 at *;generalize hm2:dR S=m2 at *;generalize pB S=m3 at *;rcases m1 with _|_
 .clear a0 h hwf H2 H3 H4
  unfold vR;go_in;go_wp2_with((go_at_call 68;refine aE (H1 _ (bel (w.alloc (.cells #[iv,ov,mv] 26)) _)) λp=>?_));go_ret;exact⟨rfl,bel _ _⟩
 rcases m2 with _|_
 .clear a0 h hwf H3 H4
  unfold vR;go_in;go_wp2_with(first|(go_at_call 68;refine aE (H1 _ (bel (w.alloc (.cells #[iv,ov,mv] 26)) _)) λp=>?_)|(go_at_call 69;refine aE (H2 _ (bel (w.alloc (.cells #[iv,ov,mv] 26)) _)) λp=>?_));go_ret;exact⟨rfl,bel _ _⟩
 rcases m3 with _|_
 .clear a0 h hwf H4
  unfold vR;go_in;go_wp2_with(first|(go_at_call 68;refine aE (H1 _ (bel (w.alloc (.cells #[iv,ov,mv] 26)) _)) λp=>?_)|(go_at_call 69;refine aE (H2 _ (bel (w.alloc (.cells #[iv,ov,mv] 26)) _)) λp=>?_)|(go_at_call 70;refine aE (H3 _ (bel (w.alloc (.cells #[iv,ov,mv] 26)) _)) λp=>?_));go_ret;exact⟨rfl,bel _ _⟩
 simp only[Bool.and_self,if_true];have H5:∀ww,Below (w.alloc (.cells #[iv,ov,mv] 26)).heap.size (w.alloc (.cells #[iv,ov,mv] 26)) ww->∀n,vR ww 72 #[.pointer w.heap.size,.int .i64 n] (.bool (mR S.op n)):=λww hb n=>aSQ _ S n ww (a0.below hb (zC _)) hwf;have h4:=H4 rfl rfl;have a7:=hwf.1;have HB:=aC h;clear H4 h hwf hm1 hm2;obtain⟨R,hR⟩:∃R,eE (fB S) (eG S) S.op 0 S.ins=R:=⟨_,rfl⟩;rw[hR];have HR:=aC hR;clear hR;unfold vR;go_in;go_wp2_with(first|(go_at_call 68;refine aE (H1 _ (bel (w.alloc (.cells #[iv,ov,mv] 26)) _)) λp=>?_)|(go_at_call 69;refine aE (H2 _ (bel (w.alloc (.cells #[iv,ov,mv] 26)) _)) λp=>?_)|(go_at_call 70;refine aE (H3 _ (bel (w.alloc (.cells #[iv,ov,mv] 26)) _)) λp=>?_)|(go_at_call 71;refine(h4 _ (bel (w.alloc (.cells #[iv,ov,mv] 26)) _)).mono ?_;rintro e wz ⟨mv',fv',rfl,hbz,hr1,hr2⟩;have a1:=(bel (w.alloc (.cells #[iv,ov,mv] 26)) _).trans (hbz.mono (bel (w.alloc (.cells #[iv,ov,mv] 26)) _).size);have a4:Bl w wz:=((Below.refl _ _).alloc (zC _) _).trans (a1.mono (by simp));obtain⟨hlz,ivz,ovz,mvz,z0,z1,z2,hrz⟩:=a0.below a1 (zC _);obtain⟨ai,capi,rfl,hati⟩:=hrz.ins_at2;have HI:=eK hati a1 a4;obtain⟨am,cm,rfl,hmat⟩:=hr1.at_;obtain⟨af,cf,rfl,hfat⟩:=hr2.at_;have HM:=bG hmat hfat;rw[lM,lM,HL.out.1,HL.out.2];clear hbz a1 hrz hati hr1 hr2 hmat hfat a4 z1 z2;have iZ:BlockLt w.heap.size wz:=⟨hlz⟩))
 go_loopw[24] (λi wr=>∃(q:Nat),i=.int .i64 q/\q<=S.ins.length/\eE (fB S) (eG S) S.op q (S.ins.drop q)=R/\Bl wz wr) (λi _=>(S.ins.length-intOf i).toNat)
 case atStart=>exact⟨0,rfl,by omega,HR.out,bel _ _⟩
 obtain⟨q,rfl,hq,hre,hbr⟩:=hrel;have b1:Bel wz wr:=⟨hbr⟩;have a4:Bl w wr:=HI.out.2.2.trans (hbr.mono HI.out.2.2.size);have b2:Bel w wr:=⟨a4⟩;have b3:BlockLt w.heap.size wr:=⟨by have:=hbr.size;have:=iZ.lt;omega⟩;by_cases hlt:q<S.ins.length
 .obtain ⟨x,hx⟩:∃x,S.ins[q]? =some x:=⟨_,gE hlt⟩
  rw[cO hx]at hre;unfold eE at hre;obtain⟨bi,offi,ev1,rfl,iG0,ho1,hev,hcl⟩:=HI.out.1 q x hx;obtain⟨iGr,y0,y1,y2,y3⟩:=hcl wr hbr;obtain⟨mq,hmq⟩:∃mq,(fB S)[q]? =some mq:=⟨_,gE (by have:=HL.out.1;omega)⟩;obtain⟨fq,hfq⟩:∃fq,(eG S)[q]? =some fq:=⟨_,gE (by have:=HL.out.2;omega)⟩;obtain⟨bm,offm,rfl,iM0,iMr,hcm⟩:=HM.out.1 wr hbr q (aL mq) (by rw[gM,hmq];rfl);obtain⟨bf,offf,rfl,iF0,iFr,hcf⟩:=HM.out.2 wr hbr q (bS fq) (by rw[gM,hfq];rfl);have m0:=hcm 0 _ rfl;have f0:=hcf 0 _ rfl;rw[Nat.mul_one,zN]at m0 f0;rw[zG,zG,hmq,hfq,Option.getD_some,Option.getD_some]at hre;have a5:∀ww,Bl wr ww->Calls prog 72 #[.pointer w.heap.size,x.num] ww _:=λww hww=>H5 ww (HI.out.2.1.trans ((hbr.trans (hww.mono hbr.size)).mono HI.out.2.1.size)) x.num;generalize mR S.op x.num=ob at a5 hre;have a8:(q:Int)<S.ins.length:=by omega
  obtain⟨ae,ce,rfl,-⟩:=hev;rw[lM]at y2;clear hx hcl hcm hcf hmq hfq H5 H1 H2 H3 h4 a0;by_cases hq0:q=0
  .have a6:(q:Int)=0:=by omega
   rw[zB hq0]at hre;have a2:=aC hre;clear hre a8 a6;subst hq0;simp only[Nat.zero_mul,zN]at y0 y1 y2 y3;go_wp2;go_roundw
   case rel=>exact⟨1,rfl,by omega,a2.out,bel _ _⟩
   simp[intOf];omega
  rw [zA hq0]at hre;have b4:((q:Int)==0)=false:=by simpa using hq0
  have a9:(q==0)=false:=by simpa using hq0
  generalize x.dir=d at hre y1;rcases d with _|_
  .simp only[yJ,zP,if_false,Bool.not_false,xC]at hre;rcases fq with _|_
   .simp only[Bool.not_false,xC]at hre;by_cases hm:0<mq
    .have a3:decide (0<mq)=true:=decide_eq_true hm;rw[a3]at hre;simp only[Bool.true_or,if_true]at hre;subst hre;go_wp2;go_ret;exact⟨rfl,bel _ _⟩
    have a3:decide (0<mq)=false:=yM hm;rw[a3,Bool.false_or]at hre;rcases ob with _|_
    .simp only[Bool.not_false,if_true]at hre;subst hre;go_wp2_with((go_at_call 72;refine aE (a5 _ (bel _ _)) λp=>?_))
     go_ret;exact⟨rfl,bel _ _⟩
    simp only[Bool.not_true,zP,if_false]at hre;have a2:=aC hre;clear hre;go_wp2_with((go_at_call 72;refine aE (a5 _ (bel _ _)) λp=>?_));go_roundw
    case rel=>exact⟨q+1,by go_num,by omega,a2.out,bel _ _⟩
    simp[intOf];omega
   simp only[Bool.not_true,yJ,zP,if_false]at hre;have a2:=aC hre;clear hre;go_wp2;go_roundw
   case rel=>exact⟨q+1,by go_num,by omega,a2.out,bel _ _⟩
   simp[intOf];omega
  simp only[xC,Bool.not_true,yJ,zP,if_false]at hre;by_cases hm:mq=1
  .have a3:(mq==1)=true:=by simpa using hm
   rw[a3]at hre;rcases fq with _|_
   .simp only[Bool.not_true,Bool.not_false,Bool.false_or,if_true]at hre;subst hre;subst hm;go_wp2;go_ret;exact⟨rfl,bel _ _⟩
   simp only[Bool.not_true,Bool.false_or,zP,if_false]at hre;have a2:=aC hre;clear hre;subst hm;go_wp2;go_roundw
   case rel=>exact⟨q+1,by go_num,by omega,a2.out,bel _ _⟩
   simp[intOf];omega
  have a3:(mq==1)=false:=by simpa using hm
  rw[a3]at hre;simp only[Bool.not_false,Bool.true_or,if_true]at hre;subst hre;go_wp2;go_ret;exact⟨rfl,bel _ _⟩
 rw[zS (by omega)]at hre;have b0:R=true:=by rw[<-hre];rfl
 subst b0;clear hre;go_wp2;go_ret;exact⟨rfl,bel _ _⟩
end
def aK (S:PSt):Nat->List ByteArray->Nat × Int
 |k,[]=>(k,0)
 | k,n::r=>match S.ins[k]? with
   |some x=>if x.dir=true then(if bR x.ents n=true then(match x.ents[cY x.ents n]? with|some e=>aK S (aJ S.nums e.num).toNat r|none=>(0,1))else(0,1))else(0,7)
   |none=>(0,7)
theorem vJ (b:Nat) (S:PSt) (ns:List ByteArray) (v:Value) (w:World) (h:SP w b S) (hwf:S.wf) (hpos:0<S.ins.length) (hfind:∀x∈S.ins,∀e∈x.ents,0<=aJ S.nums e.num) (hv:RowAt w 1 v (ns.map λn=>[.string n])) (hlen:ns.length<=1000000000):
 vR w 191 #[.pointer b,v] (.tuple #[.int .i64 (aK S 0 ns).1,.int .i64 (aK S 0 ns).2]):=by
 have hf:∀ww,Bl w ww->∀n,vR ww 102 #[.pointer b,.int .i64 n] (.int .i64 (aJ S.nums n)):=
  λww hb n=>jM b S n ww (h.below hb (zC _)) hwf
 obtain⟨hl,iv,ov,mv,c0,c1,c2,hr⟩:=h;have ib:BlockLt b w:=⟨hl⟩;have a7:=hwf.1;have a8:=aC hwf.2.2.2.1;obtain⟨ai,capi,rfl,hati⟩:=hr.ins_at2;obtain⟨an,capn,rfl,hatn⟩:=hv.at_;rw[lM];have HI:=aC hati;have HN:=aC hatn;have HF:=aC hfind;clear hr hwf hati hatn hv c1 c2 hfind;obtain⟨RK,RC,hR⟩:∃RK RC,aK S 0 ns=(RK,RC):=⟨_,_,rfl⟩;rw[hR];have HR:=aC hR;clear hR;unfold vR;go_in;go_wp2
 go_loopw[6,13] (λat_ i wr=>∃(q k:Nat),at_=.int .i64 k/\i=.int .i64 q/\q<=ns.length/\k<S.ins.length/\aK S k (ns.drop q)=(RK,RC)/\Bl w wr) (λ_ i _=>(ns.length-intOf i).toNat)
 case atStart=>exact⟨0,0,rfl,rfl,by omega,hpos,HR.out,bel _ _⟩
 obtain⟨q,k,rfl,rfl,hq,hk,a0,hb⟩:=hrel;have iB:Bel w wr:=⟨hb⟩;have iL:BlockLt b wr:=⟨by have:=hb.size;have:=ib.lt;omega⟩;have b4:wr.cell? b=some (.slice ai S.ins.length capi):=(hb.cell (p:=b) ib.lt).trans c0;by_cases hlt:q<ns.length
 .obtain⟨n,hn⟩:∃n,ns[q]? =some n:=⟨_,gE hlt⟩
  obtain⟨x,hx⟩:∃x,S.ins[k]? =some x:=⟨_,gE hk⟩;rw[cO hn]at a0;unfold aK at a0;rw[hx]at a0;simp only at a0;obtain⟨bn,offn,rfl,iN0,iN,hcn⟩:=HN.out wr hb q [.string n] (by rw[gM,hn];rfl);have n0:=hcn 0 _ rfl;rw[Nat.mul_one,zN]at n0;obtain⟨bi,offi,ev,rfl,iG0,ho1,hev,hcl⟩:=HI.out k x hx;obtain⟨iG,y0,y1,y2,y3⟩:=hcl wr hb;have a9:=(a8.out x (mG hx)).2.1;have a3:=HF.out x (mG hx);have a1:∀ww,Bl w ww->Calls prog 171 #[ev,n] ww _:=λww hww=>oJ x.ents ev n ww (hev.below hww (zC _)) a9;obtain⟨ae,ce,rfl,hat⟩:=hev.at_;rw[lM]at y2 a1;have b5:(q:Int)<ns.length:=by omega
  have b6:(k:Int)<S.ins.length:=by omega
  have HX:=eK hx a3 hat;clear hn hx hcn hcl hev a3 hat;generalize hdir:x.dir=d at y1 a0;rcases d with _|_
  .simp only[zP,if_false,Prod.mk.injEq]at a0;obtain⟨rfl,rfl⟩:=a0;go_wp2
   go_ret2;exact⟨rfl,bel _ _⟩
  simp only[if_true]at a0;generalize hhit:bR x.ents n=hi at a0 a1;have a2:hi=true->cY x.ents n<x.ents.length:=by intro h;rw[h]at hhit;unfold bR at hhit;simp only[zE,zI]at hhit;exact hhit.1
  generalize cY x.ents n=j at a0 a1 a2;clear hhit hdir;rcases hi with _|_
  .simp only[zP,if_false,Prod.mk.injEq]at a0;obtain⟨rfl,rfl⟩:=a0;go_wp2_with((go_at_call 171;refine aE (a1 _ (bel _ _)) λp=>?_))
   go_ret2;exact⟨rfl,bel _ _⟩
  simp only[if_true]at a0;have b0:=a2 rfl;obtain⟨e,he⟩:∃e,x.ents[j]? =some e:=⟨_,gE b0⟩;rw[he]at a0;simp only at a0;obtain⟨be,offe,rfl,iE0,iE,hce⟩:=HX.out.2.2 wr hb j e.cells (by rw[gM,he];rfl);have e1:=hce 1 _ rfl;have a4:∀ww,Bl w ww->Calls prog 102 #[.pointer b,e.num] ww _:=λww hww=>hf ww hww e.num;have a5:=HX.out.2.1 e (mG he);have a6:=cW S.nums e.num;have b1:S.nums.length=S.ins.length:=by unfold PSt.nums;rw[lM]
  generalize aJ S.nums e.num=fv at a4 a5 a6 a0;obtain⟨f,rfl⟩:∃f:Nat,fv=f:=⟨fv.toNat,by omega⟩;rw[zJ]at a0;have b2:f<S.ins.length:=by omega
  have b7:(j:Int)<x.ents.length:=by omega
  have b3:=aC a0;clear a0 hce he a2 a5 a6 b1;go_wp2_with(first|(go_at_call 171;refine aE (a1 _ (bel _ _)) λp=>?_)|(go_at_call 102;refine aE (a4 _ (bel _ _)) λp=>?_));go_roundw
  case rel=>exact⟨q+1,f,rfl,by go_num,by omega,b2,b3.out,bel _ _⟩
  simp[intOf];omega
 rw[zS (by omega)]at a0;have a0:(k,(0:Int))=(RK,RC):=a0;simp only[Prod.mk.injEq]at a0;obtain⟨rfl,rfl⟩:=a0;go_wp2
 go_ret2;exact⟨rfl,bel _ _⟩
section
structure PCall where
 kind:Int
 core:Int
 fd:Int
 off:Int
 num:Int
 path:ByteArray
 path2:ByteArray
 data:ByteArray
deriving DecidableEq
def PCall.cells (c:PCall):List Value:=[.int .i64 c.kind,.int .i64 c.core,.int .i64 c.fd,.int .i64 c.off,.int .i64 c.num,.string c.path,.string c.path2,.string c.data]
def PCall.val (c:PCall):Value:=.agg #[c.kind,c.core,c.fd,c.off,c.num,c.path,c.path2,c.data]
def PCall.wf (c:PCall):Prop:=I64 c.kind/\I64 c.core/\I64 c.fd/\I64 c.off/\I64 c.num
structure DR (w:World) (d b:Nat) (S:PSt) (c:PCall):Prop where
 lt:d<w.heap.size
 d0:w.cell? d=some (.pointer b)
 dc:∀(t:Nat) (u:Value),c.cells[t]? =some u->w.cell? ⟨d,1+t,none⟩=some u
 sp:SP w b S
variable {S:PSt}
theorem DR.below {w w':World} {d b B:Nat} {c:PCall} (h:DR w d b S c) (hb:Below B w w') (hB:w.heap.size<=B):DR w' d b S c:=by have hs:=hb.size;have hl:=h.lt;exact⟨by omega,(hb.cell (p:=d) (by show d<B;omega)).trans h.d0,λt u hu=>(hb.cell (p:=⟨d,1+t,none⟩) (by show d<B;omega)).trans (h.dc t u hu),h.sp.below hb hB⟩
structure Fine (S:PSt):Prop where
 wf:S.wf
 pos:0<S.ins.length
 find:∀x∈S.ins,∀e∈x.ents,0<=aJ S.nums e.num
 opens:∀d∈S.op,0<=aJ S.nums d.num
theorem vV (S:PSt):∀(ds:List PDesc) (p:Option PDesc),fJ S p ds=true->∀d∈ds,0<=aJ S.nums d.num
 |[],_,_,d,hd=>by simp at hd
 | x ::ds,p,h,d,hd=>by
   unfold fJ at h;split at h
   .simp at h
   split at h
   .simp at h
   split at h
   .simp at h
   split at h
   .simp at h
   split at h
   .simp at h
   split at h
   .simp at h
   rename_i h6;rcases mem_cons.1 hd with rfl|hd
   .omega
   split at h
   .split at h
    .simp at h
    exact vV S ds _ h d hd
   simp at h
theorem iP (hwf:S.wf) (h:cS S=true):Fine S:=by
 unfold cS at h;split at h
 .rename_i h1
  simp only[zE]at h1;exact⟨hwf,(aDZ h1.1.1 h1.1.2).1,uL h1.1.2,vV S _ _ h1.2⟩
 simp at h
theorem fL (hf:Fine S):∀(ns:List ByteArray) (k:Nat),k<S.ins.length->(aK S k ns).1<S.ins.length
 |[],k,hk=>hk
 | n ::r,k,hk=>by
   unfold aK;rw[gE hk];simp only;split
   .split
    .split
     .rename_i e he
      have h0:=hf.find S.ins[k] (getElem_mem hk) e (mG he);have hb:=cW S.nums e.num;have a0:S.nums.length=S.ins.length:=by unfold PSt.nums;rw[lM]
      exact fL hf r _ (by omega)
     exact hf.pos
    exact hf.pos
   exact hf.pos
def AtOut (w:World) (b:Nat) (S:PSt) (K:Nat) (C:Int) (e:Ending):Prop:=
 (C=0/\∃bi off cap,w.cell? b=some (.slice (some ⟨bi,off,none⟩) S.ins.length cap)/\e=.returned (.pointer (some ⟨bi,off+K*4,none⟩)))\/(C≠0/\e=bP C)
theorem aQU (d b:Nat) (S:PSt) (c:PCall) (s:ByteArray) (w:World) (h:DR w d b S c) (hf:Fine S) (hp:(aA s).1=0) (hpl:(aA s).2.length<=1000000000):
 Calls prog 178 #[.pointer d,s] w λe w'=>Bl w w'/\AtOut w b S (aK S 0 (aA s).2).1 (aK S 0 (aA s).2).2 e:=by
 have a2:∀ww,Calls prog 198 #[s] ww λe w'=>∃v,e=.returned v/\Bl ww w'/\RowAt w' 1 v ((aA s).2.map λn=>[.string n]):=λww=>by
  refine(aAA s ww).mono ?_;intro e w' h;rcases h with⟨_,v,h1,h2,h3⟩|⟨h,_⟩
  .exact⟨v,h1,h2,h3⟩
  exact absurd hp h
 have a3:∀ww v,Bl w ww->RowAt ww 1 v ((aA s).2.map λn=>[.string n])->Calls prog 191 #[.pointer b,v] ww _:=λww v hb hv=>vJ b S (aA s).2 v ww (h.sp.below hb (zC _)) hf.wf hf.pos hf.find hv hpl;have a4:=fL hf (aA s).2 0 hf.pos;have a5:=h.d0;have iD:BlockLt d w:=⟨h.lt⟩;obtain⟨hl,iv,ov,mv,c0,c1,c2,hr⟩:=h.sp;have iL:BlockLt b w:=⟨hl⟩;obtain⟨ai,capi,rfl,hati⟩:=hr.ins_at2;obtain⟨bi,offi,ev,rfl,-⟩:=hati 0 S.ins[0] (gE hf.pos);generalize aK S 0 (aA s).2=W at a3 a4 |-;obtain⟨K,C⟩:=W;simp only at a3 a4 |-;have HP:=bG a2 a3;have a6:=hf.wf.1;clear a2 a3 h hr hati c1 c2 hp hpl;have a9:(K:Int)<S.ins.length:=by omega
 go_in;go_upto_region 1 with fail;refine aH [5,6] false (λw'=>w'.cell? d=some (.pointer b)) (by kernel_rfl) (by kernel_rfl) ?_ ?_
 .go_simp
 repeat
  apply aI0 rfl rfl
  focus
   rintro w' s0;go_simp
   first|done|rfl
  simp only[Act.put,sA,sZ,sS]
 refine bA rfl rfl ?_;refine aR 198 #[.string s] ?hr ?_
 case hr=>
  go_simp
  first|done|rfl
 refine(HP.out.1 w.drew).mono ?_;rintro e w1 ⟨v,rfl,hb1,hv1⟩;have a1:Bl w w1:=(bel w w.drew).trans hb1;have b0:Bel w w1:=⟨a1⟩;have b1:BlockLt d w1:=⟨by have:=a1.size;have:=iD.lt;omega⟩;have x0:w1.cell? d=some (.pointer b):=(a1.cell (p:=d) iD.lt).trans a5;have a7:=hv1.one;refine⟨_,rfl,.inl x0,?_⟩;simp only[Act.put,sA,sZ,sS];refine bA rfl rfl ?_;refine aR 191 #[.pointer b,v] ?hr2 ?_
 case hr2=>
  go_simp
  first|done|rfl
 refine(HP.out.2 w1 v a1 hv1).mono ?_;rintro e w2 ⟨rfl,hb2⟩;have a0:Bl w w2:=a1.trans (hb2.mono a1.size);have b2:Bel w w2:=⟨a0⟩;have b3:BlockLt d w2:=⟨by have:=a0.size;have:=iD.lt;omega⟩;have b4:BlockLt b w2:=⟨by have:=a0.size;have:=iL.lt;omega⟩;have y0:w2.cell? d=some (.pointer b):=(a0.cell (p:=d) iD.lt).trans a5;have z0:w2.cell? b=some (.slice (some ⟨bi,offi,none⟩) S.ins.length capi):=(a0.cell (p:=b) iL.lt).trans c0;have a8:=aC c0;clear hv1 hb1 hb2 c0;refine⟨_,rfl,.inl y0,?_⟩;simp only[Act.put,sA,sZ,sS]
 repeat
  apply aI0 rfl rfl
  focus
   rintro w' s0;go_simp
   first|done|rfl
  simp only[Act.put,sA,sZ,sS]
 refine aS ?_;by_cases hC:C=0
 .subst hC;go_wp2_with((go_at_call 172;refine aE (aG _ _) λp=>?_))
  go_ret;exact⟨bel w _,.inl ⟨rfl,_,_,_,a8.out,rfl⟩⟩
 have b5:(C !=0)=true:=by simpa using hC
 go_wp2_with((go_at_call 172;refine aE (aO _ _) λp=>?_));exact⟨rfl,bel w _,.inr ⟨hC,rfl⟩⟩
def gB (S:PSt) (c:PCall):Bool:=decide (0<=c.kind)&&decide (c.kind<=16)&&decide (0<=c.core)&&decide (c.core<S.made.length)&&cS S
theorem aZP (b k:Nat) (S:PSt) (c:PCall) (w:World) (h:SP w b S) (hwf:S.wf) (hk:k<w.heap.size) (hc:∀(t:Nat) (u:Value),c.cells[t]? =some u->w.cell? ⟨k,t,none⟩=some u):
 vR w 105 #[.pointer b,.pointer k] (.bool (gB S c)):=by
 have iK:BlockLt k w:=⟨hk⟩;have k0:=hc 0 _ rfl;have k1:=hc 1 _ rfl;obtain⟨hl,iv,ov,mv,c0,c1,c2,hr⟩:=h;have iL:BlockLt b w:=⟨hl⟩;have a0:∀ww,Bl w ww->Calls prog 39 #[.agg #[iv,ov,mv]] ww _:=λww hb=>aFZ iv ov mv S ww (hr.below hb (zC _)) hwf;have a1:iv.oneCell'=true:=by obtain⟨_,_,_,h3,_⟩:=hr;exact h3.one
 have a2:=hr.1.one;obtain⟨am,cm,rfl,-⟩:=hr.2.1;rw[lM]at c2 a0;unfold gB;generalize cS S=M at a0 |-;clear hr hc hwf;by_cases g1:0<=c.kind
 .have b1:decide (0<=c.kind)=true:=decide_eq_true g1;by_cases g2:c.kind<=16
  .have b2:decide (c.kind<=16)=true:=decide_eq_true g2;by_cases g3:0<=c.core
   .have b3:decide (0<=c.core)=true:=decide_eq_true g3;by_cases g4:c.core<S.made.length
    .have b4:decide (c.core<(S.made.length:Int))=true:=decide_eq_true g4;simp only[b1,b2,b3,b4,xC]
     unfold vR;go_in;go_wp2;refine qR ?_
     repeat(go_big_quiet_step ((first|refine cI (a0 _ (bel _ _))|refine cJ (a0 _ (bel _ _)))))
     refine QN λp=>?_;go_wp2;go_ret;exact⟨rfl,bel _ _⟩
    have b4:decide (c.core<(S.made.length:Int))=false:=yM g4;simp only[b1,b2,b3,b4,xC,yJ];unfold vR;go_in;go_wp2;refine qR ?_
    repeat(go_big_quiet_step (fail))
    refine QN λp=>?_;go_wp2;go_ret;exact⟨rfl,bel _ _⟩
   have b3:decide (0<=c.core)=false:=yM g3;simp only[b1,b2,b3,xC,yJ];unfold vR;go_in;go_wp2;refine qR ?_
   repeat(go_big_quiet_step (fail))
   refine QN λp=>?_;go_wp2;go_ret;exact⟨rfl,bel _ _⟩
  have b2:decide (c.kind<=16)=false:=yM g2;simp only[b1,b2,xC,yJ];unfold vR;go_in;go_wp2;refine qR ?_
  repeat(go_big_quiet_step (fail))
  refine QN λp=>?_;go_wp2;go_ret;exact⟨rfl,bel _ _⟩
 have b1:decide (0<=c.kind)=false:=yM g1;simp only[b1,yJ];unfold vR;go_in;go_wp2;refine qR ?_
 repeat(go_big_quiet_step (fail))
 refine QN λp=>?_;go_wp2;go_ret;exact⟨rfl,bel _ _⟩
end
theorem aRD (zs:List PDesc) (v:Value) (l0:Value) (p:PDesc->Bool) (w:World) (h:RowAt w 3 v (zs.map PDesc.cells)) (hlen:zs.length<=1000000000)
 (hg:∀(z:PDesc) (ww:World),z∈zs->Bl w ww->vR ww 180 #[.agg #[z.core,z.fd,z.num],l0] (.bool (p z))):
 vR w 136 #[v,.func (.func 180) #[] #[l0]] (.int .i64 (cU p zs)):=by
 obtain⟨a,cap,rfl,hat⟩:=h.at_;rw[lM];have HA:=aC hat;clear hat h;unfold cU;obtain⟨R,hR⟩:∃R,bO p zs 0=R:=⟨_,rfl⟩;rw[hR];have HR:=aC hR;clear hR;unfold vR;go_in;go_wp2
 go_loopw[8] (λi wr=>∃(q:Nat),i=.int .i64 q/\q<=zs.length/\bO p (zs.drop q) q=R/\Bl w wr) (λi _=>(zs.length-intOf i).toNat)
 case atStart=>exact⟨0,rfl,by omega,HR.out,bel _ _⟩
 obtain⟨q,rfl,hq,hre,hb⟩:=hrel;have iB:Bel w wr:=⟨hb⟩;by_cases hlt:q<zs.length
 .obtain⟨z,hz⟩:∃z,zs[q]? =some z:=⟨_,gE hlt⟩
  obtain⟨b,off,rfl,iG0,iG,hc⟩:=HA.out wr hb q (PDesc.cells z) (by rw[gM,hz];rfl);have c0:=hc 0 _ rfl;have c1:=hc 1 _ rfl;have c2:=hc 2 _ rfl;rw[gL p zs q z hz]at hre;have a0:vB w 180 #[.agg #[z.core,z.fd,z.num],l0] (.bool (p z)):=λww hww=>hg z ww (mG hz) hww;have HZ:=bG hz hre;clear hc hz hre hg;rw[zN]at c0;generalize hpz:p z=t at a0 HZ;rcases t with _|_
  .go_wp2_with(go_at_call 180;refine aE (a0 _ (bel _ _)) λp=>?_)
   go_roundw
   case rel=>exact⟨q+1,by go_num,by omega,by have:=HZ.out.2;simpa using this,bel _ _⟩
   simp[intOf];omega
  have hv:R=q:=by have:=HZ.out.2;simpa using this.symm
  subst hv;go_wp2_with(go_at_call 180;refine aE (a0 _ (bel _ _)) λp=>?_);go_ret;exact⟨rfl,bel _ _⟩
 rw[jA p zs q hlt]at hre;subst hre;clear hg;go_wp2;go_ret;exact⟨rfl,bel _ _⟩
def eV (c:PCall) (x:PDesc):Bool:=(x.core==c.core)&&(x.fd==c.fd)
theorem aVB (d b:Nat) (S:PSt) (c:PCall) (x:PDesc) (bx:Nat) (w:World) (h:DR w d b S c) (ib:BlockLt bx w) (hx:w.cell? bx=some (.pointer d)):
 vR w 180 #[.agg #[x.core,x.fd,x.num],.pointer bx] (.bool (eV c x)):=by
 have iD:BlockLt d w:=⟨h.lt⟩;have c1:=h.dc 1 _ rfl;have c2:=h.dc 2 _ rfl;unfold eV;clear h;generalize hb1:(x.core==c.core)=b1;rcases b1 with _|_
 .unfold vR;go_in
  go_wp2;refine qR ?_
  repeat(go_big_quiet_step (fail))
  refine QN λp=>?_;go_wp2;go_ret;exact⟨rfl,bel _ _⟩
 unfold vR;go_in;go_wp2;refine qR ?_
 repeat(go_big_quiet_step (fail))
 refine QN λp=>?_;go_wp2;go_ret;exact⟨by first|rfl|simp_all,bel _ _⟩
def aVC (w:World) (b:Nat) (S:PSt) (i:Int) (e:Ending):Prop:=
 (0<=i/\∃x bi off cap,S.op[i.toNat]? =some x/\w.cell? b=some (.slice (some ⟨bi,off,none⟩) S.ins.length cap)/\e=.returned (.tuple #[.pointer (some ⟨bi,off+(aJ S.nums x.num).toNat*4,none⟩),i]))\/(i<0/\e=bP 4)
theorem aRE (d b:Nat) (S:PSt) (c:PCall) (w:World) (h:DR w d b S c) (hf:Fine S):
 Calls prog 143 #[.pointer d] w λe w'=>Bl w w'/\aVC w b S (cU (eV c) S.op) e:=by
 have a2:∀ww bx,Bl w ww->BlockLt bx ww->ww.cell? ⟨bx,0,none⟩=some (.pointer d)->∀ov,RowAt ww 3 ov (S.op.map PDesc.cells)->vR ww 136 #[ov,.func (.func 180) #[] #[.pointer (some ⟨bx,0,none⟩)]] (.int .i64 (cU (eV c) S.op)):=
  λww bx hb ib hx ov hv=>aRD S.op ov (.pointer (some ⟨bx,0,none⟩)) (eV c) ww hv hf.wf.2.1 (λz wz _ hz=>aVB d b S c z bx wz (h.below (hb.trans (hz.mono hb.size)) (zC _)) ⟨by have:=ib.lt;have:=hz.size;omega⟩ ((hz.cell (p:=⟨bx,0,none⟩) ib.lt).trans hx))
 have a1:∀ww,Bl w ww->∀n,vR ww 102 #[.pointer b,.int .i64 n] (.int .i64 (aJ S.nums n)):=
  λww hb n=>jM b S n ww (h.sp.below hb (zC _)) hf.wf
 have iD:BlockLt d w:=⟨h.lt⟩;have d0:=h.d0;obtain⟨hl,iv,ov,mv,c0,c1,c2,hr⟩:=h.sp;have iL:BlockLt b w:=⟨hl⟩;have a3:∀ww,Bl w ww->RowAt ww 3 ov (S.op.map PDesc.cells):=λww hb=>hr.1.below hb (zC _);have a0:∀ww bx,Bl w ww->BlockLt bx ww->ww.cell? ⟨bx,0,none⟩=some (.pointer d)->Calls prog 136 #[ov,.func (.func 180) #[] #[.pointer (some ⟨bx,0,none⟩)]] ww _:=λww bx hb i hx=>a2 ww bx hb i hx ov (a3 ww hb);obtain⟨ai,capi,rfl,hati⟩:=hr.ins_at2;have a4:=hf.pos;obtain⟨bi,offi,ev,rfl,-⟩:=hati 0 S.ins[0] (gE a4);obtain⟨ao,co,rfl,hato⟩:=hr.1.at_;rw[lM]at c1 a0;have a8:=kX (eV c) S.op;generalize cU (eV c) S.op=I at a0 a8 |-;have HH:=bG hati hato;have a9:=aC c0;have b0:=hf.wf.2.1;have b1:=hf.wf.1;have HF:=aC hf;clear a2 a3 hr hati hato h hf c2;by_cases hI:I<0
 .have b2:decide (I<0)=true:=decide_eq_true hI
  go_in;go_wp2_with(first|(go_at_call 136;refine aE (a0 _ _ (bel _ _) inferInstance (by go_simp)) λp=>?_)|(go_at_call 172;refine aE (aO _ _) λp=>?_));exact⟨rfl,bel w _,.inr ⟨hI,rfl⟩⟩
 have b2:decide (I<0)=false:=yM hI;obtain⟨k,rfl⟩:∃k:Nat,I=k:=⟨I.toNat,by omega⟩;have b3:k<S.op.length:=by omega
 obtain⟨x,hx⟩:∃x,S.op[k]? =some x:=⟨_,gE b3⟩;obtain⟨bo,offo,rfl,iO0,-,hco⟩:=HH.out.2 w (bel _ _) k x.cells (by rw[gM,hx];rfl);have o2:=hco 2 _ rfl;have a6:=HF.out.opens x (mG hx);have a7:=cW S.nums x.num;have b4:S.nums.length=S.ins.length:=by unfold PSt.nums;rw[lM]
 have a5:∀ww,Bl w ww->Calls prog 102 #[.pointer b,x.num] ww _:=λww hb=>a1 ww hb x.num;generalize hfv:aJ S.nums x.num=fv at a5 a6 a7;obtain⟨f,rfl⟩:∃f:Nat,fv=f:=⟨fv.toNat,by omega⟩;have b6:(f:Int)<S.ins.length:=by omega
 have b5:(k:Int)<S.op.length:=by omega
 have HX:=bG hx hfv;clear hx hfv hco a1 a7 b4 a6;go_in;go_wp2_with(first|(go_at_call 136;refine aE (a0 _ _ (bel _ _) inferInstance (by go_simp)) λp=>?_)|(go_at_call 172;refine aE (aG _ _) λp=>?_));refine qR ?_
 repeat(go_big_quiet_step ((first|refine cI (a5 _ (bel _ _))|refine cJ (a5 _ (bel _ _)))))
 refine QN λp=>?_;go_wp2
 go_ret2;refine⟨bel w _,.inl ⟨by omega,x,bi,offi,capi,HX.out.1,a9.out,?_⟩⟩
 rw[HX.out.2];rfl
end Go.Proofs.YtmkapobnfigedaaGreatDoor
