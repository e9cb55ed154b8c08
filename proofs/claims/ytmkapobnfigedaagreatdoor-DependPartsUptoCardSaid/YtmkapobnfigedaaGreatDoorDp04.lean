/- A part of a proof of a law. Conditions: none. -/
import Derived.Test.YtmkapobnfigedaaGreatDoorDp03
import Derived.Test.YtmkapobnfigedaaGreatDoorDp02
import Derived.Defers
import Derived.Recover
import Derived.Shelf.RegionOpenPlain
import Derived.Lib.AppendZeros
import Derived.Lib.Overlaps
import Derived.Laws.Externs
import Derived.Laws.IdiomCopy
set_option linter.unusedVariables false
set_option linter.unusedSimpArgs false
set_option maxRecDepth 100000
set_option maxHeartbeats 40000000
namespace Go.Proofs.YtmkapobnfigedaaGreatDoor
open Go.Proofs.Tryz List Go.RowKit
section
theorem nV (ns:List Int):∀(es:List PEnt) (prev:Option ByteArray) (sl:List Int),fA ns prev sl es=true->∀e∈es,0<=aK ns e.num
 |[],_,_,_,e,he=>by simp at he
 | x ::es,prev,sl,h,e,he=>by
   unfold fA at h;split at h
   .simp at h
   split at h
   .simp at h
   split at h
   .simp at h
   split at h
   .simp at h
   rename_i h4;rcases mem_cons.1 he with rfl|he
   .omega
   split at h
   .split at h
    .simp at h
    exact nV ns es _ _ h e he
   simp at h
variable {S:PSt} {made:List Int}
theorem uW (h:dW S=true):∀x∈S.ins,∀e∈x.ents,0<=aK S.nums e.num:=by
 unfold dW at h;split at h
 .simp at h
 split at h
 .split at h
  .simp only[zE,yY]at h;intro x hx e he;have:=h.2 x hx;unfold inB at this
   split at this
   .simp only[zE]at this;exact nV _ _ _ _ this.2 e he
   simp only[zE,zI]at this;rw[zT this.1]at he;simp at he
  simp at h
 simp at h
theorem aCR {n:Int} (h:dL made n=true) (h8:made.length<=8) (hm:∀m∈made,m<=32):2<=n/\n<=257:=by
 unfold dL at h;split at h
 .simp at h
 rename_i h2;split at h
 .rename_i m hm'
  have:=hm m (mG hm');simp only[zI]at h;omega
 simp at h
theorem aCS (h8:made.length<=8) (hm:∀m∈made,m<=32):∀(l:List Int) (p:Int),nZ made p l=true->p<=257->p+l.length<=257
 |[],p,_,hp=>by simpa using hp
 | n::l,p,h,hp=>by
   unfold nZ at h;split at h
   .simp at h
   rename_i h1;split at h
   .simp at h
   rename_i h2;have hn:dL made n=true:=by simpa using h2
   have:=aCS h8 hm l n h (aCR hn h8 hm).2;simp only[zK];omega
theorem aEQ (h1:dS S.made=true) (h2:dW S=true):0<S.ins.length/\S.ins.length<=257:=by
 unfold dS at h1;simp only[zE,yL,yV,yW]at h1;have hm:∀m∈S.made,m<=32:=by intro m hm;have h3:=h1.2;rw[any_eq_false]at h3;have:=h3 m hm;unfold eC at this;simp at this;omega
 unfold dW at h2;split at h2
 .simp at h2
 rename_i x r hins;split at h2
 .split at h2
  .simp only[zE]at h2;have:=aCS (by omega) hm _ _ h2.1 (by omega);rw[hins];simp only[zK,lM]at this |-;omega
  simp at h2
 simp at h2
def eJ (many:List Int) (found:List Bool) (op:List PDesc):Nat->List PIn->Bool
 |_,[]=>true
 | i,x::r=>if i=0 then eJ many found op (i+1) r else
   if(x.dir&&(!(many.getD i 0==1)||!found.getD i false))=true then false else
   if(!x.dir&&(!found.getD i false&&(decide (0<many.getD i 0)||!nC op x.num)))=true then false else eJ many found op (i+1) r
def cO (S:PSt):Bool:=if(dS S.made&&dW S&&pI S)=true then eJ (fD S) (eK S) S.op 0 S.ins else false
theorem aME (ns:List Int) (ins:List PIn):∀b td fd,(bfs ns ins b td fd).length=fd.length
 |0,_,_=>rfl
 |_+1,[],_=>rfl
 | b+1,k::td,fd=>by show(bfs ns ins b (dA ns (td,fd) (match ins[k]? with|some x=>x.ents|none=>[])).1 (dA ns (td,fd) (match ins[k]? with|some x=>x.ents|none=>[])).2).length=_;rw[aME,aDF]
theorem aJO (S:PSt):(fD S).length=S.ins.length:=by unfold fD;rw[aPM];simp
theorem aGY (S:PSt):(eK S).length=S.ins.length:=by unfold eK;rw[aME];simp
theorem StRead.box {w:World} {iv ov mv:Value} (h:StRead w iv ov mv S) (t:TypeId):SP (w.alloc (.cells #[iv,ov,mv] t)) w.heap.size S:=
 ⟨by simp,iv,ov,mv,by go_simp,by go_simp,by go_simp,h.below ((Below.refl _ _).alloc (zC _) _) (zC _)⟩
theorem aGZ (iv ov mv:Value) (S:PSt) (w:World) (h:StRead w iv ov mv S) (hwf:S.wf):
 vR w 39 #[.agg #[iv,ov,mv]] (.bool (cO S)):=by
 have a0:=h.box 26;have H1:∀ww,Below (w.alloc (.cells #[iv,ov,mv] 26)).heap.size (w.alloc (.cells #[iv,ov,mv] 26)) ww->Calls prog 68 #[.pointer w.heap.size] ww _:=λww hb=>aQL _ S ww (a0.below hb (zC _)) hwf;have H2:∀ww,Below (w.alloc (.cells #[iv,ov,mv] 26)).heap.size (w.alloc (.cells #[iv,ov,mv] 26)) ww->Calls prog 69 #[.pointer w.heap.size] ww _:=λww hb=>aSD _ S ww (a0.below hb (zC _)) hwf;have H3:∀ww,Below (w.alloc (.cells #[iv,ov,mv] 26)).heap.size (w.alloc (.cells #[iv,ov,mv] 26)) ww->Calls prog 70 #[.pointer w.heap.size] ww _:=λww hb=>aOY _ S ww (a0.below hb (zC _)) hwf;have H4:dS S.made=true->dW S=true->∀ww,Below (w.alloc (.cells #[iv,ov,mv] 26)).heap.size (w.alloc (.cells #[iv,ov,mv] 26)) ww->Calls prog 71 #[.pointer w.heap.size] ww λe w'=>∃mv fv,e=.returned (.tuple #[mv,fv])/\Bl ww w'/\RowAt w' 1 mv ((fD S).map aJ)/\RowAt w' 1 fv ((eK S).map aO):=
  λh1 h2 ww hb=>aPO _ S ww (a0.below hb (zC _)) hwf (aEQ h1 h2).1 (by have:=(aEQ h1 h2).2;omega) (uW h2)
 have h1:=h.1.one;have h2:=h.2.1.one;have h3:iv.oneCell'=true:=by obtain⟨_,_,_,h3,_⟩:=h;exact h3.one
 have HL:=bJ (aJO S) (aGY S);unfold cO;generalize hm1:dS S.made=m1 at *;generalize hm2:dW S=m2 at *;generalize pI S=m3 at *;rcases m1 with _|_
 .clear a0 h hwf H2 H3 H4
  unfold vR;go_in;go_wp2_with((go_at_call 68;refine aE (H1 _ (bel (w.alloc (.cells #[iv,ov,mv] 26)) _)) λp=>?_));go_ret;exact gAC
 rcases m2 with _|_
 .clear a0 h hwf H3 H4
  unfold vR;go_in;go_wp2_with(first|(go_at_call 68;refine aE (H1 _ (bel (w.alloc (.cells #[iv,ov,mv] 26)) _)) λp=>?_)|(go_at_call 69;refine aE (H2 _ (bel (w.alloc (.cells #[iv,ov,mv] 26)) _)) λp=>?_));go_ret;exact gAC
 rcases m3 with _|_
 .clear a0 h hwf H4
  unfold vR;go_in;go_wp2_with(first|(go_at_call 68;refine aE (H1 _ (bel (w.alloc (.cells #[iv,ov,mv] 26)) _)) λp=>?_)|(go_at_call 69;refine aE (H2 _ (bel (w.alloc (.cells #[iv,ov,mv] 26)) _)) λp=>?_)|(go_at_call 70;refine aE (H3 _ (bel (w.alloc (.cells #[iv,ov,mv] 26)) _)) λp=>?_));go_ret;exact gAC
 simp only[Bool.and_self,if_true];have H5:∀ww,Below (w.alloc (.cells #[iv,ov,mv] 26)).heap.size (w.alloc (.cells #[iv,ov,mv] 26)) ww->∀n,vR ww 72 #[.pointer w.heap.size,.int .i64 n] (.bool (nC S.op n)):=λww hb n=>aTH _ S n ww (a0.below hb (zC _)) hwf;have h4:=H4 rfl rfl;have a7:=hwf.1;have HB:=aC h;clear H4 h hwf hm1 hm2;obtain⟨R,hR⟩:=gAB (eJ (fD S) (eK S) S.op 0 S.ins);rw[hR];have HR:=aC hR;clear hR;unfold vR;go_in;go_wp2_with(first|(go_at_call 68;refine aE (H1 _ (bel (w.alloc (.cells #[iv,ov,mv] 26)) _)) λp=>?_)|(go_at_call 69;refine aE (H2 _ (bel (w.alloc (.cells #[iv,ov,mv] 26)) _)) λp=>?_)|(go_at_call 70;refine aE (H3 _ (bel (w.alloc (.cells #[iv,ov,mv] 26)) _)) λp=>?_)|(go_at_call 71;refine(h4 _ (bel (w.alloc (.cells #[iv,ov,mv] 26)) _)).mono ?_;rintro e wz ⟨mv',fv',rfl,hbz,hr1,hr2⟩;have a1:=(bel (w.alloc (.cells #[iv,ov,mv] 26)) _).trans (hbz.mono (bel (w.alloc (.cells #[iv,ov,mv] 26)) _).size);have a4:Bl w wz:=((Below.refl _ _).alloc (zC _) _).trans (a1.mono (by simp));obtain⟨hlz,ivz,ovz,mvz,z0,z1,z2,hrz⟩:=a0.below a1 (zC _);obtain⟨ai,capi,rfl,hati⟩:=hrz.ins_at2;have HI:=eH hati a1 a4;obtain⟨am,cm,rfl,hmat⟩:=hr1.at_;obtain⟨af,cf,rfl,hfat⟩:=hr2.at_;have HM:=bJ hmat hfat;rw[lM,lM,HL.out.1,HL.out.2];clear hbz a1 hrz hati hr1 hr2 hmat hfat a4 z1 z2;have iZ:BlockLt w.heap.size wz:=⟨hlz⟩))
 go_loopw[24] (λi wr=>∃(q:Nat),i=.int .i64 q/\q<=S.ins.length/\eJ (fD S) (eK S) S.op q (S.ins.drop q)=R/\Bl wz wr) (λi _=>(S.ins.length-intOf i).toNat)
 case atStart=>exact⟨0,rfl,by omega,HR.out,bel _ _⟩
 obtain⟨q,rfl,hq,hre,hbr⟩:=hrel;have b1:Bel wz wr:=⟨hbr⟩;have a4:Bl w wr:=HI.out.2.2.trans (hbr.mono HI.out.2.2.size);have b2:Bel w wr:=⟨a4⟩;have b3:BlockLt w.heap.size wr:=⟨by have:=hbr.size;have:=iZ.lt;omega⟩;by_cases hlt:q<S.ins.length
 .obtain ⟨x,hx⟩:∃x,S.ins[q]? =some x:=⟨_,gE hlt⟩
  rw[cQ hx]at hre;unfold eJ at hre;obtain⟨bi,offi,ev1,rfl,iG0,ho1,hev,hcl⟩:=HI.out.1 q x hx;obtain⟨iGr,y0,y1,y2,y3⟩:=hcl wr hbr;obtain⟨mq,hmq⟩:∃mq,(fD S)[q]? =some mq:=⟨_,gE (by have:=HL.out.1;omega)⟩;obtain⟨fq,hfq⟩:∃fq,(eK S)[q]? =some fq:=⟨_,gE (by have:=HL.out.2;omega)⟩;obtain⟨bm,offm,rfl,iM0,iMr,hcm⟩:=HM.out.1 wr hbr q (aJ mq) (by rw[gM,hmq];rfl);obtain⟨bf,offf,rfl,iF0,iFr,hcf⟩:=HM.out.2 wr hbr q (aO fq) (by rw[gM,hfq];rfl);have m0:=hcm 0 _ rfl;have f0:=hcf 0 _ rfl;rw[Nat.mul_one,zN]at m0 f0;rw[zG,zG,hmq,hfq,Option.getD_some,Option.getD_some]at hre;have a5:∀ww,Bl wr ww->Calls prog 72 #[.pointer w.heap.size,x.num] ww _:=λww hww=>H5 ww (HI.out.2.1.trans ((hbr.trans (hww.mono hbr.size)).mono HI.out.2.1.size)) x.num;generalize nC S.op x.num=ob at a5 hre;have a8:(q:Int)<S.ins.length:=by omega
  obtain⟨ae,ce,rfl,-⟩:=hev;rw[lM]at y2;clear hx hcl hcm hcf hmq hfq H5 H1 H2 H3 h4 a0;by_cases hq0:q=0
  .have a6:(q:Int)=0:=by omega
   rw[zB hq0]at hre;have a2:=aC hre;clear hre a8 a6;subst hq0;simp only[Nat.zero_mul,zN]at y0 y1 y2 y3;go_wp2;go_roundw
   case rel=>exact⟨1,rfl,by omega,a2.out,bel _ _⟩
   simp[intOf];omega
  rw [zA hq0]at hre;have b4:((q:Int)==0)=false:=by simpa using hq0
  have a9:(q==0)=false:=by simpa using hq0
  generalize x.dir=d at hre y1;rcases d with _|_
  .simp only[yJ,zP,if_false,Bool.not_false,xC]at hre;rcases fq with _|_
   .simp only[Bool.not_false,xC]at hre;by_cases hm:0<mq
    .have a3:decide (0<mq)=true:=decide_eq_true hm;rw[a3]at hre;simp only[Bool.true_or,if_true]at hre;subst hre;go_wp2;go_ret;exact gAC
    have a3:decide (0<mq)=false:=yM hm;rw[a3,Bool.false_or]at hre;rcases ob with _|_
    .simp only[Bool.not_false,if_true]at hre;subst hre;go_wp2_with((go_at_call 72;refine aE (a5 _ (bel _ _)) λp=>?_))
     go_ret;exact gAC
    simp only[Bool.not_true,zP,if_false]at hre;have a2:=aC hre;clear hre;go_wp2_with((go_at_call 72;refine aE (a5 _ (bel _ _)) λp=>?_));go_roundw
    case rel=>exact⟨q+1,by go_num,by omega,a2.out,bel _ _⟩
    simp[intOf];omega
   simp only[Bool.not_true,yJ,zP,if_false]at hre;have a2:=aC hre;clear hre;go_wp2;go_roundw
   case rel=>exact⟨q+1,by go_num,by omega,a2.out,bel _ _⟩
   simp[intOf];omega
  simp only[xC,Bool.not_true,yJ,zP,if_false]at hre;by_cases hm:mq=1
  .have a3:(mq==1)=true:=by simpa using hm
   rw[a3]at hre;rcases fq with _|_
   .simp only[Bool.not_true,Bool.not_false,Bool.false_or,if_true]at hre;subst hre;subst hm;go_wp2;go_ret;exact gAC
   simp only[Bool.not_true,Bool.false_or,zP,if_false]at hre;have a2:=aC hre;clear hre;subst hm;go_wp2;go_roundw
   case rel=>exact⟨q+1,by go_num,by omega,a2.out,bel _ _⟩
   simp[intOf];omega
  have a3:(mq==1)=false:=by simpa using hm
  rw[a3]at hre;simp only[Bool.not_false,Bool.true_or,if_true]at hre;subst hre;go_wp2;go_ret;exact gAC
 rw[zS (by omega)]at hre;have b0:R=true:=by rw[<-hre];rfl
 subst b0;clear hre;go_wp2;go_ret;exact gAC
end
section
structure PCall where
 kind:Int
 core:Int
 fd:Int
 off:Int
 num:Int
 path:ByteArray
 path2:ByteArray
 data:ByteArray
deriving DecidableEq
def PCall.cells (c:PCall):List Value:=[.int .i64 c.kind,.int .i64 c.core,.int .i64 c.fd,.int .i64 c.off,.int .i64 c.num,.string c.path,.string c.path2,.string c.data]
def PCall.val (c:PCall):Value:=.agg #[c.kind,c.core,c.fd,c.off,c.num,c.path,c.path2,c.data]
def PCall.wf (c:PCall):Prop:=I64 c.kind/\I64 c.core/\I64 c.fd/\I64 c.off/\I64 c.num
structure DR (w:World) (d b:Nat) (S:PSt) (c:PCall):Prop where
 lt:d<w.heap.size
 d0:w.cell? d=some (.pointer b)
 dc:∀(t:Nat) (u:Value),c.cells[t]? =some u->w.cell? ⟨d,1+t,none⟩=some u
 sp:SP w b S
variable {S:PSt}
theorem DR.below {w w':World} {d b B:Nat} {c:PCall} (h:DR w d b S c) (hb:Below B w w') (hB:w.heap.size<=B):DR w' d b S c:=by have hs:=hb.size;have hl:=h.lt;exact⟨by omega,(hb.cell (p:=d) (by show d<B;omega)).trans h.d0,λt u hu=>(hb.cell (p:=⟨d,1+t,none⟩) (by show d<B;omega)).trans (h.dc t u hu),h.sp.below hb hB⟩
structure Fine (S:PSt):Prop where
 wf:S.wf
 pos:0<S.ins.length
 find:∀x∈S.ins,∀e∈x.ents,0<=aK S.nums e.num
 opens:∀d∈S.op,0<=aK S.nums d.num
theorem wQ (S:PSt):∀(ds:List PDesc) (p:Option PDesc),fL S p ds=true->∀d∈ds,0<=aK S.nums d.num
 |[],_,_,d,hd=>by simp at hd
 | x ::ds,p,h,d,hd=>by
   unfold fL at h;split at h
   .simp at h
   split at h
   .simp at h
   split at h
   .simp at h
   split at h
   .simp at h
   split at h
   .simp at h
   split at h
   .simp at h
   rename_i h6;rcases mem_cons.1 hd with rfl|hd
   .omega
   split at h
   .split at h
    .simp at h
    exact wQ S ds _ h d hd
   simp at h
theorem jF (hwf:S.wf) (h:cO S=true):Fine S:=by
 unfold cO at h;split at h
 .rename_i h1
  simp only[zE]at h1;exact⟨hwf,(aEQ h1.1.1 h1.1.2).1,uW h1.1.2,wQ S _ _ h1.2⟩
 simp at h
theorem fO (hf:Fine S):∀(ns:List ByteArray) (k:Nat),k<S.ins.length->(aL S k ns).1<S.ins.length
 |[],k,hk=>hk
 | n ::r,k,hk=>by
   unfold aL;rw[gE hk];simp only;split
   .split
    .split
     .rename_i e he
      have h0:=hf.find S.ins[k] (getElem_mem hk) e (mG he);have hb:=cX S.nums e.num;have a0:S.nums.length=S.ins.length:=by unfold PSt.nums;rw[lM]
      exact fO hf r _ (by omega)
     exact hf.pos
    exact hf.pos
   exact hf.pos
def AtOut (w:World) (b:Nat) (S:PSt) (K:Nat) (C:Int) (e:Ending):Prop:=
 (C=0/\∃bi off cap,w.cell? b=some (.slice (some ⟨bi,off,none⟩) S.ins.length cap)/\e=.returned (.pointer (some ⟨bi,off+K*4,none⟩)))\/(C≠0/\e=bR C)
theorem aRO (d b:Nat) (S:PSt) (c:PCall) (s:ByteArray) (w:World) (h:DR w d b S c) (hf:Fine S) (hp:(aA s).1=0) (hpl:(aA s).2.length<=1000000000):
 Calls prog 178 #[.pointer d,s] w λe w'=>Bl w w'/\AtOut w b S (aL S 0 (aA s).2).1 (aL S 0 (aA s).2).2 e:=by
 have a2:∀ww,Calls prog 198 #[s] ww λe w'=>∃v,e=.returned v/\Bl ww w'/\RowAt w' 1 v ((aA s).2.map λn=>[.string n]):=λww=>by
  refine(aAR s ww).mono ?_;intro e w' h;rcases h with⟨_,v,h1,h2,h3⟩|⟨h,_⟩
  .exact⟨v,h1,h2,h3⟩
  exact absurd hp h
 have a3:∀ww v,Bl w ww->RowAt ww 1 v ((aA s).2.map λn=>[.string n])->Calls prog 191 #[.pointer b,v] ww _:=λww v hb hv=>vY b S (aA s).2 v ww (h.sp.below hb (zC _)) hf.wf hf.pos hf.find hv hpl;have a4:=fO hf (aA s).2 0 hf.pos;have a5:=h.d0;have iD:BlockLt d w:=⟨h.lt⟩;obtain⟨hl,iv,ov,mv,c0,c1,c2,hr⟩:=h.sp;have iL:BlockLt b w:=⟨hl⟩;obtain⟨ai,capi,rfl,hati⟩:=hr.ins_at2;obtain⟨bi,offi,ev,rfl,-⟩:=hati 0 S.ins[0] (gE hf.pos);generalize aL S 0 (aA s).2=W at a3 a4 |-;obtain⟨K,C⟩:=W;simp only at a3 a4 |-;have HP:=bJ a2 a3;have a6:=hf.wf.1;clear a2 a3 h hr hati c1 c2 hp hpl;have a9:(K:Int)<S.ins.length:=by omega
 go_in;go_upto_region 1 with fail;refine aH [5,6] false (λw'=>w'.cell? d=some (.pointer b)) (by kernel_rfl) (by kernel_rfl) ?_ ?_
 .go_simp
 repeat
  apply aI0 rfl rfl
  focus
   rintro w' s0;go_simp
   first|done|rfl
  simp only[Act.put,sA,sZ,sS]
 refine bB rfl rfl ?_;refine aS 198 #[.string s] ?hr ?_
 case hr=>
  go_simp
  first|done|rfl
 refine(HP.out.1 w.drew).mono ?_;rintro e w1 ⟨v,rfl,hb1,hv1⟩;have a1:Bl w w1:=(bel w w.drew).trans hb1;have b0:Bel w w1:=⟨a1⟩;have b1:BlockLt d w1:=⟨by have:=a1.size;have:=iD.lt;omega⟩;have x0:w1.cell? d=some (.pointer b):=(a1.cell (p:=d) iD.lt).trans a5;have a7:=hv1.one;refine⟨_,rfl,.inl x0,?_⟩;simp only[Act.put,sA,sZ,sS];refine bB rfl rfl ?_;refine aS 191 #[.pointer b,v] ?hr2 ?_
 case hr2=>
  go_simp
  first|done|rfl
 refine(HP.out.2 w1 v a1 hv1).mono ?_;rintro e w2 ⟨rfl,hb2⟩;have a0:Bl w w2:=a1.trans (hb2.mono a1.size);have b2:Bel w w2:=⟨a0⟩;have b3:BlockLt d w2:=⟨by have:=a0.size;have:=iD.lt;omega⟩;have b4:BlockLt b w2:=⟨by have:=a0.size;have:=iL.lt;omega⟩;have y0:w2.cell? d=some (.pointer b):=(a0.cell (p:=d) iD.lt).trans a5;have z0:w2.cell? b=some (.slice (some ⟨bi,offi,none⟩) S.ins.length capi):=(a0.cell (p:=b) iL.lt).trans c0;have a8:=aC c0;clear hv1 hb1 hb2 c0;refine⟨_,rfl,.inl y0,?_⟩;simp only[Act.put,sA,sZ,sS]
 repeat
  apply aI0 rfl rfl
  focus
   rintro w' s0;go_simp
   first|done|rfl
  simp only[Act.put,sA,sZ,sS]
 refine aU ?_;by_cases hC:C=0
 .subst hC;go_wp2_with((go_at_call 172;refine aE (aG _ _) λp=>?_))
  go_ret;exact⟨bel w _,.inl ⟨rfl,_,_,_,a8.out,rfl⟩⟩
 have b5:(C !=0)=true:=by simpa using hC
 go_wp2_with((go_at_call 172;refine aE (aP _ _) λp=>?_));exact⟨rfl,bel w _,.inr ⟨hC,rfl⟩⟩
def fP (S:PSt) (c:PCall):Bool:=decide (0<=c.kind)&&decide (c.kind<=16)&&decide (0<=c.core)&&decide (c.core<S.made.length)&&cO S
theorem bAK (b k:Nat) (S:PSt) (c:PCall) (w:World) (h:SP w b S) (hwf:S.wf) (hk:k<w.heap.size) (hc:∀(t:Nat) (u:Value),c.cells[t]? =some u->w.cell? ⟨k,t,none⟩=some u):
 vR w 105 #[.pointer b,.pointer k] (.bool (fP S c)):=by
 have iK:BlockLt k w:=⟨hk⟩;have k0:=hc 0 _ rfl;have k1:=hc 1 _ rfl;obtain⟨hl,iv,ov,mv,c0,c1,c2,hr⟩:=h;have iL:BlockLt b w:=⟨hl⟩;have a0:∀ww,Bl w ww->Calls prog 39 #[.agg #[iv,ov,mv]] ww _:=λww hb=>aGZ iv ov mv S ww (hr.below hb (zC _)) hwf;have a1:iv.oneCell'=true:=by obtain⟨_,_,_,h3,_⟩:=hr;exact h3.one
 have a2:=hr.1.one;obtain⟨am,cm,rfl,-⟩:=hr.2.1;rw[lM]at c2 a0;unfold fP;generalize cO S=M at a0 |-;clear hr hc hwf;by_cases g1:0<=c.kind
 .have b1:decide (0<=c.kind)=true:=decide_eq_true g1;by_cases g2:c.kind<=16
  .have b2:decide (c.kind<=16)=true:=decide_eq_true g2;by_cases g3:0<=c.core
   .have b3:decide (0<=c.core)=true:=decide_eq_true g3;by_cases g4:c.core<S.made.length
    .have b4:decide (c.core<(S.made.length:Int))=true:=decide_eq_true g4;simp only[b1,b2,b3,b4,xC]
     unfold vR;go_in;go_wp2;refine qR ?_
     repeat(go_big_quiet_step ((first|refine cI (a0 _ (bel _ _))|refine cJ (a0 _ (bel _ _)))))
     refine QN λp=>?_;go_wp2;go_ret;exact gAC
    have b4:decide (c.core<(S.made.length:Int))=false:=yM g4;simp only[b1,b2,b3,b4,xC,yJ];unfold vR;go_in;go_wp2;refine qR ?_
    repeat(go_big_quiet_step (fail))
    refine QN λp=>?_;go_wp2;go_ret;exact gAC
   have b3:decide (0<=c.core)=false:=yM g3;simp only[b1,b2,b3,xC,yJ];unfold vR;go_in;go_wp2;refine qR ?_
   repeat(go_big_quiet_step (fail))
   refine QN λp=>?_;go_wp2;go_ret;exact gAC
  have b2:decide (c.kind<=16)=false:=yM g2;simp only[b1,b2,xC,yJ];unfold vR;go_in;go_wp2;refine qR ?_
  repeat(go_big_quiet_step (fail))
  refine QN λp=>?_;go_wp2;go_ret;exact gAC
 have b1:decide (0<=c.kind)=false:=yM g1;simp only[b1,yJ];unfold vR;go_in;go_wp2;refine qR ?_
 repeat(go_big_quiet_step (fail))
 refine QN λp=>?_;go_wp2;go_ret;exact gAC
end
theorem aRZ (zs:List PDesc) (v:Value) (l0:Value) (p:PDesc->Bool) (w:World) (h:RowAt w 3 v (zs.map PDesc.cells)) (hlen:zs.length<=1000000000)
 (hg:∀(z:PDesc) (ww:World),z∈zs->Bl w ww->vR ww 180 #[.agg #[z.core,z.fd,z.num],l0] (.bool (p z))):
 vR w 136 #[v,.func (.func 180) #[] #[l0]] (.int .i64 (cV p zs)):=by
 obtain⟨a,cap,rfl,hat⟩:=h.at_;rw[lM];have HA:=aC hat;clear hat h;unfold cV;obtain⟨R,hR⟩:=gAB (bQ p zs 0);rw[hR];have HR:=aC hR;clear hR;unfold vR;go_in;go_wp2
 go_loopw[8] (λi wr=>∃(q:Nat),i=.int .i64 q/\q<=zs.length/\bQ p (zs.drop q) q=R/\Bl w wr) (λi _=>(zs.length-intOf i).toNat)
 case atStart=>exact⟨0,rfl,by omega,HR.out,bel _ _⟩
 obtain⟨q,rfl,hq,hre,hb⟩:=hrel;have iB:Bel w wr:=⟨hb⟩;by_cases hlt:q<zs.length
 .obtain⟨z,hz⟩:=gAA hlt
  obtain⟨b,off,rfl,iG0,iG,hc⟩:=HA.out wr hb q (PDesc.cells z) (by rw[gM,hz];rfl);have c0:=hc 0 _ rfl;have c1:=hc 1 _ rfl;have c2:=hc 2 _ rfl;rw[gQ p zs q z hz]at hre;have a0:vB w 180 #[.agg #[z.core,z.fd,z.num],l0] (.bool (p z)):=λww hww=>hg z ww (mG hz) hww;have HZ:=bJ hz hre;clear hc hz hre hg;rw[zN]at c0;generalize hpz:p z=t at a0 HZ;rcases t with _|_
  .go_wp2_with(go_at_call 180;refine aE (a0 _ (bel _ _)) λp=>?_)
   go_roundw
   case rel=>exact⟨q+1,by go_num,by omega,by have:=HZ.out.2;simpa using this,bel _ _⟩
   simp[intOf];omega
  have hv:R=q:=by have:=HZ.out.2;simpa using this.symm
  subst hv;go_wp2_with(go_at_call 180;refine aE (a0 _ (bel _ _)) λp=>?_);go_ret;exact gAC
 rw[jN p zs q hlt]at hre;subst hre;clear hg;go_wp2;go_ret;exact gAC
def eW (c:PCall) (x:PDesc):Bool:=(x.core==c.core)&&(x.fd==c.fd)
theorem aVU (d b:Nat) (S:PSt) (c:PCall) (x:PDesc) (bx:Nat) (w:World) (h:DR w d b S c) (ib:BlockLt bx w) (hx:w.cell? bx=some (.pointer d)):
 vR w 180 #[.agg #[x.core,x.fd,x.num],.pointer bx] (.bool (eW c x)):=by
 have iD:BlockLt d w:=⟨h.lt⟩;have c1:=h.dc 1 _ rfl;have c2:=h.dc 2 _ rfl;unfold eW;clear h;generalize hb1:(x.core==c.core)=b1;rcases b1 with _|_
 .unfold vR;go_in
  go_wp2;refine qR ?_
  repeat(go_big_quiet_step (fail))
  refine QN λp=>?_;go_wp2;go_ret;exact gAC
 unfold vR;go_in;go_wp2;refine qR ?_
 repeat(go_big_quiet_step (fail))
 refine QN λp=>?_;go_wp2;go_ret;exact⟨by first|rfl|simp_all,bel _ _⟩
def aVV (w:World) (b:Nat) (S:PSt) (i:Int) (e:Ending):Prop:=
 (0<=i/\∃x bi off cap,S.op[i.toNat]? =some x/\w.cell? b=some (.slice (some ⟨bi,off,none⟩) S.ins.length cap)/\e=.returned (.tuple #[.pointer (some ⟨bi,off+(aK S.nums x.num).toNat*4,none⟩),i]))\/(i<0/\e=bR 4)
theorem aSA (d b:Nat) (S:PSt) (c:PCall) (w:World) (h:DR w d b S c) (hf:Fine S):
 Calls prog 143 #[.pointer d] w λe w'=>Bl w w'/\aVV w b S (cV (eW c) S.op) e:=by
 have a2:∀ww bx,Bl w ww->BlockLt bx ww->ww.cell? ⟨bx,0,none⟩=some (.pointer d)->∀ov,RowAt ww 3 ov (S.op.map PDesc.cells)->vR ww 136 #[ov,.func (.func 180) #[] #[.pointer (some ⟨bx,0,none⟩)]] (.int .i64 (cV (eW c) S.op)):=
  λww bx hb ib hx ov hv=>aRZ S.op ov (.pointer (some ⟨bx,0,none⟩)) (eW c) ww hv hf.wf.2.1 (λz wz _ hz=>aVU d b S c z bx wz (h.below (hb.trans (hz.mono hb.size)) (zC _)) ⟨by have:=ib.lt;have:=hz.size;omega⟩ ((hz.cell (p:=⟨bx,0,none⟩) ib.lt).trans hx))
 have a1:∀ww,Bl w ww->∀n,vR ww 102 #[.pointer b,.int .i64 n] (.int .i64 (aK S.nums n)):=
  λww hb n=>jU b S n ww (h.sp.below hb (zC _)) hf.wf
 have iD:BlockLt d w:=⟨h.lt⟩;have d0:=h.d0;obtain⟨hl,iv,ov,mv,c0,c1,c2,hr⟩:=h.sp;have iL:BlockLt b w:=⟨hl⟩;have a3:∀ww,Bl w ww->RowAt ww 3 ov (S.op.map PDesc.cells):=λww hb=>hr.1.below hb (zC _);have a0:∀ww bx,Bl w ww->BlockLt bx ww->ww.cell? ⟨bx,0,none⟩=some (.pointer d)->Calls prog 136 #[ov,.func (.func 180) #[] #[.pointer (some ⟨bx,0,none⟩)]] ww _:=λww bx hb i hx=>a2 ww bx hb i hx ov (a3 ww hb);obtain⟨ai,capi,rfl,hati⟩:=hr.ins_at2;have a4:=hf.pos;obtain⟨bi,offi,ev,rfl,-⟩:=hati 0 S.ins[0] (gE a4);obtain⟨ao,co,rfl,hato⟩:=hr.1.at_;rw[lM]at c1 a0;have a8:=lK (eW c) S.op;generalize cV (eW c) S.op=I at a0 a8 |-;have HH:=bJ hati hato;have a9:=aC c0;have b0:=hf.wf.2.1;have b1:=hf.wf.1;have HF:=aC hf;clear a2 a3 hr hati hato h hf c2;by_cases hI:I<0
 .have b2:decide (I<0)=true:=decide_eq_true hI
  go_in;go_wp2_with(first|(go_at_call 136;refine aE (a0 _ _ (bel _ _) inferInstance (by go_simp)) λp=>?_)|(go_at_call 172;refine aE (aP _ _) λp=>?_));exact⟨rfl,bel w _,.inr ⟨hI,rfl⟩⟩
 have b2:decide (I<0)=false:=yM hI;obtain⟨k,rfl⟩:∃k:Nat,I=k:=⟨I.toNat,by omega⟩;have b3:k<S.op.length:=by omega
 obtain⟨x,hx⟩:=gAA b3;obtain⟨bo,offo,rfl,iO0,-,hco⟩:=HH.out.2 w (bel _ _) k x.cells (by rw[gM,hx];rfl);have o2:=hco 2 _ rfl;have a6:=HF.out.opens x (mG hx);have a7:=cX S.nums x.num;have b4:S.nums.length=S.ins.length:=by unfold PSt.nums;rw[lM]
 have a5:∀ww,Bl w ww->Calls prog 102 #[.pointer b,x.num] ww _:=λww hb=>a1 ww hb x.num;generalize hfv:aK S.nums x.num=fv at a5 a6 a7;obtain⟨f,rfl⟩:∃f:Nat,fv=f:=⟨fv.toNat,by omega⟩;have b6:(f:Int)<S.ins.length:=by omega
 have b5:(k:Int)<S.op.length:=by omega
 have HX:=bJ hx hfv;clear hx hfv hco a1 a7 b4 a6;go_in;go_wp2_with(first|(go_at_call 136;refine aE (a0 _ _ (bel _ _) inferInstance (by go_simp)) λp=>?_)|(go_at_call 172;refine aE (aG _ _) λp=>?_));refine qR ?_
 repeat(go_big_quiet_step ((first|refine cI (a5 _ (bel _ _))|refine cJ (a5 _ (bel _ _)))))
 refine QN λp=>?_;go_wp2
 go_ret2;refine⟨bel w _,.inl ⟨by omega,x,bi,offi,capi,HX.out.1,a9.out,?_⟩⟩
 rw[HX.out.2];rfl
section
structure PRes where
 code:Int
 fd:Int
 num:Int
 dir:Bool
 data:ByteArray
 names:List ByteArray
deriving DecidableEq
def PRes.zero:PRes:=⟨0,0,0,false,ByteArray.empty,[]⟩
def PRes.fail (c:Int):PRes:=⟨c,0,0,false,ByteArray.empty,[]⟩
def jY (b:Nat) (c:PCall) (r:PRes) (nv:Value):Array Value:=
 #[.pointer b,.int .i64 c.kind,.int .i64 c.core,.int .i64 c.fd,.int .i64 c.off,.int .i64 c.num,.string c.path,.string c.path2,.string c.data,
  .int .i64 r.code,.int .i64 r.fd,.int .i64 r.num,.bool r.dir,.string r.data,nv]
def cL (s:ByteArray):List Value:=[.string s]
def DoAt (B:Nat) (w:World) (d b:Nat) (S:PSt) (c:PCall) (r:PRes):Prop:=
 ∃iv ov mv nv,B<=b/\B<=d/\Blk w d (jY b c r nv) 136/\Blk w b #[iv,ov,mv] 26/\StOwn B w iv ov mv S/\OwnP B w 9 1 nv (r.names.map cL)
variable {B K b d:Nat} {S:PSt} {c:PCall} {iv mv ov:Value} {r:PRes} {w:World}
theorem SP.of_blk (h:Blk w b #[iv,ov,mv] 26) (hr:StRead w iv ov mv S):SP w b S:=
 ⟨h.lt.lt,iv,ov,mv,h.cell 0,h.cell 1,h.cell 2,hr⟩
theorem DR.of_blk {nv:Value} (h:Blk w d (jY b c r nv) 136) (hs:SP w b S):DR w d b S c:=
 ⟨h.lt.lt,h.cell 0,λt u hu=>by
  rw[h.cell,Nat.add_comm 1 t];have ht:t<8:=by obtain⟨h,_⟩:=gI.1 hu;exact h
  rcases t with _|_|_|_|_|_|_|_|t<;>first|exact hu|omega,hs⟩
theorem DoAt.read (h:DoAt B w d b S c r):DR w d b S c:=by obtain⟨iv,ov,mv,nv,_,_,hd,hb,hs,_⟩:=h;exact DR.of_blk hd (SP.of_blk hb hs.read)
theorem StOwn.keep {w':World} {X:Nat->Prop} (h:StOwn B w iv ov mv S) (hk:Keep X w w') (hX:∀g,X g->∃c t,Blk w g c t/\t≠95/\t≠3/\t≠68/\t≠97):StOwn B w' iv ov mv S:=by
 have key:∀{e:TypeId} {k:Nat} {v:Value} {rows:List (List Value)},OwnP B w e k v rows->(e=95\/e=3\/e=68\/e=97)->OwnP B w' e k v rows:=by
  intro e k v rows ho he;rcases ho with h0|⟨g,cap,cur,rfl,hg,hb,r⟩
  .exact .inl h0
  refine .inr ⟨g,cap,cur,rfl,hg,hk.blk hb (λhx=>?_),r⟩;obtain⟨c,t,hb',t1,t2,t3,t4⟩:=hX g hx;refine hb.ne_ hb' ?_ rfl;rcases he with rfl|rfl|rfl|rfl<;>first|exact λe=>t1 e.symm|exact λe=>t2 e.symm|exact λe=>t3 e.symm|exact λe=>t4 e.symm
 obtain⟨h1,h2,is,h3,h4,h5,h6⟩:=h;exact⟨key h1 (by simp),key h2 (by simp),is,key h3 (by simp),h4,λq r x hr hx=>by
  obtain⟨a1,a2,a3,a4⟩:=h5 q r x hr hx;exact⟨a1,a2,a3,key a4 (by simp)⟩,h6⟩
def bL (B:Nat) (w:World) (d b:Nat) (c:PCall) (R:Except Int (PSt × PRes)) (e:Ending) (w':World):Prop:=
 Below B w w'/\match R with
  |.ok (S,r)=>e=.returned (.tuple #[])/\DoAt B w' d b S c r
  |.error k=>e=bR k
theorem AtOut.ok {e:Ending} (h:AtOut w b S K 0 e):∃bi off cap,w.cell? b=some (.slice (some ⟨bi,off,none⟩) S.ins.length cap)/\e=.returned (.pointer (some ⟨bi,off+K*4,none⟩)):=by
 rcases h with⟨_,h⟩|⟨h,_⟩
 .exact h
 exact absurd rfl h
theorem AtOut.bad {C:Int} {e:Ending} (h:AtOut w b S K C e) (hC:C≠0):e=bR C:=by
 rcases h with⟨h,_⟩|⟨_,h⟩
 .exact absurd h hC
 exact h
def aIA (S:PSt) (c:PCall) (r:PRes):Except Int (PSt × PRes):=
 if(aL S 0 (aA c.path).2).2≠0 then .error (aL S 0 (aA c.path).2).2 else
 match S.ins[(aL S 0 (aA c.path).2).1]? with
 |some x=>.ok (S,{ r with dir:=x.dir,num:=if x.dir=true then r.num else x.data.size})
 |none=>.ok (S,r)
theorem aQP (B d b:Nat) (S:PSt) (c:PCall) (r:PRes) (w:World) (h:DoAt B w d b S c r) (hB:B<=w.heap.size) (hf:Fine S) (hk:c.kind=13) (hp:(aA c.path).1=0) (hpl:(aA c.path).2.length<=1000000000):
 Calls prog 150 #[.pointer d] w (bL B w d b c (aIA S c r)):=by
 have a2:∀ww,Bl w ww->Calls prog 178 #[.pointer d,c.path] ww _:=λww hb=>aRO d b S c c.path ww (h.read.below hb (zC _)) hf hp hpl;obtain⟨iv,ov,mv,nv,hBb,hBd,hD,hbk,hst,hnv⟩:=h;have iD:=hD.lt;have iL:=hbk.lt;have d1:w.cell? ⟨d,1,none⟩=some (.int .i64 c.kind):=hD.cell 1;have d6:w.cell? ⟨d,6,none⟩=some (.string c.path):=hD.cell 6;obtain⟨ai,capi,rfl,hati⟩:=hst.read.ins_at2;have a4:=fO hf (aA c.path).2 0 hf.pos;unfold aIA;generalize aL S 0 (aA c.path).2=W at a2 a4 |-;obtain⟨K,C⟩:=W;simp only at a2 a4 |-;rw[hk]at d1;have HD:=qM hD hbk hst hnv hati;clear hD hbk hst hnv hati hk hp hpl;by_cases hC:C=0
 .subst hC;obtain⟨x,hx⟩:=gAA a4
  rw[zA (by simp),hx];simp only;generalize hR:(Except.ok (S,({ r with dir:=x.dir,num:=if x.dir=true then r.num else x.data.size}:PRes)):Except Int (PSt × PRes))=R;have HR:=aC hR;clear hR;obtain⟨bi,offi,ev,rfl,iG0,ho1,hev,hcl⟩:=HD.out.2.2.2.2 K x hx;have a6:¬bi=d:=by obtain⟨_,_,is,h3,_⟩:=HD.out.2.2.1;exact h3.ne_blk HD.out.1 (by decide) rfl
  have a7:¬d=bi:=λe=>a6 e.symm;have a5:=aC hcl;clear hcl hev;generalize hdir:x.dir=dd at a5 HR;rcases dd with _|_
  .go_in
   go_wp2_with(first|(go_at_call 172;refine aE (aG _ _) λp=>?_)|(go_at_call 178;refine(a2 _ (bel _ _)).mono ?_;rintro e w1 ⟨hb1,ho⟩;obtain⟨bi',offi',capi',hci,rfl⟩:=ho.ok;have a3:=(HD.out.2.1.cell 0).symm.trans hci;simp only[yD,zH,zF,zO,yG]at a3;obtain⟨⟨rfl,rfl,-⟩,-,rfl⟩:=a3;have a0:=HD.out.1.below hb1 iD.lt;have a8:=a0.lt;have a9:Bel w w1:=⟨hb1⟩;have e1:w1.cell? ⟨d,1,none⟩=some (.int .i64 13):=(hb1.cell (p:=⟨d,1,none⟩) iD.lt).trans d1;have b0:w1.cell? ⟨d,12,none⟩=some (.bool r.dir):=a0.cell 12;have b1:w1.cell? ⟨d,11,none⟩=some (.int .i64 r.num):=a0.cell 11;have b2:=a0.frozen 12;have b3:=a0.frozen 11;obtain⟨iG1,y0,y1,y2,y3⟩:=a5.out w1 hb1;have H1:=bJ hb1 a0;clear hb1 a0 hci ho));have a1:Keep (λk=>k=d) w ((w1.setCell ⟨d,12,none⟩ (.bool false)).setCell ⟨d,11,none⟩ (.int .i64 x.data.size)):=Keep.setCell (S:=λk=>k=d) (p:=⟨d,11,none⟩) (Keep.setCell (S:=λk=>k=d) (p:=⟨d,12,none⟩) (Keep.of_below H1.out.1 _) (.inl rfl) _) (.inl rfl) _;refine xE (v:=.tuple #[]) (by simp[results,go_sem]) rfl ⟨a1.below hB (λi hi h=>by omega),?_⟩;rw[<-HR.out];refine⟨rfl,_,ov,mv,nv,hBb,hBd,(H1.out.2.set_ 12 _).set_ 11 _,a1.blk HD.out.2.1 (HD.out.2.1.ne_ HD.out.1 (by decide)),HD.out.2.2.1.keep a1 (λg hg=>by rw[hg];exact⟨_,136,HD.out.1,by decide,by decide,by decide,by decide⟩),HD.out.2.2.2.1.keep a1 (λg hg=>HD.out.2.2.2.1.ne_blk HD.out.1 (by decide) hg)⟩
  go_in;go_wp2_with(first|(go_at_call 172;refine aE (aG _ _) λp=>?_)|(go_at_call 178;refine(a2 _ (bel _ _)).mono ?_;rintro e w1 ⟨hb1,ho⟩;obtain⟨bi',offi',capi',hci,rfl⟩:=ho.ok;have a3:=(HD.out.2.1.cell 0).symm.trans hci;simp only[yD,zH,zF,zO,yG]at a3;obtain⟨⟨rfl,rfl,-⟩,-,rfl⟩:=a3;have a0:=HD.out.1.below hb1 iD.lt;have a8:=a0.lt;have a9:Bel w w1:=⟨hb1⟩;have e1:w1.cell? ⟨d,1,none⟩=some (.int .i64 13):=(hb1.cell (p:=⟨d,1,none⟩) iD.lt).trans d1;have b0:w1.cell? ⟨d,12,none⟩=some (.bool r.dir):=a0.cell 12;have b1:w1.cell? ⟨d,11,none⟩=some (.int .i64 r.num):=a0.cell 11;have b2:=a0.frozen 12;have b3:=a0.frozen 11;obtain⟨iG1,y0,y1,y2,y3⟩:=a5.out w1 hb1;have H1:=bJ hb1 a0;clear hb1 a0 hci ho));have a1:Keep (λk=>k=d) w (w1.setCell ⟨d,12,none⟩ (.bool true)):=Keep.setCell (S:=λk=>k=d) (p:=⟨d,12,none⟩) (Keep.of_below H1.out.1 _) (.inl rfl) _;refine xE (v:=.tuple #[]) (by simp[results,go_sem]) rfl ⟨a1.below hB (λi hi h=>by omega),?_⟩;rw[<-HR.out];refine⟨rfl,_,ov,mv,nv,hBb,hBd,H1.out.2.set_ 12 _,a1.blk HD.out.2.1 (HD.out.2.1.ne_ HD.out.1 (by decide)),HD.out.2.2.1.keep a1 (λg hg=>by rw[hg];exact⟨_,136,HD.out.1,by decide,by decide,by decide,by decide⟩),HD.out.2.2.2.1.keep a1 (λg hg=>HD.out.2.2.2.1.ne_blk HD.out.1 (by decide) hg)⟩
 rw[zB hC];go_in;go_wp2_with(go_at_call 178;refine(a2 _ (bel _ _)).mono ?_;rintro e w1 ⟨hb1,ho⟩;obtain rfl:=ho.bad hC);exact⟨rfl,hb1.mono hB,rfl⟩
end
section
variable {B b d:Nat} {S:PSt} {c:PCall} {r:PRes} {w:World}
theorem DoAt.below {w':World} (h:DoAt B w d b S c r) (hb:Bl w w'):DoAt B w' d b S c r:=by obtain⟨iv,ov,mv,nv,hBb,hBd,hD,hbk,hst,hnv⟩:=h;have hk:Keep (λ_=>False) w w':=Keep.of_below hb _;exact⟨iv,ov,mv,nv,hBb,hBd,hk.blk hD id,hk.blk hbk id,hst.keep hk (λ_ h=>h.elim),hnv.keep hk (λ_ _ h=>h)⟩
theorem DoAt.kind (h:DoAt B w d b S c r):BlockLt d w/\w.cell? ⟨d,1,none⟩=some (.int .i64 c.kind):=by obtain⟨iv,ov,mv,nv,hBb,hBd,hD,hbk,hst,hnv⟩:=h;exact⟨hD.lt,hD.cell 1⟩
theorem aUR (B d b:Nat) (S:PSt) (c:PCall) (r:PRes) (w:World) (h:DoAt B w d b S c r) (hB:B<=w.heap.size) (hk:c.kind=16):
 Calls prog 108 #[.pointer d] w (bL B w d b c (.ok (S,r))):=by
 obtain⟨iD,d1⟩:=h.kind;rw[hk]at d1;have HD:=aC h;clear h hk;go_in;go_wp2;exact xE (v:=.tuple #[]) (by simp[results,go_sem]) rfl ⟨Below.refl _ _,rfl,HD.out⟩
def mF (S:PSt) (c:PCall) (r:PRes):Except Int (PSt × PRes):=if cV (eW c) S.op<0 then .error 4 else .ok (S,r)
theorem aQG (B d b:Nat) (S:PSt) (c:PCall) (r:PRes) (w:World) (h:DoAt B w d b S c r) (hB:B<=w.heap.size) (hf:Fine S) (hk:c.kind=15):
 Calls prog 108 #[.pointer d] w (bL B w d b c (mF S c r)):=by
 have ht:=aSA d b S c w h.read hf;obtain⟨iD,d1⟩:=h.kind;rw[hk]at d1;have HD:=aC h;unfold mF;generalize cV (eW c) S.op=i at ht |-;clear h hf hk;by_cases hi:i<0
 .rw[zB hi]
  go_in;go_wp2_with(go_at_call 143;refine ht.mono ?_;rintro e w1 ⟨hb1,hr1⟩;obtain rfl:e=bR 4:=by rcases hr1 with⟨h,_⟩|⟨_,h⟩<;>first|exact h|omega);exact⟨rfl,hb1.mono hB,rfl⟩
 rw[zA hi];go_in;go_wp2_with(go_at_call 143;refine ht.mono ?_;rintro e w1 ⟨hb1,hr1⟩;obtain⟨x,bi,off,f,rfl⟩:∃(x:PDesc) (bi off f:Nat),e=.returned (.tuple #[.pointer (some ⟨bi,off+f*4,none⟩),i]):=by rcases hr1 with⟨_,x,bi,off,cap,_,_,h⟩|⟨h,_⟩<;>first|exact⟨x,bi,off,_,h⟩|omega);exact xE (v:=.tuple #[]) (by simp[results,go_sem]) rfl ⟨hb1.mono hB,rfl,HD.out.below hb1⟩
end
theorem StOwn.mono {B B':Nat} {w:World} {iv ov mv:Value} {S:PSt} (h:StOwn B w iv ov mv S) (hb:B'<=B):StOwn B' w iv ov mv S:=by
 obtain⟨h1,h2,is,h3,h4,h5,h6⟩:=h;exact⟨h1.mono hb,h2.mono hb,is,h3.mono hb,h4,λq r x hr hx=>by
  obtain⟨a1,a2,a3,a4⟩:=h5 q r x hr hx;exact⟨a1,a2,a3,a4.mono hb⟩,h6⟩
theorem aTY (code:Int) (w:World):(Instr.typeAssert (.iface 132 (.agg #[code])) 20 132 true).run prog w=.ok (.tuple #[.agg #[code],true]) w:=by kernel_rfl
theorem aZK (a b c v:Value):(#[a,b,c]++(((((Array.replicate 19 undef).setIfInBounds 3 v).setIfInBounds 0 v).setIfInBounds 4 v).setIfInBounds 5 (.bool true)):Array Value)=#[a,b,c,v,undef,undef,v,v,.bool true,undef,undef,undef,undef,undef,undef,undef,undef,undef,undef,undef,undef,undef]:=by kernel_rfl
theorem aKL (p q r:Addr) (w:World):
 CallsD prog 107 #[.pointer (some p),.pointer (some q),.pointer (some r)] .returning w λe u' w'=>e=.returned (.tuple #[])/\u'=.returning/\w'=w:=by
 refine callsD_of_wpS func107 rfl λc₀ cs hu=>?_;apply wpS_seq;apply wpS_region;simp[wpOpsS,go_sem,recoverD,hu,Tryz.ntmps107,Exit.thenS];apply wpS_seq;apply wpS_region;simp[wpOpsS,go_sem,Exit.thenS];refine wpS_cond (t:=false) (by simp[Act.eval,Array.replicate]) ?_;simp only[zP,if_false];refine wpS_of_wp (wp_skip ?_);cases c₀;simp_all [bodyPostS,results,Tryz.results107,go_sem]
theorem vJ (B k2 k4 k5:Nat) (iv ov mv:Value) (S:PSt) (code:Int) (w:World) (a0 a1 a2 b0 b1 b2 b3 b4 b5:Value) (hwf:S.wf)
 (h2:Blk w k2 #[iv,ov,mv] 26) (hr:StRead w iv ov mv S) (h4:Blk w k4 #[a0,a1,a2] 26) (h5:Blk w k5 #[b0,b1,b2,b3,b4,b5] 52) (n24:k2≠k4) (hB4:B<=k4) (hB5:B<=k5) (hB:B<=w.heap.size):
 CallsD prog 107 #[.pointer k2,.pointer k4,.pointer k5] (.panicking [{ v:=.iface 132 (.agg #[code]),recovered:=false}]) w λe u' w'=>
  e=.returned (.tuple #[])/\u'=.panicking [{ v:=.iface 132 (.agg #[code]),recovered:=true}]/\Below B w w'/\∃iv' ov' mv',Blk w' k4 #[iv',ov',mv'] 26/\Blk w' k5 #[code,.int .i64 0,.int .i64 0,false,ByteArray.empty,.slice none 0 0] 52/\StOwn B w' iv' ov' mv' S:=by
 refine callsD_of_wpS func107 rfl λc₀ cs hu=>?_;apply wpS_seq;apply wpS_region;simp[wpOpsS,go_sem,recoverD,hu,Tryz.ntmps107,Exit.thenS];apply wpS_seq;apply wpS_region;simp[wpOpsS,go_sem,Exit.thenS];refine wpS_cond (t:=true) (by simp[Act.eval,Array.replicate]) ?_;simp only[if_true];refine wpS_of_wp ?_;rw[aZK (.pointer k2) (.pointer k4) (.pointer k5) (.iface 132 (.agg #[code]))];have a8:=aTY code;have i2:=h2.lt;have i4:=h4.lt;have i5:=h5.lt;obtain⟨-,c0,c1,c2⟩:=gR h2;have a9:iv.oneCell'=true:=by obtain⟨_,_,_,h3,_⟩:=hr;exact h3.one
 have b6:=hr.1.one;have b7:=hr.2.1.one;have a7:∀ww,Bl w ww->Calls prog 106 #[.agg #[iv,ov,mv]] ww _:=λww hb=>aLJ iv ov mv S ww (hr.below hb (zC _)) hwf;have b8:=h2.ne_ h5 (by decide);have a4:=h4.ne_ h5 (by decide);have H0:=eH h2 h4 h5;clear h2 h4 h5 hr;go_upto_region 5 with fail;refine aH [1,5,6] true (λw'=>w'.cell? k2=some iv/\w'.cell? ⟨k2,1,none⟩=some ov/\w'.cell? ⟨k2,2,none⟩=some mv/\w'.cell? w.heap.size=some (.int .i64 code)) (by kernel_rfl) (by kernel_rfl) ?_ ?_
 · (try dsimp only);(repeat' apply And.intro)<;>go_simp
 repeat
  apply aI0 rfl rfl
  focus
   rintro w' ⟨s0,s1,s2,s3⟩;go_simp
   first|done|rfl
  simp only[Act.put,sA,sZ,sS]
 refine bB rfl rfl ?_;refine aS 106 #[.agg #[iv,ov,mv]] ?hr ?_
 case hr=>
  go_simp
  first|done|rfl
 refine(a7 (w.alloc (.cells #[code] 132)).drew (bel w _)).mono ?_;rintro e w2 ⟨iv',ov',mv',rfl,hb2,hso⟩;have a3:Bl w w2:=(bel w (w.alloc (.cells #[code] 132)).drew).trans (hb2.mono (bel w (w.alloc (.cells #[code] 132)).drew).size);have b9:Bel w w2:=⟨a3⟩;have g2:=H0.out.1.below a3 i2.lt;have g4:=H0.out.2.1.below a3 i4.lt;have g5:=H0.out.2.2.below a3 i5.lt;have gc:Blk w2 w.heap.size #[code] 132:=((Blk.new w _ 132).drew).below hb2 (by show w.heap.size<(w.alloc (.cells #[code] 132)).heap.size;simp);have j2:=g2.lt;have j4:=g4.lt;have j5:=g5.lt;have jc:=gc.lt;have x0:=g2.cell 0;have x1:=g2.cell 1;have x2:=g2.cell 2;have xc:=gc.cell 0;obtain⟨-,y0,y1,y2⟩:=gR g4;obtain⟨-,q0,q1,q2,q3,q4,q5⟩:=bx6 g5;simp only[yD,zH,zV]at x0 x1 x2 xc;have c3:=g4.frozen 0;have c6:=g4.frozen 1;have c7:=g4.frozen 2;have c8:=g5.frozen 0;have c9:=g5.frozen 1;have d0:=g5.frozen 2;have d1:=g5.frozen 3;have d2:=g5.frozen 4;have d3:=g5.frozen 5;have m2:¬k4=k2:=λe=>n24 e.symm;have mc:¬k4=w.heap.size:=by have:=i4.lt;omega
 have d4:¬w.heap.size=k4:=by have:=i4.lt;omega
 have m5:¬k5=k4:=λe=>a4 e.symm;obtain⟨ja,jn,jcap,rfl⟩:∃a n c,iv'=.slice a n c:=by obtain⟨_,_,_,h3,_⟩:=hso.read;obtain⟨a,c,e,_⟩:=h3;exact⟨_,_,_,e⟩
 obtain⟨ka,kn,kcap,rfl⟩:∃a n c,ov'=.slice a n c:=by obtain⟨a,c,e,_⟩:=hso.read.1;exact⟨_,_,_,e⟩
 obtain⟨la,ln,lcap,rfl⟩:∃a n c,mv'=.slice a n c:=by obtain⟨a,c,e,_⟩:=hso.read.2.1;exact⟨_,_,_,e⟩
 have H2:=qM g2 g4 g5 hso a3;clear g2 g4 g5 gc hso hb2 a3;refine⟨_,rfl,.inl ⟨x0,x1,x2,xc⟩,?_⟩;simp only[Act.put,sA,sZ,sS]
 repeat
  apply aI0 rfl rfl
  focus
   rintro w' ⟨s0,s1,s2,s3⟩;go_simp
   first|done|rfl
  simp only[Act.put,sA,sZ,sS]
 refine aW rfl rfl ?_;apply Exists.intro;refine⟨?_,?_,?_⟩
 focus
  go_simp;rfl
 focus
  refine .inl ⟨?_,?_,?_,?_⟩<;>go_simp
 simp only[Act.put,sA,sZ,sS];refine aW rfl rfl ?_;apply Exists.intro;refine⟨?_,.inr ⟨rfl,rfl⟩,?_⟩
 focus
  go_simp;rfl
 simp only[Act.put];refine aU ?_;obtain⟨g2,g4,g5,hso,a3⟩:=H2.out;have a5:Keep (λk=>k=k4) w2 (((w2.setCell k4 (.slice ja jn jcap)).setCell ⟨k4,1,none⟩ (.slice ka kn kcap)).setCell ⟨k4,2,none⟩ (.slice la ln lcap)):=
  Keep.setCell (S:=λk=>k=k4) (p:=⟨k4,2,none⟩) (Keep.setCell (S:=λk=>k=k4) (p:=⟨k4,1,none⟩) (Keep.setCell (S:=λk=>k=k4) (p:=k4) (Keep.refl _ _) (.inl rfl) _) (.inl rfl) _) (.inl rfl) _
 have b4:Blk (((w2.setCell k4 (.slice ja jn jcap)).setCell ⟨k4,1,none⟩ (.slice ka kn kcap)).setCell ⟨k4,2,none⟩ (.slice la ln lcap)) k4 #[.slice ja jn jcap,.slice ka kn kcap,.slice la ln lcap] 26:=((g4.set_ 0 _).set_ 1 _).set_ 2 _;have b5:=a5.blk g5 (λe=>a4 e.symm);generalize(((w2.setCell k4 (.slice ja jn jcap)).setCell ⟨k4,1,none⟩ (.slice ka kn kcap)).setCell ⟨k4,2,none⟩ (.slice la ln lcap))=w3 at a5 b4 b5 |-;have a6:Keep (λk=>k=k5) w3 ((((((w3.setCell k5 (.int .i64 code)).setCell ⟨k5,1,none⟩ (.int .i64 0)).setCell ⟨k5,2,none⟩ (.int .i64 0)).setCell ⟨k5,3,none⟩ (.bool false)).setCell ⟨k5,4,none⟩ (.string ⟨#[]⟩)).setCell ⟨k5,5,none⟩ (.slice none 0 0)):=
  Keep.setCell (S:=λk=>k=k5) (p:=⟨k5,5,none⟩) (Keep.setCell (S:=λk=>k=k5) (p:=⟨k5,4,none⟩) (Keep.setCell (S:=λk=>k=k5) (p:=⟨k5,3,none⟩) (Keep.setCell (S:=λk=>k=k5) (p:=⟨k5,2,none⟩) (Keep.setCell (S:=λk=>k=k5) (p:=⟨k5,1,none⟩) (Keep.setCell (S:=λk=>k=k5) (p:=k5) (Keep.refl _ _) (.inl rfl) _) (.inl rfl) _) (.inl rfl) _) (.inl rfl) _) (.inl rfl) _) (.inl rfl) _
 have c5:Blk ((((((w3.setCell k5 (.int .i64 code)).setCell ⟨k5,1,none⟩ (.int .i64 0)).setCell ⟨k5,2,none⟩ (.int .i64 0)).setCell ⟨k5,3,none⟩ (.bool false)).setCell ⟨k5,4,none⟩ (.string ⟨#[]⟩)).setCell ⟨k5,5,none⟩ (.slice none 0 0)) k5 #[.int .i64 code,.int .i64 0,.int .i64 0,.bool false,.string ByteArray.empty,.slice none 0 0] 52:=
  (((((b5.set_ 0 _).set_ 1 _).set_ 2 _).set_ 3 _).set_ 4 _).set_ 5 _
 have c4:=a6.blk b4 a4;have hK:Keep (λk=>k=k4\/k=k5) w2 ((((((w3.setCell k5 (.int .i64 code)).setCell ⟨k5,1,none⟩ (.int .i64 0)).setCell ⟨k5,2,none⟩ (.int .i64 0)).setCell ⟨k5,3,none⟩ (.bool false)).setCell ⟨k5,4,none⟩ (.string ⟨#[]⟩)).setCell ⟨k5,5,none⟩ (.slice none 0 0)):=
  (a5.mono (λi _ h=>.inl h)).trans (a6.mono (λi _ h=>.inr h)) (λi _ h=>h)
 have hw:=a3.size;refine⟨rfl,_,rfl,.tuple #[],by simp[results,Tryz.results107,go_sem],rfl,rfl,(a3.mono hB).trans (hK.below (by omega) (λi hi h=>by rcases h with h|h<;>omega)),_,_,_,c4,c5,?_⟩;refine(hso.mono (by show B<=(w.alloc (.cells #[code] 132)).heap.size;simp;omega)).keep hK (λg hg=>?_);rcases hg with rfl|rfl
 .exact⟨_,26,g4,by decide,by decide,by decide,by decide⟩
 exact⟨_,52,g5,by decide,by decide,by decide,by decide⟩
section
variable {B k4 k5:Nat} {S:PSt} {iv mv ov x0 x1 x2 z0 z1 z2 z3 z4 z5:Value} {w:World}
theorem StOwn.forms (h:StOwn B w iv ov mv S):∃a n c a' n' c' a'' n'' c'',iv=.slice a n c/\ov=.slice a' n' c'/\mv=.slice a'' n'' c'':=by obtain⟨h1,h2,_,h3,_⟩:=h.read;obtain⟨a,c,e1,_⟩:=h3;obtain⟨a',c',e2,_⟩:=h1;obtain⟨a'',c'',e3,_⟩:=h2;exact⟨_,_,_,_,_,_,_,_,_,e1,e2,e3⟩
theorem aRM (w:World) (k4 k5:Nat) (tmps:Array Value) (a0 a1 a2 r0 r1 r2 r3 r4 r5:Value) (h4:tmps[4]? =some (.pointer k4)) (h5:tmps[5]? =some (.pointer k5))
 (b4:Blk w k4 #[a0,a1,a2] 26) (b5:Blk w k5 #[r0,r1,r2,r3,r4,r5] 52):
 (results f73 tmps).run prog w=.ok (.tuple #[.agg #[a0,a1,a2],.agg #[r0,r1,r2,r3,r4,r5]]) w:=by
 obtain⟨-,y0,y1,y2⟩:=gR b4;obtain⟨-,q0,q1,q2,q3,q4,q5⟩:=bx6 b5;unfold results;simp only[results73];go_simp
def lay9 (w:World) (k4 k5:Nat) (a0 a1 a2 r0 r1 r2 r3 r4 r5:Value):World:=
 ((((((((w.setCell k4 a0).setCell ⟨k4,1,none⟩ a1).setCell ⟨k4,2,none⟩ a2).setCell k5 r0).setCell ⟨k5,1,none⟩ r1).setCell ⟨k5,2,none⟩ r2).setCell ⟨k5,3,none⟩ r3).setCell ⟨k5,4,none⟩ r4).setCell ⟨k5,5,none⟩ r5
theorem aLQ (a0 a1 a2 r0 r1 r2 r3 r4 r5:Value) (h4:Blk w k4 #[x0,x1,x2] 26) (h5:Blk w k5 #[z0,z1,z2,z3,z4,z5] 52):
 Blk (lay9 w k4 k5 a0 a1 a2 r0 r1 r2 r3 r4 r5) k4 #[a0,a1,a2] 26/\Blk (lay9 w k4 k5 a0 a1 a2 r0 r1 r2 r3 r4 r5) k5 #[r0,r1,r2,r3,r4,r5] 52/\Keep (λk=>k=k4\/k=k5) w (lay9 w k4 k5 a0 a1 a2 r0 r1 r2 r3 r4 r5):=by
 unfold lay9;have a4:=h4.ne_ h5 (by decide);have a3:Keep (λk=>k=k4) w (((w.setCell k4 a0).setCell ⟨k4,1,none⟩ a1).setCell ⟨k4,2,none⟩ a2):=
  Keep.setCell (S:=λk=>k=k4) (p:=⟨k4,2,none⟩) (Keep.setCell (S:=λk=>k=k4) (p:=⟨k4,1,none⟩) (Keep.setCell (S:=λk=>k=k4) (p:=k4) (Keep.refl _ _) (.inl rfl) _) (.inl rfl) _) (.inl rfl) _
 have b4:Blk (((w.setCell k4 a0).setCell ⟨k4,1,none⟩ a1).setCell ⟨k4,2,none⟩ a2) k4 #[a0,a1,a2] 26:=((h4.set_ 0 _).set_ 1 _).set_ 2 _;have b5:=a3.blk h5 (λe=>a4 e.symm);generalize(((w.setCell k4 a0).setCell ⟨k4,1,none⟩ a1).setCell ⟨k4,2,none⟩ a2)=w3 at a3 b4 b5 |-;have a5:Keep (λk=>k=k5) w3 ((((((w3.setCell k5 r0).setCell ⟨k5,1,none⟩ r1).setCell ⟨k5,2,none⟩ r2).setCell ⟨k5,3,none⟩ r3).setCell ⟨k5,4,none⟩ r4).setCell ⟨k5,5,none⟩ r5):=
  Keep.setCell (S:=λk=>k=k5) (p:=⟨k5,5,none⟩) (Keep.setCell (S:=λk=>k=k5) (p:=⟨k5,4,none⟩) (Keep.setCell (S:=λk=>k=k5) (p:=⟨k5,3,none⟩) (Keep.setCell (S:=λk=>k=k5) (p:=⟨k5,2,none⟩) (Keep.setCell (S:=λk=>k=k5) (p:=⟨k5,1,none⟩) (Keep.setCell (S:=λk=>k=k5) (p:=k5) (Keep.refl _ _) (.inl rfl) _) (.inl rfl) _) (.inl rfl) _) (.inl rfl) _) (.inl rfl) _) (.inl rfl) _
 exact⟨a5.blk b4 a4,(((((b5.set_ 0 _).set_ 1 _).set_ 2 _).set_ 3 _).set_ 4 _).set_ 5 _,(a3.mono (λi _ h=>.inl h)).trans (a5.mono (λi _ h=>.inr h)) (λi _ h=>h)⟩
theorem StOwn.lay9 (h:StOwn B w iv ov mv S) {W:World} (h4:Blk w k4 #[x0,x1,x2] 26) (h5:Blk w k5 #[z0,z1,z2,z3,z4,z5] 52)
 (hk:Keep (λk=>k=k4\/k=k5) w W):StOwn B W iv ov mv S:=
 h.keep hk (λg hg=>by
  rcases hg with rfl|rfl
  .exact⟨_,26,h4,by decide,by decide,by decide,by decide⟩
  exact⟨_,52,h5,by decide,by decide,by decide,by decide⟩)
def Ran (B:Nat) (wb w3:World) (d b:Nat) (c:PCall) (R:Except Int (PSt × PRes)) (e:Ending):Prop:=
 Below B wb w3/\match R with
  |.ok (S',r')=>e=.returned (.tuple #[])/\DoAt B w3 d b S' c r'
  |.error k=>e=bR k
theorem aRN {wb w2:World} {iv' ov' mv':Value} {c:PCall} {R:Except Int (PSt × PRes)} (hb2:Bl wb w2) (hso:StOwn wb.heap.size w2 iv' ov' mv' S)
 (hrun:∀B ww d b,DoAt B ww d b S c PRes.zero->B<=ww.heap.size->Calls prog 108 #[.pointer (some ⟨d,0,none⟩)] ww (bL B ww d b c R)):
 Calls prog 108 #[.pointer (some ⟨w2.heap.size+1,0,none⟩)] ((w2.alloc (.cells #[iv',ov',mv'] 26)).alloc (.cells (jY w2.heap.size c PRes.zero (.slice none 0 0)) 136)) λe w3=>Ran wb.heap.size wb w3 (w2.heap.size+1) w2.heap.size c R e:=by
 have hs:=hb2.size;have hk:Keep (λ_=>False) w2 ((w2.alloc (.cells #[iv',ov',mv'] 26)).alloc (.cells (jY w2.heap.size c PRes.zero (.slice none 0 0)) 136)):=((Keep.refl _ _).alloc _).alloc _;refine(hrun wb.heap.size _ (w2.heap.size+1) w2.heap.size ⟨iv',ov',mv',.slice none 0 0,hs,by omega,?_,(Blk.new _ _ _).alloc _,hso.keep hk (λ_ h=>h.elim),.inl ⟨rfl,rfl⟩⟩ (by simp;omega)).mono ?_
 .exact Blk.new_i (w2.alloc (.cells #[iv',ov',mv'] 26)) _ 136 _
 rintro e w3 ⟨h1,h2⟩;exact⟨hb2.trans ((hk.below hs (λ_ _ h=>h)).trans h1),h2⟩
theorem OwnP.form {e:TypeId} {k:Nat} {v:Value} {rows:List (List Value)} (h:OwnP B w e k v rows):∃a n c,v=.slice a n c:=by obtain⟨a,c,e,_⟩:=h.row;exact⟨_,_,_,e⟩
def doM (S:PSt) (c:PCall) (R:Except Int (PSt × PRes)):PSt × PRes:=if fP S c=true then(match R with|.ok x=>x|.error k=>(S,PRes.fail k))else(S,PRes.fail 9)
def aED (B:Nat) (S:PSt) (r:PRes) (e:Ending) (w':World):Prop:=
 ∃iv ov mv nv,e=.returned (.tuple #[.agg #[iv,ov,mv],.agg #[r.code,r.fd,r.num,r.dir,r.data,nv]])/\StOwn B w' iv ov mv S/\OwnP B w' 9 1 nv (r.names.map cL)
theorem bBO (iv ov mv:Value) (S:PSt) (c:PCall) (R:Except Int (PSt × PRes)) (w:World) (h:StRead w iv ov mv S) (hwf:S.wf)
 (hrun:fP S c=true->∀B ww d b,DoAt B ww d b S c PRes.zero->B<=ww.heap.size->Calls prog 108 #[.pointer (some ⟨d,0,none⟩)] ww (bL B ww d b c R)):
 Calls prog 73 #[.agg #[iv,ov,mv],c.val] w λe w'=>Bl w w'/\aED w.heap.size (doM S c R).1 (doM S c R).2 e w':=by
 have c7:∀(fn:Fn) (first cap:Array Value) (w:World),(Instr.makeFunc fn first cap).run prog w=.ok (.func fn first cap) w:=λ_ _ _ _=>rfl;have c8:iv.oneCell'=true:=by obtain⟨_,_,_,h3,_⟩:=h;exact h3.one
 have c9:=h.1.one;have d0:=h.2.1.one;have a7:∀ww,Bl w ww->Calls prog 106 #[.agg #[iv,ov,mv]] ww _:=λww hb=>aLJ iv ov mv S ww (h.below hb (zC _)) hwf;have a2:∀ww,Bl w ww->Blk ww w.heap.size #[iv,ov,mv] 26->Blk ww (w.heap.size+1) c.cells.toArray 28->vR ww 105 #[.pointer w.heap.size,.pointer (some ⟨w.heap.size+1,0,none⟩)] (.bool (fP S c)):=
  λww hb h0 h1=>bAK w.heap.size (w.heap.size+1) S c ww (SP.of_blk h0 (h.below hb (zC _))) hwf h1.lt.lt (λt u hu=>by rw[h1.cell];simpa using hu)
 have HS:=bJ h hwf;unfold doM;generalize hm:fP S c=m at a2 hrun |-;clear h hwf;rcases m with _|_
 .simp only[zP,if_false];clear hrun;unfold PCall.val;unfold PCall.cells at a2
  go_enter_defers Tryz.func73,Tryz.ntmps73
  go_wp2_with(first|(go_at_call 105;refine aE (a2 _ (bel _ _) (by repeat(first|exact Blk.new_i _ _ _ _|refine Blk.alloc ?_ _)) (by repeat(first|exact Blk.new_i _ _ _ _|refine Blk.alloc ?_ _))) λp=>?_)|(go_at_call 106;refine(a7 _ (bel _ _)).mono ?_;rintro e w2 ⟨iv',ov',mv',rfl,hb2,hso⟩;have a1:Bl w w2:=(bel w _).trans (hb2.mono (bel w _).size);have a4:=hso.mono (bel w _).size;have g4:Blk w2 (w.heap.size+1+1) #[.slice none 0 0,.slice none 0 0,.slice none 0 0] 26:=Blk.below (by repeat(first|exact Blk.new_i _ _ _ _|refine Blk.alloc ?_ _|refine Blk.junk ?_ _)) hb2 (by simp;omega);have g5:Blk w2 (w.heap.size+1+1+1) () 52:=Blk.below (by repeat(first|exact Blk.new_i _ _ _ _|refine Blk.alloc ?_ _|refine Blk.junk ?_ _)) hb2 (by simp;omega);have b1:Bel w w2:=⟨a1⟩;have j4:=g4.lt;have j5:=g5.lt;have y0:=g4.cell 0;have y1:=g4.cell 1;have y2:=g4.cell 2;have q0:=g5.cell 0;have q1:=g5.cell 1;have q2:=g5.cell 2;have q3:=g5.cell 3;have q4:=g5.cell 4;have q5:=g5.cell 5;simp only[yD,zH,zV]at y0 y1 y2 q0 q1 q2 q3 q4 q5;have b2:=g4.frozen 0;have b3:=g4.frozen 1;have b4:=g4.frozen 2;have b5:=g5.frozen 0;have b6:=g5.frozen 1;have b7:=g5.frozen 2;have b8:=g5.frozen 3;have b9:=g5.frozen 4;have c0:=g5.frozen 5;obtain⟨ja,jn,jcap,ka,kn,kcap,la,ln,lcap,rfl,rfl,rfl⟩:=hso.forms;have H2:=mJ a1 a4 g4 g5;clear hb2 hso a4 a1 g4 g5));obtain⟨a1,a4,g4,g5⟩:=H2.out;obtain⟨e4,e5,hk⟩:=aLQ (.slice ja jn jcap) (.slice ka kn kcap) (.slice la ln lcap) (.int .i64 9) (.int .i64 0) (.int .i64 0) (.bool false) (.string ⟨#[]⟩) (.slice none 0 0) g4 g5;exact⟨_,aRM _ (w.heap.size+1+1) (w.heap.size+1+1+1) _ _ _ _ _ _ _ _ _ _ rfl rfl e4 e5,a1.trans (hk.below a1.size (λi hi h=>by rcases h with h|h<;>omega)),_,_,_,_,rfl,a4.lay9 g4 g5 hk,.inl ⟨rfl,rfl⟩⟩
 simp only[if_true];have a6:=hrun rfl;clear hrun;unfold PCall.val;unfold PCall.cells at a2;rcases R with k|⟨S',r'⟩
 .go_enter_defers Tryz.func73,Tryz.ntmps73
  go_wp2_with(first|(go_at_call 105;refine aE (a2 _ (bel _ _) (by repeat(first|exact Blk.new_i _ _ _ _|refine Blk.alloc ?_ _)) (by repeat(first|exact Blk.new_i _ _ _ _|refine Blk.alloc ?_ _))) λp=>?_)|(go_at_call 106;refine(a7 _ (bel _ _)).mono ?_;rintro e w2 ⟨iv',ov',mv',rfl,hb2,hso⟩;have a1:Bl w w2:=(bel w _).trans (hb2.mono (bel w _).size);have g2:Blk w2 w.heap.size #[iv,ov,mv] 26:=Blk.below (by repeat(first|exact Blk.new_i _ _ _ _|refine Blk.alloc ?_ _|refine Blk.junk ?_ _)) hb2 (by simp;omega);have g3:Blk w2 (w.heap.size+1) #[c.kind,c.core,c.fd,c.off,c.num,c.path,c.path2,c.data] 28:=Blk.below (by repeat(first|exact Blk.new_i _ _ _ _|refine Blk.alloc ?_ _|refine Blk.junk ?_ _)) hb2 (by simp;omega);have g4:Blk w2 (w.heap.size+1+1) #[.slice none 0 0,.slice none 0 0,.slice none 0 0] 26:=Blk.below (by repeat(first|exact Blk.new_i _ _ _ _|refine Blk.alloc ?_ _|refine Blk.junk ?_ _)) hb2 (by simp;omega);have g5:Blk w2 (w.heap.size+1+1+1) () 52:=Blk.below (by repeat(first|exact Blk.new_i _ _ _ _|refine Blk.alloc ?_ _|refine Blk.junk ?_ _)) hb2 (by simp;omega);have b1:Bel w w2:=⟨a1⟩;have j3:=g3.lt;have y0:=g3.cell 0;have y1:=g3.cell 1;have y2:=g3.cell 2;have y3:=g3.cell 3;have y4:=g3.cell 4;have y5:=g3.cell 5;have y6:=g3.cell 6;have y7:=g3.cell 7;simp only[yD,zH,zV]at y0 y1 y2 y3 y4 y5 y6 y7;obtain⟨ja,jn,jcap,ka,kn,kcap,la,ln,lcap,rfl,rfl,rfl⟩:=hso.forms;have HX:=aC (aRN hb2 hso a6);have H2:=mJ a1 g2 g4 g5;clear hb2 hso a1 g2 g3 g4 g5)|(go_at_call 108;refine HX.out.mono ?_;rintro e w3 ⟨hb3,hr3⟩;have a8:e=bR k:=hr3;clear hr3;subst a8;have g2:Blk w3 w.heap.size #[iv,ov,mv] 26:=Blk.below (by repeat(first|exact Blk.new_i _ _ _ _|refine Blk.alloc ?_ _|refine Blk.junk ?_ _)) hb3 (by simp;omega);have g4:Blk w3 (w.heap.size+1+1) #[.slice none 0 0,.slice none 0 0,.slice none 0 0] 26:=Blk.below (by repeat(first|exact Blk.new_i _ _ _ _|refine Blk.alloc ?_ _|refine Blk.junk ?_ _)) hb3 (by simp;omega);have g5:Blk w3 (w.heap.size+1+1+1) () 52:=Blk.below (by repeat(first|exact Blk.new_i _ _ _ _|refine Blk.alloc ?_ _|refine Blk.junk ?_ _)) hb3 (by simp;omega);have a0:Bl w w3:=(bel w _).trans (hb3.mono (bel w _).size);clear hb3));refine leaves_cons (f:=107) (args:=#[.pointer w.heap.size,.pointer (some ⟨w.heap.size+1+1,0,none⟩),.pointer (some ⟨w.heap.size+1+1+1,0,none⟩)]) (by simp) (by simp[go_sem]) ?_;refine(vJ w.heap.size w.heap.size (w.heap.size+1+1) (w.heap.size+1+1+1) iv ov mv S k w3 _ _ _ _ _ _ _ _ _ HS.out.2 g2 (HS.out.1.below a0 (zC _)) g4 g5 (by omega) (by omega) (by omega) a0.size).mono ?_;rintro e u' w4 ⟨rfl,rfl,hb4,iv4,ov4,mv4,c4,c5,hso4⟩;exact⟨_,aRM _ (w.heap.size+1+1) (w.heap.size+1+1+1) _ _ _ _ _ _ _ _ _ _ rfl rfl c4 c5,a0.trans hb4,_,_,_,_,rfl,hso4,.inl ⟨rfl,rfl⟩⟩
 go_enter_defers Tryz.func73,Tryz.ntmps73
 go_wp2_with(first|(go_at_call 105;refine aE (a2 _ (bel _ _) (by repeat(first|exact Blk.new_i _ _ _ _|refine Blk.alloc ?_ _)) (by repeat(first|exact Blk.new_i _ _ _ _|refine Blk.alloc ?_ _))) λp=>?_)|(go_at_call 106;refine(a7 _ (bel _ _)).mono ?_;rintro e w2 ⟨iv',ov',mv',rfl,hb2,hso⟩;have a1:Bl w w2:=(bel w _).trans (hb2.mono (bel w _).size);have g2:Blk w2 w.heap.size #[iv,ov,mv] 26:=Blk.below (by repeat(first|exact Blk.new_i _ _ _ _|refine Blk.alloc ?_ _|refine Blk.junk ?_ _)) hb2 (by simp;omega);have g3:Blk w2 (w.heap.size+1) #[c.kind,c.core,c.fd,c.off,c.num,c.path,c.path2,c.data] 28:=Blk.below (by repeat(first|exact Blk.new_i _ _ _ _|refine Blk.alloc ?_ _|refine Blk.junk ?_ _)) hb2 (by simp;omega);have g4:Blk w2 (w.heap.size+1+1) #[.slice none 0 0,.slice none 0 0,.slice none 0 0] 26:=Blk.below (by repeat(first|exact Blk.new_i _ _ _ _|refine Blk.alloc ?_ _|refine Blk.junk ?_ _)) hb2 (by simp;omega);have g5:Blk w2 (w.heap.size+1+1+1) () 52:=Blk.below (by repeat(first|exact Blk.new_i _ _ _ _|refine Blk.alloc ?_ _|refine Blk.junk ?_ _)) hb2 (by simp;omega);have b1:Bel w w2:=⟨a1⟩;have j3:=g3.lt;have y0:=g3.cell 0;have y1:=g3.cell 1;have y2:=g3.cell 2;have y3:=g3.cell 3;have y4:=g3.cell 4;have y5:=g3.cell 5;have y6:=g3.cell 6;have y7:=g3.cell 7;simp only[yD,zH,zV]at y0 y1 y2 y3 y4 y5 y6 y7;obtain⟨ja,jn,jcap,ka,kn,kcap,la,ln,lcap,rfl,rfl,rfl⟩:=hso.forms;have HX:=aC (aRN hb2 hso a6);have H2:=mJ a1 g2 g4 g5;clear hb2 hso a1 g2 g3 g4 g5)|(go_at_call 108;refine HX.out.mono ?_;rintro e w3 ⟨hb3,hr3⟩;have a8:e=.returned (.tuple #[])/\DoAt _ w3 (w2.heap.size+1) w2.heap.size S' c r':=hr3;clear hr3;obtain⟨rfl,hdo⟩:=a8;have g4:Blk w3 (w.heap.size+1+1) #[.slice none 0 0,.slice none 0 0,.slice none 0 0] 26:=Blk.below (by repeat(first|exact Blk.new_i _ _ _ _|refine Blk.alloc ?_ _|refine Blk.junk ?_ _)) hb3 (by simp;omega);have g5:Blk w3 (w.heap.size+1+1+1) () 52:=Blk.below (by repeat(first|exact Blk.new_i _ _ _ _|refine Blk.alloc ?_ _|refine Blk.junk ?_ _)) hb3 (by simp;omega);have a0:Bl w w3:=(bel w _).trans (hb3.mono (bel w _).size);obtain⟨iv3,ov3,mv3,nv3,hB1,hB2,hD,hbk,hst,hnv⟩:=hdo;have a5:=hst.mono (bel w _).size;have a3:=hnv.mono (bel w _).size;have d1:Bel w w3:=⟨a0⟩;obtain⟨ua,un,uc,va,vn,vc,xa,xn,xc,rfl,rfl,rfl⟩:=hst.forms;obtain⟨na,nn,nc,rfl⟩:=hnv.form;have iO:=hbk.lt;have iD:=hD.lt;have x0:=hbk.cell 0;have x1:=hbk.cell 1;have x2:=hbk.cell 2;simp only[yD,zH,zV]at x0 x1 x2;have z0:w3.cell? ⟨w2.heap.size+1,0,none⟩=some (.pointer w2.heap.size):=hD.cell 0;have z9:w3.cell? ⟨w2.heap.size+1,9,none⟩=some (.int .i64 r'.code):=hD.cell 9;have d2:w3.cell? ⟨w2.heap.size+1,10,none⟩=some (.int .i64 r'.fd):=hD.cell 10;have d3:w3.cell? ⟨w2.heap.size+1,11,none⟩=some (.int .i64 r'.num):=hD.cell 11;have d4:w3.cell? ⟨w2.heap.size+1,12,none⟩=some (.bool r'.dir):=hD.cell 12;have d5:w3.cell? ⟨w2.heap.size+1,13,none⟩=some (.string r'.data):=hD.cell 13;have d6:w3.cell? ⟨w2.heap.size+1,14,none⟩=some (.slice na nn nc):=hD.cell 14;have i4:=g4.lt;have i5:=g5.lt;have y0:=g4.cell 0;have y1:=g4.cell 1;have y2:=g4.cell 2;have q0:=g5.cell 0;have q1:=g5.cell 1;have q2:=g5.cell 2;have q3:=g5.cell 3;have q4:=g5.cell 4;have q5:=g5.cell 5;simp only[yD,zH,zV]at y0 y1 y2 q0 q1 q2 q3 q4 q5;have b2:=g4.frozen 0;have b3:=g4.frozen 1;have b4:=g4.frozen 2;have b5:=g5.frozen 0;have b6:=g5.frozen 1;have b7:=g5.frozen 2;have b8:=g5.frozen 3;have b9:=g5.frozen 4;have c0:=g5.frozen 5;have c1:w.heap.size+4<=w2.heap.size:=(by have h1:=(H2.out.2.2.2).lt.lt;omega);have H3:=qM a0 a5 a3 g4 g5;clear hb3 hB1 hB2 hD hbk hst hnv a5 a3 g4 g5 a0));have d7:¬w.heap.size+1+1=w2.heap.size:=by omega
 have d8:¬w.heap.size+1+1=w2.heap.size+1:=by omega
 have c2:¬w2.heap.size=w.heap.size+1+1:=by omega
 have c3:¬w2.heap.size+1=w.heap.size+1+1:=by omega
 refine aH [5,6] true (λw'=>w'.cell? w2.heap.size=some (.slice ua un uc)/\w'.cell? ⟨w2.heap.size,1,none⟩=some (.slice va vn vc)/\w'.cell? ⟨w2.heap.size,2,none⟩=some (.slice xa xn xc)/\w'.cell? ⟨w2.heap.size+1,9,none⟩=some (.int .i64 r'.code)/\w'.cell? ⟨w2.heap.size+1,10,none⟩=some (.int .i64 r'.fd)/\w'.cell? ⟨w2.heap.size+1,11,none⟩=some (.int .i64 r'.num)/\w'.cell? ⟨w2.heap.size+1,12,none⟩=some (.bool r'.dir)/\w'.cell? ⟨w2.heap.size+1,13,none⟩=some (.string r'.data)/\w'.cell? ⟨w2.heap.size+1,14,none⟩=some (.slice na nn nc)) (by kernel_rfl) (by kernel_rfl) ?_ ?_
 · (try dsimp only);(repeat' apply And.intro)<;>go_simp
 repeat
  apply aI0 rfl rfl
  focus
   rintro w' ⟨s0,s1,s2,s3,s4,s5,s6,s7,s8⟩;go_simp
   first|done|rfl
  simp only[Act.put,sA,sZ,sS]
 refine aW rfl rfl ?_;apply Exists.intro;refine⟨?_,?_,?_⟩
 focus
  go_simp;rfl
 focus
  refine .inl ⟨?_,?_,?_,?_,?_,?_,?_,?_,?_⟩<;>go_simp
 simp only[Act.put,sA,sZ,sS];refine aW rfl rfl ?_;apply Exists.intro;refine⟨?_,.inr ⟨rfl,rfl⟩,?_⟩
 focus
  go_simp;rfl
 simp only[Act.put];refine aU ?_;go_wp2_with fail;refine leaves_cons (f:=107) (args:=#[.pointer w.heap.size,.pointer (some ⟨w.heap.size+1+1,0,none⟩),.pointer (some ⟨w.heap.size+1+1+1,0,none⟩)]) (by simp) (by simp[go_sem]) ?_;refine(aKL ⟨w.heap.size,0,none⟩ ⟨w.heap.size+1+1,0,none⟩ ⟨w.heap.size+1+1+1,0,none⟩ _).mono ?_;rintro e u' w4 ⟨rfl,rfl,rfl⟩;obtain⟨a0,a5,a3,g4,g5⟩:=H3.out;obtain⟨e4,e5,hk⟩:=aLQ (.slice ua un uc) (.slice va vn vc) (.slice xa xn xc) (.int .i64 r'.code) (.int .i64 r'.fd) (.int .i64 r'.num) (.bool r'.dir) (.string r'.data) (.slice na nn nc) g4 g5;have e4:=e4.drew;have e5:=e5.drew;have hk:=hk.drew;have a9:=a3.keep hk (λg hg h=>by rcases h with h|h<;>first|exact a3.ne_blk g4 (by decide) hg h|exact a3.ne_blk g5 (by decide) hg h);have b0:=a5.lay9 g4 g5 hk;have c6:=a0.trans (hk.below a0.size (λi hi h=>by rcases h with h|h<;>omega));refine⟨_,aRM _ (w.heap.size+1+1) (w.heap.size+1+1+1) _ _ _ _ _ _ _ _ _ _ rfl rfl e4 e5,?_⟩;exact⟨c6,_,_,_,_,rfl,b0,a9⟩
end
section
variable {P:Program} {Q:Exit->Act->World->Prop} {a:Act} {arr:Array Value} {k:Nat} {o:Oper} {rows:List (List Value)} {w:World}
theorem nQ (w:World) (dT sT ty elem:TypeId) (b o dLen dCap:Nat) (a:Addr) (sLen sCap k:Nat) (cs:List Value)
 (hu:P.underlying dT=some (.slice elem)) (hs:(P.info? elem).map (·.size)=some k) (hn:cs.length=Nat.min sLen dLen*k)
 (hsrc:∀j v,cs[j]? =some v->w.cell? (a.add j)=some v) (hc:∀j,j<cs.length->(w.cell? ⟨b,o+j,none⟩).isSome=true) (hf:∀j,j<cs.length->w.frozen? ⟨b,o+j,none⟩=false) (h1:∀v∈cs,v.oneCell'=true):
 (Builtin.copy_ #[dT,sT] ty #[.slice (some ⟨b,o,none⟩) dLen dCap,.slice (some a) sLen sCap]).run P w=.ok (goInt (Nat.min sLen dLen)) (w.setCells b o cs):=by
 have hl:=run_loadCells_list (P:=P) w a cs hsrc;have a0:=run_storeCells_cells (P:=P) b o cs 0 w (by simpa using hc) (by simpa using hf) h1;cases hq:P.info? elem with
 |none=>simp[hq]at hs
 | some i=>
   have hi:i.size=k:=by simpa[hq]using hs
   simp[Builtin.copy_,run_underlying hu,Builtin.lenOf,Builtin.firstCells,sizeOf,typeInfo,hq,hi,<-hn,hl,a0]
theorem aEK (w:World) {K:Act->World->Prop} (d s:Operand) (t t':TypeId)
 (ho:o.op=.call { callee:=.builtin .copy,args:=#[d,s],argTypes:=#[t,t']}) (v u:Value) (hd:a.eval d=v) (hs:a.eval s=u) {v':Value} {w':World}
 (hr:(Builtin.copy_ #[t,t'] o.type #[v,u]).run P w=.ok v' w') (h:K (a.put o.dst v') w'):o.wp P a w K Q:=by
 unfold Oper.wp execOp;simp only[ho,resolve,invoke,builtin,Sem.run_bind,Sem.run_pure,Result.andThen_ok,map_toArray,xB,map_nil,hd,hs,hr];exact h
theorem mV (w:World) {ops:Array Oper} {rest:List Oper} (hgd:o.guard=none) (d s:Operand) (t t':TypeId)
 (ho:o.op=.call { callee:=.builtin .copy,args:=#[d,s],argTypes:=#[t,t']}) (v u:Value) (hd:a.eval d=v) (hs:a.eval s=u) {v':Value} {w':World}
 (hr:(Builtin.copy_ #[t,t'] o.type #[v,u]).run P w=.ok v' w') (h:wpList P ops Q rest (a.put o.dst v') w'):wpList P ops Q (o::rest) a w:=
 wpList_plain hgd λ_ hK=>aEK w d s t t' ho v u hd hs hr (hK _ _ h)
theorem aCB {d s:Operand} {t t':TypeId}
 (ho:o.op=.call { callee:=.builtin .copy,args:=#[d,s],argTypes:=#[t,t']}) {v u:Value} (hd:a.eval d=v) (hs:a.eval s=u) {v':Value} {w':World}
 (hr:(Builtin.copy_ #[t,t'] o.type #[v,u]).run P w=.ok v' w'):(execOp a.eval o).run P w=.ok (.value v') w':=by
 unfold execOp;simp only[ho,resolve,invoke,builtin,Sem.run_bind,Sem.run_pure,Result.andThen_ok,map_toArray,xB,map_nil,hd,hs,hr]
theorem RowsIn.flat (h:RowsIn arr k rows) (hu:∀cs∈rows,cs.length=k):∀j,j<rows.length*k->arr[j]? =rows.flatten[j]? :=by
 intro i hi;have hk:0<k:=by
  rcases Nat.eq_zero_or_pos k with h0|h0
  .rw[h0]at hi;simp at hi
  exact h0
 have a0:i=i/k*k+i%k:=by rw[Nat.mul_comm];exact(Nat.div_add_mod i k).symm
 have ht:i%k<k:=Nat.mod_lt _ hk;have hq:i/k<rows.length:=Nat.div_lt_of_lt_mul (by rwa [Nat.mul_comm]);have a1:=hu rows[i/k] (getElem_mem hq);have h1:=h (i/k) rows[i/k] (gE hq) (i%k) rows[i/k][i%k] (gE (by omega));have key:∀j,j=i/k*k+i%k->arr[j]? =rows.flatten[j]? :=by intro j hj;rw[hj,pS k rows hu _ _ ht,gE hq];show _=rows[i/k][i%k]?;rw[show rows[i/k][i%k]? =some rows[i/k][i%k]from gE (by omega),h1]
 exact key i a0
theorem Blk.setCells_at (b:Nat) (t:TypeId):∀(vs:List Value) (o:Nat) (w:World) (c:Array Value),Blk w b c t->o+vs.length<=c.size->
 ∃c',Blk (w.setCells b o vs) b c' t/\c'.size=c.size/\(∀j,j<o\/o+vs.length<=j->c'[j]? =c[j]?)/\∀j,j<vs.length->c'[o+j]? =vs[j]?
 |[],o,w,c,h,_=>⟨c,h,rfl,λ_ _=>rfl,λj hj=>by simp at hj⟩
 | v ::r,o,w,c,h,hl=>by
   simp only[zK]at hl;obtain⟨c',h1,h2,h3,h4⟩:=Blk.setCells_at b t r (o+1) (w.setCell ⟨b,o,none⟩ v) (c.setIfInBounds o v) (h.set_ o v) (by rw[Array.size_setIfInBounds];omega);refine⟨c',h1,by rw[h2,Array.size_setIfInBounds],λj hj=>?_,λj hj=>?_⟩
   .simp only[zK]at hj;rw[h3 j (by omega),yE,zA (by omega)]
   rcases j with _|j
   .rw[zN,h3 o (by omega),yE,zB rfl,zB (by omega)];rfl
   simp only[zK]at hj;have:=h4 j (by omega);rw[show o+(j+1)=o+1+j by omega,this];rfl
theorem Keep.setCells {S:Nat->Prop} {b:Nat} (hb:S b):∀(vs:List Value) (o:Nat) {a w:World},Keep S a w->Keep S a (w.setCells b o vs)
 |[],_,_,_,h=>h
 |v::r,o,_,_,h=>Keep.setCells hb r (o+1) (h.setCell (p:=⟨b,o,none⟩) (.inl hb) v)
theorem RowsIn.insert {arr':Array Value} {i:Nat} {row:List Value} (h:RowsIn arr k rows) (hu:∀cs∈rows,cs.length=k) (hr:row.length=k) (hi:i<=rows.length)
 (h1:∀j,j<i*k->arr'[j]? =arr[j]?) (h2:∀t,t<k->arr'[i*k+t]? =row[t]?) (h3:∀j,i*k<=j->j<rows.length*k->arr'[j+k]? =arr[j]?):RowsIn arr' k (rows.take i++row::rows.drop i):=by
 intro q cs hq t u hu';have a0:∀a b:Nat,a<b->a*k+k<=b*k:=λa b hab=>by have:=Nat.mul_le_mul_right k (show a+1<=b from hab);rw[Nat.add_mul]at this;omega
 have a2:(rows.take i).length=i:=by rw[zU];omega
 rcases Nat.lt_trichotomy q i with hqi|hqi|hqi
 .rw[zZ (by omega),yO,zB hqi]at hq;have a1:t<k:=by
   have:=hu cs (mG hq);obtain⟨h,_⟩:=gI.1 hu';omega
  have:=a0 q i hqi;rw[h1 _ (by omega)];exact h q cs hq t u hu'
 .subst hqi;rw[yC (by omega),a2,Nat.sub_self]at hq;cases hq;have a1:t<k:=by
   obtain⟨h,_⟩:=gI.1 hu';omega
  rw[h2 t a1];exact hu'
 rw[yC (by omega),a2,show q-i=(q-i-1)+1 by omega,zV,yN]at hq;have a3:i+(q-i-1)=q-1:=by omega
 rw[a3]at hq;obtain⟨hql,_⟩:=gI.1 hq;have a1:t<k:=by have:=hu cs (mG hq);obtain⟨h,_⟩:=gI.1 hu';omega
 have e:q*k+t=((q-1)*k+t)+k:=by
  have:q*k=(q-1)*k+k:=by rw[show q=(q-1)+1 by omega,Nat.add_mul];simp
  omega
 have g1:i*k<=(q-1)*k:=Nat.mul_le_mul_right _ (by omega);have g2:=a0 (q-1) rows.length hql;rw[e,h3 _ (by omega) (by omega)];exact h (q-1) cs hq t u hu'
end
end Go.Proofs.YtmkapobnfigedaaGreatDoor
