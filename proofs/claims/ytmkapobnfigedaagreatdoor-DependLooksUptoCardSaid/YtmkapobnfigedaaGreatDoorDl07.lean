/- Part of the proof of a law of chapter 15. Conditions: none. -/
import Derived.Test.YtmkapobnfigedaaGreatDoorDl03
import Derived.Test.YtmkapobnfigedaaGreatDoorDl05
set_option linter.unusedVariables false
set_option linter.unusedSimpArgs false
set_option maxRecDepth 100000
set_option maxHeartbeats 8000000
namespace Go.Proofs.YtmkapobnfigedaaGreatDoor
open Go.RowKit
section
theorem tM (ns:List Int):∀(es:List PEnt) (prev:Option ByteArray) (sl:List Int),gN ns prev sl es=true->∀e∈es,0<=aJ ns e.num
 |[],_,_,_,e,he=>by simp at he
 | x ::es,prev,sl,h,e,he=>by
   unfold gN at h;split at h
   .simp at h
   split at h
   .simp at h
   split at h
   .simp at h
   split at h
   .simp at h
   rename_i h4;rcases List.mem_cons.1 he with rfl|he
   .omega
   split at h
   .split at h
    .simp at h
    exact tM ns es _ _ h e he
   simp at h
variable {S:PSt} {made:List Int}
theorem rT (h:dH S=true):∀x∈S.ins,∀e∈x.ents,0<=aJ S.nums e.num:=by
 unfold dH at h;split at h
 .simp at h
 split at h
 .split at h
  .simp only[zE,yX]at h;intro x hx e he;have:=h.2 x hx;unfold inB at this
   split at this
   .simp only[zE]at this;exact tM _ _ _ _ this.2 e he
   simp only[zE,zI]at this;rw[zT this.1]at he;simp at he
  simp at h
 simp at h
theorem aJK {n:Int} (h:eG made n=true) (h8:made.length<=8) (hm:∀m∈made,m<=32):2<=n/\n<=257:=by
 unfold eG at h;split at h
 .simp at h
 rename_i h2;split at h
 .rename_i m hm'
  have:=hm m (mG hm');simp only[zI]at h;omega
 simp at h
theorem wL (h8:made.length<=8) (hm:∀m∈made,m<=32):∀(l:List Int) (p:Int),mB made p l=true->p<=257->p+l.length<=257
 |[],p,_,hp=>by simpa using hp
 | n::l,p,h,hp=>by
   unfold mB at h;split at h
   .simp at h
   rename_i h1;split at h
   .simp at h
   rename_i h2;have hn:eG made n=true:=by simpa using h2
   have:=wL h8 hm l n h (aJK hn h8 hm).2;simp only[zK];omega
theorem aAM (h1:cZ S.made=true) (h2:dH S=true):0<S.ins.length/\S.ins.length<=257:=by
 unfold cZ at h1;simp only[zE,yL,yU,yV]at h1;have hm:∀m∈S.made,m<=32:=by intro m hm;have h3:=h1.2;rw[List.any_eq_false]at h3;have:=h3 m hm;unfold dK at this;simp at this;omega
 unfold dH at h2;split at h2
 .simp at h2
 rename_i x r hins;split at h2
 .split at h2
  .simp only[zE]at h2;have:=wL (by omega) hm _ _ h2.1 (by omega);rw[hins];simp only[zK,lM]at this |-;omega
  simp at h2
 simp at h2
def dP (many:List Int) (found:List Bool) (op:List PDesc):Nat->List PIn->Bool
 |_,[]=>true
 | i,x::r=>if i=0 then dP many found op (i+1) r else
   if(x.dir&&(!(many.getD i 0==1)||!found.getD i false))=true then false else
   if(!x.dir&&(!found.getD i false&&(decide (0<many.getD i 0)||!mC op x.num)))=true then false else dP many found op (i+1) r
def dB (S:PSt):Bool:=if(cZ S.made&&dH S&&mY S)=true then dP (fB S) (dZ S) S.op 0 S.ins else false
theorem aHB (ns:List Int) (ins:List PIn):∀b td fd,(bfs ns ins b td fd).length=fd.length
 |0,_,_=>rfl
 |_+1,[],_=>rfl
 | b+1,k::td,fd=>by show(bfs ns ins b (cK ns (td,fd) (match ins[k]? with|some x=>x.ents|none=>[])).1 (cK ns (td,fd) (match ins[k]? with|some x=>x.ents|none=>[])).2).length=_;rw[aHB,wY]
theorem aEQ (S:PSt):(fB S).length=S.ins.length:=by unfold fB;rw[aKD];simp
theorem aCD (S:PSt):(dZ S).length=S.ins.length:=by unfold dZ;rw[aHB];simp
theorem StRead.box {w:World} {iv ov mv:Value} (h:StRead w iv ov mv S) (t:TypeId):SP (w.alloc (.cells #[iv,ov,mv] t)) w.heap.size S:=
 ⟨by simp,iv,ov,mv,by go_simp,by go_simp,by go_simp,h.below ((Below.refl _ _).alloc (zC _) _) (zC _)⟩
theorem aCE (iv ov mv:Value) (S:PSt) (w:World) (h:StRead w iv ov mv S) (hwf:S.wf):
 vR w 39 #[.agg #[iv,ov,mv]] (.bool (dB S)):=by
 have a0:=h.box 26;have H1:∀ww,Below (w.alloc (.cells #[iv,ov,mv] 26)).heap.size (w.alloc (.cells #[iv,ov,mv] 26)) ww->Calls Tryz.prog 68 #[.pointer (some ⟨w.heap.size,0,none⟩)] ww _:=λww hb=>aKY _ S ww (a0.below hb (zC _)) hwf;have H2:∀ww,Below (w.alloc (.cells #[iv,ov,mv] 26)).heap.size (w.alloc (.cells #[iv,ov,mv] 26)) ww->Calls Tryz.prog 69 #[.pointer (some ⟨w.heap.size,0,none⟩)] ww _:=λww hb=>aMS _ S ww (a0.below hb (zC _)) hwf;have H3:∀ww,Below (w.alloc (.cells #[iv,ov,mv] 26)).heap.size (w.alloc (.cells #[iv,ov,mv] 26)) ww->Calls Tryz.prog 70 #[.pointer (some ⟨w.heap.size,0,none⟩)] ww _:=λww hb=>aJQ _ S ww (a0.below hb (zC _)) hwf;have H4:cZ S.made=true->dH S=true->∀ww,Below (w.alloc (.cells #[iv,ov,mv] 26)).heap.size (w.alloc (.cells #[iv,ov,mv] 26)) ww->Calls Tryz.prog 71 #[.pointer (some ⟨w.heap.size,0,none⟩)] ww λe w'=>∃mv fv,e=.returned (.tuple #[mv,fv])/\Below ww.heap.size ww w'/\RowAt w' 1 mv ((fB S).map aK)/\RowAt w' 1 fv ((dZ S).map bK):=
  λh1 h2 ww hb=>aKF _ S ww (a0.below hb (zC _)) hwf (aAM h1 h2).1 (by have:=(aAM h1 h2).2;omega) (rT h2)
 have h1:=h.1.one;have h2:=h.2.1.one;have h3:iv.oneCell'=true:=by obtain⟨_,_,_,h3,_⟩:=h;exact h3.one
 have HL:=bB (aEQ S) (aCD S);unfold dB;generalize hm1:cZ S.made=m1 at *;generalize hm2:dH S=m2 at *;generalize mY S=m3 at *;rcases m1 with _|_
 .clear a0 h hwf H2 H3 H4
  go_enter Tryz.func39,Tryz.ntmps39;go_wp2_with((go_at_call 68;refine aE (H1 _ (bel (w.alloc (.cells #[iv,ov,mv] 26)) _)) λp=>?_));go_ret;exact⟨rfl,bel _ _⟩
 rcases m2 with _|_
 .clear a0 h hwf H3 H4
  go_enter Tryz.func39,Tryz.ntmps39;go_wp2_with(first|(go_at_call 68;refine aE (H1 _ (bel (w.alloc (.cells #[iv,ov,mv] 26)) _)) λp=>?_)|(go_at_call 69;refine aE (H2 _ (bel (w.alloc (.cells #[iv,ov,mv] 26)) _)) λp=>?_));go_ret;exact⟨rfl,bel _ _⟩
 rcases m3 with _|_
 .clear a0 h hwf H4
  go_enter Tryz.func39,Tryz.ntmps39;go_wp2_with(first|(go_at_call 68;refine aE (H1 _ (bel (w.alloc (.cells #[iv,ov,mv] 26)) _)) λp=>?_)|(go_at_call 69;refine aE (H2 _ (bel (w.alloc (.cells #[iv,ov,mv] 26)) _)) λp=>?_)|(go_at_call 70;refine aE (H3 _ (bel (w.alloc (.cells #[iv,ov,mv] 26)) _)) λp=>?_));go_ret;exact⟨rfl,bel _ _⟩
 simp only[Bool.and_self,if_true];have H5:∀ww,Below (w.alloc (.cells #[iv,ov,mv] 26)).heap.size (w.alloc (.cells #[iv,ov,mv] 26)) ww->∀n,vR ww 72 #[.pointer (some ⟨w.heap.size,0,none⟩),.int .i64 n] (.bool (mC S.op n)):=λww hb n=>aNL _ S n ww (a0.below hb (zC _)) hwf;have h4:=H4 rfl rfl;have a7:=hwf.1;have HB:=aG h;clear H4 h hwf hm1 hm2;obtain⟨R,hR⟩:∃R,dP (fB S) (dZ S) S.op 0 S.ins=R:=⟨_,rfl⟩;rw[hR];have HR:=aG hR;clear hR;go_enter Tryz.func39,Tryz.ntmps39;go_wp2_with(first|(go_at_call 68;refine aE (H1 _ (bel (w.alloc (.cells #[iv,ov,mv] 26)) _)) λp=>?_)|(go_at_call 69;refine aE (H2 _ (bel (w.alloc (.cells #[iv,ov,mv] 26)) _)) λp=>?_)|(go_at_call 70;refine aE (H3 _ (bel (w.alloc (.cells #[iv,ov,mv] 26)) _)) λp=>?_)|(go_at_call 71;refine(h4 _ (bel (w.alloc (.cells #[iv,ov,mv] 26)) _)).mono ?_;rintro e wz ⟨mv',fv',rfl,hbz,hr1,hr2⟩;have a1:=(bel (w.alloc (.cells #[iv,ov,mv] 26)) _).trans (hbz.mono (bel (w.alloc (.cells #[iv,ov,mv] 26)) _).size);have a4:Below w.heap.size w wz:=((Below.refl _ _).alloc (zC _) _).trans (a1.mono (by simp));obtain⟨hlz,ivz,ovz,mvz,z0,z1,z2,hrz⟩:=a0.below a1 (zC _);obtain⟨ai,capi,rfl,hati⟩:=hrz.ins_at2;have HI:=dR hati a1 a4;obtain⟨am,cm,rfl,hmat⟩:=hr1.at_;obtain⟨af,cf,rfl,hfat⟩:=hr2.at_;have HM:=bB hmat hfat;rw[lM,lM,HL.out.1,HL.out.2];clear hbz a1 hrz hati hr1 hr2 hmat hfat a4 z1 z2;have iZ:BlockLt w.heap.size wz:=⟨hlz⟩))
 go_loopw[24] (λi wr=>∃(q:Nat),i=.int .i64 q/\q<=S.ins.length/\dP (fB S) (dZ S) S.op q (S.ins.drop q)=R/\Below wz.heap.size wz wr) (λi _=>(S.ins.length-intOf i).toNat)
 case atStart=>exact⟨0,rfl,by omega,HR.out,bel _ _⟩
 obtain⟨q,rfl,hq,hre,hbr⟩:=hrel;have b1:Bel wz wr:=⟨hbr⟩;have a4:Below w.heap.size w wr:=HI.out.2.2.trans (hbr.mono HI.out.2.2.size);have b2:Bel w wr:=⟨a4⟩;have b3:BlockLt w.heap.size wr:=⟨by have:=hbr.size;have:=iZ.lt;omega⟩;by_cases hlt:q<S.ins.length
 .obtain ⟨x,hx⟩:∃x,S.ins[q]? =some x:=⟨_,gE hlt⟩
  rw[bY hx]at hre;unfold dP at hre;obtain⟨bi,offi,ev1,rfl,iG0,ho1,hev,hcl⟩:=HI.out.1 q x hx;obtain⟨iGr,y0,y1,y2,y3⟩:=hcl wr hbr;obtain⟨mq,hmq⟩:∃mq,(fB S)[q]? =some mq:=⟨_,gE (by have:=HL.out.1;omega)⟩;obtain⟨fq,hfq⟩:∃fq,(dZ S)[q]? =some fq:=⟨_,gE (by have:=HL.out.2;omega)⟩;obtain⟨bm,offm,rfl,iM0,iMr,hcm⟩:=HM.out.1 wr hbr q (aK mq) (by rw[gM,hmq];rfl);obtain⟨bf,offf,rfl,iF0,iFr,hcf⟩:=HM.out.2 wr hbr q (bK fq) (by rw[gM,hfq];rfl);have m0:=hcm 0 _ rfl;have f0:=hcf 0 _ rfl;rw[Nat.mul_one,zN]at m0 f0;rw[zG,zG,hmq,hfq,Option.getD_some,Option.getD_some]at hre;have a5:∀ww,Below wr.heap.size wr ww->Calls Tryz.prog 72 #[.pointer (some ⟨w.heap.size,0,none⟩),.int .i64 x.num] ww _:=λww hww=>H5 ww (HI.out.2.1.trans ((hbr.trans (hww.mono hbr.size)).mono HI.out.2.1.size)) x.num;generalize mC S.op x.num=ob at a5 hre;have a8:(q:Int)<S.ins.length:=by omega
  obtain⟨ae,ce,rfl,-⟩:=hev;rw[lM]at y2;clear hx hcl hcm hcf hmq hfq H5 H1 H2 H3 h4 a0;by_cases hq0:q=0
  .have a6:(q:Int)=0:=by omega
   rw[zB hq0]at hre;have a2:=aG hre;clear hre a8 a6;subst hq0;simp only[Nat.zero_mul,zN]at y0 y1 y2 y3;go_wp2_with fail;go_roundw
   case rel=>exact⟨1,rfl,by omega,a2.out,bel _ _⟩
   simp[intOf];omega
  rw [zA hq0]at hre;have b4:((q:Int)==0)=false:=by simpa using hq0
  have a9:(q==0)=false:=by simpa using hq0
  generalize x.dir=d at hre y1;rcases d with _|_
  .simp only[yJ,zP,if_false,Bool.not_false,xA]at hre;rcases fq with _|_
   .simp only[Bool.not_false,xA]at hre;by_cases hm:0<mq
    .have a3:decide (0<mq)=true:=decide_eq_true hm;rw[a3]at hre;simp only[Bool.true_or,if_true]at hre;subst hre;go_wp2_with fail;go_ret;exact⟨rfl,bel _ _⟩
    have a3:decide (0<mq)=false:=yM hm;rw[a3,Bool.false_or]at hre;rcases ob with _|_
    .simp only[Bool.not_false,if_true]at hre;subst hre;go_wp2_with((go_at_call 72;refine aE (a5 _ (bel _ _)) λp=>?_))
     go_ret;exact⟨rfl,bel _ _⟩
    simp only[Bool.not_true,zP,if_false]at hre;have a2:=aG hre;clear hre;go_wp2_with((go_at_call 72;refine aE (a5 _ (bel _ _)) λp=>?_));go_roundw
    case rel=>exact⟨q+1,by go_num,by omega,a2.out,bel _ _⟩
    simp[intOf];omega
   simp only[Bool.not_true,yJ,zP,if_false]at hre;have a2:=aG hre;clear hre;go_wp2_with fail;go_roundw
   case rel=>exact⟨q+1,by go_num,by omega,a2.out,bel _ _⟩
   simp[intOf];omega
  simp only[xA,Bool.not_true,yJ,zP,if_false]at hre;by_cases hm:mq=1
  .have a3:(mq==1)=true:=by simpa using hm
   rw[a3]at hre;rcases fq with _|_
   .simp only[Bool.not_true,Bool.not_false,Bool.false_or,if_true]at hre;subst hre;subst hm;go_wp2_with fail;go_ret;exact⟨rfl,bel _ _⟩
   simp only[Bool.not_true,Bool.false_or,zP,if_false]at hre;have a2:=aG hre;clear hre;subst hm;go_wp2_with fail;go_roundw
   case rel=>exact⟨q+1,by go_num,by omega,a2.out,bel _ _⟩
   simp[intOf];omega
  have a3:(mq==1)=false:=by simpa using hm
  rw[a3]at hre;simp only[Bool.not_false,Bool.true_or,if_true]at hre;subst hre;go_wp2_with fail;go_ret;exact⟨rfl,bel _ _⟩
 rw[zS (by omega)]at hre;have b0:R=true:=by rw[<-hre];rfl
 subst b0;clear hre;go_wp2_with fail;go_ret;exact⟨rfl,bel _ _⟩
end
end Go.Proofs.YtmkapobnfigedaaGreatDoor
