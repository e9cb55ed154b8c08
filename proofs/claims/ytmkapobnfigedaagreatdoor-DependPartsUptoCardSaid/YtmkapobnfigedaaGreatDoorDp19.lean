/- A part of a proof of a law. Conditions: none. -/
import Derived.Test.YtmkapobnfigedaaGreatDoorDp18
set_option linter.unusedVariables false
set_option linter.unusedSimpArgs false
set_option maxRecDepth 100000
set_option maxHeartbeats 40000000
namespace Go.Proofs.YtmkapobnfigedaaGreatDoor
open Go.Proofs.Tryz List Go.RowKit
section
theorem aCQ (S:PSt) (iv ov mv:Value) (n:Int) (w:World) (h:StRead w iv ov mv S) (hlen:S.op.length<=1000000000):
 vR w 63 #[.agg #[iv,ov,mv],.int .i64 n] (.bool (fI S n)):=by
 obtain⟨ai,ni,ci,ao,no,co,am,nm,cm,rfl,rfl,rfl⟩:=h.slices;obtain⟨a,cap,e1,hat⟩:=h.1.at_;rw[lM]at e1;cases e1;have HA:=aC hat;clear hat h;obtain⟨R,hR⟩:=gAB (fI S n);rw[hR];unfold fI at hR;have HR:=aC hR;clear hR;unfold vR;go_in;go_wp2
 go_loopw[5] (λi wr=>∃(q:Nat),i=.int .i64 q/\q<=S.op.length/\((S.op.drop q).any λd=>d.num==n)=R/\Bl w wr/\Blk wr w.heap.size #[.slice ai ni ci,.slice ao S.op.length co,.slice am nm cm] 26) (λi _=>(S.op.length-intOf i).toNat)
 case atStart=>exact⟨0,rfl,by omega,HR.out,bel _ _,Blk.new w _ 26⟩
 case round=>
  obtain⟨q,rfl,hq,hre,hb,hblk⟩:=hrel;have iB:Bel w wr:=⟨hb⟩;have iL:=hblk.lt;have s1:=hblk.cell 1;simp at s1;have HB:=aC hblk;clear hblk;by_cases hlt:q<S.op.length
  .obtain⟨z,hz⟩:=gAA hlt
   obtain⟨b,off,rfl,iG0,iG,hc⟩:=HA.out wr hb q z.cells (by rw[gM,hz];rfl);have c2:=hc 2 _ rfl;rw[cQ hz,any_cons]at hre;clear hz hc;rcases hpz:(z.num==n)with _|_
   .rw[hpz,Bool.false_or]at hre;have HZ:=aC hre;clear hre;go_wp2
    go_roundw
    case rel=>exact⟨q+1,by go_num,by omega,HZ.out,bel _ _,HB.out⟩
    simp[intOf];omega
   rw[hpz,Bool.true_or]at hre;subst hre;go_wp2;go_ret;exact gAC
  .rw[zS (by omega)]at hre;obtain rfl:R=false:=by rw[<-hre];rfl
   go_wp2;go_ret;exact gAC

theorem lB (S:PSt):∀g st fd,(fZ S g st fd).length=fd.length
 |0,_,fd=>rfl
 |_+1,[],fd=>rfl
 | g + 1,n::st,fd=>by
   unfold fZ;split
   .exact lB S g st fd
   split
   .exact lB S g st fd
   split
   .rw[lB,yB]
   rfl
variable {S:PSt} {q:Nat} {x:PIn}
theorem sG (h:¬(1<=S.made.length/\S.made.length<=8/\1<=S.ins.length/\S.ins.length<=257)):lU S=false:=by unfold lU;rw[yM h];rfl
theorem aGW (hx:S.ins[0]? =some x) (h:(x.num==1&&x.dir)=false):lU S=false:=by unfold lU;rw[hx];simp only[h,yJ,Bool.and_false]
theorem aSW (h:vG S=false):lU S=false:=by unfold lU;rw[h];simp only[yJ,Bool.and_false]
theorem aGX {m:Int} (hm:S.made[q]? =some m) (h:¬(0<=m/\m<=32)):lU S=false:=by
 unfold lU
 have:(S.made.all λm=>decide (0<=m/\m<=32))=false:=by rw[all_eq_false];exact⟨m,mG hm,by simpa using h⟩
 rw[this];simp only[yJ,Bool.and_false]
theorem aSX (hx:S.ins[q]? =some x) (h:inR S q x=false):lU S=false:=by
 rcases e:lU S with _|_
 .rfl
 unfold lU at e;simp only[zE]at e;have:=vO e.2.2.2.2 hx;rw[h]at this;cases this
theorem aSY (h1:1<=S.made.length/\S.made.length<=8/\1<=S.ins.length/\S.ins.length<=257) (hx:S.ins[0]? =some x) (h2:(x.num==1&&x.dir)=true) (h3:vG S=true) (h4:∀(q:Nat) (m:Int),S.made[q]? =some m->0<=m/\m<=32) (h5:∀(q:Nat) (x:PIn),S.ins[q]? =some x->inR S q x=true):lU S=true:=by
 unfold lU;rw[decide_eq_true h1,hx,h3];simp only[h2,xC,zE,yY,zI];refine⟨λm hm=>?_,?_⟩
 .obtain⟨q,hq⟩:=mem_iff_getElem?.1 hm;exact h4 q m hq
 unfold aGS;rw[yY];intro q hq;have hl:=mem_range.1 hq;rw[gE hl];exact h5 q _ (gE hl)
theorem aSZ (S : PSt) (iv ov mv:Value) (w:World) (h:StRead w iv ov mv S) (hwf:S.wf):
 vR w 30 #[.agg #[iv,ov,mv]] (.bool (lU S)):=by
 have b8:vB w 58 #[.agg #[iv,ov,mv]] (.bool (vG S)):=λww hb=>by have:=aZP S iv ov mv ww (h.below hb (zC _)) hwf;exact this
 have b9:S.ins.length<=257->∀ww,Bl w ww->Calls prog 59 #[.agg #[iv,ov,mv]] ww λe w'=>∃F:Nat,e=.returned (.slice F S.ins.length S.ins.length)/\Bl ww w'/\RowAt w' 1 (.slice F S.ins.length S.ins.length) ((eT S).map aO):=λh257 ww hb=>aQD S iv ov mv ww (h.below hb (zC _)) hwf (by omega);have c2:∀n ww,I64 n->Bl w ww->vR ww 60 #[.agg #[iv,ov,mv],.int .i64 n] (.bool (rP S n)):=λn ww hn hb=>aWW S iv ov mv n hn ww (h.below hb (zC _)) hwf;have c3:∀n ww,Bl w ww->vR ww 62 #[.agg #[iv,ov,mv],.int .i64 n] (.int .i64 (bX S n)):=λn ww hb=>aEZ S iv ov mv n ww (h.below hb (zC _)) hwf;have c4:∀xn xd xs ev es ww,Bl w ww->RowAt w 2 ev (es.map PEnt.cells)->es.length<=1000000000->vR ww 61 #[.agg #[iv,ov,mv],.agg #[.int .i64 xn,.bool xd,ev,.string xs]] (.bool (aAI S es)):=λxn xd xs ev es ww hb he hl=>aQC S iv ov mv xn xd xs ev es ww (h.below hb (zC _)) hwf (he.below hb (zC _)) hl;have c5:∀n ww,Bl w ww->vR ww 63 #[.agg #[iv,ov,mv],.int .i64 n] (.bool (fI S n)):=λn ww hb=>aCQ S iv ov mv n ww (h.below hb (zC _)) hwf.2.1;obtain⟨ai,ni,ci,ao,no,co,am,nm,cm,rfl,rfl,rfl⟩:=h.slices;obtain⟨a,cap,e1,hai⟩:=h.ins_at2;cases e1;obtain⟨a,cap,e1,ham⟩:=h.2.1.at_;rw[lM]at e1;cases e1;generalize hM:lU S=M;have HI:=aC hai;have HM:=aC ham;have d8:=aC hwf;by_cases a1:S.made.length<1
 .obtain rfl:M=false:=by rw[<-hM];exact sG (by omega)
  have g1:(S.made.length:Int)<1:=by omega
  clear hai ham hwf h b8 b9 c2 c4 c3 c5 hM;unfold vR;go_in;go_wp2;go_ret;exact gAC
 have g1:¬(S.made.length:Int)<1:=by omega
 by_cases a2:8<S.made.length
 .obtain rfl:M=false:=by rw[<-hM];exact sG (by omega)
  have g2:(8:Int)<S.made.length:=by omega
  clear hai ham hwf h b8 b9 c2 c4 c3 c5 hM;unfold vR;go_in;go_wp2;go_ret;exact gAC
 have g2:¬(8:Int)<S.made.length:=by omega
 by_cases a3:S.ins.length<1
 .obtain rfl:M=false:=by rw[<-hM];exact sG (by omega)
  have g3:(S.ins.length:Int)<1:=by omega
  clear hai ham hwf h b8 b9 c2 c4 c3 c5 hM;unfold vR;go_in;go_wp2;go_ret;exact gAC
 have g3:¬(S.ins.length:Int)<1:=by omega
 have g5:0<S.ins.length:=by omega
 have g6:(0:Int)<S.ins.length:=by omega
 obtain⟨x0,hx0⟩:∃x,S.ins[0]? =some x:=⟨_,gE (by omega)⟩;obtain⟨bi,oi,ev0,rfl,iI0,hoi,her0,hci0⟩:=hai 0 x0 hx0;obtain⟨iI,y0,y1,y2,y3⟩:=hci0 w (Below.refl _ _);simp only[Nat.zero_mul,zN]at y0 y1;by_cases hn0:x0.num=1;rotate_left
 .obtain rfl:M=false:=by rw[<-hM];exact aGW hx0 (by simp[hn0])
  have e7:(x0.num !=1)=true:=by simpa using hn0
  clear hai ham hwf h b8 b9 c2 c4 c3 c5 hM y2 y3 her0 hci0 hoi hx0;unfold vR;go_in;go_wp2;go_ret;exact gAC
 rcases hd0:x0.dir with _|_
 .obtain rfl:M=false:=by rw[<-hM];exact aGW hx0 (by simp[hd0])
  rw[hn0]at y0;rw[hd0]at y1;clear hai ham hwf h b8 b9 c2 c4 c3 c5 hM y2 y3 her0 hci0 hoi hx0;unfold vR;go_in;go_wp2;go_ret;exact gAC
 rw[hn0]at y0;rw[hd0]at y1;have c8:=eH hx0 hn0 hd0;rcases hop:vG S with _|_
 .obtain rfl:M=false:=by rw[<-hM];exact aSW hop
  rw[hop]at b8;clear hai ham hwf h b9 c2 c4 c3 c5 hM y2 y3 her0 hci0 hoi hx0 hop hn0 hd0;unfold vR;go_in;go_wp2_with((go_at_call 58;refine aE (b8 _ (bel _ _)) λp=>?_));go_ret;exact gAC
 rw[hop]at b8;have d9:=aC hop;have c9:=aC hM;clear hai ham hwf h hM y2 y3 her0 hci0 hoi hx0 hop hn0 hd0;unfold vR;go_in;go_wp2_with((go_at_call 58;refine aE (b8 _ (bel _ _)) λp=>?_))
 go_loopw[3] (λi wr=>∃(q:Nat),i=.int .i64 q/\q<=S.made.length/\(∀(j:Nat) (m:Int),j<q->S.made[j]? =some m->0<=m/\m<=32)/\Bl w wr/\Blk wr w.heap.size #[.slice (some ⟨bi,oi,none⟩) S.ins.length ci,.slice ao no co,.slice am S.made.length cm] 26) (λi _=>(S.made.length-intOf i).toNat)
 case atStart=>exact⟨0,rfl,by omega,λj m hj=>by omega,bel _ _,(Blk.new w _ 26).junk _⟩
 clear y0 y1 iI
 rename World=>wq
 obtain⟨q,rfl,hq,hpre,hb,hblk⟩:=hrel;have iB:Bel w wq:=⟨hb⟩;obtain⟨iL,s0,s1,s2⟩:=gR hblk;have HB:=aC hblk;have b1:=aC hpre;clear hblk hpre;by_cases hlt:q<S.made.length
 .obtain⟨z,hz⟩:=gAA hlt
  obtain⟨b,off,rfl,iG0,iG,hc⟩:=HM.out wq hb q (aJ z) (by rw[gM,hz];rfl);have c0:=hc 0 _ rfl;rw[Nat.mul_one,zN]at c0;have c6:(q:Int)<S.made.length:=by omega
  by_cases z0:z<0
  .obtain rfl:M=false:=by rw[<-c9.out];exact aGX hz (by omega)
   clear hc hz;go_wp2;go_ret;exact gAC
  by_cases z1:32<z
  .obtain rfl:M=false:=by rw[<-c9.out];exact aGX hz (by omega)
   clear hc hz;go_wp2;go_ret;exact gAC
  have HZ:=aC hz;have e0:=aC (show 0<=z/\z<=32 by omega);clear hc hz;go_wp2;go_roundw
  case rel=>
   refine⟨q+1,by go_num,by omega,λj m hj hm=>?_,bel _ _,HB.out⟩;by_cases e:j=q
   .subst e;rw[HZ.out]at hm;cases hm;exact e0.out
   exact b1.out j m (by omega) hm
  simp[intOf];omega
 have c6 : ¬ (q : Int) <S.made.length:=by omega
 by_cases a4:257<S.ins.length
 .obtain rfl:M=false:=by rw[<-c9.out];exact sG (by omega)
  have g4:(257:Int)<S.ins.length:=by omega
  go_wp2;go_ret;exact gAC
 have g4:¬(257:Int)<S.ins.length:=by omega
 have d0:=aC (show ∀(j:Nat) (m:Int),S.made[j]? =some m->0<=m/\m<=32 from λj m hm=>b1.out j m (by obtain⟨h,_⟩:=gI.1 hm;omega) hm);clear b1;go_wp2_with(go_at_call 59;refine(b9 (by omega) _ (bel _ _)).mono ?_;rintro e w8 ⟨F,rfl,hb8,hF⟩;have i8:Bel w w8:=⟨(bel w _).trans (hb8.mono (bel w _).size)⟩;have d6:=(Keep.of_below hb8 (λ_=>False)).blk HB.out (λh=>h);have HF:=eH hF d6 i8.below;clear hF d6 hb8)
 go_loopw[5] (λi wr=>∃(q:Nat),i=.int .i64 q/\q<=S.ins.length/\(∀(j:Nat) (x:PIn),j<q->S.ins[j]? =some x->inR S j x=true)/\Bl w wr/\Blk wr w.heap.size #[.slice (some ⟨bi,oi,none⟩) S.ins.length ci,.slice ao no co,.slice am S.made.length cm] 26/\RowAt wr 1 (.slice F S.ins.length S.ins.length) ((eT S).map aO)) (λi _=>(S.ins.length-intOf i).toNat)
 case atStart=>exact⟨0,rfl,by omega,λj m hj=>by omega,HF.out.2.2,HF.out.2.1,HF.out.1⟩
 clear s0 s1 s2 iB iL;obtain⟨q,rfl,hq,hpre,hb,hblk,hF⟩:=hrel;have iB:Bel w wr:=⟨hb⟩;obtain⟨iL,s0,s1,s2⟩:=gR hblk;have HB:=bJ hblk hF;have b1:=aC hpre;clear hblk hpre;by_cases hlt:q<S.ins.length
 .obtain ⟨x, hx⟩ : ∃ x,S.ins[q]? =some x:=⟨_,gE hlt⟩
  have b5:inR S q x=false->M=false:=λhi=>by rw[<-c9.out];exact aSX hx hi
  have b3:q=0->x.num=1/\x.dir=true:=λe=>by subst e;have:=c8.out.1;rw[hx]at this;cases this;exact c8.out.2
  have a6:inR S q x=true->∀(j:Nat) (y:PIn),j<q+1->S.ins[j]? =some y->inR S j y=true:=λhi j y hj hy=>by
   by_cases e:j=q
   .subst e;rw[hx]at hy;cases hy;exact hi
   exact b1.out j y (by omega) hy
  clear b1;unfold inR at b5;unfold inR at a6;obtain⟨bi',oi',ev,he,-,hoi,her,hci⟩:=HI.out q x hx;cases he;obtain⟨iI,x0,x1,x2,x3⟩:=hci wr hb;obtain⟨aF,cF,eF,hatF⟩:=hF.at_;simp only[zO]at eF;obtain⟨rfl,-,rfl⟩:=eF;have e2:(eT S).length=S.ins.length:=by unfold eT;rw[lB];simp
  obtain⟨f,hre⟩:∃f,(eT S)[q]? =some f:=⟨_,gE (by omega)⟩;have d3:(eT S).getD q false=f:=by rw[zG,hre];rfl
  rw[d3]at b5;obtain⟨bF,oF,hf,-,iF,hcf⟩:=hatF wr (Below.refl _ _) q (aO f) (by rw[gM,hre];rfl);cases hf;have f0:=hcf 0 _ rfl;rw[Nat.mul_one,zN,zM]at f0;have d2:=d8.out.2.2.2.1 x (mG hx);have a0:vB w 61 #[.agg #[.slice (some ⟨bi,oi,none⟩) S.ins.length ci,.slice ao no co,.slice am S.made.length cm],.agg #[x.num,x.dir,ev,x.data]] (.bool (aAI S x.ents)):=λww hb=>c4 x.num x.dir x.data ev x.ents ww hb her d2.2.1;have a5:=λww hb=>c2 x.num ww d2.1 hb;have a9:=λww hb=>c3 x.num ww hb;have b0:=λww hb=>c5 x.num ww hb;obtain⟨ae,ce,rfl,-⟩:=her.at_;rw[lM]at x2 a0;have c6:(q:Int)<S.ins.length:=by omega
  have e3:=d2.2.1;have b6:∀k,q=k+1->∃m,wr.cell? ⟨bi,oi+k*4,none⟩=some (.int .i64 m)/\m=gP S k:=by intro k hk;obtain⟨y,hy⟩:∃y,S.ins[k]? =some y:=⟨_,gE (by omega)⟩;obtain⟨_,_,_,he2,-,_,_,hci2⟩:=HI.out k y hy;cases he2;exact⟨y.num,(hci2 wr hb).2.1,by simp[gP,hy]⟩
  obtain⟨xn,xd,xe,xs⟩:=x;simp only at x0 x1 x2 x3 a0 a5 a9 b0 e3 b5 b3;have c7:(∀(j:Nat) (y:PIn),j<q+1->S.ins[j]? =some y->inR S j y=true)\/True:=.inr trivial;rw[d3]at a6;simp only at a6;generalize bX S xn=ln at a9 b5 a6;generalize fI S xn=io at b0 b5 a6;generalize rP S xn=gv at a5 b5 a6;generalize aAI S xe=en at a0 b5 a6;clear hcf hatF her hoi hci hx hre hF d2 c2 c4 c3 c5 b8 b9 d3 c7 e2;have d4:(256<xs.size/\decide (xs.size<=256)=false)\/(xs.size<=256/\decide (xs.size<=256)=true):=by
   by_cases e:xs.size<=256
   .exact .inr ⟨e,decide_eq_true e⟩
   exact .inl ⟨by omega,yM e⟩
  have d7:(xs=⟨#[]⟩/\(xs.size==0)=true)\/(xs.toList≠[]/\(xs.size==0)=false):=by
   obtain⟨dd⟩:=xs;by_cases e:dd.size=0
   .left;rw[Array.eq_empty_of_size_eq_zero e];exact⟨rfl,rfl⟩
   right;refine⟨λhn=>?_,by rw[yF];exact e⟩;rw[zW]at hn;exact e (by have:=congrArg List.length hn;simpa using this)
  have e4:(xe=[]/\xe.isEmpty=true)\/(0<xe.length/\xe.isEmpty=false):=by
   rcases xe with _|⟨e,r⟩
   .exact .inl ⟨rfl,rfl⟩
   exact .inr ⟨by simp,rfl⟩
  have e5:(ln=1/\(ln==1)=true)\/(ln≠1/\(ln==1)=false):=by
   by_cases e:ln=1
   .exact .inl ⟨e,by simpa using e⟩
   exact .inr ⟨e,by simpa using e⟩
  rcases q with _|k
  .obtain ⟨hr1,hr2⟩:=b3 rfl;subst hr1 hr2;clear b3 b6;have a7:=aC b5;have b4:=aC a6;clear b5 a6;simp only[Nat.zero_mul,zN]at x0 x1 x2 x3 f0;rcases d4 with⟨s1,hs⟩|⟨s1,hs⟩
   .have a8:(256:Int)<xs.size:=by omega
    have b7:decide ((256:Int)<xs.size)=true:=decide_eq_true a8;have HE:=aC (a7.out (by simp[hs]));clear a7 b4
    as_aux_lemma=>
     go_wp2;refine qR ?_
     repeat(go_big_quiet_step (first|(with_reducible first|refine cI (a5 _ (bel _ _))|refine cJ (a5 _ (bel _ _)))|(with_reducible first|refine cI (a0 _ (bel _ _))|refine cJ (a0 _ (bel _ _)))))
     refine QN λp=>?_;go_wp2_with fail;obtain rfl:M=false:=HE.out;go_ret;exact gAC
   have a8:¬(256:Int)<xs.size:=by omega
   have b7:decide ((256:Int)<xs.size)=false:=yM a8;rcases d7 with⟨rfl,hd⟩|⟨d1,hd⟩
   .as_aux_lemma=>
     go_wp2;refine qR ?_
     repeat(go_big_quiet_step (first|(with_reducible first|refine cI (a5 _ (bel _ _))|refine cJ (a5 _ (bel _ _)))|(with_reducible first|refine cI (a0 _ (bel _ _))|refine cJ (a0 _ (bel _ _)))))
     refine QN λp=>?_;rcases en with _|_
     .have HE:=aC (a7.out (by simp[hs,hd]));go_wp2_with fail;obtain rfl:M=false:=HE.out;go_ret;exact gAC
     have HE:=aC (b4.out (by simp[hs,hd]));go_wp2_with(first|(go_at_call 62;refine aE (a9 _ (bel _ _)) λp31=>?_)|(go_at_call 63;refine aE (b0 _ (bel _ _)) λp32=>?_));go_roundw
     case rel=>exact⟨0+1,by go_num,by omega,HE.out,bel _ _,(Keep.of_below (bel wr _) (λ_=>False)).blk HB.out.1 (λh=>h),HB.out.2.below (bel wr _) (zC _)⟩
     simp[intOf];omega
   have dE:(xs.toList==[])=false:=by simpa using d1
   have HE:=aC (a7.out (by simp[hs,hd]));clear a7 b4
   as_aux_lemma=>
    go_wp2;refine qR ?_
    repeat(go_big_quiet_step (first|(with_reducible first|refine cI (a5 _ (bel _ _))|refine cJ (a5 _ (bel _ _)))|(with_reducible first|refine cI (a0 _ (bel _ _))|refine cJ (a0 _ (bel _ _)))))
    refine QN λp=>?_;go_wp2_with fail;obtain rfl:M=false:=HE.out;go_ret;exact gAC
  obtain ⟨m, y0, hm⟩:=b6 k rfl;clear b3 b6;have kI:((k+1:Nat):Int)-1=k:=by omega
  have kW:IntKind.i64.wrap (k:Int)=k:=I64.wrap ⟨by omega,by omega⟩;have kl:k<S.ins.length:=by omega
  have e8:(k:Int)<S.ins.length:=by omega
  have k0:(0:Int)<((k+1:Nat):Int):=by omega
  have e9:decide ((0:Int)<((k+1:Nat):Int))=true:=decide_eq_true k0;rw[Nat.add_sub_cancel]at b5 a6;have a7:=aC b5;have b4:=aC a6;clear b5 a6;by_cases c1:gP S k<xn
  .have b2 :decide (gP S k<xn)=true:=decide_eq_true c1;have d5:¬xn<=m:=by omega
   have e6:decide (xn<=m)=false:=yM d5;clear hm c1;rcases gv with _|_
   .have HE:=aC (a7.out (by simp[b2]));clear a7 b4
    as_aux_lemma=>
     go_wp2;refine qR ?_
     repeat(go_big_quiet_step (first|(with_reducible first|refine cI (a5 _ (bel _ _))|refine cJ (a5 _ (bel _ _)))|(with_reducible first|refine cI (a0 _ (bel _ _))|refine cJ (a0 _ (bel _ _)))))
     refine QN λp=>?_;go_wp2_with fail;obtain rfl:M=false:=HE.out;go_ret;exact gAC
   rcases xd with _|_
   .rcases d4 with⟨s1,hs⟩|⟨s1,hs⟩
    .have a8:(256:Int)<xs.size:=by omega
     have b7:decide ((256:Int)<xs.size)=true:=decide_eq_true a8;have HE:=aC (a7.out (by simp[b2,hs]));clear a7 b4
     as_aux_lemma=>
      go_wp2;refine qR ?_
      repeat(go_big_quiet_step (first|(with_reducible first|refine cI (a5 _ (bel _ _))|refine cJ (a5 _ (bel _ _)))|(with_reducible first|refine cI (a0 _ (bel _ _))|refine cJ (a0 _ (bel _ _)))))
      refine QN λp=>?_;go_wp2_with fail;obtain rfl:M=false:=HE.out;go_ret;exact gAC
    have a8:¬(256:Int)<xs.size:=by omega
    have b7:decide ((256:Int)<xs.size)=false:=yM a8;rcases e4 with⟨rfl,hd⟩|⟨d1,hd⟩
    .as_aux_lemma=>
      go_wp2;refine qR ?_
      repeat(go_big_quiet_step (first|(with_reducible first|refine cI (a5 _ (bel _ _))|refine cJ (a5 _ (bel _ _)))|(with_reducible first|refine cI (a0 _ (bel _ _))|refine cJ (a0 _ (bel _ _)))))
      refine QN λp=>?_;rcases en with _|_
      .have HE:=aC (a7.out (by simp[b2,hs,hd]));go_wp2_with fail;obtain rfl:M=false:=HE.out;go_ret;exact gAC
      rcases f with _|_
      .rcases io with _|_
       .have HE:=aC (a7.out (by simp[b2,hs,hd]));go_wp2_with(first|(go_at_call 62;refine aE (a9 _ (bel _ _)) λp31=>?_)|(go_at_call 63;refine aE (b0 _ (bel _ _)) λp32=>?_))
        obtain rfl:M=false:=HE.out;go_ret;exact gAC
       have HE:=aC (b4.out (by simp[b2,hs,hd]));go_wp2_with(first|(go_at_call 62;refine aE (a9 _ (bel _ _)) λp31=>?_)|(go_at_call 63;refine aE (b0 _ (bel _ _)) λp32=>?_));go_roundw
       case rel=>exact⟨k+1+1,by go_num,by omega,HE.out,bel _ _,(Keep.of_below (bel wr _) (λ_=>False)).blk HB.out.1 (λh=>h),HB.out.2.below (bel wr _) (zC _)⟩
       simp[intOf];omega
      have HE:=aC (b4.out (by simp[b2,hs,hd]));go_wp2_with(first|(go_at_call 62;refine aE (a9 _ (bel _ _)) λp31=>?_)|(go_at_call 63;refine aE (b0 _ (bel _ _)) λp32=>?_));go_roundw
      case rel=>exact⟨k+1+1,by go_num,by omega,HE.out,bel _ _,(Keep.of_below (bel wr _) (λ_=>False)).blk HB.out.1 (λh=>h),HB.out.2.below (bel wr _) (zC _)⟩
      simp[intOf];omega
    have dI:(0:Int)<xe.length:=by omega
    have f1:decide ((0:Int)<xe.length)=true:=decide_eq_true dI;have HE:=aC (a7.out (by simp[b2,hs,hd]));clear a7 b4
    as_aux_lemma=>
     go_wp2;refine qR ?_
     repeat(go_big_quiet_step (first|(with_reducible first|refine cI (a5 _ (bel _ _))|refine cJ (a5 _ (bel _ _)))|(with_reducible first|refine cI (a0 _ (bel _ _))|refine cJ (a0 _ (bel _ _)))))
     refine QN λp=>?_;go_wp2_with fail;obtain rfl:M=false:=HE.out;go_ret;exact gAC
   rcases d4 with⟨s1,hs⟩|⟨s1,hs⟩
   .have a8:(256:Int)<xs.size:=by omega
    have b7:decide ((256:Int)<xs.size)=true:=decide_eq_true a8;have HE:=aC (a7.out (by simp[b2,hs]));clear a7 b4
    as_aux_lemma=>
     go_wp2;refine qR ?_
     repeat(go_big_quiet_step (first|(with_reducible first|refine cI (a5 _ (bel _ _))|refine cJ (a5 _ (bel _ _)))|(with_reducible first|refine cI (a0 _ (bel _ _))|refine cJ (a0 _ (bel _ _)))))
     refine QN λp=>?_;go_wp2_with fail;obtain rfl:M=false:=HE.out;go_ret;exact gAC
   have a8:¬(256:Int)<xs.size:=by omega
   have b7:decide ((256:Int)<xs.size)=false:=yM a8;rcases d7 with⟨rfl,hd⟩|⟨d1,hd⟩
   .as_aux_lemma=>
     go_wp2;refine qR ?_
     repeat(go_big_quiet_step (first|(with_reducible first|refine cI (a5 _ (bel _ _))|refine cJ (a5 _ (bel _ _)))|(with_reducible first|refine cI (a0 _ (bel _ _))|refine cJ (a0 _ (bel _ _)))))
     refine QN λp=>?_;rcases en with _|_
     .have HE:=aC (a7.out (by simp[b2,hs,hd]));go_wp2_with fail;obtain rfl:M=false:=HE.out;go_ret;exact gAC
     rcases e5 with⟨rfl,l2⟩|⟨l1,l2⟩
     .rcases f with _|_
      .have HE:=aC (a7.out (by simp[b2,hs,hd,l2]));go_wp2_with(first|(go_at_call 62;refine aE (a9 _ (bel _ _)) λp31=>?_)|(go_at_call 63;refine aE (b0 _ (bel _ _)) λp32=>?_))
       obtain rfl:M=false:=HE.out;go_ret;exact gAC
      have HE:=aC (b4.out (by simp[b2,hs,hd,l2]));go_wp2_with(first|(go_at_call 62;refine aE (a9 _ (bel _ _)) λp31=>?_)|(go_at_call 63;refine aE (b0 _ (bel _ _)) λp32=>?_));go_roundw
      case rel=>exact⟨k+1+1,by go_num,by omega,HE.out,bel _ _,(Keep.of_below (bel wr _) (λ_=>False)).blk HB.out.1 (λh=>h),HB.out.2.below (bel wr _) (zC _)⟩
      simp[intOf];omega
     have lb:(ln !=1)=true:=by simpa using l1
     have HE:=aC (a7.out (by simp[b2,hs,hd,l2]));go_wp2_with(first|(go_at_call 62;refine aE (a9 _ (bel _ _)) λp31=>?_)|(go_at_call 63;refine aE (b0 _ (bel _ _)) λp32=>?_));obtain rfl:M=false:=HE.out;go_ret;exact gAC
   have dE:(xs.toList==[])=false:=by simpa using d1
   have HE:=aC (a7.out (by simp[b2,hs,hd]));clear a7 b4
   as_aux_lemma=>
    go_wp2;refine qR ?_
    repeat(go_big_quiet_step (first|(with_reducible first|refine cI (a5 _ (bel _ _))|refine cJ (a5 _ (bel _ _)))|(with_reducible first|refine cI (a0 _ (bel _ _))|refine cJ (a0 _ (bel _ _)))))
    refine QN λp=>?_;go_wp2_with fail;obtain rfl:M=false:=HE.out;go_ret;exact gAC
  have b2:decide (gP S k<xn)=false:=yM c1;have d5:xn<=m:=by omega
  have e6:decide (xn<=m)=true:=decide_eq_true d5;clear hm c1;have HE:=aC (a7.out (by simp[b2]));clear a7 b4
  as_aux_lemma=>
   go_wp2;refine qR ?_
   repeat(go_big_quiet_step (first|(with_reducible first|refine cI (a5 _ (bel _ _))|refine cJ (a5 _ (bel _ _)))|(with_reducible first|refine cI (a0 _ (bel _ _))|refine cJ (a0 _ (bel _ _)))))
   refine QN λp=>?_;go_wp2_with fail;obtain rfl:M=false:=HE.out;go_ret;exact gAC
 have c6:¬(q:Int)<S.ins.length:=by omega
 have hy:M=true:=by rw[<-c9.out];refine aSY ⟨by omega,by omega,by omega,by omega⟩ c8.out.1 (by rw[c8.out.2.1,c8.out.2.2];rfl) d9.out d0.out (λj x hx=>b1.out j x (by obtain⟨h,_⟩:=gI.1 hx;omega) hx)
 subst hy;go_wp2;go_ret;exact gAC
end
end Go.Proofs.YtmkapobnfigedaaGreatDoor
