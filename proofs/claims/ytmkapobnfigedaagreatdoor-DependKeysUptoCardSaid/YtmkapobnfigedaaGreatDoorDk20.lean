/- A part of a proof of a law. Conditions: none. -/
import Derived.Test.YtmkapobnfigedaaGreatDoorDk19
import Derived.Test.YtmkapobnfigedaaGreatDoorDk17
set_option linter.unusedVariables false
set_option linter.unusedSimpArgs false
set_option maxRecDepth 100000
set_option maxHeartbeats 40000000
namespace Go.Proofs.YtmkapobnfigedaaGreatDoor
open Go.Proofs.Tryz List Go.RowKit
section
theorem aBX (S:PSt) (iv ov mv:Value) (n:Int) (w:World) (h:StRead w iv ov mv S) (hlen:S.op.length<=1000000000):
 vR w 63 #[.agg #[iv,ov,mv],.int .i64 n] (.bool (fG S n)):=by
 obtain⟨ai,ni,ci,ao,no,co,am,nm,cm,rfl,rfl,rfl⟩:=h.slices;obtain⟨a,cap,e1,hat⟩:=h.1.at_;rw[lM]at e1;cases e1;have HA:=aC hat;clear hat h;obtain⟨R,hR⟩:∃R,fG S n=R:=⟨_,rfl⟩;rw[hR];unfold fG at hR;have HR:=aC hR;clear hR;unfold vR;go_in;go_wp2
 go_loopw[5] (λi wr=>∃(q:Nat),i=.int .i64 q/\q<=S.op.length/\((S.op.drop q).any λd=>d.num==n)=R/\Bl w wr/\Blk wr w.heap.size #[.slice ai ni ci,.slice ao S.op.length co,.slice am nm cm] 26) (λi _=>(S.op.length-intOf i).toNat)
 case atStart=>exact⟨0,rfl,by omega,HR.out,bel _ _,Blk.new w _ 26⟩
 case round=>
  obtain⟨q,rfl,hq,hre,hb,hblk⟩:=hrel;have iB:Bel w wr:=⟨hb⟩;have iL:=hblk.lt;have s1:=hblk.cell 1;simp at s1;have HB:=aC hblk;clear hblk;by_cases hlt:q<S.op.length
  .obtain⟨z,hz⟩:∃z,S.op[q]? =some z:=⟨_,gE hlt⟩
   obtain⟨b,off,rfl,iG0,iG,hc⟩:=HA.out wr hb q z.cells (by rw[gM,hz];rfl);have c2:=hc 2 _ rfl;rw[cO hz,any_cons]at hre;clear hz hc;rcases hpz:(z.num==n)with _|_
   .rw[hpz,Bool.false_or]at hre;have HZ:=aC hre;clear hre;go_wp2
    go_roundw
    case rel=>exact⟨q+1,by go_num,by omega,HZ.out,bel _ _,HB.out⟩
    simp[intOf];omega
   rw[hpz,Bool.true_or]at hre;subst hre;go_wp2;go_ret;exact⟨rfl,bel _ _⟩
  .rw[zS (by omega)]at hre;obtain rfl:R=false:=by rw[<-hre];rfl
   go_wp2;go_ret;exact⟨rfl,bel _ _⟩

theorem kM (S:PSt):∀g st fd,(fT S g st fd).length=fd.length
 |0,_,fd=>rfl
 |_+1,[],fd=>rfl
 | g + 1,n::st,fd=>by
   unfold fT;split
   .exact kM S g st fd
   split
   .exact kM S g st fd
   split
   .rw[kM,yB]
   rfl
variable {S:PSt} {q:Nat} {x:PIn}
theorem rX (h:¬(1<=S.made.length/\S.made.length<=8/\1<=S.ins.length/\S.ins.length<=257)):lG S=false:=by unfold lG;rw[yM h];rfl
theorem aFW (hx:S.ins[0]? =some x) (h:(x.num==1&&x.dir)=false):lG S=false:=by unfold lG;rw[hx];simp only[h,yJ,Bool.and_false]
theorem aSE (h:uT S=false):lG S=false:=by unfold lG;rw[h];simp only[yJ,Bool.and_false]
theorem aFX {m:Int} (hm:S.made[q]? =some m) (h:¬(0<=m/\m<=32)):lG S=false:=by
 unfold lG
 have:(S.made.all λm=>decide (0<=m/\m<=32))=false:=by rw[all_eq_false];exact⟨m,mG hm,by simpa using h⟩
 rw[this];simp only[yJ,Bool.and_false]
theorem aSF (hx:S.ins[q]? =some x) (h:inR S q x=false):lG S=false:=by
 rcases e:lG S with _|_
 .rfl
 unfold lG at e;simp only[zE]at e;have:=vA e.2.2.2.2 hx;rw[h]at this;cases this
theorem aSG (h1:1<=S.made.length/\S.made.length<=8/\1<=S.ins.length/\S.ins.length<=257) (hx:S.ins[0]? =some x) (h2:(x.num==1&&x.dir)=true) (h3:uT S=true) (h4:∀(q:Nat) (m:Int),S.made[q]? =some m->0<=m/\m<=32) (h5:∀(q:Nat) (x:PIn),S.ins[q]? =some x->inR S q x=true):lG S=true:=by
 unfold lG;rw[decide_eq_true h1,hx,h3];simp only[h2,xC,zE,yY,zI];refine⟨λm hm=>?_,?_⟩
 .obtain⟨q,hq⟩:=mem_iff_getElem?.1 hm;exact h4 q m hq
 unfold aFS;rw[yY];intro q hq;have hl:=mem_range.1 hq;rw[gE hl];exact h5 q _ (gE hl)
theorem aYB (S : PSt) (iv ov mv:Value) (w:World) (h:StRead w iv ov mv S) (hwf:S.wf):
 vR w 30 #[.agg #[iv,ov,mv]] (.bool (lG S)):=by
 have b8:vB w 58 #[.agg #[iv,ov,mv]] (.bool (uT S)):=λww hb=>by have:=aYY S iv ov mv ww (h.below hb (zC _)) hwf;exact this
 have b9:S.ins.length<=257->∀ww,Bl w ww->Calls prog 59 #[.agg #[iv,ov,mv]] ww λe w'=>∃F:Nat,e=.returned (.slice F S.ins.length S.ins.length)/\Bl ww w'/\RowAt w' 1 (.slice F S.ins.length S.ins.length) ((eS S).map bS):=λh257 ww hb=>aPF S iv ov mv ww (h.below hb (zC _)) hwf (by omega);have c2:∀n ww,I64 n->Bl w ww->vR ww 60 #[.agg #[iv,ov,mv],.int .i64 n] (.bool (rG S n)):=λn ww hn hb=>aWE S iv ov mv n hn ww (h.below hb (zC _)) hwf;have c3:∀n ww,Bl w ww->vR ww 62 #[.agg #[iv,ov,mv],.int .i64 n] (.int .i64 (bX S n)):=λn ww hb=>aEJ S iv ov mv n ww (h.below hb (zC _)) hwf;have c4:∀xn xd xs ev es ww,Bl w ww->RowAt w 2 ev (es.map PEnt.cells)->es.length<=1000000000->vR ww 61 #[.agg #[iv,ov,mv],.agg #[.int .i64 xn,.bool xd,ev,.string xs]] (.bool (xR S es)):=λxn xd xs ev es ww hb he hl=>aPE S iv ov mv xn xd xs ev es ww (h.below hb (zC _)) hwf (he.below hb (zC _)) hl;have c5:∀n ww,Bl w ww->vR ww 63 #[.agg #[iv,ov,mv],.int .i64 n] (.bool (fG S n)):=λn ww hb=>aBX S iv ov mv n ww (h.below hb (zC _)) hwf.2.1;obtain⟨ai,ni,ci,ao,no,co,am,nm,cm,rfl,rfl,rfl⟩:=h.slices;obtain⟨a,cap,e1,hai⟩:=h.ins_at2;cases e1;obtain⟨a,cap,e1,ham⟩:=h.2.1.at_;rw[lM]at e1;cases e1;generalize hM:lG S=M;have HI:=aC hai;have HM:=aC ham;have d8:=aC hwf;by_cases a1:S.made.length<1
 .obtain rfl:M=false:=by rw[<-hM];exact rX (by omega)
  have g1:(S.made.length:Int)<1:=by omega
  clear hai ham hwf h b8 b9 c2 c4 c3 c5 hM;unfold vR;go_in;go_wp2;go_ret;exact⟨rfl,bel _ _⟩
 have g1:¬(S.made.length:Int)<1:=by omega
 by_cases a2:8<S.made.length
 .obtain rfl:M=false:=by rw[<-hM];exact rX (by omega)
  have g2:(8:Int)<S.made.length:=by omega
  clear hai ham hwf h b8 b9 c2 c4 c3 c5 hM;unfold vR;go_in;go_wp2;go_ret;exact⟨rfl,bel _ _⟩
 have g2:¬(8:Int)<S.made.length:=by omega
 by_cases a3:S.ins.length<1
 .obtain rfl:M=false:=by rw[<-hM];exact rX (by omega)
  have g3:(S.ins.length:Int)<1:=by omega
  clear hai ham hwf h b8 b9 c2 c4 c3 c5 hM;unfold vR;go_in;go_wp2;go_ret;exact⟨rfl,bel _ _⟩
 have g3:¬(S.ins.length:Int)<1:=by omega
 have g5:0<S.ins.length:=by omega
 have g6:(0:Int)<S.ins.length:=by omega
 obtain⟨x0,hx0⟩:∃x,S.ins[0]? =some x:=⟨_,gE (by omega)⟩;obtain⟨bi,oi,ev0,rfl,iI0,hoi,her0,hci0⟩:=hai 0 x0 hx0;obtain⟨iI,y0,y1,y2,y3⟩:=hci0 w (Below.refl _ _);simp only[Nat.zero_mul,zN]at y0 y1;by_cases hn0:x0.num=1;rotate_left
 .obtain rfl:M=false:=by rw[<-hM];exact aFW hx0 (by simp[hn0])
  have e7:(x0.num !=1)=true:=by simpa using hn0
  clear hai ham hwf h b8 b9 c2 c4 c3 c5 hM y2 y3 her0 hci0 hoi hx0;unfold vR;go_in;go_wp2;go_ret;exact⟨rfl,bel _ _⟩
 rcases hd0:x0.dir with _|_
 .obtain rfl:M=false:=by rw[<-hM];exact aFW hx0 (by simp[hd0])
  rw[hn0]at y0;rw[hd0]at y1;clear hai ham hwf h b8 b9 c2 c4 c3 c5 hM y2 y3 her0 hci0 hoi hx0;unfold vR;go_in;go_wp2;go_ret;exact⟨rfl,bel _ _⟩
 rw[hn0]at y0;rw[hd0]at y1;have c8:=eK hx0 hn0 hd0;rcases hop:uT S with _|_
 .obtain rfl:M=false:=by rw[<-hM];exact aSE hop
  rw[hop]at b8;clear hai ham hwf h b9 c2 c4 c3 c5 hM y2 y3 her0 hci0 hoi hx0 hop hn0 hd0;unfold vR;go_in;go_wp2_with((go_at_call 58;with_reducible refine aE (b8 _ (bel _ _)) λp=>?_));go_ret;exact⟨rfl,bel _ _⟩
 rw[hop]at b8;have d9:=aC hop;have c9:=aC hM;clear hai ham hwf h hM y2 y3 her0 hci0 hoi hx0 hop hn0 hd0;unfold vR;go_in;go_wp2_with((go_at_call 58;with_reducible refine aE (b8 _ (bel _ _)) λp=>?_))
 go_loopw[3] (λi wr=>∃(q:Nat),i=.int .i64 q/\q<=S.made.length/\(∀(j:Nat) (m:Int),j<q->S.made[j]? =some m->0<=m/\m<=32)/\Bl w wr/\Blk wr w.heap.size #[.slice (some ⟨bi,oi,none⟩) S.ins.length ci,.slice ao no co,.slice am S.made.length cm] 26) (λi _=>(S.made.length-intOf i).toNat)
 case atStart=>exact⟨0,rfl,by omega,λj m hj=>by omega,bel _ _,(Blk.new w _ 26).junk _⟩
 clear y0 y1 iI
 rename World=>wq
 obtain⟨q,rfl,hq,hpre,hb,hblk⟩:=hrel;have iB:Bel w wq:=⟨hb⟩;obtain⟨iL,s0,s1,s2⟩:=gN hblk;have HB:=aC hblk;have b1:=aC hpre;clear hblk hpre;by_cases hlt:q<S.made.length
 .obtain⟨z,hz⟩:∃z,S.made[q]? =some z:=⟨_,gE hlt⟩
  obtain⟨b,off,rfl,iG0,iG,hc⟩:=HM.out wq hb q (aL z) (by rw[gM,hz];rfl);have c0:=hc 0 _ rfl;rw[Nat.mul_one,zN]at c0;have c6:(q:Int)<S.made.length:=by omega
  by_cases z0:z<0
  .obtain rfl:M=false:=by rw[<-c9.out];exact aFX hz (by omega)
   clear hc hz;go_wp2;go_ret;exact⟨rfl,bel _ _⟩
  by_cases z1:32<z
  .obtain rfl:M=false:=by rw[<-c9.out];exact aFX hz (by omega)
   clear hc hz;go_wp2;go_ret;exact⟨rfl,bel _ _⟩
  have HZ:=aC hz;have e0:=aC (show 0<=z/\z<=32 by omega);clear hc hz;go_wp2;go_roundw
  case rel=>
   refine⟨q+1,by go_num,by omega,λj m hj hm=>?_,bel _ _,HB.out⟩;by_cases e:j=q
   .subst e;rw[HZ.out]at hm;cases hm;exact e0.out
   exact b1.out j m (by omega) hm
  simp[intOf];omega
 have c6 : ¬ (q : Int) <S.made.length:=by omega
 by_cases a4:257<S.ins.length
 .obtain rfl:M=false:=by rw[<-c9.out];exact rX (by omega)
  have g4:(257:Int)<S.ins.length:=by omega
  go_wp2;go_ret;exact⟨rfl,bel _ _⟩
 have g4:¬(257:Int)<S.ins.length:=by omega
 have d0:=aC (show ∀(j:Nat) (m:Int),S.made[j]? =some m->0<=m/\m<=32 from λj m hm=>b1.out j m (by obtain⟨h,_⟩:=gI.1 hm;omega) hm);clear b1;go_wp2_with(go_at_call 59;with_reducible refine(b9 (by omega) _ (bel _ _)).mono ?_;rintro e w8 ⟨F,rfl,hb8,hF⟩;have i8:Bel w w8:=⟨(bel w _).trans (hb8.mono (bel w _).size)⟩;have d6:=(Keep.of_below hb8 (λ_=>False)).blk HB.out (λh=>h);have HF:=eK hF d6 i8.below;clear hF d6 hb8)
 go_loopw[5] (λi wr=>∃(q:Nat),i=.int .i64 q/\q<=S.ins.length/\(∀(j:Nat) (x:PIn),j<q->S.ins[j]? =some x->inR S j x=true)/\Bl w wr/\Blk wr w.heap.size #[.slice (some ⟨bi,oi,none⟩) S.ins.length ci,.slice ao no co,.slice am S.made.length cm] 26/\RowAt wr 1 (.slice F S.ins.length S.ins.length) ((eS S).map bS)) (λi _=>(S.ins.length-intOf i).toNat)
 case atStart=>exact⟨0,rfl,by omega,λj m hj=>by omega,HF.out.2.2,HF.out.2.1,HF.out.1⟩
 clear s0 s1 s2 iB iL;obtain⟨q,rfl,hq,hpre,hb,hblk,hF⟩:=hrel;have iB:Bel w wr:=⟨hb⟩;obtain⟨iL,s0,s1,s2⟩:=gN hblk;have HB:=bG hblk hF;have b1:=aC hpre;clear hblk hpre;by_cases hlt:q<S.ins.length
 .obtain ⟨x, hx⟩ : ∃ x,S.ins[q]? =some x:=⟨_,gE hlt⟩
  have b5:inR S q x=false->M=false:=λhi=>by rw[<-c9.out];exact aSF hx hi
  have b3:q=0->x.num=1/\x.dir=true:=λe=>by subst e;have:=c8.out.1;rw[hx]at this;cases this;exact c8.out.2
  have a6:inR S q x=true->∀(j:Nat) (y:PIn),j<q+1->S.ins[j]? =some y->inR S j y=true:=λhi j y hj hy=>by
   by_cases e:j=q
   .subst e;rw[hx]at hy;cases hy;exact hi
   exact b1.out j y (by omega) hy
  clear b1;unfold inR at b5;unfold inR at a6;obtain⟨bi',oi',ev,he,-,hoi,her,hci⟩:=HI.out q x hx;cases he;obtain⟨iI,x0,x1,x2,x3⟩:=hci wr hb;obtain⟨aF,cF,eF,hatF⟩:=hF.at_;simp only[zO]at eF;obtain⟨rfl,-,rfl⟩:=eF;have e2:(eS S).length=S.ins.length:=by unfold eS;rw[kM];simp
  obtain⟨f,hre⟩:∃f,(eS S)[q]? =some f:=⟨_,gE (by omega)⟩;have d3:(eS S).getD q false=f:=by rw[zG,hre];rfl
  rw[d3]at b5;obtain⟨bF,oF,hf,-,iF,hcf⟩:=hatF wr (Below.refl _ _) q (bS f) (by rw[gM,hre];rfl);cases hf;have f0:=hcf 0 _ rfl;rw[Nat.mul_one,zN,zM]at f0;have d2:=d8.out.2.2.2.1 x (mG hx);have a0:vB w 61 #[.agg #[.slice (some ⟨bi,oi,none⟩) S.ins.length ci,.slice ao no co,.slice am S.made.length cm],.agg #[x.num,x.dir,ev,x.data]] (.bool (xR S x.ents)):=λww hb=>c4 x.num x.dir x.data ev x.ents ww hb her d2.2.1;have a5:=λww hb=>c2 x.num ww d2.1 hb;have a9:=λww hb=>c3 x.num ww hb;have b0:=λww hb=>c5 x.num ww hb;obtain⟨ae,ce,rfl,-⟩:=her.at_;rw[lM]at x2 a0;have c6:(q:Int)<S.ins.length:=by omega
  have e3:=d2.2.1;have b6:∀k,q=k+1->∃m,wr.cell? ⟨bi,oi+k*4,none⟩=some (.int .i64 m)/\m=gK S k:=by intro k hk;obtain⟨y,hy⟩:∃y,S.ins[k]? =some y:=⟨_,gE (by omega)⟩;obtain⟨_,_,_,he2,-,_,_,hci2⟩:=HI.out k y hy;cases he2;exact⟨y.num,(hci2 wr hb).2.1,by simp[gK,hy]⟩
  obtain⟨xn,xd,xe,xs⟩:=x;simp only at x0 x1 x2 x3 a0 a5 a9 b0 e3 b5 b3;have c7:(∀(j:Nat) (y:PIn),j<q+1->S.ins[j]? =some y->inR S j y=true)\/True:=.inr trivial;rw[d3]at a6;simp only at a6;generalize bX S xn=ln at a9 b5 a6;generalize fG S xn=io at b0 b5 a6;generalize rG S xn=gv at a5 b5 a6;generalize xR S xe=en at a0 b5 a6;clear hcf hatF her hoi hci hx hre hF d2 c2 c4 c3 c5 b8 b9 d3 c7 e2;have d4:(256<xs.size/\decide (xs.size<=256)=false)\/(xs.size<=256/\decide (xs.size<=256)=true):=by
   by_cases e:xs.size<=256
   .exact .inr ⟨e,decide_eq_true e⟩
   exact .inl ⟨by omega,yM e⟩
  have d7:(xs=⟨#[]⟩/\(xs.size==0)=true)\/(xs.toList≠[]/\(xs.size==0)=false):=by
   obtain⟨dd⟩:=xs;by_cases e:dd.size=0
   .left;rw[Array.eq_empty_of_size_eq_zero e];exact⟨rfl,rfl⟩
   right;refine⟨λhn=>?_,by rw[yF];exact e⟩;rw[zW]at hn;exact e (by have:=congrArg List.length hn;simpa using this)
  have e4:(xe=[]/\xe.isEmpty=true)\/(0<xe.length/\xe.isEmpty=false):=by
   rcases xe with _|⟨e,r⟩
   .exact .inl ⟨rfl,rfl⟩
   exact .inr ⟨by simp,rfl⟩
  have e5:(ln=1/\(ln==1)=true)\/(ln≠1/\(ln==1)=false):=by
   by_cases e:ln=1
   .exact .inl ⟨e,by simpa using e⟩
   exact .inr ⟨e,by simpa using e⟩
  rcases q with _|k
  .obtain ⟨hr1,hr2⟩:=b3 rfl;subst hr1 hr2;clear b3 b6;have a7:=aC b5;have b4:=aC a6;clear b5 a6;simp only[Nat.zero_mul,zN]at x0 x1 x2 x3 f0;rcases d4 with⟨s1,hs⟩|⟨s1,hs⟩
   .have a8:(256:Int)<xs.size:=by omega
    have b7:decide ((256:Int)<xs.size)=true:=decide_eq_true a8;have HE:=aC (a7.out (by simp[hs]));clear a7 b4
    as_aux_lemma=>
     go_wp2;refine qR ?_
     repeat(go_big_quiet_step (first|(with_reducible first|refine cI (a5 _ (bel _ _))|refine cJ (a5 _ (bel _ _)))|(with_reducible first|refine cI (a0 _ (bel _ _))|refine cJ (a0 _ (bel _ _)))))
     refine QN λp=>?_;go_wp2_with fail;obtain rfl:M=false:=HE.out;go_ret;exact⟨rfl,bel _ _⟩
   have a8:¬(256:Int)<xs.size:=by omega
   have b7:decide ((256:Int)<xs.size)=false:=yM a8;rcases d7 with⟨rfl,hd⟩|⟨d1,hd⟩
   .as_aux_lemma=>
     go_wp2;refine qR ?_
     repeat(go_big_quiet_step (first|(with_reducible first|refine cI (a5 _ (bel _ _))|refine cJ (a5 _ (bel _ _)))|(with_reducible first|refine cI (a0 _ (bel _ _))|refine cJ (a0 _ (bel _ _)))))
     refine QN λp=>?_;rcases en with _|_
     .have HE:=aC (a7.out (by simp[hs,hd]));go_wp2_with fail;obtain rfl:M=false:=HE.out;go_ret;exact⟨rfl,bel _ _⟩
     have HE:=aC (b4.out (by simp[hs,hd]));go_wp2_with(first|(go_at_call 62;with_reducible refine aE (a9 _ (bel _ _)) λp31=>?_)|(go_at_call 63;with_reducible refine aE (b0 _ (bel _ _)) λp32=>?_));go_roundw
     case rel=>exact⟨0+1,by go_num,by omega,HE.out,bel _ _,(Keep.of_below (bel wr _) (λ_=>False)).blk HB.out.1 (λh=>h),HB.out.2.below (bel wr _) (zC _)⟩
     simp[intOf];omega
   have dE:(xs.toList==[])=false:=by simpa using d1
   have HE:=aC (a7.out (by simp[hs,hd]));clear a7 b4
   as_aux_lemma=>
    go_wp2;refine qR ?_
    repeat(go_big_quiet_step (first|(with_reducible first|refine cI (a5 _ (bel _ _))|refine cJ (a5 _ (bel _ _)))|(with_reducible first|refine cI (a0 _ (bel _ _))|refine cJ (a0 _ (bel _ _)))))
    refine QN λp=>?_;go_wp2_with fail;obtain rfl:M=false:=HE.out;go_ret;exact⟨rfl,bel _ _⟩
  obtain ⟨m, y0, hm⟩:=b6 k rfl;clear b3 b6;have kI:((k+1:Nat):Int)-1=k:=by omega
  have kW:IntKind.i64.wrap (k:Int)=k:=I64.wrap ⟨by omega,by omega⟩;have kl:k<S.ins.length:=by omega
  have e8:(k:Int)<S.ins.length:=by omega
  have k0:(0:Int)<((k+1:Nat):Int):=by omega
  have e9:decide ((0:Int)<((k+1:Nat):Int))=true:=decide_eq_true k0;rw[Nat.add_sub_cancel]at b5 a6;have a7:=aC b5;have b4:=aC a6;clear b5 a6;by_cases c1:gK S k<xn
  .have b2 :decide (gK S k<xn)=true:=decide_eq_true c1;have d5:¬xn<=m:=by omega
   have e6:decide (xn<=m)=false:=yM d5;clear hm c1;rcases gv with _|_
   .have HE:=aC (a7.out (by simp[b2]));clear a7 b4
    as_aux_lemma=>
     go_wp2;refine qR ?_
     repeat(go_big_quiet_step (first|(with_reducible first|refine cI (a5 _ (bel _ _))|refine cJ (a5 _ (bel _ _)))|(with_reducible first|refine cI (a0 _ (bel _ _))|refine cJ (a0 _ (bel _ _)))))
     refine QN λp=>?_;go_wp2_with fail;obtain rfl:M=false:=HE.out;go_ret;exact⟨rfl,bel _ _⟩
   rcases xd with _|_
   .rcases d4 with⟨s1,hs⟩|⟨s1,hs⟩
    .have a8:(256:Int)<xs.size:=by omega
     have b7:decide ((256:Int)<xs.size)=true:=decide_eq_true a8;have HE:=aC (a7.out (by simp[b2,hs]));clear a7 b4
     as_aux_lemma=>
      go_wp2;refine qR ?_
      repeat(go_big_quiet_step (first|(with_reducible first|refine cI (a5 _ (bel _ _))|refine cJ (a5 _ (bel _ _)))|(with_reducible first|refine cI (a0 _ (bel _ _))|refine cJ (a0 _ (bel _ _)))))
      refine QN λp=>?_;go_wp2_with fail;obtain rfl:M=false:=HE.out;go_ret;exact⟨rfl,bel _ _⟩
    have a8:¬(256:Int)<xs.size:=by omega
    have b7:decide ((256:Int)<xs.size)=false:=yM a8;rcases e4 with⟨rfl,hd⟩|⟨d1,hd⟩
    .as_aux_lemma=>
      go_wp2;refine qR ?_
      repeat(go_big_quiet_step (first|(with_reducible first|refine cI (a5 _ (bel _ _))|refine cJ (a5 _ (bel _ _)))|(with_reducible first|refine cI (a0 _ (bel _ _))|refine cJ (a0 _ (bel _ _)))))
      refine QN λp=>?_;rcases en with _|_
      .have HE:=aC (a7.out (by simp[b2,hs,hd]));go_wp2_with fail;obtain rfl:M=false:=HE.out;go_ret;exact⟨rfl,bel _ _⟩
      rcases f with _|_
      .rcases io with _|_
       .have HE:=aC (a7.out (by simp[b2,hs,hd]));go_wp2_with(first|(go_at_call 62;with_reducible refine aE (a9 _ (bel _ _)) λp31=>?_)|(go_at_call 63;with_reducible refine aE (b0 _ (bel _ _)) λp32=>?_))
        obtain rfl:M=false:=HE.out;go_ret;exact⟨rfl,bel _ _⟩
       have HE:=aC (b4.out (by simp[b2,hs,hd]));go_wp2_with(first|(go_at_call 62;with_reducible refine aE (a9 _ (bel _ _)) λp31=>?_)|(go_at_call 63;with_reducible refine aE (b0 _ (bel _ _)) λp32=>?_));go_roundw
       case rel=>exact⟨k+1+1,by go_num,by omega,HE.out,bel _ _,(Keep.of_below (bel wr _) (λ_=>False)).blk HB.out.1 (λh=>h),HB.out.2.below (bel wr _) (zC _)⟩
       simp[intOf];omega
      have HE:=aC (b4.out (by simp[b2,hs,hd]));go_wp2_with(first|(go_at_call 62;with_reducible refine aE (a9 _ (bel _ _)) λp31=>?_)|(go_at_call 63;with_reducible refine aE (b0 _ (bel _ _)) λp32=>?_));go_roundw
      case rel=>exact⟨k+1+1,by go_num,by omega,HE.out,bel _ _,(Keep.of_below (bel wr _) (λ_=>False)).blk HB.out.1 (λh=>h),HB.out.2.below (bel wr _) (zC _)⟩
      simp[intOf];omega
    have dI:(0:Int)<xe.length:=by omega
    have f1:decide ((0:Int)<xe.length)=true:=decide_eq_true dI;have HE:=aC (a7.out (by simp[b2,hs,hd]));clear a7 b4
    as_aux_lemma=>
     go_wp2;refine qR ?_
     repeat(go_big_quiet_step (first|(with_reducible first|refine cI (a5 _ (bel _ _))|refine cJ (a5 _ (bel _ _)))|(with_reducible first|refine cI (a0 _ (bel _ _))|refine cJ (a0 _ (bel _ _)))))
     refine QN λp=>?_;go_wp2_with fail;obtain rfl:M=false:=HE.out;go_ret;exact⟨rfl,bel _ _⟩
   rcases d4 with⟨s1,hs⟩|⟨s1,hs⟩
   .have a8:(256:Int)<xs.size:=by omega
    have b7:decide ((256:Int)<xs.size)=true:=decide_eq_true a8;have HE:=aC (a7.out (by simp[b2,hs]));clear a7 b4
    as_aux_lemma=>
     go_wp2;refine qR ?_
     repeat(go_big_quiet_step (first|(with_reducible first|refine cI (a5 _ (bel _ _))|refine cJ (a5 _ (bel _ _)))|(with_reducible first|refine cI (a0 _ (bel _ _))|refine cJ (a0 _ (bel _ _)))))
     refine QN λp=>?_;go_wp2_with fail;obtain rfl:M=false:=HE.out;go_ret;exact⟨rfl,bel _ _⟩
   have a8:¬(256:Int)<xs.size:=by omega
   have b7:decide ((256:Int)<xs.size)=false:=yM a8;rcases d7 with⟨rfl,hd⟩|⟨d1,hd⟩
   .as_aux_lemma=>
     go_wp2;refine qR ?_
     repeat(go_big_quiet_step (first|(with_reducible first|refine cI (a5 _ (bel _ _))|refine cJ (a5 _ (bel _ _)))|(with_reducible first|refine cI (a0 _ (bel _ _))|refine cJ (a0 _ (bel _ _)))))
     refine QN λp=>?_;rcases en with _|_
     .have HE:=aC (a7.out (by simp[b2,hs,hd]));go_wp2_with fail;obtain rfl:M=false:=HE.out;go_ret;exact⟨rfl,bel _ _⟩
     rcases e5 with⟨rfl,l2⟩|⟨l1,l2⟩
     .rcases f with _|_
      .have HE:=aC (a7.out (by simp[b2,hs,hd,l2]));go_wp2_with(first|(go_at_call 62;with_reducible refine aE (a9 _ (bel _ _)) λp31=>?_)|(go_at_call 63;with_reducible refine aE (b0 _ (bel _ _)) λp32=>?_))
       obtain rfl:M=false:=HE.out;go_ret;exact⟨rfl,bel _ _⟩
      have HE:=aC (b4.out (by simp[b2,hs,hd,l2]));go_wp2_with(first|(go_at_call 62;with_reducible refine aE (a9 _ (bel _ _)) λp31=>?_)|(go_at_call 63;with_reducible refine aE (b0 _ (bel _ _)) λp32=>?_));go_roundw
      case rel=>exact⟨k+1+1,by go_num,by omega,HE.out,bel _ _,(Keep.of_below (bel wr _) (λ_=>False)).blk HB.out.1 (λh=>h),HB.out.2.below (bel wr _) (zC _)⟩
      simp[intOf];omega
     have lb:(ln !=1)=true:=by simpa using l1
     have HE:=aC (a7.out (by simp[b2,hs,hd,l2]));go_wp2_with(first|(go_at_call 62;with_reducible refine aE (a9 _ (bel _ _)) λp31=>?_)|(go_at_call 63;with_reducible refine aE (b0 _ (bel _ _)) λp32=>?_));obtain rfl:M=false:=HE.out;go_ret;exact⟨rfl,bel _ _⟩
   have dE:(xs.toList==[])=false:=by simpa using d1
   have HE:=aC (a7.out (by simp[b2,hs,hd]));clear a7 b4
   as_aux_lemma=>
    go_wp2;refine qR ?_
    repeat(go_big_quiet_step (first|(with_reducible first|refine cI (a5 _ (bel _ _))|refine cJ (a5 _ (bel _ _)))|(with_reducible first|refine cI (a0 _ (bel _ _))|refine cJ (a0 _ (bel _ _)))))
    refine QN λp=>?_;go_wp2_with fail;obtain rfl:M=false:=HE.out;go_ret;exact⟨rfl,bel _ _⟩
  have b2:decide (gK S k<xn)=false:=yM c1;have d5:xn<=m:=by omega
  have e6:decide (xn<=m)=true:=decide_eq_true d5;clear hm c1;have HE:=aC (a7.out (by simp[b2]));clear a7 b4
  as_aux_lemma=>
   go_wp2;refine qR ?_
   repeat(go_big_quiet_step (first|(with_reducible first|refine cI (a5 _ (bel _ _))|refine cJ (a5 _ (bel _ _)))|(with_reducible first|refine cI (a0 _ (bel _ _))|refine cJ (a0 _ (bel _ _)))))
   refine QN λp=>?_;go_wp2_with fail;obtain rfl:M=false:=HE.out;go_ret;exact⟨rfl,bel _ _⟩
 have c6:¬(q:Int)<S.ins.length:=by omega
 have hy:M=true:=by rw[<-c9.out];refine aSG ⟨by omega,by omega,by omega,by omega⟩ c8.out.1 (by rw[c8.out.2.1,c8.out.2.2];rfl) d9.out d0.out (λj x hx=>b1.out j x (by obtain⟨h,_⟩:=gI.1 hx;omega) hx)
 subst hy;go_wp2;go_ret;exact⟨rfl,bel _ _⟩
end
def dS (nm:ByteArray) (es:List PEnt):List PEnt:=es.filter λe=>!(e.name.toList==nm.toList)
theorem aJK {nm:ByteArray} {es:List PEnt} {q:Nat} {z:PEnt} (h:es[q]? =some z):dS nm (es.take (q+1))=dS nm (es.take q)++(if (z.name.toList==nm.toList)=true then[]else[z]):=by
 unfold dS;rw[take_add_one,h,filter_append];congr 1;by_cases hb:(z.name.toList==nm.toList)=true
 .simp[hb]
 simp only[Bool.not_eq_true]at hb;simp[hb]
theorem vF (B b:Nat) (S:PSt) (iv ov mv:Value) (dir:Int) (name:ByteArray) (K:Nat) (x:PIn) (w:World) (hb:Blk w b #[iv,ov,mv] 26) (ho:StOwn B w iv ov mv S) (hB:B<=w.heap.size) (hwf:S.wf) (hat:bM S dir=K) (hx:S.ins[K]? =some x):
 Calls prog 128 #[.pointer b,dir,name] w λe w'=>e=.returned (.tuple #[])/\Below B w w'/\Keep (tR w) w w'/\StOwn B w' iv ov mv (S.ents K x (dS name x.ents)):=by
 obtain⟨hKl,-⟩:=gI.1 hx;obtain⟨bi,cap,rfl⟩:=ho.ins_form (by omega);have a2:vB w 85 #[.agg #[.slice bi S.ins.length cap,ov,mv],.int .i64 dir] (.int .i64 (K:Int)):=λww hb=>by have:=aAS S _ ov mv dir ww (ho.read.below hb (zC _)) hwf.1;rw[hat]at this;exact this
 obtain⟨a,cap',e1,hai⟩:=ho.read.ins_at2;cases e1;obtain⟨bi',oi,ev,he,iI0,hoi,her,hci⟩:=hai K x hx;cases he;obtain⟨iI,-,-,x2,-⟩:=hci w (Below.refl _ _);rw[zM]at x2;have b0:=aC x2;have b1:=(hwf.2.2.2.1 x (mG hx)).2.1;obtain⟨ae,ce,rfl,hae⟩:=her.at_;rw[lM]at x2;obtain⟨iL,s0,s1,s2⟩:=gN hb;have a3:=ho.1.one;have a1:=ho.2.1.one;obtain⟨ao,co,rfl⟩:=ho.1.formL;obtain⟨am,cm,rfl⟩:=ho.2.1.formL;simp only[lM]at a2 s1 s2;have b4:(K:Int)<S.ins.length:=by omega
 have H:=eK ho hx hb;obtain⟨xn,xd,xe,xs⟩:=x;simp only at x2 hae b1 |-;have HA:=aC hae;have a5:∀w2,Bl w w2->BlockLt bi w2/\w2.cell? ⟨bi,K*4+2,none⟩=some (.slice ae xe.length ce):=by intro w2 h2;obtain⟨i2,-,-,y2,-⟩:=hci w2 h2;rw[zM,lM]at y2;exact⟨i2,y2⟩
 have b2:=aC a5;clear a5;clear ho hx hb her hai hoi hci hae a3 a1 hat;go_in;go_upto_region 0 with fail;refine qR ?_
 repeat(go_big_quiet_step ((with_reducible first|refine cI (a2 _ (bel _ _))|refine cJ (a2 _ (bel _ _)))))
 refine QN λp=>?_;go_wp2
 go_loopw[7,8] (λv7 i wr=>∃(q:Nat) (zs:List PEnt),i=.int .i64 q/\q<=xe.length/\zs.length<=q/\OwnP w.heap.size wr 97 2 v7 (zs.map PEnt.cells)/\zs=dS name (xe.take q)/\Bl w wr) (λ_ i _=>(xe.length-intOf i).toNat)
 case atStart=>exact⟨0,[],rfl,by omega,by simp,.inl ⟨rfl,rfl⟩,rfl,bel _ _⟩
 obtain⟨q,zs,rfl,hq,hzl,hO,hre,hbw⟩:=hrel;have iB:Bel w wr:=⟨hbw⟩;obtain⟨iI2,y2⟩:=b2.out wr hbw;obtain⟨va,vc,rfl⟩:=hO.formL;generalize hzn:(zs.map PEnt.cells).length=zn at hO |-;have HO:=bG hO hzn;clear hO hzn;by_cases hlt:q<xe.length
 .obtain⟨z,hz⟩:∃z,xe[q]? =some z:=⟨_,gE hlt⟩
  have a0:=aJK (nm:=name) hz;rw[<-hre]at a0;obtain⟨be,oe,rfl,iE0,iE,hce⟩:=HA.out wr hbw q z.cells (by rw[gM,hz];rfl);have c0:=hce 0 _ rfl;have c1:=hce 1 _ rfl;rw[zN]at c0;have a4:(q:Int)<xe.length:=by omega
  have a6:=aC a0;clear hce hz hre;by_cases ht:(z.name.toList==name.toList)=true
  .have hs:=a6.out;rw[zB ht,append_nil]at hs;have HS:=aC hs;clear hs a0;go_wp2
   go_roundw
   case rel=>exact⟨q+1,zs,by go_num,by omega,by omega,by have h:=HO.out;first|exact h.1|(rw [<-h.2]at h;exact h.1),HS.out.symm,hbw⟩
   simp[intOf];omega
  have hs:=a6.out;rw[zA ht]at hs;have b5:(z.name.toList==name.toList)=false:=by simpa using ht
  have HS:=aC hs;clear hs a0 ht;go_wp2_with(at_builtin;refine sG rfl (.tmp 38) (.tmp 46) rfl w.heap.size _ _ zs [z] rfl (by go_simp) (HO.out.1.below (bel wr _)) (RowAt.single (Blk.new_i _ _ _ _) 2 1) (by simp;omega) (bel w _).size ?_);intro v' w' hg;have a7:=hg.on (HO.out.1.below (bel wr _)) (bel w _).size;have a8:=(bel w _).trans a7;have a9:OwnP w.heap.size w' 97 2 v' ((zs++[z]).map PEnt.cells):=by have:=hg.1;simpa using this
  have H2:=bG a9 a8;clear hg a7 a9 a8;go_wp2;go_roundw
  case rel=>exact⟨q+1,_,by go_num,by omega,by simp;omega,H2.out.1,HS.out.symm,H2.out.2⟩
  simp[intOf];omega
 have a4:¬(q:Int)<xe.length:=by omega
 have b3:zs=dS name xe:=by rw[hre,take_of_length_le (by omega)]
 subst b3;have hf:Below B w (wr.setCell ⟨bi,K*4+2,none⟩ (.slice va zn vc))/\Keep (tR w) w (wr.setCell ⟨bi,K*4+2,none⟩ (.slice va zn vc))/\StOwn B (wr.setCell ⟨bi,K*4+2,none⟩ (.slice va zn vc)) (.slice bi S.ins.length cap) (.slice ao (S.op.map PDesc.cells).length co) (.slice am (S.made.map aL).length cm) (S.ents K ⟨xn,xd,xe,xs⟩ (dS name xe)):=by obtain⟨ho,hx,hb⟩:=H.out;have h1:=HO.out.1;obtain⟨r1,r2,r3⟩:=ho.setEnts hx b0.out (h1.mono hB) (Keep.of_below hbw _) (λk hk=>.inr (h1.ge hk)) hB;exact⟨r2,r3,r1⟩
 have HF:=aC hf;have b6:=H.out.1.ins_thaw hKl hbw;clear hf hre;go_wp2;exact xE (v:=.tuple #[]) (by simp[results,go_sem]) rfl ⟨rfl,by have:=HF.out;first|exact this|(simp only[lM]at this;exact this)⟩
theorem StOwn.filt {B:Nat} {w:World} {iv' ov mv:Value} {S:PSt} (is:List IRec) (u1:OwnP B w 95 3 ov (S.op.map PDesc.cells)) (u2:OwnP B w 3 1 mv (S.made.map aL)) (u4:is.length=S.ins.length)
 (u5:∀(q:Nat) (r:IRec) (x:PIn),is[q]? =some r->S.ins[q]? =some x->r.num=x.num/\r.dir=x.dir/\r.data=x.data/\OwnP B w 97 2 r.ev (x.ents.map PEnt.cells)) (u6:∀(p q:Nat) (r r':IRec),p≠q->is[p]? =some r->is[q]? =some r'->∀g,r.ev.ownBlock=some g->r'.ev.ownBlock≠some g)
 (p:Int->Bool) (h:OwnP B w 68 4 iv' ((is.filter λr=>p r.num).map IRec.cells)):StOwn B w iv' ov mv { S with ins:=S.ins.filter λx=>p x.num}:=by
 obtain⟨L,hL⟩:∃L,is.zip S.ins=L:=⟨_,rfl⟩;have a1:L.map Prod.fst=is:=by rw[<-hL];exact map_fst_zip (by omega)
 have a2:L.map Prod.snd=S.ins:=by rw[<-hL];exact map_snd_zip (by omega)
 have hm:∀y∈L,y.1.num=y.2.num/\y.1.dir=y.2.dir/\y.1.data=y.2.data/\OwnP B w 97 2 y.1.ev (y.2.ents.map PEnt.cells):=by
  intro y hy;obtain⟨q,hq⟩:=mem_iff_getElem?.1 hy;refine u5 q y.1 y.2 ?_ ?_
  .rw[<-a1,gM,hq];rfl
  rw[<-a2,gM,hq];rfl
 have e1:(is.filter λr=>p r.num)=(L.filter λy=>p y.1.num).map Prod.fst:=by rw[<-a1,filter_map];rfl
 have e2:(S.ins.filter λx=>p x.num)=(L.filter λy=>p y.1.num).map Prod.snd:=by rw[<-a2,filter_map];congr 1;refine filter_congr λy hy=>?_;show p y.2.num=p y.1.num;rw[(hm y hy).1]
 have a3:is.Pairwise λr r'=>∀g,r.ev.ownBlock=some g->r'.ev.ownBlock≠some g:=by rw[pairwise_iff_getElem];intro i j hi hj hij;exact u6 i j _ _ (by omega) (gE hi) (gE hj)
 have a0:=a3.filter (λr=>p r.num);refine⟨u1,u2,is.filter λr=>p r.num,h,?_,?_,?_⟩
 .show _=(S.ins.filter λx=>p x.num).length;rw[e1,e2,lM,lM]
 .intro q r x hr hx;change (S.ins.filter λx=>p x.num)[q]? =some x at hx;rw[e1,gM]at hr;rw[e2,gM]at hx;rcases hy:(L.filter λy=>p y.1.num)[q]? with _|y
  .rw[hy]at hr;cases hr
  rw[hy]at hr hx;simp only[Option.map_some,zF]at hr hx;subst hr;subst hx;exact hm y (mem_filter.1 (mG hy)).1
 intro a b r r' hab hr hr' g hg hg';obtain⟨ha,ea⟩:=gI.1 hr;obtain⟨hb,eb⟩:=gI.1 hr';rw[pairwise_iff_getElem]at a0;rcases Nat.lt_or_gt_of_ne hab with hlt|hlt
 .exact a0 a b ha hb hlt g (by rw[ea];exact hg) (by rw[eb];exact hg')
 exact a0 b a hb ha hlt g (by rw[eb];exact hg') (by rw[ea];exact hg)
def lO (S:PSt) (num:Int):PSt:=if 0<bX S num then S else if fG S num=true then S else{ S with ins:=S.ins.filter λx=>!(x.num==num)}
theorem aPG {p:IRec->Bool} {is:List IRec} {q:Nat} {z:IRec} (h:is[q]? =some z):(is.take (q+1)).filter p=(is.take q).filter p++(if p z=true then[z]else[]):=by
 rw[take_add_one,h,filter_append];congr 1;by_cases hb:p z=true
 .simp[hb]
 simp only[Bool.not_eq_true]at hb;simp[hb]
theorem xT (B b:Nat) (S:PSt) (iv ov mv:Value) (num:Int) (w:World) (hb:Blk w b #[iv,ov,mv] 26) (ho:StOwn B w iv ov mv S) (hB:B<=w.heap.size) (hBb:B<=b) (hwf:S.wf) (h0:0<S.ins.length):
 Calls prog 124 #[.pointer b,num] w λe w'=>e=.returned (.tuple #[])/\Below B w w'/\Keep (λg=>g=b) w w'/\∃iv',Blk w' b #[iv',ov,mv] 26/\StOwn B w' iv' ov mv (lO S num):=by
 have a3:vB w 62 #[.agg #[iv,ov,mv],.int .i64 num] (.int .i64 (bX S num)):=λww h=>aEJ S iv ov mv num ww (ho.read.below h (zC _)) hwf;have a4:vB w 63 #[.agg #[iv,ov,mv],.int .i64 num] (.bool (fG S num)):=λww h=>aBX S iv ov mv num ww (ho.read.below h (zC _)) hwf.2.1;unfold lO;obtain⟨bi,cap,rfl⟩:=ho.ins_form h0;have iL:=hb.lt;have s0:=hb.cell 0;have s1:=hb.cell 1;have s2:=hb.cell 2;have f0:=hb.frozen 0;simp at s0 s1 s2 f0;obtain⟨ao,co,rfl⟩:=ho.1.formL;obtain⟨am,cm,rfl⟩:=ho.2.1.formL;generalize(S.op.map PDesc.cells).length=no at *;generalize(S.made.map aL).length=nm at *;have a7:=bG ho hb;have a1:∀p:Behind,Keep (λg=>g=b) w (w.junk p):=λp=>(Keep.refl _ w).junk p;by_cases hl:0<bX S num
 .rw[zB hl];generalize bX S num=lk at a3 hl;clear a4 ho hb a1
  go_in;go_wp2_with(go_at_call 62;with_reducible refine aE (a3 _ (bel _ _)) λp=>?_);exact xD (v:=.tuple #[]) (by simp[results,Tryz.results124,go_sem]) rfl ⟨rfl,(bel w _).mono hB,Keep.of_below (bel w _) _,_,aB a7.out.2 (bel w _),a7.out.1.on (bel w _)⟩
 rw[zA hl];by_cases hop:fG S num=true
 .rw[zB hop];rw[hop]at a4;generalize bX S num=lk at a3 hl;clear ho hb a1
  go_in;go_wp2_with(first|(go_at_call 62;with_reducible refine aE (a3 _ (bel _ _)) λp=>?_)|(go_at_call 63;with_reducible refine aE (a4 _ (bel _ _)) λp=>?_));exact xD (v:=.tuple #[]) (by simp[results,Tryz.results124,go_sem]) rfl ⟨rfl,(bel w _).mono hB,Keep.of_below (bel w _) _,_,aB a7.out.2 (bel w _),a7.out.1.on (bel w _)⟩
 rw[zA hop];have a5:fG S num=false:=by simpa using hop
 rw[a5]at a4;generalize bX S num=lk at a3 hl;obtain⟨u1,u2,is,u3,u4,u5,u6⟩:=ho;obtain⟨a,capx,e1,hai⟩:=u3.row.at_;rw[lM,u4]at e1;cases e1;have b4:∀w2,Bl w w2->BlockLt b w2/\w2.cell? b=some (.slice bi S.ins.length cap)/\w2.frozen? b=false:=by intro w2 h2;have h3:=aB hb h2;exact⟨h3.lt,h3.cell 0,h3.frozen 0⟩
 have a2:∀(q:Nat) (r:IRec),is[q]? =some r->∃a n c,r.ev=.slice a n c:=by intro q r hr;obtain⟨hl,_⟩:=gI.1 hr;exact(u5 q r _ hr (gE (by omega))).2.2.2.form
 have a6:∀(w1:World) (v:Value),OwnP w.heap.size w1 68 4 v ((is.filter λr:IRec=>!(r.num==num)).map IRec.cells)->Bl w w1->Below B w (w1.setCell b v)/\Keep (λg=>g=b) w (w1.setCell b v)/\Blk (w1.setCell b v) b #[v,.slice ao no co,.slice am nm cm] 26/\StOwn B (w1.setCell b v) v (.slice ao no co) (.slice am nm cm) { S with ins:=S.ins.filter λx=>!(x.num==num)}:=by intro w1 v h1 h2;have b5:=aB hb h2;have a9:Keep (λg=>g=b) w1 (w1.setCell b v):=Keep.setCell (S:=λg=>g=b) (p:=b) (Keep.refl _ _) (.inl rfl) _;have b0:Keep (λ_=>False) w w1:=Keep.of_below h2 (λ_=>False);have hs:=StOwn.filt (B:=B) (w:=w1) (iv':=v) is (u1.keep b0 (λ_ _ h=>h)) (u2.keep b0 (λ_ _ h=>h)) u4 (λq r x hr hx=>⟨(u5 q r x hr hx).1,(u5 q r x hr hx).2.1,(u5 q r x hr hx).2.2.1,(u5 q r x hr hx).2.2.2.keep b0 (λ_ _ h=>h)⟩) u6 (λn=>!(n==num)) (h1.mono hB);refine⟨(h2.mono hB).trans (a9.below (zD hB h2.size) (λi hi e=>by omega)),(Keep.of_below h2 (λg=>g=b)).trans a9 (λi _ e=>e),b5.set_ 0 v,hs.keep a9 (λg hg=>by rw[hg];exact⟨_,26,b5,by decide,by decide,by decide,by decide⟩)⟩
 have b9:=aC b4;have c4:=aC a2;have b1:=aC a6;have HA:=aC hai;have HU:=aC u4;have c5:S.ins.length<=1000000000:=hwf.1;clear b4 a2 a6 hai u1 u2 u3 u4 u5 u6 hb a1 hop a5 hwf;go_in;go_wp2_with(first|(go_at_call 62;with_reducible refine aE (a3 _ (bel _ _)) λp=>?_)|(go_at_call 63;with_reducible refine aE (a4 _ (bel _ _)) λp=>?_))
 go_loopw[4,5] (λv4 i wr=>∃(q:Nat) (zs:List IRec),i=.int .i64 q/\q<=S.ins.length/\zs.length<=q/\OwnP w.heap.size wr 68 4 v4 (zs.map IRec.cells)/\zs=(is.take q).filter (λr:IRec=>!(r.num==num))/\Bl w wr) (λ_ i _=>(S.ins.length-intOf i).toNat)
 case atStart=>exact⟨0,[],rfl,by omega,by simp,.inl ⟨rfl,rfl⟩,by simp,bel _ _⟩
 obtain⟨q,zs,rfl,hq,hzl,hO,hre,hbw⟩:=hrel;have iB:Bel w wr:=⟨hbw⟩;obtain⟨iL2,t0,tf⟩:=b9.out wr hbw;obtain⟨va,vn,vc,rfl⟩:=hO.form;have HO:=aC hO;clear hO;by_cases hlt:q<S.ins.length
 .have b2:q<is.length:=by have:=HU.out;omega
  obtain⟨r,hr⟩:∃r,is[q]? =some r:=⟨_,gE b2⟩;have a0:=aPG (p:=λr:IRec=>!(r.num==num)) hr;rw[<-hre]at a0;obtain⟨ra,rn2,rc,hrev⟩:=c4.out q r hr;obtain⟨be,oe,he,iE0,iE,hce⟩:=HA.out wr hbw q r.cells (by rw[gM,hr];rfl);cases he;have c0:=hce 0 _ rfl;have c1:=hce 1 _ rfl;have c2:=hce 2 _ rfl;have c3:=hce 3 _ rfl;simp only[zM,zN]at c0 c1 c2 c3;have b3:(q:Int)<S.ins.length:=by omega
  clear hce hr hre;obtain⟨rn,rd,re,rs,ro⟩:=r;simp only at hrev;subst hrev;simp only at c0 c1 c2 c3 a0;have a8:=aC a0;by_cases ht:rn=num
  .have hs:=a8.out;rw[zA (by simp[ht])]at hs;rw[append_nil]at hs;have HS:=aC hs;have c6:(rn !=num)=false:=by simp[ht]
   clear hs a0 a8;go_wp2;go_roundw
   case rel=>exact⟨q+1,zs,by go_num,by omega,by omega,HO.out,HS.out.symm,hbw⟩
   simp[intOf];omega
  have hs:=a8.out;rw[zB (by simp[ht])]at hs;have HS:=aC hs;have c6:(rn !=num)=true:=by simp[ht]
  clear hs a0 a8;go_wp2_with(at_builtin;refine uP rfl (.tmp 38) (.tmp 46) rfl w.heap.size _ _ zs [(⟨rn,rd,.slice ra rn2 rc,rs,ro⟩:IRec)] rfl (by go_simp) (HO.out.below (bel wr _)) (RowAt.single (Blk.new_i _ _ _ _) 4 1) (by simp;omega) (bel w _).size ?_);intro v' w' hg;have b6:=hg.on (HO.out.below (bel wr _)) (bel w _).size;have b7:=(bel w _).trans b6;have b8:OwnP w.heap.size w' 68 4 v' ((zs++[(⟨rn,rd,.slice ra rn2 rc,rs,ro⟩:IRec)]).map IRec.cells):=by have:=hg.1;simpa using this
  have H2:=bG b8 b7;clear hg b6 b8 b7;go_wp2;go_roundw
  case rel=>exact⟨q+1,_,by go_num,by omega,by simp;omega,H2.out.1,HS.out.symm,H2.out.2⟩
  simp[intOf];omega
 have b3:¬(q:Int)<S.ins.length:=by omega
 have c7:zs=is.filter (λr:IRec=>!(r.num==num)):=by rw[hre,take_of_length_le (by have:=HU.out;omega)]
 subst c7;have HF:=aC (b1.out wr _ HO.out hbw);clear hre;go_wp2;exact xE (v:=.tuple #[]) (by simp[results,go_sem]) rfl ⟨rfl,HF.out.1,HF.out.2.1,_,HF.out.2.2.1,HF.out.2.2.2⟩
theorem aPA (B b:Nat) (S:PSt) (iv ov mv:Value) (kd core f0 off nu:Int) (path p2 dt:ByteArray) (num:Int) (K:Nat) (x:PIn) (J:Int) (w:World) (hb:Blk w b #[iv,ov,mv] 26) (ho:StOwn B w iv ov mv S) (hB:B<=w.heap.size) (hBb:B<=b) (hfR:FineR S) (hfind:eX S path=(num,0))
 (hat:bM S num=K) (hx:S.ins[K]? =some x) (hd:x.dir=false) (hJ0:0<=J) (hJ3:J<=3) (hJf:nR S core J=0) (hJl:∀i:Int,0<=i->i<J->nR S core i≠0):
 Calls prog 94 #[.pointer b,.agg #[kd,core,f0,off,nu,path,p2,dt],.int .i64 (-1)] w λe w'=>e=.returned (.tuple #[aQ 0 J 0,true])/\Below B w w'/\Spared b w w'/\∃iv' ov' mv',Blk w' b #[iv',ov',mv'] 26/\StOwn B w' iv' ov' mv' { S with op:=cQ (fK core J) ⟨core,J,num⟩ S.op false []}:=by
 have a3:=hfR.wf;have a9:=c46 ho.read hfR hfind;have b0:=uX ho.read a3.1 hat;have a6:∀i ww,Bl w ww->vR ww 43 #[.agg #[iv,ov,mv],.int .i64 core,.int .i64 i] (.int .i64 (nR S core i)):=λi ww hb=>aWD S iv ov mv core i ww (ho.read.below hb (zC _)) a3.2.1;obtain⟨hxl,-⟩:=gI.1 hx;obtain⟨bi,cap,rfl⟩:=ho.ins_form (by omega);obtain⟨ma,mn,mc,rfl⟩:=ho.2.1.form;obtain⟨oa,on,oc,rfl⟩:=ho.1.form;obtain⟨a,cap',e1,hai⟩:=ho.read.ins_at2;cases e1;obtain⟨bi',oi,ev,he,iI0,hoi,her,hci⟩:=hai K x hx;cases he;obtain⟨iI,-,x1,-,-⟩:=hci w (Below.refl _ _);rw[hd]at x1;simp only[zM]at x1;have b8:(K:Int)<S.ins.length:=by omega
 have iL:=hb.lt;have a7:b<w.heap.size:=hb.lt.lt;obtain⟨-,s0,s1,s2⟩:=gN hb;have b2:=a3.2.1;have HH:=lE hb ho a3 trivial;clear hb ho a3 hx hd hat hai her hci hoi hfR hfind;go_in;go_upto_region 1 with fail;refine qR ?_
 repeat(go_big_quiet_step ((with_reducible first|refine cI (a9 _ (bel _ _))|refine cJ (a9 _ (bel _ _)))))
 refine QN λp=>?_;go_wp2;refine qR ?_
 repeat(go_big_quiet_step ((with_reducible first|refine cI (b0 _ (bel _ _))|refine cJ (b0 _ (bel _ _)))))
 refine QN λp=>?_;go_wp2_with fail;refine aD (F:=λwa=>StOwn B wa (.slice bi S.ins.length cap) (.slice oa on oc) (.slice ma mn mc) S/\Blk wa b #[.slice bi S.ins.length cap,.slice oa on oc,.slice ma mn mc] 26/\Blk wa w.heap.size #[kd,core,f0,off,nu,path,p2,dt] 28/\Blk wa (w.heap.size+1) () 52/\Bl w wa) ⟨HH.out.2.1.on (bel w _),aB HH.out.1 (bel w _),aB (Blk.new w #[kd,core,f0,off,nu,path,p2,dt] 28) (bel _ _),aB (Blk.new_i (w.alloc (.cells #[kd,core,f0,off,nu,path,p2,dt] 28)) () 52 (w.heap.size+1)) (bel _ _),bel w _⟩ ?_;clear s0 s1 s2 x1 iI iL;rintro wa ⟨ho,hb,hbc,hbr,hbw⟩;have HW:=nV ho hb hbc hbr hbw;clear ho hb hbc hbr hbw
 go_loopw[10,11] (λv10 v11 wr=>∃i j:Int,v11=.int .i64 i/\v10=.int .i64 j/\-1<=i/\i<=3/\((J<=i/\(j=-1\/i<j))\/(i<J/\j=J))/\Bl wa wr) (λ_ i _=>(intOf i+1).toNat)
 case atStart=>exact⟨3,-1,rfl,rfl,by omega,by omega,.inl ⟨hJ3,.inl rfl⟩,Below.refl _ _⟩
 obtain⟨i,j,rfl,rfl,hi1,hi3,hj,hbw⟩:=hrel;have b1:Bl w wr:=HW.out.2.2.2.2.trans (hbw.mono HW.out.2.2.2.2.size);have iB:Bel w wr:=⟨b1⟩;have hb:=aB HW.out.2.1 hbw;have hc:=aB HW.out.2.2.1 hbw;have iL:=hb.lt;have iC:=hc.lt;have s0:=hb.cell 0;have s1:=hb.cell 1;have s2:=hb.cell 2;have q1:=hc.cell 1;simp at s0 s1 s2 q1;clear hb hc;by_cases h0:0<=i
 .have a0:=λww hb=>a6 i ww hb
  have wi:IntKind.i64.wrap (i-1)=i-1:=I64.wrap ⟨by omega,by omega⟩;have a1:(nR S core i=0->((J<=i-1/\(i=-1\/i-1<i))\/(i-1<J/\i=J)))/\(nR S core i≠0->((J<=i-1/\(j=-1\/i-1<j))\/(i-1<J/\j=J))):=by
   refine⟨λh0'=>?_,λh0'=>?_⟩
   .by_cases hlt:i<J
    .exact absurd h0' (hJl i h0 hlt)
    by_cases he:i=J
    .exact .inr ⟨by omega,he⟩
    exact .inl ⟨by omega,.inr (by omega)⟩
   have b9:i≠J:=λe=>h0' (by rw[e];exact hJf);rcases hj with⟨h1,h2⟩|⟨h1,h2⟩
   .exact .inl ⟨by omega,by omega⟩
   exact .inr ⟨by omega,h2⟩
  have a4:=aC a1;clear hj a6 a1 hJf hJl hJ0 hJ3;generalize nR S core i=fi at a0 a4;by_cases hfi:fi=0
  .subst hfi;have hr:=a4.out.1 rfl;have HR:=aC hr;clear hr a4
   go_upto_region 10 with fail;refine qR ?_
   repeat(go_big_quiet_step ((with_reducible first|refine cI (a0 _ (bel _ _))|refine cJ (a0 _ (bel _ _)))))
   refine QN λp=>?_;go_wp2;go_roundw
   case rel=>exact⟨i-1,i,by go_num,rfl,by omega,by omega,HR.out,bel wr _ |> λh=>hbw.trans (h.mono hbw.size)⟩
   simp[intOf];omega
  have c0:(fi==0)=false:=by simpa using hfi
  have hr:=a4.out.2 hfi;have HR:=aC hr;clear hr a4;go_upto_region 10 with fail;refine qR ?_
  repeat(go_big_quiet_step ((with_reducible first|refine cI (a0 _ (bel _ _))|refine cJ (a0 _ (bel _ _)))))
  refine QN λp=>?_;go_wp2;go_roundw
  case rel=>exact⟨i-1,j,by go_num,rfl,by omega,by omega,HR.out,bel wr _ |> λh=>hbw.trans (h.mono hbw.size)⟩
  simp[intOf];omega
 obtain rfl:i=-1:=by omega
 obtain rfl:J=j:=by rcases hj with⟨h1,h2⟩|⟨h1,h2⟩<;>omega
 have a2:=λww hb=>a6 J ww hb;rw[hJf]at a2;have c1:¬J<0:=by omega
 have b3:¬4<=J:=by omega
 have b4:decide (4<=J)=false:=yM b3;clear hj a6 hJl hJf;go_wp2;refine qR ?_
 repeat(go_big_quiet_step ((with_reducible first|refine cI (a2 _ (bel _ _))|refine cJ (a2 _ (bel _ _)))))
 refine QN λp=>?_;go_upto_region 18 with fail;refine aD (F:=λwz=>StOwn B wz (.slice bi S.ins.length cap) (.slice oa on oc) (.slice ma mn mc) S/\Blk wz b #[.slice bi S.ins.length cap,.slice oa on oc,.slice ma mn mc] 26/\Blk wz w.heap.size #[kd,core,f0,off,nu,path,p2,dt] 28/\Blk wz (w.heap.size+1) () 52/\Bl w wz) ⟨(HW.out.1.on hbw).on (bel wr _),aB (aB HW.out.2.1 hbw) (bel wr _),aB (aB HW.out.2.2.1 hbw) (bel wr _),aB (aB HW.out.2.2.2.1 hbw) (bel wr _),bel w _⟩ ?_;clear s0 s1 s2 q1 iL iC iB b1 hbw HW;rintro wz ⟨ho,hb,hc,hr,hbw⟩;have b5:B<=wz.heap.size:=zD hB hbw.size;have iC:=hc.lt;have q1:=hc.cell 1;simp at q1;have a8:Calls prog 123 #[.pointer b,core,J,num] wz λe w'=>e=.returned (.tuple #[])/\Below B wz w'/\Keep (λg=>g=b) wz w'/\∃ov',Blk w' b #[.slice bi S.ins.length cap,ov',.slice ma mn mc] 26/\StOwn B w' (.slice bi S.ins.length cap) ov' (.slice ma mn mc) { S with op:=cQ (fK core J) ⟨core,J,num⟩ S.op false []}:=aWB B b S _ _ _ core J num wz hb ho b5 hBb b2;have HZ:=eK hc hr hbw;clear ho hb hc hr hbw;go_upto_region 19 with(go_at_call 123;(with_reducible refine a8.mono ?_);rintro e w5 ⟨rfl,hb5,hk5,ov5,hb55,hs5⟩;have a5:=lE hb5 hk5 hb55 hs5;clear hb5 hk5 hb55 hs5)
 have f3:=a5.out.2.1.blk HZ.out.2.1 (by omega);have l3:=f3.lt;have g0:=f3.cell 0;have g1:=f3.cell 1;have g2:=f3.cell 2;have g3:=f3.cell 3;have g4:=f3.cell 4;have b6:=f3.cell 5;have c2:=f3.frozen 0;have c3:=f3.frozen 1;have c4:=f3.frozen 2;have c5:=f3.frozen 3;have c6:=f3.frozen 4;have c7:=f3.frozen 5;simp at g0 g1 g2 g3 g4 b6;have b7:=aC f3;clear f3 q1 iC;go_wp2;exact xD (v:=.tuple #[aQ 0 J 0,true]) (by unfold results;simp only[results94,aQ];go_simp) rfl ⟨rfl,mY (r:=w.heap.size+1) kQ (by omega) a7 hB b7.out a5.out.2.2.1 a5.out.2.2.2 ((HZ.out.2.2.mono hB).trans a5.out.1) ((Spared.of_below HZ.out.2.2).trans (λg c t hb hn _=>a5.out.2.1.blk hb hn))⟩
theorem aJB {s:ByteArray} {p:Nat} (hp:p<s.size) (h:jP (s.extract p s.size) ⟨#[239,191,189]⟩=true):(s.get! p).toNat=239/\p+1<s.size/\p+2<s.size/\(s.get! (p+1)).toNat=191/\(s.get! (p+2)).toNat=189:=by
 unfold jP at h;rw[zE,zI,beq_iff_eq]at h;obtain⟨h1,h2⟩:=h;have a0:(s.extract p s.size).size=s.size-p:=by simp
 have h3:(⟨#[239,191,189]⟩:ByteArray).size=3:=rfl;rw[h3,a0]at h1;rw[h3,zW,zW]at h2;have hd:((s.extract p s.size).extract 0 3).data=#[239,191,189]:=Array.toList_inj.1 h2;rw[ByteArray.data_extract,ByteArray.data_extract]at hd;have g:∀k (hk:k<3),(s.get! (p+k))=(#[239,191,189]:Array UInt8)[k]'hk:=by
  intro k hk;have a1:p+k<s.size:=by omega
  have e1:((s.data.extract p s.size).extract 0 3)[k]? =(#[239,191,189]:Array UInt8)[k]? :=by rw[hd]
  have a2:s.data.size=s.size:=rfl;rw[yA (by simp;omega),yA (by simpa using hk)]at e1;simp only[Array.getElem_extract,zM,zF]at e1;rw[dQ s _ a1];exact e1
 have g0:=g 0 (by omega);have g1:=g 1 (by omega);have g2:=g 2 (by omega);rw[zN]at g0;exact⟨by rw[g0];rfl,by omega,by omega,by rw[g1];rfl,by rw[g2];rfl⟩
theorem xG (s:ByteArray):∀b p,bZ s b p=true->fI s b p=true
 |0,_,_=>rfl
 | b + 1,p,h=>by
   unfold bZ at h;unfold fI;by_cases hp:p<s.size
   .rw [zB hp]at h |-;obtain⟨h1,h2,h3⟩:=aEN hp;rw[zE,yL]at h;obtain⟨hb,hc⟩:=h;unfold fP at hb;simp only[yV,yW,yF]at hb;obtain⟨⟨⟨hb1,hb2⟩,hb3⟩,hb4⟩:=hb;have hk:(cD s p).2≠0:=by
     intro e;obtain⟨e1,e2⟩:=h3.1 e;rw[e1]at hb4;rw[Bool.and_eq_false_iff]at hb4;rcases hb4 with hb4|hb4
     .rw[yF]at hb4;exact hb4 (by kernel_rfl)
     rw[Bool.not_eq_false']at hb4;obtain⟨q0,q1,q2,q3,q4⟩:=aJB hp hb4;refine e2 ⟨q0,?_,?_,?_,?_⟩
     .rw[decide_eq_true q1,q3];decide
     .rw[decide_eq_true q2,q4];decide
     .rw[q3]
     rw[q4]
    have hw:(cD s p).2.toNat=(Utf8.decode s p).2:=by
     have:0<=(cD s p).2:=by
      unfold cD bQ
      repeat' split
      all_goals simp
     omega
    rw[zA (by
     rintro(e|e|e|e)
     .exact hk e
     .omega
     .omega
     omega),hw]
    exact xG s b _ hc
   rw[zA hp]
theorem sC (s:ByteArray):bI s=cT s:=by
 unfold bI cT;split
 .rfl
 split
 .rfl
 by_cases h:bZ s s.size 0=true
 .rw[zB h,zB (xG s _ _ h)]
 rw[zA h,zA (λe=>h (rJ s _ _ e))]
section
theorem aVX (b0 b1 b2 b3:Nat) (c1 c2 c3:Bool):(fO b0 b1 b2 b3 c1 c2 c3).1=47↔b0=47:=by
 unfold fO;constructor
 .intro h
  repeat' split at h
  all_goals simp at h
  all_goals first|exact h|omega|(simp only[zE,zI]at *;omega)
 rintro rfl;rfl
theorem aYE (b0 b1 b2 b3:Nat) (c1 c2 c3:Bool):1<=(fO b0 b1 b2 b3 c1 c2 c3).2/\(2<=(fO b0 b1 b2 b3 c1 c2 c3).2->c1=true)/\(3<=(fO b0 b1 b2 b3 c1 c2 c3).2->c2=true)/\(4<=(fO b0 b1 b2 b3 c1 c2 c3).2->c3=true)/\(fO b0 b1 b2 b3 c1 c2 c3).2<=4/\(b0=47->(fO b0 b1 b2 b3 c1 c2 c3).2=1):=by
 unfold fO
 repeat' split
 all_goals simp_all
 all_goals first|done|omega
variable {p:Nat} {t:ByteArray}
theorem aJC:(Utf8.decode t p).1=47↔(t.get! p).toNat=47:=by rw[lA];exact aVX _ _ _ _ _ _ _
theorem aSV:1<=(Utf8.decode t p).2/\((t.get! p).toNat=47->(Utf8.decode t p).2=1)/\∀j,1<=j->j<(Utf8.decode t p).2->p+j<t.size/\(t.get! (p+j)).toNat≠47:=by
 rw[lA];obtain⟨h1,h2,h3,h4,h5,h6⟩:=aYE (t.get! p).toNat (t.get! (p+1)).toNat (t.get! (p+2)).toNat (t.get! (p+3)).toNat (decide (p+1<t.size)&&(t.get! (p+1)).toNat/64==2) (decide (p+2<t.size)&&(t.get! (p+2)).toNat/64==2) (decide (p+3<t.size)&&(t.get! (p+3)).toNat/64==2);refine⟨h1,h6,λj hj1 hj2=>?_⟩;have key:∀k,(decide (p+k<t.size)&&(t.get! (p+k)).toNat/64==2)=true->p+k<t.size/\(t.get! (p+k)).toNat≠47:=by intro k hk;simp only[zE,zI,beq_iff_eq]at hk;exact⟨hk.1,by omega⟩
 have:j=1\/j=2\/j=3:=by omega
 rcases this with rfl|rfl|rfl
 .exact key 1 (h2 (by omega))
 .exact key 2 (h3 (by omega))
 exact key 3 (h4 (by omega))
theorem vE {s:ByteArray} {j:Nat} (h:j<s.size):(s++⟨#[47]⟩:ByteArray).get! j=s.get! j:=by
 have h2:j<(s++⟨#[47]⟩:ByteArray).size:=by rw[xA];omega
 rw[dQ _ _ h2,dQ _ _ h];exact ByteArray.getElem_append_left h
theorem aGF (s:ByteArray):((s++⟨#[47]⟩:ByteArray).get! s.size).toNat=47:=by
 have h2:s.size<(s++⟨#[47]⟩:ByteArray).size:=by rw[xA];exact Nat.lt_succ_self _
 rw[dQ _ _ h2,ByteArray.getElem_append_right (zC _)];simp only[Nat.sub_self];rfl
theorem aEE (s:ByteArray):∀(w n fr i:Nat) (acc:List ByteArray),i+w<=s.size->(∀j,j<w->(s.get! (i+j)).toNat≠47)->aY s (n+w) fr i acc=aY s n fr (i+w) acc
 |0,_,_,_,_,_,_=>rfl
 | w+1,n,fr,i,acc,hw,h=>by
   have a0:i<s.size:=by omega
   have h0:=h 0 (by omega);rw[zN,dQ s i a0]at h0;rw[<-Nat.add_assoc]
   conv=>lhs;unfold aY
   rw[dif_pos a0,zA h0];rw[aEE s w n fr (i+1) acc (by omega) (λj hj=>by
    have:=h (j+1) (by omega)
    rwa [show i+(j+1)=i+1+j by omega]at this)]
   rw[show i+1+w=i+(w+1) by omega]
theorem uN (s:ByteArray):cT s=0\/cT s=800\/cT s=801:=by
 unfold cT
 repeat' split
 all_goals simp
theorem aSW (s:ByteArray):∀(m b pos fr:Nat) (acc:List ByteArray),s.size+1-pos<=m->s.size+1-pos<=b->1<=pos->pos<=s.size+1->cL s (s++⟨#[47]⟩) b pos fr acc=aY s (s.size+1-pos) fr pos acc:=by
 intro m
 induction m with
 | zero=>
   intro b pos fr acc h1 h2 h3 h4;have e:pos=s.size+1:=by omega
   subst e;rw[Nat.sub_self];have ht:(s++⟨#[47]⟩:ByteArray).size=s.size+1:=by rw[xA];rfl
   rw[gZ _ _ _ _ _ _ (by omega)];rfl
 | succ m ih=>
   intro b pos fr acc h1 h2 h3 h4;have ht:(s++⟨#[47]⟩:ByteArray).size=s.size+1:=by rw[xA];rfl
   by_cases he:pos=s.size+1
   .subst he;rw[Nat.sub_self,gZ _ _ _ _ _ _ (by omega)];rfl
   have a4:pos<s.size+1:=by omega
   obtain⟨b,rfl⟩:∃b',b=b'+1:=⟨b-1,by omega⟩;obtain⟨w1,w2,w3⟩:=aSV (t:=s++⟨#[47]⟩) (p:=pos);unfold cL;rw[zB (by omega)];have a0:((pos:Int)==0)=false:=by rw[yF];omega
   rw[a0,Bool.false_or];obtain⟨n,hn⟩:∃n,s.size+1-pos=n+1:=⟨s.size-pos,by omega⟩;have a1:s.size+1-(pos+1)=n:=by omega
   by_cases h47:((s++⟨#[47]⟩:ByteArray).get! pos).toNat=47
   .have hd:=aJC.2 h47;have hw:=w2 h47;rw[hd,hw,zA (by decide)];have a2:aY s (s.size+1-pos) fr pos acc=(if bI (s.extract fr pos)=801 then(1101,[])else if bI (s.extract fr pos)=800 then(1100,[])else aY s n (pos+1) (pos+1) (acc++[s.extract fr pos])):=by
     rw[hn]
     conv=>lhs;unfold aY
     by_cases hs:pos<s.size
     .rw[dif_pos hs,zB (by rw[<-dQ s pos hs,<-vE hs];exact h47)]
     rw[dif_neg hs]
    rw[a2,sC];rcases uN (s.extract fr pos)with e|e|e
    .rw[e,zB rfl,zA (by decide),zA (by decide),ih b (pos+1) (pos+1) _ (by omega) (by omega) (by omega) (by omega),a1]
    .rw[e,zA (by decide),zA (by decide),zA (by decide),zB rfl]
    rw[e,zA (by decide),zB rfl,zB rfl]
   have hd:¬(Utf8.decode (s++⟨#[47]⟩) pos).1=47:=λe=>h47 (aJC.1 e);have hs:pos<s.size:=by
    rcases Nat.lt_or_ge pos s.size with h|h
    .exact h
    exfalso;have:pos=s.size:=by omega
    subst this;exact h47 (aGF s)
   obtain⟨w,hw⟩:∃w,(Utf8.decode (s++⟨#[47]⟩) pos).2=w:=⟨_,rfl⟩;rw[hw]at w1 w3 |-;have a3:pos+w<=s.size:=by
    rcases Nat.lt_or_ge s.size (pos+w)with h|h
    .exfalso;have:=(w3 (s.size-pos) (by omega) (by omega)).2;rw[show pos+(s.size-pos)=s.size by omega]at this;exact this (aGF s)
    exact h
   rw[zB (by rw[yL,yF];omega),ih b (pos+w) fr acc (by omega) (by omega) (by omega) (by omega)];rw[show s.size+1-pos=(s.size+1-(pos+w))+w by omega];refine(aEE s w _ fr pos acc a3 (λj hj=>?_)).symm;rcases Nat.eq_zero_or_pos j with rfl|hj0
   .rw[zN,<-vE hs];exact h47
   have:=(w3 j hj0 hj).2
   rwa [vE (by omega)]at this
theorem pT (s:ByteArray):∀(n fr i:Nat) (acc:List ByteArray),(aY s n fr i acc).1≠0->(aY s n fr i acc).2=[]
 |0,_,_,_,h=>absurd rfl h
 | n + 1,fr,i,acc,h=>by
   unfold aY at h |-;by_cases h1:i<s.size
   .simp only[dif_pos h1]at h |-;by_cases h2:(s[i]'h1).toNat=47
    .simp only[zB h2]at h |-;by_cases h3:bI (s.extract fr i)=801
     .rw[zB h3]
     simp only[zA h3]at h |-;by_cases h4:bI (s.extract fr i)=800
     .rw[zB h4]
     simp only[zA h4]at h |-;exact pT s n _ _ _ h
    simp only[zA h2]at h |-;exact pT s n _ _ _ h
   simp only[dif_neg h1]at h |-;by_cases h3:bI (s.extract fr i)=801
   .rw[zB h3]
   simp only[zA h3]at h |-;by_cases h4:bI (s.extract fr i)=800
   .rw[zB h4]
   simp only[zA h4]at h |-;exact pT s n _ _ _ h
theorem eW (s:ByteArray):bU s=aA s:=by
 unfold bU aA;by_cases h1:64<s.size
 .rw[zB h1,zB h1]
 rw[zA h1,zA h1];by_cases h2:0<s.size
 .rw [dif_pos h2,dif_pos h2];by_cases h47:(s[0]'h2).toNat=47
  .have hb:¬((((s[0]'h2).toNat:Int)==47)=false):=by
    rw[h47];decide
   rw[zB h47,zA hb];by_cases h3:s.size=1
   .rw[zB h3,zB h3]
   rw[zA h3,zA h3];have ht:(s++⟨#[47]⟩:ByteArray).size=s.size+1:=by rw[xA];rfl
   have h0:((s++⟨#[47]⟩:ByteArray).get! 0).toNat=47:=by rw[vE h2,dQ s 0 h2];exact h47
   have hw:=(aSV (t:=s++⟨#[47]⟩) (p:=0)).2.1 h0;have hr:cL s (s++⟨#[47]⟩) (s++⟨#[47]⟩:ByteArray).size 0 1 []=aY s s.size 1 1 []:=by
    rw[ht]
    conv=>lhs;unfold cL
    rw[zB (by omega)];have hc:(((0:Nat):Int)==0||!(((Utf8.decode (s++⟨#[47]⟩:ByteArray) 0).1:Int)==47))=true:=by simp
    rw[zB hc,hw,zM,aSW s s.size s.size 1 1 [] (by omega) (by omega) (by omega) (by omega),Nat.add_sub_cancel]
   rw[hr];obtain⟨G,hG⟩:∃G,aY s s.size 1 1 []=G:=⟨_,rfl⟩;have he:=pT s s.size 1 1 [];rw[hG]at he |-;obtain⟨c,ns⟩:=G;simp only at he |-;by_cases hc:c=0
   .subst hc;by_cases hl:4<ns.length
    .simp[hl]
    simp[hl]
   have:=he hc;subst this;simp[hc]
  have hb:(((s[0]'h2).toNat:Int)==47)=false:=by rw[yF];omega
  rw[zA h47,zB hb]
 rw[dif_neg h2,dif_neg h2]
theorem aLJ (c:Int):qL c=eC c:=by
 unfold qL eC
 repeat' split
 all_goals first|rfl|omega
end
end Go.Proofs.YtmkapobnfigedaaGreatDoor
