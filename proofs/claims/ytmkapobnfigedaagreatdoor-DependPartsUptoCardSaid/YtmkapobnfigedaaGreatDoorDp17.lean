/- A part of a proof of a law. Conditions: none. -/
import Derived.Test.YtmkapobnfigedaaGreatDoorDp10
set_option linter.unusedVariables false
set_option linter.unusedSimpArgs false
set_option maxRecDepth 100000
set_option maxHeartbeats 40000000
namespace Go.Proofs.YtmkapobnfigedaaGreatDoor
open Go.Proofs.Tryz List Go.RowKit
def aDL (S:PSt) (k:Int):Bool:=match S.ins[k.toNat]? with|some x=>x.dir|none=>false
def aUP (S:PSt) (d:PDesc):Bool:=decide (d.core<0)||(decide ((S.made.length:Int)<=d.core)||(decide (d.fd<0)||(decide (4<=d.fd)||(decide (bP S d.num<0)||aDL S (bP S d.num)))))
def pM (o:Option PDesc) (d:PDesc):Bool:=match o with|some o=>decide (d.core<o.core)||((o.core==d.core)&&decide (d.fd<=o.fd))|none=>false
def pN (S:PSt):Option PDesc->List PDesc->Bool
 |_,[]=>true
 |o,d::r=>if aUP S d=true then false else if pM o d=true then false else pN S (some d) r
def vG (S:PSt):Bool:=pN S none S.op
def lG (es:List PDesc) (q:Nat):Option PDesc:=if q=0 then none else es[q-1]?
theorem aZP (S:PSt) (iv ov mv:Value) (w:World) (h:StRead w iv ov mv S) (hwf:S.wf):
 vR w 58 #[.agg #[iv,ov,mv]] (.bool (vG S)):=by
 have a4:∀n ww,Bl w ww->vR ww 85 #[.agg #[iv,ov,mv],.int .i64 n] (.int .i64 (bP S n)):=λn ww hb=>aBK S iv ov mv n ww (h.below hb (zC _)) hwf.1;obtain⟨ai,ni,ci,ao,no,co,am,nm,cm,rfl,rfl,rfl⟩:=h.slices;obtain⟨a,cap,e1,hat⟩:=h.1.at_;rw[lM]at e1;cases e1;obtain⟨a,cap,e1,hai⟩:=h.ins_at2;cases e1;obtain⟨a,cap,e1,-⟩:=h.2.1.at_;rw[lM]at e1;cases e1;have HA:=aC hat;have HI:=aC hai;have a7:=aC hwf;have a8:=hwf.2.1;have a9:=hwf.2.2.1;clear hat h hai hwf;obtain⟨R,hR⟩:=gAB (vG S);rw[hR];unfold vG at hR;have HR:=aC hR;clear hR;unfold vR;go_in;go_wp2
 go_loopw[3] (λi wr=>∃(q:Nat),i=.int .i64 q/\q<=S.op.length/\pN S (lG S.op q) (S.op.drop q)=R/\Bl w wr/\Blk wr w.heap.size #[.slice ai S.ins.length ci,.slice ao S.op.length co,.slice am S.made.length cm] 26) (λi _=>(S.op.length-intOf i).toNat)
 case atStart=>exact⟨0,rfl,by omega,HR.out,bel _ _,Blk.new w _ 26⟩
 obtain⟨q,rfl,hq,a0,hb,hblk⟩:=hrel;have iB:Bel w wr:=⟨hb⟩;obtain⟨iL,s0,s1,s2⟩:=gR hblk;have HB:=aC hblk;clear hblk;by_cases hlt:q<S.op.length
 .obtain ⟨z,hz⟩:∃z,S.op[q]? =some z:=⟨_,gE hlt⟩
  obtain⟨b,off,rfl,iG0,iG,hc⟩:=HA.out wr hb q z.cells (by rw[gM,hz];rfl);have c0:=hc 0 _ rfl;have c1:=hc 1 _ rfl;have c2:=hc 2 _ rfl;rw[zN]at c0;rw[cQ hz,pN]at a0;have a2:(q=0/\lG S.op q=none)\/∃(k:Nat) (y:PDesc),q=k+1/\S.op[k]? =some y/\lG S.op q=some y/\wr.cell? ⟨b,off+k*3,none⟩=some (.int .i64 y.core)/\wr.cell? ⟨b,off+k*3+1,none⟩=some (.int .i64 y.fd)/\wr.cell? ⟨b,off+k*3+2,none⟩=some (.int .i64 y.num):=by
   by_cases hq0:q=0
   .exact .inl ⟨hq0,by simp[lG,hq0]⟩
   obtain⟨k,rfl⟩:∃k,q=k+1:=⟨q-1,by omega⟩;obtain⟨y,hy⟩:∃y,S.op[k]? =some y:=⟨_,gE (by omega)⟩;obtain⟨b2,off2,he2,_,_,hc2⟩:=HA.out wr hb k y.cells (by rw[gM,hy];rfl);cases he2;exact .inr ⟨k,y,rfl,hy,by simp[lG,hy],hc2 0 _ rfl,hc2 1 _ rfl,hc2 2 _ rfl⟩
  have a3:lG S.op (q+1)=some z:=by simp[lG,hz]
  have HN:=bJ a3 a2;have hA:=λww hb=>a4 z.num ww hb;have a5:=fE S z.num;clear hc a3 a2 a4;unfold aUP at a0;generalize bP S z.num=K at a0 hA a5;have a1:=aC a0;clear a0 hz;by_cases k1:z.core<0
  .obtain rfl:R=false:=by have:=a1.out;simpa[k1]using this.symm
   clear HN;go_wp2_with(go_at_call 85;refine aE (hA _ (bel _ _)) λpj=>?_);go_ret;exact gAC
  by_cases k2:(S.made.length:Int)<=z.core
  .obtain rfl:R=false:=by have:=a1.out;simpa[k2]using this.symm
   clear HN;go_wp2_with(go_at_call 85;refine aE (hA _ (bel _ _)) λpj=>?_);go_ret;exact gAC
  by_cases k3:z.fd<0
  .obtain rfl:R=false:=by have:=a1.out;simpa[k3]using this.symm
   clear HN;go_wp2_with(go_at_call 85;refine aE (hA _ (bel _ _)) λpj=>?_);go_ret;exact gAC
  by_cases k4:4<=z.fd
  .obtain rfl:R=false:=by have:=a1.out;simpa[k4]using this.symm
   clear HN;go_wp2_with(go_at_call 85;refine aE (hA _ (bel _ _)) λpj=>?_);go_ret;exact gAC
  by_cases k5:K<0
  .obtain rfl:R=false:=by have:=a1.out;simpa[k5]using this.symm
   clear HN;go_wp2_with(go_at_call 85;refine aE (hA _ (bel _ _)) λpj=>?_);go_ret;exact gAC
  obtain⟨k,rfl⟩:∃k:Nat,K=k:=⟨K.toNat,by omega⟩;have hk:k<S.ins.length:=by omega
  obtain⟨x,hx⟩:=gAA hk;obtain⟨bi,oi,ev,rfl,iI0,hoi,-,hci⟩:=HI.out k x hx;obtain⟨iI,x0,x1,x2,x3⟩:=hci wr hb;have a0:(if (aDL S (k:Int))=true then false else if pM (lG S.op q) z=true then false else pN S (some z) (S.op.drop (q+1)))=R:=by have:=a1.out;simpa[k1,k2,k3,k4,k5]using this
  have hd:aDL S (k:Int)=x.dir:=by simp[aDL,hx]
  rw[hd]at a0;clear hd hci hoi x0 x2 x3 a1 hx;obtain⟨xn,xd,xe,xs⟩:=x
  (try simp only at x1)
  (try simp only at a0)
  rcases xd with _|_
  .rw [zA (by decide)]at a0;obtain⟨hn,a2⟩:=HN.out;rcases a2 with⟨rfl,hp⟩|⟨j,y,rfl,hy,hp,y0,y1,y2⟩
   .rw[hp]at a0;have a1:=bJ a0 hn;clear a0 hn hp;simp only[Nat.zero_mul,zN]at c0 c1 c2;go_wp2_with(go_at_call 85;refine aE (hA _ (bel _ _)) λpj=>?_)
    go_roundw
    case rel=>exact⟨1,by rfl,by omega,by have:=a1.out;rw[this.2];simpa[pM]using this.1,bel _ _,by first|exact(HB.out.alloc _).junk _|exact HB.out⟩
    simp[intOf];omega
   rw [hp,pM]at a0
   (try simp only at a0)
   have a1:=bJ a0 hn;have b0:((j:Int)+1)-1=j:=by omega
   have w2:IntKind.i64.wrap (j:Int)=j:=I64.wrap ⟨by omega,by omega⟩;have b1:(0:Int)<(j:Int)+1:=by omega
   have b3:(j:Int)<S.op.length:=by omega
   have a6:j<S.op.length:=by omega
   clear a0 hn hp hy HN;by_cases p1:z.core<y.core
   .obtain rfl:R=false:=by have:=a1.out.1;simpa[p1]using this.symm
    go_wp2_with(go_at_call 85;refine aE (hA _ (bel _ _)) λpj=>?_);go_ret;exact gAC
   rcases p2:(y.core==z.core)with _|_
   .have a0:pN S (some z) (S.op.drop (j+1+1))=R:=by have:=a1.out.1;simpa[p1,p2]using this
    have hn:=a1.out.2;have a1:=bJ a0 hn;clear a0 hn;go_wp2_with(go_at_call 85;refine aE (hA _ (bel _ _)) λpj=>?_);go_roundw
    case rel=>exact⟨j+1+1,by simp,by omega,by have:=a1.out;rw[this.2];exact this.1,bel _ _,by first|exact((HB.out.alloc _).junk _).alloc _|exact(HB.out.alloc _).junk _|exact HB.out⟩
    simp[intOf];omega
   by_cases p3:z.fd<=y.fd
   .obtain rfl:R=false:=by have:=a1.out.1;simpa[p2,p3]using this.symm
    go_wp2_with(go_at_call 85;refine aE (hA _ (bel _ _)) λpj=>?_);go_ret;exact gAC
   have a0:pN S (some z) (S.op.drop (j+1+1))=R:=by have:=a1.out.1;simpa[p1,p2,p3]using this
   have hn:=a1.out.2;have a1:=bJ a0 hn;clear a0 hn;go_wp2_with(go_at_call 85;refine aE (hA _ (bel _ _)) λpj=>?_);go_roundw
   case rel=>exact⟨j+1+1,by simp,by omega,by have:=a1.out;rw[this.2];exact this.1,bel _ _,by first|exact((HB.out.alloc _).junk _).alloc _|exact(HB.out.alloc _).junk _|exact HB.out⟩
   simp[intOf];omega
  rw[zB rfl]at a0;subst a0;clear HN;go_wp2_with(go_at_call 85;refine aE (hA _ (bel _ _)) λpj=>?_);go_ret;exact gAC
 rw[zS (by omega)]at a0;obtain rfl:R=true:=by rw[<-a0];rfl
 go_wp2;go_ret;exact gAC
end Go.Proofs.YtmkapobnfigedaaGreatDoor
