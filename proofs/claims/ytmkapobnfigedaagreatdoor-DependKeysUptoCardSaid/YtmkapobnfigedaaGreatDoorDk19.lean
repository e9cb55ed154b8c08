/- A part of a proof of a law. Conditions: none. -/
import Derived.Test.YtmkapobnfigedaaGreatDoorDk16
import Derived.Test.YtmkapobnfigedaaGreatDoorDk15
set_option linter.unusedVariables false
set_option linter.unusedSimpArgs false
set_option maxRecDepth 100000
set_option maxHeartbeats 8000000
namespace Go.Proofs.YtmkapobnfigedaaGreatDoor
open Go.Proofs.Tryz List Go.RowKit
def aCU (S:PSt) (k:Int):Bool:=match S.ins[k.toNat]? with|some x=>x.dir|none=>false
def aTW (S:PSt) (d:PDesc):Bool:=decide (d.core<0)||(decide ((S.made.length:Int)<=d.core)||(decide (d.fd<0)||(decide (4<=d.fd)||(decide (bM S d.num<0)||aCU S (bM S d.num)))))
def pG (o:Option PDesc) (d:PDesc):Bool:=match o with|some o=>decide (d.core<o.core)||((o.core==d.core)&&decide (d.fd<=o.fd))|none=>false
def pH (S:PSt):Option PDesc->List PDesc->Bool
 |_,[]=>true
 |o,d::r=>if aTW S d=true then false else if pG o d=true then false else pH S (some d) r
def uT (S:PSt):Bool:=pH S none S.op
def kR (es:List PDesc) (q:Nat):Option PDesc:=if q=0 then none else es[q-1]?
theorem aYY (S:PSt) (iv ov mv:Value) (w:World) (h:StRead w iv ov mv S) (hwf:S.wf):
 vR w 58 #[.agg #[iv,ov,mv]] (.bool (uT S)):=by
 have a4:∀n ww,Bl w ww->vR ww 85 #[.agg #[iv,ov,mv],.int .i64 n] (.int .i64 (bM S n)):=λn ww hb=>aAS S iv ov mv n ww (h.below hb (zC _)) hwf.1;obtain⟨ai,ni,ci,ao,no,co,am,nm,cm,rfl,rfl,rfl⟩:=h.slices;obtain⟨a,cap,e1,hat⟩:=h.1.at_;rw[lM]at e1;cases e1;obtain⟨a,cap,e1,hai⟩:=h.ins_at2;cases e1;obtain⟨a,cap,e1,-⟩:=h.2.1.at_;rw[lM]at e1;cases e1;have HA:=aC hat;have HI:=aC hai;have a7:=aC hwf;have a8:=hwf.2.1;have a9:=hwf.2.2.1;clear hat h hai hwf;obtain⟨R,hR⟩:∃R,uT S=R:=⟨_,rfl⟩;rw[hR];unfold uT at hR;have HR:=aC hR;clear hR;unfold vR;go_in;go_wp2
 go_loopw[3] (λi wr=>∃(q:Nat),i=.int .i64 q/\q<=S.op.length/\pH S (kR S.op q) (S.op.drop q)=R/\Bl w wr/\Blk wr w.heap.size #[.slice ai S.ins.length ci,.slice ao S.op.length co,.slice am S.made.length cm] 26) (λi _=>(S.op.length-intOf i).toNat)
 case atStart=>exact⟨0,rfl,by omega,HR.out,bel _ _,Blk.new w _ 26⟩
 obtain⟨q,rfl,hq,a0,hb,hblk⟩:=hrel;have iB:Bel w wr:=⟨hb⟩;obtain⟨iL,s0,s1,s2⟩:=gN hblk;have HB:=aC hblk;clear hblk;by_cases hlt:q<S.op.length
 .obtain ⟨z,hz⟩:∃z,S.op[q]? =some z:=⟨_,gE hlt⟩
  obtain⟨b,off,rfl,iG0,iG,hc⟩:=HA.out wr hb q z.cells (by rw[gM,hz];rfl);have c0:=hc 0 _ rfl;have c1:=hc 1 _ rfl;have c2:=hc 2 _ rfl;rw[zN]at c0;rw[cO hz,pH]at a0;have a2:(q=0/\kR S.op q=none)\/∃(k:Nat) (y:PDesc),q=k+1/\S.op[k]? =some y/\kR S.op q=some y/\wr.cell? ⟨b,off+k*3,none⟩=some (.int .i64 y.core)/\wr.cell? ⟨b,off+k*3+1,none⟩=some (.int .i64 y.fd)/\wr.cell? ⟨b,off+k*3+2,none⟩=some (.int .i64 y.num):=by
   by_cases hq0:q=0
   .exact .inl ⟨hq0,by simp[kR,hq0]⟩
   obtain⟨k,rfl⟩:∃k,q=k+1:=⟨q-1,by omega⟩;obtain⟨y,hy⟩:∃y,S.op[k]? =some y:=⟨_,gE (by omega)⟩;obtain⟨b2,off2,he2,_,_,hc2⟩:=HA.out wr hb k y.cells (by rw[gM,hy];rfl);cases he2;exact .inr ⟨k,y,rfl,hy,by simp[kR,hy],hc2 0 _ rfl,hc2 1 _ rfl,hc2 2 _ rfl⟩
  have a3:kR S.op (q+1)=some z:=by simp[kR,hz]
  have HN:=bG a3 a2;have hA:=λww hb=>a4 z.num ww hb;have a5:=fC S z.num;clear hc a3 a2 a4;unfold aTW at a0;generalize bM S z.num=K at a0 hA a5;have a1:=aC a0;clear a0 hz;by_cases k1:z.core<0
  .obtain rfl:R=false:=by have:=a1.out;simpa[k1]using this.symm
   clear HN;go_wp2_with(go_at_call 85;refine aE (hA _ (bel _ _)) λpj=>?_);go_ret;exact⟨rfl,bel _ _⟩
  by_cases k2:(S.made.length:Int)<=z.core
  .obtain rfl:R=false:=by have:=a1.out;simpa[k2]using this.symm
   clear HN;go_wp2_with(go_at_call 85;refine aE (hA _ (bel _ _)) λpj=>?_);go_ret;exact⟨rfl,bel _ _⟩
  by_cases k3:z.fd<0
  .obtain rfl:R=false:=by have:=a1.out;simpa[k3]using this.symm
   clear HN;go_wp2_with(go_at_call 85;refine aE (hA _ (bel _ _)) λpj=>?_);go_ret;exact⟨rfl,bel _ _⟩
  by_cases k4:4<=z.fd
  .obtain rfl:R=false:=by have:=a1.out;simpa[k4]using this.symm
   clear HN;go_wp2_with(go_at_call 85;refine aE (hA _ (bel _ _)) λpj=>?_);go_ret;exact⟨rfl,bel _ _⟩
  by_cases k5:K<0
  .obtain rfl:R=false:=by have:=a1.out;simpa[k5]using this.symm
   clear HN;go_wp2_with(go_at_call 85;refine aE (hA _ (bel _ _)) λpj=>?_);go_ret;exact⟨rfl,bel _ _⟩
  obtain⟨k,rfl⟩:∃k:Nat,K=k:=⟨K.toNat,by omega⟩;have hk:k<S.ins.length:=by omega
  obtain⟨x,hx⟩:∃x,S.ins[k]? =some x:=⟨_,gE hk⟩;obtain⟨bi,oi,ev,rfl,iI0,hoi,-,hci⟩:=HI.out k x hx;obtain⟨iI,x0,x1,x2,x3⟩:=hci wr hb;have a0:(if (aCU S (k:Int))=true then false else if pG (kR S.op q) z=true then false else pH S (some z) (S.op.drop (q+1)))=R:=by have:=a1.out;simpa[k1,k2,k3,k4,k5]using this
  have hd:aCU S (k:Int)=x.dir:=by simp[aCU,hx]
  rw[hd]at a0;clear hd hci hoi x0 x2 x3 a1 hx;obtain⟨xn,xd,xe,xs⟩:=x
  (try simp only at x1)
  (try simp only at a0)
  rcases xd with _|_
  .rw [zA (by decide)]at a0;obtain⟨hn,a2⟩:=HN.out;rcases a2 with⟨rfl,hp⟩|⟨j,y,rfl,hy,hp,y0,y1,y2⟩
   .rw[hp]at a0;have a1:=bG a0 hn;clear a0 hn hp;simp only[Nat.zero_mul,zN]at c0 c1 c2;go_wp2_with(go_at_call 85;refine aE (hA _ (bel _ _)) λpj=>?_)
    go_roundw
    case rel=>exact⟨1,by rfl,by omega,by have:=a1.out;rw[this.2];simpa[pG]using this.1,bel _ _,by first|exact(HB.out.alloc _).junk _|exact HB.out⟩
    simp[intOf];omega
   rw [hp,pG]at a0
   (try simp only at a0)
   have a1:=bG a0 hn;have b0:((j:Int)+1)-1=j:=by omega
   have w2:IntKind.i64.wrap (j:Int)=j:=I64.wrap ⟨by omega,by omega⟩;have b1:(0:Int)<(j:Int)+1:=by omega
   have b3:(j:Int)<S.op.length:=by omega
   have a6:j<S.op.length:=by omega
   clear a0 hn hp hy HN;by_cases p1:z.core<y.core
   .obtain rfl:R=false:=by have:=a1.out.1;simpa[p1]using this.symm
    go_wp2_with(go_at_call 85;refine aE (hA _ (bel _ _)) λpj=>?_);go_ret;exact⟨rfl,bel _ _⟩
   rcases p2:(y.core==z.core)with _|_
   .have a0:pH S (some z) (S.op.drop (j+1+1))=R:=by have:=a1.out.1;simpa[p1,p2]using this
    have hn:=a1.out.2;have a1:=bG a0 hn;clear a0 hn;go_wp2_with(go_at_call 85;refine aE (hA _ (bel _ _)) λpj=>?_);go_roundw
    case rel=>exact⟨j+1+1,by simp,by omega,by have:=a1.out;rw[this.2];exact this.1,bel _ _,by first|exact((HB.out.alloc _).junk _).alloc _|exact(HB.out.alloc _).junk _|exact HB.out⟩
    simp[intOf];omega
   by_cases p3:z.fd<=y.fd
   .obtain rfl:R=false:=by have:=a1.out.1;simpa[p2,p3]using this.symm
    go_wp2_with(go_at_call 85;refine aE (hA _ (bel _ _)) λpj=>?_);go_ret;exact⟨rfl,bel _ _⟩
   have a0:pH S (some z) (S.op.drop (j+1+1))=R:=by have:=a1.out.1;simpa[p1,p2,p3]using this
   have hn:=a1.out.2;have a1:=bG a0 hn;clear a0 hn;go_wp2_with(go_at_call 85;refine aE (hA _ (bel _ _)) λpj=>?_);go_roundw
   case rel=>exact⟨j+1+1,by simp,by omega,by have:=a1.out;rw[this.2];exact this.1,bel _ _,by first|exact((HB.out.alloc _).junk _).alloc _|exact(HB.out.alloc _).junk _|exact HB.out⟩
   simp[intOf];omega
  rw[zB rfl]at a0;subst a0;clear HN;go_wp2_with(go_at_call 85;refine aE (hA _ (bel _ _)) λpj=>?_);go_ret;exact⟨rfl,bel _ _⟩
 rw[zS (by omega)]at a0;obtain rfl:R=true:=by rw[<-a0];rfl
 go_wp2;go_ret;exact⟨rfl,bel _ _⟩
def gK (S:PSt) (k:Nat):Int:=match S.ins[k]? with|some x=>x.num|none=>0
section
theorem dQ (s:ByteArray) (p:Nat) (h:p<s.size):s.get! p=s[p]'h:=by have h':p<s.data.size:=h;show s.data[p]! =_;rw[getElem!_pos s.data p h'];rfl
variable {p:Nat} {s:ByteArray}
theorem aAK (h:p<s.size):dN s p=(s.get! p).toNat:=by unfold dN;rw[dif_pos h,dQ s p h]
theorem rI (s:ByteArray) (p:Nat):fN s p=if(decide (p<s.size)&&(s.get! p).toNat/64==2)=true then(((s.get! p).toNat%64:Nat):Int)else -1:=by
 have hb:=(s.get! p).toNat_lt;unfold fN;by_cases h:p<s.size
 .rw[zB h,aAK h];generalize(s.get! p).toNat=b at hb |-;have e:(decide (p<s.size)&&b/64==2)=decide (b/64=2):=by simp[h];rfl
  rw[e];simp only[zI];by_cases h2:b/64=2
  .rw[zB h2,zA (show ¬(b:Int)<128 by omega),zA (show ¬191<(b:Int) by omega)];omega
  rw[zA h2];by_cases h3:(b:Int)<128
  .rw[zB h3]
  rw[zA h3,zB (by omega)]
 rw[zA h,zA (by simp[h])]
def fO (b0 b1 b2 b3:Nat) (c1 c2 c3:Bool):Nat × Nat:=
 if b0<0x80 then(b0,1)
 else if b0/32==6&&c1 then(if (b0%32)*64+b1%64>=0x80 then((b0%32)*64+b1%64,2)else(65533,1))
 else if b0/16==14&&c1&&c2 then(if (b0%16)*4096+(b1%64)*64+b2%64>=0x800&&Utf8.valid ((b0%16)*4096+(b1%64)*64+b2%64:Nat)then((b0%16)*4096+(b1%64)*64+b2%64,3)else(65533,1))
 else if b0/8==30&&c1&&c2&&c3 then(if (b0%8)*262144+(b1%64)*4096+(b2%64)*64+b3%64>=0x10000&&Utf8.valid ((b0%8)*262144+(b1%64)*4096+(b2%64)*64+b3%64:Nat)then((b0%8)*262144+(b1%64)*4096+(b2%64)*64+b3%64,4)else(65533,1))
 else(65533,1)
theorem lA (s:ByteArray) (i:Nat):Utf8.decode s i=fO (s.get! i).toNat (s.get! (i+1)).toNat (s.get! (i+2)).toNat (s.get! (i+3)).toNat (decide (i+1<s.size)&&(s.get! (i+1)).toNat/64==2) (decide (i+2<s.size)&&(s.get! (i+2)).toNat/64==2) (decide (i+3<s.size)&&(s.get! (i+3)).toNat/64==2):=rfl
theorem aUE (b0 b1 b2 b3:Nat) (c1 c2 c3:Bool) (h0:b0<256) (A B D:Int) (hA:A=if c1=true then((b1%64:Nat):Int)else -1) (hB:B=if c2=true then((b2%64:Nat):Int)else -1) (hD:D=if c3=true then((b3%64:Nat):Int)else -1):
 ((fO b0 b1 b2 b3 c1 c2 c3).1:Int)=(bQ b0 A B D).1/\((fO b0 b1 b2 b3 c1 c2 c3).2:Int)=max (bQ b0 A B D).2 1/\
 ((bQ b0 A B D).2=0↔((fO b0 b1 b2 b3 c1 c2 c3).1=65533/\¬(b0=239/\c1=true/\c2=true/\b1%64=63/\b2%64=61))):=by
 have a0:∀(x w:Nat) (y v:Int),fO b0 b1 b2 b3 c1 c2 c3=(x,w)->bQ b0 A B D=(y,v)->(x:Int)=y->(w:Int)=max v 1->(v=0↔x=65533/\¬(b0=239/\c1=true/\c2=true/\b1%64=63/\b2%64=61))->((fO b0 b1 b2 b3 c1 c2 c3).1:Int)=(bQ b0 A B D).1/\((fO b0 b1 b2 b3 c1 c2 c3).2:Int)=max (bQ b0 A B D).2 1/\
  ((bQ b0 A B D).2=0↔((fO b0 b1 b2 b3 c1 c2 c3).1=65533/\¬(b0=239/\c1=true/\c2=true/\b1%64=63/\b2%64=61))):=by
  intro x w y v h1 h2 h3 h4 h5;rw[h1,h2];exact⟨h3,h4,h5⟩
 by_cases e0:b0<128
 .refine a0 b0 1 b0 1 (by unfold fO;rw[zB e0]) (by unfold bQ;rw[zB (by omega)]) rfl rfl (by omega)
 have a1:b0<194\/244<b0\/c1=false->fO b0 b1 b2 b3 c1 c2 c3=(65533,1)->_:=λh hd=>a0 65533 1 65533 0 hd (by
  unfold bQ;have hx:b0<194\/244<b0\/A=-1:=h.imp (λh=>h) (λh=>h.imp (λh=>h) (λh=>by rw[hA,h];rfl));rw[zA (by omega),zA (by omega),zA (by omega),zA (by omega)]) rfl rfl (by
  rcases h with h|h|h
  .omega
  .omega
  simp[h])
 rcases c1 with _|_
 .refine a1 (.inr (.inr rfl)) (by
   unfold fO;rw[zA e0];simp)
 have a4:A=((b1%64:Nat):Int):=by rw[hA];rfl
 clear hA;by_cases e1:b0/32=6
 .by_cases e2:b0%32*64+b1%64>=128
  .refine a0 (b0%32*64+b1%64) 2 ((b0-192)*64+A) 2 (by unfold fO;rw[zA e0,zB (by simp[e1]),zB e2]) (by unfold bQ;rw[zA (by omega),zB (by omega)]) (by omega) rfl (by omega)
  refine a1 (.inl (by omega)) (by unfold fO;rw[zA e0,zB (by simp[e1]),zA e2])
 rcases c2 with _|_
 .have a2:B=-1:=by rw[hB];rfl
  refine a0 65533 1 65533 0 (by unfold fO;rw[zA e0];simp[e1]) (by
   unfold bQ;rw[zA (by omega),zA (by omega),zA (by omega),zA (by omega)]) rfl rfl (by simp)
 have a2:B=((b2%64:Nat):Int):=by rw[hB];rfl
 clear hB;by_cases e2:b0/16=14
 .by_cases e3:b0%16*4096+b1%64*64+b2%64>=2048/\(b0%16*4096+b1%64*64+b2%64<55296\/57343<b0%16*4096+b1%64*64+b2%64)
  .refine a0 (b0%16*4096+b1%64*64+b2%64) 3 ((b0-224)*4096+A*64+B) 3 (by
    unfold fO Utf8.valid;rw[zA e0,zA (by simp[e1]),zB (by simp[e2]),zB (by simp only[zE,yI,zI];omega)]) (by
    unfold bQ;rw[zA (by omega),zA (by omega),zB (by omega),zB (by omega)]) (by omega) rfl (by simp only[true_and];omega)
  refine a0 65533 1 65533 0 (by
   unfold fO Utf8.valid;rw[zA e0,zA (by simp[e1]),zB (by simp[e2]),zA (by simp only[zE,yI,zI];omega)]) (by
   unfold bQ;rw[zA (by omega),zA (by omega),zB (by omega),zA (by omega)]) rfl rfl (by omega)
 rcases c3 with _|_
 .have a3:D=-1:=by rw[hD];rfl
  refine a0 65533 1 65533 0 (by unfold fO;rw[zA e0];simp[e1,e2]) (by
   unfold bQ;rw[zA (by omega),zA (by omega),zA (by omega),zA (by omega)]) rfl rfl (by omega)
 have a3:D=((b3%64:Nat):Int):=by rw[hD];rfl
 clear hD;by_cases e3:b0/8=30
 .by_cases e4:b0%8*262144+b1%64*4096+b2%64*64+b3%64>=65536/\b0%8*262144+b1%64*4096+b2%64*64+b3%64<=1114111
  .refine a0 (b0%8*262144+b1%64*4096+b2%64*64+b3%64) 4 ((b0-240)*262144+A*4096+B*64+D) 4 (by
    unfold fO Utf8.valid;rw[zA e0,zA (by simp[e1]),zA (by simp[e2]),zB (by simp[e3]),zB (by simp only[zE,yI,zI];omega)]) (by
    unfold bQ;rw[zA (by omega),zA (by omega),zA (by omega),zB (by omega),zB (by omega)]) (by omega) rfl (by omega)
  have hd:fO b0 b1 b2 b3 true true true=(65533,1):=by unfold fO Utf8.valid;rw[zA e0,zA (by simp[e1]),zA (by simp[e2]),zB (by simp[e3]),zA (by simp only[zE,yI,zI];omega)]
  by_cases e5:b0<=244
  .refine a0 65533 1 65533 0 hd (by
    unfold bQ;rw[zA (by omega),zA (by omega),zA (by omega),zB (by omega),zA (by omega)]) rfl rfl (by omega)
  exact a1 (.inr (.inl (by omega))) hd
 refine a0 65533 1 65533 0 (by unfold fO;rw[zA e0];simp[e1,e2,e3]) (by
  unfold bQ;rw[zA (by omega),zA (by omega),zA (by omega),zA (by omega)]) rfl rfl (by omega)
theorem aEN (hp:p<s.size):
 ((Utf8.decode s p).1:Int)=(cD s p).1/\((Utf8.decode s p).2:Int)=max (cD s p).2 1/\((cD s p).2=0↔((Utf8.decode s p).1=65533/\¬((s.get! p).toNat=239/\(decide (p+1<s.size)&&(s.get! (p+1)).toNat/64==2)=true/\(decide (p+2<s.size)&&(s.get! (p+2)).toNat/64==2)=true/\(s.get! (p+1)).toNat%64=63/\(s.get! (p+2)).toNat%64=61))):=by
 unfold cD;rw[lA,aAK hp,rI,rI,rI];exact aUE _ _ _ _ _ _ _ (s.get! p).toNat_lt _ _ _ rfl rfl rfl
theorem aMG (s:ByteArray):∀b p h,kG s b p h=fA s b p h
 |0,_,_=>rfl
 | b+1,p,h=>by
   unfold kG fA;by_cases hp:p<s.size
   .rw[zB hp,zB hp,aMG s b];obtain⟨h1,h2,_⟩:=aEN hp;rw[<-h1,<-h2,zJ]
   rw[zA hp,zA hp]
theorem nB (s:ByteArray):aZ s=aU s:=by unfold aZ aU uU oY;rw[aMG]
theorem aKC (b0 b1 b2 b3:Nat) (c1 c2 c3:Bool):Utf8.valid ((fO b0 b1 b2 b3 c1 c2 c3).1:Nat)=true:=by
 have key:∀r:Nat,(r<55296\/(57344<=r/\r<=1114111))->Utf8.valid (r:Int)=true:=λr h=>by unfold Utf8.valid;simp only[zE,yI,zI];omega
 unfold fO;split
 .exact key _ (by simp only;omega)
 split
 .split
  .exact key _ (by simp only;omega)
  rfl
 split
 .split
  .rename_i h
   simp only[zE]at h;exact h.2
  rfl
 split
 .split
  .rename_i h
   simp only[zE]at h;exact h.2
  rfl
 rfl
theorem aKD {r:Nat} (hv:Utf8.valid (r:Int)=true) (h:(Utf8.encode (r:Int)).toList=[239,191,189]):r=65533:=by
 unfold Utf8.encode at h;rw[zB hv]at h;simp only[zJ]at h;have a0:r<=1114111:=by unfold Utf8.valid at hv;simp only[zE,yI,zI]at hv;omega
 have t1:∀a:UInt8,(⟨#[a]⟩:ByteArray).toList=[a]:=λ_=>ByteArray.toList_mk _;have t2:∀a b:UInt8,(⟨#[a,b]⟩:ByteArray).toList=[a,b]:=λ_ _=>ByteArray.toList_mk _;have t3:∀a b c:UInt8,(⟨#[a,b,c]⟩:ByteArray).toList=[a,b,c]:=λ_ _ _=>ByteArray.toList_mk _;have t4:∀a b c d:UInt8,(⟨#[a,b,c,d]⟩:ByteArray).toList=[a,b,c,d]:=λ_ _ _ _=>ByteArray.toList_mk _;split at h
 .rw[t1]at h;simp at h
 split at h
 .rw[t2]at h;simp at h
 split at h
 .rw[t3]at h;simp only[List.cons.injEq,and_true]at h;obtain⟨h1,h2,h3⟩:=h;have e1:=congrArg UInt8.toNat h1;have e2:=congrArg UInt8.toNat h2;have e3:=congrArg UInt8.toNat h3;simp at e1 e2 e3;omega
 rw[t4]at h;simp at h
theorem aKE (h0:(s.get! p).toNat=239) (h1:p+1<s.size) (h2:p+2<s.size) (b1:(s.get! (p+1)).toNat=191) (b2:(s.get! (p+2)).toNat=189):jP (s.extract p s.size) ⟨#[239,191,189]⟩=true:=by
 unfold jP;have a0:(s.extract p s.size).size=s.size-p:=by simp
 have e:(s.extract p s.size).extract 0 (⟨#[239,191,189]⟩:ByteArray).size=⟨#[239,191,189]⟩:=by
  show(s.extract p s.size).extract 0 3=_;apply ByteArray.ext;apply Array.ext
  .simp;have:s.data.size=s.size:=rfl;omega
  intro k hk hk';have a1:k<3:=hk';have g:∀j (hj:j<s.size),s.data[j]'hj=s.get! j:=λj hj=>(dQ s j hj).symm;simp only[ByteArray.data_extract,Array.getElem_extract];rw[g _ (by omega)];have:k=0\/k=1\/k=2:=by omega
  rcases this with rfl|rfl|rfl
  .apply UInt8.toNat_inj.1;simpa using h0
  .apply UInt8.toNat_inj.1;simpa using b1
  apply UInt8.toNat_inj.1;simpa using b2
 rw[e,a0]
 have:decide ((⟨#[239,191,189]⟩:ByteArray).size<=s.size-p)=true:=decide_eq_true (by show 3<=_;omega);rw[this];simp
theorem rJ (s:ByteArray):∀b p,fI s b p=true->bZ s b p=true
 |0,_,_=>rfl
 | b + 1,p,h=>by
   unfold fI at h;unfold bZ;by_cases hp:p<s.size
   .rw [zB hp]at h |-;obtain⟨h1,h2,h3⟩:=aEN hp
    split at h
    .cases h
    rename_i hb;have hk:(cD s p).2≠0:=λe=>hb (.inl e);have hw:(cD s p).2.toNat=(Utf8.decode s p).2:=by
     have:0<=(cD s p).2:=by
      unfold cD bQ
      repeat' split
      all_goals simp
     omega
    rw[hw]at h;rw[rJ s b _ h,Bool.and_true,yL];unfold fP;simp only[yV,yW,yF];refine⟨⟨⟨by omega,by omega⟩,by omega⟩,?_⟩;rw[Bool.and_eq_false_iff];by_cases e:(Utf8.decode s p).1=65533
    .right;rw[Bool.not_eq_false'];have hy:=λhn=>hk (h3.2 ⟨e,hn⟩)
     have hy:=Classical.not_not.1 hy;simp only[zE,zI,beq_iff_eq]at hy;obtain⟨a0,⟨a1,a2⟩,⟨a3,a4⟩,a5,a6⟩:=hy;exact aKE a0 a1 a3 (by omega) (by omega)
    left;rw[yF];intro he;refine e (aKD ?_ he);rw[lA];exact aKC _ _ _ _ _ _ _
   rw[zA hp]
theorem aKF (h:bI s=0):dM s=true:=by
 unfold dM cT;unfold bI at h;split at h
 .cases h
 rename_i h1;rw[zA h1];split at h
 .cases h
 rename_i h2;rw[zA h2];split at h
 .rename_i h3
  rw[zB (rJ s _ _ h3)];rfl
 cases h
end
section
theorem iY (f:Nat->Int):∀(b lo hi:Nat),lo<=hi->hi-lo<=b->(∀i j,lo<=i->i<=j->j<hi->f j<0->f i<0)->
 lo<=dL f b lo hi/\dL f b lo hi<=hi/\(∀i,lo<=i->i<dL f b lo hi->f i<0)/\(∀i,dL f b lo hi<=i->i<hi->¬f i<0)
 | 0,lo,hi,h,hb,_=>by
   have:hi=lo:=by omega
   subst this;exact⟨zC _,zC _,λi h1 h2=>absurd h2 (by show ¬i<hi;omega),λi h1 h2=>absurd h2 (by have:hi<=i:=h1;omega)⟩
 | b + 1,lo,hi,h,hb,hm=>by
   unfold dL;by_cases hl:lo<hi
   .rw[zB hl];by_cases hf:f ((lo+hi)/2)<0
    .rw[zB hf];obtain⟨h1,h2,h3,h4⟩:=iY f b ((lo+hi)/2+1) hi (by omega) (by omega) (λi j a c d e=>hm i j (by omega) c d e);refine⟨by omega,h2,λi a c=>?_,h4⟩;by_cases hi':i<=(lo+hi)/2
     .exact hm i ((lo+hi)/2) a hi' (by omega) hf
     exact h3 i (by omega) c
    rw[zA hf];obtain⟨h1,h2,h3,h4⟩:=iY f b lo ((lo+hi)/2) (by omega) (by omega) (λi j a c d e=>hm i j a c (by omega) e);refine⟨h1,by omega,h3,λi a c=>?_⟩;by_cases hi':i<(lo+hi)/2
    .exact h4 i a hi'
    exact λhn=>hf (hm ((lo+hi)/2) i (by omega) (by omega) c hn)
   rw[zA hl];exact⟨zC _,h,λi h1 h2=>absurd h2 (by omega),λi h1 h2=>absurd h2 (by omega)⟩
def Rise (ns:List Int):Prop:=∀(i j:Nat) (x y:Int),ns[i]? =some x->ns[j]? =some y->i<j->x<y
variable {S:PSt} {k:Nat} {n x:Int} {ns:List Int}
theorem Rise.inj (h:Rise ns) {i j:Nat} (hi:ns[i]? =some x) (hj:ns[j]? =some x):i=j:=by
 rcases Nat.lt_trichotomy i j with h1|h1|h1
 .have:=h i j _ _ hi hj h1;omega
 .exact h1
 have:=h j i _ _ hj hi h1;omega
theorem mO (h:Rise ns) (hk:ns[k]? =some n):aJ ns n=k:=by
 obtain⟨hl,_⟩:=gI.1 hk;have hc:∀j (hj:j<ns.length),tC ns n j=jK ns[j] n:=λj hj=>by unfold tC;rw[gE hj]
 obtain⟨h1,h2,h3,h4⟩:=iY (tC ns n) ns.length 0 ns.length (by omega) (by omega) (λi j a c d e=>by
  rw[hc j d]at e;rw[hc i (by omega)];unfold jK at e |-;by_cases hij:i=j
  .subst hij;exact e
  have:=h i j _ _ (gE (by omega)) (gE d) (by omega);split at e
  .rw[zB (by omega)];omega
  split at e<;>omega)
 have hz:tC ns n k=0:=by
  rw[hc k hl];have:ns[k]=n:=by have:=gE hl;rw[hk]at this;exact(Option.some.inj this).symm
  rw[this];simp[jK]
 have e:bsN ns n=k:=by
  unfold bsN;generalize dL (tC ns n) ns.length 0 ns.length=r at *;rcases Nat.lt_trichotomy r k with hrk|hrk|hrk
  .have:=h4 r (zC _) (by omega);rw[hc r (by omega)]at this;have h5:=h r k _ _ (gE (by omega)) hk hrk;unfold jK at this;rw[zB h5]at this;omega
  .exact hrk
  have:=h3 k (Nat.zero_le _) hrk;omega
 unfold aJ;rw[e,hz];rw[zB (by simp[hl])]
theorem aIM (hn:∀x∈ns,x≠n):aJ ns n=-1:=by
 unfold aJ;rw[zA];intro h;simp only[zE,zI,beq_iff_eq]at h;obtain⟨h1,h2⟩:=h;unfold tC at h2;rw[gE h1]at h2;simp only at h2;have:=hn _ (getElem_mem h1);unfold jK at h2;split at h2
 .omega
 split at h2<;>omega
theorem aFR {α:Type} (p:α->Bool):∀(zs:List α) (q k:Nat) (z:α),zs[k]? =some z->p z=true->(∀j y,j<k->zs[j]? =some y->p y=false)->bO p zs q=((q+k:Nat):Int)
 |[],_,_,_,h,_,_=>by simp at h
 | x::r,q,0,z,h,hp,_=>by simp at h;subst h;unfold bO;rw[zB hp];simp
 | x::r,q,k+1,z,h,hp,hl=>by unfold bO;rw[zA (by rw[hl 0 x (by omega) rfl];simp),aFR p r (q+1) k z (by simpa using h) hp (λj y hj hy=>hl (j+1) y (by omega) (by simpa using hy))];omega
theorem aBU {α:Type} (p:α->Bool):∀(zs:List α) (q:Nat),(∀z∈zs,p z=false)->bO p zs q=-1
 |[],_,_=>rfl
 | x::r,q,h=>by unfold bO;rw[zA (by rw[h x zQ];simp)];exact aBU p r (q+1) λz hz=>h z (zL _ hz)
theorem cP (h:Rise S.nums) {x:PIn} (hk:S.ins[k]? =some x):bM S x.num=k:=by
 unfold bM cU;rw[aFR (mZ x.num) S.ins 0 k x hk (by simp[mZ]) (λj y hj hy=>by
  unfold mZ;rw[yF];intro e;have:=h j k y.num x.num (by unfold PSt.nums;rw[gM,hy];rfl) (by unfold PSt.nums;rw[gM,hk];rfl) hj;omega)]
 simp
theorem fW (S:PSt) (n:Int):(∃(k:Nat) (x:PIn),S.ins[k]? =some x/\x.num=n)\/((∀x∈S.ins,x.num≠n)/\bM S n=-1):=by
 by_cases h:∃x∈S.ins,x.num=n
 .obtain⟨x,hx,e⟩:=h;obtain⟨k,hk⟩:=mem_iff_getElem?.1 hx;exact .inl ⟨k,x,hk,e⟩
 have h':∀x∈S.ins,x.num≠n:=λx hx e=>h ⟨x,hx,e⟩;refine .inr ⟨h',?_⟩;unfold bM cU;exact aBU _ _ _ λz hz=>by unfold mZ;rw[yF];exact h' z hz
theorem bE (h:Rise S.nums) (n:Int):aJ S.nums n=bM S n:=by
 rcases fW S n with⟨k,x,hk,rfl⟩|⟨h1,h2⟩
 .rw[cP h hk];exact mO h (by unfold PSt.nums;rw[gM,hk];rfl)
 rw[h2];exact aIM λy hy=>by obtain⟨x,hx,rfl⟩:=mem_map.1 hy;exact h1 x hx
theorem oV {s:ByteArray} {p:Nat} (h:p<s.size):∃b,s.toList.drop p=b::s.toList.drop (p+1)/\dN s p=(b.toNat:Int):=by
 have hl:p<s.data.toList.length:=by simpa using h
 refine⟨s.data.toList[p],?_,?_⟩
 .rw[zW];exact yH hl
 unfold dN;rw[dif_pos h];rfl
theorem aIN (x y:ByteArray):∀m p,x.size<=p+m->p<=x.size->p<=y.size->kS x y m p=Op.bytesLess (x.toList.drop p) (y.toList.drop p):=by
 have a0:∀p,p<=x.size->p<=y.size->¬(p<x.size/\p<y.size)->decide (x.size<y.size)=Op.bytesLess (x.toList.drop p) (y.toList.drop p):=by
  intro p h1 h2 h;have lx:x.toList.length=x.size:=by rw[zW];simp
  have ly:y.toList.length=y.size:=by rw[zW];simp
  by_cases hy:p<y.size
  .obtain⟨b,hb,_⟩:=oV hy;have:x.toList.drop p=[]:=zS (by omega);rw[this,hb];rw[decide_eq_true (by omega)];rfl
  have:y.toList.drop p=[]:=zS (by omega);rw[this,yM (by omega)];cases x.toList.drop p<;>rfl
 intro m
 induction m with
 | zero=>intro p h h1 h2;exact a0 p h1 h2 (by omega)
 | succ m ih=>
   intro p h h1 h2;unfold kS;by_cases hp:p<x.size/\p<y.size
   .rw[zB hp];obtain⟨a,ha,ea⟩:=oV hp.1;obtain⟨b,hb,eb⟩:=oV hp.2;rw[ha,hb,ea,eb];unfold Op.bytesLess;by_cases e:a=b
    .subst e;rw[zB rfl,ih (p+1) (by omega) (by omega) (by omega)];simp
    have a1:¬(a.toNat:Int)=b.toNat:=λh=>e (UInt8.toNat_inj.1 (by omega));rw[zA a1];have:(a==b)=false:=by simpa using e
    rw[this,yJ,Bool.or_false];congr 1;rw[UInt8.lt_iff_toNat_lt];exact propext ⟨λh=>by omega,λh=>by omega⟩
   rw[zA hp];exact a0 p h1 h2 hp
theorem oW (x y:ByteArray):dX x y=Op.bytesLess x.toList y.toList:=by unfold dX;rw[aIN x y x.size 0 (by omega) (by omega) (by omega)];rfl
end
section
def fG (S:PSt) (n:Int):Bool:=S.op.any λd=>d.num==n
def inR (S:PSt) (q:Nat) (x:PIn):Bool:=(q==0||(decide (gK S (q-1)<x.num)&&rG S x.num))&&(decide (x.data.size<=256)&&((if x.dir=true then x.data.size==0 else x.ents.isEmpty)&&(xR S x.ents&&
 (if x.dir=true then q==0||(bX S x.num==1&&(eS S).getD q false)else(eS S).getD q false||fG S x.num))))
def aFS (S:PSt):Bool:=(List.range S.ins.length).all λq=>match S.ins[q]? with|some x=>inR S q x|none=>false
def lG (S:PSt):Bool:=decide (1<=S.made.length/\S.made.length<=8/\1<=S.ins.length/\S.ins.length<=257)&&((match S.ins[0]? with|some x=>x.num==1&&x.dir|none=>false)&&(uT S&&((S.made.all λm=>decide (0<=m/\m<=32))&&aFS S)))
variable {S:PSt} {i k:Nat} {n:Int} {ns:List Int} {x:PIn}
theorem vA (h:aFS S=true) {q:Nat} (hx:S.ins[q]? =some x):inR S q x=true:=by unfold aFS at h;rw[yY]at h;obtain⟨hl,_⟩:=gI.1 hx;have:=h q (mem_range.2 hl);rw[hx]at this;exact this
theorem cC (h:S.ins[k]? =some x):S.nums[k]? =some x.num:=by unfold PSt.nums;rw[gM,h];rfl
theorem rW (h:S.nums[k]? =some n):∃x,S.ins[k]? =some x/\x.num=n:=by
 unfold PSt.nums at h;rw[gM]at h;rcases e:S.ins[k]? with _|x
 .rw[e]at h;cases h
 rw[e]at h;exact⟨x,rfl,Option.some.inj h⟩
theorem aVP (h:aFS S=true):Rise S.nums:=by
 have a0:∀(k:Nat) (x y:Int),S.nums[k]? =some x->S.nums[k+1]? =some y->x<y:=by
  intro k x y hx hy;obtain⟨a,ha,rfl⟩:=rW hx;obtain⟨b,hb,rfl⟩:=rW hy;have:=vA h hb;unfold inR at this;simp only[zE,yI,zI]at this;have h1:=this.1;rcases h1 with h1|h1
  .simp at h1
  have h2:=h1.1;unfold gK at h2;rw[Nat.add_sub_cancel,ha]at h2;exact h2
 intro i j
 induction j with
 |zero=>intro x y _ _ h;omega
 | succ j ih=>
   intro x y hx hy hij;obtain⟨hl,_⟩:=gI.1 hy;have hz:S.nums[j]? =some S.nums[j]:=gE (by omega);have h1:=a0 j _ y hz hy;by_cases e:i=j
   .subst e;rw[hx]at hz;rw[Option.some.inj hz];exact h1
   have:=ih x _ hx hz (by omega);omega
theorem aLE (hr:Rise S.nums):∀(es:List PEnt) (prev:Option ByteArray) (sl:List Int),gU S prev sl es=true->eY S.nums prev sl es=true
 |[],_,_,_=>rfl
 | e ::r,prev,sl,h=>by
   unfold gU at h;unfold eY;split at h
   .cases h
   rename_i h1;split at h
   .cases h
   rename_i h2;split at h
   .cases h
   rename_i h3;split at h
   .cases h
   rename_i h4;have c:bI e.name=0:=by simpa using h1
   have p:gY prev e.name=kE prev e.name:=by
    unfold gY kE;cases prev with
    |none=>rfl
    |some q=>simp only[oW]
   rw[zA (by rw[aKF c];simp),p,zA h2,zA h3,bE hr,zA h4,<-nB];rcases hs:sl[(aZ e.name).toNat]? with _|x
   .rw[hs]at h;cases h
   rw[hs]at h;simp only at h |-;split at h
   .cases h
   rename_i h5;rw[zA h5];exact aLE hr r _ _ h
theorem wK:∀(es:List PEnt) (prev:Option ByteArray) (sl:List Int),gU S prev sl es=true->∀e∈es,0<=bM S e.num
 |[],_,_,_,e,he=>by cases he
 | e ::r,prev,sl,h,e',he=>by
   unfold gU at h;split at h
   .cases h
   split at h
   .cases h
   split at h
   .cases h
   split at h
   .cases h
   rename_i h4;split at h
   .split at h
    .cases h
    rcases mem_cons.1 he with rfl|he
    .omega
    exact wK r _ _ h e' he
   cases h
theorem aLF (hr:Rise S.nums):∀(ds:List PDesc) (o:Option PDesc),pH S o ds=true->fJ S o ds=true
 |[],_,_=>rfl
 | d::r,o,h=>by
   unfold pH at h;unfold fJ;split at h
   .cases h
   rename_i h1;split at h
   .cases h
   rename_i h2;unfold aTW at h1;simp only[yI,zI,not_or]at h1;obtain⟨a1,a2,a3,a4,a5,a6⟩:=h1;have p:kB o d=pG o d:=by
    unfold kB pG;cases o with
    |none=>rfl
    |some q=>simp only;congr 2
   rw[zA a1,zA a2,zA a3,zA a4,p,zA h2,bE hr,zA a5];unfold aCU at a6;have hb:0<=bM S d.num/\bM S d.num<S.ins.length:=by
    rcases fW S d.num with⟨k,x,hk,e⟩|⟨_,e⟩
    .rw[<-e,cP hr hk];obtain⟨hl,_⟩:=gI.1 hk;omega
    omega
   rw[gE (by omega)]at a6 |-;simp only at a6 |-;rw[zA a6];exact aLF hr r _ h
theorem aLG (h:aFS S=true):∀(m k:Nat) (p:Int),m+k=S.ins.length->1<=k->gK S (k-1)=p->nN S.made p ((S.ins.drop k).map PIn.num)=true
 |0,k,p,hk,_,_=>by rw[zS (by omega)];rfl
 | m+1,k,p,hk,h1,hp=>by
   rw[yH (by omega)];have hx:S.ins[k]? =some S.ins[k]:=gE (by omega);have:=vA h hx;unfold inR at this;simp only[zE,yI,zI]at this;have h2:=this.1;rcases h2 with h2|⟨h2,h3⟩
   .simp at h2;omega
   rw[hp]at h2;show nN S.made p (S.ins[k].num::(S.ins.drop (k+1)).map PIn.num)=true;unfold nN;rw[zA (by omega),zA (by rw[show dH S.made S.ins[k].num=rG S S.ins[k].num from rfl,h3];simp)];exact aLG h m (k+1) _ (by omega) (by omega) (by unfold gK;rw[Nat.add_sub_cancel,hx])
theorem aSD (n:Int):∀(es:List PEnt) (a:Int),a<=vG n es a/\vG n es a<=a+es.length
 |[],a=>⟨Int.le_refl _,by simp[vG]⟩
 | e::r,a=>by
   unfold vG;have:=aSD n r (if (e.num==n)=true then a+1 else a);simp only[zK];split at this<;>rename_i h
   .rw[zB h];omega
   rw[zA h];omega
theorem aVQ (hr:Rise ns) {m:List Int} (hl:m.length=ns.length) (hi:ns[i]? =some n) {k:Int} (hk:0<=aJ ns k) (hb:0<=m.getD i 0/\m.getD i 0<9000000000000000000):
 (lJ m (aJ ns k)).getD i 0=if(k==n)=true then m.getD i 0+1 else m.getD i 0:=by
 obtain⟨hil,_⟩:=gI.1 hi;have a0:i<m.length:=by omega
 unfold lJ;by_cases e:k=n
 .subst e;rw[mO hr hi];simp only[beq_self_eq_true,if_true,zJ];rw[zG,zY a0];simp only[Option.getD_some];unfold wrap64;omega
 rw [zA (by simpa using e)];have a1:(aJ ns k).toNat≠i:=by
  intro h;have hf:aJ ns k=i:=by omega
  by_cases hx:∃j:Nat,ns[j]? =some k
  .obtain⟨j,hj⟩:=hx;rw[mO hr hj]at hf;have:j=i:=by omega
   subst this;rw[hj]at hi;exact e (Option.some.inj hi)
  unfold aJ at hf;split at hf
  .rename_i hc
   simp only[zE,zI,beq_iff_eq]at hc;have a2:bsN ns k=i:=by omega
   rw[a2]at hc;unfold tC at hc;rw[hi]at hc;have h2:=hc.2;simp only at h2;unfold jK at h2;rcases Int.lt_trichotomy n k with h|h|h
   .rw[zB h]at h2;exact absurd h2 (by decide)
   .exact e h.symm
   rw[zA (by omega),zB h]at h2;exact absurd h2 (by decide)
  omega
 rw[zG,zX a1,<-zG]
theorem aFT (hr:Rise ns) (hi:ns[i]? =some n):∀(es:List PEnt) (m:List Int),m.length=ns.length->(∀e∈es,0<=aJ ns e.num)->0<=m.getD i 0->m.getD i 0+es.length<9000000000000000000->(mW ns m es).getD i 0=vG n es (m.getD i 0)
 |[],_,_,_,_,_=>rfl
 | e::r,m,hl,hf,h0,hb=>by simp only[zK]at hb;have h1:=aVQ hr hl hi (hf e zQ) ⟨h0,by omega⟩;show(mW ns (lJ m (aJ ns e.num)) r).getD i 0=vG n r (if (e.num==n)=true then m.getD i 0+1 else m.getD i 0);rw[aFT hr hi r _ (by rw[xM,hl]) (λe he=>hf e (zL _ he)) (by rw[h1];split<;>omega) (by rw[h1];split<;>omega),h1]
def dG (xs:List PIn):Nat:=(xs.map λx=>x.ents.length).sum
theorem oX (hr:Rise ns) (hi:ns[i]? =some n):∀(xs:List PIn) (m:List Int),m.length=ns.length->(∀x∈xs,∀e∈x.ents,0<=aJ ns e.num)->(∀x∈xs,x.dir=false->x.ents=[])->0<=m.getD i 0->m.getD i 0+dG xs<9000000000000000000->(uQ ns m xs).getD i 0=lkI n xs (m.getD i 0)
 |[],_,_,_,_,_,_=>rfl
 | x::r,m,hl,hf,hd,h0,hb=>by
   simp only[dG,xB,sum_cons]at hb;have h1:=aFT hr hi x.ents m hl (hf x zQ) h0 (by omega);have h2:=aSD n x.ents (m.getD i 0);show(uQ ns (mW ns m x.ents) r).getD i 0=lkI n r (if x.dir=true then vG n x.ents (m.getD i 0)else m.getD i 0);have h3:(if x.dir=true then vG n x.ents (m.getD i 0)else m.getD i 0)=vG n x.ents (m.getD i 0):=by
    split
    .rfl
    rename_i h;rw[hd x zQ (by simpa using h)];rfl
   rw[oX hr hi r _ (by rw[aCM,hl]) (λy hy=>hf y (zL _ hy)) (λy hy=>hd y (zL _ hy)) (by rw[h1];omega) (by rw[h1];unfold dG;omega),h1,h3]
def qY (S:PSt) (C:Nat->Prop):Prop:=∀(k:Nat) (x:PIn),C k->S.ins[k]? =some x->∀e∈x.ents,C (aJ S.nums e.num).toNat
theorem pR (hr:Rise S.nums) {C:Nat->Prop} (hC:qY S C):∀(g:Nat) (st:List Int) (fd:List Bool),(∀n∈st,0<=bM S n->C (bM S n).toNat)->(∀k,fd.getD k false=true->C k)->∀k,(fT S g st fd).getD k false=true->C k
 |0,_,_,_,h,k,hk=>h k hk
 |_+1,[],_,_,h,k,hk=>h k hk
 | g + 1,n::st,fd,h1,h2,k,hk=>by
   unfold fT at hk;split at hk
   .exact pR hr hC g st fd (λm hm=>h1 m (zL _ hm)) h2 k hk
   rename_i ha;split at hk
   .exact pR hr hC g st fd (λm hm=>h1 m (zL _ hm)) h2 k hk
   split at hk
   .rename_i x hx
    have hc:=h1 n zQ (by omega);refine pR hr hC g _ _ (λm hm hm0=>?_) (λj hj=>?_) k hk
    .rcases mem_append.1 hm with hm|hm
     .rw[mem_reverse]at hm;unfold kF at hm
      split at hm
      .obtain⟨e,he,rfl⟩:=mem_map.1 hm;have:=hC _ x hc hx e he;rw[bE hr]at this;exact this
      cases hm
     exact h1 m (zL _ hm) hm0
    by_cases e:(bM S n).toNat=j
    .subst e;exact hc
    rw[zG,zX e,<-zG]at hj;exact h2 j hj
   exact h2 k hk
def aFU (fd:List Bool):Nat:=fd.count false
theorem aBV {fd:List Bool} (h:k<fd.length) (hf:fd.getD k false=false):(fd.set k true).count false+1=fd.count false:=by
 rw[zG,gE h]at hf;simp only[Option.getD_some]at hf;rw[List.count_set h,hf]
 have:0<fd.count false:=count_pos_iff.2 (by rw[<-hf];exact getElem_mem h);simp;omega
theorem getD_set_true {fd:List Bool} {j:Nat} (h:fd.getD j false=true):(fd.set k true).getD j false=true:=by
 by_cases e:k=j
 .subst e;have hl:k<fd.length:=by
   rcases Nat.lt_or_ge k fd.length with h1|h1
   .exact h1
   rw[zG,getElem?_eq_none h1]at h;cases h
  rw[zG,zY hl];rfl
 rw[zG,zX e,<-zG];exact h
theorem qZ (ns:List Int) (hfl:Nat):∀(es:List PEnt) (td:List Nat) (fd:List Bool),fd.length=hfl->(∀e∈es,0<=aJ ns e.num/\aJ ns e.num<hfl)->
 (∀j,fd.getD j false=true->(cZ ns (td,fd) es).2.getD j false=true)/\(∀e∈es,(cZ ns (td,fd) es).2.getD (aJ ns e.num).toNat false=true)/\
 (∀j,(cZ ns (td,fd) es).2.getD j false=true->fd.getD j false=true\/j∈(cZ ns (td,fd) es).1)/\(∀j∈td,j∈(cZ ns (td,fd) es).1)/\(∀j∈(cZ ns (td,fd) es).1,j∈td\/(cZ ns (td,fd) es).2.getD j false=true)/\
 (cZ ns (td,fd) es).1.length+aFU (cZ ns (td,fd) es).2=td.length+aFU fd
 |[],td,fd,_,_=>⟨λ_ h=>h,λ_ h=>(by cases h),λ_ h=>.inl h,λ_ h=>h,λ_ h=>.inl h,rfl⟩
 | e ::r,td,fd,hl,hf=>by
   obtain⟨f0,f1⟩:=hf e zQ;show _/\_/\_/\_/\_/\_;have a0:cZ ns (td,fd) (e::r)=cZ ns (mX ns (td,fd) e) r:=rfl;rw[a0];by_cases hd:fd.getD (aJ ns e.num).toNat false=true
   .have hs:mX ns (td,fd) e=(td,fd):=by unfold mX;rw[zB hd]
    rw[hs];obtain⟨a,b,c,d,g,i⟩:=qZ ns hfl r td fd hl (λe he=>hf e (zL _ he));refine⟨a,λe' he=>?_,c,d,g,i⟩;rcases mem_cons.1 he with rfl|he
    .exact a _ hd
    exact b e' he
   have hs:mX ns (td,fd) e=(td++[(aJ ns e.num).toNat],fd.set (aJ ns e.num).toNat true):=by unfold mX;rw[zA hd]
   rw[hs];have a2:(aJ ns e.num).toNat<fd.length:=by omega
   obtain⟨a,b,c,d,g,i⟩:=qZ ns hfl r (td++[(aJ ns e.num).toNat]) (fd.set (aJ ns e.num).toNat true) (by simpa using hl) (λe he=>hf e (zL _ he));have a1:(fd.set (aJ ns e.num).toNat true).getD (aJ ns e.num).toNat false=true:=by rw[zG,zY a2];rfl
   refine⟨λj hj=>a j (getD_set_true hj),λe' he=>?_,λj hj=>?_,λj hj=>d j (mem_append_left _ hj),λj hj=>?_,?_⟩
   .rcases mem_cons.1 he with rfl|he
    .exact a _ a1
    exact b e' he
   .rcases c j hj with h|h
    .by_cases e2:(aJ ns e.num).toNat=j
     .right;exact d j (by rw[<-e2];simp)
     left;rw[zG,zX e2,<-zG]at h;exact h
    exact .inr h
   .rcases g j hj with h|h
    .rcases mem_append.1 h with h|h
     .exact .inl h
     rw[mem_singleton.1 h];exact .inr (a _ a1)
    exact .inr h
   rw[i];have:=aBV a2 (by simpa using hd);simp only[lP,length_singleton];unfold aFU;omega
theorem wL (hfound:∀x∈S.ins,∀e∈x.ents,0<=aJ S.nums e.num/\aJ S.nums e.num<S.ins.length):∀(b:Nat) (td:List Nat) (fd:List Bool),fd.length=S.ins.length->td.length+aFU fd<=b->(∀j∈td,fd.getD j false=true)->
 (∀k x,fd.getD k false=true->k∉td->S.ins[k]? =some x->∀e∈x.ents,fd.getD (aJ S.nums e.num).toNat false=true)->
 (∀j,fd.getD j false=true->(bfs S.nums S.ins b td fd).getD j false=true)/\qY S λk=>(bfs S.nums S.ins b td fd).getD k false=true
 | 0,td,fd,hl,hb,ht,hi=>by have:td=[]:=zT (by omega);subst this;exact⟨λ_ h=>h,λk x hk hx e he=>hi k x hk (by simp) hx e he⟩
 |b+1,[],fd,hl,hb,ht,hi=>⟨λ_ h=>h,λk x hk hx e he=>hi k x hk (by simp) hx e he⟩
 | b+1,k::td,fd,hl,hb,ht,hi=>by
   have hk:=ht k zQ;have a0:k<S.ins.length:=by
    rcases Nat.lt_or_ge k fd.length with h1|h1
    .omega
    rw[zG,getElem?_eq_none h1]at hk;cases hk
   have hx:S.ins[k]? =some S.ins[k]:=gE a0;have hf:=hfound _ (getElem_mem a0);obtain⟨a,b1,c,d,g,i⟩:=qZ S.nums S.ins.length S.ins[k].ents td fd hl hf;show(∀j,fd.getD j false=true->(bfs S.nums S.ins b (cZ S.nums (td,fd) (match S.ins[k]? with|some x=>x.ents|none=>[])).1 (cZ S.nums (td,fd) (match S.ins[k]? with|some x=>x.ents|none=>[])).2).getD j false=true)/\qY S λq=>(bfs S.nums S.ins b (cZ S.nums (td,fd) (match S.ins[k]? with|some x=>x.ents|none=>[])).1 (cZ S.nums (td,fd) (match S.ins[k]? with|some x=>x.ents|none=>[])).2).getD q false=true;rw [hx];simp only;simp only[zK]at hb;obtain⟨r1,r2⟩:=wL hfound b (cZ S.nums (td,fd) S.ins[k].ents).1 (cZ S.nums (td,fd) S.ins[k].ents).2 (by rw[aCN];exact hl) (by omega) (λj hj=>by
    rcases g j hj with h|h
    .exact a j (ht j (zL _ h))
    .exact h) (λq x hq hnq hqx e he=>by
    rcases c q hq with h|h
    .by_cases e2:q=k
     .subst e2;rw[hx]at hqx;cases hqx;exact b1 e he
     refine a _ (hi q x h (λhm=>?_) hqx e he);rcases mem_cons.1 hm with h3|h3
     .exact e2 h3
     exact hnq (d q h3)
    exact absurd h hnq)
   exact⟨λj hj=>r1 j (a j hj),r2⟩
theorem aNP (hwf :S.wf) (h:lG S=true):cS S=true:=by
 unfold lG at h;simp only[zE,zI,yY]at h;obtain⟨⟨m1,m8,i1,i257⟩,hroot,hop,hmade,hins⟩:=h;have hr:=aVP hins;have x0:S.ins[0]? =some S.ins[0]:=gE (by omega);rw[x0]at hroot;simp only[zE,beq_iff_eq]at hroot;obtain⟨hn0,hd0⟩:=hroot;have a6:∀{q:Nat} {x:PIn},S.ins[q]? =some x->xR S x.ents=true/\x.data.size<=256/\(if x.dir=true then x.data.size==0 else x.ents.isEmpty)=true/\(if x.dir=true then q==0||(bX S x.num==1&&(eS S).getD q false)else(eS S).getD q false||fG S x.num)=true:=λhx=>by have:=vA hins hx;unfold inR at this;simp only[zE,zI]at this;exact⟨this.2.2.2.1,this.2.1,this.2.2.1,this.2.2.2.2⟩
 have a0:∀x∈S.ins,∀e∈x.ents,0<=aJ S.nums e.num/\aJ S.nums e.num<S.ins.length:=λx hx e he=>by
  obtain⟨q,hq⟩:=mem_iff_getElem?.1 hx;have h1:=wK _ _ _ (a6 hq).1 e he;rw[bE hr];refine⟨h1,?_⟩;rcases fW S e.num with⟨k,y,hk,e2⟩|⟨_,e2⟩
  .rw[<-e2,cP hr hk];obtain⟨hl,_⟩:=gI.1 hk;omega
  omega
 have a7:∀x∈S.ins,x.dir=false->x.ents=[]:=λx hx hd=>by obtain⟨q,hq⟩:=mem_iff_getElem?.1 hx;have:=(a6 hq).2.2.1;rw[hd]at this;simpa using this
 have b5:dG S.ins<9000000000000000000:=by
  have key:∀(xs:List PIn),(∀x∈xs,x.ents.length<=1000000000)->dG xs<=xs.length*1000000000:=by
   intro xs
   induction xs with
   |nil=>intro _;simp[dG]
   | cons x r ih=>intro hx;have h1:=ih λy hy=>hx y (zL _ hy);have h2:=hx x zQ;simp only[dG,xB,sum_cons,zK]at h1 |-;omega
  have:=key S.ins λx hx=>(hwf.2.2.2.1 x hx).2.1;omega
 have a8:((List.replicate S.ins.length false).set 0 true).getD 0 false=true:=by rw[zG,zY (by simp;omega)];rfl
 have a9:∀k,((List.replicate S.ins.length false).set 0 true).getD k false=true->k=0:=λk hk=>by
  by_cases e:0=k
  .exact e.symm
  rw[zG,zX e,yQ]at hk;split at hk<;>cases hk
 obtain⟨c1,c2⟩:=wL a0 S.ins.length [0] ((List.replicate S.ins.length false).set 0 true) (by simp) (by
  have:=aBV (fd:=List.replicate S.ins.length false) (k:=0) (by simp;omega) (by rw[zG,yQ];split<;>rfl);rw[count_replicate_self]at this;unfold aFU;simp only[length_singleton];omega) (λj hj=>by rw[mem_singleton.1 hj];exact a8) (λk x hk hn _ e he=>absurd (mem_singleton.2 (a9 k hk)) hn)
 have a4:(eG S).getD 0 false=true:=c1 0 a8;have b4:qY S λk=>(eG S).getD k false=true:=c2;have b1:∀k,(eS S).getD k false=true->(eG S).getD k false=true:=λk hk=>pR hr b4 _ _ _ (λn hn _=>by
  rw[mem_singleton.1 hn,<-hn0,cP hr x0];exact a4) (λk hk=>by
  rw[zG,yQ]at hk;split at hk<;>cases hk) k hk
 have a5:∀{q:Nat} {x:PIn},S.ins[q]? =some x->(fB S).getD q 0=bX S x.num:=fun{q x} hq=>by
  unfold fB bX;have h0:(List.replicate S.ins.length (0:Int)).getD q 0=0:=by
   rw[zG,yQ];split<;>rfl
  have:=oX hr (cC hq) S.ins (List.replicate S.ins.length 0) (by simp[PSt.nums]) (λx hx e he=>(a0 x hx e he).1) a7 (by rw[h0];omega) (by rw[h0];omega);rw[this,h0]
 have b0 : ∀ (m k:Nat),m+k=S.ins.length->eE (fB S) (eG S) S.op k (S.ins.drop k)=true:=by
  intro m
  induction m with
  |zero=>intro k hk;rw[zS (by omega)];rfl
  | succ m ih =>
    intro k hk;rw[yH (by omega)];have hx:S.ins[k]? =some S.ins[k]:=gE (by omega);obtain⟨-,-,-,h4⟩:=a6 hx;unfold eE;rw[ih (k+1) (by omega)];by_cases k0:k=0
    .rw[zB k0]
    rw[zA k0];by_cases hd:S.ins[k].dir=true
    .rw[zB hd]at h4;simp only[yI,zE,beq_iff_eq]at h4;rcases h4 with h4|⟨h4,h5⟩
     .omega
     rw[a5 hx,h4,b1 k h5,hd];rfl
    rw [zA hd] at h4;have b6:S.ins[k].dir=false:=by simpa using hd
    rw[b6];simp only[yJ,Bool.not_false,xC,zA (Bool.false_ne_true)];rw[zA];intro hb;simp only[zE,yL,yI,zI]at hb;obtain⟨hb1,hb2⟩:=hb;simp only[yI]at h4;rcases h4 with h4|h4
    .rw[b1 k h4]at hb1;cases hb1
    rcases hb2 with hb2|hb2
    ·
      rw [a5 hx]at hb2;have b7:∃y∈S.ins,y.dir=true/\∃e∈y.ents,e.num=S.ins[k].num:=by
       apply Classical.byContradiction;intro hno;have b2:∀(es:List PEnt) (a:Int),(∀e∈es,e.num≠S.ins[k].num)->vG S.ins[k].num es a=a:=by
        intro es
        induction es with
        |nil=>intro a _;rfl
        | cons e r ihe=>intro a he;unfold vG;rw[zA (by simpa using he e zQ)];exact ihe a λe' h'=>he e' (zL _ h')
       have b3:∀(xs:List PIn) (a:Int),(∀y∈xs,y.dir=true->∀e∈y.ents,e.num≠S.ins[k].num)->lkI S.ins[k].num xs a=a:=by
        intro xs
        induction xs with
        |nil=>intro a _;rfl
        | cons y r ihx=>
          intro a hy;unfold lkI;have:(if y.dir=true then vG S.ins[k].num y.ents a else a)=a:=by
           split
           .rename_i hyd
            exact b2 _ _ (hy y zQ hyd)
           rfl
          rw[this];exact ihx a λz hz=>hy z (zL _ hz)
       have h0:bX S S.ins[k].num=0:=b3 S.ins 0 λy hy hyd e he h=>hno ⟨y,hy,hyd,e,he,h⟩;omega
      obtain⟨y,hy,hyd,e,he,hen⟩:=b7;obtain⟨q,hq⟩:=mem_iff_getElem?.1 hy;have b8:(eG S).getD q false=true:=by
       by_cases q0:q=0
       .rw[q0];exact a4
       obtain⟨-,-,-,h5⟩:=a6 hq;rw[zB hyd]at h5;simp only[yI,zE,beq_iff_eq]at h5;rcases h5 with h5|h5
       .omega
       exact b1 q h5.2
      have:=b4 q y b8 hq e he;rw[hen,mO hr (cC hx),zJ]at this;rw[this]at hb1;cases hb1
    rw[show mR S.op S.ins[k].num=fG S S.ins[k].num from rfl,h4]at hb2;cases hb2
 unfold cS;have h1:dP S.made=true:=by unfold dP;rw[yM (by omega),yM (by omega)];simp only[Bool.or_false,Bool.not_false,xC,yL];rw[any_eq_false];intro m hm;have:=hmade m hm;unfold eA;simp only[yI,zI];omega
 have h2:dR S=true:=by
  have hN:=aLG hins (S.ins.length-1) 1 1 (by omega) (by omega) (by unfold gK;rw[x0];exact hn0);have hI:S.ins.all (inB S.nums)=true:=by
   rw[yY];intro x hx;obtain⟨q,hq⟩:=mem_iff_getElem?.1 hx;obtain⟨a1,a2,a3,-⟩:=a6 hq;unfold inB;split
   .rename_i hd
    rw[zB hd]at a3;have:x.data.size=0:=by simpa using a3
    rw[aLE hr _ _ _ a1 |> (λh=>(h:jZ S.nums x.ents=true)),Bool.and_true,zW];have:x.data.data.toList.length=0:=by simpa using this
    rw[zT this];rfl
   rename_i hd;rw[zA hd]at a3;have:x.ents=[]:=by simpa using a3
   rw[this];simp[a2]
  unfold dR;rcases e:S.ins with _|⟨x,r⟩
  .rw[e]at i1;simp at i1
  simp only[e]at hn0 hd0 hN hI |-;simp only[getElem_cons_zero]at hn0 hd0;rw[zB hn0,zB hd0];simp only[drop_succ_cons,drop_zero]at hN;rw[hN,xC];exact hI
 have h3:pB S=true:=aLF hr _ _ hop;rw[h1,h2,h3];simp only[Bool.and_self,if_true];have:=b0 S.ins.length 0 (by omega);simpa using this
end
section
def cX (f:Nat->Nat):Nat->Nat
 |0=>0
 |n+1=>cX f n+f n
theorem aAC {f:Nat->Nat}:∀{n:Nat},cX f n=1->∃p,p<n/\f p=1/\∀k,k<n->k≠p->f k=0
 |0,h=>by cases h
 | n+1,h=>by
   unfold cX at h;have hz:∀{m:Nat},cX f m=0->∀k,k<m->f k=0:=by
    intro m
    induction m with
    |zero=>intro _ k hk;omega
    | succ m ih=>
      intro h k hk;unfold cX at h;by_cases e:k=m
      .subst e;omega
      exact ih (by omega) k (by omega)
   by_cases e:f n=1
   .exact⟨n,by omega,e,λk hk hne=>hz (m:=n) (by omega) k (by omega)⟩
   obtain⟨p,h1,h2,h3⟩:=aAC (f:=f) (n:=n) (by omega);exact⟨p,by omega,h2,λk hk hne=>by
    by_cases e2:k=n
    .subst e2;omega
    exact h3 k (by omega) hne⟩
theorem qE {f g:Nat->Nat}:∀{n:Nat},(∀k,k<n->f k<=g k)->cX f n<=cX g n
 |0,_=>zC _
 | n+1,h=>by unfold cX;have h1:=qE (f:=f) (g:=g) (n:=n) λk hk=>h k (by omega);have h2:=h n (by omega);omega
theorem fD (c n:Nat):cX (λ_=>c) n=n*c:=by
 induction n with
 |zero=>simp[cX]
 |succ n ih=>unfold cX;rw[ih,Nat.succ_mul]
theorem aHC (f g:Nat->Nat) (n:Nat):cX (λk=>f k+g k) n=cX f n+cX g n:=by
 induction n with
 |zero=>rfl
 |succ n ih=>unfold cX;rw[ih];omega
def bC (S:PSt) (k:Nat):List Nat:=match S.ins[k]? with
 |some x=>if x.dir=true then x.ents.map λe=>(bM S e.num).toNat else[]
 |none=>[]
def bV (S:PSt):Nat->List Nat->List Nat
 |0,ns=>ns
 |i+1,ns=>bV S i (ns.flatMap (bC S))
theorem sO (S:PSt):∀i,bV S i []=[]
 |0=>rfl
 |i+1=>by unfold bV;exact sO S i
theorem kZ (S:PSt):∀i (as_ bs:List Nat),bV S i (as_++bs)=bV S i as_++bV S i bs
 |0,_,_=>rfl
 | i+1,as_,bs=>by unfold bV;rw[flatMap_append];exact kZ S i _ _
theorem gV (S:PSt):∀i ns,bV S (i+1) ns=(bV S i ns).flatMap (bC S)
 |0,_=>rfl
 | i+1,ns=>by show bV S (i+1) (ns.flatMap (bC S))=_;rw[gV S i];rfl
def aPT (S:PSt):Nat->Nat->Nat
 |0,_=>0
 |f+1,k=>1+((bC S k).map (aPT S f)).sum
theorem aKA (g:Nat->Nat) (n:Nat):cX g (n+1)=g 0+cX (λi=>g (i+1)) n:=by
 induction n with
 |zero=>simp[cX]
 | succ n ih=>rw[cX,ih];simp only[cX];omega
structure Tree (S:PSt):Prop where
 rise:Rise S.nums
 pos:0<S.ins.length
 small:S.ins.length<=257
 found:∀x∈S.ins,∀e∈x.ents,0<=bM S e.num/\bM S e.num<S.ins.length
 root:∀k,0∉bC S k
 once:∀j x,S.ins[j]? =some x->x.dir=true->j≠0->cX (λk=>(bC S k).count j) S.ins.length<=1
 many:∀x∈S.ins,x.ents.length<=32
 name:∀x∈S.ins,∀e∈x.ents,e.name.size<=12
 data:∀x∈S.ins,x.data.size<=256
section
variable {S:PSt}
theorem Tree.kid_lt (h:Tree S) {k j:Nat} (hj:j∈bC S k):j<S.ins.length:=by
 unfold bC at hj;split at hj
 .rename_i x hx
  split at hj
  .obtain⟨e,he,rfl⟩:=mem_map.1 hj;have:=h.found x (mG hx) e he;omega
  cases hj
 cases hj
def eN (S:PSt) (k:Nat):Bool:=match S.ins[k]? with|some x=>x.dir|none=>false
theorem aAD {k:Nat} (h:bC S k≠[]):eN S k=true:=by
 unfold bC at h;unfold eN;split at h
 .rename_i x hx
  rcases hd:x.dir with _|_
  .rw[hd]at h;simp at h
  rfl
 exact absurd rfl h
theorem Tree.lev_lt (h:Tree S):∀i j,j∈bV S i [0]->j<S.ins.length
 | 0,j,hj=>by have:j=0:=mem_singleton.1 hj;have:=h.pos;omega
 | i+1,j,hj=>by rw[gV]at hj;obtain⟨k,_,hk⟩:=mem_flatMap.1 hj;exact h.kid_lt hk
theorem aAE (f:Nat->List Nat) (j:Nat):∀l:List Nat,(l.flatMap f).count j=(l.map λk=>(f k).count j).sum
 |[]=>rfl
 | k::r=>by rw[flatMap_cons,count_append,aAE f j r];rfl
theorem aAF {c:Nat->Nat} {p:Nat} (hp:c p=1):∀l:List Nat,(∀k∈l,k≠p->c k=0)->(l.map c).sum=l.count p
 |[],_=>rfl
 | k::r,h=>by
   rw[xB,sum_cons,aAF hp r λk hk=>h k (zL _ hk),count_cons];by_cases e:k=p
   .subst e;rw[hp];simp;omega
   rw[h k zQ e];simp[e]
theorem pJ {c:Nat->Nat}:∀l:List Nat,(∀k∈l,c k=0)->(l.map c).sum=0
 |[],_=>rfl
 | k::r,h=>by rw[xB,sum_cons,pJ r λk hk=>h k (zL _ hk),h k zQ]
theorem Tree.visit (h:Tree S):∀(l j:Nat),eN S j=true->cX (λi=>(bV S i [0]).count j) (l+1)<=1
 | 0,j,_=>by
   simp only[cX,bV];rw[count_singleton];split<;>omega
 | l + 1,j,hj=>by
   rw[aKA];have a0:∀i,(bV S (i+1) [0]).count j=((bV S i [0]).map λk=>(bC S k).count j).sum:=λi=>by rw[gV,aAE]
   simp only[a0];by_cases j0:j=0
   .subst j0;have hz:∀i,((bV S i [0]).map λk=>(bC S k).count 0).sum=0:=λi=>pJ _ λk _=>count_eq_zero.2 (h.root k)
    simp only[hz];rw[fD];simp[bV]
   have h0:(bV S 0 [0]).count j=0:=count_eq_zero.2 (by simp[bV];exact j0);rw[h0,zM];have hx:∃x,S.ins[j]? =some x/\x.dir=true:=by
    unfold eN at hj;split at hj
    .rename_i x hx;exact⟨x,hx,hj⟩
    cases hj
   obtain⟨x,hx1,hx2⟩:=hx;have ho:=h.once j x hx1 hx2 j0;rcases Nat.lt_or_ge 0 (cX (λk=>(bC S k).count j) S.ins.length)with hp|hp
   .obtain⟨p,p1,p2,p3⟩:=aAC (f:=λk=>(bC S k).count j) (n:=S.ins.length) (by omega);have a1:eN S p=true:=aAD (λe=>by simp only[e]at p2;simp at p2);have hi:∀i,((bV S i [0]).map λk=>(bC S k).count j).sum=(bV S i [0]).count p:=λi=>aAF (c:=λk=>(bC S k).count j) (p:=p) p2 _ λk hk hne=>p3 k (h.lev_lt i k hk) hne
    simp only[hi];exact h.visit l p a1
   have hz:∀k,k<S.ins.length->(bC S k).count j=0:=by
    have key:∀(n:Nat),cX (λk=>(bC S k).count j) n=0->∀k,k<n->(bC S k).count j=0:=by
     intro n
     induction n with
     |zero=>intro _ k hk;omega
     | succ n ih=>
       intro e k hk;unfold cX at e;by_cases e2:k=n
       .subst e2;omega
       exact ih (by omega) k (by omega)
    exact key _ (by omega)
   have hi:∀i,((bV S i [0]).map λk=>(bC S k).count j).sum=0:=λi=>pJ _ λk hk=>hz k (h.lev_lt i k hk);simp only[hi];rw[fD];omega
theorem aKB (S:PSt) (n:Nat):∀l:List Nat,(∀k∈l,k<n)->l.countP (eN S)=cX (λj=>if eN S j=true then l.count j else 0) n:=by
 intro l
 induction l with
 | nil=>
   intro _;have:(λj=>if eN S j=true then([]:List Nat).count j else 0)=λ_=>0:=by funext j;simp
   rw[this,fD];simp
 | cons k r ih=>
   intro hl;have hk:=hl k zQ;rw[countP_cons,ih λk hk=>hl k (zL _ hk)];have e:(λj=>if eN S j=true then(k::r).count j else 0)=λj=>(if eN S j=true then r.count j else 0)+(if j=k then(if eN S k=true then 1 else 0)else 0):=by
    funext j;rw[count_cons];by_cases e1:j=k
    .subst e1;simp
     split<;>rfl
    have:(k==j)=false:=by rw[yF];exact λh=>e1 h.symm
    simp[this,e1]
   rw[e,aHC];congr 1;have a0:∀(n k v:Nat),k<n->cX (λj=>if j=k then v else 0) n=v:=by
    intro n
    induction n with
    |zero=>intro k v hk;omega
    | succ n ihn=>
      intro k v hk;unfold cX;by_cases e2:k=n
      .subst e2;have:cX (λj=>if j=k then v else 0) k=0:=by
        have hm:cX (λj=>if j=k then v else 0) k<=cX (λ_=>0) k:=qE λj hj=>by rw[zA (by omega)];exact zC _
        rw[fD]at hm;omega
       rw[this,zB rfl];omega
      rw[ihn k v (by omega),zA (λh=>e2 h.symm),zN]
   rw[a0 n k _ hk]
theorem aCY (g:Nat->Nat->Nat) (n:Nat):∀m,cX (λi=>cX (λj=>g i j) n) m=cX (λj=>cX (λi=>g i j) m) n
 | 0=>by simp only[cX];rw[fD];rfl
 | m+1=>by rw[cX,aCY g n m];rw[<-aHC];rfl
theorem Tree.dirs (h:Tree S) (l:Nat):cX (λi=>(bV S i [0]).countP (eN S)) (l+1)<=S.ins.length:=by
 have e:∀i,(bV S i [0]).countP (eN S)=cX (λj=>if eN S j=true then(bV S i [0]).count j else 0) S.ins.length:=λi=>aKB S S.ins.length _ λk hk=>h.lev_lt i k hk;simp only[e];rw[aCY];have hb:cX (λj=>cX (λi=>if eN S j=true then(bV S i [0]).count j else 0) (l+1)) S.ins.length<=cX (λ_=>1) S.ins.length:=qE λj hj=>by
  by_cases hd:eN S j=true
  .simp only[hd,if_true];exact h.visit l j hd
  simp only[hd,zA (Bool.false_ne_true)];have:cX (λ_=>0) (l+1)=0:=by rw[fD];rfl
  simp[this]
 rw[fD]at hb;omega
theorem aMC {f:Nat->Nat}:∀{n i:Nat},i<n->f i<=cX f n
 |0,_,h=>by omega
 | n+1,i,h=>by
   unfold cX;by_cases e:i=n
   .subst e;omega
   have:=aMC (f:=f) (n:=n) (i:=i) (by omega);omega
theorem Tree.ends (h:Tree S):bV S 258 [0]=[]:=by
 have a0:∃i,i<258/\(bV S i [0]).countP (eN S)=0:=by
  apply Classical.byContradiction;intro hn;have h1:cX (λ_=>1) 258<=cX (λi=>(bV S i [0]).countP (eN S)) 258:=qE λi hi=>by
   rcases Nat.lt_or_ge 0 ((bV S i [0]).countP (eN S))with h2|h2
   .exact h2
   exact absurd ⟨i,hi,by omega⟩ hn
  rw[fD]at h1;have h2:cX (λi=>(bV S i [0]).countP (eN S)) 258<=S.ins.length:=h.dirs 257;have h4:=h.small;omega
 obtain⟨i,hi,hz⟩:=a0;have h1:bV S (i+1) [0]=[]:=by rw[gV];rw[flatMap_eq_nil_iff];intro k hk;apply Classical.byContradiction;intro hne;have:=countP_eq_zero.1 hz k hk;exact this (aAD hne)
 have key:∀m,bV S (i+1+m) [0]=[]:=by
  intro m
  induction m with
  |zero=>exact h1
  |succ m ih=>rw[<-Nat.add_assoc,gV,ih];rfl
 have:=key (258-(i+1));rw[show i+1+(258-(i+1))=258 by omega]at this;exact this
theorem aZD {k:Nat} {n:Int} (h0:0<=bM S n) (hk:(bM S n).toNat=k):cU (mZ n) S.ins=(k:Int):=by show bM S n=_;omega
theorem Tree.ok (h:Tree S):∀(f:Nat) (n:Int),0<=bM S n->bM S n<S.ins.length->bV S f [(bM S n).toNat]=[]->aUA S f n=true
 |0,n,h0,h1,hl=>by cases hl
 | f +1,n,h0,h1,hl=>by
   unfold aUA;rw[aZD h0 rfl,zJ];have hx:S.ins[(bM S n).toNat]? =some (S.ins[(bM S n).toNat]'(by omega)):=gE (by omega);rw[hx];simp only[zE,zI];refine⟨by omega,?_⟩;rcases hd:(S.ins[(bM S n).toNat]'(by omega)).dir with _|_
   .rfl
   simp only[Bool.not_true,Bool.false_or,yY];intro e he;have hf:=h.found _ (getElem_mem (by omega)) e he;refine h.ok f e.num hf.1 hf.2 ?_;have a0:bV S f (bC S (bM S n).toNat)=[]:=by have:bV S (f+1) [(bM S n).toNat]=bV S f ([(bM S n).toNat].flatMap (bC S)):=rfl;rw[this]at hl;simpa using hl
   have hm:(bM S e.num).toNat∈bC S (bM S n).toNat:=by unfold bC;rw[hx];simp only;rw[zB hd];exact mem_map_of_mem he
   obtain⟨as_,bs,e2⟩:=append_of_mem hm;rw[e2,show(bM S e.num).toNat::bs=[(bM S e.num).toNat]++bs from rfl,kZ,kZ]at a0;exact(append_eq_nil_iff.1 (append_eq_nil_iff.1 a0).2).1
theorem Tree.len (h:Tree S):∀(f:Nat) (n:Int) (p:Nat),aWI S f n p<=aPT S f (bM S n).toNat*(p+13*f+552)
 |0,n,p=>Nat.zero_le _
 | f + 1,n,p=>by
   unfold aWI aPT;have ei:(cU (mZ n) S.ins).toNat=(bM S n).toNat:=rfl;rw[ei];rcases hx:S.ins[(bM S n).toNat]? with _|x
   .exact Nat.zero_le _
   simp only;have hk:bC S (bM S n).toNat=if x.dir=true then x.ents.map λe=>(bM S e.num).toNat else[]:=by unfold bC;rw[hx]
   have a0:=mG hx;by_cases hd:x.dir=true
   .rw[zB hd];rw[zB hd]at hk;rw[hk,map_map];have h1:=aTZ (λe:PEnt=>aWI S f e.num (p+1+e.name.size)) (λe=>aPT S f (bM S e.num).toNat*(p+13*(f+1)+552)) x.ents λe he=>by
     have h2:=h.len f e.num (p+1+e.name.size);have h3:=h.name x a0 e he;exact zD h2 (Nat.mul_le_mul_left _ (by omega))
    have h4:(x.ents.map λe=>aPT S f (bM S e.num).toNat*(p+13*(f+1)+552)).sum=(x.ents.map (aPT S f∘λe=>(bM S e.num).toNat)).sum*(p+13*(f+1)+552):=by
     generalize p+13*(f+1)+552=c
     induction x.ents with
     |nil=>simp
     |cons e r ih=>simp only[xB,sum_cons,Function.comp];rw[ih,Nat.add_mul]
    rw[h4]at h1;rw[Nat.add_mul,Nat.one_mul];omega
   rw[zA hd];have h5:=h.data x a0;rw[Nat.add_mul,Nat.one_mul];have:p+2*x.data.size+40<=p+13*(f+1)+552:=by omega
   omega
end
end
def aY (s:ByteArray):Nat->Nat->Nat->List ByteArray->Int × List ByteArray
 |0,_,_,acc=>(0,acc)
 | n+1,fr,i,acc=>if h:i<s.size then
  (if(s[i]'h).toNat=47 then
   (if bI (s.extract fr i)=801 then(1101,[])else if bI (s.extract fr i)=800 then(1100,[])else aY s n (i+1) (i+1) (acc++[s.extract fr i]))
  else aY s n fr (i+1) acc)
   else(if bI (s.extract fr i)=801 then(1101,[])else if bI (s.extract fr i)=800 then(1100,[])else aY s n (i+1) (i+1) (acc++[s.extract fr i]))
def bU (s:ByteArray):Int × List ByteArray:=
 if 64<s.size then(1101,[])else
 if h:0<s.size then
  (if(s[0]'h).toNat=47 then(if s.size=1 then(0,[])else
   (if (aY s s.size 1 1 []).1≠0 then((aY s s.size 1 1 []).1,[])else if 4<(aY s s.size 1 1 []).2.length then(1102,[])else(0,(aY s s.size 1 1 []).2)))
  else(1100,[]))
 else(1100,[])
def ParsedR (w:World) (F:Int × List ByteArray) (e:Ending) (w':World):Prop:=∃v,e=.returned (.tuple #[v,F.1])/\Bl w w'/\OwnP w.heap.size w' 9 1 v (F.2.map λn=>[.string n])
theorem ParsedR.nil {w w':World} {c:Int} (hb:Bl w w'):ParsedR w (c,[]) (.returned (.tuple #[.slice none 0 0,c])) w':=⟨_,rfl,hb,.inl ⟨rfl,rfl⟩⟩
theorem xP {s:ByteArray} (h1:0<s.size) (h47:(s[0]'h1).toNat=47):(s.toList==[47])=decide (s.size=1):=by
 rw[zW];rcases s with⟨⟨l⟩⟩
 rcases l with _|⟨a,l⟩
 .exact absurd h1 (by decide)
 have ha:a=47:=by rw[<-UInt8.toNat_inj];exact h47
 subst ha;rcases l with _|⟨b,l⟩
 .rfl
 show((47::b::l)==[47])=decide ((47::b::l).length=1);simp
theorem tV (s:ByteArray) (w:World):Calls prog 82 #[s] w (ParsedR w (bU s)):=by
 unfold bU;by_cases h64:64<s.size
 .rw[zB h64];have b3:(64:Int)<s.size:=by omega
  go_in;go_wp2
  go_ret2;exact(ParsedR.nil (bel _ _))
 rw[zA h64];have b3:¬(64:Int)<s.size:=by omega
 by_cases h0:0<s.size;rotate_left
 .rw[dif_neg h0];have b4:s.toList.isEmpty=true:=by
   rw[zW];rcases s with⟨⟨l⟩⟩
   rcases l with _|⟨a,l⟩
   .rfl
   exact absurd (show 0<(a::l).length by simp) h0
  go_in;go_wp2
  go_ret2;exact(ParsedR.nil (bel _ _))
 rw[dif_pos h0];have b4:s.toList.isEmpty=false:=by
  rw[zW];rcases s with⟨⟨l⟩⟩
  rcases l with _|⟨a,l⟩
  .exact absurd h0 (by decide)
  rfl
 by_cases h47:(s[0]'h0).toNat=47;rotate_left
 .rw[zA h47];have hI:¬(((s[0]'h0).toNat:Int)=47):=by omega
  go_in;go_wp2
  go_ret2;exact(ParsedR.nil (bel _ _))
 rw[zB h47];have h1:=xP h0 h47;by_cases hs1:s.size=1
 .rw[zB hs1];rw[decide_eq_true hs1]at h1
  go_in;go_wp2
  go_ret2;exact(ParsedR.nil (bel _ _))
 rw[zA hs1];rw[yM hs1]at h1;obtain⟨G,hG⟩:∃G,aY s s.size 1 1 []=G:=⟨_,rfl⟩;rw[hG];obtain⟨V,hV⟩:∃V:Int × List ByteArray,(if G.1≠0 then(G.1,[])else if 4<G.2.length then(1102,[])else(0,G.2))=V:=⟨_,rfl⟩;rw[hV];have HV:=aC hV;have HG:=aC hG;clear hG hV;go_in;go_wp2
 go_loopw[4,5,6] (λv4 v5 v6 wr=>∃(fr i:Nat) (acc:List ByteArray),v5=.int .i64 fr/\v6=.int .i64 i/\1<=fr/\fr<=i/\i<=s.size+1/\acc.length<=i/\aY s (s.size+1-i) fr i acc=G/\Bl w wr/\OwnP w.heap.size wr 9 1 v4 (acc.map λn=>[Value.string n])) (λ_ _ i _=>(s.size+1-intOf i).toNat)
 case atStart=>exact⟨1,1,[],rfl,rfl,by omega,by omega,by omega,by simp,by rw[Nat.add_sub_cancel];exact HG.out,bel _ _,.inl ⟨rfl,rfl⟩⟩
 obtain⟨fr,i,acc,rfl,rfl,hfr,hfi,his,hal,hgo,hb,hO⟩:=hrel;have iB:Bel w wr:=⟨hb⟩;have c0:IntKind.i64.wrap ((i:Int)+1)=(i:Int)+1:=I64.wrap ⟨by omega,by omega⟩;have c1:=hO.one;by_cases hle:i<=s.size
 .have a7:(i:Int)<=s.size:=by omega
  obtain⟨n,hn⟩:∃n,s.size+1-i=n+1:=⟨s.size-i,by omega⟩;have a8:s.size+1-(i+1)=n:=by omega
  rw[hn]at hgo;unfold aY at hgo;have a2:=λww=>aLV (s.extract fr i) ww;have b5:(fr:Int)<=i:=by omega
  have b6:(0:Int)<=fr:=by omega
  by_cases hlt:i<s.size
  .have a9:(i:Int)<s.size:=by omega
   rw[dif_pos hlt]at hgo;by_cases hc:(s[i]'hlt).toNat=47
   .rw[zB hc]at hgo;have b7:((s[i]'hlt).toNat:Int)=47:=by omega
    have HO:=aC hO;clear hO;generalize hck:bI (s.extract fr i)=ck at a2 hgo;by_cases e1:ck=801
    .subst e1;rw[zB rfl]at hgo;have a0:=HV.out;rw[<-hgo]at a0;have a1:(1101,[])=V:=by simpa using a0
     subst a1;clear a0 hgo hck;go_wp2_with(first|(go_at_call 90;with_reducible refine aE (a2 _) λp=>?_))
     go_ret2;exact(ParsedR.nil (bel _ _))
    rw[zA e1]at hgo;by_cases e2:ck=800
    .subst e2;rw[zB rfl]at hgo;have a0:=HV.out;rw[<-hgo]at a0;have a1:(1100,[])=V:=by simpa using a0
     subst a1;clear a0 hgo hck;go_wp2_with(first|(go_at_call 90;with_reducible refine aE (a2 _) λp=>?_))
     go_ret2;exact(ParsedR.nil (bel _ _))
    rw[zA e2]at hgo;have b1:(ck==801)=false:=by simpa using e1
    have b2:(ck==800)=false:=by simpa using e2
    have b0:=aC hgo;clear hgo hck;go_wp2_with(first|(go_at_call 90;with_reducible refine aE (a2 _) λp=>?_)|(at_builtin;refine aYG rfl (.tmp 44) (.tmp 49) rfl w.heap.size _ _ acc [s.extract fr i] rfl (by go_simp) (HO.out.below (bel wr _)) (RowAt.single (Blk.new_i _ _ _ _) 1 1) (by simp;omega) (bel w _).size ?_));intro v' w' hg;have a3:=hg.on (HO.out.below (bel wr _)) (bel w _).size;have H2:=bG hg.1 ((bel w _).trans a3);have a5:=hg.1.one;clear hg a3;go_wp2;go_roundw
    case rel=>exact⟨i+1,i+1,acc++[s.extract fr i],by go_num,by go_num,by omega,by omega,by omega,by simp;omega,by rw[a8];exact b0.out,H2.out.2.trans ((bel w' _).mono H2.out.2.size),by rw[yS];exact H2.out.1⟩
    simp[intOf];omega
   rw[zA hc]at hgo;have b7:¬((s[i]'hlt).toNat:Int)=47:=by omega
   have HO:=bG hO hgo;clear hO hgo;go_wp2;go_roundw
   case rel=>exact⟨fr,i+1,acc,rfl,by go_num,by omega,by omega,by omega,by omega,by rw[a8];exact HO.out.2,bel _ _,HO.out.1.below (bel wr _)⟩
   simp[intOf];omega
  have a9:¬(i:Int)<s.size:=by omega
  rw[dif_neg hlt]at hgo;have HO:=aC hO;clear hO;generalize hck:bI (s.extract fr i)=ck at a2 hgo;by_cases e1:ck=801
  .subst e1;rw[zB rfl]at hgo;have a0:=HV.out;rw[<-hgo]at a0;have a1:(1101,[])=V:=by simpa using a0
   subst a1;clear a0 hgo hck;go_wp2_with(first|(go_at_call 90;with_reducible refine aE (a2 _) λp=>?_))
   go_ret2;exact(ParsedR.nil (bel _ _))
  rw[zA e1]at hgo;by_cases e2:ck=800
  .subst e2;rw[zB rfl]at hgo;have a0:=HV.out;rw[<-hgo]at a0;have a1:(1100,[])=V:=by simpa using a0
   subst a1;clear a0 hgo hck;go_wp2_with(first|(go_at_call 90;with_reducible refine aE (a2 _) λp=>?_))
   go_ret2;exact(ParsedR.nil (bel _ _))
  rw[zA e2]at hgo;have b1:(ck==801)=false:=by simpa using e1
  have b2:(ck==800)=false:=by simpa using e2
  have b0:=aC hgo;clear hgo hck;go_wp2_with(first|(go_at_call 90;with_reducible refine aE (a2 _) λp=>?_)|(at_builtin;refine aYG rfl (.tmp 44) (.tmp 49) rfl w.heap.size _ _ acc [s.extract fr i] rfl (by go_simp) (HO.out.below (bel wr _)) (RowAt.single (Blk.new_i _ _ _ _) 1 1) (by simp;omega) (bel w _).size ?_));intro v' w' hg;have a3:=hg.on (HO.out.below (bel wr _)) (bel w _).size;have H2:=bG hg.1 ((bel w _).trans a3);have a5:=hg.1.one;clear hg a3;go_wp2;go_roundw
  case rel=>exact⟨i+1,i+1,acc++[s.extract fr i],by go_num,by go_num,by omega,by omega,by omega,by simp;omega,by rw[a8];exact b0.out,H2.out.2.trans ((bel w' _).mono H2.out.2.size),by rw[yS];exact H2.out.1⟩
  simp[intOf];omega
 have a7:¬(i:Int)<=s.size:=by omega
 have b8:i=s.size+1:=by omega
 have a6:(0,acc)=G:=by rw[<-hgo,b8,Nat.sub_self];rfl
 have a0:=HV.out;rw[<-a6]at a0;simp only[ne_eq,not_true,if_false]at a0;have a1:(if 4<acc.length then(1102,[])else(0,acc))=V:=a0;have HO:=aC hO;obtain⟨a4,c4,rfl⟩:=hO.formL;rw[lM]at *;clear hO hgo a6 a0;by_cases h4:4<acc.length
 .rw[zB h4]at a1;subst a1;have b9:(4:Int)<acc.length:=by omega
  go_wp2
  go_ret2;exact(ParsedR.nil (bel _ _))
 rw[zA h4]at a1;subst a1;have b9:¬(4:Int)<acc.length:=by omega
 go_wp2
 go_ret2;exact⟨_,rfl,bel _ _,HO.out.below (bel wr _)⟩
section
structure FineR (S:PSt):Prop where
 wf:S.wf
 root:0<=bM S 1
 found:∀x∈S.ins,∀e∈x.ents,0<=bM S e.num
theorem aGT (n:ByteArray):∀es:List PEnt,rF n es=0\/∃e∈es,rF n es=e.num
 |[]=>.inl rfl
 | e ::es=>by
   unfold rF;split
   .exact .inr ⟨e,zQ,rfl⟩
   rcases aGT n es with h|⟨e',h1,h2⟩
   .exact .inl h
   exact .inr ⟨e',zL _ h1,h2⟩
variable {S:PSt} {n:ByteArray}
theorem FineR.next (h:FineR S) {at_:Int} (hn:aW S at_ n≠0):0<=bM S (aW S at_ n):=by
 unfold aW at hn |-;split at hn
 .exact absurd rfl hn
 rename_i h0;rw[zA h0];split at hn
 .rename_i x hx
  rcases aGT n x.ents with e|⟨e,he,hq⟩
  .exact absurd e hn
  rw[hq];exact h.found x (mG hx) e he
 exact absurd rfl hn
def aP (S:PSt):List ByteArray->Int->List Int->Int × Int × List Int
 |[],at_,th=>(at_,0,th)
 | n::r,at_,th=>match S.ins[(bM S at_).toNat]? with
   |none=>(0,7,th)
   |some x=>if x.dir=true then(if aW S at_ n=0 then(0,1,th++[at_])else aP S r (aW S at_ n) (th++[at_]))else(0,7,th)
theorem xV (S:PSt) (iv ov mv v:Value) (ns:List ByteArray) (w:World) (h:StRead w iv ov mv S) (hf:FineR S) (hv:RowAt w 1 v (ns.map λn=>[.string n])) (hl:ns.length<=1000000000):
 Calls prog 83 #[.agg #[iv,ov,mv],v] w λe w'=>∃tv,e=.returned (.tuple #[.int .i64 (aP S ns 1 []).1,.int .i64 (aP S ns 1 []).2.1,tv])/\Bl w w'/\OwnP w.heap.size w' 3 1 tv ((aP S ns 1 []).2.2.map aL):=by
 have a1:∀(n:Int) ww,Bl w ww->Calls prog 85 #[.agg #[iv,ov,mv],n] ww _:=λn ww hb=>aAS S iv ov mv n ww (h.below hb (zC _)) hf.wf.1;have a0:∀(n:Int) (nm:ByteArray) ww,Bl w ww->Calls prog 118 #[.agg #[iv,ov,mv],n,nm] ww _:=λn nm ww hb=>hY S iv ov mv n nm ww (h.below hb (zC _)) hf.wf;obtain⟨ai,ni,ci,ao,no,co,am,nm',cm,rfl,rfl,rfl⟩:=h.slices;obtain⟨a,cap',e1,hai⟩:=h.ins_at2;cases e1;obtain⟨aN,cN,rfl,hatN⟩:=hv.at_;rw[lM];generalize hR:aP S ns 1 []=R;have HF:=aC hf;have HI:=aC hai;have HN:=aC hatN;have HR:=aC hR;have a3:=aC a1;have a4:=aC a0;clear h hai hatN hR hf hv a1 a0;go_in;go_wp2
 go_loopw[7,8,9] (λv7 v8 v9 wr=>∃(q:Nat) (at_:Int) (th:List Int),v7=.int .i64 at_/\v9=.int .i64 q/\q<=ns.length/\th.length=q/\0<=bM S at_/\aP S (ns.drop q) at_ th=R/\Bl w wr/\Blk wr w.heap.size #[.slice ai S.ins.length ci,.slice ao no co,.slice am nm' cm] 26/\OwnP (w.heap.size+1) wr 3 1 v8 (th.map aL)) (λ_ _ i _=>(ns.length-intOf i).toNat)
 case atStart=>exact⟨0,1,[],rfl,rfl,by omega,rfl,HF.out.root,HR.out,bel _ _,Blk.new w _ 26,.inl ⟨rfl,rfl⟩⟩
 obtain⟨q,at_,th,rfl,rfl,hq,hth,hat,hrel',hb,hbk,hO⟩:=hrel;have iB:Bel w wr:=⟨hb⟩;have b7:=hO.one;by_cases hlt:q<ns.length
 .have a5:(q:Int)<ns.length:=by omega
  obtain⟨nm,hnm⟩:∃nm,ns[q]? =some nm:=⟨_,gE hlt⟩;rw[cO hnm]at hrel';obtain⟨k,hk⟩:∃k:Nat,bM S at_=k:=⟨(bM S at_).toNat,by omega⟩;have b2:k<S.ins.length:=by
   rcases fC S at_ with h|h<;>omega
  have b3:(k:Int)<S.ins.length:=by omega
  obtain⟨x,hx⟩:∃x,S.ins[k]? =some x:=⟨_,gE b2⟩;unfold aP at hrel';rw[hk,zJ,hx]at hrel';simp only at hrel';have a1:vB w 85 #[.agg #[.slice ai S.ins.length ci,.slice ao no co,.slice am nm' cm],.int .i64 at_] (.int .i64 k):=λww hb=>by have:=a3.out at_ ww hb;rw[hk]at this;exact this
  have a0:=λww hb=>a4.out at_ nm ww hb;obtain⟨bi,oi,ev,rfl,iI0,hoi,her,hci⟩:=HI.out k x hx;obtain⟨iI,x0,x1,x2,x3⟩:=hci wr hb;obtain⟨bN,oN,rfl,-,iN,hcN⟩:=HN.out wr hb q [.string nm] (by rw[gM,hnm];rfl);have c0:=hcN 0 _ rfl;rw[zN,Nat.mul_one]at c0;obtain⟨iL,s0,s1,s2⟩:=gN hbk;have HB:=bG hbk hO;clear hbk hO hci hcN her x0 x2 x3;rcases hd:x.dir with _|_
  .rw[hd]at x1 hrel';simp only[zP,if_false]at hrel';subst hrel';clear hx hd;go_wp2_with(first|(go_at_call 85;with_reducible refine aE (a1 _ (bel _ _)) λp=>?_))
   go_ret3;exact⟨_,rfl,bel _ _,(HB.out.2.below (bel wr _)).mono (Nat.le_succ _)⟩
  rw[hd]at x1 hrel';simp only[if_true]at hrel';have a6:=aC hrel';have a9:=aC (λh=>HF.out.next (at_:=at_) (n:=nm) h);clear hx hd hrel';generalize aW S at_ nm=num at a0 a6 a9;go_wp2_with(first|(go_at_call 85;with_reducible refine aE (a1 _ (bel _ _)) λp=>?_)|(at_builtin;refine aVZ rfl (.tmp 28) (.tmp 30) rfl (w.heap.size+1) _ _ th [at_] rfl (by go_simp) (HB.out.2.below (bel wr _)) (RowAt.single (Blk.new_i _ _ _ _) 1 1) (by simp;omega) (zD HB.out.1.lt.lt (bel wr _).size) ?_));intro v' w' hg;have b4:w.heap.size+1<=wr.heap.size:=HB.out.1.lt.lt;have b0:=hg.on (HB.out.2.below (bel wr _)) (zD b4 (bel wr _).size);have a7:Bl w w':=(bel w _).trans (b0.mono (Nat.le_succ _));have a8:Blk w' w.heap.size #[.slice (some ⟨bi,oi,none⟩) S.ins.length ci,.slice ao no co,.slice am nm' cm] 26:=hg.2.1.blk (by first|exact HB.out.1.alloc _|exact(HB.out.1.junk _).alloc _) (λh=>by have:=HB.out.2.ge h;omega);have i2:Bel w w':=⟨a7⟩;obtain⟨iL2,t0,t1,t2⟩:=gN a8;have b1:=hg.1.one;obtain⟨bN',oN',hfN,-,iN2,hcN2⟩:=HN.out w' a7 q [.string nm] (by rw[gM,hnm];rfl);cases hfN;have c2:=hcN2 0 _ rfl;rw[zN,Nat.mul_one]at c2;have a2:=hg.1;have a2:OwnP (w.heap.size+1) w' 3 1 v' ((th++[at_]).map aL):=by rw[yS];exact a2
  have H2:=bG a8 a2;clear hg b0 a7 a8 s0 s1 s2 x1 c0 iI iN iL hcN2 a2;go_upto_region 10 with fail;refine qR ?_
  repeat(go_big_quiet_step ((with_reducible first|refine cI (a0 _ (bel _ _))|refine cJ (a0 _ (bel _ _)))))
  refine QN λp=>?_;by_cases hn0:num=0
  .have hr:=a6.out;rw[zB hn0]at hr;subst hr;have b5:(num==0)=true:=by simpa using hn0
   go_wp2
   go_ret3;exact⟨_,rfl,bel _ _,by have:=(H2.out.2.below (bel w' (w'.junk p))).mono (Nat.le_succ _);rw[yS]at this;exact this⟩
  have hr:=a6.out;rw[zA hn0]at hr;have b5:(num==0)=false:=by simpa using hn0
  have b6:=aC hr;clear hr;go_wp2;go_roundw
  case rel=>exact⟨q+1,num,th++[at_],rfl,by go_num,by omega,by simp;omega,a9.out hn0,b6.out,bel _ _,H2.out.1.below (bel w' _) (by first|exact iL2.lt|omega),H2.out.2.below (bel w' _)⟩
  simp[intOf];omega
 have a5:¬(q:Int)<ns.length:=by omega
 rw[zS (by omega)]at hrel';have hr:(at_,0,th)=R:=hrel';subst hr;have HO:=aC hO;clear hO hrel' hbk;go_wp2
 go_ret3;exact⟨_,rfl,bel _ _,(HO.out.below (bel wr _)).mono (Nat.le_succ _)⟩
theorem aGU (c:Int) (w:World):vR w 84 #[.int .i64 c] (.int .i64 (qL c)):=aWF c w
def eX (S:PSt) (p:ByteArray):Int × Int:=if(bU p).1≠0 then(0,qL (bU p).1)else((aP S (bU p).2 1 []).1,(aP S (bU p).2 1 []).2.1)
theorem kU (s:ByteArray):(bU s).2.length<=4:=by
 unfold bU;split
 .simp
 split
 .split
  .split
   .simp
   split
   .simp
   split
   .simp
   rename_i h;show(aY s s.size 1 1 []).2.length<=4;omega
  simp
 simp
theorem aWH (S:PSt) (iv ov mv:Value) (p:ByteArray) (w:World) (h:StRead w iv ov mv S) (hf:FineR S):
 vR w 46 #[.agg #[iv,ov,mv],.string p] (.tuple #[.int .i64 (eX S p).1,.int .i64 (eX S p).2]):=by
 have a1:∀ww,Calls prog 82 #[p] ww _:=λww=>tV p ww;have a2:=kU p;have a0:∀v ww,Bl w ww->RowAt ww 1 v ((bU p).2.map λn=>[.string n])->Calls prog 83 #[.agg #[iv,ov,mv],v] ww _:=λv ww hb hv=>xV S iv ov mv v (bU p).2 ww (h.below hb (zC _)) hf hv (by omega);obtain⟨ai,ni,ci,ao,no,co,am,nm',cm,rfl,rfl,rfl⟩:=h.slices;unfold eX;generalize bU p=F at a1 a0 a2 |-;obtain⟨c,ns⟩:=F;simp only at a1 a0 a2 |-;clear h;by_cases hc:c=0
 .subst hc;rw[zA (by simp)];simp only;generalize aP S ns 1 []=W at a0 |-;have H3:=aC a0;clear a0
  unfold vR;go_in;go_wp2_with(first|(go_at_call 82;refine(a1 _).mono ?_;rintro e w1 ⟨v,rfl,hb1,hO1⟩;have a5:=hO1.one;have iB:Bel w w1:=⟨(bel w _).trans (hb1.mono (bel w _).size)⟩;have a3:=hb1;have H1:=bG hO1 hb1;have q0:w1.cell? w.heap.size=some (.slice ai ni ci):=(a3.cell (by simp)).trans (by go_simp);have q1:w1.cell? ⟨w.heap.size,1,none⟩=some (.slice ao no co):=(a3.cell (by simp)).trans (by go_simp);have q2:w1.cell? ⟨w.heap.size,2,none⟩=some (.slice am nm' cm):=(a3.cell (by simp)).trans (by go_simp);have iL:BlockLt w.heap.size w1:=⟨by have:=a3.size;simp at this;omega⟩;clear hO1 hb1 a3)|(go_at_call 83;refine(H3.out _ _ (bel _ _) (H1.out.1.row.below (bel w1 _) (zC _))).mono ?_;rintro e w2 ⟨tv,rfl,hb2,hO2⟩;have a6:=hO2.one;obtain⟨p2,rfl⟩:=hb2.rest;clear hb2 hO2))
  go_ret2;exact⟨rfl,bel _ _⟩
 rw[zB hc];simp only;have a7:(c !=0)=true:=by simpa using hc
 have a4:=λww=>aGU c ww;generalize qL c=C at a4 |-;clear a0;unfold vR;go_in;go_wp2_with(first|(go_at_call 82;refine(a1 _).mono ?_;rintro e w1 ⟨v,rfl,hb1,hO1⟩;have a5:=hO1.one;have iB:Bel w w1:=⟨(bel w _).trans (hb1.mono (bel w _).size)⟩;clear hO1 hb1)|(go_at_call 84;refine aE (a4 _) λp=>?_))
 go_ret2;exact⟨rfl,bel _ _⟩
theorem c46 {iv ov mv:Value} {w:World} {p:ByteArray} {n C:Int} (h:StRead w iv ov mv S) (hf:FineR S) (he:eX S p=(n,C)):vB w 46 #[.agg #[iv,ov,mv],.string p] (.tuple #[n,C]):=λww hb=>by have:=aWH S iv ov mv p ww (h.below hb (zC _)) hf;rw[he]at this;exact this
end
section
def bL (S:PSt) (p:ByteArray):Int × ByteArray × Int:=
 if (bU p).1≠0 then(0,⟨#[]⟩,qL (bU p).1)else match(bU p).2.getLast? with
  |none=>(0,⟨#[]⟩,9)
  | some l=>if(aP S (bU p).2.dropLast 1 []).2.1≠0 then(0,⟨#[]⟩,(aP S (bU p).2.dropLast 1 []).2.1)else match S.ins[(bM S (aP S (bU p).2.dropLast 1 []).1).toNat]? with
    |some x=>if x.dir=true then((aP S (bU p).2.dropLast 1 []).1,l,0)else(0,⟨#[]⟩,7)
    |none=>(0,⟨#[]⟩,7)
variable {S:PSt}
theorem uS (hf:FineR S):∀(ns:List ByteArray) (at_:Int) (th:List Int),0<=bM S at_->(aP S ns at_ th).2.1=0->0<=bM S (aP S ns at_ th).1
 |[],at_,th,h0,_=>h0
 | n ::r,at_,th,h0,h=>by
   unfold aP at h |-;split at h
   .simp at h
   split at h
   .rename_i hd
    rw[zB hd];split at h
    .simp at h
    rename_i hn;rw[zA hn];exact uS hf r _ _ (hf.next hn) h
   simp at h
theorem aPC (S:PSt) (iv ov mv:Value) (p:ByteArray) (w:World) (h:StRead w iv ov mv S) (hf:FineR S):
 vR w 45 #[.agg #[iv,ov,mv],.string p] (.tuple #[.int .i64 (bL S p).1,.string (bL S p).2.1,.int .i64 (bL S p).2.2]):=by
 have a3:∀ww,Calls prog 82 #[p] ww _:=λww=>tV p ww;have a5:=kU p;have b3:∀v ww (ns:List ByteArray),ns.length<=4->Bl w ww->RowAt ww 1 v (ns.map λn=>[.string n])->Calls prog 83 #[.agg #[iv,ov,mv],v] ww _:=λv ww ns hl hb hv=>xV S iv ov mv v ns ww (h.below hb (zC _)) hf hv (by omega);unfold bL;generalize bU p=F at a3 a5 |-;obtain⟨c,ns⟩:=F;simp only at a3 a5 |-;by_cases hc:c=0;rotate_left
 .rw[zB hc];obtain⟨ai,ni,ci,ao,no,co,am,nm',cm,rfl,rfl,rfl⟩:=h.slices;have c1:(c !=0)=true:=by simpa using hc
  have a8:=λww=>aGU c ww;simp only;generalize qL c=C at a8 |-;clear b3 h;unfold vR;go_in;go_wp2_with(first|(go_at_call 82;refine(a3 _).mono ?_;rintro e w1 ⟨v,rfl,hb1,hO1⟩;have a7:=hO1.one;have iB:Bel w w1:=⟨(bel w _).trans (hb1.mono (bel w _).size)⟩;clear hO1 hb1)|(go_at_call 84;refine aE (a8 _) λp=>?_))
  go_ret3;exact⟨rfl,bel _ _⟩
 subst hc;rw[zA (by simp)];rcases hgl:ns.getLast? with _|l
 .have c2:ns=[]:=getLast?_eq_none_iff.1 hgl;subst c2;obtain⟨ai,ni,ci,ao,no,co,am,nm',cm,rfl,rfl,rfl⟩:=h.slices;simp only;clear b3 h hgl
  unfold vR;go_in;go_wp2_with(go_at_call 82;refine(a3 _).mono ?_;rintro e w1 ⟨v,rfl,hb1,hO1⟩;obtain⟨a,cap,rfl,-⟩:=hO1.cap;have iB:Bel w w1:=⟨(bel w _).trans (hb1.mono (bel w _).size)⟩;clear hO1 hb1)
  go_ret3;exact⟨rfl,bel _ _⟩
 have b5:ns≠[]:=λe=>by rw[e]at hgl;simp at hgl
 have c3:0<ns.length:=length_pos_iff.2 b5;have a9:ns[ns.length-1]? =some l:=by rw[<-hgl,getLast?_eq_getElem?]
 have a1:=uS hf ns.dropLast 1 [] hf.root;have a6:∀v ww,Bl w ww->RowAt ww 1 v (ns.dropLast.map λn=>[.string n])->Calls prog 83 #[.agg #[iv,ov,mv],v] ww _:=λv ww hb hv=>b3 v ww ns.dropLast (by rw[length_dropLast];omega) hb hv;simp only;generalize aP S ns.dropLast 1 []=W at a6 a1 |-;obtain⟨num,C,th⟩:=W;simp only at a6 a1 |-;obtain⟨m,hm⟩:∃m,ns.length=m+1:=⟨ns.length-1,by omega⟩;have b6:ns.dropLast=ns.take m:=by rw[dropLast_eq_take,hm];rfl
 rw[hm]at a9;replace a9:ns[m]? =some l:=a9;obtain⟨L,hLn⟩:∃L,ns.length=L:=⟨_,rfl⟩;obtain⟨ai,ni,ci,ao,no,co,am,nm',cm,rfl,rfl,rfl⟩:=h.slices;obtain⟨ai,ci,e1,hai⟩:=h.ins_at2;cases e1;have b0:∀ww,Bl w ww->Calls prog 85 #[.agg #[.slice ai S.ins.length ci,.slice ao no co,.slice am nm' cm],num] ww _:=λww hb=>aAS S _ _ _ num ww (h.below hb (zC _)) hf.wf.1;have hw:∀ww a cap,Bl w ww->RowAt ww 1 (.slice a L cap) (ns.map λn=>[.string n])->Calls prog 83 #[.agg #[.slice ai S.ins.length ci,.slice ao no co,.slice am nm' cm],.slice a m cap] ww λe w'=>∃tv,e=.returned (.tuple #[num,C,tv])/\tv.oneCell'=true/\Bl ww w':=λww a cap hb hv=>(a6 _ ww hb (by rw[b6,map_take];subst hLn;exact hv.take m (by rw[lM];omega))).mono λe w' ⟨tv,he,hb',ho⟩=>⟨tv,he,ho.one,hb'⟩;have b7:=fC S num;have HP:=lE a3 hw hai a9;have HM:=eK hm a5 hLn;clear a3 hw b3 a6 hai a9 h hgl b6 a5 hf b5 c3;have c4:((L:Int)==0)=false:=by simp;omega
 have c5:¬((L:Int)=0):=by omega
 have c6:(L:Int)-1=m:=by omega
 clear hm hLn;by_cases hC:C=0
 .subst hC;rw[zA (by simp)];have hK:=a1 rfl;clear a1;generalize bM S num=A at b0 hK b7 |-;obtain⟨K,rfl⟩:∃K:Nat,A=K:=⟨A.toNat,by omega⟩
  have c7:(K:Int)<S.ins.length:=by omega
  obtain⟨x,hx⟩:∃x,S.ins[K]? =some x:=⟨_,gE (by omega)⟩;obtain⟨bi,oi,ev,rfl,iI0,hoi,her,hci⟩:=HP.out.2.2.1 K x hx;have e0:((K:Int)).toNat=K:=by omega
  rw[e0,hx];simp only;have b4:∀wr,Bl w wr->wr.cell? ⟨bi,oi+K*4+1,none⟩=some (.bool x.dir):=λwr hb=>(hci wr hb).2.2.1;generalize x.dir=dd at b4 hci |-;have b1:=aC b4;have b8:=aC hci;clear b4 hci her hx iI0 e0 b7 hK;rcases dd with _|_
  .simp only[zP,if_false]
   unfold vR;go_in;go_upto_region 6 with(go_at_call 82;refine(HP.out.1 _).mono ?_;rintro e w1 ⟨v,rfl,hb1,ho1⟩;have a2:=ho1.row;obtain⟨gn,cap,hv,hc1,hc2⟩:=ho1.some_ (by rw[lM];show 0<ns.length;have:=HM.out;omega);rw[lM]at hv hc1;rw[show List.length ((0:Int),ns).2=L from HM.out.2.2]at hv hc1;subst hv;have a0:=a2.at_;have a4:Bel w w1:=⟨(bel w _).trans (hb1.mono (bel w _).size)⟩;have b2:∀ww,Bl w1 ww->Calls prog 83 #[.agg #[.slice (some ⟨bi,oi,none⟩) S.ins.length ci,.slice ao no co,.slice am nm' cm],.slice gn m cap] ww _:=λww hb=>HP.out.2.1 ww _ cap (a4.below.trans (hb.mono a4.below.size)) (a2.below hb (zC _));have q0:w1.cell? w.heap.size=some (.slice (some ⟨bi,oi,none⟩) S.ins.length ci):=(hb1.cell (by simp)).trans (by go_simp);have q1:w1.cell? ⟨w.heap.size,1,none⟩=some (.slice ao no co):=(hb1.cell (by simp)).trans (by go_simp);have q2:w1.cell? ⟨w.heap.size,2,none⟩=some (.slice am nm' cm):=(hb1.cell (by simp)).trans (by go_simp);have iL:BlockLt w.heap.size w1:=⟨by have:=hb1.size;simp at this;omega⟩;have b9:IntKind.i64.wrap (m:Int)=m:=I64.wrap ⟨by omega,by have:=HM.out;omega⟩;have c0:m<=cap:=(by have:=HM.out;omega);have H1:=eK a4.below a2 a0;clear hb1 a2 a0 ho1)
   refine aH [6] true (λw'=>w'.cell? w.heap.size=some (.slice (some ⟨bi,oi,none⟩) S.ins.length ci)/\w'.cell? ⟨w.heap.size,1,none⟩=some (.slice ao no co)/\w'.cell? ⟨w.heap.size,2,none⟩=some (.slice am nm' cm)) (by kernel_rfl) (by kernel_rfl) ?_ ?_
   · (try dsimp only);(repeat' apply And.intro)<;>go_simp
   repeat
    apply aI0 rfl rfl
    focus
     rintro w' ⟨s0,s1,s2⟩;go_simp
     first|done|rfl
    simp only[Act.put,sA,sZ,sS]
   refine bA rfl rfl ?_;refine aR 83 #[.agg #[.slice (some ⟨bi,oi,none⟩) S.ins.length ci,.slice ao no co,.slice am nm' cm],.slice gn m cap] ?_ ((b2 w1.drew (bel w1 _)).mono ?_)
   focus
    go_simp
    first|done|rfl
   rintro e w2 ⟨tv,rfl,a7,hb2⟩;obtain⟨p2,rfl⟩:=hb2.rest;clear hb2;refine⟨_,rfl,.inl ?_,?_⟩
   · (try dsimp only);(repeat' apply And.intro)<;>go_simp
   simp only[Act.put,sA,sZ,sS]
   repeat
    apply aI0 rfl rfl
    focus
     rintro w' ⟨s0,s1,s2⟩;go_simp
     first|done|rfl
    simp only[Act.put,sA,sZ,sS]
   refine aS ?_;obtain⟨iI1,-,-,-,-⟩:=b8.out w1 H1.out.1;have z1:=b1.out w1 H1.out.1;go_upto_region 9 with fail;refine qR ?_
   repeat(go_big_quiet_step ((with_reducible first|refine cI (b0 _ (bel _ _))|refine cJ (b0 _ (bel _ _)))))
   refine QN λp=>?_;go_wp2
   go_ret3;exact⟨rfl,bel _ _⟩
  simp only[if_true];unfold vR;go_in;go_upto_region 6 with(go_at_call 82;refine(HP.out.1 _).mono ?_;rintro e w1 ⟨v,rfl,hb1,ho1⟩;have a2:=ho1.row;obtain⟨gn,cap,hv,hc1,hc2⟩:=ho1.some_ (by rw[lM];show 0<ns.length;have:=HM.out;omega);rw[lM]at hv hc1;rw[show List.length ((0:Int),ns).2=L from HM.out.2.2]at hv hc1;subst hv;have a0:=a2.at_;have a4:Bel w w1:=⟨(bel w _).trans (hb1.mono (bel w _).size)⟩;have b2:∀ww,Bl w1 ww->Calls prog 83 #[.agg #[.slice (some ⟨bi,oi,none⟩) S.ins.length ci,.slice ao no co,.slice am nm' cm],.slice gn m cap] ww _:=λww hb=>HP.out.2.1 ww _ cap (a4.below.trans (hb.mono a4.below.size)) (a2.below hb (zC _));have q0:w1.cell? w.heap.size=some (.slice (some ⟨bi,oi,none⟩) S.ins.length ci):=(hb1.cell (by simp)).trans (by go_simp);have q1:w1.cell? ⟨w.heap.size,1,none⟩=some (.slice ao no co):=(hb1.cell (by simp)).trans (by go_simp);have q2:w1.cell? ⟨w.heap.size,2,none⟩=some (.slice am nm' cm):=(hb1.cell (by simp)).trans (by go_simp);have iL:BlockLt w.heap.size w1:=⟨by have:=hb1.size;simp at this;omega⟩;have b9:IntKind.i64.wrap (m:Int)=m:=I64.wrap ⟨by omega,by have:=HM.out;omega⟩;have c0:m<=cap:=(by have:=HM.out;omega);have H1:=eK a4.below a2 a0;clear hb1 a2 a0 ho1)
  refine aH [6] true (λw'=>w'.cell? w.heap.size=some (.slice (some ⟨bi,oi,none⟩) S.ins.length ci)/\w'.cell? ⟨w.heap.size,1,none⟩=some (.slice ao no co)/\w'.cell? ⟨w.heap.size,2,none⟩=some (.slice am nm' cm)) (by kernel_rfl) (by kernel_rfl) ?_ ?_
  · (try dsimp only);(repeat' apply And.intro)<;>go_simp
  repeat
   apply aI0 rfl rfl
   focus
    rintro w' ⟨s0,s1,s2⟩;go_simp
    first|done|rfl
   simp only[Act.put,sA,sZ,sS]
  refine bA rfl rfl ?_;refine aR 83 #[.agg #[.slice (some ⟨bi,oi,none⟩) S.ins.length ci,.slice ao no co,.slice am nm' cm],.slice gn m cap] ?_ ((b2 w1.drew (bel w1 _)).mono ?_)
  focus
   go_simp
   first|done|rfl
  rintro e w2 ⟨tv,rfl,a7,hb2⟩;obtain⟨p2,rfl⟩:=hb2.rest;clear hb2;refine⟨_,rfl,.inl ?_,?_⟩
  · (try dsimp only);(repeat' apply And.intro)<;>go_simp
  simp only[Act.put,sA,sZ,sS]
  repeat
   apply aI0 rfl rfl
   focus
    rintro w' ⟨s0,s1,s2⟩;go_simp
    first|done|rfl
   simp only[Act.put,sA,sZ,sS]
  refine aS ?_;obtain⟨iI1,-,-,-,-⟩:=b8.out w1 H1.out.1;have z1:=b1.out w1 H1.out.1;go_upto_region 9 with fail;refine qR ?_
  repeat(go_big_quiet_step ((with_reducible first|refine cI (b0 _ (bel _ _))|refine cJ (b0 _ (bel _ _)))))
  refine QN λp=>?_;obtain⟨a',cap',hv',a0⟩:=H1.out.2.2;obtain⟨bn,offn,he,iN0,iN1,hcn⟩:=a0 w1 (Below.refl _ _) m [.string l] (by rw[gM];show Option.map _ ns[m]? =_;rw[HP.out.2.2.2];rfl);simp only[zO]at hv';obtain⟨rfl,-,rfl⟩:=hv';simp only[zF,yG]at he;obtain⟨rfl,rfl,-⟩:=he;have n0:=hcn 0 _ rfl;rw[Nat.mul_one,zN,zM]at n0;have c8:(m:Int)<L:=by omega
  clear hcn a0;go_upto_region 11 with fail;refine qR ?_
  repeat(go_big_quiet_step (fail))
  refine QN λp=>?_;go_wp2
  go_ret3;exact⟨rfl,bel _ _⟩
 rw[zB hC];have c1:(C !=0)=true:=by simpa using hC
 unfold vR;go_in;go_upto_region 6 with(go_at_call 82;refine(HP.out.1 _).mono ?_;rintro e w1 ⟨v,rfl,hb1,ho1⟩;have a2:=ho1.row;obtain⟨gn,cap,hv,hc1,hc2⟩:=ho1.some_ (by rw[lM];show 0<ns.length;have:=HM.out;omega);rw[lM]at hv hc1;rw[show List.length ((0:Int),ns).2=L from HM.out.2.2]at hv hc1;subst hv;have a0:=a2.at_;have a4:Bel w w1:=⟨(bel w _).trans (hb1.mono (bel w _).size)⟩;have b2:∀ww,Bl w1 ww->Calls prog 83 #[.agg #[.slice ai S.ins.length ci,.slice ao no co,.slice am nm' cm],.slice gn m cap] ww _:=λww hb=>HP.out.2.1 ww _ cap (a4.below.trans (hb.mono a4.below.size)) (a2.below hb (zC _));have q0:w1.cell? w.heap.size=some (.slice ai S.ins.length ci):=(hb1.cell (by simp)).trans (by go_simp);have q1:w1.cell? ⟨w.heap.size,1,none⟩=some (.slice ao no co):=(hb1.cell (by simp)).trans (by go_simp);have q2:w1.cell? ⟨w.heap.size,2,none⟩=some (.slice am nm' cm):=(hb1.cell (by simp)).trans (by go_simp);have iL:BlockLt w.heap.size w1:=⟨by have:=hb1.size;simp at this;omega⟩;have b9:IntKind.i64.wrap (m:Int)=m:=I64.wrap ⟨by omega,by have:=HM.out;omega⟩;have c0:m<=cap:=(by have:=HM.out;omega);have H1:=eK a4.below a2 a0;clear hb1 a2 a0 ho1)
 refine aH [6] true (λw'=>w'.cell? w.heap.size=some (.slice ai S.ins.length ci)/\w'.cell? ⟨w.heap.size,1,none⟩=some (.slice ao no co)/\w'.cell? ⟨w.heap.size,2,none⟩=some (.slice am nm' cm)) (by kernel_rfl) (by kernel_rfl) ?_ ?_
 · (try dsimp only);(repeat' apply And.intro)<;>go_simp
 repeat
  apply aI0 rfl rfl
  focus
   rintro w' ⟨s0,s1,s2⟩;go_simp
   first|done|rfl
  simp only[Act.put,sA,sZ,sS]
 refine bA rfl rfl ?_;refine aR 83 #[.agg #[.slice ai S.ins.length ci,.slice ao no co,.slice am nm' cm],.slice gn m cap] ?_ ((b2 w1.drew (bel w1 _)).mono ?_)
 focus
  go_simp
  first|done|rfl
 rintro e w2 ⟨tv,rfl,a7,hb2⟩;obtain⟨p2,rfl⟩:=hb2.rest;clear hb2;refine⟨_,rfl,.inl ?_,?_⟩
 · (try dsimp only);(repeat' apply And.intro)<;>go_simp
 simp only[Act.put,sA,sZ,sS]
 repeat
  apply aI0 rfl rfl
  focus
   rintro w' ⟨s0,s1,s2⟩;go_simp
   first|done|rfl
  simp only[Act.put,sA,sZ,sS]
 refine aS ?_;go_wp2
 go_ret3;exact⟨rfl,bel _ _⟩
theorem c45 {iv ov mv:Value} {w:World} {p n:ByteArray} {D C:Int} (h:StRead w iv ov mv S) (hf:FineR S) (he:bL S p=(D,n,C)):vB w 45 #[.agg #[iv,ov,mv],.string p] (.tuple #[D,n,C]):=λww hb=>by have:=aPC S iv ov mv p ww (h.below hb (zC _)) hf;rw[he]at this;exact this
end
end Go.Proofs.YtmkapobnfigedaaGreatDoor
