/- Part of the proof of a law of chapter 15. Conditions: none. -/
import Derived.Test.YtmkapobnfigedaaGreatDoorDl20
import Derived.Test.YtmkapobnfigedaaGreatDoorDl19
set_option linter.unusedVariables false
set_option linter.unusedSimpArgs false
set_option maxRecDepth 100000
set_option maxHeartbeats 8000000
namespace Go.Proofs.YtmkapobnfigedaaGreatDoor
open Go.RowKit
def xI (S:PSt) (k:Int):Bool:=match S.ins[k.toNat]? with|some x=>x.dir|none=>false
def aOQ (S:PSt) (d:PDesc):Bool:=decide (d.core<0)||(decide ((S.made.length:Int)<=d.core)||(decide (d.fd<0)||(decide (4<=d.fd)||(decide (bH S d.num<0)||xI S (bH S d.num)))))
def nD (o:Option PDesc) (d:PDesc):Bool:=match o with|some o=>decide (d.core<o.core)||((o.core==d.core)&&decide (d.fd<=o.fd))|none=>false
def nE (S:PSt):Option PDesc->List PDesc->Bool
 |_,[]=>true
 |o,d::r=>if aOQ S d=true then false else if nD o d=true then false else nE S (some d) r
def rX (S:PSt):Bool:=nE S none S.op
def jP (es:List PDesc) (q:Nat):Option PDesc:=if q=0 then none else es[q-1]?
theorem aSZ (S:PSt) (iv ov mv:Value) (w:World) (h:StRead w iv ov mv S) (hwf:S.wf):
 vR w 58 #[.agg #[iv,ov,mv]] (.bool (rX S)):=by
 have a4:∀n ww,Below w.heap.size w ww->vR ww 85 #[.agg #[iv,ov,mv],.int .i64 n] (.int .i64 (bH S n)):=λn ww hb=>vH S iv ov mv n ww (h.below hb (zC _)) hwf.1;obtain⟨ai,ni,ci,ao,no,co,am,nm,cm,rfl,rfl,rfl⟩:=h.slices;obtain⟨a,cap,e1,hat⟩:=h.1.at_;rw[lM]at e1;cases e1;obtain⟨a,cap,e1,hai⟩:=h.ins_at2;cases e1;obtain⟨a,cap,e1,-⟩:=h.2.1.at_;rw[lM]at e1;cases e1;have HA:=aG hat;have HI:=aG hai;have a7:=aG hwf;have a8:=hwf.2.1;have a9:=hwf.2.2.1;clear hat h hai hwf;obtain⟨R,hR⟩:∃R,rX S=R:=⟨_,rfl⟩;rw[hR];unfold rX at hR;have HR:=aG hR;clear hR;go_enter Tryz.func58,Tryz.ntmps58;go_wp2_with fail
 go_loopw[3] (λi wr=>∃(q:Nat),i=.int .i64 q/\q<=S.op.length/\nE S (jP S.op q) (S.op.drop q)=R/\Below w.heap.size w wr/\Blk wr w.heap.size #[.slice ai S.ins.length ci,.slice ao S.op.length co,.slice am S.made.length cm] 26) (λi _=>(S.op.length-intOf i).toNat)
 case atStart=>exact⟨0,rfl,by omega,HR.out,bel _ _,Blk.new w _ 26⟩
 obtain⟨q,rfl,hq,a0,hb,hblk⟩:=hrel;have iB:Bel w wr:=⟨hb⟩;obtain⟨iL,s0,s1,s2⟩:=lV hblk;have HB:=aG hblk;clear hblk;by_cases hlt:q<S.op.length
 .obtain ⟨z,hz⟩:∃z,S.op[q]? =some z:=⟨_,gE hlt⟩
  obtain⟨b,off,rfl,iG0,iG,hc⟩:=HA.out wr hb q z.cells (by rw[gM,hz];rfl);have c0:=hc 0 _ rfl;have c1:=hc 1 _ rfl;have c2:=hc 2 _ rfl;rw[zN]at c0;rw[bY hz,nE]at a0;have a2:(q=0/\jP S.op q=none)\/∃(k:Nat) (y:PDesc),q=k+1/\S.op[k]? =some y/\jP S.op q=some y/\wr.cell? ⟨b,off+k*3,none⟩=some (.int .i64 y.core)/\wr.cell? ⟨b,off+k*3+1,none⟩=some (.int .i64 y.fd)/\wr.cell? ⟨b,off+k*3+2,none⟩=some (.int .i64 y.num):=by
   by_cases hq0:q=0
   .exact .inl ⟨hq0,by simp[jP,hq0]⟩
   obtain⟨k,rfl⟩:∃k,q=k+1:=⟨q-1,by omega⟩;obtain⟨y,hy⟩:∃y,S.op[k]? =some y:=⟨_,gE (by omega)⟩;obtain⟨b2,off2,he2,_,_,hc2⟩:=HA.out wr hb k y.cells (by rw[gM,hy];rfl);cases he2;exact .inr ⟨k,y,rfl,hy,by simp[jP,hy],hc2 0 _ rfl,hc2 1 _ rfl,hc2 2 _ rfl⟩
  have a3:jP S.op (q+1)=some z:=by simp[jP,hz]
  have HN:=bB a3 a2;have hA:=λww hb=>a4 z.num ww hb;have a5:=fC S z.num;clear hc a3 a2 a4;unfold aOQ at a0;generalize bH S z.num=K at a0 hA a5;have a1:=aG a0;clear a0 hz;by_cases k1:z.core<0
  .obtain rfl:R=false:=by have:=a1.out;simpa[k1]using this.symm
   clear HN;go_wp2_with(go_at_call 85;refine aE (hA _ (bel _ _)) λpj=>?_);go_ret;exact⟨rfl,bel _ _⟩
  by_cases k2:(S.made.length:Int)<=z.core
  .obtain rfl:R=false:=by have:=a1.out;simpa[k2]using this.symm
   clear HN;go_wp2_with(go_at_call 85;refine aE (hA _ (bel _ _)) λpj=>?_);go_ret;exact⟨rfl,bel _ _⟩
  by_cases k3:z.fd<0
  .obtain rfl:R=false:=by have:=a1.out;simpa[k3]using this.symm
   clear HN;go_wp2_with(go_at_call 85;refine aE (hA _ (bel _ _)) λpj=>?_);go_ret;exact⟨rfl,bel _ _⟩
  by_cases k4:4<=z.fd
  .obtain rfl:R=false:=by have:=a1.out;simpa[k4]using this.symm
   clear HN;go_wp2_with(go_at_call 85;refine aE (hA _ (bel _ _)) λpj=>?_);go_ret;exact⟨rfl,bel _ _⟩
  by_cases k5:K<0
  .obtain rfl:R=false:=by have:=a1.out;simpa[k5]using this.symm
   clear HN;go_wp2_with(go_at_call 85;refine aE (hA _ (bel _ _)) λpj=>?_);go_ret;exact⟨rfl,bel _ _⟩
  obtain⟨k,rfl⟩:∃k:Nat,K=k:=⟨K.toNat,by omega⟩;have hk:k<S.ins.length:=by omega
  obtain⟨x,hx⟩:∃x,S.ins[k]? =some x:=⟨_,gE hk⟩;obtain⟨bi,oi,ev,rfl,iI0,hoi,-,hci⟩:=HI.out k x hx;obtain⟨iI,x0,x1,x2,x3⟩:=hci wr hb;have a0:(if (xI S (k:Int))=true then false else if nD (jP S.op q) z=true then false else nE S (some z) (S.op.drop (q+1)))=R:=by have:=a1.out;simpa[k1,k2,k3,k4,k5]using this
  have hd:xI S (k:Int)=x.dir:=by simp[xI,hx]
  rw[hd]at a0;clear hd hci hoi x0 x2 x3 a1 hx;obtain⟨xn,xd,xe,xs⟩:=x
  (try simp only at x1)
  (try simp only at a0)
  rcases xd with _|_
  .rw [zA (by decide)]at a0;obtain⟨hn,a2⟩:=HN.out;rcases a2 with⟨rfl,hp⟩|⟨j,y,rfl,hy,hp,y0,y1,y2⟩
   .rw[hp]at a0;have a1:=bB a0 hn;clear a0 hn hp;simp only[Nat.zero_mul,zN]at c0 c1 c2;go_wp2_with(go_at_call 85;refine aE (hA _ (bel _ _)) λpj=>?_)
    go_roundw
    case rel=>exact⟨1,by rfl,by omega,by have:=a1.out;rw[this.2];simpa[nD]using this.1,bel _ _,by first|exact(HB.out.alloc _).junk _|exact HB.out⟩
    simp[intOf];omega
   rw [hp,nD]at a0
   (try simp only at a0)
   have a1:=bB a0 hn;have b0:((j:Int)+1)-1=j:=by omega
   have w2:IntKind.i64.wrap (j:Int)=j:=I64.wrap ⟨by omega,by omega⟩;have b1:(0:Int)<(j:Int)+1:=by omega
   have b3:(j:Int)<S.op.length:=by omega
   have a6:j<S.op.length:=by omega
   clear a0 hn hp hy HN;by_cases p1:z.core<y.core
   .obtain rfl:R=false:=by have:=a1.out.1;simpa[p1]using this.symm
    go_wp2_with(go_at_call 85;refine aE (hA _ (bel _ _)) λpj=>?_);go_ret;exact⟨rfl,bel _ _⟩
   rcases p2:(y.core==z.core)with _|_
   .have a0:nE S (some z) (S.op.drop (j+1+1))=R:=by have:=a1.out.1;simpa[p1,p2]using this
    have hn:=a1.out.2;have a1:=bB a0 hn;clear a0 hn;go_wp2_with(go_at_call 85;refine aE (hA _ (bel _ _)) λpj=>?_);go_roundw
    case rel=>exact⟨j+1+1,by simp,by omega,by have:=a1.out;rw[this.2];exact this.1,bel _ _,by first|exact((HB.out.alloc _).junk _).alloc _|exact(HB.out.alloc _).junk _|exact HB.out⟩
    simp[intOf];omega
   by_cases p3:z.fd<=y.fd
   .obtain rfl:R=false:=by have:=a1.out.1;simpa[p2,p3]using this.symm
    go_wp2_with(go_at_call 85;refine aE (hA _ (bel _ _)) λpj=>?_);go_ret;exact⟨rfl,bel _ _⟩
   have a0:nE S (some z) (S.op.drop (j+1+1))=R:=by have:=a1.out.1;simpa[p1,p2,p3]using this
   have hn:=a1.out.2;have a1:=bB a0 hn;clear a0 hn;go_wp2_with(go_at_call 85;refine aE (hA _ (bel _ _)) λpj=>?_);go_roundw
   case rel=>exact⟨j+1+1,by simp,by omega,by have:=a1.out;rw[this.2];exact this.1,bel _ _,by first|exact((HB.out.alloc _).junk _).alloc _|exact(HB.out.alloc _).junk _|exact HB.out⟩
   simp[intOf];omega
  rw[zB rfl]at a0;subst a0;clear HN;go_wp2_with(go_at_call 85;refine aE (hA _ (bel _ _)) λpj=>?_);go_ret;exact⟨rfl,bel _ _⟩
 rw[zS (by omega)]at a0;obtain rfl:R=true:=by rw[<-a0];rfl
 go_wp2_with fail;go_ret;exact⟨rfl,bel _ _⟩
def jQ (S:PSt) (k:Nat):Int:=match S.ins[k]? with|some x=>x.num|none=>0
section
theorem fP (s:ByteArray) (p:Nat) (h:p<s.size):s.get! p=s[p]'h:=by have h':p<s.data.size:=h;show s.data[p]! =_;rw[getElem!_pos s.data p h'];rfl
variable {p:Nat} {s:ByteArray}
theorem uZ (h:p<s.size):cY s p=(s.get! p).toNat:=by unfold cY;rw[dif_pos h,fP s p h]
theorem pE (s:ByteArray) (p:Nat):eV s p=if(decide (p<s.size)&&(s.get! p).toNat/64==2)=true then(((s.get! p).toNat%64:Nat):Int)else -1:=by
 have hb:=(s.get! p).toNat_lt;unfold eV;by_cases h:p<s.size
 .rw[zB h,uZ h];generalize(s.get! p).toNat=b at hb |-;have e:(decide (p<s.size)&&b/64==2)=decide (b/64=2):=by simp[h];rfl
  rw[e];simp only[zI];by_cases h2:b/64=2
  .rw[zB h2,zA (show ¬(b:Int)<128 by omega),zA (show ¬191<(b:Int) by omega)];omega
  rw[zA h2];by_cases h3:(b:Int)<128
  .rw[zB h3]
  rw[zA h3,zB (by omega)]
 rw[zA h,zA (by simp[h])]
def eW (b0 b1 b2 b3:Nat) (c1 c2 c3:Bool):Nat × Nat:=
 if b0<0x80 then(b0,1)
 else if b0/32==6&&c1 then(if (b0%32)*64+b1%64>=0x80 then((b0%32)*64+b1%64,2)else(65533,1))
 else if b0/16==14&&c1&&c2 then(if (b0%16)*4096+(b1%64)*64+b2%64>=0x800&&Utf8.valid ((b0%16)*4096+(b1%64)*64+b2%64:Nat)then((b0%16)*4096+(b1%64)*64+b2%64,3)else(65533,1))
 else if b0/8==30&&c1&&c2&&c3 then(if (b0%8)*262144+(b1%64)*4096+(b2%64)*64+b3%64>=0x10000&&Utf8.valid ((b0%8)*262144+(b1%64)*4096+(b2%64)*64+b3%64:Nat)then((b0%8)*262144+(b1%64)*4096+(b2%64)*64+b3%64,4)else(65533,1))
 else(65533,1)
theorem jW (s:ByteArray) (i:Nat):Utf8.decode s i=eW (s.get! i).toNat (s.get! (i+1)).toNat (s.get! (i+2)).toNat (s.get! (i+3)).toNat (decide (i+1<s.size)&&(s.get! (i+1)).toNat/64==2) (decide (i+2<s.size)&&(s.get! (i+2)).toNat/64==2) (decide (i+3<s.size)&&(s.get! (i+3)).toNat/64==2):=rfl
theorem aOY (b0 b1 b2 b3:Nat) (c1 c2 c3:Bool) (h0:b0<256) (A B D:Int) (hA:A=if c1=true then((b1%64:Nat):Int)else -1) (hB:B=if c2=true then((b2%64:Nat):Int)else -1) (hD:D=if c3=true then((b3%64:Nat):Int)else -1):
 ((eW b0 b1 b2 b3 c1 c2 c3).1:Int)=(bE b0 A B D).1/\((eW b0 b1 b2 b3 c1 c2 c3).2:Int)=max (bE b0 A B D).2 1/\
 ((bE b0 A B D).2=0↔((eW b0 b1 b2 b3 c1 c2 c3).1=65533/\¬(b0=239/\c1=true/\c2=true/\b1%64=63/\b2%64=61))):=by
 have a0:∀(x w:Nat) (y v:Int),eW b0 b1 b2 b3 c1 c2 c3=(x,w)->bE b0 A B D=(y,v)->(x:Int)=y->(w:Int)=max v 1->(v=0↔x=65533/\¬(b0=239/\c1=true/\c2=true/\b1%64=63/\b2%64=61))->((eW b0 b1 b2 b3 c1 c2 c3).1:Int)=(bE b0 A B D).1/\((eW b0 b1 b2 b3 c1 c2 c3).2:Int)=max (bE b0 A B D).2 1/\
  ((bE b0 A B D).2=0↔((eW b0 b1 b2 b3 c1 c2 c3).1=65533/\¬(b0=239/\c1=true/\c2=true/\b1%64=63/\b2%64=61))):=by
  intro x w y v h1 h2 h3 h4 h5;rw[h1,h2];exact⟨h3,h4,h5⟩
 by_cases e0:b0<128
 .refine a0 b0 1 b0 1 (by unfold eW;rw[zB e0]) (by unfold bE;rw[zB (by omega)]) rfl rfl (by omega)
 have a1:b0<194\/244<b0\/c1=false->eW b0 b1 b2 b3 c1 c2 c3=(65533,1)->_:=λh hd=>a0 65533 1 65533 0 hd (by
  unfold bE;have hx:b0<194\/244<b0\/A=-1:=h.imp (λh=>h) (λh=>h.imp (λh=>h) (λh=>by rw[hA,h];rfl));rw[zA (by omega),zA (by omega),zA (by omega),zA (by omega)]) rfl rfl (by
  rcases h with h|h|h
  .omega
  .omega
  simp[h])
 rcases c1 with _|_
 .refine a1 (.inr (.inr rfl)) (by
   unfold eW;rw[zA e0];simp)
 have a4:A=((b1%64:Nat):Int):=by rw[hA];rfl
 clear hA;by_cases e1:b0/32=6
 .by_cases e2:b0%32*64+b1%64>=128
  .refine a0 (b0%32*64+b1%64) 2 ((b0-192)*64+A) 2 (by unfold eW;rw[zA e0,zB (by simp[e1]),zB e2]) (by unfold bE;rw[zA (by omega),zB (by omega)]) (by omega) rfl (by omega)
  refine a1 (.inl (by omega)) (by unfold eW;rw[zA e0,zB (by simp[e1]),zA e2])
 rcases c2 with _|_
 .have a2:B=-1:=by rw[hB];rfl
  refine a0 65533 1 65533 0 (by unfold eW;rw[zA e0];simp[e1]) (by
   unfold bE;rw[zA (by omega),zA (by omega),zA (by omega),zA (by omega)]) rfl rfl (by simp)
 have a2:B=((b2%64:Nat):Int):=by rw[hB];rfl
 clear hB;by_cases e2:b0/16=14
 .by_cases e3:b0%16*4096+b1%64*64+b2%64>=2048/\(b0%16*4096+b1%64*64+b2%64<55296\/57343<b0%16*4096+b1%64*64+b2%64)
  .refine a0 (b0%16*4096+b1%64*64+b2%64) 3 ((b0-224)*4096+A*64+B) 3 (by
    unfold eW Utf8.valid;rw[zA e0,zA (by simp[e1]),zB (by simp[e2]),zB (by simp only[zE,yI,zI];omega)]) (by
    unfold bE;rw[zA (by omega),zA (by omega),zB (by omega),zB (by omega)]) (by omega) rfl (by simp only[true_and];omega)
  refine a0 65533 1 65533 0 (by
   unfold eW Utf8.valid;rw[zA e0,zA (by simp[e1]),zB (by simp[e2]),zA (by simp only[zE,yI,zI];omega)]) (by
   unfold bE;rw[zA (by omega),zA (by omega),zB (by omega),zA (by omega)]) rfl rfl (by omega)
 rcases c3 with _|_
 .have a3:D=-1:=by rw[hD];rfl
  refine a0 65533 1 65533 0 (by unfold eW;rw[zA e0];simp[e1,e2]) (by
   unfold bE;rw[zA (by omega),zA (by omega),zA (by omega),zA (by omega)]) rfl rfl (by omega)
 have a3:D=((b3%64:Nat):Int):=by rw[hD];rfl
 clear hD;by_cases e3:b0/8=30
 .by_cases e4:b0%8*262144+b1%64*4096+b2%64*64+b3%64>=65536/\b0%8*262144+b1%64*4096+b2%64*64+b3%64<=1114111
  .refine a0 (b0%8*262144+b1%64*4096+b2%64*64+b3%64) 4 ((b0-240)*262144+A*4096+B*64+D) 4 (by
    unfold eW Utf8.valid;rw[zA e0,zA (by simp[e1]),zA (by simp[e2]),zB (by simp[e3]),zB (by simp only[zE,yI,zI];omega)]) (by
    unfold bE;rw[zA (by omega),zA (by omega),zA (by omega),zB (by omega),zB (by omega)]) (by omega) rfl (by omega)
  have hd:eW b0 b1 b2 b3 true true true=(65533,1):=by unfold eW Utf8.valid;rw[zA e0,zA (by simp[e1]),zA (by simp[e2]),zB (by simp[e3]),zA (by simp only[zE,yI,zI];omega)]
  by_cases e5:b0<=244
  .refine a0 65533 1 65533 0 hd (by
    unfold bE;rw[zA (by omega),zA (by omega),zA (by omega),zB (by omega),zA (by omega)]) rfl rfl (by omega)
  exact a1 (.inr (.inl (by omega))) hd
 refine a0 65533 1 65533 0 (by unfold eW;rw[zA e0];simp[e1,e2,e3]) (by
  unfold bE;rw[zA (by omega),zA (by omega),zA (by omega),zA (by omega)]) rfl rfl (by omega)
theorem aAY (hp:p<s.size):
 ((Utf8.decode s p).1:Int)=(bV s p).1/\((Utf8.decode s p).2:Int)=max (bV s p).2 1/\((bV s p).2=0↔((Utf8.decode s p).1=65533/\¬((s.get! p).toNat=239/\(decide (p+1<s.size)&&(s.get! (p+1)).toNat/64==2)=true/\(decide (p+2<s.size)&&(s.get! (p+2)).toNat/64==2)=true/\(s.get! (p+1)).toNat%64=63/\(s.get! (p+2)).toNat%64=61))):=by
 unfold bV;rw[jW,uZ hp,pE,pE,pE];exact aOY _ _ _ _ _ _ _ (s.get! p).toNat_lt _ _ _ rfl rfl rfl
theorem aIC (s:ByteArray):∀b p h,jH s b p h=eL s b p h
 |0,_,_=>rfl
 | b+1,p,h=>by
   unfold jH eL;by_cases hp:p<s.size
   .rw[zB hp,zB hp,aIC s b];obtain⟨h1,h2,_⟩:=aAY hp;rw[<-h1,<-h2,zJ]
   rw[zA hp,zA hp]
theorem nY (s:ByteArray):aV s=bQ s:=by unfold aV bQ rY mW;rw[aIC]
theorem aGD (b0 b1 b2 b3:Nat) (c1 c2 c3:Bool):Utf8.valid ((eW b0 b1 b2 b3 c1 c2 c3).1:Nat)=true:=by
 have key:∀r:Nat,(r<55296\/(57344<=r/\r<=1114111))->Utf8.valid (r:Int)=true:=λr h=>by unfold Utf8.valid;simp only[zE,yI,zI];omega
 unfold eW;split
 .exact key _ (by simp only;omega)
 split
 .split
  .exact key _ (by simp only;omega)
  rfl
 split
 .split
  .rename_i h
   simp only[zE]at h;exact h.2
  rfl
 split
 .split
  .rename_i h
   simp only[zE]at h;exact h.2
  rfl
 rfl
theorem aGE {r:Nat} (hv:Utf8.valid (r:Int)=true) (h:(Utf8.encode (r:Int)).toList=[239,191,189]):r=65533:=by
 unfold Utf8.encode at h;rw[zB hv]at h;simp only[zJ]at h;have a0:r<=1114111:=by unfold Utf8.valid at hv;simp only[zE,yI,zI]at hv;omega
 have t1:∀a:UInt8,(⟨#[a]⟩:ByteArray).toList=[a]:=λ_=>ByteArray.toList_mk _;have t2:∀a b:UInt8,(⟨#[a,b]⟩:ByteArray).toList=[a,b]:=λ_ _=>ByteArray.toList_mk _;have t3:∀a b c:UInt8,(⟨#[a,b,c]⟩:ByteArray).toList=[a,b,c]:=λ_ _ _=>ByteArray.toList_mk _;have t4:∀a b c d:UInt8,(⟨#[a,b,c,d]⟩:ByteArray).toList=[a,b,c,d]:=λ_ _ _ _=>ByteArray.toList_mk _;split at h
 .rw[t1]at h;simp at h
 split at h
 .rw[t2]at h;simp at h
 split at h
 .rw[t3]at h;simp only[List.cons.injEq,and_true]at h;obtain⟨h1,h2,h3⟩:=h;have e1:=congrArg UInt8.toNat h1;have e2:=congrArg UInt8.toNat h2;have e3:=congrArg UInt8.toNat h3;simp at e1 e2 e3;omega
 rw[t4]at h;simp at h
theorem aGF (h0:(s.get! p).toNat=239) (h1:p+1<s.size) (h2:p+2<s.size) (b1:(s.get! (p+1)).toNat=191) (b2:(s.get! (p+2)).toNat=189):gV (s.extract p s.size) ⟨#[239,191,189]⟩=true:=by
 unfold gV;have a0:(s.extract p s.size).size=s.size-p:=by simp
 have e:(s.extract p s.size).extract 0 (⟨#[239,191,189]⟩:ByteArray).size=⟨#[239,191,189]⟩:=by
  show(s.extract p s.size).extract 0 3=_;apply ByteArray.ext;apply Array.ext
  .simp;have:s.data.size=s.size:=rfl;omega
  intro k hk hk';have a1:k<3:=hk';have g:∀j (hj:j<s.size),s.data[j]'hj=s.get! j:=λj hj=>(fP s j hj).symm;simp only[ByteArray.data_extract,Array.getElem_extract];rw[g _ (by omega)];have:k=0\/k=1\/k=2:=by omega
  rcases this with rfl|rfl|rfl
  .apply UInt8.toNat_inj.1;simpa using h0
  .apply UInt8.toNat_inj.1;simpa using b1
  apply UInt8.toNat_inj.1;simpa using b2
 rw[e,a0]
 have:decide ((⟨#[239,191,189]⟩:ByteArray).size<=s.size-p)=true:=decide_eq_true (by show 3<=_;omega);rw[this];simp
theorem pF (s:ByteArray):∀b p,eR s b p=true->cC s b p=true
 |0,_,_=>rfl
 | b + 1,p,h=>by
   unfold eR at h;unfold cC;by_cases hp:p<s.size
   .rw [zB hp]at h |-;obtain⟨h1,h2,h3⟩:=aAY hp
    split at h
    .cases h
    rename_i hb;have hk:(bV s p).2≠0:=λe=>hb (.inl e);have hw:(bV s p).2.toNat=(Utf8.decode s p).2:=by
     have:0<=(bV s p).2:=by
      unfold bV bE
      repeat' split
      all_goals simp
     omega
    rw[hw]at h;rw[pF s b _ h,Bool.and_true,yL];unfold fL;simp only[yU,yV,yF];refine⟨⟨⟨by omega,by omega⟩,by omega⟩,?_⟩;rw[Bool.and_eq_false_iff];by_cases e:(Utf8.decode s p).1=65533
    .right;rw[Bool.not_eq_false'];have hy:=λhn=>hk (h3.2 ⟨e,hn⟩)
     have hy:=Classical.not_not.1 hy;simp only[zE,zI,beq_iff_eq]at hy;obtain⟨a0,⟨a1,a2⟩,⟨a3,a4⟩,a5,a6⟩:=hy;exact aGF a0 a1 a3 (by omega) (by omega)
    left;rw[yF];intro he;refine e (aGE ?_ he);rw[jW];exact aGD _ _ _ _ _ _ _
   rw[zA hp]
theorem aGG (h:bT s=0):iU s=true:=by
 unfold iU cR;unfold bT at h;split at h
 .cases h
 rename_i h1;rw[zA h1];split at h
 .cases h
 rename_i h2;rw[zA h2];split at h
 .rename_i h3
  rw[zB (pF s _ _ h3)];rfl
 cases h
end
section
theorem gP (f:Nat->Int):∀(b lo hi:Nat),lo<=hi->hi-lo<=b->(∀i j,lo<=i->i<=j->j<hi->f j<0->f i<0)->
 lo<=cW f b lo hi/\cW f b lo hi<=hi/\(∀i,lo<=i->i<cW f b lo hi->f i<0)/\(∀i,cW f b lo hi<=i->i<hi->¬f i<0)
 | 0,lo,hi,h,hb,_=>by
   have:hi=lo:=by omega
   subst this;exact⟨zC _,zC _,λi h1 h2=>absurd h2 (by show ¬i<hi;omega),λi h1 h2=>absurd h2 (by have:hi<=i:=h1;omega)⟩
 | b + 1,lo,hi,h,hb,hm=>by
   unfold cW;by_cases hl:lo<hi
   .rw[zB hl];by_cases hf:f ((lo+hi)/2)<0
    .rw[zB hf];obtain⟨h1,h2,h3,h4⟩:=gP f b ((lo+hi)/2+1) hi (by omega) (by omega) (λi j a c d e=>hm i j (by omega) c d e);refine⟨by omega,h2,λi a c=>?_,h4⟩;by_cases hi':i<=(lo+hi)/2
     .exact hm i ((lo+hi)/2) a hi' (by omega) hf
     exact h3 i (by omega) c
    rw[zA hf];obtain⟨h1,h2,h3,h4⟩:=gP f b lo ((lo+hi)/2) (by omega) (by omega) (λi j a c d e=>hm i j a c (by omega) e);refine⟨h1,by omega,h3,λi a c=>?_⟩;by_cases hi':i<(lo+hi)/2
    .exact h4 i a hi'
    exact λhn=>hf (hm ((lo+hi)/2) i (by omega) (by omega) c hn)
   rw[zA hl];exact⟨zC _,h,λi h1 h2=>absurd h2 (by omega),λi h1 h2=>absurd h2 (by omega)⟩
def Rise (ns:List Int):Prop:=∀(i j:Nat) (x y:Int),ns[i]? =some x->ns[j]? =some y->i<j->x<y
variable {S:PSt} {k:Nat} {n x:Int} {ns:List Int}
theorem Rise.inj (h:Rise ns) {i j:Nat} (hi:ns[i]? =some x) (hj:ns[j]? =some x):i=j:=by
 rcases Nat.lt_trichotomy i j with h1|h1|h1
 .have:=h i j _ _ hi hj h1;omega
 .exact h1
 have:=h j i _ _ hj hi h1;omega
theorem kY (h:Rise ns) (hk:ns[k]? =some n):aJ ns n=k:=by
 obtain⟨hl,_⟩:=gI.1 hk;have hc:∀j (hj:j<ns.length),qP ns n j=gS ns[j] n:=λj hj=>by unfold qP;rw[gE hj]
 obtain⟨h1,h2,h3,h4⟩:=gP (qP ns n) ns.length 0 ns.length (by omega) (by omega) (λi j a c d e=>by
  rw[hc j d]at e;rw[hc i (by omega)];unfold gS at e |-;by_cases hij:i=j
  .subst hij;exact e
  have:=h i j _ _ (gE (by omega)) (gE d) (by omega);split at e
  .rw[zB (by omega)];omega
  split at e<;>omega)
 have hz:qP ns n k=0:=by
  rw[hc k hl];have:ns[k]=n:=by have:=gE hl;rw[hk]at this;exact(Option.some.inj this).symm
  rw[this];simp[gS]
 have e:bsN ns n=k:=by
  unfold bsN;generalize cW (qP ns n) ns.length 0 ns.length=r at *;rcases Nat.lt_trichotomy r k with hrk|hrk|hrk
  .have:=h4 r (zC _) (by omega);rw[hc r (by omega)]at this;have h5:=h r k _ _ (gE (by omega)) hk hrk;unfold gS at this;rw[zB h5]at this;omega
  .exact hrk
  have:=h3 k (Nat.zero_le _) hrk;omega
 unfold aJ;rw[e,hz];rw[zB (by simp[hl])]
theorem aEK (hn:∀x∈ns,x≠n):aJ ns n=-1:=by
 unfold aJ;rw[zA];intro h;simp only[zE,zI,beq_iff_eq]at h;obtain⟨h1,h2⟩:=h;unfold qP at h2;rw[gE h1]at h2;simp only at h2;have:=hn _ (List.getElem_mem h1);unfold gS at h2;split at h2
 .omega
 split at h2<;>omega
theorem aBX {α:Type} (p:α->Bool):∀(zs:List α) (q k:Nat) (z:α),zs[k]? =some z->p z=true->(∀j y,j<k->zs[j]? =some y->p y=false)->bG p zs q=((q+k:Nat):Int)
 |[],_,_,_,h,_,_=>by simp at h
 | x::r,q,0,z,h,hp,_=>by simp at h;subst h;unfold bG;rw[zB hp];simp
 | x::r,q,k+1,z,h,hp,hl=>by unfold bG;rw[zA (by rw[hl 0 x (by omega) rfl];simp),aBX p r (q+1) k z (by simpa using h) hp (λj y hj hy=>hl (j+1) y (by omega) (by simpa using hy))];omega
theorem wH {α:Type} (p:α->Bool):∀(zs:List α) (q:Nat),(∀z∈zs,p z=false)->bG p zs q=-1
 |[],_,_=>rfl
 | x::r,q,h=>by unfold bG;rw[zA (by rw[h x zQ];simp)];exact wH p r (q+1) λz hz=>h z (zL _ hz)
theorem eY (h:Rise S.nums) {x:PIn} (hk:S.ins[k]? =some x):bH S x.num=k:=by
 unfold bH cG;rw[aBX (lI x.num) S.ins 0 k x hk (by simp[lI]) (λj y hj hy=>by
  unfold lI;rw[yF];intro e;have:=h j k y.num x.num (by unfold PSt.nums;rw[gM,hy];rfl) (by unfold PSt.nums;rw[gM,hk];rfl) hj;omega)]
 simp
theorem fV (S:PSt) (n:Int):(∃(k:Nat) (x:PIn),S.ins[k]? =some x/\x.num=n)\/((∀x∈S.ins,x.num≠n)/\bH S n=-1):=by
 by_cases h:∃x∈S.ins,x.num=n
 .obtain⟨x,hx,e⟩:=h;obtain⟨k,hk⟩:=List.mem_iff_getElem?.1 hx;exact .inl ⟨k,x,hk,e⟩
 have h':∀x∈S.ins,x.num≠n:=λx hx e=>h ⟨x,hx,e⟩;refine .inr ⟨h',?_⟩;unfold bH cG;exact wH _ _ _ λz hz=>by unfold lI;rw[yF];exact h' z hz
theorem bM (h:Rise S.nums) (n:Int):aJ S.nums n=bH S n:=by
 rcases fV S n with⟨k,x,hk,rfl⟩|⟨h1,h2⟩
 .rw[eY h hk];exact kY h (by unfold PSt.nums;rw[gM,hk];rfl)
 rw[h2];exact aEK λy hy=>by obtain⟨x,hx,rfl⟩:=List.mem_map.1 hy;exact h1 x hx
theorem mU {s:ByteArray} {p:Nat} (h:p<s.size):∃b,s.toList.drop p=b::s.toList.drop (p+1)/\cY s p=(b.toNat:Int):=by
 have hl:p<s.data.toList.length:=by simpa using h
 refine⟨s.data.toList[p],?_,?_⟩
 .rw[zW];exact yH hl
 unfold cY;rw[dif_pos h];rfl
theorem aEL (x y:ByteArray):∀m p,x.size<=p+m->p<=x.size->p<=y.size->jR x y m p=Op.bytesLess (x.toList.drop p) (y.toList.drop p):=by
 have a0:∀p,p<=x.size->p<=y.size->¬(p<x.size/\p<y.size)->decide (x.size<y.size)=Op.bytesLess (x.toList.drop p) (y.toList.drop p):=by
  intro p h1 h2 h;have lx:x.toList.length=x.size:=by rw[zW];simp
  have ly:y.toList.length=y.size:=by rw[zW];simp
  by_cases hy:p<y.size
  .obtain⟨b,hb,_⟩:=mU hy;have:x.toList.drop p=[]:=zS (by omega);rw[this,hb];rw[decide_eq_true (by omega)];rfl
  have:y.toList.drop p=[]:=zS (by omega);rw[this,yM (by omega)];cases x.toList.drop p<;>rfl
 intro m
 induction m with
 | zero=>intro p h h1 h2;exact a0 p h1 h2 (by omega)
 | succ m ih=>
   intro p h h1 h2;unfold jR;by_cases hp:p<x.size/\p<y.size
   .rw[zB hp];obtain⟨a,ha,ea⟩:=mU hp.1;obtain⟨b,hb,eb⟩:=mU hp.2;rw[ha,hb,ea,eb];unfold Op.bytesLess;by_cases e:a=b
    .subst e;rw[zB rfl,ih (p+1) (by omega) (by omega) (by omega)];simp
    have a1:¬(a.toNat:Int)=b.toNat:=λh=>e (UInt8.toNat_inj.1 (by omega));rw[zA a1];have:(a==b)=false:=by simpa using e
    rw[this,yJ,Bool.or_false];congr 1;rw[UInt8.lt_iff_toNat_lt];exact propext ⟨λh=>by omega,λh=>by omega⟩
   rw[zA hp];exact a0 p h1 h2 hp
theorem pP (x y:ByteArray):dL x y=Op.bytesLess x.toList y.toList:=by unfold dL;rw[aEL x y x.size 0 (by omega) (by omega) (by omega)];rfl
end
section
def eP (S:PSt) (n:Int):Bool:=S.op.any λd=>d.num==n
def inR (S:PSt) (q:Nat) (x:PIn):Bool:=(q==0||(decide (jQ S (q-1)<x.num)&&pB S x.num))&&(decide (x.data.size<=256)&&((if x.dir=true then x.data.size==0 else x.ents.isEmpty)&&(uI S x.ents&&
 (if x.dir=true then q==0||(cQ S x.num==1&&(eM S).getD q false)else(eM S).getD q false||eP S x.num))))
def aEN (S:PSt):Bool:=(List.range S.ins.length).all λq=>match S.ins[q]? with|some x=>inR S q x|none=>false
def kZ (S:PSt):Bool:=decide (1<=S.made.length/\S.made.length<=8/\1<=S.ins.length/\S.ins.length<=257)&&((match S.ins[0]? with|some x=>x.num==1&&x.dir|none=>false)&&(rX S&&((S.made.all λm=>decide (0<=m/\m<=32))&&aEN S)))
variable {S:PSt} {i k:Nat} {n:Int} {ns:List Int} {x:PIn}
theorem sG (h:aEN S=true) {q:Nat} (hx:S.ins[q]? =some x):inR S q x=true:=by unfold aEN at h;rw[yX]at h;obtain⟨hl,_⟩:=gI.1 hx;have:=h q (List.mem_range.2 hl);rw[hx]at this;exact this
theorem dJ (h:S.ins[k]? =some x):S.nums[k]? =some x.num:=by unfold PSt.nums;rw[gM,h];rfl
theorem pQ (h:S.nums[k]? =some n):∃x,S.ins[k]? =some x/\x.num=n:=by
 unfold PSt.nums at h;rw[gM]at h;rcases e:S.ins[k]? with _|x
 .rw[e]at h;cases h
 rw[e]at h;exact⟨x,rfl,Option.some.inj h⟩
theorem aQE (h:aEN S=true):Rise S.nums:=by
 have a0:∀(k:Nat) (x y:Int),S.nums[k]? =some x->S.nums[k+1]? =some y->x<y:=by
  intro k x y hx hy;obtain⟨a,ha,rfl⟩:=pQ hx;obtain⟨b,hb,rfl⟩:=pQ hy;have:=sG h hb;unfold inR at this;simp only[zE,yI,zI]at this;have h1:=this.1;rcases h1 with h1|h1
  .simp at h1
  have h2:=h1.1;unfold jQ at h2;rw[Nat.add_sub_cancel,ha]at h2;exact h2
 intro i j
 induction j with
 |zero=>intro x y _ _ h;omega
 | succ j ih=>
   intro x y hx hy hij;obtain⟨hl,_⟩:=gI.1 hy;have hz:S.nums[j]? =some S.nums[j]:=gE (by omega);have h1:=a0 j _ y hz hy;by_cases e:i=j
   .subst e;rw[hx]at hz;rw[Option.some.inj hz];exact h1
   have:=ih x _ hx hz (by omega);omega
theorem aGY (hr:Rise S.nums):∀(es:List PEnt) (prev:Option ByteArray) (sl:List Int),fY S prev sl es=true->gN S.nums prev sl es=true
 |[],_,_,_=>rfl
 | e ::r,prev,sl,h=>by
   unfold fY at h;unfold gN;split at h
   .cases h
   rename_i h1;split at h
   .cases h
   rename_i h2;split at h
   .cases h
   rename_i h3;split at h
   .cases h
   rename_i h4;have c:bT e.name=0:=by simpa using h1
   have p:jJ prev e.name=jE prev e.name:=by
    unfold jJ jE;cases prev with
    |none=>rfl
    |some q=>simp only[pP]
   rw[zA (by rw[aGG c];simp),p,zA h2,zA h3,bM hr,zA h4,<-nY];rcases hs:sl[(aV e.name).toNat]? with _|x
   .rw[hs]at h;cases h
   rw[hs]at h;simp only at h |-;split at h
   .cases h
   rename_i h5;rw[zA h5];exact aGY hr r _ _ h
theorem tI:∀(es:List PEnt) (prev:Option ByteArray) (sl:List Int),fY S prev sl es=true->∀e∈es,0<=bH S e.num
 |[],_,_,_,e,he=>by cases he
 | e ::r,prev,sl,h,e',he=>by
   unfold fY at h;split at h
   .cases h
   split at h
   .cases h
   split at h
   .cases h
   split at h
   .cases h
   rename_i h4;split at h
   .split at h
    .cases h
    rcases List.mem_cons.1 he with rfl|he
    .omega
    exact tI r _ _ h e' he
   cases h
theorem aGZ (hr:Rise S.nums):∀(ds:List PDesc) (o:Option PDesc),nE S o ds=true->fR S o ds=true
 |[],_,_=>rfl
 | d::r,o,h=>by
   unfold nE at h;unfold fR;split at h
   .cases h
   rename_i h1;split at h
   .cases h
   rename_i h2;unfold aOQ at h1;simp only[yI,zI,not_or]at h1;obtain⟨a1,a2,a3,a4,a5,a6⟩:=h1;have p:kA o d=nD o d:=by
    unfold kA nD;cases o with
    |none=>rfl
    |some q=>simp only;congr 2
   rw[zA a1,zA a2,zA a3,zA a4,p,zA h2,bM hr,zA a5];unfold xI at a6;have hb:0<=bH S d.num/\bH S d.num<S.ins.length:=by
    rcases fV S d.num with⟨k,x,hk,e⟩|⟨_,e⟩
    .rw[<-e,eY hr hk];obtain⟨hl,_⟩:=gI.1 hk;omega
    omega
   rw[gE (by omega)]at a6 |-;simp only at a6 |-;rw[zA a6];exact aGZ hr r _ h
theorem aHA (h:aEN S=true):∀(m k:Nat) (p:Int),m+k=S.ins.length->1<=k->jQ S (k-1)=p->mB S.made p ((S.ins.drop k).map PIn.num)=true
 |0,k,p,hk,_,_=>by rw[zS (by omega)];rfl
 | m+1,k,p,hk,h1,hp=>by
   rw[yH (by omega)];have hx:S.ins[k]? =some S.ins[k]:=gE (by omega);have:=sG h hx;unfold inR at this;simp only[zE,yI,zI]at this;have h2:=this.1;rcases h2 with h2|⟨h2,h3⟩
   .simp at h2;omega
   rw[hp]at h2;show mB S.made p (S.ins[k].num::(S.ins.drop (k+1)).map PIn.num)=true;unfold mB;rw[zA (by omega),zA (by rw[show eG S.made S.ins[k].num=pB S S.ins[k].num from rfl,h3];simp)];exact aHA h m (k+1) _ (by omega) (by omega) (by unfold jQ;rw[Nat.add_sub_cancel,hx])
theorem aMZ (n:Int):∀(es:List PEnt) (a:Int),a<=sK n es a/\sK n es a<=a+es.length
 |[],a=>⟨Int.le_refl _,by simp[sK]⟩
 | e::r,a=>by
   unfold sK;have:=aMZ n r (if (e.num==n)=true then a+1 else a);simp only[zK];split at this<;>rename_i h
   .rw[zB h];omega
   rw[zA h];omega
theorem aQF (hr:Rise ns) {m:List Int} (hl:m.length=ns.length) (hi:ns[i]? =some n) {k:Int} (hk:0<=aJ ns k) (hb:0<=m.getD i 0/\m.getD i 0<9000000000000000000):
 (kD m (aJ ns k)).getD i 0=if(k==n)=true then m.getD i 0+1 else m.getD i 0:=by
 obtain⟨hil,_⟩:=gI.1 hi;have a0:i<m.length:=by omega
 unfold kD;by_cases e:k=n
 .subst e;rw[kY hr hi];simp only[beq_self_eq_true,if_true,zJ];rw[zG,zY a0];simp only[Option.getD_some];unfold wrap64;omega
 rw [zA (by simpa using e)];have a1:(aJ ns k).toNat≠i:=by
  intro h;have hf:aJ ns k=i:=by omega
  by_cases hx:∃j:Nat,ns[j]? =some k
  .obtain⟨j,hj⟩:=hx;rw[kY hr hj]at hf;have:j=i:=by omega
   subst this;rw[hj]at hi;exact e (Option.some.inj hi)
  unfold aJ at hf;split at hf
  .rename_i hc
   simp only[zE,zI,beq_iff_eq]at hc;have a2:bsN ns k=i:=by omega
   rw[a2]at hc;unfold qP at hc;rw[hi]at hc;have h2:=hc.2;simp only at h2;unfold gS at h2;rcases Int.lt_trichotomy n k with h|h|h
   .rw[zB h]at h2;exact absurd h2 (by decide)
   .exact e h.symm
   rw[zA (by omega),zB h]at h2;exact absurd h2 (by decide)
  omega
 rw[zG,zX a1,<-zG]
theorem aBY (hr:Rise ns) (hi:ns[i]? =some n):∀(es:List PEnt) (m:List Int),m.length=ns.length->(∀e∈es,0<=aJ ns e.num)->0<=m.getD i 0->m.getD i 0+es.length<9000000000000000000->(lF ns m es).getD i 0=sK n es (m.getD i 0)
 |[],_,_,_,_,_=>rfl
 | e::r,m,hl,hf,h0,hb=>by simp only[zK]at hb;have h1:=aQF hr hl hi (hf e zQ) ⟨h0,by omega⟩;show(lF ns (kD m (aJ ns e.num)) r).getD i 0=sK n r (if (e.num==n)=true then m.getD i 0+1 else m.getD i 0);rw[aBY hr hi r _ (by rw[uD,hl]) (λe he=>hf e (zL _ he)) (by rw[h1];split<;>omega) (by rw[h1];split<;>omega),h1]
def dY (xs:List PIn):Nat:=(xs.map λx=>x.ents.length).sum
theorem pR (hr:Rise ns) (hi:ns[i]? =some n):∀(xs:List PIn) (m:List Int),m.length=ns.length->(∀x∈xs,∀e∈x.ents,0<=aJ ns e.num)->(∀x∈xs,x.dir=false->x.ents=[])->0<=m.getD i 0->m.getD i 0+dY xs<9000000000000000000->(rU ns m xs).getD i 0=lkI n xs (m.getD i 0)
 |[],_,_,_,_,_,_=>rfl
 | x::r,m,hl,hf,hd,h0,hb=>by
   simp only[dY,yZ,List.sum_cons]at hb;have h1:=aBY hr hi x.ents m hl (hf x zQ) h0 (by omega);have h2:=aMZ n x.ents (m.getD i 0);show(rU ns (lF ns m x.ents) r).getD i 0=lkI n r (if x.dir=true then sK n x.ents (m.getD i 0)else m.getD i 0);have h3:(if x.dir=true then sK n x.ents (m.getD i 0)else m.getD i 0)=sK n x.ents (m.getD i 0):=by
    split
    .rfl
    rename_i h;rw[hd x zQ (by simpa using h)];rfl
   rw[pR hr hi r _ (by rw[wX,hl]) (λy hy=>hf y (zL _ hy)) (λy hy=>hd y (zL _ hy)) (by rw[h1];omega) (by rw[h1];unfold dY;omega),h1,h3]
def qW (S:PSt) (C:Nat->Prop):Prop:=∀(k:Nat) (x:PIn),C k->S.ins[k]? =some x->∀e∈x.ents,C (aJ S.nums e.num).toNat
theorem nN (hr:Rise S.nums) {C:Nat->Prop} (hC:qW S C):∀(g:Nat) (st:List Int) (fd:List Bool),(∀n∈st,0<=bH S n->C (bH S n).toNat)->(∀k,fd.getD k false=true->C k)->∀k,(fD S g st fd).getD k false=true->C k
 |0,_,_,_,h,k,hk=>h k hk
 |_+1,[],_,_,h,k,hk=>h k hk
 | g + 1,n::st,fd,h1,h2,k,hk=>by
   unfold fD at hk;split at hk
   .exact nN hr hC g st fd (λm hm=>h1 m (zL _ hm)) h2 k hk
   rename_i ha;split at hk
   .exact nN hr hC g st fd (λm hm=>h1 m (zL _ hm)) h2 k hk
   split at hk
   .rename_i x hx
    have hc:=h1 n zQ (by omega);refine nN hr hC g _ _ (λm hm hm0=>?_) (λj hj=>?_) k hk
    .rcases List.mem_append.1 hm with hm|hm
     .rw[List.mem_reverse]at hm;unfold jF at hm
      split at hm
      .obtain⟨e,he,rfl⟩:=List.mem_map.1 hm;have:=hC _ x hc hx e he;rw[bM hr]at this;exact this
      cases hm
     exact h1 m (zL _ hm) hm0
    by_cases e:(bH S n).toNat=j
    .subst e;exact hc
    rw[zG,zX e,<-zG]at hj;exact h2 j hj
   exact h2 k hk
def aBZ (fd:List Bool):Nat:=fd.count false
theorem wI {fd:List Bool} (h:k<fd.length) (hf:fd.getD k false=false):(fd.set k true).count false+1=fd.count false:=by
 rw[zG,gE h]at hf;simp only[Option.getD_some]at hf;rw[List.count_set h,hf]
 have:0<fd.count false:=List.count_pos_iff.2 (by rw[<-hf];exact List.getElem_mem h);simp;omega
theorem getD_set_true {fd:List Bool} {j:Nat} (h:fd.getD j false=true):(fd.set k true).getD j false=true:=by
 by_cases e:k=j
 .subst e;have hl:k<fd.length:=by
   rcases Nat.lt_or_ge k fd.length with h1|h1
   .exact h1
   rw[zG,List.getElem?_eq_none h1]at h;cases h
  rw[zG,zY hl];rfl
 rw[zG,zX e,<-zG];exact h
theorem oW (ns:List Int) (hfl:Nat):∀(es:List PEnt) (td:List Nat) (fd:List Bool),fd.length=hfl->(∀e∈es,0<=aJ ns e.num/\aJ ns e.num<hfl)->
 (∀j,fd.getD j false=true->(cK ns (td,fd) es).2.getD j false=true)/\(∀e∈es,(cK ns (td,fd) es).2.getD (aJ ns e.num).toNat false=true)/\
 (∀j,(cK ns (td,fd) es).2.getD j false=true->fd.getD j false=true\/j∈(cK ns (td,fd) es).1)/\(∀j∈td,j∈(cK ns (td,fd) es).1)/\(∀j∈(cK ns (td,fd) es).1,j∈td\/(cK ns (td,fd) es).2.getD j false=true)/\
 (cK ns (td,fd) es).1.length+aBZ (cK ns (td,fd) es).2=td.length+aBZ fd
 |[],td,fd,_,_=>⟨λ_ h=>h,λ_ h=>(by cases h),λ_ h=>.inl h,λ_ h=>h,λ_ h=>.inl h,rfl⟩
 | e ::r,td,fd,hl,hf=>by
   obtain⟨f0,f1⟩:=hf e zQ;show _/\_/\_/\_/\_/\_;have a0:cK ns (td,fd) (e::r)=cK ns (lG ns (td,fd) e) r:=rfl;rw[a0];by_cases hd:fd.getD (aJ ns e.num).toNat false=true
   .have hs:lG ns (td,fd) e=(td,fd):=by unfold lG;rw[zB hd]
    rw[hs];obtain⟨a,b,c,d,g,i⟩:=oW ns hfl r td fd hl (λe he=>hf e (zL _ he));refine⟨a,λe' he=>?_,c,d,g,i⟩;rcases List.mem_cons.1 he with rfl|he
    .exact a _ hd
    exact b e' he
   have hs:lG ns (td,fd) e=(td++[(aJ ns e.num).toNat],fd.set (aJ ns e.num).toNat true):=by unfold lG;rw[zA hd]
   rw[hs];have a2:(aJ ns e.num).toNat<fd.length:=by omega
   obtain⟨a,b,c,d,g,i⟩:=oW ns hfl r (td++[(aJ ns e.num).toNat]) (fd.set (aJ ns e.num).toNat true) (by simpa using hl) (λe he=>hf e (zL _ he));have a1:(fd.set (aJ ns e.num).toNat true).getD (aJ ns e.num).toNat false=true:=by rw[zG,zY a2];rfl
   refine⟨λj hj=>a j (getD_set_true hj),λe' he=>?_,λj hj=>?_,λj hj=>d j (List.mem_append_left _ hj),λj hj=>?_,?_⟩
   .rcases List.mem_cons.1 he with rfl|he
    .exact a _ a1
    exact b e' he
   .rcases c j hj with h|h
    .by_cases e2:(aJ ns e.num).toNat=j
     .right;exact d j (by rw[<-e2];simp)
     left;rw[zG,zX e2,<-zG]at h;exact h
    exact .inr h
   .rcases g j hj with h|h
    .rcases List.mem_append.1 h with h|h
     .exact .inl h
     rw[List.mem_singleton.1 h];exact .inr (a _ a1)
    exact .inr h
   rw[i];have:=wI a2 (by simpa using hd);simp only[lP,List.length_singleton];unfold aBZ;omega
theorem tJ (hfound:∀x∈S.ins,∀e∈x.ents,0<=aJ S.nums e.num/\aJ S.nums e.num<S.ins.length):∀(b:Nat) (td:List Nat) (fd:List Bool),fd.length=S.ins.length->td.length+aBZ fd<=b->(∀j∈td,fd.getD j false=true)->
 (∀k x,fd.getD k false=true->k∉td->S.ins[k]? =some x->∀e∈x.ents,fd.getD (aJ S.nums e.num).toNat false=true)->
 (∀j,fd.getD j false=true->(bfs S.nums S.ins b td fd).getD j false=true)/\qW S λk=>(bfs S.nums S.ins b td fd).getD k false=true
 | 0,td,fd,hl,hb,ht,hi=>by have:td=[]:=zT (by omega);subst this;exact⟨λ_ h=>h,λk x hk hx e he=>hi k x hk (by simp) hx e he⟩
 |b+1,[],fd,hl,hb,ht,hi=>⟨λ_ h=>h,λk x hk hx e he=>hi k x hk (by simp) hx e he⟩
 | b+1,k::td,fd,hl,hb,ht,hi=>by
   have hk:=ht k zQ;have a0:k<S.ins.length:=by
    rcases Nat.lt_or_ge k fd.length with h1|h1
    .omega
    rw[zG,List.getElem?_eq_none h1]at hk;cases hk
   have hx:S.ins[k]? =some S.ins[k]:=gE a0;have hf:=hfound _ (List.getElem_mem a0);obtain⟨a,b1,c,d,g,i⟩:=oW S.nums S.ins.length S.ins[k].ents td fd hl hf;show(∀j,fd.getD j false=true->(bfs S.nums S.ins b (cK S.nums (td,fd) (match S.ins[k]? with|some x=>x.ents|none=>[])).1 (cK S.nums (td,fd) (match S.ins[k]? with|some x=>x.ents|none=>[])).2).getD j false=true)/\qW S λq=>(bfs S.nums S.ins b (cK S.nums (td,fd) (match S.ins[k]? with|some x=>x.ents|none=>[])).1 (cK S.nums (td,fd) (match S.ins[k]? with|some x=>x.ents|none=>[])).2).getD q false=true;rw [hx];simp only;simp only[zK]at hb;obtain⟨r1,r2⟩:=tJ hfound b (cK S.nums (td,fd) S.ins[k].ents).1 (cK S.nums (td,fd) S.ins[k].ents).2 (by rw[wY];exact hl) (by omega) (λj hj=>by
    rcases g j hj with h|h
    .exact a j (ht j (zL _ h))
    .exact h) (λq x hq hnq hqx e he=>by
    rcases c q hq with h|h
    .by_cases e2:q=k
     .subst e2;rw[hx]at hqx;cases hqx;exact b1 e he
     refine a _ (hi q x h (λhm=>?_) hqx e he);rcases List.mem_cons.1 hm with h3|h3
     .exact e2 h3
     exact hnq (d q h3)
    exact absurd h hnq)
   exact⟨λj hj=>r1 j (a j hj),r2⟩
theorem aJE (hwf :S.wf) (h:kZ S=true):dB S=true:=by
 unfold kZ at h;simp only[zE,zI,yX]at h;obtain⟨⟨m1,m8,i1,i257⟩,hroot,hop,hmade,hins⟩:=h;have hr:=aQE hins;have x0:S.ins[0]? =some S.ins[0]:=gE (by omega);rw[x0]at hroot;simp only[zE,beq_iff_eq]at hroot;obtain⟨hn0,hd0⟩:=hroot;have a6:∀{q:Nat} {x:PIn},S.ins[q]? =some x->uI S x.ents=true/\x.data.size<=256/\(if x.dir=true then x.data.size==0 else x.ents.isEmpty)=true/\(if x.dir=true then q==0||(cQ S x.num==1&&(eM S).getD q false)else(eM S).getD q false||eP S x.num)=true:=λhx=>by have:=sG hins hx;unfold inR at this;simp only[zE,zI]at this;exact⟨this.2.2.2.1,this.2.1,this.2.2.1,this.2.2.2.2⟩
 have a0:∀x∈S.ins,∀e∈x.ents,0<=aJ S.nums e.num/\aJ S.nums e.num<S.ins.length:=λx hx e he=>by
  obtain⟨q,hq⟩:=List.mem_iff_getElem?.1 hx;have h1:=tI _ _ _ (a6 hq).1 e he;rw[bM hr];refine⟨h1,?_⟩;rcases fV S e.num with⟨k,y,hk,e2⟩|⟨_,e2⟩
  .rw[<-e2,eY hr hk];obtain⟨hl,_⟩:=gI.1 hk;omega
  omega
 have a7:∀x∈S.ins,x.dir=false->x.ents=[]:=λx hx hd=>by obtain⟨q,hq⟩:=List.mem_iff_getElem?.1 hx;have:=(a6 hq).2.2.1;rw[hd]at this;simpa using this
 have b5:dY S.ins<9000000000000000000:=by
  have key:∀(xs:List PIn),(∀x∈xs,x.ents.length<=1000000000)->dY xs<=xs.length*1000000000:=by
   intro xs
   induction xs with
   |nil=>intro _;simp[dY]
   | cons x r ih=>intro hx;have h1:=ih λy hy=>hx y (zL _ hy);have h2:=hx x zQ;simp only[dY,yZ,List.sum_cons,zK]at h1 |-;omega
  have:=key S.ins λx hx=>(hwf.2.2.2.1 x hx).2.1;omega
 have a8:((List.replicate S.ins.length false).set 0 true).getD 0 false=true:=by rw[zG,zY (by simp;omega)];rfl
 have a9:∀k,((List.replicate S.ins.length false).set 0 true).getD k false=true->k=0:=λk hk=>by
  by_cases e:0=k
  .exact e.symm
  rw[zG,zX e,yQ]at hk;split at hk<;>cases hk
 obtain⟨c1,c2⟩:=tJ a0 S.ins.length [0] ((List.replicate S.ins.length false).set 0 true) (by simp) (by
  have:=wI (fd:=List.replicate S.ins.length false) (k:=0) (by simp;omega) (by rw[zG,yQ];split<;>rfl);rw[List.count_replicate_self]at this;unfold aBZ;simp only[List.length_singleton];omega) (λj hj=>by rw[List.mem_singleton.1 hj];exact a8) (λk x hk hn _ e he=>absurd (List.mem_singleton.2 (a9 k hk)) hn)
 have a4:(dZ S).getD 0 false=true:=c1 0 a8;have b4:qW S λk=>(dZ S).getD k false=true:=c2;have b1:∀k,(eM S).getD k false=true->(dZ S).getD k false=true:=λk hk=>nN hr b4 _ _ _ (λn hn _=>by
  rw[List.mem_singleton.1 hn,<-hn0,eY hr x0];exact a4) (λk hk=>by
  rw[zG,yQ]at hk;split at hk<;>cases hk) k hk
 have a5:∀{q:Nat} {x:PIn},S.ins[q]? =some x->(fB S).getD q 0=cQ S x.num:=fun{q x} hq=>by
  unfold fB cQ;have h0:(List.replicate S.ins.length (0:Int)).getD q 0=0:=by
   rw[zG,yQ];split<;>rfl
  have:=pR hr (dJ hq) S.ins (List.replicate S.ins.length 0) (by simp[PSt.nums]) (λx hx e he=>(a0 x hx e he).1) a7 (by rw[h0];omega) (by rw[h0];omega);rw[this,h0]
 have b0 : ∀ (m k:Nat),m+k=S.ins.length->dP (fB S) (dZ S) S.op k (S.ins.drop k)=true:=by
  intro m
  induction m with
  |zero=>intro k hk;rw[zS (by omega)];rfl
  | succ m ih =>
    intro k hk;rw[yH (by omega)];have hx:S.ins[k]? =some S.ins[k]:=gE (by omega);obtain⟨-,-,-,h4⟩:=a6 hx;unfold dP;rw[ih (k+1) (by omega)];by_cases k0:k=0
    .rw[zB k0]
    rw[zA k0];by_cases hd:S.ins[k].dir=true
    .rw[zB hd]at h4;simp only[yI,zE,beq_iff_eq]at h4;rcases h4 with h4|⟨h4,h5⟩
     .omega
     rw[a5 hx,h4,b1 k h5,hd];rfl
    rw [zA hd] at h4;have b6:S.ins[k].dir=false:=by simpa using hd
    rw[b6];simp only[yJ,Bool.not_false,xA,zA (Bool.false_ne_true)];rw[zA];intro hb;simp only[zE,yL,yI,zI]at hb;obtain⟨hb1,hb2⟩:=hb;simp only[yI]at h4;rcases h4 with h4|h4
    .rw[b1 k h4]at hb1;cases hb1
    rcases hb2 with hb2|hb2
    ·
      rw [a5 hx]at hb2;have b7:∃y∈S.ins,y.dir=true/\∃e∈y.ents,e.num=S.ins[k].num:=by
       apply Classical.byContradiction;intro hno;have b2:∀(es:List PEnt) (a:Int),(∀e∈es,e.num≠S.ins[k].num)->sK S.ins[k].num es a=a:=by
        intro es
        induction es with
        |nil=>intro a _;rfl
        | cons e r ihe=>intro a he;unfold sK;rw[zA (by simpa using he e zQ)];exact ihe a λe' h'=>he e' (zL _ h')
       have b3:∀(xs:List PIn) (a:Int),(∀y∈xs,y.dir=true->∀e∈y.ents,e.num≠S.ins[k].num)->lkI S.ins[k].num xs a=a:=by
        intro xs
        induction xs with
        |nil=>intro a _;rfl
        | cons y r ihx=>
          intro a hy;unfold lkI;have:(if y.dir=true then sK S.ins[k].num y.ents a else a)=a:=by
           split
           .rename_i hyd
            exact b2 _ _ (hy y zQ hyd)
           rfl
          rw[this];exact ihx a λz hz=>hy z (zL _ hz)
       have h0:cQ S S.ins[k].num=0:=b3 S.ins 0 λy hy hyd e he h=>hno ⟨y,hy,hyd,e,he,h⟩;omega
      obtain⟨y,hy,hyd,e,he,hen⟩:=b7;obtain⟨q,hq⟩:=List.mem_iff_getElem?.1 hy;have b8:(dZ S).getD q false=true:=by
       by_cases q0:q=0
       .rw[q0];exact a4
       obtain⟨-,-,-,h5⟩:=a6 hq;rw[zB hyd]at h5;simp only[yI,zE,beq_iff_eq]at h5;rcases h5 with h5|h5
       .omega
       exact b1 q h5.2
      have:=b4 q y b8 hq e he;rw[hen,kY hr (dJ hx),zJ]at this;rw[this]at hb1;cases hb1
    rw[show mC S.op S.ins[k].num=eP S S.ins[k].num from rfl,h4]at hb2;cases hb2
 unfold dB;have h1:cZ S.made=true:=by unfold cZ;rw[yM (by omega),yM (by omega)];simp only[Bool.or_false,Bool.not_false,xA,yL];rw[List.any_eq_false];intro m hm;have:=hmade m hm;unfold dK;simp only[yI,zI];omega
 have h2:dH S=true:=by
  have hN:=aHA hins (S.ins.length-1) 1 1 (by omega) (by omega) (by unfold jQ;rw[x0];exact hn0);have hI:S.ins.all (inB S.nums)=true:=by
   rw[yX];intro x hx;obtain⟨q,hq⟩:=List.mem_iff_getElem?.1 hx;obtain⟨a1,a2,a3,-⟩:=a6 hq;unfold inB;split
   .rename_i hd
    rw[zB hd]at a3;have:x.data.size=0:=by simpa using a3
    rw[aGY hr _ _ _ a1 |> (λh=>(h:iJ S.nums x.ents=true)),Bool.and_true,zW];have:x.data.data.toList.length=0:=by simpa using this
    rw[zT this];rfl
   rename_i hd;rw[zA hd]at a3;have:x.ents=[]:=by simpa using a3
   rw[this];simp[a2]
  unfold dH;rcases e:S.ins with _|⟨x,r⟩
  .rw[e]at i1;simp at i1
  simp only[e]at hn0 hd0 hN hI |-;simp only[List.getElem_cons_zero]at hn0 hd0;rw[zB hn0,zB hd0];simp only[List.drop_succ_cons,List.drop_zero]at hN;rw[hN,xA];exact hI
 have h3:mY S=true:=aGZ hr _ _ hop;rw[h1,h2,h3];simp only[Bool.and_self,if_true];have:=b0 S.ins.length 0 (by omega);simpa using this
end
section
def cH (f:Nat->Nat):Nat->Nat
 |0=>0
 |n+1=>cH f n+f n
theorem uR {f:Nat->Nat}:∀{n:Nat},cH f n=1->∃p,p<n/\f p=1/\∀k,k<n->k≠p->f k=0
 |0,h=>by cases h
 | n+1,h=>by
   unfold cH at h;have hz:∀{m:Nat},cH f m=0->∀k,k<m->f k=0:=by
    intro m
    induction m with
    |zero=>intro _ k hk;omega
    | succ m ih=>
      intro h k hk;unfold cH at h;by_cases e:k=m
      .subst e;omega
      exact ih (by omega) k (by omega)
   by_cases e:f n=1
   .exact⟨n,by omega,e,λk hk hne=>hz (m:=n) (by omega) k (by omega)⟩
   obtain⟨p,h1,h2,h3⟩:=uR (f:=f) (n:=n) (by omega);exact⟨p,by omega,h2,λk hk hne=>by
    by_cases e2:k=n
    .subst e2;omega
    exact h3 k (by omega) hne⟩
theorem nX {f g:Nat->Nat}:∀{n:Nat},(∀k,k<n->f k<=g k)->cH f n<=cH g n
 |0,_=>zC _
 | n+1,h=>by unfold cH;have h1:=nX (f:=f) (g:=g) (n:=n) λk hk=>h k (by omega);have h2:=h n (by omega);omega
theorem eN (c n:Nat):cH (λ_=>c) n=n*c:=by
 induction n with
 |zero=>simp[cH]
 |succ n ih=>unfold cH;rw[ih,Nat.succ_mul]
theorem aDK (f g:Nat->Nat) (n:Nat):cH (λk=>f k+g k) n=cH f n+cH g n:=by
 induction n with
 |zero=>rfl
 |succ n ih=>unfold cH;rw[ih];omega
def aW (S:PSt) (k:Nat):List Nat:=match S.ins[k]? with
 |some x=>if x.dir=true then x.ents.map λe=>(bH S e.num).toNat else[]
 |none=>[]
def bS (S:PSt):Nat->List Nat->List Nat
 |0,ns=>ns
 |i+1,ns=>bS S i (ns.flatMap (aW S))
theorem qE (S:PSt):∀i,bS S i []=[]
 |0=>rfl
 |i+1=>by unfold bS;exact qE S i
theorem jV (S:PSt):∀i (as_ bs:List Nat),bS S i (as_++bs)=bS S i as_++bS S i bs
 |0,_,_=>rfl
 | i+1,as_,bs=>by unfold bS;rw[List.flatMap_append];exact jV S i _ _
theorem fZ (S:PSt):∀i ns,bS S (i+1) ns=(bS S i ns).flatMap (aW S)
 |0,_=>rfl
 | i+1,ns=>by show bS S (i+1) (ns.flatMap (aW S))=_;rw[fZ S i];rfl
def aLE (S:PSt):Nat->Nat->Nat
 |0,_=>0
 |f+1,k=>1+((aW S k).map (aLE S f)).sum
theorem aGB (g:Nat->Nat) (n:Nat):cH g (n+1)=g 0+cH (λi=>g (i+1)) n:=by
 induction n with
 |zero=>simp[cH]
 | succ n ih=>rw[cH,ih];simp only[cH];omega
structure Tree (S:PSt):Prop where
 rise:Rise S.nums
 pos:0<S.ins.length
 small:S.ins.length<=257
 found:∀x∈S.ins,∀e∈x.ents,0<=bH S e.num/\bH S e.num<S.ins.length
 root:∀k,0∉aW S k
 once:∀j x,S.ins[j]? =some x->x.dir=true->j≠0->cH (λk=>(aW S k).count j) S.ins.length<=1
 many:∀x∈S.ins,x.ents.length<=32
 name:∀x∈S.ins,∀e∈x.ents,e.name.size<=12
 data:∀x∈S.ins,x.data.size<=256
section
variable {S:PSt}
theorem Tree.kid_lt (h:Tree S) {k j:Nat} (hj:j∈aW S k):j<S.ins.length:=by
 unfold aW at hj;split at hj
 .rename_i x hx
  split at hj
  .obtain⟨e,he,rfl⟩:=List.mem_map.1 hj;have:=h.found x (mG hx) e he;omega
  cases hj
 cases hj
def dU (S:PSt) (k:Nat):Bool:=match S.ins[k]? with|some x=>x.dir|none=>false
theorem uS {k:Nat} (h:aW S k≠[]):dU S k=true:=by
 unfold aW at h;unfold dU;split at h
 .rename_i x hx
  rcases hd:x.dir with _|_
  .rw[hd]at h;simp at h
  rfl
 exact absurd rfl h
theorem Tree.lev_lt (h:Tree S):∀i j,j∈bS S i [0]->j<S.ins.length
 | 0,j,hj=>by have:j=0:=List.mem_singleton.1 hj;have:=h.pos;omega
 | i+1,j,hj=>by rw[fZ]at hj;obtain⟨k,_,hk⟩:=List.mem_flatMap.1 hj;exact h.kid_lt hk
theorem uT (f:Nat->List Nat) (j:Nat):∀l:List Nat,(l.flatMap f).count j=(l.map λk=>(f k).count j).sum
 |[]=>rfl
 | k::r=>by rw[List.flatMap_cons,List.count_append,uT f j r];rfl
theorem uU {c:Nat->Nat} {p:Nat} (hp:c p=1):∀l:List Nat,(∀k∈l,k≠p->c k=0)->(l.map c).sum=l.count p
 |[],_=>rfl
 | k::r,h=>by
   rw[yZ,List.sum_cons,uU hp r λk hk=>h k (zL _ hk),List.count_cons];by_cases e:k=p
   .subst e;rw[hp];simp;omega
   rw[h k zQ e];simp[e]
theorem nG {c:Nat->Nat}:∀l:List Nat,(∀k∈l,c k=0)->(l.map c).sum=0
 |[],_=>rfl
 | k::r,h=>by rw[yZ,List.sum_cons,nG r λk hk=>h k (zL _ hk),h k zQ]
theorem Tree.visit (h:Tree S):∀(l j:Nat),dU S j=true->cH (λi=>(bS S i [0]).count j) (l+1)<=1
 | 0,j,_=>by
   simp only[cH,bS];rw[List.count_singleton];split<;>omega
 | l + 1,j,hj=>by
   rw[aGB];have a0:∀i,(bS S (i+1) [0]).count j=((bS S i [0]).map λk=>(aW S k).count j).sum:=λi=>by rw[fZ,uT]
   simp only[a0];by_cases j0:j=0
   .subst j0;have hz:∀i,((bS S i [0]).map λk=>(aW S k).count 0).sum=0:=λi=>nG _ λk _=>List.count_eq_zero.2 (h.root k)
    simp only[hz];rw[eN];simp[bS]
   have h0:(bS S 0 [0]).count j=0:=List.count_eq_zero.2 (by simp[bS];exact j0);rw[h0,zM];have hx:∃x,S.ins[j]? =some x/\x.dir=true:=by
    unfold dU at hj;split at hj
    .rename_i x hx;exact⟨x,hx,hj⟩
    cases hj
   obtain⟨x,hx1,hx2⟩:=hx;have ho:=h.once j x hx1 hx2 j0;rcases Nat.lt_or_ge 0 (cH (λk=>(aW S k).count j) S.ins.length)with hp|hp
   .obtain⟨p,p1,p2,p3⟩:=uR (f:=λk=>(aW S k).count j) (n:=S.ins.length) (by omega);have a1:dU S p=true:=uS (λe=>by simp only[e]at p2;simp at p2);have hi:∀i,((bS S i [0]).map λk=>(aW S k).count j).sum=(bS S i [0]).count p:=λi=>uU (c:=λk=>(aW S k).count j) (p:=p) p2 _ λk hk hne=>p3 k (h.lev_lt i k hk) hne
    simp only[hi];exact h.visit l p a1
   have hz:∀k,k<S.ins.length->(aW S k).count j=0:=by
    have key:∀(n:Nat),cH (λk=>(aW S k).count j) n=0->∀k,k<n->(aW S k).count j=0:=by
     intro n
     induction n with
     |zero=>intro _ k hk;omega
     | succ n ih=>
       intro e k hk;unfold cH at e;by_cases e2:k=n
       .subst e2;omega
       exact ih (by omega) k (by omega)
    exact key _ (by omega)
   have hi:∀i,((bS S i [0]).map λk=>(aW S k).count j).sum=0:=λi=>nG _ λk hk=>hz k (h.lev_lt i k hk);simp only[hi];rw[eN];omega
theorem aGC (S:PSt) (n:Nat):∀l:List Nat,(∀k∈l,k<n)->l.countP (dU S)=cH (λj=>if dU S j=true then l.count j else 0) n:=by
 intro l
 induction l with
 | nil=>
   intro _;have:(λj=>if dU S j=true then([]:List Nat).count j else 0)=λ_=>0:=by funext j;simp
   rw[this,eN];simp
 | cons k r ih=>
   intro hl;have hk:=hl k zQ;rw[List.countP_cons,ih λk hk=>hl k (zL _ hk)];have e:(λj=>if dU S j=true then(k::r).count j else 0)=λj=>(if dU S j=true then r.count j else 0)+(if j=k then(if dU S k=true then 1 else 0)else 0):=by
    funext j;rw[List.count_cons];by_cases e1:j=k
    .subst e1;simp
     split<;>rfl
    have:(k==j)=false:=by rw[yF];exact λh=>e1 h.symm
    simp[this,e1]
   rw[e,aDK];congr 1;have a0:∀(n k v:Nat),k<n->cH (λj=>if j=k then v else 0) n=v:=by
    intro n
    induction n with
    |zero=>intro k v hk;omega
    | succ n ihn=>
      intro k v hk;unfold cH;by_cases e2:k=n
      .subst e2;have:cH (λj=>if j=k then v else 0) k=0:=by
        have hm:cH (λj=>if j=k then v else 0) k<=cH (λ_=>0) k:=nX λj hj=>by rw[zA (by omega)];exact zC _
        rw[eN]at hm;omega
       rw[this,zB rfl];omega
      rw[ihn k v (by omega),zA (λh=>e2 h.symm),zN]
   rw[a0 n k _ hk]
theorem xM (g:Nat->Nat->Nat) (n:Nat):∀m,cH (λi=>cH (λj=>g i j) n) m=cH (λj=>cH (λi=>g i j) m) n
 | 0=>by simp only[cH];rw[eN];rfl
 | m+1=>by rw[cH,xM g n m];rw[<-aDK];rfl
theorem Tree.dirs (h:Tree S) (l:Nat):cH (λi=>(bS S i [0]).countP (dU S)) (l+1)<=S.ins.length:=by
 have e:∀i,(bS S i [0]).countP (dU S)=cH (λj=>if dU S j=true then(bS S i [0]).count j else 0) S.ins.length:=λi=>aGC S S.ins.length _ λk hk=>h.lev_lt i k hk;simp only[e];rw[xM];have hb:cH (λj=>cH (λi=>if dU S j=true then(bS S i [0]).count j else 0) (l+1)) S.ins.length<=cH (λ_=>1) S.ins.length:=nX λj hj=>by
  by_cases hd:dU S j=true
  .simp only[hd,if_true];exact h.visit l j hd
  simp only[hd,zA (Bool.false_ne_true)];have:cH (λ_=>0) (l+1)=0:=by rw[eN];rfl
  simp[this]
 rw[eN]at hb;omega
theorem aHY {f:Nat->Nat}:∀{n i:Nat},i<n->f i<=cH f n
 |0,_,h=>by omega
 | n+1,i,h=>by
   unfold cH;by_cases e:i=n
   .subst e;omega
   have:=aHY (f:=f) (n:=n) (i:=i) (by omega);omega
theorem Tree.ends (h:Tree S):bS S 258 [0]=[]:=by
 have a0:∃i,i<258/\(bS S i [0]).countP (dU S)=0:=by
  apply Classical.byContradiction;intro hn;have h1:cH (λ_=>1) 258<=cH (λi=>(bS S i [0]).countP (dU S)) 258:=nX λi hi=>by
   rcases Nat.lt_or_ge 0 ((bS S i [0]).countP (dU S))with h2|h2
   .exact h2
   exact absurd ⟨i,hi,by omega⟩ hn
  rw[eN]at h1;have h2:cH (λi=>(bS S i [0]).countP (dU S)) 258<=S.ins.length:=h.dirs 257;have h4:=h.small;omega
 obtain⟨i,hi,hz⟩:=a0;have h1:bS S (i+1) [0]=[]:=by rw[fZ];rw[List.flatMap_eq_nil_iff];intro k hk;apply Classical.byContradiction;intro hne;have:=List.countP_eq_zero.1 hz k hk;exact this (uS hne)
 have key:∀m,bS S (i+1+m) [0]=[]:=by
  intro m
  induction m with
  |zero=>exact h1
  |succ m ih=>rw[<-Nat.add_assoc,fZ,ih];rfl
 have:=key (258-(i+1));rw[show i+1+(258-(i+1))=258 by omega]at this;exact this
theorem aTD {k:Nat} {n:Int} (h0:0<=bH S n) (hk:(bH S n).toNat=k):cG (lI n) S.ins=(k:Int):=by show bH S n=_;omega
theorem Tree.ok (h:Tree S):∀(f:Nat) (n:Int),0<=bH S n->bH S n<S.ins.length->bS S f [(bH S n).toNat]=[]->aOU S f n=true
 |0,n,h0,h1,hl=>by cases hl
 | f +1,n,h0,h1,hl=>by
   unfold aOU;rw[aTD h0 rfl,zJ];have hx:S.ins[(bH S n).toNat]? =some (S.ins[(bH S n).toNat]'(by omega)):=gE (by omega);rw[hx];simp only[zE,zI];refine⟨by omega,?_⟩;rcases hd:(S.ins[(bH S n).toNat]'(by omega)).dir with _|_
   .rfl
   simp only[Bool.not_true,Bool.false_or,yX];intro e he;have hf:=h.found _ (List.getElem_mem (by omega)) e he;refine h.ok f e.num hf.1 hf.2 ?_;have a0:bS S f (aW S (bH S n).toNat)=[]:=by have:bS S (f+1) [(bH S n).toNat]=bS S f ([(bH S n).toNat].flatMap (aW S)):=rfl;rw[this]at hl;simpa using hl
   have hm:(bH S e.num).toNat∈aW S (bH S n).toNat:=by unfold aW;rw[hx];simp only;rw[zB hd];exact List.mem_map_of_mem he
   obtain⟨as_,bs,e2⟩:=List.append_of_mem hm;rw[e2,show(bH S e.num).toNat::bs=[(bH S e.num).toNat]++bs from rfl,jV,jV]at a0;exact(List.append_eq_nil_iff.1 (List.append_eq_nil_iff.1 a0).2).1
theorem Tree.len (h:Tree S):∀(f:Nat) (n:Int) (p:Nat),aQT S f n p<=aLE S f (bH S n).toNat*(p+13*f+552)
 |0,n,p=>Nat.zero_le _
 | f + 1,n,p=>by
   unfold aQT aLE;have ei:(cG (lI n) S.ins).toNat=(bH S n).toNat:=rfl;rw[ei];rcases hx:S.ins[(bH S n).toNat]? with _|x
   .exact Nat.zero_le _
   simp only;have hk:aW S (bH S n).toNat=if x.dir=true then x.ents.map λe=>(bH S e.num).toNat else[]:=by unfold aW;rw[hx]
   have a0:=mG hx;by_cases hd:x.dir=true
   .rw[zB hd];rw[zB hd]at hk;rw[hk,List.map_map];have h1:=aOT (λe:PEnt=>aQT S f e.num (p+1+e.name.size)) (λe=>aLE S f (bH S e.num).toNat*(p+13*(f+1)+552)) x.ents λe he=>by
     have h2:=h.len f e.num (p+1+e.name.size);have h3:=h.name x a0 e he;exact zD h2 (Nat.mul_le_mul_left _ (by omega))
    have h4:(x.ents.map λe=>aLE S f (bH S e.num).toNat*(p+13*(f+1)+552)).sum=(x.ents.map (aLE S f∘λe=>(bH S e.num).toNat)).sum*(p+13*(f+1)+552):=by
     generalize p+13*(f+1)+552=c
     induction x.ents with
     |nil=>simp
     |cons e r ih=>simp only[yZ,List.sum_cons,Function.comp];rw[ih,Nat.add_mul]
    rw[h4]at h1;rw[Nat.add_mul,Nat.one_mul];omega
   rw[zA hd];have h5:=h.data x a0;rw[Nat.add_mul,Nat.one_mul];have:p+2*x.data.size+40<=p+13*(f+1)+552:=by omega
   omega
end
end
end Go.Proofs.YtmkapobnfigedaaGreatDoor
