/- A part of a proof of a law. Conditions: none. -/
import Derived.Test.YtmkapobnfigedaaGreatDoorDp01
set_option linter.unusedVariables false
set_option linter.unusedSimpArgs false
set_option maxRecDepth 100000
set_option maxHeartbeats 40000000
namespace Go.Proofs.YtmkapobnfigedaaGreatDoor
open Go.Proofs.Tryz List Go.RowKit
theorem aWL (d:PDesc) (n:Int) (bx:Nat) (w:World) (ib:BlockLt bx w) (c:w.cell? bx=some (.int .i64 n)):
 vR w 104 #[.agg #[d.core,d.fd,d.num],.pointer bx] (.bool (d.num==n)):=by
 unfold vR;go_in;go_wp2;go_ret;exact gAC
theorem aWM (op:List PDesc) (v:Value) (n:Int) (bx:Nat) (w:World) (h:RowAt w 3 v (op.map PDesc.cells)) (hlen:op.length<=1000000000) (ib:BlockLt bx w) (c:w.cell? bx=some (.int .i64 n)):
 vR w 103 #[v,.func (.func 104) #[] #[.pointer bx]] (.bool (op.any λd=>d.num==n)):=by
 have hv:=h.one;have hc:∀w',Bl w w'->Calls prog 136 #[v,.func (.func 104) #[] #[.pointer bx]] w' λe w''=>e=.returned (.int .i64 (cV (λd:PDesc=>d.num==n) op))/\Below w'.heap.size w' w'':=
  λw' hb=>aUV op v (.pointer bx) (λd=>d.num==n) w' (h.below hb (zC _)) hlen (λz ww _ hww=>aWL z n bx ww ⟨by have:=hb.size;have:=hww.size;have:=ib.lt;omega⟩ (((hb.trans (hww.mono hb.size)).cell (p:=bx) ib.lt).trans c))
 have ha:=aHZ (λd:PDesc=>d.num==n) op;generalize(op.any λd=>d.num==n)=A at ha |-;subst ha;generalize cV (λd:PDesc=>d.num==n) op=R at hc |-;clear h c;unfold vR;go_in;go_wp2_with((go_at_call 136;refine aE (hc _ (bel _ _)) λp=>?_));go_ret;exact⟨by first|rfl|simp_all,bel _ _⟩
def nC (op:List PDesc) (n:Int):Bool:=op.any λd=>d.num==n
theorem aTH (b:Nat) (S:PSt) (n:Int) (w:World) (h:SP w b S) (hwf:S.wf):
 vR w 72 #[.pointer b,.int .i64 n] (.bool (nC S.op n)):=by
 have ib:BlockLt b w:=⟨h.1⟩;have a0:=hwf.2.1;obtain⟨hl,iv,ov,mv,c0,c1,c2,hr⟩:=h;have hc:∀w' bx,Bl w w'->BlockLt bx w'->w'.cell? ⟨bx,0,none⟩=some (.int .i64 n)->Calls prog 103 #[ov,.func (.func 104) #[] #[.pointer (some ⟨bx,0,none⟩)]] w' λe w''=>e=.returned (.bool (nC S.op n))/\Below w'.heap.size w' w'':=
  λw' bx hb i c=>aWM S.op ov n bx w' (hr.1.below hb (zC _)) a0 i c
 have ho:=hr.1.one;clear hr hwf c0 c2;unfold vR;go_in;go_wp2_with((go_at_call 103;refine aE (hc _ _ (bel _ _) inferInstance (by go_simp)) λp=>?_));go_ret;exact gAC
def kN (p:Option PDesc) (d:PDesc):Bool:=match p with|some o=>decide (d.core<o.core)||(decide (o.core=d.core)&&decide (d.fd<=o.fd))|none=>false
def fL (S:PSt):Option PDesc->List PDesc->Bool
 |_,[]=>true
 | p,d::r=>
   if d.core<0 then false else if S.made.length<=d.core then false else if d.fd<0 then false else if 4<=d.fd then false else if kN p d=true then false else
   if aK S.nums d.num<0 then false else match S.ins[(aK S.nums d.num).toNat]? with
   |some x=>if x.dir=true then false else fL S (some d) r
   |none=>false
def pI (S:PSt):Bool:=fL S none S.op
def xU (ds:List PDesc) (q:Nat):Option PDesc:=if q=0 then none else ds[q-1]?
theorem aOY (b:Nat) (S:PSt) (w:World) (h:SP w b S) (hwf:S.wf):
 vR w 70 #[.pointer b] (.bool (pI S)):=by
 have hf:∀ww,Bl w ww->∀n,vR ww 102 #[.pointer b,.int .i64 n] (.int .i64 (aK S.nums n)):=
  λww hb n=>jU b S n ww (h.below hb (zC _)) hwf
 obtain⟨hl,iv,ov,mv,c0,c1,c2,hr⟩:=h;have ib:BlockLt b w:=⟨hl⟩;have a9:=hwf.2.1;have a6:=hwf.1;have c5:=aC hwf.2.2.2.2.1;obtain⟨ai,capi,rfl,hati⟩:=hr.ins_at;obtain⟨ao,capo,rfl,hato⟩:=hr.1.at_;obtain⟨am,capm,rfl,-⟩:=hr.2.1;rw[lM]at c1 c2;have HI:=aC hati;have HO:=aC hato;have c6:=hwf.2.2.1;clear hr hwf hati hato;unfold pI;obtain⟨R,hR⟩:=gAB (fL S none S.op);rw[hR];have HR:=aC hR;clear hR;unfold vR;go_in;go_wp2
 go_loopw[11] (λi wr=>∃(q:Nat),i=.int .i64 q/\q<=S.op.length/\fL S (xU S.op q) (S.op.drop q)=R/\Bl w wr) (λi _=>(S.op.length-intOf i).toNat)
 case atStart=>exact⟨0,rfl,by omega,HR.out,bel _ _⟩
 obtain⟨q,rfl,hq,hre,hb⟩:=hrel;have iB:Bel w wr:=⟨hb⟩;have c7:BlockLt b wr:=⟨by have:=hb.size;have:=ib.lt;omega⟩;have c8:wr.cell? b=some (.slice ai S.ins.length capi):=(hb.cell (p:=b) ib.lt).trans c0;have c9:wr.cell? ⟨b,1,none⟩=some (.slice ao S.op.length capo):=(hb.cell (p:=⟨b,1,none⟩) ib.lt).trans c1;have d3:wr.cell? ⟨b,2,none⟩=some (.slice am S.made.length capm):=(hb.cell (p:=⟨b,2,none⟩) ib.lt).trans c2;by_cases hlt:q<S.op.length
 .obtain ⟨d,hd⟩:∃d,S.op[q]? =some d:=⟨_,gE hlt⟩
  rw[cQ hd]at hre;unfold fL at hre;obtain⟨bo,off,rfl,iG0,iG,hc⟩:=HO.out wr hb q d.cells (by rw[gM,hd];rfl);have d0:=hc 0 _ rfl;have d1:=hc 1 _ rfl;have d2:=hc 2 _ rfl;rw[zN]at d0;have a0:∀ww,Bl w ww->Calls prog 102 #[.pointer b,d.num] ww _:=λww hww=>hf ww hww d.num;have a7:=cX S.nums d.num;have d4:S.nums.length=S.ins.length:=by unfold PSt.nums;rw[lM]
  have a8:xU S.op (q+1)=some d:=by unfold xU;rw[zA (by omega),Nat.add_sub_cancel,hd]
  have a4:=aC a8;have b0:(q=0/\xU S.op q=none)\/∃(k:Nat) (y:PDesc),(q:Int)-1=k/\0<q/\k<S.op.length/\xU S.op q=some y/\wr.cell? ⟨bo,off+k*3,none⟩=some (.int .i64 y.core)/\wr.cell? ⟨bo,off+k*3+1,none⟩=some (.int .i64 y.fd):=by
   by_cases hq0:q=0
   .exact .inl ⟨hq0,by simp[xU,hq0]⟩
   have hk:q-1<S.op.length:=by omega
   have hy:S.op[q-1]? =some S.op[q-1]:=gE hk;obtain⟨b2,off2,he2,_,_,hc2⟩:=HO.out wr hb (q-1) S.op[q-1].cells (by rw[gM,hy];rfl);cases he2;exact .inr ⟨q-1,S.op[q-1],by omega,by omega,hk,by unfold xU;rw[zA hq0,hy],hc2 0 _ rfl,hc2 1 _ rfl⟩
  clear hc hd a8 hf;by_cases g1:d.core<0
  .rw[zB g1]at hre;have b1:decide (d.core<0)=true:=decide_eq_true g1;subst hre;go_wp2;refine qR ?_
   repeat(go_big_quiet_step (fail))
   refine QN λp=>?_;go_wp2;go_ret;exact gAC
  rw[zA g1]at hre;have b1:decide (d.core<0)=false:=yM g1;by_cases g2:S.made.length<=d.core
  .rw[zB g2]at hre;have b3:decide ((S.made.length:Int)<=d.core)=true:=decide_eq_true g2;subst hre;go_wp2;refine qR ?_
   repeat(go_big_quiet_step (fail))
   refine QN λp=>?_;go_wp2;go_ret;exact gAC
  rw[zA g2]at hre;have b3:decide ((S.made.length:Int)<=d.core)=false:=yM g2;by_cases g3:d.fd<0
  .rw[zB g3]at hre;have b4:decide (d.fd<0)=true:=decide_eq_true g3;subst hre;go_wp2;refine qR ?_
   repeat(go_big_quiet_step (fail))
   refine QN λp=>?_;go_wp2;go_ret;exact gAC
  rw[zA g3]at hre;have b4:decide (d.fd<0)=false:=yM g3;by_cases g4:4<=d.fd
  .rw[zB g4]at hre;have b5:decide (4<=d.fd)=true:=decide_eq_true g4;subst hre;go_wp2;refine qR ?_
   repeat(go_big_quiet_step (fail))
   refine QN λp=>?_;go_wp2;go_ret;exact gAC
  rw [zA g4]at hre;have b5:decide (4<=d.fd)=false:=yM g4;generalize aK S.nums d.num=fv at a0 hre a7;generalize hT:(if fv<0 then false else match S.ins[fv.toNat]? with|some x=>if x.dir=true then false else fL S (some d) (S.op.drop (q+1))|none=>false)=T at hre;have a1:(fv<0/\false=T)\/∃(k2:Nat) (x:PIn) (bi offi:Nat),fv=k2/\k2<S.ins.length/\ai=some ⟨bi,offi,none⟩/\BlockLt bi wr/\wr.cell? ⟨bi,offi+k2*4+1,none⟩=some (.bool x.dir)/\(if x.dir=true then false else fL S (some d) (S.op.drop (q+1)))=T:=by
   by_cases h2:fv<0
   .rw[zB h2]at hT;exact .inl ⟨h2,hT⟩
   rw[zA h2]at hT;have hk:fv.toNat<S.ins.length:=by omega
   have hx:S.ins[fv.toNat]? =some S.ins[fv.toNat]:=gE hk;rw[hx]at hT;obtain⟨bi,offi,ev,he,_,i2,_,_,_,y1,_,_⟩:=HI.out wr hb _ _ hx;exact .inr ⟨fv.toNat,_,bi,offi,by omega,hk,he,i2,y1,hT⟩
  have HF:=aC a1;clear hT a1 a7;rcases b0 with⟨hq0,hp⟩|⟨k,y,hk1,hq1,hkl,hp,p0,p1⟩
  .subst hq0;rw[hp,show kN none d=false from rfl,zA (by decide)]at hre;subst hre;clear hp;simp only[Nat.zero_mul,zN]at d0 d1 d2;have a2:=HF.out;clear HF;rcases a2 with⟨h2,hre⟩|⟨k2,x,bi,offi,hk2,hkl2,hai,iBi,m1,hre⟩
   .subst hre;go_wp2;refine qR ?_
    repeat(go_big_quiet_step (fail))
    refine QN λp=>?_;go_wp2;refine qR ?_
    repeat(go_big_quiet_step (fail))
    refine QN λp=>?_;go_wp2_with((go_at_call 102;refine aE (a0 _ (bel _ _)) λp=>?_));go_ret;exact gAC
   subst hk2;subst hai;by_cases hd:x.dir=true
   .rw[zB hd]at hre;rw[hd]at m1;subst hre;go_wp2;refine qR ?_
    repeat(go_big_quiet_step (fail))
    refine QN λp=>?_;go_wp2;refine qR ?_
    repeat(go_big_quiet_step (fail))
    refine QN λp=>?_;go_wp2_with((go_at_call 102;refine aE (a0 _ (bel _ _)) λp=>?_));go_ret;exact gAC
   rw[zA hd]at hre;have hd:x.dir=false:=by simpa using hd
   rw[hd]at m1;have a3:=aC hre;clear hre hd;go_wp2;refine qR ?_
   repeat(go_big_quiet_step (fail))
   refine QN λp=>?_;go_wp2;refine qR ?_
   repeat(go_big_quiet_step (fail))
   refine QN λp=>?_;go_wp2_with((go_at_call 102;refine aE (a0 _ (bel _ _)) λp=>?_));go_roundw
   case rel=>exact⟨0+1,by go_num,by omega,by rw[a4.out];exact a3.out,bel _ _⟩
   simp[intOf];omega
  have d5 : IntKind.i64.wrap (k:Int)=k:=I64.wrap ⟨by omega,by omega⟩;have a5:0<(q:Int):=by omega
  have b6:decide (0<(q:Int))=true:=decide_eq_true a5;have b7:decide (0<q)=true:=decide_eq_true hq1;rw[hp,show kN (some y) d=(decide (d.core<y.core)||(decide (y.core=d.core)&&decide (d.fd<=y.fd)))from rfl]at hre;clear hp;by_cases p2:d.core<y.core
  .have b8:decide (d.core<y.core)=true:=decide_eq_true p2;rw[show (decide (d.core<y.core)||(decide (y.core=d.core)&&decide (d.fd<=y.fd)))=true by simp[p2],zB rfl]at hre;subst hre;clear HF;go_wp2;refine qR ?_
   repeat(go_big_quiet_step (fail))
   refine QN λp=>?_;go_wp2;refine qR ?_
   repeat(go_big_quiet_step (fail))
   refine QN λp=>?_;go_wp2;go_ret;exact gAC
  have b8 :decide (d.core<y.core)=false:=yM p2;by_cases p3:y.core=d.core
  .have b9:(y.core==d.core)=true:=by simpa using p3
   by_cases p4:d.fd<=y.fd
   .have c3:decide (d.fd<=y.fd)=true:=decide_eq_true p4;rw[show (decide (d.core<y.core)||(decide (y.core=d.core)&&decide (d.fd<=y.fd)))=true by simp[p3,p4],zB rfl]at hre;subst hre;clear HF p3;go_wp2;refine qR ?_
    repeat(go_big_quiet_step (fail))
    refine QN λp=>?_;go_wp2;refine qR ?_
    repeat(go_big_quiet_step (fail))
    refine QN λp=>?_;go_wp2;go_ret;exact gAC
   have c3:decide (d.fd<=y.fd)=false:=yM p4;rw[show (decide (d.core<y.core)||(decide (y.core=d.core)&&decide (d.fd<=y.fd)))=false by simp[p2,p4],zA (by decide)]at hre;subst hre;have a2:=HF.out;clear HF p3;rcases a2 with⟨h2,hre⟩|⟨k2,x,bi,offi,hk2,hkl2,hai,iBi,m1,hre⟩
   .subst hre;go_wp2;refine qR ?_
    repeat(go_big_quiet_step (fail))
    refine QN λp=>?_;go_wp2;refine qR ?_
    repeat(go_big_quiet_step (fail))
    refine QN λp=>?_;go_wp2_with((go_at_call 102;refine aE (a0 _ (bel _ _)) λp=>?_));go_ret;exact gAC
   subst hk2;subst hai;by_cases hd:x.dir=true
   .rw[zB hd]at hre;rw[hd]at m1;subst hre;go_wp2;refine qR ?_
    repeat(go_big_quiet_step (fail))
    refine QN λp=>?_;go_wp2;refine qR ?_
    repeat(go_big_quiet_step (fail))
    refine QN λp=>?_;go_wp2_with((go_at_call 102;refine aE (a0 _ (bel _ _)) λp=>?_));go_ret;exact gAC
   rw[zA hd]at hre;have hd:x.dir=false:=by simpa using hd
   rw[hd]at m1;have a3:=aC hre;clear hre hd;go_wp2;refine qR ?_
   repeat(go_big_quiet_step (fail))
   refine QN λp=>?_;go_wp2;refine qR ?_
   repeat(go_big_quiet_step (fail))
   refine QN λp=>?_;go_wp2_with((go_at_call 102;refine aE (a0 _ (bel _ _)) λp=>?_));go_roundw
   case rel=>exact⟨q+1,by go_num,by omega,by rw[a4.out];exact a3.out,bel _ _⟩
   simp[intOf];omega
  have b9:(y.core==d.core)=false:=by simpa using p3
  rw[show (decide (d.core<y.core)||(decide (y.core=d.core)&&decide (d.fd<=y.fd)))=false by simp[p2,p3],zA (by decide)]at hre;subst hre;have a2:=HF.out;clear HF p3;rcases a2 with⟨h2,hre⟩|⟨k2,x,bi,offi,hk2,hkl2,hai,iBi,m1,hre⟩
  .subst hre;go_wp2;refine qR ?_
   repeat(go_big_quiet_step (fail))
   refine QN λp=>?_;go_wp2;refine qR ?_
   repeat(go_big_quiet_step (fail))
   refine QN λp=>?_;go_wp2_with((go_at_call 102;refine aE (a0 _ (bel _ _)) λp=>?_));go_ret;exact gAC
  subst hk2;subst hai;by_cases hd:x.dir=true
  .rw[zB hd]at hre;rw[hd]at m1;subst hre;go_wp2;refine qR ?_
   repeat(go_big_quiet_step (fail))
   refine QN λp=>?_;go_wp2;refine qR ?_
   repeat(go_big_quiet_step (fail))
   refine QN λp=>?_;go_wp2_with((go_at_call 102;refine aE (a0 _ (bel _ _)) λp=>?_));go_ret;exact gAC
  rw[zA hd]at hre;have hd:x.dir=false:=by simpa using hd
  rw[hd]at m1;have a3:=aC hre;clear hre hd;go_wp2;refine qR ?_
  repeat(go_big_quiet_step (fail))
  refine QN λp=>?_;go_wp2;refine qR ?_
  repeat(go_big_quiet_step (fail))
  refine QN λp=>?_;go_wp2_with((go_at_call 102;refine aE (a0 _ (bel _ _)) λp=>?_));go_roundw
  case rel=>exact⟨q+1,by go_num,by omega,by rw[a4.out];exact a3.out,bel _ _⟩
  simp[intOf];omega
 rw[zS (by omega)]at hre;have c4:true=R:=by rw[<-hre];rfl
 subst c4;clear hf hre;go_wp2;go_ret;exact gAC
end Go.Proofs.YtmkapobnfigedaaGreatDoor
