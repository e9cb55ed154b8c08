/- A part of a proof of a law. Conditions: none. -/
import Derived.Test.YtmkapobnfigedaaGreatDoorDp16
import Derived.Test.YtmkapobnfigedaaGreatDoorDp21
set_option linter.unusedVariables false
set_option linter.unusedSimpArgs false
set_option maxRecDepth 100000
set_option maxHeartbeats 40000000
namespace Go.Proofs.YtmkapobnfigedaaGreatDoor
open Go.Proofs.Tryz List Go.RowKit
theorem aKR (b:Nat) (S:PSt) (iv ov mv:Value) (kd core f0 off nu:Int) (path p2 dt:ByteArray) (w:World) (hb:Blk w b #[iv,ov,mv] 26) (ho:StRead w iv ov mv S) (hfR:FineR S) (num:Int) (C:Int) (hfind:eY S path=(num,C)) (hC:C≠0):
 vR w 94 #[.pointer b,.agg #[kd,core,f0,off,nu,path,p2,dt],.int .i64 (-1)] (.tuple #[aR C 0 0,true]):=by
 have a0:=c46 ho hfR hfind;have a1:=λww=>bE C ww;obtain⟨ai,ni,ci,ao,no,co,am,nm',cm,rfl,rfl,rfl⟩:=ho.slices;obtain⟨iL,s0,s1,s2⟩:=gR hb;have a3:(C !=0)=true:=by simpa using hC
 have a2:(C==0)=false:=by simpa using hC
 clear ho hb hfR hfind;unfold vR;go_in;go_upto_region 1 with fail;refine qR ?_
 repeat(go_big_quiet_step ((with_reducible first|refine cI (a0 _ (bel _ _))|refine cJ (a0 _ (bel _ _)))))
 refine QN λp=>?_;go_wp2_with(fail);refine qR ?_
 repeat(go_big_quiet_step (fail))
 refine QN λp=>?_;go_wp2_with(first|(go_at_call 92;refine aE (a1 _) λp=>?_));exact xD (v:=.tuple #[aR C 0 0,true]) (by unfold results;simp only[results94,aR];go_simp) rfl ⟨rfl,bel w _⟩
theorem aKS (b:Nat) (S:PSt) (iv ov mv:Value) (kd core f0 off nu:Int) (path p2 dt:ByteArray) (w:World) (hb:Blk w b #[iv,ov,mv] 26) (ho:StRead w iv ov mv S) (hfR:FineR S) (num:Int) (C:Int) (hfind:eY S path=(num,C)) (hC:C=0) (K:Nat) (x:PIn) (hat:bP S num=K) (hx:S.ins[K]? =some x) (hd:x.dir=true):
 vR w 94 #[.pointer b,.agg #[kd,core,f0,off,nu,path,p2,dt],.int .i64 (-1)] (.tuple #[aR 8 0 0,true]):=by
 have a0:=c46 ho hfR hfind;have a3:=λww=>bE 8 ww;have a2:=vK ho hfR.wf.1 hat;obtain⟨hxl,-⟩:=gI.1 hx;have a4:∀i ww,Bl w ww->vR ww 43 #[.agg #[iv,ov,mv],.int .i64 core,.int .i64 i] (.int .i64 (oE S core i)):=λi ww hb=>aWV S iv ov mv core i ww (ho.below hb (zC _)) hfR.wf.2.1;have a5:=hb;have a6:=ho;obtain⟨a1,n1',c1,ao,no,co,am,nm',cm,rfl,rfl,rfl⟩:=ho.slices;obtain⟨ai,ci,e1,hai⟩:=ho.ins_at2;cases e1;obtain⟨bi,oi,ev,he,iI0,hoi,her,hci⟩:=hai K x hx;subst he;obtain⟨iI,-,x1,-,-⟩:=hci w (Below.refl _ _);rw[hd]at x1;have a7:(K:Int)<S.ins.length:=by omega
 obtain⟨iL,s0,s1,s2⟩:=gR hb;subst hC;clear ho hb hfR hfind a5 a6 hx hd hai her hci hoi hat a4;unfold vR;go_in;go_upto_region 1 with fail;refine qR ?_
 repeat(go_big_quiet_step ((with_reducible first|refine cI (a0 _ (bel _ _))|refine cJ (a0 _ (bel _ _)))))
 refine QN λp=>?_;go_wp2_with(fail);refine qR ?_
 repeat(go_big_quiet_step ((with_reducible first|refine cI (a2 _ (bel _ _))|refine cJ (a2 _ (bel _ _)))))
 refine QN λp=>?_;go_wp2_with(first|(go_at_call 92;refine aE (a3 _) λp=>?_));exact xD (v:=.tuple #[aR 8 0 0,true]) (by unfold results;simp only[results94,aR];go_simp) rfl ⟨rfl,bel w _⟩
theorem aKT (b:Nat) (S:PSt) (iv ov mv:Value) (kd core f0 off nu:Int) (path p2 dt:ByteArray) (w:World) (hb:Blk w b #[iv,ov,mv] 26) (ho:StRead w iv ov mv S) (hfR:FineR S) (num:Int) (C:Int) (hfind:eY S path=(num,C)) (hC:C=0) (K:Nat) (x:PIn) (hat:bP S num=K) (hx:S.ins[K]? =some x) (hd:x.dir=false) (hfd:∀i:Int,0<=i->i<=3->oE S core i≠0):
 vR w 94 #[.pointer b,.agg #[kd,core,f0,off,nu,path,p2,dt],.int .i64 (-1)] (.tuple #[aR 10 0 0,true]):=by
 have a5:=c46 ho hfR hfind;have a9:=λww=>bE 10 ww;have a6:=vK ho hfR.wf.1 hat;obtain⟨hxl,-⟩:=gI.1 hx;have a3:∀i ww,Bl w ww->vR ww 43 #[.agg #[iv,ov,mv],.int .i64 core,.int .i64 i] (.int .i64 (oE S core i)):=λi ww hb=>aWV S iv ov mv core i ww (ho.below hb (zC _)) hfR.wf.2.1;have a7:=hb;have b0:=ho;obtain⟨a1,n1',c1,ao,no,co,am,nm',cm,rfl,rfl,rfl⟩:=ho.slices;obtain⟨ai,ci,e1,hai⟩:=ho.ins_at2;cases e1;obtain⟨bi,oi,ev,he,iI0,hoi,her,hci⟩:=hai K x hx;subst he;obtain⟨iI,-,x1,-,-⟩:=hci w (Below.refl _ _);rw[hd]at x1;have b1:(K:Int)<S.ins.length:=by omega
 obtain⟨iL,s0,s1,s2⟩:=gR hb;subst hC;have HB:=aC a7;clear ho hb hfR hfind a7 b0 hx hd hai her hci hoi hat;unfold vR;go_in;go_upto_region 1 with fail;refine qR ?_
 repeat(go_big_quiet_step ((with_reducible first|refine cI (a5 _ (bel _ _))|refine cJ (a5 _ (bel _ _)))))
 refine QN λp=>?_;go_wp2_with(fail);refine qR ?_
 repeat(go_big_quiet_step ((with_reducible first|refine cI (a6 _ (bel _ _))|refine cJ (a6 _ (bel _ _)))))
 refine QN λp=>?_;go_wp2_with(fail);refine aD (F:=λwa=>Blk wa b #[.slice (some ⟨bi,oi,none⟩) S.ins.length c1,.slice ao no co,.slice am nm' cm] 26/\Blk wa w.heap.size #[kd,core,f0,off,nu,path,p2,dt] 28/\Blk wa (w.heap.size+1) () 52/\Bl w wa) ⟨aB HB.out (bel w _),aB (Blk.new w #[kd,core,f0,off,nu,path,p2,dt] 28) (bel _ _),aB (Blk.new_i (w.alloc (.cells #[kd,core,f0,off,nu,path,p2,dt] 28)) () 52 (w.heap.size+1)) (bel _ _),bel w _⟩ ?_;clear s0 s1 s2 x1 iI iL;rintro wa ⟨hb,hbc,hbr,hbw⟩;have HW:=mJ hb hbc hbr hbw;clear hb hbc hbr hbw
 go_loopw[10,11] (λv10 v11 wr=>∃i:Int,v11=.int .i64 i/\v10=.int .i64 (-1)/\-1<=i/\i<=3/\Bl wa wr) (λ_ i _=>(intOf i+1).toNat)
 case atStart=>exact⟨3,rfl,rfl,by omega,by omega,Below.refl _ _⟩
 obtain⟨i,rfl,rfl,hi1,hi3,hbw⟩:=hrel;have a2:Bl w wr:=HW.out.2.2.2.trans (hbw.mono HW.out.2.2.2.size);have iB:Bel w wr:=⟨a2⟩;have hb:=aB HW.out.1 hbw;have hc:=aB HW.out.2.1 hbw;have hr:=aB HW.out.2.2.1 hbw;have iL:=hb.lt;have iC:=hc.lt;have iR:=hr.lt;have s0:=hb.cell 0;have s1:=hb.cell 1;have s2:=hb.cell 2;have q1:=hc.cell 1;simp at s0 s1 s2 q1;have HR:=aC hr;clear hb hc hr;by_cases h0:0<=i
 .have a0:=λww hb=>a3 i ww hb
  have a8:=hfd i h0 hi3;have wi:IntKind.i64.wrap (i-1)=i-1:=I64.wrap ⟨by omega,by omega⟩;clear a3 hfd;generalize oE S core i=fi at a0 a8;have b2:(fi==0)=false:=by simpa using a8
  go_upto_region 10 with fail;refine qR ?_
  repeat(go_big_quiet_step ((with_reducible first|refine cI (a0 _ (bel _ _))|refine cJ (a0 _ (bel _ _)))))
  refine QN λp=>?_;go_wp2;go_roundw
  case rel=>exact⟨i-1,by go_num,rfl,by omega,by omega,bel wr _ |> λh=>hbw.trans (h.mono hbw.size)⟩
  simp[intOf];omega
 obtain rfl:i=-1:=by omega
 clear a3 hfd;have b3:=HR.out.frozen 0;have b4:=HR.out.frozen 1;have b5:=HR.out.frozen 2;have b6:=HR.out.frozen 3;have b7:=HR.out.frozen 4;have b8:=HR.out.frozen 5;obtain⟨-,g0,g1,g2,g3,g4,g5⟩:=bx6 HR.out;have a4:∀ww,vR ww 92 #[.int .i64 10] (.agg #[.int .i64 10,.int .i64 0,.int .i64 0,false,.string ⟨#[]⟩,.slice none 0 0]):=a9;go_wp2_with(go_at_call 92;refine aE (a4 _) λp=>?_);exact xD (v:=.tuple #[aR 10 0 0,true]) (by unfold results;simp only[results94,aR];go_simp) rfl ⟨rfl,(a2.trans ((bel wr _).mono a2.size)).trans ((lY (r:=w.heap.size+1)).below (zD a2.size (bel wr _).size) (λi hi e=>by omega))⟩
theorem aPS (b:Nat) (S:PSt) (iv ov mv:Value) (kd core f0 off nu:Int) (path p2 dt:ByteArray) (w:World) (hb:Blk w b #[iv,ov,mv] 26) (ho:StRead w iv ov mv S) (hfR:FineR S) (num:Int) (C:Int) (hfind:eY S path=(num,C)) (hC:C≠0):
 vR w 126 #[.pointer b,.agg #[kd,core,f0,off,nu,path,p2,dt]] (aR C 0 0):=by
 have a0:=c46 ho hfR hfind;have a1:=λww=>bE C ww;obtain⟨ai,ni,ci,ao,no,co,am,nm',cm,rfl,rfl,rfl⟩:=ho.slices;obtain⟨iL,s0,s1,s2⟩:=gR hb;have a3:(C !=0)=true:=by simpa using hC
 have a2:(C==0)=false:=by simpa using hC
 clear ho hb hfR hfind;unfold vR;go_in;go_upto_region 1 with fail;refine qR ?_
 repeat(go_big_quiet_step ((with_reducible first|refine cI (a0 _ (bel _ _))|refine cJ (a0 _ (bel _ _)))))
 refine QN λp=>?_;go_wp2_with(fail);refine qR ?_
 repeat(go_big_quiet_step (fail))
 refine QN λp=>?_;go_wp2_with(first|(go_at_call 92;refine aE (a1 _) λp=>?_));exact xD (v:=aR C 0 0) (by unfold results;simp only[results126,aR];go_simp) rfl ⟨rfl,bel w _⟩
theorem aPT (b:Nat) (S:PSt) (iv ov mv:Value) (kd core f0 off nu:Int) (path p2 dt:ByteArray) (w:World) (hb:Blk w b #[iv,ov,mv] 26) (ho:StRead w iv ov mv S) (hfR:FineR S) (num:Int) (C:Int) (hfind:eY S path=(num,C)) (hC:C=0) (K:Nat) (x:PIn) (hat:bP S num=K) (hx:S.ins[K]? =some x) (hd:x.dir=true):
 vR w 126 #[.pointer b,.agg #[kd,core,f0,off,nu,path,p2,dt]] (aR 8 0 0):=by
 have a0:=c46 ho hfR hfind;have a3:=λww=>bE 8 ww;have a2:=vK ho hfR.wf.1 hat;obtain⟨hxl,-⟩:=gI.1 hx;have a4:=hb;have a5:=ho;obtain⟨a1,n1',c1,ao,no,co,am,nm',cm,rfl,rfl,rfl⟩:=ho.slices;obtain⟨ai,ci,e1,hai⟩:=ho.ins_at2;cases e1;obtain⟨bi,oi,ev,he,iI0,hoi,her,hci⟩:=hai K x hx;subst he;obtain⟨iI,-,x1,-,-⟩:=hci w (Below.refl _ _);rw[hd]at x1;have a6:(K:Int)<S.ins.length:=by omega
 obtain⟨iL,s0,s1,s2⟩:=gR hb;subst hC;clear ho hb hfR hfind a4 a5 hx hd hai her hci hoi hat;unfold vR;go_in;go_upto_region 1 with fail;refine qR ?_
 repeat(go_big_quiet_step ((with_reducible first|refine cI (a0 _ (bel _ _))|refine cJ (a0 _ (bel _ _)))))
 refine QN λp=>?_;go_wp2_with(fail);refine qR ?_
 repeat(go_big_quiet_step ((with_reducible first|refine cI (a2 _ (bel _ _))|refine cJ (a2 _ (bel _ _)))))
 refine QN λp=>?_;go_wp2_with(first|(go_at_call 92;refine aE (a3 _) λp=>?_));exact xD (v:=aR 8 0 0) (by unfold results;simp only[results126,aR];go_simp) rfl ⟨rfl,bel w _⟩
theorem aPU (b:Nat) (S:PSt) (iv ov mv:Value) (kd core f0 off nu:Int) (path p2 dt:ByteArray) (w:World) (hb:Blk w b #[iv,ov,mv] 26) (ho:StRead w iv ov mv S) (hfR:FineR S) (num:Int) (C:Int) (hfind:eY S path=(num,C)) (hC:C=0) (K:Nat) (x:PIn) (hat:bP S num=K) (hx:S.ins[K]? =some x) (hd:x.dir=false) (D:Int) (nm:ByteArray) (C2:Int) (hpar:bO S p2=(D,nm,C2)) (hC2:C2≠0):
 vR w 126 #[.pointer b,.agg #[kd,core,f0,off,nu,path,p2,dt]] (aR C2 0 0):=by
 have a0:=c46 ho hfR hfind;have a4:=λww=>bE C2 ww;have a2:=vK ho hfR.wf.1 hat;obtain⟨hxl,-⟩:=gI.1 hx;have a3:=c45 ho hfR hpar;have a5:=hb;have a6:=ho;obtain⟨a1,n1',c1,ao,no,co,am,nm',cm,rfl,rfl,rfl⟩:=ho.slices;obtain⟨ai,ci,e1,hai⟩:=ho.ins_at2;cases e1;obtain⟨bi,oi,ev,he,iI0,hoi,her,hci⟩:=hai K x hx;subst he;obtain⟨iI,-,x1,-,-⟩:=hci w (Below.refl _ _);rw[hd]at x1;have a7:(K:Int)<S.ins.length:=by omega
 obtain⟨iL,s0,s1,s2⟩:=gR hb;subst hC;have a8:(C2 !=0)=true:=by simpa using hC2
 clear ho hb hfR hfind a5 a6 hx hd hai her hci hoi hat hpar;unfold vR;go_in;go_upto_region 1 with fail;refine qR ?_
 repeat(go_big_quiet_step ((with_reducible first|refine cI (a0 _ (bel _ _))|refine cJ (a0 _ (bel _ _)))))
 refine QN λp=>?_;go_wp2_with(fail);refine qR ?_
 repeat(go_big_quiet_step ((with_reducible first|refine cI (a2 _ (bel _ _))|refine cJ (a2 _ (bel _ _)))))
 refine QN λp=>?_;go_wp2_with(fail);refine qR ?_
 repeat(go_big_quiet_step ((with_reducible first|refine cI (a3 _ (bel _ _))|refine cJ (a3 _ (bel _ _)))))
 refine QN λp=>?_;go_wp2_with(first|(go_at_call 92;refine aE (a4 _) λp=>?_));exact xD (v:=aR C2 0 0) (by unfold results;simp only[results126,aR];go_simp) rfl ⟨rfl,bel w _⟩
theorem aPV (b:Nat) (S:PSt) (iv ov mv:Value) (kd core f0 off nu:Int) (path p2 dt:ByteArray) (w:World) (hb:Blk w b #[iv,ov,mv] 26) (ho:StRead w iv ov mv S) (hfR:FineR S) (num:Int) (C:Int) (hfind:eY S path=(num,C)) (hC:C=0) (K:Nat) (x:PIn) (hat:bP S num=K) (hx:S.ins[K]? =some x) (hd:x.dir=false) (D:Int) (nm:ByteArray) (C2:Int) (hpar:bO S p2=(D,nm,C2)) (hC2:C2=0) (hE:aX S D nm≠0):
 vR w 126 #[.pointer b,.agg #[kd,core,f0,off,nu,path,p2,dt]] (aR 2 0 0):=by
 have a0:=c46 ho hfR hfind;have a5:=λww=>bE 2 ww;have a2:=vK ho hfR.wf.1 hat;obtain⟨hxl,-⟩:=gI.1 hx;have a3:=c45 ho hfR hpar;have a4:vB w 118 #[.agg #[iv,ov,mv],.int .i64 D,.string nm] (.int .i64 (aX S D nm)):=λww hb=>iV S iv ov mv D nm ww (ho.below hb (zC _)) hfR.wf;have a6:=hb;have a7:=ho;obtain⟨a1,n1',c1,ao,no,co,am,nm',cm,rfl,rfl,rfl⟩:=ho.slices;obtain⟨ai,ci,e1,hai⟩:=ho.ins_at2;cases e1;obtain⟨bi,oi,ev,he,iI0,hoi,her,hci⟩:=hai K x hx;subst he;obtain⟨iI,-,x1,-,-⟩:=hci w (Below.refl _ _);rw[hd]at x1;have a8:(K:Int)<S.ins.length:=by omega
 obtain⟨iL,s0,s1,s2⟩:=gR hb;subst hC;subst hC2;generalize aX S D nm=E at a4 hE;have a9:(E !=0)=true:=by simpa using hE
 clear ho hb hfR hfind a6 a7 hx hd hai her hci hoi hat hpar;unfold vR;go_in;go_upto_region 1 with fail;refine qR ?_
 repeat(go_big_quiet_step ((with_reducible first|refine cI (a0 _ (bel _ _))|refine cJ (a0 _ (bel _ _)))))
 refine QN λp=>?_;go_wp2_with(fail);refine qR ?_
 repeat(go_big_quiet_step ((with_reducible first|refine cI (a2 _ (bel _ _))|refine cJ (a2 _ (bel _ _)))))
 refine QN λp=>?_;go_wp2_with(fail);refine qR ?_
 repeat(go_big_quiet_step ((with_reducible first|refine cI (a3 _ (bel _ _))|refine cJ (a3 _ (bel _ _)))))
 refine QN λp=>?_;go_wp2_with(first|(go_at_call 118;refine aE (a4 _ (bel _ _)) λp=>?_)|(go_at_call 92;refine aE (a5 _) λp=>?_));exact xD (v:=aR 2 0 0) (by unfold results;simp only[results126,aR];go_simp) rfl ⟨rfl,bel w _⟩
theorem aPW (b:Nat) (S:PSt) (iv ov mv:Value) (kd core f0 off nu:Int) (path p2 dt:ByteArray) (w:World) (hb:Blk w b #[iv,ov,mv] 26) (ho:StRead w iv ov mv S) (hfR:FineR S) (num:Int) (C:Int) (hfind:eY S path=(num,C)) (hC:C=0) (K:Nat) (x:PIn) (hat:bP S num=K) (hx:S.ins[K]? =some x) (hd:x.dir=false) (D:Int) (nm:ByteArray) (C2:Int) (hpar:bO S p2=(D,nm,C2)) (hC2:C2=0) (hE:aX S D nm=0) (K1:Nat) (y:PIn) (hat1:bP S D=K1) (hy:S.ins[K1]? =some y) (hns:nm.size<=1000000000) (hes:∀e∈y.ents,e.name.size<=1000000000) (hF:decide (4<=eG (bA nm) ⟨#[]⟩ y.ents 0)=true):
 vR w 126 #[.pointer b,.agg #[kd,core,f0,off,nu,path,p2,dt]] (aR 5 0 0):=by
 have a0:=c46 ho hfR hfind;have a6:=λww=>bE 5 ww;have a2:=vK ho hfR.wf.1 hat;obtain⟨hxl,-⟩:=gI.1 hx;have a3:=c45 ho hfR hpar;have a4:vB w 118 #[.agg #[iv,ov,mv],.int .i64 D,.string nm] (.int .i64 (aX S D nm)):=λww hb=>iV S iv ov mv D nm ww (ho.below hb (zC _)) hfR.wf;have a5:vB w 121 #[.agg #[iv,ov,mv],.int .i64 D,.string nm,.string ⟨#[]⟩] (.bool (decide (4<=eG (bA nm) ⟨#[]⟩ y.ents 0))):=λww hb=>uC S iv ov mv D nm ⟨#[]⟩ K1 y ww (ho.below hb (zC _)) hfR.wf hat1 hy hns hes;have a7:=hb;have a8:=ho;obtain⟨a1,n1',c1,ao,no,co,am,nm',cm,rfl,rfl,rfl⟩:=ho.slices;obtain⟨ai,ci,e1,hai⟩:=ho.ins_at2;cases e1;obtain⟨bi,oi,ev,he,iI0,hoi,her,hci⟩:=hai K x hx;subst he;obtain⟨iI,-,x1,-,-⟩:=hci w (Below.refl _ _);rw[hd]at x1;have a9:(K:Int)<S.ins.length:=by omega
 obtain⟨iL,s0,s1,s2⟩:=gR hb;subst hC;subst hC2;rw[hE]at a4;rw[hF]at a5;clear ho hb hfR hfind a7 a8 hx hd hai her hci hoi hat hpar hE hF hat1 hy hes;unfold vR;go_in;go_upto_region 1 with fail;refine qR ?_
 repeat(go_big_quiet_step ((with_reducible first|refine cI (a0 _ (bel _ _))|refine cJ (a0 _ (bel _ _)))))
 refine QN λp=>?_;go_wp2_with(fail);refine qR ?_
 repeat(go_big_quiet_step ((with_reducible first|refine cI (a2 _ (bel _ _))|refine cJ (a2 _ (bel _ _)))))
 refine QN λp=>?_;go_wp2_with(fail);refine qR ?_
 repeat(go_big_quiet_step ((with_reducible first|refine cI (a3 _ (bel _ _))|refine cJ (a3 _ (bel _ _)))))
 refine QN λp=>?_;go_wp2_with(first|(go_at_call 118;refine aE (a4 _ (bel _ _)) λp=>?_)|(go_at_call 121;refine aE (a5 _ (bel _ _)) λp=>?_)|(go_at_call 92;refine aE (a6 _) λp=>?_));exact xD (v:=aR 5 0 0) (by unfold results;simp only[results126,aR];go_simp) rfl ⟨rfl,bel w _⟩
theorem aUC (B b:Nat) (S:PSt) (iv ov mv:Value) (kd core f0 off nu:Int) (path p2 dt:ByteArray) (w:World) (hb:Blk w b #[iv,ov,mv] 26) (ho:StOwn B w iv ov mv S) (hB:B<=w.heap.size) (hfR:FineR S) (num:Int) (C:Int) (hfind:eY S path=(num,C)) (hC:C=0) (K:Nat) (x:PIn) (hat:bP S num=K) (hx:S.ins[K]? =some x) (hd:x.dir=false) (D:Int) (nm:ByteArray) (C2:Int) (hpar:bO S p2=(D,nm,C2)) (hC2:C2=0) (hE:aX S D nm=0) (K1:Nat) (y:PIn) (hat1:bP S D=K1) (hy:S.ins[K1]? =some y) (hns:nm.size<=1000000000) (hes:∀e∈y.ents,e.name.size<=1000000000) (hF:decide (4<=eG (bA nm) ⟨#[]⟩ y.ents 0)=false) (hBb:B<=b):
 Calls prog 126 #[.pointer b,.agg #[kd,core,f0,off,nu,path,p2,dt]] w λe w'=>e=.returned (aR 0 0 0)/\Below B w w'/\Spared b w w'/\∃iv' ov' mv',Blk w' b #[iv',ov',mv'] 26/\StOwn B w' iv' ov' mv' (S.ents K1 y (cT (λe=>eA nm e.name) ⟨nm,num⟩ y.ents false [])):=by
 have a5:=c46 ho.read hfR hfind;have b4:=λww=>bE 0 ww;have a6:=vK ho.read hfR.wf.1 hat;obtain⟨hxl,-⟩:=gI.1 hx;have a7:=c45 ho.read hfR hpar;have a8:vB w 118 #[.agg #[iv,ov,mv],.int .i64 D,.string nm] (.int .i64 (aX S D nm)):=λww hb=>iV S iv ov mv D nm ww (ho.read.below hb (zC _)) hfR.wf;have a9:vB w 121 #[.agg #[iv,ov,mv],.int .i64 D,.string nm,.string ⟨#[]⟩] (.bool (decide (4<=eG (bA nm) ⟨#[]⟩ y.ents 0))):=λww hb=>uC S iv ov mv D nm ⟨#[]⟩ K1 y ww (ho.read.below hb (zC _)) hfR.wf hat1 hy hns hes;have b0:=hb;have b1:=ho;obtain⟨a1,n1',c1,ao,no,co,am,nm',cm,rfl,rfl,rfl⟩:=ho.read.slices;obtain⟨ai,ci,e1,hai⟩:=ho.read.ins_at2;cases e1;obtain⟨bi,oi,ev,he,iI0,hoi,her,hci⟩:=hai K x hx;subst he;obtain⟨iI,-,x1,-,-⟩:=hci w (Below.refl _ _);rw[hd]at x1;have c3:(K:Int)<S.ins.length:=by omega
 obtain⟨iL,s0,s1,s2⟩:=gR hb;subst hC;subst hC2;rw[hE]at a8;rw[hF]at a9;have b2:=hfR.wf;have a3:b<w.heap.size:=hb.lt.lt;have HH:=jj6 b0 b1 b2 hat1 hy hns;clear ho hb hfR hfind b0 b1 hx hd hai her hci hoi hat hpar hE hF hat1 hy hes b2;go_in;go_upto_region 1 with fail;refine qR ?_
 repeat(go_big_quiet_step ((with_reducible first|refine cI (a5 _ (bel _ _))|refine cJ (a5 _ (bel _ _)))))
 refine QN λp=>?_;go_wp2_with(fail);refine qR ?_
 repeat(go_big_quiet_step ((with_reducible first|refine cI (a6 _ (bel _ _))|refine cJ (a6 _ (bel _ _)))))
 refine QN λp=>?_;go_wp2_with(fail);refine qR ?_
 repeat(go_big_quiet_step ((with_reducible first|refine cI (a7 _ (bel _ _))|refine cJ (a7 _ (bel _ _)))))
 refine QN λp=>?_;go_upto_region 13 with(first|(go_at_call 118;refine aE (a8 _ (bel _ _)) λp=>?_)|(go_at_call 121;refine aE (a9 _ (bel _ _)) λp=>?_))
 refine aD (F:=λwa=>StOwn B wa (.slice (some ⟨bi,oi,none⟩) S.ins.length c1) (.slice ao no co) (.slice am nm' cm) S/\Blk wa b #[.slice (some ⟨bi,oi,none⟩) S.ins.length c1,.slice ao no co,.slice am nm' cm] 26/\Blk wa w.heap.size #[kd,core,f0,off,nu,path,p2,dt] 28/\Blk wa (w.heap.size+1) () 52/\Bl w wa) ⟨HH.out.2.1.on (bel w _),aB HH.out.1 (bel w _),aB (Blk.new w #[kd,core,f0,off,nu,path,p2,dt] 28) (bel _ _),aB (Blk.new_i (w.alloc (.cells #[kd,core,f0,off,nu,path,p2,dt] 28)) () 52 (w.heap.size+1)) (bel _ _),bel w _⟩ ?_;clear s0 s1 s2 x1 iI iL;rintro wz ⟨ho,hb,hc,hr,hbw⟩;have b5:B<=wz.heap.size:=zD hB hbw.size;have iC:=hc.lt;have b3:=aMP B b S _ _ _ D num nm K1 y wz hb ho b5 HH.out.2.2.1 HH.out.2.2.2.2.2 HH.out.2.2.2.1 HH.out.2.2.2.2.1;have HZ:=eH hb hr hbw;clear ho hb hc hr hbw;go_upto_region 14 with(go_at_call 122;(refine b3.mono ?_);rintro e w5 ⟨rfl,hb5,hk5,hs5⟩;have a0:=eH hb5 hk5 hs5;clear hb5 hk5 hs5)
 have f3:=a0.out.2.1.blk HZ.out.2.1 (eS HZ.out.2.1 (by decide) (by decide));have f4:=a0.out.2.1.blk HZ.out.1 (eS HZ.out.1 (by decide) (by decide));have l3:=f3.lt;have g0:=f3.cell 0;have g1:=f3.cell 1;have g2:=f3.cell 2;have g3:=f3.cell 3;have g4:=f3.cell 4;have a2:=f3.cell 5;have b6:=f3.frozen 0;have b7:=f3.frozen 1;have b8:=f3.frozen 2;have b9:=f3.frozen 3;have c0:=f3.frozen 4;have c2:=f3.frozen 5;simp at g0 g1 g2 g3 g4 a2;have a4:=bJ f3 f4;clear f3 f4 iC b3;refine aD (F:=λwy=>StOwn B wy (.slice (some ⟨bi,oi,none⟩) S.ins.length c1) (.slice ao no co) (.slice am nm' cm) (S.ents K1 y (cT (λe=>eA nm e.name) ⟨nm,num⟩ y.ents false []))/\Blk wy b #[.slice (some ⟨bi,oi,none⟩) S.ins.length c1,.slice ao no co,.slice am nm' cm] 26/\Blk wy (w.heap.size+1) () 52/\Below B w wy/\Spared b w wy) ⟨(a0.out.2.2).on (bel w5 _),aB a4.out.2 (bel w5 _),aB a4.out.1 (bel w5 _),((HZ.out.2.2.mono hB).trans a0.out.1).trans ((bel w5 _).mono (zD hB ((HZ.out.2.2.mono hB).trans a0.out.1).size)),((Spared.of_below HZ.out.2.2).trans (Spared.of_in a0.out.2.1)).trans (Spared.of_below (bel w5 _))⟩ ?_;rintro wy ⟨y1,y2,y3,y4,y5⟩;have HY:=qM y1 y2 y3 y4 y5;have iR:=y3.lt;have c4:=y3.frozen 0;have c5:=y3.frozen 1;have c6:=y3.frozen 2;have c7:=y3.frozen 3;have c8:=y3.frozen 4;have c9:=y3.frozen 5;clear g0 g1 g2 g3 g4 a2;have g0:=y3.cell 0;have g1:=y3.cell 1;have g2:=y3.cell 2;have g3:=y3.cell 3;have g4:=y3.cell 4;have a2:=y3.cell 5;simp at g0 g1 g2 g3 g4 a2;clear y1 y2 y3 y4 y5 l3 b6 b7 b8 b9 c0 c2 a4 a0 HZ;go_wp2_with((go_at_call 92;refine aE (b4 _) λp=>?_));exact xD (v:=aR 0 0 0) (by unfold results;simp only[results126,aR];go_simp) rfl ⟨rfl,nJ (r:=w.heap.size+1) lY (by omega) a3 hB (aB HY.out.2.2.1 (bel wy _)) (aB HY.out.2.1 (bel wy _)) (HY.out.1.on (bel wy _)) (HY.out.2.2.2.1.trans ((bel wy _).mono (zD hB HY.out.2.2.2.1.size))) (HY.out.2.2.2.2.trans (Spared.of_below (bel wy _)))⟩
theorem aDI (b:Nat) (S:PSt) (iv ov mv:Value) (kd core f0 off nu:Int) (path p2 dt:ByteArray) (w:World) (hb:Blk w b #[iv,ov,mv] 26) (ho:StRead w iv ov mv S) (hfR:FineR S) (hk8:kd≠8) (D:Int) (nm:ByteArray) (C:Int) (hpar:bO S path=(D,nm,C)) (hC:C≠0):
 vR w 96 #[.pointer b,.agg #[kd,core,f0,off,nu,path,p2,dt]] (aR C 0 0):=by
 have a0:=c45 ho hfR hpar;have a1:=λww=>bE C ww;have a2:(kd==8)=false:=by simpa using hk8
 obtain⟨ai,ni,ci,ao,no,co,am,nm',cm,rfl,rfl,rfl⟩:=ho.slices;obtain⟨iL,s0,s1,s2⟩:=gR hb;have a3:(C !=0)=true:=by simpa using hC
 clear ho hb hfR hpar;unfold vR;go_in;go_upto_region 3 with fail;refine qR ?_
 repeat(go_big_quiet_step ((with_reducible first|refine cI (a0 _ (bel _ _))|refine cJ (a0 _ (bel _ _)))))
 refine QN λp=>?_;go_wp2_with(first|(go_at_call 92;refine aE (a1 _) λp=>?_));exact xD (v:=aR C 0 0) (by unfold results;simp only[results96,aR];go_simp) rfl ⟨rfl,bel w _⟩
theorem aDJ (b:Nat) (S:PSt) (iv ov mv:Value) (kd core f0 off nu:Int) (path p2 dt:ByteArray) (w:World) (hb:Blk w b #[iv,ov,mv] 26) (ho:StRead w iv ov mv S) (hfR:FineR S) (hk8:kd≠8) (D:Int) (nm:ByteArray) (C:Int) (hpar:bO S path=(D,nm,C)) (hC:C=0) (hE:aX S D nm=0):
 vR w 96 #[.pointer b,.agg #[kd,core,f0,off,nu,path,p2,dt]] (aR 1 0 0):=by
 have a0:=c45 ho hfR hpar;have a2:=λww=>bE 1 ww;have a3:(kd==8)=false:=by simpa using hk8
 have a1:vB w 118 #[.agg #[iv,ov,mv],.int .i64 D,.string nm] (.int .i64 (aX S D nm)):=λww hb=>iV S iv ov mv D nm ww (ho.below hb (zC _)) hfR.wf;obtain⟨ai,ni,ci,ao,no,co,am,nm',cm,rfl,rfl,rfl⟩:=ho.slices;obtain⟨iL,s0,s1,s2⟩:=gR hb;subst hC;rw[hE]at a1;clear ho hb hfR hpar hE;unfold vR;go_in;go_upto_region 3 with fail;refine qR ?_
 repeat(go_big_quiet_step ((with_reducible first|refine cI (a0 _ (bel _ _))|refine cJ (a0 _ (bel _ _)))))
 refine QN λp=>?_;go_wp2_with(first|(go_at_call 118;refine aE (a1 _ (bel _ _)) λp=>?_)|(go_at_call 92;refine aE (a2 _) λp=>?_));exact xD (v:=aR 1 0 0) (by unfold results;simp only[results96,aR];go_simp) rfl ⟨rfl,bel w _⟩
theorem aHS (had:ByteArray) (n:Nat) (w:World) (hn:n<=1000000):
 Calls prog 125 #[had,n] w λe w'=>∃g,e=.returned (.slice (some ⟨g,0,none⟩) n n)/\Below w.heap.size w w'/\w.heap.size<=g/\Blk w' g (bM (tF had.data.toList n)) 5:=by
 have a2:=λu=>mkN n (by omega) u;have a0:=aBP had n;generalize tF had.data.toList n=L1 at a0 |-;have HC:=aC a0;clear a0;go_in;go_upto_region 2 with fail;refine aD (F:=λW=>Blk W w.heap.size (bM (List.replicate n 0)) 5/\Below w.heap.size w W) ⟨Blk.new _ _ _,bel _ _⟩ ?_;obtain⟨g,hg⟩:=gAB w.heap.size;rw[hg];rintro W ⟨hB,hbW⟩;have iG:=hB.lt;obtain⟨m0,hm0⟩:=HC.out g W hB;have HW:=bJ hB hbW;have HG:=aC hg;clear hB hbW hg a2;go_upto_region 3 with fail;refine aD (F:=λW2=>Blk W2 g (bM L1) 5/\Below g w W2) ⟨kE HW.out.1 _,mN HW.out.2 (zC _) _⟩ ?_;clear hm0 iG;rintro W2 ⟨hB2,hbW2⟩;have a1:=bJ hB2 hbW2;clear hB2 hbW2;go_wp2;go_ret;exact⟨g,rfl,by rw[HG.out];exact a1.out.2,by rw[HG.out];exact zC _,a1.out.1⟩
theorem aKP (B b:Nat) (S:PSt) (iv ov mv:Value) (kd core f0 off nu:Int) (path p2 dt nm:ByteArray) (D num:Int) (w:World) (hb:Blk w b #[iv,ov,mv] 26) (ho:StRead w iv ov mv S) (hfR:FineR S) (T:Int) (n2:ByteArray) (C2:Int) (hpar:bO S p2=(T,n2,C2)) (hC2:C2≠0):
 Calls prog 127 #[.pointer b,.agg #[kd,core,f0,off,nu,path,p2,dt],D,nm,num] w (RefOut B b w (.error C2)):=by
 have a0:=c45 ho hfR hpar;have a2:=λk ww=>bE k ww;have a3:(C2 !=0)=true:=by simpa using hC2
 obtain⟨a1,n1',c1,ao,no,co,am,nm',cm,rfl,rfl,rfl⟩:=ho.slices;obtain⟨iL,s0,s1,s2⟩:=gR hb;clear ho hb hfR hpar;go_in;go_upto_region 1 with fail;refine qR ?_
 repeat(go_big_quiet_step ((with_reducible first|refine cI (a0 _ (bel _ _))|refine cJ (a0 _ (bel _ _)))))
 refine QN λp=>?_;by_cases hTD:T=D
 iterate 2
  .go_wp2_with(first|(go_at_call 92;refine aE (a2 _ _) λp=>?_))
   exact xD (v:=aR C2 0 0) (by unfold results;simp only[results127,aR];go_simp) rfl (RefOut.err (bel w _))
def aUM (S:PSt) (x:PIn) (W:Bool) (T:Int) (n2 but:ByteArray) (num:Int) (z:PIn) (K1:Nat) (y:PIn) (nm:ByteArray) (K2:Nat) (z':PIn):Except Int PSt:=
 if(x.dir&&W)=true then .error 9 else if aX S T n2≠0 then .error 2 else if decide (4<=eG (bA n2) but z.ents 0)=true then .error 5
 else .ok ((S.ents K1 y (dX nm y.ents)).ents K2 z' (cT (λe=>eA n2 e.name) ⟨n2,num⟩ z'.ents false []))
theorem aKQ (B b:Nat) (S:PSt) (iv ov mv:Value) (kd core f0 off nu:Int) (path p2 dt nm:ByteArray) (D num:Int) (w:World) (hb:Blk w b #[iv,ov,mv] 26) (ho:StOwn B w iv ov mv S) (hB:B<=w.heap.size) (hBb:B<=b) (hfR:FineR S) (T:Int) (n2:ByteArray) (C2:Int) (hpar:bO S p2=(T,n2,C2)) (hC2:C2=0)
 (K0:Nat) (x:PIn) (hat:bP S num=K0) (hx:S.ins[K0]? =some x) (W:Bool) (hW:x.dir=true->∃n,iY S T n num=some W) (K1:Nat) (y:PIn) (hat1:bP S D=K1) (hy:S.ins[K1]? =some y) (K2:Nat) (z:PIn) (hat2:bP S T=K2) (hz:S.ins[K2]? =some z) (hns:n2.size<=1000000000) (hes:∀e∈z.ents,e.name.size<=1000000000)
 (z':PIn) (hz':(S.ents K1 y (dX nm y.ents)).ins[K2]? =some z') (hat2':bP (S.ents K1 y (dX nm y.ents)) T=K2) (hwf':(S.ents K1 y (dX nm y.ents)).wf) (but:ByteArray) (hbut:but=if T=D then nm else⟨#[]⟩):
 Calls prog 127 #[.pointer b,.agg #[kd,core,f0,off,nu,path,p2,dt],D,nm,num] w (RefOut B b w (aUM S x W T n2 but num z K1 y nm K2 z')):=by
 have c3:=c45 ho.read hfR hpar;have b2:=vK ho.read hfR.wf.1 hat;have a7:vB w 118 #[.agg #[iv,ov,mv],.int .i64 T,.string n2] (.int .i64 (aX S T n2)):=λww hb=>iV S iv ov mv T n2 ww (ho.read.below hb (zC _)) hfR.wf;have a6:vB w 121 #[.agg #[iv,ov,mv],.int .i64 T,.string n2,.string but] (.bool (decide (4<=eG (bA n2) but z.ents 0))):=λww hb=>uC S iv ov mv T n2 but K2 z ww (ho.read.below hb (zC _)) hfR.wf hat2 hz hns hes;have a2:x.dir=true->vB w 167 #[.agg #[iv,ov,mv],.int .i64 T,.int .i64 num] (.bool W):=λhd ww hb=>by obtain⟨n,hn⟩:=hW hd;exact aQH S iv ov mv T hfR n num W (by omega) hn ww (ho.read.below hb (zC _))
 have a8:=λk ww=>bE k ww;obtain⟨hxl,-⟩:=gI.1 hx;have c4:=hb;have c5:=ho;obtain⟨a1,n1',c1,ao,no,co,am,nm',cm,rfl,rfl,rfl⟩:=ho.read.slices;obtain⟨ai,ci,e1,hai⟩:=ho.read.ins_at2;cases e1;obtain⟨bi,oi,ev,he,iI0,hoi,her,hci⟩:=hai K0 x hx;subst he;obtain⟨iI,-,x1,-,-⟩:=hci w (Below.refl _ _);have d3:(K0:Int)<S.ins.length:=by omega
 obtain⟨iL,s0,s1,s2⟩:=gR hb;subst hC2;have c6:=hfR.wf;have b3:b<w.heap.size:=hb.lt.lt;have HH:=jj9 c4 c5 c6 hat1 hy hns hz' hat2' hwf';obtain⟨X,hX⟩:=gAB (aUM S x W T n2 but num z K1 y nm K2 z');rw[hX];unfold aUM at hX;have HX:=aC hX;obtain⟨E,hE⟩:=gAB (aX S T n2);rw[hE]at a7;obtain⟨F,hF⟩:=gAB (decide (4<=eG (bA n2) but z.ents 0));rw[hF]at a6;have a5:=bJ hE hF;have b8:=aC hbut;clear ho hb hfR hpar c4 c5 hx hai her hci hoi hat hat1 hy c6 hX hW hat2 hz hes hz' hat2' hwf' hE hF hbut;go_in;go_upto_region 1 with fail;refine qR ?_
 repeat(go_big_quiet_step ((with_reducible first|refine cI (c3 _ (bel _ _))|refine cJ (c3 _ (bel _ _)))))
 refine QN λp=>?_;by_cases hTD:T=D
 focus
  have b9:nm=but:=by rw[b8.out,zB hTD]
  subst b9;clear b8;subst hTD
 rotate_left
 focus
  have b9:(⟨#[]⟩:ByteArray)=but:=by rw[b8.out,zA hTD]
  subst b9;clear b8
 rotate_left
 iterate 2
  .cases hd :x.dir with
   | false=>
     rw[hd]at x1;go_upto_region 7 with fail;refine qR ?_
     repeat(go_big_quiet_step (first|(with_reducible first|refine cI (b2 _ (bel _ _))|refine cJ (b2 _ (bel _ _)))))
     refine QN λp=>?_;by_cases hE0:E=0
     .have c0:(E !=0)=false:=by simpa using hE0
      cases hFF:F with
      | true=>
        have hX:X=.error 5:=by rw[<-HX.out,zA (by simp[hd]),zA (by rw[a5.out.1];exact λh=>h hE0),zB (by rw[a5.out.2];exact hFF)]
        subst hX;rw[hFF]at a6;go_wp2_with(first|(go_at_call 118;refine aE (a7 _ (bel _ _)) λp=>?_)|(go_at_call 121;refine aE (a6 _ (bel _ _)) λp=>?_)|(go_at_call 92;refine aE (a8 _ _) λp=>?_));exact xD (v:=aR 5 0 0) (by unfold results;simp only[results127,aR];go_simp) rfl (RefOut.err (bel w _))
      | false=>
        have hX:X=.ok ((S.ents K1 y (dX nm y.ents)).ents K2 z' (cT (λe=>eA n2 e.name) ⟨n2,num⟩ z'.ents false [])):=by rw[<-HX.out,zA (by simp[hd]),zA (by rw[a5.out.1];exact λh=>h hE0),zA (by rw[a5.out.2,hFF];decide)]
        subst hX;rw[hFF]at a6;go_upto_region 13 with(first|(go_at_call 118;refine aE (a7 _ (bel _ _)) λp=>?_)|(go_at_call 121;refine aE (a6 _ (bel _ _)) λp=>?_))
        refine aD (F:=λwa=>Blk wa b #[.slice (some ⟨bi,oi,none⟩) S.ins.length c1,.slice ao no co,.slice am nm' cm] 26/\Blk wa w.heap.size #[kd,core,f0,off,nu,path,p2,dt] 28/\Blk wa (w.heap.size+1) () 52/\Bl w wa) ⟨aB HH.out.1 (bel w _),aB (Blk.new w #[kd,core,f0,off,nu,path,p2,dt] 28) (bel _ _),aB (Blk.new_i (w.alloc (.cells #[kd,core,f0,off,nu,path,p2,dt] 28)) () 52 (w.heap.size+1)) (bel _ _),bel w _⟩ ?_;clear s0 s1 s2 x1 iI iL;rintro wz ⟨hb,hc,hr,hbw⟩;have b4:B<=wz.heap.size:=zD hB hbw.size;have a3:=vT B b S _ _ _ _ nm K1 y wz hb (HH.out.2.1.on hbw) b4 HH.out.2.2.1 HH.out.2.2.2.1 HH.out.2.2.2.2.1;have HZ:=eH hb hr hbw;clear hb hc hr hbw;go_upto_region 14 with(go_at_call 128;(refine a3.mono ?_);rintro e w5 ⟨rfl,hb5,hk5,hs5⟩;have H5:=eH hb5 hk5 hs5;clear hb5 hk5 hs5)
        have a9:=H5.out.2.1.blk HZ.out.1 (eS HZ.out.1 (by decide) (by decide));have b5:=H5.out.2.1.blk HZ.out.2.1 (eS HZ.out.2.1 (by decide) (by decide));have b6:B<=w5.heap.size:=zD b4 H5.out.1.size;have a4:=aMP B b (S.ents K1 y (dX nm y.ents)) _ _ _ _ num n2 K2 z' w5 a9 H5.out.2.2 b6 HH.out.2.2.2.2.2.2.2.2 HH.out.2.2.2.2.2.1 HH.out.2.2.2.2.2.2.2.1 HH.out.2.2.2.2.2.2.1;have HF:=bJ a9 b5;clear a9 b5 a3;go_upto_region 15 with(go_at_call 122;(refine a4.mono ?_);rintro e w6 ⟨rfl,hb6,hk6,hs6⟩;have H6:=eH hb6 hk6 hs6;clear hb6 hk6 hs6)
        have b7:=H6.out.2.1.blk HF.out.1 (eS HF.out.1 (by decide) (by decide));have a0:=H6.out.2.1.blk HF.out.2 (eS HF.out.2 (by decide) (by decide));clear a4;have iR:=a0.lt;have g0:=a0.cell 0;have g1:=a0.cell 1;have g2:=a0.cell 2;have g3:=a0.cell 3;have g4:=a0.cell 4;have g5:=a0.cell 5;have c7:=a0.frozen 0;have c8:=a0.frozen 1;have c9:=a0.frozen 2;have d0:=a0.frozen 3;have d1:=a0.frozen 4;have d2:=a0.frozen 5;simp at g0 g1 g2 g3 g4 g5;have HR:=bJ b7 a0;clear b7 a0;go_wp2_with(first|(go_at_call 92;refine aE (a8 _ _) λp=>?_));have c2:B<=w6.heap.size:=zD b6 H6.out.1.size;have b0:Below B w w6:=((HZ.out.2.2.mono hB).trans H5.out.1).trans H6.out.1;have b1:Spared b w w6:=((Spared.of_below HZ.out.2.2).trans (Spared.of_in H5.out.2.1)).trans (Spared.of_in H6.out.2.1);exact xD (v:=aR 0 0 0) (by unfold results;simp only[results127,aR];go_simp) rfl (RefOut.done (nJ (r:=w.heap.size+1) lY (by omega) b3 hB (aB HR.out.2 (bel w6 _)) (aB HR.out.1 (bel w6 _)) (H6.out.2.2.on (bel w6 _)) (b0.trans ((bel w6 _).mono c2)) (b1.trans (Spared.of_below (bel w6 _)))))
     have c0:(E !=0)=true:=by simpa using hE0
     have hX:X=.error 2:=by rw[<-HX.out,zA (by simp[hd]),zB (by rw[a5.out.1];exact hE0)]
     subst hX;go_wp2_with(first|(go_at_call 118;refine aE (a7 _ (bel _ _)) λp=>?_)|(go_at_call 92;refine aE (a8 _ _) λp=>?_));exact xD (v:=aR 2 0 0) (by unfold results;simp only[results127,aR];go_simp) rfl (RefOut.err (bel w _))
   | true =>
     rw[hd]at x1;replace a2:=a2 hd;cases hw:W with
     | true=>
       have hX:X=.error 9:=by rw[<-HX.out,zB (by simp[hd,hw])]
       subst hX;rw[hw]at a2;go_upto_region 7 with fail;refine qR ?_
       repeat(go_big_quiet_step (first|(with_reducible first|refine cI (b2 _ (bel _ _))|refine cJ (b2 _ (bel _ _)))|(with_reducible first|refine cI (a2 _ (bel _ _))|refine cJ (a2 _ (bel _ _)))))
       refine QN λp=>?_;go_wp2_with(first|(go_at_call 92;refine aE (a8 _ _) λp=>?_));exact xD (v:=aR 9 0 0) (by unfold results;simp only[results127,aR];go_simp) rfl (RefOut.err (bel w _))
     | false=>
       rw[hw]at a2;go_upto_region 7 with fail;refine qR ?_
       repeat(go_big_quiet_step (first|(with_reducible first|refine cI (b2 _ (bel _ _))|refine cJ (b2 _ (bel _ _)))|(with_reducible first|refine cI (a2 _ (bel _ _))|refine cJ (a2 _ (bel _ _)))))
       refine QN λp=>?_;by_cases hE0:E=0
       .have c0:(E !=0)=false:=by simpa using hE0
        cases hFF:F with
        | true=>
          have hX:X=.error 5:=by rw[<-HX.out,zA (by simp[hw]),zA (by rw[a5.out.1];exact λh=>h hE0),zB (by rw[a5.out.2];exact hFF)]
          subst hX;rw[hFF]at a6;go_wp2_with(first|(go_at_call 118;refine aE (a7 _ (bel _ _)) λp=>?_)|(go_at_call 121;refine aE (a6 _ (bel _ _)) λp=>?_)|(go_at_call 92;refine aE (a8 _ _) λp=>?_));exact xD (v:=aR 5 0 0) (by unfold results;simp only[results127,aR];go_simp) rfl (RefOut.err (bel w _))
        | false=>
          have hX:X=.ok ((S.ents K1 y (dX nm y.ents)).ents K2 z' (cT (λe=>eA n2 e.name) ⟨n2,num⟩ z'.ents false [])):=by rw[<-HX.out,zA (by simp[hw]),zA (by rw[a5.out.1];exact λh=>h hE0),zA (by rw[a5.out.2,hFF];decide)]
          subst hX;rw[hFF]at a6;go_upto_region 13 with(first|(go_at_call 118;refine aE (a7 _ (bel _ _)) λp=>?_)|(go_at_call 121;refine aE (a6 _ (bel _ _)) λp=>?_))
          refine aD (F:=λwa=>Blk wa b #[.slice (some ⟨bi,oi,none⟩) S.ins.length c1,.slice ao no co,.slice am nm' cm] 26/\Blk wa w.heap.size #[kd,core,f0,off,nu,path,p2,dt] 28/\Blk wa (w.heap.size+1) () 52/\Bl w wa) ⟨aB HH.out.1 (bel w _),aB (Blk.new w #[kd,core,f0,off,nu,path,p2,dt] 28) (bel _ _),aB (Blk.new_i (w.alloc (.cells #[kd,core,f0,off,nu,path,p2,dt] 28)) () 52 (w.heap.size+1)) (bel _ _),bel w _⟩ ?_;clear s0 s1 s2 x1 iI iL;rintro wz ⟨hb,hc,hr,hbw⟩;have b4:B<=wz.heap.size:=zD hB hbw.size;have a3:=vT B b S _ _ _ _ nm K1 y wz hb (HH.out.2.1.on hbw) b4 HH.out.2.2.1 HH.out.2.2.2.1 HH.out.2.2.2.2.1;have HZ:=eH hb hr hbw;clear hb hc hr hbw;go_upto_region 14 with(go_at_call 128;(refine a3.mono ?_);rintro e w5 ⟨rfl,hb5,hk5,hs5⟩;have H5:=eH hb5 hk5 hs5;clear hb5 hk5 hs5)
          have a9:=H5.out.2.1.blk HZ.out.1 (eS HZ.out.1 (by decide) (by decide));have b5:=H5.out.2.1.blk HZ.out.2.1 (eS HZ.out.2.1 (by decide) (by decide));have b6:B<=w5.heap.size:=zD b4 H5.out.1.size;have a4:=aMP B b (S.ents K1 y (dX nm y.ents)) _ _ _ _ num n2 K2 z' w5 a9 H5.out.2.2 b6 HH.out.2.2.2.2.2.2.2.2 HH.out.2.2.2.2.2.1 HH.out.2.2.2.2.2.2.2.1 HH.out.2.2.2.2.2.2.1;have HF:=bJ a9 b5;clear a9 b5 a3;go_upto_region 15 with(go_at_call 122;(refine a4.mono ?_);rintro e w6 ⟨rfl,hb6,hk6,hs6⟩;have H6:=eH hb6 hk6 hs6;clear hb6 hk6 hs6)
          have b7:=H6.out.2.1.blk HF.out.1 (eS HF.out.1 (by decide) (by decide));have a0:=H6.out.2.1.blk HF.out.2 (eS HF.out.2 (by decide) (by decide));clear a4;have iR:=a0.lt;have g0:=a0.cell 0;have g1:=a0.cell 1;have g2:=a0.cell 2;have g3:=a0.cell 3;have g4:=a0.cell 4;have g5:=a0.cell 5;have c7:=a0.frozen 0;have c8:=a0.frozen 1;have c9:=a0.frozen 2;have d0:=a0.frozen 3;have d1:=a0.frozen 4;have d2:=a0.frozen 5;simp at g0 g1 g2 g3 g4 g5;have HR:=bJ b7 a0;clear b7 a0;go_wp2_with(first|(go_at_call 92;refine aE (a8 _ _) λp=>?_));have c2:B<=w6.heap.size:=zD b6 H6.out.1.size;have b0:Below B w w6:=((HZ.out.2.2.mono hB).trans H5.out.1).trans H6.out.1;have b1:Spared b w w6:=((Spared.of_below HZ.out.2.2).trans (Spared.of_in H5.out.2.1)).trans (Spared.of_in H6.out.2.1);exact xD (v:=aR 0 0 0) (by unfold results;simp only[results127,aR];go_simp) rfl (RefOut.done (nJ (r:=w.heap.size+1) lY (by omega) b3 hB (aB HR.out.2 (bel w6 _)) (aB HR.out.1 (bel w6 _)) (H6.out.2.2.on (bel w6 _)) (b0.trans ((bel w6 _).mono c2)) (b1.trans (Spared.of_below (bel w6 _)))))
       have c0:(E !=0)=true:=by simpa using hE0
       have hX:X=.error 2:=by rw[<-HX.out,zA (by simp[hw]),zB (by rw[a5.out.1];exact hE0)]
       subst hX;go_wp2_with(first|(go_at_call 118;refine aE (a7 _ (bel _ _)) λp=>?_)|(go_at_call 92;refine aE (a8 _ _) λp=>?_));exact xD (v:=aR 2 0 0) (by unfold results;simp only[results127,aR];go_simp) rfl (RefOut.err (bel w _))
section
structure RS (Z P:Nat) (U:Nat->List Nat) (V:Nat->Value) (n:Nat) (arr:Array Value) (q:Addr) (v:Value) (w0:World) (D:Nat->Prop) (σ:Nat->Value) (w:World):Prop where
 vals:∀i,i<Z->i≠P->D i->σ i=V i
 sl:¬D Z->D P->∃g,σ P=.slice (some ⟨g,0,none⟩) n n/\Blk w g arr 5
 all:D Z->∀i,i<Z->D i
 bel:¬D Z->Bl w0 w
 fin:D Z->∃w1,Bl w0 w1/\w=w1.setCell q v
 cl:∀i,i<Z->D i->∀k,k∈U i->D k
section
variable {Z P n T:Nat} {U:Nat->List Nat} {V:Nat->Value} {arr:Array Value} {q:Addr} {v:Value} {w0 w w':World} {D:Nat->Prop} {σ:Nat->Value}
theorem RS.zero (hZ:Z<T) (hP:P<T) (hb:Bl w0 w):RS Z P U V n arr q v w0 (λj=>T<=j) σ w:=
 ⟨λi hi _ h=>absurd h (by omega),λ_ h=>absurd h (by omega),λh=>absurd h (by omega),λ_=>hb,λh=>absurd h (by omega),λi hi h=>absurd h (by omega)⟩
theorem RS.noZ (h:RS Z P U V n arr q v w0 D σ w) {i:Nat} (hi:i<Z) (hnd:¬D i):¬D Z:=λhz=>hnd (h.all hz i hi)
theorem RS.val (h:RS Z P U V n arr q v w0 D σ w) (i:Nat) (hi:i<Z) (hP:P≠i) (hnd:¬D i) (hu:∀k,k∈U i->D k):RS Z P U V n arr q v w0 (λj=>j=i\/D j) (jH σ i (V i)) w:=
 have hz:=h.noZ hi hnd;have a0:¬(Z=i\/D Z):=λe=>e.elim (λe=>by omega) hz
 ⟨λk hk h1 hd=>by
  by_cases e:k=i
  .subst e;exact zB rfl
  .exact(zA e).trans (h.vals k hk h1 (hd.resolve_left e)),
  λ_ hd=>by
   obtain⟨g,e,hg⟩:=h.sl hz (hd.resolve_left hP);exact⟨g,(zA hP).trans e,hg⟩,
  λe=>absurd e a0,λ_=>h.bel hz,λe=>absurd e a0,λk hk hd m hm=>by
   by_cases e:k=i
   .subst e;exact .inr (hu m hm)
   exact .inr (h.cl k hk (hd.resolve_left e) m hm)⟩
theorem RS.call (h:RS Z P U V n arr q v w0 D σ w) (hP:P<Z) (hnd:¬D P) (hu:∀k,k∈U P->D k) {g:Nat} (hb:Bl w w') (hg:Blk w' g arr 5):RS Z P U V n arr q v w0 (λj=>j=P\/D j) (jH σ P (.slice g n n)) w':=
 have hz:=h.noZ hP hnd;have a0:¬(Z=P\/D Z):=λe=>e.elim (λe=>by omega) hz
 ⟨λk hk h1 hd=>(zA h1).trans (h.vals k hk h1 (hd.resolve_left h1)),λ_ _=>⟨g,zB rfl,hg⟩,
  λe=>absurd e a0,λ_=>(h.bel hz).trans (hb.mono (h.bel hz).size),λe=>absurd e a0,λk hk hd m hm=>by
   by_cases e:k=P
   .subst e;exact .inr (hu m hm)
   exact .inr (h.cl k hk (hd.resolve_left e) m hm)⟩
theorem RS.store (h:RS Z P U V n arr q v w0 D σ w) (hnd:¬D Z) (hP:P≠Z) (hw:∀i,i<Z->D i):RS Z P U V n arr q v w0 (λj=>j=Z\/D j) (jH σ Z undef) (w.setCell q v):=
 ⟨λk hk h1 hd=>(zA (by omega)).trans (h.vals k hk h1 (hd.resolve_left (by omega))),λhz=>absurd (.inl rfl) hz,λ_ i hi=>.inr (hw i hi),λhz=>absurd (.inl rfl) hz,λ_=>⟨w,h.bel hnd,rfl⟩,λk hk hd m hm=>.inr (h.cl k hk (hd.resolve_left (by omega)) m hm)⟩
section
variable {Pr:Program} {l:List Oper} {a0 a:Act} {i:Nat} {o:Oper}
theorem qT (h:OB l a0 i o (RS Z P U V n arr q v w0) D σ w a) (j d:Nat) (hj:j<Z:=by decide) (hP:j≠P:=by decide) (h1:o.waits.contains j=true:=by kernel_rfl) (h2:(l[j]?).bind Oper.dst=some d:=by kernel_rfl):(a.tmps[d]?).getD undef=V j:=aJB h j d (h.r.vals j hj hP (h.hw j h1)) h2
theorem bAZ (h:OB l a0 i o (RS Z P U V n arr q v w0) D σ w a) (hu:((U i).all λk=>o.waits.contains k)=true):∀k,k∈U i->D k:=λk hk=>h.hw k (all_eq_true.1 hu k hk)
theorem qU (h:OB l a0 i o (RS Z P U V n arr q v w0) D σ w a) (hx:(execOp a.eval o).run Pr w=.ok (.value (V i)) w) (hi:i<Z:=by decide) (hP:P≠i:=by decide) (hu:((U i).all λk=>o.waits.contains k)=true:=by kernel_rfl):o.eff Pr a w λx w'=>RS Z P U V n arr q v w0 (λj=>j=i\/D j) (jH σ i x) w':=by unfold Oper.eff;rw[hx];exact h.r.val i hi hP h.nd (bAZ h hu)
theorem aTV (h:OB l a0 i o (RS Z P U V n arr q v w0) D σ w a) (hi:i<Z:=by decide):Bl w0 w:=h.r.bel (h.r.noZ hi h.nd)
end
end
def vTr (bi K nn c:Nat) (d e:ByteArray):Nat->Value
 |0=>.pointer (some ⟨bi,K*4,none⟩)
 |1=>.pointer (some ⟨bi,K*4,none⟩)
 |2=>.pointer (some ⟨bi,K*4,none⟩)
 |3=>.pointer (some ⟨bi,K*4+3,none⟩)
 |4=>.string d
 |5=>.pointer (some ⟨c,4,none⟩)
 |6=>.int .i64 nn
 |7=>undef
 |8=>.string (e)
 |9=>.pointer (some ⟨bi,K*4,none⟩)
 |10=>.pointer (some ⟨bi,K*4+3,none⟩)
 |_=>undef
def uTr:Nat->List Nat
 |2=>[1]
 |3=>[2]
 |4=>[3]
 |6=>[5]
 |7=>[4,6]
 |8=>[7]
 |9=>[0]
 |10=>[9]
 |_=>[]
theorem aZA (B b:Nat) (S:PSt) (iv ov mv:Value) (core f0 off nu:Int) (path p2 dt:ByteArray) (w:World) (hb:Blk w b #[iv,ov,mv] 26) (ho:StOwn B w iv ov mv S) (hB:B<=w.heap.size) (hBb:B<=b) (hwf:S.wf) (num:Int) (hfd:oE S core f0=num) (hn0:num≠0) (K:Nat) (x:PIn) (hat:bP S num=K) (hx:S.ins[K]? =some x) (nn:Nat) (hnn:nu=nn) (hn1:nn<=256):
 Calls prog 95 #[.pointer b,.agg #[.int .i64 6,core,f0,off,nu,path,p2,dt]] w (ByOut B b w (.ok ({ S with ins:=S.ins.set K { x with data:=rW x.data nn}},⟨0,0,0,false,⟨#[]⟩,[]⟩))):=by
 have a6:=c43 ho.read hwf.2.1 hfd;have b3:=λk ww=>bE k ww;have a7:=vK ho.read hwf.1 hat;obtain⟨bi,cap,ma,mn,mc,oa,on,oc,rfl,rfl,rfl,hcz,iI,x3,hKI,hnb,iL,hblt,s0,s1,s2⟩:=lW hb ho hwf hx hn0;have HH:=eH hb ho hx;subst hnn;have b1:¬(nn:Int)<0:=by omega
 have b2:¬(256:Int)<nn:=by omega
 clear hb ho hwf hfd hx hat hn0;have b4:=aC hcz;clear hcz;go_in;go_upto_region 1 with fail;refine qR ?_
 repeat(go_big_quiet_step ((with_reducible first|refine cI (a6 _ (bel _ _))|refine cJ (a6 _ (bel _ _)))))
 refine QN λp=>?_;go_wp2;refine qR ?_
 repeat(go_big_quiet_step ((with_reducible first|refine cI (a7 _ (bel _ _))|refine cJ (a7 _ (bel _ _)))))
 refine QN λp=>?_;go_upto_region 33 with fail;refine aD (F:=λwa=>Blk wa w.heap.size #[.int .i64 6,core,f0,off,nn,path,p2,dt] 28/\Blk wa (w.heap.size+1) () 52/\Bl w wa) ⟨aB (Blk.new w #[.int .i64 6,core,f0,off,nn,path,p2,dt] 28) (bel _ _),aB (Blk.new_i (w.alloc (.cells #[.int .i64 6,core,f0,off,nn,path,p2,dt] 28)) () 52 (w.heap.size+1)) (bel _ _),bel w _⟩ ?_;rintro W ⟨hc,hr,hbw⟩;obtain⟨iI3,y3⟩:=b4.out W hbw;have c4:=hc.cell 4;simp at c4;have jC:w.heap.size<W.heap.size:=hc.lt.lt;have jI:bi<W.heap.size:=iI3.lt;have a0:∀w1,Below W.heap.size W w1->_:=λw1 h1=>(HH.out.2.1.on (hbw.trans (h1.mono hbw.size))).setData HH.out.2.2 (rW x.data nn);have a1:∀ww,Calls prog 125 #[x.data,nn] ww _:=λww=>aHS x.data nn ww (by omega);have e0:B<=W.heap.size:=zD hB hbw.size;have b0:=aB HH.out.1 hbw;have HW:=mJ hc hr hbw b0;clear s0 s1 s2 x3 iI iL hc hr hbw b0 a7 a6;refine jV (RS 11 7 uTr (vTr bi K nn w.heap.size x.data (rW x.data nn)) nn (bM (tF x.data.data.toList nn)) ⟨bi,K*4+3,none⟩ (.string (rW x.data nn)) W) (λσ=>RS.zero (by decide) (by decide) (bel W _)) ?_ ?_
 .refine⟨?_,?_,?_,?_,?_,?_,?_,?_,?_,?_,?_,?_,trivial⟩
  .intro D σ w1 a h;have e6:(a.tmps[6]?).getD undef=.pointer (some ⟨bi,K*4,none⟩):=mW h 6;refine qU h ?_;clear h a0 a1;go_simp
   first|done|rfl
  .intro D σ w1 a h;have e6:(a.tmps[6]?).getD undef=.pointer (some ⟨bi,K*4,none⟩):=mW h 6;refine qU h ?_;clear h a0 a1;go_simp
   first|done|rfl
  .intro D σ w1 a h;have b5:(a.tmps[205]?).getD undef=.pointer (some ⟨bi,K*4,none⟩):=qT h 1 205;refine qU h ?_;clear h a0 a1;go_simp
   first|done|rfl
  .intro D σ w1 a h;have b6:(a.tmps[206]?).getD undef=.pointer (some ⟨bi,K*4,none⟩):=qT h 2 206;refine qU h ?_;clear h a0 a1;go_simp
   first|done|rfl
  .intro D σ w1 a h;have a3:=aTV h;have b7:(a.tmps[207]?).getD undef=.pointer (some ⟨bi,K*4+3,none⟩):=qT h 3 207;have hl:=(a3.cell (p:=⟨bi,K*4+3,none⟩) jI).trans y3;have iX:BlockLt bi w1:=⟨zR jI a3.size⟩
   refine qU h ?_;clear h a0 a1;go_simp
   first|done|rfl
  .intro D σ w1 a h;have e3:(a.tmps[3]?).getD undef=.pointer w.heap.size:=mW h 3;refine qU h ?_;clear h a0 a1;go_simp
   first|done|rfl
  .intro D σ w1 a h;have a3:=aTV h;have b8:(a.tmps[209]?).getD undef=.pointer (some ⟨w.heap.size,4,none⟩):=qT h 5 209;have hl:=(a3.cell (p:=⟨w.heap.size,4,none⟩) jC).trans c4;have iX:BlockLt w.heap.size w1:=⟨zR jC a3.size⟩
   refine qU h ?_;clear h a0 a1;go_simp
   first|done|rfl
  .intro D σ w1 a h;have b9:(a.tmps[208]?).getD undef=.string x.data:=qT h 4 208;have c0:(a.tmps[210]?).getD undef=.int .i64 nn:=qT h 6 210;refine aS 125 #[.string x.data,.int .i64 nn] ?_ ((a1 w1).mono ?_)
   .clear h a0 a1;go_simp
    first|done|rfl
   rintro e w' ⟨g,rfl,hqb,-,hg⟩;exact⟨_,rfl,h.r.call (by decide) h.nd (λk hk=>by have hk:k∈[4,6]:=hk;simp only[mem_cons,not_mem_nil,or_false]at hk;rcases hk with rfl|rfl<;>first|exact nR h 4|exact nR h 6) hqb hg⟩
  .intro D σ w1 a h;have hz:=h.r.noZ (by decide) h.nd;have a3:=aTV h;obtain⟨g,eg,hg⟩:=h.r.sl hz (nR h 7);have c1:(a.tmps[211]?).getD undef=.slice g nn nn:=aJB h 7 211 eg;have c2:=cvN w1 g nn nn (tF x.data.data.toList nn) hg (wK _ _);refine qU h ?_;clear h a0 a1 hg;go_simp
   first|done|rfl|exact c2
  .intro D σ w1 a h;have c3:(a.tmps[204]?).getD undef=.pointer (some ⟨bi,K*4,none⟩):=qT h 0 204;refine qU h ?_;clear h a0 a1;go_simp
   first|done|rfl
  .intro D σ w1 a h;have c5:(a.tmps[213]?).getD undef=.pointer (some ⟨bi,K*4,none⟩):=qT h 9 213;refine qU h ?_;clear h a0 a1;go_simp
   first|done|rfl
  intro D σ w1 a h;have a8:∀i,i<11->D i:=by
   have c6:=nR h 10;have d8:=nR h 8;have d7:=h.r.cl 8 (by decide) d8 7 (by decide);have d4:=h.r.cl 7 (by decide) d7 4 (by decide);have d6:=h.r.cl 7 (by decide) d7 6 (by decide);have d3:=h.r.cl 4 (by decide) d4 3 (by decide);have d2:=h.r.cl 3 (by decide) d3 2 (by decide);have d1:=h.r.cl 2 (by decide) d2 1 (by decide);have d5:=h.r.cl 6 (by decide) d6 5 (by decide);have d9:=h.r.cl 10 (by decide) c6 9 (by decide);have d0:=h.r.cl 9 (by decide) d9 0 (by decide);intro i hi;have:i=0\/i=1\/i=2\/i=3\/i=4\/i=5\/i=6\/i=7\/i=8\/i=9\/i=10:=by omega
   rcases this with rfl|rfl|rfl|rfl|rfl|rfl|rfl|rfl|rfl|rfl|rfl<;>assumption
  have a3:=h.r.bel h.nd;obtain⟨hd1,hd2,cI,hd3⟩:=a0 w1 a3;have iI:=hd3.lt;have iF:=hd3.frozen (K*4+3);have e1:=(a3.cell (p:=⟨bi,K*4+3,none⟩) jI).trans y3;have c7:(a.tmps[212]?).getD undef=.string (rW x.data nn):=qT h 8 212;have c8:(a.tmps[214]?).getD undef=.pointer (some ⟨bi,K*4+3,none⟩):=qT h 10 214;refine aLW (w':=w1.setCell ⟨bi,K*4+3,none⟩ (.string (rW x.data nn))) ?_ (h.r.store h.nd (by decide) a8);clear h a0 a1 hd1 hd2 hd3;go_simp
  first|done|rfl
 intro σ w3 hR;obtain⟨w1,hb1,rfl⟩:=hR.fin trivial;obtain⟨hd1,hd2,cI,hd3⟩:=a0 w1 hb1;have a4:=HW.out.2.2.1.trans (hb1.mono HW.out.2.2.1.size);have a2:=aB HW.out.2.2.2 hb1;have a9:=aB HW.out.2.1 hb1;have a5:Keep (λk=>k=bi) w1 (w1.setCell ⟨bi,K*4+3,none⟩ (.string (rW x.data nn))):=Keep.setCell (S:=λk=>k=bi) (p:=⟨bi,K*4+3,none⟩) (Keep.refl _ _) (.inl rfl) _;have n1:=a5.blk a2 (λe=>by subst e;exact a2.ne_ hd3 (by decide) rfl);have n3:=a5.blk a9 (λe=>by have:=a9.ne_ hd3 (by decide);exact this e);have n4:Below B w (w1.setCell ⟨bi,K*4+3,none⟩ (.string (rW x.data nn))):=(a4.mono hB).trans (a5.below (zD hB a4.size) (λi hi e=>by omega));have n5:Spared b w (w1.setCell ⟨bi,K*4+3,none⟩ (.string (rW x.data nn))):=(Spared.of_below a4).trans (Spared.set hd3 (.inr ⟨by decide,by decide,by decide⟩));simp only[dM,Act.put,sA,sZ,sS,Nat.reduceAdd];have HN:=qM n1 hd1 n3 n4 n5;clear a4 a2 a9 hd1 hd2 hd3 a5 n1 n3 n4 n5 hR a0 a1 hb1 HW;go_upto_region 36 with fail;refine aD (F:=λwz=>Blk wz b #[.slice bi S.ins.length cap,.slice oa on oc,.slice ma mn mc] 26/\StOwn B wz (.slice bi S.ins.length cap) (.slice oa on oc) (.slice ma mn mc) { S with ins:=S.ins.set K { x with data:=rW x.data nn}}/\Blk wz (w.heap.size+1) () 52/\Below B w wz/\Spared b w wz) HN.out ?_;clear HN;rintro wf ⟨f1,f2,f3,f4,f5⟩;have l3:=f3.lt;have g0:=f3.cell 0;have e2:=f3.frozen 0;have g1:=f3.cell 1;have e4:=f3.frozen 1;have g2:=f3.cell 2;have e5:=f3.frozen 2;have g3:=f3.cell 3;have e7:=f3.frozen 3;have g4:=f3.cell 4;have e8:=f3.frozen 4;have g5:=f3.cell 5;have e9:=f3.frozen 5;simp at g0 g1 g2 g3 g4 g5;have HF:=qM f1 f2 f3 f4 f5;clear f1 f2 f3 f4 f5;go_wp2_with(go_at_call 92;refine aE (b3 _ _) λp=>?_);have c9:B<=wf.heap.size:=zD hB HF.out.2.2.2.1.size;exact xD (v:=aR 0 0 0) (by unfold results;simp only[results95,aR];go_simp) rfl (ByOut.done (nJ (r:=w.heap.size+1) lY (by omega) hblt hB (aB HF.out.2.2.1 (bel wf _)) (aB HF.out.1 (bel wf _)) (HF.out.2.1.on (bel wf _)) (HF.out.2.2.2.1.trans ((bel wf _).mono c9)) (HF.out.2.2.2.2.trans (Spared.of_below (bel wf _)))))
theorem aZB (B b:Nat) (S:PSt) (iv ov mv:Value) (core f0 off nu:Int) (path p2 dt:ByteArray) (w:World) (hb:Blk w b #[iv,ov,mv] 26) (ho:StOwn B w iv ov mv S) (hB:B<=w.heap.size) (hBb:B<=b) (hwf:S.wf) (num:Int) (hfd:oE S core f0=num) (hn0:num≠0) (K:Nat) (x:PIn) (hat:bP S num=K) (hx:S.ins[K]? =some x) (oo:Nat) (hoo:off=oo) (hde:dt.size≠0) (hsum:oo+dt.size<=256) (hxs:x.data.size<=1000000):
 Calls prog 95 #[.pointer b,.agg #[.int .i64 5,core,f0,off,nu,path,p2,dt]] w (ByOut B b w (.ok ({ S with ins:=S.ins.set K { x with data:=aBD x.data oo dt}},⟨0,0,dt.size,false,⟨#[]⟩,[]⟩))):=by
 have a9:=c43 ho.read hwf.2.1 hfd;have c6:=λk ww=>bE k ww;have b0:=vK ho.read hwf.1 hat;obtain⟨bi,cap,ma,mn,mc,oa,on,oc,rfl,rfl,rfl,hcz,iI,x3,hKI,hnb,iL,hblt,s0,s1,s2⟩:=lW hb ho hwf hx hn0;have HH:=eH hb ho hx;subst hoo;have b1:¬(oo:Int)<0:=by omega
 have b2:¬(256:Int)<oo:=by omega
 have b3:¬(256:Int)<dt.size:=by omega
 have b4:¬(256:Int)<oo+dt.size:=by omega
 have c8:dt.toList.isEmpty=false:=aFI hde;obtain⟨N,hN⟩:∃N:Nat,max (x.data.size:Int) ((oo:Int)+dt.size)=N:=⟨max x.data.size (oo+dt.size),by omega⟩;have b5:N<=1000000:=by omega
 have a3:∀ww,Calls prog 125 #[x.data,N] ww _:=λww=>aHS x.data N ww b5;have c9:oo<=N:=by omega
 have d0:¬N=oo:=by omega
 obtain⟨L1,hL1⟩:∃L,tF x.data.data.toList N=L:=⟨_,rfl⟩;have a1:L1.length=N:=by rw[<-hL1];exact wK _ _
 rw[hL1]at a3;obtain⟨L2,hL2⟩:∃L,L1.take oo++dt.data.toList++L1.drop (oo+dt.size)=L:=⟨_,rfl⟩;have b6:dt.data.toList.length=dt.size:=rfl;have b7:x.data.data.toList.length=x.data.size:=rfl;have a2:L2.length=N:=by rw[<-hL2];simp[b6,a1];omega
 have a4:(⟨L2.toArray⟩:ByteArray)=aBD x.data oo dt:=by
  unfold aBD;rw[zA hde,<-hL2,<-hL1];unfold aVF tF;rw[zB (by omega),b6,b7];have e:max x.data.size (oo+dt.size)=N:=by omega
  rw[e]
 rw[<-a4];have a8:=fun(W:World) (g:Nat) (hG:Blk W g (bM L1) 5) (ty:TypeId)=>by have:=cpN W ty g oo (N-oo) (N-oo) L1 dt hG (by omega) (by omega);rw[hL2]at this;exact this
 have a6:=fun(W:World) (g:Nat) (hG:Blk W g (bM L2) 5)=>cvN W g N N L2 hG a2;obtain⟨z,hz⟩:∃z:ByteArray,(⟨L2.toArray⟩:ByteArray)=z:=⟨_,rfl⟩;rw[hz]at a6 a4 |-;have b8:=bJ a8 a6;have a5:max (x.data.size:Int) (IntKind.i64.wrap ((oo:Int)+dt.size))=N:=by rw[show IntKind.i64.wrap ((oo:Int)+dt.size)=oo+dt.size from I64.wrap ⟨by omega,by omega⟩];exact hN
 have b9:=eH a5 b5 a3;clear a5 hN b5 a3 hxs a8 a6 hL1 hL2 a4 hz a1 a2 b6 b7;have d1:wrap64 ((oo:Int)+dt.size)=oo+dt.size:=by unfold wrap64;omega
 clear hb ho hwf hfd hx hat hn0;have c0:=aC hcz;clear hcz;go_in;go_upto_region 1 with fail;refine qR ?_
 repeat(go_big_quiet_step ((with_reducible first|refine cI (a9 _ (bel _ _))|refine cJ (a9 _ (bel _ _)))))
 refine QN λp=>?_;go_wp2;refine qR ?_
 repeat(go_big_quiet_step ((with_reducible first|refine cI (b0 _ (bel _ _))|refine cJ (b0 _ (bel _ _)))))
 refine QN λp=>?_;go_upto_region 26 with fail;have a5:=b9.out.1;have a3:=b9.out.2.2;go_cut [10] (λv10 wx=>∃g,v10=.slice (some ⟨g,0,none⟩) N N/\w.heap.size+2<=g/\Bl w wx/\Blk wx w.heap.size #[.int .i64 5,core,f0,oo,nu,path,p2,dt] 28/\Blk wx (w.heap.size+1) () 52/\Blk wx g (bM L1) 5)
 case first=>
  refine aH [16] false (λw'=>w'.cell? ⟨bi,K*4+3,none⟩=some (.string x.data)/\w'.cell? ⟨w.heap.size,3,none⟩=some (.int .i64 oo)/\w'.cell? ⟨w.heap.size,7,none⟩=some (.string dt)) (by kernel_rfl) (by kernel_rfl) ?_ ?_
  · (try dsimp only);(repeat' apply And.intro)<;>go_simp
  repeat
   apply aI0 rfl rfl
   focus
    rintro w' ⟨q0,q1,q2⟩;go_simp
    first|done|rfl
   simp only[Act.put,sA,sZ,sS]
  refine bB rfl rfl ?_;refine aS 125 #[.string x.data,.int .i64 N] ?hr ?_
  case hr=>
   go_simp
   first|done|exact a5
  refine(a3 _).mono ?_;rintro e w' ⟨g,rfl,hb,hg,hk⟩;obtain⟨p,rfl⟩:=hb.rest;have HK:=bJ hg hk;clear hb hg hk;refine⟨_,rfl,.inl ?_,?_⟩
  · (try dsimp only);(repeat' apply And.intro)<;>go_simp
  simp only[Act.put,sA,sZ,sS]
  repeat
   apply aI0 rfl rfl
   focus
    rintro w' ⟨q0,q1,q2⟩;go_simp
    first|done|rfl
   simp only[Act.put,sA,sZ,sS]
  refine aU ?_;clear a5 a3;go_wp2_with fail;go_meet;refine⟨_,rfl,?_,bel _ _,aB (Blk.new w #[.int .i64 5,core,f0,oo,nu,path,p2,dt] 28) (bel _ _),aB (Blk.new_i (w.alloc (.cells #[.int .i64 5,core,f0,oo,nu,path,p2,dt] 28)) () 52 (w.heap.size+1)) (bel _ _),?_⟩
  .have:=HK.out.1;simp at this;omega
  have h:=HK.out.2
  first|exact h|(rw [World.junk_junk]at h;exact h)|(simp only[go_sem]at h;exact h)
 obtain⟨g,rfl,hgw,hbc,hCc,hRc,hG⟩:=hcut;obtain⟨iI3,y3⟩:=c0.out wc hbc;have iC:=hCc.lt;have iG:=hG.lt;have c3:=hCc.cell 3;have c7:=hCc.cell 7;simp at c3 c7;have a8:=λty=>b8.out.1 wc.drew g (hG.below (bel wc _) iG.lt) ty;have HX:=qM hbc hCc hRc hG hgw;clear s0 s1 s2 x3 iI iL hbc hCc hRc hG b0 a9 a3 a5;go_upto_region 27 with fail;refine aH [6] true (λw'=>w'.cell? ⟨w.heap.size,3,none⟩=some (.int .i64 oo)/\w'.cell? ⟨w.heap.size,7,none⟩=some (.string dt)) (by kernel_rfl) (by kernel_rfl) ?_ ?_
 · (try dsimp only);(repeat' apply And.intro)<;>go_simp
 repeat
  apply aI0 rfl rfl
  focus
   rintro w' ⟨q0,q1⟩;go_simp
   first|done|rfl
  simp only[Act.put,sA,sZ,sS]
 refine nS rfl rfl ?_;apply Exists.intro;apply Exists.intro;refine⟨?_,?_,?_⟩
 focus
  go_simp;exact⟨rfl,rfl⟩
 focus
  exact .inr ⟨rfl,rfl⟩
 simp only[Act.put,sA,sZ,sS];refine aU ?_;clear a8 y3 c3 c7 iC iG iI3;go_upto_region 28 with fail;refine aD (F:=λwz=>Bl w wz/\Blk wz w.heap.size #[.int .i64 5,core,f0,oo,nu,path,p2,dt] 28/\Blk wz (w.heap.size+1) () 52/\Blk wz g (bM L2) 5) ?_ ?_
 .have d2:w.heap.size+2<=g:=HX.out.2.2.2.2;have c2:g≠w.heap.size:=by omega
  have c4:g≠w.heap.size+1:=by omega
  have c5:=HX.out.1.trans ((bel wc wc.drew).mono HX.out.1.size);have hC:=aB HX.out.2.1 (bel wc wc.drew);have hR:=aB HX.out.2.2.1 (bel wc wc.drew);have hG:=aB HX.out.2.2.2.1 (bel wc wc.drew);refine⟨mN c5 (by omega) _,?_,?_,kE hG _⟩
  .unfold Blk at hC |-;rw[<-hC];exact setRow_other _ _ _ _ (λe=>c2 e.symm)
  unfold Blk at hR |-;rw[<-hR];exact setRow_other _ _ _ _ (λe=>c4 e.symm)
 clear HX;rintro wz ⟨hbz,hCz,hRz,hGz⟩;have c1:=HH.out.2.1.on hbz;have a0:=aB HH.out.1 hbz;obtain⟨hd1,hd2,cI,hd3⟩:=c1.setData HH.out.2.2 z;have a6:=b8.out.2 wz g hGz;have iI:=hd3.lt;have iF:=hd3.frozen (K*4+3);obtain⟨-,y3⟩:=c0.out wz hbz;have a7:Keep (λk=>k=bi) wz (wz.setCell ⟨bi,K*4+3,none⟩ (.string z)):=Keep.setCell (S:=λk=>k=bi) (p:=⟨bi,K*4+3,none⟩) (Keep.refl _ _) (.inl rfl) _;have n1:=a7.blk a0 (λe=>by subst e;exact a0.ne_ hd3 (by decide) rfl);have n2:=a7.blk hCz (λe=>by have:=hCz.ne_ hd3 (by decide);exact this e);have n3:=a7.blk hRz (λe=>by have:=hRz.ne_ hd3 (by decide);exact this e);have n4:Below B w (wz.setCell ⟨bi,K*4+3,none⟩ (.string z)):=(hbz.mono hB).trans (a7.below (zD hB hbz.size) (λi hi e=>by omega));have n5:Spared b w (wz.setCell ⟨bi,K*4+3,none⟩ (.string z)):=(Spared.of_below hbz).trans (Spared.set hd3 (.inr ⟨by decide,by decide,by decide⟩));have HN:=jj6 n1 hd1 n2 n3 n4 n5;clear hbz hCz hRz hGz c1 a0 hd1 hd2 hd3 a7 n1 n2 n3 n4 n5;go_upto_region 29 with fail;refine aD (F:=λwz=>Blk wz b #[.slice bi S.ins.length cap,.slice oa on oc,.slice ma mn mc] 26/\StOwn B wz (.slice bi S.ins.length cap) (.slice oa on oc) (.slice ma mn mc) { S with ins:=S.ins.set K { x with data:=z}}/\Blk wz w.heap.size #[.int .i64 5,core,f0,oo,nu,path,p2,dt] 28/\Blk wz (w.heap.size+1) () 52/\Below B w wz/\Spared b w wz) HN.out ?_;clear HN a6 iI iF y3;rintro wf ⟨f1,f2,fc,f3,f4,f5⟩;have iC:=fc.lt;have c7:=fc.cell 7;simp at c7;have l3:=f3.lt;have g0:=f3.cell 0;have d3:=f3.frozen 0;have g1:=f3.cell 1;have d4:=f3.frozen 1;have g2:=f3.cell 2;have d5:=f3.frozen 2;have g3:=f3.cell 3;have d6:=f3.frozen 3;have g4:=f3.cell 4;have d7:=f3.frozen 4;have g5:=f3.cell 5;have d8:=f3.frozen 5;simp at g0 g1 g2 g3 g4 g5;have HF:=qM f1 f2 f3 f4 f5;clear f1 f2 fc f3 f4 f5;go_wp2;exact xD (v:=aR 0 0 dt.size) (by unfold results;simp only[results95,aR];go_simp) rfl (ByOut.done (nJ (r:=w.heap.size+1) lF (by omega) hblt hB HF.out.2.2.1 HF.out.1 HF.out.2.1 HF.out.2.2.2.1 HF.out.2.2.2.2))
end
end Go.Proofs.YtmkapobnfigedaaGreatDoor
