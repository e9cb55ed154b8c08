/- A part of a proof of a law. Conditions: none. -/
import Derived.Test.YtmkapobnfigedaaGreatDoorDk20
import Derived.Test.YtmkapobnfigedaaGreatDoorDk24
set_option linter.unusedVariables false
set_option linter.unusedSimpArgs false
set_option maxRecDepth 100000
set_option maxHeartbeats 8000000
namespace Go.Proofs.YtmkapobnfigedaaGreatDoor
open Go.Proofs.Tryz List Go.RowKit
theorem aJR (b:Nat) (S:PSt) (iv ov mv:Value) (kd core f0 off nu:Int) (path p2 dt:ByteArray) (w:World) (hb:Blk w b #[iv,ov,mv] 26) (ho:StRead w iv ov mv S) (hfR:FineR S) (num:Int) (C:Int) (hfind:eX S path=(num,C)) (hC:C≠0):
 vR w 94 #[.pointer b,.agg #[kd,core,f0,off,nu,path,p2,dt],.int .i64 (-1)] (.tuple #[aQ C 0 0,true]):=by
 have a0:=c46 ho hfR hfind;have a1:=λww=>bD C ww;obtain⟨ai,ni,ci,ao,no,co,am,nm',cm,rfl,rfl,rfl⟩:=ho.slices;obtain⟨iL,s0,s1,s2⟩:=gN hb;have a3:(C !=0)=true:=by simpa using hC
 have a2:(C==0)=false:=by simpa using hC
 clear ho hb hfR hfind;unfold vR;go_in;go_upto_region 1 with fail;refine qR ?_
 repeat(go_big_quiet_step ((with_reducible first|refine cI (a0 _ (bel _ _))|refine cJ (a0 _ (bel _ _)))))
 refine QN λp=>?_;go_wp2_with(fail);refine qR ?_
 repeat(go_big_quiet_step (fail))
 refine QN λp=>?_;go_wp2_with(first|(go_at_call 92;with_reducible refine aE (a1 _) λp=>?_));exact xD (v:=.tuple #[aQ C 0 0,true]) (by unfold results;simp only[results94,aQ];go_simp) rfl ⟨rfl,bel w _⟩
theorem aJS (b:Nat) (S:PSt) (iv ov mv:Value) (kd core f0 off nu:Int) (path p2 dt:ByteArray) (w:World) (hb:Blk w b #[iv,ov,mv] 26) (ho:StRead w iv ov mv S) (hfR:FineR S) (num:Int) (C:Int) (hfind:eX S path=(num,C)) (hC:C=0) (K:Nat) (x:PIn) (hat:bM S num=K) (hx:S.ins[K]? =some x) (hd:x.dir=true):
 vR w 94 #[.pointer b,.agg #[kd,core,f0,off,nu,path,p2,dt],.int .i64 (-1)] (.tuple #[aQ 8 0 0,true]):=by
 have a0:=c46 ho hfR hfind;have a3:=λww=>bD 8 ww;have a2:=uX ho hfR.wf.1 hat;obtain⟨hxl,-⟩:=gI.1 hx;have a4:∀i ww,Bl w ww->vR ww 43 #[.agg #[iv,ov,mv],.int .i64 core,.int .i64 i] (.int .i64 (nR S core i)):=λi ww hb=>aWD S iv ov mv core i ww (ho.below hb (zC _)) hfR.wf.2.1;have a5:=hb;have a6:=ho;obtain⟨a1,n1',c1,ao,no,co,am,nm',cm,rfl,rfl,rfl⟩:=ho.slices;obtain⟨ai,ci,e1,hai⟩:=ho.ins_at2;cases e1;obtain⟨bi,oi,ev,he,iI0,hoi,her,hci⟩:=hai K x hx;subst he;obtain⟨iI,-,x1,-,-⟩:=hci w (Below.refl _ _);rw[hd]at x1;have a7:(K:Int)<S.ins.length:=by omega
 obtain⟨iL,s0,s1,s2⟩:=gN hb;subst hC;clear ho hb hfR hfind a5 a6 hx hd hai her hci hoi hat a4;unfold vR;go_in;go_upto_region 1 with fail;refine qR ?_
 repeat(go_big_quiet_step ((with_reducible first|refine cI (a0 _ (bel _ _))|refine cJ (a0 _ (bel _ _)))))
 refine QN λp=>?_;go_wp2_with(fail);refine qR ?_
 repeat(go_big_quiet_step ((with_reducible first|refine cI (a2 _ (bel _ _))|refine cJ (a2 _ (bel _ _)))))
 refine QN λp=>?_;go_wp2_with(first|(go_at_call 92;with_reducible refine aE (a3 _) λp=>?_));exact xD (v:=.tuple #[aQ 8 0 0,true]) (by unfold results;simp only[results94,aQ];go_simp) rfl ⟨rfl,bel w _⟩
theorem aJT (b:Nat) (S:PSt) (iv ov mv:Value) (kd core f0 off nu:Int) (path p2 dt:ByteArray) (w:World) (hb:Blk w b #[iv,ov,mv] 26) (ho:StRead w iv ov mv S) (hfR:FineR S) (num:Int) (C:Int) (hfind:eX S path=(num,C)) (hC:C=0) (K:Nat) (x:PIn) (hat:bM S num=K) (hx:S.ins[K]? =some x) (hd:x.dir=false) (hfd:∀i:Int,0<=i->i<=3->nR S core i≠0):
 vR w 94 #[.pointer b,.agg #[kd,core,f0,off,nu,path,p2,dt],.int .i64 (-1)] (.tuple #[aQ 10 0 0,true]):=by
 have a5:=c46 ho hfR hfind;have a9:=λww=>bD 10 ww;have a6:=uX ho hfR.wf.1 hat;obtain⟨hxl,-⟩:=gI.1 hx;have a3:∀i ww,Bl w ww->vR ww 43 #[.agg #[iv,ov,mv],.int .i64 core,.int .i64 i] (.int .i64 (nR S core i)):=λi ww hb=>aWD S iv ov mv core i ww (ho.below hb (zC _)) hfR.wf.2.1;have a7:=hb;have b0:=ho;obtain⟨a1,n1',c1,ao,no,co,am,nm',cm,rfl,rfl,rfl⟩:=ho.slices;obtain⟨ai,ci,e1,hai⟩:=ho.ins_at2;cases e1;obtain⟨bi,oi,ev,he,iI0,hoi,her,hci⟩:=hai K x hx;subst he;obtain⟨iI,-,x1,-,-⟩:=hci w (Below.refl _ _);rw[hd]at x1;have b1:(K:Int)<S.ins.length:=by omega
 obtain⟨iL,s0,s1,s2⟩:=gN hb;subst hC;have HB:=aC a7;clear ho hb hfR hfind a7 b0 hx hd hai her hci hoi hat;unfold vR;go_in;go_upto_region 1 with fail;refine qR ?_
 repeat(go_big_quiet_step ((with_reducible first|refine cI (a5 _ (bel _ _))|refine cJ (a5 _ (bel _ _)))))
 refine QN λp=>?_;go_wp2_with(fail);refine qR ?_
 repeat(go_big_quiet_step ((with_reducible first|refine cI (a6 _ (bel _ _))|refine cJ (a6 _ (bel _ _)))))
 refine QN λp=>?_;go_wp2_with(fail);refine aD (F:=λwa=>Blk wa b #[.slice (some ⟨bi,oi,none⟩) S.ins.length c1,.slice ao no co,.slice am nm' cm] 26/\Blk wa w.heap.size #[kd,core,f0,off,nu,path,p2,dt] 28/\Blk wa (w.heap.size+1) () 52/\Bl w wa) ⟨aB HB.out (bel w _),aB (Blk.new w #[kd,core,f0,off,nu,path,p2,dt] 28) (bel _ _),aB (Blk.new_i (w.alloc (.cells #[kd,core,f0,off,nu,path,p2,dt] 28)) () 52 (w.heap.size+1)) (bel _ _),bel w _⟩ ?_;clear s0 s1 s2 x1 iI iL;rintro wa ⟨hb,hbc,hbr,hbw⟩;have HW:=lE hb hbc hbr hbw;clear hb hbc hbr hbw
 go_loopw[10,11] (λv10 v11 wr=>∃i:Int,v11=.int .i64 i/\v10=.int .i64 (-1)/\-1<=i/\i<=3/\Bl wa wr) (λ_ i _=>(intOf i+1).toNat)
 case atStart=>exact⟨3,rfl,rfl,by omega,by omega,Below.refl _ _⟩
 obtain⟨i,rfl,rfl,hi1,hi3,hbw⟩:=hrel;have a2:Bl w wr:=HW.out.2.2.2.trans (hbw.mono HW.out.2.2.2.size);have iB:Bel w wr:=⟨a2⟩;have hb:=aB HW.out.1 hbw;have hc:=aB HW.out.2.1 hbw;have hr:=aB HW.out.2.2.1 hbw;have iL:=hb.lt;have iC:=hc.lt;have iR:=hr.lt;have s0:=hb.cell 0;have s1:=hb.cell 1;have s2:=hb.cell 2;have q1:=hc.cell 1;simp at s0 s1 s2 q1;have HR:=aC hr;clear hb hc hr;by_cases h0:0<=i
 .have a0:=λww hb=>a3 i ww hb
  have a8:=hfd i h0 hi3;have wi:IntKind.i64.wrap (i-1)=i-1:=I64.wrap ⟨by omega,by omega⟩;clear a3 hfd;generalize nR S core i=fi at a0 a8;have b2:(fi==0)=false:=by simpa using a8
  go_upto_region 10 with fail;refine qR ?_
  repeat(go_big_quiet_step ((with_reducible first|refine cI (a0 _ (bel _ _))|refine cJ (a0 _ (bel _ _)))))
  refine QN λp=>?_;go_wp2;go_roundw
  case rel=>exact⟨i-1,by go_num,rfl,by omega,by omega,bel wr _ |> λh=>hbw.trans (h.mono hbw.size)⟩
  simp[intOf];omega
 obtain rfl:i=-1:=by omega
 clear a3 hfd;have b3:=HR.out.frozen 0;have b4:=HR.out.frozen 1;have b5:=HR.out.frozen 2;have b6:=HR.out.frozen 3;have b7:=HR.out.frozen 4;have b8:=HR.out.frozen 5;obtain⟨-,g0,g1,g2,g3,g4,g5⟩:=bx6 HR.out;have a4:∀ww,vR ww 92 #[.int .i64 10] (.agg #[.int .i64 10,.int .i64 0,.int .i64 0,false,.string ⟨#[]⟩,.slice none 0 0]):=a9;go_wp2_with(go_at_call 92;with_reducible refine aE (a4 _) λp=>?_);exact xD (v:=.tuple #[aQ 10 0 0,true]) (by unfold results;simp only[results94,aQ];go_simp) rfl ⟨rfl,(a2.trans ((bel wr _).mono a2.size)).trans ((lK (r:=w.heap.size+1)).below (zD a2.size (bel wr _).size) (λi hi e=>by omega))⟩
theorem aOT (b:Nat) (S:PSt) (iv ov mv:Value) (kd core f0 off nu:Int) (path p2 dt:ByteArray) (w:World) (hb:Blk w b #[iv,ov,mv] 26) (ho:StRead w iv ov mv S) (hfR:FineR S) (num:Int) (C:Int) (hfind:eX S path=(num,C)) (hC:C≠0):
 vR w 126 #[.pointer b,.agg #[kd,core,f0,off,nu,path,p2,dt]] (aQ C 0 0):=by
 have a0:=c46 ho hfR hfind;have a1:=λww=>bD C ww;obtain⟨ai,ni,ci,ao,no,co,am,nm',cm,rfl,rfl,rfl⟩:=ho.slices;obtain⟨iL,s0,s1,s2⟩:=gN hb;have a3:(C !=0)=true:=by simpa using hC
 have a2:(C==0)=false:=by simpa using hC
 clear ho hb hfR hfind;unfold vR;go_in;go_upto_region 1 with fail;refine qR ?_
 repeat(go_big_quiet_step ((with_reducible first|refine cI (a0 _ (bel _ _))|refine cJ (a0 _ (bel _ _)))))
 refine QN λp=>?_;go_wp2_with(fail);refine qR ?_
 repeat(go_big_quiet_step (fail))
 refine QN λp=>?_;go_wp2_with(first|(go_at_call 92;with_reducible refine aE (a1 _) λp=>?_));exact xD (v:=aQ C 0 0) (by unfold results;simp only[results126,aQ];go_simp) rfl ⟨rfl,bel w _⟩
theorem aOU (b:Nat) (S:PSt) (iv ov mv:Value) (kd core f0 off nu:Int) (path p2 dt:ByteArray) (w:World) (hb:Blk w b #[iv,ov,mv] 26) (ho:StRead w iv ov mv S) (hfR:FineR S) (num:Int) (C:Int) (hfind:eX S path=(num,C)) (hC:C=0) (K:Nat) (x:PIn) (hat:bM S num=K) (hx:S.ins[K]? =some x) (hd:x.dir=true):
 vR w 126 #[.pointer b,.agg #[kd,core,f0,off,nu,path,p2,dt]] (aQ 8 0 0):=by
 have a0:=c46 ho hfR hfind;have a3:=λww=>bD 8 ww;have a2:=uX ho hfR.wf.1 hat;obtain⟨hxl,-⟩:=gI.1 hx;have a4:=hb;have a5:=ho;obtain⟨a1,n1',c1,ao,no,co,am,nm',cm,rfl,rfl,rfl⟩:=ho.slices;obtain⟨ai,ci,e1,hai⟩:=ho.ins_at2;cases e1;obtain⟨bi,oi,ev,he,iI0,hoi,her,hci⟩:=hai K x hx;subst he;obtain⟨iI,-,x1,-,-⟩:=hci w (Below.refl _ _);rw[hd]at x1;have a6:(K:Int)<S.ins.length:=by omega
 obtain⟨iL,s0,s1,s2⟩:=gN hb;subst hC;clear ho hb hfR hfind a4 a5 hx hd hai her hci hoi hat;unfold vR;go_in;go_upto_region 1 with fail;refine qR ?_
 repeat(go_big_quiet_step ((with_reducible first|refine cI (a0 _ (bel _ _))|refine cJ (a0 _ (bel _ _)))))
 refine QN λp=>?_;go_wp2_with(fail);refine qR ?_
 repeat(go_big_quiet_step ((with_reducible first|refine cI (a2 _ (bel _ _))|refine cJ (a2 _ (bel _ _)))))
 refine QN λp=>?_;go_wp2_with(first|(go_at_call 92;with_reducible refine aE (a3 _) λp=>?_));exact xD (v:=aQ 8 0 0) (by unfold results;simp only[results126,aQ];go_simp) rfl ⟨rfl,bel w _⟩
theorem aOV (b:Nat) (S:PSt) (iv ov mv:Value) (kd core f0 off nu:Int) (path p2 dt:ByteArray) (w:World) (hb:Blk w b #[iv,ov,mv] 26) (ho:StRead w iv ov mv S) (hfR:FineR S) (num:Int) (C:Int) (hfind:eX S path=(num,C)) (hC:C=0) (K:Nat) (x:PIn) (hat:bM S num=K) (hx:S.ins[K]? =some x) (hd:x.dir=false) (D:Int) (nm:ByteArray) (C2:Int) (hpar:bL S p2=(D,nm,C2)) (hC2:C2≠0):
 vR w 126 #[.pointer b,.agg #[kd,core,f0,off,nu,path,p2,dt]] (aQ C2 0 0):=by
 have a0:=c46 ho hfR hfind;have a4:=λww=>bD C2 ww;have a2:=uX ho hfR.wf.1 hat;obtain⟨hxl,-⟩:=gI.1 hx;have a3:=c45 ho hfR hpar;have a5:=hb;have a6:=ho;obtain⟨a1,n1',c1,ao,no,co,am,nm',cm,rfl,rfl,rfl⟩:=ho.slices;obtain⟨ai,ci,e1,hai⟩:=ho.ins_at2;cases e1;obtain⟨bi,oi,ev,he,iI0,hoi,her,hci⟩:=hai K x hx;subst he;obtain⟨iI,-,x1,-,-⟩:=hci w (Below.refl _ _);rw[hd]at x1;have a7:(K:Int)<S.ins.length:=by omega
 obtain⟨iL,s0,s1,s2⟩:=gN hb;subst hC;have a8:(C2 !=0)=true:=by simpa using hC2
 clear ho hb hfR hfind a5 a6 hx hd hai her hci hoi hat hpar;unfold vR;go_in;go_upto_region 1 with fail;refine qR ?_
 repeat(go_big_quiet_step ((with_reducible first|refine cI (a0 _ (bel _ _))|refine cJ (a0 _ (bel _ _)))))
 refine QN λp=>?_;go_wp2_with(fail);refine qR ?_
 repeat(go_big_quiet_step ((with_reducible first|refine cI (a2 _ (bel _ _))|refine cJ (a2 _ (bel _ _)))))
 refine QN λp=>?_;go_wp2_with(fail);refine qR ?_
 repeat(go_big_quiet_step ((with_reducible first|refine cI (a3 _ (bel _ _))|refine cJ (a3 _ (bel _ _)))))
 refine QN λp=>?_;go_wp2_with(first|(go_at_call 92;with_reducible refine aE (a4 _) λp=>?_));exact xD (v:=aQ C2 0 0) (by unfold results;simp only[results126,aQ];go_simp) rfl ⟨rfl,bel w _⟩
theorem aOW (b:Nat) (S:PSt) (iv ov mv:Value) (kd core f0 off nu:Int) (path p2 dt:ByteArray) (w:World) (hb:Blk w b #[iv,ov,mv] 26) (ho:StRead w iv ov mv S) (hfR:FineR S) (num:Int) (C:Int) (hfind:eX S path=(num,C)) (hC:C=0) (K:Nat) (x:PIn) (hat:bM S num=K) (hx:S.ins[K]? =some x) (hd:x.dir=false) (D:Int) (nm:ByteArray) (C2:Int) (hpar:bL S p2=(D,nm,C2)) (hC2:C2=0) (hE:aW S D nm≠0):
 vR w 126 #[.pointer b,.agg #[kd,core,f0,off,nu,path,p2,dt]] (aQ 2 0 0):=by
 have a0:=c46 ho hfR hfind;have a5:=λww=>bD 2 ww;have a2:=uX ho hfR.wf.1 hat;obtain⟨hxl,-⟩:=gI.1 hx;have a3:=c45 ho hfR hpar;have a4:vB w 118 #[.agg #[iv,ov,mv],.int .i64 D,.string nm] (.int .i64 (aW S D nm)):=λww hb=>hY S iv ov mv D nm ww (ho.below hb (zC _)) hfR.wf;have a6:=hb;have a7:=ho;obtain⟨a1,n1',c1,ao,no,co,am,nm',cm,rfl,rfl,rfl⟩:=ho.slices;obtain⟨ai,ci,e1,hai⟩:=ho.ins_at2;cases e1;obtain⟨bi,oi,ev,he,iI0,hoi,her,hci⟩:=hai K x hx;subst he;obtain⟨iI,-,x1,-,-⟩:=hci w (Below.refl _ _);rw[hd]at x1;have a8:(K:Int)<S.ins.length:=by omega
 obtain⟨iL,s0,s1,s2⟩:=gN hb;subst hC;subst hC2;generalize aW S D nm=E at a4 hE;have a9:(E !=0)=true:=by simpa using hE
 clear ho hb hfR hfind a6 a7 hx hd hai her hci hoi hat hpar;unfold vR;go_in;go_upto_region 1 with fail;refine qR ?_
 repeat(go_big_quiet_step ((with_reducible first|refine cI (a0 _ (bel _ _))|refine cJ (a0 _ (bel _ _)))))
 refine QN λp=>?_;go_wp2_with(fail);refine qR ?_
 repeat(go_big_quiet_step ((with_reducible first|refine cI (a2 _ (bel _ _))|refine cJ (a2 _ (bel _ _)))))
 refine QN λp=>?_;go_wp2_with(fail);refine qR ?_
 repeat(go_big_quiet_step ((with_reducible first|refine cI (a3 _ (bel _ _))|refine cJ (a3 _ (bel _ _)))))
 refine QN λp=>?_;go_wp2_with(first|(go_at_call 118;with_reducible refine aE (a4 _ (bel _ _)) λp=>?_)|(go_at_call 92;with_reducible refine aE (a5 _) λp=>?_));exact xD (v:=aQ 2 0 0) (by unfold results;simp only[results126,aQ];go_simp) rfl ⟨rfl,bel w _⟩
theorem aOX (b:Nat) (S:PSt) (iv ov mv:Value) (kd core f0 off nu:Int) (path p2 dt:ByteArray) (w:World) (hb:Blk w b #[iv,ov,mv] 26) (ho:StRead w iv ov mv S) (hfR:FineR S) (num:Int) (C:Int) (hfind:eX S path=(num,C)) (hC:C=0) (K:Nat) (x:PIn) (hat:bM S num=K) (hx:S.ins[K]? =some x) (hd:x.dir=false) (D:Int) (nm:ByteArray) (C2:Int) (hpar:bL S p2=(D,nm,C2)) (hC2:C2=0) (hE:aW S D nm=0) (K1:Nat) (y:PIn) (hat1:bM S D=K1) (hy:S.ins[K1]? =some y) (hns:nm.size<=1000000000) (hes:∀e∈y.ents,e.name.size<=1000000000) (hF:decide (4<=eD (aZ nm) ⟨#[]⟩ y.ents 0)=true):
 vR w 126 #[.pointer b,.agg #[kd,core,f0,off,nu,path,p2,dt]] (aQ 5 0 0):=by
 have a0:=c46 ho hfR hfind;have a6:=λww=>bD 5 ww;have a2:=uX ho hfR.wf.1 hat;obtain⟨hxl,-⟩:=gI.1 hx;have a3:=c45 ho hfR hpar;have a4:vB w 118 #[.agg #[iv,ov,mv],.int .i64 D,.string nm] (.int .i64 (aW S D nm)):=λww hb=>hY S iv ov mv D nm ww (ho.below hb (zC _)) hfR.wf;have a5:vB w 121 #[.agg #[iv,ov,mv],.int .i64 D,.string nm,.string ⟨#[]⟩] (.bool (decide (4<=eD (aZ nm) ⟨#[]⟩ y.ents 0))):=λww hb=>tU S iv ov mv D nm ⟨#[]⟩ K1 y ww (ho.below hb (zC _)) hfR.wf hat1 hy hns hes;have a7:=hb;have a8:=ho;obtain⟨a1,n1',c1,ao,no,co,am,nm',cm,rfl,rfl,rfl⟩:=ho.slices;obtain⟨ai,ci,e1,hai⟩:=ho.ins_at2;cases e1;obtain⟨bi,oi,ev,he,iI0,hoi,her,hci⟩:=hai K x hx;subst he;obtain⟨iI,-,x1,-,-⟩:=hci w (Below.refl _ _);rw[hd]at x1;have a9:(K:Int)<S.ins.length:=by omega
 obtain⟨iL,s0,s1,s2⟩:=gN hb;subst hC;subst hC2;rw[hE]at a4;rw[hF]at a5;clear ho hb hfR hfind a7 a8 hx hd hai her hci hoi hat hpar hE hF hat1 hy hes;unfold vR;go_in;go_upto_region 1 with fail;refine qR ?_
 repeat(go_big_quiet_step ((with_reducible first|refine cI (a0 _ (bel _ _))|refine cJ (a0 _ (bel _ _)))))
 refine QN λp=>?_;go_wp2_with(fail);refine qR ?_
 repeat(go_big_quiet_step ((with_reducible first|refine cI (a2 _ (bel _ _))|refine cJ (a2 _ (bel _ _)))))
 refine QN λp=>?_;go_wp2_with(fail);refine qR ?_
 repeat(go_big_quiet_step ((with_reducible first|refine cI (a3 _ (bel _ _))|refine cJ (a3 _ (bel _ _)))))
 refine QN λp=>?_;go_wp2_with(first|(go_at_call 118;with_reducible refine aE (a4 _ (bel _ _)) λp=>?_)|(go_at_call 121;with_reducible refine aE (a5 _ (bel _ _)) λp=>?_)|(go_at_call 92;with_reducible refine aE (a6 _) λp=>?_));exact xD (v:=aQ 5 0 0) (by unfold results;simp only[results126,aQ];go_simp) rfl ⟨rfl,bel w _⟩
theorem aTJ (B b:Nat) (S:PSt) (iv ov mv:Value) (kd core f0 off nu:Int) (path p2 dt:ByteArray) (w:World) (hb:Blk w b #[iv,ov,mv] 26) (ho:StOwn B w iv ov mv S) (hB:B<=w.heap.size) (hfR:FineR S) (num:Int) (C:Int) (hfind:eX S path=(num,C)) (hC:C=0) (K:Nat) (x:PIn) (hat:bM S num=K) (hx:S.ins[K]? =some x) (hd:x.dir=false) (D:Int) (nm:ByteArray) (C2:Int) (hpar:bL S p2=(D,nm,C2)) (hC2:C2=0) (hE:aW S D nm=0) (K1:Nat) (y:PIn) (hat1:bM S D=K1) (hy:S.ins[K1]? =some y) (hns:nm.size<=1000000000) (hes:∀e∈y.ents,e.name.size<=1000000000) (hF:decide (4<=eD (aZ nm) ⟨#[]⟩ y.ents 0)=false) (hBb:B<=b):
 Calls prog 126 #[.pointer b,.agg #[kd,core,f0,off,nu,path,p2,dt]] w λe w'=>e=.returned (aQ 0 0 0)/\Below B w w'/\Spared b w w'/\∃iv' ov' mv',Blk w' b #[iv',ov',mv'] 26/\StOwn B w' iv' ov' mv' (S.ents K1 y (cQ (λe=>dX nm e.name) ⟨nm,num⟩ y.ents false [])):=by
 have a5:=c46 ho.read hfR hfind;have b4:=λww=>bD 0 ww;have a6:=uX ho.read hfR.wf.1 hat;obtain⟨hxl,-⟩:=gI.1 hx;have a7:=c45 ho.read hfR hpar;have a8:vB w 118 #[.agg #[iv,ov,mv],.int .i64 D,.string nm] (.int .i64 (aW S D nm)):=λww hb=>hY S iv ov mv D nm ww (ho.read.below hb (zC _)) hfR.wf;have a9:vB w 121 #[.agg #[iv,ov,mv],.int .i64 D,.string nm,.string ⟨#[]⟩] (.bool (decide (4<=eD (aZ nm) ⟨#[]⟩ y.ents 0))):=λww hb=>tU S iv ov mv D nm ⟨#[]⟩ K1 y ww (ho.read.below hb (zC _)) hfR.wf hat1 hy hns hes;have b0:=hb;have b1:=ho;obtain⟨a1,n1',c1,ao,no,co,am,nm',cm,rfl,rfl,rfl⟩:=ho.read.slices;obtain⟨ai,ci,e1,hai⟩:=ho.read.ins_at2;cases e1;obtain⟨bi,oi,ev,he,iI0,hoi,her,hci⟩:=hai K x hx;subst he;obtain⟨iI,-,x1,-,-⟩:=hci w (Below.refl _ _);rw[hd]at x1;have c3:(K:Int)<S.ins.length:=by omega
 obtain⟨iL,s0,s1,s2⟩:=gN hb;subst hC;subst hC2;rw[hE]at a8;rw[hF]at a9;have b2:=hfR.wf;have a3:b<w.heap.size:=hb.lt.lt;have HH:=jj6 b0 b1 b2 hat1 hy hns;clear ho hb hfR hfind b0 b1 hx hd hai her hci hoi hat hpar hE hF hat1 hy hes b2;go_in;go_upto_region 1 with fail;refine qR ?_
 repeat(go_big_quiet_step ((with_reducible first|refine cI (a5 _ (bel _ _))|refine cJ (a5 _ (bel _ _)))))
 refine QN λp=>?_;go_wp2_with(fail);refine qR ?_
 repeat(go_big_quiet_step ((with_reducible first|refine cI (a6 _ (bel _ _))|refine cJ (a6 _ (bel _ _)))))
 refine QN λp=>?_;go_wp2_with(fail);refine qR ?_
 repeat(go_big_quiet_step ((with_reducible first|refine cI (a7 _ (bel _ _))|refine cJ (a7 _ (bel _ _)))))
 refine QN λp=>?_;go_upto_region 13 with(first|(go_at_call 118;with_reducible refine aE (a8 _ (bel _ _)) λp=>?_)|(go_at_call 121;with_reducible refine aE (a9 _ (bel _ _)) λp=>?_))
 refine aD (F:=λwa=>StOwn B wa (.slice (some ⟨bi,oi,none⟩) S.ins.length c1) (.slice ao no co) (.slice am nm' cm) S/\Blk wa b #[.slice (some ⟨bi,oi,none⟩) S.ins.length c1,.slice ao no co,.slice am nm' cm] 26/\Blk wa w.heap.size #[kd,core,f0,off,nu,path,p2,dt] 28/\Blk wa (w.heap.size+1) () 52/\Bl w wa) ⟨HH.out.2.1.on (bel w _),aB HH.out.1 (bel w _),aB (Blk.new w #[kd,core,f0,off,nu,path,p2,dt] 28) (bel _ _),aB (Blk.new_i (w.alloc (.cells #[kd,core,f0,off,nu,path,p2,dt] 28)) () 52 (w.heap.size+1)) (bel _ _),bel w _⟩ ?_;clear s0 s1 s2 x1 iI iL;rintro wz ⟨ho,hb,hc,hr,hbw⟩;have b5:B<=wz.heap.size:=zD hB hbw.size;have iC:=hc.lt;have b3:=aLS B b S _ _ _ D num nm K1 y wz hb ho b5 HH.out.2.2.1 HH.out.2.2.2.2.2 HH.out.2.2.2.1 HH.out.2.2.2.2.1;have HZ:=eK hb hr hbw;clear ho hb hc hr hbw;go_upto_region 14 with(go_at_call 122;(with_reducible refine b3.mono ?_);rintro e w5 ⟨rfl,hb5,hk5,hs5⟩;have a0:=eK hb5 hk5 hs5;clear hb5 hk5 hs5)
 have f3:=a0.out.2.1.blk HZ.out.2.1 (eR HZ.out.2.1 (by decide) (by decide));have f4:=a0.out.2.1.blk HZ.out.1 (eR HZ.out.1 (by decide) (by decide));have l3:=f3.lt;have g0:=f3.cell 0;have g1:=f3.cell 1;have g2:=f3.cell 2;have g3:=f3.cell 3;have g4:=f3.cell 4;have a2:=f3.cell 5;have b6:=f3.frozen 0;have b7:=f3.frozen 1;have b8:=f3.frozen 2;have b9:=f3.frozen 3;have c0:=f3.frozen 4;have c2:=f3.frozen 5;simp at g0 g1 g2 g3 g4 a2;have a4:=bG f3 f4;clear f3 f4 iC b3;refine aD (F:=λwy=>StOwn B wy (.slice (some ⟨bi,oi,none⟩) S.ins.length c1) (.slice ao no co) (.slice am nm' cm) (S.ents K1 y (cQ (λe=>dX nm e.name) ⟨nm,num⟩ y.ents false []))/\Blk wy b #[.slice (some ⟨bi,oi,none⟩) S.ins.length c1,.slice ao no co,.slice am nm' cm] 26/\Blk wy (w.heap.size+1) () 52/\Below B w wy/\Spared b w wy) ⟨(a0.out.2.2).on (bel w5 _),aB a4.out.2 (bel w5 _),aB a4.out.1 (bel w5 _),((HZ.out.2.2.mono hB).trans a0.out.1).trans ((bel w5 _).mono (zD hB ((HZ.out.2.2.mono hB).trans a0.out.1).size)),((Spared.of_below HZ.out.2.2).trans (Spared.of_in a0.out.2.1)).trans (Spared.of_below (bel w5 _))⟩ ?_;rintro wy ⟨y1,y2,y3,y4,y5⟩;have HY:=nV y1 y2 y3 y4 y5;have iR:=y3.lt;have c4:=y3.frozen 0;have c5:=y3.frozen 1;have c6:=y3.frozen 2;have c7:=y3.frozen 3;have c8:=y3.frozen 4;have c9:=y3.frozen 5;clear g0 g1 g2 g3 g4 a2;have g0:=y3.cell 0;have g1:=y3.cell 1;have g2:=y3.cell 2;have g3:=y3.cell 3;have g4:=y3.cell 4;have a2:=y3.cell 5;simp at g0 g1 g2 g3 g4 a2;clear y1 y2 y3 y4 y5 l3 b6 b7 b8 b9 c0 c2 a4 a0 HZ;go_wp2_with((go_at_call 92;with_reducible refine aE (b4 _) λp=>?_));exact xD (v:=aQ 0 0 0) (by unfold results;simp only[results126,aQ];go_simp) rfl ⟨rfl,mY (r:=w.heap.size+1) lK (by omega) a3 hB (aB HY.out.2.2.1 (bel wy _)) (aB HY.out.2.1 (bel wy _)) (HY.out.1.on (bel wy _)) (HY.out.2.2.2.1.trans ((bel wy _).mono (zD hB HY.out.2.2.2.1.size))) (HY.out.2.2.2.2.trans (Spared.of_below (bel wy _)))⟩
theorem aCQ (b:Nat) (S:PSt) (iv ov mv:Value) (kd core f0 off nu:Int) (path p2 dt:ByteArray) (w:World) (hb:Blk w b #[iv,ov,mv] 26) (ho:StRead w iv ov mv S) (hfR:FineR S) (hk8:kd≠8) (D:Int) (nm:ByteArray) (C:Int) (hpar:bL S path=(D,nm,C)) (hC:C≠0):
 vR w 96 #[.pointer b,.agg #[kd,core,f0,off,nu,path,p2,dt]] (aQ C 0 0):=by
 have a0:=c45 ho hfR hpar;have a1:=λww=>bD C ww;have a2:(kd==8)=false:=by simpa using hk8
 obtain⟨ai,ni,ci,ao,no,co,am,nm',cm,rfl,rfl,rfl⟩:=ho.slices;obtain⟨iL,s0,s1,s2⟩:=gN hb;have a3:(C !=0)=true:=by simpa using hC
 clear ho hb hfR hpar;unfold vR;go_in;go_upto_region 3 with fail;refine qR ?_
 repeat(go_big_quiet_step ((with_reducible first|refine cI (a0 _ (bel _ _))|refine cJ (a0 _ (bel _ _)))))
 refine QN λp=>?_;go_wp2_with(first|(go_at_call 92;with_reducible refine aE (a1 _) λp=>?_));exact xD (v:=aQ C 0 0) (by unfold results;simp only[results96,aQ];go_simp) rfl ⟨rfl,bel w _⟩
theorem aCR (b:Nat) (S:PSt) (iv ov mv:Value) (kd core f0 off nu:Int) (path p2 dt:ByteArray) (w:World) (hb:Blk w b #[iv,ov,mv] 26) (ho:StRead w iv ov mv S) (hfR:FineR S) (hk8:kd≠8) (D:Int) (nm:ByteArray) (C:Int) (hpar:bL S path=(D,nm,C)) (hC:C=0) (hE:aW S D nm=0):
 vR w 96 #[.pointer b,.agg #[kd,core,f0,off,nu,path,p2,dt]] (aQ 1 0 0):=by
 have a0:=c45 ho hfR hpar;have a2:=λww=>bD 1 ww;have a3:(kd==8)=false:=by simpa using hk8
 have a1:vB w 118 #[.agg #[iv,ov,mv],.int .i64 D,.string nm] (.int .i64 (aW S D nm)):=λww hb=>hY S iv ov mv D nm ww (ho.below hb (zC _)) hfR.wf;obtain⟨ai,ni,ci,ao,no,co,am,nm',cm,rfl,rfl,rfl⟩:=ho.slices;obtain⟨iL,s0,s1,s2⟩:=gN hb;subst hC;rw[hE]at a1;clear ho hb hfR hpar hE;unfold vR;go_in;go_upto_region 3 with fail;refine qR ?_
 repeat(go_big_quiet_step ((with_reducible first|refine cI (a0 _ (bel _ _))|refine cJ (a0 _ (bel _ _)))))
 refine QN λp=>?_;go_wp2_with(first|(go_at_call 118;with_reducible refine aE (a1 _ (bel _ _)) λp=>?_)|(go_at_call 92;with_reducible refine aE (a2 _) λp=>?_));exact xD (v:=aQ 1 0 0) (by unfold results;simp only[results96,aQ];go_simp) rfl ⟨rfl,bel w _⟩
def vNm (b bi oi K0:Nat) (A B:Value) (C E:Array Value) (num:Int):Nat->Value
 |0=>.pointer (some ⟨b,0,none⟩)
 |1=>.pointer (some ⟨b,0,none⟩)
 |2=>.pointer (some ⟨b,0,none⟩)
 |3=>A
 |4=>.pointer (some ⟨b,0,none⟩)
 |5=>.pointer (some ⟨b,0,none⟩)
 |6=>.agg C
 |7=>.int .i64 num
 |8=>.int .i64 K0
 |9=>.pointer (some ⟨bi,oi+K0*4,none⟩)
 |10=>.agg E
 |_=>undef
def aEC (S:PSt) (kd:Int) (x:PIn) (K1:Nat) (y:PIn) (nm:ByteArray) (num:Int):Except Int PSt:=
 if kd=9 then(if x.dir=true then .error 8 else .ok (lO (S.ents K1 y (dS nm y.ents)) num))
 else if x.dir=false then .error 7 else if 0<x.ents.length then .error 3 else .ok (lO (S.ents K1 y (dS nm y.ents)) num)
theorem aSM (B b:Nat) (S:PSt) (iv ov mv:Value) (kd core f0 off nu:Int) (path p2 dt:ByteArray) (w:World) (hb:Blk w b #[iv,ov,mv] 26) (ho:StOwn B w iv ov mv S) (hB:B<=w.heap.size) (hBb:B<=b) (hfR:FineR S) (hk:kd=9\/kd=10) (D:Int) (nm:ByteArray) (C:Int) (hpar:bL S path=(D,nm,C)) (hC:C=0) (num:Int) (hE:aW S D nm=num) (hn0:num≠0) (K0:Nat) (x:PIn) (hat:bM S num=K0) (hx:S.ins[K0]? =some x) (K1:Nat) (y:PIn) (hat1:bM S D=K1) (hy:S.ins[K1]? =some y) (hwf2:(S.ents K1 y (dS nm y.ents)).wf):
 Calls prog 96 #[.pointer b,.agg #[kd,core,f0,off,nu,path,p2,dt]] w (RefOut B b w (aEC S kd x K1 y nm num)):=by
 have c2:=c45 ho.read hfR hpar;have c6:=aYX ho.read hfR.wf hE;have a2:=uX ho.read hfR.wf.1 hat;have b0:=λk ww=>bD k ww;have d5:(kd==8)=false:=by rcases hk with rfl|rfl<;>rfl
 obtain⟨hxl,-⟩:=gI.1 hx;obtain⟨hyl,-⟩:=gI.1 hy;have c7:=hb;have c8:=ho;obtain⟨a1,n1',c1,ao,no,co,am,nm',cm,rfl,rfl,rfl⟩:=ho.read.slices;obtain⟨ai,ci,e1,hai⟩:=ho.read.ins_at2;cases e1;obtain⟨bi,oi,ev,he,iI0,hoi,her,hci⟩:=hai K0 x hx;subst he;obtain⟨ea,ec,rfl,-⟩:=her.at_;rw[lM]at hci;obtain⟨iI,x0,x1,x2,x3⟩:=hci w (Below.refl _ _);have d8:(K0:Int)<S.ins.length:=by omega
 obtain⟨iL,s0,s1,s2⟩:=gN hb;subst hC;have c9:=hfR.wf;have d9:(num==0)=false:=by simpa using hn0
 have a3:b<w.heap.size:=hb.lt.lt;have a4:bi<w.heap.size:=iI.lt;have d4:0<(S.ents K1 y (dS nm y.ents)).ins.length:=by show 0<(S.ins.set K1 _).length;rw[yB];omega
 have HH:=jj7 c7 c8 c9 hat1 hy hwf2 d4;obtain⟨X,hX⟩:∃X,aEC S kd x K1 y nm num=X:=⟨_,rfl⟩;rw[hX];have HX:=bG hX hk;clear ho hb hfR hpar c7 c8 hx hai her hci hoi hat hE hat1 hy c9 hwf2 hX hk d4 hyl hn0;go_in;go_upto_region 3 with fail;refine qR ?_
 repeat(go_big_quiet_step ((with_reducible first|refine cI (c2 _ (bel _ _))|refine cJ (c2 _ (bel _ _)))))
 refine QN λp=>?_;go_upto_region 9 with(go_at_call 118;with_reducible refine aE (c6 _ (bel _ _)) λp=>?_)
 refine aD (F:=λwa=>Blk wa b #[.slice (some ⟨bi,oi,none⟩) S.ins.length c1,.slice ao no co,.slice am nm' cm] 26/\Blk wa w.heap.size #[kd,core,f0,off,nu,path,p2,dt] 28/\Blk wa (w.heap.size+1) () 52/\Bl w wa) ⟨aB HH.out.1 (bel w _),aB (Blk.new w #[kd,core,f0,off,nu,path,p2,dt] 28) (bel _ _),aB (Blk.new_i (w.alloc (.cells #[kd,core,f0,off,nu,path,p2,dt] 28)) () 52 (w.heap.size+1)) (bel _ _),bel w _⟩ ?_;rintro W ⟨hb,hc,hr,hbw⟩;replace a2:=λww (hw:Below W.heap.size W ww)=>a2 ww (hbw.trans (hw.mono hbw.size));have k0:=(hbw.cell (p:=b) a3).trans s0;have k1:=(hbw.cell (p:=⟨b,1,none⟩) a3).trans s1;have k2:=(hbw.cell (p:=⟨b,2,none⟩) a3).trans s2;have u0:=(hbw.cell (p:=⟨bi,oi+K0*4,none⟩) a4).trans x0;have u1:=(hbw.cell (p:=⟨bi,oi+K0*4+1,none⟩) a4).trans x1;have u2:=(hbw.cell (p:=⟨bi,oi+K0*4+2,none⟩) a4).trans x2;have u3:=(hbw.cell (p:=⟨bi,oi+K0*4+3,none⟩) a4).trans x3;have jB:b<W.heap.size:=zR a3 hbw.size;have jI:bi<W.heap.size:=zR a4 hbw.size;clear s0 s1 s2 x0 x1 x2 x3 iI iL c2 c6;have HW:=lE hb hc hr hbw;clear hb hc hr hbw;go_cut [9] (λv9 wx=>∃g,v9=.pointer (some ⟨g,0,none⟩)/\Blk wx g #[x.num,x.dir,.slice ea x.ents.length ec,x.data] 68/\Below W.heap.size W wx)
 case first=>
  refine jN (RA 13 (vNm b bi oi K0 (.slice (some ⟨bi,oi,none⟩) S.ins.length c1) (.slice ao no co) #[.slice (some ⟨bi,oi,none⟩) S.ins.length c1,.slice ao no co,.slice am nm' cm] #[.int .i64 x.num,.bool x.dir,.slice ea x.ents.length ec,.string x.data] num) 11 12 #[.int .i64 0,.bool false,.slice none 0 0,.string ⟨#[]⟩] #[.int .i64 x.num,.bool x.dir,.slice ea x.ents.length ec,.string x.data] 68 W) (λσ=>RA.zero (by decide) (by decide) (bel W _)) ?_ ?_
  .refine⟨?_,?_,?_,?_,?_,?_,?_,?_,?_,?_,?_,?_,?_,trivial⟩
   .intro D σ w1 a h;have e0:(a.tmps[0]?).getD undef=.pointer b:=mH h 0;refine iV h ?_;clear h a2;go_simp
    first|done|rfl
   .intro D σ w1 a h;have e2:(a.tmps[39]?).getD undef=.pointer b:=gD h 0 39;refine iV h ?_;clear h a2;go_simp
    first|done|rfl
   .intro D σ w1 a h;have e3:(a.tmps[40]?).getD undef=.pointer b:=gD h 1 40;refine iV h ?_;clear h a2;go_simp
    first|done|rfl
   .intro D σ w1 a h;have e4:(a.tmps[41]?).getD undef=.pointer b:=gD h 2 41;have l0:=(h.r.below.cell (p:=b) jB).trans k0;have iX:BlockLt b w1:=⟨zR jB h.r.below.size⟩
    refine iV h ?_;clear h a2;go_simp
    first|done|rfl
   .intro D σ w1 a h;have e0:(a.tmps[0]?).getD undef=.pointer b:=mH h 0;refine iV h ?_;clear h a2;go_simp
    first|done|rfl
   .intro D σ w1 a h;have e5:(a.tmps[43]?).getD undef=.pointer b:=gD h 4 43;refine iV h ?_;clear h a2;go_simp
    first|done|rfl
   .intro D σ w1 a h;have e6:(a.tmps[44]?).getD undef=.pointer b:=gD h 5 44;have l0:=(h.r.below.cell (p:=b) jB).trans k0;have l1:=(h.r.below.cell (p:=⟨b,1,none⟩) jB).trans k1;have l2:=(h.r.below.cell (p:=⟨b,2,none⟩) jB).trans k2;have iX:BlockLt b w1:=⟨zR jB h.r.below.size⟩
    refine iV h ?_;clear h a2;go_simp
    first|done|rfl
   .intro D σ w1 a h;have e8:(a.tmps[8]?).getD undef=.int .i64 num:=mH h 8;refine iV h ?_;clear h a2;go_simp
    first|done|rfl
   .intro D σ w1 a h;have e7:(a.tmps[45]?).getD undef=.agg #[.slice (some ⟨bi,oi,none⟩) S.ins.length c1,.slice ao no co,.slice am nm' cm]:=gD h 6 45;have f1:(a.tmps[46]?).getD undef=.int .i64 num:=gD h 7 46;refine aR 85 #[.agg #[.slice (some ⟨bi,oi,none⟩) S.ins.length c1,.slice ao no co,.slice am nm' cm],.int .i64 num] ?_ ((a2 w1 h.r.below).mono ?_)
    .clear h a2;go_simp
     first|done|rfl
    rintro e w' ⟨rfl,hqb⟩;exact⟨_,rfl,(h.r.on hqb).val 8 (by decide) (by decide)⟩
   .intro D σ w1 a h;have f2:(a.tmps[42]?).getD undef=.slice (some ⟨bi,oi,none⟩) S.ins.length c1:=gD h 3 42;have f3:(a.tmps[47]?).getD undef=.int .i64 K0:=gD h 8 47;refine iV h ?_;clear h a2;go_simp
    first|done|rfl
   .intro D σ w1 a h;have f4:(a.tmps[48]?).getD undef=.pointer (some ⟨bi,oi+K0*4,none⟩):=gD h 9 48;have l0:=(h.r.below.cell (p:=⟨bi,oi+K0*4,none⟩) jI).trans u0;have l1:=(h.r.below.cell (p:=⟨bi,oi+K0*4+1,none⟩) jI).trans u1;have l2:=(h.r.below.cell (p:=⟨bi,oi+K0*4+2,none⟩) jI).trans u2;have l3:=(h.r.below.cell (p:=⟨bi,oi+K0*4+3,none⟩) jI).trans u3;have iX:BlockLt bi w1:=⟨zR jI h.r.below.size⟩
    refine iV h ?_;clear h a2;go_simp
    first|done|rfl
   .intro D σ w1 a h;refine uB (v:=.pointer w1.heap.size) (w':=w1.alloc (.cells #[.int .i64 0,false,.slice none 0 0,.string ⟨#[]⟩] 68)) ?_ (h.r.alloc (by decide) h.nd);clear h a2;go_simp
    first|done|rfl
   intro D σ w1 a h;obtain⟨g,eg,hgl,hgc,-⟩:=h.r.al (nG h 11);have e9:(a.tmps[9]?).getD undef=.pointer g:=aID h 11 9 eg;have f5:(a.tmps[49]?).getD undef=.agg #[x.num,x.dir,.slice ea x.ents.length ec,x.data]:=gD h 10 49;obtain⟨d0,d1,d2,d3,hblk⟩:∃d0 d1 d2 d3,Blk w1 g #[d0,d1,d2,d3] 68:=by
    rcases hgc with h|h
    .exact⟨_,_,_,_,h⟩
    exact⟨_,_,_,_,h⟩
   have b1:=wD hblk (.int .i64 x.num) (.bool x.dir) (.slice ea x.ents.length ec) (.string x.data);have q0:=hblk.cell 0;have q1:=hblk.cell 1;have q2:=hblk.cell 2;have q3:=hblk.cell 3;have b2:=hblk.frozen 0;have b3:=hblk.frozen 1;have b4:=hblk.frozen 2;have b5:=hblk.frozen 3;simp at q0 q1 q2 q3;have iG:=hblk.lt;refine aKU (w':=aDV w1 g (.int .i64 x.num) (.bool x.dir) (.slice ea x.ents.length ec) (.string x.data)) ?_ (h.r.store (by decide) (nG h 11) eg hgl (tG _ _ _ _ _ _) b1);clear h a2 b1 hblk;unfold aDV;go_simp
   first|done|rfl
  intro σ w3 hR;obtain⟨g,eg,-,-,hgs⟩:=hR.al trivial;have hg:=hgs trivial;have d6:=hR.below;simp only[dJ,Act.put,sA,sZ,sS,Nat.reduceAdd];rw[eg];clear hR hgs eg a2;go_wp2_with fail;go_meet;exact⟨g,rfl,hg,d6⟩
 obtain⟨g,rfl,hg,hbx⟩:=hcut;have c3:=HW.out.2.2.2.trans (hbx.mono HW.out.2.2.2.size);have iG:=hg.lt;have q1:=hg.cell 1;have q2:=hg.cell 2;simp at q1 q2;have hC:=aB HW.out.2.1 hbx;have iC:=hC.lt;have c0:=hC.cell 0;simp at c0;have hr:=aB HW.out.2.2.1 hbx;have hb:=aB HW.out.1 hbx;have iR:=hr.lt;have g0:=hr.cell 0;have g1:=hr.cell 1;have g2:=hr.cell 2;have g3:=hr.cell 3;have g4:=hr.cell 4;have g5:=hr.cell 5;have b2:=hr.frozen 0;have b3:=hr.frozen 1;have b4:=hr.frozen 2;have b5:=hr.frozen 3;have b8:=hr.frozen 4;have b9:=hr.frozen 5;simp at g0 g1 g2 g3 g4 g5;have HG:=eK hb hr c3;have d7:Bel w wc:=⟨c3⟩;clear hb hr c3 hg hC hbx k0 k1 k2 u0 u1 u2 u3 jB jI HW a2;rcases HX.out.2 with rfl|rfl
 .cases hd:x.dir with
  | true=>
    have hX:X=.error 8:=by rw[<-HX.out.1];unfold aEC;rw[zB rfl,zB hd]
    subst hX;rw[hd]at q1;go_wp2_with(go_at_call 92;with_reducible refine aE (b0 _ _) λp=>?_);exact xD (v:=aQ 8 0 0) (by unfold results;simp only[results96,aQ];go_simp) rfl (RefOut.err (bel w _))
  | false=>
    have hX:X=.ok (lO (S.ents K1 y (dS nm y.ents)) num):=by rw[<-HX.out.1];unfold aEC;rw[zB rfl,zA (by rw[hd];decide)]
    subst hX;rw[hd]at q1;have a5:=vF B b S _ _ _ D nm K1 y wc HG.out.1 (HH.out.2.1.on HG.out.2.2) (zD hB HG.out.2.2.size) HH.out.2.2.1 HH.out.2.2.2.1 HH.out.2.2.2.2.1;go_upto_region 21 with(go_at_call 128;(with_reducible refine a5.mono ?_);rintro e w5 ⟨rfl,hb5,hk5,hs5⟩;have H5:=eK hb5 hk5 hs5;clear hb5 hk5 hs5)
    have a7:=H5.out.2.1.blk HG.out.1 (eR HG.out.1 (by decide) (by decide));have b6:=H5.out.2.1.blk HG.out.2.1 (eR HG.out.2.1 (by decide) (by decide));have b7:B<=w5.heap.size:=zD (zD hB HG.out.2.2.size) H5.out.1.size;have a6:=xT B b _ _ _ _ num w5 a7 H5.out.2.2 b7 hBb HH.out.2.2.2.2.2.1 HH.out.2.2.2.2.2.2;have HF:=bG a7 b6;clear a7 b6 a5;go_upto_region 22 with(go_at_call 124;(with_reducible refine a6.mono ?_);rintro e w6 ⟨rfl,hb6,hk6,iv6,hv6,hs6⟩;have H6:=lE hb6 hk6 hv6 hs6;clear hb6 hk6 hv6 hs6)
    have a0:=H6.out.2.1.blk HF.out.2 (by omega);clear g0 g1 g2 g3 g4 g5 b2 b3 b4 b5 b8 b9 iR q1 q2 iG c0 iC a6;have iR:=a0.lt;have g0:=a0.cell 0;have g1:=a0.cell 1;have g2:=a0.cell 2;have g3:=a0.cell 3;have g4:=a0.cell 4;have g5:=a0.cell 5;have b2:=a0.frozen 0;have b3:=a0.frozen 1;have b4:=a0.frozen 2;have b5:=a0.frozen 3;have b8:=a0.frozen 4;have b9:=a0.frozen 5;simp at g0 g1 g2 g3 g4 g5;have HR:=aC a0;clear a0;go_wp2_with(go_at_call 92;with_reducible refine aE (b0 _ _) λp=>?_);have c4:B<=w6.heap.size:=zD b7 H6.out.1.size;have a8:Below B w w6:=((HG.out.2.2.mono hB).trans H5.out.1).trans H6.out.1;have a9:Spared b w w6:=((Spared.of_below HG.out.2.2).trans (Spared.of_in H5.out.2.1)).trans (λgg c t h1 h2 _=>H6.out.2.1.blk h1 h2);exact xD (v:=aQ 0 0 0) (by unfold results;simp only[results96,aQ];go_simp) rfl (RefOut.done (mY (r:=w.heap.size+1) lK (by omega) a3 hB (aB HR.out (bel w6 _)) (aB H6.out.2.2.1 (bel w6 _)) (H6.out.2.2.2.on (bel w6 _)) (a8.trans ((bel w6 _).mono c4)) (a9.trans (Spared.of_below (bel w6 _)))))
 cases hd:x.dir with
 | false=>
   have hX:X=.error 7:=by rw[<-HX.out.1];unfold aEC;rw[zA (by decide),zB hd]
   subst hX;rw[hd]at q1;go_wp2_with(go_at_call 92;with_reducible refine aE (b0 _ _) λp=>?_);exact xD (v:=aQ 7 0 0) (by unfold results;simp only[results96,aQ];go_simp) rfl (RefOut.err (bel w _))
 | true=>
   rw[hd]at q1;by_cases hle:0<x.ents.length
   .have hX:X=.error 3:=by
     rw[<-HX.out.1];unfold aEC;rw[zA (by decide),zA (by rw[hd];decide),zB hle]
    subst hX;have c5:(0:Int)<x.ents.length:=by omega
    go_wp2_with(go_at_call 92;with_reducible refine aE (b0 _ _) λp=>?_);exact xD (v:=aQ 3 0 0) (by unfold results;simp only[results96,aQ];go_simp) rfl (RefOut.err (bel w _))
   have hX:X=.ok (lO (S.ents K1 y (dS nm y.ents)) num):=by rw[<-HX.out.1];unfold aEC;rw[zA (by decide),zA (by rw[hd];decide),zA hle]
   subst hX;have c5:¬(0:Int)<x.ents.length:=by omega
   have a5:=vF B b S _ _ _ D nm K1 y wc HG.out.1 (HH.out.2.1.on HG.out.2.2) (zD hB HG.out.2.2.size) HH.out.2.2.1 HH.out.2.2.2.1 HH.out.2.2.2.2.1;go_upto_region 21 with(go_at_call 128;(with_reducible refine a5.mono ?_);rintro e w5 ⟨rfl,hb5,hk5,hs5⟩;have H5:=eK hb5 hk5 hs5;clear hb5 hk5 hs5)
   have a7:=H5.out.2.1.blk HG.out.1 (eR HG.out.1 (by decide) (by decide));have b6:=H5.out.2.1.blk HG.out.2.1 (eR HG.out.2.1 (by decide) (by decide));have b7:B<=w5.heap.size:=zD (zD hB HG.out.2.2.size) H5.out.1.size;have a6:=xT B b _ _ _ _ num w5 a7 H5.out.2.2 b7 hBb HH.out.2.2.2.2.2.1 HH.out.2.2.2.2.2.2;have HF:=bG a7 b6;clear a7 b6 a5;go_upto_region 22 with(go_at_call 124;(with_reducible refine a6.mono ?_);rintro e w6 ⟨rfl,hb6,hk6,iv6,hv6,hs6⟩;have H6:=lE hb6 hk6 hv6 hs6;clear hb6 hk6 hv6 hs6)
   have a0:=H6.out.2.1.blk HF.out.2 (by omega);clear g0 g1 g2 g3 g4 g5 b2 b3 b4 b5 b8 b9 iR q1 q2 iG c0 iC a6;have iR:=a0.lt;have g0:=a0.cell 0;have g1:=a0.cell 1;have g2:=a0.cell 2;have g3:=a0.cell 3;have g4:=a0.cell 4;have g5:=a0.cell 5;have b2:=a0.frozen 0;have b3:=a0.frozen 1;have b4:=a0.frozen 2;have b5:=a0.frozen 3;have b8:=a0.frozen 4;have b9:=a0.frozen 5;simp at g0 g1 g2 g3 g4 g5;have HR:=aC a0;clear a0;go_wp2_with(go_at_call 92;with_reducible refine aE (b0 _ _) λp=>?_);have c4:B<=w6.heap.size:=zD b7 H6.out.1.size;have a8:Below B w w6:=((HG.out.2.2.mono hB).trans H5.out.1).trans H6.out.1;have a9:Spared b w w6:=((Spared.of_below HG.out.2.2).trans (Spared.of_in H5.out.2.1)).trans (λgg c t h1 h2 _=>H6.out.2.1.blk h1 h2);exact xD (v:=aQ 0 0 0) (by unfold results;simp only[results96,aQ];go_simp) rfl (RefOut.done (mY (r:=w.heap.size+1) lK (by omega) a3 hB (aB HR.out (bel w6 _)) (aB H6.out.2.2.1 (bel w6 _)) (H6.out.2.2.2.on (bel w6 _)) (a8.trans ((bel w6 _).mono c4)) (a9.trans (Spared.of_below (bel w6 _)))))
theorem aSK (B b:Nat) (S:PSt) (iv ov mv:Value) (core f0 off nu:Int) (path p2 dt:ByteArray) (w:World) (hb:Blk w b #[iv,ov,mv] 26) (hB:B<=w.heap.size) (X:Except Int PSt) (a1:∀ww,Bl w ww->Calls prog 126 #[.pointer b,.agg #[.int .i64 8,core,f0,off,nu,path,p2,dt]] ww (RefOut B b ww X)):
 Calls prog 96 #[.pointer b,.agg #[.int .i64 8,core,f0,off,nu,path,p2,dt]] w (RefOut B b w X):=by
 have a2:b<w.heap.size:=hb.lt.lt;have a5:=aC a1;clear a1;cases X with
 | error k=>have a1:vB w 126 #[.pointer (some ⟨b,0,none⟩),.agg #[.int .i64 8,.int .i64 core,.int .i64 f0,.int .i64 off,.int .i64 nu,.string path,.string p2,.string dt]] (.agg #[.int .i64 k,.int .i64 0,.int .i64 0,.bool false,.string ⟨#[]⟩,.slice none 0 0]):=λww hw=>a5.out ww hw;go_in;go_wp2_with(go_at_call 126;(refine aE (a1 _ (bel w _)) λp=>?_));exact xD (v:=aQ k 0 0) (by unfold results;simp only[results96,aQ];go_simp) rfl (RefOut.err (bel w _))
 | ok S'=>go_in;go_upto_region 2 with fail;refine aD (F:=λwa=>Blk wa w.heap.size #[.int .i64 8,.int .i64 core,.int .i64 f0,.int .i64 off,.int .i64 nu,.string path,.string p2,.string dt] 28/\Blk wa (w.heap.size+1) #[.int .i64 0,.int .i64 0,.int .i64 0,.bool false,.string ⟨#[]⟩,.slice none 0 0] 52/\Bl w wa) ⟨aB (Blk.new w #[.int .i64 8,.int .i64 core,.int .i64 f0,.int .i64 off,.int .i64 nu,.string path,.string p2,.string dt] 28) (bel _ _),aB (Blk.new_i (w.alloc (.cells #[.int .i64 8,.int .i64 core,.int .i64 f0,.int .i64 off,.int .i64 nu,.string path,.string p2,.string dt] 28)) #[.int .i64 0,.int .i64 0,.int .i64 0,.bool false,.string ⟨#[]⟩,.slice none 0 0] 52 (w.heap.size+1)) (bel _ _),bel w _⟩ ?_;rintro W ⟨hc,hr,hbw⟩;have a1:Calls prog 126 #[.pointer (some ⟨b,0,none⟩),.agg #[.int .i64 8,.int .i64 core,.int .i64 f0,.int .i64 off,.int .i64 nu,.string path,.string p2,.string dt]] W λe w'=>e=.returned (.agg #[.int .i64 0,.int .i64 0,.int .i64 0,.bool false,.string ⟨#[]⟩,.slice none 0 0])/\Below B W w'/\Spared b W w'/\∃iv' ov' mv',Blk w' b #[iv',ov',mv'] 26/\StOwn B w' iv' ov' mv' S':=a5.out W hbw;have iC:=hc.lt;obtain⟨-,c0,c1,c2,c3,c4,c5,c6,c7⟩:=bx8 hc;go_wp2_with(go_at_call 126;(refine a1.mono ?_);rintro e w5 ⟨rfl,hb5,hp5,iv5,ov5,mv5,hk5,hs5⟩;have a0:=hp5 _ _ _ hr (by omega) (.inr (.inr rfl));have a6:=a0.lt;have g0:=a0.cell 0;have g1:=a0.cell 1;have g2:=a0.cell 2;have g3:=a0.cell 3;have g4:=a0.cell 4;have g5:=a0.cell 5;have a7:=a0.frozen 0;have a8:=a0.frozen 1;have a9:=a0.frozen 2;have b0:=a0.frozen 3;have b1:=a0.frozen 4;have b2:=a0.frozen 5;simp at g0 g1 g2 g3 g4 g5;have H5:=nV hb5 hp5 hk5 hs5 a0;clear hb5 hp5 hk5 hs5 a0);have a3:Below B w w5:=(hbw.mono hB).trans H5.out.1;have a4:Spared b w w5:=(Spared.of_below hbw).trans H5.out.2.1;exact xD (v:=aQ 0 0 0) (by unfold results;simp only[results96,aQ];go_simp) rfl (RefOut.done (mY (r:=w.heap.size+1) kQ (by omega) a2 hB H5.out.2.2.2.2 H5.out.2.2.1 H5.out.2.2.2.1 a3 a4))
theorem aSL (B b:Nat) (S:PSt) (iv ov mv:Value) (core f0 off nu:Int) (path p2 dt:ByteArray) (w:World) (hb:Blk w b #[iv,ov,mv] 26) (ho:StOwn B w iv ov mv S) (hB:B<=w.heap.size) (hBb:B<=b) (hfR:FineR S) (D:Int) (nm:ByteArray) (C:Int) (hpar:bL S path=(D,nm,C)) (hC:C=0) (num:Int) (hE:aW S D nm=num) (hn0:num≠0) (K0:Nat) (x:PIn) (hat:bM S num=K0) (hx:S.ins[K0]? =some x) (X:Except Int PSt) (a5:∀ww,Bl w ww->Calls prog 127 #[.pointer b,.agg #[.int .i64 11,core,f0,off,nu,path,p2,dt],D,nm,num] ww (RefOut B b ww X)):
 Calls prog 96 #[.pointer b,.agg #[.int .i64 11,core,f0,off,nu,path,p2,dt]] w (RefOut B b w X):=by
 have a7:=c45 ho.read hfR hpar;have b5:=aYX ho.read hfR.wf hE;have a0:=uX ho.read hfR.wf.1 hat;have d6:=λk ww=>bD k ww;obtain⟨hxl,-⟩:=gI.1 hx;have b6:=hb;have b7:=ho;obtain⟨a1,n1',c1,ao,no,co,am,nm',cm,rfl,rfl,rfl⟩:=ho.read.slices;obtain⟨ai,ci,e1,hai⟩:=ho.read.ins_at2;cases e1;obtain⟨bi,oi,ev,he,iI0,hoi,her,hci⟩:=hai K0 x hx;subst he;obtain⟨ea,ec,rfl,-⟩:=her.at_;rw[lM]at hci;obtain⟨iI,x0,x1,x2,x3⟩:=hci w (Below.refl _ _);have d7:(K0:Int)<S.ins.length:=by omega
 obtain⟨iL,s0,s1,s2⟩:=gN hb;subst hC;have c9:=hfR.wf;have d8:(num==0)=false:=by simpa using hn0
 have a3:b<w.heap.size:=hb.lt.lt;have a4:bi<w.heap.size:=iI.lt;have HH:=bG b6 b7;have b8:=aC a5;clear ho hb hfR hpar b6 b7 hx hai her hci hoi hat hE c9 hn0 a5;go_in;go_upto_region 3 with fail;refine qR ?_
 repeat(go_big_quiet_step ((with_reducible first|refine cI (a7 _ (bel _ _))|refine cJ (a7 _ (bel _ _)))))
 refine QN λp=>?_;go_upto_region 9 with(go_at_call 118;with_reducible refine aE (b5 _ (bel _ _)) λp=>?_)
 refine aD (F:=λwa=>Blk wa b #[.slice (some ⟨bi,oi,none⟩) S.ins.length c1,.slice ao no co,.slice am nm' cm] 26/\Blk wa w.heap.size #[.int .i64 11,core,f0,off,nu,path,p2,dt] 28/\Blk wa (w.heap.size+1) () 52/\Bl w wa) ⟨aB HH.out.1 (bel w _),aB (Blk.new w #[.int .i64 11,core,f0,off,nu,path,p2,dt] 28) (bel _ _),aB (Blk.new_i (w.alloc (.cells #[.int .i64 11,core,f0,off,nu,path,p2,dt] 28)) () 52 (w.heap.size+1)) (bel _ _),bel w _⟩ ?_;rintro W ⟨hb,hc,hr,hbw⟩;replace a0:=λww (hw:Below W.heap.size W ww)=>a0 ww (hbw.trans (hw.mono hbw.size));have k0:=(hbw.cell (p:=b) a3).trans s0;have k1:=(hbw.cell (p:=⟨b,1,none⟩) a3).trans s1;have k2:=(hbw.cell (p:=⟨b,2,none⟩) a3).trans s2;have u0:=(hbw.cell (p:=⟨bi,oi+K0*4,none⟩) a4).trans x0;have u1:=(hbw.cell (p:=⟨bi,oi+K0*4+1,none⟩) a4).trans x1;have u2:=(hbw.cell (p:=⟨bi,oi+K0*4+2,none⟩) a4).trans x2;have u3:=(hbw.cell (p:=⟨bi,oi+K0*4+3,none⟩) a4).trans x3;have jB:b<W.heap.size:=zR a3 hbw.size;have jI:bi<W.heap.size:=zR a4 hbw.size;clear s0 s1 s2 x0 x1 x2 x3 iI iL a7 b5;have HW:=lE hb hc hr hbw;clear hb hc hr hbw;go_cut [9] (λv9 wx=>∃g,v9=.pointer (some ⟨g,0,none⟩)/\Blk wx g #[x.num,x.dir,.slice ea x.ents.length ec,x.data] 68/\Below W.heap.size W wx)
 case first=>
  refine jN (RA 13 (vNm b bi oi K0 (.slice (some ⟨bi,oi,none⟩) S.ins.length c1) (.slice ao no co) #[.slice (some ⟨bi,oi,none⟩) S.ins.length c1,.slice ao no co,.slice am nm' cm] #[.int .i64 x.num,.bool x.dir,.slice ea x.ents.length ec,.string x.data] num) 11 12 #[.int .i64 0,.bool false,.slice none 0 0,.string ⟨#[]⟩] #[.int .i64 x.num,.bool x.dir,.slice ea x.ents.length ec,.string x.data] 68 W) (λσ=>RA.zero (by decide) (by decide) (bel W _)) ?_ ?_
  .refine⟨?_,?_,?_,?_,?_,?_,?_,?_,?_,?_,?_,?_,?_,trivial⟩
   .intro D σ w1 a h;have e0:(a.tmps[0]?).getD undef=.pointer b:=mH h 0;refine iV h ?_;clear h a0;go_simp
    first|done|rfl
   .intro D σ w1 a h;have d9:(a.tmps[39]?).getD undef=.pointer b:=gD h 0 39;refine iV h ?_;clear h a0;go_simp
    first|done|rfl
   .intro D σ w1 a h;have e2:(a.tmps[40]?).getD undef=.pointer b:=gD h 1 40;refine iV h ?_;clear h a0;go_simp
    first|done|rfl
   .intro D σ w1 a h;have e3:(a.tmps[41]?).getD undef=.pointer b:=gD h 2 41;have l0:=(h.r.below.cell (p:=b) jB).trans k0;have iX:BlockLt b w1:=⟨zR jB h.r.below.size⟩
    refine iV h ?_;clear h a0;go_simp
    first|done|rfl
   .intro D σ w1 a h;have e0:(a.tmps[0]?).getD undef=.pointer b:=mH h 0;refine iV h ?_;clear h a0;go_simp
    first|done|rfl
   .intro D σ w1 a h;have e4:(a.tmps[43]?).getD undef=.pointer b:=gD h 4 43;refine iV h ?_;clear h a0;go_simp
    first|done|rfl
   .intro D σ w1 a h;have e5:(a.tmps[44]?).getD undef=.pointer b:=gD h 5 44;have l0:=(h.r.below.cell (p:=b) jB).trans k0;have l1:=(h.r.below.cell (p:=⟨b,1,none⟩) jB).trans k1;have l2:=(h.r.below.cell (p:=⟨b,2,none⟩) jB).trans k2;have iX:BlockLt b w1:=⟨zR jB h.r.below.size⟩
    refine iV h ?_;clear h a0;go_simp
    first|done|rfl
   .intro D σ w1 a h;have e8:(a.tmps[8]?).getD undef=.int .i64 num:=mH h 8;refine iV h ?_;clear h a0;go_simp
    first|done|rfl
   .intro D σ w1 a h;have e6:(a.tmps[45]?).getD undef=.agg #[.slice (some ⟨bi,oi,none⟩) S.ins.length c1,.slice ao no co,.slice am nm' cm]:=gD h 6 45;have e7:(a.tmps[46]?).getD undef=.int .i64 num:=gD h 7 46;refine aR 85 #[.agg #[.slice (some ⟨bi,oi,none⟩) S.ins.length c1,.slice ao no co,.slice am nm' cm],.int .i64 num] ?_ ((a0 w1 h.r.below).mono ?_)
    .clear h a0;go_simp
     first|done|rfl
    rintro e w' ⟨rfl,hqb⟩;exact⟨_,rfl,(h.r.on hqb).val 8 (by decide) (by decide)⟩
   .intro D σ w1 a h;have f1:(a.tmps[42]?).getD undef=.slice (some ⟨bi,oi,none⟩) S.ins.length c1:=gD h 3 42;have f2:(a.tmps[47]?).getD undef=.int .i64 K0:=gD h 8 47;refine iV h ?_;clear h a0;go_simp
    first|done|rfl
   .intro D σ w1 a h;have f3:(a.tmps[48]?).getD undef=.pointer (some ⟨bi,oi+K0*4,none⟩):=gD h 9 48;have l0:=(h.r.below.cell (p:=⟨bi,oi+K0*4,none⟩) jI).trans u0;have l1:=(h.r.below.cell (p:=⟨bi,oi+K0*4+1,none⟩) jI).trans u1;have l2:=(h.r.below.cell (p:=⟨bi,oi+K0*4+2,none⟩) jI).trans u2;have l3:=(h.r.below.cell (p:=⟨bi,oi+K0*4+3,none⟩) jI).trans u3;have iX:BlockLt bi w1:=⟨zR jI h.r.below.size⟩
    refine iV h ?_;clear h a0;go_simp
    first|done|rfl
   .intro D σ w1 a h;refine uB (v:=.pointer w1.heap.size) (w':=w1.alloc (.cells #[.int .i64 0,false,.slice none 0 0,.string ⟨#[]⟩] 68)) ?_ (h.r.alloc (by decide) h.nd);clear h a0;go_simp
    first|done|rfl
   intro D σ w1 a h;obtain⟨g,eg,hgl,hgc,-⟩:=h.r.al (nG h 11);have e9:(a.tmps[9]?).getD undef=.pointer g:=aID h 11 9 eg;have f4:(a.tmps[49]?).getD undef=.agg #[x.num,x.dir,.slice ea x.ents.length ec,x.data]:=gD h 10 49;obtain⟨d0,d1,d2,d3,hblk⟩:∃d0 d1 d2 d3,Blk w1 g #[d0,d1,d2,d3] 68:=by
    rcases hgc with h|h
    .exact⟨_,_,_,_,h⟩
    exact⟨_,_,_,_,h⟩
   have a6:=wD hblk (.int .i64 x.num) (.bool x.dir) (.slice ea x.ents.length ec) (.string x.data);have q0:=hblk.cell 0;have q1:=hblk.cell 1;have q2:=hblk.cell 2;have q3:=hblk.cell 3;have a8:=hblk.frozen 0;have a9:=hblk.frozen 1;have b0:=hblk.frozen 2;have b1:=hblk.frozen 3;simp at q0 q1 q2 q3;have iG:=hblk.lt;refine aKU (w':=aDV w1 g (.int .i64 x.num) (.bool x.dir) (.slice ea x.ents.length ec) (.string x.data)) ?_ (h.r.store (by decide) (nG h 11) eg hgl (tG _ _ _ _ _ _) a6);clear h a0 a6 hblk;unfold aDV;go_simp
   first|done|rfl
  intro σ w3 hR;obtain⟨g,eg,-,-,hgs⟩:=hR.al trivial;have hg:=hgs trivial;have d4:=hR.below;simp only[dJ,Act.put,sA,sZ,sS,Nat.reduceAdd];rw[eg];clear hR hgs eg a0;go_wp2_with fail;go_meet;exact⟨g,rfl,hg,d4⟩
 obtain⟨g,rfl,hg,hbx⟩:=hcut;have b2:=HW.out.2.2.2.trans (hbx.mono HW.out.2.2.2.size);have iG:=hg.lt;have q1:=hg.cell 1;have q2:=hg.cell 2;simp at q1 q2;have hC:=aB HW.out.2.1 hbx;have iC:=hC.lt;have c0:=hC.cell 0;simp at c0;have hr:=aB HW.out.2.2.1 hbx;have hb:=aB HW.out.1 hbx;have iR:=hr.lt;have g0:=hr.cell 0;have g1:=hr.cell 1;have g2:=hr.cell 2;have g3:=hr.cell 3;have g4:=hr.cell 4;have g5:=hr.cell 5;have a8:=hr.frozen 0;have a9:=hr.frozen 1;have b0:=hr.frozen 2;have b1:=hr.frozen 3;have b9:=hr.frozen 4;have c8:=hr.frozen 5;simp at g0 g1 g2 g3 g4 g5;have HG:=lE hb hr b2 hC;have c1:=hC.cell 1;have c2:=hC.cell 2;have c3:=hC.cell 3;have c4:=hC.cell 4;have c5:=hC.cell 5;have c6:=hC.cell 6;have c7:=hC.cell 7;simp at c1 c2 c3 c4 c5 c6 c7;have d5:Bel w wc:=⟨b2⟩;clear hb hr b2 hg hC hbx k0 k1 k2 u0 u1 u2 u3 jB jI HW a0;clear q1 q2 iG;cases X with
 | error k=>have a5:vB w 127 #[.pointer (some ⟨b,0,none⟩),.agg #[.int .i64 11,.int .i64 core,.int .i64 f0,.int .i64 off,.int .i64 nu,.string path,.string p2,.string dt],.int .i64 D,.string nm,.int .i64 num] (.agg #[.int .i64 k,.int .i64 0,.int .i64 0,.bool false,.string ⟨#[]⟩,.slice none 0 0]):=λww hw=>b8.out ww hw;go_wp2_with(go_at_call 127;(refine aE (a5 _ (bel w _)) λp=>?_));exact xD (v:=aQ k 0 0) (by unfold results;simp only[results96,aQ];go_simp) rfl (RefOut.err (bel w _))
 | ok S'=>have a5:Calls prog 127 #[.pointer (some ⟨b,0,none⟩),.agg #[.int .i64 11,.int .i64 core,.int .i64 f0,.int .i64 off,.int .i64 nu,.string path,.string p2,.string dt],.int .i64 D,.string nm,.int .i64 num] wc λe w'=>e=.returned (.agg #[.int .i64 0,.int .i64 0,.int .i64 0,.bool false,.string ⟨#[]⟩,.slice none 0 0])/\Below B wc w'/\Spared b wc w'/\∃iv' ov' mv',Blk w' b #[iv',ov',mv'] 26/\StOwn B w' iv' ov' mv' S':=b8.out wc HG.out.2.2.1;have hr:=HG.out.2.1;clear g0 g1 g2 g3 g4 g5 a8 a9 b0 b1 b9 c8;go_wp2_with(go_at_call 127;(refine a5.mono ?_);rintro e w5 ⟨rfl,hb5,hp5,iv5,ov5,mv5,hk5,hs5⟩;have a2:=hp5 _ _ _ hr (by omega) (.inr (.inr rfl));have f5:=a2.lt;have g0:=a2.cell 0;have g1:=a2.cell 1;have g2:=a2.cell 2;have g3:=a2.cell 3;have g4:=a2.cell 4;have g5:=a2.cell 5;have a8:=a2.frozen 0;have a9:=a2.frozen 1;have b0:=a2.frozen 2;have b1:=a2.frozen 3;have b9:=a2.frozen 4;have c8:=a2.frozen 5;simp at g0 g1 g2 g3 g4 g5;have H5:=nV hb5 hp5 hk5 hs5 a2;clear hb5 hp5 hk5 hs5 a2);have b3:Below B w w5:=(HG.out.2.2.1.mono hB).trans H5.out.1;have b4:Spared b w w5:=(Spared.of_below HG.out.2.2.1).trans H5.out.2.1;exact xD (v:=aQ 0 0 0) (by unfold results;simp only[results96,aQ];go_simp) rfl (RefOut.done (mY (r:=w.heap.size+1) kQ (by omega) a3 hB H5.out.2.2.2.2 H5.out.2.2.1 H5.out.2.2.2.1 b3 b4))
end Go.Proofs.YtmkapobnfigedaaGreatDoor
