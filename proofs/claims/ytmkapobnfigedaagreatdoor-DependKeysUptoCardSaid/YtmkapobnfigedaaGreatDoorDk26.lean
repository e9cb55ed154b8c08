/- A part of a proof of a law. Conditions: none. -/
import Derived.Test.YtmkapobnfigedaaGreatDoorDk24
import Derived.Test.YtmkapobnfigedaaGreatDoorDk20
import Derived.Test.YtmkapobnfigedaaGreatDoorDk21
set_option linter.unusedVariables false
set_option linter.unusedSimpArgs false
set_option maxRecDepth 100000
set_option maxHeartbeats 8000000
namespace Go.Proofs.YtmkapobnfigedaaGreatDoor
open Go.Proofs.Tryz List Go.RowKit
def aJV (S:PSt) (rec:Int->Option Bool):List PEnt->Option Bool
 |[]=>some false
 | e::r=>match S.ins[(bM S e.num).toNat]? with
   |none=>none
   |some z=>if z.dir=true then(match rec e.num with|none=>none|some true=>some true|some false=>aJV S rec r)else aJV S rec r
def iH (S:PSt) (dir:Int):Nat->Int->Option Bool
 |0,_=>none
 | n+1,top=>if dir=top then some true else match S.ins[(bM S top).toNat]? with
   |none=>none
   |some x=>aJV S (iH S dir n) x.ents
theorem aLX {S:PSt} {n:Int} (h:0<=bM S n):∃(k:Nat) (x:PIn),bM S n=k/\S.ins[k]? =some x:=by
 rcases fC S n with h'|⟨h1,h2⟩
 .omega
 refine⟨(bM S n).toNat,_,by omega,gE (by omega)⟩
theorem aPJ (S:PSt) (iv ov mv:Value) (dir:Int) (hf:FineR S):∀(n:Nat) (top:Int) (B:Bool),0<=bM S top->iH S dir n top=some B->∀w,StRead w iv ov mv S->
 vR w 167 #[.agg #[iv,ov,mv],.int .i64 dir,.int .i64 top] (.bool B):=by
 intro n
 induction n with
 |zero=>intro top B _ h;cases h
 | succ n ih=>
   intro top B h0 hB w ho;obtain⟨K,x,hat,hx⟩:=aLX h0;unfold iH at hB;rw[hat]at hB;simp only[zJ]at hB;rw[hx]at hB;have a4:=uX ho hf.wf.1 hat;have b2:=(hf.wf.2.2.2.1 x (mG hx)).2.1;obtain⟨hxl,-⟩:=gI.1 hx;have a5:=λe he=>hf.found x (mG hx) e he;obtain⟨a1,n1',c1,ao,no,co,am,nm',cm,rfl,rfl,rfl⟩:=ho.slices;obtain⟨ai,ci,e1,hai⟩:=ho.ins_at2;cases e1;obtain⟨bi,oi,ev,he,iI0,hoi,her,hci⟩:=hai K x hx;subst he;obtain⟨ea,ec,rfl,hae⟩:=her.at_;rw[lM]at hci;have b3:(K:Int)<S.ins.length:=by omega
   have HO:=lE ho hae hci hai;by_cases hdt:dir=top
   .rw[zB hdt]at hB;cases hB;clear ho hx hai hae hci her ih a5 a4
    unfold vR;go_in;go_wp2;go_ret;exact⟨rfl,bel w _⟩
   rw [zA hdt]at hB;have HB:=aC hB;clear ho hx hai hae hci her hB h0;unfold vR;go_in;go_upto_region 4 with(go_at_call 85;with_reducible refine aE (a4 _ (bel _ _)) λp=>?_)
   refine aD (F:=λwa=>Blk wa w.heap.size #[.slice (some ⟨bi,oi,none⟩) S.ins.length c1,.slice ao no co,.slice am nm' cm] 26/\Bl w wa) ⟨aB (Blk.new w #[.slice (some ⟨bi,oi,none⟩) S.ins.length c1,.slice ao no co,.slice am nm' cm] 26) (bel _ _),bel w _⟩ ?_;rintro W ⟨hb,a2⟩;have HW:=bG hb a2;clear hb a2 a4;go_wp2
   go_loopw[8] (λv8 wr=>∃q:Nat,v8=.int .i64 q/\q<=x.ents.length/\aJV S (iH S dir n) (x.ents.drop q)=some B/\Below W.heap.size W wr) (λv8 _=>(x.ents.length-intOf v8).toNat)
   case atStart=>exact⟨0,rfl,by omega,HB.out,bel W _⟩
   obtain⟨q,rfl,hq,hre,hbr⟩:=hrel;have b4:Bel W wr:=⟨hbr⟩;have a2:=HW.out.2.trans (hbr.mono HW.out.2.size);have iB:Bel w wr:=⟨a2⟩;have hb:=aB HW.out.1 hbr;obtain⟨iL,s0,s1,s2⟩:=gN hb;obtain⟨iI,y0,y1,y2,y3⟩:=HO.out.2.2.1 wr a2;clear y0 y1 y3;by_cases hlt:q<x.ents.length
   .have a9:(q:Int)<x.ents.length:=by omega
    obtain⟨z,hz⟩:∃z,x.ents[q]? =some z:=⟨_,gE hlt⟩;have a7:=mG hz;obtain⟨K2,y,hat2,hy⟩:=aLX (a5 z a7);obtain⟨hyl,-⟩:=gI.1 hy;have b0:(K2:Int)<S.ins.length:=by omega
    obtain⟨be,oe,hea,iE0,iE,hce⟩:=HO.out.2.1 wr a2 q z.cells (by rw[gM,hz];rfl);subst hea;have b5:=hce 1 _ rfl;obtain⟨bi2,oi2,ev2,he2,iI02,hoi2,her2,hci2⟩:=HO.out.2.2.2 K2 y hy;cases he2;obtain⟨-,-,w1',-,-⟩:=hci2 wr a2;have a0:vB wr 85 #[.agg #[.slice (some ⟨bi,oi,none⟩) S.ins.length c1,.slice ao no co,.slice am nm' cm],.int .i64 z.num] (.int .i64 (K2:Int)):=λww hb=>by have:=aAS S _ _ _ z.num ww (HO.out.1.below (a2.trans (hb.mono a2.size)) (zC _)) hf.wf.1;rw[hat2]at this;exact this
    rw[yH hlt]at hre;have a8:x.ents[q]=z:=by have:=gE hlt;rw[hz]at this;exact(Option.some.inj this).symm
    rw[a8]at hre;unfold aJV at hre;rw[hat2]at hre;simp only[zJ]at hre;rw[hy]at hre;have b1:=a5 z a7;cases hyd:y.dir with
    | false=>
      simp only[hyd,zP,if_false]at hre;rw[hyd]at w1';have a6:=bG hre hbr;clear hre hce hz a7 hy hci2 her2 a5 ih hbr hb a8;go_wp2;refine qR ?_
      repeat(go_big_quiet_step (first|(with_reducible first|refine cI (a0 _ (bel _ _))|refine cJ (a0 _ (bel _ _)))))
      refine QN λp=>?_;go_wp2;go_roundw
      case rel=>exact⟨q+1,by go_num,by omega,a6.out.1,a6.out.2.trans ((bel wr _).mono a6.out.2.size)⟩
      simp[intOf];omega
    | true=>
      simp only[hyd,if_true]at hre;rw[hyd]at w1';cases hr:iH S dir n z.num with
      |none=>rw[hr]at hre;cases hre
      | some B2=>
        have a3:vB wr 167 #[.agg #[.slice (some ⟨bi,oi,none⟩) S.ins.length c1,.slice ao no co,.slice am nm' cm],.int .i64 dir,.int .i64 z.num] (.bool B2):=λww hb=>ih z.num B2 b1 hr ww (HO.out.1.below (a2.trans (hb.mono a2.size)) (zC _));rw[hr]at hre;cases B2 with
        | true=>
          cases hre;clear hr hce hz a7 hy hci2 her2 a5 ih hb a8;go_wp2;refine qR ?_
          repeat(go_big_quiet_step (first|(with_reducible first|refine cI (a0 _ (bel _ _))|refine cJ (a0 _ (bel _ _)))|(with_reducible first|refine cI (a3 _ (bel _ _))|refine cJ (a3 _ (bel _ _)))))
          refine QN λp=>?_;go_wp2;go_ret;exact⟨rfl,bel w _⟩
        | false=>
          have a6:=bG hre hbr;clear hre hr hce hz a7 hy hci2 her2 a5 ih hbr hb a8;go_wp2;refine qR ?_
          repeat(go_big_quiet_step (first|(with_reducible first|refine cI (a0 _ (bel _ _))|refine cJ (a0 _ (bel _ _)))|(with_reducible first|refine cI (a3 _ (bel _ _))|refine cJ (a3 _ (bel _ _)))))
          refine QN λp=>?_;go_wp2;go_roundw
          case rel=>exact⟨q+1,by go_num,by omega,a6.out.1,a6.out.2.trans ((bel wr _).mono a6.out.2.size)⟩
          simp[intOf];omega
   have a9:¬(q:Int)<x.ents.length:=by omega
   rw[zS (by omega)]at hre;cases hre;clear a5 ih hb hbr;go_wp2;go_ret;exact⟨rfl,bel w _⟩
theorem aJP (B b:Nat) (S:PSt) (iv ov mv:Value) (kd core f0 off nu:Int) (path p2 dt nm:ByteArray) (D num:Int) (w:World) (hb:Blk w b #[iv,ov,mv] 26) (ho:StRead w iv ov mv S) (hfR:FineR S) (T:Int) (n2:ByteArray) (C2:Int) (hpar:bL S p2=(T,n2,C2)) (hC2:C2≠0):
 Calls prog 127 #[.pointer b,.agg #[kd,core,f0,off,nu,path,p2,dt],D,nm,num] w (RefOut B b w (.error C2)):=by
 have a0:=c45 ho hfR hpar;have a2:=λk ww=>bD k ww;have a3:(C2 !=0)=true:=by simpa using hC2
 obtain⟨a1,n1',c1,ao,no,co,am,nm',cm,rfl,rfl,rfl⟩:=ho.slices;obtain⟨iL,s0,s1,s2⟩:=gN hb;clear ho hb hfR hpar;go_in;go_upto_region 1 with fail;refine qR ?_
 repeat(go_big_quiet_step ((with_reducible first|refine cI (a0 _ (bel _ _))|refine cJ (a0 _ (bel _ _)))))
 refine QN λp=>?_;by_cases hTD:T=D
 iterate 2
  .go_wp2_with(first|(go_at_call 92;with_reducible refine aE (a2 _ _) λp=>?_))
   exact xD (v:=aQ C2 0 0) (by unfold results;simp only[results127,aQ];go_simp) rfl (RefOut.err (bel w _))
def aTT (S:PSt) (x:PIn) (W:Bool) (T:Int) (n2 but:ByteArray) (num:Int) (z:PIn) (K1:Nat) (y:PIn) (nm:ByteArray) (K2:Nat) (z':PIn):Except Int PSt:=
 if(x.dir&&W)=true then .error 9 else if aW S T n2≠0 then .error 2 else if decide (4<=eD (aZ n2) but z.ents 0)=true then .error 5
 else .ok ((S.ents K1 y (dS nm y.ents)).ents K2 z' (cQ (λe=>dX n2 e.name) ⟨n2,num⟩ z'.ents false []))
theorem aJQ (B b:Nat) (S:PSt) (iv ov mv:Value) (kd core f0 off nu:Int) (path p2 dt nm:ByteArray) (D num:Int) (w:World) (hb:Blk w b #[iv,ov,mv] 26) (ho:StOwn B w iv ov mv S) (hB:B<=w.heap.size) (hBb:B<=b) (hfR:FineR S) (T:Int) (n2:ByteArray) (C2:Int) (hpar:bL S p2=(T,n2,C2)) (hC2:C2=0)
 (K0:Nat) (x:PIn) (hat:bM S num=K0) (hx:S.ins[K0]? =some x) (W:Bool) (hW:x.dir=true->∃n,iH S T n num=some W) (K1:Nat) (y:PIn) (hat1:bM S D=K1) (hy:S.ins[K1]? =some y) (K2:Nat) (z:PIn) (hat2:bM S T=K2) (hz:S.ins[K2]? =some z) (hns:n2.size<=1000000000) (hes:∀e∈z.ents,e.name.size<=1000000000)
 (z':PIn) (hz':(S.ents K1 y (dS nm y.ents)).ins[K2]? =some z') (hat2':bM (S.ents K1 y (dS nm y.ents)) T=K2) (hwf':(S.ents K1 y (dS nm y.ents)).wf) (but:ByteArray) (hbut:but=if T=D then nm else⟨#[]⟩):
 Calls prog 127 #[.pointer b,.agg #[kd,core,f0,off,nu,path,p2,dt],D,nm,num] w (RefOut B b w (aTT S x W T n2 but num z K1 y nm K2 z')):=by
 have c3:=c45 ho.read hfR hpar;have b2:=uX ho.read hfR.wf.1 hat;have a7:vB w 118 #[.agg #[iv,ov,mv],.int .i64 T,.string n2] (.int .i64 (aW S T n2)):=λww hb=>hY S iv ov mv T n2 ww (ho.read.below hb (zC _)) hfR.wf;have a6:vB w 121 #[.agg #[iv,ov,mv],.int .i64 T,.string n2,.string but] (.bool (decide (4<=eD (aZ n2) but z.ents 0))):=λww hb=>tU S iv ov mv T n2 but K2 z ww (ho.read.below hb (zC _)) hfR.wf hat2 hz hns hes;have a2:x.dir=true->vB w 167 #[.agg #[iv,ov,mv],.int .i64 T,.int .i64 num] (.bool W):=λhd ww hb=>by obtain⟨n,hn⟩:=hW hd;exact aPJ S iv ov mv T hfR n num W (by omega) hn ww (ho.read.below hb (zC _))
 have a8:=λk ww=>bD k ww;obtain⟨hxl,-⟩:=gI.1 hx;have c4:=hb;have c5:=ho;obtain⟨a1,n1',c1,ao,no,co,am,nm',cm,rfl,rfl,rfl⟩:=ho.read.slices;obtain⟨ai,ci,e1,hai⟩:=ho.read.ins_at2;cases e1;obtain⟨bi,oi,ev,he,iI0,hoi,her,hci⟩:=hai K0 x hx;subst he;obtain⟨iI,-,x1,-,-⟩:=hci w (Below.refl _ _);have d3:(K0:Int)<S.ins.length:=by omega
 obtain⟨iL,s0,s1,s2⟩:=gN hb;subst hC2;have c6:=hfR.wf;have b3:b<w.heap.size:=hb.lt.lt;have HH:=jj9 c4 c5 c6 hat1 hy hns hz' hat2' hwf';obtain⟨X,hX⟩:∃X,aTT S x W T n2 but num z K1 y nm K2 z'=X:=⟨_,rfl⟩;rw[hX];unfold aTT at hX;have HX:=aC hX;obtain⟨E,hE⟩:∃E,aW S T n2=E:=⟨_,rfl⟩;rw[hE]at a7;obtain⟨F,hF⟩:∃F,decide (4<=eD (aZ n2) but z.ents 0)=F:=⟨_,rfl⟩;rw[hF]at a6;have a5:=bG hE hF;have b8:=aC hbut;clear ho hb hfR hpar c4 c5 hx hai her hci hoi hat hat1 hy c6 hX hW hat2 hz hes hz' hat2' hwf' hE hF hbut;go_in;go_upto_region 1 with fail;refine qR ?_
 repeat(go_big_quiet_step ((with_reducible first|refine cI (c3 _ (bel _ _))|refine cJ (c3 _ (bel _ _)))))
 refine QN λp=>?_;by_cases hTD:T=D
 focus
  have b9:nm=but:=by rw[b8.out,zB hTD]
  subst b9;clear b8;subst hTD
 rotate_left
 focus
  have b9:(⟨#[]⟩:ByteArray)=but:=by rw[b8.out,zA hTD]
  subst b9;clear b8
 rotate_left
 iterate 2
  .cases hd :x.dir with
   | false=>
     rw[hd]at x1;go_upto_region 7 with fail;refine qR ?_
     repeat(go_big_quiet_step (first|(with_reducible first|refine cI (b2 _ (bel _ _))|refine cJ (b2 _ (bel _ _)))))
     refine QN λp=>?_;by_cases hE0:E=0
     .have c0:(E !=0)=false:=by simpa using hE0
      cases hFF:F with
      | true=>
        have hX:X=.error 5:=by rw[<-HX.out,zA (by simp[hd]),zA (by rw[a5.out.1];exact λh=>h hE0),zB (by rw[a5.out.2];exact hFF)]
        subst hX;rw[hFF]at a6;go_wp2_with(first|(go_at_call 118;with_reducible refine aE (a7 _ (bel _ _)) λp=>?_)|(go_at_call 121;with_reducible refine aE (a6 _ (bel _ _)) λp=>?_)|(go_at_call 92;with_reducible refine aE (a8 _ _) λp=>?_));exact xD (v:=aQ 5 0 0) (by unfold results;simp only[results127,aQ];go_simp) rfl (RefOut.err (bel w _))
      | false=>
        have hX:X=.ok ((S.ents K1 y (dS nm y.ents)).ents K2 z' (cQ (λe=>dX n2 e.name) ⟨n2,num⟩ z'.ents false [])):=by rw[<-HX.out,zA (by simp[hd]),zA (by rw[a5.out.1];exact λh=>h hE0),zA (by rw[a5.out.2,hFF];decide)]
        subst hX;rw[hFF]at a6;go_upto_region 13 with(first|(go_at_call 118;with_reducible refine aE (a7 _ (bel _ _)) λp=>?_)|(go_at_call 121;with_reducible refine aE (a6 _ (bel _ _)) λp=>?_))
        refine aD (F:=λwa=>Blk wa b #[.slice (some ⟨bi,oi,none⟩) S.ins.length c1,.slice ao no co,.slice am nm' cm] 26/\Blk wa w.heap.size #[kd,core,f0,off,nu,path,p2,dt] 28/\Blk wa (w.heap.size+1) () 52/\Bl w wa) ⟨aB HH.out.1 (bel w _),aB (Blk.new w #[kd,core,f0,off,nu,path,p2,dt] 28) (bel _ _),aB (Blk.new_i (w.alloc (.cells #[kd,core,f0,off,nu,path,p2,dt] 28)) () 52 (w.heap.size+1)) (bel _ _),bel w _⟩ ?_;clear s0 s1 s2 x1 iI iL;rintro wz ⟨hb,hc,hr,hbw⟩;have b4:B<=wz.heap.size:=zD hB hbw.size;have a3:=vF B b S _ _ _ _ nm K1 y wz hb (HH.out.2.1.on hbw) b4 HH.out.2.2.1 HH.out.2.2.2.1 HH.out.2.2.2.2.1;have HZ:=eK hb hr hbw;clear hb hc hr hbw;go_upto_region 14 with(go_at_call 128;(with_reducible refine a3.mono ?_);rintro e w5 ⟨rfl,hb5,hk5,hs5⟩;have H5:=eK hb5 hk5 hs5;clear hb5 hk5 hs5)
        have a9:=H5.out.2.1.blk HZ.out.1 (eR HZ.out.1 (by decide) (by decide));have b5:=H5.out.2.1.blk HZ.out.2.1 (eR HZ.out.2.1 (by decide) (by decide));have b6:B<=w5.heap.size:=zD b4 H5.out.1.size;have a4:=aLS B b (S.ents K1 y (dS nm y.ents)) _ _ _ _ num n2 K2 z' w5 a9 H5.out.2.2 b6 HH.out.2.2.2.2.2.2.2.2 HH.out.2.2.2.2.2.1 HH.out.2.2.2.2.2.2.2.1 HH.out.2.2.2.2.2.2.1;have HF:=bG a9 b5;clear a9 b5 a3;go_upto_region 15 with(go_at_call 122;(with_reducible refine a4.mono ?_);rintro e w6 ⟨rfl,hb6,hk6,hs6⟩;have H6:=eK hb6 hk6 hs6;clear hb6 hk6 hs6)
        have b7:=H6.out.2.1.blk HF.out.1 (eR HF.out.1 (by decide) (by decide));have a0:=H6.out.2.1.blk HF.out.2 (eR HF.out.2 (by decide) (by decide));clear a4;have iR:=a0.lt;have g0:=a0.cell 0;have g1:=a0.cell 1;have g2:=a0.cell 2;have g3:=a0.cell 3;have g4:=a0.cell 4;have g5:=a0.cell 5;have c7:=a0.frozen 0;have c8:=a0.frozen 1;have c9:=a0.frozen 2;have d0:=a0.frozen 3;have d1:=a0.frozen 4;have d2:=a0.frozen 5;simp at g0 g1 g2 g3 g4 g5;have HR:=bG b7 a0;clear b7 a0;go_wp2_with(first|(go_at_call 92;with_reducible refine aE (a8 _ _) λp=>?_));have c2:B<=w6.heap.size:=zD b6 H6.out.1.size;have b0:Below B w w6:=((HZ.out.2.2.mono hB).trans H5.out.1).trans H6.out.1;have b1:Spared b w w6:=((Spared.of_below HZ.out.2.2).trans (Spared.of_in H5.out.2.1)).trans (Spared.of_in H6.out.2.1);exact xD (v:=aQ 0 0 0) (by unfold results;simp only[results127,aQ];go_simp) rfl (RefOut.done (mY (r:=w.heap.size+1) lK (by omega) b3 hB (aB HR.out.2 (bel w6 _)) (aB HR.out.1 (bel w6 _)) (H6.out.2.2.on (bel w6 _)) (b0.trans ((bel w6 _).mono c2)) (b1.trans (Spared.of_below (bel w6 _)))))
     have c0:(E !=0)=true:=by simpa using hE0
     have hX:X=.error 2:=by rw[<-HX.out,zA (by simp[hd]),zB (by rw[a5.out.1];exact hE0)]
     subst hX;go_wp2_with(first|(go_at_call 118;with_reducible refine aE (a7 _ (bel _ _)) λp=>?_)|(go_at_call 92;with_reducible refine aE (a8 _ _) λp=>?_));exact xD (v:=aQ 2 0 0) (by unfold results;simp only[results127,aQ];go_simp) rfl (RefOut.err (bel w _))
   | true =>
     rw[hd]at x1;replace a2:=a2 hd;cases hw:W with
     | true=>
       have hX:X=.error 9:=by rw[<-HX.out,zB (by simp[hd,hw])]
       subst hX;rw[hw]at a2;go_upto_region 7 with fail;refine qR ?_
       repeat(go_big_quiet_step (first|(with_reducible first|refine cI (b2 _ (bel _ _))|refine cJ (b2 _ (bel _ _)))|(with_reducible first|refine cI (a2 _ (bel _ _))|refine cJ (a2 _ (bel _ _)))))
       refine QN λp=>?_;go_wp2_with(first|(go_at_call 92;with_reducible refine aE (a8 _ _) λp=>?_));exact xD (v:=aQ 9 0 0) (by unfold results;simp only[results127,aQ];go_simp) rfl (RefOut.err (bel w _))
     | false=>
       rw[hw]at a2;go_upto_region 7 with fail;refine qR ?_
       repeat(go_big_quiet_step (first|(with_reducible first|refine cI (b2 _ (bel _ _))|refine cJ (b2 _ (bel _ _)))|(with_reducible first|refine cI (a2 _ (bel _ _))|refine cJ (a2 _ (bel _ _)))))
       refine QN λp=>?_;by_cases hE0:E=0
       .have c0:(E !=0)=false:=by simpa using hE0
        cases hFF:F with
        | true=>
          have hX:X=.error 5:=by rw[<-HX.out,zA (by simp[hw]),zA (by rw[a5.out.1];exact λh=>h hE0),zB (by rw[a5.out.2];exact hFF)]
          subst hX;rw[hFF]at a6;go_wp2_with(first|(go_at_call 118;with_reducible refine aE (a7 _ (bel _ _)) λp=>?_)|(go_at_call 121;with_reducible refine aE (a6 _ (bel _ _)) λp=>?_)|(go_at_call 92;with_reducible refine aE (a8 _ _) λp=>?_));exact xD (v:=aQ 5 0 0) (by unfold results;simp only[results127,aQ];go_simp) rfl (RefOut.err (bel w _))
        | false=>
          have hX:X=.ok ((S.ents K1 y (dS nm y.ents)).ents K2 z' (cQ (λe=>dX n2 e.name) ⟨n2,num⟩ z'.ents false [])):=by rw[<-HX.out,zA (by simp[hw]),zA (by rw[a5.out.1];exact λh=>h hE0),zA (by rw[a5.out.2,hFF];decide)]
          subst hX;rw[hFF]at a6;go_upto_region 13 with(first|(go_at_call 118;with_reducible refine aE (a7 _ (bel _ _)) λp=>?_)|(go_at_call 121;with_reducible refine aE (a6 _ (bel _ _)) λp=>?_))
          refine aD (F:=λwa=>Blk wa b #[.slice (some ⟨bi,oi,none⟩) S.ins.length c1,.slice ao no co,.slice am nm' cm] 26/\Blk wa w.heap.size #[kd,core,f0,off,nu,path,p2,dt] 28/\Blk wa (w.heap.size+1) () 52/\Bl w wa) ⟨aB HH.out.1 (bel w _),aB (Blk.new w #[kd,core,f0,off,nu,path,p2,dt] 28) (bel _ _),aB (Blk.new_i (w.alloc (.cells #[kd,core,f0,off,nu,path,p2,dt] 28)) () 52 (w.heap.size+1)) (bel _ _),bel w _⟩ ?_;clear s0 s1 s2 x1 iI iL;rintro wz ⟨hb,hc,hr,hbw⟩;have b4:B<=wz.heap.size:=zD hB hbw.size;have a3:=vF B b S _ _ _ _ nm K1 y wz hb (HH.out.2.1.on hbw) b4 HH.out.2.2.1 HH.out.2.2.2.1 HH.out.2.2.2.2.1;have HZ:=eK hb hr hbw;clear hb hc hr hbw;go_upto_region 14 with(go_at_call 128;(with_reducible refine a3.mono ?_);rintro e w5 ⟨rfl,hb5,hk5,hs5⟩;have H5:=eK hb5 hk5 hs5;clear hb5 hk5 hs5)
          have a9:=H5.out.2.1.blk HZ.out.1 (eR HZ.out.1 (by decide) (by decide));have b5:=H5.out.2.1.blk HZ.out.2.1 (eR HZ.out.2.1 (by decide) (by decide));have b6:B<=w5.heap.size:=zD b4 H5.out.1.size;have a4:=aLS B b (S.ents K1 y (dS nm y.ents)) _ _ _ _ num n2 K2 z' w5 a9 H5.out.2.2 b6 HH.out.2.2.2.2.2.2.2.2 HH.out.2.2.2.2.2.1 HH.out.2.2.2.2.2.2.2.1 HH.out.2.2.2.2.2.2.1;have HF:=bG a9 b5;clear a9 b5 a3;go_upto_region 15 with(go_at_call 122;(with_reducible refine a4.mono ?_);rintro e w6 ⟨rfl,hb6,hk6,hs6⟩;have H6:=eK hb6 hk6 hs6;clear hb6 hk6 hs6)
          have b7:=H6.out.2.1.blk HF.out.1 (eR HF.out.1 (by decide) (by decide));have a0:=H6.out.2.1.blk HF.out.2 (eR HF.out.2 (by decide) (by decide));clear a4;have iR:=a0.lt;have g0:=a0.cell 0;have g1:=a0.cell 1;have g2:=a0.cell 2;have g3:=a0.cell 3;have g4:=a0.cell 4;have g5:=a0.cell 5;have c7:=a0.frozen 0;have c8:=a0.frozen 1;have c9:=a0.frozen 2;have d0:=a0.frozen 3;have d1:=a0.frozen 4;have d2:=a0.frozen 5;simp at g0 g1 g2 g3 g4 g5;have HR:=bG b7 a0;clear b7 a0;go_wp2_with(first|(go_at_call 92;with_reducible refine aE (a8 _ _) λp=>?_));have c2:B<=w6.heap.size:=zD b6 H6.out.1.size;have b0:Below B w w6:=((HZ.out.2.2.mono hB).trans H5.out.1).trans H6.out.1;have b1:Spared b w w6:=((Spared.of_below HZ.out.2.2).trans (Spared.of_in H5.out.2.1)).trans (Spared.of_in H6.out.2.1);exact xD (v:=aQ 0 0 0) (by unfold results;simp only[results127,aQ];go_simp) rfl (RefOut.done (mY (r:=w.heap.size+1) lK (by omega) b3 hB (aB HR.out.2 (bel w6 _)) (aB HR.out.1 (bel w6 _)) (H6.out.2.2.on (bel w6 _)) (b0.trans ((bel w6 _).mono c2)) (b1.trans (Spared.of_below (bel w6 _)))))
       have c0:(E !=0)=true:=by simpa using hE0
       have hX:X=.error 2:=by rw[<-HX.out,zA (by simp[hw]),zB (by rw[a5.out.1];exact hE0)]
       subst hX;go_wp2_with(first|(go_at_call 118;with_reducible refine aE (a7 _ (bel _ _)) λp=>?_)|(go_at_call 92;with_reducible refine aE (a8 _ _) λp=>?_));exact xD (v:=aQ 2 0 0) (by unfold results;simp only[results127,aQ];go_simp) rfl (RefOut.err (bel w _))
theorem aON (s:ByteArray) (o n F G:Nat) (hF:F=min o s.size) (hG:G=min (F+n) s.size):s.extract F G=qO s o n:=by
 unfold qO;by_cases h:s.size<=o
 .rw[zB h];have h1:F=s.size:=by omega
  have h2:G=s.size:=by omega
  rw[h1,h2];rcases s with⟨⟨l⟩⟩
  simp[ByteArray.extract,ByteArray.copySlice,ByteArray.size]
 rw[zA h];have h1:F=o:=by omega
 have h2:G=min s.size (o+n):=by omega
 rw[h1,h2]
theorem aYH (B b:Nat) (S:PSt) (iv ov mv:Value) (core f0 off nu:Int) (path p2 dt:ByteArray) (w:World) (hb:Blk w b #[iv,ov,mv] 26) (ho:StOwn B w iv ov mv S) (hB:B<=w.heap.size) (hBb:B<=b) (hwf:S.wf) (num:Int) (hfd:nR S core f0=num) (hn0:num≠0) (K:Nat) (x:PIn) (hat:bM S num=K) (hx:S.ins[K]? =some x) (oo nn:Nat) (hoo:off=oo) (hnn:nu=nn) (ho1:oo<=256) (hn1:nn<=256) (hxs:x.data.size<=1000000):
 Calls prog 95 #[.pointer b,.agg #[.int .i64 4,core,f0,off,nu,path,p2,dt]] w (ByOut B b w (.ok (S,⟨0,0,0,false,qO x.data oo nn,[]⟩))):=by
 have a0:=c43 ho.read hwf.2.1 hfd;have a3:=λk ww=>bD k ww;have a1:=uX ho.read hwf.1 hat;obtain⟨bi,cap,ma,mn,mc,oa,on,oc,rfl,rfl,rfl,hcz,iI,x3,hKI,hnb,iL,hblt,s0,s1,s2⟩:=lI hb ho hwf hx hn0;have HH:=bG hb ho;subst hoo;subst hnn;obtain⟨F,hFF⟩:∃F,F=min oo x.data.size:=⟨_,rfl⟩;obtain⟨G,hGG⟩:∃G,G=min (F+nn) x.data.size:=⟨_,rfl⟩;rw[<-aON x.data oo nn F G hFF hGG];have hF:min (oo:Int) (x.data.size:Int)=F:=by omega
 have hG:min (IntKind.i64.wrap ((F:Int)+nn)) (x.data.size:Int)=G:=by rw[show IntKind.i64.wrap ((F:Int)+nn)=F+nn from I64.wrap ⟨by omega,by omega⟩];omega
 have a4:F<=G:=by omega
 have a5:G<=x.data.size:=by omega
 have a2:=bG hF hG;clear hF hG hFF hGG;have b1:¬(oo:Int)<0:=by omega
 have b2:¬(256:Int)<oo:=by omega
 have b3:¬(nn:Int)<0:=by omega
 have b4:¬(256:Int)<nn:=by omega
 clear hb ho hwf hfd hx hat hn0;have a6:=aC hcz;clear hcz;go_in;go_upto_region 1 with fail;refine qR ?_
 repeat(go_big_quiet_step ((with_reducible first|refine cI (a0 _ (bel _ _))|refine cJ (a0 _ (bel _ _)))))
 refine QN λp=>?_;go_wp2;refine qR ?_
 repeat(go_big_quiet_step ((with_reducible first|refine cI (a1 _ (bel _ _))|refine cJ (a1 _ (bel _ _)))))
 refine QN λp=>?_;go_upto_region 18 with fail;have hF:=a2.out.1;refine qR ?_
 repeat(go_big_quiet_step (fail))
 refine QN λp=>?_;clear hF;have hG:=a2.out.2;go_upto_region 19 with fail;refine aH [17] true (λw'=>w'.cell? ⟨bi,K*4+3,none⟩=some (.string x.data)/\w'.cell? ⟨w.heap.size,3,none⟩=some (.int .i64 oo)/\w'.cell? ⟨w.heap.size,4,none⟩=some (.int .i64 nn)) (by kernel_rfl) (by kernel_rfl) ?_ ?_
 · (try dsimp only);(repeat' apply And.intro)<;>go_simp
 repeat
  apply aI0 rfl rfl
  focus
   rintro w' ⟨q0,q1,q2⟩;go_simp
   first|done|rfl
  simp only[Act.put,sA,sZ,sS]
 refine aV rfl rfl ?_;apply Exists.intro;refine⟨?_,?_,?_⟩
 focus
  go_simp
  first|done|rfl
 focus
  exact .inr ⟨rfl,rfl⟩
 simp only[Act.put,sA,sZ,sS];refine aS ?_;go_wp2;exact xD (v:=.agg #[.int .i64 0,.int .i64 0,.int .i64 0,false,.string (x.data.extract F G),.slice none 0 0]) (by unfold results;simp only[results95];go_simp) rfl (ByOut.same (bel w _) hB HH.out.1 HH.out.2)
def lH (core fd:Int) (l:List PDesc):List PDesc:=l.filter λd=>!(d.core==core&&d.fd==fd)
theorem aGK {core fd:Int} {l:List PDesc} {q:Nat} {z:PDesc} (h:l[q]? =some z):lH core fd (l.take (q+1))=lH core fd (l.take q)++(if (z.core==core&&z.fd==fd)=true then[]else[z]):=by
 unfold lH;rw[take_add_one,h,filter_append];congr 1;by_cases hb:(z.core==core&&z.fd==fd)=true
 .simp only[Option.toList,filter_cons,filter_nil,hb,Bool.not_true,zP,if_false,if_true]
 have a0:(z.core==core&&z.fd==fd)=false:=Bool.not_eq_true _ ▸ hb;simp only[Option.toList,filter_cons,filter_nil,a0,Bool.not_false,zP,if_false,if_true]
theorem bAJ (B b:Nat) (S:PSt) (iv ov mv:Value) (core f0 off nu:Int) (path p2 dt:ByteArray) (w:World) (hb:Blk w b #[iv,ov,mv] 26) (ho:StOwn B w iv ov mv S) (hB:B<=w.heap.size) (hBb:B<=b) (hwf:S.wf) (num:Int) (hfd:nR S core f0=num) (hn0:num≠0) (K:Nat) (x:PIn) (hat:bM S num=K) (hx:S.ins[K]? =some x):
 Calls prog 95 #[.pointer b,.agg #[.int .i64 3,core,f0,off,nu,path,p2,dt]] w (ByOut B b w (.ok (lO { S with op:=lH core f0 S.op} num,⟨0,0,0,false,⟨#[]⟩,[]⟩))):=by
 have b0:=c43 ho.read hwf.2.1 hfd;have c5:=λk ww=>bD k ww;have b1:=uX ho.read hwf.1 hat;obtain⟨hxl,-⟩:=gI.1 hx;obtain⟨bi,cap,rfl⟩:=ho.ins_form (by omega);obtain⟨ma,mn,mc,rfl⟩:=ho.2.1.form;obtain⟨oa,oc,rfl⟩:=ho.1.formL;rw[lM]at *;obtain⟨oa',oc',e2,hod⟩:=ho.read.1.at_;rw[lM]at e2;cases e2;obtain⟨a,cap',e1,hai⟩:=ho.read.ins_at2;cases e1;obtain⟨bi',oi,ev,he,iI0,hoi,her,hci⟩:=hai K x hx;cases he;have b2:∀w2,Bl w w2->BlockLt bi w2/\w2.cell? ⟨bi,K*4+3,none⟩=some (.string x.data):=by intro w2 h2;obtain⟨i2,-,-,-,x3⟩:=hci w2 h2;simp only[zM]at x3;exact⟨i2,x3⟩
 obtain⟨iI,x3⟩:=b2 w (Below.refl _ _);have c6:(K:Int)<S.ins.length:=by omega
 have d2:(num==0)=false:=by simpa using hn0
 have iL:=hb.lt;have b3:b<w.heap.size:=hb.lt.lt;obtain⟨-,s0,s1,s2⟩:=gN hb;have a3:({ S with op:=lH core f0 S.op}:PSt).wf:=⟨hwf.1,zD (length_filter_le _ _) hwf.2.1,hwf.2.2.1,hwf.2.2.2.1,λd hd=>hwf.2.2.2.2.1 d (mem_filter.1 hd).1,hwf.2.2.2.2.2⟩;have c7:0<S.ins.length:=by omega
 have d3:=hwf.2.1;have HH:=nV hb ho a3 c7 hod;clear hod a3;clear hb ho hwf hfd hx hat hn0 hai her hci hoi;have d4:=aC b2;clear b2;go_in;go_upto_region 1 with fail;refine qR ?_
 repeat(go_big_quiet_step ((with_reducible first|refine cI (b0 _ (bel _ _))|refine cJ (b0 _ (bel _ _)))))
 refine QN λp=>?_;go_wp2;refine qR ?_
 repeat(go_big_quiet_step ((with_reducible first|refine cI (b1 _ (bel _ _))|refine cJ (b1 _ (bel _ _)))))
 refine QN λp=>?_;go_upto_region 7 with fail;refine aD (F:=λwa=>Blk wa b #[.slice bi S.ins.length cap,.slice oa S.op.length oc,.slice ma mn mc] 26/\Blk wa w.heap.size #[.int .i64 3,core,f0,off,nu,path,p2,dt] 28/\Blk wa (w.heap.size+1) () 52/\Bl w wa) ⟨aB HH.out.1 (bel w _),aB (Blk.new w #[.int .i64 3,core,f0,off,nu,path,p2,dt] 28) (bel _ _),aB (Blk.new_i (w.alloc (.cells #[.int .i64 3,core,f0,off,nu,path,p2,dt] 28)) () 52 (w.heap.size+1)) (bel _ _),bel w _⟩ ?_;rintro W ⟨hb,hc,hr,a2⟩;have HW:=lE hb hc hr a2;clear s0 s1 s2 x3 iI iL hb hc hr a2 b1 b0 c6;go_upto_region 9 with fail
 go_loopw[7,8] (λv7 v8 wr=>∃(q:Nat) (zs:List PDesc),v8=.int .i64 q/\q<=S.op.length/\zs.length<=q/\OwnP W.heap.size wr 95 3 v7 (zs.map PDesc.cells)/\zs=lH core f0 (S.op.take q)/\Below W.heap.size W wr) (λ_ v8 _=>(S.op.length-intOf v8).toNat)
 case atStart=>exact⟨0,[],rfl,by omega,by simp,.inl ⟨rfl,rfl⟩,rfl,bel W _⟩
 obtain⟨q,zs,rfl,hq,hzl,hO,hre,hbr⟩:=hrel;have c8:Bel W wr:=⟨hbr⟩;have a2:=HW.out.2.2.2.trans (hbr.mono HW.out.2.2.2.size);have iB:Bel w wr:=⟨a2⟩;have hb:=aB HW.out.1 hbr;have hc:=aB HW.out.2.1 hbr;obtain⟨iL,s0,s1,s2⟩:=gN hb;have iC:=hc.lt;have k1:=hc.cell 1;have k2:=hc.cell 2;simp at k1 k2;obtain⟨va,vc,rfl⟩:=hO.formL;generalize hzn:(zs.map PDesc.cells).length=zn at hO |-;have HO:=lE hO hzn hbr a2;clear hO hzn hbr;by_cases hlt:q<S.op.length
 .obtain⟨z,hz⟩:∃z,S.op[q]? =some z:=⟨_,gE hlt⟩
  have a1:=aGK (core:=core) (fd:=f0) hz;rw[<-hre]at a1;obtain⟨be,oe,hea,iE0,iE,hce⟩:=HH.out.2.2.2.2 wr a2 q z.cells (by rw[gM,hz];rfl);subst hea;have c0:=hce 0 _ rfl;have c1:=hce 1 _ rfl;have c2:=hce 2 _ rfl;rw[zN]at c0;have b4:(q:Int)<S.op.length:=by omega
  have b5:=aC a1;clear hce hz hre a1 hb hc a2;obtain⟨zc,zf,zm⟩:=z;simp only at c0 c1 c2;by_cases hC:zc=core
  .subst hC;by_cases hF:zf=f0
   .subst hF;have hs:=b5.out;rw[zB (by simp),append_nil]at hs;have HS:=aC hs;clear hs
    go_upto_region 11 with fail;refine qR ?_
    repeat(go_big_quiet_step (fail))
    refine QN λp=>?_;go_wp2;go_roundw
    case rel=>exact⟨q+1,zs,by go_num,by omega,by omega,by have h:=HO.out;first|exact h.1.below (bel wr _)|(rw [<-h.2.1]at h;exact h.1.below (bel wr _)),HS.out.symm,bel W _⟩
    simp[intOf];omega
   have d5:(zf !=f0)=true:=by simpa using hF
   have hs:=b5.out;rw[zA (by simp[hF])]at hs;have HS:=aC hs;clear hs;go_upto_region 11 with fail;refine qR ?_
   repeat(go_big_quiet_step (fail))
   refine QN λp=>?_;go_wp2_with(at_builtin;refine mV rfl (.tmp 69) (.tmp 77) rfl W.heap.size _ _ zs [⟨zc,zf,zm⟩] rfl (by go_simp) (HO.out.1.below (bel wr _)) (RowAt.single (Blk.new_i _ _ _ _) 3 1) (by simp;omega) (bel W _).size ?_);intro v' w' hg;have a4:=hg.on (HO.out.1.below (bel wr _)) (bel W _).size;have a5:=(bel W _).trans a4;have a6:OwnP W.heap.size w' 95 3 v' ((zs++[(⟨zc,zf,zm⟩:PDesc)]).map PDesc.cells):=by have:=hg.1;simpa using this
   have H2:=bG a6 a5;clear hg a4 a6 a5;go_wp2;go_roundw
   case rel=>exact⟨q+1,_,by go_num,by omega,by simp;omega,H2.out.1,HS.out.symm,H2.out.2⟩
   simp[intOf];omega
  have d6:(zc !=core)=true:=by simpa using hC
  have hs:=b5.out;rw[zA (by simp[hC])]at hs;have HS:=aC hs;clear hs;go_upto_region 11 with fail;refine qR ?_
  repeat(go_big_quiet_step (fail))
  refine QN λp=>?_;go_wp2_with(at_builtin;refine mV rfl (.tmp 69) (.tmp 77) rfl W.heap.size _ _ zs [⟨zc,zf,zm⟩] rfl (by go_simp) (HO.out.1.below (bel wr _)) (RowAt.single (Blk.new_i _ _ _ _) 3 1) (by simp;omega) (bel W _).size ?_);intro v' w' hg;have a4:=hg.on (HO.out.1.below (bel wr _)) (bel W _).size;have a5:=(bel W _).trans a4;have a6:OwnP W.heap.size w' 95 3 v' ((zs++[(⟨zc,zf,zm⟩:PDesc)]).map PDesc.cells):=by have:=hg.1;simpa using this
  have H2:=bG a6 a5;clear hg a4 a6 a5;go_wp2;go_roundw
  case rel=>exact⟨q+1,_,by go_num,by omega,by simp;omega,H2.out.1,HS.out.symm,H2.out.2⟩
  simp[intOf];omega
 have b4:¬(q:Int)<S.op.length:=by omega
 have c9:zs=lH core f0 S.op:=by rw[hre,take_of_length_le (by omega)]
 subst c9;clear hre;have hK:Keep (λg=>g=b) wr (wr.setCell ⟨b,1,none⟩ (.slice va zn vc)):=(Keep.refl (λg=>g=b) wr).setCell (p:=⟨b,1,none⟩) (.inl rfl) _;have b8:Blk (wr.setCell ⟨b,1,none⟩ (.slice va zn vc)) b #[.slice bi S.ins.length cap,.slice va zn vc,.slice ma mn mc] 26:=by have h:=hb.set_ 1 (.slice va zn vc);simpa only[sA,sZ,sS]using h
 have b9:Blk (wr.setCell ⟨b,1,none⟩ (.slice va zn vc)) (w.heap.size+1) #[.int .i64 0,.int .i64 0,.int .i64 0,.bool false,.string ⟨#[]⟩,.slice none 0 0] 52:=hK.blk (aB HW.out.2.2.1 HO.out.2.2.1) (by omega);have c3:StOwn B (wr.setCell ⟨b,1,none⟩ (.slice va zn vc)) (.slice bi S.ins.length cap) (.slice va zn vc) (.slice ma mn mc) { S with op:=lH core f0 S.op}:=by have h1:=(HH.out.2.1.on HO.out.2.2.2).keep hK (λg hg=>by rw[hg];exact⟨_,26,hb,by decide,by decide,by decide,by decide⟩);have h2:=HO.out.1.keep hK (λg hg e=>by have:=HO.out.1.ge hg;have:=HW.out.1.lt.lt;omega);exact h1.setOp (h2.mono (zD hB HW.out.2.2.2.size))
 have a7:Below B w (wr.setCell ⟨b,1,none⟩ (.slice va zn vc)):=(HO.out.2.2.2.mono hB).trans (hK.below (zD hB HO.out.2.2.2.size) (λi hi e=>by omega));have a8:Spared b w (wr.setCell ⟨b,1,none⟩ (.slice va zn vc)):=(Spared.of_below HO.out.2.2.2).trans (λgg c t h1 h2 _=>hK.blk h1 h2);have d0:=hb.frozen 1;have HN:=nV b8 c3 b9 a7 a8;clear hK b8 b9 c3 a7 a8 hb hc a2 HO;go_upto_region 14 with fail;refine aD (F:=λwz=>Blk wz b #[.slice bi S.ins.length cap,.slice va zn vc,.slice ma mn mc] 26/\StOwn B wz (.slice bi S.ins.length cap) (.slice va zn vc) (.slice ma mn mc) { S with op:=lH core f0 S.op}/\Blk wz (w.heap.size+1) () 52/\Below B w wz/\Spared b w wz) HN.out ?_;clear HN s0 s1 s2 iL iC k1 k2 d0 c8 iB;rintro wz ⟨f1,f2,f3,f4,f5⟩;have c4:B<=wz.heap.size:=zD hB f4.size;have a9:=xT B b _ _ _ _ num wz f1 f2 c4 hBb HH.out.2.2.1 HH.out.2.2.2.1;have HZ:=eK f3 f4 f5;clear f1 f2 f3 f4 f5;go_upto_region 36 with(go_at_call 124;(with_reducible refine a9.mono ?_);rintro e w6 ⟨rfl,hb6,hk6,iv6,hv6,hs6⟩;have H6:=lE hb6 hk6 hv6 hs6;clear hb6 hk6 hv6 hs6)
 have a0:=H6.out.2.1.blk HZ.out.1 (by omega);clear a9;have iR:=a0.lt;have g0:=a0.cell 0;have d7:=a0.frozen 0;have g1:=a0.cell 1;have d8:=a0.frozen 1;have g2:=a0.cell 2;have d9:=a0.frozen 2;have g3:=a0.cell 3;have e0:=a0.frozen 3;have g4:=a0.cell 4;have e3:=a0.frozen 4;have g5:=a0.cell 5;have e4:=a0.frozen 5;simp at g0 g1 g2 g3 g4 g5;have HR:=aC a0;clear a0;go_wp2_with(go_at_call 92;with_reducible refine aE (c5 _ _) λp=>?_);have d1:B<=w6.heap.size:=zD c4 H6.out.1.size;have b6:Below B w w6:=HZ.out.2.1.trans H6.out.1;have b7:Spared b w w6:=HZ.out.2.2.trans (λgg c t h1 h2 _=>H6.out.2.1.blk h1 h2);exact xD (v:=aQ 0 0 0) (by unfold results;simp only[results95,aQ];go_simp) rfl (ByOut.done (mY (r:=w.heap.size+1) lK (by omega) b3 hB (aB HR.out (bel w6 _)) (aB H6.out.2.2.1 (bel w6 _)) (H6.out.2.2.2.on (bel w6 _)) (b6.trans ((bel w6 _).mono d1)) (b7.trans (Spared.of_below (bel w6 _)))))
section
section
variable {α:Type} {p:α->Bool} {x:α}
theorem aLK:∀(es zs:List α),cQ p x es true zs=zs++es
 |[],zs=>by simp[cQ]
 | e::r,zs=>by rw[cQ,zB rfl,aLK r];simp
theorem aGG:∀(es zs:List α) (k:Nat),k<=es.length->(∀i e,i<k->es[i]? =some e->p e=false)->(∀e,es[k]? =some e->p e=true)->cQ p x es false zs=zs++aX es k x
 | [],zs,k,hk,_,_=>by
   have:k=0:=by simpa using hk
   subst this;simp[cQ,aX]
 | e::r,zs,0,_,_,h2=>by have:=h2 e rfl;rw[cQ,zA (by decide),zB this,aLK];simp[aX]
 | e::r,zs,k+1,hk,h1,h2=>by have:=h1 0 e (by omega) rfl;rw[cQ,zA (by decide),zA (by rw[this];decide),aGG r (zs++[e]) k (by simpa using hk) (λi y hi hy=>h1 (i+1) y (by omega) (by simpa using hy)) (λy hy=>h2 y (by simpa using hy))];simp[aX]
theorem xH {es:List α} {k:Nat} (hk:k<=es.length) (h1:∀i e,i<k->es[i]? =some e->p e=false) (h2:∀e,es[k]? =some e->p e=true):cQ p x es false []=aX es k x:=by rw[aGG es [] k hk h1 h2,nil_append]
theorem aJD:∀(es:List α),(∀e∈es,p e=true)->es.filter p=es:=λes h=>filter_eq_self.2 h
theorem kC:∀(es:List α) (k:Nat) (e:α),es[k]? =some e->p e=false->(∀i y,i≠k->es[i]? =some y->p y=true)->es.filter p=aM es k
 |[],k,e,h,_,_=>by simp at h
 | y::r,0,e,h,h1,h2=>by
   simp only[zH,zF]at h;subst h;rw[filter_cons,zA (by rw[h1];decide),aJD r (λz hz=>by
    obtain⟨i,hi⟩:=getElem?_of_mem hz;exact h2 (i+1) z (by omega) (by simpa using hi))]
   simp[aM]
 | y::r,k+1,e,h,h1,h2=>by rw[filter_cons,zB (h2 0 y (by omega) rfl),kC r k e (by simpa using h) h1 (λi z hi hz=>h2 (i+1) z (by omega) (by simpa using hz))];simp[aM]
end
theorem aCG {a b:UInt8}:a<b↔a.toNat<b.toNat:=UInt8.lt_iff_toNat_lt
theorem aCH:∀x y z:List UInt8,Lib.compareBytes x y<0->Lib.compareBytes y z<0->Lib.compareBytes x z<0
 |[],[],_,h,_=>by simp[Lib.compareBytes]at h
 |[],_::_,[],_,h=>by simp[Lib.compareBytes]at h
 |[],_::_,_::_,_,_=>by simp[Lib.compareBytes]
 |_::_,[],_,h,_=>by simp[Lib.compareBytes]at h
 |_::_,_::_,[],_,h=>by simp[Lib.compareBytes]at h
 | a ::x,b::y,c::z,h1,h2=>by
   simp only[Lib.compareBytes,aCG]at h1 h2 |-;split at h1
   .split at h2
    .rw[zB (by omega)];decide
    split at h2
    .exact absurd h2 (by decide)
    rw[zB (by omega)];decide
   split at h1
   .exact absurd h1 (by decide)
   split at h2
   .rw[zB (by omega)];decide
   split at h2
   .exact absurd h2 (by decide)
   rw[zA (by omega),zA (by omega)];exact aCH x y z h1 h2
theorem aWU:∀x y:List UInt8,Lib.compareBytes x y=0->x=y
 |[],[],_=>rfl
 |[],_::_,h=>by simp[Lib.compareBytes]at h
 |_::_,[],h=>by simp[Lib.compareBytes]at h
 | a ::x,b::y,h=>by
   simp only[Lib.compareBytes,aCG]at h;split at h
   .cases h
   split at h
   .cases h
   rw[aWU x y h,UInt8.toNat_inj.1 (show a.toNat=b.toNat by omega)]
theorem aLL:∀x:List UInt8,Lib.compareBytes x x=0
 |[]=>rfl
 | a::x=>by simp only[Lib.compareBytes,aCG];rw[zA (by omega),zA (by omega)];exact aLL x
theorem aLM:∀x y:List UInt8,Lib.compareBytes x y<0->0<Lib.compareBytes y x
 |[],[],h=>by simp[Lib.compareBytes]at h
 |[],_::_,_=>by simp[Lib.compareBytes]
 |_::_,[],h=>by simp[Lib.compareBytes]at h
 | a ::x,b::y,h=>by
   simp only[Lib.compareBytes,aCG]at h |-;split at h
   .rw[zA (by omega),zB (by omega)];decide
   split at h
   .exact absurd h (by decide)
   rw[zA (by omega),zA (by omega)];exact aLM x y h
theorem aLN:∀x y:List UInt8,0<Lib.compareBytes x y->Lib.compareBytes y x<0
 |[],[],h=>by simp[Lib.compareBytes]at h
 |[],_::_,h=>by simp[Lib.compareBytes]at h
 |_::_,[],_=>by simp[Lib.compareBytes]
 | a ::x,b::y,h=>by
   simp only[Lib.compareBytes,aCG]at h |-;split at h
   .exact absurd h (by decide)
   split at h
   .rw[zB (by omega)];decide
   rw[zA (by omega),zA (by omega)];exact aLN x y h
theorem aLO:∀x y:List UInt8,Op.bytesLess x y=decide (Lib.compareBytes x y<0)
 |[],[]=>rfl
 |[],_::_=>rfl
 |_::_,[]=>rfl
 | a ::x,b::y=>by
   have ih:=aLO x y;unfold Op.bytesLess;simp only[Lib.compareBytes];by_cases h1:a<b
   .simp[h1]
   by_cases h2:b<a
   .have a0:a≠b:=λe=>by subst e;exact h1 h2
    simp[h1,h2,a0]
   have e:a=b:=UInt8.toNat_inj.1 (by rw[aCG]at h1 h2;omega);subst e;simp[h1,ih]
theorem mT (a b:ByteArray):Op.bytesLess a.toList b.toList=decide (dF a b<0):=by rw[aLO,zW,zW];rfl
theorem pU {a b:ByteArray}:dF a b=0↔a=b:=by
 constructor
 .intro h;exact ByteArray.ext (Array.toList_inj.1 (aWU _ _ h))
 rintro rfl;exact aLL _
theorem xI {a b c:ByteArray} (h1:dF a b<0) (h2:dF b c<0):dF a c<0:=aCH _ _ _ h1 h2
theorem aOC {a b:ByteArray} (h:dF a b<0):0<dF b a:=aLM _ _ h
theorem aOD {a b:ByteArray} (h:0<dF a b):dF b a<0:=aLN _ _ h
def Asc (es:List PEnt):Prop:=∀(i j:Nat) (a b:PEnt),es[i]? =some a->es[j]? =some b->i<j->dF a.name b.name<0
theorem aSX {ns :List Int}:∀(es:List PEnt) (prev:Option ByteArray) (sl:List Int),eY ns prev sl es=true->Asc es/\∀q,prev=some q->∀(i:Nat) (a:PEnt),es[i]? =some a->dF q a.name<0
 |[],_,_,_=>⟨λi j a b h=>by simp at h,λq _ i a h=>by simp at h⟩
 | e :: r, prev, sl,h=>by
   unfold eY at h;split at h
   .cases h
   split at h
   .cases h
   rename_i hp;split at h
   .cases h
   split at h
   .cases h
   split at h
   .split at h
    .cases h
    obtain⟨h1,h2⟩:=aSX r _ _ h;have h3:=h2 e.name rfl;have h4:∀q,prev=some q->dF q e.name<0:=by rintro q rfl;have a0:¬(!Op.bytesLess q.toList e.name.toList)=true:=hp;rw[mT]at a0;simpa using a0
    refine⟨λi j a b ha hb hij=>?_,λq hq i a ha=>?_⟩
    .rcases i with _|i
     .simp only[zH,zF]at ha;subst ha;rcases j with _|j
      .omega
      exact h3 j b (by simpa using hb)
     rcases j with _|j
     .omega
     exact h1 i j a b (by simpa using ha) (by simpa using hb) (by omega)
    rcases i with _|i
    .simp only[zH,zF]at ha;subst ha;exact h4 q hq
    exact xI (h4 q hq) (h3 i a (by simpa using ha))
   cases h
theorem xJ {es:List PEnt} (h:Asc es) (s:ByteArray):cY es s<=es.length/\(∀(i:Nat) (a:PEnt),i<cY es s->es[i]? =some a->dF a.name s<0)/\(∀(i:Nat) (a:PEnt),cY es s<=i->es[i]? =some a->¬dF a.name s<0):=by
 have hc:∀(j:Nat) (a:PEnt),es[j]? =some a->aAM es s j=dF a.name s:=λj a ha=>by unfold aAM;rw[ha]
 obtain⟨h1,h2,h3,h4⟩:=iY (aAM es s) es.length 0 es.length (by omega) (by omega) (λi j a c d e=>by
  rw[hc j _ (gE d)]at e;rw[hc i _ (gE (by omega:i<es.length))];by_cases hij:i=j
  .subst hij;exact e
  exact xI (h i j _ _ (gE (by omega)) (gE d) (by omega)) e)
 refine⟨h2,λi a hi ha=>?_,λi a hi ha=>?_⟩
 .rw[<-hc i a ha];exact h3 i (by omega) hi
 obtain⟨hl,_⟩:=gI.1 ha;rw[<-hc i a ha];exact h4 i hi hl
theorem pV {es:List PEnt} {s:ByteArray}:bR es s=true↔∃e,es[cY es s]? =some e/\e.name=s:=by
 unfold bR;simp only[zE,zI,beq_iff_eq];constructor
 .rintro⟨h1,h2⟩;refine⟨_,gE h1,?_⟩;unfold aAM at h2;rw[gE h1]at h2;exact pU.1 h2
 rintro⟨e,he,hn⟩;obtain⟨hl,_⟩:=gI.1 he;refine⟨hl,?_⟩;unfold aAM;rw[he];exact pU.2 hn
theorem aEF {es:List PEnt} (h:Asc es) {s:ByteArray} {i:Nat} {e:PEnt} (he:es[i]? =some e) (hn:e.name=s):i=cY es s/\bR es s=true:=by
 obtain⟨h1,h2,h3⟩:=xJ h s;obtain⟨hl,_⟩:=gI.1 he;have hz:dF e.name s=0:=pU.2 hn;have a0:cY es s<=i:=by
  rcases Nat.lt_or_ge i (cY es s)with hlt|a0
  .have:=h2 i e hlt he;omega
  exact a0
 have hi:i=cY es s:=by
  rcases Nat.lt_or_ge (cY es s) i with hlt|hle
  .exfalso;have hb:cY es s<es.length:=by omega
   have h5:=h _ _ _ _ (gE hb) he hlt;rw[hn]at h5;exact h3 _ _ (zC _) (gE hb) h5
  omega
 exact⟨hi,pV.2 ⟨e,by rw[<-hi];exact he,hn⟩⟩
theorem pW {a b:ByteArray}:(a.toList==b.toList)=true↔a=b:=by rw[beq_iff_eq,zW,zW];exact⟨λh=>ByteArray.ext (Array.toList_inj.1 h),λh=>by rw[h]⟩
theorem xK (s:ByteArray):∀(es:List PEnt) (k:Nat) (e:PEnt),es[k]? =some e->e.name=s->(∀i a,i<k->es[i]? =some a->a.name≠s)->rF s es=e.num
 |[],k,e,h,_,_=>by simp at h
 | y::r,0,e,h,hn,_=>by simp only[zH,zF]at h;subst h;unfold rF;rw[zB (pW.2 hn)]
 | y::r,k+1,e,h,hn,h2=>by unfold rF;rw[zA (λhc=>h2 0 y (by omega) rfl (pW.1 hc))];exact xK s r k e (by simpa using h) hn (λi a hi ha=>h2 (i+1) a (by omega) (by simpa using ha))
theorem aCI (s:ByteArray):∀(es:List PEnt),(∀a∈es,a.name≠s)->rF s es=0
 |[],_=>rfl
 | y::r,h=>by unfold rF;rw[zA (λhc=>h y zQ (pW.1 hc))];exact aCI s r λa ha=>h a (zL _ ha)
theorem aGH {es:List PEnt} (h:Asc es) {s:ByteArray} {e:PEnt} (hh:bR es s=true) (he:es[cY es s]? =some e):rF s es=e.num:=by
 obtain⟨e',he',hn⟩:=pV.1 hh;rw[he]at he';cases he';exact xK s es _ e he hn λi a hi ha hc=>by have:=(aEF h ha hc).1;omega
theorem sD {es:List PEnt} (h:Asc es) {s:ByteArray} (hh:bR es s=false):∀a∈es,a.name≠s:=by intro a ha hn;obtain⟨i,hi⟩:=getElem?_of_mem ha;have:=(aEF h hi hn).2;rw[hh]at this;cases this
theorem aOF {es:List PEnt} (h:Asc es) {s:ByteArray} (hh:bR es s=false):rF s es=0:=aCI s es (sD h hh)
theorem xL {es:List PEnt} (h:Asc es) {s:ByteArray} (hh:bR es s=false) (x:PEnt):cQ (λe=>dX s e.name) x es false []=aX es (cY es s) x:=by
 obtain⟨h1,h2,h3⟩:=xJ h s;refine xH h1 (λi e hi he=>?_) (λe he=>?_)
 .rw[oW,mT];have:=aOC (h2 i e hi he);simp only[yW];omega
 rw[oW,mT];have h4:=h3 _ e (zC _) he;have h5:dF e.name s≠0:=λhc=>sD h hh e (mG he) (pU.1 hc);simp only[zI];exact aOD (by omega)
theorem aCJ {es:List PEnt} (h:Asc es) {s:ByteArray} (hh:bR es s=true):dS s es=aM es (cY es s):=by
 obtain⟨e,he,hn⟩:=pV.1 hh;refine kC es _ e he ?_ (λi y hi hy=>?_)
 .rw[Bool.not_eq_false'];exact pW.2 hn
 rw[yL];rw[<-Bool.not_eq_true];exact λhc=>hi (aEF h hy (pW.1 hc)).1
theorem aLP (s but:ByteArray):∀(es:List PEnt) (a:Int),eD (aZ s) but es a=a+oL s but es
 |[],a=>by simp[eD,oL]
 | e::r,a=>by
   unfold eD oL oK;rw[aLP s but r,<-nB,<-nB];split<;>omega
theorem mU (s but:ByteArray) (es:List PEnt):decide (4<=eD (aZ s) but es 0)=eZ es s but:=by unfold eZ;rw[aLP];apply Bool.eq_iff_iff.2;simp only[zI];omega
end
section
structure MayX (S:PSt):Prop where
 wf:S.wf
 tree:Tree S
 fine:Fine S
 asc:∀x∈S.ins,Asc x.ents
 head:∃x0,S.ins[0]? =some x0/\x0.num=1/\x0.dir=true
 file:∀x∈S.ins,x.dir=false->x.ents=[]
 bare:∀x∈S.ins,x.dir=true->x.data.size=0
 nums:∀k x,S.ins[k]? =some x->1<=k->dH S.made x.num=true
 made:∀m∈S.made,0<=m/\m<=32
 cores:S.made.length<=8
 descs:fJ S none S.op=true
theorem pX {S:PSt} (hwf:S.wf) (hm:cS S=true):MayX S:=by
 have ht:=pK hwf hm;have hf:=iP hwf hm;unfold cS at hm;split at hm;rotate_left
 .cases hm
 rename_i h1;simp only[zE]at h1;obtain⟨⟨hmade,hins⟩,hop⟩:=h1;unfold dR at hins;rcases e:S.ins with _|⟨x0,r⟩
 .rw[e]at hins;cases hins
 rw[e]at hins;simp only at hins;split at hins;rotate_left
 .cases hins
 rename_i hn0;split at hins;rotate_left
 .cases hins
 rename_i hd0;rw[<-e,zE,yY]at hins;obtain⟨hnb,hall⟩:=hins;obtain⟨n1,n2⟩:=aAG _ _ hnb;unfold dP at hmade;simp only[zE,yL,yV,yW,any_eq_false]at hmade;obtain⟨⟨hm1,hm2⟩,hm3⟩:=hmade;refine⟨hwf,ht,hf,λx hx=>?_,⟨x0,by rw[e];rfl,hn0,hd0⟩,λx hx hd=>?_,λx hx hd=>?_,λk x hx hk=>?_,λm hm=>?_,by omega,hop⟩
 .have:=hall x hx;unfold inB at this
  split at this
  .rw[zE]at this;exact(aSX x.ents none _ this.2).1
  simp only[zE,zI]at this;have h0:=zT this.1;rw[h0];intro i j a b ha;simp at ha
 .have:=hall x hx;unfold inB at this;rw[zA (by rw[hd];decide)]at this;simp only[zE,zI]at this;exact zT this.1
 .have:=hall x hx;unfold inB at this;rw[zB hd,zE]at this;have h0:=this.1;rw[isEmpty_iff,zW]at h0;have:x.data.data.toList.length=0:=by rw[h0];rfl
  exact this
 .obtain⟨k,rfl⟩:∃k',k=k'+1:=⟨k-1,by omega⟩
  rw[e,zV]at hx;exact(n1 k x.num (by rw[gM,hx];rfl)).2
 have:=hm3 m hm;unfold eA at this;simp only[yI,zI,not_or]at this;omega
section
variable {S:PSt}
theorem MayX.root (h:MayX S):bM S 1=0:=by obtain⟨x0,h0,h1,-⟩:=h.head;have:=cP h.tree.rise h0;rw[h1]at this;exact this
theorem MayX.fineR (h:MayX S):FineR S:=⟨h.wf,by rw[h.root];omega,λx hx e he=>(h.tree.found x hx e he).1⟩
theorem MayX.num (h:MayX S) {n:Int} {k:Nat} {x:PIn} (hk:bM S n=k) (hx:S.ins[k]? =some x):x.num=n:=by
 rcases fW S n with⟨j,y,hy,hn⟩|⟨_,h2⟩
 .have:=cP h.tree.rise hy;rw[hn,hk]at this;have:k=j:=by omega
  subst this;rw[hx]at hy;cases hy;exact hn
 omega
theorem MayX.pos (h:MayX S) {k:Nat} {x:PIn} (hx:S.ins[k]? =some x):1<=x.num:=by obtain⟨x0,h0,h1,-⟩:=h.head;have:=vI h.tree.rise k x0.num x.num (cC h0) (cC hx);omega
theorem MayX.kid (h:MayX S) {x:PIn} (hx:x∈S.ins) {e:PEnt} (he:e∈x.ents):∃k y,bM S e.num=(k:Nat)/\S.ins[k]? =some y/\y.num=e.num/\e.num≠0:=by
 obtain⟨h1,h2⟩:=h.tree.found x hx e he;have hk:bM S e.num=((bM S e.num).toNat:Nat):=by omega
 have hl:(bM S e.num).toNat<S.ins.length:=by omega
 have hy:=gE hl;have hn:=h.num hk hy;have:=h.pos hy;exact⟨_,_,hk,hy,hn,by omega⟩
theorem tQ (S:PSt) {d:Int} {k:Nat} {x:PIn} (hk:bM S d=k) (hx:S.ins[k]? =some x) (n:ByteArray):aW S d n=rF n x.ents:=by unfold aW;rw[hk,zA (by omega),zJ,hx]
theorem MayX.ent_hit (h:MayX S) {d:Int} {k:Nat} {x:PIn} (hk:bM S d=k) (hx:S.ins[k]? =some x) {n:ByteArray} (hh:bR x.ents n=true):∃e,x.ents[cY x.ents n]? =some e/\e.name=n/\aW S d n=e.num/\e.num≠0/\e∈x.ents:=by obtain⟨e,he,hn⟩:=pV.1 hh;have hm:=mG he;obtain⟨_,_,_,_,_,h0⟩:=h.kid (mG hx) hm;exact⟨e,he,hn,by rw[tQ S hk hx,aGH (h.asc x (mG hx)) hh he],h0,hm⟩
theorem MayX.ent_miss (h:MayX S) {d:Int} {k:Nat} {x:PIn} (hk:bM S d=k) (hx:S.ins[k]? =some x) {n:ByteArray} (hh:bR x.ents n=false):aW S d n=0:=by rw[tQ S hk hx,aOF (h.asc x (mG hx)) hh]
theorem MayX.walk (h:MayX S):∀(ns:List ByteArray) (a:Int) (k:Nat) (x:PIn) (th:List Int),bM S a=k->S.ins[k]? =some x->(aP S ns a th).2.1=(aK S k ns).2/\((aK S k ns).2=0->∃y,bM S (aP S ns a th).1=((aK S k ns).1:Nat)/\S.ins[(aK S k ns).1]? =some y/\y.num=(aP S ns a th).1)
 |[],a,k,x,th,hk,hx=>⟨rfl,λ_=>⟨x,hk,hx,h.num hk hx⟩⟩
 | n ::r,a,k,x,th,hk,hx=>by
   unfold aP aK;rw[hk,zJ,hx];simp only;by_cases hd:x.dir=true
   .rw[zB hd,zB hd];by_cases hh:bR x.ents n=true
    .obtain⟨e,he,_,hen,h0,hm⟩:=h.ent_hit hk hx hh;rw[zB hh,he,hen,zA h0];simp only;obtain⟨k2,y,hk2,hy,_,_⟩:=h.kid (mG hx) hm;have hf:(aJ S.nums e.num).toNat=k2:=by rw[bE h.tree.rise,hk2];rfl
     rw[hf];exact h.walk r e.num k2 y (th++[a]) hk2 hy
    have a0:bR x.ents n=false:=by simpa using hh
    rw[zA hh,h.ent_miss hk hx a0,zB rfl];exact⟨rfl,λe=>by cases e⟩
   rw[zA hd,zA hd];exact⟨rfl,λe=>by cases e⟩
theorem aCK {c:Int} (h:c≠0):eC c≠0:=by
 unfold eC;rw[zA h];split<;>decide
theorem MayX.walk0 (h:MayX S) (ns:List ByteArray):(aP S ns 1 []).2.1=(aK S 0 ns).2/\((aK S 0 ns).2=0->∃y,bM S (aP S ns 1 []).1=((aK S 0 ns).1:Nat)/\S.ins[(aK S 0 ns).1]? =some y/\y.num=(aP S ns 1 []).1):=by obtain⟨x0,h0,_,_⟩:=h.head;exact h.walk ns 1 0 x0 [] h.root h0
theorem MayX.find_ (h:MayX S) (p:ByteArray):match rD S p with
 |.error c=>c≠0/\∃n,eX S p=(n,c)
 |.ok K=>∃y,eX S p=(y.num,0)/\S.ins[K]? =some y/\bM S y.num=K:=by
 obtain⟨w1,w2⟩:=h.walk0 (aA p).2;unfold rD eX;rw[eW,aLJ];by_cases hp:(aA p).1=0
 .have a0:¬(aA p).1≠0:=by simpa using hp
  rw[zA a0,zA a0];by_cases hw:(aK S 0 (aA p).2).2=0
  .have a1:¬(aK S 0 (aA p).2).2≠0:=by simpa using hw
   rw[zA a1];obtain⟨y,y1,y2,y3⟩:=w2 hw;refine⟨y,?_,y2,by rw[y3];exact y1⟩;rw[w1,hw,y3]
  rw[zB hw];exact⟨hw,_,by rw[w1]⟩
 rw[zB hp,zB hp];exact⟨aCK hp,0,rfl⟩
theorem sE (s:ByteArray):∀(n fr i:Nat) (acc:List ByteArray),(∀x∈acc,x.size<=12)->∀x∈(aY s n fr i acc).2,x.size<=12
 |0,_,_,acc,h=>h
 | n + 1, fr,i,acc,h=>by
   have hs:∀z:ByteArray,bI z≠801->z.size<=12:=λz hz=>by
    unfold bI at hz;split at hz
    .exact absurd rfl hz
    omega
   unfold aY;by_cases h1:i<s.size
   .rw [dif_pos h1]
    split
    .split
     .exact λx hx=>by cases hx
     rename_i h3;split
     .exact λx hx=>by cases hx
     exact sE s n _ _ _ λx hx=>by
      rcases mem_append.1 hx with hx|hx
      .exact h x hx
      rw[mem_singleton.1 hx];exact hs _ h3
    exact sE s n _ _ _ h
   rw[dif_neg h1];split
   .exact λx hx=>by cases hx
   rename_i h3;split
   .exact λx hx=>by cases hx
   exact sE s n _ _ _ λx hx=>by
    rcases mem_append.1 hx with hx|hx
    .exact h x hx
    rw[mem_singleton.1 hx];exact hs _ h3
theorem uO (s:ByteArray):∀x∈(aA s).2,x.size<=12:=by
 rw[<-eW];unfold bU;split
 .exact λx hx=>by cases hx
 split
 .split
  .split
   .exact λx hx=>by cases hx
   split
   .exact λx hx=>by cases hx
   split
   .exact λx hx=>by cases hx
   exact sE s _ _ _ _ λx hx=>by cases hx
  exact λx hx=>by cases hx
 exact λx hx=>by cases hx
theorem MayX.par (h:MayX S) (p:ByteArray):match bW S p with
 |.error c=>c≠0/\∃D l,bL S p=(D,l,c)
 |.ok (K,l)=>∃y,bL S p=(y.num,l,0)/\S.ins[K]? =some y/\bM S y.num=K/\y.dir=true/\l.size<=12:=by
 unfold bW bL bB;rw[eW,aLJ];by_cases hp:(aA p).1=0
 .rw [zA (by simpa using hp),zA (by simpa using hp)];rcases hl:(aA p).2.getLast? with _|l
  .exact⟨by decide,_,_,rfl⟩
  simp only;obtain⟨w1,w2⟩:=h.walk0 (aA p).2.dropLast;have a0:=uO p l (mem_of_getLast? hl);by_cases hw:(aK S 0 (aA p).2.dropLast).2=0
  .obtain⟨y,y1,y2,y3⟩:=w2 hw;rw[zA (by simpa using hw),zA (by rw[w1];simpa using hw),y2,y1,zJ,y2];simp only;by_cases hd:y.dir=true
   .rw[zB hd,zB hd];exact⟨y,by rw[y3],y2,by rw[y3];exact y1,hd,a0⟩
   rw[zA hd,zA hd];exact⟨by decide,_,_,rfl⟩
  rw[zB hw,zB (by rw[w1];exact hw)];exact⟨hw,_,_,by rw[w1]⟩
 rw[zB hp,zB hp];exact⟨aCK hp,_,_,rfl⟩
end
end
end Go.Proofs.YtmkapobnfigedaaGreatDoor
