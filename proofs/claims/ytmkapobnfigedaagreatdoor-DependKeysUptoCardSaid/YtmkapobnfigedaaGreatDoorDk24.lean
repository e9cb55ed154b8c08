/- A part of a proof of a law. Conditions: none. -/
import Derived.Test.YtmkapobnfigedaaGreatDoorDk17
import Derived.Test.YtmkapobnfigedaaGreatDoorDk19
set_option linter.unusedVariables false
set_option linter.unusedSimpArgs false
set_option maxRecDepth 100000
set_option maxHeartbeats 8000000
namespace Go.Proofs.YtmkapobnfigedaaGreatDoor
open Go.Proofs.Tryz List Go.RowKit
theorem aTH {wz:World} {q r:Nat} {c0 c1 c2 a0 a1 a2 a3 a4 a5:Value}:Keep (λg=>g=q\/g=r) wz ((((((((((wz.setCell q c0).setCell ⟨q,1,none⟩ c1).setCell ⟨q,2,none⟩ c2).setCell r a0).setCell ⟨r,1,none⟩ a1).setCell ⟨r,2,none⟩ a2).setCell ⟨r,3,none⟩ a3).setCell ⟨r,4,none⟩ a4).setCell ⟨r,5,none⟩ a5).drew):=
 ((((((((((Keep.refl (λg=>g=q\/g=r) wz).setCell (p:=q) (.inl (.inl rfl)) c0).setCell (p:=⟨q,1,none⟩) (.inl (.inl rfl)) c1).setCell (p:=⟨q,2,none⟩) (.inl (.inl rfl)) c2).setCell (p:=r) (.inl (.inr rfl)) a0).setCell (p:=⟨r,1,none⟩) (.inl (.inr rfl)) a1).setCell (p:=⟨r,2,none⟩) (.inl (.inr rfl)) a2).setCell (p:=⟨r,3,none⟩) (.inl (.inr rfl)) a3).setCell (p:=⟨r,4,none⟩) (.inl (.inr rfl)) a4).setCell (p:=⟨r,5,none⟩) (.inl (.inr rfl)) a5).drew
def mkK (S:PSt) (K0:Nat) (x:PIn) (nm:ByteArray) (k:Nat) (m:Int) (dir:Bool):PSt:=
 let num:Int:=2+k+8*m
 let S2:PSt:=({ S with made:=S.made.set k (m+1)}:PSt).ents K0 x (cQ (λe=>dX nm e.name) ⟨nm,num⟩ x.ents false [])
 { S2 with ins:=cQ (λy=>decide (num<y.num)) ⟨num,dir,[],⟨#[]⟩⟩ S2.ins false []}
theorem aWC (B b:Nat) (S:PSt) (iv ov mv:Value) (kd fd off nu:Int) (path p2 dt nm:ByteArray) (D:Int) (K0:Nat) (x:PIn) (k:Nat) (m:Int) (w:World) (hb:Blk w b #[iv,ov,mv] 26) (ho:StOwn B w iv ov mv S) (hB:B<=w.heap.size) (hBb:B<=b) (hfR:FineR S) (hpar:bL S path=(D,nm,0)) (hat0:bM S D=K0) (hx:S.ins[K0]? =some x)
 (hns:nm.size<=1000000000) (hent:aW S D nm=0) (hful:decide (4<=eD (aZ nm) ⟨#[]⟩ x.ents 0)=false) (hes:∀e∈x.ents,e.name.size<=1000000000) (hm:S.made[k]? =some m) (hm0:0<=m/\m<32) (hk8:k<8):
 Calls prog 93 #[.pointer b,.agg #[kd,k,fd,off,nu,path,p2,dt]] w λe w'=>e=.returned (aQ 0 0 0)/\Below B w w'/\Spared b w w'/\∃iv' ov' mv',Blk w' b #[iv',ov',mv'] 26/\StOwn B w' iv' ov' mv' (mkK S K0 x nm k m (kd==1)):=by
 have b9:=hfR.wf;have c7:=c45 ho.read hfR hpar;have e7:=aYX ho.read b9 hent;have c8:vB w 121 #[.agg #[iv,ov,mv],.int .i64 D,.string nm,.string ⟨#[]⟩] (.bool false):=λww hb=>by have:=tU S iv ov mv D nm ⟨#[]⟩ K0 x ww (ho.read.below hb (zC _)) b9 hat0 hx hns hes;rw[hful]at this;exact this
 obtain⟨hxl,-⟩:=gI.1 hx;obtain⟨hkl,-⟩:=gI.1 hm;obtain⟨bi,cap,rfl⟩:=ho.ins_form (by omega);obtain⟨gm,capm,rfl⟩:=ho.made_form (by omega);obtain⟨oa,on,oc,rfl⟩:=ho.1.form;have c9:=hb.lt;have b3:b<w.heap.size:=hb.lt.lt;obtain⟨-,s0,s1,s2⟩:=gN hb;obtain⟨m0,fm,iGm⟩:=ho.made_at hm;have j7:(k:Int)<S.made.length:=by omega
 have g9:¬32<=m:=by omega
 have h5:decide (32<=m)=false:=yM g9;obtain⟨num,hnum⟩:∃num:Int,2+(k:Int)+8*m=num:=⟨_,rfl⟩;have wa:IntKind.i64.wrap (2+(k:Int))=2+(k:Int):=I64.wrap ⟨by omega,by omega⟩;have wb:IntKind.i64.wrap (8*m)=8*m:=I64.wrap ⟨by omega,by omega⟩;have j8:IntKind.i64.wrap (2+(k:Int)+8*m)=num:=by rw[hnum];exact I64.wrap ⟨by omega,by omega⟩
 have j9:wrap64 (2+(k:Int)+8*m)=num:=by simp only[wrap64];omega
 have k0:wrap64 (m+1)=m+1:=by simp only[wrap64];omega
 have wd:IntKind.i64.wrap (m+1)=m+1:=I64.wrap ⟨by omega,by omega⟩;have HN:=aC hnum;have HH:=jj7 hb ho b9 hx hm hat0 hm0;have HM:=bG hns hes;clear hnum;clear hb ho b9 hx hm hent hful hes hm0 hat0 hns hfR hpar;go_in;go_upto_region 1 with fail;refine qR ?_
 repeat(go_big_quiet_step ((with_reducible first|refine cI (c7 _ (bel _ _))|refine cJ (c7 _ (bel _ _)))))
 refine QN λp=>?_;go_wp2_with((go_at_call 118;with_reducible refine aE (e7 _ (bel _ _)) λp=>?_));refine qR ?_
 repeat(go_big_quiet_step ((with_reducible first|refine cI (c8 _ (bel _ _))|refine cJ (c8 _ (bel _ _)))))
 refine QN λp=>?_;go_wp2;refine qR ?_
 repeat(go_big_quiet_step (fail))
 refine QN λp=>?_;go_upto_region 9 with fail;refine aD (F:=λwa=>StOwn B wa (.slice bi S.ins.length cap) (.slice oa on oc) (.slice gm S.made.length capm) S/\Blk wa b #[.slice bi S.ins.length cap,.slice oa on oc,.slice gm S.made.length capm] 26/\Blk wa w.heap.size #[kd,k,fd,off,nu,path,p2,dt] 28/\Blk wa (w.heap.size+1) () 52/\Bl w wa) ⟨HH.out.2.1.on (bel w _),aB HH.out.1 (bel w _),aB (Blk.new w #[kd,k,fd,off,nu,path,p2,dt] 28) (bel _ _),aB (Blk.new_i (w.alloc (.cells #[kd,k,fd,off,nu,path,p2,dt] 28)) () 52 (w.heap.size+1)) (bel _ _),bel w _⟩ ?_;clear s0 s1 s2 m0 fm iGm c9;rintro wa ⟨ho,hb,hbc,hbr,hbw⟩;obtain⟨m0,fm,iGm⟩:=ho.made_at HH.out.2.2.2.2.1;have iB:=hb.lt;have iC:=hbc.lt;have s2:=hb.cell 2;have q1:=hbc.cell 1;simp at s2 q1;obtain⟨hs1,hBg,cg,hgm⟩:=(ho.on (bel wa wa.drew)).setMade (k:=k) hkl (m+1);have b4:Spared b wa (wa.drew.setCell ⟨gm,k,none⟩ (.int .i64 (m+1))):=(Spared.of_below (bel wa wa.drew)).trans (Spared.set hgm (.inr ⟨by decide,by decide,by decide⟩));have d4:Keep (λg=>g=gm) wa.drew (wa.drew.setCell ⟨gm,k,none⟩ (.int .i64 (m+1))):=Keep.setCell (S:=λg=>g=gm) (p:=⟨gm,k,none⟩) (Keep.refl _ _) (.inl rfl) _;have c4:=d4.blk (aB hb (bel wa wa.drew)) (λe=>by
  subst e;have:=(aB hb (bel wa wa.drew)).ne_ hgm (by decide);exact this rfl)
 have a7:Below B w (wa.drew.setCell ⟨gm,k,none⟩ (.int .i64 (m+1))):=(hbw.mono hB).trans ((bel wa wa.drew).mono (zD hB hbw.size) |>.trans (d4.below (zD hB (zD hbw.size (bel wa wa.drew).size)) (λi hi e=>by omega)));obtain⟨w4,hw4⟩:∃w4,wa.drew.setCell ⟨gm,k,none⟩ (.int .i64 (m+1))=w4:=⟨_,rfl⟩;rw[hw4]at hs1 b4 c4 a7;have a4:=b4 _ _ _ hbr (by omega) (.inr (.inr rfl));have a3:=b4 _ _ _ hbc (by omega) (.inr (.inl rfl));have b5:=(Spared.of_below (b:=b) hbw).trans b4;have h6:=c4.lt;have h7:=a3.lt;have h8:=a4.lt;have e8:=a3.cell 0;have e9:=a3.cell 1;simp at e8 e9;have d5:=bG a3 a4;have H4:=nV hs1 c4 a4 a7 b5;have f0:=aC hw4;clear hs1 b4 c4 a7 a4 a3 b5 d4 ho hb hbc hbr hbw hgm;refine aH [10] true (λw'=>w'.cell? ⟨b,2,none⟩=some (.slice gm S.made.length capm)/\w'.cell? ⟨w.heap.size,1,none⟩=some (.int .i64 k)/\w'.cell? ⟨gm,k,none⟩=some (.int .i64 m)) (by kernel_rfl) (by kernel_rfl) ?_ ?_
 · (try dsimp only);(repeat' apply And.intro)<;>go_simp
 repeat
  apply aI0 rfl rfl
  focus
   rintro w' ⟨s0,s1,s2⟩;go_simp
   first|done|rfl
  simp only[Act.put,sA,sZ,sS]
 refine aV rfl rfl ?_;refine⟨w4,?_,.inr ⟨rfl,rfl⟩,?_⟩
 focus
  go_simp
  first|done|exact f0.out|rfl
 simp only[Act.put,sA,sZ,sS];refine aS ?_;clear s2 q1 iB iC m0 fm iGm hw4;have b6:I64 (m+1):=by have:=HH.out.2.2.2.2.2.2;exact⟨by omega,by omega⟩
 obtain⟨S2,hS2⟩:∃S2:PSt,(({ S with made:=S.made.set k (m+1)}:PSt).ents K0 x (cQ (λe=>dX nm e.name) ⟨nm,num⟩ x.ents false []))=S2:=⟨_,rfl⟩;have c5:S2.ins.length=S.ins.length:=by rw[<-hS2];simp[PSt.ents]
 have f6:∀ww,Bl w4 ww->Calls prog 122 #[.pointer b,D,nm,num] ww λe w'=>e=.returned (.tuple #[])/\(StOwn B w' (.slice bi S.ins.length cap) (.slice oa on oc) (.slice gm S.made.length capm) S2/\Blk w' b #[.slice bi S.ins.length cap,.slice oa on oc,.slice gm S.made.length capm] 26/\Below B w w'/\Spared b w4 w'):=λww hb=>by obtain⟨o1,o2,o3,o4,o5⟩:=H4.out;have h9:B<=ww.heap.size:=zD hB (zD o4.size hb.size);have a8:=aB o2 hb;refine(aLS B b { S with made:=S.made.set k (m+1)} _ _ _ D num nm K0 x ww a8 (o1.on hb) h9 (PSt.wf_made HH.out.2.2.1 k b6) HM.out.1 HH.out.2.2.2.2.2.1 HH.out.2.2.2.1).mono ?_;rintro e w' ⟨rfl,hb5,hk5,a6⟩;rw[hS2]at a6;exact⟨rfl,a6,hk5.blk a8 (eR a8 (by decide) (by decide)),(o4.trans (hb.mono (zD hB o4.size))).trans hb5,(Spared.of_below hb).trans (Spared.of_in hk5)⟩
 have i0:=aC hS2;clear hS2;go_wp2_with(go_at_call 122;(with_reducible refine(f6 _ (bel w4 _)).mono ?_);rintro e w5 ⟨rfl,a6,hb5,hbb5,hp5⟩;have d6:=hp5 _ _ _ d5.out.1 (by omega) (.inr (.inl rfl));have i1:=d6.lt;have i3:w5.cell? w.heap.size=some (.int .i64 kd):=d6.cell 0;have f7:=hp5 _ _ _ d5.out.2 (by omega) (.inr (.inr rfl));have a9:=nV a6 hb5 f7 hbb5 (H4.out.2.2.2.2.trans hp5);clear a6 hb5 hbb5 hp5 d6 f7);refine aD (F:=λW=>StOwn B W (.slice bi S.ins.length cap) (.slice oa on oc) (.slice gm S.made.length capm) S2/\Blk W b #[.slice bi S.ins.length cap,.slice oa on oc,.slice gm S.made.length capm] 26/\Blk W (w.heap.size+1) () 52/\Blk W w5.heap.size #[num,.bool (kd==1),.slice none 0 0,.string ⟨#[]⟩] 68/\Below B w W/\Spared b w W) ⟨a9.out.1.on (bel w5 _),aB a9.out.2.1 (bel w5 _),aB a9.out.2.2.1 (bel w5 _),Blk.new_i _ _ _ _,a9.out.2.2.2.1.trans ((bel w5 _).mono (zD hB a9.out.2.2.2.1.size)),a9.out.2.2.2.2.trans (Spared.of_below (bel w5 _))⟩ ?_;clear a9 i1 i3 H4 d5 f0 h6 h7 h8 e8 e9 f6 c7 e7 c8;obtain⟨g5,hg5⟩:∃g5,w5.heap.size=g5:=⟨_,rfl⟩;rw[hg5];clear hg5;rintro W ⟨ho,a8,hrs,hnb,hBW,hSP⟩;have b0:B<=W.heap.size:=zD hB hBW.size;obtain⟨u1,u2,is,u3,u4,u5,u6⟩:=ho;rw[c5]at u4;obtain⟨a,capx,e1,hai⟩:=u3.row.at_;rw[lM,u4]at e1;cases e1;have f8:∀w2,Below W.heap.size W w2->BlockLt b w2/\w2.cell? b=some (.slice bi S.ins.length cap)/\w2.frozen? b=false/\BlockLt g5 w2/\w2.cell? ⟨g5,0,none⟩=some (.int .i64 num)/\w2.cell? ⟨g5,1,none⟩=some (.bool (kd==1))/\w2.cell? ⟨g5,2,none⟩=some (.slice none 0 0)/\w2.cell? ⟨g5,3,none⟩=some (.string ⟨#[]⟩):=by intro w2 h2;have h3:=aB a8 h2;have h4:=aB hnb h2;exact⟨h3.lt,h3.cell 0,h3.frozen 0,h4.lt,h4.cell 0,h4.cell 1,h4.cell 2,h4.cell 3⟩
 have a5:∀(q:Nat) (r:IRec),is[q]? =some r->∃a n c,r.ev=.slice a n c:=by intro q r hr;obtain⟨hl,_⟩:=gI.1 hr;exact(u5 q r _ hr (gE (by omega))).2.2.2.form
 obtain⟨nr,hnr⟩:∃nr:IRec,(⟨num,kd==1,.slice none 0 0,⟨#[]⟩,rfl⟩:IRec)=nr:=⟨_,rfl⟩;have d7:nr.cells=[.int .i64 num,.bool (kd==1),.slice none 0 0,.string ⟨#[]⟩]:=by rw[<-hnr];rfl
 obtain⟨R,hR⟩:∃R,cQ (λr:IRec=>decide (num<r.num)) nr is false []=R:=⟨_,rfl⟩;have b7:∀(w1:World) (v:Value),OwnP W.heap.size w1 68 4 v (R.map IRec.cells)->Below W.heap.size W w1->Blk (w1.setCell b v) b #[v,.slice oa on oc,.slice gm S.made.length capm] 26/\StOwn B (w1.setCell b v) v (.slice oa on oc) (.slice gm S.made.length capm) (mkK S K0 x nm k m (kd==1))/\Blk (w1.setCell b v) (w.heap.size+1) #[.int .i64 0,.int .i64 0,.int .i64 0,.bool false,.string ⟨#[]⟩,.slice none 0 0] 52/\Below B w (w1.setCell b v)/\Spared b w (w1.setCell b v):=by
  intro w1 v h1 h2;have d8:=aB a8 h2;have i4:=aB hrs h2;have d9:Keep (λg=>g=b) w1 (w1.setCell b v):=Keep.setCell (S:=λg=>g=b) (p:=b) (Keep.refl _ _) (.inl rfl) _;have i5:R=aX is (is.findIdx λr=>decide (num<r.num)) nr:=by rw[<-hR,qB]
  have i6:OwnP B w1 68 4 v ((is.map IRec.cells).take (is.findIdx λr=>decide (num<r.num))++[.int .i64 num,.bool (kd==1),.slice none 0 0,.string ⟨#[]⟩]::(is.map IRec.cells).drop (is.findIdx λr=>decide (num<r.num))):=by have:=h1.mono b0;rw[i5,pY,d7]at this;exact this
  have a6:=aKL (S:=S2) is u1 u2 (by omega) u5 u6 (Keep.of_below h2 (λ_=>False)) (λ_ h=>h.elim) (is.findIdx λr=>decide (num<r.num)) (by rw[c5,<-u4];exact findIdx_le_length) num (kd==1) i6;have e0:(is.findIdx λr=>decide (num<r.num))=S2.ins.findIdx λy=>decide (num<y.num):=by
   have e:is.map IRec.num=S2.ins.map PIn.num:=by
    apply ext_getElem?;intro q;rw[gM,gM];by_cases hq:q<is.length
    .have f9:q<S2.ins.length:=by omega
     have:=(u5 q is[q] S2.ins[q] (gE hq) (gE f9)).1;rw[gE hq,gE f9];simp[this]
    rw[getElem?_eq_none (by omega),getElem?_eq_none (by omega)];rfl
   have e1:(is.findIdx λr=>decide (num<r.num))=(is.map IRec.num).findIdx λn=>decide (num<n):=by rw[findIdx_map];rfl
   have e2:(S2.ins.findIdx λy=>decide (num<y.num))=(S2.ins.map PIn.num).findIdx λn=>decide (num<n):=by rw[findIdx_map];rfl
   rw[e1,e2,e]
  have i7:({ S2 with ins:=aX S2.ins (is.findIdx λr=>decide (num<r.num)) ⟨num,kd==1,[],⟨#[]⟩⟩}:PSt)=mkK S K0 x nm k m (kd==1):=by unfold mkK;simp only;rw[HN.out,i0.out,qB,e0]
  rw[i7]at a6;refine⟨d8.set_ 0 v,a6.keep d9 (λg hg=>by rw[hg];exact⟨_,26,d8,by decide,by decide,by decide,by decide⟩),d9.blk i4 (by omega),?_,?_⟩
  .exact(hBW.trans (h2.mono b0)).trans (d9.below (zD b0 h2.size) (λi hi e=>by omega))
  exact(hSP.trans (Spared.of_below h2)).trans (Spared.set d8 (.inl rfl))
 have e3:=aC f8;have i8:=aC a5;have g6:=aC d7;have HR:=aC hR;have b8:=aC b7;have HA:=aC hai;have HU:=eK u4 c5 hnr;have i9:S.ins.length<=1000000000:=HH.out.2.2.1.1;clear f8 a5 d7 hR b7 hai u1 u2 u3 u4 u5 u6 a8 hrs hnb c5 hnr
 go_loopw[10,11,12] (λv10 v11 i wr=>∃(q:Nat) (d:Bool) (zs:List IRec),i=.int .i64 q/\v11=.bool d/\q<=S.ins.length/\zs.length<=2*q/\OwnP W.heap.size wr 68 4 v10 (zs.map IRec.cells)/\cQ (λr:IRec=>decide (num<r.num)) nr (is.drop q) d zs=R/\Below W.heap.size W wr) (λ_ _ i _=>(S.ins.length-intOf i).toNat)
 case atStart=>exact⟨0,false,[],rfl,rfl,by omega,by simp,.inl ⟨rfl,rfl⟩,HR.out,Below.refl _ _⟩
 obtain⟨q,d,zs,rfl,rfl,hq,hzl,hO,hre,hbw⟩:=hrel;have iB:Bel W wr:=⟨hbw⟩;obtain⟨iL,t0,tf,iG5,n0,n1,n2,n3⟩:=e3.out wr hbw;obtain⟨va,vn,vc,rfl⟩:=hO.form;have HO:=aC hO;clear hO;by_cases hlt:q<S.ins.length
 .have e4:q<is.length:=by have:=HU.out.1;omega
  obtain⟨r,hr⟩:∃r,is[q]? =some r:=⟨_,gE e4⟩;rw[qA _ _ _ q r d zs hr]at hre;obtain⟨ra,rn2,rc,hrev⟩:=i8.out q r hr;obtain⟨be,oe,he,iE0,iE,hce⟩:=HA.out wr hbw q r.cells (by rw[gM,hr];rfl);cases he;have c6:∀w2,Below W.heap.size W w2->BlockLt bi w2/\w2.cell? ⟨bi,q*4,none⟩=some (.int .i64 r.num)/\w2.cell? ⟨bi,q*4+1,none⟩=some (.bool r.dir)/\w2.cell? ⟨bi,q*4+2,none⟩=some r.ev/\w2.cell? ⟨bi,q*4+3,none⟩=some (.string r.data):=by intro w2 h2;obtain⟨be',oe',he,_,i2,hc⟩:=HA.out w2 h2 q r.cells (by rw[gM,hr];rfl);cases he;have h0:=hc 0 _ rfl;have h1:=hc 1 _ rfl;have h2:=hc 2 _ rfl;have h3:=hc 3 _ rfl;simp only[zM,zN]at h0 h1 h2 h3;exact⟨i2,h0,h1,h2,h3⟩
  have e5:(q:Int)<S.ins.length:=by omega
  clear hce hr;obtain⟨rn,rd,re,rs,ro⟩:=r;simp only at hrev;subst hrev;simp only at c6 hre;obtain⟨-,c0,c1,c2,c3⟩:=c6 wr hbw;have j0:=aC c6;clear c6;rcases d with _|_
  .rw[zA (by decide)]at hre;by_cases hA:num<rn
   .rw[zB (decide_eq_true hA)]at hre;have b1:=aC hre;clear hre;go_wp2_with(at_builtin;refine uP rfl (.tmp 112) (.tmp 114) rfl W.heap.size _ (.slice wr.heap.size 1 1) zs [nr] rfl (by go_simp) (HO.out.below (bel wr _)) (by rw[xB,g6.out];exact RowAt.single (Blk.new_i _ _ _ _) 4 1) (by simp;omega) (bel W _).size ?_)
    intro v' w' hg;have a1:=hg.on (HO.out.below (bel wr _)) (bel W _).size;have a0:=(bel W _).trans a1;have a2:OwnP W.heap.size w' 68 4 v' ((zs++[nr]).map IRec.cells):=by have:=hg.1;simpa using this
    have i2:Bel W w':=⟨a0⟩;obtain⟨iE2,d0,d1,d2,d3⟩:=j0.out w' a0;obtain⟨iL2,y0,yf,iG6,m0,m1,m2,m3⟩:=e3.out w' a0;have H2:=aC a2;clear hg a1 a2 a0 c0 c1 c2 c3 iE iL t0 tf iG5 n0 n1 n2 n3;go_wp2_with(at_builtin;refine uP rfl (.tmp 116) (.tmp 124) rfl W.heap.size _ _ (zs++[nr]) [(⟨rn,rd,.slice ra rn2 rc,rs,ro⟩:IRec)] rfl (by go_simp) (H2.out.below (bel w' _)) (RowAt.single (Blk.new_i _ _ _ _) 4 1) (by simp;omega) (bel W _).size ?_);intro v2 w2 hg;have a1:=hg.on (H2.out.below (bel w' _)) (bel W _).size;have g7:=(bel W _).trans a1;have g8:OwnP W.heap.size w2 68 4 v2 ((zs++[nr]++[(⟨rn,rd,.slice ra rn2 rc,rs,ro⟩:IRec)]).map IRec.cells):=by have:=hg.1;simpa using this
    have H3:=bG g8 g7;clear hg a1 g8 g7;go_wp2;go_roundw
    case rel=>exact⟨q+1,true,_,by go_num,rfl,by omega,by simp;omega,H3.out.1,b1.out,H3.out.2⟩
    simp[intOf];omega
   rw[zA (by rw[yM hA];decide)]at hre;have b1:=aC hre;clear hre;go_wp2_with(at_builtin;refine uP rfl (.tmp 116) (.tmp 124) rfl W.heap.size _ _ zs [(⟨rn,rd,.slice ra rn2 rc,rs,ro⟩:IRec)] rfl (by go_simp) (HO.out.below (bel wr _)) (RowAt.single (Blk.new_i _ _ _ _) 4 1) (by simp;omega) (bel W _).size ?_);intro v' w' hg;have a1:=hg.on (HO.out.below (bel wr _)) (bel W _).size;have a0:=(bel W _).trans a1;have a2:OwnP W.heap.size w' 68 4 v' ((zs++[(⟨rn,rd,.slice ra rn2 rc,rs,ro⟩:IRec)]).map IRec.cells):=by have:=hg.1;simpa using this
   have H2:=bG a2 a0;clear hg a1 a2 a0;go_wp2;go_roundw
   case rel=>exact⟨q+1,false,_,by go_num,rfl,by omega,by simp;omega,H2.out.1,b1.out,H2.out.2⟩
   simp[intOf];omega
  rw[zB rfl]at hre;have b1:=aC hre;clear hre;go_wp2_with(at_builtin;refine uP rfl (.tmp 116) (.tmp 124) rfl W.heap.size _ _ zs [(⟨rn,rd,.slice ra rn2 rc,rs,ro⟩:IRec)] rfl (by go_simp) (HO.out.below (bel wr _)) (RowAt.single (Blk.new_i _ _ _ _) 4 1) (by simp;omega) (bel W _).size ?_);intro v' w' hg;have a1:=hg.on (HO.out.below (bel wr _)) (bel W _).size;have a0:=(bel W _).trans a1;have a2:OwnP W.heap.size w' 68 4 v' ((zs++[(⟨rn,rd,.slice ra rn2 rc,rs,ro⟩:IRec)]).map IRec.cells):=by have:=hg.1;simpa using this
  have H2:=bG a2 a0;clear hg a1 a2 a0;go_wp2;go_roundw
  case rel=>exact⟨q+1,true,_,by go_num,rfl,by omega,by simp;omega,H2.out.1,b1.out,H2.out.2⟩
  simp[intOf];omega
 rw[xN _ _ _ q d zs (by have:=HU.out.1;omega)]at hre;have e5:¬(q:Int)<S.ins.length:=by omega
 rcases d with _|_
 .rw[zA (by decide)]at hre;have b1:=aC hre;clear hre;go_wp2_with(at_builtin;refine uP rfl (.tmp 128) (.tmp 130) rfl W.heap.size _ (.slice wr.heap.size 1 1) zs [nr] rfl (by go_simp) (HO.out.below (bel wr _)) (by rw[xB,g6.out];exact RowAt.single (Blk.new_i _ _ _ _) 4 1) (by simp;omega) (bel W _).size ?_)
  intro v' w' hg;have a1:=hg.on (HO.out.below (bel wr _)) (bel W _).size;have a0:=(bel W _).trans a1;have a2:OwnP W.heap.size w' 68 4 v' ((zs++[nr]).map IRec.cells):=by have:=hg.1;simpa using this
  rw[b1.out]at a2;have i2:Bel W w':=⟨a0⟩;obtain⟨iL2,y0,yf,iG6,m0,m1,m2,m3⟩:=e3.out w' a0;have hf:=b8.out w' v' a2 a0;obtain⟨wa,wn,wc,rfl⟩:=a2.form;have HF:=aC hf;clear hg a1 a2 a0 hf t0 tf iL iG5 n0 n1 n2 n3 m0 m1 m2 m3 iG6;go_upto_region 24 with fail;refine aD (F:=λwz=>Blk wz b #[.slice wa wn wc,.slice oa on oc,.slice gm S.made.length capm] 26/\StOwn B wz (.slice wa wn wc) (.slice oa on oc) (.slice gm S.made.length capm) (mkK S K0 x nm k m (kd==1))/\Blk wz (w.heap.size+1) () 52/\Below B w wz/\Spared b w wz) HF.out ?_;rintro wz ⟨f1,f2,f3,f4,f5⟩;have l3:=f3.lt;have g0:=f3.cell 0;have g1:=f3.cell 1;have g2:=f3.cell 2;have g3:=f3.cell 3;have g4:=f3.cell 4;have e6:=f3.cell 5;have j1:=f3.frozen 0;have j2:=f3.frozen 1;have j3:=f3.frozen 2;have j4:=f3.frozen 3;have j5:=f3.frozen 4;have j6:=f3.frozen 5;simp at g0 g1 g2 g3 g4 e6;have HZ:=nV f1 f2 f3 f4 f5;have b2:∀ww,vR ww 92 #[.int .i64 0] (.agg ()):=λww=>aJN 0 ww;clear f1 f2 f3 f4 f5;go_wp2_with((go_at_call 92;with_reducible refine aE (b2 _) λp=>?_));exact xD (v:=aQ 0 0 0) (by unfold results;simp only[results93,aQ];go_simp) rfl ⟨rfl,mY (r:=w.heap.size+1) lK (by omega) b3 hB HZ.out.2.2.1 HZ.out.1 HZ.out.2.1 HZ.out.2.2.2.1 HZ.out.2.2.2.2⟩
 rw[zB rfl]at hre;subst hre;have hf:=b8.out wr _ HO.out hbw;have HF:=aC hf;clear hf n0 n1 n2 n3 iG5;go_upto_region 24 with fail;refine aD (F:=λwz=>Blk wz b #[.slice va vn vc,.slice oa on oc,.slice gm S.made.length capm] 26/\StOwn B wz (.slice va vn vc) (.slice oa on oc) (.slice gm S.made.length capm) (mkK S K0 x nm k m (kd==1))/\Blk wz (w.heap.size+1) () 52/\Below B w wz/\Spared b w wz) HF.out ?_;rintro wz ⟨f1,f2,f3,f4,f5⟩;have l3:=f3.lt;have g0:=f3.cell 0;have g1:=f3.cell 1;have g2:=f3.cell 2;have g3:=f3.cell 3;have g4:=f3.cell 4;have e6:=f3.cell 5;have j1:=f3.frozen 0;have j2:=f3.frozen 1;have j3:=f3.frozen 2;have j4:=f3.frozen 3;have j5:=f3.frozen 4;have j6:=f3.frozen 5;simp at g0 g1 g2 g3 g4 e6;have HZ:=nV f1 f2 f3 f4 f5;have b2:∀ww,vR ww 92 #[.int .i64 0] (.agg ()):=λww=>aJN 0 ww;clear f1 f2 f3 f4 f5;go_wp2_with((go_at_call 92;with_reducible refine aE (b2 _) λp=>?_));exact xD (v:=aQ 0 0 0) (by unfold results;simp only[results93,aQ];go_simp) rfl ⟨rfl,mY (r:=w.heap.size+1) lK (by omega) b3 hB HZ.out.2.2.1 HZ.out.1 HZ.out.2.1 HZ.out.2.2.2.1 HZ.out.2.2.2.2⟩
theorem bD (k:Int) (ww:World):vR ww 92 #[.int .i64 k] (.agg #[k,.int .i64 0,.int .i64 0,false,.string ⟨#[]⟩,.slice none 0 0]):=aJN k ww
theorem aTM (b:Nat) (S:PSt) (iv ov mv:Value) (kd k fd off nu:Int) (path p2 dt:ByteArray) (w:World) (hb:Blk w b #[iv,ov,mv] 26) (ho:StRead w iv ov mv S) (hfR:FineR S) (D:Int) (nm:ByteArray) (C:Int) (hpar:bL S path=(D,nm,C)) (hC:C≠0):
 vR w 93 #[.pointer b,.agg #[kd,k,fd,off,nu,path,p2,dt]] (aQ C 0 0):=by
 have a0:=c45 ho hfR hpar;have a1:=λww=>bD C ww;obtain⟨ai,ni,ci,ao,no,co,am,nm',cm,rfl,rfl,rfl⟩:=ho.slices;obtain⟨iL,s0,s1,s2⟩:=gN hb;have a2:(C !=0)=true:=by simpa using hC
 clear ho hb hfR hpar;unfold vR;go_in;go_upto_region 1 with fail;refine qR ?_
 repeat(go_big_quiet_step ((with_reducible first|refine cI (a0 _ (bel _ _))|refine cJ (a0 _ (bel _ _)))))
 refine QN λp=>?_;go_wp2_with(first|(go_at_call 92;with_reducible refine aE (a1 _) λp=>?_));exact xD (v:=aQ C 0 0) (by unfold results;simp only[results93,aQ];go_simp) rfl ⟨rfl,bel w _⟩
theorem aTN (b:Nat) (S:PSt) (iv ov mv:Value) (kd k fd off nu:Int) (path p2 dt:ByteArray) (w:World) (hb:Blk w b #[iv,ov,mv] 26) (ho:StRead w iv ov mv S) (hfR:FineR S) (D:Int) (nm:ByteArray) (C:Int) (hpar:bL S path=(D,nm,C)) (hC:C=0) (hE:aW S D nm≠0):
 vR w 93 #[.pointer b,.agg #[kd,k,fd,off,nu,path,p2,dt]] (aQ 2 0 0):=by
 have a0:=c45 ho hfR hpar;have a2:=λww=>bD 2 ww;have a1:vB w 118 #[.agg #[iv,ov,mv],.int .i64 D,.string nm] (.int .i64 (aW S D nm)):=λww hb=>hY S iv ov mv D nm ww (ho.below hb (zC _)) hfR.wf;obtain⟨ai,ni,ci,ao,no,co,am,nm',cm,rfl,rfl,rfl⟩:=ho.slices;obtain⟨iL,s0,s1,s2⟩:=gN hb;subst hC;generalize aW S D nm=E at a1 hE;have a3:(E !=0)=true:=by simpa using hE
 clear ho hb hfR hpar;unfold vR;go_in;go_upto_region 1 with fail;refine qR ?_
 repeat(go_big_quiet_step ((with_reducible first|refine cI (a0 _ (bel _ _))|refine cJ (a0 _ (bel _ _)))))
 refine QN λp=>?_;go_wp2_with(first|(go_at_call 118;with_reducible refine aE (a1 _ (bel _ _)) λp=>?_)|(go_at_call 92;with_reducible refine aE (a2 _) λp=>?_));exact xD (v:=aQ 2 0 0) (by unfold results;simp only[results93,aQ];go_simp) rfl ⟨rfl,bel w _⟩
theorem aTO (b:Nat) (S:PSt) (iv ov mv:Value) (kd k fd off nu:Int) (path p2 dt:ByteArray) (w:World) (hb:Blk w b #[iv,ov,mv] 26) (ho:StRead w iv ov mv S) (hfR:FineR S) (D:Int) (nm:ByteArray) (C:Int) (hpar:bL S path=(D,nm,C)) (hC:C=0) (hE:aW S D nm=0) (K0:Nat) (x:PIn) (hat0:bM S D=K0) (hx:S.ins[K0]? =some x) (hns:nm.size<=1000000000) (hes:∀e∈x.ents,e.name.size<=1000000000) (hF:decide (4<=eD (aZ nm) ⟨#[]⟩ x.ents 0)=true):
 vR w 93 #[.pointer b,.agg #[kd,k,fd,off,nu,path,p2,dt]] (aQ 5 0 0):=by
 have a1:=c45 ho hfR hpar;have a3:=λww=>bD 5 ww;have a2:vB w 118 #[.agg #[iv,ov,mv],.int .i64 D,.string nm] (.int .i64 (aW S D nm)):=λww hb=>hY S iv ov mv D nm ww (ho.below hb (zC _)) hfR.wf;have a0:vB w 121 #[.agg #[iv,ov,mv],.int .i64 D,.string nm,.string ⟨#[]⟩] (.bool (decide (4<=eD (aZ nm) ⟨#[]⟩ x.ents 0))):=λww hb=>tU S iv ov mv D nm ⟨#[]⟩ K0 x ww (ho.below hb (zC _)) hfR.wf hat0 hx hns hes;obtain⟨ai,ni,ci,ao,no,co,am,nm',cm,rfl,rfl,rfl⟩:=ho.slices;obtain⟨iL,s0,s1,s2⟩:=gN hb;subst hC;rw[hE]at a2;rw[hF]at a0;clear ho hb hfR hpar hx hes hat0 hF;unfold vR;go_in;go_upto_region 1 with fail;refine qR ?_
 repeat(go_big_quiet_step ((with_reducible first|refine cI (a1 _ (bel _ _))|refine cJ (a1 _ (bel _ _)))))
 refine QN λp=>?_;go_wp2_with(first|(go_at_call 118;with_reducible refine aE (a2 _ (bel _ _)) λp=>?_));refine qR ?_
 repeat(go_big_quiet_step ((with_reducible first|refine cI (a0 _ (bel _ _))|refine cJ (a0 _ (bel _ _)))))
 refine QN λp=>?_;go_wp2_with(first|(go_at_call 92;with_reducible refine aE (a3 _) λp=>?_));exact xD (v:=aQ 5 0 0) (by unfold results;simp only[results93,aQ];go_simp) rfl ⟨rfl,bel w _⟩
theorem aTP (b:Nat) (S:PSt) (iv ov mv:Value) (kd k fd off nu:Int) (path p2 dt:ByteArray) (w:World) (hb:Blk w b #[iv,ov,mv] 26) (ho:StRead w iv ov mv S) (hfR:FineR S) (D:Int) (nm:ByteArray) (C:Int) (hpar:bL S path=(D,nm,C)) (hC:C=0) (hE:aW S D nm=0) (K0:Nat) (x:PIn) (hat0:bM S D=K0) (hx:S.ins[K0]? =some x) (hns:nm.size<=1000000000) (hes:∀e∈x.ents,e.name.size<=1000000000) (hF:decide (4<=eD (aZ nm) ⟨#[]⟩ x.ents 0)=false) (k0:Nat) (hk:k=k0) (m:Int) (hm:S.made[k0]? =some m) (hm32:32<=m):
 vR w 93 #[.pointer b,.agg #[kd,k,fd,off,nu,path,p2,dt]] (aQ 5 0 0):=by
 have a1:=c45 ho hfR hpar;have a3:=λww=>bD 5 ww;have a2:vB w 118 #[.agg #[iv,ov,mv],.int .i64 D,.string nm] (.int .i64 (aW S D nm)):=λww hb=>hY S iv ov mv D nm ww (ho.below hb (zC _)) hfR.wf;have a0:vB w 121 #[.agg #[iv,ov,mv],.int .i64 D,.string nm,.string ⟨#[]⟩] (.bool (decide (4<=eD (aZ nm) ⟨#[]⟩ x.ents 0))):=λww hb=>tU S iv ov mv D nm ⟨#[]⟩ K0 x ww (ho.below hb (zC _)) hfR.wf hat0 hx hns hes;obtain⟨am,cm,rfl,hatm⟩:=ho.2.1.at_;obtain⟨bm,om,rfl,iM0,iM,hcm⟩:=hatm w (Below.refl _ _) k0 (aL m) (by rw[gM,hm];rfl);have m0:=hcm 0 _ rfl;rw[Nat.mul_one,zN]at m0;have a5:k0<S.made.length:=(gI.1 hm).1;have a6:(k0:Int)<S.made.length:=by omega
 subst hk;have a4:decide (32<=m)=true:=decide_eq_true hm32;obtain⟨ai,ni,ci,ao,no,co,e1,e2,e3⟩:∃ai ni ci ao no co,iv=.slice ai ni ci/\ov=.slice ao no co/\True:=by obtain⟨ai,ni,ci,ao,no,co,am,nm',cm,rfl,rfl,-⟩:=ho.slices;exact⟨_,_,_,_,_,_,rfl,rfl,trivial⟩
 subst e1 e2;rw[lM]at *;obtain⟨iL,s0,s1,s2⟩:=gN hb;subst hC;rw[hE]at a2;rw[hF]at a0;clear ho hb hfR hpar hx hes hat0 hF hatm hcm hm e3;unfold vR;go_in;go_upto_region 1 with fail;refine qR ?_
 repeat(go_big_quiet_step ((with_reducible first|refine cI (a1 _ (bel _ _))|refine cJ (a1 _ (bel _ _)))))
 refine QN λp=>?_;go_wp2_with(first|(go_at_call 118;with_reducible refine aE (a2 _ (bel _ _)) λp=>?_));refine qR ?_
 repeat(go_big_quiet_step ((with_reducible first|refine cI (a0 _ (bel _ _))|refine cJ (a0 _ (bel _ _)))))
 refine QN λp=>?_;go_wp2_with(first|(go_at_call 92;with_reducible refine aE (a3 _) λp=>?_));exact xD (v:=aQ 5 0 0) (by unfold results;simp only[results93,aQ];go_simp) rfl ⟨rfl,bel w _⟩
end Go.Proofs.YtmkapobnfigedaaGreatDoor
namespace Go
section
variable {P:Program} {l:List Oper} {Q:Exit->Act->World->Prop}
theorem jN {id:Nat} (R:(Nat->Prop)->(Nat->Value)->World->Prop) {a0:Act} {w:World} (h0:∀σ,R (λj=>l.length<=j) σ w.drew)
 (hstep:EachOp (λi o=>∀(D:Nat->Prop) (σ:Nat->Value) (w:World) (a:Act),OB l a0 i o R D σ w a->o.eff P a w λv w'=>R (λj=>j=i\/D j) (iU σ i v) w') 0 l)
 (hend:∀σ w,R (λ_=>True) σ w->Q .normal (dJ σ 0 l a0) w) (hm:P.follows .mixedOrders=true:=by kernel_rfl) (hB:(Region.invB l&&l.all λo=>o.guard==none)=true:=by kernel_rfl) (hsz:((eL l).all λd=>decide (d<a0.tmps.size))=true:=by kernel_rfl):(Code.region id l.toArray true).wp P Q a0 w:=by
 simp only[zE,yY,beq_iff_eq]at hB;refine lF R h0 (EachOp.imp (λj o ho hp D σ w a h _=>?_) hstep) hend hm hB.1 hsz;have hw:Region.wanted o (yielded l.toArray a.tmps)=true:=by unfold Region.wanted;rw[hB.2 o (mG ho)]
 exact⟨λ_=>Oper.wpW (hp D σ w a h),λe=>by rw[hw]at e;cases e⟩
end
end Go
namespace Go.Proofs.YtmkapobnfigedaaGreatDoor
open Go.Proofs.Tryz List Go.RowKit
section
structure RA (N:Nat) (V:Nat->Value) (A T:Nat) (z y:Array Value) (t:TypeId) (w0:World) (D:Nat->Prop) (σ:Nat->Value) (w:World):Prop where
 vals:∀i,i<N->i≠A->i≠T->D i->σ i=V i
 al:D A->∃b,σ A=.pointer (some ⟨b,0,none⟩)/\w0.heap.size<=b/\(Blk w b z t\/Blk w b y t)/\(D T->Blk w b y t)
 sd:D T->D A
 below:Bl w0 w
section
variable {N A T:Nat} {V:Nat->Value} {z y:Array Value} {t:TypeId} {w0 w w':World} {D:Nat->Prop} {σ:Nat->Value}
theorem RA.zero (hA:A<N) (hT:T<N) (hb:Bl w0 w):RA N V A T z y t w0 (λj=>N<=j) σ w:=
 ⟨λi hi _ _ h=>absurd h (by omega),λh=>absurd h (by omega),λh=>absurd h (by omega),hb⟩
theorem RA.on (h:RA N V A T z y t w0 D σ w) (hb:Bl w w'):RA N V A T z y t w0 D σ w':=
 ⟨h.vals,λhd=>by
  obtain⟨b,e,hl,hc,hs⟩:=h.al hd;exact⟨b,e,hl,hc.imp (λx=>aB x hb) (λx=>aB x hb),λh=>aB (hs h) hb⟩,h.sd,h.below.trans (hb.mono h.below.size)⟩
theorem RA.val (h:RA N V A T z y t w0 D σ w) (i:Nat) (hA:A≠i) (hT:T≠i):RA N V A T z y t w0 (λj=>j=i\/D j) (iU σ i (V i)) w:=
 ⟨λk hk h1 h2 hd=>by
  by_cases e:k=i
  .subst e;exact zB rfl
  .exact(zA e).trans (h.vals k hk h1 h2 (hd.resolve_left e)),
  λhd=>by
   obtain⟨b,e,hl,hc,hs⟩:=h.al (hd.resolve_left hA);exact⟨b,(zA hA).trans e,hl,hc,λh=>hs (h.resolve_left hT)⟩,
  λhd=>.inr (h.sd (hd.resolve_left hT)),h.below⟩
theorem RA.alloc (h:RA N V A T z y t w0 D σ w) (hAT:T≠A) (hn:¬D A):RA N V A T z y t w0 (λj=>j=A\/D j) (iU σ A (.pointer w.heap.size)) (w.alloc (.cells z t)):=
 ⟨λk hk h1 h2 hd=>(zA h1).trans (h.vals k hk h1 h2 (hd.resolve_left h1)),
  λ_=>⟨w.heap.size,zB rfl,h.below.size,.inl (Blk.new w z t),λhd=>absurd (h.sd (hd.resolve_left hAT)) hn⟩,
  λ_=>.inl rfl,h.below.trans ((bel w _).mono h.below.size)⟩
theorem RA.store (h:RA N V A T z y t w0 D σ w) (hAT:A≠T) (hd:D A) {b:Nat} (eb:σ A=.pointer b) (hl:w0.heap.size<=b) (hK:Keep (λg=>g=b) w w') (hn:Blk w' b y t):RA N V A T z y t w0 (λj=>j=T\/D j) (iU σ T undef) w':=
 ⟨λk hk h1 h2 hd=>(zA h2).trans (h.vals k hk h1 h2 (hd.resolve_left h2)),
  λ_=>⟨b,(zA hAT).trans eb,hl,.inr hn,λ_=>hn⟩,
  λ_=>.inr hd,h.below.trans (hK.below h.below.size (λi hi e=>by omega))⟩
end
section
variable {P:Program} {l:List Oper} {a0 a:Act} {i:Nat} {o:Oper} {D:Nat->Prop} {σ:Nat->Value} {N A T:Nat} {V:Nat->Value} {z y:Array Value} {t:TypeId} {w0 w:World}
theorem gD (h:OB l a0 i o (RA N V A T z y t w0) D σ w a) (j d:Nat) (hj:j<N:=by decide) (hA:j≠A:=by decide) (hT:j≠T:=by decide) (h1:o.waits.contains j=true:=by kernel_rfl) (h2:(l[j]?).bind Oper.dst=some d:=by kernel_rfl):(a.tmps[d]?).getD undef=V j:=aID h j d (h.r.vals j hj hA hT (h.hw j h1)) h2
theorem iV (h:OB l a0 i o (RA N V A T z y t w0) D σ w a) (hx:(execOp a.eval o).run P w=.ok (.value (V i)) w) (hA:A≠i:=by decide) (hT:T≠i:=by decide):o.eff P a w λv w'=>RA N V A T z y t w0 (λj=>j=i\/D j) (iU σ i v) w':=by unfold Oper.eff;rw[hx];exact h.r.val i hA hT
end
theorem aKU {P:Program} {o:Oper} {a:Act} {w w':World} {K:Value->World->Prop} (h:(execOp a.eval o).run P w=.ok .skip w') (hk:K undef w'):o.eff P a w K:=by unfold Oper.eff;rw[h];exact hk
def RefOut (B b:Nat) (w:World) (X:Except Int PSt) (e:Ending) (w':World):Prop:=
 match X with
 |.error k=>e=.returned (aQ k 0 0)/\Bl w w'
 |.ok S'=>e=.returned (aQ 0 0 0)/\Below B w w'/\Spared b w w'/\∃iv' ov' mv',Blk w' b #[iv',ov',mv'] 26/\StOwn B w' iv' ov' mv' S'
theorem RefOut.err {B b:Nat} {w w':World} {k:Int} (h:Bl w w'):RefOut B b w (.error k) (.returned (aQ k 0 0)) w':=⟨rfl,h⟩
theorem RefOut.done {B b:Nat} {w w':World} {S':PSt} (h:Below B w w'/\Spared b w w'/\∃iv' ov' mv',Blk w' b #[iv',ov',mv'] 26/\StOwn B w' iv' ov' mv' S'):RefOut B b w (.ok S') (.returned (aQ 0 0 0)) w':=⟨rfl,h⟩
def aDV (w:World) (b:Nat) (c0 c1 c2 c3:Value):World:=(((w.setCell b c0).setCell ⟨b,1,none⟩ c1).setCell ⟨b,2,none⟩ c2).setCell ⟨b,3,none⟩ c3
theorem tG (w:World) (b:Nat) (c0 c1 c2 c3:Value):Keep (λg=>g=b) w (aDV w b c0 c1 c2 c3):=
 ((((Keep.refl (λg=>g=b) w).setCell (p:=b) (.inl rfl) c0).setCell (p:=⟨b,1,none⟩) (.inl rfl) c1).setCell (p:=⟨b,2,none⟩) (.inl rfl) c2).setCell (p:=⟨b,3,none⟩) (.inl rfl) c3
theorem wD {w:World} {b:Nat} {t:TypeId} {d0 d1 d2 d3:Value} (h:Blk w b #[d0,d1,d2,d3] t) (c0 c1 c2 c3:Value):Blk (aDV w b c0 c1 c2 c3) b #[c0,c1,c2,c3] t:=by have h:=(((h.set_ 0 c0).set_ 1 c1).set_ 2 c2).set_ 3 c3;simpa only[aDV,sA,sZ,sS]using h
end
section
def ByOut (B b:Nat) (w:World) (X:Except Int (PSt × PRes)) (e:Ending) (w':World):Prop:=
 match X with
 |.error k=>e=.returned (aQ k 0 0)/\Bl w w'
 |.ok (S',r)=>e=.returned (.agg #[.int .i64 0,.int .i64 r.fd,.int .i64 r.num,.bool r.dir,.string r.data,.slice none 0 0])/\Below B w w'/\Spared b w w'/\∃iv' ov' mv',Blk w' b #[iv',ov',mv'] 26/\StOwn B w' iv' ov' mv' S'
variable {B b:Nat} {S:PSt} {data:ByteArray} {fd num:Int} {iv mv ov:Value} {w w':World}
theorem ByOut.err {k:Int} (h:Bl w w'):ByOut B b w (.error k) (.returned (aQ k 0 0)) w':=⟨rfl,h⟩
theorem ByOut.same {dir:Bool} (h:Bl w w') (hB:B<=w.heap.size) (hb:Blk w b #[iv,ov,mv] 26) (ho:StOwn B w iv ov mv S):
 ByOut B b w (.ok (S,⟨0,fd,num,dir,data,[]⟩)) (.returned (.agg #[.int .i64 0,fd,num,dir,data,.slice none 0 0])) w':=⟨rfl,h.mono hB,Spared.of_below h,iv,ov,mv,aB hb h,ho.on h⟩
theorem ByOut.done {S':PSt} {dir:Bool} (h:Below B w w'/\Spared b w w'/\∃iv' ov' mv',Blk w' b #[iv',ov',mv'] 26/\StOwn B w' iv' ov' mv' S'):
 ByOut B b w (.ok (S',⟨0,fd,num,dir,data,[]⟩)) (.returned (.agg #[.int .i64 0,fd,num,dir,data,.slice none 0 0])) w':=⟨rfl,h⟩
theorem lI {K:Nat} {x:PIn} (hb:Blk w b #[iv,ov,mv] 26) (ho:StOwn B w iv ov mv S) (hwf:S.wf) (hx:S.ins[K]? =some x) (hn0:num≠0):∃bi cap ma mn mc oa on oc,iv=.slice (some ⟨bi,0,none⟩) S.ins.length cap/\ov=.slice oa on oc/\mv=.slice ma mn mc/\(∀w2,Bl w w2->BlockLt bi w2/\w2.cell? ⟨bi,K*4+3,none⟩=some (.string x.data))/\BlockLt bi w/\w.cell? ⟨bi,K*4+3,none⟩=some (.string x.data)/\(K:Int)<S.ins.length/\(num==0)=false/\BlockLt b w/\b<w.heap.size/\w.cell? b=some (.slice (some ⟨bi,0,none⟩) S.ins.length cap)/\w.cell? ⟨b,1,none⟩=some (.slice oa on oc)/\w.cell? ⟨b,2,none⟩=some (.slice ma mn mc):=by
 obtain⟨hxl,-⟩:=gI.1 hx;obtain⟨bi,cap,rfl⟩:=ho.ins_form (by omega);obtain⟨ma,mn,mc,rfl⟩:=ho.2.1.form;obtain⟨oa,on,oc,rfl⟩:=ho.1.form;obtain⟨a,cap',e1,hai⟩:=ho.read.ins_at2;cases e1;obtain⟨bi',oi,ev,he,iI0,hoi,her,hci⟩:=hai K x hx;cases he;have a1:∀w2,Bl w w2->BlockLt bi w2/\w2.cell? ⟨bi,K*4+3,none⟩=some (.string x.data):=by intro w2 h2;obtain⟨i2,-,-,-,x3⟩:=hci w2 h2;simp only[zM]at x3;exact⟨i2,x3⟩
 obtain⟨iI,x3⟩:=a1 w (Below.refl _ _);have a2:(K:Int)<S.ins.length:=by omega
 have a3:(num==0)=false:=by simpa using hn0
 have iL:=hb.lt;have a0:b<w.heap.size:=hb.lt.lt;obtain⟨-,s0,s1,s2⟩:=gN hb;exact⟨_,_,_,_,_,_,_,_,rfl,rfl,rfl,a1,iI,x3,a2,a3,iL,a0,s0,s1,s2⟩
theorem bAL (B b:Nat) (S:PSt) (iv ov mv:Value) (kd core f0 off nu:Int) (path p2 dt:ByteArray) (w:World) (hb:Blk w b #[iv,ov,mv] 26) (ho:StOwn B w iv ov mv S) (hB:B<=w.heap.size) (hBb:B<=b) (hwf:S.wf) (num:Int) (hfd:nR S core f0=num) (hn0:num=0):
 Calls prog 95 #[.pointer b,.agg #[kd,core,f0,off,nu,path,p2,dt]] w (ByOut B b w (.error 4)):=by
 have a0:=c43 ho.read hwf.2.1 hfd;have a1:=λk ww=>bD k ww;obtain⟨ia,ni,ci,oa,on,oc,ma,mn,mc,rfl,rfl,rfl⟩:=ho.read.slices;subst hn0;have iL:=hb.lt;have a2:b<w.heap.size:=hb.lt.lt;obtain⟨-,s0,s1,s2⟩:=gN hb;have HH:=bG hb ho;clear hb ho hwf hfd;go_in;go_upto_region 1 with fail;refine qR ?_
 repeat(go_big_quiet_step ((with_reducible first|refine cI (a0 _ (bel _ _))|refine cJ (a0 _ (bel _ _)))))
 refine QN λp=>?_;go_wp2_with(go_at_call 92;with_reducible refine aE (a1 _ _) λp=>?_);exact xD (v:=aQ 4 0 0) (by unfold results;simp only[results95,aQ];go_simp) rfl (ByOut.err (bel w _))
theorem aYK (B b:Nat) (S:PSt) (iv ov mv:Value) (core f0 off nu:Int) (path p2 dt:ByteArray) (w:World) (hb:Blk w b #[iv,ov,mv] 26) (ho:StOwn B w iv ov mv S) (hB:B<=w.heap.size) (hBb:B<=b) (hwf:S.wf) (num:Int) (hfd:nR S core f0=num) (hn0:num≠0) (K:Nat) (x:PIn) (hat:bM S num=K) (hx:S.ins[K]? =some x):
 Calls prog 95 #[.pointer b,.agg #[.int .i64 15,core,f0,off,nu,path,p2,dt]] w (ByOut B b w (.ok (S,⟨0,0,0,false,⟨#[]⟩,[]⟩))):=by
 have a0:=c43 ho.read hwf.2.1 hfd;have a2:=λk ww=>bD k ww;have a1:=uX ho.read hwf.1 hat;obtain⟨bi,cap,ma,mn,mc,oa,on,oc,rfl,rfl,rfl,hcz,iI,x3,hKI,hnb,iL,hblt,s0,s1,s2⟩:=lI hb ho hwf hx hn0;have HH:=bG hb ho;clear hb ho hwf hfd hx hat hn0;have a3:=aC hcz;clear hcz;go_in;go_upto_region 1 with fail;refine qR ?_
 repeat(go_big_quiet_step ((with_reducible first|refine cI (a0 _ (bel _ _))|refine cJ (a0 _ (bel _ _)))))
 refine QN λp=>?_;go_wp2;refine qR ?_
 repeat(go_big_quiet_step ((with_reducible first|refine cI (a1 _ (bel _ _))|refine cJ (a1 _ (bel _ _)))))
 refine QN λp=>?_;go_wp2_with(go_at_call 92;with_reducible refine aE (a2 _ _) λp=>?_);exact xD (v:=.agg ()) (by unfold results;simp only[results95];go_simp) rfl (ByOut.same (bel w _) hB HH.out.1 HH.out.2)
theorem bAM (B b:Nat) (S:PSt) (iv ov mv:Value) (core f0 off nu:Int) (path p2 dt:ByteArray) (w:World) (hb:Blk w b #[iv,ov,mv] 26) (ho:StOwn B w iv ov mv S) (hB:B<=w.heap.size) (hBb:B<=b) (hwf:S.wf) (num:Int) (hfd:nR S core f0=num) (hn0:num≠0) (K:Nat) (x:PIn) (hat:bM S num=K) (hx:S.ins[K]? =some x):
 Calls prog 95 #[.pointer b,.agg #[.int .i64 7,core,f0,off,nu,path,p2,dt]] w (ByOut B b w (.ok (S,⟨0,0,x.data.size,false,⟨#[]⟩,[]⟩))):=by
 have a0:=c43 ho.read hwf.2.1 hfd;have a2:=λk ww=>bD k ww;have a1:=uX ho.read hwf.1 hat;obtain⟨bi,cap,ma,mn,mc,oa,on,oc,rfl,rfl,rfl,hcz,iI,x3,hKI,hnb,iL,hblt,s0,s1,s2⟩:=lI hb ho hwf hx hn0;have HH:=bG hb ho;clear hb ho hwf hfd hx hat hn0;have a3:=aC hcz;clear hcz;go_in;go_upto_region 1 with fail;refine qR ?_
 repeat(go_big_quiet_step ((with_reducible first|refine cI (a0 _ (bel _ _))|refine cJ (a0 _ (bel _ _)))))
 refine QN λp=>?_;go_wp2;refine qR ?_
 repeat(go_big_quiet_step ((with_reducible first|refine cI (a1 _ (bel _ _))|refine cJ (a1 _ (bel _ _)))))
 refine QN λp=>?_;go_wp2;exact xD (v:=.agg #[.int .i64 0,.int .i64 0,x.data.size,false,.string ⟨#[]⟩,.slice none 0 0]) (by unfold results;simp only[results95];go_simp) rfl (ByOut.same (bel w _) hB HH.out.1 HH.out.2)
theorem aYL (B b:Nat) (S:PSt) (iv ov mv:Value) (core f0 off nu:Int) (path p2 dt:ByteArray) (w:World) (hb:Blk w b #[iv,ov,mv] 26) (ho:StOwn B w iv ov mv S) (hB:B<=w.heap.size) (hBb:B<=b) (hwf:S.wf) (num:Int) (hfd:nR S core f0=num) (hn0:num≠0) (K:Nat) (x:PIn) (hat:bM S num=K) (hx:S.ins[K]? =some x) (hbad:off<0\/(¬off<0/\256<off)\/(¬off<0/\¬256<off/\nu<0)\/(¬off<0/\¬256<off/\¬nu<0/\256<nu)):
 Calls prog 95 #[.pointer b,.agg #[.int .i64 4,core,f0,off,nu,path,p2,dt]] w (ByOut B b w (.error 9)):=by
 have a0:=c43 ho.read hwf.2.1 hfd;have a2:=λk ww=>bD k ww;have a1:=uX ho.read hwf.1 hat;obtain⟨bi,cap,ma,mn,mc,oa,on,oc,rfl,rfl,rfl,hcz,iI,x3,hKI,hnb,iL,hblt,s0,s1,s2⟩:=lI hb ho hwf hx hn0;have HH:=bG hb ho;clear hb ho hwf hfd hx hat hn0;have a3:=aC hcz;clear hcz;go_in;go_upto_region 1 with fail;refine qR ?_
 repeat(go_big_quiet_step ((with_reducible first|refine cI (a0 _ (bel _ _))|refine cJ (a0 _ (bel _ _)))))
 refine QN λp=>?_;go_wp2;refine qR ?_
 repeat(go_big_quiet_step ((with_reducible first|refine cI (a1 _ (bel _ _))|refine cJ (a1 _ (bel _ _)))))
 refine QN λp=>?_;rcases hbad with hbad|hbad|hbad|hbad;rotate_left
 focus
  obtain⟨b1,b2⟩:=hbad
 rotate_left
 focus
  obtain⟨b1,b2,b3⟩:=hbad
 rotate_left
 focus
  obtain⟨b1,b2,b3,b4⟩:=hbad
 rotate_left
 iterate 4
  .go_wp2_with(go_at_call 92;with_reducible refine aE (a2 _ _) λp=>?_)
   exact xD (v:=aQ 9 0 0) (by unfold results;simp only[results95,aQ];go_simp) rfl (ByOut.err (bel w _))
theorem aYM (B b:Nat) (S:PSt) (iv ov mv:Value) (core f0 off nu:Int) (path p2 dt:ByteArray) (w:World) (hb:Blk w b #[iv,ov,mv] 26) (ho:StOwn B w iv ov mv S) (hB:B<=w.heap.size) (hBb:B<=b) (hwf:S.wf) (num:Int) (hfd:nR S core f0=num) (hn0:num≠0) (K:Nat) (x:PIn) (hat:bM S num=K) (hx:S.ins[K]? =some x) (hbad:off<0\/(¬off<0/\256<off)\/(¬off<0/\¬256<off/\(256:Int)<dt.size)):
 Calls prog 95 #[.pointer b,.agg #[.int .i64 5,core,f0,off,nu,path,p2,dt]] w (ByOut B b w (.error 9)):=by
 have a0:=c43 ho.read hwf.2.1 hfd;have a2:=λk ww=>bD k ww;have a1:=uX ho.read hwf.1 hat;obtain⟨bi,cap,ma,mn,mc,oa,on,oc,rfl,rfl,rfl,hcz,iI,x3,hKI,hnb,iL,hblt,s0,s1,s2⟩:=lI hb ho hwf hx hn0;have HH:=bG hb ho;clear hb ho hwf hfd hx hat hn0;have a3:=aC hcz;clear hcz;go_in;go_upto_region 1 with fail;refine qR ?_
 repeat(go_big_quiet_step ((with_reducible first|refine cI (a0 _ (bel _ _))|refine cJ (a0 _ (bel _ _)))))
 refine QN λp=>?_;go_wp2;refine qR ?_
 repeat(go_big_quiet_step ((with_reducible first|refine cI (a1 _ (bel _ _))|refine cJ (a1 _ (bel _ _)))))
 refine QN λp=>?_;rcases hbad with hbad|hbad|hbad;rotate_left
 focus
  obtain⟨b1,b2⟩:=hbad
 rotate_left
 focus
  obtain⟨b1,b2,b3⟩:=hbad
 rotate_left
 iterate 3
  .go_wp2_with(go_at_call 92;with_reducible refine aE (a2 _ _) λp=>?_)
   exact xD (v:=aQ 9 0 0) (by unfold results;simp only[results95,aQ];go_simp) rfl (ByOut.err (bel w _))
theorem aYN (B b:Nat) (S:PSt) (iv ov mv:Value) (core f0 off nu:Int) (path p2 dt:ByteArray) (w:World) (hb:Blk w b #[iv,ov,mv] 26) (ho:StOwn B w iv ov mv S) (hB:B<=w.heap.size) (hBb:B<=b) (hwf:S.wf) (num:Int) (hfd:nR S core f0=num) (hn0:num≠0) (K:Nat) (x:PIn) (hat:bM S num=K) (hx:S.ins[K]? =some x) (hbad:nu<0\/(¬nu<0/\256<nu)):
 Calls prog 95 #[.pointer b,.agg #[.int .i64 6,core,f0,off,nu,path,p2,dt]] w (ByOut B b w (.error 9)):=by
 have a0:=c43 ho.read hwf.2.1 hfd;have a1:=λk ww=>bD k ww;have a2:=uX ho.read hwf.1 hat;obtain⟨bi,cap,ma,mn,mc,oa,on,oc,rfl,rfl,rfl,hcz,iI,x3,hKI,hnb,iL,hblt,s0,s1,s2⟩:=lI hb ho hwf hx hn0;have HH:=bG hb ho;clear hb ho hwf hfd hx hat hn0;have a3:=aC hcz;clear hcz;go_in;go_upto_region 1 with fail;refine qR ?_
 repeat(go_big_quiet_step ((with_reducible first|refine cI (a0 _ (bel _ _))|refine cJ (a0 _ (bel _ _)))))
 refine QN λp=>?_;go_wp2;refine qR ?_
 repeat(go_big_quiet_step ((with_reducible first|refine cI (a2 _ (bel _ _))|refine cJ (a2 _ (bel _ _)))))
 refine QN λp=>?_;rcases hbad with hbad|hbad
 .go_wp2_with(go_at_call 92;with_reducible refine aE (a1 _ _) λp=>?_)
  exact xD (v:=aQ 9 0 0) (by unfold results;simp only[results95,aQ];go_simp) rfl (ByOut.err (bel w _))
 obtain⟨b1,b2⟩:=hbad;go_wp2_with(go_at_call 92;with_reducible refine aE (a1 _ _) λp=>?_);exact xD (v:=aQ 9 0 0) (by unfold results;simp only[results95,aQ];go_simp) rfl (ByOut.err (bel w _))
theorem aYO (B b:Nat) (S:PSt) (iv ov mv:Value) (core f0 off nu:Int) (path p2 dt:ByteArray) (w:World) (hb:Blk w b #[iv,ov,mv] 26) (ho:StOwn B w iv ov mv S) (hB:B<=w.heap.size) (hBb:B<=b) (hwf:S.wf) (num:Int) (hfd:nR S core f0=num) (hn0:num≠0) (K:Nat) (x:PIn) (hat:bM S num=K) (hx:S.ins[K]? =some x) (b1:¬off<0) (b2:¬256<off) (b3:¬(256:Int)<dt.size) (b4:256<off+dt.size):
 Calls prog 95 #[.pointer b,.agg #[.int .i64 5,core,f0,off,nu,path,p2,dt]] w (ByOut B b w (.error 5)):=by
 have a0:=c43 ho.read hwf.2.1 hfd;have a2:=λk ww=>bD k ww;have a1:=uX ho.read hwf.1 hat;obtain⟨bi,cap,ma,mn,mc,oa,on,oc,rfl,rfl,rfl,hcz,iI,x3,hKI,hnb,iL,hblt,s0,s1,s2⟩:=lI hb ho hwf hx hn0;have HH:=bG hb ho;clear hb ho hwf hfd hx hat hn0;have a3:=aC hcz;clear hcz;go_in;go_upto_region 1 with fail;refine qR ?_
 repeat(go_big_quiet_step ((with_reducible first|refine cI (a0 _ (bel _ _))|refine cJ (a0 _ (bel _ _)))))
 refine QN λp=>?_;go_wp2;refine qR ?_
 repeat(go_big_quiet_step ((with_reducible first|refine cI (a1 _ (bel _ _))|refine cJ (a1 _ (bel _ _)))))
 refine QN λp=>?_;have a4:wrap64 (off+dt.size)=off+dt.size:=by unfold wrap64;omega
 go_wp2_with(go_at_call 92;with_reducible refine aE (a2 _ _) λp=>?_);exact xD (v:=aQ 5 0 0) (by unfold results;simp only[results95,aQ];go_simp) rfl (ByOut.err (bel w _))
theorem aYP (B b:Nat) (S:PSt) (iv ov mv:Value) (core f0 off nu:Int) (path p2 dt:ByteArray) (w:World) (hb:Blk w b #[iv,ov,mv] 26) (ho:StOwn B w iv ov mv S) (hB:B<=w.heap.size) (hBb:B<=b) (hwf:S.wf) (num:Int) (hfd:nR S core f0=num) (hn0:num≠0) (K:Nat) (x:PIn) (hat:bM S num=K) (hx:S.ins[K]? =some x) (b1:¬off<0) (b2:¬256<off) (hde:dt.size=0):
 Calls prog 95 #[.pointer b,.agg #[.int .i64 5,core,f0,off,nu,path,p2,dt]] w (ByOut B b w (.ok (S,⟨0,0,0,false,⟨#[]⟩,[]⟩))):=by
 have a1:=c43 ho.read hwf.2.1 hfd;have a3:=λk ww=>bD k ww;have a2:=uX ho.read hwf.1 hat;obtain⟨bi,cap,ma,mn,mc,oa,on,oc,rfl,rfl,rfl,hcz,iI,x3,hKI,hnb,iL,hblt,s0,s1,s2⟩:=lI hb ho hwf hx hn0;have HH:=bG hb ho;clear hb ho hwf hfd hx hat hn0;have a4:=aC hcz;clear hcz;go_in;go_upto_region 1 with fail;refine qR ?_
 repeat(go_big_quiet_step ((with_reducible first|refine cI (a1 _ (bel _ _))|refine cJ (a1 _ (bel _ _)))))
 refine QN λp=>?_;go_wp2;refine qR ?_
 repeat(go_big_quiet_step ((with_reducible first|refine cI (a2 _ (bel _ _))|refine cJ (a2 _ (bel _ _)))))
 refine QN λp=>?_;have a0:dt=⟨#[]⟩:=by
  cases dt with
  | mk d=>have:d.size=0:=hde;have:d=#[]:=Array.eq_empty_of_size_eq_zero this;rw[this]
 subst a0;have hz:((⟨#[]⟩:ByteArray).size:Int)=0:=rfl;go_wp2;exact xD (v:=.agg ()) (by unfold results;simp only[results95];go_simp) rfl (ByOut.same (bel w _) hB HH.out.1 HH.out.2)
end
def vLo (b bi oi K0:Nat) (A:Value) (C E:Array Value) (num:Int):Nat->Value
 |0=>.pointer (some ⟨b,0,none⟩)
 |1=>A
 |2=>.agg C
 |3=>.int .i64 num
 |4=>.int .i64 K0
 |5=>.pointer (some ⟨bi,oi+K0*4,none⟩)
 |6=>.agg E
 |_=>undef
def ResOut (w:World) (r:PRes) (e:Ending) (w':World):Prop:=
 ∃nv,e=.returned (.agg #[r.code,r.fd,r.num,r.dir,r.data,nv])/\Bl w w'/\OwnP w.heap.size w' 9 1 nv (r.names.map bT)/\(r.code≠0->nv=.slice none 0 0)
theorem ResOut.flat {w w':World} {c f n:Int} {d:Bool} {s:ByteArray} (h:Bl w w'):ResOut w ⟨c,f,n,d,s,[]⟩ (.returned (.agg #[c,f,n,d,s,.slice none 0 0])) w':=⟨_,rfl,h,.inl ⟨rfl,rfl⟩,λ_=>rfl⟩
def pF (S:PSt) (kd num:Int) (x:PIn):PRes:=
 if kd=12 then(if x.dir=false then⟨7,0,0,false,⟨#[]⟩,[]⟩else⟨0,0,0,false,⟨#[]⟩,x.ents.map λe=>e.name⟩)
 else if kd=13 then⟨0,0,x.data.size,x.dir,⟨#[]⟩,[]⟩else if x.dir=true then⟨8,0,0,false,⟨#[]⟩,[]⟩else⟨0,0,bX S num,false,⟨#[]⟩,[]⟩
theorem aTK (S:PSt) (iv ov mv:Value) (kd core f0 off nu:Int) (path p2 dt:ByteArray) (w:World) (ho:StRead w iv ov mv S) (hfR:FineR S) (num C:Int) (hfind:eX S path=(num,C)) (hC:C≠0):
 Calls prog 97 #[.agg #[iv,ov,mv],.agg #[kd,core,f0,off,nu,path,p2,dt]] w (ResOut w ⟨C,0,0,false,⟨#[]⟩,[]⟩):=by
 have a0:=c46 ho hfR hfind;have a2:=λk ww=>bD k ww;have a3:(C !=0)=true:=by simpa using hC
 obtain⟨a1,n1',c1,ao,no,co,am,nm',cm,rfl,rfl,rfl⟩:=ho.slices;clear ho hfR hfind;go_in;go_wp2_with(first|(go_at_call 46;with_reducible refine aE (a0 _ (bel _ _)) λp=>?_)|(go_at_call 92;with_reducible refine aE (a2 _ _) λp=>?_));exact xD (v:=.agg #[C,.int .i64 0,.int .i64 0,false,.string ⟨#[]⟩,.slice none 0 0]) (by unfold results;simp only[results97];go_simp) rfl (ResOut.flat (bel w _))
theorem aTL (S:PSt) (iv ov mv:Value) (kd core f0 off nu:Int) (path p2 dt:ByteArray) (w:World) (ho:StRead w iv ov mv S) (hfR:FineR S) (hk:kd=12\/kd=13\/kd=14) (num C:Int) (hfind:eX S path=(num,C)) (hC:C=0) (K0:Nat) (x:PIn) (hat:bM S num=K0) (hx:S.ins[K0]? =some x):
 Calls prog 97 #[.agg #[iv,ov,mv],.agg #[kd,core,f0,off,nu,path,p2,dt]] w (ResOut w (pF S kd num x)):=by
 have c4:=c46 ho hfR hfind;have a7:=uX ho hfR.wf.1 hat;have d4:vB w 62 #[.agg #[iv,ov,mv],.int .i64 num] (.int .i64 (bX S num)):=λww h=>aEJ S iv ov mv num ww (ho.below h (zC _)) hfR.wf;have c5:=λk ww=>bD k ww;have d8:=(hfR.wf.2.2.2.1 x (mG hx)).2.1;obtain⟨hxl,-⟩:=gI.1 hx;obtain⟨a1,n1',c1,ao,no,co,am,nm',cm,rfl,rfl,rfl⟩:=ho.slices;obtain⟨ai,ci,e1,hai⟩:=ho.ins_at2;cases e1;obtain⟨bi,oi,ev,he,iI0,hoi,her,hci⟩:=hai K0 x hx;subst he;obtain⟨ea,ec,rfl,hae⟩:=her.at_;rw[lM]at hci;obtain⟨iI,x0,x1,x2,x3⟩:=hci w (Below.refl _ _);have d9:(K0:Int)<S.ins.length:=by omega
 subst hC;have a9:bi<w.heap.size:=iI.lt;obtain⟨b,hbe⟩:∃b,w.heap.size=b:=⟨_,rfl⟩;obtain⟨X,hX⟩:∃X,pF S kd num x=X:=⟨_,rfl⟩;rw[hX];have HX:=lE hX hk hae hbe;clear ho hfR hfind hx hai her hci hoi hat hX hk hae hbe;go_in;go_upto_region 4 with(go_at_call 46;with_reducible refine aE (c4 _ (bel _ _)) λp=>?_)
 refine aD (F:=λwa=>Blk wa w.heap.size #[.slice (some ⟨bi,oi,none⟩) S.ins.length c1,.slice ao no co,.slice am nm' cm] 26/\Blk wa (w.heap.size+1) #[kd,core,f0,off,nu,path,p2,dt] 28/\Blk wa (w.heap.size+1+1) () 52/\Below w.heap.size w wa) ⟨aB (Blk.new w #[.slice (some ⟨bi,oi,none⟩) S.ins.length c1,.slice ao no co,.slice am nm' cm] 26) (bel _ _),aB (Blk.new_i (w.alloc (.cells #[.slice (some ⟨bi,oi,none⟩) S.ins.length c1,.slice ao no co,.slice am nm' cm] 26)) #[kd,core,f0,off,nu,path,p2,dt] 28 (w.heap.size+1)) (bel _ _),aB (Blk.new_i ((w.alloc (.cells #[.slice (some ⟨bi,oi,none⟩) S.ins.length c1,.slice ao no co,.slice am nm' cm] 26)).alloc (.cells #[kd,core,f0,off,nu,path,p2,dt] 28)) #[.int .i64 0,.int .i64 0,.int .i64 0,.bool false,.string ⟨#[]⟩,.slice none 0 0] 52 (w.heap.size+1+1)) (bel _ _),bel w _⟩ ?_;rintro W ⟨hb,hc,hr,a8⟩;replace a7:=λww (hw:Below W.heap.size W ww)=>a7 ww (a8.trans (hw.mono a8.size));have u0:=(a8.cell (p:=⟨bi,oi+K0*4,none⟩) a9).trans x0;have u1:=(a8.cell (p:=⟨bi,oi+K0*4+1,none⟩) a9).trans x1;have u2:=(a8.cell (p:=⟨bi,oi+K0*4+2,none⟩) a9).trans x2;have u3:=(a8.cell (p:=⟨bi,oi+K0*4+3,none⟩) a9).trans x3;rw[HX.out.2.2.2]at hb hc hr |-;obtain⟨-,k0,k1,k2⟩:=gN hb;have jB:b<W.heap.size:=hb.lt.lt;have jI:bi<W.heap.size:=zR a9 a8.size;clear x0 x1 x2 x3 iI c4;have HW:=lE hb hc hr a8;clear hb hc hr a8;go_cut [7] (λv9 wx=>∃g,v9=.pointer (some ⟨g,0,none⟩)/\Blk wx g #[x.num,x.dir,.slice ea x.ents.length ec,x.data] 68/\Below W.heap.size W wx)
 case first=>
  refine jN (RA 9 (vLo b bi oi K0 (.slice (some ⟨bi,oi,none⟩) S.ins.length c1) #[.slice (some ⟨bi,oi,none⟩) S.ins.length c1,.slice ao no co,.slice am nm' cm] #[.int .i64 x.num,.bool x.dir,.slice ea x.ents.length ec,.string x.data] num) 7 8 #[.int .i64 0,.bool false,.slice none 0 0,.string ⟨#[]⟩] #[.int .i64 x.num,.bool x.dir,.slice ea x.ents.length ec,.string x.data] 68 W) (λσ=>RA.zero (by decide) (by decide) (bel W _)) ?_ ?_
  .refine⟨?_,?_,?_,?_,?_,?_,?_,?_,?_,trivial⟩
   .intro D σ w1 a h;have e2:(a.tmps[2]?).getD undef=.pointer b:=mH h 2;refine iV h ?_;clear h a7;go_simp
    first|done|rfl
   .intro D σ w1 a h;have e0:(a.tmps[21]?).getD undef=.pointer b:=gD h 0 21;have l0:=(h.r.below.cell (p:=b) jB).trans k0;have iX:BlockLt b w1:=⟨zR jB h.r.below.size⟩
    refine iV h ?_;clear h a7;go_simp
    first|done|rfl
   .intro D σ w1 a h;have e2:(a.tmps[2]?).getD undef=.pointer b:=mH h 2;have l0:=(h.r.below.cell (p:=b) jB).trans k0;have l1:=(h.r.below.cell (p:=⟨b,1,none⟩) jB).trans k1;have l2:=(h.r.below.cell (p:=⟨b,2,none⟩) jB).trans k2;have iX:BlockLt b w1:=⟨zR jB h.r.below.size⟩
    refine iV h ?_;clear h a7;go_simp
    first|done|rfl
   .intro D σ w1 a h;have e5:(a.tmps[5]?).getD undef=.int .i64 num:=mH h 5;refine iV h ?_;clear h a7;go_simp
    first|done|rfl
   .intro D σ w1 a h;have e3:(a.tmps[23]?).getD undef=.agg #[.slice (some ⟨bi,oi,none⟩) S.ins.length c1,.slice ao no co,.slice am nm' cm]:=gD h 2 23;have e4:(a.tmps[24]?).getD undef=.int .i64 num:=gD h 3 24;refine aR 85 #[.agg #[.slice (some ⟨bi,oi,none⟩) S.ins.length c1,.slice ao no co,.slice am nm' cm],.int .i64 num] ?_ ((a7 w1 h.r.below).mono ?_)
    .clear h a7;go_simp
     first|done|rfl
    rintro e w' ⟨rfl,hqb⟩;exact⟨_,rfl,(h.r.on hqb).val 4 (by decide) (by decide)⟩
   .intro D σ w1 a h;have e6:(a.tmps[22]?).getD undef=.slice (some ⟨bi,oi,none⟩) S.ins.length c1:=gD h 1 22;have e7:(a.tmps[25]?).getD undef=.int .i64 K0:=gD h 4 25;refine iV h ?_;clear h a7;go_simp
    first|done|rfl
   .intro D σ w1 a h;have e8:(a.tmps[26]?).getD undef=.pointer (some ⟨bi,oi+K0*4,none⟩):=gD h 5 26;have l0:=(h.r.below.cell (p:=⟨bi,oi+K0*4,none⟩) jI).trans u0;have l1:=(h.r.below.cell (p:=⟨bi,oi+K0*4+1,none⟩) jI).trans u1;have l2:=(h.r.below.cell (p:=⟨bi,oi+K0*4+2,none⟩) jI).trans u2;have l3:=(h.r.below.cell (p:=⟨bi,oi+K0*4+3,none⟩) jI).trans u3;have iX:BlockLt bi w1:=⟨zR jI h.r.below.size⟩
    refine iV h ?_;clear h a7;go_simp
    first|done|rfl
   .intro D σ w1 a h;refine uB (v:=.pointer w1.heap.size) (w':=w1.alloc (.cells #[.int .i64 0,false,.slice none 0 0,.string ⟨#[]⟩] 68)) ?_ (h.r.alloc (by decide) h.nd);clear h a7;go_simp
    first|done|rfl
   intro D σ w1 a h;obtain⟨g,eg,hgl,hgc,-⟩:=h.r.al (nG h 7);have ep:(a.tmps[7]?).getD undef=.pointer g:=aID h 7 7 eg;have ex:(a.tmps[27]?).getD undef=.agg #[x.num,x.dir,.slice ea x.ents.length ec,x.data]:=gD h 6 27;obtain⟨d0,d1,d2,d3,hblk⟩:∃d0 d1 d2 d3,Blk w1 g #[d0,d1,d2,d3] 68:=by
    rcases hgc with h|h
    .exact⟨_,_,_,_,h⟩
    exact⟨_,_,_,_,h⟩
   have b2:=wD hblk (.int .i64 x.num) (.bool x.dir) (.slice ea x.ents.length ec) (.string x.data);have q0:=hblk.cell 0;have q1:=hblk.cell 1;have q2:=hblk.cell 2;have q3:=hblk.cell 3;have b7:=hblk.frozen 0;have b8:=hblk.frozen 1;have b9:=hblk.frozen 2;have c2:=hblk.frozen 3;simp at q0 q1 q2 q3;have iG:=hblk.lt;refine aKU (w':=aDV w1 g (.int .i64 x.num) (.bool x.dir) (.slice ea x.ents.length ec) (.string x.data)) ?_ (h.r.store (by decide) (nG h 7) eg hgl (tG _ _ _ _ _ _) b2);clear h a7 b2 hblk;unfold aDV;go_simp
   first|done|rfl
  intro σ w3 hR;obtain⟨g,eg,-,-,hgs⟩:=hR.al trivial;have hg:=hgs trivial;have d5:=hR.below;simp only[dJ,Act.put,sA,sZ,sS,Nat.reduceAdd];rw[eg];clear hR hgs eg a7;go_wp2_with fail;go_meet;exact⟨g,rfl,hg,d5⟩
 obtain⟨g,rfl,hg,hbx⟩:=hcut;have b1:=HW.out.2.2.2.trans (hbx.mono HW.out.2.2.2.size);have iG:=hg.lt;have q1:=hg.cell 1;have q2:=hg.cell 2;have q3:=hg.cell 3;simp at q1 q2 q3;have hS:=aB HW.out.1 hbx;obtain⟨iS,k0,k1,k2⟩:=gN hS;have hC:=aB HW.out.2.1 hbx;have iC:=hC.lt;have c0:=hC.cell 0;simp at c0;have hr:=aB HW.out.2.2.1 hbx;have iR:=hr.lt;have g0:=hr.cell 0;have g1:=hr.cell 1;have g2:=hr.cell 2;have g3:=hr.cell 3;have g4:=hr.cell 4;have g5:=hr.cell 5;have b7:=hr.frozen 0;have b8:=hr.frozen 1;have b9:=hr.frozen 2;have c2:=hr.frozen 3;have c6:=hr.frozen 4;have c7:=hr.frozen 5;simp at g0 g1 g2 g3 g4 g5;have e9:g≠b+1+1:=λe=>by subst e;exact hr.ne_ hg (by decide) rfl
 have HG:=eK hg hr b1;have d6:Bel w wc:=⟨b1⟩;have b3:=HX.out.2.2.2;clear hr hg hC hS hbx u0 u1 u2 u3 jB jI HW a7;obtain⟨-,hk,-,-⟩:=HX.out;rcases hk with rfl|rfl|rfl
 .cases hd:x.dir with
  | false=>
    have hX:X=⟨7,0,0,false,⟨#[]⟩,[]⟩:=by rw[<-HX.out.1];unfold pF;rw[zB rfl,zB hd]
    subst hX;rw[hd]at q1;subst b3;clear b1;go_wp2_with(go_at_call 92;with_reducible refine aE (c5 _ _) λp=>?_);exact xD (v:=.agg #[.int .i64 7,.int .i64 0,.int .i64 0,false,.string ⟨#[]⟩,.slice none 0 0]) (by unfold results;simp only[results97];go_simp) rfl (ResOut.flat (bel w _))
  | true=>
    have hX:X=⟨0,0,0,false,⟨#[]⟩,x.ents.map λe=>e.name⟩:=by rw[<-HX.out.1];unfold pF;rw[zB rfl,zA (by rw[hd];decide)]
    subst hX;rw[hd]at q1;subst b3;clear b1;have f1:=HG.out.2.1.lt.lt;go_upto_region 10 with fail
    go_loopw[8,9] (λv8 v9 wr=>∃q:Nat,v9=.int .i64 q/\q<=x.ents.length/\OwnP wc.heap.size wr 9 1 v8 (((x.ents.take q).map λe=>e.name).map λs=>[Value.string s])/\Bl wc wr) (λ_ v9 _=>(x.ents.length-intOf v9).toNat)
    case atStart=>exact⟨0,rfl,by omega,.inl ⟨rfl,rfl⟩,bel wc _⟩
    obtain⟨q,rfl,hq,hO,hbr⟩:=hrel;have f2:Bel wc wr:=⟨hbr⟩;have a8:=HG.out.2.2.trans (hbr.mono HG.out.2.2.size);have iB:Bel w wr:=⟨a8⟩;have b6:=aB HG.out.1 hbr;have a6:=aB HG.out.2.1 hbr;have jG:=b6.lt;have y2:=b6.cell 2;simp at y2;obtain⟨va,vc,rfl⟩:=hO.formL;have b4:(((x.ents.take q).map λe=>e.name).map λs=>[Value.string s]).length=q:=by rw[lM,lM,zU];omega
    rw[b4]at hO |-;obtain⟨zs,hzs⟩:∃zs,((x.ents.take q).map λe=>e.name)=zs:=⟨_,rfl⟩;rw[hzs]at hO b4;rw[lM]at b4;have HO:=lE hO hzs b4 hbr;clear hO hzs b4;by_cases hlt:q<x.ents.length
    .have c3:(q:Int)<x.ents.length:=by omega
     obtain⟨z,hz⟩:∃z,x.ents[q]? =some z:=⟨_,gE hlt⟩;obtain⟨be,oe,hea,iE0,iE,hce⟩:=HX.out.2.2.1 wr a8 q z.cells (by rw[gM,hz];rfl);subst hea;have d7:=hce 0 _ rfl;rw[zN]at d7;have b0:((x.ents.take (q+1)).map λe=>e.name)=zs++[z.name]:=by rw[take_add_one,hz,yS,HO.out.2.1];rfl
     have f3:=HO.out.2.2.1;have HN:=aC b0;clear b0 hce hz hbr b6 a6;go_wp2_with(at_builtin;refine aYG rfl (.tmp 49) (.tmp 56) rfl wc.heap.size _ _ zs [z.name] rfl (by go_simp) (HO.out.1.below (bel wr _)) (RowAt.single (Blk.new_i _ _ _ _) 1 1) (by simp;omega) (bel wc _).size ?_);intro v' w' hg;have c8:=hg.on (HO.out.1.below (bel wr _)) (bel wc _).size;have H2:=bG hg.1 ((bel wc _).trans c8);have c9:=hg.1.one;clear hg c8;go_wp2;go_roundw
     case rel=>exact⟨q+1,by go_num,by omega,by rw[HN.out,yS];exact H2.out.1,H2.out.2⟩
     simp[intOf];omega
    have c3:¬(q:Int)<x.ents.length:=by omega
    have b5:zs=x.ents.map λe=>e.name:=by rw[<-HO.out.2.1,take_of_length_le (by omega)]
    have f4:=a6.lt;clear g0 g1 g2 g3 g4 g5 b7 b8 b9 c2 c6 c7 iR;have g0:=a6.cell 0;have g1:=a6.cell 1;have g2:=a6.cell 2;have g3:=a6.cell 3;have g4:=a6.cell 4;have g5:=a6.cell 5;have b7:=a6.frozen 0;have b8:=a6.frozen 1;have b9:=a6.frozen 2;have c2:=a6.frozen 3;have c6:=a6.frozen 4;have c7:=a6.frozen 5;simp at g0 g1 g2 g3 g4 g5;have HA:=aC b5;clear b5 b6 a6;go_wp2_with fail;refine xD (v:=.agg #[.int .i64 0,.int .i64 0,.int .i64 0,false,.string ⟨#[]⟩,.slice va q vc]) (by unfold results;simp only[results97];go_simp) rfl ⟨_,rfl,bel w _,?_,λh=>absurd rfl h⟩;have hk:=HO.out.1.keep (kQ (wz:=wr) (r:=w.heap.size+1+1) (a0:=.int .i64 0) (a1:=.int .i64 0) (a2:=.int .i64 0) (a3:=.bool false) (a4:=.string ⟨#[]⟩) (a5:=.slice va q vc)) (λg hg e=>by have:=HO.out.1.ge hg;omega);rw[HA.out]at hk;exact hk.mono HG.out.2.2.size
 .have hX:X=⟨0,0,x.data.size,x.dir,⟨#[]⟩,[]⟩:=by
   rw[<-HX.out.1];unfold pF;rw[zA (by decide),zB rfl]
  subst hX;subst b3;clear b1;go_wp2;exact xD (v:=.agg #[.int .i64 0,.int .i64 0,x.data.size,x.dir,.string ⟨#[]⟩,.slice none 0 0]) (by unfold results;simp only[results97];go_simp) rfl (ResOut.flat (bel w _))
 cases hd:x.dir with
 | true=>
   have hX:X=⟨8,0,0,false,⟨#[]⟩,[]⟩:=by rw[<-HX.out.1];unfold pF;rw[zA (by decide),zA (by decide),zB hd]
   subst hX;rw[hd]at q1;subst b3;clear b1;go_wp2_with(go_at_call 92;with_reducible refine aE (c5 _ _) λp=>?_);exact xD (v:=.agg #[.int .i64 8,.int .i64 0,.int .i64 0,false,.string ⟨#[]⟩,.slice none 0 0]) (by unfold results;simp only[results97];go_simp) rfl (ResOut.flat (bel w _))
 | false=>
   have hX:X=⟨0,0,bX S num,false,⟨#[]⟩,[]⟩:=by rw[<-HX.out.1];unfold pF;rw[zA (by decide),zA (by decide),zA (by rw[hd];decide)]
   subst hX;rw[hd]at q1;subst b3;clear b1;go_wp2_with(go_at_call 62;with_reducible refine aE (d4 _ (bel _ _)) λp=>?_);exact xD (v:=.agg #[.int .i64 0,.int .i64 0,.int .i64 (bX S num),false,.string ⟨#[]⟩,.slice none 0 0]) (by unfold results;simp only[results97];go_simp) rfl (ResOut.flat (bel w _))
end Go.Proofs.YtmkapobnfigedaaGreatDoor
