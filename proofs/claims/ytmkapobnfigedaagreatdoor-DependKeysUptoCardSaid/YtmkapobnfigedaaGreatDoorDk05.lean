/- A part of a proof of a law. Conditions: none. -/
import Derived.Test.YtmkapobnfigedaaGreatDoorDk04
import Derived.Test.YtmkapobnfigedaaGreatDoorDk02
set_option linter.unusedVariables false
set_option linter.unusedSimpArgs false
set_option maxRecDepth 100000
set_option maxHeartbeats 8000000
namespace Go.Proofs.YtmkapobnfigedaaGreatDoor
open Go.Proofs.Tryz List Go.RowKit
theorem pN {w:World} {B n k:Nat} {e:TypeId} {v:Value} {xs:List Value} (h:w.ownsRow B e k v n xs):v.oneCell'=true:=by
 obtain⟨_,⟨rfl,_⟩|⟨g,cap,cur,rfl,_⟩⟩:=h<;>rfl
structure ClAt (w:World) (iv iv' ov mv:Value) (S:PSt) (q:Nat) (wr:World):Prop where
 le:q<=S.ins.length
 rows:∃is:List IRec,OwnP w.heap.size wr 68 4 iv' (is.map IRec.cells)/\is.length=S.ins.length/\
  (∀(j:Nat) (r:IRec) (x:PIn),is[j]? =some r->S.ins[j]? =some x->r.num=x.num/\r.dir=x.dir/\r.data=x.data/\(j<q->OwnP w.heap.size wr 97 2 r.ev (x.ents.map PEnt.cells))/\(q<=j->RowAt w 2 r.ev (x.ents.map PEnt.cells)))/\
  ∀(p j:Nat) (r r':IRec),p≠j->p<q->j<q->is[p]? =some r->is[j]? =some r'->∀g,r.ev.ownBlock=some g->r'.ev.ownBlock≠some g
 below:Bl w wr
 box:Blk wr w.heap.size #[iv',ov,mv] 26
 out:∃c,Blk wr (w.heap.size+1) c 26/\c.size=3
theorem aKI (iv ov mv:Value) (S:PSt) (w:World) (h:StRead w iv ov mv S) (hwf:S.wf):
 Calls prog 106 #[.agg #[iv,ov,mv]] w λe w'=>∃iv' ov' mv',e=.returned (.agg #[iv',ov',mv'])/\Bl w w'/\StOwn w.heap.size w' iv' ov' mv' S:=by
 have g3:iv.oneCell'=true:=by obtain⟨_,_,_,h3,_⟩:=h;exact h3.one
 have g4:=h.1.one;have g5:=h.2.1.one;obtain⟨hop,hmade,is0,hrow,his,hrec⟩:=h;have d9:=hwf.1;have e0:∀ww,Bl w ww->Calls prog 137 #[iv] ww _:=λww hb=>aUM (is0.map IRec.cells) iv ww (hrow.below hb (zC _)) (gF _) (pD _) (by rw[lM];omega);have H0:=jj6 hop hmade hrow his hrec hwf;clear hop hmade hrow hrec hwf;go_in;go_wp2_with(go_at_call 137;refine(e0 _ (bel _ _)).mono ?_;rintro e w1 ⟨iv',rfl,hown,hb1⟩;have hP:=(OwnP.of_own hown (by decide) (gF _)).mono (bel w _).size;rw[lM,his]at hown;obtain⟨ga,gc,rfl⟩:=oR hown;have a6:Blk w1 w.heap.size #[iv,ov,mv] 26:=((Blk.new w _ 26).alloc _).below hb1 (by simp;omega);have a9:Blk w1 (w.heap.size+1) #[.slice none 0 0,.slice none 0 0,.slice none 0 0] 26:=(Blk.new_i (w.alloc (.cells #[iv,ov,mv] 26)) _ 26 _).below hb1 (by simp);have c5:=(bel w _).trans (hb1.mono (bel w _).size);have g6:Bel w w1:=⟨c5⟩;have iX:=a6.lt;have iR:=a9.lt;have x0:=a6.cell 0;have g7:=a6.frozen 0;have x1:=a6.cell 1;have x2:=a6.cell 2;simp only[yD,zH,zV]at x0 x1 x2;have H1:=lE hP c5 a6 a9;clear hown hb1 hP c5 a6 a9)
 go_loopw[11] (λi wr=>∃(q:Nat),i=.int .i64 q/\ClAt w iv (.slice ga S.ins.length gc) ov mv S q wr) (λi _=>(S.ins.length-intOf i).toNat)
 case atStart=>
  obtain⟨hP,c5,a6,a9⟩:=H1.out;have hk:Keep (λg=>g=w.heap.size) w1 (w1.setCell w.heap.size (.slice ga S.ins.length gc)):=Keep.setCell (S:=λg=>g=w.heap.size) (p:=w.heap.size) (Keep.refl _ w1) (.inl rfl) _;refine⟨0,rfl,by omega,⟨is0,hP.keep hk (λg hg=>hP.ne_blk a6 (by decide) hg),his,?_,λp j r r' _ h=>by omega⟩,bel _ _,?_,⟨_,hk.blk a9 (by omega),rfl⟩⟩
  .intro j r x hr hx;obtain⟨e1,e2,e3,e4⟩:=H0.out.2.2.2.2.1 j r x hr hx;exact⟨e1,e2,e3,λh=>by omega,λ_=>e4⟩
  exact a6.set_ 0 _
 obtain⟨q,rfl,hc⟩:=hrel;have b9:=hc.below;have iB:Bel w wr:=⟨b9⟩;have c9:=hc.box.lt;have e5:=hc.box.cell 0;have d0:=hc.box.cell 1;have e6:=hc.box.cell 2;simp only[yD,zH,zV]at e5 d0 e6;have g8:=hc.le;by_cases hlt:q<S.ins.length
 .obtain⟨is,hO,hil,hrec,hdis⟩:=hc.rows;have e7:=hO;rcases e7 with⟨h0,h1⟩|⟨g,cap,arr,he,hgB,hgb,hnc,hcm,hsz,hri⟩
  .have:is.length=0:=by
    have:=congrArg List.length h1;simpa using this
   omega
  rw[lM,hil]at he hnc;simp only[zO]at he;obtain⟨rfl,-,rfl⟩:=he;obtain⟨r,hr⟩:∃r,is[q]? =some r:=⟨_,gE (by omega)⟩;obtain⟨x,hx⟩:∃x,S.ins[q]? =some x:=⟨_,gE hlt⟩;obtain⟨r1,r2,r3,_,r4⟩:=hrec q r x hr hx;have hm:(is.map IRec.cells)[q]? =some r.cells:=by rw[gM,hr];rfl
  have g2:wr.cell? ⟨g,q*4+2,none⟩=some r.ev:=by rw[hgb.cell];exact hri q _ hm 2 _ rfl
  have iG:=hgb.lt;have d1:=(H0.out.2.2.2.2.2.2.2.2.1 x (mG hx)).2.1;have e8:=r.one;have e9:∀ww,Bl w ww->Calls prog 138 #[r.ev] ww _:=λww hb=>aUN (x.ents.map PEnt.cells) r.ev ww ((r4 (zC _)).below hb (zC _)) (pC _) (sB _) (by rw[lM];exact d1);have HC:=aC (And.intro hc (And.intro hO (And.intro hgb (And.intro hri (And.intro hrec (And.intro hdis (And.intro hr (And.intro hx (And.intro hsz hil)))))))));clear hc hO hgb hri hrec hdis hr hx r1 r2 r3 r4 hm d1 hsz hil;go_upto_region 5 with fail;have iQ:0<=(q:Int)/\(q:Int)<S.ins.length:=by omega
  refine aH [9,12] true (λw'=>w'.cell? w.heap.size=some (.slice g S.ins.length gc)/\w'.cell? ⟨g,q*4+2,none⟩=some r.ev) (by kernel_rfl) (by kernel_rfl) ?_ ?_
  · (try dsimp only);(repeat' apply And.intro)<;>go_simp
  repeat
   apply aI0 rfl rfl
   focus
    rintro w' ⟨s0,s1⟩;go_simp
    first|done|rfl
   simp only[Act.put,sA,sZ,sS]
  refine bA rfl rfl ?_;refine aR 138 #[r.ev] ?hr ?_
  case hr=>
   go_simp
   first|done|rfl
  refine(e9 wr.drew (bel w _)).mono ?_;rintro e w2 ⟨v',rfl,hown2,hb2⟩;have b4:=OwnP.of_own hown2 (by decide) (pC _);have d2:=pN hown2;rw[lM]at hown2;obtain⟨va,vc,rfl⟩:=oR hown2;have a7:=(HC.out.1.box.drew).below hb2 c9.lt;have a8:=(HC.out.2.2.1.drew).below hb2 iG.lt;have g9:=a7.lt;have h4:=a8.lt;have y0:=a7.cell 0;simp only[yD,zH,zV]at y0;have y2:w2.cell? ⟨g,q*4+2,none⟩=some r.ev:=by rw[a8.cell];exact HC.out.2.2.2.1 q _ (by rw[gM,HC.out.2.2.2.2.2.2.1];rfl) 2 _ rfl
  have fz:=a8.frozen (q*4+2);have H2:=lE b4 hb2 a7 a8;clear hown2 b4 hb2 a7 a8;refine⟨_,rfl,.inl ⟨y0,y2⟩,?_⟩;simp only[Act.put,sA,sZ,sS]
  repeat
   apply aI0 rfl rfl
   focus
    rintro w' ⟨s0,s1⟩;go_simp
    first|done|rfl
   simp only[Act.put,sA,sZ,sS]
  refine aV rfl rfl ?_;apply Exists.intro;refine⟨?_,.inr ⟨rfl,rfl⟩,?_⟩
  focus
   go_simp;rfl
  simp only[Act.put];refine aS ?_;go_wp2;go_roundw
  case rel=>
   obtain⟨hc,hO,hgb,hri,hrec,hdis,hr,hx,hsz,hil⟩:=HC.out;obtain⟨b4,hb2,a7,a8⟩:=H2.out;obtain⟨r1,r2,r3,_,_⟩:=hrec q r x hr hx;obtain⟨c,hout,hcs⟩:=hc.out;have h5:=hgb.lt.lt;have b7:=b9.size;have hK:Keep (λk=>k=g) wr (w2.setCell ⟨g,q*4+2,none⟩ (.slice va x.ents.length vc)):=
    Keep.setCell (S:=λk=>k=g) (p:=⟨g,q*4+2,none⟩) (Keep.of_below (show Bl wr w2 from(Below.refl wr.heap.size wr).drew.trans hb2) _) (.inl rfl) _
   have b8:Keep (λk=>k=g) w2 (w2.setCell ⟨g,q*4+2,none⟩ (.slice va x.ents.length vc)):=
    Keep.setCell (S:=λk=>k=g) (p:=⟨g,q*4+2,none⟩) (Keep.refl _ _) (.inl rfl) _
   have c7:q<is.length:=by omega
   have h6:∀k,w.heap.size<=k->∀(hk:k<wr.heap.size),k≠g->True:=λ_ _ _ _=>trivial;have c0:(is.map IRec.cells).set q (r.cells.set 2 (.slice va x.ents.length vc))=(is.set q ⟨r.num,r.dir,.slice va x.ents.length vc,r.data,rfl⟩).map IRec.cells:=by rw[map_set];rfl
   refine⟨q+1,by go_num,by omega,⟨is.set q ⟨r.num,r.dir,.slice va x.ents.length vc,r.data,rfl⟩,.inr ⟨g,gc,arr.setIfInBounds (q*4+2) (.slice va x.ents.length vc),by rw[lM,yB,hil],hgB,a8.set_ _ _,by rw[lM,yB];omega,hcm,by rw[Array.size_setIfInBounds];exact hsz,?_⟩,by rw[yB];exact hil,?_,?_⟩,?_,?_,?_⟩
   .rw[<-c0];exact hri.set (gF _) (by rw[gM,hr];rfl) (by decide) (by omega) _
   .intro j r'' x'' hr'' hx'';by_cases e:q=j
    .subst e;rw[zY c7]at hr'';rw[hx]at hx'';cases hr'';cases hx'';exact⟨r1,r2,r3,λ_=>((b4.mono (show w.heap.size<=wr.drew.heap.size from b7)).keep b8 (λk hk=>b4.ne_blk a8 (by decide) hk)),λh=>by omega⟩
    rw[zX e]at hr'';obtain⟨a1,a2,a3,a4,a5⟩:=hrec j r'' x'' hr'' hx'';exact⟨a1,a2,a3,λh=>(a4 (by omega)).keep hK (λk hk=>(a4 (by omega)).ne_blk hgb (by decide) hk),λh=>a5 (by omega)⟩
   .intro p j ra rb hpj hp hj ha hb k hk;have c1:∀(j:Nat) (rb:IRec),j<q->is[j]? =some rb->∀k,rb.ev.ownBlock=some k->k<wr.heap.size:=by
     intro j rb hj hb k hk;obtain⟨xb,hxb⟩:∃xb,S.ins[j]? =some xb:=⟨_,gE (by omega)⟩;exact((hrec j rb xb hb hxb).2.2.2.1 hj).lt hk
    by_cases e:q=p
    .subst e;rw[zY c7]at ha;rw[zX hpj]at hb;cases ha;intro h;have h1:=c1 j rb (by omega) hb k h;have h2:=b4.ge hk;have h3:wr.drew.heap.size=wr.heap.size:=rfl;omega
    rw[zX e]at ha;by_cases e2:q=j
    .subst e2;rw[zY c7]at hb;cases hb;intro h;have h1:=c1 p ra (by omega) ha k hk;have h2:=b4.ge h;have h3:wr.drew.heap.size=wr.heap.size:=rfl;omega
    rw[zX e2]at hb;exact hdis p j ra rb hpj (by omega) (by omega) ha hb k hk
   .exact b9.trans (hK.below b7 (λi hi h=>by omega))
   .exact a7.far (λe=>(hgb.ne_ hc.box (by decide)) (by simpa using e.symm)) _
   exact⟨c,hK.blk hout (λe=>(hgb.ne_ hout (by decide)) e.symm),hcs⟩
  simp[intOf];omega
 have hq:q=S.ins.length:=by omega
 have HC:=aC hc;have HQ:=aC hq;obtain⟨c,hout,hcs⟩:=hc.out;have h7:=hout.lt;have b3:∀i,i<3->∃u,wr.cell? ⟨w.heap.size+1,i,none⟩=some u:=λi hi=>by rw[hout.cell];exact⟨_,yA (by omega)⟩
 obtain⟨u0,z0⟩:=b3 0 (by omega);obtain⟨u1,z1⟩:=b3 1 (by omega);obtain⟨u2,z2⟩:=b3 2 (by omega);have f0:=hout.frozen 0;have f1:=hout.frozen 1;have f2:=hout.frozen 2;have h8:=hc.box.frozen 1;have h9:=hc.box.frozen 2;have f3:∀ww,Bl w ww->Calls prog 139 #[ov] ww _:=λww hb=>aUO (S.op.map PDesc.cells) ov ww (H0.out.1.below hb (zC _)) (mS _) (pS _) (by rw[lM];exact H0.out.2.2.2.2.2.2.1);have f4:∀ww,Bl w ww->Calls prog 140 #[mv] ww _:=λww hb=>aUP (S.made.map aL) mv ww (H0.out.2.1.below hb (zC _)) (vC _) (aLI _) (by rw[lM];exact H0.out.2.2.2.2.2.2.2.1);clear hc hq hout b3 hcs;go_upto_region 7 with fail;have i0:=d0;go_cut [] (λwx=>∃ov' mv',Blk wx w.heap.size #[.slice ga S.ins.length gc,ov',mv'] 26/\Keep (λk=>k=w.heap.size) wr wx/\OwnP wr.heap.size wx 95 3 ov' (S.op.map PDesc.cells)/\OwnP wr.heap.size wx 3 1 mv' (S.made.map aL))
 case first=>
  refine aH [1,2,5,7,9] true (λw'=>w'.cell? ⟨w.heap.size,2,none⟩=some mv) (by kernel_rfl) (by kernel_rfl) ?_ ?_
  .go_simp
  repeat
   apply aI0 rfl rfl
   focus
    rintro w' s0;go_simp
    first|done|rfl
   simp only[Act.put,sA,sZ,sS]
  refine oS rfl rfl ?_;refine⟨ov,wr.drew,?_,.inl (by go_simp),?_⟩
  focus
   go_simp
   first|done|rfl
  simp only[Act.put,sA,sZ,sS];refine bA rfl rfl ?_;refine aR 139 #[ov] ?hr ?_
  case hr=>
   go_simp
   first|done|rfl
  refine(f3 wr.drew (bel w _)).mono ?_;rintro e w5 ⟨ov',rfl,hownO,hb5⟩;have d3:=OwnP.of_own hownO (by decide) (mS _);have d4:=pN hownO;rw[lM]at hownO;obtain⟨oa,oc,rfl⟩:=oR hownO;have c2:=(HC.out.box.drew).below hb5 c9.lt;have f5:=c2.lt;have f6:=c2.cell 1;have d5:=c2.cell 2;simp only[yD,zH,zV]at f6 d5;have i1:Bel w w5:=⟨(bel w wr.drew).trans (hb5.mono (bel w wr.drew).size)⟩;have HO:=eK d3 hb5 c2;clear hownO d3 hb5 c2;refine⟨_,rfl,.inl d5,?_⟩;simp only[Act.put,sA,sZ,sS]
  repeat
   apply aI0 rfl rfl
   focus
    rintro w' s0;go_simp
    first|done|rfl
   simp only[Act.put,sA,sZ,sS]
  refine bA rfl rfl ?_;refine aR 140 #[mv] ?hr2 ?_
  case hr2=>
   go_simp
   first|done|rfl
  refine(f4 w5 (bel w _)).mono ?_;rintro e w6 ⟨mv',rfl,hownM,hb6⟩;have d6:=OwnP.of_own hownM (by decide) (vC _);have d7:=pN hownM;rw[lM]at hownM;obtain⟨ma,mc,rfl⟩:=oR hownM;have b5:=(HO.out.2.2).below hb6 f5.lt;have i2:=b5.lt;have f7:=b5.cell 1;have d8:=b5.cell 2;have f8:=b5.frozen 1;have f9:=b5.frozen 2;simp only[yD,zH,zV]at f7 d8;have HM:=eK d6 hb6 b5;clear hownM d6 hb6 b5;refine⟨_,rfl,.inl d8,?_⟩;simp only[Act.put,sA,sZ,sS]
  repeat
   apply aI0 rfl rfl
   focus
    rintro w' s0;go_simp
    first|done|rfl
   simp only[Act.put,sA,sZ,sS]
  refine aV rfl rfl ?_;refine⟨w6.setCell ⟨w.heap.size,1,none⟩ (.slice oa S.op.length oc),?_,.inl (by go_simp),?_⟩
  focus
   go_simp
   first|done|rfl
  simp only[Act.put,sA,sZ,sS]
  repeat
   apply aI0 rfl rfl
   focus
    rintro w' s0;go_simp
    first|done|rfl
   simp only[Act.put,sA,sZ,sS]
  refine aV rfl rfl ?_;refine⟨(w6.setCell ⟨w.heap.size,1,none⟩ (.slice oa S.op.length oc)).setCell ⟨w.heap.size,2,none⟩ (.slice ma S.made.length mc),?_,.inr ⟨rfl,rfl⟩,?_⟩
  focus
   go_simp
   first|done|rfl
  simp only[Act.put];refine aS ?_;go_wp2_with fail;go_meet;have b6:Bl wr w5:=(Below.refl wr.heap.size wr).drew.trans HO.out.2.1;have c8:Bl wr w6:=b6.trans (HM.out.2.1.mono b6.size);refine⟨_,_,((HM.out.2.2.set_ 1 _).set_ 2 _),Keep.setCell (S:=λk=>k=w.heap.size) (p:=⟨w.heap.size,2,none⟩) (Keep.setCell (S:=λk=>k=w.heap.size) (p:=⟨w.heap.size,1,none⟩) (Keep.of_below c8 _) (.inl rfl) _) (.inl rfl) _,?_,?_⟩
  .exact HO.out.1.keep (Keep.setCell (S:=λk=>k=w.heap.size) (p:=⟨w.heap.size,2,none⟩) (Keep.setCell (S:=λk=>k=w.heap.size) (p:=⟨w.heap.size,1,none⟩) (Keep.of_below HM.out.2.1 _) (.inl rfl) _) (.inl rfl) _) (λk hk=>HO.out.1.ne_blk HO.out.2.2 (by decide) hk)
  exact(HM.out.1.mono b6.size).keep (Keep.setCell (S:=λk=>k=w.heap.size) (p:=⟨w.heap.size,2,none⟩) (Keep.setCell (S:=λk=>k=w.heap.size) (p:=⟨w.heap.size,1,none⟩) (Keep.refl _ _) (.inl rfl) _) (.inl rfl) _) (λk hk=>HM.out.1.ne_blk HM.out.2.2 (by decide) hk)
 obtain⟨ov',mv',c3,hk,hO,hM⟩:=hcut
 rename World=>wx
 obtain⟨c,hout,hcs⟩:=HC.out.out;have a0:=hk.blk hout (by omega);have i3:=c3.lt;have i4:=a0.lt;obtain⟨-,b0,b1,b2⟩:=gN c3;have b3:∀i,i<3->∃u,wx.cell? ⟨w.heap.size+1,i,none⟩=some u:=λi hi=>by rw[a0.cell];exact⟨_,yA (by omega)⟩
 obtain⟨v0,q0⟩:=b3 0 (by omega);obtain⟨v1,q1⟩:=b3 1 (by omega);obtain⟨v2,q2⟩:=b3 2 (by omega);have g0:=a0.frozen 0;have g1:=a0.frozen 1;have g2:=a0.frozen 2;have i5:=hO.one;have i6:=hM.one;obtain⟨oa,oc,rfl,-⟩:=hO.row;obtain⟨ma,mc,rfl,-⟩:=hM.row;have HE:=nV hk hO hM a0 c3;clear hout a0 hk hO hM b3 c3;go_wp2_with fail;refine xD (v:=.agg #[.slice ga S.ins.length gc,.slice oa S.op.length oc,.slice ma S.made.length mc]) (by unfold results;simp only[results106];go_simp) rfl ?_;have c3:=HE.out.2.2.2.2;obtain⟨is,hO,hil,hrec,hdis⟩:=HC.out.rows;have b7:=b9.size;have c6:Keep (λk=>k=w.heap.size+1) wx (((wx.setCell ⟨w.heap.size+1,0,none⟩ (.slice ga S.ins.length gc)).setCell ⟨w.heap.size+1,1,none⟩ (.slice oa (S.op.map PDesc.cells).length oc)).setCell ⟨w.heap.size+1,2,none⟩ (.slice ma (S.made.map aL).length mc)):=
  Keep.setCell (S:=λk=>k=w.heap.size+1) (p:=⟨w.heap.size+1,2,none⟩) (Keep.setCell (S:=λk=>k=w.heap.size+1) (p:=⟨w.heap.size+1,1,none⟩) (Keep.setCell (S:=λk=>k=w.heap.size+1) (p:=⟨w.heap.size+1,0,none⟩) (Keep.refl _ _) (.inl rfl) _) (.inl rfl) _) (.inl rfl) _
 have b8:Keep (λk=>k=w.heap.size\/k=w.heap.size+1) wr (((wx.setCell ⟨w.heap.size+1,0,none⟩ (.slice ga S.ins.length gc)).setCell ⟨w.heap.size+1,1,none⟩ (.slice oa (S.op.map PDesc.cells).length oc)).setCell ⟨w.heap.size+1,2,none⟩ (.slice ma (S.made.map aL).length mc)):=
  (HE.out.1.mono (λi _ h=>.inl h)).trans (c6.mono (λi _ h=>.inr h)) (λi _ h=>h)
 have c4:=HE.out.2.2.2.1;obtain⟨c',hout',_⟩:=HC.out.out;simp only[lM]at c6 b8;refine⟨_,_,_,rfl,b9.trans (b8.below b7 (λi hi h=>by omega)),?_,?_,is,?_,hil,?_,λp j r r' hpj hp hj=>hdis p j r r' hpj ?_ ?_ hp hj⟩
 .have:=(HE.out.2.1.keep c6 (λk hk=>HE.out.2.1.ne_blk c4 (by decide) hk)).mono b7;rw[lM]at this;exact this
 .have:=(HE.out.2.2.1.keep c6 (λk hk=>HE.out.2.2.1.ne_blk c4 (by decide) hk)).mono b7;rw[lM]at this;exact this
 .exact hO.keep b8 (λk hk h=>by rcases h with h|h<;>first|exact hO.ne_blk HC.out.box (by decide) hk h|exact hO.ne_blk hout' (by decide) hk h)
 .intro j r x hr hx;obtain⟨hjl,_⟩:=gI.1 hx;obtain⟨a1,a2,a3,a4,_⟩:=hrec j r x hr hx;have a4:=a4 (by have:=HQ.out;omega);exact⟨a1,a2,a3,a4.keep b8 (λk hk h=>by rcases h with h|h<;>first|exact a4.ne_blk HC.out.box (by decide) hk h|exact a4.ne_blk hout' (by decide) hk h)⟩
 .obtain⟨h,_⟩:=gI.1 hp;have:=HQ.out;omega
 obtain⟨h,_⟩:=gI.1 hj;have:=HQ.out;omega
end Go.Proofs.YtmkapobnfigedaaGreatDoor
