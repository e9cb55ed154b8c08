/- A part of a proof of a law. Conditions: none. -/
import Derived.Test.YtmkapobnfigedaaGreatDoorDp23
import Derived.Test.YtmkapobnfigedaaGreatDoorDp25
set_option linter.unusedVariables false
set_option linter.unusedSimpArgs false
set_option maxRecDepth 100000
set_option maxHeartbeats 40000000
namespace Go.Proofs.YtmkapobnfigedaaGreatDoor
open Go.Proofs.Tryz List Go.RowKit
theorem aZI {wz:World} {q r:Nat} {c0 c1 c2 a0 a1 a2 a3 a4 a5:Value}:Keep (λg=>g=q\/g=r) wz (((((((((wz.setCell q c0).setCell ⟨q,1,none⟩ c1).setCell ⟨q,2,none⟩ c2).setCell r a0).setCell ⟨r,1,none⟩ a1).setCell ⟨r,2,none⟩ a2).setCell ⟨r,3,none⟩ a3).setCell ⟨r,4,none⟩ a4).setCell ⟨r,5,none⟩ a5):=
 ((((((((((Keep.refl (λg=>g=q\/g=r) wz).setCell (p:=q) (.inl (.inl rfl)) c0).setCell (p:=⟨q,1,none⟩) (.inl (.inl rfl)) c1).setCell (p:=⟨q,2,none⟩) (.inl (.inl rfl)) c2).setCell (p:=r) (.inl (.inr rfl)) a0).setCell (p:=⟨r,1,none⟩) (.inl (.inr rfl)) a1).setCell (p:=⟨r,2,none⟩) (.inl (.inr rfl)) a2).setCell (p:=⟨r,3,none⟩) (.inl (.inr rfl)) a3).setCell (p:=⟨r,4,none⟩) (.inl (.inr rfl)) a4).setCell (p:=⟨r,5,none⟩) (.inl (.inr rfl)) a5)
theorem bBC (Y:PSt × PRes) (S:PSt) (iv ov mv:Value) (kd core fd off nu:Int) (pt p2 dt:ByteArray) (w:World) (h:StRead w iv ov mv S)
 (hin:∀ww,Bl w ww->Calls prog 64 #[.agg #[iv,ov,mv],.agg #[kd,core,fd,off,nu,pt,p2,dt],.int .i64 (-1)] ww (DoOut ww Y)):
 Calls prog 31 #[.agg #[iv,ov,mv],.agg #[kd,core,fd,off,nu,pt,p2,dt]] w λe w'=>Bl w w'/\aED w.heap.size Y.1 Y.2 e w':=by
 obtain⟨ai,ni,ci,ao,no,co,am,nm,cm,rfl,rfl,rfl⟩:=h.slices;clear h;obtain⟨S',code,rf,rn,rd,rs,rl⟩:=Y;go_in;go_upto_region 2 with(go_at_call 64;(refine(hin _ (bel _ _)).mono ?_);rintro e w1 ⟨iv1,ov1,mv1,nv1,rfl,hb1,hs1,hn1⟩;obtain⟨a1,a2,a3,a4,a5,a6,a7,a8,a9,rfl,rfl,rfl⟩:=hs1.forms;obtain⟨m1,m3,rfl⟩:=hn1.formL;simp only[lM]at hn1 |-;have b1:=aC (hn1.mono (B':=w.heap.size+1+1+1+1) (by simp));obtain⟨p,rfl⟩:=hb1.rest;have H1:=aC (hs1.mono (B':=w.heap.size+1+1+1+1) (by simp));clear hs1 hb1 hn1)
 refine aD (F:=λW=>StOwn (w.heap.size+1+1+1+1) W (.slice a1 a2 a3) (.slice a4 a5 a6) (.slice a7 a8 a9) S'/\Blk W (w.heap.size+1+1+1+1+p.len) #[.slice a1 a2 a3,.slice a4 a5 a6,.slice a7 a8 a9] 26/\Blk W (w.heap.size+1+1+1+1+p.len+1) #[code,rf,rn,rd,rs,.slice m1 rl.length m3] 52/\Blk W (w.heap.size+1+1) #[.slice none 0 0,.slice none 0 0,.slice none 0 0] 26/\Blk W (w.heap.size+1+1+1) () 52/\OwnP (w.heap.size+1+1+1+1) W 9 1 (.slice m1 rl.length m3) (rl.map cL)/\Bl w W) ⟨H1.out.on (bel _ _),Blk.alloc (Blk.new_i _ _ _ _) _,Blk.new_i _ _ _ _,aB (Blk.new_i ((w.alloc (.cells #[.slice ai ni ci,.slice ao no co,.slice am nm cm] 26)).alloc (.cells #[kd,core,fd,off,nu,pt,p2,dt] 28)) #[.slice none 0 0,.slice none 0 0,.slice none 0 0] 26 (w.heap.size+1+1)) (bel _ _),aB (Blk.new_i (((w.alloc (.cells #[.slice ai ni ci,.slice ao no co,.slice am nm cm] 26)).alloc (.cells #[kd,core,fd,off,nu,pt,p2,dt] 28)).alloc (.cells #[.slice none 0 0,.slice none 0 0,.slice none 0 0] 26)) #[.int .i64 0,.int .i64 0,.int .i64 0,.bool false,.string ⟨#[]⟩,.slice none 0 0] 52 (w.heap.size+1+1+1)) (bel _ _),b1.out.below (bel _ _),bel w _⟩ ?_;clear H1 b1 hin;obtain⟨b,hbn⟩:=gAB (w.heap.size+1+1+1+1+p.len);have b4:w.heap.size+1+1+1+1<=b:=by omega
 rw[hbn];clear hbn;rintro W' ⟨ho,hb,hr,hN,hR,hnn,hbw⟩;have iB:=hb.lt;have iR:=hr.lt;have iN:=hN.lt;have iS:=hR.lt;have d0:=hb.cell 0;have d1:=hb.cell 1;have d2:=hb.cell 2;have g0:=hr.cell 0;have g1:=hr.cell 1;have g2:=hr.cell 2;have g3:=hr.cell 3;have g4:=hr.cell 4;have g5:=hr.cell 5;have u0:=hN.cell 0;have u1:=hN.cell 1;have u2:=hN.cell 2;have b5:=hN.frozen 0;have b6:=hN.frozen 1;have b7:=hN.frozen 2;have v0:=hR.cell 0;have v1:=hR.cell 1;have v2:=hR.cell 2;have v3:=hR.cell 3;have v4:=hR.cell 4;have v5:=hR.cell 5;have b8:=hR.frozen 0;have b9:=hR.frozen 1;have c3:=hR.frozen 2;have c4:=hR.frozen 3;have c5:=hR.frozen 4;have c6:=hR.frozen 5;simp at d0 d1 d2 g0 g1 g2 g3 g4 g5 u0 u1 u2 v0 v1 v2 v3 v4 v5;have n1:¬b=w.heap.size+1+1:=by omega
 have n2:¬b=w.heap.size+1+1+1:=by omega
 have n3:¬b+1=w.heap.size+1+1:=by omega
 have n4:¬b+1=w.heap.size+1+1+1:=by omega
 have n5:¬w.heap.size+1+1=w.heap.size+1+1+1:=by omega
 have n6:¬w.heap.size+1+1+1=w.heap.size+1+1:=by omega
 have n7:¬w.heap.size+1+1=b:=by omega
 have n8:¬w.heap.size+1+1+1=b:=by omega
 have n9:¬w.heap.size+1+1=b+1:=by omega
 have c7:¬w.heap.size+1+1+1=b+1:=by omega
 have HZ:=qM ho hN hR hbw hnn;clear ho hb hr hN hR hbw hnn;refine aH [2,3] true (λw'=>w'.cell? b=some (.slice a1 a2 a3)/\w'.cell? ⟨b,1,none⟩=some (.slice a4 a5 a6)/\w'.cell? ⟨b,2,none⟩=some (.slice a7 a8 a9)/\w'.cell? ⟨b+1,0,none⟩=some (.int .i64 code)/\w'.cell? ⟨b+1,1,none⟩=some (.int .i64 rf)/\w'.cell? ⟨b+1,2,none⟩=some (.int .i64 rn)/\w'.cell? ⟨b+1,3,none⟩=some (.bool rd)/\w'.cell? ⟨b+1,4,none⟩=some (.string rs)/\w'.cell? ⟨b+1,5,none⟩=some (.slice m1 rl.length m3)) (by kernel_rfl) (by kernel_rfl) ?_ ?_
 · (try dsimp only);(repeat' apply And.intro)<;>go_simp
 repeat
  apply aI0 rfl rfl
  focus
   rintro w' ⟨s0,s1,s2,s3,s4,s5,s6,s7,s8⟩;go_simp
   first|done|rfl
  simp only[Act.put,sA,sZ,sS]
 refine aW rfl rfl ?_;apply Exists.intro;refine⟨?_,?_,?_⟩
 focus
  go_simp
  first|done|rfl
 focus
  refine .inl ?_
  (try dsimp only);(repeat' apply And.intro)<;>go_simp
 simp only[Act.put,sA,sZ,sS];refine aW rfl rfl ?_;apply Exists.intro;refine⟨?_,?_,?_⟩
 focus
  go_simp
  first|done|rfl
 focus
  exact .inr ⟨rfl,rfl⟩
 simp only[Act.put,sA,sZ,sS];refine aU ?_;go_wp2_with fail;have hK:=aUA (wz:=W') (q:=w.heap.size+1+1) (r:=w.heap.size+1+1+1) (c0:=.slice a1 a2 a3) (c1:=.slice a4 a5 a6) (c2:=.slice a7 a8 a9) (a0:=.int .i64 code) (a1:=.int .i64 rf) (a2:=.int .i64 rn) (a3:=.bool rd) (a4:=.string rs) (a5:=.slice m1 rl.length m3);have b0:=HZ.out.1.keep hK (λg hg=>by
  rcases hg with rfl|rfl
  .exact⟨_,26,HZ.out.2.1,by decide,by decide,by decide,by decide⟩
  exact⟨_,52,HZ.out.2.2.1,by decide,by decide,by decide,by decide⟩)
 have b2:=HZ.out.2.2.2.2.keep hK (λg hg e=>by have:=HZ.out.2.2.2.2.ge hg;rcases e with e|e<;>omega);have b3:=HZ.out.2.2.2.1.trans (hK.below HZ.out.2.2.2.1.size (λi hi e=>by omega));exact xD (v:=.tuple #[.agg #[.slice a1 a2 a3,.slice a4 a5 a6,.slice a7 a8 a9],.agg #[code,rf,rn,rd,rs,.slice m1 rl.length m3]]) (by unfold results;simp only[results31];go_simp) rfl ⟨b3,_,_,_,_,rfl,b0.mono (by omega),b2.mono (by omega)⟩
theorem bBD (S:PSt) (iv ov mv:Value) (kd core fd off nu:Int) (pt p2 dt:ByteArray) (w:World) (h:StRead w iv ov mv S) (hwf:S.wf) (M:Bool) (hm:vB w 30 #[.agg #[iv,ov,mv]] (.bool M))
 (hbad:M=false\/(M=true/\core<0)\/(M=true/\¬core<0/\(S.made.length:Int)<=core)\/(M=true/\¬core<0/\¬(S.made.length:Int)<=core/\kd<0)\/(M=true/\¬core<0/\¬(S.made.length:Int)<=core/\¬kd<0/\16<kd)):
 Calls prog 64 #[.agg #[iv,ov,mv],.agg #[kd,core,fd,off,nu,pt,p2,dt],.int .i64 (-1)] w (DoOut w (S,⟨9,0,0,false,⟨#[]⟩,[]⟩)):=by
 have a6:∀ww,Bl w ww->Calls prog 91 #[.agg #[iv,ov,mv]] ww λe w'=>∃iv' ov' mv',e=.returned (.agg #[iv',ov',mv'])/\Bl ww w'/\StOwn ww.heap.size w' iv' ov' mv' S:=λww hb=>aUB S iv ov mv ww (h.below hb (zC _)) hwf;have a8:=λk ww=>bE k ww;obtain⟨am,cm,rfl⟩:∃am cm,mv=.slice am S.made.length cm:=by obtain⟨a,c,e,_⟩:=h.2.1.at_;rw[lM]at e;exact⟨a,c,e⟩
 obtain⟨ai,ni,ci,ao,no,co,am',nm',cm',rfl,rfl,-⟩:=h.slices;clear h hwf;have key:∀W,Blk W w.heap.size #[.slice ai ni ci,.slice ao no co,.slice am S.made.length cm] 26->Blk W (w.heap.size+1+1) #[.slice none 0 0,.slice none 0 0,.slice none 0 0] 26->Blk W (w.heap.size+1+1+1) () 52->Bl w W->True:=λ_ _ _ _ _=>trivial;rcases hbad with hb1|⟨hb1,hb2⟩|⟨hb1,hb2,hb3⟩|⟨hb1,hb2,hb3,hb4⟩|⟨hb1,hb2,hb3,hb4,hb5⟩
 iterate 5
  .subst hb1
   go_in;go_upto_region 2 with(go_at_call 30;refine aE (hm _ (bel _ _)) λp=>?_)
   refine aD (F:=λW=>Blk W w.heap.size #[.slice ai ni ci,.slice ao no co,.slice am S.made.length cm] 26/\Blk W (w.heap.size+1+1) #[.slice none 0 0,.slice none 0 0,.slice none 0 0] 26/\Blk W (w.heap.size+1+1+1) () 52/\Bl w W) ⟨aB (Blk.new w #[.slice ai ni ci,.slice ao no co,.slice am S.made.length cm] 26) (bel _ _),aB (Blk.new_i ((w.alloc (.cells #[.slice ai ni ci,.slice ao no co,.slice am S.made.length cm] 26)).alloc (.cells #[kd,core,fd,off,nu,pt,p2,dt] 28)) #[.slice none 0 0,.slice none 0 0,.slice none 0 0] 26 (w.heap.size+1+1)) (bel _ _),aB (Blk.new_i (((w.alloc (.cells #[.slice ai ni ci,.slice ao no co,.slice am S.made.length cm] 26)).alloc (.cells #[kd,core,fd,off,nu,pt,p2,dt] 28)).alloc (.cells #[.slice none 0 0,.slice none 0 0,.slice none 0 0] 26)) #[.int .i64 0,.int .i64 0,.int .i64 0,.bool false,.string ⟨#[]⟩,.slice none 0 0] 52 (w.heap.size+1+1+1)) (bel _ _),bel w _⟩ ?_;rintro W ⟨hS,hN,hR,hbw⟩;have iS:=hS.lt;have iN:=hN.lt;have iR:=hR.lt;have e0:=hS.cell 0;have e1:=hS.cell 1;have e2:=hS.cell 2;have u0:=hN.cell 0;have a9:=hN.frozen 0;have u1:=hN.cell 1;have b0:=hN.frozen 1;have u2:=hN.cell 2;have c3:=hN.frozen 2;have v0:=hR.cell 0;have c4:=hR.frozen 0;have v1:=hR.cell 1;have c5:=hR.frozen 1;have v2:=hR.cell 2;have c6:=hR.frozen 2;have v3:=hR.cell 3;have c7:=hR.frozen 3;have v4:=hR.cell 4;have c8:=hR.frozen 4;have v5:=hR.cell 5;have c9:=hR.frozen 5;simp at e0 e1 e2 u0 u1 u2 v0 v1 v2 v3 v4 v5;have n5:¬w.heap.size+1+1=w.heap.size+1+1+1:=by omega
   have n6:¬w.heap.size+1+1+1=w.heap.size+1+1:=by omega
   replace a6:=λww (hw:Below W.heap.size W ww)=>a6 ww (hbw.trans (hw.mono hbw.size));have HZ:=eH hN hR hbw;clear hS hN hR hbw hm;go_wp2_with(first|(go_at_call 91;(refine(a6 _ (bel W _)).mono ?_);rintro e w5 ⟨iv5,ov5,mv5,rfl,hb5,hs5⟩;obtain⟨b1,b2,b3,b4,b5,b6,b7,b8,b9,rfl,rfl,rfl⟩:=hs5.forms;obtain⟨p5,rfl⟩:=hb5.rest;have H5:=aC hs5;clear hb5 hs5)|(go_at_call 92;refine aE (a8 _ _) λp6=>?_));have hK:=(aZI (wz:=W) (q:=w.heap.size+1+1) (r:=w.heap.size+1+1+1) (c0:=.slice b1 b2 b3) (c1:=.slice b4 b5 b6) (c2:=.slice b7 b8 b9) (a0:=.int .i64 9) (a1:=.int .i64 0) (a2:=.int .i64 0) (a3:=.bool false) (a4:=.string ⟨#[]⟩) (a5:=.slice none 0 0));have a7:=HZ.out.2.2.trans (hK.below HZ.out.2.2.size (λi hi e=>by omega));refine xD (v:=.tuple #[.agg #[.slice b1 b2 b3,.slice b4 b5 b6,.slice b7 b8 b9],aR 9 0 0,true]) (by unfold results;simp only[results64,aR];go_simp) rfl (DoOut.of (l:=[]) (a7.trans ((bel _ _).mono a7.size)) ?_ (.inl ⟨rfl,rfl⟩))
   first
    |exact(H5.out.above _).mono HZ.out.2.2.size
    |exact((H5.out.on (show Below (W.junk p5).heap.size (W.junk p5) (W.junk (p5.more p6)) by rw[<-World.junk_junk];exact bel _ _)).above _).mono HZ.out.2.2.size
section
theorem aQT (n:Int) (x:PIn) (hd:x.dir=true):∀(es:List PEnt) (a:Int),vU n es a=a+cW n x es
 |[],a=>by simp[vU,cW]
 | e::r,a=>by
   unfold vU cW;rw[aQT n x hd r,hd,xC];split<;>simp<;>omega
theorem vZ (n:Int) (x:PIn) (hd:x.dir=false):∀es:List PEnt,cW n x es=0
 |[]=>rfl
 | e::r=>by unfold cW;rw[vZ n x hd r,hd];simp
theorem aQU (n:Int):∀(xs:List PIn) (a:Int),lkI n xs a=a+dB n xs
 |[],a=>by simp[lkI,dB]
 | x ::r,a=>by
   unfold lkI dB;rw[aQU n r];cases hd:x.dir with
   | true=>rw[zB rfl,aQT n x hd];push_cast;omega
   | false=>rw[zA (by decide),vZ n x hd];simp
theorem mL (S:PSt) (n:Int):bX S n=dR S n:=by unfold bX dR;rw[aQU];omega
variable {S:PSt}
theorem aBL {c:PCall} (hk:c.kind=12\/c.kind=13\/c.kind=14):mS S c=match rM S c.path with
 |.error k=>.error k
 | .ok K=>match S.ins[K]? with
   |none=>.ok (S,PRes.zero)
   |some x=>if c.kind=12 then(if x.dir=true then .ok (S,{ PRes.zero with names:=x.ents.map PEnt.name})else .error 7)else if c.kind=13 then .ok (S,{ PRes.zero with dir:=x.dir,num:=if x.dir=true then 0 else x.data.size})else if x.dir=true then .error 8 else .ok (S,{ PRes.zero with num:=dR S x.num}):=by
 unfold mS rM;rw[zA (by omega),zA (by omega)];by_cases hp:(aA c.path).1≠0
 .rw[zB hp,zB hp]
 rw [zA hp,zA hp];unfold aCP aIA uJ;by_cases hw:(aL S 0 (aA c.path).2).2≠0
 .rw[zB hw];simp only[zB hw]
  repeat' split
  all_goals rfl
 rw[zA hw];simp only[zA hw];rcases hx:S.ins[(aL S 0 (aA c.path).2).1]? with _|x
 .simp
 rcases hk with e|e|e
 .simp only[zB e];rfl
 .simp only[zA (show ¬c.kind=12 by omega),zB e];rfl
 simp only[zA (show ¬c.kind=12 by omega),zA (show ¬c.kind=13 by omega)]
theorem aZZ (M:MayX S) (c:PCall) (hk:c.kind=12\/c.kind=13\/c.kind=14) (iv ov mv:Value) (ww:World) (h:StRead ww iv ov mv S):
 Calls prog 97 #[.agg #[iv,ov,mv],.agg #[c.kind,c.core,c.fd,c.off,c.num,c.path,c.path2,c.data]] ww (aXP ww S (mS S c)):=by
 rw[aBL hk];have hf:=M.find_ c.path;rcases hat:rM S c.path with k|K
 .rw[hat]at hf;obtain⟨hk0,n,hn⟩:=hf;refine(aUD S iv ov mv c.kind c.core c.fd c.off c.num c.path c.path2 c.data ww h M.fineR n k hn hk0).mono ?_;rintro e w' ⟨nv,rfl,hb,-,hz⟩;have:=hz hk0;subst this;exact⟨rfl,hb⟩
 rw [hat]at hf;obtain⟨y,hn,hy,hK⟩:=hf;have hw:=aUE S iv ov mv c.kind c.core c.fd c.off c.num c.path c.path2 c.data ww h M.fineR hk y.num 0 hn rfl K y hK hy;simp only[hy];refine hw.mono ?_;rintro e w' ⟨nv,rfl,hb,hnm,hz⟩;unfold pL at hnm hz |-;by_cases e1:c.kind=12
 .simp only[zB e1]at hnm hz |-;cases hd:y.dir with
  | false=>simp only[hd,if_true,zP,if_false]at hnm hz |-;have:=hz (by decide);subst this;exact⟨rfl,hb⟩
  | true=>simp only[hd,if_true,Bool.true_eq_false,if_false]at hnm hz |-;exact⟨rfl,nv,rfl,hb,hnm⟩
 simp only[zA e1]at hnm hz |-;by_cases e2:c.kind=13
 .simp only[zB e2]at hnm hz |-;refine⟨rfl,nv,?_,hb,hnm⟩;cases hd:y.dir with
  | true=>have:=M.bare y (mG hy) hd;simp[this,PRes.zero];rfl
  | false=>simp[PRes.zero];rfl
 simp only[zA e2]at hnm hz |-;cases hd:y.dir with
 | true=>simp only[hd,if_true]at hnm hz |-;have:=hz (by decide);subst this;exact⟨rfl,hb⟩
 | false=>simp only[hd,zP,if_false]at hnm hz |-;refine⟨rfl,nv,?_,hb,hnm⟩;rw[mL];rfl
end
section
theorem oI (S:PSt) (c:PCall) (r:PRes):jW S c r=match bW S c.path with
 |.error k=>.error k
 | .ok (K,l)=>match S.ins[K]? with
   |none=>.error 0
   | some x=>if bT x.ents l=true then .error 2 else match S.made[c.core.toNat]? with
     |none=>.error 0
     |some m=>if(fB x.ents l ⟨#[]⟩||decide (32<=m))=true then .error 5 else .ok (dF S c K x l m,r):=by
 unfold jW bW pV;by_cases hp:(aA c.path).1≠0
 .rw[zB hp,zB hp]
 rw[zA hp,zA hp];rcases bC S (aA c.path).2 with k|⟨K,l⟩<;>rfl
theorem aBM {ns:List Int} (h:Rise ns) (n:Int) (hb:∀(j:Nat) (a:Int),ns[j]? =some a->0<=a/\a<=1000) (hn:0<=n/\n<=1000):lQ ns n<=ns.length/\(∀(i:Nat) (a:Int),i<lQ ns n->ns[i]? =some a->a<n)/\(∀(i:Nat) (a:Int),lQ ns n<=i->ns[i]? =some a->n<=a):=by
 have hc:∀(j:Nat) (a:Int),ns[j]? =some a->(wJ ns n j<0↔a<n):=λj a ha=>by
  have:=hb j a ha;have e:wJ ns n j=a-n:=by unfold wJ tE;rw[ha];show wrap64 (a-n)=a-n;unfold wrap64;omega
  rw[e];omega
 unfold lQ;obtain⟨h1,h2,h3,h4⟩:=jL (wJ ns n) ns.length 0 ns.length (by omega) (by omega) (λi j a c d e=>by
  rw[hc j _ (gE d)]at e;rw[hc i _ (gE (by omega:i<ns.length))];by_cases hij:i=j
  .subst hij;exact e
  have:=h i j _ _ (gE (by omega)) (gE d) (by omega);omega)
 refine⟨h2,λi a hi ha=>?_,λi a hi ha=>?_⟩
 .exact(hc i a ha).1 (h3 i (by omega) hi)
 obtain⟨hl,_⟩:=gI.1 ha;exact Int.not_lt.1 (λe=>h4 i hi hl ((hc i a ha).2 e))
variable {K k:Nat} {S:PSt} {m:Int} {x:PIn}
theorem nP (hx:S.ins[K]? =some x) (es:List PEnt):(S.ents K x es).nums=S.nums:=by
 unfold PSt.nums PSt.ents;simp only[map_set];apply ext_getElem?;intro i;rw[getElem?_set];split
 .rename_i h
  subst h;rw[gM,hx];obtain⟨hl,_⟩:=gI.1 hx;simp[hl]
 rfl
theorem MayX.fresh (M:MayX S) (hk:k<8) (hm:S.made[k]? =some m) (h0:0<=m):∀(i:Nat) (a:Int),S.nums[i]? =some a->a≠2+k+8*m:=by
 intro i a ha he;obtain⟨x,hx,hn⟩:=sF ha;rcases i with _|i
 .obtain⟨x0,h1,h2,_⟩:=M.head;rw[h1]at hx;cases hx;omega
 have:=M.nums (i+1) x hx (by omega);unfold dL at this;rw[zA (by omega),hn,he,show((2+(k:Int)+8*m-2)%8).toNat=k by omega,hm]at this;simp only[zI]at this;omega
theorem MayX.small (M:MayX S):∀(j:Nat) (a:Int),S.nums[j]? =some a->0<=a/\a<=1000:=by
 intro j a ha;obtain⟨x,hx,hn⟩:=sF ha;have h1:=M.pos hx;rcases j with _|j
 .obtain⟨x0,h2,h3,_⟩:=M.head;rw[h2]at hx;cases hx;omega
 have:=M.nums (j+1) x hx (by omega);unfold dL at this;split at this
 .cases this
 split at this
 .rename_i m hm
  have:=M.made m (mG hm);rename_i h9;simp only[zI]at h9;omega
 cases this
theorem aUZ (M:MayX S) (c:PCall) {l:ByteArray} (hc:c.core=k) (hk:k<8) (hx:S.ins[K]? =some x) (hh:bT x.ents l=false) (hm:S.made[k]? =some m) (h0:0<=m) (h32:m<32):mkK S K x l k m (c.kind==1)=dF S c K x l m:=by
 have e1:=aAB (M.asc x (mG hx)) hh (⟨l,2+(k:Int)+8*m⟩:PEnt);have a3:c.core.toNat=k:=by omega
 unfold mkK dF;simp only[e1,hc];have a1:=nP hx (aY x.ents (cZ x.ents l) ⟨l,2+(k:Int)+8*m⟩);obtain⟨b1,b2,b3⟩:=aBM M.tree.rise (2+(k:Int)+8*m) M.small (by omega);have a2:cT (λy=>decide (2+(k:Int)+8*m<y.num)) (⟨2+(k:Int)+8*m,c.kind==1,[],⟨#[]⟩⟩:PIn) (S.ents K x (aY x.ents (cZ x.ents l) ⟨l,2+(k:Int)+8*m⟩)).ins false []=aY (S.ents K x (aY x.ents (cZ x.ents l) ⟨l,2+(k:Int)+8*m⟩)).ins (lQ S.nums (2+(k:Int)+8*m)) ⟨2+(k:Int)+8*m,c.kind==1,[],⟨#[]⟩⟩:=by
  refine xX ?_ (λi e hi he=>?_) (λe he=>?_)
  .have:(S.ents K x (aY x.ents (cZ x.ents l) ⟨l,2+(k:Int)+8*m⟩)).ins.length=S.nums.length:=by
    unfold PSt.nums PSt.ents;simp
   omega
  .have:=cC he;rw[a1]at this;have:=b2 i e.num hi this;simp only[yW];omega
  have h5:=cC he;rw[a1]at h5;have h6:=b3 _ e.num (zC _) h5;have h7:=M.fresh hk hm h0 _ _ h5;simp only[zI];omega
 have a0:((k:Int)).toNat=k:=by omega
 rw[a0];show PSt.mk _ _ _=PSt.mk _ _ _;congr 1
theorem bAA (M:MayX S) (c:PCall) (hk:c.kind=0\/c.kind=1) (hc0:0<=c.core) (hc1:c.core<S.made.length) (B b:Nat) (iv ov mv:Value) (ww:World) (hb:Blk ww b #[iv,ov,mv] 26) (ho:StOwn B ww iv ov mv S) (hB:B<=ww.heap.size) (hBb:B<=b):
 Calls prog 93 #[.pointer b,.agg #[c.kind,c.core,c.fd,c.off,c.num,c.path,c.path2,c.data]] ww (ByOut B b ww (jW S c PRes.zero)):=by
 rw[oI];have hp:=M.par c.path;rcases hpx:bW S c.path with q|⟨K,l⟩
 .rw[hpx]at hp;obtain⟨hq,D,nm,hpar⟩:=hp;exact aUF b S iv ov mv c.kind c.core c.fd c.off c.num c.path c.path2 c.data ww hb ho.read M.fineR D nm q hpar hq
 rw [hpx]at hp;obtain⟨y,hpar,hy,hat,hd,hl⟩:=hp;simp only[hy];have a1:∀e∈y.ents,e.name.size<=1000000000:=λe he=>by have:=M.tree.name y (mG hy) e he;omega
 cases hh:bT y.ents l with
 | true=>simp only[if_true];obtain⟨e,he,hn,hen,h0,hm⟩:=M.ent_hit hat hy hh;exact aUG b S iv ov mv c.kind c.core c.fd c.off c.num c.path c.path2 c.data ww hb ho.read M.fineR y.num l 0 hpar rfl (by rw[hen];exact h0)
 | false=>
   simp only[zP,if_false];have a0:=M.ent_miss hat hy hh;obtain⟨k,hk0⟩:∃k:Nat,c.core=k:=⟨c.core.toNat,by omega⟩;have a4:k<S.made.length:=by omega
   have a2:k<8:=by have:=M.cores;omega
   have hm:=gE a4;rw[hk0,zJ,hm];simp only;generalize S.made[k]=m at hm;have a3:=M.made m (mG hm);cases hF:fB y.ents l ⟨#[]⟩with
   | true=>simp only[Bool.true_or,if_true];exact aUH b S iv ov mv c.kind k c.fd c.off c.num c.path c.path2 c.data ww hb ho.read M.fineR y.num l 0 hpar rfl a0 K y hat hy (by omega) a1 (by rw[nF];exact hF)
   | false=>
     by_cases h32:32<=m
     .simp only[h32,decide_true,Bool.or_true,if_true];exact aUI b S iv ov mv c.kind k c.fd c.off c.num c.path c.path2 c.data ww hb ho.read M.fineR y.num l 0 hpar rfl a0 K y hat hy (by omega) a1 (by rw[nF];exact hF) k rfl m hm h32
     simp only[h32,decide_false,Bool.or_false,zP,if_false];rw[<-aUZ M c hk0 a2 hy hh hm a3.1 (by omega)];exact aWU B b S iv ov mv c.kind c.fd c.off c.num c.path c.path2 c.data l y.num K y k m ww hb ho hB hBb M.fineR hpar hat hy (by omega) a0 (by rw[nF];exact hF) a1 hm ⟨a3.1,by omega⟩ a2
end
section
theorem aGF (s:ByteArray):∀b p,bZ s b p=true->s.size<=p+b->∀j,p<=j->j<s.size->(s.get! j).toNat≠47
 |0,p,h,hb,j,h1,h2=>by omega
 | b + 1,p,h,hb,j,h1,h2=>by
   unfold bZ at h;rw[zB (by omega),zE]at h;obtain⟨hr,hn⟩:=h;have hd:(Utf8.decode s p).1≠47:=by intro e;unfold fV at hr;rw[e]at hr;simp at hr
   obtain⟨w1,w2,w3⟩:=aTM (t:=s) (p:=p);by_cases e:j<p+(Utf8.decode s p).2
   .by_cases e2:j=p
    .subst e2;exact λh=>hd (aKC.2 h)
    have:=(w3 (j-p) (by omega) (by omega)).2
    rwa [show p+(j-p)=j by omega]at this
   exact aGF s b _ hn (by omega) j (by omega) h2
variable {j:Nat} {p s u x:ByteArray}
theorem aEO (h:dP x=true):(∀j,j<x.size->(x.get! j).toNat≠47)/\0<x.size/\bK x=0:=by
 unfold dP at h;have h0:cU x=0:=by simpa using h
 refine⟨?_,?_,by rw[sK];exact h0⟩
 .unfold cU at h0
  split at h0
  .cases h0
  split at h0
  .cases h0
  split at h0
  .rename_i hc
   exact λj hj=>aGF x _ 0 hc (by omega) j (by omega) hj
  cases h0
 unfold cU at h0;split at h0
 .cases h0
 split at h0
 .cases h0
 rename_i h1;rcases Nat.eq_zero_or_pos x.size with e|e
 .exfalso;apply h1;have:x.toList=[]:=by rw[zW];exact zT e
  rw[this];rfl
 exact e
theorem aWD (h1:bK x≠801) (h2:bK x≠800):dP x=true:=by
 rw[sK]at h1 h2;unfold dP;rcases uY x with h|h|h
 .rw[h];rfl
 .exact absurd h h2
 exact absurd h h1
theorem tR:∀(ns ms:List ByteArray) (s:ByteArray),bI (ns++ms) s=bI ms (bI ns s)
 |[],_,_=>rfl
 |n::r,ms,s=>tR r ms _
theorem mZ:∀(ns:List ByteArray) (s:ByteArray),∃u,bI ns s=s++u
 | [],s=>⟨⟨#[]⟩,by
   show s=s++⟨#[]⟩;apply ByteArray.ext;rw[ByteArray.data_append];simp⟩
 | n::r,s=>by
   obtain⟨u,hu⟩:=mZ r (s++((⟨#[47]⟩:ByteArray)++n));exact⟨((⟨#[47]⟩:ByteArray)++n)++u,by
    show bI r _=_;rw[hu,ByteArray.append_assoc]⟩
theorem aGG (ns:List ByteArray) (s:ByteArray):s.size<=(bI ns s).size:=by obtain⟨u,hu⟩:=mZ ns s;rw[hu,xA];omega
theorem aGH (h:j<s.size):(s++u).get! j=s.get! j:=by
 have h2:j<(s++u).size:=by rw[xA];omega
 rw[dU _ _ h2,dU _ _ h];exact ByteArray.getElem_append_left h
theorem aSP (h:j<u.size):(s++u).get! (s.size+j)=u.get! j:=by
 have h2:s.size+j<(s++u).size:=by rw[xA];omega
 rw[dU _ _ h2,dU _ _ h,ByteArray.getElem_append_right (by omega)];simp only[Nat.add_sub_cancel_left]
theorem aWE (a n u:ByteArray):(a++n++u).extract a.size (a.size+n.size)=n:=by
 apply ByteArray.ext;rw[ByteArray.data_extract,ByteArray.data_append,ByteArray.data_append];rcases a with⟨⟨a⟩⟩
 rcases n with⟨⟨n⟩⟩
 rcases u with⟨⟨u⟩⟩
 apply Array.toList_inj.1;simp only[Array.toList_extract,Array.toList_append,extract_eq_take_drop];show List.take (a.length+n.length-a.length) (List.drop a.length (a++n++u))=n;rw[yU,drop_left,Nat.add_sub_cancel_left,take_left]
theorem nT (n:ByteArray):((⟨#[47]⟩:ByteArray)++n).size=1+n.size:=by rw[xA];rfl
theorem aLZ:∀(ns:List ByteArray) (s0:ByteArray) (acc:List ByteArray),(∀x∈ns,dP x=true)->ns≠[]->aZ (bI ns s0) ((bI ns s0).size-s0.size) (s0.size+1) (s0.size+1) acc=(0,acc++ns)
 |[],_,_,_,h=>absurd rfl h
 | n :: r,s0,acc,hn,_=>by
   obtain⟨c47,c0,cR⟩:=aEO (hn n zQ);have IH:=fun(s1:ByteArray) (hr:r≠[])=>aLZ r s1 (acc++[n]) (λx hx=>hn x (zL _ hx)) hr;have e0:bI (n::r) s0=bI r (s0++((⟨#[47]⟩:ByteArray)++n)):=rfl;rw[e0];obtain⟨s1,hs1⟩:∃s1,s1=s0++((⟨#[47]⟩:ByteArray)++n):=⟨_,rfl⟩;rw[<-hs1];have h1:s1.size=s0.size+1+n.size:=by rw[hs1,xA,nT];omega
   have a0:s1=(s0++(⟨#[47]⟩:ByteArray))++n:=by rw[hs1,ByteArray.append_assoc]
   have h0:(s0++(⟨#[47]⟩:ByteArray)).size=s0.size+1:=by rw[xA];rfl
   obtain⟨u,hu⟩:=mZ r s1;have hT:(bI r s1).size=s1.size+u.size:=by rw[hu,xA]
   have hg:∀j,j<n.size->(bI r s1).get! (s0.size+1+j)=n.get! j:=λj hj=>by rw[hu,aGH (by omega),a0,<-h0,aSP hj]
   have hx:(bI r s1).extract (s0.size+1) s1.size=n:=by have:=aWE (s0++(⟨#[47]⟩:ByteArray)) n u;rw[<-a0,<-hu,h0,<-h1]at this;exact this
   rw[show (bI r s1).size-s0.size=(u.size+1)+n.size by omega,aEV _ n.size (u.size+1) _ _ acc (by omega) (λj hj=>by rw[hg j hj];exact c47 j hj),<-h1];unfold aZ;by_cases hlt:s1.size<(bI r s1).size
   .rw [dif_pos hlt];cases r with
    |nil=>exact absurd hlt (Nat.lt_irrefl _)
    | cons m r'=>
      have hb:((bI (m::r') s1)[s1.size]'hlt).toNat=47:=by rw[<-dU _ _ hlt];obtain⟨v,hv⟩:=mZ r' (s1++((⟨#[47]⟩:ByteArray)++m));have e1:bI (m::r') s1=bI r' (s1++((⟨#[47]⟩:ByteArray)++m)):=rfl;rw[e1,hv,aGH (by rw[xA,nT];omega)];have:=aSP (s:=s1) (u:=(⟨#[47]⟩:ByteArray)++m) (j:=0) (by rw[nT];omega);rw[zN]at this;rw[this,aGH (by decide)];rfl
      rw[zB hb,hx,cR,zA (by decide),zA (by decide)];have:=IH s1 (by simp);rw[show (bI (m::r') s1).size-s1.size=u.size by omega]at this;rw[this,yU];rfl
   rw[dif_neg hlt,hx,cR,zA (by decide),zA (by decide)];cases r with
   | nil=>
     have:u.size=0:=by omega
     rw[this];rfl
   | cons m r'=>exfalso;have h2:=aGG r' (s1++((⟨#[47]⟩:ByteArray)++m));have e1:bI (m::r') s1=bI r' (s1++((⟨#[47]⟩:ByteArray)++m)):=rfl;rw[<-e1,xA,nT]at h2;omega
theorem aOJ (acc:List ByteArray) (z:ByteArray):(bI (acc++[z]) ⟨#[]⟩).size=(bI acc ⟨#[]⟩).size+1+z.size:=by rw[tR];show(bI acc ⟨#[]⟩++((⟨#[47]⟩:ByteArray)++z)).size=_;rw[xA,nT];omega
theorem sD (s:ByteArray):∀(n fr i:Nat) (acc:List ByteArray),n=s.size+1-i->fr<=i->i<=s.size+1->(bI acc ⟨#[]⟩).size+1=fr->(i=s.size+1->fr=i)->(∀x∈acc,dP x=true)->(aZ s n fr i acc).1=0->(∀x∈(aZ s n fr i acc).2,dP x=true)/\(bI (aZ s n fr i acc).2 ⟨#[]⟩).size=s.size
 | 0,fr,i,acc,hn,h1,h2,h3,h4,h5,_=>⟨h5,by
   show(bI acc ⟨#[]⟩).size=s.size;have:=h4 (by omega);omega⟩
 | n + 1,fr,i,acc,hn,h1,h2,h3,h4,h5,h=>by
   have hz:∀j,j<=s.size->fr<=j->bK (s.extract fr j)≠801->bK (s.extract fr j)≠800->(∀x∈acc++[s.extract fr j],dP x=true)/\(bI (acc++[s.extract fr j]) ⟨#[]⟩).size+1=j+1:=λj hj hf a b=>by
    refine⟨λx hx=>?_,?_⟩
    .rcases mem_append.1 hx with hx|hx
     .exact h5 x hx
     rw[mem_singleton.1 hx];exact aWD a b
    rw[aOJ,ByteArray.size_extract,Nat.min_eq_left hj];omega
   unfold aZ at h |-;by_cases hi:i<s.size
   .rw[dif_pos hi]at h |-;by_cases hb:(s[i]'hi).toNat=47
    .rw[zB hb]at h |-;by_cases a:bK (s.extract fr i)=801
     .rw[zB a]at h;cases h
     by_cases b:bK (s.extract fr i)=800
     .rw[zA a,zB b]at h;cases h
     rw[zA a,zA b]at h |-;obtain⟨z1,z2⟩:=hz i (by omega) h1 a b;exact sD s n _ _ _ (by omega) (by omega) (by omega) z2 (λ_=>rfl) z1 h
    rw[zA hb]at h |-;exact sD s n _ _ _ (by omega) (by omega) (by omega) h3 (λe=>by omega) h5 h
   rw[dif_neg hi]at h |-;have a0:i=s.size:=by omega
   by_cases a:bK (s.extract fr i)=801
   .rw[zB a]at h;cases h
   by_cases b:bK (s.extract fr i)=800
   .rw[zA a,zB b]at h;cases h
   rw[zA a,zA b]at h |-;obtain⟨z1,z2⟩:=hz i (by omega) h1 a b;exact sD s n _ _ _ (by omega) (by omega) (by omega) z2 (λ_=>rfl) z1 h
theorem uS (hp:(aA p).1=0):(∀x∈(aA p).2,dP x=true)/\(aA p).2.length<=4/\(bI (aA p).2 ⟨#[]⟩).size<=64:=by
 rw[<-eX]at hp |-;unfold bU at hp |-;by_cases a:64<p.size
 .rw[zB a]at hp;cases hp
 rw[zA a]at hp |-;by_cases b:0<p.size;rotate_left
 .rw[dif_neg b]at hp;cases hp
 rw[dif_pos b]at hp |-;by_cases c:(p[0]'b).toNat=47;rotate_left
 .rw[zA c]at hp;cases hp
 rw[zB c]at hp |-;by_cases d:p.size=1
 .rw[zB d];refine⟨λx hx=>?_,by decide,by decide⟩;cases hx
 rw[zA d]at hp |-;by_cases e:(aZ p p.size 1 1 []).1≠0
 .rw[zB e]at hp;exact absurd hp e
 rw[zA e]at hp |-;by_cases f:4<(aZ p p.size 1 1 []).2.length
 .rw[zB f]at hp;cases hp
 rw[zA f];obtain⟨n1,n2⟩:=sD p p.size 1 1 [] (by omega) (by omega) (by omega) rfl (λe=>by omega) (λx hx=>by cases hx) (Decidable.of_not_not e);exact⟨n1,by show(aZ p p.size 1 1 []).2.length<=4;omega,by show(bI (aZ p p.size 1 1 []).2 ⟨#[]⟩).size<=64;omega⟩
theorem aJD {ns:List ByteArray} (h:∀x∈ns,dP x=true) (h4:ns.length<=4) (hs:(bI ns ⟨#[]⟩).size<=64) (hne:ns≠[]):0<(bI ns ⟨#[]⟩).size/\aA (bI ns ⟨#[]⟩)=(0,ns):=by
 have hg:=aLZ ns ⟨#[]⟩ [] h hne;have a0:aZ (bI ns ⟨#[]⟩) (bI ns ⟨#[]⟩).size 1 1 []=(0,ns):=hg;have h1:2<=(bI ns ⟨#[]⟩).size/\((bI ns ⟨#[]⟩).get! 0).toNat=47:=by
  cases ns with
  |nil=>exact absurd rfl hne
  | cons n r=>
    obtain⟨_,c0,_⟩:=aEO (h n zQ);obtain⟨u,hu⟩:=mZ r ((⟨#[]⟩:ByteArray)++((⟨#[47]⟩:ByteArray)++n));have e1:bI (n::r) ⟨#[]⟩=bI r ((⟨#[]⟩:ByteArray)++((⟨#[47]⟩:ByteArray)++n)):=rfl;have z:((⟨#[]⟩:ByteArray)++((⟨#[47]⟩:ByteArray)++n)).size=1+n.size:=by rw[xA,nT];exact zM _
    rw[e1,hu];refine⟨by rw[xA,z];omega,?_⟩;rw[aGH (by omega)];have:=aSP (s:=(⟨#[]⟩:ByteArray)) (u:=(⟨#[47]⟩:ByteArray)++n) (j:=0) (by rw[nT];omega);have h0:((⟨#[]⟩:ByteArray)++((⟨#[47]⟩:ByteArray)++n)).get! 0=((⟨#[47]⟩:ByteArray)++n).get! 0:=this;rw[h0,aGH (by decide)];rfl
 refine⟨by omega,?_⟩;rw[<-eX];unfold bU;have hb:0<(bI ns ⟨#[]⟩).size:=by omega
 rw[zA (by omega),dif_pos hb,zB (by rw[<-dU _ _ hb];exact h1.2),zA (by omega),a0,zA (by simp),zA (by simp;omega)]
theorem aJE (hp:(aA p).1=0) (k:Nat):∃q,eD ((aA p).2.take k)=(q,0)/\aA q=(0,(aA p).2.take k):=by
 obtain⟨h1,h2,h3⟩:=uS hp;generalize(aA p).2=ns at *;have t1:∀x∈ns.take k,dP x=true:=λx hx=>h1 x (mem_of_mem_take hx);have t2:(ns.take k).length<=4:=by rw[zU];omega
 have t3:(bI (ns.take k) ⟨#[]⟩).size<=64:=by have:=aGG (ns.drop k) (bI (ns.take k) ⟨#[]⟩);rw[<-tR,take_append_drop]at this;omega
 unfold eD;rw[zB (all_eq_true.2 t1),zA (by omega),zA (by omega)];rcases e:ns.take k with _|⟨n,r⟩
 .exact⟨⟨#[47]⟩,rfl,by rw[<-eX];rfl⟩
 rw[<-e];obtain⟨p1,p2⟩:=aJD t1 t2 t3 (by rw[e];simp);rw[zA (by omega)];exact⟨_,rfl,p2⟩
theorem aOK {S:PSt} (hm:cO S=true) (hp:(aA p).1=0) (k:Nat):eV S (eD ((aA p).2.take k)).1=(if (aL S 0 ((aA p).2.take k)).2≠0 then(0,(aL S 0 ((aA p).2.take k)).2)else(gP S (aL S 0 ((aA p).2.take k)).1,0)):=by obtain⟨q,h1,h2⟩:=aJE hp k;rw[h1];unfold eV;rw[h2,zB hm,zA (by simp)]
end
section
section
variable {α:Type}
theorem aER {R:α->α->Prop} {l:List α}:l.Pairwise R↔∀(i j:Nat) (a b:α),l[i]? =some a->l[j]? =some b->i<j->R a b:=by
 rw[pairwise_iff_getElem];constructor
 .intro h i j a b ha hb hij;obtain⟨h1,rfl⟩:=gI.1 ha;obtain⟨h2,rfl⟩:=gI.1 hb;exact h i j h1 h2 hij
 intro h i j hi hj hij;exact h i j _ _ (gE hi) (gE hj) hij
theorem aCT {l:List α} {k:Nat} {a:α} (h:a∈l.take k):∃i,i<k/\l[i]? =some a:=by
 obtain⟨i,hi⟩:=mem_iff_getElem?.1 h;rw[yO]at hi;split at hi
 .exact⟨i,by assumption,hi⟩
 cases hi
theorem aOS {l:List α} {k:Nat} {a:α} (h:a∈l.drop k):∃i,k<=i/\l[i]? =some a:=by obtain⟨i,hi⟩:=mem_iff_getElem?.1 h;rw[yN]at hi;exact⟨k+i,by omega,hi⟩
theorem aJP {R:α->α->Prop} {l:List α} {k:Nat} {x:α} (h:l.Pairwise R) (h1:∀(i:Nat) (a:α),i<k->l[i]? =some a->R a x) (h2:∀(i:Nat) (a:α),k<=i->l[i]? =some a->R x a):(aY l k x).Pairwise R:=by
 unfold aY;have h3:=h;rw[<-take_append_drop k l,pairwise_append]at h3;obtain⟨p1,p2,p3⟩:=h3;rw[pairwise_append,pairwise_cons];refine⟨p1,⟨λb hb=>?_,p2⟩,λa ha b hb=>?_⟩
 .obtain⟨i,hi,hb⟩:=aOS hb;exact h2 i b hi hb
 rcases mem_cons.1 hb with rfl|hb
 .obtain⟨i,hi,ha⟩:=aCT ha;exact h1 i a hi ha
 exact p3 a ha b hb
theorem eB {l:List α} {k:Nat} {x a:α}:a∈aY l k x↔a=x\/a∈l:=by
 unfold aY;rw[yR,mem_cons]
 have:a∈l↔a∈l.take k\/a∈l.drop k:=by rw[<-yR,take_append_drop]
 rw[this];constructor
 iterate 2
  .rintro(h|h|h)
   .exact .inr (.inl h)
   .exact .inl h
   exact .inr (.inr h)
theorem uX (p:α->Bool) (l:List α) (k:Nat) (x:α):(aY l k x).countP p=l.countP p+if p x=true then 1 else 0:=by
 have h:l.countP p=(l.take k).countP p+(l.drop k).countP p:=by rw[<-countP_append,take_append_drop]
 unfold aY;rw[countP_append,countP_cons,h];omega
end
def sH (b:Nat) (es:List PEnt):Nat:=es.countP λe=>(aV e.name).toNat==b
theorem rJ {ns:List Int}:∀(es:List PEnt) (prev:Option ByteArray) (sl:List Int),fA ns prev sl es=true->(∀x∈sl,x<=4)->(∀e∈es,dP e.name=true/\e.num≠1/\0<=aK ns e.num)/\∀(b:Nat) (x:Int),sl[b]? =some x->x+sH b es<=4
 | [],_,sl,_,h=>⟨λe he=>(by cases he),λb x hx=>by
   have:=h x (mG hx);simp[sH];omega⟩
 | e ::r,prev,sl,h,h4=>by
   unfold fA at h;split at h
   .cases h
   rename_i n1;split at h
   .cases h
   split at h
   .cases h
   rename_i n2;split at h
   .cases h
   rename_i n3;split at h;rotate_left
   .cases h
   rename_i x hx;split at h
   .cases h
   rename_i n4;obtain⟨a1,a2⟩:=rJ r _ _ h (λy hy=>by
    rcases mem_or_eq_of_mem_set hy with hy|hy
    .exact h4 y hy
    omega)
   refine⟨λa ha=>?_,λb y hy=>?_⟩
   .rcases mem_cons.1 ha with rfl|ha
    .exact⟨by simpa using n1,n2,by omega⟩
    exact a1 a ha
   unfold sH;rw[countP_cons];by_cases e1:(aV e.name).toNat=b
   .subst e1;rw[hx]at hy;cases hy;obtain⟨hl,_⟩:=gI.1 hx;have:=a2 (aV e.name).toNat (x+1) (by rw[zY hl]);unfold sH at this;simp only[beq_self_eq_true,if_true];omega
   have:=a2 b y (by rw[zX e1];exact hy);unfold sH at this;rw[zA (by simpa using e1)];omega
theorem tU {ns:List Int}:∀(es:List PEnt) (prev:Option ByteArray) (sl:List Int),sl.length=8->es.Pairwise (λa b=>dJ a.name b.name<0)->(∀q,prev=some q->∀a∈es,dJ q a.name<0)->(∀e∈es,dP e.name=true/\e.num≠1/\0<=aK ns e.num)->(∀(b:Nat) (x:Int),sl[b]? =some x->x+sH b es<=4)->fA ns prev sl es=true
 |[],_,_,_,_,_,_,_=>rfl
 | e::r,prev,sl,hl,hp,hq,he,hs=>by
   obtain⟨n1,n2,n3⟩:=he e zQ;rw[pairwise_cons]at hp;unfold fA;rw[zA (by rw[n1];decide)];have a0:hY prev e.name=false:=by
    cases prev with
    |none=>rfl
    | some q=>have:=hq q rfl e zQ;unfold hY;simp only;rw[nE,decide_eq_true this];rfl
   rw[zA (by rw[a0];decide),zA n2,zA (by omega)];have hb:=gS e.name;obtain⟨x,hx⟩:∃x,sl[(aV e.name).toNat]? =some x:=⟨_,gE (by omega)⟩;rw[hx];simp only;have h0:=hs _ x hx;unfold sH at h0;rw[countP_cons]at h0;simp only[beq_self_eq_true,if_true]at h0;rw[zA (by omega)];refine tU r _ _ (by rw[yB];exact hl) hp.2 (λq hq a ha=>by cases hq;exact hp.1 a ha) (λa ha=>he a (zL _ ha)) (λb y hy=>?_);by_cases e1:(aV e.name).toNat=b
   .subst e1;rw[zY (by omega)]at hy;cases hy;unfold sH;omega
   rw[zX e1]at hy;have:=hs b y hy;unfold sH at this |-;rw[countP_cons,zA (by simpa using e1)]at this;omega
theorem aCU (s:ByteArray):∀es:List PEnt,(∀e∈es,dP e.name=true)->oU s ⟨#[]⟩ es=sH (aV s).toNat es
 |[],_=>rfl
 | e::r,h=>by
   have ih:=aCU s r λa ha=>h a (zL _ ha);have h0:=(aEO (h e zQ)).2.1;have h1:(e.name.toList==(⟨#[]⟩:ByteArray).toList)=false:=by rw[Bool.eq_false_iff];intro hh;have:=qE.1 hh;rw[this]at h0;exact absurd h0 (by decide)
   have b1:=gS s;have b2:=gS e.name;have h2:(aV e.name==aV s)=((aV e.name).toNat==(aV s).toNat):=by rw[Bool.eq_iff_iff,beq_iff_eq,beq_iff_eq];omega
   unfold oU oT sH;rw[countP_cons,h1,h2,ih];unfold sH;simp only[Bool.not_false,xC];split<;>omega
theorem nW (n:Int):∀(a b:List PIn),dB n (a++b)=dB n a+dB n b
 |[],b=>by simp[dB]
 | x::r,b=>by show cW n x x.ents+dB n (r++b)=cW n x x.ents+dB n r+dB n b;rw[nW n r b];omega
theorem aHA (n:Int) (l:List PIn) (k:Nat) (z:PIn):dB n (aY l k z)=dB n l+cW n z z.ents:=by
 have h:dB n l=dB n (l.take k)+dB n (l.drop k):=by rw[<-nW,take_append_drop]
 unfold aY;rw[nW];show _+(cW n z z.ents+dB n (l.drop k))=_;omega
theorem aCV (n:Int):∀(l:List PIn) (k:Nat) (x y:PIn),l[k]? =some x->dB n (l.set k y)+cW n x x.ents=dB n l+cW n y y.ents
 |[],k,x,y,h=>by simp at h
 | a::r,0,x,y,h=>by simp at h;subst h;show cW n y y.ents+dB n r+cW n a a.ents=cW n a a.ents+dB n r+cW n y y.ents;omega
 | a::r,k+1,x,y,h=>by have:=aCV n r k x y (by simpa using h);show cW n a a.ents+dB n (r.set k y)+cW n x x.ents=cW n a a.ents+dB n r+cW n y y.ents;omega
theorem lC (n:Int) (x:PIn):∀es:List PEnt,cW n x es=es.countP λe=>x.dir&&(e.num==n)
 |[]=>rfl
 | e::r=>by unfold cW;rw[lC n x r,countP_cons];omega
theorem xL (n:Int):∀(l:List PIn),(∀x∈l,∀e∈x.ents,e.num≠n)->dB n l=0
 |[],_=>rfl
 | x::r,h=>by
   show cW n x x.ents+dB n r=0;rw[xL n r λy hy=>h y (zL _ hy),lC,countP_eq_zero.2 (λe he hh=>by
    rw[zE,beq_iff_eq]at hh;exact h x zQ e he hh.2)]
theorem xM {S S':PSt} (hm:S'.made.length=S.made.length) (hk:∀n,0<=aK S.nums n->(∀x,S.ins[(aK S.nums n).toNat]? =some x->x.dir≠true)->0<=aK S'.nums n/\∃y,S'.ins[(aK S'.nums n).toNat]? =some y/\y.dir≠true):∀(ds:List PDesc) (p:Option PDesc),fL S p ds=true->fL S' p ds=true
 |[],_,_=>rfl
 | d::r,p,h=>by
   unfold fL at h |-;rw[hm];by_cases a1:d.core<0
   .rw[zB a1]at h;cases h
   rw[zA a1]at h |-;by_cases a2:S.made.length<=d.core
   .rw[zB a2]at h;cases h
   rw[zA a2]at h |-;by_cases a3:d.fd<0
   .rw[zB a3]at h;cases h
   rw[zA a3]at h |-;by_cases a4:4<=d.fd
   .rw[zB a4]at h;cases h
   rw[zA a4]at h |-;by_cases a5:kN p d=true
   .rw[zB a5]at h;cases h
   rw[zA a5]at h |-;by_cases a6:aK S.nums d.num<0
   .rw[zB a6]at h;cases h
   rw[zA a6]at h;rcases hx:S.ins[(aK S.nums d.num).toNat]? with _|x
   .rw[hx]at h;cases h
   rw[hx]at h;simp only at h;by_cases a7:x.dir=true
   .rw[zB a7]at h;cases h
   rw[zA a7]at h;obtain⟨k1,y,k2,k3⟩:=hk d.num (by omega) (λz hz=>by rw[hx]at hz;cases hz;exact a7);rw[zA (by omega),k2];simp only;rw[zA k3];exact xM hm hk r _ h
theorem sI {S:PSt} (hr:Rise S.nums) {n:Int}:0<=aK S.nums n↔∃x∈S.ins,x.num=n:=by
 rw[bG hr];constructor
 .intro h;rcases gC S n with⟨k,x,hx,hn⟩|⟨_,h2⟩
  .exact⟨x,mG hx,hn⟩
  omega
 rintro⟨x,hx,rfl⟩;obtain⟨k,hk⟩:=getElem?_of_mem hx;rw[cS hr hk];omega
theorem aHB {S:PSt} (hr:Rise S.nums) {x:PIn} (hx:x∈S.ins):S.ins[(aK S.nums x.num).toNat]? =some x:=by obtain⟨k,hk⟩:=getElem?_of_mem hx;rw[bG hr,cS hr hk];exact hk
theorem aTA {S:PSt} (M:MayX S) (Q:MayQ S) (c:PCall) {K k:Nat} {x:PIn} {l:ByteArray} {m:Int} (hc:c.core=k) (hk:k<8) (hx:S.ins[K]? =some x) (hd:x.dir=true) (hl:dP l=true) (hh:bT x.ents l=false) (hf:fB x.ents l ⟨#[]⟩=false) (hm:S.made[k]? =some m) (h32:m<32) (hwf:(dF S c K x l m).wf):MayQ (dF S c K x l m):=by
 have h0:=(M.made m (mG hm)).1;have d4:c.core.toNat=k:=by omega
 obtain⟨kl,_⟩:=gI.1 hm;obtain⟨Kl,_⟩:=gI.1 hx;have a8:=mG hx;obtain⟨b1,b2,b3⟩:=aBM M.tree.rise (2+(k:Int)+8*m) M.small (by omega);have c8:=M.fresh hk hm h0;obtain⟨x0,hx0,h01,h0d⟩:=M.head;have d5:1<=lQ S.nums (2+(k:Int)+8*m):=by
  rcases Nat.eq_zero_or_pos (lQ S.nums (2+(k:Int)+8*m))with e|e
  .have:=b3 0 1 (by omega) (by rw[<-h01];exact cC hx0);omega
  exact e
 have e6:S.nums.length=S.ins.length:=by unfold PSt.nums;simp
 obtain⟨nw,hnw⟩:∃nw,nw=2+(k:Int)+8*m:=⟨_,rfl⟩;have d1:(nw-2)%8=k/\(nw-2)/8=m/\2<=nw:=by omega
 obtain⟨x',hx'⟩:∃x':PIn,x'={ x with ents:=aY x.ents (cZ x.ents l) ⟨l,nw⟩}:=⟨_,rfl⟩;obtain⟨z,hz⟩:∃z:PIn,z=⟨nw,c.kind==1,[],⟨#[]⟩⟩:=⟨_,rfl⟩;have a1:(dF S c K x l m).ins=aY (S.ins.set K x') (lQ S.nums nw) z:=by unfold dF PSt.ents;simp only;rw[hx',hz,hnw,hc]
 have a0:(dF S c K x l m).made=S.made.set k (m+1):=by unfold dF;simp only;rw[d4]
 have d2:(dF S c K x l m).op=S.op:=rfl;generalize dF S c K x l m=S' at *;rw[<-hnw]at b1 b2 b3 c8 d5;have a9:x'.num=x.num:=by rw[hx']
 have b7:x'.dir=x.dir:=by rw[hx']
 have c9:x'.data=x.data:=by rw[hx']
 have c6:x'.ents=aY x.ents (cZ x.ents l) ⟨l,nw⟩:=by rw[hx']
 have c7:z.num=nw:=by rw[hz]
 have d0:z.ents=[]:=by rw[hz]
 have d6:z.data.size=0:=by rw[hz];rfl
 have b8:∀y∈S.ins,y.num≠nw:=λy hy=>by obtain⟨i,hi⟩:=getElem?_of_mem hy;exact c8 i _ (cC hi)
 have b6:∀y∈S'.ins,y=z\/y=x'\/y∈S.ins:=λy hy=>by
  rw[a1,eB]at hy;rcases hy with rfl|hy
  .exact .inl rfl
  rcases mem_or_eq_of_mem_set hy with hy|hy
  .exact .inr (.inr hy)
  exact .inr (.inl hy)
 have b9:x'∈S'.ins:=by rw[a1,eB];exact .inr (mG (i:=K) (by rw[zY Kl]))
 have d7:z∈S'.ins:=by rw[a1,eB];exact .inl rfl
 have a4:∀y∈S.ins,∃y'∈S'.ins,y'.num=y.num/\y'.dir=y.dir/\∀e∈y.ents,e∈y'.ents:=λy hy=>by
  obtain⟨i,hi⟩:=getElem?_of_mem hy;by_cases e:K=i
  .subst e;rw[hx]at hi;cases hi;exact⟨x',b9,a9,b7,λe he=>by rw[c6,eB];exact .inr he⟩
  exact⟨y,by rw[a1,eB];exact .inr (mG (i:=i) (by rw[zX e];exact hi)),rfl,rfl,λe he=>he⟩
 have d8:(S.ins.set K x').map PIn.num=S.nums:=by
  unfold PSt.nums;rw[map_set,a9];apply ext_getElem?;intro i;rw[getElem?_set];split
  .rename_i h
   subst h;rw[gM,hx];simp[Kl]
  rfl
 have c0:S'.nums=aY S.nums (lQ S.nums nw) nw:=by unfold PSt.nums;rw[a1,qG,d8,c7];rfl
 have a3:Rise S'.nums:=by
  rw[c0];exact aER.1 (aJP (R:=λa b:Int=>a<b) (aER.2 M.tree.rise) b2 (λi a hi ha=>by
   have:=b3 i a hi ha;have:=c8 i a ha;omega))
 have a5:∀n,0<=aK S.nums n->0<=aK S'.nums n:=λn hn=>by obtain⟨y,hy,e⟩:=(sI M.tree.rise).1 hn;obtain⟨y',hy',e',_⟩:=a4 y hy;exact(sI a3).2 ⟨y',hy',by rw[e',e]⟩
 have a2:∀n,Reach S n->Reach S' n:=by
  intro n hn
  induction hn with
  |root=>exact .root
  | @step y e hy hym hem ih=>obtain⟨y',hy',e',_,he'⟩:=a4 y hym;rw[<-e']at ih;exact .step ih hy' (he' e hem)
 have d9:Reach S' x'.num:=by
  rw[a9];by_cases e:x.num=1
  .rw[e];exact .root
  exact a2 _ (((Q.tree x a8 e).1 hd).2)
 have d3:Reach S' nw:=Reach.step (e:=⟨l,nw⟩) d9 b9 (by rw[c6,eB];exact .inl rfl);have a7:∀n,bX S' n=bX S n+if nw=n then 1 else 0:=λn=>by
  rw[mL,mL];unfold dR;have h1:=aCV n S.ins K x x' hx;rw[a1,aHA,d0];rw[lC n x,lC n x',c6,uX,b7,hd]at h1;have h2:cW n z []=0:=rfl;rw[h2];simp only[xC,beq_iff_eq]at h1;split at h1
  .rw[zB (by assumption)];omega
  rw[zA (by assumption)];omega
 have e0:bX S nw=0:=by
  rw[mL];unfold dR;rw[xL]
  .rfl
  intro y hy e he e2;have:=nV _ _ _ _ (Q.ents y hy) e he;obtain⟨y2,hy2,e3⟩:=(sI M.tree.rise).1 this;exact b8 y2 hy2 (by rw[e3,e2])
 obtain⟨s1,s2⟩:=rJ x.ents none _ (Q.ents x a8) (by decide);have b0:fA S'.nums none [0,0,0,0,0,0,0,0] x'.ents=true:=by
  rw[c6];have b4:=M.asc x a8;obtain⟨c1,c2,c3⟩:=xZ b4 l;have c4:=sL b4 hh;refine tU _ _ _ rfl (aJP (aER.2 b4) c2 (λi a hi ha=>?_)) (λq hq=>by cases hq) (λe he=>?_) (λb y hy=>?_)
  .have h1:=c3 i a hi ha;have h2:=c4 a (mG ha);rcases aAN a.name l with h|h|h
   .exact absurd h h1
   .exact absurd h h2
   exact h
  .rcases eB.1 he with rfl|he
   .exact⟨hl,by show nw≠1;omega,(sI a3).2 ⟨z,d7,c7⟩⟩
   obtain⟨t1,t2,t3⟩:=s1 e he;exact⟨t1,t2,a5 _ t3⟩
  have h1:=s2 b y hy;have e7:y=0:=by have:=mG hy;simpa using this
  unfold sH at h1 |-;rw[uX];split
  .rename_i hb
   have e4:(aV l).toNat=b:=by simpa using hb
   unfold fB at hf;rw[aCU l x.ents λe he=>(s1 e he).1,e4]at hf;have:=of_decide_eq_false hf;unfold sH at this;omega
  omega
 have a6:∀y∈S'.ins,y≠z->∃u∈S.ins,u.num=y.num/\u.dir=y.dir/\u.data=y.data:=λy hy hne=>by
  rcases b6 y hy with h|h|h
  .exact absurd h hne
  .rw[h];exact⟨x,a8,a9.symm,b7.symm,c9.symm⟩
  exact⟨y,h,rfl,rfl,rfl⟩
 refine⟨hwf,a3,?_,?_,?_,?_,?_,?_,?_,?_,?_,?_⟩
 .rw[a1,pU _ _ _ (by rw[yB];omega),zB (by omega)];by_cases e:K=0
  .rw[e]at hx |-;rw[hx0]at hx;cases hx;rw[zY (by omega)];exact⟨x',rfl,by rw[a9];exact h01,by rw[b7];exact h0d⟩
  rw[zX e];exact⟨x0,hx0,h01,h0d⟩
 .rw[a0,yB];exact Q.core
 .intro y hy;rw[a0]at hy;rcases mem_or_eq_of_mem_set hy with hy|hy
  .exact M.made y hy
  omega
 .intro y hy hne;have c5:∀n,dL S.made n=true->dL S'.made n=true:=λn hn=>by
   unfold dL at hn |-;split at hn
   .cases hn
   rename_i h2;rw[zA h2,a0];by_cases e:k=((n-2)%8).toNat
   .rw[<-e]at hn |-;rw[hm]at hn;rw[zY kl];simp only[zI]at hn |-;omega
   rw[zX e];exact hn
  rcases b6 y hy with h|h|h
  .rw[h,c7];unfold dL;rw[zA (by omega),a0,d1.1,zJ,zY kl,d1.2.1];simp only[zI];omega
  .rw[h,a9];exact c5 _ (Q.nums x a8 (by rw[h,a9]at hne;exact hne))
  exact c5 _ (Q.nums y h hne)
 .intro y hy;rcases b6 y hy with h|h|h
  .rw[h];omega
  .rw[h,c9];exact Q.data x a8
  exact Q.data y h
 .intro y hy b5;rcases b6 y hy with h|h|h
  .rw[h];exact d0
  .rw[h,b7,hd]at b5;cases b5
  exact Q.file y h b5
 .intro y hy b5;rcases b6 y hy with h|h|h
  .rw[h];exact d6
  .rw[h,c9];exact Q.bare x a8 hd
  exact Q.bare y h b5
 .intro y hy;rcases b6 y hy with h|h|h
  .rw[h,d0];rfl
  .rw[h];exact b0
  have e5:=M.asc y h;obtain⟨t1,t2⟩:=rJ y.ents none _ (Q.ents y h) (by decide);exact tU _ _ _ rfl (aER.2 e5) (λq hq=>by cases hq) (λe he=>⟨(t1 e he).1,(t1 e he).2.1,a5 _ (t1 e he).2.2⟩) t2
 .rw[d2];refine xM (S:=S) (by rw[a0,yB]) (λn hn hf=>?_) _ _ Q.descs;obtain⟨y,hy,rfl⟩:=(sI M.tree.rise).1 hn;have b5:=hf y (aHB M.tree.rise hy);obtain⟨y',hy',e1,e2,_⟩:=a4 y hy;refine⟨a5 _ hn,y',?_,by rw[e2];exact b5⟩;rw[<-e1];exact aHB a3 hy'
 intro y hy hne;by_cases e:y=z
 .rw[e,c7,a7,zB rfl,e0];exact⟨λ_=>⟨rfl,d3⟩,λ_=>.inl d3⟩
 obtain⟨u,hu,e1,e2,_⟩:=a6 y hy e;rw[<-e1]at hne |-;rw[<-e2,a7,zA (λh=>b8 u hu h.symm),d2];obtain⟨t1,t2⟩:=Q.tree u hu hne;refine⟨λhd=>?_,λhd=>?_⟩
 .obtain⟨v1,v2⟩:=t1 hd;exact⟨by rw[v1];rfl,a2 _ v2⟩
 rcases t2 hd with v|v
 .exact .inl (a2 _ v)
 exact .inr v
end
end Go.Proofs.YtmkapobnfigedaaGreatDoor
