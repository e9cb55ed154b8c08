/- A part of a proof of a law. Conditions: none. -/
import Derived.Test.YtmkapobnfigedaaGreatDoorDp15
set_option linter.unusedVariables false
set_option linter.unusedSimpArgs false
set_option maxRecDepth 100000
set_option maxHeartbeats 40000000
namespace Go.Proofs.YtmkapobnfigedaaGreatDoor
open Go.Proofs.Tryz List Go.RowKit
section
theorem aQN {ns:List Int} {n:Int} (h:0<=aK ns n):ns[(aK ns n).toNat]? =some n:=by
 unfold aK at h |-;split at h
 .rename_i hc
  rw[zB hc];simp only[zE,zI]at hc;obtain⟨h1,h2⟩:=hc;rw[zJ];unfold tK at h2;rw[gE h1]at h2 |-;simp only at h2;unfold jS at h2;congr 1;split at h2
  .exact absurd h2 (by decide)
  split at h2
  .exact absurd h2 (by decide)
  omega
 omega
theorem uH {α:Type} (l:List α) (i:Nat) (hi:i<l.length) (q:Nat):(aM l i)[q]? =if q<i then l[q]? else l[q+1]? :=by
 unfold aM;have a0:(l.take i).length=i:=by rw[zU];omega
 by_cases h1:q<i
 .rw[zB h1,zZ (by omega),yO,zB h1]
 rw[zA h1,yC (by omega),a0,yN];congr 1;omega
theorem gF {α:Type} (l:List α) (i:Nat) (hi:i<l.length):(aM l i).length=l.length-1:=by unfold aM;rw[lP,zU,yK];omega
variable {B K:Nat} {S:PSt} {c:PCall} {mv ov:Value} {w:World} {x:PIn}
theorem StOwn.delIns {iv:Value} (h:StOwn B w iv ov mv S) (i:Nat) (hi:i<S.ins.length):
 ∃is:List IRec,OwnP B w 68 4 iv (is.map IRec.cells)/\is.length=S.ins.length/\∀(w1:World) (iv':Value) (X:Nat->Prop),Keep X w w1->(∀g,X g->∃c,Blk w g c 68)->OwnP B w1 68 4 iv' ((is.map IRec.cells).take i++(is.map IRec.cells).drop (i+1))->StOwn B w1 iv' ov mv { S with ins:=aM S.ins i}:=by
 obtain⟨h1,h2,is,h3,h4,h5,h6⟩:=h;refine⟨is,h3,h4,λw1 iv' X hk hX hiv=>?_⟩;have key:∀{e:TypeId} {k:Nat} {v:Value} {rows:List (List Value)},OwnP B w e k v rows->e≠68->OwnP B w1 e k v rows:=by intro e k v rows ho he;refine ho.keep hk (λg hg hx=>?_);obtain⟨c,hc⟩:=hX g hx;exact ho.ne_blk hc he hg rfl
 have a0:∀(q:Nat) (r:IRec) (x:PIn),is[q]? =some r->S.ins[q]? =some x->r.num=x.num/\r.dir=x.dir/\r.data=x.data/\OwnP B w1 97 2 r.ev (x.ents.map PEnt.cells):=λq r x hr hx=>by obtain⟨a1,a2,a3,a4⟩:=h5 q r x hr hx;exact⟨a1,a2,a3,key a4 (by decide)⟩
 refine⟨key h1 (by decide),key h2 (by decide),aM is i,?_,?_,?_,?_⟩
 .rw[uG];exact hiv
 .show(aM is i).length=(aM S.ins i).length;rw[gF _ _ (by omega),gF _ _ hi,h4]
 .intro q r x hr hx;have hx:(aM S.ins i)[q]? =some x:=hx;rw[uH _ _ (by omega)]at hr;rw[uH _ _ hi]at hx;by_cases c1:q<i
  .rw[zB c1]at hr hx;exact a0 q r x hr hx
  rw[zA c1]at hr hx;exact a0 (q+1) r x hr hx
 intro p q r r' hpq hp hq k hkk;rw[uH _ _ (by omega)]at hp hq;have a5:∀(p:Nat) (r:IRec),(if p<i then is[p]? else is[p+1]?)=some r->is[if p<i then p else p+1]? =some r:=by
  intro p r hp;by_cases c1:p<i
  .rw[zB c1]at hp |-;exact hp
  rw[zA c1]at hp |-;exact hp
 refine h6 _ _ r r' ?_ (a5 p r hp) (a5 q r' hq) k hkk;split<;>split<;>omega
def qW (S:PSt) (num:Int):PSt:=match S.ins[(aK S.nums num).toNat]? with
 |none=>S
 |some x=>if(!x.dir&&((dR S num:Int)==0)&&!nC S.op num)=true then{ S with ins:=aM S.ins (aK S.nums num).toNat}else S
theorem aMY {d b bi cap:Nat} {nv:Value} {r:PRes} (h:DPart B w d b bi cap ov mv nv S c r) (hB:B<=w.heap.size) (hwf:S.wf) (num:Int) (hx:S.ins[K]? =some x) (hfn:aK S.nums num=K):
 Calls prog 145 #[.pointer d,num] w λe w'=>e=.returned (.tuple #[])/\Below B w w'/\DPart B w' d b bi cap ov mv nv (qW S num) c r:=by
 have a1:∀ww,Bl w ww->Calls prog 102 #[.pointer b,num] ww _:=λww hb=>jU b S num ww ((SP.of_blk h.hb h.st.read).below hb (zC _)) hwf;have a0:∀ww,Bl w ww->Calls prog 181 #[.agg #[.slice bi S.ins.length cap,ov,mv],num] ww _:=λww hb=>aMV _ _ _ S num ww (h.st.read.below hb (zC _)) hwf;have a3:∀ww,Bl w ww->Calls prog 72 #[.pointer b,num] ww _:=λww hb=>aTH b S num ww ((SP.of_blk h.hb h.st.read).below hb (zC _)) hwf;have hM:qW S num=if(!x.dir&&((dR S num:Int)==0)&&!nC S.op num)=true then{ S with ins:=aM S.ins K}else S:=by unfold qW;rw[hfn,zJ,hx]
 rw[hM];rw[hfn]at a1;have iD:=h.hD.lt;have iL:=h.hb.lt;have d0:w.cell? d=some (.pointer b):=h.hD.cell 0;obtain⟨-,b0,b1,b2⟩:=gR h.hb;obtain⟨iI,x0,x1,x3⟩:=h.dat hx;obtain⟨hKl,-⟩:=gI.1 hx;have b7:(K:Int)<S.ins.length:=by omega
 have b8:(Value.slice bi S.ins.length cap).oneCell'=true:=rfl;have b9:=h.st.1.one;have c0:=h.st.2.1.one;have HH:=aC h;have HW:=aC hwf;generalize hLv:((dR S num:Int)==0)=L0;generalize dR S num=L at a0 hLv;generalize nC S.op num=O at a3;clear hM h hx hfn x0 x3 hwf;generalize x.dir=xd at x1;rcases xd with _|_
 .rcases L0 with _|_
  .simp only[Bool.not_false,Bool.and_false,Bool.and_true,yJ,xC,zP,if_false]
   go_in;go_wp2_with(first|(go_at_call 102;refine aE (a1 _ (bel _ _)) λp=>?_)|(go_at_call 181;refine aE (a0 _ (bel _ _)) λp=>?_));exact xE (v:=.tuple #[]) (by simp[results,go_sem]) rfl ⟨rfl,(bel w _).mono hB,HH.out.below (bel _ _)⟩
  rcases O with _|_
  .simp only[Bool.not_false,Bool.not_true,Bool.and_false,Bool.and_true,yJ,xC,zP,if_true,if_false];have c1:IntKind.i64.wrap ((K:Int)+1)=(K:Int)+1:=I64.wrap ⟨by omega,by have:=HW.out.1;omega⟩
   go_in;go_upto_region 2 with(first|(go_at_call 102;refine aE (a1 _ (bel _ _)) λp=>?_)|(go_at_call 181;refine aE (a0 _ (bel _ _)) λp=>?_)|(go_at_call 72;refine aE (a3 _ (bel _ _)) λp=>?_))
   refine aD (F:=λwA=>DPart B wA d b bi cap ov mv nv S c r/\Bl w wA) ⟨HH.out.below (bel _ _),bel _ _⟩ ?_;clear iD iL d0 b0 b1 b2 iI x1;rintro wA ⟨hA,hbA⟩;have iD:=hA.hD.lt;have iL:=hA.hb.lt;have d0:wA.cell? d=some (.pointer b):=hA.hD.cell 0;have b0:wA.cell? b=some (.slice bi S.ins.length cap):=by have:=hA.hb.cell 0;simpa using this
   obtain⟨is,hi1,hi2,hi3⟩:=hA.st.delIns K hKl;have a5:=aBT B bi cap (is.map IRec.cells) K wA.drew (by rw[lM,hi2];exact hi1.keep ((Keep.refl (λ_=>False) wA).drew) (λ_ _ h=>h)) (gL _) (pK _) (by rw[lM,hi2];exact hKl) (by rw[lM,hi2];exact HW.out.1);rw[lM,hi2]at a5;have HA:=eH hA hbA hi3;clear hA hbA hi3 hi1;refine aH [14,17] true (λw'=>w'.cell? d=some (.pointer b)/\w'.cell? b=some (.slice bi S.ins.length cap)) (by kernel_rfl) (by kernel_rfl) ?_ ?_
   · (try dsimp only);(repeat' apply And.intro)<;>go_simp
   repeat
    apply aI0 rfl rfl
    focus
     rintro w' ⟨s0,s1⟩;go_simp
     first|done|rfl
    simp only[Act.put,sA,sZ,sS]
   refine bB rfl rfl ?_;refine aS 182 #[.slice bi S.ins.length cap,.int .i64 K,.int .i64 ((K:Int)+1)] ?hr ?_
   case hr=>
    go_simp
    first|done|rfl
   refine a5.mono ?_;rintro e w5 ⟨rfl,ho5,hk5⟩;obtain⟨hA,hbA,hi3⟩:=HA.out;have a2:Keep (λg=>g=bi) wA w5:=((Keep.refl (λg=>g=bi) wA).drew).trans hk5 (λ_ _ h=>h);obtain⟨hBi,arr,hbi⟩:B<=bi/\∃arr,Blk wA bi arr 68:=by
    obtain⟨_,_,is',h3,_⟩:=hA.st;rcases h3 with⟨h0,_⟩|⟨g,cap',arr,heq,hgB,hgb,_⟩
    .cases h0
    simp only[zO,zF,yG]at heq;obtain⟨⟨rfl,-,-⟩,-,-⟩:=heq;exact⟨hgB,arr,hgb⟩
   have hX:∀g,g=bi->∃c,Blk wA g c 68:=λg hg=>by rw[hg];exact⟨arr,hbi⟩
   have a6:=hi3 w5 _ _ a2 hX ho5;have a9:∀{g:Nat} {cc:Array Value} {t:TypeId},Blk wA g cc t->t≠68->¬g=bi:=λhb ht hg=>by subst hg;exact hb.ne_ hbi ht rfl
   have a7:=a2.blk hA.hD (a9 hA.hD (by decide));have a4:=a2.blk hA.hb (a9 hA.hb (by decide));have b4:=hA.nm.keep a2 (λg hg h=>by
    obtain⟨cc,hcc⟩:=hA.nm.blk_of hg;exact a9 hcc (by decide) h)
   have b6:B<=wA.heap.size:=zD hB hbA.size;have a8:Below B w w5:=(hbA.mono hB).trans (a2.below b6 (λi hi h=>by omega));have y0:w5.cell? d=some (.pointer b):=a7.cell 0;have y1:w5.cell? b=some (.slice bi S.ins.length cap):=by have:=a4.cell 0;simpa using this
   have c2:=a4.frozen 0;have jD:=a7.lt;have jB:=a4.lt;have b3:Keep (λg=>g=b) w5 (w5.setCell b (.slice bi (S.ins.length-1) cap)):=Keep.setCell (S:=λg=>g=b) (p:=b) (Keep.refl _ _) (.inl rfl) _;have hp:DPart B (w5.setCell b (.slice bi (S.ins.length-1) cap)) d b bi cap ov mv nv { S with ins:=aM S.ins K} c r:=⟨hA.hBb,hA.hBd,b3.blk a7 (a7.ne_ a4 (by decide)),by rw[gF _ _ hKl];have:=a4.set_ 0 (.slice bi (S.ins.length-1) cap);simpa using this,by rw[gF _ _ hKl];exact a6.keep b3 (λg hg=>by rw[hg];exact⟨_,26,a4,by decide,by decide,by decide,by decide⟩),b4.keep b3 (λg hg=>b4.ne_blk a4 (by decide) hg)⟩;have b5:Below B w (w5.setCell b (.slice bi (S.ins.length-1) cap)):=a8.setCell (p:=b) hA.hBb _;have HF:=bJ hp b5;clear hA hbA a6 a7 a4 b4 a2 hk5 ho5 a9 a8 b3 hp b5 a5 hbi hX hi3;refine⟨_,rfl,.inl ⟨y0,y1⟩,?_⟩;simp only[Act.put,sA,sZ,sS]
   repeat
    apply aI0 rfl rfl
    focus
     rintro w' ⟨s0,s1⟩;go_simp
     first|done|rfl
    simp only[Act.put,sA,sZ,sS]
   refine aW rfl rfl ?_;apply Exists.intro;refine⟨?_,.inr ⟨rfl,rfl⟩,?_⟩
   focus
    go_simp;rfl
   simp only[Act.put];refine aU ?_;exact xE (v:=.tuple #[]) (by simp[results,go_sem]) rfl ⟨rfl,HF.out.2,HF.out.1⟩
  simp only[Bool.not_false,Bool.not_true,Bool.and_false,Bool.and_true,yJ,xC,zP,if_true,if_false];go_in;go_wp2_with(first|(go_at_call 102;refine aE (a1 _ (bel _ _)) λp=>?_)|(go_at_call 181;refine aE (a0 _ (bel _ _)) λp=>?_)|(go_at_call 72;refine aE (a3 _ (bel _ _)) λp=>?_));exact xE (v:=.tuple #[]) (by simp[results,go_sem]) rfl ⟨rfl,(bel w _).mono hB,HH.out.below (bel _ _)⟩
 simp only[Bool.not_true,yJ,zP,if_false];go_in;go_wp2_with(first|(go_at_call 102;refine aE (a1 _ (bel _ _)) λp=>?_));exact xE (v:=.tuple #[]) (by simp[results,go_sem]) rfl ⟨rfl,(bel w _).mono hB,HH.out.below (bel _ _)⟩
def mH (S:PSt) (c:PCall) (r:PRes):Except Int (PSt × PRes):=match eL S c with
 |none=>.error 4
 |some y=>.ok (qW { S with op:=aM S.op (cV (eW c) S.op).toNat} y.2.num,r)
theorem aQO (hf:Fine S) (h:eL S c=some (K,x)):aK S.nums x.num=K:=by
 unfold eL at h;split at h
 .cases h
 split at h
 .cases h
 rename_i y hy;split at h
 .cases h
 rename_i z hz;cases h;have h0:=hf.opens y (mG hy);have h1:=aQN h0;have h2:S.nums[(aK S.nums y.num).toNat]? =some x.num:=by show(S.ins.map PIn.num)[(aK S.nums y.num).toNat]? =some x.num;rw[gM,hz];rfl
 rw[h2]at h1;simp only[zF]at h1;rw[h1];omega
theorem aKZ (B d b:Nat) (S:PSt) (c:PCall) (r:PRes) (w:World) (h:DoAt B w d b S c r) (hB:B<=w.heap.size) (hf:Fine S) (hk:c.kind=3):
 Calls prog 108 #[.pointer d] w (bL B w d b c (mH S c r)):=by
 obtain⟨bi,cap,ov,mv,nv,hP⟩:=h.part hf.pos;have ht:=hP.file hf;unfold qO at ht;unfold mH;rcases hX:eL S c with _|⟨K,x⟩
 .rw[hX]at ht;simp only at ht |-;have iD:=hP.hD.lt;have d1:w.cell? ⟨d,1,none⟩=some (.int .i64 c.kind):=hP.hD.cell 1;rw[hk]at d1;clear h hP hX hf hk
  go_in;go_wp2_with(go_at_call 143;refine ht.mono ?_;rintro e w1 ⟨hb1,rfl⟩;obtain⟨p,rfl⟩:=hb1.rest;clear hb1);exact⟨rfl,(bel w _).mono hB,rfl⟩
 rw[hX]at ht;simp only at ht |-;obtain⟨hx,hKl⟩:=kF hX;have a9:=aQO hf hX;have c0:=lK (eW c) S.op;have c1:0<=cV (eW c) S.op:=by
  unfold eL at hX;split at hX
  .cases hX
  omega
 obtain⟨I,hI⟩:∃I:Nat,cV (eW c) S.op=I:=⟨(cV (eW c) S.op).toNat,by omega⟩;rw[hI]at ht c0 |-;rw[zJ];have c2:I<S.op.length:=by omega
 have c9:IntKind.i64.wrap ((I:Int)+1)=(I:Int)+1:=I64.wrap ⟨by omega,by have:=hf.wf.2.1;omega⟩;have iD:=hP.hD.lt;have d1:w.cell? ⟨d,1,none⟩=some (.int .i64 c.kind):=hP.hD.cell 1;rw[hk]at d1;obtain⟨go,co,rfl,-⟩:=hP.st.1.some_ (by rw[lM];omega);rw[lM]at hP;have HP:=aC hP;have HS:=eH hf hx a9;have c3:=hf.wf.2.1;clear h hP hX hI c1 hf hx a9 c0;go_in;go_upto_region 8 with(go_at_call 143;refine ht.mono ?_;rintro e w1 ⟨hb1,rfl⟩;have HB:=aC hb1;clear hb1)
 refine aD (F:=λwA=>DPart B wA d b bi cap (.slice go S.op.length co) mv nv S c r/\Bl w wA) ⟨HP.out.below HB.out,HB.out⟩ ?_;clear ht iD HP HB d1;rintro wA ⟨hA,hbA⟩;have iD:=hA.hD.lt;have iL:=hA.hb.lt;have d0:wA.cell? d=some (.pointer b):=hA.hD.cell 0;have b1:wA.cell? ⟨b,1,none⟩=some (.slice go S.op.length co):=by have:=hA.hb.cell 1;simpa using this
 have a8:=aRF B go co (S.op.map PDesc.cells) I wA.drew (by rw[lM];exact hA.st.1.keep ((Keep.refl (λ_=>False) wA).drew) (λ_ _ h=>h)) (nD _) (qA _) (by rw[lM];exact c2) (by rw[lM];exact c3);rw[lM]at a8;have HA:=bJ hA hbA;clear hA hbA;refine aH [14,17] true (λw'=>w'.cell? d=some (.pointer b)/\w'.cell? ⟨b,1,none⟩=some (.slice go S.op.length co)) (by kernel_rfl) (by kernel_rfl) ?_ ?_
 · (try dsimp only);(repeat' apply And.intro)<;>go_simp
 repeat
  apply aI0 rfl rfl
  focus
   rintro w' ⟨s0,s1⟩;go_simp
   first|done|rfl
  simp only[Act.put,sA,sZ,sS]
 refine bB rfl rfl ?_;refine aS 144 #[.slice go S.op.length co,.int .i64 I,.int .i64 ((I:Int)+1)] ?hr ?_
 case hr=>
  go_simp
  first|done|rfl
 refine a8.mono ?_;rintro e w5 ⟨rfl,ho5,hk5⟩;obtain⟨hA,hbA⟩:=HA.out;have a0:Keep (λg=>(Value.slice go S.op.length co).ownBlock=some g) wA w5:=by have h0:Keep (λg=>g=go) wA w5:=((Keep.refl (λg=>g=go) wA).drew).trans hk5 (λ_ _ h=>h);exact h0.mono (λi _ hi=>by rw[hi];rfl)
 have b0:=hA.st.setOp3 (op':=aM S.op I) a0 (by rw[uG];exact ho5);have b2:∀{g:Nat} {cc:Array Value} {t:TypeId},Blk wA g cc t->t≠95->¬(Value.slice go S.op.length co).ownBlock=some g:=λhb ht hg=>hA.st.1.ne_blk hb (λe=>ht e.symm) hg rfl;have b3:=a0.blk hA.hD (b2 hA.hD (by decide));have a7:=a0.blk hA.hb (b2 hA.hb (by decide));have b8:=hA.nm.keep a0 (λg hg h=>by
  obtain⟨cc,hcc⟩:=hA.nm.blk_of hg;exact b2 hcc (by decide) h)
 have c4:B<=wA.heap.size:=zD hB hbA.size;have b4:Below B w w5:=(hbA.mono hB).trans (a0.below c4 (λi hi h=>by have:=hA.st.1.ge h;omega));have y0:w5.cell? d=some (.pointer b):=b3.cell 0;have y1:w5.cell? ⟨b,1,none⟩=some (.slice go S.op.length co):=by have:=a7.cell 1;simpa using this
 have d2:=a7.frozen 1;have jD:=b3.lt;have jB:=a7.lt;have b6:Keep (λg=>g=b) w5 (w5.setCell ⟨b,1,none⟩ (.slice go (S.op.length-1) co)):=Keep.setCell (S:=λg=>g=b) (p:=⟨b,1,none⟩) (Keep.refl _ _) (.inl rfl) _;have hp:DPart B (w5.setCell ⟨b,1,none⟩ (.slice go (S.op.length-1) co)) d b bi cap (.slice go (S.op.length-1) co) mv nv { S with op:=aM S.op I} c r:=⟨hA.hBb,hA.hBd,b6.blk b3 (b3.ne_ a7 (by decide)),by have:=a7.set_ 1 (.slice go (S.op.length-1) co);simpa using this,b0.keep b6 (λg hg=>by rw[hg];exact⟨_,26,a7,by decide,by decide,by decide,by decide⟩),b8.keep b6 (λg hg=>b8.ne_blk a7 (by decide) hg)⟩;have b9:Below B w (w5.setCell ⟨b,1,none⟩ (.slice go (S.op.length-1) co)):=b4.setCell (p:=⟨b,1,none⟩) hA.hBb _;obtain⟨hf,hx,a9⟩:=HS.out;have b5:({ S with op:=aM S.op I}:PSt).wf:=by
  obtain⟨a1,a2,a3,a4,a5,a6⟩:=hf.wf;refine⟨a1,?_,a3,a4,λy hy=>?_,a6⟩
  .show(aM S.op I).length<=_;unfold aM;simp;omega
  have c5:y∈S.op.take I++S.op.drop (I+1):=hy;exact a5 y ((mem_append.1 c5).elim mem_of_mem_take mem_of_mem_drop)
 have c6:=aMY hp (zD hB b9.size) b5 x.num hx a9;obtain⟨hge,cc,hcc⟩:=hA.ge_bi hx;have b7:=a0.blk hcc (b2 hcc (by decide));have c7:¬bi=b:=b7.ne_ a7 (by decide);have c8:¬b=bi:=λe=>c7 e.symm;have d3:=b7.lt;have d4:w5.cell? ⟨bi,K*4,none⟩=some (.int .i64 x.num):=by rw[b7.cell,<-hcc.cell];exact(hA.dat hx).2.1
 have HF:=eH hp b9 hf;clear hA hbA b0 b3 a7 b8 a0 hk5 ho5 b2 b4 b6 hp b9 b5 hf hx a9 a8 hge hcc b7;refine⟨_,rfl,.inl ⟨y0,y1⟩,?_⟩;simp only[Act.put,sA,sZ,sS]
 repeat
  apply aI0 rfl rfl
  focus
   rintro w' ⟨s0,s1⟩;go_simp
   first|done|rfl
  simp only[Act.put,sA,sZ,sS]
 refine aW rfl rfl ?_;apply Exists.intro;refine⟨?_,.inr ⟨rfl,rfl⟩,?_⟩
 focus
  go_simp;rfl
 simp only[Act.put];refine aU ?_;clear d0 b1 iD iL;go_wp2_with(go_at_call 145;refine c6.mono ?_;rintro e w7 ⟨rfl,hb7,hp7⟩;have H7:=bJ hb7 hp7;clear hb7 hp7);exact xE (v:=.tuple #[]) (by simp[results,go_sem]) rfl ⟨HF.out.2.1.trans H7.out.1,rfl,H7.out.2.at_⟩
end
section
def rM (S:PSt) (s:ByteArray):Except Int Nat:=if(aA s).1≠0 then .error (eE (aA s).1)else if(aL S 0 (aA s).2).2≠0 then .error (aL S 0 (aA s).2).2 else .ok (aL S 0 (aA s).2).1
def bW (S:PSt) (s:ByteArray):Except Int (Nat × ByteArray):=if(aA s).1≠0 then .error (eE (aA s).1)else bC S (aA s).2
variable {B K b bi capi capm d gm:Nat} {S:PSt} {c:PCall} {es:List PEnt} {nv ov:Value} {r:PRes} {s:ByteArray} {w:World} {x:PIn}
theorem aMQ {l:ByteArray} (h:bW S s=.ok (K,l)):∃x,S.ins[K]? =some x/\x.dir=true:=by
 unfold bW at h;split at h
 .cases h
 exact mP h
theorem aUJ (hf:Fine S) (h:rM S s=.ok K):∃x,S.ins[K]? =some x:=by
 unfold rM at h;split at h
 .cases h
 split at h
 .cases h
 cases h;exact⟨_,gE (fO hf (aA s).2 0 hf.pos)⟩
theorem rN (d b:Nat) (S:PSt) (c:PCall) (s:ByteArray) (w:World) (h:DR w d b S c) (hp:(aA s).1≠0):
 Calls prog 170 #[.pointer d,s] w λe w'=>e=bR (eE (aA s).1)/\Bl w w':=by
 have a0:∀ww,Calls prog 198 #[s] ww λe w'=>e=bR (eE (aA s).1)/\Bl ww w':=λww=>by
  refine(aAR s ww).mono ?_;intro e w' h;rcases h with⟨h,_⟩|⟨_,h1,h2⟩
  .exact absurd h hp
  exact⟨h1,h2⟩
 clear h hp;go_in;go_wp2_with(go_at_call 198;refine aE (a0 _) λp=>?_);exact⟨rfl,rfl,bel w _⟩
theorem Opened.parX_call (o:Opened B w d b bi gm capi capm ov nv S c r) (hf:Fine S) (s:ByteArray) (R:Except Int (Nat × ByteArray)) (hR:bW S s=R):
 ∀ww,Bl w ww->Calls prog 170 #[.pointer d,s] ww λe w'=>(match R with|.ok (K,l)=>e=.returned (.tuple #[.pointer (some ⟨bi,K*4,none⟩),l])|.error k=>e=bR k)/\Bl ww w':=by
 intro ww hb;unfold bW at hR;by_cases hp:(aA s).1=0
 .rw[zA (by simpa using hp)]at hR;have:=o.parent_call hf s hp (zD (dC hp) (by decide)) R hR ww hb;rcases R with k|⟨K,l⟩<;>exact this
 rw[zB hp]at hR;subst hR;exact rN d b S c s ww (o.at_.read.below hb (zC _)) hp
theorem Opened.atX_call (o:Opened B w d b bi gm capi capm ov nv S c r) (hf:Fine S) (s:ByteArray) (R:Except Int Nat) (hR:rM S s=R):
 ∀ww,Bl w ww->Calls prog 178 #[.pointer d,s] ww λe w'=>(match R with|.ok K=>e=.returned (.pointer (some ⟨bi,K*4,none⟩))|.error k=>e=bR k)/\Bl ww w':=by
 intro ww hb;unfold rM at hR;by_cases hp:(aA s).1=0
 .rw[zA (by simpa using hp)]at hR;refine(o.at_call hf s hp (zD (dC hp) (by decide)) _ _ rfl ww hb).mono ?_;rintro e w' ⟨h1,h2⟩;refine⟨?_,h2⟩;rcases h1 with⟨h,h'⟩|⟨h,h'⟩
  .rw[zA (by simpa using h)]at hR;subst hR;exact h'
  rw[zB h]at hR;subst hR;exact h'
 rw[zB hp]at hR;subst hR;exact aIH d b S c s ww (o.at_.read.below hb (zC _)) hp
theorem aPX {ea:Option Addr} {ec:Nat} (hI:InoAt w bi K x ea ec) (l:ByteArray) (hm:bT x.ents l=false):
 Calls prog 187 #[.pointer (some ⟨bi,K*4,none⟩),l] w λe w'=>e=bR 1/\Bl w w':=by
 have a0:=λww hb=>hI.ent ww l hb;rw[hm]at a0;have y2:=hI.y2;have iB:=hI.iB;clear hI hm;go_in;go_wp2_with(first|(go_at_call 171;refine aE (a0 _ (bel _ _)) λp=>?_)|(go_at_call 172;refine aE (aP _ _) λp=>?_));exact⟨rfl,rfl,bel w _⟩
def aKO (S:PSt) (c:PCall) (r:PRes) (num:Int):Except Int (PSt × PRes):=match S.ins[(aK S.nums num).toNat]? with
 |none=>.error 0
 |some y=>if c.kind=9 then(if y.dir=true then .error 8 else .ok (qW S num,r))else if y.dir=false then .error 7 else if 0<y.ents.length then .error 3 else .ok ({ S with ins:=aM S.ins (aK S.nums num).toNat},r)
def iP (S:PSt) (c:PCall) (r:PRes):Except Int (PSt × PRes):=match bW S c.path with
 |.error k=>.error k
 | .ok (K,l)=>match S.ins[K]? with
   |none=>.error 0
   | some x=>if bT x.ents l=false then .error 1 else match x.ents[cZ x.ents l]? with
     |none=>.error 0
     |some e=>aKO (S.ents K x (aM x.ents (cZ x.ents l))) c r e.num
theorem aUK (hx:S.ins[K]? =some x) (q:Nat):(S.ents K x es).ins[q]? =if K=q then some { x with ents:=es}else S.ins[q]? :=by
 unfold PSt.ents;show(S.ins.set K _)[q]? =_;obtain⟨hl,-⟩:=gI.1 hx;rw[getElem?_set];by_cases e:K=q
 .subst e;rw[zB rfl,zB rfl,zB hl]
 rw[zA e,zA e]
theorem aAE {y:PIn} (hx:S.ins[K]? =some x) (hy:y∈(S.ents K x es).ins):y∈S.ins\/y={ x with ents:=es}:=by
 obtain⟨q,hq⟩:=mem_iff_getElem?.1 hy;rw[aUK hx]at hq;split at hq
 .cases hq;exact .inr rfl
 exact .inl (mG hq)
theorem Fine.take (hf:Fine S) (hx:S.ins[K]? =some x) (q:Nat) (hq:q<x.ents.length):Fine (S.ents K x (aM x.ents q)):=by
 have hn:=tG S K x (aM x.ents q) hx;have a7:=mG hx;have a0:∀e∈aM x.ents q,e∈x.ents:=λe he=>(mem_append.1 he).elim mem_of_mem_take mem_of_mem_drop;obtain⟨a1,a2,a3,a4,a5,a6⟩:=hf.wf;have hl:(S.ents K x (aM x.ents q)).ins.length=S.ins.length:=by unfold PSt.ents;simp
 refine⟨⟨by rw[hl];exact a1,a2,a3,λy hy=>?_,a5,a6⟩,by rw[hl];exact hf.pos,λy hy e he=>?_,λd hd=>by rw[hn];exact hf.opens d hd⟩
 .rcases aAE hx hy with h|rfl
  .exact a4 y h
  obtain⟨b1,b2,b3⟩:=a4 x a7;exact⟨b1,by show(aM x.ents q).length<=_;rw[gF _ _ hq];omega,λe he=>b3 e (a0 e he)⟩
 rw[hn];rcases aAE hx hy with h|rfl
 .exact hf.find y h e he
 exact hf.find x a7 e (a0 e he)
theorem Small.take (hs:Small S) (hx:S.ins[K]? =some x) (q:Nat) (hq:q<x.ents.length):Small (S.ents K x (aM x.ents q)):=by
 have hl:(S.ents K x (aM x.ents q)).ins.length=S.ins.length:=by unfold PSt.ents;simp
 refine⟨by rw[hl];exact hs.ins,λy hy=>?_,hs.made,hs.each⟩;rcases aAE hx hy with h|rfl
 .exact hs.ents y h
 have:=hs.ents x (mG hx);show(aM x.ents q).length<=_;rw[gF _ _ hq];omega
theorem Opened.dpart (o:Opened B w d b bi gm capi capm ov nv S c r):DPart B w d b bi capi ov (.slice gm S.made.length capm) nv S c r:=⟨o.hBb,o.hBd,o.hD,o.hb,o.st,o.nm⟩
theorem aUL (B d b:Nat) (S:PSt) (c:PCall) (r:PRes) (w:World) (h:DoAt B w d b S c r) (hB:B<=w.heap.size) (hf:Fine S) (hs:Small S) (hmd:0<S.made.length):
 Calls prog 148 #[.pointer d] w (bL B w d b c (iP S c r)):=by
 obtain⟨bi,gm,capi,capm,ov,nv,ho⟩:=h.open_ hf.pos hmd;obtain⟨PM,hPM⟩:=gAB (bW S c.path);have a6:=ho.parX_call hf c.path PM hPM;unfold iP;rw[hPM];have d6:w.cell? ⟨d,6,none⟩=some (.string c.path):=ho.hD.cell 6;have iD:=ho.hD.lt;have iW:Bel w w:=inferInstance;rcases PM with k|⟨K,l⟩
 .simp only;have a3:∀ww,Bl w ww->Calls prog 170 #[.pointer d,c.path] ww λe w'=>e=bR k/\Bl ww w':=a6
  clear a6 hPM hf hs ho h;go_in;go_wp2_with(go_at_call 170;refine aE (a3 _ (bel _ _)) λp=>?_);exact⟨rfl,(bel w _).mono hB,rfl⟩
 have a3:vB w 170 #[.pointer d,.string c.path] (.tuple #[.pointer (some ⟨bi,K*4,none⟩),l]):=a6;obtain⟨x,hx,_⟩:=aMQ hPM;simp only;rw[hx];simp only;by_cases a2:bT x.ents l=true
 .have hq :=sV a2;obtain⟨e0,he0⟩:∃e0,x.ents[cZ x.ents l]? =some e0:=⟨_,gE hq⟩
  rw[zA (by rw[a2];decide),he0];simp only;have a9:=hf.take hx _ hq;have b6:=hs.take hx _ hq;have b7:=hf.find x (mG hx) e0 (mG he0);rw[<-tG S K x (aM x.ents (cZ x.ents l)) hx]at b7;have a4:∀ww,Bl w ww->Calls prog 187 #[.pointer (some ⟨bi,K*4,none⟩),l] ww _:=λww hb=>aMX B ww ov (.slice gm S.made.length capm) S bi capi K x l (ho.below hb).st hx (zD hB hb.size) (hs.ents x (mG hx)) a2 e0 he0;have HO:=aC ho;generalize hS1:S.ents K x (aM x.ents (cZ x.ents l))=S1 at a9 b6 b7 a4 |-;have HP:∀(ww w3:World),Bl w ww->Keep (tZ ww) ww w3->StOwn B w3 (.slice bi S.ins.length capi) ov (.slice gm S.made.length capm) S1->Opened B w3 d b bi gm capi capm ov nv S1 c r:=λww w3 hb hk hst=>by subst hS1;exact Opened.put (HO.out.below hb) hk hst
  have b1:0<S1.made.length:=by subst hS1;exact hmd
  have c3:=aC HP;clear a6 hPM hf hs ho h HP hx a2 hq he0 hS1 HO hmd;generalize hnum:e0.num=num at a4 b7 |-;clear hnum e0;obtain⟨RR,a1⟩:=gAB (aKO S1 c r num);rw[a1];have c4:=aC a1;clear a1;go_in;go_upto_region 2 with(first|(go_at_call 170;refine aE (a3 _ (bel _ _)) λp=>?_)|(go_at_call 187;refine(a4 _ (bel _ _)).mono ?_;rintro e w3 ⟨rfl,hb3,hk3,hs3⟩;have o3:=c3.out _ _ (bel w _) hk3 hs3;have c5:=bJ o3 (((bel w _).mono hB).trans hb3);clear hb3 hk3 hs3 o3))
  refine aD (F:=λwA=>Opened B wA d b bi gm capi capm ov nv S1 c r/\Below B w wA) c5.out ?_;clear c5 iD d6 a4 a3 iW;rintro wA ⟨hA,hbA⟩;obtain⟨K2,hfn⟩:∃K2:Nat,aK S1.nums num=K2:=⟨(aK S1.nums num).toNat,by omega⟩;have c6:K2<S1.ins.length:=by
   rcases cX S1.nums num with h|h
   .omega
   have h2:=h.2;unfold PSt.nums at h2 hfn;rw[lM]at h2;omega
  obtain⟨y,hy⟩:=gAA c6;have a1:=c4.out.symm;clear c4;unfold aKO at a1;rw[hfn,zJ,hy]at a1;simp only at a1;have a0:∀ww,Bl wA ww->Calls prog 102 #[.pointer b,num] ww _:=λww hb=>jU b S1 num ww (hA.at_.read.sp.below hb (zC _)) a9.wf;rw[hfn]at a0;obtain⟨ea,ec,hI⟩:=hA.ino b6 hy;have c7:∀ww,Bl wA ww->Calls prog 145 #[.pointer d,num] ww λe w'=>e=.returned (.tuple #[])/\Below B w w'/\DPart B w' d b bi capi ov (.slice gm S1.made.length capm) nv (qW S1 num) c r:=λww hb=>(aMY (hA.dpart.below hb) (zD hB (zD hbA.size hb.size)) a9.wf num hy hfn).mono λe w' ⟨h1,h2,h3⟩=>⟨h1,(hbA.trans (hb.mono (zD hB hbA.size))).trans h2,h3⟩;obtain⟨iI,y0,y1,y2,y3,hrow,hent,hful⟩:=hI;have d3:=hA;have c8:=hA.dpart;have iD:=hA.hD.lt;have iL:=hA.hb.lt;have d0:wA.cell? d=some (.pointer b):=hA.hD.cell 0;have d1:wA.cell? ⟨d,1,none⟩=some (.int .i64 c.kind):=hA.hD.cell 1;have b0:wA.cell? b=some (.slice bi S1.ins.length capi):=hA.hb.cell 0;have d7:(K2:Int)<S1.ins.length:=by omega
  have c1:(0:Int)<=y.ents.length:=by omega
  have b8:=c6;have c9:=eH a9 b6 b1;have HA:=bJ c8 hbA;have iA:Bel wA wA:=inferInstance;clear hA d3 c8 hbA a9 b6 b7 b1 hrow hent hful hy hfn y0 y3 c3;generalize y.dir=yd at y1 a1;generalize hyl:y.ents.length=yl at y2 c1 a1;clear hyl y;by_cases hk:c.kind=9
  .rw[zB hk]at a1;rw[hk]at d1;rcases yd with _|_
   .simp only[zP,if_false]at a1;subst a1;go_wp2_with(first|(go_at_call 102;refine aE (a0 _ (bel _ _)) λp=>?_)|(go_at_call 172;refine aE (aG _ _) λp=>?_)|(go_at_call 145;refine(c7 _ (bel _ _)).mono ?_;rintro e w7 ⟨rfl,hb7,hp7⟩;have H7:=bJ hb7 hp7;clear hb7 hp7))
    exact xE (v:=.tuple #[]) (by simp[results,go_sem]) rfl ⟨H7.out.1,rfl,H7.out.2.at_⟩
   simp only[if_true]at a1;subst a1;go_wp2_with(first|(go_at_call 102;refine aE (a0 _ (bel _ _)) λp=>?_)|(go_at_call 172;refine aE (aP _ _) λp=>?_));exact⟨rfl,HA.out.2.trans ((bel wA _).mono (zD hB HA.out.2.size)),rfl⟩
  rw [zA hk]at a1;have d8:(c.kind==9)=false:=by simpa using hk
  rcases yd with _|_
  .simp only[if_true]at a1;subst a1;go_wp2_with(first|(go_at_call 102;refine aE (a0 _ (bel _ _)) λp=>?_)|(go_at_call 172;refine aE (aP _ _) λp=>?_))
   exact⟨rfl,HA.out.2.trans ((bel wA _).mono (zD hB HA.out.2.size)),rfl⟩
  rw [zA (by decide)]at a1;by_cases hz:0<yl
  .rw[zB hz]at a1;subst a1;have d4:(0:Int)<yl:=by omega
   go_wp2_with(first|(go_at_call 102;refine aE (a0 _ (bel _ _)) λp=>?_)|(go_at_call 172;with_reducible refine aE (aG _ _) λp=>?_)|(go_at_call 172;with_reducible refine aE (aP _ _) λp=>?_));exact⟨rfl,HA.out.2.trans ((bel wA _).mono (zD hB HA.out.2.size)),rfl⟩
  rw[zA hz]at a1;subst a1;have d4:¬(0:Int)<yl:=by omega
  have d9:IntKind.i64.wrap ((K2:Int)+1)=(K2:Int)+1:=I64.wrap ⟨by omega,by have:=c9.out.1.wf.1;omega⟩;go_upto_region 9 with(first|(go_at_call 102;refine aE (a0 _ (bel _ _)) λp=>?_)|(go_at_call 172;refine aE (aG _ _) λp=>?_))
  refine aD (F:=λwB=>DPart B wB d b bi capi ov (.slice gm S1.made.length capm) nv S1 c r/\Below B w wB) ⟨HA.out.1.below (bel _ _),HA.out.2.trans ((bel wA _).mono (zD hB HA.out.2.size))⟩ ?_;clear iD iL d0 d1 b0 iI y1 y2 HA a0 c7 iA wA;rintro wA ⟨hA,hbA⟩;have iD:=hA.hD.lt;have iL:=hA.hb.lt;have d0:wA.cell? d=some (.pointer b):=hA.hD.cell 0;have b0:wA.cell? b=some (.slice bi S1.ins.length capi):=by have:=hA.hb.cell 0;simpa using this
  obtain⟨is,hi1,hi2,hi3⟩:=hA.st.delIns K2 b8;have a8:=aBT B bi capi (is.map IRec.cells) K2 wA.drew (by rw[lM,hi2];exact hi1.keep ((Keep.refl (λ_=>False) wA).drew) (λ_ _ h=>h)) (gL _) (pK _) (by rw[lM,hi2];exact b8) (by rw[lM,hi2];exact c9.out.1.wf.1);rw[lM,hi2]at a8;have HA:=eH hA hbA hi3;clear hA hbA hi3 hi1;refine aH [14,17] true (λw'=>w'.cell? d=some (.pointer b)/\w'.cell? b=some (.slice bi S1.ins.length capi)) (by kernel_rfl) (by kernel_rfl) ?_ ?_
  · (try dsimp only);(repeat' apply And.intro)<;>go_simp
  repeat
   apply aI0 rfl rfl
   focus
    rintro w' ⟨s0,s1⟩;go_simp
    first|done|rfl
   simp only[Act.put,sA,sZ,sS]
  refine bB rfl rfl ?_;refine aS 182 #[.slice bi S1.ins.length capi,.int .i64 K2,.int .i64 ((K2:Int)+1)] ?hr ?_
  case hr=>
   go_simp
   first|done|rfl
  refine a8.mono ?_;rintro e w5 ⟨rfl,ho5,hk5⟩;obtain⟨hA,hbA,hi3⟩:=HA.out;have a5:Keep (λg=>g=bi) wA w5:=((Keep.refl (λg=>g=bi) wA).drew).trans hk5 (λ_ _ h=>h);obtain⟨hBi,arr,hbi⟩:B<=bi/\∃arr,Blk wA bi arr 68:=by
   obtain⟨_,_,is',h3,_⟩:=hA.st;rcases h3 with⟨h0,_⟩|⟨g,cap',arr,heq,hgB,hgb,_⟩
   .cases h0
   simp only[zO,zF,yG]at heq;obtain⟨⟨rfl,-,-⟩,-,-⟩:=heq;exact⟨hgB,arr,hgb⟩
  have hX:∀g,g=bi->∃c,Blk wA g c 68:=λg hg=>by rw[hg];exact⟨arr,hbi⟩
  have b2:=hi3 w5 _ _ a5 hX ho5;have b9:∀{g:Nat} {cc:Array Value} {t:TypeId},Blk wA g cc t->t≠68->¬g=bi:=λhb ht hg=>by subst hg;exact hb.ne_ hbi ht rfl
  have b3:=a5.blk hA.hD (b9 hA.hD (by decide));have a7:=a5.blk hA.hb (b9 hA.hb (by decide));have c2:=hA.nm.keep a5 (λg hg h=>by
   obtain⟨cc,hcc⟩:=hA.nm.blk_of hg;exact b9 hcc (by decide) h)
  have d5:B<=wA.heap.size:=zD hB hbA.size;have b4:Below B w w5:=hbA.trans (a5.below d5 (λi hi h=>by omega));have y0:w5.cell? d=some (.pointer b):=b3.cell 0;have y1:w5.cell? b=some (.slice bi S1.ins.length capi):=by have:=a7.cell 0;simpa using this
  have e1:=a7.frozen 0;have jD:=b3.lt;have jB:=a7.lt;have c0:Keep (λg=>g=b) w5 (w5.setCell b (.slice bi (S1.ins.length-1) capi)):=Keep.setCell (S:=λg=>g=b) (p:=b) (Keep.refl _ _) (.inl rfl) _;have hp:DPart B (w5.setCell b (.slice bi (S1.ins.length-1) capi)) d b bi capi ov (.slice gm S1.made.length capm) nv { S1 with ins:=aM S1.ins K2} c r:=⟨hA.hBb,hA.hBd,c0.blk b3 (b3.ne_ a7 (by decide)),by rw[gF _ _ b8];have:=a7.set_ 0 (.slice bi (S1.ins.length-1) capi);simpa using this,by rw[gF _ _ b8];exact b2.keep c0 (λg hg=>by rw[hg];exact⟨_,26,a7,by decide,by decide,by decide,by decide⟩),c2.keep c0 (λg hg=>c2.ne_blk a7 (by decide) hg)⟩;have d2:Below B w (w5.setCell b (.slice bi (S1.ins.length-1) capi)):=b4.setCell (p:=b) hA.hBb _;have HF:=bJ hp d2;clear hA hbA b2 b3 a7 c2 a5 hk5 ho5 b9 b4 c0 hp d2 a8 hbi hX hi3;refine⟨_,rfl,.inl ⟨y0,y1⟩,?_⟩;simp only[Act.put,sA,sZ,sS]
  repeat
   apply aI0 rfl rfl
   focus
    rintro w' ⟨s0,s1⟩;go_simp
    first|done|rfl
   simp only[Act.put,sA,sZ,sS]
  refine aW rfl rfl ?_;apply Exists.intro;refine⟨?_,.inr ⟨rfl,rfl⟩,?_⟩
  focus
   go_simp;rfl
  simp only[Act.put];refine aU ?_;exact xE (v:=.tuple #[]) (by simp[results,go_sem]) rfl ⟨HF.out.2,rfl,HF.out.1.at_⟩
 have a2:bT x.ents l=false:=by simpa using a2
 rw[zB a2];obtain⟨ea,ec,hI⟩:=ho.ino hs hx;have b5:∀ww,Bl w ww->Calls prog 187 #[.pointer (some ⟨bi,K*4,none⟩),l] ww λe w'=>e=bR 1/\Bl ww w':=λww hb=>by obtain⟨ea,ec,hI⟩:=(ho.below hb).ino hs hx;exact aPX hI l a2
 clear a6 hPM hx hf hs ho h hI a2;go_in;go_wp2_with(first|(go_at_call 170;refine aE (a3 _ (bel _ _)) λp=>?_)|(go_at_call 187;refine aE (b5 _ (bel _ _)) λp=>?_));exact⟨rfl,(bel w _).mono hB,rfl⟩
end
def oC (S:PSt) (c:PCall) (r:PRes):Except Int (PSt × PRes):=match rM S c.path with
 |.error k=>.error k
 | .ok K1=>match S.ins[K1]? with
   |none=>.error 0
   | some x=>if x.dir=true then .error 8 else match bW S c.path2 with
     |.error k=>.error k
     |.ok (K,l)=>xK S x r K l
theorem aWH (B d b:Nat) (S:PSt) (c:PCall) (r:PRes) (w:World) (h:DoAt B w d b S c r) (hB:B<=w.heap.size) (hf:Fine S) (hs:Small S) (hmd:0<S.made.length):
 Calls prog 147 #[.pointer d] w (bL B w d b c (oC S c r)):=by
 obtain⟨bi,gm,capi,capm,ov,nv,ho⟩:=h.open_ hf.pos hmd;obtain⟨AM,hAM⟩:=gAB (rM S c.path);have a6:=ho.atX_call hf c.path AM hAM;unfold oC;rw[hAM];have d6:w.cell? ⟨d,6,none⟩=some (.string c.path):=ho.hD.cell 6;have d7:w.cell? ⟨d,7,none⟩=some (.string c.path2):=ho.hD.cell 7;have iD:=ho.hD.lt;have iW:Bel w w:=inferInstance;rcases AM with C|K1;rotate_left
 .obtain ⟨x,hx⟩:=aUJ hf hAM;simp only;rw[hx];simp only;have a1:vB w 178 #[.pointer d,.string c.path] (.pointer (some ⟨bi,K1*4,none⟩)):=a6
  obtain⟨ea1,ec1,hI1⟩:=ho.ino hs hx;obtain⟨iBi,x0,x1,_⟩:=hI1;obtain⟨PM,hPM⟩:=gAB (bW S c.path2);have a3:=ho.parX_call hf c.path2 PM hPM;rw[hPM];clear a6 hAM;by_cases a2:x.dir=true
  .rw[zB a2];rw[a2]at x1;clear a3 hPM hx hf hs ho a2
   go_in;go_wp2_with(first|(go_at_call 178;refine aE (a1 _ (bel _ _)) λp=>?_)|(go_at_call 172;refine aE (aP _ _) λp=>?_));exact⟨rfl,(bel w _).mono hB,rfl⟩
  rw [zA a2];have a2:x.dir=false:=by simpa using a2
  rw[a2]at x1;rcases PM with k|⟨K,l⟩
  .simp only;have a0:∀ww,Bl w ww->Calls prog 170 #[.pointer d,c.path2] ww λe w'=>e=bR k/\Bl ww w':=a3
   clear a3 hPM hx hf hs ho;go_in;go_wp2_with(first|(go_at_call 178;refine aE (a1 _ (bel _ _)) λp=>?_)|(go_at_call 172;refine aE (aG _ _) λp=>?_)|(go_at_call 170;refine aE (a0 _ (bel _ _)) λp=>?_));exact⟨rfl,(bel w _).mono hB,rfl⟩
  have a0:vB w 170 #[.pointer d,.string c.path2] (.tuple #[.pointer (some ⟨bi,K*4,none⟩),l]):=a3;obtain⟨y,hy,_⟩:=aMQ hPM;obtain⟨ea,ec,hI⟩:=ho.ino hs hy;have a4:=λww hb=>hI.ent ww l hb;have a5:=λww hb=>hI.ful ww l ⟨#[]⟩ hb;have y2:=hI.y2;simp only;unfold xK;rw[hy];simp only;generalize hhit:bT y.ents l=hit at a4 |-;generalize hfu:fB y.ents l ⟨#[]⟩=fu at a5 |-;have a9:=hs.ents y (mG hy);have a7:∀ww,Bl w ww->Calls prog 175 #[.pointer (some ⟨bi,K*4,none⟩),l,x.num] ww _:=λww hb=>uA B ww ov (.slice gm S.made.length capm) S bi capi K y l x.num (ho.below hb).st hy (zD hB hb.size) a9;have HO:=aC ho;clear a3 hPM hx hf hs ho hI hhit hfu hy;rcases hit with _|_
  .simp only[zP,if_false];rcases fu with _|_
   .simp only[zP,if_false]
    go_in;go_wp2_with(first|(go_at_call 178;refine aE (a1 _ (bel _ _)) λp=>?_)|(go_at_call 172;refine aE (aG _ _) λp=>?_)|(go_at_call 170;refine aE (a0 _ (bel _ _)) λp=>?_)|(go_at_call 171;refine aE (a4 _ (bel _ _)) λp=>?_)|(go_at_call 173;refine aE (a5 _ (bel _ _)) λp=>?_)|(go_at_call 175;refine(a7 _ (bel _ _)).mono ?_;rintro e w3 ⟨rfl,hb3,hk3,hs3⟩;have o3:=Opened.put (HO.out.below (bel w _)) hk3 hs3;have a8:=bJ o3 (((bel w _).mono hB).trans hb3);clear hb3 hk3 hs3 o3));exact xE (v:=.tuple #[]) (by simp[results,go_sem]) rfl ⟨a8.out.2,rfl,a8.out.1.at_⟩
   simp only[if_true];go_in;go_wp2_with(first|(go_at_call 178;refine aE (a1 _ (bel _ _)) λp=>?_)|(go_at_call 170;refine aE (a0 _ (bel _ _)) λp=>?_)|(go_at_call 171;refine aE (a4 _ (bel _ _)) λp=>?_)|(go_at_call 173;refine aE (a5 _ (bel _ _)) λp=>?_)|(go_at_call 172;with_reducible refine aE (aG _ _) λp=>?_)|(go_at_call 172;with_reducible refine aE (aP _ _) λp=>?_));exact⟨rfl,(bel w _).mono hB,rfl⟩
  simp only[if_true];go_in;go_wp2_with(first|(go_at_call 178;refine aE (a1 _ (bel _ _)) λp=>?_)|(go_at_call 170;refine aE (a0 _ (bel _ _)) λp=>?_)|(go_at_call 171;refine aE (a4 _ (bel _ _)) λp=>?_)|(go_at_call 172;with_reducible refine aE (aG _ _) λp=>?_)|(go_at_call 172;with_reducible refine aE (aP _ _) λp=>?_));exact⟨rfl,(bel w _).mono hB,rfl⟩
 simp only;have a1:∀ww,Bl w ww->Calls prog 178 #[.pointer d,c.path] ww λe w'=>e=bR C/\Bl ww w':=a6;clear a6 hAM hf hs ho;go_in;go_wp2_with(first|(go_at_call 178;refine aE (a1 _ (bel _ _)) λp=>?_));exact⟨rfl,(bel w _).mono hB,rfl⟩
def jW (S:PSt) (c:PCall) (r:PRes):Except Int (PSt × PRes):=if(aA c.path).1≠0 then .error (eE (aA c.path).1)else pV S c r
theorem aOQ (B d b:Nat) (S:PSt) (c:PCall) (r:PRes) (w:World) (h:DoAt B w d b S c r) (hB:B<=w.heap.size) (hf:Fine S) (hs:Small S) (h0:0<=c.core) (hc:c.core<S.made.length):
 Calls prog 141 #[.pointer d] w (bL B w d b c (jW S c r)):=by
 unfold jW;by_cases hp:(aA c.path).1=0
 .rw[zA (by simpa using hp)];exact aRB B d b S c r w h hB hf hs hp (zD (dC hp) (by decide)) h0 hc
 rw[zB hp];have a0:∀ww,Bl w ww->Calls prog 170 #[.pointer d,c.path] ww _:=λww hb=>rN d b S c c.path ww (h.read.below hb (zC _)) hp;obtain⟨iv,ov,mv,nv,hBb,hBd,hD,hbk,hst,hnv⟩:=h;have d6:w.cell? ⟨d,6,none⟩=some (.string c.path):=hD.cell 6;have iD:=hD.lt;clear hD hbk hst hnv hf hs;go_in;go_wp2_with(go_at_call 170;refine aE (a0 _ (bel _ _)) λp=>?_);exact⟨rfl,(bel w _).mono hB,rfl⟩
theorem eO {a:Act} {j:Nat} {d:Tmp} {b:Bool} (h:a.eval (.tmp d)=.bool b) (o:Oper) (ops':Array Oper) (ho:ops'[j]? =some o) (hd:o.dst=some d):yielded ops' a.tmps j=some b:=by
 unfold yielded;rw[ho];simp only[Option.bind_some,hd];rw[evT]at h;rcases e:a.tmps[d]? with _|v
 .rw[e]at h;simp[undef]at h
 rw[e]at h;simp only[Option.getD_some]at h;subst h;rfl
def bBU (d b bi n capi f:Nat) (num:Int) (p2:ByteArray):Nat->Value
 |0=>.pointer (some ⟨d,0,none⟩)
 |1=>.pointer (some ⟨d,0,none⟩)
 |2=>.pointer (some ⟨d,0,none⟩)
 |3=>.pointer (some ⟨b,0,none⟩)
 |4=>.pointer (some ⟨b,0,none⟩)
 |5=>.pointer (some ⟨b,0,none⟩)
 |6=>.slice (some ⟨bi,0,none⟩) n capi
 |7=>.pointer (some ⟨d,0,none⟩)
 |8=>.pointer (some ⟨d,0,none⟩)
 |9=>.pointer (some ⟨d,0,none⟩)
 |10=>.pointer (some ⟨b,0,none⟩)
 |11=>.int .i64 num
 |12=>.int .i64 f
 |13=>.pointer (some ⟨bi,f*4,none⟩)
 |14=>.pointer (some ⟨bi,f*4+1,none⟩)
 |15=>.bool true
 |16=>.bool true
 |17=>.pointer (some ⟨d,0,none⟩)
 |18=>.pointer (some ⟨d,0,none⟩)
 |19=>.pointer (some ⟨d,0,none⟩)
 |20=>.pointer (some ⟨d,1,none⟩)
 |21=>.pointer (some ⟨d,7,none⟩)
 |22=>.string p2
 |23=>.int .i64 num
 |24=>.bool true
 |25=>.bool true
 |_=>undef
def nY (S:PSt) (c:PCall):Int:=match bC S (aA c.path).2 with
 |.error k=>k
 | .ok (K1,s)=>match S.ins[K1]? with
   |none=>0
   |some x1=>if bT x1.ents s=false then 1 else eE (aA c.path2).1
def iU (S:PSt) (c:PCall) (r:PRes):Except Int (PSt × PRes):=if(aA c.path).1≠0 then .error (eE (aA c.path).1)else if(aA c.path2).1=0 then fW S c r else .error (nY S c)
theorem aPY (B d b:Nat) (S:PSt) (c:PCall) (r:PRes) (w:World) (h:DoAt B w d b S c r) (hB:B<=w.heap.size) (hf:Fine S) (hs:Small S) (hmd:0<S.made.length):
 Calls prog 149 #[.pointer d] w (bL B w d b c (iU S c r)):=by
 unfold iU;by_cases hp:(aA c.path).1=0;rotate_left
 .rw[zB hp];have a0:∀ww,Bl w ww->Calls prog 170 #[.pointer d,c.path] ww _:=λww hb=>rN d b S c c.path ww (h.read.below hb (zC _)) hp
  obtain⟨iv,ov,mv,nv,hBb,hBd,hD,hbk,hst,hnv⟩:=h;have d6:w.cell? ⟨d,6,none⟩=some (.string c.path):=hD.cell 6;have iD:=hD.lt;clear hD hbk hst hnv hf hs;go_in;go_wp2_with(first|(go_at_call 170;refine aE (a0 _ (bel _ _)) λp=>?_));exact⟨rfl,(bel w _).mono hB,rfl⟩
 rw[zA (by simpa using hp)];have b4:=zD (dC hp) (show 4<=1000000000 by decide);by_cases hno:(aA c.path2).1=0/\aHN S c=true
 .rw[zB hno.1];exact aTZ B d b S c r w h hB hf hs hmd hp b4 hno.1 (zD (dC hno.1) (by decide)) hno.2
 obtain⟨RR,hRR⟩:=gAB ((if (aA c.path2).1=0 then fW S c r else .error (nY S c)));rw[hRR];obtain⟨bi,gm,capi,capm,ov,nv,ho⟩:=h.open_ hf.pos hmd;have d6:w.cell? ⟨d,6,none⟩=some (.string c.path):=ho.hD.cell 6;have d7:w.cell? ⟨d,7,none⟩=some (.string c.path2):=ho.hD.cell 7;have iD:=ho.hD.lt;have iW:Bel w w:=inferInstance;obtain⟨PM1,hPM1⟩:∃PM,bC S (aA c.path).2=PM:=⟨_,rfl⟩;have a7:=ho.parent_call hf c.path hp b4 PM1 hPM1;have a9:∀k,PM1=.error k->RR=.error k:=λk hk=>by rw[<-hRR];unfold fW nY;rw[hPM1,hk];simp
 rcases PM1 with k|⟨K1,s⟩
 .have a6:=a9 k rfl;subst a6;have a0:∀ww,Bl w ww->Calls prog 170 #[.pointer d,c.path] ww λe w'=>e=bR k/\Bl ww w':=a7
  clear a7 hPM1 hf hs ho h hno hRR a9;go_in;go_wp2_with(first|(go_at_call 170;refine aE (a0 _ (bel _ _)) λp=>?_));exact⟨rfl,(bel w _).mono hB,rfl⟩
 clear a9;have a0:vB w 170 #[.pointer d,.string c.path] (.tuple #[.pointer (some ⟨bi,K1*4,none⟩),s]):=a7;obtain⟨x1,hx1,_⟩:=mP hPM1;obtain⟨ea1,ec1,hI1⟩:=ho.ino hs hx1;have a3:=λww hb=>hI1.ent ww s hb;have a2:=hI1.y2;have b5:=hI1.iB;by_cases a1:bT x1.ents s=false
 .have a6:RR=.error 1:=by
   rw[<-hRR];unfold fW nY lE;rw[hPM1];simp[hx1,a1]
  subst a6;rw[a1]at a3;clear a7 hPM1 hf hs ho h hno hRR hI1 hx1;go_in;go_wp2_with(first|(go_at_call 170;refine aE (a0 _ (bel _ _)) λp=>?_)|(go_at_call 171;refine aE (a3 _ (bel _ _)) λp=>?_)|(go_at_call 172;refine aE (aP _ _) λp=>?_));exact⟨rfl,(bel w _).mono hB,rfl⟩
 have a1:bT x1.ents s=true:=by simpa using a1
 have b6:=sV a1;rw[a1]at a3;obtain⟨e1,he1⟩:∃e,x1.ents[cZ x1.ents s]? =some e:=⟨_,gE b6⟩;obtain⟨q,hq⟩:=gAB (cZ x1.ents s);simp only[hq]at a3 b6;have c5:(q:Int)<x1.ents.length:=by omega
 obtain⟨a',c',he',hat'⟩:=hI1.row.at_;simp only[lM,zO]at he';obtain⟨rfl,-,rfl⟩:=he';obtain⟨be,oe,rfl,iE0,-,hce⟩:=hat' w (Below.refl _ _) q e1.cells (by rw[gM,<-hq,he1];rfl);have n1:=hce 1 _ rfl;obtain⟨PM2,hPM2⟩:∃PM,bW S c.path2=PM:=⟨_,rfl⟩;have a5:=ho.parX_call hf c.path2 PM2 hPM2;rcases PM2 with k|⟨K2,t⟩
 .have a6:RR=.error k:=by
   rw[<-hRR];unfold bW at hPM2;by_cases h2:(aA c.path2).1=0
   .rw[zB h2];rw[zA (by simpa using h2)]at hPM2;unfold fW lE;rw[hPM1];simp[hx1,a1,he1,hPM2]
   rw[zA h2];rw[zB h2]at hPM2;cases hPM2;unfold nY;rw[hPM1];simp[hx1,a1]
  subst a6;have a4:∀ww,Bl w ww->Calls prog 170 #[.pointer d,c.path2] ww λe w'=>e=bR k/\Bl ww w':=a5;clear a7 a5 hPM1 hPM2 hf hs ho h hno hRR hI1 hx1 hat' hce he1 a1 hq;go_in;go_wp2_with(first|(go_at_call 170;with_reducible refine aE (a0 _ (bel _ _)) λp=>?_)|(go_at_call 171;refine aE (a3 _ (bel _ _)) λp=>?_)|(go_at_call 172;refine aE (aG _ _) λp=>?_)|(go_at_call 170;with_reducible refine aE (a4 _ (bel _ _)) λp=>?_));exact⟨rfl,(bel w _).mono hB,rfl⟩
 have a4:vB w 170 #[.pointer d,.string c.path2] (.tuple #[.pointer (some ⟨bi,K2*4,none⟩),t]):=a5;obtain⟨hp2,hPM2'⟩:(aA c.path2).1=0/\bC S (aA c.path2).2=.ok (K2,t):=by
  unfold bW at hPM2;by_cases h2:(aA c.path2).1=0
  .rw[zA (by simpa using h2)]at hPM2;exact⟨h2,hPM2⟩
  rw[zB h2]at hPM2;cases hPM2
 have a8:(rL S e1.num&&jO S (aA c.path2).2 e1.num)=true:=by
  have h0:¬aHN S c=true:=λh=>hno ⟨hp2,h⟩;unfold aHN at h0;rw[hPM1]at h0;simp only[hx1,he1]at h0;generalize rL S e1.num=x at h0 |-;generalize jO S (aA c.path2).2 e1.num=y at h0 |-;revert h0;rcases x with _|_<;>rcases y with _|_<;>simp
 have a6:RR=.error 9:=by rw[<-hRR,zB hp2];unfold fW lE;rw[hPM1];simp only[hx1,a1,he1,hPM2',a8];simp
 subst a6;simp only[zE]at a8;have b9:=cX S.nums e1.num;have c0:=hf.find x1 (mG hx1) e1 (mG he1);have c6:S.nums.length=S.ins.length:=by unfold PSt.nums;rw[lM]
 obtain⟨f,hfv⟩:∃f:Nat,aK S.nums e1.num=f:=⟨(aK S.nums e1.num).toNat,by omega⟩;have c1:f<S.ins.length:=by omega
 have c2:(f:Int)<S.ins.length:=by omega
 obtain⟨xf,hxf⟩:=gAA c1;obtain⟨eaf,ecf,hIf⟩:=ho.ino hs hxf;have f1:=hIf.y1;have c3:xf.dir=true:=by have:=a8.1;unfold rL at this;rw[hfv,zJ,hxf]at this;exact this
 rw[c3]at f1;have b1:=ho.at_.read;have b7:=b1.sp;have HF:vB w 102 #[.pointer b,.int .i64 e1.num] (.int .i64 f):=λww hb=>by have:=jU b S e1.num ww (b7.below hb (zC _)) hf.wf;rw[hfv]at this;exact this
 have HT:vB w 188 #[.pointer d,.string c.path2,.int .i64 e1.num] (.bool true):=λww hb=>by have:=aAP d b S c c.path2 e1.num ww (b1.below hb (zC _)) hf hp2 (zD (dC hp2) (by decide));rw[a8.2]at this;exact this
 have d0:w.cell? d=some (.pointer b):=ho.hD.cell 0;have b0:w.cell? b=some (.slice bi S.ins.length capi):=ho.hb.cell 0;have b8:=ho.hb.lt;have HH:=jj6 d0 b0 f1 d7 HF HT;clear a7 a5 hPM1 hPM2 hPM2' hf hs ho h hno hRR hI1 hx1 hat' hce he1 a1 hq hIf hxf hfv b9 c0 a8 b1 b7 HF HT d0 b0 f1;generalize e1.num=num at n1 HH;go_in;go_upto_region 5 with(first|(go_at_call 170;with_reducible refine aE (a0 _ (bel _ _)) λp=>?_)|(go_at_call 171;refine aE (a3 _ (bel _ _)) λp=>?_)|(go_at_call 172;refine aE (aG _ _) λp=>?_)|(go_at_call 170;with_reducible refine aE (a4 _ (bel _ _)) λp=>?_))
 refine aD (F:=λwz=>Bl w wz) (bel _ _) ?_;intro wz hbz;have z0:=(hbz.cell (p:=d) iD.lt).trans HH.out.1;have zb:=(hbz.cell (p:=b) b8.lt).trans HH.out.2.1;have zf:=(hbz.cell (p:=⟨bi,f*4+1,none⟩) b5.lt).trans HH.out.2.2.1;have z7:=(hbz.cell (p:=⟨d,7,none⟩) iD.lt).trans HH.out.2.2.2.1;have b2:∀ww,Bl wz ww->_:=λww hb=>HH.out.2.2.2.2.1 ww (hbz.trans (hb.mono hbz.size));have b3:∀ww,Bl wz ww->_:=λww hb=>HH.out.2.2.2.2.2 ww (hbz.trans (hb.mono hbz.size));have c4:Below B w wz:=hbz.mono hB;have jD:=zR iD.lt hbz.size;have jB:=zR b8.lt hbz.size;have jI:=zR b5.lt hbz.size;refine lT (RV 26 (bBU d b bi S.ins.length capi f num c.path2) wz) ?_ ?_ ?_
 .intro σ;exact RV.zero (by decide) (bel wz _)
 .refine⟨?_,?_,?_,?_,?_,?_,?_,?_,?_,?_,?_,?_,?_,?_,?_,?_,?_,?_,?_,?_,?_,?_,?_,?_,?_,?_,?_,trivial⟩
  .intro D σ w1 a h hdf;have e0:(a.tmps[0]?).getD undef=.pointer d:=mW h 0;refine gG h ?_;clear h;go_simp
   first|done|rfl
  .intro D σ w1 a h hdf;have c7:(a.tmps[50]?).getD undef=.pointer d:=cK h 0 50;refine gG h ?_;clear h;go_simp
   first|done|rfl
  .intro D σ w1 a h hdf;have c8:(a.tmps[51]?).getD undef=.pointer d:=cK h 1 51;refine gG h ?_;clear h;go_simp
   first|done|rfl
  .intro D σ w1 a h hdf;have c9:(a.tmps[52]?).getD undef=.pointer d:=cK h 2 52;have hl:=(h.r.below.cell (by exact jD)).trans z0;have iX:BlockLt d w1:=⟨zR jD h.r.below.size⟩
   refine gG h ?_;clear h;go_simp
   first|done|rfl
  .intro D σ w1 a h hdf;have d1:(a.tmps[53]?).getD undef=.pointer b:=cK h 3 53;refine gG h ?_;clear h;go_simp
   first|done|rfl
  .intro D σ w1 a h hdf;have d2:(a.tmps[54]?).getD undef=.pointer b:=cK h 4 54;refine gG h ?_;clear h;go_simp
   first|done|rfl
  .intro D σ w1 a h hdf;have d3:(a.tmps[55]?).getD undef=.pointer b:=cK h 5 55;have hl:=(h.r.below.cell (by exact jB)).trans zb;have iX:BlockLt b w1:=⟨zR jB h.r.below.size⟩
   refine gG h ?_;clear h;go_simp
   first|done|rfl
  .intro D σ w1 a h hdf;have e0:(a.tmps[0]?).getD undef=.pointer d:=mW h 0;refine gG h ?_;clear h;go_simp
   first|done|rfl
  .intro D σ w1 a h hdf;have d4:(a.tmps[57]?).getD undef=.pointer d:=cK h 7 57;refine gG h ?_;clear h;go_simp
   first|done|rfl
  .intro D σ w1 a h hdf;have d5:(a.tmps[58]?).getD undef=.pointer d:=cK h 8 58;refine gG h ?_;clear h;go_simp
   first|done|rfl
  .intro D σ w1 a h hdf;have d8:(a.tmps[59]?).getD undef=.pointer d:=cK h 9 59;have hl:=(h.r.below.cell (by exact jD)).trans z0;have iX:BlockLt d w1:=⟨zR jD h.r.below.size⟩
   refine gG h ?_;clear h;go_simp
   first|done|rfl
  .intro D σ w1 a h hdf;have e6:(a.tmps[6]?).getD undef=.int .i64 num:=mW h 6;refine gG h ?_;clear h;go_simp
   first|done|rfl
  .intro D σ w1 a h hdf;refine⟨λ_=>?_,λe=>absurd e (by simp[Region.wanted])⟩;have d9:(a.tmps[60]?).getD undef=.pointer b:=cK h 10 60;have e2:(a.tmps[61]?).getD undef=.int .i64 num:=cK h 11 61;refine Oper.wpW (aS 102 #[.pointer b,.int .i64 num] ?_ ((b2 w1 h.r.below).mono ?_))
   .clear h;go_simp
    first|done|rfl
   rintro e w' ⟨rfl,hqb⟩;exact⟨_,rfl,((h.r.on hqb).val 12 (by decide))⟩
  .intro D σ w1 a h hdf;have e3:(a.tmps[56]?).getD undef=.slice bi S.ins.length capi:=cK h 6 56;have e4:(a.tmps[62]?).getD undef=.int .i64 f:=cK h 12 62;refine gG h ?_;clear h;go_simp
   first|done|rfl
  .intro D σ w1 a h hdf;have e5:(a.tmps[63]?).getD undef=.pointer (some ⟨bi,f*4,none⟩):=cK h 13 63;refine gG h ?_;clear h;go_simp
   first|done|rfl
  .intro D σ w1 a h hdf;have e7:(a.tmps[64]?).getD undef=.pointer (some ⟨bi,f*4+1,none⟩):=cK h 14 64;have hl:=(h.r.below.cell (by exact jI)).trans zf;have iX:BlockLt bi w1:=⟨zR jI h.r.below.size⟩
   refine gG h ?_;clear h;go_simp
   first|done|rfl
  .intro D σ w1 a h hdf;have e8:(a.tmps[65]?).getD undef=.bool true:=cK h 15 65;refine gG h ?_;clear h;go_simp
   first|done|rfl
  .intro D σ w1 a h hdf;have eg:a.eval (.tmp 66)=.bool true:=(h.ins 16 _ 66 rfl rfl).trans (h.r.vals 16 (by decide) (nR h 16));have ey:=eO (j:=16) (d:=66) eg;refine⟨λ_=>?_,λe=>by simp only[Region.wanted]at e;rw[ey _ _ rfl rfl]at e;cases e⟩;have e0:(a.tmps[0]?).getD undef=.pointer d:=mW h 0;refine Oper.wpW (uP h ?_);clear h;go_simp
   first|done|rfl
  .intro D σ w1 a h hdf;have eg:a.eval (.tmp 66)=.bool true:=(h.ins 16 _ 66 rfl rfl).trans (h.r.vals 16 (by decide) (nR h 16));have ey:=eO (j:=16) (d:=66) eg;refine⟨λ_=>?_,λe=>by simp only[Region.wanted]at e;rw[ey _ _ rfl rfl]at e;cases e⟩;have e0:(a.tmps[0]?).getD undef=.pointer d:=mW h 0;refine Oper.wpW (uP h ?_);clear h;go_simp
   first|done|rfl
  .intro D σ w1 a h hdf;have eg:a.eval (.tmp 66)=.bool true:=(h.ins 16 _ 66 rfl rfl).trans (h.r.vals 16 (by decide) (nR h 16));have ey:=eO (j:=16) (d:=66) eg;refine⟨λ_=>?_,λe=>by simp only[Region.wanted]at e;rw[ey _ _ rfl rfl]at e;cases e⟩;have e9:(a.tmps[68]?).getD undef=.pointer d:=cK h 18 68;refine Oper.wpW (uP h ?_);clear h;go_simp
   first|done|rfl
  .intro D σ w1 a h hdf;have eg:a.eval (.tmp 66)=.bool true:=(h.ins 16 _ 66 rfl rfl).trans (h.r.vals 16 (by decide) (nR h 16));have ey:=eO (j:=16) (d:=66) eg;refine⟨λ_=>?_,λe=>by simp only[Region.wanted]at e;rw[ey _ _ rfl rfl]at e;cases e⟩;have f0:(a.tmps[69]?).getD undef=.pointer d:=cK h 19 69;refine Oper.wpW (uP h ?_);clear h;go_simp
   first|done|rfl
  .intro D σ w1 a h hdf;have eg:a.eval (.tmp 66)=.bool true:=(h.ins 16 _ 66 rfl rfl).trans (h.r.vals 16 (by decide) (nR h 16));have ey:=eO (j:=16) (d:=66) eg;refine⟨λ_=>?_,λe=>by simp only[Region.wanted]at e;rw[ey _ _ rfl rfl]at e;cases e⟩;have f2:(a.tmps[70]?).getD undef=.pointer (some ⟨d,1,none⟩):=cK h 20 70;refine Oper.wpW (uP h ?_);clear h;go_simp
   first|done|rfl
  .intro D σ w1 a h hdf;have eg:a.eval (.tmp 66)=.bool true:=(h.ins 16 _ 66 rfl rfl).trans (h.r.vals 16 (by decide) (nR h 16));have ey:=eO (j:=16) (d:=66) eg;refine⟨λ_=>?_,λe=>by simp only[Region.wanted]at e;rw[ey _ _ rfl rfl]at e;cases e⟩;have f3:(a.tmps[71]?).getD undef=.pointer (some ⟨d,7,none⟩):=cK h 21 71;have hl:=(h.r.below.cell (by exact jD)).trans z7;have iX:BlockLt d w1:=⟨zR jD h.r.below.size⟩
   refine Oper.wpW (uP h ?_);clear h;go_simp
   first|done|rfl
  .intro D σ w1 a h hdf;have eg:a.eval (.tmp 66)=.bool true:=(h.ins 16 _ 66 rfl rfl).trans (h.r.vals 16 (by decide) (nR h 16));have ey:=eO (j:=16) (d:=66) eg;refine⟨λ_=>?_,λe=>by simp only[Region.wanted]at e;rw[ey _ _ rfl rfl]at e;cases e⟩;have e6:(a.tmps[6]?).getD undef=.int .i64 num:=mW h 6;refine Oper.wpW (uP h ?_);clear h;go_simp
   first|done|rfl
  .intro D σ w1 a h hdf;have eg:a.eval (.tmp 66)=.bool true:=(h.ins 16 _ 66 rfl rfl).trans (h.r.vals 16 (by decide) (nR h 16));have ey:=eO (j:=16) (d:=66) eg;refine⟨λ_=>?_,λe=>by simp only[Region.wanted]at e;rw[ey _ _ rfl rfl]at e;cases e⟩;have f4:(a.tmps[67]?).getD undef=.pointer d:=cK h 17 67;have f5:(a.tmps[72]?).getD undef=.string c.path2:=cK h 22 72;have f6:(a.tmps[73]?).getD undef=.int .i64 num:=cK h 23 73;refine Oper.wpW (aS 188 #[.pointer d,.string c.path2,.int .i64 num] ?_ ((b3 w1 h.r.below).mono ?_))
   .clear h;go_simp
    first|done|rfl
   rintro e w' ⟨rfl,hqb⟩;exact⟨_,rfl,((h.r.on hqb).val 24 (by decide))⟩
  .intro D σ w1 a h hdf;have f7:(a.tmps[66]?).getD undef=.bool true:=cK h 16 66;have f8:(a.tmps[74]?).getD undef=.bool true:=cK h 24 74;refine gG h ?_;clear h;go_simp
   first|done|rfl
  intro D σ w1 a h hdf;refine⟨λ_=>?_,λe=>absurd e (by simp[Region.wanted])⟩;have f9:(a.tmps[75]?).getD undef=.bool true:=cK h 25 75;intro nx _;refine Oper.wpX 172 #[.bool true,.int .i64 9] ?_ ((aP 9 w1).mono λe w' ⟨he,hb2⟩=>⟨_,he,hdf,c4.trans ((h.r.below.trans (hb2.mono h.r.below.size)).mono (zD hB hbz.size)),rfl⟩);clear h;go_simp
  first|done|rfl
 intro σ w1 hR;exact absurd trivial hR.no
theorem cpC (w:World) (ty:TypeId) (g n cap:Nat) (l:List UInt8) (s:ByteArray) (h:Blk w g (bM l) 5) (hl:l.length=n) (hgt:n<=s.size):
 (Builtin.copy_ #[147,9] ty #[.slice g n cap,.string s]).run prog w=.ok (.int .i64 n) (w.setRow g (bM (s.data.toList.take n))):=by
 obtain⟨i,hi,hz,h1,h2⟩:=info_parts aEY;have a3:(bM l).size=n:=by rw[uL,hl]
 have a2:(Lib.byteCells (s.data.toList.take n)).length=n:=by rw[Lib.byteCells_length,zU,<-Lib.size_eq];omega
 have a0:=run_storeCells_at prog g 0 5 (Lib.byteCells (s.data.toList.take n)) 0 (bM l) w h (by rw[a2];omega) (Lib.byteCells_one _);have a1:Nat.min s.size n=n:=Nat.min_eq_right hgt;have a4:List.take n (List.map (λb:UInt8=>Value.int IntKind.u8 (b.toNat:Int)) s.data.toList)=Lib.byteCells (s.data.toList.take n):=by unfold Lib.byteCells;rw[map_take]
 have e:(List.take 0 (bM l).toList++Lib.byteCells (List.take n s.data.toList)++List.drop (0+n) (bM l).toList).toArray=bM (s.data.toList.take n):=by unfold bM;refine congrArg List.toArray ?_;rw[take_zero,nil_append,zS (by have:=a3;unfold bM at this;simp at this;simp;omega),append_nil]
 rw[a2]at a0;simp only[zN]at a0;rw[e]at a0;have a5:i.size=1:=h1;simp[Builtin.copy_,run_underlying underlying147,Builtin.lenOf,Builtin.firstCells,sizeOf,typeInfo,hi,a1,a5];rw[a4,a0];rfl
def tF (had:List UInt8) (n:Nat):List UInt8:=if had.length<=n then had++List.replicate (n-had.length) 0 else had.take n
def rW (had:ByteArray) (n:Nat):ByteArray:=⟨(tF had.data.toList n).toArray⟩
theorem wK (had:List UInt8) (n:Nat):(tF had n).length=n:=by
 unfold tF;split
 .simp only[lP,yP];omega
 rw[zU];omega
theorem aBP (had:ByteArray) (n g:Nat) (W:World) (hB:Blk W g (bM (List.replicate n 0)) 5):∃m0:TypeId->Int,∀ty,(Builtin.copy_ #[147,9] ty #[.slice g n n,.string had]).run prog W=.ok (.int .i64 (m0 ty)) (W.setRow g (bM (tF had.data.toList n))):=by
 have a0:had.data.toList.length=had.size:=rfl;have a1:∀ty,∃m:Int,(Builtin.copy_ #[147,9] ty #[.slice g n n,.string had]).run prog W=.ok (.int .i64 m) (W.setRow g (bM (tF had.data.toList n))):=λty=>by
  unfold tF;by_cases hle:had.size<=n
  .rw[zB (by rw[a0];exact hle)];have:=cpN W ty g 0 n n (List.replicate n 0) had hB hle (by rw[yP];omega);simp only[take_zero,nil_append,zM,drop_replicate]at this;exact⟨_,this⟩
  rw[zA (by rw[a0];exact hle)];exact⟨_,cpC W ty g n n (List.replicate n 0) had hB yP (by omega)⟩
 exact⟨λty=>Classical.choose (a1 ty),λty=>Classical.choose_spec (a1 ty)⟩
theorem aYA (had:ByteArray) (n:Nat) (w:World) (hh:had.size<=1000000) (hn:n<=1000000):
 vR w 186 #[.string had,.int .i64 n] (.string (rW had n)):=by
 have a2:=λu=>mkN n (by omega) u;have a0:=aBP had n;have a1:=wK had.data.toList n;unfold rW;generalize tF had.data.toList n=L1 at a0 a1 |-;have HC:=aC a0;clear a0;unfold vR;go_in;go_upto_region 2 with fail;refine aD (F:=λW=>Blk W w.heap.size (bM (List.replicate n 0)) 5/\Below w.heap.size w W) ⟨Blk.new _ _ _,bel _ _⟩ ?_;obtain⟨g,hg⟩:=gAB w.heap.size;rw[hg];rintro W ⟨hB,hbW⟩;have iG:=hB.lt;obtain⟨m0,hm0⟩:=HC.out g W hB;have HW:=bJ hB hbW;have HG:=aC hg;clear hB hbW hg a2;go_upto_region 3 with fail;refine aD (F:=λW2=>Blk W2 g (bM L1) 5/\Below g w W2) ⟨kE HW.out.1 _,mN HW.out.2 (zC _) _⟩ ?_;clear hm0 iG;rintro W2 ⟨hB2,hbW2⟩;have iG:=hB2.lt;have a4:=cvN W2 g n n L1 hB2 a1;have a3:=bJ hB2 hbW2;clear hB2 hbW2;go_wp2;go_ret;exact⟨rfl,by rw[HG.out];exact a3.out.2⟩
def bBM (d:Nat) (OO1:Int) (SS1:ByteArray):Nat->Value
 |0=>.pointer (some ⟨d,0,none⟩)
 |1=>.pointer (some ⟨d,0,none⟩)
 |2=>.pointer (some ⟨d,1,none⟩)
 |3=>.pointer (some ⟨d,4,none⟩)
 |4=>.int .i64 OO1
 |5=>.pointer (some ⟨d,0,none⟩)
 |6=>.pointer (some ⟨d,0,none⟩)
 |7=>.pointer (some ⟨d,1,none⟩)
 |8=>.pointer (some ⟨d,8,none⟩)
 |9=>.string SS1
 |10=>.int .i64 SS1.size
 |11=>.int .i64 (OO1+SS1.size)
 |12=>.bool true
 |_=>undef
def lR (S:PSt) (c:PCall) (r:PRes):Except Int (PSt × PRes):=match eL S c with
 |none=>.error 4
 |some y=>if(tA c.off&&tA (c.data.size:Int))=true then(if 256<c.off+c.data.size then .error 5 else .ok ({ S with ins:=S.ins.set y.1 { y.2 with data:=aBD y.2.data c.off.toNat c.data}},{ r with num:=c.data.size}))else .error 9
def lS (S:PSt) (c:PCall) (r:PRes):Except Int (PSt × PRes):=match eL S c with
 |none=>.error 4
 |some y=>if tA c.num=true then .ok ({ S with ins:=S.ins.set y.1 { y.2 with data:=rW y.2.data c.num.toNat}},r)else .error 9
theorem aDT (B d b:Nat) (S:PSt) (c:PCall) (r:PRes) (w:World) (h:DoAt B w d b S c r) (hB:B<=w.heap.size) (hf:Fine S) (hk:c.kind=5) (hsz:∀x∈S.ins,x.data.size<=1000000) (hcd:c.data.size<=1000000000000000000):
 Calls prog 146 #[.pointer d] w (bL B w d b c (lR S c r)):=by
 unfold lR;by_cases hin:(tA c.off&&tA (c.data.size:Int))=true
 .have a3:=hin;unfold tA at a3;simp only[zE,zI]at a3;obtain⟨⟨ho0,ho1⟩,hd0,hd1⟩:=a3;simp only[hin,if_true];by_cases hsum:256<c.off+c.data.size
  .simp only[hsum,if_true];obtain⟨bi,cap,ov,mv,nv,hP⟩:=h.part hf.pos;have ht:=hP.file hf;have iD:=hP.hD.lt;unfold qO at ht;generalize hX:eL S c=X at ht |-;rcases X with _|⟨K,x⟩
   .simp only at ht |-
    go_in;go_wp2_with(go_at_call 143;refine ht.mono ?_;rintro e w1 ⟨hb1,rfl⟩);exact⟨rfl,hb1.mono hB,rfl⟩
   simp only at ht |-;generalize cV (eW c) S.op=I at ht;have a0:=λww=>rT c.off ww;have a2:=λww=>rT (c.data.size:Int) ww;simp only[zE]at hin;rw[hin.1]at a0;rw[hin.2]at a2;have HP:=aC hP;clear h hP hX hsz;go_in;go_upto_region 1 with(go_at_call 143;refine ht.mono ?_;rintro e w1 ⟨hb1,rfl⟩;have HB:=aC hb1;clear hb1)
   refine aD (F:=λwA=>DPart B wA d b bi cap ov mv nv S c r/\Bl w wA) ⟨HP.out.below HB.out,HB.out⟩ ?_;clear ht iD HP HB;rintro wA ⟨hA,hbA⟩;have iD:=hA.hD.lt;have a1:wA.cell? ⟨d,1,none⟩=some (.int .i64 c.kind):=hA.hD.cell 1;rw[hk]at a1;have a4:wA.cell? ⟨d,4,none⟩=some (.int .i64 c.off):=hA.hD.cell 4;have a8:wA.cell? ⟨d,8,none⟩=some (.string c.data):=hA.hD.cell 8;have HA:=mJ hA hbA a4 a8;clear hA hbA;go_upto_region 8 with(first|(go_at_call 183;with_reducible refine aE (a0 _) λp=>?_)|(go_at_call 183;with_reducible refine aE (a2 _) λp=>?_)|(go_at_call 172;refine aE (aG _ _) λp=>?_))
   refine aD (F:=λwz=>Bl wA wz) (bel _ _) ?_;intro wz hbz;have z4:=(hbz.cell (p:=⟨d,4,none⟩) iD.lt).trans HA.out.2.2.1;have z8:=(hbz.cell (p:=⟨d,8,none⟩) iD.lt).trans HA.out.2.2.2;have a5:B<=wA.heap.size:=zD hB HA.out.2.1.size;have a6:Below B w wz:=(HA.out.2.1.mono hB).trans (hbz.mono a5);have a7:B<=wz.heap.size:=zD a5 hbz.size;have jD:=zR iD.lt hbz.size;have a9:IntKind.i64.wrap (c.off+c.data.size)=c.off+c.data.size:=I64.wrap ⟨by omega,by omega⟩;have b0:decide ((256:Int)<c.off+c.data.size)=true:=decide_eq_true hsum;clear a1 a4 a8;refine lT (RV 13 (bBM d c.off c.data) wz) ?_ ?_ ?_
   .intro σ;exact RV.zero (by decide) (bel wz _)
   .refine⟨?_,?_,?_,?_,?_,?_,?_,?_,?_,?_,?_,?_,?_,?_,trivial⟩
    .intro D σ w1 a h hdf;have e0:(a.tmps[0]?).getD undef=.pointer d:=mW h 0;refine gG h ?_;clear h;go_simp
     first|done|rfl
    .intro D σ w1 a h hdf;have b1:(a.tmps[81]?).getD undef=.pointer d:=cK h 0 81;refine gG h ?_;clear h;go_simp
     first|done|rfl
    .intro D σ w1 a h hdf;have b2:(a.tmps[82]?).getD undef=.pointer d:=cK h 1 82;refine gG h ?_;clear h;go_simp
     first|done|rfl
    .intro D σ w1 a h hdf;have b3:(a.tmps[83]?).getD undef=.pointer (some ⟨d,1,none⟩):=cK h 2 83;refine gG h ?_;clear h;go_simp
     first|done|rfl
    .intro D σ w1 a h hdf;have b4:(a.tmps[84]?).getD undef=.pointer (some ⟨d,4,none⟩):=cK h 3 84;have hl:=(h.r.below.cell (by exact jD)).trans z4;have iX:BlockLt d w1:=⟨zR jD h.r.below.size⟩
     refine gG h ?_;clear h;go_simp
     first|done|rfl
    .intro D σ w1 a h hdf;have e0:(a.tmps[0]?).getD undef=.pointer d:=mW h 0;refine gG h ?_;clear h;go_simp
     first|done|rfl
    .intro D σ w1 a h hdf;have b5:(a.tmps[86]?).getD undef=.pointer d:=cK h 5 86;refine gG h ?_;clear h;go_simp
     first|done|rfl
    .intro D σ w1 a h hdf;have b6:(a.tmps[87]?).getD undef=.pointer d:=cK h 6 87;refine gG h ?_;clear h;go_simp
     first|done|rfl
    .intro D σ w1 a h hdf;have b7:(a.tmps[88]?).getD undef=.pointer (some ⟨d,1,none⟩):=cK h 7 88;refine gG h ?_;clear h;go_simp
     first|done|rfl
    .intro D σ w1 a h hdf;have b8:(a.tmps[89]?).getD undef=.pointer (some ⟨d,8,none⟩):=cK h 8 89;have hl:=(h.r.below.cell (by exact jD)).trans z8;have iX:BlockLt d w1:=⟨zR jD h.r.below.size⟩
     refine gG h ?_;clear h;go_simp
     first|done|rfl
    .intro D σ w1 a h hdf;have b9:(a.tmps[90]?).getD undef=.string c.data:=cK h 9 90;refine gG h ?_;clear h;go_simp
     first|done|rfl
    .intro D σ w1 a h hdf;have c0:(a.tmps[85]?).getD undef=.int .i64 c.off:=cK h 4 85;have c1:(a.tmps[91]?).getD undef=.int .i64 c.data.size:=cK h 10 91;refine gG h ?_;clear h;go_simp
     first|done|rfl
    .intro D σ w1 a h hdf;have c2:(a.tmps[92]?).getD undef=.int .i64 (c.off+c.data.size):=cK h 11 92;refine gG h ?_;clear h;go_simp
     first|done|rfl
    intro D σ w1 a h hdf;refine⟨λ_=>?_,λe=>absurd e (by simp[Region.wanted])⟩;have c3:(a.tmps[93]?).getD undef=.bool true:=cK h 12 93;intro nx _;refine Oper.wpX 172 #[.bool true,.int .i64 5] ?_ ((aP 5 w1).mono λe w' ⟨he,hb2⟩=>⟨_,he,hdf,a6.trans ((h.r.below.trans (hb2.mono h.r.below.size)).mono a7),rfl⟩);clear h;go_simp
    first|done|rfl
   intro σ w1 hR;exact absurd trivial hR.no
  simp only[hsum,if_false];have:=aFJ B d b S c r w h hB hf hk ho0 (by omega) hsz;unfold aIK at this;exact this
 simp only[hin,if_false];obtain⟨bi,cap,ov,mv,nv,hP⟩:=h.part hf.pos;have ht:=hP.file hf;have iD:=hP.hD.lt;unfold qO at ht;generalize hX:eL S c=X at ht |-;rcases X with _|⟨K,x⟩
 .simp only at ht |-
  go_in;go_wp2_with(go_at_call 143;refine ht.mono ?_;rintro e w1 ⟨hb1,rfl⟩);exact⟨rfl,hb1.mono hB,rfl⟩
 simp only at ht |-;generalize cV (eW c) S.op=I at ht;have a0:=λww=>rT c.off ww;have a2:=λww=>rT (c.data.size:Int) ww;generalize tA c.off=i1 at hin a0;generalize tA (c.data.size:Int)=i2 at hin a2;have HP:=aC hP;clear h hP hX hsz;go_in;go_upto_region 1 with(go_at_call 143;refine ht.mono ?_;rintro e w1 ⟨hb1,rfl⟩;have HB:=aC hb1;clear hb1)
 refine aD (F:=λwA=>DPart B wA d b bi cap ov mv nv S c r/\Bl w wA) ⟨HP.out.below HB.out,HB.out⟩ ?_;clear ht iD HP HB;rintro wA ⟨hA,hbA⟩;have iD:=hA.hD.lt;have a1:wA.cell? ⟨d,1,none⟩=some (.int .i64 c.kind):=hA.hD.cell 1;rw[hk]at a1;have a4:wA.cell? ⟨d,4,none⟩=some (.int .i64 c.off):=hA.hD.cell 4;have a8:wA.cell? ⟨d,8,none⟩=some (.string c.data):=hA.hD.cell 8;have HA:=bJ hA hbA;clear hA;rcases i1 with _|_
 .go_wp2_with(first|(go_at_call 183;refine aE (a0 _) λp=>?_)|(go_at_call 172;refine aE (aP _ _) λp=>?_))
  exact⟨rfl,(hbA.mono hB).trans ((bel wA _).mono (zD hB hbA.size)),rfl⟩
 rcases i2 with _|_
 .go_wp2_with(first|(go_at_call 183;with_reducible refine aE (a0 _) λp=>?_)|(go_at_call 183;with_reducible refine aE (a2 _) λp=>?_)|(go_at_call 172;refine aE (aP _ _) λp=>?_))
  exact⟨rfl,(hbA.mono hB).trans ((bel wA _).mono (zD hB hbA.size)),rfl⟩
 exact absurd rfl hin
theorem aFK (B d b:Nat) (S:PSt) (c:PCall) (r:PRes) (w:World) (h:DoAt B w d b S c r) (hB:B<=w.heap.size) (hf:Fine S) (hk:c.kind=6) (hsz:∀x∈S.ins,x.data.size<=1000000):
 Calls prog 146 #[.pointer d] w (bL B w d b c (lS S c r)):=by
 unfold lS;obtain⟨bi,cap,ov,mv,nv,hP⟩:=h.part hf.pos;have ht:=hP.file hf;have iD:=hP.hD.lt;unfold qO at ht;generalize hX:eL S c=X at ht |-;rcases X with _|⟨K,x⟩
 .simp only at ht |-
  go_in;go_wp2_with(go_at_call 143;refine ht.mono ?_;rintro e w1 ⟨hb1,rfl⟩);exact⟨rfl,hb1.mono hB,rfl⟩
 simp only at ht |-;obtain⟨hx,hKl⟩:=kF hX;have a8:=hsz x (mG hx);generalize cV (eW c) S.op=I at ht;have a0:=λww=>rT c.num ww;rcases hi:tA c.num with _|_
 .rw[hi]at a0;simp only[zP,if_false];have HP:=aC hP;clear h hP hX hsz
  go_in;go_upto_region 1 with(go_at_call 143;refine ht.mono ?_;rintro e w1 ⟨hb1,rfl⟩;have HB:=aC hb1;clear hb1)
  refine aD (F:=λwA=>DPart B wA d b bi cap ov mv nv S c r/\Bl w wA) ⟨HP.out.below HB.out,HB.out⟩ ?_;clear ht iD HP HB;rintro wA ⟨hA,hbA⟩;have iD:=hA.hD.lt;have a1:wA.cell? ⟨d,1,none⟩=some (.int .i64 c.kind):=hA.hD.cell 1;rw[hk]at a1;have a5:wA.cell? ⟨d,5,none⟩=some (.int .i64 c.num):=hA.hD.cell 5;clear hA;go_wp2_with(first|(go_at_call 183;refine aE (a0 _) λp=>?_)|(go_at_call 172;refine aE (aP _ _) λp=>?_));exact⟨rfl,(hbA.mono hB).trans ((bel wA _).mono (zD hB hbA.size)),rfl⟩
 rw[hi]at a0;simp only[if_true];have a2:=hi;unfold tA at a2;simp only[zE,zI]at a2;obtain⟨o,ho⟩:∃o:Nat,c.num=o:=⟨c.num.toNat,by omega⟩;have a3:=λww=>aYA x.data o ww (by omega) (by omega);have eo:c.num.toNat=o:=by omega
 rw[eo];rw[ho]at a0;generalize rW x.data o=z at a3 |-;have HO:=aC ho;clear eo ho hi a2;have HP:=aC hP;clear h hP hX hsz;go_in;go_upto_region 1 with(go_at_call 143;refine ht.mono ?_;rintro e w1 ⟨hb1,rfl⟩;have HB:=aC hb1;clear hb1)
 refine aD (F:=λwA=>DPart B wA d b bi cap ov mv nv S c r/\Bl w wA) ⟨HP.out.below HB.out,HB.out⟩ ?_;clear ht iD HP HB;rintro wA ⟨hA,hbA⟩;have iD:=hA.hD.lt;have a1:wA.cell? ⟨d,1,none⟩=some (.int .i64 c.kind):=hA.hD.cell 1;rw[hk]at a1;have a5:wA.cell? ⟨d,5,none⟩=some (.int .i64 c.num):=hA.hD.cell 5;rw[HO.out]at a5;obtain⟨iI,x0,x1,x3⟩:=hA.dat hx;obtain⟨hge,cc,hcc⟩:=hA.ge_bi hx;have f3:=hcc.frozen (K*4+3);have a6:¬bi=d:=hcc.ne_ hA.hD (by decide);have a7:¬d=bi:=λe=>a6 e.symm;have HA:=mJ hA hbA hx hge;clear hA hbA hx hge hcc;go_upto_region 13 with(first|(go_at_call 183;refine aE (a0 _) λp=>?_)|(go_at_call 172;refine aE (aG _ _) λp=>?_))
 refine aH [10,13] true (λw'=>w'.cell? ⟨d,5,none⟩=some (.int .i64 o)/\w'.cell? ⟨bi,K*4+3,none⟩=some (.string x.data)) (by kernel_rfl) (by kernel_rfl) ?_ ?_
 · (try dsimp only);(repeat' apply And.intro)<;>go_simp
 repeat
  apply aI0 rfl rfl
  focus
   rintro w' ⟨s0,s1⟩;go_simp
   first|done|rfl
  simp only[Act.put,sA,sZ,sS]
 refine bB rfl rfl ?_;refine aS 186 #[.string x.data,.int .i64 o] ?hr ?_
 case hr=>
  go_simp
  first|done|rfl
 refine aE (a3 _) λq1=>?_;refine⟨_,rfl,.inl ?_,?_⟩
 · (try dsimp only);(repeat' apply And.intro)<;>go_simp
 simp only[Act.put,sA,sZ,sS]
 repeat
  apply aI0 rfl rfl
  focus
   rintro w' ⟨s0,s1⟩;go_simp
   first|done|rfl
  simp only[Act.put,sA,sZ,sS]
 refine aW rfl rfl ?_;apply Exists.intro;refine⟨?_,.inr ⟨rfl,rfl⟩,?_⟩
 focus
  go_simp;rfl
 simp only[Act.put,sA,sZ,sS];refine aU ?_;clear a5 x0 x1 x3;go_wp2_with fail;have a4:Below B w (wA.setCell ⟨bi,K*4+3,none⟩ (.string z)):=(HA.out.2.1.mono hB).setCell (p:=⟨bi,K*4+3,none⟩) HA.out.2.2.2 _;exact xE (v:=.tuple #[]) (by simp[results,go_sem]) rfl ⟨a4.trans ((bel _ _).mono (zD hB a4.size)),rfl,((HA.out.1.setData HA.out.2.2.1 z).below (bel _ _)).at_⟩
end Go.Proofs.YtmkapobnfigedaaGreatDoor
