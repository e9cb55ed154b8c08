/- Part of the proof of a law of chapter 15. Conditions: none. -/
import Derived.Test.YtmkapobnfigedaaGreatDoorDl25
import Derived.Test.YtmkapobnfigedaaGreatDoorDl26
set_option linter.unusedVariables false
set_option linter.unusedSimpArgs false
set_option maxRecDepth 100000
set_option maxHeartbeats 8000000
namespace Go.Proofs.YtmkapobnfigedaaGreatDoor
open Go.RowKit
section
theorem aLA {ns:List Int} {n:Int} (h:0<=aJ ns n):ns[(aJ ns n).toNat]? =some n:=by
 unfold aJ at h |-;split at h
 .rename_i hc
  rw[zB hc];simp only[zE,zI]at hc;obtain⟨h1,h2⟩:=hc;rw[zJ];unfold qP at h2;rw[gE h1]at h2 |-;simp only at h2;unfold gS at h2;congr 1;split at h2
  .exact absurd h2 (by decide)
  split at h2
  .exact absurd h2 (by decide)
  omega
 omega
theorem rG {α:Type} (l:List α) (i:Nat) (hi:i<l.length) (q:Nat):(aM l i)[q]? =if q<i then l[q]? else l[q+1]? :=by
 unfold aM;have a0:(l.take i).length=i:=by rw[zU];omega
 by_cases h1:q<i
 .rw[zB h1,zZ (by omega),yO,zB h1]
 rw[zA h1,yC (by omega),a0,yN];congr 1;omega
theorem fF {α:Type} (l:List α) (i:Nat) (hi:i<l.length):(aM l i).length=l.length-1:=by unfold aM;rw[lP,zU,yK];omega
variable {B K:Nat} {S:PSt} {c:PCall} {mv ov:Value} {w:World} {x:PIn}
theorem StOwn.delIns {iv:Value} (h:StOwn B w iv ov mv S) (i:Nat) (hi:i<S.ins.length):
 ∃is:List IRec,OwnP B w 68 4 iv (is.map IRec.cells)/\is.length=S.ins.length/\∀(w1:World) (iv':Value) (X:Nat->Prop),Keep X w w1->(∀g,X g->∃c,Blk w g c 68)->OwnP B w1 68 4 iv' ((is.map IRec.cells).take i++(is.map IRec.cells).drop (i+1))->StOwn B w1 iv' ov mv { S with ins:=aM S.ins i}:=by
 obtain⟨h1,h2,is,h3,h4,h5,h6⟩:=h;refine⟨is,h3,h4,λw1 iv' X hk hX hiv=>?_⟩;have key:∀{e:TypeId} {k:Nat} {v:Value} {rows:List (List Value)},OwnP B w e k v rows->e≠68->OwnP B w1 e k v rows:=by intro e k v rows ho he;refine ho.keep hk (λg hg hx=>?_);obtain⟨c,hc⟩:=hX g hx;exact ho.ne_blk hc he hg rfl
 have a0:∀(q:Nat) (r:IRec) (x:PIn),is[q]? =some r->S.ins[q]? =some x->r.num=x.num/\r.dir=x.dir/\r.data=x.data/\OwnP B w1 97 2 r.ev (x.ents.map PEnt.cells):=λq r x hr hx=>by obtain⟨a1,a2,a3,a4⟩:=h5 q r x hr hx;exact⟨a1,a2,a3,key a4 (by decide)⟩
 refine⟨key h1 (by decide),key h2 (by decide),aM is i,?_,?_,?_,?_⟩
 .rw[rF];exact hiv
 .show(aM is i).length=(aM S.ins i).length;rw[fF _ _ (by omega),fF _ _ hi,h4]
 .intro q r x hr hx;have hx:(aM S.ins i)[q]? =some x:=hx;rw[rG _ _ (by omega)]at hr;rw[rG _ _ hi]at hx;by_cases c1:q<i
  .rw[zB c1]at hr hx;exact a0 q r x hr hx
  rw[zA c1]at hr hx;exact a0 (q+1) r x hr hx
 intro p q r r' hpq hp hq k hkk;rw[rG _ _ (by omega)]at hp hq;have a5:∀(p:Nat) (r:IRec),(if p<i then is[p]? else is[p+1]?)=some r->is[if p<i then p else p+1]? =some r:=by
  intro p r hp;by_cases c1:p<i
  .rw[zB c1]at hp |-;exact hp
  rw[zA c1]at hp |-;exact hp
 refine h6 _ _ r r' ?_ (a5 p r hp) (a5 q r' hq) k hkk;split<;>split<;>omega
def oI (S:PSt) (num:Int):PSt:=match S.ins[(aJ S.nums num).toNat]? with
 |none=>S
 |some x=>if(!x.dir&&((dM S num:Int)==0)&&!mC S.op num)=true then{ S with ins:=aM S.ins (aJ S.nums num).toNat}else S
theorem aHX {d b bi cap:Nat} {nv:Value} {r:PRes} (h:DPart B w d b bi cap ov mv nv S c r) (hB:B<=w.heap.size) (hwf:S.wf) (num:Int) (hx:S.ins[K]? =some x) (hfn:aJ S.nums num=K):
 Calls Tryz.prog 145 #[.pointer (some ⟨d,0,none⟩),.int .i64 num] w λe w'=>e=.returned (.tuple #[])/\Below B w w'/\DPart B w' d b bi cap ov mv nv (oI S num) c r:=by
 have a1:∀ww,Below w.heap.size w ww->Calls Tryz.prog 102 #[.pointer (some ⟨b,0,none⟩),.int .i64 num] ww _:=λww hb=>gT b S num ww ((SP.of_blk h.hb h.st.read).below hb (zC _)) hwf;have a0:∀ww,Below w.heap.size w ww->Calls Tryz.prog 181 #[.agg #[.slice (some ⟨bi,0,none⟩) S.ins.length cap,ov,mv],.int .i64 num] ww _:=λww hb=>aHT _ _ _ S num ww (h.st.read.below hb (zC _)) hwf;have a3:∀ww,Below w.heap.size w ww->Calls Tryz.prog 72 #[.pointer (some ⟨b,0,none⟩),.int .i64 num] ww _:=λww hb=>aNL b S num ww ((SP.of_blk h.hb h.st.read).below hb (zC _)) hwf;have hM:oI S num=if(!x.dir&&((dM S num:Int)==0)&&!mC S.op num)=true then{ S with ins:=aM S.ins K}else S:=by unfold oI;rw[hfn,zJ,hx]
 rw[hM];rw[hfn]at a1;have iD:=h.hD.lt;have iL:=h.hb.lt;have d0:w.cell? ⟨d,0,none⟩=some (.pointer (some ⟨b,0,none⟩)):=h.hD.cell 0;have b0:=h.hb.cell 0;have b1:=h.hb.cell 1;have b2:=h.hb.cell 2;simp at b0 b1 b2;obtain⟨iI,x0,x1,x3⟩:=h.dat hx;obtain⟨hKl,-⟩:=gI.1 hx;have b7:(K:Int)<S.ins.length:=by omega
 have b8:(Value.slice (some ⟨bi,0,none⟩) S.ins.length cap).oneCell'=true:=rfl;have b9:=h.st.1.one;have c0:=h.st.2.1.one;have HH:=aG h;have HW:=aG hwf;generalize hLv:((dM S num:Int)==0)=L0;generalize dM S num=L at a0 hLv;generalize mC S.op num=O at a3;clear hM h hx hfn x0 x3 hwf;generalize x.dir=xd at x1;rcases xd with _|_
 .rcases L0 with _|_
  .simp only[Bool.not_false,Bool.and_false,Bool.and_true,yJ,xA,zP,if_false]
   go_enter Tryz.func145,Tryz.ntmps145;go_wp2_with(first|(go_at_call 102;refine aE (a1 _ (bel _ _)) λp=>?_)|(go_at_call 181;refine aE (a0 _ (bel _ _)) λp=>?_));exact xC (v:=.tuple #[]) (by simp[results,go_sem]) rfl ⟨rfl,(bel w _).mono hB,HH.out.below (bel _ _)⟩
  rcases O with _|_
  .simp only[Bool.not_false,Bool.not_true,Bool.and_false,Bool.and_true,yJ,xA,zP,if_true,if_false];have c1:IntKind.i64.wrap ((K:Int)+1)=(K:Int)+1:=I64.wrap ⟨by omega,by have:=HW.out.1;omega⟩
   go_enter Tryz.func145,Tryz.ntmps145;go_upto_region 2 with(first|(go_at_call 102;refine aE (a1 _ (bel _ _)) λp=>?_)|(go_at_call 181;refine aE (a0 _ (bel _ _)) λp=>?_)|(go_at_call 72;refine aE (a3 _ (bel _ _)) λp=>?_))
   refine aI (F:=λwA=>DPart B wA d b bi cap ov mv nv S c r/\Below w.heap.size w wA) ⟨HH.out.below (bel _ _),bel _ _⟩ ?_;clear iD iL d0 b0 b1 b2 iI x1;rintro wA ⟨hA,hbA⟩;have iD:=hA.hD.lt;have iL:=hA.hb.lt;have d0:wA.cell? ⟨d,0,none⟩=some (.pointer (some ⟨b,0,none⟩)):=hA.hD.cell 0;have b0:wA.cell? ⟨b,0,none⟩=some (.slice (some ⟨bi,0,none⟩) S.ins.length cap):=by have:=hA.hb.cell 0;simpa using this
   obtain⟨is,hi1,hi2,hi3⟩:=hA.st.delIns K hKl;have a5:=vP B bi cap (is.map IRec.cells) K wA.drew (by rw[lM,hi2];exact hi1.keep ((Keep.refl (λ_=>False) wA).drew) (λ_ _ h=>h)) (eU _) (mZ _) (by rw[lM,hi2];exact hKl) (by rw[lM,hi2];exact HW.out.1);rw[lM,hi2]at a5;have HA:=dR hA hbA hi3;clear hA hbA hi3 hi1;refine aC [14,17] true (λw'=>w'.cell? ⟨d,0,none⟩=some (.pointer (some ⟨b,0,none⟩))/\w'.cell? ⟨b,0,none⟩=some (.slice (some ⟨bi,0,none⟩) S.ins.length cap)) (by kernel_rfl) (by kernel_rfl) ?_ ?_
   · (try dsimp only);(repeat' apply And.intro)<;>go_simp
   repeat
    refine aH rfl rfl ?_;apply Exists.intro;refine⟨?_,?_⟩
    focus
     rintro w' ⟨s0,s1⟩;go_simp
     first|done|rfl
    simp only[Act.put,sA,sZ,sS]
   refine aZ rfl rfl ?_;refine aS 182 #[.slice (some ⟨bi,0,none⟩) S.ins.length cap,.int .i64 K,.int .i64 ((K:Int)+1)] ?hr ?_
   case hr=>
    go_simp
    first|done|rfl
   refine a5.mono ?_;rintro e w5 ⟨rfl,ho5,hk5⟩;obtain⟨hA,hbA,hi3⟩:=HA.out;have a2:Keep (λg=>g=bi) wA w5:=((Keep.refl (λg=>g=bi) wA).drew).trans hk5 (λ_ _ h=>h);obtain⟨hBi,arr,hbi⟩:B<=bi/\∃arr,Blk wA bi arr 68:=by
    obtain⟨_,_,is',h3,_⟩:=hA.st;rcases h3 with⟨h0,_⟩|⟨g,cap',arr,heq,hgB,hgb,_⟩
    .cases h0
    simp only[zO,zF,yG]at heq;obtain⟨⟨rfl,-,-⟩,-,-⟩:=heq;exact⟨hgB,arr,hgb⟩
   have hX:∀g,g=bi->∃c,Blk wA g c 68:=λg hg=>by rw[hg];exact⟨arr,hbi⟩
   have a6:=hi3 w5 _ _ a2 hX ho5;have a9:∀{g:Nat} {cc:Array Value} {t:TypeId},Blk wA g cc t->t≠68->¬g=bi:=λhb ht hg=>by subst hg;exact hb.ne_ hbi ht rfl
   have a7:=a2.blk hA.hD (a9 hA.hD (by decide));have a4:=a2.blk hA.hb (a9 hA.hb (by decide));have b4:=hA.nm.keep a2 (λg hg h=>by
    obtain⟨cc,hcc⟩:=hA.nm.blk_of hg;exact a9 hcc (by decide) h)
   have b6:B<=wA.heap.size:=zD hB hbA.size;have a8:Below B w w5:=(hbA.mono hB).trans (a2.below b6 (λi hi h=>by omega));have y0:w5.cell? ⟨d,0,none⟩=some (.pointer (some ⟨b,0,none⟩)):=a7.cell 0;have y1:w5.cell? ⟨b,0,none⟩=some (.slice (some ⟨bi,0,none⟩) S.ins.length cap):=by have:=a4.cell 0;simpa using this
   have c2:=a4.frozen 0;have jD:=a7.lt;have jB:=a4.lt;have b3:Keep (λg=>g=b) w5 (w5.setCell ⟨b,0,none⟩ (.slice (some ⟨bi,0,none⟩) (S.ins.length-1) cap)):=Keep.setCell (S:=λg=>g=b) (p:=⟨b,0,none⟩) (Keep.refl _ _) (.inl rfl) _;have hp:DPart B (w5.setCell ⟨b,0,none⟩ (.slice (some ⟨bi,0,none⟩) (S.ins.length-1) cap)) d b bi cap ov mv nv { S with ins:=aM S.ins K} c r:=⟨hA.hBb,hA.hBd,b3.blk a7 (a7.ne_ a4 (by decide)),by rw[fF _ _ hKl];have:=a4.set_ 0 (.slice (some ⟨bi,0,none⟩) (S.ins.length-1) cap);simpa using this,by rw[fF _ _ hKl];exact a6.keep b3 (λg hg=>by rw[hg];exact⟨_,26,a4,by decide,by decide,by decide,by decide⟩),b4.keep b3 (λg hg=>b4.ne_blk a4 (by decide) hg)⟩;have b5:Below B w (w5.setCell ⟨b,0,none⟩ (.slice (some ⟨bi,0,none⟩) (S.ins.length-1) cap)):=a8.setCell (p:=⟨b,0,none⟩) hA.hBb _;have HF:=bB hp b5;clear hA hbA a6 a7 a4 b4 a2 hk5 ho5 a9 a8 b3 hp b5 a5 hbi hX hi3;refine⟨_,rfl,.inl ⟨y0,y1⟩,?_⟩;simp only[Act.put,sA,sZ,sS]
   repeat
    refine aH rfl rfl ?_;apply Exists.intro;refine⟨?_,?_⟩
    focus
     rintro w' ⟨s0,s1⟩;go_simp
     first|done|rfl
    simp only[Act.put,sA,sZ,sS]
   refine aU rfl rfl ?_;apply Exists.intro;refine⟨?_,.inr ⟨rfl,rfl⟩,?_⟩
   focus
    go_simp;rfl
   simp only[Act.put];refine aQ ?_;exact xC (v:=.tuple #[]) (by simp[results,go_sem]) rfl ⟨rfl,HF.out.2,HF.out.1⟩
  simp only[Bool.not_false,Bool.not_true,Bool.and_false,Bool.and_true,yJ,xA,zP,if_true,if_false];go_enter Tryz.func145,Tryz.ntmps145;go_wp2_with(first|(go_at_call 102;refine aE (a1 _ (bel _ _)) λp=>?_)|(go_at_call 181;refine aE (a0 _ (bel _ _)) λp=>?_)|(go_at_call 72;refine aE (a3 _ (bel _ _)) λp=>?_));exact xC (v:=.tuple #[]) (by simp[results,go_sem]) rfl ⟨rfl,(bel w _).mono hB,HH.out.below (bel _ _)⟩
 simp only[Bool.not_true,yJ,zP,if_false];go_enter Tryz.func145,Tryz.ntmps145;go_wp2_with(first|(go_at_call 102;refine aE (a1 _ (bel _ _)) λp=>?_));exact xC (v:=.tuple #[]) (by simp[results,go_sem]) rfl ⟨rfl,(bel w _).mono hB,HH.out.below (bel _ _)⟩
def kK (S:PSt) (c:PCall) (r:PRes):Except Int (PSt × PRes):=match dQ S c with
 |none=>.error 4
 |some y=>.ok (oI { S with op:=aM S.op (cG (eD c) S.op).toNat} y.2.num,r)
theorem aLB (hf:Fine S) (h:dQ S c=some (K,x)):aJ S.nums x.num=K:=by
 unfold dQ at h;split at h
 .cases h
 split at h
 .cases h
 rename_i y hy;split at h
 .cases h
 rename_i z hz;cases h;have h0:=hf.opens y (mG hy);have h1:=aLA h0;have h2:S.nums[(aJ S.nums y.num).toNat]? =some x.num:=by show(S.ins.map PIn.num)[(aJ S.nums y.num).toNat]? =some x.num;rw[gM,hz];rfl
 rw[h2]at h1;simp only[zF]at h1;rw[h1];omega
theorem aFZ (B d b:Nat) (S:PSt) (c:PCall) (r:PRes) (w:World) (h:DoAt B w d b S c r) (hB:B<=w.heap.size) (hf:Fine S) (hk:c.kind=3):
 Calls Tryz.prog 108 #[.pointer (some ⟨d,0,none⟩)] w (bA B w d b c (kK S c r)):=by
 obtain⟨bi,cap,ov,mv,nv,hP⟩:=h.part hf.pos;have ht:=hP.file hf;unfold oD at ht;unfold kK;rcases hX:dQ S c with _|⟨K,x⟩
 .rw[hX]at ht;simp only at ht |-;have iD:=hP.hD.lt;have d1:w.cell? ⟨d,1,none⟩=some (.int .i64 c.kind):=hP.hD.cell 1;rw[hk]at d1;clear h hP hX hf hk
  go_enter Tryz.func108,Tryz.ntmps108;go_wp2_with(go_at_call 143;refine ht.mono ?_;rintro e w1 ⟨hb1,rfl⟩;obtain⟨p,rfl⟩:=hb1.rest;clear hb1);exact⟨rfl,(bel w _).mono hB,rfl⟩
 rw[hX]at ht;simp only at ht |-;obtain⟨hx,hKl⟩:=hY hX;have a9:=aLB hf hX;have c0:=jT (eD c) S.op;have c1:0<=cG (eD c) S.op:=by
  unfold dQ at hX;split at hX
  .cases hX
  omega
 obtain⟨I,hI⟩:∃I:Nat,cG (eD c) S.op=I:=⟨(cG (eD c) S.op).toNat,by omega⟩;rw[hI]at ht c0 |-;rw[zJ];have c2:I<S.op.length:=by omega
 have c9:IntKind.i64.wrap ((I:Int)+1)=(I:Int)+1:=I64.wrap ⟨by omega,by have:=hf.wf.2.1;omega⟩;have iD:=hP.hD.lt;have d1:w.cell? ⟨d,1,none⟩=some (.int .i64 c.kind):=hP.hD.cell 1;rw[hk]at d1;obtain⟨go,co,rfl,-⟩:=hP.st.1.some_ (by rw[lM];omega);rw[lM]at hP;have HP:=aG hP;have HS:=dR hf hx a9;have c3:=hf.wf.2.1;clear h hP hX hI c1 hf hx a9 c0;go_enter Tryz.func108,Tryz.ntmps108;go_upto_region 8 with(go_at_call 143;refine ht.mono ?_;rintro e w1 ⟨hb1,rfl⟩;have HB:=aG hb1;clear hb1)
 refine aI (F:=λwA=>DPart B wA d b bi cap (.slice (some ⟨go,0,none⟩) S.op.length co) mv nv S c r/\Below w.heap.size w wA) ⟨HP.out.below HB.out,HB.out⟩ ?_;clear ht iD HP HB d1;rintro wA ⟨hA,hbA⟩;have iD:=hA.hD.lt;have iL:=hA.hb.lt;have d0:wA.cell? ⟨d,0,none⟩=some (.pointer (some ⟨b,0,none⟩)):=hA.hD.cell 0;have b1:wA.cell? ⟨b,1,none⟩=some (.slice (some ⟨go,0,none⟩) S.op.length co):=by have:=hA.hb.cell 1;simpa using this
 have a8:=aLV B go co (S.op.map PDesc.cells) I wA.drew (by rw[lM];exact hA.st.1.keep ((Keep.refl (λ_=>False) wA).drew) (λ_ _ h=>h)) (gZ _) (nP _) (by rw[lM];exact c2) (by rw[lM];exact c3);rw[lM]at a8;have HA:=bB hA hbA;clear hA hbA;refine aC [14,17] true (λw'=>w'.cell? ⟨d,0,none⟩=some (.pointer (some ⟨b,0,none⟩))/\w'.cell? ⟨b,1,none⟩=some (.slice (some ⟨go,0,none⟩) S.op.length co)) (by kernel_rfl) (by kernel_rfl) ?_ ?_
 · (try dsimp only);(repeat' apply And.intro)<;>go_simp
 repeat
  refine aH rfl rfl ?_;apply Exists.intro;refine⟨?_,?_⟩
  focus
   rintro w' ⟨s0,s1⟩;go_simp
   first|done|rfl
  simp only[Act.put,sA,sZ,sS]
 refine aZ rfl rfl ?_;refine aS 144 #[.slice (some ⟨go,0,none⟩) S.op.length co,.int .i64 I,.int .i64 ((I:Int)+1)] ?hr ?_
 case hr=>
  go_simp
  first|done|rfl
 refine a8.mono ?_;rintro e w5 ⟨rfl,ho5,hk5⟩;obtain⟨hA,hbA⟩:=HA.out;have a0:Keep (λg=>(Value.slice (some ⟨go,0,none⟩) S.op.length co).ownBlock=some g) wA w5:=by have h0:Keep (λg=>g=go) wA w5:=((Keep.refl (λg=>g=go) wA).drew).trans hk5 (λ_ _ h=>h);exact h0.mono (λi _ hi=>by rw[hi];rfl)
 have b0:=hA.st.setOp3 (op':=aM S.op I) a0 (by rw[rF];exact ho5);have b2:∀{g:Nat} {cc:Array Value} {t:TypeId},Blk wA g cc t->t≠95->¬(Value.slice (some ⟨go,0,none⟩) S.op.length co).ownBlock=some g:=λhb ht hg=>hA.st.1.ne_blk hb (λe=>ht e.symm) hg rfl;have b3:=a0.blk hA.hD (b2 hA.hD (by decide));have a7:=a0.blk hA.hb (b2 hA.hb (by decide));have b8:=hA.nm.keep a0 (λg hg h=>by
  obtain⟨cc,hcc⟩:=hA.nm.blk_of hg;exact b2 hcc (by decide) h)
 have c4:B<=wA.heap.size:=zD hB hbA.size;have b4:Below B w w5:=(hbA.mono hB).trans (a0.below c4 (λi hi h=>by have:=hA.st.1.ge h;omega));have y0:w5.cell? ⟨d,0,none⟩=some (.pointer (some ⟨b,0,none⟩)):=b3.cell 0;have y1:w5.cell? ⟨b,1,none⟩=some (.slice (some ⟨go,0,none⟩) S.op.length co):=by have:=a7.cell 1;simpa using this
 have d2:=a7.frozen 1;have jD:=b3.lt;have jB:=a7.lt;have b6:Keep (λg=>g=b) w5 (w5.setCell ⟨b,1,none⟩ (.slice (some ⟨go,0,none⟩) (S.op.length-1) co)):=Keep.setCell (S:=λg=>g=b) (p:=⟨b,1,none⟩) (Keep.refl _ _) (.inl rfl) _;have hp:DPart B (w5.setCell ⟨b,1,none⟩ (.slice (some ⟨go,0,none⟩) (S.op.length-1) co)) d b bi cap (.slice (some ⟨go,0,none⟩) (S.op.length-1) co) mv nv { S with op:=aM S.op I} c r:=⟨hA.hBb,hA.hBd,b6.blk b3 (b3.ne_ a7 (by decide)),by have:=a7.set_ 1 (.slice (some ⟨go,0,none⟩) (S.op.length-1) co);simpa using this,b0.keep b6 (λg hg=>by rw[hg];exact⟨_,26,a7,by decide,by decide,by decide,by decide⟩),b8.keep b6 (λg hg=>b8.ne_blk a7 (by decide) hg)⟩;have b9:Below B w (w5.setCell ⟨b,1,none⟩ (.slice (some ⟨go,0,none⟩) (S.op.length-1) co)):=b4.setCell (p:=⟨b,1,none⟩) hA.hBb _;obtain⟨hf,hx,a9⟩:=HS.out;have b5:({ S with op:=aM S.op I}:PSt).wf:=by
  obtain⟨a1,a2,a3,a4,a5,a6⟩:=hf.wf;refine⟨a1,?_,a3,a4,λy hy=>?_,a6⟩
  .show(aM S.op I).length<=_;unfold aM;simp;omega
  have c5:y∈S.op.take I++S.op.drop (I+1):=hy;exact a5 y ((List.mem_append.1 c5).elim List.mem_of_mem_take List.mem_of_mem_drop)
 have c6:=aHX hp (zD hB b9.size) b5 x.num hx a9;obtain⟨hge,cc,hcc⟩:=hA.ge_bi hx;have b7:=a0.blk hcc (b2 hcc (by decide));have c7:¬bi=b:=b7.ne_ a7 (by decide);have c8:¬b=bi:=λe=>c7 e.symm;have d3:=b7.lt;have d4:w5.cell? ⟨bi,K*4,none⟩=some (.int .i64 x.num):=by rw[b7.cell,<-hcc.cell];exact(hA.dat hx).2.1
 have HF:=dR hp b9 hf;clear hA hbA b0 b3 a7 b8 a0 hk5 ho5 b2 b4 b6 hp b9 b5 hf hx a9 a8 hge hcc b7;refine⟨_,rfl,.inl ⟨y0,y1⟩,?_⟩;simp only[Act.put,sA,sZ,sS]
 repeat
  refine aH rfl rfl ?_;apply Exists.intro;refine⟨?_,?_⟩
  focus
   rintro w' ⟨s0,s1⟩;go_simp
   first|done|rfl
  simp only[Act.put,sA,sZ,sS]
 refine aU rfl rfl ?_;apply Exists.intro;refine⟨?_,.inr ⟨rfl,rfl⟩,?_⟩
 focus
  go_simp;rfl
 simp only[Act.put];refine aQ ?_;clear d0 b1 iD iL;go_wp2_with(go_at_call 145;refine c6.mono ?_;rintro e w7 ⟨rfl,hb7,hp7⟩;have H7:=bB hb7 hp7;clear hb7 hp7);exact xC (v:=.tuple #[]) (by simp[results,go_sem]) rfl ⟨HF.out.2.1.trans H7.out.1,rfl,H7.out.2.at_⟩
end
end Go.Proofs.YtmkapobnfigedaaGreatDoor
