/- A part of a proof of a law. Conditions: none. -/
import Derived.Test.YtmkapobnfigedaaGreatDoorDp19
import Derived.Test.YtmkapobnfigedaaGreatDoorDp22
import Derived.Test.YtmkapobnfigedaaGreatDoorDp26
set_option linter.unusedVariables false
set_option linter.unusedSimpArgs false
set_option maxRecDepth 100000
set_option maxHeartbeats 40000000
namespace Go.Proofs.YtmkapobnfigedaaGreatDoor
open Go.Proofs.Tryz List Go.RowKit
theorem StOwn.filt {B:Nat} {w:World} {iv' ov mv:Value} {S:PSt} (is:List IRec) (u1:OwnP B w 95 3 ov (S.op.map PDesc.cells)) (u2:OwnP B w 3 1 mv (S.made.map aJ)) (u4:is.length=S.ins.length)
 (u5:∀(q:Nat) (r:IRec) (x:PIn),is[q]? =some r->S.ins[q]? =some x->r.num=x.num/\r.dir=x.dir/\r.data=x.data/\OwnP B w 97 2 r.ev (x.ents.map PEnt.cells)) (u6:∀(p q:Nat) (r r':IRec),p≠q->is[p]? =some r->is[q]? =some r'->∀g,r.ev.ownBlock=some g->r'.ev.ownBlock≠some g)
 (p:Int->Bool) (h:OwnP B w 68 4 iv' ((is.filter λr=>p r.num).map IRec.cells)):StOwn B w iv' ov mv { S with ins:=S.ins.filter λx=>p x.num}:=by
 obtain⟨L,hL⟩:=gAB (is.zip S.ins);have a1:L.map Prod.fst=is:=by rw[<-hL];exact map_fst_zip (by omega)
 have a2:L.map Prod.snd=S.ins:=by rw[<-hL];exact map_snd_zip (by omega)
 have hm:∀y∈L,y.1.num=y.2.num/\y.1.dir=y.2.dir/\y.1.data=y.2.data/\OwnP B w 97 2 y.1.ev (y.2.ents.map PEnt.cells):=by
  intro y hy;obtain⟨q,hq⟩:=mem_iff_getElem?.1 hy;refine u5 q y.1 y.2 ?_ ?_
  .rw[<-a1,gM,hq];rfl
  rw[<-a2,gM,hq];rfl
 have e1:(is.filter λr=>p r.num)=(L.filter λy=>p y.1.num).map Prod.fst:=by rw[<-a1,filter_map];rfl
 have e2:(S.ins.filter λx=>p x.num)=(L.filter λy=>p y.1.num).map Prod.snd:=by rw[<-a2,filter_map];congr 1;refine filter_congr λy hy=>?_;show p y.2.num=p y.1.num;rw[(hm y hy).1]
 have a3:is.Pairwise λr r'=>∀g,r.ev.ownBlock=some g->r'.ev.ownBlock≠some g:=by rw[pairwise_iff_getElem];intro i j hi hj hij;exact u6 i j _ _ (by omega) (gE hi) (gE hj)
 have a0:=a3.filter (λr=>p r.num);refine⟨u1,u2,is.filter λr=>p r.num,h,?_,?_,?_⟩
 .show _=(S.ins.filter λx=>p x.num).length;rw[e1,e2,lM,lM]
 .intro q r x hr hx;change (S.ins.filter λx=>p x.num)[q]? =some x at hx;rw[e1,gM]at hr;rw[e2,gM]at hx;rcases hy:(L.filter λy=>p y.1.num)[q]? with _|y
  .rw[hy]at hr;cases hr
  rw[hy]at hr hx;simp only[Option.map_some,zF]at hr hx;subst hr;subst hx;exact hm y (mem_filter.1 (mG hy)).1
 intro a b r r' hab hr hr' g hg hg';obtain⟨ha,ea⟩:=gI.1 hr;obtain⟨hb,eb⟩:=gI.1 hr';rw[pairwise_iff_getElem]at a0;rcases Nat.lt_or_gt_of_ne hab with hlt|hlt
 .exact a0 a b ha hb hlt g (by rw[ea];exact hg) (by rw[eb];exact hg')
 exact a0 b a hb ha hlt g (by rw[eb];exact hg') (by rw[ea];exact hg)
def mB (S:PSt) (num:Int):PSt:=if 0<bX S num then S else if fI S num=true then S else{ S with ins:=S.ins.filter λx=>!(x.num==num)}
theorem aQE {p:IRec->Bool} {is:List IRec} {q:Nat} {z:IRec} (h:is[q]? =some z):(is.take (q+1)).filter p=(is.take q).filter p++(if p z=true then[z]else[]):=by
 rw[take_add_one,h,filter_append];congr 1;by_cases hb:p z=true
 .simp[hb]
 simp only[Bool.not_eq_true]at hb;simp[hb]
theorem aAK (B b:Nat) (S:PSt) (iv ov mv:Value) (num:Int) (w:World) (hb:Blk w b #[iv,ov,mv] 26) (ho:StOwn B w iv ov mv S) (hB:B<=w.heap.size) (hBb:B<=b) (hwf:S.wf) (h0:0<S.ins.length):
 Calls prog 124 #[.pointer b,num] w λe w'=>e=.returned (.tuple #[])/\Below B w w'/\Keep (λg=>g=b) w w'/\∃iv',Blk w' b #[iv',ov,mv] 26/\StOwn B w' iv' ov mv (mB S num):=by
 have a3:vB w 62 #[.agg #[iv,ov,mv],.int .i64 num] (.int .i64 (bX S num)):=λww h=>aEZ S iv ov mv num ww (ho.read.below h (zC _)) hwf;have a4:vB w 63 #[.agg #[iv,ov,mv],.int .i64 num] (.bool (fI S num)):=λww h=>aCQ S iv ov mv num ww (ho.read.below h (zC _)) hwf.2.1;unfold mB;obtain⟨bi,cap,rfl⟩:=ho.ins_form h0;have iL:=hb.lt;have s0:=hb.cell 0;have s1:=hb.cell 1;have s2:=hb.cell 2;have f0:=hb.frozen 0;simp at s0 s1 s2 f0;obtain⟨ao,co,rfl⟩:=ho.1.formL;obtain⟨am,cm,rfl⟩:=ho.2.1.formL;generalize(S.op.map PDesc.cells).length=no at *;generalize(S.made.map aJ).length=nm at *;have a7:=bJ ho hb;have a1:∀p:Behind,Keep (λg=>g=b) w (w.junk p):=λp=>(Keep.refl _ w).junk p;by_cases hl:0<bX S num
 .rw[zB hl];generalize bX S num=lk at a3 hl;clear a4 ho hb a1
  go_in;go_wp2_with(go_at_call 62;refine aE (a3 _ (bel _ _)) λp=>?_);exact xD (v:=.tuple #[]) (by simp[results,Tryz.results124,go_sem]) rfl ⟨rfl,(bel w _).mono hB,Keep.of_below (bel w _) _,_,aB a7.out.2 (bel w _),a7.out.1.on (bel w _)⟩
 rw[zA hl];by_cases hop:fI S num=true
 .rw[zB hop];rw[hop]at a4;generalize bX S num=lk at a3 hl;clear ho hb a1
  go_in;go_wp2_with(first|(go_at_call 62;refine aE (a3 _ (bel _ _)) λp=>?_)|(go_at_call 63;refine aE (a4 _ (bel _ _)) λp=>?_));exact xD (v:=.tuple #[]) (by simp[results,Tryz.results124,go_sem]) rfl ⟨rfl,(bel w _).mono hB,Keep.of_below (bel w _) _,_,aB a7.out.2 (bel w _),a7.out.1.on (bel w _)⟩
 rw[zA hop];have a5:fI S num=false:=by simpa using hop
 rw[a5]at a4;generalize bX S num=lk at a3 hl;obtain⟨u1,u2,is,u3,u4,u5,u6⟩:=ho;obtain⟨a,capx,e1,hai⟩:=u3.row.at_;rw[lM,u4]at e1;cases e1;have b4:∀w2,Bl w w2->BlockLt b w2/\w2.cell? b=some (.slice bi S.ins.length cap)/\w2.frozen? b=false:=by intro w2 h2;have h3:=aB hb h2;exact⟨h3.lt,h3.cell 0,h3.frozen 0⟩
 have a2:∀(q:Nat) (r:IRec),is[q]? =some r->∃a n c,r.ev=.slice a n c:=by intro q r hr;obtain⟨hl,_⟩:=gI.1 hr;exact(u5 q r _ hr (gE (by omega))).2.2.2.form
 have a6:∀(w1:World) (v:Value),OwnP w.heap.size w1 68 4 v ((is.filter λr:IRec=>!(r.num==num)).map IRec.cells)->Bl w w1->Below B w (w1.setCell b v)/\Keep (λg=>g=b) w (w1.setCell b v)/\Blk (w1.setCell b v) b #[v,.slice ao no co,.slice am nm cm] 26/\StOwn B (w1.setCell b v) v (.slice ao no co) (.slice am nm cm) { S with ins:=S.ins.filter λx=>!(x.num==num)}:=by intro w1 v h1 h2;have b5:=aB hb h2;have a9:Keep (λg=>g=b) w1 (w1.setCell b v):=Keep.setCell (S:=λg=>g=b) (p:=b) (Keep.refl _ _) (.inl rfl) _;have b0:Keep (λ_=>False) w w1:=Keep.of_below h2 (λ_=>False);have hs:=StOwn.filt (B:=B) (w:=w1) (iv':=v) is (u1.keep b0 (λ_ _ h=>h)) (u2.keep b0 (λ_ _ h=>h)) u4 (λq r x hr hx=>⟨(u5 q r x hr hx).1,(u5 q r x hr hx).2.1,(u5 q r x hr hx).2.2.1,(u5 q r x hr hx).2.2.2.keep b0 (λ_ _ h=>h)⟩) u6 (λn=>!(n==num)) (h1.mono hB);refine⟨(h2.mono hB).trans (a9.below (zD hB h2.size) (λi hi e=>by omega)),(Keep.of_below h2 (λg=>g=b)).trans a9 (λi _ e=>e),b5.set_ 0 v,hs.keep a9 (λg hg=>by rw[hg];exact⟨_,26,b5,by decide,by decide,by decide,by decide⟩)⟩
 have b9:=aC b4;have c4:=aC a2;have b1:=aC a6;have HA:=aC hai;have HU:=aC u4;have c5:S.ins.length<=1000000000:=hwf.1;clear b4 a2 a6 hai u1 u2 u3 u4 u5 u6 hb a1 hop a5 hwf;go_in;go_wp2_with(first|(go_at_call 62;refine aE (a3 _ (bel _ _)) λp=>?_)|(go_at_call 63;refine aE (a4 _ (bel _ _)) λp=>?_))
 go_loopw[4,5] (λv4 i wr=>∃(q:Nat) (zs:List IRec),i=.int .i64 q/\q<=S.ins.length/\zs.length<=q/\OwnP w.heap.size wr 68 4 v4 (zs.map IRec.cells)/\zs=(is.take q).filter (λr:IRec=>!(r.num==num))/\Bl w wr) (λ_ i _=>(S.ins.length-intOf i).toNat)
 case atStart=>exact⟨0,[],rfl,by omega,by simp,.inl ⟨rfl,rfl⟩,by simp,bel _ _⟩
 obtain⟨q,zs,rfl,hq,hzl,hO,hre,hbw⟩:=hrel;have iB:Bel w wr:=⟨hbw⟩;obtain⟨iL2,t0,tf⟩:=b9.out wr hbw;obtain⟨va,vn,vc,rfl⟩:=hO.form;have HO:=aC hO;clear hO;by_cases hlt:q<S.ins.length
 .have b2:q<is.length:=by have:=HU.out;omega
  obtain⟨r,hr⟩:=gAA b2;have a0:=aQE (p:=λr:IRec=>!(r.num==num)) hr;rw[<-hre]at a0;obtain⟨ra,rn2,rc,hrev⟩:=c4.out q r hr;obtain⟨be,oe,he,iE0,iE,hce⟩:=HA.out wr hbw q r.cells (by rw[gM,hr];rfl);cases he;have c0:=hce 0 _ rfl;have c1:=hce 1 _ rfl;have c2:=hce 2 _ rfl;have c3:=hce 3 _ rfl;simp only[zM,zN]at c0 c1 c2 c3;have b3:(q:Int)<S.ins.length:=by omega
  clear hce hr hre;obtain⟨rn,rd,re,rs,ro⟩:=r;simp only at hrev;subst hrev;simp only at c0 c1 c2 c3 a0;have a8:=aC a0;by_cases ht:rn=num
  .have hs:=a8.out;rw[zA (by simp[ht])]at hs;rw[append_nil]at hs;have HS:=aC hs;have c6:(rn !=num)=false:=by simp[ht]
   clear hs a0 a8;go_wp2;go_roundw
   case rel=>exact⟨q+1,zs,by go_num,by omega,by omega,HO.out,HS.out.symm,hbw⟩
   simp[intOf];omega
  have hs:=a8.out;rw[zB (by simp[ht])]at hs;have HS:=aC hs;have c6:(rn !=num)=true:=by simp[ht]
  clear hs a0 a8;go_wp2_with(at_builtin;refine vC rfl (.tmp 38) (.tmp 46) rfl w.heap.size _ _ zs [(⟨rn,rd,.slice ra rn2 rc,rs,ro⟩:IRec)] rfl (by go_simp) (HO.out.below (bel wr _)) (RowAt.single (Blk.new_i _ _ _ _) 4 1) (by simp;omega) (bel w _).size ?_);intro v' w' hg;have b6:=hg.on (HO.out.below (bel wr _)) (bel w _).size;have b7:=(bel w _).trans b6;have b8:OwnP w.heap.size w' 68 4 v' ((zs++[(⟨rn,rd,.slice ra rn2 rc,rs,ro⟩:IRec)]).map IRec.cells):=by have:=hg.1;simpa using this
  have H2:=bJ b8 b7;clear hg b6 b8 b7;go_wp2;go_roundw
  case rel=>exact⟨q+1,_,by go_num,by omega,by simp;omega,H2.out.1,HS.out.symm,H2.out.2⟩
  simp[intOf];omega
 have b3:¬(q:Int)<S.ins.length:=by omega
 have c7:zs=is.filter (λr:IRec=>!(r.num==num)):=by rw[hre,take_of_length_le (by have:=HU.out;omega)]
 subst c7;have HF:=aC (b1.out wr _ HO.out hbw);clear hre;go_wp2;exact xE (v:=.tuple #[]) (by simp[results,go_sem]) rfl ⟨rfl,HF.out.1,HF.out.2.1,_,HF.out.2.2.1,HF.out.2.2.2⟩
def vNm (b bi oi K0:Nat) (A B:Value) (C E:Array Value) (num:Int):Nat->Value
 |0=>.pointer (some ⟨b,0,none⟩)
 |1=>.pointer (some ⟨b,0,none⟩)
 |2=>.pointer (some ⟨b,0,none⟩)
 |3=>A
 |4=>.pointer (some ⟨b,0,none⟩)
 |5=>.pointer (some ⟨b,0,none⟩)
 |6=>.agg C
 |7=>.int .i64 num
 |8=>.int .i64 K0
 |9=>.pointer (some ⟨bi,oi+K0*4,none⟩)
 |10=>.agg E
 |_=>undef
def aET (S:PSt) (kd:Int) (x:PIn) (K1:Nat) (y:PIn) (nm:ByteArray) (num:Int):Except Int PSt:=
 if kd=9 then(if x.dir=true then .error 8 else .ok (mB (S.ents K1 y (dX nm y.ents)) num))
 else if x.dir=false then .error 7 else if 0<x.ents.length then .error 3 else .ok (mB (S.ents K1 y (dX nm y.ents)) num)
theorem aTE (B b:Nat) (S:PSt) (iv ov mv:Value) (kd core f0 off nu:Int) (path p2 dt:ByteArray) (w:World) (hb:Blk w b #[iv,ov,mv] 26) (ho:StOwn B w iv ov mv S) (hB:B<=w.heap.size) (hBb:B<=b) (hfR:FineR S) (hk:kd=9\/kd=10) (D:Int) (nm:ByteArray) (C:Int) (hpar:bO S path=(D,nm,C)) (hC:C=0) (num:Int) (hE:aX S D nm=num) (hn0:num≠0) (K0:Nat) (x:PIn) (hat:bP S num=K0) (hx:S.ins[K0]? =some x) (K1:Nat) (y:PIn) (hat1:bP S D=K1) (hy:S.ins[K1]? =some y) (hwf2:(S.ents K1 y (dX nm y.ents)).wf):
 Calls prog 96 #[.pointer b,.agg #[kd,core,f0,off,nu,path,p2,dt]] w (RefOut B b w (aET S kd x K1 y nm num)):=by
 have c2:=c45 ho.read hfR hpar;have c6:=aZO ho.read hfR.wf hE;have a2:=vK ho.read hfR.wf.1 hat;have b0:=λk ww=>bE k ww;have d5:(kd==8)=false:=by rcases hk with rfl|rfl<;>rfl
 obtain⟨hxl,-⟩:=gI.1 hx;obtain⟨hyl,-⟩:=gI.1 hy;have c7:=hb;have c8:=ho;obtain⟨a1,n1',c1,ao,no,co,am,nm',cm,rfl,rfl,rfl⟩:=ho.read.slices;obtain⟨ai,ci,e1,hai⟩:=ho.read.ins_at2;cases e1;obtain⟨bi,oi,ev,he,iI0,hoi,her,hci⟩:=hai K0 x hx;subst he;obtain⟨ea,ec,rfl,-⟩:=her.at_;rw[lM]at hci;obtain⟨iI,x0,x1,x2,x3⟩:=hci w (Below.refl _ _);have d8:(K0:Int)<S.ins.length:=by omega
 obtain⟨iL,s0,s1,s2⟩:=gR hb;subst hC;have c9:=hfR.wf;have d9:(num==0)=false:=by simpa using hn0
 have a3:b<w.heap.size:=hb.lt.lt;have a4:bi<w.heap.size:=iI.lt;have d4:0<(S.ents K1 y (dX nm y.ents)).ins.length:=by show 0<(S.ins.set K1 _).length;rw[yB];omega
 have HH:=jj7 c7 c8 c9 hat1 hy hwf2 d4;obtain⟨X,hX⟩:=gAB (aET S kd x K1 y nm num);rw[hX];have HX:=bJ hX hk;clear ho hb hfR hpar c7 c8 hx hai her hci hoi hat hE hat1 hy c9 hwf2 hX hk d4 hyl hn0;go_in;go_upto_region 3 with fail;refine qR ?_
 repeat(go_big_quiet_step ((with_reducible first|refine cI (c2 _ (bel _ _))|refine cJ (c2 _ (bel _ _)))))
 refine QN λp=>?_;go_upto_region 9 with(go_at_call 118;refine aE (c6 _ (bel _ _)) λp=>?_)
 refine aD (F:=λwa=>Blk wa b #[.slice (some ⟨bi,oi,none⟩) S.ins.length c1,.slice ao no co,.slice am nm' cm] 26/\Blk wa w.heap.size #[kd,core,f0,off,nu,path,p2,dt] 28/\Blk wa (w.heap.size+1) () 52/\Bl w wa) ⟨aB HH.out.1 (bel w _),aB (Blk.new w #[kd,core,f0,off,nu,path,p2,dt] 28) (bel _ _),aB (Blk.new_i (w.alloc (.cells #[kd,core,f0,off,nu,path,p2,dt] 28)) () 52 (w.heap.size+1)) (bel _ _),bel w _⟩ ?_;rintro W ⟨hb,hc,hr,hbw⟩;replace a2:=λww (hw:Below W.heap.size W ww)=>a2 ww (hbw.trans (hw.mono hbw.size));have k0:=(hbw.cell (p:=b) a3).trans s0;have k1:=(hbw.cell (p:=⟨b,1,none⟩) a3).trans s1;have k2:=(hbw.cell (p:=⟨b,2,none⟩) a3).trans s2;have u0:=(hbw.cell (p:=⟨bi,oi+K0*4,none⟩) a4).trans x0;have u1:=(hbw.cell (p:=⟨bi,oi+K0*4+1,none⟩) a4).trans x1;have u2:=(hbw.cell (p:=⟨bi,oi+K0*4+2,none⟩) a4).trans x2;have u3:=(hbw.cell (p:=⟨bi,oi+K0*4+3,none⟩) a4).trans x3;have jB:b<W.heap.size:=zR a3 hbw.size;have jI:bi<W.heap.size:=zR a4 hbw.size;clear s0 s1 s2 x0 x1 x2 x3 iI iL c2 c6;have HW:=mJ hb hc hr hbw;clear hb hc hr hbw;go_cut [9] (λv9 wx=>∃g,v9=.pointer (some ⟨g,0,none⟩)/\Blk wx g #[x.num,x.dir,.slice ea x.ents.length ec,x.data] 68/\Below W.heap.size W wx)
 case first=>
  refine jV (RA 13 (vNm b bi oi K0 (.slice (some ⟨bi,oi,none⟩) S.ins.length c1) (.slice ao no co) #[.slice (some ⟨bi,oi,none⟩) S.ins.length c1,.slice ao no co,.slice am nm' cm] #[.int .i64 x.num,.bool x.dir,.slice ea x.ents.length ec,.string x.data] num) 11 12 #[.int .i64 0,.bool false,.slice none 0 0,.string ⟨#[]⟩] #[.int .i64 x.num,.bool x.dir,.slice ea x.ents.length ec,.string x.data] 68 W) (λσ=>RA.zero (by decide) (by decide) (bel W _)) ?_ ?_
  .refine⟨?_,?_,?_,?_,?_,?_,?_,?_,?_,?_,?_,?_,?_,trivial⟩
   .intro D σ w1 a h;have e0:(a.tmps[0]?).getD undef=.pointer b:=mW h 0;refine jJ h ?_;clear h a2;go_simp
    first|done|rfl
   .intro D σ w1 a h;have e2:(a.tmps[39]?).getD undef=.pointer b:=gK h 0 39;refine jJ h ?_;clear h a2;go_simp
    first|done|rfl
   .intro D σ w1 a h;have e3:(a.tmps[40]?).getD undef=.pointer b:=gK h 1 40;refine jJ h ?_;clear h a2;go_simp
    first|done|rfl
   .intro D σ w1 a h;have e4:(a.tmps[41]?).getD undef=.pointer b:=gK h 2 41;have l0:=(h.r.below.cell (p:=b) jB).trans k0;have iX:BlockLt b w1:=⟨zR jB h.r.below.size⟩
    refine jJ h ?_;clear h a2;go_simp
    first|done|rfl
   .intro D σ w1 a h;have e0:(a.tmps[0]?).getD undef=.pointer b:=mW h 0;refine jJ h ?_;clear h a2;go_simp
    first|done|rfl
   .intro D σ w1 a h;have e5:(a.tmps[43]?).getD undef=.pointer b:=gK h 4 43;refine jJ h ?_;clear h a2;go_simp
    first|done|rfl
   .intro D σ w1 a h;have e6:(a.tmps[44]?).getD undef=.pointer b:=gK h 5 44;have l0:=(h.r.below.cell (p:=b) jB).trans k0;have l1:=(h.r.below.cell (p:=⟨b,1,none⟩) jB).trans k1;have l2:=(h.r.below.cell (p:=⟨b,2,none⟩) jB).trans k2;have iX:BlockLt b w1:=⟨zR jB h.r.below.size⟩
    refine jJ h ?_;clear h a2;go_simp
    first|done|rfl
   .intro D σ w1 a h;have e8:(a.tmps[8]?).getD undef=.int .i64 num:=mW h 8;refine jJ h ?_;clear h a2;go_simp
    first|done|rfl
   .intro D σ w1 a h;have e7:(a.tmps[45]?).getD undef=.agg #[.slice (some ⟨bi,oi,none⟩) S.ins.length c1,.slice ao no co,.slice am nm' cm]:=gK h 6 45;have f1:(a.tmps[46]?).getD undef=.int .i64 num:=gK h 7 46;refine aS 85 #[.agg #[.slice (some ⟨bi,oi,none⟩) S.ins.length c1,.slice ao no co,.slice am nm' cm],.int .i64 num] ?_ ((a2 w1 h.r.below).mono ?_)
    .clear h a2;go_simp
     first|done|rfl
    rintro e w' ⟨rfl,hqb⟩;exact⟨_,rfl,(h.r.on hqb).val 8 (by decide) (by decide)⟩
   .intro D σ w1 a h;have f2:(a.tmps[42]?).getD undef=.slice (some ⟨bi,oi,none⟩) S.ins.length c1:=gK h 3 42;have f3:(a.tmps[47]?).getD undef=.int .i64 K0:=gK h 8 47;refine jJ h ?_;clear h a2;go_simp
    first|done|rfl
   .intro D σ w1 a h;have f4:(a.tmps[48]?).getD undef=.pointer (some ⟨bi,oi+K0*4,none⟩):=gK h 9 48;have l0:=(h.r.below.cell (p:=⟨bi,oi+K0*4,none⟩) jI).trans u0;have l1:=(h.r.below.cell (p:=⟨bi,oi+K0*4+1,none⟩) jI).trans u1;have l2:=(h.r.below.cell (p:=⟨bi,oi+K0*4+2,none⟩) jI).trans u2;have l3:=(h.r.below.cell (p:=⟨bi,oi+K0*4+3,none⟩) jI).trans u3;have iX:BlockLt bi w1:=⟨zR jI h.r.below.size⟩
    refine jJ h ?_;clear h a2;go_simp
    first|done|rfl
   .intro D σ w1 a h;refine uK (v:=.pointer w1.heap.size) (w':=w1.alloc (.cells #[.int .i64 0,false,.slice none 0 0,.string ⟨#[]⟩] 68)) ?_ (h.r.alloc (by decide) h.nd);clear h a2;go_simp
    first|done|rfl
   intro D σ w1 a h;obtain⟨g,eg,hgl,hgc,-⟩:=h.r.al (nR h 11);have e9:(a.tmps[9]?).getD undef=.pointer g:=aJB h 11 9 eg;have f5:(a.tmps[49]?).getD undef=.agg #[x.num,x.dir,.slice ea x.ents.length ec,x.data]:=gK h 10 49;obtain⟨d0,d1,d2,d3,hblk⟩:∃d0 d1 d2 d3,Blk w1 g #[d0,d1,d2,d3] 68:=by
    rcases hgc with h|h
    .exact⟨_,_,_,_,h⟩
    exact⟨_,_,_,_,h⟩
   have b1:=wW hblk (.int .i64 x.num) (.bool x.dir) (.slice ea x.ents.length ec) (.string x.data);have q0:=hblk.cell 0;have q1:=hblk.cell 1;have q2:=hblk.cell 2;have q3:=hblk.cell 3;have b2:=hblk.frozen 0;have b3:=hblk.frozen 1;have b4:=hblk.frozen 2;have b5:=hblk.frozen 3;simp at q0 q1 q2 q3;have iG:=hblk.lt;refine aLW (w':=aEN w1 g (.int .i64 x.num) (.bool x.dir) (.slice ea x.ents.length ec) (.string x.data)) ?_ (h.r.store (by decide) (nR h 11) eg hgl (tO _ _ _ _ _ _) b1);clear h a2 b1 hblk;unfold aEN;go_simp
   first|done|rfl
  intro σ w3 hR;obtain⟨g,eg,-,-,hgs⟩:=hR.al trivial;have hg:=hgs trivial;have d6:=hR.below;simp only[dM,Act.put,sA,sZ,sS,Nat.reduceAdd];rw[eg];clear hR hgs eg a2;go_wp2_with fail;go_meet;exact⟨g,rfl,hg,d6⟩
 obtain⟨g,rfl,hg,hbx⟩:=hcut;have c3:=HW.out.2.2.2.trans (hbx.mono HW.out.2.2.2.size);have iG:=hg.lt;have q1:=hg.cell 1;have q2:=hg.cell 2;simp at q1 q2;have hC:=aB HW.out.2.1 hbx;have iC:=hC.lt;have c0:=hC.cell 0;simp at c0;have hr:=aB HW.out.2.2.1 hbx;have hb:=aB HW.out.1 hbx;have iR:=hr.lt;have g0:=hr.cell 0;have g1:=hr.cell 1;have g2:=hr.cell 2;have g3:=hr.cell 3;have g4:=hr.cell 4;have g5:=hr.cell 5;have b2:=hr.frozen 0;have b3:=hr.frozen 1;have b4:=hr.frozen 2;have b5:=hr.frozen 3;have b8:=hr.frozen 4;have b9:=hr.frozen 5;simp at g0 g1 g2 g3 g4 g5;have HG:=eH hb hr c3;have d7:Bel w wc:=⟨c3⟩;clear hb hr c3 hg hC hbx k0 k1 k2 u0 u1 u2 u3 jB jI HW a2;rcases HX.out.2 with rfl|rfl
 .cases hd:x.dir with
  | true=>
    have hX:X=.error 8:=by rw[<-HX.out.1];unfold aET;rw[zB rfl,zB hd]
    subst hX;rw[hd]at q1;go_wp2_with(go_at_call 92;refine aE (b0 _ _) λp=>?_);exact xD (v:=aR 8 0 0) (by unfold results;simp only[results96,aR];go_simp) rfl (RefOut.err (bel w _))
  | false=>
    have hX:X=.ok (mB (S.ents K1 y (dX nm y.ents)) num):=by rw[<-HX.out.1];unfold aET;rw[zB rfl,zA (by rw[hd];decide)]
    subst hX;rw[hd]at q1;have a5:=vT B b S _ _ _ D nm K1 y wc HG.out.1 (HH.out.2.1.on HG.out.2.2) (zD hB HG.out.2.2.size) HH.out.2.2.1 HH.out.2.2.2.1 HH.out.2.2.2.2.1;go_upto_region 21 with(go_at_call 128;(refine a5.mono ?_);rintro e w5 ⟨rfl,hb5,hk5,hs5⟩;have H5:=eH hb5 hk5 hs5;clear hb5 hk5 hs5)
    have a7:=H5.out.2.1.blk HG.out.1 (eS HG.out.1 (by decide) (by decide));have b6:=H5.out.2.1.blk HG.out.2.1 (eS HG.out.2.1 (by decide) (by decide));have b7:B<=w5.heap.size:=zD (zD hB HG.out.2.2.size) H5.out.1.size;have a6:=aAK B b _ _ _ _ num w5 a7 H5.out.2.2 b7 hBb HH.out.2.2.2.2.2.1 HH.out.2.2.2.2.2.2;have HF:=bJ a7 b6;clear a7 b6 a5;go_upto_region 22 with(go_at_call 124;(refine a6.mono ?_);rintro e w6 ⟨rfl,hb6,hk6,iv6,hv6,hs6⟩;have H6:=mJ hb6 hk6 hv6 hs6;clear hb6 hk6 hv6 hs6)
    have a0:=H6.out.2.1.blk HF.out.2 (by omega);clear g0 g1 g2 g3 g4 g5 b2 b3 b4 b5 b8 b9 iR q1 q2 iG c0 iC a6;have iR:=a0.lt;have g0:=a0.cell 0;have g1:=a0.cell 1;have g2:=a0.cell 2;have g3:=a0.cell 3;have g4:=a0.cell 4;have g5:=a0.cell 5;have b2:=a0.frozen 0;have b3:=a0.frozen 1;have b4:=a0.frozen 2;have b5:=a0.frozen 3;have b8:=a0.frozen 4;have b9:=a0.frozen 5;simp at g0 g1 g2 g3 g4 g5;have HR:=aC a0;clear a0;go_wp2_with(go_at_call 92;refine aE (b0 _ _) λp=>?_);have c4:B<=w6.heap.size:=zD b7 H6.out.1.size;have a8:Below B w w6:=((HG.out.2.2.mono hB).trans H5.out.1).trans H6.out.1;have a9:Spared b w w6:=((Spared.of_below HG.out.2.2).trans (Spared.of_in H5.out.2.1)).trans (λgg c t h1 h2 _=>H6.out.2.1.blk h1 h2);exact xD (v:=aR 0 0 0) (by unfold results;simp only[results96,aR];go_simp) rfl (RefOut.done (nJ (r:=w.heap.size+1) lY (by omega) a3 hB (aB HR.out (bel w6 _)) (aB H6.out.2.2.1 (bel w6 _)) (H6.out.2.2.2.on (bel w6 _)) (a8.trans ((bel w6 _).mono c4)) (a9.trans (Spared.of_below (bel w6 _)))))
 cases hd:x.dir with
 | false=>
   have hX:X=.error 7:=by rw[<-HX.out.1];unfold aET;rw[zA (by decide),zB hd]
   subst hX;rw[hd]at q1;go_wp2_with(go_at_call 92;refine aE (b0 _ _) λp=>?_);exact xD (v:=aR 7 0 0) (by unfold results;simp only[results96,aR];go_simp) rfl (RefOut.err (bel w _))
 | true=>
   rw[hd]at q1;by_cases hle:0<x.ents.length
   .have hX:X=.error 3:=by
     rw[<-HX.out.1];unfold aET;rw[zA (by decide),zA (by rw[hd];decide),zB hle]
    subst hX;have c5:(0:Int)<x.ents.length:=by omega
    go_wp2_with(go_at_call 92;refine aE (b0 _ _) λp=>?_);exact xD (v:=aR 3 0 0) (by unfold results;simp only[results96,aR];go_simp) rfl (RefOut.err (bel w _))
   have hX:X=.ok (mB (S.ents K1 y (dX nm y.ents)) num):=by rw[<-HX.out.1];unfold aET;rw[zA (by decide),zA (by rw[hd];decide),zA hle]
   subst hX;have c5:¬(0:Int)<x.ents.length:=by omega
   have a5:=vT B b S _ _ _ D nm K1 y wc HG.out.1 (HH.out.2.1.on HG.out.2.2) (zD hB HG.out.2.2.size) HH.out.2.2.1 HH.out.2.2.2.1 HH.out.2.2.2.2.1;go_upto_region 21 with(go_at_call 128;(refine a5.mono ?_);rintro e w5 ⟨rfl,hb5,hk5,hs5⟩;have H5:=eH hb5 hk5 hs5;clear hb5 hk5 hs5)
   have a7:=H5.out.2.1.blk HG.out.1 (eS HG.out.1 (by decide) (by decide));have b6:=H5.out.2.1.blk HG.out.2.1 (eS HG.out.2.1 (by decide) (by decide));have b7:B<=w5.heap.size:=zD (zD hB HG.out.2.2.size) H5.out.1.size;have a6:=aAK B b _ _ _ _ num w5 a7 H5.out.2.2 b7 hBb HH.out.2.2.2.2.2.1 HH.out.2.2.2.2.2.2;have HF:=bJ a7 b6;clear a7 b6 a5;go_upto_region 22 with(go_at_call 124;(refine a6.mono ?_);rintro e w6 ⟨rfl,hb6,hk6,iv6,hv6,hs6⟩;have H6:=mJ hb6 hk6 hv6 hs6;clear hb6 hk6 hv6 hs6)
   have a0:=H6.out.2.1.blk HF.out.2 (by omega);clear g0 g1 g2 g3 g4 g5 b2 b3 b4 b5 b8 b9 iR q1 q2 iG c0 iC a6;have iR:=a0.lt;have g0:=a0.cell 0;have g1:=a0.cell 1;have g2:=a0.cell 2;have g3:=a0.cell 3;have g4:=a0.cell 4;have g5:=a0.cell 5;have b2:=a0.frozen 0;have b3:=a0.frozen 1;have b4:=a0.frozen 2;have b5:=a0.frozen 3;have b8:=a0.frozen 4;have b9:=a0.frozen 5;simp at g0 g1 g2 g3 g4 g5;have HR:=aC a0;clear a0;go_wp2_with(go_at_call 92;refine aE (b0 _ _) λp=>?_);have c4:B<=w6.heap.size:=zD b7 H6.out.1.size;have a8:Below B w w6:=((HG.out.2.2.mono hB).trans H5.out.1).trans H6.out.1;have a9:Spared b w w6:=((Spared.of_below HG.out.2.2).trans (Spared.of_in H5.out.2.1)).trans (λgg c t h1 h2 _=>H6.out.2.1.blk h1 h2);exact xD (v:=aR 0 0 0) (by unfold results;simp only[results96,aR];go_simp) rfl (RefOut.done (nJ (r:=w.heap.size+1) lY (by omega) a3 hB (aB HR.out (bel w6 _)) (aB H6.out.2.2.1 (bel w6 _)) (H6.out.2.2.2.on (bel w6 _)) (a8.trans ((bel w6 _).mono c4)) (a9.trans (Spared.of_below (bel w6 _)))))
theorem aTC (B b:Nat) (S:PSt) (iv ov mv:Value) (core f0 off nu:Int) (path p2 dt:ByteArray) (w:World) (hb:Blk w b #[iv,ov,mv] 26) (hB:B<=w.heap.size) (X:Except Int PSt) (a1:∀ww,Bl w ww->Calls prog 126 #[.pointer b,.agg #[.int .i64 8,core,f0,off,nu,path,p2,dt]] ww (RefOut B b ww X)):
 Calls prog 96 #[.pointer b,.agg #[.int .i64 8,core,f0,off,nu,path,p2,dt]] w (RefOut B b w X):=by
 have a2:b<w.heap.size:=hb.lt.lt;have a5:=aC a1;clear a1;cases X with
 | error k=>have a1:vB w 126 #[.pointer (some ⟨b,0,none⟩),.agg #[.int .i64 8,.int .i64 core,.int .i64 f0,.int .i64 off,.int .i64 nu,.string path,.string p2,.string dt]] (.agg #[.int .i64 k,.int .i64 0,.int .i64 0,.bool false,.string ⟨#[]⟩,.slice none 0 0]):=λww hw=>a5.out ww hw;go_in;go_wp2_with(go_at_call 126;(refine aE (a1 _ (bel w _)) λp=>?_));exact xD (v:=aR k 0 0) (by unfold results;simp only[results96,aR];go_simp) rfl (RefOut.err (bel w _))
 | ok S'=>go_in;go_upto_region 2 with fail;refine aD (F:=λwa=>Blk wa w.heap.size #[.int .i64 8,.int .i64 core,.int .i64 f0,.int .i64 off,.int .i64 nu,.string path,.string p2,.string dt] 28/\Blk wa (w.heap.size+1) #[.int .i64 0,.int .i64 0,.int .i64 0,.bool false,.string ⟨#[]⟩,.slice none 0 0] 52/\Bl w wa) ⟨aB (Blk.new w #[.int .i64 8,.int .i64 core,.int .i64 f0,.int .i64 off,.int .i64 nu,.string path,.string p2,.string dt] 28) (bel _ _),aB (Blk.new_i (w.alloc (.cells #[.int .i64 8,.int .i64 core,.int .i64 f0,.int .i64 off,.int .i64 nu,.string path,.string p2,.string dt] 28)) #[.int .i64 0,.int .i64 0,.int .i64 0,.bool false,.string ⟨#[]⟩,.slice none 0 0] 52 (w.heap.size+1)) (bel _ _),bel w _⟩ ?_;rintro W ⟨hc,hr,hbw⟩;have a1:Calls prog 126 #[.pointer (some ⟨b,0,none⟩),.agg #[.int .i64 8,.int .i64 core,.int .i64 f0,.int .i64 off,.int .i64 nu,.string path,.string p2,.string dt]] W λe w'=>e=.returned (.agg #[.int .i64 0,.int .i64 0,.int .i64 0,.bool false,.string ⟨#[]⟩,.slice none 0 0])/\Below B W w'/\Spared b W w'/\∃iv' ov' mv',Blk w' b #[iv',ov',mv'] 26/\StOwn B w' iv' ov' mv' S':=a5.out W hbw;have iC:=hc.lt;obtain⟨-,c0,c1,c2,c3,c4,c5,c6,c7⟩:=bx8 hc;go_wp2_with(go_at_call 126;(refine a1.mono ?_);rintro e w5 ⟨rfl,hb5,hp5,iv5,ov5,mv5,hk5,hs5⟩;have a0:=hp5 _ _ _ hr (by omega) (.inr (.inr rfl));have a6:=a0.lt;have g0:=a0.cell 0;have g1:=a0.cell 1;have g2:=a0.cell 2;have g3:=a0.cell 3;have g4:=a0.cell 4;have g5:=a0.cell 5;have a7:=a0.frozen 0;have a8:=a0.frozen 1;have a9:=a0.frozen 2;have b0:=a0.frozen 3;have b1:=a0.frozen 4;have b2:=a0.frozen 5;simp at g0 g1 g2 g3 g4 g5;have H5:=qM hb5 hp5 hk5 hs5 a0;clear hb5 hp5 hk5 hs5 a0);have a3:Below B w w5:=(hbw.mono hB).trans H5.out.1;have a4:Spared b w w5:=(Spared.of_below hbw).trans H5.out.2.1;exact xD (v:=aR 0 0 0) (by unfold results;simp only[results96,aR];go_simp) rfl (RefOut.done (nJ (r:=w.heap.size+1) lF (by omega) a2 hB H5.out.2.2.2.2 H5.out.2.2.1 H5.out.2.2.2.1 a3 a4))
theorem aTD (B b:Nat) (S:PSt) (iv ov mv:Value) (core f0 off nu:Int) (path p2 dt:ByteArray) (w:World) (hb:Blk w b #[iv,ov,mv] 26) (ho:StOwn B w iv ov mv S) (hB:B<=w.heap.size) (hBb:B<=b) (hfR:FineR S) (D:Int) (nm:ByteArray) (C:Int) (hpar:bO S path=(D,nm,C)) (hC:C=0) (num:Int) (hE:aX S D nm=num) (hn0:num≠0) (K0:Nat) (x:PIn) (hat:bP S num=K0) (hx:S.ins[K0]? =some x) (X:Except Int PSt) (a5:∀ww,Bl w ww->Calls prog 127 #[.pointer b,.agg #[.int .i64 11,core,f0,off,nu,path,p2,dt],D,nm,num] ww (RefOut B b ww X)):
 Calls prog 96 #[.pointer b,.agg #[.int .i64 11,core,f0,off,nu,path,p2,dt]] w (RefOut B b w X):=by
 have a7:=c45 ho.read hfR hpar;have b5:=aZO ho.read hfR.wf hE;have a0:=vK ho.read hfR.wf.1 hat;have d6:=λk ww=>bE k ww;obtain⟨hxl,-⟩:=gI.1 hx;have b6:=hb;have b7:=ho;obtain⟨a1,n1',c1,ao,no,co,am,nm',cm,rfl,rfl,rfl⟩:=ho.read.slices;obtain⟨ai,ci,e1,hai⟩:=ho.read.ins_at2;cases e1;obtain⟨bi,oi,ev,he,iI0,hoi,her,hci⟩:=hai K0 x hx;subst he;obtain⟨ea,ec,rfl,-⟩:=her.at_;rw[lM]at hci;obtain⟨iI,x0,x1,x2,x3⟩:=hci w (Below.refl _ _);have d7:(K0:Int)<S.ins.length:=by omega
 obtain⟨iL,s0,s1,s2⟩:=gR hb;subst hC;have c9:=hfR.wf;have d8:(num==0)=false:=by simpa using hn0
 have a3:b<w.heap.size:=hb.lt.lt;have a4:bi<w.heap.size:=iI.lt;have HH:=bJ b6 b7;have b8:=aC a5;clear ho hb hfR hpar b6 b7 hx hai her hci hoi hat hE c9 hn0 a5;go_in;go_upto_region 3 with fail;refine qR ?_
 repeat(go_big_quiet_step ((with_reducible first|refine cI (a7 _ (bel _ _))|refine cJ (a7 _ (bel _ _)))))
 refine QN λp=>?_;go_upto_region 9 with(go_at_call 118;refine aE (b5 _ (bel _ _)) λp=>?_)
 refine aD (F:=λwa=>Blk wa b #[.slice (some ⟨bi,oi,none⟩) S.ins.length c1,.slice ao no co,.slice am nm' cm] 26/\Blk wa w.heap.size #[.int .i64 11,core,f0,off,nu,path,p2,dt] 28/\Blk wa (w.heap.size+1) () 52/\Bl w wa) ⟨aB HH.out.1 (bel w _),aB (Blk.new w #[.int .i64 11,core,f0,off,nu,path,p2,dt] 28) (bel _ _),aB (Blk.new_i (w.alloc (.cells #[.int .i64 11,core,f0,off,nu,path,p2,dt] 28)) () 52 (w.heap.size+1)) (bel _ _),bel w _⟩ ?_;rintro W ⟨hb,hc,hr,hbw⟩;replace a0:=λww (hw:Below W.heap.size W ww)=>a0 ww (hbw.trans (hw.mono hbw.size));have k0:=(hbw.cell (p:=b) a3).trans s0;have k1:=(hbw.cell (p:=⟨b,1,none⟩) a3).trans s1;have k2:=(hbw.cell (p:=⟨b,2,none⟩) a3).trans s2;have u0:=(hbw.cell (p:=⟨bi,oi+K0*4,none⟩) a4).trans x0;have u1:=(hbw.cell (p:=⟨bi,oi+K0*4+1,none⟩) a4).trans x1;have u2:=(hbw.cell (p:=⟨bi,oi+K0*4+2,none⟩) a4).trans x2;have u3:=(hbw.cell (p:=⟨bi,oi+K0*4+3,none⟩) a4).trans x3;have jB:b<W.heap.size:=zR a3 hbw.size;have jI:bi<W.heap.size:=zR a4 hbw.size;clear s0 s1 s2 x0 x1 x2 x3 iI iL a7 b5;have HW:=mJ hb hc hr hbw;clear hb hc hr hbw;go_cut [9] (λv9 wx=>∃g,v9=.pointer (some ⟨g,0,none⟩)/\Blk wx g #[x.num,x.dir,.slice ea x.ents.length ec,x.data] 68/\Below W.heap.size W wx)
 case first=>
  refine jV (RA 13 (vNm b bi oi K0 (.slice (some ⟨bi,oi,none⟩) S.ins.length c1) (.slice ao no co) #[.slice (some ⟨bi,oi,none⟩) S.ins.length c1,.slice ao no co,.slice am nm' cm] #[.int .i64 x.num,.bool x.dir,.slice ea x.ents.length ec,.string x.data] num) 11 12 #[.int .i64 0,.bool false,.slice none 0 0,.string ⟨#[]⟩] #[.int .i64 x.num,.bool x.dir,.slice ea x.ents.length ec,.string x.data] 68 W) (λσ=>RA.zero (by decide) (by decide) (bel W _)) ?_ ?_
  .refine⟨?_,?_,?_,?_,?_,?_,?_,?_,?_,?_,?_,?_,?_,trivial⟩
   .intro D σ w1 a h;have e0:(a.tmps[0]?).getD undef=.pointer b:=mW h 0;refine jJ h ?_;clear h a0;go_simp
    first|done|rfl
   .intro D σ w1 a h;have d9:(a.tmps[39]?).getD undef=.pointer b:=gK h 0 39;refine jJ h ?_;clear h a0;go_simp
    first|done|rfl
   .intro D σ w1 a h;have e2:(a.tmps[40]?).getD undef=.pointer b:=gK h 1 40;refine jJ h ?_;clear h a0;go_simp
    first|done|rfl
   .intro D σ w1 a h;have e3:(a.tmps[41]?).getD undef=.pointer b:=gK h 2 41;have l0:=(h.r.below.cell (p:=b) jB).trans k0;have iX:BlockLt b w1:=⟨zR jB h.r.below.size⟩
    refine jJ h ?_;clear h a0;go_simp
    first|done|rfl
   .intro D σ w1 a h;have e0:(a.tmps[0]?).getD undef=.pointer b:=mW h 0;refine jJ h ?_;clear h a0;go_simp
    first|done|rfl
   .intro D σ w1 a h;have e4:(a.tmps[43]?).getD undef=.pointer b:=gK h 4 43;refine jJ h ?_;clear h a0;go_simp
    first|done|rfl
   .intro D σ w1 a h;have e5:(a.tmps[44]?).getD undef=.pointer b:=gK h 5 44;have l0:=(h.r.below.cell (p:=b) jB).trans k0;have l1:=(h.r.below.cell (p:=⟨b,1,none⟩) jB).trans k1;have l2:=(h.r.below.cell (p:=⟨b,2,none⟩) jB).trans k2;have iX:BlockLt b w1:=⟨zR jB h.r.below.size⟩
    refine jJ h ?_;clear h a0;go_simp
    first|done|rfl
   .intro D σ w1 a h;have e8:(a.tmps[8]?).getD undef=.int .i64 num:=mW h 8;refine jJ h ?_;clear h a0;go_simp
    first|done|rfl
   .intro D σ w1 a h;have e6:(a.tmps[45]?).getD undef=.agg #[.slice (some ⟨bi,oi,none⟩) S.ins.length c1,.slice ao no co,.slice am nm' cm]:=gK h 6 45;have e7:(a.tmps[46]?).getD undef=.int .i64 num:=gK h 7 46;refine aS 85 #[.agg #[.slice (some ⟨bi,oi,none⟩) S.ins.length c1,.slice ao no co,.slice am nm' cm],.int .i64 num] ?_ ((a0 w1 h.r.below).mono ?_)
    .clear h a0;go_simp
     first|done|rfl
    rintro e w' ⟨rfl,hqb⟩;exact⟨_,rfl,(h.r.on hqb).val 8 (by decide) (by decide)⟩
   .intro D σ w1 a h;have f1:(a.tmps[42]?).getD undef=.slice (some ⟨bi,oi,none⟩) S.ins.length c1:=gK h 3 42;have f2:(a.tmps[47]?).getD undef=.int .i64 K0:=gK h 8 47;refine jJ h ?_;clear h a0;go_simp
    first|done|rfl
   .intro D σ w1 a h;have f3:(a.tmps[48]?).getD undef=.pointer (some ⟨bi,oi+K0*4,none⟩):=gK h 9 48;have l0:=(h.r.below.cell (p:=⟨bi,oi+K0*4,none⟩) jI).trans u0;have l1:=(h.r.below.cell (p:=⟨bi,oi+K0*4+1,none⟩) jI).trans u1;have l2:=(h.r.below.cell (p:=⟨bi,oi+K0*4+2,none⟩) jI).trans u2;have l3:=(h.r.below.cell (p:=⟨bi,oi+K0*4+3,none⟩) jI).trans u3;have iX:BlockLt bi w1:=⟨zR jI h.r.below.size⟩
    refine jJ h ?_;clear h a0;go_simp
    first|done|rfl
   .intro D σ w1 a h;refine uK (v:=.pointer w1.heap.size) (w':=w1.alloc (.cells #[.int .i64 0,false,.slice none 0 0,.string ⟨#[]⟩] 68)) ?_ (h.r.alloc (by decide) h.nd);clear h a0;go_simp
    first|done|rfl
   intro D σ w1 a h;obtain⟨g,eg,hgl,hgc,-⟩:=h.r.al (nR h 11);have e9:(a.tmps[9]?).getD undef=.pointer g:=aJB h 11 9 eg;have f4:(a.tmps[49]?).getD undef=.agg #[x.num,x.dir,.slice ea x.ents.length ec,x.data]:=gK h 10 49;obtain⟨d0,d1,d2,d3,hblk⟩:∃d0 d1 d2 d3,Blk w1 g #[d0,d1,d2,d3] 68:=by
    rcases hgc with h|h
    .exact⟨_,_,_,_,h⟩
    exact⟨_,_,_,_,h⟩
   have a6:=wW hblk (.int .i64 x.num) (.bool x.dir) (.slice ea x.ents.length ec) (.string x.data);have q0:=hblk.cell 0;have q1:=hblk.cell 1;have q2:=hblk.cell 2;have q3:=hblk.cell 3;have a8:=hblk.frozen 0;have a9:=hblk.frozen 1;have b0:=hblk.frozen 2;have b1:=hblk.frozen 3;simp at q0 q1 q2 q3;have iG:=hblk.lt;refine aLW (w':=aEN w1 g (.int .i64 x.num) (.bool x.dir) (.slice ea x.ents.length ec) (.string x.data)) ?_ (h.r.store (by decide) (nR h 11) eg hgl (tO _ _ _ _ _ _) a6);clear h a0 a6 hblk;unfold aEN;go_simp
   first|done|rfl
  intro σ w3 hR;obtain⟨g,eg,-,-,hgs⟩:=hR.al trivial;have hg:=hgs trivial;have d4:=hR.below;simp only[dM,Act.put,sA,sZ,sS,Nat.reduceAdd];rw[eg];clear hR hgs eg a0;go_wp2_with fail;go_meet;exact⟨g,rfl,hg,d4⟩
 obtain⟨g,rfl,hg,hbx⟩:=hcut;have b2:=HW.out.2.2.2.trans (hbx.mono HW.out.2.2.2.size);have iG:=hg.lt;have q1:=hg.cell 1;have q2:=hg.cell 2;simp at q1 q2;have hC:=aB HW.out.2.1 hbx;have iC:=hC.lt;have c0:=hC.cell 0;simp at c0;have hr:=aB HW.out.2.2.1 hbx;have hb:=aB HW.out.1 hbx;have iR:=hr.lt;have g0:=hr.cell 0;have g1:=hr.cell 1;have g2:=hr.cell 2;have g3:=hr.cell 3;have g4:=hr.cell 4;have g5:=hr.cell 5;have a8:=hr.frozen 0;have a9:=hr.frozen 1;have b0:=hr.frozen 2;have b1:=hr.frozen 3;have b9:=hr.frozen 4;have c8:=hr.frozen 5;simp at g0 g1 g2 g3 g4 g5;have HG:=mJ hb hr b2 hC;have c1:=hC.cell 1;have c2:=hC.cell 2;have c3:=hC.cell 3;have c4:=hC.cell 4;have c5:=hC.cell 5;have c6:=hC.cell 6;have c7:=hC.cell 7;simp at c1 c2 c3 c4 c5 c6 c7;have d5:Bel w wc:=⟨b2⟩;clear hb hr b2 hg hC hbx k0 k1 k2 u0 u1 u2 u3 jB jI HW a0;clear q1 q2 iG;cases X with
 | error k=>have a5:vB w 127 #[.pointer (some ⟨b,0,none⟩),.agg #[.int .i64 11,.int .i64 core,.int .i64 f0,.int .i64 off,.int .i64 nu,.string path,.string p2,.string dt],.int .i64 D,.string nm,.int .i64 num] (.agg #[.int .i64 k,.int .i64 0,.int .i64 0,.bool false,.string ⟨#[]⟩,.slice none 0 0]):=λww hw=>b8.out ww hw;go_wp2_with(go_at_call 127;(refine aE (a5 _ (bel w _)) λp=>?_));exact xD (v:=aR k 0 0) (by unfold results;simp only[results96,aR];go_simp) rfl (RefOut.err (bel w _))
 | ok S'=>have a5:Calls prog 127 #[.pointer (some ⟨b,0,none⟩),.agg #[.int .i64 11,.int .i64 core,.int .i64 f0,.int .i64 off,.int .i64 nu,.string path,.string p2,.string dt],.int .i64 D,.string nm,.int .i64 num] wc λe w'=>e=.returned (.agg #[.int .i64 0,.int .i64 0,.int .i64 0,.bool false,.string ⟨#[]⟩,.slice none 0 0])/\Below B wc w'/\Spared b wc w'/\∃iv' ov' mv',Blk w' b #[iv',ov',mv'] 26/\StOwn B w' iv' ov' mv' S':=b8.out wc HG.out.2.2.1;have hr:=HG.out.2.1;clear g0 g1 g2 g3 g4 g5 a8 a9 b0 b1 b9 c8;go_wp2_with(go_at_call 127;(refine a5.mono ?_);rintro e w5 ⟨rfl,hb5,hp5,iv5,ov5,mv5,hk5,hs5⟩;have a2:=hp5 _ _ _ hr (by omega) (.inr (.inr rfl));have f5:=a2.lt;have g0:=a2.cell 0;have g1:=a2.cell 1;have g2:=a2.cell 2;have g3:=a2.cell 3;have g4:=a2.cell 4;have g5:=a2.cell 5;have a8:=a2.frozen 0;have a9:=a2.frozen 1;have b0:=a2.frozen 2;have b1:=a2.frozen 3;have b9:=a2.frozen 4;have c8:=a2.frozen 5;simp at g0 g1 g2 g3 g4 g5;have H5:=qM hb5 hp5 hk5 hs5 a2;clear hb5 hp5 hk5 hs5 a2);have b3:Below B w w5:=(HG.out.2.2.1.mono hB).trans H5.out.1;have b4:Spared b w w5:=(Spared.of_below HG.out.2.2.1).trans H5.out.2.1;exact xD (v:=aR 0 0 0) (by unfold results;simp only[results96,aR];go_simp) rfl (RefOut.done (nJ (r:=w.heap.size+1) lF (by omega) a3 hB H5.out.2.2.2.2 H5.out.2.2.1 H5.out.2.2.2.1 b3 b4))
def lV (core fd:Int) (l:List PDesc):List PDesc:=l.filter λd=>!(d.core==core&&d.fd==fd)
theorem aHM {core fd:Int} {l:List PDesc} {q:Nat} {z:PDesc} (h:l[q]? =some z):lV core fd (l.take (q+1))=lV core fd (l.take q)++(if (z.core==core&&z.fd==fd)=true then[]else[z]):=by
 unfold lV;rw[take_add_one,h,filter_append];congr 1;by_cases hb:(z.core==core&&z.fd==fd)=true
 .simp only[Option.toList,filter_cons,filter_nil,hb,Bool.not_true,zP,if_false,if_true]
 have a0:(z.core==core&&z.fd==fd)=false:=Bool.not_eq_true _ ▸ hb;simp only[Option.toList,filter_cons,filter_nil,a0,Bool.not_false,zP,if_false,if_true]
theorem bAY (B b:Nat) (S:PSt) (iv ov mv:Value) (core f0 off nu:Int) (path p2 dt:ByteArray) (w:World) (hb:Blk w b #[iv,ov,mv] 26) (ho:StOwn B w iv ov mv S) (hB:B<=w.heap.size) (hBb:B<=b) (hwf:S.wf) (num:Int) (hfd:oE S core f0=num) (hn0:num≠0) (K:Nat) (x:PIn) (hat:bP S num=K) (hx:S.ins[K]? =some x):
 Calls prog 95 #[.pointer b,.agg #[.int .i64 3,core,f0,off,nu,path,p2,dt]] w (ByOut B b w (.ok (mB { S with op:=lV core f0 S.op} num,⟨0,0,0,false,⟨#[]⟩,[]⟩))):=by
 have b0:=c43 ho.read hwf.2.1 hfd;have c5:=λk ww=>bE k ww;have b1:=vK ho.read hwf.1 hat;obtain⟨hxl,-⟩:=gI.1 hx;obtain⟨bi,cap,rfl⟩:=ho.ins_form (by omega);obtain⟨ma,mn,mc,rfl⟩:=ho.2.1.form;obtain⟨oa,oc,rfl⟩:=ho.1.formL;rw[lM]at *;obtain⟨oa',oc',e2,hod⟩:=ho.read.1.at_;rw[lM]at e2;cases e2;obtain⟨a,cap',e1,hai⟩:=ho.read.ins_at2;cases e1;obtain⟨bi',oi,ev,he,iI0,hoi,her,hci⟩:=hai K x hx;cases he;have b2:∀w2,Bl w w2->BlockLt bi w2/\w2.cell? ⟨bi,K*4+3,none⟩=some (.string x.data):=by intro w2 h2;obtain⟨i2,-,-,-,x3⟩:=hci w2 h2;simp only[zM]at x3;exact⟨i2,x3⟩
 obtain⟨iI,x3⟩:=b2 w (Below.refl _ _);have c6:(K:Int)<S.ins.length:=by omega
 have d2:(num==0)=false:=by simpa using hn0
 have iL:=hb.lt;have b3:b<w.heap.size:=hb.lt.lt;obtain⟨-,s0,s1,s2⟩:=gR hb;have a3:({ S with op:=lV core f0 S.op}:PSt).wf:=⟨hwf.1,zD (length_filter_le _ _) hwf.2.1,hwf.2.2.1,hwf.2.2.2.1,λd hd=>hwf.2.2.2.2.1 d (mem_filter.1 hd).1,hwf.2.2.2.2.2⟩;have c7:0<S.ins.length:=by omega
 have d3:=hwf.2.1;have HH:=qM hb ho a3 c7 hod;clear hod a3;clear hb ho hwf hfd hx hat hn0 hai her hci hoi;have d4:=aC b2;clear b2;go_in;go_upto_region 1 with fail;refine qR ?_
 repeat(go_big_quiet_step ((with_reducible first|refine cI (b0 _ (bel _ _))|refine cJ (b0 _ (bel _ _)))))
 refine QN λp=>?_;go_wp2;refine qR ?_
 repeat(go_big_quiet_step ((with_reducible first|refine cI (b1 _ (bel _ _))|refine cJ (b1 _ (bel _ _)))))
 refine QN λp=>?_;go_upto_region 7 with fail;refine aD (F:=λwa=>Blk wa b #[.slice bi S.ins.length cap,.slice oa S.op.length oc,.slice ma mn mc] 26/\Blk wa w.heap.size #[.int .i64 3,core,f0,off,nu,path,p2,dt] 28/\Blk wa (w.heap.size+1) () 52/\Bl w wa) ⟨aB HH.out.1 (bel w _),aB (Blk.new w #[.int .i64 3,core,f0,off,nu,path,p2,dt] 28) (bel _ _),aB (Blk.new_i (w.alloc (.cells #[.int .i64 3,core,f0,off,nu,path,p2,dt] 28)) () 52 (w.heap.size+1)) (bel _ _),bel w _⟩ ?_;rintro W ⟨hb,hc,hr,a2⟩;have HW:=mJ hb hc hr a2;clear s0 s1 s2 x3 iI iL hb hc hr a2 b1 b0 c6;go_upto_region 9 with fail
 go_loopw[7,8] (λv7 v8 wr=>∃(q:Nat) (zs:List PDesc),v8=.int .i64 q/\q<=S.op.length/\zs.length<=q/\OwnP W.heap.size wr 95 3 v7 (zs.map PDesc.cells)/\zs=lV core f0 (S.op.take q)/\Below W.heap.size W wr) (λ_ v8 _=>(S.op.length-intOf v8).toNat)
 case atStart=>exact⟨0,[],rfl,by omega,by simp,.inl ⟨rfl,rfl⟩,rfl,bel W _⟩
 obtain⟨q,zs,rfl,hq,hzl,hO,hre,hbr⟩:=hrel;have c8:Bel W wr:=⟨hbr⟩;have a2:=HW.out.2.2.2.trans (hbr.mono HW.out.2.2.2.size);have iB:Bel w wr:=⟨a2⟩;have hb:=aB HW.out.1 hbr;have hc:=aB HW.out.2.1 hbr;obtain⟨iL,s0,s1,s2⟩:=gR hb;have iC:=hc.lt;have k1:=hc.cell 1;have k2:=hc.cell 2;simp at k1 k2;obtain⟨va,vc,rfl⟩:=hO.formL;generalize hzn:(zs.map PDesc.cells).length=zn at hO |-;have HO:=mJ hO hzn hbr a2;clear hO hzn hbr;by_cases hlt:q<S.op.length
 .obtain⟨z,hz⟩:=gAA hlt
  have a1:=aHM (core:=core) (fd:=f0) hz;rw[<-hre]at a1;obtain⟨be,oe,hea,iE0,iE,hce⟩:=HH.out.2.2.2.2 wr a2 q z.cells (by rw[gM,hz];rfl);subst hea;have c0:=hce 0 _ rfl;have c1:=hce 1 _ rfl;have c2:=hce 2 _ rfl;rw[zN]at c0;have b4:(q:Int)<S.op.length:=by omega
  have b5:=aC a1;clear hce hz hre a1 hb hc a2;obtain⟨zc,zf,zm⟩:=z;simp only at c0 c1 c2;by_cases hC:zc=core
  .subst hC;by_cases hF:zf=f0
   .subst hF;have hs:=b5.out;rw[zB (by simp),append_nil]at hs;have HS:=aC hs;clear hs
    go_upto_region 11 with fail;refine qR ?_
    repeat(go_big_quiet_step (fail))
    refine QN λp=>?_;go_wp2;go_roundw
    case rel=>exact⟨q+1,zs,by go_num,by omega,by omega,by have h:=HO.out;first|exact h.1.below (bel wr _)|(rw [<-h.2.1]at h;exact h.1.below (bel wr _)),HS.out.symm,bel W _⟩
    simp[intOf];omega
   have d5:(zf !=f0)=true:=by simpa using hF
   have hs:=b5.out;rw[zA (by simp[hF])]at hs;have HS:=aC hs;clear hs;go_upto_region 11 with fail;refine qR ?_
   repeat(go_big_quiet_step (fail))
   refine QN λp=>?_;go_wp2_with(at_builtin;refine nG rfl (.tmp 69) (.tmp 77) rfl W.heap.size _ _ zs [⟨zc,zf,zm⟩] rfl (by go_simp) (HO.out.1.below (bel wr _)) (RowAt.single (Blk.new_i _ _ _ _) 3 1) (by simp;omega) (bel W _).size ?_);intro v' w' hg;have a4:=hg.on (HO.out.1.below (bel wr _)) (bel W _).size;have a5:=(bel W _).trans a4;have a6:OwnP W.heap.size w' 95 3 v' ((zs++[(⟨zc,zf,zm⟩:PDesc)]).map PDesc.cells):=by have:=hg.1;simpa using this
   have H2:=bJ a6 a5;clear hg a4 a6 a5;go_wp2;go_roundw
   case rel=>exact⟨q+1,_,by go_num,by omega,by simp;omega,H2.out.1,HS.out.symm,H2.out.2⟩
   simp[intOf];omega
  have d6:(zc !=core)=true:=by simpa using hC
  have hs:=b5.out;rw[zA (by simp[hC])]at hs;have HS:=aC hs;clear hs;go_upto_region 11 with fail;refine qR ?_
  repeat(go_big_quiet_step (fail))
  refine QN λp=>?_;go_wp2_with(at_builtin;refine nG rfl (.tmp 69) (.tmp 77) rfl W.heap.size _ _ zs [⟨zc,zf,zm⟩] rfl (by go_simp) (HO.out.1.below (bel wr _)) (RowAt.single (Blk.new_i _ _ _ _) 3 1) (by simp;omega) (bel W _).size ?_);intro v' w' hg;have a4:=hg.on (HO.out.1.below (bel wr _)) (bel W _).size;have a5:=(bel W _).trans a4;have a6:OwnP W.heap.size w' 95 3 v' ((zs++[(⟨zc,zf,zm⟩:PDesc)]).map PDesc.cells):=by have:=hg.1;simpa using this
  have H2:=bJ a6 a5;clear hg a4 a6 a5;go_wp2;go_roundw
  case rel=>exact⟨q+1,_,by go_num,by omega,by simp;omega,H2.out.1,HS.out.symm,H2.out.2⟩
  simp[intOf];omega
 have b4:¬(q:Int)<S.op.length:=by omega
 have c9:zs=lV core f0 S.op:=by rw[hre,take_of_length_le (by omega)]
 subst c9;clear hre;have hK:Keep (λg=>g=b) wr (wr.setCell ⟨b,1,none⟩ (.slice va zn vc)):=(Keep.refl (λg=>g=b) wr).setCell (p:=⟨b,1,none⟩) (.inl rfl) _;have b8:Blk (wr.setCell ⟨b,1,none⟩ (.slice va zn vc)) b #[.slice bi S.ins.length cap,.slice va zn vc,.slice ma mn mc] 26:=by have h:=hb.set_ 1 (.slice va zn vc);simpa only[sA,sZ,sS]using h
 have b9:Blk (wr.setCell ⟨b,1,none⟩ (.slice va zn vc)) (w.heap.size+1) #[.int .i64 0,.int .i64 0,.int .i64 0,.bool false,.string ⟨#[]⟩,.slice none 0 0] 52:=hK.blk (aB HW.out.2.2.1 HO.out.2.2.1) (by omega);have c3:StOwn B (wr.setCell ⟨b,1,none⟩ (.slice va zn vc)) (.slice bi S.ins.length cap) (.slice va zn vc) (.slice ma mn mc) { S with op:=lV core f0 S.op}:=by have h1:=(HH.out.2.1.on HO.out.2.2.2).keep hK (λg hg=>by rw[hg];exact⟨_,26,hb,by decide,by decide,by decide,by decide⟩);have h2:=HO.out.1.keep hK (λg hg e=>by have:=HO.out.1.ge hg;have:=HW.out.1.lt.lt;omega);exact h1.setOp (h2.mono (zD hB HW.out.2.2.2.size))
 have a7:Below B w (wr.setCell ⟨b,1,none⟩ (.slice va zn vc)):=(HO.out.2.2.2.mono hB).trans (hK.below (zD hB HO.out.2.2.2.size) (λi hi e=>by omega));have a8:Spared b w (wr.setCell ⟨b,1,none⟩ (.slice va zn vc)):=(Spared.of_below HO.out.2.2.2).trans (λgg c t h1 h2 _=>hK.blk h1 h2);have d0:=hb.frozen 1;have HN:=qM b8 c3 b9 a7 a8;clear hK b8 b9 c3 a7 a8 hb hc a2 HO;go_upto_region 14 with fail;refine aD (F:=λwz=>Blk wz b #[.slice bi S.ins.length cap,.slice va zn vc,.slice ma mn mc] 26/\StOwn B wz (.slice bi S.ins.length cap) (.slice va zn vc) (.slice ma mn mc) { S with op:=lV core f0 S.op}/\Blk wz (w.heap.size+1) () 52/\Below B w wz/\Spared b w wz) HN.out ?_;clear HN s0 s1 s2 iL iC k1 k2 d0 c8 iB;rintro wz ⟨f1,f2,f3,f4,f5⟩;have c4:B<=wz.heap.size:=zD hB f4.size;have a9:=aAK B b _ _ _ _ num wz f1 f2 c4 hBb HH.out.2.2.1 HH.out.2.2.2.1;have HZ:=eH f3 f4 f5;clear f1 f2 f3 f4 f5;go_upto_region 36 with(go_at_call 124;(refine a9.mono ?_);rintro e w6 ⟨rfl,hb6,hk6,iv6,hv6,hs6⟩;have H6:=mJ hb6 hk6 hv6 hs6;clear hb6 hk6 hv6 hs6)
 have a0:=H6.out.2.1.blk HZ.out.1 (by omega);clear a9;have iR:=a0.lt;have g0:=a0.cell 0;have d7:=a0.frozen 0;have g1:=a0.cell 1;have d8:=a0.frozen 1;have g2:=a0.cell 2;have d9:=a0.frozen 2;have g3:=a0.cell 3;have e0:=a0.frozen 3;have g4:=a0.cell 4;have e3:=a0.frozen 4;have g5:=a0.cell 5;have e4:=a0.frozen 5;simp at g0 g1 g2 g3 g4 g5;have HR:=aC a0;clear a0;go_wp2_with(go_at_call 92;refine aE (c5 _ _) λp=>?_);have d1:B<=w6.heap.size:=zD c4 H6.out.1.size;have b6:Below B w w6:=HZ.out.2.1.trans H6.out.1;have b7:Spared b w w6:=HZ.out.2.2.trans (λgg c t h1 h2 _=>H6.out.2.1.blk h1 h2);exact xD (v:=aR 0 0 0) (by unfold results;simp only[results95,aR];go_simp) rfl (ByOut.done (nJ (r:=w.heap.size+1) lY (by omega) b3 hB (aB HR.out (bel w6 _)) (aB H6.out.2.2.1 (bel w6 _)) (H6.out.2.2.2.on (bel w6 _)) (b6.trans ((bel w6 _).mono d1)) (b7.trans (Spared.of_below (bel w6 _)))))
section
def upX (X:Except Int PSt):Except Int (PSt × PRes):=match X with
 |.error k=>.error k
 |.ok S'=>.ok (S',⟨0,0,0,false,⟨#[]⟩,[]⟩)
theorem RefOut.up {B b:Nat} {w w':World} {X:Except Int PSt} {e:Ending} (h:RefOut B b w X e w'):ByOut B b w (upX X) e w':=by
 cases X with
 |error k=>exact h
 |ok S'=>exact h
variable {S:PSt}
theorem aQV (M:MayX S) (c:PCall):∃X:Except Int PSt,oC S c PRes.zero=upX X/\∀(B b:Nat) (iv ov mv:Value) (ww:World),Blk ww b #[iv,ov,mv] 26->StOwn B ww iv ov mv S->B<=ww.heap.size->B<=b->
 Calls prog 126 #[.pointer b,.agg #[c.kind,c.core,c.fd,c.off,c.num,c.path,c.path2,c.data]] ww (RefOut B b ww X):=by
 unfold oC;have hf:=M.find_ c.path;rcases hat:rM S c.path with k|K
 .rw[hat]at hf;obtain⟨hk0,n,hn⟩:=hf;exact⟨.error k,rfl,λB b iv ov mv ww hb ho hB hBb=>aPS b S iv ov mv c.kind c.core c.fd c.off c.num c.path c.path2 c.data ww hb ho.read M.fineR n k hn hk0⟩
 rw [hat]at hf;obtain⟨x,hn,hx,hK⟩:=hf;simp only[hx];cases hd:x.dir with
 |true=>exact⟨.error 8,rfl,λB b iv ov mv ww hb ho hB hBb=>aPT b S iv ov mv c.kind c.core c.fd c.off c.num c.path c.path2 c.data ww hb ho.read M.fineR x.num 0 hn rfl K x hK hx hd⟩
 | false =>
   simp only[zP,if_false];have hp:=M.par c.path2;rcases hpx:bW S c.path2 with q|⟨K1,l⟩
   .rw[hpx]at hp;obtain⟨hq,D,nm,hpar⟩:=hp;exact⟨.error q,rfl,λB b iv ov mv ww hb ho hB hBb=>aPU b S iv ov mv c.kind c.core c.fd c.off c.num c.path c.path2 c.data ww hb ho.read M.fineR x.num 0 hn rfl K x hK hx hd D nm q hpar hq⟩
   rw [hpx]at hp;obtain⟨y,hpar,hy,hat1,hyd,hl⟩:=hp;have a1:∀e∈y.ents,e.name.size<=1000000000:=λe he=>by have:=M.tree.name y (mG hy) e he;omega
   unfold xK;simp only[hy];cases hh:bT y.ents l with
   | true=>obtain⟨e,he,hen0,hen,h0,hm⟩:=M.ent_hit hat1 hy hh;exact⟨.error 2,rfl,λB b iv ov mv ww hb ho hB hBb=>aPV b S iv ov mv c.kind c.core c.fd c.off c.num c.path c.path2 c.data ww hb ho.read M.fineR x.num 0 hn rfl K x hK hx hd y.num l 0 hpar rfl (by rw[hen];exact h0)⟩
   | false=>
     have a0:=M.ent_miss hat1 hy hh;cases hF:fB y.ents l ⟨#[]⟩with
     |true=>exact⟨.error 5,rfl,λB b iv ov mv ww hb ho hB hBb=>aPW b S iv ov mv c.kind c.core c.fd c.off c.num c.path c.path2 c.data ww hb ho.read M.fineR x.num 0 hn rfl K x hK hx hd y.num l 0 hpar rfl a0 K1 y hat1 hy (by omega) a1 (by rw[nF];exact hF)⟩
     | false=>refine⟨.ok (S.ents K1 y (aY y.ents (cZ y.ents l) ⟨l,x.num⟩)),rfl,λB b iv ov mv ww hb ho hB hBb=>?_⟩;have:=aUC B b S iv ov mv c.kind c.core c.fd c.off c.num c.path c.path2 c.data ww hb ho hB M.fineR x.num 0 hn rfl K x hK hx hd y.num l 0 hpar rfl a0 K1 y hat1 hy (by omega) a1 (by rw[nF];exact hF) hBb;rw[aAB (M.asc y (mG hy)) hh]at this;exact this
theorem aXT (M:MayX S) (c:PCall) (hk:c.kind=8) (B b:Nat) (iv ov mv:Value) (ww:World) (hb:Blk ww b #[iv,ov,mv] 26) (ho:StOwn B ww iv ov mv S) (hB:B<=ww.heap.size) (hBb:B<=b):
 Calls prog 96 #[.pointer b,.agg #[c.kind,c.core,c.fd,c.off,c.num,c.path,c.path2,c.data]] ww (ByOut B b ww (oC S c PRes.zero)):=by
 obtain⟨X,hX,hin⟩:=aQV M c;rw[hX];rw[hk]at hin |-;exact(aTC B b S iv ov mv c.core c.fd c.off c.num c.path c.path2 c.data ww hb hB X (λw2 hw=>hin B b iv ov mv w2 (aB hb hw) (ho.on hw) (zD hB hw.size) hBb)).mono λe w' h=>h.up
end
section
def bAC (l:List PDesc):Prop:=∀(i j:Nat) (a b:PDesc),l[i]? =some a->l[j]? =some b->i<j->a.core<b.core\/(a.core=b.core/\a.fd<b.fd)
variable {S:PSt} {x:PIn}
theorem pR:∀(l:List PDesc) (prev:Option PDesc),fL S prev l=true->bAC l/\(∀q,prev=some q->∀(i:Nat) (a:PDesc),l[i]? =some a->q.core<a.core\/(q.core=a.core/\q.fd<a.fd))/\∀d∈l,0<=d.core/\d.core<S.made.length/\0<=d.fd/\d.fd<4/\0<=aK S.nums d.num/\∃x,S.ins[(aK S.nums d.num).toNat]? =some x/\x.dir=false
 |[],_,_=>⟨λi j a b h=>by simp at h,λq _ i a h=>by simp at h,λd h=>by cases h⟩
 | d ::r,prev,h=>by
   unfold fL at h;split at h
   .cases h
   split at h
   .cases h
   split at h
   .cases h
   split at h
   .cases h
   split at h
   .cases h
   rename_i hp;split at h
   .cases h
   split at h;rotate_left
   .cases h
   rename_i x hx;split at h
   .cases h
   rename_i hd;obtain⟨h1,h2,h3⟩:=pR r _ h;have h4:=h2 d rfl;have h5:∀q,prev=some q->q.core<d.core\/(q.core=d.core/\q.fd<d.fd):=by rintro q rfl;have a0:¬kN (some q) d=true:=hp;unfold kN at a0;simp only[yI,zE,zI,beq_iff_eq]at a0;omega
   refine⟨λi j a b ha hb hij=>?_,λq hq i a ha=>?_,λy hy=>?_⟩
   .rcases i with _|i
    .simp only[zH,zF]at ha;subst ha;rcases j with _|j
     .omega
     exact h4 j b (by simpa using hb)
    rcases j with _|j
    .omega
    exact h1 i j a b (by simpa using ha) (by simpa using hb) (by omega)
   .rcases i with _|i
    .simp only[zH,zF]at ha;subst ha;exact h5 q hq
    have a1:=h5 q hq;have a2:=h4 i a (by simpa using ha);omega
   rcases mem_cons.1 hy with rfl|hy
   .exact⟨by omega,by omega,by omega,by omega,by omega,x,hx,by simpa using hd⟩
   exact h3 y hy
theorem wD (c f:Int):∀(l:List PDesc) (q:Nat),(fdL c f l=0/\bQ (λd:PDesc=>(d.core==c)&&(d.fd==f)) l q=-1/\∀d∈l,((d.core==c)&&(d.fd==f))=false)\/∃k y,l[k]? =some y/\((y.core==c)&&(y.fd==f))=true/\fdL c f l=y.num/\bQ (λd:PDesc=>(d.core==c)&&(d.fd==f)) l q=((q+k:Nat):Int)
 |[],q=>.inl ⟨rfl,rfl,λd h=>by cases h⟩
 | d ::r,q=>by
   unfold fdL bQ;by_cases hd:((d.core==c)&&(d.fd==f))=true
   .rw[zB hd];refine .inr ⟨0,d,rfl,hd,rfl,?_⟩;rw[zB hd];simp
   rw[zA hd,zA hd];rcases wD c f r (q+1)with⟨h1,h2,h3⟩|⟨k,y,h1,h2,h3,h4⟩
   .refine .inl ⟨h1,h2,λz hz=>?_⟩;rcases mem_cons.1 hz with rfl|hz
    .simpa using hd
    exact h3 z hz
   exact .inr ⟨k+1,y,by simpa using h1,h2,h3,by rw[h4];congr 1;omega⟩
theorem MayX.file_ (M:MayX S) (c:PCall):(eL S c=none/\oE S c.core c.fd=0/\cV (eW c) S.op<0)\/∃I K d x,eL S c=some (K,x)/\oE S c.core c.fd=x.num/\x.num≠0/\bP S x.num=(K:Nat)/\S.ins[K]? =some x/\S.op[I]? =some d/\cV (eW c) S.op=(I:Nat)/\x.dir=false/\d.core=c.core/\d.fd=c.fd:=by
 obtain⟨d1,d2,d3⟩:=pR S.op none M.descs;have a0:cV (eW c) S.op=bQ (λd:PDesc=>(d.core==c.core)&&(d.fd==c.fd)) S.op 0:=rfl;rcases wD c.core c.fd S.op 0 with⟨h1,h2,h3⟩|⟨I,d,h1,h2,h3,h4⟩
 .refine .inl ⟨?_,h1,by rw[a0,h2];decide⟩;unfold eL;rw[a0,h2,zB (by decide)]
 right;obtain⟨_,_,_,_,e5,x,e6,e7⟩:=d3 d (mG h1);have a2:=bG M.tree.rise d.num;obtain⟨K,hK⟩:∃K:Nat,aK S.nums d.num=K:=⟨(aK S.nums d.num).toNat,by omega⟩;rw[hK,zJ]at e6;have a1:bP S d.num=K:=by rw[<-a2,hK]
 have hn:=M.num a1 e6;have h0:=M.pos e6;rw[zM]at h4;simp only[zE,beq_iff_eq]at h2;refine⟨I,K,d,x,?_,by unfold oE;rw[h3,hn],by omega,by rw[hn];exact a1,e6,h1,by rw[a0,h4],e7,h2.1,h2.2⟩;unfold eL;rw[a0,h4,zA (by omega),zJ,h1];simp only;rw[hK,zJ,e6]
theorem wE (hr:Rise S.nums) {K:Nat} (hx:S.ins[K]? =some x) (hd:x.dir=false):mB S x.num=qW S x.num:=by
 have hf:=nA hr (cC hx);unfold mB qW;rw[hf,zJ,hx];simp only;rw[hd,mL];by_cases h1:0<(dR S x.num:Int)
 .rw[zB h1];have:((dR S x.num:Int)==0)=false:=by rw[yF];omega
  rw[this];simp
 rw[zA h1];have:((dR S x.num:Int)==0)=true:=by rw[beq_iff_eq];omega
 rw[this];show(if nC S.op x.num=true then S else _)=_;cases ho:nC S.op x.num with
 |true=>simp
 | false=>simp only[zP,if_false,Bool.not_false,Bool.and_true,if_true];congr 1;refine kO S.ins K x hx (by simp) (λi y hi hy=>?_);rw[yL,yF];intro e;have h2:=cC hy;rw[e]at h2;exact hi (hr.inj h2 (cC hx))
theorem aNF (M:MayX S) {c:PCall} {I:Nat} {d:PDesc} (hI:S.op[I]? =some d) (hc:d.core=c.core) (hf:d.fd=c.fd):lV c.core c.fd S.op=aM S.op I:=by
 obtain⟨d1,d2,d3⟩:=pR S.op none M.descs;refine kO S.op I d hI (by simp[hc,hf]) (λi y hi hy=>?_);rw[yL,<-Bool.not_eq_true];intro e;simp only[zE,beq_iff_eq]at e;rcases Nat.lt_or_gt_of_ne hi with h|h
 .have:=d1 i I y d hy hI h;omega
 have:=d1 I i d y hI hy h;omega
theorem hJ {x:Int}:tA x=true↔0<=x/\x<=256:=by unfold tA;simp
theorem bAD (M:MayX S) (c:PCall) (R:Except Int (PSt × PRes)) (hR:(c.kind=3/\R=mH S c PRes.zero)\/(c.kind=4/\R=rU S c PRes.zero)\/(c.kind=5/\R=lR S c PRes.zero)\/(c.kind=6/\R=lS S c PRes.zero)\/(c.kind=7/\R=rV S c PRes.zero)\/(c.kind=15/\R=mF S c PRes.zero)) (B b:Nat) (iv ov mv:Value) (ww:World) (hb:Blk ww b #[iv,ov,mv] 26) (ho:StOwn B ww iv ov mv S) (hB:B<=ww.heap.size) (hBb:B<=b):
 Calls prog 95 #[.pointer b,.agg #[c.kind,c.core,c.fd,c.off,c.num,c.path,c.path2,c.data]] ww (ByOut B b ww R):=by
 rcases M.file_ c with⟨h1,h2,h3⟩|⟨I,K,d,x,h1,h2,h3,h4,h5,h6,h7,h8,h9,h10⟩
 .have e:R=.error 4:=by
   rcases hR with⟨_,rfl⟩|⟨_,rfl⟩|⟨_,rfl⟩|⟨_,rfl⟩|⟨_,rfl⟩|⟨_,rfl⟩
   .unfold mH;rw[h1]
   .unfold rU;rw[h1]
   .unfold lR;rw[h1]
   .unfold lS;rw[h1]
   .unfold rV;rw[h1]
   unfold mF;rw[zB h3]
  rw[e];exact bBA B b S iv ov mv c.kind c.core c.fd c.off c.num c.path c.path2 c.data ww hb ho hB hBb M.wf 0 h2 rfl
 have a0 :=M.tree.data x (mG h5);rcases hR with⟨hk,rfl⟩|⟨hk,rfl⟩|⟨hk,rfl⟩|⟨hk,rfl⟩|⟨hk,rfl⟩|⟨hk,rfl⟩
 .unfold mH;rw[h1,hk,h7,zJ];have:=bAY B b S iv ov mv c.core c.fd c.off c.num c.path c.path2 c.data ww hb ho hB hBb M.wf x.num h2 h3 K x h4 h5;rw[aNF M h6 h9 h10,wE (S:={ S with op:=aM S.op I}) M.tree.rise h5 h8]at this;exact this
 .unfold rU;rw[h1,hk];simp only;by_cases hin:(tA c.off&&tA c.num)=true
  .rw[zB hin];rw[zE,hJ,hJ]at hin;exact aYZ B b S iv ov mv c.core c.fd c.off c.num c.path c.path2 c.data ww hb ho hB hBb M.wf x.num h2 h3 K x h4 h5 c.off.toNat c.num.toNat (by omega) (by omega) (by omega) (by omega) (by omega)
  rw[zA hin];rw[zE,hJ,hJ]at hin;exact aZD B b S iv ov mv c.core c.fd c.off c.num c.path c.path2 c.data ww hb ho hB hBb M.wf x.num h2 h3 K x h4 h5 (by omega)
 .unfold lR;rw[h1,hk];simp only;by_cases hin:(tA c.off&&tA (c.data.size:Int))=true
  .rw [zB hin];rw[zE,hJ,hJ]at hin;by_cases hs:256<c.off+c.data.size
   .rw[zB hs];exact aZG B b S iv ov mv c.core c.fd c.off c.num c.path c.path2 c.data ww hb ho hB hBb M.wf x.num h2 h3 K x h4 h5 (by omega) (by omega) (by omega) hs
   rw [zA hs];by_cases hz:c.data.size=0
   .have:=aZH B b S iv ov mv c.core c.fd c.off c.num c.path c.path2 c.data ww hb ho hB hBb M.wf x.num h2 h3 K x h4 h5 (by omega) (by omega) hz;have e:aBD x.data c.off.toNat c.data=x.data:=by unfold aBD;rw[zB hz]
    rw[e,hz];have e2:S.ins.set K { x with data:=x.data}=S.ins:=by obtain⟨hl,hg⟩:=gI.1 h5;have:({ x with data:=x.data}:PIn)=S.ins[K]:=hg.symm;rw[this];exact set_getElem_self hl
    rw[e2];exact this
   exact aZB B b S iv ov mv c.core c.fd c.off c.num c.path c.path2 c.data ww hb ho hB hBb M.wf x.num h2 h3 K x h4 h5 c.off.toNat (by omega) hz (by omega) (by omega)
  rw[zA hin];rw[zE,hJ,hJ]at hin;exact aZE B b S iv ov mv c.core c.fd c.off c.num c.path c.path2 c.data ww hb ho hB hBb M.wf x.num h2 h3 K x h4 h5 (by omega)
 .unfold lS;rw[h1,hk];simp only;by_cases hin:tA c.num=true
  .rw[zB hin];rw[hJ]at hin;exact aZA B b S iv ov mv c.core c.fd c.off c.num c.path c.path2 c.data ww hb ho hB hBb M.wf x.num h2 h3 K x h4 h5 c.num.toNat (by omega) (by omega)
  rw[zA hin];rw[hJ]at hin;exact aZF B b S iv ov mv c.core c.fd c.off c.num c.path c.path2 c.data ww hb ho hB hBb M.wf x.num h2 h3 K x h4 h5 (by omega)
 .unfold rV;rw[h1,hk];exact bBB B b S iv ov mv c.core c.fd c.off c.num c.path c.path2 c.data ww hb ho hB hBb M.wf x.num h2 h3 K x h4 h5
 unfold mF;rw[zA (by omega),hk];exact aZC B b S iv ov mv c.core c.fd c.off c.num c.path c.path2 c.data ww hb ho hB hBb M.wf x.num h2 h3 K x h4 h5
end
section
structure OInv (c:Int) (pre:List PDesc) (f a:Nat):Prop where
 le:a<=pre.length
 low:∀(j:Nat) (d:PDesc),j<a->pre[j]? =some d->d.core<c\/(d.core=c/\d.fd<f)
 high:∀(j:Nat) (d:PDesc),a<=j->pre[j]? =some d->c<d.core\/(d.core=c/\(f:Int)<d.fd)
 all:∀v:Nat,v<f->∃d∈pre,d.core=c/\d.fd=v
theorem aBN (c:Int):∀(l pre:List PDesc) (f a:Nat),bAC (pre++l)->(∀d∈pre++l,0<=d.fd)->OInv c pre f a->OInv c (pre++l) (dN c l pre.length f a).1 (dN c l pre.length f a).2
 | [],pre,f,a,_,_,h=>by unfold dN;rw[append_nil];exact h
 | o :: r, pre,f,a,hs,hp,h=>by
   unfold dN;have a0:(pre++[o]).length=pre.length+1:=by simp
   have a1:pre++o::r=(pre++[o])++r:=by simp
   rw[a1]at hs hp |-;rw[<-a0];have a2:∀(j:Nat) (d:PDesc),pre[j]? =some d->d.core<o.core\/(d.core=o.core/\d.fd<o.fd):=by
    intro j d hd;obtain⟨hl,_⟩:=gI.1 hd;refine hs j pre.length d o ?_ ?_ hl
    .rw[yU,zZ hl];exact hd
    simp
   have a4:0<=o.fd:=hp o (by simp);have a3:∀d∈pre,∃j:Nat,pre[j]? =some d:=λd hd=>getElem?_of_mem hd;refine aBN c r (pre++[o]) _ _ hs hp ?_;by_cases h1:o.core=c/\o.fd=f
   .rw [zB h1,zB (Or.inr h1)];have ha:a=pre.length:=by
     rcases Nat.lt_or_ge a pre.length with hl|hl
     .exfalso;have hd:=gE hl;have h2:=h.high a _ (zC _) hd;have h3:=a2 a _ hd;omega
     have:=h.le;omega
    refine⟨by rw[a0];omega,λj d hj hd=>?_,λj d hj hd=>?_,λv hv=>?_⟩
    .rcases Nat.lt_or_ge j pre.length with hl|hl
     .rw[zZ hl]at hd;have:=h.low j d (by omega) hd;omega
     have:j=pre.length:=by omega
     subst this;simp at hd;subst hd;omega
    .obtain⟨hl,_⟩:=gI.1 hd;omega
    by_cases hvf:v=f
    .exact⟨o,by simp,h1.1,by omega⟩
    obtain⟨d,hd,e1,e2⟩:=h.all v (by omega);exact⟨d,by simp[hd],e1,e2⟩
   rw [zA h1];by_cases h2:o.core<c
   .rw [zB (Or.inl h2)];have ha:a=pre.length:=by
     rcases Nat.lt_or_ge a pre.length with hl|hl
     .exfalso;have hd:=gE hl;have h3:=h.high a _ (zC _) hd;have h4:=a2 a _ hd;omega
     have:=h.le;omega
    refine⟨by rw[a0];omega,λj d hj hd=>?_,λj d hj hd=>?_,λv hv=>?_⟩
    .rcases Nat.lt_or_ge j pre.length with hl|hl
     .rw[zZ hl]at hd;exact h.low j d (by omega) hd
     have:j=pre.length:=by omega
     subst this;simp at hd;subst hd;omega
    .obtain⟨hl,_⟩:=gI.1 hd;omega
    obtain⟨d,hd,e1,e2⟩:=h.all v hv;exact⟨d,by simp[hd],e1,e2⟩
   rw [zA (by
    rintro(e|e)
    .exact h2 e
    exact h1 e)]
   refine⟨by rw[a0];have:=h.le;omega,λj d hj hd=>?_,λj d hj hd=>?_,λv hv=>?_⟩
   .have:=h.le;rw[zZ (by omega)]at hd;exact h.low j d hj hd
   .rcases Nat.lt_or_ge j pre.length with hl|hl
    .rw[zZ hl]at hd;exact h.high j d hj hd
    obtain⟨hl2,_⟩:=gI.1 hd;have:j=pre.length:=by omega
    subst this;simp at hd;subst hd;by_cases h3:o.core=c
    .right;refine⟨h3,?_⟩;rcases Int.lt_or_le (f:Int) o.fd with h4|h4
     .exact h4
     exfalso;obtain⟨y,hy,e1,e2⟩:=h.all o.fd.toNat (by omega);obtain⟨i,hi⟩:=a3 y hy;have:=a2 i y hi;omega
    left;omega
   obtain⟨d,hd,e1,e2⟩:=h.all v hv;exact⟨d,by simp[hd],e1,e2⟩
variable {S:PSt} {c v:Int}
theorem MayX.open_ (M:MayX S) (c:Int):OInv c S.op (dN c S.op 0 0 0).1 (dN c S.op 0 0 0).2:=by obtain⟨d1,d2,d3⟩:=pR S.op none M.descs;have:=aBN c S.op [] 0 0 (by simpa using d1) (λd hd=>(d3 d (by simpa using hd)).2.2.1) ⟨zC _,λj d hj=>by omega,λj d _ hd=>by simp at hd,λv hv=>by omega⟩;simpa using this
theorem MayX.fd_have (M:MayX S) (h:∃d∈S.op,d.core=c/\d.fd=v):oE S c v≠0:=by
 obtain⟨d,hd,e1,e2⟩:=h;obtain⟨d1,d2,d3⟩:=pR S.op none M.descs;unfold oE;rcases wD c v S.op 0 with⟨_,_,h3⟩|⟨k,y,h1,h2,h3,_⟩
 .have:=h3 d hd;simp[e1,e2]at this
 rw[h3];obtain⟨_,_,_,_,e5,x,e6,_⟩:=d3 y (mG h1);have a0:=bG M.tree.rise y.num;obtain⟨K,hK⟩:∃K:Nat,aK S.nums y.num=K:=⟨(aK S.nums y.num).toNat,by omega⟩;rw[hK,zJ]at e6;have a1:bP S y.num=K:=by rw[<-a0,hK]
 have hn:=M.num a1 e6;have h0:=M.pos e6;omega
theorem aVA (h:∀d∈S.op,¬(d.core=c/\d.fd=v)):oE S c v=0:=by
 unfold oE;rcases wD c v S.op 0 with⟨h1,_,_⟩|⟨k,y,h1,h2,_,_⟩
 .exact h1
 simp only[zE,beq_iff_eq]at h2;exact absurd h2 (h y (mG h1))
theorem tB (S:PSt) (c:PCall) (r:PRes):rX S c r=match rM S c.path with
 |.error k=>.error k
 | .ok K=>match S.ins[K]? with
   |none=>.ok (S,r)
   | some x=>if x.dir=true then .error 8 else if 4<=(dN c.core S.op 0 0 0).1 then .error 10 else
     .ok ({ S with op:=vI S.op (dN c.core S.op 0 0 0).2 ⟨c.core,(dN c.core S.op 0 0 0).1,x.num⟩},{ r with fd:=(dN c.core S.op 0 0 0).1}):=by
 unfold rX rM rK;by_cases hp:(aA c.path).1≠0
 .rw[zB hp,zB hp]
 rw[zA hp,zA hp];by_cases hw:(aL S 0 (aA c.path).2).2≠0
 .rw[zB hw,zB hw]
 rw[zA hw,zA hw];simp only;rcases S.ins[(aL S 0 (aA c.path).2).1]? with _|x<;>rfl
theorem bAE (M:MayX S) (c:PCall) (B b:Nat) (iv ov mv:Value) (ww:World) (hb:Blk ww b #[iv,ov,mv] 26) (ho:StOwn B ww iv ov mv S) (hB:B<=ww.heap.size) (hBb:B<=b):
 Calls prog 94 #[.pointer b,.agg #[c.kind,c.core,c.fd,c.off,c.num,c.path,c.path2,c.data],.int .i64 (-1)] ww (aXO B b ww (rX S c PRes.zero)):=by
 rw[tB];have hf:=M.find_ c.path;rcases hat:rM S c.path with k|K
 .rw[hat]at hf;obtain⟨hk0,n,hn⟩:=hf;exact aKR b S iv ov mv c.kind c.core c.fd c.off c.num c.path c.path2 c.data ww hb ho.read M.fineR n k hn hk0
 rw [hat]at hf;obtain⟨x,hn,hx,hK⟩:=hf;simp only[hx];cases hd:x.dir with
 |true=>exact aKS b S iv ov mv c.kind c.core c.fd c.off c.num c.path c.path2 c.data ww hb ho.read M.fineR x.num 0 hn rfl K x hK hx hd
 | false=>
   simp only[zP,if_false];have hI:=M.open_ c.core;generalize(dN c.core S.op 0 0 0).1=J at hI |-;generalize(dN c.core S.op 0 0 0).2=a at hI |-;by_cases h4:4<=J
   .rw[zB h4];exact aKT b S iv ov mv c.kind c.core c.fd c.off c.num c.path c.path2 c.data ww hb ho.read M.fineR x.num 0 hn rfl K x hK hx hd (λi h0 h3=>by
     obtain⟨d,hd1,e1,e2⟩:=hI.all i.toNat (by omega);exact M.fd_have ⟨d,hd1,e1,by omega⟩)
   rw[zA h4];have a0:oE S c.core J=0:=aVA λd hd1 e=>by
    obtain⟨j,hj⟩:=getElem?_of_mem hd1;rcases Nat.lt_or_ge j a with hl|hl
    .have:=hI.low j d hl hj;omega
    have:=hI.high j d hl hj;omega
   have:=aPZ B b S iv ov mv c.kind c.core c.fd c.off c.num c.path c.path2 c.data x.num K x J ww hb ho hB hBb M.fineR hn hK hx hd (by omega) (by omega) a0 (λi h0 h3=>by
    obtain⟨d,hd1,e1,e2⟩:=hI.all i.toNat (by omega);exact M.fd_have ⟨d,hd1,e1,by omega⟩)
   have a1:cT (fN c.core J) (⟨c.core,J,x.num⟩:PDesc) S.op false []=vI S.op a ⟨c.core,J,x.num⟩:=by
    refine xX hI.le (λi e hi he=>?_) (λe he=>?_)
    .have:=hI.low i e hi he;unfold fN;simp only[yV,yW,Bool.and_eq_false_iff,yF];omega
    have:=hI.high a e (zC _) he;unfold fN;simp only[yI,zI,zE,beq_iff_eq];omega
   rw[a1]at this;exact this
end
end Go.Proofs.YtmkapobnfigedaaGreatDoor
