/- A part of a proof of a law. Conditions: none. -/
import Derived.Test.YtmkapobnfigedaaGreatDoorDk28
set_option linter.unusedVariables false
set_option linter.unusedSimpArgs false
set_option maxRecDepth 100000
set_option maxHeartbeats 8000000
namespace Go.Proofs.YtmkapobnfigedaaGreatDoor
open Go.Proofs.Tryz List Go.RowKit
section
def Lent (B:Nat) (w:World) (e:TypeId) (k:Nat) (v:Value) (rows marks:List (List Value)):Prop:=
 ∃g cap,v=.slice (some ⟨g,0,none⟩) rows.length cap/\rows.length+marks.length<=cap/\OwnP B w e k (.slice (some ⟨g,0,none⟩) (rows.length+marks.length) cap) (rows++marks)
variable {B k:Nat} {e:TypeId} {marks rows:List (List Value)} {v:Value} {w w':World}
theorem Lent.below (h:Lent B w e k v rows marks) (hb:Bl w w'):Lent B w' e k v rows marks:=by obtain⟨g,cap,h1,h2,h3⟩:=h;exact⟨g,cap,h1,h2,h3.below hb⟩
theorem Lent.keep {S:Nat->Prop} (h:Lent B w e k v rows marks) (hk:Keep S w w') (hn:∀g,v.ownBlock=some g->¬S g):Lent B w' e k v rows marks:=by obtain⟨g,cap,rfl,h2,h3⟩:=h;exact⟨g,cap,rfl,h2,h3.keep hk (λg' hg=>hn g' hg)⟩
theorem Lent.row (h:Lent B w e k v rows marks):RowAt w k v rows:=by obtain⟨g,cap,rfl,h2,h3⟩:=h;have:=h3.row.pre rows.length (by simp);rw[take_left]at this;exact this
end
section
section
variable {α:Type} (cells:α->List Value) (n e k:Nat)
def aKY:Prop:=∀(us:List α) (va:Value) (w:World),RowAt w k va (us.map cells)->us.length<=1000000000->Calls prog n #[va] w λx w'=>Bl w w'/\∃v,x=.returned v/\OwnP w.heap.size w' e k v (us.map cells)
def aKZ (ms:List α):Prop:=∀m,m=ms->∀(us:List α) (va:Value) (w:World),RowAt w k va (us.map cells)->us.length<=1000000000->Calls prog n #[va] w λx w'=>Bl w w'/\∃v,x=.returned v/\Lent w.heap.size w' e k v (us.map cells) (m.map cells)
def aLA:Prop:=∀(us:List α) (va vb:Value) (w:World),RowAt w k va (us.map cells)->RowAt w k vb (us.map cells)->Calls prog n #[va,vb] w λx w'=>x=.returned (.bool true)/\Bl w w'
def aLB (ms:List α):Prop:=∀(B:Nat) (us:List α) (va vb:Value) (w:World),Lent B w e k va (us.map cells) (ms.map cells)->RowAt w k vb (us.map cells)->us.length<=1000000000->Calls prog n #[va,vb] w λx w'=>x=.returned (.bool true)/\Bl w w'
end
def mK:List PKey:=[⟨77777,⟨#[]⟩⟩,⟨77777,⟨#[]⟩⟩]
def mD:List PDesc:=[⟨77777,0,0⟩,⟨77777,0,0⟩]
def mE:List PEnt:=[⟨⟨#[126]⟩,0⟩,⟨⟨#[126]⟩,0⟩]
def mI:List Int:=[-7777,-8888]
theorem aVM (w:World) (e k:Nat):OwnP w.heap.size (w.alloc (.cells #[] e)) e k (.slice w.heap.size 0 0) []:=.inr ⟨_,0,#[],rfl,zC _,Blk.new _ _ _,zC _,by decide,by simp,λq cs hq=>by simp at hq⟩
theorem aDX:aKY PKey.cells 38 61 2/\aKY PDesc.cells 66 95 3/\aKY PEnt.cells 67 97 2/\aKY aL 53 3 1:=by
 refine⟨have a0:=@oM;?_,have a0:=@mV;?_,have a0:=@sG;?_,have a0:=@aVZ;?_⟩
 all_goals
  intro us va w ha hl;have HO:=bG ha hl;have a2:=ha.one;obtain⟨aa,na,ca,rfl⟩:∃a n c,va=.slice a n c:=by obtain⟨a,c,h,-⟩:=ha;exact⟨a,_,c,h⟩
  clear ha
  go_in
  go_wp2_with(at_builtin;refine a0 rfl _ _ rfl w.heap.size (.slice w.heap.size 0 0) (.slice aa na ca) [] us rfl rfl (aVM w _ _) (HO.out.1.below (bel w _) (zC _)) (by have:=HO.out.2;simp;omega) (by simp) ?_);intro v2 w2 hG2;have a1:=(bel w (w.alloc (.cells #[] _))).trans (hG2.2.1.below (by simp) (λi hi hg=>by
   have:w.heap.size=i:=by simpa[Value.ownBlock]using hg
   omega))
  obtain⟨ho2,-,-⟩:=hG2;obtain⟨av2,nv2,cv2,rfl⟩:=ho2.form;have H2:=bG ho2 a1;clear ho2 a1;go_wp2;go_ret;exact⟨H2.out.2,_,rfl,H2.out.1⟩
theorem aLC:aKZ PKey.cells 11 61 2 mK/\aKZ PDesc.cells 36 95 3 mD/\aKZ PEnt.cells 37 97 2 mE/\aKZ aL 22 3 1 mI:=by
 refine⟨have a0:=@oM;have cp:=aDX.1;?_,have a0:=@mV;have cp:=aDX.2.1;?_,have a0:=@sG;have cp:=aDX.2.2.1;?_,have a0:=@aVZ;have cp:=aDX.2.2.2;?_⟩
 all_goals
  intro m hm us va w ha hl;have a2:m.length=2:=by rw[hm];rfl
  have HM:=aC hm;clear hm;have a3:=cp us va w ha hl;obtain⟨aa,ca,rfl,-⟩:=ha;rw[lM]at a3 |-;clear cp
  go_in
  go_wp2_with(first|((first|go_at_call 38|go_at_call 66|go_at_call 67|go_at_call 53);refine a3.mono ?_;rintro e w1 ⟨hb1,v1,rfl,ho1⟩;have a6:=ho1.row.one;obtain⟨a1,n1,c1,rfl⟩:=ho1.form)|(at_builtin;refine a0 rfl _ _ rfl w.heap.size (.slice a1 n1 c1) (.slice w1.heap.size 2 2) us m rfl rfl (ho1.below (bel w1 _)) (by rw[HM.out];exact dZ (Blk.new w1 _ _) rfl (by decide) (aKH rfl rfl)) (by omega) (by have:=hb1.size;simp;omega) ?_));intro v2 w2 hG2;have a4:=(hb1.trans ((bel w1 (w1.alloc _)).mono hb1.size)).trans (hG2.2.1.below (by have:=hb1.size;simp;omega) (λi hi hg=>by have:=ho1.ge hg;omega));obtain⟨ho2,-,-⟩:=hG2
  (try rw[yS]at ho2)
  have a5:=ho2;rcases ho2 with⟨-,e⟩|⟨g,cap,arr,rfl,hg,hbk,hn,hm,hs,hr⟩
  .have:=congrArg List.length e;simp[a2]at this
  have a7:us.length+2<=cap:=by simpa[a2]using hn
  have HX:=bG a5 a4;clear a5 a4 hbk hs hr hn ho1 a6 hb1 a0;simp only[lP,lM,a2]at HX |-;have a8:(us.length:Int)<=cap:=by omega
  go_wp2;go_ret;refine⟨HX.out.2,.slice g us.length cap,rfl,g,cap,by rw[lM],by rw[lM,lM,a2];exact a7,?_⟩;have:=HX.out.1;simpa[a2]using this
theorem wJ:aLA PKey.cells 14 2/\aLA PDesc.cells 88 3/\aLA PEnt.cells 89 2/\aLA aL 57 1:=by
 refine⟨have ne:=λx:PKey=>bAG x.num x.name;?_,have ne:=λx:PDesc=>bAC x.core x.fd x.num;?_,have ne:=λx:PEnt=>bAE x.name x.num;?_,have ne:=λx:Int=>trivial;?_⟩
 all_goals
  intro us va vb w ha hb;have a0:us.length<=9223372036854775807:=by obtain⟨_,_,_,h,_⟩:=ha;rw[lM]at h;exact h
  obtain⟨aa,ca,rfl,hata⟩:=ha.at_;obtain⟨ab,cb,rfl,hatb⟩:=hb.at_;rw[lM];have HA:=bG hata hatb;have a1:((us.length:Int) !=us.length)=false:=by simp
  clear hata hatb ha hb
  go_in
  go_wp2
  go_loopw[5] (λvi wr=>∃q:Nat,vi=.int .i64 q/\q<=us.length/\Bl w wr) (λvi _=>(us.length-intOf vi).toNat)
  case atStart=>exact⟨0,rfl,by omega,bel _ _⟩
  obtain⟨q,rfl,hq,hbr⟩:=hrel;have iB:Bel w wr:=⟨hbr⟩;by_cases hlt:q<us.length
  .obtain⟨x,hx⟩:∃x,us[q]? =some x:=⟨_,gE hlt⟩
   obtain⟨be,offe,rfl,iE0,iE,hce⟩:=HA.out.1 wr hbr q _ (by rw[gM,hx];rfl);obtain⟨bf,offf,rfl,iF0,iF,hcf⟩:=HA.out.2 wr hbr q _ (by rw[gM,hx];rfl);have e0:=hce 0 _ rfl;have f0:=hcf 0 _ rfl
   (try have e1:=hce 1 _ rfl)
   (try have f1:=hcf 1 _ rfl)
   (try have e2:=hce 2 _ rfl)
   (try have f2:=hcf 2 _ rfl)
   rw[zN]at e0 f0
   (try rw[Nat.mul_one]at e0 f0)
   have g1:(q:Int)<us.length:=by omega
   have n1:=ne x;clear hce hcf hx ne;go_wp2;refine qR ?_
   repeat(go_big_quiet_step (fail))
   refine QN λp=>?_;go_wp2;go_roundw
   case rel=>exact⟨q+1,by go_num,by omega,bel _ _⟩
   simp[intOf];omega
  have g1:¬(q:Int)<us.length:=by omega
  go_wp2;go_ret;exact⟨rfl,bel _ _⟩
theorem aRX {α:Type} (cells:α->List Value) (us:List α) (x y:α):(us.map cells++[x,y].map cells)[us.length]? =some (cells x):=by simp
theorem aRY {α:Type} (cells:α->List Value) (us:List α) (x y:α):(us.map cells++[x,y].map cells)[us.length+1]? =some (cells y):=by simp
theorem aLD:aLB PKey.cells 19 61 2 mK/\aLB PDesc.cells 48 95 3 mD/\aLB PEnt.cells 49 97 2 mE/\aLB aL 29 3 1 mI:=by
 refine⟨have eq:=bAF 77777 ⟨#[]⟩;have sm:=wJ.1;?_,have eq:=bAB 77777 0 0;have sm:=wJ.2.1;?_,have eq:=bAD ⟨#[126]⟩ 0;have sm:=wJ.2.2.1;?_,have eq:=trivial;have sm:=wJ.2.2.2;?_⟩
 all_goals
  intro B us va vb w h hb hl;have a1:=h.row;have a0:=fun(ww:World) (hb':Bl w ww)=>sm us va vb ww (a1.below hb' (zC _)) (hb.below hb' (zC _));obtain⟨ab,cb,rfl,-⟩:=hb;obtain⟨g,cap,rfl,hcap,ho⟩:=h;rcases ho with⟨h0,-⟩|⟨g',cap',arr,he,hg,hbk,hn,hm,hs,hr⟩
  .cases h0
  simp only[zO,zF,yG,and_true]at he;obtain⟨rfl,-,rfl⟩:=he;have a2:us.length+2<=cap:=by rw[lM]at hcap;exact hcap
  simp only[lM]at a0 |-;have iG:=hbk.lt;have a3:=(hbk.cell _).trans (hr us.length _ (aRX _ us _ _) 0 _ rfl);have a4:=(hbk.cell _).trans (hr (us.length+1) _ (aRY _ us _ _) 0 _ rfl)
  (try have a5:=(hbk.cell _).trans (hr us.length _ (aRX _ us _ _) 1 _ rfl))
  (try have a6:=(hbk.cell _).trans (hr (us.length+1) _ (aRY _ us _ _) 1 _ rfl))
  (try have a7:=(hbk.cell _).trans (hr us.length _ (aRX _ us _ _) 2 _ rfl))
  (try have a8:=(hbk.cell _).trans (hr (us.length+1) _ (aRY _ us _ _) 2 _ rfl))
  rw[zN]at a3 a4
  (try rw[Nat.mul_one]at a3 a4)
  have w1:IntKind.i64.wrap ((us.length:Int)+2)=(us.length:Int)+2:=I64.wrap ⟨by omega,by omega⟩;have w2:IntKind.i64.wrap ((us.length:Int)+1)=(us.length:Int)+1:=I64.wrap ⟨by omega,by omega⟩;have g1:(us.length:Int)+2<=cap:=by omega
  clear hr hs hbk a1 hn sm hcap
  go_in
  go_wp2_with((first|go_at_call 14|go_at_call 88|go_at_call 89|go_at_call 57);refine aE (a0 _ (bel _ _)) λp=>?_);go_ret;exact⟨rfl,bel _ _⟩
end
section
variable {B b k q:Nat} {S:PSt} {W w w':World} {c c':Array Value} {e t:TypeId} {iv mv ov v vi:Value} {marks rows:List (List Value)} {p:Behind}
theorem Lent.ne_blk (h:Lent B w e k v rows marks) (hb:Blk w b c t) (hne:e≠t) {g:Nat} (hg:v.ownBlock=some g):g≠b:=by obtain⟨g',cap,rfl,_,ho⟩:=h;exact ho.ne_blk hb hne hg
theorem Lent.mono {B':Nat} (h:Lent B w e k v rows marks) (hb:B'<=B):Lent B' w e k v rows marks:=by obtain⟨g',cap,rfl,h2,ho⟩:=h;exact⟨g',cap,rfl,h2,ho.mono hb⟩
def aIJ:List (List Value):=mE.map PEnt.cells
def aIK:List (List Value):=mD.map PDesc.cells
def aIL:List (List Value):=mI.map aL
def InsL (B:Nat) (w:World) (S:PSt) (q:Nat) (vi:Value):Prop:=∃is:List IRec,OwnP B w 68 4 vi (is.map IRec.cells)/\is.length=q/\∀(j:Nat) (r:IRec) (x:PIn),is[j]? =some r->S.ins[j]? =some x->r.num=x.num/\r.dir=x.dir/\r.data=x.data/\Lent B w 97 2 r.ev (x.ents.map PEnt.cells) aIJ
theorem InsL.keep (h:InsL B w S q vi) (hk:Keep (λg=>g=b) w w') (hb:Blk w b c t) (h1:68≠t) (h2:97≠t) (hq:q<=S.ins.length):InsL B w' S q vi:=by obtain⟨is,ho,hl,hr⟩:=h;refine⟨is,ho.keep hk (λg hg=>ho.ne_blk hb h1 hg),hl,λj r x hj hx=>?_⟩;obtain⟨a1,a2,a3,a4⟩:=hr j r x hj hx;exact⟨a1,a2,a3,a4.keep hk (λg hg=>a4.ne_blk hb h2 hg)⟩
theorem InsL.below (h:InsL B w S q vi) (hb:Bl w w'):InsL B w' S q vi:=by obtain⟨is,ho,hl,hr⟩:=h;refine⟨is,ho.below hb,hl,λj r x hj hx=>?_⟩;obtain⟨a1,a2,a3,a4⟩:=hr j r x hj hx;exact⟨a1,a2,a3,a4.below hb⟩
def LS (B:Nat) (w:World) (iv ov mv:Value) (S:PSt):Prop:=Lent B w 95 3 ov (S.op.map PDesc.cells) aIK/\Lent B w 3 1 mv (S.made.map aL) aIL/\InsL B w S S.ins.length iv
theorem LS.below (h:LS B w iv ov mv S) (hb:Bl w w'):LS B w' iv ov mv S:=⟨h.1.below hb,h.2.1.below hb,h.2.2.below hb⟩
theorem LS.read (h:LS B w iv ov mv S):StRead w iv ov mv S:=by
 obtain⟨h1,h2,is,ho,hl,hr⟩:=h;exact⟨h1.row,h2.row,is,ho.row,hl,λq r x hq hx=>by
  obtain⟨a1,a2,a3,a4⟩:=hr q r x hq hx;exact⟨a1,a2,a3,a4.row⟩⟩
structure LJ (w:World) (iv ov mv:Value) (S:PSt) (g3:Nat) (ov' mv':Value) (q:Nat) (vi:Value) (wr:World):Prop where
 below:Bl w wr
 box:Blk wr w.heap.size #[iv,ov,mv] 26
 out:Blk wr (w.heap.size+1) #[.slice none 0 0,.slice none 0 0,.slice none 0 0] 26
 st:Blk wr g3 #[vi,ov',mv'] 26
 g3g:w.heap.size+2<=g3
 lo:Lent w.heap.size wr 95 3 ov' (S.op.map PDesc.cells) aIK
 lm:Lent w.heap.size wr 3 1 mv' (S.made.map aL) aIL
 ins:InsL w.heap.size wr S q vi
theorem LJ.later {g3:Nat} {ov' mv':Value} {wr:World} (h:LJ w iv ov mv S g3 ov' mv' q vi wr) (hb:Bl wr w'):LJ w iv ov mv S g3 ov' mv' q vi w':=
 ⟨h.below.trans (hb.mono h.below.size),h.box.below hb h.box.lt.lt,h.out.below hb h.out.lt.lt,h.st.below hb h.st.lt.lt,h.g3g,h.lo.below hb,h.lm.below hb,h.ins.below hb⟩
theorem oU (h:OwnP B ((W.alloc (.cells c 26)).junk p) e k v rows) (he:e≠26):OwnP B ((W.alloc (.cells c' 26)).junk p) e k v rows:=by
 rcases h with h|⟨g,cap,arr,rfl,hg,hb,r⟩
 .exact .inl h
 refine .inr ⟨g,cap,arr,rfl,hg,?_,r⟩;have a0:g≠W.heap.size:=hb.ne_ ((Blk.new W c 26).junk p) he;unfold Blk at hb |-;simp only[World.junk,World.alloc,Array.getElem?_append,Array.size_push,Array.getElem?_push,zA a0]at hb |-;exact hb
theorem tL (h:OwnP B ((W.alloc (.cells c 26)).drew.junk p) e k v rows) (he:e≠26):OwnP B ((W.alloc (.cells c' 26)).drew.junk p) e k v rows:=oU (W:=W) (p:=p) h he
theorem aXY (iv ov mv:Value) (S:PSt) (w:World) (h:StRead w iv ov mv S) (hwf:S.wf):
 Calls prog 10 #[.agg #[iv,ov,mv]] w λe w'=>Bl w w'/\∃iv' ov' mv',e=.returned (.agg #[iv',ov',mv'])/\LS w.heap.size w' iv' ov' mv' S:=by
 have b3:=fun(ww:World) (hb:Bl w ww)=>aLC.2.1 _ rfl S.op ov ww (h.1.below hb (zC _)) hwf.2.1;have b4:=fun(ww:World) (hb:Bl w ww)=>aLC.2.2.2 _ rfl S.made mv ww (h.2.1.below hb (zC _)) hwf.2.2.1;obtain⟨ai,n0,ci,ao,no,co,am,nm',cm,e0,rfl,rfl⟩:=h.slices;subst e0;obtain⟨ax,cx,e1,hai⟩:=h.ins_at2;cases e1;have b8:=hwf.1;have a7:∀x∈S.ins,x.ents.length<=1000000000:=λx hx=>(hwf.2.2.2.1 x hx).2.1;obtain⟨i0,hi,hz0,hz1,hz2⟩:=info_parts vT;obtain⟨arr,hars,hmk⟩:∃arr:Array Value,arr.size=(S.ins.length+1)*4/\∀u:World,(Instr.makeSlice 22 (.int .i64 0) (.int .i64 ((S.ins.length:Int)+1))).run prog u=.ok (.slice u.heap.size 0 (S.ins.length+1)) (u.alloc (.cells arr 68)):=by
  have ht:((S.ins.length:Int)+1).toNat=S.ins.length+1:=by omega
  refine⟨madeCells (Value.agg #[.int .i64 0,false,.slice none 0 0,ByteArray.empty]).cells ((S.ins.length+1)*4),size_madeCells _ _,λu=>?_⟩;have:=run_make (P:=prog) u 22 68 i0 _ underlying22 hi hz0 .i64 .i64 0 ((S.ins.length:Int)+1) (by omega) (by omega) (by rw[hz2];omega) (by omega);rw[ht,hz1]at this;exact this
 have HI:=bG hai a7;have HK:=aC hars;clear h hwf hai a7 hars hi hz0 hz1 hz2;go_in;go_upto_region 1 with fail;go_cut [3] (λv3 wx=>∃g ov' mv',v3=.pointer (some ⟨g,0,none⟩)/\w.heap.size+2<=g/\Bl w wx/\Blk wx w.heap.size #[.slice ai S.ins.length ci,.slice ao no co,.slice am nm' cm] 26/\Blk wx (w.heap.size+1) #[.slice none 0 0,.slice none 0 0,.slice none 0 0] 26/\Blk wx g #[.slice none 0 0,ov',mv'] 26/\Lent w.heap.size wx 95 3 ov' (S.op.map PDesc.cells) aIK/\Lent w.heap.size wx 3 1 mv' (S.made.map aL) aIL)
 case first=>
  go_region_held3 (λw'=>w'.cell? ⟨w.heap.size,1,none⟩=some (.slice ao no co)/\w'.cell? ⟨w.heap.size,2,none⟩=some (.slice am nm' cm))
   (first|(try dsimp only)<;>(repeat' apply And.intro)<;>go_simp)
   (first|(go_at_call 36;refine(b3 _ (bel _ _)).mono ?_;rintro e w' ⟨hb,v36,rfl,hL36⟩;obtain⟨g36,n36,hv36,hh36⟩:=hL36;rw[lM]at hv36;subst hv36;have a9:=aC hh36;clear hh36;obtain⟨p36,rfl⟩:=hb.rest;clear hb)|(go_at_call 22;refine(b4 _ (bel _ _)).mono ?_;rintro e w' ⟨hb,v22,rfl,hL22⟩;obtain⟨g22,n22,hv22,hh22⟩:=hL22;rw[lM]at hv22;subst hv22;have a8:=aC hh22;clear hh22;obtain⟨p22,rfl⟩:=hb.rest;clear hb))
  all_goals go_wp2_with fail
  all_goals go_meet
  all_goals(refine ⟨_,.slice g36 S.op.length n36,.slice g22 S.made.length n22,rfl,by first|omega|(simp;omega),bel _ _,aB (Blk.new w #[.slice ai S.ins.length ci,.slice ao no co,.slice am nm' cm] 26) (bel _ _),aB (Blk.new_i (w.alloc (.cells #[.slice ai S.ins.length ci,.slice ao no co,.slice am nm' cm] 26)) #[.slice none 0 0,.slice none 0 0,.slice none 0 0] 26 (w.heap.size+1)) (bel _ _),?_,⟨g36,n36,by rw[lM],a9.out.1,?_⟩,⟨g22,n22,by rw[lM],a8.out.1,?_⟩⟩)
  all_goals first
   |((repeat (first|exact Blk.new_i _ _ _ _|refine Blk.alloc ?_ _|refine Blk.junk ?_ _|refine Blk.drew ?_));done)
   |exact(a9.out.2.below (bel _ _)).mono (by simp;omega)
   |exact(a8.out.2.below (bel _ _)).mono (by simp;omega)
   |(rw [<-World.junk_junk];exact(a9.out.2.below (bel _ _)).mono (by simp;omega))
   |(rw [<-World.junk_junk];exact(a8.out.2.below (bel _ _)).mono (by simp;omega))
   |(refine OwnP.mono (tL a8.out.2 (by decide)) ?_;simp;omega)
   |(have h0:=a8.out.2;rw[World.junk_junk]at h0;refine OwnP.mono (tL h0 (by decide)) ?_;simp;omega)
   |(have h:=tL a9.out.2 (c':=#[.slice none 0 0,.slice (some ⟨g36,0,none⟩) S.op.length n36,.slice (some ⟨g22,0,none⟩) S.made.length n22]) (by decide);rw[<-World.junk_junk];refine OwnP.mono (h.below (bel _ _)) ?_;simp;omega)
   |(refine OwnP.mono (oU a8.out.2 (by decide)) ?_;simp;omega)
   |(have h0:=a8.out.2;rw[World.junk_junk]at h0;refine OwnP.mono (oU h0 (by decide)) ?_;simp;omega)
   |(refine OwnP.mono (oU a9.out.2 (by decide)) ?_;simp;omega)
   |(have h:=oU a9.out.2 (c':=#[.slice none 0 0,.slice (some ⟨g36,0,none⟩) S.op.length n36,.slice (some ⟨g22,0,none⟩) S.made.length n22]) (by decide);rw[<-World.junk_junk];refine OwnP.mono (h.below (bel _ _)) ?_;simp;omega)
 obtain⟨g3,ov',mv',rfl,hg3,hbw,hb0,hb1,hst,hlo,hlm⟩:=hcut;have i0:=hb0.lt;have i1:=hb1.lt;have i3:=hst.lt;have k0:=hb0.cell 0;have s0:=hst.cell 0;simp only[yD,zH,zV]at k0 s0;have fz:=hst.frozen 0;have b0:=hbw.size;obtain⟨ap,no',co',rfl⟩:∃a n c,ov'=.slice a n c:=by obtain⟨g,cap,rfl,_⟩:=hlo;exact⟨_,_,_,rfl⟩
 obtain⟨aq,nm2,cm2,rfl⟩:∃a n c,mv'=.slice a n c:=by obtain⟨g,cap,rfl,_⟩:=hlm;exact⟨_,_,_,rfl⟩
 have b9:Bel w wc:=⟨hbw⟩;have HC:=jj7 hg3 hbw hb0 hb1 hst hlo hlm;clear hg3 hbw hb0 hb1 hst hlo hlm b3 b4;have w1:IntKind.i64.wrap ((S.ins.length:Int)+1)=(S.ins.length:Int)+1:=I64.wrap ⟨by omega,by omega⟩;go_upto_region 3 with fail;refine aD (F:=λW=>LJ w (.slice ai S.ins.length ci) (.slice ao no co) (.slice am nm' cm) S g3 (.slice ap no' co') (.slice aq nm2 cm2) 0 (.slice wc.heap.size 0 (S.ins.length+1)) W) ?_ ?_
 .obtain⟨hg3,hbw,hb0,hb1,hst,hlo,hlm⟩:=HC.out;have hK:Keep (λk=>k=g3) wc ((wc.setCell g3 (.slice wc.heap.size 0 (S.ins.length+1))).alloc (.cells arr 68)):=(Keep.setCell (S:=λk=>k=g3) (p:=g3) (Keep.refl _ _) (.inl rfl) _).alloc _;have c7:=hst.lt.lt;refine⟨hbw.trans (hK.below b0 (λi hi e=>by omega)),hK.blk hb0 (by omega),hK.blk hb1 (by omega),(hst.set_ 0 _).alloc _,hg3,hlo.keep hK (λg hg=>hlo.ne_blk hst (by decide) hg),hlm.keep hK (λg hg=>hlm.ne_blk hst (by decide) hg),[],.inr ⟨wc.heap.size,S.ins.length+1,arr,rfl,b0,Blk.new_i _ _ 68 _,by simp,by unfold maxLen;omega,HK.out,λq cs hq=>by simp at hq⟩,rfl,λj r x hj=>by simp at hj⟩
 intro wA hA;have HA:=aC hA;clear hA i0 i1 i3 k0 s0 fz b9 hmk;go_wp2
 go_loopw[4] (λvi wr=>∃(q:Nat) (v:Value),vi=.int .i64 q/\q<=S.ins.length/\LJ w (.slice ai S.ins.length ci) (.slice ao no co) (.slice am nm' cm) S g3 (.slice ap no' co') (.slice aq nm2 cm2) q v wr) (λvi _=>(S.ins.length-intOf vi).toNat)
 case atStart=>exact⟨0,_,rfl,by omega,HA.out⟩
 obtain⟨q,v,rfl,hq,hj⟩:=hrel;have i0:=hj.box.lt;have i1:=hj.out.lt;have i3:=hj.st.lt;have k0:=hj.box.cell 0;obtain⟨-,s0,s1,s2⟩:=gN hj.st;simp only[yD,zH,zV]at k0;have iB:Bel w wr:=⟨hj.below⟩;have b0:=hj.below.size;have c0:∃a n c,v=.slice a n c:=by obtain⟨is,a6,_⟩:=hj.ins;exact a6.form
 obtain⟨av,nv,cv,rfl⟩:=c0;by_cases hlt:q<S.ins.length
 .obtain⟨x,hx⟩:∃x,S.ins[q]? =some x:=⟨_,gE hlt⟩
  obtain⟨bi,oi,ev,rfl,iI0,hone,hev,hci⟩:=HI.out.1 q x hx;obtain⟨iI,x0,x1,x2,x3⟩:=hci wr hj.below;have b6:=fun(ww:World) (hb:Bl w ww)=>aLC.2.2.1 _ rfl x.ents ev ww (hev.below hb (zC _)) (HI.out.2 x (mG hx));obtain⟨ea,ec,rfl,-⟩:=hev.at_;simp only[lM]at b6 x2;have g1:(q:Int)<S.ins.length:=by omega
  have HJ:=bG hj hx;clear hj hci hx hev;go_upto_region 8 with(go_at_call 37;refine(b6 _ (bel w _)).mono ?_;rintro e w3 ⟨hb3,v3,rfl,hL3⟩;obtain⟨g7,n7,hv7,hh7⟩:=hL3;rw[lM]at hv7;subst hv7;have H3:=aC hh7;clear hh7;obtain⟨p3,rfl⟩:=hb3.rest;clear hb3)
  refine aD (F:=λW=>LJ w (.slice (some ⟨bi,oi,none⟩) S.ins.length ci) (.slice ao no co) (.slice am nm' cm) S g3 (.slice ap no' co') (.slice aq nm2 cm2) q (.slice av nv cv) W/\Blk W wr.heap.size #[x.num,x.dir,.slice g7 x.ents.length n7,x.data] 68/\Lent w.heap.size W 97 2 (.slice g7 x.ents.length n7) (x.ents.map PEnt.cells) aIJ/\Below wr.heap.size wr W) ?_ ?_
  .refine⟨HJ.out.1.later (bel wr _),(Blk.new wr _ 68).junk _,?_,bel wr _⟩;have hL:Lent w.heap.size ((wr.alloc (.cells #[x.num,x.dir,.slice ea x.ents.length ec,x.data] 68)).junk p3) 97 2 (.slice g7 x.ents.length n7) (x.ents.map PEnt.cells) aIJ:=⟨g7,n7,by rw[lM],H3.out.1,H3.out.2.mono (by simp;omega)⟩
   have hB:=(Blk.new wr #[x.num,x.dir,.slice ea x.ents.length ec,x.data] 68).junk p3;have hK:Keep (λk=>k=wr.heap.size) ((wr.alloc (.cells #[x.num,x.dir,.slice ea x.ents.length ec,x.data] 68)).junk p3) (((wr.alloc (.cells #[x.num,x.dir,.slice ea x.ents.length ec,x.data] 68)).junk p3).setCell ⟨wr.heap.size,2,none⟩ (.slice g7 x.ents.length n7)):=Keep.setCell (S:=λk=>k=wr.heap.size) (p:=⟨wr.heap.size,2,none⟩) (Keep.refl _ _) (.inl rfl) _;have b7:=hL.keep hK (λg hg=>hL.ne_blk hB (by decide) hg);simp only[go_sem]at b7;exact b7
  intro wB hB;obtain⟨hjB,hr5,hL5,hbB⟩:=hB;generalize wr.heap.size=b5 at *;obtain⟨is,a6,hil,hir⟩:=hjB.ins;have i3:=hjB.st.lt;have s0:=hjB.st.cell 0;obtain⟨i5,r0,r1,r2,r3⟩:=bx4 hr5;simp only[yD,zH,zV]at s0;have c1:=hjB.below.size;have HB:=nV hjB a6 hil hir hL5;clear hjB a6 hil hir hL5 hr5 hbB;go_wp2_with(at_builtin;refine uP rfl _ _ rfl w.heap.size (.slice av nv cv) (.slice (some ⟨_,0,none⟩) 1 1) is [⟨x.num,x.dir,.slice g7 x.ents.length n7,x.data,rfl⟩] rfl (by go_simp) (HB.out.2.1.below (bel wB _)) (dZ (t:=68) (Blk.new _ _ _) rfl (by decide) (jV rfl)) (by have:=HB.out.2.2.1;simp;omega) (by simp;omega) ?_);intro v' w2 hG;obtain⟨ho2,hk2,-⟩:=hG;have a5:=HB.out.1;have a6:=HB.out.2.1;have a0:Blk w2 g3 #[.slice av nv cv,.slice ap no' co',.slice aq nm2 cm2] 26:=hk2.blk (a5.st.alloc _) (λhg=>a6.ne_blk a5.st (by decide) hg rfl);obtain⟨a',n',c',rfl⟩:=ho2.form;have t0:=a0.cell 0;simp only[yD,zH,zV]at t0;have fz:=a0.frozen 0;have c8:=a0.lt;have H2:=eK ho2 hk2 a0;clear ho2 hk2 a0 a5 a6 r0 r1 r2 r3 s0 s1 s2 x0 x1 x2 x3 k0;go_wp2;go_roundw
  case rel=>
   obtain⟨ho2,hk2,a0⟩:=H2.out;obtain⟨a5,a6,hil,hir,hL5⟩:=HB.out;have b1:Keep (λk=>(Value.slice av nv cv).ownBlock=some k\/k=g3) wB (w2.setCell g3 (.slice a' n' c')):=Keep.setCell (S:=λk=>(Value.slice av nv cv).ownBlock=some k\/k=g3) (p:=g3) ((((Keep.refl (λk=>(Value.slice av nv cv).ownBlock=some k) wB).alloc _).trans hk2 (λ_ _ h=>h)).mono (λi _ h=>.inl h)) (.inl (.inr rfl)) _;have c2:Keep (λk=>k=g3) w2 (w2.setCell g3 (.slice a' n' c')):=Keep.setCell (S:=λk=>k=g3) (p:=g3) (Keep.refl _ _) (.inl rfl) _;have c3:=a5.g3g;have c4:∀k,(Value.slice av nv cv).ownBlock=some k->w.heap.size<=k:=λk hk=>a6.ge hk;have b2:∀(e:TypeId) (k:Nat) (v:Value) (r m:List (List Value)),Lent w.heap.size wB e k v r m->e≠68->e≠26->Lent w.heap.size (w2.setCell g3 (.slice a' n' c')) e k v r m:=λe k v r m h h1 h2=>h.keep b1 (λg hg hh=>by
    rcases hh with hh|hh
    .obtain⟨g',cap,rfl,_,ho⟩:=h;rcases a6 with⟨e0,_⟩|⟨g0,cap0,arr0,e0,_,hbk0,_⟩
     .rw[e0]at hh;cases hh
     rw[e0]at hh;cases hh;exact ho.ne_blk hbk0 h1 hg rfl
    exact h.ne_blk a5.st h2 hg hh)
   refine⟨q+1,_,by go_num,by omega,a5.below.trans (b1.below c1 (λk hk hh=>by rcases hh with hh|hh;(have:=c4 k hh;omega);omega)),b1.blk a5.box (λhh=>by rcases hh with hh|hh;exact a6.ne_blk a5.box (by decide) hh rfl;omega),b1.blk a5.out (λhh=>by rcases hh with hh|hh;exact a6.ne_blk a5.out (by decide) hh rfl;omega),a0.set_ 0 _,c3,b2 _ _ _ _ _ a5.lo (by decide) (by decide),b2 _ _ _ _ _ a5.lm (by decide) (by decide),is++[⟨x.num,x.dir,.slice g7 x.ents.length n7,x.data,rfl⟩],by rw[yS];exact ho2.keep c2 (λg hg=>ho2.ne_blk a0 (by decide) hg),by rw[lP,hil];rfl,λj r y hj hy=>?_⟩;rcases Nat.lt_or_ge j is.length with hj2|hj2
   .rw[zZ hj2]at hj;obtain⟨a1,a2,a3,a4⟩:=hir j r y hj hy;exact⟨a1,a2,a3,b2 _ _ _ _ _ a4 (by decide) (by decide)⟩
   rw[yC hj2]at hj;have c5:j=q:=by obtain⟨h,_⟩:=gI.1 hj;simp at h;omega
   subst c5;rw[HJ.out.2]at hy;cases hy;rw[show j-is.length=0 by omega]at hj;cases hj;exact⟨rfl,rfl,rfl,b2 _ _ _ _ _ hL5 (by decide) (by decide)⟩
  simp[intOf];omega
 have g1:¬(q:Int)<S.ins.length:=by omega
 have c6:q=S.ins.length:=by omega
 subst c6;have f0:=hj.out.frozen 0;have f1:=hj.out.frozen 1;have f2:=hj.out.frozen 2;obtain⟨-,z0,z1,z2⟩:=gN hj.out;have HJ:=aC hj;clear hj;go_wp2_with fail;refine xD (v:=.agg #[.slice av nv cv,.slice ap no' co',.slice aq nm2 cm2]) (by unfold results;simp only[results10];go_simp) rfl ?_;have hj:=HJ.out;have hK:Keep (λk=>k=w.heap.size+1) wr (((wr.setCell ⟨w.heap.size+1,0,none⟩ (.slice av nv cv)).setCell ⟨w.heap.size+1,1,none⟩ (.slice ap no' co')).setCell ⟨w.heap.size+1,2,none⟩ (.slice aq nm2 cm2)):=Keep.setCell (S:=λk=>k=w.heap.size+1) (p:=⟨w.heap.size+1,2,none⟩) (Keep.setCell (S:=λk=>k=w.heap.size+1) (p:=⟨w.heap.size+1,1,none⟩) (Keep.setCell (S:=λk=>k=w.heap.size+1) (p:=⟨w.heap.size+1,0,none⟩) (Keep.refl _ _) (.inl rfl) _) (.inl rfl) _) (.inl rfl) _;exact⟨hj.below.trans (hK.below b0 (λi hi e=>by omega)),_,_,_,rfl,hj.lo.keep hK (λg hg=>hj.lo.ne_blk hj.out (by decide) hg),hj.lm.keep hK (λg hg=>hj.lm.ne_blk hj.out (by decide) hg),hj.ins.keep hK hj.out (by decide) (by decide) (zC _)⟩
end
structure LV (w:World) (c d:Array Value) (wr:World):Prop where
 below:Bl w wr
 b0:Blk wr w.heap.size c 26
 b1:Blk wr (w.heap.size+1) d 26
theorem LV.later {w:World} {c d:Array Value} {wr w':World} (h:LV w c d wr) (hb:Bl wr w'):LV w c d w':=⟨h.below.trans (hb.mono h.below.size),h.b0.below hb h.b0.lt.lt,h.b1.below hb h.b1.lt.lt⟩
theorem aXW (B:Nat) (iv' ov' mv' iv ov mv:Value) (S:PSt) (w:World) (hl:LS B w iv' ov' mv' S) (h:StRead w iv ov mv S) (hwf:S.wf):
 vR w 15 #[.agg #[iv',ov',mv'],.agg #[iv,ov,mv]] (.bool true):=by
 have a1:=fun(ww:World) (hb:Bl w ww)=>aLD.2.1 _ S.op ov' ov ww (hl.1.below hb) (h.1.below hb (zC _)) hwf.2.1;have a2:=fun(ww:World) (hb:Bl w ww)=>aLD.2.2.2 _ S.made mv' mv ww (hl.2.1.below hb) (h.2.1.below hb (zC _)) hwf.2.2.1;have a5:=hwf.1;have a0:∀x∈S.ins,x.ents.length<=1000000000:=λx hx=>(hwf.2.2.2.1 x hx).2.1;obtain⟨hlo,hlm,is,hio,hil,hir⟩:=hl;have a3:=h;obtain⟨ai,n0,ci,ao,no,co,am,nm',cm,e0,rfl,rfl⟩:=h.slices;subst e0;obtain⟨ax,cx,e1,hai⟩:=a3.ins_at2;cases e1;obtain⟨ap,no',co',rfl,-⟩:∃a n c,ov'=.slice a n c/\True:=by obtain⟨g,cap,rfl,_⟩:=hlo;exact⟨_,_,_,rfl,trivial⟩
 obtain⟨aq,nm2,cm2,rfl,-⟩:∃a n c,mv'=.slice a n c/\True:=by obtain⟨g,cap,rfl,_⟩:=hlm;exact⟨_,_,_,rfl,trivial⟩
 obtain⟨aj,cj,rfl,haj⟩:=hio.row.at_;rw[lM,hil];have a7:((S.ins.length:Int) !=S.ins.length)=false:=by simp
 have HI:=nV hai haj a0 hil hir;clear h a3 hwf hai haj a0 hil hir hio hlo hlm;unfold vR;go_in;go_upto_region 3 with(first|(go_at_call 48;refine aE (a1 _ (bel _ _)) λp=>?_)|(go_at_call 29;refine aE (a2 _ (bel _ _)) λp=>?_))
 refine aD (F:=λW=>LV w #[.slice aj S.ins.length cj,.slice ap no' co',.slice aq nm2 cm2] #[.slice ai S.ins.length ci,.slice ao no co,.slice am nm' cm] W) ⟨bel w _,aB (Blk.new w #[.slice aj S.ins.length cj,.slice ap no' co',.slice aq nm2 cm2] 26) (bel _ _),aB (Blk.new_i (w.alloc (.cells #[.slice aj S.ins.length cj,.slice ap no' co',.slice aq nm2 cm2] 26)) #[.slice ai S.ins.length ci,.slice ao no co,.slice am nm' cm] 26 (w.heap.size+1)) (bel _ _)⟩ ?_;intro wA hA;have HA:=aC hA;clear hA a1 a2;go_wp2
 go_loopw[5] (λvi wr=>∃q:Nat,vi=.int .i64 q/\q<=S.ins.length/\LV w #[.slice aj S.ins.length cj,.slice ap no' co',.slice aq nm2 cm2] #[.slice ai S.ins.length ci,.slice ao no co,.slice am nm' cm] wr) (λvi _=>(S.ins.length-intOf vi).toNat)
 case atStart=>exact⟨0,rfl,by omega,HA.out⟩
 obtain⟨q,rfl,hq,hv⟩:=hrel;have k0:=hv.b0.cell 0;have k1:=hv.b1.cell 0;simp only[yD,zH,zV]at k0 k1;have i0:=hv.b0.lt;have i1:=hv.b1.lt;have iB:Bel w wr:=⟨hv.below⟩;have HV:=aC hv;by_cases hlt:q<S.ins.length
 .obtain⟨x,hx⟩:∃x,S.ins[q]? =some x:=⟨_,gE hlt⟩
  obtain⟨r,hr⟩:∃r,is[q]? =some r:=⟨_,gE (by have:=HI.out.2.2.2.1;omega)⟩;obtain⟨bi,oi,ev,rfl,iI0,hone,hev,hci⟩:=HI.out.1 q x hx;obtain⟨iI,x0,x1,x2,x3⟩:=hci wr hv.below;obtain⟨r1,r2,r3,r4⟩:=HI.out.2.2.2.2 q r x hr hx;obtain⟨bj,oj,rfl,iJ0,iJ,hcj⟩:=HI.out.2.1 wr hv.below q r.cells (by rw[gM,hr];rfl);have y0:wr.cell? ⟨bj,oj+q*4+0,none⟩=some (.int .i64 x.num):=by rw[<-r1];exact hcj 0 _ rfl
  have y1:wr.cell? ⟨bj,oj+q*4+1,none⟩=some (.bool x.dir):=by rw[<-r2];exact hcj 1 _ rfl
  have y2:=hcj 2 _ rfl;have y3:wr.cell? ⟨bj,oj+q*4+3,none⟩=some (.string x.data):=by rw[<-r3];exact hcj 3 _ rfl
  rw[zN]at y0;have a6:=fun(ww:World) (hb:Bl w ww)=>aLD.2.2.1 _ x.ents r.ev ev ww (r4.below hb) (hev.below hb (zC _)) (HI.out.2.2.1 x (mG hx));have a4:=r.one;generalize r.ev=ev' at *;obtain⟨ex,nx,cx,rfl⟩:∃a n c,ev'=.slice a n c:=by obtain⟨g,cap,rfl,_⟩:=r4;exact⟨_,_,_,rfl⟩
  obtain⟨ea,en,ec,rfl⟩:∃a n c,ev=.slice a n c:=by obtain⟨a,cap,rfl,_⟩:=hev;exact⟨_,_,_,rfl⟩
  have g1:(q:Int)<S.ins.length:=by omega
  clear hci hcj hv hx hr r1 r2 r3 r4 hev;go_upto_region 6 with fail;go_cut [6,7] (λv6 v7 wx=>∃g6 g7,v6=.pointer (some ⟨g6,0,none⟩)/\v7=.pointer (some ⟨g7,0,none⟩)/\Bl wr wx/\Blk wx g6 #[x.num,x.dir,.slice ex nx cx,x.data] 68/\Blk wx g7 #[x.num,x.dir,.slice ea en ec,x.data] 68)
  case first=>
   go_region_held3 (λw'=>w'.cell? w.heap.size=some (.slice (some ⟨bj,oj,none⟩) S.ins.length cj)/\w'.cell? ⟨w.heap.size+1,0,none⟩=some (.slice (some ⟨bi,oi,none⟩) S.ins.length ci)/\w'.cell? ⟨bi,oi+q*4,none⟩=some (.int .i64 x.num)/\w'.cell? ⟨bi,oi+q*4+1,none⟩=some (.bool x.dir)/\w'.cell? ⟨bi,oi+q*4+2,none⟩=some (.slice ea en ec)/\w'.cell? ⟨bi,oi+q*4+3,none⟩=some (.string x.data)/\w'.cell? ⟨bj,oj+q*4,none⟩=some (.int .i64 x.num)/\w'.cell? ⟨bj,oj+q*4+1,none⟩=some (.bool x.dir)/\w'.cell? ⟨bj,oj+q*4+2,none⟩=some (.slice ex nx cx)/\w'.cell? ⟨bj,oj+q*4+3,none⟩=some (.string x.data))
    (first|(try dsimp only)<;>(repeat' apply And.intro)<;>go_simp)
    (fail)
   all_goals go_wp2_with fail
   all_goals go_meet
   all_goals refine⟨_,_,rfl,rfl,bel _ _,?_,?_⟩
   all_goals(repeat (first|exact Blk.new_i _ _ _ _|refine Blk.alloc ?_ _|refine Blk.drew ?_))
  obtain⟨g6,g7,rfl,rfl,hbw,h6,h7⟩:=hcut;have i6:=h6.lt;have i7:=h7.lt;have iC:Bel wr wc:=⟨hbw⟩;have a8:Bel w wc:=⟨HV.out.below.trans (hbw.mono HV.out.below.size)⟩;obtain⟨-,d0,d1,d2,d3⟩:=bx4 h6;obtain⟨-,f0,f1,f2,f3⟩:=bx4 h7;have HC:=aC hbw;clear h6 h7 hbw;go_wp2_with(go_at_call 49;refine aE (a6 _ (bel _ _)) λp=>?_);go_roundw
  case rel=>exact⟨q+1,by go_num,by omega,HV.out.later (HC.out.trans ((bel wc _).mono HC.out.size))⟩
  simp[intOf];omega
 have g1:¬(q:Int)<S.ins.length:=by omega
 go_wp2;go_ret;exact⟨rfl,HV.out.below.trans ((bel wr _).mono HV.out.below.size)⟩
theorem aWJ (us:List PKey) (B:Nat) (va:Value) (w:World) (h:OwnP B w 61 2 va (us.map PKey.cells)):
 Calls prog 16 #[va] w λe w'=>e=.returned (.tuple #[])/\Keep (λg=>va.ownBlock=some g) w w':=by
 rcases h with⟨rfl,h0⟩|⟨g,cap,arr,rfl,hg,hbk,hn,hm,hs,hr⟩
 .clear h0
  go_in;go_wp2
  go_loopw[2] (λvi wr=>vi=.int .i64 0/\Keep (λg=>(Value.slice none 0 0).ownBlock=some g) w wr) (λ_ _=>0)
  case atStart=>exact⟨rfl,Keep.refl _ _⟩
  obtain⟨rfl,hk⟩:=hrel;go_wp2_with fail;refine xE (results_none rfl _ _ _) rfl ?_;exact⟨rfl,hk⟩
 rw[lM]at hn |-;have a0:=hm;unfold maxLen at a0;have hz:∀j,j<us.length->∃z:Int,arr[j*2]? =some (.int .i64 z):=λj hj=>⟨us[j].num,hr j us[j].cells (by rw[gM,gE hj];rfl) 0 _ rfl⟩;have H0:=eK hbk hs hz;clear hr hbk hs hz;go_in;go_wp2
 go_loopw[2] (λvi wr=>∃(q:Nat) (arr:Array Value),vi=.int .i64 q/\q<=us.length/\Blk wr g arr 61/\arr.size=cap*2/\(∀j,j<us.length->∃z:Int,arr[j*2]? =some (.int .i64 z))/\Keep (λk=>(Value.slice g us.length cap).ownBlock=some k) w wr) (λvi _=>(us.length-intOf vi).toNat)
 case atStart=>exact⟨0,arr,rfl,by omega,H0.out.1,H0.out.2.1,H0.out.2.2,Keep.refl _ _⟩
 obtain⟨q,ar,rfl,hq,hb,hsz,hz,hk⟩:=hrel;by_cases hlt:q<us.length
 .obtain⟨z,hzq⟩:=hz q hlt;have e0:=(hb.cell (q*2)).trans hzq;have fz:=hb.frozen (q*2);have iG:=hb.lt;have g1:(q:Int)<us.length:=by omega
  have H1:=lE hb hsz hz hk;clear hb hsz hz hk hzq;go_wp2;go_roundw
  case rel=>
   refine⟨q+1,ar.setIfInBounds (q*2) _,by go_num,by omega,H1.out.1.set_ _ _,by rw[Array.size_setIfInBounds];exact H1.out.2.1,λj hj=>?_,H1.out.2.2.2.setCell (p:=⟨g,q*2,none⟩) (.inl rfl) _⟩;rw[yE];by_cases e:q*2=j*2
   .rw[zB e,zB (by rw[H1.out.2.1];omega)];exact⟨_,rfl⟩
   rw[zA e];exact H1.out.2.2.1 j hj
  simp[intOf];omega
 have g1:¬(q:Int)<us.length:=by omega
 have H1:=aC hk;clear hb hsz hz hk;go_wp2_with fail;refine xE (results_none rfl _ _ _) rfl ?_;exact⟨rfl,H1.out⟩
end Go.Proofs.YtmkapobnfigedaaGreatDoor
