/- A part of a proof of a law. Conditions: none. -/
import Derived.Test.YtmkapobnfigedaaGreatDoorDp10
set_option linter.unusedVariables false
set_option linter.unusedSimpArgs false
set_option maxRecDepth 100000
set_option maxHeartbeats 40000000
namespace Go.Proofs.YtmkapobnfigedaaGreatDoor
open Go.Proofs.Tryz List Go.RowKit
theorem Blk.apart {w:World} {b b' o:Nat} {c:Array Value} {t:TypeId} {v:Value} (h:Blk w b c t) (hne:b≠b'):Blk (w.setCell ⟨b',o,none⟩ v) b c t:=by unfold Blk;rw[Below.heap_setCell _ _ _ _ (by show b≠b';exact hne)];exact h
theorem aAH (s:ByteArray):0<=bA s/\bA s<8:=by unfold bA;omega
def kQ (prev:Option ByteArray) (s:ByteArray):Bool:=match prev with|some p=>!eA p s|none=>false
def gY (S:PSt):Option ByteArray->List Int->List PEnt->Bool
 |_,_,[]=>true
 | prev,sl,e::r=>
   if(bK e.name !=0)=true then false else if kQ prev e.name=true then false else if e.num=1 then false else if bP S e.num<0 then false else
   match sl[(bA e.name).toNat]? with
   |some x=>if 4<x+1 then false else gY S (some e.name) (sl.set (bA e.name).toNat (x+1)) r
   |none=>false
def aAI (S:PSt) (es:List PEnt):Bool:=gY S none [0,0,0,0,0,0,0,0] es
theorem aFA (s:ByteArray) (h:(bK s !=0)=false):s.size<=12:=by
 unfold bK at h;by_cases hl:12<s.size
 .rw[zB hl]at h;simp at h
 omega
theorem mk8 (u:World):(Instr.makeSlice 24 (.int .i64 8) (.int .i64 8)).run prog u=.ok (.slice u.heap.size 8 8) (u.alloc (.cells (([0,0,0,0,0,0,0,0]:List Int).map λx=>Value.int .i64 x).toArray 3)):=by obtain⟨i0,hi,hz0,hz1,hz2⟩:=info_parts aAS;have:=run_makeSlice (P:=prog) u 24 3 i0 _ underlying24 hi hz0 .i64 .i64 8 8 (by omega) (Int.le_refl _) (by rw[hz1];omega) (by rw[hz2];omega) (by omega);have e:(([0,0,0,0,0,0,0,0]:List Int).map λx=>Value.int .i64 x)=(List.replicate 8 (0:Int)).map λx=>Value.int .i64 x:=rfl;rw[e,<-aDK (λx=>Value.int .i64 x)];simpa[hz1,Value.cells]using this
theorem aQC (S:PSt) (iv ov mv:Value) (xn:Int) (xd:Bool) (xs:ByteArray) (ev:Value) (es:List PEnt) (w:World) (h:StRead w iv ov mv S) (hwf:S.wf) (he:RowAt w 2 ev (es.map PEnt.cells)) (hlen:es.length<=1000000000):
 vR w 61 #[.agg #[iv,ov,mv],.agg #[xn,xd,ev,xs]] (.bool (aAI S es)):=by
 have a3:∀n ww,Bl w ww->vR ww 85 #[.agg #[iv,ov,mv],.int .i64 n] (.int .i64 (bP S n)):=λn ww hb=>aBK S iv ov mv n ww (h.below hb (zC _)) hwf.1;obtain⟨ai,ni,ci,ao,no,co,am,nm,cm,rfl,rfl,rfl⟩:=h.slices;obtain⟨a,cap,rfl,hat⟩:=he.at_;have HA:=aC hat;clear h hwf he hat;rw[lM];have b9:=mk8;unfold aAI;obtain⟨R,hR⟩:=gAB (gY S none [0,0,0,0,0,0,0,0] es);rw[hR];have HR:=aC hR;clear hR;unfold vR;go_in;go_wp2
 go_loopw[6] (λi wr=>∃(q:Nat) (sl:List Int),i=.int .i64 q/\q<=es.length/\sl.length=8/\(∀(k:Nat) (x:Int),sl[k]? =some x->0<=x/\x<=4)/\(∀p,dY es q=some p->p.size<=12)/\gY S (dY es q) sl (es.drop q)=R/\Bl w wr/\Blk wr (w.heap.size+1+1) (sl.map λx=>.int .i64 x).toArray 3/\Blk wr w.heap.size #[.slice ai ni ci,.slice ao no co,.slice am nm cm] 26/\Blk wr (w.heap.size+1) #[xn,xd,.slice a es.length cap,xs] 68) (λi _=>(es.length-intOf i).toNat)
 case atStart=>
  refine⟨0,[0,0,0,0,0,0,0,0],rfl,by omega,rfl,?_,λp hp=>by simp[dY]at hp,HR.out,bel _ _,?_,?_,?_⟩
  .intro k x hk;have:=mG hk;simp at this;omega
  .exact Blk.new_i _ _ _ _
  .exact((Blk.new w _ 26).alloc _).alloc _
  exact(Blk.new_i _ _ _ _:Blk ((w.alloc _).alloc _) (w.heap.size+1) _ _).alloc _
 obtain⟨q,sl,rfl,hq,hsl,hsb,hpz,hre,hb,hblk,hbs,hbx⟩:=hrel;have iB:Bel w wr:=⟨hb⟩;have iL:=hblk.lt;have c4:=hbs.lt;have c5:=hbx.lt;have s0:=hbs.cell 0;have s1:=hbs.cell 1;have s2:=hbs.cell 2;have x2:=hbx.cell 2;simp at s0 s1 s2 x2;have HB:=eH hblk hbs hbx;clear hblk hbs hbx;by_cases hlt:q<es.length
 .obtain ⟨z,hz⟩:∃z,es[q]? =some z:=⟨_,gE hlt⟩
  obtain⟨b1,off,rfl,iG0,iG,hc⟩:=HA.out wr hb q z.cells (by rw[gM,hz];rfl);have c0:=hc 0 _ rfl;have c1:=hc 1 _ rfl;rw[zN]at c0;rw[cQ hz]at hre;unfold gY at hre;have a1:=λww=>aMS z.name ww;have a0:=λww hww=>a3 z.num ww hww;have HZ:=aC hz;have HS:=bJ hsl hsb;have a6:=aFA z.name;clear hc hz a3 hsl hsb;generalize hck:bK z.name=ck at a1 hre a6;rcases hn:(ck !=0)with _|_
  .have a6 :=a6 hn;rw[hn,zA (by decide)]at hre;have a4:=λww=>sU z.name (by omega) ww
   have b4:(q=0/\dY es q=none)\/∃(k:Nat) (y:PEnt),(q:Int)-1=k/\k<es.length/\0<(q:Int)/\dY es q=some y.name/\wr.cell? ⟨b1,off+k*2,none⟩=some (.string y.name):=by
    by_cases hq0:q=0
    .exact .inl ⟨hq0,by simp[dY,hq0]⟩
    obtain⟨y,hy⟩:∃y,es[q-1]? =some y:=⟨_,gE (by omega)⟩;refine .inr ⟨q-1,y,by omega,by omega,by omega,by simp[dY,hq0,hy],?_⟩;obtain⟨b2,off2,he2,_,_,hc2⟩:=HA.out wr hb (q-1) y.cells (by rw[gM,hy];rfl);cases he2;exact hc2 0 _ rfl
   obtain⟨bk,hbkv⟩:∃bk:Nat,bA z.name=bk:=⟨(bA z.name).toNat,by have:=aAH z.name;omega⟩;have b5:bk<8:=by have:=aAH z.name;omega
   have a9:(bk:Int)<8:=by omega
   obtain⟨x,hx⟩:∃x,sl[bk]? =some x:=⟨_,gE (by have:=HS.out.1;omega)⟩;obtain⟨hx0,hx4⟩:=HS.out.2 bk x hx;have c3:wr.cell? ⟨w.heap.size+1+1,bk,none⟩=some (.int .i64 x):=by rw[HB.out.1.cell bk];simp[hx]
   have fz:wr.frozen? ⟨w.heap.size+1+1,bk,none⟩=false:=HB.out.1.frozen bk;rw[hbkv,zJ,hx]at hre;simp only at hre;rw[hbkv]at a4;have ew:IntKind.i64.wrap (x+1)=x+1:=I64.wrap ⟨by omega,by omega⟩;have b0:∀(wz:World),Bel w wz->Blk wz (w.heap.size+1+1) ((sl.map λx=>Value.int .i64 x).toArray.setIfInBounds bk (.int .i64 (x+1))) 3->Blk wz w.heap.size #[.slice ai ni ci,.slice ao no co,.slice am nm cm] 26->Blk wz (w.heap.size+1) #[xn,xd,.slice (some ⟨b1,off,none⟩) es.length cap,xs] 68->¬4<x+1->gY S (some z.name) (sl.set bk (x+1)) (es.drop (q+1))=R->
    ∃(q':Nat) (sl:List Int),Value.int .i64 ((q:Int)+1)=.int .i64 q'/\q'<=es.length/\sl.length=8/\(∀(k:Nat) (x:Int),sl[k]? =some x->0<=x/\x<=4)/\(∀p,dY es q'=some p->p.size<=12)/\gY S (dY es q') sl (es.drop q')=R/\Bl w wz/\Blk wz (w.heap.size+1+1) (sl.map λx=>.int .i64 x).toArray 3/\Blk wz w.heap.size #[.slice ai ni ci,.slice ao no co,.slice am nm cm] 26/\Blk wz (w.heap.size+1) #[xn,xd,.slice (some ⟨b1,off,none⟩) es.length cap,xs] 68:=by
    intro wz hwz hbz hbz1 hbz2 hx5 hr;have hp:dY es (q+1)=some z.name:=by unfold dY;rw[zA (by omega),Nat.add_sub_cancel,HZ.out];rfl
    refine⟨q+1,sl.set bk (x+1),by rfl,by omega,by rw[yB];exact HS.out.1,?_,?_,?_,hwz.below,?_,hbz1,hbz2⟩
    .intro k u hu;by_cases hkb:bk=k
     .subst hkb;have b6:bk<sl.length:=by have:=HS.out.1;omega
      rw[zY b6]at hu;cases hu;omega
     rw[zX hkb]at hu;exact HS.out.2 k u hu
    .intro p hp2;rw[hp]at hp2;cases hp2;exact a6
    .rw[hp];exact hr
    rw[sA,<-map_set]at hbz;exact hbz
   have b3:=aC b0;have HP:=aC hpz;clear b0 hbkv hx hpz;rcases b4 with⟨rfl,hp⟩|⟨k,y,hk1,hkl,hq1,hp,c2⟩
   .rw [hp]at hre;simp only[Nat.zero_mul,zN]at c0 c1;have a5:kQ none z.name=false:=rfl;rw[a5,zA (by decide)]at hre;clear hp a5;by_cases h1:z.num=1
    .rw[zB h1]at hre;have a7:(z.num==1)=true:=by simpa using h1
     subst hre;clear h1;go_wp2;refine qR ?_
     repeat(go_big_quiet_step (first|(with_reducible first|refine cI (a1 _)|refine cJ (a1 _))|(with_reducible first|refine cI (a0 _ (bel _ _))|refine cJ (a0 _ (bel _ _)))))
     refine QN λp=>?_;go_wp2;go_ret;exact gAC
    rw [zA h1]at hre;have a7:(z.num==1)=false:=by simpa using h1
    generalize bP S z.num=fv at a0 hre;by_cases h2:fv<0
    .rw[zB h2]at hre;subst hre;go_wp2;refine qR ?_
     repeat(go_big_quiet_step (first|(with_reducible first|refine cI (a1 _)|refine cJ (a1 _))|(with_reducible first|refine cI (a0 _ (bel _ _))|refine cJ (a0 _ (bel _ _)))))
     refine QN λp=>?_;go_wp2;go_ret;exact gAC
    rw[zA h2]at hre;by_cases h3:4<x+1
    .rw[zB h3]at hre;subst hre;go_wp2;refine qR ?_
     repeat(go_big_quiet_step (first|(with_reducible first|refine cI (a1 _)|refine cJ (a1 _))|(with_reducible first|refine cI (a0 _ (bel _ _))|refine cJ (a0 _ (bel _ _)))))
     refine QN λp=>?_;go_wp2_with((go_at_call 87;refine aE (a4 _) λp=>?_));go_ret;exact gAC
    rw[zA h3]at hre;have a8:=aC hre;clear hre;go_wp2;refine qR ?_
    repeat(go_big_quiet_step (first|(with_reducible first|refine cI (a1 _)|refine cJ (a1 _))|(with_reducible first|refine cI (a0 _ (bel _ _))|refine cJ (a0 _ (bel _ _)))))
    refine QN λp=>?_;go_wp2_with((go_at_call 87;refine aE (a4 _) λp=>?_));go_roundw
    case rel=>exact b3.out _ ⟨bel _ _⟩ (((HB.out.1.set_ _ _).alloc _).junk _) (((Blk.apart HB.out.2.1 (by omega)).alloc _).junk _) (((Blk.apart HB.out.2.2 (by omega)).alloc _).junk _) h3 a8.out
    simp[intOf];omega
   have b7 :=HP.out y.name hp;rw[hp]at hre;have a5:kQ (some y.name) z.name=!eA y.name z.name:=rfl;rw[a5]at hre;clear hp a5;have b8:0<q:=by omega
   have c6:IntKind.i64.wrap (k:Int)=k:=I64.wrap ⟨by omega,by omega⟩;have a2:=λww=>aFC y.name z.name (by omega) ww;generalize eA y.name z.name=bl at a2 hre;rcases bl with _|_
   .rw[Bool.not_false,zB rfl]at hre;subst hre;go_wp2;refine qR ?_
    repeat(go_big_quiet_step (first|(with_reducible first|refine cI (a1 _)|refine cJ (a1 _))|(with_reducible first|refine cI (a2 _)|refine cJ (a2 _))|(with_reducible first|refine cI (a0 _ (bel _ _))|refine cJ (a0 _ (bel _ _)))))
    refine QN λp=>?_;go_wp2;go_ret;exact gAC
   rw [Bool.not_true,zA (by decide)]at hre;by_cases h1:z.num=1
   .rw[zB h1]at hre;have a7:(z.num==1)=true:=by simpa using h1
    subst hre;clear h1;go_wp2;refine qR ?_
    repeat(go_big_quiet_step (first|(with_reducible first|refine cI (a1 _)|refine cJ (a1 _))|(with_reducible first|refine cI (a2 _)|refine cJ (a2 _))|(with_reducible first|refine cI (a0 _ (bel _ _))|refine cJ (a0 _ (bel _ _)))))
    refine QN λp=>?_;go_wp2;go_ret;exact gAC
   rw [zA h1]at hre;have a7:(z.num==1)=false:=by simpa using h1
   generalize bP S z.num=fv at a0 hre;by_cases h2:fv<0
   .rw[zB h2]at hre;subst hre;go_wp2;refine qR ?_
    repeat(go_big_quiet_step (first|(with_reducible first|refine cI (a1 _)|refine cJ (a1 _))|(with_reducible first|refine cI (a2 _)|refine cJ (a2 _))|(with_reducible first|refine cI (a0 _ (bel _ _))|refine cJ (a0 _ (bel _ _)))))
    refine QN λp=>?_;go_wp2;go_ret;exact gAC
   rw[zA h2]at hre;by_cases h3:4<x+1
   .rw[zB h3]at hre;subst hre;go_wp2;refine qR ?_
    repeat(go_big_quiet_step (first|(with_reducible first|refine cI (a1 _)|refine cJ (a1 _))|(with_reducible first|refine cI (a2 _)|refine cJ (a2 _))|(with_reducible first|refine cI (a0 _ (bel _ _))|refine cJ (a0 _ (bel _ _)))))
    refine QN λp=>?_;go_wp2_with((go_at_call 87;refine aE (a4 _) λp=>?_));go_ret;exact gAC
   rw[zA h3]at hre;have a8:=aC hre;clear hre;go_wp2;refine qR ?_
   repeat(go_big_quiet_step (first|(with_reducible first|refine cI (a1 _)|refine cJ (a1 _))|(with_reducible first|refine cI (a2 _)|refine cJ (a2 _))|(with_reducible first|refine cI (a0 _ (bel _ _))|refine cJ (a0 _ (bel _ _)))))
   refine QN λp=>?_;go_wp2_with((go_at_call 87;refine aE (a4 _) λp=>?_));go_roundw
   case rel=>exact b3.out _ ⟨bel _ _⟩ (((HB.out.1.set_ _ _).alloc _).junk _) (((Blk.apart HB.out.2.1 (by omega)).alloc _).junk _) (((Blk.apart HB.out.2.2 (by omega)).alloc _).junk _) h3 a8.out
   simp[intOf];omega
  rw[hn,zB rfl]at hre;subst hre;go_wp2;refine qR ?_
  repeat(go_big_quiet_step (first|(with_reducible first|refine cI (a1 _)|refine cJ (a1 _))|(with_reducible first|refine cI (a0 _ (bel _ _))|refine cJ (a0 _ (bel _ _)))))
  refine QN λp=>?_;go_wp2;go_ret;exact gAC
 rw[zS (by omega)]at hre;obtain rfl:R=true:=by rw[<-hre];rfl
 go_wp2;go_ret;exact gAC
section
def TodoI (X:Nat->Prop) (w:World) (v:Value) (xs:List Int):Prop:=
 ∃g off cap arr,v=.slice (some ⟨g,off,none⟩) xs.length cap/\¬X g/\Blk w g arr 3/\xs.length<=cap/\off+cap<=arr.size/\∀(i:Nat) (x:Int),xs[i]? =some x->arr[off+i]? =some (.int .i64 x)
variable {v:Value} {w:World} {xs:List Int}
theorem TodoI.alloc {X:Nat->Prop} (h:TodoI X w v xs) (o:Obj):TodoI X (w.alloc o) v xs:=by obtain⟨g,off,cap,arr,e,hx,hb,r⟩:=h;exact⟨g,off,cap,arr,e,hx,hb.alloc o,r⟩
theorem TodoI.junk {X:Nat->Prop} (h:TodoI X w v xs) (o:Behind):TodoI X (w.junk o) v xs:=by obtain⟨g,off,cap,arr,e,hx,hb,r⟩:=h;exact⟨g,off,cap,arr,e,hx,hb.junk o,r⟩
theorem TodoI.far {X:Nat->Prop} (h:TodoI X w v xs) {a:Addr} (ha:X a.block) (u:Value):TodoI X (w.setCell a u) v xs:=by obtain⟨g,off,cap,arr,e,hx,hb,r⟩:=h;exact⟨g,off,cap,arr,e,hx,hb.far (λe=>hx (by rw[e];exact ha)) u,r⟩
theorem qN {P:Program} (hP:P.underlying 24=some (.slice 3)) (hI:(P.info? 3).map (λi=>(i.zero,i.size,i.bytes))=some (some (.int .i64 0),1,8))
 (w:World) {ops:Array Oper} {rest:List Oper} {o:Oper} {a:Act} {Q:Exit->Act->World->Prop} (hg:o.guard=none) (s x:Operand)
 (hop:o.op=Op.call { callee:=Callee.builtin Builtin.append,args:=#[s,x],argTypes:=#[24,24]}) (X:Nat->Prop) (v:Value) (xs:List Int) (hs:a.eval s=v) (ht:TodoI X w v xs) (hX:∀g,w.heap.size<=g->¬X g)
 (ad:Addr) (c:Nat) (k:Int) (hx:a.eval x=.slice (some ad) 1 c) (hc:w.cell? ad=some (.int .i64 k)) (hlen:xs.length<=1000000000000)
 (hK:∀v' w',TodoI X w' v' (xs++[k])->Keep (λg=>¬X g) w w'->wpList P ops Q rest (a.put o.dst v') w'):
 wpList P ops Q (o::rest) a w:=by
 obtain⟨i0,hi,hz0,hz1,hz2⟩:=info_parts hI;obtain⟨g,off,cap,arr,rfl,hnx,hb,hle,har,hel⟩:=ht;refine wpList_append_arg w hg s x 24 hop 3 i0 (.int .i64 0) 1 8 hP hi hz0 hz1 hz2 rfl (by decide) g off xs.length cap (xs.map λy:Int=>.int .i64 y) hs (by simp) ?_ ad 1 c [.int .i64 k] hx rfl ?_ ?_ ?_ (by unfold maxLen;omega) (by omega) ?_ ?_
 .intro j u hj;rw[gM]at hj;obtain⟨y,hy,rfl⟩:=Option.map_eq_some_iff.1 hj;rw[hb.cell];exact hel j y hy
 .intro j u hj;have:j=0:=by
   rcases j with _|j
   .rfl
   simp at hj
  subst this;simp only[zH,zF]at hj;subst hj;have e:ad.add 0=ad:=by unfold Addr.add;split<;>simp_all
  rw[e];exact hc
 .intro u hu;simp only[yZ]at hu;subst hu;rfl
 .intro hr j hj;simp only[zK,yX]at hj;obtain rfl:j=0:=by omega
  rw[hb.cell,hb.frozen,zN,Nat.mul_one];refine⟨?_,rfl⟩;rw[yA (by omega)];rfl
 .intro hr;refine hK _ _ ⟨g,off,cap,arr.setIfInBounds (off+xs.length) (.int .i64 k),by simp,hnx,?_,by simp;omega,by simp;omega,?_⟩ ?_
  .simp only[Nat.mul_one,World.setCells];exact hb.set_ _ _
  .intro i y hy;rw[yE];by_cases hi:i<xs.length
   .rw[zZ hi]at hy;rw[zA (by omega)];exact hel i y hy
   rw[yC (by omega)]at hy;have h0:i-xs.length=0:=by
    rcases hq:i-xs.length with _|j
    .rfl
    rw[hq]at hy;simp at hy
   rw[h0]at hy;simp only[zH,zF]at hy;subst hy;obtain rfl:i=xs.length:=by omega
   rw[zB rfl,zB (by omega)]
  simp only[Nat.mul_one,World.setCells];exact(Keep.refl _ w).setCell (p:=⟨g,_,none⟩) (.inl hnx) _
 intro hr v' w' hown hgr;refine hK _ _ ?_ ((Keep.refl _ w).grown hgr (by simp));obtain⟨hl,h0|⟨g',cap',cur,rfl,hge,hcur,hnc,hcm,hsz,htk⟩⟩:=hown
 .omega
 refine⟨g',0,cap',cur,by simp,hX g' hge,hcur,by simp;omega,by omega,?_⟩;intro i y hy;have a0:i<xs.length+1:=by obtain⟨h,_⟩:=gI.1 hy;simpa using h
 have h2:(cur.toList.take ((xs.length+1)*1))[i]? =some (.int .i64 y):=by
  rw[htk];have:(xs.map (λy:Int=>Value.int .i64 y)++[.int .i64 k])=(xs++[k]).map (λy:Int=>Value.int .i64 y):=by simp
  rw[this,gM,hy];rfl
 rw[yO,zB (by omega)]at h2;rw[zM];simpa using h2
def oH:List PIn->List Bool->Nat
 |x::r,b::fd=>(if b=true then 0 else x.ents.length)+oH r fd
 |_,_=>0
theorem aAJ:∀(xs:List PIn) (fd:List Bool) (k:Nat) (x:PIn),xs[k]? =some x->fd[k]? =some false->oH xs (fd.set k true)+x.ents.length=oH xs fd
 |[],_,_,_,h,_=>by simp at h
 |_::_,[],_,_,_,h=>by simp at h
 | y::r,b::fd,0,x,h1,h2=>by simp at h1 h2;subst h1;subst h2;simp[oH];omega
 | y::r,b::fd,k+1,x,h1,h2=>by have:=aAJ r fd k x (by simpa using h1) (by simpa using h2);simp only[sS,oH];omega
def kR (x:PIn):List Int:=if x.dir=true then x.ents.map PEnt.num else[]
def fZ (S:PSt):Nat->List Int->List Bool->List Bool
 |0,_,fd=>fd
 |_+1,[],fd=>fd
 | g+1,n::st,fd=>
   if bP S n<0 then fZ S g st fd
   else if fd.getD (bP S n).toNat true=true then fZ S g st fd
   else match S.ins[(bP S n).toNat]? with
    |some x=>fZ S g ((kR x).reverse++st) (fd.set (bP S n).toNat true)
    |none=>fd
def eT (S:PSt):List Bool:=fZ S (1+oH S.ins (List.replicate S.ins.length false)) [1] (List.replicate S.ins.length false)
theorem aMR (B:Nat):∀(xs:List PIn) (fd:List Bool),(∀x∈xs,x.ents.length<=B)->oH xs fd<=B*xs.length
 |[],_,_=>by simp[oH]
 |_::_,[],_=>by simp[oH]
 | x::r,b::fd,h=>by
   have h1:=aMR B r fd (λy hy=>h y (zL _ hy));have h2:=h x (by simp);have h3:B*(r.length+1)=B*r.length+B:=by rw[Nat.mul_add,Nat.mul_one]
   simp only[oH,zK];rw[h3];split<;>omega
theorem aQD (S:PSt) (iv ov mv:Value) (w:World) (h:StRead w iv ov mv S) (hwf:S.wf) (hsm:S.ins.length<=300):
 Calls prog 59 #[.agg #[iv,ov,mv]] w λe w'=>∃F:Nat,e=.returned (.slice F S.ins.length S.ins.length)/\Bl w w'/\RowAt w' 1 (.slice F S.ins.length S.ins.length) ((eT S).map aO):=by
 have b4:∀n ww,Bl w ww->vR ww 85 #[.agg #[iv,ov,mv],.int .i64 n] (.int .i64 (bP S n)):=λn ww hb=>aBK S iv ov mv n ww (h.below hb (zC _)) hwf.1;obtain⟨ai,ni,ci,ao,no,co,am,nm,cm,rfl,rfl,rfl⟩:=h.slices;obtain⟨a,cap,e1,hai⟩:=h.ins_at2;cases e1;have HI:=aC hai;have c5:=aC hwf.2.2.2.1;have b0:oH S.ins (List.replicate S.ins.length false)<=300000000000:=by have h1:=aMR 1000000000 S.ins (List.replicate S.ins.length false) (λx hx=>(hwf.2.2.2.1 x hx).2.1);have h2:1000000000*S.ins.length<=1000000000*300:=Nat.mul_le_mul_left _ hsm;omega
 clear h hai hwf;obtain⟨j0,ji,jz0,jz1,jz2⟩:=info_parts aMZ;have c6:∀u:World,(Instr.makeSlice 39 (.int .i64 S.ins.length) (.int .i64 S.ins.length)).run prog u=.ok (.slice (some ⟨u.heap.size,0,none⟩) S.ins.length S.ins.length) (u.alloc (.cells ((List.replicate S.ins.length false).map λx=>Value.bool x).toArray 4)):=λu=>by have:=run_makeSlice (P:=prog) u 39 4 j0 _ underlying39 ji jz0 .i64 .i64 S.ins.length S.ins.length (by omega) (Int.le_refl _) (by rw[jz1];omega) (by rw[jz2];omega) (by omega);rw[<-sQ (λx=>Value.bool x)];simpa[jz1,Value.cells]using this
 clear ji jz0 jz1 jz2;obtain⟨FF,hFF⟩:=gAB (eT S);rw[hFF];unfold eT at hFF;obtain⟨N,hN⟩:=gAB (1+oH S.ins (List.replicate S.ins.length false));rw[hN]at hFF;have c7:N<=400000000000:=by omega
 have b5:=bJ hFF hN;clear hFF hN b0;obtain⟨X,hX⟩:∃X:Nat->Prop,X=λg=>g<w.heap.size+1+1:=⟨_,rfl⟩;have a6:∀g,X g↔g<w.heap.size+1+1:=λg=>by rw[hX]
 have HX:=aC a6;clear a6;clear hX;go_in;go_wp2
 go_loopg [4] N (λgk td wr=>∃(st:List Int) (fd:List Bool),TodoI X wr td st.reverse/\fd.length=S.ins.length/\oH S.ins fd+st.length<=gk/\fZ S gk st fd=FF/\Bl w wr/\Blk wr w.heap.size #[.slice ai S.ins.length ci,.slice ao no co,.slice am nm cm] 26/\Blk wr (w.heap.size+1) (fd.map λx=>Value.bool x).toArray 4/\gk<=N)
 case atStart=>
  refine⟨[1],List.replicate S.ins.length false,?_,by simp,?_,b5.out.1,bel _ _,((Blk.new w _ 26).alloc _).alloc _,?_,zC _⟩
  .exact⟨w.heap.size+1+1,0,1,#[.int .i64 1],rfl,λe=>by have:=(HX.out _).1 e;omega,Blk.new_i _ _ _ _,by simp,by simp,λi x hx=>by
    rcases i with _|i
    .simp at hx;subst hx;rfl
    simp at hx⟩
  .have:=b5.out.2;simp only[zK,yX];omega
  have:=(Blk.new_i (w.alloc (.cells #[.slice ai S.ins.length ci,.slice ao no co,.slice am nm cm] 26)) (Array.replicate S.ins.length (.bool false)) 4 (w.heap.size+1)).alloc (.cells #[.int .i64 1] 3);simpa using this
 obtain⟨st,fd,hT,hfl,hpot,hre,hb,hbs,hbf,hgk⟩:=hrel
 rename World=>wq
 have iB:Bel w wq:=⟨hb⟩;have iL:=hbs.lt;have iF:=hbf.lt;obtain⟨-,s0,s1,s2⟩:=gR hbs;obtain⟨g,off,cap,arr,rfl,hng,hbk,hle,har,a3⟩:=hT;rcases st with _|⟨n,st⟩
 .have c8:fd=FF:=by rw[<-hre];rcases gk with _|gk<;>rfl
  subst c8;have HP:=eH hbf hfl hb;clear hbs hbf hre hpot a3;simp only[reverse_nil,yX]at *;go_wp2;go_ret;refine⟨_,rfl,bel _ _,?_⟩;have:=RowAt.of_blk (cap:=S.ins.length) (λx=>Value.bool x) fd HP.out.1 (by unfold maxLen;have:=HP.out.2.1;omega);rw[HP.out.2.1]at this;exact this
 rcases gk with _|gk
 .simp at hpot
 obtain⟨L,hL⟩:=gAB (st.length+1);have b6:(n::st).reverse.length=L:=by simp[hL]
 have hn:arr[off+st.length]? =some (.int .i64 n):=a3 st.length n (by simp);have a7:∀(i:Nat) (x:Int),st.reverse[i]? =some x->arr[off+i]? =some (.int .i64 x):=λi x hx=>a3 i x (by
  rw[reverse_cons,zZ (by obtain⟨h,_⟩:=gI.1 hx;exact h)];exact hx)
 rw[b6]at hle |-;have cg:wq.cell? ⟨g,off+st.length,none⟩=some (.int .i64 n):=by rw[hbk.cell];exact hn
 have iG:=hbk.lt;have b7:∀wr,Blk wr g arr 3->TodoI X wr (.slice (some ⟨g,off,none⟩) st.length cap) st.reverse:=λwr hbk=>⟨g,off,cap,arr,by simp,hng,hbk,by simp;omega,har,a7⟩;have d4:(L:Int)-1=st.length:=by omega
 have d5:st.length<L:=by omega
 have d6:0<L:=by omega
 have d7:(st.length:Int)<=400000000000:=by simp only[zK]at hpot;omega
 have w1:IntKind.i64.wrap (st.length:Int)=st.length:=I64.wrap ⟨by omega,by omega⟩;have c9:(st.length:Int)<=cap:=by omega
 have b8:st.length<=cap:=by omega
 have a0:=λww hww=>b4 n ww hww;have b1:=fE S n;rw[fZ]at hre;have d8:¬cap=0:=by omega
 have HB:=jj6 hbk hbs hbf hfl b7 hng;have b9:oH S.ins fd+st.length<=gk:=by simp only[zK]at hpot;omega
 clear hL a3 a7 hn b6 har hle hbk hbs hbf b7 hng hpot b4;generalize bP S n=K at hre a0 b1;go_upto_region 4 with fail;refine qR ?_
 repeat(go_big_quiet_step ((with_reducible first|refine cI (a0 _ (bel _ _))|refine cJ (a0 _ (bel _ _)))))
 refine QN λp=>?_;by_cases hK:K<0
 .rw[zB hK]at hre;have a2:=aC hre;clear hre b1;go_wp2
  go_roundg gk
  case rel=>exact⟨st,fd,HB.out.2.2.2.2.1 _ (HB.out.1.junk _),HB.out.2.2.2.1,by omega,a2.out,bel _ _,HB.out.2.1.junk _,HB.out.2.2.1.junk _,by omega⟩
  omega
 rw [zA hK]at hre;obtain⟨k,rfl⟩:∃k:Nat,K=k:=⟨K.toNat,by omega⟩;have hk:k<S.ins.length:=by omega
 obtain⟨x,hx⟩:=gAA hk;obtain⟨y,hy⟩:∃y,fd[k]? =some y:=⟨_,gE (by have:=HB.out.2.2.2.1;omega)⟩;have c3:wq.cell? ⟨w.heap.size+1,k,none⟩=some (.bool y):=by rw[HB.out.2.2.1.cell k];simp[hy]
 have f3:wq.frozen? ⟨w.heap.size+1,k,none⟩=false:=HB.out.2.2.1.frozen k;rw[zJ,zG,hy,Option.getD_some,hx]at hre;simp only at hre;have d9:(k:Int)<S.ins.length:=by omega
 clear b1 hK;rcases y with _|_
 .rw [zA (by decide)]at hre;have b2:=aAJ S.ins fd k x hx hy;obtain⟨bi,oi,ev,rfl,iI0,hoi,her,hci⟩:=HI.out k x hx;obtain⟨iI,x0,x1,x2,x3⟩:=hci wq hb;have a3:=(c5.out x (mG hx)).2.1;obtain⟨ae,ce,rfl,hae⟩:=her.at_;rw[lM]at hci x2;obtain⟨xn,xd,xe,xs⟩:=x;simp only at x1 x2 hae hci a3 b2;have HC:=bJ hae hci;have a2:=bJ hre b2;clear her hoi hae hci x0 x1 x2 x3 hx hy hre b2
  go_upto_region 9 with fail;have d0:w.heap.size<=wq.heap.size:=hb.size;have c0:TodoI X (((wq.setCell ⟨w.heap.size+1,k,none⟩ (.bool true)).junk p)) (.slice (some ⟨g,off,none⟩) st.length cap) st.reverse:=HB.out.2.2.2.2.1 _ ((HB.out.1.far (λe=>HB.out.2.2.2.2.2 ((HX.out g).2 (by simp at e;omega))) _).junk _);have e0:BlockGe (w.heap.size+1) w:=⟨by omega⟩;have a4:Blk ((wq.setCell ⟨w.heap.size+1,k,none⟩ (.bool true)).junk p) (w.heap.size+1) ((fd.set k true).map λx=>Value.bool x).toArray 4:=by have:=(HB.out.2.2.1.set_ k (.bool true)).junk p;rw[sA,<-map_set (f:=λx=>Value.bool x)]at this;exact this
  have a1:Blk ((wq.setCell ⟨w.heap.size+1,k,none⟩ (.bool true)).junk p) w.heap.size #[.slice (some ⟨bi,oi,none⟩) S.ins.length ci,.slice ao no co,.slice am nm cm] 26:=(HB.out.2.1.far (by show _≠_;simp) _).junk p;have a5:Bl w ((wq.setCell ⟨w.heap.size+1,k,none⟩ (.bool true)).junk p):=bel _ _;have H2:=mJ c0 a5 a1 a4;clear c0 a4 a1 a5 d0
  go_loopw[4,6] (λv4 i wr=>∃(j:Nat),i=.int .i64 j/\j<=xe.length/\(xd=false->j=0)/\TodoI X wr v4 (st.reverse++(xe.take j).map PEnt.num)/\Bl w wr/\Blk wr w.heap.size #[.slice (some ⟨bi,oi,none⟩) S.ins.length ci,.slice ao no co,.slice am nm cm] 26/\Blk wr (w.heap.size+1) ((fd.set k true).map λx=>Value.bool x).toArray 4) (λ_ i _=>(xe.length-intOf i).toNat)
  case atStart=>exact⟨0,rfl,by omega,λ_=>rfl,by simpa using H2.out.1,H2.out.2.1,H2.out.2.2.1,H2.out.2.2.2⟩
  clear s0 s1 s2 iB iL iF iI cg c3 f3 iG;obtain⟨j,rfl,hj,hjd,hT,a5,a1,a4⟩:=hrel;have iB:Bel w wr:=⟨a5⟩;have iL:=a1.lt;have iF:=a4.lt;have s0:=a1.cell 0;simp at s0;obtain⟨iI,x0,x1,x2,x3⟩:=HC.out.2 wr a5;clear x0 x3;obtain⟨g2,off2,cap2,arr2,rfl,-⟩:=id hT;have c1:(st.reverse++(xe.take j).map PEnt.num).length<=1000000000000:=by rw[lP,lM,zU,length_reverse];omega
  generalize hxl:(st.reverse++(xe.take j).map PEnt.num).length=xl at hT c1 |-;have a8:∀(wz:World),Bel w wz->(xd=false\/j=xe.length)->TodoI X wz (.slice (some ⟨g2,off2,none⟩) xl cap2) (st.reverse++(xe.take j).map PEnt.num)->Blk wz w.heap.size #[.slice (some ⟨bi,oi,none⟩) S.ins.length ci,.slice ao no co,.slice am nm cm] 26->Blk wz (w.heap.size+1) ((fd.set k true).map λx=>Value.bool x).toArray 4->
   ∃(st':List Int) (fd':List Bool),TodoI X wz (.slice (some ⟨g2,off2,none⟩) xl cap2) st'.reverse/\fd'.length=S.ins.length/\oH S.ins fd'+st'.length<=gk/\fZ S gk st' fd'=FF/\Bl w wz/\Blk wz w.heap.size #[.slice (some ⟨bi,oi,none⟩) S.ins.length ci,.slice ao no co,.slice am nm cm] 26/\Blk wz (w.heap.size+1) (fd'.map λx=>Value.bool x).toArray 4/\gk<=N:=by
   intro wz i1 hc h1 h2 h3;have c2:(xe.take j).map PEnt.num=kR ⟨xn,xd,xe,xs⟩:=by
    rcases hc with rfl|rfl
    .rw[hjd rfl];rfl
    rcases xd with _|_
    .rw[hjd rfl];rfl
    simp[kR]
   have e2:(kR ⟨xn,xd,xe,xs⟩).length<=xe.length:=by rw[<-c2];simp;omega
   refine⟨(kR ⟨xn,xd,xe,xs⟩).reverse++st,fd.set k true,?_,by rw[yB];exact HB.out.2.2.2.1,?_,a2.out.1,i1.below,h2,h3,by omega⟩
   .have e:((kR ⟨xn,xd,xe,xs⟩).reverse++st).reverse=st.reverse++(xe.take j).map PEnt.num:=by rw[c2];simp
    rw[e];exact h1
   have:=a2.out.2;rw[lP,length_reverse];omega
  have HE:=aC a8;have HT:=eH hT a1 a4;have a6:∀(wz:World),Bel w wz->BlockLt (w.heap.size+1) wz->∀g,wz.heap.size<=g->¬X g:=by intro wz i1 i2 g hg hx;have:=(HX.out g).1 hx;have:=i2.lt;omega
  have d1:=aC a6;have d2:=aC hxl;clear a8 hT a1 a4 a6 hxl;rcases xd with _|_
  .obtain rfl:=hjd rfl;by_cases h0:0<xe.length
   .go_wp2
    go_roundg gk
    case rel=>exact HE.out _ ⟨bel _ _⟩ (by simp) HT.out.1 HT.out.2.1 HT.out.2.2
    omega
   go_wp2
   go_roundg gk
   case rel=>exact HE.out _ ⟨bel _ _⟩ (by simp) HT.out.1 HT.out.2.1 HT.out.2.2
   omega
  by_cases hlj:j<xe.length
  .obtain⟨z,hz⟩:=gAA hlj
   obtain⟨be,oe,rfl,iE0,iE,hce⟩:=HC.out.1 wr a5 j z.cells (by rw[gM,hz];rfl);have e1:=hce 1 _ rfl;have c4:(xe.take (j+1)).map PEnt.num=(xe.take j).map PEnt.num++[z.num]:=by rw[take_add_one,hz];simp
   have HK:=aC c4;clear hce hz c4;have b3:(j:Int)<xe.length:=by omega
   go_wp2_with(at_builtin;refine qN (by kernel_rfl) aAS _ rfl (.tmp 58) (.tmp 69) rfl X _ (st.reverse++(xe.take j).map PEnt.num) rfl (HT.out.1.alloc _) (d1.out _ ⟨bel _ _⟩ inferInstance) _ _ z.num rfl (by go_simp) (by rw[d2.out];exact c1) ?_);intro v' w' hT3 hkp3;have a9:=bJ hT3 hkp3;obtain⟨g3,off3,cap3,arr3,rfl,-⟩:=id hT3;clear hT3 hkp3;go_wp2;go_roundw
   case rel=>
    refine⟨j+1,by rfl,by omega,(λh=>by cases h),?_,(bel w _).trans (a9.out.2.below (bel w _).size (λi hi hn=>hn ((HX.out i).2 (by omega)))),?_,?_⟩
    .rw[HK.out];simpa using a9.out.1
    .exact a9.out.2.blk (HT.out.2.1.alloc _) (λhn=>hn ((HX.out _).2 (by omega)))
    exact a9.out.2.blk (HT.out.2.2.alloc _) (λhn=>hn ((HX.out _).2 (by omega)))
   simp[intOf];omega
  have d3:j=xe.length:=by omega
  have b3:¬(j:Int)<xe.length:=by omega
  go_wp2
  go_roundg gk
  case rel=>have hz:=HE.out _ ⟨bel _ _⟩ (.inr d3) HT.out.1 HT.out.2.1 HT.out.2.2;first|exact hz|simpa using hz
  omega
 rw[zB rfl]at hre;have a2:=aC hre;clear hre hx hy;go_wp2
 go_roundg gk
 case rel=>exact⟨st,fd,HB.out.2.2.2.2.1 _ (HB.out.1.junk _),HB.out.2.2.2.1,by omega,a2.out,bel _ _,HB.out.2.1.junk _,HB.out.2.2.1.junk _,by omega⟩
 omega
end
end Go.Proofs.YtmkapobnfigedaaGreatDoor
