/- A part of a proof of a law. Conditions: none. -/
import Derived.Test.YtmkapobnfigedaaGreatDoorDk01
set_option linter.unusedVariables false
set_option linter.unusedSimpArgs false
set_option maxRecDepth 100000
set_option maxHeartbeats 8000000
namespace Go.Proofs.YtmkapobnfigedaaGreatDoor
open Go.Proofs.Tryz List Go.RowKit
section
variable {e:PEnt} {es:List PEnt} {m ns:List Int} {q:Nat} {w:World}
theorem StRead.ins_at2 {iv ov mv:Value} {S:PSt} (h:StRead w iv ov mv S):
 ∃a cap,iv=.slice a S.ins.length cap/\∀(q:Nat) (x:PIn),S.ins[q]? =some x->∃b off ev,a=some ⟨b,off,none⟩/\BlockLt b w/\ev.oneCell'=true/\RowAt w 2 ev (x.ents.map PEnt.cells)/\
  ∀wr,Bl w wr->BlockLt b wr/\wr.cell? ⟨b,off+q*4,none⟩=some (.int .i64 x.num)/\wr.cell? ⟨b,off+q*4+1,none⟩=some (.bool x.dir)/\wr.cell? ⟨b,off+q*4+2,none⟩=some ev/\wr.cell? ⟨b,off+q*4+3,none⟩=some (.string x.data):=by
 obtain⟨_,_,is,h3,h4,h5⟩:=h;obtain⟨a,cap,rfl,hat⟩:=h3.at_;rw[lM];refine⟨a,cap,by rw[h4],λq x hx=>?_⟩;obtain⟨hq,_⟩:=gI.1 hx;have hr:is[q]? =some is[q]:=gE (by omega);have hm:(is.map IRec.cells)[q]? =some is[q].cells:=by rw[gM,hr];rfl
 obtain⟨b,off,rfl,i1,_,_⟩:=hat w (Below.refl _ _) q is[q].cells hm;obtain⟨e1,e2,e3,e4⟩:=h5 q _ x hr hx;refine⟨b,off,is[q].ev,rfl,i1,is[q].one,e4,λwr hb=>?_⟩;obtain⟨b',off',e,_,i2,hc⟩:=hat wr hb q is[q].cells hm;cases e;refine⟨i2,?_,?_,?_,?_⟩
 .rw[<-e1];exact hc 0 _ rfl
 .rw[<-e2];exact hc 1 _ rfl
 .exact hc 2 _ rfl
 rw[<-e3];exact hc 3 _ rfl
def bS (x:Bool):List Value:=[.bool x]
def lJ (m:List Int) (k:Int):List Int:=m.set k.toNat (wrap64 (m.getD k.toNat 0+1))
def mW (ns:List Int) (m:List Int) (es:List PEnt):List Int:=es.foldl (λm e=>lJ m (aJ ns e.num)) m
def uQ (ns:List Int) (m:List Int) (xs:List PIn):List Int:=xs.foldl (λm x=>mW ns m x.ents) m
def mX (ns:List Int) (s:List Nat × List Bool) (e:PEnt):List Nat × List Bool:=
 if s.2.getD (aJ ns e.num).toNat false=true then s else(s.1++[(aJ ns e.num).toNat],s.2.set (aJ ns e.num).toNat true)
def cZ (ns:List Int) (s:List Nat × List Bool) (es:List PEnt):List Nat × List Bool:=es.foldl (mX ns) s
def bfs (ns:List Int) (ins:List PIn):Nat->List Nat->List Bool->List Bool
 |0,_,fd=>fd
 |_+1,[],fd=>fd
 |b+1,k::td,fd=>let r:=cZ ns (td,fd) (match ins[k]? with|some x=>x.ents|none=>[]);bfs ns ins b r.1 r.2
def fB (S:PSt):List Int:=uQ S.nums (List.replicate S.ins.length 0) S.ins
def eG (S:PSt):List Bool:=bfs S.nums S.ins S.ins.length [0] ((List.replicate S.ins.length false).set 0 true)
theorem xM (m:List Int) (k:Int):(lJ m k).length=m.length:=by simp[lJ]
theorem aCM (ns:List Int) (es:List PEnt):∀m,(mW ns m es).length=m.length:=by
 induction es with
 |nil=>intro m;rfl
 |cons e es ih=>intro m;show(mW ns (lJ m (aJ ns e.num)) es).length=_;rw[ih,xM]
theorem aOO (ns:List Int) (xs:List PIn):∀m,(uQ ns m xs).length=m.length:=by
 induction xs with
 |nil=>intro m;rfl
 |cons x xs ih=>intro m;show(uQ ns (mW ns m x.ents) xs).length=_;rw[ih,aCM]
theorem aJH (h:es[q]? =some e):mW ns m (es.drop q)=mW ns (lJ m (aJ ns e.num)) (es.drop (q+1)):=by rw[cO h];rfl
theorem aJI {xs:List PIn} {x:PIn} (h:xs[q]? =some x):uQ ns m (xs.drop q)=uQ ns (mW ns m x.ents) (xs.drop (q+1)):=by rw[cO h];rfl
theorem aJJ {s:List Nat × List Bool} (h:es[q]? =some e):cZ ns s (es.drop q)=cZ ns (mX ns s e) (es.drop (q+1)):=by rw[cO h];rfl
theorem RowAt.of_blk {α:Type} {b cap:Nat} {t:TypeId} (f:α->Value) (xs:List α) (h:Blk w b (xs.map f).toArray t) (hm:xs.length<=maxLen):RowAt w 1 (.slice b xs.length cap) (xs.map λx=>[f x]):=by
 refine⟨_,_,by rw[lM],by rw[lM];exact hm,λ_=>⟨b,0,rfl,h.lt.lt,λq cs hq t u hu=>?_⟩⟩;rw[gM]at hq;obtain⟨x,hx,rfl⟩:=Option.map_eq_some_iff.1 hq;rcases t with _|t
 .simp only[zH,zF]at hu;subst hu;rw[h.cell];simp[hx]
 simp at hu
theorem count_set (l:List Bool) (f:Nat) (h:l[f]? =some false):(l.set f true).count false+1=l.count false:=by
 obtain⟨hf,he⟩:=gI.1 h;rw[List.count_set (h:=hf)];have hm:false∈l:=by rw[<-he];exact getElem_mem hf
 have:0<l.count false:=count_pos_iff.2 hm;simp[he];omega
theorem aOP (ns:List Int) (s:List Nat × List Bool) (e:PEnt):(mX ns s e).2.length=s.2.length:=by
 unfold mX;split
 .rfl
 simp
theorem aCN (ns:List Int) (es:List PEnt):∀s,(cZ ns s es).2.length=s.2.length:=by
 induction es with
 |nil=>intro s;rfl
 |cons e es ih=>intro s;show(cZ ns (mX ns s e) es).2.length=_;rw[ih,aOP]
theorem sH {α:Type} (f:α->Value) (z:α) (n:Nat):madeCells #[f z] n=((List.replicate n z).map f).toArray:=by apply Array.toList_inj.1;rw[toList_madeCells_one];simp
theorem aOQ (b : Nat) (S:PSt) (w:World) (h:SP w b S) (hwf:S.wf) (hpos:0<S.ins.length) (hsm:S.ins.length<=1000) (hfind:∀x∈S.ins,∀e∈x.ents,0<=aJ S.nums e.num):
 Calls prog 71 #[.pointer b] w λe w'=>∃mv fv,e=.returned (.tuple #[mv,fv])/\Bl w w'/\RowAt w' 1 mv ((fB S).map aL)/\RowAt w' 1 fv ((eG S).map bS):=by
 have hf:∀ww,Bl w ww->∀n,vR ww 102 #[.pointer b,.int .i64 n] (.int .i64 (aJ S.nums n)):=
  λww hb n=>jM b S n ww (h.below hb (zC _)) hwf
 obtain⟨hl,iv,ov,mv,c0,c1,c2,hr⟩:=h;have ib:BlockLt b w:=⟨hl⟩;have c8:=hwf.1;have b3:=aC hwf.2.2.2.1;obtain⟨ai,capi,rfl,hati⟩:=hr.ins_at2;have HI:=aC hati;clear hr hwf hati c1 c2;obtain⟨i0,hi,hz0,hz1,hz2⟩:=info_parts aAB;obtain⟨j0,ji,jz0,jz1,jz2⟩:=info_parts aUD;have e2:∀u:World,(Instr.makeSlice 24 (.int .i64 S.ins.length) (.int .i64 S.ins.length)).run prog u=.ok (.slice (some ⟨u.heap.size,0,none⟩) S.ins.length S.ins.length) (u.alloc (.cells ((List.replicate S.ins.length (0:Int)).map λx=>Value.int .i64 x).toArray 3)):=λu=>by have:=run_makeSlice (P:=prog) u 24 3 i0 _ underlying24 hi hz0 .i64 .i64 S.ins.length S.ins.length (by omega) (Int.le_refl _) (by rw[hz1];omega) (by rw[hz2];omega) (by omega);rw[<-sH (λx=>Value.int .i64 x)];simpa[hz1,Value.cells]using this
 have c9:∀u:World,(Instr.makeSlice 39 (.int .i64 S.ins.length) (.int .i64 S.ins.length)).run prog u=.ok (.slice (some ⟨u.heap.size,0,none⟩) S.ins.length S.ins.length) (u.alloc (.cells ((List.replicate S.ins.length false).map λx=>Value.bool x).toArray 4)):=λu=>by have:=run_makeSlice (P:=prog) u 39 4 j0 _ underlying39 ji jz0 .i64 .i64 S.ins.length S.ins.length (by omega) (Int.le_refl _) (by rw[jz1];omega) (by rw[jz2];omega) (by omega);rw[<-sH (λx=>Value.bool x)];simpa[jz1,Value.cells]using this
 obtain⟨MM,hMM⟩:∃MM,fB S=MM:=⟨_,rfl⟩;obtain⟨FF,hFF⟩:∃FF,eG S=FF:=⟨_,rfl⟩;rw[hMM,hFF];have b4:=bG hMM hFF;clear hMM hFF;go_in;go_upto_region 1 with fail;go_cut [4,5] (λs4 s5 wx=>∃M F:Nat,s4=.slice M S.ins.length S.ins.length/\s5=.slice F S.ins.length S.ins.length/\Bl w wx/\Blk wx M (Array.replicate S.ins.length (.int .i64 0)) 3/\Blk wx F (Array.replicate S.ins.length (.bool false)) 4/\M≠F/\w.heap.size<=M/\w.heap.size<=F)
 case first=>
  go_region_held3 (λw'=>w'.cell? b=some (.slice ai S.ins.length capi))
   (first|(try dsimp only)<;>go_simp)
   (fail)
  all_goals go_wp2_with fail
  all_goals go_meet
  all_goals(refine ⟨_,_,rfl,rfl,bel _ _,?_,?_,by omega,by omega,by omega⟩)
  all_goals(repeat (first|exact Blk.new_i _ _ _ _|refine Blk.alloc ?_ _|refine Blk.drew ?_))
 obtain⟨M,F,rfl,rfl,hb,hM,hF,hMF,hMg,hFg⟩:=hcut;have iM:=hM.lt;have iF:=hF.lt;have iB:Bel w wc:=⟨hb⟩;have e3:BlockLt b wc:=⟨by have:=hb.size;have:=ib.lt;omega⟩;have e4:wc.cell? b=some (.slice ai S.ins.length capi):=(hb.cell (p:=b) ib.lt).trans c0;have b5:Blk wc M ((List.replicate S.ins.length (0:Int)).map λx=>Value.int .i64 x).toArray 3:=by simpa using hM
 have b6:Blk wc F ((List.replicate S.ins.length false).map λx=>Value.bool x).toArray 4:=by simpa using hF
 have b7:=bG b5 b6;have HG:=eK hMF hMg hFg;have d0:=aC c0;clear hM hF b5 b6 hMF hMg hFg c0;go_wp2
 go_loopw[32] (λi wr=>∃(q:Nat) (m:List Int),i=.int .i64 q/\q<=S.ins.length/\m.length=S.ins.length/\uQ S.nums m (S.ins.drop q)=MM/\Bl w wr/\Blk wr M (m.map λx=>Value.int .i64 x).toArray 3/\Blk wr F ((List.replicate S.ins.length false).map λx=>Value.bool x).toArray 4) (λi _=>(S.ins.length-intOf i).toNat)
 case atStart=>exact⟨0,List.replicate S.ins.length 0,rfl,by omega,by simp,b4.out.1,bel _ _,b7.out.1,b7.out.2⟩
 obtain⟨q,m,rfl,hq,hml,a1,hbr,hMr,hFr⟩:=hrel
 rename World=>wo
 have d1:Bel w wo:=⟨hbr⟩;have d2:=hMr.lt;have d3:=hFr.lt;have d4:BlockLt b wo:=⟨by have:=hbr.size;have:=ib.lt;omega⟩;by_cases hlt:q<S.ins.length
 .obtain⟨z,hz⟩:∃z,S.ins[q]? =some z:=⟨_,gE hlt⟩
  rw[aJI hz]at a1;obtain⟨bi,off,ev1,rfl,iG0,ho1,hev,hcl⟩:=HI.out q z hz;obtain⟨iGr,y0,y1,y2,y3⟩:=hcl wo hbr;obtain⟨hez,_⟩:=(b3.out z (mG hz)).2;have b8:=hfind z (mG hz);obtain⟨ae,ce,rfl,hat⟩:=hev.at_;rw[lM]at y2;have HE:=aC hat;have HR:=lE a1 hml hMr hFr;have HZ:=aC b8;clear hat hev hz a1 hMr hFr hml b8 ho1 hcl;go_wp2
  go_loopw[39] (λi w2=>∃(k:Nat) (m2:List Int),i=.int .i64 k/\k<=z.ents.length/\m2.length=S.ins.length/\mW S.nums m2 (z.ents.drop k)=mW S.nums m z.ents/\Keep (λg=>g=M) wo w2/\Blk w2 M (m2.map λx=>Value.int .i64 x).toArray 3) (λi _=>(z.ents.length-intOf i).toNat)
  case atStart=>exact⟨0,m,rfl,by omega,HR.out.2.1,rfl,((Keep.refl _ _).alloc _),HR.out.2.2.1.alloc _⟩
  obtain⟨k,m2,rfl,hk,hm2,hre2,hkp,hM2⟩:=hrel;have b0:Bl w wr:=hbr.trans (hkp.below hbr.size (λi hi e=>by have:=HG.out.2.1;omega));have e5:Bel w wr:=⟨b0⟩;have e6:=hM2.lt;have e7:BlockLt b wr:=⟨by have:=b0.size;have:=ib.lt;omega⟩;by_cases hlk:k<z.ents.length
  .obtain⟨e,he⟩:∃e,z.ents[k]? =some e:=⟨_,gE hlk⟩
   rw[aJH he]at hre2;obtain⟨be,offe,rfl,iE0,iE,hce⟩:=HE.out wr b0 k e.cells (by rw[gM,he];rfl);have e0:=hce 0 _ rfl;have e1:=hce 1 _ rfl;rw[zN]at e0;have a3:∀ww,Bl w ww->Calls prog 102 #[.pointer b,e.num] ww _:=λww hww=>hf ww hww e.num;have a4:=cW S.nums e.num;have a8:S.nums.length=S.ins.length:=by unfold PSt.nums;rw[lM]
   have a5:=HZ.out e (mG he);generalize aJ S.nums e.num=fv at a3 a4 a5 hre2;obtain⟨f,rfl⟩:∃f:Nat,fv=f:=⟨fv.toNat,by omega⟩;have a6:f<S.ins.length:=by omega
   obtain⟨x,hx⟩:∃x,m2[f]? =some x:=⟨_,gE (by omega)⟩;have c3:wr.cell? ⟨M,f,none⟩=some (.int .i64 x):=by rw[hM2.cell f];simp[hx]
   have fz:wr.frozen? ⟨M,f,none⟩=false:=hM2.frozen f;have a2:lJ m2 (f:Int)=m2.set f (wrap64 (x+1)):=by unfold lJ;rw[zJ,zG,hx];rfl
   rw[a2]at hre2;have HN:=lE hre2 hkp hM2 hm2;have e8:BlockGe M w:=⟨HG.out.2.1⟩;clear hce he a4 a8 a2 hx hre2 hkp hM2 hm2 a5;go_wp2_with((go_at_call 102;refine aE (a3 _ (bel _ _)) λp=>?_));go_roundw
   case rel=>refine⟨k+1,m2.set f (wrap64 (x+1)),by go_num,by omega,by rw[yB];exact HN.out.2.2.2,HN.out.1,((HN.out.2.1.setCell (p:=⟨M,f,none⟩) (.inl rfl) _).alloc _).junk _,?_⟩;have:=((HN.out.2.2.1.set_ f (.int .i64 (wrap64 (x+1)))).alloc (Obj.cells #[Value.string e.name,Value.int IntKind.i64 e.num] 97)).junk p;rw[sA,<-map_set (f:=λx=>Value.int .i64 x)]at this;exact this
   simp[intOf];omega
  rw[zS (by omega)]at hre2;have a7:m2=mW S.nums m z.ents:=hre2;have HN:=lE a7 hkp hM2 hm2;clear hre2 a7 hkp hM2 hm2;go_wp2;go_roundw
  case rel=>exact⟨q+1,m2,by go_num,by omega,HN.out.2.2.2,by rw[HN.out.1];exact HR.out.1,bel _ _,HN.out.2.2.1,HN.out.2.1.blk HR.out.2.2.2 (λe=>by have:=HG.out.1;omega)⟩
  simp[intOf];omega
 rw [zS (by omega)]at a1;have d5:m=MM:=a1;subst d5;have HN:=eK hml hMr hFr;have e9:BlockGe F w:=⟨HG.out.2.2⟩;have f0:wo.cell? F=some (.bool false):=by rw[hFr.cell 0];simp[yQ,hpos]
 have f1:wo.frozen? F=false:=hFr.frozen 0;clear a1 hMr hFr hml;obtain⟨X,hX⟩:∃X:Nat->Prop,X=λg=>g<w.heap.size\/g=M\/g=F:=⟨_,rfl⟩;have XM:X M:=by rw[hX];exact .inr (.inl rfl)
 have XF:X F:=by rw[hX];exact .inr (.inr rfl)
 have Xw:∀i,i<w.heap.size->X i:=λi hi=>by rw[hX];exact .inl hi
 have b9:∀(wz:World),BlockLt M wz->BlockLt F wz->Bel w wz->∀g,wz.heap.size<=g->¬X g:=by
  intro wz i1 i2 i3 g hg hx;rw[hX]at hx;have:=i1.lt;have:=i2.lt;have:=i3.below.size;rcases hx with h|h|h<;>omega
 have HX:=lE XM XF Xw b9;clear XM XF Xw b9 hX;go_wp2
 go_loopg [10] S.ins.length (λgk td wr=>∃(todo:List Nat) (fd:List Bool),TodoAt X wr td todo/\fd.length=S.ins.length/\(∀k∈todo,k<S.ins.length)/\fd.count false+todo.length<=gk/\bfs S.nums S.ins gk todo fd=FF/\Bl w wr/\Blk wr M (m.map λx=>Value.int .i64 x).toArray 3/\Blk wr F (fd.map λx=>Value.bool x).toArray 4/\gk<=S.ins.length)
 case atStart=>
  refine⟨[0],(List.replicate S.ins.length false).set 0 true,?_,by simp,by simpa using hpos,?_,b4.out.2,bel _ _,(HN.out.2.1.far (λe=>by have:=HG.out.1;simp at e;omega) _).alloc _,?_,zC _⟩
  .have h0:SizeIs (wo.setCell F (.bool true)) wo.heap.size:=inferInstance;exact⟨wo.heap.size,0,1,#[.int .i64 0],rfl,HX.out.2.2.2 wo d2 d3 d1 _ (zC _),Blk.new_i _ _ _ _,by simp,by simp,λi x hx=>by
    rcases i with _|i
    .simp at hx;subst hx;rfl
    simp at hx⟩
  .have:=count_set (List.replicate S.ins.length false) 0 (by simp[yQ,hpos]);rw[count_replicate_self]at this;simp only[zK,yX];omega
  have:=(HN.out.2.2.set_ 0 (.bool true)).alloc (Obj.cells #[Value.int IntKind.i64 0] 3);rw[sA,<-map_set (f:=λx=>Value.bool x)]at this;exact this
 obtain⟨todo,fd,hT,a6,htd,hcnt,a1,hb3,hM3,hF3,hgk⟩:=hrel
 rename World=>wq
 have f2:Bel w wq:=⟨hb3⟩;have f3:=hM3.lt;have f4:=hF3.lt;have f5:BlockLt b wq:=⟨by have:=hb3.size;have:=ib.lt;omega⟩;have f6:wq.cell? b=some (.slice ai S.ins.length capi):=(hb3.cell (p:=b) ib.lt).trans d0.out;obtain⟨g,off,cap,arr,rfl,hng,hbk,hle,har,hel⟩:=hT;rcases todo with _|⟨at_,td⟩
 .have d6:fd=FF:=by rw[<-a1];rcases gk with _|gk<;>rfl
  subst d6;have HP:=nV hM3 hF3 a6 HN.out.1 hb3;clear hM3 hF3 a1 hcnt htd hel a6;simp only[yX]at *;go_wp2
  go_ret2;refine⟨_,_,rfl,bel _ _,?_,?_⟩
  .have:=RowAt.of_blk (cap:=S.ins.length) (λx=>Value.int .i64 x) m HP.out.1 (by unfold maxLen;have:=HP.out.2.2.2.1;omega);rw[HP.out.2.2.2.1]at this;exact this
  have:=RowAt.of_blk (cap:=S.ins.length) (λx=>Value.bool x) fd HP.out.2.1 (by unfold maxLen;have:=HP.out.2.2.1;omega);rw[HP.out.2.2.1]at this;exact this
 rcases gk with _|gk
 .simp at hcnt
 have b1:at_<S.ins.length:=htd at_ (by simp);obtain⟨x,hx⟩:∃x,S.ins[at_]? =some x:=⟨_,gE b1⟩;have a1:bfs S.nums S.ins gk (cZ S.nums (td,fd) x.ents).1 (cZ S.nums (td,fd) x.ents).2=FF:=by rw[<-a1];show _=bfs S.nums S.ins gk (cZ S.nums (td,fd) (match S.ins[at_]? with|some x=>x.ents|none=>[])).1 (cZ S.nums (td,fd) (match S.ins[at_]? with|some x=>x.ents|none=>[])).2;rw[hx]
 obtain⟨bi,offi,ev1,rfl,iG0,ho1,hev,hcl⟩:=HI.out at_ x hx;obtain⟨iGq,y0,y1,y2,y3⟩:=hcl wq hb3;obtain⟨hez,_⟩:=(b3.out x (mG hx)).2;have c4:=hfind x (mG hx);obtain⟨ae,ce,rfl,hat⟩:=hev.at_;rw[lM]at y2;have f7:wq.cell? ⟨g,off,none⟩=some (.int .i64 at_):=by rw[hbk.cell];exact hel 0 at_ rfl
 have f8:=hbk.lt;have HE:=aC hat;have HZ:=nV c4 a1 htd hel hcnt;have HB:=jj6 hbk hng hM3 hF3 a6 har;have c5:(td.length:Int)+1<=cap:=by simp only[zK]at hle;omega
 clear hat hev hx a1 hM3 hF3 a6 c4 ho1 hcl htd hel hcnt hbk hng har;simp only[zK]at *;go_upto_region 15 with fail;go_cut [10] (λv10 wx=>TodoAt X wx v10 td/\wx=wq)
 case first=>
  go_wp2_with fail
  all_goals go_meet
  .have h1:cap=1:=by assumption
   refine⟨⟨g,off,0,arr,by simp,HB.out.2.1,HB.out.1,by omega,by have:=HB.out.2.2.2.2.2;omega,?_⟩,rfl⟩;intro i y hy;obtain⟨h,_⟩:=gI.1 hy;omega
  refine⟨⟨g,off+1,cap-1,arr,rfl,HB.out.2.1,HB.out.1,by omega,by have:=HB.out.2.2.2.2.2;omega,?_⟩,rfl⟩;intro i y hy;have:=HZ.out.2.2.2.1 (i+1) y (by simpa using hy);rw[<-this];congr 1;omega
 obtain⟨hT,rfl⟩:=hcut
 rename World=>wq
 have HT:=aC hT;have d7:=hT;obtain⟨g1,off1,cap1,arr1,rfl,-⟩:=d7;clear hT;go_wp2
 go_loopw[10,74] (λv10 i wr=>∃(k:Nat) (td2:List Nat) (fd2:List Bool),i=.int .i64 k/\k<=x.ents.length/\TodoAt X wr v10 td2/\fd2.length=S.ins.length/\(∀y∈td2,y<S.ins.length)/\cZ S.nums (td2,fd2) (x.ents.drop k)=cZ S.nums (td,fd) x.ents/\fd2.count false+td2.length<=gk/\Bl w wr/\Blk wr M (m.map λx=>Value.int .i64 x).toArray 3/\Blk wr F (fd2.map λx=>Value.bool x).toArray 4) (λ_ i _=>(x.ents.length-intOf i).toNat)
 case atStart=>exact⟨0,td,fd,rfl,by omega,HT.out,HB.out.2.2.2.2.1,λy hy=>HZ.out.2.2.1 y (zL _ hy),rfl,by have:=HZ.out.2.2.2.2;(try simp only[zK]at this);omega,hb3,HB.out.2.2.1,HB.out.2.2.2.1⟩
 obtain⟨k,td2,fd2,rfl,hk,hT2,hf2,htd2,hpu,hcn,hb4,hM4,hF4⟩:=hrel;have f9:Bel w wr:=⟨hb4⟩;have g0:=hM4.lt;have g4:=hF4.lt;have g5:BlockLt b wr:=⟨by have:=hb4.size;have:=ib.lt;omega⟩;by_cases hlk:k<x.ents.length
 .obtain⟨e,he⟩:∃e,x.ents[k]? =some e:=⟨_,gE hlk⟩
  rw[aJJ he]at hpu;obtain⟨be,offe,rfl,iE0,iE,hce⟩:=HE.out wr hb4 k e.cells (by rw[gM,he];rfl);have e0:=hce 0 _ rfl;have e1:=hce 1 _ rfl;rw[zN]at e0;have a3:∀ww,Bl w ww->Calls prog 102 #[.pointer b,e.num] ww _:=λww hww=>hf ww hww e.num;have a4:=cW S.nums e.num;have a8:S.nums.length=S.ins.length:=by unfold PSt.nums;rw[lM]
  have a5:=HZ.out.1 e (mG he);unfold mX at hpu;generalize aJ S.nums e.num=fv at a3 a4 a5 hpu;obtain⟨f,rfl⟩:∃f:Nat,fv=f:=⟨fv.toNat,by omega⟩;have a6:f<S.ins.length:=by omega
  have d8:(f:Int)<S.ins.length:=by omega
  obtain⟨y,hy⟩:∃y,fd2[f]? =some y:=⟨_,gE (by omega)⟩;have c3:wr.cell? ⟨F,f,none⟩=some (.bool y):=by rw[hF4.cell f];simp[hy]
  have fz:wr.frozen? ⟨F,f,none⟩=false:=hF4.frozen f;simp only[zJ,zG,hy,Option.getD_some]at hpu;obtain⟨g2,off2,cap2,arr2,rfl,-⟩:=id hT2;rcases y with _|_
  .simp only[zP,if_false]at hpu;have c6:=count_set fd2 f hy;have a0:=jj7 hpu htd2 hM4 hF4 hf2 hcn c6;have b2:=aC hT2;have d9:td2.length<=1000000:=by
    omega
   clear hce he a4 a8 hy hpu hT2 hM4 hF4 htd2 hf2 c6 a5;go_wp2_with(first|(go_at_call 102;refine aE (a3 _ (bel _ _)) λp=>?_)|(at_builtin;refine rH (by kernel_rfl) aAB _ rfl (.tmp 90) (.tmp 92) rfl X _ td2 rfl (by repeat(first|exact b2.out|refine TodoAt.alloc ?_ _|refine TodoAt.junk ?_ _|refine TodoAt.far ?_ HX.out.2.1 _)) (HX.out.2.2.2 _ inferInstance inferInstance ⟨bel _ _⟩) _ _ f rfl (by go_simp) d9 ?_));intro v' w' hT3 hkp3;have a9:=bG hT3 hkp3;obtain⟨g3,off3,cap3,arr3,rfl,-⟩:=id hT3;clear hT3 hkp3;go_wp2;go_roundw
   case rel=>
    refine⟨k+1,td2++[f],fd2.set f true,by go_num,by omega,a9.out.1,by rw[yB];exact a0.out.2.2.2.2.1,?_,a0.out.1,?_,(bel w _).trans (a9.out.2.below (bel w _).size (λi hi hn=>hn (HX.out.2.2.1 i hi))),?_,?_⟩
    .intro y hy;rcases mem_append.1 hy with h|h
     .exact a0.out.2.1 y h
     simp only[yZ]at h;omega
    .have h1:=a0.out.2.2.2.2.2.1;have h2:=a0.out.2.2.2.2.2.2;simp only[lP,zK,yX];omega
    .exact a9.out.2.blk ((((a0.out.2.2.1.far (λe=>by have:=HG.out.1;simp at e;omega) _).alloc _).junk _).alloc _) (λhn=>hn HX.out.1)
    have:=a9.out.2.blk ((((a0.out.2.2.2.1.set_ f (.bool true)).alloc _).junk _).alloc _) (λhn=>hn HX.out.2.1);rw[sA,<-map_set (f:=λx=>Value.bool x)]at this;exact this
   simp[intOf];omega
  simp only[if_true]at hpu;have a0:=nV hpu htd2 hM4 hF4 hf2;have b2:=aC hT2;clear hce he a4 a8 hy hpu hT2 hM4 hF4 htd2 hf2 a5;go_wp2_with((go_at_call 102;refine aE (a3 _ (bel _ _)) λp=>?_));go_roundw
  case rel=>exact⟨k+1,td2,fd2,by go_num,by omega,by repeat(first|exact b2.out|refine TodoAt.alloc ?_ _|refine TodoAt.junk ?_ _),a0.out.2.2.2.2,a0.out.2.1,a0.out.1,hcn,bel _ _,(a0.out.2.2.1.alloc _).junk _,(a0.out.2.2.2.1.alloc _).junk _⟩
  simp[intOf];omega
 rw[zS (by omega)]at hpu;have c7:(td2,fd2)=cZ S.nums (td,fd) x.ents:=hpu;have a0:=jj7 c7 htd2 hM4 hF4 hf2 hT2 hcn;obtain⟨g2,off2,cap2,arr2,rfl,-⟩:=id hT2;clear hpu c7 hT2 hM4 hF4 htd2 hf2 hcn;go_wp2
 go_roundg gk
 case rel=>exact⟨td2,fd2,a0.out.2.2.2.2.2.1,a0.out.2.2.2.2.1,a0.out.2.1,a0.out.2.2.2.2.2.2,by have h1:=HZ.out.2.1;rw[<-a0.out.1]at h1;exact h1,bel _ _,a0.out.2.2.1,a0.out.2.2.2.1,by omega⟩
 omega
end
end Go.Proofs.YtmkapobnfigedaaGreatDoor
