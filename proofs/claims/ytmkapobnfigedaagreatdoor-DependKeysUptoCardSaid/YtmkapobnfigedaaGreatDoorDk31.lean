/- A part of a proof of a law. Conditions: none. -/
import Derived.Test.YtmkapobnfigedaaGreatDoorDk22
import Derived.Test.YtmkapobnfigedaaGreatDoorDk26
import Derived.Test.YtmkapobnfigedaaGreatDoorDk25
import Derived.Test.YtmkapobnfigedaaGreatDoorDk30
set_option linter.unusedVariables false
set_option linter.unusedSimpArgs false
set_option maxRecDepth 100000
set_option maxHeartbeats 8000000
namespace Go.Proofs.YtmkapobnfigedaaGreatDoor
open Go.Proofs.Tryz List Go.RowKit
theorem aGS (had:ByteArray) (n:Nat) (w:World) (hn:n<=1000000):
 Calls prog 125 #[had,n] w λe w'=>∃g,e=.returned (.slice (some ⟨g,0,none⟩) n n)/\Below w.heap.size w w'/\w.heap.size<=g/\Blk w' g (bK (sW had.data.toList n)) 5:=by
 have a2:=λu=>mkN n (by omega) u;have a0:=aAX had n;generalize sW had.data.toList n=L1 at a0 |-;have HC:=aC a0;clear a0;go_in;go_upto_region 2 with fail;refine aD (F:=λW=>Blk W w.heap.size (bK (List.replicate n 0)) 5/\Below w.heap.size w W) ⟨Blk.new _ _ _,bel _ _⟩ ?_;obtain⟨g,hg⟩:∃g,w.heap.size=g:=⟨_,rfl⟩;rw[hg];rintro W ⟨hB,hbW⟩;have iG:=hB.lt;obtain⟨m0,hm0⟩:=HC.out g W hB;have HW:=bG hB hbW;have HG:=aC hg;clear hB hbW hg a2;go_upto_region 3 with fail;refine aD (F:=λW2=>Blk W2 g (bK L1) 5/\Below g w W2) ⟨jW HW.out.1 _,lU HW.out.2 (zC _) _⟩ ?_;clear hm0 iG;rintro W2 ⟨hB2,hbW2⟩;have a1:=bG hB2 hbW2;clear hB2 hbW2;go_wp2;go_ret;exact⟨g,rfl,by rw[HG.out];exact a1.out.2,by rw[HG.out];exact zC _,a1.out.1⟩
section
structure RS (Z P:Nat) (U:Nat->List Nat) (V:Nat->Value) (n:Nat) (arr:Array Value) (q:Addr) (v:Value) (w0:World) (D:Nat->Prop) (σ:Nat->Value) (w:World):Prop where
 vals:∀i,i<Z->i≠P->D i->σ i=V i
 sl:¬D Z->D P->∃g,σ P=.slice (some ⟨g,0,none⟩) n n/\Blk w g arr 5
 all:D Z->∀i,i<Z->D i
 bel:¬D Z->Bl w0 w
 fin:D Z->∃w1,Bl w0 w1/\w=w1.setCell q v
 cl:∀i,i<Z->D i->∀k,k∈U i->D k
section
variable {Z P n T:Nat} {U:Nat->List Nat} {V:Nat->Value} {arr:Array Value} {q:Addr} {v:Value} {w0 w w':World} {D:Nat->Prop} {σ:Nat->Value}
theorem RS.zero (hZ:Z<T) (hP:P<T) (hb:Bl w0 w):RS Z P U V n arr q v w0 (λj=>T<=j) σ w:=
 ⟨λi hi _ h=>absurd h (by omega),λ_ h=>absurd h (by omega),λh=>absurd h (by omega),λ_=>hb,λh=>absurd h (by omega),λi hi h=>absurd h (by omega)⟩
theorem RS.noZ (h:RS Z P U V n arr q v w0 D σ w) {i:Nat} (hi:i<Z) (hnd:¬D i):¬D Z:=λhz=>hnd (h.all hz i hi)
theorem RS.val (h:RS Z P U V n arr q v w0 D σ w) (i:Nat) (hi:i<Z) (hP:P≠i) (hnd:¬D i) (hu:∀k,k∈U i->D k):RS Z P U V n arr q v w0 (λj=>j=i\/D j) (iU σ i (V i)) w:=
 have hz:=h.noZ hi hnd;have a0:¬(Z=i\/D Z):=λe=>e.elim (λe=>by omega) hz
 ⟨λk hk h1 hd=>by
  by_cases e:k=i
  .subst e;exact zB rfl
  .exact(zA e).trans (h.vals k hk h1 (hd.resolve_left e)),
  λ_ hd=>by
   obtain⟨g,e,hg⟩:=h.sl hz (hd.resolve_left hP);exact⟨g,(zA hP).trans e,hg⟩,
  λe=>absurd e a0,λ_=>h.bel hz,λe=>absurd e a0,λk hk hd m hm=>by
   by_cases e:k=i
   .subst e;exact .inr (hu m hm)
   exact .inr (h.cl k hk (hd.resolve_left e) m hm)⟩
theorem RS.call (h:RS Z P U V n arr q v w0 D σ w) (hP:P<Z) (hnd:¬D P) (hu:∀k,k∈U P->D k) {g:Nat} (hb:Bl w w') (hg:Blk w' g arr 5):RS Z P U V n arr q v w0 (λj=>j=P\/D j) (iU σ P (.slice g n n)) w':=
 have hz:=h.noZ hP hnd;have a0:¬(Z=P\/D Z):=λe=>e.elim (λe=>by omega) hz
 ⟨λk hk h1 hd=>(zA h1).trans (h.vals k hk h1 (hd.resolve_left h1)),λ_ _=>⟨g,zB rfl,hg⟩,
  λe=>absurd e a0,λ_=>(h.bel hz).trans (hb.mono (h.bel hz).size),λe=>absurd e a0,λk hk hd m hm=>by
   by_cases e:k=P
   .subst e;exact .inr (hu m hm)
   exact .inr (h.cl k hk (hd.resolve_left e) m hm)⟩
theorem RS.store (h:RS Z P U V n arr q v w0 D σ w) (hnd:¬D Z) (hP:P≠Z) (hw:∀i,i<Z->D i):RS Z P U V n arr q v w0 (λj=>j=Z\/D j) (iU σ Z undef) (w.setCell q v):=
 ⟨λk hk h1 hd=>(zA (by omega)).trans (h.vals k hk h1 (hd.resolve_left (by omega))),λhz=>absurd (.inl rfl) hz,λ_ i hi=>.inr (hw i hi),λhz=>absurd (.inl rfl) hz,λ_=>⟨w,h.bel hnd,rfl⟩,λk hk hd m hm=>.inr (h.cl k hk (hd.resolve_left (by omega)) m hm)⟩
section
variable {Pr:Program} {l:List Oper} {a0 a:Act} {i:Nat} {o:Oper}
theorem qJ (h:OB l a0 i o (RS Z P U V n arr q v w0) D σ w a) (j d:Nat) (hj:j<Z:=by decide) (hP:j≠P:=by decide) (h1:o.waits.contains j=true:=by kernel_rfl) (h2:(l[j]?).bind Oper.dst=some d:=by kernel_rfl):(a.tmps[d]?).getD undef=V j:=aID h j d (h.r.vals j hj hP (h.hw j h1)) h2
theorem bAK (h:OB l a0 i o (RS Z P U V n arr q v w0) D σ w a) (hu:((U i).all λk=>o.waits.contains k)=true):∀k,k∈U i->D k:=λk hk=>h.hw k (all_eq_true.1 hu k hk)
theorem qK (h:OB l a0 i o (RS Z P U V n arr q v w0) D σ w a) (hx:(execOp a.eval o).run Pr w=.ok (.value (V i)) w) (hi:i<Z:=by decide) (hP:P≠i:=by decide) (hu:((U i).all λk=>o.waits.contains k)=true:=by kernel_rfl):o.eff Pr a w λx w'=>RS Z P U V n arr q v w0 (λj=>j=i\/D j) (iU σ i x) w':=by unfold Oper.eff;rw[hx];exact h.r.val i hi hP h.nd (bAK h hu)
theorem aTD (h:OB l a0 i o (RS Z P U V n arr q v w0) D σ w a) (hi:i<Z:=by decide):Bl w0 w:=h.r.bel (h.r.noZ hi h.nd)
end
end
def vTr (bi K nn c:Nat) (d e:ByteArray):Nat->Value
 |0=>.pointer (some ⟨bi,K*4,none⟩)
 |1=>.pointer (some ⟨bi,K*4,none⟩)
 |2=>.pointer (some ⟨bi,K*4,none⟩)
 |3=>.pointer (some ⟨bi,K*4+3,none⟩)
 |4=>.string d
 |5=>.pointer (some ⟨c,4,none⟩)
 |6=>.int .i64 nn
 |7=>undef
 |8=>.string (e)
 |9=>.pointer (some ⟨bi,K*4,none⟩)
 |10=>.pointer (some ⟨bi,K*4+3,none⟩)
 |_=>undef
def uTr:Nat->List Nat
 |2=>[1]
 |3=>[2]
 |4=>[3]
 |6=>[5]
 |7=>[4,6]
 |8=>[7]
 |9=>[0]
 |10=>[9]
 |_=>[]
theorem aYI (B b:Nat) (S:PSt) (iv ov mv:Value) (core f0 off nu:Int) (path p2 dt:ByteArray) (w:World) (hb:Blk w b #[iv,ov,mv] 26) (ho:StOwn B w iv ov mv S) (hB:B<=w.heap.size) (hBb:B<=b) (hwf:S.wf) (num:Int) (hfd:nR S core f0=num) (hn0:num≠0) (K:Nat) (x:PIn) (hat:bM S num=K) (hx:S.ins[K]? =some x) (nn:Nat) (hnn:nu=nn) (hn1:nn<=256):
 Calls prog 95 #[.pointer b,.agg #[.int .i64 6,core,f0,off,nu,path,p2,dt]] w (ByOut B b w (.ok ({ S with ins:=S.ins.set K { x with data:=rN x.data nn}},⟨0,0,0,false,⟨#[]⟩,[]⟩))):=by
 have a6:=c43 ho.read hwf.2.1 hfd;have b3:=λk ww=>bD k ww;have a7:=uX ho.read hwf.1 hat;obtain⟨bi,cap,ma,mn,mc,oa,on,oc,rfl,rfl,rfl,hcz,iI,x3,hKI,hnb,iL,hblt,s0,s1,s2⟩:=lI hb ho hwf hx hn0;have HH:=eK hb ho hx;subst hnn;have b1:¬(nn:Int)<0:=by omega
 have b2:¬(256:Int)<nn:=by omega
 clear hb ho hwf hfd hx hat hn0;have b4:=aC hcz;clear hcz;go_in;go_upto_region 1 with fail;refine qR ?_
 repeat(go_big_quiet_step ((with_reducible first|refine cI (a6 _ (bel _ _))|refine cJ (a6 _ (bel _ _)))))
 refine QN λp=>?_;go_wp2;refine qR ?_
 repeat(go_big_quiet_step ((with_reducible first|refine cI (a7 _ (bel _ _))|refine cJ (a7 _ (bel _ _)))))
 refine QN λp=>?_;go_upto_region 33 with fail;refine aD (F:=λwa=>Blk wa w.heap.size #[.int .i64 6,core,f0,off,nn,path,p2,dt] 28/\Blk wa (w.heap.size+1) () 52/\Bl w wa) ⟨aB (Blk.new w #[.int .i64 6,core,f0,off,nn,path,p2,dt] 28) (bel _ _),aB (Blk.new_i (w.alloc (.cells #[.int .i64 6,core,f0,off,nn,path,p2,dt] 28)) () 52 (w.heap.size+1)) (bel _ _),bel w _⟩ ?_;rintro W ⟨hc,hr,hbw⟩;obtain⟨iI3,y3⟩:=b4.out W hbw;have c4:=hc.cell 4;simp at c4;have jC:w.heap.size<W.heap.size:=hc.lt.lt;have jI:bi<W.heap.size:=iI3.lt;have a0:∀w1,Below W.heap.size W w1->_:=λw1 h1=>(HH.out.2.1.on (hbw.trans (h1.mono hbw.size))).setData HH.out.2.2 (rN x.data nn);have a1:∀ww,Calls prog 125 #[x.data,nn] ww _:=λww=>aGS x.data nn ww (by omega);have e0:B<=W.heap.size:=zD hB hbw.size;have b0:=aB HH.out.1 hbw;have HW:=lE hc hr hbw b0;clear s0 s1 s2 x3 iI iL hc hr hbw b0 a7 a6;refine jN (RS 11 7 uTr (vTr bi K nn w.heap.size x.data (rN x.data nn)) nn (bK (sW x.data.data.toList nn)) ⟨bi,K*4+3,none⟩ (.string (rN x.data nn)) W) (λσ=>RS.zero (by decide) (by decide) (bel W _)) ?_ ?_
 .refine⟨?_,?_,?_,?_,?_,?_,?_,?_,?_,?_,?_,?_,trivial⟩
  .intro D σ w1 a h;have e6:(a.tmps[6]?).getD undef=.pointer (some ⟨bi,K*4,none⟩):=mH h 6;refine qK h ?_;clear h a0 a1;go_simp
   first|done|rfl
  .intro D σ w1 a h;have e6:(a.tmps[6]?).getD undef=.pointer (some ⟨bi,K*4,none⟩):=mH h 6;refine qK h ?_;clear h a0 a1;go_simp
   first|done|rfl
  .intro D σ w1 a h;have b5:(a.tmps[205]?).getD undef=.pointer (some ⟨bi,K*4,none⟩):=qJ h 1 205;refine qK h ?_;clear h a0 a1;go_simp
   first|done|rfl
  .intro D σ w1 a h;have b6:(a.tmps[206]?).getD undef=.pointer (some ⟨bi,K*4,none⟩):=qJ h 2 206;refine qK h ?_;clear h a0 a1;go_simp
   first|done|rfl
  .intro D σ w1 a h;have a3:=aTD h;have b7:(a.tmps[207]?).getD undef=.pointer (some ⟨bi,K*4+3,none⟩):=qJ h 3 207;have hl:=(a3.cell (p:=⟨bi,K*4+3,none⟩) jI).trans y3;have iX:BlockLt bi w1:=⟨zR jI a3.size⟩
   refine qK h ?_;clear h a0 a1;go_simp
   first|done|rfl
  .intro D σ w1 a h;have e3:(a.tmps[3]?).getD undef=.pointer w.heap.size:=mH h 3;refine qK h ?_;clear h a0 a1;go_simp
   first|done|rfl
  .intro D σ w1 a h;have a3:=aTD h;have b8:(a.tmps[209]?).getD undef=.pointer (some ⟨w.heap.size,4,none⟩):=qJ h 5 209;have hl:=(a3.cell (p:=⟨w.heap.size,4,none⟩) jC).trans c4;have iX:BlockLt w.heap.size w1:=⟨zR jC a3.size⟩
   refine qK h ?_;clear h a0 a1;go_simp
   first|done|rfl
  .intro D σ w1 a h;have b9:(a.tmps[208]?).getD undef=.string x.data:=qJ h 4 208;have c0:(a.tmps[210]?).getD undef=.int .i64 nn:=qJ h 6 210;refine aR 125 #[.string x.data,.int .i64 nn] ?_ ((a1 w1).mono ?_)
   .clear h a0 a1;go_simp
    first|done|rfl
   rintro e w' ⟨g,rfl,hqb,-,hg⟩;exact⟨_,rfl,h.r.call (by decide) h.nd (λk hk=>by have hk:k∈[4,6]:=hk;simp only[mem_cons,not_mem_nil,or_false]at hk;rcases hk with rfl|rfl<;>first|exact nG h 4|exact nG h 6) hqb hg⟩
  .intro D σ w1 a h;have hz:=h.r.noZ (by decide) h.nd;have a3:=aTD h;obtain⟨g,eg,hg⟩:=h.r.sl hz (nG h 7);have c1:(a.tmps[211]?).getD undef=.slice g nn nn:=aID h 7 211 eg;have c2:=cvN w1 g nn nn (sW x.data.data.toList nn) hg (vS _ _);refine qK h ?_;clear h a0 a1 hg;go_simp
   first|done|rfl|exact c2
  .intro D σ w1 a h;have c3:(a.tmps[204]?).getD undef=.pointer (some ⟨bi,K*4,none⟩):=qJ h 0 204;refine qK h ?_;clear h a0 a1;go_simp
   first|done|rfl
  .intro D σ w1 a h;have c5:(a.tmps[213]?).getD undef=.pointer (some ⟨bi,K*4,none⟩):=qJ h 9 213;refine qK h ?_;clear h a0 a1;go_simp
   first|done|rfl
  intro D σ w1 a h;have a8:∀i,i<11->D i:=by
   have c6:=nG h 10;have d8:=nG h 8;have d7:=h.r.cl 8 (by decide) d8 7 (by decide);have d4:=h.r.cl 7 (by decide) d7 4 (by decide);have d6:=h.r.cl 7 (by decide) d7 6 (by decide);have d3:=h.r.cl 4 (by decide) d4 3 (by decide);have d2:=h.r.cl 3 (by decide) d3 2 (by decide);have d1:=h.r.cl 2 (by decide) d2 1 (by decide);have d5:=h.r.cl 6 (by decide) d6 5 (by decide);have d9:=h.r.cl 10 (by decide) c6 9 (by decide);have d0:=h.r.cl 9 (by decide) d9 0 (by decide);intro i hi;have:i=0\/i=1\/i=2\/i=3\/i=4\/i=5\/i=6\/i=7\/i=8\/i=9\/i=10:=by omega
   rcases this with rfl|rfl|rfl|rfl|rfl|rfl|rfl|rfl|rfl|rfl|rfl<;>assumption
  have a3:=h.r.bel h.nd;obtain⟨hd1,hd2,cI,hd3⟩:=a0 w1 a3;have iI:=hd3.lt;have iF:=hd3.frozen (K*4+3);have e1:=(a3.cell (p:=⟨bi,K*4+3,none⟩) jI).trans y3;have c7:(a.tmps[212]?).getD undef=.string (rN x.data nn):=qJ h 8 212;have c8:(a.tmps[214]?).getD undef=.pointer (some ⟨bi,K*4+3,none⟩):=qJ h 10 214;refine aKU (w':=w1.setCell ⟨bi,K*4+3,none⟩ (.string (rN x.data nn))) ?_ (h.r.store h.nd (by decide) a8);clear h a0 a1 hd1 hd2 hd3;go_simp
  first|done|rfl
 intro σ w3 hR;obtain⟨w1,hb1,rfl⟩:=hR.fin trivial;obtain⟨hd1,hd2,cI,hd3⟩:=a0 w1 hb1;have a4:=HW.out.2.2.1.trans (hb1.mono HW.out.2.2.1.size);have a2:=aB HW.out.2.2.2 hb1;have a9:=aB HW.out.2.1 hb1;have a5:Keep (λk=>k=bi) w1 (w1.setCell ⟨bi,K*4+3,none⟩ (.string (rN x.data nn))):=Keep.setCell (S:=λk=>k=bi) (p:=⟨bi,K*4+3,none⟩) (Keep.refl _ _) (.inl rfl) _;have n1:=a5.blk a2 (λe=>by subst e;exact a2.ne_ hd3 (by decide) rfl);have n3:=a5.blk a9 (λe=>by have:=a9.ne_ hd3 (by decide);exact this e);have n4:Below B w (w1.setCell ⟨bi,K*4+3,none⟩ (.string (rN x.data nn))):=(a4.mono hB).trans (a5.below (zD hB a4.size) (λi hi e=>by omega));have n5:Spared b w (w1.setCell ⟨bi,K*4+3,none⟩ (.string (rN x.data nn))):=(Spared.of_below a4).trans (Spared.set hd3 (.inr ⟨by decide,by decide,by decide⟩));simp only[dJ,Act.put,sA,sZ,sS,Nat.reduceAdd];have HN:=nV n1 hd1 n3 n4 n5;clear a4 a2 a9 hd1 hd2 hd3 a5 n1 n3 n4 n5 hR a0 a1 hb1 HW;go_upto_region 36 with fail;refine aD (F:=λwz=>Blk wz b #[.slice bi S.ins.length cap,.slice oa on oc,.slice ma mn mc] 26/\StOwn B wz (.slice bi S.ins.length cap) (.slice oa on oc) (.slice ma mn mc) { S with ins:=S.ins.set K { x with data:=rN x.data nn}}/\Blk wz (w.heap.size+1) () 52/\Below B w wz/\Spared b w wz) HN.out ?_;clear HN;rintro wf ⟨f1,f2,f3,f4,f5⟩;have l3:=f3.lt;have g0:=f3.cell 0;have e2:=f3.frozen 0;have g1:=f3.cell 1;have e4:=f3.frozen 1;have g2:=f3.cell 2;have e5:=f3.frozen 2;have g3:=f3.cell 3;have e7:=f3.frozen 3;have g4:=f3.cell 4;have e8:=f3.frozen 4;have g5:=f3.cell 5;have e9:=f3.frozen 5;simp at g0 g1 g2 g3 g4 g5;have HF:=nV f1 f2 f3 f4 f5;clear f1 f2 f3 f4 f5;go_wp2_with(go_at_call 92;with_reducible refine aE (b3 _ _) λp=>?_);have c9:B<=wf.heap.size:=zD hB HF.out.2.2.2.1.size;exact xD (v:=aQ 0 0 0) (by unfold results;simp only[results95,aQ];go_simp) rfl (ByOut.done (mY (r:=w.heap.size+1) lK (by omega) hblt hB (aB HF.out.2.2.1 (bel wf _)) (aB HF.out.1 (bel wf _)) (HF.out.2.1.on (bel wf _)) (HF.out.2.2.2.1.trans ((bel wf _).mono c9)) (HF.out.2.2.2.2.trans (Spared.of_below (bel wf _)))))
theorem aYJ (B b:Nat) (S:PSt) (iv ov mv:Value) (core f0 off nu:Int) (path p2 dt:ByteArray) (w:World) (hb:Blk w b #[iv,ov,mv] 26) (ho:StOwn B w iv ov mv S) (hB:B<=w.heap.size) (hBb:B<=b) (hwf:S.wf) (num:Int) (hfd:nR S core f0=num) (hn0:num≠0) (K:Nat) (x:PIn) (hat:bM S num=K) (hx:S.ins[K]? =some x) (oo:Nat) (hoo:off=oo) (hde:dt.size≠0) (hsum:oo+dt.size<=256) (hxs:x.data.size<=1000000):
 Calls prog 95 #[.pointer b,.agg #[.int .i64 5,core,f0,off,nu,path,p2,dt]] w (ByOut B b w (.ok ({ S with ins:=S.ins.set K { x with data:=aAL x.data oo dt}},⟨0,0,dt.size,false,⟨#[]⟩,[]⟩))):=by
 have a9:=c43 ho.read hwf.2.1 hfd;have c6:=λk ww=>bD k ww;have b0:=uX ho.read hwf.1 hat;obtain⟨bi,cap,ma,mn,mc,oa,on,oc,rfl,rfl,rfl,hcz,iI,x3,hKI,hnb,iL,hblt,s0,s1,s2⟩:=lI hb ho hwf hx hn0;have HH:=eK hb ho hx;subst hoo;have b1:¬(oo:Int)<0:=by omega
 have b2:¬(256:Int)<oo:=by omega
 have b3:¬(256:Int)<dt.size:=by omega
 have b4:¬(256:Int)<oo+dt.size:=by omega
 have c8:dt.toList.isEmpty=false:=aES hde;obtain⟨N,hN⟩:∃N:Nat,max (x.data.size:Int) ((oo:Int)+dt.size)=N:=⟨max x.data.size (oo+dt.size),by omega⟩;have b5:N<=1000000:=by omega
 have a3:∀ww,Calls prog 125 #[x.data,N] ww _:=λww=>aGS x.data N ww b5;have c9:oo<=N:=by omega
 have d0:¬N=oo:=by omega
 obtain⟨L1,hL1⟩:∃L,sW x.data.data.toList N=L:=⟨_,rfl⟩;have a1:L1.length=N:=by rw[<-hL1];exact vS _ _
 rw[hL1]at a3;obtain⟨L2,hL2⟩:∃L,L1.take oo++dt.data.toList++L1.drop (oo+dt.size)=L:=⟨_,rfl⟩;have b6:dt.data.toList.length=dt.size:=rfl;have b7:x.data.data.toList.length=x.data.size:=rfl;have a2:L2.length=N:=by rw[<-hL2];simp[b6,a1];omega
 have a4:(⟨L2.toArray⟩:ByteArray)=aAL x.data oo dt:=by
  unfold aAL;rw[zA hde,<-hL2,<-hL1];unfold aUL sW;rw[zB (by omega),b6,b7];have e:max x.data.size (oo+dt.size)=N:=by omega
  rw[e]
 rw[<-a4];have a8:=fun(W:World) (g:Nat) (hG:Blk W g (bK L1) 5) (ty:TypeId)=>by have:=cpN W ty g oo (N-oo) (N-oo) L1 dt hG (by omega) (by omega);rw[hL2]at this;exact this
 have a6:=fun(W:World) (g:Nat) (hG:Blk W g (bK L2) 5)=>cvN W g N N L2 hG a2;obtain⟨z,hz⟩:∃z:ByteArray,(⟨L2.toArray⟩:ByteArray)=z:=⟨_,rfl⟩;rw[hz]at a6 a4 |-;have b8:=bG a8 a6;have a5:max (x.data.size:Int) (IntKind.i64.wrap ((oo:Int)+dt.size))=N:=by rw[show IntKind.i64.wrap ((oo:Int)+dt.size)=oo+dt.size from I64.wrap ⟨by omega,by omega⟩];exact hN
 have b9:=eK a5 b5 a3;clear a5 hN b5 a3 hxs a8 a6 hL1 hL2 a4 hz a1 a2 b6 b7;have d1:wrap64 ((oo:Int)+dt.size)=oo+dt.size:=by unfold wrap64;omega
 clear hb ho hwf hfd hx hat hn0;have c0:=aC hcz;clear hcz;go_in;go_upto_region 1 with fail;refine qR ?_
 repeat(go_big_quiet_step ((with_reducible first|refine cI (a9 _ (bel _ _))|refine cJ (a9 _ (bel _ _)))))
 refine QN λp=>?_;go_wp2;refine qR ?_
 repeat(go_big_quiet_step ((with_reducible first|refine cI (b0 _ (bel _ _))|refine cJ (b0 _ (bel _ _)))))
 refine QN λp=>?_;go_upto_region 26 with fail;have a5:=b9.out.1;have a3:=b9.out.2.2;go_cut [10] (λv10 wx=>∃g,v10=.slice (some ⟨g,0,none⟩) N N/\w.heap.size+2<=g/\Bl w wx/\Blk wx w.heap.size #[.int .i64 5,core,f0,oo,nu,path,p2,dt] 28/\Blk wx (w.heap.size+1) () 52/\Blk wx g (bK L1) 5)
 case first=>
  refine aH [16] false (λw'=>w'.cell? ⟨bi,K*4+3,none⟩=some (.string x.data)/\w'.cell? ⟨w.heap.size,3,none⟩=some (.int .i64 oo)/\w'.cell? ⟨w.heap.size,7,none⟩=some (.string dt)) (by kernel_rfl) (by kernel_rfl) ?_ ?_
  · (try dsimp only);(repeat' apply And.intro)<;>go_simp
  repeat
   apply aI0 rfl rfl
   focus
    rintro w' ⟨q0,q1,q2⟩;go_simp
    first|done|rfl
   simp only[Act.put,sA,sZ,sS]
  refine bA rfl rfl ?_;refine aR 125 #[.string x.data,.int .i64 N] ?hr ?_
  case hr=>
   go_simp
   first|done|exact a5
  refine(a3 _).mono ?_;rintro e w' ⟨g,rfl,hb,hg,hk⟩;obtain⟨p,rfl⟩:=hb.rest;have HK:=bG hg hk;clear hb hg hk;refine⟨_,rfl,.inl ?_,?_⟩
  · (try dsimp only);(repeat' apply And.intro)<;>go_simp
  simp only[Act.put,sA,sZ,sS]
  repeat
   apply aI0 rfl rfl
   focus
    rintro w' ⟨q0,q1,q2⟩;go_simp
    first|done|rfl
   simp only[Act.put,sA,sZ,sS]
  refine aS ?_;clear a5 a3;go_wp2_with fail;go_meet;refine⟨_,rfl,?_,bel _ _,aB (Blk.new w #[.int .i64 5,core,f0,oo,nu,path,p2,dt] 28) (bel _ _),aB (Blk.new_i (w.alloc (.cells #[.int .i64 5,core,f0,oo,nu,path,p2,dt] 28)) () 52 (w.heap.size+1)) (bel _ _),?_⟩
  .have:=HK.out.1;simp at this;omega
  have h:=HK.out.2
  first|exact h|(rw [World.junk_junk]at h;exact h)|(simp only[go_sem]at h;exact h)
 obtain⟨g,rfl,hgw,hbc,hCc,hRc,hG⟩:=hcut;obtain⟨iI3,y3⟩:=c0.out wc hbc;have iC:=hCc.lt;have iG:=hG.lt;have c3:=hCc.cell 3;have c7:=hCc.cell 7;simp at c3 c7;have a8:=λty=>b8.out.1 wc.drew g (hG.below (bel wc _) iG.lt) ty;have HX:=nV hbc hCc hRc hG hgw;clear s0 s1 s2 x3 iI iL hbc hCc hRc hG b0 a9 a3 a5;go_upto_region 27 with fail;refine aH [6] true (λw'=>w'.cell? ⟨w.heap.size,3,none⟩=some (.int .i64 oo)/\w'.cell? ⟨w.heap.size,7,none⟩=some (.string dt)) (by kernel_rfl) (by kernel_rfl) ?_ ?_
 · (try dsimp only);(repeat' apply And.intro)<;>go_simp
 repeat
  apply aI0 rfl rfl
  focus
   rintro w' ⟨q0,q1⟩;go_simp
   first|done|rfl
  simp only[Act.put,sA,sZ,sS]
 refine oS rfl rfl ?_;apply Exists.intro;apply Exists.intro;refine⟨?_,?_,?_⟩
 focus
  go_simp;exact⟨rfl,rfl⟩
 focus
  exact .inr ⟨rfl,rfl⟩
 simp only[Act.put,sA,sZ,sS];refine aS ?_;clear a8 y3 c3 c7 iC iG iI3;go_upto_region 28 with fail;refine aD (F:=λwz=>Bl w wz/\Blk wz w.heap.size #[.int .i64 5,core,f0,oo,nu,path,p2,dt] 28/\Blk wz (w.heap.size+1) () 52/\Blk wz g (bK L2) 5) ?_ ?_
 .have d2:w.heap.size+2<=g:=HX.out.2.2.2.2;have c2:g≠w.heap.size:=by omega
  have c4:g≠w.heap.size+1:=by omega
  have c5:=HX.out.1.trans ((bel wc wc.drew).mono HX.out.1.size);have hC:=aB HX.out.2.1 (bel wc wc.drew);have hR:=aB HX.out.2.2.1 (bel wc wc.drew);have hG:=aB HX.out.2.2.2.1 (bel wc wc.drew);refine⟨lU c5 (by omega) _,?_,?_,jW hG _⟩
  .unfold Blk at hC |-;rw[<-hC];exact setRow_other _ _ _ _ (λe=>c2 e.symm)
  unfold Blk at hR |-;rw[<-hR];exact setRow_other _ _ _ _ (λe=>c4 e.symm)
 clear HX;rintro wz ⟨hbz,hCz,hRz,hGz⟩;have c1:=HH.out.2.1.on hbz;have a0:=aB HH.out.1 hbz;obtain⟨hd1,hd2,cI,hd3⟩:=c1.setData HH.out.2.2 z;have a6:=b8.out.2 wz g hGz;have iI:=hd3.lt;have iF:=hd3.frozen (K*4+3);obtain⟨-,y3⟩:=c0.out wz hbz;have a7:Keep (λk=>k=bi) wz (wz.setCell ⟨bi,K*4+3,none⟩ (.string z)):=Keep.setCell (S:=λk=>k=bi) (p:=⟨bi,K*4+3,none⟩) (Keep.refl _ _) (.inl rfl) _;have n1:=a7.blk a0 (λe=>by subst e;exact a0.ne_ hd3 (by decide) rfl);have n2:=a7.blk hCz (λe=>by have:=hCz.ne_ hd3 (by decide);exact this e);have n3:=a7.blk hRz (λe=>by have:=hRz.ne_ hd3 (by decide);exact this e);have n4:Below B w (wz.setCell ⟨bi,K*4+3,none⟩ (.string z)):=(hbz.mono hB).trans (a7.below (zD hB hbz.size) (λi hi e=>by omega));have n5:Spared b w (wz.setCell ⟨bi,K*4+3,none⟩ (.string z)):=(Spared.of_below hbz).trans (Spared.set hd3 (.inr ⟨by decide,by decide,by decide⟩));have HN:=jj6 n1 hd1 n2 n3 n4 n5;clear hbz hCz hRz hGz c1 a0 hd1 hd2 hd3 a7 n1 n2 n3 n4 n5;go_upto_region 29 with fail;refine aD (F:=λwz=>Blk wz b #[.slice bi S.ins.length cap,.slice oa on oc,.slice ma mn mc] 26/\StOwn B wz (.slice bi S.ins.length cap) (.slice oa on oc) (.slice ma mn mc) { S with ins:=S.ins.set K { x with data:=z}}/\Blk wz w.heap.size #[.int .i64 5,core,f0,oo,nu,path,p2,dt] 28/\Blk wz (w.heap.size+1) () 52/\Below B w wz/\Spared b w wz) HN.out ?_;clear HN a6 iI iF y3;rintro wf ⟨f1,f2,fc,f3,f4,f5⟩;have iC:=fc.lt;have c7:=fc.cell 7;simp at c7;have l3:=f3.lt;have g0:=f3.cell 0;have d3:=f3.frozen 0;have g1:=f3.cell 1;have d4:=f3.frozen 1;have g2:=f3.cell 2;have d5:=f3.frozen 2;have g3:=f3.cell 3;have d6:=f3.frozen 3;have g4:=f3.cell 4;have d7:=f3.frozen 4;have g5:=f3.cell 5;have d8:=f3.frozen 5;simp at g0 g1 g2 g3 g4 g5;have HF:=nV f1 f2 f3 f4 f5;clear f1 f2 fc f3 f4 f5;go_wp2;exact xD (v:=aQ 0 0 dt.size) (by unfold results;simp only[results95,aQ];go_simp) rfl (ByOut.done (mY (r:=w.heap.size+1) kQ (by omega) hblt hB HF.out.2.2.1 HF.out.1 HF.out.2.1 HF.out.2.2.2.1 HF.out.2.2.2.2))
end
section
theorem aPV (n:Int) (x:PIn) (hd:x.dir=true):∀(es:List PEnt) (a:Int),vG n es a=a+cV n x es
 |[],a=>by simp[vG,cV]
 | e::r,a=>by
   unfold vG cV;rw[aPV n x hd r,hd,xC];split<;>simp<;>omega
theorem vK (n:Int) (x:PIn) (hd:x.dir=false):∀es:List PEnt,cV n x es=0
 |[]=>rfl
 | e::r=>by unfold cV;rw[vK n x hd r,hd];simp
theorem aPW (n:Int):∀(xs:List PIn) (a:Int),lkI n xs a=a+dA n xs
 |[],a=>by simp[lkI,dA]
 | x ::r,a=>by
   unfold lkI dA;rw[aPW n r];cases hd:x.dir with
   | true=>rw[zB rfl,aPV n x hd];push_cast;omega
   | false=>rw[zA (by decide),vK n x hd];simp
theorem lS (S:PSt) (n:Int):bX S n=dO S n:=by unfold bX dO;rw[aPW];omega
variable {S:PSt}
theorem aAT {c:PCall} (hk:c.kind=12\/c.kind=13\/c.kind=14):mA S c=match rD S c.path with
 |.error k=>.error k
 | .ok K=>match S.ins[K]? with
   |none=>.ok (S,PRes.zero)
   |some x=>if c.kind=12 then(if x.dir=true then .ok (S,{ PRes.zero with names:=x.ents.map PEnt.name})else .error 7)else if c.kind=13 then .ok (S,{ PRes.zero with dir:=x.dir,num:=if x.dir=true then 0 else x.data.size})else if x.dir=true then .error 8 else .ok (S,{ PRes.zero with num:=dO S x.num}):=by
 unfold mA rD;rw[zA (by omega),zA (by omega)];by_cases hp:(aA c.path).1≠0
 .rw[zB hp,zB hp]
 rw [zA hp,zA hp];unfold aBW aHA uA;by_cases hw:(aK S 0 (aA c.path).2).2≠0
 .rw[zB hw];simp only[zB hw]
  repeat' split
  all_goals rfl
 rw[zA hw];simp only[zA hw];rcases hx:S.ins[(aK S 0 (aA c.path).2).1]? with _|x
 .simp
 rcases hk with e|e|e
 .simp only[zB e];rfl
 .simp only[zA (show ¬c.kind=12 by omega),zB e];rfl
 simp only[zA (show ¬c.kind=12 by omega),zA (show ¬c.kind=13 by omega)]
theorem aZH (M:MayX S) (c:PCall) (hk:c.kind=12\/c.kind=13\/c.kind=14) (iv ov mv:Value) (ww:World) (h:StRead ww iv ov mv S):
 Calls prog 97 #[.agg #[iv,ov,mv],.agg #[c.kind,c.core,c.fd,c.off,c.num,c.path,c.path2,c.data]] ww (aWY ww S (mA S c)):=by
 rw[aAT hk];have hf:=M.find_ c.path;rcases hat:rD S c.path with k|K
 .rw[hat]at hf;obtain⟨hk0,n,hn⟩:=hf;refine(aTK S iv ov mv c.kind c.core c.fd c.off c.num c.path c.path2 c.data ww h M.fineR n k hn hk0).mono ?_;rintro e w' ⟨nv,rfl,hb,-,hz⟩;have:=hz hk0;subst this;exact⟨rfl,hb⟩
 rw [hat]at hf;obtain⟨y,hn,hy,hK⟩:=hf;have hw:=aTL S iv ov mv c.kind c.core c.fd c.off c.num c.path c.path2 c.data ww h M.fineR hk y.num 0 hn rfl K y hK hy;simp only[hy];refine hw.mono ?_;rintro e w' ⟨nv,rfl,hb,hnm,hz⟩;unfold pF at hnm hz |-;by_cases e1:c.kind=12
 .simp only[zB e1]at hnm hz |-;cases hd:y.dir with
  | false=>simp only[hd,if_true,zP,if_false]at hnm hz |-;have:=hz (by decide);subst this;exact⟨rfl,hb⟩
  | true=>simp only[hd,if_true,Bool.true_eq_false,if_false]at hnm hz |-;exact⟨rfl,nv,rfl,hb,hnm⟩
 simp only[zA e1]at hnm hz |-;by_cases e2:c.kind=13
 .simp only[zB e2]at hnm hz |-;refine⟨rfl,nv,?_,hb,hnm⟩;cases hd:y.dir with
  | true=>have:=M.bare y (mG hy) hd;simp[this,PRes.zero];rfl
  | false=>simp[PRes.zero];rfl
 simp only[zA e2]at hnm hz |-;cases hd:y.dir with
 | true=>simp only[hd,if_true]at hnm hz |-;have:=hz (by decide);subst this;exact⟨rfl,hb⟩
 | false=>simp only[hd,zP,if_false]at hnm hz |-;refine⟨rfl,nv,?_,hb,hnm⟩;rw[lS];rfl
end
section
theorem nW (S:PSt) (c:PCall) (r:PRes):jO S c r=match bW S c.path with
 |.error k=>.error k
 | .ok (K,l)=>match S.ins[K]? with
   |none=>.error 0
   | some x=>if bR x.ents l=true then .error 2 else match S.made[c.core.toNat]? with
     |none=>.error 0
     |some m=>if(eZ x.ents l ⟨#[]⟩||decide (32<=m))=true then .error 5 else .ok (dC S c K x l m,r):=by
 unfold jO bW pP;by_cases hp:(aA c.path).1≠0
 .rw[zB hp,zB hp]
 rw[zA hp,zA hp];rcases bB S (aA c.path).2 with k|⟨K,l⟩<;>rfl
theorem aAU {ns:List Int} (h:Rise ns) (n:Int) (hb:∀(j:Nat) (a:Int),ns[j]? =some a->0<=a/\a<=1000) (hn:0<=n/\n<=1000):lB ns n<=ns.length/\(∀(i:Nat) (a:Int),i<lB ns n->ns[i]? =some a->a<n)/\(∀(i:Nat) (a:Int),lB ns n<=i->ns[i]? =some a->n<=a):=by
 have hc:∀(j:Nat) (a:Int),ns[j]? =some a->(vQ ns n j<0↔a<n):=λj a ha=>by
  have:=hb j a ha;have e:vQ ns n j=a-n:=by unfold vQ sV;rw[ha];show wrap64 (a-n)=a-n;unfold wrap64;omega
  rw[e];omega
 unfold lB;obtain⟨h1,h2,h3,h4⟩:=iY (vQ ns n) ns.length 0 ns.length (by omega) (by omega) (λi j a c d e=>by
  rw[hc j _ (gE d)]at e;rw[hc i _ (gE (by omega:i<ns.length))];by_cases hij:i=j
  .subst hij;exact e
  have:=h i j _ _ (gE (by omega)) (gE d) (by omega);omega)
 refine⟨h2,λi a hi ha=>?_,λi a hi ha=>?_⟩
 .exact(hc i a ha).1 (h3 i (by omega) hi)
 obtain⟨hl,_⟩:=gI.1 ha;exact Int.not_lt.1 (λe=>h4 i hi hl ((hc i a ha).2 e))
variable {K k:Nat} {S:PSt} {m:Int} {x:PIn}
theorem nD (hx:S.ins[K]? =some x) (es:List PEnt):(S.ents K x es).nums=S.nums:=by
 unfold PSt.nums PSt.ents;simp only[map_set];apply ext_getElem?;intro i;rw[getElem?_set];split
 .rename_i h
  subst h;rw[gM,hx];obtain⟨hl,_⟩:=gI.1 hx;simp[hl]
 rfl
theorem MayX.fresh (M:MayX S) (hk:k<8) (hm:S.made[k]? =some m) (h0:0<=m):∀(i:Nat) (a:Int),S.nums[i]? =some a->a≠2+k+8*m:=by
 intro i a ha he;obtain⟨x,hx,hn⟩:=rW ha;rcases i with _|i
 .obtain⟨x0,h1,h2,_⟩:=M.head;rw[h1]at hx;cases hx;omega
 have:=M.nums (i+1) x hx (by omega);unfold dH at this;rw[zA (by omega),hn,he,show((2+(k:Int)+8*m-2)%8).toNat=k by omega,hm]at this;simp only[zI]at this;omega
theorem MayX.small (M:MayX S):∀(j:Nat) (a:Int),S.nums[j]? =some a->0<=a/\a<=1000:=by
 intro j a ha;obtain⟨x,hx,hn⟩:=rW ha;have h1:=M.pos hx;rcases j with _|j
 .obtain⟨x0,h2,h3,_⟩:=M.head;rw[h2]at hx;cases hx;omega
 have:=M.nums (j+1) x hx (by omega);unfold dH at this;split at this
 .cases this
 split at this
 .rename_i m hm
  have:=M.made m (mG hm);rename_i h9;simp only[zI]at h9;omega
 cases this
theorem aUF (M:MayX S) (c:PCall) {l:ByteArray} (hc:c.core=k) (hk:k<8) (hx:S.ins[K]? =some x) (hh:bR x.ents l=false) (hm:S.made[k]? =some m) (h0:0<=m) (h32:m<32):mkK S K x l k m (c.kind==1)=dC S c K x l m:=by
 have e1:=xL (M.asc x (mG hx)) hh (⟨l,2+(k:Int)+8*m⟩:PEnt);have a3:c.core.toNat=k:=by omega
 unfold mkK dC;simp only[e1,hc];have a1:=nD hx (aX x.ents (cY x.ents l) ⟨l,2+(k:Int)+8*m⟩);obtain⟨b1,b2,b3⟩:=aAU M.tree.rise (2+(k:Int)+8*m) M.small (by omega);have a2:cQ (λy=>decide (2+(k:Int)+8*m<y.num)) (⟨2+(k:Int)+8*m,c.kind==1,[],⟨#[]⟩⟩:PIn) (S.ents K x (aX x.ents (cY x.ents l) ⟨l,2+(k:Int)+8*m⟩)).ins false []=aX (S.ents K x (aX x.ents (cY x.ents l) ⟨l,2+(k:Int)+8*m⟩)).ins (lB S.nums (2+(k:Int)+8*m)) ⟨2+(k:Int)+8*m,c.kind==1,[],⟨#[]⟩⟩:=by
  refine xH ?_ (λi e hi he=>?_) (λe he=>?_)
  .have:(S.ents K x (aX x.ents (cY x.ents l) ⟨l,2+(k:Int)+8*m⟩)).ins.length=S.nums.length:=by
    unfold PSt.nums PSt.ents;simp
   omega
  .have:=cC he;rw[a1]at this;have:=b2 i e.num hi this;simp only[yW];omega
  have h5:=cC he;rw[a1]at h5;have h6:=b3 _ e.num (zC _) h5;have h7:=M.fresh hk hm h0 _ _ h5;simp only[zI];omega
 have a0:((k:Int)).toNat=k:=by omega
 rw[a0];show PSt.mk _ _ _=PSt.mk _ _ _;congr 1
theorem aZI (M:MayX S) (c:PCall) (hk:c.kind=0\/c.kind=1) (hc0:0<=c.core) (hc1:c.core<S.made.length) (B b:Nat) (iv ov mv:Value) (ww:World) (hb:Blk ww b #[iv,ov,mv] 26) (ho:StOwn B ww iv ov mv S) (hB:B<=ww.heap.size) (hBb:B<=b):
 Calls prog 93 #[.pointer b,.agg #[c.kind,c.core,c.fd,c.off,c.num,c.path,c.path2,c.data]] ww (ByOut B b ww (jO S c PRes.zero)):=by
 rw[nW];have hp:=M.par c.path;rcases hpx:bW S c.path with q|⟨K,l⟩
 .rw[hpx]at hp;obtain⟨hq,D,nm,hpar⟩:=hp;exact aTM b S iv ov mv c.kind c.core c.fd c.off c.num c.path c.path2 c.data ww hb ho.read M.fineR D nm q hpar hq
 rw [hpx]at hp;obtain⟨y,hpar,hy,hat,hd,hl⟩:=hp;simp only[hy];have a1:∀e∈y.ents,e.name.size<=1000000000:=λe he=>by have:=M.tree.name y (mG hy) e he;omega
 cases hh:bR y.ents l with
 | true=>simp only[if_true];obtain⟨e,he,hn,hen,h0,hm⟩:=M.ent_hit hat hy hh;exact aTN b S iv ov mv c.kind c.core c.fd c.off c.num c.path c.path2 c.data ww hb ho.read M.fineR y.num l 0 hpar rfl (by rw[hen];exact h0)
 | false=>
   simp only[zP,if_false];have a0:=M.ent_miss hat hy hh;obtain⟨k,hk0⟩:∃k:Nat,c.core=k:=⟨c.core.toNat,by omega⟩;have a4:k<S.made.length:=by omega
   have a2:k<8:=by have:=M.cores;omega
   have hm:=gE a4;rw[hk0,zJ,hm];simp only;generalize S.made[k]=m at hm;have a3:=M.made m (mG hm);cases hF:eZ y.ents l ⟨#[]⟩with
   | true=>simp only[Bool.true_or,if_true];exact aTO b S iv ov mv c.kind k c.fd c.off c.num c.path c.path2 c.data ww hb ho.read M.fineR y.num l 0 hpar rfl a0 K y hat hy (by omega) a1 (by rw[mU];exact hF)
   | false=>
     by_cases h32:32<=m
     .simp only[h32,decide_true,Bool.or_true,if_true];exact aTP b S iv ov mv c.kind k c.fd c.off c.num c.path c.path2 c.data ww hb ho.read M.fineR y.num l 0 hpar rfl a0 K y hat hy (by omega) a1 (by rw[mU];exact hF) k rfl m hm h32
     simp only[h32,decide_false,Bool.or_false,zP,if_false];rw[<-aUF M c hk0 a2 hy hh hm a3.1 (by omega)];exact aWC B b S iv ov mv c.kind c.fd c.off c.num c.path c.path2 c.data l y.num K y k m ww hb ho hB hBb M.fineR hpar hat hy (by omega) a0 (by rw[mU];exact hF) a1 hm ⟨a3.1,by omega⟩ a2
end
section
def upX (X:Except Int PSt):Except Int (PSt × PRes):=match X with
 |.error k=>.error k
 |.ok S'=>.ok (S',⟨0,0,0,false,⟨#[]⟩,[]⟩)
theorem RefOut.up {B b:Nat} {w w':World} {X:Except Int PSt} {e:Ending} (h:RefOut B b w X e w'):ByOut B b w (upX X) e w':=by
 cases X with
 |error k=>exact h
 |ok S'=>exact h
variable {S:PSt}
theorem aPX (M:MayX S) (c:PCall):∃X:Except Int PSt,nP S c PRes.zero=upX X/\∀(B b:Nat) (iv ov mv:Value) (ww:World),Blk ww b #[iv,ov,mv] 26->StOwn B ww iv ov mv S->B<=ww.heap.size->B<=b->
 Calls prog 126 #[.pointer b,.agg #[c.kind,c.core,c.fd,c.off,c.num,c.path,c.path2,c.data]] ww (RefOut B b ww X):=by
 unfold nP;have hf:=M.find_ c.path;rcases hat:rD S c.path with k|K
 .rw[hat]at hf;obtain⟨hk0,n,hn⟩:=hf;exact⟨.error k,rfl,λB b iv ov mv ww hb ho hB hBb=>aOT b S iv ov mv c.kind c.core c.fd c.off c.num c.path c.path2 c.data ww hb ho.read M.fineR n k hn hk0⟩
 rw [hat]at hf;obtain⟨x,hn,hx,hK⟩:=hf;simp only[hx];cases hd:x.dir with
 |true=>exact⟨.error 8,rfl,λB b iv ov mv ww hb ho hB hBb=>aOU b S iv ov mv c.kind c.core c.fd c.off c.num c.path c.path2 c.data ww hb ho.read M.fineR x.num 0 hn rfl K x hK hx hd⟩
 | false =>
   simp only[zP,if_false];have hp:=M.par c.path2;rcases hpx:bW S c.path2 with q|⟨K1,l⟩
   .rw[hpx]at hp;obtain⟨hq,D,nm,hpar⟩:=hp;exact⟨.error q,rfl,λB b iv ov mv ww hb ho hB hBb=>aOV b S iv ov mv c.kind c.core c.fd c.off c.num c.path c.path2 c.data ww hb ho.read M.fineR x.num 0 hn rfl K x hK hx hd D nm q hpar hq⟩
   rw [hpx]at hp;obtain⟨y,hpar,hy,hat1,hyd,hl⟩:=hp;have a1:∀e∈y.ents,e.name.size<=1000000000:=λe he=>by have:=M.tree.name y (mG hy) e he;omega
   unfold wN;simp only[hy];cases hh:bR y.ents l with
   | true=>obtain⟨e,he,hen0,hen,h0,hm⟩:=M.ent_hit hat1 hy hh;exact⟨.error 2,rfl,λB b iv ov mv ww hb ho hB hBb=>aOW b S iv ov mv c.kind c.core c.fd c.off c.num c.path c.path2 c.data ww hb ho.read M.fineR x.num 0 hn rfl K x hK hx hd y.num l 0 hpar rfl (by rw[hen];exact h0)⟩
   | false=>
     have a0:=M.ent_miss hat1 hy hh;cases hF:eZ y.ents l ⟨#[]⟩with
     |true=>exact⟨.error 5,rfl,λB b iv ov mv ww hb ho hB hBb=>aOX b S iv ov mv c.kind c.core c.fd c.off c.num c.path c.path2 c.data ww hb ho.read M.fineR x.num 0 hn rfl K x hK hx hd y.num l 0 hpar rfl a0 K1 y hat1 hy (by omega) a1 (by rw[mU];exact hF)⟩
     | false=>refine⟨.ok (S.ents K1 y (aX y.ents (cY y.ents l) ⟨l,x.num⟩)),rfl,λB b iv ov mv ww hb ho hB hBb=>?_⟩;have:=aTJ B b S iv ov mv c.kind c.core c.fd c.off c.num c.path c.path2 c.data ww hb ho hB M.fineR x.num 0 hn rfl K x hK hx hd y.num l 0 hpar rfl a0 K1 y hat1 hy (by omega) a1 (by rw[mU];exact hF) hBb;rw[xL (M.asc y (mG hy)) hh]at this;exact this
theorem aXB (M:MayX S) (c:PCall) (hk:c.kind=8) (B b:Nat) (iv ov mv:Value) (ww:World) (hb:Blk ww b #[iv,ov,mv] 26) (ho:StOwn B ww iv ov mv S) (hB:B<=ww.heap.size) (hBb:B<=b):
 Calls prog 96 #[.pointer b,.agg #[c.kind,c.core,c.fd,c.off,c.num,c.path,c.path2,c.data]] ww (ByOut B b ww (nP S c PRes.zero)):=by
 obtain⟨X,hX,hin⟩:=aPX M c;rw[hX];rw[hk]at hin |-;exact(aSK B b S iv ov mv c.core c.fd c.off c.num c.path c.path2 c.data ww hb hB X (λw2 hw=>hin B b iv ov mv w2 (aB hb hw) (ho.on hw) (zD hB hw.size) hBb)).mono λe w' h=>h.up
end
end Go.Proofs.YtmkapobnfigedaaGreatDoor
