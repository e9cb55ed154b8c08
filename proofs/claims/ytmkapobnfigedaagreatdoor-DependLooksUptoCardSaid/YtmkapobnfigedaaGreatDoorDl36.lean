/- Part of the proof of a law of chapter 15. Conditions: none. -/
import Derived.Test.YtmkapobnfigedaaGreatDoorDl31
import Derived.Test.YtmkapobnfigedaaGreatDoorDl35
import Derived.Test.YtmkapobnfigedaaGreatDoorDl32
set_option linter.unusedVariables false
set_option linter.unusedSimpArgs false
set_option maxRecDepth 100000
set_option maxHeartbeats 8000000
namespace Go.Proofs.YtmkapobnfigedaaGreatDoor
open Go.RowKit
theorem aCX (had:ByteArray) (n:Nat) (w:World) (hn:n<=1000000):
 Calls Tryz.prog 125 #[.string had,.int .i64 n] w λe w'=>∃g,e=.returned (.slice (some ⟨g,0,none⟩) n n)/\Below w.heap.size w w'/\w.heap.size<=g/\Blk w' g (bC (qJ had.data.toList n)) 5:=by
 have a2:=λu=>mkN n (by omega) u;have a0:=vM had n;generalize qJ had.data.toList n=L1 at a0 |-;have HC:=aG a0;clear a0;go_enter Tryz.func125,Tryz.ntmps125;go_upto_region 2 with fail;refine aI (F:=λW=>Blk W w.heap.size (bC (List.replicate n 0)) 5/\Below w.heap.size w W) ⟨Blk.new _ _ _,bel _ _⟩ ?_;obtain⟨g,hg⟩:∃g,w.heap.size=g:=⟨_,rfl⟩;rw[hg];rintro W ⟨hB,hbW⟩;have iG:=hB.lt;obtain⟨m0,hm0⟩:=HC.out g W hB;have HW:=bB hB hbW;have HG:=aG hg;clear hB hbW hg a2;go_upto_region 3 with fail;refine aI (F:=λW2=>Blk W2 g (bC L1) 5/\Below g w W2) ⟨hU HW.out.1 _,kN HW.out.2 (zC _) _⟩ ?_;clear hm0 iG;rintro W2 ⟨hB2,hbW2⟩;have a1:=bB hB2 hbW2;clear hB2 hbW2;go_wp2_with fail;go_ret;exact⟨g,rfl,by rw[HG.out];exact a1.out.2,by rw[HG.out];exact zC _,a1.out.1⟩
section
structure RS (Z P:Nat) (U:Nat->List Nat) (V:Nat->Value) (n:Nat) (arr:Array Value) (q:Addr) (v:Value) (w0:World) (D:Nat->Prop) (σ:Nat->Value) (w:World):Prop where
 vals:∀i,i<Z->i≠P->D i->σ i=V i
 sl:¬D Z->D P->∃g,σ P=.slice (some ⟨g,0,none⟩) n n/\Blk w g arr 5
 all:D Z->∀i,i<Z->D i
 bel:¬D Z->Below w0.heap.size w0 w
 fin:D Z->∃w1,Below w0.heap.size w0 w1/\w=w1.setCell q v
 cl:∀i,i<Z->D i->∀k,k∈U i->D k
section
variable {Z P n T:Nat} {U:Nat->List Nat} {V:Nat->Value} {arr:Array Value} {q:Addr} {v:Value} {w0 w w':World} {D:Nat->Prop} {σ:Nat->Value}
theorem RS.zero (hZ:Z<T) (hP:P<T) (hb:Below w0.heap.size w0 w):RS Z P U V n arr q v w0 (λj=>T<=j) σ w:=
 ⟨λi hi _ h=>absurd h (by omega),λ_ h=>absurd h (by omega),λh=>absurd h (by omega),λ_=>hb,λh=>absurd h (by omega),λi hi h=>absurd h (by omega)⟩
theorem RS.noZ (h:RS Z P U V n arr q v w0 D σ w) {i:Nat} (hi:i<Z) (hnd:¬D i):¬D Z:=λhz=>hnd (h.all hz i hi)
theorem RS.val (h:RS Z P U V n arr q v w0 D σ w) (i:Nat) (hi:i<Z) (hP:P≠i) (hnd:¬D i) (hu:∀k,k∈U i->D k):RS Z P U V n arr q v w0 (λj=>j=i\/D j) (lW σ i (V i)) w:=
 have hz:=h.noZ hi hnd;have a0:¬(Z=i\/D Z):=λe=>e.elim (λe=>by omega) hz
 ⟨λk hk h1 hd=>by
  by_cases e:k=i
  .subst e;exact zB rfl
  .exact(zA e).trans (h.vals k hk h1 (hd.resolve_left e)),
  λ_ hd=>by
   obtain⟨g,e,hg⟩:=h.sl hz (hd.resolve_left hP);exact⟨g,(zA hP).trans e,hg⟩,
  λe=>absurd e a0,λ_=>h.bel hz,λe=>absurd e a0,λk hk hd m hm=>by
   by_cases e:k=i
   .subst e;exact .inr (hu m hm)
   exact .inr (h.cl k hk (hd.resolve_left e) m hm)⟩
theorem RS.call (h:RS Z P U V n arr q v w0 D σ w) (hP:P<Z) (hnd:¬D P) (hu:∀k,k∈U P->D k) {g:Nat} (hb:Below w.heap.size w w') (hg:Blk w' g arr 5):RS Z P U V n arr q v w0 (λj=>j=P\/D j) (lW σ P (.slice (some ⟨g,0,none⟩) n n)) w':=
 have hz:=h.noZ hP hnd;have a0:¬(Z=P\/D Z):=λe=>e.elim (λe=>by omega) hz
 ⟨λk hk h1 hd=>(zA h1).trans (h.vals k hk h1 (hd.resolve_left h1)),λ_ _=>⟨g,zB rfl,hg⟩,
  λe=>absurd e a0,λ_=>(h.bel hz).trans (hb.mono (h.bel hz).size),λe=>absurd e a0,λk hk hd m hm=>by
   by_cases e:k=P
   .subst e;exact .inr (hu m hm)
   exact .inr (h.cl k hk (hd.resolve_left e) m hm)⟩
theorem RS.store (h:RS Z P U V n arr q v w0 D σ w) (hnd:¬D Z) (hP:P≠Z) (hw:∀i,i<Z->D i):RS Z P U V n arr q v w0 (λj=>j=Z\/D j) (lW σ Z undef) (w.setCell q v):=
 ⟨λk hk h1 hd=>(zA (by omega)).trans (h.vals k hk h1 (hd.resolve_left (by omega))),λhz=>absurd (.inl rfl) hz,λ_ i hi=>.inr (hw i hi),λhz=>absurd (.inl rfl) hz,λ_=>⟨w,h.bel hnd,rfl⟩,λk hk hd m hm=>.inr (h.cl k hk (hd.resolve_left (by omega)) m hm)⟩
end
def vTr (bi K nn c:Nat) (d e:ByteArray):Nat->Value
 |0=>.pointer (some ⟨bi,K*4,none⟩)
 |1=>.pointer (some ⟨bi,K*4,none⟩)
 |2=>.pointer (some ⟨bi,K*4,none⟩)
 |3=>.pointer (some ⟨bi,K*4+3,none⟩)
 |4=>.string d
 |5=>.pointer (some ⟨c,4,none⟩)
 |6=>.int .i64 nn
 |7=>undef
 |8=>.string (e)
 |9=>.pointer (some ⟨bi,K*4,none⟩)
 |10=>.pointer (some ⟨bi,K*4+3,none⟩)
 |_=>undef
def uTr:Nat->List Nat
 |2=>[1]
 |3=>[2]
 |4=>[3]
 |6=>[5]
 |7=>[4,6]
 |8=>[7]
 |9=>[0]
 |10=>[9]
 |_=>[]
theorem aSK (B b:Nat) (S:PSt) (iv ov mv:Value) (core f0 off nu:Int) (path p2 dt:ByteArray) (w:World) (hb:Blk w b #[iv,ov,mv] 26) (ho:StOwn B w iv ov mv S) (hB:B<=w.heap.size) (hBb:B<=b) (hwf:S.wf) (num:Int) (hfd:nU S core f0=num) (hn0:num≠0) (K:Nat) (x:PIn) (hat:bH S num=K) (hx:S.ins[K]? =some x) (nn:Nat) (hnn:nu=nn) (hn1:nn<=256):
 Calls Tryz.prog 95 #[.pointer (some ⟨b,0,none⟩),.agg #[.int .i64 6,.int .i64 core,.int .i64 f0,.int .i64 off,.int .i64 nu,.string path,.string p2,.string dt]] w (ByOut B b w (.ok ({ S with ins:=S.ins.set K { x with data:=oL x.data nn}},⟨0,0,0,false,{ data:=#[]},[]⟩))):=by
 have a6:=c43 ho.read hwf.2.1 hfd;have b3:=λk ww=>aY k ww;have a7:=sE ho.read hwf.1 hat;obtain⟨bi,cap,ma,mn,mc,oa,on,oc,rfl,rfl,rfl,hcz,iI,x3,hKI,hnb,iL,hblt,s0,s1,s2⟩:=kC hb ho hwf hx hn0;have HH:=dR hb ho hx;subst hnn;have b1:¬(nn:Int)<0:=by omega
 have b2:¬(256:Int)<nn:=by omega
 clear hb ho hwf hfd hx hat hn0;have b4:=aG hcz;clear hcz;go_enter Tryz.func95,Tryz.ntmps95;go_upto_region 1 with fail;refine qR ?_
 repeat(go_big_quiet_step ((with_reducible first|refine cI (a6 _ (bel _ _))|refine cJ (a6 _ (bel _ _)))))
 refine QN λp=>?_;go_wp2_with fail;refine qR ?_
 repeat(go_big_quiet_step ((with_reducible first|refine cI (a7 _ (bel _ _))|refine cJ (a7 _ (bel _ _)))))
 refine QN λp=>?_;go_upto_region 33 with fail;refine aI (F:=λwa=>Blk wa w.heap.size #[.int .i64 6,.int .i64 core,.int .i64 f0,.int .i64 off,.int .i64 nn,.string path,.string p2,.string dt] 28/\Blk wa (w.heap.size+1) #[.int .i64 0,.int .i64 0,.int .i64 0,.bool false,.string { data:=#[]},.slice none 0 0] 52/\Below w.heap.size w wa) ⟨aB (Blk.new w #[.int .i64 6,.int .i64 core,.int .i64 f0,.int .i64 off,.int .i64 nn,.string path,.string p2,.string dt] 28) (bel _ _),aB (Blk.new_i (w.alloc (.cells #[.int .i64 6,.int .i64 core,.int .i64 f0,.int .i64 off,.int .i64 nn,.string path,.string p2,.string dt] 28)) #[.int .i64 0,.int .i64 0,.int .i64 0,.bool false,.string { data:=#[]},.slice none 0 0] 52 (w.heap.size+1)) (bel _ _),bel w _⟩ ?_;rintro W ⟨hc,hr,hbw⟩;obtain⟨iI3,y3⟩:=b4.out W hbw;have c4:=hc.cell 4;simp at c4;have jC:w.heap.size<W.heap.size:=hc.lt.lt;have jI:bi<W.heap.size:=iI3.lt;have a0:∀w1,Below W.heap.size W w1->_:=λw1 h1=>(HH.out.2.1.on (hbw.trans (h1.mono hbw.size))).setData HH.out.2.2 (oL x.data nn);have a1:∀ww,Calls Tryz.prog 125 #[.string x.data,.int .i64 nn] ww _:=λww=>aCX x.data nn ww (by omega);have e0:B<=W.heap.size:=zD hB hbw.size;have b0:=aB HH.out.1 hbw;have HW:=kL hc hr hbw b0;clear s0 s1 s2 x3 iI iL hc hr hbw b0 a7 a6;refine gD (RS 11 7 uTr (vTr bi K nn w.heap.size x.data (oL x.data nn)) nn (bC (qJ x.data.data.toList nn)) ⟨bi,K*4+3,none⟩ (.string (oL x.data nn)) W) (by kernel_rfl) (by kernel_rfl) (by kernel_rfl) (λσ=>RS.zero (by decide) (by decide) (bel W _)) ?_ ?_
 .refine⟨?_,?_,?_,?_,?_,?_,?_,?_,?_,?_,?_,?_,trivial⟩
  .intro D σ w1 a hnd hw hR hin hout;have hz:=hR.noZ (by decide) hnd;have a2:=hR.bel hz;have e6:(a.tmps[6]?).getD undef=.pointer (some ⟨bi,K*4,none⟩):=(cD a 6).symm.trans ((hout 6 (by kernel_rfl)).trans (by kernel_rfl));refine aP (v:=.pointer (some ⟨bi,K*4,none⟩)) (w':=w1) ?_ (hR.val 0 (by decide) (by decide) hnd (λk hk=>by cases hk));clear hin hout hw hR a0 a1;go_simp
   first|done|rfl
  .intro D σ w1 a hnd hw hR hin hout;have hz:=hR.noZ (by decide) hnd;have a2:=hR.bel hz;have e6:(a.tmps[6]?).getD undef=.pointer (some ⟨bi,K*4,none⟩):=(cD a 6).symm.trans ((hout 6 (by kernel_rfl)).trans (by kernel_rfl));refine aP (v:=.pointer (some ⟨bi,K*4,none⟩)) (w':=w1) ?_ (hR.val 1 (by decide) (by decide) hnd (λk hk=>by cases hk));clear hin hout hw hR a0 a1;go_simp
   first|done|rfl
  .intro D σ w1 a hnd hw hR hin hout;have hz:=hR.noZ (by decide) hnd;have a2:=hR.bel hz;have b5:(a.tmps[205]?).getD undef=.pointer (some ⟨bi,K*4,none⟩):=(cD a 205).symm.trans ((hin 1 _ 205 rfl rfl).trans (hR.vals 1 (by decide) (by decide) (hw 1 (by kernel_rfl))));refine aP (v:=.pointer (some ⟨bi,K*4,none⟩)) (w':=w1) ?_ (hR.val 2 (by decide) (by decide) hnd (λk hk=>by have hk:k∈[1]:=hk;simp only[List.mem_cons,List.not_mem_nil,or_false]at hk;rcases hk with rfl<;>first|exact hw 1 (by kernel_rfl)));clear hin hout hw hR a0 a1;go_simp
   first|done|rfl
  .intro D σ w1 a hnd hw hR hin hout;have hz:=hR.noZ (by decide) hnd;have a2:=hR.bel hz;have b6:(a.tmps[206]?).getD undef=.pointer (some ⟨bi,K*4,none⟩):=(cD a 206).symm.trans ((hin 2 _ 206 rfl rfl).trans (hR.vals 2 (by decide) (by decide) (hw 2 (by kernel_rfl))));refine aP (v:=.pointer (some ⟨bi,K*4+3,none⟩)) (w':=w1) ?_ (hR.val 3 (by decide) (by decide) hnd (λk hk=>by have hk:k∈[2]:=hk;simp only[List.mem_cons,List.not_mem_nil,or_false]at hk;rcases hk with rfl<;>first|exact hw 2 (by kernel_rfl)));clear hin hout hw hR a0 a1;go_simp
   first|done|rfl
  .intro D σ w1 a hnd hw hR hin hout;have hz:=hR.noZ (by decide) hnd;have a2:=hR.bel hz;have b7:(a.tmps[207]?).getD undef=.pointer (some ⟨bi,K*4+3,none⟩):=(cD a 207).symm.trans ((hin 3 _ 207 rfl rfl).trans (hR.vals 3 (by decide) (by decide) (hw 3 (by kernel_rfl))));have hl:=(a2.cell (p:=⟨bi,K*4+3,none⟩) jI).trans y3;have iX:BlockLt bi w1:=⟨zR jI a2.size⟩
   refine aP (v:=.string x.data) (w':=w1) ?_ (hR.val 4 (by decide) (by decide) hnd (λk hk=>by have hk:k∈[3]:=hk;simp only[List.mem_cons,List.not_mem_nil,or_false]at hk;rcases hk with rfl<;>first|exact hw 3 (by kernel_rfl)));clear hin hout hw hR a0 a1;go_simp
   first|done|rfl
  .intro D σ w1 a hnd hw hR hin hout;have hz:=hR.noZ (by decide) hnd;have a2:=hR.bel hz;have e3:(a.tmps[3]?).getD undef=.pointer (some ⟨w.heap.size,0,none⟩):=(cD a 3).symm.trans ((hout 3 (by kernel_rfl)).trans (by kernel_rfl));refine aP (v:=.pointer (some ⟨w.heap.size,4,none⟩)) (w':=w1) ?_ (hR.val 5 (by decide) (by decide) hnd (λk hk=>by cases hk));clear hin hout hw hR a0 a1;go_simp
   first|done|rfl
  .intro D σ w1 a hnd hw hR hin hout;have hz:=hR.noZ (by decide) hnd;have a2:=hR.bel hz;have b8:(a.tmps[209]?).getD undef=.pointer (some ⟨w.heap.size,4,none⟩):=(cD a 209).symm.trans ((hin 5 _ 209 rfl rfl).trans (hR.vals 5 (by decide) (by decide) (hw 5 (by kernel_rfl))));have hl:=(a2.cell (p:=⟨w.heap.size,4,none⟩) jC).trans c4;have iX:BlockLt w.heap.size w1:=⟨zR jC a2.size⟩
   refine aP (v:=.int .i64 nn) (w':=w1) ?_ (hR.val 6 (by decide) (by decide) hnd (λk hk=>by have hk:k∈[5]:=hk;simp only[List.mem_cons,List.not_mem_nil,or_false]at hk;rcases hk with rfl<;>first|exact hw 5 (by kernel_rfl)));clear hin hout hw hR a0 a1;go_simp
   first|done|rfl
  .intro D σ w1 a hnd hw hR hin hout;have hz:=hR.noZ (by decide) hnd;have a2:=hR.bel hz;have b9:(a.tmps[208]?).getD undef=.string x.data:=(cD a 208).symm.trans ((hin 4 _ 208 rfl rfl).trans (hR.vals 4 (by decide) (by decide) (hw 4 (by kernel_rfl))));have c0:(a.tmps[210]?).getD undef=.int .i64 nn:=(cD a 210).symm.trans ((hin 6 _ 210 rfl rfl).trans (hR.vals 6 (by decide) (by decide) (hw 6 (by kernel_rfl))));refine aS 125 #[.string x.data,.int .i64 nn] ?_ ((a1 w1).mono ?_)
   .clear hin hout hw hR a0 a1;go_simp
    first|done|rfl
   rintro e w' ⟨g,rfl,hqb,-,hg⟩;exact⟨_,rfl,hR.call (by decide) hnd (λk hk=>by have hk:k∈[4,6]:=hk;simp only[List.mem_cons,List.not_mem_nil,or_false]at hk;rcases hk with rfl|rfl<;>first|exact hw 4 (by kernel_rfl)|exact hw 6 (by kernel_rfl)) hqb hg⟩
  .intro D σ w1 a hnd hw hR hin hout;have hz:=hR.noZ (by decide) hnd;have a2:=hR.bel hz;obtain⟨g,eg,hg⟩:=hR.sl hz (hw 7 (by kernel_rfl));have c1:(a.tmps[211]?).getD undef=.slice (some ⟨g,0,none⟩) nn nn:=(cD a 211).symm.trans ((hin 7 _ 211 rfl rfl).trans eg);have c2:=cvN w1 g nn nn (qJ x.data.data.toList nn) hg (sW _ _);refine aP (v:=.string (oL x.data nn)) (w':=w1) ?_ (hR.val 8 (by decide) (by decide) hnd (λk hk=>by have hk:k∈[7]:=hk;simp only[List.mem_cons,List.not_mem_nil,or_false]at hk;rcases hk with rfl<;>first|exact hw 7 (by kernel_rfl)));clear hin hout hw hR a0 a1 hg;go_simp
   first|done|rfl|exact c2
  .intro D σ w1 a hnd hw hR hin hout;have hz:=hR.noZ (by decide) hnd;have a2:=hR.bel hz;have c3:(a.tmps[204]?).getD undef=.pointer (some ⟨bi,K*4,none⟩):=(cD a 204).symm.trans ((hin 0 _ 204 rfl rfl).trans (hR.vals 0 (by decide) (by decide) (hw 0 (by kernel_rfl))));refine aP (v:=.pointer (some ⟨bi,K*4,none⟩)) (w':=w1) ?_ (hR.val 9 (by decide) (by decide) hnd (λk hk=>by have hk:k∈[0]:=hk;simp only[List.mem_cons,List.not_mem_nil,or_false]at hk;rcases hk with rfl<;>first|exact hw 0 (by kernel_rfl)));clear hin hout hw hR a0 a1;go_simp
   first|done|rfl
  .intro D σ w1 a hnd hw hR hin hout;have hz:=hR.noZ (by decide) hnd;have a2:=hR.bel hz;have c5:(a.tmps[213]?).getD undef=.pointer (some ⟨bi,K*4,none⟩):=(cD a 213).symm.trans ((hin 9 _ 213 rfl rfl).trans (hR.vals 9 (by decide) (by decide) (hw 9 (by kernel_rfl))));refine aP (v:=.pointer (some ⟨bi,K*4+3,none⟩)) (w':=w1) ?_ (hR.val 10 (by decide) (by decide) hnd (λk hk=>by have hk:k∈[9]:=hk;simp only[List.mem_cons,List.not_mem_nil,or_false]at hk;rcases hk with rfl<;>first|exact hw 9 (by kernel_rfl)));clear hin hout hw hR a0 a1;go_simp
   first|done|rfl
  intro D σ w1 a hnd hw hR hin hout;have a8:∀i,i<11->D i:=by
   have c6:=hw 10 (by kernel_rfl);have d8:=hw 8 (by kernel_rfl);have d7:=hR.cl 8 (by decide) d8 7 (by decide);have d4:=hR.cl 7 (by decide) d7 4 (by decide);have d6:=hR.cl 7 (by decide) d7 6 (by decide);have d3:=hR.cl 4 (by decide) d4 3 (by decide);have d2:=hR.cl 3 (by decide) d3 2 (by decide);have d1:=hR.cl 2 (by decide) d2 1 (by decide);have d5:=hR.cl 6 (by decide) d6 5 (by decide);have d9:=hR.cl 10 (by decide) c6 9 (by decide);have d0:=hR.cl 9 (by decide) d9 0 (by decide);intro i hi;have:i=0\/i=1\/i=2\/i=3\/i=4\/i=5\/i=6\/i=7\/i=8\/i=9\/i=10:=by omega
   rcases this with rfl|rfl|rfl|rfl|rfl|rfl|rfl|rfl|rfl|rfl|rfl<;>assumption
  have a2:=hR.bel hnd;obtain⟨hd1,hd2,cI,hd3⟩:=a0 w1 a2;have iI:=hd3.lt;have iF:=hd3.frozen (K*4+3);have e1:=(a2.cell (p:=⟨bi,K*4+3,none⟩) jI).trans y3;have c7:(a.tmps[212]?).getD undef=.string (oL x.data nn):=(cD a 212).symm.trans ((hin 8 _ 212 rfl rfl).trans (hR.vals 8 (by decide) (by decide) (hw 8 (by kernel_rfl))));have c8:(a.tmps[214]?).getD undef=.pointer (some ⟨bi,K*4+3,none⟩):=(cD a 214).symm.trans ((hin 10 _ 214 rfl rfl).trans (hR.vals 10 (by decide) (by decide) (hw 10 (by kernel_rfl))));refine aGX (w':=w1.setCell ⟨bi,K*4+3,none⟩ (.string (oL x.data nn))) ?_ (hR.store hnd (by decide) a8);clear hin hout hw hR a0 a1 hd1 hd2 hd3;go_simp
  first|done|rfl
 intro σ w3 hR;obtain⟨w1,hb1,rfl⟩:=hR.fin trivial;obtain⟨hd1,hd2,cI,hd3⟩:=a0 w1 hb1;have a4:=HW.out.2.2.1.trans (hb1.mono HW.out.2.2.1.size);have a3:=aB HW.out.2.2.2 hb1;have a9:=aB HW.out.2.1 hb1;have a5:Keep (λk=>k=bi) w1 (w1.setCell ⟨bi,K*4+3,none⟩ (.string (oL x.data nn))):=Keep.setCell (S:=λk=>k=bi) (p:=⟨bi,K*4+3,none⟩) (Keep.refl _ _) (.inl rfl) _;have n1:=a5.blk a3 (λe=>by subst e;exact a3.ne_ hd3 (by decide) rfl);have n3:=a5.blk a9 (λe=>by have:=a9.ne_ hd3 (by decide);exact this e);have n4:Below B w (w1.setCell ⟨bi,K*4+3,none⟩ (.string (oL x.data nn))):=(a4.mono hB).trans (a5.below (zD hB a4.size) (λi hi e=>by omega));have n5:Spared b w (w1.setCell ⟨bi,K*4+3,none⟩ (.string (oL x.data nn))):=(Spared.of_below a4).trans (Spared.set hd3 (.inr ⟨by decide,by decide,by decide⟩));simp only[cX,Act.put,sA,sZ,sS,Nat.reduceAdd];have HN:=oB n1 hd1 n3 n4 n5;clear a4 a3 a9 hd1 hd2 hd3 a5 n1 n3 n4 n5 hR a0 a1 hb1 HW;go_upto_region 36 with fail;refine aI (F:=λwz=>Blk wz b #[.slice (some ⟨bi,0,none⟩) S.ins.length cap,.slice oa on oc,.slice ma mn mc] 26/\StOwn B wz (.slice (some ⟨bi,0,none⟩) S.ins.length cap) (.slice oa on oc) (.slice ma mn mc) { S with ins:=S.ins.set K { x with data:=oL x.data nn}}/\Blk wz (w.heap.size+1) #[.int .i64 0,.int .i64 0,.int .i64 0,.bool false,.string { data:=#[]},.slice none 0 0] 52/\Below B w wz/\Spared b w wz) HN.out ?_;clear HN;rintro wf ⟨f1,f2,f3,f4,f5⟩;have l3:=f3.lt;have g0:=f3.cell 0;have e2:=f3.frozen 0;have g1:=f3.cell 1;have e4:=f3.frozen 1;have g2:=f3.cell 2;have e5:=f3.frozen 2;have g3:=f3.cell 3;have e7:=f3.frozen 3;have g4:=f3.cell 4;have e8:=f3.frozen 4;have g5:=f3.cell 5;have e9:=f3.frozen 5;simp at g0 g1 g2 g3 g4 g5;have HF:=oB f1 f2 f3 f4 f5;clear f1 f2 f3 f4 f5;go_wp2_with(go_at_call 92;with_reducible refine aE (b3 _ _) λp=>?_);have c9:B<=wf.heap.size:=zD hB HF.out.2.2.2.1.size;exact xB (v:=aR 0 0 0) (by unfold results;simp only[Tryz.results95,aR];go_simp) rfl (ByOut.done (lH (r:=w.heap.size+1) kE (by omega) hblt hB (aB HF.out.2.2.1 (bel wf _)) (aB HF.out.1 (bel wf _)) (HF.out.2.1.on (bel wf _)) (HF.out.2.2.2.1.trans ((bel wf _).mono c9)) (HF.out.2.2.2.2.trans (Spared.of_below (bel wf _)))))
theorem aSL (B b:Nat) (S:PSt) (iv ov mv:Value) (core f0 off nu:Int) (path p2 dt:ByteArray) (w:World) (hb:Blk w b #[iv,ov,mv] 26) (ho:StOwn B w iv ov mv S) (hB:B<=w.heap.size) (hBb:B<=b) (hwf:S.wf) (num:Int) (hfd:nU S core f0=num) (hn0:num≠0) (K:Nat) (x:PIn) (hat:bH S num=K) (hx:S.ins[K]? =some x) (oo:Nat) (hoo:off=oo) (hde:dt.size≠0) (hsum:oo+dt.size<=256) (hxs:x.data.size<=1000000):
 Calls Tryz.prog 95 #[.pointer (some ⟨b,0,none⟩),.agg #[.int .i64 5,.int .i64 core,.int .i64 f0,.int .i64 off,.int .i64 nu,.string path,.string p2,.string dt]] w (ByOut B b w (.ok ({ S with ins:=S.ins.set K { x with data:=vA x.data oo dt}},⟨0,0,dt.size,false,{ data:=#[]},[]⟩))):=by
 have a9:=c43 ho.read hwf.2.1 hfd;have c6:=λk ww=>aY k ww;have b0:=sE ho.read hwf.1 hat;obtain⟨bi,cap,ma,mn,mc,oa,on,oc,rfl,rfl,rfl,hcz,iI,x3,hKI,hnb,iL,hblt,s0,s1,s2⟩:=kC hb ho hwf hx hn0;have HH:=dR hb ho hx;subst hoo;have b1:¬(oo:Int)<0:=by omega
 have b2:¬(256:Int)<oo:=by omega
 have b3:¬(256:Int)<dt.size:=by omega
 have b4:¬(256:Int)<oo+dt.size:=by omega
 have c8:dt.toList.isEmpty=false:=aBE hde;obtain⟨N,hN⟩:∃N:Nat,max (x.data.size:Int) ((oo:Int)+dt.size)=N:=⟨max x.data.size (oo+dt.size),by omega⟩;have b5:N<=1000000:=by omega
 have a3:∀ww,Calls Tryz.prog 125 #[.string x.data,.int .i64 N] ww _:=λww=>aCX x.data N ww b5;have c9:oo<=N:=by omega
 have d0:¬N=oo:=by omega
 obtain⟨L1,hL1⟩:∃L,qJ x.data.data.toList N=L:=⟨_,rfl⟩;have a1:L1.length=N:=by rw[<-hL1];exact sW _ _
 rw[hL1]at a3;obtain⟨L2,hL2⟩:∃L,L1.take oo++dt.data.toList++L1.drop (oo+dt.size)=L:=⟨_,rfl⟩;have b6:dt.data.toList.length=dt.size:=rfl;have b7:x.data.data.toList.length=x.data.size:=rfl;have a2:L2.length=N:=by rw[<-hL2];simp[b6,a1];omega
 have a4:(⟨L2.toArray⟩:ByteArray)=vA x.data oo dt:=by
  unfold vA;rw[zA hde,<-hL2,<-hL1];unfold aPG qJ;rw[zB (by omega),b6,b7];have e:max x.data.size (oo+dt.size)=N:=by omega
  rw[e]
 rw[<-a4];have a8:=fun(W:World) (g:Nat) (hG:Blk W g (bC L1) 5) (ty:TypeId)=>by have:=cpN W ty g oo (N-oo) (N-oo) L1 dt hG (by omega) (by omega);rw[hL2]at this;exact this
 have a6:=fun(W:World) (g:Nat) (hG:Blk W g (bC L2) 5)=>cvN W g N N L2 hG a2;obtain⟨z,hz⟩:∃z:ByteArray,(⟨L2.toArray⟩:ByteArray)=z:=⟨_,rfl⟩;rw[hz]at a6 a4 |-;have b8:=bB a8 a6;have a5:max (x.data.size:Int) (IntKind.i64.wrap ((oo:Int)+dt.size))=N:=by rw[show IntKind.i64.wrap ((oo:Int)+dt.size)=oo+dt.size from I64.wrap ⟨by omega,by omega⟩];exact hN
 have b9:=dR a5 b5 a3;clear a5 hN b5 a3 hxs a8 a6 hL1 hL2 a4 hz a1 a2 b6 b7;have d1:wrap64 ((oo:Int)+dt.size)=oo+dt.size:=by unfold wrap64;omega
 clear hb ho hwf hfd hx hat hn0;have c0:=aG hcz;clear hcz;go_enter Tryz.func95,Tryz.ntmps95;go_upto_region 1 with fail;refine qR ?_
 repeat(go_big_quiet_step ((with_reducible first|refine cI (a9 _ (bel _ _))|refine cJ (a9 _ (bel _ _)))))
 refine QN λp=>?_;go_wp2_with fail;refine qR ?_
 repeat(go_big_quiet_step ((with_reducible first|refine cI (b0 _ (bel _ _))|refine cJ (b0 _ (bel _ _)))))
 refine QN λp=>?_;go_upto_region 26 with fail;have a5:=b9.out.1;have a3:=b9.out.2.2;go_cut [10] (λv10 wx=>∃g,v10=.slice (some ⟨g,0,none⟩) N N/\w.heap.size+2<=g/\Below w.heap.size w wx/\Blk wx w.heap.size #[.int .i64 5,.int .i64 core,.int .i64 f0,.int .i64 oo,.int .i64 nu,.string path,.string p2,.string dt] 28/\Blk wx (w.heap.size+1) #[.int .i64 0,.int .i64 0,.int .i64 0,.bool false,.string { data:=#[]},.slice none 0 0] 52/\Blk wx g (bC L1) 5)
 case first=>
  refine aC [16] false (λw'=>w'.cell? ⟨bi,K*4+3,none⟩=some (.string x.data)/\w'.cell? ⟨w.heap.size,3,none⟩=some (.int .i64 oo)/\w'.cell? ⟨w.heap.size,7,none⟩=some (.string dt)) (by kernel_rfl) (by kernel_rfl) ?_ ?_
  · (try dsimp only);(repeat' apply And.intro)<;>go_simp
  repeat
   refine aH rfl rfl ?_;apply Exists.intro;refine⟨?_,?_⟩
   focus
    rintro w' ⟨q0,q1,q2⟩;go_simp
    first|done|rfl
   simp only[Act.put,sA,sZ,sS]
  refine aZ rfl rfl ?_;refine aS 125 #[.string x.data,.int .i64 N] ?hr ?_
  case hr=>
   go_simp
   first|done|exact a5
  refine(a3 _).mono ?_;rintro e w' ⟨g,rfl,hb,hg,hk⟩;obtain⟨p,rfl⟩:=hb.rest;have HK:=bB hg hk;clear hb hg hk;refine⟨_,rfl,.inl ?_,?_⟩
  · (try dsimp only);(repeat' apply And.intro)<;>go_simp
  simp only[Act.put,sA,sZ,sS]
  repeat
   refine aH rfl rfl ?_;apply Exists.intro;refine⟨?_,?_⟩
   focus
    rintro w' ⟨q0,q1,q2⟩;go_simp
    first|done|rfl
   simp only[Act.put,sA,sZ,sS]
  refine aQ ?_;clear a5 a3;go_wp2_with fail;go_meet;refine⟨_,rfl,?_,bel _ _,aB (Blk.new w #[.int .i64 5,.int .i64 core,.int .i64 f0,.int .i64 oo,.int .i64 nu,.string path,.string p2,.string dt] 28) (bel _ _),aB (Blk.new_i (w.alloc (.cells #[.int .i64 5,.int .i64 core,.int .i64 f0,.int .i64 oo,.int .i64 nu,.string path,.string p2,.string dt] 28)) #[.int .i64 0,.int .i64 0,.int .i64 0,.bool false,.string { data:=#[]},.slice none 0 0] 52 (w.heap.size+1)) (bel _ _),?_⟩
  .have:=HK.out.1;simp at this;omega
  have h:=HK.out.2
  first|exact h|(rw [World.junk_junk]at h;exact h)|(simp only[go_sem]at h;exact h)
 obtain⟨g,rfl,hgw,hbc,hCc,hRc,hG⟩:=hcut;obtain⟨iI3,y3⟩:=c0.out wc hbc;have iC:=hCc.lt;have iG:=hG.lt;have c3:=hCc.cell 3;have c7:=hCc.cell 7;simp at c3 c7;have a8:=λty=>b8.out.1 wc.drew g (hG.below (bel wc _) iG.lt) ty;have HX:=oB hbc hCc hRc hG hgw;clear s0 s1 s2 x3 iI iL hbc hCc hRc hG b0 a9 a3 a5;go_upto_region 27 with fail;refine aC [6] true (λw'=>w'.cell? ⟨w.heap.size,3,none⟩=some (.int .i64 oo)/\w'.cell? ⟨w.heap.size,7,none⟩=some (.string dt)) (by kernel_rfl) (by kernel_rfl) ?_ ?_
 · (try dsimp only);(repeat' apply And.intro)<;>go_simp
 repeat
  refine aH rfl rfl ?_;apply Exists.intro;refine⟨?_,?_⟩
  focus
   rintro w' ⟨q0,q1⟩;go_simp
   first|done|rfl
  simp only[Act.put,sA,sZ,sS]
 refine fJ rfl rfl ?_;apply Exists.intro;apply Exists.intro;refine⟨?_,?_,?_⟩
 focus
  go_simp;exact⟨rfl,rfl⟩
 focus
  exact .inr ⟨rfl,rfl⟩
 simp only[Act.put,sA,sZ,sS];refine aQ ?_;clear a8 y3 c3 c7 iC iG iI3;go_upto_region 28 with fail;refine aI (F:=λwz=>Below w.heap.size w wz/\Blk wz w.heap.size #[.int .i64 5,.int .i64 core,.int .i64 f0,.int .i64 oo,.int .i64 nu,.string path,.string p2,.string dt] 28/\Blk wz (w.heap.size+1) #[.int .i64 0,.int .i64 0,.int .i64 0,.bool false,.string { data:=#[]},.slice none 0 0] 52/\Blk wz g (bC L2) 5) ?_ ?_
 .have d2:w.heap.size+2<=g:=HX.out.2.2.2.2;have c2:g≠w.heap.size:=by omega
  have c4:g≠w.heap.size+1:=by omega
  have c5:=HX.out.1.trans ((bel wc wc.drew).mono HX.out.1.size);have hC:=aB HX.out.2.1 (bel wc wc.drew);have hR:=aB HX.out.2.2.1 (bel wc wc.drew);have hG:=aB HX.out.2.2.2.1 (bel wc wc.drew);refine⟨kN c5 (by omega) _,?_,?_,hU hG _⟩
  .unfold Blk at hC |-;rw[<-hC];exact setRow_other _ _ _ _ (λe=>c2 e.symm)
  unfold Blk at hR |-;rw[<-hR];exact setRow_other _ _ _ _ (λe=>c4 e.symm)
 clear HX;rintro wz ⟨hbz,hCz,hRz,hGz⟩;have c1:=HH.out.2.1.on hbz;have a0:=aB HH.out.1 hbz;obtain⟨hd1,hd2,cI,hd3⟩:=c1.setData HH.out.2.2 z;have a6:=b8.out.2 wz g hGz;have iI:=hd3.lt;have iF:=hd3.frozen (K*4+3);obtain⟨-,y3⟩:=c0.out wz hbz;have a7:Keep (λk=>k=bi) wz (wz.setCell ⟨bi,K*4+3,none⟩ (.string z)):=Keep.setCell (S:=λk=>k=bi) (p:=⟨bi,K*4+3,none⟩) (Keep.refl _ _) (.inl rfl) _;have n1:=a7.blk a0 (λe=>by subst e;exact a0.ne_ hd3 (by decide) rfl);have n2:=a7.blk hCz (λe=>by have:=hCz.ne_ hd3 (by decide);exact this e);have n3:=a7.blk hRz (λe=>by have:=hRz.ne_ hd3 (by decide);exact this e);have n4:Below B w (wz.setCell ⟨bi,K*4+3,none⟩ (.string z)):=(hbz.mono hB).trans (a7.below (zD hB hbz.size) (λi hi e=>by omega));have n5:Spared b w (wz.setCell ⟨bi,K*4+3,none⟩ (.string z)):=(Spared.of_below hbz).trans (Spared.set hd3 (.inr ⟨by decide,by decide,by decide⟩));have HN:=jj6 n1 hd1 n2 n3 n4 n5;clear hbz hCz hRz hGz c1 a0 hd1 hd2 hd3 a7 n1 n2 n3 n4 n5;go_upto_region 29 with fail;refine aI (F:=λwz=>Blk wz b #[.slice (some ⟨bi,0,none⟩) S.ins.length cap,.slice oa on oc,.slice ma mn mc] 26/\StOwn B wz (.slice (some ⟨bi,0,none⟩) S.ins.length cap) (.slice oa on oc) (.slice ma mn mc) { S with ins:=S.ins.set K { x with data:=z}}/\Blk wz w.heap.size #[.int .i64 5,.int .i64 core,.int .i64 f0,.int .i64 oo,.int .i64 nu,.string path,.string p2,.string dt] 28/\Blk wz (w.heap.size+1) #[.int .i64 0,.int .i64 0,.int .i64 0,.bool false,.string { data:=#[]},.slice none 0 0] 52/\Below B w wz/\Spared b w wz) HN.out ?_;clear HN a6 iI iF y3;rintro wf ⟨f1,f2,fc,f3,f4,f5⟩;have iC:=fc.lt;have c7:=fc.cell 7;simp at c7;have l3:=f3.lt;have g0:=f3.cell 0;have d3:=f3.frozen 0;have g1:=f3.cell 1;have d4:=f3.frozen 1;have g2:=f3.cell 2;have d5:=f3.frozen 2;have g3:=f3.cell 3;have d6:=f3.frozen 3;have g4:=f3.cell 4;have d7:=f3.frozen 4;have g5:=f3.cell 5;have d8:=f3.frozen 5;simp at g0 g1 g2 g3 g4 g5;have HF:=oB f1 f2 f3 f4 f5;clear f1 f2 fc f3 f4 f5;go_wp2_with fail;exact xB (v:=aR 0 0 dt.size) (by unfold results;simp only[Tryz.results95,aR];go_simp) rfl (ByOut.done (lH (r:=w.heap.size+1) jO (by omega) hblt hB HF.out.2.2.1 HF.out.1 HF.out.2.1 HF.out.2.2.2.1 HF.out.2.2.2.2))
end
theorem aSS {wz:World} {q r:Nat} {c0 c1 c2 a0 a1 a2 a3 a4 a5:Value}:Keep (λg=>g=q\/g=r) wz (((((((((wz.setCell ⟨q,0,none⟩ c0).setCell ⟨q,1,none⟩ c1).setCell ⟨q,2,none⟩ c2).setCell ⟨r,0,none⟩ a0).setCell ⟨r,1,none⟩ a1).setCell ⟨r,2,none⟩ a2).setCell ⟨r,3,none⟩ a3).setCell ⟨r,4,none⟩ a4).setCell ⟨r,5,none⟩ a5):=
 ((((((((((Keep.refl (λg=>g=q\/g=r) wz).setCell (p:=⟨q,0,none⟩) (.inl (.inl rfl)) c0).setCell (p:=⟨q,1,none⟩) (.inl (.inl rfl)) c1).setCell (p:=⟨q,2,none⟩) (.inl (.inl rfl)) c2).setCell (p:=⟨r,0,none⟩) (.inl (.inr rfl)) a0).setCell (p:=⟨r,1,none⟩) (.inl (.inr rfl)) a1).setCell (p:=⟨r,2,none⟩) (.inl (.inr rfl)) a2).setCell (p:=⟨r,3,none⟩) (.inl (.inr rfl)) a3).setCell (p:=⟨r,4,none⟩) (.inl (.inr rfl)) a4).setCell (p:=⟨r,5,none⟩) (.inl (.inr rfl)) a5)
theorem aUJ (Y:PSt × PRes) (S:PSt) (iv ov mv:Value) (kd core fd off nu:Int) (pt p2 dt:ByteArray) (w:World) (h:StRead w iv ov mv S)
 (hin:∀ww,Below w.heap.size w ww->Calls Tryz.prog 64 #[.agg #[iv,ov,mv],.agg #[.int .i64 kd,.int .i64 core,.int .i64 fd,.int .i64 off,.int .i64 nu,.string pt,.string p2,.string dt],.int .i64 (-1)] ww (DoOut ww Y)):
 Calls Tryz.prog 31 #[.agg #[iv,ov,mv],.agg #[.int .i64 kd,.int .i64 core,.int .i64 fd,.int .i64 off,.int .i64 nu,.string pt,.string p2,.string dt]] w λe w'=>Below w.heap.size w w'/\xZ w.heap.size Y.1 Y.2 e w':=by
 obtain⟨ai,ni,ci,ao,no,co,am,nm,cm,rfl,rfl,rfl⟩:=h.slices;clear h;obtain⟨S',code,rf,rn,rd,rs,rl⟩:=Y;go_enter Tryz.func31,Tryz.ntmps31;go_upto_region 2 with(go_at_call 64;(with_reducible refine(hin _ (bel _ _)).mono ?_);rintro e w1 ⟨iv1,ov1,mv1,nv1,rfl,hb1,hs1,hn1⟩;obtain⟨a1,a2,a3,a4,a5,a6,a7,a8,a9,rfl,rfl,rfl⟩:=hs1.forms;obtain⟨m1,m3,rfl⟩:=hn1.formL;simp only[lM]at hn1 |-;have b1:=aG (hn1.mono (B':=w.heap.size+1+1+1+1) (by simp));obtain⟨p,rfl⟩:=hb1.rest;have H1:=aG (hs1.mono (B':=w.heap.size+1+1+1+1) (by simp));clear hs1 hb1 hn1)
 refine aI (F:=λW=>StOwn (w.heap.size+1+1+1+1) W (.slice a1 a2 a3) (.slice a4 a5 a6) (.slice a7 a8 a9) S'/\Blk W (w.heap.size+1+1+1+1+p.len) #[.slice a1 a2 a3,.slice a4 a5 a6,.slice a7 a8 a9] 26/\Blk W (w.heap.size+1+1+1+1+p.len+1) #[.int .i64 code,.int .i64 rf,.int .i64 rn,.bool rd,.string rs,.slice m1 rl.length m3] 52/\Blk W (w.heap.size+1+1) #[.slice none 0 0,.slice none 0 0,.slice none 0 0] 26/\Blk W (w.heap.size+1+1+1) #[.int .i64 0,.int .i64 0,.int .i64 0,.bool false,.string { data:=#[]},.slice none 0 0] 52/\OwnP (w.heap.size+1+1+1+1) W 9 1 (.slice m1 rl.length m3) (rl.map bP)/\Below w.heap.size w W) ⟨H1.out.on (bel _ _),Blk.alloc (Blk.new_i _ _ _ _) _,Blk.new_i _ _ _ _,aB (Blk.new_i ((w.alloc (.cells #[.slice ai ni ci,.slice ao no co,.slice am nm cm] 26)).alloc (.cells #[.int .i64 kd,.int .i64 core,.int .i64 fd,.int .i64 off,.int .i64 nu,.string pt,.string p2,.string dt] 28)) #[.slice none 0 0,.slice none 0 0,.slice none 0 0] 26 (w.heap.size+1+1)) (bel _ _),aB (Blk.new_i (((w.alloc (.cells #[.slice ai ni ci,.slice ao no co,.slice am nm cm] 26)).alloc (.cells #[.int .i64 kd,.int .i64 core,.int .i64 fd,.int .i64 off,.int .i64 nu,.string pt,.string p2,.string dt] 28)).alloc (.cells #[.slice none 0 0,.slice none 0 0,.slice none 0 0] 26)) #[.int .i64 0,.int .i64 0,.int .i64 0,.bool false,.string { data:=#[]},.slice none 0 0] 52 (w.heap.size+1+1+1)) (bel _ _),b1.out.below (bel _ _),bel w _⟩ ?_;clear H1 b1 hin;obtain⟨b,hbn⟩:∃b,w.heap.size+1+1+1+1+p.len=b:=⟨_,rfl⟩;have b4:w.heap.size+1+1+1+1<=b:=by omega
 rw[hbn];clear hbn;rintro W' ⟨ho,hb,hr,hN,hR,hnn,hbw⟩;have iB:=hb.lt;have iR:=hr.lt;have iN:=hN.lt;have iS:=hR.lt;have d0:=hb.cell 0;have d1:=hb.cell 1;have d2:=hb.cell 2;have g0:=hr.cell 0;have g1:=hr.cell 1;have g2:=hr.cell 2;have g3:=hr.cell 3;have g4:=hr.cell 4;have g5:=hr.cell 5;have u0:=hN.cell 0;have u1:=hN.cell 1;have u2:=hN.cell 2;have b5:=hN.frozen 0;have b6:=hN.frozen 1;have b7:=hN.frozen 2;have v0:=hR.cell 0;have v1:=hR.cell 1;have v2:=hR.cell 2;have v3:=hR.cell 3;have v4:=hR.cell 4;have v5:=hR.cell 5;have b8:=hR.frozen 0;have b9:=hR.frozen 1;have c3:=hR.frozen 2;have c4:=hR.frozen 3;have c5:=hR.frozen 4;have c6:=hR.frozen 5;simp at d0 d1 d2 g0 g1 g2 g3 g4 g5 u0 u1 u2 v0 v1 v2 v3 v4 v5;have n1:¬b=w.heap.size+1+1:=by omega
 have n2:¬b=w.heap.size+1+1+1:=by omega
 have n3:¬b+1=w.heap.size+1+1:=by omega
 have n4:¬b+1=w.heap.size+1+1+1:=by omega
 have n5:¬w.heap.size+1+1=w.heap.size+1+1+1:=by omega
 have n6:¬w.heap.size+1+1+1=w.heap.size+1+1:=by omega
 have n7:¬w.heap.size+1+1=b:=by omega
 have n8:¬w.heap.size+1+1+1=b:=by omega
 have n9:¬w.heap.size+1+1=b+1:=by omega
 have c7:¬w.heap.size+1+1+1=b+1:=by omega
 have HZ:=oB ho hN hR hbw hnn;clear ho hb hr hN hR hbw hnn;refine aC [2,3] true (λw'=>w'.cell? ⟨b,0,none⟩=some (.slice a1 a2 a3)/\w'.cell? ⟨b,1,none⟩=some (.slice a4 a5 a6)/\w'.cell? ⟨b,2,none⟩=some (.slice a7 a8 a9)/\w'.cell? ⟨b+1,0,none⟩=some (.int .i64 code)/\w'.cell? ⟨b+1,1,none⟩=some (.int .i64 rf)/\w'.cell? ⟨b+1,2,none⟩=some (.int .i64 rn)/\w'.cell? ⟨b+1,3,none⟩=some (.bool rd)/\w'.cell? ⟨b+1,4,none⟩=some (.string rs)/\w'.cell? ⟨b+1,5,none⟩=some (.slice m1 rl.length m3)) (by kernel_rfl) (by kernel_rfl) ?_ ?_
 · (try dsimp only);(repeat' apply And.intro)<;>go_simp
 repeat
  refine aH rfl rfl ?_;apply Exists.intro;refine⟨?_,?_⟩
  focus
   rintro w' ⟨s0,s1,s2,s3,s4,s5,s6,s7,s8⟩;go_simp
   first|done|rfl
  simp only[Act.put,sA,sZ,sS]
 refine aU rfl rfl ?_;apply Exists.intro;refine⟨?_,?_,?_⟩
 focus
  go_simp
  first|done|rfl
 focus
  refine .inl ?_
  (try dsimp only);(repeat' apply And.intro)<;>go_simp
 simp only[Act.put,sA,sZ,sS];refine aU rfl rfl ?_;apply Exists.intro;refine⟨?_,?_,?_⟩
 focus
  go_simp
  first|done|rfl
 focus
  exact .inr ⟨rfl,rfl⟩
 simp only[Act.put,sA,sZ,sS];refine aQ ?_;go_wp2_with fail;have hK:=aOB (wz:=W') (q:=w.heap.size+1+1) (r:=w.heap.size+1+1+1) (c0:=.slice a1 a2 a3) (c1:=.slice a4 a5 a6) (c2:=.slice a7 a8 a9) (a0:=.int .i64 code) (a1:=.int .i64 rf) (a2:=.int .i64 rn) (a3:=.bool rd) (a4:=.string rs) (a5:=.slice m1 rl.length m3);have b0:=HZ.out.1.keep hK (λg hg=>by
  rcases hg with rfl|rfl
  .exact⟨_,26,HZ.out.2.1,by decide,by decide,by decide,by decide⟩
  exact⟨_,52,HZ.out.2.2.1,by decide,by decide,by decide,by decide⟩)
 have b2:=HZ.out.2.2.2.2.keep hK (λg hg e=>by have:=HZ.out.2.2.2.2.ge hg;rcases e with e|e<;>omega);have b3:=HZ.out.2.2.2.1.trans (hK.below HZ.out.2.2.2.1.size (λi hi e=>by omega));exact xB (v:=.tuple #[.agg #[.slice a1 a2 a3,.slice a4 a5 a6,.slice a7 a8 a9],.agg #[.int .i64 code,.int .i64 rf,.int .i64 rn,.bool rd,.string rs,.slice m1 rl.length m3]]) (by unfold results;simp only[Tryz.results31];go_simp) rfl ⟨b3,_,_,_,_,rfl,b0.mono (by omega),b2.mono (by omega)⟩
theorem aUK (S:PSt) (iv ov mv:Value) (kd core fd off nu:Int) (pt p2 dt:ByteArray) (w:World) (h:StRead w iv ov mv S) (hwf:S.wf) (M:Bool) (hm:vB w 30 #[.agg #[iv,ov,mv]] (.bool M))
 (hbad:M=false\/(M=true/\core<0)\/(M=true/\¬core<0/\(S.made.length:Int)<=core)\/(M=true/\¬core<0/\¬(S.made.length:Int)<=core/\kd<0)\/(M=true/\¬core<0/\¬(S.made.length:Int)<=core/\¬kd<0/\16<kd)):
 Calls Tryz.prog 64 #[.agg #[iv,ov,mv],.agg #[.int .i64 kd,.int .i64 core,.int .i64 fd,.int .i64 off,.int .i64 nu,.string pt,.string p2,.string dt],.int .i64 (-1)] w (DoOut w (S,⟨9,0,0,false,{ data:=#[]},[]⟩)):=by
 have a6:∀ww,Below w.heap.size w ww->Calls Tryz.prog 91 #[.agg #[iv,ov,mv]] ww λe w'=>∃iv' ov' mv',e=.returned (.agg #[iv',ov',mv'])/\Below ww.heap.size ww w'/\StOwn ww.heap.size w' iv' ov' mv' S:=λww hb=>aOC S iv ov mv ww (h.below hb (zC _)) hwf;have a8:=λk ww=>aY k ww;obtain⟨am,cm,rfl⟩:∃am cm,mv=.slice am S.made.length cm:=by obtain⟨a,c,e,_⟩:=h.2.1.at_;rw[lM]at e;exact⟨a,c,e⟩
 obtain⟨ai,ni,ci,ao,no,co,am',nm',cm',rfl,rfl,-⟩:=h.slices;clear h hwf;have key:∀W,Blk W w.heap.size #[.slice ai ni ci,.slice ao no co,.slice am S.made.length cm] 26->Blk W (w.heap.size+1+1) #[.slice none 0 0,.slice none 0 0,.slice none 0 0] 26->Blk W (w.heap.size+1+1+1) #[.int .i64 0,.int .i64 0,.int .i64 0,.bool false,.string { data:=#[]},.slice none 0 0] 52->Below w.heap.size w W->True:=λ_ _ _ _ _=>trivial;rcases hbad with hb1|⟨hb1,hb2⟩|⟨hb1,hb2,hb3⟩|⟨hb1,hb2,hb3,hb4⟩|⟨hb1,hb2,hb3,hb4,hb5⟩
 iterate 5
  subst hb1;go_enter Tryz.func64,Tryz.ntmps64;go_upto_region 2 with(go_at_call 30;with_reducible refine aE (hm _ (bel _ _)) λp=>?_)
  refine aI (F:=λW=>Blk W w.heap.size #[.slice ai ni ci,.slice ao no co,.slice am S.made.length cm] 26/\Blk W (w.heap.size+1+1) #[.slice none 0 0,.slice none 0 0,.slice none 0 0] 26/\Blk W (w.heap.size+1+1+1) #[.int .i64 0,.int .i64 0,.int .i64 0,.bool false,.string { data:=#[]},.slice none 0 0] 52/\Below w.heap.size w W) ⟨aB (Blk.new w #[.slice ai ni ci,.slice ao no co,.slice am S.made.length cm] 26) (bel _ _),aB (Blk.new_i ((w.alloc (.cells #[.slice ai ni ci,.slice ao no co,.slice am S.made.length cm] 26)).alloc (.cells #[.int .i64 kd,.int .i64 core,.int .i64 fd,.int .i64 off,.int .i64 nu,.string pt,.string p2,.string dt] 28)) #[.slice none 0 0,.slice none 0 0,.slice none 0 0] 26 (w.heap.size+1+1)) (bel _ _),aB (Blk.new_i (((w.alloc (.cells #[.slice ai ni ci,.slice ao no co,.slice am S.made.length cm] 26)).alloc (.cells #[.int .i64 kd,.int .i64 core,.int .i64 fd,.int .i64 off,.int .i64 nu,.string pt,.string p2,.string dt] 28)).alloc (.cells #[.slice none 0 0,.slice none 0 0,.slice none 0 0] 26)) #[.int .i64 0,.int .i64 0,.int .i64 0,.bool false,.string { data:=#[]},.slice none 0 0] 52 (w.heap.size+1+1+1)) (bel _ _),bel w _⟩ ?_;rintro W ⟨hS,hN,hR,hbw⟩;have iS:=hS.lt;have iN:=hN.lt;have iR:=hR.lt;have e0:=hS.cell 0;have e1:=hS.cell 1;have e2:=hS.cell 2;have u0:=hN.cell 0;have a9:=hN.frozen 0;have u1:=hN.cell 1;have b0:=hN.frozen 1;have u2:=hN.cell 2;have c3:=hN.frozen 2;have v0:=hR.cell 0;have c4:=hR.frozen 0;have v1:=hR.cell 1;have c5:=hR.frozen 1;have v2:=hR.cell 2;have c6:=hR.frozen 2;have v3:=hR.cell 3;have c7:=hR.frozen 3;have v4:=hR.cell 4;have c8:=hR.frozen 4;have v5:=hR.cell 5;have c9:=hR.frozen 5;simp at e0 e1 e2 u0 u1 u2 v0 v1 v2 v3 v4 v5;have n5:¬w.heap.size+1+1=w.heap.size+1+1+1:=by omega
  have n6:¬w.heap.size+1+1+1=w.heap.size+1+1:=by omega
  replace a6:=λww (hw:Below W.heap.size W ww)=>a6 ww (hbw.trans (hw.mono hbw.size));have HZ:=dR hN hR hbw;clear hS hN hR hbw hm;go_wp2_with(first|(go_at_call 91;(with_reducible refine(a6 _ (bel W _)).mono ?_);rintro e w5 ⟨iv5,ov5,mv5,rfl,hb5,hs5⟩;obtain⟨b1,b2,b3,b4,b5,b6,b7,b8,b9,rfl,rfl,rfl⟩:=hs5.forms;obtain⟨p5,rfl⟩:=hb5.rest;have H5:=aG hs5;clear hb5 hs5)|(go_at_call 92;with_reducible refine aE (a8 _ _) λp6=>?_));have hK:=(aSS (wz:=W) (q:=w.heap.size+1+1) (r:=w.heap.size+1+1+1) (c0:=.slice b1 b2 b3) (c1:=.slice b4 b5 b6) (c2:=.slice b7 b8 b9) (a0:=.int .i64 9) (a1:=.int .i64 0) (a2:=.int .i64 0) (a3:=.bool false) (a4:=.string { data:=#[]}) (a5:=.slice none 0 0));have a7:=HZ.out.2.2.trans (hK.below HZ.out.2.2.size (λi hi e=>by omega));refine xB (v:=.tuple #[.agg #[.slice b1 b2 b3,.slice b4 b5 b6,.slice b7 b8 b9],aR 9 0 0,.bool true]) (by unfold results;simp only[Tryz.results64,aR];go_simp) rfl (DoOut.of (l:=[]) (a7.trans ((bel _ _).mono a7.size)) ?_ (.inl ⟨rfl,rfl⟩))
  first
   |exact(H5.out.above _).mono HZ.out.2.2.size
   |exact((H5.out.on (show Below (W.junk p5).heap.size (W.junk p5) (W.junk (p5.more p6)) by rw[<-World.junk_junk];exact bel _ _)).above _).mono HZ.out.2.2.size
section
theorem aLI (n:Int) (x:PIn) (hd:x.dir=true):∀(es:List PEnt) (a:Int),sK n es a=a+fS n x es
 |[],a=>by simp[sK,fS]
 | e::r,a=>by
   unfold sK fS;rw[aLI n x hd r,hd,xA];split<;>simp<;>omega
theorem sN (n:Int) (x:PIn) (hd:x.dir=false):∀es:List PEnt,fS n x es=0
 |[]=>rfl
 | e::r=>by unfold fS;rw[sN n x hd r,hd];simp
theorem aLJ (n:Int):∀(xs:List PIn) (a:Int),lkI n xs a=a+jS n xs
 |[],a=>by simp[lkI,jS]
 | x ::r,a=>by
   unfold lkI jS;rw[aLJ n r];cases hd:x.dir with
   | true=>rw[zB rfl,aLI n x hd];push_cast;omega
   | false=>rw[zA (by decide),sN n x hd];simp
theorem sO (S:PSt) (n:Int):cQ S n=dM S n:=by unfold cQ dM;rw[aLJ];omega
variable {S:PSt}
theorem vI {c:PCall} (hk:c.kind=12\/c.kind=13\/c.kind=14):kR S c=match sD S c.path with
 |.error k=>.error k
 | .ok K=>match S.ins[K]? with
   |none=>.ok (S,PRes.zero)
   |some x=>if c.kind=12 then(if x.dir=true then .ok (S,{ PRes.zero with names:=x.ents.map PEnt.name})else .error 7)else if c.kind=13 then .ok (S,{ PRes.zero with dir:=x.dir,num:=if x.dir=true then 0 else x.data.size})else if x.dir=true then .error 8 else .ok (S,{ PRes.zero with num:=dM S x.num}):=by
 unfold kR sD;rw[zA (by omega),zA (by omega)];by_cases hp:(aA c.path).1≠0
 .rw[zB hp,zB hp]
 rw [zA hp,zA hp];unfold wJ aDI rI;by_cases hw:(aL S 0 (aA c.path).2).2≠0
 .rw[zB hw];simp only[zB hw]
  repeat' split
  all_goals rfl
 rw[zA hw];simp only[zA hw];rcases hx:S.ins[(aL S 0 (aA c.path).2).1]? with _|x
 .simp
 rcases hk with e|e|e
 .simp only[zB e];rfl
 .simp only[zA (show ¬c.kind=12 by omega),zB e];rfl
 simp only[zA (show ¬c.kind=12 by omega),zA (show ¬c.kind=13 by omega)]
theorem aTH (M:MayX S) (c:PCall) (hk:c.kind=12\/c.kind=13\/c.kind=14) (iv ov mv:Value) (ww:World) (h:StRead ww iv ov mv S):
 Calls Tryz.prog 97 #[.agg #[iv,ov,mv],.agg #[.int .i64 c.kind,.int .i64 c.core,.int .i64 c.fd,.int .i64 c.off,.int .i64 c.num,.string c.path,.string c.path2,.string c.data]] ww (aRE ww S (kR S c)):=by
 rw[vI hk];have hf:=M.find_ c.path;rcases hat:sD S c.path with k|K
 .rw[hat]at hf;obtain⟨hk0,n,hn⟩:=hf;refine(aOE S iv ov mv c.kind c.core c.fd c.off c.num c.path c.path2 c.data ww h M.fineR n k hn hk0).mono ?_;rintro e w' ⟨nv,rfl,hb,-,hz⟩;have:=hz hk0;subst this;exact⟨rfl,hb⟩
 rw [hat]at hf;obtain⟨y,hn,hy,hK⟩:=hf;have hw:=aOF S iv ov mv c.kind c.core c.fd c.off c.num c.path c.path2 c.data ww h M.fineR hk y.num 0 hn rfl K y hK hy;simp only[hy];refine hw.mono ?_;rintro e w' ⟨nv,rfl,hb,hnm,hz⟩;unfold nC at hnm hz |-;by_cases e1:c.kind=12
 .simp only[zB e1]at hnm hz |-;cases hd:y.dir with
  | false=>simp only[hd,if_true,zP,if_false]at hnm hz |-;have:=hz (by decide);subst this;exact⟨rfl,hb⟩
  | true=>simp only[hd,if_true,Bool.true_eq_false,if_false]at hnm hz |-;exact⟨rfl,nv,rfl,hb,hnm⟩
 simp only[zA e1]at hnm hz |-;by_cases e2:c.kind=13
 .simp only[zB e2]at hnm hz |-;refine⟨rfl,nv,?_,hb,hnm⟩;cases hd:y.dir with
  | true=>have:=M.bare y (mG hy) hd;simp[this,PRes.zero];rfl
  | false=>simp[PRes.zero];rfl
 simp only[zA e2]at hnm hz |-;cases hd:y.dir with
 | true=>simp only[hd,if_true]at hnm hz |-;have:=hz (by decide);subst this;exact⟨rfl,hb⟩
 | false=>simp only[hd,zP,if_false]at hnm hz |-;refine⟨rfl,nv,?_,hb,hnm⟩;rw[sO];rfl
end
section
theorem rJ (S:PSt) (c:PCall) (r:PRes):gU S c r=match cV S c.path with
 |.error k=>.error k
 | .ok (K,l)=>match S.ins[K]? with
   |none=>.error 0
   | some x=>if bL x.ents l=true then .error 2 else match S.made[c.core.toNat]? with
     |none=>.error 0
     |some m=>if(fQ x.ents l { data:=#[]}||decide (32<=m))=true then .error 5 else .ok (qM S c K x l m,r):=by
 unfold gU cV nK;by_cases hp:(aA c.path).1≠0
 .rw[zB hp,zB hp]
 rw[zA hp,zA hp];rcases aX S (aA c.path).2 with k|⟨K,l⟩<;>rfl
theorem aID {ns:List Int} (h:Rise ns) (n:Int) (hb:∀(j:Nat) (a:Int),ns[j]? =some a->0<=a/\a<=1000) (hn:0<=n/\n<=1000):nZ ns n<=ns.length/\(∀(i:Nat) (a:Int),i<nZ ns n->ns[i]? =some a->a<n)/\(∀(i:Nat) (a:Int),nZ ns n<=i->ns[i]? =some a->n<=a):=by
 have hc:∀(j:Nat) (a:Int),ns[j]? =some a->(sV ns n j<0↔a<n):=λj a ha=>by
  have:=hb j a ha;have e:sV ns n j=a-n:=by unfold sV qI;rw[ha];show wrap64 (a-n)=a-n;unfold wrap64;omega
  rw[e];omega
 unfold nZ;obtain⟨h1,h2,h3,h4⟩:=gP (sV ns n) ns.length 0 ns.length (by omega) (by omega) (λi j a c d e=>by
  rw[hc j _ (gE d)]at e;rw[hc i _ (gE (by omega:i<ns.length))];by_cases hij:i=j
  .subst hij;exact e
  have:=h i j _ _ (gE (by omega)) (gE d) (by omega);omega)
 refine⟨h2,λi a hi ha=>?_,λi a hi ha=>?_⟩
 .exact(hc i a ha).1 (h3 i (by omega) hi)
 obtain⟨hl,_⟩:=gI.1 ha;exact Int.not_lt.1 (λe=>h4 i hi hl ((hc i a ha).2 e))
variable {K k:Nat} {S:PSt} {m:Int} {x:PIn}
theorem lO (hx:S.ins[K]? =some x) (es:List PEnt):(S.ents K x es).nums=S.nums:=by
 unfold PSt.nums PSt.ents;simp only[List.map_set];apply List.ext_getElem?;intro i;rw[List.getElem?_set];split
 .rename_i h
  subst h;rw[gM,hx];obtain⟨hl,_⟩:=gI.1 hx;simp[hl]
 rfl
theorem MayX.fresh (M:MayX S) (hk:k<8) (hm:S.made[k]? =some m) (h0:0<=m):∀(i:Nat) (a:Int),S.nums[i]? =some a->a≠2+k+8*m:=by
 intro i a ha he;obtain⟨x,hx,hn⟩:=pQ ha;rcases i with _|i
 .obtain⟨x0,h1,h2,_⟩:=M.head;rw[h1]at hx;cases hx;omega
 have:=M.nums (i+1) x hx (by omega);unfold eG at this;rw[zA (by omega),hn,he,show((2+(k:Int)+8*m-2)%8).toNat=k by omega,hm]at this;simp only[zI]at this;omega
theorem MayX.small (M:MayX S):∀(j:Nat) (a:Int),S.nums[j]? =some a->0<=a/\a<=1000:=by
 intro j a ha;obtain⟨x,hx,hn⟩:=pQ ha;have h1:=M.pos hx;rcases j with _|j
 .obtain⟨x0,h2,h3,_⟩:=M.head;rw[h2]at hx;cases hx;omega
 have:=M.nums (j+1) x hx (by omega);unfold eG at this;split at this
 .cases this
 split at this
 .rename_i m hm
  have:=M.made m (mG hm);rename_i h9;simp only[zI]at h9;omega
 cases this
theorem aPA (M:MayX S) (c:PCall) {l:ByteArray} (hc:c.core=k) (hk:k<8) (hx:S.ins[K]? =some x) (hh:bL x.ents l=false) (hm:S.made[k]? =some m) (h0:0<=m) (h32:m<32):mkK S K x l k m (c.kind==1)=qM S c K x l m:=by
 have e1:=uA (M.asc x (mG hx)) hh (⟨l,2+(k:Int)+8*m⟩:PEnt);have a3:c.core.toNat=k:=by omega
 unfold mkK qM;simp only[e1,hc];have a1:=lO hx (bJ x.ents (cL x.ents l) ⟨l,2+(k:Int)+8*m⟩);obtain⟨b1,b2,b3⟩:=aID M.tree.rise (2+(k:Int)+8*m) M.small (by omega);have a2:cS (λy=>decide (2+(k:Int)+8*m<y.num)) (⟨2+(k:Int)+8*m,c.kind==1,[],{ data:=#[]}⟩:PIn) (S.ents K x (bJ x.ents (cL x.ents l) ⟨l,2+(k:Int)+8*m⟩)).ins false []=bJ (S.ents K x (bJ x.ents (cL x.ents l) ⟨l,2+(k:Int)+8*m⟩)).ins (nZ S.nums (2+(k:Int)+8*m)) ⟨2+(k:Int)+8*m,c.kind==1,[],{ data:=#[]}⟩:=by
  refine tW ?_ (λi e hi he=>?_) (λe he=>?_)
  .have:(S.ents K x (bJ x.ents (cL x.ents l) ⟨l,2+(k:Int)+8*m⟩)).ins.length=S.nums.length:=by
    unfold PSt.nums PSt.ents;simp
   omega
  .have:=dJ he;rw[a1]at this;have:=b2 i e.num hi this;simp only[yV];omega
  have h5:=dJ he;rw[a1]at h5;have h6:=b3 _ e.num (zC _) h5;have h7:=M.fresh hk hm h0 _ _ h5;simp only[zI];omega
 have a0:((k:Int)).toNat=k:=by omega
 rw[a0];show PSt.mk _ _ _=PSt.mk _ _ _;congr 1
theorem aTI (M:MayX S) (c:PCall) (hk:c.kind=0\/c.kind=1) (hc0:0<=c.core) (hc1:c.core<S.made.length) (B b:Nat) (iv ov mv:Value) (ww:World) (hb:Blk ww b #[iv,ov,mv] 26) (ho:StOwn B ww iv ov mv S) (hB:B<=ww.heap.size) (hBb:B<=b):
 Calls Tryz.prog 93 #[.pointer (some ⟨b,0,none⟩),.agg #[.int .i64 c.kind,.int .i64 c.core,.int .i64 c.fd,.int .i64 c.off,.int .i64 c.num,.string c.path,.string c.path2,.string c.data]] ww (ByOut B b ww (gU S c PRes.zero)):=by
 rw[rJ];have hp:=M.par c.path;rcases hpx:cV S c.path with q|⟨K,l⟩
 .rw[hpx]at hp;obtain⟨hq,D,nm,hpar⟩:=hp;exact aOG b S iv ov mv c.kind c.core c.fd c.off c.num c.path c.path2 c.data ww hb ho.read M.fineR D nm q hpar hq
 rw [hpx]at hp;obtain⟨y,hpar,hy,hat,hd,hl⟩:=hp;simp only[hy];have a1:∀e∈y.ents,e.name.size<=1000000000:=λe he=>by have:=M.tree.name y (mG hy) e he;omega
 cases hh:bL y.ents l with
 | true=>simp only[if_true];obtain⟨e,he,hn,hen,h0,hm⟩:=M.ent_hit hat hy hh;exact aOH b S iv ov mv c.kind c.core c.fd c.off c.num c.path c.path2 c.data ww hb ho.read M.fineR y.num l 0 hpar rfl (by rw[hen];exact h0)
 | false=>
   simp only[zP,if_false];have a0:=M.ent_miss hat hy hh;obtain⟨k,hk0⟩:∃k:Nat,c.core=k:=⟨c.core.toNat,by omega⟩;have a4:k<S.made.length:=by omega
   have a2:k<8:=by have:=M.cores;omega
   have hm:=gE a4;rw[hk0,zJ,hm];simp only;generalize S.made[k]=m at hm;have a3:=M.made m (mG hm);cases hF:fQ y.ents l { data:=#[]}with
   | true=>simp only[Bool.true_or,if_true];exact aOI b S iv ov mv c.kind k c.fd c.off c.num c.path c.path2 c.data ww hb ho.read M.fineR y.num l 0 hpar rfl a0 K y hat hy (by omega) a1 (by rw[lE];exact hF)
   | false=>
     by_cases h32:32<=m
     .simp only[h32,decide_true,Bool.or_true,if_true];exact aOJ b S iv ov mv c.kind k c.fd c.off c.num c.path c.path2 c.data ww hb ho.read M.fineR y.num l 0 hpar rfl a0 K y hat hy (by omega) a1 (by rw[lE];exact hF) k rfl m hm h32
     simp only[h32,decide_false,Bool.or_false,zP,if_false];rw[<-aPA M c hk0 a2 hy hh hm a3.1 (by omega)];exact aQO B b S iv ov mv c.kind c.fd c.off c.num c.path c.path2 c.data l y.num K y k m ww hb ho hB hBb M.fineR hpar hat hy (by omega) a0 (by rw[lE];exact hF) a1 hm ⟨a3.1,by omega⟩ a2
end
section
def upX (X:Except Int PSt):Except Int (PSt × PRes):=match X with
 |.error k=>.error k
 |.ok S'=>.ok (S',⟨0,0,0,false,{ data:=#[]},[]⟩)
theorem RefOut.up {B b:Nat} {w w':World} {X:Except Int PSt} {e:Ending} (h:RefOut B b w X e w'):ByOut B b w (upX X) e w':=by
 cases X with
 |error k=>exact h
 |ok S'=>exact h
variable {S:PSt}
theorem aLK (M:MayX S) (c:PCall):∃X:Except Int PSt,mV S c PRes.zero=upX X/\∀(B b:Nat) (iv ov mv:Value) (ww:World),Blk ww b #[iv,ov,mv] 26->StOwn B ww iv ov mv S->B<=ww.heap.size->B<=b->
 Calls Tryz.prog 126 #[.pointer (some ⟨b,0,none⟩),.agg #[.int .i64 c.kind,.int .i64 c.core,.int .i64 c.fd,.int .i64 c.off,.int .i64 c.num,.string c.path,.string c.path2,.string c.data]] ww (RefOut B b ww X):=by
 unfold mV;have hf:=M.find_ c.path;rcases hat:sD S c.path with k|K
 .rw[hat]at hf;obtain⟨hk0,n,hn⟩:=hf;exact⟨.error k,rfl,λB b iv ov mv ww hb ho hB hBb=>aKH b S iv ov mv c.kind c.core c.fd c.off c.num c.path c.path2 c.data ww hb ho.read M.fineR n k hn hk0⟩
 rw [hat]at hf;obtain⟨x,hn,hx,hK⟩:=hf;simp only[hx];cases hd:x.dir with
 |true=>exact⟨.error 8,rfl,λB b iv ov mv ww hb ho hB hBb=>aKI b S iv ov mv c.kind c.core c.fd c.off c.num c.path c.path2 c.data ww hb ho.read M.fineR x.num 0 hn rfl K x hK hx hd⟩
 | false =>
   simp only[zP,if_false];have hp:=M.par c.path2;rcases hpx:cV S c.path2 with q|⟨K1,l⟩
   .rw[hpx]at hp;obtain⟨hq,D,nm,hpar⟩:=hp;exact⟨.error q,rfl,λB b iv ov mv ww hb ho hB hBb=>aKJ b S iv ov mv c.kind c.core c.fd c.off c.num c.path c.path2 c.data ww hb ho.read M.fineR x.num 0 hn rfl K x hK hx hd D nm q hpar hq⟩
   rw [hpx]at hp;obtain⟨y,hpar,hy,hat1,hyd,hl⟩:=hp;have a1:∀e∈y.ents,e.name.size<=1000000000:=λe he=>by have:=M.tree.name y (mG hy) e he;omega
   unfold tL;simp only[hy];cases hh:bL y.ents l with
   | true=>obtain⟨e,he,hen0,hen,h0,hm⟩:=M.ent_hit hat1 hy hh;exact⟨.error 2,rfl,λB b iv ov mv ww hb ho hB hBb=>aKK b S iv ov mv c.kind c.core c.fd c.off c.num c.path c.path2 c.data ww hb ho.read M.fineR x.num 0 hn rfl K x hK hx hd y.num l 0 hpar rfl (by rw[hen];exact h0)⟩
   | false=>
     have a0:=M.ent_miss hat1 hy hh;cases hF:fQ y.ents l { data:=#[]}with
     |true=>exact⟨.error 5,rfl,λB b iv ov mv ww hb ho hB hBb=>aKL b S iv ov mv c.kind c.core c.fd c.off c.num c.path c.path2 c.data ww hb ho.read M.fineR x.num 0 hn rfl K x hK hx hd y.num l 0 hpar rfl a0 K1 y hat1 hy (by omega) a1 (by rw[lE];exact hF)⟩
     | false=>refine⟨.ok (S.ents K1 y (bJ y.ents (cL y.ents l) ⟨l,x.num⟩)),rfl,λB b iv ov mv ww hb ho hB hBb=>?_⟩;have:=aOD B b S iv ov mv c.kind c.core c.fd c.off c.num c.path c.path2 c.data ww hb ho hB M.fineR x.num 0 hn rfl K x hK hx hd y.num l 0 hpar rfl a0 K1 y hat1 hy (by omega) a1 (by rw[lE];exact hF) hBb;rw[uA (M.asc y (mG hy)) hh]at this;exact this
theorem aRH (M:MayX S) (c:PCall) (hk:c.kind=8) (B b:Nat) (iv ov mv:Value) (ww:World) (hb:Blk ww b #[iv,ov,mv] 26) (ho:StOwn B ww iv ov mv S) (hB:B<=ww.heap.size) (hBb:B<=b):
 Calls Tryz.prog 96 #[.pointer (some ⟨b,0,none⟩),.agg #[.int .i64 c.kind,.int .i64 c.core,.int .i64 c.fd,.int .i64 c.off,.int .i64 c.num,.string c.path,.string c.path2,.string c.data]] ww (ByOut B b ww (mV S c PRes.zero)):=by
 obtain⟨X,hX,hin⟩:=aLK M c;rw[hX];rw[hk]at hin |-;exact(aNG B b S iv ov mv c.core c.fd c.off c.num c.path c.path2 c.data ww hb hB X (λw2 hw=>hin B b iv ov mv w2 (aB hb hw) (ho.on hw) (zD hB hw.size) hBb)).mono λe w' h=>h.up
end
section
def aTK (l:List PDesc):Prop:=∀(i j:Nat) (a b:PDesc),l[i]? =some a->l[j]? =some b->i<j->a.core<b.core\/(a.core=b.core/\a.fd<b.fd)
variable {S:PSt} {x:PIn}
theorem nI:∀(l:List PDesc) (prev:Option PDesc),fR S prev l=true->aTK l/\(∀q,prev=some q->∀(i:Nat) (a:PDesc),l[i]? =some a->q.core<a.core\/(q.core=a.core/\q.fd<a.fd))/\∀d∈l,0<=d.core/\d.core<S.made.length/\0<=d.fd/\d.fd<4/\0<=aJ S.nums d.num/\∃x,S.ins[(aJ S.nums d.num).toNat]? =some x/\x.dir=false
 |[],_,_=>⟨λi j a b h=>by simp at h,λq _ i a h=>by simp at h,λd h=>by cases h⟩
 | d ::r,prev,h=>by
   unfold fR at h;split at h
   .cases h
   split at h
   .cases h
   split at h
   .cases h
   split at h
   .cases h
   split at h
   .cases h
   rename_i hp;split at h
   .cases h
   split at h;rotate_left
   .cases h
   rename_i x hx;split at h
   .cases h
   rename_i hd;obtain⟨h1,h2,h3⟩:=nI r _ h;have h4:=h2 d rfl;have h5:∀q,prev=some q->q.core<d.core\/(q.core=d.core/\q.fd<d.fd):=by rintro q rfl;have a0:¬kA (some q) d=true:=hp;unfold kA at a0;simp only[yI,zE,zI,beq_iff_eq]at a0;omega
   refine⟨λi j a b ha hb hij=>?_,λq hq i a ha=>?_,λy hy=>?_⟩
   .rcases i with _|i
    .simp only[zH,zF]at ha;subst ha;rcases j with _|j
     .omega
     exact h4 j b (by simpa using hb)
    rcases j with _|j
    .omega
    exact h1 i j a b (by simpa using ha) (by simpa using hb) (by omega)
   .rcases i with _|i
    .simp only[zH,zF]at ha;subst ha;exact h5 q hq
    have a1:=h5 q hq;have a2:=h4 i a (by simpa using ha);omega
   rcases List.mem_cons.1 hy with rfl|hy
   .exact⟨by omega,by omega,by omega,by omega,by omega,x,hx,by simpa using hd⟩
   exact h3 y hy
theorem xP (c f:Int):∀(l:List PDesc) (q:Nat),(fdL c f l=0/\bG (λd:PDesc=>(d.core==c)&&(d.fd==f)) l q=-1/\∀d∈l,((d.core==c)&&(d.fd==f))=false)\/∃k y,l[k]? =some y/\((y.core==c)&&(y.fd==f))=true/\fdL c f l=y.num/\bG (λd:PDesc=>(d.core==c)&&(d.fd==f)) l q=((q+k:Nat):Int)
 |[],q=>.inl ⟨rfl,rfl,λd h=>by cases h⟩
 | d ::r,q=>by
   unfold fdL bG;by_cases hd:((d.core==c)&&(d.fd==f))=true
   .rw[zB hd];refine .inr ⟨0,d,rfl,hd,rfl,?_⟩;rw[zB hd];simp
   rw[zA hd,zA hd];rcases xP c f r (q+1)with⟨h1,h2,h3⟩|⟨k,y,h1,h2,h3,h4⟩
   .refine .inl ⟨h1,h2,λz hz=>?_⟩;rcases List.mem_cons.1 hz with rfl|hz
    .simpa using hd
    exact h3 z hz
   exact .inr ⟨k+1,y,by simpa using h1,h2,h3,by rw[h4];congr 1;omega⟩
theorem MayX.file_ (M:MayX S) (c:PCall):(dQ S c=none/\nU S c.core c.fd=0/\cG (eD c) S.op<0)\/∃I K d x,dQ S c=some (K,x)/\nU S c.core c.fd=x.num/\x.num≠0/\bH S x.num=(K:Nat)/\S.ins[K]? =some x/\S.op[I]? =some d/\cG (eD c) S.op=(I:Nat)/\x.dir=false/\d.core=c.core/\d.fd=c.fd:=by
 obtain⟨d1,d2,d3⟩:=nI S.op none M.descs;have a0:cG (eD c) S.op=bG (λd:PDesc=>(d.core==c.core)&&(d.fd==c.fd)) S.op 0:=rfl;rcases xP c.core c.fd S.op 0 with⟨h1,h2,h3⟩|⟨I,d,h1,h2,h3,h4⟩
 .refine .inl ⟨?_,h1,by rw[a0,h2];decide⟩;unfold dQ;rw[a0,h2,zB (by decide)]
 right;obtain⟨_,_,_,_,e5,x,e6,e7⟩:=d3 d (mG h1);have a2:=bM M.tree.rise d.num;obtain⟨K,hK⟩:∃K:Nat,aJ S.nums d.num=K:=⟨(aJ S.nums d.num).toNat,by omega⟩;rw[hK,zJ]at e6;have a1:bH S d.num=K:=by rw[<-a2,hK]
 have hn:=M.num a1 e6;have h0:=M.pos e6;rw[zM]at h4;simp only[zE,beq_iff_eq]at h2;refine⟨I,K,d,x,?_,by unfold nU;rw[h3,hn],by omega,by rw[hn];exact a1,e6,h1,by rw[a0,h4],e7,h2.1,h2.2⟩;unfold dQ;rw[a0,h4,zA (by omega),zJ,h1];simp only;rw[hK,zJ,e6]
theorem sP (hr:Rise S.nums) {K:Nat} (hx:S.ins[K]? =some x) (hd:x.dir=false):kH S x.num=oI S x.num:=by
 have hf:=kY hr (dJ hx);unfold kH oI;rw[hf,zJ,hx];simp only;rw[hd,sO];by_cases h1:0<(dM S x.num:Int)
 .rw[zB h1];have:((dM S x.num:Int)==0)=false:=by rw[yF];omega
  rw[this];simp
 rw[zA h1];have:((dM S x.num:Int)==0)=true:=by rw[beq_iff_eq];omega
 rw[this];show(if mC S.op x.num=true then S else _)=_;cases ho:mC S.op x.num with
 |true=>simp
 | false=>simp only[zP,if_false,Bool.not_false,Bool.and_true,if_true];congr 1;refine iY S.ins K x hx (by simp) (λi y hi hy=>?_);rw[yL,yF];intro e;have h2:=dJ hy;rw[e]at h2;exact hi (hr.inj h2 (dJ hx))
theorem aIE (M:MayX S) {c:PCall} {I:Nat} {d:PDesc} (hI:S.op[I]? =some d) (hc:d.core=c.core) (hf:d.fd=c.fd):kB c.core c.fd S.op=aM S.op I:=by
 obtain⟨d1,d2,d3⟩:=nI S.op none M.descs;refine iY S.op I d hI (by simp[hc,hf]) (λi y hi hy=>?_);rw[yL,<-Bool.not_eq_true];intro e;simp only[zE,beq_iff_eq]at e;rcases Nat.lt_or_gt_of_ne hi with h|h
 .have:=d1 i I y d hy hI h;omega
 have:=d1 I i d y hI hy h;omega
theorem gA {x:Int}:qF x=true↔0<=x/\x<=256:=by unfold qF;simp
theorem aTL (M:MayX S) (c:PCall) (R:Except Int (PSt × PRes)) (hR:(c.kind=3/\R=kK S c PRes.zero)\/(c.kind=4/\R=pH S c PRes.zero)\/(c.kind=5/\R=jX S c PRes.zero)\/(c.kind=6/\R=jY S c PRes.zero)\/(c.kind=7/\R=pI S c PRes.zero)\/(c.kind=15/\R=kJ S c PRes.zero)) (B b:Nat) (iv ov mv:Value) (ww:World) (hb:Blk ww b #[iv,ov,mv] 26) (ho:StOwn B ww iv ov mv S) (hB:B<=ww.heap.size) (hBb:B<=b):
 Calls Tryz.prog 95 #[.pointer (some ⟨b,0,none⟩),.agg #[.int .i64 c.kind,.int .i64 c.core,.int .i64 c.fd,.int .i64 c.off,.int .i64 c.num,.string c.path,.string c.path2,.string c.data]] ww (ByOut B b ww R):=by
 rcases M.file_ c with⟨h1,h2,h3⟩|⟨I,K,d,x,h1,h2,h3,h4,h5,h6,h7,h8,h9,h10⟩
 .have e:R=.error 4:=by
   rcases hR with⟨_,rfl⟩|⟨_,rfl⟩|⟨_,rfl⟩|⟨_,rfl⟩|⟨_,rfl⟩|⟨_,rfl⟩
   .unfold kK;rw[h1]
   .unfold pH;rw[h1]
   .unfold jX;rw[h1]
   .unfold jY;rw[h1]
   .unfold pI;rw[h1]
   unfold kJ;rw[zB h3]
  rw[e];exact aUH B b S iv ov mv c.kind c.core c.fd c.off c.num c.path c.path2 c.data ww hb ho hB hBb M.wf 0 h2 rfl
 have a0 :=M.tree.data x (mG h5);rcases hR with⟨hk,rfl⟩|⟨hk,rfl⟩|⟨hk,rfl⟩|⟨hk,rfl⟩|⟨hk,rfl⟩|⟨hk,rfl⟩
 .unfold kK;rw[h1,hk,h7,zJ];have:=aUG B b S iv ov mv c.core c.fd c.off c.num c.path c.path2 c.data ww hb ho hB hBb M.wf x.num h2 h3 K x h4 h5;rw[aIE M h6 h9 h10,sP (S:={ S with op:=aM S.op I}) M.tree.rise h5 h8]at this;exact this
 .unfold pH;rw[h1,hk];simp only;by_cases hin:(qF c.off&&qF c.num)=true
  .rw[zB hin];rw[zE,gA,gA]at hin;exact aSJ B b S iv ov mv c.core c.fd c.off c.num c.path c.path2 c.data ww hb ho hB hBb M.wf x.num h2 h3 K x h4 h5 c.off.toNat c.num.toNat (by omega) (by omega) (by omega) (by omega) (by omega)
  rw[zA hin];rw[zE,gA,gA]at hin;exact aSN B b S iv ov mv c.core c.fd c.off c.num c.path c.path2 c.data ww hb ho hB hBb M.wf x.num h2 h3 K x h4 h5 (by omega)
 .unfold jX;rw[h1,hk];simp only;by_cases hin:(qF c.off&&qF (c.data.size:Int))=true
  .rw [zB hin];rw[zE,gA,gA]at hin;by_cases hs:256<c.off+c.data.size
   .rw[zB hs];exact aSQ B b S iv ov mv c.core c.fd c.off c.num c.path c.path2 c.data ww hb ho hB hBb M.wf x.num h2 h3 K x h4 h5 (by omega) (by omega) (by omega) hs
   rw [zA hs];by_cases hz:c.data.size=0
   .have:=aSR B b S iv ov mv c.core c.fd c.off c.num c.path c.path2 c.data ww hb ho hB hBb M.wf x.num h2 h3 K x h4 h5 (by omega) (by omega) hz;have e:vA x.data c.off.toNat c.data=x.data:=by unfold vA;rw[zB hz]
    rw[e,hz];have e2:S.ins.set K { x with data:=x.data}=S.ins:=by obtain⟨hl,hg⟩:=gI.1 h5;have:({ x with data:=x.data}:PIn)=S.ins[K]:=hg.symm;rw[this];exact List.set_getElem_self hl
    rw[e2];exact this
   exact aSL B b S iv ov mv c.core c.fd c.off c.num c.path c.path2 c.data ww hb ho hB hBb M.wf x.num h2 h3 K x h4 h5 c.off.toNat (by omega) hz (by omega) (by omega)
  rw[zA hin];rw[zE,gA,gA]at hin;exact aSO B b S iv ov mv c.core c.fd c.off c.num c.path c.path2 c.data ww hb ho hB hBb M.wf x.num h2 h3 K x h4 h5 (by omega)
 .unfold jY;rw[h1,hk];simp only;by_cases hin:qF c.num=true
  .rw[zB hin];rw[gA]at hin;exact aSK B b S iv ov mv c.core c.fd c.off c.num c.path c.path2 c.data ww hb ho hB hBb M.wf x.num h2 h3 K x h4 h5 c.num.toNat (by omega) (by omega)
  rw[zA hin];rw[gA]at hin;exact aSP B b S iv ov mv c.core c.fd c.off c.num c.path c.path2 c.data ww hb ho hB hBb M.wf x.num h2 h3 K x h4 h5 (by omega)
 .unfold pI;rw[h1,hk];exact aUI B b S iv ov mv c.core c.fd c.off c.num c.path c.path2 c.data ww hb ho hB hBb M.wf x.num h2 h3 K x h4 h5
 unfold kJ;rw[zA (by omega),hk];exact aSM B b S iv ov mv c.core c.fd c.off c.num c.path c.path2 c.data ww hb ho hB hBb M.wf x.num h2 h3 K x h4 h5
end
section
structure OInv (c:Int) (pre:List PDesc) (f a:Nat):Prop where
 le:a<=pre.length
 low:∀(j:Nat) (d:PDesc),j<a->pre[j]? =some d->d.core<c\/(d.core=c/\d.fd<f)
 high:∀(j:Nat) (d:PDesc),a<=j->pre[j]? =some d->c<d.core\/(d.core=c/\(f:Int)<d.fd)
 all:∀v:Nat,v<f->∃d∈pre,d.core=c/\d.fd=v
theorem vJ (c:Int):∀(l pre:List PDesc) (f a:Nat),aTK (pre++l)->(∀d∈pre++l,0<=d.fd)->OInv c pre f a->OInv c (pre++l) (cT c l pre.length f a).1 (cT c l pre.length f a).2
 | [],pre,f,a,_,_,h=>by unfold cT;rw[List.append_nil];exact h
 | o :: r, pre,f,a,hs,hp,h=>by
   unfold cT;have a0:(pre++[o]).length=pre.length+1:=by simp
   have a1:pre++o::r=(pre++[o])++r:=by simp
   rw[a1]at hs hp |-;rw[<-a0];have a2:∀(j:Nat) (d:PDesc),pre[j]? =some d->d.core<o.core\/(d.core=o.core/\d.fd<o.fd):=by
    intro j d hd;obtain⟨hl,_⟩:=gI.1 hd;refine hs j pre.length d o ?_ ?_ hl
    .rw[yS,zZ hl];exact hd
    simp
   have a4:0<=o.fd:=hp o (by simp);have a3:∀d∈pre,∃j:Nat,pre[j]? =some d:=λd hd=>List.getElem?_of_mem hd;refine vJ c r (pre++[o]) _ _ hs hp ?_;by_cases h1:o.core=c/\o.fd=f
   .rw [zB h1,zB (Or.inr h1)];have ha:a=pre.length:=by
     rcases Nat.lt_or_ge a pre.length with hl|hl
     .exfalso;have hd:=gE hl;have h2:=h.high a _ (zC _) hd;have h3:=a2 a _ hd;omega
     have:=h.le;omega
    refine⟨by rw[a0];omega,λj d hj hd=>?_,λj d hj hd=>?_,λv hv=>?_⟩
    .rcases Nat.lt_or_ge j pre.length with hl|hl
     .rw[zZ hl]at hd;have:=h.low j d (by omega) hd;omega
     have:j=pre.length:=by omega
     subst this;simp at hd;subst hd;omega
    .obtain⟨hl,_⟩:=gI.1 hd;omega
    by_cases hvf:v=f
    .exact⟨o,by simp,h1.1,by omega⟩
    obtain⟨d,hd,e1,e2⟩:=h.all v (by omega);exact⟨d,by simp[hd],e1,e2⟩
   rw [zA h1];by_cases h2:o.core<c
   .rw [zB (Or.inl h2)];have ha:a=pre.length:=by
     rcases Nat.lt_or_ge a pre.length with hl|hl
     .exfalso;have hd:=gE hl;have h3:=h.high a _ (zC _) hd;have h4:=a2 a _ hd;omega
     have:=h.le;omega
    refine⟨by rw[a0];omega,λj d hj hd=>?_,λj d hj hd=>?_,λv hv=>?_⟩
    .rcases Nat.lt_or_ge j pre.length with hl|hl
     .rw[zZ hl]at hd;exact h.low j d (by omega) hd
     have:j=pre.length:=by omega
     subst this;simp at hd;subst hd;omega
    .obtain⟨hl,_⟩:=gI.1 hd;omega
    obtain⟨d,hd,e1,e2⟩:=h.all v hv;exact⟨d,by simp[hd],e1,e2⟩
   rw [zA (by
    rintro(e|e)
    .exact h2 e
    exact h1 e)]
   refine⟨by rw[a0];have:=h.le;omega,λj d hj hd=>?_,λj d hj hd=>?_,λv hv=>?_⟩
   .have:=h.le;rw[zZ (by omega)]at hd;exact h.low j d hj hd
   .rcases Nat.lt_or_ge j pre.length with hl|hl
    .rw[zZ hl]at hd;exact h.high j d hj hd
    obtain⟨hl2,_⟩:=gI.1 hd;have:j=pre.length:=by omega
    subst this;simp at hd;subst hd;by_cases h3:o.core=c
    .right;refine⟨h3,?_⟩;rcases Int.lt_or_le (f:Int) o.fd with h4|h4
     .exact h4
     exfalso;obtain⟨y,hy,e1,e2⟩:=h.all o.fd.toNat (by omega);obtain⟨i,hi⟩:=a3 y hy;have:=a2 i y hi;omega
    left;omega
   obtain⟨d,hd,e1,e2⟩:=h.all v hv;exact⟨d,by simp[hd],e1,e2⟩
variable {S:PSt} {c v:Int}
theorem MayX.open_ (M:MayX S) (c:Int):OInv c S.op (cT c S.op 0 0 0).1 (cT c S.op 0 0 0).2:=by obtain⟨d1,d2,d3⟩:=nI S.op none M.descs;have:=vJ c S.op [] 0 0 (by simpa using d1) (λd hd=>(d3 d (by simpa using hd)).2.2.1) ⟨zC _,λj d hj=>by omega,λj d _ hd=>by simp at hd,λv hv=>by omega⟩;simpa using this
theorem MayX.fd_have (M:MayX S) (h:∃d∈S.op,d.core=c/\d.fd=v):nU S c v≠0:=by
 obtain⟨d,hd,e1,e2⟩:=h;obtain⟨d1,d2,d3⟩:=nI S.op none M.descs;unfold nU;rcases xP c v S.op 0 with⟨_,_,h3⟩|⟨k,y,h1,h2,h3,_⟩
 .have:=h3 d hd;simp[e1,e2]at this
 rw[h3];obtain⟨_,_,_,_,e5,x,e6,_⟩:=d3 y (mG h1);have a0:=bM M.tree.rise y.num;obtain⟨K,hK⟩:∃K:Nat,aJ S.nums y.num=K:=⟨(aJ S.nums y.num).toNat,by omega⟩;rw[hK,zJ]at e6;have a1:bH S y.num=K:=by rw[<-a0,hK]
 have hn:=M.num a1 e6;have h0:=M.pos e6;omega
theorem aPB (h:∀d∈S.op,¬(d.core=c/\d.fd=v)):nU S c v=0:=by
 unfold nU;rcases xP c v S.op 0 with⟨h1,_,_⟩|⟨k,y,h1,h2,_,_⟩
 .exact h1
 simp only[zE,beq_iff_eq]at h2;exact absurd h2 (h y (mG h1))
theorem vK (S:PSt) (c:PCall) (r:PRes):pK S c r=match sD S c.path with
 |.error k=>.error k
 | .ok K=>match S.ins[K]? with
   |none=>.ok (S,r)
   | some x=>if x.dir=true then .error 8 else if 4<=(cT c.core S.op 0 0 0).1 then .error 10 else
     .ok ({ S with op:=sB S.op (cT c.core S.op 0 0 0).2 ⟨c.core,(cT c.core S.op 0 0 0).1,x.num⟩},{ r with fd:=(cT c.core S.op 0 0 0).1}):=by
 unfold pK sD oX;by_cases hp:(aA c.path).1≠0
 .rw[zB hp,zB hp]
 rw[zA hp,zA hp];by_cases hw:(aL S 0 (aA c.path).2).2≠0
 .rw[zB hw,zB hw]
 rw[zA hw,zA hw];simp only;rcases S.ins[(aL S 0 (aA c.path).2).1]? with _|x<;>rfl
theorem aTM (M:MayX S) (c:PCall) (B b:Nat) (iv ov mv:Value) (ww:World) (hb:Blk ww b #[iv,ov,mv] 26) (ho:StOwn B ww iv ov mv S) (hB:B<=ww.heap.size) (hBb:B<=b):
 Calls Tryz.prog 94 #[.pointer (some ⟨b,0,none⟩),.agg #[.int .i64 c.kind,.int .i64 c.core,.int .i64 c.fd,.int .i64 c.off,.int .i64 c.num,.string c.path,.string c.path2,.string c.data],.int .i64 (-1)] ww (aRD B b ww (pK S c PRes.zero)):=by
 rw[vK];have hf:=M.find_ c.path;rcases hat:sD S c.path with k|K
 .rw[hat]at hf;obtain⟨hk0,n,hn⟩:=hf;exact aFQ b S iv ov mv c.kind c.core c.fd c.off c.num c.path c.path2 c.data ww hb ho.read M.fineR n k hn hk0
 rw [hat]at hf;obtain⟨x,hn,hx,hK⟩:=hf;simp only[hx];cases hd:x.dir with
 |true=>exact aFR b S iv ov mv c.kind c.core c.fd c.off c.num c.path c.path2 c.data ww hb ho.read M.fineR x.num 0 hn rfl K x hK hx hd
 | false=>
   simp only[zP,if_false];have hI:=M.open_ c.core;generalize(cT c.core S.op 0 0 0).1=J at hI |-;generalize(cT c.core S.op 0 0 0).2=a at hI |-;by_cases h4:4<=J
   .rw[zB h4];exact aFS b S iv ov mv c.kind c.core c.fd c.off c.num c.path c.path2 c.data ww hb ho.read M.fineR x.num 0 hn rfl K x hK hx hd (λi h0 h3=>by
     obtain⟨d,hd1,e1,e2⟩:=hI.all i.toNat (by omega);exact M.fd_have ⟨d,hd1,e1,by omega⟩)
   rw[zA h4];have a0:nU S c.core J=0:=aPB λd hd1 e=>by
    obtain⟨j,hj⟩:=List.getElem?_of_mem hd1;rcases Nat.lt_or_ge j a with hl|hl
    .have:=hI.low j d hl hj;omega
    have:=hI.high j d hl hj;omega
   have:=aKO B b S iv ov mv c.kind c.core c.fd c.off c.num c.path c.path2 c.data x.num K x J ww hb ho hB hBb M.fineR hn hK hx hd (by omega) (by omega) a0 (λi h0 h3=>by
    obtain⟨d,hd1,e1,e2⟩:=hI.all i.toNat (by omega);exact M.fd_have ⟨d,hd1,e1,by omega⟩)
   have a1:cS (eS c.core J) (⟨c.core,J,x.num⟩:PDesc) S.op false []=sB S.op a ⟨c.core,J,x.num⟩:=by
    refine tW hI.le (λi e hi he=>?_) (λe he=>?_)
    .have:=hI.low i e hi he;unfold eS;simp only[yU,yV,Bool.and_eq_false_iff,yF];omega
    have:=hI.high a e (zC _) he;unfold eS;simp only[yI,zI,zE,beq_iff_eq];omega
   rw[a1]at this;exact this
end
section
variable {K k:Nat} {S:PSt} {x y:PIn}
theorem gB (hx:S.ins[k]? =some x) (hd:x.dir=true):aW S k=x.ents.map λe=>(bH S e.num).toNat:=by unfold aW;rw[hx];simp[hd]
theorem MayX.once (M:MayX S) {j:Nat} (hx:S.ins[j]? =some x) (hd:x.dir=true) {k1 k2:Nat} (h1:j∈aW S k1) (h2:j∈aW S k2):k1=k2/\(aW S k1).count j=1:=by
 have a1:j≠0:=λe=>M.tree.root k1 (e ▸ h1);have ho:=M.tree.once j x hx hd a1;have a0:∀k,j∈aW S k->k<S.ins.length:=λk hk=>by
  rcases Nat.lt_or_ge k S.ins.length with h|h
  .exact h
  unfold aW at hk;rw[List.getElem?_eq_none h]at hk;cases hk
 have c1:1<=(aW S k1).count j:=List.count_pos_iff.2 h1;have c2:1<=(aW S k2).count j:=List.count_pos_iff.2 h2;have hs:cH (λk=>(aW S k).count j) S.ins.length=1:=by have h9:(aW S k1).count j<=cH (λk=>(aW S k).count j) S.ins.length:=aHY (f:=λk=>(aW S k).count j) (a0 k1 h1);omega
 obtain⟨p,hp,hp1,hp2⟩:=uR hs;have e1:k1=p:=by
  rcases Nat.decEq k1 p with h|h
  .have:=hp2 k1 (a0 k1 h1) h;omega
  exact h
 have e2:k2=p:=by
  rcases Nat.decEq k2 p with h|h
  .have:=hp2 k2 (a0 k2 h2) h;omega
  exact h
 subst e1;exact⟨e2.symm,hp1⟩
theorem MayX.walk_self (M:MayX S) (hy:S.ins[K]? =some y) (hd:y.dir=true) (hK:K∈aW S K):∀(ns:List ByteArray) (k:Nat),k≠K->(aL S k ns).2=0->(aL S k ns).1≠K
 |[],k,hk,_=>hk
 | n :: r, k,hk,h=>by
   unfold aL at h |-;rcases hx:S.ins[k]? with _|x
   .rw[hx]at h;cases h
   rw [hx]at h;simp only at h |-;by_cases hxd:x.dir=true
   .rw [zB hxd]at h |-;by_cases hh:bL x.ents n=true
    .rw [zB hh]at h |-;rcases he:x.ents[cL x.ents n]? with _|e
     .rw[he]at h;cases h
     rw[he]at h;simp only at h |-;refine M.walk_self hy hd hK r _ (λe2=>?_) h;rw[bM M.tree.rise]at e2;have hm:K∈aW S k:=by rw[gB hx hxd,<-e2];exact List.mem_map_of_mem (mG he)
     exact hk (M.once hy hd hm hK).1
    rw[zA hh]at h;cases h
   rw[zA hxd]at h;cases h
theorem MayX.par_self (M:MayX S) {p:ByteArray} {l:ByteArray} (hp:cV S p=.ok (K,l)) (hy:S.ins[K]? =some y) (hd:y.dir=true):K∉aW S K:=by
 intro hK;have a0:K≠0:=λe=>M.tree.root K (by rw[<-e];exact hK);unfold cV at hp;split at hp
 .cases hp
 unfold aX at hp;split at hp
 .cases hp
 split at hp
 .cases hp
 rename_i hw;split at hp
 .split at hp
  .cases hp;exact M.walk_self hy hd hK _ 0 (λe=>a0 e.symm) (by simpa using hw) rfl
  cases hp
 cases hp
theorem sQ (n:Int):∀xs:List PIn,(∀x∈xs,x.dir=true->∀e∈x.ents,e.num≠n)->jS n xs=0
 |[],_=>rfl
 | x :: r,h=>by
   unfold jS;rw[sQ n r λy hy=>h y (zL _ hy)];have hx:=h x zQ;have:∀es:List PEnt,(x.dir=true->∀e∈es,e.num≠n)->fS n x es=0:=by
    intro es
    induction es with
    |nil=>intro _;rfl
    | cons e es ih=>
      intro hh;unfold fS;rw[ih λhd e' he'=>hh hd e' (zL _ he')];cases hd:x.dir with
      |false=>simp
      | true=>
        have:=hh hd e zQ;have hb:(e.num==n)=false:=by simpa using this
        simp[hb]
   rw[this x.ents hx]
theorem vL {α:Type} {l:List α} {z:α} (h:z∈aM l k):∃i,i≠k/\l[i]? =some z:=by
 unfold aM at h;rcases List.mem_append.1 h with h|h
 .obtain⟨i,hi⟩:=List.getElem?_of_mem h;obtain⟨hl,_⟩:=gI.1 hi;rw[zU]at hl;rw[yO,zB (by omega)]at hi;exact⟨i,by omega,hi⟩
 obtain⟨i,hi⟩:=List.getElem?_of_mem h;rw[yN]at hi;exact⟨k+1+i,by omega,hi⟩
theorem qG {α:Type} (f:α->Nat) (j:Nat):∀(l:List α) (p q:Nat) (a b:α),l[p]? =some a->l[q]? =some b->p<q->f a=j->f b=j->2<=(l.map f).count j
 |[],p,q,a,b,h,_,_,_,_=>by simp at h
 | z::r,0,q,a,b,ha,hb,hpq,h1,h2=>by
   simp only[zH,zF]at ha;subst ha;obtain⟨q,rfl⟩:∃q',q=q'+1:=⟨q-1,by omega⟩;rw[yZ,List.count_cons,h1];have:1<=(r.map f).count j:=List.count_pos_iff.2 (by
    rw[<-h2];exact List.mem_map_of_mem (mG (by simpa using hb)))
   rw[zB (by simp)];omega
 | z::r,p+1,q,a,b,ha,hb,hpq,h1,h2=>by obtain⟨q,rfl⟩:∃q',q=q'+1:=⟨q-1,by omega⟩;rw[yZ,List.count_cons];have:=qG f j r p q a b (by simpa using ha) (by simpa using hb) (by omega) h1 h2;omega
theorem aGH (h:S.wf) (hx:S.ins[K]? =some x) {es:List PEnt} (hl:es.length<=1000000000) (he:∀e∈es,I64 e.num):(S.ents K x es).wf:=by
 obtain⟨h1,h2,h3,h4,h5,h6⟩:=h;refine⟨by show(S.ins.set K _).length<=_;rw[yB];exact h1,h2,h3,λz hz=>?_,h5,h6⟩;rcases List.mem_or_eq_of_mem_set hz with hz|rfl
 .exact h4 z hz
 exact⟨(h4 x (mG hx)).1,hl,he⟩
theorem aRI (M : MayX S) (c:PCall) (hk:c.kind=9\/c.kind=10) (B b:Nat) (iv ov mv:Value) (ww:World) (hb:Blk ww b #[iv,ov,mv] 26) (ho:StOwn B ww iv ov mv S) (hB:B<=ww.heap.size) (hBb:B<=b):
 Calls Tryz.prog 96 #[.pointer (some ⟨b,0,none⟩),.agg #[.int .i64 c.kind,.int .i64 c.core,.int .i64 c.fd,.int .i64 c.off,.int .i64 c.num,.string c.path,.string c.path2,.string c.data]] ww (ByOut B b ww (gW S c PRes.zero)):=by
 unfold gW;have hp:=M.par c.path;rcases hpx:cV S c.path with q|⟨K,l⟩
 .rw[hpx]at hp;obtain⟨hq,D,nm,hpar⟩:=hp;exact xD b S iv ov mv c.kind c.core c.fd c.off c.num c.path c.path2 c.data ww hb ho.read M.fineR (by omega) D nm q hpar hq
 rw [hpx] at hp;obtain⟨y,hpar,hy,hat1,hyd,hl⟩:=hp;simp only[hy];cases hh:bL y.ents l with
 | false=>have a1:=M.ent_miss hat1 hy hh;exact xE b S iv ov mv c.kind c.core c.fd c.off c.num c.path c.path2 c.data ww hb ho.read M.fineR (by omega) y.num l 0 hpar rfl a1
 | true =>
   obtain⟨e,he,hen0,hen,h0,hm⟩:=M.ent_hit hat1 hy hh;have a3:=mG hy;obtain⟨K0,x,hat,hx,hxn,_⟩:=M.kid a3 hm;have a8:=wU (M.asc y a3) hh;simp only[Bool.true_eq_false,if_false,he];have a5:=M.wf.2.2.2.1 y a3;have a4:(S.ents K y (dC l y.ents)).wf:=aGH M.wf hy (zD (List.length_filter_le _ _) a5.2.1) λz hz=>a5.2.2 z (List.mem_filter.1 hz).1;have hn:=aNI B b S iv ov mv c.kind c.core c.fd c.off c.num c.path c.path2 c.data ww hb ho hB hBb M.fineR hk y.num l 0 hpar rfl e.num hen h0 K0 x hat hx K y hat1 hy a4;refine hn.mono λe' w' h'=>?_;have a9:=h'.up;have a0:K0∈aW S K:=by rw[gB hy hyd];refine List.mem_map.2 ⟨e,hm,?_⟩;rw[hat];rfl
   have b0:K0≠K:=λe2=>M.par_self hpx hy hyd (by rw[e2]at a0;exact a0);have a6:(S.ents K y (aM y.ents (cL y.ents l))).nums=S.nums:=lO hy _;have hf:aJ (S.ents K y (aM y.ents (cL y.ents l))).nums e.num=(K0:Int):=by rw[a6,bM M.tree.rise,hat]
   have a2:(S.ents K y (aM y.ents (cL y.ents l))).ins[K0]? =some x:=by show(S.ins.set K _)[K0]? =_;rw[zX (λe2=>b0 e2.symm)];exact hx
   have a7:Rise (S.ents K y (aM y.ents (cL y.ents l))).nums:=by rw[a6];exact M.tree.rise
   have hX : upX (aAO S c.kind x K y l e.num)=aFN (S.ents K y (aM y.ents (cL y.ents l))) c PRes.zero e.num:=by
    unfold aAO aFN;rw[hf,zJ,a2,a8];simp only;by_cases h9:c.kind=9
    .rw[zB h9,zB h9];cases hd:x.dir with
     |true=>rfl
     | false=>simp only[zP,if_false];have:=sP a7 a2 hd;rw[hxn]at this;rw[this];rfl
    rw [zA h9,zA h9];cases hd:x.dir with
    |false=>rfl
    | true =>
      simp only[Bool.true_eq_false,if_false];by_cases hle:0<x.ents.length
      .rw[zB hle,zB hle];rfl
      rw [zA hle,zA hle];have b1:=M.once hx hd a0 a0;have hz:cQ (S.ents K y (aM y.ents (cL y.ents l))) e.num=0:=by
       rw[sO];unfold dM;rw[sQ]
       .rfl
       intro z hz hzd e2 he2 hc;obtain⟨i,hi⟩:=List.getElem?_of_mem hz;by_cases hik:i=K
       .subst hik;have:z={ y with ents:=aM y.ents (cL y.ents l)}:=by
         have h7:(S.ins.set i { y with ents:=aM y.ents (cL y.ents l)})[i]? =some z:=hi;obtain⟨hl7,_⟩:=gI.1 hy;rw[zY hl7]at h7;exact(Option.some.inj h7).symm
        subst this;obtain⟨j,hj1,hj2⟩:=vL he2;have h2:2<=(y.ents.map λe=>(bH S e.num).toNat).count K0:=by
         rcases Nat.lt_or_gt_of_ne hj1 with h|h
         .exact qG (λe=>(bH S e.num).toNat) K0 y.ents j (cL y.ents l) e2 e hj2 he h (by rw[hc,hat];rfl) (by rw[hat];rfl)
         exact qG (λe=>(bH S e.num).toNat) K0 y.ents (cL y.ents l) j e e2 he hj2 h (by rw[hat];rfl) (by rw[hc,hat];rfl)
        rw[<-gB hy hyd]at h2;omega
       have h7:S.ins[i]? =some z:=by have h8:(S.ins.set K { y with ents:=aM y.ents (cL y.ents l)})[i]? =some z:=hi;rw[zX (λe2=>hik e2.symm)]at h8;exact h8
       have b2:K0∈aW S i:=by rw[gB h7 hzd];refine List.mem_map.2 ⟨e2,he2,?_⟩;rw[hc,hat];rfl
       exact hik (M.once hx hd b2 a0).1
      have b3:eP (S.ents K y (aM y.ents (cL y.ents l))) e.num=false:=by show S.op.any (λd=>d.num==e.num)=false;rw[List.any_eq_false];intro d hd2 hc;rw[beq_iff_eq]at hc;obtain⟨_,_,d3⟩:=nI S.op none M.descs;obtain⟨_,_,_,_,_,z,hz1,hz2⟩:=d3 d hd2;rw[bM M.tree.rise,hc,hat,zJ,hx]at hz1;cases hz1;rw[hd]at hz2;cases hz2
      unfold kH;rw[hz,zA (by omega),b3];simp only[zP,if_false];have b4:(S.ents K y (aM y.ents (cL y.ents l))).ins.filter (λx=>!(x.num==e.num))=aM (S.ents K y (aM y.ents (cL y.ents l))).ins K0:=by refine iY _ K0 x a2 (by simp[hxn]) (λi z hi hz=>?_);rw[yL,yF];intro e3;have h2:=dJ hz;have h3:=dJ a2;rw[e3]at h2;rw[hxn]at h3;exact hi (a7.inj h2 h3)
      rw[b4];rfl
   rw[<-hX];exact a9
end
section
theorem mF (S:PSt) (i j:Nat):∀ns:List Nat,j∈bS S i ns↔∃k∈ns,j∈bS S i [k]
 |[]=>by rw[qE];simp
 | k ::r=>by
   rw[show k::r=[k]++r from rfl,jV,List.mem_append,mF S i j r];constructor
   .rintro(h|⟨k2,h1,h2⟩)
    .exact⟨k,by simp,h⟩
    exact⟨k2,by simp[h1],h2⟩
   rintro⟨k2,h1,h2⟩;rcases List.mem_append.1 h1 with h|h
   .rw[List.mem_singleton.1 h]at h2;exact .inl h2
   exact .inr ⟨k2,h,h2⟩
theorem sR (S:PSt):∀(a b:Nat) (ns:List Nat),bS S (a+b) ns=bS S b (bS S a ns)
 |0,b,ns=>by rw[zM];rfl
 | a+1,b,ns=>by rw[show a+1+b=(a+b)+1 by omega];exact sR S a b (ns.flatMap (aW S))
theorem kM (S:PSt) (i k:Nat):bS S (i+1) [k]=bS S i (aW S k):=by show bS S i ([k].flatMap (aW S))=_;simp
variable {S:PSt} {k:Nat} {n:ByteArray}
theorem aBB {f:Nat} {ns:List Nat} (h:bS S f ns=[]) (hk:k∈ns):bS S f [k]=[]:=by
 rcases e:bS S f [k]with _|⟨j,r⟩
 .rfl
 exfalso;have:j∈bS S f ns:=(mF S f j ns).2 ⟨k,hk,by rw[e];simp⟩;rw[h]at this;cases this
theorem MayX.walk_lev (M:MayX S):∀(ns:List ByteArray) (k:Nat),(aL S k ns).2=0->(aL S k ns).1∈bS S ns.length [k]
 |[],k,_=>by simp[aL,bS]
 | n ::r,k,h=>by
   unfold aL at h |-;rcases hx:S.ins[k]? with _|x
   .rw[hx]at h;cases h
   rw [hx]at h;simp only at h |-;by_cases hxd:x.dir=true
   .rw[zB hxd]at h |-;by_cases hh:bL x.ents n=true
    .rw[zB hh]at h |-;rcases he:x.ents[cL x.ents n]? with _|e
     .rw[he]at h;cases h
     rw[he]at h;simp only at h |-;rw[zK,kM,mF];refine⟨(aJ S.nums e.num).toNat,?_,M.walk_lev r _ h⟩;rw[gB hx hxd,bM M.tree.rise];exact List.mem_map_of_mem (mG he)
    rw[zA hh]at h;cases h
   rw[zA hxd]at h;cases h
theorem aDN {r0:List ByteArray} (h:(aL S k (n::r0)).2=0):∃k2,∀r,aL S k (n::r)=aL S k2 r:=by
 unfold aL at h;rcases hx:S.ins[k]? with _|x
 .rw[hx]at h;cases h
 rw [hx]at h;simp only at h;by_cases hxd:x.dir=true
 .rw [zB hxd]at h;by_cases hh:bL x.ents n=true
  .rw[zB hh]at h;rcases he:x.ents[cL x.ents n]? with _|e
   .rw[he]at h;cases h
   refine⟨(aJ S.nums e.num).toNat,λr=>?_⟩
   conv=>lhs;unfold aL
   rw[hx];simp only;rw[zB hxd,zB hh,he]
  rw[zA hh]at h;cases h
 rw[zA hxd]at h;cases h
theorem qH:∀(a b:List ByteArray) (k:Nat),(aL S k (a++b)).2=0->(aL S k a).2=0/\aL S k (a++b)=aL S (aL S k a).1 b
 |[],b,k,h=>⟨rfl,rfl⟩
 | n::a,b,k,h=>by rw[List.cons_append]at h |-;obtain⟨k2,hk⟩:=aDN h;rw[hk]at h |-;rw[hk];exact qH a b k2 h
theorem aIF (h:(aL S k [n]).2=0) (hr:Rise S.nums):(aL S k [n]).1∈aW S k:=by
 unfold aL at h |-;rcases hx:S.ins[k]? with _|x
 .rw[hx]at h;cases h
 rw [hx]at h;simp only at h |-;by_cases hxd:x.dir=true
 .rw[zB hxd]at h |-;by_cases hh:bL x.ents n=true
  .rw[zB hh]at h |-;rcases he:x.ents[cL x.ents n]? with _|e
   .rw[he]at h;cases h
   simp only;rw[gB hx hxd,bM hr];exact List.mem_map_of_mem (mG he)
  rw[zA hh]at h;cases h
 rw[zA hxd]at h;cases h
theorem MayX.climb (M:MayX S) {K0:Nat}:∀(i:Nat) (ns:List ByteArray) (kT:Nat),(aL S 0 ns).2=0->(aL S 0 ns).1=kT->dU S kT=true->kT∈bS S i [K0]->∃q,q<=ns.length/\(aL S 0 (ns.take q)).1=K0
 | 0,ns,kT,h1,h2,_,h4=>by
   have:kT=K0:=by simpa[bS]using h4
   exact⟨ns.length,zC _,by rw[List.take_length,h2,this]⟩
 | i +1,ns,kT,h1,h2,h3,h4=>by
   rw[fZ]at h4;obtain⟨p,hp,hkp⟩:=List.mem_flatMap.1 h4;obtain⟨y,hy,hyd⟩:∃y,S.ins[kT]? =some y/\y.dir=true:=by
    unfold dU at h3;split at h3
    .rename_i x hx;exact⟨x,hx,h3⟩
    cases h3
   rcases List.eq_nil_or_concat ns with rfl|⟨r,n,rfl⟩
   .have:kT=0:=by rw[<-h2];rfl
    subst this;exact absurd hkp (M.tree.root p)
   rw[List.concat_eq_append]at h1 h2 |-;obtain⟨w1,w2⟩:=qH r [n] 0 h1;rw[w2]at h1 h2;have hk:=aIF h1 M.tree.rise;rw[h2]at hk;have a0:=(M.once hy hyd hkp hk).1;have a1:dU S p=true:=uS (by intro e;rw[e]at hkp;cases hkp);obtain⟨q,hq,hq2⟩:=M.climb i r p w1 a0.symm a1 hp;refine⟨q,by simp;omega,?_⟩;rw[List.take_append_of_le_length hq];exact hq2
theorem MayX.within_ (M:MayX S) {kT:Nat} {yT:PIn} (hT:S.ins[kT]? =some yT) (hTd:yT.dir=true):∀(n K:Nat) (x:PIn),S.ins[K]? =some x->x.dir=true->bS S n [K]=[]->∃B,gK S yT.num n x.num=some B/\(B=true↔∃i,kT∈bS S i [K])
 |0,K,x,hx,hd,hl=>by cases hl
 | n + 1, K, x, hx,hd,hl=>by
   have a3:=mG hx;have a0:=eY M.tree.rise hx;have a1:=eY M.tree.rise hT;unfold gK;by_cases he:yT.num=x.num
   .rw[zB he];refine⟨true,rfl,⟨λ_=>⟨0,?_⟩,λ_=>rfl⟩⟩;have:kT=K:=by rw[he,a0]at a1;omega
    subst this;simp[bS]
   rw [zA he, a0,zJ,hx];simp only;rw[kM]at hl;have key:∀es:List PEnt,(∀e∈es,e∈x.ents)->∃B,aFV S (gK S yT.num n) es=some B/\(B=true↔∃e∈es,∃i,kT∈bS S i [(bH S e.num).toNat]):=by
    intro es
    induction es with
    |nil=>exact λ_=>⟨false,rfl,by simp⟩
    | cons e es ih=>
      intro hs;obtain⟨B,hB1,hB2⟩:=ih λe' he'=>hs e' (zL _ he');have a2:=hs e zQ;obtain⟨k,z,hk,hz,hzn,_⟩:=M.kid a3 a2;unfold aFV;rw[hk,zJ,hz];simp only;cases hzd:z.dir with
      | false =>
        rw[zA (by decide),hB1];refine⟨B,rfl,?_⟩;rw[hB2];constructor
        .rintro⟨e',h1,h2⟩;exact⟨e',zL _ h1,h2⟩
        rintro⟨e',h1,i,h2⟩;rcases List.mem_cons.1 h1 with rfl|h1
        .exfalso;rw[hk,zJ]at h2;have a4:aW S k=[]:=by
          unfold aW;rw[hz];simp[hzd]
         rcases i with _|i
         .have:kT=k:=by simpa[bS]using h2
          subst this;rw[hT]at hz;cases hz;rw[hTd]at hzd;cases hzd
         rw[kM,a4,qE]at h2;cases h2
        exact⟨e',h1,i,h2⟩
      | true=>
        rw[zB rfl];have a5:k∈aW S K:=by rw[gB hx hd];exact List.mem_map.2 ⟨e,a2,by rw[hk];rfl⟩
        obtain⟨B2,h1,h2⟩:=M.within_ hT hTd n k z hz hzd (aBB hl a5);rw[<-hzn,h1];cases B2 with
        | true=>refine⟨true,rfl,⟨λ_=>?_,λ_=>rfl⟩⟩;obtain⟨i,hi⟩:=h2.1 rfl;exact⟨e,zQ,i,by rw[hk];exact hi⟩
        | false=>
          simp only;refine⟨B,hB1,?_⟩;rw[hB2];constructor
          .rintro⟨e',h3,h4⟩;exact⟨e',zL _ h3,h4⟩
          rintro⟨e',h3,i,h4⟩;rcases List.mem_cons.1 h3 with rfl|h3
          .rw[hk]at h4;have:=h2.2 ⟨i,h4⟩;cases this
          exact⟨e',h3,i,h4⟩
   obtain⟨B,h1,h2⟩:=key x.ents λe he=>he;refine⟨B,h1,?_⟩;rw[h2];constructor
   .rintro⟨e,h3,i,h4⟩;refine⟨i+1,?_⟩;rw[kM,mF];exact⟨_,by rw[gB hx hd];exact List.mem_map_of_mem h3,h4⟩
   rintro⟨i,h4⟩;rcases i with _|i
   .exfalso;have:kT=K:=by simpa[bS]using h4
    subst this;rw[hT]at hx;cases hx;exact he rfl
   rw[kM,mF]at h4;obtain⟨k,h5,h6⟩:=h4;rw[gB hx hd]at h5;obtain⟨e,h7,h8⟩:=List.mem_map.1 h5;exact⟨e,h7,i,by rw[h8];exact h6⟩
end
section
variable {S:PSt} {es:List PEnt} {p t:ByteArray}
theorem aBC {K:Nat} {l:ByteArray} (h:cV S p=.ok (K,l)):∃ns,(aA p).1=0/\(aA p).2=ns++[l]/\(aL S 0 ns).2=0/\(aL S 0 ns).1=K:=by
 unfold cV at h;split at h
 .cases h
 rename_i hp;unfold aX at h;split at h
 .cases h
 rename_i l' hl;split at h
 .cases h
 rename_i hw;split at h
 .split at h
  .cases h;refine⟨(aA p).2.dropLast,by simpa using hp,?_,by simpa using hw,rfl⟩;have a0:(aA p).2≠[]:=λe=>by rw[e]at hl;cases hl
   have h1:=List.dropLast_concat_getLast a0;rw[List.getLast?_eq_some_getLast a0]at hl;rw[Option.some.inj hl]at h1;exact h1.symm
  cases h
 cases h
theorem sU {α:Type} {l:List α} {k i:Nat} {z:α} (h:(aM l k)[i]? =some z):(i<k/\l[i]? =some z)\/(k<=i/\l[i+1]? =some z):=by
 unfold aM at h;rcases Nat.lt_or_ge i (l.take k).length with h1|h1
 .rw[zZ h1]at h;rw[zU]at h1;rw[yO,zB (by omega)]at h;exact .inl ⟨by omega,h⟩
 rw[yC h1,yN]at h;rw[zU]at h1 h;obtain⟨hl,_⟩:=gI.1 h;right;refine⟨by omega,?_⟩;rw[show i+1=k+1+(i-min k l.length) by omega];exact h
theorem aPC (h:Asc es) (k:Nat):Asc (aM es k):=by
 intro i j a b ha hb hij;rcases sU ha with⟨h1,h2⟩|⟨h1,h2⟩<;>rcases sU hb with⟨h3,h4⟩|⟨h3,h4⟩
 .exact h i j a b h2 h4 hij
 .exact h i (j+1) a b h2 h4 (by omega)
 .exact h (i+1) j a b h2 h4 (by omega)
 exact h (i+1) (j+1) a b h2 h4 (by omega)
theorem aPD (h:Asc es) (hh:bL es t=false) (k:Nat):bL (aM es k) t=false:=by
 cases hd:bL (aM es k) t with
 |false=>rfl
 | true=>exfalso;obtain⟨e,he,hn⟩:=nS.1 hd;obtain⟨i,_,hi⟩:=vL (mG he);exact tZ h hh e (mG hi) hn
theorem rK (c:PCall) (r:PRes):gH S c r=match cV S c.path with
 |.error k=>.error k
 | .ok (K1,s)=>match S.ins[K1]? with
   |none=>.error 0
   | some x1=>if bL x1.ents s=false then .error 1 else match x1.ents[cL x1.ents s]? with
     |none=>.error 0
     | some e=>match cV S c.path2 with
       |.error k=>.error k
       |.ok (K2,t)=>if(oY S e.num&&gR S (aA c.path2).2 e.num)=true then .error 9 else rV S r K1 x1 s e.num K2 t:=by
 unfold gH;by_cases hp:(aA c.path).1≠0
 .rw[zB hp];unfold cV;rw[zB hp]
 rw [zA hp];have e1:cV S c.path=aX S (aA c.path).2:=by unfold cV;rw[zA hp]
 rw[e1];by_cases hp2:(aA c.path2).1=0
 .rw [zB hp2];have e2:cV S c.path2=aX S (aA c.path2).2:=by unfold cV;rw[zA (by simpa using hp2)]
  rw[e2];unfold eZ jN;rcases aX S (aA c.path).2 with k|⟨K1,s⟩
  .rfl
  simp only;rcases S.ins[K1]? with _|x1
  .rfl
  simp only;cases hh:bL x1.ents s with
  |false=>rfl
  | true=>
    simp only[Bool.true_eq_false,if_false];rcases x1.ents[cL x1.ents s]? with _|e
    .rfl
    simp only;rcases aX S (aA c.path2).2 with k|⟨K2,t⟩<;>rfl
 rw [zA hp2];have e2:cV S c.path2=.error (dN (aA c.path2).1):=by unfold cV;rw[zB hp2]
 rw[e2];unfold lZ;rcases aX S (aA c.path).2 with k|⟨K1,s⟩
 .rfl
 simp only;rcases hx:S.ins[K1]? with _|x1
 .rfl
 simp only;cases hh:bL x1.ents s with
 |false=>rfl
 | true=>obtain⟨e,he,_⟩:=nS.1 hh;simp only[Bool.true_eq_false,if_false,he]
theorem MayX.thru (M:MayX S) {K2 K0:Nat} (hp:cV S p=.ok (K2,t)) {x:PIn} (hx:S.ins[K0]? =some x) (hd2:dU S K2=true):gR S (aA p).2 x.num=true↔∃i,K2∈bS S i [K0]:=by
 obtain⟨ns,_,e,w1,w2⟩:=aBC hp;rw[e];unfold gR;rw[List.any_eq_true];have a0:∀q,q<=ns.length->(ns++[t]).take q=ns.take q:=λq hq=>List.take_append_of_le_length hq;have a1:∀q,(aL S 0 (ns.take q)).2=0/\aL S 0 ns=aL S (aL S 0 (ns.take q)).1 (ns.drop q):=λq=>by have h:=qH (S:=S) (ns.take q) (ns.drop q) 0 (by rw[List.take_append_drop];exact w1);rw[List.take_append_drop]at h;exact h
 constructor
 .rintro⟨q,hq,ht⟩;have a2:q<=ns.length:=by simp at hq;omega
  unfold rH at ht;rw[a0 q a2]at ht;split at ht
  .rename_i z hz
   rw[beq_iff_eq]at ht;have h1:=dJ hz;rw[ht]at h1;have hk:=M.tree.rise.inj h1 (dJ hx);obtain⟨_,h2⟩:=a1 q;rw[hk]at h2;refine⟨(ns.drop q).length,?_⟩;have h3:=M.walk_lev (ns.drop q) K0 (by rw[<-h2];exact w1);rw[<-h2,w2]at h3;exact h3
  cases ht
 rintro⟨i,hi⟩;obtain⟨q,hq,hq2⟩:=M.climb i ns K2 w1 w2 hd2 hi;refine⟨q,by simp;omega,?_⟩;unfold rH;rw[a0 q hq,hq2,hx];simp
theorem aRJ (M :MayX S) (c:PCall) (hk:c.kind=11) (B b:Nat) (iv ov mv:Value) (ww:World) (hb:Blk ww b #[iv,ov,mv] 26) (ho:StOwn B ww iv ov mv S) (hB:B<=ww.heap.size) (hBb:B<=b):
 Calls Tryz.prog 96 #[.pointer (some ⟨b,0,none⟩),.agg #[.int .i64 c.kind,.int .i64 c.core,.int .i64 c.fd,.int .i64 c.off,.int .i64 c.num,.string c.path,.string c.path2,.string c.data]] ww (ByOut B b ww (gH S c PRes.zero)):=by
 rw[rK];have hp:=M.par c.path;rcases hpx:cV S c.path with q|⟨K,l⟩
 .rw[hpx]at hp;obtain⟨hq,D,nm,hpar⟩:=hp;exact xD b S iv ov mv c.kind c.core c.fd c.off c.num c.path c.path2 c.data ww hb ho.read M.fineR (by omega) D nm q hpar hq
 rw [hpx] at hp;obtain⟨y,hpar,hy,hat1,hyd,hl⟩:=hp;simp only[hy];cases hh:bL y.ents l with
 | false=>have a0:=M.ent_miss hat1 hy hh;exact xE b S iv ov mv c.kind c.core c.fd c.off c.num c.path c.path2 c.data ww hb ho.read M.fineR (by omega) y.num l 0 hpar rfl a0
 | true =>
   obtain⟨e,he,hen0,hen,h0,hm⟩:=M.ent_hit hat1 hy hh;have a2:=mG hy;obtain⟨K0,x,hat,hx,hxn,_⟩:=M.kid a2 hm;simp only[Bool.true_eq_false,if_false,he];have key :∃X:Except Int PSt,(match cV S c.path2 with
    |.error k=>.error k
    | .ok (K2,t)=>if(oY S e.num&&gR S (aA c.path2).2 e.num)=true then .error 9 else rV S PRes.zero K y l e.num K2 t)=upX X/\∀(w2:World),Blk w2 b #[iv,ov,mv] 26->StOwn B w2 iv ov mv S->B<=w2.heap.size->
      Calls Tryz.prog 127 #[.pointer (some ⟨b,0,none⟩),.agg #[.int .i64 c.kind,.int .i64 c.core,.int .i64 c.fd,.int .i64 c.off,.int .i64 c.num,.string c.path,.string c.path2,.string c.data],.int .i64 y.num,.string l,.int .i64 e.num] w2 (RefOut B b w2 X):=by
    have a6:=M.par c.path2;rcases hpx2:cV S c.path2 with q|⟨K2,t⟩
    .rw[hpx2]at a6;obtain⟨hq,T,n2,hpar2⟩:=a6;exact⟨.error q,rfl,λw2 hb2 ho2 hB2=>aFO B b S iv ov mv c.kind c.core c.fd c.off c.num c.path c.path2 c.data l y.num e.num w2 hb2 ho2.read M.fineR T n2 q hpar2 hq⟩
    rw [hpx2]at a6;obtain⟨y2,hpar2,hy2,hat2,hy2d,hl2⟩:=a6;have a3:=mG hy2;have b2:=wU (M.asc y a2) hh;have b3:=M.wf.2.2.2.1 y a2;have b4:(S.ents K y (dC l y.ents)).nums=S.nums:=lO hy _;have b6:Rise (S.ents K y (dC l y.ents)).nums:=by rw[b4];exact M.tree.rise
    have a4:bH (S.ents K y (dC l y.ents)) y2.num=K2:=by rw[<-bM b6,b4,bM M.tree.rise,hat2]
    have a7:(S.ents K y (dC l y.ents)).wf:=aGH M.wf hy (zD (List.length_filter_le _ _) b3.2.1) λz hz=>b3.2.2 z (List.mem_filter.1 hz).1;have b7:∀e∈y2.ents,e.name.size<=1000000000:=λe he=>by have:=M.tree.name y2 a3 e he;omega
    have a5:oY S e.num=x.dir:=by unfold oY;rw[bM M.tree.rise,hat,zJ,hx]
    have b8:dU S K2=true:=by unfold dU;rw[hy2];exact hy2d
    have a1:=M.thru hpx2 hx b8;rw[hxn]at a1;have a8:bS S 258 [K0]=[]:=by
     obtain⟨ns,_,_,w1,w2⟩:=aBC hpx;have h1:=M.walk_lev ns 0 w1;rw[w2]at h1;have h2:K0∈bS S (ns.length+1) [0]:=by rw[fZ];refine List.mem_flatMap.2 ⟨K,h1,?_⟩;rw[gB hy hyd];exact List.mem_map.2 ⟨e,hm,by rw[hat];rfl⟩
     have h3:bS S 258 (bS S (ns.length+1) [0])=[]:=by rw[<-sR,Nat.add_comm,sR,M.tree.ends,qE]
     exact aBB h3 h2
    obtain⟨W,hW,hWt⟩:∃W:Bool,(x.dir=true->∃n,gK S y2.num n e.num=some W)/\(x.dir=true->W=gR S (aA c.path2).2 e.num):=by
     cases hd:x.dir with
     |false=>exact⟨false,λh=>by(cases h),λh=>by(cases h)⟩
     | true=>obtain⟨B2,h1,h2⟩:=M.within_ hy2 hy2d 258 K0 x hx hd a8;rw[hxn]at h1;refine⟨B2,λ_=>⟨258,h1⟩,λ_=>?_⟩;apply Bool.eq_iff_iff.2;rw[h2,a1]
    obtain⟨z',hz'⟩:∃z',(S.ents K y (dC l y.ents)).ins[K2]? =some z':=by obtain⟨hl7,_⟩:=gI.1 hy2;exact⟨_,gE (by show K2<(S.ins.set K _).length;rw[yB];exact hl7)⟩
    refine⟨aON S x W y2.num t (if y2.num=y.num then l else{ data:=#[]}) e.num y2 K y l K2 z',?_,λw2 hb2 ho2 hB2=>aFP B b S iv ov mv c.kind c.core c.fd c.off c.num c.path c.path2 c.data l y.num e.num w2 hb2 ho2 hB2 hBb M.fineR y2.num t 0 hpar2 rfl K0 x hat hx W hW K y hat1 hy K2 y2 hat2 hy2 (by omega) b7 z' hz' a4 a7 _ rfl⟩;simp only;unfold aON rV;rw[a5,hy2];have a9:(x.dir&&gR S (aA c.path2).2 e.num)=(x.dir&&W):=by
     cases hd:x.dir with
     |false=>rfl
     |true=>rw[hWt hd]
    rw[a9];by_cases ha:(x.dir&&W)=true
    .rw[zB ha,zB ha];rfl
    rw [zA ha,zA ha];simp only;cases hh2:bL y2.ents t with
    | true=>obtain⟨e2,_,_,hen2,h02,_⟩:=M.ent_hit hat2 hy2 hh2;rw[zB rfl,zB (by rw[hen2];exact h02)];rfl
    | false=>
      have a0:=M.ent_miss hat2 hy2 hh2;have b0:¬bI S y2.num t≠0:=by rw[a0];exact λh=>h rfl
      rw[zA (show ¬(false=true) by decide),zA b0];have b1:(if y.num=y2.num then l else({ data:=#[]}:ByteArray))=if y2.num=y.num then l else{ data:=#[]}:=by
       by_cases h:y.num=y2.num
       .rw[zB h,zB h.symm]
       rw[zA h,zA (λe=>h e.symm)]
      rw[b1,lE];cases hF:fQ y2.ents t (if y2.num=y.num then l else{ data:=#[]})with
      |true=>rfl
      | false=>
        simp only[zP,if_false];unfold rC;rw[<-b2,hz'];have b5:Asc z'.ents/\bL z'.ents t=false:=by
         by_cases hKK:K2=K
         .subst hKK;rw[hy]at hy2;cases hy2;have h7:(S.ins.set K2 { y with ents:=dC l y.ents})[K2]? =some z':=hz';obtain⟨hl7,_⟩:=gI.1 hy;rw[zY hl7]at h7;cases h7;simp only;rw[b2];exact⟨aPC (M.asc y a2) _,aPD (M.asc y a2) hh2 _⟩
         have h7:(S.ins.set K { y with ents:=dC l y.ents})[K2]? =some z':=hz';rw[zX (λe2=>hKK e2.symm),hy2]at h7;cases h7;exact⟨M.asc y2 a3,hh2⟩
        rw[uA b5.1 b5.2];rfl
   obtain⟨X,hX,hin⟩:=key;rw[hX];rw[hk]at hin |-;exact(aNH B b S iv ov mv c.core c.fd c.off c.num c.path c.path2 c.data ww hb ho hB hBb M.fineR y.num l 0 hpar rfl e.num hen h0 K0 x hat hx X (λw2 hw=>hin w2 (aB hb hw) (ho.on hw) (zD hB hw.size))).mono λe w' h=>h.up
end
section
def Good (X:Except Int (PSt × PRes)):Prop:=(∀k,X=.error k->k≠0)/\∀S' r,X=.ok (S',r)->r.code=0/\r.names=[]
theorem Good.err {k:Int} (h:k≠0):Good (.error k):=⟨λk' e=>(by cases e;exact h),λS' r e=>(by cases e)⟩
theorem Good.ok_ {S':PSt} {r:PRes} (h:r.code=0) (h2:r.names=[]):Good (.ok (S',r)):=⟨λk' e=>(by cases e),λS' r e=>(by cases e;exact⟨h,h2⟩)⟩
theorem Good.up {X:Except Int PSt} (h:∀k,X=.error k->k≠0):Good (upX X):=by
 rcases X with k|S'
 .exact .err (h k rfl)
 exact .ok_ rfl rfl
theorem Good.up2 {X:Except Int (PSt × PRes)} {q:Int} (h:Good X):(∀k,X=.error k->k≠0)/\∀S' r,X=.ok (S',r)->r.code=0/\(q≠12->r.names=[]):=⟨h.1,λS' r e=>⟨(h.2 S' r e).1,λ_=>(h.2 S' r e).2⟩⟩
variable {S:PSt}
theorem aCQ (M:MayX S) (c:PCall) (hc0:0<=c.core) (hc1:c.core<S.made.length):Good (gU S c PRes.zero):=by
 rw[rJ];have hp:=M.par c.path;rcases hpx:cV S c.path with q|⟨K,l⟩
 .rw[hpx]at hp;exact .err hp.1
 rw[hpx]at hp;obtain⟨y,hpar,hy,hat1,hyd,hl⟩:=hp;simp only[hy];by_cases hh:bL y.ents l=true
 .rw[zB hh];exact .err (by decide)
 rw[zA hh,gE (show c.core.toNat<S.made.length by omega)];simp only;split
 .exact .err (by decide)
 exact .ok_ rfl rfl
theorem aJZ (M:MayX S) (c:PCall):Good (pK S c PRes.zero):=by
 rw[vK];have hf:=M.find_ c.path;rcases hat:sD S c.path with k|K
 .rw[hat]at hf;exact .err hf.1
 rw[hat]at hf;obtain⟨x,hn,hx,hK⟩:=hf;simp only[hx];split
 .exact .err (by decide)
 split
 .exact .err (by decide)
 exact .ok_ rfl rfl
theorem hJ (c:PCall) (R:Except Int (PSt × PRes)) (hR:(c.kind=3/\R=kK S c PRes.zero)\/(c.kind=4/\R=pH S c PRes.zero)\/(c.kind=5/\R=jX S c PRes.zero)\/(c.kind=6/\R=jY S c PRes.zero)\/(c.kind=7/\R=pI S c PRes.zero)\/(c.kind=15/\R=kJ S c PRes.zero)):Good R:=by
 rcases hR with⟨-,rfl⟩|⟨-,rfl⟩|⟨-,rfl⟩|⟨-,rfl⟩|⟨-,rfl⟩|⟨-,rfl⟩
 .unfold kK
  split
  .exact .err (by decide)
  exact .ok_ rfl rfl
 .unfold pH
  split
  .exact .err (by decide)
  split
  .exact .ok_ rfl rfl
  exact .err (by decide)
 .unfold jX
  split
  .exact .err (by decide)
  split
  .split
   .exact .err (by decide)
   exact .ok_ rfl rfl
  exact .err (by decide)
 .unfold jY
  split
  .exact .err (by decide)
  split
  .exact .ok_ rfl rfl
  exact .err (by decide)
 .unfold pI
  split
  .exact .err (by decide)
  exact .ok_ rfl rfl
 unfold kJ;split
 .exact .err (by decide)
 exact .ok_ rfl rfl
theorem aKA (M:MayX S) (c:PCall):Good (mV S c PRes.zero):=by
 unfold mV;have hf:=M.find_ c.path;rcases hat:sD S c.path with k|K
 .rw[hat]at hf;exact .err hf.1
 rw [hat]at hf;obtain⟨x,hn,hx,hK⟩:=hf;simp only[hx];split
 .exact .err (by decide)
 have hp:=M.par c.path2;rcases hpx:cV S c.path2 with q|⟨K1,l⟩
 .rw[hpx]at hp;exact .err hp.1
 rw[hpx]at hp;obtain⟨y,hpar,hy,hat1,hyd,hl⟩:=hp;unfold tL;simp only[hy];split
 .exact .err (by decide)
 split
 .exact .err (by decide)
 exact .ok_ rfl rfl
theorem aNV (M:MayX S) (c:PCall):Good (gW S c PRes.zero):=by
 unfold gW;have hp:=M.par c.path;rcases hpx:cV S c.path with q|⟨K,l⟩
 .rw[hpx]at hp;exact .err hp.1
 rw [hpx]at hp;obtain⟨y,hpar,hy,hat1,hyd,hl⟩:=hp;simp only[hy];cases hh:bL y.ents l with
 |false=>exact .err (by decide)
 | true=>
   obtain⟨e,he,hen0,hen,h0,hm⟩:=M.ent_hit hat1 hy hh;obtain⟨K0,x,hat,hx,hxn,_⟩:=M.kid (mG hy) hm;simp only[Bool.true_eq_false,if_false,he];unfold aFN;have a0:=lO hy (aM y.ents (cL y.ents l));rw[a0,bM M.tree.rise,hat,zJ];obtain⟨z',hz'⟩:∃z',(S.ents K y (aM y.ents (cL y.ents l))).ins[K0]? =some z':=by obtain⟨hl7,_⟩:=gI.1 hx;exact⟨_,gE (by show K0<(S.ins.set K _).length;rw[yB];exact hl7)⟩
   rw[hz'];simp only;split
   .split
    .exact .err (by decide)
    exact .ok_ rfl rfl
   split
   .exact .err (by decide)
   split
   .exact .err (by decide)
   exact .ok_ rfl rfl
theorem aNW (M:MayX S) (c:PCall):Good (gH S c PRes.zero):=by
 rw[rK];have hp:=M.par c.path;rcases hpx:cV S c.path with q|⟨K,l⟩
 .rw[hpx]at hp;exact .err hp.1
 rw [hpx]at hp;obtain⟨y,hpar,hy,hat1,hyd,hl⟩:=hp;simp only[hy];cases hh:bL y.ents l with
 |false=>exact .err (by decide)
 | true=>
   obtain⟨e,he,hen0,hen,h0,hm⟩:=M.ent_hit hat1 hy hh;simp only[Bool.true_eq_false,if_false,he];have a0:=M.par c.path2;rcases hpx2:cV S c.path2 with q|⟨K2,t⟩
   .rw[hpx2]at a0;exact .err a0.1
   rw [hpx2]at a0;obtain⟨y2,hpar2,hy2,hat2,hy2d,hl2⟩:=a0;show Good (if (oY S e.num&&gR S (aA c.path2).2 e.num)=true then .error 9 else rV S PRes.zero K y l e.num K2 t);by_cases hA:(oY S e.num&&gR S (aA c.path2).2 e.num)=true
   .rw[zB hA];exact .err (by decide)
   rw [zA hA];unfold rV;rw[hy2];simp only;split
   .exact .err (by decide)
   generalize fQ y2.ents t _=F;cases F with
   |true=>exact .err (by decide)
   | false=>
     show Good (rC S PRes.zero K y l e.num K2 t);unfold rC;obtain⟨z',hz'⟩:∃z',(S.ents K y (aM y.ents (cL y.ents l))).ins[K2]? =some z':=by obtain⟨hl7,_⟩:=gI.1 hy2;exact⟨_,gE (by show K2<(S.ins.set K _).length;rw[yB];exact hl7)⟩
     rw[hz'];exact .ok_ rfl rfl
theorem aKB (M:MayX S) (c:PCall) (hk:c.kind=12\/c.kind=13\/c.kind=14):(∀k,kR S c=.error k->k≠0)/\∀S' r,kR S c=.ok (S',r)->r.code=0/\(c.kind≠12->r.names=[]):=by
 rw[vI hk];have hf:=M.find_ c.path;rcases hat:sD S c.path with k|K
 .rw[hat]at hf;exact Good.up2 (.err hf.1)
 rw [hat]at hf;obtain⟨x,hn,hx,hK⟩:=hf;simp only[hx];split
 .rename_i h12
  split
  .exact⟨λk e=>(by cases e),λS' r e=>(by cases e;exact⟨rfl,λh=>absurd h12 h⟩)⟩
  exact Good.up2 (.err (by decide))
 split
 .exact Good.up2 (.ok_ rfl rfl)
 split
 .exact Good.up2 (.err (by decide))
 exact Good.up2 (.ok_ rfl rfl)
theorem aNX (M:MayX S) (c:PCall) (hc0:0<=c.core) (hc1:c.core<S.made.length) (hk0:0<=c.kind) (hk1:c.kind<=16):(∀k,eH S c=.error k->k≠0)/\∀S' r,eH S c=.ok (S',r)->r.code=0/\(c.kind≠12->r.names=[]):=by
 unfold eH;by_cases k1:c.kind=0\/c.kind=1
 .rw[zB k1];exact Good.up2 (aCQ M c hc0 hc1)
 rw[zA k1];by_cases k2:c.kind=2
 .rw[zB k2];exact Good.up2 (aJZ M c)
 rw[zA k2];by_cases k3:c.kind=3
 .rw[zB k3];exact Good.up2 (hJ c _ (.inl ⟨k3,rfl⟩))
 rw[zA k3];by_cases k4:c.kind=5
 .rw[zB k4];exact Good.up2 (hJ c _ (.inr (.inr (.inl ⟨k4,rfl⟩))))
 rw[zA k4];by_cases k5:c.kind=6
 .rw[zB k5];exact Good.up2 (hJ c _ (.inr (.inr (.inr (.inl ⟨k5,rfl⟩)))))
 rw[zA k5];by_cases k6:c.kind=8
 .rw[zB k6];exact Good.up2 (aKA M c)
 rw[zA k6];by_cases k7:c.kind=9\/c.kind=10
 .rw[zB k7];exact Good.up2 (aNV M c)
 rw[zA k7];by_cases k8:c.kind=11
 .rw[zB k8];exact Good.up2 (aNW M c)
 rw[zA k8];by_cases k9:c.kind=15
 .rw[zB k9];exact Good.up2 (hJ c _ (.inr (.inr (.inr (.inr (.inr ⟨k9,rfl⟩))))))
 rw[zA k9];by_cases k10:c.kind=16
 .rw[zB k10];exact Good.up2 (.ok_ rfl rfl)
 rw[zA k10];by_cases j4:c.kind=4
 .unfold kR;rw[zB j4];exact Good.up2 (hJ c _ (.inr (.inl ⟨j4,rfl⟩)))
 by_cases j7:c.kind=7
 .unfold kR;rw[zA j4,zB j7];exact Good.up2 (hJ c _ (.inr (.inr (.inr (.inr (.inl ⟨j7,rfl⟩))))))
 exact aKB M c (by omega)
theorem aUD (M:MayX S) (c:PCall) (hc0:0<=c.core) (hc1:c.core<S.made.length) (hk0:0<=c.kind) (hk1:c.kind<=16) (iv ov mv:Value) (w:World) (h:StRead w iv ov mv S) (hm:vB w 30 #[.agg #[iv,ov,mv]] (.bool true)):
 Calls Tryz.prog 64 #[.agg #[iv,ov,mv],.agg #[.int .i64 c.kind,.int .i64 c.core,.int .i64 c.fd,.int .i64 c.off,.int .i64 c.num,.string c.path,.string c.path2,.string c.data],.int .i64 (-1)] w (DoOut w (aHM S (eH S c))):=by
 obtain⟨g1,g2⟩:=aNX M c hc0 hc1 hk0 hk1;refine aUW S iv ov mv c.kind c.core c.fd c.off c.num c.path c.path2 c.data w h M.wf hm hc0 hc1 hk0 hk1 (eH S c) g1 (λS' r e=>(g2 S' r e).1) (λS' r e=>(g2 S' r e).2) ?_ ?_ ?_ ?_ ?_ ?_
 .intro k B b iv' ov' mv' ww hb ho hB hBb;unfold eH;rw[zB k];exact aTI M c k hc0 hc1 B b iv' ov' mv' ww hb ho hB hBb
 .intro k B b iv' ov' mv' ww hb ho hB hBb;unfold eH;rw[zA (by omega),zB k];exact aTM M c B b iv' ov' mv' ww hb ho hB hBb
 .intro k B b iv' ov' mv' ww hb ho hB hBb;refine aTL M c (eH S c) ?_ B b iv' ov' mv' ww hb ho hB hBb;unfold eH;rw[zA (by omega),zA (by omega)];by_cases k3:c.kind=3
  .rw[zB k3];exact .inl ⟨k3,rfl⟩
  rw[zA k3];by_cases k5:c.kind=5
  .rw[zB k5];exact .inr (.inr (.inl ⟨k5,rfl⟩))
  rw[zA k5];by_cases k6:c.kind=6
  .rw[zB k6];exact .inr (.inr (.inr (.inl ⟨k6,rfl⟩)))
  rw[zA k6,zA (by omega),zA (by omega),zA (by omega)];by_cases k15:c.kind=15
  .rw[zB k15];exact .inr (.inr (.inr (.inr (.inr ⟨k15,rfl⟩))))
  rw[zA k15,zA (by omega)];unfold kR;by_cases k4:c.kind=4
  .rw[zB k4];exact .inr (.inl ⟨k4,rfl⟩)
  rw[zA k4,zB (by omega)];exact .inr (.inr (.inr (.inr (.inl ⟨by omega,rfl⟩))))
 .intro k B b iv' ov' mv' ww hb ho hB hBb;unfold eH;rw[zA (by omega),zA (by omega),zA (by omega),zA (by omega),zA (by omega)];by_cases k8:c.kind=8
  .rw[zB k8];exact aRH M c k8 B b iv' ov' mv' ww hb ho hB hBb
  rw[zA k8];by_cases k9:c.kind=9\/c.kind=10
  .rw[zB k9];exact aRI M c k9 B b iv' ov' mv' ww hb ho hB hBb
  rw[zA k9,zB (by omega)];exact aRJ M c (by omega) B b iv' ov' mv' ww hb ho hB hBb
 .intro k iv' ov' mv' ww hh;unfold eH;rw[zA (by omega),zA (by omega),zA (by omega),zA (by omega),zA (by omega),zA (by omega),zA (by omega),zA (by omega),zA (by omega),zA (by omega)];exact aTH M c (by omega) iv' ov' mv' ww hh
 intro k;unfold eH;rw[zA (by omega),zA (by omega),zA (by omega),zA (by omega),zA (by omega),zA (by omega),zA (by omega),zA (by omega),zA (by omega),zB k];rfl
theorem aNY {c:PCall} (h:fI S c=true):aHM S (eH S c)=mK S c:=by
 unfold mK doM aHM;rw[zB h];rcases eH S c with k|⟨S',r⟩<;>rfl
theorem aUE (hwf:S.wf) (c:PCall) (iv ov mv:Value) (w:World) (h:StRead w iv ov mv S) (hm:vB w 30 #[.agg #[iv,ov,mv]] (.bool (dB S))):
 Calls Tryz.prog 31 #[.agg #[iv,ov,mv],.agg #[.int .i64 c.kind,.int .i64 c.core,.int .i64 c.fd,.int .i64 c.off,.int .i64 c.num,.string c.path,.string c.path2,.string c.data]] w λe w'=>Below w.heap.size w w'/\xZ w.heap.size (mK S c).1 (mK S c).2 e w':=by
 refine aUJ (mK S c) S iv ov mv c.kind c.core c.fd c.off c.num c.path c.path2 c.data w h λww hb=>?_;have hr:=h.below hb (zC _);have a0:∀w3,Below ww.heap.size ww w3->vR w3 30 #[.agg #[iv,ov,mv]] (.bool (dB S)):=λw3 hb3=>hm w3 (hb.trans (hb3.mono hb.size));cases hc:fI S c with
 | true=>rw[<-aNY hc];unfold fI at hc;simp only[zE,zI]at hc;obtain⟨⟨⟨⟨k0,k1⟩,c0⟩,c1⟩,hM⟩:=hc;rw[hM]at a0;exact aUD (aHL hwf hM) c c0 c1 k0 k1 iv ov mv ww hr a0
 | false=>
   have e:mK S c=(S,⟨9,0,0,false,{ data:=#[]},[]⟩):=by unfold mK doM;rw[hc];rfl
   rw[e];refine aUK S iv ov mv c.kind c.core c.fd c.off c.num c.path c.path2 c.data ww hr hwf (dB S) a0 ?_;cases hM:dB S with
   |false=>exact .inl rfl
   | true=>unfold fI at hc;rw[hM]at hc;simp only[Bool.and_true,Bool.and_eq_false_iff,yV]at hc;simp only[Bool.true_eq_false,true_and,false_or];omega
end
section
variable {S:PSt}
theorem wM (hr:Rise S.nums):∀(es:List PEnt) (prev:Option ByteArray) (sl:List Int),gN S.nums prev sl es=true->fY S prev sl es=true
 |[],_,_,_=>rfl
 | e ::r,prev,sl,h=>by
   unfold gN at h;unfold fY;split at h
   .cases h
   rename_i h1;split at h
   .cases h
   rename_i h2;split at h
   .cases h
   rename_i h3;split at h
   .cases h
   rename_i h4;have c:¬(bT e.name !=0)=true:=by
    have:iU e.name=true:=by simpa using h1
    unfold iU at this;rw[aCK];rw[beq_iff_eq]at this;rw[this];decide
   have p:jJ prev e.name=jE prev e.name:=by
    unfold jJ jE;cases prev with
    |none=>rfl
    |some q=>simp only[pP]
   rw[p]at h2;rw[bM hr]at h4;rw[zA c,zA h2,zA h3,zA h4,nY];rcases hs:sl[(bQ e.name).toNat]? with _|x
   .rw[hs]at h;cases h
   rw[hs]at h;simp only at h |-;split at h
   .cases h
   rename_i h5;rw[zA h5];exact wM hr r _ _ h
theorem wN (hr:Rise S.nums):∀(ds:List PDesc) (o:Option PDesc),fR S o ds=true->nE S o ds=true
 |[],_,_=>rfl
 | d ::r,o,h=>by
   unfold fR at h;unfold nE;split at h
   .cases h
   rename_i a1;split at h
   .cases h
   rename_i a2;split at h
   .cases h
   rename_i a3;split at h
   .cases h
   rename_i a4;split at h
   .cases h
   rename_i h2;split at h
   .cases h
   rename_i a5;have p:kA o d=nD o d:=by
    unfold kA nD;cases o with
    |none=>rfl
    |some q=>simp only;congr 2
   rw[p]at h2;rw[bM hr]at h a5;split at h
   .rename_i x hx
    split at h
    .cases h
    rename_i a6;have hb:¬aOQ S d=true:=by unfold aOQ xI;rw[hx];simp only[yI,zI,not_or];exact⟨a1,a2,a3,a4,a5,a6⟩
    rw[zA hb,zA h2];exact wN hr r _ h
   cases h
theorem tN (ns:List Int) (C:Nat->Prop):∀(es:List PEnt) (td:List Nat) (fd:List Bool),(∀e∈es,C (aJ ns e.num).toNat)->(∀j∈td,C j)->(∀j,fd.getD j false=true->C j)->(∀j∈(cK ns (td,fd) es).1,C j)/\∀j,(cK ns (td,fd) es).2.getD j false=true->C j
 |[],td,fd,_,h1,h2=>⟨h1,h2⟩
 | e ::r,td,fd,he,h1,h2=>by
   have a0:cK ns (td,fd) (e::r)=cK ns (lG ns (td,fd) e) r:=rfl;rw[a0];have hc:=he e zQ;have hr:=λe' h'=>he e' (zL _ h');unfold lG;split
   .exact tN ns C r td fd hr h1 h2
   refine tN ns C r _ _ hr (λj hj=>?_) (λj hj=>?_)
   .rcases List.mem_append.1 hj with h|h
    .exact h1 j h
    rw[List.mem_singleton.1 h];exact hc
   by_cases e2:(aJ ns e.num).toNat=j
   .rw[<-e2];exact hc
   rw[zG,zX e2,<-zG]at hj;exact h2 j hj
theorem aNE {C:Nat->Prop} (hC:qW S C):∀(b:Nat) (td:List Nat) (fd:List Bool),(∀j∈td,C j)->(∀j,fd.getD j false=true->C j)->∀j,(bfs S.nums S.ins b td fd).getD j false=true->C j
 |0,_,_,_,h,j,hj=>h j hj
 |_+1,[],_,_,h,j,hj=>h j hj
 | b+1,k::td,fd,h1,h2,j,hj=>by
   have hk:=h1 k zQ;have a0:∀e∈(match S.ins[k]? with|some x=>x.ents|none=>[]),C (aJ S.nums e.num).toNat:=by
    rcases hx:S.ins[k]? with _|x
    .intro e he;cases he
    exact λe he=>hC k x hk hx e he
   obtain⟨a,b'⟩:=tN S.nums C _ td fd a0 (λj hj=>h1 j (zL _ hj)) h2;exact aNE hC b _ _ a b' j hj
theorem gF (hr:Rise S.nums) (hfile:∀x∈S.ins,x.dir=false->x.ents=[]) (hfound:∀x∈S.ins,∀e∈x.ents,0<=bH S e.num):∀(g:Nat) (st:List Int) (fd:List Bool),fd.length=S.ins.length->st.length+nF S.ins fd<=g->
 (∀k x,fd.getD k false=true->S.ins[k]? =some x->∀e∈x.ents,fd.getD (bH S e.num).toNat false=true\/e.num∈st)->
 (∀j,fd.getD j false=true->(fD S g st fd).getD j false=true)/\(∀n∈st,0<=bH S n->(fD S g st fd).getD (bH S n).toNat false=true)/\qW S λk=>(fD S g st fd).getD k false=true
 | 0,st,fd,hl,hg,hi=>by
   have:st=[]:=zT (by omega);subst this;refine⟨λ_ h=>h,λn hn=>(by cases hn),λk x hk hx e he=>?_⟩;rcases hi k x hk hx e he with h|h
   .rw[bM hr];exact h
   cases h
 | g+1,[],fd,hl,hg,hi=>by
   refine⟨λ_ h=>h,λn hn=>(by cases hn),λk x hk hx e he=>?_⟩;rcases hi k x hk hx e he with h|h
   .rw[bM hr];exact h
   cases h
 | g + 1, n::st,fd,hl,hg,hi=>by
   simp only[zK]at hg;unfold fD;split
   .rename_i ha
    obtain⟨b1,b2,b3⟩:=gF hr hfile hfound g st fd hl (by omega) (λk x hk hx e he=>by
     rcases hi k x hk hx e he with h|h
     .exact .inl h
     rcases List.mem_cons.1 h with h|h
     .have:=hfound x (mG hx) e he;rw[h]at this;omega
     exact .inr h)
    refine⟨b1,λm hm h0=>?_,b3⟩;rcases List.mem_cons.1 hm with rfl|hm
    .omega
    exact b2 m hm h0
   rename_i ha;obtain⟨k0,x0,hx0,hk0⟩:∃k x,S.ins[k]? =some x/\bH S n=(k:Nat):=by
    rcases fV S n with⟨k,x,hk,e⟩|⟨_,e⟩
    .exact⟨k,x,hk,by rw[<-e];exact eY hr hk⟩
    omega
   obtain⟨hk0l,_⟩:=gI.1 hx0;rw[hk0,zJ];have a1:fd.getD k0 true=fd.getD k0 false:=by rw[zG,zG,gE (by omega)];rfl
   rw[a1];split
   .rename_i hb
    obtain⟨b1,b2,b3⟩:=gF hr hfile hfound g st fd hl (by omega) (λk x hk hx e he=>by
     rcases hi k x hk hx e he with h|h
     .exact .inl h
     rcases List.mem_cons.1 h with h|h
     .left;rw[h,hk0,zJ];exact hb
     exact .inr h)
    refine⟨b1,λm hm h0=>?_,b3⟩;rcases List.mem_cons.1 hm with rfl|hm
    .rw[hk0,zJ];exact b1 k0 hb
    exact b2 m hm h0
   rename_i hb;rw[hx0];simp only;have a2:fd[k0]? =some false:=by rw[gE (by omega)];rw[zG,gE (by omega)]at hb;simpa using hb
   have a3:=uJ S.ins fd k0 x0 hx0 a2;have a0:(fd.set k0 true).getD k0 false=true:=by rw[zG,zY (by omega)];rfl
   have a4:(jF x0).length<=x0.ents.length:=by
    unfold jF;split<;>simp
   obtain⟨b1,b2,b3⟩:=gF hr hfile hfound g ((jF x0).reverse++st) (fd.set k0 true) (by simpa using hl) (by simp only[lP,List.length_reverse];omega) (λk x hk hx e he=>by
    by_cases e0:k0=k
    .subst e0;rw[hx0]at hx;cases hx;right;refine List.mem_append_left _ (List.mem_reverse.2 ?_);unfold jF;cases hd:x0.dir with
     |true=>exact List.mem_map.2 ⟨e,he,rfl⟩
     |false=>rw[hfile x0 (mG hx0) hd]at he;cases he
    rw[zG,zX e0,<-zG]at hk;rcases hi k x hk hx e he with h|h
    .exact .inl (getD_set_true h)
    rcases List.mem_cons.1 h with h|h
    .left;rw[h,hk0,zJ];exact a0
    exact .inr (List.mem_append_right _ h))
   refine⟨λj hj=>b1 j (getD_set_true hj),λm hm h0=>?_,b3⟩;rcases List.mem_cons.1 hm with rfl|hm
   .rw[hk0,zJ];exact b1 k0 a0
   exact b2 m (List.mem_append_right _ hm) h0
theorem aCF {many:List Int} {found:List Bool} {op:List PDesc}:∀(xs:List PIn) (i j:Nat) (x:PIn),dP many found op i xs=true->xs[j]? =some x->i+j≠0->(x.dir=true->many.getD (i+j) 0=1/\found.getD (i+j) false=true)/\(x.dir=false->found.getD (i+j) false=true\/mC op x.num=true)
 |[],_,_,_,_,hx,_=>by simp at hx
 | y ::r,i,0,x,h,hx,h0=>by
   simp at hx;subst hx;unfold dP at h;rw[zA (by omega)]at h;split at h
   .cases h
   rename_i h1;split at h
   .cases h
   rename_i h2;refine⟨λhd=>?_,λhd=>?_⟩
   .rw[hd]at h1;simpa using h1
   rw[hd]at h2;cases hf:found.getD i false with
   |true=>exact .inl (by simp)
   | false=>right;rw[hf]at h2;simp at h2;exact h2.2
 | y :: r,i,j+1,x,h,hx,h0=>by
   have hr:dP many found op (i+1) r=true:=by
    unfold dP at h;split at h
    .exact h
    split at h
    .cases h
    split at h
    .cases h
    exact h
   have:=aCF r (i+1) j x hr (by simpa using hx) (by omega);rw[show i+(j+1)=i+1+j by omega];exact this
theorem aJL (hwf:S.wf) (hm:dB S=true):kZ S=true:=by
 have M:=aHL hwf hm;have hr:=M.tree.rise;obtain⟨x0,h0,h01,h0d⟩:=M.head;have a3:∀x∈S.ins,∀e∈x.ents,0<=aJ S.nums e.num/\aJ S.nums e.num<S.ins.length:=λx hx e he=>by rw[bM hr];exact M.tree.found x hx e he
 have b0:dY S.ins<9000000000000000000:=by
  have key:∀(xs:List PIn),(∀x∈xs,x.ents.length<=1000000000)->dY xs<=xs.length*1000000000:=by
   intro xs
   induction xs with
   |nil=>intro _;simp[dY]
   | cons x r ih=>intro hx;have h1:=ih λy hy=>hx y (zL _ hy);have h2:=hx x zQ;simp only[dY,yZ,List.sum_cons,zK]at h1 |-;omega
  have:=key S.ins λx hx=>(hwf.2.2.2.1 x hx).2.1;have:=M.tree.small;omega
 have a4:∀{q:Nat} {x:PIn},S.ins[q]? =some x->(fB S).getD q 0=cQ S x.num:=fun{q x} hq=>by
  unfold fB cQ;have h0:(List.replicate S.ins.length (0:Int)).getD q 0=0:=by
   rw[zG,yQ];split<;>rfl
  have:=pR hr (dJ hq) S.ins (List.replicate S.ins.length 0) (by simp[PSt.nums]) (λx hx e he=>(a3 x hx e he).1) M.file (by rw[h0];omega) (by rw[h0];omega);rw[this,h0]
 have a8:∀k,(List.replicate S.ins.length false).getD k false=true->False:=λk hk=>by
  rw[zG,yQ]at hk;split at hk<;>cases hk
 obtain⟨r1,r2,r3⟩:=gF hr M.file (λx hx e he=>(M.tree.found x hx e he).1) (1+nF S.ins (List.replicate S.ins.length false)) [1] (List.replicate S.ins.length false) (by simp) (by simp) (λk x hk=>absurd hk (a8 k));have a0:(eM S).getD 0 false=true:=by have:=r2 1 (by simp) (by rw[M.root];omega);rw[M.root]at this;exact this
 have a9:∀k,(dZ S).getD k false=true->(eM S).getD k false=true:=aNE (C:=λk=>(eM S).getD k false=true) r3 _ _ _ (λj hj=>by rw[List.mem_singleton.1 hj];exact a0) (λj hj=>by
  by_cases e:0=j
  .rw[<-e];exact a0
  rw[zG,zX e,<-zG]at hj;exact(a8 j hj).elim)
 unfold dB at hm;split at hm;rotate_left
 .cases hm
 rename_i h1;simp only[zE]at h1;obtain⟨⟨hmade,hins⟩,hop⟩:=h1;unfold cZ at hmade;simp only[zE,yL,yU,yV,List.any_eq_false]at hmade;obtain⟨⟨hm1,hm2⟩,hm3⟩:=hmade;have a5:S.ins.all (inB S.nums)=true:=by
  unfold dH at hins;split at hins
  .cases hins
  split at hins
  .split at hins
   .rw[zE]at hins;exact hins.2
   cases hins
  cases hins
 rw[yX]at a5;unfold kZ;have b3:=M.tree.pos;have b5:=M.tree.small;rw[zE,zE,zE,zE];refine⟨by rw[zI];omega,?_,wN hr S.op none hop,?_,?_⟩
 .rw[h0];simp only[h01,h0d];rfl
 .rw[yX];intro m hmm;rw[zI];exact M.made m hmm
 unfold aEN;rw[yX];intro q hq;have b4:q<S.ins.length:=List.mem_range.1 hq;have hx:S.ins[q]? =some S.ins[q]:=gE b4;rw[hx];simp only;generalize S.ins[q]=x at hx;have a6:=mG hx;have a7:=a5 x a6;unfold inR;rw[zE,zE,zE,zE];refine⟨?_,by rw[zI];exact M.tree.data x a6,?_,?_,?_⟩
 .rcases Nat.eq_zero_or_pos q with e|e
  .rw[e];rfl
  rw[yI,zE,zI];right;constructor
  .have hy:S.ins[q-1]? =some S.ins[q-1]:=gE (by omega);unfold jQ;rw[hy];exact hr (q-1) q _ _ (dJ hy) (dJ hx) (by omega)
  exact M.nums q x hx e
 .cases hd:x.dir with
  |true=>simp only[if_true];rw[beq_iff_eq];exact M.bare x a6 hd
  |false=>simp only[zP,if_false];rw[M.file x a6 hd];rfl
 .cases hd:x.dir with
  | true=>unfold inB at a7;rw[zB hd,zE]at a7;exact wM hr _ _ _ a7.2
  |false=>rw[M.file x a6 hd];rfl
 rcases Nat.eq_zero_or_pos q with e|e
 .cases hd:x.dir with
  |true=>rw[e];rfl
  | false=>exfalso;rw[e,h0]at hx;cases hx;rw[hd]at h0d;cases h0d
 obtain⟨a1,a2⟩:=aCF S.ins 0 q x hm hx (by omega);rw[zM]at a1 a2;cases hd:x.dir with
 | true=>obtain⟨b1,b2⟩:=a1 hd;rw[a4 hx]at b1;simp only[if_true];rw[b1,a9 q b2];simp
 | false=>
   simp only[zP,if_false];rw[yI];rcases a2 hd with h|h
   .exact .inl (a9 q h)
   exact .inr h
theorem aSE (hwf:S.wf):kZ S=dB S:=by rw[Bool.eq_iff_iff];exact⟨aJE hwf,aJL hwf⟩
end
end Go.Proofs.YtmkapobnfigedaaGreatDoor
