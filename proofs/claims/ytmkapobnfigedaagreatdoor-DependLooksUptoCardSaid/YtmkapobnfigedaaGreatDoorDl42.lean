/- Part of the proof of a law of chapter 15. Conditions: none. -/
import Derived.Test.YtmkapobnfigedaaGreatDoorDl41
set_option linter.unusedVariables false
set_option linter.unusedSimpArgs false
set_option maxRecDepth 100000
set_option maxHeartbeats 8000000
namespace Go.Proofs.YtmkapobnfigedaaGreatDoor
open Go.RowKit
section
variable {S S':PSt} {c:PCall} {l:List PKey}
theorem aEJ (h:dA S S' c=some l):l≠[]:=by unfold dA at h;simp only at h;obtain⟨m,_,rfl⟩:=Option.map_eq_some_iff.1 h;simp
theorem aBV (ok:GatherOk S c) (h:dA S S' c=some l):l.length<=1000:=by
 have lw:∀S p,jZ p->(iH S p).length<=10/\(eK S p).length<=11:=λS p hp=>by have:=cM hp.1;unfold eK iH aBM;rw[lP,lM,List.length_range];exact⟨by omega,by simp;omega⟩
 have li:∀S p,(eC S p).length=1:=λ_ _=>rfl;have lo:∀S c,(gC S c).length=1:=λ_ _=>rfl;unfold dA at h;simp only at h;obtain⟨m,hm,rfl⟩:=Option.map_eq_some_iff.1 h
 have:m.length<=100:=by
  by_cases k0:c.kind=0\/c.kind=1
  .rw[zB k0]at hm;cases hm;have:=(lw S c.path (ok.path (by omega))).2;rw[lP,li];omega
  rw[zA k0]at hm;by_cases k2:c.kind=2
  .rw[zB k2]at hm;cases hm;have:=(lw S c.path (ok.path (by omega))).1;rw[lP,li];omega
  rw[zA k2]at hm;by_cases k3:c.kind=3\/c.kind=6
  .rw[zB k3]at hm;cases hm;rw[lo];omega
  rw[zA k3]at hm;by_cases k5:c.kind=5
  .rw[zB k5]at hm
   split at hm
   .cases hm
   cases hm;rw[lo];omega
  rw[zA k5]at hm;by_cases k8:c.kind=8
  .rw[zB k8]at hm;cases hm;have h1:=(lw S c.path (ok.path (by omega))).1;have h2:=(lw S c.path2 (ok.path2 (by omega))).2;rw[lP,lP,li];omega
  rw[zA k8]at hm;by_cases k9:c.kind=9\/c.kind=10
  .rw[zB k9]at hm;cases hm;have:=(lw S c.path (ok.path (by omega))).2;rw[lP,li];omega
  rw[zA k9]at hm;by_cases k11:c.kind=11
  .rw[zB k11]at hm;cases hm;have h1:=(lw S c.path (ok.path (by omega))).2;have h2:=(lw S c.path2 (ok.path2 (by omega))).2;rw[lP,lP,li];omega
  rw[zA k11]at hm;cases hm
 rw[lP];simp;omega
def aSB (B:Nat) (S':PSt) (ks:List PKey) (e:Ending) (w':World):Prop:=∃kv iv ov mv,e=.returned (.tuple #[kv,.agg #[iv,ov,mv]])/\OwnP B w' 61 2 kv (ks.map PKey.cells)/\StOwn B w' iv ov mv S'
structure KW (w:World) (S S':PSt) (c:PCall) (r:PRes) (iv ov mv iv1 ov1 mv1 nv1:Value) (b6 b7:Nat) (wA:World):Prop where
 below:Below w.heap.size w wA
 s:Blk wA w.heap.size #[iv,ov,mv] 26
 c:Blk wA (w.heap.size+1) #[.int .i64 c.kind,.int .i64 c.core,.int .i64 c.fd,.int .i64 c.off,.int .i64 c.num,.string c.path,.string c.path2,.string c.data] 28
 o:Blk wA (w.heap.size+1+1) #[.slice none 0 0,.slice none 0 0,.slice none 0 0] 26
 h:Blk wA b6 #[iv1,ov1,mv1] 26
 r:Blk wA b7 #[.int .i64 r.code,.int .i64 r.fd,.int .i64 r.num,.bool r.dir,.string r.data,nv1] 52
 n6:w.heap.size+1+1<b6
 sr:StRead wA iv ov mv S
 sr1:StOwn w.heap.size wA iv1 ov1 mv1 S'
theorem aMX (iv ov mv:Value) (S:PSt) (c:PCall) (w:World) (h:StRead w iv ov mv S) (hwf:S.wf) (hwf':(mK S c).1.wf) (hcd:c.data.size<=1000000000000000000):
 Calls Tryz.prog 40 #[.agg #[iv,ov,mv],c.val] w λe w'=>Below w.heap.size w w'/\aSB w.heap.size (mK S c).1 (kV S c) e w':=by
 have D:=aPQ hwf hcd;have a8:(mK S c).2.code=0->GatherOk S c:=λhc=>aIM hwf hc;unfold kV;generalize mK S c=SR at *;obtain⟨S',r⟩:=SR;simp only at D a8 hwf' |-;obtain⟨RR,hRR⟩:∃RR,pO r.code (dA S S' c)=RR:=⟨_,rfl⟩;rw[hRR];have b4:=aG hRR;clear hRR;have o1:=h.1.one;have o2:=h.2.1.one;have o3:iv.oneCell'=true:=by obtain⟨_,_,_,h3,_⟩:=h;exact h3.one
 have HS:=aG h;clear h;unfold PCall.val;go_enter Tryz.func40,Tryz.ntmps40;go_upto_region 2 with(go_at_call 73;refine(D _ _ _ _ (HS.out.below (bel w _) (zC _))).mono ?_;rintro e wa ⟨hb,iv1,ov1,mv1,nv1,rfl,hs1,hn1⟩;obtain⟨pa,rfl⟩:=hb.rest;clear hb;obtain⟨a11,a12,a13,a14,a15,a16,a17,a18,a19,rfl,rfl,rfl⟩:=hs1.forms;obtain⟨n11,n12,rfl,-⟩:=hn1.row)
 refine aI (F:=λwA=>KW w S S' c r iv ov mv (.slice a11 a12 a13) (.slice a14 a15 a16) (.slice a17 a18 a19) (.slice n11 r.names.length n12) (w.heap.size+1+1+1+pa.len) (w.heap.size+1+1+1+pa.len+1) wA) ?_ ?_
 .refine⟨bel w _,?_,?_,?_,?_,?_,by omega,HS.out.below (bel w _) (zC _),?_⟩
  .repeat(first|exact Blk.new_i _ _ _ _|refine Blk.alloc ?_ _|refine Blk.junk ?_ _)
  .repeat(first|exact Blk.new_i _ _ _ _|refine Blk.alloc ?_ _|refine Blk.junk ?_ _)
  .repeat(first|exact Blk.new_i _ _ _ _|refine Blk.alloc ?_ _|refine Blk.junk ?_ _)
  .repeat(first|exact Blk.new_i _ _ _ _|refine Blk.alloc ?_ _|refine Blk.junk ?_ _)
  .repeat(first|exact Blk.new_i _ _ _ _|refine Blk.alloc ?_ _|refine Blk.junk ?_ _)
  exact StOwn.mono (StOwn.keep hs1 (Keep.of_below (bel _ _) (λ_=>False)) (λ_ h=>h.elim)) (by simp;omega)
 generalize w.heap.size+1+1+1+pa.len=b6;generalize b6+1=b7;clear hs1 hn1 pa HS D;intro wA K;have k0:wA.cell? ⟨b7,0,none⟩=some (.int .i64 r.code):=K.r.cell 0;have i7:=K.r.lt;have i6:=K.h.lt;have h0:wA.cell? ⟨b6,0,none⟩=some (.slice a11 a12 a13):=K.h.cell 0;have h1:wA.cell? ⟨b6,1,none⟩=some (.slice a14 a15 a16):=K.h.cell 1;have h2:wA.cell? ⟨b6,2,none⟩=some (.slice a17 a18 a19):=K.h.cell 2;have i5:=K.o.lt;have p0:wA.cell? ⟨w.heap.size+1+1,0,none⟩=some (.slice none 0 0):=K.o.cell 0;have p1:wA.cell? ⟨w.heap.size+1+1,1,none⟩=some (.slice none 0 0):=K.o.cell 1;have p2:wA.cell? ⟨w.heap.size+1+1,2,none⟩=some (.slice none 0 0):=K.o.cell 2;have f0:=K.o.frozen 0;have f1:=K.o.frozen 1;have f2:=K.o.frozen 2;have a9:GAt wA (wA.alloc (.cells #[.pointer (some ⟨w.heap.size,0,none⟩),.pointer (some ⟨b6,0,none⟩),.pointer (some ⟨w.heap.size+1,0,none⟩),.slice none 0 0] 106)) S S' c w.heap.size b6 (w.heap.size+1) []:=
  ⟨⟨K.s.lt.lt,iv,ov,mv,K.s.cell 0,K.s.cell 1,K.s.cell 2,K.sr⟩,⟨i6.lt,_,_,_,h0,h1,h2,K.sr1.read⟩,⟨K.c.lt.lt,λt u hu=>by rw[K.c.cell];simpa[PCall.cells]using hu⟩,bel wA _,.slice none 0 0,Blk.new _ _ _,.inl ⟨rfl,rfl⟩⟩
 have HK:=bB K a9;have HN:=K.n6;by_cases hcode:r.code=0
 .have c7:(r.code !=0)=false:=by simpa using hcode
  rcases hg:dA S S' c with _|l
  .have b5:RR=[]:=by rw[<-b4.out,hg,lX]
   have c8:=aJC a9 hg;clear K a9 hcode a8;go_upto_region 4 with(go_at_call 74;refine c8.mono ?_;rintro e w2 ⟨rfl,hg2⟩)
   have a0:=hg2.below;have q0:w2.cell? ⟨b6,0,none⟩=some (.slice a11 a12 a13):=(a0.cell (p:=⟨b6,0,none⟩) i6.lt).trans h0;have q1:w2.cell? ⟨b6,1,none⟩=some (.slice a14 a15 a16):=(a0.cell (p:=⟨b6,1,none⟩) i6.lt).trans h1;have q2:w2.cell? ⟨b6,2,none⟩=some (.slice a17 a18 a19):=(a0.cell (p:=⟨b6,2,none⟩) i6.lt).trans h2;have ko:Blk w2 (w.heap.size+1+1) #[.slice none 0 0,.slice none 0 0,.slice none 0 0] 26:=HK.out.1.o.below a0 i5.lt;have p0:w2.cell? ⟨w.heap.size+1+1,0,none⟩=some (.slice none 0 0):=ko.cell 0;have p1:w2.cell? ⟨w.heap.size+1+1,1,none⟩=some (.slice none 0 0):=ko.cell 1;have p2:w2.cell? ⟨w.heap.size+1+1,2,none⟩=some (.slice none 0 0):=ko.cell 2;have f0:=ko.frozen 0;have f1:=ko.frozen 1;have f2:=ko.frozen 2;have j6:BlockLt b6 w2:=⟨by have:=i6.lt;have:=a0.size;omega⟩;have j5:=ko.lt;refine aC [2] true (λw'=>w'.cell? ⟨b6,0,none⟩=some (.slice a11 a12 a13)/\w'.cell? ⟨b6,1,none⟩=some (.slice a14 a15 a16)/\w'.cell? ⟨b6,2,none⟩=some (.slice a17 a18 a19)) (by kernel_rfl) (by kernel_rfl) ?_ ?_
   · (try dsimp only);(repeat' apply And.intro)<;>go_simp
   repeat
    refine aH rfl rfl ?_;apply Exists.intro;refine⟨?_,?_⟩
    focus
     rintro w' ⟨s0,s1,s2⟩;go_simp
     first|done|rfl
    simp only[Act.put,sA,sZ,sS]
   refine aU rfl rfl ?_;apply Exists.intro;apply And.intro
   focus
    go_simp
    first|done|rfl
   apply And.intro
   focus
    exact .inr ⟨rfl,rfl⟩
   refine aQ ?_;have a2:Keep (λg=>g=w.heap.size+1+1) wA ((((w2.drew).setCell ⟨w.heap.size+1+1,0,none⟩ (.slice a11 a12 a13)).setCell ⟨w.heap.size+1+1,1,none⟩ (.slice a14 a15 a16)).setCell ⟨w.heap.size+1+1,2,none⟩ (.slice a17 a18 a19)):=(((Keep.of_below a0.drew (λg=>g=w.heap.size+1+1)).setCell (p:=⟨w.heap.size+1+1,0,none⟩) (.inl rfl) _).setCell (p:=⟨w.heap.size+1+1,1,none⟩) (.inl rfl) _).setCell (p:=⟨w.heap.size+1+1,2,none⟩) (.inl rfl) _;have a1:Blk ((((w2.drew).setCell ⟨w.heap.size+1+1,0,none⟩ (.slice a11 a12 a13)).setCell ⟨w.heap.size+1+1,1,none⟩ (.slice a14 a15 a16)).setCell ⟨w.heap.size+1+1,2,none⟩ (.slice a17 a18 a19)) (w.heap.size+1+1) #[(.slice a11 a12 a13),(.slice a14 a15 a16),(.slice a17 a18 a19)] 26:=(((HK.out.1.o.below a0.drew i5.lt).set_ 0 (.slice a11 a12 a13)).set_ 1 (.slice a14 a15 a16)).set_ 2 (.slice a17 a18 a19);obtain⟨wF,hwF⟩:∃wF,((((w2.drew).setCell ⟨w.heap.size+1+1,0,none⟩ (.slice a11 a12 a13)).setCell ⟨w.heap.size+1+1,1,none⟩ (.slice a14 a15 a16)).setCell ⟨w.heap.size+1+1,2,none⟩ (.slice a17 a18 a19))=wF:=⟨_,rfl⟩;change Exit.then _ _ .normal _ (((w2.drew.setCell ⟨w.heap.size+1+1,0,none⟩ (.slice a11 a12 a13)).setCell ⟨w.heap.size+1+1,1,none⟩ (.slice a14 a15 a16)).setCell ⟨w.heap.size+1+1,2,none⟩ (.slice a17 a18 a19))
   rw[hwF]at a2 a1 |-;have c9:=a2;have e0:wF.cell? ⟨w.heap.size+1+1,0,none⟩=some (.slice a11 a12 a13):=a1.cell 0;have e1:wF.cell? ⟨w.heap.size+1+1,1,none⟩=some (.slice a14 a15 a16):=a1.cell 1;have e2:wF.cell? ⟨w.heap.size+1+1,2,none⟩=some (.slice a17 a18 a19):=a1.cell 2;have c0:=a1.lt;have b1:StOwn w.heap.size wF (.slice a11 a12 a13) (.slice a14 a15 a16) (.slice a17 a18 a19) S':=StOwn.keep HK.out.1.sr1 a2 (λg hg=>by rw[hg];exact⟨_,26,HK.out.1.o,by decide,by decide,by decide,by decide⟩);have b2:Below w.heap.size w wF:=HK.out.1.below.trans (a2.below HK.out.1.below.size (λi hi hg=>by omega));clear q0 q1 q2 p0 p1 p2 f0 f1 f2 ko;go_wp2_with fail;exact xB (v:=.tuple #[.slice none 0 0,.agg #[(.slice a11 a12 a13),(.slice a14 a15 a16),(.slice a17 a18 a19)]]) (by simp[results,Tryz.results40,go_sem,e0,e1,e2]) rfl ⟨b2,_,_,_,_,rfl,.inl ⟨rfl,by rw[b5];rfl⟩,b1⟩
  have d0:=aEI a9 (by simp) hwf hwf' (a8 hcode) hg;have e3:l.length<=1000:=aBV (a8 hcode) hg;have c1:RR=cO (lL l):=by rw[<-b4.out,hg,oV hcode]
  have b8:=aEJ hg;clear K a9 hcode a8 p0 p1 p2 f0 f1 f2;go_upto_region 5 with(go_at_call 74;refine d0.mono ?_;rintro e w2 ⟨rfl,hg2⟩)
  rw[List.nil_append]at hg2;obtain⟨out,hgb,hown⟩:=hg2.own;have c2:=aG hown;rcases hown with⟨-,h2'⟩|⟨gk,cap,arr,rfl,hgkB,hgkb,-⟩
  .exact absurd (List.map_eq_nil_iff.1 h2') b8
  rw[lM]at c2 hgb;have a4:=sort75 wA.heap.size gk cap l w2 c2.out (by omega);have e4:=hgb.lt;have d1:w2.cell? ⟨wA.heap.size,3,none⟩=some (.slice (some ⟨gk,0,none⟩) l.length cap):=hgb.cell 3;have b3:=hgkb.ne_ hgb (by decide);have a0:=hg2.below;go_upto_region 6 with(go_at_call 75;refine a4.mono ?_;rintro e w3 ⟨rfl,ho3,hk3⟩)
  have a5:Below wA.heap.size wA w3:=a0.trans (hk3.below a0.size (λi hi hg=>by omega));have a6:=hk3.blk hgb (λe=>b3 e.symm);have e5:=a6.lt;have d2:w3.cell? ⟨wA.heap.size,3,none⟩=some (.slice (some ⟨gk,0,none⟩) l.length cap):=a6.cell 3;rw[<-hQ l]at ho3;have a7:=aIJ wA.heap.size gk cap (lL l) w3.drew (OwnP.keep ho3 (Keep.of_below (bel w3 w3.drew) (λ_=>False)) (λ_ _ h=>h)) (by rw[hQ];omega);rw[hQ]at a7;rw[<-c1]at a7;clear d1 hgb a4;have q0:w3.cell? ⟨b6,0,none⟩=some (.slice a11 a12 a13):=(a5.cell (p:=⟨b6,0,none⟩) i6.lt).trans h0;have q1:w3.cell? ⟨b6,1,none⟩=some (.slice a14 a15 a16):=(a5.cell (p:=⟨b6,1,none⟩) i6.lt).trans h1;have q2:w3.cell? ⟨b6,2,none⟩=some (.slice a17 a18 a19):=(a5.cell (p:=⟨b6,2,none⟩) i6.lt).trans h2;have ko:Blk w3 (w.heap.size+1+1) #[.slice none 0 0,.slice none 0 0,.slice none 0 0] 26:=HK.out.1.o.below a5 i5.lt;have p0:w3.cell? ⟨w.heap.size+1+1,0,none⟩=some (.slice none 0 0):=ko.cell 0;have p1:w3.cell? ⟨w.heap.size+1+1,1,none⟩=some (.slice none 0 0):=ko.cell 1;have p2:w3.cell? ⟨w.heap.size+1+1,2,none⟩=some (.slice none 0 0):=ko.cell 2;have f0:=ko.frozen 0;have f1:=ko.frozen 1;have f2:=ko.frozen 2;have j6:BlockLt b6 w3:=⟨by have:=i6.lt;have:=a5.size;omega⟩;have j5:=ko.lt;refine aC [4,7] true (λw'=>w'.cell? ⟨wA.heap.size,3,none⟩=some (.slice (some ⟨gk,0,none⟩) l.length cap)/\w'.cell? ⟨b6,0,none⟩=some (.slice a11 a12 a13)/\w'.cell? ⟨b6,1,none⟩=some (.slice a14 a15 a16)/\w'.cell? ⟨b6,2,none⟩=some (.slice a17 a18 a19)) (by kernel_rfl) (by kernel_rfl) ?_ ?_
  · (try dsimp only);(repeat' apply And.intro)<;>go_simp
  repeat
   refine aH rfl rfl ?_;apply Exists.intro;refine⟨?_,?_⟩
   focus
    rintro w' ⟨s9,s0,s1,s2⟩;go_simp
    first|done|rfl
   simp only[Act.put,sA,sZ,sS]
  refine aZ rfl rfl ?_;refine aS 80 #[.slice (some ⟨gk,0,none⟩) l.length cap] ?_ (a7.mono ?_)
  .go_simp
   first|done|rfl
  rintro e w4 ⟨rfl,ho4,hk4⟩;have b0:Below wA.heap.size wA w4:=a5.trans ((bel w3 w3.drew).mono a5.size |>.trans (hk4.below a5.size (λi hi hg=>by omega)));have b9:=hk4.blk (a6.drew) (λe=>b3 e.symm);have c3:w4.cell? ⟨b6,0,none⟩=some (.slice a11 a12 a13):=(b0.cell (p:=⟨b6,0,none⟩) i6.lt).trans h0;have c4:w4.cell? ⟨b6,1,none⟩=some (.slice a14 a15 a16):=(b0.cell (p:=⟨b6,1,none⟩) i6.lt).trans h1;have c5:w4.cell? ⟨b6,2,none⟩=some (.slice a17 a18 a19):=(b0.cell (p:=⟨b6,2,none⟩) i6.lt).trans h2;have a3:Blk w4 (w.heap.size+1+1) #[.slice none 0 0,.slice none 0 0,.slice none 0 0] 26:=HK.out.1.o.below b0 i5.lt;have d3:w4.cell? ⟨w.heap.size+1+1,0,none⟩=some (.slice none 0 0):=a3.cell 0;have d4:w4.cell? ⟨w.heap.size+1+1,1,none⟩=some (.slice none 0 0):=a3.cell 1;have d5:w4.cell? ⟨w.heap.size+1+1,2,none⟩=some (.slice none 0 0):=a3.cell 2;have d6:=a3.frozen 0;have d7:=a3.frozen 1;have d8:=a3.frozen 2;have e6:BlockLt b6 w4:=⟨by have:=i6.lt;have:=b0.size;omega⟩;have e7:=a3.lt;refine⟨_,rfl,.inl ⟨b9.cell 3,c3,c4,c5⟩,?_⟩;simp only[Act.put,sA,sZ,sS]
  repeat
   refine aH rfl rfl ?_;apply Exists.intro;refine⟨?_,?_⟩
   focus
    rintro w' ⟨s9,s0,s1,s2⟩;go_simp
    first|done|rfl
   simp only[Act.put,sA,sZ,sS]
  refine aU rfl rfl ?_;apply Exists.intro;apply And.intro
  focus
   go_simp
   first|done|rfl
  apply And.intro
  focus
   exact .inr ⟨rfl,rfl⟩
  refine aQ ?_;have a2:Keep (λg=>g=w.heap.size+1+1) wA (((w4.setCell ⟨w.heap.size+1+1,0,none⟩ (.slice a11 a12 a13)).setCell ⟨w.heap.size+1+1,1,none⟩ (.slice a14 a15 a16)).setCell ⟨w.heap.size+1+1,2,none⟩ (.slice a17 a18 a19)):=(((Keep.of_below b0 (λg=>g=w.heap.size+1+1)).setCell (p:=⟨w.heap.size+1+1,0,none⟩) (.inl rfl) _).setCell (p:=⟨w.heap.size+1+1,1,none⟩) (.inl rfl) _).setCell (p:=⟨w.heap.size+1+1,2,none⟩) (.inl rfl) _;have c6:Keep (λg=>g=w.heap.size+1+1) w4 (((w4.setCell ⟨w.heap.size+1+1,0,none⟩ (.slice a11 a12 a13)).setCell ⟨w.heap.size+1+1,1,none⟩ (.slice a14 a15 a16)).setCell ⟨w.heap.size+1+1,2,none⟩ (.slice a17 a18 a19)):=(((Keep.refl (λg=>g=w.heap.size+1+1) w4).setCell (p:=⟨w.heap.size+1+1,0,none⟩) (.inl rfl) _).setCell (p:=⟨w.heap.size+1+1,1,none⟩) (.inl rfl) _).setCell (p:=⟨w.heap.size+1+1,2,none⟩) (.inl rfl) _;have a1:Blk (((w4.setCell ⟨w.heap.size+1+1,0,none⟩ (.slice a11 a12 a13)).setCell ⟨w.heap.size+1+1,1,none⟩ (.slice a14 a15 a16)).setCell ⟨w.heap.size+1+1,2,none⟩ (.slice a17 a18 a19)) (w.heap.size+1+1) #[(.slice a11 a12 a13),(.slice a14 a15 a16),(.slice a17 a18 a19)] 26:=((a3.set_ 0 (.slice a11 a12 a13)).set_ 1 (.slice a14 a15 a16)).set_ 2 (.slice a17 a18 a19);obtain⟨wF,hwF⟩:∃wF,(((w4.setCell ⟨w.heap.size+1+1,0,none⟩ (.slice a11 a12 a13)).setCell ⟨w.heap.size+1+1,1,none⟩ (.slice a14 a15 a16)).setCell ⟨w.heap.size+1+1,2,none⟩ (.slice a17 a18 a19))=wF:=⟨_,rfl⟩;change Exit.then _ _ .normal _ (((w4.setCell ⟨w.heap.size+1+1,0,none⟩ (.slice a11 a12 a13)).setCell ⟨w.heap.size+1+1,1,none⟩ (.slice a14 a15 a16)).setCell ⟨w.heap.size+1+1,2,none⟩ (.slice a17 a18 a19))
  rw[hwF]at a2 c6 a1 |-;have e0:wF.cell? ⟨w.heap.size+1+1,0,none⟩=some (.slice a11 a12 a13):=a1.cell 0;have e1:wF.cell? ⟨w.heap.size+1+1,1,none⟩=some (.slice a14 a15 a16):=a1.cell 1;have e2:wF.cell? ⟨w.heap.size+1+1,2,none⟩=some (.slice a17 a18 a19):=a1.cell 2;have c0:=a1.lt;have b1:StOwn w.heap.size wF (.slice a11 a12 a13) (.slice a14 a15 a16) (.slice a17 a18 a19) S':=StOwn.keep HK.out.1.sr1 a2 (λg hg=>by rw[hg];exact⟨_,26,HK.out.1.o,by decide,by decide,by decide,by decide⟩);have b2:Below w.heap.size w wF:=HK.out.1.below.trans (a2.below HK.out.1.below.size (λi hi hg=>by omega));have d9:OwnP w.heap.size wF 61 2 (.slice (some ⟨gk,0,none⟩) RR.length cap) (RR.map PKey.cells):=OwnP.mono (OwnP.keep ho4 c6 (λg hg hge=>by
   rw[hge]at hg;exact ho4.ne_blk a3 (by decide) hg rfl)) (by have:=HK.out.1.below.size;omega)
  clear q0 q1 q2 p0 p1 p2 f0 f1 f2 ko c3 c4 c5 d3 d4 d5 d6 d7 d8 a3 d2;go_wp2_with fail;exact xB (v:=.tuple #[.slice (some ⟨gk,0,none⟩) RR.length cap,.agg #[(.slice a11 a12 a13),(.slice a14 a15 a16),(.slice a17 a18 a19)]]) (by simp[results,Tryz.results40,go_sem,e0,e1,e2,c1]) rfl ⟨b2,_,_,_,_,rfl,d9,b1⟩
 have c7:(r.code !=0)=true:=by simpa using hcode
 have b5:RR=[]:=by rw[<-b4.out,qV hcode]
 clear K a9 hcode a8;go_upto_region 4 with fail;have a0:=bel wA (wA.alloc (.cells #[.pointer (some ⟨w.heap.size,0,none⟩),.pointer (some ⟨b6,0,none⟩),.pointer (some ⟨w.heap.size+1,0,none⟩),.slice none 0 0] 106));obtain⟨w2,hw2⟩:∃w2,wA.alloc (.cells #[.pointer (some ⟨w.heap.size,0,none⟩),.pointer (some ⟨b6,0,none⟩),.pointer (some ⟨w.heap.size+1,0,none⟩),.slice none 0 0] 106)=w2:=⟨_,rfl⟩;rw[hw2]at a0 |-;clear hw2;have q0:w2.cell? ⟨b6,0,none⟩=some (.slice a11 a12 a13):=(a0.cell (p:=⟨b6,0,none⟩) i6.lt).trans h0;have q1:w2.cell? ⟨b6,1,none⟩=some (.slice a14 a15 a16):=(a0.cell (p:=⟨b6,1,none⟩) i6.lt).trans h1;have q2:w2.cell? ⟨b6,2,none⟩=some (.slice a17 a18 a19):=(a0.cell (p:=⟨b6,2,none⟩) i6.lt).trans h2;have ko:Blk w2 (w.heap.size+1+1) #[.slice none 0 0,.slice none 0 0,.slice none 0 0] 26:=HK.out.1.o.below a0 i5.lt;have p0:w2.cell? ⟨w.heap.size+1+1,0,none⟩=some (.slice none 0 0):=ko.cell 0;have p1:w2.cell? ⟨w.heap.size+1+1,1,none⟩=some (.slice none 0 0):=ko.cell 1;have p2:w2.cell? ⟨w.heap.size+1+1,2,none⟩=some (.slice none 0 0):=ko.cell 2;have f0:=ko.frozen 0;have f1:=ko.frozen 1;have f2:=ko.frozen 2;have j6:BlockLt b6 w2:=⟨by have:=i6.lt;have:=a0.size;omega⟩;have j5:=ko.lt;refine aC [2] true (λw'=>w'.cell? ⟨b6,0,none⟩=some (.slice a11 a12 a13)/\w'.cell? ⟨b6,1,none⟩=some (.slice a14 a15 a16)/\w'.cell? ⟨b6,2,none⟩=some (.slice a17 a18 a19)) (by kernel_rfl) (by kernel_rfl) ?_ ?_
 · (try dsimp only);(repeat' apply And.intro)<;>go_simp
 repeat
  refine aH rfl rfl ?_;apply Exists.intro;refine⟨?_,?_⟩
  focus
   rintro w' ⟨s0,s1,s2⟩;go_simp
   first|done|rfl
  simp only[Act.put,sA,sZ,sS]
 refine aU rfl rfl ?_;apply Exists.intro;apply And.intro
 focus
  go_simp
  first|done|rfl
 apply And.intro
 focus
  exact .inr ⟨rfl,rfl⟩
 refine aQ ?_;have a2:Keep (λg=>g=w.heap.size+1+1) wA ((((w2.drew).setCell ⟨w.heap.size+1+1,0,none⟩ (.slice a11 a12 a13)).setCell ⟨w.heap.size+1+1,1,none⟩ (.slice a14 a15 a16)).setCell ⟨w.heap.size+1+1,2,none⟩ (.slice a17 a18 a19)):=(((Keep.of_below a0.drew (λg=>g=w.heap.size+1+1)).setCell (p:=⟨w.heap.size+1+1,0,none⟩) (.inl rfl) _).setCell (p:=⟨w.heap.size+1+1,1,none⟩) (.inl rfl) _).setCell (p:=⟨w.heap.size+1+1,2,none⟩) (.inl rfl) _;have a1:Blk ((((w2.drew).setCell ⟨w.heap.size+1+1,0,none⟩ (.slice a11 a12 a13)).setCell ⟨w.heap.size+1+1,1,none⟩ (.slice a14 a15 a16)).setCell ⟨w.heap.size+1+1,2,none⟩ (.slice a17 a18 a19)) (w.heap.size+1+1) #[(.slice a11 a12 a13),(.slice a14 a15 a16),(.slice a17 a18 a19)] 26:=(((HK.out.1.o.below a0.drew i5.lt).set_ 0 (.slice a11 a12 a13)).set_ 1 (.slice a14 a15 a16)).set_ 2 (.slice a17 a18 a19);obtain⟨wF,hwF⟩:∃wF,((((w2.drew).setCell ⟨w.heap.size+1+1,0,none⟩ (.slice a11 a12 a13)).setCell ⟨w.heap.size+1+1,1,none⟩ (.slice a14 a15 a16)).setCell ⟨w.heap.size+1+1,2,none⟩ (.slice a17 a18 a19))=wF:=⟨_,rfl⟩;change Exit.then _ _ .normal _ (((w2.drew.setCell ⟨w.heap.size+1+1,0,none⟩ (.slice a11 a12 a13)).setCell ⟨w.heap.size+1+1,1,none⟩ (.slice a14 a15 a16)).setCell ⟨w.heap.size+1+1,2,none⟩ (.slice a17 a18 a19))
 rw[hwF]at a2 a1 |-;have c9:=a2;have e0:wF.cell? ⟨w.heap.size+1+1,0,none⟩=some (.slice a11 a12 a13):=a1.cell 0;have e1:wF.cell? ⟨w.heap.size+1+1,1,none⟩=some (.slice a14 a15 a16):=a1.cell 1;have e2:wF.cell? ⟨w.heap.size+1+1,2,none⟩=some (.slice a17 a18 a19):=a1.cell 2;have c0:=a1.lt;have b1:StOwn w.heap.size wF (.slice a11 a12 a13) (.slice a14 a15 a16) (.slice a17 a18 a19) S':=StOwn.keep HK.out.1.sr1 a2 (λg hg=>by rw[hg];exact⟨_,26,HK.out.1.o,by decide,by decide,by decide,by decide⟩);have b2:Below w.heap.size w wF:=HK.out.1.below.trans (a2.below HK.out.1.below.size (λi hi hg=>by omega));clear q0 q1 q2 p0 p1 p2 f0 f1 f2 ko;go_wp2_with fail;exact xB (v:=.tuple #[.slice none 0 0,.agg #[(.slice a11 a12 a13),(.slice a14 a15 a16),(.slice a17 a18 a19)]]) (by simp[results,Tryz.results40,go_sem,e0,e1,e2]) rfl ⟨b2,_,_,_,_,rfl,.inl ⟨rfl,by rw[b5];rfl⟩,b1⟩
end
end Go.Proofs.YtmkapobnfigedaaGreatDoor
