/- A part of a proof of a law. Conditions: none. -/
import Derived.Test.YtmkapobnfigedaaGreatDoorDp27
import Derived.Test.YtmkapobnfigedaaGreatDoorDp28
set_option linter.unusedVariables false
set_option linter.unusedSimpArgs false
set_option maxRecDepth 100000
set_option maxHeartbeats 40000000
namespace Go.Proofs.YtmkapobnfigedaaGreatDoor
open Go.Proofs.Tryz List Go.RowKit
section
variable {K k:Nat} {S:PSt} {x y:PIn}
theorem hU (hx:S.ins[k]? =some x) (hd:x.dir=true):bD S k=x.ents.map λe=>(bP S e.num).toNat:=by unfold bD;rw[hx];simp[hd]
theorem MayX.once (M:MayX S) {j:Nat} (hx:S.ins[j]? =some x) (hd:x.dir=true) {k1 k2:Nat} (h1:j∈bD S k1) (h2:j∈bD S k2):k1=k2/\(bD S k1).count j=1:=by
 have a1:j≠0:=λe=>M.tree.root k1 (e ▸ h1);have ho:=M.tree.once j x hx hd a1;have a0:∀k,j∈bD S k->k<S.ins.length:=λk hk=>by
  rcases Nat.lt_or_ge k S.ins.length with h|h
  .exact h
  unfold bD at hk;rw[getElem?_eq_none h]at hk;cases hk
 have c1:1<=(bD S k1).count j:=count_pos_iff.2 h1;have c2:1<=(bD S k2).count j:=count_pos_iff.2 h2;have hs:cY (λk=>(bD S k).count j) S.ins.length=1:=by have h9:(bD S k1).count j<=cY (λk=>(bD S k).count j) S.ins.length:=aNA (f:=λk=>(bD S k).count j) (a0 k1 h1);omega
 obtain⟨p,hp,hp1,hp2⟩:=aAT hs;have e1:k1=p:=by
  rcases Nat.decEq k1 p with h|h
  .have:=hp2 k1 (a0 k1 h1) h;omega
  exact h
 have e2:k2=p:=by
  rcases Nat.decEq k2 p with h|h
  .have:=hp2 k2 (a0 k2 h2) h;omega
  exact h
 subst e1;exact⟨e2.symm,hp1⟩
theorem MayX.walk_self (M:MayX S) (hy:S.ins[K]? =some y) (hd:y.dir=true) (hK:K∈bD S K):∀(ns:List ByteArray) (k:Nat),k≠K->(aL S k ns).2=0->(aL S k ns).1≠K
 |[],k,hk,_=>hk
 | n :: r, k,hk,h=>by
   unfold aL at h |-;rcases hx:S.ins[k]? with _|x
   .rw[hx]at h;cases h
   rw [hx]at h;simp only at h |-;by_cases hxd:x.dir=true
   .rw [zB hxd]at h |-;by_cases hh:bT x.ents n=true
    .rw [zB hh]at h |-;rcases he:x.ents[cZ x.ents n]? with _|e
     .rw[he]at h;cases h
     rw[he]at h;simp only at h |-;refine M.walk_self hy hd hK r _ (λe2=>?_) h;rw[bG M.tree.rise]at e2;have hm:K∈bD S k:=by rw[hU hx hxd,<-e2];exact mem_map_of_mem (mG he)
     exact hk (M.once hy hd hm hK).1
    rw[zA hh]at h;cases h
   rw[zA hxd]at h;cases h
theorem MayX.par_self (M:MayX S) {p:ByteArray} {l:ByteArray} (hp:bW S p=.ok (K,l)) (hy:S.ins[K]? =some y) (hd:y.dir=true):K∉bD S K:=by
 intro hK;have a0:K≠0:=λe=>M.tree.root K (by rw[<-e];exact hK);unfold bW at hp;split at hp
 .cases hp
 unfold bC at hp;split at hp
 .cases hp
 split at hp
 .cases hp
 rename_i hw;split at hp
 .split at hp
  .cases hp;exact M.walk_self hy hd hK _ 0 (λe=>a0 e.symm) (by simpa using hw) rfl
  cases hp
 cases hp
theorem wG (n:Int):∀xs:List PIn,(∀x∈xs,x.dir=true->∀e∈x.ents,e.num≠n)->dB n xs=0
 |[],_=>rfl
 | x :: r,h=>by
   unfold dB;rw[wG n r λy hy=>h y (zL _ hy)];have hx:=h x zQ;have:∀es:List PEnt,(x.dir=true->∀e∈es,e.num≠n)->cW n x es=0:=by
    intro es
    induction es with
    |nil=>intro _;rfl
    | cons e es ih=>
      intro hh;unfold cW;rw[ih λhd e' he'=>hh hd e' (zL _ he')];cases hd:x.dir with
      |false=>simp
      | true=>
        have:=hh hd e zQ;have hb:(e.num==n)=false:=by simpa using this
        simp[hb]
   rw[this x.ents hx]
theorem aBO {α:Type} {l:List α} {z:α} (h:z∈aM l k):∃i,i≠k/\l[i]? =some z:=by
 unfold aM at h;rcases mem_append.1 h with h|h
 .obtain⟨i,hi⟩:=getElem?_of_mem h;obtain⟨hl,_⟩:=gI.1 hi;rw[zU]at hl;rw[yO,zB (by omega)]at hi;exact⟨i,by omega,hi⟩
 obtain⟨i,hi⟩:=getElem?_of_mem h;rw[yN]at hi;exact⟨k+1+i,by omega,hi⟩
theorem tC {α:Type} (f:α->Nat) (j:Nat):∀(l:List α) (p q:Nat) (a b:α),l[p]? =some a->l[q]? =some b->p<q->f a=j->f b=j->2<=(l.map f).count j
 |[],p,q,a,b,h,_,_,_,_=>by simp at h
 | z::r,0,q,a,b,ha,hb,hpq,h1,h2=>by
   simp only[zH,zF]at ha;subst ha;obtain⟨q,rfl⟩:∃q',q=q'+1:=⟨q-1,by omega⟩;rw[xB,count_cons,h1];have:1<=(r.map f).count j:=count_pos_iff.2 (by
    rw[<-h2];exact mem_map_of_mem (mG (by simpa using hb)))
   rw[zB (by simp)];omega
 | z::r,p+1,q,a,b,ha,hb,hpq,h1,h2=>by obtain⟨q,rfl⟩:∃q',q=q'+1:=⟨q-1,by omega⟩;rw[xB,count_cons];have:=tC f j r p q a b (by simpa using ha) (by simpa using hb) (by omega) h1 h2;omega
theorem aLH (h:S.wf) (hx:S.ins[K]? =some x) {es:List PEnt} (hl:es.length<=1000000000) (he:∀e∈es,I64 e.num):(S.ents K x es).wf:=by
 obtain⟨h1,h2,h3,h4,h5,h6⟩:=h;refine⟨by show(S.ins.set K _).length<=_;rw[yB];exact h1,h2,h3,λz hz=>?_,h5,h6⟩;rcases mem_or_eq_of_mem_set hz with hz|rfl
 .exact h4 z hz
 exact⟨(h4 x (mG hx)).1,hl,he⟩
theorem aXU (M : MayX S) (c:PCall) (hk:c.kind=9\/c.kind=10) (B b:Nat) (iv ov mv:Value) (ww:World) (hb:Blk ww b #[iv,ov,mv] 26) (ho:StOwn B ww iv ov mv S) (hB:B<=ww.heap.size) (hBb:B<=b):
 Calls prog 96 #[.pointer b,.agg #[c.kind,c.core,c.fd,c.off,c.num,c.path,c.path2,c.data]] ww (ByOut B b ww (iP S c PRes.zero)):=by
 unfold iP;have hp:=M.par c.path;rcases hpx:bW S c.path with q|⟨K,l⟩
 .rw[hpx]at hp;obtain⟨hq,D,nm,hpar⟩:=hp;exact aDI b S iv ov mv c.kind c.core c.fd c.off c.num c.path c.path2 c.data ww hb ho.read M.fineR (by omega) D nm q hpar hq
 rw [hpx] at hp;obtain⟨y,hpar,hy,hat1,hyd,hl⟩:=hp;simp only[hy];cases hh:bT y.ents l with
 | false=>have a1:=M.ent_miss hat1 hy hh;exact aDJ b S iv ov mv c.kind c.core c.fd c.off c.num c.path c.path2 c.data ww hb ho.read M.fineR (by omega) y.num l 0 hpar rfl a1
 | true =>
   obtain⟨e,he,hen0,hen,h0,hm⟩:=M.ent_hit hat1 hy hh;have a3:=mG hy;obtain⟨K0,x,hat,hx,hxn,_⟩:=M.kid a3 hm;have a8:=aDC (M.asc y a3) hh;simp only[Bool.true_eq_false,if_false,he];have a5:=M.wf.2.2.2.1 y a3;have a4:(S.ents K y (dX l y.ents)).wf:=aLH M.wf hy (zD (length_filter_le _ _) a5.2.1) λz hz=>a5.2.2 z (mem_filter.1 hz).1;have hn:=aTE B b S iv ov mv c.kind c.core c.fd c.off c.num c.path c.path2 c.data ww hb ho hB hBb M.fineR hk y.num l 0 hpar rfl e.num hen h0 K0 x hat hx K y hat1 hy a4;refine hn.mono λe' w' h'=>?_;have a9:=h'.up;have a0:K0∈bD S K:=by rw[hU hy hyd];refine mem_map.2 ⟨e,hm,?_⟩;rw[hat];rfl
   have b0:K0≠K:=λe2=>M.par_self hpx hy hyd (by rw[e2]at a0;exact a0);have a6:(S.ents K y (aM y.ents (cZ y.ents l))).nums=S.nums:=nP hy _;have hf:aK (S.ents K y (aM y.ents (cZ y.ents l))).nums e.num=(K0:Int):=by rw[a6,bG M.tree.rise,hat]
   have a2:(S.ents K y (aM y.ents (cZ y.ents l))).ins[K0]? =some x:=by show(S.ins.set K _)[K0]? =_;rw[zX (λe2=>b0 e2.symm)];exact hx
   have a7:Rise (S.ents K y (aM y.ents (cZ y.ents l))).nums:=by rw[a6];exact M.tree.rise
   have hX : upX (aET S c.kind x K y l e.num)=aKO (S.ents K y (aM y.ents (cZ y.ents l))) c PRes.zero e.num:=by
    unfold aET aKO;rw[hf,zJ,a2,a8];simp only;by_cases h9:c.kind=9
    .rw[zB h9,zB h9];cases hd:x.dir with
     |true=>rfl
     | false=>simp only[zP,if_false];have:=wE a7 a2 hd;rw[hxn]at this;rw[this];rfl
    rw [zA h9,zA h9];cases hd:x.dir with
    |false=>rfl
    | true =>
      simp only[Bool.true_eq_false,if_false];by_cases hle:0<x.ents.length
      .rw[zB hle,zB hle];rfl
      rw [zA hle,zA hle];have b1:=M.once hx hd a0 a0;have hz:bX (S.ents K y (aM y.ents (cZ y.ents l))) e.num=0:=by
       rw[mL];unfold dR;rw[wG]
       .rfl
       intro z hz hzd e2 he2 hc;obtain⟨i,hi⟩:=getElem?_of_mem hz;by_cases hik:i=K
       .subst hik;have:z={ y with ents:=aM y.ents (cZ y.ents l)}:=by
         have h7:(S.ins.set i { y with ents:=aM y.ents (cZ y.ents l)})[i]? =some z:=hi;obtain⟨hl7,_⟩:=gI.1 hy;rw[zY hl7]at h7;exact(Option.some.inj h7).symm
        subst this;obtain⟨j,hj1,hj2⟩:=aBO he2;have h2:2<=(y.ents.map λe=>(bP S e.num).toNat).count K0:=by
         rcases Nat.lt_or_gt_of_ne hj1 with h|h
         .exact tC (λe=>(bP S e.num).toNat) K0 y.ents j (cZ y.ents l) e2 e hj2 he h (by rw[hc,hat];rfl) (by rw[hat];rfl)
         exact tC (λe=>(bP S e.num).toNat) K0 y.ents (cZ y.ents l) j e e2 he hj2 h (by rw[hat];rfl) (by rw[hc,hat];rfl)
        rw[<-hU hy hyd]at h2;omega
       have h7:S.ins[i]? =some z:=by have h8:(S.ins.set K { y with ents:=aM y.ents (cZ y.ents l)})[i]? =some z:=hi;rw[zX (λe2=>hik e2.symm)]at h8;exact h8
       have b2:K0∈bD S i:=by rw[hU h7 hzd];refine mem_map.2 ⟨e2,he2,?_⟩;rw[hc,hat];rfl
       exact hik (M.once hx hd b2 a0).1
      have b3:fI (S.ents K y (aM y.ents (cZ y.ents l))) e.num=false:=by show S.op.any (λd=>d.num==e.num)=false;rw[any_eq_false];intro d hd2 hc;rw[beq_iff_eq]at hc;obtain⟨_,_,d3⟩:=pR S.op none M.descs;obtain⟨_,_,_,_,_,z,hz1,hz2⟩:=d3 d hd2;rw[bG M.tree.rise,hc,hat,zJ,hx]at hz1;cases hz1;rw[hd]at hz2;cases hz2
      unfold mB;rw[hz,zA (by omega),b3];simp only[zP,if_false];have b4:(S.ents K y (aM y.ents (cZ y.ents l))).ins.filter (λx=>!(x.num==e.num))=aM (S.ents K y (aM y.ents (cZ y.ents l))).ins K0:=by refine kO _ K0 x a2 (by simp[hxn]) (λi z hi hz=>?_);rw[yL,yF];intro e3;have h2:=cC hz;have h3:=cC a2;rw[e3]at h2;rw[hxn]at h3;exact hi (a7.inj h2 h3)
      rw[b4];rfl
   rw[<-hX];exact a9
end
section
theorem oJ (S:PSt) (i j:Nat):∀ns:List Nat,j∈bV S i ns↔∃k∈ns,j∈bV S i [k]
 |[]=>by rw[sY];simp
 | k ::r=>by
   rw[show k::r=[k]++r from rfl,lN,yR,oJ S i j r];constructor
   .rintro(h|⟨k2,h1,h2⟩)
    .exact⟨k,by simp,h⟩
    exact⟨k2,by simp[h1],h2⟩
   rintro⟨k2,h1,h2⟩;rcases mem_append.1 h1 with h|h
   .rw[mem_singleton.1 h]at h2;exact .inl h2
   exact .inr ⟨k2,h,h2⟩
theorem wH (S:PSt):∀(a b:Nat) (ns:List Nat),bV S (a+b) ns=bV S b (bV S a ns)
 |0,b,ns=>by rw[zM];rfl
 | a+1,b,ns=>by rw[show a+1+b=(a+b)+1 by omega];exact wH S a b (ns.flatMap (bD S))
theorem mM (S:PSt) (i k:Nat):bV S (i+1) [k]=bV S i (bD S k):=by show bV S i ([k].flatMap (bD S))=_;simp
variable {S:PSt} {k:Nat} {n:ByteArray}
theorem aFF {f:Nat} {ns:List Nat} (h:bV S f ns=[]) (hk:k∈ns):bV S f [k]=[]:=by
 rcases e:bV S f [k]with _|⟨j,r⟩
 .rfl
 exfalso;have:j∈bV S f ns:=(oJ S f j ns).2 ⟨k,hk,by rw[e];simp⟩;rw[h]at this;cases this
theorem MayX.walk_lev (M:MayX S):∀(ns:List ByteArray) (k:Nat),(aL S k ns).2=0->(aL S k ns).1∈bV S ns.length [k]
 |[],k,_=>by simp[aL,bV]
 | n ::r,k,h=>by
   unfold aL at h |-;rcases hx:S.ins[k]? with _|x
   .rw[hx]at h;cases h
   rw [hx]at h;simp only at h |-;by_cases hxd:x.dir=true
   .rw[zB hxd]at h |-;by_cases hh:bT x.ents n=true
    .rw[zB hh]at h |-;rcases he:x.ents[cZ x.ents n]? with _|e
     .rw[he]at h;cases h
     rw[he]at h;simp only at h |-;rw[zK,mM,oJ];refine⟨(aK S.nums e.num).toNat,?_,M.walk_lev r _ h⟩;rw[hU hx hxd,bG M.tree.rise];exact mem_map_of_mem (mG he)
    rw[zA hh]at h;cases h
   rw[zA hxd]at h;cases h
theorem aIG {r0:List ByteArray} (h:(aL S k (n::r0)).2=0):∃k2,∀r,aL S k (n::r)=aL S k2 r:=by
 unfold aL at h;rcases hx:S.ins[k]? with _|x
 .rw[hx]at h;cases h
 rw [hx]at h;simp only at h;by_cases hxd:x.dir=true
 .rw [zB hxd]at h;by_cases hh:bT x.ents n=true
  .rw[zB hh]at h;rcases he:x.ents[cZ x.ents n]? with _|e
   .rw[he]at h;cases h
   refine⟨(aK S.nums e.num).toNat,λr=>?_⟩
   conv=>lhs;unfold aL
   rw[hx];simp only;rw[zB hxd,zB hh,he]
  rw[zA hh]at h;cases h
 rw[zA hxd]at h;cases h
theorem tD:∀(a b:List ByteArray) (k:Nat),(aL S k (a++b)).2=0->(aL S k a).2=0/\aL S k (a++b)=aL S (aL S k a).1 b
 |[],b,k,h=>⟨rfl,rfl⟩
 | n::a,b,k,h=>by rw[cons_append]at h |-;obtain⟨k2,hk⟩:=aIG h;rw[hk]at h |-;rw[hk];exact tD a b k2 h
theorem aNG (h:(aL S k [n]).2=0) (hr:Rise S.nums):(aL S k [n]).1∈bD S k:=by
 unfold aL at h |-;rcases hx:S.ins[k]? with _|x
 .rw[hx]at h;cases h
 rw [hx]at h;simp only at h |-;by_cases hxd:x.dir=true
 .rw[zB hxd]at h |-;by_cases hh:bT x.ents n=true
  .rw[zB hh]at h |-;rcases he:x.ents[cZ x.ents n]? with _|e
   .rw[he]at h;cases h
   simp only;rw[hU hx hxd,bG hr];exact mem_map_of_mem (mG he)
  rw[zA hh]at h;cases h
 rw[zA hxd]at h;cases h
theorem MayX.climb (M:MayX S) {K0:Nat}:∀(i:Nat) (ns:List ByteArray) (kT:Nat),(aL S 0 ns).2=0->(aL S 0 ns).1=kT->eP S kT=true->kT∈bV S i [K0]->∃q,q<=ns.length/\(aL S 0 (ns.take q)).1=K0
 | 0,ns,kT,h1,h2,_,h4=>by
   have:kT=K0:=by simpa[bV]using h4
   exact⟨ns.length,zC _,by rw[take_length,h2,this]⟩
 | i +1,ns,kT,h1,h2,h3,h4=>by
   rw[gZ]at h4;obtain⟨p,hp,hkp⟩:=mem_flatMap.1 h4;obtain⟨y,hy,hyd⟩:∃y,S.ins[kT]? =some y/\y.dir=true:=by
    unfold eP at h3;split at h3
    .rename_i x hx;exact⟨x,hx,h3⟩
    cases h3
   rcases eq_nil_or_concat ns with rfl|⟨r,n,rfl⟩
   .have:kT=0:=by rw[<-h2];rfl
    subst this;exact absurd hkp (M.tree.root p)
   rw[concat_eq_append]at h1 h2 |-;obtain⟨w1,w2⟩:=tD r [n] 0 h1;rw[w2]at h1 h2;have hk:=aNG h1 M.tree.rise;rw[h2]at hk;have a0:=(M.once hy hyd hkp hk).1;have a1:eP S p=true:=aAU (by intro e;rw[e]at hkp;cases hkp);obtain⟨q,hq,hq2⟩:=M.climb i r p w1 a0.symm a1 hp;refine⟨q,by simp;omega,?_⟩;rw[take_append_of_le_length hq];exact hq2
theorem MayX.within_ (M:MayX S) {kT:Nat} {yT:PIn} (hT:S.ins[kT]? =some yT) (hTd:yT.dir=true):∀(n K:Nat) (x:PIn),S.ins[K]? =some x->x.dir=true->bV S n [K]=[]->∃B,iY S yT.num n x.num=some B/\(B=true↔∃i,kT∈bV S i [K])
 |0,K,x,hx,hd,hl=>by cases hl
 | n + 1, K, x, hx,hd,hl=>by
   have a3:=mG hx;have a0:=cS M.tree.rise hx;have a1:=cS M.tree.rise hT;unfold iY;by_cases he:yT.num=x.num
   .rw[zB he];refine⟨true,rfl,⟨λ_=>⟨0,?_⟩,λ_=>rfl⟩⟩;have:kT=K:=by rw[he,a0]at a1;omega
    subst this;simp[bV]
   rw [zA he, a0,zJ,hx];simp only;rw[mM]at hl;have key:∀es:List PEnt,(∀e∈es,e∈x.ents)->∃B,aKW S (iY S yT.num n) es=some B/\(B=true↔∃e∈es,∃i,kT∈bV S i [(bP S e.num).toNat]):=by
    intro es
    induction es with
    |nil=>exact λ_=>⟨false,rfl,by simp⟩
    | cons e es ih=>
      intro hs;obtain⟨B,hB1,hB2⟩:=ih λe' he'=>hs e' (zL _ he');have a2:=hs e zQ;obtain⟨k,z,hk,hz,hzn,_⟩:=M.kid a3 a2;unfold aKW;rw[hk,zJ,hz];simp only;cases hzd:z.dir with
      | false =>
        rw[zA (by decide),hB1];refine⟨B,rfl,?_⟩;rw[hB2];constructor
        .rintro⟨e',h1,h2⟩;exact⟨e',zL _ h1,h2⟩
        rintro⟨e',h1,i,h2⟩;rcases mem_cons.1 h1 with rfl|h1
        .exfalso;rw[hk,zJ]at h2;have a4:bD S k=[]:=by
          unfold bD;rw[hz];simp[hzd]
         rcases i with _|i
         .have:kT=k:=by simpa[bV]using h2
          subst this;rw[hT]at hz;cases hz;rw[hTd]at hzd;cases hzd
         rw[mM,a4,sY]at h2;cases h2
        exact⟨e',h1,i,h2⟩
      | true=>
        rw[zB rfl];have a5:k∈bD S K:=by rw[hU hx hd];exact mem_map.2 ⟨e,a2,by rw[hk];rfl⟩
        obtain⟨B2,h1,h2⟩:=M.within_ hT hTd n k z hz hzd (aFF hl a5);rw[<-hzn,h1];cases B2 with
        | true=>refine⟨true,rfl,⟨λ_=>?_,λ_=>rfl⟩⟩;obtain⟨i,hi⟩:=h2.1 rfl;exact⟨e,zQ,i,by rw[hk];exact hi⟩
        | false=>
          simp only;refine⟨B,hB1,?_⟩;rw[hB2];constructor
          .rintro⟨e',h3,h4⟩;exact⟨e',zL _ h3,h4⟩
          rintro⟨e',h3,i,h4⟩;rcases mem_cons.1 h3 with rfl|h3
          .rw[hk]at h4;have:=h2.2 ⟨i,h4⟩;cases this
          exact⟨e',h3,i,h4⟩
   obtain⟨B,h1,h2⟩:=key x.ents λe he=>he;refine⟨B,h1,?_⟩;rw[h2];constructor
   .rintro⟨e,h3,i,h4⟩;refine⟨i+1,?_⟩;rw[mM,oJ];exact⟨_,by rw[hU hx hd];exact mem_map_of_mem h3,h4⟩
   rintro⟨i,h4⟩;rcases i with _|i
   .exfalso;have:kT=K:=by simpa[bV]using h4
    subst this;rw[hT]at hx;cases hx;exact he rfl
   rw[mM,oJ]at h4;obtain⟨k,h5,h6⟩:=h4;rw[hU hx hd]at h5;obtain⟨e,h7,h8⟩:=mem_map.1 h5;exact⟨e,h7,i,by rw[h8];exact h6⟩
end
section
variable {S:PSt} {es:List PEnt} {p t:ByteArray}
theorem aFG {K:Nat} {l:ByteArray} (h:bW S p=.ok (K,l)):∃ns,(aA p).1=0/\(aA p).2=ns++[l]/\(aL S 0 ns).2=0/\(aL S 0 ns).1=K:=by
 unfold bW at h;split at h
 .cases h
 rename_i hp;unfold bC at h;split at h
 .cases h
 rename_i l' hl;split at h
 .cases h
 rename_i hw;split at h
 .split at h
  .cases h;refine⟨(aA p).2.dropLast,by simpa using hp,?_,by simpa using hw,rfl⟩;have a0:(aA p).2≠[]:=λe=>by rw[e]at hl;cases hl
   have h1:=dropLast_concat_getLast a0;rw[getLast?_eq_some_getLast a0]at hl;rw[Option.some.inj hl]at h1;exact h1.symm
  cases h
 cases h
theorem wI {α:Type} {l:List α} {k i:Nat} {z:α} (h:(aM l k)[i]? =some z):(i<k/\l[i]? =some z)\/(k<=i/\l[i+1]? =some z):=by
 unfold aM at h;rcases Nat.lt_or_ge i (l.take k).length with h1|h1
 .rw[zZ h1]at h;rw[zU]at h1;rw[yO,zB (by omega)]at h;exact .inl ⟨by omega,h⟩
 rw[yC h1,yN]at h;rw[zU]at h1 h;obtain⟨hl,_⟩:=gI.1 h;right;refine⟨by omega,?_⟩;rw[show i+1=k+1+(i-min k l.length) by omega];exact h
theorem aVB (h:Asc es) (k:Nat):Asc (aM es k):=by
 intro i j a b ha hb hij;rcases wI ha with⟨h1,h2⟩|⟨h1,h2⟩<;>rcases wI hb with⟨h3,h4⟩|⟨h3,h4⟩
 .exact h i j a b h2 h4 hij
 .exact h i (j+1) a b h2 h4 (by omega)
 .exact h (i+1) j a b h2 h4 (by omega)
 exact h (i+1) (j+1) a b h2 h4 (by omega)
theorem aVC (h:Asc es) (hh:bT es t=false) (k:Nat):bT (aM es k) t=false:=by
 cases hd:bT (aM es k) t with
 |false=>rfl
 | true=>exfalso;obtain⟨e,he,hn⟩:=qD.1 hd;obtain⟨i,_,hi⟩:=aBO (mG he);exact sL h hh e (mG hi) hn
theorem oK (c:PCall) (r:PRes):iU S c r=match bW S c.path with
 |.error k=>.error k
 | .ok (K1,s)=>match S.ins[K1]? with
   |none=>.error 0
   | some x1=>if bT x1.ents s=false then .error 1 else match x1.ents[cZ x1.ents s]? with
     |none=>.error 0
     | some e=>match bW S c.path2 with
       |.error k=>.error k
       |.ok (K2,t)=>if(rL S e.num&&jO S (aA c.path2).2 e.num)=true then .error 9 else vE S r K1 x1 s e.num K2 t:=by
 unfold iU;by_cases hp:(aA c.path).1≠0
 .rw[zB hp];unfold bW;rw[zB hp]
 rw [zA hp];have e1:bW S c.path=bC S (aA c.path).2:=by unfold bW;rw[zA hp]
 rw[e1];by_cases hp2:(aA c.path2).1=0
 .rw [zB hp2];have e2:bW S c.path2=bC S (aA c.path2).2:=by unfold bW;rw[zA (by simpa using hp2)]
  rw[e2];unfold fW lE;rcases bC S (aA c.path).2 with k|⟨K1,s⟩
  .rfl
  simp only;rcases S.ins[K1]? with _|x1
  .rfl
  simp only;cases hh:bT x1.ents s with
  |false=>rfl
  | true=>
    simp only[Bool.true_eq_false,if_false];rcases x1.ents[cZ x1.ents s]? with _|e
    .rfl
    simp only;rcases bC S (aA c.path2).2 with k|⟨K2,t⟩<;>rfl
 rw [zA hp2];have e2:bW S c.path2=.error (eE (aA c.path2).1):=by unfold bW;rw[zB hp2]
 rw[e2];unfold nY;rcases bC S (aA c.path).2 with k|⟨K1,s⟩
 .rfl
 simp only;rcases hx:S.ins[K1]? with _|x1
 .rfl
 simp only;cases hh:bT x1.ents s with
 |false=>rfl
 | true=>obtain⟨e,he,_⟩:=qD.1 hh;simp only[Bool.true_eq_false,if_false,he]
theorem MayX.thru (M:MayX S) {K2 K0:Nat} (hp:bW S p=.ok (K2,t)) {x:PIn} (hx:S.ins[K0]? =some x) (hd2:eP S K2=true):jO S (aA p).2 x.num=true↔∃i,K2∈bV S i [K0]:=by
 obtain⟨ns,_,e,w1,w2⟩:=aFG hp;rw[e];unfold jO;rw[any_eq_true];have a0:∀q,q<=ns.length->(ns++[t]).take q=ns.take q:=λq hq=>take_append_of_le_length hq;have a1:∀q,(aL S 0 (ns.take q)).2=0/\aL S 0 ns=aL S (aL S 0 (ns.take q)).1 (ns.drop q):=λq=>by have h:=tD (S:=S) (ns.take q) (ns.drop q) 0 (by rw[take_append_drop];exact w1);rw[take_append_drop]at h;exact h
 constructor
 .rintro⟨q,hq,ht⟩;have a2:q<=ns.length:=by simp at hq;omega
  unfold uI at ht;rw[a0 q a2]at ht;split at ht
  .rename_i z hz
   rw[beq_iff_eq]at ht;have h1:=cC hz;rw[ht]at h1;have hk:=M.tree.rise.inj h1 (cC hx);obtain⟨_,h2⟩:=a1 q;rw[hk]at h2;refine⟨(ns.drop q).length,?_⟩;have h3:=M.walk_lev (ns.drop q) K0 (by rw[<-h2];exact w1);rw[<-h2,w2]at h3;exact h3
  cases ht
 rintro⟨i,hi⟩;obtain⟨q,hq,hq2⟩:=M.climb i ns K2 w1 w2 hd2 hi;refine⟨q,by simp;omega,?_⟩;unfold uI;rw[a0 q hq,hq2,hx];simp
theorem aXV (M :MayX S) (c:PCall) (hk:c.kind=11) (B b:Nat) (iv ov mv:Value) (ww:World) (hb:Blk ww b #[iv,ov,mv] 26) (ho:StOwn B ww iv ov mv S) (hB:B<=ww.heap.size) (hBb:B<=b):
 Calls prog 96 #[.pointer b,.agg #[c.kind,c.core,c.fd,c.off,c.num,c.path,c.path2,c.data]] ww (ByOut B b ww (iU S c PRes.zero)):=by
 rw[oK];have hp:=M.par c.path;rcases hpx:bW S c.path with q|⟨K,l⟩
 .rw[hpx]at hp;obtain⟨hq,D,nm,hpar⟩:=hp;exact aDI b S iv ov mv c.kind c.core c.fd c.off c.num c.path c.path2 c.data ww hb ho.read M.fineR (by omega) D nm q hpar hq
 rw [hpx] at hp;obtain⟨y,hpar,hy,hat1,hyd,hl⟩:=hp;simp only[hy];cases hh:bT y.ents l with
 | false=>have a0:=M.ent_miss hat1 hy hh;exact aDJ b S iv ov mv c.kind c.core c.fd c.off c.num c.path c.path2 c.data ww hb ho.read M.fineR (by omega) y.num l 0 hpar rfl a0
 | true =>
   obtain⟨e,he,hen0,hen,h0,hm⟩:=M.ent_hit hat1 hy hh;have a2:=mG hy;obtain⟨K0,x,hat,hx,hxn,_⟩:=M.kid a2 hm;simp only[Bool.true_eq_false,if_false,he];have key :∃X:Except Int PSt,(match bW S c.path2 with
    |.error k=>.error k
    | .ok (K2,t)=>if(rL S e.num&&jO S (aA c.path2).2 e.num)=true then .error 9 else vE S PRes.zero K y l e.num K2 t)=upX X/\∀(w2:World),Blk w2 b #[iv,ov,mv] 26->StOwn B w2 iv ov mv S->B<=w2.heap.size->
      Calls prog 127 #[.pointer b,.agg #[c.kind,c.core,c.fd,c.off,c.num,c.path,c.path2,c.data],y.num,l,e.num] w2 (RefOut B b w2 X):=by
    have a6:=M.par c.path2;rcases hpx2:bW S c.path2 with q|⟨K2,t⟩
    .rw[hpx2]at a6;obtain⟨hq,T,n2,hpar2⟩:=a6;exact⟨.error q,rfl,λw2 hb2 ho2 hB2=>aKP B b S iv ov mv c.kind c.core c.fd c.off c.num c.path c.path2 c.data l y.num e.num w2 hb2 ho2.read M.fineR T n2 q hpar2 hq⟩
    rw [hpx2]at a6;obtain⟨y2,hpar2,hy2,hat2,hy2d,hl2⟩:=a6;have a3:=mG hy2;have b2:=aDC (M.asc y a2) hh;have b3:=M.wf.2.2.2.1 y a2;have b4:(S.ents K y (dX l y.ents)).nums=S.nums:=nP hy _;have b6:Rise (S.ents K y (dX l y.ents)).nums:=by rw[b4];exact M.tree.rise
    have a4:bP (S.ents K y (dX l y.ents)) y2.num=K2:=by rw[<-bG b6,b4,bG M.tree.rise,hat2]
    have a7:(S.ents K y (dX l y.ents)).wf:=aLH M.wf hy (zD (length_filter_le _ _) b3.2.1) λz hz=>b3.2.2 z (mem_filter.1 hz).1;have b7:∀e∈y2.ents,e.name.size<=1000000000:=λe he=>by have:=M.tree.name y2 a3 e he;omega
    have a5:rL S e.num=x.dir:=by unfold rL;rw[bG M.tree.rise,hat,zJ,hx]
    have b8:eP S K2=true:=by unfold eP;rw[hy2];exact hy2d
    have a1:=M.thru hpx2 hx b8;rw[hxn]at a1;have a8:bV S 258 [K0]=[]:=by
     obtain⟨ns,_,_,w1,w2⟩:=aFG hpx;have h1:=M.walk_lev ns 0 w1;rw[w2]at h1;have h2:K0∈bV S (ns.length+1) [0]:=by rw[gZ];refine mem_flatMap.2 ⟨K,h1,?_⟩;rw[hU hy hyd];exact mem_map.2 ⟨e,hm,by rw[hat];rfl⟩
     have h3:bV S 258 (bV S (ns.length+1) [0])=[]:=by rw[<-wH,Nat.add_comm,wH,M.tree.ends,sY]
     exact aFF h3 h2
    obtain⟨W,hW,hWt⟩:∃W:Bool,(x.dir=true->∃n,iY S y2.num n e.num=some W)/\(x.dir=true->W=jO S (aA c.path2).2 e.num):=by
     cases hd:x.dir with
     |false=>exact⟨false,λh=>by(cases h),λh=>by(cases h)⟩
     | true=>obtain⟨B2,h1,h2⟩:=M.within_ hy2 hy2d 258 K0 x hx hd a8;rw[hxn]at h1;refine⟨B2,λ_=>⟨258,h1⟩,λ_=>?_⟩;apply Bool.eq_iff_iff.2;rw[h2,a1]
    obtain⟨z',hz'⟩:∃z',(S.ents K y (dX l y.ents)).ins[K2]? =some z':=by obtain⟨hl7,_⟩:=gI.1 hy2;exact⟨_,gE (by show K2<(S.ins.set K _).length;rw[yB];exact hl7)⟩
    refine⟨aUM S x W y2.num t (if y2.num=y.num then l else⟨#[]⟩) e.num y2 K y l K2 z',?_,λw2 hb2 ho2 hB2=>aKQ B b S iv ov mv c.kind c.core c.fd c.off c.num c.path c.path2 c.data l y.num e.num w2 hb2 ho2 hB2 hBb M.fineR y2.num t 0 hpar2 rfl K0 x hat hx W hW K y hat1 hy K2 y2 hat2 hy2 (by omega) b7 z' hz' a4 a7 _ rfl⟩;simp only;unfold aUM vE;rw[a5,hy2];have a9:(x.dir&&jO S (aA c.path2).2 e.num)=(x.dir&&W):=by
     cases hd:x.dir with
     |false=>rfl
     |true=>rw[hWt hd]
    rw[a9];by_cases ha:(x.dir&&W)=true
    .rw[zB ha,zB ha];rfl
    rw [zA ha,zA ha];simp only;cases hh2:bT y2.ents t with
    | true=>obtain⟨e2,_,_,hen2,h02,_⟩:=M.ent_hit hat2 hy2 hh2;rw[zB rfl,zB (by rw[hen2];exact h02)];rfl
    | false=>
      have a0:=M.ent_miss hat2 hy2 hh2;have b0:¬aX S y2.num t≠0:=by rw[a0];exact λh=>h rfl
      rw[zA (show ¬(false=true) by decide),zA b0];have b1:(if y.num=y2.num then l else(⟨#[]⟩:ByteArray))=if y2.num=y.num then l else⟨#[]⟩:=by
       by_cases h:y.num=y2.num
       .rw[zB h,zB h.symm]
       rw[zA h,zA (λe=>h e.symm)]
      rw[b1,nF];cases hF:fB y2.ents t (if y2.num=y.num then l else⟨#[]⟩)with
      |true=>rfl
      | false=>
        simp only[zP,if_false];unfold uB;rw[<-b2,hz'];have b5:Asc z'.ents/\bT z'.ents t=false:=by
         by_cases hKK:K2=K
         .subst hKK;rw[hy]at hy2;cases hy2;have h7:(S.ins.set K2 { y with ents:=dX l y.ents})[K2]? =some z':=hz';obtain⟨hl7,_⟩:=gI.1 hy;rw[zY hl7]at h7;cases h7;simp only;rw[b2];exact⟨aVB (M.asc y a2) _,aVC (M.asc y a2) hh2 _⟩
         have h7:(S.ins.set K { y with ents:=dX l y.ents})[K2]? =some z':=hz';rw[zX (λe2=>hKK e2.symm),hy2]at h7;cases h7;exact⟨M.asc y2 a3,hh2⟩
        rw[aAB b5.1 b5.2];rfl
   obtain⟨X,hX,hin⟩:=key;rw[hX];rw[hk]at hin |-;exact(aTD B b S iv ov mv c.core c.fd c.off c.num c.path c.path2 c.data ww hb ho hB hBb M.fineR y.num l 0 hpar rfl e.num hen h0 K0 x hat hx X (λw2 hw=>hin w2 (aB hb hw) (ho.on hw) (zD hB hw.size))).mono λe w' h=>h.up
end
section
def Good (X:Except Int (PSt × PRes)):Prop:=(∀k,X=.error k->k≠0)/\∀S' r,X=.ok (S',r)->r.code=0/\r.names=[]
theorem Good.err {k:Int} (h:k≠0):Good (.error k):=⟨λk' e=>(by cases e;exact h),λS' r e=>(by cases e)⟩
theorem Good.ok_ {S':PSt} {r:PRes} (h:r.code=0) (h2:r.names=[]):Good (.ok (S',r)):=⟨λk' e=>(by cases e),λS' r e=>(by cases e;exact⟨h,h2⟩)⟩
theorem Good.up {X:Except Int PSt} (h:∀k,X=.error k->k≠0):Good (upX X):=by
 rcases X with k|S'
 .exact .err (h k rfl)
 exact .ok_ rfl rfl
theorem Good.up2 {X:Except Int (PSt × PRes)} {q:Int} (h:Good X):(∀k,X=.error k->k≠0)/\∀S' r,X=.ok (S',r)->r.code=0/\(q≠12->r.names=[]):=⟨h.1,λS' r e=>⟨(h.2 S' r e).1,λ_=>(h.2 S' r e).2⟩⟩
variable {S:PSt}
theorem aHK (M:MayX S) (c:PCall) (hc0:0<=c.core) (hc1:c.core<S.made.length):Good (jW S c PRes.zero):=by
 rw[oI];have hp:=M.par c.path;rcases hpx:bW S c.path with q|⟨K,l⟩
 .rw[hpx]at hp;exact .err hp.1
 rw[hpx]at hp;obtain⟨y,hpar,hy,hat1,hyd,hl⟩:=hp;simp only[hy];by_cases hh:bT y.ents l=true
 .rw[zB hh];exact .err (by decide)
 rw[zA hh,gE (show c.core.toNat<S.made.length by omega)];simp only;split
 .exact .err (by decide)
 exact .ok_ rfl rfl
theorem aPI (M:MayX S) (c:PCall):Good (rX S c PRes.zero):=by
 rw[tB];have hf:=M.find_ c.path;rcases hat:rM S c.path with k|K
 .rw[hat]at hf;exact .err hf.1
 rw[hat]at hf;obtain⟨x,hn,hx,hK⟩:=hf;simp only[hx];split
 .exact .err (by decide)
 split
 .exact .err (by decide)
 exact .ok_ rfl rfl
theorem kA (c:PCall) (R:Except Int (PSt × PRes)) (hR:(c.kind=3/\R=mH S c PRes.zero)\/(c.kind=4/\R=rU S c PRes.zero)\/(c.kind=5/\R=lR S c PRes.zero)\/(c.kind=6/\R=lS S c PRes.zero)\/(c.kind=7/\R=rV S c PRes.zero)\/(c.kind=15/\R=mF S c PRes.zero)):Good R:=by
 rcases hR with⟨-,rfl⟩|⟨-,rfl⟩|⟨-,rfl⟩|⟨-,rfl⟩|⟨-,rfl⟩|⟨-,rfl⟩
 .unfold mH
  split
  .exact .err (by decide)
  exact .ok_ rfl rfl
 .unfold rU
  split
  .exact .err (by decide)
  split
  .exact .ok_ rfl rfl
  exact .err (by decide)
 .unfold lR
  split
  .exact .err (by decide)
  split
  .split
   .exact .err (by decide)
   exact .ok_ rfl rfl
  exact .err (by decide)
 .unfold lS
  split
  .exact .err (by decide)
  split
  .exact .ok_ rfl rfl
  exact .err (by decide)
 .unfold rV
  split
  .exact .err (by decide)
  exact .ok_ rfl rfl
 unfold mF;split
 .exact .err (by decide)
 exact .ok_ rfl rfl
theorem aPJ (M:MayX S) (c:PCall):Good (oC S c PRes.zero):=by
 unfold oC;have hf:=M.find_ c.path;rcases hat:rM S c.path with k|K
 .rw[hat]at hf;exact .err hf.1
 rw [hat]at hf;obtain⟨x,hn,hx,hK⟩:=hf;simp only[hx];split
 .exact .err (by decide)
 have hp:=M.par c.path2;rcases hpx:bW S c.path2 with q|⟨K1,l⟩
 .rw[hpx]at hp;exact .err hp.1
 rw[hpx]at hp;obtain⟨y,hpar,hy,hat1,hyd,hl⟩:=hp;unfold xK;simp only[hy];split
 .exact .err (by decide)
 split
 .exact .err (by decide)
 exact .ok_ rfl rfl
theorem aTS (M:MayX S) (c:PCall):Good (iP S c PRes.zero):=by
 unfold iP;have hp:=M.par c.path;rcases hpx:bW S c.path with q|⟨K,l⟩
 .rw[hpx]at hp;exact .err hp.1
 rw [hpx]at hp;obtain⟨y,hpar,hy,hat1,hyd,hl⟩:=hp;simp only[hy];cases hh:bT y.ents l with
 |false=>exact .err (by decide)
 | true=>
   obtain⟨e,he,hen0,hen,h0,hm⟩:=M.ent_hit hat1 hy hh;obtain⟨K0,x,hat,hx,hxn,_⟩:=M.kid (mG hy) hm;simp only[Bool.true_eq_false,if_false,he];unfold aKO;have a0:=nP hy (aM y.ents (cZ y.ents l));rw[a0,bG M.tree.rise,hat,zJ];obtain⟨z',hz'⟩:∃z',(S.ents K y (aM y.ents (cZ y.ents l))).ins[K0]? =some z':=by obtain⟨hl7,_⟩:=gI.1 hx;exact⟨_,gE (by show K0<(S.ins.set K _).length;rw[yB];exact hl7)⟩
   rw[hz'];simp only;split
   .split
    .exact .err (by decide)
    exact .ok_ rfl rfl
   split
   .exact .err (by decide)
   split
   .exact .err (by decide)
   exact .ok_ rfl rfl
theorem aTT (M:MayX S) (c:PCall):Good (iU S c PRes.zero):=by
 rw[oK];have hp:=M.par c.path;rcases hpx:bW S c.path with q|⟨K,l⟩
 .rw[hpx]at hp;exact .err hp.1
 rw [hpx]at hp;obtain⟨y,hpar,hy,hat1,hyd,hl⟩:=hp;simp only[hy];cases hh:bT y.ents l with
 |false=>exact .err (by decide)
 | true=>
   obtain⟨e,he,hen0,hen,h0,hm⟩:=M.ent_hit hat1 hy hh;simp only[Bool.true_eq_false,if_false,he];have a0:=M.par c.path2;rcases hpx2:bW S c.path2 with q|⟨K2,t⟩
   .rw[hpx2]at a0;exact .err a0.1
   rw [hpx2]at a0;obtain⟨y2,hpar2,hy2,hat2,hy2d,hl2⟩:=a0;show Good (if (rL S e.num&&jO S (aA c.path2).2 e.num)=true then .error 9 else vE S PRes.zero K y l e.num K2 t);by_cases hA:(rL S e.num&&jO S (aA c.path2).2 e.num)=true
   .rw[zB hA];exact .err (by decide)
   rw [zA hA];unfold vE;rw[hy2];simp only;split
   .exact .err (by decide)
   generalize fB y2.ents t _=F;cases F with
   |true=>exact .err (by decide)
   | false=>
     show Good (uB S PRes.zero K y l e.num K2 t);unfold uB;obtain⟨z',hz'⟩:∃z',(S.ents K y (aM y.ents (cZ y.ents l))).ins[K2]? =some z':=by obtain⟨hl7,_⟩:=gI.1 hy2;exact⟨_,gE (by show K2<(S.ins.set K _).length;rw[yB];exact hl7)⟩
     rw[hz'];exact .ok_ rfl rfl
theorem aPK (M:MayX S) (c:PCall) (hk:c.kind=12\/c.kind=13\/c.kind=14):(∀k,mS S c=.error k->k≠0)/\∀S' r,mS S c=.ok (S',r)->r.code=0/\(c.kind≠12->r.names=[]):=by
 rw[aBL hk];have hf:=M.find_ c.path;rcases hat:rM S c.path with k|K
 .rw[hat]at hf;exact Good.up2 (.err hf.1)
 rw [hat]at hf;obtain⟨x,hn,hx,hK⟩:=hf;simp only[hx];split
 .rename_i h12
  split
  .exact⟨λk e=>(by cases e),λS' r e=>(by cases e;exact⟨rfl,λh=>absurd h12 h⟩)⟩
  exact Good.up2 (.err (by decide))
 split
 .exact Good.up2 (.ok_ rfl rfl)
 split
 .exact Good.up2 (.err (by decide))
 exact Good.up2 (.ok_ rfl rfl)
theorem aHL (M:MayX S) (c:PCall) (hc0:0<=c.core) (hc1:c.core<S.made.length) (hk0:0<=c.kind) (hk1:c.kind<=16):(∀k,eM S c=.error k->k≠0)/\∀S' r,eM S c=.ok (S',r)->r.code=0/\(c.kind≠12->r.names=[]):=by
 unfold eM;by_cases k1:c.kind=0\/c.kind=1
 .rw[zB k1];exact Good.up2 (aHK M c hc0 hc1)
 rw[zA k1];by_cases k2:c.kind=2
 .rw[zB k2];exact Good.up2 (aPI M c)
 rw[zA k2];by_cases k3:c.kind=3
 .rw[zB k3];exact Good.up2 (kA c _ (.inl ⟨k3,rfl⟩))
 rw[zA k3];by_cases k4:c.kind=5
 .rw[zB k4];exact Good.up2 (kA c _ (.inr (.inr (.inl ⟨k4,rfl⟩))))
 rw[zA k4];by_cases k5:c.kind=6
 .rw[zB k5];exact Good.up2 (kA c _ (.inr (.inr (.inr (.inl ⟨k5,rfl⟩)))))
 rw[zA k5];by_cases k6:c.kind=8
 .rw[zB k6];exact Good.up2 (aPJ M c)
 rw[zA k6];by_cases k7:c.kind=9\/c.kind=10
 .rw[zB k7];exact Good.up2 (aTS M c)
 rw[zA k7];by_cases k8:c.kind=11
 .rw[zB k8];exact Good.up2 (aTT M c)
 rw[zA k8];by_cases k9:c.kind=15
 .rw[zB k9];exact Good.up2 (kA c _ (.inr (.inr (.inr (.inr (.inr ⟨k9,rfl⟩))))))
 rw[zA k9];by_cases k10:c.kind=16
 .rw[zB k10];exact Good.up2 (.ok_ rfl rfl)
 rw[zA k10];by_cases j4:c.kind=4
 .unfold mS;rw[zB j4];exact Good.up2 (kA c _ (.inr (.inl ⟨j4,rfl⟩)))
 by_cases j7:c.kind=7
 .unfold mS;rw[zA j4,zB j7];exact Good.up2 (kA c _ (.inr (.inr (.inr (.inr (.inl ⟨j7,rfl⟩))))))
 exact aPK M c (by omega)
theorem bAX (M:MayX S) (c:PCall) (hc0:0<=c.core) (hc1:c.core<S.made.length) (hk0:0<=c.kind) (hk1:c.kind<=16) (iv ov mv:Value) (w:World) (h:StRead w iv ov mv S) (hm:vB w 30 #[.agg #[iv,ov,mv]] (.bool true)):
 Calls prog 64 #[.agg #[iv,ov,mv],.agg #[c.kind,c.core,c.fd,c.off,c.num,c.path,c.path2,c.data],.int .i64 (-1)] w (DoOut w (aMO S (eM S c))):=by
 obtain⟨g1,g2⟩:=aHL M c hc0 hc1 hk0 hk1;refine bBT S iv ov mv c.kind c.core c.fd c.off c.num c.path c.path2 c.data w h M.wf hm hc0 hc1 hk0 hk1 (eM S c) g1 (λS' r e=>(g2 S' r e).1) (λS' r e=>(g2 S' r e).2) ?_ ?_ ?_ ?_ ?_ ?_
 .intro k B b iv' ov' mv' ww hb ho hB hBb;unfold eM;rw[zB k];exact bAA M c k hc0 hc1 B b iv' ov' mv' ww hb ho hB hBb
 .intro k B b iv' ov' mv' ww hb ho hB hBb;unfold eM;rw[zA (by omega),zB k];exact bAE M c B b iv' ov' mv' ww hb ho hB hBb
 .intro k B b iv' ov' mv' ww hb ho hB hBb;refine bAD M c (eM S c) ?_ B b iv' ov' mv' ww hb ho hB hBb;unfold eM;rw[zA (by omega),zA (by omega)];by_cases k3:c.kind=3
  .rw[zB k3];exact .inl ⟨k3,rfl⟩
  rw[zA k3];by_cases k5:c.kind=5
  .rw[zB k5];exact .inr (.inr (.inl ⟨k5,rfl⟩))
  rw[zA k5];by_cases k6:c.kind=6
  .rw[zB k6];exact .inr (.inr (.inr (.inl ⟨k6,rfl⟩)))
  rw[zA k6,zA (by omega),zA (by omega),zA (by omega)];by_cases k15:c.kind=15
  .rw[zB k15];exact .inr (.inr (.inr (.inr (.inr ⟨k15,rfl⟩))))
  rw[zA k15,zA (by omega)];unfold mS;by_cases k4:c.kind=4
  .rw[zB k4];exact .inr (.inl ⟨k4,rfl⟩)
  rw[zA k4,zB (by omega)];exact .inr (.inr (.inr (.inr (.inl ⟨by omega,rfl⟩))))
 .intro k B b iv' ov' mv' ww hb ho hB hBb;unfold eM;rw[zA (by omega),zA (by omega),zA (by omega),zA (by omega),zA (by omega)];by_cases k8:c.kind=8
  .rw[zB k8];exact aXT M c k8 B b iv' ov' mv' ww hb ho hB hBb
  rw[zA k8];by_cases k9:c.kind=9\/c.kind=10
  .rw[zB k9];exact aXU M c k9 B b iv' ov' mv' ww hb ho hB hBb
  rw[zA k9,zB (by omega)];exact aXV M c (by omega) B b iv' ov' mv' ww hb ho hB hBb
 .intro k iv' ov' mv' ww hh;unfold eM;rw[zA (by omega),zA (by omega),zA (by omega),zA (by omega),zA (by omega),zA (by omega),zA (by omega),zA (by omega),zA (by omega),zA (by omega)];exact aZZ M c (by omega) iv' ov' mv' ww hh
 intro k;unfold eM;rw[zA (by omega),zA (by omega),zA (by omega),zA (by omega),zA (by omega),zA (by omega),zA (by omega),zA (by omega),zA (by omega),zB k];rfl
theorem aTU {c:PCall} (h:fP S c=true):aMO S (eM S c)=kX S c:=by
 unfold kX doM aMO;rw[zB h];rcases eM S c with k|⟨S',r⟩<;>rfl
theorem aXL (hwf:S.wf) (c:PCall) (iv ov mv:Value) (w:World) (h:StRead w iv ov mv S) (hm:vB w 30 #[.agg #[iv,ov,mv]] (.bool (cO S))):
 Calls prog 31 #[.agg #[iv,ov,mv],.agg #[c.kind,c.core,c.fd,c.off,c.num,c.path,c.path2,c.data]] w λe w'=>Bl w w'/\aED w.heap.size (kX S c).1 (kX S c).2 e w':=by
 refine bBC (kX S c) S iv ov mv c.kind c.core c.fd c.off c.num c.path c.path2 c.data w h λww hb=>?_;have hr:=h.below hb (zC _);have a0:∀w3,Bl ww w3->vR w3 30 #[.agg #[iv,ov,mv]] (.bool (cO S)):=λw3 hb3=>hm w3 (hb.trans (hb3.mono hb.size));cases hc:fP S c with
 | true=>rw[<-aTU hc];unfold fP at hc;simp only[zE,zI]at hc;obtain⟨⟨⟨⟨k0,k1⟩,c0⟩,c1⟩,hM⟩:=hc;rw[hM]at a0;exact bAX (qF hwf hM) c c0 c1 k0 k1 iv ov mv ww hr a0
 | false=>
   have e:kX S c=(S,⟨9,0,0,false,⟨#[]⟩,[]⟩):=by unfold kX doM;rw[hc];rfl
   rw[e];refine bBD S iv ov mv c.kind c.core c.fd c.off c.num c.path c.path2 c.data ww hr hwf (cO S) a0 ?_;cases hM:cO S with
   |false=>exact .inl rfl
   | true=>unfold fP at hc;rw[hM]at hc;simp only[Bool.and_true,Bool.and_eq_false_iff,yW]at hc;simp only[Bool.true_eq_false,true_and,false_or];omega
end
section
theorem xJ:∀(r:List PKey) (p z:PKey),z∈r->z=p\/z∈gH p r
 | y ::r,p,z,h=>by
   unfold gH;rcases mem_cons.1 h with rfl|h
   .split
    .rename_i e
     exact .inl e
    exact .inr (by first|exact zQ|simp)
   rcases xJ r y z h with rfl|h
   .split
    .rename_i e
     exact .inl e
    exact .inr (by first|exact zQ|simp)
   split
   .rename_i e
    subst e;exact .inr (by first|exact h|simpa using h)
   exact .inr (by first|exact zL _ h|simp[h])
theorem aJM {l:List PKey} {z:PKey} (h:z∈l):z∈cE l:=by
 cases l with
 |nil=>cases h
 | cons x r=>
   unfold cE;rcases mem_cons.1 h with rfl|h
   .exact zQ
   rcases xJ r x z h with rfl|h
   .exact zQ
   exact zL _ h
variable {S:PSt} {c:PCall}
theorem aCO (h:(kX S c).2.code≠0):lA S c=[]:=by
 unfold lA jK;split
 .exact pX h
 rfl
theorem aJN (h:c.kind=4\/c.kind=7\/c.kind=12\/c.kind=13\/c.kind=14\/c.kind=15\/c.kind=16):lA S c=[]:=by
 unfold lA jK;split
 .have:cH S (kX S c).1 c=none:=by
   unfold cH;rw[zA (by omega),zA (by omega),zA (by omega),zA (by omega),zA (by omega),zA (by omega),zA (by omega)];rfl
  rw[this];exact nU _
 rfl
theorem aGV (h:c.kind=5) (h2:c.data.size=0):lA S c=[]:=by
 unfold lA jK;split
 .have:cH S (kX S c).1 c=none:=by
   unfold cH;rw[zA (by omega),zA (by omega),zA (by omega),zB h,zB h2];rfl
  rw[this];exact nU _
 rfl
end
section
def dZ (ks:List PKey) (k:PKey):List PKey:=if ks.any (λy=>decide (y=k))=true then ks else cT (λy=>nO k y) k ks false []
theorem vM {ks:List PKey} {k:PKey}:ks.any (λy=>decide (y=k))=true↔k∈ks:=by
 rw[any_eq_true];constructor
 .rintro⟨y,hy,e⟩;rw[zI]at e;rw[<-e];exact hy
 exact λh=>⟨k,h,decide_eq_true rfl⟩
theorem aSM {ks:List PKey} {k z:PKey}:z∈dZ ks k↔z=k\/z∈ks:=by
 unfold dZ;split
 .rename_i h
  rw[vM]at h;constructor
  .exact .inr
  rintro(rfl|h2)
  .exact h
  exact h2
 rw[qJ,eB]
theorem aWC {ks:List PKey} {k:PKey} (h:ks.Pairwise λx y=>nO x y=true):(dZ ks k).Pairwise λx y=>nO x y=true:=by
 unfold dZ;split
 .exact h
 rename_i hn;rw[vM]at hn;rw[qJ];refine aJP h (λi a hi ha=>?_) (λi a hi ha=>?_)
 .obtain⟨hl,rfl⟩:=gI.1 ha;have h1:=not_of_lt_findIdx hi;rcases kB ks[i] k with h2|h2|h2
  .exact h2
  .exact absurd (h2 ▸ getElem_mem hl) hn
  rw[h2]at h1;cases h1
 obtain⟨hl,rfl⟩:=gI.1 ha;have h0:ks.findIdx (λy=>nO k y)<ks.length:=by omega
 have h1:nO k ks[ks.findIdx (λy=>nO k y)]=true:=findIdx_getElem (w:=h0);by_cases e:ks.findIdx (λy=>nO k y)=i
 .subst e;exact h1
 exact gD h1 (pairwise_iff_getElem.1 h _ _ h0 hl (by omega))
theorem aGC:∀(l ks:List PKey) (z:PKey),z∈l.foldl dZ ks↔z∈ks\/z∈l
 |[],ks,z=>by simp
 | k ::r,ks,z=>by
   rw[foldl_cons,aGC r,aSM,mem_cons];constructor
   .rintro((h|h)|h)
    .exact .inr (.inl h)
    .exact .inl h
    exact .inr (.inr h)
   rintro(h|h|h)
   .exact .inl (.inr h)
   .exact .inl (.inl h)
   exact .inr h
theorem aLX:∀(l ks:List PKey),ks.Pairwise (λx y=>nO x y=true)->(l.foldl dZ ks).Pairwise λx y=>nO x y=true
 |[],ks,h=>h
 | k::r,ks,h=>by rw[foldl_cons];exact aLX r _ (aWC h)
theorem tP:∀(r:List PKey) (p z:PKey),z∈gH p r->z∈r
 |[],p,z,h=>by cases h
 | y ::r,p,z,h=>by
   unfold gH at h;split at h
   .exact zL _ (tP r p z h)
   rcases mem_cons.1 h with rfl|h
   .exact zQ
   exact zL _ (tP r y z h)
theorem aOG {l:List PKey} {z:PKey} (h:z∈cE l):z∈l:=by
 cases l with
 |nil=>cases h
 | cons x r=>
   unfold cE at h;rcases mem_cons.1 h with rfl|h
   .exact zQ
   exact zL _ (tP r x z h)
theorem aSN {x y:PKey} (h:vL x y=true) (hn:y≠x):nO x y=true:=by
 unfold vL at h;rw[yL]at h;rcases kB x y with h1|h1|h1
 .exact h1
 .exact absurd h1.symm hn
 rw[h1]at h;cases h
theorem tQ:∀(r:List PKey) (p:PKey),(p::r).Pairwise (λx y=>vL x y=true)->(gH p r).Pairwise (λx y=>nO x y=true)/\∀z∈gH p r,nO p z=true
 |[],p,_=>⟨List.Pairwise.nil,λz h=>by cases h⟩
 | y ::r,p,h=>by
   have h0:=h;rw[pairwise_cons,pairwise_cons]at h;obtain⟨hp,hy,hr⟩:=h;unfold gH;split
   .exact tQ r p (pairwise_cons.2 ⟨λz hz=>hp z (zL _ hz),hr⟩)
   rename_i hn;obtain⟨a1,a2⟩:=tQ r y (pairwise_cons.2 ⟨hy,hr⟩);have a0:=aSN (hp y zQ) hn;refine⟨pairwise_cons.2 ⟨a2,a1⟩,λz hz=>?_⟩;rcases mem_cons.1 hz with rfl|hz
   .exact a0
   exact gD a0 (a2 z hz)
theorem aOH {l:List PKey} (h:l.Pairwise λx y=>vL x y=true):(cE l).Pairwise λx y=>nO x y=true:=by
 cases l with
 |nil=>exact List.Pairwise.nil
 | cons x r=>obtain⟨a1,a2⟩:=tQ r x h;unfold cE;exact pairwise_cons.2 ⟨a2,a1⟩
theorem aGD {a b:List PKey} (ha:a.Pairwise λx y=>nO x y=true) (hb:b.Pairwise λx y=>nO x y=true) (h:∀z,z∈a↔z∈b):a=b:=by
 have key:∀l:List PKey,l.Pairwise (λx y=>nO x y=true)->l.Pairwise (λx y=>vL x y=true)/\l.Nodup:=λl hl=>by
  refine⟨hl.imp fun{x y} hxy=>?_,hl.imp fun{x y} hxy e=>?_⟩
  .unfold vL;rcases hyx:nO y x with _|_
   .rfl
   have:=gD hxy hyx;rw[kU]at this;cases this
  rw[e,kU]at hxy;cases hxy
 obtain⟨a1,a2⟩:=key a ha;obtain⟨b1,b2⟩:=key b hb;exact oY a b a1 b1 ((perm_ext_iff_of_nodup a2 b2).2 h)
def oB (S:PSt) (p:ByteArray):List PKey:=if(aA p).1≠0\/(aA p).2=[]then[]else
 (aQ S (aA p).2.dropLast 1 []).2.2.map (λd=>(⟨d,⟨#[46]⟩⟩:PKey))++if(aQ S (aA p).2.dropLast 1 []).2.1=0 then[⟨(aQ S (aA p).2.dropLast 1 []).1,⟨#[46]⟩⟩]else[]
def wX (S:PSt) (p:ByteArray):PKey:=⟨(bO S p).1,cG (bO S p).2.1⟩
def fY (S:PSt) (c:PCall):Bool:=if(kX S c).2.code≠0\/cO S=false then false else
 if c.kind=0\/c.kind=1\/c.kind=2\/c.kind=3\/c.kind=6\/c.kind=8\/c.kind=9\/c.kind=10\/c.kind=11 then true else if c.kind=5 then !decide (c.data=⟨#[]⟩)else false
def aGE (S:PSt) (c:PCall):Int:=if c.kind=0\/c.kind=1 then 2+c.core+8*S.made.getD c.core.toNat 0 else(eY S c.path).1
def aBH (S:PSt) (c:PCall):List PKey:=
 if c.kind=5\/c.kind=6\/c.kind=3 then[⟨oE S c.core c.fd,⟨#[]⟩⟩]else
 oB S c.path++((if c.kind=2 then[]else if c.kind=0\/c.kind=1 then[wX S c.path]else if c.kind=8 then oB S c.path2++[wX S c.path2]else if c.kind=11 then oB S c.path2++[wX S c.path,wX S c.path2]else[wX S c.path])++[⟨aGE S c,⟨#[]⟩⟩])
def wY (S:PSt) (c:PCall):List PKey:=if fY S c=true then(aBH S c).foldl dZ [⟨-1-c.core,⟨#[]⟩⟩]else[]
theorem mX (S:PSt):∀(ns:List ByteArray) (a:Int) (th:List Int),(aQ S ns a th).1=(aQ S ns a []).1/\(aQ S ns a th).2.1=(aQ S ns a []).2.1/\(aQ S ns a th).2.2=th++(aQ S ns a []).2.2
 |[],a,th=>⟨rfl,rfl,by simp[aQ]⟩
 | n ::r,a,th=>by
   unfold aQ;rcases S.ins[(bP S a).toNat]? with _|x
   .exact⟨rfl,rfl,by simp⟩
   simp only;split
   .split
    .exact⟨rfl,rfl,by simp⟩
    obtain⟨h1,h2,h3⟩:=mX S r (aX S a n) (th++[a]);obtain⟨g1,g2,g3⟩:=mX S r (aX S a n) ([]++[a]);rw[h1,h2,h3,g1,g2,g3];exact⟨rfl,rfl,by simp⟩
   exact⟨rfl,rfl,by simp⟩
theorem wZ (S:PSt):∀(ns:List ByteArray) (a:Int),(aQ S ns a []).2.1=0->(aQ S ns a []).2.2=(List.range ns.length).map (λk=>(aQ S (ns.take k) a []).1)/\∀k,(aQ S (ns.take k) a []).2.1=0
 |[],a,_=>⟨rfl,λk=>by rw[take_nil];rfl⟩
 | n ::r,a,h=>by
   have hu:=h;unfold aQ at hu |-;rcases hx:S.ins[(bP S a).toNat]? with _|x
   .rw[hx]at hu;cases hu
   rw[hx]at hu;simp only at hu |-;by_cases hd:x.dir=true;rotate_left
   .rw[zA hd]at hu;cases hu
   rw[zB hd]at hu |-;by_cases he:aX S a n=0
   .rw[zB he]at hu;cases hu
   rw[zA he]at hu |-;obtain⟨g1,g2,g3⟩:=mX S r (aX S a n) ([]++[a]);rw[g2]at hu;obtain⟨i1,i2⟩:=wZ S r (aX S a n) hu;have hs:∀k,aQ S ((n::r).take (k+1)) a []=aQ S (r.take k) (aX S a n) ([]++[a]):=λk=>by
    rw[take_succ_cons]
    conv=>lhs;unfold aQ
    rw[hx];simp only;rw[zB hd,zA he]
   refine⟨?_,λk=>?_⟩
   .rw[g3,i1,zK,range_succ_eq_map,xB,map_map];show[]++[a]++_=a::_;simp only[nil_append,singleton_append,List.cons.injEq,true_and];apply map_congr_left;intro k _;show _=(aQ S ((n::r).take (k+1)) a []).1;rw[hs];exact(mX S _ _ _).1.symm
   cases k with
   |zero=>rfl
   | succ k=>show(aQ S ((n::r).take (k+1)) a []).2.1=0;rw[hs,(mX S _ _ _).2.1];exact i2 k
section
variable {S:PSt}
theorem MayX.numW (M:MayX S) {ns:List ByteArray} (h:(aL S 0 ns).2=0):gP S (aL S 0 ns).1=(aQ S ns 1 []).1:=by obtain⟨h1,h2⟩:=M.walk0 ns;obtain⟨y,_,hy,hn⟩:=h2 h;unfold gP;rw[hy];exact hn
theorem kZ (M:MayX S) (hm:cO S=true) {p:ByteArray} (hp:jP p) (hw:(aL S 0 (aA p).2.dropLast).2=0):oB S p=gA S p/\kY S (aA p).2=(aQ S (aA p).2.dropLast 1 []).1:=by
 obtain⟨hp0,hne⟩:=hp;have hc:(aQ S (aA p).2.dropLast 1 []).2.1=0:=by rw[(M.walk0 _).1];exact hw
 obtain⟨t1,t2⟩:=wZ S _ 1 hc;have a1:(aA p).2.length=(aA p).2.dropLast.length+1:=by rw[length_dropLast];have:(aA p).2.length≠0:=λe=>hne (zT e);omega
 have a2:∀k,k<=(aA p).2.dropLast.length->(aA p).2.take k=(aA p).2.dropLast.take k:=λk hk=>by rw[dropLast_eq_take,take_take,Nat.min_eq_left (by rw[length_dropLast]at hk;omega)]
 have a0:∀k,k<=(aA p).2.dropLast.length->(eV S (eD ((aA p).2.take k)).1).1=(aQ S ((aA p).2.dropLast.take k) 1 []).1:=λk hk=>by rw[aOK hm hp0,a2 k hk];have hz:=t2 k;rw[(M.walk0 _).1]at hz;rw[zA (by rw[hz];decide),M.numW hz]
 constructor
 .unfold oB gA aBV;rw[zA (λh=>h.elim (λh=>h hp0) (λh=>hne h)),zB hc,t1,a1,range_succ,yS,map_map]
  congr 1
  .apply map_congr_left;intro k hk;rw[a0 k (by have:=mem_range.1 hk;omega)];rfl
  simp only[xB,map_nil];rw[a0 _ (zC _),take_length]
 unfold kY;rw[a0 _ (by rw[length_dropLast];omega)];congr 3;rw[length_dropLast.symm,take_length]
theorem gV {p:ByteArray} {x:Nat × ByteArray} (h:bW S p=.ok x):(aL S 0 (aA p).2.dropLast).2=0/\(aA p).2.getLastD ⟨#[]⟩=x.2/\(aL S 0 (aA p).2.dropLast).1=x.1:=by
 unfold bW at h;split at h
 .cases h
 unfold bC at h;rcases hl:(aA p).2.getLast? with _|l
 .rw[hl]at h;cases h
 rw[hl]at h;simp only at h;by_cases hw:(aL S 0 (aA p).2.dropLast).2=0
 .rw [zA (by simpa using hw)]at h;have hx:x=((aL S 0 (aA p).2.dropLast).1,l):=by
   split at h
   .split at h
    .simp only[Except.ok.injEq]at h;exact h.symm
    cases h
   cases h
  subst hx;exact⟨hw,by rw[getLastD_eq_getLast?,hl];rfl,rfl⟩
 rw[zB hw]at h;cases h
theorem xF (M:MayX S) (hm:cO S=true) {p:ByteArray} {x:Nat × ByteArray} (h:bW S p=.ok x):dH S p=gA S p++[wX S p]:=by
 obtain⟨hw,hl,_⟩:=gV h;have a1:=tJ h;have a0:=M.par p;rw[h]at a0;obtain⟨K,l⟩:=x;obtain⟨y,hpr,hy,hat,hd,_⟩:=a0;unfold dH wX;rw[(kZ M hm a1 hw).2,hl,hpr];have h2:(aQ S (aA p).2.dropLast 1 []).1=y.num:=by
  have h3:bO S p=(y.num,l,0):=hpr;unfold bO at h3;rw[eX]at h3;rw[zA (by simpa using a1.1)]at h3;rcases hg:(aA p).2.getLast? with _|g
  .rw[hg]at h3;simp only[Prod.mk.injEq]at h3;exact absurd h3.2.2 (by decide)
  rw[hg]at h3;simp only at h3;have hc:(aQ S (aA p).2.dropLast 1 []).2.1=0:=by rw[(M.walk0 _).1];exact hw
  rw[zA (by simpa using hc)]at h3;split at h3
  .split at h3
   .simp only[Prod.mk.injEq]at h3;exact h3.1
   simp only[Prod.mk.injEq]at h3;exact absurd h3.2.2 (by decide)
  simp only[Prod.mk.injEq]at h3;exact absurd h3.2.2 (by decide)
 rw[h2]
theorem aLY {p:ByteArray} {K:Nat} (h:rM S p=.ok K):(aL S 0 (aA p).2).2=0/\(aL S 0 (aA p).2).1=K/\(aA p).1=0:=by
 unfold rM at h;split at h
 .cases h
 rename_i hp;split at h
 .cases h
 rename_i hw;simp only[Except.ok.injEq]at h;exact⟨Decidable.of_not_not hw,h,Decidable.of_not_not hp⟩
theorem aCI (M:MayX S) {ns:List ByteArray} (h:(aL S 0 ns).2=0):(aL S 0 ns.dropLast).2=0:=by rw[<-(M.walk0 _).1]at h |-;rw[dropLast_eq_take];exact(wZ S ns 1 h).2 _
end
end
section
theorem aYX (k y:PKey):eA k.name y.name=decide (dJ k.name y.name<0):=by rw[pE,nE]
structure AL (w:World) (k:PKey) (zs:List PKey) (vx:Value) (wr:World):Prop where
 below:Bl w wr
 box:Blk wr w.heap.size #[k.num,k.name] 61
 out:OwnP (w.heap.size+1) wr 61 2 vx (zs.map PKey.cells)
variable {k:PKey} {vx:Value} {w wr:World} {zs:List PKey}
theorem AL.later {w':World} (h:AL w k zs vx wr) (hb:Bl wr w'):AL w k zs vx w':=
 ⟨h.below.trans (hb.mono h.below.size),h.box.below hb h.box.lt.lt,h.out.below hb⟩
theorem AL.more {y:PKey} {v':Value} {w1 w2:World} {R:List (List Value)} (h:AL w k zs vx wr) (hb:Bl wr w1) (hG:Grew (w.heap.size+1) 61 2 w1 vx R v' w2) (hR:R=(zs++[y]).map PKey.cells):AL w k (zs++[y]) v' w2:=by subst hR;have h1:=h.later hb;obtain⟨g1,g2,-⟩:=hG;have a0:=h1.box.lt.lt;refine⟨h1.below.trans (g2.below h1.below.size (λi hi hg=>by have:=h1.out.ge hg;omega)),g2.blk h1.box (λhg=>by have:=h1.out.ge hg;omega),g1⟩
theorem aPH {α:Type} (p:α->Bool) (x:α) (es:List α) (q:Nat) (e:α) (d:Bool) (zs:List α) (h:es[q]? =some e):cT p x (es.drop q) d zs=if d=true then cT p x (es.drop (q+1)) true (zs++[e])else if p e=true then cT p x (es.drop (q+1)) true (zs++[x]++[e])else cT p x (es.drop (q+1)) false (zs++[e]):=qI p x es q e d zs h
theorem aXK (ks:List PKey) (k:PKey) (va:Value) (B:Nat) (w:World) (ha:OwnP B w 61 2 va (ks.map PKey.cells)) (hB:B<=w.heap.size) (hkn:k.name.size<=1000000) (hl:ks.length<=1000000):
 Calls prog 42 #[va,.agg #[k.num,k.name]] w λe w'=>Bl w w'/\∃v,e=.returned v/\OwnP B w' 61 2 v ((dZ ks k).map PKey.cells):=by
 have a7:=fun(y:PKey) ww=>aFC k.name y.name (by omega) ww;obtain⟨aa,ca,rfl,hata⟩:=ha.row.at_;rw[lM]at ha |-;have HA:=aC hata;have HO:=aC ha;have HM:=aC a7;clear hata ha a7;go_in;go_wp2
 go_loopw[5,6,7] (λva vd vi wr=>∃(q:Nat) (zs:List PKey) (d:Bool) (vx:Value),vi=.int .i64 q/\vd=.bool d/\vx=va/\q<=ks.length/\(∀y∈ks.take q,y≠k)/\zs.length<=2*q/\cT (λy=>nO k y) k (ks.drop q) d zs=cT (λy=>nO k y) k ks false []/\AL w k zs vx wr) (λ_ _ vi _=>(ks.length-intOf vi).toNat)
 case atStart=>exact⟨0,[],false,_,rfl,rfl,rfl,by omega,λy hy=>(by simp at hy),by simp,rfl,bel w _,Blk.new _ _ _,.inl ⟨rfl,rfl⟩⟩
 case round=>
  obtain⟨q,zs,d,vx,rfl,rfl,rfl,hq,hno,hzl,hre,hal⟩:=hrel;have iB:Bel w wr:=⟨hal.below⟩;have z0:wr.cell? w.heap.size=some (.int .i64 k.num):=hal.box.cell 0;have z1:wr.cell? ⟨w.heap.size,1,none⟩=some (.string k.name):=hal.box.cell 1;have iK:=hal.box.lt;have b1:=hal.below.size;have HL:=aC hal;have HN:=bJ hno hzl;by_cases hlt:q<ks.length
  .obtain⟨y,hy⟩:=gAA hlt
   obtain⟨be,offe,rfl,iE0,iE,hce⟩:=HA.out wr hal.below q y.cells (by rw[gM,hy];rfl);have e0:=hce 0 _ rfl;have e1:=hce 1 _ rfl;rw[zN]at e0;rw[aPH _ _ _ _ _ _ _ hy]at hre;have g1:(q:Int)<ks.length:=by omega
   have HY:=bJ hy hre;have a5:y≠k->∀z∈ks.take (q+1),z≠k:=λb6 z hz=>by
    obtain⟨i,hi,hzi⟩:=aCT hz;by_cases e:i=q
    .subst e;rw[hy]at hzi;cases hzi;exact b6
    exact hno z (mG (i:=i) (by rw[yO,zB (by omega)];exact hzi))
   have HS:=aC a5;clear hce hno hzl hal a5 hre;by_cases hyk:y=k
   .have n1:∀ww,(binOp .eql 61 (.agg #[y.num,y.name]) (.agg #[k.num,k.name])).run prog ww=.ok (.bool true) ww:=λww=>by rw[aFN,decide_eq_true hyk]
    clear hy;go_wp2;refine qR ?_
    repeat(go_big_quiet_step (fail))
    refine QN λp=>?_;go_wp2;go_ret;have a4:dZ ks k=ks:=by unfold dZ;rw[zB (vM.2 (by rw[<-hyk];exact mG HY.out.1))]
    refine⟨HL.out.below.trans ((bel wr _).mono b1),_,rfl,?_⟩;rw[a4];exact HO.out.keep (Keep.of_below (HL.out.below.trans ((bel wr _).mono b1)) (λ_=>False)) (λ_ _ h=>h)

   have n1:∀ww,(binOp .eql 61 (.agg #[y.num,y.name]) (.agg #[k.num,k.name])).run prog ww=.ok (.bool false) ww:=λww=>by rw[aFN,yM hyk]
   have a8:=HS.out hyk;have a9:=aC a8;clear a8 hy

   go_wp2;refine qR ?_
   repeat(go_big_quiet_step (fail))
   refine QN λp=>?_;obtain⟨ax,nx,cx,rfl⟩:=HL.out.out.form;rcases d with _|_;rotate_left
   .go_wp2;refine qR ?_
    repeat(go_big_quiet_step (fail))
    refine QN λp=>?_;go_wp2_with(at_builtin;refine oV rfl _ _ rfl (w.heap.size+1) (.slice ax nx cx) (.slice (some ⟨_,0,none⟩) 1 1) zs [y] rfl (by go_simp) (AL.out (AL.later HL.out (by exact bel wr _))) (dD (t:=61) (Blk.new _ _ _) rfl (by decide) (kD rfl)) (by have:=HN.out.2;simp;omega) (by simp;omega) ?_);intro v' w2 hG;have a0:AL w k (zs++[y]) v' w2:=AL.more HL.out (by exact bel wr _) hG (by simp);obtain⟨a',n',c',rfl⟩:=a0.out.form;have a2:=aC a0;clear a0 hG;go_wp2;go_roundw
    case rel=>exact⟨q+1,zs++[y],true,_,by go_num,rfl,rfl,by omega,a9.out,by have:=HN.out.2;simp;omega,by have:=HY.out.2;(first|rw[zB rfl]at this|rw[zB trivial]at this);exact this,a2.out⟩
    simp[intOf];omega
   by_cases hgt:k.num<y.num
   .have a6:nO k y=true:=lJ.2 (.inl hgt);have b8:decide (k.num<y.num)=true:=decide_eq_true hgt;go_wp2;refine qR ?_
    repeat(go_big_quiet_step (fail))
    refine QN λp=>?_;go_wp2_with(at_builtin;refine oV rfl _ _ rfl (w.heap.size+1) (.slice ax nx cx) (.slice (some ⟨_,0,none⟩) 1 1) zs [k] rfl (by go_simp) (AL.out (AL.later HL.out (by exact bel wr _))) (dD (t:=61) (Blk.new _ _ _) rfl (by decide) (kD rfl)) (by have:=HN.out.2;simp;omega) (by simp;omega) ?_);intro v' w2 hG;have a0:AL w k (zs++[k]) v' w2:=AL.more HL.out (by exact bel wr _) hG (by simp);obtain⟨a',n',c',rfl⟩:=a0.out.form;have a2:=aC a0;have b9:Bel w w2:=⟨a0.below⟩;have b2:=a0.below.size;have b3:=a0.box.lt.lt;obtain⟨bf,off2,heq,-,iF,hcf⟩:=HA.out w2 a0.below q y.cells (by rw[gM,HY.out.1];rfl);simp only[zF,yG,and_true]at heq;obtain⟨rfl,rfl⟩:=heq;have f0:=hcf 0 _ rfl;have f1:=hcf 1 _ rfl;rw[zN]at f0;clear a0 hG hcf;go_wp2_with(at_builtin;refine oV rfl _ _ rfl (w.heap.size+1) (.slice a' n' c') (.slice (some ⟨_,0,none⟩) 1 1) (zs++[k]) [y] rfl (by go_simp) (AL.out (AL.later a2.out (by exact bel w2 _))) (dD (t:=61) (Blk.new _ _ _) rfl (by decide) (kD rfl)) (by have:=HN.out.2;simp;omega) (by simp;omega) ?_);intro v3 w3 hG3;have a1:AL w k (zs++[k]++[y]) v3 w3:=AL.more a2.out (by exact bel w2 _) hG3 (by simp);obtain⟨a3,n3,c3,rfl⟩:=a1.out.form;have b4:=aC a1;clear a1 hG3;go_wp2;go_roundw
    case rel=>exact⟨q+1,zs++[k]++[y],true,_,by go_num,rfl,rfl,by omega,a9.out,by have:=HN.out.2;simp;omega,by have:=HY.out.2;(rw [zA (by decide),zB a6]at this);exact this,b4.out⟩
    simp[intOf];omega
   have b8:decide (k.num<y.num)=false:=yM hgt;rcases hen:(y.num==k.num)with _|_
   .have b6:y.num≠k.num:=by simpa using hen
    have a6:¬nO k y=true:=λh=>by rcases lJ.1 h with h|h<;>omega
    go_wp2;refine qR ?_
    repeat(go_big_quiet_step (fail))
    refine QN λp=>?_;clear hen;go_wp2_with(at_builtin;refine oV rfl _ _ rfl (w.heap.size+1) (.slice ax nx cx) (.slice (some ⟨_,0,none⟩) 1 1) zs [y] rfl (by go_simp) (AL.out (AL.later HL.out (by exact bel wr _))) (dD (t:=61) (Blk.new _ _ _) rfl (by decide) (kD rfl)) (by have:=HN.out.2;simp;omega) (by simp;omega) ?_);intro v' w2 hG;have a0:AL w k (zs++[y]) v' w2:=AL.more HL.out (by exact bel wr _) hG (by simp);obtain⟨a',n',c',rfl⟩:=a0.out.form;have a2:=aC a0;clear a0 hG;go_wp2;go_roundw
    case rel=>exact⟨q+1,zs++[y],false,_,by go_num,rfl,rfl,by omega,a9.out,by have:=HN.out.2;simp;omega,by have:=HY.out.2;(rw [zA (by decide),zA a6]at this);exact this,a2.out⟩
    simp[intOf];omega
   have b5:y.num=k.num:=by simpa using hen
   have hc:=HM.out y;rw[aYX]at hc;rcases hb1:decide (dJ k.name y.name<0)with _|_
   .have a6:¬nO k y=true:=λh=>by
     rcases lJ.1 h with h|h
     .omega
     exact of_decide_eq_false hb1 h.2
    rw[hb1]at hc;go_wp2;refine qR ?_
    repeat(go_big_quiet_step ((first|refine cI (hc _)|refine cJ (hc _))))
    refine QN λp=>?_;clear b5;clear hen;go_wp2_with(at_builtin;refine oV rfl _ _ rfl (w.heap.size+1) (.slice ax nx cx) (.slice (some ⟨_,0,none⟩) 1 1) zs [y] rfl (by go_simp) (AL.out (AL.later HL.out (by exact bel wr _))) (dD (t:=61) (Blk.new _ _ _) rfl (by decide) (kD rfl)) (by have:=HN.out.2;simp;omega) (by simp;omega) ?_);intro v' w2 hG;have a0:AL w k (zs++[y]) v' w2:=AL.more HL.out (by exact bel wr _) hG (by simp);obtain⟨a',n',c',rfl⟩:=a0.out.form;have a2:=aC a0;clear a0 hG;go_wp2;go_roundw
    case rel=>exact⟨q+1,zs++[y],false,_,by go_num,rfl,rfl,by omega,a9.out,by have:=HN.out.2;simp;omega,by have:=HY.out.2;(rw [zA (by decide),zA a6]at this);exact this,a2.out⟩
    simp[intOf];omega
   have a6:nO k y=true:=lJ.2 (.inr ⟨b5.symm,of_decide_eq_true hb1⟩);rw[hb1]at hc;go_wp2;refine qR ?_
   repeat(go_big_quiet_step ((first|refine cI (hc _)|refine cJ (hc _))))
   refine QN λp=>?_;clear b5;clear hen;go_wp2_with(at_builtin;refine oV rfl _ _ rfl (w.heap.size+1) (.slice ax nx cx) (.slice (some ⟨_,0,none⟩) 1 1) zs [k] rfl (by go_simp) (AL.out (AL.later HL.out (by exact bel wr _))) (dD (t:=61) (Blk.new _ _ _) rfl (by decide) (kD rfl)) (by have:=HN.out.2;simp;omega) (by simp;omega) ?_);intro v' w2 hG;have a0:AL w k (zs++[k]) v' w2:=AL.more HL.out (by exact bel wr _) hG (by simp);obtain⟨a',n',c',rfl⟩:=a0.out.form;have a2:=aC a0;have b9:Bel w w2:=⟨a0.below⟩;have b2:=a0.below.size;have b3:=a0.box.lt.lt;obtain⟨bf,off2,heq,-,iF,hcf⟩:=HA.out w2 a0.below q y.cells (by rw[gM,HY.out.1];rfl);simp only[zF,yG,and_true]at heq;obtain⟨rfl,rfl⟩:=heq;have f0:=hcf 0 _ rfl;have f1:=hcf 1 _ rfl;rw[zN]at f0;clear a0 hG hcf;go_wp2_with(at_builtin;refine oV rfl _ _ rfl (w.heap.size+1) (.slice a' n' c') (.slice (some ⟨_,0,none⟩) 1 1) (zs++[k]) [y] rfl (by go_simp) (AL.out (AL.later a2.out (by exact bel w2 _))) (dD (t:=61) (Blk.new _ _ _) rfl (by decide) (kD rfl)) (by have:=HN.out.2;simp;omega) (by simp;omega) ?_);intro v3 w3 hG3;have a1:AL w k (zs++[k]++[y]) v3 w3:=AL.more a2.out (by exact bel w2 _) hG3 (by simp);obtain⟨a3,n3,c3,rfl⟩:=a1.out.form;have b4:=aC a1;clear a1 hG3;go_wp2;go_roundw
   case rel=>exact⟨q+1,zs++[k]++[y],true,_,by go_num,rfl,rfl,by omega,a9.out,by have:=HN.out.2;simp;omega,by have:=HY.out.2;(rw [zA (by decide),zB a6]at this);exact this,b4.out⟩
   simp[intOf];omega
  have b7:q=ks.length:=by omega
  have b0:¬ks.any (λy=>decide (y=k))=true:=λh=>hno k (by rw[b7,take_length];exact vM.1 h) rfl;have a4:dZ ks k=if d=true then zs else zs++[k]:=by unfold dZ;rw[zA b0,<-hre,b7,drop_length];rfl
  have HD:=aC a4;obtain⟨ax,nx,cx,rfl⟩:=hal.out.form;clear hre hno hzl hal a4 b0;rcases d with _|_
  .go_wp2_with(at_builtin;refine oV rfl _ _ rfl (w.heap.size+1) (.slice ax nx cx) (.slice (some ⟨_,0,none⟩) 1 1) zs [k] rfl (by go_simp) (AL.out (AL.later HL.out (by exact bel wr _))) (dD (t:=61) (Blk.new _ _ _) rfl (by decide) (kD rfl)) (by have:=HN.out.2;simp;omega) (by simp;omega) ?_)
   intro v' w2 hG;have a0:AL w k (zs++[k]) v' w2:=AL.more HL.out (by exact bel wr _) hG (by simp);obtain⟨a',n',c',rfl⟩:=a0.out.form;have a2:=aC a0;clear a0 hG;go_wp2;go_ret;refine⟨a2.out.below,(.slice a' n' c'),rfl,?_⟩;have:=HD.out;rw[zA (by decide)]at this;rw[this];exact a2.out.out.mono (by omega)
  go_wp2;go_ret;refine⟨HL.out.below.trans ((bel wr _).mono b1),(.slice ax nx cx),rfl,?_⟩;have:=HD.out
  first|rw[zB rfl]at this|rw[zB trivial]at this
  rw[this];exact(HL.out.out.keep (Keep.of_below (bel wr _) (λ_=>False)) (λ_ _ h=>h)).mono (by omega)
end
section
theorem aCJ (S:PSt):∀(ns:List ByteArray) (a:Int) (th:List Int),(aQ S ns a th).2.1≠0->(aQ S ns a th).1=0
 |[],a,th,h=>absurd rfl h
 | n ::r,a,th,h=>by
   unfold aQ at h |-;rcases hx:S.ins[(bP S a).toNat]? with _|x
   .rfl
   rw [hx]at h;simp only at h |-;split
   .rename_i hd
    rw[zB hd]at h;split
    .rfl
    rename_i he;rw[zA he]at h;exact aCJ S r _ _ h
   rfl
section
variable {S:PSt}
theorem mY (M:MayX S) (hm:cO S=true) (p:ByteArray):(eV S p).1=(eY S p).1:=by
 unfold eV eY;rw[eX,zB hm];by_cases hp:(aA p).1=0
 .have a0:¬(aA p).1≠0:=by simpa using hp
  rw[zA a0,zA a0];by_cases hw:(aL S 0 (aA p).2).2=0
  .have a1:¬(aL S 0 (aA p).2).2≠0:=by simpa using hw
   rw[zA a1];exact M.numW hw
  rw[zB hw,aCJ S _ 1 [] (by rw[(M.walk0 _).1];exact hw)]
 rw[zB hp,zB hp]
theorem MayX.ent_num (M:MayX S) {x:PIn} (hx:x∈S.ins) {e:PEnt} (he:e∈x.ents):aX S x.num e.name=e.num/\e.num≠0:=by
 obtain⟨k,hk⟩:=getElem?_of_mem hx;obtain⟨i,hi⟩:=getElem?_of_mem he;have ha:=M.asc x hx;obtain⟨h1,h2⟩:=aEW ha hi rfl;refine⟨?_,?_⟩
 .rw[tY S (cS M.tree.rise hk) hk,aHJ ha h2 (by rw[<-h1];exact hi)]
 obtain⟨_,_,_,_,_,h0⟩:=M.kid hx he;exact h0
theorem MayX.walk_on (M:MayX S) {x:PIn} (hx:x∈S.ins) (hd:x.dir=true) {e:PEnt} (he:e∈x.ents) (r:List ByteArray) (th:List Int):aQ S (e.name::r) x.num th=aQ S r e.num (th++[x.num]):=by
 obtain⟨k,hk⟩:=getElem?_of_mem hx;obtain⟨h1,h2⟩:=M.ent_num hx he
 conv=>lhs;unfold aQ
 rw[cS M.tree.rise hk,zJ,hk];simp only;rw[zB hd,h1,zA h2]
theorem aCK:∀(ns:List ByteArray) (a:Int) (th:List Int) (l:ByteArray),(aQ S ns a th).2.1=0->∃th',aQ S (ns++[l]) a th=aQ S [l] (aQ S ns a th).1 th'
 |[],a,th,l,_=>⟨th,rfl⟩
 | n::r,a,th,l,h=>by
   have hu:=h;unfold aQ at hu;rcases hx:S.ins[(bP S a).toNat]? with _|x
   .rw[hx]at hu;cases hu
   rw[hx]at hu;simp only at hu;by_cases hd:x.dir=true;rotate_left
   .rw[zA hd]at hu;cases hu
   rw[zB hd]at hu;by_cases he:aX S a n=0
   .rw[zB he]at hu;cases hu
   rw[zA he]at hu;obtain⟨th',h2⟩:=aCK r (aX S a n) (th++[a]) l hu;refine⟨th',?_⟩;rw[cons_append]
   conv=>lhs;unfold aQ
   conv=>rhs;arg 3;unfold aQ
   rw[hx];simp only;rw[zB hd,zA he,zB hd,zA he];exact h2
theorem aCL {S':PSt} (M:MayX S) (M':MayX S') (hk:∀y∈S.ins,∃y'∈S'.ins,y'.num=y.num/\y'.dir=y.dir/\∀e∈y.ents,e∈y'.ents):∀(ns:List ByteArray) (x:PIn),x∈S.ins->∀th th',(aQ S ns x.num th).2.1=0->(aQ S' ns x.num th').1=(aQ S ns x.num th).1/\(aQ S' ns x.num th').2.1=0
 |[],x,hx,th,th',_=>⟨rfl,rfl⟩
 | n::r,x,hx,th,th',h=>by
   obtain⟨k,hkk⟩:=getElem?_of_mem hx;have a0:=cS M.tree.rise hkk;have hu:=h;unfold aQ at hu;rw[a0,zJ,hkk]at hu;simp only at hu;by_cases hd:x.dir=true;rotate_left
   .rw[zA hd]at hu;cases hu
   rw[zB hd]at hu;by_cases he:aX S x.num n=0
   .rw[zB he]at hu;cases hu
   have hh:bT x.ents n=true:=by
    cases hq:bT x.ents n with
    |true=>rfl
    |false=>exact absurd (M.ent_miss a0 hkk hq) he
   obtain⟨e,_,hen,_,_,hem⟩:=M.ent_hit a0 hkk hh;obtain⟨x',hx',n1,n2,n3⟩:=hk x hx;obtain⟨_,y,_,hy,hyn,_⟩:=M.kid hx hem;subst hen;have e2:=M'.walk_on hx' (by rw[n2];exact hd) (n3 e hem) r th';rw[n1]at e2;rw[M.walk_on hx hd hem]at h |-;rw[e2];rw[<-hyn]at h |-;exact aCL M M' hk r y (mG hy) _ _ h
theorem aOI (M:MayX S) (Q:MayQ S) (c:PCall) {K:Nat} {x:PIn} {l:ByteArray} {m:Int} (hc0:0<=c.core) (hc1:c.core<S.made.length) (hpo:jP c.path) (hpx:bW S c.path=.ok (K,l)) (hx:S.ins[K]? =some x) (hd:x.dir=true) (hh:bT x.ents l=false) (hf:fB x.ents l ⟨#[]⟩=false) (hm:S.made[c.core.toNat]? =some m) (h32:m<32) (hwf:(dF S c K x l m).wf):MayQ (dF S c K x l m)/\(eV (dF S c K x l m) c.path).1=2+c.core+8*m:=by
 have a7:=M.cores;obtain⟨hw,hlast,hwk⟩:=gV hpx;have a1:(aA c.path).2.getLastD ⟨#[]⟩=l:=hlast;have b0:=hpo.2;have a0:(aA c.path).2=(aA c.path).2.dropLast++[l]:=by rw[<-a1,getLastD_eq_getLast?,getLast?_eq_some_getLast b0];exact(dropLast_concat_getLast b0).symm
 have hl:dP l=true:=(uS hpo.1).1 l (by rw[a0];simp);have b2:c.core=(c.core.toNat:Nat):=by omega
 have hQ:=aTA M Q c b2 (by omega) hx hd hl hh hf hm h32 hwf;refine⟨hQ,?_⟩;have b1:=hQ.may;have M':=qF hwf b1;rw[mY M' b1];have h0:=(M.made m (mG hm)).1;obtain⟨Kl,_⟩:=gI.1 hx;have b5:=mG hx;obtain⟨x',hx'⟩:∃x':PIn,x'={ x with ents:=aY x.ents (cZ x.ents l) ⟨l,2+c.core+8*m⟩}:=⟨_,rfl⟩;have a2:(dF S c K x l m).ins=aY (S.ins.set K x') (lQ S.nums (2+c.core+8*m)) ⟨2+c.core+8*m,c.kind==1,[],⟨#[]⟩⟩:=by unfold dF PSt.ents;simp only;rw[hx']
 have a3:x'∈(dF S c K x l m).ins:=by rw[a2,eB];exact .inr (mG (i:=K) (by rw[zY Kl]))
 have a4:∀y∈S.ins,∃y'∈(dF S c K x l m).ins,y'.num=y.num/\y'.dir=y.dir/\∀e∈y.ents,e∈y'.ents:=λy hy=>by
  obtain⟨i,hi⟩:=getElem?_of_mem hy;by_cases e:K=i
  .subst e;rw[hx]at hi;cases hi;exact⟨x',a3,by rw[hx'],by rw[hx'],λe he=>by rw[hx'];exact eB.2 (.inr he)⟩
  exact⟨y,by rw[a2,eB];exact .inr (mG (i:=i) (by rw[zX e];exact hi)),rfl,rfl,λe he=>he⟩
 have a8:(⟨l,2+c.core+8*m⟩:PEnt)∈x'.ents:=by rw[hx'];exact eB.2 (.inl rfl)
 have a5:=M.par c.path;rw[hpx]at a5;obtain⟨y,hpr,hy,hat,_,_⟩:=a5;rw[hx]at hy;cases hy;have a6:(aQ S (aA c.path).2.dropLast 1 []).2.1=0:=by rw[(M.walk0 _).1];exact hw
 have a9:(aQ S (aA c.path).2.dropLast 1 []).1=x.num:=by rw[<-M.numW hw,hwk];unfold gP;rw[hx]
 generalize dF S c K x l m=S' at *;obtain⟨x0,hx0,h01,_⟩:=M.head;have hg:=aCL M M' a4 (aA c.path).2.dropLast x0 (mG hx0) [] [] (by rw[h01];exact a6);rw[h01,a9]at hg;obtain⟨th',h2⟩:=aCK (S:=S') (aA c.path).2.dropLast 1 [] l hg.2;unfold eY;rw[eX,zA (by simpa using hpo.1),a0,h2,hg.1];have b3:x'.num=x.num:=by rw[hx']
 have b4:x'.dir=true:=by rw[hx'];exact hd
 have:=M'.walk_on a3 b4 a8 [] th';rw[b3]at this;show(aQ S' [l] x.num th').1=_;rw[this];rfl
theorem aSO (hwf:S.wf) (c:PCall):wY S c=lA S c:=by
 by_cases h0:(kX S c).2.code=0;rotate_left
 .rw[aCO h0];have ht:fY S c=false:=by
   unfold fY;rw[zB (Or.inl h0)]
  unfold wY;rw[ht];rfl
 obtain⟨hmc,hrun⟩:=aIT h0;obtain⟨hm,hc0,hc1⟩:=mQ hmc;have hk:0<=c.kind/\c.kind<=16:=by unfold fP at hmc;simp only[zE,zI]at hmc;exact hmc.1.1.1
 have M:=qF hwf hm;have Q:=aWI hwf hm;obtain⟨hg,_⟩:=aHL M c hc0 hc1 hk.1 hk.2;obtain⟨y,hy,hdy⟩:∃y,eM S c=.ok y/\kX S c=y:=by
  rcases hrun with h|⟨h,_⟩
  .exact h
  exact absurd rfl (hg 0 h)
 have ok:=aBU hwf h0;have a8:¬((kX S c).2.code≠0\/cO S=false):=by
  rintro(h|h)
  .exact h h0
  rw[hm]at h;cases h
 by_cases hl:c.kind=4\/c.kind=7\/c.kind=12\/c.kind=13\/c.kind=14\/c.kind=15\/c.kind=16
 .rw[aJN hl];have ht:fY S c=false:=by
   unfold fY;rw[zA a8,zA (by omega),zA (by omega)]
  unfold wY;rw[ht];rfl
 by_cases he:c.kind=5/\c.data.size=0
 .rw[aGV he.1 he.2];have hd:c.data=⟨#[]⟩:=by
   apply ByteArray.ext;exact Array.eq_empty_of_size_eq_zero he.2
  have ht:fY S c=false:=by unfold fY;rw[zA a8,zA (by omega),zB he.1,decide_eq_true hd];rfl
  unfold wY;rw[ht];rfl
 have ht:fY S c=true:=by
  unfold fY;rw[zA a8];by_cases h5:c.kind=5
  .rw[zA (by omega),zB h5];have hd:c.data≠⟨#[]⟩:=λe=>he ⟨h5,by rw[e];rfl⟩
   rw[yM hd];rfl
  rw[zB (by omega)]
 have key:∃l,cH S (kX S c).1 c=some l/\∀z,z∈l↔z=⟨-1-c.core,⟨#[]⟩⟩\/z∈aBH S c:=by
  by_cases k3:c.kind=5\/c.kind=6\/c.kind=3
  .have ho:fG S c=[⟨oE S c.core c.fd,⟨#[]⟩⟩]:=by
    have b2:=ok.fd (by omega);have b3:cV (eW c) S.op=bQ (λd:PDesc=>(d.core==c.core)&&(d.fd==c.fd)) S.op 0:=rfl;unfold fG oE;rcases wD c.core c.fd S.op 0 with⟨h1,h2,h3⟩|⟨I,d,h1,h2,h3,h4⟩
    .rw[b3,h2]at b2;exact absurd b2 (by decide)
    rw[b3,h4,zM,zJ,h1,h3]
   refine⟨fG S c++[⟨-1-c.core,⟨#[]⟩⟩],?_,λz=>?_⟩
   .unfold cH;by_cases k5:c.kind=5
    .rw[zA (by omega),zA (by omega),zA (by omega),zB k5,zA (λe=>he ⟨k5,e⟩)];rfl
    rw[zA (by omega),zA (by omega),zB (by omega)];rfl
   unfold aBH;rw[zB k3,ho];simp only[cons_append,nil_append,mem_cons,not_mem_nil,or_false];exact⟨λh=>h.symm,λh=>h.symm⟩
  by_cases k2:c.kind=2
  .have a5:∃K,rM S c.path=.ok K:=by
    unfold eM at hy;rw[zA (by omega),zB k2,tB]at hy;rcases ha:rM S c.path with k|K
    .rw[ha]at hy;cases hy
    exact⟨K,rfl⟩
   obtain⟨K,hK⟩:=a5;obtain⟨a1,a2,a3⟩:=aLY hK;have a0:=ok.path (by omega);have a4:=(kZ M hm a0 (aCI M a1)).1;refine⟨gA S c.path++cP S c.path++[⟨-1-c.core,⟨#[]⟩⟩],?_,λz=>?_⟩
   .unfold cH;rw[zA (by omega),zB k2];rfl
   unfold aBH cP aGE;rw[zA k3,zB k2,zA (by omega),a4,mY M hm];simp only[yR,mem_cons,not_mem_nil,or_false,nil_append];simp only[or_assoc,or_comm,or_left_comm]
  by_cases k8:c.kind=8
  .have a5:∃K x2,rM S c.path=.ok K/\bW S c.path2=.ok x2:=by
    unfold eM at hy;rw[zA (by omega),zA (by omega),zA (by omega),zA (by omega),zA (by omega),zB k8]at hy;unfold oC at hy;rcases ha:rM S c.path with k|K
    .rw[ha]at hy;cases hy
    rw[ha]at hy;simp only at hy;rcases hx:S.ins[K]? with _|x
    .rw[hx]at hy;cases hy
    rw[hx]at hy;simp only at hy;split at hy
    .cases hy
    rcases hp2:bW S c.path2 with k|x2
    .rw[hp2]at hy;cases hy
    exact⟨K,x2,rfl,rfl⟩
   obtain⟨K,x2,hK,hp2⟩:=a5;obtain⟨a1,a2,a3⟩:=aLY hK;have a0:=ok.path (by omega);have a6:=ok.path2 (by omega);have a4:=(kZ M hm a0 (aCI M a1)).1;have a9:=(kZ M hm a6 (gV hp2).1).1;have b0:=xF M hm hp2;refine⟨gA S c.path++dH S c.path2++cP S c.path++[⟨-1-c.core,⟨#[]⟩⟩],?_,λz=>?_⟩
   .unfold cH;rw[zA (by omega),zA (by omega),zA (by omega),zA (by omega),zB k8];rfl
   unfold aBH cP aGE;rw[zA k3,zA k2,zA (by omega),zB k8,zA (by omega),a4,a9,b0,mY M hm];simp only[yR,mem_cons,not_mem_nil,or_false];simp only[or_assoc,or_comm,or_left_comm]
  by_cases k9:c.kind=9\/c.kind=10
  .have a5:∃x1,bW S c.path=.ok x1:=by
    unfold eM at hy;rw[zA (by omega),zA (by omega),zA (by omega),zA (by omega),zA (by omega),zA (by omega),zB k9]at hy;unfold iP at hy;rcases hp:bW S c.path with k|x1
    .rw[hp]at hy;cases hy
    exact⟨x1,rfl⟩
   obtain⟨x1,hp1⟩:=a5;have a0:=ok.path (by omega);have a4:=(kZ M hm a0 (gV hp1).1).1;have a7:=xF M hm hp1;refine⟨dH S c.path++cP S c.path++[⟨-1-c.core,⟨#[]⟩⟩],?_,λz=>?_⟩
   .unfold cH;rw[zA (by omega),zA (by omega),zA (by omega),zA (by omega),zA (by omega),zB k9];rfl
   unfold aBH cP aGE;rw[zA k3,zA k2,zA (by omega),zA (by omega),zA (by omega),zA (by omega),a4,a7,mY M hm];simp only[yR,mem_cons,not_mem_nil,or_false];simp only[or_assoc,or_comm,or_left_comm]
  by_cases k11:c.kind=11
  .have a5:∃x1 x2,bW S c.path=.ok x1/\bW S c.path2=.ok x2:=by
    unfold eM at hy;rw[zA (by omega),zA (by omega),zA (by omega),zA (by omega),zA (by omega),zA (by omega),zA (by omega),zB k11,oK]at hy;rcases hp:bW S c.path with k|x1
    .rw[hp]at hy;cases hy
    obtain⟨K1,s⟩:=x1;rw[hp]at hy;simp only at hy;rcases hx:S.ins[K1]? with _|x
    .rw[hx]at hy;cases hy
    rw[hx]at hy;simp only at hy;split at hy
    .cases hy
    split at hy
    .cases hy
    rcases hp2:bW S c.path2 with k|x2
    .rw[hp2]at hy;cases hy
    exact⟨_,x2,rfl,rfl⟩
   obtain⟨x1,x2,hp1,hp2⟩:=a5;have a0:=ok.path (by omega);have a6:=ok.path2 (by omega);have a4:=(kZ M hm a0 (gV hp1).1).1;have a9:=(kZ M hm a6 (gV hp2).1).1;have a7:=xF M hm hp1;have b0:=xF M hm hp2;refine⟨dH S c.path++dH S c.path2++cP S c.path++[⟨-1-c.core,⟨#[]⟩⟩],?_,λz=>?_⟩
   .unfold cH;rw[zA (by omega),zA (by omega),zA (by omega),zA (by omega),zA (by omega),zA (by omega),zB k11];rfl
   unfold aBH cP aGE;rw[zA k3,zA k2,zA (by omega),zA (by omega),zB k11,zA (by omega),a4,a9,a7,b0,mY M hm];simp only[yR,mem_cons,not_mem_nil,or_false];simp only[or_assoc,or_comm,or_left_comm]
  have k0:c.kind=0\/c.kind=1:=by omega
  unfold eM at hy;rw[zB k0,oI]at hy;rcases hp1:bW S c.path with k|⟨K,l⟩
  .rw[hp1]at hy;cases hy
  rw[hp1]at hy;simp only at hy;rcases hx:S.ins[K]? with _|x
  .rw[hx]at hy;cases hy
  rw[hx]at hy;simp only at hy;by_cases hh:bT x.ents l=true
  .rw[zB hh]at hy;cases hy
  rw[zA hh]at hy;rcases hmm:S.made[c.core.toNat]? with _|m
  .rw[hmm]at hy;cases hy
  rw[hmm]at hy;simp only at hy;by_cases hf:(fB x.ents l ⟨#[]⟩||decide (32<=m))=true
  .rw[zB hf]at hy;cases hy
  rw[zA hf]at hy;simp only[Except.ok.injEq]at hy;have b4:fB x.ents l ⟨#[]⟩=false/\m<32:=by rw[Bool.not_eq_true,yV,yW]at hf;exact⟨hf.1,by omega⟩
  have b5:(kX S c).1=dF S c K x l m:=by rw[hdy,<-hy]
  have b1:(dF S c K x l m).wf:=by rw[<-b5];exact aEE hwf
  have a0:=ok.path (by omega);obtain⟨x9,hx9,hd9⟩:=aNN hp1;rw[hx]at hx9;cases hx9;obtain⟨_,hfn⟩:=aOI M Q c hc0 hc1 a0 hp1 hx hd9 (by simpa using hh) b4.1 hmm b4.2 b1;have a4:=(kZ M hm a0 (gV hp1).1).1;have a7:=xF M hm hp1;refine⟨dH S c.path++cP (kX S c).1 c.path++[⟨-1-c.core,⟨#[]⟩⟩],?_,λz=>?_⟩
  .unfold cH;rw[zB k0];rfl
  unfold aBH cP aGE;rw[zA k3,zA k2,zB k0,zB k0,a4,a7,b5,hfn,zG,hmm];simp only[yR,mem_cons,not_mem_nil,or_false,Option.getD_some];simp only[or_assoc,or_comm,or_left_comm]
 obtain⟨l,hgl,hmem⟩:=key;unfold wY lA jK;rw[zB ht,zB hm,hgl,rG h0,aFZ];refine aGD (aLX _ _ (pairwise_singleton _ _)) (aOH (rE l)) λz=>?_;rw[aGC,yZ,<-hmem z];constructor
 .intro h;exact aJM ((rZ l).mem_iff.2 h)
 intro h;exact(rZ l).mem_iff.1 (aOG h)
end
end
theorem pO {ks:List PKey} {k:PKey}:(dZ ks k).length<=ks.length+1:=by
 unfold dZ;split
 .omega
 rw[qJ,kJ];exact zC _
theorem aAL:∀(l ks:List PKey),(l.foldl dZ ks).length<=ks.length+l.length
 |[],ks=>by simp
 | k::r,ks=>by have h1:=aAL r (dZ ks k);have h2:=pO (ks:=ks) (k:=k);rw[foldl_cons,zK];omega
theorem uF (S:PSt):∀(ns:List ByteArray) (a:Int) (th:List Int),(aQ S ns a th).2.2.length<=th.length+ns.length
 |[],a,th=>by simp[aQ]
 | n ::r,a,th=>by
   unfold aQ;split
   .simp
   split
   .split
    .simp<;>omega
    have:=uF S r (aX S a n) (th++[a]);simp at this |-;omega
   simp
def bBV (d:Int):PKey:=⟨d,⟨#[46]⟩⟩
structure TL (w:World) (B:Nat) (zs:List PKey) (vx:Value) (wr:World):Prop where
 below:Bl w wr
 out:OwnP B wr 61 2 vx (zs.map PKey.cells)
theorem TL.later {w:World} {B:Nat} {zs:List PKey} {vx:Value} {wr w':World} (h:TL w B zs vx wr) (hb:Bl wr w'):TL w B zs vx w':=
 ⟨h.below.trans (hb.mono h.below.size),h.out.below hb⟩
theorem aQF (S:PSt) (iv ov mv:Value) (ks:List PKey) (va:Value) (p:ByteArray) (B:Nat) (w:World) (h:StRead w iv ov mv S) (hf:FineR S) (ha:OwnP B w 61 2 va (ks.map PKey.cells)) (hB:B<=w.heap.size) (hl:ks.length<=1000):
 Calls prog 44 #[.agg #[iv,ov,mv],va,p] w λe w'=>Bl w w'/\∃v,e=.returned v/\OwnP B w' 61 2 v (((oB S p).foldl dZ ks).map PKey.cells):=by
 have a1:∀ww,Calls prog 82 #[p] ww _:=λww=>uE p ww;have a2:=lI p;have a4:∀(zs:List PKey) (d:Int) v ww,zs.length<=100000->B<=ww.heap.size->OwnP B ww 61 2 v (zs.map PKey.cells)->Calls prog 42 #[v,.agg #[.int .i64 d,.string ⟨#[46]⟩]] ww _:=λzs d v ww hz hb hv=>aXK zs (bBV d) v B ww hv hb (by show(⟨#[46]⟩:ByteArray).size<=1000000;decide) (by omega);have a9:∀v ww (ns:List ByteArray),ns.length<=4->Bl w ww->RowAt ww 1 v (ns.map λn=>[.string n])->Calls prog 83 #[.agg #[iv,ov,mv],v] ww _:=λv ww ns hl hb hv=>aAM S iv ov mv v ns ww (h.below hb (zC _)) hf hv (by omega);unfold oB;rw[<-eX];generalize bU p=F at a1 a2 |-;obtain⟨c,ns⟩:=F;simp only at a1 a2 |-;obtain⟨a0,n0,c0,rfl⟩:=ha.form;have HO:=bJ ha hB;clear ha;by_cases hc:c=0;rotate_left
 .rw[zB (.inl hc)];have b7:(c !=0)=true:=by simpa using hc
  clear a9 h a4;go_in;go_wp2_with(go_at_call 82;refine(a1 _).mono ?_;rintro e w1 ⟨v,rfl,hb1,hO1⟩;have b8:=hO1.one;have iB:Bel w w1:=⟨(bel w _).trans (hb1.mono (bel w _).size)⟩;clear hO1 hb1);go_ret;exact⟨bel _ _,_,rfl,HO.out.1.below (bel _ _)⟩
 subst hc;by_cases hns:ns=[]
 .subst hns;rw[zB (.inr rfl)];clear a9 h a4
  go_in;go_wp2_with(go_at_call 82;refine(a1 _).mono ?_;rintro e w1 ⟨v,rfl,hb1,hO1⟩;obtain⟨a,cap,rfl,-⟩:=hO1.cap;have iB:Bel w w1:=⟨(bel w _).trans (hb1.mono (bel w _).size)⟩;clear hO1 hb1);go_ret;exact⟨bel _ _,_,rfl,HO.out.1.below (bel _ _)⟩
 rw[zA (by simp[hns])];have b9:0<ns.length:=length_pos_iff.2 hns;have a5:∀v ww,Bl w ww->RowAt ww 1 v (ns.dropLast.map λn=>[.string n])->Calls prog 83 #[.agg #[iv,ov,mv],v] ww _:=λv ww hb hv=>a9 v ww ns.dropLast (by rw[length_dropLast];omega) hb hv;have b2:(aQ S ns.dropLast 1 []).2.2.length<=4:=by have:=uF S ns.dropLast 1 [];rw[length_dropLast]at this;simp only[yX]at this;omega
 generalize aQ S ns.dropLast 1 []=W at a5 b2 |-;obtain⟨num,C,dirs⟩:=W;simp only at a5 b2 |-;obtain⟨m,hm⟩:∃m,ns.length=m+1:=⟨ns.length-1,by omega⟩;have b3:ns.dropLast=ns.take m:=by rw[dropLast_eq_take,hm];rfl
 obtain⟨L,hLn⟩:=gAB ns.length;obtain⟨ai,ni,ci,ao,no,co,am,nm',cm,rfl,rfl,rfl⟩:=h.slices;have hw:∀ww a cap,Bl w ww->RowAt ww 1 (.slice a L cap) (ns.map λn=>[.string n])->Calls prog 83 #[.agg #[.slice ai ni ci,.slice ao no co,.slice am nm' cm],.slice a m cap] ww _:=λww a cap hb hv=>a5 _ ww hb (by rw[b3,map_take];subst hLn;exact hv.take m (by rw[lM];omega));generalize hR:(dirs.map (λd=>(⟨d,⟨#[46]⟩⟩:PKey))++if C=0 then[(⟨num,⟨#[46]⟩⟩:PKey)]else[]).foldl dZ ks=R;have HP:=eH a1 hw a4;have HM:=jj6 hm a2 hLn hR b2 hl;clear a1 hw a9 a5 h b3 a2 hf hns b9 hR hl a4;have c1:((L:Int)==0)=false:=by simp;omega
 have c2:¬((L:Int)=0):=by omega
 have c4:(L:Int)-1=m:=by omega
 clear hm hLn;go_in;go_upto_region 4 with(go_at_call 82;refine(HP.out.1 _).mono ?_;rintro e w1 ⟨v,rfl,hb1,ho1⟩;have b4:=ho1.row;obtain⟨gn,cap,hv,hc1,hc2⟩:=ho1.some_ (by rw[lM];show 0<ns.length;have:=HM.out;omega);rw[lM]at hv hc1;rw[show List.length ((0:Int),ns).2=L from HM.out.2.2.1]at hv hc1;subst hv;have b0:Bel w w1:=⟨(bel w _).trans (hb1.mono (bel w _).size)⟩;have b5:∀ww,Bl w1 ww->Calls prog 83 #[.agg #[.slice ai ni ci,.slice ao no co,.slice am nm' cm],.slice gn m cap] ww _:=λww hb=>HP.out.2.1 ww _ cap (b0.below.trans (hb.mono b0.below.size)) (b4.below hb (zC _));have q0:w1.cell? w.heap.size=some (.slice ai ni ci):=(hb1.cell (by simp)).trans (by go_simp);have q1:w1.cell? ⟨w.heap.size,1,none⟩=some (.slice ao no co):=(hb1.cell (by simp)).trans (by go_simp);have q2:w1.cell? ⟨w.heap.size,2,none⟩=some (.slice am nm' cm):=(hb1.cell (by simp)).trans (by go_simp);have iL:BlockLt w.heap.size w1:=⟨by have:=hb1.size;simp at this;omega⟩;have c5:IntKind.i64.wrap (m:Int)=m:=I64.wrap ⟨by omega,by have:=HM.out;omega⟩;have c6:m<=cap:=(by have:=HM.out;omega);have H1:=aC b0.below;clear hb1 b4 ho1)
 refine aH [6] true (λw'=>w'.cell? w.heap.size=some (.slice ai ni ci)/\w'.cell? ⟨w.heap.size,1,none⟩=some (.slice ao no co)/\w'.cell? ⟨w.heap.size,2,none⟩=some (.slice am nm' cm)) (by kernel_rfl) (by kernel_rfl) ?_ ?_
 · (try dsimp only);(repeat' apply And.intro)<;>go_simp
 repeat
  apply aI0 rfl rfl
  focus
   rintro w' ⟨s0,s1,s2⟩;go_simp
   first|done|rfl
  simp only[Act.put,sA,sZ,sS]
 refine bB rfl rfl ?_;refine aS 83 #[.agg #[.slice ai ni ci,.slice ao no co,.slice am nm' cm],.slice gn m cap] ?_ ((b5 w1.drew (bel w1 _)).mono ?_)
 focus
  go_simp
  first|done|rfl
 rintro e w2 ⟨tv,rfl,hb2,ho2⟩;obtain⟨ad,nd,cd,rfl⟩:=ho2.form;have a7:=ho2.row;clear ho2;have c7:Bel w w2:=⟨(bel w w1.drew).trans (hb2.mono (bel w w1.drew).size)⟩;obtain⟨p2,rfl⟩:=hb2.rest;clear hb2;refine⟨_,rfl,.inl ?_,?_⟩
 · (try dsimp only);(repeat' apply And.intro)<;>go_simp
 simp only[Act.put,sA,sZ,sS]
 repeat
  apply aI0 rfl rfl
  focus
   rintro w' ⟨s0,s1,s2⟩;go_simp
   first|done|rfl
  simp only[Act.put,sA,sZ,sS]
 refine aU ?_;go_upto_region 5 with fail;refine aD (F:=λW=>Bl w W/\RowAt W 1 (.slice ad nd cd) (dirs.map aJ)) ⟨H1.out.trans ((bel w1 _).mono H1.out.size),a7.below (bel _ _) (zC _)⟩ ?_;intro wA hA;obtain⟨ad',cd',e,hat⟩:=hA.2.at_;rw[lM]at e;cases e;have HA:=aC hA.1;have HD:=aC hat;have iA:Bel w wA:=⟨hA.1⟩;have b1:=hA.1.size;generalize hT:(if C=0 then[(⟨num,⟨#[46]⟩⟩:PKey)]else[])=T at HM;clear hA hat a7 q0 q1 q2 b5 b0 c7 H1 iL c5 c6 hc1 hc2 c1 c2 c4;go_wp2
 go_loopw[1,12] (λv1 vi wr=>∃(q:Nat) (zs:List PKey),vi=.int .i64 q/\q<=dirs.length/\zs.length<=1000+q/\((dirs.drop q).map (λd=>(⟨d,⟨#[46]⟩⟩:PKey))++T).foldl dZ zs=R/\TL wA B zs v1 wr) (λ_ vi _=>(dirs.length-intOf vi).toNat)
 case atStart=>exact⟨0,ks,rfl,by omega,by have:=HM.out;omega,HM.out.2.2.2.1,bel wA _,(HO.out.1.below HA.out).below (bel wA _)⟩
 obtain⟨q,zs,rfl,hq,hz,hre,hal⟩:=hrel;have iB:Bel wA wr:=⟨hal.below⟩;have a8:=hal.below.size;obtain⟨az,nz,cz,rfl⟩:=hal.out.form;have HL:=aC hal;by_cases hlt:q<dirs.length
 .obtain⟨d,hd⟩:=gAA hlt
  obtain⟨bd,offd,rfl,iE0,iE,hce⟩:=HD.out wr hal.below q (aJ d) (by rw[gM,hd];rfl);have e0:=hce 0 _ rfl;rw[zN,Nat.mul_one]at e0;have b6:dirs.drop q=d::dirs.drop (q+1):=by obtain⟨h1,h2⟩:=gI.1 hd;rw[yH h1,h2]
  rw[b6,xB,cons_append,foldl_cons]at hre;have g1:(q:Int)<dirs.length:=by omega
  have HR:=aC hre;clear hce hal hre b6 hd;go_wp2_with(go_at_call 42;refine(HP.out.2.2 zs d _ _ (by omega) (zD HO.out.2 (zD b1 (zD a8 (bel wr _).size))) (HL.out.out.below (bel wr _))).mono ?_;rintro e w3 ⟨hb3,v3,rfl,ho3⟩;obtain⟨a3,n3,c3,rfl⟩:=ho3.form;have H3:=aC ho3;clear ho3;obtain⟨p3,rfl⟩:=hb3.rest;clear hb3);go_roundw
  case rel=>exact⟨q+1,_,by go_num,by omega,zD pO (by omega),HR.out,HL.out.below.trans ((bel wr _).mono a8),H3.out⟩
  simp[intOf];omega
 have g1:¬(q:Int)<dirs.length:=by omega
 rw[drop_eq_nil_of_le (by omega),map_nil,nil_append]at hre;have HR:=aC hre;clear hre hal;by_cases hC:C=0
 .subst hC;have a6:=hT.symm;rw[zB rfl]at a6;have HT:=aC a6;clear hT a6;go_wp2_with(go_at_call 42;refine(HP.out.2.2 zs num _ _ (by omega) (zD HO.out.2 (zD b1 (zD a8 (bel wr _).size))) (HL.out.out.below (bel wr _))).mono ?_;rintro e w3 ⟨hb3,v3,rfl,ho3⟩;obtain⟨a3,n3,c3,rfl⟩:=ho3.form;have H3:=aC ho3;clear ho3;obtain⟨p3,rfl⟩:=hb3.rest;clear hb3)
  go_ret;refine⟨HA.out.trans ((HL.out.below.trans ((bel wr _).mono a8)).mono b1),_,rfl,?_⟩;have h4:=HR.out;rw[HT.out]at h4;rw[<-h4];exact H3.out
 have b7:(C==0)=false:=by simpa using hC
 have a6:=hT.symm;rw[zA hC]at a6;have HT:=aC a6;clear hT a6;go_wp2;go_ret;refine⟨HA.out.trans ((HL.out.below.trans ((bel wr _).mono a8)).mono b1),_,rfl,?_⟩;have h4:=HR.out;rw[HT.out]at h4;rw[<-h4];exact HL.out.out.below (bel wr _)
structure TuL (w:World) (iv ov mv:Value) (c:PCall) (b7:Nat) (rc:Array Value) (wr:World):Prop where
 below:Bl w wr
 box:Blk wr w.heap.size #[iv,ov,mv] 26
 call:Blk wr (w.heap.size+1) #[c.kind,c.core,c.fd,c.off,c.num,c.path,c.path2,c.data] 28
 res:Blk wr b7 rc 52
theorem aWY (iv ov mv:Value) (S:PSt) (c:PCall) (w:World) (h:StRead w iv ov mv S) (hwf:S.wf):
 vR w 41 #[.agg #[iv,ov,mv],c.val] (.bool (fY S c)):=by
 have a0:vB w 30 #[.agg #[iv,ov,mv]] (.bool (cO S)):=λww hb=>by have:=aSZ S iv ov mv ww (h.below hb (zC _)) hwf;rw[aJR hwf]at this;exact this
 have a2:=fun(ww:World) (hb:Bl w ww)=>aXL hwf c iv ov mv ww (h.below hb (zC _)) (λw3 hb3=>a0 w3 (hb.trans (hb3.mono hb.size)));obtain⟨ai,ni,ci,ao,no,co,am,nm',cm,rfl,rfl,rfl⟩:=h.slices;clear h;obtain⟨T,hT⟩:=gAB (fY S c);rw[hT];unfold fY at hT;unfold PCall.val;generalize kX S c=Y at *;obtain⟨S',r⟩:=Y;simp only at a2 hT;generalize hM:cO S=M at *;have HT:=aC hT;clear hM hwf hT;unfold vR;go_in;go_upto_region 2 with(go_at_call 31;refine(a2 _ (bel _ _)).mono ?_;rintro e w5 ⟨hb5,iv5,ov5,mv5,nv5,rfl,hs5,hn5⟩;obtain⟨a11,a12,a13,a14,a15,a16,a17,a18,a19,rfl,rfl,rfl⟩:=hs5.forms;obtain⟨an,nn,cn,rfl⟩:=hn5.form;clear hs5 hn5;obtain⟨p5,rfl⟩:=hb5.rest;clear hb5)
 refine aD (F:=λW=>TuL w (.slice ai ni ci) (.slice ao no co) (.slice am nm' cm) c (w.heap.size+1+1+p5.len+1) #[.int .i64 r.code,.int .i64 r.fd,.int .i64 r.num,.bool r.dir,.string r.data,.slice an nn cn] W) ?_ ?_
 .exact⟨bel w _,((((Blk.new w _ 26).alloc _).junk _).alloc _).alloc _,(((Blk.new_i (w.alloc (.cells _ 26)) _ 28 _).junk _).alloc _).alloc _,Blk.new_i _ _ 52 _⟩
 intro wA hA;generalize w.heap.size+1+1+p5.len+1=b7 at *;generalize w.heap.size+1+1+p5.len=b6 at *;have k0:wA.cell? w.heap.size=some (.slice ai ni ci):=hA.box.cell 0;have k1:wA.cell? ⟨w.heap.size,1,none⟩=some (.slice ao no co):=hA.box.cell 1;have k2:wA.cell? ⟨w.heap.size,2,none⟩=some (.slice am nm' cm):=hA.box.cell 2;have c0:wA.cell? ⟨w.heap.size+1,0,none⟩=some (.int .i64 c.kind):=hA.call.cell 0;have c7:wA.cell? ⟨w.heap.size+1,7,none⟩=some (.string c.data):=hA.call.cell 7;have q0:wA.cell? b7=some (.int .i64 r.code):=hA.res.cell 0;have ik:=hA.box.lt;have ic:=hA.call.lt;have iq:=hA.res.lt;have iB:Bel w wA:=⟨hA.below⟩;have a1:=hA.below.size;have HA:=aC hA;have HM:=aC a0;clear hA a2 a0;by_cases hc:r.code=0;rotate_left
 .have hT:=HT.out;rw[zB (.inl hc)]at hT;subst hT;have a4:(r.code !=0)=true:=by simpa using hc
  go_wp2;go_ret;exact⟨rfl,HA.out.below.trans ((bel wA _).mono a1)⟩
 have a4:(r.code !=0)=false:=by simpa using hc
 rcases M with _|_
 .have hT:=HT.out;rw[zB (.inr rfl)]at hT;subst hT;go_wp2_with(go_at_call 30;refine aE (HM.out _ (bel _ _)) λp=>?_)
  go_ret;exact⟨rfl,HA.out.below.trans ((bel wA _).mono a1)⟩
 have hT:=HT.out;rw[zA (by simp[hc])]at hT;go_upto_region 4 with(go_at_call 30;refine aE (HM.out _ (bel _ _)) λp=>?_)
 have hk:(c.kind=0\/c.kind=1\/c.kind=2\/c.kind=3\/c.kind=6\/c.kind=8\/c.kind=9\/c.kind=10\/c.kind=11)\/¬(c.kind=0\/c.kind=1\/c.kind=2\/c.kind=3\/c.kind=6\/c.kind=8\/c.kind=9\/c.kind=10\/c.kind=11):=by omega
 rcases hk with hk|hk
 .rw[zB hk]at hT;subst hT;clear HT;rcases hk with h|h|h|h|h|h|h|h|h
  iterate 9
   .go_wp2;go_ret;exact⟨rfl,HA.out.below.trans ((bel wA _).mono a1)⟩
 rw[zA hk]at hT;have a3:=aC hT;clear HT hT;have n0:(c.kind==0)=false:=by simp only[yF,ne_eq];omega
 have n1:(c.kind==1)=false:=by simp only[yF,ne_eq];omega
 have n2:(c.kind==2)=false:=by simp only[yF,ne_eq];omega
 have n3:(c.kind==3)=false:=by simp only[yF,ne_eq];omega
 have n6:(c.kind==6)=false:=by simp only[yF,ne_eq];omega
 have n8:(c.kind==8)=false:=by simp only[yF,ne_eq];omega
 have n9:(c.kind==9)=false:=by simp only[yF,ne_eq];omega
 have a5:(c.kind==10)=false:=by simp only[yF,ne_eq];omega
 have a6:(c.kind==11)=false:=by simp only[yF,ne_eq];omega
 clear hk;by_cases h5:c.kind=5
 .have hT:=a3.out;rw[zB h5]at hT;have hd:(c.data.toList !=[])=!decide (c.data=⟨#[]⟩):=by
   rcases hd:decide (c.data=⟨#[]⟩)with _|_
   .rw[yW]at hd;have:c.data.toList≠[]:=λe=>hd (by
     have h2:c.data.data.toList=[]:=by rw[<-zW];exact e
     have h3:c.data.data=#[]:=Array.toList_eq_nil_iff.1 h2;rcases hx:c.data with⟨l⟩
     rw[hx]at h3;rw[<-h3])
    simpa using this
   rw[decide_eq_true_iff]at hd;rw[hd,zW];rfl
  rw[hT]at hd;clear hT a3;go_wp2;go_ret;exact⟨by rw[<-hd];simp[bne],HA.out.below.trans ((bel wA _).mono a1)⟩
 have hT:=a3.out;rw[zA h5]at hT;subst hT;have n5:(c.kind==5)=false:=by simpa using h5
 go_wp2;go_ret;exact⟨rfl,HA.out.below.trans ((bel wA _).mono a1)⟩
section
theorem sR (S:PSt) (p:ByteArray):(bO S p).2.1.size<=1000000:=by
 unfold bO;rw[eX];split
 .exact Nat.zero_le 1000000
 rcases hg:(aA p).2.getLast? with _|l
 .exact Nat.zero_le 1000000
 have:=uZ p l (mem_of_getLast? hg);simp only;split
 .exact Nat.zero_le 1000000
 split
 .split
  .show l.size<=_;omega
  exact Nat.zero_le 1000000
 exact Nat.zero_le 1000000
theorem aDH (S:PSt) (p:ByteArray):(oB S p).length<=10:=by
 have h1:=lI p;rw[eX]at h1;have h2:=uF S (aA p).2.dropLast 1 [];rw[length_dropLast,yX]at h2;unfold oB;split
 .exact Nat.zero_le 10
 rw[lP,lM];have:∀(q:Prop) [Decidable q] (x:PKey),(if q then[x]else[]).length<=1:=λq _ x=>by split<;>simp
 have h3:=this ((aQ S (aA p).2.dropLast 1 []).2.1=0) ⟨(aQ S (aA p).2.dropLast 1 []).1,⟨#[46]⟩⟩;omega
structure KL (w:World) (iv ov mv:Value) (c:PCall) (ks:List PKey) (vx:Value) (wr:World):Prop where
 below:Bl w wr
 box:Blk wr w.heap.size #[iv,ov,mv] 26
 call:Blk wr (w.heap.size+1) #[c.kind,c.core,c.fd,c.off,c.num,c.path,c.path2,c.data] 28
 out:OwnP w.heap.size wr 61 2 vx (ks.map PKey.cells)
variable {c:PCall} {iv mv ov vx:Value} {ks:List PKey} {w wr:World}
theorem KL.next {zs:List PKey} {vy:Value} {w':World} (h:KL w iv ov mv c ks vx wr) (hb:Bl wr w') (ho:OwnP w.heap.size w' 61 2 vy (zs.map PKey.cells)):KL w iv ov mv c zs vy w':=
 ⟨h.below.trans (hb.mono h.below.size),h.box.below hb h.box.lt.lt,h.call.below hb h.call.lt.lt,ho⟩
theorem KL.facts (h:KL w iv ov mv c ks vx wr):wr.cell? w.heap.size=some iv/\wr.cell? ⟨w.heap.size,1,none⟩=some ov/\wr.cell? ⟨w.heap.size,2,none⟩=some mv/\wr.cell? ⟨w.heap.size+1,0,none⟩=some (.int .i64 c.kind)/\wr.cell? ⟨w.heap.size+1,1,none⟩=some (.int .i64 c.core)/\wr.cell? ⟨w.heap.size+1,2,none⟩=some (.int .i64 c.fd)/\wr.cell? ⟨w.heap.size+1,5,none⟩=some (.string c.path)/\wr.cell? ⟨w.heap.size+1,6,none⟩=some (.string c.path2)/\BlockLt w.heap.size wr/\BlockLt (w.heap.size+1) wr/\Bel w wr/\w.heap.size<=wr.heap.size:=
 ⟨h.box.cell 0,h.box.cell 1,h.box.cell 2,h.call.cell 0,h.call.cell 1,h.call.cell 2,h.call.cell 5,h.call.cell 6,h.box.lt,h.call.lt,⟨h.below⟩,h.below.size⟩
theorem aHO (l m:List PKey) (ks:List PKey):(l++m).foldl dZ ks=m.foldl dZ (l.foldl dZ ks):=foldl_append
theorem aZL (iv ov mv:Value) (S:PSt) (c:PCall) (w:World) (h:StRead w iv ov mv S) (hwf:S.wf):
 Calls prog 13 #[.agg #[iv,ov,mv],c.val] w λe w'=>Bl w w'/\∃v,e=.returned v/\OwnP w.heap.size w' 61 2 v ((wY S c).map PKey.cells):=by
 have a1:=fun(ww:World) (hb:Bl w ww)=>aWY iv ov mv S c ww (h.below hb (zC _)) hwf;have hS:=h;obtain⟨ai,ni,ci,ao,no,co,am,nm',cm,rfl,rfl,rfl⟩:=h.slices;unfold PCall.val at a1 |-;rcases hT:fY S c with _|_
 .have hR:wY S c=[]:=by unfold wY;rw[hT];rfl
  rw[hR];rw[hT]at a1;clear h hS hwf hT hR;go_in;go_wp2_with(go_at_call 41;refine aE (a1 _ (bel _ _)) λp=>?_);go_ret;exact⟨bel _ _,_,rfl,.inl ⟨rfl,rfl⟩⟩
 rw[hT]at a1;have a2:wY S c=(aBH S c).foldl dZ [⟨-1-c.core,⟨#[]⟩⟩]:=by unfold wY;rw[zB hT]
 have b9:c.kind=0\/c.kind=1\/c.kind=2\/c.kind=3\/c.kind=5\/c.kind=6\/c.kind=8\/c.kind=9\/c.kind=10\/c.kind=11:=by
  unfold fY at hT;split at hT
  .cases hT
  split at hT
  .omega
  split at hT
  .omega
  cases hT
 have b7:(kX S c).2.code=0/\cO S=true:=by
  unfold fY at hT;split at hT
  .cases hT
  rename_i h1;refine⟨Decidable.of_not_not λe=>h1 (.inl e),?_⟩;rcases hm:cO S with _|_
  .exact absurd (.inr hm) h1
  rfl
 obtain⟨_,hcore0,hcore1⟩:=mQ (aIT b7.1).1;have M:=qF hwf b7.2;have hf:=M.fineR;have h8:=M.cores;obtain⟨k,hk⟩:∃k:Nat,c.core=k:=⟨c.core.toNat,by omega⟩;obtain⟨m,hm⟩:∃m,S.made[k]? =some m:=⟨_,gE (by omega)⟩;have a7:=M.made m (mG hm);have c4:k<8:=by omega
 obtain⟨⟨D1,n1,C1⟩,hP1⟩:∃X,bO S c.path=X:=⟨_,rfl⟩;obtain⟨⟨D2,n2,C2⟩,hP2⟩:∃X,bO S c.path2=X:=⟨_,rfl⟩;obtain⟨⟨num,C0⟩,hF⟩:∃X,eY S c.path=X:=⟨_,rfl⟩;obtain⟨fd,hfdr⟩:∃X,oE S c.core c.fd=X:=⟨_,rfl⟩;have c7:n1.size<=1000000:=by have:=sR S c.path;rw[hP1]at this;exact this
 have c8:n2.size<=1000000:=by have:=sR S c.path2;rw[hP2]at this;exact this
 have c9:=c43 (c:=c.core) (f:=c.fd) hS hwf.2.1 hfdr;have a8:=c45 hS hf hP1;have a9:=c45 hS hf hP2;have d0:=c46 hS hf hF;have b8:∀(q:ByteArray) (zs:List PKey) (v:Value) (ww:World),zs.length<=1000->Bl w ww->OwnP w.heap.size ww 61 2 v (zs.map PKey.cells)->Calls prog 44 #[.agg #[.slice ai ni ci,.slice ao no co,.slice am nm' cm],v,.string q] ww _:=λq zs v ww hz hb hv=>aQF S _ _ _ zs v q w.heap.size ww (hS.below hb (zC _)) hf hv hb.size hz;have d1:∀(x:PKey) (zs:List PKey) (v:Value) (ww:World),zs.length<=1000->x.name.size<=1000000->Bl w ww->OwnP w.heap.size ww 61 2 v (zs.map PKey.cells)->Calls prog 42 #[v,.agg #[x.num,x.name]] ww _:=λx zs v ww hz hx hb hv=>aXK zs x v w.heap.size ww hv hb.size hx (by omega);have b0:=fun(d:Int) (n:ByteArray) (hn:n.size<=1000000) ww=>aWR d n hn ww;have d2:∀n,(cG n).size<=1000000:=λn=>by show(2:Nat)<=_;decide
 have d3:=hS.2.1;have d4:wX S c.path=⟨D1,cG n1⟩:=by unfold wX;rw[hP1]
 have d5:wX S c.path2=⟨D2,cG n2⟩:=by unfold wX;rw[hP2]
 have d6:(eY S c.path).1=num:=by rw[hF]
 have d7:=aDH S c.path;have d8:=aDH S c.path2;unfold aBH at a2;rw[d4,d5,hfdr]at a2;have b5:=aAL (oB S c.path) [⟨-1-c.core,⟨#[]⟩⟩];rw[length_singleton]at b5;have b6:aGE S c=if c.kind=0\/c.kind=1 then 2+(k:Int)+8*m else num:=by unfold aGE;rw[d6,hk,zJ,zG,hm];rfl
 rw[b6]at a2;obtain⟨T1,hT1e⟩:∃T,oB S c.path=T:=⟨_,rfl⟩;obtain⟨T2,hT2e⟩:∃T,oB S c.path2=T:=⟨_,rfl⟩;have a4:=b8 c.path;have a5:=b8 c.path2;rw[hT1e]at a4 a2 d7 b5;rw[hT2e]at a5 a2 d8;generalize wY S c=R at a2 |-;obtain⟨o1,ho1⟩:∃o,o=(⟨-1-c.core,⟨#[]⟩⟩:PKey):=⟨_,rfl⟩;rw[<-ho1]at a2 b5;have e3:IntKind.i64.wrap (-1-c.core)=-1-c.core:=I64.wrap (by unfold I64;omega);obtain⟨K1,hK1⟩:∃K,T1.foldl dZ [o1]=K:=⟨_,rfl⟩;obtain⟨K2,hK2⟩:∃K,T2.foldl dZ K1=K:=⟨_,rfl⟩;have d9:=aAL T2 K1;rw[hK1]at b5;rw[hK2]at d9;have b1:K1.length<=11:=by omega
 have b2:K2.length<=21:=by omega
 have b3:∀(K:List PKey) (n:Nat) x,K.length<=n->n<900->(dZ K x).length<=1000:=λK n x h1 h2=>by have:=pO (ks:=K) (k:=x);omega
 have b4:∀x y,(dZ (dZ K2 x) y).length<=1000:=λx y=>by have h1:=pO (ks:=dZ K2 x) (k:=y);have h2:=pO (ks:=K2) (k:=x);omega
 have HB:=mJ b1 b2 b3 b4;have HK:=bJ hK1 hK2;have HC:=jj7 c9 a8 a9 d0 a4 a5 d1;have HN:=eH c7 c8 d2;have HR:=aC a2;have HM:=qM d3 hm hk a7 c4;have HO:=aC ho1;clear hS h hwf hT b7 hcore0 hcore1 M hf h8 hk hm a7 c4 hP1 hP2 hF hfdr c7 c8 c9 a8 a9 d0 b8 a4 a5 d1 d2 d3 d4 d5 d6 d7 d8 a2 b5 d9 b6 hT1e hT2e ho1 hK1 hK2 b1 b2 b3 b4;go_in;go_upto_region 4 with(go_at_call 41;refine aE (a1 _ (bel _ _)) λp=>?_)
 refine aD (F:=λW=>KL w (.slice ai ni ci) (.slice ao no co) (.slice am nm' cm) c [o1] (.slice (some ⟨w.heap.size+1+1+p.len,0,none⟩) 1 1) W) ?_ ?_
 .refine⟨bel w _,(((Blk.new w _ 26).alloc _).junk _).alloc _,((Blk.new_i (w.alloc (.cells _ 26)) _ 28 _).junk _).alloc _,.inr ⟨w.heap.size+1+1+p.len,1,#[.int .i64 (-1-c.core),.string ⟨#[]⟩],rfl,by omega,Blk.new_i _ _ 61 _,zC _,by decide,rfl,?_⟩⟩;rw[HO.out];exact kD rfl
 generalize w.heap.size+1+1+p.len=g1;intro wA hA;have HA:=aC hA;obtain⟨k0,k1,k2,c0,c1,c2,c5,c6,ik,ic,iB,hle⟩:=hA.facts;clear hA a1;have a6:(c.kind=3\/c.kind=5\/c.kind=6)\/(c.kind=0\/c.kind=1\/c.kind=2\/c.kind=8\/c.kind=9\/c.kind=10\/c.kind=11):=by omega
 rcases a6 with a6|a6
 .have a0:R=dZ [o1] ⟨fd,⟨#[]⟩⟩:=by
   have h:=HR.out;rw[zB (by omega)]at h;exact h
  rcases a6 with hk|hk|hk
  all_goals
   go_wp2_with(first|(go_at_call 43;refine aE (HC.out.1 _ (bel w _)) λp=>?_)|(go_at_call 42;refine(HC.out.2.2.2.2.2.2 ⟨fd,⟨#[]⟩⟩ _ _ _ (by simp) (Nat.zero_le 1000000) (bel w _) (HA.out.out.below (bel _ _))).mono ?_;rintro e w3 ⟨hb3,v3,rfl,ho3⟩;obtain⟨a3,n3,c3,rfl⟩:=ho3.form;have H3:=aC ho3;clear ho3;obtain⟨p3,rfl⟩:=hb3.rest;clear hb3));go_ret;refine⟨HA.out.below.trans ((bel _ _).mono hle),_,rfl,?_⟩;rw[a0]
   (try simp only[<-World.junk_junk]);exact H3.out.below (bel _ _)
 have f3:(c.kind==3)=false:=by simp;omega
 have f5:(c.kind==5)=false:=by simp;omega
 have f6:(c.kind==6)=false:=by simp;omega
 go_upto_region 9 with(first|(go_at_call 44;refine(HC.out.2.2.2.2.1 _ _ _ (by simp) (bel w _) (HA.out.out.below (bel _ _))).mono ?_;rintro e w3 ⟨hb3,v3,rfl,ho3⟩;obtain⟨a3,n3,c3,rfl⟩:=ho3.form;have H3:=aC ho3;clear ho3;obtain⟨p3,rfl⟩:=hb3.rest;clear hb3)|(go_at_call 45;refine aE (HC.out.2.1 _ (bel w _)) λp=>?_)|(go_at_call 46;refine aE (HC.out.2.2.2.1 _ (bel w _)) λp=>?_))
 refine aD (F:=λW=>KL w (.slice ai ni ci) (.slice ao no co) (.slice am nm' cm) c (T1.foldl dZ [o1]) (.slice a3 n3 c3) W) (HA.out.next (bel _ _) (by have h:=H3.out;(try simp only[<-World.junk_junk]at h |-);exact h.below (bel _ _))) ?_;clear k0 k1 k2 c0 c1 c2 c5 c6 ik ic iB hle;intro wB hB;clear HA H3;have HA:=aC hB;obtain⟨k0,k1,k2,c0,c1,c2,c5,c6,ik,ic,iB,hle⟩:=hB.facts;clear hB;rw[HK.out.1]at HA;clear f3 f5 f6
 go_upto_block 0 with fail
 generalize c.kind=kd at a6 c0 HR |-;go_cut [5,9] (λv5 v9 W=>∃zs z,v9=.int .i64 z/\R=dZ zs ⟨z,⟨#[]⟩⟩/\zs.length<=1000/\KL w (.slice ai ni ci) (.slice ao no co) (.slice am nm' cm) c zs v5 W)
 case first=>
  rcases a6 with rfl|rfl|rfl|rfl|rfl|rfl|rfl
  iterate 2
   .have a0:R=dZ (dZ K1 ⟨D1,cG n1⟩) ⟨2+(k:Int)+8*m,⟨#[]⟩⟩:=by have h:=HR.out;rw[h];simp[aHO,HK.out.1,HK.out.2]
    go_upto_region 14 with fail;obtain⟨am',cm',e1,hat⟩:=HM.out.1.at_;cases e1;obtain⟨bm,om,rfl,-,iM,hcm⟩:=hat wB HA.out.below k [.int .i64 m] (by rw[gM,HM.out.2.1];rfl);have m0:=hcm 0 _ rfl;rw[zN,Nat.mul_one]at m0;have e2:(k:Int)<S.made.length:=by obtain⟨h,_⟩:=gI.1 HM.out.2.1;omega
    rw[lM]at *;have e0:=HM.out.2.2.1;obtain⟨w1,w2,w3⟩:IntKind.i64.wrap (2+(k:Int))=2+(k:Int)/\IntKind.i64.wrap (8*m)=8*m/\IntKind.i64.wrap (2+(k:Int)+8*m)=2+(k:Int)+8*m:=by have h1:=HM.out.2.2.2.1;have h2:=HM.out.2.2.2.2;exact⟨I64.wrap ⟨by omega,by omega⟩,I64.wrap ⟨by omega,by omega⟩,I64.wrap ⟨by omega,by omega⟩⟩
    rw[e0]at c1;clear hat hcm e0;refine qR ?_
    repeat(go_big_quiet_step (fail))
    refine wpQuiet_nil ?_;intro w1' hw1';obtain⟨pq,hw1'⟩:=hw1';subst hw1';go_wp2_with(first|(go_at_call 47;refine aE (b0 _ _ HN.out.1 _) λp=>?_)|(go_at_call 42;refine(HC.out.2.2.2.2.2.2 ⟨D1,cG n1⟩ _ _ _ (zD HB.out.1 (by decide)) (HN.out.2.2 _) (bel w _) (HA.out.out.below (bel _ _))).mono ?_;rintro e w3 ⟨hb3,v3,rfl,ho3⟩;obtain⟨a3,n3,c3,rfl⟩:=ho3.form;have H3:=aC ho3;clear ho3;obtain⟨p3,rfl⟩:=hb3.rest;clear hb3));go_meet;exact⟨_,_,rfl,a0,HB.out.2.2.1 _ 11 _ HB.out.1 (by decide),(HA.out.next (bel _ _) (by have h:=H3.out;(try simp only[<-World.junk_junk]at h |-);exact h.below (bel _ _)))⟩
  .have a0:R=dZ K1 ⟨num,⟨#[]⟩⟩:=by have h:=HR.out;rw[h];simp[aHO,HK.out.1,HK.out.2]
   go_wp2_with fail;go_meet;exact⟨_,_,rfl,a0,zD HB.out.1 (by decide),HA.out⟩
  .have a0:R=dZ (dZ K2 ⟨D2,cG n2⟩) ⟨num,⟨#[]⟩⟩:=by have h:=HR.out;rw[h];simp[aHO,HK.out.1,HK.out.2]
   go_upto_region 19 with(first|(go_at_call 45;refine aE (HC.out.2.2.1 _ (bel w _)) λp=>?_)|(go_at_call 44;refine(HC.out.2.2.2.2.2.1 _ _ _ (zD HB.out.1 (by decide)) (bel w _) (HA.out.out.below (bel _ _))).mono ?_;rintro e w3 ⟨hb3,v3,rfl,ho3⟩;obtain⟨a3,n3,c3,rfl⟩:=ho3.form;have H3:=aC ho3;clear ho3;obtain⟨p3,rfl⟩:=hb3.rest;clear hb3))
   refine aD (F:=λW=>KL w (.slice ai ni ci) (.slice ao no co) (.slice am nm' cm) c (T2.foldl dZ K1) (.slice a3 n3 c3) W) (HA.out.next (bel _ _) (by have h:=H3.out;(try simp only[<-World.junk_junk]at h |-);exact h.below (bel _ _))) ?_;clear k0 k1 k2 c0 c1 c2 c5 c6 ik ic iB hle;intro wB hB;clear HA H3;have HA:=aC hB;obtain⟨k0,k1,k2,c0,c1,c2,c5,c6,ik,ic,iB,hle⟩:=hB.facts;clear hB;rw[HK.out.2]at HA;go_wp2_with(first|(go_at_call 47;refine aE (b0 _ _ HN.out.2.1 _) λp=>?_)|(go_at_call 42;refine(HC.out.2.2.2.2.2.2 ⟨D2,cG n2⟩ _ _ _ (zD HB.out.2.1 (by decide)) (HN.out.2.2 _) (bel w _) (HA.out.out.below (bel _ _))).mono ?_;rintro e w3 ⟨hb3,v3,rfl,ho3⟩;obtain⟨a3,n3,c3,rfl⟩:=ho3.form;have H3:=aC ho3;clear ho3;obtain⟨p3,rfl⟩:=hb3.rest;clear hb3));go_meet;exact⟨_,_,rfl,a0,HB.out.2.2.1 _ 21 _ HB.out.2.1 (by decide),(HA.out.next (bel _ _) (by have h:=H3.out;(try simp only[<-World.junk_junk]at h |-);exact h.below (bel _ _)))⟩
  iterate 2
   .have a0:R=dZ (dZ K1 ⟨D1,cG n1⟩) ⟨num,⟨#[]⟩⟩:=by have h:=HR.out;rw[h];simp[aHO,HK.out.1,HK.out.2]
    go_wp2_with(first|(go_at_call 47;refine aE (b0 _ _ HN.out.1 _) λp=>?_)|(go_at_call 42;refine(HC.out.2.2.2.2.2.2 ⟨D1,cG n1⟩ _ _ _ (zD HB.out.1 (by decide)) (HN.out.2.2 _) (bel w _) (HA.out.out.below (bel _ _))).mono ?_;rintro e w3 ⟨hb3,v3,rfl,ho3⟩;obtain⟨a3,n3,c3,rfl⟩:=ho3.form;have H3:=aC ho3;clear ho3;obtain⟨p3,rfl⟩:=hb3.rest;clear hb3));go_meet;exact⟨_,_,rfl,a0,HB.out.2.2.1 _ 11 _ HB.out.1 (by decide),(HA.out.next (bel _ _) (by have h:=H3.out;(try simp only[<-World.junk_junk]at h |-);exact h.below (bel _ _)))⟩
  have a0:R=dZ (dZ (dZ K2 ⟨D1,cG n1⟩) ⟨D2,cG n2⟩) ⟨num,⟨#[]⟩⟩:=by have h:=HR.out;rw[h];simp[aHO,HK.out.1,HK.out.2]
  go_upto_region 23 with(first|(go_at_call 45;refine aE (HC.out.2.2.1 _ (bel w _)) λp=>?_)|(go_at_call 44;refine(HC.out.2.2.2.2.2.1 _ _ _ (zD HB.out.1 (by decide)) (bel w _) (HA.out.out.below (bel _ _))).mono ?_;rintro e w3 ⟨hb3,v3,rfl,ho3⟩;obtain⟨a3,n3,c3,rfl⟩:=ho3.form;have H3:=aC ho3;clear ho3;obtain⟨p3,rfl⟩:=hb3.rest;clear hb3))
  refine aD (F:=λW=>KL w (.slice ai ni ci) (.slice ao no co) (.slice am nm' cm) c (T2.foldl dZ K1) (.slice a3 n3 c3) W) (HA.out.next (bel _ _) (by have h:=H3.out;(try simp only[<-World.junk_junk]at h |-);exact h.below (bel _ _))) ?_;clear k0 k1 k2 c0 c1 c2 c5 c6 ik ic iB hle;intro wB hB;clear HA H3;have HA:=aC hB;obtain⟨k0,k1,k2,c0,c1,c2,c5,c6,ik,ic,iB,hle⟩:=hB.facts;clear hB;rw[HK.out.2]at HA;go_upto_region 24 with(first|(go_at_call 47;refine aE (b0 _ _ HN.out.1 _) λp=>?_)|(go_at_call 42;refine(HC.out.2.2.2.2.2.2 ⟨D1,cG n1⟩ _ _ _ (zD HB.out.2.1 (by decide)) (HN.out.2.2 _) (bel w _) (HA.out.out.below (bel _ _))).mono ?_;rintro e w3 ⟨hb3,v3,rfl,ho3⟩;obtain⟨a3,n3,c3,rfl⟩:=ho3.form;have H3:=aC ho3;clear ho3;obtain⟨p3,rfl⟩:=hb3.rest;clear hb3))
  refine aD (F:=λW=>KL w (.slice ai ni ci) (.slice ao no co) (.slice am nm' cm) c (dZ K2 ⟨D1,cG n1⟩) (.slice a3 n3 c3) W) (HA.out.next (bel _ _) (by have h:=H3.out;(try simp only[<-World.junk_junk]at h |-);exact h.below (bel _ _))) ?_;clear k0 k1 k2 c0 c1 c2 c5 c6 ik ic iB hle;intro wB hB;clear HA H3;have HA:=aC hB;obtain⟨k0,k1,k2,c0,c1,c2,c5,c6,ik,ic,iB,hle⟩:=hB.facts;clear hB;go_wp2_with(first|(go_at_call 47;refine aE (b0 _ _ HN.out.2.1 _) λp=>?_)|(go_at_call 42;refine(HC.out.2.2.2.2.2.2 ⟨D2,cG n2⟩ _ _ _ (HB.out.2.2.1 _ 21 _ HB.out.2.1 (by decide)) (HN.out.2.2 _) (bel w _) (HA.out.out.below (bel _ _))).mono ?_;rintro e w3 ⟨hb3,v3,rfl,ho3⟩;obtain⟨a3,n3,c3,rfl⟩:=ho3.form;have H3:=aC ho3;clear ho3;obtain⟨p3,rfl⟩:=hb3.rest;clear hb3));go_meet;exact⟨_,_,rfl,a0,HB.out.2.2.2 _ _,(HA.out.next (bel _ _) (by have h:=H3.out;(try simp only[<-World.junk_junk]at h |-);exact h.below (bel _ _)))⟩
 obtain⟨zs,z,rfl,a0,hzl,hK⟩:=hcut;obtain⟨a3,n3',c3,rfl⟩:=hK.out.form;have HA:=aC hK;obtain⟨k0,k1,k2,c0,c1,c2,c5,c6,ik,ic,iB,hle⟩:=hK.facts;clear hK;go_wp2_with(go_at_call 42;refine(HC.out.2.2.2.2.2.2 ⟨z,⟨#[]⟩⟩ _ _ _ (hzl) (Nat.zero_le 1000000) (bel w _) (HA.out.out.below (bel _ _))).mono ?_;rintro e w3 ⟨hb3,v3,rfl,ho3⟩;obtain⟨a3,n3,c3,rfl⟩:=ho3.form;have H3:=aC ho3;clear ho3;obtain⟨p3,rfl⟩:=hb3.rest;clear hb3);go_ret;refine⟨HA.out.below.trans ((bel _ _).mono hle),_,rfl,?_⟩;rw[a0];exact H3.out.below (bel _ _)
end
section
theorem aWO (S:PSt) (c:PCall):lA S c=jK S c:=by
 by_cases h:cO S=true
 .unfold lA;rw[zB h]
 have e:(kX S c).2.code≠0:=by
  have hm:fP S c=false:=by unfold fP;rw[Bool.eq_false_iff.2 h,Bool.and_false]
  unfold kX doM;rw[hm,zA (by decide)];show(9:Int)≠0;decide
 rw[aCO e];unfold jK;rw[pX e]
theorem aTR (iv ov mv:Value) (S:PSt) (w:World) (h:StRead w iv ov mv S) (hwf:S.wf):vR w 30 #[.agg #[iv,ov,mv]] (.bool (cO S)):=by have:=aSZ S iv ov mv w h hwf;rw[aJR hwf]at this;exact this
variable {S:PSt} {iv mv ov:Value} {w:World}
theorem StOwn.with_lo {B N:Nat} (h:StOwn N w iv ov mv S) (hB:B<=N):StOwn N w iv ov mv S/\B<=N:=⟨h,hB⟩
structure AW (w:World) (iv ov mv:Value) (S:PSt) (vo:Value) (kss:List (List PKey)) (kvs:List Value) (wr:World):Prop where
 below:Bl w wr
 box:Blk wr w.heap.size #[iv,ov,mv] 26
 st:StHere w wr iv ov mv S
 rows:KRows w.heap.size wr vo kss kvs
theorem AW.later {vo:Value} {kss:List (List PKey)} {kvs:List Value} {wr w':World} (h:AW w iv ov mv S vo kss kvs wr) (hb:Bl wr w'):AW w iv ov mv S vo kss kvs w':=
 ⟨h.below.trans (hb.mono h.below.size),h.box.below hb h.box.lt.lt,h.st.keep (X:=λ_=>False) (Keep.of_below hb _) h.below.size (λ_ h=>h.elim) (λ_ h=>h.elim),h.rows.keep (Keep.of_below hb (λ_=>False)) (λ_ h=>h.elim)⟩
theorem bAW (iv ov mv:Value) (S:PSt) (cs:List PCall) (vc:Value) (w:World) (h:StRead w iv ov mv S) (hwf:S.wf) (hc:RowAt w 8 vc (cs.map PCall.cells)) (hcl:cs.length<=1000000000):
 Calls prog 55 #[.agg #[iv,ov,mv],vc] w λe w'=>Bl w w'/\∃vo kvs,e=.returned vo/\KRows w.heap.size w' vo (jM S cs) kvs:=by
 obtain⟨ai,ni,ci,ao,no,co,am,nm,cm,rfl,rfl,rfl⟩:=h.slices;obtain⟨ac,cc,rfl,hatc⟩:=hc.at_;rw[lM];obtain⟨i29,hi29,hz29,h29,h29b⟩:=info_parts aUN;have HS:=bJ h hatc;clear h hatc hc;go_in;go_upto_region 3 with fail;refine aD (F:=λwA=>AW w (.slice ai ni ci) (.slice ao no co) (.slice am nm cm) S (.slice none 0 0) [] [] wA) ⟨bel w _,Blk.new _ _ _,.inl ⟨HS.out.1,bel w _⟩,⟨.inl ⟨rfl,rfl⟩,rfl,λi kv ks h=>by simp at h⟩⟩ ?_;intro wA HA0;have HA:=aC HA0;clear HA0;go_wp2
 go_loopw[5,6] (λvo vi wr=>∃(q:Nat) (kvs:List Value) (vx:Value) (a1:Option Addr) (a2 a3:Nat) (a4:Option Addr) (a5 a6:Nat) (a7:Option Addr) (a8 a9:Nat),vi=.int .i64 q/\vx=vo/\q<=cs.length/\AW w (.slice a1 a2 a3) (.slice a4 a5 a6) (.slice a7 a8 a9) (stM S (cs.take q)) vx (jM S (cs.take q)) kvs wr) (λ_ vi _=>(cs.length-intOf vi).toNat)
 case atStart=>exact⟨0,[],_,_,_,_,_,_,_,_,_,_,rfl,rfl,by omega,HA.out⟩
 obtain⟨q,kvs,vx,a1,a2,a3,a4,a5,a6,a7,a8,a9,rfl,rfl,hq,hA⟩:=hrel;by_cases hlt:q<cs.length
 .obtain⟨c,hc⟩:=gAA hlt
  have iB:Bel w wr:=⟨hA.below⟩;obtain⟨bc,offc,rfl,iC0,iC,hcc⟩:=HS.out.2 wr hA.below q c.cells (by rw[gM,hc];rfl);have y0:=hcc 0 _ rfl;have y1:=hcc 1 _ rfl;have y2:=hcc 2 _ rfl;have y3:=hcc 3 _ rfl;have y4:=hcc 4 _ rfl;have y5:=hcc 5 _ rfl;have y6:=hcc 6 _ rfl;have y7:=hcc 7 _ rfl;rw[zN]at y0;have c2:=aKU (cs.take q) S hwf;have d0:cs.take (q+1)=cs.take q++[c]:=by rw[take_succ_eq_append_getElem hlt];congr 2;rw[gE hlt]at hc;exact Option.some.inj hc
  have c3:(kX (stM S (cs.take q)) c).1=stM S (cs.take (q+1)):=by rw[d0,aAF]
  have d3:jM S (cs.take (q+1))=jM S (cs.take q)++[jK (stM S (cs.take q)) c]:=by rw[d0,uD]
  have c0:=fun(ww:World) (hb:Bl wr ww)=>aZL _ _ _ (stM S (cs.take q)) c ww (hA.st.read.below hb (zC _)) c2;rw[aSO c2,aWO]at c0;obtain⟨b0,b1,b2,b3⟩:=gR hA.box;have d8:=hA.rows.len;rw[nK,zU]at d8;have c4:=hA.rows.out.form;obtain⟨ax,nx,cx,rfl⟩:=c4;have HR:=eH hA d3 c3;have d9:=hA.below.size;clear hA d3 c3 d0 hcc;unfold PCall.val at c0;generalize jK (stM S (cs.take q)) c=K1 at *;go_upto_region 5 with fail;refine aH [6,7,8] true (λw'=>w'.cell? w.heap.size=some (.slice a1 a2 a3)/\w'.cell? ⟨w.heap.size,1,none⟩=some (.slice a4 a5 a6)/\w'.cell? ⟨w.heap.size,2,none⟩=some (.slice a7 a8 a9)/\w'.cell? ⟨bc,offc+q*8,none⟩=some (.int .i64 c.kind)/\w'.cell? ⟨bc,offc+q*8+1,none⟩=some (.int .i64 c.core)/\w'.cell? ⟨bc,offc+q*8+2,none⟩=some (.int .i64 c.fd)/\w'.cell? ⟨bc,offc+q*8+3,none⟩=some (.int .i64 c.off)/\w'.cell? ⟨bc,offc+q*8+4,none⟩=some (.int .i64 c.num)/\w'.cell? ⟨bc,offc+q*8+5,none⟩=some (.string c.path)/\w'.cell? ⟨bc,offc+q*8+6,none⟩=some (.string c.path2)/\w'.cell? ⟨bc,offc+q*8+7,none⟩=some (.string c.data)) (by kernel_rfl) (by kernel_rfl) ?_ ?_
  · (try dsimp only);(repeat' apply And.intro)<;>go_simp
  repeat
   apply aI0 rfl rfl
   focus
    rintro w' ⟨s0,s1,s2,s3,s4,s5,s6,s7,s8,s9,s10⟩;go_simp
    first|done|rfl
   simp only[Act.put,sA,sZ,sS]
  refine bB rfl rfl ?_;refine aS 13 #[.agg #[.slice a1 a2 a3,.slice a4 a5 a6,.slice a7 a8 a9],.agg #[c.kind,c.core,c.fd,c.off,c.num,c.path,c.path2,c.data]] ?hr ?_
  case hr=>
   go_simp
   first|done|rfl
  refine(c0 wr.drew (bel wr _)).mono ?_;rintro e w5 ⟨hb5,kv,rfl,ho5⟩;obtain⟨ak,nk,ck,rfl⟩:=ho5.form;have c1:=(bel wr wr.drew).trans (hb5.mono (bel wr wr.drew).size);have e0:Bel wr w5:=⟨c1⟩;obtain⟨bd,offd,he,iD0,iD5,hc5⟩:=HS.out.2 w5 (HR.out.1.below.trans (c1.mono d9)) q c.cells (by rw[gM,hc];rfl);simp only[zF,yG,and_true]at he;obtain⟨rfl,rfl⟩:=he;have z0:=hc5 0 _ rfl;have z1:=hc5 1 _ rfl;have z2:=hc5 2 _ rfl;have z3:=hc5 3 _ rfl;have z4:=hc5 4 _ rfl;have z5:=hc5 5 _ rfl;have z6:=hc5 6 _ rfl;have z7:=hc5 7 _ rfl;rw[zN]at z0;clear hc5;have d1:=HR.out.1.later c1;obtain⟨i5,r0,r1,r2⟩:=gR d1.box;have H5:=eH d1 ho5 c1;clear d1 ho5 hb5 c1;refine⟨_,rfl,.inl ⟨r0,r1,r2,z0,z1,z2,z3,z4,z5,z6,z7⟩,?_⟩;simp only[Act.put,sA,sZ,sS];refine nS rfl rfl ?_;apply Exists.intro;apply Exists.intro;refine⟨?_,?_,?_⟩
  focus
   go_simp;exact⟨rfl,rfl⟩
  focus
   refine .inl ?_
   (try dsimp only);(repeat' apply And.intro)<;>go_simp
  simp only[Act.put,sA,sZ,sS];refine bB rfl rfl ?_;refine sO (.tmp 15) (.tmp 22) 85 ?e00 w.heap.size 29 1 24 i29 _ underlying85 hi29 hz29 h29 h29b ?e9 ?e10 (.slice ax nx cx) (.slice w5.heap.size 1 1) (kvs.map λkv=>[kv]) [[.slice ak nk ck]] ?e1 ?e3 ?e2 ?e4 ?e5 ?e6 ?e11 ?e12 ?e13 ?e14 ?_
  case e00=>rfl
  case e9=>rfl
  case e10=>decide
  case e1=>rfl
  case e3=>rfl
  case e2=>intro cs hcs;obtain⟨r,_,rfl⟩:=mem_map.1 hcs;rfl
  case e4=>intro cs hcs;simp at hcs;subst hcs;rfl
  case e5=>intro cs hcs u hu;simp at hcs;subst hcs;simp at hu;subst hu;rfl
  case e6=>exact H5.out.1.rows.out.below (bel w5 _)
  case e11=>exact RowAt.single (Blk.new w5 #[.slice ak nk ck] 29) 1 1
  case e12=>rw[lM];unfold maxLen;simp;omega
  case e13=>rw[lM];simp;omega
  case e14=>have:=H5.out.2.2.size;simp;omega
  intro v' w6 hG;rw[show (List.map (λkv=>[kv]) kvs++[[Value.slice ak nk ck]])=(kvs++[Value.slice ak nk ck]).map (λkv=>[kv]) by rw[yS];rfl]at hG;have e7:=H5.out.2.2.size;have d4:=H5.out.2.1.mono (B':=w.heap.size) (by simp;omega);have c7:=H5.out.1.rows.more d4 (bel w5 (w5.alloc (.cells #[.slice ak nk ck] 29))) hG;rw[<-HR.out.2.1]at c7;have c8:Keep (λg=>Value.ownBlock (.slice ax nx cx)=some g) w5 w6:=(Keep.of_below (bel w5 (w5.alloc (.cells #[.slice ak nk ck] 29))) _).trans hG.2.1 (λi hi hg=>hg);have c5:∀g,Value.ownBlock (.slice ax nx cx)=some g->w.heap.size<=g/\∃c,Blk w5 g c 29:=λg hg=>⟨H5.out.1.rows.out.ge hg,H5.out.1.rows.out.blk hg⟩;have d5:AW w (.slice a1 a2 a3) (.slice a4 a5 a6) (.slice a7 a8 a9) (stM S (cs.take q)) v' (jM S (cs.take (q+1))) (kvs++[Value.slice ak nk ck]) w6:={
   below:=H5.out.1.below.trans (c8.below (by omega) (λi hi hg=>by have:=(c5 i hg).1;omega))
   box:=c8.blk H5.out.1.box (λhg=>by
    obtain⟨_,c,hc⟩:=c5 _ hg;exact hc.ne_ H5.out.1.box (by decide) rfl)
   st:=H5.out.1.st.keep c8 (by omega) (λg hg=>(c5 g hg).1) (λg hg=>by
    obtain⟨_,c,hc⟩:=c5 g hg;exact⟨c,29,hc,by decide,by decide,by decide,by decide⟩)
   rows:=c7}
  obtain⟨av,nv,cv,rfl⟩:=c7.out.form;have HF:=aC d5;clear hG c7 c8 c5 d5 d4 H5 c0 r0 r1 r2 z0 z1 z2 z3 z4 z5 z6 z7 i5 iD5 e0 iB y0 y1 y2 y3 y4 y5 y6 y7 b0 b1 b2 b3 e7;obtain⟨-,x0,x1,x2⟩:=gR HF.out.box;have d6:=HF.out.box.lt;have f4:Bel w w6:=⟨HF.out.below⟩;obtain⟨bd,offd,he,iD0,iD,hcc⟩:=HS.out.2 w6 HF.out.below q c.cells (by rw[gM,hc];rfl);simp only[zF,yG,and_true]at he;obtain⟨rfl,rfl⟩:=he;have y0:=hcc 0 _ rfl;have y1:=hcc 1 _ rfl;have y2:=hcc 2 _ rfl;have y3:=hcc 3 _ rfl;have y4:=hcc 4 _ rfl;have y5:=hcc 5 _ rfl;have y6:=hcc 6 _ rfl;have y7:=hcc 7 _ rfl;rw[zN]at y0;refine⟨.inl ⟨x0,x1,x2,y0,y1,y2,y3,y4,y5,y6,y7⟩,?_⟩;simp only[Act.put,sA,sZ,sS];apply aI0 rfl rfl
  focus
   rintro w' ⟨s0,s1,s2,s3,s4,s5,s6,s7,s8,s9,s10⟩;go_simp
   first|done|rfl
  simp only[Act.put,sA,sZ,sS];refine aU ?_;have d2:=fun(ww:World) (hb:Bl w6 ww)=>aXL c2 c _ _ _ ww (HF.out.st.read.below hb (zC _)) (λw3 hb3=>aTR _ _ _ _ w3 ((HF.out.st.read.below hb (zC _)).below hb3 (zC _)) c2);rw[HR.out.2.2]at d2;have e8:=HF.out.below.size;clear hcc hc;go_upto_region 6 with fail;go_cut [7,8] (λv15 v16 wx=>∃(g15:Nat) (b1:Option Addr) (b2 b3:Nat) (b4:Option Addr) (b5 b6:Nat) (b7:Option Addr) (b8 b9:Nat),v15=.pointer g15/\Blk wx g15 #[.slice b1 b2 b3,.slice b4 b5 b6,.slice b7 b8 b9] 26/\StOwn w.heap.size wx (.slice b1 b2 b3) (.slice b4 b5 b6) (.slice b7 b8 b9) (stM S (cs.take (q+1)))/\w6.heap.size<=g15/\Bl w6 wx)
  case first=>
   go_region_held3 (λw'=>w'.cell? w.heap.size=some (.slice a1 a2 a3)/\w'.cell? ⟨w.heap.size,1,none⟩=some (.slice a4 a5 a6)/\w'.cell? ⟨w.heap.size,2,none⟩=some (.slice a7 a8 a9)/\w'.cell? ⟨bc,offc+q*8,none⟩=some (.int .i64 c.kind)/\w'.cell? ⟨bc,offc+q*8+1,none⟩=some (.int .i64 c.core)/\w'.cell? ⟨bc,offc+q*8+2,none⟩=some (.int .i64 c.fd)/\w'.cell? ⟨bc,offc+q*8+3,none⟩=some (.int .i64 c.off)/\w'.cell? ⟨bc,offc+q*8+4,none⟩=some (.int .i64 c.num)/\w'.cell? ⟨bc,offc+q*8+5,none⟩=some (.string c.path)/\w'.cell? ⟨bc,offc+q*8+6,none⟩=some (.string c.path2)/\w'.cell? ⟨bc,offc+q*8+7,none⟩=some (.string c.data))
    (first|(try dsimp only)<;>(repeat' apply And.intro)<;>go_simp)
    (first|(go_at_call 31;refine(d2 _ (bel w6 _)).mono ?_;rintro e wa ⟨hb,iv1,ov1,mv1,nv1,rfl,hs1,hn1⟩;obtain⟨pa,rfl⟩:=hb.rest;have c3:=hs1.with_lo (zD e8 (bel w6 _).size);obtain⟨b1,b2,b3,b4,b5,b6,b7,b8,b9,rfl,rfl,rfl⟩:=hs1.forms;obtain⟨an,nn,cn,rfl⟩:=hn1.form;have c9:=aC c3;clear hb hs1 c3 hn1))
   all_goals go_wp2_with fail
   all_goals go_meet
   all_goals(refine ⟨_,b1,b2,b3,b4,b5,b6,b7,b8,b9,rfl,?_,?_,by omega,bel w6 _⟩)
   all_goals first
    |((repeat (first|exact Blk.new_i _ _ _ _|refine Blk.alloc ?_ _|refine Blk.junk ?_ _|refine Blk.drew ?_));done)
    |exact(c9.out.1.on (bel _ _)).mono c9.out.2
    |exact(c9.out.1.above _).mono c9.out.2
  obtain⟨g15,b1,b2,b3,b4,b5,b6,b7,b8,b9,rfl,h15b,hsb,hgr,hbx⟩:=hcut;clear x0 x1 x2 y0 y1 y2 y3 y4 y5 y6 y7 d6 d2;have c6:=HF.out.later hbx;have a0:=c6.box;have f3:=HF.out.box.lt.lt;have f5:=h15b.lt;have d6:=a0.lt;have x0:=h15b.cell 0;have x1:=h15b.cell 1;have x2:=h15b.cell 2;have o0:=a0.cell 0;have o1:=a0.cell 1;have o2:=a0.cell 2;have f0:=a0.frozen 0;have f1:=a0.frozen 1;have f2:=a0.frozen 2;simp at x0 x1 x2 o0 o1 o2;have n1:¬g15=w.heap.size:=by omega
  have n2:¬w.heap.size=g15:=by omega
  have hK:Keep (λg=>g=w.heap.size) wc (((wc.setCell w.heap.size (.slice b1 b2 b3)).setCell ⟨w.heap.size,1,none⟩ (.slice b4 b5 b6)).setCell ⟨w.heap.size,2,none⟩ (.slice b7 b8 b9)):=(((Keep.refl (λg=>g=w.heap.size) wc).setCell (p:=w.heap.size) (.inl rfl) _).setCell (p:=⟨w.heap.size,1,none⟩) (.inl rfl) _).setCell (p:=⟨w.heap.size,2,none⟩) (.inl rfl) _;have d7:AW w (.slice b1 b2 b3) (.slice b4 b5 b6) (.slice b7 b8 b9) (stM S (cs.take (q+1))) (.slice av nv cv) (jM S (cs.take (q+1))) (kvs++[Value.slice ak nk ck]) (((wc.setCell w.heap.size (.slice b1 b2 b3)).setCell ⟨w.heap.size,1,none⟩ (.slice b4 b5 b6)).setCell ⟨w.heap.size,2,none⟩ (.slice b7 b8 b9)):={
   below:=c6.below.trans (hK.below c6.below.size (λi hi e=>by omega))
   box:=((a0.set_ 0 _).set_ 1 _).set_ 2 _
   st:=.inr (hsb.keep hK (λg hg=>by rw[hg];exact⟨_,26,a0,by decide,by decide,by decide,by decide⟩))
   rows:=c6.rows.keep hK (λg hg=>by rw[hg];exact⟨_,26,a0,by decide,by decide⟩)}
  have HN:=aC d7;clear d7 hK a0 h15b hsb hbx c6;go_wp2;go_roundw
  case rel=>exact⟨q+1,_,_,b1,b2,b3,b4,b5,b6,b7,b8,b9,by go_num,rfl,by omega,HN.out⟩
  simp[intOf];omega
 have e:cs.take q=cs:=take_of_length_le (by omega);rw[e]at hA;have HK:=aC hA;clear hA e;go_wp2;go_ret;exact⟨HK.out.below.trans ((bel wr _).mono HK.out.below.size),vx,kvs,rfl,HK.out.rows.keep (Keep.of_below (bel wr _) (λ_=>False)) (λ_ h=>h.elim)⟩
end
theorem aXM:aYB 55:=λiv ov mv S cs vc w h hwf hc _ hcl=>bAW iv ov mv S cs vc w h hwf hc hcl
theorem aTW:aDY 27:=aLK (.inr ⟨rfl,rfl,rfl,rfl⟩) aTR aXM aMT
theorem aPP:wN 24:=aFL (.inr ⟨rfl,rfl,rfl,rfl⟩) aTR aXM aMT
theorem wR (inn:List Bool):RowsIn (dV inn) 1 (inn.map aO):=by
 intro q cs hq t u hu;rw[gM]at hq;obtain⟨x,hx,rfl⟩:=Option.map_eq_some_iff.1 hq;rcases t with _|t
 .cases hu;rw[Nat.mul_one,zN];exact jA hx
 simp[aO]at hu
theorem aRP (l:List Bool):∀cs∈l.map aO,cs.length=1:=λcs h=>by obtain⟨r,_,rfl⟩:=mem_map.1 h;rfl
theorem aRQ (l:List Bool):∀cs∈l.map aO,∀u∈cs,u.oneCell'=true:=λcs h=>by obtain⟨r,_,rfl⟩:=mem_map.1 h;simp[aO,Value.oneCell']
theorem bBP:aEX aO 39 4 1:=vA aMZ underlying39 rfl (by decide) (by decide) aRP aRQ
structure DW (w:World) (iv ov mv:Value) (S:PSt) (cs:List PCall) (want:List Int) (g9:Nat) (iv' ov' mv' yv zv:Value) (wr:World):Prop where
 below:Bl w wr
 b0:Blk wr w.heap.size #[iv,ov,mv] 26
 b9:Blk wr g9 #[iv',ov',mv'] 26
 ls:∃B,LS B wr iv' ov' mv' S
 y:∃B,Lent B wr 28 8 yv (cs.map PCall.cells) (mC.map PCall.cells)
 z:∃B,Lent B wr 3 1 zv (want.map aJ) (mI.map aJ)
theorem DW.later {w:World} {iv ov mv:Value} {S:PSt} {cs:List PCall} {want:List Int} {g9:Nat} {iv' ov' mv' yv zv:Value} {wr w':World} (h:DW w iv ov mv S cs want g9 iv' ov' mv' yv zv wr) (hb:Bl wr w'):DW w iv ov mv S cs want g9 iv' ov' mv' yv zv w':=
 ⟨h.below.trans (hb.mono h.below.size),h.b0.below hb h.b0.lt.lt,h.b9.below hb h.b9.lt.lt,h.ls.imp λ_ x=>x.below hb,h.y.imp λ_ x=>x.below hb,h.z.imp λ_ x=>x.below hb⟩
structure DX (w:World) (iv ov mv:Value) (S:PSt) (cs:List PCall) (want:List Int) (g9:Nat) (iv' ov' mv' yv zv:Value) (M inn:List Bool) (av bv uv:Value) (wr:World):Prop where
 dw:DW w iv ov mv S cs want g9 iv' ov' mv' yv zv wr
 a:RowAt wr 1 av (M.map aO)
 b:RowAt wr 1 bv (M.map aO)
 u:RowAt wr 1 uv (inn.map aO)
theorem aNP (iv ov mv:Value) (S:PSt) (cs:List PCall) (inn:List Bool) (want:List Int) (vc vi vw:Value) (w:World) (h:StRead w iv ov mv S) (hwf:S.wf) (hc:RowAt w 8 vc (cs.map PCall.cells)) (hcd:∀c∈cs,c.data.size<=1000000000000000000) (hcl:cs.length<=1048576) (hi:RowAt w 1 vi (inn.map aO)) (hil:inn.length<=1048576) (hw:RowAt w 1 vw (want.map aJ)) (hwl:want.length<=1048576) (hw64:∀k∈want,I64 k):
 vR w 4 #[.agg #[iv,ov,mv],vc,vi,vw] (.bool true):=by
 have b1:=aYT iv ov mv S;have b2:=fun(ww:World) (hb:Bl w ww)=>aGN.2.2.2.2 _ rfl cs vc ww (hc.below hb (zC _)) (by omega);have b3:=fun(ww:World) (hb:Bl w ww)=>aGN.2.2.2.1 _ rfl want vw ww (hw.below hb (zC _)) (by omega);have b4:∀(i o m yv zv:Value) ww,StRead ww i o m S->RowAt ww 8 yv (cs.map PCall.cells)->RowAt ww 1 zv (want.map aJ)->Calls prog 23 #[.agg #[i,o,m],yv,zv] ww _:=λi o m yv zv ww hr hy hz=>aBQ i o m S cs want yv zv ww hr hwf hy hcd (by omega) hz (by omega) hw64;have b5:=fun(ww:World) (hb:Bl w ww)=>aPP iv ov mv S cs want vc vw ww (h.below hb (zC _)) hwf (hc.below hb (zC _)) hcd (by omega) (hw.below hb (zC _)) (by omega) hw64;have b6:∀(i o m yv uv:Value) (I:List Bool) ww,I.length<=1048576->StRead ww i o m S->RowAt ww 8 yv (cs.map PCall.cells)->RowAt ww 1 uv (I.map aO)->vR ww 26 #[.agg #[i,o,m],yv,uv] (.bool (jT S cs I)):=λi o m yv uv I ww hI hr hy hu=>aFM i o m S cs I yv uv ww hr hwf hy hcd (by omega) hu (by omega);have b7:∀(uv:Value) (I:List Bool) ww,I.length<=1048576->Bl w ww->RowAt ww 1 uv (I.map aO)->vR ww 27 #[.agg #[iv,ov,mv],vc,uv] (.bool (jT S cs I)):=λuv I ww hI hb hu=>aTW iv ov mv S cs I vc uv ww (h.below hb (zC _)) hwf (hc.below hb (zC _)) hcd (by omega) hu (by omega);have b8:∀(B:Nat) (i o m:Value) (ww:World),LS B ww i o m S->Bl w ww->vR ww 15 #[.agg #[i,o,m],.agg #[iv,ov,mv]] (.bool true):=λB i o m ww hl hb=>aYP B i o m iv ov mv S ww hl (h.below hb (zC _)) hwf;have c3:∀(B:Nat) (yv:Value) (ww:World),Lent B ww 28 8 yv (cs.map PCall.cells) (mC.map PCall.cells)->Bl w ww->vR ww 28 #[yv,vc] (.bool true):=λB yv ww hl hb=>aGP.2.2.2.2 B cs yv vc ww hl (hc.below hb (zC _)) (by omega);have c4:∀(B:Nat) (zv:Value) (ww:World),Lent B ww 3 1 zv (want.map aJ) (mI.map aJ)->Bl w ww->vR ww 29 #[zv,vw] (.bool true):=λB zv ww hl hb=>aGP.2.2.2.1 B want zv vw ww hl (hw.below hb (zC _)) (by omega);have c5:=aDX S cs want;have a8:=λww=>aVD ww;have o1:=h.1.one;have o2:=h.2.1.one;have o3:iv.oneCell'=true:=by obtain⟨_,_,_,h3,_⟩:=h;exact h3.one
 have d4:=hc.one;have d5:=hi.one;have d6:=hw.one;generalize jE S cs want=M at *;generalize hC1:jT S cs inn=C1 at *;have HP:=jj9 h hi b4 b5 b6 b7 b8 c3 c4;have c6:=aC hC1;clear h b4 b5 b6 b7 b8 c3 c4 hcd hw64 hc hi hw hC1;unfold vR;go_in;go_upto_region 2 with(first|(go_at_call 10;refine(b1 _ (HP.out.1.below (bel w _) (zC _)) hwf).mono ?_;rintro e w1 ⟨hb1,iv',ov',mv',rfl,hls⟩;obtain⟨a1,n1,x1,a2,n2,x2,a3,n3,x3,rfl,rfl,rfl⟩:=hls.read.slices;have HL:=aC hls;clear hls;obtain⟨p1,rfl⟩:=hb1.rest;clear hb1)|(go_at_call 21;refine(b2 _ (bel w _)).mono ?_;rintro e w2 ⟨hb2,yv,rfl,hy⟩;obtain⟨gy,ny,hyv,hyh⟩:=hy;rw[lM]at hyv;subst hyv;have HY:=aC hyh;clear hyh;obtain⟨p2,rfl⟩:=hb2.rest;clear hb2)|(go_at_call 22;refine(b3 _ (bel w _)).mono ?_;rintro e w3 ⟨hb3,zv,rfl,hz⟩;obtain⟨gz,nz,hzv,hzh⟩:=hz;rw[lM]at hzv;subst hzv;have HZ:=aC hzh;clear hzh;obtain⟨p3,rfl⟩:=hb3.rest;clear hb3))
 refine aD (F:=λW=>DW w iv ov mv S cs want (w.heap.size+1+((p1.more p2).more p3).len) (.slice a1 n1 x1) (.slice a2 n2 x2) (.slice a3 n3 x3) (.slice gy cs.length ny) (.slice gz want.length nz) W) ?_ ?_
 .refine⟨bel w _,aB (Blk.new w #[iv,ov,mv] 26) (bel _ _),Blk.new_i _ _ 26 _,?_,?_,?_⟩
  .have h:=HL.out
   (try simp only[<-World.junk_junk]at h |-)
   exact⟨_,h.below (bel _ _)⟩
  .have h:=HY.out.2
   (try simp only[<-World.junk_junk]at h |-)
   exact⟨_,gy,ny,by rw[lM],HY.out.1,h.below (bel _ _)⟩
  have h:=HZ.out.2
  (try simp only[<-World.junk_junk]at h |-)
  exact⟨_,gz,nz,by rw[lM],HZ.out.1,h.below (bel _ _)⟩
 generalize w.heap.size+1+((p1.more p2).more p3).len=g9;intro wA hA;obtain⟨i9,k0,k1,k2⟩:=gR hA.b9;obtain⟨i0,c0,c1,c2⟩:=gR hA.b0;have iB:Bel w wA:=⟨hA.below⟩;obtain⟨BL,hls⟩:=hA.ls;obtain⟨BY,hy⟩:=hA.y;obtain⟨BZ,hz⟩:=hA.z;have c7:=fun(ww:World) (hb:Bl wA ww)=>HP.out.2.2.1 _ _ _ _ _ ww (hls.read.below hb (zC _)) (hy.row.below hb (zC _)) (hz.row.below hb (zC _));have HA:=aC hA;clear hA b1 b2 b3 HL HY HZ hls hy hz;go_upto_region 3 with(go_at_call 23;refine(c7 _ (bel _ _)).mono ?_;rintro e w5 ⟨hb5,g5,rfl,hg5,hk5⟩)
 have H5:=aC (dD (n:=cs.length) (t:=4) hk5 (by rw[lM];exact c5) (by unfold maxLen;omega) (wR M));clear hk5 hg5;obtain⟨p5,rfl⟩:=hb5.rest;clear hb5;go_upto_region 4 with(go_at_call 24;refine(HP.out.2.2.2.1 _ (bel _ _)).mono ?_;rintro e w6 ⟨hb6,g6,rfl,hg6,hk6⟩)
 have H6:=aC (dD (n:=cs.length) (t:=4) hk6 (by rw[lM];exact c5) (by unfold maxLen;omega) (wR M));clear hk6 hg6;obtain⟨p6,rfl⟩:=hb6.rest;clear hb6;refine aD (F:=λW=>DX w iv ov mv S cs want g9 (.slice a1 n1 x1) (.slice a2 n2 x2) (.slice a3 n3 x3) (.slice gy cs.length ny) (.slice gz want.length nz) M [] (.slice g5 cs.length cs.length) (.slice g6 cs.length cs.length) (.slice none 0 0) W) ?_ ?_
 .refine⟨HA.out.later (bel wA _),?_,?_,?_⟩
  .have h:=H5.out
   (try simp only[<-World.junk_junk]at h |-)
   exact h.below (bel _ _) (zC _)
  .have h:=H6.out
   (try simp only[<-World.junk_junk]at h |-)
   first|exact h|exact h.below (bel _ _) (zC _)
  exact⟨none,0,rfl,Nat.zero_le _,λh=>by simp at h⟩
 clear k0 k1 k2 c0 c1 c2 i9 i0 iB c7 HA H5 H6;intro wB hX;have iB:Bel w wB:=⟨hX.dw.below⟩;have c8:=HP.out.2.1.below hX.dw.below (zC _);obtain⟨ai,ni,rfl⟩:∃a n,vi=.slice a inn.length n:=by obtain⟨a,c,h,-⟩:=HP.out.2.1;exact⟨a,c,by rw[lM]at h;exact h⟩
 have HX:=bJ hX c8;clear hX c8;go_upto_region 5 with(at_builtin;refine bBP rfl _ _ rfl wB.heap.size (.slice wB.heap.size 0 0) (.slice ai inn.length ni) [] inn rfl rfl (aMA wB _ _) (HX.out.2.below (bel wB _) (zC _)) (by simp;omega) (by simp) ?_)
 intro vu wC hG;have a9:=(bel wB (wB.alloc (.cells #[] _))).trans (hG.2.1.below (by simp) (λi hi hg=>by
  have:wB.heap.size=i:=by simpa[Value.ownBlock]using hg
  omega))
 obtain⟨hu,-,-⟩:=hG;obtain⟨au,nu,cu,rfl⟩:=hu.form;have hX:DX w iv ov mv S cs want g9 (.slice a1 n1 x1) (.slice a2 n2 x2) (.slice a3 n3 x3) (.slice gy cs.length ny) (.slice gz want.length nz) M inn (.slice g5 cs.length cs.length) (.slice g6 cs.length cs.length) (.slice au nu cu) wC:=⟨HX.out.1.dw.later a9,HX.out.1.a.below a9 (zC _),HX.out.1.b.below a9 (zC _),hu.row⟩;clear hu a9 HX iB;obtain⟨i9,k0,k1,k2⟩:=gR hX.dw.b9;obtain⟨i0,c0,c1,c2⟩:=gR hX.dw.b0;have iB:Bel w wC:=⟨hX.dw.below⟩;obtain⟨BL,hls⟩:=hX.dw.ls;obtain⟨BY,hy⟩:=hX.dw.y;obtain⟨BZ,hz⟩:=hX.dw.z;have a0:=fun(ww:World) (hb:Bl wC ww)=>hX.dw.below.trans (hb.mono hX.dw.below.size);have c9:vB wC 25 #[(.slice g5 cs.length cs.length),(.slice g6 cs.length cs.length)] (.bool true):=λww hb=>by have:=pB M M _ _ ww (hX.a.below hb (zC _)) (hX.b.below hb (zC _));rw[beq_self_eq_true]at this;exact this
 have d0:vB wC 25 #[.slice au nu cu,.slice ai inn.length ni] (.bool true):=λww hb=>by have:=pB inn inn _ _ ww (hX.u.below hb (zC _)) (HP.out.2.1.below (a0 ww hb) (zC _));rw[beq_self_eq_true]at this;exact this
 have a4:=fun(ww:World) (hb:Bl wC ww)=>HP.out.2.2.2.2.1 _ _ _ _ _ inn ww hil (hls.read.below hb (zC _)) (hy.row.below hb (zC _)) (hX.u.below hb (zC _));have a5:=fun(ww:World) (hb:Bl wC ww)=>HP.out.2.2.2.2.1 _ _ _ _ _ M ww (by omega) (hls.read.below hb (zC _)) (hy.row.below hb (zC _)) (hX.a.below hb (zC _));have a6:=fun(ww:World) (hb:Bl wC ww)=>HP.out.2.2.2.2.2.1 _ inn ww hil (a0 ww hb) (HP.out.2.1.below (a0 ww hb) (zC _));have a7:=fun(ww:World) (hb:Bl wC ww)=>HP.out.2.2.2.2.2.1 _ M ww (by omega) (a0 ww hb) (hX.b.below hb (zC _));have d1:=fun(ww:World) (hb:Bl wC ww)=>HP.out.2.2.2.2.2.2.1 BL _ _ _ ww (hls.below hb) (a0 ww hb);have d2:=fun(ww:World) (hb:Bl wC ww)=>HP.out.2.2.2.2.2.2.2.1 BY _ ww (hy.below hb) (a0 ww hb);have d3:=fun(ww:World) (hb:Bl wC ww)=>HP.out.2.2.2.2.2.2.2.2 BZ _ ww (hz.below hb) (a0 ww hb);rw[c6.out]at a4 a6;generalize jT S cs M=C2 at a5 a7;have HA:=aC hX.dw.below;clear hX hls hy hz a0 HP c6;go_wp2;refine qR ?_
 repeat(go_big_quiet_step (first|(go_at_call 25;first|(with_reducible first|refine cI (c9 _ (bel _ _))|refine cJ (c9 _ (bel _ _)))|(with_reducible first|refine cI (d0 _ (bel _ _))|refine cJ (d0 _ (bel _ _))))|(go_at_call 26;first|(with_reducible first|refine cI (a4 _ (bel _ _))|refine cJ (a4 _ (bel _ _)))|(with_reducible first|refine cI (a5 _ (bel _ _))|refine cJ (a5 _ (bel _ _))))|(go_at_call 27;first|(with_reducible first|refine cI (a6 _ (bel _ _))|refine cJ (a6 _ (bel _ _)))|(with_reducible first|refine cI (a7 _ (bel _ _))|refine cJ (a7 _ (bel _ _))))|(go_at_call 15;first|(with_reducible first|refine cI (d1 _ (bel _ _))|refine cJ (d1 _ (bel _ _))))|(go_at_call 28;first|(with_reducible first|refine cI (d2 _ (bel _ _))|refine cJ (d2 _ (bel _ _))))|(go_at_call 29;first|(with_reducible first|refine cI (d3 _ (bel _ _))|refine cJ (d3 _ (bel _ _))))|(go_at_call 20;first|refine cI (a8 _)|refine cJ (a8 _))))
 refine QN λp=>?_;go_wp2;go_ret;exact⟨rfl,HA.out.trans ((bel wC _).mono HA.out.size)⟩
end Go.Proofs.YtmkapobnfigedaaGreatDoor
