/- A part of a proof of a law. Conditions: none. -/
import Derived.Test.YtmkapobnfigedaaGreatDoorDp24
import Derived.Test.YtmkapobnfigedaaGreatDoorDp21
set_option linter.unusedVariables false
set_option linter.unusedSimpArgs false
set_option maxRecDepth 100000
set_option maxHeartbeats 40000000
namespace Go.Proofs.YtmkapobnfigedaaGreatDoor
open Go.Proofs.Tryz List Go.RowKit
section
def PSt.wfn (n:Nat) (S:PSt):Prop:=
 S.ins.length<=n/\S.op.length<=n/\S.made.length<=n/\(∀x∈S.ins,I64 x.num/\x.ents.length<=n/\∀e∈x.ents,I64 e.num)/\(∀d∈S.op,I64 d.core/\I64 d.fd/\I64 d.num)/\∀m∈S.made,I64 m
variable {K i n:Nat} {S S':PSt} {c:PCall} {es:List PEnt} {r:PRes} {x:PIn}
theorem PSt.wfn.wf (h:S.wfn n) (hn:n<=1000000000):S.wf:=by obtain⟨h1,h2,h3,h4,h5,h6⟩:=h;exact⟨by omega,by omega,by omega,λx hx=>⟨(h4 x hx).1,by have:=(h4 x hx).2.1;omega,(h4 x hx).2.2⟩,h5,h6⟩
theorem PSt.wfn.mono {m:Nat} (h:S.wfn n) (hn:n<=m):S.wfn m:=by obtain⟨h1,h2,h3,h4,h5,h6⟩:=h;exact⟨by omega,by omega,by omega,λx hx=>⟨(h4 x hx).1,by have:=(h4 x hx).2.1;omega,(h4 x hx).2.2⟩,h5,h6⟩
theorem mT {α:Type} {l:List α} {x y:α} (h:y∈aY l i x):y=x\/y∈l:=by
 unfold aY at h;rcases mem_append.1 h with h|h
 .exact .inr (mem_of_mem_take h)
 rcases mem_cons.1 h with h|h
 .exact .inl h
 exact .inr (mem_of_mem_drop h)
theorem mU {α:Type} {l:List α} {y:α} (h:y∈aM l i):y∈l:=by
 unfold aM at h;rcases mem_append.1 h with h|h
 .exact mem_of_mem_take h
 exact mem_of_mem_drop h
theorem kJ {α:Type} (l:List α) (i:Nat) (x:α):(aY l i x).length=l.length+1:=by unfold aY;rw[lP,zK,zU,yK];omega
theorem oQ {α:Type} (l:List α) (i:Nat):(aM l i).length<=l.length:=by unfold aM;rw[lP,zU,yK];omega
theorem oR (h:S.wfn n) (hx:S.ins[K]? =some x) (hl:es.length<=n) (he:∀e∈es,I64 e.num):(S.ents K x es).wfn n:=by
 obtain⟨h1,h2,h3,h4,h5,h6⟩:=h;refine⟨by unfold PSt.ents;rw[yB];exact h1,h2,h3,λy hy=>?_,h5,h6⟩;unfold PSt.ents at hy;rcases mem_or_eq_of_mem_set hy with hy|rfl
 .exact h4 y hy
 exact⟨(h4 x (mG hx)).1,hl,he⟩
theorem aLR (h:S.wfn n) {es:List PIn} (hl:es.length<=n) (he:∀x∈es,x∈S.ins):({ S with ins:=es}:PSt).wfn n:=by obtain⟨h1,h2,h3,h4,h5,h6⟩:=h;exact⟨hl,h2,h3,λy hy=>h4 y (he y hy),h5,h6⟩
theorem aRR (h:S.wfn n) {es:List PDesc} (hl:es.length<=n) (he:∀d∈es,I64 d.core/\I64 d.fd/\I64 d.num):({ S with op:=es}:PSt).wfn n:=by obtain⟨h1,h2,h3,h4,h5,h6⟩:=h;exact⟨h1,hl,h3,h4,he,h6⟩
theorem aFV (h:S.wfn n) (num:Int):(qW S num).wfn n:=by
 unfold qW;split
 .exact h
 split
 .exact aLR h (zD (oQ _ _) h.1) (λx hx=>mU hx)
 exact h
theorem aFW (h:S.wfn n) (hx:x∈S.ins) (d:ByteArray):({ S with ins:=S.ins.set K { x with data:=d}}:PSt).wfn n:=by
 obtain⟨h1,h2,h3,h4,h5,h6⟩:=h;refine⟨by rw[yB];exact h1,h2,h3,λy hy=>?_,h5,h6⟩;rcases mem_or_eq_of_mem_set hy with hy|rfl
 .exact h4 y hy
 exact h4 x hx
theorem aNQ (h:mS S c=.ok (S',r)):S'=S:=by
 unfold mS rU rV aCP aIA uJ at h
 repeat' (split at h)
 all_goals first|(cases h;rfl)|cases h|skip
theorem aIU {r':PRes} (h:mF S c r=.ok (S',r')):S'=S:=by
 unfold mF at h;split at h
 .cases h
 cases h;rfl
theorem aVQ (hwf:S.wf) (hm:cO S=true):S.wfn 300/\S.made.length<=8/\(∀m∈S.made,0<=m/\m<=32):=by
 have T:=pQ hwf hm;have B:=qZ hwf hm;have a0:=hm;unfold cO at a0;split at a0
 .rename_i h1
  simp only[zE]at h1;obtain⟨⟨hmd,_⟩,a2⟩:=h1;unfold dS at hmd;simp only[zE,yL,yV,yW]at hmd;obtain⟨⟨m1,m8⟩,hall⟩:=hmd;have a1:∀m∈S.made,0<=m/\m<=32:=λm hm=>by have:=any_eq_false.1 hall m hm;unfold eC at this;simp at this;omega
  have a2:=B.op;have a3:=T.small;refine⟨⟨by omega,by omega,by omega,λx hx=>⟨(hwf.2.2.2.1 x hx).1,by have:=T.many x hx;omega,(hwf.2.2.2.1 x hx).2.2⟩,hwf.2.2.2.2.1,hwf.2.2.2.2.2⟩,by omega,a1⟩
 cases a0
theorem aVR (hwf:S.wf) (hm:fP S c=true) (h:eM S c=.ok (S',r)):S'.wfn 303:=by
 obtain⟨hmay,hc0,hc1⟩:=mQ hm;obtain⟨hw,hm8,hmm⟩:=aVQ hwf hmay;have a0:=hw.mono (show 300<=303 by omega);have a7:=hw.2.2.2.1;unfold eM at h;by_cases k1:c.kind=0\/c.kind=1
 .rw[zB k1]at h;unfold jW at h
  split at h
  .cases h
  unfold pV at h;rcases hp:bC S (aA c.path).2 with k|⟨K,l⟩
  .rw[hp]at h;cases h
  rw[hp]at h;simp only at h;rcases hx:S.ins[K]? with _|x
  .rw[hx]at h;cases h
  rw[hx]at h;simp only at h;split at h
  .cases h
  rcases hmd:S.made[c.core.toNat]? with _|m
  .rw[hmd]at h;cases h
  rw[hmd]at h;simp only at h;split at h
  .cases h
  cases h;have b4:=hmm m (mG hmd);have a8:=a7 x (mG hx);have a9:I64 (2+c.core+8*m):=by unfold I64;omega
  have h1:(S.ents K x (aY x.ents (cZ x.ents l) ⟨l,2+c.core+8*m⟩)).wfn 303:=oR a0 hx (zD (Nat.le_of_eq (kJ _ _ _)) (by have:=a8.2.1;omega)) (λe he=>by
   rcases mT he with rfl|he
   .exact a9
   exact a8.2.2 e he)
  obtain⟨a1,a2,a3,a4,a5,a6⟩:=h1;refine⟨?_,a2,?_,?_,a5,?_⟩
  .show(aY _ _ _).length<=303;rw[kJ];show(S.ins.set _ _).length+1<=303;rw[yB];have:=hw.1;omega
  .show(S.made.set _ _).length<=303;rw[yB];omega
  .intro y hy;rcases mT hy with rfl|hy
   .exact⟨a9,by simp,by simp⟩
   exact a4 y hy
  intro y hy;rcases mem_or_eq_of_mem_set hy with hy|rfl
  .exact a6 y hy
  unfold I64;omega
 rw[zA k1]at h;by_cases k2:c.kind=2
 .rw [zB k2]at h;unfold rX rK at h
  repeat' (split at h)
  all_goals first|(cases h;done)|skip
  .cases h;exact a0
  rename_i x hx _ hfd;cases h;have a8:=a7 x (mG hx);refine aRR a0 ?_ λd hd=>?_
  .show(vI S.op _ _).length<=303;unfold vI;rw[lP,zK,zU,yK];have:=(qZ hwf hmay).op;omega
  have b2:d∈aY S.op (dN c.core S.op 0 0 0).2 ⟨c.core,(dN c.core S.op 0 0 0).1,x.num⟩:=hd;rcases mT b2 with rfl|hd
  .exact⟨by show I64 c.core;unfold I64;omega,by show I64 ((dN c.core S.op 0 0 0).1:Int);unfold I64;omega,a8.1⟩
  exact a0.2.2.2.2.1 d hd
 rw[zA k2]at h;by_cases k3:c.kind=3
 .rw[zB k3]at h;unfold mH at h
  split at h
  .cases h
  cases h;exact aFV (aRR a0 (zD (oQ _ _) a0.2.1) λd hd=>a0.2.2.2.2.1 d (mU hd)) _
 rw[zA k3]at h;by_cases k5:c.kind=5
 .rw[zB k5]at h;unfold lR at h
  repeat' (split at h)
  all_goals first|(cases h;done)|skip
  rename_i y hy _ _;cases h;exact aFW a0 (mG (kF (K:=y.1) (x:=y.2) hy).1) _
 rw[zA k5]at h;by_cases k6:c.kind=6
 .rw[zB k6]at h;unfold lS at h
  repeat' (split at h)
  all_goals first|(cases h;done)|skip
  rename_i y hy _;cases h;exact aFW a0 (mG (kF (K:=y.1) (x:=y.2) hy).1) _
 rw[zA k6]at h;by_cases k8:c.kind=8
 .rw[zB k8]at h;unfold oC at h;rcases hp:rM S c.path with k|K
  .rw[hp]at h;cases h
  rw[hp]at h;simp only at h;rcases hx:S.ins[K]? with _|x
  .rw[hx]at h;cases h
  rw[hx]at h;simp only at h;split at h
  .cases h
  rcases hp2:bW S c.path2 with k|⟨K2,l⟩
  .rw[hp2]at h;cases h
  rw[hp2]at h;simp only at h;unfold xK at h;rcases hy:S.ins[K2]? with _|y
  .rw[hy]at h;cases h
  rw[hy]at h;simp only at h;split at h
  .cases h
  split at h
  .cases h
  cases h;have a8:=a7 x (mG hx);have b0:=a7 y (mG hy);exact oR a0 hy (zD (Nat.le_of_eq (kJ _ _ _)) (by have:=b0.2.1;omega)) (λe he=>by
   rcases mT he with rfl|he
   .exact a8.1
   exact b0.2.2 e he)
 rw[zA k8]at h;by_cases k9:c.kind=9\/c.kind=10
 .rw[zB k9]at h;unfold iP at h;rcases hp:bW S c.path with k|⟨K,l⟩
  .rw[hp]at h;cases h
  rw[hp]at h;simp only at h;rcases hx:S.ins[K]? with _|x
  .rw[hx]at h;cases h
  rw[hx]at h;simp only at h;split at h
  .cases h
  rcases he:x.ents[cZ x.ents l]? with _|e
  .rw[he]at h;cases h
  rw[he]at h;simp only at h;have a8:=a7 x (mG hx);have h1:(S.ents K x (aM x.ents (cZ x.ents l))).wfn 303:=oR a0 hx (zD (oQ _ _) (by have:=a8.2.1;omega)) λe he=>a8.2.2 e (mU he);unfold aKO at h
  repeat' (split at h)
  all_goals first|(cases h;done)|skip
  .cases h;exact aFV h1 _
  cases h;exact aLR h1 (zD (oQ _ _) h1.1) (λx hx=>mU hx)
 rw[zA k9]at h;by_cases k11:c.kind=11
 .rw[zB k11]at h;unfold iU at h
  split at h
  .cases h
  split at h;rotate_left
  .cases h
  unfold fW at h;rcases hp:bC S (aA c.path).2 with k|⟨K1,l⟩
  .rw[hp]at h;cases h
  rw[hp]at h;simp only at h;rcases hx:S.ins[K1]? with _|x
  .rw[hx]at h;cases h
  rw[hx]at h;simp only at h;unfold lE at h;split at h
  .cases h
  rcases he:x.ents[cZ x.ents l]? with _|e
  .rw[he]at h;cases h
  rw[he]at h;simp only at h;rcases hp2:bC S (aA c.path2).2 with k|⟨K2,t⟩
  .rw[hp2]at h;cases h
  rw[hp2]at h;simp only at h;split at h
  .cases h
  unfold vE at h;rcases hx2:S.ins[K2]? with _|x2
  .rw[hx2]at h;cases h
  rw[hx2]at h;simp only at h;split at h
  .cases h
  generalize fB x2.ents t (if x.num=x2.num then l else⟨#[]⟩)=fb at h;rcases fb with _|_;rotate_left
  .cases h
  simp only[zP,if_false]at h;unfold uB at h;have a8:=a7 x (mG hx);have b1:(S.ents K1 x (aM x.ents (cZ x.ents l))).wfn 300:=oR hw hx (zD (oQ _ _) a8.2.1) λe he=>a8.2.2 e (mU he);rcases hy:(S.ents K1 x (aM x.ents (cZ x.ents l))).ins[K2]? with _|y
  .rw[hy]at h;cases h
  rw[hy]at h;cases h;have b0:=b1.2.2.2.1 y (mG hy);have b3:=a8.2.2 e (mG he);exact oR (b1.mono (by omega)) hy (by rw[kJ];have:=b0.2.1;omega) (λe' he'=>by
   rcases mT he' with rfl|he'
   .exact b3
   exact b0.2.2 e' he')
 rw[zA k11]at h;by_cases k15:c.kind=15
 .rw[zB k15]at h;rw[aIU h];exact a0
 rw[zA k15]at h;by_cases k16:c.kind=16
 .rw[zB k16]at h;cases h;exact a0
 rw[zA k16]at h;rw[aNQ h];exact a0
theorem aEE (hwf:S.wf):(kX S c).1.wf:=by
 unfold kX doM;split
 .rename_i hm
  split
  .rename_i y e
   exact(aVR (S':=y.1) (r:=y.2) hwf hm e).wf (by omega)
  exact hwf
 exact hwf
end
theorem aPL (s:ByteArray) (o n F G:Nat) (hF:F=min o s.size) (hG:G=min (F+n) s.size):s.extract F G=qY s o n:=by
 unfold qY;by_cases h:s.size<=o
 .rw[zB h];have h1:F=s.size:=by omega
  have h2:G=s.size:=by omega
  rw[h1,h2];rcases s with⟨⟨l⟩⟩
  simp[ByteArray.extract,ByteArray.copySlice,ByteArray.size]
 rw[zA h];have h1:F=o:=by omega
 have h2:G=min s.size (o+n):=by omega
 rw[h1,h2]
theorem aYZ (B b:Nat) (S:PSt) (iv ov mv:Value) (core f0 off nu:Int) (path p2 dt:ByteArray) (w:World) (hb:Blk w b #[iv,ov,mv] 26) (ho:StOwn B w iv ov mv S) (hB:B<=w.heap.size) (hBb:B<=b) (hwf:S.wf) (num:Int) (hfd:oE S core f0=num) (hn0:num≠0) (K:Nat) (x:PIn) (hat:bP S num=K) (hx:S.ins[K]? =some x) (oo nn:Nat) (hoo:off=oo) (hnn:nu=nn) (ho1:oo<=256) (hn1:nn<=256) (hxs:x.data.size<=1000000):
 Calls prog 95 #[.pointer b,.agg #[.int .i64 4,core,f0,off,nu,path,p2,dt]] w (ByOut B b w (.ok (S,⟨0,0,0,false,qY x.data oo nn,[]⟩))):=by
 have a0:=c43 ho.read hwf.2.1 hfd;have a3:=λk ww=>bE k ww;have a1:=vK ho.read hwf.1 hat;obtain⟨bi,cap,ma,mn,mc,oa,on,oc,rfl,rfl,rfl,hcz,iI,x3,hKI,hnb,iL,hblt,s0,s1,s2⟩:=lW hb ho hwf hx hn0;have HH:=bJ hb ho;subst hoo;subst hnn;obtain⟨F,hFF⟩:∃F,F=min oo x.data.size:=⟨_,rfl⟩;obtain⟨G,hGG⟩:∃G,G=min (F+nn) x.data.size:=⟨_,rfl⟩;rw[<-aPL x.data oo nn F G hFF hGG];have hF:min (oo:Int) (x.data.size:Int)=F:=by omega
 have hG:min (IntKind.i64.wrap ((F:Int)+nn)) (x.data.size:Int)=G:=by rw[show IntKind.i64.wrap ((F:Int)+nn)=F+nn from I64.wrap ⟨by omega,by omega⟩];omega
 have a4:F<=G:=by omega
 have a5:G<=x.data.size:=by omega
 have a2:=bJ hF hG;clear hF hG hFF hGG;have b1:¬(oo:Int)<0:=by omega
 have b2:¬(256:Int)<oo:=by omega
 have b3:¬(nn:Int)<0:=by omega
 have b4:¬(256:Int)<nn:=by omega
 clear hb ho hwf hfd hx hat hn0;have a6:=aC hcz;clear hcz;go_in;go_upto_region 1 with fail;refine qR ?_
 repeat(go_big_quiet_step ((with_reducible first|refine cI (a0 _ (bel _ _))|refine cJ (a0 _ (bel _ _)))))
 refine QN λp=>?_;go_wp2;refine qR ?_
 repeat(go_big_quiet_step ((with_reducible first|refine cI (a1 _ (bel _ _))|refine cJ (a1 _ (bel _ _)))))
 refine QN λp=>?_;go_upto_region 18 with fail;have hF:=a2.out.1;refine qR ?_
 repeat(go_big_quiet_step (fail))
 refine QN λp=>?_;clear hF;have hG:=a2.out.2;go_upto_region 19 with fail;refine aH [17] true (λw'=>w'.cell? ⟨bi,K*4+3,none⟩=some (.string x.data)/\w'.cell? ⟨w.heap.size,3,none⟩=some (.int .i64 oo)/\w'.cell? ⟨w.heap.size,4,none⟩=some (.int .i64 nn)) (by kernel_rfl) (by kernel_rfl) ?_ ?_
 · (try dsimp only);(repeat' apply And.intro)<;>go_simp
 repeat
  apply aI0 rfl rfl
  focus
   rintro w' ⟨q0,q1,q2⟩;go_simp
   first|done|rfl
  simp only[Act.put,sA,sZ,sS]
 refine aW rfl rfl ?_;apply Exists.intro;refine⟨?_,?_,?_⟩
 focus
  go_simp
  first|done|rfl
 focus
  exact .inr ⟨rfl,rfl⟩
 simp only[Act.put,sA,sZ,sS];refine aU ?_;go_wp2;exact xD (v:=.agg #[.int .i64 0,.int .i64 0,.int .i64 0,false,.string (x.data.extract F G),.slice none 0 0]) (by unfold results;simp only[results95];go_simp) rfl (ByOut.same (bel w _) hB HH.out.1 HH.out.2)
section
section
variable {α:Type} {p:α->Bool} {x:α}
theorem aMH:∀(es zs:List α),cT p x es true zs=zs++es
 |[],zs=>by simp[cT]
 | e::r,zs=>by rw[cT,zB rfl,aMH r];simp
theorem aHI:∀(es zs:List α) (k:Nat),k<=es.length->(∀i e,i<k->es[i]? =some e->p e=false)->(∀e,es[k]? =some e->p e=true)->cT p x es false zs=zs++aY es k x
 | [],zs,k,hk,_,_=>by
   have:k=0:=by simpa using hk
   subst this;simp[cT,aY]
 | e::r,zs,0,_,_,h2=>by have:=h2 e rfl;rw[cT,zA (by decide),zB this,aMH];simp[aY]
 | e::r,zs,k+1,hk,h1,h2=>by have:=h1 0 e (by omega) rfl;rw[cT,zA (by decide),zA (by rw[this];decide),aHI r (zs++[e]) k (by simpa using hk) (λi y hi hy=>h1 (i+1) y (by omega) (by simpa using hy)) (λy hy=>h2 y (by simpa using hy))];simp[aY]
theorem xX {es:List α} {k:Nat} (hk:k<=es.length) (h1:∀i e,i<k->es[i]? =some e->p e=false) (h2:∀e,es[k]? =some e->p e=true):cT p x es false []=aY es k x:=by rw[aHI es [] k hk h1 h2,nil_append]
theorem aKD:∀(es:List α),(∀e∈es,p e=true)->es.filter p=es:=λes h=>filter_eq_self.2 h
theorem kO:∀(es:List α) (k:Nat) (e:α),es[k]? =some e->p e=false->(∀i y,i≠k->es[i]? =some y->p y=true)->es.filter p=aM es k
 |[],k,e,h,_,_=>by simp at h
 | y::r,0,e,h,h1,h2=>by
   simp only[zH,zF]at h;subst h;rw[filter_cons,zA (by rw[h1];decide),aKD r (λz hz=>by
    obtain⟨i,hi⟩:=getElem?_of_mem hz;exact h2 (i+1) z (by omega) (by simpa using hi))]
   simp[aM]
 | y::r,k+1,e,h,h1,h2=>by rw[filter_cons,zB (h2 0 y (by omega) rfl),kO r k e (by simpa using h) h1 (λi z hi hz=>h2 (i+1) z (by omega) (by simpa using hz))];simp[aM]
end
theorem aCZ {a b:UInt8}:a<b↔a.toNat<b.toNat:=UInt8.lt_iff_toNat_lt
theorem aDA:∀x y z:List UInt8,Lib.compareBytes x y<0->Lib.compareBytes y z<0->Lib.compareBytes x z<0
 |[],[],_,h,_=>by simp[Lib.compareBytes]at h
 |[],_::_,[],_,h=>by simp[Lib.compareBytes]at h
 |[],_::_,_::_,_,_=>by simp[Lib.compareBytes]
 |_::_,[],_,h,_=>by simp[Lib.compareBytes]at h
 |_::_,_::_,[],_,h=>by simp[Lib.compareBytes]at h
 | a ::x,b::y,c::z,h1,h2=>by
   simp only[Lib.compareBytes,aCZ]at h1 h2 |-;split at h1
   .split at h2
    .rw[zB (by omega)];decide
    split at h2
    .exact absurd h2 (by decide)
    rw[zB (by omega)];decide
   split at h1
   .exact absurd h1 (by decide)
   split at h2
   .rw[zB (by omega)];decide
   split at h2
   .exact absurd h2 (by decide)
   rw[zA (by omega),zA (by omega)];exact aDA x y z h1 h2
theorem aXJ:∀x y:List UInt8,Lib.compareBytes x y=0->x=y
 |[],[],_=>rfl
 |[],_::_,h=>by simp[Lib.compareBytes]at h
 |_::_,[],h=>by simp[Lib.compareBytes]at h
 | a ::x,b::y,h=>by
   simp only[Lib.compareBytes,aCZ]at h;split at h
   .cases h
   split at h
   .cases h
   rw[aXJ x y h,UInt8.toNat_inj.1 (show a.toNat=b.toNat by omega)]
theorem aMI:∀x:List UInt8,Lib.compareBytes x x=0
 |[]=>rfl
 | a::x=>by simp only[Lib.compareBytes,aCZ];rw[zA (by omega),zA (by omega)];exact aMI x
theorem aMJ:∀x y:List UInt8,Lib.compareBytes x y<0->0<Lib.compareBytes y x
 |[],[],h=>by simp[Lib.compareBytes]at h
 |[],_::_,_=>by simp[Lib.compareBytes]
 |_::_,[],h=>by simp[Lib.compareBytes]at h
 | a ::x,b::y,h=>by
   simp only[Lib.compareBytes,aCZ]at h |-;split at h
   .rw[zA (by omega),zB (by omega)];decide
   split at h
   .exact absurd h (by decide)
   rw[zA (by omega),zA (by omega)];exact aMJ x y h
theorem aMK:∀x y:List UInt8,0<Lib.compareBytes x y->Lib.compareBytes y x<0
 |[],[],h=>by simp[Lib.compareBytes]at h
 |[],_::_,h=>by simp[Lib.compareBytes]at h
 |_::_,[],_=>by simp[Lib.compareBytes]
 | a ::x,b::y,h=>by
   simp only[Lib.compareBytes,aCZ]at h |-;split at h
   .exact absurd h (by decide)
   split at h
   .rw[zB (by omega)];decide
   rw[zA (by omega),zA (by omega)];exact aMK x y h
theorem aML:∀x y:List UInt8,Op.bytesLess x y=decide (Lib.compareBytes x y<0)
 |[],[]=>rfl
 |[],_::_=>rfl
 |_::_,[]=>rfl
 | a ::x,b::y=>by
   have ih:=aML x y;unfold Op.bytesLess;simp only[Lib.compareBytes];by_cases h1:a<b
   .simp[h1]
   by_cases h2:b<a
   .have a0:a≠b:=λe=>by subst e;exact h1 h2
    simp[h1,h2,a0]
   have e:a=b:=UInt8.toNat_inj.1 (by rw[aCZ]at h1 h2;omega);subst e;simp[h1,ih]
theorem nE (a b:ByteArray):Op.bytesLess a.toList b.toList=decide (dJ a b<0):=by rw[aML,zW,zW];rfl
theorem qC {a b:ByteArray}:dJ a b=0↔a=b:=by
 constructor
 .intro h;exact ByteArray.ext (Array.toList_inj.1 (aXJ _ _ h))
 rintro rfl;exact aMI _
theorem xY {a b c:ByteArray} (h1:dJ a b<0) (h2:dJ b c<0):dJ a c<0:=aDA _ _ _ h1 h2
theorem aPA {a b:ByteArray} (h:dJ a b<0):0<dJ b a:=aMJ _ _ h
theorem aPB {a b:ByteArray} (h:0<dJ a b):dJ b a<0:=aMK _ _ h
def Asc (es:List PEnt):Prop:=∀(i j:Nat) (a b:PEnt),es[i]? =some a->es[j]? =some b->i<j->dJ a.name b.name<0
theorem aTO {ns :List Int}:∀(es:List PEnt) (prev:Option ByteArray) (sl:List Int),fA ns prev sl es=true->Asc es/\∀q,prev=some q->∀(i:Nat) (a:PEnt),es[i]? =some a->dJ q a.name<0
 |[],_,_,_=>⟨λi j a b h=>by simp at h,λq _ i a h=>by simp at h⟩
 | e :: r, prev, sl,h=>by
   unfold fA at h;split at h
   .cases h
   split at h
   .cases h
   rename_i hp;split at h
   .cases h
   split at h
   .cases h
   split at h
   .split at h
    .cases h
    obtain⟨h1,h2⟩:=aTO r _ _ h;have h3:=h2 e.name rfl;have h4:∀q,prev=some q->dJ q e.name<0:=by rintro q rfl;have a0:¬(!Op.bytesLess q.toList e.name.toList)=true:=hp;rw[nE]at a0;simpa using a0
    refine⟨λi j a b ha hb hij=>?_,λq hq i a ha=>?_⟩
    .rcases i with _|i
     .simp only[zH,zF]at ha;subst ha;rcases j with _|j
      .omega
      exact h3 j b (by simpa using hb)
     rcases j with _|j
     .omega
     exact h1 i j a b (by simpa using ha) (by simpa using hb) (by omega)
    rcases i with _|i
    .simp only[zH,zF]at ha;subst ha;exact h4 q hq
    exact xY (h4 q hq) (h3 i a (by simpa using ha))
   cases h
theorem xZ {es:List PEnt} (h:Asc es) (s:ByteArray):cZ es s<=es.length/\(∀(i:Nat) (a:PEnt),i<cZ es s->es[i]? =some a->dJ a.name s<0)/\(∀(i:Nat) (a:PEnt),cZ es s<=i->es[i]? =some a->¬dJ a.name s<0):=by
 have hc:∀(j:Nat) (a:PEnt),es[j]? =some a->aBE es s j=dJ a.name s:=λj a ha=>by unfold aBE;rw[ha]
 obtain⟨h1,h2,h3,h4⟩:=jL (aBE es s) es.length 0 es.length (by omega) (by omega) (λi j a c d e=>by
  rw[hc j _ (gE d)]at e;rw[hc i _ (gE (by omega:i<es.length))];by_cases hij:i=j
  .subst hij;exact e
  exact xY (h i j _ _ (gE (by omega)) (gE d) (by omega)) e)
 refine⟨h2,λi a hi ha=>?_,λi a hi ha=>?_⟩
 .rw[<-hc i a ha];exact h3 i (by omega) hi
 obtain⟨hl,_⟩:=gI.1 ha;rw[<-hc i a ha];exact h4 i hi hl
theorem qD {es:List PEnt} {s:ByteArray}:bT es s=true↔∃e,es[cZ es s]? =some e/\e.name=s:=by
 unfold bT;simp only[zE,zI,beq_iff_eq];constructor
 .rintro⟨h1,h2⟩;refine⟨_,gE h1,?_⟩;unfold aBE at h2;rw[gE h1]at h2;exact qC.1 h2
 rintro⟨e,he,hn⟩;obtain⟨hl,_⟩:=gI.1 he;refine⟨hl,?_⟩;unfold aBE;rw[he];exact qC.2 hn
theorem aEW {es:List PEnt} (h:Asc es) {s:ByteArray} {i:Nat} {e:PEnt} (he:es[i]? =some e) (hn:e.name=s):i=cZ es s/\bT es s=true:=by
 obtain⟨h1,h2,h3⟩:=xZ h s;obtain⟨hl,_⟩:=gI.1 he;have hz:dJ e.name s=0:=qC.2 hn;have a0:cZ es s<=i:=by
  rcases Nat.lt_or_ge i (cZ es s)with hlt|a0
  .have:=h2 i e hlt he;omega
  exact a0
 have hi:i=cZ es s:=by
  rcases Nat.lt_or_ge (cZ es s) i with hlt|hle
  .exfalso;have hb:cZ es s<es.length:=by omega
   have h5:=h _ _ _ _ (gE hb) he hlt;rw[hn]at h5;exact h3 _ _ (zC _) (gE hb) h5
  omega
 exact⟨hi,qD.2 ⟨e,by rw[<-hi];exact he,hn⟩⟩
theorem qE {a b:ByteArray}:(a.toList==b.toList)=true↔a=b:=by rw[beq_iff_eq,zW,zW];exact⟨λh=>ByteArray.ext (Array.toList_inj.1 h),λh=>by rw[h]⟩
theorem aAA (s:ByteArray):∀(es:List PEnt) (k:Nat) (e:PEnt),es[k]? =some e->e.name=s->(∀i a,i<k->es[i]? =some a->a.name≠s)->rO s es=e.num
 |[],k,e,h,_,_=>by simp at h
 | y::r,0,e,h,hn,_=>by simp only[zH,zF]at h;subst h;unfold rO;rw[zB (qE.2 hn)]
 | y::r,k+1,e,h,hn,h2=>by unfold rO;rw[zA (λhc=>h2 0 y (by omega) rfl (qE.1 hc))];exact aAA s r k e (by simpa using h) hn (λi a hi ha=>h2 (i+1) a (by omega) (by simpa using ha))
theorem aDB (s:ByteArray):∀(es:List PEnt),(∀a∈es,a.name≠s)->rO s es=0
 |[],_=>rfl
 | y::r,h=>by unfold rO;rw[zA (λhc=>h y zQ (qE.1 hc))];exact aDB s r λa ha=>h a (zL _ ha)
theorem aHJ {es:List PEnt} (h:Asc es) {s:ByteArray} {e:PEnt} (hh:bT es s=true) (he:es[cZ es s]? =some e):rO s es=e.num:=by
 obtain⟨e',he',hn⟩:=qD.1 hh;rw[he]at he';cases he';exact aAA s es _ e he hn λi a hi ha hc=>by have:=(aEW h ha hc).1;omega
theorem sL {es:List PEnt} (h:Asc es) {s:ByteArray} (hh:bT es s=false):∀a∈es,a.name≠s:=by intro a ha hn;obtain⟨i,hi⟩:=getElem?_of_mem ha;have:=(aEW h hi hn).2;rw[hh]at this;cases this
theorem aPD {es:List PEnt} (h:Asc es) {s:ByteArray} (hh:bT es s=false):rO s es=0:=aDB s es (sL h hh)
theorem aAB {es:List PEnt} (h:Asc es) {s:ByteArray} (hh:bT es s=false) (x:PEnt):cT (λe=>eA s e.name) x es false []=aY es (cZ es s) x:=by
 obtain⟨h1,h2,h3⟩:=xZ h s;refine xX h1 (λi e hi he=>?_) (λe he=>?_)
 .rw[pE,nE];have:=aPA (h2 i e hi he);simp only[yW];omega
 rw[pE,nE];have h4:=h3 _ e (zC _) he;have h5:dJ e.name s≠0:=λhc=>sL h hh e (mG he) (qC.1 hc);simp only[zI];exact aPB (by omega)
theorem aDC {es:List PEnt} (h:Asc es) {s:ByteArray} (hh:bT es s=true):dX s es=aM es (cZ es s):=by
 obtain⟨e,he,hn⟩:=qD.1 hh;refine kO es _ e he ?_ (λi y hi hy=>?_)
 .rw[Bool.not_eq_false'];exact qE.2 hn
 rw[yL];rw[<-Bool.not_eq_true];exact λhc=>hi (aEW h hy (qE.1 hc)).1
theorem aMM (s but:ByteArray):∀(es:List PEnt) (a:Int),eG (bA s) but es a=a+oU s but es
 |[],a=>by simp[eG,oU]
 | e::r,a=>by
   unfold eG oU oT;rw[aMM s but r,<-nN,<-nN];split<;>omega
theorem nF (s but:ByteArray) (es:List PEnt):decide (4<=eG (bA s) but es 0)=fB es s but:=by unfold fB;rw[aMM];apply Bool.eq_iff_iff.2;simp only[zI];omega
end
section
structure MayX (S:PSt):Prop where
 wf:S.wf
 tree:Tree S
 fine:Fine S
 asc:∀x∈S.ins,Asc x.ents
 head:∃x0,S.ins[0]? =some x0/\x0.num=1/\x0.dir=true
 file:∀x∈S.ins,x.dir=false->x.ents=[]
 bare:∀x∈S.ins,x.dir=true->x.data.size=0
 nums:∀k x,S.ins[k]? =some x->1<=k->dL S.made x.num=true
 made:∀m∈S.made,0<=m/\m<=32
 cores:S.made.length<=8
 descs:fL S none S.op=true
theorem qF {S:PSt} (hwf:S.wf) (hm:cO S=true):MayX S:=by
 have ht:=pQ hwf hm;have hf:=jF hwf hm;unfold cO at hm;split at hm;rotate_left
 .cases hm
 rename_i h1;simp only[zE]at h1;obtain⟨⟨hmade,hins⟩,hop⟩:=h1;unfold dW at hins;rcases e:S.ins with _|⟨x0,r⟩
 .rw[e]at hins;cases hins
 rw[e]at hins;simp only at hins;split at hins;rotate_left
 .cases hins
 rename_i hn0;split at hins;rotate_left
 .cases hins
 rename_i hd0;rw[<-e,zE,yY]at hins;obtain⟨hnb,hall⟩:=hins;obtain⟨n1,n2⟩:=aAX _ _ hnb;unfold dS at hmade;simp only[zE,yL,yV,yW,any_eq_false]at hmade;obtain⟨⟨hm1,hm2⟩,hm3⟩:=hmade;refine⟨hwf,ht,hf,λx hx=>?_,⟨x0,by rw[e];rfl,hn0,hd0⟩,λx hx hd=>?_,λx hx hd=>?_,λk x hx hk=>?_,λm hm=>?_,by omega,hop⟩
 .have:=hall x hx;unfold inB at this
  split at this
  .rw[zE]at this;exact(aTO x.ents none _ this.2).1
  simp only[zE,zI]at this;have h0:=zT this.1;rw[h0];intro i j a b ha;simp at ha
 .have:=hall x hx;unfold inB at this;rw[zA (by rw[hd];decide)]at this;simp only[zE,zI]at this;exact zT this.1
 .have:=hall x hx;unfold inB at this;rw[zB hd,zE]at this;have h0:=this.1;rw[isEmpty_iff,zW]at h0;have:x.data.data.toList.length=0:=by rw[h0];rfl
  exact this
 .obtain⟨k,rfl⟩:∃k',k=k'+1:=⟨k-1,by omega⟩
  rw[e,zV]at hx;exact(n1 k x.num (by rw[gM,hx];rfl)).2
 have:=hm3 m hm;unfold eC at this;simp only[yI,zI,not_or]at this;omega
section
variable {S:PSt}
theorem MayX.root (h:MayX S):bP S 1=0:=by obtain⟨x0,h0,h1,-⟩:=h.head;have:=cS h.tree.rise h0;rw[h1]at this;exact this
theorem MayX.fineR (h:MayX S):FineR S:=⟨h.wf,by rw[h.root];omega,λx hx e he=>(h.tree.found x hx e he).1⟩
theorem MayX.num (h:MayX S) {n:Int} {k:Nat} {x:PIn} (hk:bP S n=k) (hx:S.ins[k]? =some x):x.num=n:=by
 rcases gC S n with⟨j,y,hy,hn⟩|⟨_,h2⟩
 .have:=cS h.tree.rise hy;rw[hn,hk]at this;have:k=j:=by omega
  subst this;rw[hx]at hy;cases hy;exact hn
 omega
theorem MayX.pos (h:MayX S) {k:Nat} {x:PIn} (hx:S.ins[k]? =some x):1<=x.num:=by obtain⟨x0,h0,h1,-⟩:=h.head;have:=vX h.tree.rise k x0.num x.num (cC h0) (cC hx);omega
theorem MayX.kid (h:MayX S) {x:PIn} (hx:x∈S.ins) {e:PEnt} (he:e∈x.ents):∃k y,bP S e.num=(k:Nat)/\S.ins[k]? =some y/\y.num=e.num/\e.num≠0:=by
 obtain⟨h1,h2⟩:=h.tree.found x hx e he;have hk:bP S e.num=((bP S e.num).toNat:Nat):=by omega
 have hl:(bP S e.num).toNat<S.ins.length:=by omega
 have hy:=gE hl;have hn:=h.num hk hy;have:=h.pos hy;exact⟨_,_,hk,hy,hn,by omega⟩
theorem tY (S:PSt) {d:Int} {k:Nat} {x:PIn} (hk:bP S d=k) (hx:S.ins[k]? =some x) (n:ByteArray):aX S d n=rO n x.ents:=by unfold aX;rw[hk,zA (by omega),zJ,hx]
theorem MayX.ent_hit (h:MayX S) {d:Int} {k:Nat} {x:PIn} (hk:bP S d=k) (hx:S.ins[k]? =some x) {n:ByteArray} (hh:bT x.ents n=true):∃e,x.ents[cZ x.ents n]? =some e/\e.name=n/\aX S d n=e.num/\e.num≠0/\e∈x.ents:=by obtain⟨e,he,hn⟩:=qD.1 hh;have hm:=mG he;obtain⟨_,_,_,_,_,h0⟩:=h.kid (mG hx) hm;exact⟨e,he,hn,by rw[tY S hk hx,aHJ (h.asc x (mG hx)) hh he],h0,hm⟩
theorem MayX.ent_miss (h:MayX S) {d:Int} {k:Nat} {x:PIn} (hk:bP S d=k) (hx:S.ins[k]? =some x) {n:ByteArray} (hh:bT x.ents n=false):aX S d n=0:=by rw[tY S hk hx,aPD (h.asc x (mG hx)) hh]
theorem MayX.walk (h:MayX S):∀(ns:List ByteArray) (a:Int) (k:Nat) (x:PIn) (th:List Int),bP S a=k->S.ins[k]? =some x->(aQ S ns a th).2.1=(aL S k ns).2/\((aL S k ns).2=0->∃y,bP S (aQ S ns a th).1=((aL S k ns).1:Nat)/\S.ins[(aL S k ns).1]? =some y/\y.num=(aQ S ns a th).1)
 |[],a,k,x,th,hk,hx=>⟨rfl,λ_=>⟨x,hk,hx,h.num hk hx⟩⟩
 | n ::r,a,k,x,th,hk,hx=>by
   unfold aQ aL;rw[hk,zJ,hx];simp only;by_cases hd:x.dir=true
   .rw[zB hd,zB hd];by_cases hh:bT x.ents n=true
    .obtain⟨e,he,_,hen,h0,hm⟩:=h.ent_hit hk hx hh;rw[zB hh,he,hen,zA h0];simp only;obtain⟨k2,y,hk2,hy,_,_⟩:=h.kid (mG hx) hm;have hf:(aK S.nums e.num).toNat=k2:=by rw[bG h.tree.rise,hk2];rfl
     rw[hf];exact h.walk r e.num k2 y (th++[a]) hk2 hy
    have a0:bT x.ents n=false:=by simpa using hh
    rw[zA hh,h.ent_miss hk hx a0,zB rfl];exact⟨rfl,λe=>by cases e⟩
   rw[zA hd,zA hd];exact⟨rfl,λe=>by cases e⟩
theorem aDD {c:Int} (h:c≠0):eE c≠0:=by
 unfold eE;rw[zA h];split<;>decide
theorem MayX.walk0 (h:MayX S) (ns:List ByteArray):(aQ S ns 1 []).2.1=(aL S 0 ns).2/\((aL S 0 ns).2=0->∃y,bP S (aQ S ns 1 []).1=((aL S 0 ns).1:Nat)/\S.ins[(aL S 0 ns).1]? =some y/\y.num=(aQ S ns 1 []).1):=by obtain⟨x0,h0,_,_⟩:=h.head;exact h.walk ns 1 0 x0 [] h.root h0
theorem MayX.find_ (h:MayX S) (p:ByteArray):match rM S p with
 |.error c=>c≠0/\∃n,eY S p=(n,c)
 |.ok K=>∃y,eY S p=(y.num,0)/\S.ins[K]? =some y/\bP S y.num=K:=by
 obtain⟨w1,w2⟩:=h.walk0 (aA p).2;unfold rM eY;rw[eX,aMG];by_cases hp:(aA p).1=0
 .have a0:¬(aA p).1≠0:=by simpa using hp
  rw[zA a0,zA a0];by_cases hw:(aL S 0 (aA p).2).2=0
  .have a1:¬(aL S 0 (aA p).2).2≠0:=by simpa using hw
   rw[zA a1];obtain⟨y,y1,y2,y3⟩:=w2 hw;refine⟨y,?_,y2,by rw[y3];exact y1⟩;rw[w1,hw,y3]
  rw[zB hw];exact⟨hw,_,by rw[w1]⟩
 rw[zB hp,zB hp];exact⟨aDD hp,0,rfl⟩
theorem sM (s:ByteArray):∀(n fr i:Nat) (acc:List ByteArray),(∀x∈acc,x.size<=12)->∀x∈(aZ s n fr i acc).2,x.size<=12
 |0,_,_,acc,h=>h
 | n + 1, fr,i,acc,h=>by
   have hs:∀z:ByteArray,bK z≠801->z.size<=12:=λz hz=>by
    unfold bK at hz;split at hz
    .exact absurd rfl hz
    omega
   unfold aZ;by_cases h1:i<s.size
   .rw [dif_pos h1]
    split
    .split
     .exact λx hx=>by cases hx
     rename_i h3;split
     .exact λx hx=>by cases hx
     exact sM s n _ _ _ λx hx=>by
      rcases mem_append.1 hx with hx|hx
      .exact h x hx
      rw[mem_singleton.1 hx];exact hs _ h3
    exact sM s n _ _ _ h
   rw[dif_neg h1];split
   .exact λx hx=>by cases hx
   rename_i h3;split
   .exact λx hx=>by cases hx
   exact sM s n _ _ _ λx hx=>by
    rcases mem_append.1 hx with hx|hx
    .exact h x hx
    rw[mem_singleton.1 hx];exact hs _ h3
theorem uZ (s:ByteArray):∀x∈(aA s).2,x.size<=12:=by
 rw[<-eX];unfold bU;split
 .exact λx hx=>by cases hx
 split
 .split
  .split
   .exact λx hx=>by cases hx
   split
   .exact λx hx=>by cases hx
   split
   .exact λx hx=>by cases hx
   exact sM s _ _ _ _ λx hx=>by cases hx
  exact λx hx=>by cases hx
 exact λx hx=>by cases hx
theorem MayX.par (h:MayX S) (p:ByteArray):match bW S p with
 |.error c=>c≠0/\∃D l,bO S p=(D,l,c)
 |.ok (K,l)=>∃y,bO S p=(y.num,l,0)/\S.ins[K]? =some y/\bP S y.num=K/\y.dir=true/\l.size<=12:=by
 unfold bW bO bC;rw[eX,aMG];by_cases hp:(aA p).1=0
 .rw [zA (by simpa using hp),zA (by simpa using hp)];rcases hl:(aA p).2.getLast? with _|l
  .exact⟨by decide,_,_,rfl⟩
  simp only;obtain⟨w1,w2⟩:=h.walk0 (aA p).2.dropLast;have a0:=uZ p l (mem_of_getLast? hl);by_cases hw:(aL S 0 (aA p).2.dropLast).2=0
  .obtain⟨y,y1,y2,y3⟩:=w2 hw;rw[zA (by simpa using hw),zA (by rw[w1];simpa using hw),y2,y1,zJ,y2];simp only;by_cases hd:y.dir=true
   .rw[zB hd,zB hd];exact⟨y,by rw[y3],y2,by rw[y3];exact y1,hd,a0⟩
   rw[zA hd,zA hd];exact⟨by decide,_,_,rfl⟩
  rw[zB hw,zB (by rw[w1];exact hw)];exact⟨hw,_,_,by rw[w1]⟩
 rw[zB hp,zB hp];exact⟨aDD hp,_,_,rfl⟩
end
end
section
variable {S:PSt}
theorem tV (hr:Rise S.nums):∀(es:List PEnt) (prev:Option ByteArray) (sl:List Int),fA S.nums prev sl es=true->gY S prev sl es=true
 |[],_,_,_=>rfl
 | e ::r,prev,sl,h=>by
   unfold fA at h;unfold gY;split at h
   .cases h
   rename_i h1;split at h
   .cases h
   rename_i h2;split at h
   .cases h
   rename_i h3;split at h
   .cases h
   rename_i h4;have c:¬(bK e.name !=0)=true:=by
    have:dP e.name=true:=by simpa using h1
    unfold dP at this;rw[sK];rw[beq_iff_eq]at this;rw[this];decide
   have p:hY prev e.name=kQ prev e.name:=by
    unfold hY kQ;cases prev with
    |none=>rfl
    |some q=>simp only[pE]
   rw[p]at h2;rw[bG hr]at h4;rw[zA c,zA h2,zA h3,zA h4,nN];rcases hs:sl[(aV e.name).toNat]? with _|x
   .rw[hs]at h;cases h
   rw[hs]at h;simp only at h |-;split at h
   .cases h
   rename_i h5;rw[zA h5];exact tV hr r _ _ h
theorem tW (hr:Rise S.nums):∀(ds:List PDesc) (o:Option PDesc),fL S o ds=true->pN S o ds=true
 |[],_,_=>rfl
 | d ::r,o,h=>by
   unfold fL at h;unfold pN;split at h
   .cases h
   rename_i a1;split at h
   .cases h
   rename_i a2;split at h
   .cases h
   rename_i a3;split at h
   .cases h
   rename_i a4;split at h
   .cases h
   rename_i h2;split at h
   .cases h
   rename_i a5;have p:kN o d=pM o d:=by
    unfold kN pM;cases o with
    |none=>rfl
    |some q=>simp only;congr 2
   rw[p]at h2;rw[bG hr]at h a5;split at h
   .rename_i x hx
    split at h
    .cases h
    rename_i a6;have hb:¬aUP S d=true:=by unfold aUP aDL;rw[hx];simp only[yI,zI,not_or];exact⟨a1,a2,a3,a4,a5,a6⟩
    rw[zA hb,zA h2];exact tW hr r _ h
   cases h
theorem xN (ns:List Int) (C:Nat->Prop):∀(es:List PEnt) (td:List Nat) (fd:List Bool),(∀e∈es,C (aK ns e.num).toNat)->(∀j∈td,C j)->(∀j,fd.getD j false=true->C j)->(∀j∈(dA ns (td,fd) es).1,C j)/\∀j,(dA ns (td,fd) es).2.getD j false=true->C j
 |[],td,fd,_,h1,h2=>⟨h1,h2⟩
 | e ::r,td,fd,he,h1,h2=>by
   have a0:dA ns (td,fd) (e::r)=dA ns (nI ns (td,fd) e) r:=rfl;rw[a0];have hc:=he e zQ;have hr:=λe' h'=>he e' (zL _ h');unfold nI;split
   .exact xN ns C r td fd hr h1 h2
   refine xN ns C r _ _ hr (λj hj=>?_) (λj hj=>?_)
   .rcases mem_append.1 hj with h|h
    .exact h1 j h
    rw[mem_singleton.1 h];exact hc
   by_cases e2:(aK ns e.num).toNat=j
   .rw[<-e2];exact hc
   rw[zG,zX e2,<-zG]at hj;exact h2 j hj
theorem aJQ {C:Nat->Prop} (hC:rH S C):∀(b:Nat) (td:List Nat) (fd:List Bool),(∀j∈td,C j)->(∀j,fd.getD j false=true->C j)->∀j,(bfs S.nums S.ins b td fd).getD j false=true->C j
 |0,_,_,_,h,j,hj=>h j hj
 |_+1,[],_,_,h,j,hj=>h j hj
 | b+1,k::td,fd,h1,h2,j,hj=>by
   have hk:=h1 k zQ;have a0:∀e∈(match S.ins[k]? with|some x=>x.ents|none=>[]),C (aK S.nums e.num).toNat:=by
    rcases hx:S.ins[k]? with _|x
    .intro e he;cases he
    exact λe he=>hC k x hk hx e he
   obtain⟨a,b'⟩:=xN S.nums C _ td fd a0 (λj hj=>h1 j (zL _ hj)) h2;exact aJQ hC b _ _ a b' j hj
theorem fQ (hr:Rise S.nums) (hfile:∀x∈S.ins,x.dir=false->x.ents=[]) (hfound:∀x∈S.ins,∀e∈x.ents,0<=bP S e.num):∀(g:Nat) (st:List Int) (fd:List Bool),fd.length=S.ins.length->st.length+oH S.ins fd<=g->
 (∀k x,fd.getD k false=true->S.ins[k]? =some x->∀e∈x.ents,fd.getD (bP S e.num).toNat false=true\/e.num∈st)->
 (∀j,fd.getD j false=true->(fZ S g st fd).getD j false=true)/\(∀n∈st,0<=bP S n->(fZ S g st fd).getD (bP S n).toNat false=true)/\rH S λk=>(fZ S g st fd).getD k false=true
 | 0,st,fd,hl,hg,hi=>by
   have:st=[]:=zT (by omega);subst this;refine⟨λ_ h=>h,λn hn=>(by cases hn),λk x hk hx e he=>?_⟩;rcases hi k x hk hx e he with h|h
   .rw[bG hr];exact h
   cases h
 | g+1,[],fd,hl,hg,hi=>by
   refine⟨λ_ h=>h,λn hn=>(by cases hn),λk x hk hx e he=>?_⟩;rcases hi k x hk hx e he with h|h
   .rw[bG hr];exact h
   cases h
 | g + 1, n::st,fd,hl,hg,hi=>by
   simp only[zK]at hg;unfold fZ;split
   .rename_i ha
    obtain⟨b1,b2,b3⟩:=fQ hr hfile hfound g st fd hl (by omega) (λk x hk hx e he=>by
     rcases hi k x hk hx e he with h|h
     .exact .inl h
     rcases mem_cons.1 h with h|h
     .have:=hfound x (mG hx) e he;rw[h]at this;omega
     exact .inr h)
    refine⟨b1,λm hm h0=>?_,b3⟩;rcases mem_cons.1 hm with rfl|hm
    .omega
    exact b2 m hm h0
   rename_i ha;obtain⟨k0,x0,hx0,hk0⟩:∃k x,S.ins[k]? =some x/\bP S n=(k:Nat):=by
    rcases gC S n with⟨k,x,hk,e⟩|⟨_,e⟩
    .exact⟨k,x,hk,by rw[<-e];exact cS hr hk⟩
    omega
   obtain⟨hk0l,_⟩:=gI.1 hx0;rw[hk0,zJ];have a1:fd.getD k0 true=fd.getD k0 false:=by rw[zG,zG,gE (by omega)];rfl
   rw[a1];split
   .rename_i hb
    obtain⟨b1,b2,b3⟩:=fQ hr hfile hfound g st fd hl (by omega) (λk x hk hx e he=>by
     rcases hi k x hk hx e he with h|h
     .exact .inl h
     rcases mem_cons.1 h with h|h
     .left;rw[h,hk0,zJ];exact hb
     exact .inr h)
    refine⟨b1,λm hm h0=>?_,b3⟩;rcases mem_cons.1 hm with rfl|hm
    .rw[hk0,zJ];exact b1 k0 hb
    exact b2 m hm h0
   rename_i hb;rw[hx0];simp only;have a2:fd[k0]? =some false:=by rw[gE (by omega)];rw[zG,gE (by omega)]at hb;simpa using hb
   have a3:=aAJ S.ins fd k0 x0 hx0 a2;have a0:(fd.set k0 true).getD k0 false=true:=by rw[zG,zY (by omega)];rfl
   have a4:(kR x0).length<=x0.ents.length:=by
    unfold kR;split<;>simp
   obtain⟨b1,b2,b3⟩:=fQ hr hfile hfound g ((kR x0).reverse++st) (fd.set k0 true) (by simpa using hl) (by simp only[lP,length_reverse];omega) (λk x hk hx e he=>by
    by_cases e0:k0=k
    .subst e0;rw[hx0]at hx;cases hx;right;refine mem_append_left _ (mem_reverse.2 ?_);unfold kR;cases hd:x0.dir with
     |true=>exact mem_map.2 ⟨e,he,rfl⟩
     |false=>rw[hfile x0 (mG hx0) hd]at he;cases he
    rw[zG,zX e0,<-zG]at hk;rcases hi k x hk hx e he with h|h
    .exact .inl (getD_set_true h)
    rcases mem_cons.1 h with h|h
    .left;rw[h,hk0,zJ];exact a0
    exact .inr (mem_append_right _ h))
   refine⟨λj hj=>b1 j (getD_set_true hj),λm hm h0=>?_,b3⟩;rcases mem_cons.1 hm with rfl|hm
   .rw[hk0,zJ];exact b1 k0 a0
   exact b2 m (mem_append_right _ hm) h0
theorem xO {many:List Int} {found:List Bool} {op:List PDesc}:∀(xs:List PIn) (i j:Nat) (x:PIn),eJ many found op i xs=true->xs[j]? =some x->i+j≠0->(x.dir=true->many.getD (i+j) 0=1/\found.getD (i+j) false=true)/\(x.dir=false->found.getD (i+j) false=true\/nC op x.num=true)
 |[],_,_,_,_,hx,_=>by simp at hx
 | y ::r,i,0,x,h,hx,h0=>by
   simp at hx;subst hx;unfold eJ at h;rw[zA (by omega)]at h;split at h
   .cases h
   rename_i h1;split at h
   .cases h
   rename_i h2;refine⟨λhd=>?_,λhd=>?_⟩
   .rw[hd]at h1;simpa using h1
   rw[hd]at h2;cases hf:found.getD i false with
   |true=>exact .inl (by simp)
   | false=>right;rw[hf]at h2;simp at h2;exact h2.2
 | y :: r,i,j+1,x,h,hx,h0=>by
   have hr:eJ many found op (i+1) r=true:=by
    unfold eJ at h;split at h
    .exact h
    split at h
    .cases h
    split at h
    .cases h
    exact h
   have:=xO r (i+1) j x hr (by simpa using hx) (by omega);rw[show i+(j+1)=i+1+j by omega];exact this
theorem aOT (hwf:S.wf) (hm:cO S=true):lU S=true:=by
 have M:=qF hwf hm;have hr:=M.tree.rise;obtain⟨x0,h0,h01,h0d⟩:=M.head;have a3:∀x∈S.ins,∀e∈x.ents,0<=aK S.nums e.num/\aK S.nums e.num<S.ins.length:=λx hx e he=>by rw[bG hr];exact M.tree.found x hx e he
 have b0:dK S.ins<9000000000000000000:=by
  have key:∀(xs:List PIn),(∀x∈xs,x.ents.length<=1000000000)->dK xs<=xs.length*1000000000:=by
   intro xs
   induction xs with
   |nil=>intro _;simp[dK]
   | cons x r ih=>intro hx;have h1:=ih λy hy=>hx y (zL _ hy);have h2:=hx x zQ;simp only[dK,xB,sum_cons,zK]at h1 |-;omega
  have:=key S.ins λx hx=>(hwf.2.2.2.1 x hx).2.1;have:=M.tree.small;omega
 have a4:∀{q:Nat} {x:PIn},S.ins[q]? =some x->(fD S).getD q 0=bX S x.num:=fun{q x} hq=>by
  unfold fD bX;have h0:(List.replicate S.ins.length (0:Int)).getD q 0=0:=by
   rw[zG,yQ];split<;>rfl
  have:=pF hr (cC hq) S.ins (List.replicate S.ins.length 0) (by simp[PSt.nums]) (λx hx e he=>(a3 x hx e he).1) M.file (by rw[h0];omega) (by rw[h0];omega);rw[this,h0]
 have a8:∀k,(List.replicate S.ins.length false).getD k false=true->False:=λk hk=>by
  rw[zG,yQ]at hk;split at hk<;>cases hk
 obtain⟨r1,r2,r3⟩:=fQ hr M.file (λx hx e he=>(M.tree.found x hx e he).1) (1+oH S.ins (List.replicate S.ins.length false)) [1] (List.replicate S.ins.length false) (by simp) (by simp) (λk x hk=>absurd hk (a8 k));have a0:(eT S).getD 0 false=true:=by have:=r2 1 (by simp) (by rw[M.root];omega);rw[M.root]at this;exact this
 have a9:∀k,(eK S).getD k false=true->(eT S).getD k false=true:=aJQ (C:=λk=>(eT S).getD k false=true) r3 _ _ _ (λj hj=>by rw[mem_singleton.1 hj];exact a0) (λj hj=>by
  by_cases e:0=j
  .rw[<-e];exact a0
  rw[zG,zX e,<-zG]at hj;exact(a8 j hj).elim)
 unfold cO at hm;split at hm;rotate_left
 .cases hm
 rename_i h1;simp only[zE]at h1;obtain⟨⟨hmade,hins⟩,hop⟩:=h1;unfold dS at hmade;simp only[zE,yL,yV,yW,any_eq_false]at hmade;obtain⟨⟨hm1,hm2⟩,hm3⟩:=hmade;have a5:S.ins.all (inB S.nums)=true:=by
  unfold dW at hins;split at hins
  .cases hins
  split at hins
  .split at hins
   .rw[zE]at hins;exact hins.2
   cases hins
  cases hins
 rw[yY]at a5;unfold lU;have b3:=M.tree.pos;have b5:=M.tree.small;rw[zE,zE,zE,zE];refine⟨by rw[zI];omega,?_,tW hr S.op none hop,?_,?_⟩
 .rw[h0];simp only[h01,h0d];rfl
 .rw[yY];intro m hmm;rw[zI];exact M.made m hmm
 unfold aGS;rw[yY];intro q hq;have b4:q<S.ins.length:=mem_range.1 hq;have hx:S.ins[q]? =some S.ins[q]:=gE b4;rw[hx];simp only;generalize S.ins[q]=x at hx;have a6:=mG hx;have a7:=a5 x a6;unfold inR;rw[zE,zE,zE,zE];refine⟨?_,by rw[zI];exact M.tree.data x a6,?_,?_,?_⟩
 .rcases Nat.eq_zero_or_pos q with e|e
  .rw[e];rfl
  rw[yI,zE,zI];right;constructor
  .have hy:S.ins[q-1]? =some S.ins[q-1]:=gE (by omega);unfold gP;rw[hy];exact hr (q-1) q _ _ (cC hy) (cC hx) (by omega)
  exact M.nums q x hx e
 .cases hd:x.dir with
  |true=>simp only[if_true];rw[beq_iff_eq];exact M.bare x a6 hd
  |false=>simp only[zP,if_false];rw[M.file x a6 hd];rfl
 .cases hd:x.dir with
  | true=>unfold inB at a7;rw[zB hd,zE]at a7;exact tV hr _ _ _ a7.2
  |false=>rw[M.file x a6 hd];rfl
 rcases Nat.eq_zero_or_pos q with e|e
 .cases hd:x.dir with
  |true=>rw[e];rfl
  | false=>exfalso;rw[e,h0]at hx;cases hx;rw[hd]at h0d;cases h0d
 obtain⟨a1,a2⟩:=xO S.ins 0 q x hm hx (by omega);rw[zM]at a1 a2;cases hd:x.dir with
 | true=>obtain⟨b1,b2⟩:=a1 hd;rw[a4 hx]at b1;simp only[if_true];rw[b1,a9 q b2];simp
 | false=>
   simp only[zP,if_false];rw[yI];rcases a2 hd with h|h
   .exact .inl (a9 q h)
   exact .inr h
theorem aJR (hwf:S.wf):lU S=cO S:=by rw[Bool.eq_iff_iff];exact⟨aOP hwf,aOT hwf⟩
end
section
inductive Reach (S:PSt):Int->Prop
 |root:Reach S 1
 |step {x:PIn} {e:PEnt}:Reach S x.num->x∈S.ins->e∈x.ents->Reach S e.num
structure MayQ (S:PSt):Prop where
 wf:S.wf
 rise:Rise S.nums
 head:∃x0,S.ins[0]? =some x0/\x0.num=1/\x0.dir=true
 core:1<=S.made.length/\S.made.length<=8
 made:∀m∈S.made,0<=m/\m<=32
 nums:∀x∈S.ins,x.num≠1->dL S.made x.num=true
 data:∀x∈S.ins,x.data.size<=256
 file:∀x∈S.ins,x.dir=false->x.ents=[]
 bare:∀x∈S.ins,x.dir=true->x.data.size=0
 ents:∀x∈S.ins,fA S.nums none [0,0,0,0,0,0,0,0] x.ents=true
 descs:fL S none S.op=true
 tree:∀x∈S.ins,x.num≠1->(x.dir=true->bX S x.num=1/\Reach S x.num)/\(x.dir=false->Reach S x.num\/nC S.op x.num=true)
section
variable {S:PSt}
theorem MayQ.len (h:MayQ S):0<S.ins.length/\S.ins.length<=257:=by
 obtain⟨x0,h0,h1,-⟩:=h.head;obtain⟨hl,-⟩:=gI.1 h0;refine⟨hl,?_⟩;by_cases e:S.ins.length=1
 .omega
 have hy:S.ins[S.ins.length-1]? =some S.ins[S.ins.length-1]:=gE (by omega);have h2:=vX h.rise _ _ _ (cC h0) (cC hy);have h3:=aCR (h.nums _ (mG hy) (by omega)) h.core.2 (λm hm=>(h.made m hm).2);omega
theorem MayQ.found (h:MayQ S):∀x∈S.ins,∀e∈x.ents,0<=bP S e.num/\bP S e.num<S.ins.length:=λx hx e he=>by have h1:=nV _ _ _ _ (h.ents x hx) e he;rw[bG h.rise]at h1;have:=fE S e.num;omega
theorem MayQ.may (h:MayQ S):cO S=true:=by
 rw[<-aJR h.wf];have hr:=h.rise;have a9:=h.wf;obtain⟨x0,h0,h01,h0d⟩:=h.head;have a0:bP S 1=0:=by have:=cS hr h0;rw[h01]at this;exact this
 obtain⟨hpos,hsm⟩:=h.len;have a7:∀k,(List.replicate S.ins.length false).getD k false=true->False:=λk hk=>by
  rw[zG,yQ]at hk;split at hk<;>cases hk
 obtain⟨r1,r2,r3⟩:=fQ hr h.file (λx hx e he=>(h.found x hx e he).1) (1+oH S.ins (List.replicate S.ins.length false)) [1] (List.replicate S.ins.length false) (by simp) (by simp) (λk x hk=>absurd hk (a7 k));have a4:(eT S).getD 0 false=true:=by have:=r2 1 (by simp) (by rw[a0];omega);rw[a0]at this;exact this
 have a6:∀n,Reach S n->∀k x,S.ins[k]? =some x->x.num=n->(eT S).getD k false=true:=by
  intro n hn
  induction hn with
  | root=>
    intro k x hx hxn;have:=cS hr hx;rw[hxn,a0]at this;have:k=0:=by omega
    subst this;exact a4
  | @step y e hy hym hem ih=>intro k x hx hxn;obtain⟨i,hi⟩:=getElem?_of_mem hym;have h1:=r3 i y (ih i y hi rfl) hi e hem;have h2:=cS hr hx;rw[bG hr,<-hxn,h2]at h1;exact h1
 unfold lU;rw[zE,zE,zE,zE];refine⟨by rw[zI];have:=h.core;omega,?_,tW hr S.op none h.descs,?_,?_⟩
 .rw[h0];simp only[h01,h0d];rfl
 .rw[yY];intro m hmm;rw[zI];exact h.made m hmm
 unfold aGS;rw[yY];intro q hq;have a8:q<S.ins.length:=mem_range.1 hq;have hx:S.ins[q]? =some S.ins[q]:=gE a8;rw[hx];simp only;generalize S.ins[q]=x at hx;have a3:=mG hx;unfold inR;rw[zE,zE,zE,zE];refine⟨?_,by rw[zI];exact h.data x a3,?_,?_,?_⟩
 .rcases Nat.eq_zero_or_pos q with e|e
  .rw[e];rfl
  rw[yI,zE,zI];right;have a5:x.num≠1:=λe1=>by have:=cS hr hx;rw[e1,a0]at this;omega
  constructor
  .have hy:S.ins[q-1]? =some S.ins[q-1]:=gE (by omega);unfold gP;rw[hy];exact hr (q-1) q _ _ (cC hy) (cC hx) (by omega)
  exact h.nums x a3 a5
 .cases hd:x.dir with
  |true=>simp only[if_true];rw[beq_iff_eq];exact h.bare x a3 hd
  |false=>simp only[zP,if_false];rw[h.file x a3 hd];rfl
 .exact tV hr _ _ _ (h.ents x a3)
 rcases Nat.eq_zero_or_pos q with e|e
 .cases hd:x.dir with
  |true=>rw[e];rfl
  | false=>exfalso;rw[e,h0]at hx;cases hx;rw[hd]at h0d;cases h0d
 have a5:x.num≠1:=λe1=>by have:=cS hr hx;rw[e1,a0]at this;omega
 obtain⟨a1,a2⟩:=h.tree x a3 a5;cases hd:x.dir with
 | true=>obtain⟨b1,b2⟩:=a1 hd;simp only[if_true];rw[b1,a6 _ b2 q x hx rfl];simp
 | false=>
   simp only[zP,if_false];rw[yI];rcases a2 hd with h|h
   .exact .inl (a6 _ h q x hx rfl)
   exact .inr h
theorem aWI (hwf:S.wf) (hm:cO S=true):MayQ S:=by
 have M:=qF hwf hm;have hr:=M.tree.rise;obtain⟨x0,h0,h01,h0d⟩:=M.head;have a0:∀x∈S.ins,∀e∈x.ents,0<=aK S.nums e.num/\aK S.nums e.num<S.ins.length:=λx hx e he=>by rw[bG hr];exact M.tree.found x hx e he
 have a8:dK S.ins<9000000000000000000:=by
  have key:∀(xs:List PIn),(∀x∈xs,x.ents.length<=1000000000)->dK xs<=xs.length*1000000000:=by
   intro xs
   induction xs with
   |nil=>intro _;simp[dK]
   | cons x r ih=>intro hx;have h1:=ih λy hy=>hx y (zL _ hy);have h2:=hx x zQ;simp only[dK,xB,sum_cons,zK]at h1 |-;omega
  have:=key S.ins λx hx=>(hwf.2.2.2.1 x hx).2.1;have:=M.tree.small;omega
 have a3:∀{q:Nat} {x:PIn},S.ins[q]? =some x->(fD S).getD q 0=bX S x.num:=fun{q x} hq=>by
  unfold fD bX;have h0:(List.replicate S.ins.length (0:Int)).getD q 0=0:=by
   rw[zG,yQ];split<;>rfl
  have:=pF hr (cC hq) S.ins (List.replicate S.ins.length 0) (by simp[PSt.nums]) (λx hx e he=>(a0 x hx e he).1) M.file (by rw[h0];omega) (by rw[h0];omega);rw[this,h0]
 have a9:∀k,(List.replicate S.ins.length false).getD k false=true->False:=λk hk=>by
  rw[zG,yQ]at hk;split at hk<;>cases hk
 have hC:rH S λk=>∀x,S.ins[k]? =some x->Reach S x.num:=by intro k x hk hx e he y hy;obtain⟨f1,f2⟩:=M.tree.found x (mG hx) e he;rw[bG hr]at hy;have hn:=M.num (n:=e.num) (k:=(bP S e.num).toNat) (by omega) hy;rw[hn];exact .step (hk x hx) (mG hx) he
 have a6:∀x,S.ins[0]? =some x->Reach S x.num:=λx hx=>by rw[h0]at hx;cases hx;rw[h01];exact .root
 have a7:∀k,(eK S).getD k false=true->∀x,S.ins[k]? =some x->Reach S x.num:=aJQ (C:=λk=>∀x,S.ins[k]? =some x->Reach S x.num) hC _ _ _ (λj hj=>by rw[mem_singleton.1 hj];exact a6) (λj hj=>by
  by_cases e:0=j
  .rw[<-e];exact a6
  rw[zG,zX e,<-zG]at hj;exact(a9 j hj).elim)
 unfold cO at hm;split at hm;rotate_left
 .cases hm
 rename_i h1;simp only[zE]at h1;obtain⟨⟨hmade,hins⟩,hop⟩:=h1;unfold dS at hmade;simp only[zE,yL,yV,yW,any_eq_false]at hmade;obtain⟨⟨hm1,hm2⟩,hm3⟩:=hmade;have a4:S.ins.all (inB S.nums)=true:=by
  unfold dW at hins;split at hins
  .cases hins
  split at hins
  .split at hins
   .rw[zE]at hins;exact hins.2
   cases hins
  cases hins
 rw[yY]at a4;refine⟨hwf,hr,⟨x0,h0,h01,h0d⟩,by omega,M.made,λx hx hne=>?_,M.tree.data,M.file,M.bare,λx hx=>?_,hop,λx hx hne=>?_⟩
 .obtain⟨q,hq⟩:=getElem?_of_mem hx;have b0:q≠0:=λe=>by
   rw[e,h0]at hq;cases hq;exact hne h01
  exact M.nums q x hq (by omega)
 .cases hd:x.dir with
  | true=>have a5:=a4 x hx;unfold inB at a5;rw[zB hd,zE]at a5;exact a5.2
  |false=>rw[M.file x hx hd];rfl
 obtain⟨q,hq⟩:=getElem?_of_mem hx;have b0:q≠0:=λe=>by rw[e,h0]at hq;cases hq;exact hne h01
 obtain⟨a1,a2⟩:=xO S.ins 0 q x hm hq (by omega);rw[zM]at a1 a2;refine⟨λhd=>?_,λhd=>?_⟩
 .obtain⟨b1,b2⟩:=a1 hd;rw[a3 hq]at b1;exact⟨b1,a7 q b2 x hq⟩
 rcases a2 hd with h|h
 .exact .inl (a7 q h x hq)
 exact .inr h
end
end
end Go.Proofs.YtmkapobnfigedaaGreatDoor
