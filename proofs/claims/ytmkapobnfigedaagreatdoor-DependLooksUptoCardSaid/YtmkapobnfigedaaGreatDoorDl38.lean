/- Part of the proof of a law of chapter 15. Conditions: none. -/
import Derived.Test.YtmkapobnfigedaaGreatDoorDl37
set_option linter.unusedVariables false
set_option linter.unusedSimpArgs false
set_option maxRecDepth 100000
set_option maxHeartbeats 8000000
namespace Go.Proofs.YtmkapobnfigedaaGreatDoor
open Go.RowKit
section
def PSt.wfn (n:Nat) (S:PSt):Prop:=
 S.ins.length<=n/\S.op.length<=n/\S.made.length<=n/\(∀x∈S.ins,I64 x.num/\x.ents.length<=n/\∀e∈x.ents,I64 e.num)/\(∀d∈S.op,I64 d.core/\I64 d.fd/\I64 d.num)/\∀m∈S.made,I64 m
variable {K i n:Nat} {S S':PSt} {c:PCall} {es:List PEnt} {r:PRes} {x:PIn}
theorem PSt.wfn.wf (h:S.wfn n) (hn:n<=1000000000):S.wf:=by obtain⟨h1,h2,h3,h4,h5,h6⟩:=h;exact⟨by omega,by omega,by omega,λx hx=>⟨(h4 x hx).1,by have:=(h4 x hx).2.1;omega,(h4 x hx).2.2⟩,h5,h6⟩
theorem PSt.wfn.mono {m:Nat} (h:S.wfn n) (hn:n<=m):S.wfn m:=by obtain⟨h1,h2,h3,h4,h5,h6⟩:=h;exact⟨by omega,by omega,by omega,λx hx=>⟨(h4 x hx).1,by have:=(h4 x hx).2.1;omega,(h4 x hx).2.2⟩,h5,h6⟩
theorem kS {α:Type} {l:List α} {x y:α} (h:y∈bJ l i x):y=x\/y∈l:=by
 unfold bJ at h;rcases List.mem_append.1 h with h|h
 .exact .inr (List.mem_of_mem_take h)
 rcases List.mem_cons.1 h with h|h
 .exact .inl h
 exact .inr (List.mem_of_mem_drop h)
theorem kU {α:Type} {l:List α} {y:α} (h:y∈aM l i):y∈l:=by
 unfold aM at h;rcases List.mem_append.1 h with h|h
 .exact List.mem_of_mem_take h
 exact List.mem_of_mem_drop h
theorem lT {α:Type} (l:List α) (i:Nat) (x:α):(bJ l i x).length=l.length+1:=by unfold bJ;rw[lP,zK,zU,yK];omega
theorem mO {α:Type} (l:List α) (i:Nat):(aM l i).length<=l.length:=by unfold aM;rw[lP,zU,yK];omega
theorem mP (h:S.wfn n) (hx:S.ins[K]? =some x) (hl:es.length<=n) (he:∀e∈es,I64 e.num):(S.ents K x es).wfn n:=by
 obtain⟨h1,h2,h3,h4,h5,h6⟩:=h;refine⟨by unfold PSt.ents;rw[yB];exact h1,h2,h3,λy hy=>?_,h5,h6⟩;unfold PSt.ents at hy;rcases List.mem_or_eq_of_mem_set hy with hy|rfl
 .exact h4 y hy
 exact⟨(h4 x (mG hx)).1,hl,he⟩
theorem aGR (h:S.wfn n) {es:List PIn} (hl:es.length<=n) (he:∀x∈es,x∈S.ins):({ S with ins:=es}:PSt).wfn n:=by obtain⟨h1,h2,h3,h4,h5,h6⟩:=h;exact⟨hl,h2,h3,λy hy=>h4 y (he y hy),h5,h6⟩
theorem aMG (h:S.wfn n) {es:List PDesc} (hl:es.length<=n) (he:∀d∈es,I64 d.core/\I64 d.fd/\I64 d.num):({ S with op:=es}:PSt).wfn n:=by obtain⟨h1,h2,h3,h4,h5,h6⟩:=h;exact⟨h1,hl,h3,h4,he,h6⟩
theorem aBO (h:S.wfn n) (num:Int):(oI S num).wfn n:=by
 unfold oI;split
 .exact h
 split
 .exact aGR h (zD (mO _ _) h.1) (λx hx=>kU hx)
 exact h
theorem aBP (h:S.wfn n) (hx:x∈S.ins) (d:ByteArray):({ S with ins:=S.ins.set K { x with data:=d}}:PSt).wfn n:=by
 obtain⟨h1,h2,h3,h4,h5,h6⟩:=h;refine⟨by rw[yB];exact h1,h2,h3,λy hy=>?_,h5,h6⟩;rcases List.mem_or_eq_of_mem_set hy with hy|rfl
 .exact h4 y hy
 exact h4 x hx
theorem aIN (h:kR S c=.ok (S',r)):S'=S:=by
 unfold kR pH pI wJ aDI rI at h
 repeat' (split at h)
 all_goals first|(cases h;rfl)|cases h|skip
theorem aDZ {r':PRes} (h:kJ S c r=.ok (S',r')):S'=S:=by
 unfold kJ at h;split at h
 .cases h
 cases h;rfl
theorem aPV (hwf:S.wf) (hm:dB S=true):S.wfn 300/\S.made.length<=8/\(∀m∈S.made,0<=m/\m<=32):=by
 have T:=nH hwf hm;have B:=oM hwf hm;have a0:=hm;unfold dB at a0;split at a0
 .rename_i h1
  simp only[zE]at h1;obtain⟨⟨hmd,_⟩,a2⟩:=h1;unfold cZ at hmd;simp only[zE,yL,yU,yV]at hmd;obtain⟨⟨m1,m8⟩,hall⟩:=hmd;have a1:∀m∈S.made,0<=m/\m<=32:=λm hm=>by have:=List.any_eq_false.1 hall m hm;unfold dK at this;simp at this;omega
  have a2:=B.op;have a3:=T.small;refine⟨⟨by omega,by omega,by omega,λx hx=>⟨(hwf.2.2.2.1 x hx).1,by have:=T.many x hx;omega,(hwf.2.2.2.1 x hx).2.2⟩,hwf.2.2.2.2.1,hwf.2.2.2.2.2⟩,by omega,a1⟩
 cases a0
theorem aPW (hwf:S.wf) (hm:fI S c=true) (h:eH S c=.ok (S',r)):S'.wfn 303:=by
 obtain⟨hmay,hc0,hc1⟩:=mN hm;obtain⟨hw,hm8,hmm⟩:=aPV hwf hmay;have a0:=hw.mono (show 300<=303 by omega);have a7:=hw.2.2.2.1;unfold eH at h;by_cases k1:c.kind=0\/c.kind=1
 .rw[zB k1]at h;unfold gU at h
  split at h
  .cases h
  unfold nK at h;rcases hp:aX S (aA c.path).2 with k|⟨K,l⟩
  .rw[hp]at h;cases h
  rw[hp]at h;simp only at h;rcases hx:S.ins[K]? with _|x
  .rw[hx]at h;cases h
  rw[hx]at h;simp only at h;split at h
  .cases h
  rcases hmd:S.made[c.core.toNat]? with _|m
  .rw[hmd]at h;cases h
  rw[hmd]at h;simp only at h;split at h
  .cases h
  cases h;have b4:=hmm m (mG hmd);have a8:=a7 x (mG hx);have a9:I64 (2+c.core+8*m):=by unfold I64;omega
  have h1:(S.ents K x (bJ x.ents (cL x.ents l) ⟨l,2+c.core+8*m⟩)).wfn 303:=mP a0 hx (zD (Nat.le_of_eq (lT _ _ _)) (by have:=a8.2.1;omega)) (λe he=>by
   rcases kS he with rfl|he
   .exact a9
   exact a8.2.2 e he)
  obtain⟨a1,a2,a3,a4,a5,a6⟩:=h1;refine⟨?_,a2,?_,?_,a5,?_⟩
  .show(bJ _ _ _).length<=303;rw[lT];show(S.ins.set _ _).length+1<=303;rw[yB];have:=hw.1;omega
  .show(S.made.set _ _).length<=303;rw[yB];omega
  .intro y hy;rcases kS hy with rfl|hy
   .exact⟨a9,by simp,by simp⟩
   exact a4 y hy
  intro y hy;rcases List.mem_or_eq_of_mem_set hy with hy|rfl
  .exact a6 y hy
  unfold I64;omega
 rw[zA k1]at h;by_cases k2:c.kind=2
 .rw [zB k2]at h;unfold pK oX at h
  repeat' (split at h)
  all_goals first|(cases h;done)|skip
  .cases h;exact a0
  rename_i x hx _ hfd;cases h;have a8:=a7 x (mG hx);refine aMG a0 ?_ λd hd=>?_
  .show(sB S.op _ _).length<=303;unfold sB;rw[lP,zK,zU,yK];have:=(oM hwf hmay).op;omega
  have b2:d∈bJ S.op (cT c.core S.op 0 0 0).2 ⟨c.core,(cT c.core S.op 0 0 0).1,x.num⟩:=hd;rcases kS b2 with rfl|hd
  .exact⟨by show I64 c.core;unfold I64;omega,by show I64 ((cT c.core S.op 0 0 0).1:Int);unfold I64;omega,a8.1⟩
  exact a0.2.2.2.2.1 d hd
 rw[zA k2]at h;by_cases k3:c.kind=3
 .rw[zB k3]at h;unfold kK at h
  split at h
  .cases h
  cases h;exact aBO (aMG a0 (zD (mO _ _) a0.2.1) λd hd=>a0.2.2.2.2.1 d (kU hd)) _
 rw[zA k3]at h;by_cases k5:c.kind=5
 .rw[zB k5]at h;unfold jX at h
  repeat' (split at h)
  all_goals first|(cases h;done)|skip
  rename_i y hy _ _;cases h;exact aBP a0 (mG (hY (K:=y.1) (x:=y.2) hy).1) _
 rw[zA k5]at h;by_cases k6:c.kind=6
 .rw[zB k6]at h;unfold jY at h
  repeat' (split at h)
  all_goals first|(cases h;done)|skip
  rename_i y hy _;cases h;exact aBP a0 (mG (hY (K:=y.1) (x:=y.2) hy).1) _
 rw[zA k6]at h;by_cases k8:c.kind=8
 .rw[zB k8]at h;unfold mV at h;rcases hp:sD S c.path with k|K
  .rw[hp]at h;cases h
  rw[hp]at h;simp only at h;rcases hx:S.ins[K]? with _|x
  .rw[hx]at h;cases h
  rw[hx]at h;simp only at h;split at h
  .cases h
  rcases hp2:cV S c.path2 with k|⟨K2,l⟩
  .rw[hp2]at h;cases h
  rw[hp2]at h;simp only at h;unfold tL at h;rcases hy:S.ins[K2]? with _|y
  .rw[hy]at h;cases h
  rw[hy]at h;simp only at h;split at h
  .cases h
  split at h
  .cases h
  cases h;have a8:=a7 x (mG hx);have b0:=a7 y (mG hy);exact mP a0 hy (zD (Nat.le_of_eq (lT _ _ _)) (by have:=b0.2.1;omega)) (λe he=>by
   rcases kS he with rfl|he
   .exact a8.1
   exact b0.2.2 e he)
 rw[zA k8]at h;by_cases k9:c.kind=9\/c.kind=10
 .rw[zB k9]at h;unfold gW at h;rcases hp:cV S c.path with k|⟨K,l⟩
  .rw[hp]at h;cases h
  rw[hp]at h;simp only at h;rcases hx:S.ins[K]? with _|x
  .rw[hx]at h;cases h
  rw[hx]at h;simp only at h;split at h
  .cases h
  rcases he:x.ents[cL x.ents l]? with _|e
  .rw[he]at h;cases h
  rw[he]at h;simp only at h;have a8:=a7 x (mG hx);have h1:(S.ents K x (aM x.ents (cL x.ents l))).wfn 303:=mP a0 hx (zD (mO _ _) (by have:=a8.2.1;omega)) λe he=>a8.2.2 e (kU he);unfold aFN at h
  repeat' (split at h)
  all_goals first|(cases h;done)|skip
  .cases h;exact aBO h1 _
  cases h;exact aGR h1 (zD (mO _ _) h1.1) (λx hx=>kU hx)
 rw[zA k9]at h;by_cases k11:c.kind=11
 .rw[zB k11]at h;unfold gH at h
  split at h
  .cases h
  split at h;rotate_left
  .cases h
  unfold eZ at h;rcases hp:aX S (aA c.path).2 with k|⟨K1,l⟩
  .rw[hp]at h;cases h
  rw[hp]at h;simp only at h;rcases hx:S.ins[K1]? with _|x
  .rw[hx]at h;cases h
  rw[hx]at h;simp only at h;unfold jN at h;split at h
  .cases h
  rcases he:x.ents[cL x.ents l]? with _|e
  .rw[he]at h;cases h
  rw[he]at h;simp only at h;rcases hp2:aX S (aA c.path2).2 with k|⟨K2,t⟩
  .rw[hp2]at h;cases h
  rw[hp2]at h;simp only at h;split at h
  .cases h
  unfold rV at h;rcases hx2:S.ins[K2]? with _|x2
  .rw[hx2]at h;cases h
  rw[hx2]at h;simp only at h;split at h
  .cases h
  generalize fQ x2.ents t (if x.num=x2.num then l else{ data:=#[]})=fb at h;rcases fb with _|_;rotate_left
  .cases h
  simp only[zP,if_false]at h;unfold rC at h;have a8:=a7 x (mG hx);have b1:(S.ents K1 x (aM x.ents (cL x.ents l))).wfn 300:=mP hw hx (zD (mO _ _) a8.2.1) λe he=>a8.2.2 e (kU he);rcases hy:(S.ents K1 x (aM x.ents (cL x.ents l))).ins[K2]? with _|y
  .rw[hy]at h;cases h
  rw[hy]at h;cases h;have b0:=b1.2.2.2.1 y (mG hy);have b3:=a8.2.2 e (mG he);exact mP (b1.mono (by omega)) hy (by rw[lT];have:=b0.2.1;omega) (λe' he'=>by
   rcases kS he' with rfl|he'
   .exact b3
   exact b0.2.2 e' he')
 rw[zA k11]at h;by_cases k15:c.kind=15
 .rw[zB k15]at h;rw[aDZ h];exact a0
 rw[zA k15]at h;by_cases k16:c.kind=16
 .rw[zB k16]at h;cases h;exact a0
 rw[zA k16]at h;rw[aIN h];exact a0
theorem aEA (hwf:S.wf):(mK S c).1.wf:=by
 unfold mK doM;split
 .rename_i hm
  split
  .rename_i y e
   exact(aPW (S':=y.1) (r:=y.2) hwf hm e).wf (by omega)
  exact hwf
 exact hwf
end
end Go.Proofs.YtmkapobnfigedaaGreatDoor
