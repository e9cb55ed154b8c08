/- A part of a proof of a law. Conditions: none. -/
import Derived.Test.YtmkapobnfigedaaGreatDoorDk22
import Derived.Test.YtmkapobnfigedaaGreatDoorDk25
import Derived.Test.YtmkapobnfigedaaGreatDoorDk26
set_option linter.unusedVariables false
set_option linter.unusedSimpArgs false
set_option maxRecDepth 100000
set_option maxHeartbeats 8000000
namespace Go.Proofs.YtmkapobnfigedaaGreatDoor
open Go.Proofs.Tryz List Go.RowKit
section
def PSt.wfn (n:Nat) (S:PSt):Prop:=
 S.ins.length<=n/\S.op.length<=n/\S.made.length<=n/\(∀x∈S.ins,I64 x.num/\x.ents.length<=n/\∀e∈x.ents,I64 e.num)/\(∀d∈S.op,I64 d.core/\I64 d.fd/\I64 d.num)/\∀m∈S.made,I64 m
variable {K i n:Nat} {S S':PSt} {c:PCall} {es:List PEnt} {r:PRes} {x:PIn}
theorem PSt.wfn.wf (h:S.wfn n) (hn:n<=1000000000):S.wf:=by obtain⟨h1,h2,h3,h4,h5,h6⟩:=h;exact⟨by omega,by omega,by omega,λx hx=>⟨(h4 x hx).1,by have:=(h4 x hx).2.1;omega,(h4 x hx).2.2⟩,h5,h6⟩
theorem PSt.wfn.mono {m:Nat} (h:S.wfn n) (hn:n<=m):S.wfn m:=by obtain⟨h1,h2,h3,h4,h5,h6⟩:=h;exact⟨by omega,by omega,by omega,λx hx=>⟨(h4 x hx).1,by have:=(h4 x hx).2.1;omega,(h4 x hx).2.2⟩,h5,h6⟩
theorem mB {α:Type} {l:List α} {x y:α} (h:y∈aX l i x):y=x\/y∈l:=by
 unfold aX at h;rcases mem_append.1 h with h|h
 .exact .inr (mem_of_mem_take h)
 rcases mem_cons.1 h with h|h
 .exact .inl h
 exact .inr (mem_of_mem_drop h)
theorem mC {α:Type} {l:List α} {y:α} (h:y∈aM l i):y∈l:=by
 unfold aM at h;rcases mem_append.1 h with h|h
 .exact mem_of_mem_take h
 exact mem_of_mem_drop h
theorem jY {α:Type} (l:List α) (i:Nat) (x:α):(aX l i x).length=l.length+1:=by unfold aX;rw[lP,zK,zU,yK];omega
theorem oH {α:Type} (l:List α) (i:Nat):(aM l i).length<=l.length:=by unfold aM;rw[lP,zU,yK];omega
theorem oI (h:S.wfn n) (hx:S.ins[K]? =some x) (hl:es.length<=n) (he:∀e∈es,I64 e.num):(S.ents K x es).wfn n:=by
 obtain⟨h1,h2,h3,h4,h5,h6⟩:=h;refine⟨by unfold PSt.ents;rw[yB];exact h1,h2,h3,λy hy=>?_,h5,h6⟩;unfold PSt.ents at hy;rcases mem_or_eq_of_mem_set hy with hy|rfl
 .exact h4 y hy
 exact⟨(h4 x (mG hx)).1,hl,he⟩
theorem aKP (h:S.wfn n) {es:List PIn} (hl:es.length<=n) (he:∀x∈es,x∈S.ins):({ S with ins:=es}:PSt).wfn n:=by obtain⟨h1,h2,h3,h4,h5,h6⟩:=h;exact⟨hl,h2,h3,λy hy=>h4 y (he y hy),h5,h6⟩
theorem aQV (h:S.wfn n) {es:List PDesc} (hl:es.length<=n) (he:∀d∈es,I64 d.core/\I64 d.fd/\I64 d.num):({ S with op:=es}:PSt).wfn n:=by obtain⟨h1,h2,h3,h4,h5,h6⟩:=h;exact⟨h1,hl,h3,h4,he,h6⟩
theorem aFC (h:S.wfn n) (num:Int):(qM S num).wfn n:=by
 unfold qM;split
 .exact h
 split
 .exact aKP h (zD (oH _ _) h.1) (λx hx=>mC hx)
 exact h
theorem aFD (h:S.wfn n) (hx:x∈S.ins) (d:ByteArray):({ S with ins:=S.ins.set K { x with data:=d}}:PSt).wfn n:=by
 obtain⟨h1,h2,h3,h4,h5,h6⟩:=h;refine⟨by rw[yB];exact h1,h2,h3,λy hy=>?_,h5,h6⟩;rcases mem_or_eq_of_mem_set hy with hy|rfl
 .exact h4 y hy
 exact h4 x hx
theorem aMS (h:mA S c=.ok (S',r)):S'=S:=by
 unfold mA rL rM aBW aHA uA at h
 repeat' (split at h)
 all_goals first|(cases h;rfl)|cases h|skip
theorem aHW {r':PRes} (h:lQ S c r=.ok (S',r')):S'=S:=by
 unfold lQ at h;split at h
 .cases h
 cases h;rfl
theorem aUX (hwf:S.wf) (hm:cS S=true):S.wfn 300/\S.made.length<=8/\(∀m∈S.made,0<=m/\m<=32):=by
 have T:=pK hwf hm;have B:=qP hwf hm;have a0:=hm;unfold cS at a0;split at a0
 .rename_i h1
  simp only[zE]at h1;obtain⟨⟨hmd,_⟩,a2⟩:=h1;unfold dP at hmd;simp only[zE,yL,yV,yW]at hmd;obtain⟨⟨m1,m8⟩,hall⟩:=hmd;have a1:∀m∈S.made,0<=m/\m<=32:=λm hm=>by have:=any_eq_false.1 hall m hm;unfold eA at this;simp at this;omega
  have a2:=B.op;have a3:=T.small;refine⟨⟨by omega,by omega,by omega,λx hx=>⟨(hwf.2.2.2.1 x hx).1,by have:=T.many x hx;omega,(hwf.2.2.2.1 x hx).2.2⟩,hwf.2.2.2.2.1,hwf.2.2.2.2.2⟩,by omega,a1⟩
 cases a0
theorem aUY (hwf:S.wf) (hm:gB S c=true) (h:eJ S c=.ok (S',r)):S'.wfn 303:=by
 obtain⟨hmay,hc0,hc1⟩:=lY hm;obtain⟨hw,hm8,hmm⟩:=aUX hwf hmay;have a0:=hw.mono (show 300<=303 by omega);have a7:=hw.2.2.2.1;unfold eJ at h;by_cases k1:c.kind=0\/c.kind=1
 .rw[zB k1]at h;unfold jO at h
  split at h
  .cases h
  unfold pP at h;rcases hp:bB S (aA c.path).2 with k|⟨K,l⟩
  .rw[hp]at h;cases h
  rw[hp]at h;simp only at h;rcases hx:S.ins[K]? with _|x
  .rw[hx]at h;cases h
  rw[hx]at h;simp only at h;split at h
  .cases h
  rcases hmd:S.made[c.core.toNat]? with _|m
  .rw[hmd]at h;cases h
  rw[hmd]at h;simp only at h;split at h
  .cases h
  cases h;have b4:=hmm m (mG hmd);have a8:=a7 x (mG hx);have a9:I64 (2+c.core+8*m):=by unfold I64;omega
  have h1:(S.ents K x (aX x.ents (cY x.ents l) ⟨l,2+c.core+8*m⟩)).wfn 303:=oI a0 hx (zD (Nat.le_of_eq (jY _ _ _)) (by have:=a8.2.1;omega)) (λe he=>by
   rcases mB he with rfl|he
   .exact a9
   exact a8.2.2 e he)
  obtain⟨a1,a2,a3,a4,a5,a6⟩:=h1;refine⟨?_,a2,?_,?_,a5,?_⟩
  .show(aX _ _ _).length<=303;rw[jY];show(S.ins.set _ _).length+1<=303;rw[yB];have:=hw.1;omega
  .show(S.made.set _ _).length<=303;rw[yB];omega
  .intro y hy;rcases mB hy with rfl|hy
   .exact⟨a9,by simp,by simp⟩
   exact a4 y hy
  intro y hy;rcases mem_or_eq_of_mem_set hy with hy|rfl
  .exact a6 y hy
  unfold I64;omega
 rw[zA k1]at h;by_cases k2:c.kind=2
 .rw [zB k2]at h;unfold rP rB at h
  repeat' (split at h)
  all_goals first|(cases h;done)|skip
  .cases h;exact a0
  rename_i x hx _ hfd;cases h;have a8:=a7 x (mG hx);refine aQV a0 ?_ λd hd=>?_
  .show(uV S.op _ _).length<=303;unfold uV;rw[lP,zK,zU,yK];have:=(qP hwf hmay).op;omega
  have b2:d∈aX S.op (dK c.core S.op 0 0 0).2 ⟨c.core,(dK c.core S.op 0 0 0).1,x.num⟩:=hd;rcases mB b2 with rfl|hd
  .exact⟨by show I64 c.core;unfold I64;omega,by show I64 ((dK c.core S.op 0 0 0).1:Int);unfold I64;omega,a8.1⟩
  exact a0.2.2.2.2.1 d hd
 rw[zA k2]at h;by_cases k3:c.kind=3
 .rw[zB k3]at h;unfold lR at h
  split at h
  .cases h
  cases h;exact aFC (aQV a0 (zD (oH _ _) a0.2.1) λd hd=>a0.2.2.2.2.1 d (mC hd)) _
 rw[zA k3]at h;by_cases k5:c.kind=5
 .rw[zB k5]at h;unfold lC at h
  repeat' (split at h)
  all_goals first|(cases h;done)|skip
  rename_i y hy _ _;cases h;exact aFD a0 (mG (jX (K:=y.1) (x:=y.2) hy).1) _
 rw[zA k5]at h;by_cases k6:c.kind=6
 .rw[zB k6]at h;unfold lD at h
  repeat' (split at h)
  all_goals first|(cases h;done)|skip
  rename_i y hy _;cases h;exact aFD a0 (mG (jX (K:=y.1) (x:=y.2) hy).1) _
 rw[zA k6]at h;by_cases k8:c.kind=8
 .rw[zB k8]at h;unfold nP at h;rcases hp:rD S c.path with k|K
  .rw[hp]at h;cases h
  rw[hp]at h;simp only at h;rcases hx:S.ins[K]? with _|x
  .rw[hx]at h;cases h
  rw[hx]at h;simp only at h;split at h
  .cases h
  rcases hp2:bW S c.path2 with k|⟨K2,l⟩
  .rw[hp2]at h;cases h
  rw[hp2]at h;simp only at h;unfold wN at h;rcases hy:S.ins[K2]? with _|y
  .rw[hy]at h;cases h
  rw[hy]at h;simp only at h;split at h
  .cases h
  split at h
  .cases h
  cases h;have a8:=a7 x (mG hx);have b0:=a7 y (mG hy);exact oI a0 hy (zD (Nat.le_of_eq (jY _ _ _)) (by have:=b0.2.1;omega)) (λe he=>by
   rcases mB he with rfl|he
   .exact a8.1
   exact b0.2.2 e he)
 rw[zA k8]at h;by_cases k9:c.kind=9\/c.kind=10
 .rw[zB k9]at h;unfold hJ at h;rcases hp:bW S c.path with k|⟨K,l⟩
  .rw[hp]at h;cases h
  rw[hp]at h;simp only at h;rcases hx:S.ins[K]? with _|x
  .rw[hx]at h;cases h
  rw[hx]at h;simp only at h;split at h
  .cases h
  rcases he:x.ents[cY x.ents l]? with _|e
  .rw[he]at h;cases h
  rw[he]at h;simp only at h;have a8:=a7 x (mG hx);have h1:(S.ents K x (aM x.ents (cY x.ents l))).wfn 303:=oI a0 hx (zD (oH _ _) (by have:=a8.2.1;omega)) λe he=>a8.2.2 e (mC he);unfold aJO at h
  repeat' (split at h)
  all_goals first|(cases h;done)|skip
  .cases h;exact aFC h1 _
  cases h;exact aKP h1 (zD (oH _ _) h1.1) (λx hx=>mC hx)
 rw[zA k9]at h;by_cases k11:c.kind=11
 .rw[zB k11]at h;unfold hU at h
  split at h
  .cases h
  split at h;rotate_left
  .cases h
  unfold fQ at h;rcases hp:bB S (aA c.path).2 with k|⟨K1,l⟩
  .rw[hp]at h;cases h
  rw[hp]at h;simp only at h;rcases hx:S.ins[K1]? with _|x
  .rw[hx]at h;cases h
  rw[hx]at h;simp only at h;unfold kP at h;split at h
  .cases h
  rcases he:x.ents[cY x.ents l]? with _|e
  .rw[he]at h;cases h
  rw[he]at h;simp only at h;rcases hp2:bB S (aA c.path2).2 with k|⟨K2,t⟩
  .rw[hp2]at h;cases h
  rw[hp2]at h;simp only at h;split at h
  .cases h
  unfold uR at h;rcases hx2:S.ins[K2]? with _|x2
  .rw[hx2]at h;cases h
  rw[hx2]at h;simp only at h;split at h
  .cases h
  generalize eZ x2.ents t (if x.num=x2.num then l else⟨#[]⟩)=fb at h;rcases fb with _|_;rotate_left
  .cases h
  simp only[zP,if_false]at h;unfold tT at h;have a8:=a7 x (mG hx);have b1:(S.ents K1 x (aM x.ents (cY x.ents l))).wfn 300:=oI hw hx (zD (oH _ _) a8.2.1) λe he=>a8.2.2 e (mC he);rcases hy:(S.ents K1 x (aM x.ents (cY x.ents l))).ins[K2]? with _|y
  .rw[hy]at h;cases h
  rw[hy]at h;cases h;have b0:=b1.2.2.2.1 y (mG hy);have b3:=a8.2.2 e (mG he);exact oI (b1.mono (by omega)) hy (by rw[jY];have:=b0.2.1;omega) (λe' he'=>by
   rcases mB he' with rfl|he'
   .exact b3
   exact b0.2.2 e' he')
 rw[zA k11]at h;by_cases k15:c.kind=15
 .rw[zB k15]at h;rw[aHW h];exact a0
 rw[zA k15]at h;by_cases k16:c.kind=16
 .rw[zB k16]at h;cases h;exact a0
 rw[zA k16]at h;rw[aMS h];exact a0
theorem aDM (hwf:S.wf):(lX S c).1.wf:=by
 unfold lX doM;split
 .rename_i hm
  split
  .rename_i y e
   exact(aUY (S':=y.1) (r:=y.2) hwf hm e).wf (by omega)
  exact hwf
 exact hwf
end
theorem aYQ {wz:World} {q r:Nat} {c0 c1 c2 a0 a1 a2 a3 a4 a5:Value}:Keep (λg=>g=q\/g=r) wz (((((((((wz.setCell q c0).setCell ⟨q,1,none⟩ c1).setCell ⟨q,2,none⟩ c2).setCell r a0).setCell ⟨r,1,none⟩ a1).setCell ⟨r,2,none⟩ a2).setCell ⟨r,3,none⟩ a3).setCell ⟨r,4,none⟩ a4).setCell ⟨r,5,none⟩ a5):=
 ((((((((((Keep.refl (λg=>g=q\/g=r) wz).setCell (p:=q) (.inl (.inl rfl)) c0).setCell (p:=⟨q,1,none⟩) (.inl (.inl rfl)) c1).setCell (p:=⟨q,2,none⟩) (.inl (.inl rfl)) c2).setCell (p:=r) (.inl (.inr rfl)) a0).setCell (p:=⟨r,1,none⟩) (.inl (.inr rfl)) a1).setCell (p:=⟨r,2,none⟩) (.inl (.inr rfl)) a2).setCell (p:=⟨r,3,none⟩) (.inl (.inr rfl)) a3).setCell (p:=⟨r,4,none⟩) (.inl (.inr rfl)) a4).setCell (p:=⟨r,5,none⟩) (.inl (.inr rfl)) a5)
theorem bAN (Y:PSt × PRes) (S:PSt) (iv ov mv:Value) (kd core fd off nu:Int) (pt p2 dt:ByteArray) (w:World) (h:StRead w iv ov mv S)
 (hin:∀ww,Bl w ww->Calls prog 64 #[.agg #[iv,ov,mv],.agg #[kd,core,fd,off,nu,pt,p2,dt],.int .i64 (-1)] ww (DoOut ww Y)):
 Calls prog 31 #[.agg #[iv,ov,mv],.agg #[kd,core,fd,off,nu,pt,p2,dt]] w λe w'=>Bl w w'/\aDL w.heap.size Y.1 Y.2 e w':=by
 obtain⟨ai,ni,ci,ao,no,co,am,nm,cm,rfl,rfl,rfl⟩:=h.slices;clear h;obtain⟨S',code,rf,rn,rd,rs,rl⟩:=Y;go_in;go_upto_region 2 with(go_at_call 64;(with_reducible refine(hin _ (bel _ _)).mono ?_);rintro e w1 ⟨iv1,ov1,mv1,nv1,rfl,hb1,hs1,hn1⟩;obtain⟨a1,a2,a3,a4,a5,a6,a7,a8,a9,rfl,rfl,rfl⟩:=hs1.forms;obtain⟨m1,m3,rfl⟩:=hn1.formL;simp only[lM]at hn1 |-;have b1:=aC (hn1.mono (B':=w.heap.size+1+1+1+1) (by simp));obtain⟨p,rfl⟩:=hb1.rest;have H1:=aC (hs1.mono (B':=w.heap.size+1+1+1+1) (by simp));clear hs1 hb1 hn1)
 refine aD (F:=λW=>StOwn (w.heap.size+1+1+1+1) W (.slice a1 a2 a3) (.slice a4 a5 a6) (.slice a7 a8 a9) S'/\Blk W (w.heap.size+1+1+1+1+p.len) #[.slice a1 a2 a3,.slice a4 a5 a6,.slice a7 a8 a9] 26/\Blk W (w.heap.size+1+1+1+1+p.len+1) #[code,rf,rn,rd,rs,.slice m1 rl.length m3] 52/\Blk W (w.heap.size+1+1) #[.slice none 0 0,.slice none 0 0,.slice none 0 0] 26/\Blk W (w.heap.size+1+1+1) () 52/\OwnP (w.heap.size+1+1+1+1) W 9 1 (.slice m1 rl.length m3) (rl.map bT)/\Bl w W) ⟨H1.out.on (bel _ _),Blk.alloc (Blk.new_i _ _ _ _) _,Blk.new_i _ _ _ _,aB (Blk.new_i ((w.alloc (.cells #[.slice ai ni ci,.slice ao no co,.slice am nm cm] 26)).alloc (.cells #[kd,core,fd,off,nu,pt,p2,dt] 28)) #[.slice none 0 0,.slice none 0 0,.slice none 0 0] 26 (w.heap.size+1+1)) (bel _ _),aB (Blk.new_i (((w.alloc (.cells #[.slice ai ni ci,.slice ao no co,.slice am nm cm] 26)).alloc (.cells #[kd,core,fd,off,nu,pt,p2,dt] 28)).alloc (.cells #[.slice none 0 0,.slice none 0 0,.slice none 0 0] 26)) #[.int .i64 0,.int .i64 0,.int .i64 0,.bool false,.string ⟨#[]⟩,.slice none 0 0] 52 (w.heap.size+1+1+1)) (bel _ _),b1.out.below (bel _ _),bel w _⟩ ?_;clear H1 b1 hin;obtain⟨b,hbn⟩:∃b,w.heap.size+1+1+1+1+p.len=b:=⟨_,rfl⟩;have b4:w.heap.size+1+1+1+1<=b:=by omega
 rw[hbn];clear hbn;rintro W' ⟨ho,hb,hr,hN,hR,hnn,hbw⟩;have iB:=hb.lt;have iR:=hr.lt;have iN:=hN.lt;have iS:=hR.lt;have d0:=hb.cell 0;have d1:=hb.cell 1;have d2:=hb.cell 2;have g0:=hr.cell 0;have g1:=hr.cell 1;have g2:=hr.cell 2;have g3:=hr.cell 3;have g4:=hr.cell 4;have g5:=hr.cell 5;have u0:=hN.cell 0;have u1:=hN.cell 1;have u2:=hN.cell 2;have b5:=hN.frozen 0;have b6:=hN.frozen 1;have b7:=hN.frozen 2;have v0:=hR.cell 0;have v1:=hR.cell 1;have v2:=hR.cell 2;have v3:=hR.cell 3;have v4:=hR.cell 4;have v5:=hR.cell 5;have b8:=hR.frozen 0;have b9:=hR.frozen 1;have c3:=hR.frozen 2;have c4:=hR.frozen 3;have c5:=hR.frozen 4;have c6:=hR.frozen 5;simp at d0 d1 d2 g0 g1 g2 g3 g4 g5 u0 u1 u2 v0 v1 v2 v3 v4 v5;have n1:¬b=w.heap.size+1+1:=by omega
 have n2:¬b=w.heap.size+1+1+1:=by omega
 have n3:¬b+1=w.heap.size+1+1:=by omega
 have n4:¬b+1=w.heap.size+1+1+1:=by omega
 have n5:¬w.heap.size+1+1=w.heap.size+1+1+1:=by omega
 have n6:¬w.heap.size+1+1+1=w.heap.size+1+1:=by omega
 have n7:¬w.heap.size+1+1=b:=by omega
 have n8:¬w.heap.size+1+1+1=b:=by omega
 have n9:¬w.heap.size+1+1=b+1:=by omega
 have c7:¬w.heap.size+1+1+1=b+1:=by omega
 have HZ:=nV ho hN hR hbw hnn;clear ho hb hr hN hR hbw hnn;refine aH [2,3] true (λw'=>w'.cell? b=some (.slice a1 a2 a3)/\w'.cell? ⟨b,1,none⟩=some (.slice a4 a5 a6)/\w'.cell? ⟨b,2,none⟩=some (.slice a7 a8 a9)/\w'.cell? ⟨b+1,0,none⟩=some (.int .i64 code)/\w'.cell? ⟨b+1,1,none⟩=some (.int .i64 rf)/\w'.cell? ⟨b+1,2,none⟩=some (.int .i64 rn)/\w'.cell? ⟨b+1,3,none⟩=some (.bool rd)/\w'.cell? ⟨b+1,4,none⟩=some (.string rs)/\w'.cell? ⟨b+1,5,none⟩=some (.slice m1 rl.length m3)) (by kernel_rfl) (by kernel_rfl) ?_ ?_
 · (try dsimp only);(repeat' apply And.intro)<;>go_simp
 repeat
  apply aI0 rfl rfl
  focus
   rintro w' ⟨s0,s1,s2,s3,s4,s5,s6,s7,s8⟩;go_simp
   first|done|rfl
  simp only[Act.put,sA,sZ,sS]
 refine aV rfl rfl ?_;apply Exists.intro;refine⟨?_,?_,?_⟩
 focus
  go_simp
  first|done|rfl
 focus
  refine .inl ?_
  (try dsimp only);(repeat' apply And.intro)<;>go_simp
 simp only[Act.put,sA,sZ,sS];refine aV rfl rfl ?_;apply Exists.intro;refine⟨?_,?_,?_⟩
 focus
  go_simp
  first|done|rfl
 focus
  exact .inr ⟨rfl,rfl⟩
 simp only[Act.put,sA,sZ,sS];refine aS ?_;go_wp2_with fail;have hK:=aTH (wz:=W') (q:=w.heap.size+1+1) (r:=w.heap.size+1+1+1) (c0:=.slice a1 a2 a3) (c1:=.slice a4 a5 a6) (c2:=.slice a7 a8 a9) (a0:=.int .i64 code) (a1:=.int .i64 rf) (a2:=.int .i64 rn) (a3:=.bool rd) (a4:=.string rs) (a5:=.slice m1 rl.length m3);have b0:=HZ.out.1.keep hK (λg hg=>by
  rcases hg with rfl|rfl
  .exact⟨_,26,HZ.out.2.1,by decide,by decide,by decide,by decide⟩
  exact⟨_,52,HZ.out.2.2.1,by decide,by decide,by decide,by decide⟩)
 have b2:=HZ.out.2.2.2.2.keep hK (λg hg e=>by have:=HZ.out.2.2.2.2.ge hg;rcases e with e|e<;>omega);have b3:=HZ.out.2.2.2.1.trans (hK.below HZ.out.2.2.2.1.size (λi hi e=>by omega));exact xD (v:=.tuple #[.agg #[.slice a1 a2 a3,.slice a4 a5 a6,.slice a7 a8 a9],.agg #[code,rf,rn,rd,rs,.slice m1 rl.length m3]]) (by unfold results;simp only[results31];go_simp) rfl ⟨b3,_,_,_,_,rfl,b0.mono (by omega),b2.mono (by omega)⟩
theorem bAO (S:PSt) (iv ov mv:Value) (kd core fd off nu:Int) (pt p2 dt:ByteArray) (w:World) (h:StRead w iv ov mv S) (hwf:S.wf) (M:Bool) (hm:vB w 30 #[.agg #[iv,ov,mv]] (.bool M))
 (hbad:M=false\/(M=true/\core<0)\/(M=true/\¬core<0/\(S.made.length:Int)<=core)\/(M=true/\¬core<0/\¬(S.made.length:Int)<=core/\kd<0)\/(M=true/\¬core<0/\¬(S.made.length:Int)<=core/\¬kd<0/\16<kd)):
 Calls prog 64 #[.agg #[iv,ov,mv],.agg #[kd,core,fd,off,nu,pt,p2,dt],.int .i64 (-1)] w (DoOut w (S,⟨9,0,0,false,⟨#[]⟩,[]⟩)):=by
 have a6:∀ww,Bl w ww->Calls prog 91 #[.agg #[iv,ov,mv]] ww λe w'=>∃iv' ov' mv',e=.returned (.agg #[iv',ov',mv'])/\Bl ww w'/\StOwn ww.heap.size w' iv' ov' mv' S:=λww hb=>aTI S iv ov mv ww (h.below hb (zC _)) hwf;have a8:=λk ww=>bD k ww;obtain⟨am,cm,rfl⟩:∃am cm,mv=.slice am S.made.length cm:=by obtain⟨a,c,e,_⟩:=h.2.1.at_;rw[lM]at e;exact⟨a,c,e⟩
 obtain⟨ai,ni,ci,ao,no,co,am',nm',cm',rfl,rfl,-⟩:=h.slices;clear h hwf;have key:∀W,Blk W w.heap.size #[.slice ai ni ci,.slice ao no co,.slice am S.made.length cm] 26->Blk W (w.heap.size+1+1) #[.slice none 0 0,.slice none 0 0,.slice none 0 0] 26->Blk W (w.heap.size+1+1+1) () 52->Bl w W->True:=λ_ _ _ _ _=>trivial;rcases hbad with hb1|⟨hb1,hb2⟩|⟨hb1,hb2,hb3⟩|⟨hb1,hb2,hb3,hb4⟩|⟨hb1,hb2,hb3,hb4,hb5⟩
 iterate 5
  .subst hb1
   go_in;go_upto_region 2 with(go_at_call 30;with_reducible refine aE (hm _ (bel _ _)) λp=>?_)
   refine aD (F:=λW=>Blk W w.heap.size #[.slice ai ni ci,.slice ao no co,.slice am S.made.length cm] 26/\Blk W (w.heap.size+1+1) #[.slice none 0 0,.slice none 0 0,.slice none 0 0] 26/\Blk W (w.heap.size+1+1+1) () 52/\Bl w W) ⟨aB (Blk.new w #[.slice ai ni ci,.slice ao no co,.slice am S.made.length cm] 26) (bel _ _),aB (Blk.new_i ((w.alloc (.cells #[.slice ai ni ci,.slice ao no co,.slice am S.made.length cm] 26)).alloc (.cells #[kd,core,fd,off,nu,pt,p2,dt] 28)) #[.slice none 0 0,.slice none 0 0,.slice none 0 0] 26 (w.heap.size+1+1)) (bel _ _),aB (Blk.new_i (((w.alloc (.cells #[.slice ai ni ci,.slice ao no co,.slice am S.made.length cm] 26)).alloc (.cells #[kd,core,fd,off,nu,pt,p2,dt] 28)).alloc (.cells #[.slice none 0 0,.slice none 0 0,.slice none 0 0] 26)) #[.int .i64 0,.int .i64 0,.int .i64 0,.bool false,.string ⟨#[]⟩,.slice none 0 0] 52 (w.heap.size+1+1+1)) (bel _ _),bel w _⟩ ?_;rintro W ⟨hS,hN,hR,hbw⟩;have iS:=hS.lt;have iN:=hN.lt;have iR:=hR.lt;have e0:=hS.cell 0;have e1:=hS.cell 1;have e2:=hS.cell 2;have u0:=hN.cell 0;have a9:=hN.frozen 0;have u1:=hN.cell 1;have b0:=hN.frozen 1;have u2:=hN.cell 2;have c3:=hN.frozen 2;have v0:=hR.cell 0;have c4:=hR.frozen 0;have v1:=hR.cell 1;have c5:=hR.frozen 1;have v2:=hR.cell 2;have c6:=hR.frozen 2;have v3:=hR.cell 3;have c7:=hR.frozen 3;have v4:=hR.cell 4;have c8:=hR.frozen 4;have v5:=hR.cell 5;have c9:=hR.frozen 5;simp at e0 e1 e2 u0 u1 u2 v0 v1 v2 v3 v4 v5;have n5:¬w.heap.size+1+1=w.heap.size+1+1+1:=by omega
   have n6:¬w.heap.size+1+1+1=w.heap.size+1+1:=by omega
   replace a6:=λww (hw:Below W.heap.size W ww)=>a6 ww (hbw.trans (hw.mono hbw.size));have HZ:=eK hN hR hbw;clear hS hN hR hbw hm;go_wp2_with(first|(go_at_call 91;(with_reducible refine(a6 _ (bel W _)).mono ?_);rintro e w5 ⟨iv5,ov5,mv5,rfl,hb5,hs5⟩;obtain⟨b1,b2,b3,b4,b5,b6,b7,b8,b9,rfl,rfl,rfl⟩:=hs5.forms;obtain⟨p5,rfl⟩:=hb5.rest;have H5:=aC hs5;clear hb5 hs5)|(go_at_call 92;with_reducible refine aE (a8 _ _) λp6=>?_));have hK:=(aYQ (wz:=W) (q:=w.heap.size+1+1) (r:=w.heap.size+1+1+1) (c0:=.slice b1 b2 b3) (c1:=.slice b4 b5 b6) (c2:=.slice b7 b8 b9) (a0:=.int .i64 9) (a1:=.int .i64 0) (a2:=.int .i64 0) (a3:=.bool false) (a4:=.string ⟨#[]⟩) (a5:=.slice none 0 0));have a7:=HZ.out.2.2.trans (hK.below HZ.out.2.2.size (λi hi e=>by omega));refine xD (v:=.tuple #[.agg #[.slice b1 b2 b3,.slice b4 b5 b6,.slice b7 b8 b9],aQ 9 0 0,true]) (by unfold results;simp only[results64,aQ];go_simp) rfl (DoOut.of (l:=[]) (a7.trans ((bel _ _).mono a7.size)) ?_ (.inl ⟨rfl,rfl⟩))
   first
    |exact(H5.out.above _).mono HZ.out.2.2.size
    |exact((H5.out.on (show Below (W.junk p5).heap.size (W.junk p5) (W.junk (p5.more p6)) by rw[<-World.junk_junk];exact bel _ _)).above _).mono HZ.out.2.2.size
section
variable {S:PSt}
theorem tN (hr:Rise S.nums):∀(es:List PEnt) (prev:Option ByteArray) (sl:List Int),eY S.nums prev sl es=true->gU S prev sl es=true
 |[],_,_,_=>rfl
 | e ::r,prev,sl,h=>by
   unfold eY at h;unfold gU;split at h
   .cases h
   rename_i h1;split at h
   .cases h
   rename_i h2;split at h
   .cases h
   rename_i h3;split at h
   .cases h
   rename_i h4;have c:¬(bI e.name !=0)=true:=by
    have:dM e.name=true:=by simpa using h1
    unfold dM at this;rw[sC];rw[beq_iff_eq]at this;rw[this];decide
   have p:gY prev e.name=kE prev e.name:=by
    unfold gY kE;cases prev with
    |none=>rfl
    |some q=>simp only[oW]
   rw[p]at h2;rw[bE hr]at h4;rw[zA c,zA h2,zA h3,zA h4,nB];rcases hs:sl[(aU e.name).toNat]? with _|x
   .rw[hs]at h;cases h
   rw[hs]at h;simp only at h |-;split at h
   .cases h
   rename_i h5;rw[zA h5];exact tN hr r _ _ h
theorem tO (hr:Rise S.nums):∀(ds:List PDesc) (o:Option PDesc),fJ S o ds=true->pH S o ds=true
 |[],_,_=>rfl
 | d ::r,o,h=>by
   unfold fJ at h;unfold pH;split at h
   .cases h
   rename_i a1;split at h
   .cases h
   rename_i a2;split at h
   .cases h
   rename_i a3;split at h
   .cases h
   rename_i a4;split at h
   .cases h
   rename_i h2;split at h
   .cases h
   rename_i a5;have p:kB o d=pG o d:=by
    unfold kB pG;cases o with
    |none=>rfl
    |some q=>simp only;congr 2
   rw[p]at h2;rw[bE hr]at h a5;split at h
   .rename_i x hx
    split at h
    .cases h
    rename_i a6;have hb:¬aTW S d=true:=by unfold aTW aCU;rw[hx];simp only[yI,zI,not_or];exact⟨a1,a2,a3,a4,a5,a6⟩
    rw[zA hb,zA h2];exact tO hr r _ h
   cases h
theorem wQ (ns:List Int) (C:Nat->Prop):∀(es:List PEnt) (td:List Nat) (fd:List Bool),(∀e∈es,C (aJ ns e.num).toNat)->(∀j∈td,C j)->(∀j,fd.getD j false=true->C j)->(∀j∈(cZ ns (td,fd) es).1,C j)/\∀j,(cZ ns (td,fd) es).2.getD j false=true->C j
 |[],td,fd,_,h1,h2=>⟨h1,h2⟩
 | e ::r,td,fd,he,h1,h2=>by
   have a0:cZ ns (td,fd) (e::r)=cZ ns (mX ns (td,fd) e) r:=rfl;rw[a0];have hc:=he e zQ;have hr:=λe' h'=>he e' (zL _ h');unfold mX;split
   .exact wQ ns C r td fd hr h1 h2
   refine wQ ns C r _ _ hr (λj hj=>?_) (λj hj=>?_)
   .rcases mem_append.1 hj with h|h
    .exact h1 j h
    rw[mem_singleton.1 h];exact hc
   by_cases e2:(aJ ns e.num).toNat=j
   .rw[<-e2];exact hc
   rw[zG,zX e2,<-zG]at hj;exact h2 j hj
theorem aIS {C:Nat->Prop} (hC:qY S C):∀(b:Nat) (td:List Nat) (fd:List Bool),(∀j∈td,C j)->(∀j,fd.getD j false=true->C j)->∀j,(bfs S.nums S.ins b td fd).getD j false=true->C j
 |0,_,_,_,h,j,hj=>h j hj
 |_+1,[],_,_,h,j,hj=>h j hj
 | b+1,k::td,fd,h1,h2,j,hj=>by
   have hk:=h1 k zQ;have a0:∀e∈(match S.ins[k]? with|some x=>x.ents|none=>[]),C (aJ S.nums e.num).toNat:=by
    rcases hx:S.ins[k]? with _|x
    .intro e he;cases he
    exact λe he=>hC k x hk hx e he
   obtain⟨a,b'⟩:=wQ S.nums C _ td fd a0 (λj hj=>h1 j (zL _ hj)) h2;exact aIS hC b _ _ a b' j hj
theorem fM (hr:Rise S.nums) (hfile:∀x∈S.ins,x.dir=false->x.ents=[]) (hfound:∀x∈S.ins,∀e∈x.ents,0<=bM S e.num):∀(g:Nat) (st:List Int) (fd:List Bool),fd.length=S.ins.length->st.length+nU S.ins fd<=g->
 (∀k x,fd.getD k false=true->S.ins[k]? =some x->∀e∈x.ents,fd.getD (bM S e.num).toNat false=true\/e.num∈st)->
 (∀j,fd.getD j false=true->(fT S g st fd).getD j false=true)/\(∀n∈st,0<=bM S n->(fT S g st fd).getD (bM S n).toNat false=true)/\qY S λk=>(fT S g st fd).getD k false=true
 | 0,st,fd,hl,hg,hi=>by
   have:st=[]:=zT (by omega);subst this;refine⟨λ_ h=>h,λn hn=>(by cases hn),λk x hk hx e he=>?_⟩;rcases hi k x hk hx e he with h|h
   .rw[bE hr];exact h
   cases h
 | g+1,[],fd,hl,hg,hi=>by
   refine⟨λ_ h=>h,λn hn=>(by cases hn),λk x hk hx e he=>?_⟩;rcases hi k x hk hx e he with h|h
   .rw[bE hr];exact h
   cases h
 | g + 1, n::st,fd,hl,hg,hi=>by
   simp only[zK]at hg;unfold fT;split
   .rename_i ha
    obtain⟨b1,b2,b3⟩:=fM hr hfile hfound g st fd hl (by omega) (λk x hk hx e he=>by
     rcases hi k x hk hx e he with h|h
     .exact .inl h
     rcases mem_cons.1 h with h|h
     .have:=hfound x (mG hx) e he;rw[h]at this;omega
     exact .inr h)
    refine⟨b1,λm hm h0=>?_,b3⟩;rcases mem_cons.1 hm with rfl|hm
    .omega
    exact b2 m hm h0
   rename_i ha;obtain⟨k0,x0,hx0,hk0⟩:∃k x,S.ins[k]? =some x/\bM S n=(k:Nat):=by
    rcases fW S n with⟨k,x,hk,e⟩|⟨_,e⟩
    .exact⟨k,x,hk,by rw[<-e];exact cP hr hk⟩
    omega
   obtain⟨hk0l,_⟩:=gI.1 hx0;rw[hk0,zJ];have a1:fd.getD k0 true=fd.getD k0 false:=by rw[zG,zG,gE (by omega)];rfl
   rw[a1];split
   .rename_i hb
    obtain⟨b1,b2,b3⟩:=fM hr hfile hfound g st fd hl (by omega) (λk x hk hx e he=>by
     rcases hi k x hk hx e he with h|h
     .exact .inl h
     rcases mem_cons.1 h with h|h
     .left;rw[h,hk0,zJ];exact hb
     exact .inr h)
    refine⟨b1,λm hm h0=>?_,b3⟩;rcases mem_cons.1 hm with rfl|hm
    .rw[hk0,zJ];exact b1 k0 hb
    exact b2 m hm h0
   rename_i hb;rw[hx0];simp only;have a2:fd[k0]? =some false:=by rw[gE (by omega)];rw[zG,gE (by omega)]at hb;simpa using hb
   have a3:=xS S.ins fd k0 x0 hx0 a2;have a0:(fd.set k0 true).getD k0 false=true:=by rw[zG,zY (by omega)];rfl
   have a4:(kF x0).length<=x0.ents.length:=by
    unfold kF;split<;>simp
   obtain⟨b1,b2,b3⟩:=fM hr hfile hfound g ((kF x0).reverse++st) (fd.set k0 true) (by simpa using hl) (by simp only[lP,length_reverse];omega) (λk x hk hx e he=>by
    by_cases e0:k0=k
    .subst e0;rw[hx0]at hx;cases hx;right;refine mem_append_left _ (mem_reverse.2 ?_);unfold kF;cases hd:x0.dir with
     |true=>exact mem_map.2 ⟨e,he,rfl⟩
     |false=>rw[hfile x0 (mG hx0) hd]at he;cases he
    rw[zG,zX e0,<-zG]at hk;rcases hi k x hk hx e he with h|h
    .exact .inl (getD_set_true h)
    rcases mem_cons.1 h with h|h
    .left;rw[h,hk0,zJ];exact a0
    exact .inr (mem_append_right _ h))
   refine⟨λj hj=>b1 j (getD_set_true hj),λm hm h0=>?_,b3⟩;rcases mem_cons.1 hm with rfl|hm
   .rw[hk0,zJ];exact b1 k0 a0
   exact b2 m (mem_append_right _ hm) h0
theorem wR {many:List Int} {found:List Bool} {op:List PDesc}:∀(xs:List PIn) (i j:Nat) (x:PIn),eE many found op i xs=true->xs[j]? =some x->i+j≠0->(x.dir=true->many.getD (i+j) 0=1/\found.getD (i+j) false=true)/\(x.dir=false->found.getD (i+j) false=true\/mR op x.num=true)
 |[],_,_,_,_,hx,_=>by simp at hx
 | y ::r,i,0,x,h,hx,h0=>by
   simp at hx;subst hx;unfold eE at h;rw[zA (by omega)]at h;split at h
   .cases h
   rename_i h1;split at h
   .cases h
   rename_i h2;refine⟨λhd=>?_,λhd=>?_⟩
   .rw[hd]at h1;simpa using h1
   rw[hd]at h2;cases hf:found.getD i false with
   |true=>exact .inl (by simp)
   | false=>right;rw[hf]at h2;simp at h2;exact h2.2
 | y :: r,i,j+1,x,h,hx,h0=>by
   have hr:eE many found op (i+1) r=true:=by
    unfold eE at h;split at h
    .exact h
    split at h
    .cases h
    split at h
    .cases h
    exact h
   have:=wR r (i+1) j x hr (by simpa using hx) (by omega);rw[show i+(j+1)=i+1+j by omega];exact this
theorem aNU (hwf:S.wf) (hm:cS S=true):lG S=true:=by
 have M:=pX hwf hm;have hr:=M.tree.rise;obtain⟨x0,h0,h01,h0d⟩:=M.head;have a3:∀x∈S.ins,∀e∈x.ents,0<=aJ S.nums e.num/\aJ S.nums e.num<S.ins.length:=λx hx e he=>by rw[bE hr];exact M.tree.found x hx e he
 have b0:dG S.ins<9000000000000000000:=by
  have key:∀(xs:List PIn),(∀x∈xs,x.ents.length<=1000000000)->dG xs<=xs.length*1000000000:=by
   intro xs
   induction xs with
   |nil=>intro _;simp[dG]
   | cons x r ih=>intro hx;have h1:=ih λy hy=>hx y (zL _ hy);have h2:=hx x zQ;simp only[dG,xB,sum_cons,zK]at h1 |-;omega
  have:=key S.ins λx hx=>(hwf.2.2.2.1 x hx).2.1;have:=M.tree.small;omega
 have a4:∀{q:Nat} {x:PIn},S.ins[q]? =some x->(fB S).getD q 0=bX S x.num:=fun{q x} hq=>by
  unfold fB bX;have h0:(List.replicate S.ins.length (0:Int)).getD q 0=0:=by
   rw[zG,yQ];split<;>rfl
  have:=oX hr (cC hq) S.ins (List.replicate S.ins.length 0) (by simp[PSt.nums]) (λx hx e he=>(a3 x hx e he).1) M.file (by rw[h0];omega) (by rw[h0];omega);rw[this,h0]
 have a8:∀k,(List.replicate S.ins.length false).getD k false=true->False:=λk hk=>by
  rw[zG,yQ]at hk;split at hk<;>cases hk
 obtain⟨r1,r2,r3⟩:=fM hr M.file (λx hx e he=>(M.tree.found x hx e he).1) (1+nU S.ins (List.replicate S.ins.length false)) [1] (List.replicate S.ins.length false) (by simp) (by simp) (λk x hk=>absurd hk (a8 k));have a0:(eS S).getD 0 false=true:=by have:=r2 1 (by simp) (by rw[M.root];omega);rw[M.root]at this;exact this
 have a9:∀k,(eG S).getD k false=true->(eS S).getD k false=true:=aIS (C:=λk=>(eS S).getD k false=true) r3 _ _ _ (λj hj=>by rw[mem_singleton.1 hj];exact a0) (λj hj=>by
  by_cases e:0=j
  .rw[<-e];exact a0
  rw[zG,zX e,<-zG]at hj;exact(a8 j hj).elim)
 unfold cS at hm;split at hm;rotate_left
 .cases hm
 rename_i h1;simp only[zE]at h1;obtain⟨⟨hmade,hins⟩,hop⟩:=h1;unfold dP at hmade;simp only[zE,yL,yV,yW,any_eq_false]at hmade;obtain⟨⟨hm1,hm2⟩,hm3⟩:=hmade;have a5:S.ins.all (inB S.nums)=true:=by
  unfold dR at hins;split at hins
  .cases hins
  split at hins
  .split at hins
   .rw[zE]at hins;exact hins.2
   cases hins
  cases hins
 rw[yY]at a5;unfold lG;have b3:=M.tree.pos;have b5:=M.tree.small;rw[zE,zE,zE,zE];refine⟨by rw[zI];omega,?_,tO hr S.op none hop,?_,?_⟩
 .rw[h0];simp only[h01,h0d];rfl
 .rw[yY];intro m hmm;rw[zI];exact M.made m hmm
 unfold aFS;rw[yY];intro q hq;have b4:q<S.ins.length:=mem_range.1 hq;have hx:S.ins[q]? =some S.ins[q]:=gE b4;rw[hx];simp only;generalize S.ins[q]=x at hx;have a6:=mG hx;have a7:=a5 x a6;unfold inR;rw[zE,zE,zE,zE];refine⟨?_,by rw[zI];exact M.tree.data x a6,?_,?_,?_⟩
 .rcases Nat.eq_zero_or_pos q with e|e
  .rw[e];rfl
  rw[yI,zE,zI];right;constructor
  .have hy:S.ins[q-1]? =some S.ins[q-1]:=gE (by omega);unfold gK;rw[hy];exact hr (q-1) q _ _ (cC hy) (cC hx) (by omega)
  exact M.nums q x hx e
 .cases hd:x.dir with
  |true=>simp only[if_true];rw[beq_iff_eq];exact M.bare x a6 hd
  |false=>simp only[zP,if_false];rw[M.file x a6 hd];rfl
 .cases hd:x.dir with
  | true=>unfold inB at a7;rw[zB hd,zE]at a7;exact tN hr _ _ _ a7.2
  |false=>rw[M.file x a6 hd];rfl
 rcases Nat.eq_zero_or_pos q with e|e
 .cases hd:x.dir with
  |true=>rw[e];rfl
  | false=>exfalso;rw[e,h0]at hx;cases hx;rw[hd]at h0d;cases h0d
 obtain⟨a1,a2⟩:=wR S.ins 0 q x hm hx (by omega);rw[zM]at a1 a2;cases hd:x.dir with
 | true=>obtain⟨b1,b2⟩:=a1 hd;rw[a4 hx]at b1;simp only[if_true];rw[b1,a9 q b2];simp
 | false=>
   simp only[zP,if_false];rw[yI];rcases a2 hd with h|h
   .exact .inl (a9 q h)
   exact .inr h
theorem aSI (hwf:S.wf):lG S=cS S:=by rw[Bool.eq_iff_iff];exact⟨aNP hwf,aNU hwf⟩
end
section
inductive Reach (S:PSt):Int->Prop
 |root:Reach S 1
 |step {x:PIn} {e:PEnt}:Reach S x.num->x∈S.ins->e∈x.ents->Reach S e.num
structure MayQ (S:PSt):Prop where
 wf:S.wf
 rise:Rise S.nums
 head:∃x0,S.ins[0]? =some x0/\x0.num=1/\x0.dir=true
 core:1<=S.made.length/\S.made.length<=8
 made:∀m∈S.made,0<=m/\m<=32
 nums:∀x∈S.ins,x.num≠1->dH S.made x.num=true
 data:∀x∈S.ins,x.data.size<=256
 file:∀x∈S.ins,x.dir=false->x.ents=[]
 bare:∀x∈S.ins,x.dir=true->x.data.size=0
 ents:∀x∈S.ins,eY S.nums none [0,0,0,0,0,0,0,0] x.ents=true
 descs:fJ S none S.op=true
 tree:∀x∈S.ins,x.num≠1->(x.dir=true->bX S x.num=1/\Reach S x.num)/\(x.dir=false->Reach S x.num\/mR S.op x.num=true)
section
variable {S:PSt}
theorem MayQ.len (h:MayQ S):0<S.ins.length/\S.ins.length<=257:=by
 obtain⟨x0,h0,h1,-⟩:=h.head;obtain⟨hl,-⟩:=gI.1 h0;refine⟨hl,?_⟩;by_cases e:S.ins.length=1
 .omega
 have hy:S.ins[S.ins.length-1]? =some S.ins[S.ins.length-1]:=gE (by omega);have h2:=vI h.rise _ _ _ (cC h0) (cC hy);have h3:=aBY (h.nums _ (mG hy) (by omega)) h.core.2 (λm hm=>(h.made m hm).2);omega
theorem MayQ.found (h:MayQ S):∀x∈S.ins,∀e∈x.ents,0<=bM S e.num/\bM S e.num<S.ins.length:=λx hx e he=>by have h1:=nJ _ _ _ _ (h.ents x hx) e he;rw[bE h.rise]at h1;have:=fC S e.num;omega
theorem MayQ.may (h:MayQ S):cS S=true:=by
 rw[<-aSI h.wf];have hr:=h.rise;have a9:=h.wf;obtain⟨x0,h0,h01,h0d⟩:=h.head;have a0:bM S 1=0:=by have:=cP hr h0;rw[h01]at this;exact this
 obtain⟨hpos,hsm⟩:=h.len;have a7:∀k,(List.replicate S.ins.length false).getD k false=true->False:=λk hk=>by
  rw[zG,yQ]at hk;split at hk<;>cases hk
 obtain⟨r1,r2,r3⟩:=fM hr h.file (λx hx e he=>(h.found x hx e he).1) (1+nU S.ins (List.replicate S.ins.length false)) [1] (List.replicate S.ins.length false) (by simp) (by simp) (λk x hk=>absurd hk (a7 k));have a4:(eS S).getD 0 false=true:=by have:=r2 1 (by simp) (by rw[a0];omega);rw[a0]at this;exact this
 have a6:∀n,Reach S n->∀k x,S.ins[k]? =some x->x.num=n->(eS S).getD k false=true:=by
  intro n hn
  induction hn with
  | root=>
    intro k x hx hxn;have:=cP hr hx;rw[hxn,a0]at this;have:k=0:=by omega
    subst this;exact a4
  | @step y e hy hym hem ih=>intro k x hx hxn;obtain⟨i,hi⟩:=getElem?_of_mem hym;have h1:=r3 i y (ih i y hi rfl) hi e hem;have h2:=cP hr hx;rw[bE hr,<-hxn,h2]at h1;exact h1
 unfold lG;rw[zE,zE,zE,zE];refine⟨by rw[zI];have:=h.core;omega,?_,tO hr S.op none h.descs,?_,?_⟩
 .rw[h0];simp only[h01,h0d];rfl
 .rw[yY];intro m hmm;rw[zI];exact h.made m hmm
 unfold aFS;rw[yY];intro q hq;have a8:q<S.ins.length:=mem_range.1 hq;have hx:S.ins[q]? =some S.ins[q]:=gE a8;rw[hx];simp only;generalize S.ins[q]=x at hx;have a3:=mG hx;unfold inR;rw[zE,zE,zE,zE];refine⟨?_,by rw[zI];exact h.data x a3,?_,?_,?_⟩
 .rcases Nat.eq_zero_or_pos q with e|e
  .rw[e];rfl
  rw[yI,zE,zI];right;have a5:x.num≠1:=λe1=>by have:=cP hr hx;rw[e1,a0]at this;omega
  constructor
  .have hy:S.ins[q-1]? =some S.ins[q-1]:=gE (by omega);unfold gK;rw[hy];exact hr (q-1) q _ _ (cC hy) (cC hx) (by omega)
  exact h.nums x a3 a5
 .cases hd:x.dir with
  |true=>simp only[if_true];rw[beq_iff_eq];exact h.bare x a3 hd
  |false=>simp only[zP,if_false];rw[h.file x a3 hd];rfl
 .exact tN hr _ _ _ (h.ents x a3)
 rcases Nat.eq_zero_or_pos q with e|e
 .cases hd:x.dir with
  |true=>rw[e];rfl
  | false=>exfalso;rw[e,h0]at hx;cases hx;rw[hd]at h0d;cases h0d
 have a5:x.num≠1:=λe1=>by have:=cP hr hx;rw[e1,a0]at this;omega
 obtain⟨a1,a2⟩:=h.tree x a3 a5;cases hd:x.dir with
 | true=>obtain⟨b1,b2⟩:=a1 hd;simp only[if_true];rw[b1,a6 _ b2 q x hx rfl];simp
 | false=>
   simp only[zP,if_false];rw[yI];rcases a2 hd with h|h
   .exact .inl (a6 _ h q x hx rfl)
   exact .inr h
theorem aVS (hwf:S.wf) (hm:cS S=true):MayQ S:=by
 have M:=pX hwf hm;have hr:=M.tree.rise;obtain⟨x0,h0,h01,h0d⟩:=M.head;have a0:∀x∈S.ins,∀e∈x.ents,0<=aJ S.nums e.num/\aJ S.nums e.num<S.ins.length:=λx hx e he=>by rw[bE hr];exact M.tree.found x hx e he
 have a8:dG S.ins<9000000000000000000:=by
  have key:∀(xs:List PIn),(∀x∈xs,x.ents.length<=1000000000)->dG xs<=xs.length*1000000000:=by
   intro xs
   induction xs with
   |nil=>intro _;simp[dG]
   | cons x r ih=>intro hx;have h1:=ih λy hy=>hx y (zL _ hy);have h2:=hx x zQ;simp only[dG,xB,sum_cons,zK]at h1 |-;omega
  have:=key S.ins λx hx=>(hwf.2.2.2.1 x hx).2.1;have:=M.tree.small;omega
 have a3:∀{q:Nat} {x:PIn},S.ins[q]? =some x->(fB S).getD q 0=bX S x.num:=fun{q x} hq=>by
  unfold fB bX;have h0:(List.replicate S.ins.length (0:Int)).getD q 0=0:=by
   rw[zG,yQ];split<;>rfl
  have:=oX hr (cC hq) S.ins (List.replicate S.ins.length 0) (by simp[PSt.nums]) (λx hx e he=>(a0 x hx e he).1) M.file (by rw[h0];omega) (by rw[h0];omega);rw[this,h0]
 have a9:∀k,(List.replicate S.ins.length false).getD k false=true->False:=λk hk=>by
  rw[zG,yQ]at hk;split at hk<;>cases hk
 have hC:qY S λk=>∀x,S.ins[k]? =some x->Reach S x.num:=by intro k x hk hx e he y hy;obtain⟨f1,f2⟩:=M.tree.found x (mG hx) e he;rw[bE hr]at hy;have hn:=M.num (n:=e.num) (k:=(bM S e.num).toNat) (by omega) hy;rw[hn];exact .step (hk x hx) (mG hx) he
 have a6:∀x,S.ins[0]? =some x->Reach S x.num:=λx hx=>by rw[h0]at hx;cases hx;rw[h01];exact .root
 have a7:∀k,(eG S).getD k false=true->∀x,S.ins[k]? =some x->Reach S x.num:=aIS (C:=λk=>∀x,S.ins[k]? =some x->Reach S x.num) hC _ _ _ (λj hj=>by rw[mem_singleton.1 hj];exact a6) (λj hj=>by
  by_cases e:0=j
  .rw[<-e];exact a6
  rw[zG,zX e,<-zG]at hj;exact(a9 j hj).elim)
 unfold cS at hm;split at hm;rotate_left
 .cases hm
 rename_i h1;simp only[zE]at h1;obtain⟨⟨hmade,hins⟩,hop⟩:=h1;unfold dP at hmade;simp only[zE,yL,yV,yW,any_eq_false]at hmade;obtain⟨⟨hm1,hm2⟩,hm3⟩:=hmade;have a4:S.ins.all (inB S.nums)=true:=by
  unfold dR at hins;split at hins
  .cases hins
  split at hins
  .split at hins
   .rw[zE]at hins;exact hins.2
   cases hins
  cases hins
 rw[yY]at a4;refine⟨hwf,hr,⟨x0,h0,h01,h0d⟩,by omega,M.made,λx hx hne=>?_,M.tree.data,M.file,M.bare,λx hx=>?_,hop,λx hx hne=>?_⟩
 .obtain⟨q,hq⟩:=getElem?_of_mem hx;have b0:q≠0:=λe=>by
   rw[e,h0]at hq;cases hq;exact hne h01
  exact M.nums q x hq (by omega)
 .cases hd:x.dir with
  | true=>have a5:=a4 x hx;unfold inB at a5;rw[zB hd,zE]at a5;exact a5.2
  |false=>rw[M.file x hx hd];rfl
 obtain⟨q,hq⟩:=getElem?_of_mem hx;have b0:q≠0:=λe=>by rw[e,h0]at hq;cases hq;exact hne h01
 obtain⟨a1,a2⟩:=wR S.ins 0 q x hm hq (by omega);rw[zM]at a1 a2;refine⟨λhd=>?_,λhd=>?_⟩
 .obtain⟨b1,b2⟩:=a1 hd;rw[a3 hq]at b1;exact⟨b1,a7 q b2 x hq⟩
 rcases a2 hd with h|h
 .exact .inl (a7 q h x hq)
 exact .inr h
end
end
end Go.Proofs.YtmkapobnfigedaaGreatDoor
